/- Plain: pieces, a line, lines and how a text is parsed as lines, by the program's road and by the document's. No program. Contracts of both prices of any text, of the document's pieces, of its two and  -/
import Derived.Test.YtpdedfpacklnoaaGreatDoorRtMP
import Derived.Test.YtpdedfpacklnoaaGreatDoorRtMI
import Derived.Lib.AtoiTie
import Derived.Test.YtpdedfpacklnoaaGreatDoorRtMC
import Derived.Test.YtpdedfpacklnoaaGreatDoorRtMH
import Derived.Test.YtpdedfpacklnoaaGreatDoorRtMU
import Derived.Deep.RegionHeld
import Derived.Deep.CutRange
namespace Go.Proofs.YtpdedfpacklnoaaGreatDoor
open Go.Ct Go.Wr Go.Fl

/-! Numerals. -/
theorem from_snoc (c : UInt8) : ∀ (l : List UInt8) (acc : Nat), Lib.decFrom acc (l ++ [c]) = (Lib.decFrom acc l).bind fun n => (Lib.digitVal c).map fun d => n * 10 + d
 | [], acc => by
  show (match Lib.digitVal c with | some d => Lib.decFrom (acc * 10 + d) [] | none => none) = _
  cases Lib.digitVal c <;> rfl
 | b :: r, acc => by
  show (match Lib.digitVal b with | some d => Lib.decFrom (acc * 10 + d) (r ++ [c]) | none => none) = (match Lib.digitVal b with | some d => Lib.decFrom (acc * 10 + d) r | none => none).bind _
  cases Lib.digitVal b with
  | none => rfl
  | some d => exact from_snoc c r _
theorem dig_of {d : Nat} (h : d < 10) : Lib.digitVal (UInt8.ofNat (48 + d)) = some d := by
 unfold Lib.digitVal
 rw [show (UInt8.ofNat (48 + d)).toNat = 48 + d by simp; omega, if_pos (by omega)]
 congr 1
 omega
theorem dig_to {c : UInt8} {d : Nat} (h : Lib.digitVal c = some d) : d < 10 ∧ c = UInt8.ofNat (48 + d) ∧ c.toNat = 48 + d := by
 unfold Lib.digitVal at h
 split at h
 ·injection h with h
  have e : c.toNat = 48 + d := by omega
  refine ⟨by omega, ?_, e⟩
  rw [← e]
  simp
 ·cases h
theorem dd_small {u : Nat} (h : u < 10) : Lib.decDigits u = [UInt8.ofNat (48 + u)] := Lib.decDigits_one h
theorem dd_big {u : Nat} (h : ¬ u < 10) : Lib.decDigits u = Lib.decDigits (u / 10) ++ [UInt8.ofNat (48 + u % 10)] := by
 conv => lhs; rw [Lib.decDigits, dif_neg h]
theorem from_dd (u : Nat) : Lib.decFrom 0 (Lib.decDigits u) = some u := by
 induction u using Nat.strongRecOn with
 | ind u ih =>
  by_cases h : u < 10
  ·rw [dd_small h]
   show (match Lib.digitVal _ with | some d => Lib.decFrom (0 * 10 + d) [] | none => none) = _
   rw [dig_of h]
   show some (0 * 10 + u) = some u
   congr 1
   omega
  ·rw [dd_big h, from_snoc, ih (u / 10) (by omega), dig_of (Nat.mod_lt _ (by decide))]
   show some (u / 10 * 10 + u % 10) = some u
   congr 1
   omega
theorem dd_head (u : Nat) (h0 : 1 ≤ u) : (Lib.decDigits u).head? ≠ some 48 ∧ Lib.decDigits u ≠ [] := by
 induction u using Nat.strongRecOn with
 | ind u ih =>
  by_cases h : u < 10
  ·rw [dd_small h]
   refine ⟨fun e => ?_, by simp⟩
   simp only [List.head?_cons, Option.some.injEq] at e
   have := congrArg UInt8.toNat e
   rw [show (UInt8.ofNat (48 + u)).toNat = 48 + u by simp; omega] at this
   have h48 : (48 : UInt8).toNat = 48 := rfl
   omega
  ·rw [dd_big h]
   obtain ⟨h1, h2⟩ := ih (u / 10) (by omega) (by omega)
   refine ⟨?_, by simp⟩
   rw [List.head?_append]
   cases hd : (Lib.decDigits (u / 10)).head? with
   | none => exact absurd (List.head?_eq_none_iff.1 hd) h2
   | some x => rw [hd] at h1; exact h1
theorem dd_dig (u : Nat) : ∀ c ∈ Lib.decDigits u, 48 ≤ c.toNat ∧ c.toNat ≤ 57 := by
 induction u using Nat.strongRecOn with
 | ind u ih =>
  by_cases h : u < 10
  ·rw [dd_small h]
   intro c hc
   simp only [List.mem_singleton] at hc
   subst hc
   rw [show (UInt8.ofNat (48 + u)).toNat = 48 + u by simp; omega]
   omega
  ·rw [dd_big h]
   intro c hc
   rcases List.mem_append.1 hc with hc | hc
   ·exact ih _ (by omega) c hc
   ·simp only [List.mem_singleton] at hc
    subst hc
    rw [show (UInt8.ofNat (48 + u % 10)).toNat = 48 + u % 10 by simp; omega]
    omega
theorem dd_len : ∀ (k u : Nat), u < 10 ^ (k + 1) → (Lib.decDigits u).length ≤ k + 1
 | k, u, h => by
  by_cases hs : u < 10
  ·rw [dd_small hs]; simp
  ·cases k with
   | zero => omega
   | succ k =>
    rw [dd_big hs, List.length_append, List.length_singleton]
    have := dd_len k (u / 10) (by rw [Nat.pow_succ] at h; omega)
    omega
theorem dd_back (l : List UInt8) : ∀ n, l ≠ [] → l.head? ≠ some 48 → Lib.decFrom 0 l = some n → Lib.decDigits n = l ∧ 1 ≤ n := by
 induction hk : l.length using Nat.strongRecOn generalizing l with
 | ind k ih =>
  intro n h0 h1 h2
  rcases List.eq_nil_or_concat l with rfl | ⟨a, c, rfl⟩
  ·exact absurd rfl h0
  ·rw [List.concat_eq_append] at hk h0 h1 h2 ⊢
   rw [from_snoc] at h2
   by_cases ha : a = []
   ·subst ha
    rw [show Lib.decFrom 0 [] = some 0 from rfl] at h2
    cases hd : Lib.digitVal c with
    | none => rw [hd] at h2; cases h2
    | some d =>
     rw [hd] at h2
     obtain ⟨d1, d2, d3⟩ := dig_to hd
     have e : n = d := by
      have : some (0 * 10 + d) = some n := h2
      injection this with this; omega
     subst e
     refine ⟨by rw [dd_small d1, d2]; rfl, ?_⟩
     rcases Nat.eq_zero_or_pos n with h | h
     ·subst h
      exact absurd (by rw [d2]; rfl) h1
     ·exact h
   ·cases hm : Lib.decFrom 0 a with
    | none => rw [hm] at h2; cases h2
    | some m =>
     rw [hm] at h2
     cases hd : Lib.digitVal c with
     | none => rw [hd] at h2; cases h2
     | some d =>
      rw [hd] at h2
      obtain ⟨d1, d2, d3⟩ := dig_to hd
      have e : n = m * 10 + d := by
       have : some (m * 10 + d) = some n := h2
       injection this with this; omega
      have hh : a.head? ≠ some 48 := by
       intro h; apply h1
       rw [List.head?_append, h]; rfl
      obtain ⟨i1, i2⟩ := ih a.length (by rw [← hk]; simp) a rfl m ha hh hm
      have hn : ¬ n < 10 := by omega
      refine ⟨?_, by omega⟩
      rw [dd_big hn, show n / 10 = m by omega, show n % 10 = d by omega, i1, ← d2]
/-! Pieces, by the document. -/
def piecesD (s : List UInt8) : Option Nat := match Lib.decFrom 0 s with
 | some n => if s ≠ [] ∧ s.head? ≠ some 48 ∧ s.length ≤ 7 ∧ n ≤ 1000000 then some n else none
 | none => none
theorem pieces_iff {s : List UInt8} {k : Nat} : piecesL s = some k ↔ 1 ≤ k ∧ k ≤ 1000000 ∧ Lib.decDigits k = s := by
 constructor
 ·intro h
  unfold piecesL at h
  cases ha : Lib.atoiAll s with
  | ok n =>
   rw [ha] at h
   dsimp only at h
   split at h
   ·rename_i hc
    injection h with h
    obtain ⟨h1, h2, h3⟩ := hc
    subst h
    refine ⟨by omega, by omega, ?_⟩
    rw [← h3]
    unfold Lib.itoa
    rw [if_neg (by omega)]
   ·cases h
  | _ => rw [ha] at h; cases h
 ·rintro ⟨h1, h2, h3⟩
  have hl : s.length ≤ 7 := by rw [← h3]; exact dd_len 6 k (by omega)
  have hd : Lib.decFrom 0 s = some k := by rw [← h3]; exact from_dd k
  have hne : s ≠ [] := by rw [← h3]; exact (dd_head k h1).2
  have hdig : ∀ c ∈ s, 48 ≤ c.toNat ∧ c.toNat ≤ 57 := by rw [← h3]; exact dd_dig k
  have hp : Lib.parseUint10 0 s = .ok k := by
   rw [Lib.parseUint10_short s 0 0 (by decide) (by omega), hd]; rfl
  have ha : Lib.atoiAll s = .ok (k : Int) := by
   cases s with
   | nil => exact absurd rfl hne
   | cons c r =>
    have hc := hdig c (by simp)
    unfold Lib.atoiAll
    dsimp only
    rw [if_neg (by omega)]
    unfold Lib.parseMag
    rw [if_neg (by simp), hp]
    dsimp only
    rw [if_neg (by omega), if_neg (by omega), if_neg (by omega)]
  unfold piecesL
  rw [ha]
  dsimp only
  rw [if_pos ⟨by omega, by omega, by unfold Lib.itoa; rw [if_neg (by omega)]; exact h3⟩]
  rfl
theorem piecesD_iff {s : List UInt8} {k : Nat} : piecesD s = some k ↔ 1 ≤ k ∧ k ≤ 1000000 ∧ Lib.decDigits k = s := by
 constructor
 ·intro h
  unfold piecesD at h
  split at h
  ·rename_i n hd
   split at h
   ·rename_i hc
    injection h with h
    subst h
    obtain ⟨h1, h2⟩ := dd_back s n hc.1 hc.2.1 hd
    exact ⟨h2, hc.2.2.2, h1⟩
   ·cases h
  ·cases h
 ·rintro ⟨h1, h2, h3⟩
  have hd : Lib.decFrom 0 s = some k := by rw [← h3]; exact from_dd k
  unfold piecesD
  rw [hd]
  dsimp only
  rw [if_pos ⟨by rw [← h3]; exact (dd_head k h1).2, by rw [← h3]; exact (dd_head k h1).1, by rw [← h3]; exact dd_len 6 k (by omega), h2⟩]
theorem pieces_same (s : List UInt8) : piecesL s = piecesD s := by
 apply Option.ext
 intro k
 rw [pieces_iff, piecesD_iff]
/-! A line. -/
structure Ln where
 it : List UInt8
 q : Int
 p : Nat
instance : DecidableEq Ln := fun a b => by
 cases a; cases b
 simp only [Ln.mk.injEq]
 infer_instance
def lineT (x : Ln) : List UInt8 := x.it ++ (32 :: (Lib.itoa x.q ++ (32 :: (prt x.p ++ [10]))))
def keyL (s : List UInt8) : Bool := I.isKey (nats s)
/-- Two of them, by the document. -/
noncomputable def twoD (s : List UInt8) : Option (Nat × Nat) := if (cut1 32 s).2.2 = true then match piecesL (cut1 32 s).1, priceT (cut1 32 s).2.1 with
  | some k, some v => some (k, v)
  | _, _ => none
 else none
theorem cut1_parts {c : UInt8} : ∀ {s : List UInt8}, (cut1 c s).2.2 = true → s = (cut1 c s).1 ++ c :: (cut1 c s).2.1
 | [], h => by cases h
 | x :: r, h => by
  rw [cut1_cons] at h ⊢
  by_cases hx : x = c
  ·rw [if_pos hx]; subst hx; rfl
  ·rw [if_neg hx] at h ⊢
   dsimp only at h ⊢
   have := cut1_parts (s := r) h
   conv => lhs; rw [this]
   rfl
theorem itoa_nat (k : Nat) : Lib.itoa (k : Int) = Lib.decDigits k := by unfold Lib.itoa; rw [if_neg (by omega)]; simp
/-! Lines. -/
end Go.Proofs.YtpdedfpacklnoaaGreatDoor
namespace Go.Proofs.YtpdedfpacklnoaaGreatDoor
open Go.RowKit Go.BL Go.Ct Go.Sl Go.Fl

theorem sl_mid (s : List UInt8) (i j : Nat) (l h : Int) (hl : l = i) (hh : h = j) (h1 : i ≤ j) (h2 : j ≤ s.length) (w : World) :
  (Instr.slice 9 (.string ⟨s.toArray⟩) (some (.int .i64 l)) (some (.int .i64 h)) none).run Tryz.prog w = .ok (.string ⟨((s.drop i).take (j - i)).toArray⟩) w := by
 subst hl hh
 rw [run_slice_string w 9 ⟨s.toArray⟩ .i64 .i64 i j Tryz.underlying9 (by omega) (by omega) (by show (j : Int) ≤ (s.length : Int); omega)]
 simp only [Int.toNat_natCast, H.ext_mid]
theorem sl_to (s : List UInt8) (j : Nat) (h : Int) (hh : h = j) (h2 : j ≤ s.length) (w : World) :
  (Instr.slice 9 (.string ⟨s.toArray⟩) none (some (.int .i64 h)) none).run Tryz.prog w = .ok (.string ⟨(s.take j).toArray⟩) w := by
 subst hh
 rw [run_slice_string_to_if w 9 ⟨s.toArray⟩ .i64 j Tryz.underlying9, if_pos ⟨by omega, by show (j : Int) ≤ (s.length : Int); omega⟩]
 simp only [Int.toNat_natCast, H.ext_mid, List.drop_zero, Nat.sub_zero]
theorem sl_from (s : List UInt8) (i : Nat) (l : Int) (hl : l = i) (h2 : i ≤ s.length) (w : World) :
  (Instr.slice 9 (.string ⟨s.toArray⟩) (some (.int .i64 l)) none none).run Tryz.prog w = .ok (.string ⟨(s.drop i).toArray⟩) w := by
 subst hl
 rw [run_slice_string_from_if w 9 ⟨s.toArray⟩ .i64 i Tryz.underlying9, if_pos ⟨by omega, by show (i : Int) ≤ (s.length : Int); omega⟩]
 simp only [Int.toNat_natCast, H.ext_mid]
 rw [List.take_of_length_le (by rw [List.length_drop]; exact Nat.le_refl _)]
theorem app_str (a b : List UInt8) : (⟨a.toArray⟩ : ByteArray) ++ ⟨b.toArray⟩ = ⟨(a ++ b).toArray⟩ := by
 apply ByteArray.ext
 simp
theorem cat_run (a b c : List UInt8) (h : a ++ b = c) (hl : a.length + b.length ≤ 4294967296) (w : World) : (Op.stringOp .add ⟨a.toArray⟩ ⟨b.toArray⟩).run Tryz.prog w = .ok (.string ⟨c.toArray⟩) w := by
 rw [run_string_add_sum w ⟨a.toArray⟩ ⟨b.toArray⟩ (by show a.length + b.length ≤ 9223372036854775807; omega), app_str, h]
theorem cut1_at (c : UInt8) : ∀ (h t : List UInt8), c ∉ h → cut1 c (h ++ c :: t) = (h, t, true)
 | [], t, _ => by rw [List.nil_append, cut1_cons, if_pos rfl]
 | x :: r, t, hn => by
  have hx : ¬ x = c := fun e => hn (by rw [e]; simp)
  rw [List.cons_append, cut1_cons, if_neg hx, cut1_at c r t (fun h => hn (by simp [h]))]
theorem cut1_not {c : UInt8} {s : List UInt8} (h : c ∉ s) : (cut1 c s).2.2 = false := by
 cases hb : (cut1 c s).2.2 with
 | false => rfl
 | true => exact absurd (by rw [cut1_parts hb]; simp) h
theorem price_both (s : List UInt8) (hs : s.length ≤ 9223372036854775807) : (∀ w, Calls Tryz.prog 59 #[.string ⟨s.toArray⟩] w (RetV (T.resL (priceT s)) w)) ∧ (∀ w, Calls Tryz.prog 54 #[.string ⟨s.toArray⟩] w (RetV (T.resL (priceT s)) w)) := by
 rcases T.split46 s with h | ⟨h, t, rfl, hh⟩
 ·have e : priceT s = Fl.priceL s [] false := by unfold priceT; rw [if_neg (by rw [cut1_not h]; decide)]
  rw [e]
  exact T.both_miss s h hs
 ·have e : priceT (h ++ 46 :: t) = Fl.priceL h t true := by unfold priceT; rw [cut1_at 46 h t hh]; rfl
  rw [e]
  exact T.both_hit h t hh (by simp at hs; omega)
theorem priceL_le {h t : List UInt8} {pt : Bool} {p : Nat} (e : Fl.priceL h t pt = some p) : p ≤ 9218868437227405312 := by
 unfold Fl.priceL at e
 cases hd : Fl.dig 9 h with
 | none => rw [hd] at e; cases e
 | some n =>
  rw [hd] at e
  have hn := T.whole_lt hd
  change (if _ then _ else _) = _ at e
  split at e
  ·cases e
  ·split at e
   ·cases hk : Fl.dig 6 t with
    | none => rw [hk] at e; cases e
    | some k =>
     rw [hk] at e
     obtain ⟨h1, h2⟩ := T.part_lt hk
     obtain ⟨q1, q2, q3⟩ := T.num_lt (t := t) hn h1 h2
     simp only [Option.map_some, Option.some.injEq] at e
     rw [← e]
     exact (T.quo_ok q1 q2 q3).2
   ·simp only [Option.some.injEq] at e
    rw [← e]
    exact (T.quo_ok (by omega) (by omega) (by omega)).2
theorem price_le {s : List UInt8} {p : Nat} (h : priceT s = some p) : p ≤ 9218868437227405312 := by
 unfold priceT at h
 split at h <;> exact priceL_le h
/-! The document's pieces. -/
theorem long_none {s : List UInt8} (h : 7 < s.length) : piecesL s = none := by
 rw [pieces_same]; unfold piecesD
 split
 ·rw [if_neg (fun h2 => by omega)]
 ·rfl
theorem bad_none {s : List UInt8} (h : Lib.decFrom 0 s = none) : piecesL s = none := by rw [pieces_same]; unfold piecesD; rw [h]
theorem nil_none : piecesL [] = none := by rw [pieces_same]; rfl
theorem lead_none {s : List UInt8} (h : s[0]? = some 48) : piecesL s = none := by
 rw [pieces_same]; unfold piecesD
 split
 ·rw [if_neg (fun h2 => h2.2.1 (by rw [List.head?_eq_getElem?]; exact h))]
 ·rfl
theorem big_none {s : List UInt8} {n : Nat} (h : Lib.decFrom 0 s = some n) (h2 : 1000000 < n) : piecesL s = none := by
 rw [pieces_same]; unfold piecesD; rw [h]; dsimp only; rw [if_neg (fun h3 => by omega)]
theorem good_some {s : List UInt8} {n : Nat} {x : UInt8} (h : Lib.decFrom 0 s = some n) (h2 : n ≤ 1000000) (h3 : s.length ≤ 7) (hx : s[0]? = some x) (h4 : x ≠ 48) : piecesL s = some n := by
 rw [pieces_same]; unfold piecesD; rw [h]; dsimp only
 rw [if_pos ⟨(by intro e; rw [e] at hx; cases hx), fun e => h4 (by rw [List.head?_eq_getElem?, hx] at e; exact Option.some.inj e), h3, h2⟩]
set_option maxHeartbeats 2000000 in
set_option maxRecDepth 100000 in
theorem piecesR_any (l : List UInt8) (hl : l.length ≤ 9223372036854775807) (w : World) : Calls Tryz.prog 97 #[.string ⟨l.toArray⟩] w (PieR (piecesL l) w) := by
 go_enter Tryz.func97, Tryz.ntmps97
 go_wp2_with fail
 go_loop [4, 5] (fun a j => ∃ n k : Nat, a = .int .i64 (n : Int) ∧ j = .int .i64 (k : Int) ∧ k ≤ l.length ∧ k ≤ 7 ∧ (n : Int) ≤ 999999999 ∧ Hid (Lib.decFrom 0 (l.take k) = some n)) (fun _ j => l.length - (intOf j).toNat)
 case atStart => exact ⟨0, 0, rfl, rfl, by omega, by omega, by decide, Lib.hid rfl⟩
 case round =>
  obtain ⟨n, k, rfl, rfl, hk, hk7, hn, Hn⟩ := hrel
  by_cases hlt : k < l.length
  ·obtain ⟨x, hx⟩ : ∃ x, (⟨l.toArray⟩ : ByteArray)[k]'hlt = x := ⟨_, rfl⟩
   have Hx : Hid (l[k]? = some x) := Lib.hid (by rw [← hx, List.getElem?_eq_getElem hlt]; rfl)
   obtain ⟨c, hc⟩ : ∃ c : Nat, (x.toNat : Int) = (c : Int) := ⟨x.toNat, rfl⟩
   have Hc : Hid (x.toNat = c) := Lib.hid (by omega)
   by_cases hdg : 48 ≤ c ∧ c ≤ 57
   ·obtain ⟨hd1, hd2⟩ := hdg
    have hd3 : ¬ ((c : Int) < 48) := by omega
    have hd4 : ¬ (57 < (c : Int)) := by omega
    by_cases h7 : k = 7
    ·have HF := Lib.hid (long_none (s := l) (by omega))
     have h7' : 7 ≤ (k : Int) := by omega
     clear h7
     go_wp2_with fail
     go_ret2
     exact ⟨Below.refl _ _, 0, by rw [HF.out]; rfl, fun v hv => by rw [HF.out] at hv; cases hv⟩
    ·have h7' : ¬ 7 ≤ (k : Int) := by omega
     have hk8 : k + 1 ≤ 7 := by omega
     have Hn2 := Lib.hid (T.dec_good Hn.out Hx.out Hc.out hd1 hd2)
     have Hb2 : Hid (n * 10 + (c - 48) ≤ 999999999) := Lib.hid (T.dec_bound Hn2.out (by omega))
     clear h7
     go_wp2_with fail
     exact ⟨⟨n * 10 + (c - 48), k + 1, by have := Hb2.out; go_num, by go_num, by omega, by omega, by have := Hb2.out; omega, Hn2⟩, by simp [intOf]; omega⟩
   ·have HF := Lib.hid (bad_none (T.dec_bad Hn.out Hx.out Hc.out hdg))
    by_cases hlo : (c : Int) < 48
    ·go_wp2_with fail
     go_ret2
     exact ⟨Below.refl _ _, 0, by rw [HF.out]; rfl, fun v hv => by rw [HF.out] at hv; cases hv⟩
    ·have hhi : 57 < (c : Int) := by omega
     go_wp2_with fail
     go_ret2
     exact ⟨Below.refl _ _, 0, by rw [HF.out]; rfl, fun v hv => by rw [HF.out] at hv; cases hv⟩
  ·have Hn3 : Hid (Lib.decFrom 0 l = some n) := Lib.hid (by have := Hn.out; rwa [List.take_of_length_le (by omega)] at this)
   by_cases h0 : 0 < l.length
   case neg =>
    have HF : Hid (piecesL l = none) := Lib.hid (by rw [List.eq_nil_of_length_eq_zero (by omega : l.length = 0)]; exact nil_none)
    go_wp2_with fail
    go_ret2
    exact ⟨Below.refl _ _, (n : Int), by rw [HF.out]; rfl, fun v hv => by rw [HF.out] at hv; cases hv⟩
   obtain ⟨x, hx⟩ : ∃ x, (⟨l.toArray⟩ : ByteArray)[0]'h0 = x := ⟨_, rfl⟩
   have Hx : Hid (l[0]? = some x) := Lib.hid (by rw [← hx, List.getElem?_eq_getElem h0]; rfl)
   by_cases h48 : x = 48
   ·subst h48
    have HF := Lib.hid (lead_none Hx.out)
    go_wp2_with fail
    go_ret2
    exact ⟨Below.refl _ _, (n : Int), by rw [HF.out]; rfl, fun v hv => by rw [HF.out] at hv; cases hv⟩
   ·have h48' : ((x.toNat : Int) != 48) = true := bne_iff_ne.2 (fun e => h48 (UInt8.toNat_inj.1 (by have h : (48 : UInt8).toNat = 48 := rfl; omega)))
    have Hl7 : Hid (l.length ≤ 7) := Lib.hid (by omega)
    by_cases hm : n ≤ 1000000
    ·have HF := Lib.hid (good_some Hn3.out hm Hl7.out Hx.out h48)
     have hm' : (n : Int) ≤ 1000000 := by omega
     clear h48
     go_wp2_with fail
     go_ret2
     exact ⟨Below.refl _ _, (n : Int), by rw [HF.out]; rfl, fun v hv => by rw [HF.out] at hv; cases hv; rfl⟩
    ·have HF := Lib.hid (big_none Hn3.out (by omega))
     have hm' : ¬ (n : Int) ≤ 1000000 := by omega
     clear h48
     go_wp2_with fail
     go_ret2
     exact ⟨Below.refl _ _, (n : Int), by rw [HF.out]; rfl, fun v hv => by rw [HF.out] at hv; cases hv⟩
/-! The document's two. -/
def TwoR (o : Option (Nat × Nat)) (w : World) (e : Ending) (w' : World) : Prop :=
 Below w.heap.size w w' ∧ ∃ (n : Int) (p : Nat), e = .returned (.tuple #[.int .i64 n, .int .u64 (p : Int), .bool o.isSome]) ∧ p ≤ 9218868437227405312 ∧ ∀ x, o = some x → n = (x.1 : Int) ∧ p = x.2
theorem take_not {c x : UInt8} {s : List UInt8} {k : Nat} (h : c ∉ s.take k) (hx : s[k]? = some x) (hn : x ≠ c) : c ∉ s.take (k + 1) := by
 rw [List.take_add_one, hx]
 simp only [Option.toList_some, List.mem_append, List.mem_singleton]
 rintro (h1 | h1)
 ·exact h h1
 ·exact hn h1.symm
theorem cut1_hit {c : UInt8} {s : List UInt8} {k : Nat} (h : c ∉ s.take k) (hx : s[k]? = some c) : cut1 c s = (s.take k, s.drop (k + 1), true) := by
 have hk : k < s.length := (List.getElem?_eq_some_iff.1 hx).1
 have e : s = s.take k ++ c :: s.drop (k + 1) := by
  conv => lhs; rw [← List.take_append_drop k s]
  rw [List.drop_eq_getElem_cons hk, (List.getElem?_eq_some_iff.1 hx).2]
 conv => lhs; rw [e]
 exact cut1_at c _ _ h
theorem resL_eq (o : Option Nat) : T.resL o = .tuple #[.int .u64 ((o.getD 0 : Nat) : Int), .bool o.isSome] := by cases o <;> rfl
theorem getD_le {s : List UInt8} : (priceT s).getD 0 ≤ 9218868437227405312 := by
 cases h : priceT s with
 | none => decide
 | some p => exact price_le h
set_option maxHeartbeats 2000000 in
set_option maxRecDepth 100000 in
theorem two_any (l : List UInt8) (hl : l.length ≤ 4611686018427387904) (w : World) : Calls Tryz.prog 51 #[.string ⟨l.toArray⟩] w (TwoR (twoD l) w) := by
 go_enter Tryz.func51, Tryz.ntmps51
 go_wp2_with fail
 go_loop [5] (fun j => ∃ k : Nat, j = .int .i64 (k : Int) ∧ k ≤ l.length ∧ Hid ((32 : UInt8) ∉ l.take k)) (fun j => l.length - (intOf j).toNat)
 case atStart => exact ⟨0, rfl, by omega, Lib.hid (by simp)⟩
 case round =>
  obtain ⟨k, rfl, hk, HN⟩ := hrel
  by_cases hlt : k < l.length
  ·obtain ⟨x, hx⟩ : ∃ x, (⟨l.toArray⟩ : ByteArray)[k]'hlt = x := ⟨_, rfl⟩
   have Hx : Hid (l[k]? = some x) := Lib.hid (by rw [← hx, List.getElem?_eq_getElem hlt]; rfl)
   by_cases h32 : x = 32
   ·subst h32
    have hc := cut1_hit HN.out Hx.out
    have s1 := sl_to l k (k : Int) rfl (by omega)
    have s2 := sl_from l (k + 1) ((k : Int) + 1) (by omega) (by omega)
    have hp1 := piecesR_any (l.take k) (by rw [List.length_take]; omega)
    have hp2 := (price_both (l.drop (k + 1)) (by rw [List.length_drop]; omega)).2
    have hT : twoD l = match piecesL (l.take k), priceT (l.drop (k + 1)) with
     | some k, some v => some (k, v)
     | _, _ => none := by unfold twoD; rw [hc]; rfl
    rw [resL_eq] at hp2
    have hle := getD_le (s := l.drop (k + 1))
    obtain ⟨A, hA⟩ : ∃ A, l.take k = A := ⟨_, rfl⟩
    obtain ⟨D, hD⟩ : ∃ D, l.drop (k + 1) = D := ⟨_, rfl⟩
    rw [hA] at s1 hp1 hT
    rw [hD] at s2 hp2 hT hle
    obtain ⟨o1, ho1⟩ : ∃ o, piecesL A = o := ⟨_, rfl⟩
    obtain ⟨o2, ho2⟩ : ∃ o, priceT D = o := ⟨_, rfl⟩
    rw [ho1] at hp1 hT
    rw [ho2] at hp2 hT hle
    obtain ⟨P, hP⟩ : ∃ P, o2.getD 0 = P := ⟨_, rfl⟩
    rw [hP] at hp2 hle
    obtain ⟨b1, hb1⟩ : ∃ b, o1.isSome = b := ⟨_, rfl⟩
    obtain ⟨b2, hb2⟩ : ∃ b, o2.isSome = b := ⟨_, rfl⟩
    have HP := Lib.hid hP
    have HTT := Lib.hid hT
    have HB1 := Lib.hid hb1
    have HB2 := Lib.hid hb2
    have HLE := Lib.hid hle
    unfold PieR at hp1
    rw [hb1] at hp1
    rw [hb2] at hp2
    clear hP hT hb1 hb2 hle ho1 ho2 hA hD hc
    go_wp2_with fail
    go_at_call 97
    refine (hp1 _).mono ?_
    rintro e w1 ⟨hw1, n, rfl, hn⟩
    have HW1 := Lib.hid hw1
    have HN1 := Lib.hid hn
    clear hw1 hn hp1
    go_wp2_with fail
    go_at_call 54
    refine (hp2 _).mono ?_
    rintro e w2 ⟨rfl, hw2⟩
    have HW2 := Lib.hid (HW1.out.trans (hw2.mono HW1.out.size))
    clear hw2 hp2
    have HV : Hid ((twoD l).isSome = (b1 && b2)) := Lib.hid (by rw [HTT.out, ← HB1.out, ← HB2.out]; cases o1 <;> cases o2 <;> rfl)
    have HX : Hid (∀ x, twoD l = some x → n = (x.1 : Int) ∧ P = x.2) := Lib.hid (by
     intro x hx
     rw [HTT.out] at hx
     cases o1 with
     | none => cases hx
     | some k =>
      cases o2 with
      | none => cases hx
      | some v => cases hx; exact ⟨HN1.out k rfl, HP.out.symm⟩)
    cases b1
    ·go_wp2_with fail
     go_ret3
     exact ⟨HW2.out, n, P, by rw [HV.out]; rfl, HLE.out, HX.out⟩
    ·go_wp2_with fail
     go_ret3
     exact ⟨HW2.out, n, P, by rw [HV.out]; rfl, HLE.out, HX.out⟩
   ·have HN2 := Lib.hid (take_not HN.out Hx.out h32)
    have h32' : ((x.toNat : Int) == 32) = false := beq_false_of_ne (fun e => h32 (UInt8.toNat_inj.1 (by have h : (32 : UInt8).toNat = 32 := rfl; omega)))
    clear h32
    go_wp2_with fail
    exact ⟨⟨k + 1, by go_num, by omega, HN2⟩, by simp [intOf]; omega⟩
  ·have HF : Hid (twoD l = none) := Lib.hid (by
    have h := HN.out
    rw [List.take_of_length_le (by omega)] at h
    unfold twoD
    rw [cut1_not h]
    rfl)
   go_wp2_with fail
   go_ret3
   exact ⟨Below.refl _ _, 0, 0, by rw [HF.out]; rfl, by omega, fun x hx => by rw [HF.out] at hx; cases hx⟩
/-! The document's digits. -/
theorem fin_len {n N : Nat} {t : List UInt8} (h : T.fin n t = Lib.decDigits N) (hN : N ≤ 9223372036854775807) : t.length ≤ 19 := by
 have h1 : (Lib.decDigits N).length ≤ 19 := dd_len 18 N (by omega)
 rw [← h] at h1
 unfold T.fin at h1
 split at h1
 ·rw [List.length_append] at h1; omega
 ·omega
set_option maxHeartbeats 2000000 in
set_option maxRecDepth 100000 in
theorem digits_any (N : Nat) (hN : N ≤ 9223372036854775807) (w : World) : Calls Tryz.prog 66 #[.int .i64 (N : Int)] w (RetV (.string ⟨(Lib.itoa (N : Int)).toArray⟩) w) := by
 rw [itoa_nat]
 have HN := Lib.hid hN
 have hN' : (N : Int) ≤ 9223372036854775807 := by omega
 clear hN
 go_enter Tryz.func66, Tryz.ntmps66
 go_wp2_with fail
 go_loopw [0, 3] (fun i v wr => ∃ (n : Nat) (t : List UInt8), (n : Int) ≤ 9223372036854775807 ∧ i = .int .i64 (n : Int) ∧ v = .string ⟨t.toArray⟩ ∧ Hid (T.fin n t = Lib.decDigits N) ∧ Hid (Below w.heap.size w wr)) (fun i v _ => 2 * (intOf i).toNat + (1 - T.lenOf v))
 case atStart => exact ⟨N, [], hN', rfl, rfl, Lib.hid (T.fin_start N), Lib.hid (Below.refl _ _)⟩
 case round =>
  obtain ⟨n, t, hn', rfl, rfl, He, Hb⟩ := hrel
  have Ht := Lib.hid (fin_len He.out HN.out)
  have hlen : ¬ 9223372036854775807 < 1 + t.length := by have := Ht.out; omega
  obtain ⟨c, hc⟩ : ∃ c : Nat, 48 + (n : Int) % 10 = (c : Int) := ⟨48 + n % 10, by omega⟩
  have hc2 : c < 256 := by omega
  have hcc := fun w => T.conv1 w 5 c hc2
  have Hc : Hid (48 + n % 10 = c) := Lib.hid (by omega)
  have Hbc := Lib.hid (T.bcat [UInt8.ofNat c] t)
  by_cases hp : 0 < n
  ·go_wp2_with fail
   go_roundw
   case rel => exact ⟨n / 10, UInt8.ofNat c :: t, by omega, by go_num, congrArg Value.string Hbc.out, Lib.hid (by rw [← Hc.out, T.fin_step (.inl hp)]; exact He.out), Lib.hid (Hb.out.alloc Hb.out.size _)⟩
   case measure => rw [Hbc.out]; simp [intOf, T.lenOf, ByteArray.size]; omega
  ·obtain rfl : n = 0 := by omega
   clear hp
   rcases t with _ | ⟨a, t⟩
   ·clear hcc hc hc2 Hbc
    have hcc := T.conv48
    have Hbc := Lib.hid (T.bcat [48] [])
    go_wp2_with fail
    go_roundw
    case rel => exact ⟨0, [48], by omega, rfl, congrArg Value.string Hbc.out, Lib.hid ((T.fin_step (n := 0) (t := []) (.inr rfl)).trans He.out), Lib.hid (Hb.out.alloc Hb.out.size _)⟩
    case measure => rw [Hbc.out]; simp [intOf, T.lenOf, ByteArray.size]
   ·have HF : Hid (Lib.decDigits N = a :: t) := Lib.hid (by rw [← He.out]; unfold T.fin; rw [if_neg (by simp)])
    go_wp2_with fail
    go_ret
    exact ⟨by rw [HF.out]; rfl, Hb.out⟩
end Go.Proofs.YtpdedfpacklnoaaGreatDoor
namespace Go.Proofs.YtpdedfpacklnoaaGreatDoor
open Go.RowKit Go.BL Go.Ct Go.Sl

/-- A panic asks the same of every slot's value. -/
def PG (Q : Exit → Act → World → Prop) : Prop := ∀ (j : Option Tmp) (v : Value) c (a : Act) w, Q (.panic c) (a.put j v) w → Q (.panic c) a w
theorem PG.body {P : Program} {f : Func} {R : Ending → World → Prop} : PG (bodyPost P f R) := fun j _ _ _ _ h => by cases j <;> exact h
theorem PG.then_ {K : Act → World → Prop} {Q : Exit → Act → World → Prop} (h : PG Q) : PG (Exit.then K Q) := fun j v c a w q => h j v c a w q
theorem PG.inBlock {n : Nat} {Q : Exit → Act → World → Prop} (h : PG Q) : PG (Exit.inBlock n Q) := fun j v c a w q => h j v c a w q
theorem hstart {P : Program} {ops : Array Oper} {Q : Exit → Act → World → Prop} {S : World → Prop} {id : Nat} {a : Act} {w : World} (hm : P.follows .mixedOrders = true) (hQ : PG Q) (hS : S w.drew)
  (h : PG Q → S w.drew → wpAnyH P .any ops Q S ops.size (Array.replicate ops.size false) a w.drew) : (Code.region id ops true).wp P Q a w := wp_region_held_drew hm hS (h hQ)
theorem htake {P : Program} {ops : Array Oper} {Q : Exit → Act → World → Prop} {md : Region.Mode} {S : World → Prop} {i : Nat} {oi : Oper} {v : Value} {fuel : Nat} {listed : Array Bool} {a : Act} {w : World} (hi : ops[i]? = some oi)
  (hs : Region.noSelect ops = true) (hf : Region.free md ops listed i = true) (hr : (Region.ready md ops listed).contains i = true) (hQ : PG Q) (hy : YieldsIf P ops S oi v a) (hS : S w)
  (h : wpAnyH P md ops Q S fuel (listed.setIfInBounds i true) (a.put oi.dst v) w) : wpAnyH P md ops Q S (fuel + 1) listed a w := wpAnyH_take hi hs hf hr (fun c a w h => hQ _ _ c a w h) hy hS h
/-- A block's first cells, none of them frozen. -/
def Bk (w : World) (B : Nat) (vs : List Value) : Prop := ∀ (i : Nat) (v : Value), vs[i]? = some v → w.cell? ⟨B, i, none⟩ = some v ∧ w.frozen? ⟨B, i, none⟩ = false
theorem Bk.below {w w' : World} {B C : Nat} {vs : List Value} (k : Bk w B vs) (hb : Below C w w') (hC : B < C) : Bk w' B vs :=
 fun i v h => ⟨(hb.cell hC).trans (k i v h).1, (hb.frozen hC).trans (k i v h).2⟩
theorem Bk.new (w : World) (vs : List Value) (t : TypeId) {B : Nat} (hB : B = w.heap.size) : Bk (w.alloc (.cells vs.toArray t)) B vs := by
 subst hB
 intro i v h
 refine ⟨?_, World.frozen?_alloc_new w _ t i⟩
 rw [World.cell?_alloc_at _ _ _ _ rfl]
 simpa using h
theorem Bk.alloc {w : World} {B : Nat} {vs : List Value} (k : Bk w B vs) (o : Obj) (hB : B < w.heap.size) : Bk (w.alloc o) B vs := k.below ((Below.refl w.heap.size w).alloc (Nat.le_refl _) o) hB
theorem Bk.other {w : World} {B : Nat} {vs : List Value} (k : Bk w B vs) {p : Addr} (hp : p.block ≠ B) (u : Value) : Bk (w.setCell p u) B vs := fun i v h => by
 refine ⟨(World.cell?_setCell_other _ _ _ _ (fun e => hp (by rw [e]))).trans (k i v h).1, ?_⟩
 rw [World.frozen?_setCell]
 exact (k i v h).2
theorem Bk.set {w : World} {B : Nat} {vs : List Value} (k : Bk w B vs) (j : Nat) (u : Value) : Bk (w.setCell ⟨B, j, none⟩ u) B (vs.set j u) := fun i v h => by
 rw [World.frozen?_setCell]
 by_cases e : i = j
 ·subst e
  rw [List.getElem?_set_self'] at h
  cases hv : vs[i]? with
  | none => rw [hv] at h; cases h
  | some x =>
   rw [hv] at h
   have h' : some u = some v := h
   injection h' with h'
   subst h'
   exact ⟨World.cell?_setCell_same _ _ _ (k i x hv).1, (k i x hv).2⟩
 ·rw [List.getElem?_set_ne (fun h => e h.symm)] at h
  have hk := k i v h
  refine ⟨(World.cell?_setCell_other _ _ _ _ (fun e2 => e (by injection e2 with _ e3; exact e3.symm))).trans hk.1, hk.2⟩
theorem Bk.lt {w : World} {B : Nat} {v : Value} {vs : List Value} (k : Bk w B (v :: vs)) : B < w.heap.size := lt_block (k 0 v rfl).1
end Go.Proofs.YtpdedfpacklnoaaGreatDoor
