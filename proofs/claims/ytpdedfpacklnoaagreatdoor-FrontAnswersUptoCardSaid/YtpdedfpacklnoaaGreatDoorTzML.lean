/- Plain: pieces, a line, lines and how a text is parsed as lines, by the program's road and by the document's. No program. Contracts of both prices of any text, of the document's pieces, of its two and  -/
import Derived.Test.YtpdedfpacklnoaaGreatDoorTzMP
import Derived.Test.YtpdedfpacklnoaaGreatDoorTzMI
import Derived.Lib.AtoiTie
import Derived.Test.YtpdedfpacklnoaaGreatDoorTzMC
import Derived.Test.YtpdedfpacklnoaaGreatDoorTzMH
import Derived.Test.YtpdedfpacklnoaaGreatDoorTzMU
import Derived.Deep.RegionHeld
import Derived.Deep.CutRange
namespace Go.Proofs.YtpdedfpacklnoaaGreatDoor
open Go.Ct Go.Wr Go.Fl

/-! Numerals. -/
theorem from_snoc (c : UInt8) : ∀ (l : List UInt8) (acc : Nat), Lib.decFrom acc (l ++ [c]) = (Lib.decFrom acc l).bind fun n => (Lib.digitVal c).map fun d => n * 10 + d
 | [], acc => by
  show (match Lib.digitVal c with | some d => Lib.decFrom (acc * 10 + d) [] | none => none) = _
  cases Lib.digitVal c <;> rfl
 | b :: r, acc => by
  show (match Lib.digitVal b with | some d => Lib.decFrom (acc * 10 + d) (r ++ [c]) | none => none) = (match Lib.digitVal b with | some d => Lib.decFrom (acc * 10 + d) r | none => none).bind _
  cases Lib.digitVal b with
  | none => rfl
  | some d => exact from_snoc c r _
theorem dig_of {d : Nat} (h : d < 10) : Lib.digitVal (UInt8.ofNat (48 + d)) = some d := by
 unfold Lib.digitVal
 rw [show (UInt8.ofNat (48 + d)).toNat = 48 + d by simp; omega, if_pos (by omega)]
 congr 1
 omega
theorem dd_small {u : Nat} (h : u < 10) : Lib.decDigits u = [UInt8.ofNat (48 + u)] := Lib.decDigits_one h
theorem dd_big {u : Nat} (h : ¬ u < 10) : Lib.decDigits u = Lib.decDigits (u / 10) ++ [UInt8.ofNat (48 + u % 10)] := by
 conv => lhs; rw [Lib.decDigits, dif_neg h]
theorem from_dd (u : Nat) : Lib.decFrom 0 (Lib.decDigits u) = some u := by
 induction u using Nat.strongRecOn with
 | ind u ih =>
  by_cases h : u < 10
  ·rw [dd_small h]
   show (match Lib.digitVal _ with | some d => Lib.decFrom (0 * 10 + d) [] | none => none) = _
   rw [dig_of h]
   show some (0 * 10 + u) = some u
   congr 1
   omega
  ·rw [dd_big h, from_snoc, ih (u / 10) (by omega), dig_of (Nat.mod_lt _ (by decide))]
   show some (u / 10 * 10 + u % 10) = some u
   congr 1
   omega
theorem dd_head (u : Nat) (h0 : 1 ≤ u) : (Lib.decDigits u).head? ≠ some 48 ∧ Lib.decDigits u ≠ [] := by
 induction u using Nat.strongRecOn with
 | ind u ih =>
  by_cases h : u < 10
  ·rw [dd_small h]
   refine ⟨fun e => ?_, by simp⟩
   simp only [List.head?_cons, Option.some.injEq] at e
   have := congrArg UInt8.toNat e
   rw [show (UInt8.ofNat (48 + u)).toNat = 48 + u by simp; omega] at this
   have h48 : (48 : UInt8).toNat = 48 := rfl
   omega
  ·rw [dd_big h]
   obtain ⟨h1, h2⟩ := ih (u / 10) (by omega) (by omega)
   refine ⟨?_, by simp⟩
   rw [List.head?_append]
   cases hd : (Lib.decDigits (u / 10)).head? with
   | none => exact absurd (List.head?_eq_none_iff.1 hd) h2
   | some x => rw [hd] at h1; exact h1
theorem dd_dig (u : Nat) : ∀ c ∈ Lib.decDigits u, 48 ≤ c.toNat ∧ c.toNat ≤ 57 := by
 induction u using Nat.strongRecOn with
 | ind u ih =>
  by_cases h : u < 10
  ·rw [dd_small h]
   intro c hc
   simp only [List.mem_singleton] at hc
   subst hc
   rw [show (UInt8.ofNat (48 + u)).toNat = 48 + u by simp; omega]
   omega
  ·rw [dd_big h]
   intro c hc
   rcases List.mem_append.1 hc with hc | hc
   ·exact ih _ (by omega) c hc
   ·simp only [List.mem_singleton] at hc
    subst hc
    rw [show (UInt8.ofNat (48 + u % 10)).toNat = 48 + u % 10 by simp; omega]
    omega
theorem dd_len : ∀ (k u : Nat), u < 10 ^ (k + 1) → (Lib.decDigits u).length ≤ k + 1
 | k, u, h => by
  by_cases hs : u < 10
  ·rw [dd_small hs]; simp
  ·cases k with
   | zero => omega
   | succ k =>
    rw [dd_big hs, List.length_append, List.length_singleton]
    have := dd_len k (u / 10) (by rw [Nat.pow_succ] at h; omega)
    omega
/-! Pieces, by the document. -/
theorem pieces_iff {s : List UInt8} {k : Nat} : piecesL s = some k ↔ 1 ≤ k ∧ k ≤ 1000000 ∧ Lib.decDigits k = s := by
 constructor
 ·intro h
  unfold piecesL at h
  cases ha : Lib.atoiAll s with
  | ok n =>
   rw [ha] at h
   dsimp only at h
   split at h
   ·rename_i hc
    injection h with h
    obtain ⟨h1, h2, h3⟩ := hc
    subst h
    refine ⟨by omega, by omega, ?_⟩
    rw [← h3]
    unfold Lib.itoa
    rw [if_neg (by omega)]
   ·cases h
  | _ => rw [ha] at h; cases h
 ·rintro ⟨h1, h2, h3⟩
  have hl : s.length ≤ 7 := by rw [← h3]; exact dd_len 6 k (by omega)
  have hd : Lib.decFrom 0 s = some k := by rw [← h3]; exact from_dd k
  have hne : s ≠ [] := by rw [← h3]; exact (dd_head k h1).2
  have hdig : ∀ c ∈ s, 48 ≤ c.toNat ∧ c.toNat ≤ 57 := by rw [← h3]; exact dd_dig k
  have hp : Lib.parseUint10 0 s = .ok k := by
   rw [Lib.parseUint10_short s 0 0 (by decide) (by omega), hd]; rfl
  have ha : Lib.atoiAll s = .ok (k : Int) := by
   cases s with
   | nil => exact absurd rfl hne
   | cons c r =>
    have hc := hdig c (by simp)
    unfold Lib.atoiAll
    dsimp only
    rw [if_neg (by omega)]
    unfold Lib.parseMag
    rw [if_neg (by simp), hp]
    dsimp only
    rw [if_neg (by omega), if_neg (by omega), if_neg (by omega)]
  unfold piecesL
  rw [ha]
  dsimp only
  rw [if_pos ⟨by omega, by omega, by unfold Lib.itoa; rw [if_neg (by omega)]; exact h3⟩]
  rfl
/-! A line. -/
structure Ln where
 it : List UInt8
 q : Int
 p : Nat
instance : DecidableEq Ln := fun a b => by
 cases a; cases b
 simp only [Ln.mk.injEq]
 infer_instance
def lineT (x : Ln) : List UInt8 := x.it ++ (32 :: (Lib.itoa x.q ++ (32 :: (prt x.p ++ [10]))))
def linesT : List Ln → List UInt8
 | [] => []
 | x :: r => lineT x ++ linesT r
theorem linesT_app : ∀ a b : List Ln, linesT (a ++ b) = linesT a ++ linesT b
 | [], b => rfl
 | x :: r, b => by
  show lineT x ++ linesT (r ++ b) = lineT x ++ linesT r ++ linesT b
  rw [linesT_app r b, List.append_assoc]
def keyL (s : List UInt8) : Bool := I.isKey (nats s)
theorem cut1_parts {c : UInt8} : ∀ {s : List UInt8}, (cut1 c s).2.2 = true → s = (cut1 c s).1 ++ c :: (cut1 c s).2.1
 | [], h => by cases h
 | x :: r, h => by
  rw [cut1_cons] at h ⊢
  by_cases hx : x = c
  ·rw [if_pos hx]; subst hx; rfl
  ·rw [if_neg hx] at h ⊢
   dsimp only at h ⊢
   have := cut1_parts (s := r) h
   conv => lhs; rw [this]
   rfl
theorem itoa_nat (k : Nat) : Lib.itoa (k : Int) = Lib.decDigits k := by unfold Lib.itoa; rw [if_neg (by omega)]; simp
/-! Lines. -/
end Go.Proofs.YtpdedfpacklnoaaGreatDoor
namespace Go.Proofs.YtpdedfpacklnoaaGreatDoor
open Go.RowKit Go.BL Go.Ct Go.Sl Go.Fl

theorem sl_mid (s : List UInt8) (i j : Nat) (l h : Int) (hl : l = i) (hh : h = j) (h1 : i ≤ j) (h2 : j ≤ s.length) (w : World) :
  (Instr.slice 9 (.string ⟨s.toArray⟩) (some (.int .i64 l)) (some (.int .i64 h)) none).run Tryz.prog w = .ok (.string ⟨((s.drop i).take (j - i)).toArray⟩) w := by
 subst hl hh
 rw [run_slice_string w 9 ⟨s.toArray⟩ .i64 .i64 i j Tryz.underlying9 (by omega) (by omega) (by show (j : Int) ≤ (s.length : Int); omega)]
 simp only [Int.toNat_natCast, H.ext_mid]
theorem app_str (a b : List UInt8) : (⟨a.toArray⟩ : ByteArray) ++ ⟨b.toArray⟩ = ⟨(a ++ b).toArray⟩ := by
 apply ByteArray.ext
 simp
theorem cat_run (a b c : List UInt8) (h : a ++ b = c) (hl : a.length + b.length ≤ 4294967296) (w : World) : (Op.stringOp .add ⟨a.toArray⟩ ⟨b.toArray⟩).run Tryz.prog w = .ok (.string ⟨c.toArray⟩) w := by
 rw [run_string_add_sum w ⟨a.toArray⟩ ⟨b.toArray⟩ (by show a.length + b.length ≤ 9223372036854775807; omega), app_str, h]
theorem cut1_at (c : UInt8) : ∀ (h t : List UInt8), c ∉ h → cut1 c (h ++ c :: t) = (h, t, true)
 | [], t, _ => by rw [List.nil_append, cut1_cons, if_pos rfl]
 | x :: r, t, hn => by
  have hx : ¬ x = c := fun e => hn (by rw [e]; simp)
  rw [List.cons_append, cut1_cons, if_neg hx, cut1_at c r t (fun h => hn (by simp [h]))]
theorem cut1_not {c : UInt8} {s : List UInt8} (h : c ∉ s) : (cut1 c s).2.2 = false := by
 cases hb : (cut1 c s).2.2 with
 | false => rfl
 | true => exact absurd (by rw [cut1_parts hb]; simp) h
theorem price_both (s : List UInt8) (hs : s.length ≤ 9223372036854775807) : (∀ w, Calls Tryz.prog 59 #[.string ⟨s.toArray⟩] w (RetV (T.resL (priceT s)) w)) ∧ (∀ w, Calls Tryz.prog 54 #[.string ⟨s.toArray⟩] w (RetV (T.resL (priceT s)) w)) := by
 rcases T.split46 s with h | ⟨h, t, rfl, hh⟩
 ·have e : priceT s = Fl.priceL s [] false := by unfold priceT; rw [if_neg (by rw [cut1_not h]; decide)]
  rw [e]
  exact T.both_miss s h hs
 ·have e : priceT (h ++ 46 :: t) = Fl.priceL h t true := by unfold priceT; rw [cut1_at 46 h t hh]; rfl
  rw [e]
  exact T.both_hit h t hh (by simp at hs; omega)
/-! The document's pieces. -/
/-! The document's two. -/
theorem resL_eq (o : Option Nat) : T.resL o = .tuple #[.int .u64 ((o.getD 0 : Nat) : Int), .bool o.isSome] := by cases o <;> rfl
/-! The document's digits. -/
theorem fin_len {n N : Nat} {t : List UInt8} (h : T.fin n t = Lib.decDigits N) (hN : N ≤ 9223372036854775807) : t.length ≤ 19 := by
 have h1 : (Lib.decDigits N).length ≤ 19 := dd_len 18 N (by omega)
 rw [← h] at h1
 unfold T.fin at h1
 split at h1
 ·rw [List.length_append] at h1; omega
 ·omega
set_option maxHeartbeats 2000000 in
set_option maxRecDepth 100000 in
theorem digits_any (N : Nat) (hN : N ≤ 9223372036854775807) (w : World) : Calls Tryz.prog 66 #[.int .i64 (N : Int)] w (RetV (.string ⟨(Lib.itoa (N : Int)).toArray⟩) w) := by
 rw [itoa_nat]
 have HN := Lib.hid hN
 have hN' : (N : Int) ≤ 9223372036854775807 := by omega
 clear hN
 go_enter Tryz.func66, Tryz.ntmps66
 go_wp2_with fail
 go_loopw [0, 3] (fun i v wr => ∃ (n : Nat) (t : List UInt8), (n : Int) ≤ 9223372036854775807 ∧ i = .int .i64 (n : Int) ∧ v = .string ⟨t.toArray⟩ ∧ Hid (T.fin n t = Lib.decDigits N) ∧ Hid (Below w.heap.size w wr)) (fun i v _ => 2 * (intOf i).toNat + (1 - T.lenOf v))
 case atStart => exact ⟨N, [], hN', rfl, rfl, Lib.hid (T.fin_start N), Lib.hid (Below.refl _ _)⟩
 case round =>
  obtain ⟨n, t, hn', rfl, rfl, He, Hb⟩ := hrel
  have Ht := Lib.hid (fin_len He.out HN.out)
  have hlen : ¬ 9223372036854775807 < 1 + t.length := by have := Ht.out; omega
  obtain ⟨c, hc⟩ : ∃ c : Nat, 48 + (n : Int) % 10 = (c : Int) := ⟨48 + n % 10, by omega⟩
  have hc2 : c < 256 := by omega
  have hcc := fun w => T.conv1 w 5 c hc2
  have Hc : Hid (48 + n % 10 = c) := Lib.hid (by omega)
  have Hbc := Lib.hid (T.bcat [UInt8.ofNat c] t)
  by_cases hp : 0 < n
  ·go_wp2_with fail
   go_roundw
   case rel => exact ⟨n / 10, UInt8.ofNat c :: t, by omega, by go_num, congrArg Value.string Hbc.out, Lib.hid (by rw [← Hc.out, T.fin_step (.inl hp)]; exact He.out), Lib.hid (Hb.out.alloc Hb.out.size _)⟩
   case measure => rw [Hbc.out]; simp [intOf, T.lenOf, ByteArray.size]; omega
  ·obtain rfl : n = 0 := by omega
   clear hp
   rcases t with _ | ⟨a, t⟩
   ·clear hcc hc hc2 Hbc
    have hcc := T.conv48
    have Hbc := Lib.hid (T.bcat [48] [])
    go_wp2_with fail
    go_roundw
    case rel => exact ⟨0, [48], by omega, rfl, congrArg Value.string Hbc.out, Lib.hid ((T.fin_step (n := 0) (t := []) (.inr rfl)).trans He.out), Lib.hid (Hb.out.alloc Hb.out.size _)⟩
    case measure => rw [Hbc.out]; simp [intOf, T.lenOf, ByteArray.size]
   ·have HF : Hid (Lib.decDigits N = a :: t) := Lib.hid (by rw [← He.out]; unfold T.fin; rw [if_neg (by simp)])
    go_wp2_with fail
    go_ret
    exact ⟨by rw [HF.out]; rfl, Hb.out⟩
end Go.Proofs.YtpdedfpacklnoaaGreatDoor
namespace Go.Proofs.YtpdedfpacklnoaaGreatDoor
open Go.RowKit Go.BL Go.Ct Go.Sl Go.Fl

def lnC (x : Ln) : List Value := [.string ⟨x.it.toArray⟩, .int .i64 x.q, .int .u64 (x.p : Int)]
theorem lnC_len (x : Ln) : (lnC x).length = 3 := rfl
theorem lnC_one (x : Ln) : ∀ u ∈ lnC x, u.oneCell' = true := by
 intro u hu
 simp only [lnC, List.mem_cons, List.not_mem_nil, or_false] at hu
 rcases hu with rfl | rfl | rfl <;> rfl
abbrev Lns := Sl 3 lnC
theorem ln_cells {w : World} {A : Option Addr} {c : Nat} {l : List Ln} (h : Lns w (.slice A l.length c) l) (hn : 0 < l.length) : ∃ b off, A = some ⟨b, off, none⟩ ∧ b < w.heap.size ∧
  ∀ i (hi : i < l.length), w.cell? ⟨b, off + i * 3, none⟩ = some (.string ⟨l[i].it.toArray⟩) ∧ w.cell? ⟨b, off + i * 3 + 1, none⟩ = some (.int .i64 l[i].q) ∧ w.cell? ⟨b, off + i * 3 + 2, none⟩ = some (.int .u64 (l[i].p : Int)) := by
 obtain ⟨_, A', c', e, h1⟩ := h
 injection e with e1 e2 e3
 subst e1 e3
 obtain ⟨b, off, rfl, hlt, hc⟩ := h1 hn
 exact ⟨b, off, rfl, hlt, fun i hi => ⟨hc i hi 0 _ rfl, hc i hi 1 _ rfl, hc i hi 2 _ rfl⟩⟩
def fineLn (x : Ln) : Prop := 0 ≤ x.q ∧ x.q ≤ 9223372036854775807 ∧ x.p < 18446744073709551616
theorem linesT_take {l : List Ln} {k : Nat} (h : k < l.length) : linesT (l.take (k + 1)) = linesT (l.take k) ++ lineT l[k] := by
 rw [List.take_succ_eq_append_getElem h, linesT_app]
 simp [linesT]
theorem linesT_le : ∀ (l : List Ln) (k : Nat), (linesT (l.take k)).length ≤ (linesT l).length
 | [], k => by simp
 | x :: r, 0 => by simp [linesT]
 | x :: r, k + 1 => by
  have := linesT_le r k
  simp only [List.take_succ_cons, linesT, List.length_append]
  omega
set_option maxHeartbeats 4000000 in
set_option maxRecDepth 100000 in
theorem linesR_any (l : List Ln) (v : Value) (w : World) (hl : Lns w v l) (hf : ∀ x ∈ l, fineLn x) (hlen : (linesT l).length ≤ 4294967296) : Calls Tryz.prog 27 #[v] w (RetV (.string ⟨(linesT l).toArray⟩) w) := by
 obtain ⟨A, cp, rfl⟩ := hl.form
 have hmx := hl.1
 have HD := Lib.hid hl
 have HF := Lib.hid hf
 have HL := Lib.hid hlen
 clear hl hf hlen
 go_enter Tryz.func27, Tryz.ntmps27
 go_wp2_with fail
 go_loopw [3, 4] (fun s j wr => ∃ (k : Nat) (t : List UInt8), k ≤ l.length ∧ j = .int .i64 (k : Int) ∧ s = .string ⟨t.toArray⟩ ∧ Hid (t = linesT (l.take k)) ∧ Hid (Below w.heap.size w wr)) (fun _ j _ => l.length - (intOf j).toNat)
 case atStart => exact ⟨0, [], by omega, rfl, rfl, Lib.hid rfl, Lib.hid (Below.refl _ _)⟩
 case round =>
  obtain ⟨k, t, hk, rfl, rfl, HT, HB⟩ := hrel
  by_cases hlt : k < l.length
  ·obtain ⟨b, off, rfl, hbl, hc⟩ := ln_cells HD.out (by omega)
   obtain ⟨c1, c2, c3⟩ := hc k hlt
   have hfx := HF.out _ (List.getElem_mem hlt)
   have hts := linesT_take hlt
   obtain ⟨⟨it, q, p⟩, hx⟩ : ∃ x, l[k]'hlt = x := ⟨_, rfl⟩
   rw [hx] at c1 c2 c3 hfx hts
   obtain ⟨f1, f2, f3⟩ := hfx
   dsimp only at f1 f2 f3
   obtain ⟨Q, rfl⟩ := Int.eq_ofNat_of_zero_le f1
   have d1 := old_cell HB.out hbl c1
   have d2 := old_cell HB.out hbl c2
   have d3 := old_cell HB.out hbl c3
   have HBL := Lib.hid (Nat.lt_of_lt_of_le hbl HB.out.size)
   have hdg := fun w => digits_any Q (by omega) w
   have hpr := fun w => T.printR_any p f3 w
   obtain ⟨e1, he1⟩ : ∃ e, t ++ it = e := ⟨_, rfl⟩
   obtain ⟨e2, he2⟩ : ∃ e, e1 ++ [32] = e := ⟨_, rfl⟩
   obtain ⟨D, hD⟩ : ∃ e, Lib.itoa (Q : Int) = e := ⟨_, rfl⟩
   obtain ⟨e3, he3⟩ : ∃ e, e2 ++ D = e := ⟨_, rfl⟩
   obtain ⟨e4, he4⟩ : ∃ e, e3 ++ [32] = e := ⟨_, rfl⟩
   obtain ⟨R, hR⟩ : ∃ e, prt p = e := ⟨_, rfl⟩
   obtain ⟨e5, he5⟩ : ∃ e, e4 ++ R = e := ⟨_, rfl⟩
   obtain ⟨e6, he6⟩ : ∃ e, e5 ++ [10] = e := ⟨_, rfl⟩
   have HE : Hid (e6 = linesT (l.take (k + 1))) := Lib.hid (by
    rw [hts, ← HT.out, ← he6, ← he5, ← he4, ← he3, ← he2, ← he1, ← hD, ← hR]
    unfold lineT
    simp only [List.append_assoc, List.cons_append, List.nil_append])
   have hle : e6.length ≤ 4294967296 := by rw [HE.out]; exact Nat.le_trans (linesT_le l _) HL.out
   have l6 : e6.length = e5.length + 1 := by rw [← he6]; simp
   have l5 : e5.length = e4.length + R.length := by rw [← he5]; simp
   have l4 : e4.length = e3.length + 1 := by rw [← he4]; simp
   have l3 : e3.length = e2.length + D.length := by rw [← he3]; simp
   have l2 : e2.length = e1.length + 1 := by rw [← he2]; simp
   have l1 : e1.length = t.length + it.length := by rw [← he1]; simp
   have r1 := cat_run t it e1 he1 (by omega)
   have r2 := cat_run e1 [32] e2 he2 (by simp; omega)
   have r3 := cat_run e2 D e3 he3 (by omega)
   have r4 := cat_run e3 [32] e4 he4 (by simp; omega)
   have r5 := cat_run e4 R e5 he5 (by omega)
   have r6 := cat_run e5 [10] e6 he6 (by simp; omega)
   rw [hD] at hdg
   rw [hR] at hpr
   unfold T.str at hpr
   clear hc c1 c2 c3 hx hts hD hR he1 he2 he3 he4 he5 he6 l1 l2 l3 l4 l5 l6 hle f1 f2 f3 hbl
   go_upto_region 5 with fail
   go_region_held (fun u => u.cell? ⟨b, off + k * 3, none⟩ = some (.string ⟨it.toArray⟩) ∧ u.cell? ⟨b, off + k * 3 + 1, none⟩ = some (.int .i64 (Q : Int)) ∧ u.cell? ⟨b, off + k * 3 + 2, none⟩ = some (.int .u64 (p : Int)))
    (first
     | exact ⟨d1, d2, d3⟩
     | exact ⟨s0, s1, s2⟩
     | exact ⟨r0', r1', r2'⟩)
    (first
     | (go_at_call 66
        refine (hdg _).mono ?_
        rintro e w2 ⟨rfl, hb2⟩
        have HB2 := Lib.hid ((Below.refl wr.heap.size wr).drew.trans hb2)
        have r0' := old_cell hb2 HBL.out d1
        have r1' := old_cell hb2 HBL.out d2
        have r2' := old_cell hb2 HBL.out d3
        clear hb2)
     | (go_at_call 55
        refine (hpr _).mono ?_
        rintro e w3 ⟨rfl, hb3⟩
        have HB3 := Lib.hid (HB2.out.trans (hb3.mono HB2.out.size))
        have s0 := old_cell HB3.out HBL.out d1
        have s1 := old_cell HB3.out HBL.out d2
        have s2 := old_cell HB3.out HBL.out d3
        clear hb3)
     | fail)
   go_wp2_with fail
   exact ⟨⟨k + 1, e6, by omega, by go_num, rfl, HE, Lib.hid (HB.out.trans (HB3.out.mono HB.out.size))⟩, by simp [intOf]; omega⟩
  ·have HV : Hid (t = linesT l) := Lib.hid (by have := HT.out; rwa [List.take_of_length_le (by omega)] at this)
   go_wp2_with fail
   go_ret
   exact ⟨by rw [HV.out]; rfl, HB.out⟩
end Go.Proofs.YtpdedfpacklnoaaGreatDoor
namespace Go.Proofs.YtpdedfpacklnoaaGreatDoor
open Go.RowKit Go.BL Go.Ct Go.Sl

/-- A panic asks the same of every slot's value. -/
def PG (Q : Exit → Act → World → Prop) : Prop := ∀ (j : Option Tmp) (v : Value) c (a : Act) w, Q (.panic c) (a.put j v) w → Q (.panic c) a w
theorem PG.body {P : Program} {f : Func} {R : Ending → World → Prop} : PG (bodyPost P f R) := fun j _ _ _ _ h => by cases j <;> exact h
theorem PG.then_ {K : Act → World → Prop} {Q : Exit → Act → World → Prop} (h : PG Q) : PG (Exit.then K Q) := fun j v c a w q => h j v c a w q
theorem PG.inBlock {n : Nat} {Q : Exit → Act → World → Prop} (h : PG Q) : PG (Exit.inBlock n Q) := fun j v c a w q => h j v c a w q
theorem hstart {P : Program} {ops : Array Oper} {Q : Exit → Act → World → Prop} {S : World → Prop} {id : Nat} {a : Act} {w : World} (hm : P.follows .mixedOrders = true) (hQ : PG Q) (hS : S w.drew)
  (h : PG Q → S w.drew → wpAnyH P .any ops Q S ops.size (Array.replicate ops.size false) a w.drew) : (Code.region id ops true).wp P Q a w := wp_region_held_drew hm hS (h hQ)
theorem htake {P : Program} {ops : Array Oper} {Q : Exit → Act → World → Prop} {md : Region.Mode} {S : World → Prop} {i : Nat} {oi : Oper} {v : Value} {fuel : Nat} {listed : Array Bool} {a : Act} {w : World} (hi : ops[i]? = some oi)
  (hs : Region.noSelect ops = true) (hf : Region.free md ops listed i = true) (hr : (Region.ready md ops listed).contains i = true) (hQ : PG Q) (hy : YieldsIf P ops S oi v a) (hS : S w)
  (h : wpAnyH P md ops Q S fuel (listed.setIfInBounds i true) (a.put oi.dst v) w) : wpAnyH P md ops Q S (fuel + 1) listed a w := wpAnyH_take hi hs hf hr (fun c a w h => hQ _ _ c a w h) hy hS h
/-- A block's first cells, none of them frozen. -/
def Bk (w : World) (B : Nat) (vs : List Value) : Prop := ∀ (i : Nat) (v : Value), vs[i]? = some v → w.cell? ⟨B, i, none⟩ = some v ∧ w.frozen? ⟨B, i, none⟩ = false
theorem Bk.below {w w' : World} {B C : Nat} {vs : List Value} (k : Bk w B vs) (hb : Below C w w') (hC : B < C) : Bk w' B vs :=
 fun i v h => ⟨(hb.cell hC).trans (k i v h).1, (hb.frozen hC).trans (k i v h).2⟩
theorem Bk.new (w : World) (vs : List Value) (t : TypeId) {B : Nat} (hB : B = w.heap.size) : Bk (w.alloc (.cells vs.toArray t)) B vs := by
 subst hB
 intro i v h
 refine ⟨?_, World.frozen?_alloc_new w _ t i⟩
 rw [World.cell?_alloc_at _ _ _ _ rfl]
 simpa using h
theorem Bk.alloc {w : World} {B : Nat} {vs : List Value} (k : Bk w B vs) (o : Obj) (hB : B < w.heap.size) : Bk (w.alloc o) B vs := k.below ((Below.refl w.heap.size w).alloc (Nat.le_refl _) o) hB
theorem Bk.other {w : World} {B : Nat} {vs : List Value} (k : Bk w B vs) {p : Addr} (hp : p.block ≠ B) (u : Value) : Bk (w.setCell p u) B vs := fun i v h => by
 refine ⟨(World.cell?_setCell_other _ _ _ _ (fun e => hp (by rw [e]))).trans (k i v h).1, ?_⟩
 rw [World.frozen?_setCell]
 exact (k i v h).2
theorem Bk.set {w : World} {B : Nat} {vs : List Value} (k : Bk w B vs) (j : Nat) (u : Value) : Bk (w.setCell ⟨B, j, none⟩ u) B (vs.set j u) := fun i v h => by
 rw [World.frozen?_setCell]
 by_cases e : i = j
 ·subst e
  rw [List.getElem?_set_self'] at h
  cases hv : vs[i]? with
  | none => rw [hv] at h; cases h
  | some x =>
   rw [hv] at h
   have h' : some u = some v := h
   injection h' with h'
   subst h'
   exact ⟨World.cell?_setCell_same _ _ _ (k i x hv).1, (k i x hv).2⟩
 ·rw [List.getElem?_set_ne (fun h => e h.symm)] at h
  have hk := k i v h
  refine ⟨(World.cell?_setCell_other _ _ _ _ (fun e2 => e (by injection e2 with _ e3; exact e3.symm))).trans hk.1, hk.2⟩
theorem Bk.drewN {w : World} {B : Nat} {vs : List Value} (k : Bk w B vs) (n : Nat) : Bk (w.drewN n) B vs := k
theorem Bk.lt {w : World} {B : Nat} {v : Value} {vs : List Value} (k : Bk w B (v :: vs)) : B < w.heap.size := lt_block (k 0 v rfl).1
end Go.Proofs.YtpdedfpacklnoaaGreatDoor
