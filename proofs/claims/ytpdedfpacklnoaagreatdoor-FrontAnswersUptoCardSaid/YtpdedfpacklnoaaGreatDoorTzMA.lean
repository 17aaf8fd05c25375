/- Words on memory: a row of bytes that a conversion of a string has made (its mark lies behind the row), and appends of strings onto it. Plain: a request's bytes. No program. Contracts of slices.Equal a -/
import Derived.Test.YtpdedfpacklnoaaGreatDoorTzMH
import Derived.Test.YtpdedfpacklnoaaGreatDoorTzMR
import Derived.Test.YtpdedfpacklnoaaGreatDoorTzMh2
import Derived.Lib.AppendStr
import Derived.Lib.ConvBytes
import Derived.Lib.AtoiAll
import Derived.Deep.RegionHeld
namespace Go.Proofs.YtpdedfpacklnoaaGreatDoor.H
open Go.RowKit Go.BL

theorem byte_all (P : UInt8 → Prop) [DecidablePred P] (h : ∀ n : Fin 256, P (UInt8.ofNat n.val)) (x : UInt8) : P x := by
 have := h ⟨x.toNat, x.toNat_lt⟩
 simpa using this
def clK : List UInt8 := [99, 111, 110, 116, 101, 110, 116, 45, 108, 101, 110, 103, 116, 104]
/-- What the digits come to. -/
def numL (s : List UInt8) : Nat := (Lib.decFrom 0 s).getD 0
theorem dig_val {c : UInt8} (h : dig c = true) : Lib.digitVal c = some (c.toNat - 48) ∧ c ≠ 45 ∧ c ≠ 43 := by
 simp [dig] at h
 unfold Lib.digitVal
 refine ⟨by rw [if_pos h], ?_, ?_⟩ <;> · rintro rfl; simp at h
theorem dec_all : ∀ (s : List UInt8) (acc : Nat), s.all dig = true → ∃ n, Lib.decFrom acc s = some n
 | [], acc, _ => ⟨acc, rfl⟩
 | c :: r, acc, h => by
  simp only [List.all_cons, Bool.and_eq_true] at h
  simp only [Lib.decFrom, (dig_val h.1).1]
  exact dec_all r _ h.2
theorem atoi_num {s : List UInt8} (h0 : s ≠ []) (h : s.all dig = true) : Lib.atoi s = some (numL s : Int) := by
 obtain ⟨n, hn⟩ := dec_all s 0 h
 cases s with
 | nil => exact absurd rfl h0
 | cons c r =>
  simp only [List.all_cons, Bool.and_eq_true] at h
  obtain ⟨_, h1, h2⟩ := dig_val h.1
  have e : Lib.decNat (c :: r) = some n := hn
  unfold numL Lib.atoi
  show (if (c == 45) = true then _ else if (c == 43) = true then _ else Option.map _ (Lib.decNat (c :: r))) = _
  rw [if_neg (by simpa using h1), if_neg (by simpa using h2), e, hn]
  rfl

def sep4 : List UInt8 := [13, 10, 13, 10]
def crb (c : UInt8) : Bool := c == 13 || c == 10
def crL (s : List UInt8) : Bool := s.any crb
end Go.Proofs.YtpdedfpacklnoaaGreatDoor.H
namespace Go.Proofs.YtpdedfpacklnoaaGreatDoor.H
set_option maxRecDepth 100000
open Go.RowKit Go.BL

/-- Nothing frozen lies within so many cells. -/
def Past (fz : Nat × Nat) (n : Nat) : Prop := ∀ k, k < n → ¬ (fz.1 ≤ k ∧ k < fz.2)
/-- The value is a row of the call's own (behind base) that holds these bytes. -/
def OwnM (w : World) (B : Nat) (v : Value) (bs : List UInt8) : Prop :=
 ∃ (g cap : Nat) (cur : Array Value) (fz : Nat × Nat), v = .slice (some ⟨g, 0, none⟩) bs.length cap ∧ B ≤ g ∧ w.heap[g]? = some (.cells cur 5 fz) ∧ Past fz cur.size ∧ bs.length ≤ cap ∧ cap ≤ maxLen ∧ cur.size = cap ∧ cur.toList.take bs.length = Lib.strCells ⟨bs.toArray⟩
theorem OwnM.lt {w : World} {g : Nat} {o : Obj} (h : w.heap[g]? = some o) : g < w.heap.size := by
 rcases Nat.lt_or_ge g w.heap.size with h' | h'
 ·exact h'
 ·rw [Array.getElem?_eq_none h'] at h; cases h
theorem OwnM.conv (bs : List UInt8) (hb : bs.length ≤ 1000000000000) (w : World) : ∃ v w', (convert 9 75 (.string ⟨bs.toArray⟩)).run Tryz.prog w = .ok v w' ∧ OwnM w' w.heap.size v bs ∧ Below w.heap.size w w' := by
 have hge := grownCap_ge w bs.length 0 5
 refine ⟨_, _, Lib.run_convert_string_bytes w 9 75 5 ⟨bs.toArray⟩ Tryz.underlying9 Tryz.underlying75 Tryz.underlying5, ⟨w.heap.size, _, _, _, rfl, Nat.le_refl _, Lib.bytesWorld_at_new w 5 _, fun k hk h => by have := h.1; simp only at this; omega, hge, grownCap_le_maxLen w bs.length 0 5 (by unfold maxLen; omega), ?_, ?_⟩, Lib.bytesWorld_below w 5 _⟩
 ·simp only [Lib.bytesCells, Array.size_append, Array.size_map, Array.size_replicate, List.size_toArray]
  show bs.length + (grownCap w bs.length 0 5 - bs.length) = grownCap w bs.length 0 5
  omega
 ·simp [Lib.bytesCells, Lib.strCells]
end Go.Proofs.YtpdedfpacklnoaaGreatDoor.H
namespace Go.Proofs.YtpdedfpacklnoaaGreatDoor.H
set_option maxRecDepth 100000

def lineT (h : Hdr) : List UInt8 := h.1 ++ [58, 32] ++ h.2 ++ [13, 10]
def textL : List Hdr → List UInt8
 | [] => []
 | h :: r => lineT h ++ textL r
theorem text_one (h : Hdr) : textL [h] = lineT h := by simp [textL]
end Go.Proofs.YtpdedfpacklnoaaGreatDoor.H
namespace Go.Proofs.YtpdedfpacklnoaaGreatDoor.H
set_option maxRecDepth 100000
open Go.RowKit Go.BL

def txs (ls : List (List UInt8)) : List Value := ls.map fun x => .string ⟨x.toArray⟩
/-- The value is a row of the call's own (behind base) that holds these texts. -/
def OwnS (w : World) (B : Nat) (v : Value) (ls : List (List UInt8)) : Prop := w.ownsRow B 9 1 v ls.length (txs ls)
theorem OwnS.nil (w : World) (B : Nat) : OwnS w B (.slice none 0 0) [] := ⟨rfl, .inl ⟨rfl, rfl⟩⟩
end Go.Proofs.YtpdedfpacklnoaaGreatDoor.H
namespace Go.Proofs.YtpdedfpacklnoaaGreatDoor.H
set_option maxRecDepth 100000

/- Trimmed. -/
section trim
variable (p : UInt8 → Bool)
def dropR (l : List UInt8) : List UInt8 := (l.reverse.dropWhile p).reverse
theorem dropR_cons (x : UInt8) (t : List UInt8) : dropR p (x :: t) = if dropR p t = [] then (if p x then [] else [x]) else x :: dropR p t := by
 unfold dropR
 rw [List.reverse_cons, List.dropWhile_append]
 cases h : t.reverse.dropWhile p with
 | nil => cases hx : p x <;> simp [List.dropWhile, hx]
 | cons a r => simp
theorem drop_comm : ∀ l : List UInt8, dropR p (l.dropWhile p) = (dropR p l).dropWhile p
 | [] => rfl
 | x :: t => by
  rw [dropR_cons]
  cases hx : p x with
  | true =>
   rw [List.dropWhile_cons_of_pos hx, drop_comm t]
   by_cases h : dropR p t = []
   ·rw [if_pos h, h]; simp
   ·rw [if_neg h, List.dropWhile_cons_of_pos hx]
  | false =>
   rw [List.dropWhile_cons_of_neg (by simp [hx]), dropR_cons, hx]
   by_cases h : dropR p t = []
   ·rw [if_pos h]; simp [hx]
   ·rw [if_neg h, List.dropWhile_cons_of_neg (by simp [hx])]
end trim
theorem bla_eq : (fun c : UInt8 => blanks.contains c) = bla := by
 funext c
 have h : ∀ c : UInt8, blanks.contains c = bla c := fun c => byte_all (fun c => blanks.contains c = bla c) (by decide +kernel) c
 exact h c
theorem trim_eq (s : List UInt8) : trimL s = dropR bla (s.dropWhile bla) := by
 rw [drop_comm]
 unfold trimL Lib.trimS Lib.trimLeftS Lib.trimRightS dropR
 rw [← bla_eq]
/- A header. -/
/- A first line. -/
/- How long the body must be. -/
def digitsL (s : List UInt8) : Option Nat := if s ≠ [] ∧ s.length ≤ 9 ∧ s.all dig = true then some (numL s) else none
end Go.Proofs.YtpdedfpacklnoaaGreatDoor.H
namespace Go.Proofs.YtpdedfpacklnoaaGreatDoor.H
set_option maxRecDepth 100000
open Go.RowKit

theorem digitR_any (c : UInt8) (w : World) : Calls Tryz.prog 178 #[.int .u8 (c.toNat : Int)] w fun e w' => e = .returned (.bool (dig c)) ∧ w = w' := by
 go_enter Tryz.func178, Tryz.ntmps178
 go_wp2
 all_goals go_ret
 all_goals (refine ⟨congrArg (fun b => Ending.returned (Value.bool b)) ?_, rfl⟩; rw [Bool.eq_iff_iff]; simp [dig]; omega)
theorem sl_mid (s : List UInt8) (i j : Nat) (l h : Int) (hl : l = i) (hh : h = j) (h1 : i ≤ j) (h2 : j ≤ s.length) (w : World) :
  (Instr.slice 9 (.string ⟨s.toArray⟩) (some (.int .i64 l)) (some (.int .i64 h)) none).run Tryz.prog w = .ok (.string ⟨((s.drop i).take (j - i)).toArray⟩) w := by
 subst hl hh
 rw [run_slice_string w 9 ⟨s.toArray⟩ .i64 .i64 i j Tryz.underlying9 (by omega) (by omega) (by show (j : Int) ≤ (s.length : Int); omega)]
 simp only [Int.toNat_natCast, ext_mid]
end Go.Proofs.YtpdedfpacklnoaaGreatDoor.H
namespace Go.Proofs.YtpdedfpacklnoaaGreatDoor.H
set_option maxRecDepth 100000
open Go.RowKit Go.BL

theorem dig_num {x : UInt8} (h : dig x = true) : ∃ d : Nat, d ≤ 9 ∧ IntKind.u8.wrap ((x.toNat : Int) - 48) = (d : Int) ∧ Lib.digitVal x = some d := by
 have h1 := (dig_val h).1
 simp [dig] at h
 refine ⟨x.toNat - 48, by omega, ?_, h1⟩
 simp [IntKind.wrap, IntKind.signed, IntKind.bits]
 omega
def DigR (s : List UInt8) (w : World) (e : Ending) (w' : World) : Prop := w = w' ∧ ∃ m : Nat, e = .returned (.tuple #[.int .i64 (m : Int), .bool (digitsL s).isSome]) ∧ m ≤ 999999999 ∧ ∀ k, digitsL s = some k → m = k
set_option maxRecDepth 100000 in
theorem digitsR_any (s : List UInt8) (hs : s.length ≤ 1073741824) (w : World) : Calls Tryz.prog 133 #[.string ⟨s.toArray⟩] w (DigR s w) := by
 go_enter Tryz.func133, Tryz.ntmps133
 go_wp2_with fail
 go_loop [4, 5] (fun a j => ∃ n k : Nat, a = .int .i64 (n : Int) ∧ j = .int .i64 (k : Int) ∧ k ≤ s.length ∧ k ≤ 9 ∧ n < 10 ^ k ∧ Hid ((s.take k).all dig = true) ∧ Hid (Lib.decFrom 0 (s.take k) = some n)) (fun _ j => s.length - (intOf j).toNat)
 case atStart => exact ⟨0, 0, rfl, rfl, by omega, by omega, by decide, Lib.hid rfl, Lib.hid rfl⟩
 case round =>
  obtain ⟨n, k, rfl, rfl, hk, hk9, hn, Hk, Hd⟩ := hrel
  have hn9 : n ≤ 999999999 := by
   have := Nat.pow_le_pow_right (n := 10) (by decide) hk9
   omega
  have HP := Lib.hid hn
  clear hn
  by_cases hlt : k < s.length
  ·obtain ⟨x, hx⟩ : ∃ x, (⟨s.toArray⟩ : ByteArray)[k]'hlt = x := ⟨_, rfl⟩
   have Hx : Hid (s[k]? = some x) := Lib.hid (by rw [← hx, List.getElem?_eq_getElem hlt]; rfl)
   obtain ⟨d, hd⟩ : ∃ d, dig x = d := ⟨_, rfl⟩
   have hdi := digitR_any x
   rw [hd] at hdi
   cases d
   ·have HF : Hid (digitsL s = none) := Lib.hid (by
     have : s.all dig = false := by
      rw [List.all_eq_false]
      exact ⟨x, List.mem_of_getElem? Hx.out, by rw [hd]; decide⟩
     unfold digitsL
     rw [if_neg (by rw [this]; simp)])
    clear hd
    go_wp2_with (go_at_call 178; refine (hdi _).mono ?_; rintro e w' ⟨rfl, rfl⟩)
    go_ret2
    exact ⟨rfl, 0, by rw [HF.out]; rfl, by decide, fun k h => by rw [HF.out] at h; cases h⟩
   ·by_cases h9 : 9 ≤ k
    ·have HF : Hid (digitsL s = none) := Lib.hid (by
      unfold digitsL
      rw [if_neg (by omega)])
     clear hd
     go_wp2_with (go_at_call 178; refine (hdi _).mono ?_; rintro e w' ⟨rfl, rfl⟩)
     go_ret2
     exact ⟨rfl, 0, by rw [HF.out]; rfl, by decide, fun k h => by rw [HF.out] at h; cases h⟩
    ·obtain ⟨v, hv9, hw, hv⟩ := dig_num hd
     have HK : Hid ((s.take (k + 1)).all dig = true) := Lib.hid (by
      rw [List.take_add_one, Hx.out, List.all_append, Hk.out]; simp [hd])
     have HD : Hid (Lib.decFrom 0 (s.take (k + 1)) = some (n * 10 + v)) := Lib.hid (Lib.decFrom_take s k 0 n x v Hd.out Hx.out hv)
     have HP2 : Hid (n * 10 + v < 10 ^ (k + 1)) := Lib.hid (by have := HP.out; rw [Nat.pow_succ]; omega)
     have hn8 : n ≤ 99999999 := by
      have h1 := Nat.pow_le_pow_right (n := 10) (by decide) (show k ≤ 8 by omega)
      have h2 := HP.out
      omega
     clear hd hv
     go_wp2_with (go_at_call 178; refine (hdi _).mono ?_; rintro e w' ⟨rfl, rfl⟩)
     exact ⟨⟨n * 10 + v, k + 1, by go_num, by go_num, by omega, by omega, HP2.out, HK, HD⟩, by simp [intOf]; omega⟩
  ·have HA : Hid (s.all dig = true) := Lib.hid (by have := Hk.out; rwa [List.take_of_length_le (by omega)] at this)
   have HD : Hid (numL s = n) := Lib.hid (by have := Hd.out; rw [List.take_of_length_le (by omega)] at this; unfold numL; rw [this]; rfl)
   have HF : Hid (digitsL s = if s ≠ [] then some n else none) := Lib.hid (by
    unfold digitsL
    by_cases h : s = []
    ·rw [if_neg (by simp [h]), if_neg (by simp [h])]
    ·rw [if_pos ⟨h, by omega, HA.out⟩, if_pos h, HD.out])
   cases s with
   | nil =>
    have hlt2 : ¬ (k : Int) < 0 := by omega
    go_wp2_with fail
    go_ret2
    exact ⟨rfl, n, by rw [HF.out]; rfl, hn9, fun k h => by rw [HF.out] at h; cases h⟩
   | cons a t =>
    have hlt2 : ¬ (k : Int) < (t.length : Int) + 1 := by simp at hlt; omega
    go_wp2_with fail
    go_ret2
    exact ⟨rfl, n, by rw [HF.out]; rfl, hn9, fun k h => by rw [HF.out, if_pos (by simp)] at h; injection h⟩
end Go.Proofs.YtpdedfpacklnoaaGreatDoor.H
namespace Go.Proofs.YtpdedfpacklnoaaGreatDoor.H
set_option maxRecDepth 100000

structure Ans where
 st : Int
 hs : List Hdr
 b : List UInt8
def fieldL (h : Hdr) : Bool := tokenL h.1 && (smallL h.1 == h.1) && !(h.1 == clK) && valueL h.2
def stat11 : List UInt8 := [72, 84, 84, 80, 47, 49, 46, 49, 32]
def lineA (n : Int) : List UInt8 := stat11 ++ Lib.itoa n ++ [32] ++ reasonL n
def clT : List UInt8 := [99, 111, 110, 116, 101, 110, 116, 45, 108, 101, 110, 103, 116, 104, 58, 32]
def clLine (n : Nat) : List UInt8 := clT ++ Lib.itoa n
def headA (a : Ans) : List UInt8 := lineA a.st ++ [13, 10] ++ textL a.hs ++ clLine a.b.length ++ sep4
def statusL (l : List UInt8) : Int :=
 if Lib.hasPrefix l stat11 = false then 0
 else if (l.drop 9).length < 4 then 0
 else if (l.drop 9)[3]? ≠ some 32 then 0
 else if ((l.drop 9).take 3).all dig = false then 0
 else if reasonL (numL ((l.drop 9).take 3)) = [] ∨ reasonL (numL ((l.drop 9).take 3)) ≠ (l.drop 9).drop 4 then 0
 else (numL ((l.drop 9).take 3) : Int)
def atoiOk (v : List UInt8) : Bool := match Lib.atoiAll v with
 | .ok n => decide (0 ≤ n) && (Lib.itoa n == v)
 | _ => false
def readH : List (List UInt8) → Nat → List Hdr → List UInt8 → Except Int (List Hdr × List UInt8)
 | [], _, hs, len => .ok (hs, len)
 | l :: r, i, hs, len =>
  if r = [] ∧ (cutL l [58, 32]).1 = clK then
   if (cutL l [58, 32]).2.2 = true ∧ atoiOk (cutL l [58, 32]).2.1 = true ∧ i < 32 then readH r (i + 1) hs (cutL l [58, 32]).2.1 else .error 141
  else if (cutL l [58, 32]).2.2 = true ∧ fieldL ((cutL l [58, 32]).1, (cutL l [58, 32]).2.1) = true ∧ i < 32 then readH r (i + 1) (hs ++ [((cutL l [58, 32]).1, (cutL l [58, 32]).2.1)]) len
  else .error 141
def readL (b : List UInt8) : Except Int Ans :=
 if (cutL b sep4).2.2 = false then .error 140
 else match lns (cutL b sep4).1 [13, 10] with
  | [] => .error 140
  | l0 :: r => if statusL l0 = 0 then .error 140 else
   match readH r 0 [] [] with
   | .error c => .error c
   | .ok (hs, len) => if len ≠ Lib.itoa ((cutL b sep4).2.1.length : Nat) ∨ 4096 < (cutL b sep4).2.1.length then .error 142
    else if 65536 < (cutL b sep4).1.length then .error 4
    else .ok ⟨statusL l0, hs, (cutL b sep4).2.1⟩
/- Lines joined. -/
/-- A line: no end of line in it, and not empty. -/
def Line (l : List UInt8) : Prop := l ≠ [] ∧ crL l = false
/- The first empty line. -/
/- Numbers. -/
theorem dec_snoc : ∀ (l : List UInt8) (acc n : Nat) (b : UInt8) (d : Nat), Lib.decFrom acc l = some n → Lib.digitVal b = some d → Lib.decFrom acc (l ++ [b]) = some (n * 10 + d)
 | [], acc, n, b, d, h, hd => by
  simp only [Lib.decFrom, Option.some.injEq] at h
  simp only [List.nil_append, Lib.decFrom, hd, h]
 | c :: r, acc, n, b, d, h, hd => by
  simp only [Lib.decFrom] at h
  simp only [List.cons_append, Lib.decFrom]
  cases e : Lib.digitVal c with
  | none => rw [e] at h; cases h
  | some k => rw [e] at h; exact dec_snoc r _ n b d h hd
theorem digit_of (d : Nat) (h : d < 10) : dig (UInt8.ofNat (48 + d)) = true ∧ Lib.digitVal (UInt8.ofNat (48 + d)) = some d := by
 have : ∀ k : Fin 10, dig (UInt8.ofNat (48 + k.val)) = true ∧ Lib.digitVal (UInt8.ofNat (48 + k.val)) = some k.val := by decide
 exact this ⟨d, h⟩
theorem digits_ok (u : Nat) : (Lib.decDigits u).all dig = true ∧ Lib.decDigits u ≠ [] ∧ Lib.decFrom 0 (Lib.decDigits u) = some u := by
 induction u using Nat.strongRecOn with
 | _ u ih =>
  rw [Lib.decDigits]
  by_cases h : u < 10
  ·rw [dif_pos h]
   obtain ⟨h1, h2⟩ := digit_of u h
   generalize UInt8.ofNat (48 + u) = c at *
   refine ⟨by simp [h1], by simp, ?_⟩
   simp only [Lib.decFrom, h2]
   simp
  ·rw [dif_neg h]
   obtain ⟨h1, h2⟩ := digit_of (u % 10) (by omega)
   obtain ⟨i1, i2, i3⟩ := ih (u / 10) (by omega)
   generalize UInt8.ofNat (48 + u % 10) = c at *
   refine ⟨by rw [List.all_append, i1]; simp [h1], by simp, ?_⟩
   rw [dec_snoc _ 0 (u / 10) _ (u % 10) i3 h2]
   congr 1
   omega
theorem digits_len : ∀ (k u : Nat), u < 10 ^ (k + 1) → (Lib.decDigits u).length ≤ k + 1
 | 0, u, h => by rw [Lib.decDigits, dif_pos (by simpa using h)]; simp
 | k + 1, u, h => by
  rw [Lib.decDigits]
  split
  ·simp
  ·have := digits_len k (u / 10) (by rw [Nat.pow_succ] at h; omega)
   simp
   omega
theorem atoi_itoa (n : Nat) (h : n ≤ 4096) : Lib.atoiAll (Lib.itoa (n : Int)) = .ok (n : Int) := by
 obtain ⟨h1, h2, h3⟩ := digits_ok n
 have h4 := digits_len 3 n (by omega)
 rw [Lib.itoa_nonneg, Lib.atoiAll_short _ (by omega), atoi_num h2 h1]
 unfold numL
 rw [h3]
 rfl
theorem atoiOk_itoa (n : Nat) (h : n ≤ 4096) : atoiOk (Lib.itoa (n : Int)) = true := by
 unfold atoiOk
 rw [atoi_itoa n h]
 simp
/- Cuts. -/
theorem tok_facts (c : UInt8) : tokb c = true → c ≠ 58 ∧ crb c = false := byte_all (fun c => tokb c = true → c ≠ 58 ∧ crb c = false) (by decide +kernel) c
theorem vab_facts (c : UInt8) : vab c = true → crb c = false := byte_all (fun c => vab c = true → crb c = false) (by decide +kernel) c
theorem dig_facts (c : UInt8) : dig c = true → crb c = false := byte_all (fun c => dig c = true → crb c = false) (by decide +kernel) c
theorem ix_colon : ∀ {x r : List UInt8}, (∀ c ∈ x, c ≠ 58) → Lib.index (x ++ 58 :: 32 :: r) [58, 32] = (x.length : Int)
 | [], r, _ => by
  show Lib.index (58 :: 32 :: r) [58, 32] = _
  rw [index_cons, if_pos (by simp [List.isPrefixOf])]
  rfl
 | c :: t, r, h => by
  have ih := ix_colon (x := t) (r := r) (fun c hc => h c (by simp [hc]))
  have hc := h c (by simp)
  show Lib.index (c :: (t ++ 58 :: 32 :: r)) [58, 32] = _
  rw [index_cons, if_neg (by simp [List.isPrefixOf]; intro e; exact absurd e.symm hc), if_neg (by rw [ih, beq_iff_eq]; omega), ih]
  simp
def lineH (h : Hdr) : List UInt8 := h.1 ++ 58 :: 32 :: h.2
theorem cut_colon {x r : List UInt8} (h : ∀ c ∈ x, c ≠ 58) : cutL (x ++ 58 :: 32 :: r) [58, 32] = (x, r, true) := by
 unfold cutL Lib.cut
 rw [ix_colon h, if_pos (by omega)]
 simp only [Int.toNat_natCast, List.take_left]
 have e : (x ++ 58 :: 32 :: r).drop (x.length + ([58, 32] : List UInt8).length) = r := by
  rw [show x ++ 58 :: 32 :: r = (x ++ [58, 32]) ++ r by simp, List.drop_left' (by simp)]
 rw [e]
theorem field_parts {h : Hdr} (hf : fieldL h = true) : tokenL h.1 = true ∧ smallL h.1 = h.1 ∧ h.1 ≠ clK ∧ valueL h.2 = true := by
 unfold fieldL at hf
 simp only [Bool.and_eq_true, beq_iff_eq, Bool.not_eq_true', beq_eq_false_iff_ne] at hf
 exact ⟨hf.1.1.1, hf.1.1.2, hf.1.2, hf.2⟩
theorem token_all {s : List UInt8} (h : tokenL s = true) : ∀ c ∈ s, tokb c = true := by
 unfold tokenL at h
 simp only [Bool.and_eq_true, List.all_eq_true] at h
 exact h.2
theorem value_all {s : List UInt8} (h : valueL s = true) : ∀ c ∈ s, vab c = true := by
 unfold valueL at h
 simp only [Bool.and_eq_true, List.all_eq_true] at h
 exact h.2
theorem crL_of {s : List UInt8} (h : ∀ c ∈ s, crb c = false) : crL s = false := by
 unfold crL
 rw [List.any_eq_false]
 intro c hc
 rw [h c hc]; decide
theorem crL_app (a b : List UInt8) : crL (a ++ b) = (crL a || crL b) := by unfold crL; rw [List.any_append]
theorem line_field {h : Hdr} (hf : fieldL h = true) : Line (lineH h) ∧ cutL (lineH h) [58, 32] = (h.1, h.2, true) := by
 obtain ⟨h1, _, _, h4⟩ := field_parts hf
 refine ⟨⟨by unfold lineH; simp, ?_⟩, cut_colon (fun c hc => (tok_facts c (token_all h1 c hc)).1)⟩
 unfold lineH
 rw [show h.1 ++ 58 :: 32 :: h.2 = h.1 ++ ([58, 32] ++ h.2) from rfl, crL_app, crL_app, crL_of (fun c hc => (tok_facts c (token_all h1 c hc)).2), crL_of (s := h.2) (fun c hc => vab_facts c (value_all h4 c hc))]
 decide
theorem itoa_line (n : Nat) : crL (Lib.itoa (n : Int)) = false := by
 rw [Lib.itoa_nonneg]
 refine crL_of (fun c hc => dig_facts c ?_)
 exact List.all_eq_true.1 (digits_ok n).1 c hc
theorem line_cl (n : Nat) : Line (clLine n) ∧ cutL (clLine n) [58, 32] = (clK, Lib.itoa (n : Int), true) := by
 refine ⟨⟨by unfold clLine clT; simp, ?_⟩, ?_⟩
 ·unfold clLine
  rw [crL_app, itoa_line]
  decide
 ·exact cut_colon (x := clK) (r := Lib.itoa (n : Int)) (by decide)
def statuses : List Int := [200, 400, 404, 405, 413, 414, 431, 500, 501, 503, 504, 505, 507]
theorem reason_in {n : Int} (h : reasonL n ≠ []) : n ∈ statuses := by
 refine Decidable.byContradiction (fun hn => h ?_)
 unfold statuses at hn
 simp only [List.mem_cons, List.not_mem_nil, or_false, not_or] at hn
 unfold reasonL
 rw [if_neg (hn.1), if_neg (hn.2.1), if_neg (hn.2.2.1), if_neg (hn.2.2.2.1), if_neg (hn.2.2.2.2.1), if_neg (hn.2.2.2.2.2.1), if_neg (hn.2.2.2.2.2.2.1), if_neg (hn.2.2.2.2.2.2.2.1), if_neg (hn.2.2.2.2.2.2.2.2.1), if_neg (hn.2.2.2.2.2.2.2.2.2.1), if_neg (hn.2.2.2.2.2.2.2.2.2.2.1), if_neg (hn.2.2.2.2.2.2.2.2.2.2.2.1), if_neg (hn.2.2.2.2.2.2.2.2.2.2.2.2)]
theorem read_all {n : Nat} (hn : n ≤ 4096) : ∀ (hs : List Hdr) (i : Nat) (acc : List Hdr) (len : List UInt8), hs.all fieldL = true → hs.length + i < 32 → readH (hs.map lineH ++ [clLine n]) i acc len = .ok (acc ++ hs, Lib.itoa (n : Int))
 | [], i, acc, len, _, hi => by
  simp only [List.map_nil, List.nil_append, readH, (line_cl n).2]
  have hi2 : i < 32 := by simpa using hi
  simp [atoiOk_itoa n hn, hi2]
 | x :: r, i, acc, len, hf, hi => by
  simp only [List.all_cons, Bool.and_eq_true] at hf
  simp only [List.map_cons, List.cons_append, readH, (line_field hf.1).2]
  have hi2 : i < 32 := by simp at hi; omega
  have ih := read_all hn r (i + 1) (acc ++ [(x.1, x.2)]) len hf.2 (by simp at hi; omega)
  rw [if_neg (by simp), if_pos (by simp [hf.1, hi2]), ih]
  simp
/- What was read. -/
theorem itoa_in : ∀ n ∈ statuses, ∃ a b c : UInt8, Lib.itoa n = [a, b, c] ∧ n = (a.toNat - 48) * 100 + (b.toNat - 48) * 10 + (c.toNat - 48) ∧ (48 ≤ a.toNat ∧ a.toNat ≤ 57) ∧ (48 ≤ b.toNat ∧ b.toNat ≤ 57) ∧ 48 ≤ c.toNat ∧ c.toNat ≤ 57 := by
 intro n hn
 unfold statuses at hn
 simp only [List.mem_cons, List.not_mem_nil, or_false] at hn
 rcases hn with rfl | rfl | rfl | rfl | rfl | rfl | rfl | rfl | rfl | rfl | rfl | rfl | rfl
 ·exact ⟨50, 48, 48, by decide +kernel, by decide, by decide, by decide, by decide⟩
 ·exact ⟨52, 48, 48, by decide +kernel, by decide, by decide, by decide, by decide⟩
 ·exact ⟨52, 48, 52, by decide +kernel, by decide, by decide, by decide, by decide⟩
 ·exact ⟨52, 48, 53, by decide +kernel, by decide, by decide, by decide, by decide⟩
 ·exact ⟨52, 49, 51, by decide +kernel, by decide, by decide, by decide, by decide⟩
 ·exact ⟨52, 49, 52, by decide +kernel, by decide, by decide, by decide, by decide⟩
 ·exact ⟨52, 51, 49, by decide +kernel, by decide, by decide, by decide, by decide⟩
 ·exact ⟨53, 48, 48, by decide +kernel, by decide, by decide, by decide, by decide⟩
 ·exact ⟨53, 48, 49, by decide +kernel, by decide, by decide, by decide, by decide⟩
 ·exact ⟨53, 48, 51, by decide +kernel, by decide, by decide, by decide, by decide⟩
 ·exact ⟨53, 48, 52, by decide +kernel, by decide, by decide, by decide, by decide⟩
 ·exact ⟨53, 48, 53, by decide +kernel, by decide, by decide, by decide, by decide⟩
 ·exact ⟨53, 48, 55, by decide +kernel, by decide, by decide, by decide, by decide⟩
end Go.Proofs.YtpdedfpacklnoaaGreatDoor.H
namespace Go.Proofs.YtpdedfpacklnoaaGreatDoor.H
set_option maxRecDepth 100000
open Go.RowKit Go.BL

theorem Bsl.conv {w : World} {v : Value} {b : List UInt8} (h : Bsl w v b) : (convert 75 9 v).run Tryz.prog w = .ok (.string ⟨b.toArray⟩) w := by
 obtain ⟨_, ⟨A, c, rfl, rfl, _⟩ | ⟨blk, off, c, rfl, _, _, hc⟩⟩ := h
 ·exact conv_zero w A c
 ·exact conv_some w blk off b.length c b rfl hc
end Go.Proofs.YtpdedfpacklnoaaGreatDoor.H
namespace Go.Proofs.YtpdedfpacklnoaaGreatDoor.H
set_option maxRecDepth 100000
open Go.RowKit Go.BL

theorem pputH (P : Program) (f : Func) (R : Ending → World → Prop) (K : Act → World → Prop) (j : Option Tmp) (v : Value) : ∀ c (a : Act) w, Exit.then K (bodyPost P f R) (.panic c) (a.put j v) w → Exit.then K (bodyPost P f R) (.panic c) a w := fun _ _ _ h => by cases j <;> exact h
end Go.Proofs.YtpdedfpacklnoaaGreatDoor.H
namespace Go.Proofs.YtpdedfpacklnoaaGreatDoor.H
set_option maxRecDepth 100000
open Go.RowKit Go.BL

/-- An answer's value. -/
def ansV (a : Ans) (h : Value) : Value := .agg #[.int .i64 a.st, h, .string ⟨a.b.toArray⟩]
def sameA (a b : Ans) : Bool := (a.st == b.st) && (a.b == b.b) && decide (a.hs = b.hs)
set_option maxHeartbeats 4000000 in
set_option maxRecDepth 100000 in
theorem sameA_any (a b : Ans) (v u : Value) (w : World) (hv : Hdrs w v a.hs) (hu : Hdrs w u b.hs) : Calls Tryz.prog 30 #[ansV a v, ansV b u] w (RetV (.bool (sameA a b)) w) := by
 obtain ⟨A, c, rfl⟩ := hv.form
 obtain ⟨D, d, rfl⟩ := hu.form
 obtain ⟨m1, hs1, b1⟩ := a
 obtain ⟨m2, hs2, b2⟩ := b
 unfold ansV sameA
 simp only at hv hu ⊢
 have hh := fun w (h1 : Hdrs w (.slice A hs1.length c) hs1) (h2 : Hdrs w (.slice D hs2.length d) hs2) => sameH_any hs1 hs2 _ _ w h1 h2
 have HV := Lib.hid hv
 have HU := Lib.hid hu
 clear hv hu
 generalize hq1 : (m1 == m2) = q1
 generalize hq3 : (b1 == b2) = q3
 generalize decide (hs1 = hs2) = q4 at *
 cases q1
 case false =>
  go_enter Tryz.func30, Tryz.ntmps30
  go_wp2_with fail
  go_ret
  exact ⟨rfl, ((Below.refl _ _).alloc (Nat.le_refl _) _).alloc (by simp) _⟩
 cases q3
 case false =>
  go_enter Tryz.func30, Tryz.ntmps30
  go_wp2_with fail
  go_ret
  exact ⟨rfl, ((Below.refl _ _).alloc (Nat.le_refl _) _).alloc (by simp) _⟩
 go_enter Tryz.func30, Tryz.ntmps30
 go_wp2_with (go_at_call 52; refine (hh _ ((HV.out.alloc _).alloc _) ((HU.out.alloc _).alloc _)).mono ?_; rintro e w3 ⟨rfl, hb⟩; have HB := Lib.hid hb; clear hb)
 go_ret
 exact ⟨by simp, below_alloc (below_alloc HB.out)⟩
theorem head_len (a : Ans) : (headA a).length = (lineA a.st).length + (textL a.hs).length + (Lib.itoa (a.b.length : Int)).length + 22 := by
 simp [headA, clLine, clT, sep4]; omega
theorem line_len (n : Int) : (lineA n).length = (Lib.itoa n).length + (reasonL n).length + 10 := by
 simp [lineA, stat11]; omega
end Go.Proofs.YtpdedfpacklnoaaGreatDoor.H
