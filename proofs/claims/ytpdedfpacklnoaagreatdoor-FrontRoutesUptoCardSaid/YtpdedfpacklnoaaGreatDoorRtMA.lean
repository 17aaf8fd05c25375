/- Words on memory: a row of bytes that a conversion of a string has made (its mark lies behind the row), and appends of strings onto it. Plain: a request's bytes. No program. Contracts of slices.Equal a -/
import Derived.Test.YtpdedfpacklnoaaGreatDoorRtMH
import Derived.Test.YtpdedfpacklnoaaGreatDoorRtMR
import Derived.Test.YtpdedfpacklnoaaGreatDoorRtMh2
import Derived.Lib.AppendStr
import Derived.Lib.ConvBytes
import Derived.Lib.AtoiAll
import Derived.Deep.RegionHeld
namespace Go.Proofs.YtpdedfpacklnoaaGreatDoor.H
open Go.RowKit Go.BL

/-- What the digits come to. -/
def numL (s : List UInt8) : Nat := (Lib.decFrom 0 s).getD 0
theorem dig_val {c : UInt8} (h : dig c = true) : Lib.digitVal c = some (c.toNat - 48) ∧ c ≠ 45 ∧ c ≠ 43 := by
 simp [dig] at h
 unfold Lib.digitVal
 refine ⟨by rw [if_pos h], ?_, ?_⟩ <;> · rintro rfl; simp at h
end Go.Proofs.YtpdedfpacklnoaaGreatDoor.H
namespace Go.Proofs.YtpdedfpacklnoaaGreatDoor.H
set_option maxRecDepth 100000

def lineT (h : Hdr) : List UInt8 := h.1 ++ [58, 32] ++ h.2 ++ [13, 10]
def textL : List Hdr → List UInt8
 | [] => []
 | h :: r => lineT h ++ textL r
theorem text_len {hs : List Hdr} : hs.length ≤ (textL hs).length := by
 induction hs with
 | nil => simp
 | cons x r ih =>
  have e : (lineT x).length = x.1.length + x.2.length + 4 := by simp [lineT]; omega
  simp only [textL, List.length_append, e, List.length_cons]
  omega
end Go.Proofs.YtpdedfpacklnoaaGreatDoor.H
namespace Go.Proofs.YtpdedfpacklnoaaGreatDoor.H
set_option maxRecDepth 100000
open Go.RowKit Go.BL

def txs (ls : List (List UInt8)) : List Value := ls.map fun x => .string ⟨x.toArray⟩
theorem txs_one (ls : List (List UInt8)) : ∀ u ∈ txs ls, u.oneCell' = true := by
 intro u hu
 simp only [txs, List.mem_map] at hu
 obtain ⟨b, _, rfl⟩ := hu
 rfl
/-- The value is a row of the call's own (behind base) that holds these texts. -/
def OwnS (w : World) (B : Nat) (v : Value) (ls : List (List UInt8)) : Prop := w.ownsRow B 9 1 v ls.length (txs ls)
theorem OwnS.nil (w : World) (B : Nat) : OwnS w B (.slice none 0 0) [] := ⟨rfl, .inl ⟨rfl, rfl⟩⟩
theorem OwnS.below {w w' : World} {B C : Nat} {v : Value} {ls : List (List UInt8)} (h : OwnS w B v ls) (hb : Below C w w') (hC : w.heap.size ≤ C) : OwnS w' B v ls := by
 refine ⟨h.1, ?_⟩
 rcases h.2 with h0 | ⟨g, cap, cur, hv, hg, hh, r⟩
 ·exact .inl h0
 ·have hlt : g < w.heap.size := by
   rcases Nat.lt_or_ge g w.heap.size with h' | h'
   ·exact h'
   ·rw [Array.getElem?_eq_none h'] at hh; cases hh
  exact .inr ⟨g, cap, cur, hv, hg, (hb.block g (by omega)).trans hh, r⟩
theorem OwnS.alloc {w : World} {B : Nat} {v : Value} {ls : List (List UInt8)} (h : OwnS w B v ls) (o : Obj) : OwnS (w.alloc o) B v ls := h.below ((Below.refl w.heap.size w).alloc (Nat.le_refl _) o) (Nat.le_refl _)
theorem OwnS.block_ge {w : World} {B : Nat} {v : Value} {ls : List (List UInt8)} (h : OwnS w B v ls) : ∀ k, v.ownBlock = some k → B ≤ k := by
 intro k hk
 rcases h.2 with ⟨rfl, _⟩ | ⟨g, cap, cur, rfl, hg, _⟩
 ·cases hk
 ·simp only [Value.ownBlock, Option.some.injEq] at hk; omega
theorem under64 : Tryz.prog.underlying 100 = some (.slice 9) := by kernel_rfl
theorem info9 : (Tryz.prog.info? 9).map (fun i => (i.zero, i.size, i.bytes)) = some (some (.string ⟨#[]⟩), 1, 16) := by kernel_rfl
/-- append(ls, x). -/
theorem wpList_appT {w : World} {ops : Array Oper} {rest : List Oper} {o : Oper} {a : Act} {Q : Exit → Act → World → Prop} (hgd : o.guard = none) (s x : Operand)
  (ho : o.op = .call { callee := .builtin .append, args := #[s, x], argTypes := #[100, 100] })
  {B : Nat} {v : Value} {ls : List (List UInt8)} (hs' : a.eval s = v) (hown : OwnS w B v ls)
  {g c : Nat} {x1 : List UInt8} (hx : a.eval x = .slice (some ⟨g, 0, none⟩) 1 c) (hg0 : w.cell? ⟨g, 0, none⟩ = some (.string ⟨x1.toArray⟩))
  (hb : ls.length ≤ 1073741826) (hbase : B ≤ w.heap.size)
  (h : ∀ v' w', OwnS w' B v' (ls ++ [x1]) → Below B w w' → wpList Tryz.prog ops Q rest (a.put o.dst v') w') : wpList Tryz.prog ops Q (o :: rest) a w := by
 obtain ⟨i0, hi0, hz0, hz1, hz2⟩ := info_parts info9
 have hr : Reads w w.heap.size 1 (some ⟨g, 0, none⟩) 1 (txs [x1]) := by
  refine ⟨rfl, fun _ => ⟨_, rfl, lt_block hg0, fun j u hj => ?_⟩⟩
  rw [add_none, Nat.zero_add]
  rcases j with _ | j
  ·simp [txs] at hj; rw [← hj]; exact hg0
  ·simp [txs] at hj
 refine wpList_append_any w hgd s x 100 ho B 9 i0 _ 1 16 under64 hi0 hz0 hz1 hz2 rfl (by decide) v ls.length (txs ls) hs' hown w.heap.size _ 1 c (txs [x1]) hx hr (txs_one _) (by unfold maxLen; omega) (by omega) hbase ?_
 intro v' w' k1 k2 k3
 refine h v' w' ?_ ((Below.refl B w).grown k2 hbase hown.block_ge)
 unfold OwnS
 rw [List.length_append, show txs (ls ++ [x1]) = txs ls ++ txs [x1] by simp [txs]]
 exact k1
end Go.Proofs.YtpdedfpacklnoaaGreatDoor.H
namespace Go.Proofs.YtpdedfpacklnoaaGreatDoor.H
set_option maxRecDepth 100000

/- Trimmed. -/
section trim
variable (p : UInt8 → Bool)
end trim
/- A header. -/
/- A first line. -/
/- How long the body must be. -/
def digitsL (s : List UInt8) : Option Nat := if s ≠ [] ∧ s.length ≤ 9 ∧ s.all dig = true then some (numL s) else none
end Go.Proofs.YtpdedfpacklnoaaGreatDoor.H
namespace Go.Proofs.YtpdedfpacklnoaaGreatDoor.H
set_option maxRecDepth 100000
open Go.RowKit

theorem digitR_any (c : UInt8) (w : World) : Calls Tryz.prog 178 #[.int .u8 (c.toNat : Int)] w fun e w' => e = .returned (.bool (dig c)) ∧ w = w' := by
 go_enter Tryz.func178, Tryz.ntmps178
 go_wp2
 all_goals go_ret
 all_goals (refine ⟨congrArg (fun b => Ending.returned (Value.bool b)) ?_, rfl⟩; rw [Bool.eq_iff_iff]; simp [dig]; omega)
theorem sl_mid (s : List UInt8) (i j : Nat) (l h : Int) (hl : l = i) (hh : h = j) (h1 : i ≤ j) (h2 : j ≤ s.length) (w : World) :
  (Instr.slice 9 (.string ⟨s.toArray⟩) (some (.int .i64 l)) (some (.int .i64 h)) none).run Tryz.prog w = .ok (.string ⟨((s.drop i).take (j - i)).toArray⟩) w := by
 subst hl hh
 rw [run_slice_string w 9 ⟨s.toArray⟩ .i64 .i64 i j Tryz.underlying9 (by omega) (by omega) (by show (j : Int) ≤ (s.length : Int); omega)]
 simp only [Int.toNat_natCast, ext_mid]
theorem sl_to (s : List UInt8) (j : Nat) (h : Int) (hh : h = j) (h2 : j ≤ s.length) (w : World) :
  (Instr.slice 9 (.string ⟨s.toArray⟩) none (some (.int .i64 h)) none).run Tryz.prog w = .ok (.string ⟨(s.take j).toArray⟩) w := by
 subst hh
 rw [run_slice_string_to_if w 9 ⟨s.toArray⟩ .i64 j Tryz.underlying9, if_pos ⟨by omega, by show (j : Int) ≤ (s.length : Int); omega⟩]
 simp only [Int.toNat_natCast, ext_mid, List.drop_zero, Nat.sub_zero]
theorem sl_from (s : List UInt8) (i : Nat) (l : Int) (hl : l = i) (h2 : i ≤ s.length) (w : World) :
  (Instr.slice 9 (.string ⟨s.toArray⟩) (some (.int .i64 l)) none none).run Tryz.prog w = .ok (.string ⟨(s.drop i).toArray⟩) w := by
 subst hl
 rw [run_slice_string_from_if w 9 ⟨s.toArray⟩ .i64 i Tryz.underlying9, if_pos ⟨by omega, by show (i : Int) ≤ (s.length : Int); omega⟩]
 simp only [Int.toNat_natCast, ext_mid]
 rw [List.take_of_length_le (by rw [List.length_drop]; exact Nat.le_refl _)]
end Go.Proofs.YtpdedfpacklnoaaGreatDoor.H
namespace Go.Proofs.YtpdedfpacklnoaaGreatDoor.H
set_option maxRecDepth 100000
open Go.RowKit Go.BL

theorem dig_num {x : UInt8} (h : dig x = true) : ∃ d : Nat, d ≤ 9 ∧ IntKind.u8.wrap ((x.toNat : Int) - 48) = (d : Int) ∧ Lib.digitVal x = some d := by
 have h1 := (dig_val h).1
 simp [dig] at h
 refine ⟨x.toNat - 48, by omega, ?_, h1⟩
 simp [IntKind.wrap, IntKind.signed, IntKind.bits]
 omega
def DigR (s : List UInt8) (w : World) (e : Ending) (w' : World) : Prop := w = w' ∧ ∃ m : Nat, e = .returned (.tuple #[.int .i64 (m : Int), .bool (digitsL s).isSome]) ∧ m ≤ 999999999 ∧ ∀ k, digitsL s = some k → m = k
set_option maxRecDepth 100000 in
theorem digitsR_any (s : List UInt8) (hs : s.length ≤ 1073741824) (w : World) : Calls Tryz.prog 133 #[.string ⟨s.toArray⟩] w (DigR s w) := by
 go_enter Tryz.func133, Tryz.ntmps133
 go_wp2_with fail
 go_loop [4, 5] (fun a j => ∃ n k : Nat, a = .int .i64 (n : Int) ∧ j = .int .i64 (k : Int) ∧ k ≤ s.length ∧ k ≤ 9 ∧ n < 10 ^ k ∧ Hid ((s.take k).all dig = true) ∧ Hid (Lib.decFrom 0 (s.take k) = some n)) (fun _ j => s.length - (intOf j).toNat)
 case atStart => exact ⟨0, 0, rfl, rfl, by omega, by omega, by decide, Lib.hid rfl, Lib.hid rfl⟩
 case round =>
  obtain ⟨n, k, rfl, rfl, hk, hk9, hn, Hk, Hd⟩ := hrel
  have hn9 : n ≤ 999999999 := by
   have := Nat.pow_le_pow_right (n := 10) (by decide) hk9
   omega
  have HP := Lib.hid hn
  clear hn
  by_cases hlt : k < s.length
  ·obtain ⟨x, hx⟩ : ∃ x, (⟨s.toArray⟩ : ByteArray)[k]'hlt = x := ⟨_, rfl⟩
   have Hx : Hid (s[k]? = some x) := Lib.hid (by rw [← hx, List.getElem?_eq_getElem hlt]; rfl)
   obtain ⟨d, hd⟩ : ∃ d, dig x = d := ⟨_, rfl⟩
   have hdi := digitR_any x
   rw [hd] at hdi
   cases d
   ·have HF : Hid (digitsL s = none) := Lib.hid (by
     have : s.all dig = false := by
      rw [List.all_eq_false]
      exact ⟨x, List.mem_of_getElem? Hx.out, by rw [hd]; decide⟩
     unfold digitsL
     rw [if_neg (by rw [this]; simp)])
    clear hd
    go_wp2_with (go_at_call 178; refine (hdi _).mono ?_; rintro e w' ⟨rfl, rfl⟩)
    go_ret2
    exact ⟨rfl, 0, by rw [HF.out]; rfl, by decide, fun k h => by rw [HF.out] at h; cases h⟩
   ·by_cases h9 : 9 ≤ k
    ·have HF : Hid (digitsL s = none) := Lib.hid (by
      unfold digitsL
      rw [if_neg (by omega)])
     clear hd
     go_wp2_with (go_at_call 178; refine (hdi _).mono ?_; rintro e w' ⟨rfl, rfl⟩)
     go_ret2
     exact ⟨rfl, 0, by rw [HF.out]; rfl, by decide, fun k h => by rw [HF.out] at h; cases h⟩
    ·obtain ⟨v, hv9, hw, hv⟩ := dig_num hd
     have HK : Hid ((s.take (k + 1)).all dig = true) := Lib.hid (by
      rw [List.take_add_one, Hx.out, List.all_append, Hk.out]; simp [hd])
     have HD : Hid (Lib.decFrom 0 (s.take (k + 1)) = some (n * 10 + v)) := Lib.hid (Lib.decFrom_take s k 0 n x v Hd.out Hx.out hv)
     have HP2 : Hid (n * 10 + v < 10 ^ (k + 1)) := Lib.hid (by have := HP.out; rw [Nat.pow_succ]; omega)
     have hn8 : n ≤ 99999999 := by
      have h1 := Nat.pow_le_pow_right (n := 10) (by decide) (show k ≤ 8 by omega)
      have h2 := HP.out
      omega
     clear hd hv
     go_wp2_with (go_at_call 178; refine (hdi _).mono ?_; rintro e w' ⟨rfl, rfl⟩)
     exact ⟨⟨n * 10 + v, k + 1, by go_num, by go_num, by omega, by omega, HP2.out, HK, HD⟩, by simp [intOf]; omega⟩
  ·have HA : Hid (s.all dig = true) := Lib.hid (by have := Hk.out; rwa [List.take_of_length_le (by omega)] at this)
   have HD : Hid (numL s = n) := Lib.hid (by have := Hd.out; rw [List.take_of_length_le (by omega)] at this; unfold numL; rw [this]; rfl)
   have HF : Hid (digitsL s = if s ≠ [] then some n else none) := Lib.hid (by
    unfold digitsL
    by_cases h : s = []
    ·rw [if_neg (by simp [h]), if_neg (by simp [h])]
    ·rw [if_pos ⟨h, by omega, HA.out⟩, if_pos h, HD.out])
   cases s with
   | nil =>
    have hlt2 : ¬ (k : Int) < 0 := by omega
    go_wp2_with fail
    go_ret2
    exact ⟨rfl, n, by rw [HF.out]; rfl, hn9, fun k h => by rw [HF.out] at h; cases h⟩
   | cons a t =>
    have hlt2 : ¬ (k : Int) < (t.length : Int) + 1 := by simp at hlt; omega
    go_wp2_with fail
    go_ret2
    exact ⟨rfl, n, by rw [HF.out]; rfl, hn9, fun k h => by rw [HF.out, if_pos (by simp)] at h; injection h⟩
end Go.Proofs.YtpdedfpacklnoaaGreatDoor.H
namespace Go.Proofs.YtpdedfpacklnoaaGreatDoor.H
set_option maxRecDepth 100000

/- Lines joined. -/
/- The first empty line. -/
/- Numbers. -/
/- Cuts. -/
/- What was read. -/
theorem three {s : List UInt8} (h : 4 ≤ s.length) : ∃ a b c d r, s = a :: b :: c :: d :: r := by
 match s, h with
 | a :: b :: c :: d :: r, _ => exact ⟨a, b, c, d, r, rfl⟩
end Go.Proofs.YtpdedfpacklnoaaGreatDoor.H
namespace Go.Proofs.YtpdedfpacklnoaaGreatDoor.H
set_option maxRecDepth 100000
open Go.RowKit Go.BL

theorem pputH (P : Program) (f : Func) (R : Ending → World → Prop) (K : Act → World → Prop) (j : Option Tmp) (v : Value) : ∀ c (a : Act) w, Exit.then K (bodyPost P f R) (.panic c) (a.put j v) w → Exit.then K (bodyPost P f R) (.panic c) a w := fun _ _ _ h => by cases j <;> exact h
end Go.Proofs.YtpdedfpacklnoaaGreatDoor.H
