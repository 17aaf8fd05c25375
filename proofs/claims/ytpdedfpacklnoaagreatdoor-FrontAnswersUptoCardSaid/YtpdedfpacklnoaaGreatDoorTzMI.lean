/- Words on memory: a slice of bytes that reads as a list of numbers. The contracts of IsKey, the program's and the document's: one plain function of the bytes. The contract of the document's IsKey: the  -/
import Derived.Test.YtpdedfpacklnoaaGreatDoorRows
import Derived.WalkKit
import Derived.Lib.Hide
import Derived.Lib.ConvBytes
import Derived.Below
namespace Go.Proofs.YtpdedfpacklnoaaGreatDoor.I
set_option maxRecDepth 100000
open Go.RowKit

theorem ret_int {k : IntKind} {a b : Int} (h : a = b) : Ending.returned (.int k a) = .returned (.int k b) := by rw [h]
theorem ret_bool {a b : Bool} (h : a = b) : Ending.returned (.bool a) = .returned (.bool b) := by rw [h]
/-- The slice (address A, n elements) reads as the bytes bs. -/
def Rd (w : World) (A : Option Addr) (n : Nat) (bs : List Nat) : Prop :=
 bs.length = n ∧ n ≤ maxLen ∧ (∀ x ∈ bs, x < 256) ∧ (0 < n → ∃ b off, A = some ⟨b, off, none⟩ ∧ ∀ i, i < n → w.cell? ⟨b, off + i, none⟩ = some (.int .u8 ((bs.getD i 0 : Nat) : Int)))
theorem Rd.keep {w w' : World} {A : Option Addr} {n : Nat} {bs : List Nat} (h : Rd w A n bs) (hk : ∀ p, w'.cell? p = w.cell? p ∨ w.cell? p = none) : Rd w' A n bs := by
 refine ⟨h.1, h.2.1, h.2.2.1, fun hn => ?_⟩
 obtain ⟨b, off, e, hc⟩ := h.2.2.2 hn
 refine ⟨b, off, e, fun i hi => ?_⟩
 have := hc i hi
 rcases hk ⟨b, off + i, none⟩ with h1 | h1
 ·rw [h1]; exact this
 ·rw [this] at h1; cases h1
theorem getD_lt {bs : List Nat} (h : ∀ x ∈ bs, x < 256) (i : Nat) : bs.getD i 0 < 256 := by
 rw [List.getD_eq_getElem?_getD]
 cases e : bs[i]? with
 | none => simp
 | some x => exact h x (List.mem_of_getElem? e)
theorem take_snoc' (bs : List Nat) (k : Nat) (h : k < bs.length) : bs.take (k + 1) = bs.take k ++ [bs.getD k 0] := by
 rw [List.take_succ_eq_append_getElem h, List.getD_eq_getElem?_getD, List.getElem?_eq_getElem h]; rfl
end Go.Proofs.YtpdedfpacklnoaaGreatDoor.I
namespace Go.Proofs.YtpdedfpacklnoaaGreatDoor.I
set_option maxRecDepth 100000
open Go.RowKit

/-- A string's bytes as numbers. -/
def bl (s : ByteArray) : List Nat := s.data.toList.map UInt8.toNat
theorem bl_length (s : ByteArray) : (bl s).length = s.size := by simp [bl]
theorem bl_lt (s : ByteArray) : ∀ x ∈ bl s, x < 256 := by
 intro x hx
 simp only [bl, List.mem_map] at hx
 obtain ⟨u, _, rfl⟩ := hx
 exact u.toNat_lt
theorem bl_getD (s : ByteArray) (j : Nat) : (bl s).getD j 0 = (s.data.toList.getD j 0).toNat := by
 simp only [bl, List.getD_eq_getElem?_getD, List.getElem?_map]
 cases s.data.toList[j]? <;> rfl

def keyByte (c : Nat) : Bool := c == 46 || c == 45 || c == 95 || (decide (48 ≤ c) && decide (c ≤ 57)) || (decide (97 ≤ c) && decide (c ≤ 122)) || (decide (65 ≤ c) && decide (c ≤ 90))
def isKey (l : List Nat) : Bool := l.all keyByte && decide (1 ≤ l.length) && decide (l.length ≤ 32)
theorem key_yes {c : Nat} (h : c = 45 ∨ c = 46 ∨ (48 ≤ c ∧ c ≤ 57) ∨ (65 ≤ c ∧ c ≤ 90) ∨ c = 95 ∨ (97 ≤ c ∧ c ≤ 122)) : keyByte c = true := by
 unfold keyByte; simp only [Bool.or_eq_true, Bool.and_eq_true, decide_eq_true_eq, beq_iff_eq]; omega
theorem key_no {c : Nat} (h : ¬ (c = 45 ∨ c = 46 ∨ (48 ≤ c ∧ c ≤ 57) ∨ (65 ≤ c ∧ c ≤ 90) ∨ c = 95 ∨ (97 ≤ c ∧ c ≤ 122))) : keyByte c = false := by
 rw [← Bool.not_eq_true]; unfold keyByte; simp only [Bool.or_eq_true, Bool.and_eq_true, decide_eq_true_eq, beq_iff_eq]; omega
theorem isKey_no {l : List Nat} {k : Nat} (hk : k < l.length) (h : keyByte (l.getD k 0) = false) : isKey l = false := by
 have : l.all keyByte = false := by
  rw [List.all_eq_false]
  refine ⟨l.getD k 0, ?_, by rw [h]; decide⟩
  rw [List.getD_eq_getElem?_getD, List.getElem?_eq_getElem hk]; exact List.getElem_mem hk
 simp [isKey, this]
theorem isKey_all {l : List Nat} (h : ∀ j, j < l.length → keyByte (l.getD j 0) = true) : isKey l = (decide (1 ≤ l.length) && decide (l.length ≤ 32)) := by
 have : l.all keyByte = true := by
  rw [List.all_eq_true]
  intro x hx
  obtain ⟨j, hj, rfl⟩ := List.mem_iff_getElem.1 hx
  have := h j hj
  rwa [List.getD_eq_getElem?_getD, List.getElem?_eq_getElem hj] at this
 simp [isKey, this]

def RetB (v : Value) (w : World) (e : Ending) (w' : World) : Prop := e = .returned v ∧ Below w.heap.size w w'
theorem below_bytes (w : World) (e : TypeId) (s : ByteArray) : Below w.heap.size w (Lib.bytesWorld w e s) :=
 ⟨by unfold Lib.bytesWorld World.freeze; rfl, by unfold Lib.bytesWorld World.freeze; rfl, by unfold Lib.bytesWorld World.freeze; rfl, by rw [Lib.bytesWorld_size]; omega, fun k hk => Lib.bytesWorld_at_old w e s k hk⟩

theorem end_any (s : ByteArray) : (decide (1 ≤ (bl s).length) && decide ((bl s).length ≤ 32)) = (!s.toList.isEmpty && decide ((s.size : Int) ≤ 32)) := by
 have h : s.toList.length = s.size := by rw [ByteArray.toList_eq]; simp
 rw [bl_length, ← h]
 cases s.toList with
 | nil => simp
 | cons x l => simp; omega
theorem end_nil {s : ByteArray} (h : s.toList = []) : (decide (1 ≤ (bl s).length) && decide ((bl s).length ≤ 32)) = false := by
 rw [end_any, h]; rfl
theorem cut12 (c : Nat) : c < 45 ∨ c = 45 ∨ c = 46 ∨ c = 47 ∨ (48 ≤ c ∧ c ≤ 57) ∨ (58 ≤ c ∧ c ≤ 64) ∨ (65 ≤ c ∧ c ≤ 90) ∨ (91 ≤ c ∧ c ≤ 94) ∨ c = 95 ∨ c = 96 ∨ (97 ≤ c ∧ c ≤ 122) ∨ 123 ≤ c := by omega

set_option maxHeartbeats 2000000 in
theorem key_any (s : ByteArray) (w : World) (hs : s.size ≤ maxLen) : Calls Tryz.prog 60 #[.string s] w (RetB (.bool (isKey (bl s))) w) := by
 unfold maxLen at hs
 have hconv := fun w => Lib.run_convert_string_bytes (P := Tryz.prog) w 9 75 5 s Tryz.underlying9 Tryz.underlying75 Tryz.underlying5
 have hB := below_bytes w 5 s
 have HC := Lib.hid (Lib.bytesWorld_cell w 5 s)
 have HB := Lib.hid hB
 clear hB
 go_enter Tryz.func60, Tryz.ntmps60
 go_wp2
 go_loop [8] (fun i => ∃ k : Nat, k ≤ s.size ∧ i = .int .i64 k ∧ Hid (∀ j, j < k → keyByte ((bl s).getD j 0) = true)) (fun i => s.size - (intOf i).toNat)
 case atStart => exact ⟨0, Nat.zero_le _, rfl, Lib.hid (fun j hj => by omega)⟩
 case round =>
  obtain ⟨k, hk, rfl, Hk⟩ := hrel
  by_cases hlt : k < s.size
  ·have hck := HC.out k hlt
   have hno : Hid (keyByte ((bl s).getD k 0) = false → isKey (bl s) = false) := Lib.hid (isKey_no (by rw [bl_length]; exact hlt))
   have hyes : Hid (keyByte ((bl s).getD k 0) = true → ∀ j, j < k + 1 → keyByte ((bl s).getD j 0) = true) := Lib.hid (fun h j hj => by
    rcases Nat.lt_or_ge j k with h1 | h1
    ·exact Hk.out j h1
    ·rw [show j = k by omega]; exact h)
   rw [← bl_getD] at hck
   have hx : (bl s).getD k 0 < 256 := getD_lt (bl_lt s) k
   generalize (bl s).getD k 0 = c at *
   rcases cut12 c with h | rfl | rfl | rfl | ⟨h, h'⟩ | ⟨h, h'⟩ | ⟨h, h'⟩ | ⟨h, h'⟩ | rfl | rfl | ⟨h, h'⟩ | h
   all_goals
    try (have n46 : ((c : Int) != 46) = true := bne_iff_ne.2 (by omega)
         have n45 : ((c : Int) != 45) = true := bne_iff_ne.2 (by omega)
         have n95 : ((c : Int) != 95) = true := bne_iff_ne.2 (by omega))
   all_goals go_wp2
   all_goals first
    | (exfalso; omega)
    | (go_ret
       exact ⟨ret_bool (hno.out (key_no (by omega))).symm, HB.out⟩)
    | (go_round
       case rel => exact ⟨k + 1, by omega, by go_num, Lib.hid (hyes.out (key_yes (by omega)))⟩
       case measure => simp [intOf]; omega)
  ·obtain rfl : k = s.size := by omega
   have HA : Hid (isKey (bl s) = (decide (1 ≤ (bl s).length) && decide ((bl s).length ≤ 32))) := Lib.hid (isKey_all (by rw [bl_length]; exact Hk.out))
   go_wp2
   ·have h : s.toList = [] := by assumption
    go_ret
    exact ⟨ret_bool (by rw [HA.out]; exact (end_nil h).symm), HB.out⟩
   ·go_ret
    exact ⟨ret_bool (by rw [HA.out]; exact (end_any s).symm), HB.out⟩
end Go.Proofs.YtpdedfpacklnoaaGreatDoor.I
namespace Go.Proofs.YtpdedfpacklnoaaGreatDoor.I
set_option maxRecDepth 100000
open Go.RowKit

theorem bl_get (s : ByteArray) (k : Nat) (h : k < s.size) : s[k].toNat = (bl s).getD k 0 := by
 rw [bl_getD, List.getD_eq_getElem?_getD]
 have : s.data.toList[k]? = some s[k] := by
  rw [List.getElem?_eq_getElem (by simpa using h)]; rfl
 rw [this]; rfl
theorem endR (s : ByteArray) : (decide (1 ≤ (bl s).length) && decide ((bl s).length ≤ 32)) = (decide ((1 : Int) ≤ (s.size : Int)) && decide ((s.size : Int) ≤ 32)) := by
 rw [bl_length]
 congr 1 <;> simp <;> omega

end Go.Proofs.YtpdedfpacklnoaaGreatDoor.I
