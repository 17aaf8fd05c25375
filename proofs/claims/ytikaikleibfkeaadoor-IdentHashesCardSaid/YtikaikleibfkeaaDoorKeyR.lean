/- The contract of the document's IsKey: the same plain function. -/
import Derived.Test.YtikaikleibfkeaaDoorKey
namespace Go.Proofs.YtikaikleibfkeaaDoor
open Go.RowKit

theorem bl_get (s : ByteArray) (k : Nat) (h : k < s.size) : s[k].toNat = (bl s).getD k 0 := by
  rw [bl_getD, List.getD_eq_getElem?_getD]
  have : s.data.toList[k]? = some s[k] := by
    rw [List.getElem?_eq_getElem (by simpa using h)]; rfl
  rw [this]; rfl
theorem endR (s : ByteArray) : (decide (1 ≤ (bl s).length) && decide ((bl s).length ≤ 32)) = (decide ((1 : Int) ≤ (s.size : Int)) && decide ((s.size : Int) ≤ 32)) := by
  rw [bl_length]
  congr 1 <;> simp <;> omega

set_option maxHeartbeats 2000000 in
theorem keyR_any (s : ByteArray) (w : World) (hs : s.size ≤ maxLen) : Calls Tryd.prog 17 #[.string s] w fun e w' => e = .returned (.bool (isKey (bl s))) ∧ w = w' := by
  unfold maxLen at hs
  go_enter Tryd.func17, Tryd.ntmps17
  go_wp2
  go_loop [3] (fun i => ∃ k : Nat, k ≤ s.size ∧ i = .int .i64 k ∧ Hid (∀ j, j < k → keyByte ((bl s).getD j 0) = true)) (fun i => s.size - (intOf i).toNat)
  case atStart => exact ⟨0, Nat.zero_le _, rfl, Lib.hid (fun j hj => by omega)⟩
  case round =>
    obtain ⟨k, hk, rfl, Hk⟩ := hrel
    by_cases hlt : k < s.size
    · have hck := bl_get s k hlt
      have hno : Hid (keyByte ((bl s).getD k 0) = false → isKey (bl s) = false) := Lib.hid (isKey_no (by rw [bl_length]; exact hlt))
      have hyes : Hid (keyByte ((bl s).getD k 0) = true → ∀ j, j < k + 1 → keyByte ((bl s).getD j 0) = true) := Lib.hid (fun h j hj => by
        rcases Nat.lt_or_ge j k with h1 | h1
        · exact Hk.out j h1
        · rw [show j = k by omega]; exact h)
      have hx : (bl s).getD k 0 < 256 := getD_lt (bl_lt s) k
      generalize (bl s).getD k 0 = c at *
      rcases cut12 c with h | rfl | rfl | rfl | ⟨h, h'⟩ | ⟨h, h'⟩ | ⟨h, h'⟩ | ⟨h, h'⟩ | rfl | rfl | ⟨h, h'⟩ | h
      all_goals
        try (have n46 : ((c : Int) != 46) = true := bne_iff_ne.2 (by omega)
             have n45 : ((c : Int) != 45) = true := bne_iff_ne.2 (by omega)
             have n95 : ((c : Int) != 95) = true := bne_iff_ne.2 (by omega))
      all_goals
        try have e57 : decide ((c : Int) ≤ 57) = false := decide_eq_false (by omega)
        try have e90 : decide ((c : Int) ≤ 90) = false := decide_eq_false (by omega)
        try have e122 : decide ((c : Int) ≤ 122) = false := decide_eq_false (by omega)
      all_goals go_wp2
      all_goals first
        | (exfalso; omega)
        | (go_ret
           exact ⟨ret_bool (hno.out (key_no (by omega))).symm, rfl⟩)
        | (go_round
           case rel => exact ⟨k + 1, by omega, by go_num, Lib.hid (hyes.out (key_yes (by omega)))⟩
           case measure => simp [intOf]; omega)
    · obtain rfl : k = s.size := by omega
      have HA : Hid (isKey (bl s) = (decide (1 ≤ (bl s).length) && decide ((bl s).length ≤ 32))) := Lib.hid (isKey_all (by rw [bl_length]; exact Hk.out))
      go_wp2
      all_goals go_ret
      · exact ⟨ret_bool (by rw [HA.out, endR, decide_eq_true (show (1 : Int) ≤ (s.size : Int) by omega), Bool.true_and]), rfl⟩
      · exact ⟨ret_bool (by rw [HA.out, endR, decide_eq_false (show ¬ (1 : Int) ≤ (s.size : Int) by omega), Bool.false_and]), rfl⟩
end Go.Proofs.YtikaikleibfkeaaDoor
