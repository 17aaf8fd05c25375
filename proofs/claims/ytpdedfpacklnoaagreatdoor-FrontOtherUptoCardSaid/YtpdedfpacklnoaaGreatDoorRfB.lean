/- Contract of the document's IsName: isName. -/
import Derived.Test.YtpdedfpacklnoaaGreatDoorFbP
set_option maxRecDepth 100000
namespace Go.Proofs.YtpdedfpacklnoaaGreatDoor
open Go.RowKit Go.BL Go.Ct Go.Sl Go.Wr

set_option maxHeartbeats 2000000 in
theorem isName_bytes (s : ByteArray) (w : World) (hs : s.size ≤ 9223372036854775807) : Calls Tryz.prog 40 #[.string s] w fun e w' => e = .returned (.bool (I.isKey (I.bl s))) ∧ w = w' := by
  by_cases h0 : s = .empty
  · subst h0
    go_enter Tryz.func40, Tryz.ntmps40
    go_wp2
    go_ret
    exact ⟨rfl, rfl⟩
  have hne : ¬ s.toList = [] := fun h => h0 (by
    have h1 : s.size = 0 := by rw [← show s.toList.length = s.size by rw [ByteArray.toList_eq]; simp, h]; rfl
    exact ByteArray.size_eq_zero_iff.1 h1)
  have hie : s.toList.isEmpty = false := by
    cases h : s.toList with
    | nil => exact absurd h hne
    | cons a t => rfl
  have H0 : Hid (1 ≤ s.size) := Lib.hid (by
    rcases Nat.eq_zero_or_pos s.size with h | h
    · exact absurd (ByteArray.size_eq_zero_iff.1 h) h0
    · exact h)
  clear h0
  by_cases h32 : 32 < s.size
  · have HF : Hid (I.isKey (I.bl s) = false) := Lib.hid (by unfold I.isKey; rw [I.bl_length, decide_eq_false (show ¬ s.size ≤ 32 by omega), Bool.and_false])
    go_enter Tryz.func40, Tryz.ntmps40
    go_wp2
    go_ret
    exact ⟨by rw [HF.out]; rfl, rfl⟩
  go_enter Tryz.func40, Tryz.ntmps40
  go_wp2
  go_loop [3] (fun i => ∃ k : Nat, k ≤ s.size ∧ i = .int .i64 k ∧ Hid (∀ j, j < k → I.keyByte ((I.bl s).getD j 0) = true)) (fun i => s.size - (intOf i).toNat)
  case atStart => exact ⟨0, Nat.zero_le _, rfl, Lib.hid (fun j hj => by omega)⟩
  case round =>
    obtain ⟨k, hk, rfl, Hk⟩ := hrel
    by_cases hlt : k < s.size
    · have hck := I.bl_get s k hlt
      have hno : Hid (I.keyByte ((I.bl s).getD k 0) = false → I.isKey (I.bl s) = false) := Lib.hid (I.isKey_no (by rw [I.bl_length]; exact hlt))
      have hyes : Hid (I.keyByte ((I.bl s).getD k 0) = true → ∀ j, j < k + 1 → I.keyByte ((I.bl s).getD j 0) = true) := Lib.hid (fun h j hj => by
        rcases Nat.lt_or_ge j k with h1 | h1
        · exact Hk.out j h1
        · rw [show j = k by omega]; exact h)
      have hx : (I.bl s).getD k 0 < 256 := I.getD_lt (I.bl_lt s) k
      generalize (I.bl s).getD k 0 = c at *
      rcases I.cut12 c with h | rfl | rfl | rfl | ⟨h, h'⟩ | ⟨h, h'⟩ | ⟨h, h'⟩ | ⟨h, h'⟩ | rfl | rfl | ⟨h, h'⟩ | h
      all_goals
        try (have n46 : ((c : Int) == 46) = false := beq_false_of_ne (by omega)
             have n45 : ((c : Int) == 45) = false := beq_false_of_ne (by omega)
             have n95 : ((c : Int) == 95) = false := beq_false_of_ne (by omega))
      all_goals
        try have e57 : decide ((c : Int) ≤ 57) = false := decide_eq_false (by omega)
        try have e90 : decide ((c : Int) ≤ 90) = false := decide_eq_false (by omega)
        try have e122 : decide ((c : Int) ≤ 122) = false := decide_eq_false (by omega)
      all_goals go_wp2
      all_goals first
        | (exfalso; omega)
        | (go_ret
           exact ⟨I.ret_bool (hno.out (I.key_no (by omega))).symm, rfl⟩)
        | (go_round
           case rel => exact ⟨k + 1, by omega, by go_num, Lib.hid (hyes.out (I.key_yes (by omega)))⟩
           case measure => simp [intOf]; omega)
    · obtain rfl : k = s.size := by omega
      have HA : Hid (I.isKey (I.bl s) = (decide (1 ≤ (I.bl s).length) && decide ((I.bl s).length ≤ 32))) := Lib.hid (I.isKey_all (by rw [I.bl_length]; exact Hk.out))
      go_wp2
      all_goals go_ret
      exact ⟨I.ret_bool (by rw [HA.out, I.bl_length, decide_eq_true H0.out, decide_eq_true (show s.size ≤ 32 by omega)]; rfl), rfl⟩
theorem isName_any (l : List UInt8) (hl : l.length ≤ 9223372036854775807) (w : World) : Calls Tryz.prog 40 #[.string ⟨l.toArray⟩] w fun e w' => e = .returned (.bool (isName l)) ∧ w = w' := by
  have h := isName_bytes ⟨l.toArray⟩ w hl
  have e : I.isKey (I.bl ⟨l.toArray⟩) = isName l := key_name l
  rw [e] at h
  exact h
end Go.Proofs.YtpdedfpacklnoaaGreatDoor
