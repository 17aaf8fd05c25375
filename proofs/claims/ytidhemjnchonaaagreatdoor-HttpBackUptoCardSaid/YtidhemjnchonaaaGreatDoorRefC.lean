/- Contracts of the document's digits and count. -/
import Derived.Test.YtidhemjnchonaaaGreatDoorRefP
import Derived.Test.YtidhemjnchonaaaGreatDoorRefA
import Derived.Test.YtidhemjnchonaaaGreatDoorFindR
namespace Go.Proofs.YtidhemjnchonaaaGreatDoor
open Go.RowKit Go.BL

theorem dig_num {x : UInt8} (h : dig x = true) : ∃ d : Nat, d ≤ 9 ∧ IntKind.u8.wrap ((x.toNat : Int) - 48) = (d : Int) ∧ Lib.digitVal x = some d := by
  have h1 := (dig_val h).1
  simp [dig] at h
  refine ⟨x.toNat - 48, by omega, ?_, h1⟩
  simp [IntKind.wrap, IntKind.signed, IntKind.bits]
  omega
def DigR (s : List UInt8) (w : World) (e : Ending) (w' : World) : Prop := w = w' ∧ ∃ m : Nat, e = .returned (.tuple #[.int .i64 (m : Int), .bool (digitsL s).isSome]) ∧ m ≤ 999999999 ∧ ∀ k, digitsL s = some k → m = k
set_option maxRecDepth 100000 in
theorem digitsR_any (s : List UInt8) (hs : s.length ≤ 1073741824) (w : World) : Calls Tryz.prog 78 #[.string ⟨s.toArray⟩] w (DigR s w) := by
  go_enter Tryz.func78, Tryz.ntmps78
  go_wp2_with fail
  go_loop [4, 5] (fun a j => ∃ n k : Nat, a = .int .i64 (n : Int) ∧ j = .int .i64 (k : Int) ∧ k ≤ s.length ∧ k ≤ 9 ∧ n < 10 ^ k ∧ Hid ((s.take k).all dig = true) ∧ Hid (Lib.decFrom 0 (s.take k) = some n)) (fun _ j => s.length - (intOf j).toNat)
  case atStart => exact ⟨0, 0, rfl, rfl, by omega, by omega, by decide, Lib.hid rfl, Lib.hid rfl⟩
  case round =>
    obtain ⟨n, k, rfl, rfl, hk, hk9, hn, Hk, Hd⟩ := hrel
    have hn9 : n ≤ 999999999 := by
      have := Nat.pow_le_pow_right (n := 10) (by decide) hk9
      omega
    have HP := Lib.hid hn
    clear hn
    by_cases hlt : k < s.length
    · obtain ⟨x, hx⟩ : ∃ x, (⟨s.toArray⟩ : ByteArray)[k]'hlt = x := ⟨_, rfl⟩
      have Hx : Hid (s[k]? = some x) := Lib.hid (by rw [← hx, List.getElem?_eq_getElem hlt]; rfl)
      obtain ⟨d, hd⟩ : ∃ d, dig x = d := ⟨_, rfl⟩
      have hdi := digitR_any x
      rw [hd] at hdi
      cases d
      · have HF : Hid (digitsL s = none) := Lib.hid (by
          have : s.all dig = false := by
            rw [List.all_eq_false]
            exact ⟨x, List.mem_of_getElem? Hx.out, by rw [hd]; decide⟩
          unfold digitsL
          rw [if_neg (by rw [this]; simp)])
        clear hd
        go_wp2_with (go_at_call 75; refine (hdi _).mono ?_; rintro e w' ⟨rfl, rfl⟩)
        go_ret2
        exact ⟨rfl, 0, by rw [HF.out]; rfl, by decide, fun k h => by rw [HF.out] at h; cases h⟩
      · by_cases h9 : 9 ≤ k
        · have HF : Hid (digitsL s = none) := Lib.hid (by
            unfold digitsL
            rw [if_neg (by omega)])
          clear hd
          go_wp2_with (go_at_call 75; refine (hdi _).mono ?_; rintro e w' ⟨rfl, rfl⟩)
          go_ret2
          exact ⟨rfl, 0, by rw [HF.out]; rfl, by decide, fun k h => by rw [HF.out] at h; cases h⟩
        · obtain ⟨v, hv9, hw, hv⟩ := dig_num hd
          have HK : Hid ((s.take (k + 1)).all dig = true) := Lib.hid (by
            rw [List.take_add_one, Hx.out, List.all_append, Hk.out]; simp [hd])
          have HD : Hid (Lib.decFrom 0 (s.take (k + 1)) = some (n * 10 + v)) := Lib.hid (Lib.decFrom_take s k 0 n x v Hd.out Hx.out hv)
          have HP2 : Hid (n * 10 + v < 10 ^ (k + 1)) := Lib.hid (by have := HP.out; rw [Nat.pow_succ]; omega)
          have hn8 : n ≤ 99999999 := by
            have h1 := Nat.pow_le_pow_right (n := 10) (by decide) (show k ≤ 8 by omega)
            have h2 := HP.out
            omega
          clear hd hv
          go_wp2_with (go_at_call 75; refine (hdi _).mono ?_; rintro e w' ⟨rfl, rfl⟩)
          exact ⟨⟨n * 10 + v, k + 1, by go_num, by go_num, by omega, by omega, HP2.out, HK, HD⟩, by simp [intOf]; omega⟩
    · have HA : Hid (s.all dig = true) := Lib.hid (by have := Hk.out; rwa [List.take_of_length_le (by omega)] at this)
      have HD : Hid (numL s = n) := Lib.hid (by have := Hd.out; rw [List.take_of_length_le (by omega)] at this; unfold numL; rw [this]; rfl)
      have HF : Hid (digitsL s = if s ≠ [] then some n else none) := Lib.hid (by
        unfold digitsL
        by_cases h : s = []
        · rw [if_neg (by simp [h]), if_neg (by simp [h])]
        · rw [if_pos ⟨h, by omega, HA.out⟩, if_pos h, HD.out])
      cases s with
      | nil =>
        have hlt2 : ¬ (k : Int) < 0 := by omega
        go_wp2_with fail
        go_ret2
        exact ⟨rfl, n, by rw [HF.out]; rfl, hn9, fun k h => by rw [HF.out] at h; cases h⟩
      | cons a t =>
        have hlt2 : ¬ (k : Int) < (t.length : Int) + 1 := by simp at hlt; omega
        go_wp2_with fail
        go_ret2
        exact ⟨rfl, n, by rw [HF.out]; rfl, hn9, fun k h => by rw [HF.out, if_pos (by simp)] at h; injection h⟩
set_option maxRecDepth 100000 in
theorem countR_any (hs : List Hdr) (v : Value) (name : List UInt8) (w : World) (hv : Hdrs w v hs) : Calls Tryz.prog 77 #[v, .string ⟨name.toArray⟩] w fun e w' => e = .returned (.int .i64 (cntL hs name : Nat)) ∧ w = w' := by
  obtain ⟨hmax, A, c, rfl, hcells⟩ := hv
  have HC := Lib.hid hcells
  clear hcells
  go_enter Tryz.func77, Tryz.ntmps77
  go_wp2_with fail
  go_loop [5, 6] (fun a j => ∃ n k : Nat, a = .int .i64 (n : Int) ∧ j = .int .i64 (k : Int) ∧ k ≤ hs.length ∧ n ≤ k ∧ Hid (cntL (hs.take k) name = n)) (fun _ j => hs.length - (intOf j).toNat)
  case atStart => exact ⟨0, 0, rfl, rfl, by omega, by omega, Lib.hid rfl⟩
  case round =>
    obtain ⟨n, k, rfl, rfl, hk, hn, HN⟩ := hrel
    by_cases hlt : k < hs.length
    · obtain ⟨b, off, rfl, hbl, hc⟩ := HC.out (by omega)
      obtain ⟨c1, c2⟩ := hc k hlt
      obtain ⟨⟨m, x⟩, hx⟩ : ∃ x, hs[k]'hlt = x := ⟨_, rfl⟩
      rw [hx] at c1 c2
      have HX : Hid (hs.take (k + 1) = hs.take k ++ [(m, x)]) := Lib.hid (by rw [List.take_succ_eq_append_getElem hlt, hx])
      clear hx hc c2
      by_cases he : m = name
      · subst he
        have HN2 : Hid (cntL (hs.take (k + 1)) m = n + 1) := Lib.hid (by rw [HX.out, cnt_snoc, if_pos rfl, HN.out])
        go_wp2_with fail
        exact ⟨⟨n + 1, k + 1, by go_num, by go_num, by omega, by omega, HN2⟩, by simp [intOf]; omega⟩
      · have HN2 : Hid (cntL (hs.take (k + 1)) name = n) := Lib.hid (by rw [HX.out, cnt_snoc, if_neg (Ne.symm he), HN.out])
        have hne : (m == name) = false := beq_false_of_ne he
        clear he
        go_wp2_with fail
        exact ⟨⟨n, k + 1, rfl, by go_num, by omega, by omega, HN2⟩, by simp [intOf]; omega⟩
    · have HF : Hid (cntL hs name = n) := Lib.hid (by have := HN.out; rwa [List.take_of_length_le (by omega)] at this)
      go_wp2_with fail
      go_ret
      exact ⟨by rw [HF.out]; rfl, rfl⟩
end Go.Proofs.YtidhemjnchonaaaGreatDoor
