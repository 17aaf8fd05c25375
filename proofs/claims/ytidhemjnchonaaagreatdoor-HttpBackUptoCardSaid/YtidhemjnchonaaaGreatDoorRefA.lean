/- Contracts of the document's small functions: find, digit, blank. -/
import Derived.Test.YtidhemjnchonaaaGreatDoorBase
import Derived.Test.YtidhemjnchonaaaGreatDoorFindP
namespace Go.Proofs.YtidhemjnchonaaaGreatDoor
open Go.RowKit

theorem digitR_any (c : UInt8) (w : World) : Calls Tryz.prog 75 #[.int .u8 (c.toNat : Int)] w fun e w' => e = .returned (.bool (dig c)) ∧ w = w' := by
  go_enter Tryz.func75, Tryz.ntmps75
  go_wp2
  all_goals go_ret
  all_goals (refine ⟨congrArg (fun b => Ending.returned (Value.bool b)) ?_, rfl⟩; rw [Bool.eq_iff_iff]; simp [dig]; omega)
theorem blankR_any (c : UInt8) (w : World) : Calls Tryz.prog 104 #[.int .u8 (c.toNat : Int)] w fun e w' => e = .returned (.bool (bla c)) ∧ w = w' := by
  go_enter Tryz.func104, Tryz.ntmps104
  go_wp2
  all_goals go_ret
  all_goals (refine ⟨congrArg (fun b => Ending.returned (Value.bool b)) ?_, rfl⟩; rw [Bool.eq_iff_iff]; simp [bla]; omega)
theorem sl_mid (s : List UInt8) (i j : Nat) (l h : Int) (hl : l = i) (hh : h = j) (h1 : i ≤ j) (h2 : j ≤ s.length) (w : World) :
    (Instr.slice 9 (.string ⟨s.toArray⟩) (some (.int .i64 l)) (some (.int .i64 h)) none).run Tryz.prog w = .ok (.string ⟨((s.drop i).take (j - i)).toArray⟩) w := by
  subst hl hh
  rw [run_slice_string w 9 ⟨s.toArray⟩ .i64 .i64 i j Tryz.underlying9 (by omega) (by omega) (by show (j : Int) ≤ (s.length : Int); omega)]
  simp only [Int.toNat_natCast, ext_mid]
theorem sl_to (s : List UInt8) (j : Nat) (h : Int) (hh : h = j) (h2 : j ≤ s.length) (w : World) :
    (Instr.slice 9 (.string ⟨s.toArray⟩) none (some (.int .i64 h)) none).run Tryz.prog w = .ok (.string ⟨(s.take j).toArray⟩) w := by
  subst hh
  rw [run_slice_string_to_if w 9 ⟨s.toArray⟩ .i64 j Tryz.underlying9, if_pos ⟨by omega, by show (j : Int) ≤ (s.length : Int); omega⟩]
  simp only [Int.toNat_natCast, ext_mid, List.drop_zero, Nat.sub_zero]
theorem sl_from (s : List UInt8) (i : Nat) (l : Int) (hl : l = i) (h2 : i ≤ s.length) (w : World) :
    (Instr.slice 9 (.string ⟨s.toArray⟩) (some (.int .i64 l)) none none).run Tryz.prog w = .ok (.string ⟨(s.drop i).toArray⟩) w := by
  subst hl
  rw [run_slice_string_from_if w 9 ⟨s.toArray⟩ .i64 i Tryz.underlying9, if_pos ⟨by omega, by show (i : Int) ≤ (s.length : Int); omega⟩]
  simp only [Int.toNat_natCast, ext_mid]
  rw [List.take_of_length_le (by rw [List.length_drop]; exact Nat.le_refl _)]
set_option maxRecDepth 100000 in
theorem findR_at (s t : List UInt8) (f : Nat) (hs : s.length ≤ 1073741824) (ht : t ≠ []) (htl : t.length ≤ 1073741824) (hf : f ≤ 1073741824) (w : World) :
    Calls Tryz.prog 43 #[.string ⟨s.toArray⟩, .string ⟨t.toArray⟩, .int .i64 (f : Int)] w fun e w' => e = .returned (.int .i64 (findFrom s t f)) ∧ w = w' := by
  have HT := Lib.hid ht
  clear ht
  go_enter Tryz.func43, Tryz.ntmps43
  go_wp2_with fail
  go_loop [7] (fun j => ∃ i k : Nat, j = .int .i64 (i : Int) ∧ f + k = i ∧ i ≤ 1073741825 ∧ Hid (∀ j, j < k → Lib.occAt (s.drop f) t j = false)) (fun j => s.length + 1 - (intOf j).toNat)
  case atStart => exact ⟨f, 0, rfl, rfl, by omega, Lib.hid (fun j hj => absurd hj (Nat.not_lt_zero _))⟩
  case round =>
    obtain ⟨i, k, rfl, hik, hi, HK⟩ := hrel
    by_cases hl : i + t.length ≤ s.length
    · obtain ⟨u, hu⟩ : ∃ u, (s.drop i).take t.length = u := ⟨_, rfl⟩
      have hsl := sl_mid s i (i + t.length) (i : Int) ((i : Int) + (t.length : Int)) rfl (by omega) (by omega) hl
      rw [Nat.add_sub_cancel_left, hu] at hsl
      by_cases he : u = t
      · have HF : Hid (findFrom s t f = (i : Int)) := Lib.hid (by rw [← hik]; exact findFrom_hit HK.out (by omega) (by rw [hik, hu, he]))
        subst he
        clear hu
        go_wp2_with fail
        go_ret
        exact ⟨by rw [HF.out]; rfl, rfl⟩
      · have HN := Lib.hid (findFrom_next HK.out (by omega) (by rw [hik, hu]; exact he))
        have hne : (u == t) = false := beq_false_of_ne he
        clear hu he
        go_wp2_with fail
        exact ⟨⟨i + 1, k + 1, by go_num, by omega, by omega, HN⟩, by simp [intOf]; omega⟩
    · have HF : Hid (findFrom s t f = -1) := Lib.hid (findFrom_miss HT.out HK.out (by omega))
      go_wp2_with fail
      go_ret
      exact ⟨by rw [HF.out]; rfl, rfl⟩
end Go.Proofs.YtidhemjnchonaaaGreatDoor
