/- Contracts of the document's token, value, digits and count. -/
import Derived.Test.YtidhemjnchonaaaGreatDoorRefP
import Derived.Test.YtidhemjnchonaaaGreatDoorRefA
import Derived.Test.YtidhemjnchonaaaGreatDoorFindR
namespace Go.Proofs.YtidhemjnchonaaaGreatDoor
open Go.RowKit Go.BL

set_option maxRecDepth 100000 in
theorem tokenR_any (s : List UInt8) (hs : s.length ≤ 1073741824) (w : World) : Calls Tryz.prog 105 #[.string ⟨s.toArray⟩] w fun e w' => e = .returned (.bool (tokenL s)) ∧ w = w' := by
  go_enter Tryz.func105, Tryz.ntmps105
  go_wp2_with fail
  go_loop [4] (fun j => ∃ k : Nat, j = .int .i64 (k : Int) ∧ k ≤ s.length ∧ Hid ((s.take k).all tokb = true)) (fun j => s.length - (intOf j).toNat)
  case atStart => exact ⟨0, rfl, by omega, Lib.hid rfl⟩
  case round =>
    obtain ⟨k, rfl, hk, Hk⟩ := hrel
    by_cases hlt : k < s.length
    · obtain ⟨x, hx⟩ : ∃ x, (⟨s.toArray⟩ : ByteArray)[k]'hlt = x := ⟨_, rfl⟩
      have Hx : Hid (s[k]? = some x) := Lib.hid (by rw [← hx, List.getElem?_eq_getElem hlt]; rfl)
      have hsl := sl_mid s k (k + 1) (k : Int) ((k : Int) + 1) rfl (by omega) (by omega) hlt
      have h1 : (s.drop k).take (k + 1 - k) = [x] := by
        rw [Nat.add_sub_cancel_left, List.drop_eq_getElem_cons hlt]
        have : s[k] = x := hx
        rw [this]; rfl
      rw [h1] at hsl
      clear h1
      obtain ⟨i, hi⟩ : ∃ i, Lib.indexByte marks x = i := ⟨_, rfl⟩
      have hf : ∀ w, Calls Tryz.prog 43 #[.string ⟨#[33, 35, 36, 37, 38, 39, 42, 43, 45, 46, 94, 95, 96, 124, 126]⟩, .string ⟨#[x]⟩, .int .i64 0] w fun e w' => e = .returned (.int .i64 i) ∧ w = w' := fun w => by
        rw [← hi, ← mark_eq]
        exact findR_at marks [x] 0 (by decide) (by simp) (by simp) (by decide) w
      obtain ⟨d, hd⟩ : ∃ d, dig x = d := ⟨_, rfl⟩
      obtain ⟨u, hu⟩ : ∃ u, cap x = u := ⟨_, rfl⟩
      have hdi := digitR_any x
      have hca := capitalR_any x
      rw [hd] at hdi
      rw [hu] at hca
      have HB : Hid (tokb x = (d || u || (decide (97 ≤ x.toNat) && decide (x.toNat ≤ 122)) || decide (0 ≤ i))) := Lib.hid (by unfold tokb; rw [hd, hu, hi])
      have HY : Hid (tokb x = true → (s.take (k + 1)).all tokb = true) := Lib.hid (fun h => by
        rw [List.take_add_one, Hx.out, List.all_append, Hk.out]; simp [h])
      have HN : Hid (tokb x = false → tokenL s = false) := Lib.hid (fun h => by
        have : s.all tokb = false := by
          rw [List.all_eq_false]
          exact ⟨x, List.mem_of_getElem? Hx.out, by rw [h]; decide⟩
        unfold tokenL
        rw [this, Bool.and_false])
      clear hd hu hi
      cases d <;> cases u <;>
      · go_wp2_with (first | (go_at_call 75; refine (hdi _).mono ?_; rintro e w' ⟨rfl, rfl⟩) | (go_at_call 60; refine (hca _).mono ?_; rintro e w' ⟨rfl, rfl⟩) | (go_at_call 43; refine (hf _).mono ?_; rintro e w' ⟨rfl, rfl⟩))
        all_goals first
          | exact ⟨⟨k + 1, by go_num, by omega, Lib.hid (HY.out (by rw [HB.out]; simp; try omega))⟩, by simp [intOf]; omega⟩
          | (go_ret; exact ⟨by rw [HN.out (by rw [HB.out]; simp; omega)]; rfl, rfl⟩)
    · have HA : Hid (s.all tokb = true) := Lib.hid (by have := Hk.out; rwa [List.take_of_length_le (by omega)] at this)
      have HL : Hid (tokenL s = (decide (1 ≤ s.length) && decide (s.length ≤ 64))) := Lib.hid (by
        unfold tokenL
        rw [HA.out, Bool.and_true]
        congr 1
        exact decide_eq_decide.2 ⟨fun h => List.length_pos_iff.2 h, fun h => List.length_pos_iff.1 h⟩)
      go_wp2_with fail
      all_goals go_ret
      all_goals (refine ⟨congrArg (fun b => Ending.returned (Value.bool b)) ?_, rfl⟩; rw [HL.out, Bool.eq_iff_iff]; simp; try omega)
set_option maxHeartbeats 2000000 in
set_option maxRecDepth 100000 in
theorem valueR_any (s : List UInt8) (hs : s.length ≤ 1073741824) (w : World) : Calls Tryz.prog 106 #[.string ⟨s.toArray⟩] w fun e w' => e = .returned (.bool (valueL s)) ∧ w = w' := by
  rw [← value_eq]
  obtain ⟨r, hr⟩ : ∃ r, valueR s = r := ⟨_, rfl⟩
  rw [hr]
  have HR := Lib.hid hr
  clear hr
  go_enter Tryz.func106, Tryz.ntmps106
  go_wp2_with fail
  go_loop [3] (fun j => ∃ k : Nat, j = .int .i64 (k : Int) ∧ k ≤ s.length ∧ Hid ((s.take k).all vab = true)) (fun j => s.length - (intOf j).toNat)
  case atStart => exact ⟨0, rfl, by omega, Lib.hid rfl⟩
  case round =>
    obtain ⟨k, rfl, hk, Hk⟩ := hrel
    by_cases hlt : k < s.length
    · obtain ⟨x, hx⟩ : ∃ x, (⟨s.toArray⟩ : ByteArray)[k]'hlt = x := ⟨_, rfl⟩
      have Hx : Hid (s[k]? = some x) := Lib.hid (by rw [← hx, List.getElem?_eq_getElem hlt]; rfl)
      obtain ⟨d, hd⟩ : ∃ d, bla x = d := ⟨_, rfl⟩
      have hbl := blankR_any x
      rw [hd] at hbl
      have HB : Hid (vab x = (d || vis x)) := Lib.hid (by rw [← hd]; unfold vab bla; rw [Bool.or_assoc, Bool.or_comm])
      have HY : Hid (vab x = true → (s.take (k + 1)).all vab = true) := Lib.hid (fun h => by
        rw [List.take_add_one, Hx.out, List.all_append, Hk.out]; simp [h])
      have HN : Hid (vab x = false → valueR s = false) := Lib.hid (fun h => by
        have : s.all vab = false := by
          rw [List.all_eq_false]
          exact ⟨x, List.mem_of_getElem? Hx.out, by rw [h]; decide⟩
        unfold valueR
        rw [this, Bool.false_and, Bool.false_and])
      clear hd
      cases d <;>
      · go_wp2_with (go_at_call 104; refine (hbl _).mono ?_; rintro e w' ⟨rfl, rfl⟩)
        all_goals first
          | exact ⟨⟨k + 1, by go_num, by omega, Lib.hid (HY.out (by rw [HB.out]; simp [vis]; try omega))⟩, by simp [intOf]; omega⟩
          | (go_ret; exact ⟨by rw [← HR.out, HN.out (by rw [HB.out]; simp [vis]; omega)]; rfl, rfl⟩)
    · have HA : Hid (s.all vab = true) := Lib.hid (by have := Hk.out; rwa [List.take_of_length_le (by omega)] at this)
      cases s with
      | nil =>
        go_wp2_with fail
        go_ret
        exact ⟨by rw [← HR.out]; rfl, rfl⟩
      | cons a t =>
        obtain ⟨y, hy⟩ : ∃ y, (a :: t)[t.length]'(by simp) = y := ⟨_, rfl⟩
        have hlt2 : ¬ (k : Int) < (t.length : Int) + 1 := by simp at hlt; omega
        have hs2 : (t.length : Int) ≤ 1073741823 := by simp at hs; omega
        clear hs hlt hk Hk
        have hi0 : ∀ h, (⟨(a :: t).toArray⟩ : ByteArray)[0]'h = a := fun _ => rfl
        have hi1 : ∀ h, (⟨(a :: t).toArray⟩ : ByteArray)[t.length]'h = y := fun _ => hy
        have HL0 : valueR (a :: t) = (decide (t.length + 1 ≤ 32768) && (!bla a && !bla y)) := by
          unfold valueR
          rw [HA.out, List.getLast?_eq_getElem?]
          have : (a :: t)[(a :: t).length - 1]? = some y := by rw [← hy]; simp
          rw [this]
          simp
        rw [HR.out] at HL0
        clear HR HA
        obtain ⟨d, hd⟩ : ∃ d, bla a = d := ⟨_, rfl⟩
        obtain ⟨u, hu⟩ : ∃ u, bla y = u := ⟨_, rfl⟩
        have hba := blankR_any a
        have hby := blankR_any y
        rw [hd] at hba
        rw [hu] at hby
        rw [hd, hu] at HL0
        clear hd hu hy
        by_cases hm : t.length + 1 ≤ 32768
        · have hm2 : (t.length : Int) + 1 ≤ 32768 := by omega
          have hz : ((t.length : Int) + 1 == 0) = false := beq_false_of_ne (by omega)
          have hw : wrap64 ((t.length : Int) + 1 - 1) = (t.length : Int) := by unfold wrap64; omega
          have HL : Hid (r = (!d && !u)) := Lib.hid (by rw [HL0, decide_eq_true hm, Bool.true_and])
          clear HL0 hm
          cases d <;> cases u <;>
          · go_wp2_with (go_at_call 104; first | (refine (hba _).mono ?_; rintro e w' ⟨rfl, rfl⟩) | (refine (hby _).mono ?_; rintro e w' ⟨rfl, rfl⟩))
            go_ret
            exact ⟨by rw [HL.out]; rfl, rfl⟩
        · have hm2 : ¬ (t.length : Int) + 1 ≤ 32768 := by omega
          have HL : Hid (r = false) := Lib.hid (by rw [HL0, decide_eq_false hm, Bool.false_and])
          clear HL0 hm
          go_wp2_with fail
          go_ret
          exact ⟨by rw [HL.out]; rfl, rfl⟩
end Go.Proofs.YtidhemjnchonaaaGreatDoor
