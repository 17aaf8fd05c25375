/- Contracts of the document's mark: markOf; of above: aboveE. -/
import Derived.Test.YtpdedfpacklnoaaGreatDoorRfA
set_option maxRecDepth 100000
namespace Go.Proofs.YtpdedfpacklnoaaGreatDoor
open Go.RowKit Go.BL Go.Ct Go.Sl

set_option maxHeartbeats 2000000 in
theorem markR_any (ms : List Dt) (v : Value) (n l : Int) (w : World) (hm : Dots w v ms) : Calls Tryz.prog 91 #[v, .int .i64 n, .int .i64 l] w (RetV (.int .i64 (markOf ms n l)) w) := by
  obtain ⟨A, cp, rfl⟩ := hm.form
  have HD := Lib.hid hm
  have hmx := hm.1
  clear hm
  go_enter Tryz.func91, Tryz.ntmps91
  go_wp2_with fail
  go_loopw [11] (fun i wr => ∃ k : Nat, k ≤ ms.length ∧ i = .int .i64 (k : Int) ∧ Hid (Below w.heap.size w wr) ∧ Hid (markOf (ms.drop k) n l = markOf ms n l)) (fun i _ => ms.length - (intOf i).toNat)
  case atStart => exact ⟨0, by omega, rfl, Lib.hid (Below.refl _ _), Lib.hid rfl⟩
  case round =>
    obtain ⟨k, hk, rfl, HB, HM⟩ := hrel
    by_cases hlt : k < ms.length
    · obtain ⟨b, off, rfl, hbl, hc⟩ := dot_cells HD.out (by omega)
      obtain ⟨c1, c2, c3⟩ := hc k hlt
      obtain ⟨⟨dn, dl, dc⟩, hx⟩ : ∃ x, ms[k]'hlt = x := ⟨_, rfl⟩
      rw [hx] at c1 c2 c3
      have d1 := (HB.out.cell (p := ⟨b, off + k * 3, none⟩) hbl).trans c1
      have d2 := (HB.out.cell (p := ⟨b, off + k * 3 + 1, none⟩) hbl).trans c2
      have d3 := (HB.out.cell (p := ⟨b, off + k * 3 + 2, none⟩) hbl).trans c3
      have hd : markOf (ms.drop k) n l = if dn = n ∧ dl = l then dc else markOf (ms.drop (k + 1)) n l := by
        rw [List.drop_eq_getElem_cons hlt, hx]; rfl
      have HM2 := Lib.hid (hd.symm.trans HM.out)
      clear hc c1 c2 c3 hx hd hbl
      obtain ⟨w1, hw1⟩ : ∃ w1, wr.alloc (.cells #[.int .i64 dn, .int .i64 dl, .int .i64 dc] 150) = w1 := ⟨_, rfl⟩
      have HW1 : Hid (Below w.heap.size w w1) := Lib.hid (by rw [← hw1]; exact HB.out.alloc HB.out.size _)
      have HP : Hid (w1.cell? ⟨wr.heap.size, 0, none⟩ = some (.int .i64 dn) ∧ w1.cell? ⟨wr.heap.size, 1, none⟩ = some (.int .i64 dl) ∧ w1.cell? ⟨wr.heap.size, 2, none⟩ = some (.int .i64 dc)) := Lib.hid (by rw [← hw1]; exact tri_at wr _ _ _ 150 _ rfl)
      go_upto_region 4 with fail
      clear hw1 d1 d2 d3
      obtain ⟨p0, p1, p2⟩ := HP.out
      by_cases h1 : dn = n
      case neg =>
        have g1 : (dn == n) = false := beq_false_of_ne h1
        have HN : Hid (markOf (ms.drop (k + 1)) n l = markOf ms n l) := Lib.hid (by have := HM2.out; rwa [if_neg (fun e => h1 e.1)] at this)
        clear h1
        go_wp2_with fail
        exact ⟨⟨k + 1, by omega, by go_num, HW1, HN⟩, by simp [intOf]; omega⟩
      subst h1
      by_cases h2 : dl = l
      case neg =>
        have g2 : (dl == l) = false := beq_false_of_ne h2
        have HN : Hid (markOf (ms.drop (k + 1)) dn l = markOf ms dn l) := Lib.hid (by have := HM2.out; rwa [if_neg (fun e => h2 e.2)] at this)
        clear h2
        go_wp2_with fail
        exact ⟨⟨k + 1, by omega, by go_num, HW1, HN⟩, by simp [intOf]; omega⟩
      subst h2
      have HN : Hid (dc = markOf ms dn dl) := Lib.hid (by have := HM2.out; rwa [if_pos ⟨rfl, rfl⟩] at this)
      go_wp2_with fail
      go_ret
      exact ⟨by rw [← HN.out]; rfl, HW1.out⟩
    · have HN : Hid (markOf ms n l = 0) := Lib.hid (by rw [← HM.out, List.drop_of_length_le (by omega)]; rfl)
      go_wp2_with fail
      go_ret
      exact ⟨by rw [HN.out]; rfl, HB.out⟩
end Go.Proofs.YtpdedfpacklnoaaGreatDoor
