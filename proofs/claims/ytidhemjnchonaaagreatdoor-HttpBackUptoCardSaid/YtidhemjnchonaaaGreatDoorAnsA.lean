/- Contracts of http.field and of the law's sameAnswer. -/
import Derived.Test.YtidhemjnchonaaaGreatDoorAnsP
import Derived.Test.YtidhemjnchonaaaGreatDoorPrnA
import Derived.Deep.RegionHeld
namespace Go.Proofs.YtidhemjnchonaaaGreatDoor
open Go.RowKit Go.BL

theorem pputH (P : Program) (f : Func) (R : Ending → World → Prop) (K : Act → World → Prop) (j : Option Tmp) (v : Value) : ∀ c (a : Act) w, Exit.then K (bodyPost P f R) (.panic c) (a.put j v) w → Exit.then K (bodyPost P f R) (.panic c) a w := fun _ _ _ h => by cases j <;> exact h
theorem pair_cells {w : World} {x y : Value} {t : TypeId} : (w.alloc (.cells #[x, y] t)).cell? ⟨w.heap.size, 0, none⟩ = some x ∧ (w.alloc (.cells #[x, y] t)).cell? ⟨w.heap.size, 1, none⟩ = some y := by
  constructor <;> (rw [World.cell?_alloc_at _ _ _ _ rfl]; rfl)
set_option maxHeartbeats 4000000 in
set_option maxRecDepth 100000 in
theorem field_any (n v : List UInt8) (w : World) (hn : n.length ≤ 1073741824) (hv : v.length ≤ 1073741824) : Calls Tryz.prog 53 #[.agg #[.string ⟨n.toArray⟩, .string ⟨v.toArray⟩]] w (RetV (.bool (fieldL (n, v))) w) := by
  obtain ⟨w0, hw0⟩ : ∃ w0, w.alloc (.cells #[.string ⟨n.toArray⟩, .string ⟨v.toArray⟩] 44) = w0 := ⟨_, rfl⟩
  have HB : Hid (Below w.heap.size w w0) := Lib.hid (by rw [← hw0]; exact (Below.refl _ _).alloc (Nat.le_refl _) _)
  have HS : Hid (w.heap.size < w0.heap.size) := Lib.hid (by rw [← hw0]; simp)
  have HP : Hid (w0.cell? ⟨w.heap.size, 0, none⟩ = some (.string ⟨n.toArray⟩) ∧ w0.cell? ⟨w.heap.size, 1, none⟩ = some (.string ⟨v.toArray⟩)) := Lib.hid (by rw [← hw0]; exact pair_cells)
  have htk := token_any n (by omega)
  have hsm := small_any n (by omega)
  have hvl := value_any v (by omega)
  obtain ⟨k, hk⟩ : ∃ k, tokenL n = k := ⟨_, rfl⟩
  obtain ⟨l, hl⟩ : ∃ l, smallL n = l := ⟨_, rfl⟩
  obtain ⟨r, hr⟩ : ∃ k, valueL v = k := ⟨_, rfl⟩
  obtain ⟨g1, h1⟩ : ∃ k, (l == n) = k := ⟨_, rfl⟩
  obtain ⟨g2, h2⟩ : ∃ k, (n == [99, 111, 110, 116, 101, 110, 116, 45, 108, 101, 110, 103, 116, 104]) = k := ⟨_, rfl⟩
  have h2' : (n != [99, 111, 110, 116, 101, 110, 116, 45, 108, 101, 110, 103, 116, 104]) = !g2 := by rw [bne, h2]
  have HF : Hid (fieldL (n, v) = (k && g1 && !g2 && r)) := Lib.hid (by
    unfold fieldL
    simp only
    rw [hk, hl, h1, hr, show (n == clK) = g2 from h2])
  rw [hk] at htk
  rw [hl] at hsm
  rw [hr] at hvl
  clear hk hl hr hn hv
  obtain ⟨q0, q1⟩ := HP.out
  go_enter Tryz.func53, Tryz.ntmps53
  go_wp2_with fail
  cases k
  case false =>
    refine wp_region_held_drew (S := fun u => u.cell? ⟨w.heap.size, 0, none⟩ = some (.string ⟨n.toArray⟩) ∧ u.cell? ⟨w.heap.size, 1, none⟩ = some (.string ⟨v.toArray⟩)) (by kernel_rfl) ?_ (fun hHeld => ?_)
    · exact ⟨q0, q1⟩
    refine wpAnyH_take (i := 0) (v := .pointer (some ⟨w.heap.size, 0, none⟩)) rfl (by kernel_rfl) (by kernel_rfl) (by kernel_rfl) (pputH _ _ _ _ _ _) (Or.inl ⟨by kernel_rfl, ?_⟩) hHeld ?_
    · intro u hS; obtain ⟨p0, p1⟩ := hS; go_simp
    refine wpAnyH_take (i := 1) (v := .string ⟨n.toArray⟩) rfl (by kernel_rfl) (by kernel_rfl) (by kernel_rfl) (pputH _ _ _ _ _ _) (Or.inl ⟨by kernel_rfl, ?_⟩) hHeld ?_
    · intro u hS; obtain ⟨p0, p1⟩ := hS; go_simp
    refine wpAnyH_ready (rs := [2]) (by kernel_rfl) (by simp) ?_
    refine AllReadyH.cons (i := 2) rfl (fun K hK => ?_) AllReadyH.nil
    go_simp
    go_at_call 73
    refine (htk _).mono ?_
    rintro e w' ⟨rfl, rfl⟩
    refine hK.out _ _ ?_ (fun hHeld => ?_)
    · exact ⟨q0, q1⟩
    clear hK K
    refine wpAnyH_take (i := 3) (v := .bool false) rfl (by kernel_rfl) (by kernel_rfl) (by kernel_rfl) (pputH _ _ _ _ _ _) (Or.inl ⟨by kernel_rfl, ?_⟩) hHeld ?_
    · intro u hS; obtain ⟨p0, p1⟩ := hS; go_simp
    refine wpAnyH_take (i := 4) (v := undef) rfl (by kernel_rfl) (by kernel_rfl) (by kernel_rfl) (pputH _ _ _ _ _ _) (Or.inr ⟨by kernel_rfl, rfl⟩) hHeld ?_
    refine wpAnyH_take (i := 5) (v := undef) rfl (by kernel_rfl) (by kernel_rfl) (by kernel_rfl) (pputH _ _ _ _ _ _) (Or.inr ⟨by kernel_rfl, rfl⟩) hHeld ?_
    refine wpAnyH_take (i := 7) (v := undef) rfl (by kernel_rfl) (by kernel_rfl) (by kernel_rfl) (pputH _ _ _ _ _ _) (Or.inr ⟨by kernel_rfl, rfl⟩) hHeld ?_
    refine wpAnyH_take (i := 8) (v := undef) rfl (by kernel_rfl) (by kernel_rfl) (by kernel_rfl) (pputH _ _ _ _ _ _) (Or.inr ⟨by kernel_rfl, rfl⟩) hHeld ?_
    refine wpAnyH_take (i := 6) (v := undef) rfl (by kernel_rfl) (by kernel_rfl) (by kernel_rfl) (pputH _ _ _ _ _ _) (Or.inr ⟨by kernel_rfl, rfl⟩) hHeld ?_
    refine wpAnyH_take (i := 9) (v := undef) rfl (by kernel_rfl) (by kernel_rfl) (by kernel_rfl) (pputH _ _ _ _ _ _) (Or.inr ⟨by kernel_rfl, rfl⟩) hHeld ?_
    refine wpAnyH_take (i := 10) (v := .bool false) rfl (by kernel_rfl) (by kernel_rfl) (by kernel_rfl) (pputH _ _ _ _ _ _) (Or.inl ⟨by kernel_rfl, ?_⟩) hHeld ?_
    · intro u hS; obtain ⟨p0, p1⟩ := hS; go_simp
    refine wpAnyH_take (i := 11) (v := .bool false) rfl (by kernel_rfl) (by kernel_rfl) (by kernel_rfl) (pputH _ _ _ _ _ _) (Or.inl ⟨by kernel_rfl, ?_⟩) hHeld ?_
    · intro u hS; obtain ⟨p0, p1⟩ := hS; go_simp
    refine wpAnyH_take (i := 12) (v := undef) rfl (by kernel_rfl) (by kernel_rfl) (by kernel_rfl) (pputH _ _ _ _ _ _) (Or.inr ⟨by kernel_rfl, rfl⟩) hHeld ?_
    refine wpAnyH_take (i := 13) (v := undef) rfl (by kernel_rfl) (by kernel_rfl) (by kernel_rfl) (pputH _ _ _ _ _ _) (Or.inr ⟨by kernel_rfl, rfl⟩) hHeld ?_
    refine wpAnyH_take (i := 14) (v := undef) rfl (by kernel_rfl) (by kernel_rfl) (by kernel_rfl) (pputH _ _ _ _ _ _) (Or.inr ⟨by kernel_rfl, rfl⟩) hHeld ?_
    refine wpAnyH_take (i := 15) (v := .bool false) rfl (by kernel_rfl) (by kernel_rfl) (by kernel_rfl) (pputH _ _ _ _ _ _) (Or.inl ⟨by kernel_rfl, ?_⟩) hHeld ?_
    · intro u hS; obtain ⟨p0, p1⟩ := hS; go_simp
    refine wpAnyH_take (i := 16) (v := .bool false) rfl (by kernel_rfl) (by kernel_rfl) (by kernel_rfl) (pputH _ _ _ _ _ _) (Or.inl ⟨by kernel_rfl, ?_⟩) hHeld ?_
    · intro u hS; obtain ⟨p0, p1⟩ := hS; go_simp
    refine wpAnyH_take (i := 17) (v := undef) rfl (by kernel_rfl) (by kernel_rfl) (by kernel_rfl) (pputH _ _ _ _ _ _) (Or.inr ⟨by kernel_rfl, rfl⟩) hHeld ?_
    refine wpAnyH_take (i := 18) (v := undef) rfl (by kernel_rfl) (by kernel_rfl) (by kernel_rfl) (pputH _ _ _ _ _ _) (Or.inr ⟨by kernel_rfl, rfl⟩) hHeld ?_
    refine wpAnyH_take (i := 19) (v := undef) rfl (by kernel_rfl) (by kernel_rfl) (by kernel_rfl) (pputH _ _ _ _ _ _) (Or.inr ⟨by kernel_rfl, rfl⟩) hHeld ?_
    refine wpAnyH_ready (rs := [20]) (by kernel_rfl) (by simp) ?_
    refine AllReadyH.cons (i := 20) rfl (fun K hK => ?_) AllReadyH.nil
    go_simp
    refine hK.out _ _ ?_ (fun hHeld => ?_)
    · exact ⟨q0, q1⟩
    clear hK K
    refine wpAnyH_ready (rs := [21]) (by kernel_rfl) (by simp) ?_
    refine AllReadyH.cons (i := 21) rfl (fun K hK => ?_) AllReadyH.nil
    go_simp
    refine hK.out _ _ ?_ (fun hHeld => ?_)
    · exact ⟨q0, q1⟩
    clear hK K
    refine wpAnyH_done (by kernel_rfl) ?_ _
    go_wp2_with fail
    go_ret
    refine ⟨?_, HB.out.trans ((Below.refl w0.heap.size w0).drew.mono HB.out.size)⟩
    have hff : fieldL (n, v) = false := by rw [HF.out]; rfl
    rw [hff]
    simp
  cases g1
  case false =>
    refine wp_region_held_drew (S := fun u => u.cell? ⟨w.heap.size, 0, none⟩ = some (.string ⟨n.toArray⟩) ∧ u.cell? ⟨w.heap.size, 1, none⟩ = some (.string ⟨v.toArray⟩)) (by kernel_rfl) ?_ (fun hHeld => ?_)
    · exact ⟨q0, q1⟩
    refine wpAnyH_take (i := 0) (v := .pointer (some ⟨w.heap.size, 0, none⟩)) rfl (by kernel_rfl) (by kernel_rfl) (by kernel_rfl) (pputH _ _ _ _ _ _) (Or.inl ⟨by kernel_rfl, ?_⟩) hHeld ?_
    · intro u hS; obtain ⟨p0, p1⟩ := hS; go_simp
    refine wpAnyH_take (i := 1) (v := .string ⟨n.toArray⟩) rfl (by kernel_rfl) (by kernel_rfl) (by kernel_rfl) (pputH _ _ _ _ _ _) (Or.inl ⟨by kernel_rfl, ?_⟩) hHeld ?_
    · intro u hS; obtain ⟨p0, p1⟩ := hS; go_simp
    refine wpAnyH_ready (rs := [2]) (by kernel_rfl) (by simp) ?_
    refine AllReadyH.cons (i := 2) rfl (fun K hK => ?_) AllReadyH.nil
    go_simp
    go_at_call 73
    refine (htk _).mono ?_
    rintro e w' ⟨rfl, rfl⟩
    refine hK.out _ _ ?_ (fun hHeld => ?_)
    · exact ⟨q0, q1⟩
    clear hK K
    refine wpAnyH_take (i := 3) (v := .bool true) rfl (by kernel_rfl) (by kernel_rfl) (by kernel_rfl) (pputH _ _ _ _ _ _) (Or.inl ⟨by kernel_rfl, ?_⟩) hHeld ?_
    · intro u hS; obtain ⟨p0, p1⟩ := hS; go_simp
    refine wpAnyH_take (i := 4) (v := .pointer (some ⟨w.heap.size, 0, none⟩)) rfl (by kernel_rfl) (by kernel_rfl) (by kernel_rfl) (pputH _ _ _ _ _ _) (Or.inl ⟨by kernel_rfl, ?_⟩) hHeld ?_
    · intro u hS; obtain ⟨p0, p1⟩ := hS; go_simp
    refine wpAnyH_take (i := 5) (v := .string ⟨n.toArray⟩) rfl (by kernel_rfl) (by kernel_rfl) (by kernel_rfl) (pputH _ _ _ _ _ _) (Or.inl ⟨by kernel_rfl, ?_⟩) hHeld ?_
    · intro u hS; obtain ⟨p0, p1⟩ := hS; go_simp
    refine wpAnyH_take (i := 7) (v := .pointer (some ⟨w.heap.size, 0, none⟩)) rfl (by kernel_rfl) (by kernel_rfl) (by kernel_rfl) (pputH _ _ _ _ _ _) (Or.inl ⟨by kernel_rfl, ?_⟩) hHeld ?_
    · intro u hS; obtain ⟨p0, p1⟩ := hS; go_simp
    refine wpAnyH_take (i := 8) (v := .string ⟨n.toArray⟩) rfl (by kernel_rfl) (by kernel_rfl) (by kernel_rfl) (pputH _ _ _ _ _ _) (Or.inl ⟨by kernel_rfl, ?_⟩) hHeld ?_
    · intro u hS; obtain ⟨p0, p1⟩ := hS; go_simp
    refine wpAnyH_ready (rs := [6]) (by kernel_rfl) (by simp) ?_
    refine AllReadyH.cons (i := 6) rfl (fun K hK => ?_) AllReadyH.nil
    go_simp
    go_at_call 32
    refine (hsm _).mono ?_
    rintro e w3 ⟨rfl, hb⟩
    have HB3 := Lib.hid ((Below.refl w0.heap.size w0).drew.trans hb)
    clear hb
    have k0 := (HB3.out.cell (p := ⟨w.heap.size, 0, none⟩) HS.out).trans q0
    have k1 := (HB3.out.cell (p := ⟨w.heap.size, 1, none⟩) HS.out).trans q1
    refine hK.out _ _ ?_ (fun hHeld => ?_)
    · exact ⟨k0, k1⟩
    clear hK K
    refine wpAnyH_take (i := 9) (v := .bool false) rfl (by kernel_rfl) (by kernel_rfl) (by kernel_rfl) (pputH _ _ _ _ _ _) (Or.inl ⟨by kernel_rfl, ?_⟩) hHeld ?_
    · intro u hS; obtain ⟨p0, p1⟩ := hS; go_simp
    refine wpAnyH_take (i := 10) (v := .bool false) rfl (by kernel_rfl) (by kernel_rfl) (by kernel_rfl) (pputH _ _ _ _ _ _) (Or.inl ⟨by kernel_rfl, ?_⟩) hHeld ?_
    · intro u hS; obtain ⟨p0, p1⟩ := hS; go_simp
    refine wpAnyH_take (i := 11) (v := .bool false) rfl (by kernel_rfl) (by kernel_rfl) (by kernel_rfl) (pputH _ _ _ _ _ _) (Or.inl ⟨by kernel_rfl, ?_⟩) hHeld ?_
    · intro u hS; obtain ⟨p0, p1⟩ := hS; go_simp
    refine wpAnyH_take (i := 12) (v := undef) rfl (by kernel_rfl) (by kernel_rfl) (by kernel_rfl) (pputH _ _ _ _ _ _) (Or.inr ⟨by kernel_rfl, rfl⟩) hHeld ?_
    refine wpAnyH_take (i := 13) (v := undef) rfl (by kernel_rfl) (by kernel_rfl) (by kernel_rfl) (pputH _ _ _ _ _ _) (Or.inr ⟨by kernel_rfl, rfl⟩) hHeld ?_
    refine wpAnyH_take (i := 14) (v := undef) rfl (by kernel_rfl) (by kernel_rfl) (by kernel_rfl) (pputH _ _ _ _ _ _) (Or.inr ⟨by kernel_rfl, rfl⟩) hHeld ?_
    refine wpAnyH_take (i := 15) (v := .bool false) rfl (by kernel_rfl) (by kernel_rfl) (by kernel_rfl) (pputH _ _ _ _ _ _) (Or.inl ⟨by kernel_rfl, ?_⟩) hHeld ?_
    · intro u hS; obtain ⟨p0, p1⟩ := hS; go_simp
    refine wpAnyH_take (i := 16) (v := .bool false) rfl (by kernel_rfl) (by kernel_rfl) (by kernel_rfl) (pputH _ _ _ _ _ _) (Or.inl ⟨by kernel_rfl, ?_⟩) hHeld ?_
    · intro u hS; obtain ⟨p0, p1⟩ := hS; go_simp
    refine wpAnyH_take (i := 17) (v := undef) rfl (by kernel_rfl) (by kernel_rfl) (by kernel_rfl) (pputH _ _ _ _ _ _) (Or.inr ⟨by kernel_rfl, rfl⟩) hHeld ?_
    refine wpAnyH_take (i := 18) (v := undef) rfl (by kernel_rfl) (by kernel_rfl) (by kernel_rfl) (pputH _ _ _ _ _ _) (Or.inr ⟨by kernel_rfl, rfl⟩) hHeld ?_
    refine wpAnyH_take (i := 19) (v := undef) rfl (by kernel_rfl) (by kernel_rfl) (by kernel_rfl) (pputH _ _ _ _ _ _) (Or.inr ⟨by kernel_rfl, rfl⟩) hHeld ?_
    refine wpAnyH_ready (rs := [20]) (by kernel_rfl) (by simp) ?_
    refine AllReadyH.cons (i := 20) rfl (fun K hK => ?_) AllReadyH.nil
    go_simp
    refine hK.out _ _ ?_ (fun hHeld => ?_)
    · exact ⟨k0, k1⟩
    clear hK K
    refine wpAnyH_ready (rs := [21]) (by kernel_rfl) (by simp) ?_
    refine AllReadyH.cons (i := 21) rfl (fun K hK => ?_) AllReadyH.nil
    go_simp
    refine hK.out _ _ ?_ (fun hHeld => ?_)
    · exact ⟨k0, k1⟩
    clear hK K
    refine wpAnyH_done (by kernel_rfl) ?_ _
    go_wp2_with fail
    go_ret
    refine ⟨?_, HB.out.trans (HB3.out.mono HB.out.size)⟩
    have hff : fieldL (n, v) = false := by rw [HF.out]; rfl
    rw [hff]
    simp
  cases g2
  case true =>
    refine wp_region_held_drew (S := fun u => u.cell? ⟨w.heap.size, 0, none⟩ = some (.string ⟨n.toArray⟩) ∧ u.cell? ⟨w.heap.size, 1, none⟩ = some (.string ⟨v.toArray⟩)) (by kernel_rfl) ?_ (fun hHeld => ?_)
    · exact ⟨q0, q1⟩
    refine wpAnyH_take (i := 0) (v := .pointer (some ⟨w.heap.size, 0, none⟩)) rfl (by kernel_rfl) (by kernel_rfl) (by kernel_rfl) (pputH _ _ _ _ _ _) (Or.inl ⟨by kernel_rfl, ?_⟩) hHeld ?_
    · intro u hS; obtain ⟨p0, p1⟩ := hS; go_simp
    refine wpAnyH_take (i := 1) (v := .string ⟨n.toArray⟩) rfl (by kernel_rfl) (by kernel_rfl) (by kernel_rfl) (pputH _ _ _ _ _ _) (Or.inl ⟨by kernel_rfl, ?_⟩) hHeld ?_
    · intro u hS; obtain ⟨p0, p1⟩ := hS; go_simp
    refine wpAnyH_ready (rs := [2]) (by kernel_rfl) (by simp) ?_
    refine AllReadyH.cons (i := 2) rfl (fun K hK => ?_) AllReadyH.nil
    go_simp
    go_at_call 73
    refine (htk _).mono ?_
    rintro e w' ⟨rfl, rfl⟩
    refine hK.out _ _ ?_ (fun hHeld => ?_)
    · exact ⟨q0, q1⟩
    clear hK K
    refine wpAnyH_take (i := 3) (v := .bool true) rfl (by kernel_rfl) (by kernel_rfl) (by kernel_rfl) (pputH _ _ _ _ _ _) (Or.inl ⟨by kernel_rfl, ?_⟩) hHeld ?_
    · intro u hS; obtain ⟨p0, p1⟩ := hS; go_simp
    refine wpAnyH_take (i := 4) (v := .pointer (some ⟨w.heap.size, 0, none⟩)) rfl (by kernel_rfl) (by kernel_rfl) (by kernel_rfl) (pputH _ _ _ _ _ _) (Or.inl ⟨by kernel_rfl, ?_⟩) hHeld ?_
    · intro u hS; obtain ⟨p0, p1⟩ := hS; go_simp
    refine wpAnyH_take (i := 5) (v := .string ⟨n.toArray⟩) rfl (by kernel_rfl) (by kernel_rfl) (by kernel_rfl) (pputH _ _ _ _ _ _) (Or.inl ⟨by kernel_rfl, ?_⟩) hHeld ?_
    · intro u hS; obtain ⟨p0, p1⟩ := hS; go_simp
    refine wpAnyH_take (i := 7) (v := .pointer (some ⟨w.heap.size, 0, none⟩)) rfl (by kernel_rfl) (by kernel_rfl) (by kernel_rfl) (pputH _ _ _ _ _ _) (Or.inl ⟨by kernel_rfl, ?_⟩) hHeld ?_
    · intro u hS; obtain ⟨p0, p1⟩ := hS; go_simp
    refine wpAnyH_take (i := 8) (v := .string ⟨n.toArray⟩) rfl (by kernel_rfl) (by kernel_rfl) (by kernel_rfl) (pputH _ _ _ _ _ _) (Or.inl ⟨by kernel_rfl, ?_⟩) hHeld ?_
    · intro u hS; obtain ⟨p0, p1⟩ := hS; go_simp
    refine wpAnyH_ready (rs := [6]) (by kernel_rfl) (by simp) ?_
    refine AllReadyH.cons (i := 6) rfl (fun K hK => ?_) AllReadyH.nil
    go_simp
    go_at_call 32
    refine (hsm _).mono ?_
    rintro e w3 ⟨rfl, hb⟩
    have HB3 := Lib.hid ((Below.refl w0.heap.size w0).drew.trans hb)
    clear hb
    have k0 := (HB3.out.cell (p := ⟨w.heap.size, 0, none⟩) HS.out).trans q0
    have k1 := (HB3.out.cell (p := ⟨w.heap.size, 1, none⟩) HS.out).trans q1
    refine hK.out _ _ ?_ (fun hHeld => ?_)
    · exact ⟨k0, k1⟩
    clear hK K
    refine wpAnyH_take (i := 9) (v := .bool true) rfl (by kernel_rfl) (by kernel_rfl) (by kernel_rfl) (pputH _ _ _ _ _ _) (Or.inl ⟨by kernel_rfl, ?_⟩) hHeld ?_
    · intro u hS; obtain ⟨p0, p1⟩ := hS; go_simp
    refine wpAnyH_take (i := 10) (v := .bool true) rfl (by kernel_rfl) (by kernel_rfl) (by kernel_rfl) (pputH _ _ _ _ _ _) (Or.inl ⟨by kernel_rfl, ?_⟩) hHeld ?_
    · intro u hS; obtain ⟨p0, p1⟩ := hS; go_simp
    refine wpAnyH_take (i := 11) (v := .bool true) rfl (by kernel_rfl) (by kernel_rfl) (by kernel_rfl) (pputH _ _ _ _ _ _) (Or.inl ⟨by kernel_rfl, ?_⟩) hHeld ?_
    · intro u hS; obtain ⟨p0, p1⟩ := hS; go_simp
    refine wpAnyH_take (i := 12) (v := .pointer (some ⟨w.heap.size, 0, none⟩)) rfl (by kernel_rfl) (by kernel_rfl) (by kernel_rfl) (pputH _ _ _ _ _ _) (Or.inl ⟨by kernel_rfl, ?_⟩) hHeld ?_
    · intro u hS; obtain ⟨p0, p1⟩ := hS; go_simp
    refine wpAnyH_take (i := 13) (v := .string ⟨n.toArray⟩) rfl (by kernel_rfl) (by kernel_rfl) (by kernel_rfl) (pputH _ _ _ _ _ _) (Or.inl ⟨by kernel_rfl, ?_⟩) hHeld ?_
    · intro u hS; obtain ⟨p0, p1⟩ := hS; go_simp
    refine wpAnyH_take (i := 14) (v := .bool false) rfl (by kernel_rfl) (by kernel_rfl) (by kernel_rfl) (pputH _ _ _ _ _ _) (Or.inl ⟨by kernel_rfl, ?_⟩) hHeld ?_
    · intro u hS; obtain ⟨p0, p1⟩ := hS; go_simp
    refine wpAnyH_take (i := 15) (v := .bool false) rfl (by kernel_rfl) (by kernel_rfl) (by kernel_rfl) (pputH _ _ _ _ _ _) (Or.inl ⟨by kernel_rfl, ?_⟩) hHeld ?_
    · intro u hS; obtain ⟨p0, p1⟩ := hS; go_simp
    refine wpAnyH_take (i := 16) (v := .bool false) rfl (by kernel_rfl) (by kernel_rfl) (by kernel_rfl) (pputH _ _ _ _ _ _) (Or.inl ⟨by kernel_rfl, ?_⟩) hHeld ?_
    · intro u hS; obtain ⟨p0, p1⟩ := hS; go_simp
    refine wpAnyH_take (i := 17) (v := undef) rfl (by kernel_rfl) (by kernel_rfl) (by kernel_rfl) (pputH _ _ _ _ _ _) (Or.inr ⟨by kernel_rfl, rfl⟩) hHeld ?_
    refine wpAnyH_take (i := 18) (v := undef) rfl (by kernel_rfl) (by kernel_rfl) (by kernel_rfl) (pputH _ _ _ _ _ _) (Or.inr ⟨by kernel_rfl, rfl⟩) hHeld ?_
    refine wpAnyH_take (i := 19) (v := undef) rfl (by kernel_rfl) (by kernel_rfl) (by kernel_rfl) (pputH _ _ _ _ _ _) (Or.inr ⟨by kernel_rfl, rfl⟩) hHeld ?_
    refine wpAnyH_ready (rs := [20]) (by kernel_rfl) (by simp) ?_
    refine AllReadyH.cons (i := 20) rfl (fun K hK => ?_) AllReadyH.nil
    go_simp
    refine hK.out _ _ ?_ (fun hHeld => ?_)
    · exact ⟨k0, k1⟩
    clear hK K
    refine wpAnyH_ready (rs := [21]) (by kernel_rfl) (by simp) ?_
    refine AllReadyH.cons (i := 21) rfl (fun K hK => ?_) AllReadyH.nil
    go_simp
    refine hK.out _ _ ?_ (fun hHeld => ?_)
    · exact ⟨k0, k1⟩
    clear hK K
    refine wpAnyH_done (by kernel_rfl) ?_ _
    go_wp2_with fail
    go_ret
    refine ⟨?_, HB.out.trans (HB3.out.mono HB.out.size)⟩
    have hff : fieldL (n, v) = false := by rw [HF.out]; rfl
    rw [hff]
    simp
  case false =>
    refine wp_region_held_drew (S := fun u => u.cell? ⟨w.heap.size, 0, none⟩ = some (.string ⟨n.toArray⟩) ∧ u.cell? ⟨w.heap.size, 1, none⟩ = some (.string ⟨v.toArray⟩)) (by kernel_rfl) ?_ (fun hHeld => ?_)
    · exact ⟨q0, q1⟩
    refine wpAnyH_take (i := 0) (v := .pointer (some ⟨w.heap.size, 0, none⟩)) rfl (by kernel_rfl) (by kernel_rfl) (by kernel_rfl) (pputH _ _ _ _ _ _) (Or.inl ⟨by kernel_rfl, ?_⟩) hHeld ?_
    · intro u hS; obtain ⟨p0, p1⟩ := hS; go_simp
    refine wpAnyH_take (i := 1) (v := .string ⟨n.toArray⟩) rfl (by kernel_rfl) (by kernel_rfl) (by kernel_rfl) (pputH _ _ _ _ _ _) (Or.inl ⟨by kernel_rfl, ?_⟩) hHeld ?_
    · intro u hS; obtain ⟨p0, p1⟩ := hS; go_simp
    refine wpAnyH_ready (rs := [2]) (by kernel_rfl) (by simp) ?_
    refine AllReadyH.cons (i := 2) rfl (fun K hK => ?_) AllReadyH.nil
    go_simp
    go_at_call 73
    refine (htk _).mono ?_
    rintro e w' ⟨rfl, rfl⟩
    refine hK.out _ _ ?_ (fun hHeld => ?_)
    · exact ⟨q0, q1⟩
    clear hK K
    refine wpAnyH_take (i := 3) (v := .bool true) rfl (by kernel_rfl) (by kernel_rfl) (by kernel_rfl) (pputH _ _ _ _ _ _) (Or.inl ⟨by kernel_rfl, ?_⟩) hHeld ?_
    · intro u hS; obtain ⟨p0, p1⟩ := hS; go_simp
    refine wpAnyH_take (i := 4) (v := .pointer (some ⟨w.heap.size, 0, none⟩)) rfl (by kernel_rfl) (by kernel_rfl) (by kernel_rfl) (pputH _ _ _ _ _ _) (Or.inl ⟨by kernel_rfl, ?_⟩) hHeld ?_
    · intro u hS; obtain ⟨p0, p1⟩ := hS; go_simp
    refine wpAnyH_take (i := 5) (v := .string ⟨n.toArray⟩) rfl (by kernel_rfl) (by kernel_rfl) (by kernel_rfl) (pputH _ _ _ _ _ _) (Or.inl ⟨by kernel_rfl, ?_⟩) hHeld ?_
    · intro u hS; obtain ⟨p0, p1⟩ := hS; go_simp
    refine wpAnyH_take (i := 7) (v := .pointer (some ⟨w.heap.size, 0, none⟩)) rfl (by kernel_rfl) (by kernel_rfl) (by kernel_rfl) (pputH _ _ _ _ _ _) (Or.inl ⟨by kernel_rfl, ?_⟩) hHeld ?_
    · intro u hS; obtain ⟨p0, p1⟩ := hS; go_simp
    refine wpAnyH_take (i := 8) (v := .string ⟨n.toArray⟩) rfl (by kernel_rfl) (by kernel_rfl) (by kernel_rfl) (pputH _ _ _ _ _ _) (Or.inl ⟨by kernel_rfl, ?_⟩) hHeld ?_
    · intro u hS; obtain ⟨p0, p1⟩ := hS; go_simp
    refine wpAnyH_ready (rs := [6]) (by kernel_rfl) (by simp) ?_
    refine AllReadyH.cons (i := 6) rfl (fun K hK => ?_) AllReadyH.nil
    go_simp
    go_at_call 32
    refine (hsm _).mono ?_
    rintro e w3 ⟨rfl, hb⟩
    have HB3 := Lib.hid ((Below.refl w0.heap.size w0).drew.trans hb)
    clear hb
    have k0 := (HB3.out.cell (p := ⟨w.heap.size, 0, none⟩) HS.out).trans q0
    have k1 := (HB3.out.cell (p := ⟨w.heap.size, 1, none⟩) HS.out).trans q1
    refine hK.out _ _ ?_ (fun hHeld => ?_)
    · exact ⟨k0, k1⟩
    clear hK K
    refine wpAnyH_take (i := 9) (v := .bool true) rfl (by kernel_rfl) (by kernel_rfl) (by kernel_rfl) (pputH _ _ _ _ _ _) (Or.inl ⟨by kernel_rfl, ?_⟩) hHeld ?_
    · intro u hS; obtain ⟨p0, p1⟩ := hS; go_simp
    refine wpAnyH_take (i := 10) (v := .bool true) rfl (by kernel_rfl) (by kernel_rfl) (by kernel_rfl) (pputH _ _ _ _ _ _) (Or.inl ⟨by kernel_rfl, ?_⟩) hHeld ?_
    · intro u hS; obtain ⟨p0, p1⟩ := hS; go_simp
    refine wpAnyH_take (i := 11) (v := .bool true) rfl (by kernel_rfl) (by kernel_rfl) (by kernel_rfl) (pputH _ _ _ _ _ _) (Or.inl ⟨by kernel_rfl, ?_⟩) hHeld ?_
    · intro u hS; obtain ⟨p0, p1⟩ := hS; go_simp
    refine wpAnyH_take (i := 12) (v := .pointer (some ⟨w.heap.size, 0, none⟩)) rfl (by kernel_rfl) (by kernel_rfl) (by kernel_rfl) (pputH _ _ _ _ _ _) (Or.inl ⟨by kernel_rfl, ?_⟩) hHeld ?_
    · intro u hS; obtain ⟨p0, p1⟩ := hS; go_simp
    refine wpAnyH_take (i := 13) (v := .string ⟨n.toArray⟩) rfl (by kernel_rfl) (by kernel_rfl) (by kernel_rfl) (pputH _ _ _ _ _ _) (Or.inl ⟨by kernel_rfl, ?_⟩) hHeld ?_
    · intro u hS; obtain ⟨p0, p1⟩ := hS; go_simp
    refine wpAnyH_take (i := 14) (v := .bool true) rfl (by kernel_rfl) (by kernel_rfl) (by kernel_rfl) (pputH _ _ _ _ _ _) (Or.inl ⟨by kernel_rfl, ?_⟩) hHeld ?_
    · intro u hS; obtain ⟨p0, p1⟩ := hS; go_simp
    refine wpAnyH_take (i := 15) (v := .bool true) rfl (by kernel_rfl) (by kernel_rfl) (by kernel_rfl) (pputH _ _ _ _ _ _) (Or.inl ⟨by kernel_rfl, ?_⟩) hHeld ?_
    · intro u hS; obtain ⟨p0, p1⟩ := hS; go_simp
    refine wpAnyH_take (i := 16) (v := .bool true) rfl (by kernel_rfl) (by kernel_rfl) (by kernel_rfl) (pputH _ _ _ _ _ _) (Or.inl ⟨by kernel_rfl, ?_⟩) hHeld ?_
    · intro u hS; obtain ⟨p0, p1⟩ := hS; go_simp
    refine wpAnyH_take (i := 17) (v := .pointer (some ⟨w.heap.size, 1, none⟩)) rfl (by kernel_rfl) (by kernel_rfl) (by kernel_rfl) (pputH _ _ _ _ _ _) (Or.inl ⟨by kernel_rfl, ?_⟩) hHeld ?_
    · intro u hS; obtain ⟨p0, p1⟩ := hS; go_simp
    refine wpAnyH_take (i := 18) (v := .string ⟨v.toArray⟩) rfl (by kernel_rfl) (by kernel_rfl) (by kernel_rfl) (pputH _ _ _ _ _ _) (Or.inl ⟨by kernel_rfl, ?_⟩) hHeld ?_
    · intro u hS; obtain ⟨p0, p1⟩ := hS; go_simp
    refine wpAnyH_ready (rs := [19]) (by kernel_rfl) (by simp) ?_
    refine AllReadyH.cons (i := 19) rfl (fun K hK => ?_) AllReadyH.nil
    go_simp
    go_at_call 74
    refine (hvl _).mono ?_
    rintro e w4 ⟨rfl, hb⟩
    have HB4 := Lib.hid (HB3.out.trans (hb.mono HB3.out.size))
    clear hb
    have j0 := (HB4.out.cell (p := ⟨w.heap.size, 0, none⟩) HS.out).trans q0
    have j1 := (HB4.out.cell (p := ⟨w.heap.size, 1, none⟩) HS.out).trans q1
    refine hK.out _ _ ?_ (fun hHeld => ?_)
    · exact ⟨j0, j1⟩
    clear hK K
    refine wpAnyH_ready (rs := [20]) (by kernel_rfl) (by simp) ?_
    refine AllReadyH.cons (i := 20) rfl (fun K hK => ?_) AllReadyH.nil
    go_simp
    refine hK.out _ _ ?_ (fun hHeld => ?_)
    · exact ⟨j0, j1⟩
    clear hK K
    refine wpAnyH_ready (rs := [21]) (by kernel_rfl) (by simp) ?_
    refine AllReadyH.cons (i := 21) rfl (fun K hK => ?_) AllReadyH.nil
    go_simp
    refine hK.out _ _ ?_ (fun hHeld => ?_)
    · exact ⟨j0, j1⟩
    clear hK K
    refine wpAnyH_done (by kernel_rfl) ?_ _
    go_wp2_with fail
    go_ret
    refine ⟨?_, HB.out.trans (HB4.out.mono HB.out.size)⟩
    have hff : fieldL (n, v) = r := by rw [HF.out]; rfl
    rw [hff]
    simp
end Go.Proofs.YtidhemjnchonaaaGreatDoor
