/- Contracts of the law's sameAnswer, of http.head and of http.Write, of any answer. -/
import Derived.Test.YtidhemjnchonaaaGreatDoorAnsP
import Derived.Test.YtidhemjnchonaaaGreatDoorPrnA
import Derived.Deep.RegionHeld
import Derived.Test.YtidhemjnchonaaaGreatDoorRefG
namespace Go.Proofs.YtidhemjnchonaaaGreatDoor
open Go.RowKit Go.BL

/-- An answer's value. -/
def ansV (a : Ans) (h : Value) : Value := .agg #[.int .i64 a.st, h, .string ⟨a.b.toArray⟩]
def sameA (a b : Ans) : Bool := (a.st == b.st) && (a.b == b.b) && decide (a.hs = b.hs)
set_option maxHeartbeats 4000000 in
set_option maxRecDepth 100000 in
theorem sameA_any (a b : Ans) (v u : Value) (w : World) (hv : Hdrs w v a.hs) (hu : Hdrs w u b.hs) : Calls Tryz.prog 31 #[ansV a v, ansV b u] w (RetV (.bool (sameA a b)) w) := by
  obtain ⟨A, c, rfl⟩ := hv.form
  obtain ⟨D, d, rfl⟩ := hu.form
  obtain ⟨m1, hs1, b1⟩ := a
  obtain ⟨m2, hs2, b2⟩ := b
  unfold ansV sameA
  simp only at hv hu ⊢
  have hh := fun w (h1 : Hdrs w (.slice A hs1.length c) hs1) (h2 : Hdrs w (.slice D hs2.length d) hs2) => sameH_any hs1 hs2 _ _ w h1 h2
  have HV := Lib.hid hv
  have HU := Lib.hid hu
  clear hv hu
  generalize hq1 : (m1 == m2) = q1
  generalize hq3 : (b1 == b2) = q3
  generalize decide (hs1 = hs2) = q4 at *
  cases q1
  case false =>
    go_enter Tryz.func31, Tryz.ntmps31
    go_wp2_with fail
    go_ret
    exact ⟨rfl, ((Below.refl _ _).alloc (Nat.le_refl _) _).alloc (by simp) _⟩
  cases q3
  case false =>
    go_enter Tryz.func31, Tryz.ntmps31
    go_wp2_with fail
    go_ret
    exact ⟨rfl, ((Below.refl _ _).alloc (Nat.le_refl _) _).alloc (by simp) _⟩
  go_enter Tryz.func31, Tryz.ntmps31
  go_wp2_with (go_at_call 42; refine (hh _ ((HV.out.alloc _).alloc _) ((HU.out.alloc _).alloc _)).mono ?_; rintro e w3 ⟨rfl, hb⟩; have HB := Lib.hid hb; clear hb)
  go_ret
  exact ⟨by simp, below_alloc (below_alloc HB.out)⟩
/-- The cells of an answer. -/
structure B3 (w : World) (B : Nat) (s h b : Value) : Prop where
  c0 : w.cell? ⟨B, 0, none⟩ = some s
  c1 : w.cell? ⟨B, 1, none⟩ = some h
  c2 : w.cell? ⟨B, 2, none⟩ = some b
  z0 : w.frozen? ⟨B, 0, none⟩ = false
  z1 : w.frozen? ⟨B, 1, none⟩ = false
  z2 : w.frozen? ⟨B, 2, none⟩ = false
theorem B3.below {w w' : World} {B C : Nat} {s h b : Value} (k : B3 w B s h b) (hb : Below C w w') (hC : B < C) : B3 w' B s h b :=
  ⟨(hb.cell hC).trans k.c0, (hb.cell hC).trans k.c1, (hb.cell hC).trans k.c2, (hb.frozen hC).trans k.z0, (hb.frozen hC).trans k.z1, (hb.frozen hC).trans k.z2⟩
theorem B3.new (w : World) (s h b : Value) (t : TypeId) : B3 (w.alloc (.cells #[s, h, b] t)) w.heap.size s h b := by
  refine ⟨?_, ?_, ?_, World.frozen?_alloc_new w _ t 0, World.frozen?_alloc_new w _ t 1, World.frozen?_alloc_new w _ t 2⟩
  all_goals (rw [World.cell?_alloc_at _ _ _ _ rfl]; rfl)
theorem B3.set {w : World} {B : Nat} {s h b : Value} (k : B3 w B s h b) (s' h' b' : Value) :
    B3 (((w.setCell ⟨B, 0, none⟩ s').setCell ⟨B, 1, none⟩ h').setCell ⟨B, 2, none⟩ b') B s' h' b' := by
  have ne : ∀ {x y : Nat}, x ≠ y → (⟨B, x, none⟩ : Addr) ≠ ⟨B, y, none⟩ := fun h e => h (by injection e)
  constructor
  · rw [World.cell?_setCell_other _ _ _ _ (ne (by decide)), World.cell?_setCell_other _ _ _ _ (ne (by decide))]
    exact World.cell?_setCell_same _ _ _ k.c0
  · rw [World.cell?_setCell_other _ _ _ _ (ne (by decide))]
    exact World.cell?_setCell_same _ _ _ (by rw [World.cell?_setCell_other _ _ _ _ (ne (by decide))]; exact k.c1)
  · exact World.cell?_setCell_same _ _ _ (by rw [World.cell?_setCell_other _ _ _ _ (ne (by decide)), World.cell?_setCell_other _ _ _ _ (ne (by decide))]; exact k.c2)
  all_goals simp only [World.frozen?_setCell]
  · exact k.z0
  · exact k.z1
  · exact k.z2
theorem head_len (a : Ans) : (headA a).length = (lineA a.st).length + (textL a.hs).length + (Lib.itoa (a.b.length : Int)).length + 22 := by
  simp [headA, clLine, clT, sep4]; omega
theorem line_len (n : Int) : (lineA n).length = (Lib.itoa n).length + (reasonL n).length + 10 := by
  simp [lineA, stat11]; omega
set_option maxHeartbeats 4000000 in
set_option maxRecDepth 100000 in
theorem head_any (a : Ans) (h : Value) (w : World) (hd : Hdrs w h a.hs) (ht : Tab w) (hst : -9223372036854775808 ≤ a.st ∧ a.st ≤ 9223372036854775807) (hbl : a.b.length ≤ 1073741824) (hl : (headA a).length ≤ 1073741824) :
    Calls Tryz.prog 54 #[ansV a h] w (RetV (.string ⟨(headA a).toArray⟩) w) := by
  obtain ⟨A, c, rfl⟩ := hd.form
  have hln := head_len a
  have hl2 := line_len a.st
  obtain ⟨HH, hHH⟩ : ∃ x, headA a = x := ⟨_, rfl⟩
  rw [hHH] at hl hln ⊢
  have hh2 : HH = lineA a.st ++ [13, 10] ++ textL a.hs ++ clLine a.b.length ++ sep4 := hHH.symm
  obtain ⟨n, hs, b⟩ := a
  dsimp only at hd hln hl2 hst hbl
  simp only [lineA, clLine] at hh2
  dsimp only [ansV]
  have hit := fun w => itoa_any n hst.1 hst.2 w
  have hib := fun w => itoa_any (b.length : Int) (by omega) (by omega) w
  have hre := reason_any n
  obtain ⟨I, hI⟩ : ∃ x, Lib.itoa n = x := ⟨_, rfl⟩
  obtain ⟨J, hJ⟩ : ∃ x, Lib.itoa (b.length : Int) = x := ⟨_, rfl⟩
  obtain ⟨R, hR⟩ : ∃ x, reasonL n = x := ⟨_, rfl⟩
  rw [hI] at hit hh2 hl2
  rw [hJ] at hib hh2 hln
  rw [hR] at hre hh2 hl2
  obtain ⟨w0, hw0⟩ : ∃ w0, w.alloc (.cells #[.int .i64 n, .slice A hs.length c, .string ⟨b.toArray⟩] 53) = w0 := ⟨_, rfl⟩
  have HK : Hid (B3 w0 w.heap.size (.int .i64 n) (.slice A hs.length c) (.string ⟨b.toArray⟩)) := Lib.hid (by rw [← hw0]; exact B3.new w _ _ _ _)
  have HB : Hid (Below w.heap.size w w0) := Lib.hid (by rw [← hw0]; exact (Below.refl _ _).alloc (Nat.le_refl _) _)
  have HS : Hid (w.heap.size < w0.heap.size) := Lib.hid (by rw [← hw0]; simp)
  have HD := Lib.hid (hd.below HB.out (Nat.le_refl _))
  have HT := Lib.hid (ht.below HB.out)
  obtain ⟨_, A', c', heq, hcells⟩ := HD.out
  injection heq with e1 e2 e3
  subst e1 e3
  have HC := Lib.hid hcells
  obtain ⟨s1, h1⟩ : ∃ u, [72, 84, 84, 80, 47, 49, 46, 49, 32] ++ I = u := ⟨_, rfl⟩
  obtain ⟨s2, h2⟩ : ∃ u, s1 ++ [32] = u := ⟨_, rfl⟩
  obtain ⟨s3, h3⟩ : ∃ u, s2 ++ R = u := ⟨_, rfl⟩
  obtain ⟨pre, h4⟩ : ∃ u, s3 ++ [13, 10] = u := ⟨_, rfl⟩
  have l1 : s1.length = I.length + 9 := by rw [← h1, List.length_append]; simp; omega
  have l2 : s2.length = s1.length + 1 := by rw [← h2, List.length_append]; rfl
  have l3 : s3.length = s2.length + R.length := by rw [← h3, List.length_append]
  have l4 : pre.length = s3.length + 2 := by rw [← h4, List.length_append]; rfl
  have HHH : Hid (HH = pre ++ textL hs ++ clT ++ J ++ [13, 10, 13, 10]) := Lib.hid (by rw [hh2, ← h4, ← h3, ← h2, ← h1]; simp [stat11, sep4])
  have HLL : Hid (pre.length + (textL hs).length + J.length + 20 = HH.length) := Lib.hid (by rw [HHH.out]; simp [clT]; omega)
  have HL := Lib.hid hl
  have r1 := cat_run [72, 84, 84, 80, 47, 49, 46, 49, 32] I s1 h1 (by simp; omega)
  have r2 := cat_run s1 [32] s2 h2 (by simp; omega)
  have r3 := cat_run s2 R s3 h3 (by omega)
  have r4 := cat_run s3 [13, 10] pre h4 (by simp; omega)
  have HHL : Hid (hs.length ≤ 1073741824) := Lib.hid (by have := text_len (hs := hs); omega)
  clear hd ht hst hbl hl hHH hln hl2 hh2 hI hJ hR e2 hcells l1 l2 l3 l4 h1 h2 h3 h4
  obtain ⟨q0, q1, q2, -, -, -⟩ := HK.out
  go_enter Tryz.func54, Tryz.ntmps54
  go_wp2_with fail
  refine wp_region_held_drew (S := fun u => u.cell? ⟨w.heap.size, 0, none⟩ = some (.int .i64 n)) (by kernel_rfl) ?_ (fun hHeld => ?_)
  · exact q0
  refine wpAnyH_take (i := 0) (v := .pointer (some ⟨w.heap.size, 0, none⟩)) rfl (by kernel_rfl) (by kernel_rfl) (by kernel_rfl) (fun _ _ _ h => h) (Or.inl ⟨by rfl, ?_⟩) hHeld ?_
  · intro u hS; obtain p0 := hS; go_simp
  refine wpAnyH_take (i := 1) (v := .int .i64 n) rfl (by kernel_rfl) (by kernel_rfl) (by kernel_rfl) (fun _ _ _ h => h) (Or.inl ⟨by rfl, ?_⟩) hHeld ?_
  · intro u hS; obtain p0 := hS; go_simp
  refine wpAnyH_take (i := 5) (v := .pointer (some ⟨w.heap.size, 0, none⟩)) rfl (by kernel_rfl) (by kernel_rfl) (by kernel_rfl) (fun _ _ _ h => h) (Or.inl ⟨by rfl, ?_⟩) hHeld ?_
  · intro u hS; obtain p0 := hS; go_simp
  refine wpAnyH_take (i := 6) (v := .int .i64 n) rfl (by kernel_rfl) (by kernel_rfl) (by kernel_rfl) (fun _ _ _ h => h) (Or.inl ⟨by rfl, ?_⟩) hHeld ?_
  · intro u hS; obtain p0 := hS; go_simp
  refine wpAnyH_ready (rs := [2]) (by kernel_rfl) (by simp) ?_
  refine AllReadyH.cons (i := 2) rfl (fun K hK => ?_) AllReadyH.nil
  go_simp
  go_at_call 58
  refine (hit _ (HT.out.below ((Below.refl w0.heap.size w0).drew))).mono ?_
  rintro e w2 ⟨rfl, hb⟩
  have HB2 := Lib.hid ((Below.refl w0.heap.size w0).drew.trans hb)
  clear hb
  have k0 := (HB2.out.cell (p := ⟨w.heap.size, 0, none⟩) HS.out).trans q0
  refine hK.out _ _ ?_ (fun hHeld => ?_)
  · exact k0
  clear hK K
  refine wpAnyH_take (i := 3) (v := .string ⟨s1.toArray⟩) rfl (by kernel_rfl) (by kernel_rfl) (by kernel_rfl) (fun _ _ _ h => h) (Or.inl ⟨by rfl, ?_⟩) hHeld ?_
  · intro u hS; obtain p0 := hS; go_simp
  refine wpAnyH_take (i := 4) (v := .string ⟨s2.toArray⟩) rfl (by kernel_rfl) (by kernel_rfl) (by kernel_rfl) (fun _ _ _ h => h) (Or.inl ⟨by rfl, ?_⟩) hHeld ?_
  · intro u hS; obtain p0 := hS; go_simp
  refine wpAnyH_ready (rs := [7]) (by kernel_rfl) (by simp) ?_
  refine AllReadyH.cons (i := 7) rfl (fun K hK => ?_) AllReadyH.nil
  go_simp
  go_at_call 14
  refine (hre _).mono ?_
  rintro e w' ⟨rfl, rfl⟩
  refine hK.out _ _ ?_ (fun hHeld => ?_)
  · exact k0
  clear hK K
  refine wpAnyH_take (i := 8) (v := .string ⟨s3.toArray⟩) rfl (by kernel_rfl) (by kernel_rfl) (by kernel_rfl) (fun _ _ _ h => h) (Or.inl ⟨by rfl, ?_⟩) hHeld ?_
  · intro u hS; obtain p0 := hS; go_simp
  refine wpAnyH_take (i := 9) (v := .string ⟨pre.toArray⟩) rfl (by kernel_rfl) (by kernel_rfl) (by kernel_rfl) (fun _ _ _ h => h) (Or.inl ⟨by rfl, ?_⟩) hHeld ?_
  · intro u hS; obtain p0 := hS; go_simp
  refine wpAnyH_take (i := 10) (v := .string ⟨pre.toArray⟩) rfl (by kernel_rfl) (by kernel_rfl) (by kernel_rfl) (fun _ _ _ h => h) (Or.inl ⟨by rfl, ?_⟩) hHeld ?_
  · intro u hS; obtain p0 := hS; go_simp
  refine wpAnyH_done (by kernel_rfl) ?_ _
  obtain ⟨j0, j1, j2, -, -, -⟩ := HK.out.below HB2.out HS.out
  go_wp2_with fail
  clear r1 r2 r3 r4 j0 j1 q0 q1 q2 k0 hit hre hw0
  go_loopw [3, 19] (fun v j wr => ∃ k : Nat, v = .string ⟨(pre ++ textL (hs.take k)).toArray⟩ ∧ j = .int .i64 (k : Int) ∧ k ≤ hs.length ∧ Hid (Below w0.heap.size w0 wr)) (fun _ j _ => hs.length - (intOf j).toNat)
  case atStart => exact ⟨0, by simp [textL], rfl, by omega, HB2⟩
  case round =>
    obtain ⟨k, rfl, rfl, hk, HBk⟩ := hrel
    have HSZ := Lib.hid HBk.out.size
    by_cases hlt : k < hs.length
    · obtain ⟨bb, off, rfl, hbl, hc⟩ := HC.out (by omega)
      obtain ⟨c1, c2⟩ := hc k hlt
      have hT := text_next hlt
      have b1 := text_take hs (k + 1)
      have b2 := HLL.out
      have b3 := HL.out
      rw [hT] at b1
      generalize hs[k] = z at *
      obtain ⟨m, x⟩ := z
      simp only at c1 c2
      have d1 := (HBk.out.cell (p := ⟨bb, off + k * 2, none⟩) hbl).trans c1
      have d2 := (HBk.out.cell (p := ⟨bb, off + k * 2 + 1, none⟩) hbl).trans c2
      simp only [lineT, List.length_append, List.length_cons, List.length_nil] at b1
      obtain ⟨t0, ht0⟩ : ∃ u, pre ++ textL (hs.take k) = u := ⟨_, rfl⟩
      obtain ⟨t1, h1⟩ : ∃ u, m ++ [58, 32] = u := ⟨_, rfl⟩
      obtain ⟨t2, h2⟩ : ∃ u, t1 ++ x = u := ⟨_, rfl⟩
      obtain ⟨t3, h3⟩ : ∃ u, t2 ++ [13, 10] = u := ⟨_, rfl⟩
      obtain ⟨t4, h4⟩ : ∃ u, t0 ++ t3 = u := ⟨_, rfl⟩
      have l0 : t0.length = pre.length + (textL (hs.take k)).length := by rw [← ht0, List.length_append]
      have l1 : t1.length = m.length + 2 := by rw [← h1, List.length_append]; rfl
      have l2 : t2.length = t1.length + x.length := by rw [← h2, List.length_append]
      have l3 : t3.length = t2.length + 2 := by rw [← h3, List.length_append]; rfl
      have r1 := cat_run m [58, 32] t1 h1 (by simp; omega)
      have r2 := cat_run t1 x t2 h2 (by omega)
      have r3 := cat_run t2 [13, 10] t3 h3 (by simp; omega)
      have r4 := cat_run t0 t3 t4 h4 (by omega)
      have HT4 : Hid (pre ++ textL (hs.take (k + 1)) = t4) := Lib.hid (by rw [hT, ← h4, ← h3, ← h2, ← h1, ← ht0]; simp [lineT])
      have HB4 := Lib.hid (HBk.out.alloc HSZ.out (.cells #[.string ⟨m.toArray⟩, .string ⟨x.toArray⟩] 44))
      rw [ht0]
      clear hc hT b1 b2 b3 l0 l1 l2 l3 h1 h2 h3 h4 c1 c2 ht0
      go_wp2_with fail
      exact ⟨⟨k + 1, by rw [HT4.out], by go_num, by omega, HB4⟩, by simp [intOf]; omega⟩
    · have HF : Hid (pre ++ textL (hs.take k) = pre ++ textL hs) := Lib.hid (by rw [List.take_of_length_le (by omega)])
      have b2 := HLL.out
      have b3 := HL.out
      rw [HF.out]
      obtain ⟨t0, ht0⟩ : ∃ u, pre ++ textL hs = u := ⟨_, rfl⟩
      rw [ht0]
      obtain ⟨t1, h1⟩ : ∃ u, t0 ++ [99, 111, 110, 116, 101, 110, 116, 45, 108, 101, 110, 103, 116, 104, 58, 32] = u := ⟨_, rfl⟩
      obtain ⟨t2, h2⟩ : ∃ u, t1 ++ J = u := ⟨_, rfl⟩
      have h3 : t2 ++ [13, 10, 13, 10] = HH := by rw [HHH.out, ← h2, ← h1, ← ht0]; rfl
      have l0 : t0.length = pre.length + (textL hs).length := by rw [← ht0, List.length_append]
      have l1 : t1.length = t0.length + 16 := by rw [← h1, List.length_append]; rfl
      have l2 : t2.length = t1.length + J.length := by rw [← h2, List.length_append]
      have r1 := cat_run t0 [99, 111, 110, 116, 101, 110, 116, 45, 108, 101, 110, 103, 116, 104, 58, 32] t1 h1 (by simp; omega)
      have r2 := cat_run t1 J t2 h2 (by omega)
      have r3 := cat_run t2 [13, 10, 13, 10] HH h3 (by simp; omega)
      have j2 := (HK.out.below HBk.out HS.out).c2
      clear b2 b3 l0 l1 l2 h1 h2 h3 ht0
      go_wp2_with (go_at_call 58; refine (hib _ (HT.out.below HBk.out)).mono ?_; rintro e w5 ⟨rfl, hb⟩; have HB5 := Lib.hid (HBk.out.trans (hb.mono HSZ.out)); clear hb)
      go_ret
      exact ⟨rfl, HB.out.trans (HB5.out.mono HB.out.size)⟩
end Go.Proofs.YtidhemjnchonaaaGreatDoor
