/- Contract of the document's Print. -/
import Derived.Test.YtidhemjnchonaaaGreatDoorPrnB
import Derived.Deep.RegionHeld
namespace Go.Proofs.YtidhemjnchonaaaGreatDoor
open Go.RowKit Go.BL

set_option maxHeartbeats 4000000 in
set_option maxRecDepth 100000 in
theorem docPrint_any (q : Req) (h : Value) (w : World) (hd : Hdrs w h q.hs) (hl : (printB q).length ≤ 1073741824) : Calls Tryz.prog 27 #[reqV q h] w (PrnR (printL q) w) := by
  have hap := app_str
  obtain ⟨A, c, rfl⟩ := hd.form
  obtain ⟨R, hR⟩ : ∃ R, printL q = R := ⟨_, rfl⟩
  rw [hR]
  unfold printL at hR
  have hln := print_len q
  obtain ⟨PB, hPB⟩ : ∃ b, printB q = b := ⟨_, rfl⟩
  rw [hPB] at hR hl hln
  have hpb2 : PB = headT q ++ textL q.hs ++ ([13, 10] ++ q.b) := hPB.symm
  obtain ⟨m, p, hs, b⟩ := q
  simp only [headT, verT] at hd hln hpb2
  dsimp only [reqV]
  obtain ⟨w0, hw0⟩ : ∃ w0, w.alloc (.cells #[.string ⟨m.toArray⟩, .string ⟨p.toArray⟩, .slice A hs.length c, .string ⟨b.toArray⟩] 31) = w0 := ⟨_, rfl⟩
  have HK : Hid (B4 w0 w.heap.size (.string ⟨m.toArray⟩) (.string ⟨p.toArray⟩) (.slice A hs.length c) (.string ⟨b.toArray⟩)) := Lib.hid (by rw [← hw0]; exact B4.new w _ _ _ _ _)
  have HB : Hid (Below w.heap.size w w0) := Lib.hid (by rw [← hw0]; exact (Below.refl _ _).alloc (Nat.le_refl _) _)
  have HS : Hid (w.heap.size < w0.heap.size) := Lib.hid (by rw [← hw0]; simp)
  have HD := Lib.hid (hd.below HB.out (Nat.le_refl _))
  obtain ⟨p1, hp1⟩ : ∃ u, m ++ [32] = u := ⟨_, rfl⟩
  obtain ⟨p2, hp2⟩ : ∃ u, p1 ++ p = u := ⟨_, rfl⟩
  obtain ⟨p3, hp3⟩ : ∃ u, p2 ++ [32, 72, 84, 84, 80, 47, 49, 46, 49] = u := ⟨_, rfl⟩
  obtain ⟨p4, hp4⟩ : ∃ u, p3 ++ [13, 10] = u := ⟨_, rfl⟩
  obtain ⟨T, hT⟩ : ∃ t, textL hs = t := ⟨_, rfl⟩
  obtain ⟨p5, hp5⟩ : ∃ u, p4 ++ T = u := ⟨_, rfl⟩
  obtain ⟨p6, hp6⟩ : ∃ u, p5 ++ [13, 10] = u := ⟨_, rfl⟩
  have ht := fun w (hd : Hdrs w (.slice A hs.length c) hs) => textR_any hs _ w hd (by omega)
  rw [hT] at ht hpb2 hln
  have l1 : p1.length = m.length + 1 := by rw [← hp1, List.length_append]; rfl
  have l2 : p2.length = p1.length + p.length := by rw [← hp2, List.length_append]
  have l3 : p3.length = p2.length + 9 := by rw [← hp3, List.length_append]; rfl
  have l4 : p4.length = p3.length + 2 := by rw [← hp4, List.length_append]; rfl
  have l5 : p5.length = p4.length + T.length := by rw [← hp5, List.length_append]
  have l6 : p6.length = p5.length + 2 := by rw [← hp6, List.length_append]; rfl
  have r1 := cat_run m [32] p1 hp1 (by simp; omega)
  have r2 := cat_run p1 p p2 hp2 (by omega)
  have r3 := cat_run p2 [32, 72, 84, 84, 80, 47, 49, 46, 49] p3 hp3 (by simp; omega)
  have r4 := cat_run p3 [13, 10] p4 hp4 (by simp; omega)
  have r5 := cat_run p4 T p5 hp5 (by omega)
  have r6 := cat_run p5 [13, 10] p6 hp6 (by simp; omega)
  have hall : p6 ++ b = PB := by rw [hpb2, ← hp6, ← hp5, ← hp4, ← hp3, ← hp2, ← hp1]; simp
  have r7 := cat_run p6 b PB hall (by omega)
  have HL := Lib.hid hl
  clear hd hPB hpb2 hl hln hT l1 l2 l3 l4 l5 l6 hp1 hp2 hp3 hp4 hp5 hp6 hall
  obtain ⟨q0, q1, q2, q3, z0, z1, z2, z3⟩ := HK.out
  go_enter Tryz.func27, Tryz.ntmps27
  go_wp2_with fail
  go_region_held (fun u => u.cell? ⟨w.heap.size, 0, none⟩ = some (.string ⟨m.toArray⟩) ∧ u.cell? ⟨w.heap.size, 1, none⟩ = some (.string ⟨p.toArray⟩) ∧ u.cell? ⟨w.heap.size, 2, none⟩ = some (.slice A hs.length c) ∧ u.cell? ⟨w.heap.size, 3, none⟩ = some (.string ⟨b.toArray⟩))
    (first
      | go_keep
      | exact ⟨y0, y1, y2, y3⟩
      | exact ⟨x0, x1, x2, x3⟩)
    (first
      | (go_at_call 51
         refine (ht _ (HD.out.below ((Below.refl _ _).drew) (Nat.le_refl _))).mono ?_
         rintro e w2 ⟨rfl, N, hN⟩
         have HBA : Hid (Below w0.heap.size w0 w2) := Lib.hid (by rw [hN]; exact below_drewN (Below.refl _ _).drew N)
         clear hN
         obtain ⟨y0, y1, y2, y3, -, -, -, -⟩ := HK.out.below HBA.out HS.out
         obtain ⟨v', w3, hcv, hown, hbel⟩ := OwnM.conv PB (by have := HL.out; omega) w2
         obtain ⟨A3, c3, rfl⟩ := hown.form
         have HOWN := Lib.hid hown
         have HBC := Lib.hid (HBA.out.trans (hbel.mono HBA.out.size))
         clear hown hbel
         obtain ⟨x0, x1, x2, x3, -, -, -, -⟩ := HK.out.below HBC.out HS.out)
      | fail)
  clear hcv y0 y1 y2 y3 r1 r2 r3 r4 r5 r6 r7 ht
  have HB3' := Lib.hid (HB.out.trans (HBC.out.mono HB.out.size))
  go_wp2_with fail
  go_at_call 21
  refine (docParse_any _ PB _ (HOWN.out.bsl (by have := HL.out; omega)) HL.out).mono ?_
  cases hp : parseL PB with
  | error c0 =>
    rw [hp] at hR
    simp only at hR
    subst hR
    have hc0 := codes_ne (parse_err hp)
    clear hp
    rintro e w4 ⟨rfl, hb4⟩
    have HB4 := Lib.hid (HB3'.out.trans (hb4.mono HB3'.out.size))
    clear hb4
    go_wp2_with fail
    go_ret2
    exact ⟨HB4.out.alloc HB4.out.size _, rfl⟩
  | ok x =>
    rw [hp] at hR
    simp only at hR
    clear hp
    rintro e w4 ⟨hx, rfl, hhx, hb4⟩
    obtain ⟨Ax, cx, rfl⟩ := hhx.form
    obtain ⟨xm, xp, xh, xb⟩ := x
    dsimp only at hhx hR ⊢
    have HB4 := Lib.hid (HB3'.out.trans (hb4.mono HB3'.out.size))
    have HB4z := Lib.hid (HBC.out.trans (hb4.mono HBC.out.size))
    have HX5 := Lib.hid (hhx.below ((Below.refl _ _).alloc (Nat.le_refl _) (.cells #[.string ⟨xm.toArray⟩, .string ⟨xp.toArray⟩, .slice Ax xh.length cx, .string ⟨xb.toArray⟩] 31)) (Nat.le_refl _))
    have HD5 := Lib.hid ((HD.out.below HB4z.out (Nat.le_refl _)).below ((Below.refl _ _).alloc (Nat.le_refl _) (.cells #[.string ⟨xm.toArray⟩, .string ⟨xp.toArray⟩, .slice Ax xh.length cx, .string ⟨xb.toArray⟩] 31)) (Nat.le_refl _))
    have HK5 := Lib.hid ((HK.out.below HB4z.out HS.out).below ((Below.refl _ _).alloc (Nat.le_refl _) (.cells #[.string ⟨xm.toArray⟩, .string ⟨xp.toArray⟩, .slice Ax xh.length cx, .string ⟨xb.toArray⟩] 31)) (Nat.lt_of_lt_of_le HS.out HB4z.out.size))
    have HO5 := Lib.hid ((HOWN.out.below hb4 (Nat.le_refl _)).below ((Below.refl _ _).alloc (Nat.le_refl _) (.cells #[.string ⟨xm.toArray⟩, .string ⟨xp.toArray⟩, .slice Ax xh.length cx, .string ⟨xb.toArray⟩] 31)) (Nat.le_refl _))
    obtain ⟨k0, k1, k2, k3, -, -, -, -⟩ := HK5.out
    obtain ⟨n0, n1, n2, n3, -, -, -, -⟩ := B4.new w4 (.string ⟨xm.toArray⟩) (.string ⟨xp.toArray⟩) (.slice Ax xh.length cx) (.string ⟨xb.toArray⟩) 31
    have HB5 := Lib.hid (HB4.out.alloc HB4.out.size (.cells #[.string ⟨xm.toArray⟩, .string ⟨xp.toArray⟩, .slice Ax xh.length cx, .string ⟨xb.toArray⟩] 31))
    have hsr := fun w h1 h2 => sameR_any ⟨xm, xp, xh, xb⟩ ⟨m, p, hs, b⟩ (.slice Ax xh.length cx) (.slice A hs.length c) w h1 h2
    unfold reqV at hsr
    dsimp only at hsr
    generalize sameR ⟨xm, xp, xh, xb⟩ ⟨m, p, hs, b⟩ = g at *
    clear hhx hb4 x0 x1 x2 x3
    cases g
    case false =>
      rw [if_neg (by simp)] at hR
      subst hR
      go_wp2_with (go_at_call 20; refine (hsr _ HX5.out HD5.out).mono ?_; rintro e w6 ⟨rfl, hb⟩; have HB6 := Lib.hid (HB5.out.trans (hb.mono HB5.out.size)); clear hb)
      go_ret2
      exact ⟨HB6.out, rfl⟩
    rw [if_pos rfl] at hR
    subst hR
    go_wp2_with (go_at_call 20; refine (hsr _ HX5.out HD5.out).mono ?_; rintro e w6 ⟨rfl, hb⟩; have HB6 := Lib.hid (HB5.out.trans (hb.mono HB5.out.size)); have HO6 := Lib.hid (HO5.out.below hb (Nat.le_refl _)); clear hb)
    go_ret2
    exact ⟨HB6.out, _, rfl, HO6.out.bsl (by have := HL.out; omega)⟩
end Go.Proofs.YtidhemjnchonaaaGreatDoor
