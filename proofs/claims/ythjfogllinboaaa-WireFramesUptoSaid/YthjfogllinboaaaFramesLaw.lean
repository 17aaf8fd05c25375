/- WireFrames: the walk of the law. -/
import Derived.Test.YthjfogllinboaaaUnf
import Derived.Test.YthjfogllinboaaaUnfR
import Derived.Test.YthjfogllinboaaaFrameR
import Derived.Test.YthjfogllinboaaaLawKit
namespace Go.Proofs.Ythjfogllinboaaa
open Go.RowKit Go.BL Go.Wr
set_option maxRecDepth 100000 in
set_option maxHeartbeats 4000000 in
theorem frames_any (A : Option Addr) (m cap : Nat) (bs : List Nat) (w : World) (hr : Rd w A m bs) (hm : m ≤ 1048576) (hcap : m ≤ cap) :
    Calls Try.prog 7 #[.slice A m cap] w (RetV (.bool true) w) := by
  have hl := hr.1
  subst hl
  have Hr := Lib.hid hr
  have Hm := Lib.hid hm
  have Hcap := Lib.hid hcap
  clear hr hm hcap
  obtain ⟨F, hF⟩ : ∃ F, frame bs = F := ⟨_, rfl⟩
  obtain ⟨U, hU⟩ : ∃ U, unframe bs = U := ⟨_, rfl⟩
  have HF := Lib.hid hF
  have HU := Lib.hid hU
  clear hF hU
  obtain ⟨FL, fc⟩ := F
  obtain ⟨UP, UR, uc⟩ := U
  have hFl : FL.length ≤ 1048600 := by
    have hfr : FL = (frame bs).1 := by rw [HF.out]
    have hb := Hm.out
    rw [hfr]
    unfold frame
    by_cases h : 65536 < bs.length
    · rw [if_pos h]; exact Nat.zero_le _
    · rw [if_neg h]
      have := enc_len9 (n := bs.length) (by omega)
      simp only [List.length_append, le4, List.length_cons, List.length_nil]; omega
  have C_0_0 : Hid (Below w.heap.size w w) := Lib.hid (Below.refl _ _)
  go_enter Try.func7, Try.ntmps7
  go_wp2_with fail
  refine (retS (clone_any A bs.length cap bs _ (Hr.out.below C_0_0.out (Nat.le_refl _)) (by have := Hm.out; omega))).mono ?_
  rintro e w1 ⟨A_g, c_g, rfl, hrd, how, hb⟩
  have Rd_g := Lib.hid hrd
  have Ow_g := Lib.hid how
  clear hrd how
  have C_1_1 : Hid (Below w1.heap.size w1 w1) := Lib.hid (Below.refl _ _)
  have C_0_1 : Hid (Below w.heap.size w w1) := Lib.hid (C_0_0.out.trans (hb.mono C_0_0.out.size))
  clear hb
  go_wp2_with fail
  refine (frame_any A_g bs.length c_g bs _ Rd_g.out).mono ?_
  rw [HF.out]
  rintro e w2 ⟨A_f, c_f, rfl, hrd, how, hb⟩
  have Rd_f : Hid (Rd _ _ _ _) := Lib.hid hrd
  have Ow_f : Hid (Own _ _ _ _) := Lib.hid how
  clear hrd how
  have C_2_2 : Hid (Below w2.heap.size w2 w2) := Lib.hid (Below.refl _ _)
  have C_0_2 : Hid (Below w.heap.size w w2) := Lib.hid (C_0_1.out.trans (hb.mono C_0_1.out.size))
  have C_1_2 : Hid (Below w1.heap.size w1 w2) := Lib.hid (C_1_1.out.trans (hb.mono C_1_1.out.size))
  clear hb
  go_wp2_with fail
  refine (frameR_any A bs.length cap bs _ (Hr.out.below C_0_2.out (Nat.le_refl _))).mono ?_
  rw [HF.out]
  rintro e w3 ⟨A_rf, c_rf, rfl, hrd, how, hb⟩
  have Rd_rf : Hid (Rd _ _ _ _) := Lib.hid hrd
  have Ow_rf : Hid (Own _ _ _ _) := Lib.hid how
  clear hrd how
  have C_3_3 : Hid (Below w3.heap.size w3 w3) := Lib.hid (Below.refl _ _)
  have C_0_3 : Hid (Below w.heap.size w w3) := Lib.hid (C_0_2.out.trans (hb.mono C_0_2.out.size))
  have C_1_3 : Hid (Below w1.heap.size w1 w3) := Lib.hid (C_1_2.out.trans (hb.mono C_1_2.out.size))
  have C_2_3 : Hid (Below w2.heap.size w2 w3) := Lib.hid (C_2_2.out.trans (hb.mono C_2_2.out.size))
  clear hb
  go_wp2_with fail
  refine (unframe_any A_g bs.length c_g bs _ (Rd_g.out.below C_1_3.out (Nat.le_refl _)) (by have := Hm.out; omega)).mono ?_
  rw [HU.out]
  rintro e w4 ⟨A_p, c_p, A_r, c_r, rfl, how, how2, hb⟩
  have Rd_p := Lib.hid (own_rd how)
  have Ow_p : Hid (Own _ _ _ _) := Lib.hid how
  have Rd_r := Lib.hid (own_rd how2)
  have Ow_r : Hid (Own _ _ _ _) := Lib.hid how2
  clear how how2
  have C_4_4 : Hid (Below w4.heap.size w4 w4) := Lib.hid (Below.refl _ _)
  have C_0_4 : Hid (Below w.heap.size w w4) := Lib.hid (C_0_3.out.trans (hb.mono C_0_3.out.size))
  have C_1_4 : Hid (Below w1.heap.size w1 w4) := Lib.hid (C_1_3.out.trans (hb.mono C_1_3.out.size))
  have C_2_4 : Hid (Below w2.heap.size w2 w4) := Lib.hid (C_2_3.out.trans (hb.mono C_2_3.out.size))
  have C_3_4 : Hid (Below w3.heap.size w3 w4) := Lib.hid (C_3_3.out.trans (hb.mono C_3_3.out.size))
  clear hb
  go_wp2_with fail
  refine (unframeR_any A bs.length cap bs _ (Hr.out.below C_0_4.out (Nat.le_refl _)) (by have := Hm.out; omega) Hcap.out).mono ?_
  rw [HU.out]
  rintro e w5 ⟨A_q, c_q, A_m, c_m, rfl, how, how2, hb⟩
  have Rd_q := Lib.hid (own_rd how)
  have Ow_q : Hid (Own _ _ _ _) := Lib.hid how
  have Rd_m := Lib.hid (own_rd how2)
  have Ow_m : Hid (Own _ _ _ _) := Lib.hid how2
  clear how how2
  have C_5_5 : Hid (Below w5.heap.size w5 w5) := Lib.hid (Below.refl _ _)
  have C_0_5 : Hid (Below w.heap.size w w5) := Lib.hid (C_0_4.out.trans (hb.mono C_0_4.out.size))
  have C_1_5 : Hid (Below w1.heap.size w1 w5) := Lib.hid (C_1_4.out.trans (hb.mono C_1_4.out.size))
  have C_2_5 : Hid (Below w2.heap.size w2 w5) := Lib.hid (C_2_4.out.trans (hb.mono C_2_4.out.size))
  have C_3_5 : Hid (Below w3.heap.size w3 w5) := Lib.hid (C_3_4.out.trans (hb.mono C_3_4.out.size))
  have C_4_5 : Hid (Below w4.heap.size w4 w5) := Lib.hid (C_4_4.out.trans (hb.mono C_4_4.out.size))
  clear hb
  go_wp2_with fail
  refine (equal_same' A_f A_rf FL.length c_f c_rf FL _ (Rd_f.out.below C_2_5.out (Nat.le_refl _)) (Rd_rf.out.below C_3_5.out (Nat.le_refl _))).mono ?_
  rintro e w6 ⟨rfl, hb⟩
  have C_6_6 : Hid (Below w6.heap.size w6 w6) := Lib.hid (Below.refl _ _)
  have C_0_6 : Hid (Below w.heap.size w w6) := Lib.hid (C_0_5.out.trans (hb.mono C_0_5.out.size))
  have C_1_6 : Hid (Below w1.heap.size w1 w6) := Lib.hid (C_1_5.out.trans (hb.mono C_1_5.out.size))
  have C_2_6 : Hid (Below w2.heap.size w2 w6) := Lib.hid (C_2_5.out.trans (hb.mono C_2_5.out.size))
  have C_3_6 : Hid (Below w3.heap.size w3 w6) := Lib.hid (C_3_5.out.trans (hb.mono C_3_5.out.size))
  have C_4_6 : Hid (Below w4.heap.size w4 w6) := Lib.hid (C_4_5.out.trans (hb.mono C_4_5.out.size))
  have C_5_6 : Hid (Below w5.heap.size w5 w6) := Lib.hid (C_5_5.out.trans (hb.mono C_5_5.out.size))
  clear hb
  go_wp2_with fail
  refine (equal_same' A_p A_q UP.length c_p c_q UP _ (Rd_p.out.below C_4_6.out (Nat.le_refl _)) (Rd_q.out.below C_5_6.out (Nat.le_refl _))).mono ?_
  rintro e w7 ⟨rfl, hb⟩
  have C_7_7 : Hid (Below w7.heap.size w7 w7) := Lib.hid (Below.refl _ _)
  have C_0_7 : Hid (Below w.heap.size w w7) := Lib.hid (C_0_6.out.trans (hb.mono C_0_6.out.size))
  have C_1_7 : Hid (Below w1.heap.size w1 w7) := Lib.hid (C_1_6.out.trans (hb.mono C_1_6.out.size))
  have C_2_7 : Hid (Below w2.heap.size w2 w7) := Lib.hid (C_2_6.out.trans (hb.mono C_2_6.out.size))
  have C_3_7 : Hid (Below w3.heap.size w3 w7) := Lib.hid (C_3_6.out.trans (hb.mono C_3_6.out.size))
  have C_4_7 : Hid (Below w4.heap.size w4 w7) := Lib.hid (C_4_6.out.trans (hb.mono C_4_6.out.size))
  have C_5_7 : Hid (Below w5.heap.size w5 w7) := Lib.hid (C_5_6.out.trans (hb.mono C_5_6.out.size))
  have C_6_7 : Hid (Below w6.heap.size w6 w7) := Lib.hid (C_6_6.out.trans (hb.mono C_6_6.out.size))
  clear hb
  go_wp2_with fail
  refine (equal_same' A_r A_m UR.length c_r c_m UR _ (Rd_r.out.below C_4_7.out (Nat.le_refl _)) (Rd_m.out.below C_5_7.out (Nat.le_refl _))).mono ?_
  rintro e w8 ⟨rfl, hb⟩
  have C_8_8 : Hid (Below w8.heap.size w8 w8) := Lib.hid (Below.refl _ _)
  have C_0_8 : Hid (Below w.heap.size w w8) := Lib.hid (C_0_7.out.trans (hb.mono C_0_7.out.size))
  have C_1_8 : Hid (Below w1.heap.size w1 w8) := Lib.hid (C_1_7.out.trans (hb.mono C_1_7.out.size))
  have C_2_8 : Hid (Below w2.heap.size w2 w8) := Lib.hid (C_2_7.out.trans (hb.mono C_2_7.out.size))
  have C_3_8 : Hid (Below w3.heap.size w3 w8) := Lib.hid (C_3_7.out.trans (hb.mono C_3_7.out.size))
  have C_4_8 : Hid (Below w4.heap.size w4 w8) := Lib.hid (C_4_7.out.trans (hb.mono C_4_7.out.size))
  have C_5_8 : Hid (Below w5.heap.size w5 w8) := Lib.hid (C_5_7.out.trans (hb.mono C_5_7.out.size))
  have C_6_8 : Hid (Below w6.heap.size w6 w8) := Lib.hid (C_6_7.out.trans (hb.mono C_6_7.out.size))
  have C_7_8 : Hid (Below w7.heap.size w7 w8) := Lib.hid (C_7_7.out.trans (hb.mono C_7_7.out.size))
  clear hb
  go_wp2
  have HS_p := Lib.hid ((Ow_p.out.below C_4_8.out (Nat.le_refl _)))
  have HR_p : Hid (∀ x ∈ rowsOf A_p, w3.heap.size ≤ x ∧ x < w4.heap.size) := Lib.hid (Own.rows Ow_p.out)
  have hmx_p := Rd_p.out.2.1
  unfold maxLen at hmx_p
  go_loopw [68] (fun i wr => ∃ (k : Nat) (ds : List Nat), k ≤ UP.length ∧ i = .int .i64 k ∧ Hid (ds.length = UP.length) ∧ Hid (Own wr w3.heap.size (.slice A_p UP.length c_p) ds) ∧ Hid (Kept (rowsOf A_p) w8 wr)) (fun i _ => UP.length - (intOf i).toNat)
  case atStart => exact ⟨0, UP, Nat.zero_le _, rfl, Lib.hid rfl, HS_p, Lib.hid (Kept.refl _ _)⟩
  case round =>
    obtain ⟨k, ds, hk, rfl, Hd, Ho, HK⟩ := hrel
    by_cases hlt : k < UP.length
    · obtain ⟨gx, rfl, -, -⟩ := Ho.out.some_ (by rw [Hd.out]; omega)
      have hck := Ho.out.cellAt Hd.out k hlt
      have hfr := Ho.out.frozenAt Hd.out k
      have hcl := getD_lt Ho.out.2 k
      obtain ⟨d, hd, hxd⟩ := xor255 _ hcl
      have Hst := Lib.hid (Ho.out.set Hd.out k d hd)
      generalize ds.getD k 0 = c at *
      go_wp2
      go_roundw
      case rel => exact ⟨k + 1, ds.set k d, by omega, by go_num, Lib.hid (by rw [List.length_set]; exact Hd.out), Lib.hid Hst.out.1, Lib.hid (HK.out.then_ (Kept.of_grown Hst.out.2))⟩
      case measure => simp [intOf]; omega
    · obtain rfl : k = UP.length := by omega
      obtain ⟨w9, ew9⟩ : ∃ wn : World, wn = wr := ⟨_, rfl⟩
      subst ew9
      have C_9_9 : Hid (Below w9.heap.size w9 w9) := Lib.hid (Below.refl _ _)
      have C_0_9 : Hid (Below w.heap.size w w9) := Lib.hid (C_0_8.out.trans (HK.out.below C_0_8.out.size (fun x hx => Nat.le_trans C_0_3.out.size (HR_p.out x hx).1)))
      have C_1_9 : Hid (Below w1.heap.size w1 w9) := Lib.hid (C_1_8.out.trans (HK.out.below C_1_8.out.size (fun x hx => Nat.le_trans C_1_3.out.size (HR_p.out x hx).1)))
      have C_2_9 : Hid (Below w2.heap.size w2 w9) := Lib.hid (C_2_8.out.trans (HK.out.below C_2_8.out.size (fun x hx => Nat.le_trans C_2_3.out.size (HR_p.out x hx).1)))
      have C_3_9 : Hid (Below w3.heap.size w3 w9) := Lib.hid (C_3_8.out.trans (HK.out.below C_3_8.out.size (fun x hx => Nat.le_trans C_3_3.out.size (HR_p.out x hx).1)))
      have Ow_f9 : Hid (Own w9 _ _ _) := Lib.hid (((Ow_f.out.below C_2_8.out (Nat.le_refl _))).kept HK.out (fun g hg hx => by have h1 := (Ow_f.out.below C_2_8.out (Nat.le_refl _)).block_ge g hg; have h2 := Ow_f.out.lt g hg; have h3 := HR_p.out g hx; have h4 := C_2_3.out.size; omega))
      have Rd_f9 := Lib.hid (own_rd Ow_f9.out)
      have Ow_q9 : Hid (Own w9 _ _ _) := Lib.hid (((Ow_q.out.below C_5_8.out (Nat.le_refl _))).kept HK.out (fun g hg hx => by have h1 := (Ow_q.out.below C_5_8.out (Nat.le_refl _)).block_ge g hg; have h2 := Ow_q.out.lt g hg; have h3 := HR_p.out g hx; have h4 := C_4_4.out.size; omega))
      have Rd_q9 := Lib.hid (own_rd Ow_q9.out)
      go_wp2
      have HS_f := Lib.hid (Ow_f9.out)
      have HR_f : Hid (∀ x ∈ rowsOf A_f, w1.heap.size ≤ x ∧ x < w2.heap.size) := Lib.hid (Own.rows Ow_f.out)
      have hmx_f := Rd_f.out.2.1
      unfold maxLen at hmx_f
      go_loopw [80] (fun i wr => ∃ (k : Nat) (ds : List Nat), k ≤ FL.length ∧ i = .int .i64 k ∧ Hid (ds.length = FL.length) ∧ Hid (Own wr w1.heap.size (.slice A_f FL.length c_f) ds) ∧ Hid (Kept (rowsOf A_f) w9 wr)) (fun i _ => FL.length - (intOf i).toNat)
      case atStart => exact ⟨0, FL, Nat.zero_le _, rfl, Lib.hid rfl, HS_f, Lib.hid (Kept.refl _ _)⟩
      case round =>
        obtain ⟨k, ds, hk, rfl, Hd, Ho, HK⟩ := hrel
        by_cases hlt : k < FL.length
        · obtain ⟨gx, rfl, -, -⟩ := Ho.out.some_ (by rw [Hd.out]; omega)
          have hck := Ho.out.cellAt Hd.out k hlt
          have hfr := Ho.out.frozenAt Hd.out k
          have hcl := getD_lt Ho.out.2 k
          obtain ⟨d, hd, hxd⟩ := xor255 _ hcl
          have Hst := Lib.hid (Ho.out.set Hd.out k d hd)
          generalize ds.getD k 0 = c at *
          go_wp2
          go_roundw
          case rel => exact ⟨k + 1, ds.set k d, by omega, by go_num, Lib.hid (by rw [List.length_set]; exact Hd.out), Lib.hid Hst.out.1, Lib.hid (HK.out.then_ (Kept.of_grown Hst.out.2))⟩
          case measure => simp [intOf]; omega
        · obtain rfl : k = FL.length := by omega
          obtain ⟨w10, ew10⟩ : ∃ wn : World, wn = wr := ⟨_, rfl⟩
          subst ew10
          have C_10_10 : Hid (Below w10.heap.size w10 w10) := Lib.hid (Below.refl _ _)
          have C_0_10 : Hid (Below w.heap.size w w10) := Lib.hid (C_0_9.out.trans (HK.out.below C_0_9.out.size (fun x hx => Nat.le_trans C_0_1.out.size (HR_f.out x hx).1)))
          have C_1_10 : Hid (Below w1.heap.size w1 w10) := Lib.hid (C_1_9.out.trans (HK.out.below C_1_9.out.size (fun x hx => Nat.le_trans C_1_1.out.size (HR_f.out x hx).1)))
          have Ow_q10 : Hid (Own w10 _ _ _) := Lib.hid ((Ow_q9.out).kept HK.out (fun g hg hx => by have h1 := Ow_q9.out.block_ge g hg; have h2 := Ow_q.out.lt g hg; have h3 := HR_f.out g hx; have h4 := C_2_4.out.size; omega))
          have Rd_q10 := Lib.hid (own_rd Ow_q10.out)
          go_wp2_with fail
          refine (unframe_any A_g bs.length c_g bs _ (Rd_g.out.below C_1_10.out (Nat.le_refl _)) (by have := Hm.out; omega)).mono ?_
          rw [HU.out]
          rintro e w11 ⟨A_p2, c_p2, A_r2, c_r2, rfl, how, how2, hb⟩
          have Rd_p2 := Lib.hid (own_rd how)
          have Ow_p2 : Hid (Own _ _ _ _) := Lib.hid how
          have Rd_r2 := Lib.hid (own_rd how2)
          have Ow_r2 : Hid (Own _ _ _ _) := Lib.hid how2
          clear how how2
          have C_11_11 : Hid (Below w11.heap.size w11 w11) := Lib.hid (Below.refl _ _)
          have C_0_11 : Hid (Below w.heap.size w w11) := Lib.hid (C_0_10.out.trans (hb.mono C_0_10.out.size))
          have C_1_11 : Hid (Below w1.heap.size w1 w11) := Lib.hid (C_1_10.out.trans (hb.mono C_1_10.out.size))
          have C_10_11 : Hid (Below w10.heap.size w10 w11) := Lib.hid (C_10_10.out.trans (hb.mono C_10_10.out.size))
          clear hb
          go_wp2_with fail
          refine (equal_same' A_g A bs.length c_g cap bs _ (Rd_g.out.below C_1_11.out (Nat.le_refl _)) (Hr.out.below C_0_11.out (Nat.le_refl _))).mono ?_
          rintro e w12 ⟨rfl, hb⟩
          have C_12_12 : Hid (Below w12.heap.size w12 w12) := Lib.hid (Below.refl _ _)
          have C_0_12 : Hid (Below w.heap.size w w12) := Lib.hid (C_0_11.out.trans (hb.mono C_0_11.out.size))
          have C_1_12 : Hid (Below w1.heap.size w1 w12) := Lib.hid (C_1_11.out.trans (hb.mono C_1_11.out.size))
          have C_10_12 : Hid (Below w10.heap.size w10 w12) := Lib.hid (C_10_11.out.trans (hb.mono C_10_11.out.size))
          have C_11_12 : Hid (Below w11.heap.size w11 w12) := Lib.hid (C_11_11.out.trans (hb.mono C_11_11.out.size))
          clear hb
          go_wp2_with fail
          refine (equal_same' A_p2 A_q UP.length c_p2 c_q UP _ (Rd_p2.out.below C_11_12.out (Nat.le_refl _)) (Rd_q10.out.below C_10_12.out (Nat.le_refl _))).mono ?_
          rintro e w13 ⟨rfl, hb⟩
          have C_13_13 : Hid (Below w13.heap.size w13 w13) := Lib.hid (Below.refl _ _)
          have C_0_13 : Hid (Below w.heap.size w w13) := Lib.hid (C_0_12.out.trans (hb.mono C_0_12.out.size))
          have C_1_13 : Hid (Below w1.heap.size w1 w13) := Lib.hid (C_1_12.out.trans (hb.mono C_1_12.out.size))
          have C_10_13 : Hid (Below w10.heap.size w10 w13) := Lib.hid (C_10_12.out.trans (hb.mono C_10_12.out.size))
          have C_11_13 : Hid (Below w11.heap.size w11 w13) := Lib.hid (C_11_12.out.trans (hb.mono C_11_12.out.size))
          have C_12_13 : Hid (Below w12.heap.size w12 w13) := Lib.hid (C_12_12.out.trans (hb.mono C_12_12.out.size))
          clear hb
          go_wp2
          go_ret
          exact ⟨rfl, C_0_13.out⟩
end Go.Proofs.Ythjfogllinboaaa
