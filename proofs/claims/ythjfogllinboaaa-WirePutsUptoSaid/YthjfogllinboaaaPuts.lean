/- WirePuts: the walk of the law. -/
import Derived.Test.YthjfogllinboaaaSum
import Derived.Test.YthjfogllinboaaaEq
import Derived.Test.YthjfogllinboaaaBL2
namespace Go.Proofs.Ythjfogllinboaaa
open Go.RowKit Go.BL Go.Wr

theorem equal_same (A C : Option Addr) (n cap cap' : Nat) (bs : List Nat) (w : World) (hr : Rd w A n bs) (hs : Rd w C n bs) :
    Calls Try.prog 13 #[.slice A n cap, .slice C n cap'] w (RetV (.bool true) w) :=
  (equal_any A C n n cap cap' bs bs w hr hs).mono fun e w' ⟨he, k, hw⟩ => by
    subst hw
    refine ⟨by rw [he, decide_eq_true rfl], ⟨rfl, rfl, rfl, Nat.le_refl _, fun _ _ => rfl⟩⟩

theorem ownRd {w : World} {B n cap : Nat} {A : Option Addr} {bs : List Nat} (h : Own w B (.slice A n cap) bs) : Rd w A bs.length bs := by
  obtain ⟨A', cap', e, hr⟩ := h.rd
  injection e with e1 _ _
  subst e1
  exact hr

set_option maxRecDepth 100000 in
set_option maxHeartbeats 4000000 in
theorem puts_any (A : Option Addr) (m cap : Nat) (bs : List Nat) (n : Int) (s : ByteArray) (w : World) (hr : Rd w A m bs) (hm : m ≤ 1048576) (hs : s.size ≤ 1048576) (hn : n ≤ 9223372036854775807) :
    Calls Try.prog 3 #[.slice A m cap, .int .i64 n, .string s] w (RetV (.bool true) w) := by
  have hl := hr.1
  subst hl
  have Hr := Lib.hid hr
  have Hm := Lib.hid hm
  have Hs := Lib.hid hs
  have Hn := Lib.hid hn
  obtain ⟨X, hX⟩ : ∃ X, bs ++ enc n.toNat = X := ⟨_, rfl⟩
  obtain ⟨Y, hY⟩ : ∃ Y, bs ++ enc s.size ++ bl s = Y := ⟨_, rfl⟩
  obtain ⟨S, hS⟩ : ∃ S, sum bs = S := ⟨_, rfl⟩
  have HX := Lib.hid hX
  have HY := Lib.hid hY
  have HS := Lib.hid hS
  have hX1 : 1 ≤ X.length ∧ X.length ≤ 1048586 := by
    have h1 := enc_pos n.toNat
    have h2 := enc_len9 (n := n.toNat) (by omega)
    rw [← hX, List.length_append]; omega
  obtain ⟨hX2, hX3⟩ := hX1
  clear hr hm hs hn hX hY hS
  have C_0_0 : Hid (Below w.heap.size w w) := Lib.hid (Below.refl _ _)
  go_enter Try.func3, Try.ntmps3
  go_wp2_with fail
  refine (retS (clone_any A bs.length cap bs _ (Hr.out.below C_0_0.out (Nat.le_refl _)) (by have := Hm.out; omega))).mono ?_
  rintro e w1 ⟨A_g, c_g, rfl, hrd, how, hb⟩
  have Rd_g := Lib.hid hrd
  have Ow_g := Lib.hid how
  clear hrd how
  have C_1_1 : Hid (Below w1.heap.size w1 w1) := Lib.hid (Below.refl _ _)
  have C_0_1 : Hid (Below w.heap.size w w1) := Lib.hid (C_0_0.out.trans (hb.mono C_0_0.out.size))
  clear hb
  go_wp2_with fail
  refine (retS (put_any A_g bs.length c_g bs n _ Rd_g.out (by have := Hm.out; omega) Hn.out)).mono ?_
  rw [HX.out]
  rintro e w2 ⟨A_x, c_x, rfl, hrd, how, hb⟩
  have Rd_x := Lib.hid hrd
  have Ow_x := Lib.hid how
  clear hrd how
  have C_2_2 : Hid (Below w2.heap.size w2 w2) := Lib.hid (Below.refl _ _)
  have C_0_2 : Hid (Below w.heap.size w w2) := Lib.hid (C_0_1.out.trans (hb.mono C_0_1.out.size))
  have C_1_2 : Hid (Below w1.heap.size w1 w2) := Lib.hid (C_1_1.out.trans (hb.mono C_1_1.out.size))
  clear hb
  go_wp2_with fail
  refine (retS (text_any A_g bs.length c_g bs s _ (Rd_g.out.below C_1_2.out (Nat.le_refl _)) (by have := Hm.out; have := Hs.out; omega))).mono ?_
  rw [HY.out]
  rintro e w3 ⟨A_y, c_y, rfl, hrd, how, hb⟩
  have Rd_y := Lib.hid hrd
  have Ow_y := Lib.hid how
  clear hrd how
  have C_3_3 : Hid (Below w3.heap.size w3 w3) := Lib.hid (Below.refl _ _)
  have C_0_3 : Hid (Below w.heap.size w w3) := Lib.hid (C_0_2.out.trans (hb.mono C_0_2.out.size))
  have C_1_3 : Hid (Below w1.heap.size w1 w3) := Lib.hid (C_1_2.out.trans (hb.mono C_1_2.out.size))
  have C_2_3 : Hid (Below w2.heap.size w2 w3) := Lib.hid (C_2_2.out.trans (hb.mono C_2_2.out.size))
  clear hb
  go_wp2_with fail
  refine (retS (putR_any A bs.length cap bs n _ (Hr.out.below C_0_3.out (Nat.le_refl _)) (by have := Hm.out; omega) Hn.out)).mono ?_
  rw [HX.out]
  rintro e w4 ⟨A_rx, c_rx, rfl, hrd, how, hb⟩
  have Rd_rx := Lib.hid hrd
  have Ow_rx := Lib.hid how
  clear hrd how
  have C_4_4 : Hid (Below w4.heap.size w4 w4) := Lib.hid (Below.refl _ _)
  have C_0_4 : Hid (Below w.heap.size w w4) := Lib.hid (C_0_3.out.trans (hb.mono C_0_3.out.size))
  have C_1_4 : Hid (Below w1.heap.size w1 w4) := Lib.hid (C_1_3.out.trans (hb.mono C_1_3.out.size))
  have C_2_4 : Hid (Below w2.heap.size w2 w4) := Lib.hid (C_2_3.out.trans (hb.mono C_2_3.out.size))
  have C_3_4 : Hid (Below w3.heap.size w3 w4) := Lib.hid (C_3_3.out.trans (hb.mono C_3_3.out.size))
  clear hb
  go_wp2_with fail
  refine (equal_same A_x A_rx X.length c_x c_rx X _ (Rd_x.out.below C_2_4.out (Nat.le_refl _)) Rd_rx.out).mono ?_
  rintro e w5 ⟨rfl, hb⟩
  have C_5_5 : Hid (Below w5.heap.size w5 w5) := Lib.hid (Below.refl _ _)
  have C_0_5 : Hid (Below w.heap.size w w5) := Lib.hid (C_0_4.out.trans (hb.mono C_0_4.out.size))
  have C_1_5 : Hid (Below w1.heap.size w1 w5) := Lib.hid (C_1_4.out.trans (hb.mono C_1_4.out.size))
  have C_2_5 : Hid (Below w2.heap.size w2 w5) := Lib.hid (C_2_4.out.trans (hb.mono C_2_4.out.size))
  have C_3_5 : Hid (Below w3.heap.size w3 w5) := Lib.hid (C_3_4.out.trans (hb.mono C_3_4.out.size))
  have C_4_5 : Hid (Below w4.heap.size w4 w5) := Lib.hid (C_4_4.out.trans (hb.mono C_4_4.out.size))
  clear hb
  go_wp2_with fail
  refine (retS (textR_any A bs.length cap bs s _ (Hr.out.below C_0_5.out (Nat.le_refl _)) (by have := Hm.out; have := Hs.out; omega))).mono ?_
  rw [HY.out]
  rintro e w6 ⟨A_ry, c_ry, rfl, hrd, how, hb⟩
  have Rd_ry := Lib.hid hrd
  have Ow_ry := Lib.hid how
  clear hrd how
  have C_6_6 : Hid (Below w6.heap.size w6 w6) := Lib.hid (Below.refl _ _)
  have C_0_6 : Hid (Below w.heap.size w w6) := Lib.hid (C_0_5.out.trans (hb.mono C_0_5.out.size))
  have C_1_6 : Hid (Below w1.heap.size w1 w6) := Lib.hid (C_1_5.out.trans (hb.mono C_1_5.out.size))
  have C_2_6 : Hid (Below w2.heap.size w2 w6) := Lib.hid (C_2_5.out.trans (hb.mono C_2_5.out.size))
  have C_3_6 : Hid (Below w3.heap.size w3 w6) := Lib.hid (C_3_5.out.trans (hb.mono C_3_5.out.size))
  have C_4_6 : Hid (Below w4.heap.size w4 w6) := Lib.hid (C_4_5.out.trans (hb.mono C_4_5.out.size))
  have C_5_6 : Hid (Below w5.heap.size w5 w6) := Lib.hid (C_5_5.out.trans (hb.mono C_5_5.out.size))
  clear hb
  go_wp2_with fail
  refine (equal_same A_y A_ry Y.length c_y c_ry Y _ (Rd_y.out.below C_3_6.out (Nat.le_refl _)) Rd_ry.out).mono ?_
  rintro e w7 ⟨rfl, hb⟩
  have C_7_7 : Hid (Below w7.heap.size w7 w7) := Lib.hid (Below.refl _ _)
  have C_0_7 : Hid (Below w.heap.size w w7) := Lib.hid (C_0_6.out.trans (hb.mono C_0_6.out.size))
  have C_1_7 : Hid (Below w1.heap.size w1 w7) := Lib.hid (C_1_6.out.trans (hb.mono C_1_6.out.size))
  have C_2_7 : Hid (Below w2.heap.size w2 w7) := Lib.hid (C_2_6.out.trans (hb.mono C_2_6.out.size))
  have C_3_7 : Hid (Below w3.heap.size w3 w7) := Lib.hid (C_3_6.out.trans (hb.mono C_3_6.out.size))
  have C_4_7 : Hid (Below w4.heap.size w4 w7) := Lib.hid (C_4_6.out.trans (hb.mono C_4_6.out.size))
  have C_5_7 : Hid (Below w5.heap.size w5 w7) := Lib.hid (C_5_6.out.trans (hb.mono C_5_6.out.size))
  have C_6_7 : Hid (Below w6.heap.size w6 w7) := Lib.hid (C_6_6.out.trans (hb.mono C_6_6.out.size))
  clear hb
  go_wp2_with fail
  refine (sum_any A_g bs.length c_g bs _ (Rd_g.out.below C_1_7.out (Nat.le_refl _))).mono ?_
  rw [HS.out]
  rintro e w' ⟨rfl, rfl⟩
  go_wp2_with fail
  refine (sumR_any A bs.length cap bs _ (Hr.out.below C_0_7.out (Nat.le_refl _))).mono ?_
  rw [HS.out]
  rintro e w' ⟨rfl, rfl⟩
  go_wp2_with fail
  obtain ⟨gx, hgx, hgx1, hgx2⟩ := Ow_x.out.some_ hX2
  subst hgx
  have Hox := Lib.hid ((Ow_x.out.below C_2_7.out (Nat.le_refl _)))
  have HgA := Lib.hid hgx1
  have HgB := Lib.hid hgx2
  clear hgx1 hgx2
  go_loopw [42] (fun i wr => ∃ (k : Nat) (ds : List Nat), k ≤ X.length ∧ i = .int .i64 k ∧ Hid (ds.length = X.length) ∧ Hid (Own wr w1.heap.size (.slice (some ⟨gx, 0, none⟩) X.length c_x) ds) ∧ Hid (w7.grownBy wr (some gx))) (fun i _ => X.length - (intOf i).toNat)
  case atStart => exact ⟨0, X, Nat.zero_le _, rfl, Lib.hid rfl, Hox, Lib.hid (World.grownBy.refl _ _)⟩
  case round =>
    obtain ⟨k, ds, hk, rfl, Hd, Ho, Hg⟩ := hrel
    by_cases hlt : k < X.length
    · have hck := Ho.out.cellAt Hd.out k hlt
      have hfr := Ho.out.frozenAt Hd.out k
      have hcl := getD_lt Ho.out.2 k
      obtain ⟨d, hd, hxd⟩ := xor255 _ hcl
      have Hst := Lib.hid (Ho.out.set Hd.out k d hd)
      generalize ds.getD k 0 = c at *
      go_wp2
      go_roundw
      case rel => exact ⟨k + 1, ds.set k d, by omega, by go_num, Lib.hid (by rw [List.length_set]; exact Hd.out), Lib.hid Hst.out.1, Lib.hid (grownBy_trans Hg.out Hst.out.2)⟩
      case measure => simp [intOf]; omega
    · obtain rfl : k = X.length := by omega
      obtain ⟨w8, ew8⟩ : ∃ wn : World, wn = wr := ⟨_, rfl⟩
      subst ew8
      have HB1 : Hid (Below w1.heap.size w1 w8) := Lib.hid (C_1_7.out.trans (below_only Hg.out C_1_7.out.size HgA.out))
      have Oy_n : Hid (Own w8 _ _ _) := Lib.hid (((Ow_y.out.below C_3_7.out (Nat.le_refl _))).only Hg.out (by intro e; have h1 := Own.block_ge Ow_y.out _ e; have h2 := HgB.out; omega))
      have hb : Below w.heap.size w7 w8 := below_only Hg.out C_0_7.out.size (by have h1 := HgA.out; have h2 := C_0_1.out.size; omega)
      have HB0 : Hid (Below w.heap.size w w8) := Lib.hid (C_0_7.out.trans hb)
      clear hb
      have C_8_8 : Hid (Below w8.heap.size w8 w8) := Lib.hid (Below.refl _ _)
      have Rd_yn := Lib.hid (ownRd Oy_n.out)
      go_wp2_with fail
      refine (equal_same A_g A bs.length c_g cap bs _ ((Rd_g.out.below HB1.out (Nat.le_refl _)).below C_8_8.out (Nat.le_refl _)) ((Hr.out.below HB0.out (Nat.le_refl _)).below C_8_8.out (Nat.le_refl _))).mono ?_
      rintro e w9 ⟨rfl, hb⟩
      have C_9_9 : Hid (Below w9.heap.size w9 w9) := Lib.hid (Below.refl _ _)
      have C_8_9 : Hid (Below w8.heap.size w8 w9) := Lib.hid (C_8_8.out.trans (hb.mono C_8_8.out.size))
      clear hb
      go_wp2_with fail
      refine (retS (put_any A_g bs.length c_g bs n _ ((Rd_g.out.below HB1.out (Nat.le_refl _)).below C_8_9.out (Nat.le_refl _)) (by have := Hm.out; omega) Hn.out)).mono ?_
      rw [HX.out]
      rintro e w10 ⟨A_x2, c_x2, rfl, hrd, how, hb⟩
      have Rd_x2 := Lib.hid hrd
      have Ow_x2 := Lib.hid how
      clear hrd how
      have C_10_10 : Hid (Below w10.heap.size w10 w10) := Lib.hid (Below.refl _ _)
      have C_8_10 : Hid (Below w8.heap.size w8 w10) := Lib.hid (C_8_9.out.trans (hb.mono C_8_9.out.size))
      have C_9_10 : Hid (Below w9.heap.size w9 w10) := Lib.hid (C_9_9.out.trans (hb.mono C_9_9.out.size))
      clear hb
      go_wp2_with fail
      refine (retS (putR_any A bs.length cap bs n _ ((Hr.out.below HB0.out (Nat.le_refl _)).below C_8_10.out (Nat.le_refl _)) (by have := Hm.out; omega) Hn.out)).mono ?_
      rw [HX.out]
      rintro e w11 ⟨A_rx2, c_rx2, rfl, hrd, how, hb⟩
      have Rd_rx2 := Lib.hid hrd
      have Ow_rx2 := Lib.hid how
      clear hrd how
      have C_11_11 : Hid (Below w11.heap.size w11 w11) := Lib.hid (Below.refl _ _)
      have C_8_11 : Hid (Below w8.heap.size w8 w11) := Lib.hid (C_8_10.out.trans (hb.mono C_8_10.out.size))
      have C_9_11 : Hid (Below w9.heap.size w9 w11) := Lib.hid (C_9_10.out.trans (hb.mono C_9_10.out.size))
      have C_10_11 : Hid (Below w10.heap.size w10 w11) := Lib.hid (C_10_10.out.trans (hb.mono C_10_10.out.size))
      clear hb
      go_wp2_with fail
      refine (equal_same A_x2 A_rx2 X.length c_x2 c_rx2 X _ (Rd_x2.out.below C_10_11.out (Nat.le_refl _)) Rd_rx2.out).mono ?_
      rintro e w12 ⟨rfl, hb⟩
      have C_12_12 : Hid (Below w12.heap.size w12 w12) := Lib.hid (Below.refl _ _)
      have C_8_12 : Hid (Below w8.heap.size w8 w12) := Lib.hid (C_8_11.out.trans (hb.mono C_8_11.out.size))
      have C_9_12 : Hid (Below w9.heap.size w9 w12) := Lib.hid (C_9_11.out.trans (hb.mono C_9_11.out.size))
      have C_10_12 : Hid (Below w10.heap.size w10 w12) := Lib.hid (C_10_11.out.trans (hb.mono C_10_11.out.size))
      have C_11_12 : Hid (Below w11.heap.size w11 w12) := Lib.hid (C_11_11.out.trans (hb.mono C_11_11.out.size))
      clear hb
      go_wp2_with fail
      refine (retS (textR_any A bs.length cap bs s _ ((Hr.out.below HB0.out (Nat.le_refl _)).below C_8_12.out (Nat.le_refl _)) (by have := Hm.out; have := Hs.out; omega))).mono ?_
      rw [HY.out]
      rintro e w13 ⟨A_ry2, c_ry2, rfl, hrd, how, hb⟩
      have Rd_ry2 := Lib.hid hrd
      have Ow_ry2 := Lib.hid how
      clear hrd how
      have C_13_13 : Hid (Below w13.heap.size w13 w13) := Lib.hid (Below.refl _ _)
      have C_8_13 : Hid (Below w8.heap.size w8 w13) := Lib.hid (C_8_12.out.trans (hb.mono C_8_12.out.size))
      have C_9_13 : Hid (Below w9.heap.size w9 w13) := Lib.hid (C_9_12.out.trans (hb.mono C_9_12.out.size))
      have C_10_13 : Hid (Below w10.heap.size w10 w13) := Lib.hid (C_10_12.out.trans (hb.mono C_10_12.out.size))
      have C_11_13 : Hid (Below w11.heap.size w11 w13) := Lib.hid (C_11_12.out.trans (hb.mono C_11_12.out.size))
      have C_12_13 : Hid (Below w12.heap.size w12 w13) := Lib.hid (C_12_12.out.trans (hb.mono C_12_12.out.size))
      clear hb
      go_wp2_with fail
      refine (equal_same A_y A_ry2 Y.length c_y c_ry2 Y _ (Rd_yn.out.below C_8_13.out (Nat.le_refl _)) Rd_ry2.out).mono ?_
      rintro e w14 ⟨rfl, hb⟩
      have C_14_14 : Hid (Below w14.heap.size w14 w14) := Lib.hid (Below.refl _ _)
      have C_8_14 : Hid (Below w8.heap.size w8 w14) := Lib.hid (C_8_13.out.trans (hb.mono C_8_13.out.size))
      have C_9_14 : Hid (Below w9.heap.size w9 w14) := Lib.hid (C_9_13.out.trans (hb.mono C_9_13.out.size))
      have C_10_14 : Hid (Below w10.heap.size w10 w14) := Lib.hid (C_10_13.out.trans (hb.mono C_10_13.out.size))
      have C_11_14 : Hid (Below w11.heap.size w11 w14) := Lib.hid (C_11_13.out.trans (hb.mono C_11_13.out.size))
      have C_12_14 : Hid (Below w12.heap.size w12 w14) := Lib.hid (C_12_13.out.trans (hb.mono C_12_13.out.size))
      have C_13_14 : Hid (Below w13.heap.size w13 w14) := Lib.hid (C_13_13.out.trans (hb.mono C_13_13.out.size))
      clear hb
      go_wp2
      go_ret
      exact ⟨rfl, HB0.out.trans (C_8_14.out.mono HB0.out.size)⟩
end Go.Proofs.Ythjfogllinboaaa
