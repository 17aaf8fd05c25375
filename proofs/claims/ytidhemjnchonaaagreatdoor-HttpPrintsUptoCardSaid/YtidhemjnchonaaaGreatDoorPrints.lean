/- The law HttpPrints, walked. -/
import Derived.Test.YtidhemjnchonaaaGreatDoorPrnC
import Derived.Test.YtidhemjnchonaaaGreatDoorCase
namespace Go.Proofs.YtidhemjnchonaaaGreatDoor
open Go.RowKit Go.BL

theorem bsl_nil (w : World) : Bsl w (.slice none 0 0) [] := ⟨by decide, .inl ⟨none, 0, rfl, rfl, fun _ => rfl⟩⟩
set_option maxHeartbeats 4000000 in
set_option maxRecDepth 100000 in
theorem prints_law (q : Req) (h : Value) (w : World) (hd : Hdrs w h q.hs) (hl : (printB q).length ≤ 536870912) (he : Env w) (ht : Tab w) : Calls Tryz.prog 7 #[reqV q h] w (RetV (.bool true) w) := by
  obtain ⟨A, c, rfl⟩ := hd.form
  have haw := awake_any
  have hln := print_len q
  have htl := text_len (hs := q.hs)
  obtain ⟨m, p, hs, b⟩ := q
  dsimp only [reqV] at hd hln htl ⊢
  obtain ⟨w0, hw0⟩ : ∃ w0, w.alloc (.cells #[.string ⟨m.toArray⟩, .string ⟨p.toArray⟩, .slice A hs.length c, .string ⟨b.toArray⟩] 31) = w0 := ⟨_, rfl⟩
  obtain ⟨w1, hw1⟩ : ∃ w1, w0.alloc (.cells #[.string ⟨m.toArray⟩, .string ⟨p.toArray⟩, .slice A hs.length c, .string ⟨b.toArray⟩] 31) = w1 := ⟨_, rfl⟩
  have HS0 : Hid (w.heap.size < w0.heap.size) := Lib.hid (by rw [← hw0]; simp)
  have HS1 : Hid (w0.heap.size < w1.heap.size) := Lib.hid (by rw [← hw1]; simp)
  have HB0 : Hid (Below w.heap.size w w0) := Lib.hid (by rw [← hw0]; exact (Below.refl _ _).alloc (Nat.le_refl _) _)
  have HB01 : Hid (Below w0.heap.size w0 w1) := Lib.hid (by rw [← hw1]; exact (Below.refl _ _).alloc (Nat.le_refl _) _)
  have HB1 := Lib.hid (HB0.out.trans (HB01.out.mono HB0.out.size))
  have K0 : Hid (B4 w0 w.heap.size (.string ⟨m.toArray⟩) (.string ⟨p.toArray⟩) (.slice A hs.length c) (.string ⟨b.toArray⟩)) := Lib.hid (by rw [← hw0]; exact B4.new w _ _ _ _ _)
  have K1 : Hid (B4 w1 w.heap.size (.string ⟨m.toArray⟩) (.string ⟨p.toArray⟩) (.slice A hs.length c) (.string ⟨b.toArray⟩)) := Lib.hid (K0.out.below HB01.out HS0.out)
  have J1 : Hid (B4 w1 w0.heap.size (.string ⟨m.toArray⟩) (.string ⟨p.toArray⟩) (.slice A hs.length c) (.string ⟨b.toArray⟩)) := Lib.hid (by rw [← hw1]; exact B4.new w0 _ _ _ _ _)
  have HD := Lib.hid hd
  have HE := Lib.hid he
  have HT := Lib.hid ht
  have HLEN := Lib.hid (Nat.le_trans hl (show 536870912 ≤ 1073741824 by decide))
  have HN : Hid (hs.length ≤ 1000000000) := Lib.hid (by have := print_len ⟨m, p, hs, b⟩; dsimp only at this; omega)
  have hcl := fun w hd => cloneH_any hs (.slice A hs.length c) w hd HN.out
  have hpr := fun h w hd he => print_any ⟨m, p, hs, b⟩ h w hd he HLEN.out
  have hdp := fun h w hd => docPrint_any ⟨m, p, hs, b⟩ h w hd HLEN.out
  have hsr := fun h1 h2 w d1 d2 => sameR_any ⟨m, p, hs, b⟩ ⟨m, p, hs, b⟩ h1 h2 w d1 d2
  rw [show sameR ⟨m, p, hs, b⟩ ⟨m, p, hs, b⟩ = true by simp [sameR]] at hsr
  unfold reqV PrnR at hpr hdp
  unfold reqV at hsr
  dsimp only at hpr hdp hsr
  obtain ⟨R, hR⟩ : ∃ R, printL ⟨m, p, hs, b⟩ = R := ⟨_, rfl⟩
  rw [hR] at hpr hdp
  clear hd he ht hl hln htl hR
  obtain ⟨k0, k1, k2, k3, -, -, -, -⟩ := K0.out
  obtain ⟨k4, k5, k6, k7, -, -, -, -⟩ := K1.out
  go_enter Tryz.func7, Tryz.ntmps7
  go_wp2_with fail
  go_at_call 25
  refine (hcl _ (HD.out.below HB1.out (Nat.le_refl _))).mono ?_
  rintro e w2 ⟨v2, rfl, ho2, hb2⟩
  obtain ⟨A2, c2, rfl⟩ := (ho2.hdrs (by have := HN.out; omega)).form
  have HB2 := Lib.hid (HB1.out.trans (hb2.mono HB1.out.size))
  have K2 := Lib.hid (K1.out.below hb2 (Nat.lt_trans HS0.out HS1.out))
  have J2 := Lib.hid (J1.out.below hb2 HS1.out)
  have HO2 := Lib.hid ho2
  have HS2 := Lib.hid hb2.size
  clear hb2 ho2 hcl k0 k1 k2 k3 k4 k5 k6 k7
  obtain ⟨w3, hw3⟩ : ∃ w3, w2.setCell ⟨w0.heap.size, 2, none⟩ (.slice A2 hs.length c2) = w3 := ⟨_, rfl⟩
  have HB3 : Hid (Below w.heap.size w w3) := Lib.hid (by rw [← hw3]; exact HB2.out.setCell (Nat.le_of_lt HS0.out) _)
  have ne2 : ∀ x, x ≠ 2 → (⟨w0.heap.size, 2, none⟩ : Addr) ≠ ⟨w0.heap.size, x, none⟩ := fun x hx e => hx (by injection e with _ e2; exact e2.symm)
  have K3 : Hid (B4 w3 w.heap.size (.string ⟨m.toArray⟩) (.string ⟨p.toArray⟩) (.slice A hs.length c) (.string ⟨b.toArray⟩)) := Lib.hid (by
    have nb : ∀ x, (⟨w0.heap.size, 2, none⟩ : Addr) ≠ ⟨w.heap.size, x, none⟩ := fun x e => by injection e with e1 _; have := HS0.out; omega
    rw [← hw3]
    exact ⟨(World.cell?_setCell_other _ _ _ _ (nb 0)).trans K2.out.c0, (World.cell?_setCell_other _ _ _ _ (nb 1)).trans K2.out.c1, (World.cell?_setCell_other _ _ _ _ (nb 2)).trans K2.out.c2, (World.cell?_setCell_other _ _ _ _ (nb 3)).trans K2.out.c3, by rw [World.frozen?_setCell]; exact K2.out.z0, by rw [World.frozen?_setCell]; exact K2.out.z1, by rw [World.frozen?_setCell]; exact K2.out.z2, by rw [World.frozen?_setCell]; exact K2.out.z3⟩)
  have J3 : Hid (B4 w3 w0.heap.size (.string ⟨m.toArray⟩) (.string ⟨p.toArray⟩) (.slice A2 hs.length c2) (.string ⟨b.toArray⟩)) := Lib.hid (by
    rw [← hw3]
    exact ⟨(World.cell?_setCell_other _ _ _ _ (ne2 0 (by decide))).trans J2.out.c0, (World.cell?_setCell_other _ _ _ _ (ne2 1 (by decide))).trans J2.out.c1, World.cell?_setCell_same _ _ _ J2.out.c2, (World.cell?_setCell_other _ _ _ _ (ne2 3 (by decide))).trans J2.out.c3, by rw [World.frozen?_setCell]; exact J2.out.z0, by rw [World.frozen?_setCell]; exact J2.out.z1, by rw [World.frozen?_setCell]; exact J2.out.z2, by rw [World.frozen?_setCell]; exact J2.out.z3⟩)
  have HV3 : Hid (Hdrs w3 (.slice A2 hs.length c2) hs) := Lib.hid (by rw [← hw3]; exact (HO2.out.setCell (p := ⟨w0.heap.size, 2, none⟩) HS1.out _).hdrs (by have := HN.out; omega))
  have HZ3 : Hid (w1.heap.size ≤ w3.heap.size) := Lib.hid (by rw [← hw3]; simpa using HS2.out)
  clear ne2
  obtain ⟨g0, g1, g2, g3, f0, f1, f2, f3⟩ := J2.out
  obtain ⟨k0, k1, k2, k3, -, -, -, -⟩ := K3.out
  obtain ⟨j0, j1, j2, j3, -, -, -, -⟩ := J3.out
  cases R with
  | none =>
    simp only at hpr hdp
    have heq := fun w => equal_bs (.slice none 0 0) (.slice none 0 0) [] [] w (bsl_nil w) (bsl_nil w)
    simp only [decide_true] at heq
    go_wp2_with (go_at_call 26; refine (hpr _ _ HV3.out (HE.out.below HB3.out)).mono ?_; rintro e w4 ⟨hb, rfl⟩; have HB4 := Lib.hid (HB3.out.trans (hb.mono HB3.out.size)); have K4 := Lib.hid (K3.out.below hb (Nat.lt_of_lt_of_le (Nat.lt_trans HS0.out HS1.out) HZ3.out)); have J4 := Lib.hid (J3.out.below hb (Nat.lt_of_lt_of_le HS1.out HZ3.out)); have HV4 := Lib.hid (HV3.out.below hb (Nat.le_refl _)); have HZ4 := Lib.hid (Nat.le_trans HZ3.out hb.size); obtain ⟨a0, a1, a2, a3, -, -, -, -⟩ := K4.out; clear hb hpr)
    go_wp2_with (first
      | (go_at_call 27; refine (hdp _ _ (HD.out.below HB4.out (Nat.le_refl _))).mono ?_; rintro e w5 ⟨hb, rfl⟩; have HB5 := Lib.hid (HB4.out.trans (hb.mono HB4.out.size)); have K5 := Lib.hid (K4.out.below hb (Nat.lt_of_lt_of_le (Nat.lt_trans HS0.out HS1.out) HZ4.out)); have J5 := Lib.hid (J4.out.below hb (Nat.lt_of_lt_of_le HS1.out HZ4.out)); have HV5 := Lib.hid (HV4.out.below hb (Nat.le_refl _)); have HZ5 := Lib.hid (Nat.le_trans HZ4.out hb.size); clear hb hdp)
      | (go_at_call 22; refine (heq _).mono ?_; rintro e w6 ⟨rfl, hb⟩; have HB6 := Lib.hid (HB5.out.trans (hb.mono HB5.out.size)); obtain ⟨b0, b1, b2, b3, -, -, -, -⟩ := K5.out.below hb (Nat.lt_of_lt_of_le (Nat.lt_trans HS0.out HS1.out) HZ5.out); obtain ⟨d0, d1, d2, d3, -, -, -, -⟩ := J5.out.below hb (Nat.lt_of_lt_of_le HS1.out HZ5.out); have HV6 := Lib.hid (HV5.out.below hb (Nat.le_refl _)); clear hb)
      | (go_at_call 20; refine (hsr _ _ _ HV6.out (HD.out.below HB6.out (Nat.le_refl _))).mono ?_; rintro e w8 ⟨rfl, hb⟩; have HB8 := Lib.hid (HB6.out.trans (hb.mono HB6.out.size)); clear hb)
      | (go_at_call 16; refine (haw _ (HE.out.below HB8.out) (HT.out.below HB8.out)).mono ?_; rintro e w7 ⟨rfl, hb⟩; have HB7 := Lib.hid (HB8.out.trans (hb.mono HB8.out.size)); clear hb))
    go_ret
    exact ⟨rfl, HB7.out⟩
  | some bs =>
    simp only at hpr hdp
    have heq := fun v u w h1 h2 => equal_bs v u bs bs w h1 h2
    simp only [decide_true] at heq
    go_wp2_with (go_at_call 26; refine (hpr _ _ HV3.out (HE.out.below HB3.out)).mono ?_; rintro e w4 ⟨hb, v4, rfl, hv4⟩; obtain ⟨A4, c4, rfl⟩ := hv4.form; have HB4 := Lib.hid (HB3.out.trans (hb.mono HB3.out.size)); have K4 := Lib.hid (K3.out.below hb (Nat.lt_of_lt_of_le (Nat.lt_trans HS0.out HS1.out) HZ3.out)); have J4 := Lib.hid (J3.out.below hb (Nat.lt_of_lt_of_le HS1.out HZ3.out)); have HV4 := Lib.hid (HV3.out.below hb (Nat.le_refl _)); have HZ4 := Lib.hid (Nat.le_trans HZ3.out hb.size); have HP4 := Lib.hid hv4; obtain ⟨a0, a1, a2, a3, -, -, -, -⟩ := K4.out; clear hb hpr hv4)
    go_wp2_with (first
      | (go_at_call 27; refine (hdp _ _ (HD.out.below HB4.out (Nat.le_refl _))).mono ?_; rintro e w5 ⟨hb, v5, rfl, hv5⟩; obtain ⟨A5, c5, rfl⟩ := hv5.form; have HB5 := Lib.hid (HB4.out.trans (hb.mono HB4.out.size)); have K5 := Lib.hid (K4.out.below hb (Nat.lt_of_lt_of_le (Nat.lt_trans HS0.out HS1.out) HZ4.out)); have J5 := Lib.hid (J4.out.below hb (Nat.lt_of_lt_of_le HS1.out HZ4.out)); have HV5 := Lib.hid (HV4.out.below hb (Nat.le_refl _)); have HZ5 := Lib.hid (Nat.le_trans HZ4.out hb.size); have HP5 := Lib.hid (HP4.out.below hb (Nat.le_refl _)); have HQ5 := Lib.hid hv5; clear hb hdp hv5)
      | (go_at_call 22; refine (heq _ _ _ HP5.out HQ5.out).mono ?_; rintro e w6 ⟨rfl, hb⟩; have HB6 := Lib.hid (HB5.out.trans (hb.mono HB5.out.size)); obtain ⟨b0, b1, b2, b3, -, -, -, -⟩ := K5.out.below hb (Nat.lt_of_lt_of_le (Nat.lt_trans HS0.out HS1.out) HZ5.out); obtain ⟨d0, d1, d2, d3, -, -, -, -⟩ := J5.out.below hb (Nat.lt_of_lt_of_le HS1.out HZ5.out); have HV6 := Lib.hid (HV5.out.below hb (Nat.le_refl _)); clear hb)
      | (go_at_call 20; refine (hsr _ _ _ HV6.out (HD.out.below HB6.out (Nat.le_refl _))).mono ?_; rintro e w8 ⟨rfl, hb⟩; have HB8 := Lib.hid (HB6.out.trans (hb.mono HB6.out.size)); clear hb)
      | (go_at_call 16; refine (haw _ (HE.out.below HB8.out) (HT.out.below HB8.out)).mono ?_; rintro e w7 ⟨rfl, hb⟩; have HB7 := Lib.hid (HB8.out.trans (hb.mono HB8.out.size)); clear hb))
    go_ret
    exact ⟨rfl, HB7.out⟩
end Go.Proofs.YtidhemjnchonaaaGreatDoor
