/- The law HttpParses, walked. -/
import Derived.Test.YtidhemjnchonaaaGreatDoorRefG
import Derived.Test.YtidhemjnchonaaaGreatDoorCase
namespace Go.Proofs.YtidhemjnchonaaaGreatDoor
open Go.RowKit Go.BL

set_option maxHeartbeats 4000000 in
set_option maxRecDepth 100000 in
theorem parses_law (v : Value) (b : List UInt8) (w : World) (hv : Bsl w v b) (hb : b.length ≤ 1048576) (he : Env w) (ht : Tab w) :
    Calls Tryz.prog 5 #[v] w (RetV (.bool true) w) := by
  have hcl := clone_any v b w hv
  have HV := Lib.hid hv
  have HE := Lib.hid he
  have HT := Lib.hid ht
  have HLB := Lib.hid (show b.length ≤ 1073741824 by omega)
  have haw := awake_any
  have hdp := fun w hv => docParse_any v b w hv HLB.out
  have heq := fun v1 w h1 h2 => equal_bs v1 v b b w h1 h2
  simp only [decide_true] at heq
  clear hv he ht hb
  go_enter Tryz.func5, Tryz.ntmps5
  go_wp2_with (go_at_call 18; refine hcl.mono ?_; rintro e w1 ⟨v1, rfl, hb1, hb⟩; have HV1 := Lib.hid hb1; have HB1 := Lib.hid hb; clear hb1 hb hcl)
  go_at_call 17
  refine (parse_any v1 b _ HV1.out (HE.out.below HB1.out)).mono ?_
  cases hp : parseL b with
  | error c =>
    rw [hp] at hdp
    unfold RetQ at hdp
    simp only at hdp
    rintro e w2 ⟨rfl, hb⟩
    have HB2 := Lib.hid (HB1.out.trans (hb.mono HB1.out.size))
    have HB3 := Lib.hid (HB2.out.alloc HB2.out.size (.cells #[.string ⟨#[]⟩, .string ⟨#[]⟩, .slice none 0 0, .string ⟨#[]⟩] 31))
    have HV3 := Lib.hid ((HV1.out.below hb (Nat.le_refl _)).below ((Below.refl _ _).alloc (Nat.le_refl _) (.cells #[.string ⟨#[]⟩, .string ⟨#[]⟩, .slice none 0 0, .string ⟨#[]⟩] 31)) (Nat.le_refl _))
    have hcc : (c == c) = true := beq_self_eq_true c
    have hsr := fun w => sameR_any ⟨[], [], [], []⟩ ⟨[], [], [], []⟩ (.slice none 0 0) (.slice none 0 0) w (req0_hdrs w) (req0_hdrs w)
    rw [show sameR ⟨[], [], [], []⟩ ⟨[], [], [], []⟩ = true by decide] at hsr
    unfold reqV at hsr
    clear hb hp
    have HBT : Hid (Below (w2.alloc (.cells #[.string ⟨#[]⟩, .string ⟨#[]⟩, .slice none 0 0, .string ⟨#[]⟩] 31)).heap.size (w2.alloc (.cells #[.string ⟨#[]⟩, .string ⟨#[]⟩, .slice none 0 0, .string ⟨#[]⟩] 31)) (w2.alloc (.cells #[.string ⟨#[]⟩, .string ⟨#[]⟩, .slice none 0 0, .string ⟨#[]⟩] 31))) := Lib.hid (Below.refl _ _)
    go_wp2_with (first
      | (go_at_call 21; refine (hdp _ (HV.out.below HB3.out (Nat.le_refl _))).mono ?_; rintro e w5 ⟨rfl, hb5⟩; have HB5 := Lib.hid ((HB3.out.trans (hb5.mono HB3.out.size)).alloc (HB3.out.trans (hb5.mono HB3.out.size)).size (.cells #[.string ⟨#[]⟩, .string ⟨#[]⟩, .slice none 0 0, .string ⟨#[]⟩] 31)); obtain ⟨n0, n1, n2, n3⟩ := cells4 ((HBT.out.trans (hb5.mono HBT.out.size)).alloc (HBT.out.trans (hb5.mono HBT.out.size)).size (.cells #[.string ⟨#[]⟩, .string ⟨#[]⟩, .slice none 0 0, .string ⟨#[]⟩] 31)); have HV5 := Lib.hid ((HV3.out.below hb5 (Nat.le_refl _)).below ((Below.refl _ _).alloc (Nat.le_refl _) (.cells #[.string ⟨#[]⟩, .string ⟨#[]⟩, .slice none 0 0, .string ⟨#[]⟩] 31)) (Nat.le_refl _)); clear hb5 hdp)
      | (go_at_call 20; refine (hsr _).mono ?_; rintro e w6 ⟨rfl, hb⟩; have HB6 := Lib.hid (HB5.out.trans (hb.mono HB5.out.size)); have HV6 := Lib.hid (HV5.out.below hb (Nat.le_refl _)); clear hb)
      | (go_at_call 22; refine (heq _ _ HV6.out (HV.out.below HB6.out (Nat.le_refl _))).mono ?_; rintro e w8 ⟨rfl, hb⟩; have HB8 := Lib.hid (HB6.out.trans (hb.mono HB6.out.size)); clear hb)
      | (go_at_call 16; refine (haw _ (HE.out.below HB8.out) (HT.out.below HB8.out)).mono ?_; rintro e w7 ⟨rfl, hb⟩; have HB7 := Lib.hid (HB8.out.trans (hb.mono HB8.out.size)); clear hb))
    go_ret
    exact ⟨rfl, HB7.out⟩
  | ok q =>
    rw [hp] at hdp
    unfold RetQ at hdp
    simp only at hdp
    rintro e w2 ⟨h, rfl, hh, hb⟩
    obtain ⟨A, ch, rfl⟩ := hh.form
    have HB2 := Lib.hid (HB1.out.trans (hb.mono HB1.out.size))
    obtain ⟨qm, qp, qh, qb⟩ := q
    dsimp only at hh hdp ⊢
    have HB3 := Lib.hid (HB2.out.alloc HB2.out.size (.cells #[.string ⟨qm.toArray⟩, .string ⟨qp.toArray⟩, .slice A qh.length ch, .string ⟨qb.toArray⟩] 31))
    have HV3 := Lib.hid ((HV1.out.below hb (Nat.le_refl _)).below ((Below.refl _ _).alloc (Nat.le_refl _) (.cells #[.string ⟨qm.toArray⟩, .string ⟨qp.toArray⟩, .slice A qh.length ch, .string ⟨qb.toArray⟩] 31)) (Nat.le_refl _))
    have hsr := fun w' v1 v2 h1 h2 => sameR_any ⟨qm, qp, qh, qb⟩ ⟨qm, qp, qh, qb⟩ v1 v2 w' h1 h2
    rw [show sameR ⟨qm, qp, qh, qb⟩ ⟨qm, qp, qh, qb⟩ = true by simp [sameR]] at hsr
    unfold reqV at hsr
    have HH4 := Lib.hid (hh.below ((Below.refl w2.heap.size w2).alloc (Nat.le_refl _) (.cells #[.string ⟨qm.toArray⟩, .string ⟨qp.toArray⟩, .slice A qh.length ch, .string ⟨qb.toArray⟩] 31)) (Nat.le_refl _))
    clear hb hp hh
    have HBT : Hid (Below (w2.alloc (.cells #[.string ⟨qm.toArray⟩, .string ⟨qp.toArray⟩, .slice A qh.length ch, .string ⟨qb.toArray⟩] 31)).heap.size (w2.alloc (.cells #[.string ⟨qm.toArray⟩, .string ⟨qp.toArray⟩, .slice A qh.length ch, .string ⟨qb.toArray⟩] 31)) (w2.alloc (.cells #[.string ⟨qm.toArray⟩, .string ⟨qp.toArray⟩, .slice A qh.length ch, .string ⟨qb.toArray⟩] 31))) := Lib.hid (Below.refl _ _)
    go_wp2_with (first
      | (go_at_call 21; refine (hdp _ (HV.out.below HB3.out (Nat.le_refl _))).mono ?_; rintro e w5 ⟨h5, rfl, hh5, hb5⟩; obtain ⟨A5, c5, rfl⟩ := hh5.form; have HB5 := Lib.hid ((HB3.out.trans (hb5.mono HB3.out.size)).alloc (HB3.out.trans (hb5.mono HB3.out.size)).size (.cells #[.string ⟨qm.toArray⟩, .string ⟨qp.toArray⟩, .slice A5 qh.length c5, .string ⟨qb.toArray⟩] 31)); obtain ⟨n0, n1, n2, n3⟩ := cells4 ((HBT.out.trans (hb5.mono HBT.out.size)).alloc (HBT.out.trans (hb5.mono HBT.out.size)).size (.cells #[.string ⟨qm.toArray⟩, .string ⟨qp.toArray⟩, .slice A5 qh.length c5, .string ⟨qb.toArray⟩] 31)); have HH5 := Lib.hid (hh5.below ((Below.refl w5.heap.size w5).alloc (Nat.le_refl _) (.cells #[.string ⟨qm.toArray⟩, .string ⟨qp.toArray⟩, .slice A5 qh.length c5, .string ⟨qb.toArray⟩] 31)) (Nat.le_refl _)); have HH6 := Lib.hid ((HH4.out.below hb5 (Nat.le_refl _)).below ((Below.refl w5.heap.size w5).alloc (Nat.le_refl _) (.cells #[.string ⟨qm.toArray⟩, .string ⟨qp.toArray⟩, .slice A5 qh.length c5, .string ⟨qb.toArray⟩] 31)) (Nat.le_refl _)); have HV5 := Lib.hid ((HV3.out.below hb5 (Nat.le_refl _)).below ((Below.refl _ _).alloc (Nat.le_refl _) (.cells #[.string ⟨qm.toArray⟩, .string ⟨qp.toArray⟩, .slice A5 qh.length c5, .string ⟨qb.toArray⟩] 31)) (Nat.le_refl _)); clear hb5 hdp hh5)
      | (go_at_call 20; refine (hsr _ _ _ HH6.out HH5.out).mono ?_; rintro e w6 ⟨rfl, hb⟩; have HB6 := Lib.hid (HB5.out.trans (hb.mono HB5.out.size)); have HV6 := Lib.hid (HV5.out.below hb (Nat.le_refl _)); clear hb)
      | (go_at_call 22; refine (heq _ _ HV6.out (HV.out.below HB6.out (Nat.le_refl _))).mono ?_; rintro e w8 ⟨rfl, hb⟩; have HB8 := Lib.hid (HB6.out.trans (hb.mono HB6.out.size)); clear hb)
      | (go_at_call 16; refine (haw _ (HE.out.below HB8.out) (HT.out.below HB8.out)).mono ?_; rintro e w7 ⟨rfl, hb⟩; have HB7 := Lib.hid (HB8.out.trans (hb.mono HB8.out.size)); clear hb))
    go_ret
    exact ⟨rfl, HB7.out⟩
end Go.Proofs.YtidhemjnchonaaaGreatDoor
