/- The law HttpCase, walked. -/
import Derived.Test.YtidhemjnchonaaaGreatDoorTurn
namespace Go.Proofs.YtidhemjnchonaaaGreatDoor
open Go.RowKit Go.BL

set_option maxHeartbeats 4000000 in
set_option maxRecDepth 100000 in
theorem case_law (v : Value) (b : List UInt8) (a : Int) (w : World) (hv : Bsl w v b) (hb : b.length ≤ 1048576) (he : Env w) (ht : Tab w) :
    Calls Tryz.prog 4 #[v, .int .u64 a] w (RetV (.bool true) w) := by
  have hcl := clone_any v b w hv
  have HV := Lib.hid hv
  have HE := Lib.hid he
  have HT := Lib.hid ht
  have HLB := Lib.hid hb
  have haw := awake_any
  clear hv he ht hb
  go_enter Tryz.func4, Tryz.ntmps4
  go_wp2_with (go_at_call 18; refine hcl.mono ?_; rintro e w1 ⟨v1, rfl, hb1, hb⟩; have HV1 := Lib.hid hb1; have HB1 := Lib.hid hb; clear hb1 hb hcl)
  go_at_call 17
  refine (parse_any v1 b _ HV1.out (HE.out.below HB1.out)).mono ?_
  cases hp : parseL b with
  | error c =>
    rintro e w2 ⟨rfl, hb⟩
    have HB2 := Lib.hid (HB1.out.trans (hb.mono HB1.out.size))
    have HB3 := Lib.hid (HB2.out.alloc HB2.out.size (.cells #[.string ⟨#[]⟩, .string ⟨#[]⟩, .slice none 0 0, .string ⟨#[]⟩] 31))
    have hcc : (c == c) = true := beq_self_eq_true c
    have hsr := fun w => sameR_any ⟨[], [], [], []⟩ ⟨[], [], [], []⟩ (.slice none 0 0) (.slice none 0 0) w (req0_hdrs w) (req0_hdrs w)
    rw [show sameR ⟨[], [], [], []⟩ ⟨[], [], [], []⟩ = true by decide] at hsr
    unfold reqV at hsr
    have HP := Lib.hid hp
    clear hb hp
    go_wp2_with (go_at_call 19; refine (turned_any v b a _ (HV.out.below HB3.out (Nat.le_refl _)) HLB.out (HE.out.below HB3.out)).mono ?_; rintro e w4 ⟨v4, b4, rfl, hv4, hp4, hb4⟩; have HV4 := Lib.hid hv4; have HP4 := Lib.hid hp4; have HBT := Lib.hid hb4; have HB4 := Lib.hid (HB3.out.trans (hb4.mono HB3.out.size)); clear hv4 hp4 hb4)
    have hps := fun v w hv he => parse_any v b4 w hv he
    rw [HP4.out, HP.out] at hps
    unfold RetQ at hps
    simp only at hps
    go_wp2_with (first
      | (go_at_call 17; refine (hps _ _ HV4.out (HE.out.below HB4.out)).mono ?_; rintro e w5 ⟨rfl, hb5⟩; have HB5 := Lib.hid ((HB4.out.trans (hb5.mono HB4.out.size)).alloc (HB4.out.trans (hb5.mono HB4.out.size)).size (.cells #[.string ⟨#[]⟩, .string ⟨#[]⟩, .slice none 0 0, .string ⟨#[]⟩] 31)); obtain ⟨n0, n1, n2, n3⟩ := cells4 ((HBT.out.trans (hb5.mono HBT.out.size)).alloc (HBT.out.trans (hb5.mono HBT.out.size)).size (.cells #[.string ⟨#[]⟩, .string ⟨#[]⟩, .slice none 0 0, .string ⟨#[]⟩] 31)); clear hb5 hps)
      | (go_at_call 20; refine (hsr _).mono ?_; rintro e w6 ⟨rfl, hb⟩; have HB6 := Lib.hid (HB5.out.trans (hb.mono HB5.out.size)); clear hb)
      | (go_at_call 16; refine (haw _ (HE.out.below HB6.out) (HT.out.below HB6.out)).mono ?_; rintro e w7 ⟨rfl, hb⟩; have HB7 := Lib.hid (HB6.out.trans (hb.mono HB6.out.size)); clear hb))
    go_ret
    exact ⟨rfl, HB7.out⟩
  | ok q =>
    rintro e w2 ⟨h, rfl, hh, hb⟩
    obtain ⟨A, ch, rfl⟩ := hh.form
    have HB2 := Lib.hid (HB1.out.trans (hb.mono HB1.out.size))
    obtain ⟨qm, qp, qh, qb⟩ := q
    dsimp only at hh ⊢
    have HB3 := Lib.hid (HB2.out.alloc HB2.out.size (.cells #[.string ⟨qm.toArray⟩, .string ⟨qp.toArray⟩, .slice A qh.length ch, .string ⟨qb.toArray⟩] 31))
    have hsr := fun w' v1 v2 h1 h2 => sameR_any ⟨qm, qp, qh, qb⟩ ⟨qm, qp, qh, qb⟩ v1 v2 w' h1 h2
    rw [show sameR ⟨qm, qp, qh, qb⟩ ⟨qm, qp, qh, qb⟩ = true by simp [sameR]] at hsr
    unfold reqV at hsr
    have HH := Lib.hid hh
    have HP := Lib.hid hp
    clear hb hp hh
    go_wp2_with (go_at_call 19; refine (turned_any v b a _ (HV.out.below HB3.out (Nat.le_refl _)) HLB.out (HE.out.below HB3.out)).mono ?_; rintro e w4 ⟨v4, b4, rfl, hv4, hp4, hb4⟩; have HV4 := Lib.hid hv4; have HP4 := Lib.hid hp4; have HBT := Lib.hid hb4; have HB4 := Lib.hid (HB3.out.trans (hb4.mono HB3.out.size)); have HH4 := Lib.hid ((HH.out.below ((Below.refl w2.heap.size w2).alloc (Nat.le_refl _) (.cells #[.string ⟨qm.toArray⟩, .string ⟨qp.toArray⟩, .slice A qh.length ch, .string ⟨qb.toArray⟩] 31)) (Nat.le_refl _)).below hb4 (Nat.le_refl _)); clear hv4 hp4 hb4)
    have hps := fun v w hv he => parse_any v b4 w hv he
    rw [HP4.out, HP.out] at hps
    unfold RetQ at hps
    simp only at hps
    go_wp2_with (first
      | (go_at_call 17; refine (hps _ _ HV4.out (HE.out.below HB4.out)).mono ?_; rintro e w5 ⟨h5, rfl, hh5, hb5⟩; obtain ⟨A5, c5, rfl⟩ := hh5.form; have HB5 := Lib.hid ((HB4.out.trans (hb5.mono HB4.out.size)).alloc (HB4.out.trans (hb5.mono HB4.out.size)).size (.cells #[.string ⟨qm.toArray⟩, .string ⟨qp.toArray⟩, .slice A5 qh.length c5, .string ⟨qb.toArray⟩] 31)); obtain ⟨n0, n1, n2, n3⟩ := cells4 ((HBT.out.trans (hb5.mono HBT.out.size)).alloc (HBT.out.trans (hb5.mono HBT.out.size)).size (.cells #[.string ⟨qm.toArray⟩, .string ⟨qp.toArray⟩, .slice A5 qh.length c5, .string ⟨qb.toArray⟩] 31)); have HH5 := Lib.hid (hh5.below ((Below.refl w5.heap.size w5).alloc (Nat.le_refl _) (.cells #[.string ⟨qm.toArray⟩, .string ⟨qp.toArray⟩, .slice A5 qh.length c5, .string ⟨qb.toArray⟩] 31)) (Nat.le_refl _)); have HH6 := Lib.hid ((HH4.out.below hb5 (Nat.le_refl _)).below ((Below.refl w5.heap.size w5).alloc (Nat.le_refl _) (.cells #[.string ⟨qm.toArray⟩, .string ⟨qp.toArray⟩, .slice A5 qh.length c5, .string ⟨qb.toArray⟩] 31)) (Nat.le_refl _)); clear hb5 hps hh5)
      | (go_at_call 20; refine (hsr _ _ _ HH6.out HH5.out).mono ?_; rintro e w6 ⟨rfl, hb⟩; have HB6 := Lib.hid (HB5.out.trans (hb.mono HB5.out.size)); clear hb)
      | (go_at_call 16; refine (haw _ (HE.out.below HB6.out) (HT.out.below HB6.out)).mono ?_; rintro e w7 ⟨rfl, hb⟩; have HB7 := Lib.hid (HB6.out.trans (hb.mono HB6.out.size)); clear hb))
    go_ret
    exact ⟨rfl, HB7.out⟩
end Go.Proofs.YtidhemjnchonaaaGreatDoor
