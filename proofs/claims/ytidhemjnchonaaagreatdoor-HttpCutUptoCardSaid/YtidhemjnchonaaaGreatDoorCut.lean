/- The law HttpCut, walked. -/
import Derived.Test.YtidhemjnchonaaaGreatDoorCutP
import Derived.Test.YtidhemjnchonaaaGreatDoorCat
namespace Go.Proofs.YtidhemjnchonaaaGreatDoor
open Go.RowKit Go.BL

theorem concat_new (va vb : Value) (a b : List UInt8) (W : World) (ha : Bsl W va a) (hb : Bsl W vb b) (hsum : a.length + b.length ≤ 4294967280) (g : Nat) (hg : g = W.heap.size) (t : TypeId) (fr : Nat × Nat) :
    Calls Tryz.prog 28 #[.slice (some ⟨g, 0, none⟩) 2 2] (W.alloc (.cells #[va, vb] t fr)) fun e w' => ∃ v, e = .returned v ∧ Bsl w' v (a ++ b) ∧ Below W.heap.size W w' := by
  subst hg
  have hB : Below W.heap.size W (W.alloc (.cells #[va, vb] t fr)) := (Below.refl _ _).alloc (Nat.le_refl _) _
  refine (concat_any va vb a b W.heap.size _ (ha.below hB (Nat.le_refl _)) (hb.below hB (Nat.le_refl _)) hsum (by simp) (by rw [World.cell?_alloc_mark]; rfl) (by rw [World.cell?_alloc_mark]; rfl)).mono ?_
  rintro e w' ⟨v, rfl, h1, h2⟩
  exact ⟨v, rfl, h1, hB.trans (h2.mono hB.size)⟩
theorem to_slice_u (blk off n c h : Nat) (hc : h ≤ c) (w : World) :
    (Instr.slice 28 (.slice (some ⟨blk, off, none⟩) n c) none (some (.int .u64 (h : Int))) none).run Tryz.prog w = .ok (.slice (some ⟨blk, off, none⟩) h c) w := by
  simp only [Instr.slice, Sem.run_bind, run_underlying Tryz.underlying28, Result.andThen, Instr.sliceBounds, Sem.run_pure]
  rw [run_sliceBound _ _ _ _ _ (by omega) (by omega)]
  simp only [Tryz.sizeOf5, Int.toNat_natCast]
  simp [add_none]
set_option maxHeartbeats 4000000 in
set_option maxRecDepth 100000 in
theorem cut_law (v0 v2 : Value) (b : List UInt8) (a : Int) (m : List UInt8) (w : World) (h0 : Bsl w v0 b) (h2 : Bsl w v2 m) (hb : b.length ≤ 1048576) (hm : m.length ≤ 1048576) (ha0 : 0 ≤ a) (ha1 : a ≤ 18446744073709551615) (he : Env w) (ht : Tab w) :
    Calls Tryz.prog 9 #[v0, .int .u64 a, v2] w (RetV (.bool true) w) := by
  have hcl := clone_any v0 b w h0
  have HV := Lib.hid h0
  have HM := Lib.hid h2
  have HE := Lib.hid he
  have HT := Lib.hid ht
  have haw := awake_any
  obtain ⟨Am, cm, rfl⟩ := h2.form
  obtain ⟨A0, c0, rfl⟩ := h0.form
  have HLB := Lib.hid hb
  have HLM := Lib.hid hm
  clear h2 he ht
  have hwl : IntKind.u64.wrap (b.length : Int) = (b.length : Int) := by rw [IntKind.wrap_u64]; omega
  go_enter Tryz.func9, Tryz.ntmps9
  go_wp2_with (go_at_call 18; refine hcl.mono ?_; rintro e w1 ⟨v1, rfl, hb1, hb⟩; have HV1 := Lib.hid hb1; have HB1 := Lib.hid hb; clear hb1 hb)
  go_at_call 17
  refine (parse_any v1 b _ HV1.out (HE.out.below HB1.out)).mono ?_
  cases hp : parseL b with
  | error c =>
    rintro e w2 ⟨rfl, hb⟩
    have HB2 := Lib.hid (HB1.out.trans (hb.mono HB1.out.size))
    have HB3 := Lib.hid (HB2.out.alloc HB2.out.size (.cells #[.string ⟨#[]⟩, .string ⟨#[]⟩, .slice none 0 0, .string ⟨#[]⟩] 31))
    have hc := parse_err hp
    have hc0 : (c == (0 : Int)) = false := by
      unfold codes at hc
      simp at hc
      rcases hc with rfl | rfl | rfl | rfl | rfl | rfl <;> rfl
    clear hb hp hc hcl h0 ha0 ha1
    go_wp2_with (go_at_call 16; refine (haw _ (HE.out.below HB3.out) (HT.out.below HB3.out)).mono ?_; rintro e w4 ⟨rfl, hb⟩; have HB4 := Lib.hid (HB3.out.trans (hb.mono HB3.out.size)); clear hb)
    go_ret
    exact ⟨rfl, HB4.out⟩
  | ok q =>
    rintro e w2 ⟨h, rfl, hh, hb⟩
    obtain ⟨Ah, ch, rfl⟩ := hh.form
    have HB2 := Lib.hid (HB1.out.trans (hb.mono HB1.out.size))
    obtain ⟨E, -, -, hlen, -, -⟩ := parse_has hp
    obtain ⟨qm, qp, qh, qb⟩ := q
    clear hh
    obtain ⟨nh, hnh⟩ : ∃ n, qh.length = n := ⟨_, rfl⟩
    dsimp only
    rw [hnh]
    clear hnh
    have HB3 := Lib.hid (HB2.out.alloc HB2.out.size (.cells #[.string ⟨qm.toArray⟩, .string ⟨qp.toArray⟩, .slice Ah nh ch, .string ⟨qb.toArray⟩] 31))
    have hn0 : ((b.length : Int) == 0) = false := beq_false_of_ne (by omega)
    have hn1 : ¬ ((b.length : Int) = 0) := by omega
    obtain ⟨an, rfl⟩ := Int.eq_ofNat_of_zero_le ha0
    obtain ⟨k, hk⟩ : ∃ k, an % b.length = k := ⟨_, rfl⟩
    have hkl : k < b.length := by rw [← hk]; exact Nat.mod_lt _ (by omega)
    have hmod : Int.tmod (an : Int) (b.length : Int) = (k : Int) := by rw [Int.tmod_eq_emod_of_nonneg (by omega), ← Int.natCast_emod, hk]
    have hsl : ∃ blk off c, A0 = some ⟨blk, off, none⟩ ∧ c0 = c ∧ b.length ≤ c := by
      obtain ⟨hl1, ⟨A1, c1, hv0, hb0, -⟩ | ⟨blk, off, c, hv0, hc, -, -⟩⟩ := h0
      · rw [hb0] at hlen; exact absurd hlen (by simp)
      · injection hv0 with e1 e2 e3
        exact ⟨blk, off, c, e1, e3, hc⟩
    obtain ⟨blk, off, c, rfl, rfl, hc⟩ := hsl
    have hts := to_slice_u blk off b.length c0 k (by omega)
    have HVK : Hid (∀ w', Below w.heap.size w w' → Bsl w' (.slice (some ⟨blk, off, none⟩) k c0) (b.take k)) := Lib.hid (fun w' hw => by
      obtain ⟨hl1, ⟨A1, c1, hv0, hb0, -⟩ | ⟨blk', off', c', hv0, hc', hlt, hcell⟩⟩ := h0
      · rw [hb0] at hlen; exact absurd hlen (by simp)
      · injection hv0 with e1 e2 e3
        injection e1 with e1
        injection e1 with e1 e4
        subst e1 e3 e4
        refine ⟨by rw [List.length_take]; omega, .inr ⟨blk, off, c0, by rw [List.length_take, Nat.min_eq_left (by omega)], by rw [List.length_take]; omega, Nat.lt_of_lt_of_le hlt hw.size, fun j hj => ?_⟩⟩
        rw [List.length_take] at hj
        rw [hw.cell (show blk < w.heap.size from hlt), hcell j (by omega)]
        simp)
    have hsh := parse_short hp k hkl
    obtain ⟨c3, hc3⟩ := hsh
    have hce := parse_err hc3
    have hc0 : (c3 == (0 : Int)) = false := by
      unfold codes at hce
      simp at hce
      rcases hce with rfl | rfl | rfl | rfl | rfl | rfl <;> rfl
    have hc1 : ¬ (c3 = 0) := fun h => by rw [h] at hc0; cases hc0
    have hc2 : (c3 != (0 : Int)) = true := bne_iff_ne.2 hc1
    have hps := fun v w hv he => parse_any v (b.take k) w hv he
    rw [hc3] at hps
    unfold RetQ at hps
    simp only at hps
    have HP := Lib.hid hp
    have HL2 : Hid (b.length + m.length ≤ 4294967280) := Lib.hid (by omega)
    clear hp hc3 hce hk hkl hb h0 hlen hc ha0 ha1
    go_wp2_with (first
      | (go_at_call 18; refine (clone_any _ _ _ (HVK.out _ HB3.out)).mono ?_; rintro e w4 ⟨v4, rfl, hv4, hb4⟩; have HV4 := Lib.hid hv4; have HB4 := Lib.hid (HB3.out.trans (hb4.mono HB3.out.size)); clear hv4 hb4)
      | (go_at_call 17; refine (hps _ _ HV4.out (HE.out.below HB4.out)).mono ?_; rintro e w5 ⟨rfl, hb5⟩; have HB5 := Lib.hid ((HB4.out.trans (hb5.mono HB4.out.size)).alloc (HB4.out.trans (hb5.mono HB4.out.size)).size (.cells #[.string ⟨#[]⟩, .string ⟨#[]⟩, .slice none 0 0, .string ⟨#[]⟩] 31)); clear hb5 hps))
    refine (concat_new _ _ b m _ (HV.out.below HB5.out (Nat.le_refl _)) (HM.out.below HB5.out (Nat.le_refl _)) HL2.out _ (by simp) _ _).mono ?_
    rintro e w6 ⟨v6, rfl, hv6, hb6⟩
    have HV6 := Lib.hid hv6
    have HB6 := Lib.hid (HB5.out.trans (hb6.mono HB5.out.size))
    clear hv6 hb6
    have hpl := fun v w hv he => parse_any v (b ++ m) w hv he
    cases m with
    | nil =>
      rw [List.append_nil, HP.out] at hpl
      unfold RetQ at hpl
      simp only at hpl
      go_wp2_with (first
        | (go_at_call 17; refine (hpl _ _ (by have := HV6.out; rwa [List.append_nil] at this) (HE.out.below HB6.out)).mono ?_; rintro e w7 ⟨h7, rfl, hh7, hb7⟩; obtain ⟨A7, c7, rfl⟩ := hh7.form; have HB7 := Lib.hid ((HB6.out.trans (hb7.mono HB6.out.size)).alloc (HB6.out.trans (hb7.mono HB6.out.size)).size (.cells #[.string ⟨qm.toArray⟩, .string ⟨qp.toArray⟩, .slice A7 qh.length c7, .string ⟨qb.toArray⟩] 31)); clear hb7 hh7)
        | (go_at_call 16; refine (haw _ (HE.out.below HB7.out) (HT.out.below HB7.out)).mono ?_; rintro e w8 ⟨rfl, hb8⟩; have HB8 := Lib.hid (HB7.out.trans (hb8.mono HB7.out.size)); clear hb8))
      go_ret
      exact ⟨rfl, HB8.out⟩
    | cons x m =>
      rw [parse_long HP.out (x :: m) (by simp)] at hpl
      unfold RetQ at hpl
      simp only at hpl
      have hx0 : (((x :: m).length : Int) == 0) = false := beq_false_of_ne (by rw [List.length_cons]; omega)
      obtain ⟨M, hM⟩ : ∃ M, (x :: m).length = M := ⟨_, rfl⟩
      rw [hM] at hx0
      rw [hM]
      clear hM
      go_wp2_with (first
        | (go_at_call 17; refine (hpl _ _ HV6.out (HE.out.below HB6.out)).mono ?_; rintro e w7 ⟨rfl, hb7⟩; have HB7 := Lib.hid ((HB6.out.trans (hb7.mono HB6.out.size)).alloc (HB6.out.trans (hb7.mono HB6.out.size)).size (.cells #[.string ⟨#[]⟩, .string ⟨#[]⟩, .slice none 0 0, .string ⟨#[]⟩] 31)); clear hb7)
        | (go_at_call 16; refine (haw _ (HE.out.below HB7.out) (HT.out.below HB7.out)).mono ?_; rintro e w8 ⟨rfl, hb8⟩; have HB8 := Lib.hid (HB7.out.trans (hb8.mono HB7.out.size)); clear hb8))
      go_ret
      exact ⟨rfl, HB8.out⟩
end Go.Proofs.YtidhemjnchonaaaGreatDoor
