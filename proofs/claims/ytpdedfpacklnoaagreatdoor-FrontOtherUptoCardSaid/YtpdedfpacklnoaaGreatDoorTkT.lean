/- Contract of token.Read: tokenR; premises: ormap.item's and ormap.many's. -/
import Derived.Test.YtpdedfpacklnoaaGreatDoorTkV
import Derived.Test.YtpdedfpacklnoaaGreatDoorTkB
import Derived.Test.YtpdedfpacklnoaaGreatDoorMW
import Derived.Test.YtpdedfpacklnoaaGreatDoorMR
set_option maxRecDepth 100000
namespace Go.Proofs.YtpdedfpacklnoaaGreatDoor
open Go.RowKit Go.BL Go.Ct Go.Sl Go.Wr W

theorem bytesL_len : ∀ (s b : List Nat), bytesL s = some b → b.length ≤ s.length
  | [], b, h => by cases h; simp
  | [_], b, h => by cases h
  | [p, q], b, h => by
    unfold bytesL at h
    split at h <;> cases h
    simp
  | [p, q, r], b, h => by
    unfold bytesL at h
    split at h <;> cases h
    simp
  | p :: q :: r :: s :: t, b, h => by
    unfold bytesL at h
    split at h
    · cases h
    · cases ht : bytesL t with
      | none => rw [ht] at h; cases h
      | some x =>
        rw [ht] at h
        cases h
        have := bytesL_len t x ht
        simp
        omega
theorem unframe_len (bs : List Nat) : (unframe bs).1.length ≤ bs.length := by
  unfold unframe
  split
  · simp
  · split
    · simp
    · split
      · simp
      · split
        · simp
        · simp only [List.length_take, List.length_drop]; omega
theorem tok_none {s : List UInt8} (hs : s ≠ []) (h : bytesL (nats s) = none) : tokenR s = .error 150 := by
  unfold tokenR; rw [if_neg hs, h]; try rfl
theorem tok_some {s : List UInt8} (hs : s ≠ []) {b : List Nat} (h : bytesL (nats s) = some b) : tokenR s = if (unframe b).2.2 ≠ 0 ∨ (unframe b).2.1 ≠ [] then .error 150 else match decodeL (unframe b).1 with
    | .error _ => .error 150
    | .ok c => .ok c := by
  unfold tokenR; rw [if_neg hs, h]; try rfl
set_option maxHeartbeats 16000000 in
theorem read_token (hI : ItemC) (hMy : ManyC) (s : List UInt8) (hl : s.length ≤ 1048576) (w : World) : Calls Tryz.prog 84 #[.string ⟨s.toArray⟩] w (TokR (tokenR s) w) := by
  have hby := bytes_any s hl
  obtain ⟨o, ho⟩ : ∃ y, bytesL (nats s) = y := ⟨_, rfl⟩
  have HLN : Hid (∀ b, o = some b → b.length ≤ 1048576) := Lib.hid (fun b hb => by rw [hb] at ho; have := bytesL_len _ _ ho; rw [show (nats s).length = s.length by simp [nats]] at this; omega)
  have HO := Lib.hid ho
  rw [ho] at hby
  clear ho
  obtain ⟨w0, hw0⟩ : ∃ y, w.alloc (.cells #[.slice none 0 0, .slice none 0 0, .slice none 0 0] 32) = y := ⟨_, rfl⟩
  have HBW : Hid (Below w.heap.size w w0) := Lib.hid (by rw [← hw0]; exact (Below.refl _ _).alloc (Nat.le_refl _) _)
  have HB0 : Hid (Bk w0 w.heap.size [.slice none 0 0, .slice none 0 0, .slice none 0 0]) := Lib.hid (by rw [← hw0]; exact Bk.new w _ 32 rfl)
  have HS0 : Hid (w.heap.size < w0.heap.size) := Lib.hid (by rw [← hw0]; simp)
  have hb := hby w0
  clear hby
  by_cases hs : s = []
  case pos =>
    clear hb
    have HV : Hid (tokenR s = .ok noC) := Lib.hid (by unfold tokenR; exact if_pos hs)
    subst hs
    go_enter Tryz.func84, Tryz.ntmps84
    go_upto_region 2 with fail
    clear hw0
    obtain ⟨r0, rf0⟩ := HB0.out 0 _ rfl
    obtain ⟨r1, rf1⟩ := HB0.out 1 _ rfl
    obtain ⟨r2, rf2⟩ := HB0.out 2 _ rfl
    have HQ := Lib.hid (((HB0.out.set 0 (.slice none 0 0)).set 1 (.slice none 0 0)).set 2 (.slice none 0 0))
    have q0 := (HQ.out 0 _ rfl).1
    have q1 := (HQ.out 1 _ rfl).1
    have q2 := (HQ.out 2 _ rfl).1
    have HWF := Lib.hid (((HBW.out.setCell (p := ⟨w.heap.size, 0, none⟩) (Nat.le_refl _) (.slice none 0 0)).setCell (p := ⟨w.heap.size, 1, none⟩) (Nat.le_refl _) (.slice none 0 0)).setCell (p := ⟨w.heap.size, 2, none⟩) (Nat.le_refl _) (.slice none 0 0))
    go_wp2_with fail
    refine bodyPost_ret (v := .tuple #[.agg #[.slice none 0 0, .slice none 0 0, .slice none 0 0], .int .i64 0]) (by simp [results, Tryz.results84, go_sem, q0, q1, q2]; try rfl) rfl ?_
    refine ⟨HWF.out, ?_⟩
    exact .inl ⟨noC, _, HV.out, rfl, _, _, _, rfl, OwnS.nil _ _, OwnS.nil _ _, OwnS.nil _ _⟩
  have hsb : s.isEmpty = false := by simpa using hs
  have HNS := Lib.hid hs
  go_enter Tryz.func84, Tryz.ntmps84
  go_upto_region 3 with fail
  clear hw0
  go_wp2_with fail
  go_at_call 134
  refine hb.mono ?_
  clear hb
  rintro e w1 ⟨hb1, v, rfl, hv⟩
  have HW1 := Lib.hid (HBW.out.trans (hb1.mono (Nat.le_of_lt HS0.out)))
  have HB1 := Lib.hid (HB0.out.below hb1 HS0.out)
  have HS1 : Hid (w.heap.size < w1.heap.size) := Lib.hid (Nat.lt_of_lt_of_le HS0.out hb1.size)
  cases o with
  | none =>
    have HV2 := Lib.hid (tok_none HNS.out HO.out)
    clear hv hb1
    dsimp only [Option.isSome]
    obtain ⟨r0, rf0⟩ := HB1.out 0 _ rfl
    obtain ⟨r1, rf1⟩ := HB1.out 1 _ rfl
    obtain ⟨r2, rf2⟩ := HB1.out 2 _ rfl
    have HQ := Lib.hid (((HB1.out.set 0 (.slice none 0 0)).set 1 (.slice none 0 0)).set 2 (.slice none 0 0))
    have q0 := (HQ.out 0 _ rfl).1
    have q1 := (HQ.out 1 _ rfl).1
    have q2 := (HQ.out 2 _ rfl).1
    have HWF := Lib.hid (((HW1.out.setCell (p := ⟨w.heap.size, 0, none⟩) (Nat.le_refl _) (.slice none 0 0)).setCell (p := ⟨w.heap.size, 1, none⟩) (Nat.le_refl _) (.slice none 0 0)).setCell (p := ⟨w.heap.size, 2, none⟩) (Nat.le_refl _) (.slice none 0 0))
    go_wp2_with fail
    refine bodyPost_ret (v := .tuple #[.agg #[.slice none 0 0, .slice none 0 0, .slice none 0 0], .int .i64 150]) (by simp [results, Tryz.results84, go_sem, q0, q1, q2]; try rfl) rfl ?_
    refine ⟨HWF.out, ?_⟩
    exact .inr ⟨⟨150, HV2.out⟩, rfl⟩
  | some b =>
    dsimp only [Option.getD] at hv
    obtain ⟨A, cap, rfl, hrd⟩ := hv.rd
    have hmb : b.length ≤ 140737488355000 := by have := HLN.out b rfl; omega
    have hun := unframe_any A b.length cap b w1 hrd hmb
    unfold RetU at hun
    have HV2 := Lib.hid (tok_some HNS.out HO.out)
    have HUL : Hid ((unframe b).1.length ≤ 140737488355000) := Lib.hid (by have := unframe_len b; have := HLN.out b rfl; omega)
    obtain ⟨⟨p, q, c⟩, hu⟩ : ∃ y, unframe b = y := ⟨_, rfl⟩
    rw [hu] at hun HV2 HUL
    dsimp only at hun HV2 HUL
    clear hu hv hb1 hrd hmb
    dsimp only [Option.isSome]
    go_wp2_with fail
    go_at_call 135
    refine hun.mono ?_
    clear hun
    rintro e w2 ⟨A1, c1, A2, c2, rfl, hp, _, hb2⟩
    have HW2 := Lib.hid (HW1.out.trans (hb2.mono (Nat.le_of_lt HS1.out)))
    have HB2 := Lib.hid (HB1.out.below hb2 HS1.out)
    have HS2 : Hid (w.heap.size < w2.heap.size) := Lib.hid (Nat.lt_of_lt_of_le HS1.out hb2.size)
    have HP := Lib.hid hp
    clear hp hb2
    by_cases hc : c = 0
    case neg =>
      have hne : ((c : Int) != 0) = true := bne_iff_ne.2 (by omega)
      have HV3 := Lib.hid (HV2.out.trans (if_pos (.inl hc)))
      obtain ⟨r0, rf0⟩ := HB2.out 0 _ rfl
      obtain ⟨r1, rf1⟩ := HB2.out 1 _ rfl
      obtain ⟨r2, rf2⟩ := HB2.out 2 _ rfl
      have HQ := Lib.hid (((HB2.out.set 0 (.slice none 0 0)).set 1 (.slice none 0 0)).set 2 (.slice none 0 0))
      have q0 := (HQ.out 0 _ rfl).1
      have q1 := (HQ.out 1 _ rfl).1
      have q2 := (HQ.out 2 _ rfl).1
      have HWF := Lib.hid (((HW2.out.setCell (p := ⟨w.heap.size, 0, none⟩) (Nat.le_refl _) (.slice none 0 0)).setCell (p := ⟨w.heap.size, 1, none⟩) (Nat.le_refl _) (.slice none 0 0)).setCell (p := ⟨w.heap.size, 2, none⟩) (Nat.le_refl _) (.slice none 0 0))
      go_wp2_with fail
      refine bodyPost_ret (v := .tuple #[.agg #[.slice none 0 0, .slice none 0 0, .slice none 0 0], .int .i64 150]) (by simp [results, Tryz.results84, go_sem, q0, q1, q2]; try rfl) rfl ?_
      refine ⟨HWF.out, ?_⟩
      exact .inr ⟨⟨150, HV3.out⟩, rfl⟩
    subst hc
    by_cases hq : q = []
    case neg =>
      have hq2 : (0 : Int) < (q.length : Int) := by have := List.length_pos_iff.2 hq; omega
      have HV3 := Lib.hid (HV2.out.trans (if_pos (.inr hq)))
      obtain ⟨r0, rf0⟩ := HB2.out 0 _ rfl
      obtain ⟨r1, rf1⟩ := HB2.out 1 _ rfl
      obtain ⟨r2, rf2⟩ := HB2.out 2 _ rfl
      have HQ := Lib.hid (((HB2.out.set 0 (.slice none 0 0)).set 1 (.slice none 0 0)).set 2 (.slice none 0 0))
      have q0 := (HQ.out 0 _ rfl).1
      have q1 := (HQ.out 1 _ rfl).1
      have q2 := (HQ.out 2 _ rfl).1
      have HWF := Lib.hid (((HW2.out.setCell (p := ⟨w.heap.size, 0, none⟩) (Nat.le_refl _) (.slice none 0 0)).setCell (p := ⟨w.heap.size, 1, none⟩) (Nat.le_refl _) (.slice none 0 0)).setCell (p := ⟨w.heap.size, 2, none⟩) (Nat.le_refl _) (.slice none 0 0))
      go_wp2_with fail
      refine bodyPost_ret (v := .tuple #[.agg #[.slice none 0 0, .slice none 0 0, .slice none 0 0], .int .i64 150]) (by simp [results, Tryz.results84, go_sem, q0, q1, q2]; try rfl) rfl ?_
      refine ⟨HWF.out, ?_⟩
      exact .inr ⟨⟨150, HV3.out⟩, rfl⟩
    subst hq
    have HV3 := Lib.hid (HV2.out.trans (if_neg (by simp)))
    have hde := decode_any hI hMy A1 p.length c1 p w2 (HP.out.rdOf rfl) HUL.out
    unfold DecR at hde
    go_wp2_with fail
    go_at_call 136
    refine hde.mono ?_
    clear hde
    rintro e w3 ⟨hb3, hd⟩
    have HW3 := Lib.hid (HW2.out.trans (hb3.mono (Nat.le_of_lt HS2.out)))
    have HB3 := Lib.hid (HB2.out.below hb3 HS2.out)
    have HS3 : Hid (w.heap.size < w3.heap.size) := Lib.hid (Nat.lt_of_lt_of_le HS2.out hb3.size)
    cases hdl : decodeL p with
    | error k =>
      rw [hdl] at hd
      obtain ⟨c, hc, rfl⟩ := hd
      have hne : ((c : Int) != 0) = true := bne_iff_ne.2 (by omega)
      have HV4 : Hid (tokenR s = .error 150) := Lib.hid (by rw [HV3.out, hdl])
      clear hdl hb3
      have HW := Lib.hid (HW3.out.alloc HW3.out.size (.cells #[.slice none 0 0, .slice none 0 0, .slice none 0 0] 32))
      have HB := Lib.hid (HB3.out.alloc (.cells #[.slice none 0 0, .slice none 0 0, .slice none 0 0] 32) HS3.out)
      obtain ⟨r0, rf0⟩ := HB.out 0 _ rfl
      obtain ⟨r1, rf1⟩ := HB.out 1 _ rfl
      obtain ⟨r2, rf2⟩ := HB.out 2 _ rfl
      have HQ := Lib.hid (((HB.out.set 0 (.slice none 0 0)).set 1 (.slice none 0 0)).set 2 (.slice none 0 0))
      have q0 := (HQ.out 0 _ rfl).1
      have q1 := (HQ.out 1 _ rfl).1
      have q2 := (HQ.out 2 _ rfl).1
      have HWF := Lib.hid (((HW.out.setCell (p := ⟨w.heap.size, 0, none⟩) (Nat.le_refl _) (.slice none 0 0)).setCell (p := ⟨w.heap.size, 1, none⟩) (Nat.le_refl _) (.slice none 0 0)).setCell (p := ⟨w.heap.size, 2, none⟩) (Nat.le_refl _) (.slice none 0 0))
      go_wp2_with fail
      refine bodyPost_ret (v := .tuple #[.agg #[.slice none 0 0, .slice none 0 0, .slice none 0 0], .int .i64 150]) (by simp [results, Tryz.results84, go_sem, q0, q1, q2]; try rfl) rfl ?_
      refine ⟨HWF.out, ?_⟩
      exact .inr ⟨⟨150, HV4.out⟩, rfl⟩
    | ok k =>
      rw [hdl] at hd
      obtain ⟨v, rfl, ev, mv, cv, rfl, he, hm, hcl⟩ := hd
      obtain ⟨A1, d1, rfl⟩ := he.form
      obtain ⟨A2, d2, rfl⟩ := hm.form
      obtain ⟨A3, d3, rfl⟩ := hcl.form
      have HE := Lib.hid he
      have HM := Lib.hid hm
      have HC := Lib.hid hcl
      have HV4 : Hid (tokenR s = .ok k) := Lib.hid (by rw [HV3.out, hdl])
      clear hdl hb3 he hm hcl
      obtain ⟨w4, hw4⟩ : ∃ y, w3.alloc (.cells #[.slice A1 k.es.length d1, .slice A2 k.x.ms.length d2, .slice A3 k.x.cl.length d3] 32) = y := ⟨_, rfl⟩
      have HW : Hid (Below w.heap.size w w4) := Lib.hid (by rw [← hw4]; exact HW3.out.alloc HW3.out.size _)
      have HB : Hid (Bk w4 w.heap.size [.slice none 0 0, .slice none 0 0, .slice none 0 0]) := Lib.hid (by rw [← hw4]; exact HB3.out.alloc _ HS3.out)
      have HX : Hid (Bk w4 w3.heap.size [.slice A1 k.es.length d1, .slice A2 k.x.ms.length d2, .slice A3 k.x.cl.length d3]) := Lib.hid (by rw [← hw4]; exact Bk.new w3 _ 32 rfl)
      have HEa : Hid (OwnS 92 6 entC w4 w2.heap.size (.slice A1 k.es.length d1) k.es) := Lib.hid (by rw [← hw4]; exact HE.out.below ((Below.refl w3.heap.size w3).alloc (Nat.le_refl _) _) (Nat.le_refl _))
      have HMa : Hid (OwnS 150 3 dotC w4 w2.heap.size (.slice A2 k.x.ms.length d2) k.x.ms) := Lib.hid (by rw [← hw4]; exact HM.out.below ((Below.refl w3.heap.size w3).alloc (Nat.le_refl _) _) (Nat.le_refl _))
      have HCa : Hid (OwnS 90 3 dotC w4 w2.heap.size (.slice A3 k.x.cl.length d3) k.x.cl) := Lib.hid (by rw [← hw4]; exact HC.out.below ((Below.refl w3.heap.size w3).alloc (Nat.le_refl _) _) (Nat.le_refl _))
      go_upto_region 12 with fail
      clear hw4
      obtain ⟨y0, yf0⟩ := HX.out 0 _ rfl
      obtain ⟨y1, yf1⟩ := HX.out 1 _ rfl
      obtain ⟨y2, yf2⟩ := HX.out 2 _ rfl
      obtain ⟨r0, rf0⟩ := HB.out 0 _ rfl
      obtain ⟨r1, rf1⟩ := HB.out 1 _ rfl
      obtain ⟨r2, rf2⟩ := HB.out 2 _ rfl
      have HQ := Lib.hid (((HB.out.set 0 (.slice A1 k.es.length d1)).set 1 (.slice A2 k.x.ms.length d2)).set 2 (.slice A3 k.x.cl.length d3))
      have q0 := (HQ.out 0 _ rfl).1
      have q1 := (HQ.out 1 _ rfl).1
      have q2 := (HQ.out 2 _ rfl).1
      have HWF := Lib.hid (((HW.out.setCell (p := ⟨w.heap.size, 0, none⟩) (Nat.le_refl _) (.slice A1 k.es.length d1)).setCell (p := ⟨w.heap.size, 1, none⟩) (Nat.le_refl _) (.slice A2 k.x.ms.length d2)).setCell (p := ⟨w.heap.size, 2, none⟩) (Nat.le_refl _) (.slice A3 k.x.cl.length d3))
      go_wp2_with fail
      refine bodyPost_ret (v := .tuple #[.agg #[.slice A1 k.es.length d1, .slice A2 k.x.ms.length d2, .slice A3 k.x.cl.length d3], .int .i64 0]) (by simp [results, Tryz.results84, go_sem, q0, q1, q2]; try rfl) rfl ?_
      refine ⟨HWF.out, ?_⟩
      exact .inl ⟨k, _, HV4.out, rfl, _, _, _, rfl, (((HEa.out.setCell (p := ⟨w.heap.size, 0, none⟩) HS2.out (.slice A1 k.es.length d1)).setCell (p := ⟨w.heap.size, 1, none⟩) HS2.out (.slice A2 k.x.ms.length d2)).setCell (p := ⟨w.heap.size, 2, none⟩) HS2.out (.slice A3 k.x.cl.length d3)).base (Nat.le_of_lt HS2.out), (((HMa.out.setCell (p := ⟨w.heap.size, 0, none⟩) HS2.out (.slice A1 k.es.length d1)).setCell (p := ⟨w.heap.size, 1, none⟩) HS2.out (.slice A2 k.x.ms.length d2)).setCell (p := ⟨w.heap.size, 2, none⟩) HS2.out (.slice A3 k.x.cl.length d3)).base (Nat.le_of_lt HS2.out), (((HCa.out.setCell (p := ⟨w.heap.size, 0, none⟩) HS2.out (.slice A1 k.es.length d1)).setCell (p := ⟨w.heap.size, 1, none⟩) HS2.out (.slice A2 k.x.ms.length d2)).setCell (p := ⟨w.heap.size, 2, none⟩) HS2.out (.slice A3 k.x.cl.length d3)).base (Nat.le_of_lt HS2.out)⟩
end Go.Proofs.YtpdedfpacklnoaaGreatDoor
