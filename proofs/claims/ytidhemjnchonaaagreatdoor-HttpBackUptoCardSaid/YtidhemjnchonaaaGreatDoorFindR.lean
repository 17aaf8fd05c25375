/- Contracts of the document's small and Find; the law HttpTells, walked. -/
import Derived.Test.YtidhemjnchonaaaGreatDoorFind
import Derived.Test.YtidhemjnchonaaaGreatDoorReason
namespace Go.Proofs.YtidhemjnchonaaaGreatDoor
open Go.RowKit Go.BL

theorem capitalR_any (c : UInt8) (w : World) : Calls Tryz.prog 60 #[.int .u8 (c.toNat : Int)] w fun e w' => e = .returned (.bool (cap c)) ∧ w = w' := by
  go_enter Tryz.func60, Tryz.ntmps60
  go_wp2
  all_goals go_ret
  all_goals (refine ⟨congrArg (fun b => Ending.returned (Value.bool b)) ?_, rfl⟩; rw [Bool.eq_iff_iff]; simp [cap]; omega)
set_option maxRecDepth 100000 in
theorem smallR_any (s : List UInt8) (hs : s.length ≤ 140737488355328) (w : World) : Calls Tryz.prog 33 #[.string ⟨s.toArray⟩] w (RetV (.string ⟨(smallL s).toArray⟩) w) := by
  obtain ⟨w1, c, hc, hr, hb, hsz⟩ := conv_in s w
  obtain ⟨b, hb0⟩ : ∃ b, w.heap.size = b := ⟨_, rfl⟩
  rw [hb0] at hc hr hb hsz
  have H0 := Lib.hid hb0
  have HR := Lib.hid hr
  have HB := Lib.hid hb
  have HS := Lib.hid hsz
  clear hb0 hr hb hsz
  go_enter Tryz.func33, Tryz.ntmps33
  go_wp2_with fail
  go_loopw [4] (fun i wr => ∃ k : Nat, k ≤ s.length ∧ i = .int .i64 (k : Int) ∧ Hid (Row wr b (upto s k)) ∧ Hid (Below b w wr) ∧ Hid (b < wr.heap.size)) (fun i _ => s.length - (intOf i).toNat)
  case atStart => exact ⟨0, by omega, rfl, HR, HB, HS⟩
  case round =>
    obtain ⟨k, hk, rfl, HRk, HBk, HSk⟩ := hrel
    have Hlen := Lib.hid (upto_len s k hk)
    by_cases hlt : k < s.length
    · obtain ⟨x, hx⟩ : ∃ x, s[k]'hlt = x := ⟨_, rfl⟩
      have h1 := HRk.out k (by rw [Hlen.out]; exact hlt)
      rw [upto_get s k hlt (by rw [Hlen.out]; exact hlt), hx] at h1
      obtain ⟨hc1, hf1⟩ := h1
      obtain ⟨u, hu⟩ : ∃ u, cap x = u := ⟨_, rfl⟩
      have hcap := capitalR_any x
      rw [hu] at hcap
      have Hx := Lib.hid hx
      cases u
      · have Hn : Hid (upto s k = upto s (k + 1)) := Lib.hid (by
          rw [← upto_next s k hlt, Hx.out, low_not hu]
          have : x = (upto s k)[k]'(by rw [Hlen.out]; exact hlt) := by rw [upto_get s k hlt, Hx.out]
          conv => rhs; rw [this]
          exact (List.set_getElem_self _).symm)
        clear hu hx
        go_wp2_with (go_at_call 60; refine (hcap _).mono ?_; rintro e w' ⟨rfl, rfl⟩)
        exact ⟨⟨k + 1, by omega, by go_num, by rw [← Hn.out]; exact HRk, HBk, HSk⟩, by simp [intOf]; omega⟩
      · have hw := low_cap hu
        obtain ⟨y, hy⟩ : ∃ y, low x = y := ⟨_, rfl⟩
        rw [hy] at hw
        have Hn : Hid ((upto s k).set k y = upto s (k + 1)) := Lib.hid (by rw [← upto_next s k hlt, Hx.out, hy])
        clear hu hx hy
        go_wp2_with (go_at_call 60; refine (hcap _).mono ?_; rintro e w' ⟨rfl, rfl⟩)
        exact ⟨⟨k + 1, by omega, by go_num, by rw [← Hn.out]; exact Lib.hid (HRk.out.set k (by rw [Hlen.out]; exact hlt) y), Lib.hid (HBk.out.setCell (Nat.le_refl _) _), Lib.hid (by simpa using HSk.out)⟩, by simp [intOf]; omega⟩
    · have hout := HRk.out.out s.length c Hlen.out.symm
      rw [upto_end s k (by omega)] at hout
      go_wp2_with fail
      go_ret
      exact ⟨rfl, by rw [H0.out]; exact HBk.out⟩
set_option maxHeartbeats 1000000 in
set_option maxRecDepth 100000 in
theorem findR_any (hs : List Hdr) (name : List UInt8) (v : Value) (w : World) (hv : Hdrs w v hs) (hn : name.length ≤ 140737488355328) (hl : ∀ h ∈ hs, h.1.length ≤ 140737488355328) :
    Calls Tryz.prog 13 #[v, .string ⟨name.toArray⟩] w (RetV (findV (findL hs name)) w) := by
  obtain ⟨hmax, A, c, rfl, hcells⟩ := hv
  have hs1 := smallR_any name hn
  have HL := Lib.hid hl
  have HC := Lib.hid hcells
  clear hcells hl hn
  go_enter Tryz.func13, Tryz.ntmps13
  go_wp2_with fail
  go_loopw [6] (fun i wr => ∃ k : Nat, k ≤ hs.length ∧ i = .int .i64 (k : Int) ∧ Hid (∀ x ∈ hs.take k, hit name x = false) ∧ Hid (Below w.heap.size w wr)) (fun i _ => hs.length - (intOf i).toNat)
  case atStart => exact ⟨0, by omega, rfl, Lib.hid (fun x hx => by simp at hx), Lib.hid (Below.refl _ _)⟩
  case round =>
    obtain ⟨k, hk, rfl, HA, HB⟩ := hrel
    by_cases hlt : k < hs.length
    · obtain ⟨b, off, rfl, hbl, hc⟩ := HC.out (by omega)
      obtain ⟨c1, c2⟩ := hc k hlt
      obtain ⟨⟨n, x⟩, hx⟩ : ∃ x, hs[k]'hlt = x := ⟨_, rfl⟩
      rw [hx] at c1 c2
      have d1 := (HB.out.cell (p := ⟨b, off + k * 2, none⟩) hbl).trans c1
      have d2 := (HB.out.cell (p := ⟨b, off + k * 2 + 1, none⟩) hbl).trans c2
      have hs2 := smallR_any n (HL.out (n, x) (by rw [← hx]; exact List.getElem_mem hlt))
      have HX := Lib.hid hx
      have HC2 := Lib.hid c2
      have HBL := Lib.hid hbl
      clear hx hc c1 c2
      obtain ⟨u1, hu1⟩ : ∃ u, smallL n = u := ⟨_, rfl⟩
      obtain ⟨u2, hu2⟩ : ∃ u, smallL name = u := ⟨_, rfl⟩
      rw [hu1] at hs2
      rw [hu2] at hs1
      have HU : Hid (hit name (n, x) = (u1 == u2)) := Lib.hid (by unfold hit; rw [hu1, hu2])
      clear hu1 hu2
      obtain ⟨q, hq⟩ : ∃ q, (u1 == u2) = q := ⟨_, rfl⟩
      have HQ := Lib.hid hq
      have hq' := hq
      clear hq
      cases q
      · have HA2 : Hid (∀ y ∈ hs.take (k + 1), hit name y = false) := Lib.hid (by
          intro y hy
          rw [List.take_succ_eq_append_getElem hlt, List.mem_append, List.mem_singleton] at hy
          rcases hy with hy | rfl
          · exact HA.out y hy
          · rw [HX.out, HU.out, HQ.out])
        go_wp2_with fail
        go_at_call 33
        refine (hs2 _).mono ?_
        rintro e w3 ⟨rfl, hb⟩
        have HB3 := Lib.hid (HB.out.trans (hb.mono HB.out.size))
        clear hb
        go_wp2_with fail
        go_at_call 33
        refine (hs1 _).mono ?_
        rintro e w4 ⟨rfl, hb⟩
        have HB4 := Lib.hid (HB3.out.trans (hb.mono HB3.out.size))
        clear hb
        go_wp2_with fail
        exact ⟨⟨k + 1, by omega, by go_num, HA2, HB4⟩, by simp [intOf]; omega⟩
      · have HF : Hid (findL hs name = some x) := Lib.hid (by
          have := find_take HA.out hlt (by rw [HX.out, HU.out, HQ.out])
          rw [this, HX.out])
        go_wp2_with fail
        go_at_call 33
        refine (hs2 _).mono ?_
        rintro e w3 ⟨rfl, hb⟩
        have HB3 := Lib.hid (HB.out.trans (hb.mono HB.out.size))
        clear hb
        go_wp2_with fail
        go_at_call 33
        refine (hs1 _).mono ?_
        rintro e w4 ⟨rfl, hb⟩
        have HB4 := Lib.hid (HB3.out.trans (hb.mono HB3.out.size))
        have q2 := (HB4.out.cell (p := ⟨b, off + k * 2 + 1, none⟩) HBL.out).trans HC2.out
        clear hb
        go_wp2_with fail
        go_ret2
        exact ⟨by rw [HF.out]; rfl, HB4.out⟩
    · have HF : Hid (findL hs name = none) := Lib.hid (find_none (by have := HA.out; rwa [List.take_of_length_le (by omega)] at this))
      go_wp2_with fail
      go_ret2
      exact ⟨by rw [HF.out]; rfl, HB.out⟩
set_option maxHeartbeats 1000000 in
set_option maxRecDepth 100000 in
theorem tells_any (n : Int) (hs : List Hdr) (name : List UInt8) (v : Value) (w : World) (hv : Hdrs w v hs) (hn : name.length ≤ 140737488355328) (hl : ∀ h ∈ hs, h.1.length ≤ 140737488355328) (he : Env w) (ht : Tab w) :
    Calls Tryz.prog 3 #[.int .i64 n, v, .string ⟨name.toArray⟩] w (RetV (.bool true) w) := by
  have h1 := find_any hs name v w hv hn hl
  have h2 := fun w (hv : Hdrs w v hs) => findR_any hs name v w hv hn hl
  have h3 := reason_any n
  have h4 := reasonR_any n
  have h5 := awake_any
  have HV := Lib.hid hv
  have HE := Lib.hid he
  have HT := Lib.hid ht
  clear hv hn hl he ht
  generalize findL hs name = r at *
  obtain ⟨x, hx⟩ : ∃ x : List UInt8, r.getD [] = x := ⟨_, rfl⟩
  obtain ⟨u, hu⟩ : ∃ u, r.isSome = u := ⟨_, rfl⟩
  have e : findV r = .tuple #[.string ⟨x.toArray⟩, .bool u] := by unfold findV; rw [hx, hu]
  rw [e] at h1 h2
  clear e hx hu
  generalize reasonL n = q at *
  go_enter Tryz.func3, Tryz.ntmps3
  go_wp2_with (first
    | (go_at_call 12; refine h1.mono ?_; rintro e w1 ⟨rfl, hb⟩; have HB1 := Lib.hid hb; clear hb)
    | (go_at_call 13; refine (h2 _ (HV.out.below HB1.out (Nat.le_refl _))).mono ?_; rintro e w2 ⟨rfl, hb⟩; have HB2 := Lib.hid (HB1.out.trans (hb.mono HB1.out.size)); clear hb)
    | (go_at_call 14; refine (h3 _).mono ?_; rintro e w' ⟨rfl, rfl⟩)
    | (go_at_call 15; refine (h4 _).mono ?_; rintro e w' ⟨rfl, rfl⟩)
    | (go_at_call 16; refine (h5 _ (HE.out.below HB2.out) (HT.out.below HB2.out)).mono ?_; rintro e w3 ⟨rfl, hb⟩; have HB3 := Lib.hid (HB2.out.trans (hb.mono HB2.out.size)); clear hb))
  all_goals go_ret
  all_goals exact ⟨by simp, HB3.out⟩
end Go.Proofs.YtidhemjnchonaaaGreatDoor
