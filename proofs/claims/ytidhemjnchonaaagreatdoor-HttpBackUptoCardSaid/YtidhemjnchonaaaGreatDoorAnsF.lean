/- The laws HttpBack and HttpForm, walked. -/
import Derived.Test.YtidhemjnchonaaaGreatDoorAnsE
import Derived.Test.YtidhemjnchonaaaGreatDoorAwake
import Derived.Test.YtidhemjnchonaaaGreatDoorEq
namespace Go.Proofs.YtidhemjnchonaaaGreatDoor
open Go.RowKit Go.BL

theorem write_err {a : Ans} {c : Int} (h : writeL a = .error c) : c ≠ 0 := by
  unfold writeL at h
  split at h
  · injection h with h; subst h; decide
  split at h
  · injection h with h; subst h; decide
  split at h
  · injection h with h; subst h; decide
  split at h
  · injection h with h; subst h; decide
  split at h
  · injection h with h; subst h; decide
  · cases h
theorem write_form {a : Ans} {bs : List UInt8} (h : writeL a = .ok bs) : bs = headA a ++ a.b ∧ reasonL a.st ≠ [] := by
  unfold writeL at h
  split at h
  · cases h
  rename_i h0
  split at h
  · cases h
  split at h
  · cases h
  split at h
  · cases h
  split at h
  · cases h
  injection h with h
  exact ⟨h.symm, h0⟩
theorem status_range {n : Int} (h : n ∈ statuses) : -9223372036854775808 ≤ n ∧ n ≤ 9223372036854775807 := by
  have : ∀ n ∈ statuses, -9223372036854775808 ≤ n ∧ n ≤ 9223372036854775807 := by decide
  exact this n h
theorem sameA_refl (a : Ans) : sameA a a = true := by simp [sameA]
set_option maxHeartbeats 4000000 in
set_option maxRecDepth 100000 in
theorem back_law (a : Ans) (u : Value) (w : World) (hd : Hdrs w u a.hs) (hst : -9223372036854775808 ≤ a.st ∧ a.st ≤ 9223372036854775807) (hbl : a.b.length ≤ 268435456) (hl : (headA a).length ≤ 268435456) (he : Env w) (ht : Tab w) (hr : Errs w) :
    Calls Tryz.prog 10 #[ansV a u] w (RetV (.bool true) w) := by
  obtain ⟨A, c, rfl⟩ := hd.form
  have hwr := fun w hd ht => write_any a (.slice A a.hs.length c) w hd ht hst (by omega) (by omega)
  have haw := awake_any
  obtain ⟨X, hX⟩ : ∃ x, writeL a = x := ⟨_, rfl⟩
  rw [hX] at hwr
  have hsr := fun w' v1 v2 h1 h2 => sameA_any a a v1 v2 w' h1 h2
  rw [sameA_refl] at hsr
  have hwf := fun bs (h : X = .ok bs) => write_form (hX.trans h)
  have hre := fun bs (h : X = .ok bs) => write_read (hX.trans h)
  have hwe := fun c (h : X = .error c) => write_err (hX.trans h)
  clear hX
  obtain ⟨n, hs, b⟩ := a
  dsimp only [ansV] at hwr hsr hbl hd ⊢
  obtain ⟨w0, hw0⟩ : ∃ w0, w.alloc (.cells #[.int .i64 n, .slice A hs.length c, .string ⟨b.toArray⟩] 53) = w0 := ⟨_, rfl⟩
  have HK : Hid (B3 w0 w.heap.size (.int .i64 n) (.slice A hs.length c) (.string ⟨b.toArray⟩)) := Lib.hid (by rw [← hw0]; exact B3.new w _ _ _ _)
  have HB : Hid (Below w.heap.size w w0) := Lib.hid (by rw [← hw0]; exact (Below.refl _ _).alloc (Nat.le_refl _) _)
  have HS : Hid (w.heap.size < w0.heap.size) := Lib.hid (by rw [← hw0]; simp)
  have HD := Lib.hid (hd.below HB.out (Nat.le_refl _))
  have HE := Lib.hid he
  have HT := Lib.hid ht
  have HR := Lib.hid hr
  have HLB := Lib.hid hbl
  have HLH := Lib.hid hl
  obtain ⟨q0, q1, q2, -, -, -⟩ := HK.out
  clear hd he ht hr hbl hl hst
  unfold WriR at hwr
  cases X with
  | error c' =>
    simp only at hwr
    have hc0 := hwe c' rfl
    clear hwf hre hwe hsr
    go_enter Tryz.func10, Tryz.ntmps10
    go_wp2_with (first
      | (go_at_call 29; refine (hwr _ HD.out (HT.out.below HB.out)).mono ?_; rintro e w1 ⟨hb, rfl⟩; have HB1 := Lib.hid (HB.out.trans (hb.mono HB.out.size)); clear hb)
      | (go_at_call 16; refine (haw _ (HE.out.below HB1.out) (HT.out.below HB1.out)).mono ?_; rintro e w7 ⟨rfl, hb⟩; have HB7 := Lib.hid (HB1.out.trans (hb.mono HB1.out.size)); clear hb))
    go_ret
    exact ⟨rfl, HB7.out⟩
  | ok bs =>
    simp only at hwr
    have hr1 := hre bs rfl
    obtain ⟨hbs, -⟩ := hwf bs rfl
    have HLS : Hid (bs.length ≤ 536870912) := Lib.hid (by rw [hbs, List.length_append]; have := HLB.out; have := HLH.out; dsimp only at *; omega)
    clear hwf hre hwe hbs
    go_enter Tryz.func10, Tryz.ntmps10
    go_wp2_with (go_at_call 29; refine (hwr _ HD.out (HT.out.below HB.out)).mono ?_; rintro e w1 ⟨hb, v1, rfl, hv1⟩; obtain ⟨A1, c1, rfl⟩ := hv1.form; have HB1 := Lib.hid (HB.out.trans (hb.mono HB.out.size)); have HK1 := Lib.hid (HK.out.below hb HS.out); have HD1 := Lib.hid (HD.out.below hb (Nat.le_refl _)); have HV1 := Lib.hid hv1; have HS1 := Lib.hid (Nat.lt_of_lt_of_le HS.out hb.size); clear hb hv1 hwr)
    go_at_call 30
    refine (read_any _ bs _ HV1.out HLS.out (HE.out.below HB1.out) (HT.out.below HB1.out) (HR.out.below HB1.out)).mono ?_
    rw [hr1]
    rintro e w2 ⟨hb2, h2, rfl, hd2⟩
    obtain ⟨A2, c2, rfl⟩ := hd2.form
    dsimp only [ansV] at hd2 ⊢
    obtain ⟨w3, hw3⟩ : ∃ w3, w2.alloc (.cells #[.int .i64 n, .slice A2 hs.length c2, .string ⟨b.toArray⟩] 53) = w3 := ⟨_, rfl⟩
    have hb3 : Below w2.heap.size w2 w3 := by rw [← hw3]; exact (Below.refl _ _).alloc (Nat.le_refl _) _
    have hk3 : B3 w3 w2.heap.size (.int .i64 n) (.slice A2 hs.length c2) (.string ⟨b.toArray⟩) := by rw [← hw3]; exact B3.new w2 _ _ _ _
    have hb4 := hb2.trans (hb3.mono hb2.size)
    have HB3 := Lib.hid (HB1.out.trans (hb4.mono HB1.out.size))
    have HD3 := Lib.hid (HD1.out.below hb4 (Nat.le_refl _))
    have HU3 := Lib.hid (hd2.below hb3 (Nat.le_refl _))
    have HK3 := Lib.hid (HK1.out.below hb4 HS1.out)
    obtain ⟨k0, k1, k2, -, -, -⟩ := HK3.out
    obtain ⟨m0, m1, m2, -, -, -⟩ := hk3
    clear hb2 hb3 hb4 hd2 hr1 q0 q1 q2 hw0
    go_wp2_with (first
      | (go_at_call 31; refine (hsr _ _ _ HD3.out HU3.out).mono ?_; rintro e w6 ⟨rfl, hb⟩; have HB6 := Lib.hid (HB3.out.trans (hb.mono HB3.out.size)); clear hb)
      | (go_at_call 16; refine (haw _ (HE.out.below HB6.out) (HT.out.below HB6.out)).mono ?_; rintro e w7 ⟨rfl, hb⟩; have HB7 := Lib.hid (HB6.out.trans (hb.mono HB6.out.size)); clear hb))
    go_ret
    exact ⟨rfl, HB7.out⟩
theorem hdrs_nil (w : World) : Hdrs w (.slice none 0 0) [] := ⟨by decide, none, 0, rfl, fun h => absurd h (by decide)⟩
set_option maxHeartbeats 4000000 in
set_option maxRecDepth 100000 in
theorem form_law (v : Value) (b : List UInt8) (w : World) (hv : Bsl w v b) (hb : b.length ≤ 268435456) (he : Env w) (ht : Tab w) (hr : Errs w) :
    Calls Tryz.prog 11 #[v] w (RetV (.bool true) w) := by
  have hcl := clone_any v b w hv
  have HV := Lib.hid hv
  have HE := Lib.hid he
  have HT := Lib.hid ht
  have HR := Lib.hid hr
  have HLB := Lib.hid hb
  have haw := awake_any
  have heq := fun v1 w h1 h2 => equal_bs v v1 b b w h1 h2
  simp only [decide_true] at heq
  clear hv he ht hr hb
  go_enter Tryz.func11, Tryz.ntmps11
  go_wp2_with (go_at_call 18; refine hcl.mono ?_; rintro e w1 ⟨v1, rfl, hb1, hb⟩; have HV1 := Lib.hid hb1; have HB1 := Lib.hid hb; clear hb1 hb hcl)
  go_at_call 30
  refine (read_any _ b _ HV1.out (by have := HLB.out; omega) (HE.out.below HB1.out) (HT.out.below HB1.out) (HR.out.below HB1.out)).mono ?_
  cases hp : readL b with
  | error c =>
    rintro e w2 ⟨hb2, rfl⟩
    have hc0 := read_err hp
    have HB2 := Lib.hid (HB1.out.trans (hb2.mono HB1.out.size))
    have HB3 := Lib.hid (HB2.out.alloc HB2.out.size (.cells #[.int .i64 0, .slice none 0 0, .string ⟨#[]⟩] 53))
    obtain ⟨m0, m1, m2, -, -, -⟩ := B3.new w2 (.int .i64 0) (.slice none 0 0) (.string ⟨#[]⟩) 53
    have hsr := fun w => sameA_any ⟨0, [], []⟩ ⟨0, [], []⟩ (.slice none 0 0) (.slice none 0 0) w (hdrs_nil w) (hdrs_nil w)
    rw [sameA_refl] at hsr
    dsimp only [ansV] at hsr
    clear hb2 hp
    go_wp2_with (first
      | (go_at_call 31; refine (hsr _).mono ?_; rintro e w6 ⟨rfl, hb⟩; have HB6 := Lib.hid (HB3.out.trans (hb.mono HB3.out.size)); clear hb)
      | (go_at_call 16; refine (haw _ (HE.out.below HB6.out) (HT.out.below HB6.out)).mono ?_; rintro e w7 ⟨rfl, hb⟩; have HB7 := Lib.hid (HB6.out.trans (hb.mono HB6.out.size)); clear hb))
    go_ret
    exact ⟨rfl, HB7.out⟩
  | ok a =>
    rintro e w2 ⟨hb2, h2, rfl, hd2⟩
    obtain ⟨A2, c2, rfl⟩ := hd2.form
    have hw := read_write hp
    obtain ⟨hbs, hrs⟩ := write_form hw
    have hlen : b.length = (headA a).length + a.b.length := by
      conv => lhs; rw [hbs]
      exact List.length_append
    have hb0 := HLB.out
    have hwr := fun w hd ht => write_any a (.slice A2 a.hs.length c2) w hd ht (status_range (reason_in hrs)) (by omega) (by omega)
    rw [hw] at hwr
    unfold WriR at hwr
    clear hw hbs hrs hlen hb0
    obtain ⟨n, hs, y⟩ := a
    dsimp only [ansV] at hwr hd2 ⊢
    obtain ⟨w3, hw3⟩ : ∃ w3, w2.alloc (.cells #[.int .i64 n, .slice A2 hs.length c2, .string ⟨y.toArray⟩] 53) = w3 := ⟨_, rfl⟩
    have hb3 : Below w2.heap.size w2 w3 := by rw [← hw3]; exact (Below.refl _ _).alloc (Nat.le_refl _) _
    have hk3 : B3 w3 w2.heap.size (.int .i64 n) (.slice A2 hs.length c2) (.string ⟨y.toArray⟩) := by rw [← hw3]; exact B3.new w2 _ _ _ _
    have HB3 := Lib.hid (HB1.out.trans ((hb2.trans (hb3.mono hb2.size)).mono HB1.out.size))
    have HD3 := Lib.hid (hd2.below hb3 (Nat.le_refl _))
    obtain ⟨m0, m1, m2, -, -, -⟩ := hk3
    clear hb2 hb3 hd2 hp
    go_wp2_with (first
      | (go_at_call 29; refine (hwr _ HD3.out (HT.out.below HB3.out)).mono ?_; rintro e w4 ⟨hb, v4, rfl, hv4⟩; obtain ⟨A4, c4, rfl⟩ := hv4.form; have HB4 := Lib.hid (HB3.out.trans (hb.mono HB3.out.size)); have HV4 := Lib.hid hv4; clear hb hv4 hwr)
      | (go_at_call 22; refine (heq _ _ (HV.out.below HB4.out (Nat.le_refl _)) HV4.out).mono ?_; rintro e w6 ⟨rfl, hb⟩; have HB6 := Lib.hid (HB4.out.trans (hb.mono HB4.out.size)); clear hb)
      | (go_at_call 16; refine (haw _ (HE.out.below HB6.out) (HT.out.below HB6.out)).mono ?_; rintro e w7 ⟨rfl, hb⟩; have HB7 := Lib.hid (HB6.out.trans (hb.mono HB6.out.size)); clear hb))
    go_ret
    exact ⟨rfl, HB7.out⟩
end Go.Proofs.YtidhemjnchonaaaGreatDoor
