/- Contract of the document's first. -/
import Derived.Test.YtidhemjnchonaaaGreatDoorRefB
namespace Go.Proofs.YtidhemjnchonaaaGreatDoor
open Go.RowKit Go.BL

def firV : Except Int (List UInt8 × List UInt8) → Value
  | .ok (m, t) => .tuple #[.string ⟨m.toArray⟩, .string ⟨t.toArray⟩, .int .i64 0]
  | .error c => .tuple #[.string ⟨#[]⟩, .string ⟨#[]⟩, .int .i64 c]
def FirR (r : Except Int (List UInt8 × List UInt8)) (w : World) (e : Ending) (w' : World) : Prop := w = w' ∧ e = .returned (firV r)
theorem eight {v : List UInt8} (h : v.length = 8) : ∃ a b c d e f g x, v = [a, b, c, d, e, f, g, x] := by
  match v, h with
  | [a, b, c, d, e, f, g, x], _ => exact ⟨a, b, c, d, e, f, g, x, rfl⟩
theorem ver_eq {v : List UInt8} (h : v.length = 8) (f g x : UInt8) (hf : v[5]? = some f) (hg : v[6]? = some g) (hx : v[7]? = some x) : verL v = (v.take 5 == httpP && dig f && (g == 46) && dig x) := by
  obtain ⟨a, b, c, d, e, f', g', x', rfl⟩ := eight h
  simp at hf hg hx
  subst hf hg hx
  unfold verL
  simp only [Lib.hasPrefix, httpP, List.take]
  rw [Bool.eq_iff_iff]
  simp [List.isPrefixOf]
  intros
  constructor
  · rintro ⟨rfl, rfl, rfl, rfl, rfl⟩; simp
  · rintro ⟨rfl, rfl, rfl, rfl, rfl⟩; simp
theorem ver_short {v : List UInt8} (h : ¬ v.length = 8) : verL v = false := by
  unfold verL
  split
  · simp at h
  · rfl
theorem at_of {s : List UInt8} {k : Nat} {x : UInt8} (h : s[k]? = some x) : ∀ hk : k < (⟨s.toArray⟩ : ByteArray).size, (⟨s.toArray⟩ : ByteArray)[k]'hk = x := by
  intro hk
  have h1 : k < s.length := hk
  have : s[k]'h1 = x := by rw [List.getElem?_eq_getElem h1] at h; exact Option.some.inj h
  exact this
set_option maxHeartbeats 4000000 in
set_option maxRecDepth 100000 in
theorem firstR_any (s : List UInt8) (hs : s.length ≤ 1073741824) (w : World) : Calls Tryz.prog 45 #[.string ⟨s.toArray⟩] w (FirR (firstL s) w) := by
  obtain ⟨L, hL⟩ : ∃ L, firstL s = L := ⟨_, rfl⟩
  rw [hL]
  have f1 : ∀ w, Calls Tryz.prog 43 #[.string ⟨s.toArray⟩, .string ⟨#[32]⟩, .int .i64 0] w fun e w' => e = .returned (.int .i64 (findFrom s [32] 0)) ∧ w = w' := fun w => findR_at s [32] 0 hs (by simp) (by simp) (by decide) w
  rcases findFrom_is s [32] 0 with h1 | ⟨a, h1⟩
  · rw [first_one h1] at hL
    subst hL
    rw [h1] at f1
    clear h1
    go_enter Tryz.func45, Tryz.ntmps45
    go_wp2_with fail
    (go_at_call 43; refine (f1 _).mono ?_; rintro e w' ⟨rfl, rfl⟩)
    go_wp2_with fail
    go_ret3
    exact ⟨rfl, rfl⟩
  rw [h1] at f1
  obtain ⟨-, ha, -⟩ := findFrom_at (by simp) h1
  simp only [List.length_singleton] at ha
  have a0 : ((a : Int) < 0) = False := by simp only [eq_iff_iff, iff_false]; omega
  have f2 : ∀ w, Calls Tryz.prog 43 #[.string ⟨s.toArray⟩, .string ⟨#[32]⟩, .int .i64 ((a : Int) + 1)] w fun e w' => e = .returned (.int .i64 (findFrom s [32] (a + 1))) ∧ w = w' := fun w => findR_at s [32] (a + 1) hs (by simp) (by simp) (by omega) w
  have ha2 : (a : Int) ≤ 1073741824 := by omega
  rcases findFrom_is s [32] (a + 1) with h2 | ⟨b, h2⟩
  · rw [first_two h1 h2] at hL
    subst hL
    rw [h2] at f2
    clear h1 h2
    go_enter Tryz.func45, Tryz.ntmps45
    go_wp2_with fail
    (go_at_call 43; refine (f1 _).mono ?_; rintro e w' ⟨rfl, rfl⟩)
    go_wp2_with fail
    (go_at_call 43; refine (f2 _).mono ?_; rintro e w' ⟨rfl, rfl⟩)
    go_wp2_with fail
    go_ret3
    exact ⟨rfl, rfl⟩
  rw [h2] at f2
  obtain ⟨hab, hb, -⟩ := findFrom_at (by simp) h2
  simp only [List.length_singleton] at hb
  have b0 : ((b : Int) < 0) = False := by simp only [eq_iff_iff, iff_false]; omega
  have hb2 : (b : Int) ≤ 1073741824 := by omega
  have f3 : ∀ w, Calls Tryz.prog 43 #[.string ⟨s.toArray⟩, .string ⟨#[32]⟩, .int .i64 ((b : Int) + 1)] w fun e w' => e = .returned (.int .i64 (findFrom s [32] (b + 1))) ∧ w = w' := fun w => findR_at s [32] (b + 1) hs (by simp) (by simp) (by omega) w
  rcases findFrom_is s [32] (b + 1) with h3 | ⟨c, h3⟩
  case inr =>
    rw [first_four h1 h2 h3] at hL
    subst hL
    rw [h3] at f3
    have c0 : ((0 : Int) ≤ c) = True := by simp only [eq_iff_iff, iff_true]; omega
    clear h1 h2 h3
    go_enter Tryz.func45, Tryz.ntmps45
    go_wp2_with fail
    (go_at_call 43; refine (f1 _).mono ?_; rintro e w' ⟨rfl, rfl⟩)
    go_wp2_with fail
    (go_at_call 43; refine (f2 _).mono ?_; rintro e w' ⟨rfl, rfl⟩)
    go_wp2_with fail
    (go_at_call 43; refine (f3 _).mono ?_; rintro e w' ⟨rfl, rfl⟩)
    go_wp2_with fail
    go_ret3
    exact ⟨rfl, rfl⟩
  rw [first_three h1 h2 h3] at hL
  rw [h3] at f3
  clear h1 h2 h3
  have s1 := sl_to s a (a : Int) rfl (by omega)
  have s2 := sl_mid s (a + 1) b ((a : Int) + 1) (b : Int) (by omega) rfl hab (by omega)
  have s3 := sl_from s (b + 1) ((b : Int) + 1) (by omega) hb
  have m1 : (s.take a).length ≤ 1073741824 := by rw [List.length_take]; omega
  have t1 : ((s.drop (a + 1)).take (b - (a + 1))).length ≤ 1073741824 := by rw [List.length_take, List.length_drop]; omega
  have v1 : (s.drop (b + 1)).length ≤ 1073741824 := by rw [List.length_drop]; omega
  obtain ⟨m, hm⟩ : ∃ m, s.take a = m := ⟨_, rfl⟩
  obtain ⟨t, ht⟩ : ∃ t, (s.drop (a + 1)).take (b - (a + 1)) = t := ⟨_, rfl⟩
  obtain ⟨v, hv⟩ : ∃ v, s.drop (b + 1) = v := ⟨_, rfl⟩
  rw [hm] at s1 m1 hL
  rw [ht] at s2 t1 hL
  rw [hv] at s3 v1 hL
  have HL := Lib.hid hL
  clear hm ht hv hL
  go_enter Tryz.func45, Tryz.ntmps45
  go_wp2_with fail
  (go_at_call 43; refine (f1 _).mono ?_; rintro e w' ⟨rfl, rfl⟩)
  go_wp2_with fail
  (go_at_call 43; refine (f2 _).mono ?_; rintro e w' ⟨rfl, rfl⟩)
  go_wp2_with fail
  (go_at_call 43; refine (f3 _).mono ?_; rintro e w' ⟨rfl, rfl⟩)
  go_wp2_with fail
  clear f1 f2 f3 s1 s2 s3 a0 b0 ha hb hab ha2 hb2 hs
  go_loop [10] (fun j => ∃ k : Nat, j = .int .i64 (k : Int) ∧ k ≤ m.length ∧ Hid ((m.take k).all cap = true)) (fun j => m.length - (intOf j).toNat)
  case atStart => exact ⟨0, rfl, by omega, Lib.hid rfl⟩
  case round =>
    obtain ⟨k, rfl, hk, HK⟩ := hrel
    by_cases hlt : k < m.length
    · obtain ⟨x, hx⟩ : ∃ x, (⟨m.toArray⟩ : ByteArray)[k]'hlt = x := ⟨_, rfl⟩
      have Hx : Hid (m[k]? = some x) := Lib.hid (by rw [← hx, List.getElem?_eq_getElem hlt]; rfl)
      obtain ⟨d, hd⟩ : ∃ d, cap x = d := ⟨_, rfl⟩
      have hca := capitalR_any x
      rw [hd] at hca
      cases d
      · have HF : Hid (L = .error 400) := Lib.hid (by
          rw [← HL.out]
          refine rest_cap ?_
          rw [List.all_eq_false]
          exact ⟨x, List.mem_of_getElem? Hx.out, by rw [hd]; decide⟩)
        clear hd
        go_wp2_with (go_at_call 60; refine (hca _).mono ?_; rintro e w' ⟨rfl, rfl⟩)
        go_ret3
        exact ⟨rfl, by rw [HF.out]; rfl⟩
      · have HN : Hid ((m.take (k + 1)).all cap = true) := Lib.hid (by rw [List.take_add_one, Hx.out, List.all_append, HK.out]; simp [hd])
        clear hd
        go_wp2_with (go_at_call 60; refine (hca _).mono ?_; rintro e w' ⟨rfl, rfl⟩)
        exact ⟨⟨k + 1, by go_num, by omega, HN⟩, by simp [intOf]; omega⟩
    have HC : Hid (m.all cap = true) := Lib.hid (by have := HK.out; rwa [List.take_of_length_le (by omega)] at this)
    clear HK
    by_cases hm0 : m.length < 1
    · have HF : Hid (L = .error 400) := Lib.hid (by rw [← HL.out]; exact rest_form (.inl hm0))
      have hm1 : (m.length : Int) < 1 := by omega
      go_wp2_with fail
      go_ret3
      exact ⟨rfl, by rw [HF.out]; rfl⟩
    have hm1 : ¬ (m.length : Int) < 1 := by omega
    by_cases hm16 : 16 < m.length
    · have HF : Hid (L = .error 400) := Lib.hid (by rw [← HL.out]; exact rest_form (.inr (.inl hm16)))
      have hm2 : (16 : Int) < (m.length : Int) := by omega
      go_wp2_with fail
      go_ret3
      exact ⟨rfl, by rw [HF.out]; rfl⟩
    have hm2 : ¬ (16 : Int) < (m.length : Int) := by omega
    by_cases ht0 : t.length = 0
    · have HF : Hid (L = .error 400) := Lib.hid (by rw [← HL.out]; exact rest_form (.inr (.inr (.inl ht0))))
      have ht2 : ((t.length : Int) == 0) = true := by rw [ht0]; rfl
      go_wp2_with fail
      go_ret3
      exact ⟨rfl, by rw [HF.out]; rfl⟩
    have ht2 : ((t.length : Int) == 0) = false := beq_false_of_ne (by omega)
    have htp : 0 < t.length := by omega
    obtain ⟨y, hy⟩ : ∃ y, t[0]? = some y := ⟨_, List.getElem?_eq_getElem htp⟩
    have hy0 := at_of hy
    by_cases h47 : y = 47
    case neg =>
      have HF : Hid (L = .error 400) := Lib.hid (by rw [← HL.out]; exact rest_form (.inr (.inr (.inr (by rw [List.head?_eq_getElem?, hy]; simpa using h47)))))
      have n47 := ne47 h47
      have n47' : ((y.toNat : Int) != 47) = true := by rw [bne, n47]; rfl
      clear h47 hy
      go_wp2_with fail
      go_ret3
      exact ⟨rfl, by rw [HF.out]; rfl⟩
    subst h47
    have H47 : Hid (t.head? = some 47) := Lib.hid (by rw [List.head?_eq_getElem?, hy])
    have HM1 : Hid (1 ≤ m.length) := Lib.hid (by omega)
    have HM2 : Hid (m.length ≤ 16) := Lib.hid (by omega)
    clear hy
    go_wp2_with fail
    clear hy0 ht2 ht0 hm0 hm16 hm1 hm2 hlt
    go_loop [11] (fun j => ∃ k : Nat, j = .int .i64 (k : Int) ∧ k ≤ t.length ∧ Hid ((t.take k).all vis = true)) (fun j => t.length - (intOf j).toNat)
    case atStart => exact ⟨0, rfl, by omega, Lib.hid rfl⟩
    case round =>
      obtain ⟨k2, rfl, hk2, HK⟩ := hrel
      by_cases hlt : k2 < t.length
      · obtain ⟨x, hx⟩ : ∃ x, (⟨t.toArray⟩ : ByteArray)[k2]'hlt = x := ⟨_, rfl⟩
        have Hx : Hid (t[k2]? = some x) := Lib.hid (by rw [← hx, List.getElem?_eq_getElem hlt]; rfl)
        have HF : Hid (vis x = false → L = .error 400) := Lib.hid (fun h => by
          rw [← HL.out]
          refine rest_vis ?_
          rw [List.all_eq_false]
          exact ⟨x, List.mem_of_getElem? Hx.out, by rw [h]; decide⟩)
        have HN : Hid (vis x = true → (t.take (k2 + 1)).all vis = true) := Lib.hid (fun h => by rw [List.take_add_one, Hx.out, List.all_append, HK.out]; simp [h])
        go_wp2_with fail
        all_goals first
          | exact ⟨⟨k2 + 1, by go_num, by omega, Lib.hid (HN.out (by simp [vis]; omega))⟩, by simp [intOf]; omega⟩
          | (go_ret3; exact ⟨rfl, by rw [HF.out (by simp [vis]; omega)]; rfl⟩)
      have HV : Hid (t.all vis = true) := Lib.hid (by have := HK.out; rwa [List.take_of_length_le (by omega)] at this)
      clear HK
      by_cases h8 : v.length = 8
      case neg =>
        have HF : Hid (L = .error 400) := Lib.hid (by rw [← HL.out]; exact rest_ver (ver_short h8))
        have h82 : ((v.length : Int) != 8) = true := bne_iff_ne.2 (by omega)
        clear h8
        go_wp2_with fail
        go_ret3
        exact ⟨rfl, by rw [HF.out]; rfl⟩
      have h82 : ((v.length : Int) != 8) = false := by rw [bne_eq_false_iff_eq]; omega
      have h83 : (v.length : Int) = 8 := by omega
      obtain ⟨f, hf⟩ : ∃ f, v[5]? = some f := ⟨_, List.getElem?_eq_getElem (by omega)⟩
      obtain ⟨g, hg⟩ : ∃ f, v[6]? = some f := ⟨_, List.getElem?_eq_getElem (by omega)⟩
      obtain ⟨x, hx⟩ : ∃ f, v[7]? = some f := ⟨_, List.getElem?_eq_getElem (by omega)⟩
      have hve := ver_eq h8 f g x hf hg hx
      have i5 := at_of hf
      have i6 := at_of hg
      have i7 := at_of hx
      have s5 := sl_to v 5 5 rfl (by omega)
      obtain ⟨p, hp⟩ : ∃ p, v.take 5 = p := ⟨_, rfl⟩
      rw [hp] at s5 hve
      have hdf := digitR_any f
      have hdx := digitR_any x
      obtain ⟨q1, hq1⟩ : ∃ q, (p == httpP) = q := ⟨_, rfl⟩
      obtain ⟨q2, hq2⟩ : ∃ q, dig f = q := ⟨_, rfl⟩
      obtain ⟨q3, hq3⟩ : ∃ q, (g == 46) = q := ⟨_, rfl⟩
      obtain ⟨q4, hq4⟩ : ∃ q, dig x = q := ⟨_, rfl⟩
      rw [hq1, hq2, hq3, hq4] at hve
      rw [hq2] at hdf
      rw [hq4] at hdx
      have HVE := Lib.hid hve
      have b1 : (p == [72, 84, 84, 80, 47]) = q1 := hq1
      have b1' : (p != [72, 84, 84, 80, 47]) = !q1 := by rw [bne, b1]
      have b3 : ((g.toNat : Int) != 46) = !q3 := by
        rw [bne, ← hq3, Bool.eq_iff_iff]
        simp only [Bool.not_eq_true', beq_eq_false_iff_ne]
        exact ⟨fun h e => h (by rw [e]; rfl), fun h e => h (UInt8.toNat_inj.1 (by show g.toNat = 46; omega))⟩
      clear hve hq1 hq2 hq3 hq4 hf hg hx hp h8
      have HF : Hid (verL v = false → L = .error 400) := Lib.hid (fun h => by rw [← HL.out]; exact rest_ver h)
      cases q1
      case false =>
        go_wp2_with fail
        go_ret3
        exact ⟨rfl, by rw [HF.out (by rw [HVE.out]; rfl)]; rfl⟩
      cases q2
      case false =>
        go_wp2_with (go_at_call 75; refine (hdf _).mono ?_; rintro e w' ⟨rfl, rfl⟩)
        go_ret3
        exact ⟨rfl, by rw [HF.out (by rw [HVE.out]; rfl)]; rfl⟩
      cases q3
      case false =>
        go_wp2_with (go_at_call 75; refine (hdf _).mono ?_; rintro e w' ⟨rfl, rfl⟩)
        go_ret3
        exact ⟨rfl, by rw [HF.out (by rw [HVE.out]; rfl)]; rfl⟩
      cases q4
      case false =>
        go_wp2_with fail
        (go_at_call 75; refine (hdf _).mono ?_; rintro e w' ⟨rfl, rfl⟩)
        go_wp2_with fail
        (go_at_call 75; refine (hdx _).mono ?_; rintro e w' ⟨rfl, rfl⟩)
        go_wp2_with fail
        go_ret3
        exact ⟨rfl, by rw [HF.out (by rw [HVE.out]; rfl)]; rfl⟩
      have HG := Lib.hid (rest_go HM1.out HM2.out HC.out H47.out HV.out (v := v) (by rw [HVE.out]; rfl))
      clear HF
      obtain ⟨q5, hq5⟩ : ∃ q, (v == http11) = q := ⟨_, rfl⟩
      have b5 : (v == [72, 84, 84, 80, 47, 49, 46, 49]) = q5 := hq5
      have b5' : (v != [72, 84, 84, 80, 47, 49, 46, 49]) = !q5 := by rw [bne, b5]
      cases q5
      case false =>
        have HE : Hid (L = .error 505) := Lib.hid (by rw [← HL.out, HG.out, if_pos (by simpa using hq5)])
        clear hq5
        go_wp2_with fail
        (go_at_call 75; refine (hdf _).mono ?_; rintro e w' ⟨rfl, rfl⟩)
        go_wp2_with fail
        (go_at_call 75; refine (hdx _).mono ?_; rintro e w' ⟨rfl, rfl⟩)
        go_wp2_with fail
        go_ret3
        exact ⟨rfl, by rw [HE.out]; rfl⟩
      have HG2 : Hid (L = if Lib.containsS meths ⟨m.toArray⟩ = false then .error 501 else if 1024 < t.length then .error 414 else .ok (m, t)) := Lib.hid (by
        rw [← HL.out, HG.out, if_neg (by simpa using hq5)])
      clear hq5 HG
      have hme := meths_eq m
      obtain ⟨r1, hr1⟩ : ∃ q, (m == [71, 69, 84]) = q := ⟨_, rfl⟩
      obtain ⟨r2, hr2⟩ : ∃ q, (m == [80, 85, 84]) = q := ⟨_, rfl⟩
      obtain ⟨r3, hr3⟩ : ∃ q, (m == [80, 79, 83, 84]) = q := ⟨_, rfl⟩
      obtain ⟨r4, hr4⟩ : ∃ q, (m == [68, 69, 76, 69, 84, 69]) = q := ⟨_, rfl⟩
      have hr1' : (m != [71, 69, 84]) = !r1 := by rw [bne, hr1]
      have hr2' : (m != [80, 85, 84]) = !r2 := by rw [bne, hr2]
      have hr3' : (m != [80, 79, 83, 84]) = !r3 := by rw [bne, hr3]
      have hr4' : (m != [68, 69, 76, 69, 84, 69]) = !r4 := by rw [bne, hr4]
      rw [hr1, hr2, hr3, hr4] at hme
      have HME := Lib.hid hme
      clear hme
      have K501 : Hid ((r1 || r2 || r3 || r4) = false → L = .error 501) := Lib.hid (fun h => by rw [HG2.out, HME.out, h, if_pos rfl])
      by_cases ht4 : 1024 < t.length
      · have ht5 : (1024 : Int) < (t.length : Int) := by omega
        have K414 : Hid ((r1 || r2 || r3 || r4) = true → L = .error 414) := Lib.hid (fun h => by rw [HG2.out, HME.out, h, if_neg (by decide), if_pos ht4])
        clear HG2 HME ht4
        cases r1 <;> cases r2 <;> cases r3 <;> cases r4
        all_goals
          go_wp2_with fail
          (go_at_call 75; refine (hdf _).mono ?_; rintro e w' ⟨rfl, rfl⟩)
          go_wp2_with fail
          (go_at_call 75; refine (hdx _).mono ?_; rintro e w' ⟨rfl, rfl⟩)
          go_wp2_with fail
          go_ret3
          first
            | exact ⟨rfl, by rw [K414.out rfl]; rfl⟩
            | exact ⟨rfl, by rw [K501.out rfl]; rfl⟩
      · have ht5 : ¬ (1024 : Int) < (t.length : Int) := by omega
        have KOK : Hid ((r1 || r2 || r3 || r4) = true → L = .ok (m, t)) := Lib.hid (fun h => by rw [HG2.out, HME.out, h, if_neg (by decide), if_neg ht4])
        clear HG2 HME ht4
        cases r1 <;> cases r2 <;> cases r3 <;> cases r4
        all_goals
          go_wp2_with fail
          (go_at_call 75; refine (hdf _).mono ?_; rintro e w' ⟨rfl, rfl⟩)
          go_wp2_with fail
          (go_at_call 75; refine (hdx _).mono ?_; rintro e w' ⟨rfl, rfl⟩)
          go_wp2_with fail
          go_ret3
          first
            | exact ⟨rfl, by rw [KOK.out rfl]; rfl⟩
            | exact ⟨rfl, by rw [K501.out rfl]; rfl⟩
end Go.Proofs.YtidhemjnchonaaaGreatDoor
