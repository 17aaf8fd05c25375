/- WireForm: the walk of the law. -/
import Derived.Test.YthjfogllinboaaaPlain2
import Derived.Test.YthjfogllinboaaaUnfR
import Derived.Test.YthjfogllinboaaaLawKit
import Derived.Deep.RegionHeld3
namespace Go.Proofs.Ythjfogllinboaaa
open Go.RowKit Go.BL Go.Wr
theorem put_form {n k : Nat} {T : List Nat} (w : World) (hE : enc n = T) (hT : T.length = k) (hn : n < 9223372036854775808) :
    Calls Try.prog 11 #[.slice none 0 0, .int .i64 (n : Int)] w fun e w' => ∃ A c, e = .returned (.slice A k c) ∧ Rd w' A k T ∧ Below w.heap.size w w' := by
  subst hT hE
  refine (retS (put_any none 0 0 [] (n : Int) w Rd.none_ (by omega) (by omega))).mono ?_
  rw [List.nil_append, Int.toNat_natCast]
  rintro e w' ⟨A, c, he, hr, _, hb⟩
  exact ⟨A, c, he, hr, hb⟩
set_option maxRecDepth 100000 in
set_option maxHeartbeats 4000000 in
theorem form_any (A : Option Addr) (m cap : Nat) (bs : List Nat) (w : World) (hr : Rd w A m bs) (hm : m ≤ 1048576) (hcap : m ≤ cap) :
    Calls Try.prog 8 #[.slice A m cap] w (RetV (.bool true) w) := by
  have hl := hr.1
  subst hl
  have Hr := Lib.hid hr
  have Hm := Lib.hid hm
  have hbs := hm
  have Hcap := Lib.hid hcap
  clear hr hcap hm
  have hk := refUint_le bs 0 (Nat.zero_le _)
  rw [List.drop_zero, Nat.zero_add] at hk
  have hat := refUint_at bs 0
  rw [List.drop_zero, Nat.zero_add] at hat
  have hnum : (refUint bs).2.2 = 0 → num bs 0 0 = .got (refUint bs).1 (refUint bs).2.1 := by
    unfold refUint
    cases hn : num bs 0 0 with
    | bad c => intro h; exact absurd h (num_bad _ _ _ _ hn)
    | got n k => intro _; rfl
  obtain ⟨R, hR⟩ : ∃ R, refUint bs = R := ⟨_, rfl⟩
  rw [hR] at hk hat hnum
  have HR := Lib.hid hR
  have HA := Lib.hid hat
  have HN := Lib.hid hnum
  clear hR hat hnum
  obtain ⟨n, k, c⟩ := R
  obtain ⟨U, hU⟩ : ∃ U, unframe bs = U := ⟨_, rfl⟩
  have HU := Lib.hid hU
  clear hU
  obtain ⟨UP, UR, uc⟩ := U
  have hkl : k ≤ bs.length := hk
  clear hk
  have C_0_0 : Hid (Below w.heap.size w w) := Lib.hid (Below.refl _ _)
  go_enter Try.func8, Try.ntmps8
  go_wp2_with fail
  refine (over_rdr A bs.length cap bs _ Hr.out (by omega)).mono ?_
  rintro e w1 ⟨g, rfl, hg, hrd, hb, -⟩
  have HRd := Lib.hid hrd
  have Hg := Lib.hid hg
  have C1 := Lib.hid hb
  clear hrd hg hb
  go_wp2_with fail
  refine (uint_any _ g bs 0 _ HRd.out (Nat.le_refl _)).mono ?_
  rw [HA.out]
  rintro e w2 ⟨rfl, -, hk2⟩
  have C2 : Hid (Below w.heap.size w w2) := Lib.hid (C1.out.trans (hk2.below C1.out.size (fun x hx => by have := Hg.out; simp at hx; omega)))
  clear hk2
  go_wp2_with fail
  refine (refUint_any A bs.length cap bs _ (Hr.out.below C2.out (Nat.le_refl _))).mono ?_
  rw [HR.out]
  rintro e w' ⟨rfl, rfl⟩
  by_cases hc : c = 0
  · subst hc
    have hn := HN.out rfl
    have HE : Hid (enc n = bs.take k) := Lib.hid (num_form' Hr.out.2.2.1 hn)
    have Hn : Hid (n < 9223372036854775808) := Lib.hid (num_lt _ _ _ _ _ (by omega) (by decide) Hr.out.2.2.1 hn)
    have HT : Hid ((bs.take k).length = k) := Lib.hid (by rw [List.length_take]; omega)
    have HTr := Lib.hid (Hr.out.take k hkl)
    clear hn
    generalize bs.take k = T at *
    have hs1 : (k : Int) ≤ (cap : Int) := by have := Hcap.out; omega
    have hs0 : (0 : Int) ≤ (k : Int) := by omega
    go_wp2
    go_region_held3 (fun _ => True) (trivial) ((first
      | (go_at_call 11; refine (put_form _ HE.out HT.out Hn.out).mono ?_; rintro e w3 ⟨A3, c3, rfl, hrd3, hb3⟩; have HR3 := Lib.hid hrd3; have C3 : Hid (Below w.heap.size w w3) := Lib.hid (C2.out.trans (by exact ⟨hb3.os, hb3.tape, hb3.output, hb3.size, fun i hi => hb3.block i (Nat.lt_of_lt_of_le hi C2.out.size)⟩)); clear hrd3 hb3)
      | (go_at_call 13; refine (equal_same' A3 A k c3 cap T _ (by exact HR3.out) (by exact HTr.out.below C3.out (Nat.le_refl _))).mono ?_; rintro e w4 ⟨rfl, hb4⟩; have C4 : Hid (Below w.heap.size w w4) := Lib.hid (C3.out.trans (by exact ⟨hb4.os, hb4.tape, hb4.output, hb4.size, fun i hi => hb4.block i (Nat.lt_of_lt_of_le hi C3.out.size)⟩)); clear hb4)))
    clear hs1 hs0
    go_wp2_with fail
    refine (unframe_any A bs.length cap bs _ (Hr.out.below C4.out (Nat.le_refl _)) (by omega)).mono ?_
    rw [HU.out]
    rintro e w5 ⟨A_p, c_p, A_r, c_r, rfl, how, how2, hb⟩
    have C5 : Hid (Below w.heap.size w w5) := Lib.hid (C4.out.trans (hb.mono C4.out.size))
    have HP := Lib.hid (own_rd how)
    have HPl := Lib.hid how
    clear how how2 hb
    go_wp2_with fail
    refine (unframeR_any A bs.length cap bs _ (Hr.out.below C5.out (Nat.le_refl _)) (by omega) Hcap.out).mono ?_
    rw [HU.out]
    rintro e w6 ⟨A_q, c_q, A_m, c_m, rfl, -, -, hb⟩
    have C6 : Hid (Below w.heap.size w w6) := Lib.hid (C5.out.trans (hb.mono C5.out.size))
    have HP6 := Lib.hid (HP.out.below hb (Nat.le_refl _))
    clear hb
    by_cases huc : uc = 0
    · subst huc
      have hfu := frame_unframe Hr.out.2.2.1 HU.out
      have HF := Lib.hid hfu.1
      obtain ⟨D, hD⟩ : ∃ D, bs.length - UR.length = D := ⟨_, rfl⟩
      have hD2 : (bs.length : Int) - (UR.length : Int) = (D : Int) := by have := hfu.2; omega
      have hDl : D ≤ bs.length := by omega
      have HT2 : Hid ((bs.take D).length = D) := Lib.hid (by rw [List.length_take]; omega)
      have HTr2 := Lib.hid (Hr.out.take D hDl)
      rw [hD] at HF
      have hs3 : (D : Int) ≤ (cap : Int) := by have := Hcap.out; omega
      clear hfu hD
      have hurl : (UR.length : Int) ≤ (bs.length : Int) := by omega
      go_wp2_with fail
      refine (frame_any A_p UP.length c_p UP _ HP6.out).mono ?_
      rw [HF.out]
      rintro e w7 ⟨A_f, c_f, he, hrd, -, hb⟩
      have he2 : e = .returned (.tuple #[.slice A_f D c_f, .int .i64 0]) := by rw [he]; show Ending.returned (.tuple #[.slice A_f (bs.take D).length c_f, .int .i64 0]) = _; rw [HT2.out]
      have HRf : Hid (Rd w7 A_f D (bs.take D)) := Lib.hid (by have h : Rd w7 A_f (bs.take D).length (bs.take D) := hrd; rwa [HT2.out] at h)
      subst he2
      have C7 : Hid (Below w.heap.size w w7) := Lib.hid (C6.out.trans (hb.mono C6.out.size))
      clear he hrd hb
      generalize bs.take D = T2 at *
      go_wp2_with fail
      refine (equal_same' A_f A D c_f cap T2 _ HRf.out (HTr2.out.below C7.out (Nat.le_refl _))).mono ?_
      rintro e w8 ⟨rfl, hb⟩
      have C8 : Hid (Below w.heap.size w w8) := Lib.hid (C7.out.trans (hb.mono C7.out.size))
      clear hb hD2
      go_wp2
      go_ret
      exact ⟨rfl, C8.out⟩
    · have hne : ((uc : Int) != 0) = true := bne_iff_ne.2 (by omega)
      go_wp2
      go_ret
      exact ⟨rfl, C6.out⟩
  · have hne : ((c : Int) == 0) = false := beq_eq_false_iff_ne.2 (by omega)
    have hs1 : True := trivial
    have hs0 : True := trivial
    go_wp2
    go_quiet (fail)
    have C4 : Hid (Below w.heap.size w (w2.drewN nq)) := Lib.hid (below_drewN C2.out nq)
    clear hs1 hs0
    go_wp2_with fail
    refine (unframe_any A bs.length cap bs _ (Hr.out.below C4.out (Nat.le_refl _)) (by omega)).mono ?_
    rw [HU.out]
    rintro e w5 ⟨A_p, c_p, A_r, c_r, rfl, how, how2, hb⟩
    have C5 : Hid (Below w.heap.size w w5) := Lib.hid (C4.out.trans (hb.mono C4.out.size))
    have HP := Lib.hid (own_rd how)
    have HPl := Lib.hid how
    clear how how2 hb
    go_wp2_with fail
    refine (unframeR_any A bs.length cap bs _ (Hr.out.below C5.out (Nat.le_refl _)) (by omega) Hcap.out).mono ?_
    rw [HU.out]
    rintro e w6 ⟨A_q, c_q, A_m, c_m, rfl, -, -, hb⟩
    have C6 : Hid (Below w.heap.size w w6) := Lib.hid (C5.out.trans (hb.mono C5.out.size))
    have HP6 := Lib.hid (HP.out.below hb (Nat.le_refl _))
    clear hb
    by_cases huc : uc = 0
    · subst huc
      have hfu := frame_unframe Hr.out.2.2.1 HU.out
      have HF := Lib.hid hfu.1
      obtain ⟨D, hD⟩ : ∃ D, bs.length - UR.length = D := ⟨_, rfl⟩
      have hD2 : (bs.length : Int) - (UR.length : Int) = (D : Int) := by have := hfu.2; omega
      have hDl : D ≤ bs.length := by omega
      have HT2 : Hid ((bs.take D).length = D) := Lib.hid (by rw [List.length_take]; omega)
      have HTr2 := Lib.hid (Hr.out.take D hDl)
      rw [hD] at HF
      have hs3 : (D : Int) ≤ (cap : Int) := by have := Hcap.out; omega
      clear hfu hD
      have hurl : (UR.length : Int) ≤ (bs.length : Int) := by omega
      go_wp2_with fail
      refine (frame_any A_p UP.length c_p UP _ HP6.out).mono ?_
      rw [HF.out]
      rintro e w7 ⟨A_f, c_f, he, hrd, -, hb⟩
      have he2 : e = .returned (.tuple #[.slice A_f D c_f, .int .i64 0]) := by rw [he]; show Ending.returned (.tuple #[.slice A_f (bs.take D).length c_f, .int .i64 0]) = _; rw [HT2.out]
      have HRf : Hid (Rd w7 A_f D (bs.take D)) := Lib.hid (by have h : Rd w7 A_f (bs.take D).length (bs.take D) := hrd; rwa [HT2.out] at h)
      subst he2
      have C7 : Hid (Below w.heap.size w w7) := Lib.hid (C6.out.trans (hb.mono C6.out.size))
      clear he hrd hb
      generalize bs.take D = T2 at *
      go_wp2_with fail
      refine (equal_same' A_f A D c_f cap T2 _ HRf.out (HTr2.out.below C7.out (Nat.le_refl _))).mono ?_
      rintro e w8 ⟨rfl, hb⟩
      have C8 : Hid (Below w.heap.size w w8) := Lib.hid (C7.out.trans (hb.mono C7.out.size))
      clear hb hD2
      go_wp2
      go_ret
      exact ⟨rfl, C8.out⟩
    · have hne : ((uc : Int) != 0) = true := bne_iff_ne.2 (by omega)
      go_wp2
      go_ret
      exact ⟨rfl, C6.out⟩
end Go.Proofs.Ythjfogllinboaaa
