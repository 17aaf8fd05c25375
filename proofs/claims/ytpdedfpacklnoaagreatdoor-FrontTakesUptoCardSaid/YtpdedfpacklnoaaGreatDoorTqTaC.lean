/- Contract of the document's Read, of what an answer was written as. Law 10: FrontTakes; premises: the contracts of token.Make. -/
import Derived.Test.YtpdedfpacklnoaaGreatDoorTqTaA
import Derived.Test.YtpdedfpacklnoaaGreatDoorTqTaP
import Derived.Test.YtpdedfpacklnoaaGreatDoorTqToA
set_option maxRecDepth 100000
namespace Go.Proofs.YtpdedfpacklnoaaGreatDoor
open Go.RowKit Go.BL Go.Ct Go.Sl

set_option maxHeartbeats 16000000 in
theorem readD_any (a : H.Ans) (v : Value) (w : World) (hv : H.Bsl w v (H.headA a ++ a.b)) (h1 : H.reasonL a.st ≠ []) (h2 : a.hs.all H.fieldL = true) (h3 : a.hs.length < 32) (h4 : a.b.length ≤ 4096) (h5 : (H.headA a).length ≤ 65540)
  (h6 : ∀ x ∈ a.hs, x.1.length ≤ 100000 ∧ x.2.length ≤ 100000) : Calls Tryz.prog 36 #[v] w (AnsR a w) := by
 obtain ⟨sn, hsn, hs1, hs2⟩ := H.st_range h1
 obtain ⟨J, R, hj, hjr, hr, hf1, hf2⟩ := H.doc_places h1 h2
 have HBS := Lib.hid hv
 have hL := H.lsA_lines h2
 obtain ⟨S, hS⟩ : ∃ y, H.headA a ++ a.b = y := ⟨_, rfl⟩
 obtain ⟨L0, hL0⟩ : ∃ y, H.lineA a.st = y := ⟨_, rfl⟩
 obtain ⟨N, hN⟩ : ∃ y, J.length = y := ⟨_, rfl⟩
 obtain ⟨C, hC⟩ : ∃ y, L0.length = y := ⟨_, rfl⟩
 rw [hS] at hf1 hf2 HBS
 rw [hL0] at hjr hf2
 rw [hN] at hf1
 rw [hC] at hf2
 have e0 : S = J ++ (H.sep4 ++ a.b) := by rw [← hS, hj, List.append_assoc]
 have hsep : H.sep4.length = 4 := rfl
 have hNl : N ≤ 65536 := by have := congrArg List.length hj; rw [List.length_append, hsep] at this; omega
 have hSl : S.length = N + 4 + a.b.length := by rw [e0, List.length_append, List.length_append, hsep, hN]; omega
 have hJl : N = C + 2 + R.length := by have := congrArg List.length hjr; rw [List.length_append, List.length_cons, List.length_cons] at this; omega
 have t1 : S.take C = L0 := by rw [e0, hjr, List.append_assoc, ← hC, List.take_left]
 have t2 : S.take N = J := by rw [e0, ← hN, List.take_left]
 have t3 : S.drop (N + 4) = a.b := by rw [e0, ← List.append_assoc, List.drop_left' (by rw [List.length_append, hsep, hN])]
 have t4 : (S.drop (C + 2)).take (N - (C + 2)) = R := by
  have : S.drop (C + 2) = R ++ (H.sep4 ++ a.b) := by
   rw [e0, hjr, show L0 ++ 13 :: 10 :: R = (L0 ++ [13, 10]) ++ R by simp, List.append_assoc, List.drop_left' (by rw [List.length_append, hC]; rfl)]
  rw [this, show N - (C + 2) = R.length by omega, List.take_left]
 have hsl1 := fun w => sl_to S C (C : Int) rfl (by omega) w
 have hsl2 := fun w => sl_mid S (C + 2) N ((C : Int) + 2) (N : Int) (by omega) rfl (by omega) (by omega) w
 have hsl3 := fun w => sl_to S N (N : Int) rfl (by omega) w
 have hsl4 := fun w => sl_from S (N + 4) ((N : Int) + 4) (by omega) (by omega) w
 rw [t1] at hsl1
 rw [t4] at hsl2
 rw [t2] at hsl3
 rw [t3] at hsl4
 have hfa := fun w => H.findR_at S H.sep4 0 (by omega) (by decide) (by decide) (by omega) w
 have hfb := fun w => H.findR_at S [13, 10] 0 (by omega) (by decide) (by decide) (by omega) w
 rw [hf1] at hfa
 rw [hf2] at hfb
 unfold H.sep4 at hfa
 obtain ⟨ls, hls⟩ : ∃ y, H.lsA a = y := ⟨_, rfl⟩
 rw [hls] at hr hL
 have HS0 : Hid (S.length ≤ 1000000) := Lib.hid (by omega)
 have HRL : Hid (R.length ≤ 65536) := Lib.hid (by omega)
 have HR := Lib.hid hr
 have HL := Lib.hid hL
 have HLS := Lib.hid hls
 have HRN := Lib.hid h1
 have HSN := Lib.hid hsn
 have HL0 := Lib.hid hL0
 have HA1 := Lib.hid h2
 have HA2 := Lib.hid h3
 have HA3 := Lib.hid h4
 have HA4 := Lib.hid h6
 have HJL : Hid (J.length ≤ 65536) := Lib.hid (by omega)
 have hNC : (C : Int) < (N : Int) := by omega
 have hN0 : ¬ (N : Int) < 0 := by omega
 have hCb : C ≤ 65536 := by omega
 have hNb : N ≤ 65536 := by omega
 clear hv h1 h2 h3 h4 h5 h6 hj hjr hr hf1 hf2 hL hS hL0 hN hC e0 hsep hNl t1 t2 t3 t4 hls hsn hSl hJl
 obtain ⟨w0, hw0⟩ : ∃ y, w.alloc (.cells #[.int .i64 0, .slice none 0 0, .string ⟨#[]⟩] 67) = y := ⟨_, rfl⟩
 have HB0 : Hid (Below w.heap.size w w0) := Lib.hid (by rw [← hw0]; exact (Below.refl _ _).alloc (Nat.le_refl _) _)
 have HR0 : Hid (Bk w0 w.heap.size [.int .i64 0, .slice none 0 0, .string ⟨#[]⟩]) := Lib.hid (by rw [← hw0]; exact Bk.new w [.int .i64 0, .slice none 0 0, .string ⟨#[]⟩] 67 rfl)
 have HS1 : Hid (w.heap.size < w0.heap.size) := Lib.hid (by rw [← hw0]; simp)
 have hconv := H.Bsl.conv (H.Bsl.below HBS.out HB0.out (Nat.le_refl _))
 have HW0 := Lib.hid hw0
 clear hw0
 go_enter Tryz.func36, Tryz.ntmps36
 go_upto_region 1 with fail
 rw [HW0.out]
 clear HW0
 go_upto_region 3 with (go_at_call 78; refine (hfa _).mono ?_; rintro e w1 ⟨rfl, rfl⟩)
 clear hconv hfa
 go_upto_region 7 with (go_at_call 78; refine (hfb _).mono ?_; rintro e w1 ⟨rfl, rfl⟩)
 clear hfb
 go_wp2_with fail
 go_loopw [6, 8] (fun s i wr => ∃ n : Nat, i = .int .i64 (n : Int) ∧ s = .int .i64 (if sn < n then (sn : Int) else 0) ∧ 200 ≤ n ∧ n ≤ 600 ∧ Hid (Below w0.heap.size w0 wr)) (fun _ i _ => 600 - (intOf i).toNat)
 case atStart => exact ⟨200, rfl, by rw [if_neg (by omega)], by omega, by omega, Lib.hid (Below.refl _ _)⟩
 case round =>
  obtain ⟨n, rfl, rfl, hn1, hn2, HBr⟩ := hrel
  by_cases hlt : n < 600
  ·have hre := fun w => H.reasonR_any (n : Int) w
   have hli := fun w => lineR2_any n (by omega) w
   unfold RetV at hli
   obtain ⟨RE, hRE⟩ : ∃ y, H.reasonL (n : Int) = y := ⟨_, rfl⟩
   obtain ⟨LI, hLI⟩ : ∃ y, H.lineA (n : Int) = y := ⟨_, rfl⟩
   rw [hRE] at hre
   rw [hLI] at hli
   have HRE := Lib.hid hRE
   have HLI := Lib.hid hLI
   have hlt' : (n : Int) < 600 := by omega
   clear hRE hLI
   go_upto_region 10 with fail
   rcases RE with _ | ⟨r0, RE⟩
   ·have hne : n ≠ sn := fun h => HRN.out (by rw [HSN.out, ← h]; exact HRE.out)
    refine hstart (S := fun _ => True) (by kernel_rfl) (by repeat (first | exact PG.body | refine PG.then_ ?_ | refine PG.inBlock ?_)) ?_ (fun hPF hHeld => ?_)
    ·exact trivial
    refine htake (i := 0) (v := .int .i64 (n : Int)) rfl (by kernel_rfl) (by kernel_rfl) (by kernel_rfl) hPF (Or.inl ⟨by kernel_rfl, ?_⟩) hHeld ?_
    ·intro u p0; go_simp
    refine wpAnyH_ready (rs := [1]) (by kernel_rfl) (by simp) ?_
    refine AllReadyH.cons (i := 1) rfl (fun K hK => ?_) AllReadyH.nil
    go_simp
    go_at_call 73
    refine (hre _).mono ?_
    rintro e w2 ⟨rfl, rfl⟩
    refine hK.out _ _ ?_ (fun hHeld => ?_)
    ·exact trivial
    clear hK K
    refine htake (i := 2) (v := .bool false) rfl (by kernel_rfl) (by kernel_rfl) (by kernel_rfl) hPF (Or.inl ⟨by kernel_rfl, ?_⟩) hHeld ?_
    ·intro u p0; go_simp
    refine htake (i := 3) (v := .bool false) rfl (by kernel_rfl) (by kernel_rfl) (by kernel_rfl) hPF (Or.inl ⟨by kernel_rfl, ?_⟩) hHeld ?_
    ·intro u p0; go_simp
    refine htake (i := 4) (v := undef) rfl (by kernel_rfl) (by kernel_rfl) (by kernel_rfl) hPF (Or.inr ⟨by kernel_rfl, rfl⟩) hHeld ?_
    refine htake (i := 5) (v := undef) rfl (by kernel_rfl) (by kernel_rfl) (by kernel_rfl) hPF (Or.inr ⟨by kernel_rfl, rfl⟩) hHeld ?_
    refine htake (i := 6) (v := undef) rfl (by kernel_rfl) (by kernel_rfl) (by kernel_rfl) hPF (Or.inr ⟨by kernel_rfl, rfl⟩) hHeld ?_
    refine htake (i := 7) (v := undef) rfl (by kernel_rfl) (by kernel_rfl) (by kernel_rfl) hPF (Or.inr ⟨by kernel_rfl, rfl⟩) hHeld ?_
    refine htake (i := 8) (v := undef) rfl (by kernel_rfl) (by kernel_rfl) (by kernel_rfl) hPF (Or.inr ⟨by kernel_rfl, rfl⟩) hHeld ?_
    refine htake (i := 9) (v := undef) rfl (by kernel_rfl) (by kernel_rfl) (by kernel_rfl) hPF (Or.inr ⟨by kernel_rfl, rfl⟩) hHeld ?_
    refine wpAnyH_ready (rs := [10]) (by kernel_rfl) (by simp) ?_
    refine AllReadyH.cons (i := 10) rfl (fun K hK => ?_) AllReadyH.nil
    go_simp
    refine hK.out _ _ ?_ (fun hHeld => ?_)
    ·exact trivial
    clear hK K
    refine wpAnyH_done (by kernel_rfl) ?_ _
    go_wp2_with fail
    exact ⟨⟨n + 1, by go_num, by by_cases h : sn < n; rw [if_pos h, if_pos (by omega)]; rw [if_neg h, if_neg (by omega)], by omega, by omega, Lib.hid (H.below_drewN HBr.out 1)⟩, by simp [intOf]; omega⟩
   ·by_cases hq : n = sn
    ·subst hq
     have hq2 : LI = L0 := by rw [← HLI.out, ← HSN.out, HL0.out]
     subst hq2
     have hif : (if n < n then (n : Int) else 0) = 0 := if_neg (by omega)
     refine hstart (S := fun _ => True) (by kernel_rfl) (by repeat (first | exact PG.body | refine PG.then_ ?_ | refine PG.inBlock ?_)) ?_ (fun hPF hHeld => ?_)
     ·exact trivial
     refine htake (i := 0) (v := .int .i64 (n : Int)) rfl (by kernel_rfl) (by kernel_rfl) (by kernel_rfl) hPF (Or.inl ⟨by kernel_rfl, ?_⟩) hHeld ?_
     ·intro u p0; go_simp
     refine wpAnyH_ready (rs := [1]) (by kernel_rfl) (by simp) ?_
     refine AllReadyH.cons (i := 1) rfl (fun K hK => ?_) AllReadyH.nil
     go_simp
     go_at_call 73
     refine (hre _).mono ?_
     rintro e w2 ⟨rfl, rfl⟩
     refine hK.out _ _ ?_ (fun hHeld => ?_)
     ·exact trivial
     clear hK K
     refine htake (i := 2) (v := .bool true) rfl (by kernel_rfl) (by kernel_rfl) (by kernel_rfl) hPF (Or.inl ⟨by kernel_rfl, ?_⟩) hHeld ?_
     ·intro u p0; go_simp
     refine htake (i := 3) (v := .bool true) rfl (by kernel_rfl) (by kernel_rfl) (by kernel_rfl) hPF (Or.inl ⟨by kernel_rfl, ?_⟩) hHeld ?_
     ·intro u p0; go_simp
     refine htake (i := 4) (v := .string ⟨S.toArray⟩) rfl (by kernel_rfl) (by kernel_rfl) (by kernel_rfl) hPF (Or.inl ⟨by kernel_rfl, ?_⟩) hHeld ?_
     ·intro u p0; go_simp
     refine htake (i := 5) (v := .int .i64 (C : Int)) rfl (by kernel_rfl) (by kernel_rfl) (by kernel_rfl) hPF (Or.inl ⟨by kernel_rfl, ?_⟩) hHeld ?_
     ·intro u p0; go_simp
     refine htake (i := 6) (v := .string ⟨LI.toArray⟩) rfl (by kernel_rfl) (by kernel_rfl) (by kernel_rfl) hPF (Or.inl ⟨by kernel_rfl, ?_⟩) hHeld ?_
     ·intro u p0; go_simp
     refine htake (i := 7) (v := .int .i64 (n : Int)) rfl (by kernel_rfl) (by kernel_rfl) (by kernel_rfl) hPF (Or.inl ⟨by kernel_rfl, ?_⟩) hHeld ?_
     ·intro u p0; go_simp
     refine wpAnyH_ready (rs := [8]) (by kernel_rfl) (by simp) ?_
     refine AllReadyH.cons (i := 8) rfl (fun K hK => ?_) AllReadyH.nil
     go_simp
     go_at_call 79
     refine (hli _).mono ?_
     rintro e w3 ⟨rfl, hb⟩
     have HB3 : Hid (Below w0.heap.size w0 w3) := Lib.hid (HBr.out.drew.trans (hb.mono HBr.out.size))
     clear hb
     refine hK.out _ _ ?_ (fun hHeld => ?_)
     ·exact trivial
     clear hK K
     refine htake (i := 9) (v := .bool true) rfl (by kernel_rfl) (by kernel_rfl) (by kernel_rfl) hPF (Or.inl ⟨by kernel_rfl, ?_⟩) hHeld ?_
     ·intro u p0; go_simp
     refine wpAnyH_ready (rs := [10]) (by kernel_rfl) (by simp) ?_
     refine AllReadyH.cons (i := 10) rfl (fun K hK => ?_) AllReadyH.nil
     go_simp
     refine hK.out _ _ ?_ (fun hHeld => ?_)
     ·exact trivial
     clear hK K
     refine wpAnyH_done (by kernel_rfl) ?_ _
     go_wp2_with fail
     exact ⟨⟨n + 1, by go_num, by rw [if_pos (by omega)], by omega, by omega, HB3⟩, by simp [intOf]; omega⟩
    ·have hq2 : (L0 == LI) = false := beq_false_of_ne (fun h => hq (by
      have h' := H.line_inj (n := a.st) (m := (n : Int)) HRN.out (by rw [HRE.out]; simp) (by rw [HL0.out, HLI.out]; exact h)
      rw [HSN.out] at h'
      omega))
     refine hstart (S := fun _ => True) (by kernel_rfl) (by repeat (first | exact PG.body | refine PG.then_ ?_ | refine PG.inBlock ?_)) ?_ (fun hPF hHeld => ?_)
     ·exact trivial
     refine htake (i := 0) (v := .int .i64 (n : Int)) rfl (by kernel_rfl) (by kernel_rfl) (by kernel_rfl) hPF (Or.inl ⟨by kernel_rfl, ?_⟩) hHeld ?_
     ·intro u p0; go_simp
     refine wpAnyH_ready (rs := [1]) (by kernel_rfl) (by simp) ?_
     refine AllReadyH.cons (i := 1) rfl (fun K hK => ?_) AllReadyH.nil
     go_simp
     go_at_call 73
     refine (hre _).mono ?_
     rintro e w2 ⟨rfl, rfl⟩
     refine hK.out _ _ ?_ (fun hHeld => ?_)
     ·exact trivial
     clear hK K
     refine htake (i := 2) (v := .bool true) rfl (by kernel_rfl) (by kernel_rfl) (by kernel_rfl) hPF (Or.inl ⟨by kernel_rfl, ?_⟩) hHeld ?_
     ·intro u p0; go_simp
     refine htake (i := 3) (v := .bool true) rfl (by kernel_rfl) (by kernel_rfl) (by kernel_rfl) hPF (Or.inl ⟨by kernel_rfl, ?_⟩) hHeld ?_
     ·intro u p0; go_simp
     refine htake (i := 4) (v := .string ⟨S.toArray⟩) rfl (by kernel_rfl) (by kernel_rfl) (by kernel_rfl) hPF (Or.inl ⟨by kernel_rfl, ?_⟩) hHeld ?_
     ·intro u p0; go_simp
     refine htake (i := 5) (v := .int .i64 (C : Int)) rfl (by kernel_rfl) (by kernel_rfl) (by kernel_rfl) hPF (Or.inl ⟨by kernel_rfl, ?_⟩) hHeld ?_
     ·intro u p0; go_simp
     refine htake (i := 6) (v := .string ⟨L0.toArray⟩) rfl (by kernel_rfl) (by kernel_rfl) (by kernel_rfl) hPF (Or.inl ⟨by kernel_rfl, ?_⟩) hHeld ?_
     ·intro u p0; go_simp
     refine htake (i := 7) (v := .int .i64 (n : Int)) rfl (by kernel_rfl) (by kernel_rfl) (by kernel_rfl) hPF (Or.inl ⟨by kernel_rfl, ?_⟩) hHeld ?_
     ·intro u p0; go_simp
     refine wpAnyH_ready (rs := [8]) (by kernel_rfl) (by simp) ?_
     refine AllReadyH.cons (i := 8) rfl (fun K hK => ?_) AllReadyH.nil
     go_simp
     go_at_call 79
     refine (hli _).mono ?_
     rintro e w3 ⟨rfl, hb⟩
     have HB3 : Hid (Below w0.heap.size w0 w3) := Lib.hid (HBr.out.drew.trans (hb.mono HBr.out.size))
     clear hb
     refine hK.out _ _ ?_ (fun hHeld => ?_)
     ·exact trivial
     clear hK K
     refine htake (i := 9) (v := .bool false) rfl (by kernel_rfl) (by kernel_rfl) (by kernel_rfl) hPF (Or.inl ⟨by kernel_rfl, ?_⟩) hHeld ?_
     ·intro u p0; go_simp
     refine wpAnyH_ready (rs := [10]) (by kernel_rfl) (by simp) ?_
     refine AllReadyH.cons (i := 10) rfl (fun K hK => ?_) AllReadyH.nil
     go_simp
     refine hK.out _ _ ?_ (fun hHeld => ?_)
     ·exact trivial
     clear hK K
     refine wpAnyH_done (by kernel_rfl) ?_ _
     go_wp2_with fail
     exact ⟨⟨n + 1, by go_num, by by_cases h : sn < n; rw [if_pos h, if_pos (by omega)]; rw [if_neg h, if_neg (by omega)], by omega, by omega, HB3⟩, by simp [intOf]; omega⟩
  ·obtain rfl : n = 600 := by omega
   have hif : (if sn < 600 then (sn : Int) else 0) = sn := if_pos hs2
   rw [hif]
   have hs0 : ((sn : Int) == 0) = false := beq_false_of_ne (by omega)
   clear hif
   go_wp2_with fail
   go_loopw [10, 11] (fun l i wq => ∃ (k p : Nat), i = .int .i64 (p : Int) ∧ k ≤ ls.length ∧ p ≤ R.length + 2 ∧ Hid (H.OwnS wq w0.heap.size l (ls.take k)) ∧ Hid ((k < ls.length ∧ p ≤ R.length ∧ R.drop p = H.joinL (ls.drop k)) ∨ (k = ls.length ∧ p = R.length + 2)) ∧ Hid (Below w0.heap.size w0 wq)) (fun _ i _ => R.length + 2 - (intOf i).toNat)
   case atStart =>
    exact ⟨0, 0, rfl, by omega, by omega, Lib.hid (H.OwnS.nil _ _), Lib.hid (.inl ⟨List.length_pos_iff.2 (by rw [← HLS.out]; exact H.lsA_ne a), by omega, HR.out⟩), HBr⟩
   case round =>
    rename World => wq
    obtain ⟨k, p, rfl, hk, hp, HO, HD, HBq⟩ := hrel
    rcases HD.out with ⟨hk2, hp2, hd⟩ | ⟨hk2, hp2⟩
    ·obtain ⟨q1, q2, q3, q4⟩ := H.rest_step hk2 HL.out hd hp2
     obtain ⟨x, hx⟩ : ∃ y, ls[k] = y := ⟨_, rfl⟩
     have HTK : Hid (ls.take (k + 1) = ls.take k ++ [x]) := Lib.hid (by rw [← hx]; exact List.take_succ_eq_append_getElem hk2)
     rw [hx] at q1 q2 q3 q4
     have hpl : (p : Int) < (R.length : Int) := by omega
     have hRb := HRL.out
     have hfr := fun w => H.findR_at R [13, 10] p (by have := HRL.out; omega) (by decide) (by decide) (by have := HRL.out; omega) w
     obtain ⟨w3, hw3⟩ : ∃ y, wq.alloc (.cells #[.string ⟨x.toArray⟩] 9) = y := ⟨_, rfl⟩
     have hb3 : Below wq.heap.size wq w3 := by rw [← hw3]; exact (Below.refl _ _).alloc (Nat.le_refl _) _
     have HG3 : Hid (Bk w3 wq.heap.size [.string ⟨x.toArray⟩]) := Lib.hid (by rw [← hw3]; exact Bk.new wq _ 9 rfl)
     have HO3 : Hid (H.OwnS w3 w0.heap.size u10 (ls.take k)) := Lib.hid (H.OwnS.below HO.out hb3 (Nat.le_refl _))
     have HB3 : Hid (Below w0.heap.size w0 w3) := Lib.hid (HBq.out.trans (hb3.mono HBq.out.size))
     have HS3 : Hid (w0.heap.size ≤ w3.heap.size) := Lib.hid (HB3.out.size)
     have HTL : Hid ((ls.take k).length ≤ 1073741826) := Lib.hid (by rw [List.length_take]; have := congrArg List.length HLS.out; unfold H.lsA at this; rw [List.length_append, List.length_map] at this; simp at this; have := HA2.out; omega)
     have HW3 := Lib.hid hw3
     clear hb3 hw3 hx
     rcases q4 with ⟨m1, m2, m3⟩ | ⟨m1, m2, m3, m4⟩
     ·rw [m2] at hfr
      have hslx := fun w => sl_mid R p R.length (p : Int) (R.length : Int) rfl rfl (by omega) (by omega) w
      rw [show R.length - p = x.length by omega, q3] at hslx
      have HEND : Hid (k + 1 = ls.length) := Lib.hid m1
      clear m1 m2 m3 q3 hd
      go_wp2_with (first | (go_at_call 78; refine (hfr _).mono ?_; rintro e w1 ⟨rfl, rfl⟩) | (at_builtin; rw [HW3.out]; refine H.wpList_appT rfl (.tmp 71) (.tmp 76) rfl rfl HO3.out (g := wq.heap.size) (c := 1) (x1 := x) rfl (HG3.out 0 _ rfl).1 HTL.out HS3.out ?_; intro v' w4 hown hb4; have HO4 := Lib.hid hown; have HB4 : Hid (Below w0.heap.size w0 w4) := Lib.hid (HB3.out.trans hb4); clear hown hb4))
      refine ⟨⟨_, _, _, _, _, _, _, _, _, _, _, _, _, _, _, _, _, _, _, _, _, _, _, _, _, _, _, _, _, _, _, _, _, _, ⟨k + 1, R.length + 2, by go_num, by omega, by omega, Lib.hid (by rw [HTK.out]; exact HO4.out), Lib.hid (.inr ⟨HEND.out, rfl⟩), HB4⟩, rfl⟩, ?_⟩
      simp [intOf]; omega
     ·obtain ⟨Q, hQ⟩ : ∃ q, p + x.length = q := ⟨_, rfl⟩
      rw [m2, hQ] at hfr
      rw [hQ] at m3 m4 q1
      have hslx := fun w => sl_mid R p Q (p : Int) (Q : Int) rfl rfl (by omega) (by omega) w
      rw [show Q - p = x.length by omega, q3] at hslx
      have hQ0 : ¬ (Q : Int) < 0 := by omega
      have HD4 := Lib.hid m4
      clear m2 m4 q3 hd
      go_wp2_with (first | (go_at_call 78; refine (hfr _).mono ?_; rintro e w1 ⟨rfl, rfl⟩) | (at_builtin; rw [HW3.out]; refine H.wpList_appT rfl (.tmp 71) (.tmp 76) rfl rfl HO3.out (g := wq.heap.size) (c := 1) (x1 := x) rfl (HG3.out 0 _ rfl).1 HTL.out HS3.out ?_; intro v' w4 hown hb4; have HO4 := Lib.hid hown; have HB4 : Hid (Below w0.heap.size w0 w4) := Lib.hid (HB3.out.trans hb4); clear hown hb4))
      refine ⟨⟨_, _, _, _, _, _, _, _, _, _, _, _, _, _, _, _, _, _, _, _, _, _, _, _, _, _, _, _, _, _, _, _, _, _, ⟨k + 1, Q + 2, by go_num, by omega, by omega, Lib.hid (by rw [HTK.out]; exact HO4.out), Lib.hid (.inl ⟨m1, m3, HD4.out⟩), HB4⟩, rfl⟩, ?_⟩
      simp [intOf]; omega
    ·have hk' : k = ls.length := hk2
     have g1 : ¬ (p : Int) < (R.length : Int) := by omega
     have g2 : ((p : Int) == (R.length : Int)) = false := beq_false_of_ne (by omega)
     obtain ⟨A9, n9, c9, hl9⟩ : ∃ A n c, u10 = .slice A n c := by
      obtain ⟨A, c, e, _⟩ := H.OwnS.txts HO.out
      exact ⟨A, _, c, e⟩
     subst hl9
     have HT : Hid (H.Txts wq (.slice A9 n9 c9) ls) := Lib.hid (by have h := H.OwnS.txts HO.out; rw [List.take_of_length_le (by omega)] at h; exact h)
     have hans := fun (w5 : World) (ht : H.Txts w5 (.slice A9 n9 c9) ls) => answerD_any (sn : Int) a.hs a.b J (.slice A9 n9 c9) w5 (by rw [show ls = a.hs.map H.lineH ++ [H.clLine a.b.length] from HLS.out.symm] at ht; exact ht) HA1.out HA2.out HA3.out HJL.out HA4.out
     unfold AnsR H.ansV at hans
     dsimp only at hans
     clear hp2 hk2
     go_upto_region 25 with fail
     refine hstart (S := fun _ => True) (by kernel_rfl) (by repeat (first | exact PG.body | refine PG.then_ ?_ | refine PG.inBlock ?_)) ?_ (fun hPF hHeld => ?_)
     ·exact trivial
     refine htake (i := 0) (v := .int .i64 (sn : Int)) rfl (by kernel_rfl) (by kernel_rfl) (by kernel_rfl) hPF (Or.inl ⟨by kernel_rfl, ?_⟩) hHeld ?_
     ·intro u p0; go_simp
     refine htake (i := 1) (v := .slice A9 n9 c9) rfl (by kernel_rfl) (by kernel_rfl) (by kernel_rfl) hPF (Or.inl ⟨by kernel_rfl, ?_⟩) hHeld ?_
     ·intro u p0; go_simp
     refine htake (i := 2) (v := .string ⟨S.toArray⟩) rfl (by kernel_rfl) (by kernel_rfl) (by kernel_rfl) hPF (Or.inl ⟨by kernel_rfl, ?_⟩) hHeld ?_
     ·intro u p0; go_simp
     refine htake (i := 3) (v := .int .i64 (N : Int)) rfl (by kernel_rfl) (by kernel_rfl) (by kernel_rfl) hPF (Or.inl ⟨by kernel_rfl, ?_⟩) hHeld ?_
     ·intro u p0; go_simp
     refine htake (i := 4) (v := .string ⟨J.toArray⟩) rfl (by kernel_rfl) (by kernel_rfl) (by kernel_rfl) hPF (Or.inl ⟨by kernel_rfl, ?_⟩) hHeld ?_
     ·intro u p0; go_simp
     refine htake (i := 5) (v := .string ⟨S.toArray⟩) rfl (by kernel_rfl) (by kernel_rfl) (by kernel_rfl) hPF (Or.inl ⟨by kernel_rfl, ?_⟩) hHeld ?_
     ·intro u p0; go_simp
     refine htake (i := 6) (v := .int .i64 (N : Int)) rfl (by kernel_rfl) (by kernel_rfl) (by kernel_rfl) hPF (Or.inl ⟨by kernel_rfl, ?_⟩) hHeld ?_
     ·intro u p0; go_simp
     refine htake (i := 7) (v := .int .i64 ((N : Int) + 4)) rfl (by kernel_rfl) (by kernel_rfl) (by kernel_rfl) hPF (Or.inl ⟨by kernel_rfl, ?_⟩) hHeld ?_
     ·intro u p0; go_simp; try (rw [IntKind.wrap_i64]; omega)
     refine htake (i := 8) (v := .string ⟨a.b.toArray⟩) rfl (by kernel_rfl) (by kernel_rfl) (by kernel_rfl) hPF (Or.inl ⟨by kernel_rfl, ?_⟩) hHeld ?_
     ·intro u p0; go_simp
     refine wpAnyH_ready (rs := [9]) (by kernel_rfl) (by simp) ?_
     refine AllReadyH.cons (i := 9) rfl (fun K hK => ?_) AllReadyH.nil
     go_simp
     go_at_call 80
     refine (hans wq.drew (H.Txts.below HT.out ((Below.refl wq.heap.size wq).drew) (Nat.le_refl _))).mono ?_
     rintro e w5 ⟨hb, h, rfl, hh⟩
     obtain ⟨A5, c5, rfl⟩ := H.OwnH.form hh
     have hb5 : Below wq.heap.size wq w5 := (Below.refl wq.heap.size wq).drew.trans hb
     have HH5 := Lib.hid hh
     have HB5 : Hid (Below w.heap.size w w5) := Lib.hid (HB0.out.trans ((HBq.out.trans (hb5.mono HBq.out.size)).mono HB0.out.size))
     have HR5 : Hid (Bk w5 w.heap.size _) := Lib.hid (HR0.out.below (HBq.out.trans (hb5.mono HBq.out.size)) HS1.out)
     obtain ⟨r0, rf0⟩ := HR5.out 0 _ rfl
     obtain ⟨r1, rf1⟩ := HR5.out 1 _ rfl
     obtain ⟨r2, rf2⟩ := HR5.out 2 _ rfl
     obtain ⟨c0, -⟩ := (((HR5.out.set 0 (.int .i64 (sn : Int))).set 1 (.slice A5 a.hs.length c5)).set 2 (.string ⟨a.b.toArray⟩)) 0 _ rfl
     obtain ⟨c1, -⟩ := (((HR5.out.set 0 (.int .i64 (sn : Int))).set 1 (.slice A5 a.hs.length c5)).set 2 (.string ⟨a.b.toArray⟩)) 1 _ rfl
     obtain ⟨c2, -⟩ := (((HR5.out.set 0 (.int .i64 (sn : Int))).set 1 (.slice A5 a.hs.length c5)).set 2 (.string ⟨a.b.toArray⟩)) 2 _ rfl
     clear hb hh hb5
     refine hK.out _ _ ?_ (fun hHeld => ?_)
     ·exact trivial
     clear hK K
     refine htake (i := 10) (v := .agg #[.int .i64 (sn : Int), .slice A5 a.hs.length c5, .string ⟨a.b.toArray⟩]) rfl (by kernel_rfl) (by kernel_rfl) (by kernel_rfl) hPF (Or.inl ⟨by kernel_rfl, ?_⟩) hHeld ?_
     ·intro u p0; go_simp
     refine htake (i := 11) (v := .int .i64 0) rfl (by kernel_rfl) (by kernel_rfl) (by kernel_rfl) hPF (Or.inl ⟨by kernel_rfl, ?_⟩) hHeld ?_
     ·intro u p0; go_simp
     refine wpAnyH_ready (rs := [12]) (by kernel_rfl) (by simp) ?_
     refine AllReadyH.cons (i := 12) rfl (fun K hK => ?_) AllReadyH.nil
     go_simp
     refine hK.out _ _ ?_ (fun hHeld => ?_)
     ·exact trivial
     clear hK K
     refine wpAnyH_ready (rs := [13]) (by kernel_rfl) (by simp) ?_
     refine AllReadyH.cons (i := 13) rfl (fun K hK => ?_) AllReadyH.nil
     go_simp
     refine hK.out _ _ ?_ (fun hHeld => ?_)
     ·exact trivial
     clear hK K
     refine wpAnyH_done (by kernel_rfl) ?_ _
     go_wp2_with fail
     refine bodyPost_ret (v := .tuple #[.agg #[.int .i64 (sn : Int), .slice A5 a.hs.length c5, .string ⟨a.b.toArray⟩], .int .i64 0]) (by simp [results, Tryz.results36, go_sem, c0, c1, c2]; try rfl) rfl ?_
     refine ⟨(((HB5.out.setCell (p := ⟨w.heap.size, 0, none⟩) (Nat.le_refl _) _).setCell (p := ⟨w.heap.size, 1, none⟩) (Nat.le_refl _) _).setCell (p := ⟨w.heap.size, 2, none⟩) (Nat.le_refl _) _), .slice A5 a.hs.length c5, by unfold H.ansV; rw [HSN.out], ?_⟩
     have hlt : w.heap.size < wq.drew.heap.size := Nat.lt_of_lt_of_le HS1.out HBq.out.size
     exact ownH_base (H.OwnH.setCell (H.OwnH.setCell (H.OwnH.setCell HH5.out (p := ⟨w.heap.size, 0, none⟩) hlt _) (p := ⟨w.heap.size, 1, none⟩) hlt _) (p := ⟨w.heap.size, 2, none⟩) hlt _) (Nat.le_of_lt hlt)
end Go.Proofs.YtpdedfpacklnoaaGreatDoor
set_option maxRecDepth 100000
namespace Go.Proofs.YtpdedfpacklnoaaGreatDoor
open Go.RowKit Go.BL Go.Ct Go.Sl

/-- An answer that can be written. -/
def Good (a : H.Ans) : Prop := (H.reasonL a.st ≠ [] ∧ a.hs.all H.fieldL = true ∧ a.hs.length < 32 ∧ a.b.length ≤ 4096 ∧ (H.headA a).length ≤ 65540) ∧ ∀ x ∈ a.hs, x.1.length ≤ 100000 ∧ x.2.length ≤ 100000
theorem good_ref (st : Int) : Good (refA st) := ⟨refA_wr st, fun x hx => by cases hx⟩
theorem good_answer (kind st : Int) (c : Ct) (hp : ∀ e ∈ c.es, e.p < 18446744073709551616) : Good (answerL kind st c) := by
 refine ⟨answer_wr kind st c hp, ?_⟩
 unfold answerL
 by_cases h0 : st ≠ 200
 ·rw [if_pos h0]; intro x hx; cases hx
 rw [if_neg h0]
 by_cases h1 : canC c ≠ 0
 ·rw [if_pos h1]; intro x hx; cases hx
 rw [if_neg h1]
 have ht := tok_len (Decidable.not_not.1 h1) hp
 split
 ·intro x hx; rw [List.mem_singleton.1 hx]; exact ⟨by show 12 ≤ 100000; omega, by show (tokT c).length ≤ 100000; omega⟩
 ·intro x hx; rw [List.mem_singleton.1 hx]; exact ⟨by show 12 ≤ 100000; omega, by show (tokT c).length ≤ 100000; omega⟩
def WrO (a : H.Ans) (w : World) (e : Ending) (w' : World) : Prop := Below w.heap.size w w' ∧ ∃ v, e = .returned (.tuple #[v, .int .i64 0]) ∧ H.Bsl w' v (H.headA a ++ a.b)
theorem write_good {a : H.Ans} (g : Good a) (h : Value) (w : World) (hd : H.Hdrs w h a.hs) (ht : Tab w) : Calls Tryz.prog 35 #[H.ansV a h] w (WrO a w) := by
 obtain ⟨k, hk, h1, h2⟩ := H.st_range g.1.1
 refine (H.write_any a h w hd ht ⟨by omega, by omega⟩ (by have := g.1.2.2.2.1; omega) (by have := g.1.2.2.2.2; omega)).mono ?_
 rw [wr_of g.1]
 intro e w' hx
 exact hx
theorem same_self (a : H.Ans) : H.sameA a a = true := by unfold H.sameA; simp
theorem read_good {a : H.Ans} (g : Good a) (v : Value) (w : World) (hv : H.Bsl w v (H.headA a ++ a.b)) : Calls Tryz.prog 36 #[v] w (AnsR a w) := readD_any a v w hv g.1.1 g.1.2.1 g.1.2.2.1 g.1.2.2.2.1 g.1.2.2.2.2 g.2
set_option maxHeartbeats 16000000 in
theorem takes_law (hmk : MakeC) (haw : AwkC) (kind id st : Int) (c : Ct) (ev mv cv : Value) (w : World) (he : Ents w ev c.es) (hm : Dots w mv c.x.ms) (hc : Dots w cv c.x.cl) (hcp : ∀ A n c, ev = .slice A n c → n ≤ c)
  (hok : ∀ y ∈ c.es, y.it.length ≤ 1048576 ∧ y.p < 18446744073709551616) (hg : Gnd w) :
  Calls Tryz.prog 10 #[.int .i64 kind, .agg #[.int .i64 id, .int .i64 st, ev, mv, cv]] w (RetV (.bool true) w) := by
 obtain ⟨w0, hw0⟩ : ∃ y, w.alloc (.cells #[.int .i64 id, .int .i64 st, ev, mv, cv] 64) = y := ⟨_, rfl⟩
 have HB0 : Hid (Below w.heap.size w w0) := Lib.hid (by rw [← hw0]; exact (Below.refl _ _).alloc (Nat.le_refl _) _)
 have HS0 : Hid (w.heap.size < w0.heap.size) := Lib.hid (by rw [← hw0]; simp)
 have HA : Hid (Bk w0 w.heap.size [.int .i64 id, .int .i64 st, ev, mv, cv]) := Lib.hid (by rw [← hw0]; exact Bk.new w _ 64 rfl)
 have HG := Lib.hid hg
 have HAW := Lib.hid (fun w => awake_any haw w)
 have han : ∀ w1, Below w.heap.size w w1 → Calls Tryz.prog 29 #[.int .i64 kind, .agg #[.int .i64 id, .int .i64 st, ev, mv, cv]] w1 (AnsO (answerL kind st c) w1) := fun w1 hb => answer_of kind st id c ev mv cv w1 (he.below hb (Nat.le_refl _)) (hm.below hb (Nat.le_refl _)) (hc.below hb (Nat.le_refl _)) hcp (hg.below hb).tab
  (fun w2 hb2 => hmk c ev mv cv w2 ((he.below hb (Nat.le_refl _)).below hb2 (Nat.le_refl _)) ((hm.below hb (Nat.le_refl _)).below hb2 (Nat.le_refl _)) ((hc.below hb (Nat.le_refl _)).below hb2 (Nat.le_refl _)) hcp (fun e he => ⟨by have := (hok e he).1; omega, (hok e he).2⟩))
 have hrf := fun w => refuseA_any st w
 have hga := good_answer kind st c (fun e he => (hok e he).2)
 have hgr := good_ref st
 obtain ⟨⟨s1, hs1, b1⟩, ha1⟩ : ∃ y, answerL kind st c = y := ⟨_, rfl⟩
 obtain ⟨⟨s2, hs2, b2⟩, ha2⟩ : ∃ y, refA st = y := ⟨_, rfl⟩
 have hrv : refV st = .agg #[.int .i64 s2, .slice none 0 0, .string ⟨b2.toArray⟩] ∧ hs2 = [] := by
  unfold refA at ha2
  injection ha2 with e1 e2 e3
  exact ⟨by unfold refV; rw [← e1, ← e3], e2.symm⟩
 rw [ha1] at hga
 rw [ha2] at hgr
 rw [hrv.1] at hrf
 obtain ⟨-, rfl⟩ := hrv
 simp only [ha1] at han
 unfold AnsO H.ansV at han
 unfold RetV at hrf
 have HGA := Lib.hid hga
 have HGR := Lib.hid hgr
 obtain ⟨q0, -⟩ := HA.out 0 _ rfl
 obtain ⟨q1, -⟩ := HA.out 1 _ rfl
 obtain ⟨q2, -⟩ := HA.out 2 _ rfl
 obtain ⟨q3, -⟩ := HA.out 3 _ rfl
 obtain ⟨q4, -⟩ := HA.out 4 _ rfl
 clear he hm hc hcp hok hg hmk haw hga hgr ha1 ha2
 go_enter Tryz.func10, Tryz.ntmps10
 go_upto_region 1 with fail
 clear hw0
 refine hstart (S := fun u => u.cell? ⟨w.heap.size, 0, none⟩ = some (.int .i64 id) ∧ u.cell? ⟨w.heap.size, 1, none⟩ = some (.int .i64 st) ∧ u.cell? ⟨w.heap.size, 2, none⟩ = some (ev) ∧ u.cell? ⟨w.heap.size, 3, none⟩ = some (mv) ∧ u.cell? ⟨w.heap.size, 4, none⟩ = some (cv)) (by kernel_rfl) (by repeat (first | exact PG.body | refine PG.then_ ?_ | refine PG.inBlock ?_)) ?_ (fun hPF hHeld => ?_)
 ·exact ⟨q0, q1, q2, q3, q4⟩
 refine htake (i := 8) (v := .int .i64 0) rfl (by kernel_rfl) (by kernel_rfl) (by kernel_rfl) hPF (Or.inl ⟨by kernel_rfl, ?_⟩) hHeld ?_
 ·intro u hS; obtain ⟨p0, p1, p2, p3, p4⟩ := hS; go_simp
 refine htake (i := 0) (v := .int .i64 kind) rfl (by kernel_rfl) (by kernel_rfl) (by kernel_rfl) hPF (Or.inl ⟨by kernel_rfl, ?_⟩) hHeld ?_
 ·intro u hS; obtain ⟨p0, p1, p2, p3, p4⟩ := hS; go_simp
 refine htake (i := 1) (v := .agg #[.int .i64 id, .int .i64 st, ev, mv, cv]) rfl (by kernel_rfl) (by kernel_rfl) (by kernel_rfl) hPF (Or.inl ⟨by kernel_rfl, ?_⟩) hHeld ?_
 ·intro u hS; obtain ⟨p0, p1, p2, p3, p4⟩ := hS; go_simp
 refine htake (i := 3) (v := .pointer (some ⟨w.heap.size, 1, none⟩)) rfl (by kernel_rfl) (by kernel_rfl) (by kernel_rfl) hPF (Or.inl ⟨by kernel_rfl, ?_⟩) hHeld ?_
 ·intro u hS; obtain ⟨p0, p1, p2, p3, p4⟩ := hS; go_simp
 refine htake (i := 4) (v := .int .i64 st) rfl (by kernel_rfl) (by kernel_rfl) (by kernel_rfl) hPF (Or.inl ⟨by kernel_rfl, ?_⟩) hHeld ?_
 ·intro u hS; obtain ⟨p0, p1, p2, p3, p4⟩ := hS; go_simp
 refine wpAnyH_ready (rs := [2]) (by kernel_rfl) (by simp) ?_
 refine AllReadyH.cons (i := 2) rfl (fun K hK => ?_) AllReadyH.nil
 go_simp
 go_at_call 29
 refine (han w0.drew HB0.out.drew).mono ?_
 rintro e w1 ⟨hb, h, rfl, hh⟩
 obtain ⟨A1, c1, rfl⟩ := H.Hdrs.form hh
 have hb' : Below w0.heap.size w0 w1 := (Below.refl w0.heap.size w0).drew.trans hb
 have HB1 := Lib.hid hb'
 have HH1 := Lib.hid hh
 have r0 := old_cell hb' HS0.out q0
 have r1 := old_cell hb' HS0.out q1
 have r2 := old_cell hb' HS0.out q2
 have r3 := old_cell hb' HS0.out q3
 have r4 := old_cell hb' HS0.out q4
 clear hb hb' hh han
 refine hK.out _ _ ?_ (fun hHeld => ?_)
 ·exact ⟨r0, r1, r2, r3, r4⟩
 clear hK K
 refine wpAnyH_ready (rs := [5]) (by kernel_rfl) (by simp) ?_
 refine AllReadyH.cons (i := 5) rfl (fun K hK => ?_) AllReadyH.nil
 go_simp
 go_at_call 32
 refine (hrf _).mono ?_
 rintro e w2 ⟨rfl, hb⟩
 have HB2 := Lib.hid hb
 have HS1 : w.heap.size < w1.heap.size := Nat.lt_of_lt_of_le HS0.out HB1.out.size
 have s0 := old_cell hb HS1 r0
 have s1q := old_cell hb HS1 r1
 have s2q := old_cell hb HS1 r2
 have s3 := old_cell hb HS1 r3
 have s4 := old_cell hb HS1 r4
 clear hb hrf
 refine hK.out _ _ ?_ (fun hHeld => ?_)
 ·exact ⟨s0, s1q, s2q, s3, s4⟩
 clear hK K
 refine wpAnyH_ready (rs := [6]) (by kernel_rfl) (by simp) ?_
 refine AllReadyH.cons (i := 6) rfl (fun K hK => ?_) AllReadyH.nil
 go_simp
 obtain ⟨w3, hw3⟩ : ∃ y, w2.alloc (.cells #[.int .i64 s1, .slice A1 hs1.length c1, .string ⟨b1.toArray⟩, .int .i64 s2, .slice none 0 0, .string ⟨b2.toArray⟩] 67) = y := ⟨_, rfl⟩
 have hb3 : Below w2.heap.size w2 w3 := by rw [← hw3]; exact (Below.refl _ _).alloc (Nat.le_refl _) _
 have HG3 : Hid (Bk w3 w2.heap.size [.int .i64 s1, .slice A1 hs1.length c1, .string ⟨b1.toArray⟩, .int .i64 s2, .slice none 0 0, .string ⟨b2.toArray⟩]) := Lib.hid (by rw [← hw3]; exact Bk.new w2 _ 67 rfl)
 have HS2 : w.heap.size < w2.heap.size := Nat.lt_of_lt_of_le HS1 HB2.out.size
 have HB3 : Hid (Below w.heap.size w w3) := Lib.hid ((HB0.out.trans (HB1.out.mono HB0.out.size)).trans ((HB2.out.trans (hb3.mono HB2.out.size)).mono (Nat.le_of_lt HS1)))
 have HH3 : Hid (H.Hdrs w3 (.slice A1 hs1.length c1) hs1) := Lib.hid (H.Hdrs.below HH1.out (HB2.out.trans (hb3.mono HB2.out.size)) (Nat.le_refl _))
 have HS3 : Hid (w2.heap.size < w3.heap.size) := Lib.hid (by rw [← hw3]; simp)
 have t0 := old_cell hb3 HS2 s0
 have t1 := old_cell hb3 HS2 s1q
 have t2 := old_cell hb3 HS2 s2q
 have t3 := old_cell hb3 HS2 s3
 have t4 := old_cell hb3 HS2 s4
 obtain ⟨g, hg⟩ : ∃ y, w2.heap.size = y := ⟨_, rfl⟩
 rw [hg] at HG3 HS3
 try rw [hg]
 try rw [hw3]
 clear hb3 hw3 hg
 refine hK.out _ _ ?_ (fun hHeld => ?_)
 ·exact ⟨t0, t1, t2, t3, t4⟩
 clear hK K
 refine wpAnyH_ready (rs := [7]) (by kernel_rfl) (by simp) ?_
 refine AllReadyH.cons (i := 7) rfl (fun K hK => ?_) AllReadyH.nil
 go_simp
 refine hK.out _ _ ?_ (fun hHeld => ?_)
 ·exact ⟨t0, t1, t2, t3, t4⟩
 clear hK K
 refine wpAnyH_done (by kernel_rfl) ?_ _
 clear q0 q1 q2 q3 q4 r0 r1 r2 r3 r4 s0 s1q s2q s3 s4 t0 t1 t2 t3 t4
 go_wp2_with fail
 go_loopw [19] (fun i wr => ∃ k : Nat, i = .int .i64 (k : Int) ∧ k ≤ 2 ∧ Hid (Below w3.heap.size w3 wr)) (fun i _ => 2 - (intOf i).toNat)
 case atStart => exact ⟨0, rfl, by omega, Lib.hid (Below.refl _ _)⟩
 case round =>
  obtain ⟨k, rfl, hk, HBr⟩ := hrel
  rcases (by omega : k = 0 ∨ k = 1 ∨ k = 2) with rfl | rfl | rfl
  ·have z0 := old_cell HBr.out HS3.out (HG3.out 0 _ rfl).1
   have z1 := old_cell HBr.out HS3.out (HG3.out 1 _ rfl).1
   have z2 := old_cell HBr.out HS3.out (HG3.out 2 _ rfl).1
   obtain ⟨X, hX⟩ : ∃ y, wr.heap.size = y := ⟨_, rfl⟩
   obtain ⟨w4, hw4⟩ : ∃ y, wr.alloc (.cells #[.int .i64 s1, .slice A1 hs1.length c1, .string ⟨b1.toArray⟩] 67) = y := ⟨_, rfl⟩
   have hb4 : Below wr.heap.size wr w4 := by rw [← hw4]; exact (Below.refl _ _).alloc (Nat.le_refl _) _
   have HX4 : Hid (Bk w4 X [.int .i64 s1, .slice A1 hs1.length c1, .string ⟨b1.toArray⟩]) := Lib.hid (by rw [← hw4]; exact Bk.new wr _ 67 hX.symm)
   have HB4 : Hid (Below w3.heap.size w3 w4) := Lib.hid (HBr.out.trans (hb4.mono HBr.out.size))
   have HS4 : Hid (X < w4.heap.size) := Lib.hid (by rw [← hw4, ← hX]; simp)
   have HH4 : Hid (H.Hdrs w4 (.slice A1 hs1.length c1) hs1) := Lib.hid (H.Hdrs.below HH3.out HB4.out (Nat.le_refl _))
   have HW4 := Lib.hid hw4
   have HXX := Lib.hid hX
   clear hw4 hX hb4
   go_upto_region 4 with fail
   try rw [HXX.out]
   try rw [HW4.out]
   clear HXX HW4 z0 z1 z2
   obtain ⟨x0, -⟩ := HX4.out 0 _ rfl
   obtain ⟨x1, -⟩ := HX4.out 1 _ rfl
   obtain ⟨x2, -⟩ := HX4.out 2 _ rfl
   have hwr := write_good HGA.out (.slice A1 hs1.length c1) w4 HH4.out (HG.out.below (HB3.out.trans (HB4.out.mono HB3.out.size))).tab
   unfold WrO H.ansV at hwr
   go_upto_region 7 with (go_at_call 35; refine hwr.mono ?_; clear hwr; rintro e w5 ⟨hb, v, rfl, hv⟩; have HV5 := Lib.hid hv; have HB5 := Lib.hid hb; clear hb hv)
   have hrd := read_good HGA.out v w5 HV5.out
   unfold AnsR H.ansV at hrd
   clear x0 x1 x2
   go_upto_region 8 with (go_at_call 36; refine hrd.mono ?_; clear hrd; rintro e w6 ⟨hb, h6, rfl, ho⟩; obtain ⟨A6, c6, rfl⟩ := H.OwnH.form ho; have HO6 := Lib.hid ho; have HB6 := Lib.hid hb; clear hb ho)
   obtain ⟨Y, hY⟩ : ∃ y, w6.heap.size = y := ⟨_, rfl⟩
   obtain ⟨w7, hw7⟩ : ∃ y, w6.alloc (.cells #[.int .i64 s1, .slice A6 hs1.length c6, .string ⟨b1.toArray⟩] 67) = y := ⟨_, rfl⟩
   have hb7 : Below w6.heap.size w6 w7 := by rw [← hw7]; exact (Below.refl _ _).alloc (Nat.le_refl _) _
   have HB47 : Hid (Below w4.heap.size w4 w7) := Lib.hid ((HB5.out.trans (HB6.out.mono HB5.out.size)).trans (hb7.mono (Nat.le_trans HB5.out.size HB6.out.size)))
   have HX7 : Hid (Bk w7 X _) := Lib.hid (HX4.out.below HB47.out HS4.out)
   have HY7 : Hid (Bk w7 Y [.int .i64 s1, .slice A6 hs1.length c6, .string ⟨b1.toArray⟩]) := Lib.hid (by rw [← hw7]; exact Bk.new w6 _ 67 hY.symm)
   have HB7 : Hid (Below w3.heap.size w3 w7) := Lib.hid (HB4.out.trans (HB47.out.mono HB4.out.size))
   have hsm := H.sameA_any ⟨s1, hs1, b1⟩ ⟨s1, hs1, b1⟩ (.slice A1 hs1.length c1) (.slice A6 hs1.length c6) w7 (H.Hdrs.below HH4.out HB47.out (Nat.le_refl _)) (H.Hdrs.below (H.OwnH.hdrs HO6.out (by have h32 : (hs1 : List H.Hdr).length < 32 := HGA.out.1.2.2.1; show (hs1 : List H.Hdr).length ≤ 4611686018427387903; omega)) hb7 (Nat.le_refl _))
   rw [same_self] at hsm
   unfold RetV H.ansV at hsm
   dsimp only at hsm
   have HW7 := Lib.hid hw7
   have HYY := Lib.hid hY
   clear hw7 hY hb7
   try rw [HYY.out]
   try rw [HW7.out]
   clear HYY HW7
   obtain ⟨x0, -⟩ := HX7.out 0 _ rfl
   obtain ⟨x1, -⟩ := HX7.out 1 _ rfl
   obtain ⟨x2, -⟩ := HX7.out 2 _ rfl
   obtain ⟨y0, -⟩ := HY7.out 0 _ rfl
   obtain ⟨y1, -⟩ := HY7.out 1 _ rfl
   obtain ⟨y2, -⟩ := HY7.out 2 _ rfl
   go_wp2_with (go_at_call 30; refine hsm.mono ?_; clear hsm; rintro e w8 ⟨rfl, hb⟩; have HB8 : Hid (Below w3.heap.size w3 w8) := Lib.hid (HB7.out.trans (hb.mono HB7.out.size)); clear hb)
   exact ⟨⟨1, by go_num, by omega, HB8⟩, by simp [intOf]⟩
  ·have z0 := old_cell HBr.out HS3.out (HG3.out 3 _ rfl).1
   have z1 := old_cell HBr.out HS3.out (HG3.out 4 _ rfl).1
   have z2 := old_cell HBr.out HS3.out (HG3.out 5 _ rfl).1
   obtain ⟨X, hX⟩ : ∃ y, wr.heap.size = y := ⟨_, rfl⟩
   obtain ⟨w4, hw4⟩ : ∃ y, wr.alloc (.cells #[.int .i64 s2, .slice none 0 0, .string ⟨b2.toArray⟩] 67) = y := ⟨_, rfl⟩
   have hb4 : Below wr.heap.size wr w4 := by rw [← hw4]; exact (Below.refl _ _).alloc (Nat.le_refl _) _
   have HX4 : Hid (Bk w4 X [.int .i64 s2, .slice none 0 0, .string ⟨b2.toArray⟩]) := Lib.hid (by rw [← hw4]; exact Bk.new wr _ 67 hX.symm)
   have HB4 : Hid (Below w3.heap.size w3 w4) := Lib.hid (HBr.out.trans (hb4.mono HBr.out.size))
   have HS4 : Hid (X < w4.heap.size) := Lib.hid (by rw [← hw4, ← hX]; simp)
   have HH4 : Hid (H.Hdrs w4 (.slice none 0 0) []) := Lib.hid (hdrs_nil _)
   have HW4 := Lib.hid hw4
   have HXX := Lib.hid hX
   clear hw4 hX hb4
   go_upto_region 4 with fail
   try rw [HXX.out]
   try rw [HW4.out]
   clear HXX HW4 z0 z1 z2
   obtain ⟨x0, -⟩ := HX4.out 0 _ rfl
   obtain ⟨x1, -⟩ := HX4.out 1 _ rfl
   obtain ⟨x2, -⟩ := HX4.out 2 _ rfl
   have hwr := write_good HGR.out (.slice none 0 0) w4 HH4.out (HG.out.below (HB3.out.trans (HB4.out.mono HB3.out.size))).tab
   unfold WrO H.ansV at hwr
   go_upto_region 7 with (go_at_call 35; refine hwr.mono ?_; clear hwr; rintro e w5 ⟨hb, v, rfl, hv⟩; have HV5 := Lib.hid hv; have HB5 := Lib.hid hb; clear hb hv)
   have hrd := read_good HGR.out v w5 HV5.out
   unfold AnsR H.ansV at hrd
   clear x0 x1 x2
   go_upto_region 8 with (go_at_call 36; refine hrd.mono ?_; clear hrd; rintro e w6 ⟨hb, h6, rfl, ho⟩; obtain ⟨A6, c6, rfl⟩ := H.OwnH.form ho; have HO6 := Lib.hid ho; have HB6 := Lib.hid hb; clear hb ho)
   obtain ⟨Y, hY⟩ : ∃ y, w6.heap.size = y := ⟨_, rfl⟩
   obtain ⟨w7, hw7⟩ : ∃ y, w6.alloc (.cells #[.int .i64 s2, .slice A6 0 c6, .string ⟨b2.toArray⟩] 67) = y := ⟨_, rfl⟩
   have hb7 : Below w6.heap.size w6 w7 := by rw [← hw7]; exact (Below.refl _ _).alloc (Nat.le_refl _) _
   have HB47 : Hid (Below w4.heap.size w4 w7) := Lib.hid ((HB5.out.trans (HB6.out.mono HB5.out.size)).trans (hb7.mono (Nat.le_trans HB5.out.size HB6.out.size)))
   have HX7 : Hid (Bk w7 X _) := Lib.hid (HX4.out.below HB47.out HS4.out)
   have HY7 : Hid (Bk w7 Y [.int .i64 s2, .slice A6 0 c6, .string ⟨b2.toArray⟩]) := Lib.hid (by rw [← hw7]; exact Bk.new w6 _ 67 hY.symm)
   have HB7 : Hid (Below w3.heap.size w3 w7) := Lib.hid (HB4.out.trans (HB47.out.mono HB4.out.size))
   have hsm := H.sameA_any ⟨s2, [], b2⟩ ⟨s2, [], b2⟩ (.slice none 0 0) (.slice A6 0 c6) w7 (H.Hdrs.below HH4.out HB47.out (Nat.le_refl _)) (H.Hdrs.below (H.OwnH.hdrs HO6.out (by have h32 : ([] : List H.Hdr).length < 32 := HGR.out.1.2.2.1; show ([] : List H.Hdr).length ≤ 4611686018427387903; omega)) hb7 (Nat.le_refl _))
   rw [same_self] at hsm
   unfold RetV H.ansV at hsm
   dsimp only at hsm
   have HW7 := Lib.hid hw7
   have HYY := Lib.hid hY
   clear hw7 hY hb7
   try rw [HYY.out]
   try rw [HW7.out]
   clear HYY HW7
   obtain ⟨x0, -⟩ := HX7.out 0 _ rfl
   obtain ⟨x1, -⟩ := HX7.out 1 _ rfl
   obtain ⟨x2, -⟩ := HX7.out 2 _ rfl
   obtain ⟨y0, -⟩ := HY7.out 0 _ rfl
   obtain ⟨y1, -⟩ := HY7.out 1 _ rfl
   obtain ⟨y2, -⟩ := HY7.out 2 _ rfl
   go_wp2_with (go_at_call 30; refine hsm.mono ?_; clear hsm; rintro e w8 ⟨rfl, hb⟩; have HB8 : Hid (Below w3.heap.size w3 w8) := Lib.hid (HB7.out.trans (hb.mono HB7.out.size)); clear hb)
   exact ⟨⟨2, by go_num, by omega, HB8⟩, by simp [intOf]⟩
  ·go_wp2_with (go_at_call 13; refine (HAW.out _ (HG.out.below (HB3.out.trans (HBr.out.mono HB3.out.size)))).mono ?_; rintro e w9 ⟨rfl, hb⟩; have HB9 := Lib.hid ((HB3.out.trans (HBr.out.mono HB3.out.size)).trans (hb.mono (HB3.out.trans (HBr.out.mono HB3.out.size)).size)); clear hb)
   go_ret
   exact ⟨rfl, HB9.out⟩
end Go.Proofs.YtpdedfpacklnoaaGreatDoor
