/- Contract of the document's entry: entR. Contract of the document's Decode of a cart: decodeL. -/
import Derived.Test.YtpdedfpacklnoaaGreatDoorRtRkD
import Derived.Test.YtpdedfpacklnoaaGreatDoorRtTkO
import Derived.Test.YtpdedfpacklnoaaGreatDoorRtTkV
import Derived.Test.YtpdedfpacklnoaaGreatDoorRtRfI
set_option maxRecDepth 100000
namespace Go.Proofs.YtpdedfpacklnoaaGreatDoor
open Go.RowKit Go.BL Go.Ct Go.Sl Go.Wr W

def OneRD (B g : Nat) (bs : List Nat) (r : Except Nat (En × Nat)) (w : World) (e : Ending) (w' : World) : Prop := Kept [g] w w' ∧ ∃ (x : En) (c j : Nat), e = .returned (.tuple #[entV x, .int .i64 (c : Int)]) ∧ RdrD w' B g bs j ∧
 match r with
 | .error k => c = k ∧ k ≠ 0
 | .ok (y, j') => c = 0 ∧ j = j' ∧ x = y
theorem RdrD.lts {w : World} {C g i : Nat} {bs : List Nat} (h : RdrD w C g bs i) : (∀ x ∈ bs, x < 256) ∧ bs.length ≤ maxLen := by
 obtain ⟨B, ⟨G, c, _, hr, _⟩, _⟩ := h
 exact ⟨hr.2.2.1, hr.2.1⟩
theorem entT_nums {bs ts : List Nat} {i : Nat} {it : List UInt8} (hit : ts.map UInt8.ofNat = it) : entT bs ts i = match numsR bs 4 i [] with
  | .error e => .error e
  | .ok (l, p) => match l with
   | [a, b, c, d] => tailR bs (fun p => ⟨it, ⟨(a : Int), (b : Int), (c : Int)⟩, (d : Int), p⟩) 8 0 p 0
   | _ => .error 1 := by
 obtain ⟨⟨a0, c0, p0⟩, h0⟩ : ∃ x, uintAt bs i = x := ⟨_, rfl⟩
 obtain ⟨⟨a1, c1, p1⟩, h1⟩ : ∃ x, uintAt bs p0 = x := ⟨_, rfl⟩
 obtain ⟨⟨a2, c2, p2⟩, h2⟩ : ∃ x, uintAt bs p1 = x := ⟨_, rfl⟩
 obtain ⟨⟨a3, c3, p3⟩, h3⟩ : ∃ x, uintAt bs p2 = x := ⟨_, rfl⟩
 rw [entT_eq hit h0 h1 h2 h3]
 simp only [numsR, h0, h1, h2, h3]
 by_cases e0 : c0 = 0 <;> by_cases e1 : c1 = 0 <;> by_cases e2 : c2 = 0 <;> by_cases e3 : c3 = 0 <;> simp [e0, e1, e2, e3]
set_option maxHeartbeats 16000000 in
theorem entryD_any (B g : Nat) (bs : List Nat) (i : Nat) (w : World) (h : RdrD w B g bs i) (hB : B ≤ w.heap.size) (hl : bs.length ≤ 140737488355000) : Calls Tryz.prog 144 #[.pointer (some ⟨g, 0, none⟩)] w (OneRD B g bs (entR bs i) w) := by
 have HBW := Lib.hid hB
 have HGW : Hid (g < w.heap.size) := Lib.hid (Nat.lt_of_lt_of_le h.ltB hB)
 have HRg : Hid (w.heap.size ∉ [g]) := Lib.hid (by have := HGW.out; simp; omega)
 have HLT := Lib.hid h.lts.1
 obtain ⟨y0, hy0⟩ : ∃ y, w.alloc (.cells #[.string ⟨#[]⟩, .int .i64 0, .int .i64 0, .int .i64 0, .int .i64 0, .int .u64 0] 92) = y := ⟨_, rfl⟩
 have HR0 : Hid (RdrD y0 B g bs i) := Lib.hid (by rw [← hy0]; exact h.alloc _)
 have HK0 : Hid (Kept [g] w y0) := Lib.hid (by rw [← hy0]; exact (Kept.refl _ w).alloc _)
 have HB0 : Hid (Bk y0 w.heap.size [.string ⟨#[]⟩, .int .i64 0, .int .i64 0, .int .i64 0, .int .i64 0, .int .u64 0]) := Lib.hid (by rw [← hy0]; exact Bk.new w [.string ⟨#[]⟩, .int .i64 0, .int .i64 0, .int .i64 0, .int .i64 0, .int .u64 0] 92 rfl)
 have HS0 : Hid (w.heap.size < y0.heap.size) := Lib.hid (by rw [← hy0]; simp)
 have hut := textD_any B g bs i 32 y0 HR0.out hl
 unfold RetRD at hut
 obtain ⟨⟨ts, tc, p0⟩, hT⟩ : ∃ x, textAt bs i 32 = x := ⟨_, rfl⟩
 rw [hT] at hut
 dsimp only at hut
 have HE0 : Hid (entR bs i = if tc ≠ 0 then .error tc else entT bs ts p0) := Lib.hid (by unfold entR; rw [hT])
 clear hT h hB hl
 obtain ⟨it, hit⟩ : ∃ y, ts.map UInt8.ofNat = y := ⟨_, rfl⟩
 rw [show bstr ts = ⟨it.toArray⟩ from by rw [← hit]; rfl] at hut
 have HIT := Lib.hid hit
 clear hit
 go_enter Tryz.func144, Tryz.ntmps144
 go_upto_region 1 with fail
 clear hy0
 go_wp2_with fail
 go_at_call 191
 refine hut.mono ?_
 clear hut
 rintro e x0 ⟨rfl, hr, hk⟩
 have HRt := Lib.hid hr
 have HKt := Lib.hid (HK0.out.then_ hk)
 have HBt := Lib.hid (HB0.out.kept hk HS0.out HRg.out)
 have HSt : Hid (w.heap.size < x0.heap.size) := Lib.hid (Nat.lt_of_lt_of_le HS0.out hk.size)
 clear hr hk
 by_cases htc : tc = 0
 case neg =>
  have hne : ((tc : Int) != 0) = true := bne_iff_ne.2 (by omega)
  have HV : Hid (entR bs i = .error tc) := Lib.hid (by rw [HE0.out, if_pos htc])
  obtain ⟨rr0, rf0⟩ := HBt.out 0 _ rfl
  obtain ⟨rr1, rf1⟩ := HBt.out 1 _ rfl
  obtain ⟨rr2, rf2⟩ := HBt.out 2 _ rfl
  obtain ⟨rr3, rf3⟩ := HBt.out 3 _ rfl
  obtain ⟨rr4, rf4⟩ := HBt.out 4 _ rfl
  obtain ⟨rr5, rf5⟩ := HBt.out 5 _ rfl
  have HQ := Lib.hid ((((((HBt.out.set 0 (.string ⟨#[]⟩)).set 1 (.int .i64 0)).set 2 (.int .i64 0)).set 3 (.int .i64 0)).set 4 (.int .i64 0)).set 5 (.int .u64 0))
  have q0 := (HQ.out 0 _ rfl).1
  have q1 := (HQ.out 1 _ rfl).1
  have q2 := (HQ.out 2 _ rfl).1
  have q3 := (HQ.out 3 _ rfl).1
  have q4 := (HQ.out 4 _ rfl).1
  have q5 := (HQ.out 5 _ rfl).1
  have HKF := Lib.hid ((((((HKt.out.setCell (p := ⟨w.heap.size, 0, none⟩) (.inr (Nat.le_refl _)) (.string ⟨#[]⟩)).setCell (p := ⟨w.heap.size, 1, none⟩) (.inr (Nat.le_refl _)) (.int .i64 0)).setCell (p := ⟨w.heap.size, 2, none⟩) (.inr (Nat.le_refl _)) (.int .i64 0)).setCell (p := ⟨w.heap.size, 3, none⟩) (.inr (Nat.le_refl _)) (.int .i64 0)).setCell (p := ⟨w.heap.size, 4, none⟩) (.inr (Nat.le_refl _)) (.int .i64 0)).setCell (p := ⟨w.heap.size, 5, none⟩) (.inr (Nat.le_refl _)) (.int .u64 0))
  have HRF := Lib.hid ((((((HRt.out.far (p := ⟨w.heap.size, 0, none⟩) HBW.out (.string ⟨#[]⟩)).far (p := ⟨w.heap.size, 1, none⟩) HBW.out (.int .i64 0)).far (p := ⟨w.heap.size, 2, none⟩) HBW.out (.int .i64 0)).far (p := ⟨w.heap.size, 3, none⟩) HBW.out (.int .i64 0)).far (p := ⟨w.heap.size, 4, none⟩) HBW.out (.int .i64 0)).far (p := ⟨w.heap.size, 5, none⟩) HBW.out (.int .u64 0))
  go_wp2_with fail
  refine bodyPost_ret (v := .tuple #[.agg #[.string ⟨#[]⟩, .int .i64 0, .int .i64 0, .int .i64 0, .int .i64 0, .int .u64 0], .int .i64 (tc : Int)]) (by simp [results, Tryz.results144, go_sem, q0, q1, q2, q3, q4, q5]; try rfl) rfl ?_
  exact ⟨HKF.out, ⟨[], ⟨0, 0, 0⟩, 0, 0⟩, tc, p0, rfl, HRF.out, by rw [HV.out]; exact ⟨rfl, htc⟩⟩
 subst htc
 have HE1 : Hid (entR bs i = entT bs ts p0) := Lib.hid (by rw [HE0.out, if_neg (by simp)])
 have HDg : Hid (x0.heap.size ∉ [g]) := Lib.hid (by have := HGW.out; have := HSt.out; simp; omega)
 have HNW : Hid (w.heap.size ≠ x0.heap.size) := Lib.hid (by have := HSt.out; omega)
 obtain ⟨x1, hx1⟩ : ∃ y, x0.alloc (.cells #[.int .i64 0, .int .i64 0, .int .i64 0, .int .i64 0] 241) = y := ⟨_, rfl⟩
 have HRu : Hid (RdrD x1 B g bs p0) := Lib.hid (by rw [← hx1]; exact HRt.out.alloc _)
 have HKu : Hid (Kept [g] w x1) := Lib.hid (by rw [← hx1]; exact HKt.out.alloc _)
 have HBu : Hid (Bk x1 w.heap.size [.string ⟨#[]⟩, .int .i64 0, .int .i64 0, .int .i64 0, .int .i64 0, .int .u64 0]) := Lib.hid (by rw [← hx1]; exact HBt.out.alloc _ HSt.out)
 have HDu : Hid (Bk x1 x0.heap.size (numC [] 4)) := Lib.hid (by rw [← hx1]; exact Bk.new x0 _ 241 rfl)
 have HSu : Hid (x0.heap.size < x1.heap.size) := Lib.hid (by rw [← hx1]; simp)
 go_upto_region 5 with fail
 clear hx1
 go_wp2_with fail
 go_loopw [23] (fun mv wr => ∃ (m q : Nat) (xs : List Nat), m ≤ 4 ∧ mv = .int .i64 (m : Int) ∧ Hid (RdrD wr B g bs q) ∧ Hid (Kept [g] w wr) ∧ Hid (Bk wr x0.heap.size (numC xs (4 - m))) ∧ Hid (Bk wr w.heap.size [.string ⟨#[]⟩, .int .i64 0, .int .i64 0, .int .i64 0, .int .i64 0, .int .u64 0]) ∧ Hid (x0.heap.size < wr.heap.size) ∧ Hid (xs.length = m) ∧ Hid (numsR bs (4 - m) q xs = numsR bs 4 p0 [])) (fun mv _ => 4 - (intOf mv).toNat)
 case atStart => exact ⟨0, p0, [], by omega, rfl, HRu, HKu, HDu, HBu, HSu, Lib.hid rfl, Lib.hid rfl⟩
 case round =>
  obtain ⟨m, q, xs, hm, rfl, HRq, HKq, HDq, HBq, HSq, HX, HN⟩ := hrel
  by_cases hm4 : m < 4
  ·have hm4' : (m : Int) < 4 := by omega
   have h4m : 4 - m = (4 - (m + 1)) + 1 := by omega
   rw [h4m] at HDq HN
   obtain ⟨⟨a, ca, pq⟩, hU⟩ : ∃ x, uintAt bs q = x := ⟨_, rfl⟩
   have hua := uintD_any B g bs q wr HRq.out
   unfold RetRD at hua
   rw [hU] at hua
   dsimp only at hua
   have HN2 : Hid ((if ca ≠ 0 then .error ca else numsR bs (4 - (m + 1)) pq (xs ++ [a])) = numsR bs 4 p0 []) := Lib.hid (by
    rw [← HN.out]; conv => rhs; unfold numsR
    rw [hU])
   clear hU HN
   go_wp2_with fail
   go_at_call 143
   refine hua.mono ?_
   clear hua
   rintro e xq ⟨rfl, hr, hkp⟩
   have HRe := Lib.hid hr
   have HKe := Lib.hid (HKq.out.then_ hkp)
   have HDe := Lib.hid (HDq.out.kept hkp HSq.out HDg.out)
   have HBe := Lib.hid (HBq.out.kept hkp (Nat.lt_trans HSt.out HSq.out) HRg.out)
   have HSe : Hid (x0.heap.size < xq.heap.size) := Lib.hid (Nat.lt_of_lt_of_le HSq.out hkp.size)
   clear hr hkp
   by_cases hca : ca = 0
   ·subst hca
    have HN3 := Lib.hid ((if_neg (by simp)).symm.trans HN2.out)
    obtain ⟨z0, zf⟩ := HDe.out m _ (numC_at xs _ HX.out)
    have HR3 := Lib.hid (HRe.out.far (p := ⟨x0.heap.size, m, none⟩) (Nat.le_trans HBW.out (Nat.le_of_lt HSt.out)) (.int .i64 (a : Int)))
    have HK3 := Lib.hid (HKe.out.setCell (p := ⟨x0.heap.size, m, none⟩) (.inr (Nat.le_of_lt HSt.out)) (.int .i64 (a : Int)))
    have HD3 : Hid (Bk (xq.setCell ⟨x0.heap.size, m, none⟩ (.int .i64 (a : Int))) x0.heap.size (numC (xs ++ [a]) (4 - (m + 1)))) := Lib.hid (by rw [← numC_set xs _ HX.out a]; exact HDe.out.set m _)
    have HB3 := Lib.hid (HBe.out.other (p := ⟨x0.heap.size, m, none⟩) HNW.out.symm (.int .i64 (a : Int)))
    go_wp2_with fail
    exact ⟨⟨m + 1, pq, xs ++ [a], by omega, by go_num, HR3, HK3, HD3, HB3, Lib.hid (by simpa using HSe.out), Lib.hid (by simp [HX.out]), HN3⟩, by simp [intOf]; omega⟩
   ·have hne : ((ca : Int) != 0) = true := bne_iff_ne.2 (by omega)
    have HV : Hid (entR bs i = .error ca) := Lib.hid (by rw [HE1.out, entT_nums HIT.out, ← HN2.out, if_pos hca])
    obtain ⟨rr0, rf0⟩ := HBe.out 0 _ rfl
    obtain ⟨rr1, rf1⟩ := HBe.out 1 _ rfl
    obtain ⟨rr2, rf2⟩ := HBe.out 2 _ rfl
    obtain ⟨rr3, rf3⟩ := HBe.out 3 _ rfl
    obtain ⟨rr4, rf4⟩ := HBe.out 4 _ rfl
    obtain ⟨rr5, rf5⟩ := HBe.out 5 _ rfl
    have HQ := Lib.hid ((((((HBe.out.set 0 (.string ⟨#[]⟩)).set 1 (.int .i64 0)).set 2 (.int .i64 0)).set 3 (.int .i64 0)).set 4 (.int .i64 0)).set 5 (.int .u64 0))
    have q0 := (HQ.out 0 _ rfl).1
    have q1 := (HQ.out 1 _ rfl).1
    have q2 := (HQ.out 2 _ rfl).1
    have q3 := (HQ.out 3 _ rfl).1
    have q4 := (HQ.out 4 _ rfl).1
    have q5 := (HQ.out 5 _ rfl).1
    have HKF := Lib.hid ((((((HKe.out.setCell (p := ⟨w.heap.size, 0, none⟩) (.inr (Nat.le_refl _)) (.string ⟨#[]⟩)).setCell (p := ⟨w.heap.size, 1, none⟩) (.inr (Nat.le_refl _)) (.int .i64 0)).setCell (p := ⟨w.heap.size, 2, none⟩) (.inr (Nat.le_refl _)) (.int .i64 0)).setCell (p := ⟨w.heap.size, 3, none⟩) (.inr (Nat.le_refl _)) (.int .i64 0)).setCell (p := ⟨w.heap.size, 4, none⟩) (.inr (Nat.le_refl _)) (.int .i64 0)).setCell (p := ⟨w.heap.size, 5, none⟩) (.inr (Nat.le_refl _)) (.int .u64 0))
    have HRF := Lib.hid ((((((HRe.out.far (p := ⟨w.heap.size, 0, none⟩) HBW.out (.string ⟨#[]⟩)).far (p := ⟨w.heap.size, 1, none⟩) HBW.out (.int .i64 0)).far (p := ⟨w.heap.size, 2, none⟩) HBW.out (.int .i64 0)).far (p := ⟨w.heap.size, 3, none⟩) HBW.out (.int .i64 0)).far (p := ⟨w.heap.size, 4, none⟩) HBW.out (.int .i64 0)).far (p := ⟨w.heap.size, 5, none⟩) HBW.out (.int .u64 0))
    go_wp2_with fail
    refine bodyPost_ret (v := .tuple #[.agg #[.string ⟨#[]⟩, .int .i64 0, .int .i64 0, .int .i64 0, .int .i64 0, .int .u64 0], .int .i64 (ca : Int)]) (by simp [results, Tryz.results144, go_sem, q0, q1, q2, q3, q4, q5]; try rfl) rfl ?_
    exact ⟨HKF.out, ⟨[], ⟨0, 0, 0⟩, 0, 0⟩, ca, pq, rfl, HRF.out, by rw [HV.out]; exact ⟨rfl, hca⟩⟩
  ·obtain rfl : m = 4 := by omega
   have hng : ¬ ((4 : Nat) : Int) < 4 := by omega
   obtain ⟨a0, a1, a2, a3, rfl⟩ : ∃ a b c d, xs = [a, b, c, d] := by
    match xs, HX.out with
    | [a, b, c, d], _ => exact ⟨a, b, c, d, rfl⟩
   have HD4 : Hid (Bk wr x0.heap.size [.int .i64 (a0 : Int), .int .i64 (a1 : Int), .int .i64 (a2 : Int), .int .i64 (a3 : Int)]) := HDq
   obtain ⟨Y, hY⟩ : ∃ Y : Nat → En, (fun p => ⟨it, ⟨(a0 : Int), (a1 : Int), (a2 : Int)⟩, (a3 : Int), p⟩) = Y := ⟨_, rfl⟩
   have HT0 : Hid (entR bs i = tailR bs Y 8 0 q 0) := Lib.hid (by rw [HE1.out, entT_nums HIT.out, ← HN.out, ← hY]; rfl)
   have HY := Lib.hid hY
   clear hY HDq HX HN
   rename World => wa
   go_wp2_with fail
   go_loopw [10, 39] (fun pv kv wr => ∃ k R pos : Nat, k ≤ 8 ∧ kv = .int .i64 (k : Int) ∧ pv = .int .u64 (R : Int) ∧ Hid (RdrD wr B g bs pos) ∧ Hid (Kept [g] w wr) ∧ Hid (Bk wr w.heap.size [.string ⟨#[]⟩, .int .i64 0, .int .i64 0, .int .i64 0, .int .i64 0, .int .u64 0]) ∧ Hid (Bk wr x0.heap.size [.int .i64 (a0 : Int), .int .i64 (a1 : Int), .int .i64 (a2 : Int), .int .i64 (a3 : Int)]) ∧ Hid (x0.heap.size < wr.heap.size) ∧ Hid (R < 256 ^ k) ∧ Hid (entR bs i = tailR bs Y (8 - k) k pos R)) (fun _ kv _ => 8 - (intOf kv).toNat)
   case atStart => exact ⟨0, 0, q, by omega, rfl, rfl, HRq, HKq, HBq, HD4, HSq, Lib.hid (by decide), HT0⟩
   case round =>
    obtain ⟨k, R, pos, hk8, rfl, rfl, HRr, HKr, HBr, HVr, HSr, HRB, HT⟩ := hrel
    rename World => wr
    by_cases hlt8 : k < 8
    ·have hlt : (k : Int) < 8 := by omega
     have HT2 : Hid (entR bs i = tailR bs Y ((7 - k) + 1) k pos R) := Lib.hid (by rw [show (7 - k) + 1 = 8 - k by omega]; exact HT.out)
     obtain ⟨⟨b, d, s⟩, hW⟩ : ∃ x, byteAt bs pos = x := ⟨_, rfl⟩
     have hb := byteD_any B g bs pos wr HRr.out
     unfold RetRD at hb
     rw [hW] at hb
     dsimp only at hb
     have hltb : b < 256 := by have := byteAt_lt HLT.out pos; rw [hW] at this; exact this
     have HW := Lib.hid hW
     clear hW HT
     go_wp2_with fail
     go_at_call 192
     refine hb.mono ?_
     clear hb
     rintro e xb ⟨rfl, hr, hk⟩
     have HRe := Lib.hid hr
     have HKe := Lib.hid (HKr.out.then_ hk)
     have HBe := Lib.hid (HBr.out.kept hk (Nat.lt_trans HSt.out HSr.out) HRg.out)
     have HVe := Lib.hid (HVr.out.kept hk HSr.out HDg.out)
     have HSe : Hid (x0.heap.size < xb.heap.size) := Lib.hid (Nat.lt_of_lt_of_le HSr.out hk.size)
     clear hr hk
     by_cases hd : d = 0
     case neg =>
      have hne : ((d : Int) != 0) = true := bne_iff_ne.2 (by omega)
      have HV : Hid (entR bs i = .error d) := Lib.hid (by rw [HT2.out]; exact tail_err (by rw [HW.out]) hd)
      obtain ⟨rr0, rf0⟩ := HBe.out 0 _ rfl
      obtain ⟨rr1, rf1⟩ := HBe.out 1 _ rfl
      obtain ⟨rr2, rf2⟩ := HBe.out 2 _ rfl
      obtain ⟨rr3, rf3⟩ := HBe.out 3 _ rfl
      obtain ⟨rr4, rf4⟩ := HBe.out 4 _ rfl
      obtain ⟨rr5, rf5⟩ := HBe.out 5 _ rfl
      have HQ := Lib.hid ((((((HBe.out.set 0 (.string ⟨#[]⟩)).set 1 (.int .i64 0)).set 2 (.int .i64 0)).set 3 (.int .i64 0)).set 4 (.int .i64 0)).set 5 (.int .u64 0))
      have q0 := (HQ.out 0 _ rfl).1
      have q1 := (HQ.out 1 _ rfl).1
      have q2 := (HQ.out 2 _ rfl).1
      have q3 := (HQ.out 3 _ rfl).1
      have q4 := (HQ.out 4 _ rfl).1
      have q5 := (HQ.out 5 _ rfl).1
      have HKF := Lib.hid ((((((HKe.out.setCell (p := ⟨w.heap.size, 0, none⟩) (.inr (Nat.le_refl _)) (.string ⟨#[]⟩)).setCell (p := ⟨w.heap.size, 1, none⟩) (.inr (Nat.le_refl _)) (.int .i64 0)).setCell (p := ⟨w.heap.size, 2, none⟩) (.inr (Nat.le_refl _)) (.int .i64 0)).setCell (p := ⟨w.heap.size, 3, none⟩) (.inr (Nat.le_refl _)) (.int .i64 0)).setCell (p := ⟨w.heap.size, 4, none⟩) (.inr (Nat.le_refl _)) (.int .i64 0)).setCell (p := ⟨w.heap.size, 5, none⟩) (.inr (Nat.le_refl _)) (.int .u64 0))
      have HRF := Lib.hid ((((((HRe.out.far (p := ⟨w.heap.size, 0, none⟩) HBW.out (.string ⟨#[]⟩)).far (p := ⟨w.heap.size, 1, none⟩) HBW.out (.int .i64 0)).far (p := ⟨w.heap.size, 2, none⟩) HBW.out (.int .i64 0)).far (p := ⟨w.heap.size, 3, none⟩) HBW.out (.int .i64 0)).far (p := ⟨w.heap.size, 4, none⟩) HBW.out (.int .i64 0)).far (p := ⟨w.heap.size, 5, none⟩) HBW.out (.int .u64 0))
      go_wp2_with fail
      refine bodyPost_ret (v := .tuple #[.agg #[.string ⟨#[]⟩, .int .i64 0, .int .i64 0, .int .i64 0, .int .i64 0, .int .u64 0], .int .i64 (d : Int)]) (by simp [results, Tryz.results144, go_sem, q0, q1, q2, q3, q4, q5]; try rfl) rfl ?_
      exact ⟨HKF.out, ⟨[], ⟨0, 0, 0⟩, 0, 0⟩, d, s, rfl, HRF.out, by rw [HV.out]; exact ⟨rfl, hd⟩⟩
     subst hd
     have HT3 := Lib.hid (HT2.out.trans (tail_ok HW.out))
     obtain ⟨r, hr⟩ : ∃ r, R + b * 256 ^ k = r := ⟨_, rfl⟩
     rw [hr] at HT3
     have hk64 : 256 ^ k ≤ 256 ^ 7 := Nat.pow_le_pow_right (by omega) (by omega)
     have hbk : b * 256 ^ k ≤ 255 * 256 ^ k := Nat.mul_le_mul_right _ (by omega)
     have HQ : Hid (r < 256 ^ (k + 1)) := Lib.hid (by
      have h1 := HRB.out
      rw [Nat.pow_succ]; omega)
     have e2 : (256 : Nat) ^ k = 2 ^ (8 * k) := by rw [Nat.pow_mul]
     have hbi : ((b * 256 ^ k : Nat) : Int) ≤ 18374686479671623680 := by
      have : ((b * 256 ^ k : Nat) : Int) ≤ ((255 * 256 ^ 7 : Nat) : Int) := Int.ofNat_le.2 (by omega)
      omega
     have hri : (r : Int) ≤ 18446744073709551615 := by
      have h1 := HQ.out
      have h2 : 256 ^ (k + 1) ≤ 256 ^ 8 := Nat.pow_le_pow_right (by omega) (by omega)
      omega
     have hadd : IntKind.u64.wrap ((R : Int) + (b : Int) * 256 ^ k) = (r : Int) := by
      rw [show ((R : Int) + (b : Int) * 256 ^ k) = ((R + b * 256 ^ k : Nat) : Int) by norm_cast, hr, IntKind.wrap_u64]
      omega
     have hsh : IntKind.u64.wrap ((b : Int) * 2 ^ (8 * k)) = (b : Int) * 256 ^ k := by
      rw [show ((b : Int) * 2 ^ (8 * k)) = ((b * 256 ^ k : Nat) : Int) by rw [e2]; norm_cast, IntKind.wrap_u64]
      rw [show (b : Int) * 256 ^ k = ((b * 256 ^ k : Nat) : Int) by norm_cast]
      omega
     have hkk : ((8 * (k : Int)).toNat) = 8 * k := by omega
     have hcv : IntKind.u64.wrap (b : Int) = (b : Int) := by rw [IntKind.wrap_u64]; omega
     clear hk64 hbk e2 hr hbi hri
     go_wp2_with fail
     exact ⟨⟨k + 1, r, s, by omega, by go_num, rfl, HRe, HKe, HBe, HVe, HSe, HQ, Lib.hid (by rw [show 8 - (k + 1) = 7 - k by omega]; exact HT3.out)⟩, by simp [intOf]; omega⟩
    ·obtain rfl : k = 8 := by omega
     have hn8 : ¬ ((8 : Nat) : Int) < 8 := by omega
     have HV : Hid (entR bs i = .ok (⟨it, ⟨(a0 : Int), (a1 : Int), (a2 : Int)⟩, (a3 : Int), R⟩, pos)) := Lib.hid (by rw [HT.out, ← HY.out]; rfl)
     have v0 := (HVr.out 0 _ rfl).1
     have v1 := (HVr.out 1 _ rfl).1
     have v2 := (HVr.out 2 _ rfl).1
     have v3 := (HVr.out 3 _ rfl).1
     obtain ⟨rr0, rf0⟩ := HBr.out 0 _ rfl
     obtain ⟨rr1, rf1⟩ := HBr.out 1 _ rfl
     obtain ⟨rr2, rf2⟩ := HBr.out 2 _ rfl
     obtain ⟨rr3, rf3⟩ := HBr.out 3 _ rfl
     obtain ⟨rr4, rf4⟩ := HBr.out 4 _ rfl
     obtain ⟨rr5, rf5⟩ := HBr.out 5 _ rfl
     have HQ := Lib.hid ((((((HBr.out.set 0 (.string ⟨it.toArray⟩)).set 1 (.int .i64 (a0 : Int))).set 2 (.int .i64 (a1 : Int))).set 3 (.int .i64 (a2 : Int))).set 4 (.int .i64 (a3 : Int))).set 5 (.int .u64 (R : Int)))
     have q0 := (HQ.out 0 _ rfl).1
     have q1 := (HQ.out 1 _ rfl).1
     have q2 := (HQ.out 2 _ rfl).1
     have q3 := (HQ.out 3 _ rfl).1
     have q4 := (HQ.out 4 _ rfl).1
     have q5 := (HQ.out 5 _ rfl).1
     have HKF := Lib.hid ((((((HKr.out.setCell (p := ⟨w.heap.size, 0, none⟩) (.inr (Nat.le_refl _)) (.string ⟨it.toArray⟩)).setCell (p := ⟨w.heap.size, 1, none⟩) (.inr (Nat.le_refl _)) (.int .i64 (a0 : Int))).setCell (p := ⟨w.heap.size, 2, none⟩) (.inr (Nat.le_refl _)) (.int .i64 (a1 : Int))).setCell (p := ⟨w.heap.size, 3, none⟩) (.inr (Nat.le_refl _)) (.int .i64 (a2 : Int))).setCell (p := ⟨w.heap.size, 4, none⟩) (.inr (Nat.le_refl _)) (.int .i64 (a3 : Int))).setCell (p := ⟨w.heap.size, 5, none⟩) (.inr (Nat.le_refl _)) (.int .u64 (R : Int)))
     have HRF := Lib.hid ((((((HRr.out.far (p := ⟨w.heap.size, 0, none⟩) HBW.out (.string ⟨it.toArray⟩)).far (p := ⟨w.heap.size, 1, none⟩) HBW.out (.int .i64 (a0 : Int))).far (p := ⟨w.heap.size, 2, none⟩) HBW.out (.int .i64 (a1 : Int))).far (p := ⟨w.heap.size, 3, none⟩) HBW.out (.int .i64 (a2 : Int))).far (p := ⟨w.heap.size, 4, none⟩) HBW.out (.int .i64 (a3 : Int))).far (p := ⟨w.heap.size, 5, none⟩) HBW.out (.int .u64 (R : Int)))
     go_wp2_with fail
     refine bodyPost_ret (v := .tuple #[.agg #[.string ⟨it.toArray⟩, .int .i64 (a0 : Int), .int .i64 (a1 : Int), .int .i64 (a2 : Int), .int .i64 (a3 : Int), .int .u64 (R : Int)], .int .i64 0]) (by simp [results, Tryz.results144, go_sem, q0, q1, q2, q3, q4, q5]; try rfl) rfl ?_
     exact ⟨HKF.out, ⟨it, ⟨(a0 : Int), (a1 : Int), (a2 : Int)⟩, (a3 : Int), R⟩, 0, pos, rfl, HRF.out, by rw [HV.out]; exact ⟨rfl, rfl, rfl⟩⟩
end Go.Proofs.YtpdedfpacklnoaaGreatDoor
set_option maxRecDepth 100000
namespace Go.Proofs.YtpdedfpacklnoaaGreatDoor
open Go.RowKit Go.BL Go.Ct Go.Sl Go.Wr W

set_option maxHeartbeats 16000000 in
theorem decodeD_any (A : Option Addr) (m cap : Nat) (bs : List Nat) (w : World) (hr : Rd w A m bs) (hm : m ≤ 140737488355000) (hcap : m ≤ cap) : Calls Tryz.prog 96 #[.slice A m cap] w (DecR (decodeL bs) w) := by
 obtain ⟨w0, hw0⟩ : ∃ y, w.alloc (.cells #[.slice none 0 0, .slice none 0 0, .slice none 0 0] 32) = y := ⟨_, rfl⟩
 have HBW : Hid (Below w.heap.size w w0) := Lib.hid (by rw [← hw0]; exact (Below.refl _ _).alloc (Nat.le_refl _) _)
 have HB0 : Hid (Bk w0 w.heap.size [.slice none 0 0, .slice none 0 0, .slice none 0 0]) := Lib.hid (by rw [← hw0]; exact Bk.new w _ 32 rfl)
 have HS0 : Hid (w.heap.size < w0.heap.size) := Lib.hid (by rw [← hw0]; simp)
 have hbm := hr.1
 have HR0 : Hid (Rd w0 A m bs) := Lib.hid (by rw [← hw0]; exact hr.alloc _)
 have HMM := Lib.hid hm
 have HLT : Hid (∀ x ∈ bs, x < 256) := Lib.hid hr.2.2.1
 clear hr hm
 subst hbm
 obtain ⟨w1, hw1⟩ : ∃ y, w0.alloc (.cells #[.slice A bs.length cap, .int .i64 0] 208) = y := ⟨_, rfl⟩
 have HW1 : Hid (Below w0.heap.size w0 w1) := Lib.hid (by rw [← hw1]; exact (Below.refl _ _).alloc (Nat.le_refl _) _)
 have HS1 : Hid (w0.heap.size < w1.heap.size) := Lib.hid (by rw [← hw1]; simp)
 have hR : RdrD w1 w1.heap.size w0.heap.size bs 0 := by
  refine ⟨w0.heap.size, ⟨A, cap, ?_, ?_, Nat.zero_le _, Nat.le_refl _, hcap, fun hn a ha => ?_⟩, HS1.out⟩
  ·rw [← hw1]; exact heap_alloc_new w0 _
  ·rw [← hw1]; exact HR0.out.alloc _
  ·obtain ⟨b, off, e, hb, _⟩ := HR0.out.2.2.2 hn
   rw [ha] at e
   injection e with e
   rw [e]; exact hb
 obtain ⟨g, hg⟩ : ∃ g, w0.heap.size = g := ⟨_, rfl⟩
 have HG : Hid (w0.heap.size ≤ g) := Lib.hid (Nat.le_of_eq hg)
 rw [hg] at hR
 have HR1 := Lib.hid hR
 have HGE := Lib.hid hg
 clear hcap hg
 go_enter Tryz.func96, Tryz.ntmps96
 go_upto_region 2 with fail
 clear hw0 hw1
 rw [HGE.out]
 have hu := uintD_any w1.heap.size g bs 0 w1 hR
 clear hR
 unfold RetRD at hu
 obtain ⟨⟨n, c, p⟩, hU⟩ : ∃ x, uintAt bs 0 = x := ⟨_, rfl⟩
 rw [hU] at hu
 dsimp only at hu
 have HL : Hid (decodeL bs = if c ≠ 0 then .error c else if 64 < n then .error 4 else match entsR bs n p [] with
  | .error e => .error e
  | .ok (es, j) => match ctxR bs j with
   | .error e => .error e
   | .ok (x, k) => endR bs es x k) := Lib.hid (by unfold decodeL; rw [hU]; rfl)
 clear hU
 go_wp2_with fail
 go_at_call 143
 refine hu.mono ?_
 clear hu
 rintro e w2 ⟨rfl, hr, hk⟩
 have HR2 := Lib.hid hr
 have HW2 := Lib.hid (HW1.out.trans (hk.below HW1.out.size (fun x hx => by simp at hx; subst hx; exact HG.out)))
 have HB2 := Lib.hid (HB0.out.below HW2.out HS0.out)
 have HZ12 := Lib.hid hk.size
 clear hr hk
 by_cases hc : c = 0
 case neg =>
  have hne : ((c : Int) != 0) = true := bne_iff_ne.2 (by omega)
  have HV : Hid (decodeL bs = .error c) := Lib.hid (by rw [HL.out, if_pos hc])
  obtain ⟨rr0, rf0⟩ := HB2.out 0 _ rfl
  obtain ⟨rr1, rf1⟩ := HB2.out 1 _ rfl
  obtain ⟨rr2, rf2⟩ := HB2.out 2 _ rfl
  have HQ := Lib.hid (((HB2.out.set 0 (.slice none 0 0)).set 1 (.slice none 0 0)).set 2 (.slice none 0 0))
  have q0 := (HQ.out 0 _ rfl).1
  have q1 := (HQ.out 1 _ rfl).1
  have q2 := (HQ.out 2 _ rfl).1
  have HWF := Lib.hid ((((HBW.out.trans (HW2.out.mono (Nat.le_of_lt HS0.out))).setCell (p := ⟨w.heap.size, 0, none⟩) (Nat.le_refl _) (.slice none 0 0)).setCell (p := ⟨w.heap.size, 1, none⟩) (Nat.le_refl _) (.slice none 0 0)).setCell (p := ⟨w.heap.size, 2, none⟩) (Nat.le_refl _) (.slice none 0 0))
  go_wp2_with fail
  refine bodyPost_ret (v := .tuple #[.agg #[.slice none 0 0, .slice none 0 0, .slice none 0 0], .int .i64 (c : Int)]) (by simp [results, Tryz.results96, go_sem, q0, q1, q2]; try rfl) rfl ?_
  refine ⟨HWF.out, ?_⟩
  rw [HV.out]
  exact ⟨c, hc, rfl⟩
 subst hc
 by_cases hn : 64 < n
 case pos =>
  have hn' : (64 : Int) < (n : Int) := by omega
  have HV : Hid (decodeL bs = .error 4) := Lib.hid (by rw [HL.out, if_neg (by simp), if_pos hn])
  obtain ⟨rr0, rf0⟩ := HB2.out 0 _ rfl
  obtain ⟨rr1, rf1⟩ := HB2.out 1 _ rfl
  obtain ⟨rr2, rf2⟩ := HB2.out 2 _ rfl
  have HQ := Lib.hid (((HB2.out.set 0 (.slice none 0 0)).set 1 (.slice none 0 0)).set 2 (.slice none 0 0))
  have q0 := (HQ.out 0 _ rfl).1
  have q1 := (HQ.out 1 _ rfl).1
  have q2 := (HQ.out 2 _ rfl).1
  have HWF := Lib.hid ((((HBW.out.trans (HW2.out.mono (Nat.le_of_lt HS0.out))).setCell (p := ⟨w.heap.size, 0, none⟩) (Nat.le_refl _) (.slice none 0 0)).setCell (p := ⟨w.heap.size, 1, none⟩) (Nat.le_refl _) (.slice none 0 0)).setCell (p := ⟨w.heap.size, 2, none⟩) (Nat.le_refl _) (.slice none 0 0))
  go_wp2_with fail
  refine bodyPost_ret (v := .tuple #[.agg #[.slice none 0 0, .slice none 0 0, .slice none 0 0], .int .i64 4]) (by simp [results, Tryz.results96, go_sem, q0, q1, q2]; try rfl) rfl ?_
  refine ⟨HWF.out, ?_⟩
  rw [HV.out]
  exact ⟨4, by decide, rfl⟩
 have hn' : ¬ (64 : Int) < (n : Int) := by omega
 have HL2 := Lib.hid ((HL.out.trans (if_neg (by simp))).trans (if_neg hn))
 obtain ⟨w3, hw3⟩ : ∃ y, w2.alloc (.cells #[.slice none 0 0, .slice none 0 0, .slice none 0 0] 32) = y := ⟨_, rfl⟩
 have HR3 : Hid (RdrD w3 w1.heap.size g bs p) := Lib.hid (by rw [← hw3]; exact HR2.out.alloc _)
 have HW3 : Hid (Below w0.heap.size w0 w3) := Lib.hid (by rw [← hw3]; exact HW2.out.alloc HW2.out.size _)
 have HX3 : Hid (Bk w3 w2.heap.size [.slice none 0 0, .slice none 0 0, .slice none 0 0]) := Lib.hid (by rw [← hw3]; exact Bk.new w2 _ 32 rfl)
 have HS3 : Hid (w2.heap.size < w3.heap.size) := Lib.hid (by rw [← hw3]; simp)
 have HXB : Hid (w1.heap.size ≤ w2.heap.size) := HZ12
 have HGX : Hid (w2.heap.size ∉ [g]) := Lib.hid (by have := HR1.out.lt; have := HXB.out; simp; omega)
 go_wp2_with fail
 clear hw3
 go_loopw [28] (fun kv wr => ∃ (k j : Nat) (acc : List En) (ev : Value), k ≤ n ∧ kv = .int .i64 (k : Int) ∧ Hid (RdrD wr w1.heap.size g bs j) ∧ Hid (Kept [g, w2.heap.size] w3 wr) ∧ Hid (Bk wr w2.heap.size [ev, .slice none 0 0, .slice none 0 0]) ∧ Hid (OwnS 92 6 entC wr w3.heap.size ev acc) ∧ Hid (acc.length = k) ∧ Hid (entsR bs (n - k) j acc = entsR bs n p [])) (fun kv _ => n - (intOf kv).toNat)
 case atStart => exact ⟨0, p, [], .slice none 0 0, by omega, rfl, HR3, Lib.hid (Kept.refl _ _), HX3, Lib.hid (OwnS.nil _ _), Lib.hid rfl, Lib.hid rfl⟩
 case round =>
  obtain ⟨k, j, acc, ev, hk, rfl, HRr, HKr, HXr, HOr, HA, HE⟩ := hrel
  have HWr := Lib.hid (HW3.out.trans (HKr.out.below HW3.out.size (fun x hx => by simp at hx; have := HG.out; have := HW2.out.size; omega)))
  have HZr := Lib.hid (show w1.heap.size ≤ wr.heap.size from Nat.le_trans HXB.out (Nat.le_trans (Nat.le_of_lt HS3.out) HKr.out.size))
  have HSr : Hid (w2.heap.size < wr.heap.size) := Lib.hid (Nat.lt_of_lt_of_le HS3.out HKr.out.size)
  obtain ⟨Ae, ce, rfl⟩ := HOr.out.form
  by_cases hlt : k < n
  ·have hnk : n - k = (n - (k + 1)) + 1 := by omega
   have HE2 := HE.out
   rw [hnk] at HE2
   have HE3 := Lib.hid HE2
   clear HE2
   have hone := entryD_any w1.heap.size g bs j wr HRr.out HZr.out HMM.out
   unfold OneRD at hone
   go_wp2_with fail
   go_at_call 144
   refine hone.mono ?_
   clear hone
   rintro e w5 ⟨hk5, ⟨xit, ⟨xn, xl, xc⟩, xq, xp⟩, c5, j5, rfl, hr5, hm5⟩
   dsimp only [entV]
   have HR5 := Lib.hid hr5
   have HW5 := Lib.hid (HWr.out.trans (hk5.below HWr.out.size (fun x hx => by simp at hx; subst hx; exact HG.out)))
   have HX5 := Lib.hid (HXr.out.kept hk5 HSr.out HGX.out)
   have HK5 := Lib.hid (HKr.out.trans hk5 (fun x hx => .inl (by simp at hx; simp [hx])))
   have HO5 := Lib.hid (HOr.out.kept hk5 (fun b hb => by have := HOr.out.block_ge b hb; have := HR1.out.lt; have := HXB.out; have := HS3.out; simp; omega))
   have HM5 := Lib.hid hm5
   clear hk5 hr5 hm5
   obtain ⟨w6, hw6⟩ : ∃ y, w5.alloc (.cells #[.string ⟨xit.toArray⟩, .int .i64 xn, .int .i64 xl, .int .i64 xc, .int .i64 xq, .int .u64 (xp : Int)] 92) = y := ⟨_, rfl⟩
   have HR6 : Hid (RdrD w6 w1.heap.size g bs j5) := Lib.hid (by rw [← hw6]; exact HR5.out.alloc _)
   have HW6 : Hid (Below w0.heap.size w0 w6) := Lib.hid (by rw [← hw6]; exact HW5.out.alloc HW5.out.size _)
   have HK6 : Hid (Kept [g, w2.heap.size] w3 w6) := Lib.hid (by rw [← hw6]; exact HK5.out.alloc _)
   have HX6 : Hid (Bk w6 w2.heap.size [.slice Ae acc.length ce, .slice none 0 0, .slice none 0 0]) := Lib.hid (by rw [← hw6]; exact HX5.out.alloc _ (Nat.lt_of_lt_of_le HS3.out HK5.out.size))
   have HO6 : Hid (OwnS 92 6 entC w6 w3.heap.size (.slice Ae acc.length ce) acc) := Lib.hid (by rw [← hw6]; exact HO5.out.below ((Below.refl w5.heap.size w5).alloc (Nat.le_refl _) _) (Nat.le_refl _))
   have HN6 : Hid (Bk w6 w5.heap.size [.string ⟨xit.toArray⟩, .int .i64 xn, .int .i64 xl, .int .i64 xc, .int .i64 xq, .int .u64 (xp : Int)]) := Lib.hid (by rw [← hw6]; exact Bk.new w5 _ 92 rfl)
   have HB6 := Lib.hid (HB0.out.below HW6.out HS0.out)
   have HW6' : Hid (Kept [g, w2.heap.size] w3 w6) := HK6
   have HW := HW6
   have HWz6 := HW6
   cases hEE : entR bs j with
   | error kk =>
    have hm5 := HM5.out
    rw [hEE] at hm5
    obtain ⟨rfl, hcc⟩ := hm5
    have hne : ((c5 : Int) != 0) = true := bne_iff_ne.2 (by omega)
    have HV : Hid (decodeL bs = .error c5) := Lib.hid (by rw [HL2.out, ← HE3.out, ents_err hEE])
    have HNE := Lib.hid hcc
    clear hEE hcc
    go_upto_region 12 with fail
    clear hw6
    obtain ⟨rr0, rf0⟩ := HB6.out 0 _ rfl
    obtain ⟨rr1, rf1⟩ := HB6.out 1 _ rfl
    obtain ⟨rr2, rf2⟩ := HB6.out 2 _ rfl
    have HQ := Lib.hid (((HB6.out.set 0 (.slice none 0 0)).set 1 (.slice none 0 0)).set 2 (.slice none 0 0))
    have q0 := (HQ.out 0 _ rfl).1
    have q1 := (HQ.out 1 _ rfl).1
    have q2 := (HQ.out 2 _ rfl).1
    have HWF := Lib.hid ((((HBW.out.trans (HW6.out.mono (Nat.le_of_lt HS0.out))).setCell (p := ⟨w.heap.size, 0, none⟩) (Nat.le_refl _) (.slice none 0 0)).setCell (p := ⟨w.heap.size, 1, none⟩) (Nat.le_refl _) (.slice none 0 0)).setCell (p := ⟨w.heap.size, 2, none⟩) (Nat.le_refl _) (.slice none 0 0))
    go_wp2_with fail
    refine bodyPost_ret (v := .tuple #[.agg #[.slice none 0 0, .slice none 0 0, .slice none 0 0], .int .i64 (c5 : Int)]) (by simp [results, Tryz.results96, go_sem, q0, q1, q2]; try rfl) rfl ?_
    refine ⟨HWF.out, ?_⟩
    rw [HV.out]
    exact ⟨c5, HNE.out, rfl⟩
   | ok rr =>
    obtain ⟨y, jj⟩ := rr
    have hm5 := HM5.out
    rw [hEE] at hm5
    obtain ⟨rfl, rfl, rfl⟩ := hm5
    have HE4 := Lib.hid ((ents_ok hEE).symm.trans HE3.out)
    clear hEE HM5
    go_upto_region 13 with fail
    clear hw6
    have z0 := (HX6.out 0 _ rfl).1
    have n0 := (HN6.out 0 _ rfl).1
    have n1 := (HN6.out 1 _ rfl).1
    have n2 := (HN6.out 2 _ rfl).1
    have n3 := (HN6.out 3 _ rfl).1
    have n4 := (HN6.out 4 _ rfl).1
    have n5 := (HN6.out 5 _ rfl).1
    have HR7 := Lib.hid (HR6.out.alloc (.cells #[.string ⟨xit.toArray⟩, .int .i64 xn, .int .i64 xl, .int .i64 xc, .int .i64 xq, .int .u64 (xp : Int)] 92))
    have HK7 := Lib.hid (HK6.out.alloc (.cells #[.string ⟨xit.toArray⟩, .int .i64 xn, .int .i64 xl, .int .i64 xc, .int .i64 xq, .int .u64 (xp : Int)] 92))
    have HX7 := Lib.hid (HX6.out.alloc (.cells #[.string ⟨xit.toArray⟩, .int .i64 xn, .int .i64 xl, .int .i64 xc, .int .i64 xq, .int .u64 (xp : Int)] 92) (Nat.lt_of_lt_of_le HS3.out HK6.out.size))
    have HO7 := Lib.hid (HO6.out.below ((Below.refl w6.heap.size w6).alloc (Nat.le_refl _) (.cells #[.string ⟨xit.toArray⟩, .int .i64 xn, .int .i64 xl, .int .i64 xc, .int .i64 xq, .int .u64 (xp : Int)] 92)) (Nat.le_refl _))
    have HN7 := Lib.hid (Bk.new w6 (entC ⟨xit, ⟨xn, xl, xc⟩, xq, xp⟩) 92 rfl)
    have HLk : Hid (acc.length ≤ 1000000) := Lib.hid (by have := HA.out; omega)
    have HZ3 : Hid (w1.heap.size ≤ w3.heap.size) := Lib.hid (Nat.le_trans HXB.out (Nat.le_of_lt HS3.out))
    have HLN : Hid ((acc ++ [(⟨xit, ⟨xn, xl, xc⟩, xq, xp⟩ : En)]).length = acc.length + 1) := Lib.hid (by simp)
    generalize hev : Value.slice Ae acc.length ce = ev at z0 HO7 HX7 ⊢
    go_wp2_with (at_builtin; refine wpList_appS rfl _ _ 26 rfl Tryz.underlying26 info92 rfl (by decide) entC_len entC_one (by decide) rfl HO7.out (g := w6.heap.size) (c := 1) (y := ⟨xit, ⟨xn, xl, xc⟩, xq, xp⟩) rfl (fun j u hj => (HN7.out j u hj).1) HLk.out HK7.out.size ?_; intro v' w8 hown' hb8 _; have HO8 := Lib.hid hown'; have HK8 := Lib.hid (HK7.out.then_below hb8); have HX8 := Lib.hid (HX7.out.below hb8 HS3.out); have HR8 := Lib.hid (HR7.out.below hb8 HZ3.out); clear hown' hb8; obtain ⟨y0, yf0⟩ := HX8.out 0 _ rfl; obtain ⟨A8, c8, h8⟩ := HO8.out.form; rw [HLN.out] at h8; subst h8)
    exact ⟨⟨k + 1, j5, acc ++ [⟨xit, ⟨xn, xl, xc⟩, xq, xp⟩], _, by omega, by go_num, Lib.hid (HR8.out.far (p := ⟨w2.heap.size, 0, none⟩) HXB.out _), Lib.hid (HK8.out.setCell (p := ⟨w2.heap.size, 0, none⟩) (.inl (by simp)) _), Lib.hid (HX8.out.set 0 _), Lib.hid (HO8.out.setCell (p := ⟨w2.heap.size, 0, none⟩) HS3.out _), Lib.hid (by have := HA.out; simp; omega), HE4⟩, by simp [intOf]; omega⟩
  ·have hkn : k = n := by omega
   subst hkn
   have HEN : Hid (entsR bs k p [] = .ok (acc, j)) := Lib.hid (by rw [← HE.out, Nat.sub_self]; rfl)
   have HFI := Lib.hid (ents_fine HLT.out k p j [] acc HEN.out (fun e he => by cases he)).1
   have hcd := cdecD_any w1.heap.size g bs j wr HRr.out HZr.out
   unfold CDecRD at hcd
   go_upto_region 15 with fail
   go_wp2_with fail
   go_at_call 145
   refine hcd.mono ?_
   clear hcd
   rintro e w8 ⟨hk8, mv, vv, c8, rfl, hm8⟩
   have HW8 := Lib.hid (HWr.out.trans (hk8.below HWr.out.size (fun x hx => by simp at hx; subst hx; exact HG.out)))
   have HX8 := Lib.hid (HXr.out.kept hk8 HSr.out HGX.out)
   have HO8 := Lib.hid (HOr.out.kept hk8 (fun b hb => by have := HOr.out.block_ge b hb; have := HR1.out.lt; have := HXB.out; have := HS3.out; simp; omega))
   have HZ8 := Lib.hid hk8.size
   have HS8 : Hid (w2.heap.size < w8.heap.size) := Lib.hid (Nat.lt_of_lt_of_le HSr.out hk8.size)
   have HM8 := Lib.hid hm8
   have HX0 : Hid (w0.heap.size ≤ w2.heap.size) := Lib.hid HW2.out.size
   clear hk8 hm8
   cases hC : ctxR bs j with
   | error kk =>
    have hm8 := HM8.out
    rw [hC] at hm8
    obtain ⟨rfl, hcc, rfl, rfl⟩ := hm8
    have hne : ((c8 : Int) != 0) = true := bne_iff_ne.2 (by omega)
    have HV : Hid (decodeL bs = .error c8) := Lib.hid (by rw [HL2.out, HEN.out]; dsimp only; rw [hC])
    have HNE := Lib.hid hcc
    obtain ⟨we, hwe⟩ : ∃ y, w8.alloc (.cells #[.slice none 0 0, .slice none 0 0] 30) = y := ⟨_, rfl⟩
    have HWe : Hid (Below w0.heap.size w0 we) := Lib.hid (by rw [← hwe]; exact HW8.out.alloc HW8.out.size _)
    have HBe := Lib.hid (HB0.out.below HWe.out HS0.out)
    have HE := Lib.hid hwe
    clear hC hcc hwe
    go_upto_region 16 with fail
    rw [HE.out]
    clear HE
    obtain ⟨rr0, rf0⟩ := HBe.out 0 _ rfl
    obtain ⟨rr1, rf1⟩ := HBe.out 1 _ rfl
    obtain ⟨rr2, rf2⟩ := HBe.out 2 _ rfl
    have HQ := Lib.hid (((HBe.out.set 0 (.slice none 0 0)).set 1 (.slice none 0 0)).set 2 (.slice none 0 0))
    have q0 := (HQ.out 0 _ rfl).1
    have q1 := (HQ.out 1 _ rfl).1
    have q2 := (HQ.out 2 _ rfl).1
    have HWF := Lib.hid ((((HBW.out.trans (HWe.out.mono (Nat.le_of_lt HS0.out))).setCell (p := ⟨w.heap.size, 0, none⟩) (Nat.le_refl _) (.slice none 0 0)).setCell (p := ⟨w.heap.size, 1, none⟩) (Nat.le_refl _) (.slice none 0 0)).setCell (p := ⟨w.heap.size, 2, none⟩) (Nat.le_refl _) (.slice none 0 0))
    go_wp2_with fail
    refine bodyPost_ret (v := .tuple #[.agg #[.slice none 0 0, .slice none 0 0, .slice none 0 0], .int .i64 (c8 : Int)]) (by simp [results, Tryz.results96, go_sem, q0, q1, q2]; try rfl) rfl ?_
    refine ⟨HWF.out, ?_⟩
    rw [HV.out]
    exact ⟨c8, HNE.out, rfl⟩
   | ok rr =>
    obtain ⟨x, j2⟩ := rr
    have hm8 := HM8.out
    rw [hC] at hm8
    obtain ⟨rfl, hr8, ho1, ho2⟩ := hm8
    obtain ⟨Am, cm, rfl⟩ := ho1.form
    obtain ⟨Av, cv, rfl⟩ := ho2.form
    obtain ⟨wx, hwx⟩ : ∃ y, w8.alloc (.cells #[.slice Am x.ms.length cm, .slice Av x.cl.length cv] 30) = y := ⟨_, rfl⟩
    have HBx : Hid (Below w8.heap.size w8 wx) := Lib.hid (by rw [← hwx]; exact (Below.refl _ _).alloc (Nat.le_refl _) _)
    have HYx : Hid (Bk wx w8.heap.size [.slice Am x.ms.length cm, .slice Av x.cl.length cv]) := Lib.hid (by rw [← hwx]; exact Bk.new w8 _ 30 rfl)
    have HRx : Hid (RdrD wx w1.heap.size g bs j2) := Lib.hid (by rw [← hwx]; exact hr8.alloc _)
    have HXx := Lib.hid (HX8.out.below HBx.out HS8.out)
    have HWx := Lib.hid (HW8.out.trans (HBx.out.mono HW8.out.size))
    have HO1x := Lib.hid (ho1.below HBx.out (Nat.le_refl _))
    have HO2x := Lib.hid (ho2.below HBx.out (Nat.le_refl _))
    have HO3x := Lib.hid (HO8.out.below HBx.out (Nat.le_refl _))
    have HCT := Lib.hid hC
    clear hC hr8 ho1 ho2 HM8
    go_upto_region 18 with fail
    clear hwx
    obtain ⟨x0, xf0⟩ := HXx.out 0 _ rfl
    obtain ⟨x1, xf1⟩ := HXx.out 1 _ rfl
    obtain ⟨x2, xf2⟩ := HXx.out 2 _ rfl
    have y0 := (HYx.out 0 _ rfl).1
    have y1 := (HYx.out 1 _ rfl).1
    have HO1 := Lib.hid (HO1x.out.setCell2 HSr.out (.slice Am x.ms.length cm) (.slice Av x.cl.length cv))
    have HO2 := Lib.hid (HO2x.out.setCell2 HSr.out (.slice Am x.ms.length cm) (.slice Av x.cl.length cv))
    have HO3 := Lib.hid (HO3x.out.setCell2 HS3.out (.slice Am x.ms.length cm) (.slice Av x.cl.length cv))
    have HR9 := Lib.hid ((HRx.out.far (p := ⟨w2.heap.size, 1, none⟩) HXB.out (.slice Am x.ms.length cm)).far (p := ⟨w2.heap.size, 2, none⟩) HXB.out (.slice Av x.cl.length cv))
    have HX9 := Lib.hid ((HXx.out.set 1 (.slice Am x.ms.length cm)).set 2 (.slice Av x.cl.length cv))
    have HW9 := Lib.hid ((HWx.out.setCell (p := ⟨w2.heap.size, 1, none⟩) HX0.out (.slice Am x.ms.length cm)).setCell (p := ⟨w2.heap.size, 2, none⟩) HX0.out (.slice Av x.cl.length cv))
    obtain ⟨w9, hw9⟩ : ∃ y, (wx.setCell ⟨w2.heap.size, 1, none⟩ (.slice Am x.ms.length cm)).setCell ⟨w2.heap.size, 2, none⟩ (.slice Av x.cl.length cv) = y := ⟨_, rfl⟩
    rw [hw9] at HO1 HO2 HO3 HR9 HX9 HW9
    go_upto_region 19 with fail
    clear hw9 x0 x1 x2 xf0 xf1 xf2 y0 y1
    obtain ⟨r1, -⟩ := HR9.out.at
    have HBf := Lib.hid (HB0.out.below HW9.out HS0.out)
    have HWf := HW9
    by_cases hj : j2 < bs.length
    case pos =>
     have hji : (j2 : Int) < (bs.length : Int) := by omega
     have HV : Hid (decodeL bs = .error 3) := Lib.hid (by rw [HL2.out, HEN.out]; dsimp only; rw [HCT.out]; dsimp only; unfold endR; rw [if_pos hj])
     obtain ⟨rr0, rf0⟩ := HBf.out 0 _ rfl
     obtain ⟨rr1, rf1⟩ := HBf.out 1 _ rfl
     obtain ⟨rr2, rf2⟩ := HBf.out 2 _ rfl
     have HQ := Lib.hid (((HBf.out.set 0 (.slice none 0 0)).set 1 (.slice none 0 0)).set 2 (.slice none 0 0))
     have q0 := (HQ.out 0 _ rfl).1
     have q1 := (HQ.out 1 _ rfl).1
     have q2 := (HQ.out 2 _ rfl).1
     have HWF := Lib.hid ((((HBW.out.trans (HWf.out.mono (Nat.le_of_lt HS0.out))).setCell (p := ⟨w.heap.size, 0, none⟩) (Nat.le_refl _) (.slice none 0 0)).setCell (p := ⟨w.heap.size, 1, none⟩) (Nat.le_refl _) (.slice none 0 0)).setCell (p := ⟨w.heap.size, 2, none⟩) (Nat.le_refl _) (.slice none 0 0))
     go_wp2_with fail
     refine bodyPost_ret (v := .tuple #[.agg #[.slice none 0 0, .slice none 0 0, .slice none 0 0], .int .i64 3]) (by simp [results, Tryz.results96, go_sem, q0, q1, q2]; try rfl) rfl ?_
     refine ⟨HWF.out, ?_⟩
     rw [HV.out]
     exact ⟨3, by decide, rfl⟩
    case neg =>
    have hji : ¬ (j2 : Int) < (bs.length : Int) := by omega
    have HS10 : Hid (w2.heap.size < w9.heap.size) := Lib.hid (HX9.out.lt)
    have hlc := (canX_len (ctx_can HCT.out))
    have hcan := canR_any acc x (.slice Ae acc.length ce) (.slice Am x.ms.length cm) (.slice Av x.cl.length cv) w9 (HO3.out.sl entC_len (by have := HA.out; omega)) (HO1.out.sl dotC_len (by have := hlc.1; omega)) (HO2.out.sl dotC_len (by have := hlc.2; omega)) HO3.out.cap (fun e he => by have := (HFI.out e he).1; omega)
    obtain ⟨cc, hcc⟩ : ∃ y, canC ⟨acc, x⟩ = y := ⟨_, rfl⟩
    rw [hcc] at hcan
    have HCC := Lib.hid hcc
    clear hlc hcc
    obtain ⟨x0, _⟩ := HX9.out 0 _ rfl
    obtain ⟨x1, _⟩ := HX9.out 1 _ rfl
    obtain ⟨x2, _⟩ := HX9.out 2 _ rfl
    go_upto_region 21 with fail
    go_wp2_with fail
    go_at_call 12
    refine hcan.mono ?_
    clear hcan x0 x1 x2 r1
    rintro e w11 ⟨rfl, hb⟩
    have HWh := Lib.hid (HW9.out.trans (hb.mono HW9.out.size))
    have HBh := Lib.hid (HB0.out.below HWh.out HS0.out)
    have HXh := Lib.hid (HX9.out.below hb HS10.out)
    have HOA := Lib.hid (HO3.out.below hb (Nat.le_refl _))
    have HOB := Lib.hid (HO1.out.below hb (Nat.le_refl _))
    have HOC := Lib.hid (HO2.out.below hb (Nat.le_refl _))
    clear hb
    by_cases h0 : cc = 0
    case neg =>
     have hne : ((cc : Int) != 0) = true := bne_iff_ne.2 (by omega)
     have HV : Hid (decodeL bs = .error cc) := Lib.hid (by rw [HL2.out, HEN.out]; dsimp only; rw [HCT.out]; dsimp only; unfold endR; rw [if_neg hj, HCC.out, if_pos h0])
     obtain ⟨rr0, rf0⟩ := HBh.out 0 _ rfl
     obtain ⟨rr1, rf1⟩ := HBh.out 1 _ rfl
     obtain ⟨rr2, rf2⟩ := HBh.out 2 _ rfl
     have HQ := Lib.hid (((HBh.out.set 0 (.slice none 0 0)).set 1 (.slice none 0 0)).set 2 (.slice none 0 0))
     have q0 := (HQ.out 0 _ rfl).1
     have q1 := (HQ.out 1 _ rfl).1
     have q2 := (HQ.out 2 _ rfl).1
     have HWF := Lib.hid ((((HBW.out.trans (HWh.out.mono (Nat.le_of_lt HS0.out))).setCell (p := ⟨w.heap.size, 0, none⟩) (Nat.le_refl _) (.slice none 0 0)).setCell (p := ⟨w.heap.size, 1, none⟩) (Nat.le_refl _) (.slice none 0 0)).setCell (p := ⟨w.heap.size, 2, none⟩) (Nat.le_refl _) (.slice none 0 0))
     go_wp2_with fail
     refine bodyPost_ret (v := .tuple #[.agg #[.slice none 0 0, .slice none 0 0, .slice none 0 0], .int .i64 (cc : Int)]) (by simp [results, Tryz.results96, go_sem, q0, q1, q2]; try rfl) rfl ?_
     refine ⟨HWF.out, ?_⟩
     rw [HV.out]
     exact ⟨cc, h0, rfl⟩
    case pos =>
     subst h0
     have HV : Hid (decodeL bs = .ok ⟨acc, x⟩) := Lib.hid (by rw [HL2.out, HEN.out]; dsimp only; rw [HCT.out]; dsimp only; unfold endR; rw [if_neg hj, HCC.out, if_neg (by simp)])
     obtain ⟨x0, _⟩ := HXh.out 0 _ rfl
     obtain ⟨x1, _⟩ := HXh.out 1 _ rfl
     obtain ⟨x2, _⟩ := HXh.out 2 _ rfl
     have HRa : Hid (w.heap.size < w3.heap.size) := Lib.hid (by have := HS0.out; have := HX0.out; have := HS3.out; omega)
     have HRb : Hid (w.heap.size < wr.heap.size) := Lib.hid (by have := HRa.out; have := HKr.out.size; omega)
     obtain ⟨rr0, rf0⟩ := HBh.out 0 _ rfl
     obtain ⟨rr1, rf1⟩ := HBh.out 1 _ rfl
     obtain ⟨rr2, rf2⟩ := HBh.out 2 _ rfl
     have HQ := Lib.hid (((HBh.out.set 0 (.slice Ae acc.length ce)).set 1 (.slice Am x.ms.length cm)).set 2 (.slice Av x.cl.length cv))
     have q0 := (HQ.out 0 _ rfl).1
     have q1 := (HQ.out 1 _ rfl).1
     have q2 := (HQ.out 2 _ rfl).1
     have HWF := Lib.hid ((((HBW.out.trans (HWh.out.mono (Nat.le_of_lt HS0.out))).setCell (p := ⟨w.heap.size, 0, none⟩) (Nat.le_refl _) (.slice Ae acc.length ce)).setCell (p := ⟨w.heap.size, 1, none⟩) (Nat.le_refl _) (.slice Am x.ms.length cm)).setCell (p := ⟨w.heap.size, 2, none⟩) (Nat.le_refl _) (.slice Av x.cl.length cv))
     go_wp2_with fail
     refine bodyPost_ret (v := .tuple #[.agg #[.slice Ae acc.length ce, .slice Am x.ms.length cm, .slice Av x.cl.length cv], .int .i64 0]) (by simp [results, Tryz.results96, go_sem, q0, q1, q2]; try rfl) rfl ?_
     refine ⟨HWF.out, ?_⟩
     rw [HV.out]
     exact ⟨_, rfl, _, _, _, rfl, (((HOA.out.setCell (p := ⟨w.heap.size, 0, none⟩) HRa.out (.slice Ae acc.length ce)).setCell (p := ⟨w.heap.size, 1, none⟩) HRa.out (.slice Am x.ms.length cm)).setCell (p := ⟨w.heap.size, 2, none⟩) HRa.out (.slice Av x.cl.length cv)).base (Nat.le_of_lt HRa.out), (((HOB.out.setCell (p := ⟨w.heap.size, 0, none⟩) HRb.out (.slice Ae acc.length ce)).setCell (p := ⟨w.heap.size, 1, none⟩) HRb.out (.slice Am x.ms.length cm)).setCell (p := ⟨w.heap.size, 2, none⟩) HRb.out (.slice Av x.cl.length cv)).base (Nat.le_of_lt HRb.out), (((HOC.out.setCell (p := ⟨w.heap.size, 0, none⟩) HRb.out (.slice Ae acc.length ce)).setCell (p := ⟨w.heap.size, 1, none⟩) HRb.out (.slice Am x.ms.length cm)).setCell (p := ⟨w.heap.size, 2, none⟩) HRb.out (.slice Av x.cl.length cv)).base (Nat.le_of_lt HRb.out)⟩
end Go.Proofs.YtpdedfpacklnoaaGreatDoor
