/- Contracts of the document's list of dots and of its Decode of a context: listR, ctxR. Contract of the document's decode of a context: ctxR (causal.read's walk, turned by rkd2.py). Contract of the document's Decode of a context: ctxR. -/
import Derived.Test.YtpdedfpacklnoaaGreatDoorRtTkD
import Derived.Test.YtpdedfpacklnoaaGreatDoorRtRfE
import Derived.Test.YtpdedfpacklnoaaGreatDoorRtTkR
set_option maxRecDepth 100000
namespace Go.Proofs.YtpdedfpacklnoaaGreatDoor
open Go.RowKit Go.BL Go.Ct Go.Sl Go.Wr W

theorem RRd.alloc {w : World} {B g i : Nat} {bs : List Nat} (h : RRd w B g bs i) (o : Obj) : RRd (w.alloc o) B g bs i := h.kept ((Kept.refl [] w).alloc o) (by simp)
theorem RRd.far {w : World} {B g i : Nat} {bs : List Nat} (h : RRd w B g bs i) {p : Addr} (h1 : B ≤ p.block) (h2 : p.block ≠ g) (u : Value) : RRd (w.setCell p u) B g bs i :=
 h.kept ((Kept.refl [p.block] w).setCell (.inl (by simp)) u) (by simp; exact ⟨h1, h2⟩)
theorem RRd.leg {w : World} {B g i : Nat} {bs : List Nat} (h : RRd w B g bs i) : B ≤ g := by obtain ⟨_, _, _, _, _, h, _⟩ := h; exact h
theorem RRd.below {w w' : World} {B C g i : Nat} {bs : List Nat} (h : RRd w B g bs i) (hb : Below C w w') (hC : g < C) : RRd w' B g bs i := by
 obtain ⟨G, c, hh, hr, hi, hl, hcap, hG⟩ := h
 refine ⟨G, c, (hb.block g hC).trans hh, ⟨hr.1, hr.2.1, hr.2.2.1, fun hn => ?_⟩, hi, hl, hcap, hG⟩
 obtain ⟨b, off, e, hlt, hc⟩ := hr.2.2.2 hn
 have := hG hn _ e
 exact ⟨b, off, e, Nat.lt_of_lt_of_le hlt hb.size, fun i hi => (World.cell?_of_block (a := ⟨b, off + i, none⟩) (w := w) (w' := w') (hb.block b (by dsimp only at this; omega))).trans (hc i hi)⟩
/-- So many numbers more. -/
def numsR (bs : List Nat) : Nat → Nat → List Nat → Except Nat (List Nat × Nat)
 | 0, p, acc => .ok (acc, p)
 | m + 1, p, acc => if (uintAt bs p).2.1 ≠ 0 then .error (uintAt bs p).2.1 else numsR bs m (uintAt bs p).2.2 (acc ++ [(uintAt bs p).1])
theorem dot_nums (bs : List Nat) (j : Nat) : dotR bs j = match numsR bs 3 j [] with
  | .error e => .error e
  | .ok (l, p) => match l with
   | [a, b, c] => .ok (⟨(a : Int), (b : Int), (c : Int)⟩, p)
   | _ => .error 1 := by
 unfold dotR
 obtain ⟨⟨a0, c0, p0⟩, hU0⟩ : ∃ x, uintAt bs j = x := ⟨_, rfl⟩
 obtain ⟨⟨a1, c1, p1⟩, hU1⟩ : ∃ x, uintAt bs p0 = x := ⟨_, rfl⟩
 obtain ⟨⟨a2, c2, p2⟩, hU2⟩ : ∃ x, uintAt bs p1 = x := ⟨_, rfl⟩
 simp only [numsR, hU0, hU1, hU2]
 by_cases e0 : c0 = 0 <;> by_cases e1 : c1 = 0 <;> by_cases e2 : c2 = 0 <;> simp [e0, e1, e2]
/-- The numbers so far, and noughts behind. -/
def numC (xs : List Nat) (r : Nat) : List Value := (xs.map fun x : Nat => Value.int .i64 (x : Int)) ++ List.replicate r (.int .i64 0)
theorem numC_at (xs : List Nat) (r : Nat) {m : Nat} (hm : xs.length = m) : (numC xs (r + 1))[m]? = some (.int .i64 0) := by
 unfold numC
 rw [List.getElem?_append_right (by simp [hm]), List.length_map, hm, Nat.sub_self]
 rfl
theorem numC_set (xs : List Nat) (r : Nat) {m : Nat} (hm : xs.length = m) (a : Nat) : (numC xs (r + 1)).set m (.int .i64 (a : Int)) = numC (xs ++ [a]) r := by
 unfold numC
 rw [List.set_append, if_neg (by simp [hm]), List.length_map, hm, Nat.sub_self]
 simp [List.replicate_succ]
/-- What the document's list answers. -/
def DotRR (B g : Nat) (bs : List Nat) (r : Except Nat (List Dt × Nat)) (w : World) (e : Ending) (w' : World) : Prop := Kept [g] w w' ∧ ∃ v c j, e = .returned (.tuple #[v, .int .i64 ((c : Nat) : Int)]) ∧ RRd w' B g bs j ∧
 match r with
 | .error k => c = k ∧ k ≠ 0
 | .ok (l, j') => c = 0 ∧ j = j' ∧ OwnS 90 3 dotC w' w.heap.size v l
set_option maxHeartbeats 8000000 in
theorem listD_any (B g : Nat) (bs : List Nat) (i : Nat) (w : World) (h : RRd w B g bs i) : Calls Tryz.prog 231 #[.pointer (some ⟨g, 0, none⟩)] w (DotRR B g bs (listR bs i) w) := by
 have HGW := Lib.hid h.lt
 have HGB := Lib.hid (RRd.leg h)
 have hu := refRUint_any B g bs i w h
 clear h
 unfold RetRR at hu
 obtain ⟨⟨n, c, p⟩, hU⟩ : ∃ x, uintAt bs i = x := ⟨_, rfl⟩
 rw [hU] at hu
 dsimp only at hu
 have HL : Hid (listR bs i = if c ≠ 0 then .error c else if 64 < n then .error 4 else dotsR bs n p []) := Lib.hid (by unfold listR; rw [hU])
 clear hU
 by_cases hc : c = 0
 case neg =>
  have hc' : ((c : Int) != 0) = true := bne_iff_ne.2 (by omega)
  have HV : Hid (listR bs i = .error c) := Lib.hid (by rw [HL.out, if_pos hc])
  go_enter Tryz.func231, Tryz.ntmps231
  go_wp2_with (go_at_call 143; refine hu.mono ?_; rintro e w1 ⟨rfl, hr, hk⟩; have HR1 := Lib.hid hr; have HK1 := Lib.hid hk; clear hr hk)
  go_ret2
  exact ⟨HK1.out, .slice none 0 0, c, p, rfl, HR1.out, by rw [HV.out]; exact ⟨rfl, hc⟩⟩
 subst hc
 by_cases hn : 64 < n
 case pos =>
  have hn' : (64 : Int) < (n : Int) := by omega
  have HV : Hid (listR bs i = .error 4) := Lib.hid (by rw [HL.out, if_neg (by simp), if_pos hn])
  go_enter Tryz.func231, Tryz.ntmps231
  go_wp2_with (go_at_call 143; refine hu.mono ?_; rintro e w1 ⟨rfl, hr, hk⟩; have HR1 := Lib.hid hr; have HK1 := Lib.hid hk; clear hr hk)
  go_ret2
  exact ⟨HK1.out, .slice none 0 0, 4, p, rfl, HR1.out, by rw [HV.out]; exact ⟨rfl, by decide⟩⟩
 have hn' : ¬ (64 : Int) < (n : Int) := by omega
 have HL2 : Hid (listR bs i = dotsR bs n p []) := Lib.hid (by rw [HL.out, if_neg (by simp), if_neg hn])
 go_enter Tryz.func231, Tryz.ntmps231
 go_wp2_with (go_at_call 143; refine hu.mono ?_; rintro e w1 ⟨rfl, hr, hk⟩; have HR1 := Lib.hid hr; have HK1 := Lib.hid hk; clear hr hk)
 clear hu
 go_loopw [6, 22] (fun av kv wr => ∃ (k j : Nat) (acc : List Dt), k ≤ n ∧ kv = .int .i64 (k : Int) ∧ Hid (RRd wr B g bs j) ∧ Hid (Kept [g] w wr) ∧ Hid (OwnS 90 3 dotC wr w.heap.size av acc) ∧ Hid (acc.length = k) ∧ Hid (dotsR bs (n - k) j acc = dotsR bs n p [])) (fun _ kv _ => n - (intOf kv).toNat)
 case atStart => exact ⟨0, p, [], by omega, rfl, HR1, HK1, Lib.hid (OwnS.nil _ _), Lib.hid rfl, Lib.hid rfl⟩
 case round =>
  rename_i u6
  rename World => wo
  obtain ⟨k, j, acc, hk, rfl, HR, HK, HO, HA, HE⟩ := hrel
  by_cases hlt : k < n
  ·have hnk : n - k = (n - (k + 1)) + 1 := by omega
   have HE2 := HE.out
   rw [hnk] at HE2
   have HE3 := Lib.hid HE2
   clear HE2
   have HWR := Lib.hid HK.out.size
   have HOg : Hid (∀ b, u6.ownBlock = some b → b ∉ [g]) := Lib.hid (fun b hb => by have := HO.out.block_ge b hb; have := HGW.out; simp; omega)
   have HOD : Hid (∀ b, u6.ownBlock = some b → b ≠ wo.heap.size) := Lib.hid (fun b hb => by have := HO.out.block_lt b hb; omega)
   have HDg : Hid (wo.heap.size ∉ [g]) := Lib.hid (by have := HGW.out; have := HWR.out; simp; omega)
   obtain ⟨y0, hy0⟩ : ∃ y, wo.alloc (.cells #[.int .i64 0, .int .i64 0, .int .i64 0] 294) = y := ⟨_, rfl⟩
   have HR0 : Hid (RRd y0 B g bs j) := Lib.hid (by rw [← hy0]; exact RRd.alloc HR.out _)
   have HK0 : Hid (Kept [g] w y0) := Lib.hid (by rw [← hy0]; exact HK.out.alloc _)
   have HD0 : Hid (Bk y0 wo.heap.size (numC [] 3)) := Lib.hid (by rw [← hy0]; exact Bk.new wo _ 294 rfl)
   have HO0 : Hid (OwnS 90 3 dotC y0 w.heap.size u6 acc) := Lib.hid (by rw [← hy0]; exact HO.out.below ((Below.refl wo.heap.size wo).alloc (Nat.le_refl _) _) (Nat.le_refl _))
   have HS0 : Hid (wo.heap.size < y0.heap.size) := Lib.hid (by rw [← hy0]; simp)
   go_upto_region 10 with fail
   clear hy0
   go_wp2_with fail
   go_loopw [24] (fun mv wq => ∃ (m q : Nat) (xs : List Nat), m ≤ 3 ∧ mv = .int .i64 (m : Int) ∧ Hid (RRd wq B g bs q) ∧ Hid (Kept [g] w wq) ∧ Hid (Bk wq wo.heap.size (numC xs (3 - m))) ∧ Hid (OwnS 90 3 dotC wq w.heap.size u6 acc) ∧ Hid (wo.heap.size < wq.heap.size) ∧ Hid (xs.length = m) ∧ Hid (numsR bs (3 - m) q xs = numsR bs 3 j [])) (fun mv _ => 3 - (intOf mv).toNat)
   case atStart => exact ⟨0, j, [], by omega, rfl, HR0, HK0, HD0, HO0, HS0, Lib.hid rfl, Lib.hid rfl⟩
   case round =>
    rename World => wq
    obtain ⟨m, q, xs, hm, rfl, HRq, HKq, HDq, HOq, HSq, HX, HN⟩ := hrel
    by_cases hm3 : m < 3
    ·have hm3' : (m : Int) < 3 := by omega
     have h3m : 3 - m = (3 - (m + 1)) + 1 := by omega
     rw [h3m] at HDq HN
     obtain ⟨⟨a, ca, q2⟩, hU⟩ : ∃ x, uintAt bs q = x := ⟨_, rfl⟩
     have hua := refRUint_any B g bs q wq HRq.out
     unfold RetRR at hua
     rw [hU] at hua
     dsimp only at hua
     have HN2 : Hid ((if ca ≠ 0 then .error ca else numsR bs (3 - (m + 1)) q2 (xs ++ [a])) = numsR bs 3 j []) := Lib.hid (by
      rw [← HN.out]; conv => rhs; unfold numsR
      rw [hU])
     clear hU HN
     go_wp2_with fail
     go_at_call 143
     refine hua.mono ?_
     clear hua
     rintro e x1 ⟨rfl, hr, hkp⟩
     have HR2 := Lib.hid hr
     have HK2 := Lib.hid (HKq.out.then_ hkp)
     have HD2 := Lib.hid (HDq.out.kept hkp HSq.out HDg.out)
     have HO2 := Lib.hid (HOq.out.kept hkp HOg.out)
     have HS2 : Hid (wo.heap.size < x1.heap.size) := Lib.hid (Nat.lt_of_lt_of_le HSq.out hkp.size)
     clear hr hkp
     by_cases hca : ca = 0
     ·subst hca
      have HN3 := Lib.hid ((if_neg (by simp)).symm.trans HN2.out)
      obtain ⟨z0, zf⟩ := HD2.out m _ (numC_at xs _ HX.out)
      have HR3 := Lib.hid (RRd.far HR2.out (p := ⟨wo.heap.size, m, none⟩) (Nat.le_trans HGB.out (Nat.le_of_lt (Nat.lt_of_lt_of_le HGW.out HWR.out))) (by have := HDg.out; simpa using this) (.int .i64 (a : Int)))
      have HK3 := Lib.hid (HK2.out.setCell (p := ⟨wo.heap.size, m, none⟩) (.inr HWR.out) (.int .i64 (a : Int)))
      have HD3 : Hid (Bk (x1.setCell ⟨wo.heap.size, m, none⟩ (.int .i64 (a : Int))) wo.heap.size (numC (xs ++ [a]) (3 - (m + 1)))) := Lib.hid (by rw [← numC_set xs _ HX.out a]; exact HD2.out.set m _)
      have HO3 := Lib.hid (HO2.out.kept ((Kept.refl [wo.heap.size] x1).setCell (p := ⟨wo.heap.size, m, none⟩) (.inl (by simp)) (.int .i64 (a : Int))) (fun b hb => by have := HOD.out b hb; simpa using this))
      go_wp2_with fail
      exact ⟨⟨m + 1, q2, xs ++ [a], by omega, by go_num, HR3, HK3, HD3, HO3, Lib.hid (by simpa using HS2.out), Lib.hid (by simp [HX.out]), HN3⟩, by simp [intOf]; omega⟩
     ·have hcc : ((ca : Int) != 0) = true := bne_iff_ne.2 (by omega)
      have HV : Hid (listR bs i = .error ca) := Lib.hid (by
       rw [HL2.out, ← HE3.out]
       refine dots_err ?_
       rw [dot_nums, ← HN2.out, if_pos hca])
      go_wp2_with fail
      go_ret2
      exact ⟨HK2.out, .slice none 0 0, ca, q2, rfl, HR2.out, by rw [HV.out]; exact ⟨rfl, hca⟩⟩
    ·obtain rfl : m = 3 := by omega
     have hng : ¬ ((3 : Nat) : Int) < 3 := by omega
     obtain ⟨a0, a1, a2, rfl⟩ : ∃ a b c, xs = [a, b, c] := by
      match xs, HX.out with
      | [a, b, c], _ => exact ⟨a, b, c, rfl⟩
     have HD3 : Hid (Bk wq wo.heap.size [.int .i64 (a0 : Int), .int .i64 (a1 : Int), .int .i64 (a2 : Int)]) := HDq
     have HE4 : Hid (dotsR bs (n - (k + 1)) q (acc ++ [⟨(a0 : Int), (a1 : Int), (a2 : Int)⟩]) = dotsR bs n p []) := Lib.hid (by
      rw [← HE3.out]
      refine (dots_ok ?_).symm
      rw [dot_nums, ← HN.out]; rfl)
     have q0 := (HD3.out 0 _ rfl).1
     have q1 := (HD3.out 1 _ rfl).1
     have q2 := (HD3.out 2 _ rfl).1
     have HRA := Lib.hid (RRd.alloc HRq.out (.cells #[.int .i64 (a0 : Int), .int .i64 (a1 : Int), .int .i64 (a2 : Int)] 90))
     have HKA := Lib.hid (HKq.out.alloc (.cells #[.int .i64 (a0 : Int), .int .i64 (a1 : Int), .int .i64 (a2 : Int)] 90))
     have HOA := Lib.hid (HOq.out.below ((Below.refl wq.heap.size wq).alloc (Nat.le_refl _) (.cells #[.int .i64 (a0 : Int), .int .i64 (a1 : Int), .int .i64 (a2 : Int)] 90)) (Nat.le_refl _))
     have HNA := Lib.hid (Bk.new wq (dotC ⟨(a0 : Int), (a1 : Int), (a2 : Int)⟩) 90 rfl)
     have HL64 : Hid (acc.length ≤ 1000000) := Lib.hid (by have := HA.out; omega)
     clear HDq HD0 HR0 HK0 HO0
     go_wp2_with (at_builtin; refine wpList_appS rfl _ _ 28 rfl Tryz.underlying28 info90 rfl (by decide) dotC_len dotC_one (by decide) rfl HOA.out (g := wq.heap.size) (c := 1) (y := ⟨(a0 : Int), (a1 : Int), (a2 : Int)⟩) rfl (fun j u hj => (HNA.out j u hj).1) HL64.out HKA.out.size ?_; intro v' w4 hown' hb4 _; have HO5 := Lib.hid hown'; have HR5 := Lib.hid (RRd.below HRA.out hb4 HGW.out); have HK5 := Lib.hid (HKA.out.then_below hb4); clear hown' hb4)
     exact ⟨⟨k + 1, q, acc ++ [⟨(a0 : Int), (a1 : Int), (a2 : Int)⟩], by omega, by go_num, HR5, HK5, HO5, Lib.hid (by have := HA.out; simp; omega), HE4⟩, by simp [intOf]; omega⟩
  ·obtain rfl : k = n := by omega
   have HV : Hid (listR bs i = .ok (acc, j)) := Lib.hid (by rw [HL2.out, ← HE.out, Nat.sub_self]; rfl)
   go_wp2_with fail
   go_ret2
   exact ⟨HK.out, u6, 0, j, rfl, HR.out, by rw [HV.out]; exact ⟨rfl, rfl, HO.out⟩⟩
/-- The document's reader, below C. -/
def RdrD (w : World) (C g : Nat) (bs : List Nat) (i : Nat) : Prop := ∃ B, RRd w B g bs i ∧ g < C
theorem RdrD.lt {w : World} {C g i : Nat} {bs : List Nat} (h : RdrD w C g bs i) : g < w.heap.size := by obtain ⟨B, h, _⟩ := h; exact h.lt
theorem RdrD.ltB {w : World} {C g i : Nat} {bs : List Nat} (h : RdrD w C g bs i) : g < C := by obtain ⟨B, _, h⟩ := h; exact h
theorem RdrD.alloc {w : World} {C g i : Nat} {bs : List Nat} (h : RdrD w C g bs i) (o : Obj) : RdrD (w.alloc o) C g bs i := by obtain ⟨B, h, k⟩ := h; exact ⟨B, RRd.alloc h o, k⟩
theorem RdrD.far {w : World} {C g i : Nat} {bs : List Nat} (h : RdrD w C g bs i) {p : Addr} (hp : C ≤ p.block) (u : Value) : RdrD (w.setCell p u) C g bs i := by
 obtain ⟨B, h, k⟩ := h
 have := RRd.leg h
 exact ⟨B, RRd.far h (by omega) (by omega) u, k⟩
theorem RdrD.below {w w' : World} {C D g i : Nat} {bs : List Nat} (h : RdrD w C g bs i) (hb : Below D w w') (hC : C ≤ D) : RdrD w' C g bs i := by
 obtain ⟨B, h, k⟩ := h
 exact ⟨B, RRd.below h hb (by omega), k⟩
theorem RdrD.kept {w w' : World} {C g i : Nat} {bs : List Nat} {rows : List Nat} (h : RdrD w C g bs i) (k : Kept rows w w') (hr : ∀ x ∈ rows, C ≤ x) : RdrD w' C g bs i := by
 obtain ⟨B, h, hc⟩ := h
 have := RRd.leg h
 exact ⟨B, h.kept k (fun x hx => by have := hr x hx; omega), hc⟩
def RetRD (B g : Nat) (bs : List Nat) (v : Value) (code pos : Nat) (w : World) (e : Ending) (w' : World) : Prop :=
 e = .returned (.tuple #[v, .int .i64 (code : Int)]) ∧ RdrD w' B g bs pos ∧ Kept [g] w w'
theorem uintD_any (C g : Nat) (bs : List Nat) (i : Nat) (w : World) (h : RdrD w C g bs i) : Calls Tryz.prog 143 #[.pointer (some ⟨g, 0, none⟩)] w (RetRD C g bs (.int .i64 ((uintAt bs i).1 : Int)) (uintAt bs i).2.1 (uintAt bs i).2.2 w) := by
 obtain ⟨B, h, k⟩ := h
 exact (refRUint_any B g bs i w h).mono fun e w' ⟨h1, h2, h3⟩ => ⟨h1, ⟨B, h2, k⟩, h3⟩
theorem byteD_any (C g : Nat) (bs : List Nat) (i : Nat) (w : World) (h : RdrD w C g bs i) : Calls Tryz.prog 192 #[.pointer (some ⟨g, 0, none⟩)] w (RetRD C g bs (.int .i64 ((byteAt bs i).1 : Int)) (byteAt bs i).2.1 (byteAt bs i).2.2 w) := by
 obtain ⟨B, h, k⟩ := h
 exact (refRByte_any B g bs i w h).mono fun e w' ⟨h1, h2, h3⟩ => ⟨h1, ⟨B, h2, k⟩, h3⟩
theorem textD_any (C g : Nat) (bs : List Nat) (i : Nat) (most : Int) (w : World) (h : RdrD w C g bs i) (hl : bs.length ≤ 140737488355000) : Calls Tryz.prog 191 #[.pointer (some ⟨g, 0, none⟩), .int .i64 most] w (RetRD C g bs (.string (bstr (textAt bs i most).1)) (textAt bs i most).2.1 (textAt bs i most).2.2 w) := by
 obtain ⟨B, h, k⟩ := h
 exact (refRText_any B g bs i most w h hl).mono fun e w' ⟨h1, h2, h3⟩ => ⟨h1, ⟨B, h2, k⟩, h3⟩
def DotRD (B g : Nat) (bs : List Nat) (r : Except Nat (List Dt × Nat)) (w : World) (e : Ending) (w' : World) : Prop := Kept [g] w w' ∧ ∃ v c j, e = .returned (.tuple #[v, .int .i64 ((c : Nat) : Int)]) ∧ RdrD w' B g bs j ∧
 match r with
 | .error k => c = k ∧ k ≠ 0
 | .ok (l, j') => c = 0 ∧ j = j' ∧ OwnS 90 3 dotC w' w.heap.size v l
theorem dotsD_any (C g : Nat) (bs : List Nat) (i : Nat) (w : World) (h : RdrD w C g bs i) : Calls Tryz.prog 231 #[.pointer (some ⟨g, 0, none⟩)] w (DotRD C g bs (listR bs i) w) := by
 obtain ⟨B, h, k⟩ := h
 exact (listD_any B g bs i w h).mono fun e w' ⟨h1, v, c, j, h2, h3, h4⟩ => ⟨h1, v, c, j, h2, ⟨B, h3, k⟩, h4⟩
end Go.Proofs.YtpdedfpacklnoaaGreatDoor
set_option maxRecDepth 100000
namespace Go.Proofs.YtpdedfpacklnoaaGreatDoor
open Go.RowKit Go.BL Go.Ct Go.Sl Go.Wr W

def CtxRD (B g : Nat) (bs : List Nat) (r : Except Nat (Cx × Nat)) (w : World) (e : Ending) (w' : World) : Prop := Kept [g] w w' ∧ ∃ m v c j, e = .returned (.tuple #[.agg #[m, v], .int .i64 ((c : Nat) : Int)]) ∧ RdrD w' B g bs j ∧
 match r with
 | .error k => c = k ∧ k ≠ 0 ∧ m = .slice none 0 0 ∧ v = .slice none 0 0
 | .ok (x, j') => c = 0 ∧ j = j' ∧ OwnS 150 3 dotC w' w.heap.size m x.ms ∧ OwnS 90 3 dotC w' w.heap.size v x.cl
set_option maxHeartbeats 8000000 in
theorem creadD_any (B g : Nat) (bs : List Nat) (i : Nat) (w : World) (h : RdrD w B g bs i) (hB : B ≤ w.heap.size) : Calls Tryz.prog 193 #[.pointer (some ⟨g, 0, none⟩)] w (CtxRD B g bs (ctxR bs i) w) := by
 have HBW := Lib.hid hB
 have HGB := Lib.hid h.ltB
 have HGW : Hid (g < w.heap.size) := Lib.hid (Nat.lt_of_lt_of_le h.ltB hB)
 obtain ⟨w0, hw0⟩ : ∃ y, w.alloc (.cells #[.slice none 0 0, .slice none 0 0] 30) = y := ⟨_, rfl⟩
 have HR0 : Hid (RdrD w0 B g bs i) := Lib.hid (by rw [← hw0]; exact h.alloc _)
 have HK0 : Hid (Kept [g] w w0) := Lib.hid (by rw [← hw0]; exact (Kept.refl _ w).alloc _)
 have HD0 : Hid (Bk w0 w.heap.size [.slice none 0 0, .slice none 0 0]) := Lib.hid (by rw [← hw0]; exact Bk.new w _ 30 rfl)
 have HS0 : Hid (w.heap.size < w0.heap.size) := Lib.hid (by rw [← hw0]; simp)
 have HRg : Hid (w.heap.size ∉ [g]) := Lib.hid (by have := HGW.out; simp; omega)
 have hd0 := dotsD_any B g bs i w0 HR0.out
 unfold DotRD at hd0
 clear h hB
 go_enter Tryz.func193, Tryz.ntmps193
 go_wp2_with fail
 clear hw0
 go_at_call 231
 refine hd0.mono ?_
 rintro e w1 ⟨hk1, v1, c1, j1, rfl, hr1, hm1⟩
 have HK1 := Lib.hid (HK0.out.then_ hk1)
 have HD1 := Lib.hid (HD0.out.kept hk1 HS0.out HRg.out)
 have HS1 : Hid (w.heap.size < w1.heap.size) := Lib.hid (Nat.lt_of_lt_of_le HS0.out hk1.size)
 have HR1 := Lib.hid hr1
 have HM1 := Lib.hid hm1
 clear hk1 hr1 hd0 hm1
 cases hl : listR bs i with
 | error k1 =>
  have hm1 := HM1.out
  rw [hl] at hm1
  obtain ⟨rfl, hk⟩ := hm1
  have HV : Hid (ctxR bs i = .error c1) := Lib.hid (by unfold ctxR; rw [hl])
  have hne : ((c1 : Int) != 0) = true := bne_iff_ne.2 (by omega)
  have HC1 := Lib.hid hk
  clear hl hk
  obtain ⟨f0, f1⟩ : w1.frozen? ⟨w.heap.size, 0, none⟩ = false ∧ w1.frozen? ⟨w.heap.size, 1, none⟩ = false := ⟨(HD1.out 0 _ rfl).2, (HD1.out 1 _ rfl).2⟩
  obtain ⟨g0, g1⟩ : w1.cell? ⟨w.heap.size, 0, none⟩ = some (.slice none 0 0) ∧ w1.cell? ⟨w.heap.size, 1, none⟩ = some (.slice none 0 0) := ⟨(HD1.out 0 _ rfl).1, (HD1.out 1 _ rfl).1⟩
  have hq := (HD1.out.set 0 (.slice none 0 0)).set 1 (.slice none 0 0)
  have q0 := (hq 0 _ rfl).1
  have q1 := (hq 1 _ rfl).1
  have HKF := Lib.hid ((HK1.out.setCell (p := ⟨w.heap.size, 0, none⟩) (.inr (Nat.le_refl _)) (.slice none 0 0)).setCell (p := ⟨w.heap.size, 1, none⟩) (.inr (Nat.le_refl _)) (.slice none 0 0))
  have HRF := Lib.hid ((HR1.out.far (p := ⟨w.heap.size, 0, none⟩) HBW.out (.slice none 0 0)).far (p := ⟨w.heap.size, 1, none⟩) HBW.out (.slice none 0 0))
  clear hq
  go_wp2_with fail
  refine bodyPost_ret (v := .tuple #[.agg #[.slice none 0 0, .slice none 0 0], .int .i64 (c1 : Int)]) (by simp [results, Tryz.results193, go_sem, q0, q1]; try rfl) rfl ?_
  exact ⟨HKF.out, _, _, c1, j1, rfl, HRF.out, by rw [HV.out]; exact ⟨rfl, HC1.out, rfl, rfl⟩⟩
 | ok r1 =>
  obtain ⟨l, i1⟩ := r1
  have hm1 := HM1.out
  rw [hl] at hm1
  obtain ⟨rfl, rfl, ho1⟩ := hm1
  have HO1 := Lib.hid ho1
  have HL1 := Lib.hid hl
  clear hl ho1 HM1
  have hd1 := dotsD_any B g bs j1 w1 HR1.out
  unfold DotRD at hd1
  go_wp2_with fail
  go_at_call 231
  refine hd1.mono ?_
  rintro e w2 ⟨hk2, v2, c2, j2, rfl, hr2, hm2⟩
  have HK2 := Lib.hid (HK1.out.then_ hk2)
  have HD2 := Lib.hid (HD1.out.kept hk2 HS1.out HRg.out)
  have HS2 : Hid (w.heap.size < w2.heap.size) := Lib.hid (Nat.lt_of_lt_of_le HS1.out hk2.size)
  have HO1b := Lib.hid (HO1.out.kept hk2 (fun b hb => by have := HO1.out.block_ge b hb; have := HGW.out; have := HS0.out; simp; omega))
  have HR2 := Lib.hid hr2
  have HM2 := Lib.hid hm2
  have HW12 := Lib.hid hk2.size
  clear hk2 hr2 hd1 hm2
  cases hl : listR bs j1 with
  | error k2 =>
   have hm2 := HM2.out
   rw [hl] at hm2
   obtain ⟨rfl, hk⟩ := hm2
   have HV : Hid (ctxR bs i = .error c2) := Lib.hid (by unfold ctxR; rw [HL1.out]; dsimp only; rw [hl])
   have hne : ((c2 : Int) != 0) = true := bne_iff_ne.2 (by omega)
   have HC2 := Lib.hid hk
   clear hl hk
   obtain ⟨f0, f1⟩ : w2.frozen? ⟨w.heap.size, 0, none⟩ = false ∧ w2.frozen? ⟨w.heap.size, 1, none⟩ = false := ⟨(HD2.out 0 _ rfl).2, (HD2.out 1 _ rfl).2⟩
   obtain ⟨g0, g1⟩ : w2.cell? ⟨w.heap.size, 0, none⟩ = some (.slice none 0 0) ∧ w2.cell? ⟨w.heap.size, 1, none⟩ = some (.slice none 0 0) := ⟨(HD2.out 0 _ rfl).1, (HD2.out 1 _ rfl).1⟩
   have hq := (HD2.out.set 0 (.slice none 0 0)).set 1 (.slice none 0 0)
   have q0 := (hq 0 _ rfl).1
   have q1 := (hq 1 _ rfl).1
   have HKF := Lib.hid ((HK2.out.setCell (p := ⟨w.heap.size, 0, none⟩) (.inr (Nat.le_refl _)) (.slice none 0 0)).setCell (p := ⟨w.heap.size, 1, none⟩) (.inr (Nat.le_refl _)) (.slice none 0 0))
   have HRF := Lib.hid ((HR2.out.far (p := ⟨w.heap.size, 0, none⟩) HBW.out (.slice none 0 0)).far (p := ⟨w.heap.size, 1, none⟩) HBW.out (.slice none 0 0))
   clear hq
   go_wp2_with fail
   refine bodyPost_ret (v := .tuple #[.agg #[.slice none 0 0, .slice none 0 0], .int .i64 (c2 : Int)]) (by simp [results, Tryz.results193, go_sem, q0, q1]; try rfl) rfl ?_
   exact ⟨HKF.out, _, _, c2, j2, rfl, HRF.out, by rw [HV.out]; exact ⟨rfl, HC2.out, rfl, rfl⟩⟩
  | ok r2 =>
   obtain ⟨m, i2⟩ := r2
   have hm2 := HM2.out
   rw [hl] at hm2
   obtain ⟨rfl, rfl, ho2⟩ := hm2
   have HO2 := Lib.hid ho2
   have HL2 := Lib.hid hl
   clear hl ho2 HM2
   obtain ⟨A1, k1, rfl⟩ := HO1b.out.form
   obtain ⟨A2, k2, rfl⟩ := HO2.out.form
   obtain ⟨w3, hw3⟩ : ∃ y, w2.alloc (.cells #[.slice none 0 0, .slice A2 m.length k2] 30) = y := ⟨_, rfl⟩
   have HR3 : Hid (RdrD w3 B g bs j2) := Lib.hid (by rw [← hw3]; exact HR2.out.alloc _)
   have HK3 : Hid (Kept [g] w w3) := Lib.hid (by rw [← hw3]; exact HK2.out.alloc _)
   have HX3 : Hid (Bk w3 w2.heap.size [.slice none 0 0, .slice A2 m.length k2]) := Lib.hid (by rw [← hw3]; exact Bk.new w2 _ 30 rfl)
   have HD3 : Hid (Bk w3 w.heap.size [.slice none 0 0, .slice none 0 0]) := Lib.hid (by rw [← hw3]; exact HD2.out.alloc _ HS2.out)
   have hb23 : Below w2.heap.size w2 w3 := by rw [← hw3]; exact (Below.refl _ _).alloc (Nat.le_refl _) _
   have HO13 := Lib.hid (HO1b.out.below hb23 (Nat.le_refl _))
   have HO23 := Lib.hid (HO2.out.below hb23 (Nat.le_refl _))
   have HS3 : Hid (w2.heap.size < w3.heap.size) := Lib.hid (by rw [← hw3]; simp)
   have HX1 : Hid (∀ b, (Value.slice A1 l.length k1).ownBlock = some b → b ∉ [w2.heap.size]) := Lib.hid (fun b hb => by have := HO1b.out.block_lt b hb; simp; omega)
   have HX2 : Hid (∀ b, (Value.slice A2 m.length k2).ownBlock = some b → b ∉ [w2.heap.size]) := Lib.hid (fun b hb => by have := HO2.out.block_lt b hb; simp; omega)
   have HXR : Hid (w.heap.size ∉ [w2.heap.size]) := Lib.hid (by have := HS2.out; simp; omega)
   have HXB : Hid (∀ x ∈ [w2.heap.size], B ≤ x) := Lib.hid (by intro x hx; simp at hx; have := HBW.out; have := HS2.out; omega)
   clear hb23
   go_upto_region 8 with fail
   clear hw3
   have hl64 : l.length ≤ 1000000 := Nat.le_trans (dots_len HL1.out) (by decide)
   have hmm : m.length ≤ 1000000 := Nat.le_trans (dots_len HL2.out) (by decide)
   go_wp2_with fail
   go_loopw [32] (fun kv wr => ∃ (k : Nat) (mv : Value), k ≤ l.length ∧ kv = .int .i64 (k : Int) ∧ Hid (Kept [w2.heap.size] w3 wr) ∧ Hid (Bk wr w2.heap.size [mv, .slice A2 m.length k2]) ∧ Hid (OwnS 150 3 dotC wr w3.heap.size mv (l.take k))) (fun kv _ => l.length - (intOf kv).toNat)
   case atStart => exact ⟨0, .slice none 0 0, by omega, rfl, Lib.hid (Kept.refl _ _), HX3, Lib.hid (OwnS.nil _ _)⟩
   case round =>
    obtain ⟨k, mv, hk, rfl, HKr, HXr, HOr⟩ := hrel
    by_cases hlt : k < l.length
    ·have hsl : Dots wr (.slice A1 l.length k1) l := (HO13.out.kept HKr.out HX1.out).sl dotC_len (by omega)
     obtain ⟨b, off, rfl, hbl, hcc⟩ := dot_cells hsl (by omega)
     obtain ⟨d1, d2, d3⟩ := hcc k hlt
     have HTK := Lib.hid (List.take_succ_eq_append_getElem hlt)
     obtain ⟨⟨dn, dl, dc⟩, hx⟩ : ∃ x, l[k]'hlt = x := ⟨_, rfl⟩
     rw [hx] at d1 d2 d3 HTK
     dsimp only at d1 d2 d3
     clear hcc hx hsl
     obtain ⟨w5, hw5⟩ : ∃ y, wr.alloc (.cells #[.int .i64 dn, .int .i64 dl, .int .i64 dc] 90) = y := ⟨_, rfl⟩
     have HK5 : Hid (Kept [w2.heap.size] w3 w5) := Lib.hid (by rw [← hw5]; exact HKr.out.alloc _)
     have HX5 : Hid (Bk w5 w2.heap.size [mv, .slice A2 m.length k2]) := Lib.hid (by rw [← hw5]; exact HXr.out.alloc _ (Nat.lt_of_lt_of_le HS3.out HKr.out.size))
     have HO5 : Hid (OwnS 150 3 dotC w5 w3.heap.size mv (l.take k)) := Lib.hid (by rw [← hw5]; exact HOr.out.below ((Below.refl wr.heap.size wr).alloc (Nat.le_refl _) _) (Nat.le_refl _))
     have HD5 : Hid (Bk w5 wr.heap.size [.int .i64 dn, .int .i64 dl, .int .i64 dc]) := Lib.hid (by rw [← hw5]; exact Bk.new wr _ 90 rfl)
     have HLk : Hid ((l.take k).length ≤ 1000000) := Lib.hid (by rw [List.length_take]; omega)
     have HLN : Hid ((l.take k ++ [(⟨dn, dl, dc⟩ : Dt)]).length = k + 1) := Lib.hid (by rw [List.length_append, List.length_take]; simp; omega)
     go_upto_region 11 with fail
     clear hw5 d1 d2 d3
     have z0 := (HX5.out 0 _ rfl).1
     have z1 := (HX5.out 1 _ rfl).1
     have e0 := (HD5.out 0 _ rfl).1
     have e1 := (HD5.out 1 _ rfl).1
     have e2 := (HD5.out 2 _ rfl).1
     have HK6 := Lib.hid (HK5.out.alloc (.cells #[.int .i64 dn, .int .i64 dl, .int .i64 dc] 150))
     have HX6 := Lib.hid (HX5.out.alloc (.cells #[.int .i64 dn, .int .i64 dl, .int .i64 dc] 150) (Nat.lt_of_lt_of_le HS3.out HK5.out.size))
     have HO6 := Lib.hid (HO5.out.below ((Below.refl w5.heap.size w5).alloc (Nat.le_refl _) (.cells #[.int .i64 dn, .int .i64 dl, .int .i64 dc] 150)) (Nat.le_refl _))
     have HN6 := Lib.hid (Bk.new w5 (dotC ⟨dn, dl, dc⟩) 150 rfl)
     go_wp2_with (at_builtin; refine wpList_appS rfl _ _ 27 rfl Tryz.underlying27 info150 rfl (by decide) dotC_len dotC_one (by decide) rfl HO6.out (g := w5.heap.size) (c := 1) (y := ⟨dn, dl, dc⟩) rfl (fun j u hj => (HN6.out j u hj).1) HLk.out HK6.out.size ?_; intro v' w7 hown' hb7 _; have HO7 := Lib.hid hown'; have HK7 := Lib.hid (HK6.out.then_below hb7); have HX7 := Lib.hid (HX6.out.below hb7 HS3.out); clear hown' hb7; obtain ⟨y0, yf0⟩ := HX7.out 0 _ rfl; obtain ⟨A7, c7, h7⟩ := HO7.out.form; rw [HLN.out] at h7; subst h7)
     exact ⟨⟨k + 1, _, by omega, by go_num, Lib.hid (HK7.out.setCell (p := ⟨w2.heap.size, 0, none⟩) (.inl (by simp)) _), Lib.hid (HX7.out.set 0 _), Lib.hid (by rw [HTK.out]; exact HO7.out.setCell (p := ⟨w2.heap.size, 0, none⟩) HS3.out _)⟩, by simp [intOf]; omega⟩
    ·have hkl : k = l.length := by omega
     have HTL : Hid (l.take k = l) := Lib.hid (List.take_of_length_le (by omega))
     obtain ⟨A8, c8, rfl⟩ := HOr.out.form
     rw [HTL.out] at HOr HXr
     have hDl : Dots wr (.slice A8 l.length c8) l := HOr.out.sl dotC_len (by omega)
     have HOm := Lib.hid (HO23.out.kept HKr.out HX2.out)
     have hDm : Dots wr (.slice A2 m.length k2) m := HOm.out.sl dotC_len (by omega)
     have hcan := R.canXR_any ⟨l, m⟩ (.slice A8 l.length c8) (.slice A2 m.length k2) wr hDl hDm
     obtain ⟨cx, hcx⟩ : ∃ y, canX ⟨l, m⟩ = y := ⟨_, rfl⟩
     rw [hcx] at hcan
     have HCX := Lib.hid hcx
     have HRr := Lib.hid (HR3.out.kept HKr.out HXB.out)
     have HDr := Lib.hid (HD3.out.kept HKr.out (Nat.lt_trans HS2.out HS3.out) HXR.out)
     have HKw := Lib.hid (HK3.out.trans HKr.out (fun x hx => by simp at hx; have := HS2.out; omega))
     have HSr : Hid (w.heap.size < wr.heap.size) := Lib.hid (Nat.lt_of_lt_of_le (Nat.lt_trans HS2.out HS3.out) HKr.out.size)
     have HSX : Hid (w2.heap.size < wr.heap.size) := Lib.hid (Nat.lt_of_lt_of_le HS3.out HKr.out.size)
     have x0 := (HXr.out 0 _ rfl).1
     have x1 := (HXr.out 1 _ rfl).1
     clear hDl hDm hcx
     go_upto_region 13 with fail
     cases cx
     case false =>
      have HV : Hid (ctxR bs i = .error 30) := Lib.hid (by unfold ctxR; rw [HL1.out]; dsimp only; rw [HL2.out]; dsimp only; rw [HCX.out]; rfl)
      go_wp2_with (go_at_call 39; refine hcan.mono ?_; rintro e w8 ⟨rfl, hb8⟩; have HB8 := Lib.hid hb8; clear hb8 hcan; have HD8 := Lib.hid (HDr.out.below HB8.out HSr.out); have HX8 := Lib.hid (HXr.out.below HB8.out HSX.out); obtain ⟨g0, f0⟩ := HD8.out 0 _ rfl; obtain ⟨g1, f1⟩ := HD8.out 1 _ rfl; have y0 := (HX8.out 0 _ rfl).1; have y1 := (HX8.out 1 _ rfl).1; have HQ := Lib.hid ((HD8.out.set 0 (.slice none 0 0)).set 1 (.slice none 0 0)); have q0 := (HQ.out 0 _ rfl).1; have q1 := (HQ.out 1 _ rfl).1)
      have HKF := Lib.hid (((HKw.out.then_below (HB8.out.mono (Nat.le_of_lt HSr.out))).setCell (p := ⟨w.heap.size, 0, none⟩) (.inr (Nat.le_refl _)) (.slice none 0 0)).setCell (p := ⟨w.heap.size, 1, none⟩) (.inr (Nat.le_refl _)) (.slice none 0 0))
      have HRF := Lib.hid (((HRr.out.below HB8.out (Nat.le_trans HBW.out (Nat.le_of_lt HSr.out))).far (p := ⟨w.heap.size, 0, none⟩) HBW.out (.slice none 0 0)).far (p := ⟨w.heap.size, 1, none⟩) HBW.out (.slice none 0 0))
      refine bodyPost_ret (v := .tuple #[.agg #[.slice none 0 0, .slice none 0 0], .int .i64 30]) (by simp [results, Tryz.results193, go_sem, q0, q1]; try rfl) rfl ?_
      exact ⟨HKF.out, _, _, 30, j2, rfl, HRF.out, by rw [HV.out]; exact ⟨rfl, by decide, rfl, rfl⟩⟩
     case true =>
      have HV : Hid (ctxR bs i = .ok (⟨l, m⟩, j2)) := Lib.hid (by unfold ctxR; rw [HL1.out]; dsimp only; rw [HL2.out]; dsimp only; rw [HCX.out]; rfl)
      go_wp2_with (go_at_call 39; refine hcan.mono ?_; rintro e w8 ⟨rfl, hb8⟩; have HB8 := Lib.hid hb8; clear hb8 hcan; have HD8 := Lib.hid (HDr.out.below HB8.out HSr.out); have HX8 := Lib.hid (HXr.out.below HB8.out HSX.out); obtain ⟨g0, f0⟩ := HD8.out 0 _ rfl; obtain ⟨g1, f1⟩ := HD8.out 1 _ rfl; have y0 := (HX8.out 0 _ rfl).1; have y1 := (HX8.out 1 _ rfl).1; have HQ := Lib.hid ((HD8.out.set 0 (.slice A8 l.length c8)).set 1 (.slice A2 m.length k2)); have q0 := (HQ.out 0 _ rfl).1; have q1 := (HQ.out 1 _ rfl).1)
      have HO8 := Lib.hid (HOr.out.below HB8.out (Nat.le_refl _))
      have HM8 := Lib.hid (HOm.out.below HB8.out (Nat.le_refl _))
      have HOF := Lib.hid (((HO8.out.setCell (p := ⟨w.heap.size, 0, none⟩) (Nat.lt_trans HS2.out HS3.out) (.slice A8 l.length c8)).setCell (p := ⟨w.heap.size, 1, none⟩) (Nat.lt_trans HS2.out HS3.out) (.slice A2 m.length k2)).base (Nat.le_of_lt (Nat.lt_trans HS2.out HS3.out)))
      have HOG := Lib.hid (((HM8.out.setCell (p := ⟨w.heap.size, 0, none⟩) HS1.out (.slice A8 l.length c8)).setCell (p := ⟨w.heap.size, 1, none⟩) HS1.out (.slice A2 m.length k2)).base (Nat.le_of_lt HS1.out))
      have HKF := Lib.hid (((HKw.out.then_below (HB8.out.mono (Nat.le_of_lt HSr.out))).setCell (p := ⟨w.heap.size, 0, none⟩) (.inr (Nat.le_refl _)) (.slice A8 l.length c8)).setCell (p := ⟨w.heap.size, 1, none⟩) (.inr (Nat.le_refl _)) (.slice A2 m.length k2))
      have HRF := Lib.hid (((HRr.out.below HB8.out (Nat.le_trans HBW.out (Nat.le_of_lt HSr.out))).far (p := ⟨w.heap.size, 0, none⟩) HBW.out (.slice A8 l.length c8)).far (p := ⟨w.heap.size, 1, none⟩) HBW.out (.slice A2 m.length k2))
      refine bodyPost_ret (v := .tuple #[.agg #[.slice A8 l.length c8, .slice A2 m.length k2], .int .i64 0]) (by simp [results, Tryz.results193, go_sem, q0, q1]; try rfl) rfl ?_
      exact ⟨HKF.out, _, _, 0, j2, rfl, HRF.out, by rw [HV.out]; exact ⟨rfl, rfl, HOF.out, HOG.out⟩⟩
end Go.Proofs.YtpdedfpacklnoaaGreatDoor
set_option maxRecDepth 100000
namespace Go.Proofs.YtpdedfpacklnoaaGreatDoor
open Go.RowKit Go.BL Go.Ct Go.Sl Go.Wr W

def CDecRD (B g : Nat) (bs : List Nat) (r : Except Nat (Cx × Nat)) (w : World) (e : Ending) (w' : World) : Prop := Kept [g] w w' ∧ ∃ m v c, e = .returned (.tuple #[.agg #[m, v], .int .i64 ((c : Nat) : Int)]) ∧
 match r with
 | .error k => c = k ∧ k ≠ 0 ∧ m = .slice none 0 0 ∧ v = .slice none 0 0
 | .ok (x, j') => c = 0 ∧ RdrD w' B g bs j' ∧ OwnS 150 3 dotC w' w.heap.size m x.ms ∧ OwnS 90 3 dotC w' w.heap.size v x.cl
theorem RdrD.at {w : World} {C g i : Nat} {bs : List Nat} (h : RdrD w C g bs i) : w.cell? ⟨g, 1, none⟩ = some (.int .i64 (i : Int)) ∧ w.frozen? ⟨g, 1, none⟩ = false := by
 obtain ⟨B, h, _⟩ := h
 obtain ⟨G, c, _, h1, h2, _⟩ := h.cells
 exact ⟨h1, h2⟩
set_option maxHeartbeats 8000000 in
theorem cdecD_any (B g : Nat) (bs : List Nat) (i : Nat) (w : World) (h : RdrD w B g bs i) (hB : B ≤ w.heap.size) : Calls Tryz.prog 145 #[.pointer (some ⟨g, 0, none⟩)] w (CDecRD B g bs (ctxR bs i) w) := by
 have HBW := Lib.hid hB
 have HGW : Hid (g < w.heap.size) := Lib.hid (Nat.lt_of_lt_of_le h.ltB hB)
 obtain ⟨w0, hw0⟩ : ∃ y, w.alloc (.cells #[.slice none 0 0, .slice none 0 0] 30) = y := ⟨_, rfl⟩
 have HR1 : Hid (RdrD w0 B g bs i) := Lib.hid (by rw [← hw0]; exact h.alloc _)
 have HK1 : Hid (Kept [g] w w0) := Lib.hid (by rw [← hw0]; exact (Kept.refl _ w).alloc _)
 have HD1 : Hid (Bk w0 w.heap.size [.slice none 0 0, .slice none 0 0]) := Lib.hid (by rw [← hw0]; exact Bk.new w _ 30 rfl)
 have HS0 : Hid (w.heap.size < w0.heap.size) := Lib.hid (by rw [← hw0]; simp)
 have HRg : Hid (w.heap.size ∉ [g]) := Lib.hid (by have := HGW.out; simp; omega)
 have HGR : Hid (g ≠ w.heap.size) := Lib.hid (by have := HGW.out; omega)
 obtain ⟨b1, bf1⟩ := HR1.out.at
 have hd := creadD_any B g bs i w0 HR1.out (Nat.le_trans hB HK1.out.size)
 unfold CtxRD at hd
 clear h hB bf1
 go_enter Tryz.func145, Tryz.ntmps145
 go_upto_region 2 with fail
 clear hw0 b1
 go_wp2_with fail
 go_at_call 193
 refine hd.mono ?_
 clear hd
 rintro e w2 ⟨hk2, m, v, c2, j2, rfl, hr2, hm2⟩
 have HK2 := Lib.hid (HK1.out.then_ hk2)
 have HD2 := Lib.hid (HD1.out.kept hk2 HS0.out HRg.out)
 have HSw : Hid (w.heap.size < w2.heap.size) := Lib.hid (Nat.lt_of_lt_of_le HS0.out hk2.size)
 have HR2 := Lib.hid hr2
 have HM2 := Lib.hid hm2
 clear hk2 hr2 hm2
 cases hl : ctxR bs i with
 | error k2 =>
  have hm2 := HM2.out
  rw [hl] at hm2
  obtain ⟨rfl, hk, rfl, rfl⟩ := hm2
  have HV := Lib.hid hl
  have hne : ((c2 : Int) != 0) = true := bne_iff_ne.2 (by omega)
  have HCC := Lib.hid hk
  clear hl hk HM2
  obtain ⟨w3, hw3⟩ : ∃ y, w2.alloc (.cells #[.slice none 0 0, .slice none 0 0] 30) = y := ⟨_, rfl⟩
  have HR3 : Hid (RdrD w3 B g bs j2) := Lib.hid (by rw [← hw3]; exact HR2.out.alloc _)
  have HD3 : Hid (Bk w3 w.heap.size [.slice none 0 0, .slice none 0 0]) := Lib.hid (by rw [← hw3]; exact HD2.out.alloc _ HSw.out)
  have HK3 : Hid (Kept [g] w w3) := Lib.hid (by rw [← hw3]; exact HK2.out.alloc _)
  have HW3 := Lib.hid hw3
  clear hw3
  go_upto_region 3 with fail
  rw [HW3.out]
  obtain ⟨g1, f1⟩ := HR3.out.at
  have HK4 := Lib.hid (HK3.out.setCell (p := ⟨g, 1, none⟩) (.inl (by simp)) (.int .i64 (i : Int)))
  have HD4 := Lib.hid (HD3.out.other (p := ⟨g, 1, none⟩) HGR.out (.int .i64 (i : Int)))
  obtain ⟨w4, hw4⟩ : ∃ y, w3.setCell ⟨g, 1, none⟩ (.int .i64 (i : Int)) = y := ⟨_, rfl⟩
  rw [hw4] at HK4 HD4
  go_upto_region 5 with fail
  clear hw4 g1 f1
  obtain ⟨g0, f0⟩ := HD4.out 0 _ rfl
  obtain ⟨g1, f1⟩ := HD4.out 1 _ rfl
  have HQ := Lib.hid ((HD4.out.set 0 (.slice none 0 0)).set 1 (.slice none 0 0))
  have q0 := (HQ.out 0 _ rfl).1
  have q1 := (HQ.out 1 _ rfl).1
  have HKF := Lib.hid ((HK4.out.setCell (p := ⟨w.heap.size, 0, none⟩) (.inr (Nat.le_refl _)) (.slice none 0 0)).setCell (p := ⟨w.heap.size, 1, none⟩) (.inr (Nat.le_refl _)) (.slice none 0 0))
  go_wp2_with fail
  refine bodyPost_ret (v := .tuple #[.agg #[.slice none 0 0, .slice none 0 0], .int .i64 (c2 : Int)]) (by simp [results, Tryz.results145, go_sem, q0, q1]; try rfl) rfl ?_
  exact ⟨HKF.out, _, _, c2, rfl, by rw [HV.out]; exact ⟨rfl, HCC.out, rfl, rfl⟩⟩
 | ok r2 =>
  obtain ⟨x, i2⟩ := r2
  have hm2 := HM2.out
  rw [hl] at hm2
  obtain ⟨rfl, rfl, ho1, ho2⟩ := hm2
  obtain ⟨Am, cm, rfl⟩ := ho1.form
  obtain ⟨Av, cv, rfl⟩ := ho2.form
  have HV := Lib.hid hl
  have HO1 := Lib.hid ho1
  have HO2 := Lib.hid ho2
  clear hl ho1 ho2 HM2
  obtain ⟨w3, hw3⟩ : ∃ y, w2.alloc (.cells #[.slice Am x.ms.length cm, .slice Av x.cl.length cv] 30) = y := ⟨_, rfl⟩
  have HD3 : Hid (Bk w3 w.heap.size [.slice none 0 0, .slice none 0 0]) := Lib.hid (by rw [← hw3]; exact HD2.out.alloc _ HSw.out)
  have HX3 : Hid (Bk w3 w2.heap.size [.slice Am x.ms.length cm, .slice Av x.cl.length cv]) := Lib.hid (by rw [← hw3]; exact Bk.new w2 _ 30 rfl)
  have HK3 : Hid (Kept [g] w w3) := Lib.hid (by rw [← hw3]; exact HK2.out.alloc _)
  have HR3 : Hid (RdrD w3 B g bs j2) := Lib.hid (by rw [← hw3]; exact HR2.out.alloc _)
  have hb23 : Below w2.heap.size w2 w3 := by rw [← hw3]; exact (Below.refl _ _).alloc (Nat.le_refl _) _
  have HO13 := Lib.hid (HO1.out.below hb23 (Nat.le_refl _))
  have HO23 := Lib.hid (HO2.out.below hb23 (Nat.le_refl _))
  clear hb23
  go_upto_region 3 with fail
  clear hw3
  obtain ⟨x0, _⟩ := HX3.out 0 _ rfl
  obtain ⟨x1, _⟩ := HX3.out 1 _ rfl
  obtain ⟨g0, f0⟩ := HD3.out 0 _ rfl
  obtain ⟨g1, f1⟩ := HD3.out 1 _ rfl
  have HQ := Lib.hid ((HD3.out.set 0 (.slice Am x.ms.length cm)).set 1 (.slice Av x.cl.length cv))
  have q0 := (HQ.out 0 _ rfl).1
  have q1 := (HQ.out 1 _ rfl).1
  have HKF := Lib.hid ((HK3.out.setCell (p := ⟨w.heap.size, 0, none⟩) (.inr (Nat.le_refl _)) (.slice Am x.ms.length cm)).setCell (p := ⟨w.heap.size, 1, none⟩) (.inr (Nat.le_refl _)) (.slice Av x.cl.length cv))
  have HRF := Lib.hid ((HR3.out.far (p := ⟨w.heap.size, 0, none⟩) HBW.out (.slice Am x.ms.length cm)).far (p := ⟨w.heap.size, 1, none⟩) HBW.out (.slice Av x.cl.length cv))
  have HOF := Lib.hid (((HO13.out.setCell (p := ⟨w.heap.size, 0, none⟩) HS0.out (.slice Am x.ms.length cm)).setCell (p := ⟨w.heap.size, 1, none⟩) HS0.out (.slice Av x.cl.length cv)).base (Nat.le_of_lt HS0.out))
  have HOG := Lib.hid (((HO23.out.setCell (p := ⟨w.heap.size, 0, none⟩) HS0.out (.slice Am x.ms.length cm)).setCell (p := ⟨w.heap.size, 1, none⟩) HS0.out (.slice Av x.cl.length cv)).base (Nat.le_of_lt HS0.out))
  go_wp2_with fail
  refine bodyPost_ret (v := .tuple #[.agg #[.slice Am x.ms.length cm, .slice Av x.cl.length cv], .int .i64 0]) (by simp [results, Tryz.results145, go_sem, q0, q1]; try rfl) rfl ?_
  exact ⟨HKF.out, _, _, 0, rfl, by rw [HV.out]; exact ⟨rfl, HRF.out, HOF.out, HOG.out⟩⟩
end Go.Proofs.YtpdedfpacklnoaaGreatDoor
