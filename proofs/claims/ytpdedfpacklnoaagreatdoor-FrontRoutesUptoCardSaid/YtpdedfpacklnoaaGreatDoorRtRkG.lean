/- Contract of the document's Route: routeL. -/
import Derived.Test.YtpdedfpacklnoaaGreatDoorRtRkT
import Derived.Test.YtpdedfpacklnoaaGreatDoorRtSam
set_option maxRecDepth 100000
namespace Go.Proofs.YtpdedfpacklnoaaGreatDoor
open Go.RowKit Go.BL Go.Ct Go.Sl

theorem part_len (s : List UInt8) : ∀ x ∈ partsL 47 s, x.length ≤ s.length := by
 induction s with
 | nil => intro x hx; simp [partsL] at hx; simp [hx]
 | cons c r ih =>
  intro x hx
  rw [parts_cons] at hx
  split at hx
  ·rcases List.mem_cons.1 hx with rfl | h
   ·simp
   ·have := ih x h; simp; omega
  ·cases hp : partsL 47 r with
   | nil => rw [hp] at hx; simp at hx; simp [hx]
   | cons a l =>
    rw [hp] at hx ih
    rcases List.mem_cons.1 hx with rfl | h
    ·have := ih a (by simp); simp; omega
    ·have := ih x (by simp [h]); simp; omega
theorem str_nonempty {s : List UInt8} (h : s ≠ []) : s.isEmpty = false := by cases s <;> simp_all
theorem body_two (a : Ask) (b : List UInt8) (h : a.kind = 2) : bodyL a b = match twoD b with
  | some (n, p) => .ok { a with qty := n, price := p }
  | none => .error 400 := by
 unfold bodyL twoD
 rw [if_neg (by omega)]
 cases (cut1 32 b).2.2 <;> cases piecesL (cut1 32 b).1 <;> cases priceT (cut1 32 b).2.1 <;> rfl
set_option maxHeartbeats 8000000 in
theorem route_short (q : Rq) (h : Value) (id : Int) (w : World) (hd : H.Hdrs w h q.hs) (hz : Small q) (ls : List (List UInt8)) (hls : partsL 47 q.p = ls) (hc : ls.length < 3) : Calls Tryz.prog 18 #[rqV q h, .int .i64 id] w (RteR (routeL q.m q.p (H.findL q.hs tokenH) q.b id) w) := by
 have HV : Hid (routeL q.m q.p (H.findL q.hs tokenH) q.b id = .error 404) := Lib.hid (by
  have : (pathL q.p).2.2 = 0 := by
   unfold pathL; rw [hls]
   match ls, hc with
   | [], _ => rfl
   | [_], _ => rfl
   | [_, _], _ => rfl

  unfold routeL; rw [if_pos this])
 obtain ⟨A, ac, rfl⟩ : ∃ A c, h = .slice A q.hs.length c := by obtain ⟨_, A, c, e, _⟩ := hd; exact ⟨A, c, e⟩
 obtain ⟨wa, hwa⟩ : ∃ y, w.alloc (.cells #[.string ⟨q.m.toArray⟩, .string ⟨q.p.toArray⟩, .slice A q.hs.length ac, .string ⟨q.b.toArray⟩] 24) = y := ⟨_, rfl⟩
 obtain ⟨w0, hw0⟩ : ∃ y, wa.alloc (.cells #[.int .i64 0, .int .i64 0, .string ⟨#[]⟩, .string ⟨#[]⟩, .int .i64 0, .int .u64 0, .slice none 0 0, .slice none 0 0, .slice none 0 0] 34) = y := ⟨_, rfl⟩
 have hza : wa.heap.size = w.heap.size + 1 := by rw [← hwa]; simp
 have HW0 : Hid (Below w.heap.size w w0) := Lib.hid (by rw [← hw0, ← hwa]; exact ((Below.refl _ _).alloc (Nat.le_refl _) _).alloc (by simp) _)
 have HA0 : Hid (Bk w0 w.heap.size [.string ⟨q.m.toArray⟩, .string ⟨q.p.toArray⟩, .slice A q.hs.length ac, .string ⟨q.b.toArray⟩]) := Lib.hid (by rw [← hw0, ← hwa]; exact (Bk.new w _ 24 rfl).alloc _ (by simp))
 have HN0 : Hid (Bk w0 (w.heap.size + 1) [.int .i64 0, .int .i64 0, .string ⟨#[]⟩, .string ⟨#[]⟩, .int .i64 0, .int .u64 0, .slice none 0 0, .slice none 0 0, .slice none 0 0]) := Lib.hid (by rw [← hw0]; exact Bk.new wa _ 34 hza.symm)
 have HS0 : Hid (w.heap.size + 1 < w0.heap.size) := Lib.hid (by rw [← hw0]; simp; omega)
 have hpr := partsR_any q.p hz.1 w0
 have HD := Lib.hid (H.Hdrs.below hd HW0.out (Nat.le_refl _))
 have HZ := Lib.hid hz
 rw [hls] at hpr
 have HLS := Lib.hid hls
 have HZA := Lib.hid hza
 clear hd hz hls hza
 unfold rqV
 go_enter Tryz.func18, Tryz.ntmps18
 go_upto_region 1 with fail
 clear hw0 hwa
 rw [HZA.out]
 have x1 := (HA0.out 1 _ rfl).1
 go_wp2_with fail
 go_at_call 48
 refine hpr.mono ?_
 clear hpr x1
 rintro e w1 ⟨hb, v, rfl, ho⟩
 have HW1 := Lib.hid (HW0.out.trans (hb.mono HW0.out.size))
 have HA1 := Lib.hid (HA0.out.below hb (Nat.lt_of_succ_lt HS0.out))
 have HN1 := Lib.hid (HN0.out.below hb HS0.out)
 have HS1 : Hid (w.heap.size + 1 < w1.heap.size) := Lib.hid (Nat.lt_of_lt_of_le HS0.out hb.size)
 have HB01 := Lib.hid hb
 clear hb
 obtain ⟨A1, c1, rfl⟩ := txt_form ho
 have hlt : (ls.length : Int) < 3 := by omega
 clear ho
 obtain ⟨n0, nf0⟩ := HN1.out 0 _ rfl
 obtain ⟨n1, nf1⟩ := HN1.out 1 _ rfl
 obtain ⟨n2, nf2⟩ := HN1.out 2 _ rfl
 obtain ⟨n3, nf3⟩ := HN1.out 3 _ rfl
 obtain ⟨n4, nf4⟩ := HN1.out 4 _ rfl
 obtain ⟨n5, nf5⟩ := HN1.out 5 _ rfl
 obtain ⟨n6, nf6⟩ := HN1.out 6 _ rfl
 obtain ⟨n7, nf7⟩ := HN1.out 7 _ rfl
 obtain ⟨n8, nf8⟩ := HN1.out 8 _ rfl
 have HQ := Lib.hid (((((((((HN1.out.set 0 (.int .i64 0)).set 1 (.int .i64 0)).set 2 (.string ⟨#[]⟩)).set 3 (.string ⟨#[]⟩)).set 4 (.int .i64 0)).set 5 (.int .u64 0)).set 6 (.slice none 0 0)).set 7 (.slice none 0 0)).set 8 (.slice none 0 0))
 have r0 := (HQ.out 0 _ rfl).1
 have r1 := (HQ.out 1 _ rfl).1
 have r2 := (HQ.out 2 _ rfl).1
 have r3 := (HQ.out 3 _ rfl).1
 have r4 := (HQ.out 4 _ rfl).1
 have r5 := (HQ.out 5 _ rfl).1
 have r6 := (HQ.out 6 _ rfl).1
 have r7 := (HQ.out 7 _ rfl).1
 have r8 := (HQ.out 8 _ rfl).1
 have HWF := Lib.hid (((((((((HW1.out.setCell (p := ⟨w.heap.size + 1, 0, none⟩) (Nat.le_succ _) (.int .i64 0)).setCell (p := ⟨w.heap.size + 1, 1, none⟩) (Nat.le_succ _) (.int .i64 0)).setCell (p := ⟨w.heap.size + 1, 2, none⟩) (Nat.le_succ _) (.string ⟨#[]⟩)).setCell (p := ⟨w.heap.size + 1, 3, none⟩) (Nat.le_succ _) (.string ⟨#[]⟩)).setCell (p := ⟨w.heap.size + 1, 4, none⟩) (Nat.le_succ _) (.int .i64 0)).setCell (p := ⟨w.heap.size + 1, 5, none⟩) (Nat.le_succ _) (.int .u64 0)).setCell (p := ⟨w.heap.size + 1, 6, none⟩) (Nat.le_succ _) (.slice none 0 0)).setCell (p := ⟨w.heap.size + 1, 7, none⟩) (Nat.le_succ _) (.slice none 0 0)).setCell (p := ⟨w.heap.size + 1, 8, none⟩) (Nat.le_succ _) (.slice none 0 0))
 go_wp2_with fail
 refine bodyPost_ret (v := .tuple #[.agg #[.int .i64 0, .int .i64 0, .string ⟨#[]⟩, .string ⟨#[]⟩, .int .i64 0, .int .u64 0, .slice none 0 0, .slice none 0 0, .slice none 0 0], .int .i64 404]) (by simp [results, Tryz.results18, go_sem, r0, r1, r2, r3, r4, r5, r6, r7, r8]; try rfl) rfl ?_
 exact ⟨HWF.out, .inr ⟨404, HV.out, rfl⟩⟩
set_option maxHeartbeats 8000000 in
theorem route_long (q : Rq) (h : Value) (id : Int) (w : World) (hd : H.Hdrs w h q.hs) (hz : Small q) (ls : List (List UInt8)) (hls : partsL 47 q.p = ls) (hc : 4 < ls.length) : Calls Tryz.prog 18 #[rqV q h, .int .i64 id] w (RteR (routeL q.m q.p (H.findL q.hs tokenH) q.b id) w) := by
 have HV : Hid (routeL q.m q.p (H.findL q.hs tokenH) q.b id = .error 404) := Lib.hid (by
  have : (pathL q.p).2.2 = 0 := by
   unfold pathL; rw [hls]
   match ls, hc with
   | _ :: _ :: _ :: _ :: _ :: _, _ => rfl

  unfold routeL; rw [if_pos this])
 obtain ⟨A, ac, rfl⟩ : ∃ A c, h = .slice A q.hs.length c := by obtain ⟨_, A, c, e, _⟩ := hd; exact ⟨A, c, e⟩
 obtain ⟨wa, hwa⟩ : ∃ y, w.alloc (.cells #[.string ⟨q.m.toArray⟩, .string ⟨q.p.toArray⟩, .slice A q.hs.length ac, .string ⟨q.b.toArray⟩] 24) = y := ⟨_, rfl⟩
 obtain ⟨w0, hw0⟩ : ∃ y, wa.alloc (.cells #[.int .i64 0, .int .i64 0, .string ⟨#[]⟩, .string ⟨#[]⟩, .int .i64 0, .int .u64 0, .slice none 0 0, .slice none 0 0, .slice none 0 0] 34) = y := ⟨_, rfl⟩
 have hza : wa.heap.size = w.heap.size + 1 := by rw [← hwa]; simp
 have HW0 : Hid (Below w.heap.size w w0) := Lib.hid (by rw [← hw0, ← hwa]; exact ((Below.refl _ _).alloc (Nat.le_refl _) _).alloc (by simp) _)
 have HA0 : Hid (Bk w0 w.heap.size [.string ⟨q.m.toArray⟩, .string ⟨q.p.toArray⟩, .slice A q.hs.length ac, .string ⟨q.b.toArray⟩]) := Lib.hid (by rw [← hw0, ← hwa]; exact (Bk.new w _ 24 rfl).alloc _ (by simp))
 have HN0 : Hid (Bk w0 (w.heap.size + 1) [.int .i64 0, .int .i64 0, .string ⟨#[]⟩, .string ⟨#[]⟩, .int .i64 0, .int .u64 0, .slice none 0 0, .slice none 0 0, .slice none 0 0]) := Lib.hid (by rw [← hw0]; exact Bk.new wa _ 34 hza.symm)
 have HS0 : Hid (w.heap.size + 1 < w0.heap.size) := Lib.hid (by rw [← hw0]; simp; omega)
 have hpr := partsR_any q.p hz.1 w0
 have HD := Lib.hid (H.Hdrs.below hd HW0.out (Nat.le_refl _))
 have HZ := Lib.hid hz
 rw [hls] at hpr
 have HLS := Lib.hid hls
 have HZA := Lib.hid hza
 clear hd hz hls hza
 unfold rqV
 go_enter Tryz.func18, Tryz.ntmps18
 go_upto_region 1 with fail
 clear hw0 hwa
 rw [HZA.out]
 have x1 := (HA0.out 1 _ rfl).1
 go_wp2_with fail
 go_at_call 48
 refine hpr.mono ?_
 clear hpr x1
 rintro e w1 ⟨hb, v, rfl, ho⟩
 have HW1 := Lib.hid (HW0.out.trans (hb.mono HW0.out.size))
 have HA1 := Lib.hid (HA0.out.below hb (Nat.lt_of_succ_lt HS0.out))
 have HN1 := Lib.hid (HN0.out.below hb HS0.out)
 have HS1 : Hid (w.heap.size + 1 < w1.heap.size) := Lib.hid (Nat.lt_of_lt_of_le HS0.out hb.size)
 have HB01 := Lib.hid hb
 clear hb
 obtain ⟨A1, c1, rfl⟩ := txt_form ho
 have hlt : ¬ (ls.length : Int) < 3 := by omega
 have hlt2 : (4 : Int) < (ls.length : Int) := by omega
 clear ho
 obtain ⟨n0, nf0⟩ := HN1.out 0 _ rfl
 obtain ⟨n1, nf1⟩ := HN1.out 1 _ rfl
 obtain ⟨n2, nf2⟩ := HN1.out 2 _ rfl
 obtain ⟨n3, nf3⟩ := HN1.out 3 _ rfl
 obtain ⟨n4, nf4⟩ := HN1.out 4 _ rfl
 obtain ⟨n5, nf5⟩ := HN1.out 5 _ rfl
 obtain ⟨n6, nf6⟩ := HN1.out 6 _ rfl
 obtain ⟨n7, nf7⟩ := HN1.out 7 _ rfl
 obtain ⟨n8, nf8⟩ := HN1.out 8 _ rfl
 have HQ := Lib.hid (((((((((HN1.out.set 0 (.int .i64 0)).set 1 (.int .i64 0)).set 2 (.string ⟨#[]⟩)).set 3 (.string ⟨#[]⟩)).set 4 (.int .i64 0)).set 5 (.int .u64 0)).set 6 (.slice none 0 0)).set 7 (.slice none 0 0)).set 8 (.slice none 0 0))
 have r0 := (HQ.out 0 _ rfl).1
 have r1 := (HQ.out 1 _ rfl).1
 have r2 := (HQ.out 2 _ rfl).1
 have r3 := (HQ.out 3 _ rfl).1
 have r4 := (HQ.out 4 _ rfl).1
 have r5 := (HQ.out 5 _ rfl).1
 have r6 := (HQ.out 6 _ rfl).1
 have r7 := (HQ.out 7 _ rfl).1
 have r8 := (HQ.out 8 _ rfl).1
 have HWF := Lib.hid (((((((((HW1.out.setCell (p := ⟨w.heap.size + 1, 0, none⟩) (Nat.le_succ _) (.int .i64 0)).setCell (p := ⟨w.heap.size + 1, 1, none⟩) (Nat.le_succ _) (.int .i64 0)).setCell (p := ⟨w.heap.size + 1, 2, none⟩) (Nat.le_succ _) (.string ⟨#[]⟩)).setCell (p := ⟨w.heap.size + 1, 3, none⟩) (Nat.le_succ _) (.string ⟨#[]⟩)).setCell (p := ⟨w.heap.size + 1, 4, none⟩) (Nat.le_succ _) (.int .i64 0)).setCell (p := ⟨w.heap.size + 1, 5, none⟩) (Nat.le_succ _) (.int .u64 0)).setCell (p := ⟨w.heap.size + 1, 6, none⟩) (Nat.le_succ _) (.slice none 0 0)).setCell (p := ⟨w.heap.size + 1, 7, none⟩) (Nat.le_succ _) (.slice none 0 0)).setCell (p := ⟨w.heap.size + 1, 8, none⟩) (Nat.le_succ _) (.slice none 0 0))
 go_wp2_with fail
 refine bodyPost_ret (v := .tuple #[.agg #[.int .i64 0, .int .i64 0, .string ⟨#[]⟩, .string ⟨#[]⟩, .int .i64 0, .int .u64 0, .slice none 0 0, .slice none 0 0, .slice none 0 0], .int .i64 404]) (by simp [results, Tryz.results18, go_sem, r0, r1, r2, r3, r4, r5, r6, r7, r8]; try rfl) rfl ?_
 exact ⟨HWF.out, .inr ⟨404, HV.out, rfl⟩⟩
set_option maxHeartbeats 8000000 in
theorem route_head3 (q : Rq) (h : Value) (id : Int) (w : World) (hd : H.Hdrs w h q.hs) (hz : Small q) (a b k : List UInt8) (hls : partsL 47 q.p = [a, b, k]) (h0 : a ≠ []) : Calls Tryz.prog 18 #[rqV q h, .int .i64 id] w (RteR (routeL q.m q.p (H.findL q.hs tokenH) q.b id) w) := by
 have HV : Hid (routeL q.m q.p (H.findL q.hs tokenH) q.b id = .error 404) := Lib.hid (by
  have : (pathL q.p).2.2 = 0 := by
   unfold pathL; rw [hls]
   exact congrArg (fun x : List UInt8 × List UInt8 × Nat => x.2.2) (if_neg (fun h : a = [] ∧ b = cartT => h0 h.1))
  unfold routeL; rw [if_pos this])
 obtain ⟨A, ac, rfl⟩ : ∃ A c, h = .slice A q.hs.length c := by obtain ⟨_, A, c, e, _⟩ := hd; exact ⟨A, c, e⟩
 obtain ⟨wa, hwa⟩ : ∃ y, w.alloc (.cells #[.string ⟨q.m.toArray⟩, .string ⟨q.p.toArray⟩, .slice A q.hs.length ac, .string ⟨q.b.toArray⟩] 24) = y := ⟨_, rfl⟩
 obtain ⟨w0, hw0⟩ : ∃ y, wa.alloc (.cells #[.int .i64 0, .int .i64 0, .string ⟨#[]⟩, .string ⟨#[]⟩, .int .i64 0, .int .u64 0, .slice none 0 0, .slice none 0 0, .slice none 0 0] 34) = y := ⟨_, rfl⟩
 have hza : wa.heap.size = w.heap.size + 1 := by rw [← hwa]; simp
 have HW0 : Hid (Below w.heap.size w w0) := Lib.hid (by rw [← hw0, ← hwa]; exact ((Below.refl _ _).alloc (Nat.le_refl _) _).alloc (by simp) _)
 have HA0 : Hid (Bk w0 w.heap.size [.string ⟨q.m.toArray⟩, .string ⟨q.p.toArray⟩, .slice A q.hs.length ac, .string ⟨q.b.toArray⟩]) := Lib.hid (by rw [← hw0, ← hwa]; exact (Bk.new w _ 24 rfl).alloc _ (by simp))
 have HN0 : Hid (Bk w0 (w.heap.size + 1) [.int .i64 0, .int .i64 0, .string ⟨#[]⟩, .string ⟨#[]⟩, .int .i64 0, .int .u64 0, .slice none 0 0, .slice none 0 0, .slice none 0 0]) := Lib.hid (by rw [← hw0]; exact Bk.new wa _ 34 hza.symm)
 have HS0 : Hid (w.heap.size + 1 < w0.heap.size) := Lib.hid (by rw [← hw0]; simp; omega)
 have hpr := partsR_any q.p hz.1 w0
 have HD := Lib.hid (H.Hdrs.below hd HW0.out (Nat.le_refl _))
 have HZ := Lib.hid hz
 rw [hls] at hpr
 have HLS := Lib.hid hls
 have HZA := Lib.hid hza
 clear hd hz hls hza
 unfold rqV
 go_enter Tryz.func18, Tryz.ntmps18
 go_upto_region 1 with fail
 clear hw0 hwa
 rw [HZA.out]
 have x1 := (HA0.out 1 _ rfl).1
 go_wp2_with fail
 go_at_call 48
 refine hpr.mono ?_
 clear hpr x1
 rintro e w1 ⟨hb, v, rfl, ho⟩
 have HW1 := Lib.hid (HW0.out.trans (hb.mono HW0.out.size))
 have HA1 := Lib.hid (HA0.out.below hb (Nat.lt_of_succ_lt HS0.out))
 have HN1 := Lib.hid (HN0.out.below hb HS0.out)
 have HS1 : Hid (w.heap.size + 1 < w1.heap.size) := Lib.hid (Nat.lt_of_lt_of_le HS0.out hb.size)
 have HB01 := Lib.hid hb
 clear hb
 obtain ⟨g1, c1, hv, hg1, hcl⟩ := txt_cells ho (by simp)
 have l0 := hcl 0 (by simp)
 have l1 := hcl 1 (by simp)
 replace hv : v = .slice (some ⟨g1, 0, none⟩) 3 c1 := hv
 subst hv
 replace l0 : w1.cell? ⟨g1, 0, none⟩ = some (.string ⟨(a : List UInt8).toArray⟩) := l0
 replace l1 : w1.cell? ⟨g1, 1, none⟩ = some (.string ⟨(b : List UInt8).toArray⟩) := l1
 clear hcl ho hg1
 have hse : a.isEmpty = false := str_nonempty h0
 clear h0
 obtain ⟨n0, nf0⟩ := HN1.out 0 _ rfl
 obtain ⟨n1, nf1⟩ := HN1.out 1 _ rfl
 obtain ⟨n2, nf2⟩ := HN1.out 2 _ rfl
 obtain ⟨n3, nf3⟩ := HN1.out 3 _ rfl
 obtain ⟨n4, nf4⟩ := HN1.out 4 _ rfl
 obtain ⟨n5, nf5⟩ := HN1.out 5 _ rfl
 obtain ⟨n6, nf6⟩ := HN1.out 6 _ rfl
 obtain ⟨n7, nf7⟩ := HN1.out 7 _ rfl
 obtain ⟨n8, nf8⟩ := HN1.out 8 _ rfl
 have HQ := Lib.hid (((((((((HN1.out.set 0 (.int .i64 0)).set 1 (.int .i64 0)).set 2 (.string ⟨#[]⟩)).set 3 (.string ⟨#[]⟩)).set 4 (.int .i64 0)).set 5 (.int .u64 0)).set 6 (.slice none 0 0)).set 7 (.slice none 0 0)).set 8 (.slice none 0 0))
 have r0 := (HQ.out 0 _ rfl).1
 have r1 := (HQ.out 1 _ rfl).1
 have r2 := (HQ.out 2 _ rfl).1
 have r3 := (HQ.out 3 _ rfl).1
 have r4 := (HQ.out 4 _ rfl).1
 have r5 := (HQ.out 5 _ rfl).1
 have r6 := (HQ.out 6 _ rfl).1
 have r7 := (HQ.out 7 _ rfl).1
 have r8 := (HQ.out 8 _ rfl).1
 have HWF := Lib.hid (((((((((HW1.out.setCell (p := ⟨w.heap.size + 1, 0, none⟩) (Nat.le_succ _) (.int .i64 0)).setCell (p := ⟨w.heap.size + 1, 1, none⟩) (Nat.le_succ _) (.int .i64 0)).setCell (p := ⟨w.heap.size + 1, 2, none⟩) (Nat.le_succ _) (.string ⟨#[]⟩)).setCell (p := ⟨w.heap.size + 1, 3, none⟩) (Nat.le_succ _) (.string ⟨#[]⟩)).setCell (p := ⟨w.heap.size + 1, 4, none⟩) (Nat.le_succ _) (.int .i64 0)).setCell (p := ⟨w.heap.size + 1, 5, none⟩) (Nat.le_succ _) (.int .u64 0)).setCell (p := ⟨w.heap.size + 1, 6, none⟩) (Nat.le_succ _) (.slice none 0 0)).setCell (p := ⟨w.heap.size + 1, 7, none⟩) (Nat.le_succ _) (.slice none 0 0)).setCell (p := ⟨w.heap.size + 1, 8, none⟩) (Nat.le_succ _) (.slice none 0 0))
 go_wp2_with fail
 refine bodyPost_ret (v := .tuple #[.agg #[.int .i64 0, .int .i64 0, .string ⟨#[]⟩, .string ⟨#[]⟩, .int .i64 0, .int .u64 0, .slice none 0 0, .slice none 0 0, .slice none 0 0], .int .i64 404]) (by simp [results, Tryz.results18, go_sem, r0, r1, r2, r3, r4, r5, r6, r7, r8]; try rfl) rfl ?_
 exact ⟨HWF.out, .inr ⟨404, HV.out, rfl⟩⟩
set_option maxHeartbeats 8000000 in
theorem route_cart3 (q : Rq) (h : Value) (id : Int) (w : World) (hd : H.Hdrs w h q.hs) (hz : Small q) (a b k : List UInt8) (hls : partsL 47 q.p = [a, b, k]) (h0 : a = []) (h1 : b ≠ cartT) : Calls Tryz.prog 18 #[rqV q h, .int .i64 id] w (RteR (routeL q.m q.p (H.findL q.hs tokenH) q.b id) w) := by
 have HV : Hid (routeL q.m q.p (H.findL q.hs tokenH) q.b id = .error 404) := Lib.hid (by
  have : (pathL q.p).2.2 = 0 := by
   unfold pathL; rw [hls]
   exact congrArg (fun x : List UInt8 × List UInt8 × Nat => x.2.2) (if_neg (fun h : a = [] ∧ b = cartT => h1 h.2))
  unfold routeL; rw [if_pos this])
 obtain ⟨A, ac, rfl⟩ : ∃ A c, h = .slice A q.hs.length c := by obtain ⟨_, A, c, e, _⟩ := hd; exact ⟨A, c, e⟩
 obtain ⟨wa, hwa⟩ : ∃ y, w.alloc (.cells #[.string ⟨q.m.toArray⟩, .string ⟨q.p.toArray⟩, .slice A q.hs.length ac, .string ⟨q.b.toArray⟩] 24) = y := ⟨_, rfl⟩
 obtain ⟨w0, hw0⟩ : ∃ y, wa.alloc (.cells #[.int .i64 0, .int .i64 0, .string ⟨#[]⟩, .string ⟨#[]⟩, .int .i64 0, .int .u64 0, .slice none 0 0, .slice none 0 0, .slice none 0 0] 34) = y := ⟨_, rfl⟩
 have hza : wa.heap.size = w.heap.size + 1 := by rw [← hwa]; simp
 have HW0 : Hid (Below w.heap.size w w0) := Lib.hid (by rw [← hw0, ← hwa]; exact ((Below.refl _ _).alloc (Nat.le_refl _) _).alloc (by simp) _)
 have HA0 : Hid (Bk w0 w.heap.size [.string ⟨q.m.toArray⟩, .string ⟨q.p.toArray⟩, .slice A q.hs.length ac, .string ⟨q.b.toArray⟩]) := Lib.hid (by rw [← hw0, ← hwa]; exact (Bk.new w _ 24 rfl).alloc _ (by simp))
 have HN0 : Hid (Bk w0 (w.heap.size + 1) [.int .i64 0, .int .i64 0, .string ⟨#[]⟩, .string ⟨#[]⟩, .int .i64 0, .int .u64 0, .slice none 0 0, .slice none 0 0, .slice none 0 0]) := Lib.hid (by rw [← hw0]; exact Bk.new wa _ 34 hza.symm)
 have HS0 : Hid (w.heap.size + 1 < w0.heap.size) := Lib.hid (by rw [← hw0]; simp; omega)
 have hpr := partsR_any q.p hz.1 w0
 have HD := Lib.hid (H.Hdrs.below hd HW0.out (Nat.le_refl _))
 have HZ := Lib.hid hz
 rw [hls] at hpr
 have HLS := Lib.hid hls
 have HZA := Lib.hid hza
 clear hd hz hls hza
 unfold rqV
 go_enter Tryz.func18, Tryz.ntmps18
 go_upto_region 1 with fail
 clear hw0 hwa
 rw [HZA.out]
 have x1 := (HA0.out 1 _ rfl).1
 go_wp2_with fail
 go_at_call 48
 refine hpr.mono ?_
 clear hpr x1
 rintro e w1 ⟨hb, v, rfl, ho⟩
 have HW1 := Lib.hid (HW0.out.trans (hb.mono HW0.out.size))
 have HA1 := Lib.hid (HA0.out.below hb (Nat.lt_of_succ_lt HS0.out))
 have HN1 := Lib.hid (HN0.out.below hb HS0.out)
 have HS1 : Hid (w.heap.size + 1 < w1.heap.size) := Lib.hid (Nat.lt_of_lt_of_le HS0.out hb.size)
 have HB01 := Lib.hid hb
 clear hb
 obtain ⟨g1, c1, hv, hg1, hcl⟩ := txt_cells ho (by simp)
 have l0 := hcl 0 (by simp)
 have l1 := hcl 1 (by simp)
 replace hv : v = .slice (some ⟨g1, 0, none⟩) 3 c1 := hv
 subst hv
 replace l0 : w1.cell? ⟨g1, 0, none⟩ = some (.string ⟨(a : List UInt8).toArray⟩) := l0
 replace l1 : w1.cell? ⟨g1, 1, none⟩ = some (.string ⟨(b : List UInt8).toArray⟩) := l1
 clear hcl ho hg1
 subst h0
 have hse : (b == [99, 97, 114, 116]) = false := beq_false_of_ne h1
 clear h1
 obtain ⟨n0, nf0⟩ := HN1.out 0 _ rfl
 obtain ⟨n1, nf1⟩ := HN1.out 1 _ rfl
 obtain ⟨n2, nf2⟩ := HN1.out 2 _ rfl
 obtain ⟨n3, nf3⟩ := HN1.out 3 _ rfl
 obtain ⟨n4, nf4⟩ := HN1.out 4 _ rfl
 obtain ⟨n5, nf5⟩ := HN1.out 5 _ rfl
 obtain ⟨n6, nf6⟩ := HN1.out 6 _ rfl
 obtain ⟨n7, nf7⟩ := HN1.out 7 _ rfl
 obtain ⟨n8, nf8⟩ := HN1.out 8 _ rfl
 have HQ := Lib.hid (((((((((HN1.out.set 0 (.int .i64 0)).set 1 (.int .i64 0)).set 2 (.string ⟨#[]⟩)).set 3 (.string ⟨#[]⟩)).set 4 (.int .i64 0)).set 5 (.int .u64 0)).set 6 (.slice none 0 0)).set 7 (.slice none 0 0)).set 8 (.slice none 0 0))
 have r0 := (HQ.out 0 _ rfl).1
 have r1 := (HQ.out 1 _ rfl).1
 have r2 := (HQ.out 2 _ rfl).1
 have r3 := (HQ.out 3 _ rfl).1
 have r4 := (HQ.out 4 _ rfl).1
 have r5 := (HQ.out 5 _ rfl).1
 have r6 := (HQ.out 6 _ rfl).1
 have r7 := (HQ.out 7 _ rfl).1
 have r8 := (HQ.out 8 _ rfl).1
 have HWF := Lib.hid (((((((((HW1.out.setCell (p := ⟨w.heap.size + 1, 0, none⟩) (Nat.le_succ _) (.int .i64 0)).setCell (p := ⟨w.heap.size + 1, 1, none⟩) (Nat.le_succ _) (.int .i64 0)).setCell (p := ⟨w.heap.size + 1, 2, none⟩) (Nat.le_succ _) (.string ⟨#[]⟩)).setCell (p := ⟨w.heap.size + 1, 3, none⟩) (Nat.le_succ _) (.string ⟨#[]⟩)).setCell (p := ⟨w.heap.size + 1, 4, none⟩) (Nat.le_succ _) (.int .i64 0)).setCell (p := ⟨w.heap.size + 1, 5, none⟩) (Nat.le_succ _) (.int .u64 0)).setCell (p := ⟨w.heap.size + 1, 6, none⟩) (Nat.le_succ _) (.slice none 0 0)).setCell (p := ⟨w.heap.size + 1, 7, none⟩) (Nat.le_succ _) (.slice none 0 0)).setCell (p := ⟨w.heap.size + 1, 8, none⟩) (Nat.le_succ _) (.slice none 0 0))
 go_wp2_with fail
 refine bodyPost_ret (v := .tuple #[.agg #[.int .i64 0, .int .i64 0, .string ⟨#[]⟩, .string ⟨#[]⟩, .int .i64 0, .int .u64 0, .slice none 0 0, .slice none 0 0, .slice none 0 0], .int .i64 404]) (by simp [results, Tryz.results18, go_sem, r0, r1, r2, r3, r4, r5, r6, r7, r8]; try rfl) rfl ?_
 exact ⟨HWF.out, .inr ⟨404, HV.out, rfl⟩⟩
set_option maxHeartbeats 8000000 in
theorem route_head4 (q : Rq) (h : Value) (id : Int) (w : World) (hd : H.Hdrs w h q.hs) (hz : Small q) (a b k i : List UInt8) (hls : partsL 47 q.p = [a, b, k, i]) (h0 : a ≠ []) : Calls Tryz.prog 18 #[rqV q h, .int .i64 id] w (RteR (routeL q.m q.p (H.findL q.hs tokenH) q.b id) w) := by
 have HV : Hid (routeL q.m q.p (H.findL q.hs tokenH) q.b id = .error 404) := Lib.hid (by
  have : (pathL q.p).2.2 = 0 := by
   unfold pathL; rw [hls]
   exact congrArg (fun x : List UInt8 × List UInt8 × Nat => x.2.2) (if_neg (fun h : a = [] ∧ b = cartT => h0 h.1))
  unfold routeL; rw [if_pos this])
 obtain ⟨A, ac, rfl⟩ : ∃ A c, h = .slice A q.hs.length c := by obtain ⟨_, A, c, e, _⟩ := hd; exact ⟨A, c, e⟩
 obtain ⟨wa, hwa⟩ : ∃ y, w.alloc (.cells #[.string ⟨q.m.toArray⟩, .string ⟨q.p.toArray⟩, .slice A q.hs.length ac, .string ⟨q.b.toArray⟩] 24) = y := ⟨_, rfl⟩
 obtain ⟨w0, hw0⟩ : ∃ y, wa.alloc (.cells #[.int .i64 0, .int .i64 0, .string ⟨#[]⟩, .string ⟨#[]⟩, .int .i64 0, .int .u64 0, .slice none 0 0, .slice none 0 0, .slice none 0 0] 34) = y := ⟨_, rfl⟩
 have hza : wa.heap.size = w.heap.size + 1 := by rw [← hwa]; simp
 have HW0 : Hid (Below w.heap.size w w0) := Lib.hid (by rw [← hw0, ← hwa]; exact ((Below.refl _ _).alloc (Nat.le_refl _) _).alloc (by simp) _)
 have HA0 : Hid (Bk w0 w.heap.size [.string ⟨q.m.toArray⟩, .string ⟨q.p.toArray⟩, .slice A q.hs.length ac, .string ⟨q.b.toArray⟩]) := Lib.hid (by rw [← hw0, ← hwa]; exact (Bk.new w _ 24 rfl).alloc _ (by simp))
 have HN0 : Hid (Bk w0 (w.heap.size + 1) [.int .i64 0, .int .i64 0, .string ⟨#[]⟩, .string ⟨#[]⟩, .int .i64 0, .int .u64 0, .slice none 0 0, .slice none 0 0, .slice none 0 0]) := Lib.hid (by rw [← hw0]; exact Bk.new wa _ 34 hza.symm)
 have HS0 : Hid (w.heap.size + 1 < w0.heap.size) := Lib.hid (by rw [← hw0]; simp; omega)
 have hpr := partsR_any q.p hz.1 w0
 have HD := Lib.hid (H.Hdrs.below hd HW0.out (Nat.le_refl _))
 have HZ := Lib.hid hz
 rw [hls] at hpr
 have HLS := Lib.hid hls
 have HZA := Lib.hid hza
 clear hd hz hls hza
 unfold rqV
 go_enter Tryz.func18, Tryz.ntmps18
 go_upto_region 1 with fail
 clear hw0 hwa
 rw [HZA.out]
 have x1 := (HA0.out 1 _ rfl).1
 go_wp2_with fail
 go_at_call 48
 refine hpr.mono ?_
 clear hpr x1
 rintro e w1 ⟨hb, v, rfl, ho⟩
 have HW1 := Lib.hid (HW0.out.trans (hb.mono HW0.out.size))
 have HA1 := Lib.hid (HA0.out.below hb (Nat.lt_of_succ_lt HS0.out))
 have HN1 := Lib.hid (HN0.out.below hb HS0.out)
 have HS1 : Hid (w.heap.size + 1 < w1.heap.size) := Lib.hid (Nat.lt_of_lt_of_le HS0.out hb.size)
 have HB01 := Lib.hid hb
 clear hb
 obtain ⟨g1, c1, hv, hg1, hcl⟩ := txt_cells ho (by simp)
 have l0 := hcl 0 (by simp)
 have l1 := hcl 1 (by simp)
 replace hv : v = .slice (some ⟨g1, 0, none⟩) 4 c1 := hv
 subst hv
 replace l0 : w1.cell? ⟨g1, 0, none⟩ = some (.string ⟨(a : List UInt8).toArray⟩) := l0
 replace l1 : w1.cell? ⟨g1, 1, none⟩ = some (.string ⟨(b : List UInt8).toArray⟩) := l1
 clear hcl ho hg1
 have hse : a.isEmpty = false := str_nonempty h0
 clear h0
 obtain ⟨n0, nf0⟩ := HN1.out 0 _ rfl
 obtain ⟨n1, nf1⟩ := HN1.out 1 _ rfl
 obtain ⟨n2, nf2⟩ := HN1.out 2 _ rfl
 obtain ⟨n3, nf3⟩ := HN1.out 3 _ rfl
 obtain ⟨n4, nf4⟩ := HN1.out 4 _ rfl
 obtain ⟨n5, nf5⟩ := HN1.out 5 _ rfl
 obtain ⟨n6, nf6⟩ := HN1.out 6 _ rfl
 obtain ⟨n7, nf7⟩ := HN1.out 7 _ rfl
 obtain ⟨n8, nf8⟩ := HN1.out 8 _ rfl
 have HQ := Lib.hid (((((((((HN1.out.set 0 (.int .i64 0)).set 1 (.int .i64 0)).set 2 (.string ⟨#[]⟩)).set 3 (.string ⟨#[]⟩)).set 4 (.int .i64 0)).set 5 (.int .u64 0)).set 6 (.slice none 0 0)).set 7 (.slice none 0 0)).set 8 (.slice none 0 0))
 have r0 := (HQ.out 0 _ rfl).1
 have r1 := (HQ.out 1 _ rfl).1
 have r2 := (HQ.out 2 _ rfl).1
 have r3 := (HQ.out 3 _ rfl).1
 have r4 := (HQ.out 4 _ rfl).1
 have r5 := (HQ.out 5 _ rfl).1
 have r6 := (HQ.out 6 _ rfl).1
 have r7 := (HQ.out 7 _ rfl).1
 have r8 := (HQ.out 8 _ rfl).1
 have HWF := Lib.hid (((((((((HW1.out.setCell (p := ⟨w.heap.size + 1, 0, none⟩) (Nat.le_succ _) (.int .i64 0)).setCell (p := ⟨w.heap.size + 1, 1, none⟩) (Nat.le_succ _) (.int .i64 0)).setCell (p := ⟨w.heap.size + 1, 2, none⟩) (Nat.le_succ _) (.string ⟨#[]⟩)).setCell (p := ⟨w.heap.size + 1, 3, none⟩) (Nat.le_succ _) (.string ⟨#[]⟩)).setCell (p := ⟨w.heap.size + 1, 4, none⟩) (Nat.le_succ _) (.int .i64 0)).setCell (p := ⟨w.heap.size + 1, 5, none⟩) (Nat.le_succ _) (.int .u64 0)).setCell (p := ⟨w.heap.size + 1, 6, none⟩) (Nat.le_succ _) (.slice none 0 0)).setCell (p := ⟨w.heap.size + 1, 7, none⟩) (Nat.le_succ _) (.slice none 0 0)).setCell (p := ⟨w.heap.size + 1, 8, none⟩) (Nat.le_succ _) (.slice none 0 0))
 go_wp2_with fail
 refine bodyPost_ret (v := .tuple #[.agg #[.int .i64 0, .int .i64 0, .string ⟨#[]⟩, .string ⟨#[]⟩, .int .i64 0, .int .u64 0, .slice none 0 0, .slice none 0 0, .slice none 0 0], .int .i64 404]) (by simp [results, Tryz.results18, go_sem, r0, r1, r2, r3, r4, r5, r6, r7, r8]; try rfl) rfl ?_
 exact ⟨HWF.out, .inr ⟨404, HV.out, rfl⟩⟩
set_option maxHeartbeats 8000000 in
theorem route_cart4 (q : Rq) (h : Value) (id : Int) (w : World) (hd : H.Hdrs w h q.hs) (hz : Small q) (a b k i : List UInt8) (hls : partsL 47 q.p = [a, b, k, i]) (h0 : a = []) (h1 : b ≠ cartT) : Calls Tryz.prog 18 #[rqV q h, .int .i64 id] w (RteR (routeL q.m q.p (H.findL q.hs tokenH) q.b id) w) := by
 have HV : Hid (routeL q.m q.p (H.findL q.hs tokenH) q.b id = .error 404) := Lib.hid (by
  have : (pathL q.p).2.2 = 0 := by
   unfold pathL; rw [hls]
   exact congrArg (fun x : List UInt8 × List UInt8 × Nat => x.2.2) (if_neg (fun h : a = [] ∧ b = cartT => h1 h.2))
  unfold routeL; rw [if_pos this])
 obtain ⟨A, ac, rfl⟩ : ∃ A c, h = .slice A q.hs.length c := by obtain ⟨_, A, c, e, _⟩ := hd; exact ⟨A, c, e⟩
 obtain ⟨wa, hwa⟩ : ∃ y, w.alloc (.cells #[.string ⟨q.m.toArray⟩, .string ⟨q.p.toArray⟩, .slice A q.hs.length ac, .string ⟨q.b.toArray⟩] 24) = y := ⟨_, rfl⟩
 obtain ⟨w0, hw0⟩ : ∃ y, wa.alloc (.cells #[.int .i64 0, .int .i64 0, .string ⟨#[]⟩, .string ⟨#[]⟩, .int .i64 0, .int .u64 0, .slice none 0 0, .slice none 0 0, .slice none 0 0] 34) = y := ⟨_, rfl⟩
 have hza : wa.heap.size = w.heap.size + 1 := by rw [← hwa]; simp
 have HW0 : Hid (Below w.heap.size w w0) := Lib.hid (by rw [← hw0, ← hwa]; exact ((Below.refl _ _).alloc (Nat.le_refl _) _).alloc (by simp) _)
 have HA0 : Hid (Bk w0 w.heap.size [.string ⟨q.m.toArray⟩, .string ⟨q.p.toArray⟩, .slice A q.hs.length ac, .string ⟨q.b.toArray⟩]) := Lib.hid (by rw [← hw0, ← hwa]; exact (Bk.new w _ 24 rfl).alloc _ (by simp))
 have HN0 : Hid (Bk w0 (w.heap.size + 1) [.int .i64 0, .int .i64 0, .string ⟨#[]⟩, .string ⟨#[]⟩, .int .i64 0, .int .u64 0, .slice none 0 0, .slice none 0 0, .slice none 0 0]) := Lib.hid (by rw [← hw0]; exact Bk.new wa _ 34 hza.symm)
 have HS0 : Hid (w.heap.size + 1 < w0.heap.size) := Lib.hid (by rw [← hw0]; simp; omega)
 have hpr := partsR_any q.p hz.1 w0
 have HD := Lib.hid (H.Hdrs.below hd HW0.out (Nat.le_refl _))
 have HZ := Lib.hid hz
 rw [hls] at hpr
 have HLS := Lib.hid hls
 have HZA := Lib.hid hza
 clear hd hz hls hza
 unfold rqV
 go_enter Tryz.func18, Tryz.ntmps18
 go_upto_region 1 with fail
 clear hw0 hwa
 rw [HZA.out]
 have x1 := (HA0.out 1 _ rfl).1
 go_wp2_with fail
 go_at_call 48
 refine hpr.mono ?_
 clear hpr x1
 rintro e w1 ⟨hb, v, rfl, ho⟩
 have HW1 := Lib.hid (HW0.out.trans (hb.mono HW0.out.size))
 have HA1 := Lib.hid (HA0.out.below hb (Nat.lt_of_succ_lt HS0.out))
 have HN1 := Lib.hid (HN0.out.below hb HS0.out)
 have HS1 : Hid (w.heap.size + 1 < w1.heap.size) := Lib.hid (Nat.lt_of_lt_of_le HS0.out hb.size)
 have HB01 := Lib.hid hb
 clear hb
 obtain ⟨g1, c1, hv, hg1, hcl⟩ := txt_cells ho (by simp)
 have l0 := hcl 0 (by simp)
 have l1 := hcl 1 (by simp)
 replace hv : v = .slice (some ⟨g1, 0, none⟩) 4 c1 := hv
 subst hv
 replace l0 : w1.cell? ⟨g1, 0, none⟩ = some (.string ⟨(a : List UInt8).toArray⟩) := l0
 replace l1 : w1.cell? ⟨g1, 1, none⟩ = some (.string ⟨(b : List UInt8).toArray⟩) := l1
 clear hcl ho hg1
 subst h0
 have hse : (b == [99, 97, 114, 116]) = false := beq_false_of_ne h1
 clear h1
 obtain ⟨n0, nf0⟩ := HN1.out 0 _ rfl
 obtain ⟨n1, nf1⟩ := HN1.out 1 _ rfl
 obtain ⟨n2, nf2⟩ := HN1.out 2 _ rfl
 obtain ⟨n3, nf3⟩ := HN1.out 3 _ rfl
 obtain ⟨n4, nf4⟩ := HN1.out 4 _ rfl
 obtain ⟨n5, nf5⟩ := HN1.out 5 _ rfl
 obtain ⟨n6, nf6⟩ := HN1.out 6 _ rfl
 obtain ⟨n7, nf7⟩ := HN1.out 7 _ rfl
 obtain ⟨n8, nf8⟩ := HN1.out 8 _ rfl
 have HQ := Lib.hid (((((((((HN1.out.set 0 (.int .i64 0)).set 1 (.int .i64 0)).set 2 (.string ⟨#[]⟩)).set 3 (.string ⟨#[]⟩)).set 4 (.int .i64 0)).set 5 (.int .u64 0)).set 6 (.slice none 0 0)).set 7 (.slice none 0 0)).set 8 (.slice none 0 0))
 have r0 := (HQ.out 0 _ rfl).1
 have r1 := (HQ.out 1 _ rfl).1
 have r2 := (HQ.out 2 _ rfl).1
 have r3 := (HQ.out 3 _ rfl).1
 have r4 := (HQ.out 4 _ rfl).1
 have r5 := (HQ.out 5 _ rfl).1
 have r6 := (HQ.out 6 _ rfl).1
 have r7 := (HQ.out 7 _ rfl).1
 have r8 := (HQ.out 8 _ rfl).1
 have HWF := Lib.hid (((((((((HW1.out.setCell (p := ⟨w.heap.size + 1, 0, none⟩) (Nat.le_succ _) (.int .i64 0)).setCell (p := ⟨w.heap.size + 1, 1, none⟩) (Nat.le_succ _) (.int .i64 0)).setCell (p := ⟨w.heap.size + 1, 2, none⟩) (Nat.le_succ _) (.string ⟨#[]⟩)).setCell (p := ⟨w.heap.size + 1, 3, none⟩) (Nat.le_succ _) (.string ⟨#[]⟩)).setCell (p := ⟨w.heap.size + 1, 4, none⟩) (Nat.le_succ _) (.int .i64 0)).setCell (p := ⟨w.heap.size + 1, 5, none⟩) (Nat.le_succ _) (.int .u64 0)).setCell (p := ⟨w.heap.size + 1, 6, none⟩) (Nat.le_succ _) (.slice none 0 0)).setCell (p := ⟨w.heap.size + 1, 7, none⟩) (Nat.le_succ _) (.slice none 0 0)).setCell (p := ⟨w.heap.size + 1, 8, none⟩) (Nat.le_succ _) (.slice none 0 0))
 go_wp2_with fail
 refine bodyPost_ret (v := .tuple #[.agg #[.int .i64 0, .int .i64 0, .string ⟨#[]⟩, .string ⟨#[]⟩, .int .i64 0, .int .u64 0, .slice none 0 0, .slice none 0 0, .slice none 0 0], .int .i64 404]) (by simp [results, Tryz.results18, go_sem, r0, r1, r2, r3, r4, r5, r6, r7, r8]; try rfl) rfl ?_
 exact ⟨HWF.out, .inr ⟨404, HV.out, rfl⟩⟩
set_option maxHeartbeats 16000000 in
theorem route_getno (q : Rq) (h : Value) (id : Int) (w : World) (hd : H.Hdrs w h q.hs) (hz : Small q) (key : List UInt8) (hls : partsL 47 q.p = [[], cartT, key]) (hm : q.m ≠ getT) : Calls Tryz.prog 18 #[rqV q h, .int .i64 id] w (RteR (routeL q.m q.p (H.findL q.hs tokenH) q.b id) w) := by
 have HPL : Hid (pathL q.p = (key, [], 1)) := Lib.hid (by unfold pathL; rw [hls]; exact if_pos ⟨rfl, rfl⟩)
 have HMM := Lib.hid hm
 clear hm
 obtain ⟨A, ac, rfl⟩ : ∃ A c, h = .slice A q.hs.length c := by obtain ⟨_, A, c, e, _⟩ := hd; exact ⟨A, c, e⟩
 obtain ⟨wa, hwa⟩ : ∃ y, w.alloc (.cells #[.string ⟨q.m.toArray⟩, .string ⟨q.p.toArray⟩, .slice A q.hs.length ac, .string ⟨q.b.toArray⟩] 24) = y := ⟨_, rfl⟩
 obtain ⟨w0, hw0⟩ : ∃ y, wa.alloc (.cells #[.int .i64 0, .int .i64 0, .string ⟨#[]⟩, .string ⟨#[]⟩, .int .i64 0, .int .u64 0, .slice none 0 0, .slice none 0 0, .slice none 0 0] 34) = y := ⟨_, rfl⟩
 have hza : wa.heap.size = w.heap.size + 1 := by rw [← hwa]; simp
 have HW0 : Hid (Below w.heap.size w w0) := Lib.hid (by rw [← hw0, ← hwa]; exact ((Below.refl _ _).alloc (Nat.le_refl _) _).alloc (by simp) _)
 have HA0 : Hid (Bk w0 w.heap.size [.string ⟨q.m.toArray⟩, .string ⟨q.p.toArray⟩, .slice A q.hs.length ac, .string ⟨q.b.toArray⟩]) := Lib.hid (by rw [← hw0, ← hwa]; exact (Bk.new w _ 24 rfl).alloc _ (by simp))
 have HN0 : Hid (Bk w0 (w.heap.size + 1) [.int .i64 0, .int .i64 0, .string ⟨#[]⟩, .string ⟨#[]⟩, .int .i64 0, .int .u64 0, .slice none 0 0, .slice none 0 0, .slice none 0 0]) := Lib.hid (by rw [← hw0]; exact Bk.new wa _ 34 hza.symm)
 have HS0 : Hid (w.heap.size + 1 < w0.heap.size) := Lib.hid (by rw [← hw0]; simp; omega)
 have hpr := partsR_any q.p hz.1 w0
 have HD := Lib.hid (H.Hdrs.below hd HW0.out (Nat.le_refl _))
 have HZ := Lib.hid hz
 rw [hls] at hpr
 have HLS := Lib.hid hls
 have HZA := Lib.hid hza
 clear hd hz hls hza
 unfold rqV
 go_enter Tryz.func18, Tryz.ntmps18
 go_upto_region 1 with fail
 clear hw0 hwa
 rw [HZA.out]
 have x1 := (HA0.out 1 _ rfl).1
 go_wp2_with fail
 go_at_call 48
 refine hpr.mono ?_
 clear hpr x1
 rintro e w1 ⟨hb, v, rfl, ho⟩
 have HW1 := Lib.hid (HW0.out.trans (hb.mono HW0.out.size))
 have HA1 := Lib.hid (HA0.out.below hb (Nat.lt_of_succ_lt HS0.out))
 have HN1 := Lib.hid (HN0.out.below hb HS0.out)
 have HS1 : Hid (w.heap.size + 1 < w1.heap.size) := Lib.hid (Nat.lt_of_lt_of_le HS0.out hb.size)
 have HB01 := Lib.hid hb
 clear hb
 obtain ⟨g1, c1, hv, hg1, hcl⟩ := txt_cells ho (by simp)
 have l2 := hcl 2 (by simp)
 have l0 := hcl 0 (by simp)
 have l1 := hcl 1 (by simp)
 replace hv : v = .slice (some ⟨g1, 0, none⟩) 3 c1 := hv
 subst hv
 replace l0 : w1.cell? ⟨g1, 0, none⟩ = some (.string ⟨([] : List UInt8).toArray⟩) := l0
 replace l1 : w1.cell? ⟨g1, 1, none⟩ = some (.string ⟨(cartT : List UInt8).toArray⟩) := l1
 replace l2 : w1.cell? ⟨g1, 2, none⟩ = some (.string ⟨(key : List UInt8).toArray⟩) := l2
 have HO1 := Lib.hid hg1
 clear hcl ho hg1
 unfold cartT at l1
 have HV : Hid (routeL q.m q.p (H.findL q.hs tokenH) q.b id = .error 405) := Lib.hid (by unfold routeL; rw [HPL.out]; simp [kindL, HMM.out])
 have x0 := (HA1.out 0 _ rfl).1
 have hmb : (q.m == [71, 69, 84]) = false := beq_false_of_ne HMM.out
 obtain ⟨w2, hw2⟩ : ∃ y, w1.alloc (.cells #[.int .i64 id, .int .i64 0, .string ⟨key.toArray⟩, .string ⟨#[]⟩, .int .i64 0, .int .u64 0, .slice none 0 0, .slice none 0 0, .slice none 0 0] 34) = y := ⟨_, rfl⟩
 have HW2 : Hid (Below w.heap.size w w2) := Lib.hid (by rw [← hw2]; exact HW1.out.alloc HW1.out.size _)
 have HN2 : Hid (Bk w2 (w.heap.size + 1) [.int .i64 0, .int .i64 0, .string ⟨#[]⟩, .string ⟨#[]⟩, .int .i64 0, .int .u64 0, .slice none 0 0, .slice none 0 0, .slice none 0 0]) := Lib.hid (by rw [← hw2]; exact HN1.out.alloc _ HS1.out)
 have HA2 : Hid (Bk w2 w.heap.size [.string ⟨q.m.toArray⟩, .string ⟨q.p.toArray⟩, .slice A q.hs.length ac, .string ⟨q.b.toArray⟩]) := Lib.hid (by rw [← hw2]; exact HA1.out.alloc _ (Nat.lt_of_succ_lt HS1.out))
 have HE2 := Lib.hid hw2
 clear hw2
 go_upto_region 6 with fail
 rw [HE2.out]
 clear HE2 x0 l0 l1 l2
 have x0 := (HA2.out 0 _ rfl).1
 obtain ⟨n0, nf0⟩ := HN2.out 0 _ rfl
 obtain ⟨n1, nf1⟩ := HN2.out 1 _ rfl
 obtain ⟨n2, nf2⟩ := HN2.out 2 _ rfl
 obtain ⟨n3, nf3⟩ := HN2.out 3 _ rfl
 obtain ⟨n4, nf4⟩ := HN2.out 4 _ rfl
 obtain ⟨n5, nf5⟩ := HN2.out 5 _ rfl
 obtain ⟨n6, nf6⟩ := HN2.out 6 _ rfl
 obtain ⟨n7, nf7⟩ := HN2.out 7 _ rfl
 obtain ⟨n8, nf8⟩ := HN2.out 8 _ rfl
 have HQ := Lib.hid (((((((((HN2.out.set 0 (.int .i64 0)).set 1 (.int .i64 0)).set 2 (.string ⟨#[]⟩)).set 3 (.string ⟨#[]⟩)).set 4 (.int .i64 0)).set 5 (.int .u64 0)).set 6 (.slice none 0 0)).set 7 (.slice none 0 0)).set 8 (.slice none 0 0))
 have r0 := (HQ.out 0 _ rfl).1
 have r1 := (HQ.out 1 _ rfl).1
 have r2 := (HQ.out 2 _ rfl).1
 have r3 := (HQ.out 3 _ rfl).1
 have r4 := (HQ.out 4 _ rfl).1
 have r5 := (HQ.out 5 _ rfl).1
 have r6 := (HQ.out 6 _ rfl).1
 have r7 := (HQ.out 7 _ rfl).1
 have r8 := (HQ.out 8 _ rfl).1
 have HWF := Lib.hid (((((((((HW2.out.setCell (p := ⟨w.heap.size + 1, 0, none⟩) (Nat.le_succ _) (.int .i64 0)).setCell (p := ⟨w.heap.size + 1, 1, none⟩) (Nat.le_succ _) (.int .i64 0)).setCell (p := ⟨w.heap.size + 1, 2, none⟩) (Nat.le_succ _) (.string ⟨#[]⟩)).setCell (p := ⟨w.heap.size + 1, 3, none⟩) (Nat.le_succ _) (.string ⟨#[]⟩)).setCell (p := ⟨w.heap.size + 1, 4, none⟩) (Nat.le_succ _) (.int .i64 0)).setCell (p := ⟨w.heap.size + 1, 5, none⟩) (Nat.le_succ _) (.int .u64 0)).setCell (p := ⟨w.heap.size + 1, 6, none⟩) (Nat.le_succ _) (.slice none 0 0)).setCell (p := ⟨w.heap.size + 1, 7, none⟩) (Nat.le_succ _) (.slice none 0 0)).setCell (p := ⟨w.heap.size + 1, 8, none⟩) (Nat.le_succ _) (.slice none 0 0))
 go_wp2_with fail
 refine bodyPost_ret (v := .tuple #[.agg #[.int .i64 0, .int .i64 0, .string ⟨#[]⟩, .string ⟨#[]⟩, .int .i64 0, .int .u64 0, .slice none 0 0, .slice none 0 0, .slice none 0 0], .int .i64 405]) (by simp [results, Tryz.results18, go_sem, r0, r1, r2, r3, r4, r5, r6, r7, r8]; try rfl) rfl ?_
 exact ⟨HWF.out, .inr ⟨405, HV.out, rfl⟩⟩
set_option maxHeartbeats 16000000 in
theorem route_other (q : Rq) (h : Value) (id : Int) (w : World) (hd : H.Hdrs w h q.hs) (hz : Small q) (key item : List UInt8) (hls : partsL 47 q.p = [[], cartT, key, item]) (hm : q.m ≠ putT) (hm2 : q.m ≠ delT) : Calls Tryz.prog 18 #[rqV q h, .int .i64 id] w (RteR (routeL q.m q.p (H.findL q.hs tokenH) q.b id) w) := by
 have HPL : Hid (pathL q.p = (key, item, 2)) := Lib.hid (by unfold pathL; rw [hls]; exact if_pos ⟨rfl, rfl⟩)
 have HMM := Lib.hid hm
 have HMM2 := Lib.hid hm2
 clear hm2
 clear hm
 obtain ⟨A, ac, rfl⟩ : ∃ A c, h = .slice A q.hs.length c := by obtain ⟨_, A, c, e, _⟩ := hd; exact ⟨A, c, e⟩
 obtain ⟨wa, hwa⟩ : ∃ y, w.alloc (.cells #[.string ⟨q.m.toArray⟩, .string ⟨q.p.toArray⟩, .slice A q.hs.length ac, .string ⟨q.b.toArray⟩] 24) = y := ⟨_, rfl⟩
 obtain ⟨w0, hw0⟩ : ∃ y, wa.alloc (.cells #[.int .i64 0, .int .i64 0, .string ⟨#[]⟩, .string ⟨#[]⟩, .int .i64 0, .int .u64 0, .slice none 0 0, .slice none 0 0, .slice none 0 0] 34) = y := ⟨_, rfl⟩
 have hza : wa.heap.size = w.heap.size + 1 := by rw [← hwa]; simp
 have HW0 : Hid (Below w.heap.size w w0) := Lib.hid (by rw [← hw0, ← hwa]; exact ((Below.refl _ _).alloc (Nat.le_refl _) _).alloc (by simp) _)
 have HA0 : Hid (Bk w0 w.heap.size [.string ⟨q.m.toArray⟩, .string ⟨q.p.toArray⟩, .slice A q.hs.length ac, .string ⟨q.b.toArray⟩]) := Lib.hid (by rw [← hw0, ← hwa]; exact (Bk.new w _ 24 rfl).alloc _ (by simp))
 have HN0 : Hid (Bk w0 (w.heap.size + 1) [.int .i64 0, .int .i64 0, .string ⟨#[]⟩, .string ⟨#[]⟩, .int .i64 0, .int .u64 0, .slice none 0 0, .slice none 0 0, .slice none 0 0]) := Lib.hid (by rw [← hw0]; exact Bk.new wa _ 34 hza.symm)
 have HS0 : Hid (w.heap.size + 1 < w0.heap.size) := Lib.hid (by rw [← hw0]; simp; omega)
 have hpr := partsR_any q.p hz.1 w0
 have HD := Lib.hid (H.Hdrs.below hd HW0.out (Nat.le_refl _))
 have HZ := Lib.hid hz
 rw [hls] at hpr
 have HLS := Lib.hid hls
 have HZA := Lib.hid hza
 clear hd hz hls hza
 unfold rqV
 go_enter Tryz.func18, Tryz.ntmps18
 go_upto_region 1 with fail
 clear hw0 hwa
 rw [HZA.out]
 have x1 := (HA0.out 1 _ rfl).1
 go_wp2_with fail
 go_at_call 48
 refine hpr.mono ?_
 clear hpr x1
 rintro e w1 ⟨hb, v, rfl, ho⟩
 have HW1 := Lib.hid (HW0.out.trans (hb.mono HW0.out.size))
 have HA1 := Lib.hid (HA0.out.below hb (Nat.lt_of_succ_lt HS0.out))
 have HN1 := Lib.hid (HN0.out.below hb HS0.out)
 have HS1 : Hid (w.heap.size + 1 < w1.heap.size) := Lib.hid (Nat.lt_of_lt_of_le HS0.out hb.size)
 have HB01 := Lib.hid hb
 clear hb
 obtain ⟨g1, c1, hv, hg1, hcl⟩ := txt_cells ho (by simp)
 have l2 := hcl 2 (by simp)
 have l3 := hcl 3 (by simp)
 have l0 := hcl 0 (by simp)
 have l1 := hcl 1 (by simp)
 replace hv : v = .slice (some ⟨g1, 0, none⟩) 4 c1 := hv
 subst hv
 replace l0 : w1.cell? ⟨g1, 0, none⟩ = some (.string ⟨([] : List UInt8).toArray⟩) := l0
 replace l1 : w1.cell? ⟨g1, 1, none⟩ = some (.string ⟨(cartT : List UInt8).toArray⟩) := l1
 replace l2 : w1.cell? ⟨g1, 2, none⟩ = some (.string ⟨(key : List UInt8).toArray⟩) := l2
 replace l3 : w1.cell? ⟨g1, 3, none⟩ = some (.string ⟨(item : List UInt8).toArray⟩) := l3
 have HO1 := Lib.hid hg1
 clear hcl ho hg1
 unfold cartT at l1
 have HV : Hid (routeL q.m q.p (H.findL q.hs tokenH) q.b id = .error 405) := Lib.hid (by unfold routeL; rw [HPL.out]; simp [kindL, HMM.out, HMM2.out])
 have x0 := (HA1.out 0 _ rfl).1
 have hmb : (q.m == [80, 85, 84]) = false := beq_false_of_ne HMM.out
 have hmb2 : (q.m == [68, 69, 76, 69, 84, 69]) = false := beq_false_of_ne HMM2.out
 obtain ⟨w2, hw2⟩ : ∃ y, w1.alloc (.cells #[.int .i64 id, .int .i64 0, .string ⟨key.toArray⟩, .string ⟨#[]⟩, .int .i64 0, .int .u64 0, .slice none 0 0, .slice none 0 0, .slice none 0 0] 34) = y := ⟨_, rfl⟩
 have HW2 : Hid (Below w.heap.size w w2) := Lib.hid (by rw [← hw2]; exact HW1.out.alloc HW1.out.size _)
 have HN2 : Hid (Bk w2 (w.heap.size + 1) [.int .i64 0, .int .i64 0, .string ⟨#[]⟩, .string ⟨#[]⟩, .int .i64 0, .int .u64 0, .slice none 0 0, .slice none 0 0, .slice none 0 0]) := Lib.hid (by rw [← hw2]; exact HN1.out.alloc _ HS1.out)
 have HA2 : Hid (Bk w2 w.heap.size [.string ⟨q.m.toArray⟩, .string ⟨q.p.toArray⟩, .slice A q.hs.length ac, .string ⟨q.b.toArray⟩]) := Lib.hid (by rw [← hw2]; exact HA1.out.alloc _ (Nat.lt_of_succ_lt HS1.out))
 have HE2 := Lib.hid hw2
 clear hw2
 go_upto_region 6 with fail
 rw [HE2.out]
 clear HE2 x0 l0 l1 l2 l3
 have x0 := (HA2.out 0 _ rfl).1
 obtain ⟨n0, nf0⟩ := HN2.out 0 _ rfl
 obtain ⟨n1, nf1⟩ := HN2.out 1 _ rfl
 obtain ⟨n2, nf2⟩ := HN2.out 2 _ rfl
 obtain ⟨n3, nf3⟩ := HN2.out 3 _ rfl
 obtain ⟨n4, nf4⟩ := HN2.out 4 _ rfl
 obtain ⟨n5, nf5⟩ := HN2.out 5 _ rfl
 obtain ⟨n6, nf6⟩ := HN2.out 6 _ rfl
 obtain ⟨n7, nf7⟩ := HN2.out 7 _ rfl
 obtain ⟨n8, nf8⟩ := HN2.out 8 _ rfl
 have HQ := Lib.hid (((((((((HN2.out.set 0 (.int .i64 0)).set 1 (.int .i64 0)).set 2 (.string ⟨#[]⟩)).set 3 (.string ⟨#[]⟩)).set 4 (.int .i64 0)).set 5 (.int .u64 0)).set 6 (.slice none 0 0)).set 7 (.slice none 0 0)).set 8 (.slice none 0 0))
 have r0 := (HQ.out 0 _ rfl).1
 have r1 := (HQ.out 1 _ rfl).1
 have r2 := (HQ.out 2 _ rfl).1
 have r3 := (HQ.out 3 _ rfl).1
 have r4 := (HQ.out 4 _ rfl).1
 have r5 := (HQ.out 5 _ rfl).1
 have r6 := (HQ.out 6 _ rfl).1
 have r7 := (HQ.out 7 _ rfl).1
 have r8 := (HQ.out 8 _ rfl).1
 have HWF := Lib.hid (((((((((HW2.out.setCell (p := ⟨w.heap.size + 1, 0, none⟩) (Nat.le_succ _) (.int .i64 0)).setCell (p := ⟨w.heap.size + 1, 1, none⟩) (Nat.le_succ _) (.int .i64 0)).setCell (p := ⟨w.heap.size + 1, 2, none⟩) (Nat.le_succ _) (.string ⟨#[]⟩)).setCell (p := ⟨w.heap.size + 1, 3, none⟩) (Nat.le_succ _) (.string ⟨#[]⟩)).setCell (p := ⟨w.heap.size + 1, 4, none⟩) (Nat.le_succ _) (.int .i64 0)).setCell (p := ⟨w.heap.size + 1, 5, none⟩) (Nat.le_succ _) (.int .u64 0)).setCell (p := ⟨w.heap.size + 1, 6, none⟩) (Nat.le_succ _) (.slice none 0 0)).setCell (p := ⟨w.heap.size + 1, 7, none⟩) (Nat.le_succ _) (.slice none 0 0)).setCell (p := ⟨w.heap.size + 1, 8, none⟩) (Nat.le_succ _) (.slice none 0 0))
 go_wp2_with fail
 refine bodyPost_ret (v := .tuple #[.agg #[.int .i64 0, .int .i64 0, .string ⟨#[]⟩, .string ⟨#[]⟩, .int .i64 0, .int .u64 0, .slice none 0 0, .slice none 0 0, .slice none 0 0], .int .i64 405]) (by simp [results, Tryz.results18, go_sem, r0, r1, r2, r3, r4, r5, r6, r7, r8]; try rfl) rfl ?_
 exact ⟨HWF.out, .inr ⟨405, HV.out, rfl⟩⟩
set_option maxHeartbeats 16000000 in
theorem route_get (q : Rq) (h : Value) (id : Int) (w : World) (hd : H.Hdrs w h q.hs) (hz : Small q) (key : List UInt8) (hls : partsL 47 q.p = [[], cartT, key]) (hm : q.m = getT) : Calls Tryz.prog 18 #[rqV q h, .int .i64 id] w (RteR (routeL q.m q.p (H.findL q.hs tokenH) q.b id) w) := by
 have HPL : Hid (pathL q.p = (key, [], 1)) := Lib.hid (by unfold pathL; rw [hls]; exact if_pos ⟨rfl, rfl⟩)
 have HMM := Lib.hid hm
 clear hm
 obtain ⟨A, ac, rfl⟩ : ∃ A c, h = .slice A q.hs.length c := by obtain ⟨_, A, c, e, _⟩ := hd; exact ⟨A, c, e⟩
 obtain ⟨wa, hwa⟩ : ∃ y, w.alloc (.cells #[.string ⟨q.m.toArray⟩, .string ⟨q.p.toArray⟩, .slice A q.hs.length ac, .string ⟨q.b.toArray⟩] 24) = y := ⟨_, rfl⟩
 obtain ⟨w0, hw0⟩ : ∃ y, wa.alloc (.cells #[.int .i64 0, .int .i64 0, .string ⟨#[]⟩, .string ⟨#[]⟩, .int .i64 0, .int .u64 0, .slice none 0 0, .slice none 0 0, .slice none 0 0] 34) = y := ⟨_, rfl⟩
 have hza : wa.heap.size = w.heap.size + 1 := by rw [← hwa]; simp
 have HW0 : Hid (Below w.heap.size w w0) := Lib.hid (by rw [← hw0, ← hwa]; exact ((Below.refl _ _).alloc (Nat.le_refl _) _).alloc (by simp) _)
 have HA0 : Hid (Bk w0 w.heap.size [.string ⟨q.m.toArray⟩, .string ⟨q.p.toArray⟩, .slice A q.hs.length ac, .string ⟨q.b.toArray⟩]) := Lib.hid (by rw [← hw0, ← hwa]; exact (Bk.new w _ 24 rfl).alloc _ (by simp))
 have HN0 : Hid (Bk w0 (w.heap.size + 1) [.int .i64 0, .int .i64 0, .string ⟨#[]⟩, .string ⟨#[]⟩, .int .i64 0, .int .u64 0, .slice none 0 0, .slice none 0 0, .slice none 0 0]) := Lib.hid (by rw [← hw0]; exact Bk.new wa _ 34 hza.symm)
 have HS0 : Hid (w.heap.size + 1 < w0.heap.size) := Lib.hid (by rw [← hw0]; simp; omega)
 have hpr := partsR_any q.p hz.1 w0
 have HD := Lib.hid (H.Hdrs.below hd HW0.out (Nat.le_refl _))
 have HZ := Lib.hid hz
 rw [hls] at hpr
 have HLS := Lib.hid hls
 have HZA := Lib.hid hza
 clear hd hz hls hza
 unfold rqV
 go_enter Tryz.func18, Tryz.ntmps18
 go_upto_region 1 with fail
 clear hw0 hwa
 rw [HZA.out]
 have x1 := (HA0.out 1 _ rfl).1
 go_wp2_with fail
 go_at_call 48
 refine hpr.mono ?_
 clear hpr x1
 rintro e w1 ⟨hb, v, rfl, ho⟩
 have HW1 := Lib.hid (HW0.out.trans (hb.mono HW0.out.size))
 have HA1 := Lib.hid (HA0.out.below hb (Nat.lt_of_succ_lt HS0.out))
 have HN1 := Lib.hid (HN0.out.below hb HS0.out)
 have HS1 : Hid (w.heap.size + 1 < w1.heap.size) := Lib.hid (Nat.lt_of_lt_of_le HS0.out hb.size)
 have HB01 := Lib.hid hb
 clear hb
 obtain ⟨g1, c1, hv, hg1, hcl⟩ := txt_cells ho (by simp)
 have l2 := hcl 2 (by simp)
 have l0 := hcl 0 (by simp)
 have l1 := hcl 1 (by simp)
 replace hv : v = .slice (some ⟨g1, 0, none⟩) 3 c1 := hv
 subst hv
 replace l0 : w1.cell? ⟨g1, 0, none⟩ = some (.string ⟨([] : List UInt8).toArray⟩) := l0
 replace l1 : w1.cell? ⟨g1, 1, none⟩ = some (.string ⟨(cartT : List UInt8).toArray⟩) := l1
 replace l2 : w1.cell? ⟨g1, 2, none⟩ = some (.string ⟨(key : List UInt8).toArray⟩) := l2
 have HO1 := Lib.hid hg1
 clear hcl ho hg1
 unfold cartT at l1
 have x0 := (HA1.out 0 _ rfl).1
 rw [HMM.out] at x0
 unfold getT at x0
 obtain ⟨w2, hw2⟩ : ∃ y, w1.alloc (.cells #[.int .i64 id, .int .i64 0, .string ⟨key.toArray⟩, .string ⟨#[]⟩, .int .i64 0, .int .u64 0, .slice none 0 0, .slice none 0 0, .slice none 0 0] 34) = y := ⟨_, rfl⟩
 have HL2 : Hid (Below w1.heap.size w1 w2) := Lib.hid (by rw [← hw2]; exact (Below.refl _ _).alloc (Nat.le_refl _) _)
 have HW2 := Lib.hid (HW1.out.trans (HL2.out.mono HW1.out.size))
 have HN2 := Lib.hid (HN1.out.below HL2.out HS1.out)
 have HA2 := Lib.hid (HA1.out.below HL2.out (Nat.lt_of_succ_lt HS1.out))
 have HD2 : Hid (Bk w2 w1.heap.size [.int .i64 id, .int .i64 0, .string ⟨key.toArray⟩, .string ⟨#[]⟩, .int .i64 0, .int .u64 0, .slice none 0 0, .slice none 0 0, .slice none 0 0]) := Lib.hid (by rw [← hw2]; exact Bk.new w1 _ 34 rfl)
 have HS2 : Hid (w1.heap.size < w2.heap.size) := Lib.hid (by rw [← hw2]; simp)
 have HDW : Hid (w.heap.size ≤ w1.heap.size) := Lib.hid HW1.out.size
 have HDN : Hid (w1.heap.size ≠ w.heap.size + 1) := Lib.hid (by have := HS1.out; omega)
 have HDA : Hid (w1.heap.size ≠ w.heap.size) := Lib.hid (by have := HS1.out; omega)
 have HE2 := Lib.hid hw2
 clear hw2
 go_upto_region 6 with fail
 rw [HE2.out]
 clear HE2 x0 l0 l1 l2
 have x0 := (HA2.out 0 _ rfl).1
 rw [HMM.out] at x0
 unfold getT at x0
 obtain ⟨d1, df1⟩ := HD2.out 1 _ rfl
 have HKL : Hid ((⟨key.toArray⟩ : ByteArray).size ≤ maxLen) := Lib.hid (by have h1 := part_len q.p key (by rw [HLS.out]; simp); have := HZ.out.1; show key.length ≤ maxLen; unfold maxLen; omega)
 have HL2b := HL2
 obtain ⟨w3, hw3⟩ : ∃ y, w2.setCell ⟨w1.heap.size, 1, none⟩ (.int .i64 1) = y := ⟨_, rfl⟩
 have HD3 : Hid (Bk w3 w1.heap.size [.int .i64 id, .int .i64 1, .string ⟨key.toArray⟩, .string ⟨#[]⟩, .int .i64 0, .int .u64 0, .slice none 0 0, .slice none 0 0, .slice none 0 0]) := Lib.hid (by rw [← hw3]; exact HD2.out.set 1 (.int .i64 1))
 have HN3 := Lib.hid (HN2.out.other (p := ⟨w1.heap.size, 1, none⟩) HDN.out (.int .i64 1))
 have HA3 := Lib.hid (HA2.out.other (p := ⟨w1.heap.size, 1, none⟩) HDA.out (.int .i64 1))
 have HW3 := Lib.hid (HW2.out.setCell (p := ⟨w1.heap.size, 1, none⟩) HDW.out (.int .i64 1))
 have HL3b := Lib.hid (HL2b.out.setCell (p := ⟨w1.heap.size, 1, none⟩) (Nat.le_refl _) (.int .i64 1))
 rw [hw3] at HN3 HA3 HW3 HL3b
 have HS3 : Hid (w1.heap.size < w3.heap.size) := Lib.hid (HD3.out.lt)
 go_upto_region 12 with fail
 clear hw3 x0 d1 df1
 have d2 := (HD3.out 2 _ rfl).1
 have hky := I.keyR_any ⟨key.toArray⟩ w3 HKL.out
 rw [show I.isKey (I.bl ⟨key.toArray⟩) = isName key from key_name key] at hky
 have HR0 : Hid (routeL q.m q.p (H.findL q.hs tokenH) q.b id = if isName key = false then .error 400 else match seenL (H.findL q.hs tokenH) with
   | .error _ => .error 400
   | .ok c => bodyL ⟨id, 1, key, [], 0, 0, c⟩ q.b) := Lib.hid (by
  unfold routeL; rw [HPL.out, HMM.out]
  dsimp only
  rw [if_neg (by decide), if_neg (by decide), show kindL getT 1 = 1 by decide]
  simp only [show ((1 : Nat) = 2) = False by simp, false_and, or_false]; rfl)
 cases hk1 : isName key with
 | false =>
  have HV := Lib.hid (HR0.out.trans (if_pos hk1))
  rw [hk1] at hky
  clear hk1
  go_upto_region 15 with (go_at_call 49; first | (refine hky.mono ?_; clear hky; rintro e w' ⟨rfl, rfl⟩))
  obtain ⟨n0, nf0⟩ := HN3.out 0 _ rfl
  obtain ⟨n1, nf1⟩ := HN3.out 1 _ rfl
  obtain ⟨n2, nf2⟩ := HN3.out 2 _ rfl
  obtain ⟨n3, nf3⟩ := HN3.out 3 _ rfl
  obtain ⟨n4, nf4⟩ := HN3.out 4 _ rfl
  obtain ⟨n5, nf5⟩ := HN3.out 5 _ rfl
  obtain ⟨n6, nf6⟩ := HN3.out 6 _ rfl
  obtain ⟨n7, nf7⟩ := HN3.out 7 _ rfl
  obtain ⟨n8, nf8⟩ := HN3.out 8 _ rfl
  have HQ := Lib.hid (((((((((HN3.out.set 0 (.int .i64 0)).set 1 (.int .i64 0)).set 2 (.string ⟨#[]⟩)).set 3 (.string ⟨#[]⟩)).set 4 (.int .i64 0)).set 5 (.int .u64 0)).set 6 (.slice none 0 0)).set 7 (.slice none 0 0)).set 8 (.slice none 0 0))
  have r0 := (HQ.out 0 _ rfl).1
  have r1 := (HQ.out 1 _ rfl).1
  have r2 := (HQ.out 2 _ rfl).1
  have r3 := (HQ.out 3 _ rfl).1
  have r4 := (HQ.out 4 _ rfl).1
  have r5 := (HQ.out 5 _ rfl).1
  have r6 := (HQ.out 6 _ rfl).1
  have r7 := (HQ.out 7 _ rfl).1
  have r8 := (HQ.out 8 _ rfl).1
  have HWF := Lib.hid (((((((((HW3.out.setCell (p := ⟨w.heap.size + 1, 0, none⟩) (Nat.le_succ _) (.int .i64 0)).setCell (p := ⟨w.heap.size + 1, 1, none⟩) (Nat.le_succ _) (.int .i64 0)).setCell (p := ⟨w.heap.size + 1, 2, none⟩) (Nat.le_succ _) (.string ⟨#[]⟩)).setCell (p := ⟨w.heap.size + 1, 3, none⟩) (Nat.le_succ _) (.string ⟨#[]⟩)).setCell (p := ⟨w.heap.size + 1, 4, none⟩) (Nat.le_succ _) (.int .i64 0)).setCell (p := ⟨w.heap.size + 1, 5, none⟩) (Nat.le_succ _) (.int .u64 0)).setCell (p := ⟨w.heap.size + 1, 6, none⟩) (Nat.le_succ _) (.slice none 0 0)).setCell (p := ⟨w.heap.size + 1, 7, none⟩) (Nat.le_succ _) (.slice none 0 0)).setCell (p := ⟨w.heap.size + 1, 8, none⟩) (Nat.le_succ _) (.slice none 0 0))
  go_wp2_with fail
  refine bodyPost_ret (v := .tuple #[.agg #[.int .i64 0, .int .i64 0, .string ⟨#[]⟩, .string ⟨#[]⟩, .int .i64 0, .int .u64 0, .slice none 0 0, .slice none 0 0, .slice none 0 0], .int .i64 400]) (by simp [results, Tryz.results18, go_sem, r0, r1, r2, r3, r4, r5, r6, r7, r8]; try rfl) rfl ?_
  exact ⟨HWF.out, .inr ⟨400, HV.out, rfl⟩⟩
 | true =>
  rw [hk1] at hky
  have HR1 := Lib.hid (HR0.out.trans (if_neg (by simp [hk1])))
  clear hk1
  go_upto_region 16 with (go_at_call 49; first | (refine hky.mono ?_; clear hky; rintro e w' ⟨rfl, rfl⟩))
  clear d2
  have x2 := (HA3.out 2 _ rfl).1
  have hfi := H.findR_any q.hs tokenH (.slice A q.hs.length ac) w3 (H.Hdrs.below HD.out (HB01.out.trans (HL3b.out.mono HB01.out.size)) (Nat.le_refl _)) (by decide) (fun x hx => Nat.le_trans (HZ.out.2.2 x hx).1 (by decide))
  go_wp2_with fail
  go_at_call 16
  refine hfi.mono ?_
  clear hfi x2
  rintro e w5 ⟨rfl, hb⟩
  have HL5 := Lib.hid (HL3b.out.trans (hb.mono HL3b.out.size))
  have HW5 := Lib.hid (HW3.out.trans (hb.mono HW3.out.size))
  have HN5 := Lib.hid (HN3.out.below hb (Nat.lt_trans HS1.out HS3.out))
  have HA5 := Lib.hid (HA3.out.below hb (Nat.lt_trans (Nat.lt_of_succ_lt HS1.out) HS3.out))
  have HD5 := Lib.hid (HD3.out.below hb HS3.out)
  have HS5 : Hid (w1.heap.size < w5.heap.size) := Lib.hid (Nat.lt_of_lt_of_le HS3.out hb.size)
  clear hb
  cases hF : H.findL q.hs tokenH with
  | none =>
   have HSN : Hid (seenL (H.findL q.hs tokenH) = .ok noC) := Lib.hid (by rw [hF]; rfl)
   clear hF
   dsimp only [H.findV, Option.isSome, Option.getD]
   go_upto_region 22 with fail
   have HR2 : Hid (routeL q.m q.p (H.findL q.hs tokenH) q.b id = bodyL ⟨id, 1, key, [], 0, 0, noC⟩ q.b) := Lib.hid (by rw [HR1.out, HSN.out])
   have d1 := (HD5.out 1 _ rfl).1
   have x3 := (HA5.out 3 _ rfl).1
   by_cases hbe : q.b = []
   ·rw [hbe] at x3
    have HV := Lib.hid (HR2.out.trans (show _ = Except.ok _ by rw [hbe]; unfold bodyL; rw [if_pos (by simp), if_neg (by simp)]))
    clear hbe
    go_upto_region 25 with fail
    clear d1 x3
    have d0 := (HD5.out 0 _ rfl).1
    have d1 := (HD5.out 1 _ rfl).1
    have d2 := (HD5.out 2 _ rfl).1
    have d3 := (HD5.out 3 _ rfl).1
    have d4 := (HD5.out 4 _ rfl).1
    have d5 := (HD5.out 5 _ rfl).1
    have d6 := (HD5.out 6 _ rfl).1
    have d7 := (HD5.out 7 _ rfl).1
    have d8 := (HD5.out 8 _ rfl).1
    obtain ⟨n0, nf0⟩ := HN5.out 0 _ rfl
    obtain ⟨n1, nf1⟩ := HN5.out 1 _ rfl
    obtain ⟨n2, nf2⟩ := HN5.out 2 _ rfl
    obtain ⟨n3, nf3⟩ := HN5.out 3 _ rfl
    obtain ⟨n4, nf4⟩ := HN5.out 4 _ rfl
    obtain ⟨n5, nf5⟩ := HN5.out 5 _ rfl
    obtain ⟨n6, nf6⟩ := HN5.out 6 _ rfl
    obtain ⟨n7, nf7⟩ := HN5.out 7 _ rfl
    obtain ⟨n8, nf8⟩ := HN5.out 8 _ rfl
    have HQ := Lib.hid (((((((((HN5.out.set 0 (.int .i64 id)).set 1 (.int .i64 1)).set 2 (.string ⟨key.toArray⟩)).set 3 (.string ⟨#[]⟩)).set 4 (.int .i64 0)).set 5 (.int .u64 0)).set 6 (.slice none 0 0)).set 7 (.slice none 0 0)).set 8 (.slice none 0 0))
    have r0 := (HQ.out 0 _ rfl).1
    have r1 := (HQ.out 1 _ rfl).1
    have r2 := (HQ.out 2 _ rfl).1
    have r3 := (HQ.out 3 _ rfl).1
    have r4 := (HQ.out 4 _ rfl).1
    have r5 := (HQ.out 5 _ rfl).1
    have r6 := (HQ.out 6 _ rfl).1
    have r7 := (HQ.out 7 _ rfl).1
    have r8 := (HQ.out 8 _ rfl).1
    have HWF := Lib.hid (((((((((HW5.out.setCell (p := ⟨w.heap.size + 1, 0, none⟩) (Nat.le_succ _) (.int .i64 id)).setCell (p := ⟨w.heap.size + 1, 1, none⟩) (Nat.le_succ _) (.int .i64 1)).setCell (p := ⟨w.heap.size + 1, 2, none⟩) (Nat.le_succ _) (.string ⟨key.toArray⟩)).setCell (p := ⟨w.heap.size + 1, 3, none⟩) (Nat.le_succ _) (.string ⟨#[]⟩)).setCell (p := ⟨w.heap.size + 1, 4, none⟩) (Nat.le_succ _) (.int .i64 0)).setCell (p := ⟨w.heap.size + 1, 5, none⟩) (Nat.le_succ _) (.int .u64 0)).setCell (p := ⟨w.heap.size + 1, 6, none⟩) (Nat.le_succ _) (.slice none 0 0)).setCell (p := ⟨w.heap.size + 1, 7, none⟩) (Nat.le_succ _) (.slice none 0 0)).setCell (p := ⟨w.heap.size + 1, 8, none⟩) (Nat.le_succ _) (.slice none 0 0))
    go_wp2_with fail
    refine bodyPost_ret (v := .tuple #[.agg #[.int .i64 id, .int .i64 1, .string ⟨key.toArray⟩, .string ⟨#[]⟩, .int .i64 0, .int .u64 0, .slice none 0 0, .slice none 0 0, .slice none 0 0], .int .i64 0]) (by simp [results, Tryz.results18, go_sem, r0, r1, r2, r3, r4, r5, r6, r7, r8]; try rfl) rfl ?_
    exact ⟨HWF.out, .inl ⟨_, _, HV.out, rfl, _, _, _, rfl, OwnS.nil _ _, OwnS.nil _ _, OwnS.nil _ _⟩⟩
   ·have hse : q.b.isEmpty = false := str_nonempty hbe
    have HV := Lib.hid (HR2.out.trans (show _ = Except.error 400 by unfold bodyL; rw [if_pos (by simp), if_pos hbe]))
    clear hbe
    go_upto_region 24 with fail
    clear d1 x3
    obtain ⟨n0, nf0⟩ := HN5.out 0 _ rfl
    obtain ⟨n1, nf1⟩ := HN5.out 1 _ rfl
    obtain ⟨n2, nf2⟩ := HN5.out 2 _ rfl
    obtain ⟨n3, nf3⟩ := HN5.out 3 _ rfl
    obtain ⟨n4, nf4⟩ := HN5.out 4 _ rfl
    obtain ⟨n5, nf5⟩ := HN5.out 5 _ rfl
    obtain ⟨n6, nf6⟩ := HN5.out 6 _ rfl
    obtain ⟨n7, nf7⟩ := HN5.out 7 _ rfl
    obtain ⟨n8, nf8⟩ := HN5.out 8 _ rfl
    have HQ := Lib.hid (((((((((HN5.out.set 0 (.int .i64 0)).set 1 (.int .i64 0)).set 2 (.string ⟨#[]⟩)).set 3 (.string ⟨#[]⟩)).set 4 (.int .i64 0)).set 5 (.int .u64 0)).set 6 (.slice none 0 0)).set 7 (.slice none 0 0)).set 8 (.slice none 0 0))
    have r0 := (HQ.out 0 _ rfl).1
    have r1 := (HQ.out 1 _ rfl).1
    have r2 := (HQ.out 2 _ rfl).1
    have r3 := (HQ.out 3 _ rfl).1
    have r4 := (HQ.out 4 _ rfl).1
    have r5 := (HQ.out 5 _ rfl).1
    have r6 := (HQ.out 6 _ rfl).1
    have r7 := (HQ.out 7 _ rfl).1
    have r8 := (HQ.out 8 _ rfl).1
    have HWF := Lib.hid (((((((((HW5.out.setCell (p := ⟨w.heap.size + 1, 0, none⟩) (Nat.le_succ _) (.int .i64 0)).setCell (p := ⟨w.heap.size + 1, 1, none⟩) (Nat.le_succ _) (.int .i64 0)).setCell (p := ⟨w.heap.size + 1, 2, none⟩) (Nat.le_succ _) (.string ⟨#[]⟩)).setCell (p := ⟨w.heap.size + 1, 3, none⟩) (Nat.le_succ _) (.string ⟨#[]⟩)).setCell (p := ⟨w.heap.size + 1, 4, none⟩) (Nat.le_succ _) (.int .i64 0)).setCell (p := ⟨w.heap.size + 1, 5, none⟩) (Nat.le_succ _) (.int .u64 0)).setCell (p := ⟨w.heap.size + 1, 6, none⟩) (Nat.le_succ _) (.slice none 0 0)).setCell (p := ⟨w.heap.size + 1, 7, none⟩) (Nat.le_succ _) (.slice none 0 0)).setCell (p := ⟨w.heap.size + 1, 8, none⟩) (Nat.le_succ _) (.slice none 0 0))
    go_wp2_with fail
    refine bodyPost_ret (v := .tuple #[.agg #[.int .i64 0, .int .i64 0, .string ⟨#[]⟩, .string ⟨#[]⟩, .int .i64 0, .int .u64 0, .slice none 0 0, .slice none 0 0, .slice none 0 0], .int .i64 400]) (by simp [results, Tryz.results18, go_sem, r0, r1, r2, r3, r4, r5, r6, r7, r8]; try rfl) rfl ?_
    exact ⟨HWF.out, .inr ⟨400, HV.out, rfl⟩⟩
  | some s =>
   have hsl : s.length ≤ 1048576 := by
    obtain ⟨x, hx, e⟩ := find_mem hF
    rw [← e]; exact (HZ.out.2.2 x hx).2
   have hrd := readD_any s hsl w5
   have HSE : Hid (seenL (H.findL q.hs tokenH) = tokenR s) := Lib.hid (by rw [hF]; rfl)
   clear hF hsl
   dsimp only [H.findV, Option.isSome, Option.getD]
   go_upto_region 18 with fail
   go_wp2_with fail
   go_at_call 50
   refine hrd.mono ?_
   clear hrd
   rintro e w6 ⟨hb, ⟨k, v, hX, rfl, hC⟩ | ⟨⟨x, hX⟩, rfl⟩⟩
   ·obtain ⟨ev, mv, cv, rfl, he, hm, hc⟩ := hC
    obtain ⟨E1, a1, rfl⟩ := he.form
    obtain ⟨M1, b1, rfl⟩ := hm.form
    obtain ⟨D1, dd1, rfl⟩ := hc.form
    have HSN := Lib.hid (HSE.out.trans hX)
    have HW6 := Lib.hid (HW5.out.trans (hb.mono HW5.out.size))
    have HN6 := Lib.hid (HN5.out.below hb (Nat.lt_trans HS1.out HS5.out))
    have HA6 := Lib.hid (HA5.out.below hb (Nat.lt_trans (Nat.lt_of_succ_lt HS1.out) HS5.out))
    have HD6 := Lib.hid (HD5.out.below hb HS5.out)
    have HSN5 : Hid (w.heap.size + 1 < w5.heap.size) := Lib.hid (Nat.lt_trans HS1.out HS5.out)
    have HBW5 : Hid (w.heap.size ≤ w5.heap.size) := Lib.hid HW5.out.size
    obtain ⟨w6b, hw6⟩ : ∃ y, w6.alloc (.cells #[.slice E1 k.es.length a1, .slice M1 k.x.ms.length b1, .slice D1 k.x.cl.length dd1] 32) = y := ⟨_, rfl⟩
    have HL6 : Hid (Below w6.heap.size w6 w6b) := Lib.hid (by rw [← hw6]; exact (Below.refl _ _).alloc (Nat.le_refl _) _)
    have HK6 : Hid (Bk w6b w6.heap.size [.slice E1 k.es.length a1, .slice M1 k.x.ms.length b1, .slice D1 k.x.cl.length dd1]) := Lib.hid (by rw [← hw6]; exact Bk.new w6 _ 32 rfl)
    have HS6 : Hid (w1.heap.size < w6.heap.size) := Lib.hid (Nat.lt_of_lt_of_le HS5.out hb.size)
    have HE6 := Lib.hid (he.below HL6.out (Nat.le_refl _))
    have HM6 := Lib.hid (hm.below HL6.out (Nat.le_refl _))
    have HC6 := Lib.hid (hc.below HL6.out (Nat.le_refl _))
    have HW6b := Lib.hid (HW6.out.trans (HL6.out.mono HW6.out.size))
    have HN6b := Lib.hid (HN6.out.below HL6.out (Nat.lt_trans HS1.out HS6.out))
    have HA6b := Lib.hid (HA6.out.below HL6.out (Nat.lt_trans (Nat.lt_of_succ_lt HS1.out) HS6.out))
    have HD6b := Lib.hid (HD6.out.below HL6.out HS6.out)
    clear he hm hc hb hX
    go_upto_region 21 with fail
    clear hw6
    have k0 := (HK6.out 0 _ rfl).1
    have k1 := (HK6.out 1 _ rfl).1
    have k2 := (HK6.out 2 _ rfl).1
    obtain ⟨d6, df6⟩ := HD6b.out 6 _ rfl
    obtain ⟨d7, df7⟩ := HD6b.out 7 _ rfl
    obtain ⟨d8, df8⟩ := HD6b.out 8 _ rfl
    obtain ⟨w7, hw7⟩ : ∃ y, ((w6b.setCell ⟨w1.heap.size, 6, none⟩ (.slice E1 k.es.length a1)).setCell ⟨w1.heap.size, 7, none⟩ (.slice M1 k.x.ms.length b1)).setCell ⟨w1.heap.size, 8, none⟩ (.slice D1 k.x.cl.length dd1) = y := ⟨_, rfl⟩
    have HD7 : Hid (Bk w7 w1.heap.size [.int .i64 id, .int .i64 1, .string ⟨key.toArray⟩, .string ⟨#[]⟩, .int .i64 0, .int .u64 0, .slice E1 k.es.length a1, .slice M1 k.x.ms.length b1, .slice D1 k.x.cl.length dd1]) := Lib.hid (by rw [← hw7]; exact ((HD6b.out.set 6 (.slice E1 k.es.length a1)).set 7 (.slice M1 k.x.ms.length b1)).set 8 (.slice D1 k.x.cl.length dd1))
    have HN7 := Lib.hid (((HN6b.out.other (p := ⟨w1.heap.size, 6, none⟩) HDN.out (.slice E1 k.es.length a1)).other (p := ⟨w1.heap.size, 7, none⟩) HDN.out (.slice M1 k.x.ms.length b1)).other (p := ⟨w1.heap.size, 8, none⟩) HDN.out (.slice D1 k.x.cl.length dd1))
    have HA7 := Lib.hid (((HA6b.out.other (p := ⟨w1.heap.size, 6, none⟩) HDA.out (.slice E1 k.es.length a1)).other (p := ⟨w1.heap.size, 7, none⟩) HDA.out (.slice M1 k.x.ms.length b1)).other (p := ⟨w1.heap.size, 8, none⟩) HDA.out (.slice D1 k.x.cl.length dd1))
    have HW7 := Lib.hid (((HW6b.out.setCell (p := ⟨w1.heap.size, 6, none⟩) HDW.out (.slice E1 k.es.length a1)).setCell (p := ⟨w1.heap.size, 7, none⟩) HDW.out (.slice M1 k.x.ms.length b1)).setCell (p := ⟨w1.heap.size, 8, none⟩) HDW.out (.slice D1 k.x.cl.length dd1))
    have HE7 := Lib.hid (((HE6.out.setCell (p := ⟨w1.heap.size, 6, none⟩) HS5.out (.slice E1 k.es.length a1)).setCell (p := ⟨w1.heap.size, 7, none⟩) HS5.out (.slice M1 k.x.ms.length b1)).setCell (p := ⟨w1.heap.size, 8, none⟩) HS5.out (.slice D1 k.x.cl.length dd1))
    have HM7 := Lib.hid (((HM6.out.setCell (p := ⟨w1.heap.size, 6, none⟩) HS5.out (.slice E1 k.es.length a1)).setCell (p := ⟨w1.heap.size, 7, none⟩) HS5.out (.slice M1 k.x.ms.length b1)).setCell (p := ⟨w1.heap.size, 8, none⟩) HS5.out (.slice D1 k.x.cl.length dd1))
    have HC7 := Lib.hid (((HC6.out.setCell (p := ⟨w1.heap.size, 6, none⟩) HS5.out (.slice E1 k.es.length a1)).setCell (p := ⟨w1.heap.size, 7, none⟩) HS5.out (.slice M1 k.x.ms.length b1)).setCell (p := ⟨w1.heap.size, 8, none⟩) HS5.out (.slice D1 k.x.cl.length dd1))
    rw [hw7] at HN7 HA7 HW7 HE7 HM7 HC7
    have HS7 : Hid (w1.heap.size < w7.heap.size) := Lib.hid (HD7.out.lt)
    go_upto_region 22 with fail
    clear hw7 k0 k1 k2 d6 d7 d8 df6 df7 df8
    have HR2 : Hid (routeL q.m q.p (H.findL q.hs tokenH) q.b id = bodyL ⟨id, 1, key, [], 0, 0, k⟩ q.b) := Lib.hid (by rw [HR1.out, HSN.out])
    have d1 := (HD7.out 1 _ rfl).1
    have x3 := (HA7.out 3 _ rfl).1
    by_cases hbe : q.b = []
    ·rw [hbe] at x3
     have HV := Lib.hid (HR2.out.trans (show _ = Except.ok _ by rw [hbe]; unfold bodyL; rw [if_pos (by simp), if_neg (by simp)]))
     clear hbe
     go_upto_region 25 with fail
     clear d1 x3
     have d0 := (HD7.out 0 _ rfl).1
     have d1 := (HD7.out 1 _ rfl).1
     have d2 := (HD7.out 2 _ rfl).1
     have d3 := (HD7.out 3 _ rfl).1
     have d4 := (HD7.out 4 _ rfl).1
     have d5 := (HD7.out 5 _ rfl).1
     have d6 := (HD7.out 6 _ rfl).1
     have d7 := (HD7.out 7 _ rfl).1
     have d8 := (HD7.out 8 _ rfl).1
     obtain ⟨n0, nf0⟩ := HN7.out 0 _ rfl
     obtain ⟨n1, nf1⟩ := HN7.out 1 _ rfl
     obtain ⟨n2, nf2⟩ := HN7.out 2 _ rfl
     obtain ⟨n3, nf3⟩ := HN7.out 3 _ rfl
     obtain ⟨n4, nf4⟩ := HN7.out 4 _ rfl
     obtain ⟨n5, nf5⟩ := HN7.out 5 _ rfl
     obtain ⟨n6, nf6⟩ := HN7.out 6 _ rfl
     obtain ⟨n7, nf7⟩ := HN7.out 7 _ rfl
     obtain ⟨n8, nf8⟩ := HN7.out 8 _ rfl
     have HQ := Lib.hid (((((((((HN7.out.set 0 (.int .i64 id)).set 1 (.int .i64 1)).set 2 (.string ⟨key.toArray⟩)).set 3 (.string ⟨#[]⟩)).set 4 (.int .i64 0)).set 5 (.int .u64 0)).set 6 (.slice E1 k.es.length a1)).set 7 (.slice M1 k.x.ms.length b1)).set 8 (.slice D1 k.x.cl.length dd1))
     have r0 := (HQ.out 0 _ rfl).1
     have r1 := (HQ.out 1 _ rfl).1
     have r2 := (HQ.out 2 _ rfl).1
     have r3 := (HQ.out 3 _ rfl).1
     have r4 := (HQ.out 4 _ rfl).1
     have r5 := (HQ.out 5 _ rfl).1
     have r6 := (HQ.out 6 _ rfl).1
     have r7 := (HQ.out 7 _ rfl).1
     have r8 := (HQ.out 8 _ rfl).1
     have HWF := Lib.hid (((((((((HW7.out.setCell (p := ⟨w.heap.size + 1, 0, none⟩) (Nat.le_succ _) (.int .i64 id)).setCell (p := ⟨w.heap.size + 1, 1, none⟩) (Nat.le_succ _) (.int .i64 1)).setCell (p := ⟨w.heap.size + 1, 2, none⟩) (Nat.le_succ _) (.string ⟨key.toArray⟩)).setCell (p := ⟨w.heap.size + 1, 3, none⟩) (Nat.le_succ _) (.string ⟨#[]⟩)).setCell (p := ⟨w.heap.size + 1, 4, none⟩) (Nat.le_succ _) (.int .i64 0)).setCell (p := ⟨w.heap.size + 1, 5, none⟩) (Nat.le_succ _) (.int .u64 0)).setCell (p := ⟨w.heap.size + 1, 6, none⟩) (Nat.le_succ _) (.slice E1 k.es.length a1)).setCell (p := ⟨w.heap.size + 1, 7, none⟩) (Nat.le_succ _) (.slice M1 k.x.ms.length b1)).setCell (p := ⟨w.heap.size + 1, 8, none⟩) (Nat.le_succ _) (.slice D1 k.x.cl.length dd1))
     have HOE := Lib.hid ((((((((((HE7.out.setCell (p := ⟨w.heap.size + 1, 0, none⟩) HSN5.out (.int .i64 id)).setCell (p := ⟨w.heap.size + 1, 1, none⟩) HSN5.out (.int .i64 1)).setCell (p := ⟨w.heap.size + 1, 2, none⟩) HSN5.out (.string ⟨key.toArray⟩)).setCell (p := ⟨w.heap.size + 1, 3, none⟩) HSN5.out (.string ⟨#[]⟩)).setCell (p := ⟨w.heap.size + 1, 4, none⟩) HSN5.out (.int .i64 0)).setCell (p := ⟨w.heap.size + 1, 5, none⟩) HSN5.out (.int .u64 0)).setCell (p := ⟨w.heap.size + 1, 6, none⟩) HSN5.out (.slice E1 k.es.length a1)).setCell (p := ⟨w.heap.size + 1, 7, none⟩) HSN5.out (.slice M1 k.x.ms.length b1)).setCell (p := ⟨w.heap.size + 1, 8, none⟩) HSN5.out (.slice D1 k.x.cl.length dd1)).base HBW5.out)
     have HOM := Lib.hid ((((((((((HM7.out.setCell (p := ⟨w.heap.size + 1, 0, none⟩) HSN5.out (.int .i64 id)).setCell (p := ⟨w.heap.size + 1, 1, none⟩) HSN5.out (.int .i64 1)).setCell (p := ⟨w.heap.size + 1, 2, none⟩) HSN5.out (.string ⟨key.toArray⟩)).setCell (p := ⟨w.heap.size + 1, 3, none⟩) HSN5.out (.string ⟨#[]⟩)).setCell (p := ⟨w.heap.size + 1, 4, none⟩) HSN5.out (.int .i64 0)).setCell (p := ⟨w.heap.size + 1, 5, none⟩) HSN5.out (.int .u64 0)).setCell (p := ⟨w.heap.size + 1, 6, none⟩) HSN5.out (.slice E1 k.es.length a1)).setCell (p := ⟨w.heap.size + 1, 7, none⟩) HSN5.out (.slice M1 k.x.ms.length b1)).setCell (p := ⟨w.heap.size + 1, 8, none⟩) HSN5.out (.slice D1 k.x.cl.length dd1)).base HBW5.out)
     have HOC := Lib.hid ((((((((((HC7.out.setCell (p := ⟨w.heap.size + 1, 0, none⟩) HSN5.out (.int .i64 id)).setCell (p := ⟨w.heap.size + 1, 1, none⟩) HSN5.out (.int .i64 1)).setCell (p := ⟨w.heap.size + 1, 2, none⟩) HSN5.out (.string ⟨key.toArray⟩)).setCell (p := ⟨w.heap.size + 1, 3, none⟩) HSN5.out (.string ⟨#[]⟩)).setCell (p := ⟨w.heap.size + 1, 4, none⟩) HSN5.out (.int .i64 0)).setCell (p := ⟨w.heap.size + 1, 5, none⟩) HSN5.out (.int .u64 0)).setCell (p := ⟨w.heap.size + 1, 6, none⟩) HSN5.out (.slice E1 k.es.length a1)).setCell (p := ⟨w.heap.size + 1, 7, none⟩) HSN5.out (.slice M1 k.x.ms.length b1)).setCell (p := ⟨w.heap.size + 1, 8, none⟩) HSN5.out (.slice D1 k.x.cl.length dd1)).base HBW5.out)
     go_wp2_with fail
     refine bodyPost_ret (v := .tuple #[.agg #[.int .i64 id, .int .i64 1, .string ⟨key.toArray⟩, .string ⟨#[]⟩, .int .i64 0, .int .u64 0, .slice E1 k.es.length a1, .slice M1 k.x.ms.length b1, .slice D1 k.x.cl.length dd1], .int .i64 0]) (by simp [results, Tryz.results18, go_sem, r0, r1, r2, r3, r4, r5, r6, r7, r8]; try rfl) rfl ?_
     exact ⟨HWF.out, .inl ⟨_, _, HV.out, rfl, _, _, _, rfl, HOE.out, HOM.out, HOC.out⟩⟩
    ·have hse : q.b.isEmpty = false := str_nonempty hbe
     have HV := Lib.hid (HR2.out.trans (show _ = Except.error 400 by unfold bodyL; rw [if_pos (by simp), if_pos hbe]))
     clear hbe
     go_upto_region 24 with fail
     clear d1 x3
     obtain ⟨n0, nf0⟩ := HN7.out 0 _ rfl
     obtain ⟨n1, nf1⟩ := HN7.out 1 _ rfl
     obtain ⟨n2, nf2⟩ := HN7.out 2 _ rfl
     obtain ⟨n3, nf3⟩ := HN7.out 3 _ rfl
     obtain ⟨n4, nf4⟩ := HN7.out 4 _ rfl
     obtain ⟨n5, nf5⟩ := HN7.out 5 _ rfl
     obtain ⟨n6, nf6⟩ := HN7.out 6 _ rfl
     obtain ⟨n7, nf7⟩ := HN7.out 7 _ rfl
     obtain ⟨n8, nf8⟩ := HN7.out 8 _ rfl
     have HQ := Lib.hid (((((((((HN7.out.set 0 (.int .i64 0)).set 1 (.int .i64 0)).set 2 (.string ⟨#[]⟩)).set 3 (.string ⟨#[]⟩)).set 4 (.int .i64 0)).set 5 (.int .u64 0)).set 6 (.slice none 0 0)).set 7 (.slice none 0 0)).set 8 (.slice none 0 0))
     have r0 := (HQ.out 0 _ rfl).1
     have r1 := (HQ.out 1 _ rfl).1
     have r2 := (HQ.out 2 _ rfl).1
     have r3 := (HQ.out 3 _ rfl).1
     have r4 := (HQ.out 4 _ rfl).1
     have r5 := (HQ.out 5 _ rfl).1
     have r6 := (HQ.out 6 _ rfl).1
     have r7 := (HQ.out 7 _ rfl).1
     have r8 := (HQ.out 8 _ rfl).1
     have HWF := Lib.hid (((((((((HW7.out.setCell (p := ⟨w.heap.size + 1, 0, none⟩) (Nat.le_succ _) (.int .i64 0)).setCell (p := ⟨w.heap.size + 1, 1, none⟩) (Nat.le_succ _) (.int .i64 0)).setCell (p := ⟨w.heap.size + 1, 2, none⟩) (Nat.le_succ _) (.string ⟨#[]⟩)).setCell (p := ⟨w.heap.size + 1, 3, none⟩) (Nat.le_succ _) (.string ⟨#[]⟩)).setCell (p := ⟨w.heap.size + 1, 4, none⟩) (Nat.le_succ _) (.int .i64 0)).setCell (p := ⟨w.heap.size + 1, 5, none⟩) (Nat.le_succ _) (.int .u64 0)).setCell (p := ⟨w.heap.size + 1, 6, none⟩) (Nat.le_succ _) (.slice none 0 0)).setCell (p := ⟨w.heap.size + 1, 7, none⟩) (Nat.le_succ _) (.slice none 0 0)).setCell (p := ⟨w.heap.size + 1, 8, none⟩) (Nat.le_succ _) (.slice none 0 0))
     go_wp2_with fail
     refine bodyPost_ret (v := .tuple #[.agg #[.int .i64 0, .int .i64 0, .string ⟨#[]⟩, .string ⟨#[]⟩, .int .i64 0, .int .u64 0, .slice none 0 0, .slice none 0 0, .slice none 0 0], .int .i64 400]) (by simp [results, Tryz.results18, go_sem, r0, r1, r2, r3, r4, r5, r6, r7, r8]; try rfl) rfl ?_
     exact ⟨HWF.out, .inr ⟨400, HV.out, rfl⟩⟩
   ·have HV : Hid (routeL q.m q.p (H.findL q.hs tokenH) q.b id = .error 400) := Lib.hid (by rw [HR1.out, HSE.out, hX])
    have HW6 := Lib.hid (HW5.out.trans (hb.mono HW5.out.size))
    have HN6 := Lib.hid (HN5.out.below hb (Nat.lt_trans HS1.out HS5.out))
    have HS6 : Hid (w.heap.size + 1 < w6.heap.size) := Lib.hid (Nat.lt_of_lt_of_le (Nat.lt_trans HS1.out HS5.out) hb.size)
    obtain ⟨w7, hw7⟩ : ∃ y, w6.alloc (.cells #[.slice none 0 0, .slice none 0 0, .slice none 0 0] 32) = y := ⟨_, rfl⟩
    have HW7 : Hid (Below w.heap.size w w7) := Lib.hid (by rw [← hw7]; exact HW6.out.alloc HW6.out.size _)
    have HN7 : Hid (Bk w7 (w.heap.size + 1) [.int .i64 0, .int .i64 0, .string ⟨#[]⟩, .string ⟨#[]⟩, .int .i64 0, .int .u64 0, .slice none 0 0, .slice none 0 0, .slice none 0 0]) := Lib.hid (by rw [← hw7]; exact HN6.out.alloc _ HS6.out)
    have HE7 := Lib.hid hw7
    clear hw7 hb hX
    go_upto_region 19 with fail
    rw [HE7.out]
    clear HE7
    obtain ⟨n0, nf0⟩ := HN7.out 0 _ rfl
    obtain ⟨n1, nf1⟩ := HN7.out 1 _ rfl
    obtain ⟨n2, nf2⟩ := HN7.out 2 _ rfl
    obtain ⟨n3, nf3⟩ := HN7.out 3 _ rfl
    obtain ⟨n4, nf4⟩ := HN7.out 4 _ rfl
    obtain ⟨n5, nf5⟩ := HN7.out 5 _ rfl
    obtain ⟨n6, nf6⟩ := HN7.out 6 _ rfl
    obtain ⟨n7, nf7⟩ := HN7.out 7 _ rfl
    obtain ⟨n8, nf8⟩ := HN7.out 8 _ rfl
    have HQ := Lib.hid (((((((((HN7.out.set 0 (.int .i64 0)).set 1 (.int .i64 0)).set 2 (.string ⟨#[]⟩)).set 3 (.string ⟨#[]⟩)).set 4 (.int .i64 0)).set 5 (.int .u64 0)).set 6 (.slice none 0 0)).set 7 (.slice none 0 0)).set 8 (.slice none 0 0))
    have r0 := (HQ.out 0 _ rfl).1
    have r1 := (HQ.out 1 _ rfl).1
    have r2 := (HQ.out 2 _ rfl).1
    have r3 := (HQ.out 3 _ rfl).1
    have r4 := (HQ.out 4 _ rfl).1
    have r5 := (HQ.out 5 _ rfl).1
    have r6 := (HQ.out 6 _ rfl).1
    have r7 := (HQ.out 7 _ rfl).1
    have r8 := (HQ.out 8 _ rfl).1
    have HWF := Lib.hid (((((((((HW7.out.setCell (p := ⟨w.heap.size + 1, 0, none⟩) (Nat.le_succ _) (.int .i64 0)).setCell (p := ⟨w.heap.size + 1, 1, none⟩) (Nat.le_succ _) (.int .i64 0)).setCell (p := ⟨w.heap.size + 1, 2, none⟩) (Nat.le_succ _) (.string ⟨#[]⟩)).setCell (p := ⟨w.heap.size + 1, 3, none⟩) (Nat.le_succ _) (.string ⟨#[]⟩)).setCell (p := ⟨w.heap.size + 1, 4, none⟩) (Nat.le_succ _) (.int .i64 0)).setCell (p := ⟨w.heap.size + 1, 5, none⟩) (Nat.le_succ _) (.int .u64 0)).setCell (p := ⟨w.heap.size + 1, 6, none⟩) (Nat.le_succ _) (.slice none 0 0)).setCell (p := ⟨w.heap.size + 1, 7, none⟩) (Nat.le_succ _) (.slice none 0 0)).setCell (p := ⟨w.heap.size + 1, 8, none⟩) (Nat.le_succ _) (.slice none 0 0))
    go_wp2_with fail
    refine bodyPost_ret (v := .tuple #[.agg #[.int .i64 0, .int .i64 0, .string ⟨#[]⟩, .string ⟨#[]⟩, .int .i64 0, .int .u64 0, .slice none 0 0, .slice none 0 0, .slice none 0 0], .int .i64 400]) (by simp [results, Tryz.results18, go_sem, r0, r1, r2, r3, r4, r5, r6, r7, r8]; try rfl) rfl ?_
    exact ⟨HWF.out, .inr ⟨400, HV.out, rfl⟩⟩
set_option maxHeartbeats 16000000 in
theorem route_put (q : Rq) (h : Value) (id : Int) (w : World) (hd : H.Hdrs w h q.hs) (hz : Small q) (key item : List UInt8) (hls : partsL 47 q.p = [[], cartT, key, item]) (hm : q.m = putT) : Calls Tryz.prog 18 #[rqV q h, .int .i64 id] w (RteR (routeL q.m q.p (H.findL q.hs tokenH) q.b id) w) := by
 have HPL : Hid (pathL q.p = (key, item, 2)) := Lib.hid (by unfold pathL; rw [hls]; exact if_pos ⟨rfl, rfl⟩)
 have HMM := Lib.hid hm
 clear hm
 obtain ⟨A, ac, rfl⟩ : ∃ A c, h = .slice A q.hs.length c := by obtain ⟨_, A, c, e, _⟩ := hd; exact ⟨A, c, e⟩
 obtain ⟨wa, hwa⟩ : ∃ y, w.alloc (.cells #[.string ⟨q.m.toArray⟩, .string ⟨q.p.toArray⟩, .slice A q.hs.length ac, .string ⟨q.b.toArray⟩] 24) = y := ⟨_, rfl⟩
 obtain ⟨w0, hw0⟩ : ∃ y, wa.alloc (.cells #[.int .i64 0, .int .i64 0, .string ⟨#[]⟩, .string ⟨#[]⟩, .int .i64 0, .int .u64 0, .slice none 0 0, .slice none 0 0, .slice none 0 0] 34) = y := ⟨_, rfl⟩
 have hza : wa.heap.size = w.heap.size + 1 := by rw [← hwa]; simp
 have HW0 : Hid (Below w.heap.size w w0) := Lib.hid (by rw [← hw0, ← hwa]; exact ((Below.refl _ _).alloc (Nat.le_refl _) _).alloc (by simp) _)
 have HA0 : Hid (Bk w0 w.heap.size [.string ⟨q.m.toArray⟩, .string ⟨q.p.toArray⟩, .slice A q.hs.length ac, .string ⟨q.b.toArray⟩]) := Lib.hid (by rw [← hw0, ← hwa]; exact (Bk.new w _ 24 rfl).alloc _ (by simp))
 have HN0 : Hid (Bk w0 (w.heap.size + 1) [.int .i64 0, .int .i64 0, .string ⟨#[]⟩, .string ⟨#[]⟩, .int .i64 0, .int .u64 0, .slice none 0 0, .slice none 0 0, .slice none 0 0]) := Lib.hid (by rw [← hw0]; exact Bk.new wa _ 34 hza.symm)
 have HS0 : Hid (w.heap.size + 1 < w0.heap.size) := Lib.hid (by rw [← hw0]; simp; omega)
 have hpr := partsR_any q.p hz.1 w0
 have HD := Lib.hid (H.Hdrs.below hd HW0.out (Nat.le_refl _))
 have HZ := Lib.hid hz
 rw [hls] at hpr
 have HLS := Lib.hid hls
 have HZA := Lib.hid hza
 clear hd hz hls hza
 unfold rqV
 go_enter Tryz.func18, Tryz.ntmps18
 go_upto_region 1 with fail
 clear hw0 hwa
 rw [HZA.out]
 have x1 := (HA0.out 1 _ rfl).1
 go_wp2_with fail
 go_at_call 48
 refine hpr.mono ?_
 clear hpr x1
 rintro e w1 ⟨hb, v, rfl, ho⟩
 have HW1 := Lib.hid (HW0.out.trans (hb.mono HW0.out.size))
 have HA1 := Lib.hid (HA0.out.below hb (Nat.lt_of_succ_lt HS0.out))
 have HN1 := Lib.hid (HN0.out.below hb HS0.out)
 have HS1 : Hid (w.heap.size + 1 < w1.heap.size) := Lib.hid (Nat.lt_of_lt_of_le HS0.out hb.size)
 have HB01 := Lib.hid hb
 clear hb
 obtain ⟨g1, c1, hv, hg1, hcl⟩ := txt_cells ho (by simp)
 have l2 := hcl 2 (by simp)
 have l3 := hcl 3 (by simp)
 have l0 := hcl 0 (by simp)
 have l1 := hcl 1 (by simp)
 replace hv : v = .slice (some ⟨g1, 0, none⟩) 4 c1 := hv
 subst hv
 replace l0 : w1.cell? ⟨g1, 0, none⟩ = some (.string ⟨([] : List UInt8).toArray⟩) := l0
 replace l1 : w1.cell? ⟨g1, 1, none⟩ = some (.string ⟨(cartT : List UInt8).toArray⟩) := l1
 replace l2 : w1.cell? ⟨g1, 2, none⟩ = some (.string ⟨(key : List UInt8).toArray⟩) := l2
 replace l3 : w1.cell? ⟨g1, 3, none⟩ = some (.string ⟨(item : List UInt8).toArray⟩) := l3
 have HO1 := Lib.hid hg1
 clear hcl ho hg1
 unfold cartT at l1
 have x0 := (HA1.out 0 _ rfl).1
 rw [HMM.out] at x0
 unfold putT at x0
 obtain ⟨w2, hw2⟩ : ∃ y, w1.alloc (.cells #[.int .i64 id, .int .i64 0, .string ⟨key.toArray⟩, .string ⟨#[]⟩, .int .i64 0, .int .u64 0, .slice none 0 0, .slice none 0 0, .slice none 0 0] 34) = y := ⟨_, rfl⟩
 have HL2 : Hid (Below w1.heap.size w1 w2) := Lib.hid (by rw [← hw2]; exact (Below.refl _ _).alloc (Nat.le_refl _) _)
 have HW2 := Lib.hid (HW1.out.trans (HL2.out.mono HW1.out.size))
 have HN2 := Lib.hid (HN1.out.below HL2.out HS1.out)
 have HA2 := Lib.hid (HA1.out.below HL2.out (Nat.lt_of_succ_lt HS1.out))
 have HD2 : Hid (Bk w2 w1.heap.size [.int .i64 id, .int .i64 0, .string ⟨key.toArray⟩, .string ⟨#[]⟩, .int .i64 0, .int .u64 0, .slice none 0 0, .slice none 0 0, .slice none 0 0]) := Lib.hid (by rw [← hw2]; exact Bk.new w1 _ 34 rfl)
 have HS2 : Hid (w1.heap.size < w2.heap.size) := Lib.hid (by rw [← hw2]; simp)
 have HDW : Hid (w.heap.size ≤ w1.heap.size) := Lib.hid HW1.out.size
 have HDN : Hid (w1.heap.size ≠ w.heap.size + 1) := Lib.hid (by have := HS1.out; omega)
 have HDA : Hid (w1.heap.size ≠ w.heap.size) := Lib.hid (by have := HS1.out; omega)
 have HL3 : Hid (g1 < w1.heap.size) := Lib.hid (lt_block l3)
 have HC3 := Lib.hid l3
 have HE2 := Lib.hid hw2
 clear hw2
 go_upto_region 6 with fail
 rw [HE2.out]
 clear HE2 x0 l0 l1 l2 l3
 have x0 := (HA2.out 0 _ rfl).1
 rw [HMM.out] at x0
 unfold putT at x0
 obtain ⟨d1, df1⟩ := HD2.out 1 _ rfl
 have HKL : Hid ((⟨key.toArray⟩ : ByteArray).size ≤ maxLen) := Lib.hid (by have h1 := part_len q.p key (by rw [HLS.out]; simp); have := HZ.out.1; show key.length ≤ maxLen; unfold maxLen; omega)
 have HIL : Hid ((⟨item.toArray⟩ : ByteArray).size ≤ maxLen) := Lib.hid (by have h1 := part_len q.p item (by rw [HLS.out]; simp); have := HZ.out.1; show item.length ≤ maxLen; unfold maxLen; omega)
 have HL2b := HL2
 obtain ⟨w3, hw3⟩ : ∃ y, w2.setCell ⟨w1.heap.size, 1, none⟩ (.int .i64 2) = y := ⟨_, rfl⟩
 have HD3 : Hid (Bk w3 w1.heap.size [.int .i64 id, .int .i64 2, .string ⟨key.toArray⟩, .string ⟨#[]⟩, .int .i64 0, .int .u64 0, .slice none 0 0, .slice none 0 0, .slice none 0 0]) := Lib.hid (by rw [← hw3]; exact HD2.out.set 1 (.int .i64 2))
 have HN3 := Lib.hid (HN2.out.other (p := ⟨w1.heap.size, 1, none⟩) HDN.out (.int .i64 2))
 have HA3 := Lib.hid (HA2.out.other (p := ⟨w1.heap.size, 1, none⟩) HDA.out (.int .i64 2))
 have HW3 := Lib.hid (HW2.out.setCell (p := ⟨w1.heap.size, 1, none⟩) HDW.out (.int .i64 2))
 have HL3b := Lib.hid (HL2b.out.setCell (p := ⟨w1.heap.size, 1, none⟩) (Nat.le_refl _) (.int .i64 2))
 rw [hw3] at HN3 HA3 HW3 HL3b
 have HS3 : Hid (w1.heap.size < w3.heap.size) := Lib.hid (HD3.out.lt)
 go_upto_region 12 with fail
 clear hw3 x0 d1 df1
 have l3 := old_cell HL3b.out HL3.out HC3.out
 obtain ⟨d3, df3⟩ := HD3.out 3 _ rfl
 obtain ⟨w4, hw4⟩ : ∃ y, w3.setCell ⟨w1.heap.size, 3, none⟩ (.string ⟨item.toArray⟩) = y := ⟨_, rfl⟩
 have HD4 : Hid (Bk w4 w1.heap.size [.int .i64 id, .int .i64 2, .string ⟨key.toArray⟩, .string ⟨item.toArray⟩, .int .i64 0, .int .u64 0, .slice none 0 0, .slice none 0 0, .slice none 0 0]) := Lib.hid (by rw [← hw4]; exact HD3.out.set 3 (.string ⟨item.toArray⟩))
 have HN4 := Lib.hid (HN3.out.other (p := ⟨w1.heap.size, 3, none⟩) HDN.out (.string ⟨item.toArray⟩))
 have HA4 := Lib.hid (HA3.out.other (p := ⟨w1.heap.size, 3, none⟩) HDA.out (.string ⟨item.toArray⟩))
 have HW4 := Lib.hid (HW3.out.setCell (p := ⟨w1.heap.size, 3, none⟩) HDW.out (.string ⟨item.toArray⟩))
 have HL4b := Lib.hid (HL3b.out.setCell (p := ⟨w1.heap.size, 3, none⟩) (Nat.le_refl _) (.string ⟨item.toArray⟩))
 rw [hw4] at HN4 HA4 HW4 HL4b
 have HS4 : Hid (w1.heap.size < w4.heap.size) := Lib.hid (HD4.out.lt)
 go_upto_region 14 with fail
 clear hw4 l3 d3 df3
 have d2 := (HD4.out 2 _ rfl).1
 have d3 := (HD4.out 3 _ rfl).1
 have hky := I.keyR_any ⟨key.toArray⟩ w4 HKL.out
 have hit := I.keyR_any ⟨item.toArray⟩ w4 HIL.out
 rw [show I.isKey (I.bl ⟨key.toArray⟩) = isName key from key_name key] at hky
 rw [show I.isKey (I.bl ⟨item.toArray⟩) = isName item from key_name item] at hit
 have HR0 : Hid (routeL q.m q.p (H.findL q.hs tokenH) q.b id = if isName key = false ∨ isName item = false then .error 400 else match seenL (H.findL q.hs tokenH) with
   | .error _ => .error 400
   | .ok c => bodyL ⟨id, 2, key, item, 0, 0, c⟩ q.b) := Lib.hid (by
  unfold routeL; rw [HPL.out, HMM.out]
  dsimp only
  rw [if_neg (by decide), if_neg (by decide), show kindL putT 2 = 2 by decide]
  simp only [true_and]; rfl)
 cases hk1 : isName key with
 | false =>
  have HV := Lib.hid (HR0.out.trans (if_pos (.inl hk1)))
  rw [hk1] at hky
  clear hk1
  go_upto_region 15 with (go_at_call 49; first | (refine hky.mono ?_; clear hky; rintro e w' ⟨rfl, rfl⟩) | (refine hit.mono ?_; clear hit; rintro e w' ⟨rfl, rfl⟩))
  obtain ⟨n0, nf0⟩ := HN4.out 0 _ rfl
  obtain ⟨n1, nf1⟩ := HN4.out 1 _ rfl
  obtain ⟨n2, nf2⟩ := HN4.out 2 _ rfl
  obtain ⟨n3, nf3⟩ := HN4.out 3 _ rfl
  obtain ⟨n4, nf4⟩ := HN4.out 4 _ rfl
  obtain ⟨n5, nf5⟩ := HN4.out 5 _ rfl
  obtain ⟨n6, nf6⟩ := HN4.out 6 _ rfl
  obtain ⟨n7, nf7⟩ := HN4.out 7 _ rfl
  obtain ⟨n8, nf8⟩ := HN4.out 8 _ rfl
  have HQ := Lib.hid (((((((((HN4.out.set 0 (.int .i64 0)).set 1 (.int .i64 0)).set 2 (.string ⟨#[]⟩)).set 3 (.string ⟨#[]⟩)).set 4 (.int .i64 0)).set 5 (.int .u64 0)).set 6 (.slice none 0 0)).set 7 (.slice none 0 0)).set 8 (.slice none 0 0))
  have r0 := (HQ.out 0 _ rfl).1
  have r1 := (HQ.out 1 _ rfl).1
  have r2 := (HQ.out 2 _ rfl).1
  have r3 := (HQ.out 3 _ rfl).1
  have r4 := (HQ.out 4 _ rfl).1
  have r5 := (HQ.out 5 _ rfl).1
  have r6 := (HQ.out 6 _ rfl).1
  have r7 := (HQ.out 7 _ rfl).1
  have r8 := (HQ.out 8 _ rfl).1
  have HWF := Lib.hid (((((((((HW4.out.setCell (p := ⟨w.heap.size + 1, 0, none⟩) (Nat.le_succ _) (.int .i64 0)).setCell (p := ⟨w.heap.size + 1, 1, none⟩) (Nat.le_succ _) (.int .i64 0)).setCell (p := ⟨w.heap.size + 1, 2, none⟩) (Nat.le_succ _) (.string ⟨#[]⟩)).setCell (p := ⟨w.heap.size + 1, 3, none⟩) (Nat.le_succ _) (.string ⟨#[]⟩)).setCell (p := ⟨w.heap.size + 1, 4, none⟩) (Nat.le_succ _) (.int .i64 0)).setCell (p := ⟨w.heap.size + 1, 5, none⟩) (Nat.le_succ _) (.int .u64 0)).setCell (p := ⟨w.heap.size + 1, 6, none⟩) (Nat.le_succ _) (.slice none 0 0)).setCell (p := ⟨w.heap.size + 1, 7, none⟩) (Nat.le_succ _) (.slice none 0 0)).setCell (p := ⟨w.heap.size + 1, 8, none⟩) (Nat.le_succ _) (.slice none 0 0))
  go_wp2_with fail
  refine bodyPost_ret (v := .tuple #[.agg #[.int .i64 0, .int .i64 0, .string ⟨#[]⟩, .string ⟨#[]⟩, .int .i64 0, .int .u64 0, .slice none 0 0, .slice none 0 0, .slice none 0 0], .int .i64 400]) (by simp [results, Tryz.results18, go_sem, r0, r1, r2, r3, r4, r5, r6, r7, r8]; try rfl) rfl ?_
  exact ⟨HWF.out, .inr ⟨400, HV.out, rfl⟩⟩
 | true =>
  rw [hk1] at hky
  cases hk2 : isName item with
  | false =>
   have HV := Lib.hid (HR0.out.trans (if_pos (.inr hk2)))
   rw [hk2] at hit
   clear hk1 hk2
   go_upto_region 15 with (go_at_call 49; first | (refine hky.mono ?_; clear hky; rintro e w' ⟨rfl, rfl⟩) | (refine hit.mono ?_; clear hit; rintro e w' ⟨rfl, rfl⟩))
   obtain ⟨n0, nf0⟩ := HN4.out 0 _ rfl
   obtain ⟨n1, nf1⟩ := HN4.out 1 _ rfl
   obtain ⟨n2, nf2⟩ := HN4.out 2 _ rfl
   obtain ⟨n3, nf3⟩ := HN4.out 3 _ rfl
   obtain ⟨n4, nf4⟩ := HN4.out 4 _ rfl
   obtain ⟨n5, nf5⟩ := HN4.out 5 _ rfl
   obtain ⟨n6, nf6⟩ := HN4.out 6 _ rfl
   obtain ⟨n7, nf7⟩ := HN4.out 7 _ rfl
   obtain ⟨n8, nf8⟩ := HN4.out 8 _ rfl
   have HQ := Lib.hid (((((((((HN4.out.set 0 (.int .i64 0)).set 1 (.int .i64 0)).set 2 (.string ⟨#[]⟩)).set 3 (.string ⟨#[]⟩)).set 4 (.int .i64 0)).set 5 (.int .u64 0)).set 6 (.slice none 0 0)).set 7 (.slice none 0 0)).set 8 (.slice none 0 0))
   have r0 := (HQ.out 0 _ rfl).1
   have r1 := (HQ.out 1 _ rfl).1
   have r2 := (HQ.out 2 _ rfl).1
   have r3 := (HQ.out 3 _ rfl).1
   have r4 := (HQ.out 4 _ rfl).1
   have r5 := (HQ.out 5 _ rfl).1
   have r6 := (HQ.out 6 _ rfl).1
   have r7 := (HQ.out 7 _ rfl).1
   have r8 := (HQ.out 8 _ rfl).1
   have HWF := Lib.hid (((((((((HW4.out.setCell (p := ⟨w.heap.size + 1, 0, none⟩) (Nat.le_succ _) (.int .i64 0)).setCell (p := ⟨w.heap.size + 1, 1, none⟩) (Nat.le_succ _) (.int .i64 0)).setCell (p := ⟨w.heap.size + 1, 2, none⟩) (Nat.le_succ _) (.string ⟨#[]⟩)).setCell (p := ⟨w.heap.size + 1, 3, none⟩) (Nat.le_succ _) (.string ⟨#[]⟩)).setCell (p := ⟨w.heap.size + 1, 4, none⟩) (Nat.le_succ _) (.int .i64 0)).setCell (p := ⟨w.heap.size + 1, 5, none⟩) (Nat.le_succ _) (.int .u64 0)).setCell (p := ⟨w.heap.size + 1, 6, none⟩) (Nat.le_succ _) (.slice none 0 0)).setCell (p := ⟨w.heap.size + 1, 7, none⟩) (Nat.le_succ _) (.slice none 0 0)).setCell (p := ⟨w.heap.size + 1, 8, none⟩) (Nat.le_succ _) (.slice none 0 0))
   go_wp2_with fail
   refine bodyPost_ret (v := .tuple #[.agg #[.int .i64 0, .int .i64 0, .string ⟨#[]⟩, .string ⟨#[]⟩, .int .i64 0, .int .u64 0, .slice none 0 0, .slice none 0 0, .slice none 0 0], .int .i64 400]) (by simp [results, Tryz.results18, go_sem, r0, r1, r2, r3, r4, r5, r6, r7, r8]; try rfl) rfl ?_
   exact ⟨HWF.out, .inr ⟨400, HV.out, rfl⟩⟩
  | true =>
   rw [hk2] at hit
   have HR1 := Lib.hid (HR0.out.trans (if_neg (by simp [hk1, hk2])))
   clear hk1 hk2
   go_upto_region 16 with (go_at_call 49; first | (refine hky.mono ?_; clear hky; rintro e w' ⟨rfl, rfl⟩) | (refine hit.mono ?_; clear hit; rintro e w' ⟨rfl, rfl⟩))
   clear d2 d3
   have x2 := (HA4.out 2 _ rfl).1
   have hfi := H.findR_any q.hs tokenH (.slice A q.hs.length ac) w4 (H.Hdrs.below HD.out (HB01.out.trans (HL4b.out.mono HB01.out.size)) (Nat.le_refl _)) (by decide) (fun x hx => Nat.le_trans (HZ.out.2.2 x hx).1 (by decide))
   go_wp2_with fail
   go_at_call 16
   refine hfi.mono ?_
   clear hfi x2
   rintro e w5 ⟨rfl, hb⟩
   have HL5 := Lib.hid (HL4b.out.trans (hb.mono HL4b.out.size))
   have HW5 := Lib.hid (HW4.out.trans (hb.mono HW4.out.size))
   have HN5 := Lib.hid (HN4.out.below hb (Nat.lt_trans HS1.out HS4.out))
   have HA5 := Lib.hid (HA4.out.below hb (Nat.lt_trans (Nat.lt_of_succ_lt HS1.out) HS4.out))
   have HD5 := Lib.hid (HD4.out.below hb HS4.out)
   have HS5 : Hid (w1.heap.size < w5.heap.size) := Lib.hid (Nat.lt_of_lt_of_le HS4.out hb.size)
   clear hb
   cases hF : H.findL q.hs tokenH with
   | none =>
    have HSN : Hid (seenL (H.findL q.hs tokenH) = .ok noC) := Lib.hid (by rw [hF]; rfl)
    clear hF
    dsimp only [H.findV, Option.isSome, Option.getD]
    go_upto_region 22 with fail
    have HR2 : Hid (routeL q.m q.p (H.findL q.hs tokenH) q.b id = bodyL ⟨id, 2, key, item, 0, 0, noC⟩ q.b) := Lib.hid (by rw [HR1.out, HSN.out])
    have d1 := (HD5.out 1 _ rfl).1
    have x3 := (HA5.out 3 _ rfl).1
    have htw := two_any q.b (Nat.le_trans HZ.out.2.1 (by decide)) w5
    have HR3 := Lib.hid (HR2.out.trans (body_two _ _ rfl))
    go_upto_region 26 with fail
    go_wp2_with fail
    go_at_call 51
    refine htw.mono ?_
    clear htw d1 x3
    rintro e w8 ⟨hb, n, p, rfl, _, hX⟩
    have HW8 := Lib.hid (HW5.out.trans (hb.mono HW5.out.size))
    have HN8 := Lib.hid (HN5.out.below hb (Nat.lt_trans HS1.out HS5.out))
    have HD8 := Lib.hid (HD5.out.below hb HS5.out)
    have HXX := Lib.hid hX
    clear hb hX
    cases hT : twoD q.b with
    | none =>
     have HV := Lib.hid (HR3.out.trans (by rw [hT]))
     clear hT
     dsimp only [Option.isSome]
     go_upto_region 28 with fail
     obtain ⟨n0, nf0⟩ := HN8.out 0 _ rfl
     obtain ⟨n1, nf1⟩ := HN8.out 1 _ rfl
     obtain ⟨n2, nf2⟩ := HN8.out 2 _ rfl
     obtain ⟨n3, nf3⟩ := HN8.out 3 _ rfl
     obtain ⟨n4, nf4⟩ := HN8.out 4 _ rfl
     obtain ⟨n5, nf5⟩ := HN8.out 5 _ rfl
     obtain ⟨n6, nf6⟩ := HN8.out 6 _ rfl
     obtain ⟨n7, nf7⟩ := HN8.out 7 _ rfl
     obtain ⟨n8, nf8⟩ := HN8.out 8 _ rfl
     have HQ := Lib.hid (((((((((HN8.out.set 0 (.int .i64 0)).set 1 (.int .i64 0)).set 2 (.string ⟨#[]⟩)).set 3 (.string ⟨#[]⟩)).set 4 (.int .i64 0)).set 5 (.int .u64 0)).set 6 (.slice none 0 0)).set 7 (.slice none 0 0)).set 8 (.slice none 0 0))
     have r0 := (HQ.out 0 _ rfl).1
     have r1 := (HQ.out 1 _ rfl).1
     have r2 := (HQ.out 2 _ rfl).1
     have r3 := (HQ.out 3 _ rfl).1
     have r4 := (HQ.out 4 _ rfl).1
     have r5 := (HQ.out 5 _ rfl).1
     have r6 := (HQ.out 6 _ rfl).1
     have r7 := (HQ.out 7 _ rfl).1
     have r8 := (HQ.out 8 _ rfl).1
     have HWF := Lib.hid (((((((((HW8.out.setCell (p := ⟨w.heap.size + 1, 0, none⟩) (Nat.le_succ _) (.int .i64 0)).setCell (p := ⟨w.heap.size + 1, 1, none⟩) (Nat.le_succ _) (.int .i64 0)).setCell (p := ⟨w.heap.size + 1, 2, none⟩) (Nat.le_succ _) (.string ⟨#[]⟩)).setCell (p := ⟨w.heap.size + 1, 3, none⟩) (Nat.le_succ _) (.string ⟨#[]⟩)).setCell (p := ⟨w.heap.size + 1, 4, none⟩) (Nat.le_succ _) (.int .i64 0)).setCell (p := ⟨w.heap.size + 1, 5, none⟩) (Nat.le_succ _) (.int .u64 0)).setCell (p := ⟨w.heap.size + 1, 6, none⟩) (Nat.le_succ _) (.slice none 0 0)).setCell (p := ⟨w.heap.size + 1, 7, none⟩) (Nat.le_succ _) (.slice none 0 0)).setCell (p := ⟨w.heap.size + 1, 8, none⟩) (Nat.le_succ _) (.slice none 0 0))
     go_wp2_with fail
     refine bodyPost_ret (v := .tuple #[.agg #[.int .i64 0, .int .i64 0, .string ⟨#[]⟩, .string ⟨#[]⟩, .int .i64 0, .int .u64 0, .slice none 0 0, .slice none 0 0, .slice none 0 0], .int .i64 400]) (by simp [results, Tryz.results18, go_sem, r0, r1, r2, r3, r4, r5, r6, r7, r8]; try rfl) rfl ?_
     exact ⟨HWF.out, .inr ⟨400, HV.out, rfl⟩⟩
    | some np =>
     obtain ⟨rfl, rfl⟩ := HXX.out np hT
     have HV := Lib.hid (HR3.out.trans (by rw [hT]))
     clear hT HXX
     dsimp only [Option.isSome]
     obtain ⟨d4, df4⟩ := HD8.out 4 _ rfl
     obtain ⟨d5, df5⟩ := HD8.out 5 _ rfl
     obtain ⟨w9, hw9⟩ : ∃ y, (w8.setCell ⟨w1.heap.size, 4, none⟩ (.int .i64 (np.1 : Int))).setCell ⟨w1.heap.size, 5, none⟩ (.int .u64 (np.2 : Int)) = y := ⟨_, rfl⟩
     have HD9 : Hid (Bk w9 w1.heap.size [.int .i64 id, .int .i64 2, .string ⟨key.toArray⟩, .string ⟨item.toArray⟩, .int .i64 (np.1 : Int), .int .u64 (np.2 : Int), .slice none 0 0, .slice none 0 0, .slice none 0 0]) := Lib.hid (by rw [← hw9]; exact (HD8.out.set 4 (.int .i64 (np.1 : Int))).set 5 (.int .u64 (np.2 : Int)))
     have HN9 := Lib.hid ((HN8.out.other (p := ⟨w1.heap.size, 4, none⟩) HDN.out (.int .i64 (np.1 : Int))).other (p := ⟨w1.heap.size, 5, none⟩) HDN.out (.int .u64 (np.2 : Int)))
     have HW9 := Lib.hid ((HW8.out.setCell (p := ⟨w1.heap.size, 4, none⟩) HDW.out (.int .i64 (np.1 : Int))).setCell (p := ⟨w1.heap.size, 5, none⟩) HDW.out (.int .u64 (np.2 : Int)))
     rw [hw9] at HN9 HW9
     go_upto_region 31 with fail
     clear hw9 d4 d5 df4 df5
     have d0 := (HD9.out 0 _ rfl).1
     have d1 := (HD9.out 1 _ rfl).1
     have d2 := (HD9.out 2 _ rfl).1
     have d3 := (HD9.out 3 _ rfl).1
     have d4 := (HD9.out 4 _ rfl).1
     have d5 := (HD9.out 5 _ rfl).1
     have d6 := (HD9.out 6 _ rfl).1
     have d7 := (HD9.out 7 _ rfl).1
     have d8 := (HD9.out 8 _ rfl).1
     obtain ⟨n0, nf0⟩ := HN9.out 0 _ rfl
     obtain ⟨n1, nf1⟩ := HN9.out 1 _ rfl
     obtain ⟨n2, nf2⟩ := HN9.out 2 _ rfl
     obtain ⟨n3, nf3⟩ := HN9.out 3 _ rfl
     obtain ⟨n4, nf4⟩ := HN9.out 4 _ rfl
     obtain ⟨n5, nf5⟩ := HN9.out 5 _ rfl
     obtain ⟨n6, nf6⟩ := HN9.out 6 _ rfl
     obtain ⟨n7, nf7⟩ := HN9.out 7 _ rfl
     obtain ⟨n8, nf8⟩ := HN9.out 8 _ rfl
     have HQ := Lib.hid (((((((((HN9.out.set 0 (.int .i64 id)).set 1 (.int .i64 2)).set 2 (.string ⟨key.toArray⟩)).set 3 (.string ⟨item.toArray⟩)).set 4 (.int .i64 (np.1 : Int))).set 5 (.int .u64 (np.2 : Int))).set 6 (.slice none 0 0)).set 7 (.slice none 0 0)).set 8 (.slice none 0 0))
     have r0 := (HQ.out 0 _ rfl).1
     have r1 := (HQ.out 1 _ rfl).1
     have r2 := (HQ.out 2 _ rfl).1
     have r3 := (HQ.out 3 _ rfl).1
     have r4 := (HQ.out 4 _ rfl).1
     have r5 := (HQ.out 5 _ rfl).1
     have r6 := (HQ.out 6 _ rfl).1
     have r7 := (HQ.out 7 _ rfl).1
     have r8 := (HQ.out 8 _ rfl).1
     have HWF := Lib.hid (((((((((HW9.out.setCell (p := ⟨w.heap.size + 1, 0, none⟩) (Nat.le_succ _) (.int .i64 id)).setCell (p := ⟨w.heap.size + 1, 1, none⟩) (Nat.le_succ _) (.int .i64 2)).setCell (p := ⟨w.heap.size + 1, 2, none⟩) (Nat.le_succ _) (.string ⟨key.toArray⟩)).setCell (p := ⟨w.heap.size + 1, 3, none⟩) (Nat.le_succ _) (.string ⟨item.toArray⟩)).setCell (p := ⟨w.heap.size + 1, 4, none⟩) (Nat.le_succ _) (.int .i64 (np.1 : Int))).setCell (p := ⟨w.heap.size + 1, 5, none⟩) (Nat.le_succ _) (.int .u64 (np.2 : Int))).setCell (p := ⟨w.heap.size + 1, 6, none⟩) (Nat.le_succ _) (.slice none 0 0)).setCell (p := ⟨w.heap.size + 1, 7, none⟩) (Nat.le_succ _) (.slice none 0 0)).setCell (p := ⟨w.heap.size + 1, 8, none⟩) (Nat.le_succ _) (.slice none 0 0))
     go_wp2_with fail
     refine bodyPost_ret (v := .tuple #[.agg #[.int .i64 id, .int .i64 2, .string ⟨key.toArray⟩, .string ⟨item.toArray⟩, .int .i64 (np.1 : Int), .int .u64 (np.2 : Int), .slice none 0 0, .slice none 0 0, .slice none 0 0], .int .i64 0]) (by simp [results, Tryz.results18, go_sem, r0, r1, r2, r3, r4, r5, r6, r7, r8]; try rfl) rfl ?_
     exact ⟨HWF.out, .inl ⟨_, _, HV.out, rfl, _, _, _, rfl, OwnS.nil _ _, OwnS.nil _ _, OwnS.nil _ _⟩⟩
   | some s =>
    have hsl : s.length ≤ 1048576 := by
     obtain ⟨x, hx, e⟩ := find_mem hF
     rw [← e]; exact (HZ.out.2.2 x hx).2
    have hrd := readD_any s hsl w5
    have HSE : Hid (seenL (H.findL q.hs tokenH) = tokenR s) := Lib.hid (by rw [hF]; rfl)
    clear hF hsl
    dsimp only [H.findV, Option.isSome, Option.getD]
    go_upto_region 18 with fail
    go_wp2_with fail
    go_at_call 50
    refine hrd.mono ?_
    clear hrd
    rintro e w6 ⟨hb, ⟨k, v, hX, rfl, hC⟩ | ⟨⟨x, hX⟩, rfl⟩⟩
    ·obtain ⟨ev, mv, cv, rfl, he, hm, hc⟩ := hC
     obtain ⟨E1, a1, rfl⟩ := he.form
     obtain ⟨M1, b1, rfl⟩ := hm.form
     obtain ⟨D1, dd1, rfl⟩ := hc.form
     have HSN := Lib.hid (HSE.out.trans hX)
     have HW6 := Lib.hid (HW5.out.trans (hb.mono HW5.out.size))
     have HN6 := Lib.hid (HN5.out.below hb (Nat.lt_trans HS1.out HS5.out))
     have HA6 := Lib.hid (HA5.out.below hb (Nat.lt_trans (Nat.lt_of_succ_lt HS1.out) HS5.out))
     have HD6 := Lib.hid (HD5.out.below hb HS5.out)
     have HSN5 : Hid (w.heap.size + 1 < w5.heap.size) := Lib.hid (Nat.lt_trans HS1.out HS5.out)
     have HBW5 : Hid (w.heap.size ≤ w5.heap.size) := Lib.hid HW5.out.size
     obtain ⟨w6b, hw6⟩ : ∃ y, w6.alloc (.cells #[.slice E1 k.es.length a1, .slice M1 k.x.ms.length b1, .slice D1 k.x.cl.length dd1] 32) = y := ⟨_, rfl⟩
     have HL6 : Hid (Below w6.heap.size w6 w6b) := Lib.hid (by rw [← hw6]; exact (Below.refl _ _).alloc (Nat.le_refl _) _)
     have HK6 : Hid (Bk w6b w6.heap.size [.slice E1 k.es.length a1, .slice M1 k.x.ms.length b1, .slice D1 k.x.cl.length dd1]) := Lib.hid (by rw [← hw6]; exact Bk.new w6 _ 32 rfl)
     have HS6 : Hid (w1.heap.size < w6.heap.size) := Lib.hid (Nat.lt_of_lt_of_le HS5.out hb.size)
     have HE6 := Lib.hid (he.below HL6.out (Nat.le_refl _))
     have HM6 := Lib.hid (hm.below HL6.out (Nat.le_refl _))
     have HC6 := Lib.hid (hc.below HL6.out (Nat.le_refl _))
     have HW6b := Lib.hid (HW6.out.trans (HL6.out.mono HW6.out.size))
     have HN6b := Lib.hid (HN6.out.below HL6.out (Nat.lt_trans HS1.out HS6.out))
     have HA6b := Lib.hid (HA6.out.below HL6.out (Nat.lt_trans (Nat.lt_of_succ_lt HS1.out) HS6.out))
     have HD6b := Lib.hid (HD6.out.below HL6.out HS6.out)
     clear he hm hc hb hX
     go_upto_region 21 with fail
     clear hw6
     have k0 := (HK6.out 0 _ rfl).1
     have k1 := (HK6.out 1 _ rfl).1
     have k2 := (HK6.out 2 _ rfl).1
     obtain ⟨d6, df6⟩ := HD6b.out 6 _ rfl
     obtain ⟨d7, df7⟩ := HD6b.out 7 _ rfl
     obtain ⟨d8, df8⟩ := HD6b.out 8 _ rfl
     obtain ⟨w7, hw7⟩ : ∃ y, ((w6b.setCell ⟨w1.heap.size, 6, none⟩ (.slice E1 k.es.length a1)).setCell ⟨w1.heap.size, 7, none⟩ (.slice M1 k.x.ms.length b1)).setCell ⟨w1.heap.size, 8, none⟩ (.slice D1 k.x.cl.length dd1) = y := ⟨_, rfl⟩
     have HD7 : Hid (Bk w7 w1.heap.size [.int .i64 id, .int .i64 2, .string ⟨key.toArray⟩, .string ⟨item.toArray⟩, .int .i64 0, .int .u64 0, .slice E1 k.es.length a1, .slice M1 k.x.ms.length b1, .slice D1 k.x.cl.length dd1]) := Lib.hid (by rw [← hw7]; exact ((HD6b.out.set 6 (.slice E1 k.es.length a1)).set 7 (.slice M1 k.x.ms.length b1)).set 8 (.slice D1 k.x.cl.length dd1))
     have HN7 := Lib.hid (((HN6b.out.other (p := ⟨w1.heap.size, 6, none⟩) HDN.out (.slice E1 k.es.length a1)).other (p := ⟨w1.heap.size, 7, none⟩) HDN.out (.slice M1 k.x.ms.length b1)).other (p := ⟨w1.heap.size, 8, none⟩) HDN.out (.slice D1 k.x.cl.length dd1))
     have HA7 := Lib.hid (((HA6b.out.other (p := ⟨w1.heap.size, 6, none⟩) HDA.out (.slice E1 k.es.length a1)).other (p := ⟨w1.heap.size, 7, none⟩) HDA.out (.slice M1 k.x.ms.length b1)).other (p := ⟨w1.heap.size, 8, none⟩) HDA.out (.slice D1 k.x.cl.length dd1))
     have HW7 := Lib.hid (((HW6b.out.setCell (p := ⟨w1.heap.size, 6, none⟩) HDW.out (.slice E1 k.es.length a1)).setCell (p := ⟨w1.heap.size, 7, none⟩) HDW.out (.slice M1 k.x.ms.length b1)).setCell (p := ⟨w1.heap.size, 8, none⟩) HDW.out (.slice D1 k.x.cl.length dd1))
     have HE7 := Lib.hid (((HE6.out.setCell (p := ⟨w1.heap.size, 6, none⟩) HS5.out (.slice E1 k.es.length a1)).setCell (p := ⟨w1.heap.size, 7, none⟩) HS5.out (.slice M1 k.x.ms.length b1)).setCell (p := ⟨w1.heap.size, 8, none⟩) HS5.out (.slice D1 k.x.cl.length dd1))
     have HM7 := Lib.hid (((HM6.out.setCell (p := ⟨w1.heap.size, 6, none⟩) HS5.out (.slice E1 k.es.length a1)).setCell (p := ⟨w1.heap.size, 7, none⟩) HS5.out (.slice M1 k.x.ms.length b1)).setCell (p := ⟨w1.heap.size, 8, none⟩) HS5.out (.slice D1 k.x.cl.length dd1))
     have HC7 := Lib.hid (((HC6.out.setCell (p := ⟨w1.heap.size, 6, none⟩) HS5.out (.slice E1 k.es.length a1)).setCell (p := ⟨w1.heap.size, 7, none⟩) HS5.out (.slice M1 k.x.ms.length b1)).setCell (p := ⟨w1.heap.size, 8, none⟩) HS5.out (.slice D1 k.x.cl.length dd1))
     rw [hw7] at HN7 HA7 HW7 HE7 HM7 HC7
     have HS7 : Hid (w1.heap.size < w7.heap.size) := Lib.hid (HD7.out.lt)
     go_upto_region 22 with fail
     clear hw7 k0 k1 k2 d6 d7 d8 df6 df7 df8
     have HR2 : Hid (routeL q.m q.p (H.findL q.hs tokenH) q.b id = bodyL ⟨id, 2, key, item, 0, 0, k⟩ q.b) := Lib.hid (by rw [HR1.out, HSN.out])
     have d1 := (HD7.out 1 _ rfl).1
     have x3 := (HA7.out 3 _ rfl).1
     have htw := two_any q.b (Nat.le_trans HZ.out.2.1 (by decide)) w7
     have HR3 := Lib.hid (HR2.out.trans (body_two _ _ rfl))
     go_upto_region 26 with fail
     go_wp2_with fail
     go_at_call 51
     refine htw.mono ?_
     clear htw d1 x3
     rintro e w8 ⟨hb, n, p, rfl, _, hX⟩
     have HW8 := Lib.hid (HW7.out.trans (hb.mono HW7.out.size))
     have HN8 := Lib.hid (HN7.out.below hb (Nat.lt_trans HS1.out HS7.out))
     have HD8 := Lib.hid (HD7.out.below hb HS7.out)
     have HE8 := Lib.hid (HE7.out.below hb (Nat.le_refl _))
     have HM8 := Lib.hid (HM7.out.below hb (Nat.le_refl _))
     have HC8 := Lib.hid (HC7.out.below hb (Nat.le_refl _))
     have HXX := Lib.hid hX
     clear hb hX
     cases hT : twoD q.b with
     | none =>
      have HV := Lib.hid (HR3.out.trans (by rw [hT]))
      clear hT
      dsimp only [Option.isSome]
      go_upto_region 28 with fail
      obtain ⟨n0, nf0⟩ := HN8.out 0 _ rfl
      obtain ⟨n1, nf1⟩ := HN8.out 1 _ rfl
      obtain ⟨n2, nf2⟩ := HN8.out 2 _ rfl
      obtain ⟨n3, nf3⟩ := HN8.out 3 _ rfl
      obtain ⟨n4, nf4⟩ := HN8.out 4 _ rfl
      obtain ⟨n5, nf5⟩ := HN8.out 5 _ rfl
      obtain ⟨n6, nf6⟩ := HN8.out 6 _ rfl
      obtain ⟨n7, nf7⟩ := HN8.out 7 _ rfl
      obtain ⟨n8, nf8⟩ := HN8.out 8 _ rfl
      have HQ := Lib.hid (((((((((HN8.out.set 0 (.int .i64 0)).set 1 (.int .i64 0)).set 2 (.string ⟨#[]⟩)).set 3 (.string ⟨#[]⟩)).set 4 (.int .i64 0)).set 5 (.int .u64 0)).set 6 (.slice none 0 0)).set 7 (.slice none 0 0)).set 8 (.slice none 0 0))
      have r0 := (HQ.out 0 _ rfl).1
      have r1 := (HQ.out 1 _ rfl).1
      have r2 := (HQ.out 2 _ rfl).1
      have r3 := (HQ.out 3 _ rfl).1
      have r4 := (HQ.out 4 _ rfl).1
      have r5 := (HQ.out 5 _ rfl).1
      have r6 := (HQ.out 6 _ rfl).1
      have r7 := (HQ.out 7 _ rfl).1
      have r8 := (HQ.out 8 _ rfl).1
      have HWF := Lib.hid (((((((((HW8.out.setCell (p := ⟨w.heap.size + 1, 0, none⟩) (Nat.le_succ _) (.int .i64 0)).setCell (p := ⟨w.heap.size + 1, 1, none⟩) (Nat.le_succ _) (.int .i64 0)).setCell (p := ⟨w.heap.size + 1, 2, none⟩) (Nat.le_succ _) (.string ⟨#[]⟩)).setCell (p := ⟨w.heap.size + 1, 3, none⟩) (Nat.le_succ _) (.string ⟨#[]⟩)).setCell (p := ⟨w.heap.size + 1, 4, none⟩) (Nat.le_succ _) (.int .i64 0)).setCell (p := ⟨w.heap.size + 1, 5, none⟩) (Nat.le_succ _) (.int .u64 0)).setCell (p := ⟨w.heap.size + 1, 6, none⟩) (Nat.le_succ _) (.slice none 0 0)).setCell (p := ⟨w.heap.size + 1, 7, none⟩) (Nat.le_succ _) (.slice none 0 0)).setCell (p := ⟨w.heap.size + 1, 8, none⟩) (Nat.le_succ _) (.slice none 0 0))
      go_wp2_with fail
      refine bodyPost_ret (v := .tuple #[.agg #[.int .i64 0, .int .i64 0, .string ⟨#[]⟩, .string ⟨#[]⟩, .int .i64 0, .int .u64 0, .slice none 0 0, .slice none 0 0, .slice none 0 0], .int .i64 400]) (by simp [results, Tryz.results18, go_sem, r0, r1, r2, r3, r4, r5, r6, r7, r8]; try rfl) rfl ?_
      exact ⟨HWF.out, .inr ⟨400, HV.out, rfl⟩⟩
     | some np =>
      obtain ⟨rfl, rfl⟩ := HXX.out np hT
      have HV := Lib.hid (HR3.out.trans (by rw [hT]))
      clear hT HXX
      dsimp only [Option.isSome]
      obtain ⟨d4, df4⟩ := HD8.out 4 _ rfl
      obtain ⟨d5, df5⟩ := HD8.out 5 _ rfl
      obtain ⟨w9, hw9⟩ : ∃ y, (w8.setCell ⟨w1.heap.size, 4, none⟩ (.int .i64 (np.1 : Int))).setCell ⟨w1.heap.size, 5, none⟩ (.int .u64 (np.2 : Int)) = y := ⟨_, rfl⟩
      have HD9 : Hid (Bk w9 w1.heap.size [.int .i64 id, .int .i64 2, .string ⟨key.toArray⟩, .string ⟨item.toArray⟩, .int .i64 (np.1 : Int), .int .u64 (np.2 : Int), .slice E1 k.es.length a1, .slice M1 k.x.ms.length b1, .slice D1 k.x.cl.length dd1]) := Lib.hid (by rw [← hw9]; exact (HD8.out.set 4 (.int .i64 (np.1 : Int))).set 5 (.int .u64 (np.2 : Int)))
      have HN9 := Lib.hid ((HN8.out.other (p := ⟨w1.heap.size, 4, none⟩) HDN.out (.int .i64 (np.1 : Int))).other (p := ⟨w1.heap.size, 5, none⟩) HDN.out (.int .u64 (np.2 : Int)))
      have HW9 := Lib.hid ((HW8.out.setCell (p := ⟨w1.heap.size, 4, none⟩) HDW.out (.int .i64 (np.1 : Int))).setCell (p := ⟨w1.heap.size, 5, none⟩) HDW.out (.int .u64 (np.2 : Int)))
      have HE9 := Lib.hid ((HE8.out.setCell (p := ⟨w1.heap.size, 4, none⟩) HS5.out (.int .i64 (np.1 : Int))).setCell (p := ⟨w1.heap.size, 5, none⟩) HS5.out (.int .u64 (np.2 : Int)))
      have HM9 := Lib.hid ((HM8.out.setCell (p := ⟨w1.heap.size, 4, none⟩) HS5.out (.int .i64 (np.1 : Int))).setCell (p := ⟨w1.heap.size, 5, none⟩) HS5.out (.int .u64 (np.2 : Int)))
      have HC9 := Lib.hid ((HC8.out.setCell (p := ⟨w1.heap.size, 4, none⟩) HS5.out (.int .i64 (np.1 : Int))).setCell (p := ⟨w1.heap.size, 5, none⟩) HS5.out (.int .u64 (np.2 : Int)))
      rw [hw9] at HN9 HW9 HE9 HM9 HC9
      go_upto_region 31 with fail
      clear hw9 d4 d5 df4 df5
      have d0 := (HD9.out 0 _ rfl).1
      have d1 := (HD9.out 1 _ rfl).1
      have d2 := (HD9.out 2 _ rfl).1
      have d3 := (HD9.out 3 _ rfl).1
      have d4 := (HD9.out 4 _ rfl).1
      have d5 := (HD9.out 5 _ rfl).1
      have d6 := (HD9.out 6 _ rfl).1
      have d7 := (HD9.out 7 _ rfl).1
      have d8 := (HD9.out 8 _ rfl).1
      obtain ⟨n0, nf0⟩ := HN9.out 0 _ rfl
      obtain ⟨n1, nf1⟩ := HN9.out 1 _ rfl
      obtain ⟨n2, nf2⟩ := HN9.out 2 _ rfl
      obtain ⟨n3, nf3⟩ := HN9.out 3 _ rfl
      obtain ⟨n4, nf4⟩ := HN9.out 4 _ rfl
      obtain ⟨n5, nf5⟩ := HN9.out 5 _ rfl
      obtain ⟨n6, nf6⟩ := HN9.out 6 _ rfl
      obtain ⟨n7, nf7⟩ := HN9.out 7 _ rfl
      obtain ⟨n8, nf8⟩ := HN9.out 8 _ rfl
      have HQ := Lib.hid (((((((((HN9.out.set 0 (.int .i64 id)).set 1 (.int .i64 2)).set 2 (.string ⟨key.toArray⟩)).set 3 (.string ⟨item.toArray⟩)).set 4 (.int .i64 (np.1 : Int))).set 5 (.int .u64 (np.2 : Int))).set 6 (.slice E1 k.es.length a1)).set 7 (.slice M1 k.x.ms.length b1)).set 8 (.slice D1 k.x.cl.length dd1))
      have r0 := (HQ.out 0 _ rfl).1
      have r1 := (HQ.out 1 _ rfl).1
      have r2 := (HQ.out 2 _ rfl).1
      have r3 := (HQ.out 3 _ rfl).1
      have r4 := (HQ.out 4 _ rfl).1
      have r5 := (HQ.out 5 _ rfl).1
      have r6 := (HQ.out 6 _ rfl).1
      have r7 := (HQ.out 7 _ rfl).1
      have r8 := (HQ.out 8 _ rfl).1
      have HWF := Lib.hid (((((((((HW9.out.setCell (p := ⟨w.heap.size + 1, 0, none⟩) (Nat.le_succ _) (.int .i64 id)).setCell (p := ⟨w.heap.size + 1, 1, none⟩) (Nat.le_succ _) (.int .i64 2)).setCell (p := ⟨w.heap.size + 1, 2, none⟩) (Nat.le_succ _) (.string ⟨key.toArray⟩)).setCell (p := ⟨w.heap.size + 1, 3, none⟩) (Nat.le_succ _) (.string ⟨item.toArray⟩)).setCell (p := ⟨w.heap.size + 1, 4, none⟩) (Nat.le_succ _) (.int .i64 (np.1 : Int))).setCell (p := ⟨w.heap.size + 1, 5, none⟩) (Nat.le_succ _) (.int .u64 (np.2 : Int))).setCell (p := ⟨w.heap.size + 1, 6, none⟩) (Nat.le_succ _) (.slice E1 k.es.length a1)).setCell (p := ⟨w.heap.size + 1, 7, none⟩) (Nat.le_succ _) (.slice M1 k.x.ms.length b1)).setCell (p := ⟨w.heap.size + 1, 8, none⟩) (Nat.le_succ _) (.slice D1 k.x.cl.length dd1))
      have HOE := Lib.hid ((((((((((HE9.out.setCell (p := ⟨w.heap.size + 1, 0, none⟩) HSN5.out (.int .i64 id)).setCell (p := ⟨w.heap.size + 1, 1, none⟩) HSN5.out (.int .i64 2)).setCell (p := ⟨w.heap.size + 1, 2, none⟩) HSN5.out (.string ⟨key.toArray⟩)).setCell (p := ⟨w.heap.size + 1, 3, none⟩) HSN5.out (.string ⟨item.toArray⟩)).setCell (p := ⟨w.heap.size + 1, 4, none⟩) HSN5.out (.int .i64 (np.1 : Int))).setCell (p := ⟨w.heap.size + 1, 5, none⟩) HSN5.out (.int .u64 (np.2 : Int))).setCell (p := ⟨w.heap.size + 1, 6, none⟩) HSN5.out (.slice E1 k.es.length a1)).setCell (p := ⟨w.heap.size + 1, 7, none⟩) HSN5.out (.slice M1 k.x.ms.length b1)).setCell (p := ⟨w.heap.size + 1, 8, none⟩) HSN5.out (.slice D1 k.x.cl.length dd1)).base HBW5.out)
      have HOM := Lib.hid ((((((((((HM9.out.setCell (p := ⟨w.heap.size + 1, 0, none⟩) HSN5.out (.int .i64 id)).setCell (p := ⟨w.heap.size + 1, 1, none⟩) HSN5.out (.int .i64 2)).setCell (p := ⟨w.heap.size + 1, 2, none⟩) HSN5.out (.string ⟨key.toArray⟩)).setCell (p := ⟨w.heap.size + 1, 3, none⟩) HSN5.out (.string ⟨item.toArray⟩)).setCell (p := ⟨w.heap.size + 1, 4, none⟩) HSN5.out (.int .i64 (np.1 : Int))).setCell (p := ⟨w.heap.size + 1, 5, none⟩) HSN5.out (.int .u64 (np.2 : Int))).setCell (p := ⟨w.heap.size + 1, 6, none⟩) HSN5.out (.slice E1 k.es.length a1)).setCell (p := ⟨w.heap.size + 1, 7, none⟩) HSN5.out (.slice M1 k.x.ms.length b1)).setCell (p := ⟨w.heap.size + 1, 8, none⟩) HSN5.out (.slice D1 k.x.cl.length dd1)).base HBW5.out)
      have HOC := Lib.hid ((((((((((HC9.out.setCell (p := ⟨w.heap.size + 1, 0, none⟩) HSN5.out (.int .i64 id)).setCell (p := ⟨w.heap.size + 1, 1, none⟩) HSN5.out (.int .i64 2)).setCell (p := ⟨w.heap.size + 1, 2, none⟩) HSN5.out (.string ⟨key.toArray⟩)).setCell (p := ⟨w.heap.size + 1, 3, none⟩) HSN5.out (.string ⟨item.toArray⟩)).setCell (p := ⟨w.heap.size + 1, 4, none⟩) HSN5.out (.int .i64 (np.1 : Int))).setCell (p := ⟨w.heap.size + 1, 5, none⟩) HSN5.out (.int .u64 (np.2 : Int))).setCell (p := ⟨w.heap.size + 1, 6, none⟩) HSN5.out (.slice E1 k.es.length a1)).setCell (p := ⟨w.heap.size + 1, 7, none⟩) HSN5.out (.slice M1 k.x.ms.length b1)).setCell (p := ⟨w.heap.size + 1, 8, none⟩) HSN5.out (.slice D1 k.x.cl.length dd1)).base HBW5.out)
      go_wp2_with fail
      refine bodyPost_ret (v := .tuple #[.agg #[.int .i64 id, .int .i64 2, .string ⟨key.toArray⟩, .string ⟨item.toArray⟩, .int .i64 (np.1 : Int), .int .u64 (np.2 : Int), .slice E1 k.es.length a1, .slice M1 k.x.ms.length b1, .slice D1 k.x.cl.length dd1], .int .i64 0]) (by simp [results, Tryz.results18, go_sem, r0, r1, r2, r3, r4, r5, r6, r7, r8]; try rfl) rfl ?_
      exact ⟨HWF.out, .inl ⟨_, _, HV.out, rfl, _, _, _, rfl, HOE.out, HOM.out, HOC.out⟩⟩
    ·have HV : Hid (routeL q.m q.p (H.findL q.hs tokenH) q.b id = .error 400) := Lib.hid (by rw [HR1.out, HSE.out, hX])
     have HW6 := Lib.hid (HW5.out.trans (hb.mono HW5.out.size))
     have HN6 := Lib.hid (HN5.out.below hb (Nat.lt_trans HS1.out HS5.out))
     have HS6 : Hid (w.heap.size + 1 < w6.heap.size) := Lib.hid (Nat.lt_of_lt_of_le (Nat.lt_trans HS1.out HS5.out) hb.size)
     obtain ⟨w7, hw7⟩ : ∃ y, w6.alloc (.cells #[.slice none 0 0, .slice none 0 0, .slice none 0 0] 32) = y := ⟨_, rfl⟩
     have HW7 : Hid (Below w.heap.size w w7) := Lib.hid (by rw [← hw7]; exact HW6.out.alloc HW6.out.size _)
     have HN7 : Hid (Bk w7 (w.heap.size + 1) [.int .i64 0, .int .i64 0, .string ⟨#[]⟩, .string ⟨#[]⟩, .int .i64 0, .int .u64 0, .slice none 0 0, .slice none 0 0, .slice none 0 0]) := Lib.hid (by rw [← hw7]; exact HN6.out.alloc _ HS6.out)
     have HE7 := Lib.hid hw7
     clear hw7 hb hX
     go_upto_region 19 with fail
     rw [HE7.out]
     clear HE7
     obtain ⟨n0, nf0⟩ := HN7.out 0 _ rfl
     obtain ⟨n1, nf1⟩ := HN7.out 1 _ rfl
     obtain ⟨n2, nf2⟩ := HN7.out 2 _ rfl
     obtain ⟨n3, nf3⟩ := HN7.out 3 _ rfl
     obtain ⟨n4, nf4⟩ := HN7.out 4 _ rfl
     obtain ⟨n5, nf5⟩ := HN7.out 5 _ rfl
     obtain ⟨n6, nf6⟩ := HN7.out 6 _ rfl
     obtain ⟨n7, nf7⟩ := HN7.out 7 _ rfl
     obtain ⟨n8, nf8⟩ := HN7.out 8 _ rfl
     have HQ := Lib.hid (((((((((HN7.out.set 0 (.int .i64 0)).set 1 (.int .i64 0)).set 2 (.string ⟨#[]⟩)).set 3 (.string ⟨#[]⟩)).set 4 (.int .i64 0)).set 5 (.int .u64 0)).set 6 (.slice none 0 0)).set 7 (.slice none 0 0)).set 8 (.slice none 0 0))
     have r0 := (HQ.out 0 _ rfl).1
     have r1 := (HQ.out 1 _ rfl).1
     have r2 := (HQ.out 2 _ rfl).1
     have r3 := (HQ.out 3 _ rfl).1
     have r4 := (HQ.out 4 _ rfl).1
     have r5 := (HQ.out 5 _ rfl).1
     have r6 := (HQ.out 6 _ rfl).1
     have r7 := (HQ.out 7 _ rfl).1
     have r8 := (HQ.out 8 _ rfl).1
     have HWF := Lib.hid (((((((((HW7.out.setCell (p := ⟨w.heap.size + 1, 0, none⟩) (Nat.le_succ _) (.int .i64 0)).setCell (p := ⟨w.heap.size + 1, 1, none⟩) (Nat.le_succ _) (.int .i64 0)).setCell (p := ⟨w.heap.size + 1, 2, none⟩) (Nat.le_succ _) (.string ⟨#[]⟩)).setCell (p := ⟨w.heap.size + 1, 3, none⟩) (Nat.le_succ _) (.string ⟨#[]⟩)).setCell (p := ⟨w.heap.size + 1, 4, none⟩) (Nat.le_succ _) (.int .i64 0)).setCell (p := ⟨w.heap.size + 1, 5, none⟩) (Nat.le_succ _) (.int .u64 0)).setCell (p := ⟨w.heap.size + 1, 6, none⟩) (Nat.le_succ _) (.slice none 0 0)).setCell (p := ⟨w.heap.size + 1, 7, none⟩) (Nat.le_succ _) (.slice none 0 0)).setCell (p := ⟨w.heap.size + 1, 8, none⟩) (Nat.le_succ _) (.slice none 0 0))
     go_wp2_with fail
     refine bodyPost_ret (v := .tuple #[.agg #[.int .i64 0, .int .i64 0, .string ⟨#[]⟩, .string ⟨#[]⟩, .int .i64 0, .int .u64 0, .slice none 0 0, .slice none 0 0, .slice none 0 0], .int .i64 400]) (by simp [results, Tryz.results18, go_sem, r0, r1, r2, r3, r4, r5, r6, r7, r8]; try rfl) rfl ?_
     exact ⟨HWF.out, .inr ⟨400, HV.out, rfl⟩⟩
set_option maxHeartbeats 16000000 in
theorem route_del (q : Rq) (h : Value) (id : Int) (w : World) (hd : H.Hdrs w h q.hs) (hz : Small q) (key item : List UInt8) (hls : partsL 47 q.p = [[], cartT, key, item]) (hm : q.m = delT) : Calls Tryz.prog 18 #[rqV q h, .int .i64 id] w (RteR (routeL q.m q.p (H.findL q.hs tokenH) q.b id) w) := by
 have HPL : Hid (pathL q.p = (key, item, 2)) := Lib.hid (by unfold pathL; rw [hls]; exact if_pos ⟨rfl, rfl⟩)
 have HMM := Lib.hid hm
 clear hm
 obtain ⟨A, ac, rfl⟩ : ∃ A c, h = .slice A q.hs.length c := by obtain ⟨_, A, c, e, _⟩ := hd; exact ⟨A, c, e⟩
 obtain ⟨wa, hwa⟩ : ∃ y, w.alloc (.cells #[.string ⟨q.m.toArray⟩, .string ⟨q.p.toArray⟩, .slice A q.hs.length ac, .string ⟨q.b.toArray⟩] 24) = y := ⟨_, rfl⟩
 obtain ⟨w0, hw0⟩ : ∃ y, wa.alloc (.cells #[.int .i64 0, .int .i64 0, .string ⟨#[]⟩, .string ⟨#[]⟩, .int .i64 0, .int .u64 0, .slice none 0 0, .slice none 0 0, .slice none 0 0] 34) = y := ⟨_, rfl⟩
 have hza : wa.heap.size = w.heap.size + 1 := by rw [← hwa]; simp
 have HW0 : Hid (Below w.heap.size w w0) := Lib.hid (by rw [← hw0, ← hwa]; exact ((Below.refl _ _).alloc (Nat.le_refl _) _).alloc (by simp) _)
 have HA0 : Hid (Bk w0 w.heap.size [.string ⟨q.m.toArray⟩, .string ⟨q.p.toArray⟩, .slice A q.hs.length ac, .string ⟨q.b.toArray⟩]) := Lib.hid (by rw [← hw0, ← hwa]; exact (Bk.new w _ 24 rfl).alloc _ (by simp))
 have HN0 : Hid (Bk w0 (w.heap.size + 1) [.int .i64 0, .int .i64 0, .string ⟨#[]⟩, .string ⟨#[]⟩, .int .i64 0, .int .u64 0, .slice none 0 0, .slice none 0 0, .slice none 0 0]) := Lib.hid (by rw [← hw0]; exact Bk.new wa _ 34 hza.symm)
 have HS0 : Hid (w.heap.size + 1 < w0.heap.size) := Lib.hid (by rw [← hw0]; simp; omega)
 have hpr := partsR_any q.p hz.1 w0
 have HD := Lib.hid (H.Hdrs.below hd HW0.out (Nat.le_refl _))
 have HZ := Lib.hid hz
 rw [hls] at hpr
 have HLS := Lib.hid hls
 have HZA := Lib.hid hza
 clear hd hz hls hza
 unfold rqV
 go_enter Tryz.func18, Tryz.ntmps18
 go_upto_region 1 with fail
 clear hw0 hwa
 rw [HZA.out]
 have x1 := (HA0.out 1 _ rfl).1
 go_wp2_with fail
 go_at_call 48
 refine hpr.mono ?_
 clear hpr x1
 rintro e w1 ⟨hb, v, rfl, ho⟩
 have HW1 := Lib.hid (HW0.out.trans (hb.mono HW0.out.size))
 have HA1 := Lib.hid (HA0.out.below hb (Nat.lt_of_succ_lt HS0.out))
 have HN1 := Lib.hid (HN0.out.below hb HS0.out)
 have HS1 : Hid (w.heap.size + 1 < w1.heap.size) := Lib.hid (Nat.lt_of_lt_of_le HS0.out hb.size)
 have HB01 := Lib.hid hb
 clear hb
 obtain ⟨g1, c1, hv, hg1, hcl⟩ := txt_cells ho (by simp)
 have l2 := hcl 2 (by simp)
 have l3 := hcl 3 (by simp)
 have l0 := hcl 0 (by simp)
 have l1 := hcl 1 (by simp)
 replace hv : v = .slice (some ⟨g1, 0, none⟩) 4 c1 := hv
 subst hv
 replace l0 : w1.cell? ⟨g1, 0, none⟩ = some (.string ⟨([] : List UInt8).toArray⟩) := l0
 replace l1 : w1.cell? ⟨g1, 1, none⟩ = some (.string ⟨(cartT : List UInt8).toArray⟩) := l1
 replace l2 : w1.cell? ⟨g1, 2, none⟩ = some (.string ⟨(key : List UInt8).toArray⟩) := l2
 replace l3 : w1.cell? ⟨g1, 3, none⟩ = some (.string ⟨(item : List UInt8).toArray⟩) := l3
 have HO1 := Lib.hid hg1
 clear hcl ho hg1
 unfold cartT at l1
 have x0 := (HA1.out 0 _ rfl).1
 rw [HMM.out] at x0
 unfold delT at x0
 obtain ⟨w2, hw2⟩ : ∃ y, w1.alloc (.cells #[.int .i64 id, .int .i64 0, .string ⟨key.toArray⟩, .string ⟨#[]⟩, .int .i64 0, .int .u64 0, .slice none 0 0, .slice none 0 0, .slice none 0 0] 34) = y := ⟨_, rfl⟩
 have HL2 : Hid (Below w1.heap.size w1 w2) := Lib.hid (by rw [← hw2]; exact (Below.refl _ _).alloc (Nat.le_refl _) _)
 have HW2 := Lib.hid (HW1.out.trans (HL2.out.mono HW1.out.size))
 have HN2 := Lib.hid (HN1.out.below HL2.out HS1.out)
 have HA2 := Lib.hid (HA1.out.below HL2.out (Nat.lt_of_succ_lt HS1.out))
 have HD2 : Hid (Bk w2 w1.heap.size [.int .i64 id, .int .i64 0, .string ⟨key.toArray⟩, .string ⟨#[]⟩, .int .i64 0, .int .u64 0, .slice none 0 0, .slice none 0 0, .slice none 0 0]) := Lib.hid (by rw [← hw2]; exact Bk.new w1 _ 34 rfl)
 have HS2 : Hid (w1.heap.size < w2.heap.size) := Lib.hid (by rw [← hw2]; simp)
 have HDW : Hid (w.heap.size ≤ w1.heap.size) := Lib.hid HW1.out.size
 have HDN : Hid (w1.heap.size ≠ w.heap.size + 1) := Lib.hid (by have := HS1.out; omega)
 have HDA : Hid (w1.heap.size ≠ w.heap.size) := Lib.hid (by have := HS1.out; omega)
 have HL3 : Hid (g1 < w1.heap.size) := Lib.hid (lt_block l3)
 have HC3 := Lib.hid l3
 have HE2 := Lib.hid hw2
 clear hw2
 go_upto_region 6 with fail
 rw [HE2.out]
 clear HE2 x0 l0 l1 l2 l3
 have x0 := (HA2.out 0 _ rfl).1
 rw [HMM.out] at x0
 unfold delT at x0
 obtain ⟨d1, df1⟩ := HD2.out 1 _ rfl
 have HKL : Hid ((⟨key.toArray⟩ : ByteArray).size ≤ maxLen) := Lib.hid (by have h1 := part_len q.p key (by rw [HLS.out]; simp); have := HZ.out.1; show key.length ≤ maxLen; unfold maxLen; omega)
 have HIL : Hid ((⟨item.toArray⟩ : ByteArray).size ≤ maxLen) := Lib.hid (by have h1 := part_len q.p item (by rw [HLS.out]; simp); have := HZ.out.1; show item.length ≤ maxLen; unfold maxLen; omega)
 have HL2b := HL2
 obtain ⟨w3, hw3⟩ : ∃ y, w2.setCell ⟨w1.heap.size, 1, none⟩ (.int .i64 3) = y := ⟨_, rfl⟩
 have HD3 : Hid (Bk w3 w1.heap.size [.int .i64 id, .int .i64 3, .string ⟨key.toArray⟩, .string ⟨#[]⟩, .int .i64 0, .int .u64 0, .slice none 0 0, .slice none 0 0, .slice none 0 0]) := Lib.hid (by rw [← hw3]; exact HD2.out.set 1 (.int .i64 3))
 have HN3 := Lib.hid (HN2.out.other (p := ⟨w1.heap.size, 1, none⟩) HDN.out (.int .i64 3))
 have HA3 := Lib.hid (HA2.out.other (p := ⟨w1.heap.size, 1, none⟩) HDA.out (.int .i64 3))
 have HW3 := Lib.hid (HW2.out.setCell (p := ⟨w1.heap.size, 1, none⟩) HDW.out (.int .i64 3))
 have HL3b := Lib.hid (HL2b.out.setCell (p := ⟨w1.heap.size, 1, none⟩) (Nat.le_refl _) (.int .i64 3))
 rw [hw3] at HN3 HA3 HW3 HL3b
 have HS3 : Hid (w1.heap.size < w3.heap.size) := Lib.hid (HD3.out.lt)
 go_upto_region 12 with fail
 clear hw3 x0 d1 df1
 have l3 := old_cell HL3b.out HL3.out HC3.out
 obtain ⟨d3, df3⟩ := HD3.out 3 _ rfl
 obtain ⟨w4, hw4⟩ : ∃ y, w3.setCell ⟨w1.heap.size, 3, none⟩ (.string ⟨item.toArray⟩) = y := ⟨_, rfl⟩
 have HD4 : Hid (Bk w4 w1.heap.size [.int .i64 id, .int .i64 3, .string ⟨key.toArray⟩, .string ⟨item.toArray⟩, .int .i64 0, .int .u64 0, .slice none 0 0, .slice none 0 0, .slice none 0 0]) := Lib.hid (by rw [← hw4]; exact HD3.out.set 3 (.string ⟨item.toArray⟩))
 have HN4 := Lib.hid (HN3.out.other (p := ⟨w1.heap.size, 3, none⟩) HDN.out (.string ⟨item.toArray⟩))
 have HA4 := Lib.hid (HA3.out.other (p := ⟨w1.heap.size, 3, none⟩) HDA.out (.string ⟨item.toArray⟩))
 have HW4 := Lib.hid (HW3.out.setCell (p := ⟨w1.heap.size, 3, none⟩) HDW.out (.string ⟨item.toArray⟩))
 have HL4b := Lib.hid (HL3b.out.setCell (p := ⟨w1.heap.size, 3, none⟩) (Nat.le_refl _) (.string ⟨item.toArray⟩))
 rw [hw4] at HN4 HA4 HW4 HL4b
 have HS4 : Hid (w1.heap.size < w4.heap.size) := Lib.hid (HD4.out.lt)
 go_upto_region 14 with fail
 clear hw4 l3 d3 df3
 have d2 := (HD4.out 2 _ rfl).1
 have d3 := (HD4.out 3 _ rfl).1
 have hky := I.keyR_any ⟨key.toArray⟩ w4 HKL.out
 have hit := I.keyR_any ⟨item.toArray⟩ w4 HIL.out
 rw [show I.isKey (I.bl ⟨key.toArray⟩) = isName key from key_name key] at hky
 rw [show I.isKey (I.bl ⟨item.toArray⟩) = isName item from key_name item] at hit
 have HR0 : Hid (routeL q.m q.p (H.findL q.hs tokenH) q.b id = if isName key = false ∨ isName item = false then .error 400 else match seenL (H.findL q.hs tokenH) with
   | .error _ => .error 400
   | .ok c => bodyL ⟨id, 3, key, item, 0, 0, c⟩ q.b) := Lib.hid (by
  unfold routeL; rw [HPL.out, HMM.out]
  dsimp only
  rw [if_neg (by decide), if_neg (by decide), show kindL delT 2 = 3 by decide]
  simp only [true_and]; rfl)
 cases hk1 : isName key with
 | false =>
  have HV := Lib.hid (HR0.out.trans (if_pos (.inl hk1)))
  rw [hk1] at hky
  clear hk1
  go_upto_region 15 with (go_at_call 49; first | (refine hky.mono ?_; clear hky; rintro e w' ⟨rfl, rfl⟩) | (refine hit.mono ?_; clear hit; rintro e w' ⟨rfl, rfl⟩))
  obtain ⟨n0, nf0⟩ := HN4.out 0 _ rfl
  obtain ⟨n1, nf1⟩ := HN4.out 1 _ rfl
  obtain ⟨n2, nf2⟩ := HN4.out 2 _ rfl
  obtain ⟨n3, nf3⟩ := HN4.out 3 _ rfl
  obtain ⟨n4, nf4⟩ := HN4.out 4 _ rfl
  obtain ⟨n5, nf5⟩ := HN4.out 5 _ rfl
  obtain ⟨n6, nf6⟩ := HN4.out 6 _ rfl
  obtain ⟨n7, nf7⟩ := HN4.out 7 _ rfl
  obtain ⟨n8, nf8⟩ := HN4.out 8 _ rfl
  have HQ := Lib.hid (((((((((HN4.out.set 0 (.int .i64 0)).set 1 (.int .i64 0)).set 2 (.string ⟨#[]⟩)).set 3 (.string ⟨#[]⟩)).set 4 (.int .i64 0)).set 5 (.int .u64 0)).set 6 (.slice none 0 0)).set 7 (.slice none 0 0)).set 8 (.slice none 0 0))
  have r0 := (HQ.out 0 _ rfl).1
  have r1 := (HQ.out 1 _ rfl).1
  have r2 := (HQ.out 2 _ rfl).1
  have r3 := (HQ.out 3 _ rfl).1
  have r4 := (HQ.out 4 _ rfl).1
  have r5 := (HQ.out 5 _ rfl).1
  have r6 := (HQ.out 6 _ rfl).1
  have r7 := (HQ.out 7 _ rfl).1
  have r8 := (HQ.out 8 _ rfl).1
  have HWF := Lib.hid (((((((((HW4.out.setCell (p := ⟨w.heap.size + 1, 0, none⟩) (Nat.le_succ _) (.int .i64 0)).setCell (p := ⟨w.heap.size + 1, 1, none⟩) (Nat.le_succ _) (.int .i64 0)).setCell (p := ⟨w.heap.size + 1, 2, none⟩) (Nat.le_succ _) (.string ⟨#[]⟩)).setCell (p := ⟨w.heap.size + 1, 3, none⟩) (Nat.le_succ _) (.string ⟨#[]⟩)).setCell (p := ⟨w.heap.size + 1, 4, none⟩) (Nat.le_succ _) (.int .i64 0)).setCell (p := ⟨w.heap.size + 1, 5, none⟩) (Nat.le_succ _) (.int .u64 0)).setCell (p := ⟨w.heap.size + 1, 6, none⟩) (Nat.le_succ _) (.slice none 0 0)).setCell (p := ⟨w.heap.size + 1, 7, none⟩) (Nat.le_succ _) (.slice none 0 0)).setCell (p := ⟨w.heap.size + 1, 8, none⟩) (Nat.le_succ _) (.slice none 0 0))
  go_wp2_with fail
  refine bodyPost_ret (v := .tuple #[.agg #[.int .i64 0, .int .i64 0, .string ⟨#[]⟩, .string ⟨#[]⟩, .int .i64 0, .int .u64 0, .slice none 0 0, .slice none 0 0, .slice none 0 0], .int .i64 400]) (by simp [results, Tryz.results18, go_sem, r0, r1, r2, r3, r4, r5, r6, r7, r8]; try rfl) rfl ?_
  exact ⟨HWF.out, .inr ⟨400, HV.out, rfl⟩⟩
 | true =>
  rw [hk1] at hky
  cases hk2 : isName item with
  | false =>
   have HV := Lib.hid (HR0.out.trans (if_pos (.inr hk2)))
   rw [hk2] at hit
   clear hk1 hk2
   go_upto_region 15 with (go_at_call 49; first | (refine hky.mono ?_; clear hky; rintro e w' ⟨rfl, rfl⟩) | (refine hit.mono ?_; clear hit; rintro e w' ⟨rfl, rfl⟩))
   obtain ⟨n0, nf0⟩ := HN4.out 0 _ rfl
   obtain ⟨n1, nf1⟩ := HN4.out 1 _ rfl
   obtain ⟨n2, nf2⟩ := HN4.out 2 _ rfl
   obtain ⟨n3, nf3⟩ := HN4.out 3 _ rfl
   obtain ⟨n4, nf4⟩ := HN4.out 4 _ rfl
   obtain ⟨n5, nf5⟩ := HN4.out 5 _ rfl
   obtain ⟨n6, nf6⟩ := HN4.out 6 _ rfl
   obtain ⟨n7, nf7⟩ := HN4.out 7 _ rfl
   obtain ⟨n8, nf8⟩ := HN4.out 8 _ rfl
   have HQ := Lib.hid (((((((((HN4.out.set 0 (.int .i64 0)).set 1 (.int .i64 0)).set 2 (.string ⟨#[]⟩)).set 3 (.string ⟨#[]⟩)).set 4 (.int .i64 0)).set 5 (.int .u64 0)).set 6 (.slice none 0 0)).set 7 (.slice none 0 0)).set 8 (.slice none 0 0))
   have r0 := (HQ.out 0 _ rfl).1
   have r1 := (HQ.out 1 _ rfl).1
   have r2 := (HQ.out 2 _ rfl).1
   have r3 := (HQ.out 3 _ rfl).1
   have r4 := (HQ.out 4 _ rfl).1
   have r5 := (HQ.out 5 _ rfl).1
   have r6 := (HQ.out 6 _ rfl).1
   have r7 := (HQ.out 7 _ rfl).1
   have r8 := (HQ.out 8 _ rfl).1
   have HWF := Lib.hid (((((((((HW4.out.setCell (p := ⟨w.heap.size + 1, 0, none⟩) (Nat.le_succ _) (.int .i64 0)).setCell (p := ⟨w.heap.size + 1, 1, none⟩) (Nat.le_succ _) (.int .i64 0)).setCell (p := ⟨w.heap.size + 1, 2, none⟩) (Nat.le_succ _) (.string ⟨#[]⟩)).setCell (p := ⟨w.heap.size + 1, 3, none⟩) (Nat.le_succ _) (.string ⟨#[]⟩)).setCell (p := ⟨w.heap.size + 1, 4, none⟩) (Nat.le_succ _) (.int .i64 0)).setCell (p := ⟨w.heap.size + 1, 5, none⟩) (Nat.le_succ _) (.int .u64 0)).setCell (p := ⟨w.heap.size + 1, 6, none⟩) (Nat.le_succ _) (.slice none 0 0)).setCell (p := ⟨w.heap.size + 1, 7, none⟩) (Nat.le_succ _) (.slice none 0 0)).setCell (p := ⟨w.heap.size + 1, 8, none⟩) (Nat.le_succ _) (.slice none 0 0))
   go_wp2_with fail
   refine bodyPost_ret (v := .tuple #[.agg #[.int .i64 0, .int .i64 0, .string ⟨#[]⟩, .string ⟨#[]⟩, .int .i64 0, .int .u64 0, .slice none 0 0, .slice none 0 0, .slice none 0 0], .int .i64 400]) (by simp [results, Tryz.results18, go_sem, r0, r1, r2, r3, r4, r5, r6, r7, r8]; try rfl) rfl ?_
   exact ⟨HWF.out, .inr ⟨400, HV.out, rfl⟩⟩
  | true =>
   rw [hk2] at hit
   have HR1 := Lib.hid (HR0.out.trans (if_neg (by simp [hk1, hk2])))
   clear hk1 hk2
   go_upto_region 16 with (go_at_call 49; first | (refine hky.mono ?_; clear hky; rintro e w' ⟨rfl, rfl⟩) | (refine hit.mono ?_; clear hit; rintro e w' ⟨rfl, rfl⟩))
   clear d2 d3
   have x2 := (HA4.out 2 _ rfl).1
   have hfi := H.findR_any q.hs tokenH (.slice A q.hs.length ac) w4 (H.Hdrs.below HD.out (HB01.out.trans (HL4b.out.mono HB01.out.size)) (Nat.le_refl _)) (by decide) (fun x hx => Nat.le_trans (HZ.out.2.2 x hx).1 (by decide))
   go_wp2_with fail
   go_at_call 16
   refine hfi.mono ?_
   clear hfi x2
   rintro e w5 ⟨rfl, hb⟩
   have HL5 := Lib.hid (HL4b.out.trans (hb.mono HL4b.out.size))
   have HW5 := Lib.hid (HW4.out.trans (hb.mono HW4.out.size))
   have HN5 := Lib.hid (HN4.out.below hb (Nat.lt_trans HS1.out HS4.out))
   have HA5 := Lib.hid (HA4.out.below hb (Nat.lt_trans (Nat.lt_of_succ_lt HS1.out) HS4.out))
   have HD5 := Lib.hid (HD4.out.below hb HS4.out)
   have HS5 : Hid (w1.heap.size < w5.heap.size) := Lib.hid (Nat.lt_of_lt_of_le HS4.out hb.size)
   clear hb
   cases hF : H.findL q.hs tokenH with
   | none =>
    have HSN : Hid (seenL (H.findL q.hs tokenH) = .ok noC) := Lib.hid (by rw [hF]; rfl)
    clear hF
    dsimp only [H.findV, Option.isSome, Option.getD]
    go_upto_region 22 with fail
    have HR2 : Hid (routeL q.m q.p (H.findL q.hs tokenH) q.b id = bodyL ⟨id, 3, key, item, 0, 0, noC⟩ q.b) := Lib.hid (by rw [HR1.out, HSN.out])
    have d1 := (HD5.out 1 _ rfl).1
    have x3 := (HA5.out 3 _ rfl).1
    by_cases hbe : q.b = []
    ·rw [hbe] at x3
     have HV := Lib.hid (HR2.out.trans (show _ = Except.ok _ by rw [hbe]; unfold bodyL; rw [if_pos (by simp), if_neg (by simp)]))
     clear hbe
     go_upto_region 25 with fail
     clear d1 x3
     have d0 := (HD5.out 0 _ rfl).1
     have d1 := (HD5.out 1 _ rfl).1
     have d2 := (HD5.out 2 _ rfl).1
     have d3 := (HD5.out 3 _ rfl).1
     have d4 := (HD5.out 4 _ rfl).1
     have d5 := (HD5.out 5 _ rfl).1
     have d6 := (HD5.out 6 _ rfl).1
     have d7 := (HD5.out 7 _ rfl).1
     have d8 := (HD5.out 8 _ rfl).1
     obtain ⟨n0, nf0⟩ := HN5.out 0 _ rfl
     obtain ⟨n1, nf1⟩ := HN5.out 1 _ rfl
     obtain ⟨n2, nf2⟩ := HN5.out 2 _ rfl
     obtain ⟨n3, nf3⟩ := HN5.out 3 _ rfl
     obtain ⟨n4, nf4⟩ := HN5.out 4 _ rfl
     obtain ⟨n5, nf5⟩ := HN5.out 5 _ rfl
     obtain ⟨n6, nf6⟩ := HN5.out 6 _ rfl
     obtain ⟨n7, nf7⟩ := HN5.out 7 _ rfl
     obtain ⟨n8, nf8⟩ := HN5.out 8 _ rfl
     have HQ := Lib.hid (((((((((HN5.out.set 0 (.int .i64 id)).set 1 (.int .i64 3)).set 2 (.string ⟨key.toArray⟩)).set 3 (.string ⟨item.toArray⟩)).set 4 (.int .i64 0)).set 5 (.int .u64 0)).set 6 (.slice none 0 0)).set 7 (.slice none 0 0)).set 8 (.slice none 0 0))
     have r0 := (HQ.out 0 _ rfl).1
     have r1 := (HQ.out 1 _ rfl).1
     have r2 := (HQ.out 2 _ rfl).1
     have r3 := (HQ.out 3 _ rfl).1
     have r4 := (HQ.out 4 _ rfl).1
     have r5 := (HQ.out 5 _ rfl).1
     have r6 := (HQ.out 6 _ rfl).1
     have r7 := (HQ.out 7 _ rfl).1
     have r8 := (HQ.out 8 _ rfl).1
     have HWF := Lib.hid (((((((((HW5.out.setCell (p := ⟨w.heap.size + 1, 0, none⟩) (Nat.le_succ _) (.int .i64 id)).setCell (p := ⟨w.heap.size + 1, 1, none⟩) (Nat.le_succ _) (.int .i64 3)).setCell (p := ⟨w.heap.size + 1, 2, none⟩) (Nat.le_succ _) (.string ⟨key.toArray⟩)).setCell (p := ⟨w.heap.size + 1, 3, none⟩) (Nat.le_succ _) (.string ⟨item.toArray⟩)).setCell (p := ⟨w.heap.size + 1, 4, none⟩) (Nat.le_succ _) (.int .i64 0)).setCell (p := ⟨w.heap.size + 1, 5, none⟩) (Nat.le_succ _) (.int .u64 0)).setCell (p := ⟨w.heap.size + 1, 6, none⟩) (Nat.le_succ _) (.slice none 0 0)).setCell (p := ⟨w.heap.size + 1, 7, none⟩) (Nat.le_succ _) (.slice none 0 0)).setCell (p := ⟨w.heap.size + 1, 8, none⟩) (Nat.le_succ _) (.slice none 0 0))
     go_wp2_with fail
     refine bodyPost_ret (v := .tuple #[.agg #[.int .i64 id, .int .i64 3, .string ⟨key.toArray⟩, .string ⟨item.toArray⟩, .int .i64 0, .int .u64 0, .slice none 0 0, .slice none 0 0, .slice none 0 0], .int .i64 0]) (by simp [results, Tryz.results18, go_sem, r0, r1, r2, r3, r4, r5, r6, r7, r8]; try rfl) rfl ?_
     exact ⟨HWF.out, .inl ⟨_, _, HV.out, rfl, _, _, _, rfl, OwnS.nil _ _, OwnS.nil _ _, OwnS.nil _ _⟩⟩
    ·have hse : q.b.isEmpty = false := str_nonempty hbe
     have HV := Lib.hid (HR2.out.trans (show _ = Except.error 400 by unfold bodyL; rw [if_pos (by simp), if_pos hbe]))
     clear hbe
     go_upto_region 24 with fail
     clear d1 x3
     obtain ⟨n0, nf0⟩ := HN5.out 0 _ rfl
     obtain ⟨n1, nf1⟩ := HN5.out 1 _ rfl
     obtain ⟨n2, nf2⟩ := HN5.out 2 _ rfl
     obtain ⟨n3, nf3⟩ := HN5.out 3 _ rfl
     obtain ⟨n4, nf4⟩ := HN5.out 4 _ rfl
     obtain ⟨n5, nf5⟩ := HN5.out 5 _ rfl
     obtain ⟨n6, nf6⟩ := HN5.out 6 _ rfl
     obtain ⟨n7, nf7⟩ := HN5.out 7 _ rfl
     obtain ⟨n8, nf8⟩ := HN5.out 8 _ rfl
     have HQ := Lib.hid (((((((((HN5.out.set 0 (.int .i64 0)).set 1 (.int .i64 0)).set 2 (.string ⟨#[]⟩)).set 3 (.string ⟨#[]⟩)).set 4 (.int .i64 0)).set 5 (.int .u64 0)).set 6 (.slice none 0 0)).set 7 (.slice none 0 0)).set 8 (.slice none 0 0))
     have r0 := (HQ.out 0 _ rfl).1
     have r1 := (HQ.out 1 _ rfl).1
     have r2 := (HQ.out 2 _ rfl).1
     have r3 := (HQ.out 3 _ rfl).1
     have r4 := (HQ.out 4 _ rfl).1
     have r5 := (HQ.out 5 _ rfl).1
     have r6 := (HQ.out 6 _ rfl).1
     have r7 := (HQ.out 7 _ rfl).1
     have r8 := (HQ.out 8 _ rfl).1
     have HWF := Lib.hid (((((((((HW5.out.setCell (p := ⟨w.heap.size + 1, 0, none⟩) (Nat.le_succ _) (.int .i64 0)).setCell (p := ⟨w.heap.size + 1, 1, none⟩) (Nat.le_succ _) (.int .i64 0)).setCell (p := ⟨w.heap.size + 1, 2, none⟩) (Nat.le_succ _) (.string ⟨#[]⟩)).setCell (p := ⟨w.heap.size + 1, 3, none⟩) (Nat.le_succ _) (.string ⟨#[]⟩)).setCell (p := ⟨w.heap.size + 1, 4, none⟩) (Nat.le_succ _) (.int .i64 0)).setCell (p := ⟨w.heap.size + 1, 5, none⟩) (Nat.le_succ _) (.int .u64 0)).setCell (p := ⟨w.heap.size + 1, 6, none⟩) (Nat.le_succ _) (.slice none 0 0)).setCell (p := ⟨w.heap.size + 1, 7, none⟩) (Nat.le_succ _) (.slice none 0 0)).setCell (p := ⟨w.heap.size + 1, 8, none⟩) (Nat.le_succ _) (.slice none 0 0))
     go_wp2_with fail
     refine bodyPost_ret (v := .tuple #[.agg #[.int .i64 0, .int .i64 0, .string ⟨#[]⟩, .string ⟨#[]⟩, .int .i64 0, .int .u64 0, .slice none 0 0, .slice none 0 0, .slice none 0 0], .int .i64 400]) (by simp [results, Tryz.results18, go_sem, r0, r1, r2, r3, r4, r5, r6, r7, r8]; try rfl) rfl ?_
     exact ⟨HWF.out, .inr ⟨400, HV.out, rfl⟩⟩
   | some s =>
    have hsl : s.length ≤ 1048576 := by
     obtain ⟨x, hx, e⟩ := find_mem hF
     rw [← e]; exact (HZ.out.2.2 x hx).2
    have hrd := readD_any s hsl w5
    have HSE : Hid (seenL (H.findL q.hs tokenH) = tokenR s) := Lib.hid (by rw [hF]; rfl)
    clear hF hsl
    dsimp only [H.findV, Option.isSome, Option.getD]
    go_upto_region 18 with fail
    go_wp2_with fail
    go_at_call 50
    refine hrd.mono ?_
    clear hrd
    rintro e w6 ⟨hb, ⟨k, v, hX, rfl, hC⟩ | ⟨⟨x, hX⟩, rfl⟩⟩
    ·obtain ⟨ev, mv, cv, rfl, he, hm, hc⟩ := hC
     obtain ⟨E1, a1, rfl⟩ := he.form
     obtain ⟨M1, b1, rfl⟩ := hm.form
     obtain ⟨D1, dd1, rfl⟩ := hc.form
     have HSN := Lib.hid (HSE.out.trans hX)
     have HW6 := Lib.hid (HW5.out.trans (hb.mono HW5.out.size))
     have HN6 := Lib.hid (HN5.out.below hb (Nat.lt_trans HS1.out HS5.out))
     have HA6 := Lib.hid (HA5.out.below hb (Nat.lt_trans (Nat.lt_of_succ_lt HS1.out) HS5.out))
     have HD6 := Lib.hid (HD5.out.below hb HS5.out)
     have HSN5 : Hid (w.heap.size + 1 < w5.heap.size) := Lib.hid (Nat.lt_trans HS1.out HS5.out)
     have HBW5 : Hid (w.heap.size ≤ w5.heap.size) := Lib.hid HW5.out.size
     obtain ⟨w6b, hw6⟩ : ∃ y, w6.alloc (.cells #[.slice E1 k.es.length a1, .slice M1 k.x.ms.length b1, .slice D1 k.x.cl.length dd1] 32) = y := ⟨_, rfl⟩
     have HL6 : Hid (Below w6.heap.size w6 w6b) := Lib.hid (by rw [← hw6]; exact (Below.refl _ _).alloc (Nat.le_refl _) _)
     have HK6 : Hid (Bk w6b w6.heap.size [.slice E1 k.es.length a1, .slice M1 k.x.ms.length b1, .slice D1 k.x.cl.length dd1]) := Lib.hid (by rw [← hw6]; exact Bk.new w6 _ 32 rfl)
     have HS6 : Hid (w1.heap.size < w6.heap.size) := Lib.hid (Nat.lt_of_lt_of_le HS5.out hb.size)
     have HE6 := Lib.hid (he.below HL6.out (Nat.le_refl _))
     have HM6 := Lib.hid (hm.below HL6.out (Nat.le_refl _))
     have HC6 := Lib.hid (hc.below HL6.out (Nat.le_refl _))
     have HW6b := Lib.hid (HW6.out.trans (HL6.out.mono HW6.out.size))
     have HN6b := Lib.hid (HN6.out.below HL6.out (Nat.lt_trans HS1.out HS6.out))
     have HA6b := Lib.hid (HA6.out.below HL6.out (Nat.lt_trans (Nat.lt_of_succ_lt HS1.out) HS6.out))
     have HD6b := Lib.hid (HD6.out.below HL6.out HS6.out)
     clear he hm hc hb hX
     go_upto_region 21 with fail
     clear hw6
     have k0 := (HK6.out 0 _ rfl).1
     have k1 := (HK6.out 1 _ rfl).1
     have k2 := (HK6.out 2 _ rfl).1
     obtain ⟨d6, df6⟩ := HD6b.out 6 _ rfl
     obtain ⟨d7, df7⟩ := HD6b.out 7 _ rfl
     obtain ⟨d8, df8⟩ := HD6b.out 8 _ rfl
     obtain ⟨w7, hw7⟩ : ∃ y, ((w6b.setCell ⟨w1.heap.size, 6, none⟩ (.slice E1 k.es.length a1)).setCell ⟨w1.heap.size, 7, none⟩ (.slice M1 k.x.ms.length b1)).setCell ⟨w1.heap.size, 8, none⟩ (.slice D1 k.x.cl.length dd1) = y := ⟨_, rfl⟩
     have HD7 : Hid (Bk w7 w1.heap.size [.int .i64 id, .int .i64 3, .string ⟨key.toArray⟩, .string ⟨item.toArray⟩, .int .i64 0, .int .u64 0, .slice E1 k.es.length a1, .slice M1 k.x.ms.length b1, .slice D1 k.x.cl.length dd1]) := Lib.hid (by rw [← hw7]; exact ((HD6b.out.set 6 (.slice E1 k.es.length a1)).set 7 (.slice M1 k.x.ms.length b1)).set 8 (.slice D1 k.x.cl.length dd1))
     have HN7 := Lib.hid (((HN6b.out.other (p := ⟨w1.heap.size, 6, none⟩) HDN.out (.slice E1 k.es.length a1)).other (p := ⟨w1.heap.size, 7, none⟩) HDN.out (.slice M1 k.x.ms.length b1)).other (p := ⟨w1.heap.size, 8, none⟩) HDN.out (.slice D1 k.x.cl.length dd1))
     have HA7 := Lib.hid (((HA6b.out.other (p := ⟨w1.heap.size, 6, none⟩) HDA.out (.slice E1 k.es.length a1)).other (p := ⟨w1.heap.size, 7, none⟩) HDA.out (.slice M1 k.x.ms.length b1)).other (p := ⟨w1.heap.size, 8, none⟩) HDA.out (.slice D1 k.x.cl.length dd1))
     have HW7 := Lib.hid (((HW6b.out.setCell (p := ⟨w1.heap.size, 6, none⟩) HDW.out (.slice E1 k.es.length a1)).setCell (p := ⟨w1.heap.size, 7, none⟩) HDW.out (.slice M1 k.x.ms.length b1)).setCell (p := ⟨w1.heap.size, 8, none⟩) HDW.out (.slice D1 k.x.cl.length dd1))
     have HE7 := Lib.hid (((HE6.out.setCell (p := ⟨w1.heap.size, 6, none⟩) HS5.out (.slice E1 k.es.length a1)).setCell (p := ⟨w1.heap.size, 7, none⟩) HS5.out (.slice M1 k.x.ms.length b1)).setCell (p := ⟨w1.heap.size, 8, none⟩) HS5.out (.slice D1 k.x.cl.length dd1))
     have HM7 := Lib.hid (((HM6.out.setCell (p := ⟨w1.heap.size, 6, none⟩) HS5.out (.slice E1 k.es.length a1)).setCell (p := ⟨w1.heap.size, 7, none⟩) HS5.out (.slice M1 k.x.ms.length b1)).setCell (p := ⟨w1.heap.size, 8, none⟩) HS5.out (.slice D1 k.x.cl.length dd1))
     have HC7 := Lib.hid (((HC6.out.setCell (p := ⟨w1.heap.size, 6, none⟩) HS5.out (.slice E1 k.es.length a1)).setCell (p := ⟨w1.heap.size, 7, none⟩) HS5.out (.slice M1 k.x.ms.length b1)).setCell (p := ⟨w1.heap.size, 8, none⟩) HS5.out (.slice D1 k.x.cl.length dd1))
     rw [hw7] at HN7 HA7 HW7 HE7 HM7 HC7
     have HS7 : Hid (w1.heap.size < w7.heap.size) := Lib.hid (HD7.out.lt)
     go_upto_region 22 with fail
     clear hw7 k0 k1 k2 d6 d7 d8 df6 df7 df8
     have HR2 : Hid (routeL q.m q.p (H.findL q.hs tokenH) q.b id = bodyL ⟨id, 3, key, item, 0, 0, k⟩ q.b) := Lib.hid (by rw [HR1.out, HSN.out])
     have d1 := (HD7.out 1 _ rfl).1
     have x3 := (HA7.out 3 _ rfl).1
     by_cases hbe : q.b = []
     ·rw [hbe] at x3
      have HV := Lib.hid (HR2.out.trans (show _ = Except.ok _ by rw [hbe]; unfold bodyL; rw [if_pos (by simp), if_neg (by simp)]))
      clear hbe
      go_upto_region 25 with fail
      clear d1 x3
      have d0 := (HD7.out 0 _ rfl).1
      have d1 := (HD7.out 1 _ rfl).1
      have d2 := (HD7.out 2 _ rfl).1
      have d3 := (HD7.out 3 _ rfl).1
      have d4 := (HD7.out 4 _ rfl).1
      have d5 := (HD7.out 5 _ rfl).1
      have d6 := (HD7.out 6 _ rfl).1
      have d7 := (HD7.out 7 _ rfl).1
      have d8 := (HD7.out 8 _ rfl).1
      obtain ⟨n0, nf0⟩ := HN7.out 0 _ rfl
      obtain ⟨n1, nf1⟩ := HN7.out 1 _ rfl
      obtain ⟨n2, nf2⟩ := HN7.out 2 _ rfl
      obtain ⟨n3, nf3⟩ := HN7.out 3 _ rfl
      obtain ⟨n4, nf4⟩ := HN7.out 4 _ rfl
      obtain ⟨n5, nf5⟩ := HN7.out 5 _ rfl
      obtain ⟨n6, nf6⟩ := HN7.out 6 _ rfl
      obtain ⟨n7, nf7⟩ := HN7.out 7 _ rfl
      obtain ⟨n8, nf8⟩ := HN7.out 8 _ rfl
      have HQ := Lib.hid (((((((((HN7.out.set 0 (.int .i64 id)).set 1 (.int .i64 3)).set 2 (.string ⟨key.toArray⟩)).set 3 (.string ⟨item.toArray⟩)).set 4 (.int .i64 0)).set 5 (.int .u64 0)).set 6 (.slice E1 k.es.length a1)).set 7 (.slice M1 k.x.ms.length b1)).set 8 (.slice D1 k.x.cl.length dd1))
      have r0 := (HQ.out 0 _ rfl).1
      have r1 := (HQ.out 1 _ rfl).1
      have r2 := (HQ.out 2 _ rfl).1
      have r3 := (HQ.out 3 _ rfl).1
      have r4 := (HQ.out 4 _ rfl).1
      have r5 := (HQ.out 5 _ rfl).1
      have r6 := (HQ.out 6 _ rfl).1
      have r7 := (HQ.out 7 _ rfl).1
      have r8 := (HQ.out 8 _ rfl).1
      have HWF := Lib.hid (((((((((HW7.out.setCell (p := ⟨w.heap.size + 1, 0, none⟩) (Nat.le_succ _) (.int .i64 id)).setCell (p := ⟨w.heap.size + 1, 1, none⟩) (Nat.le_succ _) (.int .i64 3)).setCell (p := ⟨w.heap.size + 1, 2, none⟩) (Nat.le_succ _) (.string ⟨key.toArray⟩)).setCell (p := ⟨w.heap.size + 1, 3, none⟩) (Nat.le_succ _) (.string ⟨item.toArray⟩)).setCell (p := ⟨w.heap.size + 1, 4, none⟩) (Nat.le_succ _) (.int .i64 0)).setCell (p := ⟨w.heap.size + 1, 5, none⟩) (Nat.le_succ _) (.int .u64 0)).setCell (p := ⟨w.heap.size + 1, 6, none⟩) (Nat.le_succ _) (.slice E1 k.es.length a1)).setCell (p := ⟨w.heap.size + 1, 7, none⟩) (Nat.le_succ _) (.slice M1 k.x.ms.length b1)).setCell (p := ⟨w.heap.size + 1, 8, none⟩) (Nat.le_succ _) (.slice D1 k.x.cl.length dd1))
      have HOE := Lib.hid ((((((((((HE7.out.setCell (p := ⟨w.heap.size + 1, 0, none⟩) HSN5.out (.int .i64 id)).setCell (p := ⟨w.heap.size + 1, 1, none⟩) HSN5.out (.int .i64 3)).setCell (p := ⟨w.heap.size + 1, 2, none⟩) HSN5.out (.string ⟨key.toArray⟩)).setCell (p := ⟨w.heap.size + 1, 3, none⟩) HSN5.out (.string ⟨item.toArray⟩)).setCell (p := ⟨w.heap.size + 1, 4, none⟩) HSN5.out (.int .i64 0)).setCell (p := ⟨w.heap.size + 1, 5, none⟩) HSN5.out (.int .u64 0)).setCell (p := ⟨w.heap.size + 1, 6, none⟩) HSN5.out (.slice E1 k.es.length a1)).setCell (p := ⟨w.heap.size + 1, 7, none⟩) HSN5.out (.slice M1 k.x.ms.length b1)).setCell (p := ⟨w.heap.size + 1, 8, none⟩) HSN5.out (.slice D1 k.x.cl.length dd1)).base HBW5.out)
      have HOM := Lib.hid ((((((((((HM7.out.setCell (p := ⟨w.heap.size + 1, 0, none⟩) HSN5.out (.int .i64 id)).setCell (p := ⟨w.heap.size + 1, 1, none⟩) HSN5.out (.int .i64 3)).setCell (p := ⟨w.heap.size + 1, 2, none⟩) HSN5.out (.string ⟨key.toArray⟩)).setCell (p := ⟨w.heap.size + 1, 3, none⟩) HSN5.out (.string ⟨item.toArray⟩)).setCell (p := ⟨w.heap.size + 1, 4, none⟩) HSN5.out (.int .i64 0)).setCell (p := ⟨w.heap.size + 1, 5, none⟩) HSN5.out (.int .u64 0)).setCell (p := ⟨w.heap.size + 1, 6, none⟩) HSN5.out (.slice E1 k.es.length a1)).setCell (p := ⟨w.heap.size + 1, 7, none⟩) HSN5.out (.slice M1 k.x.ms.length b1)).setCell (p := ⟨w.heap.size + 1, 8, none⟩) HSN5.out (.slice D1 k.x.cl.length dd1)).base HBW5.out)
      have HOC := Lib.hid ((((((((((HC7.out.setCell (p := ⟨w.heap.size + 1, 0, none⟩) HSN5.out (.int .i64 id)).setCell (p := ⟨w.heap.size + 1, 1, none⟩) HSN5.out (.int .i64 3)).setCell (p := ⟨w.heap.size + 1, 2, none⟩) HSN5.out (.string ⟨key.toArray⟩)).setCell (p := ⟨w.heap.size + 1, 3, none⟩) HSN5.out (.string ⟨item.toArray⟩)).setCell (p := ⟨w.heap.size + 1, 4, none⟩) HSN5.out (.int .i64 0)).setCell (p := ⟨w.heap.size + 1, 5, none⟩) HSN5.out (.int .u64 0)).setCell (p := ⟨w.heap.size + 1, 6, none⟩) HSN5.out (.slice E1 k.es.length a1)).setCell (p := ⟨w.heap.size + 1, 7, none⟩) HSN5.out (.slice M1 k.x.ms.length b1)).setCell (p := ⟨w.heap.size + 1, 8, none⟩) HSN5.out (.slice D1 k.x.cl.length dd1)).base HBW5.out)
      go_wp2_with fail
      refine bodyPost_ret (v := .tuple #[.agg #[.int .i64 id, .int .i64 3, .string ⟨key.toArray⟩, .string ⟨item.toArray⟩, .int .i64 0, .int .u64 0, .slice E1 k.es.length a1, .slice M1 k.x.ms.length b1, .slice D1 k.x.cl.length dd1], .int .i64 0]) (by simp [results, Tryz.results18, go_sem, r0, r1, r2, r3, r4, r5, r6, r7, r8]; try rfl) rfl ?_
      exact ⟨HWF.out, .inl ⟨_, _, HV.out, rfl, _, _, _, rfl, HOE.out, HOM.out, HOC.out⟩⟩
     ·have hse : q.b.isEmpty = false := str_nonempty hbe
      have HV := Lib.hid (HR2.out.trans (show _ = Except.error 400 by unfold bodyL; rw [if_pos (by simp), if_pos hbe]))
      clear hbe
      go_upto_region 24 with fail
      clear d1 x3
      obtain ⟨n0, nf0⟩ := HN7.out 0 _ rfl
      obtain ⟨n1, nf1⟩ := HN7.out 1 _ rfl
      obtain ⟨n2, nf2⟩ := HN7.out 2 _ rfl
      obtain ⟨n3, nf3⟩ := HN7.out 3 _ rfl
      obtain ⟨n4, nf4⟩ := HN7.out 4 _ rfl
      obtain ⟨n5, nf5⟩ := HN7.out 5 _ rfl
      obtain ⟨n6, nf6⟩ := HN7.out 6 _ rfl
      obtain ⟨n7, nf7⟩ := HN7.out 7 _ rfl
      obtain ⟨n8, nf8⟩ := HN7.out 8 _ rfl
      have HQ := Lib.hid (((((((((HN7.out.set 0 (.int .i64 0)).set 1 (.int .i64 0)).set 2 (.string ⟨#[]⟩)).set 3 (.string ⟨#[]⟩)).set 4 (.int .i64 0)).set 5 (.int .u64 0)).set 6 (.slice none 0 0)).set 7 (.slice none 0 0)).set 8 (.slice none 0 0))
      have r0 := (HQ.out 0 _ rfl).1
      have r1 := (HQ.out 1 _ rfl).1
      have r2 := (HQ.out 2 _ rfl).1
      have r3 := (HQ.out 3 _ rfl).1
      have r4 := (HQ.out 4 _ rfl).1
      have r5 := (HQ.out 5 _ rfl).1
      have r6 := (HQ.out 6 _ rfl).1
      have r7 := (HQ.out 7 _ rfl).1
      have r8 := (HQ.out 8 _ rfl).1
      have HWF := Lib.hid (((((((((HW7.out.setCell (p := ⟨w.heap.size + 1, 0, none⟩) (Nat.le_succ _) (.int .i64 0)).setCell (p := ⟨w.heap.size + 1, 1, none⟩) (Nat.le_succ _) (.int .i64 0)).setCell (p := ⟨w.heap.size + 1, 2, none⟩) (Nat.le_succ _) (.string ⟨#[]⟩)).setCell (p := ⟨w.heap.size + 1, 3, none⟩) (Nat.le_succ _) (.string ⟨#[]⟩)).setCell (p := ⟨w.heap.size + 1, 4, none⟩) (Nat.le_succ _) (.int .i64 0)).setCell (p := ⟨w.heap.size + 1, 5, none⟩) (Nat.le_succ _) (.int .u64 0)).setCell (p := ⟨w.heap.size + 1, 6, none⟩) (Nat.le_succ _) (.slice none 0 0)).setCell (p := ⟨w.heap.size + 1, 7, none⟩) (Nat.le_succ _) (.slice none 0 0)).setCell (p := ⟨w.heap.size + 1, 8, none⟩) (Nat.le_succ _) (.slice none 0 0))
      go_wp2_with fail
      refine bodyPost_ret (v := .tuple #[.agg #[.int .i64 0, .int .i64 0, .string ⟨#[]⟩, .string ⟨#[]⟩, .int .i64 0, .int .u64 0, .slice none 0 0, .slice none 0 0, .slice none 0 0], .int .i64 400]) (by simp [results, Tryz.results18, go_sem, r0, r1, r2, r3, r4, r5, r6, r7, r8]; try rfl) rfl ?_
      exact ⟨HWF.out, .inr ⟨400, HV.out, rfl⟩⟩
    ·have HV : Hid (routeL q.m q.p (H.findL q.hs tokenH) q.b id = .error 400) := Lib.hid (by rw [HR1.out, HSE.out, hX])
     have HW6 := Lib.hid (HW5.out.trans (hb.mono HW5.out.size))
     have HN6 := Lib.hid (HN5.out.below hb (Nat.lt_trans HS1.out HS5.out))
     have HS6 : Hid (w.heap.size + 1 < w6.heap.size) := Lib.hid (Nat.lt_of_lt_of_le (Nat.lt_trans HS1.out HS5.out) hb.size)
     obtain ⟨w7, hw7⟩ : ∃ y, w6.alloc (.cells #[.slice none 0 0, .slice none 0 0, .slice none 0 0] 32) = y := ⟨_, rfl⟩
     have HW7 : Hid (Below w.heap.size w w7) := Lib.hid (by rw [← hw7]; exact HW6.out.alloc HW6.out.size _)
     have HN7 : Hid (Bk w7 (w.heap.size + 1) [.int .i64 0, .int .i64 0, .string ⟨#[]⟩, .string ⟨#[]⟩, .int .i64 0, .int .u64 0, .slice none 0 0, .slice none 0 0, .slice none 0 0]) := Lib.hid (by rw [← hw7]; exact HN6.out.alloc _ HS6.out)
     have HE7 := Lib.hid hw7
     clear hw7 hb hX
     go_upto_region 19 with fail
     rw [HE7.out]
     clear HE7
     obtain ⟨n0, nf0⟩ := HN7.out 0 _ rfl
     obtain ⟨n1, nf1⟩ := HN7.out 1 _ rfl
     obtain ⟨n2, nf2⟩ := HN7.out 2 _ rfl
     obtain ⟨n3, nf3⟩ := HN7.out 3 _ rfl
     obtain ⟨n4, nf4⟩ := HN7.out 4 _ rfl
     obtain ⟨n5, nf5⟩ := HN7.out 5 _ rfl
     obtain ⟨n6, nf6⟩ := HN7.out 6 _ rfl
     obtain ⟨n7, nf7⟩ := HN7.out 7 _ rfl
     obtain ⟨n8, nf8⟩ := HN7.out 8 _ rfl
     have HQ := Lib.hid (((((((((HN7.out.set 0 (.int .i64 0)).set 1 (.int .i64 0)).set 2 (.string ⟨#[]⟩)).set 3 (.string ⟨#[]⟩)).set 4 (.int .i64 0)).set 5 (.int .u64 0)).set 6 (.slice none 0 0)).set 7 (.slice none 0 0)).set 8 (.slice none 0 0))
     have r0 := (HQ.out 0 _ rfl).1
     have r1 := (HQ.out 1 _ rfl).1
     have r2 := (HQ.out 2 _ rfl).1
     have r3 := (HQ.out 3 _ rfl).1
     have r4 := (HQ.out 4 _ rfl).1
     have r5 := (HQ.out 5 _ rfl).1
     have r6 := (HQ.out 6 _ rfl).1
     have r7 := (HQ.out 7 _ rfl).1
     have r8 := (HQ.out 8 _ rfl).1
     have HWF := Lib.hid (((((((((HW7.out.setCell (p := ⟨w.heap.size + 1, 0, none⟩) (Nat.le_succ _) (.int .i64 0)).setCell (p := ⟨w.heap.size + 1, 1, none⟩) (Nat.le_succ _) (.int .i64 0)).setCell (p := ⟨w.heap.size + 1, 2, none⟩) (Nat.le_succ _) (.string ⟨#[]⟩)).setCell (p := ⟨w.heap.size + 1, 3, none⟩) (Nat.le_succ _) (.string ⟨#[]⟩)).setCell (p := ⟨w.heap.size + 1, 4, none⟩) (Nat.le_succ _) (.int .i64 0)).setCell (p := ⟨w.heap.size + 1, 5, none⟩) (Nat.le_succ _) (.int .u64 0)).setCell (p := ⟨w.heap.size + 1, 6, none⟩) (Nat.le_succ _) (.slice none 0 0)).setCell (p := ⟨w.heap.size + 1, 7, none⟩) (Nat.le_succ _) (.slice none 0 0)).setCell (p := ⟨w.heap.size + 1, 8, none⟩) (Nat.le_succ _) (.slice none 0 0))
     go_wp2_with fail
     refine bodyPost_ret (v := .tuple #[.agg #[.int .i64 0, .int .i64 0, .string ⟨#[]⟩, .string ⟨#[]⟩, .int .i64 0, .int .u64 0, .slice none 0 0, .slice none 0 0, .slice none 0 0], .int .i64 400]) (by simp [results, Tryz.results18, go_sem, r0, r1, r2, r3, r4, r5, r6, r7, r8]; try rfl) rfl ?_
     exact ⟨HWF.out, .inr ⟨400, HV.out, rfl⟩⟩
/-- The document's Route, of any request. -/
theorem RouteD_any (q : Rq) (h : Value) (id : Int) (w : World) (hd : H.Hdrs w h q.hs) (hz : Small q) : Calls Tryz.prog 18 #[rqV q h, .int .i64 id] w (RteR (routeL q.m q.p (H.findL q.hs tokenH) q.b id) w) := by
 obtain ⟨ls, hls⟩ : ∃ ls, partsL 47 q.p = ls := ⟨_, rfl⟩
 by_cases h1 : ls.length < 3
 ·exact route_short q h id w hd hz ls hls h1
 by_cases h2 : 4 < ls.length
 ·exact route_long q h id w hd hz ls hls h2
 have h3 : ls.length = 3 ∨ ls.length = 4 := by omega
 match ls, h3, hls with
 | [a, b, k], _, hls =>
  by_cases h4 : a = []
  case neg => exact route_head3 q h id w hd hz a b k hls h4
  by_cases h5 : b = cartT
  case neg => exact route_cart3 q h id w hd hz a b k hls h4 h5
  subst h4 h5
  by_cases hm : q.m = getT
  ·exact route_get q h id w hd hz k hls hm
  ·exact route_getno q h id w hd hz k hls hm
 | [a, b, k, i], _, hls =>
  by_cases h4 : a = []
  case neg => exact route_head4 q h id w hd hz a b k i hls h4
  by_cases h5 : b = cartT
  case neg => exact route_cart4 q h id w hd hz a b k i hls h4 h5
  subst h4 h5
  by_cases hm : q.m = putT
  ·exact route_put q h id w hd hz k i hls hm
  ·by_cases hm2 : q.m = delT
   ·exact route_del q h id w hd hz k i hls hm2
   ·exact route_other q h id w hd hz k i hls hm hm2
end Go.Proofs.YtpdedfpacklnoaaGreatDoor
