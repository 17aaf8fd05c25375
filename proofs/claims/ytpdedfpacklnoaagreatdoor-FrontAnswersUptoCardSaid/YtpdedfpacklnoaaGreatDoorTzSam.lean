/- Contracts of slices.Equal, SameContext, SameCart, sameAsk at one and the same: they say yes. -/
import Derived.Test.YtpdedfpacklnoaaGreatDoorTzMR
import Derived.Test.YtpdedfpacklnoaaGreatDoorTzMB
import Derived.Test.YtpdedfpacklnoaaGreatDoorTzFbP
set_option maxRecDepth 100000
namespace Go.Proofs.YtpdedfpacklnoaaGreatDoor
open Go.RowKit Go.BL Go.Ct Go.Sl

set_option maxHeartbeats 4000000 in
theorem sameE_any (a : List En) (v u : Value) (w : World) (hv : Sl 6 entC w v a) (hu : Sl 6 entC w u a) : Calls Tryz.prog 74 #[v, u] w (RetV (.bool true) w) := by
 obtain ⟨A, ca, rfl⟩ := hv.form
 obtain ⟨D, cd, rfl⟩ := hu.form
 have hmax := hv.1
 have HA := Lib.hid hv
 have HD := Lib.hid hu
 clear hv hu
 go_enter Tryz.func74, Tryz.ntmps74
 go_wp2_with fail
 go_loopw [13] (fun i wr => ∃ k N : Nat, k ≤ a.length ∧ i = .int .i64 (k : Int) ∧ wr = w.drewN N) (fun i _ => a.length - (intOf i).toNat)
 case atStart => exact ⟨0, 0, by omega, rfl, rfl⟩
 case round =>
  obtain ⟨k, N, hk, rfl, rfl⟩ := hrel
  by_cases hlt : k < a.length
  ·obtain ⟨b1, o1, rfl, _, hc1⟩ := ent_cells HA.out (by omega)
   obtain ⟨b2, o2, rfl, _, hc2⟩ := ent_cells HD.out (by omega)
   obtain ⟨x0, x1, x2, x3, x4, x5⟩ := hc1 k hlt
   obtain ⟨y0, y1, y2, y3, y4, y5⟩ := hc2 k hlt
   have hlt2 : (k : Int) < (a.length : Int) := by omega
   obtain ⟨z, hz⟩ : ∃ z, a[k] = z := ⟨_, rfl⟩
   rw [hz] at x0 x1 x2 x3 x4 x5 y0 y1 y2 y3 y4 y5
   obtain ⟨it, ⟨dn, dl, dc⟩, q, p⟩ := z
   dsimp only at x0 x1 x2 x3 x4 x5 y0 y1 y2 y3 y4 y5
   clear hc1 hc2 hz
   go_wp2_with fail
   go_quiet (fail)
   go_wp2_with fail
   exact ⟨⟨k + 1, _, by omega, by go_num, rfl⟩, by simp [intOf]; omega⟩
  ·go_wp2_with fail
   go_ret
   exact ⟨rfl, H.below_drewN (Below.refl _ _) _⟩
set_option maxHeartbeats 4000000 in
theorem sameM_any (a : List Dt) (v u : Value) (w : World) (hv : Sl 3 dotC w v a) (hu : Sl 3 dotC w u a) : Calls Tryz.prog 126 #[v, u] w (RetV (.bool true) w) := by
 obtain ⟨A, ca, rfl⟩ := hv.form
 obtain ⟨D, cd, rfl⟩ := hu.form
 have hmax := hv.1
 have HA := Lib.hid hv
 have HD := Lib.hid hu
 clear hv hu
 go_enter Tryz.func126, Tryz.ntmps126
 go_wp2_with fail
 go_loopw [13] (fun i wr => ∃ k N : Nat, k ≤ a.length ∧ i = .int .i64 (k : Int) ∧ wr = w.drewN N) (fun i _ => a.length - (intOf i).toNat)
 case atStart => exact ⟨0, 0, by omega, rfl, rfl⟩
 case round =>
  obtain ⟨k, N, hk, rfl, rfl⟩ := hrel
  by_cases hlt : k < a.length
  ·obtain ⟨b1, o1, rfl, _, hc1⟩ := dot_cells HA.out (by omega)
   obtain ⟨b2, o2, rfl, _, hc2⟩ := dot_cells HD.out (by omega)
   obtain ⟨x0, x1, x2⟩ := hc1 k hlt
   obtain ⟨y0, y1, y2⟩ := hc2 k hlt
   have hlt2 : (k : Int) < (a.length : Int) := by omega
   obtain ⟨z, hz⟩ : ∃ z, a[k] = z := ⟨_, rfl⟩
   rw [hz] at x0 x1 x2 y0 y1 y2
   obtain ⟨dn, dl, dc⟩ := z
   dsimp only at x0 x1 x2 y0 y1 y2
   clear hc1 hc2 hz
   go_wp2_with fail
   go_quiet (fail)
   go_wp2_with fail
   exact ⟨⟨k + 1, _, by omega, by go_num, rfl⟩, by simp [intOf]; omega⟩
  ·go_wp2_with fail
   go_ret
   exact ⟨rfl, H.below_drewN (Below.refl _ _) _⟩
set_option maxHeartbeats 4000000 in
theorem sameD_any (a : List Dt) (v u : Value) (w : World) (hv : Sl 3 dotC w v a) (hu : Sl 3 dotC w u a) : Calls Tryz.prog 127 #[v, u] w (RetV (.bool true) w) := by
 obtain ⟨A, ca, rfl⟩ := hv.form
 obtain ⟨D, cd, rfl⟩ := hu.form
 have hmax := hv.1
 have HA := Lib.hid hv
 have HD := Lib.hid hu
 clear hv hu
 go_enter Tryz.func127, Tryz.ntmps127
 go_wp2_with fail
 go_loopw [13] (fun i wr => ∃ k N : Nat, k ≤ a.length ∧ i = .int .i64 (k : Int) ∧ wr = w.drewN N) (fun i _ => a.length - (intOf i).toNat)
 case atStart => exact ⟨0, 0, by omega, rfl, rfl⟩
 case round =>
  obtain ⟨k, N, hk, rfl, rfl⟩ := hrel
  by_cases hlt : k < a.length
  ·obtain ⟨b1, o1, rfl, _, hc1⟩ := dot_cells HA.out (by omega)
   obtain ⟨b2, o2, rfl, _, hc2⟩ := dot_cells HD.out (by omega)
   obtain ⟨x0, x1, x2⟩ := hc1 k hlt
   obtain ⟨y0, y1, y2⟩ := hc2 k hlt
   have hlt2 : (k : Int) < (a.length : Int) := by omega
   obtain ⟨z, hz⟩ : ∃ z, a[k] = z := ⟨_, rfl⟩
   rw [hz] at x0 x1 x2 y0 y1 y2
   obtain ⟨dn, dl, dc⟩ := z
   dsimp only at x0 x1 x2 y0 y1 y2
   clear hc1 hc2 hz
   go_wp2_with fail
   go_quiet (fail)
   go_wp2_with fail
   exact ⟨⟨k + 1, _, by omega, by go_num, rfl⟩, by simp [intOf]; omega⟩
  ·go_wp2_with fail
   go_ret
   exact ⟨rfl, H.below_drewN (Below.refl _ _) _⟩
set_option maxHeartbeats 4000000 in
theorem sameX_any (x : Cx) (A1 A2 A3 A4 : Option Addr) (c1 c2 c3 c4 : Nat) (w : World) (h1 : Dots w (.slice A1 x.ms.length c1) x.ms) (h2 : Dots w (.slice A2 x.cl.length c2) x.cl) (h3 : Dots w (.slice A3 x.ms.length c3) x.ms) (h4 : Dots w (.slice A4 x.cl.length c4) x.cl) :
  Calls Tryz.prog 75 #[.agg #[.slice A1 x.ms.length c1, .slice A2 x.cl.length c2], .agg #[.slice A3 x.ms.length c3, .slice A4 x.cl.length c4]] w (RetV (.bool true) w) := by
 obtain ⟨w0, hw0⟩ : ∃ y, (w.alloc (.cells #[.slice A1 x.ms.length c1, .slice A2 x.cl.length c2] 30)).alloc (.cells #[.slice A3 x.ms.length c3, .slice A4 x.cl.length c4] 30) = y := ⟨_, rfl⟩
 have HB : Hid (Below w.heap.size w w0) := Lib.hid (by rw [← hw0]; exact ((Below.refl _ _).alloc (Nat.le_refl _) _).alloc (by simp) _)
 have HBa : Hid (Bk w0 w.heap.size [.slice A1 x.ms.length c1, .slice A2 x.cl.length c2]) := Lib.hid (by rw [← hw0]; exact (Bk.new w _ 30 rfl).alloc _ (by simp))
 have HBb : Hid (Bk w0 (w.heap.size + 1) [.slice A3 x.ms.length c3, .slice A4 x.cl.length c4]) := Lib.hid (by rw [← hw0]; exact (by simpa using Bk.new (w.alloc (.cells #[.slice A1 x.ms.length c1, .slice A2 x.cl.length c2] 30)) _ 30 rfl))
 have HS : Hid (w.heap.size + 1 < w0.heap.size) := Lib.hid (by rw [← hw0]; simp)
 have hm := sameM_any x.ms _ _ w0 (h1.below HB.out (Nat.le_refl _)) (h3.below HB.out (Nat.le_refl _))
 have H2 := Lib.hid (h2.below HB.out (Nat.le_refl _))
 have H4 := Lib.hid (h4.below HB.out (Nat.le_refl _))
 clear h1 h2 h3 h4
 go_enter Tryz.func75, Tryz.ntmps75
 go_upto_region 1 with fail
 clear hw0
 have a0 := (HBa.out 0 _ rfl).1
 have a1 := (HBa.out 1 _ rfl).1
 have b0 := (HBb.out 0 _ rfl).1
 have b1 := (HBb.out 1 _ rfl).1
 go_wp2_with fail
 go_at_call 126
 refine hm.mono ?_
 clear hm
 rintro e w1 ⟨rfl, hb⟩
 have HB1 := Lib.hid (HB.out.trans (hb.mono HB.out.size))
 have hd := sameD_any x.cl _ _ w1 (H2.out.below hb (Nat.le_refl _)) (H4.out.below hb (Nat.le_refl _))
 have a1' := old_cell hb (by have := HS.out; omega) a1
 have b1' := old_cell hb HS.out b1
 clear hb a0 a1 b0 b1
 go_wp2_with (go_at_call 127; refine hd.mono ?_; clear hd; rintro e w2 ⟨rfl, hb⟩; have HB2 := Lib.hid (HB1.out.trans (hb.mono HB1.out.size)); clear hb)
 go_ret
 exact ⟨rfl, HB2.out⟩
set_option maxHeartbeats 4000000 in
theorem sameK_any (k : Ct) (E1 M1 D1 : Option Addr) (a1 b1 d1 : Nat) (E2 M2 D2 : Option Addr) (a2 b2 d2 : Nat) (w : World) (he1 : Ents w (.slice E1 k.es.length a1) k.es) (hm1 : Dots w (.slice M1 k.x.ms.length b1) k.x.ms) (hd1 : Dots w (.slice D1 k.x.cl.length d1) k.x.cl) (he2 : Ents w (.slice E2 k.es.length a2) k.es) (hm2 : Dots w (.slice M2 k.x.ms.length b2) k.x.ms) (hd2 : Dots w (.slice D2 k.x.cl.length d2) k.x.cl) :
  Calls Tryz.prog 34 #[.agg #[.slice E1 k.es.length a1, .slice M1 k.x.ms.length b1, .slice D1 k.x.cl.length d1], .agg #[.slice E2 k.es.length a2, .slice M2 k.x.ms.length b2, .slice D2 k.x.cl.length d2]] w (RetV (.bool true) w) := by
 obtain ⟨w0, hw0⟩ : ∃ y, (w.alloc (.cells #[.slice E1 k.es.length a1, .slice M1 k.x.ms.length b1, .slice D1 k.x.cl.length d1] 32)).alloc (.cells #[.slice E2 k.es.length a2, .slice M2 k.x.ms.length b2, .slice D2 k.x.cl.length d2] 32) = y := ⟨_, rfl⟩
 have HB : Hid (Below w.heap.size w w0) := Lib.hid (by rw [← hw0]; exact ((Below.refl _ _).alloc (Nat.le_refl _) _).alloc (by simp) _)
 have HBa : Hid (Bk w0 w.heap.size [.slice E1 k.es.length a1, .slice M1 k.x.ms.length b1, .slice D1 k.x.cl.length d1]) := Lib.hid (by rw [← hw0]; exact (Bk.new w _ 32 rfl).alloc _ (by simp))
 have HBb : Hid (Bk w0 (w.heap.size + 1) [.slice E2 k.es.length a2, .slice M2 k.x.ms.length b2, .slice D2 k.x.cl.length d2]) := Lib.hid (by rw [← hw0]; exact (by simpa using Bk.new (w.alloc (.cells #[.slice E1 k.es.length a1, .slice M1 k.x.ms.length b1, .slice D1 k.x.cl.length d1] 32)) _ 32 rfl))
 have HS : Hid (w.heap.size + 1 < w0.heap.size) := Lib.hid (by rw [← hw0]; simp)
 have hm := sameE_any k.es _ _ w0 (he1.below HB.out (Nat.le_refl _)) (he2.below HB.out (Nat.le_refl _))
 have H1 := Lib.hid (hm1.below HB.out (Nat.le_refl _))
 have H2 := Lib.hid (hm2.below HB.out (Nat.le_refl _))
 have H3 := Lib.hid (hd1.below HB.out (Nat.le_refl _))
 have H4 := Lib.hid (hd2.below HB.out (Nat.le_refl _))
 clear he1 he2 hm1 hm2 hd1 hd2
 go_enter Tryz.func34, Tryz.ntmps34
 go_upto_region 1 with fail
 clear hw0
 have x0 := (HBa.out 0 _ rfl).1
 have x1 := (HBa.out 1 _ rfl).1
 have x2 := (HBa.out 2 _ rfl).1
 have y0 := (HBb.out 0 _ rfl).1
 have y1 := (HBb.out 1 _ rfl).1
 have y2 := (HBb.out 2 _ rfl).1
 go_wp2_with fail
 go_at_call 74
 refine hm.mono ?_
 clear hm
 rintro e w1 ⟨rfl, hb⟩
 have HB1 := Lib.hid (HB.out.trans (hb.mono HB.out.size))
 have hd := sameX_any k.x _ _ _ _ _ _ _ _ w1 (H1.out.below hb (Nat.le_refl _)) (H3.out.below hb (Nat.le_refl _)) (H2.out.below hb (Nat.le_refl _)) (H4.out.below hb (Nat.le_refl _))
 have x1' := old_cell hb (by have := HS.out; omega) x1
 have x2' := old_cell hb (by have := HS.out; omega) x2
 have y1' := old_cell hb HS.out y1
 have y2' := old_cell hb HS.out y2
 clear hb x0 x1 x2 y0 y1 y2
 go_wp2_with (go_at_call 75; refine hd.mono ?_; clear hd; rintro e w2 ⟨rfl, hb⟩; have HB2 := Lib.hid (HB1.out.trans (hb.mono HB1.out.size)); clear hb)
 go_ret
 exact ⟨rfl, HB2.out⟩
theorem name_len {s : List UInt8} (h : isName s = true) : s.length ≤ 32 := by
 simp only [isName, Bool.and_eq_true, decide_eq_true_eq] at h
 exact h.1.2
theorem own_cap {α : Type} {t k : Nat} {f : α → List Value} {w : World} {B : Nat} {v : Value} {l : List α} (h : OwnS t k f w B v l) : ∀ A n c, v = .slice A n c → n ≤ c := by
 intro A n c e
 rcases h.2 with ⟨hv, _⟩ | ⟨g, cap, cur, hv, _, _, h1, _⟩
 ·rw [hv] at e; injection e with _ e2 e3; omega
 ·rw [hv] at e; injection e with _ e2 e3; omega
end Go.Proofs.YtpdedfpacklnoaaGreatDoor
