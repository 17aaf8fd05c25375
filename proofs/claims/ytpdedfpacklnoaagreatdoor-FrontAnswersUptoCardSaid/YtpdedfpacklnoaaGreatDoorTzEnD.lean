/- Contracts of slices.Clone at entries, marks, dots. Contracts of trolleyplain.Context, Cart: copies. -/
import Derived.Test.YtpdedfpacklnoaaGreatDoorTzEnB
import Derived.Test.YtpdedfpacklnoaaGreatDoorTzTkV
import Derived.Test.YtpdedfpacklnoaaGreatDoorTzTkR
import Derived.Test.YtpdedfpacklnoaaGreatDoorTzML
set_option maxRecDepth 100000
namespace Go.Proofs.YtpdedfpacklnoaaGreatDoor
open Go.RowKit Go.BL Go.Ct Go.Sl

/-- A slice's copy. -/
def CopR {α : Type} (t k : Nat) (f : α → List Value) (l : List α) (w : World) (e : Ending) (w' : World) : Prop := ∃ v', e = .returned v' ∧ OwnS t k f w' w.heap.size v' l ∧ Below w.heap.size w w'
theorem copy67_any (l : List En) (v : Value) (w : World) (hd : Sl 6 entC w v l) (hl : l.length ≤ 1000000) : Calls Tryz.prog 67 #[v] w (CopR 92 6 entC l w) := by
 have heq := fun (w : World) (a : Option Addr) (n c n' c' : Nat) => Lib.run_eql_slice_nil (P := Tryz.prog) w 26 92 a n c n' c' Tryz.underlying26
 unfold CopR
 obtain ⟨A, c, rfl⟩ := hd.form
 have HD := Lib.hid hd
 cases A with
 | none =>
  have hb : Hid (l = []) := Lib.hid (by
   obtain ⟨_, A', c', e, hc⟩ := hd
   rcases Nat.eq_zero_or_pos l.length with h | h
   ·exact List.eq_nil_of_length_eq_zero h
   ·obtain ⟨_, _, e2, _⟩ := hc h
    injection e with e1
    rw [e2] at e1; cases e1)
  clear hd
  go_enter Tryz.func67, Tryz.ntmps67
  go_wp2
  go_ret
  exact ⟨_, rfl, by rw [hb.out]; exact OwnS.nil _ _, Below.refl _ _⟩
 | some a =>
  clear hd
  go_enter Tryz.func67, Tryz.ntmps67
  go_wp2_with (at_builtin; refine wpList_appSs rfl (.tmp 5) (.tmp 6) 26 rfl Tryz.underlying26 info92 rfl (by decide) entC_len entC_one (by decide) rfl (OwnS.empty w w.heap.size w.heap.size rfl (Nat.le_refl _)) rfl (HD.out.below ((Below.refl _ _).alloc (Nat.le_refl _) _) (Nat.le_refl _)) (by simp; omega) (by simp) ?_; intro v w1 ho hb _; have Ho := Lib.hid ho; have Hb := Lib.hid hb; clear ho hb)
  go_ret
  exact ⟨_, rfl, Ho.out, ((Below.refl _ _).alloc (Nat.le_refl _) _).trans Hb.out⟩
theorem copy116_any (l : List Dt) (v : Value) (w : World) (hd : Sl 3 dotC w v l) (hl : l.length ≤ 1000000) : Calls Tryz.prog 116 #[v] w (CopR 150 3 dotC l w) := by
 have heq := fun (w : World) (a : Option Addr) (n c n' c' : Nat) => Lib.run_eql_slice_nil (P := Tryz.prog) w 27 150 a n c n' c' Tryz.underlying27
 unfold CopR
 obtain ⟨A, c, rfl⟩ := hd.form
 have HD := Lib.hid hd
 cases A with
 | none =>
  have hb : Hid (l = []) := Lib.hid (by
   obtain ⟨_, A', c', e, hc⟩ := hd
   rcases Nat.eq_zero_or_pos l.length with h | h
   ·exact List.eq_nil_of_length_eq_zero h
   ·obtain ⟨_, _, e2, _⟩ := hc h
    injection e with e1
    rw [e2] at e1; cases e1)
  clear hd
  go_enter Tryz.func116, Tryz.ntmps116
  go_wp2
  go_ret
  exact ⟨_, rfl, by rw [hb.out]; exact OwnS.nil _ _, Below.refl _ _⟩
 | some a =>
  clear hd
  go_enter Tryz.func116, Tryz.ntmps116
  go_wp2_with (at_builtin; refine wpList_appSs rfl (.tmp 5) (.tmp 6) 27 rfl Tryz.underlying27 info150 rfl (by decide) dotC_len dotC_one (by decide) rfl (OwnS.empty w w.heap.size w.heap.size rfl (Nat.le_refl _)) rfl (HD.out.below ((Below.refl _ _).alloc (Nat.le_refl _) _) (Nat.le_refl _)) (by simp; omega) (by simp) ?_; intro v w1 ho hb _; have Ho := Lib.hid ho; have Hb := Lib.hid hb; clear ho hb)
  go_ret
  exact ⟨_, rfl, Ho.out, ((Below.refl _ _).alloc (Nat.le_refl _) _).trans Hb.out⟩
theorem copy117_any (l : List Dt) (v : Value) (w : World) (hd : Sl 3 dotC w v l) (hl : l.length ≤ 1000000) : Calls Tryz.prog 117 #[v] w (CopR 90 3 dotC l w) := by
 have heq := fun (w : World) (a : Option Addr) (n c n' c' : Nat) => Lib.run_eql_slice_nil (P := Tryz.prog) w 28 90 a n c n' c' Tryz.underlying28
 unfold CopR
 obtain ⟨A, c, rfl⟩ := hd.form
 have HD := Lib.hid hd
 cases A with
 | none =>
  have hb : Hid (l = []) := Lib.hid (by
   obtain ⟨_, A', c', e, hc⟩ := hd
   rcases Nat.eq_zero_or_pos l.length with h | h
   ·exact List.eq_nil_of_length_eq_zero h
   ·obtain ⟨_, _, e2, _⟩ := hc h
    injection e with e1
    rw [e2] at e1; cases e1)
  clear hd
  go_enter Tryz.func117, Tryz.ntmps117
  go_wp2
  go_ret
  exact ⟨_, rfl, by rw [hb.out]; exact OwnS.nil _ _, Below.refl _ _⟩
 | some a =>
  clear hd
  go_enter Tryz.func117, Tryz.ntmps117
  go_wp2_with (at_builtin; refine wpList_appSs rfl (.tmp 5) (.tmp 6) 28 rfl Tryz.underlying28 info90 rfl (by decide) dotC_len dotC_one (by decide) rfl (OwnS.empty w w.heap.size w.heap.size rfl (Nat.le_refl _)) rfl (HD.out.below ((Below.refl _ _).alloc (Nat.le_refl _) _) (Nat.le_refl _)) (by simp; omega) (by simp) ?_; intro v w1 ho hb _; have Ho := Lib.hid ho; have Hb := Lib.hid hb; clear ho hb)
  go_ret
  exact ⟨_, rfl, Ho.out, ((Below.refl _ _).alloc (Nat.le_refl _) _).trans Hb.out⟩
end Go.Proofs.YtpdedfpacklnoaaGreatDoor
set_option maxRecDepth 100000
namespace Go.Proofs.YtpdedfpacklnoaaGreatDoor
open Go.RowKit Go.BL Go.Ct Go.Sl Go.Wr W

theorem far_cell2 {w : World} {g b i j : Nat} (h : g ≠ b) (u : Value) : (w.setCell ⟨b, j, none⟩ u).cell? ⟨g, i, none⟩ = w.cell? ⟨g, i, none⟩ := World.cell?_of_block (a := ⟨g, i, none⟩) (Below.heap_setCell w ⟨b, j, none⟩ u g h)
def PlX (x : Cx) (w : World) (e : Ending) (w' : World) : Prop := ∃ m c, e = .returned (.agg #[m, c]) ∧ OwnS 150 3 dotC w' w.heap.size m x.ms ∧ OwnS 90 3 dotC w' w.heap.size c x.cl ∧ Below w.heap.size w w'
set_option maxHeartbeats 4000000 in
theorem plainX_any (x : Cx) (mv cv : Value) (w : World) (hm : Dots w mv x.ms) (hc : Dots w cv x.cl) (h1 : x.ms.length ≤ 1000000) (h2 : x.cl.length ≤ 1000000) : Calls Tryz.prog 68 #[.agg #[mv, cv]] w (PlX x w) := by
 unfold PlX
 obtain ⟨w0, hw0⟩ : ∃ y, w.alloc (.cells #[mv, cv] 30) = y := ⟨_, rfl⟩
 obtain ⟨w1, hw1⟩ : ∃ y, w0.alloc (.cells #[.slice none 0 0, .slice none 0 0] 30) = y := ⟨_, rfl⟩
 have HB1 : Hid (Below w.heap.size w w1) := Lib.hid (by rw [← hw1, ← hw0]; exact ((Below.refl _ _).alloc (Nat.le_refl _) _).alloc (by simp) _)
 have HP : Hid (w1.cell? ⟨w.heap.size, 0, none⟩ = some mv ∧ w1.cell? ⟨w.heap.size, 1, none⟩ = some cv) := Lib.hid (by
  have h := pair_at w mv cv 30 _ rfl
  rw [hw0] at h
  have hb : Below w0.heap.size w0 w1 := by rw [← hw1]; exact (Below.refl _ _).alloc (Nat.le_refl _) _
  have hs : w.heap.size < w0.heap.size := by rw [← hw0]; simp
  exact ⟨old_cell hb hs h.1, old_cell hb hs h.2⟩)
 have HSw1 : Hid (w.heap.size < w1.heap.size) := Lib.hid (by rw [← hw1, ← hw0]; simp; omega)
 have HGw1 : Hid (w0.heap.size < w1.heap.size) := Lib.hid (by rw [← hw1]; simp)
 have HRw1 : Hid (Bk w1 w0.heap.size [.slice none 0 0, .slice none 0 0]) := Lib.hid (by rw [← hw1]; exact Bk.new w0 _ 30 rfl)
 have HM1 := Lib.hid (hm.below HB1.out (Nat.le_refl _))
 have HC1 := Lib.hid (hc.below HB1.out (Nat.le_refl _))
 have hc1 := fun w hd => copy116_any x.ms mv w hd h1
 have hc2 := fun w hd => copy117_any x.cl cv w hd h2
 unfold CopR at hc1 hc2
 have hgne : w.heap.size ≠ w0.heap.size := by rw [← hw0]; simp
 have hgl : w.heap.size < w0.heap.size := by rw [← hw0]; simp
 clear hm hc
 obtain ⟨q0, q1⟩ := HP.out
 go_enter Tryz.func68, Tryz.ntmps68
 go_upto_region 1 with fail
 clear hw0 hw1
 refine hstart (S := fun u => u.cell? ⟨w.heap.size, 0, none⟩ = some mv ∧ u.cell? ⟨w.heap.size, 1, none⟩ = some cv) (by kernel_rfl) (by repeat (first | exact PG.body | refine PG.then_ ?_ | refine PG.inBlock ?_)) ?_ (fun hPF hHeld => ?_)
 ·exact ⟨q0, q1⟩
 refine htake (i := 0) (v := .pointer (some ⟨w.heap.size, 0, none⟩)) rfl (by kernel_rfl) (by kernel_rfl) (by kernel_rfl) hPF (Or.inl ⟨by kernel_rfl, ?_⟩) hHeld ?_
 ·intro u hS; obtain ⟨p0, p1⟩ := hS; go_simp
 refine htake (i := 1) (v := mv) rfl (by kernel_rfl) (by kernel_rfl) (by kernel_rfl) hPF (Or.inl ⟨by kernel_rfl, ?_⟩) hHeld ?_
 ·intro u hS; obtain ⟨p0, p1⟩ := hS; go_simp
 refine htake (i := 3) (v := .pointer (some ⟨w.heap.size, 1, none⟩)) rfl (by kernel_rfl) (by kernel_rfl) (by kernel_rfl) hPF (Or.inl ⟨by kernel_rfl, ?_⟩) hHeld ?_
 ·intro u hS; obtain ⟨p0, p1⟩ := hS; go_simp
 refine htake (i := 4) (v := cv) rfl (by kernel_rfl) (by kernel_rfl) (by kernel_rfl) hPF (Or.inl ⟨by kernel_rfl, ?_⟩) hHeld ?_
 ·intro u hS; obtain ⟨p0, p1⟩ := hS; go_simp
 refine wpAnyH_ready (rs := [2]) (by kernel_rfl) (by simp) ?_
 refine AllReadyH.cons (i := 2) rfl (fun K hK => ?_) AllReadyH.nil
 go_simp
 go_at_call 116
 refine (hc1 w1.drew (show Dots w1.drew mv x.ms from HM1.out)).mono ?_
 rintro e w2 ⟨vw2, rfl, ho, hb⟩
 obtain ⟨Aw2, cw2, rfl⟩ := ho.form
 have hb' : Below w1.heap.size w1 w2 := (Below.refl _ _).drew.trans hb
 have HOw2 := Lib.hid ho
 have HBw2 := Lib.hid hb'
 have HSw2 : Hid (w.heap.size < w2.heap.size) := Lib.hid (Nat.lt_of_lt_of_le HSw1.out hb'.size)
 have HGw2 : Hid (w0.heap.size < w2.heap.size) := Lib.hid (Nat.lt_of_lt_of_le HGw1.out hb'.size)
 have HRw2 := Lib.hid (HRw1.out.below hb' HGw1.out)
 have r0 := old_cell hb' HSw1.out q0
 have r1 := old_cell hb' HSw1.out q1
 clear ho hb hb'
 refine hK.out _ _ ?_ (fun hHeld => ?_)
 ·exact ⟨r0, r1⟩
 clear hK K
 refine wpAnyH_ready (rs := [5]) (by kernel_rfl) (by simp) ?_
 refine AllReadyH.cons (i := 5) rfl (fun K hK => ?_) AllReadyH.nil
 go_simp
 go_at_call 117
 refine (hc2 _ (HC1.out.below HBw2.out (Nat.le_refl _))).mono ?_
 rintro e w3 ⟨vw3, rfl, ho, hb⟩
 obtain ⟨Aw3, cw3, rfl⟩ := ho.form
 have hb' : Below w2.heap.size w2 w3 := hb
 have HOw3 := Lib.hid ho
 have HBw3 := Lib.hid hb'
 have HSw3 : Hid (w.heap.size < w3.heap.size) := Lib.hid (Nat.lt_of_lt_of_le HSw2.out hb'.size)
 have HGw3 : Hid (w0.heap.size < w3.heap.size) := Lib.hid (Nat.lt_of_lt_of_le HGw2.out hb'.size)
 have HRw3 := Lib.hid (HRw2.out.below hb' HGw2.out)
 have s0 := old_cell hb' HSw2.out r0
 have s1 := old_cell hb' HSw2.out r1
 clear ho hb hb'
 obtain ⟨z0, zf0⟩ := HRw3.out 0 _ rfl
 obtain ⟨z1, zf1⟩ := HRw3.out 1 _ rfl
 refine hK.out _ _ ?_ (fun hHeld => ?_)
 ·exact ⟨s0, s1⟩
 clear hK K
 refine htake (i := 6) (v := .agg #[.slice Aw2 x.ms.length cw2, .slice Aw3 x.cl.length cw3]) rfl (by kernel_rfl) (by kernel_rfl) (by kernel_rfl) hPF (Or.inl ⟨by kernel_rfl, ?_⟩) hHeld ?_
 ·intro u hS; obtain ⟨p0, p1⟩ := hS; go_simp
 refine wpAnyH_ready (rs := [7]) (by kernel_rfl) (by simp) ?_
 refine AllReadyH.cons (i := 7) rfl (fun K hK => ?_) AllReadyH.nil
 go_simp
 refine hK.out _ _ ?_ (fun hHeld => ?_)
 ·exact ⟨(far_cell2 hgne _).trans ((far_cell2 hgne _).trans s0), (far_cell2 hgne _).trans ((far_cell2 hgne _).trans s1)⟩
 clear hK K
 refine wpAnyH_done (by kernel_rfl) ?_ _
 obtain ⟨w4, hw4⟩ : ∃ y, (w3.setCell ⟨w0.heap.size, 0, none⟩ (.slice Aw2 x.ms.length cw2)).setCell ⟨w0.heap.size, 1, none⟩ (.slice Aw3 x.cl.length cw3) = y := ⟨_, rfl⟩
 have HR4 : Hid (Bk w4 w0.heap.size [.slice Aw2 x.ms.length cw2, .slice Aw3 x.cl.length cw3]) := Lib.hid (by rw [← hw4]; exact (HRw3.out.set 0 _).set 1 _)
 have HO2 : Hid (OwnS 150 3 dotC w4 w.heap.size (.slice Aw2 x.ms.length cw2) x.ms) := Lib.hid (by
  have h : OwnS 150 3 dotC w3 w1.heap.size _ _ := HOw2.out.below HBw3.out (Nat.le_refl _)
  rw [← hw4]
  exact ((h.setCell (p := ⟨w0.heap.size, 0, none⟩) HGw1.out _).setCell (p := ⟨w0.heap.size, 1, none⟩) HGw1.out _).base HB1.out.size)
 have hz2 : w.heap.size ≤ w2.heap.size := Nat.le_of_lt HSw2.out
 have HO3 : Hid (OwnS 90 3 dotC w4 w.heap.size (.slice Aw3 x.cl.length cw3) x.cl) := Lib.hid (by
  rw [← hw4]
  exact ((HOw3.out.setCell (p := ⟨w0.heap.size, 0, none⟩) HGw2.out _).setCell (p := ⟨w0.heap.size, 1, none⟩) HGw2.out _).base hz2)
 have HB4 : Hid (Below w.heap.size w w4) := Lib.hid (by
  have h3 : Below w.heap.size w w3 := (HB1.out.trans (HBw2.out.mono HB1.out.size)).trans (HBw3.out.mono hz2)
  have hg : w.heap.size ≤ w0.heap.size := by omega
  rw [← hw4]
  exact (((Kept.of_below (rows := []) h3 (Nat.le_refl _)).setCell (p := ⟨w0.heap.size, 0, none⟩) (.inr hg) _).setCell (p := ⟨w0.heap.size, 1, none⟩) (.inr hg) _).below (Nat.le_refl _) (by simp))
 simp only [hw4]
 clear hw4
 go_wp2_with fail
 obtain ⟨e0, -⟩ := HR4.out 0 _ rfl
 obtain ⟨e1, -⟩ := HR4.out 1 _ rfl
 refine bodyPost_ret (by simp [results, Tryz.results68, go_sem, e0, e1]; try rfl) rfl ?_
 exact ⟨_, _, rfl, HO2.out, HO3.out, HB4.out⟩
def PlC (c : Ct) (w : World) (e : Ending) (w' : World) : Prop := ∃ ev m k, e = .returned (.agg #[ev, m, k]) ∧ OwnS 92 6 entC w' w.heap.size ev c.es ∧ OwnS 150 3 dotC w' w.heap.size m c.x.ms ∧ OwnS 90 3 dotC w' w.heap.size k c.x.cl ∧ Below w.heap.size w w'
set_option maxHeartbeats 4000000 in
theorem plainC_any (c : Ct) (ev mv cv : Value) (w : World) (he : Ents w ev c.es) (hm : Dots w mv c.x.ms) (hc : Dots w cv c.x.cl) (h0 : c.es.length ≤ 1000000) (h1 : c.x.ms.length ≤ 1000000) (h2 : c.x.cl.length ≤ 1000000) : Calls Tryz.prog 28 #[.agg #[ev, mv, cv]] w (PlC c w) := by
 unfold PlC
 obtain ⟨w0, hw0⟩ : ∃ y, w.alloc (.cells #[ev, mv, cv] 32) = y := ⟨_, rfl⟩
 obtain ⟨w1, hw1⟩ : ∃ y, w0.alloc (.cells #[.slice none 0 0, .slice none 0 0, .slice none 0 0] 32) = y := ⟨_, rfl⟩
 have HB1 : Hid (Below w.heap.size w w1) := Lib.hid (by rw [← hw1, ← hw0]; exact ((Below.refl _ _).alloc (Nat.le_refl _) _).alloc (by simp) _)
 have HP : Hid (w1.cell? ⟨w.heap.size, 0, none⟩ = some ev ∧ w1.cell? ⟨w.heap.size, 1, none⟩ = some mv ∧ w1.cell? ⟨w.heap.size, 2, none⟩ = some cv) := Lib.hid (by
  have h := tri_at w ev mv cv 32 _ rfl
  rw [hw0] at h
  have hb : Below w0.heap.size w0 w1 := by rw [← hw1]; exact (Below.refl _ _).alloc (Nat.le_refl _) _
  have hs : w.heap.size < w0.heap.size := by rw [← hw0]; simp
  exact ⟨old_cell hb hs h.1, old_cell hb hs h.2.1, old_cell hb hs h.2.2⟩)
 have HSw1 : Hid (w.heap.size < w1.heap.size) := Lib.hid (by rw [← hw1, ← hw0]; simp; omega)
 have HGw1 : Hid (w0.heap.size < w1.heap.size) := Lib.hid (by rw [← hw1]; simp)
 have HRw1 : Hid (Bk w1 w0.heap.size [.slice none 0 0, .slice none 0 0, .slice none 0 0]) := Lib.hid (by rw [← hw1]; exact Bk.new w0 _ 32 rfl)
 have HE1 := Lib.hid (he.below HB1.out (Nat.le_refl _))
 have HM1 := Lib.hid (hm.below HB1.out (Nat.le_refl _))
 have HC1 := Lib.hid (hc.below HB1.out (Nat.le_refl _))
 have hc1 := fun w hd => copy67_any c.es ev w hd h0
 have hc2 := fun w hm hc => plainX_any c.x mv cv w hm hc h1 h2
 unfold CopR at hc1
 unfold PlX at hc2
 have hgne : w.heap.size ≠ w0.heap.size := by rw [← hw0]; simp
 have hgl : w.heap.size < w0.heap.size := by rw [← hw0]; simp
 clear he hm hc
 obtain ⟨q0, q1, q2⟩ := HP.out
 go_enter Tryz.func28, Tryz.ntmps28
 go_upto_region 1 with fail
 clear hw0 hw1
 refine hstart (S := fun u => u.cell? ⟨w.heap.size, 0, none⟩ = some ev ∧ u.cell? ⟨w.heap.size, 1, none⟩ = some mv ∧ u.cell? ⟨w.heap.size, 2, none⟩ = some cv) (by kernel_rfl) (by repeat (first | exact PG.body | refine PG.then_ ?_ | refine PG.inBlock ?_)) ?_ (fun hPF hHeld => ?_)
 ·exact ⟨q0, q1, q2⟩
 refine htake (i := 0) (v := .pointer (some ⟨w.heap.size, 0, none⟩)) rfl (by kernel_rfl) (by kernel_rfl) (by kernel_rfl) hPF (Or.inl ⟨by kernel_rfl, ?_⟩) hHeld ?_
 ·intro u hS; obtain ⟨p0, p1, p2⟩ := hS; go_simp
 refine htake (i := 1) (v := ev) rfl (by kernel_rfl) (by kernel_rfl) (by kernel_rfl) hPF (Or.inl ⟨by kernel_rfl, ?_⟩) hHeld ?_
 ·intro u hS; obtain ⟨p0, p1, p2⟩ := hS; go_simp
 refine htake (i := 3) (v := .pointer (some ⟨w.heap.size, 1, none⟩)) rfl (by kernel_rfl) (by kernel_rfl) (by kernel_rfl) hPF (Or.inl ⟨by kernel_rfl, ?_⟩) hHeld ?_
 ·intro u hS; obtain ⟨p0, p1, p2⟩ := hS; go_simp
 refine htake (i := 4) (v := .agg #[mv, cv]) rfl (by kernel_rfl) (by kernel_rfl) (by kernel_rfl) hPF (Or.inl ⟨by kernel_rfl, ?_⟩) hHeld ?_
 ·intro u hS; obtain ⟨p0, p1, p2⟩ := hS; go_simp
 refine wpAnyH_ready (rs := [2]) (by kernel_rfl) (by simp) ?_
 refine AllReadyH.cons (i := 2) rfl (fun K hK => ?_) AllReadyH.nil
 go_simp
 go_at_call 67
 refine (hc1 w1.drew (show Ents w1.drew ev c.es from HE1.out)).mono ?_
 rintro e w2 ⟨vw2, rfl, ho, hb⟩
 obtain ⟨Aw2, cw2, rfl⟩ := ho.form
 have hb' : Below w1.heap.size w1 w2 := (Below.refl _ _).drew.trans hb
 have HOw2 := Lib.hid ho
 have HBw2 := Lib.hid hb'
 have HSw2 : Hid (w.heap.size < w2.heap.size) := Lib.hid (Nat.lt_of_lt_of_le HSw1.out hb'.size)
 have HGw2 : Hid (w0.heap.size < w2.heap.size) := Lib.hid (Nat.lt_of_lt_of_le HGw1.out hb'.size)
 have HRw2 := Lib.hid (HRw1.out.below hb' HGw1.out)
 have r0 := old_cell hb' HSw1.out q0
 have r1 := old_cell hb' HSw1.out q1
 have r2 := old_cell hb' HSw1.out q2
 clear ho hb hb'
 refine hK.out _ _ ?_ (fun hHeld => ?_)
 ·exact ⟨r0, r1, r2⟩
 clear hK K
 refine wpAnyH_ready (rs := [5]) (by kernel_rfl) (by simp) ?_
 refine AllReadyH.cons (i := 5) rfl (fun K hK => ?_) AllReadyH.nil
 go_simp
 go_at_call 68
 refine (hc2 _ (HM1.out.below HBw2.out (Nat.le_refl _)) (HC1.out.below HBw2.out (Nat.le_refl _))).mono ?_
 rintro e w3 ⟨m3, k3, rfl, ho, ho2, hb⟩
 obtain ⟨Aw3, cw3, rfl⟩ := ho.form
 obtain ⟨Bw3, dw3, rfl⟩ := ho2.form
 have HPw3 := Lib.hid ho2
 clear ho2
 have hb' : Below w2.heap.size w2 w3 := hb
 have HOw3 := Lib.hid ho
 have HBw3 := Lib.hid hb'
 have HSw3 : Hid (w.heap.size < w3.heap.size) := Lib.hid (Nat.lt_of_lt_of_le HSw2.out hb'.size)
 have HGw3 : Hid (w0.heap.size < w3.heap.size) := Lib.hid (Nat.lt_of_lt_of_le HGw2.out hb'.size)
 have HRw3 := Lib.hid (HRw2.out.below hb' HGw2.out)
 have s0 := old_cell hb' HSw2.out r0
 have s1 := old_cell hb' HSw2.out r1
 have s2 := old_cell hb' HSw2.out r2
 clear ho hb hb'
 obtain ⟨z0, zf0⟩ := HRw3.out 0 _ rfl
 obtain ⟨z1, zf1⟩ := HRw3.out 1 _ rfl
 obtain ⟨z2, zf2⟩ := HRw3.out 2 _ rfl
 refine hK.out _ _ ?_ (fun hHeld => ?_)
 ·exact ⟨s0, s1, s2⟩
 clear hK K
 refine htake (i := 6) (v := .agg #[.slice Aw2 c.es.length cw2, .slice Aw3 c.x.ms.length cw3, .slice Bw3 c.x.cl.length dw3]) rfl (by kernel_rfl) (by kernel_rfl) (by kernel_rfl) hPF (Or.inl ⟨by kernel_rfl, ?_⟩) hHeld ?_
 ·intro u hS; obtain ⟨p0, p1, p2⟩ := hS; go_simp
 refine wpAnyH_ready (rs := [7]) (by kernel_rfl) (by simp) ?_
 refine AllReadyH.cons (i := 7) rfl (fun K hK => ?_) AllReadyH.nil
 go_simp
 refine hK.out _ _ ?_ (fun hHeld => ?_)
 ·exact ⟨(far_cell2 hgne _).trans ((far_cell2 hgne _).trans ((far_cell2 hgne _).trans s0)), (far_cell2 hgne _).trans ((far_cell2 hgne _).trans ((far_cell2 hgne _).trans s1)), (far_cell2 hgne _).trans ((far_cell2 hgne _).trans ((far_cell2 hgne _).trans s2))⟩
 clear hK K
 refine wpAnyH_done (by kernel_rfl) ?_ _
 obtain ⟨w4, hw4⟩ : ∃ y, ((w3.setCell ⟨w0.heap.size, 0, none⟩ (.slice Aw2 c.es.length cw2)).setCell ⟨w0.heap.size, 1, none⟩ (.slice Aw3 c.x.ms.length cw3)).setCell ⟨w0.heap.size, 2, none⟩ (.slice Bw3 c.x.cl.length dw3) = y := ⟨_, rfl⟩
 have HR4 : Hid (Bk w4 w0.heap.size [.slice Aw2 c.es.length cw2, .slice Aw3 c.x.ms.length cw3, .slice Bw3 c.x.cl.length dw3]) := Lib.hid (by rw [← hw4]; exact ((HRw3.out.set 0 _).set 1 _).set 2 _)
 have HO2 : Hid (OwnS 92 6 entC w4 w.heap.size (.slice Aw2 c.es.length cw2) c.es) := Lib.hid (by
  have h : OwnS 92 6 entC w3 w1.heap.size _ _ := HOw2.out.below HBw3.out (Nat.le_refl _)
  rw [← hw4]
  exact (((h.setCell (p := ⟨w0.heap.size, 0, none⟩) HGw1.out _).setCell (p := ⟨w0.heap.size, 1, none⟩) HGw1.out _).setCell (p := ⟨w0.heap.size, 2, none⟩) HGw1.out _).base HB1.out.size)
 have hz2 : w.heap.size ≤ w2.heap.size := Nat.le_of_lt HSw2.out
 have HO3 : Hid (OwnS 150 3 dotC w4 w.heap.size (.slice Aw3 c.x.ms.length cw3) c.x.ms) := Lib.hid (by
  rw [← hw4]
  exact (((HOw3.out.setCell (p := ⟨w0.heap.size, 0, none⟩) HGw2.out _).setCell (p := ⟨w0.heap.size, 1, none⟩) HGw2.out _).setCell (p := ⟨w0.heap.size, 2, none⟩) HGw2.out _).base hz2)
 have HO5 : Hid (OwnS 90 3 dotC w4 w.heap.size (.slice Bw3 c.x.cl.length dw3) c.x.cl) := Lib.hid (by
  rw [← hw4]
  exact (((HPw3.out.setCell (p := ⟨w0.heap.size, 0, none⟩) HGw2.out _).setCell (p := ⟨w0.heap.size, 1, none⟩) HGw2.out _).setCell (p := ⟨w0.heap.size, 2, none⟩) HGw2.out _).base hz2)
 have HB4 : Hid (Below w.heap.size w w4) := Lib.hid (by
  have h3 : Below w.heap.size w w3 := (HB1.out.trans (HBw2.out.mono HB1.out.size)).trans (HBw3.out.mono hz2)
  have hg : w.heap.size ≤ w0.heap.size := by omega
  rw [← hw4]
  exact ((((Kept.of_below (rows := []) h3 (Nat.le_refl _)).setCell (p := ⟨w0.heap.size, 0, none⟩) (.inr hg) _).setCell (p := ⟨w0.heap.size, 1, none⟩) (.inr hg) _).setCell (p := ⟨w0.heap.size, 2, none⟩) (.inr hg) _).below (Nat.le_refl _) (by simp))
 simp only [hw4]
 clear hw4
 go_wp2_with fail
 obtain ⟨e0, -⟩ := HR4.out 0 _ rfl
 obtain ⟨e1, -⟩ := HR4.out 1 _ rfl
 obtain ⟨e2, -⟩ := HR4.out 2 _ rfl
 refine bodyPost_ret (by simp [results, Tryz.results28, go_sem, e0, e1, e2]; try rfl) rfl ?_
 exact ⟨_, _, _, rfl, HO2.out, HO3.out, HO5.out, HB4.out⟩
end Go.Proofs.YtpdedfpacklnoaaGreatDoor
