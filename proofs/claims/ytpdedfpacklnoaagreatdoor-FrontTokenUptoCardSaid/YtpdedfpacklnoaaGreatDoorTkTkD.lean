/- Contract of causal.dots: listR. -/
import Derived.Test.YtpdedfpacklnoaaGreatDoorTkML
import Derived.Test.YtpdedfpacklnoaaGreatDoorTkMW
import Derived.LoopN
set_option maxRecDepth 100000
namespace Go.Proofs.YtpdedfpacklnoaaGreatDoor
open Go.RowKit Go.BL Go.Ct Go.Sl Go.Wr W

theorem Bk.kept {w w' : World} {D : Nat} {vs : List Value} {rows : List Nat} (k : Bk w D vs) (h : Kept rows w w') (hD : D < w.heap.size) (hn : D ∉ rows) : Bk w' D vs := fun i v hv => by
 have e := h.block D hD hn
 refine ⟨(World.cell?_of_block (a := ⟨D, i, none⟩) (w := w) (w' := w') e).trans (k i v hv).1, ?_⟩
 have := (k i v hv).2
 unfold World.frozen? at this ⊢
 dsimp only at this ⊢
 rw [e]; exact this
theorem _root_.Go.Sl.OwnS.kept {α : Type} {t k : Nat} {f : α → List Value} {w w' : World} {B : Nat} {v : Value} {l : List α} {rows : List Nat} (h : OwnS t k f w B v l) (kp : Kept rows w w') (hr : ∀ g, v.ownBlock = some g → g ∉ rows) : OwnS t k f w' B v l := by
 refine ⟨h.1, ?_⟩
 rcases h.2 with h0 | ⟨g, cap, cur, hv, hg, hh, r⟩
 ·exact .inl h0
 ·have hlt : g < w.heap.size := by
   rcases Nat.lt_or_ge g w.heap.size with h' | h'
   ·exact h'
   ·rw [Array.getElem?_eq_none h'] at hh; cases hh
  exact .inr ⟨g, cap, cur, hv, hg, (kp.block g hlt (hr g (by rw [hv]; rfl))).trans hh, r⟩
theorem _root_.Go.Sl.OwnS.block_lt {α : Type} {t k : Nat} {f : α → List Value} {w : World} {B : Nat} {v : Value} {l : List α} (h : OwnS t k f w B v l) : ∀ g, v.ownBlock = some g → g < w.heap.size := by
 intro g hg
 rcases h.2 with ⟨rfl, _⟩ | ⟨g', cap, cur, rfl, _, hh, _⟩
 ·cases hg
 ·simp only [Value.ownBlock, Option.some.injEq] at hg
  subst hg
  rcases Nat.lt_or_ge g' w.heap.size with h' | h'
  ·exact h'
  ·rw [Array.getElem?_eq_none h'] at hh; cases hh
theorem _root_.Go.BL.Kept.then_below {rows : List Nat} {a b c : World} (h : Kept rows a b) (k : Below a.heap.size b c) : Kept rows a c :=
 ⟨k.os.trans h.os, k.tape.trans h.tape, k.output.trans h.output, Nat.le_trans h.size k.size, fun i hi hn => (k.block i hi).trans (h.block i hi hn)⟩
theorem W.Rdr.below {w w' : World} {B C g i : Nat} {bs : List Nat} (h : Rdr w B g bs i) (hb : Below C w w') (hC : B ≤ C) : Rdr w' B g bs i := by
 obtain ⟨G, c, hh, hr, hi, hl, hg, hcap, hG⟩ := h
 refine ⟨G, c, (hb.block g (by omega)).trans hh, ⟨hr.1, hr.2.1, hr.2.2.1, fun hn => ?_⟩, hi, hl, hg, hcap, hG⟩
 obtain ⟨b, off, e, hlt, hc⟩ := hr.2.2.2 hn
 have := hG _ e
 exact ⟨b, off, e, Nat.lt_of_lt_of_le hlt hb.size, fun i hi => (World.cell?_of_block (a := ⟨b, off + i, none⟩) (w := w) (w' := w') (hb.block b (by dsimp only at this; omega))).trans (hc i hi)⟩
theorem info90 : (Tryz.prog.info? 90).map (fun i => (i.zero, i.size, i.bytes)) = some (some (.agg #[.int .i64 0, .int .i64 0, .int .i64 0]), 3, 24) := by kernel_rfl
/-- What dots answers. -/
def DotR (B g : Nat) (bs : List Nat) (r : Except Nat (List Dt × Nat)) (w : World) (e : Ending) (w' : World) : Prop := Kept [g] w w' ∧ ∃ v c j, e = .returned (.tuple #[v, .int .i64 ((c : Nat) : Int)]) ∧ Rdr w' B g bs j ∧
 match r with
 | .error k => c = k ∧ k ≠ 0
 | .ok (l, j') => c = 0 ∧ j = j' ∧ OwnS 90 3 dotC w' w.heap.size v l
theorem dots_err {bs : List Nat} {k i c : Nat} {l : List Dt} (h : dotR bs i = .error c) : dotsR bs (k + 1) i l = .error c := by unfold dotsR; rw [h]
theorem dots_ok {bs : List Nat} {k i j : Nat} {d : Dt} {l : List Dt} (h : dotR bs i = .ok (d, j)) : dotsR bs (k + 1) i l = dotsR bs k j (l ++ [d]) := by conv => lhs; unfold dotsR; rw [h]
set_option maxHeartbeats 8000000 in
theorem dots_any (B g : Nat) (bs : List Nat) (i : Nat) (w : World) (h : Rdr w B g bs i) (hB : B ≤ w.heap.size) : Calls Tryz.prog 255 #[.pointer (some ⟨g, 0, none⟩), .int .i64 64] w (DotR B g bs (listR bs i) w) := by
 have HBW := Lib.hid hB
 have HGB := Lib.hid h.ltB
 have hu := uint_any B g bs i w h hB
 clear h hB
 unfold RetR at hu
 obtain ⟨⟨n, c, p⟩, hU⟩ : ∃ x, uintAt bs i = x := ⟨_, rfl⟩
 rw [hU] at hu
 dsimp only at hu
 have HL : Hid (listR bs i = if c ≠ 0 then .error c else if 64 < n then .error 4 else dotsR bs n p []) := Lib.hid (by unfold listR; rw [hU])
 clear hU
 by_cases hc : c = 0
 case neg =>
  have hc' : ((c : Int) != 0) = true := bne_iff_ne.2 (by omega)
  have HV : Hid (listR bs i = .error c) := Lib.hid (by rw [HL.out, if_pos hc])
  go_enter Tryz.func255, Tryz.ntmps255
  go_wp2_with (go_at_call 187; refine hu.mono ?_; rintro e w1 ⟨rfl, hr, hk⟩; have HR1 := Lib.hid hr; have HK1 := Lib.hid hk; clear hr hk)
  go_ret2
  exact ⟨HK1.out, .slice none 0 0, c, p, rfl, HR1.out, by rw [HV.out]; exact ⟨rfl, hc⟩⟩
 subst hc
 by_cases hn : 64 < n
 case pos =>
  have hn' : (64 : Int) < (n : Int) := by omega
  have HV : Hid (listR bs i = .error 4) := Lib.hid (by rw [HL.out, if_neg (by simp), if_pos hn])
  go_enter Tryz.func255, Tryz.ntmps255
  go_wp2_with (go_at_call 187; refine hu.mono ?_; rintro e w1 ⟨rfl, hr, hk⟩; have HR1 := Lib.hid hr; have HK1 := Lib.hid hk; clear hr hk)
  go_ret2
  exact ⟨HK1.out, .slice none 0 0, 4, p, rfl, HR1.out, by rw [HV.out]; exact ⟨rfl, by decide⟩⟩
 have hn' : ¬ (64 : Int) < (n : Int) := by omega
 have HL2 : Hid (listR bs i = dotsR bs n p []) := Lib.hid (by rw [HL.out, if_neg (by simp), if_neg hn])
 go_enter Tryz.func255, Tryz.ntmps255
 go_wp2_with (go_at_call 187; refine hu.mono ?_; rintro e w1 ⟨rfl, hr, hk⟩; have HR1 := Lib.hid hr; have HK1 := Lib.hid hk; clear hr hk)
 clear hu
 go_loopw [8, 24] (fun av kv wr => ∃ (k j : Nat) (acc : List Dt), k ≤ n ∧ kv = .int .i64 (k : Int) ∧ Hid (Rdr wr B g bs j) ∧ Hid (Kept [g] w wr) ∧ Hid (OwnS 90 3 dotC wr w.heap.size av acc) ∧ Hid (acc.length = k) ∧ Hid (dotsR bs (n - k) j acc = dotsR bs n p [])) (fun _ kv _ => n - (intOf kv).toNat)
 case atStart => exact ⟨0, p, [], by omega, rfl, HR1, HK1, Lib.hid (OwnS.nil _ _), Lib.hid rfl, Lib.hid rfl⟩
 case round =>
  rename_i u8
  obtain ⟨k, j, acc, hk, rfl, HR, HK, HO, HA, HE⟩ := hrel
  by_cases hlt : k < n
  ·have hnk : n - k = (n - (k + 1)) + 1 := by omega
   have HE2 := HE.out
   rw [hnk] at HE2
   have HE3 := Lib.hid HE2
   clear HE2
   obtain ⟨⟨a0, c0, p0⟩, hU0⟩ : ∃ x, uintAt bs j = x := ⟨_, rfl⟩
   obtain ⟨⟨a1, c1, p1⟩, hU1⟩ : ∃ x, uintAt bs p0 = x := ⟨_, rfl⟩
   obtain ⟨⟨a2, c2, p2⟩, hU2⟩ : ∃ x, uintAt bs p1 = x := ⟨_, rfl⟩
   have hu0 := fun w h hB => uint_any B g bs j w h hB
   have hu1 := fun w h hB => uint_any B g bs p0 w h hB
   have hu2 := fun w h hB => uint_any B g bs p1 w h hB
   unfold RetR at hu0 hu1 hu2
   rw [hU0] at hu0
   rw [hU1] at hu1
   rw [hU2] at hu2
   dsimp only at hu0 hu1 hu2
   have HDR : Hid (dotR bs j = if c0 ≠ 0 then .error c0 else if c1 ≠ 0 then .error c1 else if c2 ≠ 0 then .error c2 else .ok (⟨(a0 : Int), (a1 : Int), (a2 : Int)⟩, p2)) := Lib.hid (by
    unfold dotR; rw [hU0]; dsimp only; rw [hU1]; dsimp only; rw [hU2])
   clear hU0 hU1 hU2
   have HWR := Lib.hid HK.out.size
   have HGW : Hid (g < w.heap.size) := Lib.hid (Nat.lt_of_lt_of_le HGB.out HBW.out)
   have HOg : Hid (∀ b, u8.ownBlock = some b → b ∉ [g]) := Lib.hid (fun b hb => by have := HO.out.block_ge b hb; have := HGW.out; simp; omega)
   have HOD : Hid (∀ b, u8.ownBlock = some b → b ∉ [wr.heap.size]) := Lib.hid (fun b hb => by have := HO.out.block_lt b hb; simp; omega)
   have HDg : Hid (wr.heap.size ∉ [g]) := Lib.hid (by have := HGW.out; have := HWR.out; simp; omega)
   have HPg : Hid (wr.heap.size + 1 ∉ [g]) := Lib.hid (by have := HGW.out; have := HWR.out; simp; omega)
   obtain ⟨y0, hy0⟩ : ∃ y, (wr.alloc (.cells #[.int .i64 0, .int .i64 0, .int .i64 0] 90)).alloc (.cells #[.pointer (some ⟨wr.heap.size, 0, none⟩), .pointer (some ⟨wr.heap.size, 1, none⟩), .pointer (some ⟨wr.heap.size, 2, none⟩)] 272) = y := ⟨_, rfl⟩
   have HR0 : Hid (Rdr y0 B g bs j) := Lib.hid (by rw [← hy0]; exact (HR.out.alloc _).alloc _)
   have HK0 : Hid (Kept [g] w y0) := Lib.hid (by rw [← hy0]; exact (HK.out.alloc _).alloc _)
   have HD0 : Hid (Bk y0 wr.heap.size [.int .i64 0, .int .i64 0, .int .i64 0]) := Lib.hid (by rw [← hy0]; exact (Bk.new wr _ 90 rfl).alloc _ (by simp))
   have HP0 : Hid (Bk y0 (wr.heap.size + 1) [.pointer (some ⟨wr.heap.size, 0, none⟩), .pointer (some ⟨wr.heap.size, 1, none⟩), .pointer (some ⟨wr.heap.size, 2, none⟩)]) := Lib.hid (by rw [← hy0]; exact Bk.new (wr.alloc _) _ 272 (by simp))
   have HO0 : Hid (OwnS 90 3 dotC y0 w.heap.size u8 acc) := Lib.hid (by rw [← hy0]; exact (HO.out.below ((Below.refl wr.heap.size wr).alloc (Nat.le_refl _) _) (Nat.le_refl _)).below ((Below.refl _ _).alloc (Nat.le_refl _) _) (Nat.le_refl _))
   have HDs0 : Hid (wr.heap.size < y0.heap.size) := Lib.hid (by rw [← hy0]; simp; omega)
   have HPs0 : Hid (wr.heap.size + 1 < y0.heap.size) := Lib.hid (by rw [← hy0]; simp)
   go_upto_block 2 with fail
   clear hy0
   go_wp2_with fail
   by_cases hc0 : c0 = 0
   case neg =>
    have hcc : ((c0 : Int) != 0) = true := bne_iff_ne.2 (by omega)
    have HV : Hid (listR bs i = .error c0) := Lib.hid (by rw [HL2.out, ← HE3.out]; exact dots_err (by rw [HDR.out, if_pos hc0]))
    refine wp_loop_rounds 4 ?_
    rw [rounds_succ]
    have r0 := (HP0.out 0 _ rfl).1
    go_wp2_with fail
    go_at_call 187
    refine (hu0 _ HR0.out (Nat.le_trans HBW.out HK0.out.size)).mono ?_
    rintro e x0 ⟨rfl, hr, hk⟩
    have HRc0 := Lib.hid hr
    have HKc0 := Lib.hid (HK0.out.then_ hk)
    have HDc0 := Lib.hid (HD0.out.kept hk HDs0.out HDg.out)
    have HPc0 := Lib.hid (HP0.out.kept hk HPs0.out HPg.out)
    have HOc0 := Lib.hid (HO0.out.kept hk HOg.out)
    have HDsc0 : Hid (wr.heap.size < x0.heap.size) := Lib.hid (Nat.lt_of_lt_of_le HDs0.out hk.size)
    have HPsc0 : Hid (wr.heap.size + 1 < x0.heap.size) := Lib.hid (Nat.lt_of_lt_of_le HPs0.out hk.size)
    clear hr hk
    obtain ⟨zc0, zf0⟩ := HDc0.out 0 _ rfl
    obtain ⟨y1, hy1⟩ : ∃ y, x0.setCell ⟨wr.heap.size, 0, none⟩ (.int .i64 (a0 : Int)) = y := ⟨_, rfl⟩
    have HR1 : Hid (Rdr y1 B g bs p0) := Lib.hid (by rw [← hy1]; exact HRc0.out.far (p := ⟨wr.heap.size, 0, none⟩) (Nat.le_trans HBW.out HWR.out) _)
    have HK1 : Hid (Kept [g] w y1) := Lib.hid (by rw [← hy1]; exact HKc0.out.setCell (p := ⟨wr.heap.size, 0, none⟩) (.inr HWR.out) _)
    have HD1 : Hid (Bk y1 wr.heap.size [.int .i64 (a0 : Int), .int .i64 0, .int .i64 0]) := Lib.hid (by rw [← hy1]; exact HDc0.out.set 0 (.int .i64 (a0 : Int)))
    have HP1 : Hid (Bk y1 (wr.heap.size + 1) [.pointer (some ⟨wr.heap.size, 0, none⟩), .pointer (some ⟨wr.heap.size, 1, none⟩), .pointer (some ⟨wr.heap.size, 2, none⟩)]) := Lib.hid (by rw [← hy1]; exact HPc0.out.other (p := ⟨wr.heap.size, 0, none⟩) (by simp) _)
    have HO1 : Hid (OwnS 90 3 dotC y1 w.heap.size u8 acc) := Lib.hid (by rw [← hy1]; exact HOc0.out.kept ((Kept.refl [wr.heap.size] x0).setCell (p := ⟨wr.heap.size, 0, none⟩) (.inl (by simp)) _) HOD.out)
    have HDs1 : Hid (wr.heap.size < y1.heap.size) := Lib.hid (by rw [← hy1]; simpa [World.setCell] using HDsc0.out)
    have HPs1 : Hid (wr.heap.size + 1 < y1.heap.size) := Lib.hid (by rw [← hy1]; simpa [World.setCell] using HPsc0.out)
    go_wp2_with fail
    go_ret2
    exact ⟨HK1.out, .slice none 0 0, c0, p0, rfl, HR1.out, by rw [HV.out]; exact ⟨rfl, hc0⟩⟩
   subst hc0
   by_cases hc1 : c1 = 0
   case neg =>
    have hcc : ((c1 : Int) != 0) = true := bne_iff_ne.2 (by omega)
    have HV : Hid (listR bs i = .error c1) := Lib.hid (by rw [HL2.out, ← HE3.out]; exact dots_err (by rw [HDR.out, if_neg (by simp), if_pos hc1]))
    refine wp_loop_rounds 4 ?_
    rw [rounds_succ]
    have r0 := (HP0.out 0 _ rfl).1
    go_wp2_with fail
    go_at_call 187
    refine (hu0 _ HR0.out (Nat.le_trans HBW.out HK0.out.size)).mono ?_
    rintro e x0 ⟨rfl, hr, hk⟩
    have HRc0 := Lib.hid hr
    have HKc0 := Lib.hid (HK0.out.then_ hk)
    have HDc0 := Lib.hid (HD0.out.kept hk HDs0.out HDg.out)
    have HPc0 := Lib.hid (HP0.out.kept hk HPs0.out HPg.out)
    have HOc0 := Lib.hid (HO0.out.kept hk HOg.out)
    have HDsc0 : Hid (wr.heap.size < x0.heap.size) := Lib.hid (Nat.lt_of_lt_of_le HDs0.out hk.size)
    have HPsc0 : Hid (wr.heap.size + 1 < x0.heap.size) := Lib.hid (Nat.lt_of_lt_of_le HPs0.out hk.size)
    clear hr hk
    obtain ⟨zc0, zf0⟩ := HDc0.out 0 _ rfl
    obtain ⟨y1, hy1⟩ : ∃ y, x0.setCell ⟨wr.heap.size, 0, none⟩ (.int .i64 (a0 : Int)) = y := ⟨_, rfl⟩
    have HR1 : Hid (Rdr y1 B g bs p0) := Lib.hid (by rw [← hy1]; exact HRc0.out.far (p := ⟨wr.heap.size, 0, none⟩) (Nat.le_trans HBW.out HWR.out) _)
    have HK1 : Hid (Kept [g] w y1) := Lib.hid (by rw [← hy1]; exact HKc0.out.setCell (p := ⟨wr.heap.size, 0, none⟩) (.inr HWR.out) _)
    have HD1 : Hid (Bk y1 wr.heap.size [.int .i64 (a0 : Int), .int .i64 0, .int .i64 0]) := Lib.hid (by rw [← hy1]; exact HDc0.out.set 0 (.int .i64 (a0 : Int)))
    have HP1 : Hid (Bk y1 (wr.heap.size + 1) [.pointer (some ⟨wr.heap.size, 0, none⟩), .pointer (some ⟨wr.heap.size, 1, none⟩), .pointer (some ⟨wr.heap.size, 2, none⟩)]) := Lib.hid (by rw [← hy1]; exact HPc0.out.other (p := ⟨wr.heap.size, 0, none⟩) (by simp) _)
    have HO1 : Hid (OwnS 90 3 dotC y1 w.heap.size u8 acc) := Lib.hid (by rw [← hy1]; exact HOc0.out.kept ((Kept.refl [wr.heap.size] x0).setCell (p := ⟨wr.heap.size, 0, none⟩) (.inl (by simp)) _) HOD.out)
    have HDs1 : Hid (wr.heap.size < y1.heap.size) := Lib.hid (by rw [← hy1]; simpa [World.setCell] using HDsc0.out)
    have HPs1 : Hid (wr.heap.size + 1 < y1.heap.size) := Lib.hid (by rw [← hy1]; simpa [World.setCell] using HPsc0.out)
    go_wp2_with fail
    rw [rounds_succ]
    have r1 := (HP1.out 1 _ rfl).1
    go_wp2_with fail
    go_at_call 187
    refine (hu1 _ HR1.out (Nat.le_trans HBW.out HK1.out.size)).mono ?_
    rintro e x1 ⟨rfl, hr, hk⟩
    have HRc1 := Lib.hid hr
    have HKc1 := Lib.hid (HK1.out.then_ hk)
    have HDc1 := Lib.hid (HD1.out.kept hk HDs1.out HDg.out)
    have HPc1 := Lib.hid (HP1.out.kept hk HPs1.out HPg.out)
    have HOc1 := Lib.hid (HO1.out.kept hk HOg.out)
    have HDsc1 : Hid (wr.heap.size < x1.heap.size) := Lib.hid (Nat.lt_of_lt_of_le HDs1.out hk.size)
    have HPsc1 : Hid (wr.heap.size + 1 < x1.heap.size) := Lib.hid (Nat.lt_of_lt_of_le HPs1.out hk.size)
    clear hr hk
    obtain ⟨zc1, zf1⟩ := HDc1.out 1 _ rfl
    obtain ⟨y2, hy2⟩ : ∃ y, x1.setCell ⟨wr.heap.size, 1, none⟩ (.int .i64 (a1 : Int)) = y := ⟨_, rfl⟩
    have HR2 : Hid (Rdr y2 B g bs p1) := Lib.hid (by rw [← hy2]; exact HRc1.out.far (p := ⟨wr.heap.size, 1, none⟩) (Nat.le_trans HBW.out HWR.out) _)
    have HK2 : Hid (Kept [g] w y2) := Lib.hid (by rw [← hy2]; exact HKc1.out.setCell (p := ⟨wr.heap.size, 1, none⟩) (.inr HWR.out) _)
    have HD2 : Hid (Bk y2 wr.heap.size [.int .i64 (a0 : Int), .int .i64 (a1 : Int), .int .i64 0]) := Lib.hid (by rw [← hy2]; exact HDc1.out.set 1 (.int .i64 (a1 : Int)))
    have HP2 : Hid (Bk y2 (wr.heap.size + 1) [.pointer (some ⟨wr.heap.size, 0, none⟩), .pointer (some ⟨wr.heap.size, 1, none⟩), .pointer (some ⟨wr.heap.size, 2, none⟩)]) := Lib.hid (by rw [← hy2]; exact HPc1.out.other (p := ⟨wr.heap.size, 1, none⟩) (by simp) _)
    have HO2 : Hid (OwnS 90 3 dotC y2 w.heap.size u8 acc) := Lib.hid (by rw [← hy2]; exact HOc1.out.kept ((Kept.refl [wr.heap.size] x1).setCell (p := ⟨wr.heap.size, 1, none⟩) (.inl (by simp)) _) HOD.out)
    have HDs2 : Hid (wr.heap.size < y2.heap.size) := Lib.hid (by rw [← hy2]; simpa [World.setCell] using HDsc1.out)
    have HPs2 : Hid (wr.heap.size + 1 < y2.heap.size) := Lib.hid (by rw [← hy2]; simpa [World.setCell] using HPsc1.out)
    go_wp2_with fail
    go_ret2
    exact ⟨HK2.out, .slice none 0 0, c1, p1, rfl, HR2.out, by rw [HV.out]; exact ⟨rfl, hc1⟩⟩
   subst hc1
   by_cases hc2 : c2 = 0
   case neg =>
    have hcc : ((c2 : Int) != 0) = true := bne_iff_ne.2 (by omega)
    have HV : Hid (listR bs i = .error c2) := Lib.hid (by rw [HL2.out, ← HE3.out]; exact dots_err (by rw [HDR.out, if_neg (by simp), if_neg (by simp), if_pos hc2]))
    refine wp_loop_rounds 4 ?_
    rw [rounds_succ]
    have r0 := (HP0.out 0 _ rfl).1
    go_wp2_with fail
    go_at_call 187
    refine (hu0 _ HR0.out (Nat.le_trans HBW.out HK0.out.size)).mono ?_
    rintro e x0 ⟨rfl, hr, hk⟩
    have HRc0 := Lib.hid hr
    have HKc0 := Lib.hid (HK0.out.then_ hk)
    have HDc0 := Lib.hid (HD0.out.kept hk HDs0.out HDg.out)
    have HPc0 := Lib.hid (HP0.out.kept hk HPs0.out HPg.out)
    have HOc0 := Lib.hid (HO0.out.kept hk HOg.out)
    have HDsc0 : Hid (wr.heap.size < x0.heap.size) := Lib.hid (Nat.lt_of_lt_of_le HDs0.out hk.size)
    have HPsc0 : Hid (wr.heap.size + 1 < x0.heap.size) := Lib.hid (Nat.lt_of_lt_of_le HPs0.out hk.size)
    clear hr hk
    obtain ⟨zc0, zf0⟩ := HDc0.out 0 _ rfl
    obtain ⟨y1, hy1⟩ : ∃ y, x0.setCell ⟨wr.heap.size, 0, none⟩ (.int .i64 (a0 : Int)) = y := ⟨_, rfl⟩
    have HR1 : Hid (Rdr y1 B g bs p0) := Lib.hid (by rw [← hy1]; exact HRc0.out.far (p := ⟨wr.heap.size, 0, none⟩) (Nat.le_trans HBW.out HWR.out) _)
    have HK1 : Hid (Kept [g] w y1) := Lib.hid (by rw [← hy1]; exact HKc0.out.setCell (p := ⟨wr.heap.size, 0, none⟩) (.inr HWR.out) _)
    have HD1 : Hid (Bk y1 wr.heap.size [.int .i64 (a0 : Int), .int .i64 0, .int .i64 0]) := Lib.hid (by rw [← hy1]; exact HDc0.out.set 0 (.int .i64 (a0 : Int)))
    have HP1 : Hid (Bk y1 (wr.heap.size + 1) [.pointer (some ⟨wr.heap.size, 0, none⟩), .pointer (some ⟨wr.heap.size, 1, none⟩), .pointer (some ⟨wr.heap.size, 2, none⟩)]) := Lib.hid (by rw [← hy1]; exact HPc0.out.other (p := ⟨wr.heap.size, 0, none⟩) (by simp) _)
    have HO1 : Hid (OwnS 90 3 dotC y1 w.heap.size u8 acc) := Lib.hid (by rw [← hy1]; exact HOc0.out.kept ((Kept.refl [wr.heap.size] x0).setCell (p := ⟨wr.heap.size, 0, none⟩) (.inl (by simp)) _) HOD.out)
    have HDs1 : Hid (wr.heap.size < y1.heap.size) := Lib.hid (by rw [← hy1]; simpa [World.setCell] using HDsc0.out)
    have HPs1 : Hid (wr.heap.size + 1 < y1.heap.size) := Lib.hid (by rw [← hy1]; simpa [World.setCell] using HPsc0.out)
    go_wp2_with fail
    rw [rounds_succ]
    have r1 := (HP1.out 1 _ rfl).1
    go_wp2_with fail
    go_at_call 187
    refine (hu1 _ HR1.out (Nat.le_trans HBW.out HK1.out.size)).mono ?_
    rintro e x1 ⟨rfl, hr, hk⟩
    have HRc1 := Lib.hid hr
    have HKc1 := Lib.hid (HK1.out.then_ hk)
    have HDc1 := Lib.hid (HD1.out.kept hk HDs1.out HDg.out)
    have HPc1 := Lib.hid (HP1.out.kept hk HPs1.out HPg.out)
    have HOc1 := Lib.hid (HO1.out.kept hk HOg.out)
    have HDsc1 : Hid (wr.heap.size < x1.heap.size) := Lib.hid (Nat.lt_of_lt_of_le HDs1.out hk.size)
    have HPsc1 : Hid (wr.heap.size + 1 < x1.heap.size) := Lib.hid (Nat.lt_of_lt_of_le HPs1.out hk.size)
    clear hr hk
    obtain ⟨zc1, zf1⟩ := HDc1.out 1 _ rfl
    obtain ⟨y2, hy2⟩ : ∃ y, x1.setCell ⟨wr.heap.size, 1, none⟩ (.int .i64 (a1 : Int)) = y := ⟨_, rfl⟩
    have HR2 : Hid (Rdr y2 B g bs p1) := Lib.hid (by rw [← hy2]; exact HRc1.out.far (p := ⟨wr.heap.size, 1, none⟩) (Nat.le_trans HBW.out HWR.out) _)
    have HK2 : Hid (Kept [g] w y2) := Lib.hid (by rw [← hy2]; exact HKc1.out.setCell (p := ⟨wr.heap.size, 1, none⟩) (.inr HWR.out) _)
    have HD2 : Hid (Bk y2 wr.heap.size [.int .i64 (a0 : Int), .int .i64 (a1 : Int), .int .i64 0]) := Lib.hid (by rw [← hy2]; exact HDc1.out.set 1 (.int .i64 (a1 : Int)))
    have HP2 : Hid (Bk y2 (wr.heap.size + 1) [.pointer (some ⟨wr.heap.size, 0, none⟩), .pointer (some ⟨wr.heap.size, 1, none⟩), .pointer (some ⟨wr.heap.size, 2, none⟩)]) := Lib.hid (by rw [← hy2]; exact HPc1.out.other (p := ⟨wr.heap.size, 1, none⟩) (by simp) _)
    have HO2 : Hid (OwnS 90 3 dotC y2 w.heap.size u8 acc) := Lib.hid (by rw [← hy2]; exact HOc1.out.kept ((Kept.refl [wr.heap.size] x1).setCell (p := ⟨wr.heap.size, 1, none⟩) (.inl (by simp)) _) HOD.out)
    have HDs2 : Hid (wr.heap.size < y2.heap.size) := Lib.hid (by rw [← hy2]; simpa [World.setCell] using HDsc1.out)
    have HPs2 : Hid (wr.heap.size + 1 < y2.heap.size) := Lib.hid (by rw [← hy2]; simpa [World.setCell] using HPsc1.out)
    go_wp2_with fail
    rw [rounds_succ]
    have r2 := (HP2.out 2 _ rfl).1
    go_wp2_with fail
    go_at_call 187
    refine (hu2 _ HR2.out (Nat.le_trans HBW.out HK2.out.size)).mono ?_
    rintro e x2 ⟨rfl, hr, hk⟩
    have HRc2 := Lib.hid hr
    have HKc2 := Lib.hid (HK2.out.then_ hk)
    have HDc2 := Lib.hid (HD2.out.kept hk HDs2.out HDg.out)
    have HPc2 := Lib.hid (HP2.out.kept hk HPs2.out HPg.out)
    have HOc2 := Lib.hid (HO2.out.kept hk HOg.out)
    have HDsc2 : Hid (wr.heap.size < x2.heap.size) := Lib.hid (Nat.lt_of_lt_of_le HDs2.out hk.size)
    have HPsc2 : Hid (wr.heap.size + 1 < x2.heap.size) := Lib.hid (Nat.lt_of_lt_of_le HPs2.out hk.size)
    clear hr hk
    obtain ⟨zc2, zf2⟩ := HDc2.out 2 _ rfl
    obtain ⟨y3, hy3⟩ : ∃ y, x2.setCell ⟨wr.heap.size, 2, none⟩ (.int .i64 (a2 : Int)) = y := ⟨_, rfl⟩
    have HR3 : Hid (Rdr y3 B g bs p2) := Lib.hid (by rw [← hy3]; exact HRc2.out.far (p := ⟨wr.heap.size, 2, none⟩) (Nat.le_trans HBW.out HWR.out) _)
    have HK3 : Hid (Kept [g] w y3) := Lib.hid (by rw [← hy3]; exact HKc2.out.setCell (p := ⟨wr.heap.size, 2, none⟩) (.inr HWR.out) _)
    have HD3 : Hid (Bk y3 wr.heap.size [.int .i64 (a0 : Int), .int .i64 (a1 : Int), .int .i64 (a2 : Int)]) := Lib.hid (by rw [← hy3]; exact HDc2.out.set 2 (.int .i64 (a2 : Int)))
    have HP3 : Hid (Bk y3 (wr.heap.size + 1) [.pointer (some ⟨wr.heap.size, 0, none⟩), .pointer (some ⟨wr.heap.size, 1, none⟩), .pointer (some ⟨wr.heap.size, 2, none⟩)]) := Lib.hid (by rw [← hy3]; exact HPc2.out.other (p := ⟨wr.heap.size, 2, none⟩) (by simp) _)
    have HO3 : Hid (OwnS 90 3 dotC y3 w.heap.size u8 acc) := Lib.hid (by rw [← hy3]; exact HOc2.out.kept ((Kept.refl [wr.heap.size] x2).setCell (p := ⟨wr.heap.size, 2, none⟩) (.inl (by simp)) _) HOD.out)
    have HDs3 : Hid (wr.heap.size < y3.heap.size) := Lib.hid (by rw [← hy3]; simpa [World.setCell] using HDsc2.out)
    have HPs3 : Hid (wr.heap.size + 1 < y3.heap.size) := Lib.hid (by rw [← hy3]; simpa [World.setCell] using HPsc2.out)
    go_wp2_with fail
    go_ret2
    exact ⟨HK3.out, .slice none 0 0, c2, p2, rfl, HR3.out, by rw [HV.out]; exact ⟨rfl, hc2⟩⟩
   subst hc2
   have HE4 : Hid (dotsR bs (n - (k + 1)) p2 (acc ++ [⟨(a0 : Int), (a1 : Int), (a2 : Int)⟩]) = dotsR bs n p []) := Lib.hid (by
    rw [← dots_ok (j := p2) (by rw [HDR.out, if_neg (by simp), if_neg (by simp), if_neg (by simp)])]; exact HE3.out)
   refine wp_loop_rounds 4 ?_
   rw [rounds_succ]
   have r0 := (HP0.out 0 _ rfl).1
   go_wp2_with fail
   go_at_call 187
   refine (hu0 _ HR0.out (Nat.le_trans HBW.out HK0.out.size)).mono ?_
   rintro e x0 ⟨rfl, hr, hk⟩
   have HRc0 := Lib.hid hr
   have HKc0 := Lib.hid (HK0.out.then_ hk)
   have HDc0 := Lib.hid (HD0.out.kept hk HDs0.out HDg.out)
   have HPc0 := Lib.hid (HP0.out.kept hk HPs0.out HPg.out)
   have HOc0 := Lib.hid (HO0.out.kept hk HOg.out)
   have HDsc0 : Hid (wr.heap.size < x0.heap.size) := Lib.hid (Nat.lt_of_lt_of_le HDs0.out hk.size)
   have HPsc0 : Hid (wr.heap.size + 1 < x0.heap.size) := Lib.hid (Nat.lt_of_lt_of_le HPs0.out hk.size)
   clear hr hk
   obtain ⟨zc0, zf0⟩ := HDc0.out 0 _ rfl
   obtain ⟨y1, hy1⟩ : ∃ y, x0.setCell ⟨wr.heap.size, 0, none⟩ (.int .i64 (a0 : Int)) = y := ⟨_, rfl⟩
   have HR1 : Hid (Rdr y1 B g bs p0) := Lib.hid (by rw [← hy1]; exact HRc0.out.far (p := ⟨wr.heap.size, 0, none⟩) (Nat.le_trans HBW.out HWR.out) _)
   have HK1 : Hid (Kept [g] w y1) := Lib.hid (by rw [← hy1]; exact HKc0.out.setCell (p := ⟨wr.heap.size, 0, none⟩) (.inr HWR.out) _)
   have HD1 : Hid (Bk y1 wr.heap.size [.int .i64 (a0 : Int), .int .i64 0, .int .i64 0]) := Lib.hid (by rw [← hy1]; exact HDc0.out.set 0 (.int .i64 (a0 : Int)))
   have HP1 : Hid (Bk y1 (wr.heap.size + 1) [.pointer (some ⟨wr.heap.size, 0, none⟩), .pointer (some ⟨wr.heap.size, 1, none⟩), .pointer (some ⟨wr.heap.size, 2, none⟩)]) := Lib.hid (by rw [← hy1]; exact HPc0.out.other (p := ⟨wr.heap.size, 0, none⟩) (by simp) _)
   have HO1 : Hid (OwnS 90 3 dotC y1 w.heap.size u8 acc) := Lib.hid (by rw [← hy1]; exact HOc0.out.kept ((Kept.refl [wr.heap.size] x0).setCell (p := ⟨wr.heap.size, 0, none⟩) (.inl (by simp)) _) HOD.out)
   have HDs1 : Hid (wr.heap.size < y1.heap.size) := Lib.hid (by rw [← hy1]; simpa [World.setCell] using HDsc0.out)
   have HPs1 : Hid (wr.heap.size + 1 < y1.heap.size) := Lib.hid (by rw [← hy1]; simpa [World.setCell] using HPsc0.out)
   go_wp2_with fail
   rw [rounds_succ]
   have r1 := (HP1.out 1 _ rfl).1
   go_wp2_with fail
   go_at_call 187
   refine (hu1 _ HR1.out (Nat.le_trans HBW.out HK1.out.size)).mono ?_
   rintro e x1 ⟨rfl, hr, hk⟩
   have HRc1 := Lib.hid hr
   have HKc1 := Lib.hid (HK1.out.then_ hk)
   have HDc1 := Lib.hid (HD1.out.kept hk HDs1.out HDg.out)
   have HPc1 := Lib.hid (HP1.out.kept hk HPs1.out HPg.out)
   have HOc1 := Lib.hid (HO1.out.kept hk HOg.out)
   have HDsc1 : Hid (wr.heap.size < x1.heap.size) := Lib.hid (Nat.lt_of_lt_of_le HDs1.out hk.size)
   have HPsc1 : Hid (wr.heap.size + 1 < x1.heap.size) := Lib.hid (Nat.lt_of_lt_of_le HPs1.out hk.size)
   clear hr hk
   obtain ⟨zc1, zf1⟩ := HDc1.out 1 _ rfl
   obtain ⟨y2, hy2⟩ : ∃ y, x1.setCell ⟨wr.heap.size, 1, none⟩ (.int .i64 (a1 : Int)) = y := ⟨_, rfl⟩
   have HR2 : Hid (Rdr y2 B g bs p1) := Lib.hid (by rw [← hy2]; exact HRc1.out.far (p := ⟨wr.heap.size, 1, none⟩) (Nat.le_trans HBW.out HWR.out) _)
   have HK2 : Hid (Kept [g] w y2) := Lib.hid (by rw [← hy2]; exact HKc1.out.setCell (p := ⟨wr.heap.size, 1, none⟩) (.inr HWR.out) _)
   have HD2 : Hid (Bk y2 wr.heap.size [.int .i64 (a0 : Int), .int .i64 (a1 : Int), .int .i64 0]) := Lib.hid (by rw [← hy2]; exact HDc1.out.set 1 (.int .i64 (a1 : Int)))
   have HP2 : Hid (Bk y2 (wr.heap.size + 1) [.pointer (some ⟨wr.heap.size, 0, none⟩), .pointer (some ⟨wr.heap.size, 1, none⟩), .pointer (some ⟨wr.heap.size, 2, none⟩)]) := Lib.hid (by rw [← hy2]; exact HPc1.out.other (p := ⟨wr.heap.size, 1, none⟩) (by simp) _)
   have HO2 : Hid (OwnS 90 3 dotC y2 w.heap.size u8 acc) := Lib.hid (by rw [← hy2]; exact HOc1.out.kept ((Kept.refl [wr.heap.size] x1).setCell (p := ⟨wr.heap.size, 1, none⟩) (.inl (by simp)) _) HOD.out)
   have HDs2 : Hid (wr.heap.size < y2.heap.size) := Lib.hid (by rw [← hy2]; simpa [World.setCell] using HDsc1.out)
   have HPs2 : Hid (wr.heap.size + 1 < y2.heap.size) := Lib.hid (by rw [← hy2]; simpa [World.setCell] using HPsc1.out)
   go_wp2_with fail
   rw [rounds_succ]
   have r2 := (HP2.out 2 _ rfl).1
   go_wp2_with fail
   go_at_call 187
   refine (hu2 _ HR2.out (Nat.le_trans HBW.out HK2.out.size)).mono ?_
   rintro e x2 ⟨rfl, hr, hk⟩
   have HRc2 := Lib.hid hr
   have HKc2 := Lib.hid (HK2.out.then_ hk)
   have HDc2 := Lib.hid (HD2.out.kept hk HDs2.out HDg.out)
   have HPc2 := Lib.hid (HP2.out.kept hk HPs2.out HPg.out)
   have HOc2 := Lib.hid (HO2.out.kept hk HOg.out)
   have HDsc2 : Hid (wr.heap.size < x2.heap.size) := Lib.hid (Nat.lt_of_lt_of_le HDs2.out hk.size)
   have HPsc2 : Hid (wr.heap.size + 1 < x2.heap.size) := Lib.hid (Nat.lt_of_lt_of_le HPs2.out hk.size)
   clear hr hk
   obtain ⟨zc2, zf2⟩ := HDc2.out 2 _ rfl
   obtain ⟨y3, hy3⟩ : ∃ y, x2.setCell ⟨wr.heap.size, 2, none⟩ (.int .i64 (a2 : Int)) = y := ⟨_, rfl⟩
   have HR3 : Hid (Rdr y3 B g bs p2) := Lib.hid (by rw [← hy3]; exact HRc2.out.far (p := ⟨wr.heap.size, 2, none⟩) (Nat.le_trans HBW.out HWR.out) _)
   have HK3 : Hid (Kept [g] w y3) := Lib.hid (by rw [← hy3]; exact HKc2.out.setCell (p := ⟨wr.heap.size, 2, none⟩) (.inr HWR.out) _)
   have HD3 : Hid (Bk y3 wr.heap.size [.int .i64 (a0 : Int), .int .i64 (a1 : Int), .int .i64 (a2 : Int)]) := Lib.hid (by rw [← hy3]; exact HDc2.out.set 2 (.int .i64 (a2 : Int)))
   have HP3 : Hid (Bk y3 (wr.heap.size + 1) [.pointer (some ⟨wr.heap.size, 0, none⟩), .pointer (some ⟨wr.heap.size, 1, none⟩), .pointer (some ⟨wr.heap.size, 2, none⟩)]) := Lib.hid (by rw [← hy3]; exact HPc2.out.other (p := ⟨wr.heap.size, 2, none⟩) (by simp) _)
   have HO3 : Hid (OwnS 90 3 dotC y3 w.heap.size u8 acc) := Lib.hid (by rw [← hy3]; exact HOc2.out.kept ((Kept.refl [wr.heap.size] x2).setCell (p := ⟨wr.heap.size, 2, none⟩) (.inl (by simp)) _) HOD.out)
   have HDs3 : Hid (wr.heap.size < y3.heap.size) := Lib.hid (by rw [← hy3]; simpa [World.setCell] using HDsc2.out)
   have HPs3 : Hid (wr.heap.size + 1 < y3.heap.size) := Lib.hid (by rw [← hy3]; simpa [World.setCell] using HPsc2.out)
   go_wp2_with fail
   rw [rounds_succ]
   go_upto_region 17 with fail
   have q0 := (HD3.out 0 _ rfl).1
   have q1 := (HD3.out 1 _ rfl).1
   have q2 := (HD3.out 2 _ rfl).1
   have HRA := Lib.hid (HR3.out.alloc (.cells #[.int .i64 (a0 : Int), .int .i64 (a1 : Int), .int .i64 (a2 : Int)] 90))
   have HKA := Lib.hid (HK3.out.alloc (.cells #[.int .i64 (a0 : Int), .int .i64 (a1 : Int), .int .i64 (a2 : Int)] 90))
   have HOA := Lib.hid (HO3.out.below ((Below.refl y3.heap.size y3).alloc (Nat.le_refl _) (.cells #[.int .i64 (a0 : Int), .int .i64 (a1 : Int), .int .i64 (a2 : Int)] 90)) (Nat.le_refl _))
   have HNA := Lib.hid (Bk.new y3 (dotC ⟨(a0 : Int), (a1 : Int), (a2 : Int)⟩) 90 rfl)
   go_wp2_with (at_builtin; refine wpList_appS rfl _ _ 28 rfl Tryz.underlying28 info90 rfl (by decide) dotC_len dotC_one (by decide) rfl HOA.out (g := y3.heap.size) (c := 1) (y := ⟨(a0 : Int), (a1 : Int), (a2 : Int)⟩) rfl (fun j u hj => (HNA.out j u hj).1) (by have := HA.out; omega) HKA.out.size ?_; intro v' w4 hown' hb4 _; have HO5 := Lib.hid hown'; have HR5 := Lib.hid (HRA.out.below hb4 HBW.out); have HK5 := Lib.hid (HKA.out.then_below hb4); clear hown' hb4)
   exact ⟨⟨k + 1, p2, acc ++ [⟨(a0 : Int), (a1 : Int), (a2 : Int)⟩], by omega, by go_num, HR5, HK5, HO5, Lib.hid (by have := HA.out; simp; omega), HE4⟩, by simp [intOf]; omega⟩
  ·obtain rfl : k = n := by omega
   have HV : Hid (listR bs i = .ok (acc, j)) := Lib.hid (by rw [HL2.out, ← HE.out, Nat.sub_self]; rfl)
   go_wp2_with fail
   go_ret2
   exact ⟨HK.out, u8, 0, j, rfl, HR.out, by rw [HV.out]; exact ⟨rfl, rfl, HO.out⟩⟩
end Go.Proofs.YtpdedfpacklnoaaGreatDoor
