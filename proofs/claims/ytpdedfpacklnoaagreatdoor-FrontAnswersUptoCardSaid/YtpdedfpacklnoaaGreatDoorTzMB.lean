/- Contract of the document's Parse. DERIVED: THE SHELF's CONTRACTS AT THIS DUMP, IN PLAIN WORDS (tools/lay-plain.mjs out of 'TryzShelf.lean', which tools/lay-shelf.mjs wrote): THE SAME DECLARATION Contr -/
import Derived.Test.YtpdedfpacklnoaaGreatDoorTzLnL
import Derived.Shelf.Strings.Builder1
import Derived.Test.YtpdedfpacklnoaaGreatDoorProg
import Derived.Test.YtpdedfpacklnoaaGreatDoorTzML
import Derived.Test.YtpdedfpacklnoaaGreatDoorTzMP
namespace Go.Proofs
open Go.Shelf
def Tryz.lays169_ren : Go.Shelf.Ren := ⟨fun | 169 => 64 | n => n, fun | 70 => 116 | 9 => 9 | 0 => 0 | 72 => 118 | 37 => 75 | 127 => 174 | 3 => 3 | 5 => 5 | n => n, fun | n => n⟩
theorem Tryz.lays169 : Go.Proofs.Lays.n169 Tryz.prog Tryz.lays169_ren := {
 mixed := by kernel_rfl
 f169 := Tryz.func64.trans (congrArg some (by kernel_rfl))
 t0 := Tryz.underlying0
 a0 := Tryz.isAgg0
 z0 := Tryz.sizeOf0
 v0 := Tryz.zeroValue0
 t3 := Tryz.underlying3
 a3 := Tryz.isAgg3
 z3 := Tryz.sizeOf3
 v3 := Tryz.zeroValue3
 t9 := Tryz.underlying9
 a9 := Tryz.isAgg9
 z9 := Tryz.sizeOf9
 v9 := Tryz.zeroValue9
 t37 := Tryz.underlying75
 a37 := Tryz.isAgg75
 z37 := Tryz.sizeOf75
 v37 := Tryz.zeroValue75
 t70 := Tryz.underlying116
 a70 := Tryz.isAgg116
 z70 := Tryz.sizeOf116
 v70 := Tryz.zeroValue116
 t72 := Tryz.underlying118
 a72 := Tryz.isAgg118
 z72 := Tryz.sizeOf118
 v72 := Tryz.zeroValue118
 t127 := Tryz.underlying174
 a127 := Tryz.isAgg174
 z127 := Tryz.sizeOf174
 v127 := Tryz.zeroValue174 }
theorem Tryz.Builder_Extra_169 : Builder.Extra Tryz.prog Tryz.lays169_ren := {
 sizeBuilder := by kernel_rfl
 liesBuilder := by kernel_rfl
 t5 := Tryz.underlying5
 a5 := Tryz.isAgg5
 z5 := Tryz.sizeOf5
 v5 := Tryz.zeroValue5
 infoByte := by kernel_rfl
 cellsByte := by kernel_rfl
 sizeByte := by kernel_rfl
 neB5 := by decide }
open Go.RowKit in
/-- (*strings.Builder).String: "String returns the accumulated string.": WHATEVER THE BUILDER HOLDS. (LAID: no walk: one application.) -/
theorem Tryz.Builder_String_any (B b : Nat) (l : List UInt8) (w : World) (h : Lib.IsBuilder 118 5 B b (Lib.byteCells l) w) (hBw : B ≤ w.heap.size) :
  Calls Tryz.prog 64 #[.pointer (some ⟨b, 0, none⟩)] w fun e w' => e = .returned (.string ⟨l.toArray⟩) ∧ Below B w w' := Any.Builder_String_any Tryz.lays169 Tryz.Builder_Extra_169 B b l w h hBw
end Go.Proofs
namespace Go.Proofs.YtpdedfpacklnoaaGreatDoor
open Go.RowKit Go.BL Go.Ct Go.Sl Go.Shelf

abbrev Bd := Lib.IsBuilder 118 5
theorem noEscape : ∀ (p : Value) (w : World), (callFunc 157 #[p]).run Tryz.prog w = .ok (.value p) w := fun p w => by
 rw [run_callFunc_extern Tryz.func157 (by kernel_rfl) (by kernel_rfl) (by kernel_rfl) (e := Extern.AbiNoEscape.same) (by kernel_rfl), Lib.run_noEscape]
 rfl
set_option maxHeartbeats 1000000 in
set_option maxRecDepth 100000 in
theorem check_used (b : Nat) (w : World) (h0 : w.cell? ⟨b, 0, none⟩ = some (.pointer (some ⟨b, 0, none⟩))) :
  Calls Tryz.prog 114 #[.pointer (some ⟨b, 0, none⟩)] w fun e w' => e = .returned (.tuple #[]) ∧ w' = w := by
 obtain ⟨j, hj, _⟩ := Option.map_eq_some_iff.1 Tryz.Builder_Extra_169.sizeBuilder
 have hq := Lib.run_neq_ptr_same w ⟨b, 0, none⟩ Tryz.underlying116 hj
 go_enter Tryz.func114, Tryz.ntmps114
 go_wp2
 go_end0
 exact ⟨rfl, rfl⟩
set_option maxHeartbeats 1000000 in
set_option maxRecDepth 100000 in
theorem check_fresh (b : Nat) (w : World) (h0 : w.cell? ⟨b, 0, none⟩ = some (.pointer none)) (hsh : w.shape? b = some (118, 2)) (hfz : w.frozen? ⟨b, 0, none⟩ = false) :
  Calls Tryz.prog 114 #[.pointer (some ⟨b, 0, none⟩)] w fun e w' => e = .returned (.tuple #[]) ∧ w' = w.setCell ⟨b, 0, none⟩ (.pointer (some ⟨b, 0, none⟩)) := by
 obtain ⟨j, hj, hjs⟩ := Option.map_eq_some_iff.1 Tryz.Builder_Extra_169.sizeBuilder
 have h1 := Lib.run_to_unsafe w ⟨b, 0, none⟩ Tryz.underlying116 Tryz.underlying138 hj (by rw [hjs]; decide) hsh (Nat.zero_lt_succ 1)
 have h2 := Lib.run_from_unsafe w ⟨b, 0, none⟩ Tryz.underlying138 Tryz.underlying116 hj hsh Tryz.Builder_Extra_169.liesBuilder
 have h3 := noEscape
 go_enter Tryz.func114, Tryz.ntmps114
 go_wp2
 go_end0
 exact ⟨rfl, rfl⟩
/-- Whatever is no row of bytes, and not this block, lies as it lay. -/
def Oth (b : Nat) (w w' : World) : Prop := ∀ (g : Nat) (o : Obj), w.heap[g]? = some o → g ≠ b → (∀ cur fz, o ≠ .cells cur 5 fz) → w'.heap[g]? = some o
theorem Oth.refl (b : Nat) (w : World) : Oth b w w := fun _ _ h _ _ => h
theorem Oth.trans {b : Nat} {w w1 w2 : World} (h : Oth b w w1) (k : Oth b w1 w2) : Oth b w w2 := fun g o hg hn ho => k g o (h g o hg hn ho) hn ho
theorem Oth.setCell {b : Nat} {w : World} {p : Addr} (hp : p.block = b) (u : Value) : Oth b w (w.setCell p u) := fun g _ hg hn _ => (Below.heap_setCell w p u g (by rw [hp]; exact hn)).trans hg
theorem check_any (B b : Nat) (bs : List Value) (w : World) (h : Bd B b bs w) :
  Calls Tryz.prog 114 #[.pointer (some ⟨b, 0, none⟩)] w fun e w' => e = .returned (.tuple #[]) ∧ Lib.BuilderAt 118 5 B b (.pointer (some ⟨b, 0, none⟩)) bs w' ∧ Below B w w' ∧ Oth b w w' := by
 rcases h with h | h
 ·refine (check_fresh b w h.cell0 h.shape h.frozen0).mono ?_
  rintro e w' ⟨rfl, rfl⟩
  exact ⟨rfl, h.used _, (Below.refl B w).setCell (p := ⟨b, 0, none⟩) h.1 _, Oth.setCell (p := ⟨b, 0, none⟩) rfl _⟩
 ·refine (check_used b w h.cell0).mono ?_
  rintro e w' ⟨rfl, rfl⟩
  exact ⟨rfl, h, Below.refl B _, Oth.refl _ _⟩
theorem infoByte : (Tryz.prog.info? 5).map (fun i => (i.zero, i.size, i.bytes)) = some (some (.int .u8 0), 1, 1) := by kernel_rfl
set_option maxHeartbeats 1000000 in
set_option maxRecDepth 100000 in
theorem writeS_any (B b : Nat) (l t : List UInt8) (w : World) (h : Bd B b (Lib.byteCells l) w) (hlen : l.length + t.length ≤ 140737488355328) (hBw : B ≤ w.heap.size) :
  Calls Tryz.prog 62 #[.pointer (some ⟨b, 0, none⟩), .string ⟨t.toArray⟩] w fun e w' => e = .returned (.tuple #[.int .i64 (t.length : Int), .nilIface]) ∧ Bd B b (Lib.byteCells (l ++ t)) w' ∧ Below B w w' ∧ Oth b w w' := by
 obtain ⟨i0, hi, hz0, hz1, hz2⟩ := Sl.info_of infoByte
 have hll := Lib.byteCells_length l
 have hbc := Lib.byteCells_append l t
 obtain ⟨bs, hbs⟩ : ∃ bs, Lib.byteCells l = bs := ⟨_, rfl⟩
 rw [hbs] at h hll hbc
 have hck := check_any B b bs w h
 have HB := Lib.hid hBw
 have HLL := Lib.hid hll
 have HLEN := Lib.hid hlen
 have HBC := Lib.hid hbc
 clear hbs hll hbc hlen h hBw
 go_enter Tryz.func62, Tryz.ntmps62
 go_wp2_with fail
 go_at_call 114
 refine hck.mono ?_
 clear hck
 rintro e w1 ⟨rfl, h1, hb1, ho1⟩
 have HOT1 := Lib.hid ho1
 obtain ⟨hB, v, hbk, hown, hne⟩ := h1
 have c1 : w1.cell? ⟨b, 1, none⟩ = some v := by rw [Lib.cell_of_heap hbk]; rfl
 have hsz1 := hb1.size
 have HK := Lib.hid hbk
 have HO := Lib.hid hown
 have HNE := Lib.hid hne
 have HB1 := Lib.hid hb1
 have HBB := Lib.hid hB
 clear hbk hown hne hb1 hB
 go_wp2_with (at_builtin; refine Lib.wpList_append_own_string _ rfl _ _ 75 9 rfl B 5 i0 Tryz.underlying75 Tryz.underlying9 hi hz0 hz1 hz2 _ _ _ rfl HO.out ⟨t.toArray⟩ rfl ?c3 ?c4 ?c5 ?_)
 case c3 => unfold maxLen; show bs.length + t.length ≤ _; have := HLEN.out; have := HLL.out; omega
 case c4 => have := HLEN.out; have := HLL.out; show bs.length + t.length ≤ _; omega
 case c5 => have := HB.out; omega
 intro v' w2 hown' hgrow _
 have hlt : b < w1.heap.size := by
  rcases Nat.lt_or_ge b w1.heap.size with h' | h'
  ·exact h'
  ·have := HK.out; simp [Array.getElem?_eq_none h'] at this
 have hb2 : w2.heap[b]? = some (.cells #[.pointer (some ⟨b, 0, none⟩), v] 118 (0, 0)) := by
  rw [hgrow.block b hlt (fun e => HNE.out e.symm)]
  exact HK.out
 have d1 : w2.cell? ⟨b, 1, none⟩ = some v := by rw [Lib.cell_of_heap hb2]; rfl
 have f1 : w2.frozen? ⟨b, 1, none⟩ = false := Lib.frozen_of_heap hb2 1
 obtain ⟨ao, n', cap, rfl⟩ : ∃ ao n' cap, v' = .slice ao n' cap := by
  rcases hown'.2 with ⟨hv, _⟩ | ⟨g, cap, cur, hv, _⟩
  ·exact ⟨_, _, _, hv⟩
  ·exact ⟨_, _, _, hv⟩
 have HB2 := Lib.hid hb2
 have HO2 := Lib.hid hown'
 have HG : Hid (Below B w w2) := Lib.hid (HB1.out.grown hgrow (by have := HB.out; omega) (fun k hk => (HO.out.lt k hk).1))
 have HOT2 : Hid (Oth b w1 w2) := Lib.hid (fun g o hg _ hoo => by
  have hgl : g < w1.heap.size := by
   rcases Nat.lt_or_ge g w1.heap.size with h' | h'
   ·exact h'
   ·rw [Array.getElem?_eq_none h'] at hg; cases hg
  refine (hgrow.block g hgl (fun e => ?_)).trans hg
  rcases HO.out.2 with ⟨h1, _⟩ | ⟨g', cap, cur, h1, _, hh, _⟩
  ·rw [h1] at e; cases e
  ·rw [h1] at e
   injection e with e
   subst e
   rw [hh] at hg
   injection hg with hg
   exact hoo _ _ hg.symm)
 clear hb2 hown' hgrow hlt ho1
 go_wp2_with fail
 go_ret2
 refine ⟨rfl, ?_, HG.out.setCell (p := ⟨b, 1, none⟩) HBB.out _, (HOT1.out.trans HOT2.out).trans (Oth.setCell (p := ⟨b, 1, none⟩) rfl _)⟩
 rw [HBC.out]
 exact .inr (Lib.BuilderAt.put (T := 118) (e := 5) HBB.out HB2.out (bs' := bs ++ Lib.strCells ⟨t.toArray⟩) (by rw [List.length_append, Lib.strCells_length]; exact HO2.out) Tryz.Builder_Extra_169.neB5)
theorem Bd.below {B b : Nat} {bs : List Value} {w w' : World} {C : Nat} (h : Bd B b bs w) (hb : Below C w w') (hC : w.heap.size ≤ C) : Bd B b bs w' := by
 have key : ∀ p, Lib.BuilderAt 118 5 B b p bs w → Lib.BuilderAt 118 5 B b p bs w' := by
  rintro p ⟨hB, v, hk, hown, hne⟩
  have hlt : b < w.heap.size := by
   rcases Nat.lt_or_ge b w.heap.size with h' | h'
   ·exact h'
   ·simp [Array.getElem?_eq_none h'] at hk
  refine ⟨hB, v, (hb.block b (by omega)).trans hk, ?_, hne⟩
  refine ⟨hown.1, ?_⟩
  rcases hown.2 with h0 | ⟨g, cap, cur, hv, hg, hh, r⟩
  ·exact .inl h0
  ·have hlt : g < w.heap.size := by
    rcases Nat.lt_or_ge g w.heap.size with h' | h'
    ·exact h'
    ·rw [Array.getElem?_eq_none h'] at hh; cases hh
   exact .inr ⟨g, cap, cur, hv, hg, (hb.block g (by omega)).trans hh, r⟩
 exact h.elim (fun h => .inl (key _ h)) (fun h => .inr (key _ h))
theorem heap_new (w : World) (o : Obj) : (w.alloc o).heap[w.heap.size]? = some o := by
 show (w.heap.push o)[w.heap.size]? = some o
 simp
/-- A builder that was just laid. -/
theorem Bd.new (w : World) : Bd w.heap.size w.heap.size [] (w.alloc (.cells #[.pointer none, .slice none 0 0] 118)) :=
 .inl ⟨Nat.le_refl _, .slice none 0 0, heap_new w _, World.ownsRow_nil _ _ _ _, by simp [Value.ownBlock]⟩
end Go.Proofs.YtpdedfpacklnoaaGreatDoor
namespace Go.Proofs.YtpdedfpacklnoaaGreatDoor
open Go.RowKit Go.BL Go.Ct Go.Sl Go.Fl Go.Shelf

theorem lineT_le : ∀ (l : List Ln) (k : Nat) (h : k < l.length), (lineT l[k]).length ≤ (linesT l).length := by
 intro l k h
 have h1 := linesT_take h
 have h2 := linesT_le l (k + 1)
 rw [h1, List.length_append] at h2
 omega
set_option maxHeartbeats 4000000 in
set_option maxRecDepth 100000 in
theorem lines_any (l : List Ln) (v : Value) (w : World) (hl : Lns w v l) (hf : ∀ x ∈ l, fineLn x) (hlen : (linesT l).length ≤ 4294967296) (ht : Tab w) : Calls Tryz.prog 23 #[v] w (RetV (.string ⟨(linesT l).toArray⟩) w) := by
 obtain ⟨A, cp, rfl⟩ := hl.form
 have hmx := hl.1
 obtain ⟨w0, hw0⟩ : ∃ w0, w.alloc (.cells #[.pointer none, .slice none 0 0] 118) = w0 := ⟨_, rfl⟩
 have HB0 : Hid (Below w.heap.size w w0) := Lib.hid (by rw [← hw0]; exact (Below.refl _ _).alloc (Nat.le_refl _) _)
 have HDW := Lib.hid hl
 have HBD : Hid (Bd w.heap.size w.heap.size (Lib.byteCells (linesT (l.take 0))) w0) := Lib.hid (by rw [← hw0]; exact Bd.new w)
 have HF := Lib.hid hf
 have HL := Lib.hid hlen
 have HTB := Lib.hid ht
 clear hl hf hlen ht
 go_enter Tryz.func23, Tryz.ntmps23
 go_wp2_with fail
 clear hw0
 go_loopw [8] (fun j wr => ∃ k : Nat, k ≤ l.length ∧ j = .int .i64 (k : Int) ∧ Hid (Bd w.heap.size w.heap.size (Lib.byteCells (linesT (l.take k))) wr) ∧ Hid (Below w.heap.size w wr) ) (fun j _ => l.length - (intOf j).toNat)
 case atStart => exact ⟨0, by omega, rfl, HBD, HB0⟩
 case round =>
  obtain ⟨k, hk, rfl, HBK, HB⟩ := hrel
  have HDR := Lib.hid (HDW.out.below HB.out (Nat.le_refl _))
  by_cases hlt : k < l.length
  ·obtain ⟨b, off, rfl, hbl, hc⟩ := ln_cells HDR.out (by omega)
   obtain ⟨c1, c2, c3⟩ := hc k hlt
   have hfx := HF.out _ (List.getElem_mem hlt)
   have hts := linesT_take hlt
   have htl := lineT_le l k hlt
   obtain ⟨⟨it, q, p⟩, hx⟩ : ∃ x, l[k]'hlt = x := ⟨_, rfl⟩
   rw [hx] at c1 c2 c3 hfx hts htl
   obtain ⟨f1, f2, f3⟩ := hfx
   dsimp only at f1 f2 f3
   have HBL := Lib.hid hbl
   have hit := fun w ht => itoa_any q (by omega) f2 w ht
   have hpr := fun w ht => T.print_any p f3 w ht
   obtain ⟨D, hD⟩ : ∃ e, Lib.itoa q = e := ⟨_, rfl⟩
   obtain ⟨R, hR⟩ : ∃ e, prt p = e := ⟨_, rfl⟩
   obtain ⟨e1, he1⟩ : ∃ e, it ++ [32] = e := ⟨_, rfl⟩
   obtain ⟨e2, he2⟩ : ∃ e, e1 ++ D = e := ⟨_, rfl⟩
   obtain ⟨e3, he3⟩ : ∃ e, e2 ++ [32] = e := ⟨_, rfl⟩
   obtain ⟨e4, he4⟩ : ∃ e, e3 ++ R = e := ⟨_, rfl⟩
   obtain ⟨e5, he5⟩ : ∃ e, e4 ++ [10] = e := ⟨_, rfl⟩
   have hE : e5 = lineT ⟨it, q, p⟩ := by
    rw [← he5, ← he4, ← he3, ← he2, ← he1, ← hD, ← hR]
    unfold lineT
    simp only [List.append_assoc, List.cons_append, List.nil_append]
   have HE : Hid (linesT (l.take k) ++ e5 = linesT (l.take (k + 1))) := Lib.hid (by rw [hts, hE])
   have hle : e5.length ≤ 4294967296 := by rw [hE]; exact Nat.le_trans htl HL.out
   have l5 : e5.length = e4.length + 1 := by rw [← he5]; simp
   have l4 : e4.length = e3.length + R.length := by rw [← he4]; simp
   have l3 : e3.length = e2.length + 1 := by rw [← he3]; simp
   have l2 : e2.length = e1.length + D.length := by rw [← he2]; simp
   have l1 : e1.length = it.length + 1 := by rw [← he1]; simp
   have r1 := cat_run it [32] e1 he1 (by simp; omega)
   have r2 := cat_run e1 D e2 he2 (by omega)
   have r3 := cat_run e2 [32] e3 he3 (by simp; omega)
   have r4 := cat_run e3 R e4 he4 (by omega)
   have r5 := cat_run e4 [10] e5 he5 (by simp; omega)
   have HW5 : Hid (e5.length ≤ 4294967296) := Lib.hid hle
   rw [hD] at hit
   rw [hR] at hpr
   unfold T.str at hpr
   obtain ⟨w1, hw1⟩ : ∃ w1, wr.alloc (.cells #[.string ⟨it.toArray⟩, .int .i64 q, .int .u64 (p : Int)] 54) = w1 := ⟨_, rfl⟩
   have hbw : Below wr.heap.size wr w1 := by rw [← hw1]; exact (Below.refl _ _).alloc (Nat.le_refl _) _
   have HB1 := Lib.hid (HB.out.trans (hbw.mono HB.out.size))
   have HA1 := Lib.hid hbw
   have HBK1 := Lib.hid (HBK.out.below hbw (Nat.le_refl _))
   have HX : Hid (wr.heap.size < w1.heap.size) := Lib.hid (by rw [← hw1]; simp)
   have HXC : Hid (w1.heap[wr.heap.size]? = some (.cells #[.string ⟨it.toArray⟩, .int .i64 q, .int .u64 (p : Int)] 54 (0, 0))) := Lib.hid (by rw [← hw1]; exact heap_new wr _)
   have HWW : Hid (w.heap.size < wr.heap.size) := Lib.hid (by
    rcases HBK.out with ⟨_, v, hv, _⟩ | ⟨_, v, hv, _⟩ <;>
    ·rcases Nat.lt_or_ge w.heap.size wr.heap.size with h | h
     ·exact h
     ·rw [Array.getElem?_eq_none h] at hv; cases hv)
   obtain ⟨d1, d2, d3⟩ : w1.cell? ⟨wr.heap.size, 0, none⟩ = some (.string ⟨it.toArray⟩) ∧ w1.cell? ⟨wr.heap.size, 1, none⟩ = some (.int .i64 q) ∧ w1.cell? ⟨wr.heap.size, 2, none⟩ = some (.int .u64 (p : Int)) := by rw [← hw1]; exact tri_at wr _ _ _ 54 _ rfl
   clear hc hx hts htl hD hR he1 he2 he3 he4 he5 hE hle l1 l2 l3 l4 l5 hbl f1 f2 f3 hbw
   go_upto_region 5 with fail
   clear hw1 c1 c2 c3
   go_region_held (fun u => u.cell? ⟨wr.heap.size, 0, none⟩ = some (.string ⟨it.toArray⟩) ∧ u.cell? ⟨wr.heap.size, 1, none⟩ = some (.int .i64 q) ∧ u.cell? ⟨wr.heap.size, 2, none⟩ = some (.int .u64 (p : Int)))
    (first
     | exact ⟨d1, d2, d3⟩
     | exact ⟨t0, t1, t2⟩
     | exact ⟨s0, s1, s2⟩
     | exact ⟨r0', r1', r2'⟩)
    (first
     | (go_at_call 63
        refine (hit _ (HTB.out.below HB1.out.drew)).mono ?_
        rintro e w2 ⟨rfl, hb2⟩
        have hb2' : Below w1.heap.size w1 w2 := (Below.refl w1.heap.size w1).drew.trans hb2
        have HA2 := Lib.hid (HA1.out.trans (hb2'.mono HA1.out.size))
        have HB2 := Lib.hid (HB1.out.trans (hb2'.mono HB1.out.size))
        have HX2 : Hid (wr.heap.size < w2.heap.size) := Lib.hid (Nat.lt_of_lt_of_le HX.out hb2'.size)
        have HXC2 : Hid (w2.heap[wr.heap.size]? = _) := Lib.hid ((hb2'.block _ HX.out).trans HXC.out)
        have r0' := old_cell hb2' HX.out d1
        have r1' := old_cell hb2' HX.out d2
        have r2' := old_cell hb2' HX.out d3
        clear hb2 hb2')
     | (go_at_call 61
        refine (hpr _ (HTB.out.below HB2.out)).mono ?_
        rintro e w3 ⟨rfl, hb3⟩
        have HA3 := Lib.hid (HA2.out.trans (hb3.mono HA2.out.size))
        have HB3 := Lib.hid (HB2.out.trans (hb3.mono HB2.out.size))
        have HX3 : Hid (wr.heap.size < w3.heap.size) := Lib.hid (Nat.lt_of_lt_of_le HX2.out hb3.size)
        have HXC3 : Hid (w3.heap[wr.heap.size]? = _) := Lib.hid ((hb3.block _ HX2.out).trans HXC2.out)
        have s0 := old_cell hb3 HX2.out r0'
        have s1 := old_cell hb3 HX2.out r1'
        have s2 := old_cell hb3 HX2.out r2'
        clear hb3)
     | (go_at_call 62
        refine (writeS_any w.heap.size w.heap.size (linesT (l.take k)) e5 w3 (HBK.out.below HA3.out (Nat.le_refl _)) (by have h1 := HW5.out; have h2 := linesT_le l k; have h3 := HL.out; omega) (Nat.le_of_lt (Nat.lt_trans HWW.out HX3.out))).mono ?_
        rintro e w4 ⟨rfl, hbd4, hb4, ho4⟩
        have hx4 := ho4 _ _ HXC3.out (Nat.ne_of_gt HWW.out) (fun _ _ h => by injection h with _ h; cases h)
        have HBD4 := Lib.hid hbd4
        have HB4 := Lib.hid (HB3.out.trans hb4)
        have t0 : w4.cell? ⟨wr.heap.size, 0, none⟩ = some (.string ⟨it.toArray⟩) := by simp [World.cell?, hx4]
        have t1 : w4.cell? ⟨wr.heap.size, 1, none⟩ = some (.int .i64 q) := by simp [World.cell?, hx4]
        have t2 : w4.cell? ⟨wr.heap.size, 2, none⟩ = some (.int .u64 (p : Int)) := by simp [World.cell?, hx4]
        clear hbd4 hb4 ho4 hx4)
     | fail)
   go_wp2_with fail
   exact ⟨⟨k + 1, by omega, by go_num, Lib.hid (by rw [← HE.out]; exact HBD4.out), HB4⟩, by simp [intOf]; omega⟩
  ·have HV : Hid (linesT (l.take k) = linesT l) := Lib.hid (by rw [List.take_of_length_le (by omega)])
   have hst := Tryz.Builder_String_any w.heap.size w.heap.size (linesT (l.take k)) wr HBK.out HB.out.size
   rw [HV.out] at hst
   go_wp2_with fail
   go_at_call 64
   refine hst.mono ?_
   clear hst
   rintro e w9 ⟨rfl, hb9⟩
   have HB9 := Lib.hid (HB.out.trans hb9)
   clear hb9
   go_wp2_with fail
   go_ret
   exact ⟨rfl, HB9.out⟩
end Go.Proofs.YtpdedfpacklnoaaGreatDoor
