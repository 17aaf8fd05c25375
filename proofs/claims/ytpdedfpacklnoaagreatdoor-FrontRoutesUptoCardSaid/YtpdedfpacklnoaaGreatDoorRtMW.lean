/- Frames of worlds, of no program: which blocks may have turned; blocks of one cell. Readers that no call made. A reader that stands at a place of its bytes; Over makes one; Left, At. wire.cut, wire.try -/
import Derived.Test.YtpdedfpacklnoaaGreatDoorRtMX
import Derived.OneCell
import Derived.Handy
import Derived.BigQuiet
import Derived.Deep.QuietTactic
import Derived.Tactics2
import Derived.Defers
import Derived.Recover
import Derived.WalkLawsBesides
import Derived.Laws.Pointers
import Derived.Test.YtpdedfpacklnoaaGreatDoorRtMV
import Derived.StillTailTactics
import Derived.Laws.BytesArg
import Derived.Deep.RegionWith
import Derived.Deep.RegionHeld3
namespace Go.BL
set_option maxRecDepth 100000
open Go.RowKit
/-- Of the old blocks none has turned but those of the list. -/
structure Kept (rows : List Nat) (a w : World) : Prop where
 os : w.os = a.os
 tape : w.tape = a.tape
 output : w.output = a.output
 size : a.heap.size ≤ w.heap.size
 block : ∀ b, b < a.heap.size → b ∉ rows → w.heap[b]? = a.heap[b]?
namespace Kept
variable {rows rows' : List Nat} {a b c w w' : World}
theorem refl (rows : List Nat) (w : World) : Kept rows w w := ⟨rfl, rfl, rfl, Nat.le_refl _, fun _ _ _ => rfl⟩
theorem trans (h : Kept rows a b) (k : Kept rows' b c) (hr : ∀ x ∈ rows', x ∈ rows ∨ a.heap.size ≤ x) : Kept rows a c :=
 ⟨k.os.trans h.os, k.tape.trans h.tape, k.output.trans h.output, Nat.le_trans h.size k.size, fun i hi hn => (k.block i (Nat.lt_of_lt_of_le hi h.size) (fun hx => by
  rcases hr i hx with h1 | h1
  ·exact hn h1
  ·omega)).trans (h.block i hi hn)⟩
theorem then_ (h : Kept rows a b) (k : Kept rows b c) : Kept rows a c := h.trans k (fun _ hx => .inl hx)
theorem mono (h : Kept rows a b) (hr : ∀ x ∈ rows, x ∈ rows' ∨ a.heap.size ≤ x) : Kept rows' a b :=
 ⟨h.os, h.tape, h.output, h.size, fun i hi hn => h.block i hi (fun hx => by
  rcases hr i hx with h1 | h1
  ·exact hn h1
  ·omega)⟩
theorem drewN (h : Kept rows a w) (n : Nat) : Kept rows a (w.drewN n) := ⟨h.os, h.tape, h.output, h.size, h.block⟩
theorem drew (h : Kept rows a w) : Kept rows a w.drew := ⟨h.os, h.tape, h.output, h.size, h.block⟩
theorem alloc (h : Kept rows a w) (o : Obj) : Kept rows a (w.alloc o) :=
 ⟨h.os, h.tape, h.output, Nat.le_trans h.size (by simp), fun i hi hn => (Below.heap_alloc w o i (Nat.lt_of_lt_of_le hi h.size)).trans (h.block i hi hn)⟩
theorem setCell (h : Kept rows a w) {p : Addr} (hp : p.block ∈ rows ∨ a.heap.size ≤ p.block) (u : Value) : Kept rows a (w.setCell p u) :=
 ⟨h.os, h.tape, h.output, by simpa [World.setCell] using h.size, fun i hi hn => (Below.heap_setCell w p u i (by
  rintro rfl
  rcases hp with hp | hp
  ·exact hn hp
  ·omega)).trans (h.block i hi hn)⟩
theorem of_below {B : Nat} (h : Below B a w) (hB : a.heap.size ≤ B) : Kept rows a w := ⟨h.os, h.tape, h.output, h.size, fun i hi _ => h.block i (by omega)⟩
theorem below {B : Nat} (h : Kept rows a w) (hB : B ≤ a.heap.size) (hr : ∀ x ∈ rows, B ≤ x) : Below B a w :=
 ⟨h.os, h.tape, h.output, h.size, fun i hi => h.block i (by omega) (fun hx => by have := hr i hx; omega)⟩
end Kept
/-- A block of one cell. -/
def Box (w : World) (b : Nat) (v : Value) (t : TypeId) : Prop := w.heap[b]? = some (.cells #[v] t (0, 0))
namespace Box
variable {w w' : World} {b : Nat} {v : Value} {t : TypeId}
theorem lt (h : Box w b v t) : b < w.heap.size := by
 rcases Nat.lt_or_ge b w.heap.size with h' | h'
 ·exact h'
 ·unfold Box at h; rw [Array.getElem?_eq_none h'] at h; cases h
theorem cell (h : Box w b v t) : w.cell? ⟨b, 0, none⟩ = some v := by rw [cell_of_row w b 0 _ t (0, 0) h]; rfl
theorem free (h : Box w b v t) : w.frozen? ⟨b, 0, none⟩ = false := by
 unfold Box at h; unfold World.frozen?; rw [h]; rfl
theorem new (w : World) (v : Value) (t : TypeId) : Box (w.alloc (.cells #[v] t)) w.heap.size v t := heap_alloc_new w _
theorem kept {rows : List Nat} (h : Box w b v t) (k : Kept rows w w') (hb : b ∉ rows) : Box w' b v t := (k.block b h.lt hb).trans h
theorem alloc (h : Box w b v t) (o : Obj) : Box (w.alloc o) b v t := (Below.heap_alloc w o b h.lt).trans h
theorem set_ (h : Box w b v t) (u : Value) : Box (w.setCell ⟨b, 0, none⟩ u) b u t := by
 unfold Box at h ⊢
 simp [World.setCell, Array.getElem?_modify, h]
theorem far (h : Box w b v t) {p : Addr} (hp : b ≠ p.block) (u : Value) : Box (w.setCell p u) b v t := (Below.heap_setCell w p u b hp).trans h
theorem drewN (h : Box w b v t) (n : Nat) : Box (w.drewN n) b v t := h
end Box
theorem Rd.kept {w w' : World} {A : Option Addr} {n : Nat} {bs : List Nat} {rows : List Nat} (h : Rd w A n bs) (k : Kept rows w w') (hr : ∀ a, A = some a → 0 < n → a.block ∉ rows) : Rd w' A n bs := by
 refine ⟨h.1, h.2.1, h.2.2.1, fun hn => ?_⟩
 obtain ⟨b, off, e, hlt, hc⟩ := h.2.2.2 hn
 refine ⟨b, off, e, Nat.lt_of_lt_of_le hlt k.size, fun i hi => ?_⟩
 exact (World.cell?_of_block (a := ⟨b, off + i, none⟩) (w := w) (w' := w') (k.block b hlt (hr _ e hn))).trans (hc i hi)
theorem Own.kept {w w' : World} {B : Nat} {v : Value} {bs : List Nat} {rows : List Nat} (h : Own w B v bs) (k : Kept rows w w') (hr : ∀ g, v.ownBlock = some g → g ∉ rows) : Own w' B v bs := by
 refine ⟨⟨h.1.1, ?_⟩, h.2⟩
 have hlt := h.lt
 rcases h.1.2 with h0 | ⟨g, cap, cur, hv, hg, hh, r⟩
 ·exact .inl h0
 ·have e : v.ownBlock = some g := by rw [hv]; rfl
  exact .inr ⟨g, cap, cur, hv, hg, (k.block g (hlt g e) (hr g e)).trans hh, r⟩
theorem Rd.cutIf {w : World} {G : Option Addr} {len c i n : Nat} {bs : List Nat} (h : Rd w G len bs) (hn : i + n ≤ len) (hc : len ≤ c) :
  Rd w (if c = i then G else G.map fun x => x.add i) n ((bs.drop i).take n) := by
 refine ⟨by rw [List.length_take, List.length_drop, h.1]; omega, by have := h.2.1; omega, fun x hx => h.2.2.1 x (List.mem_of_mem_drop (List.mem_of_mem_take hx)), fun hpos => ?_⟩
 obtain ⟨b, off, rfl, hlt, hcell⟩ := h.2.2.2 (by omega)
 rw [if_neg (by omega)]
 refine ⟨b, off + i, by simp [add_none], hlt, fun j hj => ?_⟩
 rw [Nat.add_assoc, hcell (i + j) (by omega)]
 congr 3
 rw [List.getD_eq_getElem?_getD, List.getD_eq_getElem?_getD, List.getElem?_take_of_lt hj, List.getElem?_drop]
theorem Own.len {w : World} {B n : Nat} {v : Value} {bs : List Nat} (h : Own w B v bs) (hn : bs.length = n) : ∃ A cap, v = .slice A n cap ∧ Rd w A n bs ∧ Own w B (.slice A n cap) bs := by
 subst hn
 obtain ⟨A, cap, rfl, hr⟩ := h.rd
 exact ⟨A, cap, rfl, hr, h⟩
theorem Own.setOld {w w1 : World} {g : Nat} {v : Value} {T : List Nat} (hg : g < w.heap.size) (h : Own w1 w.heap.size v T) {p : Addr} (hp : p.block = g) (u : Value) : Own (w1.setCell p u) w.heap.size v T :=
 h.kept (rows := [g]) ((Kept.refl _ w1).setCell (.inl (by simp [hp])) u) (fun k hk hx => by
  have := h.block_ge k hk
  simp only [List.mem_singleton] at hx; omega)
theorem Own.rdOf {w : World} {B n cap : Nat} {A : Option Addr} {bs : List Nat} (h : Own w B (.slice A n cap) bs) (hn : bs.length = n) : Rd w A n bs := by
 obtain ⟨A', cap', e, hr, _⟩ := h.len hn
 injection e with e1 _ _
 subst e1
 exact hr
end Go.BL
namespace Go.Proofs.YtpdedfpacklnoaaGreatDoor.W
set_option maxRecDepth 100000
open Go.RowKit Go.BL Go.Wr

theorem made_box (g : Nat) (b : Bool) (w : World) (h : w.cell? ⟨g, 2, none⟩ = some (.bool b)) : Calls Tryz.prog 225 #[.pointer (some ⟨g, 0, none⟩)] w fun e w' => e = .returned (.bool b) ∧ w = w' := by
 go_enter Tryz.func225, Tryz.ntmps225
 go_wp2
 go_ret
 exact ⟨by simp, rfl⟩
end Go.Proofs.YtpdedfpacklnoaaGreatDoor.W
namespace Go.Proofs.YtpdedfpacklnoaaGreatDoor.W
set_option maxRecDepth 100000
open Go.RowKit Go.BL Go.Wr
/-- The object at g, below B, is a reader over bs, which lie below B, that stands at i. -/
def Rdr (w : World) (B g : Nat) (bs : List Nat) (i : Nat) : Prop :=
 ∃ G c, w.heap[g]? = some (.cells #[.slice G bs.length c, .int .i64 (i : Int), .bool true] 270 (0, 0)) ∧ Rd w G bs.length bs ∧ i ≤ bs.length ∧ bs.length ≤ 140737488355000 ∧ g < B ∧ bs.length ≤ c ∧ ∀ a, G = some a → a.block < B
theorem Rdr.cells {w : World} {B g i : Nat} {bs : List Nat} (h : Rdr w B g bs i) : ∃ G c, w.cell? ⟨g, 0, none⟩ = some (.slice G bs.length c) ∧ w.cell? ⟨g, 1, none⟩ = some (.int .i64 (i : Int)) ∧ w.cell? ⟨g, 2, none⟩ = some (.bool true) ∧ w.frozen? ⟨g, 1, none⟩ = false ∧ Rd w G bs.length bs ∧ bs.length ≤ c := by
 obtain ⟨G, c, hh, hr, _, _, _, hcap, _⟩ := h
 refine ⟨G, c, by rw [cell_of_row w g 0 _ 270 (0, 0) hh]; rfl, by rw [cell_of_row w g 1 _ 270 (0, 0) hh]; rfl, by rw [cell_of_row w g 2 _ 270 (0, 0) hh]; rfl, ?_, hr, hcap⟩
 unfold World.frozen?
 rw [hh]
 rfl
theorem Rdr.lt {w : World} {B g i : Nat} {bs : List Nat} (h : Rdr w B g bs i) : g < w.heap.size := by
 obtain ⟨G, c, hh, _⟩ := h
 rcases Nat.lt_or_ge g w.heap.size with h' | h'
 ·exact h'
 ·rw [Array.getElem?_eq_none h'] at hh; cases hh
theorem Rdr.ltB {w : World} {B g i : Nat} {bs : List Nat} (h : Rdr w B g bs i) : g < B := by
 obtain ⟨G, c, _, _, _, _, hb, _⟩ := h; exact hb
theorem Rdr.le {w : World} {B g i : Nat} {bs : List Nat} (h : Rdr w B g bs i) : i ≤ bs.length := by
 obtain ⟨G, c, _, _, hb, _⟩ := h; exact hb
theorem Rdr.len {w : World} {B g i : Nat} {bs : List Nat} (h : Rdr w B g bs i) : bs.length ≤ 140737488355000 := by
 obtain ⟨G, c, _, _, _, hb, _⟩ := h; exact hb
/-- The reader's object is not its bytes' block. -/
theorem rdr_ne {w : World} {g n : Nat} {G : Option Addr} {bs : List Nat} {i : Int} {c : Nat} (hh : w.heap[g]? = some (.cells #[.slice G n c, .int .i64 i, .bool true] 270 (0, 0))) (hr : Rd w G n bs) : ∀ a, G = some a → 0 < n → a.block ≠ g := by
 rintro a rfl hn rfl
 obtain ⟨b, off, e, _, hc⟩ := hr.2.2.2 hn
 injection e with e
 subst e
 have h0 := hc 0 hn
 rw [cell_of_row w b (off + 0) _ 270 (0, 0) hh] at h0
 match off, h0 with
 | 0, h0 => simp at h0
 | 1, h0 => simp at h0
 | 2, h0 => simp at h0
 | k + 3, h0 => simp at h0
theorem Rdr.kept {w w' : World} {B g i : Nat} {bs : List Nat} {rows : List Nat} (h : Rdr w B g bs i) (k : Kept rows w w') (hr : ∀ x ∈ rows, B ≤ x) : Rdr w' B g bs i := by
 have hlt := h.lt
 obtain ⟨G, c, hh, hd, hi, hl, hg, hcap, hG⟩ := h
 exact ⟨G, c, (k.block g hlt (fun hx => by have := hr g hx; omega)).trans hh, hd.kept k (fun a e _ hx => by have := hr _ hx; have := hG a e; omega), hi, hl, hg, hcap, hG⟩
theorem Rdr.drewN {w : World} {B g i : Nat} {bs : List Nat} (h : Rdr w B g bs i) (n : Nat) : Rdr (w.drewN n) B g bs i :=
 h.kept (rows := []) ((Kept.refl [] w).drewN n) (fun _ hx => by cases hx)
theorem Rdr.alloc {w : World} {B g i : Nat} {bs : List Nat} (h : Rdr w B g bs i) (o : Obj) : Rdr (w.alloc o) B g bs i :=
 h.kept (rows := []) ((Kept.refl [] w).alloc o) (fun _ hx => by cases hx)
theorem Rdr.far {w : World} {B g i : Nat} {bs : List Nat} (h : Rdr w B g bs i) {p : Addr} (hp : B ≤ p.block) (u : Value) : Rdr (w.setCell p u) B g bs i :=
 h.kept (rows := [p.block]) ((Kept.refl _ w).setCell (.inl (by simp)) u) (fun x hx => by simp at hx; omega)
/-- The reader goes to j. -/
theorem Rdr.to {w : World} {B g i : Nat} {bs : List Nat} (h : Rdr w B g bs i) (j : Nat) (hj : j ≤ bs.length) : Rdr (w.setCell ⟨g, 1, none⟩ (.int .i64 (j : Int))) B g bs j := by
 obtain ⟨G, c, hh, hd, hi, hl, hg, hcap, hG⟩ := h
 refine ⟨G, c, ?_, ?_, hj, hl, hg, hcap, hG⟩
 ·simp [World.setCell, Array.getElem?_modify, hh]
 ·exact hd.kept (rows := [g]) ((Kept.refl _ w).setCell (.inl (by simp)) _) (fun a e hn hx => rdr_ne hh hd a e hn (by simpa using hx))
theorem Rdr.toI {w : World} {B g i : Nat} {bs : List Nat} {z : Int} (h : Rdr w B g bs i) (j : Nat) (hj : j ≤ bs.length) (hz : z = (j : Int)) : Rdr (w.setCell ⟨g, 1, none⟩ (.int .i64 z)) B g bs j := by
 subst hz; exact h.to j hj
theorem over_rdr (A : Option Addr) (n cap : Nat) (bs : List Nat) (w : World) (hr : Rd w A n bs) (hn : n ≤ 140737488355000) :
  Calls Tryz.prog 180 #[.slice A n cap] w fun e w' => ∃ g, e = .returned (.pointer (some ⟨g, 0, none⟩)) ∧ w.heap.size ≤ g ∧ Rdr w' w'.heap.size g bs 0 ∧ Below w.heap.size w w' ∧ ∀ (rows : List Nat) (W : World), (∀ x ∈ rows, x < w.heap.size) → Kept rows w' W → Rdr W w'.heap.size g bs 0 := by
 have Hr := Lib.hid hr
 have hl := hr.1
 clear hr
 have Hl := Lib.hid hl
 clear hl
 go_enter Tryz.func180, Tryz.ntmps180
 go_wp2_with (at_builtin; refine wpList_appB rfl (.const (.slice none 0 0)) (.tmp 3) 75 rfl Tryz.underlying75 info5 rfl (Own.nil w w.heap.size) rfl Hr.out (by simp; omega) (Nat.le_refl _) ?_; intro v w1 ho hb; have hlt := ho.lt; have hcl := ho.1.2; obtain ⟨G, c, rfl, hrd⟩ := ho.rd; have Hrd := Lib.hid hrd; have Hlt := Lib.hid hlt; have Hcl := Lib.hid hcl; have Hb := Lib.hid hb; clear ho hb hrd hlt hcl)
 go_ret
 have hblk : ∀ a, G = some a → a.block < w1.heap.size ∧ w.heap.size ≤ a.block := by
  rcases Hcl.out with ⟨e, h0⟩ | ⟨g', cap', cur, e, hge, hh, _⟩
  ·injection e with e1 _ _
   rintro a rfl; cases e1
  ·injection e with e1 _ _
   rintro a rfl
   injection e1 with e1
   subst e1
   exact ⟨Hlt.out g' rfl, hge⟩
 have hR : Rdr (w1.alloc (.cells #[.slice G bs.length c, .int .i64 0, .bool true] 270)) (w1.heap.size + 1) w1.heap.size bs 0 := by
  refine ⟨G, c, ?_, (by have h := Hrd.out; rw [List.nil_append] at h; exact h.alloc _), by omega, by rw [Hl.out]; exact hn, by omega, ?_, fun a e => by have := (hblk a e).1; omega⟩
  ·show (w1.heap.push _)[w1.heap.size]? = _
   simp
  ·rcases Hcl.out with ⟨e, h0⟩ | ⟨g', cap', cur, e, _, _, h1, _⟩
   ·simp only [List.nil_append] at h0; omega
   ·injection e with _ _ e3
    simp only [List.nil_append] at h1; omega
 refine ⟨w1.heap.size, rfl, Hb.out.size, by simpa using hR, Hb.out.alloc Hb.out.size _, fun rows W hrows hk => ?_⟩
 have hlt := hR.lt
 obtain ⟨G2, c2, hh, hd, hi, hl, hg, hcap, hG⟩ := hR
 have hsz := Hb.out.size
 have e2 : G2 = G := by
  rw [show (w1.alloc (.cells #[.slice G bs.length c, .int .i64 0, .bool true] 270)).heap[w1.heap.size]? = some (.cells #[.slice G bs.length c, .int .i64 0, .bool true] 270) by show (w1.heap.push _)[w1.heap.size]? = _; simp] at hh
  simp at hh
  exact hh.1.symm
 subst e2
 refine ⟨G2, c2, (hk.block _ hlt (fun hx => by have := hrows _ hx; omega)).trans hh, hd.kept hk (fun a e _ hx => by have := hrows _ hx; have := (hblk a e).2; omega), hi, hl, by simp, hcap, fun a e => by have := hG a e; simp; omega⟩
theorem left_any (B g : Nat) (bs : List Nat) (i : Nat) (w : World) (h : Rdr w B g bs i) : Calls Tryz.prog 185 #[.pointer (some ⟨g, 0, none⟩)] w fun e w' => e = .returned (.int .i64 ((bs.length - i : Nat) : Int)) ∧ ∃ N, w' = w.drewN N := by
 obtain ⟨G, c, h0, h1, h2, _, hr, _⟩ := h.cells
 have hi : (i : Int) ≤ (bs.length : Int) := by have := h.le; omega
 have hm := hr.2.1
 unfold maxLen at hm
 have Hr := Lib.hid hr
 have H := Lib.hid h
 clear hr h
 go_enter Tryz.func185, Tryz.ntmps185
 go_wp2_with fail
 refine (made_box g true _ h2).mono ?_
 rintro e w' ⟨rfl, rfl⟩
 go_wp2
 go_quiet (fail)
 go_wp2
 go_ret
 exact ⟨ret_int (by omega), _, rfl⟩
theorem end_any (B g : Nat) (bs : List Nat) (i : Nat) (w : World) (h : Rdr w B g bs i) : Calls Tryz.prog 190 #[.pointer (some ⟨g, 0, none⟩)] w fun e w' => e = .returned (.int .i64 (if i < bs.length then 3 else 0)) ∧ ∃ N, w' = w.drewN N := by
 obtain ⟨G, c, h0, h1, h2, _, hr, _⟩ := h.cells
 have hle := h.le
 have Hr := Lib.hid hr
 have H := Lib.hid h
 clear hr h
 by_cases hlt : i < bs.length
 ·go_enter Tryz.func190, Tryz.ntmps190
  go_wp2_with fail
  refine (made_box g true _ h2).mono ?_
  rintro e w' ⟨rfl, rfl⟩
  go_wp2_with fail
  refine (left_any B g bs i _ H.out).mono ?_
  rintro e w' ⟨rfl, N, rfl⟩
  have hpos : (0 : Int) < ((bs.length - i : Nat) : Int) := by omega
  go_wp2
  go_ret
  exact ⟨rfl, _, rfl⟩
 ·go_enter Tryz.func190, Tryz.ntmps190
  go_wp2_with fail
  refine (made_box g true _ h2).mono ?_
  rintro e w' ⟨rfl, rfl⟩
  go_wp2_with fail
  refine (left_any B g bs i _ H.out).mono ?_
  rintro e w' ⟨rfl, N, rfl⟩
  have hpos : ¬ (0 : Int) < ((bs.length - i : Nat) : Int) := by omega
  go_wp2
  go_ret
  exact ⟨rfl, _, rfl⟩
end Go.Proofs.YtpdedfpacklnoaaGreatDoor.W
namespace Go.Proofs.YtpdedfpacklnoaaGreatDoor.W
set_option maxRecDepth 100000
open Go.RowKit Go.BL Go.Wr

theorem cut_any (n : Int) (w : World) : Calls Tryz.prog 184 #[.int .i64 n] w fun e w' => e = .panicked [{ v := .iface 37 (.int .i64 n), recovered := false }] ∧ w = w' := by
 go_enter Tryz.func184, Tryz.ntmps184
 go_wp2
 exact ⟨rfl, rfl, rfl⟩

theorem ta_nil (w : World) : (Instr.typeAssert Value.nilIface 20 37 true).run Tryz.prog w = .ok (.tuple #[.int .i64 0, .bool false]) w := by kernel_rfl
theorem ta_err (n : Int) (w : World) : (Instr.typeAssert (.iface 37 (.int .i64 n)) 20 37 true).run Tryz.prog w = .ok (.tuple #[.int .i64 n, .bool true]) w := by kernel_rfl
theorem catch_idle (p : Addr) (x : Value) (w : World) (hc : w.cell? p = some x) (hz : w.frozen? p = false) :
  CallsD Tryz.prog 224 #[.pointer (some p)] .returning w fun e u' w' => e = .returned (.tuple #[]) ∧ u' = .returning ∧ w' = w.setCell p (.int .i64 0) := by
 have h1 := ta_nil
 refine callsD_of_wpS Tryz.func224 rfl fun c₀ cs hu => ?_
 apply wpS_seq
 apply wpS_region
 simp [wpOpsS, go_sem, recoverD, hu, Tryz.ntmps224, Exit.thenS]
 refine wpS_of_wp ?_
 simp only [Array.replicate_succ, Array.replicate_zero, List.push_toArray, List.nil_append, List.cons_append]
 go_wp2
 simp [bodyPostS, results, Tryz.results224]
 cases c₀
 simp_all
theorem catch_err (p : Addr) (x : Value) (n : Int) (older : List PanicEntry) (w : World) (hc : w.cell? p = some x) (hz : w.frozen? p = false) :
  CallsD Tryz.prog 224 #[.pointer (some p)] (.panicking ({ v := .iface 37 (.int .i64 n), recovered := false } :: older)) w fun e u' w' =>
   e = .returned (.tuple #[]) ∧ u' = .panicking ({ v := .iface 37 (.int .i64 n), recovered := true } :: older) ∧ w' = w.setCell p (.int .i64 n) := by
 have h1 := ta_err
 refine callsD_of_wpS Tryz.func224 rfl fun c₀ cs hu => ?_
 apply wpS_seq
 apply wpS_region
 simp [wpOpsS, go_sem, recoverD, hu, Tryz.ntmps224, Exit.thenS]
 refine wpS_of_wp ?_
 simp only [Array.replicate_succ, Array.replicate_zero, List.push_toArray, List.nil_append, List.cons_append]
 go_wp2
 simp [bodyPostS, results, Tryz.results224]
/-- What a reading leaves: it came to its end (0), or was given up with an error. -/
def Out (R : Nat → World → Prop) (e : Ending) (w' : World) : Prop :=
 (e = .returned (.tuple #[]) ∧ R 0 w') ∨ ∃ n : Nat, n ≠ 0 ∧ e = .panicked [{ v := .iface 37 (.int .i64 (n : Int)), recovered := false }] ∧ R n w'
theorem try34 (cap : Array Value) (w : World) (R : Nat → World → Prop)
  (h : Calls Tryz.prog 227 cap (w.alloc (.cells #[.int .i64 0] 37)) fun e w' => Box w' w.heap.size (.int .i64 0) 37 ∧ Out R e w') :
  Calls Tryz.prog 181 #[.func (.func 227) #[] cap] w fun e w' => ∃ (n : Nat) (w1 : World), e = .returned (.int .i64 (n : Int)) ∧ R n w1 ∧ Kept [w.heap.size] w1 w' := by
 have hmf : ∀ (fn : Fn) (first cap : Array Value) (w : World), (Instr.makeFunc fn first cap).run Tryz.prog w = .ok (.func fn first cap) w := fun _ _ _ _ => rfl
 have H := Lib.hid h
 clear h
 go_enter_defers Tryz.func181, Tryz.ntmps181
 go_wp2_with fail
 refine H.out.mono ?_
 rintro e w1 ⟨hB, h | h⟩
 ·obtain ⟨rfl, hR⟩ := h
  have HR := Lib.hid hR
  have HB := Lib.hid hB
  have hc := HB.out.cell
  have hz := HB.out.free
  clear hR hB
  go_wp2
  have hc' : (w1.setCell ⟨w.heap.size, 0, none⟩ (.int .i64 0)).cell? ⟨w.heap.size, 0, none⟩ = some (.int .i64 0) := by simp [go_sem, hc]
  have hz' : (w1.setCell ⟨w.heap.size, 0, none⟩ (.int .i64 0)).frozen? ⟨w.heap.size, 0, none⟩ = false := by simp [go_sem, hz]
  refine leaves_cons (f := 224) (args := #[.pointer (some ⟨w.heap.size, 0, none⟩)]) (by simp) (by simp [go_sem]) ?_
  refine (catch_idle ⟨w.heap.size, 0, none⟩ _ _ hc' hz').mono ?_
  rintro e u' w2 ⟨rfl, rfl, rfl⟩
  have hc2 : ((w1.setCell ⟨w.heap.size, 0, none⟩ (.int .i64 0)).setCell ⟨w.heap.size, 0, none⟩ (.int .i64 0)).cell? ⟨w.heap.size, 0, none⟩ = some (.int .i64 0) := by simp [go_sem, hc]
  simp [Leaves, settle, results, Tryz.results181, go_sem, hc2]
  exact ⟨0, rfl, w1, HR.out, ((Kept.refl _ w1).setCell (.inl (by simp)) _).setCell (.inl (by simp)) _⟩
 ·obtain ⟨n, _, rfl, hR⟩ := h
  have HR := Lib.hid hR
  have HB := Lib.hid hB
  have hc := HB.out.cell
  have hz := HB.out.free
  clear hR hB
  go_wp2
  refine leaves_cons (f := 224) (args := #[.pointer (some ⟨w.heap.size, 0, none⟩)]) (by simp) (by simp [go_sem]) ?_
  refine (catch_err ⟨w.heap.size, 0, none⟩ _ n [] _ hc hz).mono ?_
  rintro e u' w2 ⟨rfl, rfl, rfl⟩
  have hc2 : (w1.setCell ⟨w.heap.size, 0, none⟩ (.int .i64 n)).cell? ⟨w.heap.size, 0, none⟩ = some (.int .i64 n) := by simp [go_sem, hc]
  simp [Leaves, settle, results, Tryz.results181, go_sem, hc2]
  exact ⟨n, rfl, w1, HR.out, (Kept.refl _ w1).setCell (.inl (by simp)) _⟩
theorem try36 (cap : Array Value) (w : World) (R : Nat → World → Prop)
  (h : Calls Tryz.prog 254 cap (w.alloc (.cells #[.int .i64 0] 37)) fun e w' => Box w' w.heap.size (.int .i64 0) 37 ∧ Out R e w') :
  Calls Tryz.prog 181 #[.func (.func 254) #[] cap] w fun e w' => ∃ (n : Nat) (w1 : World), e = .returned (.int .i64 (n : Int)) ∧ R n w1 ∧ Kept [w.heap.size] w1 w' := by
 have hmf : ∀ (fn : Fn) (first cap : Array Value) (w : World), (Instr.makeFunc fn first cap).run Tryz.prog w = .ok (.func fn first cap) w := fun _ _ _ _ => rfl
 have H := Lib.hid h
 clear h
 go_enter_defers Tryz.func181, Tryz.ntmps181
 go_wp2_with fail
 refine H.out.mono ?_
 rintro e w1 ⟨hB, h | h⟩
 ·obtain ⟨rfl, hR⟩ := h
  have HR := Lib.hid hR
  have HB := Lib.hid hB
  have hc := HB.out.cell
  have hz := HB.out.free
  clear hR hB
  go_wp2
  have hc' : (w1.setCell ⟨w.heap.size, 0, none⟩ (.int .i64 0)).cell? ⟨w.heap.size, 0, none⟩ = some (.int .i64 0) := by simp [go_sem, hc]
  have hz' : (w1.setCell ⟨w.heap.size, 0, none⟩ (.int .i64 0)).frozen? ⟨w.heap.size, 0, none⟩ = false := by simp [go_sem, hz]
  refine leaves_cons (f := 224) (args := #[.pointer (some ⟨w.heap.size, 0, none⟩)]) (by simp) (by simp [go_sem]) ?_
  refine (catch_idle ⟨w.heap.size, 0, none⟩ _ _ hc' hz').mono ?_
  rintro e u' w2 ⟨rfl, rfl, rfl⟩
  have hc2 : ((w1.setCell ⟨w.heap.size, 0, none⟩ (.int .i64 0)).setCell ⟨w.heap.size, 0, none⟩ (.int .i64 0)).cell? ⟨w.heap.size, 0, none⟩ = some (.int .i64 0) := by simp [go_sem, hc]
  simp [Leaves, settle, results, Tryz.results181, go_sem, hc2]
  exact ⟨0, rfl, w1, HR.out, ((Kept.refl _ w1).setCell (.inl (by simp)) _).setCell (.inl (by simp)) _⟩
 ·obtain ⟨n, _, rfl, hR⟩ := h
  have HR := Lib.hid hR
  have HB := Lib.hid hB
  have hc := HB.out.cell
  have hz := HB.out.free
  clear hR hB
  go_wp2
  refine leaves_cons (f := 224) (args := #[.pointer (some ⟨w.heap.size, 0, none⟩)]) (by simp) (by simp [go_sem]) ?_
  refine (catch_err ⟨w.heap.size, 0, none⟩ _ n [] _ hc hz).mono ?_
  rintro e u' w2 ⟨rfl, rfl, rfl⟩
  have hc2 : (w1.setCell ⟨w.heap.size, 0, none⟩ (.int .i64 n)).cell? ⟨w.heap.size, 0, none⟩ = some (.int .i64 n) := by simp [go_sem, hc]
  simp [Leaves, settle, results, Tryz.results181, go_sem, hc2]
  exact ⟨n, rfl, w1, HR.out, (Kept.refl _ w1).setCell (.inl (by simp)) _⟩
theorem try39 (cap : Array Value) (w : World) (R : Nat → World → Prop)
  (h : Calls Tryz.prog 253 cap (w.alloc (.cells #[.int .i64 0] 37)) fun e w' => Box w' w.heap.size (.int .i64 0) 37 ∧ Out R e w') :
  Calls Tryz.prog 181 #[.func (.func 253) #[] cap] w fun e w' => ∃ (n : Nat) (w1 : World), e = .returned (.int .i64 (n : Int)) ∧ R n w1 ∧ Kept [w.heap.size] w1 w' := by
 have hmf : ∀ (fn : Fn) (first cap : Array Value) (w : World), (Instr.makeFunc fn first cap).run Tryz.prog w = .ok (.func fn first cap) w := fun _ _ _ _ => rfl
 have H := Lib.hid h
 clear h
 go_enter_defers Tryz.func181, Tryz.ntmps181
 go_wp2_with fail
 refine H.out.mono ?_
 rintro e w1 ⟨hB, h | h⟩
 ·obtain ⟨rfl, hR⟩ := h
  have HR := Lib.hid hR
  have HB := Lib.hid hB
  have hc := HB.out.cell
  have hz := HB.out.free
  clear hR hB
  go_wp2
  have hc' : (w1.setCell ⟨w.heap.size, 0, none⟩ (.int .i64 0)).cell? ⟨w.heap.size, 0, none⟩ = some (.int .i64 0) := by simp [go_sem, hc]
  have hz' : (w1.setCell ⟨w.heap.size, 0, none⟩ (.int .i64 0)).frozen? ⟨w.heap.size, 0, none⟩ = false := by simp [go_sem, hz]
  refine leaves_cons (f := 224) (args := #[.pointer (some ⟨w.heap.size, 0, none⟩)]) (by simp) (by simp [go_sem]) ?_
  refine (catch_idle ⟨w.heap.size, 0, none⟩ _ _ hc' hz').mono ?_
  rintro e u' w2 ⟨rfl, rfl, rfl⟩
  have hc2 : ((w1.setCell ⟨w.heap.size, 0, none⟩ (.int .i64 0)).setCell ⟨w.heap.size, 0, none⟩ (.int .i64 0)).cell? ⟨w.heap.size, 0, none⟩ = some (.int .i64 0) := by simp [go_sem, hc]
  simp [Leaves, settle, results, Tryz.results181, go_sem, hc2]
  exact ⟨0, rfl, w1, HR.out, ((Kept.refl _ w1).setCell (.inl (by simp)) _).setCell (.inl (by simp)) _⟩
 ·obtain ⟨n, _, rfl, hR⟩ := h
  have HR := Lib.hid hR
  have HB := Lib.hid hB
  have hc := HB.out.cell
  have hz := HB.out.free
  clear hR hB
  go_wp2
  refine leaves_cons (f := 224) (args := #[.pointer (some ⟨w.heap.size, 0, none⟩)]) (by simp) (by simp [go_sem]) ?_
  refine (catch_err ⟨w.heap.size, 0, none⟩ _ n [] _ hc hz).mono ?_
  rintro e u' w2 ⟨rfl, rfl, rfl⟩
  have hc2 : (w1.setCell ⟨w.heap.size, 0, none⟩ (.int .i64 n)).cell? ⟨w.heap.size, 0, none⟩ = some (.int .i64 n) := by simp [go_sem, hc]
  simp [Leaves, settle, results, Tryz.results181, go_sem, hc2]
  exact ⟨n, rfl, w1, HR.out, (Kept.refl _ w1).setCell (.inl (by simp)) _⟩
theorem try42 (cap : Array Value) (w : World) (R : Nat → World → Prop)
  (h : Calls Tryz.prog 182 cap (w.alloc (.cells #[.int .i64 0] 37)) fun e w' => Box w' w.heap.size (.int .i64 0) 37 ∧ Out R e w') :
  Calls Tryz.prog 181 #[.func (.func 182) #[] cap] w fun e w' => ∃ (n : Nat) (w1 : World), e = .returned (.int .i64 (n : Int)) ∧ R n w1 ∧ Kept [w.heap.size] w1 w' := by
 have hmf : ∀ (fn : Fn) (first cap : Array Value) (w : World), (Instr.makeFunc fn first cap).run Tryz.prog w = .ok (.func fn first cap) w := fun _ _ _ _ => rfl
 have H := Lib.hid h
 clear h
 go_enter_defers Tryz.func181, Tryz.ntmps181
 go_wp2_with fail
 refine H.out.mono ?_
 rintro e w1 ⟨hB, h | h⟩
 ·obtain ⟨rfl, hR⟩ := h
  have HR := Lib.hid hR
  have HB := Lib.hid hB
  have hc := HB.out.cell
  have hz := HB.out.free
  clear hR hB
  go_wp2
  have hc' : (w1.setCell ⟨w.heap.size, 0, none⟩ (.int .i64 0)).cell? ⟨w.heap.size, 0, none⟩ = some (.int .i64 0) := by simp [go_sem, hc]
  have hz' : (w1.setCell ⟨w.heap.size, 0, none⟩ (.int .i64 0)).frozen? ⟨w.heap.size, 0, none⟩ = false := by simp [go_sem, hz]
  refine leaves_cons (f := 224) (args := #[.pointer (some ⟨w.heap.size, 0, none⟩)]) (by simp) (by simp [go_sem]) ?_
  refine (catch_idle ⟨w.heap.size, 0, none⟩ _ _ hc' hz').mono ?_
  rintro e u' w2 ⟨rfl, rfl, rfl⟩
  have hc2 : ((w1.setCell ⟨w.heap.size, 0, none⟩ (.int .i64 0)).setCell ⟨w.heap.size, 0, none⟩ (.int .i64 0)).cell? ⟨w.heap.size, 0, none⟩ = some (.int .i64 0) := by simp [go_sem, hc]
  simp [Leaves, settle, results, Tryz.results181, go_sem, hc2]
  exact ⟨0, rfl, w1, HR.out, ((Kept.refl _ w1).setCell (.inl (by simp)) _).setCell (.inl (by simp)) _⟩
 ·obtain ⟨n, _, rfl, hR⟩ := h
  have HR := Lib.hid hR
  have HB := Lib.hid hB
  have hc := HB.out.cell
  have hz := HB.out.free
  clear hR hB
  go_wp2
  refine leaves_cons (f := 224) (args := #[.pointer (some ⟨w.heap.size, 0, none⟩)]) (by simp) (by simp [go_sem]) ?_
  refine (catch_err ⟨w.heap.size, 0, none⟩ _ n [] _ hc hz).mono ?_
  rintro e u' w2 ⟨rfl, rfl, rfl⟩
  have hc2 : (w1.setCell ⟨w.heap.size, 0, none⟩ (.int .i64 n)).cell? ⟨w.heap.size, 0, none⟩ = some (.int .i64 n) := by simp [go_sem, hc]
  simp [Leaves, settle, results, Tryz.results181, go_sem, hc2]
  exact ⟨n, rfl, w1, HR.out, (Kept.refl _ w1).setCell (.inl (by simp)) _⟩
end Go.Proofs.YtpdedfpacklnoaaGreatDoor.W
namespace Go.Proofs.YtpdedfpacklnoaaGreatDoor.W
set_option maxRecDepth 100000
open Go.RowKit Go.BL Go.Wr
/-- What a number's reading leaves. -/
def RetN (r : Got) (B g : Nat) (bs : List Nat) (i : Nat) (w : World) (e : Ending) (w' : World) : Prop :=
 match r with
 | .bad c => e = .panicked [{ v := .iface 37 (.int .i64 (c : Int)), recovered := false }] ∧ Rdr w' B g bs i ∧ Kept [g] w w'
 | .got n k => e = .returned (.int .i64 (n : Int)) ∧ Rdr w' B g bs (i + k) ∧ Kept [g] w w'
theorem pow128 {m k : Nat} (x : Nat) (hm : m < 128 ^ k) (hk : k ≤ 8) : m + x % 128 * 128 ^ k < 128 ^ (k + 1) ∧ x % 128 * 128 ^ k ≤ 9151314442816847872 := by
 have h1 : x % 128 < 128 := Nat.mod_lt _ (by decide)
 have h2 : 128 ^ k ≤ 128 ^ 8 := Nat.pow_le_pow_right (by decide) hk
 have h3 : x % 128 * 128 ^ k ≤ 127 * 128 ^ k := Nat.mul_le_mul_right _ (by omega)
 rw [Nat.pow_succ]
 omega
theorem or_shl {m k x : Nat} (hm : m < 128 ^ k) (hk : k ≤ 8) (hx : x < 256) :
  bits .or .i64 (m : Int) (wrap64 (bits .and .i64 (x : Int) 127 * 2 ^ (7 * k))) = ((m + x % 128 * 128 ^ k : Nat) : Int) := by
 obtain ⟨h1, h2⟩ := pow128 x hm hk
 have ha := i64_and_nat x 127 (by omega) (by decide)
 rw [show ((127 : Nat) : Int) = 127 from rfl, show (127 : Nat) = 2 ^ 7 - 1 from rfl, Nat.and_two_pow_sub_one_eq_mod] at ha
 rw [show x % 2 ^ 7 = x % 128 from rfl] at ha
 have hp : (2 : Nat) ^ (7 * k) = 128 ^ k := by rw [Nat.pow_mul]
 have hp' : ((2 : Int) ^ (7 * k)) = ((128 ^ k : Nat) : Int) := by rw [← hp]; simp
 rw [ha, hp', ← Int.natCast_mul, IntWalk.wrap64_in _ (by omega)]
 have h4 : m < 128 ^ 8 := Nat.lt_of_lt_of_le hm (Nat.pow_le_pow_right (by decide) hk)
 rw [i64_or_nat m _ (by omega) (by omega)]
 congr 1
 rw [Nat.or_comm, ← hp, Nat.mul_comm]
 rw [← Nat.two_pow_add_eq_or_of_lt (by rw [hp]; exact hm)]
 omega
theorem or_end {m k x : Nat} (hm : m < 128 ^ k) (hk : k ≤ 8) (hx : x < 128) :
  bits .or .i64 (m : Int) (wrap64 (bits .and .i64 (x : Int) 127 * 2 ^ (7 * k))) = ((m + x * 128 ^ k : Nat) : Int) := by
 rw [or_shl hm hk (by omega), Nat.mod_eq_of_lt hx]
set_option maxRecDepth 100000 in
theorem number_any (B g : Nat) (bs : List Nat) (i : Nat) (w : World) (h : Rdr w B g bs i) : Calls Tryz.prog 183 #[.pointer (some ⟨g, 0, none⟩)] w (RetN (num (bs.drop i) 0 0) B g bs i w) := by
 obtain ⟨G, c, h0, h1, h2, h3, hr, _⟩ := h.cells
 have hi : (i : Int) ≤ (bs.length : Int) := by have := h.le; omega
 have hm := hr.2.1
 unfold maxLen at hm
 have Hr := Lib.hid hr
 have H := Lib.hid h
 clear hr h
 go_enter Tryz.func183, Tryz.ntmps183
 go_wp2
 go_quiet (fail)
 go_wp2
 go_loop [3, 4, 5] (fun n a j => ∃ m k : Nat, n = .int .i64 (m : Int) ∧ a = .int .i64 ((i + k : Nat) : Int) ∧ j = .int .i64 (k : Int) ∧ i + k ≤ bs.length ∧ k ≤ 8 ∧ Hid (m < 128 ^ k) ∧ Hid (num (bs.drop (i + k)) k m = num (bs.drop i) 0 0)) (fun _ _ j => 9 - (intOf j).toNat)
 case atStart => exact ⟨0, 0, rfl, rfl, rfl, by omega, by omega, Lib.hid (by decide), Lib.hid rfl⟩
 case round =>
  obtain ⟨m, k, rfl, rfl, rfl, hk, hk8, Hm, HN⟩ := hrel
  by_cases hend : i + k = bs.length
  ·have HE : Hid (num (bs.drop i) 0 0 = .bad 2) := Lib.hid (by rw [← HN.out, List.drop_of_length_le (by omega)]; rfl)
   have hei : ((i + k : Nat) : Int) = (bs.length : Int) := by omega
   go_wp2_with fail
   refine (cut_any 2 _).mono ?_
   rintro e w' ⟨rfl, rfl⟩
   go_wp2
   exact ⟨rfl, by rw [HE.out]; exact ⟨rfl, H.out.drewN _, (Kept.refl _ w).drewN _⟩⟩
  ·have hlt : i + k < bs.length := by omega
   have hne : ((i + k : Nat) : Int) ≠ (bs.length : Int) := by omega
   obtain ⟨b, off, rfl, _, hcb⟩ := Hr.out.2.2.2 (by omega)
   have hx := hcb (i + k) hlt
   have hx2 := getD_lt Hr.out.2.2.1 (i + k)
   have HD : Hid (bs.drop (i + k) = bs.getD (i + k) 0 :: bs.drop (i + (k + 1))) := Lib.hid (by
    rw [List.drop_eq_getElem_cons hlt, List.getD_eq_getElem?_getD, List.getElem?_eq_getElem hlt]; rfl)
   clear hcb
   generalize bs.getD (i + k) 0 = x at *
   by_cases hbig : 128 ≤ x
   ·by_cases h8 : k = 8
    ·subst h8
     have HE : Hid (num (bs.drop i) 0 0 = .bad 5) := Lib.hid (by rw [← HN.out, HD.out, num_range hbig])
     go_wp2_with fail
     refine (cut_any 5 _).mono ?_
     rintro e w' ⟨rfl, rfl⟩
     go_wp2
     exact ⟨rfl, by rw [HE.out]; exact ⟨rfl, H.out.drewN _, (Kept.refl _ w).drewN _⟩⟩
    ·have Hs : Hid (bits .or .i64 (m : Int) (wrap64 (bits .and .i64 (x : Int) 127 * 2 ^ (7 * k))) = ((m + x % 128 * 128 ^ k : Nat) : Int)) := Lib.hid (or_shl Hm.out hk8 hx2)
     have Hp : Hid (m + x % 128 * 128 ^ k < 128 ^ (k + 1)) := Lib.hid (pow128 x Hm.out hk8).1
     have HE : Hid (num (bs.drop (i + (k + 1))) (k + 1) (m + x % 128 * 128 ^ k) = num (bs.drop i) 0 0) := Lib.hid (by rw [← HN.out, HD.out, num_more hbig h8])
     go_wp2
     go_round
     case rel => exact ⟨m + x % 128 * 128 ^ k, k + 1, by rw [Hs.out], by go_num, by go_num, by omega, by omega, Hp, HE⟩
     case measure => simp [intOf]; omega
   ·have Hs : Hid (bits .or .i64 (m : Int) (wrap64 (bits .and .i64 (x : Int) 127 * 2 ^ (7 * k))) = ((m + x * 128 ^ k : Nat) : Int)) := Lib.hid (or_end Hm.out hk8 (by omega))
    by_cases hz : 0 < k ∧ x = 0
    ·obtain ⟨hk0, rfl⟩ := hz
     have HE : Hid (num (bs.drop i) 0 0 = .bad 10) := Lib.hid (by rw [← HN.out, HD.out, num_form hk0])
     go_wp2_with fail
     all_goals
      refine (cut_any 10 _).mono ?_
      rintro e w' ⟨rfl, rfl⟩
      go_wp2
      exact ⟨rfl, by rw [HE.out]; exact ⟨rfl, H.out.drewN _, (Kept.refl _ w).drewN _⟩⟩
    ·have HE : Hid (num (bs.drop i) 0 0 = .got (m + x * 128 ^ k) (k + 1)) := Lib.hid (by rw [← HN.out, HD.out, num_end (by omega) hz])
     by_cases hk0 : 0 < k
     ·have hx0 : ((x : Int) == 0) = false := beq_eq_false_iff_ne.2 (by omega)
      clear hz
      by_cases h8 : k = 8
      ·subst h8
       have Hs8 : Hid (bits .or .i64 (m : Int) (wrap64 (bits .and .i64 (x : Int) 127 * 72057594037927936)) = ((m + x * 128 ^ 8 : Nat) : Int)) := Hs
       go_wp2
       go_ret
       rw [HE.out]
       exact ⟨by rw [← Hs8.out]; rfl, (H.out.drewN nq).to (i + (8 + 1)) (by omega), ((Kept.refl _ w).drewN nq).setCell (.inl (by simp)) _⟩
      ·go_wp2
       go_ret
       rw [HE.out]
       exact ⟨by rw [← Hs.out]; rfl, (H.out.drewN nq).to (i + (k + 1)) (by omega), ((Kept.refl _ w).drewN nq).setCell (.inl (by simp)) _⟩
     ·obtain rfl : k = 0 := by omega
      clear hz
      have hx' : w.cell? ⟨b, off + i, none⟩ = some (.int .u8 (x : Int)) := hx
      clear hx
      go_wp2
      go_ret
      rw [HE.out]
      have Hs0 : Hid (bits .or .i64 (m : Int) (wrap64 (bits .and .i64 (x : Int) 127)) = ((m + x * 128 ^ 0 : Nat) : Int)) := Lib.hid (by have := Hs.out; simpa using this)
      exact ⟨by rw [← Hs0.out]; rfl, (H.out.drewN nq).to (i + (0 + 1)) (by omega), ((Kept.refl _ w).drewN nq).setCell (.inl (by simp)) _⟩
end Go.Proofs.YtpdedfpacklnoaaGreatDoor.W
namespace Go.Proofs.YtpdedfpacklnoaaGreatDoor.W
set_option maxRecDepth 100000
open Go.RowKit Go.BL Go.Wr
set_option maxRecDepth 100000 in
theorem take_any (B g : Nat) (bs : List Nat) (i n : Nat) (w : World) (h : Rdr w B g bs i) (hn : i + n ≤ bs.length) : Calls Tryz.prog 186 #[.pointer (some ⟨g, 0, none⟩), .int .i64 (n : Int)] w fun e w' =>
  ∃ A c, e = .returned (.slice A n c) ∧ Rd w' A n ((bs.drop i).take n) ∧ Own w' w.heap.size (.slice A n c) ((bs.drop i).take n) ∧ Rdr w' B g bs (i + n) ∧ Kept [g] w w' := by
 obtain ⟨T, hT⟩ : ∃ T, (bs.drop i).take n = T := ⟨_, rfl⟩
 rw [hT]
 have HT := Lib.hid hT
 clear hT
 obtain ⟨G, c, h0, h1, h2, h3, hr, hcap⟩ := h.cells
 have hi : (i : Int) ≤ (bs.length : Int) := by have := h.le; omega
 have hl := h.len
 have hm := hr.2.1
 unfold maxLen at hm
 have Hr := Lib.hid hr
 have H := Lib.hid h
 clear hr h
 go_enter Tryz.func186, Tryz.ntmps186
 go_wp2
 refine wp_region_still_tail 15 (by kernel_rfl) (by kernel_rfl) ?_
 simp only [List.take_succ_cons, List.take_zero, List.drop_succ_cons, List.drop_zero]
 change wpStill Tryz.prog _ (World.drew w) (fun a' => wpList Tryz.prog _ _ _ a' (World.drew w)) _ _
 have hw : IntKind.i64.wrap ((i : Int) + (n : Int)) = (i : Int) + (n : Int) := IntWalk.i64_in _ (by omega)
 have hs1 : (0 : Int) ≤ (i : Int) := by omega
 have hs2 : (i : Int) ≤ (i : Int) + (n : Int) := by omega
 have hs3 : (i : Int) + (n : Int) ≤ (c : Int) := by omega
 have hs4 : ((i : Int) + (n : Int)).toNat = i + n := by omega
 repeat still_step
 refine wpStill_nil ?_
 have R0 : Hid (Rd w.drew (if c = i then G else G.map fun x => x.add i) n T) := Lib.hid (by rw [← HT.out]; exact Rd.cutIf Hr.out hn hcap)
 have HL : Hid (T.length = n) := Lib.hid (by rw [← HT.out, List.length_take, List.length_drop]; omega)
 clear hw hs4
 generalize (if c = i then G else G.map fun x => x.add i) = Z at *
 go_wp2_with (at_builtin; refine wpList_appB rfl (.const (.slice none 0 0)) (.tmp 20) 75 rfl Tryz.underlying75 info5 rfl (Own.nil w.drew w.heap.size) rfl R0.out (by simp; omega) (Nat.le_refl _) ?_; intro v w1 ho hb; rw [List.nil_append] at ho; obtain ⟨A, c', rfl, hrd, ho⟩ := ho.len HL.out; have Ho := Lib.hid ho; have Hrd := Lib.hid hrd; have Hb := Lib.hid hb; have HR := Lib.hid (H.out.kept (Kept.of_below (rows := []) (a := w) ⟨hb.os, hb.tape, hb.output, hb.size, hb.block⟩ (Nat.le_refl _)) (fun _ hx => by cases hx)); clear ho hb hrd; obtain ⟨_, _, _, h1', _, h3', _, _⟩ := HR.out.cells)
 go_ret
 have K1 : Kept [g] w w1 := Kept.of_below (B := w.heap.size) ⟨Hb.out.os, Hb.out.tape, Hb.out.output, Hb.out.size, Hb.out.block⟩ (Nat.le_refl _)
 have HO := Own.setOld (p := ⟨g, 1, none⟩) H.out.lt Ho.out rfl (.int .i64 ((i : Int) + (n : Int)))
 exact ⟨A, c', rfl, HO.rdOf HL.out, HO, HR.out.toI (i + n) hn (by omega), K1.setCell (.inl (by simp)) _⟩
end Go.Proofs.YtpdedfpacklnoaaGreatDoor.W
namespace Go.Proofs.YtpdedfpacklnoaaGreatDoor.W
set_option maxRecDepth 100000
open Go.RowKit Go.BL Go.Wr
theorem tried34 (B g : Nat) (bs : List Nat) (i : Nat) (cap : Array Value) (w : World) (R : Nat → World → Prop) (h : Rdr w B g bs i) (hB : B ≤ w.heap.size)
  (hc : Calls Tryz.prog 227 cap (w.alloc (.cells #[.int .i64 0] 37)) fun e w' => Box w' w.heap.size (.int .i64 0) 37 ∧ Out R e w')
  (hR : ∀ n w1, R n w1 → ∃ j, Rdr w1 B g bs j) :
  Calls Tryz.prog 226 #[.pointer (some ⟨g, 0, none⟩), .func (.func 227) #[] cap] w fun e w' =>
   ∃ (n : Nat) (w1 : World), e = .returned (.int .i64 (n : Int)) ∧ R n w1 ∧ Kept [w.heap.size, g] w1 w' ∧ (n ≠ 0 → Rdr w' B g bs i) ∧ (n = 0 → Kept [w.heap.size] w1 w') := by
 obtain ⟨G, c, h0, h1, h2, h3, hr, hcap⟩ := h.cells
 have H := Lib.hid h
 have HC := Lib.hid hc
 have HR := Lib.hid hR
 have HB := Lib.hid hB
 clear h hc hR hr hcap hB
 go_enter Tryz.func226, Tryz.ntmps226
 go_wp2_with fail
 refine (made_box g true _ h2).mono ?_
 rintro e w' ⟨rfl, rfl⟩
 go_wp2_with fail
 refine (try34 cap _ R HC.out).mono ?_
 rintro e w' ⟨n, w1, rfl, hr, hk⟩
 obtain ⟨j, hj⟩ := HR.out n w1 hr
 have hj' := hj.kept hk (fun x hx => by have := HB.out; simp only [List.mem_singleton] at hx; omega)
 obtain ⟨_, _, _, k1, _, k3, _, _⟩ := hj'.cells
 have Hj := Lib.hid hj'
 have Hr := Lib.hid hr
 have Hk := Lib.hid hk
 have Hi := Lib.hid H.out.le
 clear hr hk hj hj'
 by_cases hn : n = 0
 ·subst hn
  go_wp2
  go_ret
  exact ⟨0, w1, rfl, Hr.out, Hk.out.mono (fun x hx => .inl (by simp at hx; simp [hx])), fun h => absurd rfl h, fun _ => Hk.out⟩
 ·have hn' : ((n : Int) != 0) = true := bne_iff_ne.2 (by omega)
  go_wp2
  go_ret
  exact ⟨n, w1, rfl, Hr.out, (Hk.out.mono (fun x hx => .inl (by simp at hx; simp [hx]))).setCell (.inl (by simp)) _, fun _ => Hj.out.to i Hi.out, fun h => absurd h hn⟩
theorem tried36 (B g : Nat) (bs : List Nat) (i : Nat) (cap : Array Value) (w : World) (R : Nat → World → Prop) (h : Rdr w B g bs i) (hB : B ≤ w.heap.size)
  (hc : Calls Tryz.prog 254 cap (w.alloc (.cells #[.int .i64 0] 37)) fun e w' => Box w' w.heap.size (.int .i64 0) 37 ∧ Out R e w')
  (hR : ∀ n w1, R n w1 → ∃ j, Rdr w1 B g bs j) :
  Calls Tryz.prog 226 #[.pointer (some ⟨g, 0, none⟩), .func (.func 254) #[] cap] w fun e w' =>
   ∃ (n : Nat) (w1 : World), e = .returned (.int .i64 (n : Int)) ∧ R n w1 ∧ Kept [w.heap.size, g] w1 w' ∧ (n ≠ 0 → Rdr w' B g bs i) ∧ (n = 0 → Kept [w.heap.size] w1 w') := by
 obtain ⟨G, c, h0, h1, h2, h3, hr, hcap⟩ := h.cells
 have H := Lib.hid h
 have HC := Lib.hid hc
 have HR := Lib.hid hR
 have HB := Lib.hid hB
 clear h hc hR hr hcap hB
 go_enter Tryz.func226, Tryz.ntmps226
 go_wp2_with fail
 refine (made_box g true _ h2).mono ?_
 rintro e w' ⟨rfl, rfl⟩
 go_wp2_with fail
 refine (try36 cap _ R HC.out).mono ?_
 rintro e w' ⟨n, w1, rfl, hr, hk⟩
 obtain ⟨j, hj⟩ := HR.out n w1 hr
 have hj' := hj.kept hk (fun x hx => by have := HB.out; simp only [List.mem_singleton] at hx; omega)
 obtain ⟨_, _, _, k1, _, k3, _, _⟩ := hj'.cells
 have Hj := Lib.hid hj'
 have Hr := Lib.hid hr
 have Hk := Lib.hid hk
 have Hi := Lib.hid H.out.le
 clear hr hk hj hj'
 by_cases hn : n = 0
 ·subst hn
  go_wp2
  go_ret
  exact ⟨0, w1, rfl, Hr.out, Hk.out.mono (fun x hx => .inl (by simp at hx; simp [hx])), fun h => absurd rfl h, fun _ => Hk.out⟩
 ·have hn' : ((n : Int) != 0) = true := bne_iff_ne.2 (by omega)
  go_wp2
  go_ret
  exact ⟨n, w1, rfl, Hr.out, (Hk.out.mono (fun x hx => .inl (by simp at hx; simp [hx]))).setCell (.inl (by simp)) _, fun _ => Hj.out.to i Hi.out, fun h => absurd h hn⟩
theorem tried39 (B g : Nat) (bs : List Nat) (i : Nat) (cap : Array Value) (w : World) (R : Nat → World → Prop) (h : Rdr w B g bs i) (hB : B ≤ w.heap.size)
  (hc : Calls Tryz.prog 253 cap (w.alloc (.cells #[.int .i64 0] 37)) fun e w' => Box w' w.heap.size (.int .i64 0) 37 ∧ Out R e w')
  (hR : ∀ n w1, R n w1 → ∃ j, Rdr w1 B g bs j) :
  Calls Tryz.prog 226 #[.pointer (some ⟨g, 0, none⟩), .func (.func 253) #[] cap] w fun e w' =>
   ∃ (n : Nat) (w1 : World), e = .returned (.int .i64 (n : Int)) ∧ R n w1 ∧ Kept [w.heap.size, g] w1 w' ∧ (n ≠ 0 → Rdr w' B g bs i) ∧ (n = 0 → Kept [w.heap.size] w1 w') := by
 obtain ⟨G, c, h0, h1, h2, h3, hr, hcap⟩ := h.cells
 have H := Lib.hid h
 have HC := Lib.hid hc
 have HR := Lib.hid hR
 have HB := Lib.hid hB
 clear h hc hR hr hcap hB
 go_enter Tryz.func226, Tryz.ntmps226
 go_wp2_with fail
 refine (made_box g true _ h2).mono ?_
 rintro e w' ⟨rfl, rfl⟩
 go_wp2_with fail
 refine (try39 cap _ R HC.out).mono ?_
 rintro e w' ⟨n, w1, rfl, hr, hk⟩
 obtain ⟨j, hj⟩ := HR.out n w1 hr
 have hj' := hj.kept hk (fun x hx => by have := HB.out; simp only [List.mem_singleton] at hx; omega)
 obtain ⟨_, _, _, k1, _, k3, _, _⟩ := hj'.cells
 have Hj := Lib.hid hj'
 have Hr := Lib.hid hr
 have Hk := Lib.hid hk
 have Hi := Lib.hid H.out.le
 clear hr hk hj hj'
 by_cases hn : n = 0
 ·subst hn
  go_wp2
  go_ret
  exact ⟨0, w1, rfl, Hr.out, Hk.out.mono (fun x hx => .inl (by simp at hx; simp [hx])), fun h => absurd rfl h, fun _ => Hk.out⟩
 ·have hn' : ((n : Int) != 0) = true := bne_iff_ne.2 (by omega)
  go_wp2
  go_ret
  exact ⟨n, w1, rfl, Hr.out, (Hk.out.mono (fun x hx => .inl (by simp at hx; simp [hx]))).setCell (.inl (by simp)) _, fun _ => Hj.out.to i Hi.out, fun h => absurd h hn⟩
end Go.Proofs.YtpdedfpacklnoaaGreatDoor.W
namespace Go.BL
set_option maxRecDepth 100000
open Go.RowKit Go.Wr
theorem strOf (T : List Nat) : strOfNums (T.map fun x => ((x : Nat) : Int)) = bstr T := by
 unfold strOfNums bstr
 simp [List.map_map, Function.comp_def]
theorem run_bstr {P : Program} {w : World} {A : Option Addr} {n c : Nat} {T : List Nat} (h : Rd w A n T) (src e dst : TypeId) (hs : P.underlying src = some (.slice e)) (he : P.underlying e = some (.int .u8)) (hd : P.underlying dst = some .string) :
  (convert src dst (.slice A n c)).run P w = .ok (.string (bstr T)) w := by
 by_cases hn : n = 0
 ·subst hn
  have hT : T = [] := List.eq_nil_of_length_eq_zero h.1
  subst hT
  rw [run_convert_bytes_string w src dst e _ 0 c hs he hd]
  cases A <;> simp [Conv.bytesToString, loadCells]
  all_goals rfl
 ·obtain ⟨b, off, rfl, _, hc⟩ := h.2.2.2 (by omega)
  rw [run_convert_bytes_arg w src e hs he b off n c (T.map fun x => ((x : Nat) : Int)) (by simp [h.1]) (fun i hi => by
   rw [hc i hi]
   have hl : i < T.length := by rw [h.1]; exact hi
   simp [List.getD_eq_getElem?_getD, List.getElem?_eq_getElem hl]) dst hd, strOf]
end Go.BL
namespace Go.Proofs.YtpdedfpacklnoaaGreatDoor.W
open Go.RowKit Go.BL Go.Wr
/-- What a closure of a reader leaves: its code; the reader; the captured result. -/
def RG (B g : Nat) (bs : List Nat) (nb : Nat) (t : TypeId) (v : Value) (code pos : Nat) (w0 : World) (c : Nat) (w1 : World) : Prop :=
 c = code ∧ (∃ j, Rdr w1 B g bs j ∧ (c = 0 → j = pos)) ∧ Box w1 nb v t ∧ Kept [g, nb] w0 w1
/-- What a reader's call leaves. -/
def RetR (B g : Nat) (bs : List Nat) (v : Value) (code pos : Nat) (w : World) (e : Ending) (w' : World) : Prop :=
 e = .returned (.tuple #[v, .int .i64 (code : Int)]) ∧ Rdr w' B g bs pos ∧ Kept [g] w w'
theorem uintC (B g : Nat) (bs : List Nat) (i rb nb eb : Nat) (w : World) (h : Rdr w B g bs i) (hr : Box w rb (.pointer (some ⟨g, 0, none⟩)) 231) (hn : Box w nb (.int .i64 0) 3) (he : Box w eb (.int .i64 0) 37) (h1 : B ≤ nb) (h2 : B ≤ eb) :
  Calls Tryz.prog 227 #[.pointer (some ⟨rb, 0, none⟩), .pointer (some ⟨nb, 0, none⟩)] w fun e w' => Box w' eb (.int .i64 0) 37 ∧ Out (RG B g bs nb 3 (.int .i64 ((uintAt bs i).1 : Int)) (uintAt bs i).2.1 (uintAt bs i).2.2 w) e w' := by
 have hrc := hr.cell
 have hgb := h.ltB
 have hne : eb ≠ nb := by rintro rfl; unfold Box at hn he; rw [hn] at he; injection he with he; injection he with _ he; cases he
 have H := Lib.hid h
 have Hn := Lib.hid hn
 have He := Lib.hid he
 have Hne := Lib.hid hne
 clear h hr hn he hne
 go_enter Tryz.func227, Tryz.ntmps227
 go_wp2_with fail
 refine (number_any B g bs i _ H.out).mono ?_
 cases hnum : num (bs.drop i) 0 0 with
 | bad c =>
  rintro e w1 ⟨rfl, hR, hK⟩
  have HR := Lib.hid hR
  have HK := Lib.hid hK
  have Hc := Lib.hid (num_bad _ _ _ _ hnum)
  have HU : Hid (uintAt bs i = (0, c, i)) := Lib.hid (by unfold uintAt; rw [hnum])
  clear hR hK hnum
  go_wp2
  rw [HU.out]
  exact ⟨rfl, He.out.kept HK.out (by simp; omega), .inr ⟨c, Hc.out, rfl, rfl, ⟨i, HR.out, fun h => absurd h Hc.out⟩, Hn.out.kept HK.out (by simp; omega), HK.out.mono (fun x hx => .inl (by simp at hx; simp [hx]))⟩⟩
 | got n k =>
  rintro e w1 ⟨rfl, hR, hK⟩
  have HR := Lib.hid hR
  have HK := Lib.hid hK
  have HU : Hid (uintAt bs i = (n, 0, i + k)) := Lib.hid (by unfold uintAt; rw [hnum])
  clear hR hK hnum
  have Hn1 := Lib.hid (Hn.out.kept HK.out (by simp; omega))
  have He1 := Lib.hid (He.out.kept HK.out (by simp; omega))
  have hnc := Hn1.out.cell
  have hnf := Hn1.out.free
  go_wp2
  go_end0
  rw [HU.out]
  exact ⟨He1.out.far Hne.out _, .inl ⟨rfl, rfl, ⟨i + k, HR.out.far h1 _, fun _ => rfl⟩, Hn1.out.set_ _, (HK.out.mono (fun x hx => .inl (by simp at hx; simp [hx]))).setCell (.inl (by simp)) _⟩⟩
theorem uintAt_pos {bs : List Nat} {i : Nat} (h : (uintAt bs i).2.1 ≠ 0) : (uintAt bs i).2.2 = i := by
 unfold uintAt at h ⊢
 cases hn : num (bs.drop i) 0 0 with
 | bad c => rfl
 | got n k => rw [hn] at h; exact absurd rfl h
theorem fin {B g : Nat} {bs : List Nat} {i nb eb : Nat} {t : TypeId} {v : Value} {code pos n : Nat} {w w0 w1 w' : World} (hpos : code ≠ 0 → pos = i) (hR : RG B g bs nb t v code pos w0 n w1)
  (hk : Kept [eb, g] w1 w') (h1 : n ≠ 0 → Rdr w' B g bs i) (h0 : n = 0 → Kept [eb] w1 w') (he : eb ≠ nb) (hg : g < w.heap.size) (hn : w.heap.size ≤ nb) (hbe : w.heap.size ≤ eb) (hB : B ≤ w.heap.size) (h00 : Kept [] w w0) :
  n = code ∧ Rdr w' B g bs pos ∧ Box w' nb v t ∧ Kept [g] w w' := by
 obtain ⟨rfl, ⟨j, hj, hj0⟩, hb, hk1⟩ := hR
 refine ⟨rfl, ?_, hb.kept hk (by simp; omega), ?_⟩
 ·by_cases hz : n = 0
  ·rw [← hj0 hz]
   exact hj.kept (h0 hz) (fun x hx => by simp at hx; omega)
  ·rw [hpos hz]; exact h1 hz
 ·have k1 : Kept [g] w w1 := (h00.mono (rows' := [g]) (fun _ hx => by cases hx)).trans hk1 (fun x hx => by simp at hx ⊢; omega)
  exact k1.trans hk (fun x hx => by simp at hx ⊢; omega)
theorem boxAt {w : World} {g : Nat} (hg : g = w.heap.size) (v : Value) (t : TypeId) : Box (w.alloc (.cells #[v] t)) g v t := by subst hg; exact Box.new w v t
theorem uintP (B g : Nat) (bs : List Nat) (i : Nat) (w : World) (h : Rdr w B g bs i) (hB : B ≤ w.heap.size) :
  Calls Tryz.prog 226 #[.pointer (some ⟨g, 0, none⟩), .func (.func 227) #[] #[.pointer (some ⟨w.heap.size, 0, none⟩), .pointer (some ⟨w.heap.size + 1, 0, none⟩)]]
   ((w.alloc (.cells #[.pointer (some ⟨g, 0, none⟩)] 231)).alloc (.cells #[.int .i64 0] 3))
   fun e w' => e = .returned (.int .i64 ((uintAt bs i).2.1 : Int)) ∧ Rdr w' B g bs (uintAt bs i).2.2 ∧ Box w' (w.heap.size + 1) (.int .i64 ((uintAt bs i).1 : Int)) 3 ∧ Kept [g] w w' := by
 have hlt := h.lt
 have b1 : Box (((w.alloc (.cells #[.pointer (some ⟨g, 0, none⟩)] 231)).alloc (.cells #[.int .i64 0] 3)).alloc (.cells #[.int .i64 0] 37)) w.heap.size (.pointer (some ⟨g, 0, none⟩)) 231 := ((boxAt rfl _ _).alloc _).alloc _
 have b2 : Box (((w.alloc (.cells #[.pointer (some ⟨g, 0, none⟩)] 231)).alloc (.cells #[.int .i64 0] 3)).alloc (.cells #[.int .i64 0] 37)) (w.heap.size + 1) (.int .i64 0) 3 := (boxAt (by simp) _ _).alloc _
 have b3 : Box (((w.alloc (.cells #[.pointer (some ⟨g, 0, none⟩)] 231)).alloc (.cells #[.int .i64 0] 3)).alloc (.cells #[.int .i64 0] 37)) ((w.alloc (.cells #[.pointer (some ⟨g, 0, none⟩)] 231)).alloc (.cells #[.int .i64 0] 3)).heap.size (.int .i64 0) 37 := boxAt rfl _ _
 refine (tried34 B g bs i _ _ _ ((h.alloc _).alloc _) (by simp; omega) (uintC B g bs i w.heap.size (w.heap.size + 1) _ _ (((h.alloc _).alloc _).alloc _) b1 b2 b3 (by omega) (by simp; omega)) (fun n w1 hR => ⟨_, hR.2.1.choose_spec.1⟩)).mono ?_
 rintro e w' ⟨n, w1, rfl, hR, hk, h1, h0⟩
 obtain ⟨rfl, f1, f2, f3⟩ := fin (w := w) (fun h => uintAt_pos h) hR hk h1 h0 (by simp) hlt (by omega) (by simp; omega) hB ((((Kept.refl [] w).alloc _).alloc _).alloc _)
 exact ⟨rfl, f1, f2, f3⟩
theorem uint_any (B g : Nat) (bs : List Nat) (i : Nat) (w : World) (h : Rdr w B g bs i) (hB : B ≤ w.heap.size) :
  Calls Tryz.prog 187 #[.pointer (some ⟨g, 0, none⟩)] w (RetR B g bs (.int .i64 ((uintAt bs i).1 : Int)) (uintAt bs i).2.1 (uintAt bs i).2.2 w) := by
 have hmf : ∀ (fn : Fn) (first cap : Array Value) (w : World), (Instr.makeFunc fn first cap).run Tryz.prog w = .ok (.func fn first cap) w := fun _ _ _ _ => rfl
 have H := Lib.hid h
 have HB := Lib.hid hB
 clear h hB
 go_enter Tryz.func187, Tryz.ntmps187
 go_wp2_with fail
 refine (uintP B g bs i w H.out HB.out).mono ?_
 rintro e w' ⟨rfl, h1, h2, h3⟩
 have hc := h2.cell
 have H1 := Lib.hid h1
 have H3 := Lib.hid h3
 clear h1 h2 h3
 go_wp2
 go_ret2
 exact ⟨rfl, H1.out, H3.out⟩
end Go.Proofs.YtpdedfpacklnoaaGreatDoor.W
namespace Go.Proofs.YtpdedfpacklnoaaGreatDoor.W
set_option maxRecDepth 100000
open Go.RowKit Go.BL Go.Wr
theorem takeZ (B g : Nat) (bs : List Nat) (i n : Nat) (z : Int) (hz : z = (n : Int)) (w : World) (h : Rdr w B g bs i) (hn : i + n ≤ bs.length) : Calls Tryz.prog 186 #[.pointer (some ⟨g, 0, none⟩), .int .i64 z] w fun e w' =>
  ∃ A c, e = .returned (.slice A n c) ∧ Rd w' A n ((bs.drop i).take n) ∧ Own w' w.heap.size (.slice A n c) ((bs.drop i).take n) ∧ Rdr w' B g bs (i + n) ∧ Kept [g] w w' := by
 subst hz; exact take_any B g bs i n w h hn
theorem take1 {bs : List Nat} {i : Nat} (h : i < bs.length) : (bs.drop i).take 1 = [bs.getD i 0] := by
 rw [List.drop_eq_getElem_cons h, List.getD_eq_getElem?_getD, List.getElem?_eq_getElem h]; rfl
theorem byteC (B g : Nat) (bs : List Nat) (i rb nb eb : Nat) (w : World) (h : Rdr w B g bs i) (hr : Box w rb (.pointer (some ⟨g, 0, none⟩)) 231) (hn : Box w nb (.int .i64 0) 3) (he : Box w eb (.int .i64 0) 37) (h1 : B ≤ nb) (h2 : B ≤ eb) :
  Calls Tryz.prog 254 #[.pointer (some ⟨rb, 0, none⟩), .pointer (some ⟨nb, 0, none⟩)] w fun e w' => Box w' eb (.int .i64 0) 37 ∧ Out (RG B g bs nb 3 (.int .i64 ((byteAt bs i).1 : Int)) (byteAt bs i).2.1 (byteAt bs i).2.2 w) e w' := by
 have hrc := hr.cell
 have hgb := h.ltB
 have hne : eb ≠ nb := by rintro rfl; unfold Box at hn he; rw [hn] at he; injection he with he; injection he with _ he; cases he
 have H := Lib.hid h
 have Hn := Lib.hid hn
 have He := Lib.hid he
 have Hne := Lib.hid hne
 clear h hr hn he hne
 go_enter Tryz.func254, Tryz.ntmps254
 go_wp2_with fail
 refine (left_any B g bs i _ H.out).mono ?_
 rintro e w' ⟨rfl, N, rfl⟩
 by_cases hlt : i < bs.length
 ·have HU : Hid (byteAt bs i = (bs.getD i 0, 0, i + 1)) := Lib.hid (by unfold byteAt; rw [if_pos hlt])
  have hz : (((bs.length - i : Nat) : Int) == 0) = false := beq_eq_false_iff_ne.2 (by omega)
  have Hlt := Lib.hid hlt
  clear hlt
  go_wp2_with fail
  refine (takeZ B g bs i 1 1 rfl _ (H.out.drewN N) (by have := Hlt.out; omega)).mono ?_
  rw [take1 Hlt.out]
  rintro e w1 ⟨A, c, rfl, hrd, -, hR, hK⟩
  obtain ⟨b, off, rfl, _, hcell⟩ := hrd.2.2.2 (by omega)
  have hc0 : w1.cell? ⟨b, off, none⟩ = some (.int .u8 ((bs.getD i 0 : Nat) : Int)) := hcell 0 (by omega)
  have hx := hrd.2.2.1 _ (List.mem_singleton_self _)
  have HR := Lib.hid hR
  have HK := Lib.hid ((((Kept.refl [g] w).drewN N).then_ hK))
  have Hn1 := Lib.hid (Hn.out.kept HK.out (by simp; omega))
  have He1 := Lib.hid (He.out.kept HK.out (by simp; omega))
  have hnc := Hn1.out.cell
  have hnf := Hn1.out.free
  clear hrd hR hK hcell
  generalize bs.getD i 0 = x at *
  go_wp2
  go_end0
  rw [HU.out]
  exact ⟨He1.out.far Hne.out _, .inl ⟨rfl, rfl, ⟨i + 1, HR.out.far h1 _, fun _ => rfl⟩, Hn1.out.set_ _, (HK.out.mono (fun x hx => .inl (by simp at hx; simp [hx]))).setCell (.inl (by simp)) _⟩⟩
 ·have HU : Hid (byteAt bs i = (0, 2, i)) := Lib.hid (by unfold byteAt; rw [if_neg hlt])
  have hz : (((bs.length - i : Nat) : Int) == 0) = true := beq_iff_eq.2 (by omega)
  clear hlt
  go_wp2_with fail
  refine (cut_any 2 _).mono ?_
  rintro e w' ⟨rfl, rfl⟩
  go_wp2
  rw [HU.out]
  exact ⟨rfl, He.out.drewN N, .inr ⟨2, by decide, rfl, rfl, ⟨i, H.out.drewN N, fun h => absurd h (by decide)⟩, Hn.out.drewN N, (Kept.refl _ w).drewN N⟩⟩
theorem byteAt_pos {bs : List Nat} {i : Nat} (h : (byteAt bs i).2.1 ≠ 0) : (byteAt bs i).2.2 = i := by
 unfold byteAt at h ⊢
 by_cases hl : i < bs.length
 ·rw [if_pos hl] at h; exact absurd rfl h
 ·rw [if_neg hl]
theorem byteP (B g : Nat) (bs : List Nat) (i : Nat) (w : World) (h : Rdr w B g bs i) (hB : B ≤ w.heap.size) :
  Calls Tryz.prog 226 #[.pointer (some ⟨g, 0, none⟩), .func (.func 254) #[] #[.pointer (some ⟨w.heap.size, 0, none⟩), .pointer (some ⟨w.heap.size + 1, 0, none⟩)]]
   ((w.alloc (.cells #[.pointer (some ⟨g, 0, none⟩)] 231)).alloc (.cells #[.int .i64 0] 3))
   fun e w' => e = .returned (.int .i64 ((byteAt bs i).2.1 : Int)) ∧ Rdr w' B g bs (byteAt bs i).2.2 ∧ Box w' (w.heap.size + 1) (.int .i64 ((byteAt bs i).1 : Int)) 3 ∧ Kept [g] w w' := by
 have hlt := h.lt
 have b1 : Box (((w.alloc (.cells #[.pointer (some ⟨g, 0, none⟩)] 231)).alloc (.cells #[.int .i64 0] 3)).alloc (.cells #[.int .i64 0] 37)) w.heap.size (.pointer (some ⟨g, 0, none⟩)) 231 := ((boxAt rfl _ _).alloc _).alloc _
 have b2 : Box (((w.alloc (.cells #[.pointer (some ⟨g, 0, none⟩)] 231)).alloc (.cells #[.int .i64 0] 3)).alloc (.cells #[.int .i64 0] 37)) (w.heap.size + 1) (.int .i64 0) 3 := (boxAt (by simp) _ _).alloc _
 have b3 : Box (((w.alloc (.cells #[.pointer (some ⟨g, 0, none⟩)] 231)).alloc (.cells #[.int .i64 0] 3)).alloc (.cells #[.int .i64 0] 37)) ((w.alloc (.cells #[.pointer (some ⟨g, 0, none⟩)] 231)).alloc (.cells #[.int .i64 0] 3)).heap.size (.int .i64 0) 37 := boxAt rfl _ _
 refine (tried36 B g bs i _ _ _ ((h.alloc _).alloc _) (by simp; omega) (byteC B g bs i w.heap.size (w.heap.size + 1) _ _ (((h.alloc _).alloc _).alloc _) b1 b2 b3 (by omega) (by simp; omega)) (fun n w1 hR => ⟨_, hR.2.1.choose_spec.1⟩)).mono ?_
 rintro e w' ⟨n, w1, rfl, hR, hk, h1, h0⟩
 obtain ⟨rfl, f1, f2, f3⟩ := fin (w := w) (fun h => byteAt_pos h) hR hk h1 h0 (by simp) hlt (by omega) (by simp; omega) hB ((((Kept.refl [] w).alloc _).alloc _).alloc _)
 exact ⟨rfl, f1, f2, f3⟩
theorem byte_any (B g : Nat) (bs : List Nat) (i : Nat) (w : World) (h : Rdr w B g bs i) (hB : B ≤ w.heap.size) :
  Calls Tryz.prog 229 #[.pointer (some ⟨g, 0, none⟩)] w (RetR B g bs (.int .i64 ((byteAt bs i).1 : Int)) (byteAt bs i).2.1 (byteAt bs i).2.2 w) := by
 have hmf : ∀ (fn : Fn) (first cap : Array Value) (w : World), (Instr.makeFunc fn first cap).run Tryz.prog w = .ok (.func fn first cap) w := fun _ _ _ _ => rfl
 have H := Lib.hid h
 have HB := Lib.hid hB
 clear h hB
 go_enter Tryz.func229, Tryz.ntmps229
 go_wp2_with fail
 refine (byteP B g bs i w H.out HB.out).mono ?_
 rintro e w' ⟨rfl, h1, h2, h3⟩
 have hc := h2.cell
 have H1 := Lib.hid h1
 have H3 := Lib.hid h3
 clear h1 h2 h3
 go_wp2
 go_ret2
 exact ⟨rfl, H1.out, H3.out⟩
theorem textC (B g : Nat) (bs : List Nat) (i : Nat) (most : Int) (rb mb nb eb : Nat) (w : World) (h : Rdr w B g bs i) (hr : Box w rb (.pointer (some ⟨g, 0, none⟩)) 231) (hm : Box w mb (.int .i64 most) 3) (hn : Box w nb (.string .empty) 9) (he : Box w eb (.int .i64 0) 37) (h0 : B ≤ mb) (hrb : B ≤ rb) (h1 : B ≤ nb) (h2 : B ≤ eb) :
  Calls Tryz.prog 253 #[.pointer (some ⟨rb, 0, none⟩), .pointer (some ⟨mb, 0, none⟩), .pointer (some ⟨nb, 0, none⟩)] w fun e w' => Box w' eb (.int .i64 0) 37 ∧ Out (RG B g bs nb 9 (.string (bstr (textAt bs i most).1)) (textAt bs i most).2.1 (textAt bs i most).2.2 w) e w' := by
 have hrc := hr.cell
 have hgb := h.ltB
 have hne : eb ≠ nb := by rintro rfl; unfold Box at hn he; rw [hn] at he; injection he with he; injection he with _ he; cases he
 have H := Lib.hid h
 have Hr := Lib.hid hr
 have Hm := Lib.hid hm
 have Hn := Lib.hid hn
 have He := Lib.hid he
 have Hne := Lib.hid hne
 clear h hr hn he hne hm
 go_enter Tryz.func253, Tryz.ntmps253
 go_wp2_with fail
 refine (number_any B g bs i _ H.out).mono ?_
 cases hnum : num (bs.drop i) 0 0 with
 | bad c =>
  rintro e w1 ⟨rfl, hR, hK⟩
  have HR := Lib.hid hR
  have HK := Lib.hid hK
  have Hc := Lib.hid (num_bad _ _ _ _ hnum)
  have HU : Hid (textAt bs i most = ([], c, i)) := Lib.hid (by unfold textAt; rw [hnum])
  clear hR hK hnum
  go_wp2
  rw [HU.out]
  exact ⟨rfl, He.out.kept HK.out (by simp; omega), .inr ⟨c, Hc.out, rfl, rfl, ⟨i, HR.out, fun h => absurd h Hc.out⟩, Hn.out.kept HK.out (by simp; omega), HK.out.mono (fun x hx => .inl (by simp at hx; simp [hx]))⟩⟩
 | got n k =>
  rintro e w1 ⟨rfl, hR, hK⟩
  have HR := Lib.hid hR
  have HK := Lib.hid hK
  have Hnum := Lib.hid hnum
  clear hR hK hnum
  have Hn1 := Lib.hid (Hn.out.kept HK.out (by simp; omega))
  have He1 := Lib.hid (He.out.kept HK.out (by simp; omega))
  have hrc1 := (Hr.out.kept HK.out (by simp; omega)).cell
  have hmc1 := (Hm.out.kept HK.out (by simp; omega)).cell
  clear hrc
  rcases (show most < 0 ∨ 0 ≤ most by omega) with hmost | hmost
  ·by_cases hlong : max most 0 < (n : Int)
   ·have HU : Hid (textAt bs i most = ([], 4, i)) := Lib.hid (by unfold textAt; rw [Hnum.out]; exact if_pos hlong)
    have hl2 : 0 < (n : Int) := by omega
    clear hlong
    go_wp2_with fail
    refine (cut_any 4 _).mono ?_
    rintro e w' ⟨rfl, rfl⟩
    go_wp2
    rw [HU.out]
    exact ⟨rfl, He1.out, .inr ⟨4, by decide, rfl, rfl, ⟨i + k, HR.out, fun h => absurd h (by decide)⟩, Hn1.out, HK.out.mono (fun x hx => .inl (by simp at hx; simp [hx]))⟩⟩
   ·have Hlong := Lib.hid hlong
    have hl2 : ¬ (0 : Int) < (n : Int) := by omega
    clear hlong
    go_wp2_with fail
    refine (left_any B g bs (i + k) _ HR.out).mono ?_
    rintro e w' ⟨rfl, N, rfl⟩
    by_cases hshort : bs.length - (i + k) < n
    ·have HU : Hid (textAt bs i most = ([], 2, i)) := Lib.hid (by unfold textAt; rw [Hnum.out]; show (if _ then _ else _) = _; rw [if_neg (Int.not_lt.2 Hlong.out), if_pos hshort])
     have hs : ((bs.length - (i + k) : Nat) : Int) < (n : Int) := by omega
     go_wp2_with fail
     refine (cut_any 2 _).mono ?_
     rintro e w' ⟨rfl, rfl⟩
     go_wp2
     rw [HU.out]
     exact ⟨rfl, He1.out.drewN N, .inr ⟨2, by decide, rfl, rfl, ⟨i + k, HR.out.drewN N, fun h => absurd h (by decide)⟩, Hn1.out.drewN N, (HK.out.mono (fun x hx => .inl (by simp at hx; simp [hx]))).drewN N⟩⟩
    ·have HU : Hid (textAt bs i most = ((bs.drop (i + k)).take n, 0, i + k + n)) := Lib.hid (by unfold textAt; rw [Hnum.out]; show (if _ then _ else _) = _; rw [if_neg (Int.not_lt.2 Hlong.out), if_neg hshort])
     have hs : ¬ ((bs.length - (i + k) : Nat) : Int) < (n : Int) := by omega
     have Hik := Lib.hid HR.out.le
     have Hsh := Lib.hid hshort
     clear hshort
     go_wp2_with fail
     refine (takeZ B g bs (i + k) n n rfl _ (HR.out.drewN N) (by have := Hsh.out; have := Hik.out; omega)).mono ?_
     generalize (bs.drop (i + k)).take n = T at *
     rintro e w2 ⟨A, c, rfl, hrd, -, hR2, hK2⟩
     have HR2 := Lib.hid hR2
     have HK2 := Lib.hid (HK.out.then_ (((Kept.refl [g] w1).drewN N).then_ hK2))
     have hconv := run_bstr (P := Tryz.prog) (c := c) hrd 75 5 9 Tryz.underlying75 Tryz.underlying5 Tryz.underlying9
     have Hn2 := Lib.hid (Hn.out.kept HK2.out (by simp; omega))
     have He2 := Lib.hid (He.out.kept HK2.out (by simp; omega))
     have hnc := Hn2.out.cell
     have hnf := Hn2.out.free
     clear hrd hR2 hK2
     go_wp2
     go_end0
     rw [HU.out]
     exact ⟨He2.out.far Hne.out _, .inl ⟨rfl, rfl, ⟨i + k + n, HR2.out.far h1 _, fun _ => rfl⟩, Hn2.out.set_ _, (HK2.out.mono (fun x hx => .inl (by simp at hx; simp [hx]))).setCell (.inl (by simp)) _⟩⟩
  ·by_cases hlong : max most 0 < (n : Int)
   ·have HU : Hid (textAt bs i most = ([], 4, i)) := Lib.hid (by unfold textAt; rw [Hnum.out]; exact if_pos hlong)
    have hl2 : most < (n : Int) := by omega
    clear hlong
    go_wp2_with fail
    refine (cut_any 4 _).mono ?_
    rintro e w' ⟨rfl, rfl⟩
    go_wp2
    rw [HU.out]
    exact ⟨rfl, He1.out, .inr ⟨4, by decide, rfl, rfl, ⟨i + k, HR.out, fun h => absurd h (by decide)⟩, Hn1.out, HK.out.mono (fun x hx => .inl (by simp at hx; simp [hx]))⟩⟩
   ·have Hlong := Lib.hid hlong
    have hl2 : ¬ most < (n : Int) := by omega
    clear hlong
    go_wp2_with fail
    refine (left_any B g bs (i + k) _ HR.out).mono ?_
    rintro e w' ⟨rfl, N, rfl⟩
    by_cases hshort : bs.length - (i + k) < n
    ·have HU : Hid (textAt bs i most = ([], 2, i)) := Lib.hid (by unfold textAt; rw [Hnum.out]; show (if _ then _ else _) = _; rw [if_neg (Int.not_lt.2 Hlong.out), if_pos hshort])
     have hs : ((bs.length - (i + k) : Nat) : Int) < (n : Int) := by omega
     go_wp2_with fail
     refine (cut_any 2 _).mono ?_
     rintro e w' ⟨rfl, rfl⟩
     go_wp2
     rw [HU.out]
     exact ⟨rfl, He1.out.drewN N, .inr ⟨2, by decide, rfl, rfl, ⟨i + k, HR.out.drewN N, fun h => absurd h (by decide)⟩, Hn1.out.drewN N, (HK.out.mono (fun x hx => .inl (by simp at hx; simp [hx]))).drewN N⟩⟩
    ·have HU : Hid (textAt bs i most = ((bs.drop (i + k)).take n, 0, i + k + n)) := Lib.hid (by unfold textAt; rw [Hnum.out]; show (if _ then _ else _) = _; rw [if_neg (Int.not_lt.2 Hlong.out), if_neg hshort])
     have hs : ¬ ((bs.length - (i + k) : Nat) : Int) < (n : Int) := by omega
     have Hik := Lib.hid HR.out.le
     have Hsh := Lib.hid hshort
     clear hshort
     go_wp2_with fail
     refine (takeZ B g bs (i + k) n n rfl _ (HR.out.drewN N) (by have := Hsh.out; have := Hik.out; omega)).mono ?_
     generalize (bs.drop (i + k)).take n = T at *
     rintro e w2 ⟨A, c, rfl, hrd, -, hR2, hK2⟩
     have HR2 := Lib.hid hR2
     have HK2 := Lib.hid (HK.out.then_ (((Kept.refl [g] w1).drewN N).then_ hK2))
     have hconv := run_bstr (P := Tryz.prog) (c := c) hrd 75 5 9 Tryz.underlying75 Tryz.underlying5 Tryz.underlying9
     have Hn2 := Lib.hid (Hn.out.kept HK2.out (by simp; omega))
     have He2 := Lib.hid (He.out.kept HK2.out (by simp; omega))
     have hnc := Hn2.out.cell
     have hnf := Hn2.out.free
     clear hrd hR2 hK2
     go_wp2
     go_end0
     rw [HU.out]
     exact ⟨He2.out.far Hne.out _, .inl ⟨rfl, rfl, ⟨i + k + n, HR2.out.far h1 _, fun _ => rfl⟩, Hn2.out.set_ _, (HK2.out.mono (fun x hx => .inl (by simp at hx; simp [hx]))).setCell (.inl (by simp)) _⟩⟩
theorem textAt_pos {bs : List Nat} {i : Nat} {most : Int} (h : (textAt bs i most).2.1 ≠ 0) : (textAt bs i most).2.2 = i := by
 unfold textAt at h ⊢
 cases hn : num (bs.drop i) 0 0 with
 | bad c => rfl
 | got n k =>
  rw [hn] at h
  by_cases h1 : max most 0 < (n : Int)
  ·simp only [if_pos h1]
  ·by_cases h2 : bs.length - (i + k) < n
   ·simp only [if_neg h1, if_pos h2]
   ·simp only [if_neg h1, if_neg h2] at h; exact absurd rfl h
theorem textP (B g : Nat) (bs : List Nat) (i : Nat) (most : Int) (w : World) (h : Rdr w B g bs i) (hB : B ≤ w.heap.size) :
  Calls Tryz.prog 226 #[.pointer (some ⟨g, 0, none⟩), .func (.func 253) #[] #[.pointer (some ⟨w.heap.size, 0, none⟩), .pointer (some ⟨w.heap.size + 1, 0, none⟩), .pointer (some ⟨w.heap.size + 1 + 1, 0, none⟩)]]
   (((w.alloc (.cells #[.pointer (some ⟨g, 0, none⟩)] 231)).alloc (.cells #[.int .i64 most] 3)).alloc (.cells #[.string .empty] 9))
   fun e w' => e = .returned (.int .i64 ((textAt bs i most).2.1 : Int)) ∧ Rdr w' B g bs (textAt bs i most).2.2 ∧ Box w' (w.heap.size + 1 + 1) (.string (bstr (textAt bs i most).1)) 9 ∧ Kept [g] w w' := by
 have hlt := h.lt
 have b1 : Box ((((w.alloc (.cells #[.pointer (some ⟨g, 0, none⟩)] 231)).alloc (.cells #[.int .i64 most] 3)).alloc (.cells #[.string .empty] 9)).alloc (.cells #[.int .i64 0] 37)) w.heap.size (.pointer (some ⟨g, 0, none⟩)) 231 := (((boxAt rfl _ _).alloc _).alloc _).alloc _
 have b2 : Box ((((w.alloc (.cells #[.pointer (some ⟨g, 0, none⟩)] 231)).alloc (.cells #[.int .i64 most] 3)).alloc (.cells #[.string .empty] 9)).alloc (.cells #[.int .i64 0] 37)) (w.heap.size + 1) (.int .i64 most) 3 := ((boxAt (by simp) _ _).alloc _).alloc _
 have b3 : Box ((((w.alloc (.cells #[.pointer (some ⟨g, 0, none⟩)] 231)).alloc (.cells #[.int .i64 most] 3)).alloc (.cells #[.string .empty] 9)).alloc (.cells #[.int .i64 0] 37)) (w.heap.size + 1 + 1) (.string .empty) 9 := (boxAt (by simp) _ _).alloc _
 have b4 : Box ((((w.alloc (.cells #[.pointer (some ⟨g, 0, none⟩)] 231)).alloc (.cells #[.int .i64 most] 3)).alloc (.cells #[.string .empty] 9)).alloc (.cells #[.int .i64 0] 37)) (((w.alloc (.cells #[.pointer (some ⟨g, 0, none⟩)] 231)).alloc (.cells #[.int .i64 most] 3)).alloc (.cells #[.string .empty] 9)).heap.size (.int .i64 0) 37 := boxAt rfl _ _
 refine (tried39 B g bs i _ _ _ (((h.alloc _).alloc _).alloc _) (by simp; omega) (textC B g bs i most w.heap.size (w.heap.size + 1) (w.heap.size + 1 + 1) _ _ ((((h.alloc _).alloc _).alloc _).alloc _) b1 b2 b3 b4 (by omega) (by omega) (by omega) (by simp; omega)) (fun n w1 hR => ⟨_, hR.2.1.choose_spec.1⟩)).mono ?_
 rintro e w' ⟨n, w1, rfl, hR, hk, h1, h0⟩
 obtain ⟨rfl, f1, f2, f3⟩ := fin (w := w) (fun h => textAt_pos h) hR hk h1 h0 (by simp) hlt (by omega) (by simp; omega) hB (((((Kept.refl [] w).alloc _).alloc _).alloc _).alloc _)
 exact ⟨rfl, f1, f2, f3⟩
theorem rtext_any (B g : Nat) (bs : List Nat) (i : Nat) (most : Int) (w : World) (h : Rdr w B g bs i) (hB : B ≤ w.heap.size) :
  Calls Tryz.prog 228 #[.pointer (some ⟨g, 0, none⟩), .int .i64 most] w (RetR B g bs (.string (bstr (textAt bs i most).1)) (textAt bs i most).2.1 (textAt bs i most).2.2 w) := by
 have hmf : ∀ (fn : Fn) (first cap : Array Value) (w : World), (Instr.makeFunc fn first cap).run Tryz.prog w = .ok (.func fn first cap) w := fun _ _ _ _ => rfl
 have H := Lib.hid h
 have HB := Lib.hid hB
 clear h hB
 go_enter Tryz.func228, Tryz.ntmps228
 go_wp2_with fail
 refine (textP B g bs i most w H.out HB.out).mono ?_
 rintro e w' ⟨rfl, h1, h2, h3⟩
 have hc := h2.cell
 have H1 := Lib.hid h1
 have H3 := Lib.hid h3
 clear h1 h2 h3
 go_wp2
 go_ret2
 exact ⟨rfl, H1.out, H3.out⟩
end Go.Proofs.YtpdedfpacklnoaaGreatDoor.W
namespace Go.Proofs.YtpdedfpacklnoaaGreatDoor.W
set_option maxRecDepth 100000
open Go.RowKit Go.BL Go.Wr
/-- What the document's Uint gives. -/
def refUint (bs : List Nat) : Nat × Nat × Nat := match num bs 0 0 with
 | .bad c => (0, 0, c)
 | .got n k => (n, k, 0)
theorem cast_pow (k : Nat) : ((128 : Int) ^ k) = ((128 ^ k : Nat) : Int) := by simp
theorem three {a b c : Int} {x y z : Nat} (h1 : a = x) (h2 : b = y) (h3 : c = z) : Ending.returned (.tuple #[.int .i64 a, .int .i64 b, .int .i64 c]) = .returned (.tuple #[.int .i64 x, .int .i64 y, .int .i64 z]) := by rw [h1, h2, h3]
theorem add_mul {m k : Nat} (x : Nat) (hm : m < 128 ^ k) (hk : k ≤ 8) : wrap64 ((m : Int) + wrap64 ((x : Int) % 128 * 128 ^ k)) = ((m + x % 128 * 128 ^ k : Nat) : Int) := by
 obtain ⟨h1, h2⟩ := pow128 x hm hk
 have h3 : m < 72057594037927936 := Nat.lt_of_lt_of_le hm (Nat.pow_le_pow_right (by decide) hk)
 rw [cast_pow, show ((x : Int) % 128) = ((x % 128 : Nat) : Int) by omega, ← Int.natCast_mul]
 generalize x % 128 * 128 ^ k = D at *
 clear h1 hm hk
 rw [IntWalk.wrap64_in (D : Int) (by omega), ← Int.natCast_add, IntWalk.wrap64_in _ (by omega)]
theorem add_mul8 {m x : Nat} (hm : m < 128 ^ 8) (hx : x < 128) : wrap64 ((m : Int) + (x : Int) % 128 * 72057594037927936) = ((m + x * 128 ^ 8 : Nat) : Int) := by
 have h3 : m < 72057594037927936 := hm
 rw [IntWalk.wrap64_in _ (by omega)]
 omega
theorem by_next {k : Nat} (hk : k < 8) : wrap64 ((128 : Int) ^ k * 128) = ((128 ^ (k + 1) : Nat) : Int) := by
 have h3 : 128 ^ (k + 1) ≤ 72057594037927936 := Nat.pow_le_pow_right (n := 128) (by decide) hk
 rw [cast_pow, show ((128 ^ k : Nat) : Int) * 128 = ((128 ^ (k + 1) : Nat) : Int) by rw [Nat.pow_succ, Int.natCast_mul]; rfl]
 generalize 128 ^ (k + 1) = D at *
 rw [IntWalk.wrap64_in _ (by omega)]
set_option maxRecDepth 100000 in
theorem refUint_any (A : Option Addr) (len cap : Nat) (bs : List Nat) (w : World) (h : Rd w A len bs) :
  Calls Tryz.prog 141 #[.slice A len cap] w fun e w' => e = .returned (.tuple #[.int .i64 ((refUint bs).1 : Int), .int .i64 ((refUint bs).2.1 : Int), .int .i64 ((refUint bs).2.2 : Int)]) ∧ w = w' := by
 have hm := h.2.1
 unfold maxLen at hm
 have Hr := Lib.hid h
 clear h
 go_enter Tryz.func141, Tryz.ntmps141
 go_wp2
 go_loop [5, 6, 11] (fun n b j => ∃ m k : Nat, n = .int .i64 (m : Int) ∧ b = .int .i64 ((128 ^ k : Nat) : Int) ∧ j = .int .i64 (k : Int) ∧ k ≤ len ∧ k ≤ 8 ∧ Hid (m < 128 ^ k) ∧ Hid (num (bs.drop k) k m = num bs 0 0)) (fun _ _ j => 9 - (intOf j).toNat)
 case atStart => exact ⟨0, 0, rfl, rfl, rfl, by omega, by omega, Lib.hid (by decide), Lib.hid rfl⟩
 case round =>
  obtain ⟨m, k, rfl, rfl, rfl, hk, hk8, Hm, HN⟩ := hrel
  by_cases hlt : k < len
  ·obtain ⟨b, off, rfl, _, hcb⟩ := Hr.out.2.2.2 (by omega)
   have hx := hcb k hlt
   have hx2 := getD_lt Hr.out.2.2.1 k
   have HD : Hid (bs.drop k = bs.getD k 0 :: bs.drop (k + 1)) := Lib.hid (by
    have hlt' : k < bs.length := by rw [Hr.out.1]; exact hlt
    rw [List.drop_eq_getElem_cons hlt', List.getD_eq_getElem?_getD, List.getElem?_eq_getElem hlt']; rfl)
   clear hcb
   generalize bs.getD k 0 = x at *
   have HA := Lib.hid (add_mul x Hm.out hk8)
   have Hp := Lib.hid (pow128 x Hm.out hk8).1
   by_cases hbig : 128 ≤ x
   ·by_cases h8 : k = 8
    ·subst h8
     have HE : Hid (refUint bs = (0, 0, 5)) := Lib.hid (by unfold refUint; rw [← HN.out, HD.out, num_range hbig])
     go_wp2
     go_ret3
     rw [HE.out]
     exact ⟨rfl, rfl⟩
    ·have HE : Hid (num (bs.drop (k + 1)) (k + 1) (m + x % 128 * 128 ^ k) = num bs 0 0) := Lib.hid (by rw [← HN.out, HD.out, num_more hbig h8])
     have HB := Lib.hid (by_next (k := k) (by omega))
     go_wp2
     go_round
     case rel => exact ⟨m + x % 128 * 128 ^ k, k + 1, by rw [HA.out], by rw [HB.out], by go_num, by omega, by omega, Hp, HE⟩
     case measure => simp [intOf]; omega
   ·by_cases hz : 0 < k ∧ x = 0
    ·obtain ⟨hk0, rfl⟩ := hz
     have HE : Hid (refUint bs = (0, 0, 10)) := Lib.hid (by unfold refUint; rw [← HN.out, HD.out, num_form hk0])
     go_wp2
     all_goals
      go_ret3
      rw [HE.out]
      exact ⟨rfl, rfl⟩
    ·have HE : Hid (refUint bs = (m + x * 128 ^ k, k + 1, 0)) := Lib.hid (by unfold refUint; rw [← HN.out, HD.out, num_end (by omega) hz])
     have hx7 : x % 128 = x := Nat.mod_eq_of_lt (by omega)
     have HA' : Hid (((m + x % 128 * 128 ^ k : Nat) : Int) = ((m + x * 128 ^ k : Nat) : Int)) := Lib.hid (by rw [hx7])
     clear hx7
     by_cases hk0 : 0 < k
     ·have hx0 : ((x : Int) == 0) = false := beq_eq_false_iff_ne.2 (by omega)
      clear hz
      by_cases h8 : k = 8
      ·subst h8
       go_wp2
       go_ret3
       rw [HE.out]
       exact ⟨three (add_mul8 Hm.out (by omega)) rfl rfl, rfl⟩
      ·go_wp2
       go_ret3
       rw [HE.out]
       exact ⟨three (HA.out.trans HA'.out) rfl rfl, rfl⟩
     ·obtain rfl : k = 0 := by omega
      clear hz
      have hx' : w.cell? ⟨b, off, none⟩ = some (.int .u8 (x : Int)) := hx
      clear hx
      go_wp2
      all_goals
       go_ret3
       rw [HE.out]
       exact ⟨three (by have hm0 : m < 1 := Hm.out; rw [IntWalk.wrap64_in _ (by omega)]; simp only []; omega) rfl rfl, rfl⟩
  ·have HE : Hid (refUint bs = (0, 0, 2)) := Lib.hid (by unfold refUint; rw [← HN.out, List.drop_of_length_le (by rw [Hr.out.1]; omega)]; rfl)
   go_wp2
   go_ret3
   rw [HE.out]
   exact ⟨rfl, rfl⟩
end Go.Proofs.YtpdedfpacklnoaaGreatDoor.W
namespace Go.BL
set_option maxRecDepth 100000
open Go.RowKit
theorem quiet_left {P : Program} {f : FuncId} {args : Array Value} {w : World} {n : Nat} {v : Value}
  (h : Calls P f args (w.drewN n) fun e w' => e = .returned v ∧ w.drewN n = w') : Calls P f args (w.drewN n) fun e w'' => e = .returned v ∧ ∃ m, w'' = w.drewN m :=
 h.mono fun _ _ ⟨he, hm⟩ => ⟨he, n, hm.symm⟩
theorem Rd.drewN {w : World} {A : Option Addr} {n : Nat} {bs : List Nat} (h : Rd w A n bs) (N : Nat) : Rd (w.drewN N) A n bs := h
theorem Rd.dropIf {w : World} {G : Option Addr} {len c i : Nat} {bs : List Nat} (h : Rd w G len bs) (hi : i ≤ len) (hc : len ≤ c) : Rd w (if c = i then G else G.map fun x => x.add i) (len - i) (bs.drop i) := by
 have h1 := h.cutIf (i := i) (n := len - i) (by omega) hc
 rwa [List.take_of_length_le (by rw [List.length_drop, h.1]; exact Nat.le_refl _)] at h1
end Go.BL
namespace Go.Proofs.YtpdedfpacklnoaaGreatDoor.W
open Go.RowKit Go.BL Go.Wr
/-- The document's reader over bs at i: its object g, its bytes below B. -/
def RRd (w : World) (B g : Nat) (bs : List Nat) (i : Nat) : Prop :=
 ∃ G c, w.heap[g]? = some (.cells #[.slice G bs.length c, .int .i64 (i : Int)] 208 (0, 0)) ∧ Rd w G bs.length bs ∧ i ≤ bs.length ∧ B ≤ g ∧ bs.length ≤ c ∧ (0 < bs.length → ∀ a, G = some a → a.block < B)
theorem RRd.cells {w : World} {B g i : Nat} {bs : List Nat} (h : RRd w B g bs i) : ∃ G c, w.cell? ⟨g, 0, none⟩ = some (.slice G bs.length c) ∧ w.cell? ⟨g, 1, none⟩ = some (.int .i64 (i : Int)) ∧ w.frozen? ⟨g, 1, none⟩ = false ∧ Rd w G bs.length bs ∧ bs.length ≤ c := by
 obtain ⟨G, c, hh, hr, _, _, hcap, _⟩ := h
 refine ⟨G, c, by rw [cell_of_row w g 0 _ 208 (0, 0) hh]; rfl, by rw [cell_of_row w g 1 _ 208 (0, 0) hh]; rfl, ?_, hr, hcap⟩
 unfold World.frozen?
 rw [hh]
 rfl
theorem RRd.lt {w : World} {B g i : Nat} {bs : List Nat} (h : RRd w B g bs i) : g < w.heap.size := by
 obtain ⟨G, c, hh, _⟩ := h
 rcases Nat.lt_or_ge g w.heap.size with h' | h'
 ·exact h'
 ·rw [Array.getElem?_eq_none h'] at hh; cases hh
theorem RRd.le {w : World} {B g i : Nat} {bs : List Nat} (h : RRd w B g bs i) : i ≤ bs.length := by
 obtain ⟨G, c, _, _, hb, _⟩ := h; exact hb
theorem RRd.kept {w w' : World} {B g i : Nat} {bs : List Nat} {rows : List Nat} (h : RRd w B g bs i) (k : Kept rows w w') (hr : ∀ x ∈ rows, B ≤ x ∧ x ≠ g) : RRd w' B g bs i := by
 have hlt := h.lt
 obtain ⟨G, c, hh, hd, hi, hg, hcap, hG⟩ := h
 exact ⟨G, c, (k.block g hlt (fun hx => (hr g hx).2 rfl)).trans hh, hd.kept k (fun a e hn hx => by have := (hr _ hx).1; have := hG hn a e; omega), hi, hg, hcap, hG⟩
theorem RRd.drewN {w : World} {B g i : Nat} {bs : List Nat} (h : RRd w B g bs i) (n : Nat) : RRd (w.drewN n) B g bs i :=
 h.kept (rows := []) ((Kept.refl [] w).drewN n) (fun _ hx => by cases hx)
theorem RRd.toI {w : World} {B g i : Nat} {bs : List Nat} {z : Int} (h : RRd w B g bs i) (j : Nat) (hj : j ≤ bs.length) (hz : z = (j : Int)) : RRd (w.setCell ⟨g, 1, none⟩ (.int .i64 z)) B g bs j := by
 subst hz
 obtain ⟨G, c, hh, hd, hi, hg, hcap, hG⟩ := h
 refine ⟨G, c, ?_, ?_, hj, hg, hcap, hG⟩
 ·simp [World.setCell, Array.getElem?_modify, hh]
 ·exact hd.kept (rows := [g]) ((Kept.refl _ w).setCell (.inl (by simp)) _) (fun a e hn hx => by have := hG hn a e; simp at hx; omega)
/-- What a call of the document's reader leaves. -/
def RetRR (B g : Nat) (bs : List Nat) (v : Value) (code pos : Nat) (w : World) (e : Ending) (w' : World) : Prop :=
 e = .returned (.tuple #[v, .int .i64 (code : Int)]) ∧ RRd w' B g bs pos ∧ Kept [g] w w'
theorem refUint_at (bs : List Nat) (i : Nat) : uintAt bs i = ((refUint (bs.drop i)).1, (refUint (bs.drop i)).2.2, i + (refUint (bs.drop i)).2.1) := by
 unfold uintAt refUint
 cases num (bs.drop i) 0 0 <;> rfl
theorem refUint_le (bs : List Nat) (i : Nat) (hi : i ≤ bs.length) : i + (refUint (bs.drop i)).2.1 ≤ bs.length := by
 unfold refUint
 cases h : num (bs.drop i) 0 0 with
 | bad c => exact hi
 | got n k =>
  have := num_le _ _ _ _ _ h
  rw [List.length_drop] at this
  show i + k ≤ bs.length
  omega
set_option maxRecDepth 100000 in
theorem refRUint_any (B g : Nat) (bs : List Nat) (i : Nat) (w : World) (h : RRd w B g bs i) :
  Calls Tryz.prog 143 #[.pointer (some ⟨g, 0, none⟩)] w (RetRR B g bs (.int .i64 ((uintAt bs i).1 : Int)) (uintAt bs i).2.1 (uintAt bs i).2.2 w) := by
 obtain ⟨G, c, h0, h1, h2, hr, hcap⟩ := h.cells
 have hm := hr.2.1
 unfold maxLen at hm
 have hile := h.le
 have hi : (i : Int) ≤ (bs.length : Int) := by omega
 have hic : (i : Int) ≤ (c : Int) := by omega
 have Hle := Lib.hid (refUint_le bs i hile)
 have HU := Lib.hid (refUint_at bs i)
 have HD := Lib.hid (hr.dropIf hile hcap)
 have H := Lib.hid h
 clear h hr
 go_enter Tryz.func143, Tryz.ntmps143
 go_wp2
 go_quiet ((go_at_call 141; exact quiet_left (refUint_any _ _ _ (bs.drop i) _ (HD.out.drewN _))))
 generalize refUint (bs.drop i) = r at *
 generalize (if c = i then G else G.map fun x => x.add i) = Z at *
 obtain ⟨rn, rk, rc⟩ := r
 have hrk : (i : Int) + (rk : Int) ≤ (bs.length : Int) := by have := Hle.out; simp only [] at this; omega
 go_wp2
 go_ret2
 rw [HU.out]
 exact ⟨rfl, (H.out.drewN nq).toI (i + rk) Hle.out (by omega), ((Kept.refl _ w).drewN nq).setCell (.inl (by simp)) _⟩
set_option maxRecDepth 100000 in
theorem refRByte_any (B g : Nat) (bs : List Nat) (i : Nat) (w : World) (h : RRd w B g bs i) :
  Calls Tryz.prog 192 #[.pointer (some ⟨g, 0, none⟩)] w (RetRR B g bs (.int .i64 ((byteAt bs i).1 : Int)) (byteAt bs i).2.1 (byteAt bs i).2.2 w) := by
 obtain ⟨G, c, h0, h1, h2, hr, hcap⟩ := h.cells
 have hm := hr.2.1
 unfold maxLen at hm
 have hile := h.le
 have Hr := Lib.hid hr
 have H := Lib.hid h
 clear h hr
 by_cases hlt : i < bs.length
 ·have HU : Hid (byteAt bs i = (bs.getD i 0, 0, i + 1)) := Lib.hid (by unfold byteAt; rw [if_pos hlt])
  have hne : ((i : Int) == (bs.length : Int)) = false := beq_eq_false_iff_ne.2 (by omega)
  have hi : (i : Int) < (bs.length : Int) := by omega
  obtain ⟨b, off, rfl, hbl, hcb⟩ := Hr.out.2.2.2 (by omega)
  have hx2 := getD_lt Hr.out.2.2.1 i
  have H1 := Lib.hid (H.out.toI (z := (i : Int) + 1) (i + 1) hlt (by omega))
  obtain ⟨G', c', hh', hr', _⟩ := H1.out.cells
  have hcell : (w.setCell ⟨g, 1, none⟩ (.int .i64 ((i : Int) + 1))).cell? ⟨b, off + i, none⟩ = some (.int .u8 ((bs.getD i 0 : Nat) : Int)) := by
   rw [← hcb i hlt]
   refine World.cell?_setCell_other _ _ _ _ (fun e => ?_)
   injection e with e1 _ _
   subst e1
   have hq := hcb i hlt
   obtain ⟨G2, c2, q0, q1, _, hd2, _⟩ := H.out.cells
   have hg2 := H.out
   obtain ⟨G3, c3, hh3, hd3, _, hg3, _, hG3⟩ := hg2
   rw [cell_of_row w g 0 _ 208 (0, 0) hh3] at h0
   simp at h0
   obtain ⟨e3, _⟩ := h0
   have := hG3 (by omega) _ e3
   simp at this
   omega
  clear hh' hr' hcb
  generalize bs.getD i 0 = x at *
  go_enter Tryz.func192, Tryz.ntmps192
  go_wp2
  go_quiet (fail)
  go_wp2
  have hw : IntKind.i64.wrap ((i : Int) + 1 - 1) = (i : Int) := by rw [IntWalk.i64_in _ (by omega)]; omega
  have hcell' : ((w.drewN nq).setCell ⟨g, 1, none⟩ (.int .i64 ((i : Int) + 1))).cell? ⟨b, off + i, none⟩ = some (.int .u8 (x : Int)) := hcell
  have hi0 : (0 : Int) ≤ (i : Int) := by omega
  go_quiet (fail)
  clear hw
  go_wp2
  go_ret2
  rw [HU.out]
  exact ⟨rfl, ((H.out.drewN _).toI (i + 1) hlt (by omega)).drewN _, (((Kept.refl [g] w).drewN _).setCell (p := ⟨g, 1, none⟩) (.inl (by simp)) _).drewN _⟩
 ·have HU : Hid (byteAt bs i = (0, 2, i)) := Lib.hid (by unfold byteAt; rw [if_neg hlt])
  have hne : ((i : Int) == (bs.length : Int)) = true := beq_iff_eq.2 (by omega)
  go_enter Tryz.func192, Tryz.ntmps192
  go_wp2
  go_quiet (fail)
  go_wp2
  go_ret2
  rw [HU.out]
  exact ⟨rfl, H.out.drewN nq, (Kept.refl _ w).drewN nq⟩
theorem textAt_of (bs : List Nat) (i : Nat) (most : Int) : textAt bs i most =
  if (refUint (bs.drop i)).2.2 ≠ 0 then ([], (refUint (bs.drop i)).2.2, i)
  else if max most 0 < ((refUint (bs.drop i)).1 : Int) then ([], 4, i)
  else if bs.length - (i + (refUint (bs.drop i)).2.1) < (refUint (bs.drop i)).1 then ([], 2, i)
  else ((bs.drop (i + (refUint (bs.drop i)).2.1)).take (refUint (bs.drop i)).1, 0, i + (refUint (bs.drop i)).2.1 + (refUint (bs.drop i)).1) := by
 unfold textAt refUint
 cases h : num (bs.drop i) 0 0 with
 | bad c => exact (if_pos (num_bad _ _ _ _ h)).symm
 | got n k => exact (if_neg (fun h => h rfl)).symm
set_option maxRecDepth 100000 in
theorem refRText_any (B g : Nat) (bs : List Nat) (i : Nat) (most : Int) (w : World) (h : RRd w B g bs i) (hl : bs.length ≤ 140737488355000) :
  Calls Tryz.prog 191 #[.pointer (some ⟨g, 0, none⟩), .int .i64 most] w (RetRR B g bs (.string (bstr (textAt bs i most).1)) (textAt bs i most).2.1 (textAt bs i most).2.2 w) := by
 obtain ⟨G, c, h0, h1, h2, hr, hcap⟩ := h.cells
 have hm := hr.2.1
 unfold maxLen at hm
 have hile := h.le
 have hi : (i : Int) ≤ (bs.length : Int) := by omega
 have hic : (i : Int) ≤ (c : Int) := by omega
 have Hle := Lib.hid (refUint_le bs i hile)
 have HT := Lib.hid (textAt_of bs i most)
 have HD := Lib.hid (hr.dropIf hile hcap)
 have Hr := Lib.hid hr
 have H := Lib.hid h
 clear h hr
 go_enter Tryz.func191, Tryz.ntmps191
 go_wp2
 go_quiet ((go_at_call 141; exact quiet_left (refUint_any _ _ _ (bs.drop i) _ (HD.out.drewN _))))
 generalize refUint (bs.drop i) = r at *
 generalize (if c = i then G else G.map fun x => x.add i) = Z at *
 obtain ⟨rn, rk, rc⟩ := r
 have hrk : (i : Int) + (rk : Int) ≤ (bs.length : Int) := by have := Hle.out; simp only [] at this; omega
 by_cases hc : rc = 0
 ·subst hc
  have HT1 : Hid (textAt bs i most = if max most 0 < (rn : Int) then ([], 4, i) else if bs.length - (i + rk) < rn then ([], 2, i) else ((bs.drop (i + rk)).take rn, 0, i + rk + rn)) := Lib.hid (HT.out.trans (if_neg (fun h => h rfl)))
  have hw1 : IntKind.i64.wrap ((bs.length : Int) - (i : Int)) = (bs.length : Int) - (i : Int) := IntWalk.i64_in _ (by omega)
  have hw2 : IntKind.i64.wrap ((bs.length : Int) - (i : Int) - (rk : Int)) = (bs.length : Int) - (i : Int) - (rk : Int) := IntWalk.i64_in _ (by omega)
  rcases (show most < 0 ∨ 0 ≤ most by omega) with hmost | hmost
  ·by_cases hlong : 0 < rn
   ·have HU : Hid (textAt bs i most = ([], 4, i)) := Lib.hid (HT1.out.trans (if_pos (by omega)))
    have hl2 : (0 : Int) < (rn : Int) := by omega
    clear hw1 hw2
    go_wp2
    go_ret2
    rw [HU.out]
    exact ⟨rfl, H.out.drewN nq, (Kept.refl _ w).drewN nq⟩
   ·have hl2 : ¬ (0 : Int) < (rn : Int) := by omega
    have Hl := Lib.hid hlong
    clear hlong
    by_cases hshort : bs.length - (i + rk) < rn
    ·have HU : Hid (textAt bs i most = ([], 2, i)) := Lib.hid (HT1.out.trans ((if_neg (by have := Hl.out; omega)).trans (if_pos hshort)))
     have hs : (bs.length : Int) - (i : Int) - (rk : Int) < (rn : Int) := by omega
     exfalso; omega
    ·have HU : Hid (textAt bs i most = ((bs.drop (i + rk)).take rn, 0, i + rk + rn)) := Lib.hid (HT1.out.trans ((if_neg (by have := Hl.out; omega)).trans (if_neg hshort)))
     have hs : ¬ (bs.length : Int) - (i : Int) - (rk : Int) < (rn : Int) := by omega
     have hcut := Hr.out.cutIf (i := i + rk) (n := rn) (c := c) (by omega) hcap
     have Hcut := Lib.hid hcut
     clear hshort hcut
     have hend : (i : Int) + (rk : Int) + (rn : Int) ≤ (bs.length : Int) := by omega
     go_wp2
     go_quiet (fail)
     clear hw1 hw2
     go_wp2
     have hw3 : IntKind.i64.wrap ((i : Int) + (rk : Int)) = (i : Int) + (rk : Int) := IntWalk.i64_in _ (by omega)
     have hw4 : IntKind.i64.wrap ((i : Int) + (rk : Int) + (rn : Int)) = (i : Int) + (rk : Int) + (rn : Int) := IntWalk.i64_in _ (by omega)
     have hs1 : (0 : Int) ≤ (i : Int) + (rk : Int) := by omega
     have hs2 : (i : Int) + (rk : Int) ≤ (i : Int) + (rk : Int) + (rn : Int) := by omega
     have hs3 : (i : Int) + (rk : Int) + (rn : Int) ≤ (c : Int) := by omega
     have hs4 : ((i : Int) + (rk : Int)).toNat = i + rk := by omega
     have hs5 : ((i : Int) + (rk : Int) + (rn : Int)).toNat = i + rk + rn := by omega
     have hconv := fun (N : Nat) => run_bstr (P := Tryz.prog) (c := c - (i + rk)) (Hcut.out.drewN N) 75 5 9 Tryz.underlying75 Tryz.underlying5 Tryz.underlying9
     go_quiet (fail)
     clear hw3 hw4 hs4 hs5 hconv
     generalize (if c = i + rk then G else G.map fun x => x.add (i + rk)) = Z2 at *
     go_wp2
     go_ret2
     rw [HU.out]
     exact ⟨rfl, (H.out.drewN _).toI (i + rk + rn) (by omega) (by omega), ((Kept.refl [g] w).drewN _).setCell (p := ⟨g, 1, none⟩) (.inl (by simp)) _⟩
  ·by_cases hlong : most < (rn : Int)
   ·have HU : Hid (textAt bs i most = ([], 4, i)) := Lib.hid (HT1.out.trans (if_pos (by omega)))
    have hl2 : most < (rn : Int) := by omega
    clear hw1 hw2
    go_wp2
    go_ret2
    rw [HU.out]
    exact ⟨rfl, H.out.drewN nq, (Kept.refl _ w).drewN nq⟩
   ·have hl2 : ¬ most < (rn : Int) := by omega
    have Hl := Lib.hid hlong
    clear hlong
    by_cases hshort : bs.length - (i + rk) < rn
    ·have HU : Hid (textAt bs i most = ([], 2, i)) := Lib.hid (HT1.out.trans ((if_neg (by have := Hl.out; omega)).trans (if_pos hshort)))
     have hs : (bs.length : Int) - (i : Int) - (rk : Int) < (rn : Int) := by omega
     go_wp2
     go_quiet (fail)
     go_wp2
     go_ret2
     rw [HU.out]
     exact ⟨rfl, (H.out.drewN _).drewN _, ((Kept.refl _ w).drewN _).drewN _⟩
    ·have HU : Hid (textAt bs i most = ((bs.drop (i + rk)).take rn, 0, i + rk + rn)) := Lib.hid (HT1.out.trans ((if_neg (by have := Hl.out; omega)).trans (if_neg hshort)))
     have hs : ¬ (bs.length : Int) - (i : Int) - (rk : Int) < (rn : Int) := by omega
     have hcut := Hr.out.cutIf (i := i + rk) (n := rn) (c := c) (by omega) hcap
     have Hcut := Lib.hid hcut
     clear hshort hcut
     have hend : (i : Int) + (rk : Int) + (rn : Int) ≤ (bs.length : Int) := by omega
     go_wp2
     go_quiet (fail)
     clear hw1 hw2
     go_wp2
     have hw3 : IntKind.i64.wrap ((i : Int) + (rk : Int)) = (i : Int) + (rk : Int) := IntWalk.i64_in _ (by omega)
     have hw4 : IntKind.i64.wrap ((i : Int) + (rk : Int) + (rn : Int)) = (i : Int) + (rk : Int) + (rn : Int) := IntWalk.i64_in _ (by omega)
     have hs1 : (0 : Int) ≤ (i : Int) + (rk : Int) := by omega
     have hs2 : (i : Int) + (rk : Int) ≤ (i : Int) + (rk : Int) + (rn : Int) := by omega
     have hs3 : (i : Int) + (rk : Int) + (rn : Int) ≤ (c : Int) := by omega
     have hs4 : ((i : Int) + (rk : Int)).toNat = i + rk := by omega
     have hs5 : ((i : Int) + (rk : Int) + (rn : Int)).toNat = i + rk + rn := by omega
     have hconv := fun (N : Nat) => run_bstr (P := Tryz.prog) (c := c - (i + rk)) (Hcut.out.drewN N) 75 5 9 Tryz.underlying75 Tryz.underlying5 Tryz.underlying9
     go_quiet (fail)
     clear hw3 hw4 hs4 hs5 hconv
     generalize (if c = i + rk then G else G.map fun x => x.add (i + rk)) = Z2 at *
     go_wp2
     go_ret2
     rw [HU.out]
     exact ⟨rfl, (H.out.drewN _).toI (i + rk + rn) (by omega) (by omega), ((Kept.refl [g] w).drewN _).setCell (p := ⟨g, 1, none⟩) (.inl (by simp)) _⟩
 ·have HU : Hid (textAt bs i most = ([], rc, i)) := Lib.hid (HT.out.trans (if_pos hc))
  have hn' : ((rc : Int) != 0) = true := bne_iff_ne.2 (by omega)
  go_wp2
  go_ret2
  rw [HU.out]
  exact ⟨rfl, H.out.drewN nq, (Kept.refl _ w).drewN nq⟩
end Go.Proofs.YtpdedfpacklnoaaGreatDoor.W
namespace Go.Wr
set_option maxRecDepth 100000
/-- The number of the first k bytes, the lowest first. -/
def pv (l : List Nat) : Nat → Nat
 | 0 => 0
 | k + 1 => pv l k + l.getD k 0 * 256 ^ k
theorem pv_four (l : List Nat) : pv l 4 = val4 l := by simp [pv, val4]
theorem pv_lt (l : List Nat) (h : ∀ i, l.getD i 0 < 256) : ∀ k, pv l k < 256 ^ k
 | 0 => by simp [pv]
 | k + 1 => by
  have h1 := pv_lt l h k
  have h2 := h k
  have h3 : l.getD k 0 * 256 ^ k ≤ 255 * 256 ^ k := Nat.mul_le_mul_right _ (by omega)
  rw [pv, Nat.pow_succ]
  omega
end Go.Wr
namespace Go.Proofs.YtpdedfpacklnoaaGreatDoor.W
open Go.RowKit Go.BL Go.Wr
theorem cast_pow8 (k : Nat) : ((2 : Int) ^ (8 * k)) = ((256 ^ k : Nat) : Int) := by
 have : (2 : Nat) ^ (8 * k) = 256 ^ k := by rw [Nat.pow_mul]
 rw [← this]; simp
theorem byte_shl {k x : Nat} (hk : k < 4) (hx : x < 256) : wrap64 ((x : Int) * 2 ^ (8 * k)) = ((x * 256 ^ k : Nat) : Int) ∧ x * 256 ^ k < 4294967296 := by
 have h3 : 256 ^ k ≤ 256 ^ 3 := Nat.pow_le_pow_right (by decide) (by omega)
 have h4 : x * 256 ^ k ≤ 255 * 256 ^ 3 := Nat.mul_le_mul (by omega) h3
 rw [cast_pow8, ← Int.natCast_mul]
 generalize x * 256 ^ k = D at *
 clear h3
 refine ⟨IntWalk.wrap64_in _ (by omega), by omega⟩
theorem or_byte {m k x : Nat} (hm : m < 256 ^ k) (hk : k < 4) (hx : x < 256) :
  bits .or .i64 (m : Int) (wrap64 ((x : Int) * 2 ^ (8 * k))) = ((m + x * 256 ^ k : Nat) : Int) := by
 obtain ⟨h1, h2⟩ := byte_shl hk hx
 have h4 : m < 4294967296 := Nat.lt_of_lt_of_le hm (Nat.le_trans (Nat.pow_le_pow_right (by decide) (show k ≤ 3 by omega)) (by decide))
 rw [h1, i64_or_nat m _ (by omega) (by omega)]
 congr 1
 have hp : (2 : Nat) ^ (8 * k) = 256 ^ k := by rw [Nat.pow_mul]
 rw [Nat.or_comm, ← hp, Nat.mul_comm, ← Nat.two_pow_add_eq_or_of_lt (by rw [hp]; exact hm)]
 omega
/-- What Unframe's closure leaves. -/
def RUf (g : Nat) (bs : List Nat) (pb sb : Nat) (w0 : World) (c : Nat) (w1 : World) : Prop :=
 c = (unframe bs).2.2 ∧ (c = 0 → ∃ A1 c1 A2 c2, Box w1 pb (.slice A1 (unframe bs).1.length c1) 75 ∧ Own w1 w0.heap.size (.slice A1 (unframe bs).1.length c1) (unframe bs).1 ∧ Box w1 sb (.slice A2 (unframe bs).2.1.length c2) 75 ∧ Own w1 w0.heap.size (.slice A2 (unframe bs).2.1.length c2) (unframe bs).2.1) ∧ Kept [g, pb, sb] w0 w1
theorem closeU {g n r pb sb c1 c4 B' : Nat} {A1 A4 : Option Addr} {bs PP RR : List Nat} {w0 w' : World} (hU : unframe bs = (PP, RR, 0)) (hl1 : PP.length = n) (hl2 : RR.length = r)
  (hp : Box w' pb (.slice A1 n c1) 75) (ho : Own w' w0.heap.size (.slice A1 n c1) PP) (hs : Box w' sb (.slice A4 r c4) 75) (ho2 : Own w' B' (.slice A4 r c4) RR) (hB : w0.heap.size ≤ B') (hk : Kept [g, pb, sb] w0 w') :
  Out (RUf g bs pb sb w0) (.returned (.tuple #[])) w' := by
 subst hl1 hl2
 refine .inl ⟨rfl, by rw [hU], fun _ => ⟨A1, c1, A4, c4, ?_⟩, hk⟩
 rw [hU]
 exact ⟨hp, ho, hs, ho2.base hB⟩
set_option maxRecDepth 100000 in
set_option maxHeartbeats 1000000 in
theorem unframeC (B g : Nat) (bs : List Nat) (rb pb sb eb : Nat) (w : World) (h : Rdr w B g bs 0) (hr : Box w rb (.pointer (some ⟨g, 0, none⟩)) 231) (hp : Box w pb (.slice none 0 0) 75) (hs : Box w sb (.slice none 0 0) 75) (he : Box w eb (.int .i64 0) 37)
  (h0 : B ≤ rb) (h1 : B ≤ pb) (h2 : B ≤ sb) (h3 : B ≤ eb) (hps : pb ≠ sb) :
  Calls Tryz.prog 182 #[.pointer (some ⟨rb, 0, none⟩), .pointer (some ⟨pb, 0, none⟩), .pointer (some ⟨sb, 0, none⟩)] w fun e w' => Box w' eb (.int .i64 0) 37 ∧ Out (RUf g bs pb sb w) e w' := by
 have hrc := hr.cell
 have hgb := h.ltB
 have hn1 : eb ≠ pb := by rintro rfl; unfold Box at hp he; rw [hp] at he; injection he with he; injection he with _ he; cases he
 have hn2 : eb ≠ sb := by rintro rfl; unfold Box at hs he; rw [hs] at he; injection he with he; injection he with _ he; cases he
 have hn3 : rb ≠ pb := by rintro rfl; unfold Box at hp hr; rw [hp] at hr; injection hr with hr; injection hr with _ hr; cases hr
 have hn4 : rb ≠ sb := by rintro rfl; unfold Box at hs hr; rw [hs] at hr; injection hr with hr; injection hr with _ hr; cases hr
 have hlen := h.len
 have H := Lib.hid h
 have Hr := Lib.hid hr
 have Hp := Lib.hid hp
 have Hs := Lib.hid hs
 have He := Lib.hid he
 have Hn := Lib.hid (show eb ≠ pb ∧ eb ≠ sb ∧ rb ≠ pb ∧ rb ≠ sb ∧ pb ≠ sb from ⟨hn1, hn2, hn3, hn4, hps⟩)
 clear h hr hp hs he hn1 hn2 hn3 hn4 hps
 go_enter Tryz.func182, Tryz.ntmps182
 go_wp2_with fail
 refine (number_any B g bs 0 _ H.out).mono ?_
 rw [List.drop_zero]
 cases hnum : num bs 0 0 with
 | bad c =>
  rintro e w1 ⟨rfl, hR, hK⟩
  have HR := Lib.hid hR
  have HK := Lib.hid hK
  have Hc := Lib.hid (num_bad _ _ _ _ hnum)
  have HU : Hid (unframe bs = ([], [], c)) := Lib.hid (by unfold unframe; rw [hnum])
  clear hR hK hnum
  go_wp2
  exact ⟨rfl, He.out.kept HK.out (by simp; omega), .inr ⟨c, Hc.out, rfl, by rw [HU.out], fun h => absurd h Hc.out, HK.out.mono (fun x hx => .inl (by simp at hx; simp [hx]))⟩⟩
 | got n k =>
  rintro e w1 ⟨rfl, hR, hK⟩
  rw [Nat.zero_add] at hR
  have HR := Lib.hid hR
  have HK := Lib.hid hK
  have Hnum := Lib.hid hnum
  clear hR hK hnum
  have hkl := HR.out.le
  have He1 := Lib.hid (He.out.kept HK.out (by simp; omega))
  have hrc1 := (Hr.out.kept HK.out (by simp; omega)).cell
  clear hrc
  by_cases hlong : 65536 < n
  ·have HU : Hid (unframe bs = ([], [], 4)) := Lib.hid (by unfold unframe; rw [Hnum.out]; exact if_pos hlong)
   go_wp2_with fail
   refine (cut_any 4 _).mono ?_
   rintro e w' ⟨rfl, rfl⟩
   go_wp2
   exact ⟨rfl, He1.out, .inr ⟨4, by decide, rfl, by rw [HU.out], fun h => absurd h (by decide), HK.out.mono (fun x hx => .inl (by simp at hx; simp [hx]))⟩⟩
  ·go_wp2_with fail
   refine (left_any B g bs k _ HR.out).mono ?_
   rintro e w' ⟨rfl, N, rfl⟩
   by_cases hshort : bs.length - k < n + 4
   ·have HU : Hid (unframe bs = ([], [], 2)) := Lib.hid (by unfold unframe; rw [Hnum.out]; show (if _ then _ else _) = _; rw [if_neg hlong, if_pos hshort])
    have hsh : ((bs.length - k : Nat) : Int) < (n : Int) + 4 := by omega
    go_wp2_with fail
    refine (cut_any 2 _).mono ?_
    rintro e w' ⟨rfl, rfl⟩
    go_wp2
    exact ⟨rfl, He1.out.drewN N, .inr ⟨2, by decide, rfl, by rw [HU.out], fun h => absurd h (by decide), (HK.out.mono (fun x hx => .inl (by simp at hx; simp [hx]))).drewN N⟩⟩
   ·have hsh : ¬ ((bs.length - k : Nat) : Int) < (n : Int) + 4 := by omega
    go_wp2_with fail
    refine (takeZ B g bs k n n rfl _ (HR.out.drewN N) (by omega)).mono ?_
    have HU : Hid (unframe bs = if val4 ((bs.drop (k + n)).take 4) ≠ sum ((bs.drop k).take n) then ([], [], 11) else ((bs.drop k).take n, bs.drop (k + n + 4), 0)) := Lib.hid (by unfold unframe; rw [Hnum.out]; show (if _ then _ else _) = _; rw [if_neg hlong, if_neg hshort])
    have HPl : Hid (((bs.drop k).take n).length = n) := Lib.hid (by rw [List.length_take, List.length_drop]; omega)
    have HTl : Hid (((bs.drop (k + n)).take 4).length = 4) := Lib.hid (by rw [List.length_take, List.length_drop]; omega)
    have HLl : Hid ((bs.drop (k + n + 4)).length = bs.length - (k + n + 4)) := Lib.hid (by rw [List.length_drop])
    have HL3 : Hid ((bs.drop (k + n + 4)).take (bs.length - (k + n + 4)) = bs.drop (k + n + 4)) := Lib.hid (List.take_of_length_le (by rw [List.length_drop]; exact Nat.le_refl _))
    have htot : k + n + 4 ≤ bs.length := by omega
    clear hshort hsh
    obtain ⟨PP, hPP⟩ : ∃ PP, (bs.drop k).take n = PP := ⟨_, rfl⟩
    rw [hPP] at HU HPl ⊢
    clear hPP
    rintro e w2 ⟨A1, c1, rfl, -, how, hR2, hK2⟩
    have HK2 := Lib.hid (HK.out.then_ (((Kept.refl [g] w1).drewN N).then_ hK2))
    have HR2 := Lib.hid hR2
    have HO2 : Hid (Own w2 w.heap.size (.slice A1 n c1) PP) := Lib.hid (how.base HK.out.size)
    have Hp2 := Lib.hid (Hp.out.kept HK2.out (by simp; omega))
    have Hs2 := Lib.hid (Hs.out.kept HK2.out (by simp; omega))
    have He2 := Lib.hid (He.out.kept HK2.out (by simp; omega))
    have Hr2 := Lib.hid (Hr.out.kept HK2.out (by simp; omega))
    have Hlt := Lib.hid (show pb < w.heap.size ∧ sb < w.heap.size ∧ eb < w.heap.size ∧ rb < w.heap.size ∧ g < w.heap.size from ⟨Hp.out.lt, Hs.out.lt, He.out.lt, Hr.out.lt, H.out.lt⟩)
    have hpc := Hp2.out.cell
    have hpf := Hp2.out.free
    clear how hR2 hK2 hrc1
    have hrc2 := (Hr2.out.far (p := ⟨pb, 0, none⟩) (by have := Hn.out; show rb ≠ pb; omega) (.slice A1 n c1)).cell
    go_wp2_with fail
    refine (takeZ B g bs (k + n) 4 4 rfl _ (HR2.out.far h1 _) (by omega)).mono ?_
    obtain ⟨T, hT⟩ : ∃ T, (bs.drop (k + n)).take 4 = T := ⟨_, rfl⟩
    rw [hT] at HU HTl ⊢
    clear hT
    rintro e w3 ⟨A2, c2, rfl, hrd, -, hR3, hK3⟩
    have HK3 : Hid (Kept [g, pb, sb] w w3) := Lib.hid (((HK2.out.mono (rows' := [g, pb, sb]) (fun x hx => .inl (by simp at hx; simp [hx]))).setCell (p := ⟨pb, 0, none⟩) (.inl (by simp)) _).trans hK3 (fun x hx => .inl (by simp at hx; simp [hx])))
    have HR3 := Lib.hid hR3
    have HT := Lib.hid hrd
    have Hp3 : Hid (Box w3 pb (.slice A1 n c1) 75) := Lib.hid ((Hp2.out.set_ _).kept hK3 (by have := H.out.ltB; simp; omega))
    have Hs3 : Hid (Box w3 sb (.slice none 0 0) 75) := Lib.hid ((Hs2.out.far (p := ⟨pb, 0, none⟩) (by have := Hn.out; show sb ≠ pb; omega) _).kept hK3 (by have := H.out.ltB; simp; omega))
    have He3 : Hid (Box w3 eb (.int .i64 0) 37) := Lib.hid ((He2.out.far (p := ⟨pb, 0, none⟩) (by have := Hn.out; show eb ≠ pb; omega) _).kept hK3 (by have := H.out.ltB; simp; omega))
    have Hr3 : Hid (Box w3 rb (.pointer (some ⟨g, 0, none⟩)) 231) := Lib.hid ((Hr2.out.far (p := ⟨pb, 0, none⟩) (by have := Hn.out; show rb ≠ pb; omega) _).kept hK3 (by have := H.out.ltB; simp; omega))
    have HO3 : Hid (Own w3 w.heap.size (.slice A1 n c1) PP) := Lib.hid ((HO2.out.kept (rows := [pb]) ((Kept.refl _ w2).setCell (p := ⟨pb, 0, none⟩) (.inl (by simp)) (.slice A1 n c1)) (fun x hx => by have h5 := HO2.out.block_ge x hx; have := Hlt.out; simp; omega)).kept hK3 (fun x hx => by have h5 := HO2.out.block_ge x hx; have := Hlt.out; simp; omega))
    clear hrd hR3 hK3 hpc hpf hrc2
    clear HR2 HO2 Hp2 Hs2 He2 Hr2
    go_wp2
    go_loop [4, 24] (fun s i => ∃ j m : Nat, j ≤ 4 ∧ i = .int .i64 (j : Int) ∧ s = .int .i64 (m : Int) ∧ Hid (m = pv T j)) (fun _ i => 4 - (intOf i).toNat)
    case atStart => exact ⟨0, 0, by omega, rfl, rfl, Lib.hid rfl⟩
    case round =>
     obtain ⟨j, m, hj, rfl, rfl, Hm⟩ := hrel
     by_cases hlt : j < 4
     ·obtain ⟨b, off, rfl, _, hcell⟩ := HT.out.2.2.2 (by omega)
      have hc := hcell j hlt
      have hx := getD_lt HT.out.2.2.1 j
      have Hs9 := Lib.hid (or_byte (m := m) (x := T.getD j 0) (by rw [Hm.out]; exact pv_lt T (getD_lt HT.out.2.2.1) j) hlt hx)
      have Hm9 : Hid (m + T.getD j 0 * 256 ^ j = pv T (j + 1)) := Lib.hid (by rw [Hm.out, pv])
      clear hcell
      generalize T.getD j 0 = x at *
      go_wp2
      go_round
      case rel => exact ⟨j + 1, m + x * 256 ^ j, by omega, by go_num, by rw [Hs9.out], Hm9⟩
      case measure => simp [intOf]; omega
     ·obtain rfl : j = 4 := by omega
      have Hm4 : Hid (m = val4 T) := Lib.hid (by rw [Hm.out, pv_four])
      have hpc := Hp3.out.cell
      clear Hm
      go_wp2_with fail
      refine (sum_any A1 n c1 PP _ (HO3.out.rdOf HPl.out)).mono ?_
      rintro e w' ⟨rfl, rfl⟩
      by_cases hsum : val4 T ≠ sum PP
      ·have HU2 := Lib.hid (HU.out.trans (if_pos hsum))
       have hne : ((m : Int) != (sum PP : Int)) = true := bne_iff_ne.2 (by have := Hm4.out; omega)
       go_wp2_with fail
       refine (cut_any 11 _).mono ?_
       rintro e w' ⟨rfl, rfl⟩
       go_wp2
       exact ⟨rfl, He3.out, .inr ⟨11, by decide, rfl, by rw [HU2.out], fun h => absurd h (by decide), HK3.out⟩⟩
      ·have HU2 := Lib.hid (HU.out.trans (if_neg hsum))
       have hne : ((m : Int) != (sum PP : Int)) = false := by have := Hm4.out; rw [bne_eq_false_iff_eq]; omega
       clear hsum
       have Hlt3 := Lib.hid HK3.out.size
       have hrc3 := Hr3.out.cell
       go_wp2
       go_region_with ((first
        | (go_at_call 185; refine (left_any B g bs (k + n + 4) _ (by exact HR3.out)).mono ?_; rintro e w' ⟨rfl, N2, rfl⟩)
        | (go_at_call 186; refine (takeZ B g bs (k + n + 4) (bs.length - (k + n + 4)) _ rfl _ (by exact HR3.out) (by omega)).mono ?_; rw [HL3.out]; rintro e w4 ⟨A4, c4, rfl, -, how4, hR4, hK4⟩; have Hs4 := Lib.hid (Box.kept (b := sb) (v := .slice none 0 0) (t := 75) (by exact Hs3.out) hK4 (by have := H.out.ltB; simp; omega)); have hsc := Hs4.out.cell; have hsf := Hs4.out.free; have How4 := Lib.hid how4; have HK4 := Lib.hid hK4; clear how4 hR4 hK4)))
       all_goals
        go_end0
        have hn := Hn.out
        have hl := Hlt.out
        have hgB := H.out.ltB
        have Hp4 : Box w4 pb (.slice A1 n c1) 75 := Box.kept (w := w3) Hp3.out (by exact ⟨HK4.out.os, HK4.out.tape, HK4.out.output, HK4.out.size, HK4.out.block⟩ : Kept [g] w3 w4) (by simp; omega)
        have He4 : Box w4 eb (.int .i64 0) 37 := Box.kept (w := w3) He3.out (by exact ⟨HK4.out.os, HK4.out.tape, HK4.out.output, HK4.out.size, HK4.out.block⟩ : Kept [g] w3 w4) (by simp; omega)
        have K4 : Kept [g] w3 w4 := ⟨HK4.out.os, HK4.out.tape, HK4.out.output, HK4.out.size, HK4.out.block⟩
        have HO4 : Own w4 w.heap.size (.slice A1 n c1) PP := HO3.out.kept K4 (fun x hx => by have h5 := HO3.out.block_ge x hx; simp; omega)
        have hw4 : w.heap.size ≤ w4.heap.size := Nat.le_trans HK3.out.size K4.size
        refine ⟨He4.far (by show eb ≠ sb; omega) _, closeU (n := n) (r := bs.length - (k + n + 4)) HU2.out HPl.out HLl.out (Hp4.far (by show pb ≠ sb; omega) _) (HO4.kept (rows := [sb]) ((Kept.refl _ w4).setCell (.inl (by simp)) _) (fun x hx => by have h5 := HO4.block_ge x hx; simp; omega)) (Hs4.out.set_ _)
         (How4.out.kept (rows := [sb]) ((Kept.refl _ w4).setCell (.inl (by simp)) _) (fun x hx => by have h5 := How4.out.block_ge x hx; have h6 : w3.heap.size ≤ x := h5; have h7 := HK3.out.size; simp; omega)) HK3.out.size ((HK3.out.trans K4 (fun x hx => .inl (by simp at hx; simp [hx]))).setCell (.inl (by simp)) _)⟩
end Go.Proofs.YtpdedfpacklnoaaGreatDoor.W
namespace Go.Wr
set_option maxRecDepth 100000
theorem unframe_bad {bs : List Nat} (h : (unframe bs).2.2 ≠ 0) : (unframe bs).1 = [] ∧ (unframe bs).2.1 = [] := by
 unfold unframe at h ⊢
 cases hn : num bs 0 0 with
 | bad c => exact ⟨rfl, rfl⟩
 | got n k =>
  rw [hn] at h
  by_cases h1 : 65536 < n
  ·simp only [if_pos h1]; exact ⟨trivial, trivial⟩
  ·by_cases h2 : bs.length - k < n + 4
   ·simp only [if_neg h1, if_pos h2]; exact ⟨trivial, trivial⟩
   ·by_cases h3 : val4 ((bs.drop (k + n)).take 4) ≠ sum ((bs.drop k).take n)
    ·simp only [if_neg h1, if_neg h2, if_pos h3]; exact ⟨trivial, trivial⟩
    ·simp only [if_neg h1, if_neg h2, if_neg h3] at h; exact absurd rfl h
end Go.Wr
namespace Go.Proofs.YtpdedfpacklnoaaGreatDoor.W
open Go.RowKit Go.BL Go.Wr
/-- What Unframe leaves: two new rows and an error. -/
def RetU (r : List Nat × List Nat × Nat) (w : World) (e : Ending) (w' : World) : Prop :=
 ∃ A1 c1 A2 c2, e = .returned (.tuple #[.slice A1 r.1.length c1, .slice A2 r.2.1.length c2, .int .i64 (r.2.2 : Int)]) ∧ Own w' w.heap.size (.slice A1 r.1.length c1) r.1 ∧ Own w' w.heap.size (.slice A2 r.2.1.length c2) r.2.1 ∧ Below w.heap.size w w'
theorem unframeP (g : Nat) (bs : List Nat) (w : World) (h : Rdr w w.heap.size g bs 0) :
  Calls Tryz.prog 181 #[.func (.func 182) #[] #[.pointer (some ⟨w.heap.size, 0, none⟩), .pointer (some ⟨w.heap.size + 1, 0, none⟩), .pointer (some ⟨w.heap.size + 1 + 1, 0, none⟩)]]
   (((w.alloc (.cells #[.pointer (some ⟨g, 0, none⟩)] 231)).alloc (.cells #[.slice none 0 0] 75)).alloc (.cells #[.slice none 0 0] 75))
   fun e w' => e = .returned (.int .i64 ((unframe bs).2.2 : Int)) ∧ ((unframe bs).2.2 = 0 → ∃ A1 c1 A2 c2, Box w' (w.heap.size + 1) (.slice A1 (unframe bs).1.length c1) 75 ∧ Own w' w.heap.size (.slice A1 (unframe bs).1.length c1) (unframe bs).1 ∧ Box w' (w.heap.size + 1 + 1) (.slice A2 (unframe bs).2.1.length c2) 75 ∧ Own w' w.heap.size (.slice A2 (unframe bs).2.1.length c2) (unframe bs).2.1) ∧ Kept [g] w w' := by
 have hlt := h.lt
 refine (try42 _ _ (RUf g bs (w.heap.size + 1) (w.heap.size + 1 + 1) _) ((unframeC w.heap.size g bs w.heap.size (w.heap.size + 1) (w.heap.size + 1 + 1) _ _ ((((h.alloc _).alloc _).alloc _).alloc _) ((((boxAt rfl _ _).alloc _).alloc _).alloc _) (((boxAt (by simp) _ _).alloc _).alloc _) ((boxAt (by simp) _ _).alloc _) (boxAt rfl _ _) (by omega) (by omega) (by omega) (by simp; omega) (by omega)))).mono ?_
 rintro e w' ⟨n, w1, rfl, hR, hk⟩
 obtain ⟨rfl, hok, hk1⟩ := hR
 have hsz := hk1.size
 simp only [World.size_alloc] at hsz
 refine ⟨rfl, fun h0 => ?_, ?_⟩
 ·obtain ⟨A1, c1, A2, c2, b1, o1, b2, o2⟩ := hok h0
  have hne : ∀ (v : Value) (bs : List Nat), Own w1 ((((w.alloc (.cells #[.pointer (some ⟨g, 0, none⟩)] 231)).alloc (.cells #[.slice none 0 0] 75)).alloc (.cells #[.slice none 0 0] 75)).alloc (.cells #[.int .i64 0] 37)).heap.size v bs → Own w' w.heap.size v bs := by
   intro v bs ho
   refine (ho.kept hk (fun x hx => ?_)).base (by simp; omega)
   have := ho.block_ge x hx
   simp only [World.size_alloc] at this
   simp; omega
  exact ⟨A1, c1, A2, c2, b1.kept hk (by simp), hne _ _ o1, b2.kept hk (by simp), hne _ _ o2⟩
 ·have k1 : Kept [g] w w1 := (((((Kept.refl [g] w).alloc _).alloc _).alloc _).alloc _).trans hk1 (fun x hx => by simp at hx ⊢; omega)
  exact k1.trans hk (fun x hx => by simp at hx ⊢; omega)
set_option maxRecDepth 100000 in
theorem unframe_any (A : Option Addr) (m cap : Nat) (bs : List Nat) (w : World) (hr : Rd w A m bs) (hm : m ≤ 140737488355000) : Calls Tryz.prog 135 #[.slice A m cap] w (RetU (unframe bs) w) := by
 have hmf : ∀ (fn : Fn) (first cap : Array Value) (w : World), (Instr.makeFunc fn first cap).run Tryz.prog w = .ok (.func fn first cap) w := fun _ _ _ _ => rfl
 have Hr := Lib.hid hr
 clear hr
 go_enter Tryz.func135, Tryz.ntmps135
 go_wp2_with fail
 refine (over_rdr A m cap bs _ Hr.out hm).mono ?_
 rintro e w1 ⟨g, rfl, hg, hR, hb, -⟩
 have HR := Lib.hid hR
 have Hb := Lib.hid hb
 have Hg := Lib.hid hg
 clear hR hb hg
 go_wp2_with fail
 refine (unframeP g bs w1 HR.out).mono ?_
 rintro e w2 ⟨rfl, hok, hk⟩
 have HB : Hid (Below w.heap.size w w2) := Lib.hid (Hb.out.trans (hk.below Hb.out.size (fun x hx => by have := Hg.out; simp at hx; omega)))
 by_cases h0 : (unframe bs).2.2 = 0
 ·obtain ⟨A1, c1, A2, c2, b1, o1, b2, o2⟩ := hok h0
  have H0 := Lib.hid h0
  have O1 := Lib.hid (o1.base Hb.out.size)
  have O2 := Lib.hid (o2.base Hb.out.size)
  have hc1 := b1.cell
  have hc2 := b2.cell
  clear hok hk o1 o2 b1 b2
  rw [h0]
  clear h0
  go_wp2
  go_quiet (fail)
  go_wp2
  go_ret3
  exact ⟨A1, c1, A2, c2, by rw [H0.out]; first | rfl | (rw [Int.max_eq_right (by omega)]; rfl), O1.out, O2.out, H.below_drewN HB.out _⟩
 ·have hne : (((unframe bs).2.2 : Int) != 0) = true := bne_iff_ne.2 (by omega)
  have HU := Lib.hid (unframe_bad h0)
  clear hok hk h0
  go_wp2
  go_ret3
  unfold RetU
  rw [HU.out.1, HU.out.2]
  exact ⟨none, 0, none, 0, rfl, Own.nil _ _, Own.nil _ _, HB.out⟩
end Go.Proofs.YtpdedfpacklnoaaGreatDoor.W
namespace Go.BL
set_option maxRecDepth 100000
open Go.RowKit
theorem heap_at {w : World} {g : Nat} (hg : g = w.heap.size) (o : Obj) : (w.alloc o).heap[g]? = some o := by subst hg; exact heap_alloc_new w o
theorem heap_old {w : World} {g : Nat} {x : Option Obj} (o : Obj) (hg : g < w.heap.size) (h : w.heap[g]? = x) : (w.alloc o).heap[g]? = x := (Below.heap_alloc w o g hg).trans h
theorem Own.emptyAt {w : World} {B g : Nat} (h : w.heap[g]? = some (.cells #[] 5 (0, 0))) (hB : B ≤ g) : Own w B (.slice (some ⟨g, 0, none⟩) 0 0) [] :=
 ⟨⟨rfl, .inr ⟨g, 0, #[], rfl, hB, h, Nat.le_refl _, by decide, rfl, rfl⟩⟩, fun x hx => absurd hx (by simp)⟩
section
variable {P : Program} {w : World}
theorem step_appB {ops : Array Oper} {o : Oper} {a : Act} {K : Act → World → Prop} {Q : Exit → Act → World → Prop} {E : Prop} (hgd : o.guard = none) (s x : Operand) (t : TypeId)
  (ho : o.op = .call { callee := .builtin .append, args := #[s, x], argTypes := #[t, t] })
  (ht : P.underlying t = some (.slice 5)) (hi : (P.info? 5).map (fun i => (i.zero, i.size, i.bytes)) = some (some (.int .u8 0), 1, 1))
  {B : Nat} {v : Value} {bs : List Nat} (hs : a.eval s = v) (hown : Own w B v bs)
  {A : Option Addr} {m c : Nat} {cs : List Nat} (hx : a.eval x = .slice A m c) (hr : Rd w A m cs)
  (hb : bs.length + m ≤ 140737488355328) (hbase : B ≤ w.heap.size)
  (h : ∀ v' w', Own w' B v' (bs ++ cs) → Below B w w' → w.grownBy w' v.ownBlock → (v'.ownBlock = v.ownBlock ∨ v'.ownBlock = some w.heap.size) → K (a.put o.dst v') w') :
  if Region.wanted o (yielded ops a.tmps) = true then Oper.wp P o a w K Q else E := by
 obtain ⟨i0, hi0, hz0, hz1, hz2⟩ := info_parts hi
 refine step_append_any w hgd s x t ho B 5 i0 (.int .u8 0) 1 1 ht hi0 hz0 hz1 hz2 rfl (by decide) v bs.length (bv bs) hs hown.1 w.heap.size A m c (bv cs) hx hr.reads (bv_one cs) (by unfold maxLen; omega) (by omega) hbase ?_
 intro v' w' h1 h2 h3
 refine h v' w' ⟨?_, fun y hy => ?_⟩ ((Below.refl B w).grown h2 hbase hown.block_ge) h2 h3
 ·rw [List.length_append, hr.1, bv_append]; exact h1
 ·rcases List.mem_append.1 hy with h' | h'
  ·exact hown.2 y h'
  ·exact hr.2.2.1 y h'
end
end Go.BL
namespace Go.Proofs.YtpdedfpacklnoaaGreatDoor.W
open Go.RowKit Go.BL Go.Wr
theorem unframe_of (bs : List Nat) : unframe bs =
  if (refUint bs).2.2 ≠ 0 then ([], [], (refUint bs).2.2)
  else if 65536 < (refUint bs).1 then ([], [], 4)
  else if bs.length - (refUint bs).2.1 < (refUint bs).1 + 4 then ([], [], 2)
  else if val4 ((bs.drop ((refUint bs).2.1 + (refUint bs).1)).take 4) ≠ sum ((bs.drop (refUint bs).2.1).take (refUint bs).1) then ([], [], 11)
  else ((bs.drop (refUint bs).2.1).take (refUint bs).1, bs.drop ((refUint bs).2.1 + (refUint bs).1 + 4), 0) := by
 unfold unframe refUint
 cases h : num bs 0 0 with
 | bad c => exact (if_pos (num_bad _ _ _ _ h)).symm
 | got n k => exact (if_neg (fun h => h rfl)).symm
theorem add_byte {m k x : Nat} (hm : m < 256 ^ k) (hk : k < 4) (hx : x < 256) : wrap64 ((m : Int) + wrap64 ((x : Int) * 2 ^ (8 * k))) = ((m + x * 256 ^ k : Nat) : Int) := by
 obtain ⟨h1, h2⟩ := byte_shl hk hx
 have h4 : m < 4294967296 := Nat.lt_of_lt_of_le hm (Nat.le_trans (Nat.pow_le_pow_right (by decide) (show k ≤ 3 by omega)) (by decide))
 rw [h1, ← Int.natCast_add]
 generalize x * 256 ^ k = D at *
 exact IntWalk.wrap64_in _ (by omega)
set_option linter.unusedSimpArgs false in
set_option maxRecDepth 100000 in
set_option maxHeartbeats 1000000 in
theorem unframeR_any (A : Option Addr) (m cap : Nat) (bs : List Nat) (w : World) (hr : Rd w A m bs) (hm : m ≤ 140737488355000) (hcap : m ≤ cap) : Calls Tryz.prog 95 #[.slice A m cap] w (RetU (unframe bs) w) := by
 have hl := hr.1
 have Hr := Lib.hid hr
 have Hl := Lib.hid hl
 have HU0 := Lib.hid (unframe_of bs)
 have hkl := refUint_le bs 0 (Nat.zero_le _)
 rw [List.drop_zero, Nat.zero_add, hl] at hkl
 clear hr hl
 go_enter Tryz.func95, Tryz.ntmps95
 go_wp2_with fail
 refine (refUint_any A m cap bs _ Hr.out).mono ?_
 rintro e w' ⟨rfl, rfl⟩
 generalize refUint bs = r at *
 obtain ⟨n, k, c⟩ := r
 simp only [] at hkl
 by_cases hc : c = 0
 ·subst hc
  have HU1 := Lib.hid (HU0.out.trans (if_neg (fun h => h rfl)))
  by_cases hlong : 65536 < n
  ·have HU := Lib.hid (HU1.out.trans (if_pos hlong))
   go_wp2
   go_ret3
   rw [HU.out]
   exact ⟨none, 0, none, 0, rfl, Own.nil _ _, Own.nil _ _, Below.refl _ _⟩
  ·have HU2 := Lib.hid (HU1.out.trans (if_neg hlong))
   by_cases hshort : m - k < n + 4
   ·have HU := Lib.hid (HU2.out.trans (if_pos (show bs.length - k < n + 4 by rw [Hl.out]; exact hshort)))
    have hsh : (m : Int) - (k : Int) < (n : Int) + 4 := by omega
    go_wp2
    go_ret3
    rw [HU.out]
    exact ⟨none, 0, none, 0, rfl, Own.nil _ _, Own.nil _ _, Below.refl _ _⟩
   ·have HU3 := Lib.hid (HU2.out.trans (if_neg (show ¬ bs.length - k < n + 4 by rw [Hl.out]; exact hshort)))
    have hsh : ¬ (m : Int) - (k : Int) < (n : Int) + 4 := by omega
    have HPd : Hid (Rd w (A.map fun x => x.add k) n ((bs.drop k).take n)) := Lib.hid (by have h := Hr.out.cutIf (i := k) (n := n) (c := cap) (by omega) hcap; rwa [if_neg (by omega)] at h)
    have HRd := Lib.hid (Hr.out.dropIf (i := k + n + 4) (c := cap) (by omega) hcap)
    have HPl : Hid (((bs.drop k).take n).length = n) := Lib.hid (by have := Hl.out; rw [List.length_take, List.length_drop]; omega)
    have HTl : Hid (∀ j, j < 4 → ((bs.drop (k + n)).take 4).getD j 0 = bs.getD (k + n + j) 0) := Lib.hid (fun j hj => by
     rw [List.getD_eq_getElem?_getD, List.getD_eq_getElem?_getD, List.getElem?_take_of_lt hj, List.getElem?_drop])
    have htot : k + n + 4 ≤ m := by omega
    have hT2 := fun x (hx : x ∈ (bs.drop (k + n)).take 4) => Hr.out.2.2.1 x (List.mem_of_mem_drop (List.mem_of_mem_take hx))
    have HT2 := Lib.hid hT2
    clear hshort hsh hT2
    generalize (bs.drop k).take n = PP at *
    generalize (bs.drop (k + n)).take 4 = T at *
    generalize hRR : bs.drop (k + n + 4) = RR at *
    clear hRR
    go_wp2
    generalize (A.map fun x => x.add k) = Z at *
    go_loop [9, 10, 35] (fun s t i => ∃ j q : Nat, j ≤ 4 ∧ i = .int .i64 (j : Int) ∧ s = .int .i64 (q : Int) ∧ Hid (q = pv T j)) (fun _ _ i => 4 - (intOf i).toNat)
    case atStart => exact ⟨0, 0, by omega, rfl, rfl, Lib.hid rfl⟩
    case round =>
     obtain ⟨j, q, hj, rfl, rfl, Hm⟩ := hrel
     by_cases hlt : j < 4
     ·obtain ⟨b, off, rfl, _, hcell⟩ := Hr.out.2.2.2 (by omega)
      have hcc := hcell (k + n + j) (by omega)
      have hx := getD_lt Hr.out.2.2.1 (k + n + j)
      have Hs9 := Lib.hid (add_byte (m := q) (x := bs.getD (k + n + j) 0) (by rw [Hm.out]; exact pv_lt T (getD_lt HT2.out) j) hlt hx)
      have Hm9 : Hid (q + bs.getD (k + n + j) 0 * 256 ^ j = pv T (j + 1)) := Lib.hid (by rw [Hm.out, pv, HTl.out j hlt])
      clear hcell
      generalize bs.getD (k + n + j) 0 = x at *
      go_wp2
      go_round
      case rel => exact ⟨j + 1, q + x * 256 ^ j, by omega, by go_num, by rw [Hs9.out], Hm9⟩
      case measure => simp [intOf]; omega
     ·obtain rfl : j = 4 := by omega
      have Hm4 : Hid (q = val4 T) := Lib.hid (by rw [Hm.out, pv_four])
      clear Hm
      go_wp2_with fail
      refine (sumR_any Z n _ PP _ HPd.out).mono ?_
      rintro e w' ⟨rfl, rfl⟩
      by_cases hsum : val4 T ≠ sum PP
      ·have HU := Lib.hid (HU3.out.trans (if_pos hsum))
       have hne : ((q : Int) != (sum PP : Int)) = true := bne_iff_ne.2 (by have := Hm4.out; omega)
       go_wp2
       go_ret3
       rw [HU.out]
       exact ⟨none, 0, none, 0, rfl, Own.nil _ _, Own.nil _ _, Below.refl _ _⟩
      ·have HU := Lib.hid (HU3.out.trans (if_neg hsum))
       have hne : ((q : Int) != (sum PP : Int)) = false := by have := Hm4.out; rw [bne_eq_false_iff_eq]; omega
       clear hsum
       go_wp2
       have hw1 : IntKind.i64.wrap ((k : Int) + (n : Int)) = (k : Int) + (n : Int) := IntWalk.i64_in _ (by omega)
       have hw2 : IntKind.i64.wrap ((k : Int) + (n : Int) + 4) = (k : Int) + (n : Int) + 4 := IntWalk.i64_in _ (by omega)
       have hs1 : (0 : Int) ≤ (k : Int) + (n : Int) + 4 := by omega
       have hs2 : (k : Int) + (n : Int) + 4 ≤ (m : Int) := by omega
       have hs4 : ((k : Int) + (n : Int) + 4).toNat = k + n + 4 := by omega
       go_region_held3 (fun _ => True) (trivial) ((first
        | (refine step_appB rfl (.tmp 57) (.tmp 58) 75 (by rfl) Tryz.underlying75 info5 (by rfl) (Own.emptyAt (B := w.heap.size) (by first | (refine heap_at ?_ _; (simp; done)) | (refine heap_old _ ?_ (heap_at ?_ _) <;> first | (simp; done) | (simp; omega))) (by first | (simp; done) | (simp; omega))) (by rfl) (HPd.out.below (B := w.heap.size) (by go_grown) (Nat.le_refl _)) (by first | (simp; done) | (simp; omega)) (by first | (simp; done) | (simp; omega)) ?_; intro v1 w1 ho hb hg hat; have Ho1 := Lib.hid ho; have Hb1 := Lib.hid hb; have Hg1 := Lib.hid hg; have Hat1 := Lib.hid hat; have HB1 : Hid (Below w.heap.size w w1) := Lib.hid (Below.trans (by go_grown) hb); clear ho hb hg hat)
        | (refine step_appB rfl (.tmp 60) (.tmp 66) 75 (by rfl) Tryz.underlying75 info5 (by rfl) (Own.emptyAt (B := w.heap.size) (by first | (refine heap_at ?_ _; (with_reducible rfl)) | (refine (Hg1.out.block _ ?_ ?_).trans (heap_at ?_ _) <;> first | (simp [Value.ownBlock]; done) | (simp [Value.ownBlock]; omega)) | (refine (Hg1.out.block _ ?_ ?_).trans (heap_old _ ?_ (heap_at ?_ _)) <;> first | (simp [Value.ownBlock]; done) | (simp [Value.ownBlock]; omega))) (by first | exact HB1.out.size | (simp; done) | (simp; omega))) (by rfl) (HRd.out.below (B := w.heap.size) (by first | exact HB1.out | exact HB1.out.alloc HB1.out.size _) (Nat.le_refl _)) (by first | (simp; done) | (simp; omega)) (by first | exact HB1.out.size | exact Nat.le_trans HB1.out.size (by first | (simp; done) | (simp; omega))) ?_; intro v2 w2 ho hb hg hat; have Ho2 := Lib.hid ho; have Hb2 := Lib.hid hb; have Hg2 := Lib.hid hg; have Hat2 := Lib.hid hat; clear ho hb hg hat)
        | fail))
       all_goals
        have O1 : Own w2 w.heap.size v1 PP := by
         first
         | (refine (Ho1.out.alloc _).only Hg2.out ?_; intro e; have h := Ho1.out.lt _ e; exact absurd h (Nat.lt_irrefl _))
         | (refine Ho1.out.only Hg2.out ?_; intro e; rcases Hat1.out with h | h <;> rw [h] at e <;> simp only [Value.ownBlock, Option.map_some, Option.some.injEq] at e <;> first | omega | (simp at e; done) | (simp at e; omega))
        have O2 : Own w2 w.heap.size v2 RR := Ho2.out
        have HB2 : Hid (Below w.heap.size w w2) := Lib.hid (by first | exact HB1.out.trans Hb2.out | exact (HB1.out.alloc HB1.out.size _).trans Hb2.out)
        obtain ⟨A1, c1, rfl, -⟩ := O1.rd
        obtain ⟨A2, c2, rfl, -⟩ := O2.rd
        have HO1 := Lib.hid O1
        have HO2 := Lib.hid O2
        clear O1 O2 hs1 hs2
        go_wp2
        all_goals
         go_ret3
         rw [HU.out]
         exact ⟨A1, c1, A2, c2, rfl, HO1.out, HO2.out, HB2.out⟩
 ·have HU := Lib.hid (HU0.out.trans (if_pos hc))
  have hne : ((c : Int) != 0) = true := bne_iff_ne.2 (by omega)
  go_wp2
  go_ret3
  rw [HU.out]
  exact ⟨none, 0, none, 0, rfl, Own.nil _ _, Own.nil _ _, Below.refl _ _⟩
end Go.Proofs.YtpdedfpacklnoaaGreatDoor.W
