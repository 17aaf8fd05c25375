/- Frames of worlds, of no program: which blocks may have turned; blocks of one cell. Readers that no call made. A reader that stands at a place of its bytes; Over makes one; Left, At. wire.cut, wire.try -/
import Derived.Test.YtpdedfpacklnoaaGreatDoorTkMX
import Derived.OneCell
import Derived.Handy
import Derived.BigQuiet
import Derived.Deep.QuietTactic
import Derived.Tactics2
import Derived.Defers
import Derived.Recover
import Derived.WalkLawsBesides
import Derived.Laws.Pointers
import Derived.Test.YtpdedfpacklnoaaGreatDoorTkMV
import Derived.StillTailTactics
import Derived.Laws.BytesArg
import Derived.Deep.RegionWith
import Derived.Deep.RegionHeld3
namespace Go.BL
set_option maxRecDepth 100000
open Go.RowKit
/-- Of the old blocks none has turned but those of the list. -/
structure Kept (rows : List Nat) (a w : World) : Prop where
 os : w.os = a.os
 tape : w.tape = a.tape
 output : w.output = a.output
 size : a.heap.size ≤ w.heap.size
 block : ∀ b, b < a.heap.size → b ∉ rows → w.heap[b]? = a.heap[b]?
namespace Kept
variable {rows rows' : List Nat} {a b c w w' : World}
theorem refl (rows : List Nat) (w : World) : Kept rows w w := ⟨rfl, rfl, rfl, Nat.le_refl _, fun _ _ _ => rfl⟩
theorem trans (h : Kept rows a b) (k : Kept rows' b c) (hr : ∀ x ∈ rows', x ∈ rows ∨ a.heap.size ≤ x) : Kept rows a c :=
 ⟨k.os.trans h.os, k.tape.trans h.tape, k.output.trans h.output, Nat.le_trans h.size k.size, fun i hi hn => (k.block i (Nat.lt_of_lt_of_le hi h.size) (fun hx => by
  rcases hr i hx with h1 | h1
  ·exact hn h1
  ·omega)).trans (h.block i hi hn)⟩
theorem then_ (h : Kept rows a b) (k : Kept rows b c) : Kept rows a c := h.trans k (fun _ hx => .inl hx)
theorem mono (h : Kept rows a b) (hr : ∀ x ∈ rows, x ∈ rows' ∨ a.heap.size ≤ x) : Kept rows' a b :=
 ⟨h.os, h.tape, h.output, h.size, fun i hi hn => h.block i hi (fun hx => by
  rcases hr i hx with h1 | h1
  ·exact hn h1
  ·omega)⟩
theorem drewN (h : Kept rows a w) (n : Nat) : Kept rows a (w.drewN n) := ⟨h.os, h.tape, h.output, h.size, h.block⟩
theorem drew (h : Kept rows a w) : Kept rows a w.drew := ⟨h.os, h.tape, h.output, h.size, h.block⟩
theorem alloc (h : Kept rows a w) (o : Obj) : Kept rows a (w.alloc o) :=
 ⟨h.os, h.tape, h.output, Nat.le_trans h.size (by simp), fun i hi hn => (Below.heap_alloc w o i (Nat.lt_of_lt_of_le hi h.size)).trans (h.block i hi hn)⟩
theorem setCell (h : Kept rows a w) {p : Addr} (hp : p.block ∈ rows ∨ a.heap.size ≤ p.block) (u : Value) : Kept rows a (w.setCell p u) :=
 ⟨h.os, h.tape, h.output, by simpa [World.setCell] using h.size, fun i hi hn => (Below.heap_setCell w p u i (by
  rintro rfl
  rcases hp with hp | hp
  ·exact hn hp
  ·omega)).trans (h.block i hi hn)⟩
theorem of_below {B : Nat} (h : Below B a w) (hB : a.heap.size ≤ B) : Kept rows a w := ⟨h.os, h.tape, h.output, h.size, fun i hi _ => h.block i (by omega)⟩
theorem below {B : Nat} (h : Kept rows a w) (hB : B ≤ a.heap.size) (hr : ∀ x ∈ rows, B ≤ x) : Below B a w :=
 ⟨h.os, h.tape, h.output, h.size, fun i hi => h.block i (by omega) (fun hx => by have := hr i hx; omega)⟩
end Kept
/-- A block of one cell. -/
def Box (w : World) (b : Nat) (v : Value) (t : TypeId) : Prop := w.heap[b]? = some (.cells #[v] t (0, 0))
namespace Box
variable {w w' : World} {b : Nat} {v : Value} {t : TypeId}
theorem lt (h : Box w b v t) : b < w.heap.size := by
 rcases Nat.lt_or_ge b w.heap.size with h' | h'
 ·exact h'
 ·unfold Box at h; rw [Array.getElem?_eq_none h'] at h; cases h
theorem cell (h : Box w b v t) : w.cell? ⟨b, 0, none⟩ = some v := by rw [cell_of_row w b 0 _ t (0, 0) h]; rfl
theorem free (h : Box w b v t) : w.frozen? ⟨b, 0, none⟩ = false := by
 unfold Box at h; unfold World.frozen?; rw [h]; rfl
theorem new (w : World) (v : Value) (t : TypeId) : Box (w.alloc (.cells #[v] t)) w.heap.size v t := heap_alloc_new w _
theorem kept {rows : List Nat} (h : Box w b v t) (k : Kept rows w w') (hb : b ∉ rows) : Box w' b v t := (k.block b h.lt hb).trans h
theorem alloc (h : Box w b v t) (o : Obj) : Box (w.alloc o) b v t := (Below.heap_alloc w o b h.lt).trans h
theorem set_ (h : Box w b v t) (u : Value) : Box (w.setCell ⟨b, 0, none⟩ u) b u t := by
 unfold Box at h ⊢
 simp [World.setCell, Array.getElem?_modify, h]
theorem far (h : Box w b v t) {p : Addr} (hp : b ≠ p.block) (u : Value) : Box (w.setCell p u) b v t := (Below.heap_setCell w p u b hp).trans h
theorem drewN (h : Box w b v t) (n : Nat) : Box (w.drewN n) b v t := h
end Box
theorem Rd.kept {w w' : World} {A : Option Addr} {n : Nat} {bs : List Nat} {rows : List Nat} (h : Rd w A n bs) (k : Kept rows w w') (hr : ∀ a, A = some a → 0 < n → a.block ∉ rows) : Rd w' A n bs := by
 refine ⟨h.1, h.2.1, h.2.2.1, fun hn => ?_⟩
 obtain ⟨b, off, e, hlt, hc⟩ := h.2.2.2 hn
 refine ⟨b, off, e, Nat.lt_of_lt_of_le hlt k.size, fun i hi => ?_⟩
 exact (World.cell?_of_block (a := ⟨b, off + i, none⟩) (w := w) (w' := w') (k.block b hlt (hr _ e hn))).trans (hc i hi)
theorem Own.kept {w w' : World} {B : Nat} {v : Value} {bs : List Nat} {rows : List Nat} (h : Own w B v bs) (k : Kept rows w w') (hr : ∀ g, v.ownBlock = some g → g ∉ rows) : Own w' B v bs := by
 refine ⟨⟨h.1.1, ?_⟩, h.2⟩
 have hlt := h.lt
 rcases h.1.2 with h0 | ⟨g, cap, cur, hv, hg, hh, r⟩
 ·exact .inl h0
 ·have e : v.ownBlock = some g := by rw [hv]; rfl
  exact .inr ⟨g, cap, cur, hv, hg, (k.block g (hlt g e) (hr g e)).trans hh, r⟩
theorem Rd.cutIf {w : World} {G : Option Addr} {len c i n : Nat} {bs : List Nat} (h : Rd w G len bs) (hn : i + n ≤ len) (hc : len ≤ c) :
  Rd w (if c = i then G else G.map fun x => x.add i) n ((bs.drop i).take n) := by
 refine ⟨by rw [List.length_take, List.length_drop, h.1]; omega, by have := h.2.1; omega, fun x hx => h.2.2.1 x (List.mem_of_mem_drop (List.mem_of_mem_take hx)), fun hpos => ?_⟩
 obtain ⟨b, off, rfl, hlt, hcell⟩ := h.2.2.2 (by omega)
 rw [if_neg (by omega)]
 refine ⟨b, off + i, by simp [add_none], hlt, fun j hj => ?_⟩
 rw [Nat.add_assoc, hcell (i + j) (by omega)]
 congr 3
 rw [List.getD_eq_getElem?_getD, List.getD_eq_getElem?_getD, List.getElem?_take_of_lt hj, List.getElem?_drop]
theorem Own.len {w : World} {B n : Nat} {v : Value} {bs : List Nat} (h : Own w B v bs) (hn : bs.length = n) : ∃ A cap, v = .slice A n cap ∧ Rd w A n bs ∧ Own w B (.slice A n cap) bs := by
 subst hn
 obtain ⟨A, cap, rfl, hr⟩ := h.rd
 exact ⟨A, cap, rfl, hr, h⟩
theorem Own.setOld {w w1 : World} {g : Nat} {v : Value} {T : List Nat} (hg : g < w.heap.size) (h : Own w1 w.heap.size v T) {p : Addr} (hp : p.block = g) (u : Value) : Own (w1.setCell p u) w.heap.size v T :=
 h.kept (rows := [g]) ((Kept.refl _ w1).setCell (.inl (by simp [hp])) u) (fun k hk hx => by
  have := h.block_ge k hk
  simp only [List.mem_singleton] at hx; omega)
theorem Own.rdOf {w : World} {B n cap : Nat} {A : Option Addr} {bs : List Nat} (h : Own w B (.slice A n cap) bs) (hn : bs.length = n) : Rd w A n bs := by
 obtain ⟨A', cap', e, hr, _⟩ := h.len hn
 injection e with e1 _ _
 subst e1
 exact hr
end Go.BL
namespace Go.Proofs.YtpdedfpacklnoaaGreatDoor.W
set_option maxRecDepth 100000
open Go.RowKit Go.BL Go.Wr

theorem made_box (g : Nat) (b : Bool) (w : World) (h : w.cell? ⟨g, 2, none⟩ = some (.bool b)) : Calls Tryz.prog 225 #[.pointer (some ⟨g, 0, none⟩)] w fun e w' => e = .returned (.bool b) ∧ w = w' := by
 go_enter Tryz.func225, Tryz.ntmps225
 go_wp2
 go_ret
 exact ⟨by simp, rfl⟩
end Go.Proofs.YtpdedfpacklnoaaGreatDoor.W
namespace Go.Proofs.YtpdedfpacklnoaaGreatDoor.W
set_option maxRecDepth 100000
open Go.RowKit Go.BL Go.Wr
/-- The object at g, below B, is a reader over bs, which lie below B, that stands at i. -/
def Rdr (w : World) (B g : Nat) (bs : List Nat) (i : Nat) : Prop :=
 ∃ G c, w.heap[g]? = some (.cells #[.slice G bs.length c, .int .i64 (i : Int), .bool true] 270 (0, 0)) ∧ Rd w G bs.length bs ∧ i ≤ bs.length ∧ bs.length ≤ 140737488355000 ∧ g < B ∧ bs.length ≤ c ∧ ∀ a, G = some a → a.block < B
theorem Rdr.cells {w : World} {B g i : Nat} {bs : List Nat} (h : Rdr w B g bs i) : ∃ G c, w.cell? ⟨g, 0, none⟩ = some (.slice G bs.length c) ∧ w.cell? ⟨g, 1, none⟩ = some (.int .i64 (i : Int)) ∧ w.cell? ⟨g, 2, none⟩ = some (.bool true) ∧ w.frozen? ⟨g, 1, none⟩ = false ∧ Rd w G bs.length bs ∧ bs.length ≤ c := by
 obtain ⟨G, c, hh, hr, _, _, _, hcap, _⟩ := h
 refine ⟨G, c, by rw [cell_of_row w g 0 _ 270 (0, 0) hh]; rfl, by rw [cell_of_row w g 1 _ 270 (0, 0) hh]; rfl, by rw [cell_of_row w g 2 _ 270 (0, 0) hh]; rfl, ?_, hr, hcap⟩
 unfold World.frozen?
 rw [hh]
 rfl
theorem Rdr.lt {w : World} {B g i : Nat} {bs : List Nat} (h : Rdr w B g bs i) : g < w.heap.size := by
 obtain ⟨G, c, hh, _⟩ := h
 rcases Nat.lt_or_ge g w.heap.size with h' | h'
 ·exact h'
 ·rw [Array.getElem?_eq_none h'] at hh; cases hh
theorem Rdr.ltB {w : World} {B g i : Nat} {bs : List Nat} (h : Rdr w B g bs i) : g < B := by
 obtain ⟨G, c, _, _, _, _, hb, _⟩ := h; exact hb
theorem Rdr.le {w : World} {B g i : Nat} {bs : List Nat} (h : Rdr w B g bs i) : i ≤ bs.length := by
 obtain ⟨G, c, _, _, hb, _⟩ := h; exact hb
theorem Rdr.len {w : World} {B g i : Nat} {bs : List Nat} (h : Rdr w B g bs i) : bs.length ≤ 140737488355000 := by
 obtain ⟨G, c, _, _, _, hb, _⟩ := h; exact hb
/-- The reader's object is not its bytes' block. -/
theorem rdr_ne {w : World} {g n : Nat} {G : Option Addr} {bs : List Nat} {i : Int} {c : Nat} (hh : w.heap[g]? = some (.cells #[.slice G n c, .int .i64 i, .bool true] 270 (0, 0))) (hr : Rd w G n bs) : ∀ a, G = some a → 0 < n → a.block ≠ g := by
 rintro a rfl hn rfl
 obtain ⟨b, off, e, _, hc⟩ := hr.2.2.2 hn
 injection e with e
 subst e
 have h0 := hc 0 hn
 rw [cell_of_row w b (off + 0) _ 270 (0, 0) hh] at h0
 match off, h0 with
 | 0, h0 => simp at h0
 | 1, h0 => simp at h0
 | 2, h0 => simp at h0
 | k + 3, h0 => simp at h0
theorem Rdr.kept {w w' : World} {B g i : Nat} {bs : List Nat} {rows : List Nat} (h : Rdr w B g bs i) (k : Kept rows w w') (hr : ∀ x ∈ rows, B ≤ x) : Rdr w' B g bs i := by
 have hlt := h.lt
 obtain ⟨G, c, hh, hd, hi, hl, hg, hcap, hG⟩ := h
 exact ⟨G, c, (k.block g hlt (fun hx => by have := hr g hx; omega)).trans hh, hd.kept k (fun a e _ hx => by have := hr _ hx; have := hG a e; omega), hi, hl, hg, hcap, hG⟩
theorem Rdr.drewN {w : World} {B g i : Nat} {bs : List Nat} (h : Rdr w B g bs i) (n : Nat) : Rdr (w.drewN n) B g bs i :=
 h.kept (rows := []) ((Kept.refl [] w).drewN n) (fun _ hx => by cases hx)
theorem Rdr.alloc {w : World} {B g i : Nat} {bs : List Nat} (h : Rdr w B g bs i) (o : Obj) : Rdr (w.alloc o) B g bs i :=
 h.kept (rows := []) ((Kept.refl [] w).alloc o) (fun _ hx => by cases hx)
theorem Rdr.far {w : World} {B g i : Nat} {bs : List Nat} (h : Rdr w B g bs i) {p : Addr} (hp : B ≤ p.block) (u : Value) : Rdr (w.setCell p u) B g bs i :=
 h.kept (rows := [p.block]) ((Kept.refl _ w).setCell (.inl (by simp)) u) (fun x hx => by simp at hx; omega)
/-- The reader goes to j. -/
theorem Rdr.to {w : World} {B g i : Nat} {bs : List Nat} (h : Rdr w B g bs i) (j : Nat) (hj : j ≤ bs.length) : Rdr (w.setCell ⟨g, 1, none⟩ (.int .i64 (j : Int))) B g bs j := by
 obtain ⟨G, c, hh, hd, hi, hl, hg, hcap, hG⟩ := h
 refine ⟨G, c, ?_, ?_, hj, hl, hg, hcap, hG⟩
 ·simp [World.setCell, Array.getElem?_modify, hh]
 ·exact hd.kept (rows := [g]) ((Kept.refl _ w).setCell (.inl (by simp)) _) (fun a e hn hx => rdr_ne hh hd a e hn (by simpa using hx))
theorem Rdr.toI {w : World} {B g i : Nat} {bs : List Nat} {z : Int} (h : Rdr w B g bs i) (j : Nat) (hj : j ≤ bs.length) (hz : z = (j : Int)) : Rdr (w.setCell ⟨g, 1, none⟩ (.int .i64 z)) B g bs j := by
 subst hz; exact h.to j hj
theorem over_rdr (A : Option Addr) (n cap : Nat) (bs : List Nat) (w : World) (hr : Rd w A n bs) (hn : n ≤ 140737488355000) :
  Calls Tryz.prog 180 #[.slice A n cap] w fun e w' => ∃ g, e = .returned (.pointer (some ⟨g, 0, none⟩)) ∧ w.heap.size ≤ g ∧ Rdr w' w'.heap.size g bs 0 ∧ Below w.heap.size w w' ∧ ∀ (rows : List Nat) (W : World), (∀ x ∈ rows, x < w.heap.size) → Kept rows w' W → Rdr W w'.heap.size g bs 0 := by
 have Hr := Lib.hid hr
 have hl := hr.1
 clear hr
 have Hl := Lib.hid hl
 clear hl
 go_enter Tryz.func180, Tryz.ntmps180
 go_wp2_with (at_builtin; refine wpList_appB rfl (.const (.slice none 0 0)) (.tmp 3) 75 rfl Tryz.underlying75 info5 rfl (Own.nil w w.heap.size) rfl Hr.out (by simp; omega) (Nat.le_refl _) ?_; intro v w1 ho hb; have hlt := ho.lt; have hcl := ho.1.2; obtain ⟨G, c, rfl, hrd⟩ := ho.rd; have Hrd := Lib.hid hrd; have Hlt := Lib.hid hlt; have Hcl := Lib.hid hcl; have Hb := Lib.hid hb; clear ho hb hrd hlt hcl)
 go_ret
 have hblk : ∀ a, G = some a → a.block < w1.heap.size ∧ w.heap.size ≤ a.block := by
  rcases Hcl.out with ⟨e, h0⟩ | ⟨g', cap', cur, e, hge, hh, _⟩
  ·injection e with e1 _ _
   rintro a rfl; cases e1
  ·injection e with e1 _ _
   rintro a rfl
   injection e1 with e1
   subst e1
   exact ⟨Hlt.out g' rfl, hge⟩
 have hR : Rdr (w1.alloc (.cells #[.slice G bs.length c, .int .i64 0, .bool true] 270)) (w1.heap.size + 1) w1.heap.size bs 0 := by
  refine ⟨G, c, ?_, (by have h := Hrd.out; rw [List.nil_append] at h; exact h.alloc _), by omega, by rw [Hl.out]; exact hn, by omega, ?_, fun a e => by have := (hblk a e).1; omega⟩
  ·show (w1.heap.push _)[w1.heap.size]? = _
   simp
  ·rcases Hcl.out with ⟨e, h0⟩ | ⟨g', cap', cur, e, _, _, h1, _⟩
   ·simp only [List.nil_append] at h0; omega
   ·injection e with _ _ e3
    simp only [List.nil_append] at h1; omega
 refine ⟨w1.heap.size, rfl, Hb.out.size, by simpa using hR, Hb.out.alloc Hb.out.size _, fun rows W hrows hk => ?_⟩
 have hlt := hR.lt
 obtain ⟨G2, c2, hh, hd, hi, hl, hg, hcap, hG⟩ := hR
 have hsz := Hb.out.size
 have e2 : G2 = G := by
  rw [show (w1.alloc (.cells #[.slice G bs.length c, .int .i64 0, .bool true] 270)).heap[w1.heap.size]? = some (.cells #[.slice G bs.length c, .int .i64 0, .bool true] 270) by show (w1.heap.push _)[w1.heap.size]? = _; simp] at hh
  simp at hh
  exact hh.1.symm
 subst e2
 refine ⟨G2, c2, (hk.block _ hlt (fun hx => by have := hrows _ hx; omega)).trans hh, hd.kept hk (fun a e _ hx => by have := hrows _ hx; have := (hblk a e).2; omega), hi, hl, by simp, hcap, fun a e => by have := hG a e; simp; omega⟩
theorem left_any (B g : Nat) (bs : List Nat) (i : Nat) (w : World) (h : Rdr w B g bs i) : Calls Tryz.prog 185 #[.pointer (some ⟨g, 0, none⟩)] w fun e w' => e = .returned (.int .i64 ((bs.length - i : Nat) : Int)) ∧ ∃ N, w' = w.drewN N := by
 obtain ⟨G, c, h0, h1, h2, _, hr, _⟩ := h.cells
 have hi : (i : Int) ≤ (bs.length : Int) := by have := h.le; omega
 have hm := hr.2.1
 unfold maxLen at hm
 have Hr := Lib.hid hr
 have H := Lib.hid h
 clear hr h
 go_enter Tryz.func185, Tryz.ntmps185
 go_wp2_with fail
 refine (made_box g true _ h2).mono ?_
 rintro e w' ⟨rfl, rfl⟩
 go_wp2
 go_quiet (fail)
 go_wp2
 go_ret
 exact ⟨ret_int (by omega), _, rfl⟩
theorem end_any (B g : Nat) (bs : List Nat) (i : Nat) (w : World) (h : Rdr w B g bs i) : Calls Tryz.prog 190 #[.pointer (some ⟨g, 0, none⟩)] w fun e w' => e = .returned (.int .i64 (if i < bs.length then 3 else 0)) ∧ ∃ N, w' = w.drewN N := by
 obtain ⟨G, c, h0, h1, h2, _, hr, _⟩ := h.cells
 have hle := h.le
 have Hr := Lib.hid hr
 have H := Lib.hid h
 clear hr h
 by_cases hlt : i < bs.length
 ·go_enter Tryz.func190, Tryz.ntmps190
  go_wp2_with fail
  refine (made_box g true _ h2).mono ?_
  rintro e w' ⟨rfl, rfl⟩
  go_wp2_with fail
  refine (left_any B g bs i _ H.out).mono ?_
  rintro e w' ⟨rfl, N, rfl⟩
  have hpos : (0 : Int) < ((bs.length - i : Nat) : Int) := by omega
  go_wp2
  go_ret
  exact ⟨rfl, _, rfl⟩
 ·go_enter Tryz.func190, Tryz.ntmps190
  go_wp2_with fail
  refine (made_box g true _ h2).mono ?_
  rintro e w' ⟨rfl, rfl⟩
  go_wp2_with fail
  refine (left_any B g bs i _ H.out).mono ?_
  rintro e w' ⟨rfl, N, rfl⟩
  have hpos : ¬ (0 : Int) < ((bs.length - i : Nat) : Int) := by omega
  go_wp2
  go_ret
  exact ⟨rfl, _, rfl⟩
end Go.Proofs.YtpdedfpacklnoaaGreatDoor.W
namespace Go.Proofs.YtpdedfpacklnoaaGreatDoor.W
set_option maxRecDepth 100000
open Go.RowKit Go.BL Go.Wr

theorem cut_any (n : Int) (w : World) : Calls Tryz.prog 184 #[.int .i64 n] w fun e w' => e = .panicked [{ v := .iface 37 (.int .i64 n), recovered := false }] ∧ w = w' := by
 go_enter Tryz.func184, Tryz.ntmps184
 go_wp2
 exact ⟨rfl, rfl, rfl⟩

theorem ta_nil (w : World) : (Instr.typeAssert Value.nilIface 20 37 true).run Tryz.prog w = .ok (.tuple #[.int .i64 0, .bool false]) w := by kernel_rfl
theorem ta_err (n : Int) (w : World) : (Instr.typeAssert (.iface 37 (.int .i64 n)) 20 37 true).run Tryz.prog w = .ok (.tuple #[.int .i64 n, .bool true]) w := by kernel_rfl
theorem catch_idle (p : Addr) (x : Value) (w : World) (hc : w.cell? p = some x) (hz : w.frozen? p = false) :
  CallsD Tryz.prog 224 #[.pointer (some p)] .returning w fun e u' w' => e = .returned (.tuple #[]) ∧ u' = .returning ∧ w' = w.setCell p (.int .i64 0) := by
 have h1 := ta_nil
 refine callsD_of_wpS Tryz.func224 rfl fun c₀ cs hu => ?_
 apply wpS_seq
 apply wpS_region
 simp [wpOpsS, go_sem, recoverD, hu, Tryz.ntmps224, Exit.thenS]
 refine wpS_of_wp ?_
 simp only [Array.replicate_succ, Array.replicate_zero, List.push_toArray, List.nil_append, List.cons_append]
 go_wp2
 simp [bodyPostS, results, Tryz.results224]
 cases c₀
 simp_all
theorem catch_err (p : Addr) (x : Value) (n : Int) (older : List PanicEntry) (w : World) (hc : w.cell? p = some x) (hz : w.frozen? p = false) :
  CallsD Tryz.prog 224 #[.pointer (some p)] (.panicking ({ v := .iface 37 (.int .i64 n), recovered := false } :: older)) w fun e u' w' =>
   e = .returned (.tuple #[]) ∧ u' = .panicking ({ v := .iface 37 (.int .i64 n), recovered := true } :: older) ∧ w' = w.setCell p (.int .i64 n) := by
 have h1 := ta_err
 refine callsD_of_wpS Tryz.func224 rfl fun c₀ cs hu => ?_
 apply wpS_seq
 apply wpS_region
 simp [wpOpsS, go_sem, recoverD, hu, Tryz.ntmps224, Exit.thenS]
 refine wpS_of_wp ?_
 simp only [Array.replicate_succ, Array.replicate_zero, List.push_toArray, List.nil_append, List.cons_append]
 go_wp2
 simp [bodyPostS, results, Tryz.results224]
/-- What a reading leaves: it came to its end (0), or was given up with an error. -/
def Out (R : Nat → World → Prop) (e : Ending) (w' : World) : Prop :=
 (e = .returned (.tuple #[]) ∧ R 0 w') ∨ ∃ n : Nat, n ≠ 0 ∧ e = .panicked [{ v := .iface 37 (.int .i64 (n : Int)), recovered := false }] ∧ R n w'
theorem try34 (cap : Array Value) (w : World) (R : Nat → World → Prop)
  (h : Calls Tryz.prog 227 cap (w.alloc (.cells #[.int .i64 0] 37)) fun e w' => Box w' w.heap.size (.int .i64 0) 37 ∧ Out R e w') :
  Calls Tryz.prog 181 #[.func (.func 227) #[] cap] w fun e w' => ∃ (n : Nat) (w1 : World), e = .returned (.int .i64 (n : Int)) ∧ R n w1 ∧ Kept [w.heap.size] w1 w' := by
 have hmf : ∀ (fn : Fn) (first cap : Array Value) (w : World), (Instr.makeFunc fn first cap).run Tryz.prog w = .ok (.func fn first cap) w := fun _ _ _ _ => rfl
 have H := Lib.hid h
 clear h
 go_enter_defers Tryz.func181, Tryz.ntmps181
 go_wp2_with fail
 refine H.out.mono ?_
 rintro e w1 ⟨hB, h | h⟩
 ·obtain ⟨rfl, hR⟩ := h
  have HR := Lib.hid hR
  have HB := Lib.hid hB
  have hc := HB.out.cell
  have hz := HB.out.free
  clear hR hB
  go_wp2
  have hc' : (w1.setCell ⟨w.heap.size, 0, none⟩ (.int .i64 0)).cell? ⟨w.heap.size, 0, none⟩ = some (.int .i64 0) := by simp [go_sem, hc]
  have hz' : (w1.setCell ⟨w.heap.size, 0, none⟩ (.int .i64 0)).frozen? ⟨w.heap.size, 0, none⟩ = false := by simp [go_sem, hz]
  refine leaves_cons (f := 224) (args := #[.pointer (some ⟨w.heap.size, 0, none⟩)]) (by simp) (by simp [go_sem]) ?_
  refine (catch_idle ⟨w.heap.size, 0, none⟩ _ _ hc' hz').mono ?_
  rintro e u' w2 ⟨rfl, rfl, rfl⟩
  have hc2 : ((w1.setCell ⟨w.heap.size, 0, none⟩ (.int .i64 0)).setCell ⟨w.heap.size, 0, none⟩ (.int .i64 0)).cell? ⟨w.heap.size, 0, none⟩ = some (.int .i64 0) := by simp [go_sem, hc]
  simp [Leaves, settle, results, Tryz.results181, go_sem, hc2]
  exact ⟨0, rfl, w1, HR.out, ((Kept.refl _ w1).setCell (.inl (by simp)) _).setCell (.inl (by simp)) _⟩
 ·obtain ⟨n, _, rfl, hR⟩ := h
  have HR := Lib.hid hR
  have HB := Lib.hid hB
  have hc := HB.out.cell
  have hz := HB.out.free
  clear hR hB
  go_wp2
  refine leaves_cons (f := 224) (args := #[.pointer (some ⟨w.heap.size, 0, none⟩)]) (by simp) (by simp [go_sem]) ?_
  refine (catch_err ⟨w.heap.size, 0, none⟩ _ n [] _ hc hz).mono ?_
  rintro e u' w2 ⟨rfl, rfl, rfl⟩
  have hc2 : (w1.setCell ⟨w.heap.size, 0, none⟩ (.int .i64 n)).cell? ⟨w.heap.size, 0, none⟩ = some (.int .i64 n) := by simp [go_sem, hc]
  simp [Leaves, settle, results, Tryz.results181, go_sem, hc2]
  exact ⟨n, rfl, w1, HR.out, (Kept.refl _ w1).setCell (.inl (by simp)) _⟩
theorem try36 (cap : Array Value) (w : World) (R : Nat → World → Prop)
  (h : Calls Tryz.prog 254 cap (w.alloc (.cells #[.int .i64 0] 37)) fun e w' => Box w' w.heap.size (.int .i64 0) 37 ∧ Out R e w') :
  Calls Tryz.prog 181 #[.func (.func 254) #[] cap] w fun e w' => ∃ (n : Nat) (w1 : World), e = .returned (.int .i64 (n : Int)) ∧ R n w1 ∧ Kept [w.heap.size] w1 w' := by
 have hmf : ∀ (fn : Fn) (first cap : Array Value) (w : World), (Instr.makeFunc fn first cap).run Tryz.prog w = .ok (.func fn first cap) w := fun _ _ _ _ => rfl
 have H := Lib.hid h
 clear h
 go_enter_defers Tryz.func181, Tryz.ntmps181
 go_wp2_with fail
 refine H.out.mono ?_
 rintro e w1 ⟨hB, h | h⟩
 ·obtain ⟨rfl, hR⟩ := h
  have HR := Lib.hid hR
  have HB := Lib.hid hB
  have hc := HB.out.cell
  have hz := HB.out.free
  clear hR hB
  go_wp2
  have hc' : (w1.setCell ⟨w.heap.size, 0, none⟩ (.int .i64 0)).cell? ⟨w.heap.size, 0, none⟩ = some (.int .i64 0) := by simp [go_sem, hc]
  have hz' : (w1.setCell ⟨w.heap.size, 0, none⟩ (.int .i64 0)).frozen? ⟨w.heap.size, 0, none⟩ = false := by simp [go_sem, hz]
  refine leaves_cons (f := 224) (args := #[.pointer (some ⟨w.heap.size, 0, none⟩)]) (by simp) (by simp [go_sem]) ?_
  refine (catch_idle ⟨w.heap.size, 0, none⟩ _ _ hc' hz').mono ?_
  rintro e u' w2 ⟨rfl, rfl, rfl⟩
  have hc2 : ((w1.setCell ⟨w.heap.size, 0, none⟩ (.int .i64 0)).setCell ⟨w.heap.size, 0, none⟩ (.int .i64 0)).cell? ⟨w.heap.size, 0, none⟩ = some (.int .i64 0) := by simp [go_sem, hc]
  simp [Leaves, settle, results, Tryz.results181, go_sem, hc2]
  exact ⟨0, rfl, w1, HR.out, ((Kept.refl _ w1).setCell (.inl (by simp)) _).setCell (.inl (by simp)) _⟩
 ·obtain ⟨n, _, rfl, hR⟩ := h
  have HR := Lib.hid hR
  have HB := Lib.hid hB
  have hc := HB.out.cell
  have hz := HB.out.free
  clear hR hB
  go_wp2
  refine leaves_cons (f := 224) (args := #[.pointer (some ⟨w.heap.size, 0, none⟩)]) (by simp) (by simp [go_sem]) ?_
  refine (catch_err ⟨w.heap.size, 0, none⟩ _ n [] _ hc hz).mono ?_
  rintro e u' w2 ⟨rfl, rfl, rfl⟩
  have hc2 : (w1.setCell ⟨w.heap.size, 0, none⟩ (.int .i64 n)).cell? ⟨w.heap.size, 0, none⟩ = some (.int .i64 n) := by simp [go_sem, hc]
  simp [Leaves, settle, results, Tryz.results181, go_sem, hc2]
  exact ⟨n, rfl, w1, HR.out, (Kept.refl _ w1).setCell (.inl (by simp)) _⟩
theorem try39 (cap : Array Value) (w : World) (R : Nat → World → Prop)
  (h : Calls Tryz.prog 253 cap (w.alloc (.cells #[.int .i64 0] 37)) fun e w' => Box w' w.heap.size (.int .i64 0) 37 ∧ Out R e w') :
  Calls Tryz.prog 181 #[.func (.func 253) #[] cap] w fun e w' => ∃ (n : Nat) (w1 : World), e = .returned (.int .i64 (n : Int)) ∧ R n w1 ∧ Kept [w.heap.size] w1 w' := by
 have hmf : ∀ (fn : Fn) (first cap : Array Value) (w : World), (Instr.makeFunc fn first cap).run Tryz.prog w = .ok (.func fn first cap) w := fun _ _ _ _ => rfl
 have H := Lib.hid h
 clear h
 go_enter_defers Tryz.func181, Tryz.ntmps181
 go_wp2_with fail
 refine H.out.mono ?_
 rintro e w1 ⟨hB, h | h⟩
 ·obtain ⟨rfl, hR⟩ := h
  have HR := Lib.hid hR
  have HB := Lib.hid hB
  have hc := HB.out.cell
  have hz := HB.out.free
  clear hR hB
  go_wp2
  have hc' : (w1.setCell ⟨w.heap.size, 0, none⟩ (.int .i64 0)).cell? ⟨w.heap.size, 0, none⟩ = some (.int .i64 0) := by simp [go_sem, hc]
  have hz' : (w1.setCell ⟨w.heap.size, 0, none⟩ (.int .i64 0)).frozen? ⟨w.heap.size, 0, none⟩ = false := by simp [go_sem, hz]
  refine leaves_cons (f := 224) (args := #[.pointer (some ⟨w.heap.size, 0, none⟩)]) (by simp) (by simp [go_sem]) ?_
  refine (catch_idle ⟨w.heap.size, 0, none⟩ _ _ hc' hz').mono ?_
  rintro e u' w2 ⟨rfl, rfl, rfl⟩
  have hc2 : ((w1.setCell ⟨w.heap.size, 0, none⟩ (.int .i64 0)).setCell ⟨w.heap.size, 0, none⟩ (.int .i64 0)).cell? ⟨w.heap.size, 0, none⟩ = some (.int .i64 0) := by simp [go_sem, hc]
  simp [Leaves, settle, results, Tryz.results181, go_sem, hc2]
  exact ⟨0, rfl, w1, HR.out, ((Kept.refl _ w1).setCell (.inl (by simp)) _).setCell (.inl (by simp)) _⟩
 ·obtain ⟨n, _, rfl, hR⟩ := h
  have HR := Lib.hid hR
  have HB := Lib.hid hB
  have hc := HB.out.cell
  have hz := HB.out.free
  clear hR hB
  go_wp2
  refine leaves_cons (f := 224) (args := #[.pointer (some ⟨w.heap.size, 0, none⟩)]) (by simp) (by simp [go_sem]) ?_
  refine (catch_err ⟨w.heap.size, 0, none⟩ _ n [] _ hc hz).mono ?_
  rintro e u' w2 ⟨rfl, rfl, rfl⟩
  have hc2 : (w1.setCell ⟨w.heap.size, 0, none⟩ (.int .i64 n)).cell? ⟨w.heap.size, 0, none⟩ = some (.int .i64 n) := by simp [go_sem, hc]
  simp [Leaves, settle, results, Tryz.results181, go_sem, hc2]
  exact ⟨n, rfl, w1, HR.out, (Kept.refl _ w1).setCell (.inl (by simp)) _⟩
theorem try42 (cap : Array Value) (w : World) (R : Nat → World → Prop)
  (h : Calls Tryz.prog 182 cap (w.alloc (.cells #[.int .i64 0] 37)) fun e w' => Box w' w.heap.size (.int .i64 0) 37 ∧ Out R e w') :
  Calls Tryz.prog 181 #[.func (.func 182) #[] cap] w fun e w' => ∃ (n : Nat) (w1 : World), e = .returned (.int .i64 (n : Int)) ∧ R n w1 ∧ Kept [w.heap.size] w1 w' := by
 have hmf : ∀ (fn : Fn) (first cap : Array Value) (w : World), (Instr.makeFunc fn first cap).run Tryz.prog w = .ok (.func fn first cap) w := fun _ _ _ _ => rfl
 have H := Lib.hid h
 clear h
 go_enter_defers Tryz.func181, Tryz.ntmps181
 go_wp2_with fail
 refine H.out.mono ?_
 rintro e w1 ⟨hB, h | h⟩
 ·obtain ⟨rfl, hR⟩ := h
  have HR := Lib.hid hR
  have HB := Lib.hid hB
  have hc := HB.out.cell
  have hz := HB.out.free
  clear hR hB
  go_wp2
  have hc' : (w1.setCell ⟨w.heap.size, 0, none⟩ (.int .i64 0)).cell? ⟨w.heap.size, 0, none⟩ = some (.int .i64 0) := by simp [go_sem, hc]
  have hz' : (w1.setCell ⟨w.heap.size, 0, none⟩ (.int .i64 0)).frozen? ⟨w.heap.size, 0, none⟩ = false := by simp [go_sem, hz]
  refine leaves_cons (f := 224) (args := #[.pointer (some ⟨w.heap.size, 0, none⟩)]) (by simp) (by simp [go_sem]) ?_
  refine (catch_idle ⟨w.heap.size, 0, none⟩ _ _ hc' hz').mono ?_
  rintro e u' w2 ⟨rfl, rfl, rfl⟩
  have hc2 : ((w1.setCell ⟨w.heap.size, 0, none⟩ (.int .i64 0)).setCell ⟨w.heap.size, 0, none⟩ (.int .i64 0)).cell? ⟨w.heap.size, 0, none⟩ = some (.int .i64 0) := by simp [go_sem, hc]
  simp [Leaves, settle, results, Tryz.results181, go_sem, hc2]
  exact ⟨0, rfl, w1, HR.out, ((Kept.refl _ w1).setCell (.inl (by simp)) _).setCell (.inl (by simp)) _⟩
 ·obtain ⟨n, _, rfl, hR⟩ := h
  have HR := Lib.hid hR
  have HB := Lib.hid hB
  have hc := HB.out.cell
  have hz := HB.out.free
  clear hR hB
  go_wp2
  refine leaves_cons (f := 224) (args := #[.pointer (some ⟨w.heap.size, 0, none⟩)]) (by simp) (by simp [go_sem]) ?_
  refine (catch_err ⟨w.heap.size, 0, none⟩ _ n [] _ hc hz).mono ?_
  rintro e u' w2 ⟨rfl, rfl, rfl⟩
  have hc2 : (w1.setCell ⟨w.heap.size, 0, none⟩ (.int .i64 n)).cell? ⟨w.heap.size, 0, none⟩ = some (.int .i64 n) := by simp [go_sem, hc]
  simp [Leaves, settle, results, Tryz.results181, go_sem, hc2]
  exact ⟨n, rfl, w1, HR.out, (Kept.refl _ w1).setCell (.inl (by simp)) _⟩
end Go.Proofs.YtpdedfpacklnoaaGreatDoor.W
namespace Go.Proofs.YtpdedfpacklnoaaGreatDoor.W
set_option maxRecDepth 100000
open Go.RowKit Go.BL Go.Wr
/-- What a number's reading leaves. -/
def RetN (r : Got) (B g : Nat) (bs : List Nat) (i : Nat) (w : World) (e : Ending) (w' : World) : Prop :=
 match r with
 | .bad c => e = .panicked [{ v := .iface 37 (.int .i64 (c : Int)), recovered := false }] ∧ Rdr w' B g bs i ∧ Kept [g] w w'
 | .got n k => e = .returned (.int .i64 (n : Int)) ∧ Rdr w' B g bs (i + k) ∧ Kept [g] w w'
theorem pow128 {m k : Nat} (x : Nat) (hm : m < 128 ^ k) (hk : k ≤ 8) : m + x % 128 * 128 ^ k < 128 ^ (k + 1) ∧ x % 128 * 128 ^ k ≤ 9151314442816847872 := by
 have h1 : x % 128 < 128 := Nat.mod_lt _ (by decide)
 have h2 : 128 ^ k ≤ 128 ^ 8 := Nat.pow_le_pow_right (by decide) hk
 have h3 : x % 128 * 128 ^ k ≤ 127 * 128 ^ k := Nat.mul_le_mul_right _ (by omega)
 rw [Nat.pow_succ]
 omega
theorem or_shl {m k x : Nat} (hm : m < 128 ^ k) (hk : k ≤ 8) (hx : x < 256) :
  bits .or .i64 (m : Int) (wrap64 (bits .and .i64 (x : Int) 127 * 2 ^ (7 * k))) = ((m + x % 128 * 128 ^ k : Nat) : Int) := by
 obtain ⟨h1, h2⟩ := pow128 x hm hk
 have ha := i64_and_nat x 127 (by omega) (by decide)
 rw [show ((127 : Nat) : Int) = 127 from rfl, show (127 : Nat) = 2 ^ 7 - 1 from rfl, Nat.and_two_pow_sub_one_eq_mod] at ha
 rw [show x % 2 ^ 7 = x % 128 from rfl] at ha
 have hp : (2 : Nat) ^ (7 * k) = 128 ^ k := by rw [Nat.pow_mul]
 have hp' : ((2 : Int) ^ (7 * k)) = ((128 ^ k : Nat) : Int) := by rw [← hp]; simp
 rw [ha, hp', ← Int.natCast_mul, IntWalk.wrap64_in _ (by omega)]
 have h4 : m < 128 ^ 8 := Nat.lt_of_lt_of_le hm (Nat.pow_le_pow_right (by decide) hk)
 rw [i64_or_nat m _ (by omega) (by omega)]
 congr 1
 rw [Nat.or_comm, ← hp, Nat.mul_comm]
 rw [← Nat.two_pow_add_eq_or_of_lt (by rw [hp]; exact hm)]
 omega
theorem or_end {m k x : Nat} (hm : m < 128 ^ k) (hk : k ≤ 8) (hx : x < 128) :
  bits .or .i64 (m : Int) (wrap64 (bits .and .i64 (x : Int) 127 * 2 ^ (7 * k))) = ((m + x * 128 ^ k : Nat) : Int) := by
 rw [or_shl hm hk (by omega), Nat.mod_eq_of_lt hx]
set_option maxRecDepth 100000 in
theorem number_any (B g : Nat) (bs : List Nat) (i : Nat) (w : World) (h : Rdr w B g bs i) : Calls Tryz.prog 183 #[.pointer (some ⟨g, 0, none⟩)] w (RetN (num (bs.drop i) 0 0) B g bs i w) := by
 obtain ⟨G, c, h0, h1, h2, h3, hr, _⟩ := h.cells
 have hi : (i : Int) ≤ (bs.length : Int) := by have := h.le; omega
 have hm := hr.2.1
 unfold maxLen at hm
 have Hr := Lib.hid hr
 have H := Lib.hid h
 clear hr h
 go_enter Tryz.func183, Tryz.ntmps183
 go_wp2
 go_quiet (fail)
 go_wp2
 go_loop [3, 4, 5] (fun n a j => ∃ m k : Nat, n = .int .i64 (m : Int) ∧ a = .int .i64 ((i + k : Nat) : Int) ∧ j = .int .i64 (k : Int) ∧ i + k ≤ bs.length ∧ k ≤ 8 ∧ Hid (m < 128 ^ k) ∧ Hid (num (bs.drop (i + k)) k m = num (bs.drop i) 0 0)) (fun _ _ j => 9 - (intOf j).toNat)
 case atStart => exact ⟨0, 0, rfl, rfl, rfl, by omega, by omega, Lib.hid (by decide), Lib.hid rfl⟩
 case round =>
  obtain ⟨m, k, rfl, rfl, rfl, hk, hk8, Hm, HN⟩ := hrel
  by_cases hend : i + k = bs.length
  ·have HE : Hid (num (bs.drop i) 0 0 = .bad 2) := Lib.hid (by rw [← HN.out, List.drop_of_length_le (by omega)]; rfl)
   have hei : ((i + k : Nat) : Int) = (bs.length : Int) := by omega
   go_wp2_with fail
   refine (cut_any 2 _).mono ?_
   rintro e w' ⟨rfl, rfl⟩
   go_wp2
   exact ⟨rfl, by rw [HE.out]; exact ⟨rfl, H.out.drewN _, (Kept.refl _ w).drewN _⟩⟩
  ·have hlt : i + k < bs.length := by omega
   have hne : ((i + k : Nat) : Int) ≠ (bs.length : Int) := by omega
   obtain ⟨b, off, rfl, _, hcb⟩ := Hr.out.2.2.2 (by omega)
   have hx := hcb (i + k) hlt
   have hx2 := getD_lt Hr.out.2.2.1 (i + k)
   have HD : Hid (bs.drop (i + k) = bs.getD (i + k) 0 :: bs.drop (i + (k + 1))) := Lib.hid (by
    rw [List.drop_eq_getElem_cons hlt, List.getD_eq_getElem?_getD, List.getElem?_eq_getElem hlt]; rfl)
   clear hcb
   generalize bs.getD (i + k) 0 = x at *
   by_cases hbig : 128 ≤ x
   ·by_cases h8 : k = 8
    ·subst h8
     have HE : Hid (num (bs.drop i) 0 0 = .bad 5) := Lib.hid (by rw [← HN.out, HD.out, num_range hbig])
     go_wp2_with fail
     refine (cut_any 5 _).mono ?_
     rintro e w' ⟨rfl, rfl⟩
     go_wp2
     exact ⟨rfl, by rw [HE.out]; exact ⟨rfl, H.out.drewN _, (Kept.refl _ w).drewN _⟩⟩
    ·have Hs : Hid (bits .or .i64 (m : Int) (wrap64 (bits .and .i64 (x : Int) 127 * 2 ^ (7 * k))) = ((m + x % 128 * 128 ^ k : Nat) : Int)) := Lib.hid (or_shl Hm.out hk8 hx2)
     have Hp : Hid (m + x % 128 * 128 ^ k < 128 ^ (k + 1)) := Lib.hid (pow128 x Hm.out hk8).1
     have HE : Hid (num (bs.drop (i + (k + 1))) (k + 1) (m + x % 128 * 128 ^ k) = num (bs.drop i) 0 0) := Lib.hid (by rw [← HN.out, HD.out, num_more hbig h8])
     go_wp2
     go_round
     case rel => exact ⟨m + x % 128 * 128 ^ k, k + 1, by rw [Hs.out], by go_num, by go_num, by omega, by omega, Hp, HE⟩
     case measure => simp [intOf]; omega
   ·have Hs : Hid (bits .or .i64 (m : Int) (wrap64 (bits .and .i64 (x : Int) 127 * 2 ^ (7 * k))) = ((m + x * 128 ^ k : Nat) : Int)) := Lib.hid (or_end Hm.out hk8 (by omega))
    by_cases hz : 0 < k ∧ x = 0
    ·obtain ⟨hk0, rfl⟩ := hz
     have HE : Hid (num (bs.drop i) 0 0 = .bad 10) := Lib.hid (by rw [← HN.out, HD.out, num_form hk0])
     go_wp2_with fail
     all_goals
      refine (cut_any 10 _).mono ?_
      rintro e w' ⟨rfl, rfl⟩
      go_wp2
      exact ⟨rfl, by rw [HE.out]; exact ⟨rfl, H.out.drewN _, (Kept.refl _ w).drewN _⟩⟩
    ·have HE : Hid (num (bs.drop i) 0 0 = .got (m + x * 128 ^ k) (k + 1)) := Lib.hid (by rw [← HN.out, HD.out, num_end (by omega) hz])
     by_cases hk0 : 0 < k
     ·have hx0 : ((x : Int) == 0) = false := beq_eq_false_iff_ne.2 (by omega)
      clear hz
      by_cases h8 : k = 8
      ·subst h8
       have Hs8 : Hid (bits .or .i64 (m : Int) (wrap64 (bits .and .i64 (x : Int) 127 * 72057594037927936)) = ((m + x * 128 ^ 8 : Nat) : Int)) := Hs
       go_wp2
       go_ret
       rw [HE.out]
       exact ⟨by rw [← Hs8.out]; rfl, (H.out.drewN nq).to (i + (8 + 1)) (by omega), ((Kept.refl _ w).drewN nq).setCell (.inl (by simp)) _⟩
      ·go_wp2
       go_ret
       rw [HE.out]
       exact ⟨by rw [← Hs.out]; rfl, (H.out.drewN nq).to (i + (k + 1)) (by omega), ((Kept.refl _ w).drewN nq).setCell (.inl (by simp)) _⟩
     ·obtain rfl : k = 0 := by omega
      clear hz
      have hx' : w.cell? ⟨b, off + i, none⟩ = some (.int .u8 (x : Int)) := hx
      clear hx
      go_wp2
      go_ret
      rw [HE.out]
      have Hs0 : Hid (bits .or .i64 (m : Int) (wrap64 (bits .and .i64 (x : Int) 127)) = ((m + x * 128 ^ 0 : Nat) : Int)) := Lib.hid (by have := Hs.out; simpa using this)
      exact ⟨by rw [← Hs0.out]; rfl, (H.out.drewN nq).to (i + (0 + 1)) (by omega), ((Kept.refl _ w).drewN nq).setCell (.inl (by simp)) _⟩
end Go.Proofs.YtpdedfpacklnoaaGreatDoor.W
namespace Go.Proofs.YtpdedfpacklnoaaGreatDoor.W
set_option maxRecDepth 100000
open Go.RowKit Go.BL Go.Wr
set_option maxRecDepth 100000 in
theorem take_any (B g : Nat) (bs : List Nat) (i n : Nat) (w : World) (h : Rdr w B g bs i) (hn : i + n ≤ bs.length) : Calls Tryz.prog 186 #[.pointer (some ⟨g, 0, none⟩), .int .i64 (n : Int)] w fun e w' =>
  ∃ A c, e = .returned (.slice A n c) ∧ Rd w' A n ((bs.drop i).take n) ∧ Own w' w.heap.size (.slice A n c) ((bs.drop i).take n) ∧ Rdr w' B g bs (i + n) ∧ Kept [g] w w' := by
 obtain ⟨T, hT⟩ : ∃ T, (bs.drop i).take n = T := ⟨_, rfl⟩
 rw [hT]
 have HT := Lib.hid hT
 clear hT
 obtain ⟨G, c, h0, h1, h2, h3, hr, hcap⟩ := h.cells
 have hi : (i : Int) ≤ (bs.length : Int) := by have := h.le; omega
 have hl := h.len
 have hm := hr.2.1
 unfold maxLen at hm
 have Hr := Lib.hid hr
 have H := Lib.hid h
 clear hr h
 go_enter Tryz.func186, Tryz.ntmps186
 go_wp2
 refine wp_region_still_tail 15 (by kernel_rfl) (by kernel_rfl) ?_
 simp only [List.take_succ_cons, List.take_zero, List.drop_succ_cons, List.drop_zero]
 change wpStill Tryz.prog _ (World.drew w) (fun a' => wpList Tryz.prog _ _ _ a' (World.drew w)) _ _
 have hw : IntKind.i64.wrap ((i : Int) + (n : Int)) = (i : Int) + (n : Int) := IntWalk.i64_in _ (by omega)
 have hs1 : (0 : Int) ≤ (i : Int) := by omega
 have hs2 : (i : Int) ≤ (i : Int) + (n : Int) := by omega
 have hs3 : (i : Int) + (n : Int) ≤ (c : Int) := by omega
 have hs4 : ((i : Int) + (n : Int)).toNat = i + n := by omega
 repeat still_step
 refine wpStill_nil ?_
 have R0 : Hid (Rd w.drew (if c = i then G else G.map fun x => x.add i) n T) := Lib.hid (by rw [← HT.out]; exact Rd.cutIf Hr.out hn hcap)
 have HL : Hid (T.length = n) := Lib.hid (by rw [← HT.out, List.length_take, List.length_drop]; omega)
 clear hw hs4
 generalize (if c = i then G else G.map fun x => x.add i) = Z at *
 go_wp2_with (at_builtin; refine wpList_appB rfl (.const (.slice none 0 0)) (.tmp 20) 75 rfl Tryz.underlying75 info5 rfl (Own.nil w.drew w.heap.size) rfl R0.out (by simp; omega) (Nat.le_refl _) ?_; intro v w1 ho hb; rw [List.nil_append] at ho; obtain ⟨A, c', rfl, hrd, ho⟩ := ho.len HL.out; have Ho := Lib.hid ho; have Hrd := Lib.hid hrd; have Hb := Lib.hid hb; have HR := Lib.hid (H.out.kept (Kept.of_below (rows := []) (a := w) ⟨hb.os, hb.tape, hb.output, hb.size, hb.block⟩ (Nat.le_refl _)) (fun _ hx => by cases hx)); clear ho hb hrd; obtain ⟨_, _, _, h1', _, h3', _, _⟩ := HR.out.cells)
 go_ret
 have K1 : Kept [g] w w1 := Kept.of_below (B := w.heap.size) ⟨Hb.out.os, Hb.out.tape, Hb.out.output, Hb.out.size, Hb.out.block⟩ (Nat.le_refl _)
 have HO := Own.setOld (p := ⟨g, 1, none⟩) H.out.lt Ho.out rfl (.int .i64 ((i : Int) + (n : Int)))
 exact ⟨A, c', rfl, HO.rdOf HL.out, HO, HR.out.toI (i + n) hn (by omega), K1.setCell (.inl (by simp)) _⟩
end Go.Proofs.YtpdedfpacklnoaaGreatDoor.W
namespace Go.Proofs.YtpdedfpacklnoaaGreatDoor.W
set_option maxRecDepth 100000
open Go.RowKit Go.BL Go.Wr
theorem tried34 (B g : Nat) (bs : List Nat) (i : Nat) (cap : Array Value) (w : World) (R : Nat → World → Prop) (h : Rdr w B g bs i) (hB : B ≤ w.heap.size)
  (hc : Calls Tryz.prog 227 cap (w.alloc (.cells #[.int .i64 0] 37)) fun e w' => Box w' w.heap.size (.int .i64 0) 37 ∧ Out R e w')
  (hR : ∀ n w1, R n w1 → ∃ j, Rdr w1 B g bs j) :
  Calls Tryz.prog 226 #[.pointer (some ⟨g, 0, none⟩), .func (.func 227) #[] cap] w fun e w' =>
   ∃ (n : Nat) (w1 : World), e = .returned (.int .i64 (n : Int)) ∧ R n w1 ∧ Kept [w.heap.size, g] w1 w' ∧ (n ≠ 0 → Rdr w' B g bs i) ∧ (n = 0 → Kept [w.heap.size] w1 w') := by
 obtain ⟨G, c, h0, h1, h2, h3, hr, hcap⟩ := h.cells
 have H := Lib.hid h
 have HC := Lib.hid hc
 have HR := Lib.hid hR
 have HB := Lib.hid hB
 clear h hc hR hr hcap hB
 go_enter Tryz.func226, Tryz.ntmps226
 go_wp2_with fail
 refine (made_box g true _ h2).mono ?_
 rintro e w' ⟨rfl, rfl⟩
 go_wp2_with fail
 refine (try34 cap _ R HC.out).mono ?_
 rintro e w' ⟨n, w1, rfl, hr, hk⟩
 obtain ⟨j, hj⟩ := HR.out n w1 hr
 have hj' := hj.kept hk (fun x hx => by have := HB.out; simp only [List.mem_singleton] at hx; omega)
 obtain ⟨_, _, _, k1, _, k3, _, _⟩ := hj'.cells
 have Hj := Lib.hid hj'
 have Hr := Lib.hid hr
 have Hk := Lib.hid hk
 have Hi := Lib.hid H.out.le
 clear hr hk hj hj'
 by_cases hn : n = 0
 ·subst hn
  go_wp2
  go_ret
  exact ⟨0, w1, rfl, Hr.out, Hk.out.mono (fun x hx => .inl (by simp at hx; simp [hx])), fun h => absurd rfl h, fun _ => Hk.out⟩
 ·have hn' : ((n : Int) != 0) = true := bne_iff_ne.2 (by omega)
  go_wp2
  go_ret
  exact ⟨n, w1, rfl, Hr.out, (Hk.out.mono (fun x hx => .inl (by simp at hx; simp [hx]))).setCell (.inl (by simp)) _, fun _ => Hj.out.to i Hi.out, fun h => absurd h hn⟩
theorem tried36 (B g : Nat) (bs : List Nat) (i : Nat) (cap : Array Value) (w : World) (R : Nat → World → Prop) (h : Rdr w B g bs i) (hB : B ≤ w.heap.size)
  (hc : Calls Tryz.prog 254 cap (w.alloc (.cells #[.int .i64 0] 37)) fun e w' => Box w' w.heap.size (.int .i64 0) 37 ∧ Out R e w')
  (hR : ∀ n w1, R n w1 → ∃ j, Rdr w1 B g bs j) :
  Calls Tryz.prog 226 #[.pointer (some ⟨g, 0, none⟩), .func (.func 254) #[] cap] w fun e w' =>
   ∃ (n : Nat) (w1 : World), e = .returned (.int .i64 (n : Int)) ∧ R n w1 ∧ Kept [w.heap.size, g] w1 w' ∧ (n ≠ 0 → Rdr w' B g bs i) ∧ (n = 0 → Kept [w.heap.size] w1 w') := by
 obtain ⟨G, c, h0, h1, h2, h3, hr, hcap⟩ := h.cells
 have H := Lib.hid h
 have HC := Lib.hid hc
 have HR := Lib.hid hR
 have HB := Lib.hid hB
 clear h hc hR hr hcap hB
 go_enter Tryz.func226, Tryz.ntmps226
 go_wp2_with fail
 refine (made_box g true _ h2).mono ?_
 rintro e w' ⟨rfl, rfl⟩
 go_wp2_with fail
 refine (try36 cap _ R HC.out).mono ?_
 rintro e w' ⟨n, w1, rfl, hr, hk⟩
 obtain ⟨j, hj⟩ := HR.out n w1 hr
 have hj' := hj.kept hk (fun x hx => by have := HB.out; simp only [List.mem_singleton] at hx; omega)
 obtain ⟨_, _, _, k1, _, k3, _, _⟩ := hj'.cells
 have Hj := Lib.hid hj'
 have Hr := Lib.hid hr
 have Hk := Lib.hid hk
 have Hi := Lib.hid H.out.le
 clear hr hk hj hj'
 by_cases hn : n = 0
 ·subst hn
  go_wp2
  go_ret
  exact ⟨0, w1, rfl, Hr.out, Hk.out.mono (fun x hx => .inl (by simp at hx; simp [hx])), fun h => absurd rfl h, fun _ => Hk.out⟩
 ·have hn' : ((n : Int) != 0) = true := bne_iff_ne.2 (by omega)
  go_wp2
  go_ret
  exact ⟨n, w1, rfl, Hr.out, (Hk.out.mono (fun x hx => .inl (by simp at hx; simp [hx]))).setCell (.inl (by simp)) _, fun _ => Hj.out.to i Hi.out, fun h => absurd h hn⟩
theorem tried39 (B g : Nat) (bs : List Nat) (i : Nat) (cap : Array Value) (w : World) (R : Nat → World → Prop) (h : Rdr w B g bs i) (hB : B ≤ w.heap.size)
  (hc : Calls Tryz.prog 253 cap (w.alloc (.cells #[.int .i64 0] 37)) fun e w' => Box w' w.heap.size (.int .i64 0) 37 ∧ Out R e w')
  (hR : ∀ n w1, R n w1 → ∃ j, Rdr w1 B g bs j) :
  Calls Tryz.prog 226 #[.pointer (some ⟨g, 0, none⟩), .func (.func 253) #[] cap] w fun e w' =>
   ∃ (n : Nat) (w1 : World), e = .returned (.int .i64 (n : Int)) ∧ R n w1 ∧ Kept [w.heap.size, g] w1 w' ∧ (n ≠ 0 → Rdr w' B g bs i) ∧ (n = 0 → Kept [w.heap.size] w1 w') := by
 obtain ⟨G, c, h0, h1, h2, h3, hr, hcap⟩ := h.cells
 have H := Lib.hid h
 have HC := Lib.hid hc
 have HR := Lib.hid hR
 have HB := Lib.hid hB
 clear h hc hR hr hcap hB
 go_enter Tryz.func226, Tryz.ntmps226
 go_wp2_with fail
 refine (made_box g true _ h2).mono ?_
 rintro e w' ⟨rfl, rfl⟩
 go_wp2_with fail
 refine (try39 cap _ R HC.out).mono ?_
 rintro e w' ⟨n, w1, rfl, hr, hk⟩
 obtain ⟨j, hj⟩ := HR.out n w1 hr
 have hj' := hj.kept hk (fun x hx => by have := HB.out; simp only [List.mem_singleton] at hx; omega)
 obtain ⟨_, _, _, k1, _, k3, _, _⟩ := hj'.cells
 have Hj := Lib.hid hj'
 have Hr := Lib.hid hr
 have Hk := Lib.hid hk
 have Hi := Lib.hid H.out.le
 clear hr hk hj hj'
 by_cases hn : n = 0
 ·subst hn
  go_wp2
  go_ret
  exact ⟨0, w1, rfl, Hr.out, Hk.out.mono (fun x hx => .inl (by simp at hx; simp [hx])), fun h => absurd rfl h, fun _ => Hk.out⟩
 ·have hn' : ((n : Int) != 0) = true := bne_iff_ne.2 (by omega)
  go_wp2
  go_ret
  exact ⟨n, w1, rfl, Hr.out, (Hk.out.mono (fun x hx => .inl (by simp at hx; simp [hx]))).setCell (.inl (by simp)) _, fun _ => Hj.out.to i Hi.out, fun h => absurd h hn⟩
end Go.Proofs.YtpdedfpacklnoaaGreatDoor.W
namespace Go.BL
set_option maxRecDepth 100000
open Go.RowKit Go.Wr
theorem strOf (T : List Nat) : strOfNums (T.map fun x => ((x : Nat) : Int)) = bstr T := by
 unfold strOfNums bstr
 simp [List.map_map, Function.comp_def]
theorem run_bstr {P : Program} {w : World} {A : Option Addr} {n c : Nat} {T : List Nat} (h : Rd w A n T) (src e dst : TypeId) (hs : P.underlying src = some (.slice e)) (he : P.underlying e = some (.int .u8)) (hd : P.underlying dst = some .string) :
  (convert src dst (.slice A n c)).run P w = .ok (.string (bstr T)) w := by
 by_cases hn : n = 0
 ·subst hn
  have hT : T = [] := List.eq_nil_of_length_eq_zero h.1
  subst hT
  rw [run_convert_bytes_string w src dst e _ 0 c hs he hd]
  cases A <;> simp [Conv.bytesToString, loadCells]
  all_goals rfl
 ·obtain ⟨b, off, rfl, _, hc⟩ := h.2.2.2 (by omega)
  rw [run_convert_bytes_arg w src e hs he b off n c (T.map fun x => ((x : Nat) : Int)) (by simp [h.1]) (fun i hi => by
   rw [hc i hi]
   have hl : i < T.length := by rw [h.1]; exact hi
   simp [List.getD_eq_getElem?_getD, List.getElem?_eq_getElem hl]) dst hd, strOf]
end Go.BL
namespace Go.Proofs.YtpdedfpacklnoaaGreatDoor.W
open Go.RowKit Go.BL Go.Wr
/-- What a closure of a reader leaves: its code; the reader; the captured result. -/
def RG (B g : Nat) (bs : List Nat) (nb : Nat) (t : TypeId) (v : Value) (code pos : Nat) (w0 : World) (c : Nat) (w1 : World) : Prop :=
 c = code ∧ (∃ j, Rdr w1 B g bs j ∧ (c = 0 → j = pos)) ∧ Box w1 nb v t ∧ Kept [g, nb] w0 w1
/-- What a reader's call leaves. -/
def RetR (B g : Nat) (bs : List Nat) (v : Value) (code pos : Nat) (w : World) (e : Ending) (w' : World) : Prop :=
 e = .returned (.tuple #[v, .int .i64 (code : Int)]) ∧ Rdr w' B g bs pos ∧ Kept [g] w w'
theorem uintC (B g : Nat) (bs : List Nat) (i rb nb eb : Nat) (w : World) (h : Rdr w B g bs i) (hr : Box w rb (.pointer (some ⟨g, 0, none⟩)) 231) (hn : Box w nb (.int .i64 0) 3) (he : Box w eb (.int .i64 0) 37) (h1 : B ≤ nb) (h2 : B ≤ eb) :
  Calls Tryz.prog 227 #[.pointer (some ⟨rb, 0, none⟩), .pointer (some ⟨nb, 0, none⟩)] w fun e w' => Box w' eb (.int .i64 0) 37 ∧ Out (RG B g bs nb 3 (.int .i64 ((uintAt bs i).1 : Int)) (uintAt bs i).2.1 (uintAt bs i).2.2 w) e w' := by
 have hrc := hr.cell
 have hgb := h.ltB
 have hne : eb ≠ nb := by rintro rfl; unfold Box at hn he; rw [hn] at he; injection he with he; injection he with _ he; cases he
 have H := Lib.hid h
 have Hn := Lib.hid hn
 have He := Lib.hid he
 have Hne := Lib.hid hne
 clear h hr hn he hne
 go_enter Tryz.func227, Tryz.ntmps227
 go_wp2_with fail
 refine (number_any B g bs i _ H.out).mono ?_
 cases hnum : num (bs.drop i) 0 0 with
 | bad c =>
  rintro e w1 ⟨rfl, hR, hK⟩
  have HR := Lib.hid hR
  have HK := Lib.hid hK
  have Hc := Lib.hid (num_bad _ _ _ _ hnum)
  have HU : Hid (uintAt bs i = (0, c, i)) := Lib.hid (by unfold uintAt; rw [hnum])
  clear hR hK hnum
  go_wp2
  rw [HU.out]
  exact ⟨rfl, He.out.kept HK.out (by simp; omega), .inr ⟨c, Hc.out, rfl, rfl, ⟨i, HR.out, fun h => absurd h Hc.out⟩, Hn.out.kept HK.out (by simp; omega), HK.out.mono (fun x hx => .inl (by simp at hx; simp [hx]))⟩⟩
 | got n k =>
  rintro e w1 ⟨rfl, hR, hK⟩
  have HR := Lib.hid hR
  have HK := Lib.hid hK
  have HU : Hid (uintAt bs i = (n, 0, i + k)) := Lib.hid (by unfold uintAt; rw [hnum])
  clear hR hK hnum
  have Hn1 := Lib.hid (Hn.out.kept HK.out (by simp; omega))
  have He1 := Lib.hid (He.out.kept HK.out (by simp; omega))
  have hnc := Hn1.out.cell
  have hnf := Hn1.out.free
  go_wp2
  go_end0
  rw [HU.out]
  exact ⟨He1.out.far Hne.out _, .inl ⟨rfl, rfl, ⟨i + k, HR.out.far h1 _, fun _ => rfl⟩, Hn1.out.set_ _, (HK.out.mono (fun x hx => .inl (by simp at hx; simp [hx]))).setCell (.inl (by simp)) _⟩⟩
theorem uintAt_pos {bs : List Nat} {i : Nat} (h : (uintAt bs i).2.1 ≠ 0) : (uintAt bs i).2.2 = i := by
 unfold uintAt at h ⊢
 cases hn : num (bs.drop i) 0 0 with
 | bad c => rfl
 | got n k => rw [hn] at h; exact absurd rfl h
theorem fin {B g : Nat} {bs : List Nat} {i nb eb : Nat} {t : TypeId} {v : Value} {code pos n : Nat} {w w0 w1 w' : World} (hpos : code ≠ 0 → pos = i) (hR : RG B g bs nb t v code pos w0 n w1)
  (hk : Kept [eb, g] w1 w') (h1 : n ≠ 0 → Rdr w' B g bs i) (h0 : n = 0 → Kept [eb] w1 w') (he : eb ≠ nb) (hg : g < w.heap.size) (hn : w.heap.size ≤ nb) (hbe : w.heap.size ≤ eb) (hB : B ≤ w.heap.size) (h00 : Kept [] w w0) :
  n = code ∧ Rdr w' B g bs pos ∧ Box w' nb v t ∧ Kept [g] w w' := by
 obtain ⟨rfl, ⟨j, hj, hj0⟩, hb, hk1⟩ := hR
 refine ⟨rfl, ?_, hb.kept hk (by simp; omega), ?_⟩
 ·by_cases hz : n = 0
  ·rw [← hj0 hz]
   exact hj.kept (h0 hz) (fun x hx => by simp at hx; omega)
  ·rw [hpos hz]; exact h1 hz
 ·have k1 : Kept [g] w w1 := (h00.mono (rows' := [g]) (fun _ hx => by cases hx)).trans hk1 (fun x hx => by simp at hx ⊢; omega)
  exact k1.trans hk (fun x hx => by simp at hx ⊢; omega)
theorem boxAt {w : World} {g : Nat} (hg : g = w.heap.size) (v : Value) (t : TypeId) : Box (w.alloc (.cells #[v] t)) g v t := by subst hg; exact Box.new w v t
theorem uintP (B g : Nat) (bs : List Nat) (i : Nat) (w : World) (h : Rdr w B g bs i) (hB : B ≤ w.heap.size) :
  Calls Tryz.prog 226 #[.pointer (some ⟨g, 0, none⟩), .func (.func 227) #[] #[.pointer (some ⟨w.heap.size, 0, none⟩), .pointer (some ⟨w.heap.size + 1, 0, none⟩)]]
   ((w.alloc (.cells #[.pointer (some ⟨g, 0, none⟩)] 231)).alloc (.cells #[.int .i64 0] 3))
   fun e w' => e = .returned (.int .i64 ((uintAt bs i).2.1 : Int)) ∧ Rdr w' B g bs (uintAt bs i).2.2 ∧ Box w' (w.heap.size + 1) (.int .i64 ((uintAt bs i).1 : Int)) 3 ∧ Kept [g] w w' := by
 have hlt := h.lt
 have b1 : Box (((w.alloc (.cells #[.pointer (some ⟨g, 0, none⟩)] 231)).alloc (.cells #[.int .i64 0] 3)).alloc (.cells #[.int .i64 0] 37)) w.heap.size (.pointer (some ⟨g, 0, none⟩)) 231 := ((boxAt rfl _ _).alloc _).alloc _
 have b2 : Box (((w.alloc (.cells #[.pointer (some ⟨g, 0, none⟩)] 231)).alloc (.cells #[.int .i64 0] 3)).alloc (.cells #[.int .i64 0] 37)) (w.heap.size + 1) (.int .i64 0) 3 := (boxAt (by simp) _ _).alloc _
 have b3 : Box (((w.alloc (.cells #[.pointer (some ⟨g, 0, none⟩)] 231)).alloc (.cells #[.int .i64 0] 3)).alloc (.cells #[.int .i64 0] 37)) ((w.alloc (.cells #[.pointer (some ⟨g, 0, none⟩)] 231)).alloc (.cells #[.int .i64 0] 3)).heap.size (.int .i64 0) 37 := boxAt rfl _ _
 refine (tried34 B g bs i _ _ _ ((h.alloc _).alloc _) (by simp; omega) (uintC B g bs i w.heap.size (w.heap.size + 1) _ _ (((h.alloc _).alloc _).alloc _) b1 b2 b3 (by omega) (by simp; omega)) (fun n w1 hR => ⟨_, hR.2.1.choose_spec.1⟩)).mono ?_
 rintro e w' ⟨n, w1, rfl, hR, hk, h1, h0⟩
 obtain ⟨rfl, f1, f2, f3⟩ := fin (w := w) (fun h => uintAt_pos h) hR hk h1 h0 (by simp) hlt (by omega) (by simp; omega) hB ((((Kept.refl [] w).alloc _).alloc _).alloc _)
 exact ⟨rfl, f1, f2, f3⟩
theorem uint_any (B g : Nat) (bs : List Nat) (i : Nat) (w : World) (h : Rdr w B g bs i) (hB : B ≤ w.heap.size) :
  Calls Tryz.prog 187 #[.pointer (some ⟨g, 0, none⟩)] w (RetR B g bs (.int .i64 ((uintAt bs i).1 : Int)) (uintAt bs i).2.1 (uintAt bs i).2.2 w) := by
 have hmf : ∀ (fn : Fn) (first cap : Array Value) (w : World), (Instr.makeFunc fn first cap).run Tryz.prog w = .ok (.func fn first cap) w := fun _ _ _ _ => rfl
 have H := Lib.hid h
 have HB := Lib.hid hB
 clear h hB
 go_enter Tryz.func187, Tryz.ntmps187
 go_wp2_with fail
 refine (uintP B g bs i w H.out HB.out).mono ?_
 rintro e w' ⟨rfl, h1, h2, h3⟩
 have hc := h2.cell
 have H1 := Lib.hid h1
 have H3 := Lib.hid h3
 clear h1 h2 h3
 go_wp2
 go_ret2
 exact ⟨rfl, H1.out, H3.out⟩
end Go.Proofs.YtpdedfpacklnoaaGreatDoor.W
namespace Go.Proofs.YtpdedfpacklnoaaGreatDoor.W
set_option maxRecDepth 100000
open Go.RowKit Go.BL Go.Wr
theorem takeZ (B g : Nat) (bs : List Nat) (i n : Nat) (z : Int) (hz : z = (n : Int)) (w : World) (h : Rdr w B g bs i) (hn : i + n ≤ bs.length) : Calls Tryz.prog 186 #[.pointer (some ⟨g, 0, none⟩), .int .i64 z] w fun e w' =>
  ∃ A c, e = .returned (.slice A n c) ∧ Rd w' A n ((bs.drop i).take n) ∧ Own w' w.heap.size (.slice A n c) ((bs.drop i).take n) ∧ Rdr w' B g bs (i + n) ∧ Kept [g] w w' := by
 subst hz; exact take_any B g bs i n w h hn
theorem take1 {bs : List Nat} {i : Nat} (h : i < bs.length) : (bs.drop i).take 1 = [bs.getD i 0] := by
 rw [List.drop_eq_getElem_cons h, List.getD_eq_getElem?_getD, List.getElem?_eq_getElem h]; rfl
theorem byteC (B g : Nat) (bs : List Nat) (i rb nb eb : Nat) (w : World) (h : Rdr w B g bs i) (hr : Box w rb (.pointer (some ⟨g, 0, none⟩)) 231) (hn : Box w nb (.int .i64 0) 3) (he : Box w eb (.int .i64 0) 37) (h1 : B ≤ nb) (h2 : B ≤ eb) :
  Calls Tryz.prog 254 #[.pointer (some ⟨rb, 0, none⟩), .pointer (some ⟨nb, 0, none⟩)] w fun e w' => Box w' eb (.int .i64 0) 37 ∧ Out (RG B g bs nb 3 (.int .i64 ((byteAt bs i).1 : Int)) (byteAt bs i).2.1 (byteAt bs i).2.2 w) e w' := by
 have hrc := hr.cell
 have hgb := h.ltB
 have hne : eb ≠ nb := by rintro rfl; unfold Box at hn he; rw [hn] at he; injection he with he; injection he with _ he; cases he
 have H := Lib.hid h
 have Hn := Lib.hid hn
 have He := Lib.hid he
 have Hne := Lib.hid hne
 clear h hr hn he hne
 go_enter Tryz.func254, Tryz.ntmps254
 go_wp2_with fail
 refine (left_any B g bs i _ H.out).mono ?_
 rintro e w' ⟨rfl, N, rfl⟩
 by_cases hlt : i < bs.length
 ·have HU : Hid (byteAt bs i = (bs.getD i 0, 0, i + 1)) := Lib.hid (by unfold byteAt; rw [if_pos hlt])
  have hz : (((bs.length - i : Nat) : Int) == 0) = false := beq_eq_false_iff_ne.2 (by omega)
  have Hlt := Lib.hid hlt
  clear hlt
  go_wp2_with fail
  refine (takeZ B g bs i 1 1 rfl _ (H.out.drewN N) (by have := Hlt.out; omega)).mono ?_
  rw [take1 Hlt.out]
  rintro e w1 ⟨A, c, rfl, hrd, -, hR, hK⟩
  obtain ⟨b, off, rfl, _, hcell⟩ := hrd.2.2.2 (by omega)
  have hc0 : w1.cell? ⟨b, off, none⟩ = some (.int .u8 ((bs.getD i 0 : Nat) : Int)) := hcell 0 (by omega)
  have hx := hrd.2.2.1 _ (List.mem_singleton_self _)
  have HR := Lib.hid hR
  have HK := Lib.hid ((((Kept.refl [g] w).drewN N).then_ hK))
  have Hn1 := Lib.hid (Hn.out.kept HK.out (by simp; omega))
  have He1 := Lib.hid (He.out.kept HK.out (by simp; omega))
  have hnc := Hn1.out.cell
  have hnf := Hn1.out.free
  clear hrd hR hK hcell
  generalize bs.getD i 0 = x at *
  go_wp2
  go_end0
  rw [HU.out]
  exact ⟨He1.out.far Hne.out _, .inl ⟨rfl, rfl, ⟨i + 1, HR.out.far h1 _, fun _ => rfl⟩, Hn1.out.set_ _, (HK.out.mono (fun x hx => .inl (by simp at hx; simp [hx]))).setCell (.inl (by simp)) _⟩⟩
 ·have HU : Hid (byteAt bs i = (0, 2, i)) := Lib.hid (by unfold byteAt; rw [if_neg hlt])
  have hz : (((bs.length - i : Nat) : Int) == 0) = true := beq_iff_eq.2 (by omega)
  clear hlt
  go_wp2_with fail
  refine (cut_any 2 _).mono ?_
  rintro e w' ⟨rfl, rfl⟩
  go_wp2
  rw [HU.out]
  exact ⟨rfl, He.out.drewN N, .inr ⟨2, by decide, rfl, rfl, ⟨i, H.out.drewN N, fun h => absurd h (by decide)⟩, Hn.out.drewN N, (Kept.refl _ w).drewN N⟩⟩
theorem byteAt_pos {bs : List Nat} {i : Nat} (h : (byteAt bs i).2.1 ≠ 0) : (byteAt bs i).2.2 = i := by
 unfold byteAt at h ⊢
 by_cases hl : i < bs.length
 ·rw [if_pos hl] at h; exact absurd rfl h
 ·rw [if_neg hl]
theorem byteP (B g : Nat) (bs : List Nat) (i : Nat) (w : World) (h : Rdr w B g bs i) (hB : B ≤ w.heap.size) :
  Calls Tryz.prog 226 #[.pointer (some ⟨g, 0, none⟩), .func (.func 254) #[] #[.pointer (some ⟨w.heap.size, 0, none⟩), .pointer (some ⟨w.heap.size + 1, 0, none⟩)]]
   ((w.alloc (.cells #[.pointer (some ⟨g, 0, none⟩)] 231)).alloc (.cells #[.int .i64 0] 3))
   fun e w' => e = .returned (.int .i64 ((byteAt bs i).2.1 : Int)) ∧ Rdr w' B g bs (byteAt bs i).2.2 ∧ Box w' (w.heap.size + 1) (.int .i64 ((byteAt bs i).1 : Int)) 3 ∧ Kept [g] w w' := by
 have hlt := h.lt
 have b1 : Box (((w.alloc (.cells #[.pointer (some ⟨g, 0, none⟩)] 231)).alloc (.cells #[.int .i64 0] 3)).alloc (.cells #[.int .i64 0] 37)) w.heap.size (.pointer (some ⟨g, 0, none⟩)) 231 := ((boxAt rfl _ _).alloc _).alloc _
 have b2 : Box (((w.alloc (.cells #[.pointer (some ⟨g, 0, none⟩)] 231)).alloc (.cells #[.int .i64 0] 3)).alloc (.cells #[.int .i64 0] 37)) (w.heap.size + 1) (.int .i64 0) 3 := (boxAt (by simp) _ _).alloc _
 have b3 : Box (((w.alloc (.cells #[.pointer (some ⟨g, 0, none⟩)] 231)).alloc (.cells #[.int .i64 0] 3)).alloc (.cells #[.int .i64 0] 37)) ((w.alloc (.cells #[.pointer (some ⟨g, 0, none⟩)] 231)).alloc (.cells #[.int .i64 0] 3)).heap.size (.int .i64 0) 37 := boxAt rfl _ _
 refine (tried36 B g bs i _ _ _ ((h.alloc _).alloc _) (by simp; omega) (byteC B g bs i w.heap.size (w.heap.size + 1) _ _ (((h.alloc _).alloc _).alloc _) b1 b2 b3 (by omega) (by simp; omega)) (fun n w1 hR => ⟨_, hR.2.1.choose_spec.1⟩)).mono ?_
 rintro e w' ⟨n, w1, rfl, hR, hk, h1, h0⟩
 obtain ⟨rfl, f1, f2, f3⟩ := fin (w := w) (fun h => byteAt_pos h) hR hk h1 h0 (by simp) hlt (by omega) (by simp; omega) hB ((((Kept.refl [] w).alloc _).alloc _).alloc _)
 exact ⟨rfl, f1, f2, f3⟩
theorem byte_any (B g : Nat) (bs : List Nat) (i : Nat) (w : World) (h : Rdr w B g bs i) (hB : B ≤ w.heap.size) :
  Calls Tryz.prog 229 #[.pointer (some ⟨g, 0, none⟩)] w (RetR B g bs (.int .i64 ((byteAt bs i).1 : Int)) (byteAt bs i).2.1 (byteAt bs i).2.2 w) := by
 have hmf : ∀ (fn : Fn) (first cap : Array Value) (w : World), (Instr.makeFunc fn first cap).run Tryz.prog w = .ok (.func fn first cap) w := fun _ _ _ _ => rfl
 have H := Lib.hid h
 have HB := Lib.hid hB
 clear h hB
 go_enter Tryz.func229, Tryz.ntmps229
 go_wp2_with fail
 refine (byteP B g bs i w H.out HB.out).mono ?_
 rintro e w' ⟨rfl, h1, h2, h3⟩
 have hc := h2.cell
 have H1 := Lib.hid h1
 have H3 := Lib.hid h3
 clear h1 h2 h3
 go_wp2
 go_ret2
 exact ⟨rfl, H1.out, H3.out⟩
theorem textC (B g : Nat) (bs : List Nat) (i : Nat) (most : Int) (rb mb nb eb : Nat) (w : World) (h : Rdr w B g bs i) (hr : Box w rb (.pointer (some ⟨g, 0, none⟩)) 231) (hm : Box w mb (.int .i64 most) 3) (hn : Box w nb (.string .empty) 9) (he : Box w eb (.int .i64 0) 37) (h0 : B ≤ mb) (hrb : B ≤ rb) (h1 : B ≤ nb) (h2 : B ≤ eb) :
  Calls Tryz.prog 253 #[.pointer (some ⟨rb, 0, none⟩), .pointer (some ⟨mb, 0, none⟩), .pointer (some ⟨nb, 0, none⟩)] w fun e w' => Box w' eb (.int .i64 0) 37 ∧ Out (RG B g bs nb 9 (.string (bstr (textAt bs i most).1)) (textAt bs i most).2.1 (textAt bs i most).2.2 w) e w' := by
 have hrc := hr.cell
 have hgb := h.ltB
 have hne : eb ≠ nb := by rintro rfl; unfold Box at hn he; rw [hn] at he; injection he with he; injection he with _ he; cases he
 have H := Lib.hid h
 have Hr := Lib.hid hr
 have Hm := Lib.hid hm
 have Hn := Lib.hid hn
 have He := Lib.hid he
 have Hne := Lib.hid hne
 clear h hr hn he hne hm
 go_enter Tryz.func253, Tryz.ntmps253
 go_wp2_with fail
 refine (number_any B g bs i _ H.out).mono ?_
 cases hnum : num (bs.drop i) 0 0 with
 | bad c =>
  rintro e w1 ⟨rfl, hR, hK⟩
  have HR := Lib.hid hR
  have HK := Lib.hid hK
  have Hc := Lib.hid (num_bad _ _ _ _ hnum)
  have HU : Hid (textAt bs i most = ([], c, i)) := Lib.hid (by unfold textAt; rw [hnum])
  clear hR hK hnum
  go_wp2
  rw [HU.out]
  exact ⟨rfl, He.out.kept HK.out (by simp; omega), .inr ⟨c, Hc.out, rfl, rfl, ⟨i, HR.out, fun h => absurd h Hc.out⟩, Hn.out.kept HK.out (by simp; omega), HK.out.mono (fun x hx => .inl (by simp at hx; simp [hx]))⟩⟩
 | got n k =>
  rintro e w1 ⟨rfl, hR, hK⟩
  have HR := Lib.hid hR
  have HK := Lib.hid hK
  have Hnum := Lib.hid hnum
  clear hR hK hnum
  have Hn1 := Lib.hid (Hn.out.kept HK.out (by simp; omega))
  have He1 := Lib.hid (He.out.kept HK.out (by simp; omega))
  have hrc1 := (Hr.out.kept HK.out (by simp; omega)).cell
  have hmc1 := (Hm.out.kept HK.out (by simp; omega)).cell
  clear hrc
  rcases (show most < 0 ∨ 0 ≤ most by omega) with hmost | hmost
  ·by_cases hlong : max most 0 < (n : Int)
   ·have HU : Hid (textAt bs i most = ([], 4, i)) := Lib.hid (by unfold textAt; rw [Hnum.out]; exact if_pos hlong)
    have hl2 : 0 < (n : Int) := by omega
    clear hlong
    go_wp2_with fail
    refine (cut_any 4 _).mono ?_
    rintro e w' ⟨rfl, rfl⟩
    go_wp2
    rw [HU.out]
    exact ⟨rfl, He1.out, .inr ⟨4, by decide, rfl, rfl, ⟨i + k, HR.out, fun h => absurd h (by decide)⟩, Hn1.out, HK.out.mono (fun x hx => .inl (by simp at hx; simp [hx]))⟩⟩
   ·have Hlong := Lib.hid hlong
    have hl2 : ¬ (0 : Int) < (n : Int) := by omega
    clear hlong
    go_wp2_with fail
    refine (left_any B g bs (i + k) _ HR.out).mono ?_
    rintro e w' ⟨rfl, N, rfl⟩
    by_cases hshort : bs.length - (i + k) < n
    ·have HU : Hid (textAt bs i most = ([], 2, i)) := Lib.hid (by unfold textAt; rw [Hnum.out]; show (if _ then _ else _) = _; rw [if_neg (Int.not_lt.2 Hlong.out), if_pos hshort])
     have hs : ((bs.length - (i + k) : Nat) : Int) < (n : Int) := by omega
     go_wp2_with fail
     refine (cut_any 2 _).mono ?_
     rintro e w' ⟨rfl, rfl⟩
     go_wp2
     rw [HU.out]
     exact ⟨rfl, He1.out.drewN N, .inr ⟨2, by decide, rfl, rfl, ⟨i + k, HR.out.drewN N, fun h => absurd h (by decide)⟩, Hn1.out.drewN N, (HK.out.mono (fun x hx => .inl (by simp at hx; simp [hx]))).drewN N⟩⟩
    ·have HU : Hid (textAt bs i most = ((bs.drop (i + k)).take n, 0, i + k + n)) := Lib.hid (by unfold textAt; rw [Hnum.out]; show (if _ then _ else _) = _; rw [if_neg (Int.not_lt.2 Hlong.out), if_neg hshort])
     have hs : ¬ ((bs.length - (i + k) : Nat) : Int) < (n : Int) := by omega
     have Hik := Lib.hid HR.out.le
     have Hsh := Lib.hid hshort
     clear hshort
     go_wp2_with fail
     refine (takeZ B g bs (i + k) n n rfl _ (HR.out.drewN N) (by have := Hsh.out; have := Hik.out; omega)).mono ?_
     generalize (bs.drop (i + k)).take n = T at *
     rintro e w2 ⟨A, c, rfl, hrd, -, hR2, hK2⟩
     have HR2 := Lib.hid hR2
     have HK2 := Lib.hid (HK.out.then_ (((Kept.refl [g] w1).drewN N).then_ hK2))
     have hconv := run_bstr (P := Tryz.prog) (c := c) hrd 75 5 9 Tryz.underlying75 Tryz.underlying5 Tryz.underlying9
     have Hn2 := Lib.hid (Hn.out.kept HK2.out (by simp; omega))
     have He2 := Lib.hid (He.out.kept HK2.out (by simp; omega))
     have hnc := Hn2.out.cell
     have hnf := Hn2.out.free
     clear hrd hR2 hK2
     go_wp2
     go_end0
     rw [HU.out]
     exact ⟨He2.out.far Hne.out _, .inl ⟨rfl, rfl, ⟨i + k + n, HR2.out.far h1 _, fun _ => rfl⟩, Hn2.out.set_ _, (HK2.out.mono (fun x hx => .inl (by simp at hx; simp [hx]))).setCell (.inl (by simp)) _⟩⟩
  ·by_cases hlong : max most 0 < (n : Int)
   ·have HU : Hid (textAt bs i most = ([], 4, i)) := Lib.hid (by unfold textAt; rw [Hnum.out]; exact if_pos hlong)
    have hl2 : most < (n : Int) := by omega
    clear hlong
    go_wp2_with fail
    refine (cut_any 4 _).mono ?_
    rintro e w' ⟨rfl, rfl⟩
    go_wp2
    rw [HU.out]
    exact ⟨rfl, He1.out, .inr ⟨4, by decide, rfl, rfl, ⟨i + k, HR.out, fun h => absurd h (by decide)⟩, Hn1.out, HK.out.mono (fun x hx => .inl (by simp at hx; simp [hx]))⟩⟩
   ·have Hlong := Lib.hid hlong
    have hl2 : ¬ most < (n : Int) := by omega
    clear hlong
    go_wp2_with fail
    refine (left_any B g bs (i + k) _ HR.out).mono ?_
    rintro e w' ⟨rfl, N, rfl⟩
    by_cases hshort : bs.length - (i + k) < n
    ·have HU : Hid (textAt bs i most = ([], 2, i)) := Lib.hid (by unfold textAt; rw [Hnum.out]; show (if _ then _ else _) = _; rw [if_neg (Int.not_lt.2 Hlong.out), if_pos hshort])
     have hs : ((bs.length - (i + k) : Nat) : Int) < (n : Int) := by omega
     go_wp2_with fail
     refine (cut_any 2 _).mono ?_
     rintro e w' ⟨rfl, rfl⟩
     go_wp2
     rw [HU.out]
     exact ⟨rfl, He1.out.drewN N, .inr ⟨2, by decide, rfl, rfl, ⟨i + k, HR.out.drewN N, fun h => absurd h (by decide)⟩, Hn1.out.drewN N, (HK.out.mono (fun x hx => .inl (by simp at hx; simp [hx]))).drewN N⟩⟩
    ·have HU : Hid (textAt bs i most = ((bs.drop (i + k)).take n, 0, i + k + n)) := Lib.hid (by unfold textAt; rw [Hnum.out]; show (if _ then _ else _) = _; rw [if_neg (Int.not_lt.2 Hlong.out), if_neg hshort])
     have hs : ¬ ((bs.length - (i + k) : Nat) : Int) < (n : Int) := by omega
     have Hik := Lib.hid HR.out.le
     have Hsh := Lib.hid hshort
     clear hshort
     go_wp2_with fail
     refine (takeZ B g bs (i + k) n n rfl _ (HR.out.drewN N) (by have := Hsh.out; have := Hik.out; omega)).mono ?_
     generalize (bs.drop (i + k)).take n = T at *
     rintro e w2 ⟨A, c, rfl, hrd, -, hR2, hK2⟩
     have HR2 := Lib.hid hR2
     have HK2 := Lib.hid (HK.out.then_ (((Kept.refl [g] w1).drewN N).then_ hK2))
     have hconv := run_bstr (P := Tryz.prog) (c := c) hrd 75 5 9 Tryz.underlying75 Tryz.underlying5 Tryz.underlying9
     have Hn2 := Lib.hid (Hn.out.kept HK2.out (by simp; omega))
     have He2 := Lib.hid (He.out.kept HK2.out (by simp; omega))
     have hnc := Hn2.out.cell
     have hnf := Hn2.out.free
     clear hrd hR2 hK2
     go_wp2
     go_end0
     rw [HU.out]
     exact ⟨He2.out.far Hne.out _, .inl ⟨rfl, rfl, ⟨i + k + n, HR2.out.far h1 _, fun _ => rfl⟩, Hn2.out.set_ _, (HK2.out.mono (fun x hx => .inl (by simp at hx; simp [hx]))).setCell (.inl (by simp)) _⟩⟩
theorem textAt_pos {bs : List Nat} {i : Nat} {most : Int} (h : (textAt bs i most).2.1 ≠ 0) : (textAt bs i most).2.2 = i := by
 unfold textAt at h ⊢
 cases hn : num (bs.drop i) 0 0 with
 | bad c => rfl
 | got n k =>
  rw [hn] at h
  by_cases h1 : max most 0 < (n : Int)
  ·simp only [if_pos h1]
  ·by_cases h2 : bs.length - (i + k) < n
   ·simp only [if_neg h1, if_pos h2]
   ·simp only [if_neg h1, if_neg h2] at h; exact absurd rfl h
theorem textP (B g : Nat) (bs : List Nat) (i : Nat) (most : Int) (w : World) (h : Rdr w B g bs i) (hB : B ≤ w.heap.size) :
  Calls Tryz.prog 226 #[.pointer (some ⟨g, 0, none⟩), .func (.func 253) #[] #[.pointer (some ⟨w.heap.size, 0, none⟩), .pointer (some ⟨w.heap.size + 1, 0, none⟩), .pointer (some ⟨w.heap.size + 1 + 1, 0, none⟩)]]
   (((w.alloc (.cells #[.pointer (some ⟨g, 0, none⟩)] 231)).alloc (.cells #[.int .i64 most] 3)).alloc (.cells #[.string .empty] 9))
   fun e w' => e = .returned (.int .i64 ((textAt bs i most).2.1 : Int)) ∧ Rdr w' B g bs (textAt bs i most).2.2 ∧ Box w' (w.heap.size + 1 + 1) (.string (bstr (textAt bs i most).1)) 9 ∧ Kept [g] w w' := by
 have hlt := h.lt
 have b1 : Box ((((w.alloc (.cells #[.pointer (some ⟨g, 0, none⟩)] 231)).alloc (.cells #[.int .i64 most] 3)).alloc (.cells #[.string .empty] 9)).alloc (.cells #[.int .i64 0] 37)) w.heap.size (.pointer (some ⟨g, 0, none⟩)) 231 := (((boxAt rfl _ _).alloc _).alloc _).alloc _
 have b2 : Box ((((w.alloc (.cells #[.pointer (some ⟨g, 0, none⟩)] 231)).alloc (.cells #[.int .i64 most] 3)).alloc (.cells #[.string .empty] 9)).alloc (.cells #[.int .i64 0] 37)) (w.heap.size + 1) (.int .i64 most) 3 := ((boxAt (by simp) _ _).alloc _).alloc _
 have b3 : Box ((((w.alloc (.cells #[.pointer (some ⟨g, 0, none⟩)] 231)).alloc (.cells #[.int .i64 most] 3)).alloc (.cells #[.string .empty] 9)).alloc (.cells #[.int .i64 0] 37)) (w.heap.size + 1 + 1) (.string .empty) 9 := (boxAt (by simp) _ _).alloc _
 have b4 : Box ((((w.alloc (.cells #[.pointer (some ⟨g, 0, none⟩)] 231)).alloc (.cells #[.int .i64 most] 3)).alloc (.cells #[.string .empty] 9)).alloc (.cells #[.int .i64 0] 37)) (((w.alloc (.cells #[.pointer (some ⟨g, 0, none⟩)] 231)).alloc (.cells #[.int .i64 most] 3)).alloc (.cells #[.string .empty] 9)).heap.size (.int .i64 0) 37 := boxAt rfl _ _
 refine (tried39 B g bs i _ _ _ (((h.alloc _).alloc _).alloc _) (by simp; omega) (textC B g bs i most w.heap.size (w.heap.size + 1) (w.heap.size + 1 + 1) _ _ ((((h.alloc _).alloc _).alloc _).alloc _) b1 b2 b3 b4 (by omega) (by omega) (by omega) (by simp; omega)) (fun n w1 hR => ⟨_, hR.2.1.choose_spec.1⟩)).mono ?_
 rintro e w' ⟨n, w1, rfl, hR, hk, h1, h0⟩
 obtain ⟨rfl, f1, f2, f3⟩ := fin (w := w) (fun h => textAt_pos h) hR hk h1 h0 (by simp) hlt (by omega) (by simp; omega) hB (((((Kept.refl [] w).alloc _).alloc _).alloc _).alloc _)
 exact ⟨rfl, f1, f2, f3⟩
theorem rtext_any (B g : Nat) (bs : List Nat) (i : Nat) (most : Int) (w : World) (h : Rdr w B g bs i) (hB : B ≤ w.heap.size) :
  Calls Tryz.prog 228 #[.pointer (some ⟨g, 0, none⟩), .int .i64 most] w (RetR B g bs (.string (bstr (textAt bs i most).1)) (textAt bs i most).2.1 (textAt bs i most).2.2 w) := by
 have hmf : ∀ (fn : Fn) (first cap : Array Value) (w : World), (Instr.makeFunc fn first cap).run Tryz.prog w = .ok (.func fn first cap) w := fun _ _ _ _ => rfl
 have H := Lib.hid h
 have HB := Lib.hid hB
 clear h hB
 go_enter Tryz.func228, Tryz.ntmps228
 go_wp2_with fail
 refine (textP B g bs i most w H.out HB.out).mono ?_
 rintro e w' ⟨rfl, h1, h2, h3⟩
 have hc := h2.cell
 have H1 := Lib.hid h1
 have H3 := Lib.hid h3
 clear h1 h2 h3
 go_wp2
 go_ret2
 exact ⟨rfl, H1.out, H3.out⟩
end Go.Proofs.YtpdedfpacklnoaaGreatDoor.W
namespace Go.Proofs.YtpdedfpacklnoaaGreatDoor.W
set_option maxRecDepth 100000
open Go.RowKit Go.BL Go.Wr
theorem cast_pow (k : Nat) : ((128 : Int) ^ k) = ((128 ^ k : Nat) : Int) := by simp
theorem add_mul {m k : Nat} (x : Nat) (hm : m < 128 ^ k) (hk : k ≤ 8) : wrap64 ((m : Int) + wrap64 ((x : Int) % 128 * 128 ^ k)) = ((m + x % 128 * 128 ^ k : Nat) : Int) := by
 obtain ⟨h1, h2⟩ := pow128 x hm hk
 have h3 : m < 72057594037927936 := Nat.lt_of_lt_of_le hm (Nat.pow_le_pow_right (by decide) hk)
 rw [cast_pow, show ((x : Int) % 128) = ((x % 128 : Nat) : Int) by omega, ← Int.natCast_mul]
 generalize x % 128 * 128 ^ k = D at *
 clear h1 hm hk
 rw [IntWalk.wrap64_in (D : Int) (by omega), ← Int.natCast_add, IntWalk.wrap64_in _ (by omega)]
end Go.Proofs.YtpdedfpacklnoaaGreatDoor.W
namespace Go.BL
set_option maxRecDepth 100000
open Go.RowKit
theorem Rd.dropIf {w : World} {G : Option Addr} {len c i : Nat} {bs : List Nat} (h : Rd w G len bs) (hi : i ≤ len) (hc : len ≤ c) : Rd w (if c = i then G else G.map fun x => x.add i) (len - i) (bs.drop i) := by
 have h1 := h.cutIf (i := i) (n := len - i) (by omega) hc
 rwa [List.take_of_length_le (by rw [List.length_drop, h.1]; exact Nat.le_refl _)] at h1
end Go.BL
namespace Go.Proofs.YtpdedfpacklnoaaGreatDoor.W
set_option maxRecDepth 100000
open Go.RowKit Go.BL Go.Wr
/-- The call returns a new row of bytes and an error. -/
def RetF (r : List Nat × Nat) (w : World) (e : Ending) (w' : World) : Prop :=
 ∃ A cap, e = .returned (.tuple #[.slice A r.1.length cap, .int .i64 (r.2 : Int)]) ∧ Rd w' A r.1.length r.1 ∧ Own w' w.heap.size (.slice A r.1.length cap) r.1 ∧ Below w.heap.size w w'
theorem rd_four (w : World) (g S : Nat) (hg : g = w.heap.size) (hS : S < 4294967296) (t : TypeId) (fr : Nat × Nat) :
  Rd (w.alloc (.cells #[.int .u8 ((S : Int) % 256), .int .u8 ((S : Int) / 256 % 256), .int .u8 ((S : Int) / 65536 % 256), .int .u8 ((S : Int) / 16777216)] t fr)) (some ⟨g, 0, none⟩) 4 (le4 S) := by
 subst hg
 refine ⟨rfl, by decide, le4_lt S, fun _ => ⟨_, _, rfl, by simp, fun i hi => ?_⟩⟩
 have hh : (w.alloc (.cells #[.int .u8 ((S : Int) % 256), .int .u8 ((S : Int) / 256 % 256), .int .u8 ((S : Int) / 65536 % 256), .int .u8 ((S : Int) / 16777216)] t fr)).heap[w.heap.size]? = some (.cells #[.int .u8 ((S : Int) % 256), .int .u8 ((S : Int) / 256 % 256), .int .u8 ((S : Int) / 65536 % 256), .int .u8 ((S : Int) / 16777216)] t fr) := by
  show (w.heap.push _)[w.heap.size]? = _
  simp
 unfold World.cell?
 rw [hh]
 have h4 : (S : Int) / 16777216 = ((S / 16777216 % 256 : Nat) : Int) := by omega
 rw [h4]
 match i, hi with
 | 0, _ => rfl
 | 1, _ => rfl
 | 2, _ => rfl
 | 3, _ => rfl
set_option maxRecDepth 100000 in
theorem frame_any (A : Option Addr) (m cap : Nat) (bs : List Nat) (w : World) (hr : Rd w A m bs) : Calls Tryz.prog 119 #[.slice A m cap] w (RetF (frame bs) w) := by
 have hl := hr.1
 subst hl
 have hm := hr.2.1
 unfold maxLen at hm
 have Hr := Lib.hid hr
 clear hr
 by_cases hlong : 65536 < bs.length
 ·have HF : Hid (frame bs = ([], 4)) := Lib.hid (if_pos hlong)
  go_enter Tryz.func119, Tryz.ntmps119
  go_wp2
  go_ret2
  rw [HF.out]
  exact ⟨none, 0, rfl, Rd.none_, Own.nil _ _, Below.refl _ _⟩
 ·have HF : Hid (frame bs = (enc bs.length ++ bs ++ le4 (sum bs), 0)) := Lib.hid (if_neg hlong)
  have hs := sum_lt bs Hr.out.2.2.1
  go_enter Tryz.func119, Tryz.ntmps119
  go_wp2_with fail
  refine (sum_any A bs.length cap bs _ Hr.out).mono ?_
  rintro e w' ⟨rfl, rfl⟩
  generalize sum bs = S at *
  go_wp2_with fail
  refine (put_any none 0 0 [] (bs.length : Int) _ Rd.none_ (by omega) (by omega)).mono ?_
  rintro e w1 ⟨v, rfl, ho, hb⟩
  rw [List.nil_append, Int.toNat_natCast] at ho
  have Ho := Lib.hid ho
  have Hb := Lib.hid hb
  have He : Hid ((enc bs.length).length ≤ 9) := Lib.hid (enc_len9 (by omega))
  clear ho hb
  go_wp2_with (first
   | (at_builtin; refine wpList_appB rfl (.tmp 13) (.tmp 14) 75 rfl Tryz.underlying75 info5 rfl Ho.out rfl (Hr.out.below Hb.out (Nat.le_refl _)) (by have := He.out; omega) Hb.out.size ?_; intro v2 w2 ho hb; have Ho2 := Lib.hid ho; have Hb2 := Lib.hid (Hb.out.trans hb); clear ho hb)
   | (at_builtin; refine wpList_appB rfl (.tmp 16) (.tmp 28) 75 rfl Tryz.underlying75 info5 rfl (Ho2.out.alloc _) rfl (rd_four w2 _ S rfl hs 5 (0, 0)) (by rw [List.length_append]; have := He.out; omega) (Nat.le_trans Hb2.out.size (by simp)) ?_; intro v3 w3 ho hb; have Ho3 := Lib.hid ho; have Hb3 := Lib.hid ((Hb2.out.alloc Hb2.out.size _).trans hb); clear ho hb))
  go_ret2
  rw [HF.out]
  obtain ⟨A3, c3, rfl, hrd⟩ := Ho3.out.rd
  exact ⟨A3, c3, rfl, hrd, Ho3.out, Hb3.out⟩
end Go.Proofs.YtpdedfpacklnoaaGreatDoor.W
namespace Go.Wr
set_option maxRecDepth 100000
/-- The number of the first k bytes, the lowest first. -/
def pv (l : List Nat) : Nat → Nat
 | 0 => 0
 | k + 1 => pv l k + l.getD k 0 * 256 ^ k
theorem pv_four (l : List Nat) : pv l 4 = val4 l := by simp [pv, val4]
theorem pv_lt (l : List Nat) (h : ∀ i, l.getD i 0 < 256) : ∀ k, pv l k < 256 ^ k
 | 0 => by simp [pv]
 | k + 1 => by
  have h1 := pv_lt l h k
  have h2 := h k
  have h3 : l.getD k 0 * 256 ^ k ≤ 255 * 256 ^ k := Nat.mul_le_mul_right _ (by omega)
  rw [pv, Nat.pow_succ]
  omega
end Go.Wr
namespace Go.Proofs.YtpdedfpacklnoaaGreatDoor.W
open Go.RowKit Go.BL Go.Wr
theorem cast_pow8 (k : Nat) : ((2 : Int) ^ (8 * k)) = ((256 ^ k : Nat) : Int) := by
 have : (2 : Nat) ^ (8 * k) = 256 ^ k := by rw [Nat.pow_mul]
 rw [← this]; simp
theorem byte_shl {k x : Nat} (hk : k < 4) (hx : x < 256) : wrap64 ((x : Int) * 2 ^ (8 * k)) = ((x * 256 ^ k : Nat) : Int) ∧ x * 256 ^ k < 4294967296 := by
 have h3 : 256 ^ k ≤ 256 ^ 3 := Nat.pow_le_pow_right (by decide) (by omega)
 have h4 : x * 256 ^ k ≤ 255 * 256 ^ 3 := Nat.mul_le_mul (by omega) h3
 rw [cast_pow8, ← Int.natCast_mul]
 generalize x * 256 ^ k = D at *
 clear h3
 refine ⟨IntWalk.wrap64_in _ (by omega), by omega⟩
theorem or_byte {m k x : Nat} (hm : m < 256 ^ k) (hk : k < 4) (hx : x < 256) :
  bits .or .i64 (m : Int) (wrap64 ((x : Int) * 2 ^ (8 * k))) = ((m + x * 256 ^ k : Nat) : Int) := by
 obtain ⟨h1, h2⟩ := byte_shl hk hx
 have h4 : m < 4294967296 := Nat.lt_of_lt_of_le hm (Nat.le_trans (Nat.pow_le_pow_right (by decide) (show k ≤ 3 by omega)) (by decide))
 rw [h1, i64_or_nat m _ (by omega) (by omega)]
 congr 1
 have hp : (2 : Nat) ^ (8 * k) = 256 ^ k := by rw [Nat.pow_mul]
 rw [Nat.or_comm, ← hp, Nat.mul_comm, ← Nat.two_pow_add_eq_or_of_lt (by rw [hp]; exact hm)]
 omega
/-- What Unframe's closure leaves. -/
def RUf (g : Nat) (bs : List Nat) (pb sb : Nat) (w0 : World) (c : Nat) (w1 : World) : Prop :=
 c = (unframe bs).2.2 ∧ (c = 0 → ∃ A1 c1 A2 c2, Box w1 pb (.slice A1 (unframe bs).1.length c1) 75 ∧ Own w1 w0.heap.size (.slice A1 (unframe bs).1.length c1) (unframe bs).1 ∧ Box w1 sb (.slice A2 (unframe bs).2.1.length c2) 75 ∧ Own w1 w0.heap.size (.slice A2 (unframe bs).2.1.length c2) (unframe bs).2.1) ∧ Kept [g, pb, sb] w0 w1
theorem closeU {g n r pb sb c1 c4 B' : Nat} {A1 A4 : Option Addr} {bs PP RR : List Nat} {w0 w' : World} (hU : unframe bs = (PP, RR, 0)) (hl1 : PP.length = n) (hl2 : RR.length = r)
  (hp : Box w' pb (.slice A1 n c1) 75) (ho : Own w' w0.heap.size (.slice A1 n c1) PP) (hs : Box w' sb (.slice A4 r c4) 75) (ho2 : Own w' B' (.slice A4 r c4) RR) (hB : w0.heap.size ≤ B') (hk : Kept [g, pb, sb] w0 w') :
  Out (RUf g bs pb sb w0) (.returned (.tuple #[])) w' := by
 subst hl1 hl2
 refine .inl ⟨rfl, by rw [hU], fun _ => ⟨A1, c1, A4, c4, ?_⟩, hk⟩
 rw [hU]
 exact ⟨hp, ho, hs, ho2.base hB⟩
set_option maxRecDepth 100000 in
set_option maxHeartbeats 1000000 in
theorem unframeC (B g : Nat) (bs : List Nat) (rb pb sb eb : Nat) (w : World) (h : Rdr w B g bs 0) (hr : Box w rb (.pointer (some ⟨g, 0, none⟩)) 231) (hp : Box w pb (.slice none 0 0) 75) (hs : Box w sb (.slice none 0 0) 75) (he : Box w eb (.int .i64 0) 37)
  (h0 : B ≤ rb) (h1 : B ≤ pb) (h2 : B ≤ sb) (h3 : B ≤ eb) (hps : pb ≠ sb) :
  Calls Tryz.prog 182 #[.pointer (some ⟨rb, 0, none⟩), .pointer (some ⟨pb, 0, none⟩), .pointer (some ⟨sb, 0, none⟩)] w fun e w' => Box w' eb (.int .i64 0) 37 ∧ Out (RUf g bs pb sb w) e w' := by
 have hrc := hr.cell
 have hgb := h.ltB
 have hn1 : eb ≠ pb := by rintro rfl; unfold Box at hp he; rw [hp] at he; injection he with he; injection he with _ he; cases he
 have hn2 : eb ≠ sb := by rintro rfl; unfold Box at hs he; rw [hs] at he; injection he with he; injection he with _ he; cases he
 have hn3 : rb ≠ pb := by rintro rfl; unfold Box at hp hr; rw [hp] at hr; injection hr with hr; injection hr with _ hr; cases hr
 have hn4 : rb ≠ sb := by rintro rfl; unfold Box at hs hr; rw [hs] at hr; injection hr with hr; injection hr with _ hr; cases hr
 have hlen := h.len
 have H := Lib.hid h
 have Hr := Lib.hid hr
 have Hp := Lib.hid hp
 have Hs := Lib.hid hs
 have He := Lib.hid he
 have Hn := Lib.hid (show eb ≠ pb ∧ eb ≠ sb ∧ rb ≠ pb ∧ rb ≠ sb ∧ pb ≠ sb from ⟨hn1, hn2, hn3, hn4, hps⟩)
 clear h hr hp hs he hn1 hn2 hn3 hn4 hps
 go_enter Tryz.func182, Tryz.ntmps182
 go_wp2_with fail
 refine (number_any B g bs 0 _ H.out).mono ?_
 rw [List.drop_zero]
 cases hnum : num bs 0 0 with
 | bad c =>
  rintro e w1 ⟨rfl, hR, hK⟩
  have HR := Lib.hid hR
  have HK := Lib.hid hK
  have Hc := Lib.hid (num_bad _ _ _ _ hnum)
  have HU : Hid (unframe bs = ([], [], c)) := Lib.hid (by unfold unframe; rw [hnum])
  clear hR hK hnum
  go_wp2
  exact ⟨rfl, He.out.kept HK.out (by simp; omega), .inr ⟨c, Hc.out, rfl, by rw [HU.out], fun h => absurd h Hc.out, HK.out.mono (fun x hx => .inl (by simp at hx; simp [hx]))⟩⟩
 | got n k =>
  rintro e w1 ⟨rfl, hR, hK⟩
  rw [Nat.zero_add] at hR
  have HR := Lib.hid hR
  have HK := Lib.hid hK
  have Hnum := Lib.hid hnum
  clear hR hK hnum
  have hkl := HR.out.le
  have He1 := Lib.hid (He.out.kept HK.out (by simp; omega))
  have hrc1 := (Hr.out.kept HK.out (by simp; omega)).cell
  clear hrc
  by_cases hlong : 65536 < n
  ·have HU : Hid (unframe bs = ([], [], 4)) := Lib.hid (by unfold unframe; rw [Hnum.out]; exact if_pos hlong)
   go_wp2_with fail
   refine (cut_any 4 _).mono ?_
   rintro e w' ⟨rfl, rfl⟩
   go_wp2
   exact ⟨rfl, He1.out, .inr ⟨4, by decide, rfl, by rw [HU.out], fun h => absurd h (by decide), HK.out.mono (fun x hx => .inl (by simp at hx; simp [hx]))⟩⟩
  ·go_wp2_with fail
   refine (left_any B g bs k _ HR.out).mono ?_
   rintro e w' ⟨rfl, N, rfl⟩
   by_cases hshort : bs.length - k < n + 4
   ·have HU : Hid (unframe bs = ([], [], 2)) := Lib.hid (by unfold unframe; rw [Hnum.out]; show (if _ then _ else _) = _; rw [if_neg hlong, if_pos hshort])
    have hsh : ((bs.length - k : Nat) : Int) < (n : Int) + 4 := by omega
    go_wp2_with fail
    refine (cut_any 2 _).mono ?_
    rintro e w' ⟨rfl, rfl⟩
    go_wp2
    exact ⟨rfl, He1.out.drewN N, .inr ⟨2, by decide, rfl, by rw [HU.out], fun h => absurd h (by decide), (HK.out.mono (fun x hx => .inl (by simp at hx; simp [hx]))).drewN N⟩⟩
   ·have hsh : ¬ ((bs.length - k : Nat) : Int) < (n : Int) + 4 := by omega
    go_wp2_with fail
    refine (takeZ B g bs k n n rfl _ (HR.out.drewN N) (by omega)).mono ?_
    have HU : Hid (unframe bs = if val4 ((bs.drop (k + n)).take 4) ≠ sum ((bs.drop k).take n) then ([], [], 11) else ((bs.drop k).take n, bs.drop (k + n + 4), 0)) := Lib.hid (by unfold unframe; rw [Hnum.out]; show (if _ then _ else _) = _; rw [if_neg hlong, if_neg hshort])
    have HPl : Hid (((bs.drop k).take n).length = n) := Lib.hid (by rw [List.length_take, List.length_drop]; omega)
    have HTl : Hid (((bs.drop (k + n)).take 4).length = 4) := Lib.hid (by rw [List.length_take, List.length_drop]; omega)
    have HLl : Hid ((bs.drop (k + n + 4)).length = bs.length - (k + n + 4)) := Lib.hid (by rw [List.length_drop])
    have HL3 : Hid ((bs.drop (k + n + 4)).take (bs.length - (k + n + 4)) = bs.drop (k + n + 4)) := Lib.hid (List.take_of_length_le (by rw [List.length_drop]; exact Nat.le_refl _))
    have htot : k + n + 4 ≤ bs.length := by omega
    clear hshort hsh
    obtain ⟨PP, hPP⟩ : ∃ PP, (bs.drop k).take n = PP := ⟨_, rfl⟩
    rw [hPP] at HU HPl ⊢
    clear hPP
    rintro e w2 ⟨A1, c1, rfl, -, how, hR2, hK2⟩
    have HK2 := Lib.hid (HK.out.then_ (((Kept.refl [g] w1).drewN N).then_ hK2))
    have HR2 := Lib.hid hR2
    have HO2 : Hid (Own w2 w.heap.size (.slice A1 n c1) PP) := Lib.hid (how.base HK.out.size)
    have Hp2 := Lib.hid (Hp.out.kept HK2.out (by simp; omega))
    have Hs2 := Lib.hid (Hs.out.kept HK2.out (by simp; omega))
    have He2 := Lib.hid (He.out.kept HK2.out (by simp; omega))
    have Hr2 := Lib.hid (Hr.out.kept HK2.out (by simp; omega))
    have Hlt := Lib.hid (show pb < w.heap.size ∧ sb < w.heap.size ∧ eb < w.heap.size ∧ rb < w.heap.size ∧ g < w.heap.size from ⟨Hp.out.lt, Hs.out.lt, He.out.lt, Hr.out.lt, H.out.lt⟩)
    have hpc := Hp2.out.cell
    have hpf := Hp2.out.free
    clear how hR2 hK2 hrc1
    have hrc2 := (Hr2.out.far (p := ⟨pb, 0, none⟩) (by have := Hn.out; show rb ≠ pb; omega) (.slice A1 n c1)).cell
    go_wp2_with fail
    refine (takeZ B g bs (k + n) 4 4 rfl _ (HR2.out.far h1 _) (by omega)).mono ?_
    obtain ⟨T, hT⟩ : ∃ T, (bs.drop (k + n)).take 4 = T := ⟨_, rfl⟩
    rw [hT] at HU HTl ⊢
    clear hT
    rintro e w3 ⟨A2, c2, rfl, hrd, -, hR3, hK3⟩
    have HK3 : Hid (Kept [g, pb, sb] w w3) := Lib.hid (((HK2.out.mono (rows' := [g, pb, sb]) (fun x hx => .inl (by simp at hx; simp [hx]))).setCell (p := ⟨pb, 0, none⟩) (.inl (by simp)) _).trans hK3 (fun x hx => .inl (by simp at hx; simp [hx])))
    have HR3 := Lib.hid hR3
    have HT := Lib.hid hrd
    have Hp3 : Hid (Box w3 pb (.slice A1 n c1) 75) := Lib.hid ((Hp2.out.set_ _).kept hK3 (by have := H.out.ltB; simp; omega))
    have Hs3 : Hid (Box w3 sb (.slice none 0 0) 75) := Lib.hid ((Hs2.out.far (p := ⟨pb, 0, none⟩) (by have := Hn.out; show sb ≠ pb; omega) _).kept hK3 (by have := H.out.ltB; simp; omega))
    have He3 : Hid (Box w3 eb (.int .i64 0) 37) := Lib.hid ((He2.out.far (p := ⟨pb, 0, none⟩) (by have := Hn.out; show eb ≠ pb; omega) _).kept hK3 (by have := H.out.ltB; simp; omega))
    have Hr3 : Hid (Box w3 rb (.pointer (some ⟨g, 0, none⟩)) 231) := Lib.hid ((Hr2.out.far (p := ⟨pb, 0, none⟩) (by have := Hn.out; show rb ≠ pb; omega) _).kept hK3 (by have := H.out.ltB; simp; omega))
    have HO3 : Hid (Own w3 w.heap.size (.slice A1 n c1) PP) := Lib.hid ((HO2.out.kept (rows := [pb]) ((Kept.refl _ w2).setCell (p := ⟨pb, 0, none⟩) (.inl (by simp)) (.slice A1 n c1)) (fun x hx => by have h5 := HO2.out.block_ge x hx; have := Hlt.out; simp; omega)).kept hK3 (fun x hx => by have h5 := HO2.out.block_ge x hx; have := Hlt.out; simp; omega))
    clear hrd hR3 hK3 hpc hpf hrc2
    clear HR2 HO2 Hp2 Hs2 He2 Hr2
    go_wp2
    go_loop [4, 24] (fun s i => ∃ j m : Nat, j ≤ 4 ∧ i = .int .i64 (j : Int) ∧ s = .int .i64 (m : Int) ∧ Hid (m = pv T j)) (fun _ i => 4 - (intOf i).toNat)
    case atStart => exact ⟨0, 0, by omega, rfl, rfl, Lib.hid rfl⟩
    case round =>
     obtain ⟨j, m, hj, rfl, rfl, Hm⟩ := hrel
     by_cases hlt : j < 4
     ·obtain ⟨b, off, rfl, _, hcell⟩ := HT.out.2.2.2 (by omega)
      have hc := hcell j hlt
      have hx := getD_lt HT.out.2.2.1 j
      have Hs9 := Lib.hid (or_byte (m := m) (x := T.getD j 0) (by rw [Hm.out]; exact pv_lt T (getD_lt HT.out.2.2.1) j) hlt hx)
      have Hm9 : Hid (m + T.getD j 0 * 256 ^ j = pv T (j + 1)) := Lib.hid (by rw [Hm.out, pv])
      clear hcell
      generalize T.getD j 0 = x at *
      go_wp2
      go_round
      case rel => exact ⟨j + 1, m + x * 256 ^ j, by omega, by go_num, by rw [Hs9.out], Hm9⟩
      case measure => simp [intOf]; omega
     ·obtain rfl : j = 4 := by omega
      have Hm4 : Hid (m = val4 T) := Lib.hid (by rw [Hm.out, pv_four])
      have hpc := Hp3.out.cell
      clear Hm
      go_wp2_with fail
      refine (sum_any A1 n c1 PP _ (HO3.out.rdOf HPl.out)).mono ?_
      rintro e w' ⟨rfl, rfl⟩
      by_cases hsum : val4 T ≠ sum PP
      ·have HU2 := Lib.hid (HU.out.trans (if_pos hsum))
       have hne : ((m : Int) != (sum PP : Int)) = true := bne_iff_ne.2 (by have := Hm4.out; omega)
       go_wp2_with fail
       refine (cut_any 11 _).mono ?_
       rintro e w' ⟨rfl, rfl⟩
       go_wp2
       exact ⟨rfl, He3.out, .inr ⟨11, by decide, rfl, by rw [HU2.out], fun h => absurd h (by decide), HK3.out⟩⟩
      ·have HU2 := Lib.hid (HU.out.trans (if_neg hsum))
       have hne : ((m : Int) != (sum PP : Int)) = false := by have := Hm4.out; rw [bne_eq_false_iff_eq]; omega
       clear hsum
       have Hlt3 := Lib.hid HK3.out.size
       have hrc3 := Hr3.out.cell
       go_wp2
       go_region_with ((first
        | (go_at_call 185; refine (left_any B g bs (k + n + 4) _ (by exact HR3.out)).mono ?_; rintro e w' ⟨rfl, N2, rfl⟩)
        | (go_at_call 186; refine (takeZ B g bs (k + n + 4) (bs.length - (k + n + 4)) _ rfl _ (by exact HR3.out) (by omega)).mono ?_; rw [HL3.out]; rintro e w4 ⟨A4, c4, rfl, -, how4, hR4, hK4⟩; have Hs4 := Lib.hid (Box.kept (b := sb) (v := .slice none 0 0) (t := 75) (by exact Hs3.out) hK4 (by have := H.out.ltB; simp; omega)); have hsc := Hs4.out.cell; have hsf := Hs4.out.free; have How4 := Lib.hid how4; have HK4 := Lib.hid hK4; clear how4 hR4 hK4)))
       all_goals
        go_end0
        have hn := Hn.out
        have hl := Hlt.out
        have hgB := H.out.ltB
        have Hp4 : Box w4 pb (.slice A1 n c1) 75 := Box.kept (w := w3) Hp3.out (by exact ⟨HK4.out.os, HK4.out.tape, HK4.out.output, HK4.out.size, HK4.out.block⟩ : Kept [g] w3 w4) (by simp; omega)
        have He4 : Box w4 eb (.int .i64 0) 37 := Box.kept (w := w3) He3.out (by exact ⟨HK4.out.os, HK4.out.tape, HK4.out.output, HK4.out.size, HK4.out.block⟩ : Kept [g] w3 w4) (by simp; omega)
        have K4 : Kept [g] w3 w4 := ⟨HK4.out.os, HK4.out.tape, HK4.out.output, HK4.out.size, HK4.out.block⟩
        have HO4 : Own w4 w.heap.size (.slice A1 n c1) PP := HO3.out.kept K4 (fun x hx => by have h5 := HO3.out.block_ge x hx; simp; omega)
        have hw4 : w.heap.size ≤ w4.heap.size := Nat.le_trans HK3.out.size K4.size
        refine ⟨He4.far (by show eb ≠ sb; omega) _, closeU (n := n) (r := bs.length - (k + n + 4)) HU2.out HPl.out HLl.out (Hp4.far (by show pb ≠ sb; omega) _) (HO4.kept (rows := [sb]) ((Kept.refl _ w4).setCell (.inl (by simp)) _) (fun x hx => by have h5 := HO4.block_ge x hx; simp; omega)) (Hs4.out.set_ _)
         (How4.out.kept (rows := [sb]) ((Kept.refl _ w4).setCell (.inl (by simp)) _) (fun x hx => by have h5 := How4.out.block_ge x hx; have h6 : w3.heap.size ≤ x := h5; have h7 := HK3.out.size; simp; omega)) HK3.out.size ((HK3.out.trans K4 (fun x hx => .inl (by simp at hx; simp [hx]))).setCell (.inl (by simp)) _)⟩
end Go.Proofs.YtpdedfpacklnoaaGreatDoor.W
namespace Go.Wr
set_option maxRecDepth 100000
theorem unframe_bad {bs : List Nat} (h : (unframe bs).2.2 ≠ 0) : (unframe bs).1 = [] ∧ (unframe bs).2.1 = [] := by
 unfold unframe at h ⊢
 cases hn : num bs 0 0 with
 | bad c => exact ⟨rfl, rfl⟩
 | got n k =>
  rw [hn] at h
  by_cases h1 : 65536 < n
  ·simp only [if_pos h1]; exact ⟨trivial, trivial⟩
  ·by_cases h2 : bs.length - k < n + 4
   ·simp only [if_neg h1, if_pos h2]; exact ⟨trivial, trivial⟩
   ·by_cases h3 : val4 ((bs.drop (k + n)).take 4) ≠ sum ((bs.drop k).take n)
    ·simp only [if_neg h1, if_neg h2, if_pos h3]; exact ⟨trivial, trivial⟩
    ·simp only [if_neg h1, if_neg h2, if_neg h3] at h; exact absurd rfl h
end Go.Wr
namespace Go.Proofs.YtpdedfpacklnoaaGreatDoor.W
open Go.RowKit Go.BL Go.Wr
/-- What Unframe leaves: two new rows and an error. -/
def RetU (r : List Nat × List Nat × Nat) (w : World) (e : Ending) (w' : World) : Prop :=
 ∃ A1 c1 A2 c2, e = .returned (.tuple #[.slice A1 r.1.length c1, .slice A2 r.2.1.length c2, .int .i64 (r.2.2 : Int)]) ∧ Own w' w.heap.size (.slice A1 r.1.length c1) r.1 ∧ Own w' w.heap.size (.slice A2 r.2.1.length c2) r.2.1 ∧ Below w.heap.size w w'
theorem unframeP (g : Nat) (bs : List Nat) (w : World) (h : Rdr w w.heap.size g bs 0) :
  Calls Tryz.prog 181 #[.func (.func 182) #[] #[.pointer (some ⟨w.heap.size, 0, none⟩), .pointer (some ⟨w.heap.size + 1, 0, none⟩), .pointer (some ⟨w.heap.size + 1 + 1, 0, none⟩)]]
   (((w.alloc (.cells #[.pointer (some ⟨g, 0, none⟩)] 231)).alloc (.cells #[.slice none 0 0] 75)).alloc (.cells #[.slice none 0 0] 75))
   fun e w' => e = .returned (.int .i64 ((unframe bs).2.2 : Int)) ∧ ((unframe bs).2.2 = 0 → ∃ A1 c1 A2 c2, Box w' (w.heap.size + 1) (.slice A1 (unframe bs).1.length c1) 75 ∧ Own w' w.heap.size (.slice A1 (unframe bs).1.length c1) (unframe bs).1 ∧ Box w' (w.heap.size + 1 + 1) (.slice A2 (unframe bs).2.1.length c2) 75 ∧ Own w' w.heap.size (.slice A2 (unframe bs).2.1.length c2) (unframe bs).2.1) ∧ Kept [g] w w' := by
 have hlt := h.lt
 refine (try42 _ _ (RUf g bs (w.heap.size + 1) (w.heap.size + 1 + 1) _) ((unframeC w.heap.size g bs w.heap.size (w.heap.size + 1) (w.heap.size + 1 + 1) _ _ ((((h.alloc _).alloc _).alloc _).alloc _) ((((boxAt rfl _ _).alloc _).alloc _).alloc _) (((boxAt (by simp) _ _).alloc _).alloc _) ((boxAt (by simp) _ _).alloc _) (boxAt rfl _ _) (by omega) (by omega) (by omega) (by simp; omega) (by omega)))).mono ?_
 rintro e w' ⟨n, w1, rfl, hR, hk⟩
 obtain ⟨rfl, hok, hk1⟩ := hR
 have hsz := hk1.size
 simp only [World.size_alloc] at hsz
 refine ⟨rfl, fun h0 => ?_, ?_⟩
 ·obtain ⟨A1, c1, A2, c2, b1, o1, b2, o2⟩ := hok h0
  have hne : ∀ (v : Value) (bs : List Nat), Own w1 ((((w.alloc (.cells #[.pointer (some ⟨g, 0, none⟩)] 231)).alloc (.cells #[.slice none 0 0] 75)).alloc (.cells #[.slice none 0 0] 75)).alloc (.cells #[.int .i64 0] 37)).heap.size v bs → Own w' w.heap.size v bs := by
   intro v bs ho
   refine (ho.kept hk (fun x hx => ?_)).base (by simp; omega)
   have := ho.block_ge x hx
   simp only [World.size_alloc] at this
   simp; omega
  exact ⟨A1, c1, A2, c2, b1.kept hk (by simp), hne _ _ o1, b2.kept hk (by simp), hne _ _ o2⟩
 ·have k1 : Kept [g] w w1 := (((((Kept.refl [g] w).alloc _).alloc _).alloc _).alloc _).trans hk1 (fun x hx => by simp at hx ⊢; omega)
  exact k1.trans hk (fun x hx => by simp at hx ⊢; omega)
set_option maxRecDepth 100000 in
theorem unframe_any (A : Option Addr) (m cap : Nat) (bs : List Nat) (w : World) (hr : Rd w A m bs) (hm : m ≤ 140737488355000) : Calls Tryz.prog 135 #[.slice A m cap] w (RetU (unframe bs) w) := by
 have hmf : ∀ (fn : Fn) (first cap : Array Value) (w : World), (Instr.makeFunc fn first cap).run Tryz.prog w = .ok (.func fn first cap) w := fun _ _ _ _ => rfl
 have Hr := Lib.hid hr
 clear hr
 go_enter Tryz.func135, Tryz.ntmps135
 go_wp2_with fail
 refine (over_rdr A m cap bs _ Hr.out hm).mono ?_
 rintro e w1 ⟨g, rfl, hg, hR, hb, -⟩
 have HR := Lib.hid hR
 have Hb := Lib.hid hb
 have Hg := Lib.hid hg
 clear hR hb hg
 go_wp2_with fail
 refine (unframeP g bs w1 HR.out).mono ?_
 rintro e w2 ⟨rfl, hok, hk⟩
 have HB : Hid (Below w.heap.size w w2) := Lib.hid (Hb.out.trans (hk.below Hb.out.size (fun x hx => by have := Hg.out; simp at hx; omega)))
 by_cases h0 : (unframe bs).2.2 = 0
 ·obtain ⟨A1, c1, A2, c2, b1, o1, b2, o2⟩ := hok h0
  have H0 := Lib.hid h0
  have O1 := Lib.hid (o1.base Hb.out.size)
  have O2 := Lib.hid (o2.base Hb.out.size)
  have hc1 := b1.cell
  have hc2 := b2.cell
  clear hok hk o1 o2 b1 b2
  rw [h0]
  clear h0
  go_wp2
  go_quiet (fail)
  go_wp2
  go_ret3
  exact ⟨A1, c1, A2, c2, by rw [H0.out]; first | rfl | (rw [Int.max_eq_right (by omega)]; rfl), O1.out, O2.out, H.below_drewN HB.out _⟩
 ·have hne : (((unframe bs).2.2 : Int) != 0) = true := bne_iff_ne.2 (by omega)
  have HU := Lib.hid (unframe_bad h0)
  clear hok hk h0
  go_wp2
  go_ret3
  unfold RetU
  rw [HU.out.1, HU.out.2]
  exact ⟨none, 0, none, 0, rfl, Own.nil _ _, Own.nil _ _, HB.out⟩
end Go.Proofs.YtpdedfpacklnoaaGreatDoor.W
namespace Go.BL
set_option maxRecDepth 100000
open Go.RowKit
section
variable {P : Program} {w : World}
end
end Go.BL
