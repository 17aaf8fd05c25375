/- Frames of worlds, of no program: which blocks may have turned; blocks of one cell. -/
import Derived.Test.YthjfogllinboaaaBL2
import Derived.OneCell
namespace Go.BL
open Go.RowKit
/-- Of the old blocks none has turned but those of the list. -/
structure Kept (rows : List Nat) (a w : World) : Prop where
  os : w.os = a.os
  tape : w.tape = a.tape
  output : w.output = a.output
  size : a.heap.size ≤ w.heap.size
  block : ∀ b, b < a.heap.size → b ∉ rows → w.heap[b]? = a.heap[b]?
namespace Kept
variable {rows rows' : List Nat} {a b c w w' : World}
theorem refl (rows : List Nat) (w : World) : Kept rows w w := ⟨rfl, rfl, rfl, Nat.le_refl _, fun _ _ _ => rfl⟩
theorem trans (h : Kept rows a b) (k : Kept rows' b c) (hr : ∀ x ∈ rows', x ∈ rows ∨ a.heap.size ≤ x) : Kept rows a c :=
  ⟨k.os.trans h.os, k.tape.trans h.tape, k.output.trans h.output, Nat.le_trans h.size k.size, fun i hi hn => (k.block i (Nat.lt_of_lt_of_le hi h.size) (fun hx => by
    rcases hr i hx with h1 | h1
    · exact hn h1
    · omega)).trans (h.block i hi hn)⟩
theorem then_ (h : Kept rows a b) (k : Kept rows b c) : Kept rows a c := h.trans k (fun _ hx => .inl hx)
theorem mono (h : Kept rows a b) (hr : ∀ x ∈ rows, x ∈ rows' ∨ a.heap.size ≤ x) : Kept rows' a b :=
  ⟨h.os, h.tape, h.output, h.size, fun i hi hn => h.block i hi (fun hx => by
    rcases hr i hx with h1 | h1
    · exact hn h1
    · omega)⟩
theorem drewN (h : Kept rows a w) (n : Nat) : Kept rows a (w.drewN n) := ⟨h.os, h.tape, h.output, h.size, h.block⟩
theorem drew (h : Kept rows a w) : Kept rows a w.drew := ⟨h.os, h.tape, h.output, h.size, h.block⟩
theorem alloc (h : Kept rows a w) (o : Obj) : Kept rows a (w.alloc o) :=
  ⟨h.os, h.tape, h.output, Nat.le_trans h.size (by simp), fun i hi hn => (Below.heap_alloc w o i (Nat.lt_of_lt_of_le hi h.size)).trans (h.block i hi hn)⟩
theorem setCell (h : Kept rows a w) {p : Addr} (hp : p.block ∈ rows ∨ a.heap.size ≤ p.block) (u : Value) : Kept rows a (w.setCell p u) :=
  ⟨h.os, h.tape, h.output, by simpa [World.setCell] using h.size, fun i hi hn => (Below.heap_setCell w p u i (by
    rintro rfl
    rcases hp with hp | hp
    · exact hn hp
    · omega)).trans (h.block i hi hn)⟩
theorem of_below {B : Nat} (h : Below B a w) (hB : a.heap.size ≤ B) : Kept rows a w := ⟨h.os, h.tape, h.output, h.size, fun i hi _ => h.block i (by omega)⟩
theorem below {B : Nat} (h : Kept rows a w) (hB : B ≤ a.heap.size) (hr : ∀ x ∈ rows, B ≤ x) : Below B a w :=
  ⟨h.os, h.tape, h.output, h.size, fun i hi => h.block i (by omega) (fun hx => by have := hr i hx; omega)⟩
theorem of_grown {g : Nat} (h : a.grownBy w (some g)) : Kept [g] a w := ⟨h.os, h.tape, h.output, h.size, fun i hi hn => h.block i hi (fun e => hn (by injection e with e; simp [e]))⟩
theorem nil_below (h : Kept [] a w) : Below a.heap.size a w := h.below (Nat.le_refl _) (fun _ hx => by cases hx)
end Kept
/-- A block of one cell. -/
def Box (w : World) (b : Nat) (v : Value) (t : TypeId) : Prop := w.heap[b]? = some (.cells #[v] t (0, 0))
namespace Box
variable {w w' : World} {b : Nat} {v : Value} {t : TypeId}
theorem lt (h : Box w b v t) : b < w.heap.size := by
  rcases Nat.lt_or_ge b w.heap.size with h' | h'
  · exact h'
  · unfold Box at h; rw [Array.getElem?_eq_none h'] at h; cases h
theorem cell (h : Box w b v t) : w.cell? ⟨b, 0, none⟩ = some v := by rw [cell_of_row w b 0 _ t (0, 0) h]; rfl
theorem free (h : Box w b v t) : w.frozen? ⟨b, 0, none⟩ = false := by
  unfold Box at h; unfold World.frozen?; rw [h]; rfl
theorem new (w : World) (v : Value) (t : TypeId) : Box (w.alloc (.cells #[v] t)) w.heap.size v t := heap_alloc_new w _
theorem kept {rows : List Nat} (h : Box w b v t) (k : Kept rows w w') (hb : b ∉ rows) : Box w' b v t := (k.block b h.lt hb).trans h
theorem alloc (h : Box w b v t) (o : Obj) : Box (w.alloc o) b v t := (Below.heap_alloc w o b h.lt).trans h
theorem set_ (h : Box w b v t) (u : Value) : Box (w.setCell ⟨b, 0, none⟩ u) b u t := by
  unfold Box at h ⊢
  simp [World.setCell, Array.getElem?_modify, h]
theorem far (h : Box w b v t) {p : Addr} (hp : b ≠ p.block) (u : Value) : Box (w.setCell p u) b v t := (Below.heap_setCell w p u b hp).trans h
theorem drewN (h : Box w b v t) (n : Nat) : Box (w.drewN n) b v t := h
end Box
theorem Rd.kept {w w' : World} {A : Option Addr} {n : Nat} {bs : List Nat} {rows : List Nat} (h : Rd w A n bs) (k : Kept rows w w') (hr : ∀ a, A = some a → 0 < n → a.block ∉ rows) : Rd w' A n bs := by
  refine ⟨h.1, h.2.1, h.2.2.1, fun hn => ?_⟩
  obtain ⟨b, off, e, hlt, hc⟩ := h.2.2.2 hn
  refine ⟨b, off, e, Nat.lt_of_lt_of_le hlt k.size, fun i hi => ?_⟩
  exact (World.cell?_of_block (a := ⟨b, off + i, none⟩) (w := w) (w' := w') (k.block b hlt (hr _ e hn))).trans (hc i hi)
theorem Own.kept {w w' : World} {B : Nat} {v : Value} {bs : List Nat} {rows : List Nat} (h : Own w B v bs) (k : Kept rows w w') (hr : ∀ g, v.ownBlock = some g → g ∉ rows) : Own w' B v bs := by
  refine ⟨⟨h.1.1, ?_⟩, h.2⟩
  have hlt := h.lt
  rcases h.1.2 with h0 | ⟨g, cap, cur, hv, hg, hh, r⟩
  · exact .inl h0
  · have e : v.ownBlock = some g := by rw [hv]; rfl
    exact .inr ⟨g, cap, cur, hv, hg, (k.block g (hlt g e) (hr g e)).trans hh, r⟩
theorem Rd.cutIf {w : World} {G : Option Addr} {len c i n : Nat} {bs : List Nat} (h : Rd w G len bs) (hn : i + n ≤ len) (hc : len ≤ c) :
    Rd w (if c = i then G else G.map fun x => x.add i) n ((bs.drop i).take n) := by
  refine ⟨by rw [List.length_take, List.length_drop, h.1]; omega, by have := h.2.1; omega, fun x hx => h.2.2.1 x (List.mem_of_mem_drop (List.mem_of_mem_take hx)), fun hpos => ?_⟩
  obtain ⟨b, off, rfl, hlt, hcell⟩ := h.2.2.2 (by omega)
  rw [if_neg (by omega)]
  refine ⟨b, off + i, by simp [add_none], hlt, fun j hj => ?_⟩
  rw [Nat.add_assoc, hcell (i + j) (by omega)]
  congr 3
  rw [List.getD_eq_getElem?_getD, List.getD_eq_getElem?_getD, List.getElem?_take_of_lt hj, List.getElem?_drop]
theorem Own.len {w : World} {B n : Nat} {v : Value} {bs : List Nat} (h : Own w B v bs) (hn : bs.length = n) : ∃ A cap, v = .slice A n cap ∧ Rd w A n bs ∧ Own w B (.slice A n cap) bs := by
  subst hn
  obtain ⟨A, cap, rfl, hr⟩ := h.rd
  exact ⟨A, cap, rfl, hr, h⟩
theorem Own.setOld {w w1 : World} {g : Nat} {v : Value} {T : List Nat} (hg : g < w.heap.size) (h : Own w1 w.heap.size v T) {p : Addr} (hp : p.block = g) (u : Value) : Own (w1.setCell p u) w.heap.size v T :=
  h.kept (rows := [g]) ((Kept.refl _ w1).setCell (.inl (by simp [hp])) u) (fun k hk hx => by
    have := h.block_ge k hk
    simp only [List.mem_singleton] at hx; omega)
theorem Own.rdOf {w : World} {B n cap : Nat} {A : Option Addr} {bs : List Nat} (h : Own w B (.slice A n cap) bs) (hn : bs.length = n) : Rd w A n bs := by
  obtain ⟨A', cap', e, hr, _⟩ := h.len hn
  injection e with e1 _ _
  subst e1
  exact hr
end Go.BL
