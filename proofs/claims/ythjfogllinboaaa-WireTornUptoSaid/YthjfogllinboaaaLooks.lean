/- The looks of WireReads that came in. -/
import Derived.Test.YthjfogllinboaaaOpen
import Derived.Test.YthjfogllinboaaaKept
import Derived.Deep.Slices
import Derived.Deep.Fields
import Derived.SizedLaws
namespace Go.Proofs.Ythjfogllinboaaa
open Go.ChangeShapes Go.WideShapes Go.Deep Go.BL Go.RowKit
/-- A slice of n looks: two numbers each. -/
def Lk (w : World) (A : Option Addr) (n : Nat) : Prop :=
  n ≤ maxLen ∧ (0 < n → ∃ b off, A = some ⟨b, off, none⟩ ∧ b < w.heap.size ∧ ∀ k, k < n → ∃ op most : Int, w.cell? ⟨b, off + k * 2, none⟩ = some (.int .i64 op) ∧ w.cell? ⟨b, off + k * 2 + 1, none⟩ = some (.int .i64 most))
theorem Lk.below {w w' : World} {A : Option Addr} {n B : Nat} (h : Lk w A n) (hb : Below B w w') (hB : w.heap.size ≤ B) : Lk w' A n := by
  refine ⟨h.1, fun hn => ?_⟩
  obtain ⟨b, off, e, hlt, hc⟩ := h.2 hn
  refine ⟨b, off, e, Nat.lt_of_lt_of_le hlt hb.size, fun k hk => ?_⟩
  obtain ⟨op, most, h1, h2⟩ := hc k hk
  exact ⟨op, most, (hb.cell (p := ⟨b, off + k * 2, none⟩) (by show b < B; omega)).trans h1, (hb.cell (p := ⟨b, off + k * 2 + 1, none⟩) (by show b < B; omega)).trans h2⟩
section
variable {H : Type} {enc : TypeId × Value → H} {P : Program} {w : World} {base : Nat} {spare : Nat → Bool} {held : Bool}
theorem open_slice_fields {t e : TypeId} {fs : Array Field} {fuel : Nat} {cs : List Value} {x : DataW H × List MemPlace} (ht : P.underlying t = some (.slice e)) (he : P.underlying e = some (.struct fs))
    (hone : oneCellFields P fs = true) (hC : P.cellsOf e = fs.size) (h : DataW.trod enc P w base spare held fuel t cs = some x) :
    (cs = [.slice none 0 0] ∧ x = (.nil, [])) ∨
    ∃ (a : Addr) (len cap m : Nat) (D : Nat → DataW H) (Pl : Nat → List MemPlace), cs = [.slice (some a) len cap] ∧ base ≤ a.block ∧ len ≤ cap ∧ cap ≤ maxLen ∧ m = (if spare a.block then cap else len) ∧
      x = (.slice ((List.range len).map D) ((List.range (m - len)).map fun j => D (len + j)), MemPlace.row a (m * fs.size) ++ (List.range m).flatMap Pl) ∧
      ∀ i, i < m → ∃ (ys : List (DataW H × List MemPlace)) (n : Nat), D i = .agg (ys.map (·.1)) ∧ Pl i = ys.flatMap (·.2) ∧ ys.length = fs.size ∧
        ∀ (j : Nat) (f : Field), fs[j]? = some f → ∃ (v : Value) (y : DataW H × List MemPlace), w.cell? (a.add (i * fs.size + j)) = some v ∧ ys[j]? = some y ∧ DataW.trod enc P w base spare held n f.type [v] = some y := by
  rcases open_slice ht h with h0 | ⟨a, len, cap, m, n, D, Pl, hcs, hb, hl, hm, hmm, hx, hi⟩
  · exact .inl h0
  · refine .inr ⟨a, len, cap, m, D, Pl, hcs, hb, hl, hm, hmm, by rw [hC] at hx; exact hx, fun i him => ?_⟩
    obtain ⟨cs', hc, ht'⟩ := hi i him
    rw [hC] at hc
    obtain ⟨ys, n', hn', hy, hlen, hyl, hf⟩ := DataW.trod_struct he ht'
    obtain ⟨_, hcl, hat⟩ := World.cells?_some hc
    simp only [Prod.mk.injEq] at hy
    refine ⟨ys, n', hy.1, hy.2, hyl, fun j f hj => ?_⟩
    obtain ⟨ho, hk⟩ := hone_of hone j f hj
    have hjl : j < fs.size := (Array.getElem?_eq_some_iff.1 hj).1
    have hcell := hat j hjl
    have hv : cs'[j]? = some (cs'[j]'(by omega)) := List.getElem?_eq_getElem (by omega)
    have h1 := hf j f hj
    rw [ho, hk] at h1
    have hone' : (cs'.drop j).take 1 = [cs'[j]'(by omega)] := by
      rw [List.drop_eq_getElem_cons (by omega)]
      rfl
    rw [hone'] at h1
    have hys : ys[j]? = some (ys[j]'(by omega)) := List.getElem?_eq_getElem (by omega)
    refine ⟨_, _, ?_, hys, h1.trans hys⟩
    rw [← Go.Deep.add_add, hcell, hv]
end
theorem cap_ge {H : Type} {enc : TypeId × Value → H} {P : Program} {W : World} {t e : TypeId} {a : Option Addr} {len cap : Nat} {d : DataW H} {p : List MemPlace}
    (ht : P.underlying t = some (.slice e)) (he : P.underlying e = some (.int .u8)) (hc : P.cellsOf e = 1)
    (h : DataW.Trod enc P W 0 (fun _ => true) true t (.slice a len cap) d p) : len ≤ cap := by
  obtain ⟨fuel, hf⟩ := h
  have hcs : (Value.slice a len cap).cells.toList = [Value.slice a len cap] := rfl
  rcases open_ints ht he hc hf with ⟨h1, _⟩ | ⟨x, l, c, zs, h1, _, hl, _⟩
  · rw [hcs] at h1
    simp only [List.cons.injEq, Value.slice.injEq, and_true] at h1
    omega
  · rw [hcs] at h1
    simp only [List.cons.injEq, Value.slice.injEq, and_true] at h1
    obtain ⟨rfl, rfl, rfl⟩ := h1
    exact hl
theorem open_looks {H : Type} {enc : TypeId × Value → H} {W : World} {a : Option Addr} {len cap : Nat} {d : DataW H} {p : List MemPlace}
    (h : DataW.Trod enc Try.prog W 0 (fun _ => true) true 42 (.slice a len cap) d p) : Lk W a len := by
  obtain ⟨fuel, hf⟩ := h
  have hcs : (Value.slice a len cap).cells.toList = [Value.slice a len cap] := rfl
  rcases open_slice_fields Try.underlying42 Try.underlying47 (by kernel_rfl) (by kernel_rfl) hf with ⟨h1, _⟩ | ⟨x, l, c, m, D, Pl, h1, _, hl, hm, hmm, hx, hi⟩
  · rw [hcs] at h1
    simp only [List.cons.injEq, Value.slice.injEq, and_true] at h1
    obtain ⟨rfl, rfl, rfl⟩ := h1
    exact ⟨by decide, fun h => absurd h (by omega)⟩
  · rw [hcs] at h1
    simp only [List.cons.injEq, Value.slice.injEq, and_true] at h1
    obtain ⟨rfl, rfl, rfl⟩ := h1
    simp only [if_true] at hmm
    subst hmm
    have key : ∀ i, i < len → ∃ op most : Int, W.cell? (x.add (i * 2)) = some (.int .i64 op) ∧ W.cell? (x.add (i * 2 + 1)) = some (.int .i64 most) := by
      intro i hil
      obtain ⟨ys, n, _, _, _, hfields⟩ := hi i (by omega)
      obtain ⟨v0, y0, hc0, _, ht0⟩ := hfields 0 _ rfl
      obtain ⟨v1, y1, hc1, _, ht1⟩ := hfields 1 _ rfl
      obtain ⟨q, e1, _, hq⟩ := DataW.trod_int Try.underlying3 ht0
      obtain ⟨r, e2, _, hr⟩ := DataW.trod_int Try.underlying3 ht1
      simp only [List.cons.injEq, and_true] at e1 e2
      subst e1 e2
      exact ⟨q, r, hc0, hc1⟩
    refine ⟨by omega, fun hpos => ?_⟩
    obtain ⟨b, off, spot⟩ := x
    obtain ⟨op, most, h0, _⟩ := key 0 hpos
    have hspot : spot = none := by simpa [Addr.add] using World.cell?_spot h0
    subst hspot
    refine ⟨b, off, rfl, by simpa [Addr.add] using lt_block h0, fun i hil => ?_⟩
    have h1 := key i hil
    rw [add_none, add_none, ← Nat.add_assoc] at h1
    exact h1
end Go.Proofs.Ythjfogllinboaaa
