/- Words on memory, of no program: a map keyed by strings that the call has made, as a function; its look-up and its store. -/
import Derived.MapKept
import Derived.Below
import Derived.Laws.NewBlocks
import Derived.Carry
namespace Go.MapFn
open RowKit MapKept
/-- The block r is a map that holds just what f says. -/
def Is (w : World) (r : Nat) (f : List UInt8 → Option Value) : Prop :=
  ∃ (es : Array MapEntry) (clock : Nat), w.heap[r]? = some (.map es clock) ∧ (∀ x ∈ es.toList, IsKey .string x.key) ∧
    (∀ (i j : Nat) (e e' : MapEntry), es[i]? = some e → es[j]? = some e' → e.key = e'.key → i = j) ∧
    ∀ k v, f k = some v ↔ ∃ (i : Nat) (e : MapEntry), es[i]? = some e ∧ e.key = Value.string ⟨k.toArray⟩ ∧ e.val = v
def upd (f : List UInt8 → Option Value) (k : List UInt8) (v : Value) : List UInt8 → Option Value := fun k' => if k' = k then some v else f k'
theorem str_inj {a b : List UInt8} (h : Value.string ⟨a.toArray⟩ = .string ⟨b.toArray⟩) : a = b := by
  injection h with h; injection h with h; simpa using h

variable {P : Program} {w : World} {r : Nat} {f : List UInt8 → Option Value} {mty kt et : TypeId}
theorem Is.new (w : World) : Is (w.alloc (.map #[] 0)) w.heap.size (fun _ => none) :=
  ⟨#[], 0, (heap_alloc w _).1, by simp, by simp, fun k v => by simp⟩
theorem Is.of_block {w' : World} (h : Is w r f) (hb : w'.heap[r]? = w.heap[r]?) : Is w' r f := by
  obtain ⟨es, clock, h1, h2⟩ := h
  exact ⟨es, clock, hb.trans h1, h2⟩
theorem Is.lt (h : Is w r f) : r < w.heap.size := by
  obtain ⟨es, clock, h1, _⟩ := h
  exact (Array.getElem?_eq_some_iff.1 h1).1
theorem Is.below {w' : World} {B : Nat} (h : Is w r f) (hb : Below B w w') (hr : r < B) : Is w' r f := h.of_block (hb.block r hr)
theorem Is.alloc (h : Is w r f) (o : Obj) : Is (w.alloc o) r f := h.of_block (Below.heap_alloc w o r h.lt)
theorem Is.setCell (h : Is w r f) {p : Addr} (hp : p.block ≠ r) (u : Value) : Is (w.setCell p u) r f := h.of_block (Below.heap_setCell w p u r (Ne.symm hp))

theorem Is.look (h : Is w r f) (hm : P.underlying mty = some (.map kt et)) (hd : P.underlying kt = some .string) (z : Value) (hz : ∀ w, (zeroValue et).run P w = .ok z w) (k : List UInt8) :
    (Instr.lookup mty (.map (some r)) (.string ⟨k.toArray⟩) false).run P w = .ok ((f k).getD z) w := by
  obtain ⟨es, clock, hb, hks, _, hf⟩ := h
  have hk : IsKey .string (.string ⟨k.toArray⟩) := by simp [IsKey]
  rcases findNow_spec hk es.toList 0 hks with ⟨h1, h2⟩ | ⟨j, e, h1, h2, h3⟩
  · have hn : f k = none := by
      cases hv : f k with
      | none => rfl
      | some v =>
        obtain ⟨i, e, he, hke, _⟩ := (hf k v).1 hv
        exact absurd hke (h2 e (by rw [Array.mem_toList_iff, Array.mem_iff_getElem?]; exact ⟨i, he⟩))
    rw [hn]
    simp [Instr.lookup, run_underlying hm, MapKept.run_getObj_map hb, MapKept.run_checkKey hd hk, MapKept.run_findKey hd h1, Result.andThen, hz]
  · have hj : es[j]? = some e := by simpa using h2
    have hn : f k = some e.val := (hf k _).2 ⟨j, e, hj, h3, rfl⟩
    rw [hn]
    simp [Instr.lookup, run_underlying hm, MapKept.run_getObj_map hb, MapKept.run_checkKey hd hk, MapKept.run_findKey hd h1, Result.andThen]

theorem Is.store (h : Is w r f) (hm : P.underlying mty = some (.map kt et)) (hd : P.underlying kt = some .string) (k : List UInt8) (v : Value) :
    ∃ w', (Instr.mapUpdate mty (.map (some r)) (.string ⟨k.toArray⟩) v).run P w = .ok () w' ∧ Is w' r (upd f k v) ∧ (∀ r', r' ≠ r → w'.heap[r']? = w.heap[r']?) ∧ w'.os = w.os ∧ w'.tape = w.tape ∧ w'.output = w.output ∧ w'.heap.size = w.heap.size := by
  obtain ⟨es, clock, hb, hks, hu, hf⟩ := h
  have hk : IsKey .string (.string ⟨k.toArray⟩) := by simp [IsKey]
  rcases findNow_spec hk es.toList 0 hks with ⟨h1, h2⟩ | ⟨j, e, h1, h2, h3⟩
  · refine ⟨{ w with heap := w.heap.setIfInBounds r (.map (es.push { key := .string ⟨k.toArray⟩, val := v, born := clock }) (clock + 1)) }, by
      simp [Instr.mapUpdate, run_underlying hm, MapKept.run_getObj_map hb, MapKept.run_checkKey hd hk, MapKept.run_findKey hd h1, MapKept.run_setObj_map _ hb, Result.andThen], ⟨_, _, (heap_set hb).1, ?_, ?_, ?_⟩, (heap_set hb).2, rfl, rfl, rfl, by simp⟩
    · intro x hx
      simp only [Array.toList_push, List.mem_append, List.mem_singleton] at hx
      rcases hx with hx | rfl
      · exact hks x hx
      · exact hk
    · have h2' : ∀ (i : Nat) (e : MapEntry), es[i]? = some e → e.key ≠ .string ⟨k.toArray⟩ := fun i e he => h2 e (by rw [Array.mem_toList_iff, Array.mem_iff_getElem?]; exact ⟨i, he⟩)
      intro i j e e' hi hj hee
      rw [Array.getElem?_push] at hi hj
      split at hi <;> split at hj
      · omega
      · rename_i hi' _; injection hi with hi; subst hi; exact absurd hee.symm (h2' j e' hj)
      · rename_i _ hj'; injection hj with hj; subst hj; exact absurd hee (h2' i e hi)
      · exact hu i j e e' hi hj hee
    · intro k' v'
      have h2' : ∀ (i : Nat) (e : MapEntry), es[i]? = some e → e.key ≠ .string ⟨k.toArray⟩ := fun i e he => h2 e (by rw [Array.mem_toList_iff, Array.mem_iff_getElem?]; exact ⟨i, he⟩)
      unfold upd
      by_cases hkk : k' = k
      · subst hkk
        rw [if_pos rfl]
        constructor
        · intro hv
          injection hv with hv
          exact ⟨es.size, _, by rw [Array.getElem?_push, if_pos rfl], rfl, hv⟩
        · rintro ⟨i, e, hi, hke, rfl⟩
          rw [Array.getElem?_push] at hi
          split at hi
          · injection hi with hi; subst hi; rfl
          · exact absurd hke (h2' i e hi)
      · rw [if_neg hkk, hf]
        constructor
        · rintro ⟨i, e, hi, hke, rfl⟩
          have hlt := (Array.getElem?_eq_some_iff.1 hi).1
          exact ⟨i, e, by rw [Array.getElem?_push, if_neg (by omega)]; exact hi, hke, rfl⟩
        · rintro ⟨i, e, hi, hke, rfl⟩
          rw [Array.getElem?_push] at hi
          split at hi
          · injection hi with hi; subst hi; exact absurd (str_inj hke).symm hkk
          · exact ⟨i, e, hi, hke, rfl⟩
  · have hj : es[j]? = some e := by simpa using h2
    refine ⟨{ w with heap := w.heap.setIfInBounds r (.map (es.modify j fun e => { e with key := .string ⟨k.toArray⟩, val := v }) clock) }, by
      simp [Instr.mapUpdate, run_underlying hm, MapKept.run_getObj_map hb, MapKept.run_checkKey hd hk, MapKept.run_findKey hd h1, hj, h3, MapKept.run_keyThatStays hk, MapKept.run_setObj_map _ hb, Result.andThen], ⟨_, _, (heap_set hb).1, ?_, ?_, ?_⟩, (heap_set hb).2, rfl, rfl, rfl, by simp⟩
    · exact isKey_modify hks _ _ (fun e' he' => by rw [hj] at he'; cases he'; exact h3.symm)
    · intro i i' e1 e2 hi hi' hee
      rw [Array.getElem?_modify] at hi hi'
      have key : ∀ (i : Nat) (e1 : MapEntry), (if j = i then (es[i]?).map (fun e : MapEntry => { e with key := .string ⟨k.toArray⟩, val := v }) else es[i]?) = some e1 → ∃ e0 : MapEntry, es[i]? = some e0 ∧ e1.key = e0.key := by
        intro i e1 hi
        split at hi
        · rename_i hij
          subst hij
          rw [hj] at hi
          injection hi with hi
          subst hi
          exact ⟨e, hj, h3.symm⟩
        · exact ⟨e1, hi, rfl⟩
      obtain ⟨a, ha, hka⟩ := key i e1 hi
      obtain ⟨b, hb', hkb⟩ := key i' e2 hi'
      exact hu i i' a b ha hb' (by rw [← hka, ← hkb, hee])
    · intro k' v'
      unfold upd
      by_cases hkk : k' = k
      · subst hkk
        rw [if_pos rfl]
        constructor
        · intro hv
          injection hv with hv
          exact ⟨j, _, by rw [Array.getElem?_modify, if_pos rfl, hj]; rfl, rfl, hv⟩
        · rintro ⟨i, e1, hi, hke, rfl⟩
          rw [Array.getElem?_modify] at hi
          split at hi
          · rename_i hij
            subst hij
            rw [hj] at hi
            injection hi with hi
            subst hi
            rfl
          · rename_i hij
            exact absurd (hu j i e e1 hj hi (by rw [h3, hke])) hij
      · rw [if_neg hkk, hf]
        constructor
        · rintro ⟨i, e1, hi, hke, rfl⟩
          have hij : j ≠ i := by
            rintro rfl
            rw [hj] at hi
            injection hi with hi
            subst hi
            exact hkk (str_inj (hke.symm.trans h3))
          exact ⟨i, e1, by rw [Array.getElem?_modify, if_neg hij]; exact hi, hke, rfl⟩
        · rintro ⟨i, e1, hi, hke, rfl⟩
          rw [Array.getElem?_modify] at hi
          split at hi
          · rename_i hij
            subst hij
            rw [hj] at hi
            injection hi with hi
            subst hi
            exact absurd (str_inj hke).symm hkk
          · exact ⟨i, e1, hi, hke, rfl⟩
end Go.MapFn
