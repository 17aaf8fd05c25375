/- Words on memory: a row of bytes that a conversion of a string has made (its mark lies behind the row), and appends of strings onto it. -/
import Derived.Test.YtidhemjnchonaaaGreatDoorParse
import Derived.Lib.AppendStr
import Derived.Lib.ConvBytes
namespace Go.Proofs.YtidhemjnchonaaaGreatDoor
open Go.RowKit Go.BL

/-- Nothing frozen lies within so many cells. -/
def Past (fz : Nat × Nat) (n : Nat) : Prop := ∀ k, k < n → ¬ (fz.1 ≤ k ∧ k < fz.2)
theorem storeCells_past (g o : Nat) (t : TypeId) (fz : Nat × Nat) : ∀ (vs : List Value) (i : Nat) (cur : Array Value) (w : World), w.heap[g]? = some (.cells cur t fz) → Past fz cur.size → o + i + vs.length ≤ cur.size → (∀ v ∈ vs, v.oneCell' = true) →
    (storeCells ⟨g, o, none⟩ vs i).run Tryz.prog w = .ok () (w.setRow g (cur.toList.take (o + i) ++ vs ++ cur.toList.drop (o + i + vs.length)).toArray)
  | [], i, cur, w, hg, _, _, _ => by
    simp only [storeCells, List.append_nil, List.length_nil, Nat.add_zero, List.take_append_drop, Array.toArray_toList]
    rw [setRow_self w g cur t fz hg]
    rfl
  | v :: rest, i, cur, w, hg, hp, hl, h1 => by
    have hi : o + i < cur.size := by simp at hl; omega
    have hadd : (⟨g, o, none⟩ : Addr).add i = ⟨g, o + i, none⟩ := add_none _ _ _
    have hcell : w.cell? ⟨g, o + i, none⟩ = some cur[o + i] := by simp [World.cell?, hg, hi]
    have hfro : w.frozen? ⟨g, o + i, none⟩ = false := by
      have := hp (o + i) hi
      obtain ⟨lo, hi'⟩ := fz
      simp only [World.frozen?, hg]
      rw [Bool.eq_false_iff]
      intro h
      simp only [Bool.and_eq_true, decide_eq_true_eq] at h
      exact this h
    have hst : (store ((⟨g, o, none⟩ : Addr).add i) v).run Tryz.prog w = .ok () (w.setRow g (cur.setIfInBounds (o + i) v)) := by
      rw [hadd, run_store Tryz.prog w _ v _ (h1 v (by simp)), hcell]
      simp [hfro, setCell_eq_setRow w g (o + i) cur t fz v hg]
    have ih := storeCells_past g o t fz rest (i + 1) (cur.setIfInBounds (o + i) v) (w.setRow g (cur.setIfInBounds (o + i) v)) (setRow_heap w g cur _ t _ hg) (by simpa using hp) (by simp at hl ⊢; omega) (fun x hx => h1 x (by simp [hx]))
    simp only [storeCells, Sem.run_bind, hst, Result.andThen_ok, ih, setRow_setRow]
    congr 3
    have e := list_seg_step cur.toList (o + i) v rest (by simp at hl ⊢; omega)
    simpa [Array.toList_setIfInBounds, Nat.add_assoc] using e
/-- The value is a row of the call's own (behind base) that holds these bytes. -/
def OwnM (w : World) (B : Nat) (v : Value) (bs : List UInt8) : Prop :=
  ∃ (g cap : Nat) (cur : Array Value) (fz : Nat × Nat), v = .slice (some ⟨g, 0, none⟩) bs.length cap ∧ B ≤ g ∧ w.heap[g]? = some (.cells cur 5 fz) ∧ Past fz cur.size ∧ bs.length ≤ cap ∧ cap ≤ maxLen ∧ cur.size = cap ∧ cur.toList.take bs.length = Lib.strCells ⟨bs.toArray⟩
theorem OwnM.lt {w : World} {g : Nat} {o : Obj} (h : w.heap[g]? = some o) : g < w.heap.size := by
  rcases Nat.lt_or_ge g w.heap.size with h' | h'
  · exact h'
  · rw [Array.getElem?_eq_none h'] at h; cases h
theorem OwnM.below {w w' : World} {B C : Nat} {v : Value} {bs : List UInt8} (h : OwnM w B v bs) (hb : Below C w w') (hC : w.heap.size ≤ C) : OwnM w' B v bs := by
  obtain ⟨g, cap, cur, fz, hv, hg, hh, r⟩ := h
  exact ⟨g, cap, cur, fz, hv, hg, (hb.block g (by have := OwnM.lt hh; omega)).trans hh, r⟩
theorem OwnM.form {w : World} {B : Nat} {v : Value} {bs : List UInt8} (h : OwnM w B v bs) : ∃ A c, v = .slice A bs.length c := by
  obtain ⟨g, cap, cur, fz, rfl, _⟩ := h
  exact ⟨_, _, rfl⟩
theorem str_at (bs : List UInt8) (i : Nat) (h : i < bs.length) : (Lib.strCells ⟨bs.toArray⟩)[i]? = some (.int .u8 (bs[i].toNat : Int)) := by
  simp [Lib.strCells, h]
theorem OwnM.cell {w : World} {g : Nat} {cur : Array Value} {fz : Nat × Nat} {bs : List UInt8} (hh : w.heap[g]? = some (.cells cur 5 fz)) (ht : cur.toList.take bs.length = Lib.strCells ⟨bs.toArray⟩) :
    ∀ j u, (Lib.strCells ⟨bs.toArray⟩)[j]? = some u → w.cell? ((⟨g, 0, none⟩ : Addr).add j) = some u := by
  intro j u hu
  rw [add_none, Nat.zero_add, cell_of_row w g j cur 5 fz hh]
  rw [← ht, List.getElem?_take] at hu
  split at hu
  · simpa using hu
  · cases hu
theorem OwnM.bsl {w : World} {B : Nat} {v : Value} {bs : List UInt8} (h : OwnM w B v bs) (hb : bs.length ≤ 4294967280) : Bsl w v bs := by
  obtain ⟨g, cap, cur, fz, rfl, hg, hh, hp, hn, hm, hs, ht⟩ := h
  refine ⟨hb, .inr ⟨g, 0, cap, rfl, hn, OwnM.lt hh, fun i hi => ?_⟩⟩
  have := OwnM.cell hh ht i _ (str_at bs i hi)
  rw [add_none] at this
  exact this
theorem OwnM.conv (bs : List UInt8) (hb : bs.length ≤ 1000000000000) (w : World) : ∃ v w', (convert 9 28 (.string ⟨bs.toArray⟩)).run Tryz.prog w = .ok v w' ∧ OwnM w' w.heap.size v bs ∧ Below w.heap.size w w' := by
  have hge := grownCap_ge w bs.length 0 5
  refine ⟨_, _, Lib.run_convert_string_bytes w 9 28 5 ⟨bs.toArray⟩ Tryz.underlying9 Tryz.underlying28 Tryz.underlying5, ⟨w.heap.size, _, _, _, rfl, Nat.le_refl _, Lib.bytesWorld_at_new w 5 _, fun k hk h => by have := h.1; simp only at this; omega, hge, grownCap_le_maxLen w bs.length 0 5 (by unfold maxLen; omega), ?_, ?_⟩, Lib.bytesWorld_below w 5 _⟩
  · simp only [Lib.bytesCells, Array.size_append, Array.size_map, Array.size_replicate, List.size_toArray]
    show bs.length + (grownCap w bs.length 0 5 - bs.length) = grownCap w bs.length 0 5
    omega
  · simp [Lib.bytesCells, Lib.strCells]
theorem info5' : (Tryz.prog.info? 5).map (fun i => (i.zero, i.size, i.bytes)) = some (some (.int .u8 0), 1, 1) := by kernel_rfl
theorem strCells_app (a b : List UInt8) : Lib.strCells ⟨(a ++ b).toArray⟩ = Lib.strCells ⟨a.toArray⟩ ++ Lib.strCells ⟨b.toArray⟩ := by
  simp [Lib.strCells]
theorem run_appM {w : World} {B : Nat} {v : Value} {bs cs : List UInt8} (h : OwnM w B v bs) (hl : bs.length + cs.length ≤ 140737488355328) (hB : B ≤ w.heap.size) (ty : TypeId) :
    ∃ v' w', (Builtin.append_ #[28, 9] ty #[v, .string ⟨cs.toArray⟩]).run Tryz.prog w = .ok v' w' ∧ OwnM w' B v' (bs ++ cs) ∧ Below B w w' := by
  obtain ⟨g, cap, cur, fz, rfl, hg, hh, hp, hn, hm, hs, ht⟩ := h
  obtain ⟨i, hi, hz, hs1, hb1⟩ := info_parts info5'
  have hsz : (⟨cs.toArray⟩ : ByteArray).size = cs.length := rfl
  have hcl : (Lib.strCells ⟨cs.toArray⟩).length = cs.length := Lib.strCells_length _
  have hbl : (Lib.strCells ⟨bs.toArray⟩).length = bs.length := Lib.strCells_length _
  by_cases hroom : bs.length + cs.length ≤ cap
  · have hf := Lib.run_firstCells_string (P := Tryz.prog) w 1 ⟨cs.toArray⟩
    have hst := storeCells_past g bs.length 5 fz (Lib.strCells ⟨cs.toArray⟩) 0 cur w hh hp (by rw [hcl]; omega) (Lib.strCells_oneCell _)
    simp only [Nat.add_zero, hcl] at hst
    have hr : (Builtin.append_ #[28, 9] ty #[.slice (some ⟨g, 0, none⟩) bs.length cap, .string ⟨cs.toArray⟩]).run Tryz.prog w =
        .ok (.slice (some ⟨g, 0, none⟩) (bs.length + cs.length) cap) (w.setRow g (cur.toList.take bs.length ++ Lib.strCells ⟨cs.toArray⟩ ++ cur.toList.drop (bs.length + cs.length)).toArray) := by
      rw [hsz] at hf
      have hroom' : bs.length + cs.length ≤ cap := hroom
      simp [Builtin.append_, run_underlying Tryz.underlying28, run_underlying Tryz.underlying9, sizeOf, typeInfo, hi, hs1, Builtin.lenOf, hsz, hroom', hf, Addr.add_lit, hst]
    refine ⟨_, _, hr, ⟨g, cap, _, fz, by rw [List.length_append], hg, setRow_heap w g cur _ 5 _ hh, ?_, by rw [List.length_append]; exact hroom, hm, ?_, ?_⟩, ?_⟩
    · intro k hk
      refine hp k ?_
      simp only [List.size_toArray, List.length_append, List.length_take, List.length_drop, Array.length_toList, hcl] at hk
      omega
    · simp only [List.size_toArray, List.length_append, List.length_take, List.length_drop, Array.length_toList, hcl]
      omega
    · rw [ht, strCells_app, List.length_append]
      show ((Lib.strCells ⟨bs.toArray⟩ ++ Lib.strCells ⟨cs.toArray⟩ ++ _)).take _ = _
      rw [List.take_append_of_le_length (by rw [List.length_append, hbl, hcl]; exact Nat.le_refl _), List.take_of_length_le (by rw [List.length_append, hbl, hcl]; exact Nat.le_refl _)]
    · exact ⟨rfl, rfl, rfl, by simp, fun k hk => setRow_other w g k _ (by omega)⟩
  · have hr := Lib.run_append_grow_string (P := Tryz.prog) w 28 9 ty 5 i (.int .u8 0) Tryz.underlying28 Tryz.underlying9 hi hz ⟨g, 0, none⟩ bs.length cap (Lib.strCells ⟨bs.toArray⟩) (by rw [hs1, hbl, Nat.mul_one]) (OwnM.cell hh ht) ⟨cs.toArray⟩ (by rw [hsz]; omega) (by rw [hsz]; omega) (by rw [hb1]; exact growslice_fits (by rw [hsz]; omega) (by rw [hsz]; omega))
    have hge := grownCap_ge w (bs.length + cs.length) cap 5
    have hcm2 : grownCap w (bs.length + cs.length) cap 5 ≤ maxLen := grownCap_le_maxLen w (bs.length + cs.length) cap 5 (by unfold maxLen; omega)
    rw [hsz] at hr
    refine ⟨_, _, hr, ⟨w.heap.size, _, _, (0, 0), by rw [List.length_append], hB, heap_alloc_new w.drew _, fun k _ h => absurd h.2 (Nat.not_lt_zero _), by rw [List.length_append]; exact hge, hcm2, ?_, ?_⟩, ?_⟩
    · have hz1 : (Value.int IntKind.u8 0).cells.size = 1 := rfl
      simp only [Array.size_append, List.size_toArray, size_zeroCells, hz1, hbl, hcl]
      omega
    · simp only [Array.toList_append, List.append_assoc]
      rw [strCells_app, ← List.append_assoc, List.length_append]
      rw [List.take_append_of_le_length (by rw [List.length_append, hbl, hcl]; exact Nat.le_refl _), List.take_of_length_le (by rw [List.length_append, hbl, hcl]; exact Nat.le_refl _)]
    · exact ((Below.refl B w).drew).alloc (by exact hB) _
/-- append(b, s...). -/
theorem wpList_appM {w : World} {ops : Array Oper} {rest : List Oper} {o : Oper} {a : Act} {Q : Exit → Act → World → Prop} (hgd : o.guard = none) (sl x : Operand)
    (ho : o.op = .call { callee := .builtin .append, args := #[sl, x], argTypes := #[28, 9] })
    {B : Nat} {v : Value} {bs cs : List UInt8} (hs : a.eval sl = v) (hown : OwnM w B v bs) (hx : a.eval x = .string ⟨cs.toArray⟩)
    (hl : bs.length + cs.length ≤ 140737488355328) (hB : B ≤ w.heap.size)
    (h : ∀ v' w', OwnM w' B v' (bs ++ cs) → Below B w w' → wpList Tryz.prog ops Q rest (a.put o.dst v') w') : wpList Tryz.prog ops Q (o :: rest) a w := by
  refine wpList_plain hgd fun K hK => ?_
  obtain ⟨v', w', hr, h2, h3⟩ := run_appM hown (cs := cs) hl hB o.type
  unfold Oper.wp execOp
  simp only [ho, resolve, invoke, builtin, Sem.run_bind, Sem.run_pure, Result.andThen_ok, List.map_toArray, List.map_cons, List.map_nil, hs, hx, hr]
  exact hK _ _ (h v' w' h2 h3)
end Go.Proofs.YtidhemjnchonaaaGreatDoor
