/- Contracts of Node and of the document's Name and Node. Written by program. -/
import Derived.Test.YtikaikleibfkeaaDoorLaid
import Derived.Laws.BytesArg
import Derived.Laws.Rows
namespace Go.Proofs.YtikaikleibfkeaaDoor
open Go.RowKit

/-- The block of the table of names, whole. -/
def NamesB (w : World) : Prop := ∃ t fr, w.heap[0]? = some (.cells #[.string ⟨#[110, 48]⟩, .string ⟨#[110, 49]⟩, .string ⟨#[110, 50]⟩, .string ⟨#[110, 51]⟩, .string ⟨#[110, 52]⟩, .string ⟨#[110, 53]⟩, .string ⟨#[110, 54]⟩, .string ⟨#[110, 55]⟩] t fr)
theorem NamesB.below {w w' : World} (h : NamesB w) (hb : Below w.heap.size w w') : NamesB w' := by
  obtain ⟨t, fr, h⟩ := h
  have h0 : 0 < w.heap.size := by
    rcases Nat.lt_or_ge 0 w.heap.size with h' | h'
    · exact h'
    · rw [Array.getElem?_eq_none h'] at h; cases h
  exact ⟨t, fr, (hb.block 0 h0).trans h⟩
theorem namesB_of_laid {W : World} (h : laidMetH Tryd.prog laidList W) : NamesB W := by
  have h' : laidMet Tryd.prog [("trolley/ident.names", Rows.laid_trolley_ident_names)] W := h
  obtain ⟨ps, ⟨g', t', cs, fuel, p, q, hg', ht', hvar, hd, _, _⟩, _⟩ := h'
  obtain rfl := Option.some.inj (gTab.symm.trans hg')
  obtain rfl := Option.some.inj (gTabType.symm.trans ht')
  have e : cs.toList = eight.map Value.string := cells_of_strs Tryd.underlying45 Tryd.underlying9 cells9 cells45 hd
  have hv : W.var? Tryd.prog "trolley/ident.names" = some (eight.map Value.string).toArray := by
    rw [hvar, ← e]
  unfold World.var? at hv
  rw [gTab] at hv
  simp only [Option.bind_some] at hv
  revert hv
  cases hh : W.heap[0]? with
  | none => intro hv; simp at hv
  | some o =>
    cases o with
    | cells c t fr => intro hv; simp at hv; subst hv; exact ⟨t, fr, by rw [hh]; rfl⟩
    | _ => intro hv; simp at hv
theorem idx_0 (w : World) : (Instr.index 45 (.agg #[.string ⟨#[110, 48]⟩, .string ⟨#[110, 49]⟩, .string ⟨#[110, 50]⟩, .string ⟨#[110, 51]⟩, .string ⟨#[110, 52]⟩, .string ⟨#[110, 53]⟩, .string ⟨#[110, 54]⟩, .string ⟨#[110, 55]⟩]) (.int .i64 0)).run Tryd.prog w = .ok (.string ⟨#[110, 48]⟩) w := by kernel_rfl
theorem idx_1 (w : World) : (Instr.index 45 (.agg #[.string ⟨#[110, 48]⟩, .string ⟨#[110, 49]⟩, .string ⟨#[110, 50]⟩, .string ⟨#[110, 51]⟩, .string ⟨#[110, 52]⟩, .string ⟨#[110, 53]⟩, .string ⟨#[110, 54]⟩, .string ⟨#[110, 55]⟩]) (.int .i64 1)).run Tryd.prog w = .ok (.string ⟨#[110, 49]⟩) w := by kernel_rfl
theorem idx_2 (w : World) : (Instr.index 45 (.agg #[.string ⟨#[110, 48]⟩, .string ⟨#[110, 49]⟩, .string ⟨#[110, 50]⟩, .string ⟨#[110, 51]⟩, .string ⟨#[110, 52]⟩, .string ⟨#[110, 53]⟩, .string ⟨#[110, 54]⟩, .string ⟨#[110, 55]⟩]) (.int .i64 2)).run Tryd.prog w = .ok (.string ⟨#[110, 50]⟩) w := by kernel_rfl
theorem idx_3 (w : World) : (Instr.index 45 (.agg #[.string ⟨#[110, 48]⟩, .string ⟨#[110, 49]⟩, .string ⟨#[110, 50]⟩, .string ⟨#[110, 51]⟩, .string ⟨#[110, 52]⟩, .string ⟨#[110, 53]⟩, .string ⟨#[110, 54]⟩, .string ⟨#[110, 55]⟩]) (.int .i64 3)).run Tryd.prog w = .ok (.string ⟨#[110, 51]⟩) w := by kernel_rfl
theorem idx_4 (w : World) : (Instr.index 45 (.agg #[.string ⟨#[110, 48]⟩, .string ⟨#[110, 49]⟩, .string ⟨#[110, 50]⟩, .string ⟨#[110, 51]⟩, .string ⟨#[110, 52]⟩, .string ⟨#[110, 53]⟩, .string ⟨#[110, 54]⟩, .string ⟨#[110, 55]⟩]) (.int .i64 4)).run Tryd.prog w = .ok (.string ⟨#[110, 52]⟩) w := by kernel_rfl
theorem idx_5 (w : World) : (Instr.index 45 (.agg #[.string ⟨#[110, 48]⟩, .string ⟨#[110, 49]⟩, .string ⟨#[110, 50]⟩, .string ⟨#[110, 51]⟩, .string ⟨#[110, 52]⟩, .string ⟨#[110, 53]⟩, .string ⟨#[110, 54]⟩, .string ⟨#[110, 55]⟩]) (.int .i64 5)).run Tryd.prog w = .ok (.string ⟨#[110, 53]⟩) w := by kernel_rfl
theorem idx_6 (w : World) : (Instr.index 45 (.agg #[.string ⟨#[110, 48]⟩, .string ⟨#[110, 49]⟩, .string ⟨#[110, 50]⟩, .string ⟨#[110, 51]⟩, .string ⟨#[110, 52]⟩, .string ⟨#[110, 53]⟩, .string ⟨#[110, 54]⟩, .string ⟨#[110, 55]⟩]) (.int .i64 6)).run Tryd.prog w = .ok (.string ⟨#[110, 54]⟩) w := by kernel_rfl
theorem idx_7 (w : World) : (Instr.index 45 (.agg #[.string ⟨#[110, 48]⟩, .string ⟨#[110, 49]⟩, .string ⟨#[110, 50]⟩, .string ⟨#[110, 51]⟩, .string ⟨#[110, 52]⟩, .string ⟨#[110, 53]⟩, .string ⟨#[110, 54]⟩, .string ⟨#[110, 55]⟩]) (.int .i64 7)).run Tryd.prog w = .ok (.string ⟨#[110, 55]⟩) w := by kernel_rfl
theorem node_0 (w : World) (hn : NamesB w) : Calls Tryd.prog 14 #[.string ⟨#[110, 48]⟩] w fun e w' => e = .returned (.tuple #[.int .i64 0, .bool true]) ∧ w = w' := by
  obtain ⟨t, fr, hB⟩ := hn
  have i0 := idx_0
  have i1 := idx_1
  have i2 := idx_2
  have i3 := idx_3
  have i4 := idx_4
  have i5 := idx_5
  have i6 := idx_6
  have i7 := idx_7
  have HB := Lib.hid hB
  clear hB
  go_enter Tryd.func14, Tryd.ntmps14
  go_wp2_with (refine wpList_load_row rfl 45 _ rfl 0 rfl t _ fr _ HB.out Tryd.underlying45 rfl (by kernel_rfl) ?_)
  refine wp_loop_rounds 1 ?_
  rw [rounds_succ]
  go_wp2
  go_ret2
  exact ⟨rfl, rfl⟩
theorem node_1 (w : World) (hn : NamesB w) : Calls Tryd.prog 14 #[.string ⟨#[110, 49]⟩] w fun e w' => e = .returned (.tuple #[.int .i64 1, .bool true]) ∧ w = w' := by
  obtain ⟨t, fr, hB⟩ := hn
  have i0 := idx_0
  have i1 := idx_1
  have i2 := idx_2
  have i3 := idx_3
  have i4 := idx_4
  have i5 := idx_5
  have i6 := idx_6
  have i7 := idx_7
  have HB := Lib.hid hB
  clear hB
  go_enter Tryd.func14, Tryd.ntmps14
  go_wp2_with (refine wpList_load_row rfl 45 _ rfl 0 rfl t _ fr _ HB.out Tryd.underlying45 rfl (by kernel_rfl) ?_)
  refine wp_loop_rounds 2 ?_
  rw [rounds_succ]
  go_wp2
  rw [rounds_succ]
  go_wp2
  go_ret2
  exact ⟨rfl, rfl⟩
theorem node_2 (w : World) (hn : NamesB w) : Calls Tryd.prog 14 #[.string ⟨#[110, 50]⟩] w fun e w' => e = .returned (.tuple #[.int .i64 2, .bool true]) ∧ w = w' := by
  obtain ⟨t, fr, hB⟩ := hn
  have i0 := idx_0
  have i1 := idx_1
  have i2 := idx_2
  have i3 := idx_3
  have i4 := idx_4
  have i5 := idx_5
  have i6 := idx_6
  have i7 := idx_7
  have HB := Lib.hid hB
  clear hB
  go_enter Tryd.func14, Tryd.ntmps14
  go_wp2_with (refine wpList_load_row rfl 45 _ rfl 0 rfl t _ fr _ HB.out Tryd.underlying45 rfl (by kernel_rfl) ?_)
  refine wp_loop_rounds 3 ?_
  rw [rounds_succ]
  go_wp2
  rw [rounds_succ]
  go_wp2
  rw [rounds_succ]
  go_wp2
  go_ret2
  exact ⟨rfl, rfl⟩
theorem node_3 (w : World) (hn : NamesB w) : Calls Tryd.prog 14 #[.string ⟨#[110, 51]⟩] w fun e w' => e = .returned (.tuple #[.int .i64 3, .bool true]) ∧ w = w' := by
  obtain ⟨t, fr, hB⟩ := hn
  have i0 := idx_0
  have i1 := idx_1
  have i2 := idx_2
  have i3 := idx_3
  have i4 := idx_4
  have i5 := idx_5
  have i6 := idx_6
  have i7 := idx_7
  have HB := Lib.hid hB
  clear hB
  go_enter Tryd.func14, Tryd.ntmps14
  go_wp2_with (refine wpList_load_row rfl 45 _ rfl 0 rfl t _ fr _ HB.out Tryd.underlying45 rfl (by kernel_rfl) ?_)
  refine wp_loop_rounds 4 ?_
  rw [rounds_succ]
  go_wp2
  rw [rounds_succ]
  go_wp2
  rw [rounds_succ]
  go_wp2
  rw [rounds_succ]
  go_wp2
  go_ret2
  exact ⟨rfl, rfl⟩
theorem node_4 (w : World) (hn : NamesB w) : Calls Tryd.prog 14 #[.string ⟨#[110, 52]⟩] w fun e w' => e = .returned (.tuple #[.int .i64 4, .bool true]) ∧ w = w' := by
  obtain ⟨t, fr, hB⟩ := hn
  have i0 := idx_0
  have i1 := idx_1
  have i2 := idx_2
  have i3 := idx_3
  have i4 := idx_4
  have i5 := idx_5
  have i6 := idx_6
  have i7 := idx_7
  have HB := Lib.hid hB
  clear hB
  go_enter Tryd.func14, Tryd.ntmps14
  go_wp2_with (refine wpList_load_row rfl 45 _ rfl 0 rfl t _ fr _ HB.out Tryd.underlying45 rfl (by kernel_rfl) ?_)
  refine wp_loop_rounds 5 ?_
  rw [rounds_succ]
  go_wp2
  rw [rounds_succ]
  go_wp2
  rw [rounds_succ]
  go_wp2
  rw [rounds_succ]
  go_wp2
  rw [rounds_succ]
  go_wp2
  go_ret2
  exact ⟨rfl, rfl⟩
theorem node_5 (w : World) (hn : NamesB w) : Calls Tryd.prog 14 #[.string ⟨#[110, 53]⟩] w fun e w' => e = .returned (.tuple #[.int .i64 5, .bool true]) ∧ w = w' := by
  obtain ⟨t, fr, hB⟩ := hn
  have i0 := idx_0
  have i1 := idx_1
  have i2 := idx_2
  have i3 := idx_3
  have i4 := idx_4
  have i5 := idx_5
  have i6 := idx_6
  have i7 := idx_7
  have HB := Lib.hid hB
  clear hB
  go_enter Tryd.func14, Tryd.ntmps14
  go_wp2_with (refine wpList_load_row rfl 45 _ rfl 0 rfl t _ fr _ HB.out Tryd.underlying45 rfl (by kernel_rfl) ?_)
  refine wp_loop_rounds 6 ?_
  rw [rounds_succ]
  go_wp2
  rw [rounds_succ]
  go_wp2
  rw [rounds_succ]
  go_wp2
  rw [rounds_succ]
  go_wp2
  rw [rounds_succ]
  go_wp2
  rw [rounds_succ]
  go_wp2
  go_ret2
  exact ⟨rfl, rfl⟩
theorem node_6 (w : World) (hn : NamesB w) : Calls Tryd.prog 14 #[.string ⟨#[110, 54]⟩] w fun e w' => e = .returned (.tuple #[.int .i64 6, .bool true]) ∧ w = w' := by
  obtain ⟨t, fr, hB⟩ := hn
  have i0 := idx_0
  have i1 := idx_1
  have i2 := idx_2
  have i3 := idx_3
  have i4 := idx_4
  have i5 := idx_5
  have i6 := idx_6
  have i7 := idx_7
  have HB := Lib.hid hB
  clear hB
  go_enter Tryd.func14, Tryd.ntmps14
  go_wp2_with (refine wpList_load_row rfl 45 _ rfl 0 rfl t _ fr _ HB.out Tryd.underlying45 rfl (by kernel_rfl) ?_)
  refine wp_loop_rounds 7 ?_
  rw [rounds_succ]
  go_wp2
  rw [rounds_succ]
  go_wp2
  rw [rounds_succ]
  go_wp2
  rw [rounds_succ]
  go_wp2
  rw [rounds_succ]
  go_wp2
  rw [rounds_succ]
  go_wp2
  rw [rounds_succ]
  go_wp2
  go_ret2
  exact ⟨rfl, rfl⟩
theorem node_7 (w : World) (hn : NamesB w) : Calls Tryd.prog 14 #[.string ⟨#[110, 55]⟩] w fun e w' => e = .returned (.tuple #[.int .i64 7, .bool true]) ∧ w = w' := by
  obtain ⟨t, fr, hB⟩ := hn
  have i0 := idx_0
  have i1 := idx_1
  have i2 := idx_2
  have i3 := idx_3
  have i4 := idx_4
  have i5 := idx_5
  have i6 := idx_6
  have i7 := idx_7
  have HB := Lib.hid hB
  clear hB
  go_enter Tryd.func14, Tryd.ntmps14
  go_wp2_with (refine wpList_load_row rfl 45 _ rfl 0 rfl t _ fr _ HB.out Tryd.underlying45 rfl (by kernel_rfl) ?_)
  refine wp_loop_rounds 8 ?_
  rw [rounds_succ]
  go_wp2
  rw [rounds_succ]
  go_wp2
  rw [rounds_succ]
  go_wp2
  rw [rounds_succ]
  go_wp2
  rw [rounds_succ]
  go_wp2
  rw [rounds_succ]
  go_wp2
  rw [rounds_succ]
  go_wp2
  rw [rounds_succ]
  go_wp2
  go_ret2
  exact ⟨rfl, rfl⟩
theorem ne_bytes {l : List UInt8} {s : ByteArray} (h : s ≠ ⟨l.toArray⟩) : (l == s.toList) = false := by
  rw [← Bool.not_eq_true]; intro e
  refine h ?_
  have e1 := eq_of_beq e
  rw [ByteArray.toList_eq] at e1
  obtain ⟨⟨l'⟩⟩ := s
  simp only at e1
  rw [e1]
theorem node_no (s : ByteArray) (w : World) (hn : NamesB w) (hs : ∀ k, k < 8 → s ≠ nm k) : Calls Tryd.prog 14 #[.string s] w fun e w' => e = .returned (.tuple #[.int .i64 0, .bool false]) ∧ w = w' := by
  have f0 : (([110, 48] : List UInt8) == s.toList) = false := ne_bytes (hs 0 (by decide))
  have f1 : (([110, 49] : List UInt8) == s.toList) = false := ne_bytes (hs 1 (by decide))
  have f2 : (([110, 50] : List UInt8) == s.toList) = false := ne_bytes (hs 2 (by decide))
  have f3 : (([110, 51] : List UInt8) == s.toList) = false := ne_bytes (hs 3 (by decide))
  have f4 : (([110, 52] : List UInt8) == s.toList) = false := ne_bytes (hs 4 (by decide))
  have f5 : (([110, 53] : List UInt8) == s.toList) = false := ne_bytes (hs 5 (by decide))
  have f6 : (([110, 54] : List UInt8) == s.toList) = false := ne_bytes (hs 6 (by decide))
  have f7 : (([110, 55] : List UInt8) == s.toList) = false := ne_bytes (hs 7 (by decide))
  clear hs
  obtain ⟨t, fr, hB⟩ := hn
  have i0 := idx_0
  have i1 := idx_1
  have i2 := idx_2
  have i3 := idx_3
  have i4 := idx_4
  have i5 := idx_5
  have i6 := idx_6
  have i7 := idx_7
  have HB := Lib.hid hB
  clear hB
  go_enter Tryd.func14, Tryd.ntmps14
  go_wp2_with (refine wpList_load_row rfl 45 _ rfl 0 rfl t _ fr _ HB.out Tryd.underlying45 rfl (by kernel_rfl) ?_)
  refine wp_loop_rounds 9 ?_
  rw [rounds_succ]
  go_wp2
  rw [rounds_succ]
  go_wp2
  rw [rounds_succ]
  go_wp2
  rw [rounds_succ]
  go_wp2
  rw [rounds_succ]
  go_wp2
  rw [rounds_succ]
  go_wp2
  rw [rounds_succ]
  go_wp2
  rw [rounds_succ]
  go_wp2
  rw [rounds_succ]
  go_wp2
  go_ret2
  exact ⟨rfl, rfl⟩
end Go.Proofs.YtikaikleibfkeaaDoor
