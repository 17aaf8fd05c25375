/- Words on memory: a row of texts of the call's own, an append of one text onto it; an append of one header, as an operation of a list. -/
import Derived.Test.YtidhemjnchonaaaGreatDoorHap
namespace Go.Proofs.YtidhemjnchonaaaGreatDoor
open Go.RowKit Go.BL

def txs (ls : List (List UInt8)) : List Value := ls.map fun x => .string ⟨x.toArray⟩
theorem txs_one (ls : List (List UInt8)) : ∀ u ∈ txs ls, u.oneCell' = true := by
  intro u hu
  simp only [txs, List.mem_map] at hu
  obtain ⟨b, _, rfl⟩ := hu
  rfl
theorem txs_at (ls : List (List UInt8)) (i : Nat) (h : i < ls.length) : (txs ls)[i]? = some (.string ⟨ls[i].toArray⟩) := by
  simp [txs, h]
/-- The value is a slice that reads as these texts. -/
def Txts (w : World) (v : Value) (ls : List (List UInt8)) : Prop :=
  ∃ A c, v = .slice A ls.length c ∧ ls.length ≤ c ∧ (0 < ls.length → ∃ b off, A = some ⟨b, off, none⟩ ∧ b < w.heap.size ∧ ∀ i (h : i < ls.length), w.cell? ⟨b, off + i, none⟩ = some (.string ⟨ls[i].toArray⟩))
theorem Txts.below {w w' : World} {v : Value} {ls : List (List UInt8)} {B : Nat} (h : Txts w v ls) (hb : Below B w w') (hB : w.heap.size ≤ B) : Txts w' v ls := by
  obtain ⟨A, c, rfl, hc, h1⟩ := h
  refine ⟨A, c, rfl, hc, fun hn => ?_⟩
  obtain ⟨b, off, rfl, hlt, hc⟩ := h1 hn
  exact ⟨b, off, rfl, Nat.lt_of_lt_of_le hlt hb.size, fun i hi => (hb.cell (show b < B by omega)).trans (hc i hi)⟩
/-- The value is a row of the call's own (behind base) that holds these texts. -/
def OwnS (w : World) (B : Nat) (v : Value) (ls : List (List UInt8)) : Prop := w.ownsRow B 9 1 v ls.length (txs ls)
theorem OwnS.nil (w : World) (B : Nat) : OwnS w B (.slice none 0 0) [] := ⟨rfl, .inl ⟨rfl, rfl⟩⟩
theorem OwnS.below {w w' : World} {B C : Nat} {v : Value} {ls : List (List UInt8)} (h : OwnS w B v ls) (hb : Below C w w') (hC : w.heap.size ≤ C) : OwnS w' B v ls := by
  refine ⟨h.1, ?_⟩
  rcases h.2 with h0 | ⟨g, cap, cur, hv, hg, hh, r⟩
  · exact .inl h0
  · have hlt : g < w.heap.size := by
      rcases Nat.lt_or_ge g w.heap.size with h' | h'
      · exact h'
      · rw [Array.getElem?_eq_none h'] at hh; cases hh
    exact .inr ⟨g, cap, cur, hv, hg, (hb.block g (by omega)).trans hh, r⟩
theorem OwnS.alloc {w : World} {B : Nat} {v : Value} {ls : List (List UInt8)} (h : OwnS w B v ls) (o : Obj) : OwnS (w.alloc o) B v ls := h.below ((Below.refl w.heap.size w).alloc (Nat.le_refl _) o) (Nat.le_refl _)
theorem OwnS.block_ge {w : World} {B : Nat} {v : Value} {ls : List (List UInt8)} (h : OwnS w B v ls) : ∀ k, v.ownBlock = some k → B ≤ k := by
  intro k hk
  rcases h.2 with ⟨rfl, _⟩ | ⟨g, cap, cur, rfl, hg, _⟩
  · cases hk
  · simp only [Value.ownBlock, Option.some.injEq] at hk; omega
theorem OwnS.txts {w : World} {B : Nat} {v : Value} {ls : List (List UInt8)} (h : OwnS w B v ls) : Txts w v ls := by
  rcases h.2 with ⟨rfl, h0⟩ | ⟨g, cap, cur, rfl, hg, hh, hn, _⟩
  · rw [List.eq_nil_of_length_eq_zero h0]
    exact ⟨none, 0, rfl, Nat.le_refl _, fun hn => absurd hn (by decide)⟩
  · refine ⟨_, cap, rfl, hn, fun _ => ⟨g, 0, rfl, ?_, fun i hi => ?_⟩⟩
    · rcases Nat.lt_or_ge g w.heap.size with h' | h'
      · exact h'
      · rw [Array.getElem?_eq_none h'] at hh; cases hh
    · have hc := World.ownsRow.cells h (g := g) rfl
      have h1 := hc _ _ (txs_at ls i hi)
      rw [add_none] at h1
      exact h1
theorem under64 : Tryz.prog.underlying 64 = some (.slice 9) := by kernel_rfl
theorem info9 : (Tryz.prog.info? 9).map (fun i => (i.zero, i.size, i.bytes)) = some (some (.string ⟨#[]⟩), 1, 16) := by kernel_rfl
/-- append(ls, x). -/
theorem wpList_appT {w : World} {ops : Array Oper} {rest : List Oper} {o : Oper} {a : Act} {Q : Exit → Act → World → Prop} (hgd : o.guard = none) (s x : Operand)
    (ho : o.op = .call { callee := .builtin .append, args := #[s, x], argTypes := #[64, 64] })
    {B : Nat} {v : Value} {ls : List (List UInt8)} (hs' : a.eval s = v) (hown : OwnS w B v ls)
    {g c : Nat} {x1 : List UInt8} (hx : a.eval x = .slice (some ⟨g, 0, none⟩) 1 c) (hg0 : w.cell? ⟨g, 0, none⟩ = some (.string ⟨x1.toArray⟩))
    (hb : ls.length ≤ 1073741826) (hbase : B ≤ w.heap.size)
    (h : ∀ v' w', OwnS w' B v' (ls ++ [x1]) → Below B w w' → wpList Tryz.prog ops Q rest (a.put o.dst v') w') : wpList Tryz.prog ops Q (o :: rest) a w := by
  obtain ⟨i0, hi0, hz0, hz1, hz2⟩ := info_parts info9
  have hr : Reads w w.heap.size 1 (some ⟨g, 0, none⟩) 1 (txs [x1]) := by
    refine ⟨rfl, fun _ => ⟨_, rfl, lt_block hg0, fun j u hj => ?_⟩⟩
    rw [add_none, Nat.zero_add]
    rcases j with _ | j
    · simp [txs] at hj; rw [← hj]; exact hg0
    · simp [txs] at hj
  refine wpList_append_any w hgd s x 64 ho B 9 i0 _ 1 16 under64 hi0 hz0 hz1 hz2 rfl (by decide) v ls.length (txs ls) hs' hown w.heap.size _ 1 c (txs [x1]) hx hr (txs_one _) (by unfold maxLen; omega) (by omega) hbase ?_
  intro v' w' k1 k2 k3
  refine h v' w' ?_ ((Below.refl B w).grown k2 hbase hown.block_ge)
  unfold OwnS
  rw [List.length_append, show txs (ls ++ [x1]) = txs ls ++ txs [x1] by simp [txs]]
  exact k1
/-- append(hs, h). -/
theorem wpList_appH {w : World} {ops : Array Oper} {rest : List Oper} {o : Oper} {a : Act} {Q : Exit → Act → World → Prop} (hgd : o.guard = none) (s x : Operand)
    (ho : o.op = .call { callee := .builtin .append, args := #[s, x], argTypes := #[22, 22] })
    {B : Nat} {v : Value} {hs : List Hdr} (hs' : a.eval s = v) (hown : OwnH w B v hs)
    {g c : Nat} {h1 : Hdr} (hx : a.eval x = .slice (some ⟨g, 0, none⟩) 1 c) (hg0 : w.cell? ⟨g, 0, none⟩ = some (.string ⟨h1.1.toArray⟩)) (hg1 : w.cell? ⟨g, 1, none⟩ = some (.string ⟨h1.2.toArray⟩))
    (hb : hs.length ≤ 1000000) (hbase : B ≤ w.heap.size)
    (h : ∀ v' w', OwnH w' B v' (hs ++ [h1]) → Below B w w' → wpList Tryz.prog ops Q rest (a.put o.dst v') w') : wpList Tryz.prog ops Q (o :: rest) a w := by
  obtain ⟨i0, hi0, hz0, hz1, hz2⟩ := info_parts info44
  have hr : Reads w w.heap.size 2 (some ⟨g, 0, none⟩) 1 (hv [h1]) := by
    refine ⟨rfl, fun _ => ⟨_, rfl, lt_block hg0, fun j u hj => ?_⟩⟩
    rw [add_none, Nat.zero_add]
    rcases j with _ | _ | j
    · simp [hv] at hj; rw [← hj]; exact hg0
    · simp [hv] at hj; rw [← hj]; exact hg1
    · simp [hv] at hj
  refine wpList_append_any w hgd s x 22 ho B 44 i0 _ 2 32 Tryz.underlying22 hi0 hz0 hz1 hz2 rfl (by decide) v hs.length (hv hs) hs' hown w.heap.size _ 1 c (hv [h1]) hx hr (hv_one _) (by unfold maxLen; omega) (by omega) hbase ?_
  intro v' w' k1 k2 k3
  refine h v' w' ?_ ((Below.refl B w).grown k2 hbase hown.block_ge)
  unfold OwnH
  rw [List.length_append, hv_app]
  exact k1
end Go.Proofs.YtidhemjnchonaaaGreatDoor
