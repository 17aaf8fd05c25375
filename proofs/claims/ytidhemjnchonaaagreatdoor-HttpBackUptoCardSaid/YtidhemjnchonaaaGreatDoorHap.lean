/- Words on memory: a row of headers of the call's own, and an append of one header onto it. -/
import Derived.Test.YtidhemjnchonaaaGreatDoorCatch
namespace Go.Proofs.YtidhemjnchonaaaGreatDoor
open Go.RowKit Go.BL

/-- Headers as cells. -/
def hv : List Hdr → List Value
  | [] => []
  | h :: r => .string ⟨h.1.toArray⟩ :: .string ⟨h.2.toArray⟩ :: hv r
theorem hv_len : ∀ hs : List Hdr, (hv hs).length = hs.length * 2
  | [] => rfl
  | h :: r => by simp only [hv, List.length_cons, hv_len r]; omega
theorem hv_app : ∀ a b : List Hdr, hv (a ++ b) = hv a ++ hv b
  | [], _ => rfl
  | h :: r, b => by simp only [hv, List.cons_append, hv_app r b]
theorem hv_one : ∀ (hs : List Hdr), ∀ u ∈ hv hs, u.oneCell' = true
  | [], u, h => by cases h
  | x :: r, u, h => by
    simp only [hv, List.mem_cons] at h
    rcases h with rfl | rfl | h
    · rfl
    · rfl
    · exact hv_one r u h
theorem hv_at : ∀ (hs : List Hdr) (i : Nat) (h : i < hs.length), (hv hs)[i * 2]? = some (.string ⟨hs[i].1.toArray⟩) ∧ (hv hs)[i * 2 + 1]? = some (.string ⟨hs[i].2.toArray⟩)
  | [], i, h => absurd h (Nat.not_lt_zero _)
  | x :: r, 0, _ => ⟨rfl, rfl⟩
  | x :: r, i + 1, h => by
    have := hv_at r i (by simpa using h)
    have e : (i + 1) * 2 = i * 2 + 1 + 1 := by omega
    rw [e]
    simpa [hv] using this
/-- The value is a row of the call's own (behind base) that holds these headers. -/
def OwnH (w : World) (B : Nat) (v : Value) (hs : List Hdr) : Prop := w.ownsRow B 44 2 v hs.length (hv hs)
theorem OwnH.nil (w : World) (B : Nat) : OwnH w B (.slice none 0 0) [] := ⟨rfl, .inl ⟨rfl, rfl⟩⟩
theorem OwnH.below {w w' : World} {B C : Nat} {v : Value} {hs : List Hdr} (h : OwnH w B v hs) (hb : Below C w w') (hC : w.heap.size ≤ C) : OwnH w' B v hs := by
  refine ⟨h.1, ?_⟩
  rcases h.2 with h0 | ⟨g, cap, cur, hv, hg, hh, r⟩
  · exact .inl h0
  · have hlt : g < w.heap.size := by
      rcases Nat.lt_or_ge g w.heap.size with h' | h'
      · exact h'
      · rw [Array.getElem?_eq_none h'] at hh; cases hh
    exact .inr ⟨g, cap, cur, hv, hg, (hb.block g (by omega)).trans hh, r⟩
theorem OwnH.block_ge {w : World} {B : Nat} {v : Value} {hs : List Hdr} (h : OwnH w B v hs) : ∀ k, v.ownBlock = some k → B ≤ k := by
  intro k hk
  rcases h.2 with ⟨rfl, _⟩ | ⟨g, cap, cur, rfl, hg, _⟩
  · cases hk
  · simp only [Value.ownBlock, Option.some.injEq] at hk; omega
/-- A store into another block. -/
theorem OwnH.setCell {w : World} {B : Nat} {v : Value} {hs : List Hdr} (h : OwnH w B v hs) {p : Addr} (hp : p.block < B) (u : Value) : OwnH (w.setCell p u) B v hs := by
  refine ⟨h.1, ?_⟩
  rcases h.2 with h0 | ⟨g, cap, cur, hv, hg, hh, r⟩
  · exact .inl h0
  · exact .inr ⟨g, cap, cur, hv, hg, (Below.heap_setCell w p u g (by omega)).trans hh, r⟩
theorem OwnH.hdrs {w : World} {B : Nat} {v : Value} {hs : List Hdr} (h : OwnH w B v hs) (hm : hs.length ≤ 4611686018427387903) : Hdrs w v hs := by
  rcases h.2 with ⟨rfl, h0⟩ | ⟨g, cap, cur, rfl, hg, hh, hn, _⟩
  · rw [List.eq_nil_of_length_eq_zero h0]
    exact ⟨by decide, none, 0, rfl, fun hn => absurd hn (by decide)⟩
  · refine ⟨hm, _, cap, rfl, fun _ => ⟨g, 0, rfl, ?_, fun i hi => ?_⟩⟩
    · rcases Nat.lt_or_ge g w.heap.size with h' | h'
      · exact h'
      · rw [Array.getElem?_eq_none h'] at hh; cases hh
    · have hc := World.ownsRow.cells h (g := g) rfl
      have ha := hv_at hs i hi
      have h1 := hc _ _ ha.1
      have h2 := hc _ _ ha.2
      rw [add_none] at h1 h2
      exact ⟨h1, by rw [Nat.add_assoc]; exact h2⟩
theorem info_parts {P : Program} {e : TypeId} {z : Value} {n b : Nat} (h : (P.info? e).map (fun i => (i.zero, i.size, i.bytes)) = some (some z, n, b)) : ∃ i, P.info? e = some i ∧ i.zero = some z ∧ i.size = n ∧ i.bytes = b := by
  cases hi : P.info? e with
  | none => rw [hi] at h; cases h
  | some i =>
    rw [hi] at h
    simp only [Option.map_some, Option.some.injEq, Prod.mk.injEq] at h
    exact ⟨i, rfl, h.1, h.2.1, h.2.2⟩
theorem info44 : (Tryz.prog.info? 44).map (fun i => (i.zero, i.size, i.bytes)) = some (some (.agg #[.string ⟨#[]⟩, .string ⟨#[]⟩]), 2, 32) := by kernel_rfl
/-- append(hs, h), as an operation of a region that draws its order. -/
theorem step_appH {w : World} {ops : Array Oper} {o : Oper} {a : Act} {K : Act → World → Prop} {Q : Exit → Act → World → Prop} {E : Prop} (hgd : o.guard = none) (s x : Operand)
    (ho : o.op = .call { callee := .builtin .append, args := #[s, x], argTypes := #[22, 22] })
    {B : Nat} {v : Value} {hs : List Hdr} (hs' : a.eval s = v) (hown : OwnH w B v hs)
    {g c : Nat} {h1 : Hdr} (hx : a.eval x = .slice (some ⟨g, 0, none⟩) 1 c) (hg0 : w.cell? ⟨g, 0, none⟩ = some (.string ⟨h1.1.toArray⟩)) (hg1 : w.cell? ⟨g, 1, none⟩ = some (.string ⟨h1.2.toArray⟩))
    (hb : hs.length ≤ 1000000) (hbase : B ≤ w.heap.size)
    (h : ∀ v' w', OwnH w' B v' (hs ++ [h1]) → Below B w w' → w.grownBy w' v.ownBlock → K (a.put o.dst v') w') :
    if Region.wanted o (yielded ops a.tmps) = true then Oper.wp Tryz.prog o a w K Q else E := by
  obtain ⟨i0, hi0, hz0, hz1, hz2⟩ := info_parts info44
  have hr : Reads w w.heap.size 2 (some ⟨g, 0, none⟩) 1 (hv [h1]) := by
    refine ⟨rfl, fun _ => ⟨_, rfl, lt_block hg0, fun j u hj => ?_⟩⟩
    rw [add_none, Nat.zero_add]
    rcases j with _ | _ | j
    · simp [hv] at hj; rw [← hj]; exact hg0
    · simp [hv] at hj; rw [← hj]; exact hg1
    · simp [hv] at hj
  refine step_append_any w hgd s x 22 ho B 44 i0 _ 2 32 Tryz.underlying22 hi0 hz0 hz1 hz2 rfl (by decide) v hs.length (hv hs) hs' hown w.heap.size _ 1 c (hv [h1]) hx hr (hv_one _) (by unfold maxLen; omega) (by omega) hbase ?_
  intro v' w' k1 k2 k3
  refine h v' w' ?_ ((Below.refl B w).grown k2 hbase hown.block_ge) k2
  unfold OwnH
  rw [List.length_append, hv_app]
  exact k1
end Go.Proofs.YtidhemjnchonaaaGreatDoor
