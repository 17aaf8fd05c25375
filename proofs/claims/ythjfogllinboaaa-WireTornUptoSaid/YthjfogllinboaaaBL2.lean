/- More words on memory, of no program: an own row written cell by cell; results that are slices. -/
import Derived.Test.YthjfogllinboaaaBL
import Derived.Laws.BitsAllLaws
namespace Go.BL
open Go.RowKit

theorem Own.only {w w' : World} {B g : Nat} {v : Value} {bs : List Nat} (h : Own w B v bs) (hg : w.grownBy w' (some g)) (hne : v.ownBlock ≠ some g) : Own w' B v bs :=
  ⟨h.1.kept hg (.inr hne), h.2⟩
theorem bv_set (bs : List Nat) (j c : Nat) : (bv bs).set j (.int .u8 ((c : Nat) : Int)) = bv (bs.set j c) := by simp [bv, List.map_set]
theorem Own.set {w : World} {B g n cap : Nat} {bs : List Nat} (h : Own w B (.slice (some ⟨g, 0, none⟩) n cap) bs) (hn : bs.length = n) (j c : Nat) (hc : c < 256) :
    Own (w.setCell ⟨g, j, none⟩ (.int .u8 ((c : Nat) : Int))) B (.slice (some ⟨g, 0, none⟩) n cap) (bs.set j c) ∧ w.grownBy (w.setCell ⟨g, j, none⟩ (.int .u8 ((c : Nat) : Int))) (some g) := by
  have h1 := h.1
  rw [hn] at h1
  obtain ⟨h2, h3⟩ := h1.stored j (.int .u8 ((c : Nat) : Int))
  refine ⟨⟨?_, fun x hx => ?_⟩, h3⟩
  · rw [List.length_set, hn, ← bv_set]; exact h2
  · rcases List.mem_or_eq_of_mem_set hx with h' | rfl
    · exact h.2 x h'
    · exact hc
theorem Own.cellAt {w : World} {B g n cap : Nat} {bs : List Nat} (h : Own w B (.slice (some ⟨g, 0, none⟩) n cap) bs) (hn : bs.length = n) (j : Nat) (hj : j < n) : w.cell? ⟨g, j, none⟩ = some (.int .u8 ((bs.getD j 0 : Nat) : Int)) := by
  have h1 := h.1
  rw [hn] at h1
  rw [h1.cellAt j (by omega), bv_at (by omega)]
theorem Own.frozenAt {w : World} {B g n cap : Nat} {bs : List Nat} (h : Own w B (.slice (some ⟨g, 0, none⟩) n cap) bs) (hn : bs.length = n) (j : Nat) : w.frozen? ⟨g, j, none⟩ = false := by
  have h1 := h.1
  rw [hn] at h1
  exact h1.frozenAt j
/-- A row with an element starts at the head of a block. -/
theorem Own.some_ {w : World} {B n cap : Nat} {A : Option Addr} {bs : List Nat} (h : Own w B (.slice A n cap) bs) (hn : 0 < bs.length) : ∃ g, A = some ⟨g, 0, none⟩ ∧ B ≤ g ∧ g < w.heap.size := by
  rcases h.1.2 with ⟨_, h0⟩ | ⟨g, cap', cur, hv, hg, hh, _⟩
  · omega
  · injection hv with h1 h2 h3
    refine ⟨g, h1, hg, ?_⟩
    rcases Nat.lt_or_ge g w.heap.size with h' | h'
    · exact h'
    · rw [Array.getElem?_eq_none h'] at hh; cases hh
theorem Own.lt {w : World} {B : Nat} {v : Value} {bs : List Nat} (h : Own w B v bs) : ∀ k, v.ownBlock = some k → k < w.heap.size := by
  intro k hk
  rcases h.1.2 with ⟨rfl, _⟩ | ⟨g, cap', cur, rfl, hg, hh, _⟩
  · cases hk
  · simp only [Value.ownBlock, Option.some.injEq] at hk
    subst hk
    rcases Nat.lt_or_ge g w.heap.size with h' | h'
    · exact h'
    · rw [Array.getElem?_eq_none h'] at hh; cases hh
theorem grownBy_trans {a b c : World} {g : Nat} (h : a.grownBy b (some g)) (k : b.grownBy c (some g)) : a.grownBy c (some g) :=
  ⟨k.os.trans h.os, k.tape.trans h.tape, k.output.trans h.output, Nat.le_trans h.size k.size, fun i hi hne => (k.block i (Nat.lt_of_lt_of_le hi h.size) hne).trans (h.block i hi hne)⟩
theorem below_only {B : Nat} {a b : World} {g : Nat} (h : a.grownBy b (some g)) (hB : B ≤ a.heap.size) (hg : B ≤ g) : Below B a b :=
  (Below.refl B a).grown h hB (fun k hk => by injection hk with hk; omega)
/-- The call returns a slice that is a row of bytes of its own. -/
def RetS (bs : List Nat) (w : World) (e : Ending) (w' : World) : Prop := ∃ A cap, e = .returned (.slice A bs.length cap) ∧ Rd w' A bs.length bs ∧ Own w' w.heap.size (.slice A bs.length cap) bs ∧ Below w.heap.size w w'
theorem retS {P : Program} {f : FuncId} {args : Array Value} {w : World} {bs : List Nat} (h : Calls P f args w (RetO bs w)) : Calls P f args w (RetS bs w) :=
  h.mono fun e w' ⟨v, he, ho, hb⟩ => by
    obtain ⟨A, cap, rfl, hr⟩ := ho.rd
    exact ⟨A, cap, he, hr, ho, hb⟩
theorem xor255 (c : Nat) (hc : c < 256) : ∃ d : Nat, d < 256 ∧ bits .xor .u8 (c : Int) 255 = (d : Int) := by
  have h := u8_xor_nat c 255 hc (by decide)
  exact ⟨c ^^^ 255, Nat.xor_lt_two_pow (n := 8) hc (by decide), h⟩
end Go.BL
