/- TillNever: the total of lines of pieces at prices is a price, or no number: the plain law and the walk. The one premise: the slice takes no more bytes than the form's own reach lets it. -/
import Derived.Test.YtflmlkaiahpnmaaLines
import Derived.OwnWalk
namespace Go.Proofs.Ytflmlkaiahpnmaa
open Go.RowKit Go.Fl

/-! plain -/
theorem canon_can {b : Nat} (h : canB b = true) : canon b = some b := by
  unfold canon; rw [isNaN_iff]
  unfold canB at h
  simp only [Bool.or_eq_true, decide_eq_true_eq, beq_iff_eq] at h
  have : ¬ 9218868437227405312 < b % 9223372036854775808 := by omega
  simp [this]
theorem canon_none {b : Nat} : canon b = none ∨ canon b = some b := by unfold canon; cases isNaN b <;> simp
theorem canB_le {z : Nat} (h : z ≤ 9218868437227405312) : canB z = true := by unfold canB; simp [h]
def keepL (x : Ln) : Bool := decide (0 ≤ x.q) && canB x.p.toNat
theorem worth_can {x : Ln} (hk : keepL x = true) (ho : x.ok) : worthc x.q x.p = none ∨ ∃ z, worthc x.q x.p = some z ∧ canB z = true := by
  unfold keepL at hk
  simp only [Bool.and_eq_true, decide_eq_true_eq] at hk
  have hf := floatOfInt_nonNeg x.q hk.1 (by have := ho.2.2.1; omega)
  unfold worthc
  rw [canon_can (canB_le (Nat.le_of_lt hf)), canon_can hk.2]
  show ((Ieee.double.mul _ _).bind canon) = none ∨ ∃ z, ((Ieee.double.mul _ _).bind canon) = some z ∧ canB z = true
  cases hz : Ieee.double.mul (floatOfInt .f64 x.q) x.p.toNat with
  | none => exact .inl rfl
  | some z =>
    have hc := mul_nonNeg (Nat.le_of_lt hf) hk.2 hz hf
    exact .inr ⟨z, canon_can hc, hc⟩
theorem add_can {x y : Option Nat} (hx : x = none ∨ ∃ z, x = some z ∧ z ≤ 9218868437227405312) (hy : y = none ∨ ∃ z, y = some z ∧ canB z = true) :
    opc .add x y = none ∨ ∃ z, opc .add x y = some z ∧ z ≤ 9218868437227405312 := by
  rcases hx with rfl | ⟨a, rfl, ha⟩
  · exact .inl rfl
  · rcases hy with rfl | ⟨b, rfl, hb⟩
    · exact .inl rfl
    · show ((Ieee.double.add _ _).bind canon) = none ∨ ∃ z, ((Ieee.double.add _ _).bind canon) = some z ∧ z ≤ 9218868437227405312
      cases hz : Ieee.double.add a b with
      | none => exact .inl rfl
      | some z =>
        have hc := add_nonNeg ha hb hz
        exact .inr ⟨z, canon_can (canB_le hc), hc⟩
theorem tot_can (ls : List Ln) (h : ∀ x ∈ ls, keepL x = true ∧ x.ok) : totc ls = none ∨ ∃ z, totc ls = some z ∧ z ≤ 9218868437227405312 := by
  have key : ∀ (l : List Ln) (acc : Option Nat), (∀ x ∈ l, keepL x = true ∧ x.ok) → (acc = none ∨ ∃ z, acc = some z ∧ z ≤ 9218868437227405312) →
      (l.foldl (fun t x => opc .add t (worthc x.q x.p)) acc = none ∨ ∃ z, l.foldl (fun t x => opc .add t (worthc x.q x.p)) acc = some z ∧ z ≤ 9218868437227405312) := by
    intro l
    induction l with
    | nil => intro acc _ ha; exact ha
    | cons x l ih =>
      intro acc hl ha
      have hx := hl x (List.mem_cons_self ..)
      exact ih _ (fun y hy => hl y (List.mem_cons_of_mem _ hy)) (add_can ha (worth_can hx.1 hx.2))
  exact key ls (some 0) h (.inr ⟨0, rfl, by decide⟩)

/-! contracts -/
theorem canR_any (b : Nat) (w : World) : Calls Try.prog 11 #[.int .u64 (b : Int)] w fun e w' => e = .returned (.bool (canB b)) ∧ w = w' := by
  have e : Hid (canB b = (decide ((b : Int) ≤ 9218868437227405312) || ((b : Int) == 9223372036854775808))) := Lib.hid (by
    unfold canB; rw [Bool.eq_iff_iff]; simp only [Bool.or_eq_true, decide_eq_true_eq, beq_iff_eq]; omega)
  go_enter Try.func11, Try.ntmps11
  go_wp2
  · go_ret
    exact ⟨by rw [e.out]; rfl, rfl⟩
  · have h : (b : Int) ≤ 9218868437227405312 := by assumption
    go_ret
    exact ⟨by rw [e.out, decide_eq_true h]; rfl, rfl⟩
theorem can_any (b : Nat) (w : World) (hb : b < 18446744073709551616) : Calls Try.prog 14 #[.int .u64 (b : Int)] w fun e w' => e = .returned (.bool (canB b)) ∧ w = w' := by
  have hc := Lib.hid (can_eq b hb)
  clear hb
  go_enter Try.func14, Try.ntmps14
  go_wp2_with fail
  refine (float_any _ _).mono ?_
  rintro e w' ⟨rfl, rfl⟩
  go_wp2
  go_ret
  exact ⟨by rw [← hc.out]; rfl, rfl⟩

/-! memory -/
def cellsOf (l : List Ln) : List Value := l.flatMap fun x => [.string x.s, .int .i64 x.q, .int .u64 x.p]
theorem cellsOf_length (l : List Ln) : (cellsOf l).length = l.length * 3 := by
  induction l with
  | nil => rfl
  | cons x l ih =>
    have : (cellsOf (x :: l)).length = (cellsOf l).length + 3 := by simp [cellsOf]
    rw [this, ih, List.length_cons]; omega
theorem cellsOf_at : ∀ (l : List Ln) (i : Nat) (x : Ln), l[i]? = some x → (cellsOf l)[i * 3]? = some (.string x.s) ∧ (cellsOf l)[i * 3 + 1]? = some (.int .i64 x.q) ∧ (cellsOf l)[i * 3 + 2]? = some (.int .u64 x.p)
  | [], i, x, h => by simp at h
  | y :: l, 0, x, h => by
    simp at h; subst h
    exact ⟨rfl, rfl, rfl⟩
  | y :: l, i + 1, x, h => by
    have := cellsOf_at l i x (by simpa using h)
    have e : cellsOf (y :: l) = .string y.s :: .int .i64 y.q :: .int .u64 y.p :: cellsOf l := rfl
    rw [e, show (i + 1) * 3 = i * 3 + 1 + 1 + 1 by omega]
    exact ⟨by simpa using this.1, by simpa using this.2.1, by simpa using this.2.2⟩
theorem cellsOf_one : ∀ (l : List Ln), ∀ u ∈ cellsOf l, u.oneCell' = true := by
  intro l u hu
  simp only [cellsOf, List.mem_flatMap] at hu
  obtain ⟨x, _, hx⟩ := hu
  simp at hx
  rcases hx with rfl | rfl | rfl <;> rfl
theorem own_rdL {w : World} {B : Nat} {v : Value} {l : List Ln} (h : w.ownsRow B 27 3 v l.length (cellsOf l)) (hm : l.length ≤ maxLen) (hok : ∀ x ∈ l, x.ok) :
    ∃ A cap, v = .slice A l.length cap ∧ RdL w A l.length l := by
  rcases h.2 with ⟨rfl, h0⟩ | ⟨g, cap, cur, rfl, _, hh, hn, _, hs, ht⟩
  · exact ⟨none, 0, by rw [h0], rfl, hm, hok, fun hp => absurd hp (by omega)⟩
  · refine ⟨some ⟨g, 0, none⟩, cap, rfl, rfl, hm, hok, fun _ => ⟨g, 0, rfl, ?_, fun i x hx => ?_⟩⟩
    · rcases Nat.lt_or_ge g w.heap.size with h' | h'
      · exact h'
      · rw [Array.getElem?_eq_none h'] at hh; cases hh
    · have hil : i < l.length := by
        rcases Nat.lt_or_ge i l.length with h' | h'
        · exact h'
        · rw [List.getElem?_eq_none h'] at hx; cases hx
      have hc : ∀ j, w.cell? ⟨g, j, none⟩ = cur[j]? := fun j => cell_of_row w g j cur 27 (0, 0) hh
      have hk : ∀ j, j < l.length * 3 → cur[j]? = (cellsOf l)[j]? := fun j hj => by
        rw [← ht, List.getElem?_take_of_lt hj, Array.getElem?_toList]
      have := cellsOf_at l i x hx
      rw [hc, hc, hc, Nat.zero_add, hk _ (by omega), hk _ (by omega), hk _ (by omega)]
      exact this
theorem info27 : (Try.prog.info? 27).map (fun i => (i.zero, i.size, i.bytes)) = some (some (.agg #[.string ⟨#[]⟩, .int .i64 0, .int .u64 0]), 3, 32) := by kernel_rfl
end Go.Proofs.Ytflmlkaiahpnmaa
