/- The letters of headers' names may be small or capital: the plain law. No program. -/
import Derived.Test.YtidhemjnchonaaaGreatDoorSplitP
namespace Go.Proofs.YtidhemjnchonaaaGreatDoor

def letter (x : UInt8) : Bool := decide (97 ≤ (x ||| 32).toNat) && decide ((x ||| 32).toNat ≤ 122)
theorem byte_all (P : UInt8 → Prop) [DecidablePred P] (h : ∀ n : Fin 256, P (UInt8.ofNat n.val)) (x : UInt8) : P x := by
  have := h ⟨x.toNat, x.toNat_lt⟩
  simpa using this
theorem letter_turn (x : UInt8) (h : letter x = true) : low (x ^^^ 32) = low x ∧ tokb (x ^^^ 32) = tokb x ∧ x ^^^ 32 ≠ 10 ∧ x ^^^ 32 ≠ 13 ∧ x ^^^ 32 ≠ 58 ∧ x ≠ 10 ∧ x ≠ 13 ∧ x ≠ 58 := by
  revert h
  exact byte_all (fun x => letter x = true → low (x ^^^ 32) = low x ∧ tokb (x ^^^ 32) = tokb x ∧ x ^^^ 32 ≠ 10 ∧ x ^^^ 32 ≠ 13 ∧ x ^^^ 32 ≠ 58 ∧ x ≠ 10 ∧ x ≠ 13 ∧ x ≠ 58) (by decide +kernel) x
theorem low_10 (x : UInt8) : (low x = 10 ↔ x = 10) ∧ (low x = 13 ↔ x = 13) := byte_all (fun x => (low x = 10 ↔ x = 10) ∧ (low x = 13 ↔ x = 13)) (by decide +kernel) x
/-- The second byte is the first, or, where that may be, the letter in the other case. -/
def twin (p : Bool) (x y : UInt8) : Prop := y = x ∨ (p = true ∧ letter x = true ∧ y = x ^^^ 32)
theorem twin.facts {p : Bool} {x y : UInt8} (h : twin p x y) : low y = low x ∧ tokb y = tokb x ∧ (y = 10 ↔ x = 10) ∧ (y = 13 ↔ x = 13) ∧ (y = 58 ↔ x = 58) := by
  rcases h with rfl | ⟨_, h, rfl⟩
  · simp
  · obtain ⟨h1, h2, h3, h4, h5, h6, h7, h8⟩ := letter_turn x h
    exact ⟨h1, h2, iff_of_false h3 h6, iff_of_false h4 h7, iff_of_false h5 h8⟩
def stp (p : Bool) (x : UInt8) : Bool := if x = 10 then true else if x = 58 then false else p
/-- The second text is the first, but for letters of headers' names. -/
def Tw : Bool → List UInt8 → List UInt8 → Prop
  | _, [], [] => True
  | p, x :: xs, y :: ys => twin p x y ∧ Tw (stp p x) xs ys
  | _, _, _ => False
theorem Tw.nil {p : Bool} {ys : List UInt8} (h : Tw p [] ys) : ys = [] := by
  cases ys with
  | nil => rfl
  | cons y ys => exact h.elim
theorem Tw.cons {p : Bool} {x : UInt8} {xs ys : List UInt8} (h : Tw p (x :: xs) ys) : ∃ y t, ys = y :: t ∧ twin p x y ∧ Tw (stp p x) xs t := by
  cases ys with
  | nil => exact h.elim
  | cons y ys => exact ⟨y, ys, rfl, h⟩
theorem Tw.len {p : Bool} {xs ys : List UInt8} (h : Tw p xs ys) : ys.length = xs.length := by
  induction xs generalizing p ys with
  | nil => rw [h.nil]
  | cons x xs ih =>
    obtain ⟨y, t, rfl, _, h2⟩ := h.cons
    simp [ih h2]
theorem Tw.small {p : Bool} {xs ys : List UInt8} (h : Tw p xs ys) : smallL ys = smallL xs := by
  induction xs generalizing p ys with
  | nil => rw [h.nil]
  | cons x xs ih =>
    obtain ⟨y, t, rfl, h1, h2⟩ := h.cons
    have := ih h2
    unfold smallL at this ⊢
    rw [List.map_cons, List.map_cons, this, h1.facts.1]
theorem Tw.crL {p : Bool} {xs ys : List UInt8} (h : Tw p xs ys) : crL ys = crL xs := by
  induction xs generalizing p ys with
  | nil => rw [h.nil]
  | cons x xs ih =>
    obtain ⟨y, t, rfl, h1, h2⟩ := h.cons
    have e := ih h2
    unfold YtidhemjnchonaaaGreatDoor.crL at e ⊢
    rw [List.any_cons, List.any_cons, e]
    have hb : crb y = crb x := by
      unfold crb
      rw [Bool.eq_iff_iff]
      simp [h1.facts.2.2.1, h1.facts.2.2.2.1]
    rw [hb]
/-- The state behind a text. -/
def stn (p : Bool) (xs : List UInt8) : Bool := xs.foldl stp p
theorem Tw.snoc {p : Bool} {xs ys : List UInt8} (h : Tw p xs ys) {x y : UInt8} (hx : twin (stn p xs) x y) : Tw p (xs ++ [x]) (ys ++ [y]) := by
  induction xs generalizing p ys with
  | nil => rw [h.nil]; exact ⟨hx, trivial⟩
  | cons a xs ih =>
    obtain ⟨b, t, rfl, h1, h2⟩ := h.cons
    exact ⟨h1, ih h2 hx⟩
/-- The place of a text of CR and LF. -/
theorem pre_small : ∀ (sub s : List UInt8), (∀ x ∈ sub, x = 13 ∨ x = 10) → sub.isPrefixOf (smallL s) = sub.isPrefixOf s
  | [], s, _ => by simp
  | x :: sub, [], _ => rfl
  | x :: sub, y :: s, h => by
    have ih := pre_small sub s (fun z hz => h z (List.mem_cons_of_mem _ hz))
    unfold smallL at ih ⊢
    rw [List.map_cons]
    simp only [List.isPrefixOf]
    rw [ih]
    have hx : (x == low y) = (x == y) := by
      rw [Bool.eq_iff_iff, beq_iff_eq, beq_iff_eq]
      rcases h x (List.mem_cons_self) with rfl | rfl
      · rw [eq_comm, (low_10 y).2, eq_comm]
      · rw [eq_comm, (low_10 y).1, eq_comm]
    rw [hx]
theorem index_small {sub : List UInt8} (h : ∀ x ∈ sub, x = 13 ∨ x = 10) : ∀ s : List UInt8, Lib.index (smallL s) sub = Lib.index s sub
  | [] => rfl
  | y :: s => by
    have ih := index_small h s
    have hp := pre_small sub (y :: s) h
    rw [show smallL (y :: s) = low y :: smallL s from rfl] at hp ⊢
    rw [index_cons, index_cons, hp, ih]
/-- Names. -/
theorem same_first : ∀ {us bs : List UInt8}, Tw false us bs → crL us = false → bs = us
  | [], bs, h, _ => h.nil
  | a :: us, bs, hh, hcc => by
    obtain ⟨b, u, rfl, g1, g2⟩ := hh.cons
    unfold crL crb at hcc
    rw [List.any_cons, Bool.or_eq_false_iff] at hcc
    have ha : a ≠ 10 := fun e => by rw [e] at hcc; exact absurd hcc.1 (by decide)
    have hq : stp false a = false := by unfold stp; rw [if_neg ha]; split <;> rfl
    rw [hq] at g2
    rcases g1 with rfl | ⟨g, _⟩
    · rw [same_first g2 hcc.2]
    · cases g
theorem name_twin : ∀ {xs ys : List UInt8}, Tw true xs ys → crL xs = false → (cutL ys [58]).2 = (cutL xs [58]).2 ∧ smallL (cutL ys [58]).1 = smallL (cutL xs [58]).1 ∧ (cutL ys [58]).1.all tokb = (cutL xs [58]).1.all tokb ∧ (cutL ys [58]).1.length = (cutL xs [58]).1.length
  | [], ys, h, _ => by rw [h.nil]; simp
  | x :: xs, ys, h, hc => by
    obtain ⟨y, t, rfl, h1, h2⟩ := h.cons
    have hx : x ≠ 10 ∧ crL xs = false := by
      unfold crL crb at hc
      rw [List.any_cons, Bool.or_eq_false_iff] at hc
      refine ⟨fun e => ?_, hc.2⟩
      rw [e] at hc
      exact absurd hc.1 (by decide)
    rw [cut_cons, cut_cons]
    by_cases h58 : x = 58
    · have hy := h1.facts.2.2.2.2.2 h58
      rw [if_pos h58, if_pos hy]
      -- behind the colon nothing is turned
      have hs : stp true x = false := by rw [h58]; rfl
      rw [hs] at h2
      rw [same_first h2 hx.2]
      simp
    · rw [if_neg h58, if_neg (fun e => h58 (h1.facts.2.2.2.2.1 e))]
      have hs : stp true x = true := by unfold stp; rw [if_neg hx.1, if_neg h58]
      rw [hs] at h2
      obtain ⟨i1, i2, i3, i4⟩ := name_twin h2 hx.2
      refine ⟨by simp only [i1], ?_, ?_, by simp only [List.length_cons, i4]⟩
      · unfold smallL at i2 ⊢
        simp only [List.map_cons, i2, h1.facts.1]
      · simp only [List.all_cons, i3, h1.facts.2.1]
theorem header_twin {xs ys : List UInt8} (h : Tw true xs ys) (hc : crL xs = false) : headerL ys = headerL xs := by
  obtain ⟨i1, i2, i3, i4⟩ := name_twin h hc
  unfold headerL
  have ht : tokenL (cutL ys [58]).1 = tokenL (cutL xs [58]).1 := by
    unfold tokenL
    rw [i3, i4]
    have : decide ((cutL ys [58]).1 ≠ []) = decide ((cutL xs [58]).1 ≠ []) := by
      rw [decide_eq_decide]
      rw [← List.length_pos_iff, ← List.length_pos_iff, i4]
    rw [this]
  rw [i1, i2, ht]
/-- Lines. -/
theorem lines_twin : ∀ {p : Bool} {xs ys : List UInt8}, Tw p xs ys →
    (crL (linesR ys).1 = crL (linesR xs).1 ∧ (linesR ys).2.any crL = (linesR xs).2.any crL) ∧
    (crL (linesR xs).1 = false → (linesR xs).2.any crL = false → Tw p (linesR xs).1 (linesR ys).1 ∧ ∀ i, headersL (linesR ys).2 i = headersL (linesR xs).2 i)
  | p, [], ys, h => by rw [h.nil]; exact ⟨⟨rfl, rfl⟩, fun _ _ => ⟨trivial, fun _ => rfl⟩⟩
  | p, [x], ys, h => by
    obtain ⟨y, t, rfl, h1, h2⟩ := h.cons
    obtain rfl := h2.nil
    have e : ∀ z : UInt8, linesR [z] = ([z], []) := fun z => by rw [linesR, if_neg (fun h => by cases h.2)]; rfl
    rw [e, e]
    exact ⟨⟨h.crL, rfl⟩, fun _ _ => ⟨h, fun _ => rfl⟩⟩
  | p, x :: x' :: xs, ys, h => by
    obtain ⟨y, t, rfl, h1, h2⟩ := h.cons
    by_cases hcr : x = 13 ∧ x' = 10
    · obtain ⟨rfl, rfl⟩ := hcr
      obtain ⟨y', t, rfl, h3, h4⟩ := h2.cons
      have hy := h1.facts.2.2.2.1.2 rfl
      have hy' := h3.facts.2.2.1.2 rfl
      subst hy hy'
      rw [linesR_cut, linesR_cut]
      have hs : stp (stp p 13) 10 = true := rfl
      rw [hs] at h4
      obtain ⟨⟨i1, i2⟩, i3⟩ := lines_twin h4
      refine ⟨⟨rfl, by simp only [List.any_cons, i1, i2]⟩, fun _ hc => ?_⟩
      simp only [List.any_cons, Bool.or_eq_false_iff] at hc
      obtain ⟨j1, j2⟩ := i3 hc.1 hc.2
      refine ⟨trivial, fun i => ?_⟩
      rw [headers_cons, headers_cons, header_twin j1 hc.1]
      simp only [j2]
    · have hn : ¬ (x = 13 ∧ (x' :: xs).head? = some 10) := fun h => hcr ⟨h.1, by injection h.2⟩
      have hn' : ¬ (y = 13 ∧ t.head? = some 10) := by
        obtain ⟨y', u, rfl, h3, h4⟩ := h2.cons
        intro h
        injection h.2 with e
        exact hcr ⟨h1.facts.2.2.2.1.1 h.1, h3.facts.2.2.1.1 e⟩
      have e1 : linesR (x :: x' :: xs) = (x :: (linesR (x' :: xs)).1, (linesR (x' :: xs)).2) := by rw [linesR]; exact if_neg hn
      have e2 : linesR (y :: t) = (y :: (linesR t).1, (linesR t).2) := by rw [linesR]; exact if_neg hn'
      rw [e1, e2]
      obtain ⟨⟨i1, i2⟩, i3⟩ := lines_twin h2
      have hb : crb y = crb x := by
        unfold crb
        rw [Bool.eq_iff_iff]
        simp [h1.facts.2.2.1, h1.facts.2.2.2.1]
      have hcc : ∀ (z : UInt8) (l : List UInt8), crL (z :: l) = (crb z || crL l) := fun _ _ => rfl
      refine ⟨⟨by simp only [hcc, hb, i1], i2⟩, fun hc1 hc2 => ?_⟩
      simp only [hcc, Bool.or_eq_false_iff] at hc1
      obtain ⟨j1, j2⟩ := i3 hc1.2 hc2
      exact ⟨⟨h1, j1⟩, j2⟩
theorem twin_parse {b h' : List UInt8} {E : Nat} (hi : Lib.index b sep4 = E) (hE : E ≤ b.length) (ht : Tw false (b.take E) h') : parseL (h' ++ b.drop E) = parseL b := by
  have hl : h'.length = E := by rw [ht.len, List.length_take]; omega
  have hs : smallL (h' ++ b.drop E) = smallL b := by
    have e : smallL b = smallL (b.take E ++ b.drop E) := by rw [List.take_append_drop]
    rw [e]
    have := ht.small
    unfold smallL at this ⊢
    rw [List.map_append, List.map_append, this]
  have hi' : Lib.index (h' ++ b.drop E) sep4 = E := by
    rw [← index_small (by decide) (h' ++ b.drop E), hs, index_small (by decide), hi]
  have e1 : (h' ++ b.drop E).take E = h' := by rw [List.take_append_of_le_length (by omega), ← hl, List.take_length]
  have e2 : (h' ++ b.drop E).drop (E + 4) = b.drop (E + 4) := by
    rw [List.drop_append, List.drop_of_length_le (by omega), List.nil_append, List.drop_drop]
    congr 1
    omega
  have hlen : (h' ++ b.drop E).length = b.length := by rw [List.length_append, List.length_drop]; omega
  have hT : ((E : Nat) : Int).toNat = E := Int.toNat_natCast E
  unfold parseL
  rw [hi', hi, hT, e1, e2, hlen, lns_lines _ h' (Nat.le_refl _), lns_lines _ (b.take E) (Nat.le_refl _)]
  obtain ⟨⟨i1, i2⟩, i3⟩ := lines_twin ht
  have ha : ((linesR h').1 :: (linesR h').2).any crL = ((linesR (b.take E)).1 :: (linesR (b.take E)).2).any crL := by
    simp only [List.any_cons, i1, i2]
  rw [ha]
  by_cases hc : ((linesR (b.take E)).1 :: (linesR (b.take E)).2).any crL = true
  · rw [if_pos hc, if_pos hc]
  · rw [if_neg hc, if_neg hc]
    have hc' : ((linesR (b.take E)).1 :: (linesR (b.take E)).2).any crL = false := by simpa using hc
    rw [List.any_cons, Bool.or_eq_false_iff] at hc'
    obtain ⟨j1, j2⟩ := i3 hc'.1 hc'.2
    unfold linesL
    simp only [same_first j1 hc'.1, j2]
end Go.Proofs.YtidhemjnchonaaaGreatDoor
