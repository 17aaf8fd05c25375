/- Words on splitting and cutting, of no program: a text's lines by recursion over its bytes. -/
import Derived.Test.YtidhemjnchonaaaGreatDoorPlain
import Derived.Lib.CountLaws
namespace Go.Proofs.YtidhemjnchonaaaGreatDoor

theorem lns_miss {s sep : List UInt8} (h : Lib.index s sep = -1) : lns s sep = [s] := by
  rw [lns_eq, Lib.countB_miss ⟨s.toArray⟩ ⟨sep.toArray⟩ h]
  rfl
theorem lns_hit {s sep : List UInt8} {i : Nat} (h1 : 1 ≤ sep.length) (h : Lib.index s sep = i) : lns s sep = s.take i :: lns (s.drop (i + sep.length)) sep := by
  have hc : Lib.count s sep = 1 + Lib.count (s.drop (i + sep.length)) sep := Lib.count_hit (fun e => by subst e; simp at h1) h
  have hne : ¬ ((Lib.index s sep == -1) = true) := by rw [h, beq_iff_eq]; omega
  rw [lns_eq, lns_eq]
  show Lib.splitK sep 0 (Lib.count s sep) s = s.take i :: Lib.splitK sep 0 (Lib.count (s.drop (i + sep.length)) sep) (s.drop (i + sep.length))
  rw [hc, Nat.add_comm 1, Lib.splitK, if_neg hne, h]
  simp
/-- The first line, and the others. -/
def linesR : List UInt8 → List UInt8 × List (List UInt8)
  | [] => ([], [])
  | x :: t => if x = 13 ∧ t.head? = some 10 then ([], (linesR t).1.tail :: (linesR t).2) else (x :: (linesR t).1, (linesR t).2)
theorem linesR_cut (u : List UInt8) : linesR (13 :: 10 :: u) = ([], (linesR u).1 :: (linesR u).2) := by
  rw [linesR, if_pos ⟨rfl, rfl⟩, linesR, if_neg (fun h => by cases h.1)]
  rfl
theorem index_cons (x : UInt8) (t sub : List UInt8) : Lib.index (x :: t) sub = if sub.isPrefixOf (x :: t) then 0 else if Lib.index t sub == -1 then -1 else Lib.index t sub + 1 := rfl
theorem pre_two (x : UInt8) (t : List UInt8) : ([13, 10] : List UInt8).isPrefixOf (x :: t) = true ↔ x = 13 ∧ t.head? = some 10 := by
  cases t with
  | nil => simp [List.isPrefixOf]
  | cons y t => simp [List.isPrefixOf, @eq_comm _ x, @eq_comm _ y]
theorem linesR_miss : ∀ (s : List UInt8), Lib.index s [13, 10] = -1 → linesR s = (s, [])
  | [], _ => rfl
  | x :: t, h => by
    rw [index_cons] at h
    split at h
    · cases h
    · rename_i hp
      rw [linesR, if_neg (fun h' => hp ((pre_two x t).2 h'))]
      split at h
      · rename_i h2
        rw [linesR_miss t (eq_of_beq h2)]
      · have := Lib.index_ge t [13, 10]
        rename_i h2
        have h3 : ¬ Lib.index t [13, 10] = -1 := fun e => h2 (by rw [e]; rfl)
        omega
theorem linesR_hit : ∀ (s : List UInt8) (i : Nat), Lib.index s [13, 10] = i → linesR s = (s.take i, (linesR (s.drop (i + 2))).1 :: (linesR (s.drop (i + 2))).2)
  | [], i, h => by
    rw [show Lib.index [] [13, 10] = -1 from rfl] at h
    omega
  | x :: t, i, h => by
    rw [index_cons] at h
    split at h
    · rename_i hp
      obtain ⟨rfl, ht⟩ := (pre_two x t).1 hp
      obtain rfl : i = 0 := by omega
      cases t with
      | nil => cases ht
      | cons y u =>
        injection ht with ht
        subst ht
        rw [linesR_cut]
        rfl
    · rename_i hp
      rw [linesR, if_neg (fun h' => hp ((pre_two x t).2 h'))]
      split at h
      · omega
      · rename_i h2
        have h3 : ¬ Lib.index t [13, 10] = -1 := fun e => h2 (by rw [e]; rfl)
        have h4 := Lib.index_ge t [13, 10]
        obtain ⟨j, hj⟩ : ∃ j : Nat, Lib.index t [13, 10] = j := ⟨(Lib.index t [13, 10]).toNat, by omega⟩
        obtain rfl : i = j + 1 := by omega
        rw [linesR_hit t j hj]
        simp only [List.take_succ_cons, show j + 1 + 2 = (j + 2) + 1 from by omega, List.drop_succ_cons]
theorem lns_lines : ∀ (n : Nat) (s : List UInt8), s.length ≤ n → lns s [13, 10] = (linesR s).1 :: (linesR s).2
  | n, s, hn => by
    have h4 := Lib.index_ge s [13, 10]
    by_cases h : Lib.index s [13, 10] = -1
    · rw [lns_miss h, linesR_miss s h]
    · obtain ⟨i, hi⟩ : ∃ i : Nat, Lib.index s [13, 10] = i := ⟨(Lib.index s [13, 10]).toNat, by omega⟩
      rw [lns_hit (by decide) hi, linesR_hit s i hi]
      cases n with
      | zero =>
        have : s = [] := List.eq_nil_of_length_eq_zero (by omega)
        subst this
        rw [show Lib.index [] [13, 10] = -1 from rfl] at hi
        omega
      | succ n =>
        have hs : s ≠ [] := fun e => by subst e; rw [show Lib.index [] [13, 10] = -1 from rfl] at hi; omega
        have := List.length_pos_iff.2 hs
        rw [show ([13, 10] : List UInt8).length = 2 from rfl, lns_lines n (s.drop (i + 2)) (by rw [List.length_drop]; omega)]
/-- A cut at the first colon. -/
theorem cut_nil : cutL [] [58] = ([], [], false) := rfl
theorem cut_cons (x : UInt8) (t : List UInt8) : cutL (x :: t) [58] = if x = 58 then ([], t, true) else (x :: (cutL t [58]).1, (cutL t [58]).2.1, (cutL t [58]).2.2) := by
  have h4 := Lib.index_ge t [58]
  unfold cutL Lib.cut
  rw [index_cons]
  by_cases hx : x = 58
  · subst hx
    rw [if_pos (show ([58] : List UInt8).isPrefixOf (58 :: t) = true from by simp [List.isPrefixOf]), if_pos rfl]
    rfl
  · rw [if_neg (show ¬ ([58] : List UInt8).isPrefixOf (x :: t) = true from by simp [List.isPrefixOf]; exact fun h => hx h.symm), if_neg hx]
    by_cases h : Lib.index t [58] = -1
    · rw [h]; rfl
    · obtain ⟨j, hj⟩ : ∃ j : Nat, Lib.index t [58] = j := ⟨(Lib.index t [58]).toNat, by omega⟩
      have h5 : (Lib.index t [58] == -1) = false := beq_false_of_ne h
      have h6 : (if (Lib.index t [58] == -1) = true then (-1 : Int) else Lib.index t [58] + 1) = (j : Int) + 1 := by rw [h5, hj]; rfl
      rw [h6, hj, if_pos (by omega), if_pos (by omega)]
      simp only [show ((j : Int) + 1).toNat = j + 1 from by omega, Int.toNat_natCast, List.take_succ_cons, show ([58] : List UInt8).length = 1 from rfl, List.drop_succ_cons]
end Go.Proofs.YtidhemjnchonaaaGreatDoor
