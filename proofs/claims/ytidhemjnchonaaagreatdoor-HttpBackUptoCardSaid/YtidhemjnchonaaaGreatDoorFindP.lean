/- Words on the first place of a text in another one from a place on. No program. -/
import Derived.Test.YtidhemjnchonaaaGreatDoorIdx
namespace Go.Proofs.YtidhemjnchonaaaGreatDoor

def bla (c : UInt8) : Bool := decide (c.toNat = 32) || decide (c.toNat = 9)
theorem ext_mid (s : List UInt8) (i j : Nat) : (⟨s.toArray⟩ : ByteArray).extract i j = ⟨((s.drop i).take (j - i)).toArray⟩ := by
  apply ByteArray.ext
  simp
/-- The place of a text in another one, from a place on. -/
def findFrom (s t : List UInt8) (f : Nat) : Int := if Lib.index (s.drop f) t = -1 then -1 else (f : Int) + Lib.index (s.drop f) t
theorem findFrom_is (s t : List UInt8) (f : Nat) : findFrom s t f = -1 ∨ ∃ n : Nat, findFrom s t f = n := by
  have := Lib.index_ge (s.drop f) t
  unfold findFrom
  split
  · exact .inl rfl
  · exact .inr ⟨f + (Lib.index (s.drop f) t).toNat, by omega⟩
theorem find_occ (s t : List UInt8) (f k : Nat) (h : f + k + t.length ≤ s.length) : Lib.occAt (s.drop f) t k = ((s.drop (f + k)).take t.length == t) := by
  rw [Lib.occAt_iff_take _ _ _ (by rw [List.length_drop]; omega), List.drop_drop]
theorem findFrom_hit {s t : List UInt8} {f k : Nat} (hk : ∀ j, j < k → Lib.occAt (s.drop f) t j = false) (hl : f + k + t.length ≤ s.length) (h : (s.drop (f + k)).take t.length = t) : findFrom s t f = ((f + k : Nat) : Int) := by
  have := Lib.index_first (s := s.drop f) (sub := t) (i := k) (by rw [List.length_drop]; omega) (by rw [find_occ s t f k hl, h]; simp) hk
  unfold findFrom
  rw [this, if_neg (by omega)]
  omega
theorem findFrom_next {s t : List UInt8} {f k : Nat} (hk : ∀ j, j < k → Lib.occAt (s.drop f) t j = false) (hl : f + k + t.length ≤ s.length) (h : ¬ (s.drop (f + k)).take t.length = t) : ∀ j, j < k + 1 → Lib.occAt (s.drop f) t j = false := by
  intro j hj
  rcases Nat.lt_or_ge j k with h' | h'
  · exact hk j h'
  · obtain rfl : j = k := by omega
    rw [find_occ s t f j hl]
    exact beq_false_of_ne h
theorem findFrom_miss {s t : List UInt8} {f k : Nat} (hne : t ≠ []) (hk : ∀ j, j < k → Lib.occAt (s.drop f) t j = false) (hl : s.length < f + k + t.length) : findFrom s t f = -1 := by
  unfold findFrom
  rcases Lib.index_spec (s.drop f) t with ⟨h1, _⟩ | ⟨i, h1, h2, h3, _⟩
  · rw [if_pos h1]
  · exfalso
    rcases Nat.lt_or_ge i k with h' | h'
    · rw [hk i h'] at h3; cases h3
    · have hlt := List.length_pos_iff.2 hne
      rw [Lib.occ_none hne (by rw [List.length_drop]; omega)] at h3; cases h3
theorem findFrom_no {s t : List UInt8} {f : Nat} (h : findFrom s t f = -1) : Lib.index (s.drop f) t = -1 := by
  unfold findFrom at h
  have := Lib.index_ge (s.drop f) t
  split at h
  · assumption
  · omega
theorem findFrom_at {s t : List UInt8} {f n : Nat} (hne : t ≠ []) (h : findFrom s t f = (n : Int)) : f ≤ n ∧ n + t.length ≤ s.length ∧ Lib.index (s.drop f) t = ((n - f : Nat) : Int) := by
  unfold findFrom at h
  split at h
  · omega
  · have h0 := Lib.index_ge (s.drop f) t
    have h1 : Lib.index (s.drop f) t = ((n - f : Nat) : Int) := by omega
    rcases Lib.index_spec (s.drop f) t with ⟨h1', _⟩ | ⟨i, h1', h2, h3, _⟩
    · omega
    · obtain rfl : i = n - f := by omega
      rcases Lib.occAt_room h3 with h' | h'
      · have hlt := List.length_pos_iff.2 hne
        rw [List.length_drop] at h'
        exact ⟨by omega, by omega, h1⟩
      · exact absurd h' hne
end Go.Proofs.YtidhemjnchonaaaGreatDoor
