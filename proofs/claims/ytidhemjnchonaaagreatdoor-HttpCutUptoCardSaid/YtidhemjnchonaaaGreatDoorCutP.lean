/- No beginning of a request is one, and none with more behind: the plain law. No program. -/
import Derived.Test.YtidhemjnchonaaaGreatDoorPlain
import Derived.Test.YtidhemjnchonaaaGreatDoorIdx
namespace Go.Proofs.YtidhemjnchonaaaGreatDoor

theorem lines_body {ls : List (List UInt8)} {x y : List UInt8} {q : Req} (e : linesL ls x = .ok q) (h : y.length ≠ x.length) : linesL ls y = .error 400 := by
  unfold linesL at e ⊢
  cases ls with
  | nil => cases e
  | cons l0 r =>
    cases hf : firstL l0 with
    | error c => simp only [hf] at e; cases e
    | ok mt =>
      obtain ⟨m, t⟩ := mt
      cases hh : headersL r 0 with
      | error c => simp only [hf, hh] at e; cases e
      | ok hs =>
        cases hn : lengthL hs with
        | error c => simp only [hf, hh, hn] at e; cases e
        | ok n =>
          simp only [hf, hh, hn] at e ⊢
          split at e
          · cases e
          · rename_i hb
            rw [if_pos (by have := Decidable.not_not.1 hb; omega)]
/-- What holds of bytes that are parsed. -/
theorem parse_has {b : List UInt8} {q : Req} (e : parseL b = .ok q) : ∃ E : Nat, Lib.index b sep4 = E ∧ E ≤ 65536 ∧ E + 4 ≤ b.length ∧ (lns (b.take E) [13, 10]).any crL = false ∧ linesL (lns (b.take E) [13, 10]) (b.drop (E + 4)) = .ok q := by
  unfold parseL at e
  split at e
  · cases e
  · split at e
    · cases e
    · split at e
      · cases e
      · split at e
        · cases e
        · rename_i h1 h2 h3 h4
          rcases Lib.index_spec b sep4 with ⟨g1, _⟩ | ⟨i, g1, g2, g3, _⟩
          · omega
          · have hi : (Lib.index b sep4).toNat = i := by omega
            rw [hi] at e h4
            refine ⟨i, g1, by omega, ?_, by simpa using h4, e⟩
            rcases Lib.occAt_room g3 with h' | h'
            · exact h'
            · cases h'
theorem parse_other {b b' : List UInt8} {q : Req} {E : Nat} (h1 : E ≤ 65536) (h4 : (lns (b.take E) [13, 10]).any crL = false) (h5 : linesL (lns (b.take E) [13, 10]) (b.drop (E + 4)) = .ok q)
    (hi : Lib.index b' sep4 = E) (ht : b'.take E = b.take E) (hl : (b'.drop (E + 4)).length ≠ (b.drop (E + 4)).length) : parseL b' = .error 400 := by
  have hE : (Lib.index b' sep4).toNat = E := by omega
  unfold parseL
  rw [if_neg (by omega), if_neg (by omega), if_neg (by omega), hE, ht, if_neg (by rw [h4]; decide)]
  exact lines_body h5 hl
theorem parse_short {b : List UInt8} {q : Req} (e : parseL b = .ok q) (k : Nat) (hk : k < b.length) : ∃ c, parseL (b.take k) = .error c := by
  obtain ⟨E, h1, h2, h3, h4, h5⟩ := parse_has e
  by_cases hE : k < E + 4
  · have hi := Lib.index_take_miss (sub := sep4) (by decide) h1 (Nat.le_of_lt hk) (by rw [show sep4.length = 4 from rfl]; omega)
    unfold parseL
    rw [hi]
    by_cases hl : 65536 < (b.take k).length
    · exact ⟨431, if_pos ⟨by decide, hl⟩⟩
    · rw [if_neg (fun h => hl h.2), if_neg (by decide), if_pos (by decide)]
      exact ⟨_, rfl⟩
  · have hi := Lib.index_take_hit (sub := sep4) h1 (Nat.le_of_lt hk) (by rw [show sep4.length = 4 from rfl]; omega)
    refine ⟨400, parse_other h2 h4 h5 hi (by rw [List.take_take]; congr 1; omega) ?_⟩
    simp only [List.length_drop, List.length_take]
    omega
theorem parse_long {b : List UInt8} {q : Req} (e : parseL b = .ok q) (m : List UInt8) (hm : m ≠ []) : parseL (b ++ m) = .error 400 := by
  obtain ⟨E, h1, h2, h3, h4, h5⟩ := parse_has e
  have := List.length_pos_iff.2 hm
  refine parse_other h2 h4 h5 (Lib.index_app_hit h1) (by rw [List.take_append_of_le_length (by omega)]) ?_
  simp only [List.length_drop, List.length_append]
  omega
end Go.Proofs.YtidhemjnchonaaaGreatDoor
