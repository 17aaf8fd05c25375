/- Plain: what is known of a request that was parsed, and of the status by which bytes are refused. No program. -/
import Derived.Test.YtidhemjnchonaaaGreatDoorFind
namespace Go.Proofs.YtidhemjnchonaaaGreatDoor

theorem small_len (s : List UInt8) : (smallL s).length = s.length := by simp [smallL]
theorem header_len {l : List UInt8} {h : Hdr} (e : headerL l = some h) : h.1.length ≤ 64 := by
  unfold headerL at e
  split at e
  · rename_i hc
    injection e with e
    rw [← e]
    simp only [Bool.and_eq_true] at hc
    have := hc.1.2
    unfold tokenL at this
    simp only [Bool.and_eq_true, decide_eq_true_eq] at this
    simp only [small_len]
    exact this.1.2
  · cases e
theorem headers_len : ∀ (ls : List (List UInt8)) (i : Nat) (hs : List Hdr), headersL ls i = .ok hs → ∀ h ∈ hs, h.1.length ≤ 64
  | [], i, hs, e, h, hm => by
    simp only [headersL] at e
    injection e with e
    subst e
    cases hm
  | l :: ls, i, hs, e, h, hm => by
    rw [headers_cons] at e
    split at e
    · cases e
    · split at e
      · cases e
      · rename_i x hx
        split at e
        · cases e
        · rename_i q hq
          injection e with e
          subst e
          rcases List.mem_cons.1 hm with rfl | hm
          · exact header_len hx
          · exact headers_len ls (i + 1) q hq h hm
theorem headers_err : ∀ (ls : List (List UInt8)) (i : Nat) (c : Int), headersL ls i = .error c → c = 400 ∨ c = 431
  | [], i, c, e => by cases e
  | l :: ls, i, c, e => by
    rw [headers_cons] at e
    split at e
    · injection e with e; exact .inr e.symm
    · split at e
      · injection e with e; exact .inl e.symm
      · split at e
        · rename_i q hq
          injection e with e
          subst e
          exact headers_err ls (i + 1) _ hq
        · cases e
def codes : List Int := [400, 413, 414, 431, 501, 505]
theorem first_err {l : List UInt8} {c : Int} (e : firstL l = .error c) : c ∈ codes := by
  unfold firstL at e
  split at e
  · split at e
    · injection e with e; subst e; decide
    · split at e
      · injection e with e; subst e; decide
      · split at e
        · injection e with e; subst e; decide
        · split at e
          · injection e with e; subst e; decide
          · split at e
            · injection e with e; subst e; decide
            · split at e
              · injection e with e; subst e; decide
              · split at e
                · injection e with e; subst e; decide
                · cases e
  · injection e with e; subst e; decide
theorem first_ok {l m t : List UInt8} (e : firstL l = .ok (m, t)) : m ≠ [] ∧ ∃ r, t = 47 :: r := by
  unfold firstL at e
  split at e
  · rename_i m' t' v' hl
    split at e
    · cases e
    · rename_i h1
      split at e
      · cases e
      · split at e
        · cases e
        · rename_i h2
          split at e
          · cases e
          · split at e
            · cases e
            · split at e
              · cases e
              · split at e
                · cases e
                · injection e with e
                  injection e with e1 e2
                  subst e1 e2
                  refine ⟨fun h => h1 (.inl h), ?_⟩
                  have h3 := (Decidable.not_not.1 h2).1
                  cases t' with
                  | nil => cases h3
                  | cons x r =>
                    simp only [List.head?_cons, Option.some.injEq] at h3
                    exact ⟨r, by rw [h3]⟩
  · cases e
theorem length_err {hs : List Hdr} {c : Int} (e : lengthL hs = .error c) : c ∈ codes := by
  unfold lengthL at e
  repeat' split at e
  all_goals first | (cases e; done) | (cases e; decide)
theorem length_ok {hs : List Hdr} {n : Nat} (e : lengthL hs = .ok n) : n ≤ 4096 ∧ cntL hs hostK = 1 := by
  unfold lengthL at e
  split at e
  · cases e
  · split at e
    · cases e
    · rename_i h
      have h2 : cntL hs hostK = 1 ∧ _ := Decidable.not_not.1 h
      refine ⟨?_, h2.1⟩
      split at e
      · injection e with e; omega
      · split at e
        · cases e
        · split at e
          · cases e
          · injection e with e; omega
theorem parse_err {b : List UInt8} {c : Int} (e : parseL b = .error c) : c ∈ codes := by
  unfold parseL linesL at e
  split at e
  · injection e with e; subst e; decide
  · split at e
    · injection e with e; subst e; decide
    · split at e
      · injection e with e; subst e; decide
      · split at e
        · injection e with e; subst e; decide
        · split at e
          · injection e with e; subst e; decide
          · split at e
            · rename_i h; injection e with e; subst e; exact first_err h
            · split at e
              · rename_i h
                injection e with e; subst e
                rcases headers_err _ _ _ h with rfl | rfl <;> decide
              · split at e
                · rename_i h; injection e with e; subst e; exact length_err h
                · split at e
                  · injection e with e; subst e; decide
                  · cases e
/-- What a request that was parsed is. -/
theorem parse_ok {b : List UInt8} {q : Req} (e : parseL b = .ok q) :
    ∃ (ls : List (List UInt8)) (n k : Nat) (l0 : List UInt8), firstL l0 = .ok (q.m, q.p) ∧ headersL ls 0 = .ok q.hs ∧ lengthL q.hs = .ok n ∧ q.b.length = n ∧ q.b = b.drop k ∧ l0 :: ls = lns (b.take (Lib.index b sep4).toNat) [13, 10] ∧ k = (Lib.index b sep4).toNat + 4 := by
  unfold parseL linesL at e
  split at e
  · cases e
  · split at e
    · cases e
    · split at e
      · cases e
      · split at e
        · cases e
        · split at e
          · cases e
          · rename_i l0 ls hls
            split at e
            · cases e
            · rename_i m t hf
              split at e
              · cases e
              · rename_i hs hh
                split at e
                · cases e
                · rename_i n hn
                  split at e
                  · cases e
                  · rename_i hb
                    injection e with e
                    subst e
                    exact ⟨ls, n, _, l0, hf, hh, hn, by simpa using hb, rfl, hls.symm, rfl⟩
theorem find_host {hs : List Hdr} (h : cntL hs hostK = 1) : (findL hs hostK).isSome = true := by
  unfold cntL at h
  unfold findL
  rw [Option.isSome_map, List.find?_isSome]
  obtain ⟨x, hx⟩ : ∃ x, x ∈ hs.filter fun h => h.1 == hostK := List.exists_mem_of_length_pos (by omega)
  obtain ⟨h1, h2⟩ := List.mem_filter.1 hx
  refine ⟨x, h1, ?_⟩
  unfold hit
  rw [eq_of_beq h2]
  simp
end Go.Proofs.YtidhemjnchonaaaGreatDoor
