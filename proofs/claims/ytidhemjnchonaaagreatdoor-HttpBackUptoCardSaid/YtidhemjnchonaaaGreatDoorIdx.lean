/- Words on the first place of a text in another one, of no program: in a beginning of it, and with more behind. -/
import Derived.Lib.IndexMore
import Derived.Lib.IndexLaws
namespace Go.Lib
theorem occ_take {b sub : List UInt8} {j k : Nat} (h : j + sub.length ≤ k) (hk : k ≤ b.length) : occAt (b.take k) sub j = occAt b sub j := by
  rw [occAt_iff_take _ _ _ (by rw [List.length_take]; omega), occAt_iff_take _ _ _ (by omega)]
  congr 1
  rw [List.drop_take, List.take_take]
  congr 1
  omega
theorem occ_none {s sub : List UInt8} {j : Nat} (hne : sub ≠ []) (h : s.length < j + sub.length) : occAt s sub j = false := by
  cases e : occAt s sub j with
  | false => rfl
  | true =>
    rcases occAt_room e with h' | h'
    · omega
    · exact absurd h' hne
theorem index_take_hit {b sub : List UInt8} {i k : Nat} (h : index b sub = i) (hk : k ≤ b.length) (hi : i + sub.length ≤ k) : index (b.take k) sub = i := by
  rcases index_spec b sub with ⟨h1, _⟩ | ⟨i', h1, h2, h3, h4⟩
  · omega
  · obtain rfl : i' = i := by omega
    refine index_first (by rw [List.length_take]; omega) (by rw [occ_take hi hk]; exact h3) (fun j hj => ?_)
    rw [occ_take (by omega) hk]
    exact h4 j hj
theorem index_take_miss {b sub : List UInt8} {i k : Nat} (hne : sub ≠ []) (h : index b sub = i) (hk : k ≤ b.length) (hi : k < i + sub.length) : index (b.take k) sub = -1 := by
  rcases index_spec b sub with ⟨h1, _⟩ | ⟨i', h1, h2, h3, h4⟩
  · omega
  · obtain rfl : i' = i := by omega
    rcases index_spec (b.take k) sub with ⟨g1, _⟩ | ⟨g, g1, g2, g3, g4⟩
    · exact g1
    · exfalso
      have hr : g + sub.length ≤ (b.take k).length := by
        rcases occAt_room g3 with h' | h'
        · exact h'
        · exact absurd h' hne
      rw [List.length_take] at hr
      rw [occ_take (by omega) hk] at g3
      by_cases hg : g < i'
      · rw [h4 g hg] at g3; cases g3
      · omega
theorem index_app_hit {b m sub : List UInt8} {i : Nat} (h : index b sub = i) : index (b ++ m) sub = i := by
  rcases index_spec b sub with ⟨h1, _⟩ | ⟨i', h1, h2, h3, h4⟩
  · omega
  · obtain rfl : i' = i := by omega
    have key : ∀ j, j + sub.length ≤ b.length → occAt (b ++ m) sub j = occAt b sub j := by
      intro j hj
      rw [occAt_iff_take _ _ _ (by rw [List.length_append]; omega), occAt_iff_take _ _ _ hj]
      congr 1
      rw [List.drop_append_of_le_length (by omega), List.take_append_of_le_length (by rw [List.length_drop]; omega)]
    have hroom : i' + sub.length ≤ b.length := by
      rcases occAt_room h3 with h' | h'
      · exact h'
      · rw [h']; simpa using h2
    refine index_first (by rw [List.length_append]; omega) (by rw [key _ hroom]; exact h3) (fun j hj => ?_)
    rw [key _ (by omega)]
    exact h4 j hj
end Go.Lib
