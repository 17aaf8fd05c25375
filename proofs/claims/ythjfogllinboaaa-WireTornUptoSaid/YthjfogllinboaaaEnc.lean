/- Plain: a number's bytes. No program; no condition. -/
namespace Go.Wr
/-- A number's bytes, seven bits a byte, the lowest first. -/
def enc (n : Nat) : List Nat := if n < 128 then [n] else (n % 128 + 128) :: enc (n / 128)
termination_by n
decreasing_by omega
theorem enc_small {n : Nat} (h : n < 128) : enc n = [n] := by rw [enc, if_pos h]
theorem enc_big {n : Nat} (h : ¬ n < 128) : enc n = (n % 128 + 128) :: enc (n / 128) := by rw [enc, if_neg h]
theorem enc_len : ∀ (k n : Nat), n < 128 ^ (k + 1) → (enc n).length ≤ k + 1
  | 0, n, h => by rw [enc_small (by simpa using h)]; simp
  | k + 1, n, h => by
    by_cases hn : n < 128
    · rw [enc_small hn]; simp
    · rw [enc_big hn, List.length_cons]
      have := enc_len k (n / 128) (by rw [Nat.div_lt_iff_lt_mul (by decide), ← Nat.pow_succ]; exact h)
      omega
theorem enc_len9 {n : Nat} (h : n < 9223372036854775808) : (enc n).length ≤ 9 := enc_len 8 n (by omega)
theorem enc_lt : ∀ (n : Nat), ∀ x ∈ enc n, x < 256 := by
  intro n
  induction n using Nat.strongRecOn with
  | ind n ih =>
    intro x hx
    by_cases hn : n < 128
    · rw [enc_small hn] at hx; simp at hx; omega
    · rw [enc_big hn] at hx
      rcases List.mem_cons.1 hx with rfl | h
      · omega
      · exact ih (n / 128) (by omega) x h
theorem enc_pos (n : Nat) : 1 ≤ (enc n).length := by
  by_cases hn : n < 128
  · rw [enc_small hn]; simp
  · rw [enc_big hn]; simp
end Go.Wr
