/- Plain law: the hsh on natural numbers, and that it tells two texts of one byte apart. No program here; no condition. -/
import Derived.Laws.BitsAllLaws
import Derived.Laws.Bits64
namespace Go.Idn
/-- Hash's hstep and end on natural numbers. -/
def M : Nat := 18446744073709551616
def hstep (h c : Nat) : Nat := (h ^^^ c) * 1099511628211 % 18446744073709551616
def xs (a : Nat) : Nat := a ^^^ a / 8589934592
def mix1 (h by_ : Nat) : Nat := xs h * by_ % 18446744073709551616
def fin (h : Nat) : Nat := xs (mix1 (mix1 h 18397679294719823053) 14181476777654086739)
def hsh (l : List Nat) : Nat := fin (l.foldl hstep 14695981039346656037)

theorem xs_inv (h : Nat) (hh : h < 18446744073709551616) : xs (xs h) = h := by
  unfold xs
  have e : h / 8589934592 = h >>> 33 := (Nat.shiftRight_eq_div_pow h 33).symm
  have e2 : (h ^^^ h >>> 33) / 8589934592 = (h ^^^ h >>> 33) >>> 33 := (Nat.shiftRight_eq_div_pow _ 33).symm
  rw [e, e2, Nat.shiftRight_xor_distrib, ← Nat.shiftRight_add]
  have e3 : h >>> (33 + 33) = 0 := by rw [Nat.shiftRight_eq_div_pow]; omega
  rw [e3, Nat.xor_zero, Nat.xor_assoc, Nat.xor_self, Nat.xor_zero]
theorem xs_lt (h : Nat) (hh : h < 18446744073709551616) : xs h < 18446744073709551616 :=
  Nat.xor_lt_two_pow (n := 64) hh (by omega)
theorem xs_inj {a b : Nat} (ha : a < 18446744073709551616) (hb : b < 18446744073709551616) (h : xs a = xs b) : a = b := by
  rw [← xs_inv a ha, ← xs_inv b hb, h]
theorem mul_inj {k inv : Nat} (hk : k * inv % 18446744073709551616 = 1) {a b : Nat} (ha : a < 18446744073709551616) (hb : b < 18446744073709551616)
    (h : a * k % 18446744073709551616 = b * k % 18446744073709551616) : a = b := by
  have key : ∀ x, x < 18446744073709551616 → x * k % 18446744073709551616 * inv % 18446744073709551616 = x := by
    intro x hx
    rw [Nat.mod_mul_mod, Nat.mul_assoc, Nat.mul_mod, hk, Nat.mul_one, Nat.mod_mod]
    exact Nat.mod_eq_of_lt hx
  rw [← key a ha, ← key b hb, h]
theorem mix1_inj {k inv : Nat} (hk : k * inv % 18446744073709551616 = 1) {a b : Nat} (ha : a < 18446744073709551616) (hb : b < 18446744073709551616) (h : mix1 a k = mix1 b k) : a = b :=
  xs_inj ha hb (mul_inj hk (xs_lt a ha) (xs_lt b hb) h)
theorem mix1_lt (a k : Nat) : mix1 a k < 18446744073709551616 := Nat.mod_lt _ (by decide)
theorem fin_inj {a b : Nat} (ha : a < 18446744073709551616) (hb : b < 18446744073709551616) (h : fin a = fin b) : a = b := by
  rw [fin, fin] at h
  have h1 : mix1 (mix1 a 18397679294719823053) 14181476777654086739 = mix1 (mix1 b 18397679294719823053) 14181476777654086739 := xs_inj (mix1_lt _ _) (mix1_lt _ _) h
  have h2 : mix1 a 18397679294719823053 = mix1 b 18397679294719823053 := mix1_inj (inv := 11291846944257947611) (by decide) (mix1_lt _ _) (mix1_lt _ _) h1
  exact mix1_inj (inv := 5725274745694666757) (by decide) ha hb h2
theorem hstep_lt (x c : Nat) : hstep x c < 18446744073709551616 := Nat.mod_lt _ (by decide)
theorem hsh_one {a b : Nat} (ha : a < 256) (hb : b < 256) (h : hsh [a] = hsh [b]) : a = b := by
  rw [hsh, hsh, List.foldl_cons, List.foldl_cons, List.foldl_nil, List.foldl_nil] at h
  have h1 : hstep 14695981039346656037 a = hstep 14695981039346656037 b := fin_inj (hstep_lt _ _) (hstep_lt _ _) h
  rw [hstep, hstep] at h1
  have hx : ∀ c, c < 256 → 14695981039346656037 ^^^ c < 18446744073709551616 := fun c hc => Nat.xor_lt_two_pow (n := 64) (by decide) (by omega)
  have h2 := mul_inj (k := 1099511628211) (inv := 14886173955864302971) (by decide) (hx a ha) (hx b hb) h1
  have h3 : 14695981039346656037 ^^^ (14695981039346656037 ^^^ a) = 14695981039346656037 ^^^ (14695981039346656037 ^^^ b) := by rw [h2]
  rwa [← Nat.xor_assoc, ← Nat.xor_assoc, Nat.xor_self, Nat.zero_xor, Nat.zero_xor] at h3
end Go.Idn
