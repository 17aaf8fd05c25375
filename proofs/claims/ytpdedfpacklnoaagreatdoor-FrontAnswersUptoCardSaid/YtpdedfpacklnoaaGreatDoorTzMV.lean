/- The number at the beginning of bytes: plain, no program. Plain: the check sum on natural numbers. No program; no condition. Plain: a number's bytes. No program; no condition. Plain: frames. No program -/
import Derived.Laws.BitsAllLaws
import Derived.Laws.Bits64
import Derived.Laws.BitsLemmas
namespace Go.Wr
set_option maxRecDepth 100000
/-- A number's reading: what is wrong, or the number and how many bytes it takes. -/
inductive Got where
 | bad (e : Nat)
 | got (n k : Nat)
/-- From the i-th byte on, n being read so far. -/
def num : List Nat → Nat → Nat → Got
 | [], _, _ => .bad 2
 | x :: l, i, n => if i = 8 ∧ 128 ≤ x then .bad 5 else if x < 128 then (if 0 < i ∧ x = 0 then .bad 10 else .got (n + x * 128 ^ i) (i + 1)) else num l (i + 1) (n + x % 128 * 128 ^ i)
/-- What a reader's call gives: the value, the error, where it stands then. -/
def uintAt (bs : List Nat) (i : Nat) : Nat × Nat × Nat := match num (bs.drop i) 0 0 with
 | .bad c => (0, c, i)
 | .got n k => (n, 0, i + k)
def byteAt (bs : List Nat) (i : Nat) : Nat × Nat × Nat := if i < bs.length then (bs.getD i 0, 0, i + 1) else (0, 2, i)
def textAt (bs : List Nat) (i : Nat) (most : Int) : List Nat × Nat × Nat := match num (bs.drop i) 0 0 with
 | .bad c => ([], c, i)
 | .got n k => if max most 0 < (n : Int) then ([], 4, i) else if bs.length - (i + k) < n then ([], 2, i) else ((bs.drop (i + k)).take n, 0, i + k + n)
/-- Bytes as a text. -/
def bstr (T : List Nat) : ByteArray := ⟨(T.map UInt8.ofNat).toArray⟩
end Go.Wr
namespace Go
set_option maxRecDepth 100000
theorem ofInt_i64 (a : Nat) (ha : a < 9223372036854775808) : (BitVec.ofInt 64 (a : Int)).toNat = a := by
 rw [BitVec.ofInt_natCast, BitVec.toNat_ofNat]; exact Nat.mod_eq_of_lt (by omega)
theorem i64_xor_nat (a b : Nat) (ha : a < 9223372036854775808) (hb : b < 9223372036854775808) : bits .xor .i64 (a : Int) (b : Int) = ((a ^^^ b : Nat) : Int) := by
 have hx : a ^^^ b < 2 ^ 63 := Nat.xor_lt_two_pow (by omega) (by omega)
 show IntKind.i64.wrap ((BitVec.ofInt 64 (a : Int) ^^^ BitVec.ofInt 64 (b : Int)).toNat : Int) = _
 rw [BitVec.toNat_xor, ofInt_i64 a ha, ofInt_i64 b hb, IntKind.wrap_i64]
 omega

end Go
namespace Go.Wr
def crcBit (c : Nat) : Nat := if c % 2 = 1 then c / 2 ^^^ 3988292384 else c / 2
/-- k turns. -/
def crcN : Nat → Nat → Nat
 | 0, c => c
 | k + 1, c => crcBit (crcN k c)
def crcByte (c x : Nat) : Nat := crcN 8 (c ^^^ x)
def crcAll (bs : List Nat) : Nat := bs.foldl crcByte 4294967295
def sum (bs : List Nat) : Nat := crcAll bs ^^^ 4294967295
theorem crcBit_lt {c : Nat} (h : c < 4294967296) : crcBit c < 4294967296 := by
 unfold crcBit
 split
 ·exact Nat.xor_lt_two_pow (n := 32) (by omega) (by decide)
 ·omega
theorem crcN_lt {c : Nat} (h : c < 4294967296) : ∀ k, crcN k c < 4294967296
 | 0 => h
 | k + 1 => crcBit_lt (crcN_lt h k)
theorem xor_lt32 {c x : Nat} (h : c < 4294967296) (hx : x < 256) : c ^^^ x < 4294967296 := Nat.xor_lt_two_pow (n := 32) h (by omega)
theorem crcByte_lt {c x : Nat} (h : c < 4294967296) (hx : x < 256) : crcByte c x < 4294967296 := crcN_lt (xor_lt32 h hx) 8
theorem crcAll_lt (bs : List Nat) (h : ∀ x ∈ bs, x < 256) : crcAll bs < 4294967296 := by
 have key : ∀ (l : List Nat) (c : Nat), (∀ x ∈ l, x < 256) → c < 4294967296 → l.foldl crcByte c < 4294967296 := by
  intro l
  induction l with
  | nil => intro c _ hc; exact hc
  | cons x l ih => intro c hl hc; exact ih _ (fun y hy => hl y (List.mem_cons_of_mem _ hy)) (crcByte_lt hc (hl x (List.mem_cons_self ..)))
 exact key bs _ h (by decide)
theorem sum_lt (bs : List Nat) (h : ∀ x ∈ bs, x < 256) : sum bs < 4294967296 := Nat.xor_lt_two_pow (n := 32) (crcAll_lt bs h) (by decide)
theorem crcAll_snoc (l : List Nat) (x : Nat) : crcAll (l ++ [x]) = crcByte (crcAll l) x := by unfold crcAll; rw [List.foldl_append]; rfl
end Go.Wr
namespace Go.Wr
set_option maxRecDepth 100000
/-- A number's bytes, seven bits a byte, the lowest first. -/
def enc (n : Nat) : List Nat := if n < 128 then [n] else (n % 128 + 128) :: enc (n / 128)
termination_by n
decreasing_by omega
theorem enc_small {n : Nat} (h : n < 128) : enc n = [n] := by rw [enc, if_pos h]
theorem enc_big {n : Nat} (h : ¬ n < 128) : enc n = (n % 128 + 128) :: enc (n / 128) := by rw [enc, if_neg h]
theorem enc_len : ∀ (k n : Nat), n < 128 ^ (k + 1) → (enc n).length ≤ k + 1
 | 0, n, h => by rw [enc_small (by simpa using h)]; simp
 | k + 1, n, h => by
  by_cases hn : n < 128
  ·rw [enc_small hn]; simp
  ·rw [enc_big hn, List.length_cons]
   have := enc_len k (n / 128) (by rw [Nat.div_lt_iff_lt_mul (by decide), ← Nat.pow_succ]; exact h)
   omega
theorem enc_len9 {n : Nat} (h : n < 9223372036854775808) : (enc n).length ≤ 9 := enc_len 8 n (by omega)
end Go.Wr
namespace Go.Wr
set_option maxRecDepth 100000
/-- A number's four bytes, the lowest first. -/
def le4 (s : Nat) : List Nat := [s % 256, s / 256 % 256, s / 65536 % 256, s / 16777216 % 256]
def val4 (l : List Nat) : Nat := l.getD 0 0 + l.getD 1 0 * 256 + l.getD 2 0 * 65536 + l.getD 3 0 * 16777216
/-- A payload's frame, and an error. -/
def frame (bs : List Nat) : List Nat × Nat := if 65536 < bs.length then ([], 4) else (enc bs.length ++ bs ++ le4 (sum bs), 0)
/-- The first frame's payload, what stands behind it, an error. -/
def unframe (bs : List Nat) : List Nat × List Nat × Nat := match num bs 0 0 with
 | .bad c => ([], [], c)
 | .got n k =>
  if 65536 < n then ([], [], 4)
  else if bs.length - k < n + 4 then ([], [], 2)
  else if val4 ((bs.drop (k + n)).take 4) ≠ sum ((bs.drop k).take n) then ([], [], 11)
  else ((bs.drop k).take n, bs.drop (k + n + 4), 0)
theorem le4_lt (s : Nat) : ∀ x ∈ le4 s, x < 256 := by
 intro x hx
 simp only [le4, List.mem_cons, List.not_mem_nil, or_false] at hx
 omega
end Go.Wr
namespace Go.Wr
set_option maxRecDepth 100000
theorem num_lt : ∀ (l : List Nat) (i n m k : Nat), i ≤ 8 → n < 128 ^ i → (∀ x ∈ l, x < 256) → num l i n = .got m k → m < 9223372036854775808
 | [], _, _, _, _, _, _, _, h => by simp [num] at h
 | x :: l, i, n, m, k, hi, hn, hb, h => by
  have hx := hb x (List.mem_cons_self ..)
  have h1 : n + x % 128 * 128 ^ i < 128 ^ (i + 1) := by
   have h2 : x % 128 * 128 ^ i ≤ 127 * 128 ^ i := Nat.mul_le_mul_right _ (by omega)
   rw [Nat.pow_succ]; omega
  by_cases h8 : i = 8 ∧ 128 ≤ x
  ·rw [num, if_pos h8] at h; cases h
  ·by_cases hs : x < 128
   ·by_cases hz : 0 < i ∧ x = 0
    ·rw [num, if_neg h8, if_pos hs, if_pos hz] at h; cases h
    ·rw [num, if_neg h8, if_pos hs, if_neg hz] at h
     injection h with h3 _
     rw [Nat.mod_eq_of_lt hs, h3] at h1
     exact Nat.lt_of_lt_of_le h1 (Nat.le_trans (Nat.pow_le_pow_right (by decide) (show i + 1 ≤ 9 by omega)) (by decide))
   ·rw [num, if_neg h8, if_neg hs] at h
    exact num_lt l (i + 1) _ m k (by omega) h1 (fun y hy => hb y (List.mem_cons_of_mem _ hy)) h
end Go.Wr
