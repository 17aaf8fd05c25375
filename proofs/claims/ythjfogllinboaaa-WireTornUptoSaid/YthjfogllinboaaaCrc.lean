/- Plain: the check sum on natural numbers. No program; no condition. -/
import Derived.Laws.BitsAllLaws
import Derived.Laws.BitsLemmas
namespace Go
theorem ofInt_i64 (a : Nat) (ha : a < 9223372036854775808) : (BitVec.ofInt 64 (a : Int)).toNat = a := by
  rw [BitVec.ofInt_natCast, BitVec.toNat_ofNat]; exact Nat.mod_eq_of_lt (by omega)
theorem i64_and_nat (a b : Nat) (ha : a < 9223372036854775808) (hb : b < 9223372036854775808) : bits .and .i64 (a : Int) (b : Int) = ((a &&& b : Nat) : Int) := by
  have hx : a &&& b < 2 ^ 63 := Nat.and_lt_two_pow _ (by omega)
  show IntKind.i64.wrap ((BitVec.ofInt 64 (a : Int) &&& BitVec.ofInt 64 (b : Int)).toNat : Int) = _
  rw [BitVec.toNat_and, ofInt_i64 a ha, ofInt_i64 b hb, IntKind.wrap_i64]
  omega
theorem i64_or_nat (a b : Nat) (ha : a < 9223372036854775808) (hb : b < 9223372036854775808) : bits .or .i64 (a : Int) (b : Int) = ((a ||| b : Nat) : Int) := by
  have hx : a ||| b < 2 ^ 63 := Nat.or_lt_two_pow (by omega) (by omega)
  show IntKind.i64.wrap ((BitVec.ofInt 64 (a : Int) ||| BitVec.ofInt 64 (b : Int)).toNat : Int) = _
  rw [BitVec.toNat_or, ofInt_i64 a ha, ofInt_i64 b hb, IntKind.wrap_i64]
  omega
theorem i64_xor_nat (a b : Nat) (ha : a < 9223372036854775808) (hb : b < 9223372036854775808) : bits .xor .i64 (a : Int) (b : Int) = ((a ^^^ b : Nat) : Int) := by
  have hx : a ^^^ b < 2 ^ 63 := Nat.xor_lt_two_pow (by omega) (by omega)
  show IntKind.i64.wrap ((BitVec.ofInt 64 (a : Int) ^^^ BitVec.ofInt 64 (b : Int)).toNat : Int) = _
  rw [BitVec.toNat_xor, ofInt_i64 a ha, ofInt_i64 b hb, IntKind.wrap_i64]
  omega

end Go
namespace Go.Wr
def crcBit (c : Nat) : Nat := if c % 2 = 1 then c / 2 ^^^ 3988292384 else c / 2
/-- k turns. -/
def crcN : Nat → Nat → Nat
  | 0, c => c
  | k + 1, c => crcBit (crcN k c)
def crcByte (c x : Nat) : Nat := crcN 8 (c ^^^ x)
def crcAll (bs : List Nat) : Nat := bs.foldl crcByte 4294967295
def sum (bs : List Nat) : Nat := crcAll bs ^^^ 4294967295
theorem crcBit_lt {c : Nat} (h : c < 4294967296) : crcBit c < 4294967296 := by
  unfold crcBit
  split
  · exact Nat.xor_lt_two_pow (n := 32) (by omega) (by decide)
  · omega
theorem crcN_lt {c : Nat} (h : c < 4294967296) : ∀ k, crcN k c < 4294967296
  | 0 => h
  | k + 1 => crcBit_lt (crcN_lt h k)
theorem xor_lt32 {c x : Nat} (h : c < 4294967296) (hx : x < 256) : c ^^^ x < 4294967296 := Nat.xor_lt_two_pow (n := 32) h (by omega)
theorem crcByte_lt {c x : Nat} (h : c < 4294967296) (hx : x < 256) : crcByte c x < 4294967296 := crcN_lt (xor_lt32 h hx) 8
theorem crcAll_lt (bs : List Nat) (h : ∀ x ∈ bs, x < 256) : crcAll bs < 4294967296 := by
  have key : ∀ (l : List Nat) (c : Nat), (∀ x ∈ l, x < 256) → c < 4294967296 → l.foldl crcByte c < 4294967296 := by
    intro l
    induction l with
    | nil => intro c _ hc; exact hc
    | cons x l ih => intro c hl hc; exact ih _ (fun y hy => hl y (List.mem_cons_of_mem _ hy)) (crcByte_lt hc (hl x (List.mem_cons_self ..)))
  exact key bs _ h (by decide)
theorem sum_lt (bs : List Nat) (h : ∀ x ∈ bs, x < 256) : sum bs < 4294967296 := Nat.xor_lt_two_pow (n := 32) (crcAll_lt bs h) (by decide)
theorem crcAll_snoc (l : List Nat) (x : Nat) : crcAll (l ++ [x]) = crcByte (crcAll l) x := by unfold crcAll; rw [List.foldl_append]; rfl
end Go.Wr
