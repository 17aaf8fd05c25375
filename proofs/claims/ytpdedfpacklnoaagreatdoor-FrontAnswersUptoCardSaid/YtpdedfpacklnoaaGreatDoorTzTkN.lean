/- Contract of token.numbers: the table of the letters' numbers. Plain: four letters at once; 'or' and 'and' of small numbers. Contract of token.Bytes: bytesL. -/
import Derived.Test.YtpdedfpacklnoaaGreatDoorTzML
import Derived.Deep.WholeRow
import Derived.Laws.BitsAllLaws
import Derived.Test.YtpdedfpacklnoaaGreatDoorTzMX
import Derived.WalkMore
import Derived.ScopeJumps
set_option maxRecDepth 100000
namespace Go.Proofs.YtpdedfpacklnoaaGreatDoor
open Go.RowKit Go.BL Go.Ct Go.Sl

theorem alpha_at : ∀ k : Nat, ∀ h : k < 64, ((⟨#[65, 66, 67, 68, 69, 70, 71, 72, 73, 74, 75, 76, 77, 78, 79, 80, 81, 82, 83, 84, 85, 86, 87, 88, 89, 90, 97, 98, 99, 100, 101, 102, 103, 104, 105, 106, 107, 108, 109, 110, 111, 112, 113, 114, 115, 116, 117, 118, 119, 120, 121, 122, 48, 49, 50, 51, 52, 53, 54, 55, 56, 57, 45, 95]⟩ : ByteArray)[k]'h).toNat = ltr k := by
 decide
end Go.Proofs.YtpdedfpacklnoaaGreatDoor
namespace Go.Proofs.YtpdedfpacklnoaaGreatDoor
open Go.RowKit Go.BL Go.Ct Go.Sl

/-- The number of the first letters, up to four. -/
def numL (t : List Nat) : Nat → Nat
 | 0 => 0
 | i + 1 => numL t i * 64 + (if i < min t.length 4 then vlt (t.getD i 0) else 0)
theorem or_i64 (a b : Nat) (ha : a < 4294967296) (hb : b < 4294967296) : bits .or .i64 (a : Int) (b : Int) = ((a ||| b : Nat) : Int) := by
 have hx : a ||| b < 2 ^ 32 := Nat.or_lt_two_pow (by omega) (by omega)
 have h1 : (BitVec.ofInt 64 (a : Int)).toNat = a := by
  rw [BitVec.ofInt_natCast, BitVec.toNat_ofNat]; exact Nat.mod_eq_of_lt (by omega)
 have h2 : (BitVec.ofInt 64 (b : Int)).toNat = b := by
  rw [BitVec.ofInt_natCast, BitVec.toNat_ofNat]; exact Nat.mod_eq_of_lt (by omega)
 show IntKind.i64.wrap ((BitVec.ofInt 64 (a : Int) ||| BitVec.ofInt 64 (b : Int)).toNat : Int) = _
 rw [BitVec.toNat_or, h1, h2, IntKind.wrap_i64]
 omega
theorem and_i64 (a b : Nat) (ha : a < 4294967296) (hb : b < 4294967296) : bits .and .i64 (a : Int) (b : Int) = ((a &&& b : Nat) : Int) := by
 have hx : a &&& b < 2 ^ 32 := Nat.and_lt_two_pow _ (by omega)
 have h1 : (BitVec.ofInt 64 (a : Int)).toNat = a := by
  rw [BitVec.ofInt_natCast, BitVec.toNat_ofNat]; exact Nat.mod_eq_of_lt (by omega)
 have h2 : (BitVec.ofInt 64 (b : Int)).toNat = b := by
  rw [BitVec.ofInt_natCast, BitVec.toNat_ofNat]; exact Nat.mod_eq_of_lt (by omega)
 show IntKind.i64.wrap ((BitVec.ofInt 64 (a : Int) &&& BitVec.ofInt 64 (b : Int)).toNat : Int) = _
 rw [BitVec.toNat_and, h1, h2, IntKind.wrap_i64]
 omega
end Go.Proofs.YtpdedfpacklnoaaGreatDoor
set_option maxRecDepth 100000
namespace Go.Proofs.YtpdedfpacklnoaaGreatDoor
open Go.RowKit Go.BL Go.Ct Go.Sl

@[go_sem] theorem jump_normal {l : Nat} {J : Act → World → Prop} {Q : Exit → Act → World → Prop} {a : Act} {w : World} : Exit.jump l J Q .normal a w = Q .normal a w := rfl
@[go_sem] theorem jump_exit {l : Nat} {J : Act → World → Prop} {Q : Exit → Act → World → Prop} {a : Act} {w : World} (id : Nat) : Exit.jump l J Q (.exit id) a w = Q (.exit id) a w := rfl
@[go_sem] theorem jump_ret {l : Nat} {J : Act → World → Prop} {Q : Exit → Act → World → Prop} {a : Act} {w : World} : Exit.jump l J Q .ret a w = Q .ret a w := rfl
@[go_sem] theorem jump_panic {l : Nat} {J : Act → World → Prop} {Q : Exit → Act → World → Prop} {a : Act} {w : World} (ch : List PanicEntry) : Exit.jump l J Q (.panic ch) a w = Q (.panic ch) a w := rfl
@[go_sem] theorem jump_goto {l : Nat} {J : Act → World → Prop} {Q : Exit → Act → World → Prop} {a : Act} {w : World} (l' : Nat) : Exit.jump l J Q (.goto l') a w = (l' = l ∧ J a w) := rfl
end Go.Proofs.YtpdedfpacklnoaaGreatDoor
