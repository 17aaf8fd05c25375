/- Contract of the document's line. -/
import Derived.Test.YtpdedfpacklnoaaGreatDoorML
namespace Go.Proofs.YtpdedfpacklnoaaGreatDoor
open Go.RowKit Go.BL Go.Ct Go.Sl Go.Fl

theorem key_any (A : List UInt8) (hA : A.length ≤ 9223372036854775807) (w : World) : Calls Tryz.prog 60 #[.string ⟨A.toArray⟩] w (RetV (.bool (keyL A)) w) := I.key_any ⟨A.toArray⟩ w hA
theorem prt_len (b : Nat) : (prt b).length ≤ 20 := by
  have hs : (sgn b).length ≤ 1 := by unfold sgn; split <;> simp
  unfold prt
  split
  · simp
  · split
    · rw [List.length_append]; simp; omega
    · split
      · have h1 := dd_len 15 (rnd (hund (b % 9223372036854775808))) (by have := rnd_lt (r := hund (b % 9223372036854775808)); omega)
        have h2 : (pad (Lib.decDigits (rnd (hund (b % 9223372036854775808))))).length ≤ 16 := by unfold pad; rw [List.length_append, List.length_replicate]; omega
        rw [List.length_append]
        unfold dots
        rw [List.length_append, List.length_cons, List.length_take, List.length_drop]
        omega
      · simp
end Go.Proofs.YtpdedfpacklnoaaGreatDoor
