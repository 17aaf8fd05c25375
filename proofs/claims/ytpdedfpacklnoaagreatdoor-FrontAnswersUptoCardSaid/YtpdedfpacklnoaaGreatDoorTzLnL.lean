/- Contract of the document's line. -/
import Derived.Test.YtpdedfpacklnoaaGreatDoorTzML
namespace Go.Proofs.YtpdedfpacklnoaaGreatDoor
open Go.RowKit Go.BL Go.Ct Go.Sl Go.Fl

theorem key_any (A : List UInt8) (hA : A.length ≤ 9223372036854775807) (w : World) : Calls Tryz.prog 60 #[.string ⟨A.toArray⟩] w (RetV (.bool (keyL A)) w) := I.key_any ⟨A.toArray⟩ w hA
theorem prt_len (b : Nat) : (prt b).length ≤ 20 := by
 have hs : (sgn b).length ≤ 1 := by unfold sgn; split <;> simp
 unfold prt
 split
 ·simp
 ·split
  ·rw [List.length_append]; simp; omega
  ·split
   ·have h1 := dd_len 15 (rnd (hund (b % 9223372036854775808))) (by have := rnd_lt (r := hund (b % 9223372036854775808)); omega)
    have h2 : (pad (Lib.decDigits (rnd (hund (b % 9223372036854775808))))).length ≤ 16 := by unfold pad; rw [List.length_append, List.length_replicate]; omega
    rw [List.length_append]
    unfold dots
    rw [List.length_append, List.length_cons, List.length_take, List.length_drop]
    omega
   ·simp
theorem itoa_len (m : Nat) (h : m ≤ 9223372036854775807) : (Lib.itoa (m : Int)).length ≤ 19 := by rw [itoa_nat]; exact dd_len 18 m (by omega)
theorem lineT_len (A : List UInt8) (m p : Nat) (h : m ≤ 9223372036854775807) : (lineT ⟨A, (m : Int), p⟩).length ≤ A.length + 50 := by
 have h1 := prt_len p
 have h2 := itoa_len m h
 unfold lineT
 simp only [List.length_append, List.length_cons, List.length_nil]
 omega
end Go.Proofs.YtpdedfpacklnoaaGreatDoor
