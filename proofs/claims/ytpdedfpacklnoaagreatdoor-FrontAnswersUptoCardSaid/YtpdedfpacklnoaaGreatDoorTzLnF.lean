/- Contract of front.Parse. -/
import Derived.Test.YtpdedfpacklnoaaGreatDoorTzMB
namespace Go.Proofs.YtpdedfpacklnoaaGreatDoor
open Go.RowKit Go.BL Go.Ct Go.Sl Go.Fl

theorem cut1_lens (c : UInt8) (s : List UInt8) : (cut1 c s).1.length + (cut1 c s).2.1.length ≤ s.length := by
 induction s with
 | nil => simp [cut1]
 | cons x r ih =>
  rw [cut1_cons]
  split
  ·simp
  ·simp only [List.length_cons]; omega
theorem parts_len (c : UInt8) : ∀ (s x : List UInt8), x ∈ partsL c s → x.length ≤ s.length
 | [], x, h => by simp [partsL] at h; subst h; simp
 | y :: r, x, h => by
  rw [parts_cons] at h
  split at h
  ·rcases List.mem_cons.1 h with rfl | h
   ·simp
   ·have := parts_len c r x h; simp; omega
  ·split at h
   ·simp at h; subst h; simp
   ·rename_i hd tl he
    rcases List.mem_cons.1 h with rfl | h
    ·have := parts_len c r hd (by rw [he]; simp)
     simp; omega
    ·have := parts_len c r x (by rw [he]; simp [h])
     simp; omega

end Go.Proofs.YtpdedfpacklnoaaGreatDoor
