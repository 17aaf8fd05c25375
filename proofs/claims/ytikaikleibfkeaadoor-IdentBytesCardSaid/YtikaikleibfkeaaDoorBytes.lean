/- IdentBytes: two texts of one byte each have the same hash just where they are the same. No condition. -/
import Derived.Test.YtikaikleibfkeaaDoorAwake
namespace Go.Proofs.YtikaikleibfkeaaDoor
open Go.RowKit Go.Idn

theorem bytes_any (a b : Nat) (w : World) (ha : a < 256) (hb : b < 256) (hn : Names w) :
    Calls Tryd.prog 3 #[.int .u8 (a : Int), .int .u8 (b : Int)] w (RetB (.bool true) w) := by
  have Hn := Lib.hid hn
  clear hn
  by_cases h : a = b
  · subst h
    go_enter Tryd.func3, Tryd.ntmps3
    go_wp2_with fail
    refine (hash_any _ _ _ [a] _ (rd_one_at _ _ a rfl ha 5 (0, 0))).mono ?_
    rintro e w' ⟨rfl, rfl⟩
    go_wp2_with fail
    refine (hash_any _ _ _ [a] _ (rd_one_at _ _ a (by simp) ha 5 (0, 0))).mono ?_
    rintro e w' ⟨rfl, rfl⟩
    go_wp2_with fail
    refine (awake_any _ (Hn.out.below (((Below.refl _ _).alloc (Nat.le_refl _) _).alloc (by simp) _))).mono ?_
    rintro e w2 ⟨rfl, hb2⟩
    have Hb2 := Lib.hid hb2
    clear hb2
    go_wp2
    go_ret
    exact ⟨rfl, (((Below.refl _ _).alloc (Nat.le_refl _) _).alloc (by simp) _).trans (Hb2.out.mono (by simp; omega))⟩
  · have h1 : (((hsh [a] : Nat) : Int) == ((hsh [b] : Nat) : Int)) = false := beq_eq_false_iff_ne.2 (fun e => h (hsh_one ha hb (by omega)))
    have h2 : ((a : Int) == (b : Int)) = false := beq_eq_false_iff_ne.2 (by omega)
    clear h
    go_enter Tryd.func3, Tryd.ntmps3
    go_wp2_with fail
    refine (hash_any _ _ _ [a] _ (rd_one_at _ _ a rfl ha 5 (0, 0))).mono ?_
    rintro e w' ⟨rfl, rfl⟩
    go_wp2_with fail
    refine (hash_any _ _ _ [b] _ (rd_one_at _ _ b (by simp) hb 5 (0, 0))).mono ?_
    rintro e w' ⟨rfl, rfl⟩
    go_wp2_with fail
    refine (awake_any _ (Hn.out.below (((Below.refl _ _).alloc (Nat.le_refl _) _).alloc (by simp) _))).mono ?_
    rintro e w2 ⟨rfl, hb2⟩
    have Hb2 := Lib.hid hb2
    clear hb2
    go_wp2
    go_ret
    exact ⟨rfl, (((Below.refl _ _).alloc (Nat.le_refl _) _).alloc (by simp) _).trans (Hb2.out.mono (by simp; omega))⟩

theorem wf_u8 {x : Int} (h : (Lit.int .u8 x).wf = true) : 0 ≤ x ∧ x < 256 := by
  simp [Lit.wf, IntKind.min, IntKind.max, IntKind.signed, IntKind.bits] at h; omega
theorem bytes_int (a b : Int) (w : World) (ha : (Lit.int .u8 a).wf = true) (hb : (Lit.int .u8 b).wf = true) (hn : Names w) :
    Calls Tryd.prog 3 #[.int .u8 a, .int .u8 b] w (RetB (.bool true) w) := by
  have h1 := wf_u8 ha
  have h2 := wf_u8 hb
  obtain ⟨m, rfl⟩ := Int.eq_ofNat_of_zero_le h1.1
  obtain ⟨n, rfl⟩ := Int.eq_ofNat_of_zero_le h2.1
  exact bytes_any m n w (by omega) (by omega) hn
end Go.Proofs.YtikaikleibfkeaaDoor
