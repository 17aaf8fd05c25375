/- Contract of ormap.item: isName. Contract of ormap.many: how many items entries have: a range over an iterator whose captured slice lies in a cell that it writes between two rounds. Contract of ormap.many: itemsF (behind TkY, the iterator's part). -/
import Derived.Test.YtpdedfpacklnoaaGreatDoorTzTkE
import Derived.Test.YtpdedfpacklnoaaGreatDoorTzMH
import Derived.Shelf.Strings.FuncGrows
import Derived.Laws.RangeAny
import Derived.Laws.Runes
import Derived.WalkMore
import Derived.Lib.OthersKept
import Derived.Test.YtpdedfpacklnoaaGreatDoorTzTkQ
import Derived.Test.YtpdedfpacklnoaaGreatDoorTzMC
import Derived.RangeFuncWrites
import Derived.RangeFuncLeaves
import Derived.RangeFuncCalls
import Derived.OwnWalkIn
import Derived.TacticsInMore
import Derived.LoopNIn
import Derived.LoopIn
import Derived.RegionIn
import Derived.Shelf.RegionOpen
import Derived.Sort.QuietIn
set_option maxRecDepth 100000
namespace Go.Proofs
open Go.Shelf
def Tryz.laysGw15_ren : Go.Shelf.Ren := ⟨fun | 15 => 264 | 20 => 268 | n => n, fun | 23 => 303 | n => n, fun | n => n⟩
theorem Tryz.laysGw15 : Go.Proofs.LaysGw.n15 Tryz.prog Tryz.laysGw15_ren := {
 mixed := by kernel_rfl
 f15 := Tryz.func264.trans (congrArg some (by kernel_rfl))
 f20 := Tryz.func268.trans (congrArg some (by kernel_rfl))
 t0 := Tryz.underlying0
 a0 := Tryz.isAgg0
 z0 := Tryz.sizeOf0
 v0 := Tryz.zeroValue0
 i0 := by kernel_rfl
 t3 := Tryz.underlying3
 a3 := Tryz.isAgg3
 z3 := Tryz.sizeOf3
 v3 := Tryz.zeroValue3
 i3 := by kernel_rfl
 t4 := Tryz.underlying4
 a4 := Tryz.isAgg4
 z4 := Tryz.sizeOf4
 v4 := Tryz.zeroValue4
 i4 := by kernel_rfl
 t9 := Tryz.underlying9
 a9 := Tryz.isAgg9
 z9 := Tryz.sizeOf9
 v9 := Tryz.zeroValue9
 i9 := by kernel_rfl
 t21 := Tryz.underlying21
 a21 := Tryz.isAgg21
 z21 := Tryz.sizeOf21
 v21 := Tryz.zeroValue21
 i21 := by kernel_rfl
 t23 := Tryz.underlying303
 a23 := Tryz.isAgg303
 z23 := Tryz.sizeOf303
 v23 := Tryz.zeroValue303
 i23 := by kernel_rfl }
end Go.Proofs
namespace Go.Proofs.YtpdedfpacklnoaaGreatDoor
open Go.RowKit Go.BL Go.Ct Go.Sl

namespace It
theorem iter_below (w : World) (s : ByteArray) (p : Nat) : Below w.heap.size w (w.iter s p) := (Below.refl _ _).alloc (Nat.le_refl _) _
set_option maxHeartbeats 4000000 in
theorem rune_bad (w : World) : Calls Tryz.prog 256 #[.string ⟨#[45, 95, 46]⟩, .int .i32 65533] w (RetV (.int .i64 (-1)) w) := by
 go_enter Tryz.func256, Tryz.ntmps256
 go_wp2_with fail
 go_loopw [5, 6] (fun _ _ wr => ∃ k : Nat, k ≤ 3 ∧ Hid (wr = w.iter ⟨#[45, 95, 46]⟩ k)) (fun _ _ wr => 3 - wr.iterPos w.heap.size)
 case atStart => exact ⟨0, by omega, Lib.hid rfl⟩
 case round =>
  obtain ⟨k, hk, HK⟩ := hrel
  have hw := HK.out
  clear HK
  subst hw
  have h0 := fun ty => run_next_ascii (P := Tryz.prog) w ⟨#[45, 95, 46]⟩ 0 ty (by decide) (by decide)
  have h1 := fun ty => run_next_ascii (P := Tryz.prog) w ⟨#[45, 95, 46]⟩ 1 ty (by decide) (by decide)
  have h2 := fun ty => run_next_ascii (P := Tryz.prog) w ⟨#[45, 95, 46]⟩ 2 ty (by decide) (by decide)
  have h3 := fun ty => run_next_end (P := Tryz.prog) w ⟨#[45, 95, 46]⟩ 3 ty (by decide)
  rcases k with _ | _ | _ | _ | k
  ·clear h1 h2 h3
   go_wp2_with fail
   exact ⟨⟨1, by omega, Lib.hid rfl⟩, by simp⟩
  ·clear h0 h2 h3
   go_wp2_with fail
   exact ⟨⟨2, by omega, Lib.hid rfl⟩, by simp⟩
  ·clear h0 h1 h3
   go_wp2_with fail
   exact ⟨⟨3, by omega, Lib.hid rfl⟩, by simp⟩
  ·clear h0 h1 h2
   go_wp2_with fail
   go_ret
   exact ⟨rfl, iter_below _ _ _⟩
  ·omega
theorem valid_any (r : Int) (w : World) : Calls Tryz.prog 267 #[.int .i32 r] w fun e w' => e = .returned (.bool (Lib.validRune r)) ∧ w = w' := (Tryz.utf8_ValidRune r w).mono fun _ _ ⟨a, b⟩ => ⟨a, b.symm⟩
theorem index_none (x : UInt8) : ∀ l : List UInt8, (∀ c ∈ l, c ≠ x) → Lib.indexByte l x = -1
 | [], _ => rfl
 | c :: t, h => by
  have e : (c == x) = false := beq_false_of_ne (h c (by simp))
  have := index_none x t (fun c' hc => h c' (by simp [hc]))
  simp only [Lib.indexByte] at this ⊢
  simp [e, this]
theorem none_any (l : List UInt8) (x : UInt8) (h : ∀ c ∈ l, c ≠ x) (w : World) : Calls Tryz.prog 172 #[.string ⟨l.toArray⟩, .int .u8 (x.toNat : Int)] w fun e w' => e = .returned (.int .i64 (-1)) ∧ w = w' := by
 refine (Tryz.strings_IndexByte ⟨l.toArray⟩ (x.toNat : Int) w).mono fun _ _ ⟨a, b⟩ => ⟨a.trans ?_, b.symm⟩
 rw [show ((x.toNat : Int)).toNat.toUInt8 = x by simp]
 have := index_none x l h
 rw [show ((⟨l.toArray⟩ : ByteArray).data.toList) = l from rfl, this]
theorem two_bytes {E : ByteArray} (h : E.size = 2) (hx : ∀ h : E.size - 1 < E.size, 128 ≤ (E[E.size - 1]'h).toNat) : ∃ a x : UInt8, E = ⟨#[a, x]⟩ ∧ 128 ≤ x.toNat := by
 obtain ⟨⟨l⟩⟩ := E
 match l, h with
 | [a, x], _ => exact ⟨a, x, rfl, hx (show 1 < 2 by decide)⟩
theorem three_bytes {E : ByteArray} (h : E.size = 3) (hx : ∀ h : E.size - 1 < E.size, 128 ≤ (E[E.size - 1]'h).toNat) : ∃ a b x : UInt8, E = ⟨#[a, b, x]⟩ ∧ 128 ≤ x.toNat := by
 obtain ⟨⟨l⟩⟩ := E
 match l, h with
 | [a, b, x], _ => exact ⟨a, b, x, rfl, hx (show 2 < 3 by decide)⟩
set_option maxHeartbeats 4000000 in
theorem rune_no (r : Int) (h : 128 ≤ r) (w : World) : Calls Tryz.prog 256 #[.string ⟨#[45, 95, 46]⟩, .int .i32 r] w (RetV (.int .i64 (-1)) w) := by
 by_cases hb : r = 65533
 ·subst hb; exact rune_bad w
 have b0 : (r == 65533) = false := beq_false_of_ne hb
 have b1 : decide (0 ≤ r) = true := decide_eq_true (by omega)
 have b2 : decide (r < 128) = false := decide_eq_false (by omega)
 obtain ⟨u, hu⟩ : ∃ u, Lib.validRune r = u := ⟨_, rfl⟩
 have hv := valid_any r
 rw [hu] at hv
 cases u
 case false =>
  clear hu hb
  go_enter Tryz.func256, Tryz.ntmps256
  go_wp2_with (go_at_call 267; refine (hv _).mono ?_; rintro e w' ⟨rfl, rfl⟩)
  go_ret
  exact ⟨rfl, Below.refl _ _⟩
 have hval : Utf8.valid r = true := by
  unfold Lib.validRune at hu
  unfold Utf8.valid
  simp at hu ⊢
  omega
 obtain ⟨s1, s2, s3⟩ := encode_facts r hval h
 have hcv : ∀ w, (convert 21 9 (.int .i32 r)).run Tryz.prog w = .ok (.string (Utf8.encode r)) w := fun w => run_convert_int_string w 21 9 .i32 r (by kernel_rfl) Tryz.underlying9
 generalize Utf8.encode r = E at *
 by_cases h2 : E.size = 2
 case pos =>
  obtain ⟨a, x, rfl, hx⟩ := two_bytes h2 s3
  have hne : ((95 : Int) == (x.toNat : Int)) = false := beq_false_of_ne (by omega)
  have hno := none_any [46] x (fun c hc e => by simp at hc; subst hc; subst e; revert hx; decide)
  clear hu hb s1 s2 s3 h2 hx hval h
  go_enter Tryz.func256, Tryz.ntmps256
  go_wp2_with (go_at_call 267; refine (hv _).mono ?_; rintro e w' ⟨rfl, rfl⟩)
  have hi1 : ∀ h, (⟨#[45, 95, 46]⟩ : ByteArray)[1]'h = 95 := fun _ => rfl
  have hi2 : ∀ h, (⟨#[a, x]⟩ : ByteArray)[1]'h = x := fun _ => rfl
  go_wp2_with fail
  have hsl : ∀ w, (Instr.slice 9 (.string ⟨#[45, 95, 46]⟩) (some (.int .i64 2)) none none).run Tryz.prog w = .ok (.string ⟨#[46]⟩) w := fun w => by
   rw [run_slice_string_from_if _ 9 _ _ _ Tryz.underlying9]
   rfl
  go_step3
  go_wp2_with fail
  go_loop [9, 10] (fun i f => i = .int .i64 1 ∧ f = .int .i64 0) (fun _ _ => 0)
  case atStart => exact ⟨rfl, rfl⟩
  case round =>
   obtain ⟨rfl, rfl⟩ := hrel
   go_wp2_with fail
   go_step3
   go_wp2_with fail
   go_quiet (fail)
   go_wp2_with fail
   go_quiet (exact (hno _).mono fun _ _ ⟨a, b⟩ => ⟨a, _, b.symm⟩)
   go_wp2_with fail
   rw [Exit.noGoto_ret]
   simp only [Exit.inBlock]
   go_ret
   exact ⟨rfl, H.below_drewN (Below.refl _ _) _⟩
 by_cases h3 : E.size = 3
 case pos =>
  obtain ⟨a, b, x, rfl, hx⟩ := three_bytes h3 s3
  have hne : ((46 : Int) == (x.toNat : Int)) = false := beq_false_of_ne (by omega)
  have hno := none_any [] x (fun c hc => by simp at hc)
  clear hu hb s1 s2 s3 h2 h3 hx hval h
  go_enter Tryz.func256, Tryz.ntmps256
  go_wp2_with (go_at_call 267; refine (hv _).mono ?_; rintro e w' ⟨rfl, rfl⟩)
  have hi1 : ∀ h, (⟨#[45, 95, 46]⟩ : ByteArray)[2]'h = 46 := fun _ => rfl
  have hi2 : ∀ h, (⟨#[a, b, x]⟩ : ByteArray)[2]'h = x := fun _ => rfl
  go_wp2_with fail
  have hsl : ∀ w, (Instr.slice 9 (.string ⟨#[45, 95, 46]⟩) (some (.int .i64 3)) none none).run Tryz.prog w = .ok (.string ⟨#[]⟩) w := fun w => by
   rw [run_slice_string_from_if _ 9 _ _ _ Tryz.underlying9]
   rfl
  go_step3
  go_wp2_with fail
  go_loop [9, 10] (fun i f => i = .int .i64 2 ∧ f = .int .i64 0) (fun _ _ => 0)
  case atStart => exact ⟨rfl, rfl⟩
  case round =>
   obtain ⟨rfl, rfl⟩ := hrel
   go_wp2_with fail
   go_step3
   go_wp2_with fail
   go_quiet (fail)
   go_wp2_with fail
   go_quiet (exact (hno _).mono fun _ _ ⟨a, b⟩ => ⟨a, _, b.symm⟩)
   go_wp2_with fail
   rw [Exit.noGoto_ret]
   simp only [Exit.inBlock]
   go_ret
   exact ⟨rfl, H.below_drewN (Below.refl _ _) _⟩
 obtain ⟨n, hn⟩ : ∃ n : Int, (E.size : Int) = n := ⟨_, rfl⟩
 have hn2 : 4 ≤ n := by omega
 have hn4 : n ≤ 4 := by omega
 have hw : wrap64 (n - 1) = n - 1 := by unfold wrap64; omega
 have hlt : decide (n - 1 < 3) = false := decide_eq_false (by omega)
 clear hu hb s1 s2 s3 h2 h3 hval h hn2 hn4
 go_enter Tryz.func256, Tryz.ntmps256
 go_wp2_with (go_at_call 267; refine (hv _).mono ?_; rintro e w' ⟨rfl, rfl⟩)
 go_step3
 go_wp2_with fail
 go_loop [9, 10] (fun i f => i = .int .i64 (n - 1) ∧ f = .int .i64 0) (fun _ _ => 0)
 case atStart => exact ⟨by rw [hw], rfl⟩
 case round =>
  obtain ⟨rfl, rfl⟩ := hrel
  go_wp2_with fail
  go_ret
  exact ⟨rfl, Below.refl _ _⟩
/-- One of the three signs. -/
def signN (x : Nat) : Bool := decide (x = 45 ∨ x = 95 ∨ x = 46)
def nameN (x : Nat) : Bool := (decide (97 ≤ x) && decide (x ≤ 122)) || (decide (65 ≤ x) && decide (x ≤ 90)) || (decide (48 ≤ x) && decide (x ≤ 57)) || signN x
theorem contains_any (x : Nat) (w : World) : Calls Tryz.prog 238 #[.string ⟨#[45, 95, 46]⟩, .int .i32 (x : Int)] w (RetV (.bool (signN x)) w) := by
 by_cases hx : x < 128
 ·refine (Tryz.strings_ContainsRune_ascii ⟨#[45, 95, 46]⟩ (x : Int) w (by omega) (by omega)).mono fun _ _ ⟨a, b⟩ => ⟨a.trans ?_, by rw [b]; exact Below.refl _ _⟩
  congr 2
  have : ∀ y : Fin 128, decide (0 ≤ Lib.indexByte [45, 95, 46] ((y.val : Int)).toNat.toUInt8) = signN y.val := by decide
  exact this ⟨x, hx⟩
 ·have hr := rune_no (x : Int) (by omega)
  have e : signN x = false := by unfold signN; exact decide_eq_false (by omega)
  rw [e]
  go_enter Tryz.func238, Tryz.ntmps238
  go_wp2_with (go_at_call 256; refine (hr _).mono ?_; rintro e w1 ⟨rfl, hb⟩; have HB := Lib.hid hb; clear hb)
  go_ret
  exact ⟨rfl, HB.out⟩
set_option maxHeartbeats 4000000 in
theorem other_any (x : Nat) (w : World) : Calls Tryz.prog 263 #[.int .i32 (x : Int)] w (RetV (.bool (!nameN x)) w) := by
 have hc := contains_any x
 obtain ⟨b, hb⟩ : ∃ b, signN x = b := ⟨_, rfl⟩
 rw [hb] at hc
 rcases (by omega : x < 48 ∨ (48 ≤ x ∧ x ≤ 57) ∨ (57 < x ∧ x < 65) ∨ (65 ≤ x ∧ x ≤ 90) ∨ (90 < x ∧ x < 97) ∨ (97 ≤ x ∧ x ≤ 122) ∨ 122 < x) with h | h | h | h | h | h | h
 ·have e : nameN x = b := by unfold nameN; rw [hb, decide_eq_false (show ¬ 97 ≤ x by omega), decide_eq_true (show x ≤ 122 by omega), decide_eq_false (show ¬ 65 ≤ x by omega), decide_eq_true (show x ≤ 90 by omega), decide_eq_false (show ¬ 48 ≤ x by omega), decide_eq_true (show x ≤ 57 by omega)]; simp
  rw [e]
  have g0 : decide ((97 : Int) ≤ (x : Int)) = false := decide_eq_false (by omega)
  have g1 : decide ((x : Int) ≤ (122 : Int)) = true := decide_eq_true (by omega)
  have g2 : decide ((65 : Int) ≤ (x : Int)) = false := decide_eq_false (by omega)
  have g3 : decide ((x : Int) ≤ (90 : Int)) = true := decide_eq_true (by omega)
  have g4 : decide ((48 : Int) ≤ (x : Int)) = false := decide_eq_false (by omega)
  have g5 : decide ((x : Int) ≤ (57 : Int)) = true := decide_eq_true (by omega)
  clear h hb e
  go_enter Tryz.func263, Tryz.ntmps263
  go_wp2_with (go_at_call 238; refine (hc _).mono ?_; rintro e w1 ⟨rfl, hb⟩; have HB := Lib.hid hb; clear hb)
  go_ret
  exact ⟨rfl, HB.out⟩
 ·have e : nameN x = true := by unfold nameN; rw [hb, decide_eq_false (show ¬ 97 ≤ x by omega), decide_eq_true (show x ≤ 122 by omega), decide_eq_false (show ¬ 65 ≤ x by omega), decide_eq_true (show x ≤ 90 by omega), decide_eq_true (show 48 ≤ x by omega), decide_eq_true (show x ≤ 57 by omega)]; simp
  rw [e]
  have g0 : decide ((97 : Int) ≤ (x : Int)) = false := decide_eq_false (by omega)
  have g1 : decide ((x : Int) ≤ (122 : Int)) = true := decide_eq_true (by omega)
  have g2 : decide ((65 : Int) ≤ (x : Int)) = false := decide_eq_false (by omega)
  have g3 : decide ((x : Int) ≤ (90 : Int)) = true := decide_eq_true (by omega)
  have g4 : decide ((48 : Int) ≤ (x : Int)) = true := decide_eq_true (by omega)
  have g5 : decide ((x : Int) ≤ (57 : Int)) = true := decide_eq_true (by omega)
  clear h hb e
  go_enter Tryz.func263, Tryz.ntmps263
  clear hc
  go_wp2_with fail
  go_ret
  exact ⟨rfl, Below.refl _ _⟩
 ·have e : nameN x = b := by unfold nameN; rw [hb, decide_eq_false (show ¬ 97 ≤ x by omega), decide_eq_true (show x ≤ 122 by omega), decide_eq_false (show ¬ 65 ≤ x by omega), decide_eq_true (show x ≤ 90 by omega), decide_eq_true (show 48 ≤ x by omega), decide_eq_false (show ¬ x ≤ 57 by omega)]; simp
  rw [e]
  have g0 : decide ((97 : Int) ≤ (x : Int)) = false := decide_eq_false (by omega)
  have g1 : decide ((x : Int) ≤ (122 : Int)) = true := decide_eq_true (by omega)
  have g2 : decide ((65 : Int) ≤ (x : Int)) = false := decide_eq_false (by omega)
  have g3 : decide ((x : Int) ≤ (90 : Int)) = true := decide_eq_true (by omega)
  have g4 : decide ((48 : Int) ≤ (x : Int)) = true := decide_eq_true (by omega)
  have g5 : decide ((x : Int) ≤ (57 : Int)) = false := decide_eq_false (by omega)
  clear h hb e
  go_enter Tryz.func263, Tryz.ntmps263
  go_wp2_with (go_at_call 238; refine (hc _).mono ?_; rintro e w1 ⟨rfl, hb⟩; have HB := Lib.hid hb; clear hb)
  go_ret
  exact ⟨rfl, HB.out⟩
 ·have e : nameN x = true := by unfold nameN; rw [hb, decide_eq_false (show ¬ 97 ≤ x by omega), decide_eq_true (show x ≤ 122 by omega), decide_eq_true (show 65 ≤ x by omega), decide_eq_true (show x ≤ 90 by omega), decide_eq_true (show 48 ≤ x by omega), decide_eq_false (show ¬ x ≤ 57 by omega)]; simp
  rw [e]
  have g0 : decide ((97 : Int) ≤ (x : Int)) = false := decide_eq_false (by omega)
  have g1 : decide ((x : Int) ≤ (122 : Int)) = true := decide_eq_true (by omega)
  have g2 : decide ((65 : Int) ≤ (x : Int)) = true := decide_eq_true (by omega)
  have g3 : decide ((x : Int) ≤ (90 : Int)) = true := decide_eq_true (by omega)
  have g4 : decide ((48 : Int) ≤ (x : Int)) = true := decide_eq_true (by omega)
  have g5 : decide ((x : Int) ≤ (57 : Int)) = false := decide_eq_false (by omega)
  clear h hb e
  go_enter Tryz.func263, Tryz.ntmps263
  clear hc
  go_wp2_with fail
  go_ret
  exact ⟨rfl, Below.refl _ _⟩
 ·have e : nameN x = b := by unfold nameN; rw [hb, decide_eq_false (show ¬ 97 ≤ x by omega), decide_eq_true (show x ≤ 122 by omega), decide_eq_true (show 65 ≤ x by omega), decide_eq_false (show ¬ x ≤ 90 by omega), decide_eq_true (show 48 ≤ x by omega), decide_eq_false (show ¬ x ≤ 57 by omega)]; simp
  rw [e]
  have g0 : decide ((97 : Int) ≤ (x : Int)) = false := decide_eq_false (by omega)
  have g1 : decide ((x : Int) ≤ (122 : Int)) = true := decide_eq_true (by omega)
  have g2 : decide ((65 : Int) ≤ (x : Int)) = true := decide_eq_true (by omega)
  have g3 : decide ((x : Int) ≤ (90 : Int)) = false := decide_eq_false (by omega)
  have g4 : decide ((48 : Int) ≤ (x : Int)) = true := decide_eq_true (by omega)
  have g5 : decide ((x : Int) ≤ (57 : Int)) = false := decide_eq_false (by omega)
  clear h hb e
  go_enter Tryz.func263, Tryz.ntmps263
  go_wp2_with (go_at_call 238; refine (hc _).mono ?_; rintro e w1 ⟨rfl, hb⟩; have HB := Lib.hid hb; clear hb)
  go_ret
  exact ⟨rfl, HB.out⟩
 ·have e : nameN x = true := by unfold nameN; rw [hb, decide_eq_true (show 97 ≤ x by omega), decide_eq_true (show x ≤ 122 by omega), decide_eq_true (show 65 ≤ x by omega), decide_eq_false (show ¬ x ≤ 90 by omega), decide_eq_true (show 48 ≤ x by omega), decide_eq_false (show ¬ x ≤ 57 by omega)]; simp
  rw [e]
  have g0 : decide ((97 : Int) ≤ (x : Int)) = true := decide_eq_true (by omega)
  have g1 : decide ((x : Int) ≤ (122 : Int)) = true := decide_eq_true (by omega)
  have g2 : decide ((65 : Int) ≤ (x : Int)) = true := decide_eq_true (by omega)
  have g3 : decide ((x : Int) ≤ (90 : Int)) = false := decide_eq_false (by omega)
  have g4 : decide ((48 : Int) ≤ (x : Int)) = true := decide_eq_true (by omega)
  have g5 : decide ((x : Int) ≤ (57 : Int)) = false := decide_eq_false (by omega)
  clear h hb e
  go_enter Tryz.func263, Tryz.ntmps263
  clear hc
  go_wp2_with fail
  go_ret
  exact ⟨rfl, Below.refl _ _⟩
 ·have e : nameN x = b := by unfold nameN; rw [hb, decide_eq_true (show 97 ≤ x by omega), decide_eq_false (show ¬ x ≤ 122 by omega), decide_eq_true (show 65 ≤ x by omega), decide_eq_false (show ¬ x ≤ 90 by omega), decide_eq_true (show 48 ≤ x by omega), decide_eq_false (show ¬ x ≤ 57 by omega)]; simp
  rw [e]
  have g0 : decide ((97 : Int) ≤ (x : Int)) = true := decide_eq_true (by omega)
  have g1 : decide ((x : Int) ≤ (122 : Int)) = false := decide_eq_false (by omega)
  have g2 : decide ((65 : Int) ≤ (x : Int)) = true := decide_eq_true (by omega)
  have g3 : decide ((x : Int) ≤ (90 : Int)) = false := decide_eq_false (by omega)
  have g4 : decide ((48 : Int) ≤ (x : Int)) = true := decide_eq_true (by omega)
  have g5 : decide ((x : Int) ≤ (57 : Int)) = false := decide_eq_false (by omega)
  clear h hb e
  go_enter Tryz.func263, Tryz.ntmps263
  go_wp2_with (go_at_call 238; refine (hc _).mono ?_; rintro e w1 ⟨rfl, hb⟩; have HB := Lib.hid hb; clear hb)
  go_ret
  exact ⟨rfl, HB.out⟩
theorem nameN_big {x : Nat} (h : 128 ≤ x) : nameN x = false := by
 unfold nameN signN
 rw [decide_eq_false (show ¬ x ≤ 122 by omega), decide_eq_false (show ¬ x ≤ 90 by omega), decide_eq_false (show ¬ x ≤ 57 by omega), decide_eq_false (show ¬ (x = 45 ∨ x = 95 ∨ x = 46) by omega)]
 simp
theorem nameB_N (c : UInt8) : nameB c = nameN c.toNat := by
 have : ∀ c : Fin 256, nameB (UInt8.ofNat c.val) = nameN c.val := by decide
 have h := this ⟨c.toNat, c.toNat_lt⟩
 simpa using h
theorem idx_name (l : List UInt8) : ∀ (f pos : Nat), l.length ≤ pos + f → decide (Lib.idxFuncFrom (fun x => !nameN x) true ⟨l.toArray⟩ f pos < 0) = (l.drop pos).all nameB
 | 0, pos, h => by
  rw [List.drop_eq_nil_of_le (by omega)]; rfl
 | f + 1, pos, h => by
  unfold Lib.idxFuncFrom
  by_cases hp : pos < l.length
  ·have hp' : pos < (⟨l.toArray⟩ : ByteArray).size := hp
   rw [if_pos hp', List.drop_eq_getElem_cons hp, List.all_cons]
   by_cases ha : l[pos].toNat < 128
   ·have hd := decode_ascii ⟨l.toArray⟩ pos hp' ha
    rw [hd]
    change decide ((if (!nameN l[pos].toNat) = true then (pos : Int) else Lib.idxFuncFrom _ true _ f (pos + 1)) < 0) = _
    have ih := idx_name l f (pos + 1) (by omega)
    rw [nameB_N]
    cases hn : nameN l[pos].toNat with
    | true =>
     rw [if_neg (by simp), Bool.true_and]; exact ih
    | false =>
     rw [if_pos (by simp), Bool.false_and]; exact decide_eq_false (by omega)
   ·have hd := decode_high ⟨l.toArray⟩ pos hp' (by have : ¬ l[pos].toNat < 128 := ha; show 128 ≤ l[pos].toNat; omega)
    have n1 : nameN (Utf8.decode ⟨l.toArray⟩ pos).1 = false := nameN_big hd.1
    have n2 : nameB l[pos] = false := by rw [nameB_N]; exact nameN_big (by omega)
    rw [n1, n2, if_pos (by rfl), Bool.false_and]
    exact decide_eq_false (by omega)
  ·have hp' : ¬ pos < (⟨l.toArray⟩ : ByteArray).size := hp
   rw [if_neg hp', List.drop_eq_nil_of_le (by omega)]; rfl
theorem index_any (l : List UInt8) (w : World) : Calls Tryz.prog 264 #[.string ⟨l.toArray⟩, .func (.func 263) #[] #[]] w fun e w' => ∃ n : Int, e = .returned (.int .i64 n) ∧ decide (n < 0) = l.all nameB ∧ Below w.heap.size w w' := by
 have h := Any.strings_IndexFunc_grows Tryz.laysGw15 263 #[] (enters_of Tryz.func263 (by kernel_rfl) rfl) (fun x => !nameN x) ⟨l.toArray⟩ w (fun W x _ _ => other_any x W)
 have e := idx_name l l.length 0 (by omega)
 exact h.mono fun _ _ ⟨a, b⟩ => ⟨_, a, e, b⟩
end It
set_option maxHeartbeats 4000000 in
theorem item_any : ItemC := by
 intro l w hl
 have hi := It.index_any l
 have g1 : decide ((l.length : Int) ≤ 32) = decide (l.length ≤ 32) := by congr 1; exact propext (by omega)
 by_cases h1 : l = []
 case pos =>
  subst h1
  go_enter Tryz.func249, Tryz.ntmps249
  go_wp2_with fail
  go_ret
  exact ⟨rfl, Below.refl _ _⟩
 have g0 : l.isEmpty = false := by simpa using h1
 by_cases h2 : l.length ≤ 32
 case neg =>
  have g2 : decide ((l.length : Int) ≤ 32) = false := decide_eq_false (by omega)
  have e : isName l = false := by unfold isName; rw [decide_eq_false h2]; simp
  rw [e]
  clear g1 h1 h2 e hi
  go_enter Tryz.func249, Tryz.ntmps249
  go_wp2_with fail
  go_ret
  exact ⟨rfl, Below.refl _ _⟩
 have g2 : decide ((l.length : Int) ≤ 32) = true := decide_eq_true (by omega)
 have e : isName l = l.all nameB := by unfold isName; rw [decide_eq_true h2, g0]; simp
 rw [e]
 clear g1 h1 h2 e
 go_enter Tryz.func249, Tryz.ntmps249
 go_wp2_with (go_at_call 264; refine (hi _).mono ?_; rintro e w1 ⟨n, rfl, hn, hb⟩; have HB := Lib.hid hb; have HN := Lib.hid hn; clear hb hn)
 go_ret
 exact ⟨by rw [← HN.out]; rfl, HB.out⟩
end Go.Proofs.YtpdedfpacklnoaaGreatDoor
set_option maxRecDepth 100000
namespace Go.Proofs.YtpdedfpacklnoaaGreatDoor
open Go.RowKit Go.BL Go.Ct Go.Sl
attribute [local go_sem] Oper.semAt_some

theorem from_ent (blk off n c l : Nat) (hl : l ≤ n) (hc : n ≤ c) :
  ∃ A2, (0 < n - l → A2 = some ⟨blk, off + l * 6, none⟩) ∧ ∀ w, (Instr.slice 26 (.slice (some ⟨blk, off, none⟩) n c) (some (.int .i64 (l : Int))) none none).run Tryz.prog w = .ok (.slice A2 (n - l) (c - l)) w := by
 refine ⟨if c = l then some ⟨blk, off, none⟩ else some ⟨blk, off + l * 6, none⟩, fun h => by rw [if_neg (by omega)], fun w => ?_⟩
 simp only [Instr.slice, Sem.run_bind, run_underlying Tryz.underlying26, Result.andThen, Instr.sliceBounds, Sem.run_pure]
 rw [run_sliceBound _ _ _ _ _ (by omega) (by omega)]
 simp only [Tryz.sizeOf92, Int.toNat_natCast]
 by_cases h : c = l
 ·rw [if_pos h, if_pos h]
 ·rw [if_neg h, if_neg h]; simp [add_none]
theorem to_ent (blk off n c h : Nat) (hc : h ≤ c) (w : World) :
  (Instr.slice 26 (.slice (some ⟨blk, off, none⟩) n c) none (some (.int .i64 (h : Int))) none).run Tryz.prog w = .ok (.slice (some ⟨blk, off, none⟩) h c) w := by
 simp only [Instr.slice, Sem.run_bind, run_underlying Tryz.underlying26, Result.andThen, Instr.sliceBounds, Sem.run_pure]
 rw [run_sliceBound _ _ _ _ _ (by omega) (by omega)]
 simp only [Tryz.sizeOf92, Int.toNat_natCast]
 simp [add_none]
/-- How many are left, read off the iterator's cell. -/
def leftN (B : Nat) (w : World) : Nat := match w.cell? ⟨B, 0, none⟩ with
 | some (.slice _ n _) => n
 | _ => 0
theorem leftN_set {B : Nat} {w : World} {v : Value} {A : Option Addr} {n c : Nat} (h : w.cell? ⟨B, 0, none⟩ = some v) : leftN B (w.setCell ⟨B, 0, none⟩ (.slice A n c)) = n := by
 unfold leftN
 rw [World.cell?_setCell_same' _ _ _ (by rw [h]; rfl)]
theorem ents_drop {w : World} {b off c : Nat} {l : List En} (h : Ents w (.slice (some ⟨b, off, none⟩) l.length c) l) (m : Nat) (hm : m ≤ l.length) {A2 : Option Addr} {c2 : Nat} (hA : 0 < l.length - m → A2 = some ⟨b, off + m * 6, none⟩) : Ents w (.slice A2 (l.length - m) c2) (l.drop m) := by
 rcases Nat.eq_or_lt_of_le hm with e | e
 ·rw [List.drop_eq_nil_of_le (by omega), show l.length - m = 0 by omega]
  exact Sl.zero _ _ _
 ·rw [hA (by omega)]
  exact Sl.drop h m hm c2
theorem items_step {s : List UInt8} {l : List En} {n : Nat} (h : n < l.length) (e : l[n].it = s) : itemsF (some s) (l.drop n) = itemsF (some s) (l.drop (n + 1)) := by
 rw [List.drop_eq_getElem_cons h]
 show (if s = l[n].it then 0 else 1) + itemsF (some l[n].it) _ = _
 rw [if_pos e.symm, e]; omega
theorem items_new {s : List UInt8} {l : List En} {n : Nat} (h : n < l.length) (e : l[n].it ≠ s) : itemsF (some s) (l.drop n) = itemsF none (l.drop n) := by
 rw [List.drop_eq_getElem_cons h]
 show (if s = l[n].it then 0 else 1) + itemsF (some l[n].it) _ = 1 + itemsF (some l[n].it) _
 rw [if_neg (fun h => e h.symm)]
theorem items_end {l : List En} {n : Nat} (h : l.length ≤ n) (p : Option (List UInt8)) : itemsF p (l.drop n) = itemsF none (l.drop n) := by
 rw [List.drop_eq_nil_of_le h]; cases p <;> rfl

set_option maxHeartbeats 16000000 in
theorem items1_in (n l B : Nat) (w0 : World) (J : Nat → World → Prop) (hB : w0.heap.size ≤ B)
  (hd : ∀ k W N, J k W → J k (W.drewN N)) (hs : ∀ k W v, J k W → J k (W.setCell ⟨B, 0, none⟩ v)) (hE : ∀ k W, J k W → Below w0.heap.size w0 W)
  (hY : ∀ k W s v, J k W → YieldAt Fence.wide (n - 1) Tryz.prog l #[.string s, v] W fun e W' => e = .returned (.bool true) ∧ J (k + 1) W' ∧ W'.cell? ⟨B, 0, none⟩ = W.cell? ⟨B, 0, none⟩ ∧ W'.frozen? ⟨B, 0, none⟩ = W.frozen? ⟨B, 0, none⟩)
  (es : List En) (A : Option Addr) (c : Nat) (he : Ents w0 (.slice A es.length c) es) (hl : es.length ≤ 64) (hcap : es.length ≤ c)
  (W : World) (hc : W.cell? ⟨B, 0, none⟩ = some (.slice A es.length c)) (hf : W.frozen? ⟨B, 0, none⟩ = false) (h0 : J 0 W) :
  CallsIn Fence.wide n Tryz.prog 164 #[.func (.yield l) #[] #[], .pointer (some ⟨B, 0, none⟩)] W fun e W' => (∃ v, e = .returned v) ∧ J (itemsF none es) W' := by
 have HD := Lib.hid hd
 have HS := Lib.hid hs
 have HEE := Lib.hid hE
 have HYY := Lib.hid hY
 have H0 := Lib.hid h0
 have HEN := Lib.hid he
 have HB := Lib.hid hB
 clear hd hs hE hY h0 he hB
 refine callsIn_of_wp Tryz.func164 rfl (by trivial) ?_ rfl
 simp only [Tryz.ntmps164, List.size_toArray, List.length_cons, List.length_nil, Nat.reduceAdd, Nat.reduceSub, Array.replicate_succ, Array.replicate_zero, List.push_toArray, List.append_toArray, List.nil_append, List.cons_append]
 gi_wp2
 gi_loopw [3] (fun _ wr => ∃ (k : Nat) (rest : List En) (A : Option Addr) (c : Nat), rest.length ≤ 64 ∧ rest.length ≤ c ∧ wr.cell? ⟨B, 0, none⟩ = some (.slice A rest.length c) ∧ wr.frozen? ⟨B, 0, none⟩ = false ∧ Hid (Ents w0 (.slice A rest.length c) rest) ∧ Hid (J k wr) ∧ Hid (k + itemsF none rest = itemsF none es)) (fun _ wr => leftN B wr)
 case atStart => exact ⟨0, es, A, c, hl, hcap, hc, hf, HEN, H0, Lib.hid (by omega)⟩
 case round =>
  obtain ⟨k, rest, A, c, hl, hcp, hcr, hfr, HEr, HJ, HK⟩ := hrel
  cases rest with
  | nil =>
   have HV : Hid (k = itemsF none es) := Lib.hid (by have := HK.out; simpa [itemsF] using this)
   gi_wp2
   go_end0
   exact ⟨⟨_, rfl⟩, by rw [← HV.out]; exact HJ.out⟩
  | cons e r =>
   obtain ⟨rest, hre⟩ : ∃ x, e :: r = x := ⟨_, rfl⟩
   have hpos : 0 < rest.length := by rw [← hre]; simp
   obtain ⟨b, off, rfl, hbl, hcc⟩ := ent_cells (by rw [hre] at HEr; exact HEr.out) hpos
   have HF : Hid (∃ s, rest[0].it = s ∧ itemsF none rest = 1 + itemsF (some s) (rest.drop 1)) := Lib.hid ⟨e.it, by subst hre; rfl, by subst hre; rfl⟩
   rw [hre] at hl hcp hcr HEr HK
   clear hre
   obtain ⟨s0, hs0, hit⟩ := HF.out
   have HIT := Lib.hid hit
   have hpos' : (0 : Int) < (rest.length : Int) := by omega
   obtain ⟨c0, -⟩ := hcc 0 hpos
   rw [hs0] at c0
   have d0 := old_cell (HEE.out _ _ HJ.out) hbl c0
   rw [Nat.zero_mul, Nat.add_zero] at d0
   have HCC := Lib.hid hcc
   have HBL := Lib.hid hbl
   have HS0 := Lib.hid hs0
   clear hcc hbl hs0 hit HF c0
   gi_wp2
   gi_loopw [3] (fun v wq => ∃ m : Nat, v = .int .i64 (m : Int) ∧ 1 ≤ m ∧ m ≤ rest.length ∧ Hid (∃ N, wq = wr.drewN N) ∧ Hid (itemsF none rest = 1 + itemsF (some s0) (rest.drop m))) (fun v _ => rest.length - (intOf v).toNat)
   case atStart => exact ⟨1, rfl, by omega, by omega, Lib.hid ⟨0, rfl⟩, HIT⟩
   case round =>
    obtain ⟨m, rfl, hm1, hm2, HN, HM⟩ := hrel
    obtain ⟨N, rfl⟩ := HN.out
    clear HN
    by_cases hml : m < rest.length
    ·obtain ⟨cm, -⟩ := HCC.out m hml
     have dm := old_cell (HEE.out _ _ HJ.out) HBL.out cm
     obtain ⟨sm, hsm⟩ : ∃ x, rest[m].it = x := ⟨_, rfl⟩
     rw [hsm] at dm
     have HSM := Lib.hid hsm
     have hml' : (m : Int) < (rest.length : Int) := by omega
     clear cm hsm
     by_cases hq : sm = s0
     ·subst hq
      gi_wp2
      gi_quiet (fail)
      gi_wp2
      go_roundw
      case rel => exact ⟨m + 1, by go_num, by omega, by omega, Lib.hid ⟨_, rfl⟩, Lib.hid (by rw [HM.out, items_step hml HSM.out])⟩
      case measure => simp [intOf]; omega
     ·have hq' : (sm == s0) = false := beq_false_of_ne hq
      have HQ := Lib.hid hq
      clear hq
      gi_wp2
      gi_quiet (fail)
      have HNX : Hid (itemsF none rest = 1 + itemsF none (rest.drop m)) := Lib.hid (by rw [HM.out, items_new hml (by rw [HSM.out]; exact HQ.out)])
      gi_wp2
      obtain ⟨wx, hwx⟩ : ∃ y, (wr.drewN N).drewN nq = y := ⟨_, rfl⟩
      have HJ2 : Hid (J k wx.drew) := Lib.hid (by rw [← hwx]; exact HD.out _ _ 1 (HD.out _ _ _ (HD.out _ _ _ HJ.out)))
      have x0 : wx.cell? ⟨B, 0, none⟩ = some (.slice (some ⟨b, off, none⟩) rest.length c) := by rw [← hwx]; exact hcr
      have x1 : wx.cell? ⟨b, off, none⟩ = some (.string ⟨s0.toArray⟩) := by rw [← hwx]; exact d0
      have xf : wx.frozen? ⟨B, 0, none⟩ = false := by rw [← hwx]; exact hfr
      have HLF : Hid (leftN B wr = rest.length) := Lib.hid (by unfold leftN; rw [hcr])
      obtain ⟨A2, hA2, hsl2⟩ := from_ent b off rest.length c m (by omega) hcp
      have HE2 : Hid (Ents w0 (.slice A2 (rest.length - m) (c - m)) (rest.drop m)) := Lib.hid (ents_drop HEr.out m (by omega) hA2)
      rw [hwx]
      clear hwx d0 hcr hfr hA2
      obtain ⟨fn, tmps, assign, body, hy, hR⟩ := HYY.out k wx.drew ⟨s0.toArray⟩ (.slice (some ⟨b, off, none⟩) m c) HJ2.out
      have hmo : Tryz.prog.follows .mixedOrders = true := by kernel_rfl
      have hsl := fun w => to_ent b off rest.length c m (by omega) w
      gi_region_with_o (refine ⟨fun h => (by cases h), hR.mono ?_⟩; clear hR hy; rintro e W3 ⟨rfl, hJ3, hc3, hf3⟩; have HJ3 := Lib.hid hJ3; have x3 : W3.cell? ⟨B, 0, none⟩ = some (.slice (some ⟨b, off, none⟩) rest.length c) := hc3.trans x0; have xf3 : W3.frozen? ⟨B, 0, none⟩ = false := hf3.trans xf; clear hJ3 hc3 hf3)
      all_goals
       gi_wp2
       go_roundw
       case rel => exact ⟨k + 1, rest.drop m, A2, c - m, by rw [List.length_drop]; omega, by rw [List.length_drop]; omega, by rw [List.length_drop]; exact World.cell?_setCell_same' _ _ _ (by rw [x3]; rfl), by rw [World.frozen?_setCell]; exact xf3, by rw [List.length_drop]; exact HE2, Lib.hid (HS.out _ _ _ HJ3.out), Lib.hid (by have := HK.out; have := HNX.out; omega)⟩
       case measure => rw [HLF.out, leftN_set x3]; omega
    ·have hml' : ¬ (m : Int) < (rest.length : Int) := by omega
     gi_wp2
     gi_quiet (fail)
     have HNX : Hid (itemsF none rest = 1 + itemsF none (rest.drop m)) := Lib.hid (by rw [HM.out, items_end (by omega)])
     gi_wp2
     obtain ⟨wx, hwx⟩ : ∃ y, (wr.drewN N).drewN nq = y := ⟨_, rfl⟩
     have HJ2 : Hid (J k wx.drew) := Lib.hid (by rw [← hwx]; exact HD.out _ _ 1 (HD.out _ _ _ (HD.out _ _ _ HJ.out)))
     have x0 : wx.cell? ⟨B, 0, none⟩ = some (.slice (some ⟨b, off, none⟩) rest.length c) := by rw [← hwx]; exact hcr
     have x1 : wx.cell? ⟨b, off, none⟩ = some (.string ⟨s0.toArray⟩) := by rw [← hwx]; exact d0
     have xf : wx.frozen? ⟨B, 0, none⟩ = false := by rw [← hwx]; exact hfr
     have HLF : Hid (leftN B wr = rest.length) := Lib.hid (by unfold leftN; rw [hcr])
     obtain ⟨A2, hA2, hsl2⟩ := from_ent b off rest.length c m (by omega) hcp
     have HE2 : Hid (Ents w0 (.slice A2 (rest.length - m) (c - m)) (rest.drop m)) := Lib.hid (ents_drop HEr.out m (by omega) hA2)
     rw [hwx]
     clear hwx d0 hcr hfr hA2
     obtain ⟨fn, tmps, assign, body, hy, hR⟩ := HYY.out k wx.drew ⟨s0.toArray⟩ (.slice (some ⟨b, off, none⟩) m c) HJ2.out
     have hmo : Tryz.prog.follows .mixedOrders = true := by kernel_rfl
     have hsl := fun w => to_ent b off rest.length c m (by omega) w
     gi_region_with_o (refine ⟨fun h => (by cases h), hR.mono ?_⟩; clear hR hy; rintro e W3 ⟨rfl, hJ3, hc3, hf3⟩; have HJ3 := Lib.hid hJ3; have x3 : W3.cell? ⟨B, 0, none⟩ = some (.slice (some ⟨b, off, none⟩) rest.length c) := hc3.trans x0; have xf3 : W3.frozen? ⟨B, 0, none⟩ = false := hf3.trans xf; clear hJ3 hc3 hf3)
     all_goals
      gi_wp2
      go_roundw
      case rel => exact ⟨k + 1, rest.drop m, A2, c - m, by rw [List.length_drop]; omega, by rw [List.length_drop]; omega, by rw [List.length_drop]; exact World.cell?_setCell_same' _ _ _ (by rw [x3]; rfl), by rw [World.frozen?_setCell]; exact xf3, by rw [List.length_drop]; exact HE2, Lib.hid (HS.out _ _ _ HJ3.out), Lib.hid (by have := HK.out; have := HNX.out; omega)⟩
      case measure => rw [HLF.out, leftN_set x3]; omega
end Go.Proofs.YtpdedfpacklnoaaGreatDoor
set_option maxRecDepth 100000
namespace Go.Proofs.YtpdedfpacklnoaaGreatDoor
open Go.RowKit Go.BL Go.Ct Go.Sl
attribute [local go_sem] Oper.semAt_some

theorem items_any (A : Option Addr) (n c : Nat) (w : World) : CallsIn Fence.wide 2 Tryz.prog 121 #[.slice A n c] w fun e w' => e = .returned (.func (.func 164) #[] #[.pointer (some ⟨w.heap.size, 0, none⟩)]) ∧ w' = w.alloc (.cells #[.slice A n c] 26) := by
 refine callsIn_of_wp Tryz.func121 rfl (by trivial) ?_ rfl
 simp only [Tryz.ntmps121, List.size_toArray, List.length_cons, List.length_nil, Nat.reduceAdd, Nat.reduceSub, Array.replicate_succ, Array.replicate_zero, List.push_toArray, List.append_toArray, List.nil_append, List.cons_append]
 gi_wp2
 go_ret
 exact ⟨rfl, rfl⟩
theorem itemsF_len : ∀ (l : List En) (p : Option (List UInt8)), itemsF p l ≤ l.length
 | [], p => by cases p <;> exact Nat.le_refl 0
 | e :: r, none => by show 1 + itemsF (some e.it) r ≤ r.length + 1; have := itemsF_len r (some e.it); omega
 | e :: r, some s => by show (if s = e.it then 0 else 1) + itemsF (some e.it) r ≤ r.length + 1; have := itemsF_len r (some e.it); split <;> omega
theorem cell_heap {w w' : World} {N : Nat} (h : w'.heap[N]? = w.heap[N]?) (i : Nat) : w'.cell? ⟨N, i, none⟩ = w.cell? ⟨N, i, none⟩ ∧ w'.frozen? ⟨N, i, none⟩ = w.frozen? ⟨N, i, none⟩ := by
 constructor <;> simp [World.cell?, World.frozen?, h]
/-- What lies between two rounds. -/
structure Mid (w : World) (L : Loop) (k : Nat) (W : World) : Prop where
 below : Below w.heap.size w W
 cell : W.cell? ⟨w.heap.size, 0, none⟩ = some (.int .i64 (wrap64 (k : Int)))
 soft : W.frozen? ⟨w.heap.size, 0, none⟩ = false
 loop : W.heap[w.heap.size + 3]? = some (.loop L)
 late : W.heap[w.heap.size + 2]? = some (.deferred (some []))
theorem Mid.drewN {w : World} {L : Loop} {k : Nat} {W : World} (h : Mid w L k W) (N : Nat) : Mid w L k (W.drewN N) :=
 ⟨H.below_drewN h.below N, h.cell, h.soft, h.loop, h.late⟩
theorem Mid.far {w : World} {L : Loop} {k : Nat} {W : World} (h : Mid w L k W) (v : Value) : Mid w L k (W.setCell ⟨w.heap.size + 1, 0, none⟩ v) := by
 have hh : ∀ x, x ≠ w.heap.size + 1 → (W.setCell ⟨w.heap.size + 1, 0, none⟩ v).heap[x]? = W.heap[x]? := fun x hx => Below.heap_setCell W _ v x hx
 have hc := cell_heap (hh w.heap.size (by omega)) 0
 exact ⟨h.below.setCell (p := ⟨w.heap.size + 1, 0, none⟩) (by simp) v, hc.1.trans h.cell, hc.2.trans h.soft, (hh _ (by omega)).trans h.loop, (hh _ (by omega)).trans h.late⟩
theorem Mid.turn {w : World} {L : Loop} {k : Nat} {W : World} (h : Mid w L k W) (L' : Loop) : Mid w L' k (W.putObj (w.heap.size + 3) (.loop L')) := by
 have hlt : w.heap.size + 3 < W.heap.size := (Array.getElem?_eq_some_iff.1 h.loop).1
 have hh : ∀ x, x ≠ w.heap.size + 3 → (W.putObj (w.heap.size + 3) (.loop L')).heap[x]? = W.heap[x]? := fun x hx => World.putObj_heap_other hx
 have hc := cell_heap (hh w.heap.size (by omega)) 0
 exact ⟨h.below.trans (belowK_b (w := w) (Nat.le_refl _) W _ _ _ (by omega) h.loop rfl rfl), hc.1.trans h.cell, hc.2.trans h.soft, World.putObj_heap_same hlt, (hh _ (by omega)).trans h.late⟩
theorem wrap_succ (k : Nat) : wrap64 (wrap64 (k : Int) + 1) = wrap64 ((k + 1 : Nat) : Int) := by unfold wrap64; omega
theorem Mid.count {w : World} {L : Loop} {k : Nat} {W : World} (h : Mid w L k W) : Mid w L (k + 1) (W.setCell ⟨w.heap.size, 0, none⟩ (.int .i64 (wrap64 ((k + 1 : Nat) : Int)))) := by
 have hh : ∀ x, x ≠ w.heap.size → (W.setCell ⟨w.heap.size, 0, none⟩ (.int .i64 (wrap64 ((k + 1 : Nat) : Int)))).heap[x]? = W.heap[x]? := fun x hx => Below.heap_setCell W _ _ x hx
 refine ⟨h.below.setCell (p := ⟨w.heap.size, 0, none⟩) (Nat.le_refl _) _, ?_, ?_, (hh _ (by omega)).trans h.loop, (hh _ (by omega)).trans h.late⟩
 ·rw [World.cell?_setCell_same' _ _ _ (by rw [h.cell]; rfl)]
 ·rw [World.frozen?_setCell]; exact h.soft
/-- A range over an iterator that calls back with two values; the body counts. -/
theorem range_count {g : Operand} {ps : Array Tmp} {assign body : Code} {Q : Exit → Act → World → Prop} {a : Act} {w1 : World} {gf : Nat} {lb : Array Value}
  (hg : a.eval g = .func (.func gf) #[] lb) (eg : ∀ args w, (callFunc gf args).run Tryz.prog w = .ok (.enter gf args) w) (hps : ps.size = 2) (w : World) (N : Nat)
  (hs1 : w1.heap.size = w.heap.size + 2) (hb1 : Below w.heap.size w w1) (hc1 : w1.cell? ⟨w.heap.size, 0, none⟩ = some (.int .i64 0)) (hf1 : w1.frozen? ⟨w.heap.size, 0, none⟩ = false)
  (hit : ∀ (L : Loop) (W : World), Mid w L 0 W → W.heap[w.heap.size + 1]? = w1.heap[w.heap.size + 1]? →
   (∀ k W s v, Mid w L k W → YieldAt Fence.wide 1 Tryz.prog (w.heap.size + 3) #[.string s, v] W fun e W' => e = .returned (.bool true) ∧ Mid w L (k + 1) W' ∧ W'.cell? ⟨w.heap.size + 1, 0, none⟩ = W.cell? ⟨w.heap.size + 1, 0, none⟩ ∧ W'.frozen? ⟨w.heap.size + 1, 0, none⟩ = W.frozen? ⟨w.heap.size + 1, 0, none⟩) →
   CallsIn Fence.wide 2 Tryz.prog gf (#[.func (.yield (w.heap.size + 3)) #[] #[]] ++ lb) W fun e W' => (∃ v, e = .returned v) ∧ Mid w L N W')
  (a₁ : ByteArray → Value → Act)
  (hassign : ∀ (l : Nat) (s : ByteArray) (v : Value) (W : World) (K : Act → World → Prop), K (a₁ s v) W →
   assign.wpIn (Fence.wide.inRound l) 1 Tryz.prog (Exit.then K (fun _ _ _ => False)) { tmps := (ps.zip #[.string s, v]).foldl (fun t (p, v) => t.setIfInBounds p v) a.tmps, defers := [] } W)
  (hbody : ∀ (l k : Nat) (L : Loop) (s : ByteArray) (v : Value) (W : World), Mid w L k W → body.wpIn (Fence.wide.inRound l) 1 Tryz.prog (fun e _ W' => e = .normal ∧ Mid w L (k + 1) W' ∧ W'.heap[w.heap.size + 1]? = W.heap[w.heap.size + 1]?) (a₁ s v) W)
  (hdone : ∀ (L : Loop) (W : World), Mid w L N W → Q .normal { a with defers := { target := .collected (w.heap.size + 2), args := #[] } :: a.defers } W) :
  (Code.rangeFunc g ps assign body).wpIn Fence.wide 3 Tryz.prog Q a w1 := by
 refine wpIn_rangeFunc ?_
 intro fn hfn
 obtain ⟨rec, hrec⟩ : ∃ rec : LoopState → Option Code → Loop, rec = fun st pe => { state := st, pending := pe, fn, tmps := a.tmps, params := ps, assign, body, defers := w1.heap.size } := ⟨_, rfl⟩
 obtain ⟨W1, hW1⟩ : ∃ W1, (w1.alloc (.deferred (some []))).alloc (.loop (rec .ready none)) = W1 := ⟨_, rfl⟩
 have hold : ∀ x, x < w1.heap.size → W1.heap[x]? = w1.heap[x]? := fun x hx => by
  rw [← hW1]; exact (Below.heap_alloc _ _ _ (by simp; omega)).trans (Below.heap_alloc _ _ _ hx)
 have hM : Mid w (rec .ready none) 0 W1 := by
  have hc := cell_heap (hold w.heap.size (by omega)) 0
  refine ⟨?_, ?_, hc.2.trans hf1, ?_, ?_⟩
  ·rw [← hW1]; exact (hb1.alloc hb1.size _).alloc (by simp; omega) _
  ·rw [hc.1, hc1, show wrap64 ((0 : Nat) : Int) = 0 by unfold wrap64; omega]
  ·rw [← hW1]; have := World.alloc_heap_new (w1.alloc (.deferred (some []))) (.loop (rec .ready none)); rw [World.size_alloc, hs1] at this; exact this
  ·rw [← hW1]; have := World.alloc_heap_new w1 (.deferred (some [])); rw [hs1] at this; exact (Below.heap_alloc _ _ _ (by simp; omega)).trans this
 refine ⟨w.heap.size + 3, [{ target := .collected (w.heap.size + 2), args := #[] }], W1, { target := .fn (.func gf) lb, args := #[.func (.yield (w.heap.size + 3)) #[] #[]] }, W1, gf,
  #[.func (.yield (w.heap.size + 3)) #[] #[]] ++ lb, W1, ?_, ?_, fun _ _ => trivial, ?_, fun h => (by cases h), ?_⟩
 ·rw [← hW1, hrec]
  have := run_enterLoop_outer (P := Tryz.prog) (w := w1) fn a.tmps ps assign body
  rw [hs1] at this ⊢
  exact this
 ·simp only [resolve, hg]
  simp [go_sem]
 ·simp [invoke, go_sem, eg]
 ·refine (hit (rec .ready none) W1 hM (hold _ (by omega)) ?_).mono ?_
  ·intro k W s v hm
   have hlt : w.heap.size + 3 < W.heap.size := (Array.getElem?_eq_some_iff.1 hm.loop).1
   have hy := run_yield (P := Tryz.prog) (args := #[.string s, v]) hm.loop (by rw [hrec]; exact hps.symm)
   rw [hrec] at hy
   refine ⟨fn, _, assign, body, hy, roundIn_of_wpIn hfn (hassign _ s v W _ ⟨_, run_beginRound hm.loop (by rw [hrec]), ?_⟩)⟩
   have hm2 := hm.turn { rec .ready none with state := .busy }
   refine wpIn_mono (hbody _ k _ s v _ hm2) ?_
   rintro e a3 W3 ⟨rfl, hm3, h3⟩
   have hr := run_endRound (P := Tryz.prog) none hm3.loop
   refine ⟨_, _, hr, rfl, ?_, ?_⟩
   ·have := hm3.turn (rec .ready none)
    rw [hrec] at this ⊢
    exact this
   ·have e1 : ∀ L', (W3.putObj (w.heap.size + 3) (.loop L')).heap[w.heap.size + 1]? = W.heap[w.heap.size + 1]? := fun L' =>
     (World.putObj_heap_other (by omega)).trans (h3.trans (World.putObj_heap_other (by omega)))
    exact cell_heap (e1 _) 0
  ·rintro e W2 ⟨⟨v, rfl⟩, hm⟩
   exact ⟨none, _, by have := run_endLoop (P := Tryz.prog) hm.loop (by rw [hrec]; simp); rw [hrec] at this; exact this, hdone _ _ (hm.turn _)⟩
set_option maxHeartbeats 16000000 in
theorem many_any : ManyC := by
 intro es v w he hl hcap
 obtain ⟨A, c, rfl⟩ := he.form
 have hcp := hcap _ _ _ rfl
 clear hcap
 refine (callsIn_wide (n := 3)).1 ?_
 refine callsIn_of_wp_marks Tryz.func221 rfl (by trivial) ?_ rfl
 simp only [Tryz.ntmps221, List.size_toArray, List.length_cons, List.length_nil, Nat.reduceAdd, Nat.reduceSub, Array.replicate_succ, Array.replicate_zero, List.push_toArray, List.append_toArray, List.nil_append, List.cons_append]
 gi_wp2_with (refine ⟨trivial, (items_any _ _ _ _).mono ?_⟩; rintro e w' ⟨rfl, rfl⟩)
 obtain ⟨w1, hw1⟩ : ∃ y, (w.alloc (.cells #[.int .i64 0] 3)).alloc (.cells #[.slice A es.length c] 26) = y := ⟨_, rfl⟩
 have hs1 : w1.heap.size = w.heap.size + 2 := by rw [← hw1]; simp
 have hb1 : Below w.heap.size w w1 := by rw [← hw1]; exact ((Below.refl _ _).alloc (Nat.le_refl _) _).alloc (by simp) _
 have k0 : w1.cell? ⟨w.heap.size, 0, none⟩ = some (.int .i64 0) ∧ w1.frozen? ⟨w.heap.size, 0, none⟩ = false := by rw [← hw1]; constructor <;> simp
 have k1 : w1.cell? ⟨w.heap.size + 1, 0, none⟩ = some (.slice A es.length c) ∧ w1.frozen? ⟨w.heap.size + 1, 0, none⟩ = false := by rw [← hw1]; constructor <;> simp
 rw [hw1]
 clear hw1
 refine range_count (gf := 164) (lb := #[.pointer (some ⟨w.heap.size + 1, 0, none⟩)]) rfl (enters_of Tryz.func164 (by kernel_rfl) rfl) rfl w (itemsF none es) hs1 hb1 k0.1 k0.2 ?it
  (fun s v => { tmps := #[.slice A es.length c, undef, .int .i64 0, .pointer (some ⟨w.heap.size, 0, none⟩), .slice A es.length c, .func (.func 164) #[] #[.pointer (some ⟨w.heap.size + 1, 0, none⟩)], .string s, v, undef, undef, undef], defers := [] }) ?assign ?body ?done
 case it =>
  intro L W hm h1 hY
  have hc := cell_heap h1 0
  exact items1_in 2 (w.heap.size + 3) (w.heap.size + 1) w (fun k W => Mid w L k W) (by omega) (fun k W N h => h.drewN N) (fun k W v h => h.far v) (fun k W h => h.below) hY es A c he hl hcp W (hc.1.trans k1.1) (hc.2.trans k1.2) hm
 case assign =>
  intro l s v W K hK
  gi_wp2
  simpa using hK
 case body =>
  intro l k L s v W hm
  have h1 := hm.cell
  have h2 := hm.soft
  have HM := Lib.hid hm
  clear hm
  gi_wp2
  rw [wrap_succ]
  exact ⟨HM.out.count, Below.heap_setCell _ _ _ _ (by simp)⟩
 case done =>
  intro L W hm
  have h1 := hm.cell
  have h2 := hm.soft
  have HM := Lib.hid hm
  have hil : itemsF none es ≤ 64 := Nat.le_trans (itemsF_len es none) hl
  have hw : wrap64 ((itemsF none es : Nat) : Int) = ((itemsF none es : Nat) : Int) := by unfold wrap64; omega
  rw [hw] at h1
  clear hm hw hil
  gi_wp2
  refine ⟨by simp, .inl ⟨_, _, rfl, run_takeDeferred HM.out.late, ?_⟩⟩
  exact ⟨_, results_tmp rfl _ _ _, rfl, HM.out.below.trans (belowK_b (w := w) (Nat.le_refl _) W _ _ _ (by omega) HM.out.late rfl rfl)⟩
end Go.Proofs.YtpdedfpacklnoaaGreatDoor
