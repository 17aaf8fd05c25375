/- Contract of ormap.item: isName. -/
import Derived.Test.YtpdedfpacklnoaaGreatDoorTkE
import Derived.Test.YtpdedfpacklnoaaGreatDoorMH
import Derived.Shelf.Strings.FuncGrows
import Derived.Laws.RangeAny
import Derived.Laws.Runes
import Derived.WalkMore
import Derived.Lib.OthersKept
set_option maxRecDepth 100000
namespace Go.Proofs
open Go.Shelf
def Tryz.laysGw15_ren : Go.Shelf.Ren := ⟨fun | 15 => 264 | 20 => 268 | n => n, fun | 23 => 303 | n => n, fun | n => n⟩
theorem Tryz.laysGw15 : Go.Proofs.LaysGw.n15 Tryz.prog Tryz.laysGw15_ren := {
  mixed := by kernel_rfl
  f15 := Tryz.func264.trans (congrArg some (by kernel_rfl))
  f20 := Tryz.func268.trans (congrArg some (by kernel_rfl))
  t0 := Tryz.underlying0
  a0 := Tryz.isAgg0
  z0 := Tryz.sizeOf0
  v0 := Tryz.zeroValue0
  i0 := by kernel_rfl
  t3 := Tryz.underlying3
  a3 := Tryz.isAgg3
  z3 := Tryz.sizeOf3
  v3 := Tryz.zeroValue3
  i3 := by kernel_rfl
  t4 := Tryz.underlying4
  a4 := Tryz.isAgg4
  z4 := Tryz.sizeOf4
  v4 := Tryz.zeroValue4
  i4 := by kernel_rfl
  t9 := Tryz.underlying9
  a9 := Tryz.isAgg9
  z9 := Tryz.sizeOf9
  v9 := Tryz.zeroValue9
  i9 := by kernel_rfl
  t21 := Tryz.underlying21
  a21 := Tryz.isAgg21
  z21 := Tryz.sizeOf21
  v21 := Tryz.zeroValue21
  i21 := by kernel_rfl
  t23 := Tryz.underlying303
  a23 := Tryz.isAgg303
  z23 := Tryz.sizeOf303
  v23 := Tryz.zeroValue303
  i23 := by kernel_rfl }
end Go.Proofs
namespace Go.Proofs.YtpdedfpacklnoaaGreatDoor
open Go.RowKit Go.BL Go.Ct Go.Sl

namespace It
theorem iter_below (w : World) (s : ByteArray) (p : Nat) : Below w.heap.size w (w.iter s p) := (Below.refl _ _).alloc (Nat.le_refl _) _
set_option maxHeartbeats 4000000 in
theorem rune_bad (w : World) : Calls Tryz.prog 256 #[.string ⟨#[45, 95, 46]⟩, .int .i32 65533] w (RetV (.int .i64 (-1)) w) := by
  go_enter Tryz.func256, Tryz.ntmps256
  go_wp2_with fail
  go_loopw [5, 6] (fun _ _ wr => ∃ k : Nat, k ≤ 3 ∧ Hid (wr = w.iter ⟨#[45, 95, 46]⟩ k)) (fun _ _ wr => 3 - wr.iterPos w.heap.size)
  case atStart => exact ⟨0, by omega, Lib.hid rfl⟩
  case round =>
    obtain ⟨k, hk, HK⟩ := hrel
    have hw := HK.out
    clear HK
    subst hw
    have h0 := fun ty => run_next_ascii (P := Tryz.prog) w ⟨#[45, 95, 46]⟩ 0 ty (by decide) (by decide)
    have h1 := fun ty => run_next_ascii (P := Tryz.prog) w ⟨#[45, 95, 46]⟩ 1 ty (by decide) (by decide)
    have h2 := fun ty => run_next_ascii (P := Tryz.prog) w ⟨#[45, 95, 46]⟩ 2 ty (by decide) (by decide)
    have h3 := fun ty => run_next_end (P := Tryz.prog) w ⟨#[45, 95, 46]⟩ 3 ty (by decide)
    rcases k with _ | _ | _ | _ | k
    · clear h1 h2 h3
      go_wp2_with fail
      exact ⟨⟨1, by omega, Lib.hid rfl⟩, by simp⟩
    · clear h0 h2 h3
      go_wp2_with fail
      exact ⟨⟨2, by omega, Lib.hid rfl⟩, by simp⟩
    · clear h0 h1 h3
      go_wp2_with fail
      exact ⟨⟨3, by omega, Lib.hid rfl⟩, by simp⟩
    · clear h0 h1 h2
      go_wp2_with fail
      go_ret
      exact ⟨rfl, iter_below _ _ _⟩
    · omega
theorem valid_any (r : Int) (w : World) : Calls Tryz.prog 267 #[.int .i32 r] w fun e w' => e = .returned (.bool (Lib.validRune r)) ∧ w = w' := (Tryz.utf8_ValidRune r w).mono fun _ _ ⟨a, b⟩ => ⟨a, b.symm⟩
theorem index_none (x : UInt8) : ∀ l : List UInt8, (∀ c ∈ l, c ≠ x) → Lib.indexByte l x = -1
  | [], _ => rfl
  | c :: t, h => by
    have e : (c == x) = false := beq_false_of_ne (h c (by simp))
    have := index_none x t (fun c' hc => h c' (by simp [hc]))
    simp only [Lib.indexByte] at this ⊢
    simp [e, this]
theorem none_any (l : List UInt8) (x : UInt8) (h : ∀ c ∈ l, c ≠ x) (w : World) : Calls Tryz.prog 172 #[.string ⟨l.toArray⟩, .int .u8 (x.toNat : Int)] w fun e w' => e = .returned (.int .i64 (-1)) ∧ w = w' := by
  refine (Tryz.strings_IndexByte ⟨l.toArray⟩ (x.toNat : Int) w).mono fun _ _ ⟨a, b⟩ => ⟨a.trans ?_, b.symm⟩
  rw [show ((x.toNat : Int)).toNat.toUInt8 = x by simp]
  have := index_none x l h
  rw [show ((⟨l.toArray⟩ : ByteArray).data.toList) = l from rfl, this]
theorem two_bytes {E : ByteArray} (h : E.size = 2) (hx : ∀ h : E.size - 1 < E.size, 128 ≤ (E[E.size - 1]'h).toNat) : ∃ a x : UInt8, E = ⟨#[a, x]⟩ ∧ 128 ≤ x.toNat := by
  obtain ⟨⟨l⟩⟩ := E
  match l, h with
  | [a, x], _ => exact ⟨a, x, rfl, hx (show 1 < 2 by decide)⟩
theorem three_bytes {E : ByteArray} (h : E.size = 3) (hx : ∀ h : E.size - 1 < E.size, 128 ≤ (E[E.size - 1]'h).toNat) : ∃ a b x : UInt8, E = ⟨#[a, b, x]⟩ ∧ 128 ≤ x.toNat := by
  obtain ⟨⟨l⟩⟩ := E
  match l, h with
  | [a, b, x], _ => exact ⟨a, b, x, rfl, hx (show 2 < 3 by decide)⟩
set_option maxHeartbeats 4000000 in
theorem rune_no (r : Int) (h : 128 ≤ r) (w : World) : Calls Tryz.prog 256 #[.string ⟨#[45, 95, 46]⟩, .int .i32 r] w (RetV (.int .i64 (-1)) w) := by
  by_cases hb : r = 65533
  · subst hb; exact rune_bad w
  have b0 : (r == 65533) = false := beq_false_of_ne hb
  have b1 : decide (0 ≤ r) = true := decide_eq_true (by omega)
  have b2 : decide (r < 128) = false := decide_eq_false (by omega)
  obtain ⟨u, hu⟩ : ∃ u, Lib.validRune r = u := ⟨_, rfl⟩
  have hv := valid_any r
  rw [hu] at hv
  cases u
  case false =>
    clear hu hb
    go_enter Tryz.func256, Tryz.ntmps256
    go_wp2_with (go_at_call 267; refine (hv _).mono ?_; rintro e w' ⟨rfl, rfl⟩)
    go_ret
    exact ⟨rfl, Below.refl _ _⟩
  have hval : Utf8.valid r = true := by
    unfold Lib.validRune at hu
    unfold Utf8.valid
    simp at hu ⊢
    omega
  obtain ⟨s1, s2, s3⟩ := encode_facts r hval h
  have hcv : ∀ w, (convert 21 9 (.int .i32 r)).run Tryz.prog w = .ok (.string (Utf8.encode r)) w := fun w => run_convert_int_string w 21 9 .i32 r (by kernel_rfl) Tryz.underlying9
  generalize Utf8.encode r = E at *
  by_cases h2 : E.size = 2
  case pos =>
    obtain ⟨a, x, rfl, hx⟩ := two_bytes h2 s3
    have hne : ((95 : Int) == (x.toNat : Int)) = false := beq_false_of_ne (by omega)
    have hno := none_any [46] x (fun c hc e => by simp at hc; subst hc; subst e; revert hx; decide)
    clear hu hb s1 s2 s3 h2 hx hval h
    go_enter Tryz.func256, Tryz.ntmps256
    go_wp2_with (go_at_call 267; refine (hv _).mono ?_; rintro e w' ⟨rfl, rfl⟩)
    have hi1 : ∀ h, (⟨#[45, 95, 46]⟩ : ByteArray)[1]'h = 95 := fun _ => rfl
    have hi2 : ∀ h, (⟨#[a, x]⟩ : ByteArray)[1]'h = x := fun _ => rfl
    go_wp2_with fail
    have hsl : ∀ w, (Instr.slice 9 (.string ⟨#[45, 95, 46]⟩) (some (.int .i64 2)) none none).run Tryz.prog w = .ok (.string ⟨#[46]⟩) w := fun w => by
      rw [run_slice_string_from_if _ 9 _ _ _ Tryz.underlying9]
      rfl
    go_step3
    go_wp2_with fail
    go_loop [9, 10] (fun i f => i = .int .i64 1 ∧ f = .int .i64 0) (fun _ _ => 0)
    case atStart => exact ⟨rfl, rfl⟩
    case round =>
      obtain ⟨rfl, rfl⟩ := hrel
      go_wp2_with fail
      go_step3
      go_wp2_with fail
      go_quiet (fail)
      go_wp2_with fail
      go_quiet (exact (hno _).mono fun _ _ ⟨a, b⟩ => ⟨a, _, b.symm⟩)
      go_wp2_with fail
      rw [Exit.noGoto_ret]
      simp only [Exit.inBlock]
      go_ret
      exact ⟨rfl, H.below_drewN (Below.refl _ _) _⟩
  by_cases h3 : E.size = 3
  case pos =>
    obtain ⟨a, b, x, rfl, hx⟩ := three_bytes h3 s3
    have hne : ((46 : Int) == (x.toNat : Int)) = false := beq_false_of_ne (by omega)
    have hno := none_any [] x (fun c hc => by simp at hc)
    clear hu hb s1 s2 s3 h2 h3 hx hval h
    go_enter Tryz.func256, Tryz.ntmps256
    go_wp2_with (go_at_call 267; refine (hv _).mono ?_; rintro e w' ⟨rfl, rfl⟩)
    have hi1 : ∀ h, (⟨#[45, 95, 46]⟩ : ByteArray)[2]'h = 46 := fun _ => rfl
    have hi2 : ∀ h, (⟨#[a, b, x]⟩ : ByteArray)[2]'h = x := fun _ => rfl
    go_wp2_with fail
    have hsl : ∀ w, (Instr.slice 9 (.string ⟨#[45, 95, 46]⟩) (some (.int .i64 3)) none none).run Tryz.prog w = .ok (.string ⟨#[]⟩) w := fun w => by
      rw [run_slice_string_from_if _ 9 _ _ _ Tryz.underlying9]
      rfl
    go_step3
    go_wp2_with fail
    go_loop [9, 10] (fun i f => i = .int .i64 2 ∧ f = .int .i64 0) (fun _ _ => 0)
    case atStart => exact ⟨rfl, rfl⟩
    case round =>
      obtain ⟨rfl, rfl⟩ := hrel
      go_wp2_with fail
      go_step3
      go_wp2_with fail
      go_quiet (fail)
      go_wp2_with fail
      go_quiet (exact (hno _).mono fun _ _ ⟨a, b⟩ => ⟨a, _, b.symm⟩)
      go_wp2_with fail
      rw [Exit.noGoto_ret]
      simp only [Exit.inBlock]
      go_ret
      exact ⟨rfl, H.below_drewN (Below.refl _ _) _⟩
  obtain ⟨n, hn⟩ : ∃ n : Int, (E.size : Int) = n := ⟨_, rfl⟩
  have hn2 : 4 ≤ n := by omega
  have hn4 : n ≤ 4 := by omega
  have hw : wrap64 (n - 1) = n - 1 := by unfold wrap64; omega
  have hlt : decide (n - 1 < 3) = false := decide_eq_false (by omega)
  clear hu hb s1 s2 s3 h2 h3 hval h hn2 hn4
  go_enter Tryz.func256, Tryz.ntmps256
  go_wp2_with (go_at_call 267; refine (hv _).mono ?_; rintro e w' ⟨rfl, rfl⟩)
  go_step3
  go_wp2_with fail
  go_loop [9, 10] (fun i f => i = .int .i64 (n - 1) ∧ f = .int .i64 0) (fun _ _ => 0)
  case atStart => exact ⟨by rw [hw], rfl⟩
  case round =>
    obtain ⟨rfl, rfl⟩ := hrel
    go_wp2_with fail
    go_ret
    exact ⟨rfl, Below.refl _ _⟩
/-- One of the three signs. -/
def signN (x : Nat) : Bool := decide (x = 45 ∨ x = 95 ∨ x = 46)
def nameN (x : Nat) : Bool := (decide (97 ≤ x) && decide (x ≤ 122)) || (decide (65 ≤ x) && decide (x ≤ 90)) || (decide (48 ≤ x) && decide (x ≤ 57)) || signN x
theorem contains_any (x : Nat) (w : World) : Calls Tryz.prog 238 #[.string ⟨#[45, 95, 46]⟩, .int .i32 (x : Int)] w (RetV (.bool (signN x)) w) := by
  by_cases hx : x < 128
  · refine (Tryz.strings_ContainsRune_ascii ⟨#[45, 95, 46]⟩ (x : Int) w (by omega) (by omega)).mono fun _ _ ⟨a, b⟩ => ⟨a.trans ?_, by rw [b]; exact Below.refl _ _⟩
    congr 2
    have : ∀ y : Fin 128, decide (0 ≤ Lib.indexByte [45, 95, 46] ((y.val : Int)).toNat.toUInt8) = signN y.val := by decide
    exact this ⟨x, hx⟩
  · have hr := rune_no (x : Int) (by omega)
    have e : signN x = false := by unfold signN; exact decide_eq_false (by omega)
    rw [e]
    go_enter Tryz.func238, Tryz.ntmps238
    go_wp2_with (go_at_call 256; refine (hr _).mono ?_; rintro e w1 ⟨rfl, hb⟩; have HB := Lib.hid hb; clear hb)
    go_ret
    exact ⟨rfl, HB.out⟩
set_option maxHeartbeats 4000000 in
theorem other_any (x : Nat) (w : World) : Calls Tryz.prog 263 #[.int .i32 (x : Int)] w (RetV (.bool (!nameN x)) w) := by
  have hc := contains_any x
  obtain ⟨b, hb⟩ : ∃ b, signN x = b := ⟨_, rfl⟩
  rw [hb] at hc
  rcases (by omega : x < 48 ∨ (48 ≤ x ∧ x ≤ 57) ∨ (57 < x ∧ x < 65) ∨ (65 ≤ x ∧ x ≤ 90) ∨ (90 < x ∧ x < 97) ∨ (97 ≤ x ∧ x ≤ 122) ∨ 122 < x) with h | h | h | h | h | h | h
  · have e : nameN x = b := by unfold nameN; rw [hb, decide_eq_false (show ¬ 97 ≤ x by omega), decide_eq_true (show x ≤ 122 by omega), decide_eq_false (show ¬ 65 ≤ x by omega), decide_eq_true (show x ≤ 90 by omega), decide_eq_false (show ¬ 48 ≤ x by omega), decide_eq_true (show x ≤ 57 by omega)]; simp
    rw [e]
    have g0 : decide ((97 : Int) ≤ (x : Int)) = false := decide_eq_false (by omega)
    have g1 : decide ((x : Int) ≤ (122 : Int)) = true := decide_eq_true (by omega)
    have g2 : decide ((65 : Int) ≤ (x : Int)) = false := decide_eq_false (by omega)
    have g3 : decide ((x : Int) ≤ (90 : Int)) = true := decide_eq_true (by omega)
    have g4 : decide ((48 : Int) ≤ (x : Int)) = false := decide_eq_false (by omega)
    have g5 : decide ((x : Int) ≤ (57 : Int)) = true := decide_eq_true (by omega)
    clear h hb e
    go_enter Tryz.func263, Tryz.ntmps263
    go_wp2_with (go_at_call 238; refine (hc _).mono ?_; rintro e w1 ⟨rfl, hb⟩; have HB := Lib.hid hb; clear hb)
    go_ret
    exact ⟨rfl, HB.out⟩
  · have e : nameN x = true := by unfold nameN; rw [hb, decide_eq_false (show ¬ 97 ≤ x by omega), decide_eq_true (show x ≤ 122 by omega), decide_eq_false (show ¬ 65 ≤ x by omega), decide_eq_true (show x ≤ 90 by omega), decide_eq_true (show 48 ≤ x by omega), decide_eq_true (show x ≤ 57 by omega)]; simp
    rw [e]
    have g0 : decide ((97 : Int) ≤ (x : Int)) = false := decide_eq_false (by omega)
    have g1 : decide ((x : Int) ≤ (122 : Int)) = true := decide_eq_true (by omega)
    have g2 : decide ((65 : Int) ≤ (x : Int)) = false := decide_eq_false (by omega)
    have g3 : decide ((x : Int) ≤ (90 : Int)) = true := decide_eq_true (by omega)
    have g4 : decide ((48 : Int) ≤ (x : Int)) = true := decide_eq_true (by omega)
    have g5 : decide ((x : Int) ≤ (57 : Int)) = true := decide_eq_true (by omega)
    clear h hb e
    go_enter Tryz.func263, Tryz.ntmps263
    clear hc
    go_wp2_with fail
    go_ret
    exact ⟨rfl, Below.refl _ _⟩
  · have e : nameN x = b := by unfold nameN; rw [hb, decide_eq_false (show ¬ 97 ≤ x by omega), decide_eq_true (show x ≤ 122 by omega), decide_eq_false (show ¬ 65 ≤ x by omega), decide_eq_true (show x ≤ 90 by omega), decide_eq_true (show 48 ≤ x by omega), decide_eq_false (show ¬ x ≤ 57 by omega)]; simp
    rw [e]
    have g0 : decide ((97 : Int) ≤ (x : Int)) = false := decide_eq_false (by omega)
    have g1 : decide ((x : Int) ≤ (122 : Int)) = true := decide_eq_true (by omega)
    have g2 : decide ((65 : Int) ≤ (x : Int)) = false := decide_eq_false (by omega)
    have g3 : decide ((x : Int) ≤ (90 : Int)) = true := decide_eq_true (by omega)
    have g4 : decide ((48 : Int) ≤ (x : Int)) = true := decide_eq_true (by omega)
    have g5 : decide ((x : Int) ≤ (57 : Int)) = false := decide_eq_false (by omega)
    clear h hb e
    go_enter Tryz.func263, Tryz.ntmps263
    go_wp2_with (go_at_call 238; refine (hc _).mono ?_; rintro e w1 ⟨rfl, hb⟩; have HB := Lib.hid hb; clear hb)
    go_ret
    exact ⟨rfl, HB.out⟩
  · have e : nameN x = true := by unfold nameN; rw [hb, decide_eq_false (show ¬ 97 ≤ x by omega), decide_eq_true (show x ≤ 122 by omega), decide_eq_true (show 65 ≤ x by omega), decide_eq_true (show x ≤ 90 by omega), decide_eq_true (show 48 ≤ x by omega), decide_eq_false (show ¬ x ≤ 57 by omega)]; simp
    rw [e]
    have g0 : decide ((97 : Int) ≤ (x : Int)) = false := decide_eq_false (by omega)
    have g1 : decide ((x : Int) ≤ (122 : Int)) = true := decide_eq_true (by omega)
    have g2 : decide ((65 : Int) ≤ (x : Int)) = true := decide_eq_true (by omega)
    have g3 : decide ((x : Int) ≤ (90 : Int)) = true := decide_eq_true (by omega)
    have g4 : decide ((48 : Int) ≤ (x : Int)) = true := decide_eq_true (by omega)
    have g5 : decide ((x : Int) ≤ (57 : Int)) = false := decide_eq_false (by omega)
    clear h hb e
    go_enter Tryz.func263, Tryz.ntmps263
    clear hc
    go_wp2_with fail
    go_ret
    exact ⟨rfl, Below.refl _ _⟩
  · have e : nameN x = b := by unfold nameN; rw [hb, decide_eq_false (show ¬ 97 ≤ x by omega), decide_eq_true (show x ≤ 122 by omega), decide_eq_true (show 65 ≤ x by omega), decide_eq_false (show ¬ x ≤ 90 by omega), decide_eq_true (show 48 ≤ x by omega), decide_eq_false (show ¬ x ≤ 57 by omega)]; simp
    rw [e]
    have g0 : decide ((97 : Int) ≤ (x : Int)) = false := decide_eq_false (by omega)
    have g1 : decide ((x : Int) ≤ (122 : Int)) = true := decide_eq_true (by omega)
    have g2 : decide ((65 : Int) ≤ (x : Int)) = true := decide_eq_true (by omega)
    have g3 : decide ((x : Int) ≤ (90 : Int)) = false := decide_eq_false (by omega)
    have g4 : decide ((48 : Int) ≤ (x : Int)) = true := decide_eq_true (by omega)
    have g5 : decide ((x : Int) ≤ (57 : Int)) = false := decide_eq_false (by omega)
    clear h hb e
    go_enter Tryz.func263, Tryz.ntmps263
    go_wp2_with (go_at_call 238; refine (hc _).mono ?_; rintro e w1 ⟨rfl, hb⟩; have HB := Lib.hid hb; clear hb)
    go_ret
    exact ⟨rfl, HB.out⟩
  · have e : nameN x = true := by unfold nameN; rw [hb, decide_eq_true (show 97 ≤ x by omega), decide_eq_true (show x ≤ 122 by omega), decide_eq_true (show 65 ≤ x by omega), decide_eq_false (show ¬ x ≤ 90 by omega), decide_eq_true (show 48 ≤ x by omega), decide_eq_false (show ¬ x ≤ 57 by omega)]; simp
    rw [e]
    have g0 : decide ((97 : Int) ≤ (x : Int)) = true := decide_eq_true (by omega)
    have g1 : decide ((x : Int) ≤ (122 : Int)) = true := decide_eq_true (by omega)
    have g2 : decide ((65 : Int) ≤ (x : Int)) = true := decide_eq_true (by omega)
    have g3 : decide ((x : Int) ≤ (90 : Int)) = false := decide_eq_false (by omega)
    have g4 : decide ((48 : Int) ≤ (x : Int)) = true := decide_eq_true (by omega)
    have g5 : decide ((x : Int) ≤ (57 : Int)) = false := decide_eq_false (by omega)
    clear h hb e
    go_enter Tryz.func263, Tryz.ntmps263
    clear hc
    go_wp2_with fail
    go_ret
    exact ⟨rfl, Below.refl _ _⟩
  · have e : nameN x = b := by unfold nameN; rw [hb, decide_eq_true (show 97 ≤ x by omega), decide_eq_false (show ¬ x ≤ 122 by omega), decide_eq_true (show 65 ≤ x by omega), decide_eq_false (show ¬ x ≤ 90 by omega), decide_eq_true (show 48 ≤ x by omega), decide_eq_false (show ¬ x ≤ 57 by omega)]; simp
    rw [e]
    have g0 : decide ((97 : Int) ≤ (x : Int)) = true := decide_eq_true (by omega)
    have g1 : decide ((x : Int) ≤ (122 : Int)) = false := decide_eq_false (by omega)
    have g2 : decide ((65 : Int) ≤ (x : Int)) = true := decide_eq_true (by omega)
    have g3 : decide ((x : Int) ≤ (90 : Int)) = false := decide_eq_false (by omega)
    have g4 : decide ((48 : Int) ≤ (x : Int)) = true := decide_eq_true (by omega)
    have g5 : decide ((x : Int) ≤ (57 : Int)) = false := decide_eq_false (by omega)
    clear h hb e
    go_enter Tryz.func263, Tryz.ntmps263
    go_wp2_with (go_at_call 238; refine (hc _).mono ?_; rintro e w1 ⟨rfl, hb⟩; have HB := Lib.hid hb; clear hb)
    go_ret
    exact ⟨rfl, HB.out⟩
theorem nameN_big {x : Nat} (h : 128 ≤ x) : nameN x = false := by
  unfold nameN signN
  rw [decide_eq_false (show ¬ x ≤ 122 by omega), decide_eq_false (show ¬ x ≤ 90 by omega), decide_eq_false (show ¬ x ≤ 57 by omega), decide_eq_false (show ¬ (x = 45 ∨ x = 95 ∨ x = 46) by omega)]
  simp
theorem nameB_N (c : UInt8) : nameB c = nameN c.toNat := by
  have : ∀ c : Fin 256, nameB (UInt8.ofNat c.val) = nameN c.val := by decide
  have h := this ⟨c.toNat, c.toNat_lt⟩
  simpa using h
theorem idx_name (l : List UInt8) : ∀ (f pos : Nat), l.length ≤ pos + f → decide (Lib.idxFuncFrom (fun x => !nameN x) true ⟨l.toArray⟩ f pos < 0) = (l.drop pos).all nameB
  | 0, pos, h => by
    rw [List.drop_eq_nil_of_le (by omega)]; rfl
  | f + 1, pos, h => by
    unfold Lib.idxFuncFrom
    by_cases hp : pos < l.length
    · have hp' : pos < (⟨l.toArray⟩ : ByteArray).size := hp
      rw [if_pos hp', List.drop_eq_getElem_cons hp, List.all_cons]
      by_cases ha : l[pos].toNat < 128
      · have hd := decode_ascii ⟨l.toArray⟩ pos hp' ha
        rw [hd]
        change decide ((if (!nameN l[pos].toNat) = true then (pos : Int) else Lib.idxFuncFrom _ true _ f (pos + 1)) < 0) = _
        have ih := idx_name l f (pos + 1) (by omega)
        rw [nameB_N]
        cases hn : nameN l[pos].toNat with
        | true =>
          rw [if_neg (by simp), Bool.true_and]; exact ih
        | false =>
          rw [if_pos (by simp), Bool.false_and]; exact decide_eq_false (by omega)
      · have hd := decode_high ⟨l.toArray⟩ pos hp' (by have : ¬ l[pos].toNat < 128 := ha; show 128 ≤ l[pos].toNat; omega)
        have n1 : nameN (Utf8.decode ⟨l.toArray⟩ pos).1 = false := nameN_big hd.1
        have n2 : nameB l[pos] = false := by rw [nameB_N]; exact nameN_big (by omega)
        rw [n1, n2, if_pos (by rfl), Bool.false_and]
        exact decide_eq_false (by omega)
    · have hp' : ¬ pos < (⟨l.toArray⟩ : ByteArray).size := hp
      rw [if_neg hp', List.drop_eq_nil_of_le (by omega)]; rfl
theorem index_any (l : List UInt8) (w : World) : Calls Tryz.prog 264 #[.string ⟨l.toArray⟩, .func (.func 263) #[] #[]] w fun e w' => ∃ n : Int, e = .returned (.int .i64 n) ∧ decide (n < 0) = l.all nameB ∧ Below w.heap.size w w' := by
  have h := Any.strings_IndexFunc_grows Tryz.laysGw15 263 #[] (enters_of Tryz.func263 (by kernel_rfl) rfl) (fun x => !nameN x) ⟨l.toArray⟩ w (fun W x _ _ => other_any x W)
  have e := idx_name l l.length 0 (by omega)
  exact h.mono fun _ _ ⟨a, b⟩ => ⟨_, a, e, b⟩
end It
set_option maxHeartbeats 4000000 in
theorem item_any : ItemC := by
  intro l w hl
  have hi := It.index_any l
  have g1 : decide ((l.length : Int) ≤ 32) = decide (l.length ≤ 32) := by congr 1; exact propext (by omega)
  by_cases h1 : l = []
  case pos =>
    subst h1
    go_enter Tryz.func249, Tryz.ntmps249
    go_wp2_with fail
    go_ret
    exact ⟨rfl, Below.refl _ _⟩
  have g0 : l.isEmpty = false := by simpa using h1
  by_cases h2 : l.length ≤ 32
  case neg =>
    have g2 : decide ((l.length : Int) ≤ 32) = false := decide_eq_false (by omega)
    have e : isName l = false := by unfold isName; rw [decide_eq_false h2]; simp
    rw [e]
    clear g1 h1 h2 e hi
    go_enter Tryz.func249, Tryz.ntmps249
    go_wp2_with fail
    go_ret
    exact ⟨rfl, Below.refl _ _⟩
  have g2 : decide ((l.length : Int) ≤ 32) = true := decide_eq_true (by omega)
  have e : isName l = l.all nameB := by unfold isName; rw [decide_eq_true h2, g0]; simp
  rw [e]
  clear g1 h1 h2 e
  go_enter Tryz.func249, Tryz.ntmps249
  go_wp2_with (go_at_call 264; refine (hi _).mono ?_; rintro e w1 ⟨n, rfl, hn, hb⟩; have HB := Lib.hid hb; have HN := Lib.hid hn; clear hb hn)
  go_ret
  exact ⟨by rw [← HN.out]; rfl, HB.out⟩
end Go.Proofs.YtpdedfpacklnoaaGreatDoor
