/- TillMeans: mean, Mean and Spread of both packages, and the walk of the law. -/
import Derived.Test.YtflmlkaiahpnmaaEqU
namespace Go.Proofs.Ytflmlkaiahpnmaa
open Go.RowKit Go.Fl
theorem foldl_snoc {α : Type} (f : α → Nat → α) (a : α) (us : List Nat) (k : Nat) (h : k < us.length) : (us.take (k + 1)).foldl f a = f ((us.take k).foldl f a) (us.getD k 0) := by
  rw [UL.take_snoc' us k h, List.foldl_append]; rfl
def addc (t : Option Nat) (x : Nat) : Option Nat := opc .add t (canon x)
def meanc (us : List Nat) : Option Nat := opc .quo (us.foldl addc (some 0)) (canon (floatOfInt .f64 us.length))
def sqc (m t : Option Nat) (x : Nat) : Option Nat := opc .add t (opc .mul (opc .sub (canon x) m) (opc .sub (canon x) m))
def spreadc (us : List Nat) : Option Nat := opc .quo (us.foldl (sqc (meanc us)) (some 0)) (canon (floatOfInt .f64 us.length))

theorem mean_any (A : Option Addr) (n cap : Nat) (us : List Nat) (w : World) (hr : UL.Rd w A n us) : Calls Try.prog 35 #[.slice A n cap] w (RetF (meanc us) w) := by
  have hm := hr.2.1
  unfold maxLen at hm
  have ha := fun w x y => run_fl (P := Try.prog) w .add (by simp) 42 x y
  have hq := fun w x y => run_fl (P := Try.prog) w .quo (by simp) 42 x y
  have Hr := Lib.hid hr
  clear hr
  go_enter Try.func35, Try.ntmps35
  go_wp2
  go_loopw [3, 8] (fun t i wr => ∃ (k v : Nat), k ≤ n ∧ i = .int .i64 k ∧ t = .float .f64 v ∧ Hid (canon v = (us.take k).foldl addc (some 0)) ∧ Hid (Below w.heap.size w wr)) (fun _ i _ => n - (intOf i).toNat)
  case atStart => exact ⟨0, 0, Nat.zero_le _, rfl, rfl, Lib.hid (by rw [List.take_zero]; decide +kernel), Lib.hid (Below.refl _ _)⟩
  case round =>
    obtain ⟨k, v, hk, rfl, rfl, Hv, Hb⟩ := hrel
    by_cases hlt : k < n
    · obtain ⟨b, off, rfl, hbl, hc⟩ := (Hr.out.below Hb.out (Nat.le_refl _)).2.2.2 (by omega)
      have h1 := hc k hlt
      have Ht := Lib.hid (foldl_snoc addc (some 0) us k (by rw [Hr.out.1]; exact hlt))
      clear hc
      generalize us.getD k 0 = x at *
      go_wp2_with fail
      refine (float_any _ _).mono ?_
      rintro e w1 ⟨rfl, rfl⟩
      go_wp2_with fail
      go_roundw
      case rel => exact ⟨k + 1, _, by omega, by go_num, rfl, Lib.hid (by rw [Ht.out, ← Hv.out]; exact canon_res _ _ _ _), Lib.hid (Hb.out.drewN' _)⟩
      case measure => simp [intOf]; omega
    · obtain rfl : k = n := by omega
      go_wp2
      go_ret
      exact ⟨_, rfl, by rw [canon_res, Hv.out, List.take_of_length_le (by rw [Hr.out.1]; omega), meanc, Hr.out.1], Hb.out.drewN' _⟩

theorem meanR_any (A : Option Addr) (n cap : Nat) (us : List Nat) (w : World) (hr : UL.Rd w A n us) : Calls Try.prog 36 #[.slice A n cap] w (RetF (meanc us) w) := by
  have hm := hr.2.1
  unfold maxLen at hm
  have ha := fun w x y => run_fl (P := Try.prog) w .add (by simp) 42 x y
  have hq := fun w x y => run_fl (P := Try.prog) w .quo (by simp) 42 x y
  have Hr := Lib.hid hr
  clear hr
  go_enter Try.func36, Try.ntmps36
  go_wp2
  go_loopw [3, 8] (fun t i wr => ∃ (k v : Nat), k ≤ n ∧ i = .int .i64 k ∧ t = .float .f64 v ∧ Hid (canon v = (us.take k).foldl addc (some 0)) ∧ Hid (Below w.heap.size w wr)) (fun _ i _ => n - (intOf i).toNat)
  case atStart => exact ⟨0, 0, Nat.zero_le _, rfl, rfl, Lib.hid (by rw [List.take_zero]; decide +kernel), Lib.hid (Below.refl _ _)⟩
  case round =>
    obtain ⟨k, v, hk, rfl, rfl, Hv, Hb⟩ := hrel
    by_cases hlt : k < n
    · obtain ⟨b, off, rfl, hbl, hc⟩ := (Hr.out.below Hb.out (Nat.le_refl _)).2.2.2 (by omega)
      have h1 := hc k hlt
      have Ht := Lib.hid (foldl_snoc addc (some 0) us k (by rw [Hr.out.1]; exact hlt))
      clear hc
      generalize us.getD k 0 = x at *
      go_wp2_with fail
      refine (floatR_any _ _).mono ?_
      rintro e w1 ⟨rfl, rfl⟩
      go_wp2_with fail
      go_roundw
      case rel => exact ⟨k + 1, _, by omega, by go_num, rfl, Lib.hid (by rw [Ht.out, ← Hv.out]; exact canon_res _ _ _ _), Lib.hid (Hb.out.drewN' _)⟩
      case measure => simp [intOf]; omega
    · obtain rfl : k = n := by omega
      go_wp2
      go_ret
      exact ⟨_, rfl, by rw [canon_res, Hv.out, List.take_of_length_le (by rw [Hr.out.1]; omega), meanc, Hr.out.1], Hb.out.drewN' _⟩
theorem Mean_any (A : Option Addr) (n cap : Nat) (us : List Nat) (w : World) (hr : UL.Rd w A n us) : Calls Try.prog 18 #[.slice A n cap] w (RetV (.int .u64 (wordI (meanc us))) w) := by
  have Hr := Lib.hid hr
  clear hr
  go_enter Try.func18, Try.ntmps18
  go_wp2_with fail
  refine (mean_any _ _ _ _ _ Hr.out).mono ?_
  rintro e w1 ⟨u, rfl, hu, hb1⟩
  have Hu := Lib.hid hu
  have Hb1 := Lib.hid hb1
  clear hu hb1
  go_wp2_with fail
  refine (bits_any _ _).mono ?_
  rw [Hu.out]
  rintro e w' ⟨rfl, rfl⟩
  go_wp2
  go_ret
  exact ⟨rfl, Hb1.out⟩
theorem MeanR_any (A : Option Addr) (n cap : Nat) (us : List Nat) (w : World) (hr : UL.Rd w A n us) : Calls Try.prog 19 #[.slice A n cap] w (RetV (.int .u64 (wordI (meanc us))) w) := by
  have Hr := Lib.hid hr
  clear hr
  go_enter Try.func19, Try.ntmps19
  go_wp2_with fail
  refine (meanR_any _ _ _ _ _ Hr.out).mono ?_
  rintro e w1 ⟨u, rfl, hu, hb1⟩
  have Hu := Lib.hid hu
  have Hb1 := Lib.hid hb1
  clear hu hb1
  go_wp2_with fail
  refine (bitsR_any _ _).mono ?_
  rw [Hu.out]
  rintro e w' ⟨rfl, rfl⟩
  go_wp2
  go_ret
  exact ⟨rfl, Hb1.out⟩
theorem Spread_any (A : Option Addr) (n cap : Nat) (us : List Nat) (w : World) (hr : UL.Rd w A n us) : Calls Try.prog 20 #[.slice A n cap] w (RetV (.int .u64 (wordI (spreadc us))) w) := by
  have hm := hr.2.1
  unfold maxLen at hm
  have ha := fun w x y => run_fl (P := Try.prog) w .add (by simp) 42 x y
  have hs := fun w x y => run_fl (P := Try.prog) w .sub (by simp) 42 x y
  have hp := fun w x y => run_fl (P := Try.prog) w .mul (by simp) 42 x y
  have hq := fun w x y => run_fl (P := Try.prog) w .quo (by simp) 42 x y
  have Hr := Lib.hid hr
  clear hr
  go_enter Try.func20, Try.ntmps20
  go_wp2_with fail
  refine (mean_any _ _ _ _ _ Hr.out).mono ?_
  rintro e w1 ⟨u, rfl, hu, hb1⟩
  have Hu := Lib.hid hu
  have Hb1 := Lib.hid hb1
  clear hu hb1
  go_wp2
  go_loopw [4, 12] (fun t i wr => ∃ (k v : Nat), k ≤ n ∧ i = .int .i64 k ∧ t = .float .f64 v ∧ Hid (canon v = (us.take k).foldl (sqc (meanc us)) (some 0)) ∧ Hid (Below w.heap.size w wr)) (fun _ i _ => n - (intOf i).toNat)
  case atStart => exact ⟨0, 0, Nat.zero_le _, rfl, rfl, Lib.hid (by rw [List.take_zero, List.foldl_nil]; decide +kernel), Hb1⟩
  case round =>
    obtain ⟨k, v, hk, rfl, rfl, Hv, Hb⟩ := hrel
    by_cases hlt : k < n
    · obtain ⟨b, off, rfl, hbl, hc⟩ := (Hr.out.below Hb.out (Nat.le_refl _)).2.2.2 (by omega)
      have h1 := hc k hlt
      have Ht := Lib.hid (foldl_snoc (sqc (meanc us)) (some 0) us k (by rw [Hr.out.1]; exact hlt))
      clear hc
      generalize us.getD k 0 = x at *
      go_wp2_with fail
      refine (float_any _ _).mono ?_
      rintro e w2 ⟨rfl, rfl⟩
      go_wp2_with fail
      go_roundw
      case rel => exact ⟨k + 1, _, by omega, by go_num, rfl, Lib.hid (by rw [Ht.out, ← Hv.out, sqc, canon_res, canon_res, canon_res, Hu.out]), Lib.hid (Hb.out.drewN' _)⟩
      case measure => simp [intOf]; omega
    · obtain rfl : k = n := by omega
      have Hc : Hid (opc .quo (canon v) (canon (floatOfInt .f64 k)) = spreadc us) := Lib.hid (by rw [Hv.out, List.take_of_length_le (by rw [Hr.out.1]; omega), spreadc, Hr.out.1])
      go_wp2_with fail
      refine (bits_any _ _).mono ?_
      rw [canon_res, Hc.out]
      rintro e w' ⟨rfl, rfl⟩
      go_wp2
      go_ret
      exact ⟨rfl, Hb.out.drewN' _⟩
theorem SpreadR_any (A : Option Addr) (n cap : Nat) (us : List Nat) (w : World) (hr : UL.Rd w A n us) : Calls Try.prog 21 #[.slice A n cap] w (RetV (.int .u64 (wordI (spreadc us))) w) := by
  have hm := hr.2.1
  unfold maxLen at hm
  have ha := fun w x y => run_fl (P := Try.prog) w .add (by simp) 42 x y
  have hs := fun w x y => run_fl (P := Try.prog) w .sub (by simp) 42 x y
  have hp := fun w x y => run_fl (P := Try.prog) w .mul (by simp) 42 x y
  have hq := fun w x y => run_fl (P := Try.prog) w .quo (by simp) 42 x y
  have Hr := Lib.hid hr
  clear hr
  go_enter Try.func21, Try.ntmps21
  go_wp2_with fail
  refine (meanR_any _ _ _ _ _ Hr.out).mono ?_
  rintro e w1 ⟨u, rfl, hu, hb1⟩
  have Hu := Lib.hid hu
  have Hb1 := Lib.hid hb1
  clear hu hb1
  go_wp2
  go_loopw [4, 12] (fun t i wr => ∃ (k v : Nat), k ≤ n ∧ i = .int .i64 k ∧ t = .float .f64 v ∧ Hid (canon v = (us.take k).foldl (sqc (meanc us)) (some 0)) ∧ Hid (Below w.heap.size w wr)) (fun _ i _ => n - (intOf i).toNat)
  case atStart => exact ⟨0, 0, Nat.zero_le _, rfl, rfl, Lib.hid (by rw [List.take_zero, List.foldl_nil]; decide +kernel), Hb1⟩
  case round =>
    obtain ⟨k, v, hk, rfl, rfl, Hv, Hb⟩ := hrel
    by_cases hlt : k < n
    · obtain ⟨b, off, rfl, hbl, hc⟩ := (Hr.out.below Hb.out (Nat.le_refl _)).2.2.2 (by omega)
      have h1 := hc k hlt
      have Ht := Lib.hid (foldl_snoc (sqc (meanc us)) (some 0) us k (by rw [Hr.out.1]; exact hlt))
      clear hc
      generalize us.getD k 0 = x at *
      go_wp2_with fail
      refine (floatR_any _ _).mono ?_
      rintro e w2 ⟨rfl, rfl⟩
      go_wp2_with fail
      go_roundw
      case rel => exact ⟨k + 1, _, by omega, by go_num, rfl, Lib.hid (by rw [Ht.out, ← Hv.out, sqc, canon_res, canon_res, canon_res, Hu.out]), Lib.hid (Hb.out.drewN' _)⟩
      case measure => simp [intOf]; omega
    · obtain rfl : k = n := by omega
      have Hc : Hid (opc .quo (canon v) (canon (floatOfInt .f64 k)) = spreadc us) := Lib.hid (by rw [Hv.out, List.take_of_length_le (by rw [Hr.out.1]; omega), spreadc, Hr.out.1])
      go_wp2_with fail
      refine (bitsR_any _ _).mono ?_
      rw [canon_res, Hc.out]
      rintro e w' ⟨rfl, rfl⟩
      go_wp2
      go_ret
      exact ⟨rfl, Hb.out.drewN' _⟩

theorem equal_same (A C : Option Addr) (n cap cap' : Nat) (bs : List Nat) (w : World) (hr : UL.Rd w A n bs) (hs : UL.Rd w C n bs) :
    Calls Try.prog 22 #[.slice A n cap, .slice C n cap'] w (RetV (.bool true) w) :=
  (equal_any A C n n cap cap' bs bs w hr hs).mono fun e w' ⟨he, k, hw⟩ => by
    subst hw
    exact ⟨by rw [he, decide_eq_true rfl], (Below.refl _ _).drewN' _⟩
theorem means_any (A : Option Addr) (n cap : Nat) (us : List Nat) (w : World) (hr : UL.Rd w A n us) (hn : n * 8 ≤ 140737488355328) : Calls Try.prog 7 #[.slice A n cap] w (RetV (.bool true) w) := by
  have hl := hr.1
  subst hl
  have Hr := Lib.hid hr
  have Hn := Lib.hid hn
  clear hr hn
  go_enter Try.func7, Try.ntmps7
  go_wp2_with fail
  refine (clone_any _ _ _ _ _ Hr.out Hn.out).mono ?_
  rintro e w1 ⟨v, rfl, ho, hb⟩
  obtain ⟨G, gc, rfl, hg⟩ := ho.rd
  have Hg := Lib.hid hg
  have B1 := Lib.hid hb
  have R1 := Lib.hid (Hr.out.below hb (Nat.le_refl _))
  clear ho hb hg
  go_wp2_with fail
  refine (Mean_any _ _ _ us _ Hg.out).mono ?_
  rintro e w2 ⟨rfl, hb⟩
  have B2 : Hid (Below w.heap.size w w2) := Lib.hid (B1.out.trans (hb.mono B1.out.size))
  have R2 := Lib.hid (R1.out.below hb (Nat.le_refl _))
  have G2 := Lib.hid (Hg.out.below hb (Nat.le_refl _))
  clear hb
  go_wp2_with fail
  refine (MeanR_any _ _ _ us _ R2.out).mono ?_
  rintro e w3 ⟨rfl, hb⟩
  have B3 : Hid (Below w.heap.size w w3) := Lib.hid (B2.out.trans (hb.mono B2.out.size))
  have R3 := Lib.hid (R2.out.below hb (Nat.le_refl _))
  have G3 := Lib.hid (G2.out.below hb (Nat.le_refl _))
  clear hb
  go_wp2_with fail
  refine (Spread_any _ _ _ us _ G3.out).mono ?_
  rintro e w4 ⟨rfl, hb⟩
  have B4 : Hid (Below w.heap.size w w4) := Lib.hid (B3.out.trans (hb.mono B3.out.size))
  have R4 := Lib.hid (R3.out.below hb (Nat.le_refl _))
  have G4 := Lib.hid (G3.out.below hb (Nat.le_refl _))
  clear hb
  go_wp2_with fail
  refine (SpreadR_any _ _ _ us _ R4.out).mono ?_
  rintro e w5 ⟨rfl, hb⟩
  have B5 : Hid (Below w.heap.size w w5) := Lib.hid (B4.out.trans (hb.mono B4.out.size))
  have R5 := Lib.hid (R4.out.below hb (Nat.le_refl _))
  have G5 := Lib.hid (G4.out.below hb (Nat.le_refl _))
  clear hb
  go_wp2_with fail
  refine (equal_same _ _ _ _ _ us _ G5.out R5.out).mono ?_
  rintro e w6 ⟨rfl, hb⟩
  have B6 : Hid (Below w.heap.size w w6) := Lib.hid (B5.out.trans (hb.mono B5.out.size))
  have R6 := Lib.hid (R5.out.below hb (Nat.le_refl _))
  have G6 := Lib.hid (G5.out.below hb (Nat.le_refl _))
  clear hb
  go_wp2
  go_ret
  exact ⟨rfl, B6.out⟩
end Go.Proofs.Ytflmlkaiahpnmaa
