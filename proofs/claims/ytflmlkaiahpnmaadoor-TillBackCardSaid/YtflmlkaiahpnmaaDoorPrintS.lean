/- The document's Print, of any word. -/
import Derived.Test.YtflmlkaiahpnmaaDoorPrintR
namespace Go.Proofs.YtflmlkaiahpnmaaDoor
open Go.RowKit Go.Fl

theorem floatOfInt_nat (n : Nat) : floatOfInt .f64 (n : Int) = Ieee.double.nearest false n 0 := by
  show Ieee.double.nearest (decide ((n : Int) < 0)) (n : Int).natAbs 0 = _
  rw [decide_eq_false (by omega)]
  rfl
set_option maxRecDepth 100000 in
theorem printR_bigp (b x : Nat)
    (ho : (FloatKind.f64.format.order b b != some .eq) = false)
    (hg : ((b : Int) / 9223372036854775808 == 1) = false)
    (hi : (FloatKind.f64.format.order b 9218868437227405311 == some .gt) = false)
    (hm : ∀ w, (binOp .mul 39 (.float .f64 b) (.float .f64 4636737291354636288)).run Tryd.prog w = .ok (.float .f64 x) w)
    (hl : (FloatKind.f64.format.order x 4845873199050653696 == some .lt) = false)
    (w : World) : Calls Tryd.prog 9 #[.int .u64 (b : Int)] w (RetV (str [98, 105, 103]) w) := by
  go_enter Tryd.func9, Tryd.ntmps9
  go_wp2_with (go_at_call 25; refine (floatR_any _ _).mono ?_; rintro e w' ⟨rfl, rfl⟩)
  go_ret
  exact .of_eq rfl rfl
set_option maxRecDepth 100000 in
theorem printR_bign (b r x : Nat)
    (ho : (FloatKind.f64.format.order b b != some .eq) = false)
    (hg : ((b : Int) / 9223372036854775808 == 1) = true)
    (hn : ∀ w, (Op.unary .neg (.float .f64 b)).run Tryd.prog w = .ok (.float .f64 r) w)
    (hi : (FloatKind.f64.format.order r 9218868437227405311 == some .gt) = false)
    (hm : ∀ w, (binOp .mul 39 (.float .f64 r) (.float .f64 4636737291354636288)).run Tryd.prog w = .ok (.float .f64 x) w)
    (hl : (FloatKind.f64.format.order x 4845873199050653696 == some .lt) = false)
    (w : World) : Calls Tryd.prog 9 #[.int .u64 (b : Int)] w (RetV (str [98, 105, 103]) w) := by
  go_enter Tryd.func9, Tryd.ntmps9
  go_wp2_with (go_at_call 25; refine (floatR_any _ _).mono ?_; rintro e w' ⟨rfl, rfl⟩)
  go_ret
  exact .of_eq rfl rfl
theorem printR_infp (w : World) : Calls Tryd.prog 9 #[.int .u64 9218868437227405312] w (RetV (str (prt 9218868437227405312)) w) := by
  have ho : (FloatKind.f64.format.order 9218868437227405312 9218868437227405312 != some .eq) = false := by decide
  have hi : (FloatKind.f64.format.order 9218868437227405312 9218868437227405311 == some .gt) = true := by decide
  have Hs : Hid (prt 9218868437227405312 = [105, 110, 102]) := Lib.hid (prt_inf (by decide) (by decide))
  go_enter Tryd.func9, Tryd.ntmps9
  go_wp2_with (go_at_call 25; refine (floatR_any _ _).mono ?_; rintro e w' ⟨rfl, rfl⟩)
  go_ret
  exact .of_eq (by rw [Hs.out]; rfl) rfl
theorem neg_ninf (w : World) : (Op.unary .neg (.float .f64 18442240474082181120)).run Tryd.prog w = .ok (.float .f64 9218868437227405312) w := rfl
theorem printR_infn (w : World) : Calls Tryd.prog 9 #[.int .u64 18442240474082181120] w (RetV (str (prt 18442240474082181120)) w) := by
  have ho : (FloatKind.f64.format.order 18442240474082181120 18442240474082181120 != some .eq) = false := by decide
  have hn := neg_ninf
  have hi : (FloatKind.f64.format.order 9218868437227405312 9218868437227405311 == some .gt) = true := by decide
  have Hs : Hid (prt 18442240474082181120 = [45, 105, 110, 102]) := Lib.hid (prt_inf (by decide) (by decide))
  go_enter Tryd.func9, Tryd.ntmps9
  go_wp2_with (go_at_call 25; refine (floatR_any _ _).mono ?_; rintro e w' ⟨rfl, rfl⟩)
  go_ret
  exact .of_eq (by rw [Hs.out]; rfl) rfl
theorem order_lt {x : Nat} (hx : x ≤ 9218868437227405312) : (FloatKind.f64.format.order x 4845873199050653696 == some .lt) = decide (x < 4845873199050653696) := by
  show (Ieee.double.order x 4845873199050653696 == some .lt) = _
  rw [order_le hx (by decide)]
  rcases Nat.lt_trichotomy x 4845873199050653696 with h | h | h
  · rw [Nat.compare_eq_lt.2 h, decide_eq_true (by omega)]; rfl
  · rw [Nat.compare_eq_eq.2 h, decide_eq_false (by omega)]; rfl
  · rw [Nat.compare_eq_gt.2 h, decide_eq_false (by omega)]; rfl
theorem conv_tru {x : Nat} (hx : x < 4845873199050653696) (w : World) : (convert 39 3 (.float .f64 x)).run Tryd.prog w = .ok (.int .i64 (tru x : Int)) w := by
  refine run_convert_float_int w 39 3 .f64 .i64 _ (tru x : Int) (by rw [Tryd.underlying39]; rfl) Tryd.underlying3 ?_
  have h3 := int_small hx
  have h4 := @tru_lt x
  unfold floatToIntVal
  show (match (Ieee.double.read _).toInt .zero with | some _ => _ | none => _) = _
  rw [h3]
  simp [IntKind.min, IntKind.max, IntKind.signed, IntKind.bits]
  omega
theorem conv_back (n : Nat) (w : World) : (convert 3 39 (.int .i64 (n : Int))).run Tryd.prog w = .ok (.float .f64 (Ieee.double.nearest false n 0)) w := by
  rw [← floatOfInt_nat]
  exact run_convert_int_float w 3 39 .i64 .f64 n (by rw [Tryd.underlying3]; rfl) Tryd.underlying39
theorem up_rest {x y : Nat} (hx : x < 4845873199050653696) (hy : y < 9218868437227405312) (hv : V y = rem x * 2 ^ (-(behind x : Int) + 1074).toNat) : Up y (tru x) (rnd x) := by
  obtain ⟨h1, h2⟩ := half_cmp hx hv
  have ho : FloatKind.f64.format.order y 4602678819172646912 = some (compare y 4602678819172646912) := order_pos hy (by decide)
  rcases Nat.lt_trichotomy y 4602678819172646912 with h | h | h
  · refine .lt ?_ ?_ ?_
    · rw [ho, Nat.compare_eq_lt.2 h]; rfl
    · rw [ho, Nat.compare_eq_lt.2 h]; rfl
    · unfold rnd
      rw [if_neg (by
        rintro (h3 | h3)
        · have := h1.2 h3; omega
        · have := h2.2 h3.1; omega)]
      rfl
  · have h3 := h2.1 h
    rcases Nat.mod_two_eq_zero_or_one (tru x) with h4 | h4
    · refine .even ?_ ?_ ?_ ?_
      · rw [ho, Nat.compare_eq_eq.2 h]; rfl
      · rw [ho, Nat.compare_eq_eq.2 h]; rfl
      · simp; omega
      · unfold rnd
        rw [if_neg (by
          rintro (h5 | h5)
          · omega
          · omega)]
        rfl
    · refine .odd ?_ ?_ ?_ ?_
      · rw [ho, Nat.compare_eq_eq.2 h]; rfl
      · rw [ho, Nat.compare_eq_eq.2 h]; rfl
      · simp; omega
      · unfold rnd
        rw [if_pos (.inr ⟨h3, h4⟩)]
  · refine .gt ?_ ?_
    · rw [ho, Nat.compare_eq_gt.2 h]; rfl
    · unfold rnd
      rw [if_pos (.inl (h1.1 h))]
theorem printR_any (b : Nat) (hb : b < 18446744073709551616) (w : World) : Calls Tryd.prog 9 #[.int .u64 (b : Int)] w (RetV (str (prt b)) w) := by
  cases hn : isNaN b
  · have ho : (FloatKind.f64.format.order b b != some .eq) = false := by rw [order_self', hn]
    rw [isNaN_iff] at hn
    have hn2 : b % 9223372036854775808 ≤ 9218868437227405312 := by simpa using hn
    rcases Nat.lt_or_ge (b % 9223372036854775808) 9218868437227405312 with hr | hr
    · obtain ⟨hm, hx⟩ := hund_eq hr
      rw [prt_fin hr]
      have hi : (FloatKind.f64.format.order (b % 9223372036854775808) 9218868437227405311 == some .gt) = false := by
        show (Ieee.double.order (b % 9223372036854775808) 9218868437227405311 == some .gt) = false
        rw [order_max (by omega)]; simp; omega
      rcases Nat.lt_or_ge b 9223372036854775808 with ht | ht
      · have e : b % 9223372036854775808 = b := by omega
        have hs : sgn b = [] := by unfold sgn; rw [if_neg (by omega)]
        rw [e] at hm hx hi ⊢
        rw [hs]
        have hg : ((b : Int) / 9223372036854775808 == 1) = false := by simp; omega
        by_cases hs : hund b < 4845873199050653696
        · rw [if_pos hs]
          obtain ⟨y, hy1, hy2, hy3⟩ := rest_small hs
          exact printR_pos b (hund b) (tru (hund b)) _ y (rnd (hund b)) ho hg hi (mul_run hm) (by rw [order_lt hx]; simpa using hs) (conv_tru hs) (conv_back _) (fun w => run_float_arith w .sub 39 .f64 _ _ y hy1) tru_lt (up_rest hs hy2 hy3) w
        · rw [if_neg hs]
          exact printR_bigp b _ ho hg hi (mul_run hm) (by rw [order_lt hx]; simpa using hs) w
      · obtain ⟨r, rfl⟩ : ∃ r, b = 9223372036854775808 + r := ⟨b - 9223372036854775808, by omega⟩
        have e : (9223372036854775808 + r) % 9223372036854775808 = r := by omega
        have hs : sgn (9223372036854775808 + r) = [45] := by unfold sgn; rw [if_pos (by omega)]
        rw [e] at hm hx hi hr ⊢
        rw [hs]
        have hg : (((9223372036854775808 + r : Nat) : Int) / 9223372036854775808 == 1) = true := by simp; omega
        have hneg : ∀ w, (Op.unary .neg (.float .f64 (9223372036854775808 + r))).run Tryd.prog w = .ok (.float .f64 r) w := fun w => by
          rw [neg_run, neg_high (by omega)]
        generalize 9223372036854775808 + r = b at *
        by_cases hs : hund r < 4845873199050653696
        · rw [if_pos hs]
          obtain ⟨y, hy1, hy2, hy3⟩ := rest_small hs
          exact printR_neg b r (hund r) (tru (hund r)) _ y (rnd (hund r)) ho hg hneg hi (mul_run hm) (by rw [order_lt hx]; simpa using hs) (conv_tru hs) (conv_back _) (fun w => run_float_arith w .sub 39 .f64 _ _ y hy1) tru_lt (up_rest hs hy2 hy3) w
        · rw [if_neg hs]
          exact printR_bign b r _ ho hg hneg hi (mul_run hm) (by rw [order_lt hx]; simpa using hs) w
    · rcases (show b = 9218868437227405312 ∨ b = 18442240474082181120 by omega) with rfl | rfl
      · exact printR_infp w
      · exact printR_infn w
  · exact printR_nan b hn w
end Go.Proofs.YtflmlkaiahpnmaaDoor
