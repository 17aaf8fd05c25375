/- Plain: a number of hundredths, parted by a hundred and brought back, rounds to itself. No program; no condition. -/
import Derived.Test.YtflmlkaiahpnmaaDoorPr
namespace Go.Fl
open Go Ieee

theorem cut_err (m d : Nat) : 2 * (Toward.even.cut false m d * 2 ^ d) ≤ 2 * m + 2 ^ d ∧ 2 * m ≤ 2 * (Toward.even.cut false m d * 2 ^ d) + 2 ^ d := by
  rw [cut_even_eq]
  have h := Nat.div_add_mod m (2 ^ d)
  have h2 := Nat.mod_lt m (Nat.two_pow_pos d)
  have h3 : 2 ^ d * (m / 2 ^ d) = m / 2 ^ d * 2 ^ d := Nat.mul_comm _ _
  generalize 2 ^ d = g at *
  generalize m / g = lo at *
  generalize m % g = re at *
  split
  · rename_i hc
    rw [Nat.add_mul, Nat.one_mul]
    generalize lo * g = L at *
    omega
  · rename_i hc
    rw [Nat.add_zero]
    generalize lo * g = L at *
    omega
theorem rung_le {e K : Nat} (h : e ≤ 1900) (hk : K ≤ 9007199254740992) : e * 4503599627370496 + K < 9218868437227405312 := by
  have h4 : e * 4503599627370496 ≤ 1900 * 4503599627370496 := Nat.mul_le_mul_right _ h
  omega
/-- How far the nearest word lies. -/
theorem nearest_err {mag d E : Nat} {p : Int} (hm : mag ≠ 0) (hd : mag.log2 = 52 + d) (hp : p + 1074 = E) (hE : E + d ≤ 1900) :
    double.nearest false mag p < 9218868437227405312 ∧ 2 * V (double.nearest false mag p) ≤ 2 * (mag * 2 ^ E) + 2 ^ (E + d) ∧ 2 * (mag * 2 ^ E) ≤ 2 * V (double.nearest false mag p) + 2 ^ (E + d) := by
  have hlo := Nat.log2_self_le hm
  have hhi := Nat.lt_log2_self (n := mag)
  obtain ⟨kept, hk⟩ : ∃ kept, Toward.even.cut false mag d = kept := ⟨_, rfl⟩
  have herr := cut_err mag d
  rw [hk] at herr
  have hk53 : kept ≤ 9007199254740992 := by
    rw [← hk, cut_even_eq]
    have h1 : mag / 2 ^ d < 2 ^ 53 := by
      rw [Nat.div_lt_iff_lt_mul (Nat.two_pow_pos d), ← Nat.pow_add]
      exact Nat.lt_of_lt_of_le hhi (Nat.pow_le_pow_right (by decide) (by omega))
    have h2 : (2 : Nat) ^ 53 = 9007199254740992 := by decide
    split <;> omega
  have hk52 : 4503599627370496 ≤ kept := by
    rw [← hk, cut_even_eq]
    have h1 : 2 ^ 52 ≤ mag / 2 ^ d := by
      rw [Nat.le_div_iff_mul_le (Nat.two_pow_pos d), ← Nat.pow_add, ← hd]
      exact hlo
    have h2 : (2 : Nat) ^ 52 = 4503599627370496 := by decide
    omega
  have hr : double.nearest false mag p = (E + d) * 4503599627370496 + kept := by
    refine nearest_of (last := p + d) hm (by omega) (by omega) ?_ ?_
    · have e1 : (p - (p + d)).toNat = 0 := by omega
      have e2 : (p + d - p).toNat = d := by omega
      rw [e1, e2, Nat.shiftLeft_zero, hk]
    · exact Nat.le_of_lt (rung_le hE hk53)
  have hV : V ((E + d) * 4503599627370496 + kept) = kept * 2 ^ (E + d) := by
    by_cases h : kept < 9007199254740992
    · exact V_parts h (.inr hk52)
    · have hk' : kept = 9007199254740992 := by omega
      have e : (E + d) * 4503599627370496 + kept = (E + d + 1) * 4503599627370496 + 4503599627370496 := by rw [hk', Nat.add_mul (E + d) 1, Nat.one_mul, Nat.add_assoc]
      rw [e, V_parts (by omega) (.inr (Nat.le_refl _)), hk', Nat.pow_succ]
      rw [← Nat.mul_assoc, Nat.mul_right_comm]
  rw [hr, hV]
  refine ⟨?_, ?_, ?_⟩
  · exact rung_le hE hk53
  all_goals
    have e1 : kept * 2 ^ (E + d) = kept * 2 ^ d * 2 ^ E := by rw [Nat.pow_add, Nat.mul_assoc, Nat.mul_comm (2 ^ d)]
    have e2 : 2 ^ (E + d) = 2 ^ d * 2 ^ E := by rw [Nat.pow_add, Nat.mul_comm]
    rw [e1, e2]
    generalize kept * 2 ^ d = K at *
    generalize 2 ^ d = D at *
    have h1 := Nat.mul_le_mul_right (2 ^ E) herr.1
    have h2 := Nat.mul_le_mul_right (2 ^ E) herr.2
    rw [Nat.add_mul, Nat.mul_assoc, Nat.mul_assoc] at h1 h2
    omega
/-- Near enough to a whole number it rounds to it. -/
theorem rnd_near {r A : Nat} (hr : r < 4845873199050653696) (h1 : 2 * V r < 2 * (A * 2 ^ ((0 : Int) + 1074).toNat) + 2 ^ ((0 : Int) + 1074).toNat) (h2 : 2 * (A * 2 ^ ((0 : Int) + 1074).toNat) < 2 * V r + 2 ^ ((0 : Int) + 1074).toNat) : rnd r = A := by
  obtain ⟨hp, hb⟩ := plc_small hr
  have e : ((0 : Int) + 1074).toNat = behind r + (-(behind r : Int) + 1074).toNat := by omega
  rw [V_small hr, e, Nat.pow_add] at h1 h2
  generalize hu : 2 ^ (-(behind r : Int) + 1074).toNat = u at *
  have hu0 : 0 < u := by rw [← hu]; exact Nat.two_pow_pos _
  have k1 : 2 * sig r < 2 * (A * 2 ^ behind r) + 2 ^ behind r := by
    have h3 : (2 * sig r) * u < (2 * (A * 2 ^ behind r) + 2 ^ behind r) * u := by
      rw [Nat.add_mul, Nat.mul_assoc, Nat.mul_assoc, Nat.mul_assoc]; exact h1
    exact Nat.lt_of_mul_lt_mul_right h3
  have k2 : 2 * (A * 2 ^ behind r) < 2 * sig r + 2 ^ behind r := by
    have h3 : (2 * (A * 2 ^ behind r)) * u < (2 * sig r + 2 ^ behind r) * u := by
      rw [Nat.add_mul, Nat.mul_assoc, Nat.mul_assoc, Nat.mul_assoc]; exact h2
    exact Nat.lt_of_mul_lt_mul_right h3
  unfold rnd tru rem
  have hg := Nat.two_pow_pos (behind r)
  have hdm := Nat.div_add_mod (sig r) (2 ^ behind r)
  have hml := Nat.mod_lt (sig r) hg
  generalize sig r / 2 ^ behind r = t at *
  generalize sig r % 2 ^ behind r = m at *
  generalize 2 ^ behind r = g at *
  have hcm : g * t = t * g := Nat.mul_comm _ _
  rcases Nat.lt_trichotomy t A with h | h | h
  · -- t = A - 1
    have h5 : (t + 1) * g ≤ A * g := Nat.mul_le_mul_right _ h
    rw [Nat.add_mul, Nat.one_mul] at h5
    have h6 : t + 1 = A := by
      rcases Nat.lt_or_ge (t + 1) A with h7 | h7
      · have h8 : (t + 2) * g ≤ A * g := Nat.mul_le_mul_right _ h7
        rw [Nat.add_mul] at h8
        generalize t * g = tg at *
        generalize A * g = ag at *
        omega
      · omega
    rw [if_pos (.inl (by
      generalize t * g = tg at *
      generalize A * g = ag at *
      omega))]
    exact h6
  · subst h
    rw [if_neg (by
      generalize t * g = tg at *
      omega)]
    omega
  · have h5 : (A + 1) * g ≤ t * g := Nat.mul_le_mul_right _ h
    rw [Nat.add_mul, Nat.one_mul] at h5
    generalize t * g = tg at *
    generalize A * g = ag at *
    omega
theorem log2_two {m k : Nat} (h1 : 2 ^ k ≤ m) (h2 : m < 2 ^ (k + 2)) : m.log2 = k ∨ m.log2 = k + 1 := by
  have hm : m ≠ 0 := by have := Nat.two_pow_pos k; omega
  have a1 := (Nat.le_log2 hm).2 h1
  have a2 := (Nat.log2_lt hm).2 h2
  omega
theorem low_word {r : Nat} (h : 4503599627370496 ≤ V r) : 4503599627370496 ≤ r := by
  rcases Nat.lt_or_ge r 4503599627370496 with h' | h'
  · rw [V_eq] at h
    have e : r / 4503599627370496 - 1 = 0 := by omega
    have es : sig r = r := by unfold sig; rw [if_pos h']
    rw [e, es, Nat.pow_zero, Nat.mul_one] at h
    exact h
  · exact h'
/-- The quotient's figures. -/
theorem quo_fig {sa F re q : Nat} {b : Bool} (hs1 : 4503599627370496 ≤ sa) (hs2 : sa < 9007199254740992) (hF : 7036874417766400 * F + re = sa * 18014398509481984) (hre : re < 7036874417766400)
    (hb : b = (re != 0)) (hq : q = 2 * F + b.toNat) : 18014398509481984 ≤ q ∧ q < 72057594037927936 ∧ 100 * q ≤ 512 * sa + 100 ∧ 512 * sa ≤ 100 * q + 100 := by
  by_cases h0 : re = 0
  · have : b = false := by rw [hb, h0]; rfl
    rw [this] at hq
    simp only [Bool.toNat_false] at hq
    omega
  · have : b = true := by rw [hb]; simpa using h0
    rw [this] at hq
    simp only [Bool.toNat_true] at hq
    omega
theorem final_fig {VA Vp Vx Q S z U A : Nat} (h1 : VA = A * U) (h2 : VA = 512 * S) (h3 : 100 * Q ≤ 512 * S + 100 * z) (h4 : 512 * S ≤ 100 * Q + 100 * z) (h5 : 2 * Vp ≤ 2 * Q + 8 * z) (h6 : 2 * Q ≤ 2 * Vp + 8 * z)
    (h7 : 2 * Vx ≤ 200 * Vp + 2048 * z) (h8 : 200 * Vp ≤ 2 * Vx + 2048 * z) (hU : 33554432 * z ≤ U) (hz : 0 < z) : 2 * Vx < 2 * (A * U) + U ∧ 2 * (A * U) < 2 * Vx + U := by
  rw [← h1]; omega
theorem quotient_num {digits m n : Nat} {i j : Int} {s t : Bool} (hn : n ≠ 0) : Datum.quotient digits (.number s m i) (.number t n j) =
    some (.number (s ^^ t) (2 * (m <<< (digits + n.log2 - m.log2) / n) + (m <<< (digits + n.log2 - m.log2) % n != 0).toNat) (i - j - ((digits + n.log2 - m.log2 : Nat) : Int) - 1)) := by
  simp only [Datum.quotient, if_neg hn]
theorem back_round {A : Nat} (h0 : A ≠ 0) (hA : A < 137438953472) : ∃ p x, double.div (double.nearest false A 0) 4636737291354636288 = some p ∧ p < 9218868437227405312 ∧ double.mul p 4636737291354636288 = some x ∧ x < 4845873199050653696 ∧ rnd x = A := by
  obtain ⟨ha, hVa⟩ := ofNat_exact (n := A) (by omega)
  generalize double.nearest false A 0 = a at *
  obtain ⟨U, hU⟩ : ∃ U, 2 ^ ((0 : Int) + 1074).toNat = U := ⟨_, rfl⟩
  have hU52 : 4503599627370496 ≤ U := by
    rw [← hU]
    exact Nat.le_trans (by decide) (Nat.pow_le_pow_right (n := 2) (by decide) (show 52 ≤ ((0 : Int) + 1074).toNat by omega))
  have ha52 : 4503599627370496 ≤ a := low_word (by
    rw [hVa, hU]
    exact Nat.le_trans hU52 (Nat.le_mul_of_pos_left _ (by omega)))
  have hs1 := sig_ge ha52
  have hs2 := sig_lt a
  obtain ⟨ea, hea⟩ : ∃ ea, a / 4503599627370496 - 1 = ea := ⟨_, rfl⟩
  have hpa : plc a + 1074 = ea := by have h1 := plcN a; have h2 := plc_ge a; omega
  have hV2 : V a = sig a * 2 ^ ea := by rw [V_eq, hea]
  -- how great ea is
  have hea1 : ea ≤ 1058 := by
    rcases Nat.lt_or_ge 1058 ea with h | h
    · exfalso
      have h3 : 2 ^ 52 * 2 ^ ea ≤ sig a * 2 ^ ea := Nat.mul_le_mul_right _ hs1
      have h4 : A * U < 2 ^ 37 * U := Nat.mul_lt_mul_of_pos_right hA (by omega)
      rw [← hV2, hVa, hU, ← Nat.pow_add] at h3
      rw [← hU, ← Nat.pow_add, hU] at h4
      have h5 : 2 ^ (37 + ((0 : Int) + 1074).toNat) ≤ 2 ^ (52 + ea) := Nat.pow_le_pow_right (by decide) (by omega)
      omega
    · exact h
  have hea2 : 1022 ≤ ea := by
    rcases Nat.lt_or_ge ea 1022 with h | h
    · exfalso
      have h3 : sig a * 2 ^ ea < 2 ^ 53 * 2 ^ ea := Nat.mul_lt_mul_of_pos_right hs2 (Nat.two_pow_pos _)
      have h4 : U ≤ A * U := Nat.le_mul_of_pos_left _ (by omega)
      rw [← hV2, hVa, hU, ← Nat.pow_add] at h3
      have h5 : 2 ^ (53 + ea) ≤ 2 ^ ((0 : Int) + 1074).toNat := Nat.pow_le_pow_right (by decide) (by omega)
      rw [hU] at h5
      omega
    · exact h
  obtain ⟨E, hE⟩ : ∃ E, ea = E + 9 := ⟨ea - 9, by omega⟩
  have hlog : (sig a).log2 = 52 := log2_nor _ hs1 hs2
  have hH : double.read 4636737291354636288 = .number false 7036874417766400 (-46) := by decide
  have hHl : (7036874417766400 : Nat).log2 = 52 := by decide
  -- the quotient
  obtain ⟨q, hq⟩ : ∃ q, 2 * (sig a <<< 54 / 7036874417766400) + (sig a <<< 54 % 7036874417766400 != 0).toNat = q := ⟨_, rfl⟩
  have hfig := quo_fig (F := sig a <<< 54 / 7036874417766400) (re := sig a <<< 54 % 7036874417766400) hs1 hs2 (by
    rw [Nat.div_add_mod, Nat.shiftLeft_eq]) (Nat.mod_lt _ (by decide)) rfl hq.symm
  obtain ⟨hq1, hq2, hq3, hq4⟩ := hfig
  have hdiv : double.div a 4636737291354636288 = some (double.nearest false q (plc a - 9)) := by
    unfold Format.div
    rw [read_pos ha, hH]
    have hpl : plc a - -46 - ((54 : Nat) : Int) - 1 = plc a - 9 := by omega
    rw [show double.fractionBits + 2 = 54 from rfl, quotient_num (by decide), hHl, hlog, Nat.add_sub_cancel, hq, hpl]
    simp only [Option.map_some, Format.write, Bool.xor_false]
  have hqm : q ≠ 0 := by omega
  obtain ⟨d, hd, hd3⟩ : ∃ d, q.log2 = 52 + d ∧ d ≤ 3 := by
    rcases log2_two (m := q) (k := 54) hq1 hq2 with h | h
    · exact ⟨2, by omega, by omega⟩
    · exact ⟨3, by omega, by omega⟩
  have herrp := nearest_err (mag := q) (d := d) (E := E) (p := plc a - 9) hqm hd (by omega) (by omega)
  rw [hdiv]
  generalize double.nearest false q (plc a - 9) = p at *
  obtain ⟨hp, hp1, hp2⟩ := herrp
  obtain ⟨z, hz⟩ : ∃ z, 2 ^ E = z := ⟨_, rfl⟩
  have hz0 : 0 < z := by rw [← hz]; exact Nat.two_pow_pos _
  have hzd : 2 ^ (E + d) ≤ 8 * z := by
    rw [← hz, Nat.pow_add, Nat.mul_comm]
    exact Nat.mul_le_mul_right _ (show 2 ^ d ≤ 2 ^ 3 from Nat.pow_le_pow_right (by decide) hd3)
  rw [hz] at hp1 hp2
  have hQ1 : 18014398509481984 * z ≤ q * z := Nat.mul_le_mul_right _ hq1
  have hQ2 : q * z < 72057594037927936 * z := Nat.mul_lt_mul_of_pos_right hq2 hz0
  have hz52 : 4503599627370496 ≤ z := by
    rw [← hz]
    exact Nat.le_trans (by decide) (Nat.pow_le_pow_right (n := 2) (by decide) (show 52 ≤ E by omega))
  have hp52 : 4503599627370496 ≤ p := low_word (by omega)
  have ht1 := sig_ge hp52
  have ht2 := sig_lt p
  obtain ⟨ep, hep⟩ : ∃ ep, p / 4503599627370496 - 1 = ep := ⟨_, rfl⟩
  have hpp : plc p + 1074 = ep := by have h1 := plcN p; have h2 := plc_ge p; omega
  have hVp : V p = sig p * 2 ^ ep := by rw [V_eq, hep]
  have hep1 : ep ≤ E + 4 := by
    rcases Nat.lt_or_ge (E + 4) ep with h | h
    · exfalso
      have h3 : 4503599627370496 * 2 ^ ep ≤ sig p * 2 ^ ep := Nat.mul_le_mul_right _ ht1
      have h5 : 32 * z ≤ 2 ^ ep := by
        rw [← hz, Nat.mul_comm, show (32 : Nat) = 2 ^ 5 from rfl, ← Nat.pow_add]
        exact Nat.pow_le_pow_right (by decide) (by omega)
      rw [← hVp] at h3
      omega
    · exact h
  have hep2 : E ≤ ep := by
    rcases Nat.lt_or_ge ep E with h | h
    · exfalso
      have h3 : sig p * 2 ^ ep < 9007199254740992 * 2 ^ ep := Nat.mul_lt_mul_of_pos_right ht2 (Nat.two_pow_pos _)
      have h5 : 2 * 2 ^ ep ≤ z := by
        rw [← hz, ← Nat.pow_succ']
        exact Nat.pow_le_pow_right (by decide) (by omega)
      rw [← hVp] at h3
      omega
    · exact h
  have hmul : double.mul p 4636737291354636288 = some (double.nearest false (sig p * 7036874417766400) (plc p + -46)) := by
    unfold Format.mul
    rw [read_pos hp, hH]
    rfl
  have hmm : sig p * 7036874417766400 ≠ 0 := Nat.mul_ne_zero (by omega) (by decide)
  have hm1 : 2 ^ 104 ≤ sig p * 7036874417766400 := Nat.le_trans (by decide) (Nat.mul_le_mul ht1 (Nat.le_refl 7036874417766400))
  have hm2 : sig p * 7036874417766400 < 2 ^ 106 := Nat.lt_of_lt_of_le (Nat.mul_lt_mul_of_pos_right ht2 (by decide)) (by decide)
  obtain ⟨dx, hdx, hdx3⟩ : ∃ dx, (sig p * 7036874417766400).log2 = 52 + dx ∧ dx ≤ 53 := by
    rcases log2_two (k := 104) hm1 hm2 with h | h
    · exact ⟨52, by omega, by omega⟩
    · exact ⟨53, by omega, by omega⟩
  obtain ⟨Ex, hEx⟩ : ∃ Ex, ep = Ex + 46 := ⟨ep - 46, by omega⟩
  have herrx := nearest_err (mag := sig p * 7036874417766400) (d := dx) (E := Ex) (p := plc p + -46) hmm hdx (by omega) (by omega)
  have hmag : sig p * 7036874417766400 * 2 ^ Ex = 100 * V p := by
    rw [hVp, hEx, Nat.pow_add, show (7036874417766400 : Nat) = 100 * 2 ^ 46 from rfl]
    generalize 2 ^ Ex = y
    generalize sig p = t
    rw [Nat.mul_comm y (2 ^ 46)]
    simp only [Nat.mul_assoc, Nat.mul_left_comm, Nat.mul_comm]
  rw [hmag] at herrx
  generalize double.nearest false (sig p * 7036874417766400) (plc p + -46) = x at *
  obtain ⟨hx, hx1, hx2⟩ := herrx
  have hxd : 2 ^ (Ex + dx) ≤ 2048 * z := by
    rw [← hz, Nat.mul_comm, show (2048 : Nat) = 2 ^ 11 from rfl, ← Nat.pow_add]
    exact Nat.pow_le_pow_right (by decide) (by omega)
  have hUz : 33554432 * z ≤ U := by
    rw [← hz, ← hU, Nat.mul_comm, show (33554432 : Nat) = 2 ^ 25 from rfl, ← Nat.pow_add]
    exact Nat.pow_le_pow_right (by decide) (by omega)
  have hS : V a = 512 * (sig a * z) := by
    rw [hV2, hE, Nat.pow_add, hz]
    generalize sig a = t
    rw [Nat.mul_comm z, Nat.mul_left_comm]
  have hq3z := Nat.mul_le_mul_right z hq3
  have hq4z := Nat.mul_le_mul_right z hq4
  rw [Nat.add_mul, Nat.mul_assoc, Nat.mul_assoc] at hq3z hq4z
  have hfin := final_fig (VA := V a) (Vp := V p) (Vx := V x) (Q := q * z) (S := sig a * z) (z := z) (U := U) (A := A) (by rw [hVa, hU]) hS hq3z hq4z (by omega) (by omega) (by omega) (by omega) hUz hz0
  rw [← hU] at hfin
  have hxs : x < 4845873199050653696 := small_of_V (by
    rw [hU] at hfin ⊢
    have h4 : A * U ≤ 137438953472 * U := Nat.mul_le_mul_right _ (by omega)
    omega)
  exact ⟨p, x, rfl, hp, hmul, hxs, rnd_near hxs hfin.1 hfin.2⟩
end Go.Fl
