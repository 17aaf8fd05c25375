/- The law TillBack, walked. -/
import Derived.Test.YtflmlkaiahpnmaaDoorLaw
import Derived.Test.YtflmlkaiahpnmaaDoorBackP
namespace Go.Proofs.YtflmlkaiahpnmaaDoor
open Go.RowKit Go.Fl

theorem text_of (N : Nat) (S : List UInt8) (h : Lib.decDigits N = S) (hN : N < 9223372036854775808) (w : World) : Calls Tryd.prog 5 #[.int .i64 (N : Int)] w (RetV (.string ⟨S.toArray⟩) w) := h ▸ text_any N hN w
theorem wrap_mod (a : Int) (W : Nat) (M : Int) (h0 : 0 < M) (hM : M ≤ 1000000000) (h : IntKind.u64.wrap a % M = (W : Int)) : wrap64 ((IntKind.u64.wrap a).tmod M) = (W : Int) := by
  have h1 : 0 ≤ IntKind.u64.wrap a := by rw [IntKind.wrap_u64]; omega
  rw [Int.tmod_eq_emod_of_nonneg h1, h]
  have h2 := Int.emod_lt_of_pos (IntKind.u64.wrap a) h0
  unfold wrap64
  omega
theorem wrap_nat (i : Nat) (h : i ≤ 1000000) : wrap64 (i : Int) = (i : Int) := by unfold wrap64; omega
set_option maxRecDepth 100000 in
theorem back_any (a b : Int) (w : World) (htab : Tab w) : Calls Tryd.prog 3 #[.int .i64 a, .int .i64 b] w (RetV (.bool true) w) := by
  obtain ⟨W, hW⟩ : ∃ W : Nat, IntKind.u64.wrap a % 1000000000 = (W : Int) := ⟨(IntKind.u64.wrap a % 1000000000).toNat, by omega⟩
  obtain ⟨H, hH⟩ : ∃ H : Nat, IntKind.u64.wrap b % 100 = (H : Int) := ⟨(IntKind.u64.wrap b % 100).toNat, by omega⟩
  have hW9 : W < 1000000000 := by omega
  have hH9 : H < 100 := by omega
  obtain ⟨D, hD⟩ : ∃ D, Lib.decDigits W = D := ⟨_, rfl⟩
  obtain ⟨x, hx⟩ : ∃ x, d8 (H / 10) = x := ⟨_, rfl⟩
  obtain ⟨y, hy⟩ : ∃ y, d8 (H % 10) = y := ⟨_, rfl⟩
  obtain ⟨i, hi⟩ : ∃ i : Nat, (H : Int) / 10 = (i : Int) := ⟨H / 10, by omega⟩
  obtain ⟨j, hj⟩ : ∃ j : Nat, (H : Int) % 10 = (j : Int) := ⟨H % 10, by omega⟩
  have hi9 : i ≤ 1000000 := by omega
  have hj9 : j ≤ 1000000 := by omega
  have t1 := text_of W D hD (by omega)
  have t2 := text_of i [x] (by rw [dec_small (by omega), ← hx]; congr 2; omega) (by omega)
  have t3 := text_of j [y] (by rw [dec_small (by omega), ← hy]; congr 2; omega) (by omega)
  have hlen : D.length ≤ 9 := by rw [← hD]; exact len_dec 8 W (by simpa using hW9)
  obtain ⟨k1, k2⟩ := both_hit D [x, y] (by rw [← hD]; exact no_point 9 W (by simpa using hW9)) (by simp; omega)
  obtain ⟨q1, q2⟩ := print_two hW9 hH9
  have hp := price_two hW9 hH9
  rw [hx, hy, hD] at hp
  rw [hp] at k1 k2
  generalize quo (W * 100 + H) 100 = p at *
  have k1' : ∀ w, Calls Tryd.prog 6 #[.string ⟨(D ++ 46 :: [x, y]).toArray⟩] w (RetV (.tuple #[.int .u64 (p : Int), .bool true]) w) := k1
  have k2' : ∀ w, Calls Tryd.prog 7 #[.string ⟨(D ++ 46 :: [x, y]).toArray⟩] w (RetV (.tuple #[.int .u64 (p : Int), .bool true]) w) := k2
  have hs : prt p = D ++ 46 :: [x, y] := by rw [q1]; unfold two; rw [hD, hx, hy]
  have k3 : ∀ w, Tab w → Calls Tryd.prog 8 #[.int .u64 (p : Int)] w (RetV (.string ⟨(D ++ 46 :: [x, y]).toArray⟩) w) := fun w h => by
    have := print_any p (by omega) w h
    rw [hs] at this
    exact this
  have Ht := Lib.hid htab
  have c1 := bcat D [46]
  have c2 := bcat (D ++ [46]) [x]
  have c3 := bcat (D ++ [46, x]) [y]
  have e3 : D ++ [46, x] ++ [y] = D ++ 46 :: [x, y] := by simp
  rw [e3] at c3
  have b1 : ¬ 9223372036854775807 < D.length + 1 := by omega
  have b2 : ¬ 9223372036854775807 < D.length + 1 + 1 := by omega
  have b3 : ¬ 9223372036854775807 < D.length + 1 + 1 + 1 := by omega
  have u1 : wrap64 ((IntKind.u64.wrap a).tmod 1000000000) = (W : Int) := wrap_mod a W 1000000000 (by decide) (by decide) hW
  have u2 : wrap64 ((IntKind.u64.wrap b).tmod 100) = (H : Int) := wrap_mod b H 100 (by decide) (by decide) hH
  have u3 : wrap64 (i : Int) = (i : Int) := wrap_nat i hi9
  have u4 : wrap64 (j : Int) = (j : Int) := wrap_nat j hj9
  clear hi9 hj9 hW hH k1 k2 hp q1 q2 hs hx hy hD htab hlen hW9 hH9 e3
  go_enter Tryd.func3, Tryd.ntmps3
  go_wp2_with fail
  go_at_call 5
  refine (t1 _).mono ?_
  rintro e v1 ⟨rfl, hb⟩
  have H1 := Lib.hid hb
  clear hb
  go_wp2_with fail
  go_at_call 5
  refine (t2 _).mono ?_
  rintro e v2 ⟨rfl, hb⟩
  have H2 := Lib.hid (chain H1.out hb)
  clear hb
  go_wp2_with fail
  go_at_call 5
  refine (t3 _).mono ?_
  rintro e v3 ⟨rfl, hb⟩
  have H3 := Lib.hid (chain H2.out hb)
  clear hb
  go_wp2_with (first | (go_at_call 6; refine (k1' _).mono ?_; rintro e v4 ⟨rfl, hb⟩; have H4 := Lib.hid (chain H3.out hb); clear hb) | (go_at_call 7; refine (k2' _).mono ?_; rintro e v5 ⟨rfl, hb⟩; have H5 := Lib.hid (chain H4.out hb); clear hb) | (go_at_call 8; refine (k3 _ (Ht.out.below H5.out)).mono ?_; rintro e v6 ⟨rfl, hb⟩; have H6 := Lib.hid (chain H5.out hb); clear hb))
  go_ret
  exact ⟨rfl, H6.out⟩
end Go.Proofs.YtflmlkaiahpnmaaDoor
