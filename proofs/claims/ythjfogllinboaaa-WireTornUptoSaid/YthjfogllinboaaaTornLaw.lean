/- WireTorn: the walk of the law. -/
import Derived.Test.YthjfogllinboaaaPlain3
import Derived.Test.YthjfogllinboaaaUnf
import Derived.Test.YthjfogllinboaaaLawKit
namespace Go.Proofs.Ythjfogllinboaaa
open Go.RowKit Go.BL Go.Wr
theorem wrap_mod (k : Int) (L : Nat) (h0 : 0 < L) (hL : L ≤ 1048600) : ∃ j : Nat, j < L ∧ wrap64 ((IntKind.u64.wrap k).tmod (L : Int)) = (j : Int) := by
  have h1 : 0 ≤ IntKind.u64.wrap k := by rw [IntKind.wrap_u64]; omega
  rw [Int.tmod_eq_emod_of_nonneg h1]
  have h2 := Int.emod_nonneg (IntKind.u64.wrap k) (show (L : Int) ≠ 0 by omega)
  have h3 := Int.emod_lt_of_pos (IntKind.u64.wrap k) (show (0 : Int) < (L : Int) by omega)
  generalize IntKind.u64.wrap k % (L : Int) = z at *
  refine ⟨z.toNat, by omega, ?_⟩
  rw [IntWalk.wrap64_in _ (by omega)]; omega
theorem turn_byte (c : Nat) (x : Int) (hc : c < 256) : ∃ y : Nat, y < 256 ∧ y ≠ c ∧ bits .xor .u8 (c : Int) (IntKind.u64.wrap (1 + (IntKind.u64.wrap x).tmod 255) % 256) = (y : Int) := by
  have h1 : 0 ≤ IntKind.u64.wrap x := by rw [IntKind.wrap_u64]; omega
  rw [Int.tmod_eq_emod_of_nonneg h1]
  obtain ⟨d, hd, hd0, hd1⟩ : ∃ d : Nat, d < 256 ∧ d ≠ 0 ∧ IntKind.u64.wrap (1 + IntKind.u64.wrap x % 255) % 256 = (d : Int) := by
    generalize IntKind.u64.wrap x = z at *
    refine ⟨(1 + z % 255).toNat, by omega, by omega, ?_⟩
    rw [IntKind.wrap_u64]; omega
  rw [hd1, u8_xor_nat c d hc hd]
  refine ⟨c ^^^ d, Nat.xor_lt_two_pow (n := 8) hc hd, fun e => hd0 ?_, rfl⟩
  exact xor_cancel_left (c := c) (e.trans (Nat.xor_zero c).symm)
theorem Own.cap_ge {w : World} {B n c : Nat} {A : Option Addr} {bs : List Nat} (h : Own w B (.slice A n c) bs) : bs.length ≤ c := by
  rcases h.1.2 with ⟨e, h0⟩ | ⟨g, cap', cur, e, _, _, h1, _⟩
  · omega
  · injection e with _ _ e3
    omega
set_option maxRecDepth 100000 in
set_option maxHeartbeats 4000000 in
theorem torn_any (A : Option Addr) (m cap : Nat) (ps : List Nat) (k x : Int) (w : World) (hr : Rd w A m ps) (hm : m ≤ 1048576) (_hcap : m ≤ cap) :
    Calls Try.prog 6 #[.slice A m cap, .int .i64 k, .int .i64 x] w (RetV (.bool true) w) := by
  have hl := hr.1
  subst hl
  have Hr := Lib.hid hr
  have Hm := Lib.hid hm
  have hb1 := Hr.out.2.2.1
  have HbP := Lib.hid hb1
  clear hr hm hb1
  go_enter Try.func6, Try.ntmps6
  go_wp2_with fail
  refine (frame_any A ps.length cap ps _ Hr.out).mono ?_
  by_cases hlong : 65536 < ps.length
  · have HF : Hid (frame ps = ([], 4)) := Lib.hid (if_pos hlong)
    rw [HF.out]
    rintro e w1 ⟨A1, c1, rfl, -, -, hb⟩
    have C_0_1 := Lib.hid hb
    clear hb
    go_wp2
    go_ret
    exact ⟨rfl, C_0_1.out⟩
  · obtain ⟨FL, hFL⟩ : ∃ FL, (frame ps).1 = FL := ⟨_, rfl⟩
    have h1 : frame ps = (enc ps.length ++ ps ++ le4 (sum ps), 0) := if_neg hlong
    have HF : Hid (frame ps = (FL, 0)) := Lib.hid (by rw [← hFL, h1])
    obtain ⟨E, hE⟩ : ∃ E, (enc ps.length).length = E := ⟨_, rfl⟩
    have hE9 : E ≤ 9 := by rw [← hE]; exact enc_len9 (by omega)
    have hE1 : 1 ≤ E := by rw [← hE]; exact enc_pos _
    have hFl : FL.length = E + ps.length + 4 := by
      rw [← hFL, h1, ← hE]
      simp only [List.length_append, le4, List.length_cons, List.length_nil]
    have hT : ∀ j, j < FL.length → (unframe (FL.take j)).2.2 ≠ 0 := by
      intro j hj
      rw [← hFL] at hj ⊢
      exact torn (by omega) hj
    have hS : ∀ i y, i < ps.length + 4 → y < 256 → y ≠ FL.getD (E + i) 0 → (unframe (FL.set (E + i) y)).2.2 = 11 := by
      intro i y hi hy hne
      rw [← hFL, ← hE] at hne ⊢
      exact turned (by omega) HbP.out hi hy hne
    have HT := Lib.hid hT
    have HS := Lib.hid hS
    have HFl := Lib.hid hFl
    have hFl2 : (FL.length : Int) = (E : Int) + (ps.length : Int) + 4 := by omega
    have hFl1 : (ps.length : Int) + 5 ≤ (FL.length : Int) := by omega
    have hFl3 : (FL.length : Int) ≤ 65549 := by omega
    have HFl2 := Lib.hid hFl2
    clear hT hS h1 hFL hE hFl hFl2
    rw [HF.out]
    rintro e w1 ⟨A1, c1, rfl, hrd, how, hb⟩
    have R1 : Hid (Rd w1 A1 FL.length FL) := Lib.hid hrd
    have O1 : Hid (Own w1 w.heap.size (.slice A1 FL.length c1) FL) := Lib.hid how
    have C_0_1 := Lib.hid hb
    clear hrd how hb
    obtain ⟨j, hj, hjw⟩ := wrap_mod k FL.length (by omega) (by omega)
    have hcap1 : (FL.length : Int) ≤ (c1 : Int) := by have := Own.cap_ge O1.out; omega
    have hjc : (j : Int) ≤ (c1 : Int) := by omega
    have hj0 : (0 : Int) ≤ (j : Int) := by omega
    go_wp2_with fail
    clear hjw hjc hj0
    have HTl : Hid ((FL.take j).length = j) := Lib.hid (by rw [List.length_take]; omega)
    refine (unframe_any A1 j c1 (FL.take j) _ (R1.out.take j (by omega)) (by omega)).mono ?_
    have HU := Lib.hid (HT.out j hj)
    generalize unframe (FL.take j) = U at *
    obtain ⟨UP, UR, uc⟩ := U
    have huc : ((uc : Int) == 0) = false := beq_eq_false_iff_ne.2 (by have h : uc ≠ 0 := HU.out; omega)
    rintro e w2 ⟨A_p, c_p, A_r, c_r, rfl, -, -, hb⟩
    have R2 := Lib.hid (R1.out.below hb (Nat.le_refl _))
    have C_0_2 : Hid (Below w.heap.size w w2) := Lib.hid (C_0_1.out.trans (hb.mono C_0_1.out.size))
    clear hb
    have hhead : (FL.length : Int) - (ps.length : Int) - 4 = (E : Int) := by have := HFl2.out; omega
    go_wp2_with fail
    refine (retS (clone_any A1 FL.length c1 FL _ R2.out (by omega))).mono ?_
    rintro e w3 ⟨A3, c3, rfl, -, how, hb⟩
    have O3 := Lib.hid how
    have C_0_3 : Hid (Below w.heap.size w w3) := Lib.hid (C_0_2.out.trans (hb.mono C_0_2.out.size))
    have S23 := Lib.hid C_0_2.out.size
    clear how hb
    obtain ⟨g, rfl, hg, -⟩ := O3.out.some_ (by omega)
    have Hg : Hid (w.heap.size ≤ g) := Lib.hid (Nat.le_trans S23.out hg)
    clear hg
    obtain ⟨i, hi, hiw0⟩ := wrap_mod k (ps.length + 4) (by omega) (by omega)
    have hiw : wrap64 ((IntKind.u64.wrap k).tmod ((ps.length : Int) + 4)) = (i : Int) := hiw0
    clear hiw0
    have hEi : E + i < FL.length := by have := HFl.out; omega
    have hcell := O3.out.cellAt rfl (E + i) hEi
    have hfree := O3.out.frozenAt rfl (E + i)
    have hbl := getD_lt O3.out.2 (E + i)
    obtain ⟨y, hy, hyne, hyx⟩ := turn_byte _ x hbl
    have HSy := Lib.hid (HS.out i y hi hy hyne)
    have HO4 := Lib.hid (O3.out.set rfl (E + i) y hy)
    generalize FL.getD (E + i) 0 = y0 at *
    clear hyne hbl
    have hEi2 : (E : Int) + (i : Int) < (FL.length : Int) := by omega
    go_wp2_with fail
    obtain ⟨w4, hw4⟩ : ∃ w4 : World, w4 = w3.setCell ⟨g, E + i, none⟩ (.int .u8 ((y : Nat) : Int)) := ⟨_, rfl⟩
    have O4 : Hid (Own w4 w2.heap.size (.slice (some ⟨g, 0, none⟩) FL.length c3) (FL.set (E + i) y)) := Lib.hid (by rw [hw4]; exact HO4.out.1)
    have C_0_4 : Hid (Below w.heap.size w w4) := Lib.hid (by rw [hw4]; exact C_0_3.out.setCell Hg.out _)
    have Hl : Hid ((FL.set (E + i) y).length = FL.length) := Lib.hid (List.length_set ..)
    rw [← hw4]
    clear hw4 hcell hfree
    refine (unframe_any (some ⟨g, 0, none⟩) FL.length c3 (FL.set (E + i) y) _ (O4.out.rdOf Hl.out) (by omega)).mono ?_
    generalize unframe (FL.set (E + i) y) = V at *
    obtain ⟨VP, VR, vc⟩ := V
    obtain rfl : vc = 11 := HSy.out
    rintro e w5 ⟨A5, c5, A6, c6, rfl, -, -, hb⟩
    have C_0_5 : Hid (Below w.heap.size w w5) := Lib.hid (C_0_4.out.trans (hb.mono C_0_4.out.size))
    clear hb
    go_wp2
    go_ret
    exact ⟨rfl, C_0_5.out⟩
end Go.Proofs.Ythjfogllinboaaa
