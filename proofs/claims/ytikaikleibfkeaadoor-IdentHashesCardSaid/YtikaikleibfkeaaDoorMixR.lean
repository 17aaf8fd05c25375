/- The document's Mix, whole. -/
import Derived.Test.YtikaikleibfkeaaDoorMix
namespace Go.Proofs.YtikaikleibfkeaaDoor
open Go.RowKit Go.Idn
theorem rd_one' (w : World) (g : Nat) (z : Int) (c : Nat) (hg : g = w.heap.size) (hz : z = (c : Int)) (hc : c < 256) (t : TypeId) (fr : Nat × Nat) : BL.Rd (w.alloc (.cells #[.int .u8 z] t fr)) (some ⟨g, 0, none⟩) 1 [c] := by
  subst hz; exact BL.rd_one w g c hg hc t fr
theorem info5 : (Tryd.prog.info? 5).map (fun i => (i.zero, i.size, i.bytes)) = some (some (.int .u8 0), 1, 1) := by kernel_rfl
set_option maxHeartbeats 1000000 in
theorem eightR_any (k : Nat) (hk : k ≤ 18446744073709551615) (w : World) : Calls Tryd.prog 31 #[.int .u64 (k : Int)] w (BL.RetO (e8 k) w) := by
  have h1 : (k : Int) ≤ 18446744073709551615 := by omega
  have h0 : (0 : Int) ≤ k := by omega
  have Hk := Lib.hid hk
  clear hk
  go_enter Tryd.func31, Tryd.ntmps31
  go_wp2
  have O0 := Lib.hid (BL.Own.nil w w.heap.size)
  have B0 := Lib.hid (Below.refl w.heap.size w)
  refine wp_loop_rounds 9 ?_
  rw [rounds_succ]
  go_wp2_with (at_builtin; refine BL.wpList_appB rfl (.tmp 9) (.tmp 15) 24 rfl Tryd.underlying24 info5 rfl (O0.out.alloc _) rfl (rd_one' w _ _ (k / 72057594037927936 % 256) rfl (by have := Hk.out; omega) (Nat.mod_lt _ (by decide)) 5 (0, 0)) (by simp) (Nat.le_trans B0.out.size (by simp)) ?_; intro v1 w1 ho hb; have O1 := Lib.hid ho; have B1 : Hid (Below w.heap.size w w1) := Lib.hid ((B0.out.alloc B0.out.size _).trans hb); clear ho hb)
  rw [rounds_succ]
  go_wp2_with (at_builtin; refine BL.wpList_appB rfl (.tmp 9) (.tmp 15) 24 rfl Tryd.underlying24 info5 rfl (O1.out.alloc _) rfl (rd_one' w1 _ _ (k / 281474976710656 % 256) rfl (by have := Hk.out; omega) (Nat.mod_lt _ (by decide)) 5 (0, 0)) (by simp) (Nat.le_trans B1.out.size (by simp)) ?_; intro v2 w2 ho hb; have O2 := Lib.hid ho; have B2 : Hid (Below w.heap.size w w2) := Lib.hid ((B1.out.alloc B1.out.size _).trans hb); clear ho hb)
  rw [rounds_succ]
  go_wp2_with (at_builtin; refine BL.wpList_appB rfl (.tmp 9) (.tmp 15) 24 rfl Tryd.underlying24 info5 rfl (O2.out.alloc _) rfl (rd_one' w2 _ _ (k / 1099511627776 % 256) rfl (by have := Hk.out; omega) (Nat.mod_lt _ (by decide)) 5 (0, 0)) (by simp) (Nat.le_trans B2.out.size (by simp)) ?_; intro v3 w3 ho hb; have O3 := Lib.hid ho; have B3 : Hid (Below w.heap.size w w3) := Lib.hid ((B2.out.alloc B2.out.size _).trans hb); clear ho hb)
  rw [rounds_succ]
  go_wp2_with (at_builtin; refine BL.wpList_appB rfl (.tmp 9) (.tmp 15) 24 rfl Tryd.underlying24 info5 rfl (O3.out.alloc _) rfl (rd_one' w3 _ _ (k / 4294967296 % 256) rfl (by have := Hk.out; omega) (Nat.mod_lt _ (by decide)) 5 (0, 0)) (by simp) (Nat.le_trans B3.out.size (by simp)) ?_; intro v4 w4 ho hb; have O4 := Lib.hid ho; have B4 : Hid (Below w.heap.size w w4) := Lib.hid ((B3.out.alloc B3.out.size _).trans hb); clear ho hb)
  rw [rounds_succ]
  go_wp2_with (at_builtin; refine BL.wpList_appB rfl (.tmp 9) (.tmp 15) 24 rfl Tryd.underlying24 info5 rfl (O4.out.alloc _) rfl (rd_one' w4 _ _ (k / 16777216 % 256) rfl (by have := Hk.out; omega) (Nat.mod_lt _ (by decide)) 5 (0, 0)) (by simp) (Nat.le_trans B4.out.size (by simp)) ?_; intro v5 w5 ho hb; have O5 := Lib.hid ho; have B5 : Hid (Below w.heap.size w w5) := Lib.hid ((B4.out.alloc B4.out.size _).trans hb); clear ho hb)
  rw [rounds_succ]
  go_wp2_with (at_builtin; refine BL.wpList_appB rfl (.tmp 9) (.tmp 15) 24 rfl Tryd.underlying24 info5 rfl (O5.out.alloc _) rfl (rd_one' w5 _ _ (k / 65536 % 256) rfl (by have := Hk.out; omega) (Nat.mod_lt _ (by decide)) 5 (0, 0)) (by simp) (Nat.le_trans B5.out.size (by simp)) ?_; intro v6 w6 ho hb; have O6 := Lib.hid ho; have B6 : Hid (Below w.heap.size w w6) := Lib.hid ((B5.out.alloc B5.out.size _).trans hb); clear ho hb)
  rw [rounds_succ]
  go_wp2_with (at_builtin; refine BL.wpList_appB rfl (.tmp 9) (.tmp 15) 24 rfl Tryd.underlying24 info5 rfl (O6.out.alloc _) rfl (rd_one' w6 _ _ (k / 256 % 256) rfl (by have := Hk.out; omega) (Nat.mod_lt _ (by decide)) 5 (0, 0)) (by simp) (Nat.le_trans B6.out.size (by simp)) ?_; intro v7 w7 ho hb; have O7 := Lib.hid ho; have B7 : Hid (Below w.heap.size w w7) := Lib.hid ((B6.out.alloc B6.out.size _).trans hb); clear ho hb)
  rw [rounds_succ]
  go_wp2_with (at_builtin; refine BL.wpList_appB rfl (.tmp 9) (.tmp 15) 24 rfl Tryd.underlying24 info5 rfl (O7.out.alloc _) rfl (rd_one' w7 _ _ (k / 1 % 256) rfl (by have := Hk.out; omega) (Nat.mod_lt _ (by decide)) 5 (0, 0)) (by simp) (Nat.le_trans B7.out.size (by simp)) ?_; intro v8 w8 ho hb; have O8 := Lib.hid ho; have B8 : Hid (Below w.heap.size w w8) := Lib.hid ((B7.out.alloc B7.out.size _).trans hb); clear ho hb)
  rw [rounds_succ]
  go_wp2
  go_ret
  exact ⟨_, rfl, O8.out, B8.out⟩
theorem mixR_any (k m : Nat) (hk : k ≤ 18446744073709551615) (hm : m ≤ 18446744073709551615) (w : World) :
    Calls Tryd.prog 21 #[.int .u64 (k : Int), .int .u64 (m : Int)] w (BL.RetV (.int .u64 ((hsh (e8 k ++ e8 m) : Nat) : Int)) w) := by
  have Hk := Lib.hid hk
  have Hm := Lib.hid hm
  clear hk hm
  go_enter Tryd.func21, Tryd.ntmps21
  go_wp2_with fail
  refine (eightR_any k Hk.out _).mono ?_
  rintro e w1 ⟨v1, rfl, ho1, hb1⟩
  have O1 := Lib.hid ho1
  have B1 := Lib.hid hb1
  clear ho1 hb1
  go_wp2_with fail
  refine (eightR_any m Hm.out _).mono ?_
  rintro e w2 ⟨v2, rfl, ho2, hb2⟩
  obtain ⟨A2, c2, rfl, hr2⟩ := ho2.rd
  have R2 := Lib.hid hr2
  have B2 := Lib.hid hb2
  have O1' := Lib.hid (O1.out.below hb2 (Nat.le_refl _))
  clear ho2 hb2 hr2
  go_wp2_with (at_builtin; refine BL.wpList_appB rfl (.tmp 6) (.tmp 8) 24 rfl Tryd.underlying24 info5 rfl O1'.out rfl R2.out (by simp [e8]) (Nat.le_trans B1.out.size B2.out.size) ?_; intro v3 w3 ho3 hb3; have O3 := Lib.hid ho3; have B3 := Lib.hid hb3; clear ho3 hb3)
  obtain ⟨A3, c3, rfl, hr3⟩ := O3.out.rd
  have R3 := Lib.hid hr3
  clear hr3
  refine (hashR_any A3 _ c3 _ _ (toRd R3.out)).mono ?_
  rintro e w4 ⟨rfl, rfl⟩
  go_wp2
  go_ret
  exact ⟨rfl, (B1.out.trans (B2.out.mono B1.out.size)).trans B3.out⟩
end Go.Proofs.YtikaikleibfkeaaDoor
