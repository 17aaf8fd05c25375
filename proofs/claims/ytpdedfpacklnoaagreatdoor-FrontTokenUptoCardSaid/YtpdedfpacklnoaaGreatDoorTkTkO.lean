/- Contract of ormap.one: entR. -/
import Derived.Test.YtpdedfpacklnoaaGreatDoorTkTkD
import Derived.Laws.Bits64b
import Derived.StillTailTactics
set_option maxRecDepth 100000
namespace Go.Proofs.YtpdedfpacklnoaaGreatDoor
open Go.RowKit Go.BL Go.Ct Go.Sl Go.Wr W

def OneR (B g : Nat) (bs : List Nat) (r : Except Nat (En × Nat)) (w : World) (e : Ending) (w' : World) : Prop := Kept [g] w w' ∧ ∃ (x : En) (c j : Nat), e = .returned (.tuple #[entV x, .int .i64 (c : Int)]) ∧ Rdr w' B g bs j ∧
 match r with
 | .error k => c = k ∧ k ≠ 0
 | .ok (y, j') => c = 0 ∧ j = j' ∧ x = y
theorem or_u64 (p b K : Nat) (i : Nat) (hK : K = 2 ^ i) (hp : p < K) (hb : b < 256) (hm : 256 * K ≤ 18446744073709551616) : bits .or .u64 (p : Int) ((b * K : Nat) : Int) = ((p + b * K : Nat) : Int) := by
 have h1 : b * K < 256 * K := Nat.mul_lt_mul_of_pos_right hb (by omega)
 rw [bits_or_u64_nat p (b * K) (by omega) (by omega), Nat.or_comm, nat_join i (b * K) p (by rw [hK]; exact Nat.mul_mod_left b _) (by rw [← hK]; exact hp), Nat.add_comm]
/-- Behind the pieces: the price. -/
def tailR (bs : List Nat) (y : Nat → En) (k s i p : Nat) : Except Nat (En × Nat) := match bytesR bs k s i p with
 | .error e => .error e
 | .ok (p, k) => .ok (y p, k)
theorem tail_err {bs : List Nat} {y : Nat → En} {k s i p c : Nat} (h : (byteAt bs i).2.1 = c) (hc : c ≠ 0) : tailR bs y (k + 1) s i p = .error c := by unfold tailR bytesR; rw [h, if_pos hc]
theorem tail_ok {bs : List Nat} {y : Nat → En} {k s i p b j : Nat} (h : byteAt bs i = (b, 0, j)) : tailR bs y (k + 1) s i p = tailR bs y k (s + 1) j (p + b * 256 ^ s) := by
 conv => lhs; unfold tailR bytesR; rw [h, if_neg (by simp)]
 rfl
theorem byteAt_lt {bs : List Nat} (h : ∀ x ∈ bs, x < 256) (i : Nat) : (byteAt bs i).1 < 256 := by
 unfold byteAt
 split
 ·rename_i hx
  show bs.getD i 0 < 256
  rw [List.getD_eq_getElem?_getD, List.getElem?_eq_getElem hx]
  exact h _ (List.getElem_mem hx)
 ·show 0 < 256; omega
theorem entT_eq {bs ts : List Nat} {i a0 c0 p0 a1 c1 p1 a2 c2 p2 a3 c3 p3 : Nat} {it : List UInt8} (hit : ts.map UInt8.ofNat = it) (h0 : uintAt bs i = (a0, c0, p0)) (h1 : uintAt bs p0 = (a1, c1, p1)) (h2 : uintAt bs p1 = (a2, c2, p2)) (h3 : uintAt bs p2 = (a3, c3, p3)) :
  entT bs ts i = if c0 ≠ 0 then .error c0 else if c1 ≠ 0 then .error c1 else if c2 ≠ 0 then .error c2 else if c3 ≠ 0 then .error c3 else tailR bs (fun p => ⟨it, ⟨(a0 : Int), (a1 : Int), (a2 : Int)⟩, (a3 : Int), p⟩) 8 0 p3 0 := by
 unfold entT dotR tailR
 rw [h0]; dsimp only; rw [h1]; dsimp only; rw [h2]; dsimp only
 by_cases e0 : c0 = 0 <;> by_cases e1 : c1 = 0 <;> by_cases e2 : c2 = 0 <;> by_cases e3 : c3 = 0 <;> simp [e0, e1, e2, e3, h3, hit]
 cases bytesR bs 8 0 p3 0 <;> rfl
set_option maxHeartbeats 400000000 in
theorem one_any (B g : Nat) (bs : List Nat) (i : Nat) (w : World) (h : Rdr w B g bs i) (hB : B ≤ w.heap.size) : Calls Tryz.prog 188 #[.pointer (some ⟨g, 0, none⟩)] w (OneR B g bs (entR bs i) w) := by
 have HBW := Lib.hid hB
 have HGW : Hid (g < w.heap.size) := Lib.hid (Nat.lt_of_lt_of_le h.ltB hB)
 have HRg : Hid (w.heap.size ∉ [g]) := Lib.hid (by have := HGW.out; simp; omega)
 have HVg : Hid (w.heap.size + 1 ∉ [g]) := Lib.hid (by have := HGW.out; simp; omega)
 obtain ⟨y0, hy0⟩ : ∃ y, (w.alloc (.cells #[.string ⟨#[]⟩, .int .i64 0, .int .i64 0, .int .i64 0, .int .i64 0, .int .u64 0] 92)).alloc (.cells #[.string ⟨#[]⟩, .int .i64 0, .int .i64 0, .int .i64 0, .int .i64 0, .int .u64 0] 92) = y := ⟨_, rfl⟩
 have HR0 : Hid (Rdr y0 B g bs i) := Lib.hid (by rw [← hy0]; exact (h.alloc _).alloc _)
 have HK0 : Hid (Kept [g] w y0) := Lib.hid (by rw [← hy0]; exact ((Kept.refl _ w).alloc _).alloc _)
 have HB0 : Hid (Bk y0 w.heap.size [.string ⟨#[]⟩, .int .i64 0, .int .i64 0, .int .i64 0, .int .i64 0, .int .u64 0]) := Lib.hid (by rw [← hy0]; exact (Bk.new w [.string ⟨#[]⟩, .int .i64 0, .int .i64 0, .int .i64 0, .int .i64 0, .int .u64 0] 92 rfl).alloc _ (by simp))
 have HV0 : Hid (Bk y0 (w.heap.size + 1) [.string ⟨#[]⟩, .int .i64 0, .int .i64 0, .int .i64 0, .int .i64 0, .int .u64 0]) := Lib.hid (by rw [← hy0]; exact Bk.new (w.alloc _) [.string ⟨#[]⟩, .int .i64 0, .int .i64 0, .int .i64 0, .int .i64 0, .int .u64 0] 92 (by simp))
 have HS0 : Hid (w.heap.size + 1 < y0.heap.size) := Lib.hid (by rw [← hy0]; simp)
 have hut := rtext_any B g bs i 32 y0 HR0.out (Nat.le_trans hB HK0.out.size)
 unfold RetR at hut
 obtain ⟨⟨ts, tc, p0⟩, hT⟩ : ∃ x, textAt bs i 32 = x := ⟨_, rfl⟩
 rw [hT] at hut
 dsimp only at hut
 have HLT : Hid (∀ x ∈ bs, x < 256) := Lib.hid (by obtain ⟨G, c, _, hr, _⟩ := h; exact hr.2.2.1)
 have HE0 : Hid (entR bs i = if tc ≠ 0 then .error tc else entT bs ts p0) := Lib.hid (by unfold entR; rw [hT])
 clear hT h hB
 obtain ⟨it, hit⟩ : ∃ y, ts.map UInt8.ofNat = y := ⟨_, rfl⟩
 rw [show bstr ts = ⟨it.toArray⟩ from by rw [← hit]; rfl] at hut
 go_enter Tryz.func188, Tryz.ntmps188
 go_upto_region 2 with fail
 clear hy0
 go_wp2_with fail
 go_at_call 228
 refine hut.mono ?_
 clear hut
 rintro e x0 ⟨rfl, hr, hk⟩
 have HRt := Lib.hid hr
 have HKt := Lib.hid (HK0.out.then_ hk)
 have HBt := Lib.hid (HB0.out.kept hk (Nat.lt_of_succ_lt HS0.out) HRg.out)
 have HVt := Lib.hid (HV0.out.kept hk HS0.out HVg.out)
 have HSt : Hid (w.heap.size + 1 < x0.heap.size) := Lib.hid (Nat.lt_of_lt_of_le HS0.out hk.size)
 clear hr hk
 by_cases htc : tc = 0
 case neg =>
  have hne : ((tc : Int) != 0) = true := bne_iff_ne.2 (by omega)
  have HV : Hid (entR bs i = .error tc) := Lib.hid (by rw [HE0.out, if_pos htc])
  obtain ⟨v0, _⟩ := HVt.out 0 _ rfl
  obtain ⟨rr0, rf0⟩ := HBt.out 0 _ rfl
  obtain ⟨v1, _⟩ := HVt.out 1 _ rfl
  obtain ⟨rr1, rf1⟩ := HBt.out 1 _ rfl
  obtain ⟨v2, _⟩ := HVt.out 2 _ rfl
  obtain ⟨rr2, rf2⟩ := HBt.out 2 _ rfl
  obtain ⟨v3, _⟩ := HVt.out 3 _ rfl
  obtain ⟨rr3, rf3⟩ := HBt.out 3 _ rfl
  obtain ⟨v4, _⟩ := HVt.out 4 _ rfl
  obtain ⟨rr4, rf4⟩ := HBt.out 4 _ rfl
  obtain ⟨v5, _⟩ := HVt.out 5 _ rfl
  obtain ⟨rr5, rf5⟩ := HBt.out 5 _ rfl
  have HQ := Lib.hid ((((((HBt.out.set 0 (.string ⟨#[]⟩)).set 1 (.int .i64 0)).set 2 (.int .i64 0)).set 3 (.int .i64 0)).set 4 (.int .i64 0)).set 5 (.int .u64 0))
  have q0 := (HQ.out 0 _ rfl).1
  have q1 := (HQ.out 1 _ rfl).1
  have q2 := (HQ.out 2 _ rfl).1
  have q3 := (HQ.out 3 _ rfl).1
  have q4 := (HQ.out 4 _ rfl).1
  have q5 := (HQ.out 5 _ rfl).1
  have HKF := Lib.hid ((((((HKt.out.setCell (p := ⟨w.heap.size, 0, none⟩) (.inr (Nat.le_refl _)) (.string ⟨#[]⟩)).setCell (p := ⟨w.heap.size, 1, none⟩) (.inr (Nat.le_refl _)) (.int .i64 0)).setCell (p := ⟨w.heap.size, 2, none⟩) (.inr (Nat.le_refl _)) (.int .i64 0)).setCell (p := ⟨w.heap.size, 3, none⟩) (.inr (Nat.le_refl _)) (.int .i64 0)).setCell (p := ⟨w.heap.size, 4, none⟩) (.inr (Nat.le_refl _)) (.int .i64 0)).setCell (p := ⟨w.heap.size, 5, none⟩) (.inr (Nat.le_refl _)) (.int .u64 0))
  have HRF := Lib.hid ((((((HRt.out.far (p := ⟨w.heap.size, 0, none⟩) HBW.out (.string ⟨#[]⟩)).far (p := ⟨w.heap.size, 1, none⟩) HBW.out (.int .i64 0)).far (p := ⟨w.heap.size, 2, none⟩) HBW.out (.int .i64 0)).far (p := ⟨w.heap.size, 3, none⟩) HBW.out (.int .i64 0)).far (p := ⟨w.heap.size, 4, none⟩) HBW.out (.int .i64 0)).far (p := ⟨w.heap.size, 5, none⟩) HBW.out (.int .u64 0))
  go_wp2_with fail
  refine bodyPost_ret (v := .tuple #[.agg #[.string ⟨#[]⟩, .int .i64 0, .int .i64 0, .int .i64 0, .int .i64 0, .int .u64 0], .int .i64 (tc : Int)]) (by simp [results, Tryz.results188, go_sem, q0, q1, q2, q3, q4, q5]; try rfl) rfl ?_
  exact ⟨HKF.out, ⟨[], ⟨0, 0, 0⟩, 0, 0⟩, tc, _, rfl, HRF.out, by rw [HV.out]; exact ⟨rfl, htc⟩⟩
 subst htc
 obtain ⟨⟨a0, c0, p1⟩, hU0⟩ : ∃ x, uintAt bs p0 = x := ⟨_, rfl⟩
 have hu0 := fun w h hB => uint_any B g bs p0 w h hB
 unfold RetR at hu0
 rw [hU0] at hu0
 dsimp only at hu0
 obtain ⟨⟨a1, c1, p2⟩, hU1⟩ : ∃ x, uintAt bs p1 = x := ⟨_, rfl⟩
 have hu1 := fun w h hB => uint_any B g bs p1 w h hB
 unfold RetR at hu1
 rw [hU1] at hu1
 dsimp only at hu1
 obtain ⟨⟨a2, c2, p3⟩, hU2⟩ : ∃ x, uintAt bs p2 = x := ⟨_, rfl⟩
 have hu2 := fun w h hB => uint_any B g bs p2 w h hB
 unfold RetR at hu2
 rw [hU2] at hu2
 dsimp only at hu2
 obtain ⟨⟨a3, c3, p4⟩, hU3⟩ : ∃ x, uintAt bs p3 = x := ⟨_, rfl⟩
 have hu3 := fun w h hB => uint_any B g bs p3 w h hB
 unfold RetR at hu3
 rw [hU3] at hu3
 dsimp only at hu3
 have HE1 := Lib.hid ((HE0.out.trans (if_neg (by simp))).trans (entT_eq hit hU0 hU1 hU2 hU3))
 clear hU0 hU1 hU2 hU3 hit
 obtain ⟨y1, hy1⟩ : ∃ y, x0.setCell ⟨w.heap.size + 1, 0, none⟩ (.string ⟨it.toArray⟩) = y := ⟨_, rfl⟩
 have HRu := HRt.out.far (p := ⟨w.heap.size + 1, 0, none⟩) (Nat.le_trans HBW.out (Nat.le_succ _)) (.string ⟨it.toArray⟩)
 have HKu := HKt.out.setCell (p := ⟨w.heap.size + 1, 0, none⟩) (.inr (Nat.le_succ _)) (.string ⟨it.toArray⟩)
 have HBu := HBt.out.other (p := ⟨w.heap.size + 1, 0, none⟩) (by simp) (.string ⟨it.toArray⟩)
 have HVu := HVt.out.set 0 (.string ⟨it.toArray⟩)
 have HSu : w.heap.size + 1 < (x0.setCell ⟨w.heap.size + 1, 0, none⟩ (.string ⟨it.toArray⟩)).heap.size := by simpa [World.setCell] using HSt.out
 rw [hy1] at HRu HKu HBu HVu HSu
 replace HRu := Lib.hid HRu
 replace HKu := Lib.hid HKu
 replace HBu := Lib.hid HBu
 replace HVu := Lib.hid HVu
 replace HSu := Lib.hid HSu
 obtain ⟨P, hP⟩ : ∃ P, y1.heap.size = P := ⟨_, rfl⟩
 obtain ⟨z0, hz0⟩ : ∃ y, y1.alloc (.cells #[.pointer (some ⟨w.heap.size + 1, 1, none⟩), .pointer (some ⟨w.heap.size + 1, 2, none⟩), .pointer (some ⟨w.heap.size + 1, 3, none⟩), .pointer (some ⟨w.heap.size + 1, 4, none⟩)] 272) = y := ⟨_, rfl⟩
 have HRa : Hid (Rdr z0 B g bs p0) := Lib.hid (by rw [← hz0]; exact HRu.out.alloc _)
 have HKa : Hid (Kept [g] w z0) := Lib.hid (by rw [← hz0]; exact HKu.out.alloc _)
 have HBa := HBu.out.alloc (.cells #[.pointer (some ⟨w.heap.size + 1, 1, none⟩), .pointer (some ⟨w.heap.size + 1, 2, none⟩), .pointer (some ⟨w.heap.size + 1, 3, none⟩), .pointer (some ⟨w.heap.size + 1, 4, none⟩)] 272) (Nat.lt_of_succ_lt HSu.out)
 have HVa := HVu.out.alloc (.cells #[.pointer (some ⟨w.heap.size + 1, 1, none⟩), .pointer (some ⟨w.heap.size + 1, 2, none⟩), .pointer (some ⟨w.heap.size + 1, 3, none⟩), .pointer (some ⟨w.heap.size + 1, 4, none⟩)] 272) HSu.out
 rw [hz0] at HBa HVa
 replace HBa := Lib.hid HBa
 replace HVa := Lib.hid HVa
 have HSa : Hid (w.heap.size + 1 < z0.heap.size) := Lib.hid (by rw [← hz0]; have := HSu.out; simp; omega)
 have HPa : Hid (Bk z0 P [.pointer (some ⟨w.heap.size + 1, 1, none⟩), .pointer (some ⟨w.heap.size + 1, 2, none⟩), .pointer (some ⟨w.heap.size + 1, 3, none⟩), .pointer (some ⟨w.heap.size + 1, 4, none⟩)]) := Lib.hid (by rw [← hz0]; exact Bk.new y1 _ 272 hP.symm)
 have HTa : Hid (P < z0.heap.size) := Lib.hid (by rw [← hz0, ← hP]; simp)
 have HPV : Hid ((⟨w.heap.size + 1, 0, none⟩ : Addr).block ≠ P) := Lib.hid (by have := HSu.out; rw [hP] at this; dsimp only; omega)
 have HPg : Hid (P ∉ [g]) := Lib.hid (by have := HSu.out; have := HGW.out; rw [hP] at *; simp; omega)
 obtain ⟨vt0, ft0⟩ := HVt.out 0 _ rfl
 go_wp2_with fail
 refine wp_loop_rounds 5 ?_
 rw [rounds_succ]
 have r0 := (HPa.out 0 _ rfl).1
 go_wp2_with fail
 go_at_call 187
 refine (hu0 _ HRa.out (Nat.le_trans HBW.out HKa.out.size)).mono ?_
 clear hu0 r0
 rintro e xa0 ⟨rfl, hr, hk⟩
 have HRb0 := Lib.hid hr
 have HKb0 := Lib.hid (HKa.out.then_ hk)
 have HBb0 := Lib.hid (HBa.out.kept hk (Nat.lt_of_succ_lt HSa.out) HRg.out)
 have HVb0 := Lib.hid (HVa.out.kept hk HSa.out HVg.out)
 have HSb0 : Hid (w.heap.size + 1 < xa0.heap.size) := Lib.hid (Nat.lt_of_lt_of_le HSa.out hk.size)
 have HPb0 := Lib.hid (HPa.out.kept hk HTa.out HPg.out)
 have HTb0 : Hid (P < xa0.heap.size) := Lib.hid (Nat.lt_of_lt_of_le HTa.out hk.size)
 clear hr hk
 obtain ⟨ya0, hya0⟩ : ∃ y, xa0.setCell ⟨w.heap.size + 1, 1, none⟩ (.int .i64 (a0 : Int)) = y := ⟨_, rfl⟩
 have HRc0 := HRb0.out.far (p := ⟨w.heap.size + 1, 1, none⟩) (Nat.le_trans HBW.out (Nat.le_succ _)) (.int .i64 (a0 : Int))
 have HKc0 := HKb0.out.setCell (p := ⟨w.heap.size + 1, 1, none⟩) (.inr (Nat.le_succ _)) (.int .i64 (a0 : Int))
 have HBc0 := HBb0.out.other (p := ⟨w.heap.size + 1, 1, none⟩) (by simp) (.int .i64 (a0 : Int))
 have HVc0 := HVb0.out.set 1 (.int .i64 (a0 : Int))
 have HSc0 : w.heap.size + 1 < (xa0.setCell ⟨w.heap.size + 1, 1, none⟩ (.int .i64 (a0 : Int))).heap.size := by simpa [World.setCell] using HSb0.out
 have HPc0 := HPb0.out.other (p := ⟨w.heap.size + 1, 1, none⟩) HPV.out (.int .i64 (a0 : Int))
 have HTc0 : P < (xa0.setCell ⟨w.heap.size + 1, 1, none⟩ (.int .i64 (a0 : Int))).heap.size := by simpa [World.setCell] using HTb0.out
 rw [hya0] at HRc0 HKc0 HBc0 HVc0 HSc0 HPc0 HTc0
 replace HRc0 := Lib.hid HRc0
 replace HKc0 := Lib.hid HKc0
 replace HBc0 := Lib.hid HBc0
 replace HVc0 := Lib.hid HVc0
 replace HSc0 := Lib.hid HSc0
 replace HPc0 := Lib.hid HPc0
 replace HTc0 := Lib.hid HTc0
 obtain ⟨vv0, ff0⟩ := HVb0.out 1 _ rfl
 by_cases hc0 : c0 = 0
 case neg =>
  have hne : ((c0 : Int) != 0) = true := bne_iff_ne.2 (by omega)
  have HV : Hid (entR bs i = .error c0) := Lib.hid (by rw [HE1.out, if_pos hc0])
  obtain ⟨v0, _⟩ := HVc0.out 0 _ rfl
  obtain ⟨rr0, rf0⟩ := HBc0.out 0 _ rfl
  obtain ⟨v1, _⟩ := HVc0.out 1 _ rfl
  obtain ⟨rr1, rf1⟩ := HBc0.out 1 _ rfl
  obtain ⟨v2, _⟩ := HVc0.out 2 _ rfl
  obtain ⟨rr2, rf2⟩ := HBc0.out 2 _ rfl
  obtain ⟨v3, _⟩ := HVc0.out 3 _ rfl
  obtain ⟨rr3, rf3⟩ := HBc0.out 3 _ rfl
  obtain ⟨v4, _⟩ := HVc0.out 4 _ rfl
  obtain ⟨rr4, rf4⟩ := HBc0.out 4 _ rfl
  obtain ⟨v5, _⟩ := HVc0.out 5 _ rfl
  obtain ⟨rr5, rf5⟩ := HBc0.out 5 _ rfl
  have HQ := Lib.hid ((((((HBc0.out.set 0 (.string ⟨it.toArray⟩)).set 1 (.int .i64 (a0 : Int))).set 2 (.int .i64 0)).set 3 (.int .i64 0)).set 4 (.int .i64 0)).set 5 (.int .u64 0))
  have q0 := (HQ.out 0 _ rfl).1
  have q1 := (HQ.out 1 _ rfl).1
  have q2 := (HQ.out 2 _ rfl).1
  have q3 := (HQ.out 3 _ rfl).1
  have q4 := (HQ.out 4 _ rfl).1
  have q5 := (HQ.out 5 _ rfl).1
  have HKF := Lib.hid ((((((HKc0.out.setCell (p := ⟨w.heap.size, 0, none⟩) (.inr (Nat.le_refl _)) (.string ⟨it.toArray⟩)).setCell (p := ⟨w.heap.size, 1, none⟩) (.inr (Nat.le_refl _)) (.int .i64 (a0 : Int))).setCell (p := ⟨w.heap.size, 2, none⟩) (.inr (Nat.le_refl _)) (.int .i64 0)).setCell (p := ⟨w.heap.size, 3, none⟩) (.inr (Nat.le_refl _)) (.int .i64 0)).setCell (p := ⟨w.heap.size, 4, none⟩) (.inr (Nat.le_refl _)) (.int .i64 0)).setCell (p := ⟨w.heap.size, 5, none⟩) (.inr (Nat.le_refl _)) (.int .u64 0))
  have HRF := Lib.hid ((((((HRc0.out.far (p := ⟨w.heap.size, 0, none⟩) HBW.out (.string ⟨it.toArray⟩)).far (p := ⟨w.heap.size, 1, none⟩) HBW.out (.int .i64 (a0 : Int))).far (p := ⟨w.heap.size, 2, none⟩) HBW.out (.int .i64 0)).far (p := ⟨w.heap.size, 3, none⟩) HBW.out (.int .i64 0)).far (p := ⟨w.heap.size, 4, none⟩) HBW.out (.int .i64 0)).far (p := ⟨w.heap.size, 5, none⟩) HBW.out (.int .u64 0))
  go_wp2_with fail
  refine bodyPost_ret (v := .tuple #[.agg #[.string ⟨it.toArray⟩, .int .i64 (a0 : Int), .int .i64 0, .int .i64 0, .int .i64 0, .int .u64 0], .int .i64 (c0 : Int)]) (by simp [results, Tryz.results188, go_sem, q0, q1, q2, q3, q4, q5]; try rfl) rfl ?_
  exact ⟨HKF.out, ⟨it, ⟨(a0 : Int), 0, 0⟩, 0, 0⟩, c0, _, rfl, HRF.out, by rw [HV.out]; exact ⟨rfl, hc0⟩⟩
 subst hc0
 go_wp2_with fail
 clear vv0 ff0
 rw [rounds_succ]
 have r1 := (HPc0.out 1 _ rfl).1
 go_wp2_with fail
 go_at_call 187
 refine (hu1 _ HRc0.out (Nat.le_trans HBW.out HKc0.out.size)).mono ?_
 clear hu1 r1
 rintro e xa1 ⟨rfl, hr, hk⟩
 have HRb1 := Lib.hid hr
 have HKb1 := Lib.hid (HKc0.out.then_ hk)
 have HBb1 := Lib.hid (HBc0.out.kept hk (Nat.lt_of_succ_lt HSc0.out) HRg.out)
 have HVb1 := Lib.hid (HVc0.out.kept hk HSc0.out HVg.out)
 have HSb1 : Hid (w.heap.size + 1 < xa1.heap.size) := Lib.hid (Nat.lt_of_lt_of_le HSc0.out hk.size)
 have HPb1 := Lib.hid (HPc0.out.kept hk HTc0.out HPg.out)
 have HTb1 : Hid (P < xa1.heap.size) := Lib.hid (Nat.lt_of_lt_of_le HTc0.out hk.size)
 clear hr hk
 obtain ⟨ya1, hya1⟩ : ∃ y, xa1.setCell ⟨w.heap.size + 1, 2, none⟩ (.int .i64 (a1 : Int)) = y := ⟨_, rfl⟩
 have HRc1 := HRb1.out.far (p := ⟨w.heap.size + 1, 2, none⟩) (Nat.le_trans HBW.out (Nat.le_succ _)) (.int .i64 (a1 : Int))
 have HKc1 := HKb1.out.setCell (p := ⟨w.heap.size + 1, 2, none⟩) (.inr (Nat.le_succ _)) (.int .i64 (a1 : Int))
 have HBc1 := HBb1.out.other (p := ⟨w.heap.size + 1, 2, none⟩) (by simp) (.int .i64 (a1 : Int))
 have HVc1 := HVb1.out.set 2 (.int .i64 (a1 : Int))
 have HSc1 : w.heap.size + 1 < (xa1.setCell ⟨w.heap.size + 1, 2, none⟩ (.int .i64 (a1 : Int))).heap.size := by simpa [World.setCell] using HSb1.out
 have HPc1 := HPb1.out.other (p := ⟨w.heap.size + 1, 2, none⟩) HPV.out (.int .i64 (a1 : Int))
 have HTc1 : P < (xa1.setCell ⟨w.heap.size + 1, 2, none⟩ (.int .i64 (a1 : Int))).heap.size := by simpa [World.setCell] using HTb1.out
 rw [hya1] at HRc1 HKc1 HBc1 HVc1 HSc1 HPc1 HTc1
 replace HRc1 := Lib.hid HRc1
 replace HKc1 := Lib.hid HKc1
 replace HBc1 := Lib.hid HBc1
 replace HVc1 := Lib.hid HVc1
 replace HSc1 := Lib.hid HSc1
 replace HPc1 := Lib.hid HPc1
 replace HTc1 := Lib.hid HTc1
 obtain ⟨vv1, ff1⟩ := HVb1.out 2 _ rfl
 by_cases hc1 : c1 = 0
 case neg =>
  have hne : ((c1 : Int) != 0) = true := bne_iff_ne.2 (by omega)
  have HV : Hid (entR bs i = .error c1) := Lib.hid (by rw [HE1.out, if_neg (by simp), if_pos hc1])
  obtain ⟨v0, _⟩ := HVc1.out 0 _ rfl
  obtain ⟨rr0, rf0⟩ := HBc1.out 0 _ rfl
  obtain ⟨v1, _⟩ := HVc1.out 1 _ rfl
  obtain ⟨rr1, rf1⟩ := HBc1.out 1 _ rfl
  obtain ⟨v2, _⟩ := HVc1.out 2 _ rfl
  obtain ⟨rr2, rf2⟩ := HBc1.out 2 _ rfl
  obtain ⟨v3, _⟩ := HVc1.out 3 _ rfl
  obtain ⟨rr3, rf3⟩ := HBc1.out 3 _ rfl
  obtain ⟨v4, _⟩ := HVc1.out 4 _ rfl
  obtain ⟨rr4, rf4⟩ := HBc1.out 4 _ rfl
  obtain ⟨v5, _⟩ := HVc1.out 5 _ rfl
  obtain ⟨rr5, rf5⟩ := HBc1.out 5 _ rfl
  have HQ := Lib.hid ((((((HBc1.out.set 0 (.string ⟨it.toArray⟩)).set 1 (.int .i64 (a0 : Int))).set 2 (.int .i64 (a1 : Int))).set 3 (.int .i64 0)).set 4 (.int .i64 0)).set 5 (.int .u64 0))
  have q0 := (HQ.out 0 _ rfl).1
  have q1 := (HQ.out 1 _ rfl).1
  have q2 := (HQ.out 2 _ rfl).1
  have q3 := (HQ.out 3 _ rfl).1
  have q4 := (HQ.out 4 _ rfl).1
  have q5 := (HQ.out 5 _ rfl).1
  have HKF := Lib.hid ((((((HKc1.out.setCell (p := ⟨w.heap.size, 0, none⟩) (.inr (Nat.le_refl _)) (.string ⟨it.toArray⟩)).setCell (p := ⟨w.heap.size, 1, none⟩) (.inr (Nat.le_refl _)) (.int .i64 (a0 : Int))).setCell (p := ⟨w.heap.size, 2, none⟩) (.inr (Nat.le_refl _)) (.int .i64 (a1 : Int))).setCell (p := ⟨w.heap.size, 3, none⟩) (.inr (Nat.le_refl _)) (.int .i64 0)).setCell (p := ⟨w.heap.size, 4, none⟩) (.inr (Nat.le_refl _)) (.int .i64 0)).setCell (p := ⟨w.heap.size, 5, none⟩) (.inr (Nat.le_refl _)) (.int .u64 0))
  have HRF := Lib.hid ((((((HRc1.out.far (p := ⟨w.heap.size, 0, none⟩) HBW.out (.string ⟨it.toArray⟩)).far (p := ⟨w.heap.size, 1, none⟩) HBW.out (.int .i64 (a0 : Int))).far (p := ⟨w.heap.size, 2, none⟩) HBW.out (.int .i64 (a1 : Int))).far (p := ⟨w.heap.size, 3, none⟩) HBW.out (.int .i64 0)).far (p := ⟨w.heap.size, 4, none⟩) HBW.out (.int .i64 0)).far (p := ⟨w.heap.size, 5, none⟩) HBW.out (.int .u64 0))
  go_wp2_with fail
  refine bodyPost_ret (v := .tuple #[.agg #[.string ⟨it.toArray⟩, .int .i64 (a0 : Int), .int .i64 (a1 : Int), .int .i64 0, .int .i64 0, .int .u64 0], .int .i64 (c1 : Int)]) (by simp [results, Tryz.results188, go_sem, q0, q1, q2, q3, q4, q5]; try rfl) rfl ?_
  exact ⟨HKF.out, ⟨it, ⟨(a0 : Int), (a1 : Int), 0⟩, 0, 0⟩, c1, _, rfl, HRF.out, by rw [HV.out]; exact ⟨rfl, hc1⟩⟩
 subst hc1
 go_wp2_with fail
 clear vv1 ff1
 rw [rounds_succ]
 have r2 := (HPc1.out 2 _ rfl).1
 go_wp2_with fail
 go_at_call 187
 refine (hu2 _ HRc1.out (Nat.le_trans HBW.out HKc1.out.size)).mono ?_
 clear hu2 r2
 rintro e xa2 ⟨rfl, hr, hk⟩
 have HRb2 := Lib.hid hr
 have HKb2 := Lib.hid (HKc1.out.then_ hk)
 have HBb2 := Lib.hid (HBc1.out.kept hk (Nat.lt_of_succ_lt HSc1.out) HRg.out)
 have HVb2 := Lib.hid (HVc1.out.kept hk HSc1.out HVg.out)
 have HSb2 : Hid (w.heap.size + 1 < xa2.heap.size) := Lib.hid (Nat.lt_of_lt_of_le HSc1.out hk.size)
 have HPb2 := Lib.hid (HPc1.out.kept hk HTc1.out HPg.out)
 have HTb2 : Hid (P < xa2.heap.size) := Lib.hid (Nat.lt_of_lt_of_le HTc1.out hk.size)
 clear hr hk
 obtain ⟨ya2, hya2⟩ : ∃ y, xa2.setCell ⟨w.heap.size + 1, 3, none⟩ (.int .i64 (a2 : Int)) = y := ⟨_, rfl⟩
 have HRc2 := HRb2.out.far (p := ⟨w.heap.size + 1, 3, none⟩) (Nat.le_trans HBW.out (Nat.le_succ _)) (.int .i64 (a2 : Int))
 have HKc2 := HKb2.out.setCell (p := ⟨w.heap.size + 1, 3, none⟩) (.inr (Nat.le_succ _)) (.int .i64 (a2 : Int))
 have HBc2 := HBb2.out.other (p := ⟨w.heap.size + 1, 3, none⟩) (by simp) (.int .i64 (a2 : Int))
 have HVc2 := HVb2.out.set 3 (.int .i64 (a2 : Int))
 have HSc2 : w.heap.size + 1 < (xa2.setCell ⟨w.heap.size + 1, 3, none⟩ (.int .i64 (a2 : Int))).heap.size := by simpa [World.setCell] using HSb2.out
 have HPc2 := HPb2.out.other (p := ⟨w.heap.size + 1, 3, none⟩) HPV.out (.int .i64 (a2 : Int))
 have HTc2 : P < (xa2.setCell ⟨w.heap.size + 1, 3, none⟩ (.int .i64 (a2 : Int))).heap.size := by simpa [World.setCell] using HTb2.out
 rw [hya2] at HRc2 HKc2 HBc2 HVc2 HSc2 HPc2 HTc2
 replace HRc2 := Lib.hid HRc2
 replace HKc2 := Lib.hid HKc2
 replace HBc2 := Lib.hid HBc2
 replace HVc2 := Lib.hid HVc2
 replace HSc2 := Lib.hid HSc2
 replace HPc2 := Lib.hid HPc2
 replace HTc2 := Lib.hid HTc2
 obtain ⟨vv2, ff2⟩ := HVb2.out 3 _ rfl
 by_cases hc2 : c2 = 0
 case neg =>
  have hne : ((c2 : Int) != 0) = true := bne_iff_ne.2 (by omega)
  have HV : Hid (entR bs i = .error c2) := Lib.hid (by rw [HE1.out, if_neg (by simp), if_neg (by simp), if_pos hc2])
  obtain ⟨v0, _⟩ := HVc2.out 0 _ rfl
  obtain ⟨rr0, rf0⟩ := HBc2.out 0 _ rfl
  obtain ⟨v1, _⟩ := HVc2.out 1 _ rfl
  obtain ⟨rr1, rf1⟩ := HBc2.out 1 _ rfl
  obtain ⟨v2, _⟩ := HVc2.out 2 _ rfl
  obtain ⟨rr2, rf2⟩ := HBc2.out 2 _ rfl
  obtain ⟨v3, _⟩ := HVc2.out 3 _ rfl
  obtain ⟨rr3, rf3⟩ := HBc2.out 3 _ rfl
  obtain ⟨v4, _⟩ := HVc2.out 4 _ rfl
  obtain ⟨rr4, rf4⟩ := HBc2.out 4 _ rfl
  obtain ⟨v5, _⟩ := HVc2.out 5 _ rfl
  obtain ⟨rr5, rf5⟩ := HBc2.out 5 _ rfl
  have HQ := Lib.hid ((((((HBc2.out.set 0 (.string ⟨it.toArray⟩)).set 1 (.int .i64 (a0 : Int))).set 2 (.int .i64 (a1 : Int))).set 3 (.int .i64 (a2 : Int))).set 4 (.int .i64 0)).set 5 (.int .u64 0))
  have q0 := (HQ.out 0 _ rfl).1
  have q1 := (HQ.out 1 _ rfl).1
  have q2 := (HQ.out 2 _ rfl).1
  have q3 := (HQ.out 3 _ rfl).1
  have q4 := (HQ.out 4 _ rfl).1
  have q5 := (HQ.out 5 _ rfl).1
  have HKF := Lib.hid ((((((HKc2.out.setCell (p := ⟨w.heap.size, 0, none⟩) (.inr (Nat.le_refl _)) (.string ⟨it.toArray⟩)).setCell (p := ⟨w.heap.size, 1, none⟩) (.inr (Nat.le_refl _)) (.int .i64 (a0 : Int))).setCell (p := ⟨w.heap.size, 2, none⟩) (.inr (Nat.le_refl _)) (.int .i64 (a1 : Int))).setCell (p := ⟨w.heap.size, 3, none⟩) (.inr (Nat.le_refl _)) (.int .i64 (a2 : Int))).setCell (p := ⟨w.heap.size, 4, none⟩) (.inr (Nat.le_refl _)) (.int .i64 0)).setCell (p := ⟨w.heap.size, 5, none⟩) (.inr (Nat.le_refl _)) (.int .u64 0))
  have HRF := Lib.hid ((((((HRc2.out.far (p := ⟨w.heap.size, 0, none⟩) HBW.out (.string ⟨it.toArray⟩)).far (p := ⟨w.heap.size, 1, none⟩) HBW.out (.int .i64 (a0 : Int))).far (p := ⟨w.heap.size, 2, none⟩) HBW.out (.int .i64 (a1 : Int))).far (p := ⟨w.heap.size, 3, none⟩) HBW.out (.int .i64 (a2 : Int))).far (p := ⟨w.heap.size, 4, none⟩) HBW.out (.int .i64 0)).far (p := ⟨w.heap.size, 5, none⟩) HBW.out (.int .u64 0))
  go_wp2_with fail
  refine bodyPost_ret (v := .tuple #[.agg #[.string ⟨it.toArray⟩, .int .i64 (a0 : Int), .int .i64 (a1 : Int), .int .i64 (a2 : Int), .int .i64 0, .int .u64 0], .int .i64 (c2 : Int)]) (by simp [results, Tryz.results188, go_sem, q0, q1, q2, q3, q4, q5]; try rfl) rfl ?_
  exact ⟨HKF.out, ⟨it, ⟨(a0 : Int), (a1 : Int), (a2 : Int)⟩, 0, 0⟩, c2, _, rfl, HRF.out, by rw [HV.out]; exact ⟨rfl, hc2⟩⟩
 subst hc2
 go_wp2_with fail
 clear vv2 ff2
 rw [rounds_succ]
 have r3 := (HPc2.out 3 _ rfl).1
 go_wp2_with fail
 go_at_call 187
 refine (hu3 _ HRc2.out (Nat.le_trans HBW.out HKc2.out.size)).mono ?_
 clear hu3 r3
 rintro e xa3 ⟨rfl, hr, hk⟩
 have HRb3 := Lib.hid hr
 have HKb3 := Lib.hid (HKc2.out.then_ hk)
 have HBb3 := Lib.hid (HBc2.out.kept hk (Nat.lt_of_succ_lt HSc2.out) HRg.out)
 have HVb3 := Lib.hid (HVc2.out.kept hk HSc2.out HVg.out)
 have HSb3 : Hid (w.heap.size + 1 < xa3.heap.size) := Lib.hid (Nat.lt_of_lt_of_le HSc2.out hk.size)
 have HPb3 := Lib.hid (HPc2.out.kept hk HTc2.out HPg.out)
 have HTb3 : Hid (P < xa3.heap.size) := Lib.hid (Nat.lt_of_lt_of_le HTc2.out hk.size)
 clear hr hk
 obtain ⟨ya3, hya3⟩ : ∃ y, xa3.setCell ⟨w.heap.size + 1, 4, none⟩ (.int .i64 (a3 : Int)) = y := ⟨_, rfl⟩
 have HRc3 := HRb3.out.far (p := ⟨w.heap.size + 1, 4, none⟩) (Nat.le_trans HBW.out (Nat.le_succ _)) (.int .i64 (a3 : Int))
 have HKc3 := HKb3.out.setCell (p := ⟨w.heap.size + 1, 4, none⟩) (.inr (Nat.le_succ _)) (.int .i64 (a3 : Int))
 have HBc3 := HBb3.out.other (p := ⟨w.heap.size + 1, 4, none⟩) (by simp) (.int .i64 (a3 : Int))
 have HVc3 := HVb3.out.set 4 (.int .i64 (a3 : Int))
 have HSc3 : w.heap.size + 1 < (xa3.setCell ⟨w.heap.size + 1, 4, none⟩ (.int .i64 (a3 : Int))).heap.size := by simpa [World.setCell] using HSb3.out
 have HPc3 := HPb3.out.other (p := ⟨w.heap.size + 1, 4, none⟩) HPV.out (.int .i64 (a3 : Int))
 have HTc3 : P < (xa3.setCell ⟨w.heap.size + 1, 4, none⟩ (.int .i64 (a3 : Int))).heap.size := by simpa [World.setCell] using HTb3.out
 rw [hya3] at HRc3 HKc3 HBc3 HVc3 HSc3 HPc3 HTc3
 replace HRc3 := Lib.hid HRc3
 replace HKc3 := Lib.hid HKc3
 replace HBc3 := Lib.hid HBc3
 replace HVc3 := Lib.hid HVc3
 replace HSc3 := Lib.hid HSc3
 replace HPc3 := Lib.hid HPc3
 replace HTc3 := Lib.hid HTc3
 obtain ⟨vv3, ff3⟩ := HVb3.out 4 _ rfl
 by_cases hc3 : c3 = 0
 case neg =>
  have hne : ((c3 : Int) != 0) = true := bne_iff_ne.2 (by omega)
  have HV : Hid (entR bs i = .error c3) := Lib.hid (by rw [HE1.out, if_neg (by simp), if_neg (by simp), if_neg (by simp), if_pos hc3])
  obtain ⟨v0, _⟩ := HVc3.out 0 _ rfl
  obtain ⟨rr0, rf0⟩ := HBc3.out 0 _ rfl
  obtain ⟨v1, _⟩ := HVc3.out 1 _ rfl
  obtain ⟨rr1, rf1⟩ := HBc3.out 1 _ rfl
  obtain ⟨v2, _⟩ := HVc3.out 2 _ rfl
  obtain ⟨rr2, rf2⟩ := HBc3.out 2 _ rfl
  obtain ⟨v3, _⟩ := HVc3.out 3 _ rfl
  obtain ⟨rr3, rf3⟩ := HBc3.out 3 _ rfl
  obtain ⟨v4, _⟩ := HVc3.out 4 _ rfl
  obtain ⟨rr4, rf4⟩ := HBc3.out 4 _ rfl
  obtain ⟨v5, _⟩ := HVc3.out 5 _ rfl
  obtain ⟨rr5, rf5⟩ := HBc3.out 5 _ rfl
  have HQ := Lib.hid ((((((HBc3.out.set 0 (.string ⟨it.toArray⟩)).set 1 (.int .i64 (a0 : Int))).set 2 (.int .i64 (a1 : Int))).set 3 (.int .i64 (a2 : Int))).set 4 (.int .i64 (a3 : Int))).set 5 (.int .u64 0))
  have q0 := (HQ.out 0 _ rfl).1
  have q1 := (HQ.out 1 _ rfl).1
  have q2 := (HQ.out 2 _ rfl).1
  have q3 := (HQ.out 3 _ rfl).1
  have q4 := (HQ.out 4 _ rfl).1
  have q5 := (HQ.out 5 _ rfl).1
  have HKF := Lib.hid ((((((HKc3.out.setCell (p := ⟨w.heap.size, 0, none⟩) (.inr (Nat.le_refl _)) (.string ⟨it.toArray⟩)).setCell (p := ⟨w.heap.size, 1, none⟩) (.inr (Nat.le_refl _)) (.int .i64 (a0 : Int))).setCell (p := ⟨w.heap.size, 2, none⟩) (.inr (Nat.le_refl _)) (.int .i64 (a1 : Int))).setCell (p := ⟨w.heap.size, 3, none⟩) (.inr (Nat.le_refl _)) (.int .i64 (a2 : Int))).setCell (p := ⟨w.heap.size, 4, none⟩) (.inr (Nat.le_refl _)) (.int .i64 (a3 : Int))).setCell (p := ⟨w.heap.size, 5, none⟩) (.inr (Nat.le_refl _)) (.int .u64 0))
  have HRF := Lib.hid ((((((HRc3.out.far (p := ⟨w.heap.size, 0, none⟩) HBW.out (.string ⟨it.toArray⟩)).far (p := ⟨w.heap.size, 1, none⟩) HBW.out (.int .i64 (a0 : Int))).far (p := ⟨w.heap.size, 2, none⟩) HBW.out (.int .i64 (a1 : Int))).far (p := ⟨w.heap.size, 3, none⟩) HBW.out (.int .i64 (a2 : Int))).far (p := ⟨w.heap.size, 4, none⟩) HBW.out (.int .i64 (a3 : Int))).far (p := ⟨w.heap.size, 5, none⟩) HBW.out (.int .u64 0))
  go_wp2_with fail
  refine bodyPost_ret (v := .tuple #[.agg #[.string ⟨it.toArray⟩, .int .i64 (a0 : Int), .int .i64 (a1 : Int), .int .i64 (a2 : Int), .int .i64 (a3 : Int), .int .u64 0], .int .i64 (c3 : Int)]) (by simp [results, Tryz.results188, go_sem, q0, q1, q2, q3, q4, q5]; try rfl) rfl ?_
  exact ⟨HKF.out, ⟨it, ⟨(a0 : Int), (a1 : Int), (a2 : Int)⟩, (a3 : Int), 0⟩, c3, _, rfl, HRF.out, by rw [HV.out]; exact ⟨rfl, hc3⟩⟩
 subst hc3
 go_wp2_with fail
 clear vv3 ff3
 rw [rounds_succ]
 have HT0 : Hid (entR bs i = tailR bs (fun p => ⟨it, ⟨(a0 : Int), (a1 : Int), (a2 : Int)⟩, (a3 : Int), p⟩) 8 0 p4 0) := Lib.hid (by rw [HE1.out, if_neg (by simp), if_neg (by simp), if_neg (by simp), if_neg (by simp)])
 obtain ⟨Y, hY⟩ : ∃ Y : Nat → En, (fun p => ⟨it, ⟨(a0 : Int), (a1 : Int), (a2 : Int)⟩, (a3 : Int), p⟩) = Y := ⟨_, rfl⟩
 rw [hY] at HT0
 have HY := Lib.hid hY
 clear hY
 go_wp2_with fail
 go_loopw [48] (fun kv wr => ∃ k R pos : Nat, k ≤ 8 ∧ kv = .int .i64 (k : Int) ∧ Hid (Rdr wr B g bs pos) ∧ Hid (Kept [g] w wr) ∧ Hid (Bk wr w.heap.size [.string ⟨#[]⟩, .int .i64 0, .int .i64 0, .int .i64 0, .int .i64 0, .int .u64 0]) ∧ Hid (Bk wr (w.heap.size + 1) [.string ⟨it.toArray⟩, .int .i64 (a0 : Int), .int .i64 (a1 : Int), .int .i64 (a2 : Int), .int .i64 (a3 : Int), .int .u64 (R : Int)]) ∧ Hid (w.heap.size + 1 < wr.heap.size) ∧ Hid (R < 256 ^ k) ∧ Hid (entR bs i = tailR bs Y (8 - k) k pos R)) (fun kv _ => 8 - (intOf kv).toNat)
 case atStart => exact ⟨0, 0, p4, by omega, rfl, HRc3, HKc3, HBc3, HVc3, HSc3, Lib.hid (by decide), HT0⟩
 case round =>
  obtain ⟨k, R, pos, hk8, rfl, HRr, HKr, HBr, HVr, HSr, HRB, HT⟩ := hrel
  clear HRc3 HKc3 HBc3 HVc3 HSc3 HT0
  by_cases hlt8 : k < 8
  ·have hlt : (k : Int) < 8 := by omega
   have HT2 : Hid (entR bs i = tailR bs Y ((7 - k) + 1) k pos R) := Lib.hid (by rw [show (7 - k) + 1 = 8 - k by omega]; exact HT.out)
   obtain ⟨⟨b, d, s⟩, hW⟩ : ∃ x, byteAt bs pos = x := ⟨_, rfl⟩
   have hb := fun w h hB => byte_any B g bs pos w h hB
   unfold RetR at hb
   rw [hW] at hb
   dsimp only at hb
   have hltb : b < 256 := by have := byteAt_lt HLT.out pos; rw [hW] at this; exact this
   have HW := Lib.hid hW
   clear hW HT
   go_wp2_with fail
   go_at_call 229
   refine (hb _ HRr.out (Nat.le_trans HBW.out HKr.out.size)).mono ?_
   clear hb
   rintro e xb ⟨rfl, hr, hk⟩
   have HRe := Lib.hid hr
   have HKe := Lib.hid (HKr.out.then_ hk)
   have HBe := Lib.hid (HBr.out.kept hk (Nat.lt_of_succ_lt HSr.out) HRg.out)
   have HVe := Lib.hid (HVr.out.kept hk HSr.out HVg.out)
   have HSe : Hid (w.heap.size + 1 < xb.heap.size) := Lib.hid (Nat.lt_of_lt_of_le HSr.out hk.size)
   clear hr hk
   by_cases hd : d = 0
   case neg =>
    have hne : ((d : Int) != 0) = true := bne_iff_ne.2 (by omega)
    have HV : Hid (entR bs i = .error d) := Lib.hid (by rw [HT2.out]; exact tail_err (by rw [HW.out]) hd)
    obtain ⟨v0, _⟩ := HVe.out 0 _ rfl
    obtain ⟨rr0, rf0⟩ := HBe.out 0 _ rfl
    obtain ⟨v1, _⟩ := HVe.out 1 _ rfl
    obtain ⟨rr1, rf1⟩ := HBe.out 1 _ rfl
    obtain ⟨v2, _⟩ := HVe.out 2 _ rfl
    obtain ⟨rr2, rf2⟩ := HBe.out 2 _ rfl
    obtain ⟨v3, _⟩ := HVe.out 3 _ rfl
    obtain ⟨rr3, rf3⟩ := HBe.out 3 _ rfl
    obtain ⟨v4, _⟩ := HVe.out 4 _ rfl
    obtain ⟨rr4, rf4⟩ := HBe.out 4 _ rfl
    obtain ⟨v5, _⟩ := HVe.out 5 _ rfl
    obtain ⟨rr5, rf5⟩ := HBe.out 5 _ rfl
    have HQ := Lib.hid ((((((HBe.out.set 0 (.string ⟨it.toArray⟩)).set 1 (.int .i64 (a0 : Int))).set 2 (.int .i64 (a1 : Int))).set 3 (.int .i64 (a2 : Int))).set 4 (.int .i64 (a3 : Int))).set 5 (.int .u64 (R : Int)))
    have q0 := (HQ.out 0 _ rfl).1
    have q1 := (HQ.out 1 _ rfl).1
    have q2 := (HQ.out 2 _ rfl).1
    have q3 := (HQ.out 3 _ rfl).1
    have q4 := (HQ.out 4 _ rfl).1
    have q5 := (HQ.out 5 _ rfl).1
    have HKF := Lib.hid ((((((HKe.out.setCell (p := ⟨w.heap.size, 0, none⟩) (.inr (Nat.le_refl _)) (.string ⟨it.toArray⟩)).setCell (p := ⟨w.heap.size, 1, none⟩) (.inr (Nat.le_refl _)) (.int .i64 (a0 : Int))).setCell (p := ⟨w.heap.size, 2, none⟩) (.inr (Nat.le_refl _)) (.int .i64 (a1 : Int))).setCell (p := ⟨w.heap.size, 3, none⟩) (.inr (Nat.le_refl _)) (.int .i64 (a2 : Int))).setCell (p := ⟨w.heap.size, 4, none⟩) (.inr (Nat.le_refl _)) (.int .i64 (a3 : Int))).setCell (p := ⟨w.heap.size, 5, none⟩) (.inr (Nat.le_refl _)) (.int .u64 (R : Int)))
    have HRF := Lib.hid ((((((HRe.out.far (p := ⟨w.heap.size, 0, none⟩) HBW.out (.string ⟨it.toArray⟩)).far (p := ⟨w.heap.size, 1, none⟩) HBW.out (.int .i64 (a0 : Int))).far (p := ⟨w.heap.size, 2, none⟩) HBW.out (.int .i64 (a1 : Int))).far (p := ⟨w.heap.size, 3, none⟩) HBW.out (.int .i64 (a2 : Int))).far (p := ⟨w.heap.size, 4, none⟩) HBW.out (.int .i64 (a3 : Int))).far (p := ⟨w.heap.size, 5, none⟩) HBW.out (.int .u64 (R : Int)))
    go_wp2_with fail
    refine bodyPost_ret (v := .tuple #[.agg #[.string ⟨it.toArray⟩, .int .i64 (a0 : Int), .int .i64 (a1 : Int), .int .i64 (a2 : Int), .int .i64 (a3 : Int), .int .u64 (R : Int)], .int .i64 (d : Int)]) (by simp [results, Tryz.results188, go_sem, q0, q1, q2, q3, q4, q5]; try rfl) rfl ?_
    exact ⟨HKF.out, ⟨it, ⟨(a0 : Int), (a1 : Int), (a2 : Int)⟩, (a3 : Int), R⟩, d, _, rfl, HRF.out, by rw [HV.out]; exact ⟨rfl, hd⟩⟩
   subst hd
   have HT3 := Lib.hid (HT2.out.trans (tail_ok HW.out))
   obtain ⟨q, hq⟩ : ∃ q, R + b * 256 ^ k = q := ⟨_, rfl⟩
   rw [hq] at HT3
   have HQ : Hid (q < 256 ^ (k + 1)) := Lib.hid (by
    have h1 := HRB.out
    have h2 : b * 256 ^ k ≤ 255 * 256 ^ k := Nat.mul_le_mul_right _ (by omega)
    rw [Nat.pow_succ]; omega)
   have hk64 : 256 ^ k ≤ 256 ^ 7 := Nat.pow_le_pow_right (by omega) (by omega)
   have hbk : b * 256 ^ k ≤ 255 * 256 ^ 7 := Nat.mul_le_mul (by omega) hk64
   have e2 : (256 : Nat) ^ k = 2 ^ (8 * k) := by rw [Nat.pow_mul]
   have hor : bits .or .u64 (R : Int) ((b : Int) * 256 ^ k) = (q : Int) := by
    have h := or_u64 R b (256 ^ k) (8 * k) e2 HRB.out hltb (by have := hk64; omega)
    rw [hq] at h
    rw [← h]; norm_cast
   have hsh : IntKind.u64.wrap ((b : Int) * 2 ^ (8 * k)) = ((b * 256 ^ k : Nat) : Int) := by
    rw [show ((b : Int) * 2 ^ (8 * k)) = ((b * 256 ^ k : Nat) : Int) by rw [e2]; norm_cast, IntKind.wrap_u64]
    have : ((b * 256 ^ k : Nat) : Int) ≤ ((255 * 256 ^ 7 : Nat) : Int) := Int.ofNat_le.2 hbk
    omega
   have hkk : ((8 * (k : Int)).toNat) = 8 * k := by omega
   clear hk64 hbk e2 hq
   go_upto_region 19 with fail
   obtain ⟨w5v, w5f⟩ := HVe.out 5 _ rfl
   have hcv : IntKind.u64.wrap (b : Int) = (b : Int) := by rw [IntKind.wrap_u64]; omega
   have w5r : (⟨xb.heap, xb.tape, xb.drawn + 1, xb.os, xb.output⟩ : World).cell? ⟨w.heap.size + 1, 5, none⟩ = some (.int .u64 (R : Int)) := w5v
   have hwk : IntKind.i64.wrap (8 * (k : Int)) = 8 * (k : Int) := IntWalk.i64_in _ (by omega)
   go_still_tail 8, (by kernel_rfl)
   clear w5r hwk
   change wpList _ _ _ _ _ xb.drew
   obtain ⟨xd, hxd⟩ : ∃ y, xb.drew = y := ⟨_, rfl⟩
   have HRg : Hid (Rdr xd B g bs s) := Lib.hid (by rw [← hxd]; exact HRe.out.drewN 1)
   have HKg : Hid (Kept [g] w xd) := Lib.hid (by rw [← hxd]; exact HKe.out.drew)
   have HBg : Hid (Bk xd w.heap.size [.string ⟨#[]⟩, .int .i64 0, .int .i64 0, .int .i64 0, .int .i64 0, .int .u64 0]) := Lib.hid (by rw [← hxd]; exact HBe.out)
   have HVg : Hid (Bk xd (w.heap.size + 1) [.string ⟨it.toArray⟩, .int .i64 (a0 : Int), .int .i64 (a1 : Int), .int .i64 (a2 : Int), .int .i64 (a3 : Int), .int .u64 (R : Int)]) := Lib.hid (by rw [← hxd]; exact HVe.out)
   have HSg : Hid (w.heap.size + 1 < xd.heap.size) := Lib.hid (by rw [← hxd]; exact HSe.out)
   rw [hxd]
   clear hxd w5v w5f
   obtain ⟨w5v, w5f⟩ := HVg.out 5 _ rfl
   obtain ⟨yb, hyb⟩ : ∃ y, xd.setCell ⟨w.heap.size + 1, 5, none⟩ (.int .u64 (q : Int)) = y := ⟨_, rfl⟩
   have HRf := HRg.out.far (p := ⟨w.heap.size + 1, 5, none⟩) (Nat.le_trans HBW.out (Nat.le_succ _)) (.int .u64 (q : Int))
   have HKf := HKg.out.setCell (p := ⟨w.heap.size + 1, 5, none⟩) (.inr (Nat.le_succ _)) (.int .u64 (q : Int))
   have HBf := HBg.out.other (p := ⟨w.heap.size + 1, 5, none⟩) (by simp) (.int .u64 (q : Int))
   have HVf := HVg.out.set 5 (.int .u64 (q : Int))
   have HSf : w.heap.size + 1 < (xd.setCell ⟨w.heap.size + 1, 5, none⟩ (.int .u64 (q : Int))).heap.size := by simpa [World.setCell] using HSg.out
   rw [hyb] at HRf HKf HBf HVf HSf
   replace HRf := Lib.hid HRf
   replace HKf := Lib.hid HKf
   replace HBf := Lib.hid HBf
   replace HVf := Lib.hid HVf
   replace HSf := Lib.hid HSf
   go_wp2_with fail
   exact ⟨⟨k + 1, q, s, by omega, by go_num, HRf, HKf, HBf, HVf, HSf, HQ, Lib.hid (by rw [show 8 - (k + 1) = 7 - k by omega]; exact HT3.out)⟩, by simp [intOf]; omega⟩
  ·obtain rfl : k = 8 := by omega
   have hn8 : ¬ ((8 : Nat) : Int) < 8 := by omega
   have HV : Hid (entR bs i = .ok (⟨it, ⟨(a0 : Int), (a1 : Int), (a2 : Int)⟩, (a3 : Int), R⟩, pos)) := Lib.hid (by rw [HT.out, ← HY.out]; rfl)
   obtain ⟨v0, _⟩ := HVr.out 0 _ rfl
   obtain ⟨rr0, rf0⟩ := HBr.out 0 _ rfl
   obtain ⟨v1, _⟩ := HVr.out 1 _ rfl
   obtain ⟨rr1, rf1⟩ := HBr.out 1 _ rfl
   obtain ⟨v2, _⟩ := HVr.out 2 _ rfl
   obtain ⟨rr2, rf2⟩ := HBr.out 2 _ rfl
   obtain ⟨v3, _⟩ := HVr.out 3 _ rfl
   obtain ⟨rr3, rf3⟩ := HBr.out 3 _ rfl
   obtain ⟨v4, _⟩ := HVr.out 4 _ rfl
   obtain ⟨rr4, rf4⟩ := HBr.out 4 _ rfl
   obtain ⟨v5, _⟩ := HVr.out 5 _ rfl
   obtain ⟨rr5, rf5⟩ := HBr.out 5 _ rfl
   have HQ := Lib.hid ((((((HBr.out.set 0 (.string ⟨it.toArray⟩)).set 1 (.int .i64 (a0 : Int))).set 2 (.int .i64 (a1 : Int))).set 3 (.int .i64 (a2 : Int))).set 4 (.int .i64 (a3 : Int))).set 5 (.int .u64 (R : Int)))
   have q0 := (HQ.out 0 _ rfl).1
   have q1 := (HQ.out 1 _ rfl).1
   have q2 := (HQ.out 2 _ rfl).1
   have q3 := (HQ.out 3 _ rfl).1
   have q4 := (HQ.out 4 _ rfl).1
   have q5 := (HQ.out 5 _ rfl).1
   have HKF := Lib.hid ((((((HKr.out.setCell (p := ⟨w.heap.size, 0, none⟩) (.inr (Nat.le_refl _)) (.string ⟨it.toArray⟩)).setCell (p := ⟨w.heap.size, 1, none⟩) (.inr (Nat.le_refl _)) (.int .i64 (a0 : Int))).setCell (p := ⟨w.heap.size, 2, none⟩) (.inr (Nat.le_refl _)) (.int .i64 (a1 : Int))).setCell (p := ⟨w.heap.size, 3, none⟩) (.inr (Nat.le_refl _)) (.int .i64 (a2 : Int))).setCell (p := ⟨w.heap.size, 4, none⟩) (.inr (Nat.le_refl _)) (.int .i64 (a3 : Int))).setCell (p := ⟨w.heap.size, 5, none⟩) (.inr (Nat.le_refl _)) (.int .u64 (R : Int)))
   have HRF := Lib.hid ((((((HRr.out.far (p := ⟨w.heap.size, 0, none⟩) HBW.out (.string ⟨it.toArray⟩)).far (p := ⟨w.heap.size, 1, none⟩) HBW.out (.int .i64 (a0 : Int))).far (p := ⟨w.heap.size, 2, none⟩) HBW.out (.int .i64 (a1 : Int))).far (p := ⟨w.heap.size, 3, none⟩) HBW.out (.int .i64 (a2 : Int))).far (p := ⟨w.heap.size, 4, none⟩) HBW.out (.int .i64 (a3 : Int))).far (p := ⟨w.heap.size, 5, none⟩) HBW.out (.int .u64 (R : Int)))
   go_wp2_with fail
   refine bodyPost_ret (v := .tuple #[.agg #[.string ⟨it.toArray⟩, .int .i64 (a0 : Int), .int .i64 (a1 : Int), .int .i64 (a2 : Int), .int .i64 (a3 : Int), .int .u64 (R : Int)], .int .i64 0]) (by simp [results, Tryz.results188, go_sem, q0, q1, q2, q3, q4, q5]; try rfl) rfl ?_
   exact ⟨HKF.out, ⟨it, ⟨(a0 : Int), (a1 : Int), (a2 : Int)⟩, (a3 : Int), R⟩, 0, pos, rfl, HRF.out, by rw [HV.out]; exact ⟨rfl, rfl, rfl⟩⟩
end Go.Proofs.YtpdedfpacklnoaaGreatDoor
