/- Contract of ormap.Decode: decodeL; premises: ormap.item's and ormap.many's. Contract of token.Read: tokenR; premises: ormap.item's and ormap.many's. -/
import Derived.Test.YtpdedfpacklnoaaGreatDoorTkTkM
import Derived.Test.YtpdedfpacklnoaaGreatDoorTkTkO
import Derived.Test.YtpdedfpacklnoaaGreatDoorTkTkR
import Derived.Test.YtpdedfpacklnoaaGreatDoorTkMR
import Derived.Test.YtpdedfpacklnoaaGreatDoorTkTkN
import Derived.Test.YtpdedfpacklnoaaGreatDoorTkMW
set_option maxRecDepth 100000
namespace Go.Proofs.YtpdedfpacklnoaaGreatDoor
open Go.RowKit Go.BL Go.Ct Go.Sl Go.Wr W

theorem bytesR_lt {bs : List Nat} (h : ∀ x ∈ bs, x < 256) : ∀ (k s i p q j : Nat), bytesR bs k s i p = .ok (q, j) → p < 256 ^ s → q < 256 ^ (s + k)
 | 0, s, i, p, q, j, e, hp => by unfold bytesR at e; cases e; exact hp
 | k + 1, s, i, p, q, j, e, hp => by
  unfold bytesR at e
  split at e
  ·cases e
  ·have hb := byteAt_lt h i
   have := bytesR_lt h k (s + 1) _ _ q j e (by rw [Nat.pow_succ]; have : (byteAt bs i).1 * 256 ^ s ≤ 255 * 256 ^ s := Nat.mul_le_mul_right _ (by omega); omega)
   rwa [show s + 1 + k = s + (k + 1) by omega] at this
theorem text_len {bs : List Nat} {i : Nat} : (textAt bs i 32).1.length ≤ 32 := by
 unfold textAt
 split
 ·simp
 ·split
  ·simp
  ·split
   ·simp
   ·rename_i h _
    simp only [List.length_take]
    omega
theorem ent_fine {bs : List Nat} (h : ∀ x ∈ bs, x < 256) {i j : Nat} {e : En} (he : entR bs i = .ok (e, j)) : e.it.length ≤ 32 ∧ e.p < 18446744073709551616 := by
 unfold entR at he
 split at he
 ·cases he
 ·unfold entT at he
  split at he
  ·cases he
  ·split at he
   ·cases he
   ·split at he
    ·cases he
    ·rename_i p k hp
     have hlt := bytesR_lt h 8 0 _ 0 p k hp (by decide)
     cases he
     exact ⟨by dsimp only; rw [List.length_map]; exact text_len, hlt⟩
theorem ents_fine {bs : List Nat} (h : ∀ x ∈ bs, x < 256) : ∀ (k i j : Nat) (a l : List En), entsR bs k i a = .ok (l, j) → (∀ e ∈ a, e.it.length ≤ 32 ∧ e.p < 18446744073709551616) → (∀ e ∈ l, e.it.length ≤ 32 ∧ e.p < 18446744073709551616) ∧ l.length = a.length + k
 | 0, i, j, a, l, e, ha => by unfold entsR at e; cases e; exact ⟨ha, rfl⟩
 | k + 1, i, j, a, l, e, ha => by
  unfold entsR at e
  split at e
  ·cases e
  ·rename_i d j' hd
   have := ents_fine h k j' j (a ++ [d]) l e (fun x hx => by
    rcases List.mem_append.1 hx with hx | hx
    ·exact ha x hx
    ·rw [List.mem_singleton.1 hx]; exact ent_fine h hd)
   refine ⟨this.1, by rw [this.2, List.length_append]; simp; omega⟩
theorem ents_err {bs : List Nat} {k i c : Nat} {l : List En} (h : entR bs i = .error c) : entsR bs (k + 1) i l = .error c := by unfold entsR; rw [h]
theorem ents_ok {bs : List Nat} {k i j : Nat} {d : En} {l : List En} (h : entR bs i = .ok (d, j)) : entsR bs (k + 1) i l = entsR bs k j (l ++ [d]) := by conv => lhs; unfold entsR; rw [h]
theorem info92 : (Tryz.prog.info? 92).map (fun i => (i.zero, i.size, i.bytes)) = some (some (.agg #[.string ⟨#[]⟩, .int .i64 0, .int .i64 0, .int .i64 0, .int .i64 0, .int .u64 0]), 6, 56) := by kernel_rfl
def DecR (r : Except Nat Ct) (w : World) (e : Ending) (w' : World) : Prop := Below w.heap.size w w' ∧
 match r with
 | .ok c => ∃ v, e = .returned (.tuple #[v, .int .i64 0]) ∧ CartO w' w.heap.size v c
 | .error _ => ∃ k : Nat, k ≠ 0 ∧ e = .returned (.tuple #[.agg #[.slice none 0 0, .slice none 0 0, .slice none 0 0], .int .i64 (k : Int)])
theorem _root_.Go.Sl.OwnS.cap {α : Type} {t k : Nat} {f : α → List Value} {w : World} {B : Nat} {v : Value} {l : List α} (h : OwnS t k f w B v l) : ∀ A n c, v = .slice A n c → n ≤ c := by
 intro A n c e
 rcases h.2 with ⟨hv, _⟩ | ⟨g, cap, cur, hv, _, _, h1, _⟩
 ·rw [hv] at e; injection e with _ e2 e3; omega
 ·rw [hv] at e; injection e with _ e2 e3; omega
theorem _root_.Go.Sl.OwnS.setCell2 {α : Type} {t k : Nat} {f : α → List Value} {w : World} {B X : Nat} {v : Value} {l : List α} (h : OwnS t k f w B v l) (hX : X < B) (a b : Value) : OwnS t k f ((w.setCell ⟨X, 1, none⟩ a).setCell ⟨X, 2, none⟩ b) B v l := (h.setCell (p := ⟨X, 1, none⟩) hX a).setCell (p := ⟨X, 2, none⟩) hX b
theorem ctx_can {bs : List Nat} {i j : Nat} {x : Cx} (h : ctxR bs i = .ok (x, j)) : canX x = true := by
 unfold ctxR at h
 split at h
 ·cases h
 ·split at h
  ·cases h
  ·split at h
   ·cases h
   ·rename_i h2
    cases h
    simpa using h2
theorem canX_len {x : Cx} (h : canX x = true) : x.ms.length ≤ 64 ∧ x.cl.length ≤ 64 := ⟨(canX_iff.1 h).1, (canX_iff.1 h).2.1⟩
set_option maxHeartbeats 16000000 in
theorem decode_any (hI : ItemC) (hMy : ManyC) (A : Option Addr) (m cap : Nat) (bs : List Nat) (w : World) (hr : Rd w A m bs) (hm : m ≤ 140737488355000) : Calls Tryz.prog 136 #[.slice A m cap] w (DecR (decodeL bs) w) := by
 obtain ⟨w0, hw0⟩ : ∃ y, w.alloc (.cells #[.slice none 0 0, .slice none 0 0, .slice none 0 0] 32) = y := ⟨_, rfl⟩
 have HBW : Hid (Below w.heap.size w w0) := Lib.hid (by rw [← hw0]; exact (Below.refl _ _).alloc (Nat.le_refl _) _)
 have HB0 : Hid (Bk w0 w.heap.size [.slice none 0 0, .slice none 0 0, .slice none 0 0]) := Lib.hid (by rw [← hw0]; exact Bk.new w _ 32 rfl)
 have HS0 : Hid (w.heap.size < w0.heap.size) := Lib.hid (by rw [← hw0]; simp)
 have hov := over_rdr A m cap bs w0 (by rw [← hw0]; exact hr.alloc _) hm
 have HLT : Hid (∀ x ∈ bs, x < 256) := Lib.hid hr.2.2.1
 clear hr hm
 go_enter Tryz.func136, Tryz.ntmps136
 go_wp2_with fail
 clear hw0
 go_at_call 180
 refine hov.mono ?_
 clear hov
 rintro e w1 ⟨g, rfl, hg, hR, hb1, -⟩
 have HG := Lib.hid hg
 have HW1 := Lib.hid hb1
 have HR1 := Lib.hid hR
 have hu := uint_any w1.heap.size g bs 0 w1 hR (Nat.le_refl _)
 clear hg hR hb1
 unfold RetR at hu
 obtain ⟨⟨n, c, p⟩, hU⟩ : ∃ x, uintAt bs 0 = x := ⟨_, rfl⟩
 rw [hU] at hu
 dsimp only at hu
 have HL : Hid (decodeL bs = if c ≠ 0 then .error c else if 64 < n then .error 4 else match entsR bs n p [] with
  | .error e => .error e
  | .ok (es, j) => match ctxR bs j with
   | .error e => .error e
   | .ok (x, k) => endR bs es x k) := Lib.hid (by unfold decodeL; rw [hU]; rfl)
 clear hU
 go_wp2_with fail
 go_at_call 187
 refine hu.mono ?_
 clear hu
 rintro e w2 ⟨rfl, hr, hk⟩
 have HR2 := Lib.hid hr
 have HW2 := Lib.hid (HW1.out.trans (hk.below HW1.out.size (fun x hx => by simp at hx; subst hx; exact HG.out)))
 have HB2 := Lib.hid (HB0.out.below HW2.out HS0.out)
 have HZ12 := Lib.hid hk.size
 clear hr hk
 by_cases hc : c = 0
 case neg =>
  have hne : ((c : Int) != 0) = true := bne_iff_ne.2 (by omega)
  have HV : Hid (decodeL bs = .error c) := Lib.hid (by rw [HL.out, if_pos hc])
  obtain ⟨r0, rf0⟩ := HB2.out 0 _ rfl
  obtain ⟨r1, rf1⟩ := HB2.out 1 _ rfl
  obtain ⟨r2, rf2⟩ := HB2.out 2 _ rfl
  have HQ := Lib.hid (((HB2.out.set 0 (.slice none 0 0)).set 1 (.slice none 0 0)).set 2 (.slice none 0 0))
  have q0 := (HQ.out 0 _ rfl).1
  have q1 := (HQ.out 1 _ rfl).1
  have q2 := (HQ.out 2 _ rfl).1
  have HWF := Lib.hid ((((HBW.out.trans (HW2.out.mono (Nat.le_of_lt HS0.out))).setCell (p := ⟨w.heap.size, 0, none⟩) (Nat.le_refl _) (.slice none 0 0)).setCell (p := ⟨w.heap.size, 1, none⟩) (Nat.le_refl _) (.slice none 0 0)).setCell (p := ⟨w.heap.size, 2, none⟩) (Nat.le_refl _) (.slice none 0 0))
  go_wp2_with fail
  refine bodyPost_ret (v := .tuple #[.agg #[.slice none 0 0, .slice none 0 0, .slice none 0 0], .int .i64 (c : Int)]) (by simp [results, Tryz.results136, go_sem, q0, q1, q2]; try rfl) rfl ?_
  refine ⟨HWF.out, ?_⟩
  rw [HV.out]
  exact ⟨c, hc, rfl⟩
 subst hc
 by_cases hn : 64 < n
 case pos =>
  have hn' : (64 : Int) < (n : Int) := by omega
  have HV : Hid (decodeL bs = .error 4) := Lib.hid (by rw [HL.out, if_neg (by simp), if_pos hn])
  obtain ⟨r0, rf0⟩ := HB2.out 0 _ rfl
  obtain ⟨r1, rf1⟩ := HB2.out 1 _ rfl
  obtain ⟨r2, rf2⟩ := HB2.out 2 _ rfl
  have HQ := Lib.hid (((HB2.out.set 0 (.slice none 0 0)).set 1 (.slice none 0 0)).set 2 (.slice none 0 0))
  have q0 := (HQ.out 0 _ rfl).1
  have q1 := (HQ.out 1 _ rfl).1
  have q2 := (HQ.out 2 _ rfl).1
  have HWF := Lib.hid ((((HBW.out.trans (HW2.out.mono (Nat.le_of_lt HS0.out))).setCell (p := ⟨w.heap.size, 0, none⟩) (Nat.le_refl _) (.slice none 0 0)).setCell (p := ⟨w.heap.size, 1, none⟩) (Nat.le_refl _) (.slice none 0 0)).setCell (p := ⟨w.heap.size, 2, none⟩) (Nat.le_refl _) (.slice none 0 0))
  go_wp2_with fail
  refine bodyPost_ret (v := .tuple #[.agg #[.slice none 0 0, .slice none 0 0, .slice none 0 0], .int .i64 4]) (by simp [results, Tryz.results136, go_sem, q0, q1, q2]; try rfl) rfl ?_
  refine ⟨HWF.out, ?_⟩
  rw [HV.out]
  exact ⟨4, by decide, rfl⟩
 have hn' : ¬ (64 : Int) < (n : Int) := by omega
 have HL2 := Lib.hid ((HL.out.trans (if_neg (by simp))).trans (if_neg hn))
 obtain ⟨w3, hw3⟩ : ∃ y, w2.alloc (.cells #[.slice none 0 0, .slice none 0 0, .slice none 0 0] 32) = y := ⟨_, rfl⟩
 have HR3 : Hid (Rdr w3 w1.heap.size g bs p) := Lib.hid (by rw [← hw3]; exact HR2.out.alloc _)
 have HW3 : Hid (Below w0.heap.size w0 w3) := Lib.hid (by rw [← hw3]; exact HW2.out.alloc HW2.out.size _)
 have HX3 : Hid (Bk w3 w2.heap.size [.slice none 0 0, .slice none 0 0, .slice none 0 0]) := Lib.hid (by rw [← hw3]; exact Bk.new w2 _ 32 rfl)
 have HS3 : Hid (w2.heap.size < w3.heap.size) := Lib.hid (by rw [← hw3]; simp)
 have HXB : Hid (w1.heap.size ≤ w2.heap.size) := HZ12
 have HGX : Hid (w2.heap.size ∉ [g]) := Lib.hid (by have := HR1.out.lt; have := HXB.out; simp; omega)
 go_wp2_with fail
 clear hw3
 go_loopw [25] (fun kv wr => ∃ (k j : Nat) (acc : List En) (ev : Value), k ≤ n ∧ kv = .int .i64 (k : Int) ∧ Hid (Rdr wr w1.heap.size g bs j) ∧ Hid (Kept [g, w2.heap.size] w3 wr) ∧ Hid (Bk wr w2.heap.size [ev, .slice none 0 0, .slice none 0 0]) ∧ Hid (OwnS 92 6 entC wr w3.heap.size ev acc) ∧ Hid (acc.length = k) ∧ Hid (entsR bs (n - k) j acc = entsR bs n p [])) (fun kv _ => n - (intOf kv).toNat)
 case atStart => exact ⟨0, p, [], .slice none 0 0, by omega, rfl, HR3, Lib.hid (Kept.refl _ _), HX3, Lib.hid (OwnS.nil _ _), Lib.hid rfl, Lib.hid rfl⟩
 case round =>
  obtain ⟨k, j, acc, ev, hk, rfl, HRr, HKr, HXr, HOr, HA, HE⟩ := hrel
  have HWr := Lib.hid (HW3.out.trans (HKr.out.below HW3.out.size (fun x hx => by simp at hx; have := HG.out; have := HW2.out.size; omega)))
  have HZr := Lib.hid (show w1.heap.size ≤ wr.heap.size from Nat.le_trans HXB.out (Nat.le_trans (Nat.le_of_lt HS3.out) HKr.out.size))
  have HSr : Hid (w2.heap.size < wr.heap.size) := Lib.hid (Nat.lt_of_lt_of_le HS3.out HKr.out.size)
  obtain ⟨Ae, ce, rfl⟩ := HOr.out.form
  by_cases hlt : k < n
  ·have hnk : n - k = (n - (k + 1)) + 1 := by omega
   have HE2 := HE.out
   rw [hnk] at HE2
   have HE3 := Lib.hid HE2
   clear HE2
   have hone := one_any w1.heap.size g bs j wr HRr.out HZr.out
   unfold OneR at hone
   go_wp2_with fail
   go_at_call 188
   refine hone.mono ?_
   clear hone
   rintro e w5 ⟨hk5, ⟨xit, ⟨xn, xl, xc⟩, xq, xp⟩, c5, j5, rfl, hr5, hm5⟩
   dsimp only [entV]
   have HR5 := Lib.hid hr5
   have HW5 := Lib.hid (HWr.out.trans (hk5.below HWr.out.size (fun x hx => by simp at hx; subst hx; exact HG.out)))
   have HX5 := Lib.hid (HXr.out.kept hk5 HSr.out HGX.out)
   have HK5 := Lib.hid (HKr.out.trans hk5 (fun x hx => .inl (by simp at hx; simp [hx])))
   have HO5 := Lib.hid (HOr.out.kept hk5 (fun b hb => by have := HOr.out.block_ge b hb; have := HR1.out.lt; have := HXB.out; have := HS3.out; simp; omega))
   have HM5 := Lib.hid hm5
   clear hk5 hr5 hm5
   obtain ⟨w6, hw6⟩ : ∃ y, w5.alloc (.cells #[.string ⟨xit.toArray⟩, .int .i64 xn, .int .i64 xl, .int .i64 xc, .int .i64 xq, .int .u64 (xp : Int)] 92) = y := ⟨_, rfl⟩
   have HR6 : Hid (Rdr w6 w1.heap.size g bs j5) := Lib.hid (by rw [← hw6]; exact HR5.out.alloc _)
   have HW6 : Hid (Below w0.heap.size w0 w6) := Lib.hid (by rw [← hw6]; exact HW5.out.alloc HW5.out.size _)
   have HK6 : Hid (Kept [g, w2.heap.size] w3 w6) := Lib.hid (by rw [← hw6]; exact HK5.out.alloc _)
   have HX6 : Hid (Bk w6 w2.heap.size [.slice Ae acc.length ce, .slice none 0 0, .slice none 0 0]) := Lib.hid (by rw [← hw6]; exact HX5.out.alloc _ (Nat.lt_of_lt_of_le HS3.out HK5.out.size))
   have HO6 : Hid (OwnS 92 6 entC w6 w3.heap.size (.slice Ae acc.length ce) acc) := Lib.hid (by rw [← hw6]; exact HO5.out.below ((Below.refl w5.heap.size w5).alloc (Nat.le_refl _) _) (Nat.le_refl _))
   have HN6 : Hid (Bk w6 w5.heap.size [.string ⟨xit.toArray⟩, .int .i64 xn, .int .i64 xl, .int .i64 xc, .int .i64 xq, .int .u64 (xp : Int)]) := Lib.hid (by rw [← hw6]; exact Bk.new w5 _ 92 rfl)
   have HB6 := Lib.hid (HB0.out.below HW6.out HS0.out)
   have HW6' : Hid (Kept [g, w2.heap.size] w3 w6) := HK6
   have HW := HW6
   have HWz6 := HW6
   cases hEE : entR bs j with
   | error kk =>
    have hm5 := HM5.out
    rw [hEE] at hm5
    obtain ⟨rfl, hcc⟩ := hm5
    have hne : ((c5 : Int) != 0) = true := bne_iff_ne.2 (by omega)
    have HV : Hid (decodeL bs = .error c5) := Lib.hid (by rw [HL2.out, ← HE3.out, ents_err hEE])
    have HNE := Lib.hid hcc
    clear hEE hcc
    go_upto_region 12 with fail
    clear hw6
    obtain ⟨r0, rf0⟩ := HB6.out 0 _ rfl
    obtain ⟨r1, rf1⟩ := HB6.out 1 _ rfl
    obtain ⟨r2, rf2⟩ := HB6.out 2 _ rfl
    have HQ := Lib.hid (((HB6.out.set 0 (.slice none 0 0)).set 1 (.slice none 0 0)).set 2 (.slice none 0 0))
    have q0 := (HQ.out 0 _ rfl).1
    have q1 := (HQ.out 1 _ rfl).1
    have q2 := (HQ.out 2 _ rfl).1
    have HWF := Lib.hid ((((HBW.out.trans (HW6.out.mono (Nat.le_of_lt HS0.out))).setCell (p := ⟨w.heap.size, 0, none⟩) (Nat.le_refl _) (.slice none 0 0)).setCell (p := ⟨w.heap.size, 1, none⟩) (Nat.le_refl _) (.slice none 0 0)).setCell (p := ⟨w.heap.size, 2, none⟩) (Nat.le_refl _) (.slice none 0 0))
    go_wp2_with fail
    refine bodyPost_ret (v := .tuple #[.agg #[.slice none 0 0, .slice none 0 0, .slice none 0 0], .int .i64 (c5 : Int)]) (by simp [results, Tryz.results136, go_sem, q0, q1, q2]; try rfl) rfl ?_
    refine ⟨HWF.out, ?_⟩
    rw [HV.out]
    exact ⟨c5, HNE.out, rfl⟩
   | ok rr =>
    obtain ⟨y, jj⟩ := rr
    have hm5 := HM5.out
    rw [hEE] at hm5
    obtain ⟨rfl, rfl, rfl⟩ := hm5
    have HE4 := Lib.hid ((ents_ok hEE).symm.trans HE3.out)
    clear hEE HM5
    go_upto_region 13 with fail
    clear hw6
    have z0 := (HX6.out 0 _ rfl).1
    have n0 := (HN6.out 0 _ rfl).1
    have n1 := (HN6.out 1 _ rfl).1
    have n2 := (HN6.out 2 _ rfl).1
    have n3 := (HN6.out 3 _ rfl).1
    have n4 := (HN6.out 4 _ rfl).1
    have n5 := (HN6.out 5 _ rfl).1
    have HR7 := Lib.hid (HR6.out.alloc (.cells #[.string ⟨xit.toArray⟩, .int .i64 xn, .int .i64 xl, .int .i64 xc, .int .i64 xq, .int .u64 (xp : Int)] 92))
    have HK7 := Lib.hid (HK6.out.alloc (.cells #[.string ⟨xit.toArray⟩, .int .i64 xn, .int .i64 xl, .int .i64 xc, .int .i64 xq, .int .u64 (xp : Int)] 92))
    have HX7 := Lib.hid (HX6.out.alloc (.cells #[.string ⟨xit.toArray⟩, .int .i64 xn, .int .i64 xl, .int .i64 xc, .int .i64 xq, .int .u64 (xp : Int)] 92) (Nat.lt_of_lt_of_le HS3.out HK6.out.size))
    have HO7 := Lib.hid (HO6.out.below ((Below.refl w6.heap.size w6).alloc (Nat.le_refl _) (.cells #[.string ⟨xit.toArray⟩, .int .i64 xn, .int .i64 xl, .int .i64 xc, .int .i64 xq, .int .u64 (xp : Int)] 92)) (Nat.le_refl _))
    have HN7 := Lib.hid (Bk.new w6 (entC ⟨xit, ⟨xn, xl, xc⟩, xq, xp⟩) 92 rfl)
    have HLk : Hid (acc.length ≤ 1000000) := Lib.hid (by have := HA.out; omega)
    have HZ3 : Hid (w1.heap.size ≤ w3.heap.size) := Lib.hid (Nat.le_trans HXB.out (Nat.le_of_lt HS3.out))
    have HLN : Hid ((acc ++ [(⟨xit, ⟨xn, xl, xc⟩, xq, xp⟩ : En)]).length = acc.length + 1) := Lib.hid (by simp)
    generalize hev : Value.slice Ae acc.length ce = ev at z0 HO7 HX7 ⊢
    go_wp2_with (at_builtin; refine wpList_appS rfl _ _ 26 rfl Tryz.underlying26 info92 rfl (by decide) entC_len entC_one (by decide) rfl HO7.out (g := w6.heap.size) (c := 1) (y := ⟨xit, ⟨xn, xl, xc⟩, xq, xp⟩) rfl (fun j u hj => (HN7.out j u hj).1) HLk.out HK7.out.size ?_; intro v' w8 hown' hb8 _; have HO8 := Lib.hid hown'; have HK8 := Lib.hid (HK7.out.then_below hb8); have HX8 := Lib.hid (HX7.out.below hb8 HS3.out); have HR8 := Lib.hid (HR7.out.below hb8 HZ3.out); clear hown' hb8; obtain ⟨y0, yf0⟩ := HX8.out 0 _ rfl; obtain ⟨A8, c8, h8⟩ := HO8.out.form; rw [HLN.out] at h8; subst h8)
    exact ⟨⟨k + 1, j5, acc ++ [⟨xit, ⟨xn, xl, xc⟩, xq, xp⟩], _, by omega, by go_num, Lib.hid (HR8.out.far (p := ⟨w2.heap.size, 0, none⟩) HXB.out _), Lib.hid (HK8.out.setCell (p := ⟨w2.heap.size, 0, none⟩) (.inl (by simp)) _), Lib.hid (HX8.out.set 0 _), Lib.hid (HO8.out.setCell (p := ⟨w2.heap.size, 0, none⟩) HS3.out _), Lib.hid (by have := HA.out; simp; omega), HE4⟩, by simp [intOf]; omega⟩
  ·have hkn : k = n := by omega
   subst hkn
   have HEN : Hid (entsR bs k p [] = .ok (acc, j)) := Lib.hid (by rw [← HE.out, Nat.sub_self]; rfl)
   have HFI := Lib.hid (ents_fine HLT.out k p j [] acc HEN.out (fun e he => by cases he)).1
   have hcd := cdec_any w1.heap.size g bs j wr HRr.out HZr.out
   unfold CDecR at hcd
   go_upto_region 15 with fail
   go_wp2_with fail
   go_at_call 189
   refine hcd.mono ?_
   clear hcd
   rintro e w8 ⟨hk8, mv, vv, c8, rfl, hm8⟩
   have HW8 := Lib.hid (HWr.out.trans (hk8.below HWr.out.size (fun x hx => by simp at hx; subst hx; exact HG.out)))
   have HX8 := Lib.hid (HXr.out.kept hk8 HSr.out HGX.out)
   have HO8 := Lib.hid (HOr.out.kept hk8 (fun b hb => by have := HOr.out.block_ge b hb; have := HR1.out.lt; have := HXB.out; have := HS3.out; simp; omega))
   have HZ8 := Lib.hid hk8.size
   have HS8 : Hid (w2.heap.size < w8.heap.size) := Lib.hid (Nat.lt_of_lt_of_le HSr.out hk8.size)
   have HM8 := Lib.hid hm8
   have HX0 : Hid (w0.heap.size ≤ w2.heap.size) := Lib.hid HW2.out.size
   clear hk8 hm8
   obtain ⟨x0, xf0⟩ := HX8.out 0 _ rfl
   obtain ⟨x1, xf1⟩ := HX8.out 1 _ rfl
   obtain ⟨x2, xf2⟩ := HX8.out 2 _ rfl
   cases hC : ctxR bs j with
   | error kk =>
    have hm8 := HM8.out
    rw [hC] at hm8
    obtain ⟨rfl, hcc, rfl, rfl⟩ := hm8
    have heq : ((c8 : Int) == 0) = false := beq_false_of_ne (by omega)
    have hne : ((c8 : Int) != 0) = true := bne_iff_ne.2 (by omega)
    have HV : Hid (decodeL bs = .error c8) := Lib.hid (by rw [HL2.out, HEN.out]; dsimp only; rw [hC])
    have HNE := Lib.hid hcc
    have HWe := Lib.hid ((HW8.out.setCell (p := ⟨w2.heap.size, 1, none⟩) HX0.out (.slice none 0 0)).setCell (p := ⟨w2.heap.size, 2, none⟩) HX0.out (.slice none 0 0))
    have HBe := Lib.hid (HB0.out.below HWe.out HS0.out)
    clear hC hcc
    go_upto_region 20 with fail
    obtain ⟨r0, rf0⟩ := HBe.out 0 _ rfl
    obtain ⟨r1, rf1⟩ := HBe.out 1 _ rfl
    obtain ⟨r2, rf2⟩ := HBe.out 2 _ rfl
    have HQ := Lib.hid (((HBe.out.set 0 (.slice none 0 0)).set 1 (.slice none 0 0)).set 2 (.slice none 0 0))
    have q0 := (HQ.out 0 _ rfl).1
    have q1 := (HQ.out 1 _ rfl).1
    have q2 := (HQ.out 2 _ rfl).1
    have HWF := Lib.hid ((((HBW.out.trans (HWe.out.mono (Nat.le_of_lt HS0.out))).setCell (p := ⟨w.heap.size, 0, none⟩) (Nat.le_refl _) (.slice none 0 0)).setCell (p := ⟨w.heap.size, 1, none⟩) (Nat.le_refl _) (.slice none 0 0)).setCell (p := ⟨w.heap.size, 2, none⟩) (Nat.le_refl _) (.slice none 0 0))
    go_wp2_with fail
    refine bodyPost_ret (v := .tuple #[.agg #[.slice none 0 0, .slice none 0 0, .slice none 0 0], .int .i64 (c8 : Int)]) (by simp [results, Tryz.results136, go_sem, q0, q1, q2]; try rfl) rfl ?_
    refine ⟨HWF.out, ?_⟩
    rw [HV.out]
    exact ⟨c8, HNE.out, rfl⟩
   | ok rr =>
    obtain ⟨x, j2⟩ := rr
    have hm8 := HM8.out
    rw [hC] at hm8
    obtain ⟨rfl, hr8, ho1, ho2⟩ := hm8
    obtain ⟨Am, cm, rfl⟩ := ho1.form
    obtain ⟨Av, cv, rfl⟩ := ho2.form
    have HO1 := Lib.hid (ho1.setCell2 HSr.out (.slice Am x.ms.length cm) (.slice Av x.cl.length cv))
    have HO2 := Lib.hid (ho2.setCell2 HSr.out (.slice Am x.ms.length cm) (.slice Av x.cl.length cv))
    have HO3 := Lib.hid (HO8.out.setCell2 HS3.out (.slice Am x.ms.length cm) (.slice Av x.cl.length cv))
    have HR9 := Lib.hid ((hr8.far (p := ⟨w2.heap.size, 1, none⟩) HXB.out (.slice Am x.ms.length cm)).far (p := ⟨w2.heap.size, 2, none⟩) HXB.out (.slice Av x.cl.length cv))
    have HX9 := Lib.hid ((HX8.out.set 1 (.slice Am x.ms.length cm)).set 2 (.slice Av x.cl.length cv))
    have HW9 := Lib.hid ((HW8.out.setCell (p := ⟨w2.heap.size, 1, none⟩) HX0.out (.slice Am x.ms.length cm)).setCell (p := ⟨w2.heap.size, 2, none⟩) HX0.out (.slice Av x.cl.length cv))
    have HCT := Lib.hid hC
    clear hC hr8 ho1 ho2 HM8
    obtain ⟨w9, hw9⟩ : ∃ y, (w8.setCell ⟨w2.heap.size, 1, none⟩ (.slice Am x.ms.length cm)).setCell ⟨w2.heap.size, 2, none⟩ (.slice Av x.cl.length cv) = y := ⟨_, rfl⟩
    rw [hw9] at HO1 HO2 HO3 HR9 HX9 HW9
    have hen := end_any w1.heap.size g bs j2 w9 HR9.out
    go_upto_region 17 with fail
    clear hw9 x0 x1 x2 xf0 xf1 xf2
    by_cases hj : j2 < bs.length
    case pos =>
     have HV : Hid (decodeL bs = .error 3) := Lib.hid (by rw [HL2.out, HEN.out]; dsimp only; rw [HCT.out]; dsimp only; unfold endR; rw [if_pos hj])
     rw [if_pos hj] at hen
     go_upto_region 20 with (go_at_call 190; refine hen.mono ?_; clear hen; rintro e w10 ⟨rfl, N, hN⟩; have HWf : Hid (Below w0.heap.size w0 w10) := Lib.hid (by rw [hN]; exact H.below_drewN HW9.out N); have HBf := Lib.hid (HB0.out.below HWf.out HS0.out); clear hN)
     obtain ⟨r0, rf0⟩ := HBf.out 0 _ rfl
     obtain ⟨r1, rf1⟩ := HBf.out 1 _ rfl
     obtain ⟨r2, rf2⟩ := HBf.out 2 _ rfl
     have HQ := Lib.hid (((HBf.out.set 0 (.slice none 0 0)).set 1 (.slice none 0 0)).set 2 (.slice none 0 0))
     have q0 := (HQ.out 0 _ rfl).1
     have q1 := (HQ.out 1 _ rfl).1
     have q2 := (HQ.out 2 _ rfl).1
     have HWF := Lib.hid ((((HBW.out.trans (HWf.out.mono (Nat.le_of_lt HS0.out))).setCell (p := ⟨w.heap.size, 0, none⟩) (Nat.le_refl _) (.slice none 0 0)).setCell (p := ⟨w.heap.size, 1, none⟩) (Nat.le_refl _) (.slice none 0 0)).setCell (p := ⟨w.heap.size, 2, none⟩) (Nat.le_refl _) (.slice none 0 0))
     go_wp2_with fail
     refine bodyPost_ret (v := .tuple #[.agg #[.slice none 0 0, .slice none 0 0, .slice none 0 0], .int .i64 3]) (by simp [results, Tryz.results136, go_sem, q0, q1, q2]; try rfl) rfl ?_
     refine ⟨HWF.out, ?_⟩
     rw [HV.out]
     exact ⟨3, by decide, rfl⟩
    case neg =>
    rw [if_neg hj] at hen
    go_upto_region 19 with (go_at_call 190; refine hen.mono ?_; clear hen; rintro e w10 ⟨rfl, N, hN⟩; have HW10 : Hid (Below w0.heap.size w0 w10) := Lib.hid (by rw [hN]; exact H.below_drewN HW9.out N); have HX10 : Hid (Bk w10 w2.heap.size [.slice Ae acc.length ce, .slice Am x.ms.length cm, .slice Av x.cl.length cv]) := Lib.hid (by rw [hN]; exact HX9.out); have HOa : Hid (OwnS 92 6 entC w10 w3.heap.size (.slice Ae acc.length ce) acc) := Lib.hid (by rw [hN]; exact HO3.out); have HOb : Hid (OwnS 150 3 dotC w10 wr.heap.size (.slice Am x.ms.length cm) x.ms) := Lib.hid (by rw [hN]; exact HO1.out); have HOc : Hid (OwnS 90 3 dotC w10 wr.heap.size (.slice Av x.cl.length cv) x.cl) := Lib.hid (by rw [hN]; exact HO2.out); have HS10 : Hid (w2.heap.size < w10.heap.size) := Lib.hid (HX10.out.lt); clear hN)
    have hlc := (canX_len (ctx_can HCT.out))
    have hcan := can_any hI hMy acc x (.slice Ae acc.length ce) (.slice Am x.ms.length cm) (.slice Av x.cl.length cv) w10 (HOa.out.sl entC_len (by have := HA.out; omega)) (HOb.out.sl dotC_len (by have := hlc.1; omega)) (HOc.out.sl dotC_len (by have := hlc.2; omega)) HOa.out.cap (fun e he => ⟨by have := (HFI.out e he).1; omega, (HFI.out e he).2⟩)
    obtain ⟨cc, hcc⟩ : ∃ y, canC ⟨acc, x⟩ = y := ⟨_, rfl⟩
    rw [hcc] at hcan
    have HCC := Lib.hid hcc
    clear hlc hcc
    obtain ⟨x0, _⟩ := HX10.out 0 _ rfl
    obtain ⟨x1, _⟩ := HX10.out 1 _ rfl
    obtain ⟨x2, _⟩ := HX10.out 2 _ rfl
    by_cases h0 : cc = 0
    case neg =>
     have hne : ((cc : Int) != 0) = true := bne_iff_ne.2 (by omega)
     have HV : Hid (decodeL bs = .error cc) := Lib.hid (by rw [HL2.out, HEN.out]; dsimp only; rw [HCT.out]; dsimp only; unfold endR; rw [if_neg hj, HCC.out, if_pos h0])
     go_upto_region 20 with (go_at_call 159; refine hcan.mono ?_; clear hcan; rintro e w11 ⟨rfl, hb⟩; have HWh := Lib.hid (HW10.out.trans (hb.mono HW10.out.size)); have HBh := Lib.hid (HB0.out.below HWh.out HS0.out); clear hb)
     obtain ⟨r0, rf0⟩ := HBh.out 0 _ rfl
     obtain ⟨r1, rf1⟩ := HBh.out 1 _ rfl
     obtain ⟨r2, rf2⟩ := HBh.out 2 _ rfl
     have HQ := Lib.hid (((HBh.out.set 0 (.slice none 0 0)).set 1 (.slice none 0 0)).set 2 (.slice none 0 0))
     have q0 := (HQ.out 0 _ rfl).1
     have q1 := (HQ.out 1 _ rfl).1
     have q2 := (HQ.out 2 _ rfl).1
     have HWF := Lib.hid ((((HBW.out.trans (HWh.out.mono (Nat.le_of_lt HS0.out))).setCell (p := ⟨w.heap.size, 0, none⟩) (Nat.le_refl _) (.slice none 0 0)).setCell (p := ⟨w.heap.size, 1, none⟩) (Nat.le_refl _) (.slice none 0 0)).setCell (p := ⟨w.heap.size, 2, none⟩) (Nat.le_refl _) (.slice none 0 0))
     go_wp2_with fail
     refine bodyPost_ret (v := .tuple #[.agg #[.slice none 0 0, .slice none 0 0, .slice none 0 0], .int .i64 (cc : Int)]) (by simp [results, Tryz.results136, go_sem, q0, q1, q2]; try rfl) rfl ?_
     refine ⟨HWF.out, ?_⟩
     rw [HV.out]
     exact ⟨cc, h0, rfl⟩
    case pos =>
     subst h0
     have HV : Hid (decodeL bs = .ok ⟨acc, x⟩) := Lib.hid (by rw [HL2.out, HEN.out]; dsimp only; rw [HCT.out]; dsimp only; unfold endR; rw [if_neg hj, HCC.out, if_neg (by simp)])
     go_upto_region 20 with (go_at_call 159; refine hcan.mono ?_; clear hcan; rintro e w11 ⟨rfl, hb⟩; have HWh := Lib.hid (HW10.out.trans (hb.mono HW10.out.size)); have HBh := Lib.hid (HB0.out.below HWh.out HS0.out); have HXh := Lib.hid (HX10.out.below hb HS10.out); have HOA := Lib.hid (HOa.out.below hb (Nat.le_refl _)); have HOB := Lib.hid (HOb.out.below hb (Nat.le_refl _)); have HOC := Lib.hid (HOc.out.below hb (Nat.le_refl _)); clear hb)
     clear x0 x1 x2
     obtain ⟨x0, _⟩ := HXh.out 0 _ rfl
     obtain ⟨x1, _⟩ := HXh.out 1 _ rfl
     obtain ⟨x2, _⟩ := HXh.out 2 _ rfl
     have HRa : Hid (w.heap.size < w3.heap.size) := Lib.hid (by have := HS0.out; have := HX0.out; have := HS3.out; omega)
     have HRb : Hid (w.heap.size < wr.heap.size) := Lib.hid (by have := HRa.out; have := HKr.out.size; omega)
     obtain ⟨r0, rf0⟩ := HBh.out 0 _ rfl
     obtain ⟨r1, rf1⟩ := HBh.out 1 _ rfl
     obtain ⟨r2, rf2⟩ := HBh.out 2 _ rfl
     have HQ := Lib.hid (((HBh.out.set 0 (.slice Ae acc.length ce)).set 1 (.slice Am x.ms.length cm)).set 2 (.slice Av x.cl.length cv))
     have q0 := (HQ.out 0 _ rfl).1
     have q1 := (HQ.out 1 _ rfl).1
     have q2 := (HQ.out 2 _ rfl).1
     have HWF := Lib.hid ((((HBW.out.trans (HWh.out.mono (Nat.le_of_lt HS0.out))).setCell (p := ⟨w.heap.size, 0, none⟩) (Nat.le_refl _) (.slice Ae acc.length ce)).setCell (p := ⟨w.heap.size, 1, none⟩) (Nat.le_refl _) (.slice Am x.ms.length cm)).setCell (p := ⟨w.heap.size, 2, none⟩) (Nat.le_refl _) (.slice Av x.cl.length cv))
     go_wp2_with fail
     refine bodyPost_ret (v := .tuple #[.agg #[.slice Ae acc.length ce, .slice Am x.ms.length cm, .slice Av x.cl.length cv], .int .i64 0]) (by simp [results, Tryz.results136, go_sem, q0, q1, q2]; try rfl) rfl ?_
     refine ⟨HWF.out, ?_⟩
     rw [HV.out]
     exact ⟨_, rfl, _, _, _, rfl, (((HOA.out.setCell (p := ⟨w.heap.size, 0, none⟩) HRa.out (.slice Ae acc.length ce)).setCell (p := ⟨w.heap.size, 1, none⟩) HRa.out (.slice Am x.ms.length cm)).setCell (p := ⟨w.heap.size, 2, none⟩) HRa.out (.slice Av x.cl.length cv)).base (Nat.le_of_lt HRa.out), (((HOB.out.setCell (p := ⟨w.heap.size, 0, none⟩) HRb.out (.slice Ae acc.length ce)).setCell (p := ⟨w.heap.size, 1, none⟩) HRb.out (.slice Am x.ms.length cm)).setCell (p := ⟨w.heap.size, 2, none⟩) HRb.out (.slice Av x.cl.length cv)).base (Nat.le_of_lt HRb.out), (((HOC.out.setCell (p := ⟨w.heap.size, 0, none⟩) HRb.out (.slice Ae acc.length ce)).setCell (p := ⟨w.heap.size, 1, none⟩) HRb.out (.slice Am x.ms.length cm)).setCell (p := ⟨w.heap.size, 2, none⟩) HRb.out (.slice Av x.cl.length cv)).base (Nat.le_of_lt HRb.out)⟩
end Go.Proofs.YtpdedfpacklnoaaGreatDoor
set_option maxRecDepth 100000
namespace Go.Proofs.YtpdedfpacklnoaaGreatDoor
open Go.RowKit Go.BL Go.Ct Go.Sl Go.Wr W

theorem bytesL_len : ∀ (s b : List Nat), bytesL s = some b → b.length ≤ s.length
 | [], b, h => by cases h; simp
 | [_], b, h => by cases h
 | [p, q], b, h => by
  unfold bytesL at h
  split at h <;> cases h
  simp
 | [p, q, r], b, h => by
  unfold bytesL at h
  split at h <;> cases h
  simp
 | p :: q :: r :: s :: t, b, h => by
  unfold bytesL at h
  split at h
  ·cases h
  ·cases ht : bytesL t with
   | none => rw [ht] at h; cases h
   | some x =>
    rw [ht] at h
    cases h
    have := bytesL_len t x ht
    simp
    omega
theorem unframe_len (bs : List Nat) : (unframe bs).1.length ≤ bs.length := by
 unfold unframe
 split
 ·simp
 ·split
  ·simp
  ·split
   ·simp
   ·split
    ·simp
    ·simp only [List.length_take, List.length_drop]; omega
theorem tok_none {s : List UInt8} (hs : s ≠ []) (h : bytesL (nats s) = none) : tokenR s = .error 150 := by
 unfold tokenR; rw [if_neg hs, h]; try rfl
theorem tok_some {s : List UInt8} (hs : s ≠ []) {b : List Nat} (h : bytesL (nats s) = some b) : tokenR s = if (unframe b).2.2 ≠ 0 ∨ (unframe b).2.1 ≠ [] then .error 150 else match decodeL (unframe b).1 with
  | .error _ => .error 150
  | .ok c => .ok c := by
 unfold tokenR; rw [if_neg hs, h]; try rfl
set_option maxHeartbeats 16000000 in
theorem read_token (hI : ItemC) (hMy : ManyC) (s : List UInt8) (hl : s.length ≤ 1048576) (w : World) : Calls Tryz.prog 84 #[.string ⟨s.toArray⟩] w (TokR (tokenR s) w) := by
 have hby := bytes_any s hl
 obtain ⟨o, ho⟩ : ∃ y, bytesL (nats s) = y := ⟨_, rfl⟩
 have HLN : Hid (∀ b, o = some b → b.length ≤ 1048576) := Lib.hid (fun b hb => by rw [hb] at ho; have := bytesL_len _ _ ho; rw [show (nats s).length = s.length by simp [nats]] at this; omega)
 have HO := Lib.hid ho
 rw [ho] at hby
 clear ho
 obtain ⟨w0, hw0⟩ : ∃ y, w.alloc (.cells #[.slice none 0 0, .slice none 0 0, .slice none 0 0] 32) = y := ⟨_, rfl⟩
 have HBW : Hid (Below w.heap.size w w0) := Lib.hid (by rw [← hw0]; exact (Below.refl _ _).alloc (Nat.le_refl _) _)
 have HB0 : Hid (Bk w0 w.heap.size [.slice none 0 0, .slice none 0 0, .slice none 0 0]) := Lib.hid (by rw [← hw0]; exact Bk.new w _ 32 rfl)
 have HS0 : Hid (w.heap.size < w0.heap.size) := Lib.hid (by rw [← hw0]; simp)
 have hb := hby w0
 clear hby
 by_cases hs : s = []
 case pos =>
  clear hb
  have HV : Hid (tokenR s = .ok noC) := Lib.hid (by unfold tokenR; exact if_pos hs)
  subst hs
  go_enter Tryz.func84, Tryz.ntmps84
  go_upto_region 2 with fail
  clear hw0
  obtain ⟨r0, rf0⟩ := HB0.out 0 _ rfl
  obtain ⟨r1, rf1⟩ := HB0.out 1 _ rfl
  obtain ⟨r2, rf2⟩ := HB0.out 2 _ rfl
  have HQ := Lib.hid (((HB0.out.set 0 (.slice none 0 0)).set 1 (.slice none 0 0)).set 2 (.slice none 0 0))
  have q0 := (HQ.out 0 _ rfl).1
  have q1 := (HQ.out 1 _ rfl).1
  have q2 := (HQ.out 2 _ rfl).1
  have HWF := Lib.hid (((HBW.out.setCell (p := ⟨w.heap.size, 0, none⟩) (Nat.le_refl _) (.slice none 0 0)).setCell (p := ⟨w.heap.size, 1, none⟩) (Nat.le_refl _) (.slice none 0 0)).setCell (p := ⟨w.heap.size, 2, none⟩) (Nat.le_refl _) (.slice none 0 0))
  go_wp2_with fail
  refine bodyPost_ret (v := .tuple #[.agg #[.slice none 0 0, .slice none 0 0, .slice none 0 0], .int .i64 0]) (by simp [results, Tryz.results84, go_sem, q0, q1, q2]; try rfl) rfl ?_
  refine ⟨HWF.out, ?_⟩
  exact .inl ⟨noC, _, HV.out, rfl, _, _, _, rfl, OwnS.nil _ _, OwnS.nil _ _, OwnS.nil _ _⟩
 have hsb : s.isEmpty = false := by simpa using hs
 have HNS := Lib.hid hs
 go_enter Tryz.func84, Tryz.ntmps84
 go_upto_region 3 with fail
 clear hw0
 go_wp2_with fail
 go_at_call 134
 refine hb.mono ?_
 clear hb
 rintro e w1 ⟨hb1, v, rfl, hv⟩
 have HW1 := Lib.hid (HBW.out.trans (hb1.mono (Nat.le_of_lt HS0.out)))
 have HB1 := Lib.hid (HB0.out.below hb1 HS0.out)
 have HS1 : Hid (w.heap.size < w1.heap.size) := Lib.hid (Nat.lt_of_lt_of_le HS0.out hb1.size)
 cases o with
 | none =>
  have HV2 := Lib.hid (tok_none HNS.out HO.out)
  clear hv hb1
  dsimp only [Option.isSome]
  obtain ⟨r0, rf0⟩ := HB1.out 0 _ rfl
  obtain ⟨r1, rf1⟩ := HB1.out 1 _ rfl
  obtain ⟨r2, rf2⟩ := HB1.out 2 _ rfl
  have HQ := Lib.hid (((HB1.out.set 0 (.slice none 0 0)).set 1 (.slice none 0 0)).set 2 (.slice none 0 0))
  have q0 := (HQ.out 0 _ rfl).1
  have q1 := (HQ.out 1 _ rfl).1
  have q2 := (HQ.out 2 _ rfl).1
  have HWF := Lib.hid (((HW1.out.setCell (p := ⟨w.heap.size, 0, none⟩) (Nat.le_refl _) (.slice none 0 0)).setCell (p := ⟨w.heap.size, 1, none⟩) (Nat.le_refl _) (.slice none 0 0)).setCell (p := ⟨w.heap.size, 2, none⟩) (Nat.le_refl _) (.slice none 0 0))
  go_wp2_with fail
  refine bodyPost_ret (v := .tuple #[.agg #[.slice none 0 0, .slice none 0 0, .slice none 0 0], .int .i64 150]) (by simp [results, Tryz.results84, go_sem, q0, q1, q2]; try rfl) rfl ?_
  refine ⟨HWF.out, ?_⟩
  exact .inr ⟨⟨150, HV2.out⟩, rfl⟩
 | some b =>
  dsimp only [Option.getD] at hv
  obtain ⟨A, cap, rfl, hrd⟩ := hv.rd
  have hmb : b.length ≤ 140737488355000 := by have := HLN.out b rfl; omega
  have hun := unframe_any A b.length cap b w1 hrd hmb
  unfold RetU at hun
  have HV2 := Lib.hid (tok_some HNS.out HO.out)
  have HUL : Hid ((unframe b).1.length ≤ 140737488355000) := Lib.hid (by have := unframe_len b; have := HLN.out b rfl; omega)
  obtain ⟨⟨p, q, c⟩, hu⟩ : ∃ y, unframe b = y := ⟨_, rfl⟩
  rw [hu] at hun HV2 HUL
  dsimp only at hun HV2 HUL
  clear hu hv hb1 hrd hmb
  dsimp only [Option.isSome]
  go_wp2_with fail
  go_at_call 135
  refine hun.mono ?_
  clear hun
  rintro e w2 ⟨A1, c1, A2, c2, rfl, hp, _, hb2⟩
  have HW2 := Lib.hid (HW1.out.trans (hb2.mono (Nat.le_of_lt HS1.out)))
  have HB2 := Lib.hid (HB1.out.below hb2 HS1.out)
  have HS2 : Hid (w.heap.size < w2.heap.size) := Lib.hid (Nat.lt_of_lt_of_le HS1.out hb2.size)
  have HP := Lib.hid hp
  clear hp hb2
  by_cases hc : c = 0
  case neg =>
   have hne : ((c : Int) != 0) = true := bne_iff_ne.2 (by omega)
   have HV3 := Lib.hid (HV2.out.trans (if_pos (.inl hc)))
   obtain ⟨r0, rf0⟩ := HB2.out 0 _ rfl
   obtain ⟨r1, rf1⟩ := HB2.out 1 _ rfl
   obtain ⟨r2, rf2⟩ := HB2.out 2 _ rfl
   have HQ := Lib.hid (((HB2.out.set 0 (.slice none 0 0)).set 1 (.slice none 0 0)).set 2 (.slice none 0 0))
   have q0 := (HQ.out 0 _ rfl).1
   have q1 := (HQ.out 1 _ rfl).1
   have q2 := (HQ.out 2 _ rfl).1
   have HWF := Lib.hid (((HW2.out.setCell (p := ⟨w.heap.size, 0, none⟩) (Nat.le_refl _) (.slice none 0 0)).setCell (p := ⟨w.heap.size, 1, none⟩) (Nat.le_refl _) (.slice none 0 0)).setCell (p := ⟨w.heap.size, 2, none⟩) (Nat.le_refl _) (.slice none 0 0))
   go_wp2_with fail
   refine bodyPost_ret (v := .tuple #[.agg #[.slice none 0 0, .slice none 0 0, .slice none 0 0], .int .i64 150]) (by simp [results, Tryz.results84, go_sem, q0, q1, q2]; try rfl) rfl ?_
   refine ⟨HWF.out, ?_⟩
   exact .inr ⟨⟨150, HV3.out⟩, rfl⟩
  subst hc
  by_cases hq : q = []
  case neg =>
   have hq2 : (0 : Int) < (q.length : Int) := by have := List.length_pos_iff.2 hq; omega
   have HV3 := Lib.hid (HV2.out.trans (if_pos (.inr hq)))
   obtain ⟨r0, rf0⟩ := HB2.out 0 _ rfl
   obtain ⟨r1, rf1⟩ := HB2.out 1 _ rfl
   obtain ⟨r2, rf2⟩ := HB2.out 2 _ rfl
   have HQ := Lib.hid (((HB2.out.set 0 (.slice none 0 0)).set 1 (.slice none 0 0)).set 2 (.slice none 0 0))
   have q0 := (HQ.out 0 _ rfl).1
   have q1 := (HQ.out 1 _ rfl).1
   have q2 := (HQ.out 2 _ rfl).1
   have HWF := Lib.hid (((HW2.out.setCell (p := ⟨w.heap.size, 0, none⟩) (Nat.le_refl _) (.slice none 0 0)).setCell (p := ⟨w.heap.size, 1, none⟩) (Nat.le_refl _) (.slice none 0 0)).setCell (p := ⟨w.heap.size, 2, none⟩) (Nat.le_refl _) (.slice none 0 0))
   go_wp2_with fail
   refine bodyPost_ret (v := .tuple #[.agg #[.slice none 0 0, .slice none 0 0, .slice none 0 0], .int .i64 150]) (by simp [results, Tryz.results84, go_sem, q0, q1, q2]; try rfl) rfl ?_
   refine ⟨HWF.out, ?_⟩
   exact .inr ⟨⟨150, HV3.out⟩, rfl⟩
  subst hq
  have HV3 := Lib.hid (HV2.out.trans (if_neg (by simp)))
  have hde := decode_any hI hMy A1 p.length c1 p w2 (HP.out.rdOf rfl) HUL.out
  unfold DecR at hde
  go_wp2_with fail
  go_at_call 136
  refine hde.mono ?_
  clear hde
  rintro e w3 ⟨hb3, hd⟩
  have HW3 := Lib.hid (HW2.out.trans (hb3.mono (Nat.le_of_lt HS2.out)))
  have HB3 := Lib.hid (HB2.out.below hb3 HS2.out)
  have HS3 : Hid (w.heap.size < w3.heap.size) := Lib.hid (Nat.lt_of_lt_of_le HS2.out hb3.size)
  cases hdl : decodeL p with
  | error k =>
   rw [hdl] at hd
   obtain ⟨c, hc, rfl⟩ := hd
   have hne : ((c : Int) != 0) = true := bne_iff_ne.2 (by omega)
   have HV4 : Hid (tokenR s = .error 150) := Lib.hid (by rw [HV3.out, hdl])
   clear hdl hb3
   have HW := Lib.hid (HW3.out.alloc HW3.out.size (.cells #[.slice none 0 0, .slice none 0 0, .slice none 0 0] 32))
   have HB := Lib.hid (HB3.out.alloc (.cells #[.slice none 0 0, .slice none 0 0, .slice none 0 0] 32) HS3.out)
   obtain ⟨r0, rf0⟩ := HB.out 0 _ rfl
   obtain ⟨r1, rf1⟩ := HB.out 1 _ rfl
   obtain ⟨r2, rf2⟩ := HB.out 2 _ rfl
   have HQ := Lib.hid (((HB.out.set 0 (.slice none 0 0)).set 1 (.slice none 0 0)).set 2 (.slice none 0 0))
   have q0 := (HQ.out 0 _ rfl).1
   have q1 := (HQ.out 1 _ rfl).1
   have q2 := (HQ.out 2 _ rfl).1
   have HWF := Lib.hid (((HW.out.setCell (p := ⟨w.heap.size, 0, none⟩) (Nat.le_refl _) (.slice none 0 0)).setCell (p := ⟨w.heap.size, 1, none⟩) (Nat.le_refl _) (.slice none 0 0)).setCell (p := ⟨w.heap.size, 2, none⟩) (Nat.le_refl _) (.slice none 0 0))
   go_wp2_with fail
   refine bodyPost_ret (v := .tuple #[.agg #[.slice none 0 0, .slice none 0 0, .slice none 0 0], .int .i64 150]) (by simp [results, Tryz.results84, go_sem, q0, q1, q2]; try rfl) rfl ?_
   refine ⟨HWF.out, ?_⟩
   exact .inr ⟨⟨150, HV4.out⟩, rfl⟩
  | ok k =>
   rw [hdl] at hd
   obtain ⟨v, rfl, ev, mv, cv, rfl, he, hm, hcl⟩ := hd
   obtain ⟨A1, d1, rfl⟩ := he.form
   obtain ⟨A2, d2, rfl⟩ := hm.form
   obtain ⟨A3, d3, rfl⟩ := hcl.form
   have HE := Lib.hid he
   have HM := Lib.hid hm
   have HC := Lib.hid hcl
   have HV4 : Hid (tokenR s = .ok k) := Lib.hid (by rw [HV3.out, hdl])
   clear hdl hb3 he hm hcl
   obtain ⟨w4, hw4⟩ : ∃ y, w3.alloc (.cells #[.slice A1 k.es.length d1, .slice A2 k.x.ms.length d2, .slice A3 k.x.cl.length d3] 32) = y := ⟨_, rfl⟩
   have HW : Hid (Below w.heap.size w w4) := Lib.hid (by rw [← hw4]; exact HW3.out.alloc HW3.out.size _)
   have HB : Hid (Bk w4 w.heap.size [.slice none 0 0, .slice none 0 0, .slice none 0 0]) := Lib.hid (by rw [← hw4]; exact HB3.out.alloc _ HS3.out)
   have HX : Hid (Bk w4 w3.heap.size [.slice A1 k.es.length d1, .slice A2 k.x.ms.length d2, .slice A3 k.x.cl.length d3]) := Lib.hid (by rw [← hw4]; exact Bk.new w3 _ 32 rfl)
   have HEa : Hid (OwnS 92 6 entC w4 w2.heap.size (.slice A1 k.es.length d1) k.es) := Lib.hid (by rw [← hw4]; exact HE.out.below ((Below.refl w3.heap.size w3).alloc (Nat.le_refl _) _) (Nat.le_refl _))
   have HMa : Hid (OwnS 150 3 dotC w4 w2.heap.size (.slice A2 k.x.ms.length d2) k.x.ms) := Lib.hid (by rw [← hw4]; exact HM.out.below ((Below.refl w3.heap.size w3).alloc (Nat.le_refl _) _) (Nat.le_refl _))
   have HCa : Hid (OwnS 90 3 dotC w4 w2.heap.size (.slice A3 k.x.cl.length d3) k.x.cl) := Lib.hid (by rw [← hw4]; exact HC.out.below ((Below.refl w3.heap.size w3).alloc (Nat.le_refl _) _) (Nat.le_refl _))
   go_upto_region 12 with fail
   clear hw4
   obtain ⟨y0, yf0⟩ := HX.out 0 _ rfl
   obtain ⟨y1, yf1⟩ := HX.out 1 _ rfl
   obtain ⟨y2, yf2⟩ := HX.out 2 _ rfl
   obtain ⟨r0, rf0⟩ := HB.out 0 _ rfl
   obtain ⟨r1, rf1⟩ := HB.out 1 _ rfl
   obtain ⟨r2, rf2⟩ := HB.out 2 _ rfl
   have HQ := Lib.hid (((HB.out.set 0 (.slice A1 k.es.length d1)).set 1 (.slice A2 k.x.ms.length d2)).set 2 (.slice A3 k.x.cl.length d3))
   have q0 := (HQ.out 0 _ rfl).1
   have q1 := (HQ.out 1 _ rfl).1
   have q2 := (HQ.out 2 _ rfl).1
   have HWF := Lib.hid (((HW.out.setCell (p := ⟨w.heap.size, 0, none⟩) (Nat.le_refl _) (.slice A1 k.es.length d1)).setCell (p := ⟨w.heap.size, 1, none⟩) (Nat.le_refl _) (.slice A2 k.x.ms.length d2)).setCell (p := ⟨w.heap.size, 2, none⟩) (Nat.le_refl _) (.slice A3 k.x.cl.length d3))
   go_wp2_with fail
   refine bodyPost_ret (v := .tuple #[.agg #[.slice A1 k.es.length d1, .slice A2 k.x.ms.length d2, .slice A3 k.x.cl.length d3], .int .i64 0]) (by simp [results, Tryz.results84, go_sem, q0, q1, q2]; try rfl) rfl ?_
   refine ⟨HWF.out, ?_⟩
   exact .inl ⟨k, _, HV4.out, rfl, _, _, _, rfl, (((HEa.out.setCell (p := ⟨w.heap.size, 0, none⟩) HS2.out (.slice A1 k.es.length d1)).setCell (p := ⟨w.heap.size, 1, none⟩) HS2.out (.slice A2 k.x.ms.length d2)).setCell (p := ⟨w.heap.size, 2, none⟩) HS2.out (.slice A3 k.x.cl.length d3)).base (Nat.le_of_lt HS2.out), (((HMa.out.setCell (p := ⟨w.heap.size, 0, none⟩) HS2.out (.slice A1 k.es.length d1)).setCell (p := ⟨w.heap.size, 1, none⟩) HS2.out (.slice A2 k.x.ms.length d2)).setCell (p := ⟨w.heap.size, 2, none⟩) HS2.out (.slice A3 k.x.cl.length d3)).base (Nat.le_of_lt HS2.out), (((HCa.out.setCell (p := ⟨w.heap.size, 0, none⟩) HS2.out (.slice A1 k.es.length d1)).setCell (p := ⟨w.heap.size, 1, none⟩) HS2.out (.slice A2 k.x.ms.length d2)).setCell (p := ⟨w.heap.size, 2, none⟩) HS2.out (.slice A3 k.x.cl.length d3)).base (Nat.le_of_lt HS2.out)⟩
end Go.Proofs.YtpdedfpacklnoaaGreatDoor
