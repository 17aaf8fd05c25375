/- Contracts of causal's small functions: what may be a dot, its order, its actor. Contract of causal.mark. Contracts of strconv.Atoi and Itoa at any text and number, of front.pieces and front.path; the  -/
import Derived.Test.YtpdedfpacklnoaaGreatDoorTzMP
import Derived.Deep.RegionWith
import Derived.Deep.RegionHeld
import Derived.Deep.CutRange
import Derived.Test.YtpdedfpacklnoaaGreatDoorTzMH
import Derived.Test.YtpdedfpacklnoaaGreatDoorTzMU
import Derived.Lib.SplitLaws
import Derived.BigQuiet
namespace Go.Proofs.YtpdedfpacklnoaaGreatDoor
open Go.RowKit Go.BL Go.Ct Go.Sl

theorem node_any (n : Int) (w : World) : Calls Tryz.prog 260 #[.int .i64 n] w fun e w' => e = .returned (.bool (decide (0 ≤ n) && decide (n < 8))) ∧ w = w' := by
 go_enter Tryz.func260, Tryz.ntmps260
 go_wp2
 all_goals go_ret
 all_goals (refine ⟨congrArg (fun b => Ending.returned (Value.bool b)) ?_, rfl⟩; rw [Bool.eq_iff_iff]; simp; omega)
theorem life_any (n : Int) (w : World) : Calls Tryz.prog 261 #[.int .i64 n] w fun e w' => e = .returned (.bool (decide (1 ≤ n) && decide (n ≤ 1099511627776))) ∧ w = w' := by
 go_enter Tryz.func261, Tryz.ntmps261
 go_wp2
 all_goals go_ret
 all_goals (refine ⟨congrArg (fun b => Ending.returned (Value.bool b)) ?_, rfl⟩; rw [Bool.eq_iff_iff]; simp; omega)
theorem count_any (n : Int) (w : World) : Calls Tryz.prog 262 #[.int .i64 n] w fun e w' => e = .returned (.bool (decide (1 ≤ n) && decide (n ≤ 1099511627776))) ∧ w = w' := by
 go_enter Tryz.func262, Tryz.ntmps262
 go_wp2
 all_goals go_ret
 all_goals (refine ⟨congrArg (fun b => Ending.returned (Value.bool b)) ?_, rfl⟩; rw [Bool.eq_iff_iff]; simp; omega)
set_option maxHeartbeats 1000000 in
theorem may_any (d : Dt) (w : World) : Calls Tryz.prog 245 #[dotV d] w (RetV (.bool (mayD d)) w) := by
 obtain ⟨n, l, c⟩ := d
 dsimp only [dotV]
 have h1 := node_any n
 have h2 := life_any l
 have h3 := count_any c
 obtain ⟨b1, e1⟩ : ∃ b, (decide (0 ≤ n) && decide (n < 8)) = b := ⟨_, rfl⟩
 obtain ⟨b2, e2⟩ : ∃ b, (decide (1 ≤ l) && decide (l ≤ 1099511627776)) = b := ⟨_, rfl⟩
 obtain ⟨b3, e3⟩ : ∃ b, (decide (1 ≤ c) && decide (c ≤ 1099511627776)) = b := ⟨_, rfl⟩
 have HF : Hid (mayD ⟨n, l, c⟩ = (b1 && (b2 && b3))) := Lib.hid (by unfold mayD; dsimp only; rw [← e1, ← e2, ← e3]; simp only [Bool.and_assoc])
 rw [e1] at h1
 rw [e2] at h2
 rw [e3] at h3
 clear e1 e2 e3
 have HB : Hid (Below w.heap.size w (w.alloc (.cells #[.int .i64 n, .int .i64 l, .int .i64 c] 90))) := Lib.hid ((Below.refl _ _).alloc (Nat.le_refl _) _)
 cases b1
 case false =>
  go_enter Tryz.func245, Tryz.ntmps245
  go_wp2_with (first | (go_at_call 260; refine (h1 _).mono ?_; rintro e w' ⟨rfl, rfl⟩))
  go_ret
  exact ⟨by rw [HF.out]; rfl, HB.out⟩
 case true =>
  cases b2
  case false =>
   go_enter Tryz.func245, Tryz.ntmps245
   go_wp2_with (first | (go_at_call 260; refine (h1 _).mono ?_; rintro e w' ⟨rfl, rfl⟩) | (go_at_call 261; refine (h2 _).mono ?_; rintro e w' ⟨rfl, rfl⟩))
   go_ret
   exact ⟨by rw [HF.out]; rfl, HB.out⟩
  case true =>
   go_enter Tryz.func245, Tryz.ntmps245
   go_wp2_with (first | (go_at_call 260; refine (h1 _).mono ?_; rintro e w' ⟨rfl, rfl⟩) | (go_at_call 261; refine (h2 _).mono ?_; rintro e w' ⟨rfl, rfl⟩) | (go_at_call 262; refine (h3 _).mono ?_; rintro e w' ⟨rfl, rfl⟩))
   go_ret
   exact ⟨by rw [HF.out]; simp, HB.out⟩
/-- The difference that orders two dots. -/
def ordD (a b : Dt) : Int := if a.n ≠ b.n then wrap64 (a.n - b.n) else if a.l ≠ b.l then wrap64 (a.l - b.l) else wrap64 (a.c - b.c)
set_option maxHeartbeats 1000000 in
theorem order_any (a b : Dt) (w : World) : Calls Tryz.prog 246 #[dotV a, dotV b] w (RetV (.int .i64 (ordD a b)) w) := by
 obtain ⟨n, l, c⟩ := a
 obtain ⟨n', l', c'⟩ := b
 dsimp only [dotV]
 have HB : Hid (Below w.heap.size w ((w.alloc (.cells #[.int .i64 n, .int .i64 l, .int .i64 c] 90)).alloc (.cells #[.int .i64 n', .int .i64 l', .int .i64 c'] 90))) := Lib.hid (((Below.refl _ _).alloc (Nat.le_refl _) _).alloc (by simp) _)
 by_cases h1 : n = n'
 case neg =>
  have HF : Hid (ordD ⟨n, l, c⟩ ⟨n', l', c'⟩ = wrap64 (n - n')) := Lib.hid (by unfold ordD; rw [if_pos h1])
  have g1 : (n != n') = true := bne_iff_ne.2 h1
  clear h1
  go_enter Tryz.func246, Tryz.ntmps246
  go_wp2
  go_ret
  exact ⟨by rw [HF.out]; rfl, HB.out⟩
 subst h1
 by_cases h2 : l = l'
 case neg =>
  have HF : Hid (ordD ⟨n, l, c⟩ ⟨n, l', c'⟩ = wrap64 (l - l')) := Lib.hid (by unfold ordD; rw [if_neg (fun h => h rfl), if_pos h2])
  have g1 : (l != l') = true := bne_iff_ne.2 h2
  clear h2
  go_enter Tryz.func246, Tryz.ntmps246
  go_wp2
  go_ret
  exact ⟨by rw [HF.out]; rfl, HB.out⟩
 subst h2
 have HF : Hid (ordD ⟨n, l, c⟩ ⟨n, l, c'⟩ = wrap64 (c - c')) := Lib.hid (by unfold ordD; rw [if_neg (fun h => h rfl), if_neg (fun h => h rfl)])
 go_enter Tryz.func246, Tryz.ntmps246
 go_wp2
 go_ret
 exact ⟨by rw [HF.out]; rfl, HB.out⟩
theorem ord_below {a b : Dt} (ha : mayD a = true) (hb : mayD b = true) : (decide (0 ≤ ordD a b)) = !belowD a b := by
 have h1 := may_iff.1 ha
 have h2 := may_iff.1 hb
 rw [Bool.eq_iff_iff]
 unfold ordD belowD wrap64
 split
 ·simp; omega
 ·split
  ·simp; omega
  ·simp; omega
theorem ord_belowA {a b : Dt} (ha : mayD a = true) (hb : mayD b = true) : (decide (0 ≤ ordD ⟨a.n, a.l, 0⟩ ⟨b.n, b.l, 0⟩)) = !belowA a b := by
 have h1 := may_iff.1 ha
 have h2 := may_iff.1 hb
 rw [Bool.eq_iff_iff]
 unfold ordD belowA wrap64
 dsimp only
 split
 ·simp; omega
 ·split
  ·simp; omega
  ·simp; omega
set_option maxHeartbeats 1000000 in
theorem actor_any (d : Dt) (w : World) : Calls Tryz.prog 248 #[dotV d] w (RetV (.agg #[.int .i64 d.n, .int .i64 d.l]) w) := by
 obtain ⟨n, l, c⟩ := d
 dsimp only [dotV]
 obtain ⟨e0, e1⟩ := pair_at (w.alloc (.cells #[.int .i64 n, .int .i64 l, .int .i64 c] 90)) (.int .i64 n) (.int .i64 l) 290 (w.heap.size + 1) (by simp)
 go_enter Tryz.func248, Tryz.ntmps248
 go_wp2
 refine bodyPost_ret (by simp [results, Tryz.results248, go_sem, e0, e1]; try rfl) rfl ?_
 exact ⟨rfl, ((Below.refl _ _).alloc (Nat.le_refl _) _).alloc (by simp) _⟩
set_option maxHeartbeats 1000000 in
theorem first_any (d : Dt) (w : World) : Calls Tryz.prog 223 #[dotV d] w (RetV (dotV d) w) := by
 obtain ⟨n, l, c⟩ := d
 dsimp only [dotV]
 obtain ⟨e0, e1, e2⟩ := tri_at (w.alloc (.cells #[.int .i64 n, .int .i64 l, .int .i64 c] 150)) (.int .i64 n) (.int .i64 l) (.int .i64 c) 90 (w.heap.size + 1) (by simp)
 go_enter Tryz.func223, Tryz.ntmps223
 go_wp2
 refine bodyPost_ret (by simp [results, Tryz.results223, go_sem, e0, e1, e2]; try rfl) rfl ?_
 exact ⟨rfl, ((Below.refl _ _).alloc (Nat.le_refl _) _).alloc (by simp) _⟩
end Go.Proofs.YtpdedfpacklnoaaGreatDoor
namespace Go.Proofs.YtpdedfpacklnoaaGreatDoor
open Go.RowKit Go.BL Go.Ct Go.Sl

set_option maxHeartbeats 2000000 in
set_option maxRecDepth 100000 in
theorem mark_any (ms : List Dt) (m c : Value) (n l : Int) (w : World) (hm : Dots w m ms) : Calls Tryz.prog 247 #[.agg #[m, c], .agg #[.int .i64 n, .int .i64 l]] w (RetV (.int .i64 (markOf ms n l)) w) := by
 obtain ⟨A, cp, rfl⟩ := hm.form
 obtain ⟨w0, hw0⟩ : ∃ w0, (w.alloc (.cells #[.slice A ms.length cp, c] 30)).alloc (.cells #[.int .i64 n, .int .i64 l] 290) = w0 := ⟨_, rfl⟩
 have HB0 : Hid (Below w.heap.size w w0) := Lib.hid (by rw [← hw0]; exact ((Below.refl _ _).alloc (Nat.le_refl _) _).alloc (by simp) _)
 have HS0 : Hid (w.heap.size + 1 < w0.heap.size) := Lib.hid (by rw [← hw0]; simp)
 have HQ : Hid (w0.cell? ⟨w.heap.size + 1, 0, none⟩ = some (.int .i64 n) ∧ w0.cell? ⟨w.heap.size + 1, 1, none⟩ = some (.int .i64 l)) := Lib.hid (by rw [← hw0]; constructor <;> (rw [World.cell?_alloc_at _ _ _ _ (by simp)]; rfl))
 have hq0 : w0.cell? ⟨w.heap.size, 0, none⟩ = some (.slice A ms.length cp) := by rw [← hw0, World.cell?_alloc_lt _ _ _ (by simp), World.cell?_alloc_at _ _ _ _ (by simp)]; rfl
 have HD := Lib.hid (hm.below HB0.out (Nat.le_refl _))
 have hmx := hm.1
 clear hm
 go_enter Tryz.func247, Tryz.ntmps247
 go_wp2_with fail
 clear hw0 hq0
 go_loopw [10] (fun i wr => ∃ k : Nat, k ≤ ms.length ∧ i = .int .i64 (k : Int) ∧ Hid (Below w0.heap.size w0 wr) ∧ Hid (markOf (ms.drop k) n l = markOf ms n l)) (fun i _ => ms.length - (intOf i).toNat)
 case atStart => exact ⟨0, by omega, rfl, Lib.hid (Below.refl _ _), Lib.hid rfl⟩
 case round =>
  obtain ⟨k, hk, rfl, HB, HM⟩ := hrel
  by_cases hlt : k < ms.length
  ·obtain ⟨b, off, rfl, hbl, hc⟩ := dot_cells HD.out (by omega)
   obtain ⟨c1, c2, c3⟩ := hc k hlt
   obtain ⟨⟨dn, dl, dc⟩, hx⟩ : ∃ x, ms[k]'hlt = x := ⟨_, rfl⟩
   rw [hx] at c1 c2 c3
   have d1 := (HB.out.cell (p := ⟨b, off + k * 3, none⟩) hbl).trans c1
   have d2 := (HB.out.cell (p := ⟨b, off + k * 3 + 1, none⟩) hbl).trans c2
   have d3 := (HB.out.cell (p := ⟨b, off + k * 3 + 2, none⟩) hbl).trans c3
   have q1 := (HB.out.cell (p := ⟨w.heap.size + 1, 0, none⟩) HS0.out).trans HQ.out.1
   have q2 := (HB.out.cell (p := ⟨w.heap.size + 1, 1, none⟩) HS0.out).trans HQ.out.2
   have HBS := Lib.hid hbl
   have hd : markOf (ms.drop k) n l = if dn = n ∧ dl = l then dc else markOf (ms.drop (k + 1)) n l := by
    rw [List.drop_eq_getElem_cons hlt, hx]; rfl
   have HM2 := Lib.hid (hd.symm.trans HM.out)
   clear hc c1 c2 c3 hx hd hbl
   have HSW : Hid (w.heap.size + 1 < wr.heap.size) := Lib.hid (Nat.lt_of_lt_of_le HS0.out HB.out.size)
   obtain ⟨w1, hw1⟩ : ∃ w1, wr.alloc (.cells #[.int .i64 dn, .int .i64 dl, .int .i64 dc] 150) = w1 := ⟨_, rfl⟩
   have HW1 : Hid (Below w0.heap.size w0 w1) := Lib.hid (by rw [← hw1]; exact HB.out.alloc HB.out.size _)
   have HC1 : Hid (wr.heap.size < w1.heap.size) := Lib.hid (by rw [← hw1]; simp)
   have HP : Hid (w1.cell? ⟨wr.heap.size, 0, none⟩ = some (.int .i64 dn) ∧ w1.cell? ⟨wr.heap.size, 1, none⟩ = some (.int .i64 dl) ∧ w1.cell? ⟨wr.heap.size, 2, none⟩ = some (.int .i64 dc)) := Lib.hid (by rw [← hw1]; exact tri_at wr _ _ _ 150 _ rfl)
   have HQ1 : Hid (w1.cell? ⟨w.heap.size + 1, 0, none⟩ = some (.int .i64 n) ∧ w1.cell? ⟨w.heap.size + 1, 1, none⟩ = some (.int .i64 l)) := Lib.hid (by rw [← hw1]; exact ⟨(World.cell?_alloc_lt _ _ _ HSW.out).trans q1, (World.cell?_alloc_lt _ _ _ HSW.out).trans q2⟩)
   go_wp2_with fail
   clear hw1 d1 d2 d3 q1 q2
   obtain ⟨p0, p1, p2⟩ := HP.out
   obtain ⟨p3, p4⟩ := HQ1.out
   go_cut [18] from 11 to 21 (fun s18 wq => s18 = .bool (decide (dn = n) && decide (dl = l)) ∧ Hid (Below w0.heap.size w0 wq) ∧ Hid (wq.cell? ⟨wr.heap.size, 2, none⟩ = some (.int .i64 dc)) ∧ Hid (wr.heap.size < wq.heap.size))
   case first =>
    by_cases h1 : dn = n
    case neg =>
     have g1 : (dn == n) = false := beq_false_of_ne h1
     go_region_held (fun u => u.cell? ⟨wr.heap.size, 0, none⟩ = some (.int .i64 dn) ∧ u.cell? ⟨wr.heap.size, 1, none⟩ = some (.int .i64 dl) ∧ u.cell? ⟨wr.heap.size, 2, none⟩ = some (.int .i64 dc) ∧ u.cell? ⟨w.heap.size + 1, 0, none⟩ = some (.int .i64 n) ∧ u.cell? ⟨w.heap.size + 1, 1, none⟩ = some (.int .i64 l))
      (first
       | exact ⟨p0, p1, p2, p3, p4⟩
       | exact ⟨s0, s1, s2, s3, s4⟩
       | exact ⟨r0, r1, r2, r3, r4⟩)
      (first
       | (go_at_call 223
          refine (first_any ⟨dn, dl, dc⟩ _).mono ?_
          rintro e w2 ⟨rfl, hb2⟩
          have HB2 := Lib.hid (HW1.out.drew.trans (hb2.mono HW1.out.size))
          have HC2 := Lib.hid (Nat.lt_of_lt_of_le HC1.out hb2.size)
          have r0 := old_cell hb2 HC1.out p0
          have r1 := old_cell hb2 HC1.out p1
          have r2 := old_cell hb2 HC1.out p2
          have r3 := old_cell hb2 (Nat.lt_trans HSW.out HC1.out) p3
          have r4 := old_cell hb2 (Nat.lt_trans HSW.out HC1.out) p4
          clear hb2)
       | (go_at_call 248
          refine (actor_any ⟨dn, dl, dc⟩ _).mono ?_
          rintro e w3 ⟨rfl, hb3⟩
          have HB3 := Lib.hid (HB2.out.trans (hb3.mono HB2.out.size))
          have HS3 := Lib.hid hb3.size
          have s0 := old_cell hb3 HC2.out r0
          have s1 := old_cell hb3 HC2.out r1
          have s2 := old_cell hb3 HC2.out r2
          have s3 := old_cell hb3 (Nat.lt_trans HSW.out HC2.out) r3
          have s4 := old_cell hb3 (Nat.lt_trans HSW.out HC2.out) r4
          clear hb3)
       | fail)
     go_wp2_with fail
     go_meet
     case rel => exact ⟨by simp [h1], HB3, Lib.hid s2, Lib.hid (Nat.lt_of_lt_of_le HC2.out HS3.out)⟩
    case pos =>
    have h1' := h1.symm
    subst h1'
    clear h1
    by_cases h2 : dl = l
    case neg =>
     have g2 : (dl == l) = false := beq_false_of_ne h2
     go_region_held (fun u => u.cell? ⟨wr.heap.size, 0, none⟩ = some (.int .i64 n) ∧ u.cell? ⟨wr.heap.size, 1, none⟩ = some (.int .i64 dl) ∧ u.cell? ⟨wr.heap.size, 2, none⟩ = some (.int .i64 dc) ∧ u.cell? ⟨w.heap.size + 1, 0, none⟩ = some (.int .i64 n) ∧ u.cell? ⟨w.heap.size + 1, 1, none⟩ = some (.int .i64 l))
      (first
       | exact ⟨p0, p1, p2, p3, p4⟩
       | exact ⟨s0, s1, s2, s3, s4⟩
       | exact ⟨r0, r1, r2, r3, r4⟩)
      (first
       | (go_at_call 223
          refine (first_any ⟨n, dl, dc⟩ _).mono ?_
          rintro e w2 ⟨rfl, hb2⟩
          have HB2 := Lib.hid (HW1.out.drew.trans (hb2.mono HW1.out.size))
          have HC2 := Lib.hid (Nat.lt_of_lt_of_le HC1.out hb2.size)
          have r0 := old_cell hb2 HC1.out p0
          have r1 := old_cell hb2 HC1.out p1
          have r2 := old_cell hb2 HC1.out p2
          have r3 := old_cell hb2 (Nat.lt_trans HSW.out HC1.out) p3
          have r4 := old_cell hb2 (Nat.lt_trans HSW.out HC1.out) p4
          clear hb2)
       | (go_at_call 248
          refine (actor_any ⟨n, dl, dc⟩ _).mono ?_
          rintro e w3 ⟨rfl, hb3⟩
          have HB3 := Lib.hid (HB2.out.trans (hb3.mono HB2.out.size))
          have HS3 := Lib.hid hb3.size
          have s0 := old_cell hb3 HC2.out r0
          have s1 := old_cell hb3 HC2.out r1
          have s2 := old_cell hb3 HC2.out r2
          have s3 := old_cell hb3 (Nat.lt_trans HSW.out HC2.out) r3
          have s4 := old_cell hb3 (Nat.lt_trans HSW.out HC2.out) r4
          clear hb3)
       | fail)
     go_wp2_with fail
     go_meet
     case rel => exact ⟨by simp [h2], HB3, Lib.hid s2, Lib.hid (Nat.lt_of_lt_of_le HC2.out HS3.out)⟩
    case pos =>
    have h2' := h2.symm
    subst h2'
    clear h2
    go_region_held (fun u => u.cell? ⟨wr.heap.size, 0, none⟩ = some (.int .i64 n) ∧ u.cell? ⟨wr.heap.size, 1, none⟩ = some (.int .i64 l) ∧ u.cell? ⟨wr.heap.size, 2, none⟩ = some (.int .i64 dc) ∧ u.cell? ⟨w.heap.size + 1, 0, none⟩ = some (.int .i64 n) ∧ u.cell? ⟨w.heap.size + 1, 1, none⟩ = some (.int .i64 l))
     (first
      | exact ⟨p0, p1, p2, p3, p4⟩
      | exact ⟨s0, s1, s2, s3, s4⟩
      | exact ⟨r0, r1, r2, r3, r4⟩)
     (first
      | (go_at_call 223
         refine (first_any ⟨n, l, dc⟩ _).mono ?_
         rintro e w2 ⟨rfl, hb2⟩
         have HB2 := Lib.hid (HW1.out.drew.trans (hb2.mono HW1.out.size))
         have HC2 := Lib.hid (Nat.lt_of_lt_of_le HC1.out hb2.size)
         have r0 := old_cell hb2 HC1.out p0
         have r1 := old_cell hb2 HC1.out p1
         have r2 := old_cell hb2 HC1.out p2
         have r3 := old_cell hb2 (Nat.lt_trans HSW.out HC1.out) p3
         have r4 := old_cell hb2 (Nat.lt_trans HSW.out HC1.out) p4
         clear hb2)
      | (go_at_call 248
         refine (actor_any ⟨n, l, dc⟩ _).mono ?_
         rintro e w3 ⟨rfl, hb3⟩
         have HB3 := Lib.hid (HB2.out.trans (hb3.mono HB2.out.size))
         have HS3 := Lib.hid hb3.size
         have s0 := old_cell hb3 HC2.out r0
         have s1 := old_cell hb3 HC2.out r1
         have s2 := old_cell hb3 HC2.out r2
         have s3 := old_cell hb3 (Nat.lt_trans HSW.out HC2.out) r3
         have s4 := old_cell hb3 (Nat.lt_trans HSW.out HC2.out) r4
         clear hb3)
      | fail)
    go_wp2_with fail
    go_meet
    case rel => exact ⟨by simp, HB3, Lib.hid s2, Lib.hid (Nat.lt_of_lt_of_le HC2.out HS3.out)⟩
   case rest =>
   obtain ⟨rfl, HBq, Hc2, HSq⟩ := hcut
   have hm2 := HM2.out
   have HBW := Lib.hid (HB0.out.trans (HBq.out.mono HB0.out.size))
   have y2 := Hc2.out
   clear p0 p1 p2 p3 p4
   obtain ⟨q, hq⟩ : ∃ q, (decide (dn = n) && decide (dl = l)) = q := ⟨_, rfl⟩
   rw [hq]
   cases q
   ·rw [if_neg (fun h => by rw [h.1, h.2] at hq; simp at hq)] at hm2
    have HM3 := Lib.hid hm2
    clear hm2 hq
    go_wp2_with fail
    exact ⟨⟨k + 1, by omega, by go_num, HBq, HM3⟩, by simp [intOf]; omega⟩
   ·rw [if_pos (by simpa using hq)] at hm2
    have HF := Lib.hid hm2
    clear hm2 hq
    go_wp2_with fail
    go_ret
    exact ⟨by rw [← HF.out]; rfl, HBW.out⟩
  ·have HF : Hid (markOf ms n l = 0) := Lib.hid (by have := HM.out; rw [List.drop_of_length_le (by omega)] at this; exact this.symm)
   go_wp2_with fail
   go_ret
   exact ⟨by rw [HF.out]; rfl, HB0.out.trans (HB.out.mono HB0.out.size)⟩
end Go.Proofs.YtpdedfpacklnoaaGreatDoor
namespace Go.Proofs.YtpdedfpacklnoaaGreatDoor
open Go.RowKit Go.BL Go.Ct Go.Sl

abbrev Env := H.Env
abbrev Tab := T.Tab
theorem itoa_any (n : Int) (h0 : -9223372036854775808 ≤ n) (h1 : n ≤ 9223372036854775807) (w : World) (htab : Tab w) : Calls Tryz.prog 63 #[.int .i64 n] w (RetV (.string ⟨(Lib.itoa n).toArray⟩) w) := by
 refine (Tryz.strconv_Itoa n h0 h1 w htab).mono ?_
 rintro e w' ⟨rfl, k, os, rfl⟩
 exact ⟨rfl, T.below_grow_drewN w k os⟩
/-- The cells of the library's two errors hold some errors. -/
def Errs (w : World) : Prop := (∃ t p, w.cell? ⟨3, 0, none⟩ = some (.iface t p)) ∧ ∃ t p, w.cell? ⟨4, 0, none⟩ = some (.iface t p)
theorem Errs.below {w w' : World} (h : Errs w) (hb : Below w.heap.size w w') : Errs w' := by
 obtain ⟨⟨t, p, h1⟩, u, q, h2⟩ := h
 exact ⟨⟨t, p, (hb.cell (lt_block h1)).trans h1⟩, u, q, (hb.cell (lt_block h2)).trans h2⟩
def atoiOk (v : List UInt8) : Bool := match Lib.atoiAll v with
 | .ok _ => true
 | _ => false
/-- A number and no error, or a number and some error. -/
def AtoR (v : List UInt8) (w : World) (e : Ending) (w' : World) : Prop :=
 Below w.heap.size w w' ∧ ((∃ n : Int, e = .returned (.tuple #[.int .i64 n, .nilIface]) ∧ Lib.atoiAll v = .ok n ∧ -9223372036854775808 ≤ n ∧ n ≤ 9223372036854775807) ∨
  (∃ (n : Int) (t : TypeId) (p : Value), e = .returned (.tuple #[.int .i64 n, .iface t p]) ∧ piecesL v = none))
theorem atoi_any (v : List UInt8) (hv : v.length ≤ 1073741824) (w : World) (he : Errs w) : Calls Tryz.prog 103 #[.string ⟨v.toArray⟩] w (AtoR v w) := by
 obtain ⟨⟨t1, p1, c1⟩, t2, p2, c2⟩ := he
 have hsz : (⟨v.toArray⟩ : ByteArray).size ≤ 1073741824 := hv
 rcases hr : Lib.atoiAll v with n | _ | _
 ·refine (Any.strconv_Atoi_ok Tryz.laysC172 ⟨v.toArray⟩ (by omega) n hr w).mono ?_
  rintro e w' ⟨rfl, h⟩
  have hb := Lib.atoiAll_bounds hr
  refine ⟨?_, .inl ⟨n, rfl, hr, hb⟩⟩
  rcases h with rfl | ⟨t, rfl⟩
  ·exact Below.refl _ _
  ·exact Lib.bytesWorld_below w _ _
 ·refine (Any.strconv_Atoi_syntax Tryz.laysC172 ⟨v.toArray⟩ (by omega) hr (.iface t1 p1) w c1 (.inr ⟨t1, p1, rfl⟩)).mono ?_
  rintro e w' ⟨N, rfl, _, _, hb⟩
  exact ⟨hb, .inr ⟨_, _, _, rfl, by unfold piecesL; rw [hr]⟩⟩
 ·refine (Any.strconv_Atoi_range Tryz.laysC172 ⟨v.toArray⟩ (by omega) hr (.iface t2 p2) w c2 (.inr ⟨t2, p2, rfl⟩)).mono ?_
  rintro e w' ⟨N, rfl, _, _, hb⟩
  exact ⟨hb, .inr ⟨_, _, _, rfl, by unfold piecesL; rw [hr]⟩⟩
/-- A number of pieces, and whether it is one. -/
def PieR (o : Option Nat) (w : World) (e : Ending) (w' : World) : Prop :=
 Below w.heap.size w w' ∧ ∃ n : Int, e = .returned (.tuple #[.int .i64 n, .bool o.isSome]) ∧ ∀ k, o = some k → n = (k : Int)
set_option maxHeartbeats 2000000 in
set_option maxRecDepth 100000 in
theorem pieces_any (v : List UInt8) (hv : v.length ≤ 1073741824) (w : World) (he : Errs w) (ht : Tab w) : Calls Tryz.prog 58 #[.string ⟨v.toArray⟩] w (PieR (piecesL v) w) := by
 have hat := atoi_any v hv w he
 have HT := Lib.hid ht
 clear he ht
 go_enter Tryz.func58, Tryz.ntmps58
 go_wp2_with fail
 go_at_call 103
 refine hat.mono ?_
 clear hat
 rintro e w1 ⟨hb1, (⟨n, rfl, hn, h0, h1⟩ | ⟨n, t, p, rfl, hn⟩)⟩
 ·have HB1 := Lib.hid hb1
  have HN := Lib.hid hn
  clear hb1 hn
  by_cases g1 : 1 ≤ n
  case neg =>
   have HF : Hid (piecesL v = none) := Lib.hid (by unfold piecesL; rw [HN.out]; dsimp only; rw [if_neg (fun h => g1 h.1)])
   go_wp2_with fail
   go_ret2
   exact ⟨HB1.out, n, by rw [HF.out]; rfl, fun k hk => by rw [HF.out] at hk; cases hk⟩
  by_cases g2 : n ≤ 1000000
  case neg =>
   have HF : Hid (piecesL v = none) := Lib.hid (by unfold piecesL; rw [HN.out]; dsimp only; rw [if_neg (fun h => g2 h.2.1)])
   go_wp2_with fail
   go_ret2
   exact ⟨HB1.out, n, by rw [HF.out]; rfl, fun k hk => by rw [HF.out] at hk; cases hk⟩
  have hib := fun w => itoa_any n h0 h1 w
  obtain ⟨J, hJ⟩ : ∃ x, Lib.itoa n = x := ⟨_, rfl⟩
  rw [hJ] at hib
  obtain ⟨q, hq⟩ : ∃ q, (J == v) = q := ⟨_, rfl⟩
  have HF : Hid (piecesL v = if q = true then some n.toNat else none) := Lib.hid (by
   unfold piecesL
   rw [HN.out, ← hq]
   dsimp only
   rw [hJ]
   by_cases hjv : J = v
   ·rw [if_pos ⟨g1, g2, hjv⟩, if_pos (by simpa using hjv)]
   ·rw [if_neg (fun h => hjv h.2.2), if_neg (by simpa using hjv)])
  clear hJ
  go_wp2_with (go_at_call 63; refine (hib _ (HT.out.below HB1.out)).mono ?_; rintro e w2 ⟨rfl, hb2⟩; have HB2 := Lib.hid (HB1.out.trans (hb2.mono HB1.out.size)); clear hb2)
  go_ret2
  refine ⟨HB2.out, n, ?_, fun k hk => ?_⟩
  ·rw [HF.out]
   cases q <;> rfl
  ·rw [HF.out] at hk
   cases q
   ·cases hk
   ·injection hk with hk; omega
 ·have HB1 := Lib.hid hb1
  have HF := Lib.hid hn
  clear hb1 hn
  go_wp2_with fail
  go_ret2
  exact ⟨HB1.out, n, by rw [HF.out]; rfl, fun k hk => by rw [HF.out] at hk; cases hk⟩
theorem refuse_any (c : Int) (w : World) : Calls Tryz.prog 82 #[.int .i64 c] w fun e w' => e = .returned (.iface 85 (.agg #[.int .i64 c, .int .i64 240])) ∧ w = w' := by
 go_enter Tryz.func82, Tryz.ntmps82
 go_wp2
 go_ret
 exact ⟨rfl, rfl⟩
def pathV (p : List UInt8 × List UInt8 × Nat) : Value := .tuple #[.string ⟨p.1.toArray⟩, .string ⟨p.2.1.toArray⟩, .int .i64 (p.2.2 : Int)]
set_option maxHeartbeats 2000000 in
set_option maxRecDepth 100000 in
theorem path_any (s : List UInt8) (hs : s.length < 4294967281) (w : World) (he : Env w) : Calls Tryz.prog 81 #[.string ⟨s.toArray⟩] w (RetV (pathV (pathL s)) w) := by
 have hsp := H.split_any s [47] (by decide) hs w he
 rw [lns_parts 47 s.length s (Nat.le_refl _)] at hsp
 unfold pathL
 obtain ⟨l, hl⟩ : ∃ l, partsL 47 s = l := ⟨_, rfl⟩
 rw [hl] at hsp ⊢
 clear hl he
 have hlc := H.LC.new w l
 have HB := Lib.hid ((Below.refl w.heap.size w).alloc (Nat.le_refl _) (.cells (H.strs l) 9))
 obtain ⟨w1, hw1⟩ : ∃ w1, w.alloc (.cells (H.strs l) 9) = w1 := ⟨_, rfl⟩
 rw [hw1] at hsp hlc HB
 clear hw1
 have HLC := Lib.hid hlc
 clear hlc
 rcases l with _ | ⟨a, _ | ⟨b, _ | ⟨k, _ | ⟨i, _ | ⟨x, r⟩⟩⟩⟩⟩
 ·go_enter Tryz.func81, Tryz.ntmps81
  go_wp2_with (go_at_call 57; refine hsp.mono ?_; rintro e w' ⟨rfl, rfl⟩)
  go_ret3
  exact ⟨rfl, HB.out⟩
 ·go_enter Tryz.func81, Tryz.ntmps81
  go_wp2_with (go_at_call 57; refine hsp.mono ?_; rintro e w' ⟨rfl, rfl⟩)
  go_ret3
  exact ⟨rfl, HB.out⟩
 ·go_enter Tryz.func81, Tryz.ntmps81
  go_wp2_with (go_at_call 57; refine hsp.mono ?_; rintro e w' ⟨rfl, rfl⟩)
  go_ret3
  exact ⟨rfl, HB.out⟩
 ·have c0 := HLC.out 0 (by simp)
  have c1 := HLC.out 1 (by simp)
  have c2 := HLC.out 2 (by simp)
  simp only [List.getElem_cons_zero, List.getElem_cons_succ] at c0 c1 c2
  dsimp only
  by_cases ha : a = []
  case neg =>
   rw [if_neg (fun h => ha h.1)]
   go_enter Tryz.func81, Tryz.ntmps81
   go_wp2_with (go_at_call 57; refine hsp.mono ?_; rintro e w' ⟨rfl, rfl⟩)
   go_ret3
   exact ⟨rfl, HB.out⟩
  subst ha
  by_cases hb : b = cartT
  case neg =>
   rw [if_neg (fun h => hb h.2)]
   have g1 : (b == [99, 97, 114, 116]) = false := beq_false_of_ne hb
   clear hb
   go_enter Tryz.func81, Tryz.ntmps81
   go_wp2_with (go_at_call 57; refine hsp.mono ?_; rintro e w' ⟨rfl, rfl⟩)
   go_ret3
   exact ⟨rfl, HB.out⟩
  subst hb
  rw [if_pos ⟨rfl, rfl⟩]
  unfold cartT at c1 hsp
  go_enter Tryz.func81, Tryz.ntmps81
  go_wp2_with (go_at_call 57; refine hsp.mono ?_; rintro e w' ⟨rfl, rfl⟩)
  go_ret3
  exact ⟨rfl, HB.out⟩
 ·have c0 := HLC.out 0 (by simp)
  have c1 := HLC.out 1 (by simp)
  have c2 := HLC.out 2 (by simp)
  have c3 := HLC.out 3 (by simp)
  simp only [List.getElem_cons_zero, List.getElem_cons_succ] at c0 c1 c2 c3
  dsimp only
  by_cases ha : a = []
  case neg =>
   rw [if_neg (fun h => ha h.1)]
   go_enter Tryz.func81, Tryz.ntmps81
   go_wp2_with (go_at_call 57; refine hsp.mono ?_; rintro e w' ⟨rfl, rfl⟩)
   go_ret3
   exact ⟨rfl, HB.out⟩
  subst ha
  by_cases hb : b = cartT
  case neg =>
   rw [if_neg (fun h => hb h.2)]
   have g1 : (b == [99, 97, 114, 116]) = false := beq_false_of_ne hb
   clear hb
   go_enter Tryz.func81, Tryz.ntmps81
   go_wp2_with (go_at_call 57; refine hsp.mono ?_; rintro e w' ⟨rfl, rfl⟩)
   go_ret3
   exact ⟨rfl, HB.out⟩
  subst hb
  rw [if_pos ⟨rfl, rfl⟩]
  unfold cartT at c1 hsp
  go_enter Tryz.func81, Tryz.ntmps81
  go_wp2_with (go_at_call 57; refine hsp.mono ?_; rintro e w' ⟨rfl, rfl⟩)
  go_quiet (fail)
  go_wp2_with fail
  go_ret3
  exact ⟨rfl, H.below_drewN HB.out _⟩
 ·have hlen : (4 : Int) < (r.length : Int) + 5 := by omega
  dsimp only
  simp only [List.length_cons] at hsp
  go_enter Tryz.func81, Tryz.ntmps81
  go_wp2_with (go_at_call 57; refine hsp.mono ?_; rintro e w' ⟨rfl, rfl⟩)
  go_ret3
  exact ⟨rfl, HB.out⟩
end Go.Proofs.YtpdedfpacklnoaaGreatDoor
namespace Go.Proofs.YtpdedfpacklnoaaGreatDoor
open Go.RowKit Go.BL Go.Ct Go.Sl

/-- A place, or -1: nought or more just where the dot stands there. -/
def IdxR (b : Bool) (w : World) (e : Ending) (w' : World) : Prop := Below w.heap.size w w' ∧ ∃ i : Int, e = .returned (.int .i64 i) ∧ decide (0 ≤ i) = b
theorem take_mem {l : List Dt} {d : Dt} {k : Nat} (h : k < l.length) (hn : d ∉ l.take k) (hx : l[k] ≠ d) : d ∉ l.take (k + 1) := by
 rw [List.take_succ_eq_append_getElem h, List.mem_append, List.mem_singleton]
 rintro (h1 | h1)
 ·exact hn h1
 ·exact hx h1.symm
set_option maxHeartbeats 2000000 in
set_option maxRecDepth 100000 in
theorem index_any (l : List Dt) (d : Dt) (v : Value) (w : World) (hl : Dots w v l) : Calls Tryz.prog 269 #[v, dotV d] w (IdxR (decide (d ∈ l)) w) := by
 obtain ⟨A, cp, rfl⟩ := hl.form
 obtain ⟨n, m, c⟩ := d
 dsimp only [dotV]
 have hmx := hl.1
 obtain ⟨w0, hw0⟩ : ∃ w0, w.alloc (.cells #[.int .i64 n, .int .i64 m, .int .i64 c] 90) = w0 := ⟨_, rfl⟩
 have HB0 : Hid (Below w.heap.size w w0) := Lib.hid (by rw [← hw0]; exact (Below.refl _ _).alloc (Nat.le_refl _) _)
 have HQ : Hid (w0.cell? ⟨w.heap.size, 0, none⟩ = some (.int .i64 n) ∧ w0.cell? ⟨w.heap.size, 1, none⟩ = some (.int .i64 m) ∧ w0.cell? ⟨w.heap.size, 2, none⟩ = some (.int .i64 c)) := Lib.hid (by rw [← hw0]; exact tri_at w _ _ _ 90 _ rfl)
 have HS0 : Hid (w.heap.size < w0.heap.size) := Lib.hid (by rw [← hw0]; simp)
 have HD := Lib.hid (hl.below HB0.out (Nat.le_refl _))
 clear hl
 go_enter Tryz.func269, Tryz.ntmps269
 go_wp2_with fail
 clear hw0
 go_loopw [8] (fun i wr => ∃ k N : Nat, k ≤ l.length ∧ i = .int .i64 (k : Int) ∧ wr = w0.drewN N ∧ Hid ((⟨n, m, c⟩ : Dt) ∉ l.take k)) (fun i _ => l.length - (intOf i).toNat)
 case atStart => exact ⟨0, 0, by omega, rfl, rfl, Lib.hid (by simp)⟩
 case round =>
  obtain ⟨k, N, hk, rfl, rfl, HN⟩ := hrel
  obtain ⟨q0, q1, q2⟩ := HQ.out
  by_cases hlt : k < l.length
  ·obtain ⟨b, off, rfl, hbl, hc⟩ := dot_cells HD.out (by omega)
   obtain ⟨c1, c2, c3⟩ := hc k hlt
   obtain ⟨⟨dn, dl, dc⟩, hx⟩ : ∃ x, l[k]'hlt = x := ⟨_, rfl⟩
   rw [hx] at c1 c2 c3
   have HX := Lib.hid hx
   clear hc hx hbl
   go_upto_region 4 with fail
   go_cut [16] from 9 to 18 (fun s16 wq => s16 = .bool (decide ((⟨dn, dl, dc⟩ : Dt) = ⟨n, m, c⟩)) ∧ ∃ M, wq = w0.drewN M)
   case first =>
    by_cases h1 : dn = n
    case neg =>
     have g1 : ¬ n = dn := fun h => h1 h.symm
     go_quiet (fail)
     go_wp2_with fail
     go_meet
     case rel => exact ⟨by simp [h1], _, rfl⟩
    case pos =>
    subst h1
    by_cases h2 : dl = m
    case neg =>
     have g2 : ¬ m = dl := fun h => h2 h.symm
     go_quiet (fail)
     go_wp2_with fail
     go_meet
     case rel => exact ⟨by simp [h2], _, rfl⟩
    case pos =>
    subst h2
    by_cases h3 : dc = c
    case neg =>
     have g3 : ¬ c = dc := fun h => h3 h.symm
     go_quiet (fail)
     go_wp2_with fail
     go_meet
     case rel => exact ⟨by simp [h3], _, rfl⟩
    case pos =>
     subst h3
     go_quiet (fail)
     go_wp2_with fail
     go_meet
     case rel => exact ⟨by simp, _, rfl⟩
   case rest =>
   obtain ⟨rfl, M, rfl⟩ := hcut
   by_cases he : (⟨dn, dl, dc⟩ : Dt) = ⟨n, m, c⟩
   ·have HF : Hid (decide ((⟨n, m, c⟩ : Dt) ∈ l) = true) := Lib.hid (decide_eq_true (by rw [← he, ← HX.out]; exact List.getElem_mem hlt))
    rw [decide_eq_true he]
    clear he
    go_wp2_with fail
    go_ret
    exact ⟨H.below_drewN HB0.out _, (k : Int), rfl, by rw [HF.out]; exact decide_eq_true (by omega)⟩
   ·have HN2 := Lib.hid (take_mem hlt HN.out (by rw [HX.out]; exact he))
    rw [decide_eq_false he]
    clear he
    go_wp2_with fail
    exact ⟨⟨k + 1, M, by omega, by go_num, rfl, HN2⟩, by simp [intOf]; omega⟩
  ·have HF : Hid (decide ((⟨n, m, c⟩ : Dt) ∈ l) = false) := Lib.hid (by have := HN.out; rw [List.take_of_length_le (by omega)] at this; exact decide_eq_false this)
   go_wp2_with fail
   go_ret
   exact ⟨H.below_drewN HB0.out _, -1, rfl, by rw [HF.out]; rfl⟩
set_option maxHeartbeats 2000000 in
set_option maxRecDepth 100000 in
theorem contains_any (l : List Dt) (d : Dt) (v : Value) (w : World) (hl : Dots w v l) : Calls Tryz.prog 265 #[v, dotV d] w (RetV (.bool (decide (d ∈ l))) w) := by
 obtain ⟨A, cp, rfl⟩ := hl.form
 have hix := fun w hl => index_any l d (.slice A l.length cp) w hl
 obtain ⟨q, hq⟩ : ∃ q, decide (d ∈ l) = q := ⟨_, rfl⟩
 rw [hq] at hix ⊢
 clear hq
 obtain ⟨n, m, c⟩ := d
 dsimp only [dotV] at hix ⊢
 obtain ⟨w0, hw0⟩ : ∃ w0, w.alloc (.cells #[.int .i64 n, .int .i64 m, .int .i64 c] 90) = w0 := ⟨_, rfl⟩
 have HB0 : Hid (Below w.heap.size w w0) := Lib.hid (by rw [← hw0]; exact (Below.refl _ _).alloc (Nat.le_refl _) _)
 obtain ⟨q0, q1, q2⟩ : w0.cell? ⟨w.heap.size, 0, none⟩ = some (.int .i64 n) ∧ w0.cell? ⟨w.heap.size, 1, none⟩ = some (.int .i64 m) ∧ w0.cell? ⟨w.heap.size, 2, none⟩ = some (.int .i64 c) := by rw [← hw0]; exact tri_at w _ _ _ 90 _ rfl
 have HD := Lib.hid (hl.below HB0.out (Nat.le_refl _))
 clear hl
 go_enter Tryz.func265, Tryz.ntmps265
 go_wp2_with fail
 clear hw0
 go_at_call 269
 refine (hix _ HD.out).mono ?_
 rintro e w1 ⟨hb, i, rfl, hi⟩
 have HB1 := Lib.hid (HB0.out.trans (hb.mono HB0.out.size))
 clear hb hix
 have HI := Lib.hid hi
 clear hi
 go_wp2_with fail
 go_ret
 refine ⟨?_, HB1.out⟩
 rw [← HI.out]
 rfl
end Go.Proofs.YtpdedfpacklnoaaGreatDoor
namespace Go.Proofs.YtpdedfpacklnoaaGreatDoor
open Go.RowKit Go.BL Go.Ct Go.Sl

theorem pputH (P : Program) (f : Func) (R : Ending → World → Prop) (K : Act → World → Prop) (j : Option Tmp) (v : Value) : ∀ c (a : Act) w, Exit.then K (bodyPost P f R) (.panic c) (a.put j v) w → Exit.then K (bodyPost P f R) (.panic c) a w := fun _ _ _ h => by cases j <;> exact h
set_option maxHeartbeats 4000000 in
set_option maxRecDepth 100000 in
theorem covers_any (x : Cx) (d : Dt) (mv cv : Value) (w : World) (hm : Dots w mv x.ms) (hc : Dots w cv x.cl) : Calls Tryz.prog 251 #[.agg #[mv, cv], dotV d] w (RetV (.bool (covers x d)) w) := by
 obtain ⟨A, ac, rfl⟩ := hm.form
 obtain ⟨D, dc, rfl⟩ := hc.form
 obtain ⟨n, l, c⟩ := d
 obtain ⟨ms, cl⟩ := x
 dsimp only [dotV] at hm hc ⊢
 have hac := fun w => actor_any ⟨n, l, c⟩ w
 have hmk := fun w hm => mark_any ms (.slice A ms.length ac) (.slice D cl.length dc) n l w hm
 have hct := fun w hc => contains_any cl ⟨n, l, c⟩ (.slice D cl.length dc) w hc
 dsimp only [dotV] at hac hct
 obtain ⟨mk, hk⟩ : ∃ x, markOf ms n l = x := ⟨_, rfl⟩
 obtain ⟨ct, ht⟩ : ∃ x, decide ((⟨n, l, c⟩ : Dt) ∈ cl) = x := ⟨_, rfl⟩
 rw [hk] at hmk
 rw [ht] at hct
 have HF : Hid (covers ⟨ms, cl⟩ ⟨n, l, c⟩ = (decide (1 ≤ c) && (decide (c ≤ mk) || ct))) := Lib.hid (by unfold covers; dsimp only; rw [hk, ht])
 clear hk ht
 obtain ⟨w0, hw0⟩ : ∃ w0, (w.alloc (.cells #[.slice A ms.length ac, .slice D cl.length dc] 30)).alloc (.cells #[.int .i64 n, .int .i64 l, .int .i64 c] 90) = w0 := ⟨_, rfl⟩
 have HB : Hid (Below w.heap.size w w0) := Lib.hid (by rw [← hw0]; exact ((Below.refl _ _).alloc (Nat.le_refl _) _).alloc (by simp) _)
 have HS : Hid (w.heap.size + 1 < w0.heap.size) := Lib.hid (by rw [← hw0]; simp)
 have HS' : Hid (w.heap.size < w0.heap.size) := Lib.hid (by have := HS.out; omega)
 have HQ : Hid (w0.cell? ⟨w.heap.size + 1, 0, none⟩ = some (.int .i64 n) ∧ w0.cell? ⟨w.heap.size + 1, 1, none⟩ = some (.int .i64 l) ∧ w0.cell? ⟨w.heap.size + 1, 2, none⟩ = some (.int .i64 c)) := Lib.hid (by rw [← hw0]; exact tri_at _ _ _ _ 90 _ (by simp))
 have HP : Hid (w0.cell? ⟨w.heap.size, 0, none⟩ = some (.slice A ms.length ac) ∧ w0.cell? ⟨w.heap.size, 1, none⟩ = some (.slice D cl.length dc)) := Lib.hid (by rw [← hw0]; exact ⟨(World.cell?_alloc_lt _ _ _ (by simp)).trans (pair_at w _ _ 30 _ rfl).1, (World.cell?_alloc_lt _ _ _ (by simp)).trans (pair_at w _ _ 30 _ rfl).2⟩)
 have HM := Lib.hid (hm.below HB.out (Nat.le_refl _))
 have HC := Lib.hid (hc.below HB.out (Nat.le_refl _))
 obtain ⟨q2, q3, q4⟩ := HQ.out
 obtain ⟨q0, q1⟩ := HP.out
 clear hm hc
 go_enter Tryz.func251, Tryz.ntmps251
 go_wp2_with fail
 clear hw0
 by_cases g1 : 1 ≤ c
 case neg =>
  have HV : Hid (covers ⟨ms, cl⟩ ⟨n, l, c⟩ = false) := Lib.hid (by rw [HF.out, decide_eq_false g1]; rfl)
  have g1' : c < 1 := by omega
  refine wp_region_held_drew (S := fun u => u.cell? ⟨w.heap.size, 0, none⟩ = some (.slice A ms.length ac) ∧ u.cell? ⟨w.heap.size, 1, none⟩ = some (.slice D cl.length dc) ∧ u.cell? ⟨w.heap.size + 1, 0, none⟩ = some (.int .i64 n) ∧ u.cell? ⟨w.heap.size + 1, 1, none⟩ = some (.int .i64 l) ∧ u.cell? ⟨w.heap.size + 1, 2, none⟩ = some (.int .i64 c)) (by kernel_rfl) ?_ (fun hHeld => ?_)
  ·exact ⟨q0, q1, q2, q3, q4⟩
  refine wpAnyH_take (i := 0) (v := .pointer (some ⟨w.heap.size + 1, 2, none⟩)) rfl (by kernel_rfl) (by kernel_rfl) (by kernel_rfl) (pputH _ _ _ _ _ _) (Or.inl ⟨by kernel_rfl, ?_⟩) hHeld ?_
  ·intro u hS; obtain ⟨p0, p1, p2, p3, p4⟩ := hS; go_simp
  refine wpAnyH_take (i := 1) (v := .int .i64 c) rfl (by kernel_rfl) (by kernel_rfl) (by kernel_rfl) (pputH _ _ _ _ _ _) (Or.inl ⟨by kernel_rfl, ?_⟩) hHeld ?_
  ·intro u hS; obtain ⟨p0, p1, p2, p3, p4⟩ := hS; go_simp
  refine wpAnyH_take (i := 2) (v := .bool false) rfl (by kernel_rfl) (by kernel_rfl) (by kernel_rfl) (pputH _ _ _ _ _ _) (Or.inl ⟨by kernel_rfl, ?_⟩) hHeld ?_
  ·intro u hS; obtain ⟨p0, p1, p2, p3, p4⟩ := hS; go_simp
  refine wpAnyH_take (i := 3) (v := .bool false) rfl (by kernel_rfl) (by kernel_rfl) (by kernel_rfl) (pputH _ _ _ _ _ _) (Or.inl ⟨by kernel_rfl, ?_⟩) hHeld ?_
  ·intro u hS; obtain ⟨p0, p1, p2, p3, p4⟩ := hS; go_simp
  refine wpAnyH_take (i := 4) (v := undef) rfl (by kernel_rfl) (by kernel_rfl) (by kernel_rfl) (pputH _ _ _ _ _ _) (Or.inr ⟨by kernel_rfl, rfl⟩) hHeld ?_
  refine wpAnyH_take (i := 5) (v := undef) rfl (by kernel_rfl) (by kernel_rfl) (by kernel_rfl) (pputH _ _ _ _ _ _) (Or.inr ⟨by kernel_rfl, rfl⟩) hHeld ?_
  refine wpAnyH_take (i := 6) (v := undef) rfl (by kernel_rfl) (by kernel_rfl) (by kernel_rfl) (pputH _ _ _ _ _ _) (Or.inr ⟨by kernel_rfl, rfl⟩) hHeld ?_
  refine wpAnyH_take (i := 7) (v := undef) rfl (by kernel_rfl) (by kernel_rfl) (by kernel_rfl) (pputH _ _ _ _ _ _) (Or.inr ⟨by kernel_rfl, rfl⟩) hHeld ?_
  refine wpAnyH_take (i := 8) (v := undef) rfl (by kernel_rfl) (by kernel_rfl) (by kernel_rfl) (pputH _ _ _ _ _ _) (Or.inr ⟨by kernel_rfl, rfl⟩) hHeld ?_
  refine wpAnyH_take (i := 9) (v := undef) rfl (by kernel_rfl) (by kernel_rfl) (by kernel_rfl) (pputH _ _ _ _ _ _) (Or.inr ⟨by kernel_rfl, rfl⟩) hHeld ?_
  refine wpAnyH_take (i := 10) (v := undef) rfl (by kernel_rfl) (by kernel_rfl) (by kernel_rfl) (pputH _ _ _ _ _ _) (Or.inr ⟨by kernel_rfl, rfl⟩) hHeld ?_
  refine wpAnyH_take (i := 11) (v := undef) rfl (by kernel_rfl) (by kernel_rfl) (by kernel_rfl) (pputH _ _ _ _ _ _) (Or.inr ⟨by kernel_rfl, rfl⟩) hHeld ?_
  refine wpAnyH_take (i := 12) (v := undef) rfl (by kernel_rfl) (by kernel_rfl) (by kernel_rfl) (pputH _ _ _ _ _ _) (Or.inr ⟨by kernel_rfl, rfl⟩) hHeld ?_
  refine wpAnyH_take (i := 13) (v := undef) rfl (by kernel_rfl) (by kernel_rfl) (by kernel_rfl) (pputH _ _ _ _ _ _) (Or.inr ⟨by kernel_rfl, rfl⟩) hHeld ?_
  refine wpAnyH_take (i := 14) (v := undef) rfl (by kernel_rfl) (by kernel_rfl) (by kernel_rfl) (pputH _ _ _ _ _ _) (Or.inr ⟨by kernel_rfl, rfl⟩) hHeld ?_
  refine wpAnyH_take (i := 15) (v := undef) rfl (by kernel_rfl) (by kernel_rfl) (by kernel_rfl) (pputH _ _ _ _ _ _) (Or.inr ⟨by kernel_rfl, rfl⟩) hHeld ?_
  refine wpAnyH_take (i := 16) (v := undef) rfl (by kernel_rfl) (by kernel_rfl) (by kernel_rfl) (pputH _ _ _ _ _ _) (Or.inr ⟨by kernel_rfl, rfl⟩) hHeld ?_
  refine wpAnyH_ready (rs := [17]) (by kernel_rfl) (by simp) ?_
  refine AllReadyH.cons (i := 17) rfl (fun K hK => ?_) AllReadyH.nil
  go_simp
  refine hK.out _ _ ?_ (fun hHeld => ?_)
  ·exact ⟨q0, q1, q2, q3, q4⟩
  clear hK K
  refine wpAnyH_ready (rs := [18]) (by kernel_rfl) (by simp) ?_
  refine AllReadyH.cons (i := 18) rfl (fun K hK => ?_) AllReadyH.nil
  go_simp
  refine hK.out _ _ ?_ (fun hHeld => ?_)
  ·exact ⟨q0, q1, q2, q3, q4⟩
  clear hK K
  refine wpAnyH_done (by kernel_rfl) ?_ _
  go_wp2_with fail
  go_ret
  refine ⟨?_, HB.out.trans ((Below.refl w0.heap.size w0).drew.mono HB.out.size)⟩
  rw [HV.out]
  rfl
 by_cases g2 : c ≤ mk
 case pos =>
  have HV : Hid (covers ⟨ms, cl⟩ ⟨n, l, c⟩ = true) := Lib.hid (by rw [HF.out, decide_eq_true g1, decide_eq_true g2]; rfl)
  refine wp_region_held_drew (S := fun u => u.cell? ⟨w.heap.size, 0, none⟩ = some (.slice A ms.length ac) ∧ u.cell? ⟨w.heap.size, 1, none⟩ = some (.slice D cl.length dc) ∧ u.cell? ⟨w.heap.size + 1, 0, none⟩ = some (.int .i64 n) ∧ u.cell? ⟨w.heap.size + 1, 1, none⟩ = some (.int .i64 l) ∧ u.cell? ⟨w.heap.size + 1, 2, none⟩ = some (.int .i64 c)) (by kernel_rfl) ?_ (fun hHeld => ?_)
  ·exact ⟨q0, q1, q2, q3, q4⟩
  refine wpAnyH_take (i := 0) (v := .pointer (some ⟨w.heap.size + 1, 2, none⟩)) rfl (by kernel_rfl) (by kernel_rfl) (by kernel_rfl) (pputH _ _ _ _ _ _) (Or.inl ⟨by kernel_rfl, ?_⟩) hHeld ?_
  ·intro u hS; obtain ⟨p0, p1, p2, p3, p4⟩ := hS; go_simp
  refine wpAnyH_take (i := 1) (v := .int .i64 c) rfl (by kernel_rfl) (by kernel_rfl) (by kernel_rfl) (pputH _ _ _ _ _ _) (Or.inl ⟨by kernel_rfl, ?_⟩) hHeld ?_
  ·intro u hS; obtain ⟨p0, p1, p2, p3, p4⟩ := hS; go_simp
  refine wpAnyH_take (i := 2) (v := .bool true) rfl (by kernel_rfl) (by kernel_rfl) (by kernel_rfl) (pputH _ _ _ _ _ _) (Or.inl ⟨by kernel_rfl, ?_⟩) hHeld ?_
  ·intro u hS; obtain ⟨p0, p1, p2, p3, p4⟩ := hS; go_simp
  refine wpAnyH_take (i := 3) (v := .bool true) rfl (by kernel_rfl) (by kernel_rfl) (by kernel_rfl) (pputH _ _ _ _ _ _) (Or.inl ⟨by kernel_rfl, ?_⟩) hHeld ?_
  ·intro u hS; obtain ⟨p0, p1, p2, p3, p4⟩ := hS; go_simp
  refine wpAnyH_take (i := 4) (v := .pointer (some ⟨w.heap.size + 1, 2, none⟩)) rfl (by kernel_rfl) (by kernel_rfl) (by kernel_rfl) (pputH _ _ _ _ _ _) (Or.inl ⟨by kernel_rfl, ?_⟩) hHeld ?_
  ·intro u hS; obtain ⟨p0, p1, p2, p3, p4⟩ := hS; go_simp
  refine wpAnyH_take (i := 5) (v := .int .i64 c) rfl (by kernel_rfl) (by kernel_rfl) (by kernel_rfl) (pputH _ _ _ _ _ _) (Or.inl ⟨by kernel_rfl, ?_⟩) hHeld ?_
  ·intro u hS; obtain ⟨p0, p1, p2, p3, p4⟩ := hS; go_simp
  refine wpAnyH_take (i := 6) (v := .agg #[.slice A ms.length ac, .slice D cl.length dc]) rfl (by kernel_rfl) (by kernel_rfl) (by kernel_rfl) (pputH _ _ _ _ _ _) (Or.inl ⟨by kernel_rfl, ?_⟩) hHeld ?_
  ·intro u hS; obtain ⟨p0, p1, p2, p3, p4⟩ := hS; go_simp
  refine wpAnyH_take (i := 7) (v := .agg #[.int .i64 n, .int .i64 l, .int .i64 c]) rfl (by kernel_rfl) (by kernel_rfl) (by kernel_rfl) (pputH _ _ _ _ _ _) (Or.inl ⟨by kernel_rfl, ?_⟩) hHeld ?_
  ·intro u hS; obtain ⟨p0, p1, p2, p3, p4⟩ := hS; go_simp
  refine wpAnyH_ready (rs := [8]) (by kernel_rfl) (by simp) ?_
  refine AllReadyH.cons (i := 8) rfl (fun K hK => ?_) AllReadyH.nil
  go_simp
  go_at_call 248
  refine (hac _).mono ?_
  rintro e w2 ⟨rfl, hb⟩
  have HB2 := Lib.hid ((Below.refl w0.heap.size w0).drew.trans hb)
  clear hb
  have k0 := old_cell HB2.out (HS'.out) q0
  have k1 := old_cell HB2.out (HS'.out) q1
  have k2 := old_cell HB2.out (HS.out) q2
  have k3 := old_cell HB2.out (HS.out) q3
  have k4 := old_cell HB2.out (HS.out) q4
  refine hK.out _ _ ?_ (fun hHeld => ?_)
  ·exact ⟨k0, k1, k2, k3, k4⟩
  clear hK K
  refine wpAnyH_ready (rs := [9]) (by kernel_rfl) (by simp) ?_
  refine AllReadyH.cons (i := 9) rfl (fun K hK => ?_) AllReadyH.nil
  go_simp
  go_at_call 247
  refine (hmk _ (HM.out.below HB2.out (Nat.le_refl _))).mono ?_
  rintro e w3 ⟨rfl, hb⟩
  have HB3 := Lib.hid (HB2.out.trans (hb.mono HB2.out.size))
  clear hb
  have j0 := old_cell HB3.out (HS'.out) q0
  have j1 := old_cell HB3.out (HS'.out) q1
  have j2 := old_cell HB3.out (HS.out) q2
  have j3 := old_cell HB3.out (HS.out) q3
  have j4 := old_cell HB3.out (HS.out) q4
  refine hK.out _ _ ?_ (fun hHeld => ?_)
  ·exact ⟨j0, j1, j2, j3, j4⟩
  clear hK K
  refine wpAnyH_take (i := 10) (v := .bool true) rfl (by kernel_rfl) (by kernel_rfl) (by kernel_rfl) (pputH _ _ _ _ _ _) (Or.inl ⟨by kernel_rfl, ?_⟩) hHeld ?_
  ·intro u hS; obtain ⟨p0, p1, p2, p3, p4⟩ := hS; go_simp
  refine wpAnyH_take (i := 11) (v := .bool true) rfl (by kernel_rfl) (by kernel_rfl) (by kernel_rfl) (pputH _ _ _ _ _ _) (Or.inl ⟨by kernel_rfl, ?_⟩) hHeld ?_
  ·intro u hS; obtain ⟨p0, p1, p2, p3, p4⟩ := hS; go_simp
  refine wpAnyH_take (i := 12) (v := undef) rfl (by kernel_rfl) (by kernel_rfl) (by kernel_rfl) (pputH _ _ _ _ _ _) (Or.inr ⟨by kernel_rfl, rfl⟩) hHeld ?_
  refine wpAnyH_take (i := 13) (v := undef) rfl (by kernel_rfl) (by kernel_rfl) (by kernel_rfl) (pputH _ _ _ _ _ _) (Or.inr ⟨by kernel_rfl, rfl⟩) hHeld ?_
  refine wpAnyH_take (i := 14) (v := undef) rfl (by kernel_rfl) (by kernel_rfl) (by kernel_rfl) (pputH _ _ _ _ _ _) (Or.inr ⟨by kernel_rfl, rfl⟩) hHeld ?_
  refine wpAnyH_take (i := 15) (v := undef) rfl (by kernel_rfl) (by kernel_rfl) (by kernel_rfl) (pputH _ _ _ _ _ _) (Or.inr ⟨by kernel_rfl, rfl⟩) hHeld ?_
  refine wpAnyH_take (i := 16) (v := .bool true) rfl (by kernel_rfl) (by kernel_rfl) (by kernel_rfl) (pputH _ _ _ _ _ _) (Or.inl ⟨by kernel_rfl, ?_⟩) hHeld ?_
  ·intro u hS; obtain ⟨p0, p1, p2, p3, p4⟩ := hS; go_simp
  refine wpAnyH_ready (rs := [17]) (by kernel_rfl) (by simp) ?_
  refine AllReadyH.cons (i := 17) rfl (fun K hK => ?_) AllReadyH.nil
  go_simp
  refine hK.out _ _ ?_ (fun hHeld => ?_)
  ·exact ⟨j0, j1, j2, j3, j4⟩
  clear hK K
  refine wpAnyH_ready (rs := [18]) (by kernel_rfl) (by simp) ?_
  refine AllReadyH.cons (i := 18) rfl (fun K hK => ?_) AllReadyH.nil
  go_simp
  refine hK.out _ _ ?_ (fun hHeld => ?_)
  ·exact ⟨j0, j1, j2, j3, j4⟩
  clear hK K
  refine wpAnyH_done (by kernel_rfl) ?_ _
  go_wp2_with fail
  go_ret
  refine ⟨?_, HB.out.trans (HB3.out.mono HB.out.size)⟩
  rw [HV.out]
  rfl
 case neg =>
  have HV : Hid (covers ⟨ms, cl⟩ ⟨n, l, c⟩ = ct) := Lib.hid (by rw [HF.out, decide_eq_true g1, decide_eq_false g2]; simp)
  have g2' : mk < c := by omega
  refine wp_region_held_drew (S := fun u => u.cell? ⟨w.heap.size, 0, none⟩ = some (.slice A ms.length ac) ∧ u.cell? ⟨w.heap.size, 1, none⟩ = some (.slice D cl.length dc) ∧ u.cell? ⟨w.heap.size + 1, 0, none⟩ = some (.int .i64 n) ∧ u.cell? ⟨w.heap.size + 1, 1, none⟩ = some (.int .i64 l) ∧ u.cell? ⟨w.heap.size + 1, 2, none⟩ = some (.int .i64 c)) (by kernel_rfl) ?_ (fun hHeld => ?_)
  ·exact ⟨q0, q1, q2, q3, q4⟩
  refine wpAnyH_take (i := 0) (v := .pointer (some ⟨w.heap.size + 1, 2, none⟩)) rfl (by kernel_rfl) (by kernel_rfl) (by kernel_rfl) (pputH _ _ _ _ _ _) (Or.inl ⟨by kernel_rfl, ?_⟩) hHeld ?_
  ·intro u hS; obtain ⟨p0, p1, p2, p3, p4⟩ := hS; go_simp
  refine wpAnyH_take (i := 1) (v := .int .i64 c) rfl (by kernel_rfl) (by kernel_rfl) (by kernel_rfl) (pputH _ _ _ _ _ _) (Or.inl ⟨by kernel_rfl, ?_⟩) hHeld ?_
  ·intro u hS; obtain ⟨p0, p1, p2, p3, p4⟩ := hS; go_simp
  refine wpAnyH_take (i := 2) (v := .bool true) rfl (by kernel_rfl) (by kernel_rfl) (by kernel_rfl) (pputH _ _ _ _ _ _) (Or.inl ⟨by kernel_rfl, ?_⟩) hHeld ?_
  ·intro u hS; obtain ⟨p0, p1, p2, p3, p4⟩ := hS; go_simp
  refine wpAnyH_take (i := 3) (v := .bool true) rfl (by kernel_rfl) (by kernel_rfl) (by kernel_rfl) (pputH _ _ _ _ _ _) (Or.inl ⟨by kernel_rfl, ?_⟩) hHeld ?_
  ·intro u hS; obtain ⟨p0, p1, p2, p3, p4⟩ := hS; go_simp
  refine wpAnyH_take (i := 4) (v := .pointer (some ⟨w.heap.size + 1, 2, none⟩)) rfl (by kernel_rfl) (by kernel_rfl) (by kernel_rfl) (pputH _ _ _ _ _ _) (Or.inl ⟨by kernel_rfl, ?_⟩) hHeld ?_
  ·intro u hS; obtain ⟨p0, p1, p2, p3, p4⟩ := hS; go_simp
  refine wpAnyH_take (i := 5) (v := .int .i64 c) rfl (by kernel_rfl) (by kernel_rfl) (by kernel_rfl) (pputH _ _ _ _ _ _) (Or.inl ⟨by kernel_rfl, ?_⟩) hHeld ?_
  ·intro u hS; obtain ⟨p0, p1, p2, p3, p4⟩ := hS; go_simp
  refine wpAnyH_take (i := 6) (v := .agg #[.slice A ms.length ac, .slice D cl.length dc]) rfl (by kernel_rfl) (by kernel_rfl) (by kernel_rfl) (pputH _ _ _ _ _ _) (Or.inl ⟨by kernel_rfl, ?_⟩) hHeld ?_
  ·intro u hS; obtain ⟨p0, p1, p2, p3, p4⟩ := hS; go_simp
  refine wpAnyH_take (i := 7) (v := .agg #[.int .i64 n, .int .i64 l, .int .i64 c]) rfl (by kernel_rfl) (by kernel_rfl) (by kernel_rfl) (pputH _ _ _ _ _ _) (Or.inl ⟨by kernel_rfl, ?_⟩) hHeld ?_
  ·intro u hS; obtain ⟨p0, p1, p2, p3, p4⟩ := hS; go_simp
  refine wpAnyH_ready (rs := [8]) (by kernel_rfl) (by simp) ?_
  refine AllReadyH.cons (i := 8) rfl (fun K hK => ?_) AllReadyH.nil
  go_simp
  go_at_call 248
  refine (hac _).mono ?_
  rintro e w2 ⟨rfl, hb⟩
  have HB2 := Lib.hid ((Below.refl w0.heap.size w0).drew.trans hb)
  clear hb
  have k0 := old_cell HB2.out (HS'.out) q0
  have k1 := old_cell HB2.out (HS'.out) q1
  have k2 := old_cell HB2.out (HS.out) q2
  have k3 := old_cell HB2.out (HS.out) q3
  have k4 := old_cell HB2.out (HS.out) q4
  refine hK.out _ _ ?_ (fun hHeld => ?_)
  ·exact ⟨k0, k1, k2, k3, k4⟩
  clear hK K
  refine wpAnyH_ready (rs := [9]) (by kernel_rfl) (by simp) ?_
  refine AllReadyH.cons (i := 9) rfl (fun K hK => ?_) AllReadyH.nil
  go_simp
  go_at_call 247
  refine (hmk _ (HM.out.below HB2.out (Nat.le_refl _))).mono ?_
  rintro e w3 ⟨rfl, hb⟩
  have HB3 := Lib.hid (HB2.out.trans (hb.mono HB2.out.size))
  clear hb
  have j0 := old_cell HB3.out (HS'.out) q0
  have j1 := old_cell HB3.out (HS'.out) q1
  have j2 := old_cell HB3.out (HS.out) q2
  have j3 := old_cell HB3.out (HS.out) q3
  have j4 := old_cell HB3.out (HS.out) q4
  refine hK.out _ _ ?_ (fun hHeld => ?_)
  ·exact ⟨j0, j1, j2, j3, j4⟩
  clear hK K
  refine wpAnyH_take (i := 10) (v := .bool false) rfl (by kernel_rfl) (by kernel_rfl) (by kernel_rfl) (pputH _ _ _ _ _ _) (Or.inl ⟨by kernel_rfl, ?_⟩) hHeld ?_
  ·intro u hS; obtain ⟨p0, p1, p2, p3, p4⟩ := hS; go_simp
  refine wpAnyH_take (i := 11) (v := .bool false) rfl (by kernel_rfl) (by kernel_rfl) (by kernel_rfl) (pputH _ _ _ _ _ _) (Or.inl ⟨by kernel_rfl, ?_⟩) hHeld ?_
  ·intro u hS; obtain ⟨p0, p1, p2, p3, p4⟩ := hS; go_simp
  refine wpAnyH_take (i := 12) (v := .pointer (some ⟨w.heap.size, 1, none⟩)) rfl (by kernel_rfl) (by kernel_rfl) (by kernel_rfl) (pputH _ _ _ _ _ _) (Or.inl ⟨by kernel_rfl, ?_⟩) hHeld ?_
  ·intro u hS; obtain ⟨p0, p1, p2, p3, p4⟩ := hS; go_simp
  refine wpAnyH_take (i := 13) (v := .slice D cl.length dc) rfl (by kernel_rfl) (by kernel_rfl) (by kernel_rfl) (pputH _ _ _ _ _ _) (Or.inl ⟨by kernel_rfl, ?_⟩) hHeld ?_
  ·intro u hS; obtain ⟨p0, p1, p2, p3, p4⟩ := hS; go_simp
  refine wpAnyH_take (i := 14) (v := .agg #[.int .i64 n, .int .i64 l, .int .i64 c]) rfl (by kernel_rfl) (by kernel_rfl) (by kernel_rfl) (pputH _ _ _ _ _ _) (Or.inl ⟨by kernel_rfl, ?_⟩) hHeld ?_
  ·intro u hS; obtain ⟨p0, p1, p2, p3, p4⟩ := hS; go_simp
  refine wpAnyH_ready (rs := [15]) (by kernel_rfl) (by simp) ?_
  refine AllReadyH.cons (i := 15) rfl (fun K hK => ?_) AllReadyH.nil
  go_simp
  go_at_call 265
  refine (hct _ (HC.out.below HB3.out (Nat.le_refl _))).mono ?_
  rintro e w4 ⟨rfl, hb⟩
  have HB4 := Lib.hid (HB3.out.trans (hb.mono HB3.out.size))
  clear hb
  have i0 := old_cell HB4.out (HS'.out) q0
  have i1 := old_cell HB4.out (HS'.out) q1
  have i2 := old_cell HB4.out (HS.out) q2
  have i3 := old_cell HB4.out (HS.out) q3
  have i4 := old_cell HB4.out (HS.out) q4
  refine hK.out _ _ ?_ (fun hHeld => ?_)
  ·exact ⟨i0, i1, i2, i3, i4⟩
  clear hK K
  refine wpAnyH_take (i := 16) (v := .bool ct) rfl (by kernel_rfl) (by kernel_rfl) (by kernel_rfl) (pputH _ _ _ _ _ _) (Or.inl ⟨by kernel_rfl, ?_⟩) hHeld ?_
  ·intro u hS; obtain ⟨p0, p1, p2, p3, p4⟩ := hS; go_simp
  refine wpAnyH_ready (rs := [17]) (by kernel_rfl) (by simp) ?_
  refine AllReadyH.cons (i := 17) rfl (fun K hK => ?_) AllReadyH.nil
  go_simp
  refine hK.out _ _ ?_ (fun hHeld => ?_)
  ·exact ⟨i0, i1, i2, i3, i4⟩
  clear hK K
  refine wpAnyH_ready (rs := [18]) (by kernel_rfl) (by simp) ?_
  refine AllReadyH.cons (i := 18) rfl (fun K hK => ?_) AllReadyH.nil
  go_simp
  refine hK.out _ _ ?_ (fun hHeld => ?_)
  ·exact ⟨i0, i1, i2, i3, i4⟩
  clear hK K
  refine wpAnyH_done (by kernel_rfl) ?_ _
  go_wp2_with fail
  go_ret
  refine ⟨?_, HB.out.trans (HB4.out.mono HB.out.size)⟩
  rw [HV.out]
  rfl
end Go.Proofs.YtpdedfpacklnoaaGreatDoor
