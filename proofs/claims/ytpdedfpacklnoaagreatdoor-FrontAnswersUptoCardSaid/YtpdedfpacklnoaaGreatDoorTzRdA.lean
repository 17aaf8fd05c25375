/- Contracts of ormap.above: by rank; of what ormap.items hands over, one stretch of like items after another. Words on regions within a round of a range over a function: as ahead of it. Contract of ormap.Read: readL. Contract of ormap.above: by rank. -/
import Derived.Test.YtpdedfpacklnoaaGreatDoorTzTkQ
import Derived.Test.YtpdedfpacklnoaaGreatDoorTzTkI
import Derived.Test.YtpdedfpacklnoaaGreatDoorTzRdP
import Derived.RangeFuncWrites
import Derived.RangeFuncLeaves
import Derived.RangeFuncCalls
import Derived.OwnWalkIn
import Derived.TacticsInMore
import Derived.LoopNIn
import Derived.LoopIn
import Derived.RegionIn
import Derived.Shelf.RegionOpen
import Derived.Sort.QuietIn
import Derived.Test.YtpdedfpacklnoaaGreatDoorTzML
import Derived.OrdersIn
set_option maxRecDepth 100000
namespace Go.Proofs.YtpdedfpacklnoaaGreatDoor
open Go.RowKit Go.BL Go.Ct Go.Sl Go.Fl Ieee
attribute [local go_sem] Oper.semAt_some

theorem order_pp {a b : Nat} (ha : a ≤ 9218868437227405312) (hb : b ≤ 9218868437227405312) : double.order a b = some (compare a b) := by
 rcases Nat.lt_or_ge b 9218868437227405312 with h | h
 ·exact order_le ha h
 ·obtain rfl : b = 9218868437227405312 := by omega
  rcases Nat.lt_or_ge a 9218868437227405312 with h2 | h2
  ·unfold Format.order
   rw [read_inf, read_pos h2, Nat.compare_eq_lt.2 h2]
   rfl
  ·obtain rfl : a = 9218868437227405312 := by omega
   decide
theorem read_mz : double.read 9223372036854775808 = .number true 0 (plc 0) := by decide
theorem read_z : double.read 0 = .number false 0 (plc 0) := by decide
theorem order_mzl (b : Nat) : double.order 9223372036854775808 b = double.order 0 b := by
 unfold Format.order
 rw [read_mz, read_z]
 cases double.read b <;> simp [Datum.order, signed]
theorem order_mzr (a : Nat) : double.order a 9223372036854775808 = double.order a 0 := by
 unfold Format.order
 rw [read_mz, read_z]
 cases double.read a <;> simp [Datum.order, signed]
theorem above_eq {a b : Nat} (ha : isPrice a = true) (hb : isPrice b = true) :
  ((FloatKind.f64.format.order a b == some Ordering.gt) || ((FloatKind.f64.format.order a b == some Ordering.eq) && decide (9223372036854775808 ≤ b) && !decide (9223372036854775808 ≤ a))) = decide (rankN b < rankN a) := by
 show ((double.order a b == some Ordering.gt) || ((double.order a b == some Ordering.eq) && decide (9223372036854775808 ≤ b) && !decide (9223372036854775808 ≤ a))) = decide (rankN b < rankN a)
 unfold isPrice at ha hb
 simp only [Bool.or_eq_true, decide_eq_true_eq] at ha hb
 have key : ∀ x y : Nat, x ≤ 9218868437227405312 → y ≤ 9218868437227405312 → (double.order x y == some Ordering.gt) = decide (y < x) ∧ (double.order x y == some Ordering.eq) = decide (x = y) := by
  intro x y hx hy
  rw [order_pp hx hy]
  rcases Nat.lt_trichotomy x y with h | h | h
  ·rw [Nat.compare_eq_lt.2 h, decide_eq_false (by omega), decide_eq_false (by omega)]; exact ⟨rfl, rfl⟩
  ·rw [Nat.compare_eq_eq.2 h, decide_eq_false (by omega), decide_eq_true h]; exact ⟨rfl, rfl⟩
  ·rw [Nat.compare_eq_gt.2 h, decide_eq_true h, decide_eq_false (by omega)]; exact ⟨rfl, rfl⟩
 unfold rankN
 rcases ha with ha | rfl
 ·rcases hb with hb | rfl
  ·obtain ⟨k1, k2⟩ := key a b ha hb
   rw [k1, k2, if_neg (by omega), if_neg (by omega), Bool.eq_iff_iff]
   simp; omega
  ·obtain ⟨k1, k2⟩ := key a 0 ha (by omega)
   rw [order_mzr, k1, k2, if_pos rfl, if_neg (by omega), Bool.eq_iff_iff]
   simp; omega
 ·rcases hb with hb | rfl
  ·obtain ⟨k1, k2⟩ := key 0 b (by omega) hb
   rw [order_mzl, k1, k2, if_pos rfl, Bool.eq_iff_iff]
   simp
  ·rw [order_mzl, order_mzr, if_pos rfl]
   decide

theorem run_cut {rest : List En} {s : List UInt8} {m : Nat} (h1 : 1 ≤ m) (h2 : m ≤ rest.length) (h : ∀ j (hj : j < rest.length), j < m → rest[j].it = s) :
  ∃ e r, rest.take m = e :: r ∧ e.it = s ∧ (∀ y ∈ r, y.it = e.it) ∧ rest.head? = some e := by
 cases rest with
 | nil => simp at h2; omega
 | cons e t =>
  obtain ⟨k, rfl⟩ : ∃ k, m = k + 1 := ⟨m - 1, by omega⟩
  have he : e.it = s := h 0 (by simp) (by omega)
  refine ⟨e, t.take k, rfl, he, fun y hy => ?_, rfl⟩
  obtain ⟨j, hj, rfl⟩ := List.getElem_of_mem hy
  rw [List.getElem_take, he]
  rw [List.length_take] at hj
  exact h (j + 1) (by simp; omega) (by omega)
theorem run_next {p rest : List En} {s : List UInt8} {m : Nat} (h1 : 1 ≤ m) (h2 : m ≤ rest.length) (h : ∀ j (hj : j < rest.length), j < m → rest[j].it = s) (hn : ∀ hj : m < rest.length, rest[m].it ≠ s) :
  ∀ x y, (p ++ rest.take m).getLast? = some x → (rest.drop m).head? = some y → x.it ≠ y.it := by
 intro x y hx hy
 have e1 : (rest.take m).getLast? = some (rest[m - 1]'(by omega)) := by
  rw [List.getLast?_eq_getElem?, List.length_take, Nat.min_eq_left h2, List.getElem?_take_of_lt (by omega), List.getElem?_eq_getElem (by omega)]
 rw [List.getLast?_append, e1, Option.some_or] at hx
 injection hx with hx
 rw [List.head?_drop] at hy
 obtain ⟨hl, hy⟩ := List.getElem?_eq_some_iff.1 hy
 rw [← hx, ← hy, h (m - 1) (by omega) (by omega)]
 exact fun e => hn hl e.symm
set_option maxHeartbeats 16000000 in
/-- What the iterator hands over. -/
theorem items2_in (n l B : Nat) (w0 : World) (es : List En) (J : List En → World → Prop) (hB : w0.heap.size ≤ B)
  (hd : ∀ p W N, J p W → J p (W.drewN N)) (hs : ∀ p W v, J p W → J p (W.setCell ⟨B, 0, none⟩ v)) (hE : ∀ p W, J p W → Below w0.heap.size w0 W)
  (hY : ∀ (p : List En) (s : List UInt8) (e : En) (r q : List En) (A : Option Addr) (m c : Nat) (W : World), e.it = s → p ++ (e :: r) ++ q = es → (∀ x, p.getLast? = some x → x.it ≠ e.it) → (∀ y ∈ r, y.it = e.it) → m = r.length + 1 → m ≤ c → Ents w0 (.slice A m c) (e :: r) → J p W →
   YieldAt Fence.wide (n - 1) Tryz.prog l #[.string ⟨s.toArray⟩, .slice A m c] W fun e' W' => e' = .returned (.bool true) ∧ J (p ++ e :: r) W' ∧ W'.cell? ⟨B, 0, none⟩ = W.cell? ⟨B, 0, none⟩ ∧ W'.frozen? ⟨B, 0, none⟩ = W.frozen? ⟨B, 0, none⟩)
  (A : Option Addr) (c : Nat) (he : Ents w0 (.slice A es.length c) es) (hl : es.length ≤ 64) (hcap : es.length ≤ c)
  (W : World) (hc : W.cell? ⟨B, 0, none⟩ = some (.slice A es.length c)) (hf : W.frozen? ⟨B, 0, none⟩ = false) (h0 : J [] W) :
  CallsIn Fence.wide n Tryz.prog 164 #[.func (.yield l) #[] #[], .pointer (some ⟨B, 0, none⟩)] W fun e W' => (∃ v, e = .returned v) ∧ J es W' := by
 have HD := Lib.hid hd
 have HS := Lib.hid hs
 have HEE := Lib.hid hE
 have HYY := Lib.hid hY
 have H0 := Lib.hid h0
 have HEN := Lib.hid he
 have HB := Lib.hid hB
 clear hd hs hE hY h0 he hB
 refine callsIn_of_wp Tryz.func164 rfl (by trivial) ?_ rfl
 simp only [Tryz.ntmps164, List.size_toArray, List.length_cons, List.length_nil, Nat.reduceAdd, Nat.reduceSub, Array.replicate_succ, Array.replicate_zero, List.push_toArray, List.append_toArray, List.nil_append, List.cons_append]
 gi_wp2
 gi_loopw [3] (fun _ wr => ∃ (p rest : List En) (A : Option Addr) (c : Nat), rest.length ≤ 64 ∧ rest.length ≤ c ∧ wr.cell? ⟨B, 0, none⟩ = some (.slice A rest.length c) ∧ wr.frozen? ⟨B, 0, none⟩ = false ∧ Hid (Ents w0 (.slice A rest.length c) rest) ∧ Hid (J p wr) ∧ Hid (p ++ rest = es ∧ ∀ x y, p.getLast? = some x → rest.head? = some y → x.it ≠ y.it)) (fun _ wr => leftN B wr)
 case atStart => exact ⟨[], es, A, c, hl, hcap, hc, hf, HEN, H0, Lib.hid ⟨rfl, fun x y hx => by cases hx⟩⟩
 case round =>
  obtain ⟨p, rest, A, c, hl, hcp, hcr, hfr, HEr, HJ, HK⟩ := hrel
  cases rest with
  | nil =>
   have HV : Hid (p = es) := Lib.hid (by have := HK.out.1; rwa [List.append_nil] at this)
   gi_wp2
   go_end0
   exact ⟨⟨_, rfl⟩, by rw [← HV.out]; exact HJ.out⟩
  | cons e r =>
   obtain ⟨rest, hre⟩ : ∃ x, e :: r = x := ⟨_, rfl⟩
   have hpos : 0 < rest.length := by rw [← hre]; simp
   obtain ⟨b, off, rfl, hbl, hcc⟩ := ent_cells (by rw [hre] at HEr; exact HEr.out) hpos
   rw [hre] at hl hcp hcr HEr HK
   clear hre
   obtain ⟨s0, hs0⟩ : ∃ s, rest[0].it = s := ⟨_, rfl⟩
   have HIT : Hid (∀ j (hj : j < rest.length), j < 1 → rest[j].it = s0) := Lib.hid (fun j hj h => by obtain rfl : j = 0 := by omega
                                                                                                     exact hs0)
   have hpos' : (0 : Int) < (rest.length : Int) := by omega
   obtain ⟨c0, -⟩ := hcc 0 hpos
   rw [hs0] at c0
   have d0 := old_cell (HEE.out _ _ HJ.out) hbl c0
   rw [Nat.zero_mul, Nat.add_zero] at d0
   have HCC := Lib.hid hcc
   have HBL := Lib.hid hbl
   clear hcc hbl hs0 c0
   gi_wp2
   gi_loopw [3] (fun v wq => ∃ m : Nat, v = .int .i64 (m : Int) ∧ 1 ≤ m ∧ m ≤ rest.length ∧ Hid (∃ N, wq = wr.drewN N) ∧ Hid (∀ j (hj : j < rest.length), j < m → rest[j].it = s0)) (fun v _ => rest.length - (intOf v).toNat)
   case atStart => exact ⟨1, rfl, by omega, by omega, Lib.hid ⟨0, rfl⟩, HIT⟩
   case round =>
    obtain ⟨m, rfl, hm1, hm2, HN, HM⟩ := hrel
    obtain ⟨N, rfl⟩ := HN.out
    clear HN
    by_cases hml : m < rest.length
    ·obtain ⟨cm, -⟩ := HCC.out m hml
     have dm := old_cell (HEE.out _ _ HJ.out) HBL.out cm
     obtain ⟨sm, hsm⟩ : ∃ x, rest[m].it = x := ⟨_, rfl⟩
     rw [hsm] at dm
     have HSM := Lib.hid hsm
     have hml' : (m : Int) < (rest.length : Int) := by omega
     clear cm hsm
     by_cases hq : sm = s0
     ·subst hq
      gi_wp2
      gi_quiet (fail)
      gi_wp2
      go_roundw
      case rel => exact ⟨m + 1, by go_num, by omega, by omega, Lib.hid ⟨_, rfl⟩, Lib.hid (fun j hj h => by
       rcases Nat.lt_or_ge j m with h' | h'
       ·exact HM.out j hj h'
       ·obtain rfl : j = m := by omega
        exact HSM.out)⟩
      case measure => simp [intOf]; omega
     ·have hq' : (sm == s0) = false := beq_false_of_ne hq
      have HQ := Lib.hid hq
      clear hq
      gi_wp2
      gi_quiet (fail)
      have HNX : Hid (∀ hj : m < rest.length, rest[m].it ≠ s0) := Lib.hid (fun hj => by rw [HSM.out]; exact HQ.out)
      gi_wp2
      obtain ⟨wx, hwx⟩ : ∃ y, (wr.drewN N).drewN nq = y := ⟨_, rfl⟩
      have HJ2 : Hid (J p wx.drew) := Lib.hid (by rw [← hwx]; exact HD.out _ _ 1 (HD.out _ _ _ (HD.out _ _ _ HJ.out)))
      have x0 : wx.cell? ⟨B, 0, none⟩ = some (.slice (some ⟨b, off, none⟩) rest.length c) := by rw [← hwx]; exact hcr
      have x1 : wx.cell? ⟨b, off, none⟩ = some (.string ⟨s0.toArray⟩) := by rw [← hwx]; exact d0
      have xf : wx.frozen? ⟨B, 0, none⟩ = false := by rw [← hwx]; exact hfr
      have HLF : Hid (leftN B wr = rest.length) := Lib.hid (by unfold leftN; rw [hcr])
      obtain ⟨A2, hA2, hsl2⟩ := from_ent b off rest.length c m (by omega) hcp
      have HE2 : Hid (Ents w0 (.slice A2 (rest.length - m) (c - m)) (rest.drop m)) := Lib.hid (ents_drop HEr.out m (by omega) hA2)
      rw [hwx]
      clear hwx d0 hcr hfr hA2
      obtain ⟨e, r, hcut, hes, hrs, hhd⟩ := run_cut hm1 hm2 HM.out
      have HAP : Hid (p ++ e :: r ++ rest.drop m = es) := Lib.hid (by rw [← hcut, List.append_assoc, List.take_append_drop]; exact HK.out.1)
      have HRN : Hid (∀ x y, (p ++ e :: r).getLast? = some x → (rest.drop m).head? = some y → x.it ≠ y.it) := Lib.hid (by rw [← hcut]; exact run_next hm1 hm2 HM.out HNX.out)
      obtain ⟨fn, tmps, assign, body, hy, hR⟩ := HYY.out p s0 e r (rest.drop m) (some ⟨b, off, none⟩) m c wx.drew hes HAP.out (fun x hx => HK.out.2 x e hx hhd) hrs (by have h := congrArg List.length hcut; rw [List.length_take, Nat.min_eq_left hm2] at h; exact h) (Nat.le_trans hm2 hcp) (by rw [← hcut]; exact Sl.take HEr.out m hm2 c) HJ2.out
      clear hcut hes hrs hhd
      have hmo : Tryz.prog.follows .mixedOrders = true := by kernel_rfl
      have hsl := fun w => to_ent b off rest.length c m (by omega) w
      gi_region_with_o (refine ⟨fun h => (by cases h), hR.mono ?_⟩; clear hR hy; rintro e W3 ⟨rfl, hJ3, hc3, hf3⟩; have HJ3 := Lib.hid hJ3; have x3 : W3.cell? ⟨B, 0, none⟩ = some (.slice (some ⟨b, off, none⟩) rest.length c) := hc3.trans x0; have xf3 : W3.frozen? ⟨B, 0, none⟩ = false := hf3.trans xf; clear hJ3 hc3 hf3)
      all_goals
       gi_wp2
       go_roundw
       case rel => exact ⟨_, rest.drop m, A2, c - m, by rw [List.length_drop]; omega, by rw [List.length_drop]; omega, by rw [List.length_drop]; exact World.cell?_setCell_same' _ _ _ (by rw [x3]; rfl), by rw [World.frozen?_setCell]; exact xf3, by rw [List.length_drop]; exact HE2, Lib.hid (HS.out _ _ _ HJ3.out), Lib.hid ⟨HAP.out, HRN.out⟩⟩
       case measure => rw [HLF.out, leftN_set x3]; omega
    ·have hml' : ¬ (m : Int) < (rest.length : Int) := by omega
     gi_wp2
     gi_quiet (fail)
     have HNX : Hid (∀ hj : m < rest.length, rest[m].it ≠ s0) := Lib.hid (fun hj => absurd hj hml)
     gi_wp2
     obtain ⟨wx, hwx⟩ : ∃ y, (wr.drewN N).drewN nq = y := ⟨_, rfl⟩
     have HJ2 : Hid (J p wx.drew) := Lib.hid (by rw [← hwx]; exact HD.out _ _ 1 (HD.out _ _ _ (HD.out _ _ _ HJ.out)))
     have x0 : wx.cell? ⟨B, 0, none⟩ = some (.slice (some ⟨b, off, none⟩) rest.length c) := by rw [← hwx]; exact hcr
     have x1 : wx.cell? ⟨b, off, none⟩ = some (.string ⟨s0.toArray⟩) := by rw [← hwx]; exact d0
     have xf : wx.frozen? ⟨B, 0, none⟩ = false := by rw [← hwx]; exact hfr
     have HLF : Hid (leftN B wr = rest.length) := Lib.hid (by unfold leftN; rw [hcr])
     obtain ⟨A2, hA2, hsl2⟩ := from_ent b off rest.length c m (by omega) hcp
     have HE2 : Hid (Ents w0 (.slice A2 (rest.length - m) (c - m)) (rest.drop m)) := Lib.hid (ents_drop HEr.out m (by omega) hA2)
     rw [hwx]
     clear hwx d0 hcr hfr hA2
     obtain ⟨e, r, hcut, hes, hrs, hhd⟩ := run_cut hm1 hm2 HM.out
     have HAP : Hid (p ++ e :: r ++ rest.drop m = es) := Lib.hid (by rw [← hcut, List.append_assoc, List.take_append_drop]; exact HK.out.1)
     have HRN : Hid (∀ x y, (p ++ e :: r).getLast? = some x → (rest.drop m).head? = some y → x.it ≠ y.it) := Lib.hid (by rw [← hcut]; exact run_next hm1 hm2 HM.out HNX.out)
     obtain ⟨fn, tmps, assign, body, hy, hR⟩ := HYY.out p s0 e r (rest.drop m) (some ⟨b, off, none⟩) m c wx.drew hes HAP.out (fun x hx => HK.out.2 x e hx hhd) hrs (by have h := congrArg List.length hcut; rw [List.length_take, Nat.min_eq_left hm2] at h; exact h) (Nat.le_trans hm2 hcp) (by rw [← hcut]; exact Sl.take HEr.out m hm2 c) HJ2.out
     clear hcut hes hrs hhd
     have hmo : Tryz.prog.follows .mixedOrders = true := by kernel_rfl
     have hsl := fun w => to_ent b off rest.length c m (by omega) w
     gi_region_with_o (refine ⟨fun h => (by cases h), hR.mono ?_⟩; clear hR hy; rintro e W3 ⟨rfl, hJ3, hc3, hf3⟩; have HJ3 := Lib.hid hJ3; have x3 : W3.cell? ⟨B, 0, none⟩ = some (.slice (some ⟨b, off, none⟩) rest.length c) := hc3.trans x0; have xf3 : W3.frozen? ⟨B, 0, none⟩ = false := hf3.trans xf; clear hJ3 hc3 hf3)
     all_goals
      gi_wp2
      go_roundw
      case rel => exact ⟨_, rest.drop m, A2, c - m, by rw [List.length_drop]; omega, by rw [List.length_drop]; omega, by rw [List.length_drop]; exact World.cell?_setCell_same' _ _ _ (by rw [x3]; rfl), by rw [World.frozen?_setCell]; exact xf3, by rw [List.length_drop]; exact HE2, Lib.hid (HS.out _ _ _ HJ3.out), Lib.hid ⟨HAP.out, HRN.out⟩⟩
      case measure => rw [HLF.out, leftN_set x3]; omega
end Go.Proofs.YtpdedfpacklnoaaGreatDoor
set_option maxRecDepth 100000
namespace Go.Proofs.YtpdedfpacklnoaaGreatDoor
open Go.RowKit Go.BL Go.Ct Go.Sl

theorem rows_round {l n : Nat} {P : Program} {row : String} {args : Array Value} {w : World} {R : Value → World → Prop} (h : Rows P row args w R) : RowsIn (Fence.wide.inRound l) n P row args w R :=
 fun c cs _ => let ⟨v, w', r, s⟩ := h c cs; ⟨v, w', r, stepsIn_wide.2 s⟩
theorem oper_round {l n : Nat} {P : Program} {o : Oper} {a : Act} {w : World} {K : Act → World → Prop} {Q : Exit → Act → World → Prop} (hd : ∀ c, o.op ≠ .defer c) (h : Oper.wp P o a w K Q) : Oper.wpIn (Fence.wide.inRound l) n P o a w K Q := by
 unfold Oper.wpIn
 refine ⟨fun _ _ => trivial, ?_⟩
 rw [Oper.semAt_plain _ _ _ hd]
 unfold Oper.wp at h
 generalize (execOp a.eval o).run P w = r at *
 cases r with
 | ok x w' =>
  cases x <;> simp only [Oper.upon, Oper.uponIn] at h ⊢ <;>
   first
    | exact h
    | exact ⟨fun hh => (by cases hh), CallsIn.inRound l (callsIn_wide.2 h)⟩
    | exact ⟨fun hh => (by cases hh), rows_round h⟩
 | halt x w' => cases x <;> simp only [Oper.upon, Oper.uponIn] at h ⊢ <;> exact h
theorem wpAny_round {l n : Nat} {P : Program} {md : Region.Mode} {ops : Array Oper} {Q : Exit → Act → World → Prop} (hd : ∀ (i : Nat) (o : Oper), ops[i]? = some o → ∀ c, o.op ≠ .defer c) (hno : ¬ LetsOut Q) :
  ∀ (fuel : Nat) (listed : Array Bool) (a : Act) (w : World), wpAny P md ops Q fuel listed a w → wpAnyIn (Fence.wide.inRound l) n P md ops Q fuel listed a w
 | 0, _, _, _, h => h
 | fuel + 1, listed, a, w, h => ⟨h.1, fun i hi => by
   have h2 := h.2 i hi
   unfold wpOp at h2
   unfold wpOpIn
   cases ho : ops[i]? with
   | none =>
    simp only [ho] at h2 ⊢
    exact wpAny_round hd hno fuel _ a w h2
   | some o =>
    simp only [ho] at h2 ⊢
    by_cases hw : Region.wanted o (yielded ops a.tmps) = true
    ·rw [if_pos hw] at h2 ⊢
     rcases h2 with h2 | h2
     ·exact Oper.wpIn_mono (fun a w hh => wpAny_round hd hno fuel _ a w hh) (oper_round (hd i o ho) h2)
     ·exact absurd h2.2 hno
    ·rw [if_neg hw] at h2 ⊢
     exact ⟨fun _ _ => trivial, wpAny_round hd hno fuel _ _ w h2⟩⟩
def noDefer (ops : Array Oper) : Bool := ops.all fun o => match o.op with
 | .defer _ => false
 | _ => true
theorem noDefer_spec {ops : Array Oper} (h : noDefer ops = true) : ∀ (i : Nat) (o : Oper), ops[i]? = some o → ∀ c, o.op ≠ .defer c := by
 intro i o ho c hc
 unfold noDefer at h
 rw [Array.all_eq_true] at h
 obtain ⟨hi, rfl⟩ := Array.getElem?_eq_some_iff.1 ho
 have := h i hi
 rw [hc] at this
 cases this
/-- A region that draws, in a round, with a state held. -/
theorem hstartR {l n : Nat} {P : Program} {ops : Array Oper} {Q : Exit → Act → World → Prop} {S : World → Prop} {id : Nat} {a : Act} {w : World} (hm : P.follows .mixedOrders = true) (hd : noDefer ops = true) (hno : ¬ LetsOut Q) (hQ : PG Q) (hS : S w.drew)
  (h : PG Q → S w.drew → wpAnyH P .any ops Q S ops.size (Array.replicate ops.size false) a w.drew) : (Code.region id ops true).wpIn (Fence.wide.inRound l) n P Q a w :=
 wpIn_region_any hm (wpAny_round (noDefer_spec hd) hno _ _ _ _ (wpAny_of_held _ _ _ _ (h hQ hS)))
end Go.Proofs.YtpdedfpacklnoaaGreatDoor
namespace Go.Sl
open Go.RowKit Go.BL
variable {α : Type} {t k : Nat} {f : α → List Value}
/-- append(l, y), within a fence. -/
theorem wpListIn_appS {F : Fence} {n : Nat} {P : Program} {w : World} {ops : Array Oper} {rest : List Oper} {o : Oper} {a : Act} {Q : Exit → Act → World → Prop} (hgd : o.guard = none) (s x : Operand) (st : TypeId)
  (ho : o.op = .call { callee := .builtin .append, args := #[s, x], argTypes := #[st, st] })
  (ht : P.underlying st = some (.slice t)) {z : Value} {bytes : Nat} (hi : (P.info? t).map (fun i => (i.zero, i.size, i.bytes)) = some (some z, k, bytes)) (hzs : z.cells.size = k) (hk : 0 < k)
  (hf : ∀ x, (f x).length = k) (h1 : ∀ x, ∀ u ∈ f x, u.oneCell' = true) (hby : bytes ≤ 100000)
  {B : Nat} {v : Value} {l : List α} (hs : a.eval s = v) (hown : OwnS t k f w B v l)
  {g c : Nat} {y : α} (hx : a.eval x = .slice (some ⟨g, 0, none⟩) 1 c) (hg : ∀ j u, (f y)[j]? = some u → w.cell? ⟨g, j, none⟩ = some u) (hb : l.length ≤ 1000000) (hbase : B ≤ w.heap.size)
  (h : ∀ v' w', OwnS t k f w' B v' (l ++ [y]) → Below B w w' → w.grownBy w' v.ownBlock → wpListIn F n P ops Q rest (a.put o.dst v') w') : wpListIn F n P ops Q (o :: rest) a w := by
 obtain ⟨i0, hi0, hz0, hz1, hz2⟩ := info_of hi
 refine wpListIn_append_own w hgd s x st ho B t i0 z k bytes ht hi0 hz0 hz1 hz2 hzs hk v l.length (flat f l) hs hown ⟨g, 0, none⟩ 1 c (flat f [y]) hx (by simp [flat, hf]) (fun j u hj => ?_) (flat_one h1 _) (by unfold maxLen; omega) (bytes_fit hb hby) hbase ?_
 ·rw [add_none, Nat.zero_add]
  exact hg j u (by simpa [flat] using hj)
 ·intro v' w' k1 k2 _
  refine h v' w' ?_ ((Below.refl B w).grown k2 hbase hown.block_ge) k2
  unfold OwnS
  rw [List.length_append, flat_app]
  exact k1
end Go.Sl
set_option maxRecDepth 100000
namespace Go.Proofs.YtpdedfpacklnoaaGreatDoor
open Go.RowKit Go.BL Go.Ct Go.Sl
attribute [local go_sem] Oper.semAt_some

theorem items_get (A : Option Addr) (n c : Nat) (w : World) : CallsIn Fence.wide 2 Tryz.prog 121 #[.slice A n c] w fun e w' => e = .returned (.func (.func 164) #[] #[.pointer (some ⟨w.heap.size, 0, none⟩)]) ∧ w' = w.alloc (.cells #[.slice A n c] 26) := by
 refine callsIn_of_wp Tryz.func121 rfl (by trivial) ?_ rfl
 simp only [Tryz.ntmps121, List.size_toArray, List.length_cons, List.length_nil, Nat.reduceAdd, Nat.reduceSub, Array.replicate_succ, Array.replicate_zero, List.push_toArray, List.append_toArray, List.nil_append, List.cons_append]
 gi_wp2
 go_ret
 exact ⟨rfl, rfl⟩
theorem cell_same {w w' : World} {N : Nat} (h : w'.heap[N]? = w.heap[N]?) (i : Nat) : w'.cell? ⟨N, i, none⟩ = w.cell? ⟨N, i, none⟩ ∧ w'.frozen? ⟨N, i, none⟩ = w.frozen? ⟨N, i, none⟩ := by
 constructor <;> simp [World.cell?, World.frozen?, h]
theorem own_heap {α : Type} {t k : Nat} {f : α → List Value} {w w' : World} {B : Nat} {v : Value} {l : List α} (h : OwnS t k f w B v l) (hh : ∀ g, B ≤ g → g < w.heap.size → w'.heap[g]? = w.heap[g]?) : OwnS t k f w' B v l := by
 refine ⟨h.1, ?_⟩
 rcases h.2 with h0 | ⟨g, cap, cur, hv, hg, hx, r⟩
 ·exact .inl h0
 ·have hlt : g < w.heap.size := by
   rcases Nat.lt_or_ge g w.heap.size with h' | h'
   ·exact h'
   ·rw [Array.getElem?_eq_none h'] at hx; cases hx
  exact .inr ⟨g, cap, cur, hv, hg, (hh g hg hlt).trans hx, r⟩
/-- What lies between two rounds: the cart's box, the lines' cell, the iterator's cell, what waits, the loop. -/
structure MidL (w : World) (L : Loop) (p : List En) (W : World) : Prop where
 below : Below w.heap.size w W
 row : ∃ v, W.cell? ⟨w.heap.size + 1, 0, none⟩ = some v ∧ OwnS 54 3 lnC W (w.heap.size + 5) v (readL p)
 soft : W.frozen? ⟨w.heap.size + 1, 0, none⟩ = false
 loop : W.heap[w.heap.size + 4]? = some (.loop L)
 late : W.heap[w.heap.size + 3]? = some (.deferred (some []))
theorem MidL.size {w : World} {L : Loop} {p : List En} {W : World} (h : MidL w L p W) : w.heap.size + 5 ≤ W.heap.size := (Array.getElem?_eq_some_iff.1 h.loop).1
theorem MidL.drewN {w : World} {L : Loop} {p : List En} {W : World} (h : MidL w L p W) (N : Nat) : MidL w L p (W.drewN N) :=
 ⟨H.below_drewN h.below N, h.row, h.soft, h.loop, h.late⟩
theorem MidL.far {w : World} {L : Loop} {p : List En} {W : World} (h : MidL w L p W) (v : Value) : MidL w L p (W.setCell ⟨w.heap.size + 2, 0, none⟩ v) := by
 have hh : ∀ x, x ≠ w.heap.size + 2 → (W.setCell ⟨w.heap.size + 2, 0, none⟩ v).heap[x]? = W.heap[x]? := fun x hx => Below.heap_setCell W _ v x hx
 have hc := cell_same (hh (w.heap.size + 1) (by omega)) 0
 obtain ⟨u, hu, ho⟩ := h.row
 exact ⟨h.below.setCell (p := ⟨w.heap.size + 2, 0, none⟩) (by simp) v, ⟨u, hc.1.trans hu, ho.setCell (p := ⟨w.heap.size + 2, 0, none⟩) (by simp) v⟩, hc.2.trans h.soft, (hh _ (by omega)).trans h.loop, (hh _ (by omega)).trans h.late⟩
theorem MidL.turn {w : World} {L : Loop} {p : List En} {W : World} (h : MidL w L p W) (L' : Loop) : MidL w L' p (W.putObj (w.heap.size + 4) (.loop L')) := by
 have hlt : w.heap.size + 4 < W.heap.size := (Array.getElem?_eq_some_iff.1 h.loop).1
 have hh : ∀ x, x ≠ w.heap.size + 4 → (W.putObj (w.heap.size + 4) (.loop L')).heap[x]? = W.heap[x]? := fun x hx => World.putObj_heap_other hx
 have hc := cell_same (hh (w.heap.size + 1) (by omega)) 0
 obtain ⟨u, hu, ho⟩ := h.row
 exact ⟨h.below.trans (belowK_b (w := w) (Nat.le_refl _) W _ _ _ (by omega) h.loop rfl rfl), ⟨u, hc.1.trans hu, own_heap ho (fun g hg _ => hh g (by omega))⟩, hc.2.trans h.soft, World.putObj_heap_same hlt, (hh _ (by omega)).trans h.late⟩
/-- Behind what is done above alone. -/
theorem MidL.after {w : World} {L : Loop} {p : List En} {W W' : World} (h : MidL w L p W) (hb : Below W.heap.size W W') : MidL w L p W' := by
 have hs := h.size
 have hh : ∀ x, x < W.heap.size → W'.heap[x]? = W.heap[x]? := fun x hx => hb.block x hx
 have hc := cell_same (hh (w.heap.size + 1) (by omega)) 0
 obtain ⟨u, hu, ho⟩ := h.row
 exact ⟨h.below.trans (hb.mono h.below.size), ⟨u, hc.1.trans hu, ho.below hb (Nat.le_refl _)⟩, hc.2.trans h.soft, (hh _ (by omega)).trans h.loop, (hh _ (by omega)).trans h.late⟩
/-- One line more. -/
theorem MidL.line {w : World} {L : Loop} {p p' : List En} {W W' : World} {v' : Value} (h : MidL w L p W) (hb : Below (w.heap.size + 5) W W') (ho : OwnS 54 3 lnC W' (w.heap.size + 5) v' (readL p')) : MidL w L p' (W'.setCell ⟨w.heap.size + 1, 0, none⟩ v') := by
 have hs := h.size
 have hh : ∀ x, x < w.heap.size + 5 → x ≠ w.heap.size + 1 → (W'.setCell ⟨w.heap.size + 1, 0, none⟩ v').heap[x]? = W.heap[x]? := fun x hx hn => (Below.heap_setCell W' _ v' x hn).trans (hb.block x hx)
 obtain ⟨u, hu, -⟩ := h.row
 have h1 : W'.cell? ⟨w.heap.size + 1, 0, none⟩ = some u := (hb.cell (p := ⟨w.heap.size + 1, 0, none⟩) (by simp)).trans hu
 have h2 : W'.frozen? ⟨w.heap.size + 1, 0, none⟩ = false := (cell_same (hb.block (w.heap.size + 1) (by omega)) 0).2.trans h.soft
 refine ⟨(h.below.trans (hb.mono (by omega))).setCell (p := ⟨w.heap.size + 1, 0, none⟩) (by simp) v', ⟨v', World.cell?_setCell_same' _ _ _ (by rw [h1]; rfl), ho.setCell (p := ⟨w.heap.size + 1, 0, none⟩) (by simp) v'⟩, ?_, (hh _ (by omega) (by omega)).trans h.loop, (hh _ (by omega) (by omega)).trans h.late⟩
 rw [World.frozen?_setCell]; exact h2
/-- A range over the items of entries. -/
theorem items_range {g : Operand} {ps : Array Tmp} {assign body : Code} {Q : Exit → Act → World → Prop} {a : Act} {w w1 : World} {es : List En} {A : Option Addr} {c : Nat}
  (hg : a.eval g = .func (.func 164) #[] #[.pointer (some ⟨w.heap.size + 2, 0, none⟩)]) (hps : ps.size = 2)
  (he : Ents w (.slice A es.length c) es) (hl : es.length ≤ 64) (hcap : es.length ≤ c)
  (hs1 : w1.heap.size = w.heap.size + 3) (hb1 : Below w.heap.size w w1) (hc1 : w1.cell? ⟨w.heap.size + 1, 0, none⟩ = some (.slice none 0 0)) (hf1 : w1.frozen? ⟨w.heap.size + 1, 0, none⟩ = false)
  (hc2 : w1.cell? ⟨w.heap.size + 2, 0, none⟩ = some (.slice A es.length c)) (hf2 : w1.frozen? ⟨w.heap.size + 2, 0, none⟩ = false)
  (a₁ : ByteArray → Value → Act)
  (hassign : ∀ (l : Nat) (s : ByteArray) (v : Value) (W : World) (K : Act → World → Prop), K (a₁ s v) W →
   assign.wpIn (Fence.wide.inRound l) 1 Tryz.prog (Exit.then K (fun _ _ _ => False)) { tmps := (ps.zip #[.string s, v]).foldl (fun t (p, v) => t.setIfInBounds p v) a.tmps, defers := [] } W)
  (hbody : ∀ (l : Nat) (L : Loop) (p : List En) (s : List UInt8) (e : En) (r q : List En) (A : Option Addr) (m c : Nat) (W : World), e.it = s → p ++ (e :: r) ++ q = es → (∀ x, p.getLast? = some x → x.it ≠ e.it) → (∀ y ∈ r, y.it = e.it) → m = r.length + 1 → m ≤ c → Ents w (.slice A m c) (e :: r) → MidL w L p W →
   body.wpIn (Fence.wide.inRound l) 1 Tryz.prog (fun x _ W' => x = .normal ∧ MidL w L (p ++ e :: r) W' ∧ W'.heap[w.heap.size + 2]? = W.heap[w.heap.size + 2]?) (a₁ ⟨s.toArray⟩ (.slice A m c)) W)
  (hdone : ∀ (L : Loop) (W : World), MidL w L es W → Q .normal { a with defers := { target := .collected (w.heap.size + 3), args := #[] } :: a.defers } W) :
  (Code.rangeFunc g ps assign body).wpIn Fence.wide 3 Tryz.prog Q a w1 := by
 refine wpIn_rangeFunc ?_
 intro fn hfn
 obtain ⟨rec, hrec⟩ : ∃ rec : LoopState → Option Code → Loop, rec = fun st pe => { state := st, pending := pe, fn, tmps := a.tmps, params := ps, assign, body, defers := w1.heap.size } := ⟨_, rfl⟩
 obtain ⟨W1, hW1⟩ : ∃ W1, (w1.alloc (.deferred (some []))).alloc (.loop (rec .ready none)) = W1 := ⟨_, rfl⟩
 have hold : ∀ x, x < w1.heap.size → W1.heap[x]? = w1.heap[x]? := fun x hx => by
  rw [← hW1]; exact (Below.heap_alloc _ _ _ (by simp; omega)).trans (Below.heap_alloc _ _ _ hx)
 have hM : MidL w (rec .ready none) [] W1 := by
  have hc := cell_same (hold (w.heap.size + 1) (by omega)) 0
  refine ⟨?_, ⟨_, hc.1.trans hc1, OwnS.nil _ _⟩, hc.2.trans hf1, ?_, ?_⟩
  ·rw [← hW1]; exact (hb1.alloc hb1.size _).alloc (by simp; omega) _
  ·rw [← hW1]; have := World.alloc_heap_new (w1.alloc (.deferred (some []))) (.loop (rec .ready none)); rw [World.size_alloc, hs1] at this; exact this
  ·rw [← hW1]; have := World.alloc_heap_new w1 (.deferred (some [])); rw [hs1] at this; exact (Below.heap_alloc _ _ _ (by simp; omega)).trans this
 have hcc := cell_same (hold (w.heap.size + 2) (by omega)) 0
 refine ⟨w.heap.size + 4, [{ target := .collected (w.heap.size + 3), args := #[] }], W1, { target := .fn (.func 164) #[.pointer (some ⟨w.heap.size + 2, 0, none⟩)], args := #[.func (.yield (w.heap.size + 4)) #[] #[]] }, W1, 164,
  #[.func (.yield (w.heap.size + 4)) #[] #[], .pointer (some ⟨w.heap.size + 2, 0, none⟩)], W1, ?_, ?_, fun _ _ => trivial, ?_, fun h => (by cases h), ?_⟩
 ·rw [← hW1, hrec]
  have := run_enterLoop_outer (P := Tryz.prog) (w := w1) fn a.tmps ps assign body
  rw [hs1] at this ⊢
  exact this
 ·simp only [resolve, hg]
  simp [go_sem]
 ·simp [invoke, go_sem]
 ·refine (items2_in 2 (w.heap.size + 4) (w.heap.size + 2) w es (fun p W => MidL w (rec .ready none) p W) (by omega) (fun p W N h => h.drewN N) (fun p W v h => h.far v) (fun p W h => h.below) ?_ A c he hl hcap W1 (hcc.1.trans hc2) (hcc.2.trans hf2) hM).mono ?_
  ·intro p s e r q A m c W h1 h2 h3 h4 h5 h6 h7 hm
   have hlt : w.heap.size + 4 < W.heap.size := (Array.getElem?_eq_some_iff.1 hm.loop).1
   have hy := run_yield (P := Tryz.prog) (args := #[.string ⟨s.toArray⟩, .slice A m c]) hm.loop (by rw [hrec]; exact hps.symm)
   rw [hrec] at hy
   refine ⟨fn, _, assign, body, hy, roundIn_of_wpIn hfn (hassign _ _ _ W _ ⟨_, run_beginRound hm.loop (by rw [hrec]), ?_⟩)⟩
   have hm2 := hm.turn { rec .ready none with state := .busy }
   refine wpIn_mono (hbody _ _ p s e r q A m c _ h1 h2 h3 h4 h5 h6 h7 hm2) ?_
   rintro x a3 W3 ⟨rfl, hm3, h3⟩
   have hr := run_endRound (P := Tryz.prog) none hm3.loop
   refine ⟨_, _, hr, rfl, ?_, ?_⟩
   ·have := hm3.turn (rec .ready none)
    rw [hrec] at this ⊢
    exact this
   ·have e1 : ∀ L', (W3.putObj (w.heap.size + 4) (.loop L')).heap[w.heap.size + 2]? = W.heap[w.heap.size + 2]? := fun L' =>
     (World.putObj_heap_other (by omega)).trans (h3.trans (World.putObj_heap_other (by omega)))
    exact cell_same (e1 _) 0
  ·rintro e W2 ⟨⟨v, rfl⟩, hm⟩
   exact ⟨none, _, by have := run_endLoop (P := Tryz.prog) hm.loop (by rw [hrec]; simp); rw [hrec] at this; exact this, hdone _ _ (hm.turn _)⟩
end Go.Proofs.YtpdedfpacklnoaaGreatDoor
set_option maxRecDepth 100000
namespace Go.Proofs.YtpdedfpacklnoaaGreatDoor
open Go.RowKit Go.BL Go.Ct Go.Sl Go.Fl Ieee

theorem price_lt {p : Nat} (h : isPrice p = true) : p < 18446744073709551616 := by
 unfold isPrice at h
 simp only [Bool.or_eq_true, decide_eq_true_eq] at h
 omega
theorem above_any (a b : Nat) (ha : isPrice a = true) (hb : isPrice b = true) (w : World) : Calls Tryz.prog 122 #[.int .u64 (a : Int), .int .u64 (b : Int)] w fun e w' => e = .returned (.bool (decide (rankN b < rankN a))) ∧ w = w' := by
 have hfa := fun w => T.frombits (a : Int) w
 have hfb := fun w => T.frombits (b : Int) w
 rw [show ((a : Int)).toNat = a from rfl] at hfa
 rw [show ((b : Int)).toNat = b from rfl] at hfb
 have hsa := fun w => T.signbit_any a (price_lt ha) w
 have hsb := fun w => T.signbit_any b (price_lt hb) w
 have HV := Lib.hid (above_eq ha hb)
 obtain ⟨r, hr⟩ : ∃ r, decide (rankN b < rankN a) = r := ⟨_, rfl⟩
 rw [hr] at HV ⊢
 obtain ⟨g1, h1⟩ : ∃ g, (FloatKind.f64.format.order a b == some Ordering.gt) = g := ⟨_, rfl⟩
 obtain ⟨g2, h2⟩ : ∃ g, (FloatKind.f64.format.order a b == some Ordering.eq) = g := ⟨_, rfl⟩
 obtain ⟨s1, hs1⟩ : ∃ g, decide (9223372036854775808 ≤ b) = g := ⟨_, rfl⟩
 obtain ⟨s2, hs2⟩ : ∃ g, decide (9223372036854775808 ≤ a) = g := ⟨_, rfl⟩
 rw [h1, h2, hs1, hs2] at HV
 rw [hs1] at hsb
 rw [hs2] at hsa
 clear hr hs1 hs2 ha hb
 cases g1 <;> cases g2 <;> cases s1
 all_goals
  go_enter Tryz.func122, Tryz.ntmps122
  go_wp2_with (first | (go_at_call 110; refine (hsb _).mono ?_; rintro e w' ⟨rfl, rfl⟩) | (go_at_call 110; refine (hsa _).mono ?_; rintro e w' ⟨rfl, rfl⟩))
  go_ret
  exact ⟨by rw [← HV.out]; rfl, rfl⟩
end Go.Proofs.YtpdedfpacklnoaaGreatDoor
