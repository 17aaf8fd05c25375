/- Contract of ormap.many: how many items entries have: a range over an iterator whose captured slice lies in a cell that it writes between two rounds. -/
import Derived.Test.YtpdedfpacklnoaaGreatDoorTkM
import Derived.Test.YtpdedfpacklnoaaGreatDoorMH
import Derived.RangeFuncWrites
import Derived.RangeFuncLeaves
import Derived.RangeFuncCalls
import Derived.OwnWalkIn
import Derived.TacticsInMore
import Derived.LoopNIn
import Derived.LoopIn
import Derived.RegionIn
import Derived.Shelf.RegionOpen
import Derived.Sort.QuietIn
set_option maxRecDepth 100000
namespace Go.Proofs.YtpdedfpacklnoaaGreatDoor
open Go.RowKit Go.BL Go.Ct Go.Sl
attribute [local go_sem] Oper.semAt_some

theorem from_ent (blk off n c l : Nat) (hl : l ≤ n) (hc : n ≤ c) :
    ∃ A2, (0 < n - l → A2 = some ⟨blk, off + l * 6, none⟩) ∧ ∀ w, (Instr.slice 26 (.slice (some ⟨blk, off, none⟩) n c) (some (.int .i64 (l : Int))) none none).run Tryz.prog w = .ok (.slice A2 (n - l) (c - l)) w := by
  refine ⟨if c = l then some ⟨blk, off, none⟩ else some ⟨blk, off + l * 6, none⟩, fun h => by rw [if_neg (by omega)], fun w => ?_⟩
  simp only [Instr.slice, Sem.run_bind, run_underlying Tryz.underlying26, Result.andThen, Instr.sliceBounds, Sem.run_pure]
  rw [run_sliceBound _ _ _ _ _ (by omega) (by omega)]
  simp only [Tryz.sizeOf92, Int.toNat_natCast]
  by_cases h : c = l
  · rw [if_pos h, if_pos h]
  · rw [if_neg h, if_neg h]; simp [add_none]
theorem to_ent (blk off n c h : Nat) (hc : h ≤ c) (w : World) :
    (Instr.slice 26 (.slice (some ⟨blk, off, none⟩) n c) none (some (.int .i64 (h : Int))) none).run Tryz.prog w = .ok (.slice (some ⟨blk, off, none⟩) h c) w := by
  simp only [Instr.slice, Sem.run_bind, run_underlying Tryz.underlying26, Result.andThen, Instr.sliceBounds, Sem.run_pure]
  rw [run_sliceBound _ _ _ _ _ (by omega) (by omega)]
  simp only [Tryz.sizeOf92, Int.toNat_natCast]
  simp [add_none]
/-- How many are left, read off the iterator's cell. -/
def leftN (B : Nat) (w : World) : Nat := match w.cell? ⟨B, 0, none⟩ with
  | some (.slice _ n _) => n
  | _ => 0
theorem leftN_set {B : Nat} {w : World} {v : Value} {A : Option Addr} {n c : Nat} (h : w.cell? ⟨B, 0, none⟩ = some v) : leftN B (w.setCell ⟨B, 0, none⟩ (.slice A n c)) = n := by
  unfold leftN
  rw [World.cell?_setCell_same' _ _ _ (by rw [h]; rfl)]
theorem ents_drop {w : World} {b off c : Nat} {l : List En} (h : Ents w (.slice (some ⟨b, off, none⟩) l.length c) l) (m : Nat) (hm : m ≤ l.length) {A2 : Option Addr} {c2 : Nat} (hA : 0 < l.length - m → A2 = some ⟨b, off + m * 6, none⟩) : Ents w (.slice A2 (l.length - m) c2) (l.drop m) := by
  rcases Nat.eq_or_lt_of_le hm with e | e
  · rw [List.drop_eq_nil_of_le (by omega), show l.length - m = 0 by omega]
    exact Sl.zero _ _ _
  · rw [hA (by omega)]
    exact Sl.drop h m hm c2
theorem items_step {s : List UInt8} {l : List En} {n : Nat} (h : n < l.length) (e : l[n].it = s) : itemsF (some s) (l.drop n) = itemsF (some s) (l.drop (n + 1)) := by
  rw [List.drop_eq_getElem_cons h]
  show (if s = l[n].it then 0 else 1) + itemsF (some l[n].it) _ = _
  rw [if_pos e.symm, e]; omega
theorem items_new {s : List UInt8} {l : List En} {n : Nat} (h : n < l.length) (e : l[n].it ≠ s) : itemsF (some s) (l.drop n) = itemsF none (l.drop n) := by
  rw [List.drop_eq_getElem_cons h]
  show (if s = l[n].it then 0 else 1) + itemsF (some l[n].it) _ = 1 + itemsF (some l[n].it) _
  rw [if_neg (fun h => e h.symm)]
theorem items_end {l : List En} {n : Nat} (h : l.length ≤ n) (p : Option (List UInt8)) : itemsF p (l.drop n) = itemsF none (l.drop n) := by
  rw [List.drop_eq_nil_of_le h]; cases p <;> rfl

set_option maxHeartbeats 16000000 in
theorem items1_in (n l B : Nat) (w0 : World) (J : Nat → World → Prop) (hB : w0.heap.size ≤ B)
    (hd : ∀ k W N, J k W → J k (W.drewN N)) (hs : ∀ k W v, J k W → J k (W.setCell ⟨B, 0, none⟩ v)) (hE : ∀ k W, J k W → Below w0.heap.size w0 W)
    (hY : ∀ k W s v, J k W → YieldAt Fence.wide (n - 1) Tryz.prog l #[.string s, v] W fun e W' => e = .returned (.bool true) ∧ J (k + 1) W' ∧ W'.cell? ⟨B, 0, none⟩ = W.cell? ⟨B, 0, none⟩ ∧ W'.frozen? ⟨B, 0, none⟩ = W.frozen? ⟨B, 0, none⟩)
    (es : List En) (A : Option Addr) (c : Nat) (he : Ents w0 (.slice A es.length c) es) (hl : es.length ≤ 64) (hcap : es.length ≤ c)
    (W : World) (hc : W.cell? ⟨B, 0, none⟩ = some (.slice A es.length c)) (hf : W.frozen? ⟨B, 0, none⟩ = false) (h0 : J 0 W) :
    CallsIn Fence.wide n Tryz.prog 164 #[.func (.yield l) #[] #[], .pointer (some ⟨B, 0, none⟩)] W fun e W' => (∃ v, e = .returned v) ∧ J (itemsF none es) W' := by
  have HD := Lib.hid hd
  have HS := Lib.hid hs
  have HEE := Lib.hid hE
  have HYY := Lib.hid hY
  have H0 := Lib.hid h0
  have HEN := Lib.hid he
  have HB := Lib.hid hB
  clear hd hs hE hY h0 he hB
  refine callsIn_of_wp Tryz.func164 rfl (by trivial) ?_ rfl
  simp only [Tryz.ntmps164, List.size_toArray, List.length_cons, List.length_nil, Nat.reduceAdd, Nat.reduceSub, Array.replicate_succ, Array.replicate_zero, List.push_toArray, List.append_toArray, List.nil_append, List.cons_append]
  gi_wp2
  gi_loopw [3] (fun _ wr => ∃ (k : Nat) (rest : List En) (A : Option Addr) (c : Nat), rest.length ≤ 64 ∧ rest.length ≤ c ∧ wr.cell? ⟨B, 0, none⟩ = some (.slice A rest.length c) ∧ wr.frozen? ⟨B, 0, none⟩ = false ∧ Hid (Ents w0 (.slice A rest.length c) rest) ∧ Hid (J k wr) ∧ Hid (k + itemsF none rest = itemsF none es)) (fun _ wr => leftN B wr)
  case atStart => exact ⟨0, es, A, c, hl, hcap, hc, hf, HEN, H0, Lib.hid (by omega)⟩
  case round =>
    obtain ⟨k, rest, A, c, hl, hcp, hcr, hfr, HEr, HJ, HK⟩ := hrel
    cases rest with
    | nil =>
      have HV : Hid (k = itemsF none es) := Lib.hid (by have := HK.out; simpa [itemsF] using this)
      gi_wp2
      go_end0
      exact ⟨⟨_, rfl⟩, by rw [← HV.out]; exact HJ.out⟩
    | cons e r =>
      obtain ⟨rest, hre⟩ : ∃ x, e :: r = x := ⟨_, rfl⟩
      have hpos : 0 < rest.length := by rw [← hre]; simp
      obtain ⟨b, off, rfl, hbl, hcc⟩ := ent_cells (by rw [hre] at HEr; exact HEr.out) hpos
      have HF : Hid (∃ s, rest[0].it = s ∧ itemsF none rest = 1 + itemsF (some s) (rest.drop 1)) := Lib.hid ⟨e.it, by subst hre; rfl, by subst hre; rfl⟩
      rw [hre] at hl hcp hcr HEr HK
      clear hre
      obtain ⟨s0, hs0, hit⟩ := HF.out
      have HIT := Lib.hid hit
      have hpos' : (0 : Int) < (rest.length : Int) := by omega
      obtain ⟨c0, -⟩ := hcc 0 hpos
      rw [hs0] at c0
      have d0 := old_cell (HEE.out _ _ HJ.out) hbl c0
      rw [Nat.zero_mul, Nat.add_zero] at d0
      have HCC := Lib.hid hcc
      have HBL := Lib.hid hbl
      have HS0 := Lib.hid hs0
      clear hcc hbl hs0 hit HF c0
      gi_wp2
      gi_loopw [3] (fun v wq => ∃ m : Nat, v = .int .i64 (m : Int) ∧ 1 ≤ m ∧ m ≤ rest.length ∧ Hid (∃ N, wq = wr.drewN N) ∧ Hid (itemsF none rest = 1 + itemsF (some s0) (rest.drop m))) (fun v _ => rest.length - (intOf v).toNat)
      case atStart => exact ⟨1, rfl, by omega, by omega, Lib.hid ⟨0, rfl⟩, HIT⟩
      case round =>
        obtain ⟨m, rfl, hm1, hm2, HN, HM⟩ := hrel
        obtain ⟨N, rfl⟩ := HN.out
        clear HN
        by_cases hml : m < rest.length
        · obtain ⟨cm, -⟩ := HCC.out m hml
          have dm := old_cell (HEE.out _ _ HJ.out) HBL.out cm
          obtain ⟨sm, hsm⟩ : ∃ x, rest[m].it = x := ⟨_, rfl⟩
          rw [hsm] at dm
          have HSM := Lib.hid hsm
          have hml' : (m : Int) < (rest.length : Int) := by omega
          clear cm hsm
          by_cases hq : sm = s0
          · subst hq
            gi_wp2
            gi_quiet (fail)
            gi_wp2
            go_roundw
            case rel => exact ⟨m + 1, by go_num, by omega, by omega, Lib.hid ⟨_, rfl⟩, Lib.hid (by rw [HM.out, items_step hml HSM.out])⟩
            case measure => simp [intOf]; omega
          · have hq' : (sm == s0) = false := beq_false_of_ne hq
            have HQ := Lib.hid hq
            clear hq
            gi_wp2
            gi_quiet (fail)
            have HNX : Hid (itemsF none rest = 1 + itemsF none (rest.drop m)) := Lib.hid (by rw [HM.out, items_new hml (by rw [HSM.out]; exact HQ.out)])
            gi_wp2
            obtain ⟨wx, hwx⟩ : ∃ y, (wr.drewN N).drewN nq = y := ⟨_, rfl⟩
            have HJ2 : Hid (J k wx.drew) := Lib.hid (by rw [← hwx]; exact HD.out _ _ 1 (HD.out _ _ _ (HD.out _ _ _ HJ.out)))
            have x0 : wx.cell? ⟨B, 0, none⟩ = some (.slice (some ⟨b, off, none⟩) rest.length c) := by rw [← hwx]; exact hcr
            have x1 : wx.cell? ⟨b, off, none⟩ = some (.string ⟨s0.toArray⟩) := by rw [← hwx]; exact d0
            have xf : wx.frozen? ⟨B, 0, none⟩ = false := by rw [← hwx]; exact hfr
            have HLF : Hid (leftN B wr = rest.length) := Lib.hid (by unfold leftN; rw [hcr])
            obtain ⟨A2, hA2, hsl2⟩ := from_ent b off rest.length c m (by omega) hcp
            have HE2 : Hid (Ents w0 (.slice A2 (rest.length - m) (c - m)) (rest.drop m)) := Lib.hid (ents_drop HEr.out m (by omega) hA2)
            rw [hwx]
            clear hwx d0 hcr hfr hA2
            obtain ⟨fn, tmps, assign, body, hy, hR⟩ := HYY.out k wx.drew ⟨s0.toArray⟩ (.slice (some ⟨b, off, none⟩) m c) HJ2.out
            have hmo : Tryz.prog.follows .mixedOrders = true := by kernel_rfl
            have hsl := fun w => to_ent b off rest.length c m (by omega) w
            gi_region_with_o (refine ⟨fun h => (by cases h), hR.mono ?_⟩; clear hR hy; rintro e W3 ⟨rfl, hJ3, hc3, hf3⟩; have HJ3 := Lib.hid hJ3; have x3 : W3.cell? ⟨B, 0, none⟩ = some (.slice (some ⟨b, off, none⟩) rest.length c) := hc3.trans x0; have xf3 : W3.frozen? ⟨B, 0, none⟩ = false := hf3.trans xf; clear hJ3 hc3 hf3)
            all_goals
              gi_wp2
              go_roundw
              case rel => exact ⟨k + 1, rest.drop m, A2, c - m, by rw [List.length_drop]; omega, by rw [List.length_drop]; omega, by rw [List.length_drop]; exact World.cell?_setCell_same' _ _ _ (by rw [x3]; rfl), by rw [World.frozen?_setCell]; exact xf3, by rw [List.length_drop]; exact HE2, Lib.hid (HS.out _ _ _ HJ3.out), Lib.hid (by have := HK.out; have := HNX.out; omega)⟩
              case measure => rw [HLF.out, leftN_set x3]; omega
        · have hml' : ¬ (m : Int) < (rest.length : Int) := by omega
          gi_wp2
          gi_quiet (fail)
          have HNX : Hid (itemsF none rest = 1 + itemsF none (rest.drop m)) := Lib.hid (by rw [HM.out, items_end (by omega)])
          gi_wp2
          obtain ⟨wx, hwx⟩ : ∃ y, (wr.drewN N).drewN nq = y := ⟨_, rfl⟩
          have HJ2 : Hid (J k wx.drew) := Lib.hid (by rw [← hwx]; exact HD.out _ _ 1 (HD.out _ _ _ (HD.out _ _ _ HJ.out)))
          have x0 : wx.cell? ⟨B, 0, none⟩ = some (.slice (some ⟨b, off, none⟩) rest.length c) := by rw [← hwx]; exact hcr
          have x1 : wx.cell? ⟨b, off, none⟩ = some (.string ⟨s0.toArray⟩) := by rw [← hwx]; exact d0
          have xf : wx.frozen? ⟨B, 0, none⟩ = false := by rw [← hwx]; exact hfr
          have HLF : Hid (leftN B wr = rest.length) := Lib.hid (by unfold leftN; rw [hcr])
          obtain ⟨A2, hA2, hsl2⟩ := from_ent b off rest.length c m (by omega) hcp
          have HE2 : Hid (Ents w0 (.slice A2 (rest.length - m) (c - m)) (rest.drop m)) := Lib.hid (ents_drop HEr.out m (by omega) hA2)
          rw [hwx]
          clear hwx d0 hcr hfr hA2
          obtain ⟨fn, tmps, assign, body, hy, hR⟩ := HYY.out k wx.drew ⟨s0.toArray⟩ (.slice (some ⟨b, off, none⟩) m c) HJ2.out
          have hmo : Tryz.prog.follows .mixedOrders = true := by kernel_rfl
          have hsl := fun w => to_ent b off rest.length c m (by omega) w
          gi_region_with_o (refine ⟨fun h => (by cases h), hR.mono ?_⟩; clear hR hy; rintro e W3 ⟨rfl, hJ3, hc3, hf3⟩; have HJ3 := Lib.hid hJ3; have x3 : W3.cell? ⟨B, 0, none⟩ = some (.slice (some ⟨b, off, none⟩) rest.length c) := hc3.trans x0; have xf3 : W3.frozen? ⟨B, 0, none⟩ = false := hf3.trans xf; clear hJ3 hc3 hf3)
          all_goals
            gi_wp2
            go_roundw
            case rel => exact ⟨k + 1, rest.drop m, A2, c - m, by rw [List.length_drop]; omega, by rw [List.length_drop]; omega, by rw [List.length_drop]; exact World.cell?_setCell_same' _ _ _ (by rw [x3]; rfl), by rw [World.frozen?_setCell]; exact xf3, by rw [List.length_drop]; exact HE2, Lib.hid (HS.out _ _ _ HJ3.out), Lib.hid (by have := HK.out; have := HNX.out; omega)⟩
            case measure => rw [HLF.out, leftN_set x3]; omega
end Go.Proofs.YtpdedfpacklnoaaGreatDoor
