/- Contract of ormap.many: itemsF (behind TkY, the iterator's part). -/
import Derived.Test.YtpdedfpacklnoaaGreatDoorTkY
import Derived.Test.YtpdedfpacklnoaaGreatDoorTkM
import Derived.Test.YtpdedfpacklnoaaGreatDoorMH
import Derived.RangeFuncWrites
import Derived.RangeFuncLeaves
import Derived.RangeFuncCalls
import Derived.OwnWalkIn
import Derived.TacticsInMore
import Derived.LoopNIn
import Derived.LoopIn
import Derived.RegionIn
import Derived.Shelf.RegionOpen
import Derived.Sort.QuietIn
set_option maxRecDepth 100000
namespace Go.Proofs.YtpdedfpacklnoaaGreatDoor
open Go.RowKit Go.BL Go.Ct Go.Sl
attribute [local go_sem] Oper.semAt_some

theorem items_any (A : Option Addr) (n c : Nat) (w : World) : CallsIn Fence.wide 2 Tryz.prog 121 #[.slice A n c] w fun e w' => e = .returned (.func (.func 164) #[] #[.pointer (some ⟨w.heap.size, 0, none⟩)]) ∧ w' = w.alloc (.cells #[.slice A n c] 26) := by
  refine callsIn_of_wp Tryz.func121 rfl (by trivial) ?_ rfl
  simp only [Tryz.ntmps121, List.size_toArray, List.length_cons, List.length_nil, Nat.reduceAdd, Nat.reduceSub, Array.replicate_succ, Array.replicate_zero, List.push_toArray, List.append_toArray, List.nil_append, List.cons_append]
  gi_wp2
  go_ret
  exact ⟨rfl, rfl⟩
theorem itemsF_len : ∀ (l : List En) (p : Option (List UInt8)), itemsF p l ≤ l.length
  | [], p => by cases p <;> exact Nat.le_refl 0
  | e :: r, none => by show 1 + itemsF (some e.it) r ≤ r.length + 1; have := itemsF_len r (some e.it); omega
  | e :: r, some s => by show (if s = e.it then 0 else 1) + itemsF (some e.it) r ≤ r.length + 1; have := itemsF_len r (some e.it); split <;> omega
theorem cell_heap {w w' : World} {N : Nat} (h : w'.heap[N]? = w.heap[N]?) (i : Nat) : w'.cell? ⟨N, i, none⟩ = w.cell? ⟨N, i, none⟩ ∧ w'.frozen? ⟨N, i, none⟩ = w.frozen? ⟨N, i, none⟩ := by
  constructor <;> simp [World.cell?, World.frozen?, h]
/-- What lies between two rounds. -/
structure Mid (w : World) (L : Loop) (k : Nat) (W : World) : Prop where
  below : Below w.heap.size w W
  cell : W.cell? ⟨w.heap.size, 0, none⟩ = some (.int .i64 (wrap64 (k : Int)))
  soft : W.frozen? ⟨w.heap.size, 0, none⟩ = false
  loop : W.heap[w.heap.size + 3]? = some (.loop L)
  late : W.heap[w.heap.size + 2]? = some (.deferred (some []))
theorem Mid.drewN {w : World} {L : Loop} {k : Nat} {W : World} (h : Mid w L k W) (N : Nat) : Mid w L k (W.drewN N) :=
  ⟨H.below_drewN h.below N, h.cell, h.soft, h.loop, h.late⟩
theorem Mid.far {w : World} {L : Loop} {k : Nat} {W : World} (h : Mid w L k W) (v : Value) : Mid w L k (W.setCell ⟨w.heap.size + 1, 0, none⟩ v) := by
  have hh : ∀ x, x ≠ w.heap.size + 1 → (W.setCell ⟨w.heap.size + 1, 0, none⟩ v).heap[x]? = W.heap[x]? := fun x hx => Below.heap_setCell W _ v x hx
  have hc := cell_heap (hh w.heap.size (by omega)) 0
  exact ⟨h.below.setCell (p := ⟨w.heap.size + 1, 0, none⟩) (by simp) v, hc.1.trans h.cell, hc.2.trans h.soft, (hh _ (by omega)).trans h.loop, (hh _ (by omega)).trans h.late⟩
theorem Mid.turn {w : World} {L : Loop} {k : Nat} {W : World} (h : Mid w L k W) (L' : Loop) : Mid w L' k (W.putObj (w.heap.size + 3) (.loop L')) := by
  have hlt : w.heap.size + 3 < W.heap.size := (Array.getElem?_eq_some_iff.1 h.loop).1
  have hh : ∀ x, x ≠ w.heap.size + 3 → (W.putObj (w.heap.size + 3) (.loop L')).heap[x]? = W.heap[x]? := fun x hx => World.putObj_heap_other hx
  have hc := cell_heap (hh w.heap.size (by omega)) 0
  exact ⟨h.below.trans (belowK_b (w := w) (Nat.le_refl _) W _ _ _ (by omega) h.loop rfl rfl), hc.1.trans h.cell, hc.2.trans h.soft, World.putObj_heap_same hlt, (hh _ (by omega)).trans h.late⟩
theorem wrap_succ (k : Nat) : wrap64 (wrap64 (k : Int) + 1) = wrap64 ((k + 1 : Nat) : Int) := by unfold wrap64; omega
theorem Mid.count {w : World} {L : Loop} {k : Nat} {W : World} (h : Mid w L k W) : Mid w L (k + 1) (W.setCell ⟨w.heap.size, 0, none⟩ (.int .i64 (wrap64 ((k + 1 : Nat) : Int)))) := by
  have hh : ∀ x, x ≠ w.heap.size → (W.setCell ⟨w.heap.size, 0, none⟩ (.int .i64 (wrap64 ((k + 1 : Nat) : Int)))).heap[x]? = W.heap[x]? := fun x hx => Below.heap_setCell W _ _ x hx
  refine ⟨h.below.setCell (p := ⟨w.heap.size, 0, none⟩) (Nat.le_refl _) _, ?_, ?_, (hh _ (by omega)).trans h.loop, (hh _ (by omega)).trans h.late⟩
  · rw [World.cell?_setCell_same' _ _ _ (by rw [h.cell]; rfl)]
  · rw [World.frozen?_setCell]; exact h.soft
/-- A range over an iterator that calls back with two values; the body counts. -/
theorem range_count {g : Operand} {ps : Array Tmp} {assign body : Code} {Q : Exit → Act → World → Prop} {a : Act} {w1 : World} {gf : Nat} {lb : Array Value}
    (hg : a.eval g = .func (.func gf) #[] lb) (eg : ∀ args w, (callFunc gf args).run Tryz.prog w = .ok (.enter gf args) w) (hps : ps.size = 2) (w : World) (N : Nat)
    (hs1 : w1.heap.size = w.heap.size + 2) (hb1 : Below w.heap.size w w1) (hc1 : w1.cell? ⟨w.heap.size, 0, none⟩ = some (.int .i64 0)) (hf1 : w1.frozen? ⟨w.heap.size, 0, none⟩ = false)
    (hit : ∀ (L : Loop) (W : World), Mid w L 0 W → W.heap[w.heap.size + 1]? = w1.heap[w.heap.size + 1]? →
      (∀ k W s v, Mid w L k W → YieldAt Fence.wide 1 Tryz.prog (w.heap.size + 3) #[.string s, v] W fun e W' => e = .returned (.bool true) ∧ Mid w L (k + 1) W' ∧ W'.cell? ⟨w.heap.size + 1, 0, none⟩ = W.cell? ⟨w.heap.size + 1, 0, none⟩ ∧ W'.frozen? ⟨w.heap.size + 1, 0, none⟩ = W.frozen? ⟨w.heap.size + 1, 0, none⟩) →
      CallsIn Fence.wide 2 Tryz.prog gf (#[.func (.yield (w.heap.size + 3)) #[] #[]] ++ lb) W fun e W' => (∃ v, e = .returned v) ∧ Mid w L N W')
    (a₁ : ByteArray → Value → Act)
    (hassign : ∀ (l : Nat) (s : ByteArray) (v : Value) (W : World) (K : Act → World → Prop), K (a₁ s v) W →
      assign.wpIn (Fence.wide.inRound l) 1 Tryz.prog (Exit.then K (fun _ _ _ => False)) { tmps := (ps.zip #[.string s, v]).foldl (fun t (p, v) => t.setIfInBounds p v) a.tmps, defers := [] } W)
    (hbody : ∀ (l k : Nat) (L : Loop) (s : ByteArray) (v : Value) (W : World), Mid w L k W → body.wpIn (Fence.wide.inRound l) 1 Tryz.prog (fun e _ W' => e = .normal ∧ Mid w L (k + 1) W' ∧ W'.heap[w.heap.size + 1]? = W.heap[w.heap.size + 1]?) (a₁ s v) W)
    (hdone : ∀ (L : Loop) (W : World), Mid w L N W → Q .normal { a with defers := { target := .collected (w.heap.size + 2), args := #[] } :: a.defers } W) :
    (Code.rangeFunc g ps assign body).wpIn Fence.wide 3 Tryz.prog Q a w1 := by
  refine wpIn_rangeFunc ?_
  intro fn hfn
  obtain ⟨rec, hrec⟩ : ∃ rec : LoopState → Option Code → Loop, rec = fun st pe => { state := st, pending := pe, fn, tmps := a.tmps, params := ps, assign, body, defers := w1.heap.size } := ⟨_, rfl⟩
  obtain ⟨W1, hW1⟩ : ∃ W1, (w1.alloc (.deferred (some []))).alloc (.loop (rec .ready none)) = W1 := ⟨_, rfl⟩
  have hold : ∀ x, x < w1.heap.size → W1.heap[x]? = w1.heap[x]? := fun x hx => by
    rw [← hW1]; exact (Below.heap_alloc _ _ _ (by simp; omega)).trans (Below.heap_alloc _ _ _ hx)
  have hM : Mid w (rec .ready none) 0 W1 := by
    have hc := cell_heap (hold w.heap.size (by omega)) 0
    refine ⟨?_, ?_, hc.2.trans hf1, ?_, ?_⟩
    · rw [← hW1]; exact (hb1.alloc hb1.size _).alloc (by simp; omega) _
    · rw [hc.1, hc1, show wrap64 ((0 : Nat) : Int) = 0 by unfold wrap64; omega]
    · rw [← hW1]; have := World.alloc_heap_new (w1.alloc (.deferred (some []))) (.loop (rec .ready none)); rw [World.size_alloc, hs1] at this; exact this
    · rw [← hW1]; have := World.alloc_heap_new w1 (.deferred (some [])); rw [hs1] at this; exact (Below.heap_alloc _ _ _ (by simp; omega)).trans this
  refine ⟨w.heap.size + 3, [{ target := .collected (w.heap.size + 2), args := #[] }], W1, { target := .fn (.func gf) lb, args := #[.func (.yield (w.heap.size + 3)) #[] #[]] }, W1, gf,
    #[.func (.yield (w.heap.size + 3)) #[] #[]] ++ lb, W1, ?_, ?_, fun _ _ => trivial, ?_, fun h => (by cases h), ?_⟩
  · rw [← hW1, hrec]
    have := run_enterLoop_outer (P := Tryz.prog) (w := w1) fn a.tmps ps assign body
    rw [hs1] at this ⊢
    exact this
  · simp only [resolve, hg]
    simp [go_sem]
  · simp [invoke, go_sem, eg]
  · refine (hit (rec .ready none) W1 hM (hold _ (by omega)) ?_).mono ?_
    · intro k W s v hm
      have hlt : w.heap.size + 3 < W.heap.size := (Array.getElem?_eq_some_iff.1 hm.loop).1
      have hy := run_yield (P := Tryz.prog) (args := #[.string s, v]) hm.loop (by rw [hrec]; exact hps.symm)
      rw [hrec] at hy
      refine ⟨fn, _, assign, body, hy, roundIn_of_wpIn hfn (hassign _ s v W _ ⟨_, run_beginRound hm.loop (by rw [hrec]), ?_⟩)⟩
      have hm2 := hm.turn { rec .ready none with state := .busy }
      refine wpIn_mono (hbody _ k _ s v _ hm2) ?_
      rintro e a3 W3 ⟨rfl, hm3, h3⟩
      have hr := run_endRound (P := Tryz.prog) none hm3.loop
      refine ⟨_, _, hr, rfl, ?_, ?_⟩
      · have := hm3.turn (rec .ready none)
        rw [hrec] at this ⊢
        exact this
      · have e1 : ∀ L', (W3.putObj (w.heap.size + 3) (.loop L')).heap[w.heap.size + 1]? = W.heap[w.heap.size + 1]? := fun L' =>
          (World.putObj_heap_other (by omega)).trans (h3.trans (World.putObj_heap_other (by omega)))
        exact cell_heap (e1 _) 0
    · rintro e W2 ⟨⟨v, rfl⟩, hm⟩
      exact ⟨none, _, by have := run_endLoop (P := Tryz.prog) hm.loop (by rw [hrec]; simp); rw [hrec] at this; exact this, hdone _ _ (hm.turn _)⟩
set_option maxHeartbeats 16000000 in
theorem many_any : ManyC := by
  intro es v w he hl hcap
  obtain ⟨A, c, rfl⟩ := he.form
  have hcp := hcap _ _ _ rfl
  clear hcap
  refine (callsIn_wide (n := 3)).1 ?_
  refine callsIn_of_wp_marks Tryz.func221 rfl (by trivial) ?_ rfl
  simp only [Tryz.ntmps221, List.size_toArray, List.length_cons, List.length_nil, Nat.reduceAdd, Nat.reduceSub, Array.replicate_succ, Array.replicate_zero, List.push_toArray, List.append_toArray, List.nil_append, List.cons_append]
  gi_wp2_with (refine ⟨trivial, (items_any _ _ _ _).mono ?_⟩; rintro e w' ⟨rfl, rfl⟩)
  obtain ⟨w1, hw1⟩ : ∃ y, (w.alloc (.cells #[.int .i64 0] 3)).alloc (.cells #[.slice A es.length c] 26) = y := ⟨_, rfl⟩
  have hs1 : w1.heap.size = w.heap.size + 2 := by rw [← hw1]; simp
  have hb1 : Below w.heap.size w w1 := by rw [← hw1]; exact ((Below.refl _ _).alloc (Nat.le_refl _) _).alloc (by simp) _
  have k0 : w1.cell? ⟨w.heap.size, 0, none⟩ = some (.int .i64 0) ∧ w1.frozen? ⟨w.heap.size, 0, none⟩ = false := by rw [← hw1]; constructor <;> simp
  have k1 : w1.cell? ⟨w.heap.size + 1, 0, none⟩ = some (.slice A es.length c) ∧ w1.frozen? ⟨w.heap.size + 1, 0, none⟩ = false := by rw [← hw1]; constructor <;> simp
  rw [hw1]
  clear hw1
  refine range_count (gf := 164) (lb := #[.pointer (some ⟨w.heap.size + 1, 0, none⟩)]) rfl (enters_of Tryz.func164 (by kernel_rfl) rfl) rfl w (itemsF none es) hs1 hb1 k0.1 k0.2 ?it
    (fun s v => { tmps := #[.slice A es.length c, undef, .int .i64 0, .pointer (some ⟨w.heap.size, 0, none⟩), .slice A es.length c, .func (.func 164) #[] #[.pointer (some ⟨w.heap.size + 1, 0, none⟩)], .string s, v, undef, undef, undef], defers := [] }) ?assign ?body ?done
  case it =>
    intro L W hm h1 hY
    have hc := cell_heap h1 0
    exact items1_in 2 (w.heap.size + 3) (w.heap.size + 1) w (fun k W => Mid w L k W) (by omega) (fun k W N h => h.drewN N) (fun k W v h => h.far v) (fun k W h => h.below) hY es A c he hl hcp W (hc.1.trans k1.1) (hc.2.trans k1.2) hm
  case assign =>
    intro l s v W K hK
    gi_wp2
    simpa using hK
  case body =>
    intro l k L s v W hm
    have h1 := hm.cell
    have h2 := hm.soft
    have HM := Lib.hid hm
    clear hm
    gi_wp2
    rw [wrap_succ]
    exact ⟨HM.out.count, Below.heap_setCell _ _ _ _ (by simp)⟩
  case done =>
    intro L W hm
    have h1 := hm.cell
    have h2 := hm.soft
    have HM := Lib.hid hm
    have hil : itemsF none es ≤ 64 := Nat.le_trans (itemsF_len es none) hl
    have hw : wrap64 ((itemsF none es : Nat) : Int) = ((itemsF none es : Nat) : Int) := by unfold wrap64; omega
    rw [hw] at h1
    clear hm hw hil
    gi_wp2
    refine ⟨by simp, .inl ⟨_, _, rfl, run_takeDeferred HM.out.late, ?_⟩⟩
    exact ⟨_, results_tmp rfl _ _ _, rfl, HM.out.below.trans (belowK_b (w := w) (Nat.le_refl _) W _ _ _ (by omega) HM.out.late rfl rfl)⟩
end Go.Proofs.YtpdedfpacklnoaaGreatDoor
