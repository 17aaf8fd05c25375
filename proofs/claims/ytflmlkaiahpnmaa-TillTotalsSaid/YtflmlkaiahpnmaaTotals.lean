/- TillTotals: Clone and Equal of lines, Share of both packages, and the walk of the law. -/
import Derived.Test.YtflmlkaiahpnmaaEqU
import Derived.Test.YtflmlkaiahpnmaaNeverW
namespace Go.Proofs.Ytflmlkaiahpnmaa
open Go.RowKit Go.Fl
theorem cellsL_at (ls : List Ln) : ∀ (j : Nat) (u : Value), (cellsOf ls)[j]? = some u → ∃ x, ls[j / 3]? = some x ∧ ((j % 3 = 0 ∧ u = .string x.s) ∨ (j % 3 = 1 ∧ u = .int .i64 x.q) ∨ (j % 3 = 2 ∧ u = .int .u64 x.p)) := by
  induction ls with
  | nil => intro j u h; simp [cellsOf] at h
  | cons y ls ih =>
    intro j u h
    have hc : cellsOf (y :: ls) = .string y.s :: .int .i64 y.q :: .int .u64 y.p :: cellsOf ls := by simp [cellsOf]
    rw [hc] at h
    rcases j with _ | _ | _ | j
    · exact ⟨y, rfl, .inl ⟨rfl, (Option.some.inj h).symm⟩⟩
    · exact ⟨y, rfl, .inr (.inl ⟨rfl, (Option.some.inj h).symm⟩)⟩
    · exact ⟨y, rfl, .inr (.inr ⟨rfl, (Option.some.inj h).symm⟩)⟩
    · simp only [List.getElem?_cons_succ] at h
      obtain ⟨x, h1, h2⟩ := ih j u h
      refine ⟨x, ?_, ?_⟩
      · rw [show (j + 1 + 1 + 1) / 3 = j / 3 + 1 by omega]; exact h1
      · rw [show (j + 1 + 1 + 1) % 3 = j % 3 by omega]; exact h2
theorem cellsL_one (ls : List Ln) : ∀ u ∈ cellsOf ls, u.oneCell' = true := by
  intro u hu
  obtain ⟨j, hj⟩ := List.getElem?_of_mem hu
  obtain ⟨x, _, ⟨_, rfl⟩ | ⟨_, rfl⟩ | ⟨_, rfl⟩⟩ := cellsL_at ls j u hj <;> rfl
theorem RdL.reads {w : World} {A : Option Addr} {n : Nat} {ls : List Ln} (h : RdL w A n ls) : UL.Reads w w.heap.size 3 A n (cellsOf ls) := by
  refine ⟨by rw [cellsOf_length, h.1], fun hn => ?_⟩
  obtain ⟨b, off, rfl, hb, hc⟩ := h.2.2.2 hn
  refine ⟨_, rfl, hb, fun j u hu => ?_⟩
  obtain ⟨x, hx, hk⟩ := cellsL_at ls j u hu
  obtain ⟨h0, h1, h2⟩ := hc (j / 3) x hx
  rw [UL.add_none]
  rcases hk with ⟨e, rfl⟩ | ⟨e, rfl⟩ | ⟨e, rfl⟩
  · rw [show off + j = off + j / 3 * 3 by omega]; exact h0
  · rw [show off + j = off + j / 3 * 3 + 1 by omega]; exact h1
  · rw [show off + j = off + j / 3 * 3 + 2 by omega]; exact h2
theorem RdL.alloc {w : World} {A : Option Addr} {n : Nat} {ls : List Ln} (h : RdL w A n ls) (o : Obj) : RdL (w.alloc o) A n ls :=
  h.below ((Below.refl _ w).alloc (Nat.le_refl _) o) (Nat.le_refl _)
theorem cloneL_any (A : Option Addr) (m cap : Nat) (ls : List Ln) (w : World) (hr : RdL w A m ls) (hm : m * 32 ≤ 140737488355328) :
    Calls Try.prog 23 #[.slice A m cap] w fun e w' => (∃ G c, e = .returned (.slice G ls.length c) ∧ RdL w' G ls.length ls) ∧ Below w.heap.size w w' := by
  have heq := fun (w : World) (a : Option Addr) (n c n' c' : Nat) => Lib.run_eql_slice_nil (P := Try.prog) w 25 27 a n c n' c' Try.underlying25
  have hi : (Try.prog.info? 27).map (fun i => (i.zero, i.size, i.bytes)) = some (some (.agg #[.string .empty, .int .i64 0, .int .u64 0]), 3, 32) := by kernel_rfl
  obtain ⟨i0, hi0, hz0, hz1, hz2⟩ := info_parts hi
  have Hi0 := Lib.hid hi0
  have Hz0 := Lib.hid hz0
  have Hz1 := Lib.hid hz1
  have Hz2 := Lib.hid hz2
  have Hr := Lib.hid hr
  clear hr hi hi0 hz0 hz1 hz2
  cases A with
  | none =>
    have hb : Hid (ls = []) := Lib.hid (by
      have h0 : m = 0 := by
        rcases Nat.eq_zero_or_pos m with h | h
        · exact h
        · obtain ⟨_, _, e, _⟩ := Hr.out.2.2.2 h; cases e
      exact List.eq_nil_of_length_eq_zero (by rw [Hr.out.1, h0]))
    go_enter Try.func23, Try.ntmps23
    go_wp2
    go_ret
    refine ⟨⟨none, 0, by rw [hb.out]; rfl, ?_⟩, Below.refl _ _⟩
    rw [hb.out]
    exact ⟨rfl, by decide, fun x hx => absurd hx (by simp), fun h => absurd h (by simp)⟩
  | some a =>
    have Hm := Lib.hid hm
    have Hl : Hid (0 + m ≤ maxLen) := Lib.hid (by unfold maxLen; omega)
    have Hb : Hid ((0 + m) * 32 ≤ 140737488355328) := Lib.hid (by omega)
    have HE : Hid ((w.alloc (.cells #[] 27)).ownsRow w.heap.size 27 3 (.slice (some ⟨w.heap.size, 0, none⟩) 0 0) 0 []) := Lib.hid ⟨rfl, .inr ⟨w.heap.size, 0, #[], rfl, Nat.le_refl _, by show (w.heap.push _)[w.heap.size]? = _; simp, Nat.le_refl _, by decide, rfl, rfl⟩⟩
    go_enter Try.func23, Try.ntmps23
    go_wp2_with (at_builtin; refine UL.wpList_append_any _ rfl (.tmp 5) (.tmp 6) 25 rfl w.heap.size 27 i0 _ 3 32 Try.underlying25 Hi0.out Hz0.out Hz1.out Hz2.out rfl (by decide) _ 0 [] rfl HE.out _ (some a) m cap (cellsOf ls) rfl (Hr.out.alloc _).reads (cellsL_one ls) Hl.out Hb.out (by simp) ?_; intro v' w1 hown1 hgrow1 _; have Ho1 := Lib.hid hown1; have Hg1 := Lib.hid hgrow1; clear hown1 hgrow1)
    go_ret
    have h1 := Ho1.out
    rw [List.nil_append, Nat.zero_add, ← Hr.out.1] at h1
    obtain ⟨G, c, rfl, hg⟩ := own_rdL h1 (by rw [Hr.out.1]; exact Hr.out.2.1) Hr.out.2.2.1
    exact ⟨⟨G, c, rfl, hg⟩, (((Below.refl _ w).alloc (Nat.le_refl _) _).grown Hg1.out (by simp) (fun k hk => by cases hk; exact Nat.le_refl _))⟩
theorem equalL_same (A C : Option Addr) (m cap cap' : Nat) (ls : List Ln) (w : World) (hr : RdL w A m ls) (hs : RdL w C m ls) :
    Calls Try.prog 26 #[.slice A m cap, .slice C m cap'] w (RetV (.bool true) w) := by
  have hm := hr.2.1
  unfold maxLen at hm
  have Hr := Lib.hid hr
  have Hs := Lib.hid hs
  clear hr hs
  go_enter Try.func26, Try.ntmps26
  go_wp2
  go_loopw [13] (fun i wr => ∃ k N : Nat, k ≤ m ∧ i = .int .i64 k ∧ wr = w.drewN N) (fun i _ => m - (intOf i).toNat)
  case atStart => exact ⟨0, 0, Nat.zero_le _, rfl, rfl⟩
  case round =>
    obtain ⟨k, N, hk, rfl, rfl⟩ := hrel
    by_cases hlt : k < m
    · obtain ⟨b, off, rfl, _, hcb⟩ := Hr.out.2.2.2 (by omega)
      obtain ⟨c, off', rfl, _, hcc⟩ := Hs.out.2.2.2 (by omega)
      obtain ⟨x, hx⟩ : ∃ x, ls[k]? = some x := ⟨_, List.getElem?_eq_getElem (by rw [Hr.out.1]; exact hlt)⟩
      obtain ⟨h1, h2, h3⟩ := hcb k x hx
      obtain ⟨h4, h5, h6⟩ := hcc k x hx
      have hlt' : (k : Int) < (m : Int) := by omega
      clear hcb hcc hx
      go_wp2
      go_quiet (fail)
      go_wp2
      go_roundw
      case rel => exact ⟨k + 1, _, by omega, by go_num, rfl⟩
      case measure => simp [intOf]; omega
    · obtain rfl : k = m := by omega
      go_wp2
      go_ret
      exact ⟨rfl, (Below.refl _ _).drewN' _⟩

def shc (am : Nat) (T : Option Nat) (x : Ln) : Nat := word (opc .mul (canon am) (opc .quo (worthc x.q x.p) T))
def sharec (am : Nat) (ls : List Ln) : List Nat := ls.map (shc am (totc ls))
theorem rd_one' (w : World) (g : Nat) (z : Int) (c : Nat) (hg : g = w.heap.size) (hz : z = (c : Int)) (t : TypeId) (fr : Nat × Nat) : UL.Rd (w.alloc (.cells #[.int .u64 z] t fr)) (some ⟨g, 0, none⟩) 1 [c] := by
  subst hz; exact UL.rd_one w g c hg (by omega) t fr
theorem map_snoc (f : Ln → Nat) (ls : List Ln) (k : Nat) (x : Ln) (h : ls[k]? = some x) : (ls.take (k + 1)).map f = (ls.take k).map f ++ [f x] := by
  have hk : k < ls.length := by
    rcases Nat.lt_or_ge k ls.length with h' | h'
    · exact h'
    · rw [List.getElem?_eq_none h'] at h; cases h
  rw [List.take_succ_eq_append_getElem hk]
  rw [List.getElem?_eq_getElem hk] at h
  rw [List.map_append, ← Option.some.inj h]; rfl
theorem share_any (A : Option Addr) (n cap : Nat) (ls : List Ln) (am : Nat) (w : World) (hr : RdL w A n ls) (hn : n * 32 ≤ 140737488355328) : Calls Try.prog 24 #[.slice A n cap, .int .u64 (am : Int)] w (UL.RetO (sharec am ls) w) := by
  have hm := hr.2.1
  unfold maxLen at hm
  have hq := fun w x y => run_fl (P := Try.prog) w .quo (by simp) 42 x y
  have hp := fun w x y => run_fl (P := Try.prog) w .mul (by simp) 42 x y
  have Hr := Lib.hid hr
  have Hn := Lib.hid hn
  clear hr hn
  go_enter Try.func24, Try.ntmps24
  go_wp2_with fail
  refine (total_any _ _ _ _ _ Hr.out).mono ?_
  rintro e w1 ⟨u, rfl, hu, hb1⟩
  have Hu := Lib.hid hu
  have Hb1 := Lib.hid hb1
  clear hu hb1
  go_wp2
  go_loopw [6, 14] (fun t i wr => ∃ (k : Nat), k ≤ n ∧ i = .int .i64 k ∧ Hid (UL.Own wr w.heap.size t ((ls.take k).map (shc am (totc ls)))) ∧ Hid (Below w.heap.size w wr)) (fun _ i _ => n - (intOf i).toNat)
  case atStart => exact ⟨0, Nat.zero_le _, rfl, Lib.hid (by rw [List.take_zero]; exact UL.Own.nil _ _), Hb1⟩
  case round =>
    obtain ⟨k, hk, rfl, Ho, Hb⟩ := hrel
    by_cases hlt : k < n
    · obtain ⟨b, off, rfl, hbl, hc⟩ := (Hr.out.below Hb.out (Nat.le_refl _)).2.2.2 (by omega)
      obtain ⟨x, hx⟩ : ∃ x, ls[k]? = some x := ⟨_, List.getElem?_eq_getElem (by rw [Hr.out.1]; exact hlt)⟩
      obtain ⟨h1, h2, h3⟩ := hc k x hx
      have Ht := Lib.hid (map_snoc (shc am (totc ls)) ls k x hx)
      have Hbl : Hid ((((ls.take k).map (shc am (totc ls))).length + 1) * 8 ≤ 140737488355328) := Lib.hid (by
        rw [List.length_map, List.length_take]; have := Hn.out; omega)
      clear hc hx
      go_wp2_with fail
      refine (worth_any _ _ _ _).mono ?_
      rintro e w2 ⟨z, rfl, hz, hb2⟩
      have Hz := Lib.hid hz
      have B2 : Hid (Below w.heap.size w w2) := Lib.hid ((Hb.out.alloc Hb.out.size _).trans (hb2.mono (by have := Hb.out.size; simp; omega)))
      have O2 := Lib.hid ((Ho.out.alloc (.cells #[.string x.s, .int .i64 x.q, .int .u64 x.p] 27)).below hb2 (Nat.le_refl _))
      clear hz hb2
      go_wp2_with fail
      refine (float_any _ _).mono ?_
      rintro e w3 ⟨rfl, rfl⟩
      go_wp2_with fail
      refine (bits_any _ _).mono ?_
      rw [canon_res, canon_res, Hz.out, Hu.out]
      rintro e w4 ⟨rfl, rfl⟩
      generalize cnt .quo z u + cnt .mul am (res .quo w2 z u) = E at *
      have O3 := Lib.hid (UL.Own.below O2.out ((Below.refl _ w2).drewN' E) (Nat.le_refl _))
      have B3 : Hid (Below w.heap.size w (w2.drewN E)) := Lib.hid (B2.out.drewN' E)
      have Hbase : Hid (w.heap.size ≤ (w2.drewN E).heap.size) := Lib.hid B3.out.size
      go_wp2_with (at_builtin; refine UL.wpList_appB rfl (.tmp 22) (.tmp 28) 33 rfl Try.underlying33 info22 rfl (O3.out.alloc _) rfl (rd_one' (w2.drewN E) _ _ (shc am (totc ls) x) rfl rfl 22 (0, 0)) Hbl.out (Nat.le_trans Hbase.out (by simp)) ?_; intro v4 w4 ho4 hb4; have O4 := Lib.hid ho4; have B4 : Hid (Below w.heap.size w w4) := Lib.hid ((B3.out.alloc Hbase.out _).trans hb4); clear ho4 hb4)
      go_roundw
      case rel => exact ⟨k + 1, by omega, by go_num, Lib.hid (by rw [Ht.out]; exact O4.out), B4⟩
      case measure => simp [intOf]; omega
    · obtain rfl : k = n := by omega
      go_wp2
      go_ret
      exact ⟨_, rfl, by have h := Ho.out; rwa [List.take_of_length_le (by rw [Hr.out.1]; omega)] at h, Hb.out⟩
theorem shareR_any (A : Option Addr) (n cap : Nat) (ls : List Ln) (am : Nat) (w : World) (hr : RdL w A n ls) (hn : n * 32 ≤ 140737488355328) : Calls Try.prog 25 #[.slice A n cap, .int .u64 (am : Int)] w (UL.RetO (sharec am ls) w) := by
  have hm := hr.2.1
  unfold maxLen at hm
  have hq := fun w x y => run_fl (P := Try.prog) w .quo (by simp) 42 x y
  have hp := fun w x y => run_fl (P := Try.prog) w .mul (by simp) 42 x y
  have Hr := Lib.hid hr
  have Hn := Lib.hid hn
  clear hr hn
  go_enter Try.func25, Try.ntmps25
  go_wp2_with fail
  refine (totalR_any _ _ _ _ _ Hr.out).mono ?_
  rintro e w1 ⟨u, rfl, hu, hb1⟩
  have Hu := Lib.hid hu
  have Hb1 := Lib.hid hb1
  clear hu hb1
  go_wp2
  go_loopw [5, 14] (fun t i wr => ∃ (k : Nat), k ≤ n ∧ i = .int .i64 k ∧ Hid (UL.Own wr w.heap.size t ((ls.take k).map (shc am (totc ls)))) ∧ Hid (Below w.heap.size w wr)) (fun _ i _ => n - (intOf i).toNat)
  case atStart => exact ⟨0, Nat.zero_le _, rfl, Lib.hid (by rw [List.take_zero]; exact UL.Own.nil _ _), Hb1⟩
  case round =>
    obtain ⟨k, hk, rfl, Ho, Hb⟩ := hrel
    by_cases hlt : k < n
    · obtain ⟨b, off, rfl, hbl, hc⟩ := (Hr.out.below Hb.out (Nat.le_refl _)).2.2.2 (by omega)
      obtain ⟨x, hx⟩ : ∃ x, ls[k]? = some x := ⟨_, List.getElem?_eq_getElem (by rw [Hr.out.1]; exact hlt)⟩
      obtain ⟨h1, h2, h3⟩ := hc k x hx
      have Ht := Lib.hid (map_snoc (shc am (totc ls)) ls k x hx)
      have Hbl : Hid ((((ls.take k).map (shc am (totc ls))).length + 1) * 8 ≤ 140737488355328) := Lib.hid (by
        rw [List.length_map, List.length_take]; have := Hn.out; omega)
      clear hc hx
      go_wp2_with fail
      refine (worthR_any _ _ _ _).mono ?_
      rintro e w2 ⟨z, rfl, hz, hb2⟩
      have Hz := Lib.hid hz
      have B2 : Hid (Below w.heap.size w w2) := Lib.hid ((Hb.out.alloc Hb.out.size _).trans (hb2.mono (by have := Hb.out.size; simp; omega)))
      have O2 := Lib.hid ((Ho.out.alloc (.cells #[.string x.s, .int .i64 x.q, .int .u64 x.p] 27)).below hb2 (Nat.le_refl _))
      clear hz hb2
      go_wp2_with fail
      refine (floatR_any _ _).mono ?_
      rintro e w3 ⟨rfl, rfl⟩
      go_wp2_with fail
      refine (bitsR_any _ _).mono ?_
      rw [canon_res, canon_res, Hz.out, Hu.out]
      rintro e w4 ⟨rfl, rfl⟩
      generalize cnt .quo z u + cnt .mul am (res .quo w2 z u) = E at *
      have O3 := Lib.hid (UL.Own.below O2.out ((Below.refl _ w2).drewN' E) (Nat.le_refl _))
      have B3 : Hid (Below w.heap.size w (w2.drewN E)) := Lib.hid (B2.out.drewN' E)
      have Hbase : Hid (w.heap.size ≤ (w2.drewN E).heap.size) := Lib.hid B3.out.size
      go_wp2_with (at_builtin; refine UL.wpList_appB rfl (.tmp 22) (.tmp 28) 33 rfl Try.underlying33 info22 rfl (O3.out.alloc _) rfl (rd_one' (w2.drewN E) _ _ (shc am (totc ls) x) rfl rfl 22 (0, 0)) Hbl.out (Nat.le_trans Hbase.out (by simp)) ?_; intro v4 w4 ho4 hb4; have O4 := Lib.hid ho4; have B4 : Hid (Below w.heap.size w w4) := Lib.hid ((B3.out.alloc Hbase.out _).trans hb4); clear ho4 hb4)
      go_roundw
      case rel => exact ⟨k + 1, by omega, by go_num, Lib.hid (by rw [Ht.out]; exact O4.out), B4⟩
      case measure => simp [intOf]; omega
    · obtain rfl : k = n := by omega
      go_wp2
      go_ret
      exact ⟨_, rfl, by have h := Ho.out; rwa [List.take_of_length_le (by rw [Hr.out.1]; omega)] at h, Hb.out⟩
theorem totals_any (A : Option Addr) (n cap : Nat) (ls : List Ln) (am : Nat) (h : Int) (w : World) (hr : RdL w A n ls) (hn : n * 32 ≤ 140737488355328) : Calls Try.prog 8 #[.slice A n cap, .int .u64 (am : Int), .int .i64 h] w (RetV (.bool true) w) := by
  have hl := hr.1
  subst hl
  have Hr := Lib.hid hr
  have Hn := Lib.hid hn
  clear hr hn
  go_enter Try.func8, Try.ntmps8
  go_wp2_with fail
  refine (cloneL_any _ _ _ _ _ Hr.out Hn.out).mono ?_
  rintro e w1 ⟨⟨G, gc, rfl, hg⟩, hb⟩
  have G1 := Lib.hid hg
  have B1 := Lib.hid hb
  have R1 := Lib.hid (Hr.out.below hb (Nat.le_refl _))
  clear hb hg
  go_wp2_with fail
  refine (sum_any _ _ _ ls _ G1.out).mono ?_
  rintro e w2 ⟨rfl, hb⟩
  have B2 : Hid (Below w.heap.size w w2) := Lib.hid (B1.out.trans (hb.mono B1.out.size))
  have R2 := Lib.hid (R1.out.below hb (Nat.le_refl _))
  have G2 := Lib.hid (G1.out.below hb (Nat.le_refl _))
  clear hb
  go_wp2_with fail
  refine (sumR_any _ _ _ ls _ R2.out).mono ?_
  rintro e w3 ⟨rfl, hb⟩
  have B3 : Hid (Below w.heap.size w w3) := Lib.hid (B2.out.trans (hb.mono B2.out.size))
  have R3 := Lib.hid (R2.out.below hb (Nat.le_refl _))
  have G3 := Lib.hid (G2.out.below hb (Nat.le_refl _))
  clear hb
  go_wp2_with fail
  refine (off_any _ _ _).mono ?_
  rintro e w4 ⟨rfl, N1, rfl⟩
  go_wp2_with fail
  refine (offR_any _ _ _).mono ?_
  rintro e w5 ⟨rfl, N2, hw5⟩
  have hb : Below w3.heap.size w3 w5 := by rw [hw5]; exact (((Below.refl _ _).drewN' _).drewN' _)
  have B5 : Hid (Below w.heap.size w w5) := Lib.hid (B3.out.trans (hb.mono B3.out.size))
  have R5 := Lib.hid (R3.out.below hb (Nat.le_refl _))
  have G5 := Lib.hid (G3.out.below hb (Nat.le_refl _))
  clear hb hw5
  go_wp2_with fail
  refine (share_any _ _ _ ls am _ G5.out Hn.out).mono ?_
  rintro e w6 ⟨v6, rfl, ho6, hb⟩
  have B6 : Hid (Below w.heap.size w w6) := Lib.hid (B5.out.trans (hb.mono B5.out.size))
  have R6 := Lib.hid (R5.out.below hb (Nat.le_refl _))
  have G6 := Lib.hid (G5.out.below hb (Nat.le_refl _))
  obtain ⟨P6, c6, rfl, hr6⟩ := ho6.rd
  have S6 := Lib.hid hr6
  clear hb ho6 hr6
  go_wp2_with fail
  refine (shareR_any _ _ _ ls am _ R6.out Hn.out).mono ?_
  rintro e w7 ⟨v7, rfl, ho7, hb⟩
  have B7 : Hid (Below w.heap.size w w7) := Lib.hid (B6.out.trans (hb.mono B6.out.size))
  have R7 := Lib.hid (R6.out.below hb (Nat.le_refl _))
  have G7 := Lib.hid (G6.out.below hb (Nat.le_refl _))
  have S7 := Lib.hid (S6.out.below hb (Nat.le_refl _))
  obtain ⟨P7, c7, rfl, hr7⟩ := ho7.rd
  have U7 := Lib.hid hr7
  clear hb ho7 hr7
  go_wp2_with fail
  refine (equal_any P6 P7 _ _ c6 c7 _ _ _ S7.out U7.out).mono ?_
  rw [decide_eq_true rfl]
  rintro e w8 ⟨rfl, N3, hw8⟩
  have hb : Below w7.heap.size w7 w8 := by rw [hw8]; exact (Below.refl _ _).drewN' _
  have B8 : Hid (Below w.heap.size w w8) := Lib.hid (B7.out.trans (hb.mono B7.out.size))
  have R8 := Lib.hid (R7.out.below hb (Nat.le_refl _))
  have G8 := Lib.hid (G7.out.below hb (Nat.le_refl _))
  clear hb hw8
  go_wp2_with fail
  refine (equalL_same _ _ _ _ _ ls _ G8.out R8.out).mono ?_
  rintro e w9 ⟨rfl, hb⟩
  have B9 : Hid (Below w.heap.size w w9) := Lib.hid (B8.out.trans (hb.mono B8.out.size))
  clear hb
  go_wp2
  go_ret
  exact ⟨rfl, B9.out⟩
end Go.Proofs.Ytflmlkaiahpnmaa
