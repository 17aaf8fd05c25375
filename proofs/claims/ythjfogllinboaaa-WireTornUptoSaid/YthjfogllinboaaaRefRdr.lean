/- The document's reader. -/
import Derived.Test.YthjfogllinboaaaRefUint
namespace Go.BL
open Go.RowKit
theorem quiet_left {P : Program} {f : FuncId} {args : Array Value} {w : World} {n : Nat} {v : Value}
    (h : Calls P f args (w.drewN n) fun e w' => e = .returned v ∧ w.drewN n = w') : Calls P f args (w.drewN n) fun e w'' => e = .returned v ∧ ∃ m, w'' = w.drewN m :=
  h.mono fun _ _ ⟨he, hm⟩ => ⟨he, n, hm.symm⟩
theorem Rd.drewN {w : World} {A : Option Addr} {n : Nat} {bs : List Nat} (h : Rd w A n bs) (N : Nat) : Rd (w.drewN N) A n bs := h
theorem Rd.dropIf {w : World} {G : Option Addr} {len c i : Nat} {bs : List Nat} (h : Rd w G len bs) (hi : i ≤ len) (hc : len ≤ c) : Rd w (if c = i then G else G.map fun x => x.add i) (len - i) (bs.drop i) := by
  have h1 := h.cutIf (i := i) (n := len - i) (by omega) hc
  rwa [List.take_of_length_le (by rw [List.length_drop, h.1]; exact Nat.le_refl _)] at h1
end Go.BL
namespace Go.Proofs.Ythjfogllinboaaa
open Go.RowKit Go.BL Go.Wr
/-- The document's reader over bs at i: its object g, its bytes below B. -/
def RRd (w : World) (B g : Nat) (bs : List Nat) (i : Nat) : Prop :=
  ∃ G c, w.heap[g]? = some (.cells #[.slice G bs.length c, .int .i64 (i : Int)] 45 (0, 0)) ∧ Rd w G bs.length bs ∧ i ≤ bs.length ∧ B ≤ g ∧ bs.length ≤ c ∧ (0 < bs.length → ∀ a, G = some a → a.block < B)
theorem RRd.cells {w : World} {B g i : Nat} {bs : List Nat} (h : RRd w B g bs i) : ∃ G c, w.cell? ⟨g, 0, none⟩ = some (.slice G bs.length c) ∧ w.cell? ⟨g, 1, none⟩ = some (.int .i64 (i : Int)) ∧ w.frozen? ⟨g, 1, none⟩ = false ∧ Rd w G bs.length bs ∧ bs.length ≤ c := by
  obtain ⟨G, c, hh, hr, _, _, hcap, _⟩ := h
  refine ⟨G, c, by rw [cell_of_row w g 0 _ 45 (0, 0) hh]; rfl, by rw [cell_of_row w g 1 _ 45 (0, 0) hh]; rfl, ?_, hr, hcap⟩
  unfold World.frozen?
  rw [hh]
  rfl
theorem RRd.lt {w : World} {B g i : Nat} {bs : List Nat} (h : RRd w B g bs i) : g < w.heap.size := by
  obtain ⟨G, c, hh, _⟩ := h
  rcases Nat.lt_or_ge g w.heap.size with h' | h'
  · exact h'
  · rw [Array.getElem?_eq_none h'] at hh; cases hh
theorem RRd.le {w : World} {B g i : Nat} {bs : List Nat} (h : RRd w B g bs i) : i ≤ bs.length := by
  obtain ⟨G, c, _, _, hb, _⟩ := h; exact hb
theorem RRd.kept {w w' : World} {B g i : Nat} {bs : List Nat} {rows : List Nat} (h : RRd w B g bs i) (k : Kept rows w w') (hr : ∀ x ∈ rows, B ≤ x ∧ x ≠ g) : RRd w' B g bs i := by
  have hlt := h.lt
  obtain ⟨G, c, hh, hd, hi, hg, hcap, hG⟩ := h
  exact ⟨G, c, (k.block g hlt (fun hx => (hr g hx).2 rfl)).trans hh, hd.kept k (fun a e hn hx => by have := (hr _ hx).1; have := hG hn a e; omega), hi, hg, hcap, hG⟩
theorem RRd.drewN {w : World} {B g i : Nat} {bs : List Nat} (h : RRd w B g bs i) (n : Nat) : RRd (w.drewN n) B g bs i :=
  h.kept (rows := []) ((Kept.refl [] w).drewN n) (fun _ hx => by cases hx)
theorem RRd.toI {w : World} {B g i : Nat} {bs : List Nat} {z : Int} (h : RRd w B g bs i) (j : Nat) (hj : j ≤ bs.length) (hz : z = (j : Int)) : RRd (w.setCell ⟨g, 1, none⟩ (.int .i64 z)) B g bs j := by
  subst hz
  obtain ⟨G, c, hh, hd, hi, hg, hcap, hG⟩ := h
  refine ⟨G, c, ?_, ?_, hj, hg, hcap, hG⟩
  · simp [World.setCell, Array.getElem?_modify, hh]
  · exact hd.kept (rows := [g]) ((Kept.refl _ w).setCell (.inl (by simp)) _) (fun a e hn hx => by have := hG hn a e; simp at hx; omega)
/-- What a call of the document's reader leaves. -/
def RetRR (B g : Nat) (bs : List Nat) (v : Value) (code pos : Nat) (w : World) (e : Ending) (w' : World) : Prop :=
  e = .returned (.tuple #[v, .int .i64 (code : Int)]) ∧ RRd w' B g bs pos ∧ Kept [g] w w'
theorem refUint_at (bs : List Nat) (i : Nat) : uintAt bs i = ((refUint (bs.drop i)).1, (refUint (bs.drop i)).2.2, i + (refUint (bs.drop i)).2.1) := by
  unfold uintAt refUint
  cases num (bs.drop i) 0 0 <;> rfl
theorem refUint_le (bs : List Nat) (i : Nat) (hi : i ≤ bs.length) : i + (refUint (bs.drop i)).2.1 ≤ bs.length := by
  unfold refUint
  cases h : num (bs.drop i) 0 0 with
  | bad c => exact hi
  | got n k =>
    have := num_le _ _ _ _ _ h
    rw [List.length_drop] at this
    show i + k ≤ bs.length
    omega
set_option maxRecDepth 100000 in
theorem refRUint_any (B g : Nat) (bs : List Nat) (i : Nat) (w : World) (h : RRd w B g bs i) :
    Calls Try.prog 25 #[.pointer (some ⟨g, 0, none⟩)] w (RetRR B g bs (.int .i64 ((uintAt bs i).1 : Int)) (uintAt bs i).2.1 (uintAt bs i).2.2 w) := by
  obtain ⟨G, c, h0, h1, h2, hr, hcap⟩ := h.cells
  have hm := hr.2.1
  unfold maxLen at hm
  have hile := h.le
  have hi : (i : Int) ≤ (bs.length : Int) := by omega
  have hic : (i : Int) ≤ (c : Int) := by omega
  have Hle := Lib.hid (refUint_le bs i hile)
  have HU := Lib.hid (refUint_at bs i)
  have HD := Lib.hid (hr.dropIf hile hcap)
  have H := Lib.hid h
  clear h hr
  go_enter Try.func25, Try.ntmps25
  go_wp2
  go_quiet ((go_at_call 32; exact quiet_left (refUint_any _ _ _ (bs.drop i) _ (HD.out.drewN _))))
  generalize refUint (bs.drop i) = r at *
  generalize (if c = i then G else G.map fun x => x.add i) = Z at *
  obtain ⟨rn, rk, rc⟩ := r
  have hrk : (i : Int) + (rk : Int) ≤ (bs.length : Int) := by have := Hle.out; simp only [] at this; omega
  go_wp2
  go_ret2
  rw [HU.out]
  exact ⟨rfl, (H.out.drewN nq).toI (i + rk) Hle.out (by omega), ((Kept.refl _ w).drewN nq).setCell (.inl (by simp)) _⟩
set_option maxRecDepth 100000 in
theorem refRByte_any (B g : Nat) (bs : List Nat) (i : Nat) (w : World) (h : RRd w B g bs i) :
    Calls Try.prog 26 #[.pointer (some ⟨g, 0, none⟩)] w (RetRR B g bs (.int .i64 ((byteAt bs i).1 : Int)) (byteAt bs i).2.1 (byteAt bs i).2.2 w) := by
  obtain ⟨G, c, h0, h1, h2, hr, hcap⟩ := h.cells
  have hm := hr.2.1
  unfold maxLen at hm
  have hile := h.le
  have Hr := Lib.hid hr
  have H := Lib.hid h
  clear h hr
  by_cases hlt : i < bs.length
  · have HU : Hid (byteAt bs i = (bs.getD i 0, 0, i + 1)) := Lib.hid (by unfold byteAt; rw [if_pos hlt])
    have hne : ((i : Int) == (bs.length : Int)) = false := beq_eq_false_iff_ne.2 (by omega)
    have hi : (i : Int) < (bs.length : Int) := by omega
    obtain ⟨b, off, rfl, hbl, hcb⟩ := Hr.out.2.2.2 (by omega)
    have hx2 := getD_lt Hr.out.2.2.1 i
    have H1 := Lib.hid (H.out.toI (z := (i : Int) + 1) (i + 1) hlt (by omega))
    obtain ⟨G', c', hh', hr', _⟩ := H1.out.cells
    have hcell : (w.setCell ⟨g, 1, none⟩ (.int .i64 ((i : Int) + 1))).cell? ⟨b, off + i, none⟩ = some (.int .u8 ((bs.getD i 0 : Nat) : Int)) := by
      rw [← hcb i hlt]
      refine World.cell?_setCell_other _ _ _ _ (fun e => ?_)
      injection e with e1 _ _
      subst e1
      have hq := hcb i hlt
      obtain ⟨G2, c2, q0, q1, _, hd2, _⟩ := H.out.cells
      have hg2 := H.out
      obtain ⟨G3, c3, hh3, hd3, _, hg3, _, hG3⟩ := hg2
      rw [cell_of_row w g 0 _ 45 (0, 0) hh3] at h0
      simp at h0
      obtain ⟨e3, _⟩ := h0
      have := hG3 (by omega) _ e3
      simp at this
      omega
    clear hh' hr' hcb
    generalize bs.getD i 0 = x at *
    go_enter Try.func26, Try.ntmps26
    go_wp2
    go_quiet (fail)
    go_wp2
    have hw : IntKind.i64.wrap ((i : Int) + 1 - 1) = (i : Int) := by rw [IntWalk.i64_in _ (by omega)]; omega
    have hcell' : ((w.drewN nq).setCell ⟨g, 1, none⟩ (.int .i64 ((i : Int) + 1))).cell? ⟨b, off + i, none⟩ = some (.int .u8 (x : Int)) := hcell
    have hi0 : (0 : Int) ≤ (i : Int) := by omega
    go_quiet (fail)
    clear hw
    go_wp2
    go_ret2
    rw [HU.out]
    exact ⟨rfl, ((H.out.drewN _).toI (i + 1) hlt (by omega)).drewN _, (((Kept.refl [g] w).drewN _).setCell (p := ⟨g, 1, none⟩) (.inl (by simp)) _).drewN _⟩
  · have HU : Hid (byteAt bs i = (0, 2, i)) := Lib.hid (by unfold byteAt; rw [if_neg hlt])
    have hne : ((i : Int) == (bs.length : Int)) = true := beq_iff_eq.2 (by omega)
    go_enter Try.func26, Try.ntmps26
    go_wp2
    go_quiet (fail)
    go_wp2
    go_ret2
    rw [HU.out]
    exact ⟨rfl, H.out.drewN nq, (Kept.refl _ w).drewN nq⟩
theorem textAt_of (bs : List Nat) (i : Nat) (most : Int) : textAt bs i most =
    if (refUint (bs.drop i)).2.2 ≠ 0 then ([], (refUint (bs.drop i)).2.2, i)
    else if max most 0 < ((refUint (bs.drop i)).1 : Int) then ([], 4, i)
    else if bs.length - (i + (refUint (bs.drop i)).2.1) < (refUint (bs.drop i)).1 then ([], 2, i)
    else ((bs.drop (i + (refUint (bs.drop i)).2.1)).take (refUint (bs.drop i)).1, 0, i + (refUint (bs.drop i)).2.1 + (refUint (bs.drop i)).1) := by
  unfold textAt refUint
  cases h : num (bs.drop i) 0 0 with
  | bad c => exact (if_pos (num_bad _ _ _ _ h)).symm
  | got n k => exact (if_neg (fun h => h rfl)).symm
set_option maxRecDepth 100000 in
theorem refRText_any (B g : Nat) (bs : List Nat) (i : Nat) (most : Int) (w : World) (h : RRd w B g bs i) (hl : bs.length ≤ 140737488355000) :
    Calls Try.prog 27 #[.pointer (some ⟨g, 0, none⟩), .int .i64 most] w (RetRR B g bs (.string (bstr (textAt bs i most).1)) (textAt bs i most).2.1 (textAt bs i most).2.2 w) := by
  obtain ⟨G, c, h0, h1, h2, hr, hcap⟩ := h.cells
  have hm := hr.2.1
  unfold maxLen at hm
  have hile := h.le
  have hi : (i : Int) ≤ (bs.length : Int) := by omega
  have hic : (i : Int) ≤ (c : Int) := by omega
  have Hle := Lib.hid (refUint_le bs i hile)
  have HT := Lib.hid (textAt_of bs i most)
  have HD := Lib.hid (hr.dropIf hile hcap)
  have Hr := Lib.hid hr
  have H := Lib.hid h
  clear h hr
  go_enter Try.func27, Try.ntmps27
  go_wp2
  go_quiet ((go_at_call 32; exact quiet_left (refUint_any _ _ _ (bs.drop i) _ (HD.out.drewN _))))
  generalize refUint (bs.drop i) = r at *
  generalize (if c = i then G else G.map fun x => x.add i) = Z at *
  obtain ⟨rn, rk, rc⟩ := r
  have hrk : (i : Int) + (rk : Int) ≤ (bs.length : Int) := by have := Hle.out; simp only [] at this; omega
  by_cases hc : rc = 0
  · subst hc
    have HT1 : Hid (textAt bs i most = if max most 0 < (rn : Int) then ([], 4, i) else if bs.length - (i + rk) < rn then ([], 2, i) else ((bs.drop (i + rk)).take rn, 0, i + rk + rn)) := Lib.hid (HT.out.trans (if_neg (fun h => h rfl)))
    have hw1 : IntKind.i64.wrap ((bs.length : Int) - (i : Int)) = (bs.length : Int) - (i : Int) := IntWalk.i64_in _ (by omega)
    have hw2 : IntKind.i64.wrap ((bs.length : Int) - (i : Int) - (rk : Int)) = (bs.length : Int) - (i : Int) - (rk : Int) := IntWalk.i64_in _ (by omega)
    rcases (show most < 0 ∨ 0 ≤ most by omega) with hmost | hmost
    · by_cases hlong : 0 < rn
      · have HU : Hid (textAt bs i most = ([], 4, i)) := Lib.hid (HT1.out.trans (if_pos (by omega)))
        have hl2 : (0 : Int) < (rn : Int) := by omega
        clear hw1 hw2
        go_wp2
        go_ret2
        rw [HU.out]
        exact ⟨rfl, H.out.drewN nq, (Kept.refl _ w).drewN nq⟩
      · have hl2 : ¬ (0 : Int) < (rn : Int) := by omega
        have Hl := Lib.hid hlong
        clear hlong
        by_cases hshort : bs.length - (i + rk) < rn
        · have HU : Hid (textAt bs i most = ([], 2, i)) := Lib.hid (HT1.out.trans ((if_neg (by have := Hl.out; omega)).trans (if_pos hshort)))
          have hs : (bs.length : Int) - (i : Int) - (rk : Int) < (rn : Int) := by omega
          exfalso; omega
        · have HU : Hid (textAt bs i most = ((bs.drop (i + rk)).take rn, 0, i + rk + rn)) := Lib.hid (HT1.out.trans ((if_neg (by have := Hl.out; omega)).trans (if_neg hshort)))
          have hs : ¬ (bs.length : Int) - (i : Int) - (rk : Int) < (rn : Int) := by omega
          have hcut := Hr.out.cutIf (i := i + rk) (n := rn) (c := c) (by omega) hcap
          have Hcut := Lib.hid hcut
          clear hshort hcut
          have hend : (i : Int) + (rk : Int) + (rn : Int) ≤ (bs.length : Int) := by omega
          go_wp2
          go_quiet (fail)
          clear hw1 hw2
          go_wp2
          have hw3 : IntKind.i64.wrap ((i : Int) + (rk : Int)) = (i : Int) + (rk : Int) := IntWalk.i64_in _ (by omega)
          have hw4 : IntKind.i64.wrap ((i : Int) + (rk : Int) + (rn : Int)) = (i : Int) + (rk : Int) + (rn : Int) := IntWalk.i64_in _ (by omega)
          have hs1 : (0 : Int) ≤ (i : Int) + (rk : Int) := by omega
          have hs2 : (i : Int) + (rk : Int) ≤ (i : Int) + (rk : Int) + (rn : Int) := by omega
          have hs3 : (i : Int) + (rk : Int) + (rn : Int) ≤ (c : Int) := by omega
          have hs4 : ((i : Int) + (rk : Int)).toNat = i + rk := by omega
          have hs5 : ((i : Int) + (rk : Int) + (rn : Int)).toNat = i + rk + rn := by omega
          have hconv := fun (N : Nat) => run_bstr (P := Try.prog) (c := c - (i + rk)) (Hcut.out.drewN N) 22 5 9 Try.underlying22 Try.underlying5 Try.underlying9
          go_quiet (fail)
          clear hw3 hw4 hs4 hs5 hconv
          generalize (if c = i + rk then G else G.map fun x => x.add (i + rk)) = Z2 at *
          go_wp2
          go_ret2
          rw [HU.out]
          exact ⟨rfl, (H.out.drewN _).toI (i + rk + rn) (by omega) (by omega), ((Kept.refl [g] w).drewN _).setCell (p := ⟨g, 1, none⟩) (.inl (by simp)) _⟩
    · by_cases hlong : most < (rn : Int)
      · have HU : Hid (textAt bs i most = ([], 4, i)) := Lib.hid (HT1.out.trans (if_pos (by omega)))
        have hl2 : most < (rn : Int) := by omega
        clear hw1 hw2
        go_wp2
        go_ret2
        rw [HU.out]
        exact ⟨rfl, H.out.drewN nq, (Kept.refl _ w).drewN nq⟩
      · have hl2 : ¬ most < (rn : Int) := by omega
        have Hl := Lib.hid hlong
        clear hlong
        by_cases hshort : bs.length - (i + rk) < rn
        · have HU : Hid (textAt bs i most = ([], 2, i)) := Lib.hid (HT1.out.trans ((if_neg (by have := Hl.out; omega)).trans (if_pos hshort)))
          have hs : (bs.length : Int) - (i : Int) - (rk : Int) < (rn : Int) := by omega
          go_wp2
          go_quiet (fail)
          go_wp2
          go_ret2
          rw [HU.out]
          exact ⟨rfl, (H.out.drewN _).drewN _, ((Kept.refl _ w).drewN _).drewN _⟩
        · have HU : Hid (textAt bs i most = ((bs.drop (i + rk)).take rn, 0, i + rk + rn)) := Lib.hid (HT1.out.trans ((if_neg (by have := Hl.out; omega)).trans (if_neg hshort)))
          have hs : ¬ (bs.length : Int) - (i : Int) - (rk : Int) < (rn : Int) := by omega
          have hcut := Hr.out.cutIf (i := i + rk) (n := rn) (c := c) (by omega) hcap
          have Hcut := Lib.hid hcut
          clear hshort hcut
          have hend : (i : Int) + (rk : Int) + (rn : Int) ≤ (bs.length : Int) := by omega
          go_wp2
          go_quiet (fail)
          clear hw1 hw2
          go_wp2
          have hw3 : IntKind.i64.wrap ((i : Int) + (rk : Int)) = (i : Int) + (rk : Int) := IntWalk.i64_in _ (by omega)
          have hw4 : IntKind.i64.wrap ((i : Int) + (rk : Int) + (rn : Int)) = (i : Int) + (rk : Int) + (rn : Int) := IntWalk.i64_in _ (by omega)
          have hs1 : (0 : Int) ≤ (i : Int) + (rk : Int) := by omega
          have hs2 : (i : Int) + (rk : Int) ≤ (i : Int) + (rk : Int) + (rn : Int) := by omega
          have hs3 : (i : Int) + (rk : Int) + (rn : Int) ≤ (c : Int) := by omega
          have hs4 : ((i : Int) + (rk : Int)).toNat = i + rk := by omega
          have hs5 : ((i : Int) + (rk : Int) + (rn : Int)).toNat = i + rk + rn := by omega
          have hconv := fun (N : Nat) => run_bstr (P := Try.prog) (c := c - (i + rk)) (Hcut.out.drewN N) 22 5 9 Try.underlying22 Try.underlying5 Try.underlying9
          go_quiet (fail)
          clear hw3 hw4 hs4 hs5 hconv
          generalize (if c = i + rk then G else G.map fun x => x.add (i + rk)) = Z2 at *
          go_wp2
          go_ret2
          rw [HU.out]
          exact ⟨rfl, (H.out.drewN _).toI (i + rk + rn) (by omega) (by omega), ((Kept.refl [g] w).drewN _).setCell (p := ⟨g, 1, none⟩) (.inl (by simp)) _⟩
  · have HU : Hid (textAt bs i most = ([], rc, i)) := Lib.hid (HT.out.trans (if_pos hc))
    have hn' : ((rc : Int) != 0) = true := bne_iff_ne.2 (by omega)
    go_wp2
    go_ret2
    rw [HU.out]
    exact ⟨rfl, H.out.drewN nq, (Kept.refl _ w).drewN nq⟩
end Go.Proofs.Ythjfogllinboaaa
