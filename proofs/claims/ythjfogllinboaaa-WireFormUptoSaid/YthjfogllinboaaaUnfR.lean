/- The document's Unframe. -/
import Derived.Test.YthjfogllinboaaaUnf
import Derived.Test.YthjfogllinboaaaRefRdr
import Derived.Deep.RegionHeld3
import Derived.Handy
namespace Go.BL
open Go.RowKit
theorem heap_at {w : World} {g : Nat} (hg : g = w.heap.size) (o : Obj) : (w.alloc o).heap[g]? = some o := by subst hg; exact heap_alloc_new w o
theorem heap_old {w : World} {g : Nat} {x : Option Obj} (o : Obj) (hg : g < w.heap.size) (h : w.heap[g]? = x) : (w.alloc o).heap[g]? = x := (Below.heap_alloc w o g hg).trans h
theorem Own.emptyAt {w : World} {B g : Nat} (h : w.heap[g]? = some (.cells #[] 5 (0, 0))) (hB : B ≤ g) : Own w B (.slice (some ⟨g, 0, none⟩) 0 0) [] :=
  ⟨⟨rfl, .inr ⟨g, 0, #[], rfl, hB, h, Nat.le_refl _, by decide, rfl, rfl⟩⟩, fun x hx => absurd hx (by simp)⟩
section
variable {P : Program} {w : World}
theorem step_appB {ops : Array Oper} {o : Oper} {a : Act} {K : Act → World → Prop} {Q : Exit → Act → World → Prop} {E : Prop} (hgd : o.guard = none) (s x : Operand) (t : TypeId)
    (ho : o.op = .call { callee := .builtin .append, args := #[s, x], argTypes := #[t, t] })
    (ht : P.underlying t = some (.slice 5)) (hi : (P.info? 5).map (fun i => (i.zero, i.size, i.bytes)) = some (some (.int .u8 0), 1, 1))
    {B : Nat} {v : Value} {bs : List Nat} (hs : a.eval s = v) (hown : Own w B v bs)
    {A : Option Addr} {m c : Nat} {cs : List Nat} (hx : a.eval x = .slice A m c) (hr : Rd w A m cs)
    (hb : bs.length + m ≤ 140737488355328) (hbase : B ≤ w.heap.size)
    (h : ∀ v' w', Own w' B v' (bs ++ cs) → Below B w w' → w.grownBy w' v.ownBlock → (v'.ownBlock = v.ownBlock ∨ v'.ownBlock = some w.heap.size) → K (a.put o.dst v') w') :
    if Region.wanted o (yielded ops a.tmps) = true then Oper.wp P o a w K Q else E := by
  obtain ⟨i0, hi0, hz0, hz1, hz2⟩ := info_parts hi
  refine step_append_any w hgd s x t ho B 5 i0 (.int .u8 0) 1 1 ht hi0 hz0 hz1 hz2 rfl (by decide) v bs.length (bv bs) hs hown.1 w.heap.size A m c (bv cs) hx hr.reads (bv_one cs) (by unfold maxLen; omega) (by omega) hbase ?_
  intro v' w' h1 h2 h3
  refine h v' w' ⟨?_, fun y hy => ?_⟩ ((Below.refl B w).grown h2 hbase hown.block_ge) h2 h3
  · rw [List.length_append, hr.1, bv_append]; exact h1
  · rcases List.mem_append.1 hy with h' | h'
    · exact hown.2 y h'
    · exact hr.2.2.1 y h'
end
end Go.BL
namespace Go.Proofs.Ythjfogllinboaaa
open Go.RowKit Go.BL Go.Wr
theorem unframe_of (bs : List Nat) : unframe bs =
    if (refUint bs).2.2 ≠ 0 then ([], [], (refUint bs).2.2)
    else if 65536 < (refUint bs).1 then ([], [], 4)
    else if bs.length - (refUint bs).2.1 < (refUint bs).1 + 4 then ([], [], 2)
    else if val4 ((bs.drop ((refUint bs).2.1 + (refUint bs).1)).take 4) ≠ sum ((bs.drop (refUint bs).2.1).take (refUint bs).1) then ([], [], 11)
    else ((bs.drop (refUint bs).2.1).take (refUint bs).1, bs.drop ((refUint bs).2.1 + (refUint bs).1 + 4), 0) := by
  unfold unframe refUint
  cases h : num bs 0 0 with
  | bad c => exact (if_pos (num_bad _ _ _ _ h)).symm
  | got n k => exact (if_neg (fun h => h rfl)).symm
theorem add_byte {m k x : Nat} (hm : m < 256 ^ k) (hk : k < 4) (hx : x < 256) : wrap64 ((m : Int) + wrap64 ((x : Int) * 2 ^ (8 * k))) = ((m + x * 256 ^ k : Nat) : Int) := by
  obtain ⟨h1, h2⟩ := byte_shl hk hx
  have h4 : m < 4294967296 := Nat.lt_of_lt_of_le hm (Nat.le_trans (Nat.pow_le_pow_right (by decide) (show k ≤ 3 by omega)) (by decide))
  rw [h1, ← Int.natCast_add]
  generalize x * 256 ^ k = D at *
  exact IntWalk.wrap64_in _ (by omega)
set_option linter.unusedSimpArgs false in
set_option maxRecDepth 100000 in
set_option maxHeartbeats 1000000 in
theorem unframeR_any (A : Option Addr) (m cap : Nat) (bs : List Nat) (w : World) (hr : Rd w A m bs) (hm : m ≤ 140737488355000) (hcap : m ≤ cap) : Calls Try.prog 31 #[.slice A m cap] w (RetU (unframe bs) w) := by
  have hl := hr.1
  have Hr := Lib.hid hr
  have Hl := Lib.hid hl
  have HU0 := Lib.hid (unframe_of bs)
  have hkl := refUint_le bs 0 (Nat.zero_le _)
  rw [List.drop_zero, Nat.zero_add, hl] at hkl
  clear hr hl
  go_enter Try.func31, Try.ntmps31
  go_wp2_with fail
  refine (refUint_any A m cap bs _ Hr.out).mono ?_
  rintro e w' ⟨rfl, rfl⟩
  generalize refUint bs = r at *
  obtain ⟨n, k, c⟩ := r
  simp only [] at hkl
  by_cases hc : c = 0
  · subst hc
    have HU1 := Lib.hid (HU0.out.trans (if_neg (fun h => h rfl)))
    by_cases hlong : 65536 < n
    · have HU := Lib.hid (HU1.out.trans (if_pos hlong))
      go_wp2
      go_ret3
      rw [HU.out]
      exact ⟨none, 0, none, 0, rfl, Own.nil _ _, Own.nil _ _, Below.refl _ _⟩
    · have HU2 := Lib.hid (HU1.out.trans (if_neg hlong))
      by_cases hshort : m - k < n + 4
      · have HU := Lib.hid (HU2.out.trans (if_pos (show bs.length - k < n + 4 by rw [Hl.out]; exact hshort)))
        have hsh : (m : Int) - (k : Int) < (n : Int) + 4 := by omega
        go_wp2
        go_ret3
        rw [HU.out]
        exact ⟨none, 0, none, 0, rfl, Own.nil _ _, Own.nil _ _, Below.refl _ _⟩
      · have HU3 := Lib.hid (HU2.out.trans (if_neg (show ¬ bs.length - k < n + 4 by rw [Hl.out]; exact hshort)))
        have hsh : ¬ (m : Int) - (k : Int) < (n : Int) + 4 := by omega
        have HPd : Hid (Rd w (A.map fun x => x.add k) n ((bs.drop k).take n)) := Lib.hid (by have h := Hr.out.cutIf (i := k) (n := n) (c := cap) (by omega) hcap; rwa [if_neg (by omega)] at h)
        have HRd := Lib.hid (Hr.out.dropIf (i := k + n + 4) (c := cap) (by omega) hcap)
        have HPl : Hid (((bs.drop k).take n).length = n) := Lib.hid (by have := Hl.out; rw [List.length_take, List.length_drop]; omega)
        have HTl : Hid (∀ j, j < 4 → ((bs.drop (k + n)).take 4).getD j 0 = bs.getD (k + n + j) 0) := Lib.hid (fun j hj => by
          rw [List.getD_eq_getElem?_getD, List.getD_eq_getElem?_getD, List.getElem?_take_of_lt hj, List.getElem?_drop])
        have htot : k + n + 4 ≤ m := by omega
        have hT2 := fun x (hx : x ∈ (bs.drop (k + n)).take 4) => Hr.out.2.2.1 x (List.mem_of_mem_drop (List.mem_of_mem_take hx))
        have HT2 := Lib.hid hT2
        clear hshort hsh hT2
        generalize (bs.drop k).take n = PP at *
        generalize (bs.drop (k + n)).take 4 = T at *
        generalize hRR : bs.drop (k + n + 4) = RR at *
        clear hRR
        go_wp2
        generalize (A.map fun x => x.add k) = Z at *
        go_loop [9, 10, 35] (fun s t i => ∃ j q : Nat, j ≤ 4 ∧ i = .int .i64 (j : Int) ∧ s = .int .i64 (q : Int) ∧ Hid (q = pv T j)) (fun _ _ i => 4 - (intOf i).toNat)
        case atStart => exact ⟨0, 0, by omega, rfl, rfl, Lib.hid rfl⟩
        case round =>
          obtain ⟨j, q, hj, rfl, rfl, Hm⟩ := hrel
          by_cases hlt : j < 4
          · obtain ⟨b, off, rfl, _, hcell⟩ := Hr.out.2.2.2 (by omega)
            have hcc := hcell (k + n + j) (by omega)
            have hx := getD_lt Hr.out.2.2.1 (k + n + j)
            have Hs9 := Lib.hid (add_byte (m := q) (x := bs.getD (k + n + j) 0) (by rw [Hm.out]; exact pv_lt T (getD_lt HT2.out) j) hlt hx)
            have Hm9 : Hid (q + bs.getD (k + n + j) 0 * 256 ^ j = pv T (j + 1)) := Lib.hid (by rw [Hm.out, pv, HTl.out j hlt])
            clear hcell
            generalize bs.getD (k + n + j) 0 = x at *
            go_wp2
            go_round
            case rel => exact ⟨j + 1, q + x * 256 ^ j, by omega, by go_num, by rw [Hs9.out], Hm9⟩
            case measure => simp [intOf]; omega
          · obtain rfl : j = 4 := by omega
            have Hm4 : Hid (q = val4 T) := Lib.hid (by rw [Hm.out, pv_four])
            clear Hm
            go_wp2_with fail
            refine (sumR_any Z n _ PP _ HPd.out).mono ?_
            rintro e w' ⟨rfl, rfl⟩
            by_cases hsum : val4 T ≠ sum PP
            · have HU := Lib.hid (HU3.out.trans (if_pos hsum))
              have hne : ((q : Int) != (sum PP : Int)) = true := bne_iff_ne.2 (by have := Hm4.out; omega)
              go_wp2
              go_ret3
              rw [HU.out]
              exact ⟨none, 0, none, 0, rfl, Own.nil _ _, Own.nil _ _, Below.refl _ _⟩
            · have HU := Lib.hid (HU3.out.trans (if_neg hsum))
              have hne : ((q : Int) != (sum PP : Int)) = false := by have := Hm4.out; rw [bne_eq_false_iff_eq]; omega
              clear hsum
              go_wp2
              have hw1 : IntKind.i64.wrap ((k : Int) + (n : Int)) = (k : Int) + (n : Int) := IntWalk.i64_in _ (by omega)
              have hw2 : IntKind.i64.wrap ((k : Int) + (n : Int) + 4) = (k : Int) + (n : Int) + 4 := IntWalk.i64_in _ (by omega)
              have hs1 : (0 : Int) ≤ (k : Int) + (n : Int) + 4 := by omega
              have hs2 : (k : Int) + (n : Int) + 4 ≤ (m : Int) := by omega
              have hs4 : ((k : Int) + (n : Int) + 4).toNat = k + n + 4 := by omega
              go_region_held3 (fun _ => True) (trivial) ((first
                | (refine step_appB rfl (.tmp 57) (.tmp 58) 22 (by rfl) Try.underlying22 info5 (by rfl) (Own.emptyAt (B := w.heap.size) (by first | (refine heap_at ?_ _; (simp; done)) | (refine heap_old _ ?_ (heap_at ?_ _) <;> first | (simp; done) | (simp; omega))) (by first | (simp; done) | (simp; omega))) (by rfl) (HPd.out.below (B := w.heap.size) (by go_grown) (Nat.le_refl _)) (by first | (simp; done) | (simp; omega)) (by first | (simp; done) | (simp; omega)) ?_; intro v1 w1 ho hb hg hat; have Ho1 := Lib.hid ho; have Hb1 := Lib.hid hb; have Hg1 := Lib.hid hg; have Hat1 := Lib.hid hat; have HB1 : Hid (Below w.heap.size w w1) := Lib.hid (Below.trans (by go_grown) hb); clear ho hb hg hat)
                | (refine step_appB rfl (.tmp 60) (.tmp 66) 22 (by rfl) Try.underlying22 info5 (by rfl) (Own.emptyAt (B := w.heap.size) (by first | (refine heap_at ?_ _; (with_reducible rfl)) | (refine (Hg1.out.block _ ?_ ?_).trans (heap_at ?_ _) <;> first | (simp [Value.ownBlock]; done) | (simp [Value.ownBlock]; omega)) | (refine (Hg1.out.block _ ?_ ?_).trans (heap_old _ ?_ (heap_at ?_ _)) <;> first | (simp [Value.ownBlock]; done) | (simp [Value.ownBlock]; omega))) (by first | exact HB1.out.size | (simp; done) | (simp; omega))) (by rfl) (HRd.out.below (B := w.heap.size) (by first | exact HB1.out | exact HB1.out.alloc HB1.out.size _) (Nat.le_refl _)) (by first | (simp; done) | (simp; omega)) (by first | exact HB1.out.size | exact Nat.le_trans HB1.out.size (by first | (simp; done) | (simp; omega))) ?_; intro v2 w2 ho hb hg hat; have Ho2 := Lib.hid ho; have Hb2 := Lib.hid hb; have Hg2 := Lib.hid hg; have Hat2 := Lib.hid hat; clear ho hb hg hat)
                | fail))
              all_goals
                have O1 : Own w2 w.heap.size v1 PP := by
                  first
                  | (refine (Ho1.out.alloc _).only Hg2.out ?_; intro e; have h := Ho1.out.lt _ e; exact absurd h (Nat.lt_irrefl _))
                  | (refine Ho1.out.only Hg2.out ?_; intro e; rcases Hat1.out with h | h <;> rw [h] at e <;> simp only [Value.ownBlock, Option.map_some, Option.some.injEq] at e <;> first | omega | (simp at e; done) | (simp at e; omega))
                have O2 : Own w2 w.heap.size v2 RR := Ho2.out
                have HB2 : Hid (Below w.heap.size w w2) := Lib.hid (by first | exact HB1.out.trans Hb2.out | exact (HB1.out.alloc HB1.out.size _).trans Hb2.out)
                obtain ⟨A1, c1, rfl, -⟩ := O1.rd
                obtain ⟨A2, c2, rfl, -⟩ := O2.rd
                have HO1 := Lib.hid O1
                have HO2 := Lib.hid O2
                clear O1 O2 hs1 hs2
                go_wp2
                all_goals
                  go_ret3
                  rw [HU.out]
                  exact ⟨A1, c1, A2, c2, rfl, HO1.out, HO2.out, HB2.out⟩
  · have HU := Lib.hid (HU0.out.trans (if_pos hc))
    have hne : ((c : Int) != 0) = true := bne_iff_ne.2 (by omega)
    go_wp2
    go_ret3
    rw [HU.out]
    exact ⟨none, 0, none, 0, rfl, Own.nil _ _, Own.nil _ _, Below.refl _ _⟩
end Go.Proofs.Ythjfogllinboaaa
