/- Contracts of slices.Equal and slices.Clone at headers, and of the document's text. -/
import Derived.Test.YtidhemjnchonaaaGreatDoorPrnP
import Derived.Test.YtidhemjnchonaaaGreatDoorMark
namespace Go.Proofs.YtidhemjnchonaaaGreatDoor
open Go.RowKit Go.BL

set_option maxHeartbeats 1000000 in
set_option maxRecDepth 100000 in
theorem equalH_any (a b : List Hdr) (v u : Value) (w : World) (hv : Hdrs w v a) (hu : Hdrs w u b) : Calls Tryz.prog 50 #[v, u] w (RetV (.bool (decide (a = b))) w) := by
  obtain ⟨hmax, A, c, rfl, hca⟩ := hv
  obtain ⟨hmax', D, d, rfl, hcb⟩ := hu
  have HA := Lib.hid hca
  have HD := Lib.hid hcb
  clear hca hcb
  by_cases hl : a.length = b.length
  case neg =>
    have HF : Hid (decide (a = b) = false) := Lib.hid (decide_eq_false (fun e => hl (by rw [e])))
    have hne : ((a.length : Int) != (b.length : Int)) = true := bne_iff_ne.2 (by omega)
    go_enter Tryz.func50, Tryz.ntmps50
    go_wp2_with fail
    go_ret
    exact ⟨by rw [HF.out]; rfl, Below.refl _ _⟩
  have hne : ((a.length : Int) != (b.length : Int)) = false := by rw [bne_eq_false_iff_eq]; omega
  go_enter Tryz.func50, Tryz.ntmps50
  go_wp2_with fail
  go_loopw [13] (fun i wr => ∃ k N : Nat, k ≤ a.length ∧ i = .int .i64 (k : Int) ∧ wr = w.drewN N ∧ Hid (a.take k = b.take k)) (fun i _ => a.length - (intOf i).toNat)
  case atStart => exact ⟨0, 0, by omega, rfl, rfl, Lib.hid rfl⟩
  case round =>
    obtain ⟨k, N, hk, rfl, rfl, HT⟩ := hrel
    by_cases hlt : k < a.length
    · have hlt' : k < b.length := by omega
      obtain ⟨b1, o1, rfl, _, hc1⟩ := HA.out (by omega)
      obtain ⟨b2, o2, rfl, _, hc2⟩ := HD.out (by omega)
      obtain ⟨x1, x2⟩ := hc1 k hlt
      obtain ⟨y1, y2⟩ := hc2 k hlt'
      have hlt2 : (k : Int) < (b.length : Int) := by omega
      by_cases hxy : a[k] = b[k]
      · have HT2 : Hid (a.take (k + 1) = b.take (k + 1)) := Lib.hid (by
          rw [List.take_succ_eq_append_getElem hlt, List.take_succ_eq_append_getElem hlt', HT.out, hxy])
        rw [hxy] at x1 x2
        generalize b[k] = z at *
        obtain ⟨n, v⟩ := z
        simp only at x1 x2 y1 y2
        clear hxy hc1 hc2
        go_wp2_with fail
        go_quiet (fail)
        go_wp2_with fail
        exact ⟨⟨k + 1, _, by omega, by go_num, rfl, HT2⟩, by simp [intOf]; omega⟩
      · have HF : Hid (decide (a = b) = false) := Lib.hid (decide_eq_false (take_diff hlt hlt' hxy))
        generalize a[k] = z at *
        generalize b[k] = y at *
        obtain ⟨n, v⟩ := z
        obtain ⟨n', v'⟩ := y
        simp only at x1 x2 y1 y2
        clear hc1 hc2
        by_cases hn : n = n'
        · subst hn
          have hv : (v == v') = false := beq_false_of_ne (fun e => hxy (by rw [e]))
          clear hxy
          go_wp2_with fail
          go_quiet (fail)
          go_wp2_with fail
          go_ret
          exact ⟨by rw [HF.out]; rfl, below_drewN (drewN_below w N) _⟩
        · have hn' : (n == n') = false := beq_false_of_ne hn
          clear hxy hn
          go_wp2_with fail
          go_quiet (fail)
          go_wp2_with fail
          go_ret
          exact ⟨by rw [HF.out]; rfl, below_drewN (drewN_below w N) _⟩
    · have HF : Hid (decide (a = b) = true) := Lib.hid (decide_eq_true (by have := HT.out; rwa [List.take_of_length_le (by omega), List.take_of_length_le (by omega)] at this))
      go_wp2_with fail
      go_ret
      exact ⟨by rw [HF.out]; rfl, drewN_below w N⟩


theorem app_str (a b : List UInt8) : (⟨a.toArray⟩ : ByteArray) ++ ⟨b.toArray⟩ = ⟨(a ++ b).toArray⟩ := by
  apply ByteArray.ext
  simp
theorem cat_run (a b c : List UInt8) (h : a ++ b = c) (hl : a.length + b.length ≤ 4294967296) (w : World) : (Op.stringOp .add ⟨a.toArray⟩ ⟨b.toArray⟩).run Tryz.prog w = .ok (.string ⟨c.toArray⟩) w := by
  rw [run_string_add_sum w ⟨a.toArray⟩ ⟨b.toArray⟩ (by show a.length + b.length ≤ 9223372036854775807; omega), app_str, h]
theorem OwnH.empty (w : World) (B g : Nat) (hg : g = w.heap.size) (hB : B ≤ g) : OwnH (w.alloc (.cells #[] 44)) B (.slice (some ⟨g, 0, none⟩) 0 0) [] := by
  subst hg
  refine ⟨rfl, .inr ⟨w.heap.size, 0, #[], rfl, hB, ?_, Nat.le_refl _, by decide, rfl, rfl⟩⟩
  show (w.heap.push _)[w.heap.size]? = _
  simp
theorem hv_cell {w : World} {b off : Nat} : ∀ {hs : List Hdr}, (∀ i (h : i < hs.length), w.cell? ⟨b, off + i * 2, none⟩ = some (.string ⟨hs[i].1.toArray⟩) ∧ w.cell? ⟨b, off + i * 2 + 1, none⟩ = some (.string ⟨hs[i].2.toArray⟩)) →
    ∀ j u, (hv hs)[j]? = some u → w.cell? ((⟨b, off, none⟩ : Addr).add j) = some u := by
  intro hs hc j u hu
  rw [add_none]
  have hj : j < hs.length * 2 := by
    rcases Nat.lt_or_ge j (hs.length * 2) with h | h
    · exact h
    · rw [List.getElem?_eq_none (by rw [hv_len]; exact h)] at hu; cases hu
  have hi : j / 2 < hs.length := by omega
  obtain ⟨h1, h2⟩ := hv_at hs (j / 2) hi
  obtain ⟨c1, c2⟩ := hc (j / 2) hi
  rcases Nat.mod_two_eq_zero_or_one j with h | h
  · have e : j / 2 * 2 = j := by omega
    rw [e] at h1 c1
    rw [h1] at hu
    rw [c1]; exact hu
  · have e : j / 2 * 2 + 1 = j := by omega
    rw [e] at h2
    rw [Nat.add_assoc, e] at c2
    rw [h2] at hu
    rw [c2]; exact hu
theorem Hdrs.reads {w : World} {A : Option Addr} {n c : Nat} {hs : List Hdr} (h : Hdrs w (.slice A n c) hs) : n = hs.length ∧ Reads w w.heap.size 2 A n (hv hs) := by
  obtain ⟨_, A', c', e, hc⟩ := h
  injection e with e1 e2 e3
  subst e1 e2
  refine ⟨rfl, hv_len hs, fun hn => ?_⟩
  obtain ⟨b, off, rfl, hb, hr⟩ := hc hn
  exact ⟨_, rfl, hb, hv_cell hr⟩
/-- append(hs, cs...). -/
theorem wpList_appHs {w : World} {ops : Array Oper} {rest : List Oper} {o : Oper} {a : Act} {Q : Exit → Act → World → Prop} (hgd : o.guard = none) (s x : Operand)
    (ho : o.op = .call { callee := .builtin .append, args := #[s, x], argTypes := #[22, 22] })
    {B : Nat} {v : Value} {hs cs : List Hdr} (hs' : a.eval s = v) (hown : OwnH w B v hs)
    {A : Option Addr} {n c : Nat} (hx : a.eval x = .slice A n c) (hd : Hdrs w (.slice A n c) cs)
    (hb : hs.length + n ≤ 1000000000) (hbase : B ≤ w.heap.size)
    (h : ∀ v' w', OwnH w' B v' (hs ++ cs) → Below B w w' → wpList Tryz.prog ops Q rest (a.put o.dst v') w') : wpList Tryz.prog ops Q (o :: rest) a w := by
  obtain ⟨i0, hi0, hz0, hz1, hz2⟩ := info_parts info44
  obtain ⟨hn, hr⟩ := hd.reads
  refine wpList_append_any w hgd s x 22 ho B 44 i0 _ 2 32 Tryz.underlying22 hi0 hz0 hz1 hz2 rfl (by decide) v hs.length (hv hs) hs' hown w.heap.size A n c (hv cs) hx hr (hv_one _) (by unfold maxLen; omega) (by omega) hbase ?_
  intro v' w' k1 k2 k3
  refine h v' w' ?_ ((Below.refl B w).grown k2 hbase hown.block_ge)
  unfold OwnH
  rw [List.length_append, hv_app, ← hn]
  exact k1
theorem cloneH_any (hs : List Hdr) (v : Value) (w : World) (hd : Hdrs w v hs) (hl : hs.length ≤ 1000000000) : Calls Tryz.prog 25 #[v] w fun e w' => ∃ v', e = .returned v' ∧ OwnH w' w.heap.size v' hs ∧ Below w.heap.size w w' := by
  have heq := fun (w : World) (a : Option Addr) (n c n' c' : Nat) => Lib.run_eql_slice_nil (P := Tryz.prog) w 22 44 a n c n' c' Tryz.underlying22
  obtain ⟨A, c, rfl⟩ := hd.form
  have HD := Lib.hid hd
  cases A with
  | none =>
    have hb : Hid (hs = []) := Lib.hid (by
      obtain ⟨_, A', c', e, hc⟩ := hd
      rcases Nat.eq_zero_or_pos hs.length with h | h
      · exact List.eq_nil_of_length_eq_zero h
      · obtain ⟨_, _, e2, _⟩ := hc h
        injection e with e1
        rw [e2] at e1; cases e1)
    clear hd
    go_enter Tryz.func25, Tryz.ntmps25
    go_wp2
    go_ret
    exact ⟨_, rfl, by rw [hb.out]; exact OwnH.nil _ _, Below.refl _ _⟩
  | some a =>
    clear hd
    go_enter Tryz.func25, Tryz.ntmps25
    go_wp2_with (at_builtin; refine wpList_appHs rfl (.tmp 5) (.tmp 6) rfl rfl (OwnH.empty w w.heap.size w.heap.size rfl (Nat.le_refl _)) rfl (HD.out.below ((Below.refl _ _).alloc (Nat.le_refl _) _) (Nat.le_refl _)) (by simp; omega) (by simp) ?_; intro v w1 ho hb; have Ho := Lib.hid ho; have Hb := Lib.hid hb; clear ho hb)
    go_ret
    exact ⟨_, rfl, Ho.out, ((Below.refl _ _).alloc (Nat.le_refl _) _).trans Hb.out⟩
set_option maxHeartbeats 1000000 in
set_option maxRecDepth 100000 in
theorem textR_any (hs : List Hdr) (v : Value) (w : World) (hd : Hdrs w v hs) (hl : (textL hs).length ≤ 1073741824) : Calls Tryz.prog 51 #[v] w (RetD (.string ⟨(textL hs).toArray⟩) w) := by
  obtain ⟨hmax, A, c, rfl, hcells⟩ := hd
  have HC := Lib.hid hcells
  have HL := Lib.hid hl
  clear hcells hl
  go_enter Tryz.func51, Tryz.ntmps51
  go_wp2_with fail
  go_loopw [3, 4] (fun t j wr => ∃ k N : Nat, t = .string ⟨(textL (hs.take k)).toArray⟩ ∧ j = .int .i64 (k : Int) ∧ k ≤ hs.length ∧ wr = w.drewN N) (fun _ j _ => hs.length - (intOf j).toNat)
  case atStart => exact ⟨0, 0, rfl, rfl, by omega, rfl⟩
  case round =>
    obtain ⟨k, N, rfl, rfl, hk, rfl⟩ := hrel
    by_cases hlt : k < hs.length
    · obtain ⟨b, off, rfl, hbl, hc⟩ := HC.out (by omega)
      obtain ⟨c1, c2⟩ := hc k hlt
      have hT := text_next hlt
      have b1 := text_take hs (k + 1)
      have b2 := HL.out
      rw [hT] at b1
      generalize hs[k] = z at *
      obtain ⟨n, x⟩ := z
      simp only at c1 c2
      obtain ⟨t, ht⟩ : ∃ t, textL (hs.take k) = t := ⟨_, rfl⟩
      rw [ht] at hT b1 ⊢
      simp only [lineT, List.length_append, List.length_cons, List.length_nil] at b1
      obtain ⟨t1, h1⟩ : ∃ u, t ++ n = u := ⟨_, rfl⟩
      obtain ⟨t2, h2⟩ : ∃ u, t1 ++ [58, 32] = u := ⟨_, rfl⟩
      obtain ⟨t3, h3⟩ : ∃ u, t2 ++ x = u := ⟨_, rfl⟩
      obtain ⟨t4, h4⟩ : ∃ u, t3 ++ [13, 10] = u := ⟨_, rfl⟩
      have l1 : t1.length = t.length + n.length := by rw [← h1, List.length_append]
      have l2 : t2.length = t1.length + 2 := by rw [← h2, List.length_append]; rfl
      have l3 : t3.length = t2.length + x.length := by rw [← h3, List.length_append]
      have r1 := cat_run t n t1 h1 (by omega)
      have r2 := cat_run t1 [58, 32] t2 h2 (by simp; omega)
      have r3 := cat_run t2 x t3 h3 (by omega)
      have r4 := cat_run t3 [13, 10] t4 h4 (by simp; omega)
      have HT : Hid (textL (hs.take (k + 1)) = t4) := Lib.hid (by rw [hT, ← h4, ← h3, ← h2, ← h1]; simp [lineT])
      clear hc ht hT b1 b2 l1 l2 l3 h1 h2 h3 h4
      go_wp2_with fail
      go_quiet (fail)
      go_wp2_with fail
      exact ⟨⟨k + 1, _, by rw [HT.out], by go_num, by omega, rfl⟩, by simp [intOf]; omega⟩
    · have HF : Hid (textL (hs.take k) = textL hs) := Lib.hid (by rw [List.take_of_length_le (by omega)])
      go_wp2_with fail
      go_ret
      exact ⟨by rw [← HF.out]; rfl, N, rfl⟩
end Go.Proofs.YtidhemjnchonaaaGreatDoor
