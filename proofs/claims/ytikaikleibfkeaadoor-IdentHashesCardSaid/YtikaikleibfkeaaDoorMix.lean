/- The eight bytes of a number, and Mix: the plain hash of sixteen bytes. -/
import Derived.Test.YtikaikleibfkeaaDoorHashR
import Derived.Test.YtikaikleibfkeaaDoorBL
import Derived.StillTailTactics
import Derived.Below
import Derived.Handy
import Derived.ArgAppend
import Derived.OwnWalk
namespace Go.Proofs.YtikaikleibfkeaaDoor
open Go.RowKit Go.Idn

theorem toRd {w : World} {A : Option Addr} {n : Nat} {bs : List Nat} (h : BL.Rd w A n bs) : Rd w A n bs :=
  ⟨h.1, h.2.1, h.2.2.1, fun hn => by
    obtain ⟨b, off, e, _, hc⟩ := h.2.2.2 hn
    exact ⟨b, off, e, hc⟩⟩
theorem _root_.Go.RowKit.Below.drewN' {B : Nat} {a w : World} (h : Below B a w) (n : Nat) : Below B a (w.drewN n) := ⟨h.os, h.tape, h.output, h.size, h.block⟩
/-- A number's bytes, the highest first. -/
def e8 (k : Nat) : List Nat := [k / 72057594037927936 % 256, k / 281474976710656 % 256, k / 1099511627776 % 256, k / 4294967296 % 256, k / 16777216 % 256, k / 65536 % 256, k / 256 % 256, k / 1 % 256]
theorem e8_lt (k : Nat) : ∀ x ∈ e8 k, x < 256 := by
  intro x hx
  simp only [e8, List.mem_cons, List.not_mem_nil, or_false] at hx
  rcases hx with rfl | rfl | rfl | rfl | rfl | rfl | rfl | rfl <;> exact Nat.mod_lt _ (by decide)
/-- append(s, x...), s whatever full slice reads: a new row. -/
theorem wpList_appG {P : Program} {w : World} {ops : Array Oper} {rest : List Oper} {o : Oper} {a : Act} {Q : Exit → Act → World → Prop} (hgd : o.guard = none) (s x : Operand) (t : TypeId)
    (ho : o.op = .call { callee := .builtin .append, args := #[s, x], argTypes := #[t, t] })
    (ht : P.underlying t = some (.slice 5)) (hi : (P.info? 5).map (fun i => (i.zero, i.size, i.bytes)) = some (some (.int .u8 0), 1, 1))
    {A : Addr} {n cap : Nat} {bs : List Nat} (hs : a.eval s = .slice (some A) n cap) (hr : BL.Rd w (some A) n bs)
    {C : Addr} {m c : Nat} {cs : List Nat} (hx : a.eval x = .slice (some C) m c) (hrx : BL.Rd w (some C) m cs)
    (hfull : cap < n + m) (hn : 0 < n) (hm : 0 < m) (hb : n + m ≤ 140737488355328)
    (h : ∀ v' w', BL.Own w' w.heap.size v' (bs ++ cs) → Below w.heap.size w w' → wpList P ops Q rest (a.put o.dst v') w') : wpList P ops Q (o :: rest) a w := by
  obtain ⟨i0, hi0, hz0, hz1, hz2⟩ := info_parts hi
  obtain ⟨b, off, rfl⟩ : ∃ b off, A = ⟨b, off, none⟩ := by
    obtain ⟨b, off, e, _⟩ := hr.2.2.2 hn
    exact ⟨b, off, Option.some.inj e⟩
  obtain ⟨b2, off2, rfl⟩ : ∃ b off, C = ⟨b, off, none⟩ := by
    obtain ⟨b, off, e, _⟩ := hrx.2.2.2 hm
    exact ⟨b, off, Option.some.inj e⟩
  have cells : ∀ (b off n : Nat) (bs : List Nat), BL.Rd w (some ⟨b, off, none⟩) n bs → 0 < n → ∀ j u, (BL.bv bs)[j]? = some u → w.cell? ((⟨b, off, none⟩ : Addr).add j) = some u := by
    intro b off n bs hr hn j u hu
    obtain ⟨b', off', e, _, hc⟩ := hr.2.2.2 hn
    obtain ⟨rfl, rfl⟩ : b = b' ∧ off = off' := by injection e with e; injection e with e1 e2 _; exact ⟨e1, e2⟩
    have hj : j < bs.length := by
      rcases Nat.lt_or_ge j bs.length with h' | h'
      · exact h'
      · rw [List.getElem?_eq_none (by rw [BL.bv_length]; exact h')] at hu; cases hu
    rw [BL.add_none, hc j (by have := hr.1; omega), ← BL.bv_at hj, hu]
  refine wpList_append_grows w hgd s x t ho 5 i0 (.int .u8 0) 1 1 ht hi0 hz0 hz1 hz2 rfl (by decide) (some ⟨b, off, none⟩) n cap (BL.bv bs) hs (fun e => by cases e) (by rw [BL.bv_length, hr.1, Nat.mul_one])
    (fun b' e => by injection e with e; subst e; exact cells b off n bs hr hn) ⟨b2, off2, none⟩ m c (BL.bv cs) hx (by rw [BL.bv_length, hrx.1, Nat.mul_one]) (cells b2 off2 m cs hrx hm) (BL.bv_one cs) hfull (by unfold maxLen; omega) (by omega) ?_
  intro v' w' h1 h2
  refine h v' w' ⟨?_, fun y hy => ?_⟩ ((Below.refl _ w).grown h2 (Nat.le_refl _) (fun k hk => by cases hk))
  · rw [List.length_append, hr.1, hrx.1, BL.bv_append]; exact h1
  · rcases List.mem_append.1 hy with h' | h'
    · exact hr.2.2.1 y h'
    · exact hrx.2.2.1 y h'

theorem eight_any (k : Nat) (hk : k ≤ 18446744073709551615) (w : World) :
    Calls Tryd.prog 30 #[.int .u64 (k : Int)] w fun e w' => (∃ a0 a1 a2 a3 a4 a5 a6 a7 : Nat, e8 k = [a0, a1, a2, a3, a4, a5, a6, a7] ∧ e = .returned (.agg #[.int .u8 (a0 : Int), .int .u8 (a1 : Int), .int .u8 (a2 : Int), .int .u8 (a3 : Int), .int .u8 (a4 : Int), .int .u8 (a5 : Int), .int .u8 (a6 : Int), .int .u8 (a7 : Int)])) ∧ Below w.heap.size w w' := by
  have h1 : (k : Int) ≤ 18446744073709551615 := by omega
  have h0 : (0 : Int) ≤ k := by omega
  have Hk := Lib.hid hk
  clear hk
  obtain ⟨x, hx⟩ : ∃ x : Int, x = (k : Int) := ⟨_, rfl⟩
  rw [← hx] at h0 h1 ⊢
  have Hx := Lib.hid hx
  clear hx
  go_enter Tryd.func30, Tryd.ntmps30
  go_wp2
  refine wp_loop_rounds 9 ?_
  rw [rounds_succ]
  go_wp2
  rw [rounds_succ]
  go_wp2
  rw [rounds_succ]
  go_wp2
  rw [rounds_succ]
  go_wp2
  rw [rounds_succ]
  go_wp2
  rw [rounds_succ]
  go_wp2
  rw [rounds_succ]
  go_wp2
  rw [rounds_succ]
  go_wp2
  rw [rounds_succ]
  go_wp2
  go_returns
  refine ⟨⟨_, _, _, _, _, _, _, _, rfl, ?_⟩, by go_grown⟩
  have := Hx.out
  have := Hk.out
  subst x
  congr 3
  simp only [List.cons.injEq, Value.int.injEq, true_and, and_true]
  refine ⟨?_, ?_, ?_, ?_, ?_, ?_, ?_, ?_⟩ <;> omega

/-- A block of eight bytes reads as them. -/
theorem rd_eight (w : World) (g : Nat) (hg : g = w.heap.size) (t : TypeId) {a0 a1 a2 a3 a4 a5 a6 a7 : Nat} {l : List Nat} (hl : l = [a0, a1, a2, a3, a4, a5, a6, a7]) (h : ∀ x ∈ l, x < 256) :
    BL.Rd (w.alloc (.cells #[.int .u8 (a0 : Int), .int .u8 (a1 : Int), .int .u8 (a2 : Int), .int .u8 (a3 : Int), .int .u8 (a4 : Int), .int .u8 (a5 : Int), .int .u8 (a6 : Int), .int .u8 (a7 : Int)] t)) (some ⟨g, 0, none⟩) 8 l := by
  subst hg hl
  refine ⟨rfl, by decide, h, fun _ => ⟨w.heap.size, 0, rfl, ?_, fun i hi => ?_⟩⟩
  · rw [World.size_alloc]; omega
  · have hh : (w.alloc (.cells #[.int .u8 (a0 : Int), .int .u8 (a1 : Int), .int .u8 (a2 : Int), .int .u8 (a3 : Int), .int .u8 (a4 : Int), .int .u8 (a5 : Int), .int .u8 (a6 : Int), .int .u8 (a7 : Int)] t)).heap[w.heap.size]? = some (.cells #[.int .u8 (a0 : Int), .int .u8 (a1 : Int), .int .u8 (a2 : Int), .int .u8 (a3 : Int), .int .u8 (a4 : Int), .int .u8 (a5 : Int), .int .u8 (a6 : Int), .int .u8 (a7 : Int)] t (0, 0)) := by
      show (w.heap.push _)[w.heap.size]? = _
      simp
    rw [Nat.zero_add, cell_of_row _ _ i _ t (0, 0) hh]
    rcases i with _ | _ | _ | _ | _ | _ | _ | _ | i
    all_goals first | rfl | omega
/-- The call returns v; what was there is as it was. -/
theorem mix_any (k m : Nat) (hk : k ≤ 18446744073709551615) (hm : m ≤ 18446744073709551615) (w : World) :
    Calls Tryd.prog 20 #[.int .u64 (k : Int), .int .u64 (m : Int)] w (BL.RetV (.int .u64 ((hsh (e8 k ++ e8 m) : Nat) : Int)) w) := by
  have Hk := Lib.hid hk
  have Hm := Lib.hid hm
  clear hk hm
  go_enter Tryd.func20, Tryd.ntmps20
  go_wp2_with fail
  refine (eight_any k Hk.out _).mono ?_
  rintro e w1 ⟨⟨a0, a1, a2, a3, a4, a5, a6, a7, h8, rfl⟩, hb1⟩
  have H8 := Lib.hid h8
  have B1 := Lib.hid hb1
  clear h8 hb1
  go_wp2_with fail
  refine (eight_any m Hm.out _).mono ?_
  rintro e w2 ⟨⟨c0, c1, c2, c3, c4, c5, c6, c7, h9, rfl⟩, hb2⟩
  have H9 := Lib.hid h9
  have B2 := Lib.hid hb2
  clear h9 hb2
  go_wp2
  have R1 := Lib.hid ((rd_eight w2 w2.heap.size rfl 47 H8.out (e8_lt k)).alloc (.cells #[.int .u8 (c0 : Int), .int .u8 (c1 : Int), .int .u8 (c2 : Int), .int .u8 (c3 : Int), .int .u8 (c4 : Int), .int .u8 (c5 : Int), .int .u8 (c6 : Int), .int .u8 (c7 : Int)] 47))
  have R2 := Lib.hid (rd_eight (w2.alloc (.cells #[.int .u8 (a0 : Int), .int .u8 (a1 : Int), .int .u8 (a2 : Int), .int .u8 (a3 : Int), .int .u8 (a4 : Int), .int .u8 (a5 : Int), .int .u8 (a6 : Int), .int .u8 (a7 : Int)] 47)) (w2.heap.size + 1) (by rw [World.size_alloc]) 47 H9.out (e8_lt m))
  have B3 : Hid (Below w.heap.size w ((w2.alloc (.cells #[.int .u8 (a0 : Int), .int .u8 (a1 : Int), .int .u8 (a2 : Int), .int .u8 (a3 : Int), .int .u8 (a4 : Int), .int .u8 (a5 : Int), .int .u8 (a6 : Int), .int .u8 (a7 : Int)] 47)).alloc (.cells #[.int .u8 (c0 : Int), .int .u8 (c1 : Int), .int .u8 (c2 : Int), .int .u8 (c3 : Int), .int .u8 (c4 : Int), .int .u8 (c5 : Int), .int .u8 (c6 : Int), .int .u8 (c7 : Int)] 47))) :=
    Lib.hid ((((B1.out.trans (B2.out.mono B1.out.size))).alloc (by have := B1.out.size; have := B2.out.size; omega) _).alloc (by rw [World.size_alloc]; have := B1.out.size; have := B2.out.size; omega) _)
  generalize (w2.alloc (.cells #[.int .u8 (a0 : Int), .int .u8 (a1 : Int), .int .u8 (a2 : Int), .int .u8 (a3 : Int), .int .u8 (a4 : Int), .int .u8 (a5 : Int), .int .u8 (a6 : Int), .int .u8 (a7 : Int)] 47)).alloc (.cells #[.int .u8 (c0 : Int), .int .u8 (c1 : Int), .int .u8 (c2 : Int), .int .u8 (c3 : Int), .int .u8 (c4 : Int), .int .u8 (c5 : Int), .int .u8 (c6 : Int), .int .u8 (c7 : Int)] 47) = w3 at *
  refine wp_region_still_tail 2 (by kernel_rfl) (by kernel_rfl) ?_
  simp only [List.take_succ_cons, List.take_zero, List.drop_succ_cons, List.drop_zero]
  change wpStill Tryd.prog _ (World.drew w3) (fun a' => wpList Tryd.prog _ _ _ a' (World.drew w3)) _ _
  repeat still_step
  refine wpStill_nil ?_
  have HW : Hid (Below w3.heap.size w3 w3.drew) := Lib.hid ((Below.refl _ _).drewN' 1)
  have R1' := Lib.hid (R1.out.below HW.out (Nat.le_refl _))
  have R2' := Lib.hid (R2.out.below HW.out (Nat.le_refl _))
  refine wpList_appG rfl (.tmp 11) (.tmp 12) 24 rfl Tryd.underlying24 (by kernel_rfl) rfl R1'.out rfl R2'.out (by decide) (by decide) (by decide) (by decide) ?_
  intro v w4 ho hb4
  have HO := Lib.hid ho
  have B4 := Lib.hid hb4
  clear ho hb4
  obtain ⟨A, cap, rfl, hrd⟩ := HO.out.rd
  have HR := Lib.hid hrd
  clear hrd
  go_wp2_with fail
  refine (hash_any A _ cap _ _ (toRd HR.out)).mono ?_
  rintro e w5 ⟨rfl, rfl⟩
  go_wp2
  go_ret
  exact ⟨rfl, (B3.out.trans (HW.out.mono B3.out.size)).trans (B4.out.mono (by rw [World.size_drew]; exact B3.out.size))⟩
end Go.Proofs.YtikaikleibfkeaaDoor
