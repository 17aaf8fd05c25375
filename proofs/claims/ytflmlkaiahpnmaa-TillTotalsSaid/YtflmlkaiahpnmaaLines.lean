/- Lines: what a line comes to, and what lines come to, the program's and the document's. -/
import Derived.Test.YtflmlkaiahpnmaaBase
import Derived.Below
import Derived.StillTailTactics
namespace Go.Proofs.Ytflmlkaiahpnmaa
open Go.RowKit Go.Fl
theorem swapW {P : Program} {f : FuncId} {args : Array Value} {w : World} {v : Value} (h : Calls P f args w fun e w' => e = .returned v ∧ w = w') : Calls P f args w fun e w' => e = .returned v ∧ w' = w :=
  h.mono fun _ _ ⟨he, hm⟩ => ⟨he, hm.symm⟩
theorem _root_.Go.RowKit.Below.drewN' {B : Nat} {a w : World} (h : Below B a w) (n : Nat) : Below B a (w.drewN n) := ⟨h.os, h.tape, h.output, h.size, h.block⟩
def RetF (c : Option Nat) (w : World) (e : Ending) (w' : World) : Prop := ∃ v, e = .returned (.float .f64 v) ∧ canon v = c ∧ Below w.heap.size w w'
/-- The call returns v; what was there is as it was. -/
def RetV (v : Value) (w : World) (e : Ending) (w' : World) : Prop := e = .returned v ∧ Below w.heap.size w w'
def worthc (q p : Int) : Option Nat := opc .mul (canon (floatOfInt .f64 q)) (canon p.toNat)
theorem worth_any (s : ByteArray) (q p : Int) (w : World) : Calls Try.prog 37 #[.agg #[.string s, .int .i64 q, .int .u64 p]] w (RetF (worthc q p) w) := by
  have hm := fun w x y => run_fl (P := Try.prog) w .mul (by simp) 42 x y
  go_enter Try.func37, Try.ntmps37
  go_wp2
  refine wp_region_still_tail 6 (by kernel_rfl) (by kernel_rfl) ?_
  simp only [List.take_succ_cons, List.take_zero, List.drop_succ_cons, List.drop_zero]
  change wpStill Try.prog _ (World.drew (w.alloc _)) (fun a' => wpList Try.prog _ _ _ a' (World.drew (w.alloc _))) _ _
  repeat still_step
  still_call (swapW (float_any _ _))
  refine wpStill_nil ?_
  go_wp2
  go_ret
  exact ⟨_, rfl, canon_res _ _ _ _, ((Below.refl _ _).alloc (Nat.le_refl _) _).drewN' _⟩
theorem worthR_any (s : ByteArray) (q p : Int) (w : World) : Calls Try.prog 38 #[.agg #[.string s, .int .i64 q, .int .u64 p]] w (RetF (worthc q p) w) := by
  have hm := fun w x y => run_fl (P := Try.prog) w .mul (by simp) 42 x y
  go_enter Try.func38, Try.ntmps38
  go_wp2
  refine wp_region_still_tail 6 (by kernel_rfl) (by kernel_rfl) ?_
  simp only [List.take_succ_cons, List.take_zero, List.drop_succ_cons, List.drop_zero]
  change wpStill Try.prog _ (World.drew (w.alloc _)) (fun a' => wpList Try.prog _ _ _ a' (World.drew (w.alloc _))) _ _
  repeat still_step
  still_call (swapW (floatR_any _ _))
  refine wpStill_nil ?_
  go_wp2
  go_ret
  exact ⟨_, rfl, canon_res _ _ _ _, ((Below.refl _ _).alloc (Nat.le_refl _) _).drewN' _⟩

/-- A line: its item, pieces, price. -/
structure Ln where
  s : ByteArray
  q : Int
  p : Int
def Ln.ok (x : Ln) : Prop := x.s.size ≤ maxLen ∧ -9223372036854775808 ≤ x.q ∧ x.q ≤ 9223372036854775807 ∧ 0 ≤ x.p ∧ x.p < 18446744073709551616
/-- The slice (address A, n elements) reads as the lines ls. -/
def RdL (w : World) (A : Option Addr) (n : Nat) (ls : List Ln) : Prop :=
  ls.length = n ∧ n ≤ maxLen ∧ (∀ x ∈ ls, x.ok) ∧ (0 < n → ∃ b off, A = some ⟨b, off, none⟩ ∧ b < w.heap.size ∧ ∀ i (x : Ln), ls[i]? = some x →
    w.cell? ⟨b, off + i * 3, none⟩ = some (.string x.s) ∧ w.cell? ⟨b, off + i * 3 + 1, none⟩ = some (.int .i64 x.q) ∧ w.cell? ⟨b, off + i * 3 + 2, none⟩ = some (.int .u64 x.p))
theorem RdL.below {w w' : World} {A : Option Addr} {n : Nat} {ls : List Ln} {B : Nat} (h : RdL w A n ls) (hb : Below B w w') (hB : w.heap.size ≤ B) : RdL w' A n ls := by
  refine ⟨h.1, h.2.1, h.2.2.1, fun hn => ?_⟩
  obtain ⟨b, off, e, hlt, hc⟩ := h.2.2.2 hn
  refine ⟨b, off, e, Nat.lt_of_lt_of_le hlt hb.size, fun i x hx => ?_⟩
  obtain ⟨h1, h2, h3⟩ := hc i x hx
  have hk : ∀ o, w'.cell? ⟨b, o, none⟩ = w.cell? ⟨b, o, none⟩ := fun o => hb.cell (p := ⟨b, o, none⟩) (by show b < B; omega)
  exact ⟨(hk _).trans h1, (hk _).trans h2, (hk _).trans h3⟩

def totc (ls : List Ln) : Option Nat := ls.foldl (fun t x => opc .add t (worthc x.q x.p)) (some 0)
theorem totc_snoc (ls : List Ln) (k : Nat) (x : Ln) (h : ls[k]? = some x) : totc (ls.take (k + 1)) = opc .add (totc (ls.take k)) (worthc x.q x.p) := by
  have hk : k < ls.length := by
    rcases Nat.lt_or_ge k ls.length with h' | h'
    · exact h'
    · rw [List.getElem?_eq_none h'] at h; cases h
  rw [List.take_succ_eq_append_getElem hk]
  rw [List.getElem?_eq_getElem hk] at h
  rw [totc, List.foldl_append]
  injection h with h
  rw [h]; rfl

theorem total_any (A : Option Addr) (n cap : Nat) (ls : List Ln) (w : World) (hr : RdL w A n ls) : Calls Try.prog 31 #[.slice A n cap] w (RetF (totc ls) w) := by
  have hm := hr.2.1
  unfold maxLen at hm
  have ha := fun w x y => run_fl (P := Try.prog) w .add (by simp) 42 x y
  have Hr := Lib.hid hr
  clear hr
  go_enter Try.func31, Try.ntmps31
  go_wp2
  go_loopw [3, 8] (fun t i wr => ∃ (k v : Nat), k ≤ n ∧ i = .int .i64 k ∧ t = .float .f64 v ∧ Hid (canon v = totc (ls.take k)) ∧ Hid (Below w.heap.size w wr)) (fun _ i _ => n - (intOf i).toNat)
  case atStart => exact ⟨0, 0, Nat.zero_le _, rfl, rfl, Lib.hid (by rw [List.take_zero]; decide +kernel), Lib.hid (Below.refl _ _)⟩
  case round =>
    obtain ⟨k, v, hk, rfl, rfl, Hv, Hb⟩ := hrel
    by_cases hlt : k < n
    · obtain ⟨b, off, rfl, hbl, hc⟩ := (Hr.out.below Hb.out (Nat.le_refl _)).2.2.2 (by omega)
      obtain ⟨x, hx⟩ : ∃ x, ls[k]? = some x := ⟨_, List.getElem?_eq_getElem (by rw [Hr.out.1]; exact hlt)⟩
      obtain ⟨h1, h2, h3⟩ := hc k x hx
      have Ht := Lib.hid (totc_snoc ls k x hx)
      clear hc hx
      go_wp2_with fail
      refine (worth_any _ _ _ _).mono ?_
      rintro e w1 ⟨u, rfl, hu, hb1⟩
      have Hu := Lib.hid hu
      have Hb1 := Lib.hid hb1
      clear hu hb1
      go_wp2_with fail
      go_roundw
      case rel => exact ⟨k + 1, _, by omega, by go_num, rfl, Lib.hid (by rw [canon_res, Hv.out, Hu.out, Ht.out]), Lib.hid (((Hb.out.alloc Hb.out.size _).trans (Hb1.out.mono (by have := Hb.out.size; simp; omega))).drewN' _)⟩
      case measure => simp [intOf]; omega
    · obtain rfl : k = n := by omega
      go_wp2
      go_ret
      exact ⟨_, rfl, by rw [Hv.out, List.take_of_length_le (by rw [Hr.out.1]; omega)], Hb.out⟩
theorem totalR_any (A : Option Addr) (n cap : Nat) (ls : List Ln) (w : World) (hr : RdL w A n ls) : Calls Try.prog 32 #[.slice A n cap] w (RetF (totc ls) w) := by
  have hm := hr.2.1
  unfold maxLen at hm
  have ha := fun w x y => run_fl (P := Try.prog) w .add (by simp) 42 x y
  have Hr := Lib.hid hr
  clear hr
  go_enter Try.func32, Try.ntmps32
  go_wp2
  go_loopw [3, 8] (fun t i wr => ∃ (k v : Nat), k ≤ n ∧ i = .int .i64 k ∧ t = .float .f64 v ∧ Hid (canon v = totc (ls.take k)) ∧ Hid (Below w.heap.size w wr)) (fun _ i _ => n - (intOf i).toNat)
  case atStart => exact ⟨0, 0, Nat.zero_le _, rfl, rfl, Lib.hid (by rw [List.take_zero]; decide +kernel), Lib.hid (Below.refl _ _)⟩
  case round =>
    obtain ⟨k, v, hk, rfl, rfl, Hv, Hb⟩ := hrel
    by_cases hlt : k < n
    · obtain ⟨b, off, rfl, hbl, hc⟩ := (Hr.out.below Hb.out (Nat.le_refl _)).2.2.2 (by omega)
      obtain ⟨x, hx⟩ : ∃ x, ls[k]? = some x := ⟨_, List.getElem?_eq_getElem (by rw [Hr.out.1]; exact hlt)⟩
      obtain ⟨h1, h2, h3⟩ := hc k x hx
      have Ht := Lib.hid (totc_snoc ls k x hx)
      clear hc hx
      go_wp2_with fail
      refine (worthR_any _ _ _ _).mono ?_
      rintro e w1 ⟨u, rfl, hu, hb1⟩
      have Hu := Lib.hid hu
      have Hb1 := Lib.hid hb1
      clear hu hb1
      go_wp2_with fail
      go_roundw
      case rel => exact ⟨k + 1, _, by omega, by go_num, rfl, Lib.hid (by rw [canon_res, Hv.out, Hu.out, Ht.out]), Lib.hid (((Hb.out.alloc Hb.out.size _).trans (Hb1.out.mono (by have := Hb.out.size; simp; omega))).drewN' _)⟩
      case measure => simp [intOf]; omega
    · obtain rfl : k = n := by omega
      go_wp2
      go_ret
      exact ⟨_, rfl, by rw [Hv.out, List.take_of_length_le (by rw [Hr.out.1]; omega)], Hb.out⟩

theorem sum_any (A : Option Addr) (n cap : Nat) (ls : List Ln) (w : World) (hr : RdL w A n ls) : Calls Try.prog 12 #[.slice A n cap] w (RetV (.int .u64 (wordI (totc ls))) w) := by
  have Hr := Lib.hid hr
  clear hr
  go_enter Try.func12, Try.ntmps12
  go_wp2_with fail
  refine (total_any _ _ _ _ _ Hr.out).mono ?_
  rintro e w1 ⟨u, rfl, hu, hb1⟩
  have Hu := Lib.hid hu
  have Hb1 := Lib.hid hb1
  clear hu hb1
  go_wp2_with fail
  refine (bits_any _ _).mono ?_
  rw [Hu.out]
  rintro e w' ⟨rfl, rfl⟩
  go_wp2
  go_ret
  exact ⟨rfl, Hb1.out⟩
theorem sumR_any (A : Option Addr) (n cap : Nat) (ls : List Ln) (w : World) (hr : RdL w A n ls) : Calls Try.prog 13 #[.slice A n cap] w (RetV (.int .u64 (wordI (totc ls))) w) := by
  have Hr := Lib.hid hr
  clear hr
  go_enter Try.func13, Try.ntmps13
  go_wp2_with fail
  refine (totalR_any _ _ _ _ _ Hr.out).mono ?_
  rintro e w1 ⟨u, rfl, hu, hb1⟩
  have Hu := Lib.hid hu
  have Hb1 := Lib.hid hb1
  clear hu hb1
  go_wp2_with fail
  refine (bitsR_any _ _).mono ?_
  rw [Hu.out]
  rintro e w' ⟨rfl, rfl⟩
  go_wp2
  go_ret
  exact ⟨rfl, Hb1.out⟩
end Go.Proofs.Ytflmlkaiahpnmaa
