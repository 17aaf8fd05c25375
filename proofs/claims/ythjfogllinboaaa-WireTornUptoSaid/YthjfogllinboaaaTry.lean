/- wire.cut, wire.try: a reading that is given up. -/
import Derived.Test.YthjfogllinboaaaPutR
import Derived.Tactics2
import Derived.Defers
import Derived.Recover
import Derived.WalkLawsBesides
import Derived.Laws.Pointers
import Derived.Test.YthjfogllinboaaaKept
namespace Go.Proofs.Ythjfogllinboaaa
open Go.RowKit Go.BL Go.Wr

theorem cut_any (n : Int) (w : World) : Calls Try.prog 37 #[.int .i64 n] w fun e w' => e = .panicked [{ v := .iface 33 (.int .i64 n), recovered := false }] ∧ w = w' := by
  go_enter Try.func37, Try.ntmps37
  go_wp2
  exact ⟨rfl, rfl, rfl⟩

theorem ta_nil (w : World) : (Instr.typeAssert Value.nilIface 20 33 true).run Try.prog w = .ok (.tuple #[.int .i64 0, .bool false]) w := by kernel_rfl
theorem ta_err (n : Int) (w : World) : (Instr.typeAssert (.iface 33 (.int .i64 n)) 20 33 true).run Try.prog w = .ok (.tuple #[.int .i64 n, .bool true]) w := by kernel_rfl
theorem catch_idle (p : Addr) (x : Value) (w : World) (hc : w.cell? p = some x) (hz : w.frozen? p = false) :
    CallsD Try.prog 43 #[.pointer (some p)] .returning w fun e u' w' => e = .returned (.tuple #[]) ∧ u' = .returning ∧ w' = w.setCell p (.int .i64 0) := by
  have h1 := ta_nil
  refine callsD_of_wpS Try.func43 rfl fun c₀ cs hu => ?_
  apply wpS_seq
  apply wpS_region
  simp [wpOpsS, go_sem, recoverD, hu, Try.ntmps43, Exit.thenS]
  refine wpS_of_wp ?_
  simp only [Array.replicate_succ, Array.replicate_zero, List.push_toArray, List.nil_append, List.cons_append]
  go_wp2
  simp [bodyPostS, results, Try.results43]
  cases c₀
  simp_all
theorem catch_err (p : Addr) (x : Value) (n : Int) (older : List PanicEntry) (w : World) (hc : w.cell? p = some x) (hz : w.frozen? p = false) :
    CallsD Try.prog 43 #[.pointer (some p)] (.panicking ({ v := .iface 33 (.int .i64 n), recovered := false } :: older)) w fun e u' w' =>
      e = .returned (.tuple #[]) ∧ u' = .panicking ({ v := .iface 33 (.int .i64 n), recovered := true } :: older) ∧ w' = w.setCell p (.int .i64 n) := by
  have h1 := ta_err
  refine callsD_of_wpS Try.func43 rfl fun c₀ cs hu => ?_
  apply wpS_seq
  apply wpS_region
  simp [wpOpsS, go_sem, recoverD, hu, Try.ntmps43, Exit.thenS]
  refine wpS_of_wp ?_
  simp only [Array.replicate_succ, Array.replicate_zero, List.push_toArray, List.nil_append, List.cons_append]
  go_wp2
  simp [bodyPostS, results, Try.results43]
/-- What a reading leaves: it came to its end (0), or was given up with an error. -/
def Out (R : Nat → World → Prop) (e : Ending) (w' : World) : Prop :=
  (e = .returned (.tuple #[]) ∧ R 0 w') ∨ ∃ n : Nat, n ≠ 0 ∧ e = .panicked [{ v := .iface 33 (.int .i64 (n : Int)), recovered := false }] ∧ R n w'
theorem try34 (cap : Array Value) (w : World) (R : Nat → World → Prop)
    (h : Calls Try.prog 34 cap (w.alloc (.cells #[.int .i64 0] 33)) fun e w' => Box w' w.heap.size (.int .i64 0) 33 ∧ Out R e w') :
    Calls Try.prog 41 #[.func (.func 34) #[] cap] w fun e w' => ∃ (n : Nat) (w1 : World), e = .returned (.int .i64 (n : Int)) ∧ R n w1 ∧ Kept [w.heap.size] w1 w' := by
  have hmf : ∀ (fn : Fn) (first cap : Array Value) (w : World), (Instr.makeFunc fn first cap).run Try.prog w = .ok (.func fn first cap) w := fun _ _ _ _ => rfl
  have H := Lib.hid h
  clear h
  go_enter_defers Try.func41, Try.ntmps41
  go_wp2_with fail
  refine H.out.mono ?_
  rintro e w1 ⟨hB, h | h⟩
  · obtain ⟨rfl, hR⟩ := h
    have HR := Lib.hid hR
    have HB := Lib.hid hB
    have hc := HB.out.cell
    have hz := HB.out.free
    clear hR hB
    go_wp2
    have hc' : (w1.setCell ⟨w.heap.size, 0, none⟩ (.int .i64 0)).cell? ⟨w.heap.size, 0, none⟩ = some (.int .i64 0) := by simp [go_sem, hc]
    have hz' : (w1.setCell ⟨w.heap.size, 0, none⟩ (.int .i64 0)).frozen? ⟨w.heap.size, 0, none⟩ = false := by simp [go_sem, hz]
    refine leaves_cons (f := 43) (args := #[.pointer (some ⟨w.heap.size, 0, none⟩)]) (by simp) (by simp [go_sem]) ?_
    refine (catch_idle ⟨w.heap.size, 0, none⟩ _ _ hc' hz').mono ?_
    rintro e u' w2 ⟨rfl, rfl, rfl⟩
    have hc2 : ((w1.setCell ⟨w.heap.size, 0, none⟩ (.int .i64 0)).setCell ⟨w.heap.size, 0, none⟩ (.int .i64 0)).cell? ⟨w.heap.size, 0, none⟩ = some (.int .i64 0) := by simp [go_sem, hc]
    simp [Leaves, settle, results, Try.results41, go_sem, hc2]
    exact ⟨0, rfl, w1, HR.out, ((Kept.refl _ w1).setCell (.inl (by simp)) _).setCell (.inl (by simp)) _⟩
  · obtain ⟨n, _, rfl, hR⟩ := h
    have HR := Lib.hid hR
    have HB := Lib.hid hB
    have hc := HB.out.cell
    have hz := HB.out.free
    clear hR hB
    go_wp2
    refine leaves_cons (f := 43) (args := #[.pointer (some ⟨w.heap.size, 0, none⟩)]) (by simp) (by simp [go_sem]) ?_
    refine (catch_err ⟨w.heap.size, 0, none⟩ _ n [] _ hc hz).mono ?_
    rintro e u' w2 ⟨rfl, rfl, rfl⟩
    have hc2 : (w1.setCell ⟨w.heap.size, 0, none⟩ (.int .i64 n)).cell? ⟨w.heap.size, 0, none⟩ = some (.int .i64 n) := by simp [go_sem, hc]
    simp [Leaves, settle, results, Try.results41, go_sem, hc2]
    exact ⟨n, rfl, w1, HR.out, (Kept.refl _ w1).setCell (.inl (by simp)) _⟩
theorem try36 (cap : Array Value) (w : World) (R : Nat → World → Prop)
    (h : Calls Try.prog 36 cap (w.alloc (.cells #[.int .i64 0] 33)) fun e w' => Box w' w.heap.size (.int .i64 0) 33 ∧ Out R e w') :
    Calls Try.prog 41 #[.func (.func 36) #[] cap] w fun e w' => ∃ (n : Nat) (w1 : World), e = .returned (.int .i64 (n : Int)) ∧ R n w1 ∧ Kept [w.heap.size] w1 w' := by
  have hmf : ∀ (fn : Fn) (first cap : Array Value) (w : World), (Instr.makeFunc fn first cap).run Try.prog w = .ok (.func fn first cap) w := fun _ _ _ _ => rfl
  have H := Lib.hid h
  clear h
  go_enter_defers Try.func41, Try.ntmps41
  go_wp2_with fail
  refine H.out.mono ?_
  rintro e w1 ⟨hB, h | h⟩
  · obtain ⟨rfl, hR⟩ := h
    have HR := Lib.hid hR
    have HB := Lib.hid hB
    have hc := HB.out.cell
    have hz := HB.out.free
    clear hR hB
    go_wp2
    have hc' : (w1.setCell ⟨w.heap.size, 0, none⟩ (.int .i64 0)).cell? ⟨w.heap.size, 0, none⟩ = some (.int .i64 0) := by simp [go_sem, hc]
    have hz' : (w1.setCell ⟨w.heap.size, 0, none⟩ (.int .i64 0)).frozen? ⟨w.heap.size, 0, none⟩ = false := by simp [go_sem, hz]
    refine leaves_cons (f := 43) (args := #[.pointer (some ⟨w.heap.size, 0, none⟩)]) (by simp) (by simp [go_sem]) ?_
    refine (catch_idle ⟨w.heap.size, 0, none⟩ _ _ hc' hz').mono ?_
    rintro e u' w2 ⟨rfl, rfl, rfl⟩
    have hc2 : ((w1.setCell ⟨w.heap.size, 0, none⟩ (.int .i64 0)).setCell ⟨w.heap.size, 0, none⟩ (.int .i64 0)).cell? ⟨w.heap.size, 0, none⟩ = some (.int .i64 0) := by simp [go_sem, hc]
    simp [Leaves, settle, results, Try.results41, go_sem, hc2]
    exact ⟨0, rfl, w1, HR.out, ((Kept.refl _ w1).setCell (.inl (by simp)) _).setCell (.inl (by simp)) _⟩
  · obtain ⟨n, _, rfl, hR⟩ := h
    have HR := Lib.hid hR
    have HB := Lib.hid hB
    have hc := HB.out.cell
    have hz := HB.out.free
    clear hR hB
    go_wp2
    refine leaves_cons (f := 43) (args := #[.pointer (some ⟨w.heap.size, 0, none⟩)]) (by simp) (by simp [go_sem]) ?_
    refine (catch_err ⟨w.heap.size, 0, none⟩ _ n [] _ hc hz).mono ?_
    rintro e u' w2 ⟨rfl, rfl, rfl⟩
    have hc2 : (w1.setCell ⟨w.heap.size, 0, none⟩ (.int .i64 n)).cell? ⟨w.heap.size, 0, none⟩ = some (.int .i64 n) := by simp [go_sem, hc]
    simp [Leaves, settle, results, Try.results41, go_sem, hc2]
    exact ⟨n, rfl, w1, HR.out, (Kept.refl _ w1).setCell (.inl (by simp)) _⟩
theorem try39 (cap : Array Value) (w : World) (R : Nat → World → Prop)
    (h : Calls Try.prog 39 cap (w.alloc (.cells #[.int .i64 0] 33)) fun e w' => Box w' w.heap.size (.int .i64 0) 33 ∧ Out R e w') :
    Calls Try.prog 41 #[.func (.func 39) #[] cap] w fun e w' => ∃ (n : Nat) (w1 : World), e = .returned (.int .i64 (n : Int)) ∧ R n w1 ∧ Kept [w.heap.size] w1 w' := by
  have hmf : ∀ (fn : Fn) (first cap : Array Value) (w : World), (Instr.makeFunc fn first cap).run Try.prog w = .ok (.func fn first cap) w := fun _ _ _ _ => rfl
  have H := Lib.hid h
  clear h
  go_enter_defers Try.func41, Try.ntmps41
  go_wp2_with fail
  refine H.out.mono ?_
  rintro e w1 ⟨hB, h | h⟩
  · obtain ⟨rfl, hR⟩ := h
    have HR := Lib.hid hR
    have HB := Lib.hid hB
    have hc := HB.out.cell
    have hz := HB.out.free
    clear hR hB
    go_wp2
    have hc' : (w1.setCell ⟨w.heap.size, 0, none⟩ (.int .i64 0)).cell? ⟨w.heap.size, 0, none⟩ = some (.int .i64 0) := by simp [go_sem, hc]
    have hz' : (w1.setCell ⟨w.heap.size, 0, none⟩ (.int .i64 0)).frozen? ⟨w.heap.size, 0, none⟩ = false := by simp [go_sem, hz]
    refine leaves_cons (f := 43) (args := #[.pointer (some ⟨w.heap.size, 0, none⟩)]) (by simp) (by simp [go_sem]) ?_
    refine (catch_idle ⟨w.heap.size, 0, none⟩ _ _ hc' hz').mono ?_
    rintro e u' w2 ⟨rfl, rfl, rfl⟩
    have hc2 : ((w1.setCell ⟨w.heap.size, 0, none⟩ (.int .i64 0)).setCell ⟨w.heap.size, 0, none⟩ (.int .i64 0)).cell? ⟨w.heap.size, 0, none⟩ = some (.int .i64 0) := by simp [go_sem, hc]
    simp [Leaves, settle, results, Try.results41, go_sem, hc2]
    exact ⟨0, rfl, w1, HR.out, ((Kept.refl _ w1).setCell (.inl (by simp)) _).setCell (.inl (by simp)) _⟩
  · obtain ⟨n, _, rfl, hR⟩ := h
    have HR := Lib.hid hR
    have HB := Lib.hid hB
    have hc := HB.out.cell
    have hz := HB.out.free
    clear hR hB
    go_wp2
    refine leaves_cons (f := 43) (args := #[.pointer (some ⟨w.heap.size, 0, none⟩)]) (by simp) (by simp [go_sem]) ?_
    refine (catch_err ⟨w.heap.size, 0, none⟩ _ n [] _ hc hz).mono ?_
    rintro e u' w2 ⟨rfl, rfl, rfl⟩
    have hc2 : (w1.setCell ⟨w.heap.size, 0, none⟩ (.int .i64 n)).cell? ⟨w.heap.size, 0, none⟩ = some (.int .i64 n) := by simp [go_sem, hc]
    simp [Leaves, settle, results, Try.results41, go_sem, hc2]
    exact ⟨n, rfl, w1, HR.out, (Kept.refl _ w1).setCell (.inl (by simp)) _⟩
theorem try42 (cap : Array Value) (w : World) (R : Nat → World → Prop)
    (h : Calls Try.prog 42 cap (w.alloc (.cells #[.int .i64 0] 33)) fun e w' => Box w' w.heap.size (.int .i64 0) 33 ∧ Out R e w') :
    Calls Try.prog 41 #[.func (.func 42) #[] cap] w fun e w' => ∃ (n : Nat) (w1 : World), e = .returned (.int .i64 (n : Int)) ∧ R n w1 ∧ Kept [w.heap.size] w1 w' := by
  have hmf : ∀ (fn : Fn) (first cap : Array Value) (w : World), (Instr.makeFunc fn first cap).run Try.prog w = .ok (.func fn first cap) w := fun _ _ _ _ => rfl
  have H := Lib.hid h
  clear h
  go_enter_defers Try.func41, Try.ntmps41
  go_wp2_with fail
  refine H.out.mono ?_
  rintro e w1 ⟨hB, h | h⟩
  · obtain ⟨rfl, hR⟩ := h
    have HR := Lib.hid hR
    have HB := Lib.hid hB
    have hc := HB.out.cell
    have hz := HB.out.free
    clear hR hB
    go_wp2
    have hc' : (w1.setCell ⟨w.heap.size, 0, none⟩ (.int .i64 0)).cell? ⟨w.heap.size, 0, none⟩ = some (.int .i64 0) := by simp [go_sem, hc]
    have hz' : (w1.setCell ⟨w.heap.size, 0, none⟩ (.int .i64 0)).frozen? ⟨w.heap.size, 0, none⟩ = false := by simp [go_sem, hz]
    refine leaves_cons (f := 43) (args := #[.pointer (some ⟨w.heap.size, 0, none⟩)]) (by simp) (by simp [go_sem]) ?_
    refine (catch_idle ⟨w.heap.size, 0, none⟩ _ _ hc' hz').mono ?_
    rintro e u' w2 ⟨rfl, rfl, rfl⟩
    have hc2 : ((w1.setCell ⟨w.heap.size, 0, none⟩ (.int .i64 0)).setCell ⟨w.heap.size, 0, none⟩ (.int .i64 0)).cell? ⟨w.heap.size, 0, none⟩ = some (.int .i64 0) := by simp [go_sem, hc]
    simp [Leaves, settle, results, Try.results41, go_sem, hc2]
    exact ⟨0, rfl, w1, HR.out, ((Kept.refl _ w1).setCell (.inl (by simp)) _).setCell (.inl (by simp)) _⟩
  · obtain ⟨n, _, rfl, hR⟩ := h
    have HR := Lib.hid hR
    have HB := Lib.hid hB
    have hc := HB.out.cell
    have hz := HB.out.free
    clear hR hB
    go_wp2
    refine leaves_cons (f := 43) (args := #[.pointer (some ⟨w.heap.size, 0, none⟩)]) (by simp) (by simp [go_sem]) ?_
    refine (catch_err ⟨w.heap.size, 0, none⟩ _ n [] _ hc hz).mono ?_
    rintro e u' w2 ⟨rfl, rfl, rfl⟩
    have hc2 : (w1.setCell ⟨w.heap.size, 0, none⟩ (.int .i64 n)).cell? ⟨w.heap.size, 0, none⟩ = some (.int .i64 n) := by simp [go_sem, hc]
    simp [Leaves, settle, results, Try.results41, go_sem, hc2]
    exact ⟨n, rfl, w1, HR.out, (Kept.refl _ w1).setCell (.inl (by simp)) _⟩
end Go.Proofs.Ythjfogllinboaaa
