/- Readers that no call made. -/
import Derived.Test.YthjfogllinboaaaPutR
import Derived.Handy
import Derived.BigQuiet
import Derived.Deep.QuietTactic
namespace Go.Proofs.Ythjfogllinboaaa
open Go.RowKit Go.BL Go.Wr

theorem made_nil (w : World) : Calls Try.prog 40 #[.pointer none] w fun e w' => e = .returned (.bool false) ∧ w = w' := by
  have heq := fun (w : World) => (by kernel_rfl : (binOp .neq 29 (.pointer none) (.pointer none)).run Try.prog w = .ok (.bool false) w)
  go_enter Try.func40, Try.ntmps40
  go_wp2
  go_ret
  exact ⟨rfl, rfl⟩
theorem made_box (g : Nat) (b : Bool) (w : World) (h : w.cell? ⟨g, 2, none⟩ = some (.bool b)) : Calls Try.prog 40 #[.pointer (some ⟨g, 0, none⟩)] w fun e w' => e = .returned (.bool b) ∧ w = w' := by
  go_enter Try.func40, Try.ntmps40
  go_wp2
  go_ret
  exact ⟨by simp, rfl⟩
/-- A reader that no call made. -/
def Nobody (w : World) (p : Option Addr) : Prop := p = none ∨ ∃ g, p = some ⟨g, 0, none⟩ ∧ w.cell? ⟨g, 2, none⟩ = some (.bool false)
theorem made_no (p : Option Addr) (w : World) (h : Nobody w p) : Calls Try.prog 40 #[.pointer p] w fun e w' => e = .returned (.bool false) ∧ w = w' := by
  rcases h with rfl | ⟨g, rfl, hc⟩
  · exact made_nil w
  · exact made_box g false w hc
theorem tried_no (p : Option Addr) (f : Value) (w : World) (h : Nobody w p) : Calls Try.prog 33 #[.pointer p, f] w fun e w' => e = .returned (.int .i64 8) ∧ w = w' := by
  have H := Lib.hid h
  clear h
  go_enter Try.func33, Try.ntmps33
  go_wp2_with fail
  refine (made_no p _ H.out).mono ?_
  rintro e w' ⟨rfl, rfl⟩
  go_wp2
  go_ret
  exact ⟨rfl, rfl⟩
theorem end_no (p : Option Addr) (w : World) (h : Nobody w p) : Calls Try.prog 21 #[.pointer p] w fun e w' => e = .returned (.int .i64 8) ∧ w = w' := by
  have H := Lib.hid h
  clear h
  go_enter Try.func21, Try.ntmps21
  go_wp2_with fail
  refine (made_no p _ H.out).mono ?_
  rintro e w' ⟨rfl, rfl⟩
  go_wp2
  go_ret
  exact ⟨rfl, rfl⟩
theorem at_no (p : Option Addr) (w : World) (h : Nobody w p) : Calls Try.prog 22 #[.pointer p] w fun e w' => e = .returned (.int .i64 0) ∧ w = w' := by
  have H := Lib.hid h
  clear h
  go_enter Try.func22, Try.ntmps22
  go_wp2_with fail
  refine (made_no p _ H.out).mono ?_
  rintro e w' ⟨rfl, rfl⟩
  go_wp2
  go_ret
  exact ⟨rfl, rfl⟩
theorem left_no (p : Option Addr) (w : World) (h : Nobody w p) : Calls Try.prog 23 #[.pointer p] w fun e w' => e = .returned (.int .i64 0) ∧ w = w' := by
  have H := Lib.hid h
  clear h
  go_enter Try.func23, Try.ntmps23
  go_wp2_with fail
  refine (made_no p _ H.out).mono ?_
  rintro e w' ⟨rfl, rfl⟩
  go_wp2
  go_ret
  exact ⟨rfl, rfl⟩
theorem Nobody.below {w w' : World} {p : Option Addr} (h : Nobody w p) (hb : Below w.heap.size w w') : Nobody w' p := by
  rcases h with rfl | ⟨g, rfl, hc⟩
  · exact .inl rfl
  · exact .inr ⟨g, rfl, (hb.cell (p := ⟨g, 2, none⟩) (lt_block hc)).trans hc⟩
theorem uint_no (p : Option Addr) (w : World) (h : Nobody w p) : Calls Try.prog 18 #[.pointer p] w fun e w' => e = .returned (.tuple #[.int .i64 0, .int .i64 8]) ∧ Below w.heap.size w w' := by
  have hmf : ∀ (fn : Fn) (first cap : Array Value) (w : World), (Instr.makeFunc fn first cap).run Try.prog w = .ok (.func fn first cap) w := fun _ _ _ _ => rfl
  have H := Lib.hid h
  clear h
  go_enter Try.func18, Try.ntmps18
  go_wp2_with fail
  refine (tried_no p _ _ (H.out.below (by go_grown))).mono ?_
  rintro e w' ⟨rfl, rfl⟩
  go_wp2
  go_ret2
  exact ⟨rfl, by go_grown⟩
theorem byte_no (p : Option Addr) (w : World) (h : Nobody w p) : Calls Try.prog 19 #[.pointer p] w fun e w' => e = .returned (.tuple #[.int .i64 0, .int .i64 8]) ∧ Below w.heap.size w w' := by
  have hmf : ∀ (fn : Fn) (first cap : Array Value) (w : World), (Instr.makeFunc fn first cap).run Try.prog w = .ok (.func fn first cap) w := fun _ _ _ _ => rfl
  have H := Lib.hid h
  clear h
  go_enter Try.func19, Try.ntmps19
  go_wp2_with fail
  refine (tried_no p _ _ (H.out.below (by go_grown))).mono ?_
  rintro e w' ⟨rfl, rfl⟩
  go_wp2
  go_ret2
  exact ⟨rfl, by go_grown⟩
theorem rtext_no (p : Option Addr) (m : Int) (w : World) (h : Nobody w p) : Calls Try.prog 20 #[.pointer p, .int .i64 m] w fun e w' => e = .returned (.tuple #[.string .empty, .int .i64 8]) ∧ Below w.heap.size w w' := by
  have hmf : ∀ (fn : Fn) (first cap : Array Value) (w : World), (Instr.makeFunc fn first cap).run Try.prog w = .ok (.func fn first cap) w := fun _ _ _ _ => rfl
  have H := Lib.hid h
  clear h
  go_enter Try.func20, Try.ntmps20
  go_wp2_with fail
  refine (tried_no p _ _ (H.out.below (by go_grown))).mono ?_
  rintro e w' ⟨rfl, rfl⟩
  go_wp2
  go_ret2
  exact ⟨rfl, by go_grown⟩
end Go.Proofs.Ythjfogllinboaaa
