/- Contracts of http's small functions: a byte's kinds; whether all bytes are such; check. -/
import Derived.Test.YtidhemjnchonaaaGreatDoorRows
import Derived.WalkKit
import Derived.WalkLawsBesides
import Derived.Laws.Externs
import Derived.Lib.Hide
import Derived.BigQuiet
import Derived.Shelf.Abstract
namespace Go.Proofs.YtidhemjnchonaaaGreatDoor
open Go.RowKit

def dig (c : UInt8) : Bool := decide (48 ≤ c.toNat) && decide (c.toNat ≤ 57)
def cap (c : UInt8) : Bool := decide (65 ≤ c.toNat) && decide (c.toNat ≤ 90)
def vis (c : UInt8) : Bool := decide (33 ≤ c.toNat) && decide (c.toNat ≤ 126)
def vab (c : UInt8) : Bool := vis c || decide (c.toNat = 32) || decide (c.toNat = 9)

theorem digit_any (c : UInt8) (w : World) : Calls Tryz.prog 70 #[.int .u8 (c.toNat : Int)] w fun e w' => e = .returned (.bool (dig c)) ∧ w = w' := by
  go_enter Tryz.func70, Tryz.ntmps70
  go_wp2
  all_goals go_ret
  all_goals (refine ⟨congrArg (fun b => Ending.returned (Value.bool b)) ?_, rfl⟩; rw [Bool.eq_iff_iff]; simp [dig]; omega)
theorem capital_any (c : UInt8) (w : World) : Calls Tryz.prog 59 #[.int .u8 (c.toNat : Int)] w fun e w' => e = .returned (.bool (cap c)) ∧ w = w' := by
  go_enter Tryz.func59, Tryz.ntmps59
  go_wp2
  all_goals go_ret
  all_goals (refine ⟨congrArg (fun b => Ending.returned (Value.bool b)) ?_, rfl⟩; rw [Bool.eq_iff_iff]; simp [cap]; omega)
theorem visible_any (c : UInt8) (w : World) : Calls Tryz.prog 68 #[.int .u8 (c.toNat : Int)] w fun e w' => e = .returned (.bool (vis c)) ∧ w = w' := by
  go_enter Tryz.func68, Tryz.ntmps68
  go_wp2
  all_goals go_ret
  all_goals (refine ⟨congrArg (fun b => Ending.returned (Value.bool b)) ?_, rfl⟩; rw [Bool.eq_iff_iff]; simp [vis]; omega)
theorem valuebyte_any (c : UInt8) (w : World) : Calls Tryz.prog 103 #[.int .u8 (c.toNat : Int)] w fun e w' => e = .returned (.bool (vab c)) ∧ w = w' := by
  obtain ⟨v, hv⟩ : ∃ v, vis c = v := ⟨_, rfl⟩
  have h := visible_any c
  rw [hv] at h
  cases v <;>
  · go_enter Tryz.func103, Tryz.ntmps103
    go_wp2_with (go_at_call 68; refine (h _).mono ?_; rintro e w' ⟨rfl, rfl⟩)
    all_goals go_ret
    all_goals (refine ⟨congrArg (fun b => Ending.returned (Value.bool b)) ?_, rfl⟩; rw [Bool.eq_iff_iff]; simp [vab, hv]; try omega)
theorem check_ok (n : Int) (w : World) : Calls Tryz.prog 36 #[.bool true, .int .i64 n] w fun e w' => e = .returned (.tuple #[]) ∧ w = w' := by
  go_enter Tryz.func36, Tryz.ntmps36
  go_wp2
  go_end0
  exact ⟨rfl, rfl⟩
theorem check_no (n : Int) (w : World) : Calls Tryz.prog 36 #[.bool false, .int .i64 n] w fun e w' => e = .panicked [{ v := .iface 60 (.int .i64 n), recovered := false }] ∧ w = w' := by
  go_enter Tryz.func36, Tryz.ntmps36
  go_wp2
  exact ⟨rfl, rfl, rfl⟩
def ckE : Bool → Int → Ending
  | true, _ => .returned (.tuple #[])
  | false, n => .panicked [{ v := .iface 60 (.int .i64 n), recovered := false }]
theorem check_any (b : Bool) (n : Int) (w : World) : Calls Tryz.prog 36 #[.bool b, .int .i64 n] w fun e w' => e = ckE b n ∧ w = w' := by
  cases b
  · exact check_no n w
  · exact check_ok n w
theorem all_any (g : FuncId) (p : UInt8 → Bool) (hp : ∀ (c : UInt8) (w : World), Calls Tryz.prog g #[.int .u8 (c.toNat : Int)] w fun e w' => e = .returned (.bool (p c)) ∧ w = w')
    (he : ∀ args w, (callFunc g args).run Tryz.prog w = .ok (.enter g args) w) (s : List UInt8) (hs : s.length ≤ 9223372036854775807) (w : World) :
    Calls Tryz.prog 67 #[.string ⟨s.toArray⟩, .func (.func g) #[] #[]] w fun e w' => e = .returned (.bool (s.all p)) ∧ w = w' := by
  have H := Lib.hid hp
  clear hp
  go_enter Tryz.func67, Tryz.ntmps67
  go_wp2_with fail
  go_loop [8] (fun j => ∃ k : Nat, j = .int .i64 (k : Int) ∧ k ≤ s.length ∧ Hid ((s.take k).all p = true)) (fun j => s.length - (intOf j).toNat)
  case atStart => exact ⟨0, rfl, by omega, Lib.hid rfl⟩
  case round =>
    obtain ⟨k, rfl, hk, Hk⟩ := hrel
    by_cases hlt : k < s.length
    · obtain ⟨x, hx⟩ : ∃ x, (⟨s.toArray⟩ : ByteArray)[k]'hlt = x := ⟨_, rfl⟩
      have Hx : Hid (s[k]? = some x) := Lib.hid (by rw [← hx, List.getElem?_eq_getElem hlt]; rfl)
      obtain ⟨b, hb⟩ : ∃ b, p x = b := ⟨_, rfl⟩
      have h1 := H.out x
      rw [hb] at h1
      have Hb := Lib.hid hb
      clear hb
      cases b
      · have Hf : Hid (s.all p = false) := Lib.hid (by
          rw [List.all_eq_false]
          exact ⟨x, List.mem_of_getElem? Hx.out, by rw [Hb.out]; decide⟩)
        go_wp2_with (go_at_fn g; refine (h1 _).mono ?_; rintro e w' ⟨rfl, rfl⟩)
        go_ret
        exact ⟨by rw [Hf.out]; rfl, rfl⟩
      · have Hn : Hid ((s.take (k + 1)).all p = true) := Lib.hid (by
          rw [List.take_add_one, Hx.out, List.all_append, Hk.out]; simp [Hb.out])
        go_wp2_with (go_at_fn g; refine (h1 _).mono ?_; rintro e w' ⟨rfl, rfl⟩)
        exact ⟨⟨k + 1, by go_num, by omega, Hn⟩, by simp [intOf]; omega⟩
    · have Hf : Hid (s.all p = true) := Lib.hid (by have := Hk.out; rwa [List.take_of_length_le (by omega)] at this)
      go_wp2_with fail
      go_ret
      exact ⟨by rw [Hf.out]; rfl, rfl⟩
end Go.Proofs.YtidhemjnchonaaaGreatDoor
