/- The law's text of a number. -/
import Derived.Test.YtflmlkaiahpnmaaDoorNum
namespace Go.Proofs.YtflmlkaiahpnmaaDoor
open Go.RowKit Go.Fl

theorem bcat (a b : List UInt8) : (⟨a.toArray⟩ : ByteArray) ++ ⟨b.toArray⟩ = ⟨(a ++ b).toArray⟩ := by
  apply ByteArray.ext
  simp
def intOf : Value → Int | .int _ n => n | _ => 0
def lenOf : Value → Nat | .string s => s.size | _ => 0
/-- The digits still to come, ahead of what stands; of nothing at all, nought. -/
def fin (n : Nat) (t : List UInt8) : List UInt8 := if 0 < n ∨ t = [] then Lib.decDigits n ++ t else t
theorem fin_start (n : Nat) : fin n [] = Lib.decDigits n := by unfold fin; rw [if_pos (.inr rfl), List.append_nil]
theorem fin_step {n : Nat} {t : List UInt8} (h : 0 < n ∨ t = []) : fin (n / 10) (UInt8.ofNat (48 + n % 10) :: t) = fin n t := by
  unfold fin
  rw [if_pos h]
  by_cases h2 : n < 10
  · rw [if_neg (by simp; omega), Lib.decDigits_one h2, Nat.mod_eq_of_lt h2]; rfl
  · rw [if_pos (by left; omega)]
    conv => rhs; rw [Lib.decDigits, dif_neg h2]
    simp
theorem len20 {N : Nat} (h : N < 18446744073709551616) : (Lib.decDigits N).length ≤ 20 := by
  rw [Lib.decDigits_length]
  rcases Nat.eq_zero_or_pos N with h0 | h0
  · subst h0; rw [Lib.nDigits_small (by decide)]; decide
  · have := Lib.numDigits_eq N h0 h
    split at this <;> omega
theorem fin_len {n : Nat} {t : List UInt8} : t.length ≤ (fin n t).length := by unfold fin; split <;> simp
theorem conv1 (w : World) (t : TypeId) (c : Nat) (hc : c < 256) : (convert 31 9 (.slice (some ⟨w.heap.size, 0, none⟩) 1 1)).run Tryd.prog (w.alloc (.cells #[.int .u8 (c : Int)] t)) = .ok (.string ⟨[UInt8.ofNat c].toArray⟩) (w.alloc (.cells #[.int .u8 (c : Int)] t)) :=
  run_convert_bytes_back (P := Tryd.prog) _ 31 9 5 ⟨w.heap.size, 0, none⟩ 1 [UInt8.ofNat c] Tryd.underlying31 Tryd.underlying5 Tryd.underlying9 (fun j hj => by
    obtain rfl : j = 0 := by simpa using hj
    rw [show (⟨w.heap.size, 0, none⟩ : Addr).add 0 = ⟨w.heap.size, 0, none⟩ from rfl, World.cell?_alloc_new]
    simp
    omega)
theorem conv48 (w : World) : (convert 31 9 (.slice (some ⟨w.heap.size, 0, none⟩) 1 1)).run Tryd.prog (w.alloc (.cells #[.int .u8 48] 5)) = .ok (.string ⟨#[48]⟩) (w.alloc (.cells #[.int .u8 48] 5)) := conv1 w 5 48 (by decide)
set_option maxRecDepth 100000 in
theorem text_any (N : Nat) (hN : N < 9223372036854775808) (w : World) : Calls Tryd.prog 5 #[.int .i64 (N : Int)] w (RetV (.string ⟨(Lib.decDigits N).toArray⟩) w) := by
  have HN := Lib.hid hN
  clear hN
  go_enter Tryd.func5, Tryd.ntmps5
  go_wp2_with fail
  go_loopw [0, 3] (fun i v wr => ∃ (n : Nat) (t : List UInt8), Hid (n < 9223372036854775808) ∧ (n : Int) ≤ 9223372036854775807 ∧ i = .int .i64 (n : Int) ∧ v = .string ⟨t.toArray⟩ ∧ Hid (fin n t = Lib.decDigits N) ∧ Hid (Below w.heap.size w wr)) (fun i v _ => 2 * (intOf i).toNat + (1 - lenOf v))
  case atStart => exact ⟨N, [], HN, by have := HN.out; omega, rfl, rfl, Lib.hid (fin_start N), Lib.hid (Below.refl _ _)⟩
  case round =>
    obtain ⟨n, t, hn, hn', rfl, rfl, He, Hb⟩ := hrel
    obtain ⟨c, hc⟩ : ∃ c : Nat, 48 + (n : Int) % 10 = (c : Int) := ⟨48 + n % 10, by omega⟩
    have hc2 : c < 256 := by omega
    have hcv := fun w => conv1 w 5 c hc2
    have Hc : Hid (48 + n % 10 = c) := Lib.hid (by omega)
    have Hbc := Lib.hid (bcat [UInt8.ofNat c] t)
    have hl20 : ¬ 9223372036854775807 < 1 + t.length := by
      have h1 := fin_len (n := n) (t := t)
      have h2 := len20 (N := N) (by have := HN.out; omega)
      rw [He.out] at h1
      omega
    by_cases hp : 0 < n
    · go_wp2_with fail
      go_roundw
      case rel => exact ⟨n / 10, UInt8.ofNat c :: t, Lib.hid (by have := hn.out; omega), by omega, by go_num, congrArg Value.string Hbc.out, Lib.hid (by rw [← Hc.out, fin_step (.inl hp)]; exact He.out), Lib.hid (Hb.out.alloc Hb.out.size _)⟩
      case measure => rw [Hbc.out]; simp [intOf, lenOf, ByteArray.size]; omega
    · obtain rfl : n = 0 := by omega
      clear hcv hc hl20
      have hcv := conv48
      cases t with
      | nil =>
        go_wp2_with fail
        go_roundw
        case rel => exact ⟨0, [48], hn, by decide, rfl, rfl, Lib.hid (by rw [← He.out]; exact fin_step (n := 0) (t := []) (.inr rfl)), Lib.hid (Hb.out.alloc Hb.out.size _)⟩
        case measure => simp [intOf, lenOf, ByteArray.size]
      | cons x t =>
        have Hv : Hid (Lib.decDigits N = x :: t) := Lib.hid (by rw [← He.out]; unfold fin; rw [if_neg (by simp)])
        go_wp2_with fail
        go_ret
        exact ⟨by rw [Hv.out]; rfl, Hb.out⟩
end Go.Proofs.YtflmlkaiahpnmaaDoor
