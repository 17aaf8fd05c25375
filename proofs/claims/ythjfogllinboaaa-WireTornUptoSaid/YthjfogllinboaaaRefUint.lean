/- The document's Uint: the plain one. -/
import Derived.Test.YthjfogllinboaaaReads2
namespace Go.Proofs.Ythjfogllinboaaa
open Go.RowKit Go.BL Go.Wr
/-- What the document's Uint gives. -/
def refUint (bs : List Nat) : Nat × Nat × Nat := match num bs 0 0 with
  | .bad c => (0, 0, c)
  | .got n k => (n, k, 0)
theorem cast_pow (k : Nat) : ((128 : Int) ^ k) = ((128 ^ k : Nat) : Int) := by simp
theorem three {a b c : Int} {x y z : Nat} (h1 : a = x) (h2 : b = y) (h3 : c = z) : Ending.returned (.tuple #[.int .i64 a, .int .i64 b, .int .i64 c]) = .returned (.tuple #[.int .i64 x, .int .i64 y, .int .i64 z]) := by rw [h1, h2, h3]
theorem add_mul {m k : Nat} (x : Nat) (hm : m < 128 ^ k) (hk : k ≤ 8) : wrap64 ((m : Int) + wrap64 ((x : Int) % 128 * 128 ^ k)) = ((m + x % 128 * 128 ^ k : Nat) : Int) := by
  obtain ⟨h1, h2⟩ := pow128 x hm hk
  have h3 : m < 72057594037927936 := Nat.lt_of_lt_of_le hm (Nat.pow_le_pow_right (by decide) hk)
  rw [cast_pow, show ((x : Int) % 128) = ((x % 128 : Nat) : Int) by omega, ← Int.natCast_mul]
  generalize x % 128 * 128 ^ k = D at *
  clear h1 hm hk
  rw [IntWalk.wrap64_in (D : Int) (by omega), ← Int.natCast_add, IntWalk.wrap64_in _ (by omega)]
theorem add_mul8 {m x : Nat} (hm : m < 128 ^ 8) (hx : x < 128) : wrap64 ((m : Int) + (x : Int) % 128 * 72057594037927936) = ((m + x * 128 ^ 8 : Nat) : Int) := by
  have h3 : m < 72057594037927936 := hm
  rw [IntWalk.wrap64_in _ (by omega)]
  omega
theorem by_next {k : Nat} (hk : k < 8) : wrap64 ((128 : Int) ^ k * 128) = ((128 ^ (k + 1) : Nat) : Int) := by
  have h3 : 128 ^ (k + 1) ≤ 72057594037927936 := Nat.pow_le_pow_right (n := 128) (by decide) hk
  rw [cast_pow, show ((128 ^ k : Nat) : Int) * 128 = ((128 ^ (k + 1) : Nat) : Int) by rw [Nat.pow_succ, Int.natCast_mul]; rfl]
  generalize 128 ^ (k + 1) = D at *
  rw [IntWalk.wrap64_in _ (by omega)]
set_option maxRecDepth 100000 in
theorem refUint_any (A : Option Addr) (len cap : Nat) (bs : List Nat) (w : World) (h : Rd w A len bs) :
    Calls Try.prog 32 #[.slice A len cap] w fun e w' => e = .returned (.tuple #[.int .i64 ((refUint bs).1 : Int), .int .i64 ((refUint bs).2.1 : Int), .int .i64 ((refUint bs).2.2 : Int)]) ∧ w = w' := by
  have hm := h.2.1
  unfold maxLen at hm
  have Hr := Lib.hid h
  clear h
  go_enter Try.func32, Try.ntmps32
  go_wp2
  go_loop [5, 6, 11] (fun n b j => ∃ m k : Nat, n = .int .i64 (m : Int) ∧ b = .int .i64 ((128 ^ k : Nat) : Int) ∧ j = .int .i64 (k : Int) ∧ k ≤ len ∧ k ≤ 8 ∧ Hid (m < 128 ^ k) ∧ Hid (num (bs.drop k) k m = num bs 0 0)) (fun _ _ j => 9 - (intOf j).toNat)
  case atStart => exact ⟨0, 0, rfl, rfl, rfl, by omega, by omega, Lib.hid (by decide), Lib.hid rfl⟩
  case round =>
    obtain ⟨m, k, rfl, rfl, rfl, hk, hk8, Hm, HN⟩ := hrel
    by_cases hlt : k < len
    · obtain ⟨b, off, rfl, _, hcb⟩ := Hr.out.2.2.2 (by omega)
      have hx := hcb k hlt
      have hx2 := getD_lt Hr.out.2.2.1 k
      have HD : Hid (bs.drop k = bs.getD k 0 :: bs.drop (k + 1)) := Lib.hid (by
        have hlt' : k < bs.length := by rw [Hr.out.1]; exact hlt
        rw [List.drop_eq_getElem_cons hlt', List.getD_eq_getElem?_getD, List.getElem?_eq_getElem hlt']; rfl)
      clear hcb
      generalize bs.getD k 0 = x at *
      have HA := Lib.hid (add_mul x Hm.out hk8)
      have Hp := Lib.hid (pow128 x Hm.out hk8).1
      by_cases hbig : 128 ≤ x
      · by_cases h8 : k = 8
        · subst h8
          have HE : Hid (refUint bs = (0, 0, 5)) := Lib.hid (by unfold refUint; rw [← HN.out, HD.out, num_range hbig])
          go_wp2
          go_ret3
          rw [HE.out]
          exact ⟨rfl, rfl⟩
        · have HE : Hid (num (bs.drop (k + 1)) (k + 1) (m + x % 128 * 128 ^ k) = num bs 0 0) := Lib.hid (by rw [← HN.out, HD.out, num_more hbig h8])
          have HB := Lib.hid (by_next (k := k) (by omega))
          go_wp2
          go_round
          case rel => exact ⟨m + x % 128 * 128 ^ k, k + 1, by rw [HA.out], by rw [HB.out], by go_num, by omega, by omega, Hp, HE⟩
          case measure => simp [intOf]; omega
      · by_cases hz : 0 < k ∧ x = 0
        · obtain ⟨hk0, rfl⟩ := hz
          have HE : Hid (refUint bs = (0, 0, 10)) := Lib.hid (by unfold refUint; rw [← HN.out, HD.out, num_form hk0])
          go_wp2
          all_goals
            go_ret3
            rw [HE.out]
            exact ⟨rfl, rfl⟩
        · have HE : Hid (refUint bs = (m + x * 128 ^ k, k + 1, 0)) := Lib.hid (by unfold refUint; rw [← HN.out, HD.out, num_end (by omega) hz])
          have hx7 : x % 128 = x := Nat.mod_eq_of_lt (by omega)
          have HA' : Hid (((m + x % 128 * 128 ^ k : Nat) : Int) = ((m + x * 128 ^ k : Nat) : Int)) := Lib.hid (by rw [hx7])
          clear hx7
          by_cases hk0 : 0 < k
          · have hx0 : ((x : Int) == 0) = false := beq_eq_false_iff_ne.2 (by omega)
            clear hz
            by_cases h8 : k = 8
            · subst h8
              go_wp2
              go_ret3
              rw [HE.out]
              exact ⟨three (add_mul8 Hm.out (by omega)) rfl rfl, rfl⟩
            · go_wp2
              go_ret3
              rw [HE.out]
              exact ⟨three (HA.out.trans HA'.out) rfl rfl, rfl⟩
          · obtain rfl : k = 0 := by omega
            clear hz
            have hx' : w.cell? ⟨b, off, none⟩ = some (.int .u8 (x : Int)) := hx
            clear hx
            go_wp2
            all_goals
              go_ret3
              rw [HE.out]
              exact ⟨three (by have hm0 : m < 1 := Hm.out; rw [IntWalk.wrap64_in _ (by omega)]; simp only []; omega) rfl rfl, rfl⟩
    · have HE : Hid (refUint bs = (0, 0, 2)) := Lib.hid (by unfold refUint; rw [← HN.out, List.drop_of_length_le (by rw [Hr.out.1]; omega)]; rfl)
      go_wp2
      go_ret3
      rw [HE.out]
      exact ⟨rfl, rfl⟩
end Go.Proofs.Ythjfogllinboaaa
