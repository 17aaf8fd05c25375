/- The reader's number: the plain one. -/
import Derived.Test.YthjfogllinboaaaRdr
import Derived.Test.YthjfogllinboaaaNum
import Derived.Test.YthjfogllinboaaaTry
import Derived.Test.YthjfogllinboaaaCrc
namespace Go.Proofs.Ythjfogllinboaaa
open Go.RowKit Go.BL Go.Wr
/-- What a number's reading leaves. -/
def RetN (r : Got) (B g : Nat) (bs : List Nat) (i : Nat) (w : World) (e : Ending) (w' : World) : Prop :=
  match r with
  | .bad c => e = .panicked [{ v := .iface 33 (.int .i64 (c : Int)), recovered := false }] ∧ Rdr w' B g bs i ∧ Kept [g] w w'
  | .got n k => e = .returned (.int .i64 (n : Int)) ∧ Rdr w' B g bs (i + k) ∧ Kept [g] w w'
theorem pow128 {m k : Nat} (x : Nat) (hm : m < 128 ^ k) (hk : k ≤ 8) : m + x % 128 * 128 ^ k < 128 ^ (k + 1) ∧ x % 128 * 128 ^ k ≤ 9151314442816847872 := by
  have h1 : x % 128 < 128 := Nat.mod_lt _ (by decide)
  have h2 : 128 ^ k ≤ 128 ^ 8 := Nat.pow_le_pow_right (by decide) hk
  have h3 : x % 128 * 128 ^ k ≤ 127 * 128 ^ k := Nat.mul_le_mul_right _ (by omega)
  rw [Nat.pow_succ]
  omega
theorem or_shl {m k x : Nat} (hm : m < 128 ^ k) (hk : k ≤ 8) (hx : x < 256) :
    bits .or .i64 (m : Int) (wrap64 (bits .and .i64 (x : Int) 127 * 2 ^ (7 * k))) = ((m + x % 128 * 128 ^ k : Nat) : Int) := by
  obtain ⟨h1, h2⟩ := pow128 x hm hk
  have ha := i64_and_nat x 127 (by omega) (by decide)
  rw [show ((127 : Nat) : Int) = 127 from rfl, show (127 : Nat) = 2 ^ 7 - 1 from rfl, Nat.and_two_pow_sub_one_eq_mod] at ha
  rw [show x % 2 ^ 7 = x % 128 from rfl] at ha
  have hp : (2 : Nat) ^ (7 * k) = 128 ^ k := by rw [Nat.pow_mul]
  have hp' : ((2 : Int) ^ (7 * k)) = ((128 ^ k : Nat) : Int) := by rw [← hp]; simp
  rw [ha, hp', ← Int.natCast_mul, IntWalk.wrap64_in _ (by omega)]
  have h4 : m < 128 ^ 8 := Nat.lt_of_lt_of_le hm (Nat.pow_le_pow_right (by decide) hk)
  rw [i64_or_nat m _ (by omega) (by omega)]
  congr 1
  rw [Nat.or_comm, ← hp, Nat.mul_comm]
  rw [← Nat.two_pow_add_eq_or_of_lt (by rw [hp]; exact hm)]
  omega
theorem or_end {m k x : Nat} (hm : m < 128 ^ k) (hk : k ≤ 8) (hx : x < 128) :
    bits .or .i64 (m : Int) (wrap64 (bits .and .i64 (x : Int) 127 * 2 ^ (7 * k))) = ((m + x * 128 ^ k : Nat) : Int) := by
  rw [or_shl hm hk (by omega), Nat.mod_eq_of_lt hx]
set_option maxRecDepth 100000 in
theorem number_any (B g : Nat) (bs : List Nat) (i : Nat) (w : World) (h : Rdr w B g bs i) : Calls Try.prog 35 #[.pointer (some ⟨g, 0, none⟩)] w (RetN (num (bs.drop i) 0 0) B g bs i w) := by
  obtain ⟨G, c, h0, h1, h2, h3, hr, _⟩ := h.cells
  have hi : (i : Int) ≤ (bs.length : Int) := by have := h.le; omega
  have hm := hr.2.1
  unfold maxLen at hm
  have Hr := Lib.hid hr
  have H := Lib.hid h
  clear hr h
  go_enter Try.func35, Try.ntmps35
  go_wp2
  go_quiet (fail)
  go_wp2
  go_loop [3, 4, 5] (fun n a j => ∃ m k : Nat, n = .int .i64 (m : Int) ∧ a = .int .i64 ((i + k : Nat) : Int) ∧ j = .int .i64 (k : Int) ∧ i + k ≤ bs.length ∧ k ≤ 8 ∧ Hid (m < 128 ^ k) ∧ Hid (num (bs.drop (i + k)) k m = num (bs.drop i) 0 0)) (fun _ _ j => 9 - (intOf j).toNat)
  case atStart => exact ⟨0, 0, rfl, rfl, rfl, by omega, by omega, Lib.hid (by decide), Lib.hid rfl⟩
  case round =>
    obtain ⟨m, k, rfl, rfl, rfl, hk, hk8, Hm, HN⟩ := hrel
    by_cases hend : i + k = bs.length
    · have HE : Hid (num (bs.drop i) 0 0 = .bad 2) := Lib.hid (by rw [← HN.out, List.drop_of_length_le (by omega)]; rfl)
      have hei : ((i + k : Nat) : Int) = (bs.length : Int) := by omega
      go_wp2_with fail
      refine (cut_any 2 _).mono ?_
      rintro e w' ⟨rfl, rfl⟩
      go_wp2
      exact ⟨rfl, by rw [HE.out]; exact ⟨rfl, H.out.drewN _, (Kept.refl _ w).drewN _⟩⟩
    · have hlt : i + k < bs.length := by omega
      have hne : ((i + k : Nat) : Int) ≠ (bs.length : Int) := by omega
      obtain ⟨b, off, rfl, _, hcb⟩ := Hr.out.2.2.2 (by omega)
      have hx := hcb (i + k) hlt
      have hx2 := getD_lt Hr.out.2.2.1 (i + k)
      have HD : Hid (bs.drop (i + k) = bs.getD (i + k) 0 :: bs.drop (i + (k + 1))) := Lib.hid (by
        rw [List.drop_eq_getElem_cons hlt, List.getD_eq_getElem?_getD, List.getElem?_eq_getElem hlt]; rfl)
      clear hcb
      generalize bs.getD (i + k) 0 = x at *
      by_cases hbig : 128 ≤ x
      · by_cases h8 : k = 8
        · subst h8
          have HE : Hid (num (bs.drop i) 0 0 = .bad 5) := Lib.hid (by rw [← HN.out, HD.out, num_range hbig])
          go_wp2_with fail
          refine (cut_any 5 _).mono ?_
          rintro e w' ⟨rfl, rfl⟩
          go_wp2
          exact ⟨rfl, by rw [HE.out]; exact ⟨rfl, H.out.drewN _, (Kept.refl _ w).drewN _⟩⟩
        · have Hs : Hid (bits .or .i64 (m : Int) (wrap64 (bits .and .i64 (x : Int) 127 * 2 ^ (7 * k))) = ((m + x % 128 * 128 ^ k : Nat) : Int)) := Lib.hid (or_shl Hm.out hk8 hx2)
          have Hp : Hid (m + x % 128 * 128 ^ k < 128 ^ (k + 1)) := Lib.hid (pow128 x Hm.out hk8).1
          have HE : Hid (num (bs.drop (i + (k + 1))) (k + 1) (m + x % 128 * 128 ^ k) = num (bs.drop i) 0 0) := Lib.hid (by rw [← HN.out, HD.out, num_more hbig h8])
          go_wp2
          go_round
          case rel => exact ⟨m + x % 128 * 128 ^ k, k + 1, by rw [Hs.out], by go_num, by go_num, by omega, by omega, Hp, HE⟩
          case measure => simp [intOf]; omega
      · have Hs : Hid (bits .or .i64 (m : Int) (wrap64 (bits .and .i64 (x : Int) 127 * 2 ^ (7 * k))) = ((m + x * 128 ^ k : Nat) : Int)) := Lib.hid (or_end Hm.out hk8 (by omega))
        by_cases hz : 0 < k ∧ x = 0
        · obtain ⟨hk0, rfl⟩ := hz
          have HE : Hid (num (bs.drop i) 0 0 = .bad 10) := Lib.hid (by rw [← HN.out, HD.out, num_form hk0])
          go_wp2_with fail
          all_goals
            refine (cut_any 10 _).mono ?_
            rintro e w' ⟨rfl, rfl⟩
            go_wp2
            exact ⟨rfl, by rw [HE.out]; exact ⟨rfl, H.out.drewN _, (Kept.refl _ w).drewN _⟩⟩
        · have HE : Hid (num (bs.drop i) 0 0 = .got (m + x * 128 ^ k) (k + 1)) := Lib.hid (by rw [← HN.out, HD.out, num_end (by omega) hz])
          by_cases hk0 : 0 < k
          · have hx0 : ((x : Int) == 0) = false := beq_eq_false_iff_ne.2 (by omega)
            clear hz
            by_cases h8 : k = 8
            · subst h8
              have Hs8 : Hid (bits .or .i64 (m : Int) (wrap64 (bits .and .i64 (x : Int) 127 * 72057594037927936)) = ((m + x * 128 ^ 8 : Nat) : Int)) := Hs
              go_wp2
              go_ret
              rw [HE.out]
              exact ⟨by rw [← Hs8.out]; rfl, (H.out.drewN nq).to (i + (8 + 1)) (by omega), ((Kept.refl _ w).drewN nq).setCell (.inl (by simp)) _⟩
            · go_wp2
              go_ret
              rw [HE.out]
              exact ⟨by rw [← Hs.out]; rfl, (H.out.drewN nq).to (i + (k + 1)) (by omega), ((Kept.refl _ w).drewN nq).setCell (.inl (by simp)) _⟩
          · obtain rfl : k = 0 := by omega
            clear hz
            have hx' : w.cell? ⟨b, off + i, none⟩ = some (.int .u8 (x : Int)) := hx
            clear hx
            go_wp2
            go_ret
            rw [HE.out]
            have Hs0 : Hid (bits .or .i64 (m : Int) (wrap64 (bits .and .i64 (x : Int) 127)) = ((m + x * 128 ^ 0 : Nat) : Int)) := Lib.hid (by have := Hs.out; simpa using this)
            exact ⟨by rw [← Hs0.out]; rfl, (H.out.drewN nq).to (i + (0 + 1)) (by omega), ((Kept.refl _ w).drewN nq).setCell (.inl (by simp)) _⟩
end Go.Proofs.Ythjfogllinboaaa
