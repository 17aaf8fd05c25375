/- The document's Frame. -/
import Derived.Test.YthjfogllinboaaaFrame
namespace Go.Proofs.Ythjfogllinboaaa
open Go.RowKit Go.BL Go.Wr
theorem le4_take (S k : Nat) (hk : k < 4) : (le4 S).take (k + 1) = (le4 S).take k ++ [S / 256 ^ k % 256] := by
  match k, hk with
  | 0, _ => simp [le4]
  | 1, _ => simp [le4]
  | 2, _ => simp [le4]
  | 3, _ => simp [le4]
set_option maxRecDepth 100000 in
theorem frameR_any (A : Option Addr) (m cap : Nat) (bs : List Nat) (w : World) (hr : Rd w A m bs) : Calls Try.prog 30 #[.slice A m cap] w (RetF (frame bs) w) := by
  have hl := hr.1
  subst hl
  have hm := hr.2.1
  unfold maxLen at hm
  have Hr := Lib.hid hr
  clear hr
  by_cases hlong : 65536 < bs.length
  · have HF : Hid (frame bs = ([], 4)) := Lib.hid (if_pos hlong)
    go_enter Try.func30, Try.ntmps30
    go_wp2
    go_ret2
    rw [HF.out]
    exact ⟨none, 0, rfl, Rd.none_, Own.nil _ _, Below.refl _ _⟩
  · have HF : Hid (frame bs = (enc bs.length ++ bs ++ le4 (sum bs), 0)) := Lib.hid (if_neg hlong)
    have hs := sum_lt bs Hr.out.2.2.1
    go_enter Try.func30, Try.ntmps30
    go_wp2_with fail
    refine (putR_any none 0 0 [] (bs.length : Int) _ Rd.none_ (by omega) (by omega)).mono ?_
    rintro e w1 ⟨v, rfl, ho, hb⟩
    rw [List.nil_append, Int.toNat_natCast] at ho
    have Ho := Lib.hid ho
    have Hb := Lib.hid hb
    have He : Hid ((enc bs.length).length ≤ 9) := Lib.hid (enc_len9 (by omega))
    clear ho hb
    go_wp2_with (first
      | (at_builtin; refine wpList_appB rfl (.tmp 11) (.tmp 12) 22 rfl Try.underlying22 info5 rfl Ho.out rfl (Hr.out.below Hb.out (Nat.le_refl _)) (by have := He.out; omega) Hb.out.size ?_; intro v2 w2 ho hb; have Ho2 := Lib.hid ho; have Hb2 := Lib.hid (Hb.out.trans hb); clear ho hb)
      | fail)
    refine (sumR_any A bs.length cap bs _ (Hr.out.below Hb2.out (Nat.le_refl _))).mono ?_
    rintro e w' ⟨rfl, rfl⟩
    generalize sum bs = S at *
    go_wp2
    go_loopw [4, 5, 16] (fun v s i wr => ∃ k X : Nat, k ≤ 4 ∧ i = .int .i64 (k : Int) ∧ s = .int .i64 (X : Int) ∧ Hid (X = S / 256 ^ k) ∧ X < 4294967296 ∧ Hid (Own wr w.heap.size v (enc bs.length ++ bs ++ (le4 S).take k)) ∧ Hid (Below w.heap.size w wr)) (fun _ _ i _ => 4 - (intOf i).toNat)
    case atStart => exact ⟨0, S, by omega, rfl, rfl, Lib.hid (by simp), by omega, Lib.hid (by rw [List.take_zero, List.append_nil]; exact Ho2.out), Hb2⟩
    case round =>
      obtain ⟨k, X, hk, rfl, rfl, HX, hX, Ho3, Hb3⟩ := hrel
      by_cases hlt : k < 4
      · have HT : Hid ((le4 S).take (k + 1) = (le4 S).take k ++ [X % 256]) := Lib.hid (by rw [le4_take S k hlt, HX.out])
        have HX2 : Hid (X / 256 = S / 256 ^ (k + 1)) := Lib.hid (by rw [HX.out, Nat.pow_succ, Nat.div_div_eq_div_mul])
        have Hpl : Hid ((enc bs.length ++ bs ++ (le4 S).take k).length + 1 ≤ 140737488355328) := Lib.hid (by
          have := He.out
          have h4 : ((le4 S).take k).length ≤ 4 := by rw [List.length_take]; exact Nat.le_trans (Nat.min_le_right _ _) (by simp [le4])
          rw [List.length_append, List.length_append]; omega)
        go_wp2_with (at_builtin; refine wpList_appB rfl (.tmp 18) (.tmp 22) 22 rfl Try.underlying22 info5 rfl (Ho3.out.alloc _) rfl (rd_one wr _ (X % 256) rfl (by omega) 5 (0, 0)) Hpl.out (Nat.le_trans Hb3.out.size (by simp)) ?_; intro v4 w4 ho hb; have Ho4 := Lib.hid ho; have Hb4 := Lib.hid ((Hb3.out.alloc Hb3.out.size _).trans hb); clear ho hb)
        go_roundw
        case rel => exact ⟨k + 1, X / 256, by omega, by go_num, by go_num, HX2, by omega, Lib.hid (by have h := Ho4.out; rw [HT.out, ← List.append_assoc]; exact h), Hb4⟩
        case measure => simp [intOf]; omega
      · obtain rfl : k = 4 := by omega
        have Ho4 : Hid (Own wr w.heap.size _ (enc bs.length ++ bs ++ le4 S)) := Ho3
        go_wp2
        go_ret2
        rw [HF.out]
        obtain ⟨A3, c3, e3, hrd⟩ := Ho4.out.rd
        subst e3
        exact ⟨A3, c3, rfl, hrd, Ho4.out, Hb3.out⟩
end Go.Proofs.Ythjfogllinboaaa
