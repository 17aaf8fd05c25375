/- Contracts of Put and Text, the program's and the document's. -/
import Derived.Test.YthjfogllinboaaaRows
import Derived.Test.YthjfogllinboaaaBL
import Derived.Test.YthjfogllinboaaaEnc
import Derived.WalkKit
import Derived.WalkLawsBesides
import Derived.Laws.BitsAllLaws
namespace Go.Proofs.Ythjfogllinboaaa
open Go.RowKit Go.BL Go.Wr

theorem info5 : (Try.prog.info? 5).map (fun i => (i.zero, i.size, i.bytes)) = some (some (.int .u8 0), 1, 1) := by kernel_rfl
theorem or128 (x : Nat) : bits .or .u8 ((x : Int) % 256) 128 = ((x % 128 + 128 : Nat) : Int) := by
  have h := u8_or_nat (x % 256) 128 (by omega) (by omega)
  rw [show (((x % 256 : Nat) : Int)) = (x : Int) % 256 by omega, show ((128 : Nat) : Int) = 128 from rfl] at h
  rw [h]
  have e : x % 256 ||| 128 = x % 128 + 128 := by
    rcases (show x % 256 < 128 ∨ 128 ≤ x % 256 by omega) with h1 | h1
    · rw [Nat.or_comm, nat_join 7 128 _ (by decide) h1]; omega
    · obtain ⟨y, hy⟩ : ∃ y, x % 256 = 128 + y := ⟨x % 256 - 128, by omega⟩
      have hy' : y < 2 ^ 7 := by omega
      rw [hy, ← nat_join 7 128 y (by decide) hy', Nat.or_comm 128 y, Nat.or_assoc, Nat.or_self, Nat.or_comm, nat_join 7 128 y (by decide) hy']; omega
  rw [e]

set_option maxRecDepth 100000 in
theorem put_pos (A : Option Addr) (m cap : Nat) (bs : List Nat) (N : Nat) (w : World) (hr : Rd w A m bs) (hm : m ≤ 140737488355312) (hN : N < 9223372036854775808) (h0 : 0 < N) :
    Calls Try.prog 11 #[.slice A m cap, .int .i64 (N : Int)] w (RetO (bs ++ enc N) w) := by
  have Hr := Lib.hid hr
  have Hn := Lib.hid hN
  have hN' : (N : Int) ≤ 9223372036854775807 := by omega
  clear hr hN
  go_enter Try.func11, Try.ntmps11
  go_wp2_with (at_builtin; refine wpList_appB rfl (.const (.slice none 0 0)) (.tmp 7) 22 rfl Try.underlying22 info5 rfl (Own.nil w w.heap.size) rfl Hr.out (by simp; omega) (Nat.le_refl _) ?_; intro v w1 ho hb; have Ho := Lib.hid ho; have Hb := Lib.hid hb; clear ho hb)
  go_loopw [5, 6] (fun v i wr => ∃ (x : Nat) (pre : List Nat), Hid (x < 9223372036854775808) ∧ i = .int .u64 x ∧ Hid (pre ++ enc x = enc N) ∧ Hid (Own wr w.heap.size v (bs ++ pre)) ∧ Hid (Below w.heap.size w wr)) (fun _ i _ => (intOf i).toNat)
  case atStart => exact ⟨N, [], Hn, rfl, Lib.hid rfl, Lib.hid (by have := Ho.out; rwa [List.nil_append, ← List.append_nil bs] at this), Hb⟩
  case round =>
    obtain ⟨x, pre, hx, rfl, He, Ho1, Hb1⟩ := hrel
    by_cases hlt : x < 128
    · have Hpl : Hid ((bs ++ pre).length + 1 ≤ 140737488355328) := Lib.hid (by
        have h1 := congrArg List.length He.out
        have h2 := enc_len9 Hn.out
        have h3 := Hr.out.1
        rw [List.length_append, enc_small hlt] at h1
        simp at h1
        rw [List.length_append]; omega)
      have Hv : Hid (enc N = pre ++ [x]) := Lib.hid (by rw [← He.out, enc_small hlt])
      go_wp2_with (at_builtin; refine wpList_appB rfl (.tmp 22) (.tmp 25) 22 rfl Try.underlying22 info5 rfl (Ho1.out.alloc _) rfl (rd_one wr _ x rfl (by omega) 5 (0, 0)) Hpl.out (Nat.le_trans Hb1.out.size (by simp)) ?_; intro v2 w2 ho2 hb2; have Ho2 := Lib.hid ho2; have Hb2 := Lib.hid hb2; clear ho2 hb2)
      go_ret
      refine ⟨_, rfl, ?_, (Hb1.out.alloc Hb1.out.size _).trans Hb2.out⟩
      rw [Hv.out, ← List.append_assoc]; exact Ho2.out
    · have Hpl : Hid ((bs ++ pre).length + 1 ≤ 140737488355328) := Lib.hid (by
        have h1 := congrArg List.length He.out
        have h2 := enc_len9 Hn.out
        have h3 := Hr.out.1
        rw [List.length_append, enc_big hlt, List.length_cons] at h1
        rw [List.length_append]; omega)
      have Hv : Hid ((pre ++ [x % 128 + 128]) ++ enc (x / 128) = enc N) := Lib.hid (by rw [← He.out, enc_big hlt, List.append_assoc]; rfl)
      have h128 := or128 x
      go_wp2_with (at_builtin; refine wpList_appB rfl (.tmp 14) (.tmp 18) 22 rfl Try.underlying22 info5 rfl (Ho1.out.alloc _) rfl (rd_one wr _ (x % 128 + 128) rfl (by omega) 5 (0, 0)) Hpl.out (Nat.le_trans Hb1.out.size (by simp)) ?_; intro v2 w2 ho2 hb2; have Ho2 := Lib.hid ho2; have Hb2 := Lib.hid hb2; clear ho2 hb2)
      go_roundw
      case rel => exact ⟨x / 128, pre ++ [x % 128 + 128], Lib.hid (by have := hx.out; omega), by go_num, Hv, Lib.hid (by rw [← List.append_assoc]; exact Ho2.out), Lib.hid ((Hb1.out.alloc Hb1.out.size _).trans Hb2.out)⟩
      case measure => simp [intOf]; omega
set_option maxRecDepth 100000 in
theorem put_neg (A : Option Addr) (m cap : Nat) (bs : List Nat) (n : Int) (N : Nat) (w : World) (hr : Rd w A m bs) (hm : m ≤ 140737488355312) (hN : N < 9223372036854775808) (h0 : N = 0) (hn : n < 0) :
    Calls Try.prog 11 #[.slice A m cap, .int .i64 n] w (RetO (bs ++ enc N) w) := by
  have H0 := Lib.hid h0
  clear h0
  have Hr := Lib.hid hr
  have Hn := Lib.hid hN
  have hN' : (N : Int) ≤ 9223372036854775807 := by omega
  clear hr hN
  go_enter Try.func11, Try.ntmps11
  go_wp2_with (at_builtin; refine wpList_appB rfl (.const (.slice none 0 0)) (.tmp 7) 22 rfl Try.underlying22 info5 rfl (Own.nil w w.heap.size) rfl Hr.out (by simp; omega) (Nat.le_refl _) ?_; intro v w1 ho hb; have Ho := Lib.hid ho; have Hb := Lib.hid hb; clear ho hb)
  go_loopw [5, 6] (fun v i wr => ∃ (x : Nat) (pre : List Nat), Hid (x < 9223372036854775808) ∧ i = .int .u64 x ∧ Hid (pre ++ enc x = enc N) ∧ Hid (Own wr w.heap.size v (bs ++ pre)) ∧ Hid (Below w.heap.size w wr)) (fun _ i _ => (intOf i).toNat)
  case atStart => exact ⟨N, [], Hn, by rw [H0.out]; rfl, Lib.hid rfl, Lib.hid (by have := Ho.out; rwa [List.nil_append, ← List.append_nil bs] at this), Hb⟩
  case round =>
    obtain ⟨x, pre, hx, rfl, He, Ho1, Hb1⟩ := hrel
    by_cases hlt : x < 128
    · have Hpl : Hid ((bs ++ pre).length + 1 ≤ 140737488355328) := Lib.hid (by
        have h1 := congrArg List.length He.out
        have h2 := enc_len9 Hn.out
        have h3 := Hr.out.1
        rw [List.length_append, enc_small hlt] at h1
        simp at h1
        rw [List.length_append]; omega)
      have Hv : Hid (enc N = pre ++ [x]) := Lib.hid (by rw [← He.out, enc_small hlt])
      go_wp2_with (at_builtin; refine wpList_appB rfl (.tmp 22) (.tmp 25) 22 rfl Try.underlying22 info5 rfl (Ho1.out.alloc _) rfl (rd_one wr _ x rfl (by omega) 5 (0, 0)) Hpl.out (Nat.le_trans Hb1.out.size (by simp)) ?_; intro v2 w2 ho2 hb2; have Ho2 := Lib.hid ho2; have Hb2 := Lib.hid hb2; clear ho2 hb2)
      go_ret
      refine ⟨_, rfl, ?_, (Hb1.out.alloc Hb1.out.size _).trans Hb2.out⟩
      rw [Hv.out, ← List.append_assoc]; exact Ho2.out
    · have Hpl : Hid ((bs ++ pre).length + 1 ≤ 140737488355328) := Lib.hid (by
        have h1 := congrArg List.length He.out
        have h2 := enc_len9 Hn.out
        have h3 := Hr.out.1
        rw [List.length_append, enc_big hlt, List.length_cons] at h1
        rw [List.length_append]; omega)
      have Hv : Hid ((pre ++ [x % 128 + 128]) ++ enc (x / 128) = enc N) := Lib.hid (by rw [← He.out, enc_big hlt, List.append_assoc]; rfl)
      have h128 := or128 x
      go_wp2_with (at_builtin; refine wpList_appB rfl (.tmp 14) (.tmp 18) 22 rfl Try.underlying22 info5 rfl (Ho1.out.alloc _) rfl (rd_one wr _ (x % 128 + 128) rfl (by omega) 5 (0, 0)) Hpl.out (Nat.le_trans Hb1.out.size (by simp)) ?_; intro v2 w2 ho2 hb2; have Ho2 := Lib.hid ho2; have Hb2 := Lib.hid hb2; clear ho2 hb2)
      go_roundw
      case rel => exact ⟨x / 128, pre ++ [x % 128 + 128], Lib.hid (by have := hx.out; omega), by go_num, Hv, Lib.hid (by rw [← List.append_assoc]; exact Ho2.out), Lib.hid ((Hb1.out.alloc Hb1.out.size _).trans Hb2.out)⟩
      case measure => simp [intOf]; omega
set_option maxRecDepth 100000 in
theorem put_zero (A : Option Addr) (m cap : Nat) (bs : List Nat) (N : Nat) (w : World) (hr : Rd w A m bs) (hm : m ≤ 140737488355312) (hN : N < 9223372036854775808) (h0 : N = 0) :
    Calls Try.prog 11 #[.slice A m cap, .int .i64 0] w (RetO (bs ++ enc N) w) := by
  have H0 := Lib.hid h0
  clear h0
  have Hr := Lib.hid hr
  have Hn := Lib.hid hN
  have hN' : (N : Int) ≤ 9223372036854775807 := by omega
  clear hr hN
  go_enter Try.func11, Try.ntmps11
  go_wp2_with (at_builtin; refine wpList_appB rfl (.const (.slice none 0 0)) (.tmp 7) 22 rfl Try.underlying22 info5 rfl (Own.nil w w.heap.size) rfl Hr.out (by simp; omega) (Nat.le_refl _) ?_; intro v w1 ho hb; have Ho := Lib.hid ho; have Hb := Lib.hid hb; clear ho hb)
  go_loopw [5, 6] (fun v i wr => ∃ (x : Nat) (pre : List Nat), Hid (x < 9223372036854775808) ∧ i = .int .u64 x ∧ Hid (pre ++ enc x = enc N) ∧ Hid (Own wr w.heap.size v (bs ++ pre)) ∧ Hid (Below w.heap.size w wr)) (fun _ i _ => (intOf i).toNat)
  case atStart => exact ⟨N, [], Hn, by rw [H0.out]; rfl, Lib.hid rfl, Lib.hid (by have := Ho.out; rwa [List.nil_append, ← List.append_nil bs] at this), Hb⟩
  case round =>
    obtain ⟨x, pre, hx, rfl, He, Ho1, Hb1⟩ := hrel
    by_cases hlt : x < 128
    · have Hpl : Hid ((bs ++ pre).length + 1 ≤ 140737488355328) := Lib.hid (by
        have h1 := congrArg List.length He.out
        have h2 := enc_len9 Hn.out
        have h3 := Hr.out.1
        rw [List.length_append, enc_small hlt] at h1
        simp at h1
        rw [List.length_append]; omega)
      have Hv : Hid (enc N = pre ++ [x]) := Lib.hid (by rw [← He.out, enc_small hlt])
      go_wp2_with (at_builtin; refine wpList_appB rfl (.tmp 22) (.tmp 25) 22 rfl Try.underlying22 info5 rfl (Ho1.out.alloc _) rfl (rd_one wr _ x rfl (by omega) 5 (0, 0)) Hpl.out (Nat.le_trans Hb1.out.size (by simp)) ?_; intro v2 w2 ho2 hb2; have Ho2 := Lib.hid ho2; have Hb2 := Lib.hid hb2; clear ho2 hb2)
      go_ret
      refine ⟨_, rfl, ?_, (Hb1.out.alloc Hb1.out.size _).trans Hb2.out⟩
      rw [Hv.out, ← List.append_assoc]; exact Ho2.out
    · have Hpl : Hid ((bs ++ pre).length + 1 ≤ 140737488355328) := Lib.hid (by
        have h1 := congrArg List.length He.out
        have h2 := enc_len9 Hn.out
        have h3 := Hr.out.1
        rw [List.length_append, enc_big hlt, List.length_cons] at h1
        rw [List.length_append]; omega)
      have Hv : Hid ((pre ++ [x % 128 + 128]) ++ enc (x / 128) = enc N) := Lib.hid (by rw [← He.out, enc_big hlt, List.append_assoc]; rfl)
      have h128 := or128 x
      go_wp2_with (at_builtin; refine wpList_appB rfl (.tmp 14) (.tmp 18) 22 rfl Try.underlying22 info5 rfl (Ho1.out.alloc _) rfl (rd_one wr _ (x % 128 + 128) rfl (by omega) 5 (0, 0)) Hpl.out (Nat.le_trans Hb1.out.size (by simp)) ?_; intro v2 w2 ho2 hb2; have Ho2 := Lib.hid ho2; have Hb2 := Lib.hid hb2; clear ho2 hb2)
      go_roundw
      case rel => exact ⟨x / 128, pre ++ [x % 128 + 128], Lib.hid (by have := hx.out; omega), by go_num, Hv, Lib.hid (by rw [← List.append_assoc]; exact Ho2.out), Lib.hid ((Hb1.out.alloc Hb1.out.size _).trans Hb2.out)⟩
      case measure => simp [intOf]; omega

theorem put_any (A : Option Addr) (m cap : Nat) (bs : List Nat) (n : Int) (w : World) (hr : Rd w A m bs) (hm : m ≤ 140737488355312) (hn : n ≤ 9223372036854775807) :
    Calls Try.prog 11 #[.slice A m cap, .int .i64 n] w (RetO (bs ++ enc n.toNat) w) := by
  rcases Int.lt_trichotomy n 0 with h | h | h
  · exact put_neg A m cap bs n n.toNat w hr hm (by omega) (by omega) h
  · subst h; exact put_zero A m cap bs _ w hr hm (by decide) rfl
  · obtain ⟨k, rfl⟩ := Int.eq_ofNat_of_zero_le (Int.le_of_lt h)
    rw [Int.toNat_natCast]
    exact put_pos A m cap bs k w hr hm (by omega) (by omega)
end Go.Proofs.Ythjfogllinboaaa
