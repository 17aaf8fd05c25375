/- More words on memory, of no program: an own row written cell by cell; results that are slices. Contracts of Put and Text, the program's and the document's. Contracts of the document's Put and of both  -/
import Derived.Test.YtpdedfpacklnoaaGreatDoorTzMH
import Derived.Laws.BitsAllLaws
import Derived.Test.YtpdedfpacklnoaaGreatDoorRows
import Derived.Test.YtpdedfpacklnoaaGreatDoorTzMV
import Derived.WalkKit
import Derived.WalkLawsBesides
namespace Go.BL
set_option maxRecDepth 100000
open Go.RowKit

theorem Own.only {w w' : World} {B g : Nat} {v : Value} {bs : List Nat} (h : Own w B v bs) (hg : w.grownBy w' (some g)) (hne : v.ownBlock ≠ some g) : Own w' B v bs :=
 ⟨h.1.kept hg (.inr hne), h.2⟩
theorem Own.lt {w : World} {B : Nat} {v : Value} {bs : List Nat} (h : Own w B v bs) : ∀ k, v.ownBlock = some k → k < w.heap.size := by
 intro k hk
 rcases h.1.2 with ⟨rfl, _⟩ | ⟨g, cap', cur, rfl, hg, hh, _⟩
 ·cases hk
 ·simp only [Value.ownBlock, Option.some.injEq] at hk
  subst hk
  rcases Nat.lt_or_ge g w.heap.size with h' | h'
  ·exact h'
  ·rw [Array.getElem?_eq_none h'] at hh; cases hh
end Go.BL
namespace Go.Proofs.YtpdedfpacklnoaaGreatDoor.W
set_option maxRecDepth 100000
open Go.RowKit Go.BL Go.Wr

theorem info5 : (Tryz.prog.info? 5).map (fun i => (i.zero, i.size, i.bytes)) = some (some (.int .u8 0), 1, 1) := by kernel_rfl
theorem or128 (x : Nat) : bits .or .u8 ((x : Int) % 256) 128 = ((x % 128 + 128 : Nat) : Int) := by
 have h := u8_or_nat (x % 256) 128 (by omega) (by omega)
 rw [show (((x % 256 : Nat) : Int)) = (x : Int) % 256 by omega, show ((128 : Nat) : Int) = 128 from rfl] at h
 rw [h]
 have e : x % 256 ||| 128 = x % 128 + 128 := by
  rcases (show x % 256 < 128 ∨ 128 ≤ x % 256 by omega) with h1 | h1
  ·rw [Nat.or_comm, nat_join 7 128 _ (by decide) h1]; omega
  ·obtain ⟨y, hy⟩ : ∃ y, x % 256 = 128 + y := ⟨x % 256 - 128, by omega⟩
   have hy' : y < 2 ^ 7 := by omega
   rw [hy, ← nat_join 7 128 y (by decide) hy', Nat.or_comm 128 y, Nat.or_assoc, Nat.or_self, Nat.or_comm, nat_join 7 128 y (by decide) hy']; omega
 rw [e]

set_option maxRecDepth 100000 in
theorem put_pos (A : Option Addr) (m cap : Nat) (bs : List Nat) (N : Nat) (w : World) (hr : Rd w A m bs) (hm : m ≤ 140737488355312) (hN : N < 9223372036854775808) (h0 : 0 < N) :
  Calls Tryz.prog 160 #[.slice A m cap, .int .i64 (N : Int)] w (RetO (bs ++ enc N) w) := by
 have Hr := Lib.hid hr
 have Hn := Lib.hid hN
 have hN' : (N : Int) ≤ 9223372036854775807 := by omega
 clear hr hN
 go_enter Tryz.func160, Tryz.ntmps160
 go_wp2_with (at_builtin; refine wpList_appB rfl (.const (.slice none 0 0)) (.tmp 7) 75 rfl Tryz.underlying75 info5 rfl (Own.nil w w.heap.size) rfl Hr.out (by simp; omega) (Nat.le_refl _) ?_; intro v w1 ho hb; have Ho := Lib.hid ho; have Hb := Lib.hid hb; clear ho hb)
 go_loopw [5, 6] (fun v i wr => ∃ (x : Nat) (pre : List Nat), Hid (x < 9223372036854775808) ∧ i = .int .u64 x ∧ Hid (pre ++ enc x = enc N) ∧ Hid (Own wr w.heap.size v (bs ++ pre)) ∧ Hid (Below w.heap.size w wr)) (fun _ i _ => (intOf i).toNat)
 case atStart => exact ⟨N, [], Hn, rfl, Lib.hid rfl, Lib.hid (by have := Ho.out; rwa [List.nil_append, ← List.append_nil bs] at this), Hb⟩
 case round =>
  obtain ⟨x, pre, hx, rfl, He, Ho1, Hb1⟩ := hrel
  by_cases hlt : x < 128
  ·have Hpl : Hid ((bs ++ pre).length + 1 ≤ 140737488355328) := Lib.hid (by
    have h1 := congrArg List.length He.out
    have h2 := enc_len9 Hn.out
    have h3 := Hr.out.1
    rw [List.length_append, enc_small hlt] at h1
    simp at h1
    rw [List.length_append]; omega)
   have Hv : Hid (enc N = pre ++ [x]) := Lib.hid (by rw [← He.out, enc_small hlt])
   go_wp2_with (at_builtin; refine wpList_appB rfl (.tmp 22) (.tmp 25) 75 rfl Tryz.underlying75 info5 rfl (Ho1.out.alloc _) rfl (rd_one wr _ x rfl (by omega) 5 (0, 0)) Hpl.out (Nat.le_trans Hb1.out.size (by simp)) ?_; intro v2 w2 ho2 hb2; have Ho2 := Lib.hid ho2; have Hb2 := Lib.hid hb2; clear ho2 hb2)
   go_ret
   refine ⟨_, rfl, ?_, (Hb1.out.alloc Hb1.out.size _).trans Hb2.out⟩
   rw [Hv.out, ← List.append_assoc]; exact Ho2.out
  ·have Hpl : Hid ((bs ++ pre).length + 1 ≤ 140737488355328) := Lib.hid (by
    have h1 := congrArg List.length He.out
    have h2 := enc_len9 Hn.out
    have h3 := Hr.out.1
    rw [List.length_append, enc_big hlt, List.length_cons] at h1
    rw [List.length_append]; omega)
   have Hv : Hid ((pre ++ [x % 128 + 128]) ++ enc (x / 128) = enc N) := Lib.hid (by rw [← He.out, enc_big hlt, List.append_assoc]; rfl)
   have h128 := or128 x
   go_wp2_with (at_builtin; refine wpList_appB rfl (.tmp 14) (.tmp 18) 75 rfl Tryz.underlying75 info5 rfl (Ho1.out.alloc _) rfl (rd_one wr _ (x % 128 + 128) rfl (by omega) 5 (0, 0)) Hpl.out (Nat.le_trans Hb1.out.size (by simp)) ?_; intro v2 w2 ho2 hb2; have Ho2 := Lib.hid ho2; have Hb2 := Lib.hid hb2; clear ho2 hb2)
   go_roundw
   case rel => exact ⟨x / 128, pre ++ [x % 128 + 128], Lib.hid (by have := hx.out; omega), by go_num, Hv, Lib.hid (by rw [← List.append_assoc]; exact Ho2.out), Lib.hid ((Hb1.out.alloc Hb1.out.size _).trans Hb2.out)⟩
   case measure => simp [intOf]; omega
set_option maxRecDepth 100000 in
theorem put_neg (A : Option Addr) (m cap : Nat) (bs : List Nat) (n : Int) (N : Nat) (w : World) (hr : Rd w A m bs) (hm : m ≤ 140737488355312) (hN : N < 9223372036854775808) (h0 : N = 0) (hn : n < 0) :
  Calls Tryz.prog 160 #[.slice A m cap, .int .i64 n] w (RetO (bs ++ enc N) w) := by
 have H0 := Lib.hid h0
 clear h0
 have Hr := Lib.hid hr
 have Hn := Lib.hid hN
 have hN' : (N : Int) ≤ 9223372036854775807 := by omega
 clear hr hN
 go_enter Tryz.func160, Tryz.ntmps160
 go_wp2_with (at_builtin; refine wpList_appB rfl (.const (.slice none 0 0)) (.tmp 7) 75 rfl Tryz.underlying75 info5 rfl (Own.nil w w.heap.size) rfl Hr.out (by simp; omega) (Nat.le_refl _) ?_; intro v w1 ho hb; have Ho := Lib.hid ho; have Hb := Lib.hid hb; clear ho hb)
 go_loopw [5, 6] (fun v i wr => ∃ (x : Nat) (pre : List Nat), Hid (x < 9223372036854775808) ∧ i = .int .u64 x ∧ Hid (pre ++ enc x = enc N) ∧ Hid (Own wr w.heap.size v (bs ++ pre)) ∧ Hid (Below w.heap.size w wr)) (fun _ i _ => (intOf i).toNat)
 case atStart => exact ⟨N, [], Hn, by rw [H0.out]; first | rfl | (rw [Int.max_eq_right (by omega)]; rfl), Lib.hid rfl, Lib.hid (by have := Ho.out; rwa [List.nil_append, ← List.append_nil bs] at this), Hb⟩
 case round =>
  obtain ⟨x, pre, hx, rfl, He, Ho1, Hb1⟩ := hrel
  by_cases hlt : x < 128
  ·have Hpl : Hid ((bs ++ pre).length + 1 ≤ 140737488355328) := Lib.hid (by
    have h1 := congrArg List.length He.out
    have h2 := enc_len9 Hn.out
    have h3 := Hr.out.1
    rw [List.length_append, enc_small hlt] at h1
    simp at h1
    rw [List.length_append]; omega)
   have Hv : Hid (enc N = pre ++ [x]) := Lib.hid (by rw [← He.out, enc_small hlt])
   go_wp2_with (at_builtin; refine wpList_appB rfl (.tmp 22) (.tmp 25) 75 rfl Tryz.underlying75 info5 rfl (Ho1.out.alloc _) rfl (rd_one wr _ x rfl (by omega) 5 (0, 0)) Hpl.out (Nat.le_trans Hb1.out.size (by simp)) ?_; intro v2 w2 ho2 hb2; have Ho2 := Lib.hid ho2; have Hb2 := Lib.hid hb2; clear ho2 hb2)
   go_ret
   refine ⟨_, rfl, ?_, (Hb1.out.alloc Hb1.out.size _).trans Hb2.out⟩
   rw [Hv.out, ← List.append_assoc]; exact Ho2.out
  ·have Hpl : Hid ((bs ++ pre).length + 1 ≤ 140737488355328) := Lib.hid (by
    have h1 := congrArg List.length He.out
    have h2 := enc_len9 Hn.out
    have h3 := Hr.out.1
    rw [List.length_append, enc_big hlt, List.length_cons] at h1
    rw [List.length_append]; omega)
   have Hv : Hid ((pre ++ [x % 128 + 128]) ++ enc (x / 128) = enc N) := Lib.hid (by rw [← He.out, enc_big hlt, List.append_assoc]; rfl)
   have h128 := or128 x
   go_wp2_with (at_builtin; refine wpList_appB rfl (.tmp 14) (.tmp 18) 75 rfl Tryz.underlying75 info5 rfl (Ho1.out.alloc _) rfl (rd_one wr _ (x % 128 + 128) rfl (by omega) 5 (0, 0)) Hpl.out (Nat.le_trans Hb1.out.size (by simp)) ?_; intro v2 w2 ho2 hb2; have Ho2 := Lib.hid ho2; have Hb2 := Lib.hid hb2; clear ho2 hb2)
   go_roundw
   case rel => exact ⟨x / 128, pre ++ [x % 128 + 128], Lib.hid (by have := hx.out; omega), by go_num, Hv, Lib.hid (by rw [← List.append_assoc]; exact Ho2.out), Lib.hid ((Hb1.out.alloc Hb1.out.size _).trans Hb2.out)⟩
   case measure => simp [intOf]; omega
set_option maxRecDepth 100000 in
theorem put_zero (A : Option Addr) (m cap : Nat) (bs : List Nat) (N : Nat) (w : World) (hr : Rd w A m bs) (hm : m ≤ 140737488355312) (hN : N < 9223372036854775808) (h0 : N = 0) :
  Calls Tryz.prog 160 #[.slice A m cap, .int .i64 0] w (RetO (bs ++ enc N) w) := by
 have H0 := Lib.hid h0
 clear h0
 have Hr := Lib.hid hr
 have Hn := Lib.hid hN
 have hN' : (N : Int) ≤ 9223372036854775807 := by omega
 clear hr hN
 go_enter Tryz.func160, Tryz.ntmps160
 go_wp2_with (at_builtin; refine wpList_appB rfl (.const (.slice none 0 0)) (.tmp 7) 75 rfl Tryz.underlying75 info5 rfl (Own.nil w w.heap.size) rfl Hr.out (by simp; omega) (Nat.le_refl _) ?_; intro v w1 ho hb; have Ho := Lib.hid ho; have Hb := Lib.hid hb; clear ho hb)
 go_loopw [5, 6] (fun v i wr => ∃ (x : Nat) (pre : List Nat), Hid (x < 9223372036854775808) ∧ i = .int .u64 x ∧ Hid (pre ++ enc x = enc N) ∧ Hid (Own wr w.heap.size v (bs ++ pre)) ∧ Hid (Below w.heap.size w wr)) (fun _ i _ => (intOf i).toNat)
 case atStart => exact ⟨N, [], Hn, by rw [H0.out]; first | rfl | (rw [Int.max_eq_right (by omega)]; rfl), Lib.hid rfl, Lib.hid (by have := Ho.out; rwa [List.nil_append, ← List.append_nil bs] at this), Hb⟩
 case round =>
  obtain ⟨x, pre, hx, rfl, He, Ho1, Hb1⟩ := hrel
  by_cases hlt : x < 128
  ·have Hpl : Hid ((bs ++ pre).length + 1 ≤ 140737488355328) := Lib.hid (by
    have h1 := congrArg List.length He.out
    have h2 := enc_len9 Hn.out
    have h3 := Hr.out.1
    rw [List.length_append, enc_small hlt] at h1
    simp at h1
    rw [List.length_append]; omega)
   have Hv : Hid (enc N = pre ++ [x]) := Lib.hid (by rw [← He.out, enc_small hlt])
   go_wp2_with (at_builtin; refine wpList_appB rfl (.tmp 22) (.tmp 25) 75 rfl Tryz.underlying75 info5 rfl (Ho1.out.alloc _) rfl (rd_one wr _ x rfl (by omega) 5 (0, 0)) Hpl.out (Nat.le_trans Hb1.out.size (by simp)) ?_; intro v2 w2 ho2 hb2; have Ho2 := Lib.hid ho2; have Hb2 := Lib.hid hb2; clear ho2 hb2)
   go_ret
   refine ⟨_, rfl, ?_, (Hb1.out.alloc Hb1.out.size _).trans Hb2.out⟩
   rw [Hv.out, ← List.append_assoc]; exact Ho2.out
  ·have Hpl : Hid ((bs ++ pre).length + 1 ≤ 140737488355328) := Lib.hid (by
    have h1 := congrArg List.length He.out
    have h2 := enc_len9 Hn.out
    have h3 := Hr.out.1
    rw [List.length_append, enc_big hlt, List.length_cons] at h1
    rw [List.length_append]; omega)
   have Hv : Hid ((pre ++ [x % 128 + 128]) ++ enc (x / 128) = enc N) := Lib.hid (by rw [← He.out, enc_big hlt, List.append_assoc]; rfl)
   have h128 := or128 x
   go_wp2_with (at_builtin; refine wpList_appB rfl (.tmp 14) (.tmp 18) 75 rfl Tryz.underlying75 info5 rfl (Ho1.out.alloc _) rfl (rd_one wr _ (x % 128 + 128) rfl (by omega) 5 (0, 0)) Hpl.out (Nat.le_trans Hb1.out.size (by simp)) ?_; intro v2 w2 ho2 hb2; have Ho2 := Lib.hid ho2; have Hb2 := Lib.hid hb2; clear ho2 hb2)
   go_roundw
   case rel => exact ⟨x / 128, pre ++ [x % 128 + 128], Lib.hid (by have := hx.out; omega), by go_num, Hv, Lib.hid (by rw [← List.append_assoc]; exact Ho2.out), Lib.hid ((Hb1.out.alloc Hb1.out.size _).trans Hb2.out)⟩
   case measure => simp [intOf]; omega

theorem put_any (A : Option Addr) (m cap : Nat) (bs : List Nat) (n : Int) (w : World) (hr : Rd w A m bs) (hm : m ≤ 140737488355312) (hn : n ≤ 9223372036854775807) :
  Calls Tryz.prog 160 #[.slice A m cap, .int .i64 n] w (RetO (bs ++ enc n.toNat) w) := by
 rcases Int.lt_trichotomy n 0 with h | h | h
 ·exact put_neg A m cap bs n n.toNat w hr hm (by omega) (by omega) h
 ·subst h; exact put_zero A m cap bs _ w hr hm (by decide) rfl
 ·obtain ⟨k, rfl⟩ := Int.eq_ofNat_of_zero_le (Int.le_of_lt h)
  rw [Int.toNat_natCast]
  exact put_pos A m cap bs k w hr hm (by omega) (by omega)
end Go.Proofs.YtpdedfpacklnoaaGreatDoor.W
namespace Go.Proofs.YtpdedfpacklnoaaGreatDoor.W
set_option maxRecDepth 100000
open Go.RowKit Go.BL Go.Wr

set_option maxRecDepth 100000 in
theorem putR_pos (A : Option Addr) (m cap : Nat) (bs : List Nat) (N : Nat) (w : World) (hr : Rd w A m bs) (hm : m ≤ 140737488355312) (hN : N < 9223372036854775808) :
  Calls Tryz.prog 165 #[.slice A m cap, .int .i64 (N : Int)] w (RetO (bs ++ enc N) w) := by
 have Hr := Lib.hid hr
 have Hn := Lib.hid hN
 have hN' : (N : Int) ≤ 9223372036854775807 := by omega
 clear hr hN
 go_enter Tryz.func165, Tryz.ntmps165
 go_wp2_with (at_builtin; refine wpList_appB rfl (.tmp 6) (.tmp 7) 75 rfl Tryz.underlying75 info5 rfl (Own.empty w w.heap.size w.heap.size rfl (Nat.le_refl _)) rfl (Hr.out.alloc _) (by simp; omega) (by simp) ?_; intro v w1 ho hb; have Ho := Lib.hid ho; have Hb : Hid (Below w.heap.size w w1) := Lib.hid (((Below.refl _ _).alloc (Nat.le_refl _) _).trans hb); clear ho hb)
 go_loopw [1, 5] (fun i v wr => ∃ (x : Nat) (pre : List Nat), Hid (x < 9223372036854775808) ∧ (x : Int) ≤ 9223372036854775807 ∧ i = .int .i64 x ∧ Hid (pre ++ enc x = enc N) ∧ Hid (Own wr w.heap.size v (bs ++ pre)) ∧ Hid (Below w.heap.size w wr)) (fun i _ _ => (intOf i).toNat)
 case atStart => exact ⟨N, [], Hn, hN', rfl, Lib.hid rfl, Lib.hid (by have := Ho.out; rwa [List.nil_append, ← List.append_nil bs] at this), Hb⟩
 case round =>
  obtain ⟨x, pre, hx, hx', rfl, He, Ho1, Hb1⟩ := hrel
  by_cases hlt : x < 128
  ·have Hpl : Hid ((bs ++ pre).length + 1 ≤ 140737488355328) := Lib.hid (by
    have h1 := congrArg List.length He.out
    have h2 := enc_len9 Hn.out
    have h3 := Hr.out.1
    rw [List.length_append, enc_small hlt] at h1
    simp at h1
    rw [List.length_append]; omega)
   have Hv : Hid (enc N = pre ++ [x]) := Lib.hid (by rw [← He.out, enc_small hlt])
   go_wp2_with (at_builtin; refine wpList_appB rfl (.tmp 22) (.tmp 25) 75 rfl Tryz.underlying75 info5 rfl (Ho1.out.alloc _) rfl (rd_one wr _ x rfl (by omega) 5 (0, 0)) Hpl.out (Nat.le_trans Hb1.out.size (by simp)) ?_; intro v2 w2 ho2 hb2; have Ho2 := Lib.hid ho2; have Hb2 := Lib.hid hb2; clear ho2 hb2)
   go_ret
   refine ⟨_, rfl, ?_, (Hb1.out.alloc Hb1.out.size _).trans Hb2.out⟩
   rw [Hv.out, ← List.append_assoc]; exact Ho2.out
  ·have Hpl : Hid ((bs ++ pre).length + 1 ≤ 140737488355328) := Lib.hid (by
    have h1 := congrArg List.length He.out
    have h2 := enc_len9 Hn.out
    have h3 := Hr.out.1
    rw [List.length_append, enc_big hlt, List.length_cons] at h1
    rw [List.length_append]; omega)
   have Hv : Hid ((pre ++ [x % 128 + 128]) ++ enc (x / 128) = enc N) := Lib.hid (by rw [← He.out, enc_big hlt, List.append_assoc]; rfl)
   obtain ⟨c, hc⟩ : ∃ c : Nat, (x : Int) % 128 + 128 = (c : Int) := ⟨x % 128 + 128, by omega⟩
   have hc2 : c < 256 := by omega
   have Hc : Hid (x % 128 + 128 = c) := Lib.hid (by omega)
   go_wp2_with (at_builtin; refine wpList_appB rfl (.tmp 13) (.tmp 18) 75 rfl Tryz.underlying75 info5 rfl (Ho1.out.alloc _) rfl (rd_one wr _ c rfl hc2 5 (0, 0)) Hpl.out (Nat.le_trans Hb1.out.size (by simp)) ?_; intro v2 w2 ho2 hb2; have Ho2 := Lib.hid ho2; have Hb2 := Lib.hid hb2; clear ho2 hb2)
   go_roundw
   case rel => exact ⟨x / 128, pre ++ [x % 128 + 128], Lib.hid (by have := hx.out; omega), by omega, by go_num, Hv, Lib.hid (by rw [← List.append_assoc, Hc.out]; exact Ho2.out), Lib.hid ((Hb1.out.alloc Hb1.out.size _).trans Hb2.out)⟩
   case measure => simp [intOf]; omega
set_option maxRecDepth 100000 in
theorem putR_neg (A : Option Addr) (m cap : Nat) (bs : List Nat) (n : Int) (N : Nat) (w : World) (hr : Rd w A m bs) (hm : m ≤ 140737488355312) (hN : N < 9223372036854775808) (h0 : N = 0) (hn : n < 0) :
  Calls Tryz.prog 165 #[.slice A m cap, .int .i64 n] w (RetO (bs ++ enc N) w) := by
 have H0 := Lib.hid h0
 clear h0
 have Hr := Lib.hid hr
 have Hn := Lib.hid hN
 have hN' : (N : Int) ≤ 9223372036854775807 := by omega
 clear hr hN
 go_enter Tryz.func165, Tryz.ntmps165
 go_wp2_with (at_builtin; refine wpList_appB rfl (.tmp 6) (.tmp 7) 75 rfl Tryz.underlying75 info5 rfl (Own.empty w w.heap.size w.heap.size rfl (Nat.le_refl _)) rfl (Hr.out.alloc _) (by simp; omega) (by simp) ?_; intro v w1 ho hb; have Ho := Lib.hid ho; have Hb : Hid (Below w.heap.size w w1) := Lib.hid (((Below.refl _ _).alloc (Nat.le_refl _) _).trans hb); clear ho hb)
 go_loopw [1, 5] (fun i v wr => ∃ (x : Nat) (pre : List Nat), Hid (x < 9223372036854775808) ∧ (x : Int) ≤ 9223372036854775807 ∧ i = .int .i64 x ∧ Hid (pre ++ enc x = enc N) ∧ Hid (Own wr w.heap.size v (bs ++ pre)) ∧ Hid (Below w.heap.size w wr)) (fun i _ _ => (intOf i).toNat)
 case atStart => exact ⟨N, [], Hn, hN', by rw [H0.out]; first | rfl | (rw [Int.max_eq_right (by omega)]; rfl), Lib.hid rfl, Lib.hid (by have := Ho.out; rwa [List.nil_append, ← List.append_nil bs] at this), Hb⟩
 case round =>
  obtain ⟨x, pre, hx, hx', rfl, He, Ho1, Hb1⟩ := hrel
  by_cases hlt : x < 128
  ·have Hpl : Hid ((bs ++ pre).length + 1 ≤ 140737488355328) := Lib.hid (by
    have h1 := congrArg List.length He.out
    have h2 := enc_len9 Hn.out
    have h3 := Hr.out.1
    rw [List.length_append, enc_small hlt] at h1
    simp at h1
    rw [List.length_append]; omega)
   have Hv : Hid (enc N = pre ++ [x]) := Lib.hid (by rw [← He.out, enc_small hlt])
   go_wp2_with (at_builtin; refine wpList_appB rfl (.tmp 22) (.tmp 25) 75 rfl Tryz.underlying75 info5 rfl (Ho1.out.alloc _) rfl (rd_one wr _ x rfl (by omega) 5 (0, 0)) Hpl.out (Nat.le_trans Hb1.out.size (by simp)) ?_; intro v2 w2 ho2 hb2; have Ho2 := Lib.hid ho2; have Hb2 := Lib.hid hb2; clear ho2 hb2)
   go_ret
   refine ⟨_, rfl, ?_, (Hb1.out.alloc Hb1.out.size _).trans Hb2.out⟩
   rw [Hv.out, ← List.append_assoc]; exact Ho2.out
  ·have Hpl : Hid ((bs ++ pre).length + 1 ≤ 140737488355328) := Lib.hid (by
    have h1 := congrArg List.length He.out
    have h2 := enc_len9 Hn.out
    have h3 := Hr.out.1
    rw [List.length_append, enc_big hlt, List.length_cons] at h1
    rw [List.length_append]; omega)
   have Hv : Hid ((pre ++ [x % 128 + 128]) ++ enc (x / 128) = enc N) := Lib.hid (by rw [← He.out, enc_big hlt, List.append_assoc]; rfl)
   obtain ⟨c, hc⟩ : ∃ c : Nat, (x : Int) % 128 + 128 = (c : Int) := ⟨x % 128 + 128, by omega⟩
   have hc2 : c < 256 := by omega
   have Hc : Hid (x % 128 + 128 = c) := Lib.hid (by omega)
   go_wp2_with (at_builtin; refine wpList_appB rfl (.tmp 13) (.tmp 18) 75 rfl Tryz.underlying75 info5 rfl (Ho1.out.alloc _) rfl (rd_one wr _ c rfl hc2 5 (0, 0)) Hpl.out (Nat.le_trans Hb1.out.size (by simp)) ?_; intro v2 w2 ho2 hb2; have Ho2 := Lib.hid ho2; have Hb2 := Lib.hid hb2; clear ho2 hb2)
   go_roundw
   case rel => exact ⟨x / 128, pre ++ [x % 128 + 128], Lib.hid (by have := hx.out; omega), by omega, by go_num, Hv, Lib.hid (by rw [← List.append_assoc, Hc.out]; exact Ho2.out), Lib.hid ((Hb1.out.alloc Hb1.out.size _).trans Hb2.out)⟩
   case measure => simp [intOf]; omega

theorem putR_any (A : Option Addr) (m cap : Nat) (bs : List Nat) (n : Int) (w : World) (hr : Rd w A m bs) (hm : m ≤ 140737488355312) (hn : n ≤ 9223372036854775807) :
  Calls Tryz.prog 165 #[.slice A m cap, .int .i64 n] w (RetO (bs ++ enc n.toNat) w) := by
 rcases (show n < 0 ∨ 0 ≤ n by omega) with h | h
 ·exact putR_neg A m cap bs n n.toNat w hr hm (by omega) (by omega) h
 ·obtain ⟨k, rfl⟩ := Int.eq_ofNat_of_zero_le h
  rw [Int.toNat_natCast]
  exact putR_pos A m cap bs k w hr hm (by omega)

theorem text_any (A : Option Addr) (m cap : Nat) (bs : List Nat) (s : ByteArray) (w : World) (hr : Rd w A m bs) (hm : m + 16 + s.size ≤ 140737488355328) :
  Calls Tryz.prog 161 #[.slice A m cap, .string s] w (RetO (bs ++ enc s.size ++ bl s) w) := by
 have Hr := Lib.hid hr
 have Hm : Hid (m ≤ 140737488355312) := Lib.hid (by omega)
 have Hl : Hid ((bs ++ enc s.size).length + s.size ≤ 140737488355328) := Lib.hid (by
  have h2 := enc_len9 (n := s.size) (by omega)
  rw [List.length_append, hr.1]; omega)
 have Hs : Hid ((s.size : Int) ≤ 9223372036854775807) := Lib.hid (by omega)
 clear hr
 go_enter Tryz.func161, Tryz.ntmps161
 go_wp2_with fail
 refine (put_any A m cap bs (s.size : Int) _ Hr.out Hm.out Hs.out).mono ?_
 rw [Int.toNat_natCast]
 rintro e w1 ⟨v, rfl, ho, hb⟩
 have Ho := Lib.hid ho
 have Hb := Lib.hid hb
 clear ho hb
 go_wp2_with (at_builtin; refine wpList_appS rfl (.tmp 8) (.tmp 9) 75 9 rfl Tryz.underlying75 Tryz.underlying9 info5 rfl Ho.out rfl Hl.out Hb.out.size ?_; intro v2 w2 ho2 hb2; have Ho2 := Lib.hid ho2; have Hb2 := Lib.hid hb2; clear ho2 hb2)
 go_ret
 exact ⟨_, rfl, Ho2.out, Hb.out.trans Hb2.out⟩

theorem textR_any (A : Option Addr) (m cap : Nat) (bs : List Nat) (s : ByteArray) (w : World) (hr : Rd w A m bs) (hm : m + 16 + s.size ≤ 140737488355328) :
  Calls Tryz.prog 166 #[.slice A m cap, .string s] w (RetO (bs ++ enc s.size ++ bl s) w) := by
 have Hr := Lib.hid hr
 have Hm : Hid (m ≤ 140737488355312) := Lib.hid (by omega)
 have Hl : Hid ((bs ++ enc s.size).length + s.size ≤ 140737488355328) := Lib.hid (by
  have h2 := enc_len9 (n := s.size) (by omega)
  rw [List.length_append, hr.1]; omega)
 have Hs : Hid ((s.size : Int) ≤ 9223372036854775807) := Lib.hid (by omega)
 clear hr
 go_enter Tryz.func166, Tryz.ntmps166
 go_wp2_with fail
 refine (putR_any A m cap bs (s.size : Int) _ Hr.out Hm.out Hs.out).mono ?_
 rw [Int.toNat_natCast]
 rintro e w1 ⟨v, rfl, ho, hb⟩
 have Ho := Lib.hid ho
 have Hb := Lib.hid hb
 clear ho hb
 go_wp2_with (at_builtin; refine wpList_appS rfl (.tmp 8) (.tmp 9) 75 9 rfl Tryz.underlying75 Tryz.underlying9 info5 rfl Ho.out rfl Hl.out Hb.out.size ?_; intro v2 w2 ho2 hb2; have Ho2 := Lib.hid ho2; have Hb2 := Lib.hid hb2; clear ho2 hb2)
 go_ret
 exact ⟨_, rfl, Ho2.out, Hb.out.trans Hb2.out⟩
end Go.Proofs.YtpdedfpacklnoaaGreatDoor.W
namespace Go.Proofs.YtpdedfpacklnoaaGreatDoor.W
set_option maxRecDepth 100000
open Go.RowKit Go.BL Go.Wr

theorem and1 (c : Nat) (hc : c < 4294967296) : bits .and .u32 (c : Int) 1 = ((c % 2 : Nat) : Int) := by
 have h := u32_and_nat c 1 hc (by decide)
 rw [show ((1 : Nat) : Int) = 1 from rfl, nat_mask1] at h; exact h
theorem poly32 (c : Nat) (hc : c < 4294967296) : bits .xor .u32 (c : Int) 3988292384 = ((c ^^^ 3988292384 : Nat) : Int) := by
 have h := u32_xor_nat c 3988292384 hc (by decide)
 rwa [show ((3988292384 : Nat) : Int) = 3988292384 from rfl] at h

set_option maxRecDepth 100000 in
theorem sum_any (A : Option Addr) (n cap : Nat) (bs : List Nat) (w : World) (hr : Rd w A n bs) :
  Calls Tryz.prog 163 #[.slice A n cap] w fun e w' => e = .returned (.int .i64 ((sum bs : Nat) : Int)) ∧ w = w' := by
 have hm := hr.2.1
 unfold maxLen at hm
 have Hr := Lib.hid hr
 clear hr
 go_enter Tryz.func163, Tryz.ntmps163
 go_wp2
 go_loop [3, 9] (fun c i => ∃ (k C : Nat), k ≤ n ∧ i = .int .i64 k ∧ c = .int .u32 C ∧ Hid (C = crcAll (bs.take k))) (fun _ i => n - (intOf i).toNat)
 case atStart => exact ⟨0, 4294967295, Nat.zero_le _, rfl, rfl, Lib.hid rfl⟩
 case round =>
  obtain ⟨k, C, hk, rfl, rfl, HC⟩ := hrel
  have hC : C < 4294967296 := by rw [HC.out]; exact crcAll_lt _ (fun x hx => Hr.out.2.2.1 x (List.mem_of_mem_take hx))
  by_cases hlt : k < n
  ·obtain ⟨b, off, rfl, _, hcell⟩ := Hr.out.2.2.2 (by omega)
   have hck := hcell k hlt
   have hbk := getD_lt Hr.out.2.2.1 k
   have Hts := Lib.hid (take_snoc' bs k (by rw [Hr.out.1]; exact hlt))
   clear hcell
   generalize hx : bs.getD k 0 = x at *
   clear hx
   obtain ⟨D, hD⟩ : ∃ D, C ^^^ x = D := ⟨_, rfl⟩
   have hDl : D < 4294967296 := by rw [← hD]; exact xor_lt32 hC hbk
   have hxor : bits .xor .u32 (C : Int) (x : Int) = (D : Int) := by rw [u32_xor_nat C x hC (by omega), hD]
   have HD := Lib.hid hD
   clear hD
   go_wp2
   go_loop [3, 17] (fun c i => ∃ (j E : Nat), j ≤ 8 ∧ i = .int .i64 j ∧ c = .int .u32 E ∧ Hid (E = crcN j D)) (fun _ i => 8 - (intOf i).toNat)
   case atStart => exact ⟨0, D, by omega, rfl, rfl, Lib.hid rfl⟩
   case round =>
    obtain ⟨j, E, hj, rfl, rfl, HE⟩ := hrel
    by_cases hj8 : j < 8
    ·have hE : E < 4294967296 := by rw [HE.out]; exact crcN_lt hDl j
     have ha := and1 E hE
     by_cases hodd : E % 2 = 1
     ·have ho : (((E % 2 : Nat) : Int) == 1) = true := by rw [hodd]; rfl
      obtain ⟨F, hF⟩ : ∃ F, E / 2 ^^^ 3988292384 = F := ⟨_, rfl⟩
      have hp : bits .xor .u32 ((E : Int) / 2) 3988292384 = (F : Int) := by
       rw [← hF, ← poly32 (E / 2) (by omega)]; rfl
      have Hs : Hid (F = crcN (j + 1) D) := Lib.hid (by rw [← hF, crcN, ← HE.out, crcBit, if_pos hodd])
      clear hodd hF
      go_wp2
      go_round
      case rel => exact ⟨j + 1, F, by omega, by go_num, rfl, Hs⟩
      case measure => simp [intOf]; omega
     ·have ho : (((E % 2 : Nat) : Int) == 1) = false := beq_eq_false_iff_ne.2 (by omega)
      have Hs : Hid (E / 2 = crcN (j + 1) D) := Lib.hid (by rw [crcN, ← HE.out, crcBit, if_neg hodd])
      clear hodd
      go_wp2
      go_round
      case rel => exact ⟨j + 1, E / 2, by omega, by go_num, by go_num, Hs⟩
      case measure => simp [intOf]; omega
    ·obtain rfl : j = 8 := by omega
     have HE2 : Hid (E = crcAll (bs.take (k + 1))) := Lib.hid (by rw [Hts.out, crcAll_snoc, HE.out, crcByte, ← HC.out, ← HD.out])
     go_wp2
     go_round
     case rel => exact ⟨k + 1, E, by omega, by go_num, rfl, HE2⟩
     case measure => simp [intOf]; omega
  ·obtain rfl : k = n := by omega
   have hF : C ^^^ 4294967295 = sum bs := by rw [HC.out, List.take_of_length_le (by rw [Hr.out.1]; omega), sum]
   have hnot : bits .xor .u32 IntKind.u32.max (C : Int) = ((sum bs : Nat) : Int) := by
    rw [show IntKind.u32.max = ((4294967295 : Nat) : Int) by decide, u32_xor_nat 4294967295 C (by decide) hC, Nat.xor_comm, hF]
   have hsl : ((sum bs : Nat) : Int) ≤ 4294967295 := by have := sum_lt bs Hr.out.2.2.1; omega
   clear hF
   generalize hS : sum bs = S at *
   have HS := Lib.hid hS
   clear hS
   go_wp2
   go_ret
   refine ⟨?_, rfl⟩
   show Ending.returned (.int .i64 (wrap64 (S : Int))) = _
   rw [IntWalk.wrap64_in _ (by omega), HS.out]
theorem poly64 (c : Nat) (hc : c < 4294967296) : bits .xor .i64 (c : Int) 3988292384 = ((c ^^^ 3988292384 : Nat) : Int) := by
 have h := i64_xor_nat c 3988292384 (by omega) (by decide)
 rwa [show ((3988292384 : Nat) : Int) = 3988292384 from rfl] at h

set_option maxRecDepth 100000 in
theorem sumR_any (A : Option Addr) (n cap : Nat) (bs : List Nat) (w : World) (hr : Rd w A n bs) :
  Calls Tryz.prog 142 #[.slice A n cap] w fun e w' => e = .returned (.int .i64 ((sum bs : Nat) : Int)) ∧ w = w' := by
 have hm := hr.2.1
 unfold maxLen at hm
 have Hr := Lib.hid hr
 clear hr
 go_enter Tryz.func142, Tryz.ntmps142
 go_wp2
 go_loop [3, 9] (fun c i => ∃ (k C : Nat), k ≤ n ∧ i = .int .i64 k ∧ c = .int .i64 C ∧ Hid (C = crcAll (bs.take k))) (fun _ i => n - (intOf i).toNat)
 case atStart => exact ⟨0, 4294967295, Nat.zero_le _, rfl, rfl, Lib.hid rfl⟩
 case round =>
  obtain ⟨k, C, hk, rfl, rfl, HC⟩ := hrel
  have hC : C < 4294967296 := by rw [HC.out]; exact crcAll_lt _ (fun x hx => Hr.out.2.2.1 x (List.mem_of_mem_take hx))
  by_cases hlt : k < n
  ·obtain ⟨b, off, rfl, _, hcell⟩ := Hr.out.2.2.2 (by omega)
   have hck := hcell k hlt
   have hbk := getD_lt Hr.out.2.2.1 k
   have Hts := Lib.hid (take_snoc' bs k (by rw [Hr.out.1]; exact hlt))
   clear hcell
   generalize hx : bs.getD k 0 = x at *
   clear hx
   obtain ⟨D, hD⟩ : ∃ D, C ^^^ x = D := ⟨_, rfl⟩
   have hDl : D < 4294967296 := by rw [← hD]; exact xor_lt32 hC hbk
   have hxor : bits .xor .i64 (C : Int) (x : Int) = (D : Int) := by rw [i64_xor_nat C x (by omega) (by omega), hD]
   have HD := Lib.hid hD
   clear hD
   go_wp2
   go_loop [3, 17] (fun c i => ∃ (j E : Nat), j ≤ 8 ∧ i = .int .i64 j ∧ c = .int .i64 E ∧ Hid (E = crcN j D)) (fun _ i => 8 - (intOf i).toNat)
   case atStart => exact ⟨0, D, by omega, rfl, rfl, Lib.hid rfl⟩
   case round =>
    obtain ⟨j, E, hj, rfl, rfl, HE⟩ := hrel
    by_cases hj8 : j < 8
    ·have hE : E < 4294967296 := by rw [HE.out]; exact crcN_lt hDl j
     by_cases hodd : E % 2 = 1
     ·have ho : ((E : Int) % 2 == 1) = true := beq_iff_eq.2 (by omega)
      obtain ⟨F, hF⟩ : ∃ F, E / 2 ^^^ 3988292384 = F := ⟨_, rfl⟩
      have hp : bits .xor .i64 ((E : Int) / 2) 3988292384 = (F : Int) := by
       rw [← hF, ← poly64 (E / 2) (by omega)]; rfl
      have Hs : Hid (F = crcN (j + 1) D) := Lib.hid (by rw [← hF, crcN, ← HE.out, crcBit, if_pos hodd])
      clear hodd hF
      go_wp2
      go_round
      case rel => exact ⟨j + 1, F, by omega, by go_num, rfl, Hs⟩
      case measure => simp [intOf]; omega
     ·have ho : ((E : Int) % 2 == 1) = false := beq_eq_false_iff_ne.2 (by omega)
      have Hs : Hid (E / 2 = crcN (j + 1) D) := Lib.hid (by rw [crcN, ← HE.out, crcBit, if_neg hodd])
      clear hodd
      go_wp2
      go_round
      case rel => exact ⟨j + 1, E / 2, by omega, by go_num, by go_num, Hs⟩
      case measure => simp [intOf]; omega
    ·obtain rfl : j = 8 := by omega
     have HE2 : Hid (E = crcAll (bs.take (k + 1))) := Lib.hid (by rw [Hts.out, crcAll_snoc, HE.out, crcByte, ← HC.out, ← HD.out])
     go_wp2
     go_round
     case rel => exact ⟨k + 1, E, by omega, by go_num, rfl, HE2⟩
     case measure => simp [intOf]; omega
  ·obtain rfl : k = n := by omega
   have hF : C ^^^ 4294967295 = sum bs := by rw [HC.out, List.take_of_length_le (by rw [Hr.out.1]; omega), sum]
   have hnot : bits .xor .i64 (C : Int) 4294967295 = ((sum bs : Nat) : Int) := by
    have h := i64_xor_nat C 4294967295 (by omega) (by decide)
    rw [hF] at h
    exact h
   have hsl : ((sum bs : Nat) : Int) ≤ 4294967295 := by have := sum_lt bs Hr.out.2.2.1; omega
   clear hF
   generalize hS : sum bs = S at *
   have HS := Lib.hid hS
   clear hS
   go_wp2
   go_ret
   exact ⟨congrArg (fun z : Nat => Ending.returned (.int .i64 (z : Int))) HS.out.symm, rfl⟩
end Go.Proofs.YtpdedfpacklnoaaGreatDoor.W
