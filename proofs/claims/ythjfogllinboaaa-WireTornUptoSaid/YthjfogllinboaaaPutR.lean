/- Contracts of the document's Put and of both Texts. -/
import Derived.Test.YthjfogllinboaaaPut
namespace Go.Proofs.Ythjfogllinboaaa
open Go.RowKit Go.BL Go.Wr

set_option maxRecDepth 100000 in
theorem putR_pos (A : Option Addr) (m cap : Nat) (bs : List Nat) (N : Nat) (w : World) (hr : Rd w A m bs) (hm : m ≤ 140737488355312) (hN : N < 9223372036854775808) :
    Calls Try.prog 14 #[.slice A m cap, .int .i64 (N : Int)] w (RetO (bs ++ enc N) w) := by
  have Hr := Lib.hid hr
  have Hn := Lib.hid hN
  have hN' : (N : Int) ≤ 9223372036854775807 := by omega
  clear hr hN
  go_enter Try.func14, Try.ntmps14
  go_wp2_with (at_builtin; refine wpList_appB rfl (.tmp 6) (.tmp 7) 22 rfl Try.underlying22 info5 rfl (Own.empty w w.heap.size w.heap.size rfl (Nat.le_refl _)) rfl (Hr.out.alloc _) (by simp; omega) (by simp) ?_; intro v w1 ho hb; have Ho := Lib.hid ho; have Hb : Hid (Below w.heap.size w w1) := Lib.hid (((Below.refl _ _).alloc (Nat.le_refl _) _).trans hb); clear ho hb)
  go_loopw [1, 5] (fun i v wr => ∃ (x : Nat) (pre : List Nat), Hid (x < 9223372036854775808) ∧ (x : Int) ≤ 9223372036854775807 ∧ i = .int .i64 x ∧ Hid (pre ++ enc x = enc N) ∧ Hid (Own wr w.heap.size v (bs ++ pre)) ∧ Hid (Below w.heap.size w wr)) (fun i _ _ => (intOf i).toNat)
  case atStart => exact ⟨N, [], Hn, hN', rfl, Lib.hid rfl, Lib.hid (by have := Ho.out; rwa [List.nil_append, ← List.append_nil bs] at this), Hb⟩
  case round =>
    obtain ⟨x, pre, hx, hx', rfl, He, Ho1, Hb1⟩ := hrel
    by_cases hlt : x < 128
    · have Hpl : Hid ((bs ++ pre).length + 1 ≤ 140737488355328) := Lib.hid (by
        have h1 := congrArg List.length He.out
        have h2 := enc_len9 Hn.out
        have h3 := Hr.out.1
        rw [List.length_append, enc_small hlt] at h1
        simp at h1
        rw [List.length_append]; omega)
      have Hv : Hid (enc N = pre ++ [x]) := Lib.hid (by rw [← He.out, enc_small hlt])
      go_wp2_with (at_builtin; refine wpList_appB rfl (.tmp 22) (.tmp 25) 22 rfl Try.underlying22 info5 rfl (Ho1.out.alloc _) rfl (rd_one wr _ x rfl (by omega) 5 (0, 0)) Hpl.out (Nat.le_trans Hb1.out.size (by simp)) ?_; intro v2 w2 ho2 hb2; have Ho2 := Lib.hid ho2; have Hb2 := Lib.hid hb2; clear ho2 hb2)
      go_ret
      refine ⟨_, rfl, ?_, (Hb1.out.alloc Hb1.out.size _).trans Hb2.out⟩
      rw [Hv.out, ← List.append_assoc]; exact Ho2.out
    · have Hpl : Hid ((bs ++ pre).length + 1 ≤ 140737488355328) := Lib.hid (by
        have h1 := congrArg List.length He.out
        have h2 := enc_len9 Hn.out
        have h3 := Hr.out.1
        rw [List.length_append, enc_big hlt, List.length_cons] at h1
        rw [List.length_append]; omega)
      have Hv : Hid ((pre ++ [x % 128 + 128]) ++ enc (x / 128) = enc N) := Lib.hid (by rw [← He.out, enc_big hlt, List.append_assoc]; rfl)
      obtain ⟨c, hc⟩ : ∃ c : Nat, (x : Int) % 128 + 128 = (c : Int) := ⟨x % 128 + 128, by omega⟩
      have hc2 : c < 256 := by omega
      have Hc : Hid (x % 128 + 128 = c) := Lib.hid (by omega)
      go_wp2_with (at_builtin; refine wpList_appB rfl (.tmp 13) (.tmp 18) 22 rfl Try.underlying22 info5 rfl (Ho1.out.alloc _) rfl (rd_one wr _ c rfl hc2 5 (0, 0)) Hpl.out (Nat.le_trans Hb1.out.size (by simp)) ?_; intro v2 w2 ho2 hb2; have Ho2 := Lib.hid ho2; have Hb2 := Lib.hid hb2; clear ho2 hb2)
      go_roundw
      case rel => exact ⟨x / 128, pre ++ [x % 128 + 128], Lib.hid (by have := hx.out; omega), by omega, by go_num, Hv, Lib.hid (by rw [← List.append_assoc, Hc.out]; exact Ho2.out), Lib.hid ((Hb1.out.alloc Hb1.out.size _).trans Hb2.out)⟩
      case measure => simp [intOf]; omega
set_option maxRecDepth 100000 in
theorem putR_neg (A : Option Addr) (m cap : Nat) (bs : List Nat) (n : Int) (N : Nat) (w : World) (hr : Rd w A m bs) (hm : m ≤ 140737488355312) (hN : N < 9223372036854775808) (h0 : N = 0) (hn : n < 0) :
    Calls Try.prog 14 #[.slice A m cap, .int .i64 n] w (RetO (bs ++ enc N) w) := by
  have H0 := Lib.hid h0
  clear h0
  have Hr := Lib.hid hr
  have Hn := Lib.hid hN
  have hN' : (N : Int) ≤ 9223372036854775807 := by omega
  clear hr hN
  go_enter Try.func14, Try.ntmps14
  go_wp2_with (at_builtin; refine wpList_appB rfl (.tmp 6) (.tmp 7) 22 rfl Try.underlying22 info5 rfl (Own.empty w w.heap.size w.heap.size rfl (Nat.le_refl _)) rfl (Hr.out.alloc _) (by simp; omega) (by simp) ?_; intro v w1 ho hb; have Ho := Lib.hid ho; have Hb : Hid (Below w.heap.size w w1) := Lib.hid (((Below.refl _ _).alloc (Nat.le_refl _) _).trans hb); clear ho hb)
  go_loopw [1, 5] (fun i v wr => ∃ (x : Nat) (pre : List Nat), Hid (x < 9223372036854775808) ∧ (x : Int) ≤ 9223372036854775807 ∧ i = .int .i64 x ∧ Hid (pre ++ enc x = enc N) ∧ Hid (Own wr w.heap.size v (bs ++ pre)) ∧ Hid (Below w.heap.size w wr)) (fun i _ _ => (intOf i).toNat)
  case atStart => exact ⟨N, [], Hn, hN', by rw [H0.out]; rfl, Lib.hid rfl, Lib.hid (by have := Ho.out; rwa [List.nil_append, ← List.append_nil bs] at this), Hb⟩
  case round =>
    obtain ⟨x, pre, hx, hx', rfl, He, Ho1, Hb1⟩ := hrel
    by_cases hlt : x < 128
    · have Hpl : Hid ((bs ++ pre).length + 1 ≤ 140737488355328) := Lib.hid (by
        have h1 := congrArg List.length He.out
        have h2 := enc_len9 Hn.out
        have h3 := Hr.out.1
        rw [List.length_append, enc_small hlt] at h1
        simp at h1
        rw [List.length_append]; omega)
      have Hv : Hid (enc N = pre ++ [x]) := Lib.hid (by rw [← He.out, enc_small hlt])
      go_wp2_with (at_builtin; refine wpList_appB rfl (.tmp 22) (.tmp 25) 22 rfl Try.underlying22 info5 rfl (Ho1.out.alloc _) rfl (rd_one wr _ x rfl (by omega) 5 (0, 0)) Hpl.out (Nat.le_trans Hb1.out.size (by simp)) ?_; intro v2 w2 ho2 hb2; have Ho2 := Lib.hid ho2; have Hb2 := Lib.hid hb2; clear ho2 hb2)
      go_ret
      refine ⟨_, rfl, ?_, (Hb1.out.alloc Hb1.out.size _).trans Hb2.out⟩
      rw [Hv.out, ← List.append_assoc]; exact Ho2.out
    · have Hpl : Hid ((bs ++ pre).length + 1 ≤ 140737488355328) := Lib.hid (by
        have h1 := congrArg List.length He.out
        have h2 := enc_len9 Hn.out
        have h3 := Hr.out.1
        rw [List.length_append, enc_big hlt, List.length_cons] at h1
        rw [List.length_append]; omega)
      have Hv : Hid ((pre ++ [x % 128 + 128]) ++ enc (x / 128) = enc N) := Lib.hid (by rw [← He.out, enc_big hlt, List.append_assoc]; rfl)
      obtain ⟨c, hc⟩ : ∃ c : Nat, (x : Int) % 128 + 128 = (c : Int) := ⟨x % 128 + 128, by omega⟩
      have hc2 : c < 256 := by omega
      have Hc : Hid (x % 128 + 128 = c) := Lib.hid (by omega)
      go_wp2_with (at_builtin; refine wpList_appB rfl (.tmp 13) (.tmp 18) 22 rfl Try.underlying22 info5 rfl (Ho1.out.alloc _) rfl (rd_one wr _ c rfl hc2 5 (0, 0)) Hpl.out (Nat.le_trans Hb1.out.size (by simp)) ?_; intro v2 w2 ho2 hb2; have Ho2 := Lib.hid ho2; have Hb2 := Lib.hid hb2; clear ho2 hb2)
      go_roundw
      case rel => exact ⟨x / 128, pre ++ [x % 128 + 128], Lib.hid (by have := hx.out; omega), by omega, by go_num, Hv, Lib.hid (by rw [← List.append_assoc, Hc.out]; exact Ho2.out), Lib.hid ((Hb1.out.alloc Hb1.out.size _).trans Hb2.out)⟩
      case measure => simp [intOf]; omega

theorem putR_any (A : Option Addr) (m cap : Nat) (bs : List Nat) (n : Int) (w : World) (hr : Rd w A m bs) (hm : m ≤ 140737488355312) (hn : n ≤ 9223372036854775807) :
    Calls Try.prog 14 #[.slice A m cap, .int .i64 n] w (RetO (bs ++ enc n.toNat) w) := by
  rcases (show n < 0 ∨ 0 ≤ n by omega) with h | h
  · exact putR_neg A m cap bs n n.toNat w hr hm (by omega) (by omega) h
  · obtain ⟨k, rfl⟩ := Int.eq_ofNat_of_zero_le h
    rw [Int.toNat_natCast]
    exact putR_pos A m cap bs k w hr hm (by omega)

theorem text_any (A : Option Addr) (m cap : Nat) (bs : List Nat) (s : ByteArray) (w : World) (hr : Rd w A m bs) (hm : m + 16 + s.size ≤ 140737488355328) :
    Calls Try.prog 12 #[.slice A m cap, .string s] w (RetO (bs ++ enc s.size ++ bl s) w) := by
  have Hr := Lib.hid hr
  have Hm : Hid (m ≤ 140737488355312) := Lib.hid (by omega)
  have Hl : Hid ((bs ++ enc s.size).length + s.size ≤ 140737488355328) := Lib.hid (by
    have h2 := enc_len9 (n := s.size) (by omega)
    rw [List.length_append, hr.1]; omega)
  have Hs : Hid ((s.size : Int) ≤ 9223372036854775807) := Lib.hid (by omega)
  clear hr
  go_enter Try.func12, Try.ntmps12
  go_wp2_with fail
  refine (put_any A m cap bs (s.size : Int) _ Hr.out Hm.out Hs.out).mono ?_
  rw [Int.toNat_natCast]
  rintro e w1 ⟨v, rfl, ho, hb⟩
  have Ho := Lib.hid ho
  have Hb := Lib.hid hb
  clear ho hb
  go_wp2_with (at_builtin; refine wpList_appS rfl (.tmp 8) (.tmp 9) 22 9 rfl Try.underlying22 Try.underlying9 info5 rfl Ho.out rfl Hl.out Hb.out.size ?_; intro v2 w2 ho2 hb2; have Ho2 := Lib.hid ho2; have Hb2 := Lib.hid hb2; clear ho2 hb2)
  go_ret
  exact ⟨_, rfl, Ho2.out, Hb.out.trans Hb2.out⟩

theorem textR_any (A : Option Addr) (m cap : Nat) (bs : List Nat) (s : ByteArray) (w : World) (hr : Rd w A m bs) (hm : m + 16 + s.size ≤ 140737488355328) :
    Calls Try.prog 15 #[.slice A m cap, .string s] w (RetO (bs ++ enc s.size ++ bl s) w) := by
  have Hr := Lib.hid hr
  have Hm : Hid (m ≤ 140737488355312) := Lib.hid (by omega)
  have Hl : Hid ((bs ++ enc s.size).length + s.size ≤ 140737488355328) := Lib.hid (by
    have h2 := enc_len9 (n := s.size) (by omega)
    rw [List.length_append, hr.1]; omega)
  have Hs : Hid ((s.size : Int) ≤ 9223372036854775807) := Lib.hid (by omega)
  clear hr
  go_enter Try.func15, Try.ntmps15
  go_wp2_with fail
  refine (putR_any A m cap bs (s.size : Int) _ Hr.out Hm.out Hs.out).mono ?_
  rw [Int.toNat_natCast]
  rintro e w1 ⟨v, rfl, ho, hb⟩
  have Ho := Lib.hid ho
  have Hb := Lib.hid hb
  clear ho hb
  go_wp2_with (at_builtin; refine wpList_appS rfl (.tmp 8) (.tmp 9) 22 9 rfl Try.underlying22 Try.underlying9 info5 rfl Ho.out rfl Hl.out Hb.out.size ?_; intro v2 w2 ho2 hb2; have Ho2 := Lib.hid ho2; have Hb2 := Lib.hid hb2; clear ho2 hb2)
  go_ret
  exact ⟨_, rfl, Ho2.out, Hb.out.trans Hb2.out⟩
end Go.Proofs.Ythjfogllinboaaa
