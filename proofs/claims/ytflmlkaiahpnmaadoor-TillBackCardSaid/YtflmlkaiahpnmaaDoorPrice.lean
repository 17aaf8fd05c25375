/- till's Price. -/
import Derived.Test.YtflmlkaiahpnmaaDoorCut
import Derived.Laws.RangeString
import Derived.Laws.RangeAny
namespace Go.Proofs.YtflmlkaiahpnmaaDoor
open Go.RowKit Go.Fl

def CutTo (s : ByteArray) (h t : List UInt8) (pt : Bool) : Prop := ∀ w, Calls Tryd.prog 12 #[.string s, .string ⟨#[46]⟩] w (RetV (.tuple #[.string ⟨h.toArray⟩, .string ⟨t.toArray⟩, .bool pt]) w)
def DigTo (l : List UInt8) (most : Nat) (b : Bool) : Prop := ∀ w, Calls Tryd.prog 13 #[.string ⟨l.toArray⟩, .int .i64 (most : Int)] w (RetV (.bool b) w)
theorem price_bad1 (s : ByteArray) (h t : List UInt8) (pt : Bool) (hc : CutTo s h t pt) (hd : ∀ w, Calls Tryd.prog 13 #[.string ⟨h.toArray⟩, .int .i64 9] w (RetV (.bool false) w)) (w : World) :
    Calls Tryd.prog 6 #[.string s] w (RetV (.tuple #[.int .u64 0, .bool false]) w) := by
  go_enter Tryd.func6, Tryd.ntmps6
  go_wp2_with (first | (go_at_call 12; refine (hc _).mono ?_; rintro e w1 ⟨rfl, hb⟩; have Hb := Lib.hid hb; clear hb) | (go_at_call 13; refine (hd _).mono ?_; rintro e w2 ⟨rfl, hb2⟩; have Hb2 := Lib.hid (Hb.out.trans (hb2.mono Hb.out.size)); clear hb2))
  go_ret2
  exact ⟨rfl, Hb2.out⟩
theorem price_bad2 (s : ByteArray) (y : UInt8) (r t : List UInt8) (pt : Bool) (hc : CutTo s (48 :: y :: r) t pt) (hd : ∀ w, Calls Tryd.prog 13 #[.string ⟨(48 :: y :: r).toArray⟩, .int .i64 9] w (RetV (.bool true) w)) (w : World) :
    Calls Tryd.prog 6 #[.string s] w (RetV (.tuple #[.int .u64 0, .bool false]) w) := by
  go_enter Tryd.func6, Tryd.ntmps6
  go_wp2_with (first | (go_at_call 12; refine (hc _).mono ?_; rintro e w1 ⟨rfl, hb⟩; have Hb := Lib.hid hb; clear hb) | (go_at_call 13; refine (hd _).mono ?_; rintro e w2 ⟨rfl, hb2⟩; have Hb2 := Lib.hid (Hb.out.trans (hb2.mono Hb.out.size)); clear hb2))
  go_ret2
  exact ⟨rfl, Hb2.out⟩
theorem head_at (x : UInt8) (r : List UInt8) : (⟨(x :: r).toArray⟩ : ByteArray)[0]'(by simp [ByteArray.size]) = x := rfl
theorem ne48 {x : UInt8} (h : x ≠ 48) : ¬ (x.toNat : Int) = 48 := fun e => h (UInt8.toNat_inj.1 (by simpa using Int.ofNat.inj e))
theorem price_bad3 (s : ByteArray) (h t : List UInt8) (hh : h = [48] ∨ ∃ x r, h = x :: r ∧ x ≠ 48) (hc : CutTo s h t true) (hd : ∀ w, Calls Tryd.prog 13 #[.string ⟨h.toArray⟩, .int .i64 9] w (RetV (.bool true) w)) (hd2 : ∀ w, Calls Tryd.prog 13 #[.string ⟨t.toArray⟩, .int .i64 6] w (RetV (.bool false) w)) (w : World) :
    Calls Tryd.prog 6 #[.string s] w (RetV (.tuple #[.int .u64 0, .bool false]) w) := by
  rcases hh with rfl | ⟨x, r, rfl, hx⟩
  · go_enter Tryd.func6, Tryd.ntmps6
    go_wp2_with (go_at_call 12; refine (hc _).mono ?_; rintro e w1 ⟨rfl, hb⟩; have Hb := Lib.hid hb; clear hb) 
    go_at_call 13
    refine (hd _).mono ?_
    rintro e w2 ⟨rfl, hb2⟩
    have Hb2 := Lib.hid (Hb.out.trans (hb2.mono Hb.out.size))
    clear hb2
    go_wp2_with (go_at_call 13; refine (hd2 _).mono ?_; rintro e w3 ⟨rfl, hb3⟩; have Hb3 := Lib.hid (Hb2.out.trans (hb3.mono Hb2.out.size)); clear hb3)
    go_ret2
    exact ⟨rfl, Hb3.out⟩
  · have hx0 := head_at x r
    have hx1 := ne48 hx
    have hx2 : (x == 48) = false := by simpa using hx
    clear hx
    go_enter Tryd.func6, Tryd.ntmps6
    go_wp2_with (go_at_call 12; refine (hc _).mono ?_; rintro e w1 ⟨rfl, hb⟩; have Hb := Lib.hid hb; clear hb) 
    go_at_call 13
    refine (hd _).mono ?_
    rintro e w2 ⟨rfl, hb2⟩
    have Hb2 := Lib.hid (Hb.out.trans (hb2.mono Hb.out.size))
    clear hb2
    go_wp2_with (go_at_call 13; refine (hd2 _).mono ?_; rintro e w3 ⟨rfl, hb3⟩; have Hb3 := Lib.hid (Hb2.out.trans (hb3.mono Hb2.out.size)); clear hb3)
    go_ret2
    exact ⟨rfl, Hb3.out⟩
/-- Powers of ten, as floats. -/
def pw : Nat → Nat
  | 0 => 4607182418800017408
  | k + 1 => (Ieee.double.mul (pw k) 4621819117588971520).getD 0
theorem pw_step (k : Nat) (h : k < 6) : Ieee.double.mul (pw k) 4621819117588971520 = some (pw (k + 1)) := by
  match k, h with
  | 0, _ | 1, _ | 2, _ | 3, _ | 4, _ | 5, _ => decide +kernel
  | k + 6, h => omega
theorem pw_nat (k : Nat) (h : k < 7) : pw k = Ieee.double.nearest false (10 ^ k) 0 := by
  match k, h with
  | 0, _ | 1, _ | 2, _ | 3, _ | 4, _ | 5, _ | 6, _ => decide +kernel
  | k + 7, h => omega
theorem below_iter {B : World} {w : World} (h : Below B.heap.size B w) (s : ByteArray) (p : Nat) : Below B.heap.size B (w.iter s p) := h.alloc h.size _
set_option maxRecDepth 100000 in
theorem price_ok (s : ByteArray) (h t : List UInt8) (pt : Bool) (N A P : Nat) (hh : h = [48] ∨ ∃ x r, h = x :: r ∧ x ≠ 48) (hc : CutTo s h t pt) (hd : ∀ w, Calls Tryd.prog 13 #[.string ⟨h.toArray⟩, .int .i64 9] w (RetV (.bool true) w))
    (hd2 : pt = true → ∀ w, Calls Tryd.prog 13 #[.string ⟨t.toArray⟩, .int .i64 6] w (RetV (.bool true) w)) (hlh : h.length ≤ 9) (hlt : t.length ≤ 6)
    (hasc : ∀ (j : Nat) (hj : j < t.length), ((⟨t.toArray⟩ : ByteArray)[j]'hj).toNat < 128)
    (hp : ∀ w, Calls Tryd.prog 14 #[.string ⟨(h ++ t).toArray⟩, .int .i64 10, .int .i64 64] w (RetV (.tuple #[.int .u64 (N : Int), .nilIface]) w))
    (hcf : ∀ w, (convert 24 39 (.int .u64 (N : Int))).run Tryd.prog w = .ok (.float .f64 A) w)
    (hq : ∀ w, (binOp .quo 39 (.float .f64 A) (.float .f64 (pw t.length))).run Tryd.prog w = .ok (.float .f64 P) w)
    (hnan : isNaN P = false) (w : World) :
    Calls Tryd.prog 6 #[.string s] w (RetV (.tuple #[.int .u64 (P : Int), .bool true]) w) := by
  have hbits := bits_any P hnan
  have hcat := bcat h t
  have hl0 : ¬ 9223372036854775807 < h.length + t.length := by omega
  have Hasc := Lib.hid hasc
  clear hnan hasc
  rcases hh with rfl | ⟨x, r, rfl, hx⟩
  · cases pt with
    | true =>
      have hd3 := hd2 rfl
      clear hd2
      go_enter Tryd.func6, Tryd.ntmps6
      go_wp2_with (go_at_call 12; refine (hc _).mono ?_; rintro e w1 ⟨rfl, hb⟩; have Hb := Lib.hid hb; clear hb)
      go_at_call 13
      refine (hd _).mono ?_
      rintro e w2 ⟨rfl, hb2⟩
      have Hb2 := Lib.hid (Hb.out.trans (hb2.mono Hb.out.size))
      clear hb2
      go_wp2_with (first | (go_at_call 13; refine (hd3 _).mono ?_; rintro e w3 ⟨rfl, hb3⟩; have Hb3 := Lib.hid (Hb2.out.trans (hb3.mono Hb2.out.size)); clear hb3) | (go_at_call 14; refine (hp _).mono ?_; rintro e w4 ⟨rfl, hb4⟩; have Hb4 := Lib.hid (Hb3.out.trans (hb4.mono Hb3.out.size)); clear hb4))
      go_loopw [9] (fun f wr => ∃ k : Nat, k ≤ t.length ∧ wr = w4.iter ⟨t.toArray⟩ k ∧ f = .float .f64 (pw k)) (fun _ wr => t.length - wr.iterPos w4.heap.size)
      case atStart => exact ⟨0, Nat.zero_le _, rfl, rfl⟩
      case round =>
        obtain ⟨k, hk, rfl, rfl⟩ := hrel
        by_cases hkl : k < t.length
        · have hnx : ∀ ty, (Instr.next (.pointer (some ⟨w4.heap.size, 0, none⟩)) true ty).run Tryd.prog (w4.iter ⟨t.toArray⟩ k) = _ := fun ty => run_next_ascii w4 ⟨t.toArray⟩ k ty hkl (Hasc.out k hkl)
          have hmul : ∀ W, (binOp .mul 39 (.float .f64 (pw k)) (.float .f64 4621819117588971520)).run Tryd.prog W = .ok (.float .f64 (pw (k + 1))) W := fun W => run_float_arith W .mul 39 .f64 _ _ _ (pw_step k (by omega))
          go_wp2_with fail
          go_roundw
          case rel => exact ⟨k + 1, hkl, rfl, rfl⟩
          case measure => simp; omega
        · have hnx : ∀ ty, (Instr.next (.pointer (some ⟨w4.heap.size, 0, none⟩)) true ty).run Tryd.prog (w4.iter ⟨t.toArray⟩ k) = _ := fun ty => run_next_end w4 ⟨t.toArray⟩ k ty hkl
          have hkk : Hid (k = t.length) := Lib.hid (by omega)
          have hq2 : ∀ W, (binOp .quo 39 (.float .f64 A) (.float .f64 (pw k))).run Tryd.prog W = .ok (.float .f64 P) W := fun W => by rw [hkk.out]; exact hq W
          clear hq
          go_wp2_with (go_at_call 15; refine (hbits _).mono ?_; rintro e w5 ⟨rfl, rfl⟩)
          go_ret2
          exact ⟨rfl, below_iter Hb4.out _ _⟩
    | false =>
      clear hd2
      go_enter Tryd.func6, Tryd.ntmps6
      go_wp2_with (go_at_call 12; refine (hc _).mono ?_; rintro e w1 ⟨rfl, hb⟩; have Hb := Lib.hid hb; clear hb)
      go_at_call 13
      refine (hd _).mono ?_
      rintro e w2 ⟨rfl, hb2⟩
      have Hb2 := Lib.hid (Hb.out.trans (hb2.mono Hb.out.size))
      clear hb2
      go_wp2_with (go_at_call 14; refine (hp _).mono ?_; rintro e w4 ⟨rfl, hb4⟩; have Hb4 := Lib.hid (Hb2.out.trans (hb4.mono Hb2.out.size)); clear hb4)
      go_loopw [9] (fun f wr => ∃ k : Nat, k ≤ t.length ∧ wr = w4.iter ⟨t.toArray⟩ k ∧ f = .float .f64 (pw k)) (fun _ wr => t.length - wr.iterPos w4.heap.size)
      case atStart => exact ⟨0, Nat.zero_le _, rfl, rfl⟩
      case round =>
        obtain ⟨k, hk, rfl, rfl⟩ := hrel
        by_cases hkl : k < t.length
        · have hnx : ∀ ty, (Instr.next (.pointer (some ⟨w4.heap.size, 0, none⟩)) true ty).run Tryd.prog (w4.iter ⟨t.toArray⟩ k) = _ := fun ty => run_next_ascii w4 ⟨t.toArray⟩ k ty hkl (Hasc.out k hkl)
          have hmul : ∀ W, (binOp .mul 39 (.float .f64 (pw k)) (.float .f64 4621819117588971520)).run Tryd.prog W = .ok (.float .f64 (pw (k + 1))) W := fun W => run_float_arith W .mul 39 .f64 _ _ _ (pw_step k (by omega))
          go_wp2_with fail
          go_roundw
          case rel => exact ⟨k + 1, hkl, rfl, rfl⟩
          case measure => simp; omega
        · have hnx : ∀ ty, (Instr.next (.pointer (some ⟨w4.heap.size, 0, none⟩)) true ty).run Tryd.prog (w4.iter ⟨t.toArray⟩ k) = _ := fun ty => run_next_end w4 ⟨t.toArray⟩ k ty hkl
          have hkk : Hid (k = t.length) := Lib.hid (by omega)
          have hq2 : ∀ W, (binOp .quo 39 (.float .f64 A) (.float .f64 (pw k))).run Tryd.prog W = .ok (.float .f64 P) W := fun W => by rw [hkk.out]; exact hq W
          clear hq
          go_wp2_with (go_at_call 15; refine (hbits _).mono ?_; rintro e w5 ⟨rfl, rfl⟩)
          go_ret2
          exact ⟨rfl, below_iter Hb4.out _ _⟩
  · have hx0 := head_at x r
    have hx1 := ne48 hx
    have hx2 : (x == 48) = false := by simpa using hx
    clear hx
    cases pt with
    | true =>
      have hd3 := hd2 rfl
      clear hd2
      go_enter Tryd.func6, Tryd.ntmps6
      go_wp2_with (go_at_call 12; refine (hc _).mono ?_; rintro e w1 ⟨rfl, hb⟩; have Hb := Lib.hid hb; clear hb)
      go_at_call 13
      refine (hd _).mono ?_
      rintro e w2 ⟨rfl, hb2⟩
      have Hb2 := Lib.hid (Hb.out.trans (hb2.mono Hb.out.size))
      clear hb2
      go_wp2_with (first | (go_at_call 13; refine (hd3 _).mono ?_; rintro e w3 ⟨rfl, hb3⟩; have Hb3 := Lib.hid (Hb2.out.trans (hb3.mono Hb2.out.size)); clear hb3) | (go_at_call 14; refine (hp _).mono ?_; rintro e w4 ⟨rfl, hb4⟩; have Hb4 := Lib.hid (Hb3.out.trans (hb4.mono Hb3.out.size)); clear hb4))
      go_loopw [9] (fun f wr => ∃ k : Nat, k ≤ t.length ∧ wr = w4.iter ⟨t.toArray⟩ k ∧ f = .float .f64 (pw k)) (fun _ wr => t.length - wr.iterPos w4.heap.size)
      case atStart => exact ⟨0, Nat.zero_le _, rfl, rfl⟩
      case round =>
        obtain ⟨k, hk, rfl, rfl⟩ := hrel
        by_cases hkl : k < t.length
        · have hnx : ∀ ty, (Instr.next (.pointer (some ⟨w4.heap.size, 0, none⟩)) true ty).run Tryd.prog (w4.iter ⟨t.toArray⟩ k) = _ := fun ty => run_next_ascii w4 ⟨t.toArray⟩ k ty hkl (Hasc.out k hkl)
          have hmul : ∀ W, (binOp .mul 39 (.float .f64 (pw k)) (.float .f64 4621819117588971520)).run Tryd.prog W = .ok (.float .f64 (pw (k + 1))) W := fun W => run_float_arith W .mul 39 .f64 _ _ _ (pw_step k (by omega))
          go_wp2_with fail
          go_roundw
          case rel => exact ⟨k + 1, hkl, rfl, rfl⟩
          case measure => simp; omega
        · have hnx : ∀ ty, (Instr.next (.pointer (some ⟨w4.heap.size, 0, none⟩)) true ty).run Tryd.prog (w4.iter ⟨t.toArray⟩ k) = _ := fun ty => run_next_end w4 ⟨t.toArray⟩ k ty hkl
          have hkk : Hid (k = t.length) := Lib.hid (by omega)
          have hq2 : ∀ W, (binOp .quo 39 (.float .f64 A) (.float .f64 (pw k))).run Tryd.prog W = .ok (.float .f64 P) W := fun W => by rw [hkk.out]; exact hq W
          clear hq
          go_wp2_with (go_at_call 15; refine (hbits _).mono ?_; rintro e w5 ⟨rfl, rfl⟩)
          go_ret2
          exact ⟨rfl, below_iter Hb4.out _ _⟩
    | false =>
      clear hd2
      go_enter Tryd.func6, Tryd.ntmps6
      go_wp2_with (go_at_call 12; refine (hc _).mono ?_; rintro e w1 ⟨rfl, hb⟩; have Hb := Lib.hid hb; clear hb)
      go_at_call 13
      refine (hd _).mono ?_
      rintro e w2 ⟨rfl, hb2⟩
      have Hb2 := Lib.hid (Hb.out.trans (hb2.mono Hb.out.size))
      clear hb2
      go_wp2_with (go_at_call 14; refine (hp _).mono ?_; rintro e w4 ⟨rfl, hb4⟩; have Hb4 := Lib.hid (Hb2.out.trans (hb4.mono Hb2.out.size)); clear hb4)
      go_loopw [9] (fun f wr => ∃ k : Nat, k ≤ t.length ∧ wr = w4.iter ⟨t.toArray⟩ k ∧ f = .float .f64 (pw k)) (fun _ wr => t.length - wr.iterPos w4.heap.size)
      case atStart => exact ⟨0, Nat.zero_le _, rfl, rfl⟩
      case round =>
        obtain ⟨k, hk, rfl, rfl⟩ := hrel
        by_cases hkl : k < t.length
        · have hnx : ∀ ty, (Instr.next (.pointer (some ⟨w4.heap.size, 0, none⟩)) true ty).run Tryd.prog (w4.iter ⟨t.toArray⟩ k) = _ := fun ty => run_next_ascii w4 ⟨t.toArray⟩ k ty hkl (Hasc.out k hkl)
          have hmul : ∀ W, (binOp .mul 39 (.float .f64 (pw k)) (.float .f64 4621819117588971520)).run Tryd.prog W = .ok (.float .f64 (pw (k + 1))) W := fun W => run_float_arith W .mul 39 .f64 _ _ _ (pw_step k (by omega))
          go_wp2_with fail
          go_roundw
          case rel => exact ⟨k + 1, hkl, rfl, rfl⟩
          case measure => simp; omega
        · have hnx : ∀ ty, (Instr.next (.pointer (some ⟨w4.heap.size, 0, none⟩)) true ty).run Tryd.prog (w4.iter ⟨t.toArray⟩ k) = _ := fun ty => run_next_end w4 ⟨t.toArray⟩ k ty hkl
          have hkk : Hid (k = t.length) := Lib.hid (by omega)
          have hq2 : ∀ W, (binOp .quo 39 (.float .f64 A) (.float .f64 (pw k))).run Tryd.prog W = .ok (.float .f64 P) W := fun W => by rw [hkk.out]; exact hq W
          clear hq
          go_wp2_with (go_at_call 15; refine (hbits _).mono ?_; rintro e w5 ⟨rfl, rfl⟩)
          go_ret2
          exact ⟨rfl, below_iter Hb4.out _ _⟩
end Go.Proofs.YtflmlkaiahpnmaaDoor
