/- Contracts of the document's Name and Node. Written by program. -/
import Derived.Test.YtikaikleibfkeaaDoorNode
namespace Go.Proofs.YtikaikleibfkeaaDoor
open Go.RowKit

theorem conv_one (w : World) (c : Int) : (convert 24 9 (.slice (some ⟨w.heap.size, 0, none⟩) 1 1)).run Tryd.prog (w.alloc (.cells #[.int .u8 c] 5)) = .ok (.string (strOfNums [c])) (w.alloc (.cells #[.int .u8 c] 5)) :=
  run_convert_bytes_arg (P := Tryd.prog) (w.alloc (.cells #[.int .u8 c] 5)) 24 5 Tryd.underlying24 Tryd.underlying5 w.heap.size 0 1 1 [c] rfl (fun i hi => by
    obtain rfl : i = 0 := by omega
    exact World.cell?_alloc_new w _ 5 0) 9 Tryd.underlying9
theorem ret_s2 {a b : ByteArray} {v : Value} (h : a = b) : Ending.returned (.tuple #[.string a, v]) = .returned (.tuple #[.string b, v]) := by rw [h]
theorem nameR_0 (w : World) : Calls Tryd.prog 13 #[.int .i64 0] w (RetB (.tuple #[.string ⟨#[110, 48]⟩, .bool true]) w) := by
  have hc := conv_one
  go_enter Tryd.func13, Tryd.ntmps13
  go_wp2
  go_ret2
  exact ⟨ret_s2 (by decide), (Below.refl _ _).alloc (Nat.le_refl _) _⟩
theorem nameR_1 (w : World) : Calls Tryd.prog 13 #[.int .i64 1] w (RetB (.tuple #[.string ⟨#[110, 49]⟩, .bool true]) w) := by
  have hc := conv_one
  go_enter Tryd.func13, Tryd.ntmps13
  go_wp2
  go_ret2
  exact ⟨ret_s2 (by decide), (Below.refl _ _).alloc (Nat.le_refl _) _⟩
theorem nameR_2 (w : World) : Calls Tryd.prog 13 #[.int .i64 2] w (RetB (.tuple #[.string ⟨#[110, 50]⟩, .bool true]) w) := by
  have hc := conv_one
  go_enter Tryd.func13, Tryd.ntmps13
  go_wp2
  go_ret2
  exact ⟨ret_s2 (by decide), (Below.refl _ _).alloc (Nat.le_refl _) _⟩
theorem nameR_3 (w : World) : Calls Tryd.prog 13 #[.int .i64 3] w (RetB (.tuple #[.string ⟨#[110, 51]⟩, .bool true]) w) := by
  have hc := conv_one
  go_enter Tryd.func13, Tryd.ntmps13
  go_wp2
  go_ret2
  exact ⟨ret_s2 (by decide), (Below.refl _ _).alloc (Nat.le_refl _) _⟩
theorem nameR_4 (w : World) : Calls Tryd.prog 13 #[.int .i64 4] w (RetB (.tuple #[.string ⟨#[110, 52]⟩, .bool true]) w) := by
  have hc := conv_one
  go_enter Tryd.func13, Tryd.ntmps13
  go_wp2
  go_ret2
  exact ⟨ret_s2 (by decide), (Below.refl _ _).alloc (Nat.le_refl _) _⟩
theorem nameR_5 (w : World) : Calls Tryd.prog 13 #[.int .i64 5] w (RetB (.tuple #[.string ⟨#[110, 53]⟩, .bool true]) w) := by
  have hc := conv_one
  go_enter Tryd.func13, Tryd.ntmps13
  go_wp2
  go_ret2
  exact ⟨ret_s2 (by decide), (Below.refl _ _).alloc (Nat.le_refl _) _⟩
theorem nameR_6 (w : World) : Calls Tryd.prog 13 #[.int .i64 6] w (RetB (.tuple #[.string ⟨#[110, 54]⟩, .bool true]) w) := by
  have hc := conv_one
  go_enter Tryd.func13, Tryd.ntmps13
  go_wp2
  go_ret2
  exact ⟨ret_s2 (by decide), (Below.refl _ _).alloc (Nat.le_refl _) _⟩
theorem nameR_7 (w : World) : Calls Tryd.prog 13 #[.int .i64 7] w (RetB (.tuple #[.string ⟨#[110, 55]⟩, .bool true]) w) := by
  have hc := conv_one
  go_enter Tryd.func13, Tryd.ntmps13
  go_wp2
  go_ret2
  exact ⟨ret_s2 (by decide), (Below.refl _ _).alloc (Nat.le_refl _) _⟩
theorem nameR_no (n : Int) (w : World) (hk : n < 0 ∨ 8 ≤ n) :
    Calls Tryd.prog 13 #[.int .i64 n] w fun e w' => e = .returned (.tuple #[.string ⟨#[]⟩, .bool false]) ∧ w = w' := by
  rcases hk with h | h
  · go_enter Tryd.func13, Tryd.ntmps13
    go_wp2
    go_ret2
    exact ⟨rfl, rfl⟩
  · go_enter Tryd.func13, Tryd.ntmps13
    go_wp2
    go_ret2
    exact ⟨rfl, rfl⟩
theorem nodeR_0 (w : World) : Calls Tryd.prog 15 #[.string ⟨#[110, 48]⟩] w (RetB (.tuple #[.int .i64 0, .bool true]) w) := by
  go_enter Tryd.func15, Tryd.ntmps15
  go_wp2_with fail
  refine wp_loop_rounds 2 ?_
  rw [rounds_succ]
  go_wp2_with fail
  refine (nameR_0 _).mono ?_
  rintro e w1 ⟨rfl, hb1⟩
  have Hb1 : Hid (Below w.heap.size w w1) := Lib.hid (hb1)
  clear hb1
  go_wp2_with fail
  go_ret2
  exact ⟨rfl, Hb1.out⟩
theorem nodeR_1 (w : World) : Calls Tryd.prog 15 #[.string ⟨#[110, 49]⟩] w (RetB (.tuple #[.int .i64 1, .bool true]) w) := by
  go_enter Tryd.func15, Tryd.ntmps15
  go_wp2_with fail
  refine wp_loop_rounds 3 ?_
  rw [rounds_succ]
  go_wp2_with fail
  refine (nameR_0 _).mono ?_
  rintro e w1 ⟨rfl, hb1⟩
  have Hb1 : Hid (Below w.heap.size w w1) := Lib.hid (hb1)
  clear hb1
  go_wp2_with fail
  rw [rounds_succ]
  go_wp2_with fail
  refine (nameR_1 _).mono ?_
  rintro e w2 ⟨rfl, hb2⟩
  have Hb2 : Hid (Below w.heap.size w w2) := Lib.hid (Hb1.out.trans (hb2.mono Hb1.out.size))
  clear hb2
  go_wp2_with fail
  go_ret2
  exact ⟨rfl, Hb2.out⟩
theorem nodeR_2 (w : World) : Calls Tryd.prog 15 #[.string ⟨#[110, 50]⟩] w (RetB (.tuple #[.int .i64 2, .bool true]) w) := by
  go_enter Tryd.func15, Tryd.ntmps15
  go_wp2_with fail
  refine wp_loop_rounds 4 ?_
  rw [rounds_succ]
  go_wp2_with fail
  refine (nameR_0 _).mono ?_
  rintro e w1 ⟨rfl, hb1⟩
  have Hb1 : Hid (Below w.heap.size w w1) := Lib.hid (hb1)
  clear hb1
  go_wp2_with fail
  rw [rounds_succ]
  go_wp2_with fail
  refine (nameR_1 _).mono ?_
  rintro e w2 ⟨rfl, hb2⟩
  have Hb2 : Hid (Below w.heap.size w w2) := Lib.hid (Hb1.out.trans (hb2.mono Hb1.out.size))
  clear hb2
  go_wp2_with fail
  rw [rounds_succ]
  go_wp2_with fail
  refine (nameR_2 _).mono ?_
  rintro e w3 ⟨rfl, hb3⟩
  have Hb3 : Hid (Below w.heap.size w w3) := Lib.hid (Hb2.out.trans (hb3.mono Hb2.out.size))
  clear hb3
  go_wp2_with fail
  go_ret2
  exact ⟨rfl, Hb3.out⟩
theorem nodeR_3 (w : World) : Calls Tryd.prog 15 #[.string ⟨#[110, 51]⟩] w (RetB (.tuple #[.int .i64 3, .bool true]) w) := by
  go_enter Tryd.func15, Tryd.ntmps15
  go_wp2_with fail
  refine wp_loop_rounds 5 ?_
  rw [rounds_succ]
  go_wp2_with fail
  refine (nameR_0 _).mono ?_
  rintro e w1 ⟨rfl, hb1⟩
  have Hb1 : Hid (Below w.heap.size w w1) := Lib.hid (hb1)
  clear hb1
  go_wp2_with fail
  rw [rounds_succ]
  go_wp2_with fail
  refine (nameR_1 _).mono ?_
  rintro e w2 ⟨rfl, hb2⟩
  have Hb2 : Hid (Below w.heap.size w w2) := Lib.hid (Hb1.out.trans (hb2.mono Hb1.out.size))
  clear hb2
  go_wp2_with fail
  rw [rounds_succ]
  go_wp2_with fail
  refine (nameR_2 _).mono ?_
  rintro e w3 ⟨rfl, hb3⟩
  have Hb3 : Hid (Below w.heap.size w w3) := Lib.hid (Hb2.out.trans (hb3.mono Hb2.out.size))
  clear hb3
  go_wp2_with fail
  rw [rounds_succ]
  go_wp2_with fail
  refine (nameR_3 _).mono ?_
  rintro e w4 ⟨rfl, hb4⟩
  have Hb4 : Hid (Below w.heap.size w w4) := Lib.hid (Hb3.out.trans (hb4.mono Hb3.out.size))
  clear hb4
  go_wp2_with fail
  go_ret2
  exact ⟨rfl, Hb4.out⟩
theorem nodeR_4 (w : World) : Calls Tryd.prog 15 #[.string ⟨#[110, 52]⟩] w (RetB (.tuple #[.int .i64 4, .bool true]) w) := by
  go_enter Tryd.func15, Tryd.ntmps15
  go_wp2_with fail
  refine wp_loop_rounds 6 ?_
  rw [rounds_succ]
  go_wp2_with fail
  refine (nameR_0 _).mono ?_
  rintro e w1 ⟨rfl, hb1⟩
  have Hb1 : Hid (Below w.heap.size w w1) := Lib.hid (hb1)
  clear hb1
  go_wp2_with fail
  rw [rounds_succ]
  go_wp2_with fail
  refine (nameR_1 _).mono ?_
  rintro e w2 ⟨rfl, hb2⟩
  have Hb2 : Hid (Below w.heap.size w w2) := Lib.hid (Hb1.out.trans (hb2.mono Hb1.out.size))
  clear hb2
  go_wp2_with fail
  rw [rounds_succ]
  go_wp2_with fail
  refine (nameR_2 _).mono ?_
  rintro e w3 ⟨rfl, hb3⟩
  have Hb3 : Hid (Below w.heap.size w w3) := Lib.hid (Hb2.out.trans (hb3.mono Hb2.out.size))
  clear hb3
  go_wp2_with fail
  rw [rounds_succ]
  go_wp2_with fail
  refine (nameR_3 _).mono ?_
  rintro e w4 ⟨rfl, hb4⟩
  have Hb4 : Hid (Below w.heap.size w w4) := Lib.hid (Hb3.out.trans (hb4.mono Hb3.out.size))
  clear hb4
  go_wp2_with fail
  rw [rounds_succ]
  go_wp2_with fail
  refine (nameR_4 _).mono ?_
  rintro e w5 ⟨rfl, hb5⟩
  have Hb5 : Hid (Below w.heap.size w w5) := Lib.hid (Hb4.out.trans (hb5.mono Hb4.out.size))
  clear hb5
  go_wp2_with fail
  go_ret2
  exact ⟨rfl, Hb5.out⟩
theorem nodeR_5 (w : World) : Calls Tryd.prog 15 #[.string ⟨#[110, 53]⟩] w (RetB (.tuple #[.int .i64 5, .bool true]) w) := by
  go_enter Tryd.func15, Tryd.ntmps15
  go_wp2_with fail
  refine wp_loop_rounds 7 ?_
  rw [rounds_succ]
  go_wp2_with fail
  refine (nameR_0 _).mono ?_
  rintro e w1 ⟨rfl, hb1⟩
  have Hb1 : Hid (Below w.heap.size w w1) := Lib.hid (hb1)
  clear hb1
  go_wp2_with fail
  rw [rounds_succ]
  go_wp2_with fail
  refine (nameR_1 _).mono ?_
  rintro e w2 ⟨rfl, hb2⟩
  have Hb2 : Hid (Below w.heap.size w w2) := Lib.hid (Hb1.out.trans (hb2.mono Hb1.out.size))
  clear hb2
  go_wp2_with fail
  rw [rounds_succ]
  go_wp2_with fail
  refine (nameR_2 _).mono ?_
  rintro e w3 ⟨rfl, hb3⟩
  have Hb3 : Hid (Below w.heap.size w w3) := Lib.hid (Hb2.out.trans (hb3.mono Hb2.out.size))
  clear hb3
  go_wp2_with fail
  rw [rounds_succ]
  go_wp2_with fail
  refine (nameR_3 _).mono ?_
  rintro e w4 ⟨rfl, hb4⟩
  have Hb4 : Hid (Below w.heap.size w w4) := Lib.hid (Hb3.out.trans (hb4.mono Hb3.out.size))
  clear hb4
  go_wp2_with fail
  rw [rounds_succ]
  go_wp2_with fail
  refine (nameR_4 _).mono ?_
  rintro e w5 ⟨rfl, hb5⟩
  have Hb5 : Hid (Below w.heap.size w w5) := Lib.hid (Hb4.out.trans (hb5.mono Hb4.out.size))
  clear hb5
  go_wp2_with fail
  rw [rounds_succ]
  go_wp2_with fail
  refine (nameR_5 _).mono ?_
  rintro e w6 ⟨rfl, hb6⟩
  have Hb6 : Hid (Below w.heap.size w w6) := Lib.hid (Hb5.out.trans (hb6.mono Hb5.out.size))
  clear hb6
  go_wp2_with fail
  go_ret2
  exact ⟨rfl, Hb6.out⟩
theorem nodeR_6 (w : World) : Calls Tryd.prog 15 #[.string ⟨#[110, 54]⟩] w (RetB (.tuple #[.int .i64 6, .bool true]) w) := by
  go_enter Tryd.func15, Tryd.ntmps15
  go_wp2_with fail
  refine wp_loop_rounds 8 ?_
  rw [rounds_succ]
  go_wp2_with fail
  refine (nameR_0 _).mono ?_
  rintro e w1 ⟨rfl, hb1⟩
  have Hb1 : Hid (Below w.heap.size w w1) := Lib.hid (hb1)
  clear hb1
  go_wp2_with fail
  rw [rounds_succ]
  go_wp2_with fail
  refine (nameR_1 _).mono ?_
  rintro e w2 ⟨rfl, hb2⟩
  have Hb2 : Hid (Below w.heap.size w w2) := Lib.hid (Hb1.out.trans (hb2.mono Hb1.out.size))
  clear hb2
  go_wp2_with fail
  rw [rounds_succ]
  go_wp2_with fail
  refine (nameR_2 _).mono ?_
  rintro e w3 ⟨rfl, hb3⟩
  have Hb3 : Hid (Below w.heap.size w w3) := Lib.hid (Hb2.out.trans (hb3.mono Hb2.out.size))
  clear hb3
  go_wp2_with fail
  rw [rounds_succ]
  go_wp2_with fail
  refine (nameR_3 _).mono ?_
  rintro e w4 ⟨rfl, hb4⟩
  have Hb4 : Hid (Below w.heap.size w w4) := Lib.hid (Hb3.out.trans (hb4.mono Hb3.out.size))
  clear hb4
  go_wp2_with fail
  rw [rounds_succ]
  go_wp2_with fail
  refine (nameR_4 _).mono ?_
  rintro e w5 ⟨rfl, hb5⟩
  have Hb5 : Hid (Below w.heap.size w w5) := Lib.hid (Hb4.out.trans (hb5.mono Hb4.out.size))
  clear hb5
  go_wp2_with fail
  rw [rounds_succ]
  go_wp2_with fail
  refine (nameR_5 _).mono ?_
  rintro e w6 ⟨rfl, hb6⟩
  have Hb6 : Hid (Below w.heap.size w w6) := Lib.hid (Hb5.out.trans (hb6.mono Hb5.out.size))
  clear hb6
  go_wp2_with fail
  rw [rounds_succ]
  go_wp2_with fail
  refine (nameR_6 _).mono ?_
  rintro e w7 ⟨rfl, hb7⟩
  have Hb7 : Hid (Below w.heap.size w w7) := Lib.hid (Hb6.out.trans (hb7.mono Hb6.out.size))
  clear hb7
  go_wp2_with fail
  go_ret2
  exact ⟨rfl, Hb7.out⟩
theorem nodeR_7 (w : World) : Calls Tryd.prog 15 #[.string ⟨#[110, 55]⟩] w (RetB (.tuple #[.int .i64 7, .bool true]) w) := by
  go_enter Tryd.func15, Tryd.ntmps15
  go_wp2_with fail
  refine wp_loop_rounds 9 ?_
  rw [rounds_succ]
  go_wp2_with fail
  refine (nameR_0 _).mono ?_
  rintro e w1 ⟨rfl, hb1⟩
  have Hb1 : Hid (Below w.heap.size w w1) := Lib.hid (hb1)
  clear hb1
  go_wp2_with fail
  rw [rounds_succ]
  go_wp2_with fail
  refine (nameR_1 _).mono ?_
  rintro e w2 ⟨rfl, hb2⟩
  have Hb2 : Hid (Below w.heap.size w w2) := Lib.hid (Hb1.out.trans (hb2.mono Hb1.out.size))
  clear hb2
  go_wp2_with fail
  rw [rounds_succ]
  go_wp2_with fail
  refine (nameR_2 _).mono ?_
  rintro e w3 ⟨rfl, hb3⟩
  have Hb3 : Hid (Below w.heap.size w w3) := Lib.hid (Hb2.out.trans (hb3.mono Hb2.out.size))
  clear hb3
  go_wp2_with fail
  rw [rounds_succ]
  go_wp2_with fail
  refine (nameR_3 _).mono ?_
  rintro e w4 ⟨rfl, hb4⟩
  have Hb4 : Hid (Below w.heap.size w w4) := Lib.hid (Hb3.out.trans (hb4.mono Hb3.out.size))
  clear hb4
  go_wp2_with fail
  rw [rounds_succ]
  go_wp2_with fail
  refine (nameR_4 _).mono ?_
  rintro e w5 ⟨rfl, hb5⟩
  have Hb5 : Hid (Below w.heap.size w w5) := Lib.hid (Hb4.out.trans (hb5.mono Hb4.out.size))
  clear hb5
  go_wp2_with fail
  rw [rounds_succ]
  go_wp2_with fail
  refine (nameR_5 _).mono ?_
  rintro e w6 ⟨rfl, hb6⟩
  have Hb6 : Hid (Below w.heap.size w w6) := Lib.hid (Hb5.out.trans (hb6.mono Hb5.out.size))
  clear hb6
  go_wp2_with fail
  rw [rounds_succ]
  go_wp2_with fail
  refine (nameR_6 _).mono ?_
  rintro e w7 ⟨rfl, hb7⟩
  have Hb7 : Hid (Below w.heap.size w w7) := Lib.hid (Hb6.out.trans (hb7.mono Hb6.out.size))
  clear hb7
  go_wp2_with fail
  rw [rounds_succ]
  go_wp2_with fail
  refine (nameR_7 _).mono ?_
  rintro e w8 ⟨rfl, hb8⟩
  have Hb8 : Hid (Below w.heap.size w w8) := Lib.hid (Hb7.out.trans (hb8.mono Hb7.out.size))
  clear hb8
  go_wp2_with fail
  go_ret2
  exact ⟨rfl, Hb8.out⟩
theorem nodeR_no (s : ByteArray) (w : World) (hs : ∀ k, k < 8 → s ≠ nm k) : Calls Tryd.prog 15 #[.string s] w (RetB (.tuple #[.int .i64 0, .bool false]) w) := by
  have f0 : (([110, 48] : List UInt8) == s.toList) = false := ne_bytes (hs 0 (by decide))
  have f1 : (([110, 49] : List UInt8) == s.toList) = false := ne_bytes (hs 1 (by decide))
  have f2 : (([110, 50] : List UInt8) == s.toList) = false := ne_bytes (hs 2 (by decide))
  have f3 : (([110, 51] : List UInt8) == s.toList) = false := ne_bytes (hs 3 (by decide))
  have f4 : (([110, 52] : List UInt8) == s.toList) = false := ne_bytes (hs 4 (by decide))
  have f5 : (([110, 53] : List UInt8) == s.toList) = false := ne_bytes (hs 5 (by decide))
  have f6 : (([110, 54] : List UInt8) == s.toList) = false := ne_bytes (hs 6 (by decide))
  have f7 : (([110, 55] : List UInt8) == s.toList) = false := ne_bytes (hs 7 (by decide))
  clear hs
  go_enter Tryd.func15, Tryd.ntmps15
  go_wp2_with fail
  refine wp_loop_rounds 9 ?_
  rw [rounds_succ]
  go_wp2_with fail
  refine (nameR_0 _).mono ?_
  rintro e w1 ⟨rfl, hb1⟩
  have Hb1 : Hid (Below w.heap.size w w1) := Lib.hid (hb1)
  clear hb1
  go_wp2_with fail
  rw [rounds_succ]
  go_wp2_with fail
  refine (nameR_1 _).mono ?_
  rintro e w2 ⟨rfl, hb2⟩
  have Hb2 : Hid (Below w.heap.size w w2) := Lib.hid (Hb1.out.trans (hb2.mono Hb1.out.size))
  clear hb2
  go_wp2_with fail
  rw [rounds_succ]
  go_wp2_with fail
  refine (nameR_2 _).mono ?_
  rintro e w3 ⟨rfl, hb3⟩
  have Hb3 : Hid (Below w.heap.size w w3) := Lib.hid (Hb2.out.trans (hb3.mono Hb2.out.size))
  clear hb3
  go_wp2_with fail
  rw [rounds_succ]
  go_wp2_with fail
  refine (nameR_3 _).mono ?_
  rintro e w4 ⟨rfl, hb4⟩
  have Hb4 : Hid (Below w.heap.size w w4) := Lib.hid (Hb3.out.trans (hb4.mono Hb3.out.size))
  clear hb4
  go_wp2_with fail
  rw [rounds_succ]
  go_wp2_with fail
  refine (nameR_4 _).mono ?_
  rintro e w5 ⟨rfl, hb5⟩
  have Hb5 : Hid (Below w.heap.size w w5) := Lib.hid (Hb4.out.trans (hb5.mono Hb4.out.size))
  clear hb5
  go_wp2_with fail
  rw [rounds_succ]
  go_wp2_with fail
  refine (nameR_5 _).mono ?_
  rintro e w6 ⟨rfl, hb6⟩
  have Hb6 : Hid (Below w.heap.size w w6) := Lib.hid (Hb5.out.trans (hb6.mono Hb5.out.size))
  clear hb6
  go_wp2_with fail
  rw [rounds_succ]
  go_wp2_with fail
  refine (nameR_6 _).mono ?_
  rintro e w7 ⟨rfl, hb7⟩
  have Hb7 : Hid (Below w.heap.size w w7) := Lib.hid (Hb6.out.trans (hb7.mono Hb6.out.size))
  clear hb7
  go_wp2_with fail
  rw [rounds_succ]
  go_wp2_with fail
  refine (nameR_7 _).mono ?_
  rintro e w8 ⟨rfl, hb8⟩
  have Hb8 : Hid (Below w.heap.size w w8) := Lib.hid (Hb7.out.trans (hb8.mono Hb7.out.size))
  clear hb8
  go_wp2_with fail
  rw [rounds_succ]
  go_wp2_with fail
  go_ret2
  exact ⟨rfl, Hb8.out⟩
end Go.Proofs.YtikaikleibfkeaaDoor
