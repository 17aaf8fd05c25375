/- Contracts of till's small functions over floats, and of package math's that they call. Contracts: strconv.FormatUint at base 10; the law's text of a number. The law's text of a number. Contracts: stri -/
import Derived.Test.YtpdedfpacklnoaaGreatDoorRows
import Derived.Test.YtpdedfpacklnoaaGreatDoorTzMT
import Derived.WalkKit
import Derived.WalkLawsBesides
import Derived.Laws.Externs
import Derived.Lib.Hide
import Derived.Deep.Draws
import Derived.Test.YtpdedfpacklnoaaGreatDoorTzMH
import Derived.Lib.Walk
import Derived.Lib.ItoaMem
import Derived.BigCall
import Derived.BigGuard
import Derived.Laws.RangeString
import Derived.Laws.RangeAny
import Derived.Lib.AtoiErrMem
namespace Go.Proofs.YtpdedfpacklnoaaGreatDoor.T
set_option maxRecDepth 100000
open Go.RowKit Go.Fl

theorem frombits (b : Int) (w : World) : (callFunc 147 #[.int .u64 b]).run Tryz.prog w = .ok (.value (.float .f64 b.toNat)) w :=
 (run_callFunc_extern Tryz.func147 (by kernel_rfl) (by kernel_rfl) (by kernel_rfl) (e := Extern.MathFloatBits.float64frombits) (by kernel_rfl) _ w).trans rfl
theorem tobits (b : Nat) (w : World) : (callFunc 146 #[.float .f64 b]).run Tryz.prog w = .ok (.value (.int .u64 b)) w :=
 (run_callFunc_extern Tryz.func146 (by kernel_rfl) (by kernel_rfl) (by kernel_rfl) (e := Extern.MathFloatBits.float64bits) (by kernel_rfl) _ w).trans rfl
theorem even_run (r : Nat) (hr : r < 4845873199050653696) (w : World) : (callFunc 113 #[.float .f64 r]).run Tryz.prog w = .ok (.value (.float .f64 (Ieee.double.nearest false (rnd r) 0))) w := by
 refine (run_callFunc_extern Tryz.func113 (by kernel_rfl) (by kernel_rfl) (by kernel_rfl) (e := Extern.MathFloor.toIntegral "math.RoundToEven" .even) (by kernel_rfl) _ w).trans ?_
 have h1 : FloatKind.f64.decode r = .number false (sig r) (plc r) := read_pos (fin_small hr)
 have h2 : (Ieee.Datum.number false (sig r) (plc r)).integral .even = .number false (rnd r) 0 := by rw [← read_pos (fin_small hr)]; exact even_small hr
 have k : ∀ d, FloatKind.f64.decode r = d → d = .number false (sig r) (plc r) → Extern.MathFloor.toIntegral "math.RoundToEven" .even #[.float .f64 r] = pure (.float .f64 (FloatKind.f64.encode (d.integral .even))) := by
  intro d h3 h4
  change (match FloatKind.f64.decode r with | .nan s t => _ | d => pure (Value.float .f64 (FloatKind.f64.encode (d.integral .even)))) = _
  rw [h1, h4]
 rw [k _ rfl h1, h1, h2]
 rfl

theorem float_any (b : Int) (w : World) : Calls Tryz.prog 107 #[.int .u64 b] w fun e w' => e = .returned (.float .f64 b.toNat) ∧ w = w' := by
 have h := frombits
 go_enter Tryz.func107, Tryz.ntmps107
 go_wp2
 go_ret
 exact ⟨rfl, rfl⟩
theorem floatR_any (b : Int) (w : World) : Calls Tryz.prog 100 #[.int .u64 b] w fun e w' => e = .returned (.float .f64 b.toNat) ∧ w = w' := by
 have h := frombits
 go_enter Tryz.func100, Tryz.ntmps100
 go_wp2
 go_ret
 exact ⟨rfl, rfl⟩
theorem isNaN_any (b : Nat) (w : World) : Calls Tryz.prog 108 #[.float .f64 b] w fun e w' => e = .returned (.bool (isNaN b)) ∧ w = w' := by
 have ho : (FloatKind.f64.format.order b b != some .eq) = isNaN b := order_self' b
 go_enter Tryz.func108, Tryz.ntmps108
 go_wp2
 go_ret
 exact ⟨rfl, rfl⟩
theorem abs_nat (b : Nat) (hb : b < 18446744073709551616) : bits .andNot .u64 (b : Int) 9223372036854775808 = ((b % 9223372036854775808 : Nat) : Int) := by
 have h := u64_andNot_nat b 9223372036854775808 (by omega) (by omega)
 rw [show ((9223372036854775808 : Nat) : Int) = 9223372036854775808 from rfl] at h
 rw [h, show (18446744073709551615 - 9223372036854775808 : Nat) = 2 ^ 63 - 1 by decide, Nat.and_two_pow_sub_one_eq_mod]
theorem abs_any (b : Nat) (hb : b < 18446744073709551616) (w : World) : Calls Tryz.prog 111 #[.float .f64 b] w fun e w' => e = .returned (.float .f64 (b % 9223372036854775808)) ∧ w = w' := by
 have h := frombits
 have h2 := tobits
 have ha := abs_nat b hb
 go_enter Tryz.func111, Tryz.ntmps111
 go_wp2
 go_ret
 exact ⟨rfl, rfl⟩
theorem wrap_top (b : Nat) (hb : b < 18446744073709551616) : decide (wrap64 (b : Int) < 0) = decide (9223372036854775808 ≤ b) := by
 congr 1
 simp only [wrap64, eq_iff_iff]
 omega
theorem signbit_any (b : Nat) (hb : b < 18446744073709551616) (w : World) : Calls Tryz.prog 110 #[.float .f64 b] w fun e w' => e = .returned (.bool (decide (9223372036854775808 ≤ b))) ∧ w = w' := by
 have h2 := tobits
 have H := Lib.hid (wrap_top b hb)
 go_enter Tryz.func110, Tryz.ntmps110
 go_wp2
 go_ret
 exact ⟨congrArg (fun x => Ending.returned (.bool x)) H.out, rfl⟩
theorem neg_run (b : Nat) (w : World) : (Op.unary .neg (.float .f64 b)).run Tryz.prog w = .ok (.float .f64 (Op.negFloat .f64 b)) w := rfl
theorem isInf_pos (b : Nat) (w : World) : Calls Tryz.prog 109 #[.float .f64 b, .int .i64 1] w fun e w' => e = .returned (.bool (FloatKind.f64.format.order b 9218868437227405311 == some .gt)) ∧ w = w' := by
 go_enter Tryz.func109, Tryz.ntmps109
 go_wp2
 go_ret
 exact ⟨rfl, rfl⟩
theorem isInf_neg (b : Nat) (w : World) : Calls Tryz.prog 109 #[.float .f64 b, .int .i64 (-1)] w fun e w' => e = .returned (.bool (FloatKind.f64.format.order (Op.negFloat .f64 b) 9218868437227405311 == some .gt)) ∧ w = w' := by
 have h := neg_run
 go_enter Tryz.func109, Tryz.ntmps109
 go_wp2
 go_ret
 exact ⟨rfl, rfl⟩
theorem bits_any (b : Nat) (hn : isNaN b = false) (w : World) : Calls Tryz.prog 106 #[.float .f64 b] w fun e w' => e = .returned (.int .u64 b) ∧ w = w' := by
 have h := tobits
 have ho : (FloatKind.f64.format.order b b != some .eq) = false := by rw [order_self', hn]
 have hm := isNaN_any b
 rw [hn] at hm
 clear hn
 go_enter Tryz.func106, Tryz.ntmps106
 go_wp2_with (go_at_call 108; refine (hm _).mono ?_; rintro e w' ⟨rfl, rfl⟩)
 go_ret
 exact ⟨rfl, rfl⟩
theorem bitsR_any (b : Nat) (hn : isNaN b = false) (w : World) : Calls Tryz.prog 99 #[.float .f64 b] w fun e w' => e = .returned (.int .u64 b) ∧ w = w' := by
 have h := tobits
 have ho : (FloatKind.f64.format.order b b != some .eq) = false := by rw [order_self', hn]
 clear hn
 go_enter Tryz.func99, Tryz.ntmps99
 go_wp2
 go_ret
 exact ⟨rfl, rfl⟩
end Go.Proofs.YtpdedfpacklnoaaGreatDoor.T
namespace Go.Proofs.YtpdedfpacklnoaaGreatDoor.T
set_option maxRecDepth 100000
open Go.RowKit Go.Fl Go.Sort Go.Lib

def RetV (v : Value) (w : World) (e : Ending) (w' : World) : Prop := e = .returned v ∧ Below w.heap.size w w'
theorem RetV.of_eq {v : Value} {w w' : World} {e : Ending} (h : e = .returned v) (hw : w = w') : RetV v w e w' := ⟨h, hw ▸ Below.refl _ _⟩
/-- The table of powers of ten. -/
def Tab (w : World) : Prop := Lib.TabIs Tryz.prog w "internal/strconv.uint64pow10" .u64 Lib.pow10Tab
theorem Tab.below {w w' : World} (h : Tab w) (hb : Below w.heap.size w w') : Tab w' := by
 unfold Tab Lib.TabIs World.var? at *
 cases hg : Tryz.prog.globalNamed "internal/strconv.uint64pow10" with
 | none => simp [hg] at h
 | some g =>
  simp only [hg, Option.bind_some] at h ⊢
  have hlt : g < w.heap.size := by
   rcases Nat.lt_or_ge g w.heap.size with h' | h'
   ·exact h'
   ·rw [Array.getElem?_eq_none h'] at h; simp at h
  rw [hb.block g hlt]
  exact h
theorem below_grow_drewN (w : World) (k : Nat) (os : Array Obj) : Below w.heap.size w (grow (w.drewN k) os) := by
 refine ⟨rfl, rfl, rfl, ?_, fun i hi => ?_⟩
 ·simp [grow, World.drewN]
 ·simp [grow, World.drewN, Array.getElem?_append, hi]

theorem holds_zero20 (w : World) (T : TypeId) (nd : Nat) (hs : nd ≤ 24) : Holds (fun (b : UInt8) => Value.int .u8 (b.toNat : Int)) (w.alloc (.cells zeros24 T)) w.heap.size 0 (Array.replicate nd (0 : UInt8)) := fun j hj => by
 have hj' : j < nd := by simpa using hj
 refine ⟨?_, World.frozen?_alloc_new _ _ _ _⟩
 rw [World.cell?_alloc_new, zeros24_at _ (by omega), getElem!_pos _ j hj]
 simp
theorem fin20 (w : World) (o : Obj) (dk : Array UInt8) (k : Nat) : ∃ os, (putRow (fun (b : UInt8) => Value.int .u8 (b.toNat : Int)) (w.alloc o) w.heap.size 0 dk).drewN k = grow (w.drewN k) os := by
 rw [alloc_eq_grow]
 obtain ⟨os', _, e⟩ := putRow_grow_new (fun (b : UInt8) => Value.int .u8 (b.toNat : Int)) w #[o] w.heap.size 0 dk (Nat.le_refl _)
 exact ⟨os', by rw [e]; rfl⟩

set_option maxHeartbeats 6400000 in
set_option maxRecDepth 100000 in
theorem formatUintI (u : Nat) (hu64 : u < 18446744073709551616) (w : World) (htab : Tab w) :
  Calls Tryz.prog 156 #[.int .u64 u, .int .i64 10] w (RetV (.string ⟨(Lib.decDigits u).toArray⟩) w) := by
 by_cases hs : u < 100
 ·go_enter Tryz.func156, Tryz.ntmps156
  go_wp2_with (go_at_call 215; refine (Tryz.internal_strconv_small u hs _).mono ?_; rintro e w' ⟨rfl, rfl⟩)
  go_ret
  exact .of_eq rfl rfl
 ·have hu1 : 1 ≤ u := by omega
  have hnd20 : Lib.nDigits u ≤ 20 := by have := Lib.numDigits_eq u hu1 hu64; split at this <;> omega
  have hal : Tryz.prog.arrayLen 260 = 24 := by kernel_rfl
  have hsl1 : ∀ W, (Instr.sliceAt 260 (.pointer (some ⟨w.heap.size, 0, none⟩)) none (some (.int .i64 (Lib.nDigits u : Int))) none).run Tryz.prog W = .ok (.slice (some ⟨w.heap.size, 0, none⟩) (Lib.nDigits u) 24) W := fun W => by
   rw [run_sliceAt_array_h W 260 ⟨w.heap.size, 0, none⟩ (by kernel_rfl) .i64 (Lib.nDigits u : Int) (by omega) (by rw [hal]; omega)]
   go_simp
  have hH0 := holds_zero20 w 260 (Lib.nDigits u) (by omega)
  have hfmt := Tryz.internal_strconv_formatBase10 w.heap.size 0 24 u (Array.replicate (Lib.nDigits u) 0) (w.alloc (.cells zeros24 260)) hH0 (by rw [Array.size_replicate]; exact Lib.lt_pow_nDigits u) hu64 (by rw [Array.size_replicate]; omega)
  rw [Array.size_replicate] at hfmt
  have HH0 := Lib.hid hH0
  clear hH0 hal
  go_enter Tryz.func156, Tryz.ntmps156
  go_wp2_with (go_at_call 216; refine (Tryz.internal_strconv_numDigits u hu1 hu64 _ (Lib.tabIs_alloc htab _)).mono ?_; rintro e w' ⟨rfl, rfl⟩)
  go_at_call 217
  refine hfmt.mono ?_
  rintro e w' ⟨rfl, k, v', dk, rfl, hF⟩
  have hcv : (convert 75 9 (.slice (some ⟨w.heap.size, 0, none⟩) (Lib.nDigits u) 24)).run Tryz.prog ((putRow (fun (b : UInt8) => Value.int .u8 (b.toNat : Int)) (w.alloc (.cells zeros24 260)) w.heap.size 0 dk).drewN k) = .ok (.string ⟨(Lib.decDigits u).toArray⟩) ((putRow (fun (b : UInt8) => Value.int .u8 (b.toNat : Int)) (w.alloc (.cells zeros24 260)) w.heap.size 0 dk).drewN k) := by
   have h := run_convert_bytes_back (P := Tryz.prog) ((putRow (fun (b : UInt8) => Value.int .u8 (b.toNat : Int)) (w.alloc (.cells zeros24 260)) w.heap.size 0 dk).drewN k) 75 9 5 ⟨w.heap.size, 0, none⟩ 24 (Lib.decDigits u) Tryz.underlying75 Tryz.underlying5 Tryz.underlying9 (fun j hj => by
    rw [Lib.row_is_numeral hF j hj, Lib.add_plain, World.cell?_drewN]
    exact cell?_putRow (fun (b : UInt8) => Value.int .u8 (b.toNat : Int)) _ w.heap.size 0 _ dk HH0.out (by rw [hF.size, Array.size_replicate]) j (by rw [hF.size]; rw [Lib.decDigits_length] at hj; exact hj))
   rw [Lib.decDigits_length] at h
   exact h
  go_wp2
  go_ret
  obtain ⟨os, eo⟩ := fin20 w (.cells zeros24 260) dk k
  exact ⟨rfl, by rw [eo]; exact below_grow_drewN _ _ _⟩
theorem formatUint (u : Nat) (hu64 : u < 18446744073709551616) (w : World) (htab : Tab w) :
  Calls Tryz.prog 112 #[.int .u64 u, .int .i64 10] w (RetV (.string ⟨(Lib.decDigits u).toArray⟩) w) := by
 go_enter Tryz.func112, Tryz.ntmps112
 go_wp2_with (go_at_call 156; refine (formatUintI u hu64 _ htab).mono ?_; rintro e w' ⟨rfl, hb⟩)
 go_ret
 exact ⟨rfl, hb⟩
end Go.Proofs.YtpdedfpacklnoaaGreatDoor.T
namespace Go.Proofs.YtpdedfpacklnoaaGreatDoor.T
set_option maxRecDepth 100000
open Go.RowKit Go.Fl

theorem bcat (a b : List UInt8) : (⟨a.toArray⟩ : ByteArray) ++ ⟨b.toArray⟩ = ⟨(a ++ b).toArray⟩ := by
 apply ByteArray.ext
 simp
def intOf : Value → Int | .int _ n => n | _ => 0
def lenOf : Value → Nat | .string s => s.size | _ => 0
/-- The digits still to come, ahead of what stands; of nothing at all, nought. -/
def fin (n : Nat) (t : List UInt8) : List UInt8 := if 0 < n ∨ t = [] then Lib.decDigits n ++ t else t
theorem fin_start (n : Nat) : fin n [] = Lib.decDigits n := by unfold fin; rw [if_pos (.inr rfl), List.append_nil]
theorem fin_step {n : Nat} {t : List UInt8} (h : 0 < n ∨ t = []) : fin (n / 10) (UInt8.ofNat (48 + n % 10) :: t) = fin n t := by
 unfold fin
 rw [if_pos h]
 by_cases h2 : n < 10
 ·rw [if_neg (by simp; omega), Lib.decDigits_one h2, Nat.mod_eq_of_lt h2]; rfl
 ·rw [if_pos (by left; omega)]
  conv => rhs; rw [Lib.decDigits, dif_neg h2]
  simp
theorem len20 {N : Nat} (h : N < 18446744073709551616) : (Lib.decDigits N).length ≤ 20 := by
 rw [Lib.decDigits_length]
 rcases Nat.eq_zero_or_pos N with h0 | h0
 ·subst h0; rw [Lib.nDigits_small (by decide)]; decide
 ·have := Lib.numDigits_eq N h0 h
  split at this <;> omega
theorem fin_len {n : Nat} {t : List UInt8} : t.length ≤ (fin n t).length := by unfold fin; split <;> simp
theorem conv1 (w : World) (t : TypeId) (c : Nat) (hc : c < 256) : (convert 75 9 (.slice (some ⟨w.heap.size, 0, none⟩) 1 1)).run Tryz.prog (w.alloc (.cells #[.int .u8 (c : Int)] t)) = .ok (.string ⟨[UInt8.ofNat c].toArray⟩) (w.alloc (.cells #[.int .u8 (c : Int)] t)) :=
 run_convert_bytes_back (P := Tryz.prog) _ 75 9 5 ⟨w.heap.size, 0, none⟩ 1 [UInt8.ofNat c] Tryz.underlying75 Tryz.underlying5 Tryz.underlying9 (fun j hj => by
  obtain rfl : j = 0 := by simpa using hj
  rw [show (⟨w.heap.size, 0, none⟩ : Addr).add 0 = ⟨w.heap.size, 0, none⟩ from rfl, World.cell?_alloc_new]
  simp
  omega)
theorem conv48 (w : World) : (convert 75 9 (.slice (some ⟨w.heap.size, 0, none⟩) 1 1)).run Tryz.prog (w.alloc (.cells #[.int .u8 48] 5)) = .ok (.string ⟨#[48]⟩) (w.alloc (.cells #[.int .u8 48] 5)) := conv1 w 5 48 (by decide)
end Go.Proofs.YtpdedfpacklnoaaGreatDoor.T
namespace Go.Proofs.YtpdedfpacklnoaaGreatDoor.T
set_option maxRecDepth 100000
open Go.RowKit Go.Fl

theorem idx_hit (h t : List UInt8) (c : UInt8) (hh : c ∉ h) : Lib.indexByte (h ++ c :: t) c = (h.length : Int) := by
 induction h with
 | nil => simp [Lib.indexByte]
 | cons b r ih =>
  have hb : (b == c) = false := by simp; intro e; exact hh (by simp [e])
  have := ih (fun hm => hh (List.mem_cons_of_mem _ hm))
  simp only [List.cons_append, Lib.indexByte, hb, this]
  simp
theorem idx_miss (l : List UInt8) (c : UInt8) (hh : c ∉ l) : Lib.indexByte l c = -1 := by
 induction l with
 | nil => rfl
 | cons b r ih =>
  have hb : (b == c) = false := by simp; intro e; exact hh (by simp [e])
  have := ih (fun hm => hh (List.mem_cons_of_mem _ hm))
  simp [Lib.indexByte, hb, this]
theorem ext_head (h t : List UInt8) (c : UInt8) : (⟨(h ++ c :: t).toArray⟩ : ByteArray).extract 0 h.length = ⟨h.toArray⟩ := by
 apply ByteArray.ext
 simp
theorem ext_tail (h t : List UInt8) (c : UInt8) : (⟨(h ++ c :: t).toArray⟩ : ByteArray).extract (h.length + 1) (h.length + (t.length + 1)) = ⟨t.toArray⟩ := by
 apply ByteArray.ext
 simp
 rw [List.take_of_length_le (by omega)]
theorem bdrew (w : World) (n : Nat) : Below w.heap.size w (w.drewN n) := ⟨rfl, rfl, rfl, Nat.le_refl _, fun _ _ => rfl⟩
set_option maxRecDepth 100000 in
theorem cutI_hit (h t : List UInt8) (hh : (46 : UInt8) ∉ h) (hl : h.length + t.length < 9223372036854775807) (w : World) :
  Calls Tryz.prog 101 #[.string ⟨(h ++ 46 :: t).toArray⟩, .string ⟨#[46]⟩] w (RetV (.tuple #[.string ⟨h.toArray⟩, .string ⟨t.toArray⟩, .bool true]) w) := by
 have hx := Tryz.stringslite_Index_one ⟨(h ++ 46 :: t).toArray⟩ 46
 rw [show Lib.indexByte (⟨(h ++ 46 :: t).toArray⟩ : ByteArray).data.toList 46 = (h.length : Int) from idx_hit h t 46 hh] at hx
 have e1 := ext_head h t 46
 have e2 := ext_tail h t 46
 have b1 : (0 : Int) ≤ h.length := by omega
 have b2 : (h.length : Int) ≤ h.length + (t.length + 1) := by omega
 have b3 : IntKind.i64.wrap ((h.length : Int) + 1) = (h.length : Int) + 1 := by rw [IntKind.wrap_i64]; omega
 have b4 : (0 : Int) ≤ (h.length : Int) + 1 := by omega
 have b5 : (h.length : Int) + 1 ≤ h.length + (t.length + 1) := by omega
 have b6 : ((h.length : Int) + 1).toNat = h.length + 1 := by omega
 go_enter Tryz.func101, Tryz.ntmps101
 go_wp2_with (go_at_call 148; refine (hx _).mono ?_; rintro e w' ⟨rfl, rfl⟩)
 go_quiet (fail)
 go_wp2_with fail
 go_ret3
 exact ⟨rfl, bdrew _ _⟩
theorem cutI_miss (l : List UInt8) (hh : (46 : UInt8) ∉ l) (w : World) :
  Calls Tryz.prog 101 #[.string ⟨l.toArray⟩, .string ⟨#[46]⟩] w (RetV (.tuple #[.string ⟨l.toArray⟩, .string ⟨#[]⟩, .bool false]) w) := by
 have hx := Tryz.stringslite_Index_one ⟨l.toArray⟩ 46
 rw [show Lib.indexByte (⟨l.toArray⟩ : ByteArray).data.toList 46 = -1 from idx_miss l 46 hh] at hx
 go_enter Tryz.func101, Tryz.ntmps101
 go_wp2_with (go_at_call 148; refine (hx _).mono ?_; rintro e w' ⟨rfl, rfl⟩)
 go_ret3
 exact .of_eq rfl rfl
theorem cut_hit (h t : List UInt8) (hh : (46 : UInt8) ∉ h) (hl : h.length + t.length < 9223372036854775807) (w : World) :
  Calls Tryz.prog 56 #[.string ⟨(h ++ 46 :: t).toArray⟩, .string ⟨#[46]⟩] w (RetV (.tuple #[.string ⟨h.toArray⟩, .string ⟨t.toArray⟩, .bool true]) w) := by
 have hx := cutI_hit h t hh hl
 go_enter Tryz.func56, Tryz.ntmps56
 go_wp2_with (go_at_call 101; refine (hx _).mono ?_; rintro e w' ⟨rfl, hb⟩)
 go_ret3
 exact ⟨rfl, hb⟩
theorem cut_miss (l : List UInt8) (hh : (46 : UInt8) ∉ l) (w : World) :
  Calls Tryz.prog 56 #[.string ⟨l.toArray⟩, .string ⟨#[46]⟩] w (RetV (.tuple #[.string ⟨l.toArray⟩, .string ⟨#[]⟩, .bool false]) w) := by
 have hx := cutI_miss l hh
 go_enter Tryz.func56, Tryz.ntmps56
 go_wp2_with (go_at_call 101; refine (hx _).mono ?_; rintro e w' ⟨rfl, hb⟩)
 go_ret3
 exact ⟨rfl, hb⟩
theorem trim_any (l : List UInt8) (hl : l.length ≤ 9223372036854775807) (w : World) :
  Calls Tryz.prog 154 #[.string ⟨l.toArray⟩, .string ⟨#[48, 49, 50, 51, 52, 53, 54, 55, 56, 57]⟩] w (RetV (.string ⟨(Lib.trimS l tenc).toArray⟩) w) :=
 Any.strings_Trim_laid Tryz.lays160 (by kernel_rfl) ⟨l.toArray⟩ ⟨#[48, 49, 50, 51, 52, 53, 54, 55, 56, 57]⟩ w hl (by decide) (ascii_of_all (by decide))
theorem digits_any (l : List UInt8) (hl : l.length ≤ 9223372036854775807) (most : Nat) (w : World) :
  Calls Tryz.prog 104 #[.string ⟨l.toArray⟩, .int .i64 (most : Int)] w (RetV (.bool (dig most l).isSome) w) := by
 have ht := trim_any l hl
 cases l with
 | nil =>
  have H : Hid ((dig most []).isSome = false) := Lib.hid (by rw [dig_some]; rfl)
  go_enter Tryz.func104, Tryz.ntmps104
  go_wp2_with fail
  go_ret
  exact .of_eq (by rw [H.out]; rfl) rfl
 | cons c r =>
  by_cases hm : (r.length : Int) + 1 ≤ most
  ·cases hT : Lib.trimS (c :: r) tenc with
   | nil =>
    rw [hT] at ht
    have H : Hid ((dig most (c :: r)).isSome = true) := Lib.hid (by rw [dig_some, hT]; simp; omega)
    clear hT
    go_enter Tryz.func104, Tryz.ntmps104
    go_wp2_with (go_at_call 154; refine (ht _).mono ?_; rintro e w' ⟨rfl, hb⟩)
    go_ret
    exact ⟨by rw [H.out]; rfl, hb⟩
   | cons d q =>
    rw [hT] at ht
    have H : Hid ((dig most (c :: r)).isSome = false) := Lib.hid (by rw [dig_some, hT]; simp)
    clear hT
    go_enter Tryz.func104, Tryz.ntmps104
    go_wp2_with (go_at_call 154; refine (ht _).mono ?_; rintro e w' ⟨rfl, hb⟩)
    go_ret
    exact ⟨by rw [H.out]; rfl, hb⟩
  ·have H : Hid ((dig most (c :: r)).isSome = false) := Lib.hid (by rw [dig_some]; simp; omega)
   go_enter Tryz.func104, Tryz.ntmps104
   go_wp2_with fail
   go_ret
   exact .of_eq (by rw [H.out]; rfl) rfl
theorem dec_good {l : List UInt8} {n k c : Nat} {x : UInt8} (h : Lib.decFrom 0 (l.take k) = some n) (hx : l[k]? = some x) (hc : x.toNat = c) (h1 : 48 ≤ c) (h2 : c ≤ 57) : Lib.decFrom 0 (l.take (k + 1)) = some (n * 10 + (c - 48)) :=
 Lib.decFrom_take l k 0 n x (c - 48) h hx (by subst hc; unfold Lib.digitVal; rw [if_pos ⟨h1, h2⟩])
theorem dec_bound {l : List UInt8} {m k : Nat} (h : Lib.decFrom 0 (l.take k) = some m) (hk : k ≤ 9) : m ≤ 999999999 := by
 have h1 := Lib.decFrom_lt (l.take k) 0 m h
 have h2 : 10 ^ (l.take k).length ≤ 10 ^ 9 := Nat.pow_le_pow_right (by decide) (by simp; omega)
 have : (10 : Nat) ^ 9 = 1000000000 := by decide
 omega
theorem dec_bad {l : List UInt8} {n k c : Nat} {x : UInt8} (h : Lib.decFrom 0 (l.take k) = some n) (hx : l[k]? = some x) (hc : x.toNat = c) (h1 : ¬ (48 ≤ c ∧ c ≤ 57)) : Lib.decFrom 0 l = none := by
 have hlt : k < l.length := (List.getElem?_eq_some_iff.1 hx).1
 have e : l = l.take k ++ x :: l.drop (k + 1) := by
  rw [← (List.getElem?_eq_some_iff.1 hx).2]
  simp
 rw [e, decFrom_append, h]
 subst hc
 simp only [Option.bind_some, Lib.decFrom, Lib.digitVal, if_neg h1]
set_option maxRecDepth 100000 in
theorem digitsR_any (l : List UInt8) (hl : l.length ≤ 9223372036854775807) (most : Nat) (hm9 : most ≤ 9) (w : World) :
  Calls Tryz.prog 98 #[.string ⟨l.toArray⟩, .int .i64 (most : Int)] w (RetV (.tuple #[.int .i64 ((dig most l).getD 0 : Nat), .bool (dig most l).isSome]) w) := by
 by_cases hm : 0 < l.length ∧ l.length ≤ most
 ·have hne : l.isEmpty = false := by cases l <;> simp_all
  have hq : ¬ most < l.length := by omega
  have Hl : Hid (l.length ≤ 9) := Lib.hid (by omega)
  have Hd : Hid (dig most l = Lib.decFrom 0 l) := Lib.hid (by unfold dig; rw [if_neg]; rintro (rfl | h) <;> simp_all)
  clear hm hm9
  go_enter Tryz.func98, Tryz.ntmps98
  go_wp2_with fail
  go_loop [6, 7] (fun a j => ∃ n k : Nat, a = .int .i64 (n : Int) ∧ j = .int .i64 (k : Int) ∧ k ≤ l.length ∧ (n : Int) ≤ 999999999 ∧ Hid (Lib.decFrom 0 (l.take k) = some n)) (fun _ j => l.length - (intOf j).toNat)
  case atStart => exact ⟨0, 0, rfl, rfl, by omega, by decide, Lib.hid rfl⟩
  case round =>
   obtain ⟨n, k, rfl, rfl, hk, hn, Hn⟩ := hrel
   by_cases hlt : k < l.length
   ·obtain ⟨x, hx⟩ : ∃ x, (⟨l.toArray⟩ : ByteArray)[k]'hlt = x := ⟨_, rfl⟩
    have Hx : Hid (l[k]? = some x) := Lib.hid (by rw [← hx, List.getElem?_eq_getElem hlt]; rfl)
    obtain ⟨c, hc⟩ : ∃ c : Nat, (x.toNat : Int) = (c : Int) := ⟨x.toNat, rfl⟩
    have Hc : Hid (x.toNat = c) := Lib.hid (by omega)
    by_cases hdg : 48 ≤ c ∧ c ≤ 57
    ·obtain ⟨hd1, hd2⟩ := hdg
     have hd3 : ¬ ((c : Int) < 48) := by omega
     have hd4 : ¬ (57 < (c : Int)) := by omega
     have Hn2 := Lib.hid (dec_good Hn.out Hx.out Hc.out hd1 hd2)
     have Hb2 : Hid (n * 10 + (c - 48) ≤ 999999999) := Lib.hid (dec_bound Hn2.out (by have := Hl.out; omega))
     go_wp2_with fail
     exact ⟨⟨n * 10 + (c - 48), k + 1, by have := Hb2.out; go_num, by go_num, by omega, by have := Hb2.out; omega, Hn2⟩, by simp [intOf]; omega⟩
    ·have Hbad := Lib.hid (dec_bad Hn.out Hx.out Hc.out hdg)
     have Hf1 : Hid ((dig most l).isSome = false) := Lib.hid (by rw [Hd.out, Hbad.out]; rfl)
     have Hf2 : Hid ((dig most l).getD 0 = 0) := Lib.hid (by rw [Hd.out, Hbad.out]; rfl)
     by_cases hlo : (c : Int) < 48
     ·go_wp2_with fail
      go_ret2
      exact .of_eq (by rw [Hf1.out, Hf2.out]; rfl) rfl
     ·have hhi : 57 < (c : Int) := by omega
      go_wp2_with fail
      go_ret2
      exact .of_eq (by rw [Hf1.out, Hf2.out]; rfl) rfl
   ·have Hn3 : Hid (Lib.decFrom 0 l = some n) := Lib.hid (by have := Hn.out; rwa [List.take_of_length_le (by omega)] at this)
    have Hf1 : Hid ((dig most l).isSome = true) := Lib.hid (by rw [Hd.out, Hn3.out]; rfl)
    have Hf2 : Hid ((dig most l).getD 0 = n) := Lib.hid (by rw [Hd.out, Hn3.out]; rfl)
    go_wp2_with fail
    go_ret2
    exact .of_eq (by rw [Hf1.out, Hf2.out]; rfl) rfl
 ·have Hn : Hid (dig most l = none) := Lib.hid (by unfold dig; rw [if_pos]; rcases Nat.eq_zero_or_pos l.length with h | h; exact .inl (List.eq_nil_of_length_eq_zero h); exact .inr (by omega))
  have Hf1 : Hid ((dig most l).isSome = false) := Lib.hid (by rw [Hn.out]; rfl)
  have Hf2 : Hid ((dig most l).getD 0 = 0) := Lib.hid (by rw [Hn.out]; rfl)
  cases l with
  | nil =>
   clear hm
   go_enter Tryz.func98, Tryz.ntmps98
   go_wp2_with fail
   go_ret2
   exact .of_eq (by rw [Hf1.out, Hf2.out]; rfl) rfl
  | cons a r =>
   have hq : most < r.length + 1 := by simp at hm; omega
   clear hm
   go_enter Tryz.func98, Tryz.ntmps98
   go_wp2_with fail
   go_ret2
   exact .of_eq (by rw [Hf1.out, Hf2.out]; rfl) rfl
end Go.Proofs.YtpdedfpacklnoaaGreatDoor.T
namespace Go.Proofs.YtpdedfpacklnoaaGreatDoor.T
set_option maxRecDepth 100000
open Go.RowKit Go.Fl

def CutTo (s : ByteArray) (h t : List UInt8) (pt : Bool) : Prop := ∀ w, Calls Tryz.prog 56 #[.string s, .string ⟨#[46]⟩] w (RetV (.tuple #[.string ⟨h.toArray⟩, .string ⟨t.toArray⟩, .bool pt]) w)
theorem price_bad1 (s : ByteArray) (h t : List UInt8) (pt : Bool) (hc : CutTo s h t pt) (hd : ∀ w, Calls Tryz.prog 104 #[.string ⟨h.toArray⟩, .int .i64 9] w (RetV (.bool false) w)) (w : World) :
  Calls Tryz.prog 59 #[.string s] w (RetV (.tuple #[.int .u64 0, .bool false]) w) := by
 go_enter Tryz.func59, Tryz.ntmps59
 go_wp2_with (first | (go_at_call 56; refine (hc _).mono ?_; rintro e w1 ⟨rfl, hb⟩; have Hb := Lib.hid hb; clear hb) | (go_at_call 104; refine (hd _).mono ?_; rintro e w2 ⟨rfl, hb2⟩; have Hb2 := Lib.hid (Hb.out.trans (hb2.mono Hb.out.size)); clear hb2))
 go_ret2
 exact ⟨rfl, Hb2.out⟩
theorem price_bad2 (s : ByteArray) (y : UInt8) (r t : List UInt8) (pt : Bool) (hc : CutTo s (48 :: y :: r) t pt) (hd : ∀ w, Calls Tryz.prog 104 #[.string ⟨(48 :: y :: r).toArray⟩, .int .i64 9] w (RetV (.bool true) w)) (w : World) :
  Calls Tryz.prog 59 #[.string s] w (RetV (.tuple #[.int .u64 0, .bool false]) w) := by
 go_enter Tryz.func59, Tryz.ntmps59
 go_wp2_with (first | (go_at_call 56; refine (hc _).mono ?_; rintro e w1 ⟨rfl, hb⟩; have Hb := Lib.hid hb; clear hb) | (go_at_call 104; refine (hd _).mono ?_; rintro e w2 ⟨rfl, hb2⟩; have Hb2 := Lib.hid (Hb.out.trans (hb2.mono Hb.out.size)); clear hb2))
 go_ret2
 exact ⟨rfl, Hb2.out⟩
theorem head_at (x : UInt8) (r : List UInt8) : (⟨(x :: r).toArray⟩ : ByteArray)[0]'(by simp [ByteArray.size]) = x := rfl
theorem ne48 {x : UInt8} (h : x ≠ 48) : ¬ (x.toNat : Int) = 48 := fun e => h (UInt8.toNat_inj.1 (by simpa using Int.ofNat.inj e))
theorem price_bad3 (s : ByteArray) (h t : List UInt8) (hh : h = [48] ∨ ∃ x r, h = x :: r ∧ x ≠ 48) (hc : CutTo s h t true) (hd : ∀ w, Calls Tryz.prog 104 #[.string ⟨h.toArray⟩, .int .i64 9] w (RetV (.bool true) w)) (hd2 : ∀ w, Calls Tryz.prog 104 #[.string ⟨t.toArray⟩, .int .i64 6] w (RetV (.bool false) w)) (w : World) :
  Calls Tryz.prog 59 #[.string s] w (RetV (.tuple #[.int .u64 0, .bool false]) w) := by
 rcases hh with rfl | ⟨x, r, rfl, hx⟩
 ·go_enter Tryz.func59, Tryz.ntmps59
  go_wp2_with (go_at_call 56; refine (hc _).mono ?_; rintro e w1 ⟨rfl, hb⟩; have Hb := Lib.hid hb; clear hb) 
  go_at_call 104
  refine (hd _).mono ?_
  rintro e w2 ⟨rfl, hb2⟩
  have Hb2 := Lib.hid (Hb.out.trans (hb2.mono Hb.out.size))
  clear hb2
  go_wp2_with (go_at_call 104; refine (hd2 _).mono ?_; rintro e w3 ⟨rfl, hb3⟩; have Hb3 := Lib.hid (Hb2.out.trans (hb3.mono Hb2.out.size)); clear hb3)
  go_ret2
  exact ⟨rfl, Hb3.out⟩
 ·have hx0 := head_at x r
  have hx1 := ne48 hx
  have hx2 : (x == 48) = false := by simpa using hx
  clear hx
  go_enter Tryz.func59, Tryz.ntmps59
  go_wp2_with (go_at_call 56; refine (hc _).mono ?_; rintro e w1 ⟨rfl, hb⟩; have Hb := Lib.hid hb; clear hb) 
  go_at_call 104
  refine (hd _).mono ?_
  rintro e w2 ⟨rfl, hb2⟩
  have Hb2 := Lib.hid (Hb.out.trans (hb2.mono Hb.out.size))
  clear hb2
  go_wp2_with (go_at_call 104; refine (hd2 _).mono ?_; rintro e w3 ⟨rfl, hb3⟩; have Hb3 := Lib.hid (Hb2.out.trans (hb3.mono Hb2.out.size)); clear hb3)
  go_ret2
  exact ⟨rfl, Hb3.out⟩
/-- Powers of ten, as floats. -/
def pw : Nat → Nat
 | 0 => 4607182418800017408
 | k + 1 => (Ieee.double.mul (pw k) 4621819117588971520).getD 0
theorem pw_step (k : Nat) (h : k < 6) : Ieee.double.mul (pw k) 4621819117588971520 = some (pw (k + 1)) := by
 match k, h with
 | 0, _ | 1, _ | 2, _ | 3, _ | 4, _ | 5, _ => decide +kernel
 | k + 6, h => omega
theorem pw_nat (k : Nat) (h : k < 7) : pw k = Ieee.double.nearest false (10 ^ k) 0 := by
 match k, h with
 | 0, _ | 1, _ | 2, _ | 3, _ | 4, _ | 5, _ | 6, _ => decide +kernel
 | k + 7, h => omega
theorem below_iter {B : World} {w : World} (h : Below B.heap.size B w) (s : ByteArray) (p : Nat) : Below B.heap.size B (w.iter s p) := h.alloc h.size _
set_option maxRecDepth 100000 in
theorem price_ok (s : ByteArray) (h t : List UInt8) (pt : Bool) (N A P : Nat) (hh : h = [48] ∨ ∃ x r, h = x :: r ∧ x ≠ 48) (hc : CutTo s h t pt) (hd : ∀ w, Calls Tryz.prog 104 #[.string ⟨h.toArray⟩, .int .i64 9] w (RetV (.bool true) w))
  (hd2 : pt = true → ∀ w, Calls Tryz.prog 104 #[.string ⟨t.toArray⟩, .int .i64 6] w (RetV (.bool true) w)) (hlh : h.length ≤ 9) (hlt : t.length ≤ 6)
  (hasc : ∀ (j : Nat) (hj : j < t.length), ((⟨t.toArray⟩ : ByteArray)[j]'hj).toNat < 128)
  (hp : ∀ w, Calls Tryz.prog 105 #[.string ⟨(h ++ t).toArray⟩, .int .i64 10, .int .i64 64] w (RetV (.tuple #[.int .u64 (N : Int), .nilIface]) w))
  (hcf : ∀ w, (convert 25 163 (.int .u64 (N : Int))).run Tryz.prog w = .ok (.float .f64 A) w)
  (hq : ∀ w, (binOp .quo 163 (.float .f64 A) (.float .f64 (pw t.length))).run Tryz.prog w = .ok (.float .f64 P) w)
  (hnan : isNaN P = false) (w : World) :
  Calls Tryz.prog 59 #[.string s] w (RetV (.tuple #[.int .u64 (P : Int), .bool true]) w) := by
 have hbits := bits_any P hnan
 have hcat := bcat h t
 have hl0 : ¬ 9223372036854775807 < h.length + t.length := by omega
 have Hasc := Lib.hid hasc
 clear hnan hasc
 rcases hh with rfl | ⟨x, r, rfl, hx⟩
 ·cases pt with
  | true =>
   have hd3 := hd2 rfl
   clear hd2
   go_enter Tryz.func59, Tryz.ntmps59
   go_wp2_with (go_at_call 56; refine (hc _).mono ?_; rintro e w1 ⟨rfl, hb⟩; have Hb := Lib.hid hb; clear hb)
   go_at_call 104
   refine (hd _).mono ?_
   rintro e w2 ⟨rfl, hb2⟩
   have Hb2 := Lib.hid (Hb.out.trans (hb2.mono Hb.out.size))
   clear hb2
   go_wp2_with (first | (go_at_call 104; refine (hd3 _).mono ?_; rintro e w3 ⟨rfl, hb3⟩; have Hb3 := Lib.hid (Hb2.out.trans (hb3.mono Hb2.out.size)); clear hb3) | (go_at_call 105; refine (hp _).mono ?_; rintro e w4 ⟨rfl, hb4⟩; have Hb4 := Lib.hid (Hb3.out.trans (hb4.mono Hb3.out.size)); clear hb4))
   go_loopw [9] (fun f wr => ∃ k : Nat, k ≤ t.length ∧ wr = w4.iter ⟨t.toArray⟩ k ∧ f = .float .f64 (pw k)) (fun _ wr => t.length - wr.iterPos w4.heap.size)
   case atStart => exact ⟨0, Nat.zero_le _, rfl, rfl⟩
   case round =>
    obtain ⟨k, hk, rfl, rfl⟩ := hrel
    by_cases hkl : k < t.length
    ·have hnx : ∀ ty, (Instr.next (.pointer (some ⟨w4.heap.size, 0, none⟩)) true ty).run Tryz.prog (w4.iter ⟨t.toArray⟩ k) = _ := fun ty => run_next_ascii w4 ⟨t.toArray⟩ k ty hkl (Hasc.out k hkl)
     have hmul : ∀ W, (binOp .mul 163 (.float .f64 (pw k)) (.float .f64 4621819117588971520)).run Tryz.prog W = .ok (.float .f64 (pw (k + 1))) W := fun W => run_float_arith W .mul 39 .f64 _ _ _ (pw_step k (by omega))
     go_wp2_with fail
     go_roundw
     case rel => exact ⟨k + 1, hkl, rfl, rfl⟩
     case measure => simp; omega
    ·have hnx : ∀ ty, (Instr.next (.pointer (some ⟨w4.heap.size, 0, none⟩)) true ty).run Tryz.prog (w4.iter ⟨t.toArray⟩ k) = _ := fun ty => run_next_end w4 ⟨t.toArray⟩ k ty hkl
     have hkk : Hid (k = t.length) := Lib.hid (by omega)
     have hq2 : ∀ W, (binOp .quo 163 (.float .f64 A) (.float .f64 (pw k))).run Tryz.prog W = .ok (.float .f64 P) W := fun W => by rw [hkk.out]; exact hq W
     clear hq
     go_wp2_with (go_at_call 106; refine (hbits _).mono ?_; rintro e w5 ⟨rfl, rfl⟩)
     go_ret2
     exact ⟨rfl, below_iter Hb4.out _ _⟩
  | false =>
   clear hd2
   go_enter Tryz.func59, Tryz.ntmps59
   go_wp2_with (go_at_call 56; refine (hc _).mono ?_; rintro e w1 ⟨rfl, hb⟩; have Hb := Lib.hid hb; clear hb)
   go_at_call 104
   refine (hd _).mono ?_
   rintro e w2 ⟨rfl, hb2⟩
   have Hb2 := Lib.hid (Hb.out.trans (hb2.mono Hb.out.size))
   clear hb2
   go_wp2_with (go_at_call 105; refine (hp _).mono ?_; rintro e w4 ⟨rfl, hb4⟩; have Hb4 := Lib.hid (Hb2.out.trans (hb4.mono Hb2.out.size)); clear hb4)
   go_loopw [9] (fun f wr => ∃ k : Nat, k ≤ t.length ∧ wr = w4.iter ⟨t.toArray⟩ k ∧ f = .float .f64 (pw k)) (fun _ wr => t.length - wr.iterPos w4.heap.size)
   case atStart => exact ⟨0, Nat.zero_le _, rfl, rfl⟩
   case round =>
    obtain ⟨k, hk, rfl, rfl⟩ := hrel
    by_cases hkl : k < t.length
    ·have hnx : ∀ ty, (Instr.next (.pointer (some ⟨w4.heap.size, 0, none⟩)) true ty).run Tryz.prog (w4.iter ⟨t.toArray⟩ k) = _ := fun ty => run_next_ascii w4 ⟨t.toArray⟩ k ty hkl (Hasc.out k hkl)
     have hmul : ∀ W, (binOp .mul 163 (.float .f64 (pw k)) (.float .f64 4621819117588971520)).run Tryz.prog W = .ok (.float .f64 (pw (k + 1))) W := fun W => run_float_arith W .mul 39 .f64 _ _ _ (pw_step k (by omega))
     go_wp2_with fail
     go_roundw
     case rel => exact ⟨k + 1, hkl, rfl, rfl⟩
     case measure => simp; omega
    ·have hnx : ∀ ty, (Instr.next (.pointer (some ⟨w4.heap.size, 0, none⟩)) true ty).run Tryz.prog (w4.iter ⟨t.toArray⟩ k) = _ := fun ty => run_next_end w4 ⟨t.toArray⟩ k ty hkl
     have hkk : Hid (k = t.length) := Lib.hid (by omega)
     have hq2 : ∀ W, (binOp .quo 163 (.float .f64 A) (.float .f64 (pw k))).run Tryz.prog W = .ok (.float .f64 P) W := fun W => by rw [hkk.out]; exact hq W
     clear hq
     go_wp2_with (go_at_call 106; refine (hbits _).mono ?_; rintro e w5 ⟨rfl, rfl⟩)
     go_ret2
     exact ⟨rfl, below_iter Hb4.out _ _⟩
 ·have hx0 := head_at x r
  have hx1 := ne48 hx
  have hx2 : (x == 48) = false := by simpa using hx
  clear hx
  cases pt with
  | true =>
   have hd3 := hd2 rfl
   clear hd2
   go_enter Tryz.func59, Tryz.ntmps59
   go_wp2_with (go_at_call 56; refine (hc _).mono ?_; rintro e w1 ⟨rfl, hb⟩; have Hb := Lib.hid hb; clear hb)
   go_at_call 104
   refine (hd _).mono ?_
   rintro e w2 ⟨rfl, hb2⟩
   have Hb2 := Lib.hid (Hb.out.trans (hb2.mono Hb.out.size))
   clear hb2
   go_wp2_with (first | (go_at_call 104; refine (hd3 _).mono ?_; rintro e w3 ⟨rfl, hb3⟩; have Hb3 := Lib.hid (Hb2.out.trans (hb3.mono Hb2.out.size)); clear hb3) | (go_at_call 105; refine (hp _).mono ?_; rintro e w4 ⟨rfl, hb4⟩; have Hb4 := Lib.hid (Hb3.out.trans (hb4.mono Hb3.out.size)); clear hb4))
   go_loopw [9] (fun f wr => ∃ k : Nat, k ≤ t.length ∧ wr = w4.iter ⟨t.toArray⟩ k ∧ f = .float .f64 (pw k)) (fun _ wr => t.length - wr.iterPos w4.heap.size)
   case atStart => exact ⟨0, Nat.zero_le _, rfl, rfl⟩
   case round =>
    obtain ⟨k, hk, rfl, rfl⟩ := hrel
    by_cases hkl : k < t.length
    ·have hnx : ∀ ty, (Instr.next (.pointer (some ⟨w4.heap.size, 0, none⟩)) true ty).run Tryz.prog (w4.iter ⟨t.toArray⟩ k) = _ := fun ty => run_next_ascii w4 ⟨t.toArray⟩ k ty hkl (Hasc.out k hkl)
     have hmul : ∀ W, (binOp .mul 163 (.float .f64 (pw k)) (.float .f64 4621819117588971520)).run Tryz.prog W = .ok (.float .f64 (pw (k + 1))) W := fun W => run_float_arith W .mul 39 .f64 _ _ _ (pw_step k (by omega))
     go_wp2_with fail
     go_roundw
     case rel => exact ⟨k + 1, hkl, rfl, rfl⟩
     case measure => simp; omega
    ·have hnx : ∀ ty, (Instr.next (.pointer (some ⟨w4.heap.size, 0, none⟩)) true ty).run Tryz.prog (w4.iter ⟨t.toArray⟩ k) = _ := fun ty => run_next_end w4 ⟨t.toArray⟩ k ty hkl
     have hkk : Hid (k = t.length) := Lib.hid (by omega)
     have hq2 : ∀ W, (binOp .quo 163 (.float .f64 A) (.float .f64 (pw k))).run Tryz.prog W = .ok (.float .f64 P) W := fun W => by rw [hkk.out]; exact hq W
     clear hq
     go_wp2_with (go_at_call 106; refine (hbits _).mono ?_; rintro e w5 ⟨rfl, rfl⟩)
     go_ret2
     exact ⟨rfl, below_iter Hb4.out _ _⟩
  | false =>
   clear hd2
   go_enter Tryz.func59, Tryz.ntmps59
   go_wp2_with (go_at_call 56; refine (hc _).mono ?_; rintro e w1 ⟨rfl, hb⟩; have Hb := Lib.hid hb; clear hb)
   go_at_call 104
   refine (hd _).mono ?_
   rintro e w2 ⟨rfl, hb2⟩
   have Hb2 := Lib.hid (Hb.out.trans (hb2.mono Hb.out.size))
   clear hb2
   go_wp2_with (go_at_call 105; refine (hp _).mono ?_; rintro e w4 ⟨rfl, hb4⟩; have Hb4 := Lib.hid (Hb2.out.trans (hb4.mono Hb2.out.size)); clear hb4)
   go_loopw [9] (fun f wr => ∃ k : Nat, k ≤ t.length ∧ wr = w4.iter ⟨t.toArray⟩ k ∧ f = .float .f64 (pw k)) (fun _ wr => t.length - wr.iterPos w4.heap.size)
   case atStart => exact ⟨0, Nat.zero_le _, rfl, rfl⟩
   case round =>
    obtain ⟨k, hk, rfl, rfl⟩ := hrel
    by_cases hkl : k < t.length
    ·have hnx : ∀ ty, (Instr.next (.pointer (some ⟨w4.heap.size, 0, none⟩)) true ty).run Tryz.prog (w4.iter ⟨t.toArray⟩ k) = _ := fun ty => run_next_ascii w4 ⟨t.toArray⟩ k ty hkl (Hasc.out k hkl)
     have hmul : ∀ W, (binOp .mul 163 (.float .f64 (pw k)) (.float .f64 4621819117588971520)).run Tryz.prog W = .ok (.float .f64 (pw (k + 1))) W := fun W => run_float_arith W .mul 39 .f64 _ _ _ (pw_step k (by omega))
     go_wp2_with fail
     go_roundw
     case rel => exact ⟨k + 1, hkl, rfl, rfl⟩
     case measure => simp; omega
    ·have hnx : ∀ ty, (Instr.next (.pointer (some ⟨w4.heap.size, 0, none⟩)) true ty).run Tryz.prog (w4.iter ⟨t.toArray⟩ k) = _ := fun ty => run_next_end w4 ⟨t.toArray⟩ k ty hkl
     have hkk : Hid (k = t.length) := Lib.hid (by omega)
     have hq2 : ∀ W, (binOp .quo 163 (.float .f64 A) (.float .f64 (pw k))).run Tryz.prog W = .ok (.float .f64 P) W := fun W => by rw [hkk.out]; exact hq W
     clear hq
     go_wp2_with (go_at_call 106; refine (hbits _).mono ?_; rintro e w5 ⟨rfl, rfl⟩)
     go_ret2
     exact ⟨rfl, below_iter Hb4.out _ _⟩
end Go.Proofs.YtpdedfpacklnoaaGreatDoor.T
namespace Go.Proofs.YtpdedfpacklnoaaGreatDoor.T
set_option maxRecDepth 100000
open Go.RowKit Go.Fl

def bad : Value := .tuple #[.int .u64 0, .bool false]
def good (P : Nat) : Value := .tuple #[.int .u64 (P : Int), .bool true]
def DigR (l : List UInt8) (most : Int) (n : Nat) (b : Bool) : Prop := ∀ w, Calls Tryz.prog 98 #[.string ⟨l.toArray⟩, .int .i64 most] w (RetV (.tuple #[.int .i64 (n : Int), .bool b]) w)
/-- A quotient of two numbers' floats. -/
def QuoR (n b P : Nat) : Prop := ∃ A B : Nat, (∀ w, (convert 3 163 (.int .i64 (n : Int))).run Tryz.prog w = .ok (.float .f64 A) w) ∧ (∀ w, (convert 3 163 (.int .i64 (b : Int))).run Tryz.prog w = .ok (.float .f64 B) w) ∧
 (∀ w, (binOp .quo 163 (.float .f64 A) (.float .f64 B)).run Tryz.prog w = .ok (.float .f64 P) w) ∧ isNaN P = false
def HeadOk (h : List UInt8) : Prop := (h.length : Int) ≤ 1 ∨ ∃ x r, h = x :: r ∧ x ≠ 48
/-- What the document makes of a head and a tail. -/
inductive Tail (h t : List UInt8) (res : Value) : Prop
 | bad1 (hd : DigR h 9 0 false) (hr : res = bad)
 | bad2 (y : UInt8) (r : List UInt8) (n : Nat) (he : h = 48 :: y :: r) (hd : DigR h 9 n true) (hr : res = bad)
 | bad3 (n : Nat) (hh : HeadOk h) (hd : DigR h 9 n true) (ht : t ≠ []) (hd2 : DigR t 6 0 false) (hr : res = bad)
 | good1 (n k P : Nat) (hh : HeadOk h) (hd : DigR h 9 n true) (ht : t ≠ []) (hd2 : DigR t 6 k true) (hn : n ≤ 999999999) (hk : k ≤ 999999) (ht6 : t.length ≤ 6) (hq : QuoR (n * 10 ^ t.length + k) (10 ^ t.length) P) (hr : res = good P)
 | good2 (n P : Nat) (hh : HeadOk h) (hd : DigR h 9 n true) (ht : t = []) (hq : QuoR n 1 P) (hr : res = good P)
theorem pow6 {k : Nat} (h : k ≤ 6) : 10 ^ k ≤ 1000000 := Nat.le_trans (Nat.pow_le_pow_right (by decide) h) (by decide)
theorem not46' (h : List UInt8) (k : Nat) (hk : k < h.length) (hh : ∀ x, x ∈ h → x ≠ 46) : ¬ ((((⟨h.toArray⟩ : ByteArray)[k]'hk).toNat : Int) = 46) := by
 have h1 := hh h[k] (List.getElem_mem hk)
 intro e
 exact h1 (UInt8.toNat_inj.1 (Int.ofNat.inj e))
theorem not46 (h t : List UInt8) (k : Nat) (hk : k < h.length) (hh : ∀ x, x ∈ h → x ≠ 46) : ¬ ((((⟨(h ++ 46 :: t).toArray⟩ : ByteArray)[k]'(by simp [ByteArray.size]; omega)).toNat : Int) = 46) := by
 have h1 := hh h[k] (List.getElem_mem hk)
 have h2 : (h ++ 46 :: t)[k]'(by simp; omega) = h[k] := by rw [List.getElem_append_left hk]
 rw [← h2] at h1
 intro e
 exact h1 (UInt8.toNat_inj.1 (Int.ofNat.inj e))
theorem at46 (h t : List UInt8) : (((⟨(h ++ 46 :: t).toArray⟩ : ByteArray)[h.length]'(by simp [ByteArray.size])).toNat : Int) = 46 := by
 have h2 : (h ++ 46 :: t)[h.length]'(by simp) = 46 := by rw [List.getElem_append_right (Nat.le_refl _)]; simp
 show ((((h ++ 46 :: t)[h.length]'(by simp)).toNat : Nat) : Int) = 46
 rw [h2]
 rfl
set_option maxRecDepth 100000 in
set_option maxHeartbeats 400000 in
theorem priceR_hit (h t : List UInt8) (hh46 : ∀ x, x ∈ h → x ≠ 46) (hne : t ≠ []) (hl : h.length + t.length ≤ 9223372036854775806) (res : Value) (hcase : Tail h t res) (w : World) :
  Calls Tryz.prog 54 #[.string ⟨(h ++ 46 :: t).toArray⟩] w (RetV res w) := by
 have Hcase := Lib.hid hcase
 have H46 := Lib.hid hh46
 have Hne := Lib.hid hne
 clear hcase hh46 hne
 go_enter Tryz.func54, Tryz.ntmps54
 go_wp2_with fail
 go_loopw [6] (fun i wr => ∃ k : Nat, k ≤ h.length ∧ i = .int .i64 (k : Int) ∧ Hid (wr = w)) (fun i _ => h.length - (intOf i).toNat)
 case atStart => exact ⟨0, Nat.zero_le _, rfl, Lib.hid (by simp)⟩
 case round =>
  obtain ⟨k, hk, rfl, Hwr⟩ := hrel
  obtain rfl := Hwr.out
  have hkl2 : k < h.length + (t.length + 1) := by omega
  by_cases hkl : k < h.length
  ·obtain ⟨c, hc⟩ : ∃ c : Nat, (((⟨(h ++ 46 :: t).toArray⟩ : ByteArray)[k]'(by simp [ByteArray.size]; omega)).toNat : Int) = (c : Int) := ⟨_, rfl⟩
   have hc46 : ¬ ((c : Int) = 46) := by rw [← hc]; exact not46 h t k hkl H46.out
   go_wp2_with fail
   go_roundw
   case rel => exact ⟨k + 1, hkl, by go_num, Lib.hid (by simp)⟩
   case measure => simp [intOf]; omega
  ·obtain rfl : k = h.length := by omega
   have hc46 : (((⟨(h ++ 46 :: t).toArray⟩ : ByteArray)[h.length]'(by simp [ByteArray.size])).toNat : Int) = 46 := at46 h t
   have e1 := ext_head h t 46
   have e2 := ext_tail h t 46
   have b1 : (0 : Int) ≤ h.length := by omega
   have b2 : (h.length : Int) ≤ h.length + (t.length + 1) := by omega
   have b3 : IntKind.i64.wrap ((h.length : Int) + 1) = (h.length : Int) + 1 := by rw [IntKind.wrap_i64]; omega
   have b4 : (0 : Int) ≤ (h.length : Int) + 1 := by omega
   have b5 : (h.length : Int) + 1 ≤ h.length + (t.length + 1) := by omega
   have b6 : ((h.length : Int) + 1).toNat = h.length + 1 := by omega
   have hte : t.isEmpty = false := by have := Hne.out; cases t <;> simp_all
   have hte2 := Hne.out
   go_wp2_with fail
   go_quiet (fail)
   go_wp2_with fail
   have Hb0 : Hid (Below wr.heap.size wr (wr.drewN nq)) := Lib.hid (bdrew _ _)
   clear b1 b2 b3 b4 b5 b6 e1 e2 hc46
   have hne := Hne.out
   have hcase := Hcase.out
   rcases hcase with ⟨hd, hr⟩ | ⟨y, r, n, he, hd, hr⟩ | ⟨n, hh, hd, ht, hd2, hr⟩ | ⟨n, q, P, hh, hd, ht, hd2, hn9, hk9, ht6, hq, hr⟩ | ⟨n, P, hh, hd, ht, hq, hr⟩
   ·subst hr
    go_wp2_with (go_at_call 98; refine (hd _).mono ?_; rintro e w1 ⟨rfl, hb⟩; have Hw1 := Lib.hid (Hb0.out.trans (hb.mono Hb0.out.size)); clear hb)
    go_ret2
    exact ⟨rfl, Hw1.out⟩
   ·subst hr
    subst he
    go_wp2_with (go_at_call 98; refine (hd _).mono ?_; rintro e w1 ⟨rfl, hb⟩; have Hw1 := Lib.hid (Hb0.out.trans (hb.mono Hb0.out.size)); clear hb)
    go_ret2
    exact ⟨rfl, Hw1.out⟩
   ·subst hr
    have hte : t.isEmpty = false := by cases t <;> simp_all
    rcases hh with hh | ⟨x, r, rfl, hx⟩
    ·go_wp2_with fail
     go_at_call 98
     refine (hd _).mono ?_
     rintro e w1 ⟨rfl, hb⟩
     have Hw1 := Lib.hid (Hb0.out.trans (hb.mono Hb0.out.size))
     clear hb
     go_wp2_with (go_at_call 98; refine (hd2 _).mono ?_; rintro e w2 ⟨rfl, hb⟩; have Hw2 := Lib.hid (Hw1.out.trans (hb.mono Hw1.out.size)); clear hb)
     go_ret2
     exact ⟨rfl, Hw2.out⟩
    ·have hx0 := head_at x r
     have hx1 := ne48 hx
     clear hx
     go_wp2_with fail
     go_at_call 98
     refine (hd _).mono ?_
     rintro e w1 ⟨rfl, hb⟩
     have Hw1 := Lib.hid (Hb0.out.trans (hb.mono Hb0.out.size))
     clear hb
     go_wp2_with (go_at_call 98; refine (hd2 _).mono ?_; rintro e w2 ⟨rfl, hb⟩; have Hw2 := Lib.hid (Hw1.out.trans (hb.mono Hw1.out.size)); clear hb)
     all_goals
      go_ret2
      exact ⟨rfl, Hw2.out⟩
   ·subst hr
    have hte : t.isEmpty = false := by cases t <;> simp_all
    rcases hh with hh | ⟨x, r, rfl, hx⟩
    ·have Hq := Lib.hid hq
     have hn10 : (n : Int) ≤ 999999999 := by omega
     have hk10 : (q : Int) ≤ 999999 := by omega
     clear hq hn9 hk9
     go_wp2_with fail
     go_at_call 98
     refine (hd _).mono ?_
     rintro e w1 ⟨rfl, hb⟩
     have Hw1 := Lib.hid (Hb0.out.trans (hb.mono Hb0.out.size))
     clear hb
     go_wp2_with (go_at_call 98; refine (hd2 _).mono ?_; rintro e w2 ⟨rfl, hb⟩; have Hw2 := Lib.hid (Hw1.out.trans (hb.mono Hw1.out.size)); clear hb)
     all_goals
      go_loop [9, 60] (fun b i => ∃ (k B : Nat), k ≤ t.length ∧ b = .int .i64 (B : Int) ∧ i = .int .i64 (k : Int) ∧ (B : Int) ≤ 1000000 ∧ Hid (B = 10 ^ k)) (fun _ i => t.length - (intOf i).toNat)
      case atStart => exact ⟨0, 1, Nat.zero_le _, rfl, rfl, by decide, Lib.hid rfl⟩
      case round =>
       obtain ⟨k, B, hk, rfl, rfl, hB, HB⟩ := hrel
       by_cases hkl : k < t.length
       ·have HB2 : Hid (B * 10 = 10 ^ (k + 1)) := Lib.hid (by rw [HB.out, Nat.pow_succ])
        have hB2 : (B : Int) * 10 ≤ 1000000 := by have h1 := HB2.out; have h2 := @pow6 (k + 1) (by omega); omega
        go_wp2_with fail
        exact ⟨⟨k + 1, B * 10, hkl, by go_num, by go_num, by omega, HB2⟩, by simp [intOf]; omega⟩
       ·have hkk : Hid (k = t.length) := Lib.hid (by omega)
        obtain ⟨X, hX⟩ : ∃ X : Nat, (n : Int) * (B : Int) = (X : Int) := ⟨n * B, by simp⟩
        have HX : Hid (X = n * 10 ^ t.length) := Lib.hid (by rw [← hkk.out, ← HB.out]; apply Int.ofNat.inj; exact hX.symm.trans (Int.natCast_mul n B).symm)
        have hX9 : (X : Int) ≤ 999999999000000 := by
         rw [← hX]
         exact Int.le_trans (Int.mul_le_mul hn10 hB (by omega) (by decide)) (by decide)
        obtain ⟨Y, hY⟩ : ∃ Y : Nat, (X : Int) + (q : Int) = (Y : Int) := ⟨X + q, by simp⟩
        have HY : Hid (Y = n * 10 ^ t.length + q) := Lib.hid (by rw [← HX.out]; omega)
        have hY9 : (Y : Int) ≤ 1000000000000000 := by omega
        obtain ⟨A, B', q1, q2, q3, q4⟩ := Hq.out
        rw [← HY.out] at q1
        rw [← hkk.out, ← HB.out] at q2
        have hbits := bitsR_any P q4
        clear q4 hB
        have hw1 : IntKind.i64.wrap ((n : Int) * (B : Int)) = (X : Int) := by rw [hX, IntKind.wrap_i64]; omega
        have hw2 : IntKind.i64.wrap ((X : Int) + (q : Int)) = (Y : Int) := by rw [hY, IntKind.wrap_i64]; omega
        go_wp2_with (go_at_call 99; refine (hbits _).mono ?_; rintro e w5 ⟨rfl, rfl⟩)
        go_ret2
        exact ⟨rfl, Hw2.out⟩
    ·have hx0 := head_at x r
     have hx1 := ne48 hx
     clear hx
     have Hq := Lib.hid hq
     have hn10 : (n : Int) ≤ 999999999 := by omega
     have hk10 : (q : Int) ≤ 999999 := by omega
     clear hq hn9 hk9
     go_wp2_with fail
     go_at_call 98
     refine (hd _).mono ?_
     rintro e w1 ⟨rfl, hb⟩
     have Hw1 := Lib.hid (Hb0.out.trans (hb.mono Hb0.out.size))
     clear hb
     go_wp2_with (go_at_call 98; refine (hd2 _).mono ?_; rintro e w2 ⟨rfl, hb⟩; have Hw2 := Lib.hid (Hw1.out.trans (hb.mono Hw1.out.size)); clear hb)
     all_goals
      go_loop [9, 60] (fun b i => ∃ (k B : Nat), k ≤ t.length ∧ b = .int .i64 (B : Int) ∧ i = .int .i64 (k : Int) ∧ (B : Int) ≤ 1000000 ∧ Hid (B = 10 ^ k)) (fun _ i => t.length - (intOf i).toNat)
      case atStart => exact ⟨0, 1, Nat.zero_le _, rfl, rfl, by decide, Lib.hid rfl⟩
      case round =>
       obtain ⟨k, B, hk, rfl, rfl, hB, HB⟩ := hrel
       by_cases hkl : k < t.length
       ·have HB2 : Hid (B * 10 = 10 ^ (k + 1)) := Lib.hid (by rw [HB.out, Nat.pow_succ])
        have hB2 : (B : Int) * 10 ≤ 1000000 := by have h1 := HB2.out; have h2 := @pow6 (k + 1) (by omega); omega
        go_wp2_with fail
        exact ⟨⟨k + 1, B * 10, hkl, by go_num, by go_num, by omega, HB2⟩, by simp [intOf]; omega⟩
       ·have hkk : Hid (k = t.length) := Lib.hid (by omega)
        obtain ⟨X, hX⟩ : ∃ X : Nat, (n : Int) * (B : Int) = (X : Int) := ⟨n * B, by simp⟩
        have HX : Hid (X = n * 10 ^ t.length) := Lib.hid (by rw [← hkk.out, ← HB.out]; apply Int.ofNat.inj; exact hX.symm.trans (Int.natCast_mul n B).symm)
        have hX9 : (X : Int) ≤ 999999999000000 := by
         rw [← hX]
         exact Int.le_trans (Int.mul_le_mul hn10 hB (by omega) (by decide)) (by decide)
        obtain ⟨Y, hY⟩ : ∃ Y : Nat, (X : Int) + (q : Int) = (Y : Int) := ⟨X + q, by simp⟩
        have HY : Hid (Y = n * 10 ^ t.length + q) := Lib.hid (by rw [← HX.out]; omega)
        have hY9 : (Y : Int) ≤ 1000000000000000 := by omega
        obtain ⟨A, B', q1, q2, q3, q4⟩ := Hq.out
        rw [← HY.out] at q1
        rw [← hkk.out, ← HB.out] at q2
        have hbits := bitsR_any P q4
        clear q4 hB
        have hw1 : IntKind.i64.wrap ((n : Int) * (B : Int)) = (X : Int) := by rw [hX, IntKind.wrap_i64]; omega
        have hw2 : IntKind.i64.wrap ((X : Int) + (q : Int)) = (Y : Int) := by rw [hY, IntKind.wrap_i64]; omega
        go_wp2_with (go_at_call 99; refine (hbits _).mono ?_; rintro e w5 ⟨rfl, rfl⟩)
        go_ret2
        exact ⟨rfl, Hw2.out⟩
   ·exact absurd ht hne
set_option maxRecDepth 100000 in
theorem priceR_hit_nil (h : List UInt8) (hh46 : ∀ x, x ∈ h → x ≠ 46) (hl : h.length ≤ 9223372036854775806) (w : World) :
  Calls Tryz.prog 54 #[.string ⟨(h ++ 46 :: []).toArray⟩] w (RetV bad w) := by
 have H46 := Lib.hid hh46
 clear hh46
 obtain ⟨s, hs⟩ : ∃ s, h ++ [46] = s := ⟨_, rfl⟩
 have e1 := ext_head h [] 46
 have e2 := ext_tail h [] 46
 have h46 := at46 h []
 have e3 : h.length + (([] : List UInt8).length + 1) = s.length := by rw [← hs]; simp
 rw [e3] at e2
 rw [hs] at e1 e2 ⊢
 have h46' : ∀ hp, (((⟨s.toArray⟩ : ByteArray)[h.length]'hp).toNat : Int) = 46 := by subst hs; exact fun _ => h46
 clear h46 e3
 have hls : s.length = h.length + 1 := by rw [← hs]; simp
 have Hs := Lib.hid hs
 clear hs
 go_enter Tryz.func54, Tryz.ntmps54
 go_wp2_with fail
 go_loopw [6] (fun i wr => ∃ k : Nat, k ≤ h.length ∧ i = .int .i64 (k : Int) ∧ Hid (wr = w)) (fun i _ => h.length - (intOf i).toNat)
 case atStart => exact ⟨0, Nat.zero_le _, rfl, Lib.hid (by simp)⟩
 case round =>
  obtain ⟨k, hk, rfl, Hwr⟩ := hrel
  obtain rfl := Hwr.out
  have hkl2 : k < s.length := by omega
  by_cases hkl : k < h.length
  ·obtain ⟨c, hc⟩ : ∃ c : Nat, (((⟨s.toArray⟩ : ByteArray)[k]'hkl2).toNat : Int) = (c : Int) := ⟨_, rfl⟩
   have hc46 : ¬ ((c : Int) = 46) := by rw [← hc]; have := not46 h [] k hkl H46.out; simp only [Hs.out] at this; exact this
   go_wp2_with fail
   go_roundw
   case rel => exact ⟨k + 1, hkl, by go_num, Lib.hid (by simp)⟩
   case measure => simp [intOf]; omega
  ·obtain rfl : k = h.length := by omega
   have hc46 := h46' hkl2
   clear h46'
   have b1 : (0 : Int) ≤ h.length := by omega
   have b2 : (h.length : Int) ≤ s.length := by omega
   have b3 : IntKind.i64.wrap ((h.length : Int) + 1) = (h.length : Int) + 1 := by rw [IntKind.wrap_i64]; omega
   have b4 : (0 : Int) ≤ (h.length : Int) + 1 := by omega
   have b5 : (h.length : Int) + 1 ≤ s.length := by omega
   have b6 : ((h.length : Int) + 1).toNat = h.length + 1 := by omega
   clear hls
   go_wp2_with fail
   go_quiet (fail)
   go_wp2_with fail
   go_ret2
   exact ⟨rfl, bdrew _ _⟩
set_option maxRecDepth 100000 in
set_option maxHeartbeats 400000 in
theorem priceR_miss (h : List UInt8) (hh46 : ∀ x, x ∈ h → x ≠ 46) (hl : h.length ≤ 9223372036854775807) (res : Value) (hcase : Tail h [] res) (w : World) :
  Calls Tryz.prog 54 #[.string ⟨h.toArray⟩] w (RetV res w) := by
 have Hcase := Lib.hid hcase
 have H46 := Lib.hid hh46
 clear hcase hh46
 go_enter Tryz.func54, Tryz.ntmps54
 go_wp2_with fail
 go_loopw [4, 5, 6] (fun a b i wr => ∃ k : Nat, k ≤ h.length ∧ a = .string ⟨h.toArray⟩ ∧ b = .string ⟨#[]⟩ ∧ i = .int .i64 (k : Int) ∧ Hid (wr = w)) (fun _ _ i _ => h.length - (intOf i).toNat)
 case atStart => exact ⟨0, Nat.zero_le _, rfl, rfl, rfl, Lib.hid (by simp)⟩
 case round =>
  obtain ⟨k, hk, rfl, rfl, rfl, Hwr⟩ := hrel
  obtain rfl := Hwr.out
  by_cases hkl : k < h.length
  ·obtain ⟨c, hc⟩ : ∃ c : Nat, (((⟨h.toArray⟩ : ByteArray)[k]'hkl).toNat : Int) = (c : Int) := ⟨_, rfl⟩
   have hc46 : ¬ ((c : Int) = 46) := by rw [← hc]; exact not46' h k hkl H46.out
   go_wp2_with fail
   go_roundw
   case rel => exact ⟨k + 1, hkl, rfl, rfl, by go_num, Lib.hid (by simp)⟩
   case measure => simp [intOf]; omega
  ·go_wp2_with fail
   have Hb0 : Hid (Below wr.heap.size wr wr) := Lib.hid (Below.refl _ _)
   have hcase := Hcase.out
   rcases hcase with ⟨hd, hr⟩ | ⟨y, r, n, he, hd, hr⟩ | ⟨n, hh, hd, ht, hd2, hr⟩ | ⟨n, q, P, hh, hd, ht, hd2, hn9, hk9, ht6, hq, hr⟩ | ⟨n, P, hh, hd, ht, hq, hr⟩
   ·subst hr
    go_wp2_with (go_at_call 98; refine (hd _).mono ?_; rintro e w1 ⟨rfl, hb⟩; have Hw1 := Lib.hid (Hb0.out.trans (hb.mono Hb0.out.size)); clear hb)
    go_ret2
    exact ⟨rfl, Hw1.out⟩
   ·subst hr
    subst he
    go_wp2_with (go_at_call 98; refine (hd _).mono ?_; rintro e w1 ⟨rfl, hb⟩; have Hw1 := Lib.hid (Hb0.out.trans (hb.mono Hb0.out.size)); clear hb)
    go_ret2
    exact ⟨rfl, Hw1.out⟩
   ·exact absurd rfl ht
   ·exact absurd rfl ht
   ·subst hr
    rcases hh with hh | ⟨x, r, rfl, hx⟩
    ·obtain ⟨A, B', q1, q2', q3, q4⟩ := hq
     have q2 : ∀ w, (convert 3 163 (.int .i64 1)).run Tryz.prog w = .ok (.float .f64 B') w := q2'
     clear q2'
     have hbits := bitsR_any P q4
     clear q4
     go_wp2_with (first | (go_at_call 98; refine (hd _).mono ?_; rintro e w1 ⟨rfl, hb⟩; have Hw1 := Lib.hid (Hb0.out.trans (hb.mono Hb0.out.size)); clear hb) | (go_at_call 99; refine (hbits _).mono ?_; rintro e w5 ⟨rfl, rfl⟩))
     all_goals
      go_ret2
      exact ⟨rfl, Hw1.out⟩
    ·have hx0 := head_at x r
     have hx1 := ne48 hx
     clear hx
     obtain ⟨A, B', q1, q2', q3, q4⟩ := hq
     have q2 : ∀ w, (convert 3 163 (.int .i64 1)).run Tryz.prog w = .ok (.float .f64 B') w := q2'
     clear q2'
     have hbits := bitsR_any P q4
     clear q4
     go_wp2_with (first | (go_at_call 98; refine (hd _).mono ?_; rintro e w1 ⟨rfl, hb⟩; have Hw1 := Lib.hid (Hb0.out.trans (hb.mono Hb0.out.size)); clear hb) | (go_at_call 99; refine (hbits _).mono ?_; rintro e w5 ⟨rfl, rfl⟩))
     all_goals
      go_ret2
      exact ⟨rfl, Hw1.out⟩
end Go.Proofs.YtpdedfpacklnoaaGreatDoor.T
namespace Go.Proofs.YtpdedfpacklnoaaGreatDoor.T
set_option maxRecDepth 100000
open Go.RowKit Go.Fl

def str (l : List UInt8) : Value := .string ⟨l.toArray⟩
theorem order_100 {x : Nat} (hx : x ≤ 9218868437227405312) : (FloatKind.f64.format.order x 4845873199050653696 == some .gt || FloatKind.f64.format.order x 4845873199050653696 == some .eq) = decide (4845873199050653696 ≤ x) := by
 show (Ieee.double.order x 4845873199050653696 == some .gt || Ieee.double.order x 4845873199050653696 == some .eq) = _
 rw [order_le hx (by decide)]
 rcases Nat.lt_trichotomy x 4845873199050653696 with h | h | h
 ·rw [Nat.compare_eq_lt.2 h, decide_eq_false (by omega)]; rfl
 ·rw [Nat.compare_eq_eq.2 h, decide_eq_true (by omega)]; rfl
 ·rw [Nat.compare_eq_gt.2 h, decide_eq_true (by omega)]; rfl
/-- Print of a number that is none. -/
theorem print_nan (b : Nat) (hn : isNaN b = true) (w : World) : Calls Tryz.prog 61 #[.int .u64 (b : Int)] w (RetV (str (prt b)) w) := by
 have h1 := isNaN_any b
 rw [hn] at h1
 have Hs : Hid (prt b = [110, 97, 110]) := Lib.hid (by unfold prt; rw [if_pos hn])
 clear hn
 go_enter Tryz.func61, Tryz.ntmps61
 go_wp2_with (first | (go_at_call 107; refine (float_any _ _).mono ?_; rintro e w' ⟨rfl, rfl⟩) | (go_at_call 108; refine (h1 _).mono ?_; rintro e w' ⟨rfl, rfl⟩))
 go_ret
 exact .of_eq (by rw [Hs.out]; rfl) rfl
theorem prt_inf {b : Nat} (hn : isNaN b = false) (hr : b % 9223372036854775808 = 9218868437227405312) : prt b = sgn b ++ [105, 110, 102] := by unfold prt; rw [if_neg (by rw [hn]; simp), if_pos hr]
theorem print_inf (w : World) : Calls Tryz.prog 61 #[.int .u64 9218868437227405312] w (RetV (str (prt 9218868437227405312)) w) := by
 have h1 := isNaN_any 9218868437227405312
 rw [show isNaN 9218868437227405312 = false by decide] at h1
 have h2 := isInf_pos 9218868437227405312
 rw [show (FloatKind.f64.format.order 9218868437227405312 9218868437227405311 == some .gt) = true by decide] at h2
 have Hs : Hid (prt 9218868437227405312 = [105, 110, 102]) := Lib.hid (prt_inf (by decide) (by decide))
 go_enter Tryz.func61, Tryz.ntmps61
 go_wp2_with (first | (go_at_call 107; refine (float_any _ _).mono ?_; rintro e w' ⟨rfl, rfl⟩) | (go_at_call 108; refine (h1 _).mono ?_; rintro e w' ⟨rfl, rfl⟩) | (go_at_call 109; refine (h2 _).mono ?_; rintro e w' ⟨rfl, rfl⟩))
 go_ret
 exact .of_eq (by rw [Hs.out]; rfl) rfl
def InfB (b : Nat) (y z : Bool) : Prop := ∀ (v : Int) (w : World), v = 1 ∨ v = -1 → Calls Tryz.prog 109 #[.float .f64 b, .int .i64 v] w fun e w' => e = .returned (.bool (if v = 1 then y else z)) ∧ w = w'
theorem infB (b : Nat) : InfB b (FloatKind.f64.format.order b 9218868437227405311 == some .gt) (FloatKind.f64.format.order (Op.negFloat .f64 b) 9218868437227405311 == some .gt) := by
 rintro v w (rfl | rfl)
 ·exact isInf_pos b w
 ·exact isInf_neg b w
theorem print_ninf (w : World) : Calls Tryz.prog 61 #[.int .u64 18442240474082181120] w (RetV (str (prt 18442240474082181120)) w) := by
 have h1 := isNaN_any 18442240474082181120
 rw [show isNaN 18442240474082181120 = false by decide] at h1
 have h2 := infB 18442240474082181120
 rw [show (FloatKind.f64.format.order 18442240474082181120 9218868437227405311 == some .gt) = false by decide, show (FloatKind.f64.format.order (Op.negFloat .f64 18442240474082181120) 9218868437227405311 == some .gt) = true by decide] at h2
 have Hs : Hid (prt 18442240474082181120 = [45, 105, 110, 102]) := Lib.hid (prt_inf (by decide) (by decide))
 go_enter Tryz.func61, Tryz.ntmps61
 go_wp2_with (first | (go_at_call 107; refine (float_any _ _).mono ?_; rintro e w' ⟨rfl, rfl⟩) | (go_at_call 108; refine (h1 _).mono ?_; rintro e w' ⟨rfl, rfl⟩) | (go_at_call 109; refine (h2 _ _ (by first | exact .inl rfl | exact .inr rfl)).mono ?_; rintro e w' ⟨rfl, rfl⟩))
 go_ret
 exact .of_eq (by rw [Hs.out]; rfl) rfl
theorem print_big (b r x : Nat) (σ : Bool)
  (h1 : ∀ w, Calls Tryz.prog 108 #[.float .f64 b] w fun e w' => e = .returned (.bool false) ∧ w = w')
  (h2 : InfB b false false)
  (h4 : ∀ w, Calls Tryz.prog 110 #[.float .f64 b] w fun e w' => e = .returned (.bool σ) ∧ w = w')
  (h5 : ∀ w, Calls Tryz.prog 111 #[.float .f64 b] w fun e w' => e = .returned (.float .f64 r) ∧ w = w')
  (hm : ∀ w, (binOp .mul 163 (.float .f64 r) (.float .f64 4636737291354636288)).run Tryz.prog w = .ok (.float .f64 x) w)
  (hc : (FloatKind.f64.format.order x 4845873199050653696 == some .gt || FloatKind.f64.format.order x 4845873199050653696 == some .eq) = true)
  (w : World) : Calls Tryz.prog 61 #[.int .u64 (b : Int)] w (RetV (str [98, 105, 103]) w) := by
 cases σ
 all_goals
  go_enter Tryz.func61, Tryz.ntmps61
  go_wp2_with (first | (go_at_call 107; refine (float_any _ _).mono ?_; rintro e w' ⟨rfl, rfl⟩) | (go_at_call 108; refine (h1 _).mono ?_; rintro e w' ⟨rfl, rfl⟩) | (go_at_call 109; refine (h2 _ _ (by first | exact .inl rfl | exact .inr rfl)).mono ?_; rintro e w' ⟨rfl, rfl⟩) | (go_at_call 110; refine (h4 _).mono ?_; rintro e w' ⟨rfl, rfl⟩) | (go_at_call 111; refine (h5 _).mono ?_; rintro e w' ⟨rfl, rfl⟩))
  go_ret
  exact .of_eq rfl rfl
theorem ext_take (t : List UInt8) (m : Nat) : (⟨t.toArray⟩ : ByteArray).extract 0 m = ⟨(t.take m).toArray⟩ := by
 apply ByteArray.ext
 simp
theorem ext_drop (t : List UInt8) (m : Nat) : (⟨t.toArray⟩ : ByteArray).extract m t.length = ⟨(t.drop m).toArray⟩ := by
 apply ByteArray.ext
 simp
 rw [List.take_of_length_le (by simp)]
theorem dots_end {t u v : List UInt8} {m N : Nat} (hp : pad t = pad (Lib.decDigits N)) (h3 : ¬ t.length < 3) (hm : t.length - 2 = m) (hu : t.take m = u) (hv : t.drop m = v) : dots (pad (Lib.decDigits N)) = u ++ 46 :: v := by
 rw [← hp, pad_done (by omega)]
 unfold dots
 rw [hm, hu, hv]
theorem below_drewN {w w1 : World} (h : Below w.heap.size w w1) (n : Nat) : Below w.heap.size w (w1.drewN n) := ⟨h.os, h.tape, h.output, h.size, h.block⟩
set_option maxRecDepth 100000 in
theorem print_small (b r x E N : Nat) (σ : Bool)
  (h1 : ∀ w, Calls Tryz.prog 108 #[.float .f64 b] w fun e w' => e = .returned (.bool false) ∧ w = w')
  (h2 : InfB b false false)
  (h4 : ∀ w, Calls Tryz.prog 110 #[.float .f64 b] w fun e w' => e = .returned (.bool σ) ∧ w = w')
  (h5 : ∀ w, Calls Tryz.prog 111 #[.float .f64 b] w fun e w' => e = .returned (.float .f64 r) ∧ w = w')
  (hm : ∀ w, (binOp .mul 163 (.float .f64 r) (.float .f64 4636737291354636288)).run Tryz.prog w = .ok (.float .f64 x) w)
  (hc : (FloatKind.f64.format.order x 4845873199050653696 == some .gt || FloatKind.f64.format.order x 4845873199050653696 == some .eq) = false)
  (h6 : ∀ w, (callFunc 113 #[.float .f64 x]).run Tryz.prog w = .ok (.value (.float .f64 E)) w)
  (hcv : ∀ w, (convert 163 25 (.float .f64 E)).run Tryz.prog w = .ok (.int .u64 (N : Int)) w)
  (hN : N < 18446744073709551616) (w : World) (htab : Tab w) : Calls Tryz.prog 61 #[.int .u64 (b : Int)] w (RetV (str ((if σ then [45] else []) ++ dots (pad (Lib.decDigits N)))) w) := by
 have Hl := Lib.hid (len20 hN)
 have HN := Lib.hid hN
 clear hN
 cases σ
 ·go_enter Tryz.func61, Tryz.ntmps61
  go_wp2_with (first | (go_at_call 107; refine (float_any _ _).mono ?_; rintro e w' ⟨rfl, rfl⟩) | (go_at_call 108; refine (h1 _).mono ?_; rintro e w' ⟨rfl, rfl⟩) | (go_at_call 109; refine (h2 _ _ (by first | exact .inl rfl | exact .inr rfl)).mono ?_; rintro e w' ⟨rfl, rfl⟩) | (go_at_call 110; refine (h4 _).mono ?_; rintro e w' ⟨rfl, rfl⟩) | (go_at_call 111; refine (h5 _).mono ?_; rintro e w' ⟨rfl, rfl⟩) | (go_at_call 112; refine (formatUint N HN.out _ htab).mono ?_; rintro e w1 ⟨rfl, hb⟩; have Hb := Lib.hid hb; clear hb))
  go_loop [6] (fun v => ∃ (t : List UInt8), v = .string ⟨t.toArray⟩ ∧ Hid (pad t = pad (Lib.decDigits N)) ∧ Hid (t.length ≤ 20)) (fun v => 3 - lenOf v)
  case atStart => exact ⟨_, rfl, Lib.hid rfl, Hl⟩
  case round =>
   obtain ⟨t, rfl, Hp, Ht⟩ := hrel
   by_cases hlt : t.length < 3
   ·have Hcat := Lib.hid (bcat [48] t)
    have hlen : ¬ 9223372036854775807 < 1 + t.length := by omega
    go_wp2_with fail
    exact ⟨⟨48 :: t, congrArg Value.string Hcat.out, Lib.hid (by rw [pad_step hlt]; exact Hp.out), Lib.hid (by simp; omega)⟩, by rw [Hcat.out]; simp [lenOf, ByteArray.size]; omega⟩
   ·obtain ⟨m, hm2⟩ : ∃ m : Nat, (t.length : Int) - 2 = (m : Int) := ⟨t.length - 2, by omega⟩
    have Hm2 : Hid (t.length - 2 = m) := Lib.hid (by omega)
    have c9 : m ≤ 20 := by have := Ht.out; omega
    have c0 : IntKind.i64.wrap (m : Int) = (m : Int) := by rw [IntKind.wrap_i64]; omega
    have c1 : (0 : Int) ≤ m := by omega
    have c2 : (m : Int) ≤ ↑t.length := by omega
    have e1 := ext_take t m
    have e2 := ext_drop t m
    have e3 : (t.take m).length = m := by simp; omega
    have e4 : (t.drop m).length = 2 := by simp; omega
    obtain ⟨u, hu⟩ : ∃ u, t.take m = u := ⟨_, rfl⟩
    obtain ⟨v, hv⟩ : ∃ v, t.drop m = v := ⟨_, rfl⟩
    have He := Lib.hid (dots_end Hp.out hlt Hm2.out hu hv)
    rw [hu] at e1 e3
    rw [hv] at e2 e4
    clear hu hv
    have b1 : ¬ 9223372036854775807 < m := by omega
    have b2 : ¬ 9223372036854775807 < m + 1 := by omega
    have b3 : ¬ 9223372036854775807 < m + 1 + 2 := by omega
    go_wp2_with fail
    go_quiet (fail)
    go_wp2_with fail
    go_ret
    refine ⟨?_, ?_⟩
    ·rw [He.out]
     refine congrArg (fun x => Ending.returned (.string x)) ?_
     apply ByteArray.ext
     simp
    ·exact below_drewN Hb.out _
 ·go_enter Tryz.func61, Tryz.ntmps61
  go_wp2_with (first | (go_at_call 107; refine (float_any _ _).mono ?_; rintro e w' ⟨rfl, rfl⟩) | (go_at_call 108; refine (h1 _).mono ?_; rintro e w' ⟨rfl, rfl⟩) | (go_at_call 109; refine (h2 _ _ (by first | exact .inl rfl | exact .inr rfl)).mono ?_; rintro e w' ⟨rfl, rfl⟩) | (go_at_call 110; refine (h4 _).mono ?_; rintro e w' ⟨rfl, rfl⟩) | (go_at_call 111; refine (h5 _).mono ?_; rintro e w' ⟨rfl, rfl⟩) | (go_at_call 112; refine (formatUint N HN.out _ htab).mono ?_; rintro e w1 ⟨rfl, hb⟩; have Hb := Lib.hid hb; clear hb))
  go_loop [6] (fun v => ∃ (t : List UInt8), v = .string ⟨t.toArray⟩ ∧ Hid (pad t = pad (Lib.decDigits N)) ∧ Hid (t.length ≤ 20)) (fun v => 3 - lenOf v)
  case atStart => exact ⟨_, rfl, Lib.hid rfl, Hl⟩
  case round =>
   obtain ⟨t, rfl, Hp, Ht⟩ := hrel
   by_cases hlt : t.length < 3
   ·have Hcat := Lib.hid (bcat [48] t)
    have hlen : ¬ 9223372036854775807 < 1 + t.length := by omega
    go_wp2_with fail
    exact ⟨⟨48 :: t, congrArg Value.string Hcat.out, Lib.hid (by rw [pad_step hlt]; exact Hp.out), Lib.hid (by simp; omega)⟩, by rw [Hcat.out]; simp [lenOf, ByteArray.size]; omega⟩
   ·obtain ⟨m, hm2⟩ : ∃ m : Nat, (t.length : Int) - 2 = (m : Int) := ⟨t.length - 2, by omega⟩
    have Hm2 : Hid (t.length - 2 = m) := Lib.hid (by omega)
    have c9 : m ≤ 20 := by have := Ht.out; omega
    have c0 : IntKind.i64.wrap (m : Int) = (m : Int) := by rw [IntKind.wrap_i64]; omega
    have c1 : (0 : Int) ≤ m := by omega
    have c2 : (m : Int) ≤ ↑t.length := by omega
    have e1 := ext_take t m
    have e2 := ext_drop t m
    have e3 : (t.take m).length = m := by simp; omega
    have e4 : (t.drop m).length = 2 := by simp; omega
    obtain ⟨u, hu⟩ : ∃ u, t.take m = u := ⟨_, rfl⟩
    obtain ⟨v, hv⟩ : ∃ v, t.drop m = v := ⟨_, rfl⟩
    have He := Lib.hid (dots_end Hp.out hlt Hm2.out hu hv)
    rw [hu] at e1 e3
    rw [hv] at e2 e4
    clear hu hv
    have b1 : ¬ 9223372036854775807 < 1 + m := by omega
    have b2 : ¬ 9223372036854775807 < 1 + m + 1 := by omega
    have b3 : ¬ 9223372036854775807 < 1 + m + 1 + 2 := by omega
    go_wp2_with fail
    go_quiet (fail)
    go_wp2_with fail
    go_ret
    refine ⟨?_, ?_⟩
    ·rw [He.out]
     refine congrArg (fun x => Ending.returned (.string x)) ?_
     apply ByteArray.ext
     simp
    ·exact below_drewN Hb.out _
theorem infB_fin (b : Nat) (hb : b < 18446744073709551616) (hr : b % 9223372036854775808 < 9218868437227405312) : InfB b false false := by
 have h := infB b
 rcases Nat.lt_or_ge b 9223372036854775808 with h1 | h1
 ·have e1 : (FloatKind.f64.format.order b 9218868437227405311 == some .gt) = false := by
   show (Ieee.double.order b 9218868437227405311 == some .gt) = false
   rw [order_max (by omega)]; simp; omega
  have e2 : (FloatKind.f64.format.order (Op.negFloat .f64 b) 9218868437227405311 == some .gt) = false := by
   rw [neg_low h1]; exact order_neg (by omega)
  rwa [e1, e2] at h
 ·obtain ⟨r, rfl⟩ : ∃ r, b = 9223372036854775808 + r := ⟨b - 9223372036854775808, by omega⟩
  have e1 : (FloatKind.f64.format.order (9223372036854775808 + r) 9218868437227405311 == some .gt) = false := order_neg (by omega)
  have e2 : (FloatKind.f64.format.order (Op.negFloat .f64 (9223372036854775808 + r)) 9218868437227405311 == some .gt) = false := by
   rw [neg_high (by omega)]
   show (Ieee.double.order r 9218868437227405311 == some .gt) = false
   rw [order_max (by omega)]; simp; omega
  rwa [e1, e2] at h
theorem conv_nat {N : Nat} (hN : N < 9007199254740992) (w : World) : (convert 163 25 (.float .f64 (Ieee.double.nearest false N 0))).run Tryz.prog w = .ok (.int .u64 (N : Int)) w := by
 obtain ⟨h1, h2⟩ := tru_ofNat hN
 refine run_convert_float_int w 163 25 .f64 .u64 _ (N : Int) (by rw [Tryz.underlying163]; rfl) Tryz.underlying25 ?_
 have h3 := int_small h1
 rw [h2] at h3
 unfold floatToIntVal
 show (match (Ieee.double.read _).toInt .zero with | some _ => _ | none => _) = _
 rw [h3]
 simp [IntKind.min, IntKind.max, IntKind.signed, IntKind.bits]
 omega
theorem mul_run {r x : Nat} (h : Ieee.double.mul r 4636737291354636288 = some x) (w : World) : (binOp .mul 163 (.float .f64 r) (.float .f64 4636737291354636288)).run Tryz.prog w = .ok (.float .f64 x) w :=
 run_float_arith w .mul 39 .f64 r 4636737291354636288 x h
theorem prt_fin {b : Nat} (hr : b % 9223372036854775808 < 9218868437227405312) : prt b = if hund (b % 9223372036854775808) < 4845873199050653696 then sgn b ++ dots (pad (Lib.decDigits (rnd (hund (b % 9223372036854775808))))) else [98, 105, 103] := by
 unfold prt
 rw [if_neg (by rw [isNaN_iff]; simp; omega), if_neg (by omega)]
theorem sgn_eq (b : Nat) : sgn b = if decide (9223372036854775808 ≤ b) = true then [45] else [] := by unfold sgn; simp
/-- till's Print. -/
theorem print_any (b : Nat) (hb : b < 18446744073709551616) (w : World) (htab : Tab w) : Calls Tryz.prog 61 #[.int .u64 (b : Int)] w (RetV (str (prt b)) w) := by
 cases hn : isNaN b
 ·rw [isNaN_iff] at hn
  have hn2 : b % 9223372036854775808 ≤ 9218868437227405312 := by simpa using hn
  rcases Nat.lt_or_ge (b % 9223372036854775808) 9218868437227405312 with hr | hr
  ·have h1 := isNaN_any b
   rw [show isNaN b = false by rw [isNaN_iff]; exact hn] at h1
   obtain ⟨hm, hx⟩ := hund_eq hr
   rw [prt_fin hr]
   by_cases hs : hund (b % 9223372036854775808) < 4845873199050653696
   ·rw [if_pos hs, sgn_eq]
    exact print_small b _ _ _ (rnd (hund (b % 9223372036854775808))) _ h1 (infB_fin b hb hr) (signbit_any b hb) (abs_any b hb) (mul_run hm) (by rw [order_100 hx]; simp; omega) (even_run _ hs) (conv_nat rnd_lt) (by have := @rnd_lt (hund (b % 9223372036854775808)); omega) w htab
   ·rw [if_neg hs]
    exact print_big b _ _ _ h1 (infB_fin b hb hr) (signbit_any b hb) (abs_any b hb) (mul_run hm) (by rw [order_100 hx]; simp; omega) w
  ·rcases (show b = 9218868437227405312 ∨ b = 18442240474082181120 by omega) with rfl | rfl
   ·exact print_inf w
   ·exact print_ninf w
 ·exact print_nan b hn w
end Go.Proofs.YtpdedfpacklnoaaGreatDoor.T
namespace Go.Proofs.YtpdedfpacklnoaaGreatDoor.T
set_option maxRecDepth 100000
open Go.RowKit Go.Fl

theorem printR_nan (b : Nat) (hn : isNaN b = true) (w : World) : Calls Tryz.prog 55 #[.int .u64 (b : Int)] w (RetV (str (prt b)) w) := by
 have ho : (FloatKind.f64.format.order b b != some .eq) = true := by rw [order_self', hn]
 have Hs : Hid (prt b = [110, 97, 110]) := Lib.hid (by unfold prt; rw [if_pos hn])
 clear hn
 go_enter Tryz.func55, Tryz.ntmps55
 go_wp2_with (go_at_call 100; refine (floatR_any _ _).mono ?_; rintro e w' ⟨rfl, rfl⟩)
 go_ret
 exact .of_eq (by rw [Hs.out]; rfl) rfl
/-- Where the rest leads: up, or not. -/
inductive Up (y T N : Nat) : Prop
 | gt (h : (FloatKind.f64.format.order y 4602678819172646912 == some .gt) = true) (hN : N = T + 1)
 | odd (h1 : (FloatKind.f64.format.order y 4602678819172646912 == some .gt) = false) (h2 : (FloatKind.f64.format.order y 4602678819172646912 == some .eq) = true) (h3 : ((T : Int) % 2 == 1) = true) (hN : N = T + 1)
 | even (h1 : (FloatKind.f64.format.order y 4602678819172646912 == some .gt) = false) (h2 : (FloatKind.f64.format.order y 4602678819172646912 == some .eq) = true) (h3 : ((T : Int) % 2 == 1) = false) (hN : N = T)
 | lt (h1 : (FloatKind.f64.format.order y 4602678819172646912 == some .gt) = false) (h2 : (FloatKind.f64.format.order y 4602678819172646912 == some .eq) = false) (hN : N = T)
theorem Up.le {y T N : Nat} (h : Up y T N) : N ≤ T + 1 := by cases h <;> omega
theorem more_zero (t : List UInt8) : more 0 t = t := rfl
theorem len_of_pad {n N : Nat} {t : List UInt8} (h : pad (more n t) = pad (Lib.decDigits N)) (hN : N ≤ 9007199254740992) : t.length ≤ 20 := by
 have h1 := congrArg List.length h
 have h2 := len20 (N := N) (by omega)
 have h3 : t.length ≤ (more n t).length := by unfold more; split <;> simp
 have h4 : (more n t).length ≤ (pad (more n t)).length := by unfold pad; simp
 have h5 : (pad (Lib.decDigits N)).length ≤ 20 := by unfold pad; simp; omega
 omega
set_option maxHeartbeats 4000000 in
set_option maxRecDepth 100000 in
theorem printR_pos (b x T F y N : Nat)
  (ho : (FloatKind.f64.format.order b b != some .eq) = false)
  (hg : ((b : Int) / 9223372036854775808 == 1) = false)
  (hi : (FloatKind.f64.format.order b 9218868437227405311 == some .gt) = false)
  (hm : ∀ w, (binOp .mul 163 (.float .f64 b) (.float .f64 4636737291354636288)).run Tryz.prog w = .ok (.float .f64 x) w)
  (hl : (FloatKind.f64.format.order x 4845873199050653696 == some .lt) = true)
  (hcv : ∀ w, (convert 163 3 (.float .f64 x)).run Tryz.prog w = .ok (.int .i64 (T : Int)) w)
  (hcf : ∀ w, (convert 3 163 (.int .i64 (T : Int))).run Tryz.prog w = .ok (.float .f64 F) w)
  (hs : ∀ w, (binOp .sub 163 (.float .f64 x) (.float .f64 F)).run Tryz.prog w = .ok (.float .f64 y) w)
  (hT : T < 9007199254740992)
  (hc : Up y T N)
  (w : World) : Calls Tryz.prog 55 #[.int .u64 (b : Int)] w (RetV (str (dots (pad (Lib.decDigits N)))) w) := by
 have hT1 : (T : Int) ≤ 9007199254740991 := by omega
 have hT2 : IntKind.i64.wrap ((T : Int) + 1) = (T : Int) + 1 := by rw [IntKind.wrap_i64]; omega
 have HN : Hid (N ≤ 9007199254740992) := Lib.hid (by have := hc.le; omega)
 clear hT
 rcases hc with ⟨q1, hNe⟩ | ⟨q1, q2, q3, hNe⟩ | ⟨q1, q2, q3, hNe⟩ | ⟨q1, q2, hNe⟩
 all_goals
  have HNe := Lib.hid hNe
  clear hNe
  go_enter Tryz.func55, Tryz.ntmps55
  go_wp2_with (go_at_call 100; refine (floatR_any _ _).mono ?_; rintro e w' ⟨rfl, rfl⟩)
  go_loopw [6, 8] (fun i v wr => ∃ (n : Nat) (t : List UInt8), Hid (n ≤ 9007199254740992) ∧ (n : Int) ≤ 9007199254740992 ∧ i = .int .i64 (n : Int) ∧ v = .string ⟨t.toArray⟩ ∧ Hid (pad (more n t) = pad (Lib.decDigits N)) ∧ Hid (Below w.heap.size w wr)) (fun i v _ => 2 * (intOf i).toNat + (3 - lenOf v))
  case atStart => exact ⟨N, [], HN, by have := HN.out; omega, by rw [HNe.out] <;> rfl, rfl, Lib.hid pad_more, Lib.hid (Below.refl _ _)⟩
  case round =>
   obtain ⟨n, t, Hn, hn', rfl, rfl, He, Hb⟩ := hrel
   have Ht := Lib.hid (len_of_pad He.out HN.out)
   have hlen : ¬ 9223372036854775807 < 1 + t.length := by have := Ht.out; omega
   by_cases hp : 0 < n
   ·obtain ⟨c, hc⟩ : ∃ c : Nat, 48 + (n : Int) % 10 = (c : Int) := ⟨48 + n % 10, by omega⟩
    have hc2 : c < 256 := by omega
    have hcc := fun w => conv1 w 5 c hc2
    have Hc : Hid (48 + n % 10 = c) := Lib.hid (by omega)
    have Hbc := Lib.hid (bcat [UInt8.ofNat c] t)
    go_wp2_with fail
    go_roundw
    case rel => exact ⟨n / 10, UInt8.ofNat c :: t, Lib.hid (by have := Hn.out; omega), by omega, by go_num, congrArg Value.string Hbc.out, Lib.hid (by rw [← Hc.out, more_step hp]; exact He.out), Lib.hid (Hb.out.alloc Hb.out.size _)⟩
    case measure => rw [Hbc.out]; simp [intOf, lenOf, ByteArray.size]; omega
   ·obtain rfl : n = 0 := by omega
    clear hn' hp
    by_cases hlt : t.length < 3
    ·have hcc := conv48
     have Hbc := Lib.hid (bcat [48] t)
     go_wp2_with fail
     go_roundw
     case rel => exact ⟨0, 48 :: t, Hn, by decide, rfl, congrArg Value.string Hbc.out, Lib.hid (by rw [more_zero, pad_step hlt]; exact He.out), Lib.hid (Hb.out.alloc Hb.out.size _)⟩
     case measure => rw [Hbc.out]; simp [intOf, lenOf, ByteArray.size]; omega
    ·obtain ⟨m, hm2⟩ : ∃ m : Nat, (t.length : Int) - 2 = (m : Int) := ⟨t.length - 2, by omega⟩
     have Hm2 : Hid (t.length - 2 = m) := Lib.hid (by omega)
     have c9 : m ≤ 20 := by have := Ht.out; omega
     have c0 : IntKind.i64.wrap (m : Int) = (m : Int) := by rw [IntKind.wrap_i64]; omega
     have c1 : (0 : Int) ≤ m := by omega
     have c2 : (m : Int) ≤ ↑t.length := by omega
     have e1 := ext_take t m
     have e2 := ext_drop t m
     have e3 : (t.take m).length = m := by simp; omega
     have e4 : (t.drop m).length = 2 := by simp; omega
     obtain ⟨u, hu⟩ : ∃ u, t.take m = u := ⟨_, rfl⟩
     obtain ⟨v, hv⟩ : ∃ v, t.drop m = v := ⟨_, rfl⟩
     have Hd := Lib.hid (dots_end (t := t) (by rw [← more_zero t]; exact He.out) hlt Hm2.out hu hv)
     rw [hu] at e1 e3
     rw [hv] at e2 e4
     clear hu hv
     have b1 : ¬ 9223372036854775807 < m := by omega
     have b2 : ¬ 9223372036854775807 < m + 1 := by omega
     have b3 : ¬ 9223372036854775807 < m + 1 + 2 := by omega
     go_wp2_with fail
     go_quiet (fail)
     go_wp2_with fail
     go_ret
     refine ⟨?_, ?_⟩
     ·rw [Hd.out]
      refine congrArg (fun x => Ending.returned (.string x)) ?_
      apply ByteArray.ext
      simp
     ·exact below_drewN Hb.out _
set_option maxHeartbeats 4000000 in
set_option maxRecDepth 100000 in
theorem printR_neg (b r x T F y N : Nat)
  (ho : (FloatKind.f64.format.order b b != some .eq) = false)
  (hg : ((b : Int) / 9223372036854775808 == 1) = true)
  (hn : ∀ w, (Op.unary .neg (.float .f64 b)).run Tryz.prog w = .ok (.float .f64 r) w)
  (hi : (FloatKind.f64.format.order r 9218868437227405311 == some .gt) = false)
  (hm : ∀ w, (binOp .mul 163 (.float .f64 r) (.float .f64 4636737291354636288)).run Tryz.prog w = .ok (.float .f64 x) w)
  (hl : (FloatKind.f64.format.order x 4845873199050653696 == some .lt) = true)
  (hcv : ∀ w, (convert 163 3 (.float .f64 x)).run Tryz.prog w = .ok (.int .i64 (T : Int)) w)
  (hcf : ∀ w, (convert 3 163 (.int .i64 (T : Int))).run Tryz.prog w = .ok (.float .f64 F) w)
  (hs : ∀ w, (binOp .sub 163 (.float .f64 x) (.float .f64 F)).run Tryz.prog w = .ok (.float .f64 y) w)
  (hT : T < 9007199254740992)
  (hc : Up y T N)
  (w : World) : Calls Tryz.prog 55 #[.int .u64 (b : Int)] w (RetV (str (45 :: dots (pad (Lib.decDigits N)))) w) := by
 have hT1 : (T : Int) ≤ 9007199254740991 := by omega
 have hT2 : IntKind.i64.wrap ((T : Int) + 1) = (T : Int) + 1 := by rw [IntKind.wrap_i64]; omega
 have HN : Hid (N ≤ 9007199254740992) := Lib.hid (by have := hc.le; omega)
 clear hT
 rcases hc with ⟨q1, hNe⟩ | ⟨q1, q2, q3, hNe⟩ | ⟨q1, q2, q3, hNe⟩ | ⟨q1, q2, hNe⟩
 all_goals
  have HNe := Lib.hid hNe
  clear hNe
  go_enter Tryz.func55, Tryz.ntmps55
  go_wp2_with (go_at_call 100; refine (floatR_any _ _).mono ?_; rintro e w' ⟨rfl, rfl⟩)
  go_loopw [6, 8] (fun i v wr => ∃ (n : Nat) (t : List UInt8), Hid (n ≤ 9007199254740992) ∧ (n : Int) ≤ 9007199254740992 ∧ i = .int .i64 (n : Int) ∧ v = .string ⟨t.toArray⟩ ∧ Hid (pad (more n t) = pad (Lib.decDigits N)) ∧ Hid (Below w.heap.size w wr)) (fun i v _ => 2 * (intOf i).toNat + (3 - lenOf v))
  case atStart => exact ⟨N, [], HN, by have := HN.out; omega, by rw [HNe.out] <;> rfl, rfl, Lib.hid pad_more, Lib.hid (Below.refl _ _)⟩
  case round =>
   obtain ⟨n, t, Hn, hn', rfl, rfl, He, Hb⟩ := hrel
   have Ht := Lib.hid (len_of_pad He.out HN.out)
   have hlen : ¬ 9223372036854775807 < 1 + t.length := by have := Ht.out; omega
   by_cases hp : 0 < n
   ·obtain ⟨c, hc⟩ : ∃ c : Nat, 48 + (n : Int) % 10 = (c : Int) := ⟨48 + n % 10, by omega⟩
    have hc2 : c < 256 := by omega
    have hcc := fun w => conv1 w 5 c hc2
    have Hc : Hid (48 + n % 10 = c) := Lib.hid (by omega)
    have Hbc := Lib.hid (bcat [UInt8.ofNat c] t)
    go_wp2_with fail
    go_roundw
    case rel => exact ⟨n / 10, UInt8.ofNat c :: t, Lib.hid (by have := Hn.out; omega), by omega, by go_num, congrArg Value.string Hbc.out, Lib.hid (by rw [← Hc.out, more_step hp]; exact He.out), Lib.hid (Hb.out.alloc Hb.out.size _)⟩
    case measure => rw [Hbc.out]; simp [intOf, lenOf, ByteArray.size]; omega
   ·obtain rfl : n = 0 := by omega
    clear hn' hp
    by_cases hlt : t.length < 3
    ·have hcc := conv48
     have Hbc := Lib.hid (bcat [48] t)
     go_wp2_with fail
     go_roundw
     case rel => exact ⟨0, 48 :: t, Hn, by decide, rfl, congrArg Value.string Hbc.out, Lib.hid (by rw [more_zero, pad_step hlt]; exact He.out), Lib.hid (Hb.out.alloc Hb.out.size _)⟩
     case measure => rw [Hbc.out]; simp [intOf, lenOf, ByteArray.size]; omega
    ·obtain ⟨m, hm2⟩ : ∃ m : Nat, (t.length : Int) - 2 = (m : Int) := ⟨t.length - 2, by omega⟩
     have Hm2 : Hid (t.length - 2 = m) := Lib.hid (by omega)
     have c9 : m ≤ 20 := by have := Ht.out; omega
     have c0 : IntKind.i64.wrap (m : Int) = (m : Int) := by rw [IntKind.wrap_i64]; omega
     have c1 : (0 : Int) ≤ m := by omega
     have c2 : (m : Int) ≤ ↑t.length := by omega
     have e1 := ext_take t m
     have e2 := ext_drop t m
     have e3 : (t.take m).length = m := by simp; omega
     have e4 : (t.drop m).length = 2 := by simp; omega
     obtain ⟨u, hu⟩ : ∃ u, t.take m = u := ⟨_, rfl⟩
     obtain ⟨v, hv⟩ : ∃ v, t.drop m = v := ⟨_, rfl⟩
     have Hd := Lib.hid (dots_end (t := t) (by rw [← more_zero t]; exact He.out) hlt Hm2.out hu hv)
     rw [hu] at e1 e3
     rw [hv] at e2 e4
     clear hu hv
     have b1 : ¬ 9223372036854775807 < 1 + m := by omega
     have b2 : ¬ 9223372036854775807 < 1 + m + 1 := by omega
     have b3 : ¬ 9223372036854775807 < 1 + m + 1 + 2 := by omega
     go_wp2_with fail
     go_quiet (fail)
     go_wp2_with fail
     go_ret
     refine ⟨?_, ?_⟩
     ·rw [Hd.out]
      refine congrArg (fun x => Ending.returned (.string x)) ?_
      apply ByteArray.ext
      simp
     ·exact below_drewN Hb.out _
end Go.Proofs.YtpdedfpacklnoaaGreatDoor.T
namespace Go.Proofs.YtpdedfpacklnoaaGreatDoor.T
set_option maxRecDepth 100000
open Go.RowKit Go.Fl

theorem floatOfInt_nat (n : Nat) : floatOfInt .f64 (n : Int) = Ieee.double.nearest false n 0 := by
 show Ieee.double.nearest (decide ((n : Int) < 0)) (n : Int).natAbs 0 = _
 rw [decide_eq_false (by omega)]
 rfl
set_option maxRecDepth 100000 in
theorem printR_bigp (b x : Nat)
  (ho : (FloatKind.f64.format.order b b != some .eq) = false)
  (hg : ((b : Int) / 9223372036854775808 == 1) = false)
  (hi : (FloatKind.f64.format.order b 9218868437227405311 == some .gt) = false)
  (hm : ∀ w, (binOp .mul 163 (.float .f64 b) (.float .f64 4636737291354636288)).run Tryz.prog w = .ok (.float .f64 x) w)
  (hl : (FloatKind.f64.format.order x 4845873199050653696 == some .lt) = false)
  (w : World) : Calls Tryz.prog 55 #[.int .u64 (b : Int)] w (RetV (str [98, 105, 103]) w) := by
 go_enter Tryz.func55, Tryz.ntmps55
 go_wp2_with (go_at_call 100; refine (floatR_any _ _).mono ?_; rintro e w' ⟨rfl, rfl⟩)
 go_ret
 exact .of_eq rfl rfl
set_option maxRecDepth 100000 in
theorem printR_bign (b r x : Nat)
  (ho : (FloatKind.f64.format.order b b != some .eq) = false)
  (hg : ((b : Int) / 9223372036854775808 == 1) = true)
  (hn : ∀ w, (Op.unary .neg (.float .f64 b)).run Tryz.prog w = .ok (.float .f64 r) w)
  (hi : (FloatKind.f64.format.order r 9218868437227405311 == some .gt) = false)
  (hm : ∀ w, (binOp .mul 163 (.float .f64 r) (.float .f64 4636737291354636288)).run Tryz.prog w = .ok (.float .f64 x) w)
  (hl : (FloatKind.f64.format.order x 4845873199050653696 == some .lt) = false)
  (w : World) : Calls Tryz.prog 55 #[.int .u64 (b : Int)] w (RetV (str [98, 105, 103]) w) := by
 go_enter Tryz.func55, Tryz.ntmps55
 go_wp2_with (go_at_call 100; refine (floatR_any _ _).mono ?_; rintro e w' ⟨rfl, rfl⟩)
 go_ret
 exact .of_eq rfl rfl
theorem printR_infp (w : World) : Calls Tryz.prog 55 #[.int .u64 9218868437227405312] w (RetV (str (prt 9218868437227405312)) w) := by
 have ho : (FloatKind.f64.format.order 9218868437227405312 9218868437227405312 != some .eq) = false := by decide
 have hi : (FloatKind.f64.format.order 9218868437227405312 9218868437227405311 == some .gt) = true := by decide
 have Hs : Hid (prt 9218868437227405312 = [105, 110, 102]) := Lib.hid (prt_inf (by decide) (by decide))
 go_enter Tryz.func55, Tryz.ntmps55
 go_wp2_with (go_at_call 100; refine (floatR_any _ _).mono ?_; rintro e w' ⟨rfl, rfl⟩)
 go_ret
 exact .of_eq (by rw [Hs.out]; rfl) rfl
theorem neg_ninf (w : World) : (Op.unary .neg (.float .f64 18442240474082181120)).run Tryz.prog w = .ok (.float .f64 9218868437227405312) w := rfl
theorem printR_infn (w : World) : Calls Tryz.prog 55 #[.int .u64 18442240474082181120] w (RetV (str (prt 18442240474082181120)) w) := by
 have ho : (FloatKind.f64.format.order 18442240474082181120 18442240474082181120 != some .eq) = false := by decide
 have hn := neg_ninf
 have hi : (FloatKind.f64.format.order 9218868437227405312 9218868437227405311 == some .gt) = true := by decide
 have Hs : Hid (prt 18442240474082181120 = [45, 105, 110, 102]) := Lib.hid (prt_inf (by decide) (by decide))
 go_enter Tryz.func55, Tryz.ntmps55
 go_wp2_with (go_at_call 100; refine (floatR_any _ _).mono ?_; rintro e w' ⟨rfl, rfl⟩)
 go_ret
 exact .of_eq (by rw [Hs.out]; rfl) rfl
theorem order_lt {x : Nat} (hx : x ≤ 9218868437227405312) : (FloatKind.f64.format.order x 4845873199050653696 == some .lt) = decide (x < 4845873199050653696) := by
 show (Ieee.double.order x 4845873199050653696 == some .lt) = _
 rw [order_le hx (by decide)]
 rcases Nat.lt_trichotomy x 4845873199050653696 with h | h | h
 ·rw [Nat.compare_eq_lt.2 h, decide_eq_true (by omega)]; rfl
 ·rw [Nat.compare_eq_eq.2 h, decide_eq_false (by omega)]; rfl
 ·rw [Nat.compare_eq_gt.2 h, decide_eq_false (by omega)]; rfl
theorem conv_tru {x : Nat} (hx : x < 4845873199050653696) (w : World) : (convert 163 3 (.float .f64 x)).run Tryz.prog w = .ok (.int .i64 (tru x : Int)) w := by
 refine run_convert_float_int w 163 3 .f64 .i64 _ (tru x : Int) (by rw [Tryz.underlying163]; rfl) Tryz.underlying3 ?_
 have h3 := int_small hx
 have h4 := @tru_lt x
 unfold floatToIntVal
 show (match (Ieee.double.read _).toInt .zero with | some _ => _ | none => _) = _
 rw [h3]
 simp [IntKind.min, IntKind.max, IntKind.signed, IntKind.bits]
 omega
theorem conv_back (n : Nat) (w : World) : (convert 3 163 (.int .i64 (n : Int))).run Tryz.prog w = .ok (.float .f64 (Ieee.double.nearest false n 0)) w := by
 rw [← floatOfInt_nat]
 exact run_convert_int_float w 3 163 .i64 .f64 n (by rw [Tryz.underlying3]; rfl) Tryz.underlying163
theorem up_rest {x y : Nat} (hx : x < 4845873199050653696) (hy : y < 9218868437227405312) (hv : V y = rem x * 2 ^ (-(behind x : Int) + 1074).toNat) : Up y (tru x) (rnd x) := by
 obtain ⟨h1, h2⟩ := half_cmp hx hv
 have ho : FloatKind.f64.format.order y 4602678819172646912 = some (compare y 4602678819172646912) := order_pos hy (by decide)
 rcases Nat.lt_trichotomy y 4602678819172646912 with h | h | h
 ·refine .lt ?_ ?_ ?_
  ·rw [ho, Nat.compare_eq_lt.2 h]; rfl
  ·rw [ho, Nat.compare_eq_lt.2 h]; rfl
  ·unfold rnd
   rw [if_neg (by
    rintro (h3 | h3)
    ·have := h1.2 h3; omega
    ·have := h2.2 h3.1; omega)]
   rfl
 ·have h3 := h2.1 h
  rcases Nat.mod_two_eq_zero_or_one (tru x) with h4 | h4
  ·refine .even ?_ ?_ ?_ ?_
   ·rw [ho, Nat.compare_eq_eq.2 h]; rfl
   ·rw [ho, Nat.compare_eq_eq.2 h]; rfl
   ·simp; omega
   ·unfold rnd
    rw [if_neg (by
     rintro (h5 | h5)
     ·omega
     ·omega)]
    rfl
  ·refine .odd ?_ ?_ ?_ ?_
   ·rw [ho, Nat.compare_eq_eq.2 h]; rfl
   ·rw [ho, Nat.compare_eq_eq.2 h]; rfl
   ·simp; omega
   ·unfold rnd
    rw [if_pos (.inr ⟨h3, h4⟩)]
 ·refine .gt ?_ ?_
  ·rw [ho, Nat.compare_eq_gt.2 h]; rfl
  ·unfold rnd
   rw [if_pos (.inl (h1.1 h))]
theorem printR_any (b : Nat) (hb : b < 18446744073709551616) (w : World) : Calls Tryz.prog 55 #[.int .u64 (b : Int)] w (RetV (str (prt b)) w) := by
 cases hn : isNaN b
 ·have ho : (FloatKind.f64.format.order b b != some .eq) = false := by rw [order_self', hn]
  rw [isNaN_iff] at hn
  have hn2 : b % 9223372036854775808 ≤ 9218868437227405312 := by simpa using hn
  rcases Nat.lt_or_ge (b % 9223372036854775808) 9218868437227405312 with hr | hr
  ·obtain ⟨hm, hx⟩ := hund_eq hr
   rw [prt_fin hr]
   have hi : (FloatKind.f64.format.order (b % 9223372036854775808) 9218868437227405311 == some .gt) = false := by
    show (Ieee.double.order (b % 9223372036854775808) 9218868437227405311 == some .gt) = false
    rw [order_max (by omega)]; simp; omega
   rcases Nat.lt_or_ge b 9223372036854775808 with ht | ht
   ·have e : b % 9223372036854775808 = b := by omega
    have hs : sgn b = [] := by unfold sgn; rw [if_neg (by omega)]
    rw [e] at hm hx hi ⊢
    rw [hs]
    have hg : ((b : Int) / 9223372036854775808 == 1) = false := by simp; omega
    by_cases hs : hund b < 4845873199050653696
    ·rw [if_pos hs]
     obtain ⟨y, hy1, hy2, hy3⟩ := rest_small hs
     exact printR_pos b (hund b) (tru (hund b)) _ y (rnd (hund b)) ho hg hi (mul_run hm) (by rw [order_lt hx]; simpa using hs) (conv_tru hs) (conv_back _) (fun w => run_float_arith w .sub 39 .f64 _ _ y hy1) tru_lt (up_rest hs hy2 hy3) w
    ·rw [if_neg hs]
     exact printR_bigp b _ ho hg hi (mul_run hm) (by rw [order_lt hx]; simpa using hs) w
   ·obtain ⟨r, rfl⟩ : ∃ r, b = 9223372036854775808 + r := ⟨b - 9223372036854775808, by omega⟩
    have e : (9223372036854775808 + r) % 9223372036854775808 = r := by omega
    have hs : sgn (9223372036854775808 + r) = [45] := by unfold sgn; rw [if_pos (by omega)]
    rw [e] at hm hx hi hr ⊢
    rw [hs]
    have hg : (((9223372036854775808 + r : Nat) : Int) / 9223372036854775808 == 1) = true := by simp; omega
    have hneg : ∀ w, (Op.unary .neg (.float .f64 (9223372036854775808 + r))).run Tryz.prog w = .ok (.float .f64 r) w := fun w => by
     rw [neg_run, neg_high (by omega)]
    generalize 9223372036854775808 + r = b at *
    by_cases hs : hund r < 4845873199050653696
    ·rw [if_pos hs]
     obtain ⟨y, hy1, hy2, hy3⟩ := rest_small hs
     exact printR_neg b r (hund r) (tru (hund r)) _ y (rnd (hund r)) ho hg hneg hi (mul_run hm) (by rw [order_lt hx]; simpa using hs) (conv_tru hs) (conv_back _) (fun w => run_float_arith w .sub 39 .f64 _ _ y hy1) tru_lt (up_rest hs hy2 hy3) w
    ·rw [if_neg hs]
     exact printR_bign b r _ ho hg hneg hi (mul_run hm) (by rw [order_lt hx]; simpa using hs) w
  ·rcases (show b = 9218868437227405312 ∨ b = 18442240474082181120 by omega) with rfl | rfl
   ·exact printR_infp w
   ·exact printR_infn w
 ·exact printR_nan b hn w
end Go.Proofs.YtpdedfpacklnoaaGreatDoor.T
namespace Go.Proofs.YtpdedfpacklnoaaGreatDoor.T
set_option maxRecDepth 100000
open Go.RowKit Go.Fl

theorem word_pos {b : Nat} (hb : 0 < b) (hb2 : b < 9007199254740992) : 0 < Ieee.double.nearest false b 0 := by
 obtain ⟨h1, h2⟩ := ofNat_exact hb2
 rcases Nat.eq_zero_or_pos (Ieee.double.nearest false b 0) with h | h
 ·rw [h] at h2
  have h3 : V 0 = 0 := by rw [V_eq]; rw [show sig 0 = 0 from rfl, Nat.zero_mul]
  rw [h3] at h2
  have := Nat.mul_pos hb (Nat.two_pow_pos ((0 : Int) + 1074).toNat)
  omega
 ·exact h
theorem quo_ok {a b : Nat} (ha : a < 9007199254740992) (hb : 0 < b) (hb2 : b < 9007199254740992) : Ieee.double.div (Ieee.double.nearest false a 0) (Ieee.double.nearest false b 0) = some (quo a b) ∧ quo a b ≤ 9218868437227405312 := by
 obtain ⟨x, hx, hl⟩ := div_some (ofNat_exact ha).1 (ofNat_exact hb2).1 (word_pos hb hb2)
 unfold quo
 rw [hx]
 exact ⟨rfl, hl⟩
def resL (o : Option Nat) : Value := match o with | some p => good p | none => bad
theorem dig_all {most n : Nat} {l : List UInt8} (h : dig most l = some n) : ∀ x, x ∈ l → 48 ≤ x.toNat ∧ x.toNat ≤ 57 := by
 have h1 := dig_lt h
 unfold dig at h
 split at h
 ·cases h
 ·have h2 := decFrom_isSome l 0
  rw [h] at h2
  intro x hx
  have h3 := (List.all_eq_true.1 h2.symm) x hx
  rw [tenc_iff] at h3
  exact of_decide_eq_true h3
theorem dig_from {most n : Nat} {l : List UInt8} (h : dig most l = some n) : Lib.decFrom 0 l = some n := by
 unfold dig at h
 split at h
 ·cases h
 ·exact h
theorem parse_ok {l : List UInt8} {N : Nat} (hd : Lib.decFrom 0 l = some N) (hl : l ≠ []) (h18 : l.length ≤ 18) (w : World) :
  Calls Tryz.prog 105 #[.string ⟨l.toArray⟩, .int .i64 10, .int .i64 64] w (RetV (.tuple #[.int .u64 (N : Int), .nilIface]) w) := by
 refine (Tryz.strconv_ParseUint_10_at64_ok ⟨l.toArray⟩ (by simp [ByteArray.size]; omega) N ?_ w).mono ?_
 ·show Lib.parseUintB 64 l = .ok N
  rw [Lib.parseUintB_64, Lib.parseMag_short l h18]
  unfold Lib.decNat
  rw [if_neg (by simpa using hl), hd]
  rfl
 ·rintro e w' ⟨rfl, rfl | rfl⟩
  ·exact ⟨rfl, Below.refl _ _⟩
  ·exact ⟨rfl, Lib.bytesWorld_below _ _ _⟩
theorem conv_u64 (n : Nat) (w : World) : (convert 25 163 (.int .u64 (n : Int))).run Tryz.prog w = .ok (.float .f64 (Ieee.double.nearest false n 0)) w := by
 rw [← floatOfInt_nat]
 exact run_convert_int_float w 25 163 .u64 .f64 n (by rw [Tryz.underlying25]; rfl) Tryz.underlying163
theorem digB {l : List UInt8} {most : Nat} {o : Option Nat} (h : dig most l = o) (hl : l.length ≤ 9223372036854775807) (w : World) : Calls Tryz.prog 104 #[.string ⟨l.toArray⟩, .int .i64 (most : Int)] w (RetV (.bool o.isSome) w) := by
 have := digits_any l hl most w
 rwa [h] at this
theorem head_cases {h : List UInt8} {n : Nat} (hd : dig 9 h = some n) : (∃ y r, h = 48 :: y :: r) ∨ h = [48] ∨ ∃ x r, h = x :: r ∧ x ≠ 48 := by
 have h1 := (dig_lt hd).2.2
 cases h with
 | nil => exact absurd rfl h1
 | cons x r =>
  by_cases hx : x = 48
  ·subst hx
   cases r with
   | nil => exact .inr (.inl rfl)
   | cons y r => exact .inl ⟨y, r, rfl⟩
  ·exact .inr (.inr ⟨x, r, rfl, hx⟩)
theorem priceL_none {h t : List UInt8} {pt : Bool} (hd : dig 9 h = none) : priceL h t pt = none := by unfold priceL; rw [hd]; rfl
theorem priceL_lead {y : UInt8} {r t : List UInt8} {pt : Bool} : priceL (48 :: y :: r) t pt = none := by
 unfold priceL
 cases dig 9 (48 :: y :: r) with
 | none => rfl
 | some n => simp only [Option.bind_some]; rw [if_pos ⟨by simp, rfl⟩]
theorem head_fine {h : List UInt8} (hh : h = [48] ∨ ∃ x r, h = x :: r ∧ x ≠ 48) : ¬ (1 < h.length ∧ h.head? = some 48) := by
 rcases hh with rfl | ⟨x, r, rfl, hx⟩
 ·simp
 ·rintro ⟨_, h2⟩
  exact hx (Option.some.inj h2)
theorem priceL_tail {h t : List UInt8} {n : Nat} (hd : dig 9 h = some n) (hh : h = [48] ∨ ∃ x r, h = x :: r ∧ x ≠ 48) : priceL h t true = (dig 6 t).map fun k => quo (n * 10 ^ t.length + k) (10 ^ t.length) := by
 unfold priceL
 rw [hd]
 simp only [Option.bind_some]
 rw [if_neg (head_fine hh)]
 rfl
theorem priceL_whole {h t : List UInt8} {n : Nat} (hd : dig 9 h = some n) (hh : h = [48] ∨ ∃ x r, h = x :: r ∧ x ≠ 48) : priceL h t false = some (quo n 1) := by
 unfold priceL
 rw [hd]
 simp only [Option.bind_some]
 rw [if_neg (head_fine hh)]
 rfl
theorem whole_lt {h : List UInt8} {n : Nat} (hd : dig 9 h = some n) : n ≤ 999999999 := by
 obtain ⟨h1, h2, _⟩ := dig_lt hd
 have h3 : 10 ^ h.length ≤ 10 ^ 9 := Nat.pow_le_pow_right (by decide) h2
 have : (10 : Nat) ^ 9 = 1000000000 := by decide
 omega
theorem part_lt {t : List UInt8} {k : Nat} (hd : dig 6 t = some k) : k ≤ 999999 ∧ t.length ≤ 6 := by
 obtain ⟨h1, h2, _⟩ := dig_lt hd
 have h3 : 10 ^ t.length ≤ 10 ^ 6 := Nat.pow_le_pow_right (by decide) h2
 have : (10 : Nat) ^ 6 = 1000000 := by decide
 omega
theorem num_lt {n k : Nat} {t : List UInt8} (hn : n ≤ 999999999) (hk : k ≤ 999999) (ht : t.length ≤ 6) : n * 10 ^ t.length + k < 9007199254740992 ∧ 0 < 10 ^ t.length ∧ 10 ^ t.length < 9007199254740992 := by
 have h1 := pow6 ht
 have h2 : n * 10 ^ t.length ≤ 999999999 * 1000000 := Nat.mul_le_mul hn h1
 have h3 : 0 < 10 ^ t.length := Nat.pow_pos (by decide)
 omega
theorem price_core (s : ByteArray) (h t : List UInt8) (pt : Bool) (hc : CutTo s h t pt) (hpt : pt = false → t = []) (hl : h.length ≤ 9223372036854775807) (hlt : t.length ≤ 9223372036854775807) (w : World) :
  Calls Tryz.prog 59 #[.string s] w (RetV (resL (priceL h t pt)) w) := by
 cases hd : dig 9 h with
 | none =>
  rw [priceL_none hd]
  exact price_bad1 s h t pt hc (digB hd hl) w
 | some n =>
  rcases head_cases hd with ⟨y, r, rfl⟩ | hh
  ·rw [priceL_lead]
   exact price_bad2 s y r t pt hc (digB hd hl) w
  ·have hn := whole_lt hd
   cases pt with
   | false =>
    obtain rfl := hpt rfl
    rw [priceL_whole hd hh]
    obtain ⟨q1, q2⟩ := quo_ok (a := n) (b := 1) (by omega) (by decide) (by decide)
    refine price_ok s h [] false n _ _ hh hc (digB hd hl) (fun e => by cases e) (dig_lt hd).2.1 (by decide) (fun j hj => absurd hj (by simp)) ?_ (conv_u64 n) ?_ (not_nan q2) w
    ·rw [List.append_nil]
     exact parse_ok (dig_from hd) (dig_lt hd).2.2 (by have := (dig_lt hd).2.1; omega)
    ·intro W
     refine run_float_arith W .quo 39 .f64 _ _ _ ?_
     rw [pw_nat _ (by decide)]
     exact q1
   | true =>
    rw [priceL_tail hd hh]
    cases hd2 : dig 6 t with
    | none => exact price_bad3 s h t hh hc (digB hd hl) (digB hd2 hlt) w
    | some k =>
     obtain ⟨hk, ht6⟩ := part_lt hd2
     obtain ⟨z1, z2, z3⟩ := num_lt hn hk ht6
     obtain ⟨q1, q2⟩ := quo_ok z1 z2 z3
     refine price_ok s h t true (n * 10 ^ t.length + k) _ _ hh hc (digB hd hl) (fun _ => digB hd2 hlt) (dig_lt hd).2.1 ht6 (fun j hj => ?_) ?_ (conv_u64 _) ?_ (not_nan q2) w
     ·have := (dig_all hd2 t[j] (List.getElem_mem hj)).2
      show (t[j]).toNat < 128
      omega
     ·refine parse_ok ?_ (fun e => (dig_lt hd).2.2 (List.append_eq_nil_iff.1 e).1) (by rw [List.length_append]; have := (dig_lt hd).2.1; omega)
      rw [decFrom_append, dig_from hd]
      exact decFrom_shift t n k (dig_from hd2)
     ·intro W
      refine run_float_arith W .quo 39 .f64 _ _ _ ?_
      rw [pw_nat _ (by omega)]
      exact q1
theorem digRB {l : List UInt8} {most : Nat} {o : Option Nat} (h : dig most l = o) (hl : l.length ≤ 9223372036854775807) (hm : most ≤ 9) : DigR l (most : Int) (o.getD 0) o.isSome := fun w => by
 have := digitsR_any l hl most hm w
 rwa [h] at this
theorem quoR {n b : Nat} (hn : n < 9007199254740992) (hb : 0 < b) (hb2 : b < 9007199254740992) : QuoR n b (quo n b) := by
 obtain ⟨q1, q2⟩ := quo_ok hn hb hb2
 exact ⟨_, _, conv_back n, conv_back b, fun W => run_float_arith W .quo 39 .f64 _ _ _ q1, not_nan q2⟩
theorem headOk {h : List UInt8} (hh : h = [48] ∨ ∃ x r, h = x :: r ∧ x ≠ 48) : HeadOk h := by
 rcases hh with rfl | hh
 ·exact .inl (by decide)
 ·exact .inr hh
theorem tail_core (h t : List UInt8) (pt : Bool) (hpt : pt = false ↔ t = []) (hl : h.length ≤ 9223372036854775807) (hlt : t.length ≤ 9223372036854775807) : Tail h t (resL (priceL h t pt)) := by
 cases hd : dig 9 h with
 | none =>
  rw [priceL_none hd]
  exact .bad1 (digRB hd hl (by decide)) rfl
 | some n =>
  rcases head_cases hd with ⟨y, r, rfl⟩ | hh
  ·rw [priceL_lead]
   exact .bad2 y r n rfl (digRB hd hl (by decide)) rfl
  ·have hn := whole_lt hd
   cases pt with
   | false =>
    rw [priceL_whole hd hh]
    exact .good2 n _ (headOk hh) (digRB hd hl (by decide)) (hpt.1 rfl) (quoR (by omega) (by decide) (by decide)) rfl
   | true =>
    have ht : t ≠ [] := fun e => by have := hpt.2 e; cases this
    rw [priceL_tail hd hh]
    cases hd2 : dig 6 t with
    | none => exact .bad3 n (headOk hh) (digRB hd hl (by decide)) ht (digRB hd2 hlt (by decide)) rfl
    | some k =>
     obtain ⟨hk, ht6⟩ := part_lt hd2
     obtain ⟨z1, z2, z3⟩ := num_lt hn hk ht6
     exact .good1 n k _ (headOk hh) (digRB hd hl (by decide)) ht (digRB hd2 hlt (by decide)) hn hk ht6 (quoR z1 z2 z3) rfl
theorem not_mem {h : List UInt8} (hh : (46 : UInt8) ∉ h) : ∀ x, x ∈ h → x ≠ 46 := fun _ hx e => hh (e ▸ hx)
/-- Behind a point. -/
theorem both_hit (h t : List UInt8) (hh : (46 : UInt8) ∉ h) (hl : h.length + t.length ≤ 9223372036854775806) :
  (∀ w, Calls Tryz.prog 59 #[.string ⟨(h ++ 46 :: t).toArray⟩] w (RetV (resL (priceL h t true)) w)) ∧ (∀ w, Calls Tryz.prog 54 #[.string ⟨(h ++ 46 :: t).toArray⟩] w (RetV (resL (priceL h t true)) w)) := by
 refine ⟨fun w => price_core _ h t true (cut_hit h t hh (by omega)) (fun e => by cases e) (by omega) (by omega) w, fun w => ?_⟩
 by_cases ht : t = []
 ·subst ht
  have e : priceL h [] true = none := by
   cases hd : dig 9 h with
   | none => exact priceL_none hd
   | some n =>
    rcases head_cases hd with ⟨y, r, rfl⟩ | hx
    ·exact priceL_lead
    ·rw [priceL_tail hd hx]; rfl
  rw [e]
  exact priceR_hit_nil h (not_mem hh) (by simpa using hl) w
 ·exact priceR_hit h t (not_mem hh) ht hl _ (tail_core h t true (by simp [ht]) (by omega) (by omega)) w
/-- Without one. -/
theorem both_miss (h : List UInt8) (hh : (46 : UInt8) ∉ h) (hl : h.length ≤ 9223372036854775807) :
  (∀ w, Calls Tryz.prog 59 #[.string ⟨h.toArray⟩] w (RetV (resL (priceL h [] false)) w)) ∧ (∀ w, Calls Tryz.prog 54 #[.string ⟨h.toArray⟩] w (RetV (resL (priceL h [] false)) w)) :=
 ⟨fun w => price_core _ h [] false (cut_miss h hh) (fun _ => rfl) (by omega) (by decide) w,
  fun w => priceR_miss h (not_mem hh) hl _ (tail_core h [] false (by simp) (by omega) (by decide)) w⟩
theorem split46 : ∀ l : List UInt8, (46 : UInt8) ∉ l ∨ ∃ h t, l = h ++ 46 :: t ∧ (46 : UInt8) ∉ h
 | [] => .inl (by simp)
 | c :: r => by
  by_cases hc : c = 46
  ·subst hc
   exact .inr ⟨[], r, rfl, by simp⟩
  ·rcases split46 r with h | ⟨h, t, rfl, hh⟩
   ·exact .inl (by simp [h]; exact fun e => hc e.symm)
   ·exact .inr ⟨c :: h, t, rfl, by simp [hh]; exact fun e => hc e.symm⟩
end Go.Proofs.YtpdedfpacklnoaaGreatDoor.T
