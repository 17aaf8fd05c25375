/- Contract of token.Letters: lettersL. -/
import Derived.Test.YtpdedfpacklnoaaGreatDoorTzTkN
import Derived.Test.YtpdedfpacklnoaaGreatDoorTzMW
import Derived.Laws.CopyOwn
set_option maxRecDepth 100000
namespace Go.Proofs.YtpdedfpacklnoaaGreatDoor
open Go.RowKit Go.BL Go.Ct Go.Sl Go.Wr

def four (X : Nat) : List Nat := [ltr (X / 262144), ltr (X / 4096 % 64), ltr (X / 64 % 64), ltr (X % 64)]
theorem letters_step {t : List Nat} (ht : t ≠ []) (hb : ∀ x ∈ t, x < 256) : ∃ a b c n : Nat, a < 256 ∧ b < 256 ∧ c < 256 ∧ n = min t.length 3 ∧ 1 ≤ n ∧ n ≤ 3 ∧
  (bv (t.take n) ++ ([.int .u8 0, .int .u8 0, .int .u8 0] : List Value).drop n = [.int .u8 (a : Int), .int .u8 (b : Int), .int .u8 (c : Int)]) ∧
  lettersL t = (four (a * 65536 + b * 256 + c)).take (n + 1) ++ lettersL (t.drop n) := by
 match t, ht with
 | [a], _ =>
  have ha := hb a (by simp)
  refine ⟨a, 0, 0, 1, ha, by omega, by omega, by simp, by omega, by omega, by simp [bv], ?_⟩
  simp only [lettersL, four, List.take, List.drop, List.append_nil]
  congr 2
  ·omega
  ·congr 1; omega
 | [a, b], _ =>
  have ha := hb a (by simp)
  have hb' := hb b (by simp)
  refine ⟨a, b, 0, 2, ha, hb', by omega, by simp, by omega, by omega, by simp [bv], ?_⟩
  simp only [lettersL, four, List.take, List.drop, List.append_nil]
  rw [show (a * 65536 + b * 256 + 0) / 262144 = a / 4 by omega, show (a * 65536 + b * 256 + 0) / 4096 % 64 = a % 4 * 16 + b / 16 by omega, show (a * 65536 + b * 256 + 0) / 64 % 64 = b % 16 * 4 by omega]
 | a :: b :: c :: r, _ =>
  have ha := hb a (by simp)
  have hb' := hb b (by simp)
  have hc := hb c (by simp)
  refine ⟨a, b, c, 3, ha, hb', hc, by simp, by omega, by omega, by simp [bv], ?_⟩
  simp only [lettersL, four, List.take, List.drop, List.nil_append, List.cons_append]
  rw [show (a * 65536 + b * 256 + c) / 262144 = a / 4 by omega, show (a * 65536 + b * 256 + c) / 4096 % 64 = a % 4 * 16 + b / 16 by omega, show (a * 65536 + b * 256 + c) / 64 % 64 = b % 16 * 4 + c / 64 by omega, show (a * 65536 + b * 256 + c) % 64 = c % 64 by omega]
theorem or_three (a b c : Nat) (ha : a < 256) (hb : b < 256) (hc : c < 256) : bits .or .i64 ((a : Int) * 65536) ((b : Int) * 256) = ((a * 65536 + b * 256 : Nat) : Int) ∧ bits .or .i64 ((a * 65536 + b * 256 : Nat) : Int) (c : Int) = ((a * 65536 + b * 256 + c : Nat) : Int) := by
 constructor
 ·rw [show ((a : Int) * 65536) = ((a * 65536 : Nat) : Int) by omega, show ((b : Int) * 256) = ((b * 256 : Nat) : Int) by omega]
  have h2 := or_i64 (a * 65536) (b * 256) (by omega) (by omega)
  rw [h2, nat_join 16 (a * 65536) (b * 256) (by omega) (by omega)]
 ·have h2 := or_i64 (a * 65536 + b * 256) c (by omega) (by omega)
  rw [h2, nat_join 8 (a * 65536 + b * 256) c (by omega) (by omega)]
theorem and_63 (Y : Nat) (h : Y < 16777216) : bits .and .i64 (Y : Int) 63 = ((Y % 64 : Nat) : Int) := by
 have := and_i64 Y 63 (by omega) (by decide); rw [show Y &&& 63 = Y % 64 from Nat.and_two_pow_sub_one_eq_mod Y 6] at this; exact this
theorem rd_fourX (w : World) (a b c d : Nat) (ha : a < 256) (hb : b < 256) (hc : c < 256) (hd : d < 256) (g : Nat) (hg : g = w.heap.size) : Rd (w.alloc (.cells #[.int .u8 (a : Int), .int .u8 (b : Int), .int .u8 (c : Int), .int .u8 (d : Int)] 225)) (some ⟨g, 0, none⟩) 4 [a, b, c, d] := by
 subst hg
 refine ⟨rfl, by decide, fun x hx => ?_, fun _ => ⟨w.heap.size, 0, rfl, by simp, fun i hi => ?_⟩⟩
 ·simp only [List.mem_cons, List.not_mem_nil, or_false] at hx
  omega
 ·rcases i with _ | _ | _ | _ | i
  ·simp
  ·simp
  ·simp
  ·simp
  ·omega
set_option maxHeartbeats 8000000 in
theorem letters_any (A : Option Addr) (m cap : Nat) (bs : List Nat) (w : World) (hr : Rd w A m bs) (hm : m ≤ 100000) (hcap : m ≤ cap) : Calls Tryz.prog 120 #[.slice A m cap] w (RetV (.string (bstr (lettersL bs))) w) := by
 have HR0 := Lib.hid hr
 have hbm := hr.1
 clear hr
 go_enter Tryz.func120, Tryz.ntmps120
 go_wp2_with fail
 go_loopw [0, 3] (fun sv ov wr => ∃ (t acc : List Nat) (A : Option Addr) (c : Nat), sv = .slice A t.length c ∧ t.length ≤ c ∧ t.length ≤ m ∧ Hid (Rd w A t.length t) ∧ Hid (Below w.heap.size w wr) ∧ Hid (Own wr w.heap.size ov acc) ∧ Hid (lettersL bs = acc ++ lettersL t) ∧ Hid (acc.length + 2 * t.length ≤ 2 * m)) (fun sv _ _ => (match sv with | .slice _ n _ => n | _ => 0))
 case atStart => subst hbm; exact ⟨bs, [], A, cap, rfl, hcap, Nat.le_refl _, HR0, Lib.hid (Below.refl _ _), Lib.hid (Own.nil _ _), Lib.hid rfl, Lib.hid (by simp)⟩
 case round =>
  obtain ⟨t, acc, A, c, rfl, htc, htm, HRW, HW, HO, HL, HN⟩ := hrel
  have HRD := Lib.hid (HRW.out.below HW.out (Nat.le_refl _))
  by_cases ht : t = []
  ·subst ht
   have HV : Hid (lettersL bs = acc) := Lib.hid (by rw [HL.out]; simp [lettersL])
   obtain ⟨A2, c2, rfl, hrd⟩ := HO.out.rd
   have hconv := run_bstr (P := Tryz.prog) (c := c2) hrd 75 5 9 Tryz.underlying75 Tryz.underlying5 Tryz.underlying9
   clear hrd
   go_wp2_with fail
   go_ret
   rw [HV.out]
   exact ⟨rfl, HW.out⟩
  ·have hpos : (0 : Int) < (t.length : Int) := by have := List.length_pos_iff.2 ht; omega
   obtain ⟨a, b, c3, n, ha, hb, hc, hn, hn1, hn3, hcells, hlet⟩ := letters_step ht HRD.out.2.2.1
   have HCL := Lib.hid hcells
   have HLE := Lib.hid hlet
   have HNN := Lib.hid hn
   clear ht hcells hlet hn
   go_upto_region 4 with fail
   obtain ⟨w4, hw4⟩ : ∃ y, wr.alloc (.cells #[.int .u8 0, .int .u8 0, .int .u8 0] 224) = y := ⟨_, rfl⟩
   have HR4 : Hid (Rd w4 A t.length t) := Lib.hid (by rw [← hw4]; exact HRD.out.alloc _)
   have HH4 : Hid (w4.heap[wr.heap.size]? = some (.cells #[.int .u8 0, .int .u8 0, .int .u8 0] 224 (0, 0))) := Lib.hid (by rw [← hw4]; exact heap_alloc_new wr _)
   have HW4 : Hid (Below w.heap.size w w4) := Lib.hid (by rw [← hw4]; exact HW.out.alloc HW.out.size _)
   have HO4 : Hid (Own w4 w.heap.size u3 acc) := Lib.hid (by rw [← hw4]; exact HO.out.alloc _)
   obtain ⟨ba, oa, rfl, hbl, hce⟩ := HR4.out.2.2.2 (by omega)
   have HCE := Lib.hid hce
   clear hbl hce
   have hlen : (bv (t.take n)).length = n := by rw [bv_length, List.length_take]; have := HNN.out; omega
   have hcopy := run_copy_row (P := Tryz.prog) w4 75 75 3 5 wr.heap.size 0 3 3 ⟨ba, oa, none⟩ t.length c #[.int .u8 0, .int .u8 0, .int .u8 0] 224 (bv (t.take n)) Tryz.underlying75 (by kernel_rfl) HH4.out (by rw [hlen, HNN.out])
    (fun j v hj => by
     have hjn : j < n := by rw [← hlen]; exact (List.getElem?_eq_some_iff.1 hj).1
     have h1 := HCE.out j (by have := HNN.out; omega)
     rw [add_none, h1]
     rw [← hj]
     unfold bv
     rw [List.getElem?_map, List.getElem?_take_of_lt hjn, List.getD_eq_getElem?_getD]
     have : j < t.length := by have := HNN.out; omega
     rw [List.getElem?_eq_getElem this]; rfl)
    (by rw [hlen]; simp; omega) (bv_one _)
   rw [hlen] at hcopy
   have hrow : ((([.int .u8 0, .int .u8 0, .int .u8 0] : List Value).take 0 ++ bv (t.take n) ++ ([.int .u8 0, .int .u8 0, .int .u8 0] : List Value).drop (0 + n)).toArray) = #[.int .u8 (a : Int), .int .u8 (b : Int), .int .u8 (c3 : Int)] := by rw [List.take_zero, List.nil_append, Nat.zero_add, HCL.out]
   rw [show (#[.int .u8 0, .int .u8 0, .int .u8 0] : Array Value).toList = [.int .u8 0, .int .u8 0, .int .u8 0] from rfl, hrow] at hcopy
   obtain ⟨w5, hw5⟩ : ∃ y, w4.setRow wr.heap.size #[.int .u8 (a : Int), .int .u8 (b : Int), .int .u8 (c3 : Int)] = y := ⟨_, rfl⟩
   have HW5 : Hid (Below w.heap.size w w5) := Lib.hid (by rw [← hw5]; exact below_setRow HW4.out HW.out.size _)
   have HH5 : Hid (w5.heap[wr.heap.size]? = some (.cells #[.int .u8 (a : Int), .int .u8 (b : Int), .int .u8 (c3 : Int)] 224 (0, 0))) := Lib.hid (by rw [← hw5]; exact setRow_heap _ _ _ _ _ _ HH4.out)
   have HB5 : Hid (Below wr.heap.size wr w5) := Lib.hid (by rw [← hw5, ← hw4]; exact below_setRow ((Below.refl _ _).alloc (Nat.le_refl _) _) (Nat.le_refl _) _)
   have HO5 := Lib.hid (HO.out.below HB5.out (Nat.le_refl _))
   rw [hw5] at hcopy
   rw [hw4]
   clear hw4 hlen hrow hw5
   go_upto_region 5 with fail
   clear hcopy
   obtain ⟨X, hX⟩ : ∃ X, a * 65536 + b * 256 + c3 = X := ⟨_, rfl⟩
   have hx24 : X < 16777216 := by omega
   have HX := Lib.hid hX
   obtain ⟨o1, o2⟩ := or_three a b c3 ha hb hc
   have hs1 : (a : Int) * 65536 < 16777216 := by omega
   have hs2 : (b : Int) * 256 < 65536 := by omega
   have e0 : w5.cell? ⟨wr.heap.size, 0, none⟩ = some (.int .u8 (a : Int)) := by rw [cell_of_row _ _ _ _ _ _ HH5.out]; rfl
   have e1 : w5.cell? ⟨wr.heap.size, 1, none⟩ = some (.int .u8 (b : Int)) := by rw [cell_of_row _ _ _ _ _ _ HH5.out]; rfl
   have e2 : w5.cell? ⟨wr.heap.size, 2, none⟩ = some (.int .u8 (c3 : Int)) := by rw [cell_of_row _ _ _ _ _ _ HH5.out]; rfl
   rw [hX] at o2
   rw [show ((a * 65536 + b * 256 : Nat) : Int) = (a : Int) * 65536 + (b : Int) * 256 by omega] at o1 o2
   rw [show a * 65536 + b * 256 + c3 = X from hX] at HLE
   clear hX
   go_upto_region 6 with fail
   obtain ⟨y0, hy0⟩ : ∃ y, X / 262144 = y := ⟨_, rfl⟩
   obtain ⟨y1, hy1⟩ : ∃ y, X / 4096 % 64 = y := ⟨_, rfl⟩
   obtain ⟨y2, hy2⟩ : ∃ y, X / 64 % 64 = y := ⟨_, rfl⟩
   obtain ⟨y3, hy3⟩ : ∃ y, X % 64 = y := ⟨_, rfl⟩
   have k0 : y0 < 64 := by omega
   have k1 : y1 < 64 := by omega
   have k2 : y2 < 64 := by omega
   have k3 : y3 < 64 := by omega
   have d0 : (X : Int) / 262144 = (y0 : Int) := by omega
   have d1 : bits .and .i64 ((X : Int) / 4096) 63 = (y1 : Int) := by have h := and_63 (X / 4096) (by omega); rw [hy1, show ((X / 4096 : Nat) : Int) = (X : Int) / 4096 by omega] at h; exact h
   have d2 : bits .and .i64 ((X : Int) / 64) 63 = (y2 : Int) := by have h := and_63 (X / 64) (by omega); rw [hy2, show ((X / 64 : Nat) : Int) = (X : Int) / 64 by omega] at h; exact h
   have d3 : bits .and .i64 (X : Int) 63 = (y3 : Int) := by have h := and_63 X hx24; rw [hy3] at h; exact h
   have HF : Hid (four X = [ltr y0, ltr y1, ltr y2, ltr y3]) := Lib.hid (by unfold four; rw [hy0, hy1, hy2, hy3])
   have a0 := alpha_at y0 k0
   have a1 := alpha_at y1 k1
   have a2 := alpha_at y2 k2
   have a3 := alpha_at y3 k3
   have l0 := ltr_lt y0
   have l1 := ltr_lt y1
   have l2 := ltr_lt y2
   have l3 := ltr_lt y3
   obtain ⟨L0, hL0⟩ : ∃ y, ltr y0 = y := ⟨_, rfl⟩
   obtain ⟨L1, hL1⟩ : ∃ y, ltr y1 = y := ⟨_, rfl⟩
   obtain ⟨L2, hL2⟩ : ∃ y, ltr y2 = y := ⟨_, rfl⟩
   obtain ⟨L3, hL3⟩ : ∃ y, ltr y3 = y := ⟨_, rfl⟩
   rw [hL0] at a0 l0
   rw [hL1] at a1 l1
   rw [hL2] at a2 l2
   rw [hL3] at a3 l3
   rw [hL0, hL1, hL2, hL3] at HF
   clear hy0 hy1 hy2 hy3 hL0 hL1 hL2 hL3 o1 o2 hs1 hs2 e0 e1 e2
   go_region
   obtain ⟨w7, hw7⟩ : ∃ y, (w5.alloc (.cells #[.int .u8 (L0 : Int), .int .u8 (L1 : Int), .int .u8 (L2 : Int), .int .u8 (L3 : Int)] 225)).drew = y := ⟨_, rfl⟩
   have HB7 : Hid (Below w5.heap.size w5 w7) := Lib.hid (by rw [← hw7]; exact ((Below.refl _ _).alloc (Nat.le_refl _) _).drew)
   have HW7 := Lib.hid (HW5.out.trans (HB7.out.mono HW5.out.size))
   have HO7 := Lib.hid (HO5.out.below HB7.out (Nat.le_refl _))
   have HF7 : Hid (Rd w7 (some ⟨w5.heap.size, 0, none⟩) (n + 1) ((four X).take (n + 1))) := Lib.hid (by rw [HF.out, ← hw7]; exact (rd_fourX w5 L0 L1 L2 L3 l0 l1 l2 l3 w5.heap.size rfl).take (n + 1) (by omega))
   have HL7 : Hid (acc.length + (n + 1) ≤ 140737488355328) := Lib.hid (by have := HN.out; omega)
   have HD8 : Hid (Rd w (if c = n then some ⟨ba, oa, none⟩ else some ⟨ba, oa + n, none⟩) (t.length - n) (t.drop n)) := Lib.hid (by have h := Rd.dropIf HRW.out (show n ≤ t.length by have := HNN.out; omega) htc; rw [Option.map_some, add_none] at h; exact h)
   have hn4 : (n : Int) + 1 ≤ 4 := by omega
   have hn5 : ((n : Int) + 1).toNat = n + 1 := by omega
   have hnc : (n : Int) ≤ (t.length : Int) := by have := HNN.out; omega
   have hnc2 : n ≤ t.length := by omega
   have hnc3 : t.length ≤ c := htc
   rw [hw7]
   clear hw7 d0 d1 d2 d3 a0 a1 a2 a3
   have hsa : ∀ k : Nat, k < 4 → (Instr.sliceAt 225 (.pointer (some ⟨w5.heap.size, 0, none⟩)) none (some (.int .i64 ((k : Int) + 1))) none).run Tryz.prog w7 = .ok (.slice (some ⟨w5.heap.size, 0, none⟩) (k + 1) 4) w7 := by
    intro k hk
    rw [run_sliceAt_array_h w7 225 ⟨w5.heap.size, 0, none⟩ (by kernel_rfl) .i64 ((k : Int) + 1) (by omega) (by rw [show Tryz.prog.arrayLen 225 = 4 from by kernel_rfl]; omega), show Tryz.prog.elem 225 = 5 from by kernel_rfl, show Tryz.prog.arrayLen 225 = 4 from by kernel_rfl, show ((k : Int) + 1).toNat = k + 1 by omega]
    rfl
   have hsn := hsa n (by omega)
   clear hsa
   go_wp2_with (at_builtin; refine wpList_appB rfl (.tmp 42) (.tmp 45) 75 rfl Tryz.underlying75 W.info5 rfl HO7.out rfl HF7.out HL7.out HW7.out.size ?_; intro v8 w8 ho hb8; have HO8 := Lib.hid ho; have HW8 := Lib.hid (HW7.out.trans hb8); clear ho hb8)
   exact ⟨⟨t.drop n, acc ++ (four X).take (n + 1), _, _, by rw [List.length_drop], by rw [List.length_drop]; omega, by rw [List.length_drop]; omega, Lib.hid (by rw [List.length_drop]; exact HD8.out), HW8, HO8, Lib.hid (by rw [HL.out, HLE.out, List.append_assoc]), Lib.hid (by have := HN.out; rw [List.length_drop, List.length_append, List.length_take]; have : (four X).length = 4 := rfl; omega)⟩, by show t.length - n < t.length; omega⟩
end Go.Proofs.YtpdedfpacklnoaaGreatDoor
