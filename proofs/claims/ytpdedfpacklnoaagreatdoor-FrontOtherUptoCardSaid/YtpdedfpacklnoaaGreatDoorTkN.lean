/- Contract of token.numbers: the table of the letters' numbers. -/
import Derived.Test.YtpdedfpacklnoaaGreatDoorML
import Derived.Deep.WholeRow
set_option maxRecDepth 100000
namespace Go.Proofs.YtpdedfpacklnoaaGreatDoor
open Go.RowKit Go.BL Go.Ct Go.Sl

/-- The table, its first letters laid. -/
def tabN : Nat → Array Nat
  | 0 => Array.replicate 256 0
  | k + 1 => (tabN k).setIfInBounds (ltr k) (k + 1)
def tabV (k : Nat) : Array Value := (tabN k).map fun n : Nat => .int .u8 (n : Int)
theorem tabN_size : ∀ k, (tabN k).size = 256
  | 0 => by simp [tabN]
  | k + 1 => by simp [tabN, tabN_size k]
theorem tabV_size (k : Nat) : (tabV k).size = 256 := by simp [tabV, tabN_size]
theorem tabV_succ (k : Nat) : (tabV k).setIfInBounds (ltr k) (.int .u8 ((k + 1 : Nat) : Int)) = tabV (k + 1) := by
  unfold tabV
  rw [show tabN (k + 1) = (tabN k).setIfInBounds (ltr k) (k + 1) from rfl, Array.map_setIfInBounds]
theorem tab_all : ((List.range 256).all fun k => (tabN 64).getD k 300 == (if vlt k < 64 then vlt k + 1 else 0)) = true := by kernel_rfl
theorem tab_at {k : Nat} (h : k < 256) : (tabV 64)[k]? = some (.int .u8 (((if vlt k < 64 then vlt k + 1 else 0) : Nat) : Int)) := by
  have h1 := List.all_eq_true.1 tab_all k (List.mem_range.2 h)
  have h2 : (tabN 64).getD k 300 = (if vlt k < 64 then vlt k + 1 else 0) := by simpa using h1
  have h3 : k < (tabN 64).size := by rw [tabN_size]; exact h
  unfold tabV
  rw [Array.getElem?_map, Array.getElem?_eq_getElem h3]
  rw [Array.getD_eq_getD_getElem?, Array.getElem?_eq_getElem h3] at h2
  rw [← h2]; rfl
theorem zero229 : (Tryz.prog.info? 229).map (fun i => (i.zero, i.size)) = some (some (.agg (tabV 0)), 256) := by kernel_rfl
theorem alpha_at : ∀ k : Nat, ∀ h : k < 64, ((⟨#[65, 66, 67, 68, 69, 70, 71, 72, 73, 74, 75, 76, 77, 78, 79, 80, 81, 82, 83, 84, 85, 86, 87, 88, 89, 90, 97, 98, 99, 100, 101, 102, 103, 104, 105, 106, 107, 108, 109, 110, 111, 112, 113, 114, 115, 116, 117, 118, 119, 120, 121, 122, 48, 49, 50, 51, 52, 53, 54, 55, 56, 57, 45, 95]⟩ : ByteArray)[k]'h).toNat = ltr k := by
  decide
theorem op_load {P : Program} {o : Oper} {a : Act} {next : Act → World → Prop} {Q : Exit → Act → World → Prop} {w w' : World} {t : TypeId} {x : Operand} {v : Value} (ho : o.op = .load t x) (h : (Instr.loadAt t (a.eval x)).run P w = .ok v w') (hn : next (a.put o.dst v) w') : Oper.wp P o a w next Q := by
  unfold Oper.wp execOp
  rw [ho]
  simp only [Sem.run_bind, h, Result.andThen, Sem.run_pure, Oper.upon_value]
  exact hn
theorem tabV_one (k : Nat) : (tabV k).all (·.oneCell') = true := by
  unfold tabV
  rw [Array.all_map, Array.all_eq_true]
  intro i hi
  rfl
set_option maxHeartbeats 2000000 in
theorem numbers_any (w : World) : Calls Tryz.prog 179 #[] w (RetV (.agg (tabV 64)) w) := by
  obtain ⟨hz, hs⟩ := zero_of_info zero229
  have hal := alpha_at
  go_enter Tryz.func179, Tryz.ntmps179
  go_wp2_with fail
  have HAL := Lib.hid hal
  clear hal
  go_loopw [3] (fun i wr => ∃ k : Nat, k ≤ 64 ∧ i = .int .i64 (k : Int) ∧ wr = (w.alloc (.cells (tabV 0) 229)).alloc (.cells (tabV k) 229)) (fun i _ => 64 - (intOf i).toNat)
  case atStart => exact ⟨0, by omega, rfl, rfl⟩
  case round =>
    obtain ⟨k, hk, rfl, rfl⟩ := hrel
    by_cases hlt : k < 64
    · have ha := HAL.out k hlt
      have hl := ltr_lt k
      obtain ⟨L, hL⟩ : ∃ L, ltr k = L := ⟨_, rfl⟩
      rw [hL] at ha hl
      have hv : IntKind.u8.wrap ((k : Int) + 1) = (k : Int) + 1 := by rw [IntKind.wrap_u8]; omega
      have hsz := tabV_size k
      have hTV := tabV_succ k
      rw [hL] at hTV
      obtain ⟨c, hc⟩ : ∃ c, tabV k = c := ⟨_, rfl⟩
      rw [hc] at hsz hTV ⊢
      have HTV := Lib.hid hTV
      clear hTV hL hc
      go_wp2_with fail
      exact ⟨⟨k + 1, by omega, by go_num, by rw [← HTV.out]; rfl⟩, by simp [intOf]; omega⟩
    · obtain rfl : k = 64 := by omega
      have hld := run_loadAt_new (P := Tryz.prog) (w.alloc (.cells (tabV 0) 229)) 229 (tabV 64) 256 5 Tryz.underlying229 (by rw [tabV_size]; exact hs)
      have hsz1 : (w.alloc (.cells (tabV 0) 229)).heap.size = w.heap.size + 1 := by simp
      rw [hsz1] at hld
      have hrow : ((w.alloc (.cells (tabV 0) 229)).alloc (.cells (tabV 64) 229)).heap[(⟨w.heap.size, 0, none⟩ : Addr).block]? = some (.cells (tabV 0) 229 (0, 0)) := by
        show ((w.heap.push _).push _)[w.heap.size]? = _
        rw [Array.getElem?_push_lt (by simp), ← Array.getElem?_eq_getElem (by simp)]
        simp
      have hst := run_storeVar_row (P := Tryz.prog) ((w.alloc (.cells (tabV 0) 229)).alloc (.cells (tabV 64) 229)) w.heap.size 229 229 (tabV 0) (tabV 64) hrow (by rw [tabV_size]; exact hs) (by rw [tabV_size, tabV_size]) (tabV_one 64)
      have hsz64 := tabV_size 64
      have hsc : (storeCells ⟨w.heap.size, 0, none⟩ (tabV 64).toList 0).run Tryz.prog ((w.alloc (.cells (tabV 0) 229)).alloc (.cells (tabV 64) 229)) = .ok () (((w.alloc (.cells (tabV 0) 229)).alloc (.cells (tabV 64) 229)).setRow w.heap.size (tabV 64)) := by
        have h := hst
        cases hq : Tryz.prog.info? 229 with
        | none => simp [hq] at hs
        | some i =>
          have hs' : i.size = 256 := by simpa [hq] using hs
          simpa [storeVar, sizeOf, typeInfo, hq, Value.cells, hs', hsz64] using h
      go_wp2_with fail
      refine op_load rfl hld ?_
      go_wp2_with fail
      obtain ⟨w9, hw9⟩ : ∃ x, ((w.alloc (.cells (tabV 0) 229)).alloc (.cells (tabV 64) 229)).setRow w.heap.size (tabV 64) = x := ⟨_, rfl⟩
      have HB9 : Hid (Below w.heap.size w w9) := Lib.hid (by
        rw [← hw9]
        refine ⟨rfl, rfl, rfl, ?_, fun k hk => ?_⟩
        · unfold World.setRow; simp; omega
        · unfold World.setRow World.alloc
          dsimp only
          rw [Array.getElem?_modify, if_neg (by omega), Array.getElem?_push_lt (by simp; omega), ← Array.getElem?_eq_getElem (by simp; omega), Array.getElem?_push_lt hk, ← Array.getElem?_eq_getElem hk])
      have hrow9 : w9.heap[w.heap.size]? = some (.cells (tabV 64) 229 (0, 0)) := by
        rw [← hw9]
        unfold World.setRow
        dsimp only
        rw [Array.getElem?_modify, if_pos rfl, hrow]
        rfl
      have hld9 := run_loadVar_row (P := Tryz.prog) w9 w.heap.size 229 229 (tabV 64) (0, 0) _ hrow9 Tryz.underlying229 rfl (by rw [tabV_size]; exact hs)
      rw [hw9]
      clear hw9 hrow9 hst hsc hrow hld
      go_wp2_with fail
      refine bodyPost_ret (v := .agg (tabV 64)) ?_ rfl ⟨rfl, HB9.out⟩
      simp [results, Tryz.results179, asAddr, hld9]
end Go.Proofs.YtpdedfpacklnoaaGreatDoor
