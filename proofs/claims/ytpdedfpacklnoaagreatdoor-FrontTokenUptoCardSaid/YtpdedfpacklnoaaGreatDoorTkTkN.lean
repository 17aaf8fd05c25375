/- Contract of token.numbers: the table of the letters' numbers. Plain: four letters at once; 'or' and 'and' of small numbers. Contract of token.Bytes: bytesL. -/
import Derived.Test.YtpdedfpacklnoaaGreatDoorTkML
import Derived.Deep.WholeRow
import Derived.Laws.BitsAllLaws
import Derived.Test.YtpdedfpacklnoaaGreatDoorTkMX
import Derived.WalkMore
import Derived.ScopeJumps
set_option maxRecDepth 100000
namespace Go.Proofs.YtpdedfpacklnoaaGreatDoor
open Go.RowKit Go.BL Go.Ct Go.Sl

/-- The table, its first letters laid. -/
def tabN : Nat → Array Nat
 | 0 => Array.replicate 256 0
 | k + 1 => (tabN k).setIfInBounds (ltr k) (k + 1)
def tabV (k : Nat) : Array Value := (tabN k).map fun n : Nat => .int .u8 (n : Int)
theorem tabN_size : ∀ k, (tabN k).size = 256
 | 0 => by simp [tabN]
 | k + 1 => by simp [tabN, tabN_size k]
theorem tabV_size (k : Nat) : (tabV k).size = 256 := by simp [tabV, tabN_size]
theorem tabV_succ (k : Nat) : (tabV k).setIfInBounds (ltr k) (.int .u8 ((k + 1 : Nat) : Int)) = tabV (k + 1) := by
 unfold tabV
 rw [show tabN (k + 1) = (tabN k).setIfInBounds (ltr k) (k + 1) from rfl, Array.map_setIfInBounds]
theorem tab_all : ((List.range 256).all fun k => (tabN 64).getD k 300 == (if vlt k < 64 then vlt k + 1 else 0)) = true := by kernel_rfl
theorem tab_at {k : Nat} (h : k < 256) : (tabV 64)[k]? = some (.int .u8 (((if vlt k < 64 then vlt k + 1 else 0) : Nat) : Int)) := by
 have h1 := List.all_eq_true.1 tab_all k (List.mem_range.2 h)
 have h2 : (tabN 64).getD k 300 = (if vlt k < 64 then vlt k + 1 else 0) := by simpa using h1
 have h3 : k < (tabN 64).size := by rw [tabN_size]; exact h
 unfold tabV
 rw [Array.getElem?_map, Array.getElem?_eq_getElem h3]
 rw [Array.getD_eq_getD_getElem?, Array.getElem?_eq_getElem h3] at h2
 rw [← h2]; rfl
theorem zero229 : (Tryz.prog.info? 229).map (fun i => (i.zero, i.size)) = some (some (.agg (tabV 0)), 256) := by kernel_rfl
theorem alpha_at : ∀ k : Nat, ∀ h : k < 64, ((⟨#[65, 66, 67, 68, 69, 70, 71, 72, 73, 74, 75, 76, 77, 78, 79, 80, 81, 82, 83, 84, 85, 86, 87, 88, 89, 90, 97, 98, 99, 100, 101, 102, 103, 104, 105, 106, 107, 108, 109, 110, 111, 112, 113, 114, 115, 116, 117, 118, 119, 120, 121, 122, 48, 49, 50, 51, 52, 53, 54, 55, 56, 57, 45, 95]⟩ : ByteArray)[k]'h).toNat = ltr k := by
 decide
theorem op_load {P : Program} {o : Oper} {a : Act} {next : Act → World → Prop} {Q : Exit → Act → World → Prop} {w w' : World} {t : TypeId} {x : Operand} {v : Value} (ho : o.op = .load t x) (h : (Instr.loadAt t (a.eval x)).run P w = .ok v w') (hn : next (a.put o.dst v) w') : Oper.wp P o a w next Q := by
 unfold Oper.wp execOp
 rw [ho]
 simp only [Sem.run_bind, h, Result.andThen, Sem.run_pure, Oper.upon_value]
 exact hn
theorem tabV_one (k : Nat) : (tabV k).all (·.oneCell') = true := by
 unfold tabV
 rw [Array.all_map, Array.all_eq_true]
 intro i hi
 rfl
set_option maxHeartbeats 2000000 in
theorem numbers_any (w : World) : Calls Tryz.prog 179 #[] w (RetV (.agg (tabV 64)) w) := by
 obtain ⟨hz, hs⟩ := zero_of_info zero229
 have hal := alpha_at
 go_enter Tryz.func179, Tryz.ntmps179
 go_wp2_with fail
 have HAL := Lib.hid hal
 clear hal
 go_loopw [3] (fun i wr => ∃ k : Nat, k ≤ 64 ∧ i = .int .i64 (k : Int) ∧ wr = (w.alloc (.cells (tabV 0) 229)).alloc (.cells (tabV k) 229)) (fun i _ => 64 - (intOf i).toNat)
 case atStart => exact ⟨0, by omega, rfl, rfl⟩
 case round =>
  obtain ⟨k, hk, rfl, rfl⟩ := hrel
  by_cases hlt : k < 64
  ·have ha := HAL.out k hlt
   have hl := ltr_lt k
   obtain ⟨L, hL⟩ : ∃ L, ltr k = L := ⟨_, rfl⟩
   rw [hL] at ha hl
   have hv : IntKind.u8.wrap ((k : Int) + 1) = (k : Int) + 1 := by rw [IntKind.wrap_u8]; omega
   have hsz := tabV_size k
   have hTV := tabV_succ k
   rw [hL] at hTV
   obtain ⟨c, hc⟩ : ∃ c, tabV k = c := ⟨_, rfl⟩
   rw [hc] at hsz hTV ⊢
   have HTV := Lib.hid hTV
   clear hTV hL hc
   go_wp2_with fail
   exact ⟨⟨k + 1, by omega, by go_num, by rw [← HTV.out]; rfl⟩, by simp [intOf]; omega⟩
  ·obtain rfl : k = 64 := by omega
   have hld := run_loadAt_new (P := Tryz.prog) (w.alloc (.cells (tabV 0) 229)) 229 (tabV 64) 256 5 Tryz.underlying229 (by rw [tabV_size]; exact hs)
   have hsz1 : (w.alloc (.cells (tabV 0) 229)).heap.size = w.heap.size + 1 := by simp
   rw [hsz1] at hld
   have hrow : ((w.alloc (.cells (tabV 0) 229)).alloc (.cells (tabV 64) 229)).heap[(⟨w.heap.size, 0, none⟩ : Addr).block]? = some (.cells (tabV 0) 229 (0, 0)) := by
    show ((w.heap.push _).push _)[w.heap.size]? = _
    rw [Array.getElem?_push_lt (by simp), ← Array.getElem?_eq_getElem (by simp)]
    simp
   have hst := run_storeVar_row (P := Tryz.prog) ((w.alloc (.cells (tabV 0) 229)).alloc (.cells (tabV 64) 229)) w.heap.size 229 229 (tabV 0) (tabV 64) hrow (by rw [tabV_size]; exact hs) (by rw [tabV_size, tabV_size]) (tabV_one 64)
   have hsz64 := tabV_size 64
   have hsc : (storeCells ⟨w.heap.size, 0, none⟩ (tabV 64).toList 0).run Tryz.prog ((w.alloc (.cells (tabV 0) 229)).alloc (.cells (tabV 64) 229)) = .ok () (((w.alloc (.cells (tabV 0) 229)).alloc (.cells (tabV 64) 229)).setRow w.heap.size (tabV 64)) := by
    have h := hst
    cases hq : Tryz.prog.info? 229 with
    | none => simp [hq] at hs
    | some i =>
     have hs' : i.size = 256 := by simpa [hq] using hs
     simpa [storeVar, sizeOf, typeInfo, hq, Value.cells, hs', hsz64] using h
   go_wp2_with fail
   refine op_load rfl hld ?_
   go_wp2_with fail
   obtain ⟨w9, hw9⟩ : ∃ x, ((w.alloc (.cells (tabV 0) 229)).alloc (.cells (tabV 64) 229)).setRow w.heap.size (tabV 64) = x := ⟨_, rfl⟩
   have HB9 : Hid (Below w.heap.size w w9) := Lib.hid (by
    rw [← hw9]
    refine ⟨rfl, rfl, rfl, ?_, fun k hk => ?_⟩
    ·unfold World.setRow; simp; omega
    ·unfold World.setRow World.alloc
     dsimp only
     rw [Array.getElem?_modify, if_neg (by omega), Array.getElem?_push_lt (by simp; omega), ← Array.getElem?_eq_getElem (by simp; omega), Array.getElem?_push_lt hk, ← Array.getElem?_eq_getElem hk])
   have hrow9 : w9.heap[w.heap.size]? = some (.cells (tabV 64) 229 (0, 0)) := by
    rw [← hw9]
    unfold World.setRow
    dsimp only
    rw [Array.getElem?_modify, if_pos rfl, hrow]
    rfl
   have hld9 := run_loadVar_row (P := Tryz.prog) w9 w.heap.size 229 229 (tabV 64) (0, 0) _ hrow9 Tryz.underlying229 rfl (by rw [tabV_size]; exact hs)
   rw [hw9]
   clear hw9 hrow9 hst hsc hrow hld
   go_wp2_with fail
   refine bodyPost_ret (v := .agg (tabV 64)) ?_ rfl ⟨rfl, HB9.out⟩
   simp [results, Tryz.results179, asAddr, hld9]
end Go.Proofs.YtpdedfpacklnoaaGreatDoor
namespace Go.Proofs.YtpdedfpacklnoaaGreatDoor
open Go.RowKit Go.BL Go.Ct Go.Sl

/-- The number of the first letters, up to four. -/
def numL (t : List Nat) : Nat → Nat
 | 0 => 0
 | i + 1 => numL t i * 64 + (if i < min t.length 4 then vlt (t.getD i 0) else 0)
theorem vlt_64 {c : Nat} (h : ¬ vlt c < 64) : vlt c = 64 := by have := vlt_le c; omega
theorem bytes_bad : ∀ {t : List Nat} {j : Nat}, j < min t.length 4 → ¬ vlt (t.getD j 0) < 64 → bytesL t = none
 | [], j, hj, _ => by simp at hj
 | [a], _, _, _ => rfl
 | [a, b], j, hj, h => by
  have h := vlt_64 h
  simp only [bytesL]
  rcases j with _ | _ | j
  ·exact if_pos (Or.inl h)
  ·exact if_pos (Or.inr (Or.inl h))
  ·simp at hj; omega
 | [a, b, c], j, hj, h => by
  have h := vlt_64 h
  simp only [bytesL]
  rcases j with _ | _ | _ | j
  ·exact if_pos (Or.inl h)
  ·exact if_pos (Or.inr (Or.inl h))
  ·exact if_pos (Or.inr (Or.inr (Or.inl h)))
  ·simp at hj; omega
 | a :: b :: c :: d :: r, j, hj, h => by
  have h := vlt_64 h
  simp only [bytesL]
  rcases j with _ | _ | _ | _ | j
  ·exact if_pos (Or.inl h)
  ·exact if_pos (Or.inr (Or.inl h))
  ·exact if_pos (Or.inr (Or.inr (Or.inl h)))
  ·exact if_pos (Or.inr (Or.inr (Or.inr h)))
  ·omega
theorem bytes_one {t : List Nat} (h : min t.length 4 = 1) : bytesL t = none := by
 match t, h with
 | [a], _ => rfl
 | [], h => simp at h
 | a :: b :: r, h => simp at h <;> omega
theorem bytes_two {t : List Nat} (h : min t.length 4 = 2) (hv : ∀ j, j < 2 → vlt (t.getD j 0) < 64) : bytesL t = if numL t 4 % 65536 ≠ 0 then none else (bytesL (t.drop 2)).map ([numL t 4 / 65536] ++ ·) := by
 match t, h with
 | [a, b], _ =>
  have h0 : vlt a < 64 := hv 0 (by decide)
  have h1 : vlt b < 64 := hv 1 (by decide)
  have hn : numL [a, b] 4 = vlt a * 262144 + vlt b * 4096 := by simp [numL]; omega
  rw [hn]
  simp only [bytesL]
  by_cases h2 : vlt b % 16 ≠ 0
  ·rw [if_pos (Or.inr (Or.inr h2)), if_pos (by omega)]
  ·rw [if_neg (by omega), if_neg (by omega)]
   simp [bytesL]; omega
 | [], h => simp at h
 | [a], h => simp at h
 | a :: b :: c :: r, h => simp at h <;> omega
theorem bytes_three {t : List Nat} (h : min t.length 4 = 3) (hv : ∀ j, j < 3 → vlt (t.getD j 0) < 64) : bytesL t = if numL t 4 % 256 ≠ 0 then none else (bytesL (t.drop 3)).map ([numL t 4 / 65536, numL t 4 / 256 % 256] ++ ·) := by
 match t, h with
 | [a, b, c], _ =>
  have h0 : vlt a < 64 := hv 0 (by decide)
  have h1 : vlt b < 64 := hv 1 (by decide)
  have h2 : vlt c < 64 := hv 2 (by decide)
  have hn : numL [a, b, c] 4 = vlt a * 262144 + vlt b * 4096 + vlt c * 64 := by simp [numL]; omega
  rw [hn]
  simp only [bytesL]
  by_cases h3 : vlt c % 4 ≠ 0
  ·rw [if_pos (Or.inr (Or.inr (Or.inr h3))), if_pos (by omega)]
  ·rw [if_neg (by omega), if_neg (by omega)]
   simp [bytesL]; omega
 | [], h => simp at h
 | [a], h => simp at h
 | [a, b], h => simp at h
 | a :: b :: c :: d :: r, h => simp at h <;> omega
theorem bytes_four {t : List Nat} (h : min t.length 4 = 4) (hv : ∀ j, j < 4 → vlt (t.getD j 0) < 64) : bytesL t = (bytesL (t.drop 4)).map ([numL t 4 / 65536, numL t 4 / 256 % 256, numL t 4 % 256] ++ ·) := by
 match t, h with
 | a :: b :: c :: d :: r, _ =>
  have h0 : vlt a < 64 := hv 0 (by decide)
  have h1 : vlt b < 64 := hv 1 (by decide)
  have h2 : vlt c < 64 := hv 2 (by decide)
  have h3 : vlt d < 64 := hv 3 (by decide)
  have hm : min (r.length + 1 + 1 + 1 + 1) 4 = 4 := by omega
  have hn : numL (a :: b :: c :: d :: r) 4 = vlt a * 262144 + vlt b * 4096 + vlt c * 64 + vlt d := by simp [numL, hm]; omega
  rw [hn]
  simp only [bytesL]
  rw [if_neg (by omega)]
  simp only [List.drop_succ_cons, List.drop_zero]
  congr 1
  funext x
  simp only [List.cons_append, List.nil_append, List.cons.injEq, and_true]
  refine ⟨by omega, by omega, by omega⟩
 | [], h => simp at h
 | [a], h => simp at h
 | [a, b], h => simp at h
 | [a, b, c], h => simp at h
theorem or_i64 (a b : Nat) (ha : a < 4294967296) (hb : b < 4294967296) : bits .or .i64 (a : Int) (b : Int) = ((a ||| b : Nat) : Int) := by
 have hx : a ||| b < 2 ^ 32 := Nat.or_lt_two_pow (by omega) (by omega)
 have h1 : (BitVec.ofInt 64 (a : Int)).toNat = a := by
  rw [BitVec.ofInt_natCast, BitVec.toNat_ofNat]; exact Nat.mod_eq_of_lt (by omega)
 have h2 : (BitVec.ofInt 64 (b : Int)).toNat = b := by
  rw [BitVec.ofInt_natCast, BitVec.toNat_ofNat]; exact Nat.mod_eq_of_lt (by omega)
 show IntKind.i64.wrap ((BitVec.ofInt 64 (a : Int) ||| BitVec.ofInt 64 (b : Int)).toNat : Int) = _
 rw [BitVec.toNat_or, h1, h2, IntKind.wrap_i64]
 omega
theorem and_i64 (a b : Nat) (ha : a < 4294967296) (hb : b < 4294967296) : bits .and .i64 (a : Int) (b : Int) = ((a &&& b : Nat) : Int) := by
 have hx : a &&& b < 2 ^ 32 := Nat.and_lt_two_pow _ (by omega)
 have h1 : (BitVec.ofInt 64 (a : Int)).toNat = a := by
  rw [BitVec.ofInt_natCast, BitVec.toNat_ofNat]; exact Nat.mod_eq_of_lt (by omega)
 have h2 : (BitVec.ofInt 64 (b : Int)).toNat = b := by
  rw [BitVec.ofInt_natCast, BitVec.toNat_ofNat]; exact Nat.mod_eq_of_lt (by omega)
 show IntKind.i64.wrap ((BitVec.ofInt 64 (a : Int) &&& BitVec.ofInt 64 (b : Int)).toNat : Int) = _
 rw [BitVec.toNat_and, h1, h2, IntKind.wrap_i64]
 omega
theorem or_add (X v : Nat) (hX : X * 64 < 16777216) (hv : v < 64) : bits .or .i64 ((X : Int) * 64) (v : Int) = ((X * 64 + v : Nat) : Int) := by
 have h := or_i64 (X * 64) v (by omega) (by omega)
 rw [nat_join 6 (X * 64) v (by omega) (by omega)] at h
 rw [← h]; norm_cast
theorem and_low (X : Nat) (hX : X < 16777216) : bits .and .i64 (X : Int) 0 = 0 ∧ bits .and .i64 (X : Int) 255 = ((X % 256 : Nat) : Int) ∧ bits .and .i64 (X : Int) 65535 = ((X % 65536 : Nat) : Int) := by
 refine ⟨?_, ?_, ?_⟩
 ·have := and_i64 X 0 (by omega) (by decide); simpa using this
 ·have := and_i64 X 255 (by omega) (by decide); rw [show X &&& 255 = X % 256 from Nat.and_two_pow_sub_one_eq_mod X 8] at this; exact this
 ·have := and_i64 X 65535 (by omega) (by decide); rw [show X &&& 65535 = X % 65536 from Nat.and_two_pow_sub_one_eq_mod X 16] at this; exact this
end Go.Proofs.YtpdedfpacklnoaaGreatDoor
set_option maxRecDepth 100000
namespace Go.Proofs.YtpdedfpacklnoaaGreatDoor
open Go.RowKit Go.BL Go.Ct Go.Sl

@[go_sem] theorem jump_normal {l : Nat} {J : Act → World → Prop} {Q : Exit → Act → World → Prop} {a : Act} {w : World} : Exit.jump l J Q .normal a w = Q .normal a w := rfl
@[go_sem] theorem jump_exit {l : Nat} {J : Act → World → Prop} {Q : Exit → Act → World → Prop} {a : Act} {w : World} (id : Nat) : Exit.jump l J Q (.exit id) a w = Q (.exit id) a w := rfl
@[go_sem] theorem jump_ret {l : Nat} {J : Act → World → Prop} {Q : Exit → Act → World → Prop} {a : Act} {w : World} : Exit.jump l J Q .ret a w = Q .ret a w := rfl
@[go_sem] theorem jump_panic {l : Nat} {J : Act → World → Prop} {Q : Exit → Act → World → Prop} {a : Act} {w : World} (ch : List PanicEntry) : Exit.jump l J Q (.panic ch) a w = Q (.panic ch) a w := rfl
@[go_sem] theorem jump_goto {l : Nat} {J : Act → World → Prop} {Q : Exit → Act → World → Prop} {a : Act} {w : World} (l' : Nat) : Exit.jump l J Q (.goto l') a w = (l' = l ∧ J a w) := rfl
def BytR (o : Option (List Nat)) (w : World) (e : Ending) (w' : World) : Prop := Below w.heap.size w w' ∧ ∃ v, e = .returned (.tuple #[v, .bool o.isSome]) ∧ Own w' w.heap.size v (o.getD [])
theorem rd_three (w : World) (X : Nat) (hX : X < 16777216) (g : Nat) (hg : g = w.heap.size) : Rd (w.alloc (.cells #[.int .u8 ((X : Int) / 65536), .int .u8 ((X : Int) / 256 % 256), .int .u8 ((X : Int) % 256)] 224)) (some ⟨g, 0, none⟩) 3 [X / 65536, X / 256 % 256, X % 256] := by
 obtain ⟨e0, e1, e2⟩ := tri_at w (.int .u8 ((X : Int) / 65536)) (.int .u8 ((X : Int) / 256 % 256)) (.int .u8 ((X : Int) % 256)) 224 g hg
 refine ⟨rfl, by decide, fun x hx => ?_, fun _ => ⟨g, 0, rfl, by rw [hg]; simp, fun i hi => ?_⟩⟩
 ·simp only [List.mem_cons, List.not_mem_nil, or_false] at hx
  omega
 ·rcases i with _ | _ | _ | i
  ·exact e0
  ·exact e1
  ·exact e2
  ·omega
theorem next_of {s t b : List Nat} {o : Option (List Nat)} {acc : List Nat} (h : bytesL s = (bytesL t).map (acc ++ ·)) (h2 : bytesL t = o.map (b ++ ·)) : bytesL s = o.map ((acc ++ b) ++ ·) := by
 rw [h, h2]; cases o <;> simp
set_option maxHeartbeats 4000000 in
theorem bytes_any (s : List UInt8) (hl : s.length ≤ 1048576) (w : World) : Calls Tryz.prog 134 #[.string ⟨s.toArray⟩] w (BytR (bytesL (nats s)) w) := by
 have hnu := numbers_any w
 obtain ⟨hz, hs⟩ := zero_of_info zero229
 have HZ := Lib.hid hz
 clear hz
 go_enter Tryz.func134, Tryz.ntmps134
 go_wp2_with fail
 refine wp_scope_jumps 0 (fun a w' => (∃ u0 u1 u2 u3 u4 u5 u6 u7 u8 u9 u10 u11 u12 u13 u14 u15 u16 u17 u18 u19 u20 u21 u22 u23 u24 u25 u26 u27 u28 u29 u30 u31 u32 u33 u34 u35 u36 u37 u38 u39 u40 u41 u42 u43 u44 u45 u46 u47 u48 u49 u50 u51 u52 u53 u54 u55 u56 u57 u58 u59 u60 u61 u62 u63 u64 u65 u66 u67 u68 : Value, a = { tmps := #[u0, u1, u2, u3, u4, u5, u6, u7, u8, u9, u10, u11, u12, u13, u14, u15, u16, u17, u18, u19, u20, u21, u22, u23, u24, u25, u26, u27, u28, u29, u30, u31, u32, u33, u34, u35, u36, u37, u38, u39, u40, u41, u42, u43, u44, u45, u46, u47, u48, u49, u50, u51, u52, u53, u54, u55, u56, u57, u58, u59, u60, u61, u62, u63, u64, u65, u66, u67, u68], defers := [] }) ∧ Below w.heap.size w w' ∧ bytesL (nats s) = none) (fun _ _ => 0) rfl ?_ ?_
 case refine_2 =>
  rintro a w' ⟨⟨u0, u1, u2, u3, u4, u5, u6, u7, u8, u9, u10, u11, u12, u13, u14, u15, u16, u17, u18, u19, u20, u21, u22, u23, u24, u25, u26, u27, u28, u29, u30, u31, u32, u33, u34, u35, u36, u37, u38, u39, u40, u41, u42, u43, u44, u45, u46, u47, u48, u49, u50, u51, u52, u53, u54, u55, u56, u57, u58, u59, u60, u61, u62, u63, u64, u65, u66, u67, u68, rfl⟩, hB, hN⟩
  go_wp2_with fail
  refine bodyPost_ret (v := .tuple #[.slice none 0 0, .bool false]) (by simp [results, Tryz.results134, go_sem]; try rfl) rfl ?_
  exact ⟨hB, _, rfl, Own.nil _ _⟩
 case refine_1 =>
  go_wp2_with fail
  go_at_call 179
  refine hnu.mono ?_
  rintro e w1 ⟨rfl, hb⟩
  have HB1 := Lib.hid hb
  clear hb hnu
  have hz := HZ.out
  have hsz64 := tabV_size 64
  have hsc := run_storeCells_new (P := Tryz.prog) w1 229 (tabV 0) (tabV 64) (by rw [tabV_size]; exact hs) (by rw [tabV_size, tabV_size]) (tabV_one 64)
  go_wp2_with fail
  obtain ⟨w2, hw2⟩ : ∃ x, w1.alloc (.cells (tabV 64) 229) = x := ⟨_, rfl⟩
  have HB2 : Hid (Below w.heap.size w w2) := Lib.hid (by rw [← hw2]; exact HB1.out.alloc HB1.out.size _)
  have HT : Hid (∀ k : Nat, k < 256 → w2.cell? ⟨w1.heap.size, k, none⟩ = some (.int .u8 (((if vlt k < 64 then vlt k + 1 else 0 : Nat) : Nat) : Int))) := Lib.hid (fun k hk => by
   rw [← hw2, World.cell?_alloc_at _ _ _ _ rfl]
   exact tab_at hk)
  have HS2 : Hid (w1.heap.size < w2.heap.size) := Lib.hid (by rw [← hw2]; simp)
  rw [hw2]
  clear hw2 hsc hz
  go_loopw [0, 5] (fun sv ov wr => ∃ (t : List UInt8) (acc : List Nat), sv = .string ⟨t.toArray⟩ ∧ t.length ≤ 1048576 ∧ Hid (Below w2.heap.size w2 wr) ∧ Hid (Own wr w2.heap.size ov acc) ∧ Hid (bytesL (nats s) = (bytesL (nats t)).map (acc ++ ·)) ∧ Hid (acc.length + t.length ≤ s.length)) (fun sv _ _ => (match sv with | .string b => b.size | _ => 0))
  case atStart => exact ⟨s, [], rfl, hl, Lib.hid (Below.refl _ _), Lib.hid (Own.nil _ _), Lib.hid (by simp), Lib.hid (by simp)⟩
  case round =>
   rename_i u5
   obtain ⟨t, acc, rfl, htl, HR, HO, HP, HL⟩ := hrel
   cases t with
   | nil =>
    have HV : Hid (bytesL (nats s) = some acc) := Lib.hid (by rw [HP.out]; simp [nats, bytesL])
    go_wp2_with fail
    go_ret2
    exact ⟨HB2.out.trans (HR.out.mono HB2.out.size), _, by rw [HV.out]; rfl, by rw [HV.out]; exact HO.out.base HB2.out.size⟩
   | cons c0 tr =>
    have hpos : (0 : Int) < (((c0 :: tr).length : Nat) : Int) := by simp
    obtain ⟨t, ht⟩ : ∃ t, c0 :: tr = t := ⟨_, rfl⟩
    rw [ht] at htl HP HL hpos ⊢
    have HNE : Hid (t ≠ []) := Lib.hid (by rw [← ht]; simp)
    clear ht
    go_upto_region 6 with fail
    obtain ⟨n, hn⟩ : ∃ n : Nat, min t.length 4 = n := ⟨_, rfl⟩
    have hni : (min (t.length : Int) 4) = (n : Int) := by omega
    have hn4 : n ≤ 4 := by omega
    have hnt : n ≤ t.length := by omega
    have hn1 : 1 ≤ n := by omega
    have HNN := Lib.hid hn
    rw [hni]
    clear hni hn
    go_wp2_with fail
    go_loopw [7, 18] (fun xv iv wq => ∃ i X : Nat, i ≤ 4 ∧ iv = .int .i64 (i : Int) ∧ xv = .int .i64 (X : Int) ∧ X < 16777216 ∧ wq = wr ∧ Hid (X < 64 ^ i) ∧ Hid (X = numL (nats t) i) ∧ Hid (∀ j, j < i → j < n → vlt ((nats t).getD j 0) < 64)) (fun _ iv _ => 4 - (intOf iv).toNat)
    case atStart => exact ⟨0, 0, by omega, rfl, rfl, by omega, rfl, Lib.hid (by simp), Lib.hid rfl, Lib.hid (fun j h => absurd h (by omega))⟩
    case round =>
     obtain ⟨i, X, hi, rfl, rfl, hX, rfl, HX, HN, HV⟩ := hrel
     by_cases hi4 : i < 4
     ·have hp4 : X * 64 < 16777216 := by
       have h1 := HX.out
       have h2 : 64 ^ i ≤ 64 ^ 3 := Nat.pow_le_pow_right (by omega) (by omega)
       omega
      by_cases hin : i < n
      ·have hit : i < t.length := by omega
       obtain ⟨x, hx⟩ : ∃ x, (⟨t.toArray⟩ : ByteArray)[i]'hit = x := ⟨_, rfl⟩
       have Hx : Hid ((nats t).getD i 0 = x.toNat) := Lib.hid (by
        have h1 : t[i]? = some x := by rw [← hx, List.getElem?_eq_getElem hit]; rfl
        unfold nats
        rw [List.getD_eq_getElem?_getD, List.getElem?_map, h1]; rfl)
       have hx256 : x.toNat < 256 := x.toNat_lt
       have hcell := old_cell HR.out HS2.out (HT.out x.toNat hx256)
       by_cases hv : vlt x.toNat < 64
       ·rw [if_pos hv] at hcell
        obtain ⟨v, hv'⟩ : ∃ v, vlt x.toNat = v := ⟨_, rfl⟩
        rw [hv'] at hcell hv
        have HVX := Lib.hid hv'
        clear hv'
        have hor := or_add X v hp4 hv
        have HV2 : Hid (∀ j, j < i + 1 → j < n → vlt ((nats t).getD j 0) < 64) := Lib.hid (fun j h1 h2 => by
         rcases Nat.lt_or_ge j i with h | h
         ·exact HV.out j h h2
         ·obtain rfl : j = i := by omega
          rw [Hx.out, HVX.out]; exact hv)
        have HN2 : Hid (X * 64 + v = numL (nats t) (i + 1)) := Lib.hid (by
         show X * 64 + v = numL (nats t) i * 64 + _
         rw [if_pos (by rw [nats, List.length_map, HNN.out]; exact hin), ← HN.out, Hx.out, HVX.out])
        have HX2 : Hid (X * 64 + v < 64 ^ (i + 1)) := Lib.hid (by have := HX.out; rw [Nat.pow_succ]; omega)
        have hb24 : X * 64 + v < 16777216 := by
         have h1 := HX2.out
         have h2 : 64 ^ (i + 1) ≤ 64 ^ 4 := Nat.pow_le_pow_right (by omega) (by omega)
         omega
        go_wp2_with fail
        exact ⟨⟨i + 1, X * 64 + v, by omega, by go_num, by go_num, hb24, trivial, HX2, HN2, HV2⟩, by simp [intOf]; omega⟩
       ·rw [if_neg hv] at hcell
        have HVX := Lib.hid hv
        clear hv
        have HBAD : Hid (bytesL (nats s) = none) := Lib.hid (by
         rw [HP.out, bytes_bad (j := i) (by rw [nats, List.length_map, HNN.out]; exact hin) (by rw [Hx.out]; exact HVX.out)]; rfl)
        go_wp2_with fail
        go_step3
        exact ⟨rfl, ⟨_, _, _, _, _, _, _, _, _, _, _, _, _, _, _, _, _, _, _, _, _, _, _, _, _, _, _, _, _, _, _, _, _, _, _, _, _, _, _, _, _, _, _, _, _, _, _, _, _, _, _, _, _, _, _, _, _, _, _, _, _, _, _, _, _, _, _, _, _, rfl⟩, HB2.out.trans (HR.out.mono HB2.out.size), HBAD.out⟩
      ·have HV2 : Hid (∀ j, j < i + 1 → j < n → vlt ((nats t).getD j 0) < 64) := Lib.hid (fun j h1 h2 => HV.out j (by omega) h2)
       have HN2 : Hid (X * 64 = numL (nats t) (i + 1)) := Lib.hid (by
        show X * 64 = numL (nats t) i * 64 + _
        rw [if_neg (by rw [nats, List.length_map, HNN.out]; exact hin), ← HN.out]; rfl)
       have HX2 : Hid (X * 64 < 64 ^ (i + 1)) := Lib.hid (by have := HX.out; rw [Nat.pow_succ]; omega)
       go_wp2_with fail
       exact ⟨⟨i + 1, X * 64, by omega, by go_num, by go_num, by omega, trivial, HX2, HN2, HV2⟩, by simp [intOf]; omega⟩
     ·obtain rfl : i = 4 := by omega
      have hng : ¬ ((4 : Nat) : Int) < 4 := by omega
      obtain ⟨ha0, ha1, ha2⟩ := and_low X hX
      rcases (show n = 1 ∨ n = 2 ∨ n = 3 ∨ n = 4 by omega) with rfl | rfl | rfl | rfl
      ·have HBAD : Hid (bytesL (nats s) = none) := Lib.hid (by rw [HP.out, bytes_one (by rw [nats, List.length_map, HNN.out])]; rfl)
       go_wp2_with fail
       go_step3
       exact ⟨rfl, ⟨_, _, _, _, _, _, _, _, _, _, _, _, _, _, _, _, _, _, _, _, _, _, _, _, _, _, _, _, _, _, _, _, _, _, _, _, _, _, _, _, _, _, _, _, _, _, _, _, _, _, _, _, _, _, _, _, _, _, _, _, _, _, _, _, _, _, _, _, _, rfl⟩, HB2.out.trans (HR.out.mono HB2.out.size), HBAD.out⟩
      ·have HS := bytes_two (t := nats t) (by rw [nats, List.length_map, HNN.out]) (fun j hj => HV.out j (by omega) hj)
       rw [← HN.out] at HS
       by_cases h0 : X % 65536 = 0
       ·rw [if_neg (by omega)] at HS
        have hne : (((X % 65536 : Nat) : Int) != 0) = false := by rw [h0]; rfl
        have HPN := Lib.hid (next_of HP.out HS)
        have HD : Hid ((nats t).drop 2 = nats (t.drop 2)) := Lib.hid (by simp [nats])
        have s2 := sl_from t 2 2 rfl (by omega)
        have HL2 : Hid (acc.length + 1 ≤ 140737488355328) := Lib.hid (by have := HL.out; omega)
        have HO2 := Lib.hid (HO.out.alloc (.cells #[.int .u8 ((X : Int) / 65536), .int .u8 ((X : Int) / 256 % 256), .int .u8 ((X : Int) % 256)] 224))
        have HR2 := Lib.hid (HR.out.alloc HR.out.size (.cells #[.int .u8 ((X : Int) / 65536), .int .u8 ((X : Int) / 256 % 256), .int .u8 ((X : Int) % 256)] 224))
        have HRD := Lib.hid ((rd_three wr X hX wr.heap.size rfl).take 1 (by decide))
        clear HS
        go_wp2_with (at_builtin; refine wpList_appB rfl (.tmp 60) (.tmp 63) 75 rfl Tryz.underlying75 W.info5 rfl HO2.out rfl HRD.out HL2.out HR2.out.size ?_; intro v2 w4 ho2 hb2; have HO4 := Lib.hid ho2; have HR4 := Lib.hid (HR2.out.trans hb2); clear ho2 hb2)
        exact ⟨⟨t.drop 2, acc ++ [X / 65536], rfl, by rw [List.length_drop]; omega, HR4, HO4, Lib.hid (by rw [← HD.out]; exact HPN.out), Lib.hid (by have := HL.out; rw [List.length_drop, List.length_append]; simp; omega)⟩, by show (t.drop 2).length < t.length; rw [List.length_drop]; omega⟩
       ·rw [if_pos (by omega)] at HS
        have hne : (((X % 65536 : Nat) : Int) != 0) = true := bne_iff_ne.2 (by omega)
        have HBAD : Hid (bytesL (nats s) = none) := Lib.hid (by rw [HP.out, HS]; rfl)
        clear HS
        go_wp2_with fail
        go_step3
        exact ⟨rfl, ⟨_, _, _, _, _, _, _, _, _, _, _, _, _, _, _, _, _, _, _, _, _, _, _, _, _, _, _, _, _, _, _, _, _, _, _, _, _, _, _, _, _, _, _, _, _, _, _, _, _, _, _, _, _, _, _, _, _, _, _, _, _, _, _, _, _, _, _, _, _, rfl⟩, HB2.out.trans (HR.out.mono HB2.out.size), HBAD.out⟩
      ·have HS := bytes_three (t := nats t) (by rw [nats, List.length_map, HNN.out]) (fun j hj => HV.out j (by omega) hj)
       rw [← HN.out] at HS
       by_cases h0 : X % 256 = 0
       ·rw [if_neg (by omega)] at HS
        have hne : (((X % 256 : Nat) : Int) != 0) = false := by rw [h0]; rfl
        have HPN := Lib.hid (next_of HP.out HS)
        have HD : Hid ((nats t).drop 3 = nats (t.drop 3)) := Lib.hid (by simp [nats])
        have s2 := sl_from t 3 3 rfl (by omega)
        have HL2 : Hid (acc.length + 2 ≤ 140737488355328) := Lib.hid (by have := HL.out; omega)
        have HO2 := Lib.hid (HO.out.alloc (.cells #[.int .u8 ((X : Int) / 65536), .int .u8 ((X : Int) / 256 % 256), .int .u8 ((X : Int) % 256)] 224))
        have HR2 := Lib.hid (HR.out.alloc HR.out.size (.cells #[.int .u8 ((X : Int) / 65536), .int .u8 ((X : Int) / 256 % 256), .int .u8 ((X : Int) % 256)] 224))
        have HRD := Lib.hid ((rd_three wr X hX wr.heap.size rfl).take 2 (by decide))
        clear HS
        go_wp2_with (at_builtin; refine wpList_appB rfl (.tmp 60) (.tmp 63) 75 rfl Tryz.underlying75 W.info5 rfl HO2.out rfl HRD.out HL2.out HR2.out.size ?_; intro v2 w4 ho2 hb2; have HO4 := Lib.hid ho2; have HR4 := Lib.hid (HR2.out.trans hb2); clear ho2 hb2)
        exact ⟨⟨t.drop 3, acc ++ [X / 65536, X / 256 % 256], rfl, by rw [List.length_drop]; omega, HR4, HO4, Lib.hid (by rw [← HD.out]; exact HPN.out), Lib.hid (by have := HL.out; rw [List.length_drop, List.length_append]; simp; omega)⟩, by show (t.drop 3).length < t.length; rw [List.length_drop]; omega⟩
       ·rw [if_pos (by omega)] at HS
        have hne : (((X % 256 : Nat) : Int) != 0) = true := bne_iff_ne.2 (by omega)
        have HBAD : Hid (bytesL (nats s) = none) := Lib.hid (by rw [HP.out, HS]; rfl)
        clear HS
        go_wp2_with fail
        go_step3
        exact ⟨rfl, ⟨_, _, _, _, _, _, _, _, _, _, _, _, _, _, _, _, _, _, _, _, _, _, _, _, _, _, _, _, _, _, _, _, _, _, _, _, _, _, _, _, _, _, _, _, _, _, _, _, _, _, _, _, _, _, _, _, _, _, _, _, _, _, _, _, _, _, _, _, _, rfl⟩, HB2.out.trans (HR.out.mono HB2.out.size), HBAD.out⟩
      ·have HS := bytes_four (t := nats t) (by rw [nats, List.length_map, HNN.out]) (fun j hj => HV.out j (by omega) hj)
       rw [← HN.out] at HS
       have HPN := Lib.hid (next_of HP.out HS)
       have HD : Hid ((nats t).drop 4 = nats (t.drop 4)) := Lib.hid (by simp [nats])
       have s2 := sl_from t 4 4 rfl (by omega)
       have HL2 : Hid (acc.length + 3 ≤ 140737488355328) := Lib.hid (by have := HL.out; omega)
       have HO2 := Lib.hid (HO.out.alloc (.cells #[.int .u8 ((X : Int) / 65536), .int .u8 ((X : Int) / 256 % 256), .int .u8 ((X : Int) % 256)] 224))
       have HR2 := Lib.hid (HR.out.alloc HR.out.size (.cells #[.int .u8 ((X : Int) / 65536), .int .u8 ((X : Int) / 256 % 256), .int .u8 ((X : Int) % 256)] 224))
       have HRD := Lib.hid ((rd_three wr X hX wr.heap.size rfl).take 3 (by decide))
       clear HS
       go_wp2_with (at_builtin; refine wpList_appB rfl (.tmp 60) (.tmp 63) 75 rfl Tryz.underlying75 W.info5 rfl HO2.out rfl HRD.out HL2.out HR2.out.size ?_; intro v2 w4 ho2 hb2; have HO4 := Lib.hid ho2; have HR4 := Lib.hid (HR2.out.trans hb2); clear ho2 hb2)
       exact ⟨⟨t.drop 4, acc ++ [X / 65536, X / 256 % 256, X % 256], rfl, by rw [List.length_drop]; omega, HR4, HO4, Lib.hid (by rw [← HD.out]; exact HPN.out), Lib.hid (by have := HL.out; rw [List.length_drop, List.length_append]; simp; omega)⟩, by show (t.drop 4).length < t.length; rw [List.length_drop]; omega⟩
end Go.Proofs.YtpdedfpacklnoaaGreatDoor
