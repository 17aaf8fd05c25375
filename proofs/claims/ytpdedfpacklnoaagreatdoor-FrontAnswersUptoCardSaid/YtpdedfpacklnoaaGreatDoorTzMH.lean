/- Contracts of http's small functions: a byte's kinds; whether all bytes are such; check. Words on memory (a copy of the wire seat's text), of no program: a slice of bytes that reads as a list of number -/
import Derived.Test.YtpdedfpacklnoaaGreatDoorRows
import Derived.WalkKit
import Derived.WalkLawsBesides
import Derived.Laws.Externs
import Derived.Lib.Hide
import Derived.BigQuiet
import Derived.Shelf.Abstract
import Derived.Below
import Derived.Laws.OwnMore
import Derived.Deep.AppendLies
import Derived.Deep.Draws
import Derived.Maps.AppendAt
import Derived.RegionTactic
import Derived.OwnWalk
import Derived.Lib.AppendStr
import Derived.Shelf.Strings.Builder1
import Derived.Shelf.Strings.Trim
import Derived.Shelf.Small.Utf8
import Derived.Shelf.Small.Strs
import Derived.Shelf.Strings.BuilderF
import Derived.Shelf.Strings.BuilderK
import Derived.Shelf.Utf8.RuneCount
import Derived.Shelf.Strconv.Atoi
import Derived.Shelf.Strconv.Itoa0
import Derived.Shelf.Strconv.Itoa1
import Derived.Shelf.LaysM
import Derived.Shelf.Strconv.Itoa2
import Derived.Shelf.Strconv.Itoa3
import Derived.Shelf.Strconv.AtoiErrFast
import Derived.Shelf.Strconv.ParseIntEmpty
import Derived.Shelf.Strconv.AtoiFail
import Derived.Shelf.Strconv.Clone
import Derived.Shelf.Strconv.SyntaxError
import Derived.Shelf.LaysC
import Derived.Shelf.Strconv.ToError
import Derived.Shelf.Strconv.Lower
import Derived.Shelf.Strconv.ParseUint10
import Derived.Shelf.Strconv.ParseUint10Empty
import Derived.Shelf.Strconv.ParseUint10Any
import Derived.Shelf.Strconv.ParseInt10
import Derived.Shelf.Strconv.AtoiLong
import Derived.Shelf.Strconv.AtoiInnerAll
import Derived.Shelf.Strconv.RangeError
import Derived.Shelf.Strconv.ToErrorRange
import Derived.Shelf.Strconv.AtoiAll
import Derived.Shelf.Strconv.ErrVarAll
import Derived.Shelf.Strconv.ParseUintEmpty
import Derived.Shelf.Strconv.ParseUint10b64
import Derived.Shelf.Strconv.ParseUint10b32
import Derived.Shelf.Strconv.ParseUint10b16
import Derived.Shelf.Strconv.ParseUint10b8
import Derived.Shelf.Strconv.ParseUint10At
import Derived.Ground.MpProg
import Derived.Shelf.Pu.ParseUintPublic10
import Derived.Shelf.Pu.ErrVarParseUint
import Derived.Shelf.Strings.Search1
import Derived.Shelf.Strings.Search2
import Derived.Shelf.Strings.Search3
import Derived.Shelf.Strings.Cut
import Derived.Shelf.Strings.Count
import Derived.Shelf.Strings.Shaped
import Derived.Shelf.GgClosure.StringsIndexFunc
import Derived.Ground.GgwProg
import Derived.Shelf.GgClosure.StringsIndexFuncTop
import Derived.Shelf.Strings.Split
import Derived.Shelf.Strings.SplitShaped
import Derived.Shelf.Unicode.Decode
import Derived.Shelf.Strings.Runes
import Derived.Shelf.Strings.RuneCount
import Derived.Shelf.Strings.AsciiSet
import Derived.Shelf.Strings.Explode
import Derived.Shelf.Unicode.DecodeSlow
import Derived.Shelf.Unicode.DecodeAny
import Derived.Shelf.Unicode.DecodeLast
import Derived.Shelf.Strings.FuncGrows
import Derived.Shelf.Slices.Turned
import Derived.Test.YtpdedfpacklnoaaGreatDoorProg
import Derived.Shelf.Strings.SlTrimAscii
import Derived.Lib.ConvBytes
import Derived.Handy
import Derived.Lib.SplitLaws
import Derived.Lib.CountLaws
import Derived.Deep.RegionWith
import Derived.Lib.SmallJoins
import Derived.Lib.IndexMore
import Derived.Lib.IndexLaws
import Derived.WalkSpells
import Derived.Deep.QuietTactic
import Derived.MapKept
import Derived.Laws.NewBlocks
import Derived.Carry
namespace Go.Proofs.YtpdedfpacklnoaaGreatDoor.H
set_option maxRecDepth 100000
open Go.RowKit

def dig (c : UInt8) : Bool := decide (48 ≤ c.toNat) && decide (c.toNat ≤ 57)
def cap (c : UInt8) : Bool := decide (65 ≤ c.toNat) && decide (c.toNat ≤ 90)
def vis (c : UInt8) : Bool := decide (33 ≤ c.toNat) && decide (c.toNat ≤ 126)
def vab (c : UInt8) : Bool := vis c || decide (c.toNat = 32) || decide (c.toNat = 9)

theorem capital_any (c : UInt8) (w : World) : Calls Tryz.prog 171 #[.int .u8 (c.toNat : Int)] w fun e w' => e = .returned (.bool (cap c)) ∧ w = w' := by
 go_enter Tryz.func171, Tryz.ntmps171
 go_wp2
 all_goals go_ret
 all_goals (refine ⟨congrArg (fun b => Ending.returned (Value.bool b)) ?_, rfl⟩; rw [Bool.eq_iff_iff]; simp [cap]; omega)
end Go.Proofs.YtpdedfpacklnoaaGreatDoor.H
namespace Go.BL
set_option maxRecDepth 100000
open Go.RowKit
theorem block_of_add (a : Addr) (n : Nat) : (a.add n).block = a.block := by unfold Addr.add; split <;> rfl
theorem add_of_add (a : Addr) (i j : Nat) : (a.add i).add j = a.add (i + j) := by
 unfold Addr.add
 by_cases hi : i = 0 <;> by_cases hj : j = 0 <;> simp [hi, hj, Nat.add_assoc]

def Reads (w : World) (B size : Nat) (A : Option Addr) (n : Nat) (xs : List Value) : Prop :=
 xs.length = n * size ∧ (0 < n → ∃ ad, A = some ad ∧ ad.block < B ∧ ∀ j u, xs[j]? = some u → w.cell? (ad.add j) = some u)

section
variable {w w' : World} {B B' size n : Nat} {A : Option Addr} {xs : List Value}
theorem Reads.none_ : Reads w B size A 0 [] := ⟨by simp, fun h => absurd h (by omega)⟩
theorem Reads.keep (h : Reads w B size A n xs) (hk : ∀ p : Addr, p.block < B → w'.cell? p = w.cell? p) : Reads w' B size A n xs :=
 ⟨h.1, fun hn => by
  obtain ⟨ad, e, hb, hc⟩ := h.2 hn
  exact ⟨ad, e, hb, fun j u hu => (hk _ (by rw [block_of_add]; exact hb)).trans (hc j u hu)⟩⟩
theorem Reads.drew (h : Reads w B size A n xs) : Reads w.drew B size A n xs := h
theorem Reads.drewN (h : Reads w B size A n xs) (k : Nat) : Reads (w.drewN k) B size A n xs := h
theorem Reads.setCell (h : Reads w B size A n xs) {p : Addr} (hB : B ≤ p.block) (u : Value) : Reads (w.setCell p u) B size A n xs :=
 h.keep fun q hq => World.cell?_setCell_other w p q u (fun e => by subst e; omega)
theorem Reads.cut (h : Reads w B size A n xs) {k cap : Nat} (hk : k ≤ n) (hc : n ≤ cap) :
  Reads w B size (if cap = k then A else A.map (·.add (k * size))) (n - k) (xs.drop (k * size)) := by
 refine ⟨by rw [List.length_drop, h.1, Nat.sub_mul], fun hn => ?_⟩
 obtain ⟨ad, rfl, hb, hcell⟩ := h.2 (by omega)
 rw [if_neg (by omega)]
 refine ⟨ad.add (k * size), rfl, by rw [block_of_add]; exact hb, fun j u hu => ?_⟩
 rw [add_of_add]
 exact hcell _ u (by rw [← hu, List.getElem?_drop])
end

section
variable {P : Program} (w : World)

theorem run_append_of_nil (base : Nat) (t ty e : TypeId) (i : TypeInfo) (size : Nat) (ht : P.underlying t = some (.slice e)) (hi : P.info? e = some i)
  (v : Value) (n : Nat) (xs : List Value) (hown : w.ownsRow base e size v n xs) (c : Nat) : (Builtin.append_ #[t, t] ty #[v, .slice none 0 c]).run P w = .ok v w := by
 rcases hown.2 with ⟨rfl, rfl⟩ | ⟨g, cap, cur, rfl, _, _, hnc, _⟩
 ·simp [Builtin.append_, run_underlying ht, sizeOf, typeInfo, hi, Builtin.lenOf, Builtin.firstCells]
 ·simp [Builtin.append_, run_underlying ht, sizeOf, typeInfo, hi, Builtin.lenOf, Builtin.firstCells, hnc, storeCells]

theorem run_append_any (base : Nat) (t ty e : TypeId) (i : TypeInfo) (z : Value) (size bytes : Nat) (ht : P.underlying t = some (.slice e)) (hi : P.info? e = some i) (hz : i.zero = some z)
  (hsize : i.size = size) (hby : i.bytes = bytes) (hzs : z.cells.size = size) (hsz : 0 < size)
  (v : Value) (n : Nat) (xs : List Value) (hown : w.ownsRow base e size v n xs)
  (B : Nat) (A : Option Addr) (m c : Nat) (news : List Value) (hr : Reads w B size A m news) (h1 : ∀ u ∈ news, u.oneCell' = true)
  (h63 : n + m ≤ maxLen) (hbytes : (n + m) * bytes ≤ 140737488355328) (hbase : base ≤ w.heap.size) :
  ∃ v' w', (Builtin.append_ #[t, t] ty #[v, .slice A m c]).run P w = .ok v' w' ∧ w'.ownsRow base e size v' (n + m) (xs ++ news) ∧ w.grownBy w' v.ownBlock ∧
   (v'.ownBlock = v.ownBlock ∨ v'.ownBlock = some w.heap.size) := by
 rcases A with _ | ad
 ·have hm : m = 0 := by
   rcases Nat.eq_zero_or_pos m with h0 | h0
   ·exact h0
   ·obtain ⟨ad, h, _⟩ := hr.2 h0
    cases h
  subst hm
  have hn : news = [] := List.eq_nil_of_length_eq_zero (by simpa using hr.1)
  subst hn
  exact ⟨v, w, run_append_of_nil w base t ty e i size ht hi v n xs hown c, by simpa using hown, World.grownBy.refl w _, .inl rfl⟩
 ·have hcells : ∀ j u, news[j]? = some u → w.cell? (ad.add j) = some u := by
   intro j u hu
   rcases Nat.eq_zero_or_pos m with h0 | h0
   ·subst h0
    have hn : news = [] := List.eq_nil_of_length_eq_zero (by simpa using hr.1)
    subst hn
    simp at hu
   ·obtain ⟨ad', h, _, hc⟩ := hr.2 h0
    injection h with h
    subst h
    exact hc j u hu
  obtain ⟨v', w', hrun, h2, h3, _, h5⟩ := run_append_own_at (P := P) w base t ty e i z size bytes ht hi hz hsize hby hzs hsz v n xs hown ad m c news hr.1 hcells h1 h63 hbytes hbase
  exact ⟨v', w', hrun, h2, h3, h5⟩

theorem wp_append_any {o : Oper} {a : Act} {K : Act → World → Prop} {Q : Exit → Act → World → Prop} (s x : Operand) (t : TypeId)
  (ho : o.op = .call { callee := .builtin .append, args := #[s, x], argTypes := #[t, t] })
  (base : Nat) (e : TypeId) (i : TypeInfo) (z : Value) (size bytes : Nat) (ht : P.underlying t = some (.slice e)) (hi : P.info? e = some i) (hz : i.zero = some z)
  (hsize : i.size = size) (hby : i.bytes = bytes) (hzs : z.cells.size = size) (hsz : 0 < size)
  (v : Value) (n : Nat) (xs : List Value) (hs : a.eval s = v) (hown : w.ownsRow base e size v n xs)
  (B : Nat) (A : Option Addr) (m c : Nat) (news : List Value) (hx : a.eval x = .slice A m c) (hr : Reads w B size A m news) (h1 : ∀ u ∈ news, u.oneCell' = true)
  (h63 : n + m ≤ maxLen) (hbytes : (n + m) * bytes ≤ 140737488355328) (hbase : base ≤ w.heap.size)
  (h : ∀ v' w', w'.ownsRow base e size v' (n + m) (xs ++ news) → w.grownBy w' v.ownBlock → (v'.ownBlock = v.ownBlock ∨ v'.ownBlock = some w.heap.size) → K (a.put o.dst v') w') : o.wp P a w K Q := by
 obtain ⟨v', w', hrun, h2, h3, h4⟩ := run_append_any (P := P) w base t o.type e i z size bytes ht hi hz hsize hby hzs hsz v n xs hown B A m c news hr h1 h63 hbytes hbase
 unfold Oper.wp execOp
 simp only [ho, resolve, invoke, builtin, Sem.run_bind, Sem.run_pure, Result.andThen_ok, List.map_toArray, List.map_cons, List.map_nil, hs, hx, hrun]
 exact h v' w' h2 h3 h4

theorem wpList_append_any {ops : Array Oper} {rest : List Oper} {o : Oper} {a : Act} {Q : Exit → Act → World → Prop} (hgd : o.guard = none) (s x : Operand) (t : TypeId)
  (ho : o.op = .call { callee := .builtin .append, args := #[s, x], argTypes := #[t, t] })
  (base : Nat) (e : TypeId) (i : TypeInfo) (z : Value) (size bytes : Nat) (ht : P.underlying t = some (.slice e)) (hi : P.info? e = some i) (hz : i.zero = some z)
  (hsize : i.size = size) (hby : i.bytes = bytes) (hzs : z.cells.size = size) (hsz : 0 < size)
  (v : Value) (n : Nat) (xs : List Value) (hs : a.eval s = v) (hown : w.ownsRow base e size v n xs)
  (B : Nat) (A : Option Addr) (m c : Nat) (news : List Value) (hx : a.eval x = .slice A m c) (hr : Reads w B size A m news) (h1 : ∀ u ∈ news, u.oneCell' = true)
  (h63 : n + m ≤ maxLen) (hbytes : (n + m) * bytes ≤ 140737488355328) (hbase : base ≤ w.heap.size)
  (h : ∀ v' w', w'.ownsRow base e size v' (n + m) (xs ++ news) → w.grownBy w' v.ownBlock → (v'.ownBlock = v.ownBlock ∨ v'.ownBlock = some w.heap.size) → wpList P ops Q rest (a.put o.dst v') w') : wpList P ops Q (o :: rest) a w :=
 wpList_plain hgd fun _ hK => wp_append_any w s x t ho base e i z size bytes ht hi hz hsize hby hzs hsz v n xs hs hown B A m c news hx hr h1 h63 hbytes hbase fun v' w' h2 h3 h4 => hK _ _ (h v' w' h2 h3 h4)

end

/-- The slice (address A, n elements) reads as the bytes bs. -/
def Rd (w : World) (A : Option Addr) (n : Nat) (bs : List Nat) : Prop :=
 bs.length = n ∧ n ≤ maxLen ∧ (∀ x ∈ bs, x < 256) ∧ (0 < n → ∃ b off, A = some ⟨b, off, none⟩ ∧ b < w.heap.size ∧ ∀ i, i < n → w.cell? ⟨b, off + i, none⟩ = some (.int .u8 ((bs.getD i 0 : Nat) : Int)))
/-- Bytes as cells. -/
def bv (bs : List Nat) : List Value := bs.map fun b => .int .u8 ((b : Nat) : Int)
theorem bv_length (bs : List Nat) : (bv bs).length = bs.length := by simp [bv]
theorem bv_append (a b : List Nat) : bv (a ++ b) = bv a ++ bv b := by simp [bv]
theorem bv_one (bs : List Nat) : ∀ u ∈ bv bs, u.oneCell' = true := by
 intro u hu
 simp only [bv, List.mem_map] at hu
 obtain ⟨b, _, rfl⟩ := hu
 rfl
theorem bv_at {bs : List Nat} {i : Nat} (h : i < bs.length) : (bv bs)[i]? = some (.int .u8 ((bs.getD i 0 : Nat) : Int)) := by
 simp [bv, List.getD_eq_getElem?_getD, List.getElem?_eq_getElem h]
theorem getD_lt {bs : List Nat} (h : ∀ x ∈ bs, x < 256) (i : Nat) : bs.getD i 0 < 256 := by
 rw [List.getD_eq_getElem?_getD]
 cases e : bs[i]? with
 | none => simp
 | some x => exact h x (List.mem_of_getElem? e)
theorem take_snoc' (bs : List Nat) (k : Nat) (h : k < bs.length) : bs.take (k + 1) = bs.take k ++ [bs.getD k 0] := by
 rw [List.take_succ_eq_append_getElem h, List.getD_eq_getElem?_getD, List.getElem?_eq_getElem h]; rfl
theorem add_none (b off i : Nat) : (⟨b, off, none⟩ : Addr).add i = ⟨b, off + i, none⟩ := by unfold Addr.add; split <;> simp_all
theorem lt_block {w : World} {a : Addr} {v : Value} (h : w.cell? a = some v) : a.block < w.heap.size := by
 rcases Nat.lt_or_ge a.block w.heap.size with h' | h'
 ·exact h'
 ·unfold World.cell? at h; rw [Array.getElem?_eq_none h'] at h; cases h

theorem Rd.none_ {w : World} : Rd w none 0 [] := ⟨rfl, by decide, fun x hx => absurd hx (by simp), fun h => absurd h (by omega)⟩
theorem Rd.zero {w : World} (A : Option Addr) : Rd w A 0 [] := ⟨rfl, by decide, fun x hx => absurd hx (by simp), fun h => absurd h (by omega)⟩
theorem Rd.below {w w' : World} {A : Option Addr} {n B : Nat} {bs : List Nat} (h : Rd w A n bs) (hb : Below B w w') (hB : w.heap.size ≤ B) : Rd w' A n bs := by
 refine ⟨h.1, h.2.1, h.2.2.1, fun hn => ?_⟩
 obtain ⟨b, off, e, hlt, hc⟩ := h.2.2.2 hn
 exact ⟨b, off, e, Nat.lt_of_lt_of_le hlt hb.size, fun i hi => (hb.cell (p := ⟨b, off + i, none⟩) (by show b < B; omega)).trans (hc i hi)⟩
theorem Rd.alloc {w : World} {A : Option Addr} {n : Nat} {bs : List Nat} (h : Rd w A n bs) (o : Obj) : Rd (w.alloc o) A n bs :=
 h.below ((Below.refl w.heap.size w).alloc (Nat.le_refl _) o) (Nat.le_refl _)
theorem Rd.reads {w : World} {A : Option Addr} {n : Nat} {bs : List Nat} (h : Rd w A n bs) : Reads w w.heap.size 1 A n (bv bs) := by
 refine ⟨by rw [bv_length, h.1]; omega, fun hn => ?_⟩
 obtain ⟨b, off, e, hlt, hc⟩ := h.2.2.2 hn
 refine ⟨_, e, hlt, fun j u hu => ?_⟩
 have hj : j < bs.length := by
  rcases Nat.lt_or_ge j bs.length with h' | h'
  ·exact h'
  ·rw [List.getElem?_eq_none (by rw [bv_length]; exact h')] at hu; cases hu
 rw [bv_at hj] at hu
 rw [add_none, hc j (by rw [← h.1]; exact hj)]
 exact hu
theorem rd_one (w : World) (g c : Nat) (hg : g = w.heap.size) (hc : c < 256) (t : TypeId) (fr : Nat × Nat) : Rd (w.alloc (.cells #[.int .u8 (c : Int)] t fr)) (some ⟨g, 0, none⟩) 1 [c] := by
 subst hg
 refine ⟨rfl, by decide, by simpa using hc, fun _ => ⟨_, _, rfl, by simp, fun i hi => ?_⟩⟩
 obtain rfl : i = 0 := by omega
 have : (w.alloc (.cells #[.int .u8 (c : Int)] t fr)).heap[w.heap.size]? = some (.cells #[.int .u8 (c : Int)] t fr) := by
  show (w.heap.push _)[w.heap.size]? = _
  simp
 show World.cell? _ ⟨w.heap.size, 0 + 0, none⟩ = _
 unfold World.cell?
 rw [this]; rfl
/-- A cut of the slice. -/
theorem Rd.drop {w : World} {b off n : Nat} {bs : List Nat} (h : Rd w (some ⟨b, off, none⟩) n bs) (k : Nat) (hk : k ≤ n) : Rd w (some ⟨b, off + k, none⟩) (n - k) (bs.drop k) := by
 refine ⟨by rw [List.length_drop, h.1], by have := h.2.1; omega, fun x hx => h.2.2.1 x (List.mem_of_mem_drop hx), fun hn => ?_⟩
 obtain ⟨b', off', e, hlt, hc⟩ := h.2.2.2 (by omega)
 simp only [Option.some.injEq, Addr.mk.injEq, and_true] at e
 obtain ⟨rfl, rfl⟩ := e
 refine ⟨b, off + k, rfl, hlt, fun i hi => ?_⟩
 have := hc (k + i) (by omega)
 rw [Nat.add_assoc, this, List.getD_eq_getElem?_getD, List.getD_eq_getElem?_getD, List.getElem?_drop]
theorem Rd.take {w : World} {A : Option Addr} {n : Nat} {bs : List Nat} (h : Rd w A n bs) (k : Nat) (hk : k ≤ n) : Rd w A k (bs.take k) := by
 refine ⟨by rw [List.length_take, h.1]; omega, by have := h.2.1; omega, fun x hx => h.2.2.1 x (List.mem_of_mem_take hx), fun hn => ?_⟩
 obtain ⟨b, off, e, hlt, hc⟩ := h.2.2.2 (by omega)
 refine ⟨b, off, e, hlt, fun i hi => ?_⟩
 rw [hc i (by omega), List.getD_eq_getElem?_getD, List.getD_eq_getElem?_getD, List.getElem?_take_of_lt hi]

/-- A row of bytes of the call's own, from block B on. -/
def Own (w : World) (B : Nat) (v : Value) (bs : List Nat) : Prop := w.ownsRow B 5 1 v bs.length (bv bs) ∧ (∀ x ∈ bs, x < 256)
theorem Own.nil (w : World) (B : Nat) : Own w B (.slice none 0 0) [] := ⟨⟨rfl, .inl ⟨rfl, rfl⟩⟩, fun x hx => absurd hx (by simp)⟩
theorem Own.below {w w' : World} {B C : Nat} {v : Value} {bs : List Nat} (h : Own w B v bs) (hb : Below C w w') (hC : w.heap.size ≤ C) : Own w' B v bs := by
 refine ⟨⟨h.1.1, ?_⟩, h.2⟩
 rcases h.1.2 with h0 | ⟨g, cap, cur, hv, hg, hh, r⟩
 ·exact .inl h0
 ·have hlt : g < w.heap.size := by
   rcases Nat.lt_or_ge g w.heap.size with h' | h'
   ·exact h'
   ·rw [Array.getElem?_eq_none h'] at hh; cases hh
  exact .inr ⟨g, cap, cur, hv, hg, (hb.block g (by omega)).trans hh, r⟩
theorem Own.alloc {w : World} {B : Nat} {v : Value} {bs : List Nat} (h : Own w B v bs) (o : Obj) : Own (w.alloc o) B v bs :=
 h.below ((Below.refl w.heap.size w).alloc (Nat.le_refl _) o) (Nat.le_refl _)
theorem Own.base {w : World} {B B' : Nat} {v : Value} {bs : List Nat} (h : Own w B v bs) (hB : B' ≤ B) : Own w B' v bs :=
 ⟨⟨h.1.1, h.1.2.elim .inl (fun ⟨g, cap, cur, hv, hg, r⟩ => .inr ⟨g, cap, cur, hv, Nat.le_trans hB hg, r⟩)⟩, h.2⟩
theorem Own.block_ge {w : World} {B : Nat} {v : Value} {bs : List Nat} (h : Own w B v bs) : ∀ k, v.ownBlock = some k → B ≤ k := by
 intro k hk
 rcases h.1.2 with ⟨rfl, _⟩ | ⟨g, cap, cur, rfl, hg, _⟩
 ·cases hk
 ·simp only [Value.ownBlock, Option.some.injEq] at hk; omega
theorem Own.rd {w : World} {B : Nat} {v : Value} {bs : List Nat} (h : Own w B v bs) : ∃ A cap, v = .slice A bs.length cap ∧ Rd w A bs.length bs := by
 rcases h.1.2 with ⟨rfl, h0⟩ | ⟨g, cap, cur, rfl, _, hh, hn, hm, hs, ht⟩
 ·have : bs = [] := List.eq_nil_of_length_eq_zero h0
  subst this
  exact ⟨none, 0, rfl, Rd.none_⟩
 ·refine ⟨_, cap, rfl, rfl, by omega, h.2, fun hpos => ⟨g, 0, rfl, ?_, fun i hi => ?_⟩⟩
  ·rcases Nat.lt_or_ge g w.heap.size with h' | h'
   ·exact h'
   ·rw [Array.getElem?_eq_none h'] at hh; cases hh
  ·rw [Nat.zero_add, cell_of_row w g i cur 5 (0, 0) hh, ← bv_at hi, ← ht, List.getElem?_take_of_lt (by omega), Array.getElem?_toList]
/-- An empty row that was laid. -/
theorem Own.empty (w : World) (B g : Nat) (hg : g = w.heap.size) (hB : B ≤ g) : Own (w.alloc (.cells #[] 5)) B (.slice (some ⟨g, 0, none⟩) 0 0) [] := by
 subst hg
 refine ⟨⟨rfl, .inr ⟨w.heap.size, 0, #[], rfl, hB, ?_, Nat.le_refl _, by decide, rfl, rfl⟩⟩, fun x hx => absurd hx (by simp)⟩
 show (w.heap.push _)[w.heap.size]? = _
 simp

section
variable {P : Program} {w : World}
/-- append(s, x...), s of the call's own, x whatever slice reads. -/
theorem wpList_appB {ops : Array Oper} {rest : List Oper} {o : Oper} {a : Act} {Q : Exit → Act → World → Prop} (hgd : o.guard = none) (s x : Operand) (t : TypeId)
  (ho : o.op = .call { callee := .builtin .append, args := #[s, x], argTypes := #[t, t] })
  (ht : P.underlying t = some (.slice 5)) (hi : (P.info? 5).map (fun i => (i.zero, i.size, i.bytes)) = some (some (.int .u8 0), 1, 1))
  {B : Nat} {v : Value} {bs : List Nat} (hs : a.eval s = v) (hown : Own w B v bs)
  {A : Option Addr} {m c : Nat} {cs : List Nat} (hx : a.eval x = .slice A m c) (hr : Rd w A m cs)
  (hb : bs.length + m ≤ 140737488355328) (hbase : B ≤ w.heap.size)
  (h : ∀ v' w', Own w' B v' (bs ++ cs) → Below B w w' → wpList P ops Q rest (a.put o.dst v') w') : wpList P ops Q (o :: rest) a w := by
 obtain ⟨i0, hi0, hz0, hz1, hz2⟩ := info_parts hi
 refine wpList_append_any w hgd s x t ho B 5 i0 (.int .u8 0) 1 1 ht hi0 hz0 hz1 hz2 rfl (by decide) v bs.length (bv bs) hs hown.1 w.heap.size A m c (bv cs) hx hr.reads (bv_one cs) (by unfold maxLen; omega) (by omega) hbase ?_
 intro v' w' h1 h2 _
 refine h v' w' ⟨?_, fun y hy => ?_⟩ ?_
 ·rw [List.length_append, hr.1, bv_append]; exact h1
 ·rcases List.mem_append.1 hy with h' | h'
  ·exact hown.2 y h'
  ·exact hr.2.2.1 y h'
 ·exact (Below.refl B w).grown h2 hbase hown.block_ge
/-- A string's bytes as numbers. -/
def bl (s : ByteArray) : List Nat := s.data.toList.map UInt8.toNat
theorem bl_length (s : ByteArray) : (bl s).length = s.size := by simp [bl]
theorem bl_lt (s : ByteArray) : ∀ x ∈ bl s, x < 256 := by
 intro x hx
 simp only [bl, List.mem_map] at hx
 obtain ⟨u, _, rfl⟩ := hx
 exact u.toNat_lt
theorem bl_getD (s : ByteArray) (j : Nat) : (bl s).getD j 0 = (s.data.toList.getD j 0).toNat := by
 simp only [bl, List.getD_eq_getElem?_getD, List.getElem?_map]
 cases s.data.toList[j]? <;> rfl
theorem bl_get (s : ByteArray) (k : Nat) (h : k < s.size) : s[k].toNat = (bl s).getD k 0 := by
 rw [bl_getD, List.getD_eq_getElem?_getD]
 have : s.data.toList[k]? = some s[k] := by
  rw [List.getElem?_eq_getElem (by simpa using h)]; rfl
 rw [this]; rfl
theorem wpList_appS {ops : Array Oper} {rest : List Oper} {o : Oper} {a : Act} {Q : Exit → Act → World → Prop} (hgd : o.guard = none) (sl x : Operand) (t u : TypeId)
  (ho : o.op = .call { callee := .builtin .append, args := #[sl, x], argTypes := #[t, u] })
  (ht : P.underlying t = some (.slice 5)) (hu : P.underlying u = some .string) (hi : (P.info? 5).map (fun i => (i.zero, i.size, i.bytes)) = some (some (.int .u8 0), 1, 1))
  {B : Nat} {v : Value} {bs : List Nat} (hs : a.eval sl = v) (hown : Own w B v bs) {s : ByteArray} (hx : a.eval x = .string s)
  (hb : bs.length + s.size ≤ 140737488355328) (hbase : B ≤ w.heap.size)
  (h : ∀ v' w', Own w' B v' (bs ++ bl s) → Below B w w' → wpList P ops Q rest (a.put o.dst v') w') : wpList P ops Q (o :: rest) a w := by
 obtain ⟨i0, hi0, hz0, hz1, hz2⟩ := info_parts hi
 refine Lib.wpList_append_own_string w hgd sl x t u ho B 5 i0 ht hu hi0 hz0 hz1 hz2 v bs.length (bv bs) hs hown.1 s hx (by unfold maxLen; omega) hb hbase ?_
 intro v' w' h1 h2 _
 refine h v' w' ⟨?_, fun y hy => ?_⟩ ((Below.refl B w).grown h2 hbase hown.block_ge)
 ·rw [List.length_append, bl_length, bv_append]
  have : bv (bl s) = Lib.strCells s := by simp [bv, bl, Lib.strCells]
  rw [this]; exact h1
 ·rcases List.mem_append.1 hy with h' | h'
  ·exact hown.2 y h'
  ·exact bl_lt s y h'
end
/-- The call returns v; what was there is as it was. -/
def RetV (v : Value) (w : World) (e : Ending) (w' : World) : Prop := e = .returned v ∧ Below w.heap.size w w'
/-- The call returns a new row of bytes. -/
def RetO (bs : List Nat) (w : World) (e : Ending) (w' : World) : Prop := ∃ v, e = .returned v ∧ Own w' w.heap.size v bs ∧ Below w.heap.size w w'
theorem ret_int {k : IntKind} {a b : Int} (h : a = b) : Ending.returned (.int k a) = .returned (.int k b) := by rw [h]
theorem ret_bool {a b : Bool} (h : a = b) : Ending.returned (.bool a) = .returned (.bool b) := by rw [h]
end Go.BL
namespace Go.Proofs
open Go.Shelf
def Tryz.lays160_ren : Go.Shelf.Ren := ⟨fun | 160 => 154 | 232 => 207 | 231 => 206 | 227 => 208 | 234 => 210 | 233 => 209 | 236 => 212 | 235 => 211 | 228 => 237 | 271 => 239 | 151 => 238 | 197 => 199 | 120 => 257 | 152 => 256 | 260 => 234 | 137 => 172 | 119 => 267 | 224 => 196 | 225 => 195 | 217 => 194 | 266 => 232 | n => n, fun | 9 => 9 | 4 => 4 | 3 => 3 | 5 => 5 | 117 => 255 | 116 => 254 | 0 => 0 | 124 => 258 | 21 => 21 | 105 => 244 | 46 => 165 | 119 => 229 | 139 => 297 | 138 => 296 | n => n, fun | 3 => 6 | 4 => 7 | n => n⟩
theorem Tryz.lays160 : Go.Proofs.Lays.n160 Tryz.prog Tryz.lays160_ren := {
 mixed := by kernel_rfl
 f119 := Tryz.func267.trans (congrArg some (by kernel_rfl))
 f120 := Tryz.func257.trans (congrArg some (by kernel_rfl))
 f137 := Tryz.func172.trans (congrArg some (by kernel_rfl))
 f151 := Tryz.func238.trans (congrArg some (by kernel_rfl))
 f152 := Tryz.func256.trans (congrArg some (by kernel_rfl))
 f160 := Tryz.func154.trans (congrArg some (by kernel_rfl))
 f197 := Tryz.func199.trans (congrArg some (by kernel_rfl))
 f217 := Tryz.func194.trans (congrArg some (by kernel_rfl))
 f224 := Tryz.func196.trans (congrArg some (by kernel_rfl))
 f225 := Tryz.func195.trans (congrArg some (by kernel_rfl))
 f227 := Tryz.func208.trans (congrArg some (by kernel_rfl))
 f228 := Tryz.func237.trans (congrArg some (by kernel_rfl))
 f231 := Tryz.func206.trans (congrArg some (by kernel_rfl))
 f232 := Tryz.func207.trans (congrArg some (by kernel_rfl))
 f233 := Tryz.func209.trans (congrArg some (by kernel_rfl))
 f234 := Tryz.func210.trans (congrArg some (by kernel_rfl))
 f235 := Tryz.func211.trans (congrArg some (by kernel_rfl))
 f236 := Tryz.func212.trans (congrArg some (by kernel_rfl))
 f260 := Tryz.func234.trans (congrArg some (by kernel_rfl))
 f266 := Tryz.func232.trans (congrArg some (by kernel_rfl))
 f271 := Tryz.func239.trans (congrArg some (by kernel_rfl))
 t0 := Tryz.underlying0
 a0 := Tryz.isAgg0
 z0 := Tryz.sizeOf0
 v0 := Tryz.zeroValue0
 t3 := Tryz.underlying3
 a3 := Tryz.isAgg3
 z3 := Tryz.sizeOf3
 v3 := Tryz.zeroValue3
 t4 := Tryz.underlying4
 a4 := Tryz.isAgg4
 z4 := Tryz.sizeOf4
 v4 := Tryz.zeroValue4
 t5 := Tryz.underlying5
 a5 := Tryz.isAgg5
 z5 := Tryz.sizeOf5
 v5 := Tryz.zeroValue5
 t9 := Tryz.underlying9
 a9 := Tryz.isAgg9
 z9 := Tryz.sizeOf9
 v9 := Tryz.zeroValue9
 t21 := Tryz.underlying21
 a21 := Tryz.isAgg21
 z21 := Tryz.sizeOf21
 v21 := Tryz.zeroValue21
 t46 := Tryz.underlying165
 a46 := Tryz.isAgg165
 z46 := Tryz.sizeOf165
 v46 := Tryz.zeroValue165
 t105 := Tryz.underlying244
 a105 := Tryz.isAgg244
 z105 := Tryz.sizeOf244
 v105 := Tryz.zeroValue244
 t116 := Tryz.underlying254
 a116 := Tryz.isAgg254
 z116 := Tryz.sizeOf254
 t117 := Tryz.underlying255
 a117 := Tryz.isAgg255
 z117 := Tryz.sizeOf255
 v117 := Tryz.zeroValue255
 t119 := Tryz.underlying229
 a119 := Tryz.isAgg229
 z119 := Tryz.sizeOf229
 t124 := Tryz.underlying258
 a124 := Tryz.isAgg258
 z124 := Tryz.sizeOf258
 v124 := Tryz.zeroValue258
 t138 := Tryz.underlying296
 a138 := Tryz.isAgg296
 z138 := Tryz.sizeOf296
 v138 := Tryz.zeroValue296
 t139 := Tryz.underlying297
 a139 := Tryz.isAgg297
 z139 := Tryz.sizeOf297
 v139 := Tryz.zeroValue297
 g3 := by kernel_rfl
 g4 := by kernel_rfl }
def Tryz.lays119_ren : Go.Shelf.Ren := ⟨fun | 119 => 267 | n => n, fun | 21 => 21 | 4 => 4 | n => n, fun | n => n⟩
theorem Tryz.lays119 : Go.Proofs.Lays.n119 Tryz.prog Tryz.lays119_ren := {
 mixed := by kernel_rfl
 f119 := Tryz.func267.trans (congrArg some (by kernel_rfl))
 t4 := Tryz.underlying4
 a4 := Tryz.isAgg4
 z4 := Tryz.sizeOf4
 v4 := Tryz.zeroValue4
 t21 := Tryz.underlying21
 a21 := Tryz.isAgg21
 z21 := Tryz.sizeOf21
 v21 := Tryz.zeroValue21 }
/-- utf8.ValidRune: "ValidRune reports whether r can be legally encoded as UTF-8. Code points that are out of range or a surrogate half are illegal.": IT RETURNS 'Lib.validRune r'; the world is as it was. (LAID: no walk: one application.) -/
theorem Tryz.utf8_ValidRune (r : Int) (w : World) :
  Calls Tryz.prog 267 #[.int .i32 r] w fun e w' => e = .returned (.bool (Lib.validRune r)) ∧ w' = w := Any.utf8_ValidRune Tryz.lays119 r w
def Tryz.lays137_ren : Go.Shelf.Ren := ⟨fun | 137 => 172 | 217 => 194 | 266 => 232 | n => n, fun | 9 => 9 | 5 => 5 | 3 => 3 | n => n, fun | n => n⟩
theorem Tryz.lays137 : Go.Proofs.Lays.n137 Tryz.prog Tryz.lays137_ren := {
 mixed := by kernel_rfl
 f137 := Tryz.func172.trans (congrArg some (by kernel_rfl))
 f217 := Tryz.func194.trans (congrArg some (by kernel_rfl))
 f266 := Tryz.func232.trans (congrArg some (by kernel_rfl))
 t3 := Tryz.underlying3
 a3 := Tryz.isAgg3
 z3 := Tryz.sizeOf3
 v3 := Tryz.zeroValue3
 t5 := Tryz.underlying5
 a5 := Tryz.isAgg5
 z5 := Tryz.sizeOf5
 v5 := Tryz.zeroValue5
 t9 := Tryz.underlying9
 a9 := Tryz.isAgg9
 z9 := Tryz.sizeOf9
 v9 := Tryz.zeroValue9 }
open Go.RowKit in
/-- strings.IndexByte: "IndexByte returns the index of the first instance of c in s, or -1 if c is not present in s.": IT RETURNS 'Lib.indexByte s c'; the world is as it was. (LAID: no walk: one application.) -/
theorem Tryz.strings_IndexByte (s : ByteArray) (c : Int) (w : World) :
  Calls Tryz.prog 172 #[.string s, .int .u8 c] w fun e w' => e = .returned (.int .i64 (Lib.indexByte s.data.toList c.toNat.toUInt8)) ∧ w' = w := Any.strings_IndexByte Tryz.lays137 s c w
def Tryz.lays283_ren : Go.Shelf.Ren := ⟨fun | 283 => 215 | n => n, fun | 3 => 3 | 9 => 9 | 4 => 4 | n => n, fun | n => n⟩
theorem Tryz.lays283 : Go.Proofs.Lays.n283 Tryz.prog Tryz.lays283_ren := {
 mixed := by kernel_rfl
 f283 := Tryz.func215.trans (congrArg some (by kernel_rfl))
 t3 := Tryz.underlying3
 a3 := Tryz.isAgg3
 z3 := Tryz.sizeOf3
 v3 := Tryz.zeroValue3
 t4 := Tryz.underlying4
 a4 := Tryz.isAgg4
 z4 := Tryz.sizeOf4
 v4 := Tryz.zeroValue4
 t9 := Tryz.underlying9
 a9 := Tryz.isAgg9
 z9 := Tryz.sizeOf9
 v9 := Tryz.zeroValue9 }
open Go.Lib in
/-- internal/strconv.small: "small returns the string for an i with 0 <= i < nSmalls.": i's decimal numeral. The world is as it was. (LAID: no walk: one application.) -/
theorem Tryz.internal_strconv_small (i : Nat) (h : i < 100) (w : World) :
  Calls Tryz.prog 215 #[.int .i64 i] w fun e w' => e = .returned (.string ⟨(Lib.decDigits i).toArray⟩) ∧ w' = w := Any.internal_strconv_small Tryz.lays283 i h w
def Tryz.laysM284_ren : Go.Shelf.Ren := ⟨fun | 284 => 216 | 129 => 241 | 317 => 240 | 318 => 242 | n => n, fun | 53 => 25 | 3 => 3 | 212 => 283 | 0 => 0 | 4 => 4 | 46 => 165 | 5 => 5 | 9 => 9 | n => n, fun | 17 => 5 | n => n⟩
theorem Tryz.laysM284 : Go.Proofs.LaysM.n284 Tryz.prog Tryz.laysM284_ren := {
 mixed := by kernel_rfl
 f129 := Tryz.func241.trans (congrArg some (by kernel_rfl))
 f284 := Tryz.func216.trans (congrArg some (by kernel_rfl))
 f317 := Tryz.func240.trans (congrArg some (by kernel_rfl))
 f318 := Tryz.func242.trans (congrArg some (by kernel_rfl))
 t0 := Tryz.underlying0
 a0 := Tryz.isAgg0
 z0 := Tryz.sizeOf0
 v0 := Tryz.zeroValue0
 t3 := Tryz.underlying3
 a3 := Tryz.isAgg3
 z3 := Tryz.sizeOf3
 v3 := Tryz.zeroValue3
 t4 := Tryz.underlying4
 a4 := Tryz.isAgg4
 z4 := Tryz.sizeOf4
 v4 := Tryz.zeroValue4
 t5 := Tryz.underlying5
 a5 := Tryz.isAgg5
 z5 := Tryz.sizeOf5
 v5 := Tryz.zeroValue5
 t9 := Tryz.underlying9
 a9 := Tryz.isAgg9
 z9 := Tryz.sizeOf9
 v9 := Tryz.zeroValue9
 t46 := Tryz.underlying165
 a46 := Tryz.isAgg165
 z46 := Tryz.sizeOf165
 v46 := Tryz.zeroValue165
 t53 := Tryz.underlying25
 a53 := Tryz.isAgg25
 z53 := Tryz.sizeOf25
 v53 := Tryz.zeroValue25
 t212 := Tryz.underlying283
 a212 := Tryz.isAgg283
 z212 := Tryz.sizeOf283
 v212 := Tryz.zeroValue283
 g17 := by kernel_rfl
 i0 := by kernel_rfl
 i3 := by kernel_rfl
 i4 := by kernel_rfl
 i5 := by kernel_rfl
 i9 := by kernel_rfl
 i46 := by kernel_rfl
 i53 := by kernel_rfl
 i212 := by kernel_rfl
 m17 := by kernel_rfl }
open Go.Lib in
/-- internal/strconv.numDigits, at a d that is not 0: THE NUMBER OF d's DECIMAL DIGITS. The world is as it was. (LAID: no walk: one application.) -/
theorem Tryz.internal_strconv_numDigits (u : Nat) (h1 : 1 ≤ u) (h2 : u < 18446744073709551616) (w : World) (htab : Lib.TabIs Tryz.prog w "internal/strconv.uint64pow10" .u64 Lib.pow10Tab) :
  Calls Tryz.prog 216 #[.int .u64 u] w fun e w' => e = .returned (.int .i64 (Lib.nDigits u)) ∧ w' = w := Any.internal_strconv_numDigits Tryz.laysM284 u h1 h2 w htab
def Tryz.lays285_ren : Go.Shelf.Ren := ⟨fun | 285 => 217 | n => n, fun | 37 => 75 | 53 => 25 | 3 => 3 | 4 => 4 | 51 => 268 | 9 => 9 | 5 => 5 | 0 => 0 | n => n, fun | n => n⟩
theorem Tryz.lays285 : Go.Proofs.Lays.n285 Tryz.prog Tryz.lays285_ren := {
 mixed := by kernel_rfl
 f285 := Tryz.func217.trans (congrArg some (by kernel_rfl))
 t0 := Tryz.underlying0
 a0 := Tryz.isAgg0
 z0 := Tryz.sizeOf0
 v0 := Tryz.zeroValue0
 t3 := Tryz.underlying3
 a3 := Tryz.isAgg3
 z3 := Tryz.sizeOf3
 v3 := Tryz.zeroValue3
 t4 := Tryz.underlying4
 a4 := Tryz.isAgg4
 z4 := Tryz.sizeOf4
 v4 := Tryz.zeroValue4
 t5 := Tryz.underlying5
 a5 := Tryz.isAgg5
 z5 := Tryz.sizeOf5
 v5 := Tryz.zeroValue5
 t9 := Tryz.underlying9
 a9 := Tryz.isAgg9
 z9 := Tryz.sizeOf9
 v9 := Tryz.zeroValue9
 t37 := Tryz.underlying75
 a37 := Tryz.isAgg75
 z37 := Tryz.sizeOf75
 v37 := Tryz.zeroValue75
 t51 := Tryz.underlying268
 a51 := Tryz.isAgg268
 z51 := Tryz.sizeOf268
 v51 := Tryz.zeroValue268
 t53 := Tryz.underlying25
 a53 := Tryz.isAgg25
 z53 := Tryz.sizeOf25
 v53 := Tryz.zeroValue25 }
open Go.RowKit Go.Sort Go.Lib in
/-- internal/strconv.formatBase10: "formatBase10 formats the decimal representation of u into a. The caller is responsible for ensuring that a is big enough to hold u. If a is too big, leading zeros will be filled in as needed.": THE ROW HOLDS u's DIGITS ('FmtInv .. 0 ..': every place t holds 'dg u (len - 1 - t)'); all else is as it was but for the count of draws. (LAID: no walk: one application.) -/
theorem Tryz.internal_strconv_formatBase10 (blk off cap : Nat) (u : Nat) (d : Array UInt8) (w : World) (hH : Holds (fun (b : UInt8) => Value.int .u8 (b.toNat : Int)) w blk off d) (hu : u < 10 ^ d.size) (hu64 : u < 18446744073709551616) (hsz : d.size < 4611686018427387904) :
  Calls Tryz.prog 217 #[.slice (some ⟨blk, off, none⟩) d.size cap, .int .u64 u] w fun e w' =>
   e = .returned (.tuple #[]) ∧ ∃ (n v' : Nat) (dk : Array UInt8), w' = (putRow (fun (b : UInt8) => Value.int .u8 (b.toNat : Int)) w blk off dk).drewN n ∧ FmtInv d.size u 0 v' dk := Any.internal_strconv_formatBase10 Tryz.lays285 blk off cap u d w hH hu hu64 hsz
def Tryz.laysM171_ren : Go.Shelf.Ren := ⟨fun | 171 => 63 | 243 => 115 | 246 => 158 | 283 => 215 | 284 => 216 | 285 => 217 | 286 => 218 | 129 => 241 | 317 => 240 | 318 => 242 | 319 => 243 | 320 => 244 | 337 => 258 | 338 => 259 | n => n, fun | 3 => 3 | 9 => 9 | 2 => 2 | 4 => 4 | 171 => 260 | 0 => 0 | 53 => 25 | 37 => 75 | 5 => 5 | 173 => 263 | 212 => 283 | 51 => 268 | 20 => 20 | 213 => 284 | 46 => 165 | 232 => 306 | 233 => 307 | n => n, fun | 17 => 5 | 18 => 8 | 19 => 9 | n => n⟩
theorem Tryz.laysM171 : Go.Proofs.LaysM.n171 Tryz.prog Tryz.laysM171_ren := {
 mixed := by kernel_rfl
 f129 := Tryz.func241.trans (congrArg some (by kernel_rfl))
 f171 := Tryz.func63.trans (congrArg some (by kernel_rfl))
 f243 := Tryz.func115.trans (congrArg some (by kernel_rfl))
 f246 := Tryz.func158.trans (congrArg some (by kernel_rfl))
 f283 := Tryz.func215.trans (congrArg some (by kernel_rfl))
 f284 := Tryz.func216.trans (congrArg some (by kernel_rfl))
 f285 := Tryz.func217.trans (congrArg some (by kernel_rfl))
 f286 := Tryz.func218.trans (congrArg some (by kernel_rfl))
 f317 := Tryz.func240.trans (congrArg some (by kernel_rfl))
 f318 := Tryz.func242.trans (congrArg some (by kernel_rfl))
 f319 := Tryz.func243.trans (congrArg some (by kernel_rfl))
 f320 := Tryz.func244.trans (congrArg some (by kernel_rfl))
 f337 := Tryz.func258.trans (congrArg some (by kernel_rfl))
 f338 := Tryz.func259.trans (congrArg some (by kernel_rfl))
 t0 := Tryz.underlying0
 a0 := Tryz.isAgg0
 z0 := Tryz.sizeOf0
 v0 := Tryz.zeroValue0
 t2 := Tryz.underlying2
 a2 := Tryz.isAgg2
 z2 := Tryz.sizeOf2
 v2 := Tryz.zeroValue2
 t3 := Tryz.underlying3
 a3 := Tryz.isAgg3
 z3 := Tryz.sizeOf3
 v3 := Tryz.zeroValue3
 t4 := Tryz.underlying4
 a4 := Tryz.isAgg4
 z4 := Tryz.sizeOf4
 v4 := Tryz.zeroValue4
 t5 := Tryz.underlying5
 a5 := Tryz.isAgg5
 z5 := Tryz.sizeOf5
 v5 := Tryz.zeroValue5
 t9 := Tryz.underlying9
 a9 := Tryz.isAgg9
 z9 := Tryz.sizeOf9
 v9 := Tryz.zeroValue9
 t20 := Tryz.underlying20
 a20 := Tryz.isAgg20
 z20 := Tryz.sizeOf20
 v20 := Tryz.zeroValue20
 t37 := Tryz.underlying75
 a37 := Tryz.isAgg75
 z37 := Tryz.sizeOf75
 v37 := Tryz.zeroValue75
 t46 := Tryz.underlying165
 a46 := Tryz.isAgg165
 z46 := Tryz.sizeOf165
 v46 := Tryz.zeroValue165
 t51 := Tryz.underlying268
 a51 := Tryz.isAgg268
 z51 := Tryz.sizeOf268
 v51 := Tryz.zeroValue268
 t53 := Tryz.underlying25
 a53 := Tryz.isAgg25
 z53 := Tryz.sizeOf25
 v53 := Tryz.zeroValue25
 t171 := Tryz.underlying260
 a171 := Tryz.isAgg260
 z171 := Tryz.sizeOf260
 v171 := Tryz.zeroValue260
 t173 := Tryz.underlying263
 a173 := Tryz.isAgg263
 z173 := Tryz.sizeOf263
 v173 := Tryz.zeroValue263
 t212 := Tryz.underlying283
 a212 := Tryz.isAgg283
 z212 := Tryz.sizeOf283
 v212 := Tryz.zeroValue283
 t213 := Tryz.underlying284
 a213 := Tryz.isAgg284
 z213 := Tryz.sizeOf284
 t232 := Tryz.underlying306
 a232 := Tryz.isAgg306
 z232 := Tryz.sizeOf306
 v232 := Tryz.zeroValue306
 t233 := Tryz.underlying307
 a233 := Tryz.isAgg307
 z233 := Tryz.sizeOf307
 v233 := Tryz.zeroValue307
 g17 := by kernel_rfl
 g18 := by kernel_rfl
 g19 := by kernel_rfl
 i0 := by kernel_rfl
 i2 := by kernel_rfl
 i3 := by kernel_rfl
 i4 := by kernel_rfl
 i5 := by kernel_rfl
 i9 := by kernel_rfl
 i20 := by kernel_rfl
 i37 := by kernel_rfl
 i46 := by kernel_rfl
 i51 := by kernel_rfl
 i53 := by kernel_rfl
 i171 := by kernel_rfl
 i173 := by kernel_rfl
 i212 := by kernel_rfl
 i232 := by kernel_rfl
 i233 := by kernel_rfl
 m17 := by kernel_rfl
 m18 := by kernel_rfl
 m19 := by kernel_rfl }
open Go.RowKit Go.Sort Go.Lib in
/-- strconv.Itoa: "Itoa is equivalent to FormatInt(int64(i), 10).": i's DECIMAL NUMERAL ('Lib.itoa': a '-' where i is negative, then the digits), FOR EVERY int. The world behind the call: the world before it, new blocks behind the heap (the library's 'var a [24]byte'), draws. (LAID: no walk: one application.) -/
theorem Tryz.strconv_Itoa (n : Int) (h0 : -9223372036854775808 ≤ n) (h1 : n ≤ 9223372036854775807) (w : World) (htab : Lib.TabIs Tryz.prog w "internal/strconv.uint64pow10" .u64 Lib.pow10Tab) :
  Calls Tryz.prog 63 #[.int .i64 n] w fun e w' => e = .returned (.string ⟨(Lib.itoa n).toArray⟩) ∧ ∃ k os, w' = grow (w.drewN k) os := Any.strconv_Itoa Tryz.laysM171 n h0 h1 w htab
def Tryz.laysC172_ren : Go.Shelf.Ren := ⟨fun | 172 => 103 | 244 => 152 | 245 => 153 | 247 => 201 | 279 => 202 | 280 => 203 | 281 => 204 | 282 => 205 | 287 => 155 | 316 => 235 | 171 => 63 | 205 => 236 | 321 => 213 | 322 => 214 | 243 => 115 | 246 => 158 | 283 => 215 | 284 => 216 | 285 => 217 | 286 => 218 | 129 => 241 | 317 => 240 | 318 => 242 | 319 => 243 | 320 => 244 | 337 => 258 | 338 => 259 | n => n, fun | 9 => 9 | 3 => 3 | 75 => 81 | 76 => 119 | 4 => 4 | 5 => 5 | 167 => 246 | 37 => 75 | 0 => 0 | 85 => 247 | 2 => 2 | 168 => 249 | 53 => 25 | 175 => 168 | 46 => 165 | 210 => 279 | 127 => 174 | 145 => 300 | 143 => 298 | 21 => 21 | 171 => 260 | 173 => 263 | 212 => 283 | 51 => 268 | 20 => 20 | 213 => 284 | 232 => 306 | 233 => 307 | 80 => 122 | n => n, fun | 15 => 3 | 16 => 4 | 17 => 5 | 18 => 8 | 19 => 9 | n => n⟩
theorem Tryz.laysC172 : Go.Proofs.LaysC.n172 Tryz.prog Tryz.laysC172_ren := {
 mixed := by kernel_rfl
 f129 := Tryz.func241.trans (congrArg some (by kernel_rfl))
 f171 := Tryz.func63.trans (congrArg some (by kernel_rfl))
 f172 := Tryz.func103.trans (congrArg some (by kernel_rfl))
 f205 := Tryz.func236.trans (congrArg some (by kernel_rfl))
 f243 := Tryz.func115.trans (congrArg some (by kernel_rfl))
 f244 := Tryz.func152.trans (congrArg some (by kernel_rfl))
 f245 := Tryz.func153.trans (congrArg some (by kernel_rfl))
 f246 := Tryz.func158.trans (congrArg some (by kernel_rfl))
 f247 := Tryz.func201.trans (congrArg some (by kernel_rfl))
 f279 := Tryz.func202.trans (congrArg some (by kernel_rfl))
 f280 := Tryz.func203.trans (congrArg some (by kernel_rfl))
 f281 := Tryz.func204.trans (congrArg some (by kernel_rfl))
 f282 := Tryz.func205.trans (congrArg some (by kernel_rfl))
 f283 := Tryz.func215.trans (congrArg some (by kernel_rfl))
 f284 := Tryz.func216.trans (congrArg some (by kernel_rfl))
 f285 := Tryz.func217.trans (congrArg some (by kernel_rfl))
 f286 := Tryz.func218.trans (congrArg some (by kernel_rfl))
 f287 := Tryz.func155.trans (congrArg some (by kernel_rfl))
 f316 := Tryz.func235.trans (congrArg some (by kernel_rfl))
 f317 := Tryz.func240.trans (congrArg some (by kernel_rfl))
 f318 := Tryz.func242.trans (congrArg some (by kernel_rfl))
 f319 := Tryz.func243.trans (congrArg some (by kernel_rfl))
 f320 := Tryz.func244.trans (congrArg some (by kernel_rfl))
 f321 := Tryz.func213.trans (congrArg some (by kernel_rfl))
 f322 := Tryz.func214.trans (congrArg some (by kernel_rfl))
 f337 := Tryz.func258.trans (congrArg some (by kernel_rfl))
 f338 := Tryz.func259.trans (congrArg some (by kernel_rfl))
 t0 := Tryz.underlying0
 a0 := Tryz.isAgg0
 z0 := Tryz.sizeOf0
 v0 := Tryz.zeroValue0
 t2 := Tryz.underlying2
 a2 := Tryz.isAgg2
 z2 := Tryz.sizeOf2
 v2 := Tryz.zeroValue2
 t3 := Tryz.underlying3
 a3 := Tryz.isAgg3
 z3 := Tryz.sizeOf3
 v3 := Tryz.zeroValue3
 t4 := Tryz.underlying4
 a4 := Tryz.isAgg4
 z4 := Tryz.sizeOf4
 v4 := Tryz.zeroValue4
 t5 := Tryz.underlying5
 a5 := Tryz.isAgg5
 z5 := Tryz.sizeOf5
 v5 := Tryz.zeroValue5
 t9 := Tryz.underlying9
 a9 := Tryz.isAgg9
 z9 := Tryz.sizeOf9
 v9 := Tryz.zeroValue9
 t20 := Tryz.underlying20
 a20 := Tryz.isAgg20
 z20 := Tryz.sizeOf20
 v20 := Tryz.zeroValue20
 t21 := Tryz.underlying21
 a21 := Tryz.isAgg21
 z21 := Tryz.sizeOf21
 v21 := Tryz.zeroValue21
 t37 := Tryz.underlying75
 a37 := Tryz.isAgg75
 z37 := Tryz.sizeOf75
 v37 := Tryz.zeroValue75
 t46 := Tryz.underlying165
 a46 := Tryz.isAgg165
 z46 := Tryz.sizeOf165
 v46 := Tryz.zeroValue165
 t51 := Tryz.underlying268
 a51 := Tryz.isAgg268
 z51 := Tryz.sizeOf268
 v51 := Tryz.zeroValue268
 t53 := Tryz.underlying25
 a53 := Tryz.isAgg25
 z53 := Tryz.sizeOf25
 v53 := Tryz.zeroValue25
 t75 := Tryz.underlying81
 a75 := Tryz.isAgg81
 z75 := Tryz.sizeOf81
 v75 := Tryz.zeroValue81
 t76 := Tryz.underlying119
 a76 := Tryz.isAgg119
 z76 := Tryz.sizeOf119
 v76 := Tryz.zeroValue119
 t85 := Tryz.underlying247
 a85 := Tryz.isAgg247
 z85 := Tryz.sizeOf247
 v85 := Tryz.zeroValue247
 t127 := Tryz.underlying174
 a127 := Tryz.isAgg174
 z127 := Tryz.sizeOf174
 v127 := Tryz.zeroValue174
 t143 := Tryz.underlying298
 a143 := Tryz.isAgg298
 z143 := Tryz.sizeOf298
 v143 := Tryz.zeroValue298
 t145 := Tryz.underlying300
 a145 := Tryz.isAgg300
 z145 := Tryz.sizeOf300
 v145 := Tryz.zeroValue300
 t167 := Tryz.underlying246
 a167 := Tryz.isAgg246
 z167 := Tryz.sizeOf246
 v167 := Tryz.zeroValue246
 t168 := Tryz.underlying249
 a168 := Tryz.isAgg249
 z168 := Tryz.sizeOf249
 v168 := Tryz.zeroValue249
 t171 := Tryz.underlying260
 a171 := Tryz.isAgg260
 z171 := Tryz.sizeOf260
 v171 := Tryz.zeroValue260
 t173 := Tryz.underlying263
 a173 := Tryz.isAgg263
 z173 := Tryz.sizeOf263
 v173 := Tryz.zeroValue263
 t175 := Tryz.underlying168
 a175 := Tryz.isAgg168
 z175 := Tryz.sizeOf168
 v175 := Tryz.zeroValue168
 t210 := Tryz.underlying279
 a210 := Tryz.isAgg279
 z210 := Tryz.sizeOf279
 v210 := Tryz.zeroValue279
 t212 := Tryz.underlying283
 a212 := Tryz.isAgg283
 z212 := Tryz.sizeOf283
 v212 := Tryz.zeroValue283
 t213 := Tryz.underlying284
 a213 := Tryz.isAgg284
 z213 := Tryz.sizeOf284
 t232 := Tryz.underlying306
 a232 := Tryz.isAgg306
 z232 := Tryz.sizeOf306
 v232 := Tryz.zeroValue306
 t233 := Tryz.underlying307
 a233 := Tryz.isAgg307
 z233 := Tryz.sizeOf307
 v233 := Tryz.zeroValue307
 g15 := by kernel_rfl
 g16 := by kernel_rfl
 g17 := by kernel_rfl
 g18 := by kernel_rfl
 g19 := by kernel_rfl
 t80 := Tryz.underlying122
 a80 := Tryz.isAgg122
 z80 := Tryz.sizeOf122
 v80 := Tryz.zeroValue122
 i0 := by kernel_rfl
 i2 := by kernel_rfl
 i3 := by kernel_rfl
 i4 := by kernel_rfl
 i5 := by kernel_rfl
 i9 := by kernel_rfl
 i20 := by kernel_rfl
 i21 := by kernel_rfl
 i37 := by kernel_rfl
 i46 := by kernel_rfl
 i51 := by kernel_rfl
 i53 := by kernel_rfl
 i75 := by kernel_rfl
 i76 := by kernel_rfl
 i80 := by kernel_rfl
 i85 := by kernel_rfl
 i127 := by kernel_rfl
 i143 := by kernel_rfl
 i145 := by kernel_rfl
 i167 := by kernel_rfl
 i168 := by kernel_rfl
 i171 := by kernel_rfl
 i173 := by kernel_rfl
 i175 := by kernel_rfl
 i210 := by kernel_rfl
 i212 := by kernel_rfl
 i232 := by kernel_rfl
 i233 := by kernel_rfl
 m15 := by kernel_rfl
 m16 := by kernel_rfl
 m17 := by kernel_rfl
 m18 := by kernel_rfl
 m19 := by kernel_rfl
 c0 := by kernel_rfl
 c2 := by kernel_rfl
 c3 := by kernel_rfl
 c4 := by kernel_rfl
 c5 := by kernel_rfl
 c9 := by kernel_rfl
 c20 := by kernel_rfl
 c21 := by kernel_rfl
 c37 := by kernel_rfl
 c46 := by kernel_rfl
 c51 := by kernel_rfl
 c53 := by kernel_rfl
 c75 := by kernel_rfl
 c76 := by kernel_rfl
 c80 := by kernel_rfl
 c85 := by kernel_rfl
 c127 := by kernel_rfl
 c143 := by kernel_rfl
 c145 := by kernel_rfl
 c167 := by kernel_rfl
 c168 := by kernel_rfl
 c171 := by kernel_rfl
 c173 := by kernel_rfl
 c175 := by kernel_rfl
 c210 := by kernel_rfl
 c212 := by kernel_rfl
 c213 := by kernel_rfl
 c232 := by kernel_rfl
 c233 := by kernel_rfl }
def Tryz.laysPu14_ren : Go.Shelf.Ren := ⟨fun | 14 => 105 | 16 => 155 | 17 => 153 | 19 => 213 | 20 => 214 | 21 => 202 | 22 => 203 | 23 => 204 | 24 => 205 | 25 => 235 | 27 => 63 | 26 => 236 | 28 => 115 | 29 => 158 | 30 => 215 | 31 => 216 | 32 => 217 | 33 => 218 | 35 => 241 | 34 => 240 | 36 => 242 | 37 => 243 | 38 => 244 | 39 => 258 | 40 => 259 | n => n, fun | 9 => 9 | 3 => 3 | 22 => 25 | 24 => 81 | 25 => 168 | 4 => 4 | 34 => 246 | 5 => 5 | 36 => 165 | 37 => 75 | 0 => 0 | 39 => 249 | 21 => 21 | 44 => 279 | 47 => 174 | 50 => 300 | 48 => 298 | 2 => 2 | 52 => 260 | 55 => 263 | 59 => 283 | 60 => 268 | 20 => 20 | 61 => 284 | 65 => 306 | 66 => 307 | 67 => 122 | n => n, fun | 0 => 3 | 1 => 4 | 2 => 5 | 3 => 8 | 4 => 9 | n => n⟩
theorem Tryz.laysPu14 : Go.Proofs.LaysPu.n14 Tryz.prog Tryz.laysPu14_ren := {
 mixed := by kernel_rfl
 f14 := Tryz.func105.trans (congrArg some (by kernel_rfl))
 f16 := Tryz.func155.trans (congrArg some (by kernel_rfl))
 f17 := Tryz.func153.trans (congrArg some (by kernel_rfl))
 f19 := Tryz.func213.trans (congrArg some (by kernel_rfl))
 f20 := Tryz.func214.trans (congrArg some (by kernel_rfl))
 f21 := Tryz.func202.trans (congrArg some (by kernel_rfl))
 f22 := Tryz.func203.trans (congrArg some (by kernel_rfl))
 f23 := Tryz.func204.trans (congrArg some (by kernel_rfl))
 f24 := Tryz.func205.trans (congrArg some (by kernel_rfl))
 f25 := Tryz.func235.trans (congrArg some (by kernel_rfl))
 f26 := Tryz.func236.trans (congrArg some (by kernel_rfl))
 f27 := Tryz.func63.trans (congrArg some (by kernel_rfl))
 f28 := Tryz.func115.trans (congrArg some (by kernel_rfl))
 f29 := Tryz.func158.trans (congrArg some (by kernel_rfl))
 f30 := Tryz.func215.trans (congrArg some (by kernel_rfl))
 f31 := Tryz.func216.trans (congrArg some (by kernel_rfl))
 f32 := Tryz.func217.trans (congrArg some (by kernel_rfl))
 f33 := Tryz.func218.trans (congrArg some (by kernel_rfl))
 f34 := Tryz.func240.trans (congrArg some (by kernel_rfl))
 f35 := Tryz.func241.trans (congrArg some (by kernel_rfl))
 f36 := Tryz.func242.trans (congrArg some (by kernel_rfl))
 f37 := Tryz.func243.trans (congrArg some (by kernel_rfl))
 f38 := Tryz.func244.trans (congrArg some (by kernel_rfl))
 f39 := Tryz.func258.trans (congrArg some (by kernel_rfl))
 f40 := Tryz.func259.trans (congrArg some (by kernel_rfl))
 t0 := Tryz.underlying0
 a0 := Tryz.isAgg0
 z0 := Tryz.sizeOf0
 v0 := Tryz.zeroValue0
 i0 := by kernel_rfl
 t2 := Tryz.underlying2
 a2 := Tryz.isAgg2
 z2 := Tryz.sizeOf2
 v2 := Tryz.zeroValue2
 i2 := by kernel_rfl
 t3 := Tryz.underlying3
 a3 := Tryz.isAgg3
 z3 := Tryz.sizeOf3
 v3 := Tryz.zeroValue3
 i3 := by kernel_rfl
 t4 := Tryz.underlying4
 a4 := Tryz.isAgg4
 z4 := Tryz.sizeOf4
 v4 := Tryz.zeroValue4
 i4 := by kernel_rfl
 t5 := Tryz.underlying5
 a5 := Tryz.isAgg5
 z5 := Tryz.sizeOf5
 v5 := Tryz.zeroValue5
 i5 := by kernel_rfl
 t9 := Tryz.underlying9
 a9 := Tryz.isAgg9
 z9 := Tryz.sizeOf9
 v9 := Tryz.zeroValue9
 i9 := by kernel_rfl
 t20 := Tryz.underlying20
 a20 := Tryz.isAgg20
 z20 := Tryz.sizeOf20
 v20 := Tryz.zeroValue20
 i20 := by kernel_rfl
 t21 := Tryz.underlying21
 a21 := Tryz.isAgg21
 z21 := Tryz.sizeOf21
 v21 := Tryz.zeroValue21
 i21 := by kernel_rfl
 t22 := Tryz.underlying25
 a22 := Tryz.isAgg25
 z22 := Tryz.sizeOf25
 v22 := Tryz.zeroValue25
 i22 := by kernel_rfl
 t24 := Tryz.underlying81
 a24 := Tryz.isAgg81
 z24 := Tryz.sizeOf81
 v24 := Tryz.zeroValue81
 i24 := by kernel_rfl
 t25 := Tryz.underlying168
 a25 := Tryz.isAgg168
 z25 := Tryz.sizeOf168
 v25 := Tryz.zeroValue168
 i25 := by kernel_rfl
 t34 := Tryz.underlying246
 a34 := Tryz.isAgg246
 z34 := Tryz.sizeOf246
 v34 := Tryz.zeroValue246
 i34 := by kernel_rfl
 c34 := by kernel_rfl
 t36 := Tryz.underlying165
 a36 := Tryz.isAgg165
 z36 := Tryz.sizeOf165
 v36 := Tryz.zeroValue165
 i36 := by kernel_rfl
 t37 := Tryz.underlying75
 a37 := Tryz.isAgg75
 z37 := Tryz.sizeOf75
 v37 := Tryz.zeroValue75
 i37 := by kernel_rfl
 t39 := Tryz.underlying249
 a39 := Tryz.isAgg249
 z39 := Tryz.sizeOf249
 v39 := Tryz.zeroValue249
 i39 := by kernel_rfl
 t44 := Tryz.underlying279
 a44 := Tryz.isAgg279
 z44 := Tryz.sizeOf279
 v44 := Tryz.zeroValue279
 i44 := by kernel_rfl
 t47 := Tryz.underlying174
 a47 := Tryz.isAgg174
 z47 := Tryz.sizeOf174
 v47 := Tryz.zeroValue174
 i47 := by kernel_rfl
 t48 := Tryz.underlying298
 a48 := Tryz.isAgg298
 z48 := Tryz.sizeOf298
 v48 := Tryz.zeroValue298
 i48 := by kernel_rfl
 t50 := Tryz.underlying300
 a50 := Tryz.isAgg300
 z50 := Tryz.sizeOf300
 v50 := Tryz.zeroValue300
 i50 := by kernel_rfl
 t52 := Tryz.underlying260
 a52 := Tryz.isAgg260
 z52 := Tryz.sizeOf260
 v52 := Tryz.zeroValue260
 i52 := by kernel_rfl
 t55 := Tryz.underlying263
 a55 := Tryz.isAgg263
 z55 := Tryz.sizeOf263
 v55 := Tryz.zeroValue263
 i55 := by kernel_rfl
 t59 := Tryz.underlying283
 a59 := Tryz.isAgg283
 z59 := Tryz.sizeOf283
 v59 := Tryz.zeroValue283
 i59 := by kernel_rfl
 t60 := Tryz.underlying268
 a60 := Tryz.isAgg268
 z60 := Tryz.sizeOf268
 v60 := Tryz.zeroValue268
 i60 := by kernel_rfl
 t61 := Tryz.underlying284
 a61 := Tryz.isAgg284
 z61 := Tryz.sizeOf284
 t65 := Tryz.underlying306
 a65 := Tryz.isAgg306
 z65 := Tryz.sizeOf306
 v65 := Tryz.zeroValue306
 i65 := by kernel_rfl
 t66 := Tryz.underlying307
 a66 := Tryz.isAgg307
 z66 := Tryz.sizeOf307
 v66 := Tryz.zeroValue307
 i66 := by kernel_rfl
 t67 := Tryz.underlying122
 a67 := Tryz.isAgg122
 z67 := Tryz.sizeOf122
 v67 := Tryz.zeroValue122
 i67 := by kernel_rfl
 g0 := by kernel_rfl
 m0 := by kernel_rfl
 g1 := by kernel_rfl
 m1 := by kernel_rfl
 g2 := by kernel_rfl
 m2 := by kernel_rfl
 g3 := by kernel_rfl
 m3 := by kernel_rfl
 g4 := by kernel_rfl
 m4 := by kernel_rfl }
open Go.RowKit in
/-- strconv.ParseUint(s, 10, 64), AT EVERY STRING THAT SPELLS A uint64 ('Lib.parseUintB 64 s.data.toList = .ok u'): u, AND NO ERROR. (LAID: no walk: one application.) -/
theorem Tryz.strconv_ParseUint_10_at64_ok (s : ByteArray) (hmax : s.size ≤ 9223372036854775806) (u : Nat) (h : Lib.parseUintB 64 s.data.toList = .ok u) (w : World) :
  Calls Tryz.prog 105 #[.string s, .int .i64 10, .int .i64 64] w fun e w' => e = .returned (.tuple #[.int .u64 u, .nilIface]) ∧ (w' = w ∨ w' = Lib.bytesWorld w 5 s) := Any.strconv_ParseUint_10_at64_ok Tryz.laysPu14 s hmax u h w
def Tryz.lays219_ren : Go.Shelf.Ren := ⟨fun | 219 => 148 | 217 => 194 | 225 => 195 | 224 => 196 | 267 => 197 | 266 => 232 | 314 => 233 | n => n, fun | 9 => 9 | 3 => 3 | 4 => 4 | 5 => 5 | 46 => 165 | 146 => 276 | 51 => 268 | n => n, fun | 1 => 2 | n => n⟩
theorem Tryz.lays219 : Go.Proofs.Lays.n219 Tryz.prog Tryz.lays219_ren := {
 mixed := by kernel_rfl
 f217 := Tryz.func194.trans (congrArg some (by kernel_rfl))
 f219 := Tryz.func148.trans (congrArg some (by kernel_rfl))
 f224 := Tryz.func196.trans (congrArg some (by kernel_rfl))
 f225 := Tryz.func195.trans (congrArg some (by kernel_rfl))
 f266 := Tryz.func232.trans (congrArg some (by kernel_rfl))
 f267 := Tryz.func197.trans (congrArg some (by kernel_rfl))
 f314 := Tryz.func233.trans (congrArg some (by kernel_rfl))
 t3 := Tryz.underlying3
 a3 := Tryz.isAgg3
 z3 := Tryz.sizeOf3
 v3 := Tryz.zeroValue3
 t4 := Tryz.underlying4
 a4 := Tryz.isAgg4
 z4 := Tryz.sizeOf4
 v4 := Tryz.zeroValue4
 t5 := Tryz.underlying5
 a5 := Tryz.isAgg5
 z5 := Tryz.sizeOf5
 v5 := Tryz.zeroValue5
 t9 := Tryz.underlying9
 a9 := Tryz.isAgg9
 z9 := Tryz.sizeOf9
 v9 := Tryz.zeroValue9
 t46 := Tryz.underlying165
 a46 := Tryz.isAgg165
 z46 := Tryz.sizeOf165
 v46 := Tryz.zeroValue165
 t51 := Tryz.underlying268
 a51 := Tryz.isAgg268
 z51 := Tryz.sizeOf268
 v51 := Tryz.zeroValue268
 t146 := Tryz.underlying276
 a146 := Tryz.isAgg276
 z146 := Tryz.sizeOf276
 v146 := Tryz.zeroValue276
 g1 := by kernel_rfl }
open Go.RowKit Go.Lib in
/-- internal/stringslite.Index (what strings.Index calls) AT A substr OF ONE BYTE c: IT RETURNS 'Lib.indexByte s c'; the world is as it was. (LAID: no walk: one application.) -/
theorem Tryz.stringslite_Index_one (s : ByteArray) (c : UInt8) (w : World) :
  Calls Tryz.prog 148 #[.string s, .string ⟨#[c]⟩] w fun e w' => e = .returned (.int .i64 (Lib.indexByte s.data.toList c)) ∧ w' = w := Any.stringslite_Index_one Tryz.lays219 s c w
def Tryz.lays145_ren : Go.Shelf.Ren := ⟨fun | 145 => 56 | 220 => 101 | 219 => 148 | 217 => 194 | 225 => 195 | 224 => 196 | 267 => 197 | 266 => 232 | 314 => 233 | n => n, fun | 9 => 9 | 4 => 4 | 59 => 111 | 3 => 3 | 5 => 5 | 46 => 165 | 146 => 276 | 51 => 268 | n => n, fun | 1 => 2 | n => n⟩
theorem Tryz.lays145 : Go.Proofs.Lays.n145 Tryz.prog Tryz.lays145_ren := {
 mixed := by kernel_rfl
 f145 := Tryz.func56.trans (congrArg some (by kernel_rfl))
 f217 := Tryz.func194.trans (congrArg some (by kernel_rfl))
 f219 := Tryz.func148.trans (congrArg some (by kernel_rfl))
 f220 := Tryz.func101.trans (congrArg some (by kernel_rfl))
 f224 := Tryz.func196.trans (congrArg some (by kernel_rfl))
 f225 := Tryz.func195.trans (congrArg some (by kernel_rfl))
 f266 := Tryz.func232.trans (congrArg some (by kernel_rfl))
 f267 := Tryz.func197.trans (congrArg some (by kernel_rfl))
 f314 := Tryz.func233.trans (congrArg some (by kernel_rfl))
 t3 := Tryz.underlying3
 a3 := Tryz.isAgg3
 z3 := Tryz.sizeOf3
 v3 := Tryz.zeroValue3
 t4 := Tryz.underlying4
 a4 := Tryz.isAgg4
 z4 := Tryz.sizeOf4
 v4 := Tryz.zeroValue4
 t5 := Tryz.underlying5
 a5 := Tryz.isAgg5
 z5 := Tryz.sizeOf5
 v5 := Tryz.zeroValue5
 t9 := Tryz.underlying9
 a9 := Tryz.isAgg9
 z9 := Tryz.sizeOf9
 v9 := Tryz.zeroValue9
 t46 := Tryz.underlying165
 a46 := Tryz.isAgg165
 z46 := Tryz.sizeOf165
 v46 := Tryz.zeroValue165
 t51 := Tryz.underlying268
 a51 := Tryz.isAgg268
 z51 := Tryz.sizeOf268
 v51 := Tryz.zeroValue268
 t59 := Tryz.underlying111
 a59 := Tryz.isAgg111
 z59 := Tryz.sizeOf111
 v59 := Tryz.zeroValue111
 t146 := Tryz.underlying276
 a146 := Tryz.isAgg276
 z146 := Tryz.sizeOf276
 v146 := Tryz.zeroValue276
 g1 := by kernel_rfl }
open Go.RowKit Go.Lib in
/-- strings.Cut: "Cut slices s around the first instance of sep, returning the text before and after sep. The found result reports whether sep appears in s. If sep does not appear in s, cut returns s, "", false.": IT RETURNS 'Lib.cut s sep'; the world is as it was but for the count of draws. (LAID: no walk: one application.) -/
theorem Tryz.strings_Cut (s sep : ByteArray) (m : Int) (w : World) (hs : s.size < 4294967281) (hm : w.cell? ⟨2, 0, none⟩ = some (.int .i64 m)) :
  Calls Tryz.prog 56 #[.string s, .string sep] w fun e w' => e = .returned (.tuple #[.string ⟨(Lib.cut s.data.toList sep.data.toList).1.toArray⟩, .string ⟨(Lib.cut s.data.toList sep.data.toList).2.1.toArray⟩, .bool (Lib.cut s.data.toList sep.data.toList).2.2]) ∧ ∃ n, w' = w.drewN n := Any.strings_Cut Tryz.lays145 s sep m w hs hm
def Tryz.lays146_ren : Go.Shelf.Ren := ⟨fun | 146 => 57 | 221 => 102 | 268 => 149 | 138 => 150 | 143 => 151 | 195 => 198 | 197 => 199 | 218 => 200 | 219 => 148 | 260 => 234 | 217 => 194 | 225 => 195 | 224 => 196 | 267 => 197 | 266 => 232 | 314 => 233 | n => n, fun | 9 => 9 | 31 => 100 | 3 => 3 | 4 => 4 | 0 => 0 | 105 => 244 | 21 => 21 | 5 => 5 | 46 => 165 | 119 => 229 | 139 => 297 | 138 => 296 | 146 => 276 | 51 => 268 | n => n, fun | 1 => 2 | 3 => 6 | 4 => 7 | n => n⟩
theorem Tryz.lays146 : Go.Proofs.Lays.n146 Tryz.prog Tryz.lays146_ren := {
 mixed := by kernel_rfl
 f138 := Tryz.func150.trans (congrArg some (by kernel_rfl))
 f143 := Tryz.func151.trans (congrArg some (by kernel_rfl))
 f146 := Tryz.func57.trans (congrArg some (by kernel_rfl))
 f195 := Tryz.func198.trans (congrArg some (by kernel_rfl))
 f197 := Tryz.func199.trans (congrArg some (by kernel_rfl))
 f217 := Tryz.func194.trans (congrArg some (by kernel_rfl))
 f218 := Tryz.func200.trans (congrArg some (by kernel_rfl))
 f219 := Tryz.func148.trans (congrArg some (by kernel_rfl))
 f221 := Tryz.func102.trans (congrArg some (by kernel_rfl))
 f224 := Tryz.func196.trans (congrArg some (by kernel_rfl))
 f225 := Tryz.func195.trans (congrArg some (by kernel_rfl))
 f260 := Tryz.func234.trans (congrArg some (by kernel_rfl))
 f266 := Tryz.func232.trans (congrArg some (by kernel_rfl))
 f267 := Tryz.func197.trans (congrArg some (by kernel_rfl))
 f268 := Tryz.func149.trans (congrArg some (by kernel_rfl))
 f314 := Tryz.func233.trans (congrArg some (by kernel_rfl))
 t0 := Tryz.underlying0
 a0 := Tryz.isAgg0
 z0 := Tryz.sizeOf0
 v0 := Tryz.zeroValue0
 t3 := Tryz.underlying3
 a3 := Tryz.isAgg3
 z3 := Tryz.sizeOf3
 v3 := Tryz.zeroValue3
 t4 := Tryz.underlying4
 a4 := Tryz.isAgg4
 z4 := Tryz.sizeOf4
 v4 := Tryz.zeroValue4
 t5 := Tryz.underlying5
 a5 := Tryz.isAgg5
 z5 := Tryz.sizeOf5
 v5 := Tryz.zeroValue5
 t9 := Tryz.underlying9
 a9 := Tryz.isAgg9
 z9 := Tryz.sizeOf9
 v9 := Tryz.zeroValue9
 t21 := Tryz.underlying21
 a21 := Tryz.isAgg21
 z21 := Tryz.sizeOf21
 v21 := Tryz.zeroValue21
 t31 := Tryz.underlying100
 a31 := Tryz.isAgg100
 z31 := Tryz.sizeOf100
 v31 := Tryz.zeroValue100
 t46 := Tryz.underlying165
 a46 := Tryz.isAgg165
 z46 := Tryz.sizeOf165
 v46 := Tryz.zeroValue165
 t51 := Tryz.underlying268
 a51 := Tryz.isAgg268
 z51 := Tryz.sizeOf268
 v51 := Tryz.zeroValue268
 t105 := Tryz.underlying244
 a105 := Tryz.isAgg244
 z105 := Tryz.sizeOf244
 v105 := Tryz.zeroValue244
 t119 := Tryz.underlying229
 a119 := Tryz.isAgg229
 z119 := Tryz.sizeOf229
 t138 := Tryz.underlying296
 a138 := Tryz.isAgg296
 z138 := Tryz.sizeOf296
 v138 := Tryz.zeroValue296
 t139 := Tryz.underlying297
 a139 := Tryz.isAgg297
 z139 := Tryz.sizeOf297
 v139 := Tryz.zeroValue297
 t146 := Tryz.underlying276
 a146 := Tryz.isAgg276
 z146 := Tryz.sizeOf276
 v146 := Tryz.zeroValue276
 g1 := by kernel_rfl
 g3 := by kernel_rfl
 g4 := by kernel_rfl }
open Go.RowKit Go.Lib in
/-- strings.Split. (LAID: no walk: one application.) -/
theorem Tryz.strings_Split (s sep : ByteArray) (m : Int) (w : World) (hs : s.size < 4294967281) (hm : w.cell? ⟨2, 0, none⟩ = some (.int .i64 m)) (h1 : 1 ≤ sep.size) :
  Calls Tryz.prog 57 #[.string s, .string sep] w fun e w' =>
   e = .returned (.slice (some ⟨w.heap.size, 0, none⟩) (Lib.countB s sep + 1) (Lib.countB s sep + 1)) ∧ w' = w.alloc (.cells ((Lib.splitB sep 0 (Lib.countB s sep) s).map Value.string).toArray 9) := Any.strings_Split Tryz.lays146 (by kernel_rfl) s sep m w hs hm h1
def Tryz.lays151_ren : Go.Shelf.Ren := ⟨fun | 151 => 238 | 152 => 256 | 137 => 172 | 119 => 267 | 224 => 196 | 225 => 195 | 217 => 194 | 266 => 232 | n => n, fun | 9 => 9 | 21 => 21 | 4 => 4 | 3 => 3 | 5 => 5 | 0 => 0 | 46 => 165 | n => n, fun | n => n⟩
theorem Tryz.lays151 : Go.Proofs.Lays.n151 Tryz.prog Tryz.lays151_ren := {
 mixed := by kernel_rfl
 f119 := Tryz.func267.trans (congrArg some (by kernel_rfl))
 f137 := Tryz.func172.trans (congrArg some (by kernel_rfl))
 f151 := Tryz.func238.trans (congrArg some (by kernel_rfl))
 f152 := Tryz.func256.trans (congrArg some (by kernel_rfl))
 f217 := Tryz.func194.trans (congrArg some (by kernel_rfl))
 f224 := Tryz.func196.trans (congrArg some (by kernel_rfl))
 f225 := Tryz.func195.trans (congrArg some (by kernel_rfl))
 f266 := Tryz.func232.trans (congrArg some (by kernel_rfl))
 t0 := Tryz.underlying0
 a0 := Tryz.isAgg0
 z0 := Tryz.sizeOf0
 v0 := Tryz.zeroValue0
 t3 := Tryz.underlying3
 a3 := Tryz.isAgg3
 z3 := Tryz.sizeOf3
 v3 := Tryz.zeroValue3
 t4 := Tryz.underlying4
 a4 := Tryz.isAgg4
 z4 := Tryz.sizeOf4
 v4 := Tryz.zeroValue4
 t5 := Tryz.underlying5
 a5 := Tryz.isAgg5
 z5 := Tryz.sizeOf5
 v5 := Tryz.zeroValue5
 t9 := Tryz.underlying9
 a9 := Tryz.isAgg9
 z9 := Tryz.sizeOf9
 v9 := Tryz.zeroValue9
 t21 := Tryz.underlying21
 a21 := Tryz.isAgg21
 z21 := Tryz.sizeOf21
 v21 := Tryz.zeroValue21
 t46 := Tryz.underlying165
 a46 := Tryz.isAgg165
 z46 := Tryz.sizeOf165
 v46 := Tryz.zeroValue165 }
open Go.RowKit Go.Lib in
theorem Tryz.strings_ContainsRune_ascii (s : ByteArray) (r : Int) (w : World) (h0 : 0 ≤ r) (h1 : r < 128) :
  Calls Tryz.prog 238 #[.string s, .int .i32 r] w fun e w' => e = .returned (.bool (decide (0 ≤ Lib.indexByte s.data.toList r.toNat.toUInt8))) ∧ w' = w := Any.strings_ContainsRune_ascii Tryz.lays151 s r w h0 h1
end Go.Proofs
namespace Go.Proofs.YtpdedfpacklnoaaGreatDoor.H
set_option maxRecDepth 100000
open Go.RowKit Go.BL

/-- A block whose first cells hold these bytes, none of them frozen. -/
def Row (w : World) (b : Nat) (xs : List UInt8) : Prop :=
 ∀ j (h : j < xs.length), w.cell? ⟨b, j, none⟩ = some (.int .u8 (xs[j].toNat : Int)) ∧ w.frozen? ⟨b, j, none⟩ = false
theorem Row.set {w : World} {b : Nat} {xs : List UInt8} (h : Row w b xs) (k : Nat) (hk : k < xs.length) (y : UInt8) : Row (w.setCell ⟨b, k, none⟩ (.int .u8 (y.toNat : Int))) b (xs.set k y) := by
 intro j hj
 rw [List.length_set] at hj
 rw [World.frozen?_setCell]
 refine ⟨?_, (h j hj).2⟩
 by_cases e : k = j
 ·subst e
  rw [World.cell?_setCell_same _ _ _ (h k hk).1]
  simp
 ·rw [World.cell?_setCell_other _ _ _ _ (by intro h'; injection h' with _ h'; exact e h'), (h j hj).1]
  simp [List.getElem_set_ne e]
theorem conv_in (s : List UInt8) (w : World) : ∃ w1 c, (convert 9 75 (.string ⟨s.toArray⟩)).run Tryz.prog w = .ok (.slice (some ⟨w.heap.size, 0, none⟩) s.length c) w1 ∧ Row w1 w.heap.size s ∧ Below w.heap.size w w1 ∧ w.heap.size < w1.heap.size := by
 refine ⟨Lib.bytesWorld w 5 ⟨s.toArray⟩, _, Lib.run_convert_string_bytes w 9 75 5 ⟨s.toArray⟩ Tryz.underlying9 Tryz.underlying75 Tryz.underlying5, fun j hj => ⟨?_, ?_⟩, Lib.bytesWorld_below w 5 _, by rw [Lib.bytesWorld_size]; omega⟩
 ·rw [Lib.bytesWorld_cell w 5 ⟨s.toArray⟩ j hj]
  simp [List.getD, hj]
 ·unfold World.frozen?
  rw [Lib.bytesWorld_at_new]
  have : s.length ≤ (Lib.bytesCells w 5 ⟨s.toArray⟩).size := by simp [Lib.bytesCells]
  simp
  omega
theorem Row.out {w : World} {b : Nat} {xs : List UInt8} (h : Row w b xs) (n c : Nat) (hn : n = xs.length) : (convert 75 9 (.slice (some ⟨b, 0, none⟩) n c)).run Tryz.prog w = .ok (.string ⟨xs.toArray⟩) w := by
 subst hn
 exact run_convert_bytes_back (P := Tryz.prog) _ 75 9 5 ⟨b, 0, none⟩ c xs Tryz.underlying75 Tryz.underlying5 Tryz.underlying9 (fun j hj => by rw [add_none, Nat.zero_add]; exact (h j hj).1)

def low (c : UInt8) : UInt8 := if cap c then c + 32 else c
def smallL (s : List UInt8) : List UInt8 := s.map low
theorem low_cap {c : UInt8} (h : cap c = true) : IntKind.u8.wrap ((c.toNat : Int) + 32) = ((low c).toNat : Int) := by
 simp [cap] at h
 have e : low c = c + 32 := by unfold low; rw [if_pos (by simp [cap]; omega)]
 rw [e, UInt8.toNat_add]
 simp [IntKind.wrap, IntKind.signed, IntKind.bits]
theorem low_not {c : UInt8} (h : cap c = false) : low c = c := by unfold low; rw [h]; rfl
/-- So far in small letters. -/
def upto (s : List UInt8) (k : Nat) : List UInt8 := (s.take k).map low ++ s.drop k
theorem upto_len (s : List UInt8) (k : Nat) (hk : k ≤ s.length) : (upto s k).length = s.length := by simp [upto]; omega
theorem upto_get (s : List UInt8) (k : Nat) (hk : k < s.length) (h : k < (upto s k).length) : (upto s k)[k] = s[k] := by
 simp [upto, Nat.min_eq_left (Nat.le_of_lt hk)]
theorem upto_next (s : List UInt8) (k : Nat) (hk : k < s.length) : (upto s k).set k (low s[k]) = upto s (k + 1) := by
 have e1 : ((s.take k).map low).length = k := by simp; omega
 unfold upto
 rw [List.set_append, if_neg (by omega), e1, Nat.sub_self, List.drop_eq_getElem_cons hk, List.set_cons_zero, List.take_succ_eq_append_getElem hk]
 rw [List.map_append, List.append_assoc]; rfl
theorem upto_end (s : List UInt8) (k : Nat) (hk : s.length ≤ k) : upto s k = smallL s := by
 unfold upto smallL
 rw [List.take_of_length_le hk, List.drop_of_length_le hk, List.append_nil]

set_option maxRecDepth 100000 in
theorem small_any (s : List UInt8) (hs : s.length ≤ 140737488355328) (w : World) : Calls Tryz.prog 129 #[.string ⟨s.toArray⟩] w (RetV (.string ⟨(smallL s).toArray⟩) w) := by
 obtain ⟨w1, c, hc, hr, hb, hsz⟩ := conv_in s w
 obtain ⟨b, hb0⟩ : ∃ b, w.heap.size = b := ⟨_, rfl⟩
 rw [hb0] at hc hr hb hsz
 have H0 := Lib.hid hb0
 have HR := Lib.hid hr
 have HB := Lib.hid hb
 have HS := Lib.hid hsz
 clear hb0 hr hb hsz
 go_enter Tryz.func129, Tryz.ntmps129
 go_wp2_with fail
 go_loopw [10] (fun i wr => ∃ k : Nat, k ≤ s.length ∧ i = .int .i64 (k : Int) ∧ Hid (Row wr b (upto s k)) ∧ Hid (Below b w wr) ∧ Hid (b < wr.heap.size)) (fun i _ => s.length - (intOf i).toNat)
 case atStart => exact ⟨0, by omega, rfl, HR, HB, HS⟩
 case round =>
  obtain ⟨k, hk, rfl, HRk, HBk, HSk⟩ := hrel
  have Hlen := Lib.hid (upto_len s k hk)
  by_cases hlt : k < s.length
  ·obtain ⟨x, hx⟩ : ∃ x, s[k]'hlt = x := ⟨_, rfl⟩
   have h1 := HRk.out k (by rw [Hlen.out]; exact hlt)
   rw [upto_get s k hlt (by rw [Hlen.out]; exact hlt), hx] at h1
   obtain ⟨hc1, hf1⟩ := h1
   obtain ⟨u, hu⟩ : ∃ u, cap x = u := ⟨_, rfl⟩
   have hcap := capital_any x
   rw [hu] at hcap
   have Hx := Lib.hid hx
   cases u
   ·have Hn : Hid (upto s k = upto s (k + 1)) := Lib.hid (by
     rw [← upto_next s k hlt, Hx.out, low_not hu]
     have : x = (upto s k)[k]'(by rw [Hlen.out]; exact hlt) := by rw [upto_get s k hlt, Hx.out]
     conv => rhs; rw [this]
     exact (List.set_getElem_self _).symm)
    clear hu hx
    go_wp2_with (go_at_call 171; refine (hcap _).mono ?_; rintro e w' ⟨rfl, rfl⟩)
    exact ⟨⟨k + 1, by omega, by go_num, by rw [← Hn.out]; exact HRk, HBk, HSk⟩, by simp [intOf]; omega⟩
   ·have hw := low_cap hu
    obtain ⟨y, hy⟩ : ∃ y, low x = y := ⟨_, rfl⟩
    rw [hy] at hw
    have Hn : Hid ((upto s k).set k y = upto s (k + 1)) := Lib.hid (by rw [← upto_next s k hlt, Hx.out, hy])
    clear hu hx hy
    go_wp2_with (go_at_call 171; refine (hcap _).mono ?_; rintro e w' ⟨rfl, rfl⟩)
    exact ⟨⟨k + 1, by omega, by go_num, by rw [← Hn.out]; exact Lib.hid (HRk.out.set k (by rw [Hlen.out]; exact hlt) y), Lib.hid (HBk.out.setCell (Nat.le_refl _) _), Lib.hid (by simpa using HSk.out)⟩, by simp [intOf]; omega⟩
  ·have hout := HRk.out.out s.length c Hlen.out.symm
   rw [upto_end s k (by omega)] at hout
   go_wp2_with fail
   go_ret
   exact ⟨rfl, by rw [H0.out]; exact HBk.out⟩

def marks : List UInt8 := [33, 35, 36, 37, 38, 39, 42, 43, 45, 46, 94, 95, 96, 124, 126]
def tokb (c : UInt8) : Bool := dig c || cap c || (decide (97 ≤ c.toNat) && decide (c.toNat ≤ 122)) || decide (0 ≤ Lib.indexByte marks c)
def tokenL (s : List UInt8) : Bool := decide (s ≠ []) && decide (s.length ≤ 64) && s.all tokb
theorem mark_any (c : UInt8) (w : World) : Calls Tryz.prog 172 #[.string ⟨#[33, 35, 36, 37, 38, 39, 42, 43, 45, 46, 94, 95, 96, 124, 126]⟩, .int .u8 (c.toNat : Int)] w fun e w' => e = .returned (.int .i64 (Lib.indexByte marks c)) ∧ w = w' := by
 have h := Tryz.strings_IndexByte ⟨#[33, 35, 36, 37, 38, 39, 42, 43, 45, 46, 94, 95, 96, 124, 126]⟩ (c.toNat : Int) w
 have e : ((c.toNat : Int)).toNat.toUInt8 = c := by simp
 rw [e] at h
 exact h.mono fun _ _ ⟨a, b⟩ => ⟨a, b.symm⟩
def blanks : List UInt8 := [32, 9]
def trimL (s : List UInt8) : List UInt8 := Lib.trimS s blanks
def valueL (s : List UInt8) : Bool := decide (s.length ≤ 32768) && decide (trimL s = s) && s.all vab
theorem trim_any (l : List UInt8) (hl : l.length ≤ 9223372036854775807) (w : World) :
  Calls Tryz.prog 154 #[.string ⟨l.toArray⟩, .string ⟨#[32, 9]⟩] w (RetV (.string ⟨(trimL l).toArray⟩) w) :=
 Any.strings_Trim_laid Tryz.lays160 (by kernel_rfl) ⟨l.toArray⟩ ⟨#[32, 9]⟩ w hl (by decide) (ascii_of_all (by decide))
end Go.Proofs.YtpdedfpacklnoaaGreatDoor.H
namespace Go.Proofs.YtpdedfpacklnoaaGreatDoor.H
set_option maxRecDepth 100000
open Go.RowKit Go.BL

/-- The cell of the library's variable MaxLen holds some number. -/
def Env (w : World) : Prop := ∃ m, w.cell? ⟨2, 0, none⟩ = some (.int .i64 m)
theorem Env.below {w w' : World} (h : Env w) (hb : Below w.heap.size w w') : Env w' := by
 obtain ⟨m, hm⟩ := h
 exact ⟨m, (hb.cell (lt_block hm)).trans hm⟩
theorem drewN_below (w : World) : ∀ n, Below w.heap.size w (w.drewN n)
 | 0 => Below.refl _ _
 | n + 1 => (drewN_below w n).drew
def cutL (s sep : List UInt8) : List UInt8 × List UInt8 × Bool := Lib.cut s sep
theorem cut_any (s sep : List UInt8) (hs : s.length < 4294967281) (w : World) (he : Env w) :
  Calls Tryz.prog 56 #[.string ⟨s.toArray⟩, .string ⟨sep.toArray⟩] w (RetV (.tuple #[.string ⟨(cutL s sep).1.toArray⟩, .string ⟨(cutL s sep).2.1.toArray⟩, .bool (cutL s sep).2.2]) w) := by
 obtain ⟨m, hm⟩ := he
 refine (Tryz.strings_Cut ⟨s.toArray⟩ ⟨sep.toArray⟩ m w hs hm).mono ?_
 rintro e w' ⟨rfl, n, rfl⟩
 exact ⟨rfl, drewN_below w n⟩
theorem below_alloc {w w' : World} {o : Obj} (h : Below (w.alloc o).heap.size (w.alloc o) w') : Below w.heap.size w w' := ((Below.refl _ _).alloc (Nat.le_refl _) o).trans (h.mono (by simp))
theorem box2 {w w' : World} {x y : Value} {t : TypeId} (h : Below (w.alloc (.cells #[x, y] t)).heap.size (w.alloc (.cells #[x, y] t)) w') :
  (w'.cell? ⟨w.heap.size, 0, none⟩ = some x ∧ w'.cell? ⟨w.heap.size, 1, none⟩ = some y) ∧ w'.frozen? ⟨w.heap.size, 0, none⟩ = false ∧ w'.frozen? ⟨w.heap.size, 1, none⟩ = false := by
 have hlt : ∀ k, (⟨w.heap.size, k, none⟩ : Addr).block < (w.alloc (.cells #[x, y] t)).heap.size := by intro k; simp
 rw [h.cell (hlt 0), h.cell (hlt 1), h.frozen (hlt 0), h.frozen (hlt 1)]
 refine ⟨⟨?_, ?_⟩, ?_, ?_⟩
 ·rw [World.cell?_alloc_at _ _ _ _ rfl]; rfl
 ·rw [World.cell?_alloc_at _ _ _ _ rfl]; rfl
 ·exact World.frozen?_alloc_new w _ t 0
 ·exact World.frozen?_alloc_new w _ t 1
end Go.Proofs.YtpdedfpacklnoaaGreatDoor.H
namespace Go.Proofs.YtpdedfpacklnoaaGreatDoor.H
set_option maxRecDepth 100000
open Go.RowKit Go.BL

abbrev Hdr := List UInt8 × List UInt8
/-- The value is a slice that reads as these headers. -/
def Hdrs (w : World) (v : Value) (hs : List Hdr) : Prop :=
 hs.length ≤ 4611686018427387903 ∧ ∃ A c, v = .slice A hs.length c ∧ (0 < hs.length → ∃ b off, A = some ⟨b, off, none⟩ ∧ b < w.heap.size ∧
  ∀ i (h : i < hs.length), w.cell? ⟨b, off + i * 2, none⟩ = some (.string ⟨hs[i].1.toArray⟩) ∧ w.cell? ⟨b, off + i * 2 + 1, none⟩ = some (.string ⟨hs[i].2.toArray⟩))
theorem Hdrs.below {w w' : World} {v : Value} {hs : List Hdr} {B : Nat} (h : Hdrs w v hs) (hb : Below B w w') (hB : w.heap.size ≤ B) : Hdrs w' v hs := by
 obtain ⟨h0, A, c, rfl, h1⟩ := h
 refine ⟨h0, A, c, rfl, fun hn => ?_⟩
 obtain ⟨b, off, rfl, hlt, hc⟩ := h1 hn
 exact ⟨b, off, rfl, Nat.lt_of_lt_of_le hlt hb.size, fun i hi => ⟨(hb.cell (show b < B by omega)).trans (hc i hi).1, (hb.cell (show b < B by omega)).trans (hc i hi).2⟩⟩
end Go.Proofs.YtpdedfpacklnoaaGreatDoor.H
namespace Go.Proofs.YtpdedfpacklnoaaGreatDoor.H
set_option maxRecDepth 100000
open Go.RowKit Go.BL

/-- A text's parts between the places of another. -/
def lns (s sep : List UInt8) : List (List UInt8) := (Lib.splitB ⟨sep.toArray⟩ 0 (Lib.countB ⟨s.toArray⟩ ⟨sep.toArray⟩) ⟨s.toArray⟩).map fun b => b.data.toList
def strs (l : List (List UInt8)) : Array Value := (l.map fun x => Value.string ⟨x.toArray⟩).toArray
theorem split_any (s sep : List UInt8) (h1 : 1 ≤ sep.length) (hs : s.length < 4294967281) (w : World) (he : Env w) :
  Calls Tryz.prog 57 #[.string ⟨s.toArray⟩, .string ⟨sep.toArray⟩] w fun e w' => e = .returned (.slice (some ⟨w.heap.size, 0, none⟩) (lns s sep).length (lns s sep).length) ∧ w.alloc (.cells (strs (lns s sep)) 9) = w' := by
 obtain ⟨m, hm⟩ := he
 refine (Tryz.strings_Split ⟨s.toArray⟩ ⟨sep.toArray⟩ m w hs hm h1).mono ?_
 have hl := Lib.splitB_all ⟨sep.toArray⟩ h1 0 _ ⟨s.toArray⟩ rfl
 rintro e w' ⟨rfl, rfl⟩
 have e1 : (lns s sep).length = Lib.countB ⟨s.toArray⟩ ⟨sep.toArray⟩ + 1 := by unfold lns; rw [List.length_map, hl]
 rw [e1]
 refine ⟨rfl, ?_⟩
 unfold strs lns
 rw [List.map_map]
 rfl
theorem lns_eq (s sep : List UInt8) : lns s sep = Lib.splitK sep 0 (Lib.countB ⟨s.toArray⟩ ⟨sep.toArray⟩) s := by
 unfold lns
 exact Lib.splitB_data _ _ _ _
theorem below_drewN {B : Nat} {a w : World} (h : Below B a w) : ∀ n, Below B a (w.drewN n)
 | 0 => h
 | n + 1 => (below_drewN h n).drew
end Go.Proofs.YtpdedfpacklnoaaGreatDoor.H
namespace Go.Proofs.YtpdedfpacklnoaaGreatDoor.H
set_option maxRecDepth 100000

theorem lns_miss {s sep : List UInt8} (h : Lib.index s sep = -1) : lns s sep = [s] := by
 rw [lns_eq, Lib.countB_miss ⟨s.toArray⟩ ⟨sep.toArray⟩ h]
 rfl
theorem lns_hit {s sep : List UInt8} {i : Nat} (h1 : 1 ≤ sep.length) (h : Lib.index s sep = i) : lns s sep = s.take i :: lns (s.drop (i + sep.length)) sep := by
 have hc : Lib.count s sep = 1 + Lib.count (s.drop (i + sep.length)) sep := Lib.count_hit (fun e => by subst e; simp at h1) h
 have hne : ¬ ((Lib.index s sep == -1) = true) := by rw [h, beq_iff_eq]; omega
 rw [lns_eq, lns_eq]
 show Lib.splitK sep 0 (Lib.count s sep) s = s.take i :: Lib.splitK sep 0 (Lib.count (s.drop (i + sep.length)) sep) (s.drop (i + sep.length))
 rw [hc, Nat.add_comm 1, Lib.splitK, if_neg hne, h]
 simp
theorem index_cons (x : UInt8) (t sub : List UInt8) : Lib.index (x :: t) sub = if sub.isPrefixOf (x :: t) then 0 else if Lib.index t sub == -1 then -1 else Lib.index t sub + 1 := rfl
end Go.Proofs.YtpdedfpacklnoaaGreatDoor.H
namespace Go.Proofs.YtpdedfpacklnoaaGreatDoor.H
set_option maxRecDepth 100000
open Go.RowKit Go.BL

/-- Headers as cells. -/
def hv : List Hdr → List Value
 | [] => []
 | h :: r => .string ⟨h.1.toArray⟩ :: .string ⟨h.2.toArray⟩ :: hv r
theorem hv_len : ∀ hs : List Hdr, (hv hs).length = hs.length * 2
 | [] => rfl
 | h :: r => by simp only [hv, List.length_cons, hv_len r]; omega
theorem hv_at : ∀ (hs : List Hdr) (i : Nat) (h : i < hs.length), (hv hs)[i * 2]? = some (.string ⟨hs[i].1.toArray⟩) ∧ (hv hs)[i * 2 + 1]? = some (.string ⟨hs[i].2.toArray⟩)
 | [], i, h => absurd h (Nat.not_lt_zero _)
 | x :: r, 0, _ => ⟨rfl, rfl⟩
 | x :: r, i + 1, h => by
  have := hv_at r i (by simpa using h)
  have e : (i + 1) * 2 = i * 2 + 1 + 1 := by omega
  rw [e]
  simpa [hv] using this
/-- The value is a row of the call's own (behind base) that holds these headers. -/
def OwnH (w : World) (B : Nat) (v : Value) (hs : List Hdr) : Prop := w.ownsRow B 45 2 v hs.length (hv hs)
theorem OwnH.nil (w : World) (B : Nat) : OwnH w B (.slice none 0 0) [] := ⟨rfl, .inl ⟨rfl, rfl⟩⟩
/-- A store into another block. -/
theorem OwnH.setCell {w : World} {B : Nat} {v : Value} {hs : List Hdr} (h : OwnH w B v hs) {p : Addr} (hp : p.block < B) (u : Value) : OwnH (w.setCell p u) B v hs := by
 refine ⟨h.1, ?_⟩
 rcases h.2 with h0 | ⟨g, cap, cur, hv, hg, hh, r⟩
 ·exact .inl h0
 ·exact .inr ⟨g, cap, cur, hv, hg, (Below.heap_setCell w p u g (by omega)).trans hh, r⟩
theorem info_parts {P : Program} {e : TypeId} {z : Value} {n b : Nat} (h : (P.info? e).map (fun i => (i.zero, i.size, i.bytes)) = some (some z, n, b)) : ∃ i, P.info? e = some i ∧ i.zero = some z ∧ i.size = n ∧ i.bytes = b := by
 cases hi : P.info? e with
 | none => rw [hi] at h; cases h
 | some i =>
  rw [hi] at h
  simp only [Option.map_some, Option.some.injEq, Prod.mk.injEq] at h
  exact ⟨i, rfl, h.1, h.2.1, h.2.2⟩
end Go.Proofs.YtpdedfpacklnoaaGreatDoor.H
namespace Go.Proofs.YtpdedfpacklnoaaGreatDoor.H
set_option maxRecDepth 100000
open Go.RowKit Go.BL

/-- The value is a slice that reads as these bytes. -/
def Bsl (w : World) (v : Value) (b : List UInt8) : Prop :=
 b.length ≤ 4294967280 ∧ ((∃ A c, v = .slice A 0 c ∧ b = [] ∧ (A = none → c = 0)) ∨ ∃ blk off c, v = .slice (some ⟨blk, off, none⟩) b.length c ∧ b.length ≤ c ∧ blk < w.heap.size ∧ ∀ j (h : j < b.length), w.cell? ⟨blk, off + j, none⟩ = some (.int .u8 (b[j].toNat : Int)))
theorem conv_some (w : World) (blk off n c : Nat) (l : List UInt8) (hn : n = l.length) (h : ∀ j (h : j < l.length), w.cell? ⟨blk, off + j, none⟩ = some (.int .u8 (l[j].toNat : Int))) :
  (convert 75 9 (.slice (some ⟨blk, off, none⟩) n c)).run Tryz.prog w = .ok (.string ⟨l.toArray⟩) w := by
 subst hn
 exact run_convert_bytes_back (P := Tryz.prog) _ 75 9 5 ⟨blk, off, none⟩ c l Tryz.underlying75 Tryz.underlying5 Tryz.underlying9 (fun j hj => by rw [add_none]; exact h j hj)
theorem conv_zero (w : World) (A : Option Addr) (c : Nat) : (convert 75 9 (.slice A 0 c)).run Tryz.prog w = .ok (.string ⟨#[]⟩) w := by
 cases A with
 | none => exact run_convert_bytes_nil w 75 5 Tryz.underlying75 Tryz.underlying5 0 c 9 Tryz.underlying9
 | some a => exact run_convert_bytes_back (P := Tryz.prog) w 75 9 5 a c [] Tryz.underlying75 Tryz.underlying5 Tryz.underlying9 (fun j hj => absurd hj (Nat.not_lt_zero _))
/-- The cells of a row of texts. -/
def LC (w : World) (g : Nat) (ls : List (List UInt8)) : Prop := ∀ k (h : k < ls.length), w.cell? ⟨g, k, none⟩ = some (.string ⟨ls[k].toArray⟩)
theorem LC.new (w : World) (ls : List (List UInt8)) : LC (w.alloc (.cells (strs ls) 9)) w.heap.size ls := by
 intro k h
 rw [World.cell?_alloc_at _ _ _ _ rfl]
 simp [strs, h]
theorem LC.setCell {w : World} {g : Nat} {ls : List (List UInt8)} (h : LC w g ls) {p : Addr} (hp : p.block ≠ g) (u : Value) : LC (w.setCell p u) g ls := fun k hk =>
 (World.cell?_setCell_other _ _ _ _ (fun e => hp (by rw [e]))).trans (h k hk)
end Go.Proofs.YtpdedfpacklnoaaGreatDoor.H
namespace Go.Proofs.YtpdedfpacklnoaaGreatDoor.H
set_option maxRecDepth 100000

def bla (c : UInt8) : Bool := decide (c.toNat = 32) || decide (c.toNat = 9)
theorem ext_mid (s : List UInt8) (i j : Nat) : (⟨s.toArray⟩ : ByteArray).extract i j = ⟨((s.drop i).take (j - i)).toArray⟩ := by
 apply ByteArray.ext
 simp
end Go.Proofs.YtpdedfpacklnoaaGreatDoor.H
namespace Go.Proofs.YtpdedfpacklnoaaGreatDoor.H
set_option maxRecDepth 100000
open Go.RowKit Go.BL

theorem info5 : (Tryz.prog.info? 5).map (fun i => (i.zero, i.size, i.bytes)) = some (some (.int .u8 0), 1, 1) := by kernel_rfl

def nats (b : List UInt8) : List Nat := b.map UInt8.toNat
end Go.Proofs.YtpdedfpacklnoaaGreatDoor.H
namespace Go.Proofs.YtpdedfpacklnoaaGreatDoor.H
set_option maxRecDepth 100000
open Go.RowKit Go.BL

def hit (name : List UInt8) (h : Hdr) : Bool := smallL h.1 == smallL name
def findL (hs : List Hdr) (name : List UInt8) : Option (List UInt8) := (hs.find? (hit name)).map (·.2)
def findV (r : Option (List UInt8)) : Value := .tuple #[.string ⟨(r.getD []).toArray⟩, .bool r.isSome]
theorem find_take {hs : List Hdr} {name : List UInt8} {k : Nat} (h : ∀ x ∈ hs.take k, hit name x = false) (hk : k < hs.length) (hx : hit name hs[k] = true) : findL hs name = some hs[k].2 := by
 have e : hs = hs.take k ++ hs[k] :: hs.drop (k + 1) := by rw [List.getElem_cons_drop hk]; exact (List.take_append_drop k hs).symm
 unfold findL
 conv => lhs; rw [e]
 rw [List.find?_append, List.find?_eq_none.2 (fun x hx => by rw [h x hx]; decide)]
 simp only [Option.none_or, List.find?_cons, hx, Option.map_some]
theorem find_none {hs : List Hdr} {name : List UInt8} (h : ∀ x ∈ hs, hit name x = false) : findL hs name = none := by
 unfold findL
 rw [List.find?_eq_none.2 (fun x hx => by rw [h x hx]; decide)]
 rfl
set_option maxHeartbeats 1000000 in
set_option maxRecDepth 100000 in
theorem find_any (hs : List Hdr) (name : List UInt8) (v : Value) (w : World) (hv : Hdrs w v hs) (hn : name.length ≤ 140737488355328) (hl : ∀ h ∈ hs, h.1.length ≤ 140737488355328) :
  Calls Tryz.prog 83 #[v, .string ⟨name.toArray⟩] w (RetV (findV (findL hs name)) w) := by
 obtain ⟨hmax, A, c, rfl, hcells⟩ := hv
 have hs1 := small_any name hn
 have HL := Lib.hid hl
 have HC := Lib.hid hcells
 clear hcells hl hn
 go_enter Tryz.func83, Tryz.ntmps83
 go_wp2_with fail
 go_loopw [10] (fun i wr => ∃ k : Nat, k ≤ hs.length ∧ i = .int .i64 (k : Int) ∧ Hid (∀ x ∈ hs.take k, hit name x = false) ∧ Hid (Below w.heap.size w wr)) (fun i _ => hs.length - (intOf i).toNat)
 case atStart => exact ⟨0, by omega, rfl, Lib.hid (fun x hx => by simp at hx), Lib.hid (Below.refl _ _)⟩
 case round =>
  obtain ⟨k, hk, rfl, HA, HB⟩ := hrel
  by_cases hlt : k < hs.length
  ·obtain ⟨b, off, rfl, hbl, hc⟩ := HC.out (by omega)
   obtain ⟨c1, c2⟩ := hc k hlt
   obtain ⟨⟨n, x⟩, hx⟩ : ∃ x, hs[k]'hlt = x := ⟨_, rfl⟩
   rw [hx] at c1 c2
   have d1 := (HB.out.cell (p := ⟨b, off + k * 2, none⟩) hbl).trans c1
   have d2 := (HB.out.cell (p := ⟨b, off + k * 2 + 1, none⟩) hbl).trans c2
   have hs2 := small_any n (HL.out (n, x) (by rw [← hx]; exact List.getElem_mem hlt))
   have HX := Lib.hid hx
   clear hx hc c1 c2
   obtain ⟨u1, hu1⟩ : ∃ u, smallL n = u := ⟨_, rfl⟩
   obtain ⟨u2, hu2⟩ : ∃ u, smallL name = u := ⟨_, rfl⟩
   rw [hu1] at hs2
   rw [hu2] at hs1
   have HU : Hid (hit name (n, x) = (u1 == u2)) := Lib.hid (by unfold hit; rw [hu1, hu2])
   clear hu1 hu2
   obtain ⟨q, hq⟩ : ∃ q, (u1 == u2) = q := ⟨_, rfl⟩
   have TW : Hid (Below w.heap.size w (wr.alloc (.cells #[.string ⟨n.toArray⟩, .string ⟨x.toArray⟩] 45))) := Lib.hid (HB.out.alloc HB.out.size _)
   have HQ := Lib.hid hq
   have hq' := hq
   clear hq
   cases q
   ·have HA2 : Hid (∀ y ∈ hs.take (k + 1), hit name y = false) := Lib.hid (by
     intro y hy
     rw [List.take_succ_eq_append_getElem hlt, List.mem_append, List.mem_singleton] at hy
     rcases hy with hy | rfl
     ·exact HA.out y hy
     ·rw [HX.out, HU.out, HQ.out])
    go_wp2_with fail
    go_at_call 129
    refine (hs2 _).mono ?_
    rintro e w3 ⟨rfl, hb⟩
    have HB3 := Lib.hid (TW.out.trans (hb.mono TW.out.size))
    clear hb
    go_wp2_with fail
    go_at_call 129
    refine (hs1 _).mono ?_
    rintro e w4 ⟨rfl, hb⟩
    have HB4 := Lib.hid (HB3.out.trans (hb.mono HB3.out.size))
    clear hb
    go_wp2_with fail
    exact ⟨⟨k + 1, by omega, by go_num, HA2, HB4⟩, by simp [intOf]; omega⟩
   ·have HF : Hid (findL hs name = some x) := Lib.hid (by
     have := find_take HA.out hlt (by rw [HX.out, HU.out, HQ.out])
     rw [this, HX.out])
    go_wp2_with fail
    go_at_call 129
    refine (hs2 _).mono ?_
    rintro e w3 ⟨rfl, hb⟩
    have HB3 := Lib.hid (TW.out.trans (hb.mono TW.out.size))
    obtain ⟨⟨q0, q1⟩, -, -⟩ := box2 hb
    have HS3 := Lib.hid hb.size
    clear hb
    go_wp2_with fail
    go_at_call 129
    refine (hs1 _).mono ?_
    rintro e w4 ⟨rfl, hb⟩
    have HB4 := Lib.hid (HB3.out.trans (hb.mono HB3.out.size))
    have q2 : w4.cell? ⟨wr.heap.size, 1, none⟩ = some (.string ⟨x.toArray⟩) := (hb.cell (show wr.heap.size < w3.heap.size by have := HS3.out; simp at this; omega)).trans q1
    clear hb
    go_wp2_with fail
    go_ret2
    exact ⟨by rw [HF.out]; rfl, HB4.out⟩
  ·have HF : Hid (findL hs name = none) := Lib.hid (find_none (by have := HA.out; rwa [List.take_of_length_le (by omega)] at this))
   go_wp2_with fail
   go_ret2
   exact ⟨by rw [HF.out]; rfl, HB.out⟩

theorem take_diff {a b : List Hdr} {k : Nat} (ha : k < a.length) (hb : k < b.length) (h : a[k] ≠ b[k]) : ¬ a = b := fun e => h (by subst e; rfl)
set_option maxHeartbeats 1000000 in
set_option maxRecDepth 100000 in
theorem sameH_any (a b : List Hdr) (v u : Value) (w : World) (hv : Hdrs w v a) (hu : Hdrs w u b) : Calls Tryz.prog 52 #[v, u] w (RetV (.bool (decide (a = b))) w) := by
 obtain ⟨hmax, A, c, rfl, hca⟩ := hv
 obtain ⟨hmax', D, d, rfl, hcb⟩ := hu
 have HA := Lib.hid hca
 have HD := Lib.hid hcb
 clear hca hcb
 by_cases hl : a.length = b.length
 case neg =>
  have HF : Hid (decide (a = b) = false) := Lib.hid (decide_eq_false (fun e => hl (by rw [e])))
  have hne : ((a.length : Int) != (b.length : Int)) = true := bne_iff_ne.2 (by omega)
  go_enter Tryz.func52, Tryz.ntmps52
  go_wp2_with fail
  go_ret
  exact ⟨by rw [HF.out]; rfl, Below.refl _ _⟩
 have hne : ((a.length : Int) != (b.length : Int)) = false := by rw [bne_eq_false_iff_eq]; omega
 go_enter Tryz.func52, Tryz.ntmps52
 go_wp2_with fail
 go_loopw [5] (fun i wr => ∃ k N : Nat, k ≤ a.length ∧ i = .int .i64 (k : Int) ∧ wr = w.drewN N ∧ Hid (a.take k = b.take k)) (fun i _ => a.length - (intOf i).toNat)
 case atStart => exact ⟨0, 0, by omega, rfl, rfl, Lib.hid rfl⟩
 case round =>
  obtain ⟨k, N, hk, rfl, rfl, HT⟩ := hrel
  by_cases hlt : k < a.length
  ·have hlt' : k < b.length := by omega
   obtain ⟨b1, o1, rfl, _, hc1⟩ := HA.out (by omega)
   obtain ⟨b2, o2, rfl, _, hc2⟩ := HD.out (by omega)
   obtain ⟨x1, x2⟩ := hc1 k hlt
   obtain ⟨y1, y2⟩ := hc2 k hlt'
   have hlt2 : (k : Int) < (b.length : Int) := by omega
   by_cases hxy : a[k] = b[k]
   ·have HT2 : Hid (a.take (k + 1) = b.take (k + 1)) := Lib.hid (by
     rw [List.take_succ_eq_append_getElem hlt, List.take_succ_eq_append_getElem hlt', HT.out, hxy])
    rw [hxy] at x1 x2
    generalize b[k] = z at *
    obtain ⟨n, v⟩ := z
    simp only at x1 x2 y1 y2
    clear hxy hc1 hc2
    go_wp2_with fail
    go_quiet (fail)
    go_wp2_with fail
    exact ⟨⟨k + 1, _, by omega, by go_num, rfl, HT2⟩, by simp [intOf]; omega⟩
   ·have HF : Hid (decide (a = b) = false) := Lib.hid (decide_eq_false (take_diff hlt hlt' hxy))
    generalize a[k] = z at *
    generalize b[k] = y at *
    obtain ⟨n, v⟩ := z
    obtain ⟨n', v'⟩ := y
    simp only at x1 x2 y1 y2
    clear hc1 hc2
    by_cases hn : n = n'
    ·subst hn
     have hv : (v == v') = false := beq_false_of_ne (fun e => hxy (by rw [e]))
     clear hxy
     go_wp2_with fail
     go_quiet (fail)
     go_wp2_with fail
     go_ret
     exact ⟨by rw [HF.out]; rfl, below_drewN (drewN_below w N) _⟩
    ·have hn' : (n == n') = false := beq_false_of_ne hn
     clear hxy hn
     go_wp2_with fail
     go_quiet (fail)
     go_wp2_with fail
     go_ret
     exact ⟨by rw [HF.out]; rfl, below_drewN (drewN_below w N) _⟩
  ·have HF : Hid (decide (a = b) = true) := Lib.hid (decide_eq_true (by have := HT.out; rwa [List.take_of_length_le (by omega), List.take_of_length_le (by omega)] at this))
   go_wp2_with fail
   go_ret
   exact ⟨by rw [HF.out]; rfl, drewN_below w N⟩

theorem Hdrs.alloc {w : World} {v : Value} {hs : List Hdr} (h : Hdrs w v hs) (o : Obj) : Hdrs (w.alloc o) v hs := h.below ((Below.refl _ _).alloc (Nat.le_refl _) o) (Nat.le_refl _)
end Go.Proofs.YtpdedfpacklnoaaGreatDoor.H
namespace Go.Proofs.YtpdedfpacklnoaaGreatDoor.H
set_option maxRecDepth 100000
open Go.RowKit Go.BL

def reasonL (n : Int) : List UInt8 :=
 if n = 200 then [79, 75] else
 if n = 400 then [66, 97, 100, 32, 82, 101, 113, 117, 101, 115, 116] else
 if n = 404 then [78, 111, 116, 32, 70, 111, 117, 110, 100] else
 if n = 405 then [77, 101, 116, 104, 111, 100, 32, 78, 111, 116, 32, 65, 108, 108, 111, 119, 101, 100] else
 if n = 413 then [67, 111, 110, 116, 101, 110, 116, 32, 84, 111, 111, 32, 76, 97, 114, 103, 101] else
 if n = 414 then [85, 82, 73, 32, 84, 111, 111, 32, 76, 111, 110, 103] else
 if n = 431 then [82, 101, 113, 117, 101, 115, 116, 32, 72, 101, 97, 100, 101, 114, 32, 70, 105, 101, 108, 100, 115, 32, 84, 111, 111, 32, 76, 97, 114, 103, 101] else
 if n = 500 then [73, 110, 116, 101, 114, 110, 97, 108, 32, 83, 101, 114, 118, 101, 114, 32, 69, 114, 114, 111, 114] else
 if n = 501 then [78, 111, 116, 32, 73, 109, 112, 108, 101, 109, 101, 110, 116, 101, 100] else
 if n = 503 then [83, 101, 114, 118, 105, 99, 101, 32, 85, 110, 97, 118, 97, 105, 108, 97, 98, 108, 101] else
 if n = 504 then [71, 97, 116, 101, 119, 97, 121, 32, 84, 105, 109, 101, 111, 117, 116] else
 if n = 505 then [72, 84, 84, 80, 32, 86, 101, 114, 115, 105, 111, 110, 32, 78, 111, 116, 32, 83, 117, 112, 112, 111, 114, 116, 101, 100] else
 if n = 507 then [73, 110, 115, 117, 102, 102, 105, 99, 105, 101, 110, 116, 32, 83, 116, 111, 114, 97, 103, 101] else
 []
set_option maxHeartbeats 4000000 in
set_option maxRecDepth 100000 in
theorem reason_any (n : Int) (w : World) : Calls Tryz.prog 72 #[.int .i64 n] w fun e w' => e = .returned (.string ⟨(reasonL n).toArray⟩) ∧ w = w' := by
 by_cases h0 : n = 200
 ·subst h0
  go_enter Tryz.func72, Tryz.ntmps72
  go_wp2_with fail
  go_ret
  exact ⟨rfl, rfl⟩
 by_cases h1 : n = 400
 ·subst h1
  go_enter Tryz.func72, Tryz.ntmps72
  go_wp2_with fail
  go_ret
  exact ⟨rfl, rfl⟩
 by_cases h2 : n = 404
 ·subst h2
  go_enter Tryz.func72, Tryz.ntmps72
  go_wp2_with fail
  go_ret
  exact ⟨rfl, rfl⟩
 by_cases h3 : n = 405
 ·subst h3
  go_enter Tryz.func72, Tryz.ntmps72
  go_wp2_with fail
  go_ret
  exact ⟨rfl, rfl⟩
 by_cases h4 : n = 413
 ·subst h4
  go_enter Tryz.func72, Tryz.ntmps72
  go_wp2_with fail
  go_ret
  exact ⟨rfl, rfl⟩
 by_cases h5 : n = 414
 ·subst h5
  go_enter Tryz.func72, Tryz.ntmps72
  go_wp2_with fail
  go_ret
  exact ⟨rfl, rfl⟩
 by_cases h6 : n = 431
 ·subst h6
  go_enter Tryz.func72, Tryz.ntmps72
  go_wp2_with fail
  go_ret
  exact ⟨rfl, rfl⟩
 by_cases h7 : n = 500
 ·subst h7
  go_enter Tryz.func72, Tryz.ntmps72
  go_wp2_with fail
  go_ret
  exact ⟨rfl, rfl⟩
 by_cases h8 : n = 501
 ·subst h8
  go_enter Tryz.func72, Tryz.ntmps72
  go_wp2_with fail
  go_ret
  exact ⟨rfl, rfl⟩
 by_cases h9 : n = 503
 ·subst h9
  go_enter Tryz.func72, Tryz.ntmps72
  go_wp2_with fail
  go_ret
  exact ⟨rfl, rfl⟩
 by_cases h10 : n = 504
 ·subst h10
  go_enter Tryz.func72, Tryz.ntmps72
  go_wp2_with fail
  go_ret
  exact ⟨rfl, rfl⟩
 by_cases h11 : n = 505
 ·subst h11
  go_enter Tryz.func72, Tryz.ntmps72
  go_wp2_with fail
  go_ret
  exact ⟨rfl, rfl⟩
 by_cases h12 : n = 507
 ·subst h12
  go_enter Tryz.func72, Tryz.ntmps72
  go_wp2_with fail
  go_ret
  exact ⟨rfl, rfl⟩
 have b0 : (n == 200) = false := beq_false_of_ne h0
 have b1 : (n == 400) = false := beq_false_of_ne h1
 have b2 : (n == 404) = false := beq_false_of_ne h2
 have b3 : (n == 405) = false := beq_false_of_ne h3
 have b4 : (n == 413) = false := beq_false_of_ne h4
 have b5 : (n == 414) = false := beq_false_of_ne h5
 have b6 : (n == 431) = false := beq_false_of_ne h6
 have b7 : (n == 500) = false := beq_false_of_ne h7
 have b8 : (n == 501) = false := beq_false_of_ne h8
 have b9 : (n == 503) = false := beq_false_of_ne h9
 have b10 : (n == 504) = false := beq_false_of_ne h10
 have b11 : (n == 505) = false := beq_false_of_ne h11
 have b12 : (n == 507) = false := beq_false_of_ne h12
 have e : reasonL n = [] := by
  unfold reasonL
  rw [if_neg h0, if_neg h1, if_neg h2, if_neg h3, if_neg h4, if_neg h5, if_neg h6, if_neg h7, if_neg h8, if_neg h9, if_neg h10, if_neg h11, if_neg h12]
 rw [e]
 clear e h0 h1 h2 h3 h4 h5 h6 h7 h8 h9 h10 h11 h12
 go_enter Tryz.func72, Tryz.ntmps72
 go_wp2_with fail
 go_ret
 exact ⟨rfl, rfl⟩
set_option maxHeartbeats 4000000 in
set_option maxRecDepth 100000 in
theorem reasonR_any (n : Int) (w : World) : Calls Tryz.prog 73 #[.int .i64 n] w fun e w' => e = .returned (.string ⟨(reasonL n).toArray⟩) ∧ w = w' := by
 by_cases h0 : n = 200
 ·subst h0
  go_enter Tryz.func73, Tryz.ntmps73
  go_wp2_with fail
  go_ret
  exact ⟨rfl, rfl⟩
 by_cases h1 : n = 400
 ·subst h1
  go_enter Tryz.func73, Tryz.ntmps73
  go_wp2_with fail
  go_ret
  exact ⟨rfl, rfl⟩
 by_cases h2 : n = 404
 ·subst h2
  go_enter Tryz.func73, Tryz.ntmps73
  go_wp2_with fail
  go_ret
  exact ⟨rfl, rfl⟩
 by_cases h3 : n = 405
 ·subst h3
  go_enter Tryz.func73, Tryz.ntmps73
  go_wp2_with fail
  go_ret
  exact ⟨rfl, rfl⟩
 by_cases h4 : n = 413
 ·subst h4
  go_enter Tryz.func73, Tryz.ntmps73
  go_wp2_with fail
  go_ret
  exact ⟨rfl, rfl⟩
 by_cases h5 : n = 414
 ·subst h5
  go_enter Tryz.func73, Tryz.ntmps73
  go_wp2_with fail
  go_ret
  exact ⟨rfl, rfl⟩
 by_cases h6 : n = 431
 ·subst h6
  go_enter Tryz.func73, Tryz.ntmps73
  go_wp2_with fail
  go_ret
  exact ⟨rfl, rfl⟩
 by_cases h7 : n = 500
 ·subst h7
  go_enter Tryz.func73, Tryz.ntmps73
  go_wp2_with fail
  go_ret
  exact ⟨rfl, rfl⟩
 by_cases h8 : n = 501
 ·subst h8
  go_enter Tryz.func73, Tryz.ntmps73
  go_wp2_with fail
  go_ret
  exact ⟨rfl, rfl⟩
 by_cases h9 : n = 503
 ·subst h9
  go_enter Tryz.func73, Tryz.ntmps73
  go_wp2_with fail
  go_ret
  exact ⟨rfl, rfl⟩
 by_cases h10 : n = 504
 ·subst h10
  go_enter Tryz.func73, Tryz.ntmps73
  go_wp2_with fail
  go_ret
  exact ⟨rfl, rfl⟩
 by_cases h11 : n = 505
 ·subst h11
  go_enter Tryz.func73, Tryz.ntmps73
  go_wp2_with fail
  go_ret
  exact ⟨rfl, rfl⟩
 by_cases h12 : n = 507
 ·subst h12
  go_enter Tryz.func73, Tryz.ntmps73
  go_wp2_with fail
  go_ret
  exact ⟨rfl, rfl⟩
 have b0 : (n == 200) = false := beq_false_of_ne h0
 have b1 : (n == 400) = false := beq_false_of_ne h1
 have b2 : (n == 404) = false := beq_false_of_ne h2
 have b3 : (n == 405) = false := beq_false_of_ne h3
 have b4 : (n == 413) = false := beq_false_of_ne h4
 have b5 : (n == 414) = false := beq_false_of_ne h5
 have b6 : (n == 431) = false := beq_false_of_ne h6
 have b7 : (n == 500) = false := beq_false_of_ne h7
 have b8 : (n == 501) = false := beq_false_of_ne h8
 have b9 : (n == 503) = false := beq_false_of_ne h9
 have b10 : (n == 504) = false := beq_false_of_ne h10
 have b11 : (n == 505) = false := beq_false_of_ne h11
 have b12 : (n == 507) = false := beq_false_of_ne h12
 have e : reasonL n = [] := by
  unfold reasonL
  rw [if_neg h0, if_neg h1, if_neg h2, if_neg h3, if_neg h4, if_neg h5, if_neg h6, if_neg h7, if_neg h8, if_neg h9, if_neg h10, if_neg h11, if_neg h12]
 rw [e]
 clear e h0 h1 h2 h3 h4 h5 h6 h7 h8 h9 h10 h11 h12
 go_enter Tryz.func73, Tryz.ntmps73
 go_wp2_with fail
 go_ret
 exact ⟨rfl, rfl⟩
end Go.Proofs.YtpdedfpacklnoaaGreatDoor.H
namespace Go.MapFn
set_option maxRecDepth 100000
open RowKit MapKept
/-- The block r is a map that holds just what f says. -/
def Is (w : World) (r : Nat) (f : List UInt8 → Option Value) : Prop :=
 ∃ (es : Array MapEntry) (clock : Nat), w.heap[r]? = some (.map es clock) ∧ (∀ x ∈ es.toList, IsKey .string x.key) ∧
  (∀ (i j : Nat) (e e' : MapEntry), es[i]? = some e → es[j]? = some e' → e.key = e'.key → i = j) ∧
  ∀ k v, f k = some v ↔ ∃ (i : Nat) (e : MapEntry), es[i]? = some e ∧ e.key = Value.string ⟨k.toArray⟩ ∧ e.val = v
def upd (f : List UInt8 → Option Value) (k : List UInt8) (v : Value) : List UInt8 → Option Value := fun k' => if k' = k then some v else f k'
variable {P : Program} {w : World} {r : Nat} {f : List UInt8 → Option Value} {mty kt et : TypeId}
theorem Is.of_block {w' : World} (h : Is w r f) (hb : w'.heap[r]? = w.heap[r]?) : Is w' r f := by
 obtain ⟨es, clock, h1, h2⟩ := h
 exact ⟨es, clock, hb.trans h1, h2⟩
theorem Is.lt (h : Is w r f) : r < w.heap.size := by
 obtain ⟨es, clock, h1, _⟩ := h
 exact (Array.getElem?_eq_some_iff.1 h1).1
theorem Is.setCell (h : Is w r f) {p : Addr} (hp : p.block ≠ r) (u : Value) : Is (w.setCell p u) r f := h.of_block (Below.heap_setCell w p u r (Ne.symm hp))

end Go.MapFn
