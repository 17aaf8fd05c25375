/- Frames of worlds, of no program: which blocks may have turned; blocks of one cell. Readers that no call made. A reader that stands at a place of its bytes; Over makes one; Left, At. wire.cut, wire.try -/
import Derived.Test.YtpdedfpacklnoaaGreatDoorTzMX
import Derived.OneCell
import Derived.Handy
import Derived.BigQuiet
import Derived.Deep.QuietTactic
import Derived.Tactics2
import Derived.Defers
import Derived.Recover
import Derived.WalkLawsBesides
import Derived.Laws.Pointers
import Derived.Test.YtpdedfpacklnoaaGreatDoorTzMV
import Derived.StillTailTactics
import Derived.Laws.BytesArg
import Derived.Deep.RegionWith
import Derived.Deep.RegionHeld3
namespace Go.BL
set_option maxRecDepth 100000
open Go.RowKit
/-- Of the old blocks none has turned but those of the list. -/
structure Kept (rows : List Nat) (a w : World) : Prop where
 os : w.os = a.os
 tape : w.tape = a.tape
 output : w.output = a.output
 size : a.heap.size ≤ w.heap.size
 block : ∀ b, b < a.heap.size → b ∉ rows → w.heap[b]? = a.heap[b]?
namespace Kept
variable {rows rows' : List Nat} {a b c w w' : World}
theorem refl (rows : List Nat) (w : World) : Kept rows w w := ⟨rfl, rfl, rfl, Nat.le_refl _, fun _ _ _ => rfl⟩
theorem trans (h : Kept rows a b) (k : Kept rows' b c) (hr : ∀ x ∈ rows', x ∈ rows ∨ a.heap.size ≤ x) : Kept rows a c :=
 ⟨k.os.trans h.os, k.tape.trans h.tape, k.output.trans h.output, Nat.le_trans h.size k.size, fun i hi hn => (k.block i (Nat.lt_of_lt_of_le hi h.size) (fun hx => by
  rcases hr i hx with h1 | h1
  ·exact hn h1
  ·omega)).trans (h.block i hi hn)⟩
theorem then_ (h : Kept rows a b) (k : Kept rows b c) : Kept rows a c := h.trans k (fun _ hx => .inl hx)
theorem mono (h : Kept rows a b) (hr : ∀ x ∈ rows, x ∈ rows' ∨ a.heap.size ≤ x) : Kept rows' a b :=
 ⟨h.os, h.tape, h.output, h.size, fun i hi hn => h.block i hi (fun hx => by
  rcases hr i hx with h1 | h1
  ·exact hn h1
  ·omega)⟩
theorem drewN (h : Kept rows a w) (n : Nat) : Kept rows a (w.drewN n) := ⟨h.os, h.tape, h.output, h.size, h.block⟩
theorem drew (h : Kept rows a w) : Kept rows a w.drew := ⟨h.os, h.tape, h.output, h.size, h.block⟩
theorem alloc (h : Kept rows a w) (o : Obj) : Kept rows a (w.alloc o) :=
 ⟨h.os, h.tape, h.output, Nat.le_trans h.size (by simp), fun i hi hn => (Below.heap_alloc w o i (Nat.lt_of_lt_of_le hi h.size)).trans (h.block i hi hn)⟩
theorem setCell (h : Kept rows a w) {p : Addr} (hp : p.block ∈ rows ∨ a.heap.size ≤ p.block) (u : Value) : Kept rows a (w.setCell p u) :=
 ⟨h.os, h.tape, h.output, by simpa [World.setCell] using h.size, fun i hi hn => (Below.heap_setCell w p u i (by
  rintro rfl
  rcases hp with hp | hp
  ·exact hn hp
  ·omega)).trans (h.block i hi hn)⟩
theorem of_below {B : Nat} (h : Below B a w) (hB : a.heap.size ≤ B) : Kept rows a w := ⟨h.os, h.tape, h.output, h.size, fun i hi _ => h.block i (by omega)⟩
theorem below {B : Nat} (h : Kept rows a w) (hB : B ≤ a.heap.size) (hr : ∀ x ∈ rows, B ≤ x) : Below B a w :=
 ⟨h.os, h.tape, h.output, h.size, fun i hi => h.block i (by omega) (fun hx => by have := hr i hx; omega)⟩
end Kept
/-- A block of one cell. -/
def Box (w : World) (b : Nat) (v : Value) (t : TypeId) : Prop := w.heap[b]? = some (.cells #[v] t (0, 0))
namespace Box
variable {w w' : World} {b : Nat} {v : Value} {t : TypeId}
theorem lt (h : Box w b v t) : b < w.heap.size := by
 rcases Nat.lt_or_ge b w.heap.size with h' | h'
 ·exact h'
 ·unfold Box at h; rw [Array.getElem?_eq_none h'] at h; cases h
theorem cell (h : Box w b v t) : w.cell? ⟨b, 0, none⟩ = some v := by rw [cell_of_row w b 0 _ t (0, 0) h]; rfl
theorem free (h : Box w b v t) : w.frozen? ⟨b, 0, none⟩ = false := by
 unfold Box at h; unfold World.frozen?; rw [h]; rfl
theorem new (w : World) (v : Value) (t : TypeId) : Box (w.alloc (.cells #[v] t)) w.heap.size v t := heap_alloc_new w _
theorem kept {rows : List Nat} (h : Box w b v t) (k : Kept rows w w') (hb : b ∉ rows) : Box w' b v t := (k.block b h.lt hb).trans h
theorem alloc (h : Box w b v t) (o : Obj) : Box (w.alloc o) b v t := (Below.heap_alloc w o b h.lt).trans h
theorem set_ (h : Box w b v t) (u : Value) : Box (w.setCell ⟨b, 0, none⟩ u) b u t := by
 unfold Box at h ⊢
 simp [World.setCell, Array.getElem?_modify, h]
theorem far (h : Box w b v t) {p : Addr} (hp : b ≠ p.block) (u : Value) : Box (w.setCell p u) b v t := (Below.heap_setCell w p u b hp).trans h
theorem drewN (h : Box w b v t) (n : Nat) : Box (w.drewN n) b v t := h
end Box
theorem Rd.kept {w w' : World} {A : Option Addr} {n : Nat} {bs : List Nat} {rows : List Nat} (h : Rd w A n bs) (k : Kept rows w w') (hr : ∀ a, A = some a → 0 < n → a.block ∉ rows) : Rd w' A n bs := by
 refine ⟨h.1, h.2.1, h.2.2.1, fun hn => ?_⟩
 obtain ⟨b, off, e, hlt, hc⟩ := h.2.2.2 hn
 refine ⟨b, off, e, Nat.lt_of_lt_of_le hlt k.size, fun i hi => ?_⟩
 exact (World.cell?_of_block (a := ⟨b, off + i, none⟩) (w := w) (w' := w') (k.block b hlt (hr _ e hn))).trans (hc i hi)
theorem Own.kept {w w' : World} {B : Nat} {v : Value} {bs : List Nat} {rows : List Nat} (h : Own w B v bs) (k : Kept rows w w') (hr : ∀ g, v.ownBlock = some g → g ∉ rows) : Own w' B v bs := by
 refine ⟨⟨h.1.1, ?_⟩, h.2⟩
 have hlt := h.lt
 rcases h.1.2 with h0 | ⟨g, cap, cur, hv, hg, hh, r⟩
 ·exact .inl h0
 ·have e : v.ownBlock = some g := by rw [hv]; rfl
  exact .inr ⟨g, cap, cur, hv, hg, (k.block g (hlt g e) (hr g e)).trans hh, r⟩
theorem Rd.cutIf {w : World} {G : Option Addr} {len c i n : Nat} {bs : List Nat} (h : Rd w G len bs) (hn : i + n ≤ len) (hc : len ≤ c) :
  Rd w (if c = i then G else G.map fun x => x.add i) n ((bs.drop i).take n) := by
 refine ⟨by rw [List.length_take, List.length_drop, h.1]; omega, by have := h.2.1; omega, fun x hx => h.2.2.1 x (List.mem_of_mem_drop (List.mem_of_mem_take hx)), fun hpos => ?_⟩
 obtain ⟨b, off, rfl, hlt, hcell⟩ := h.2.2.2 (by omega)
 rw [if_neg (by omega)]
 refine ⟨b, off + i, by simp [add_none], hlt, fun j hj => ?_⟩
 rw [Nat.add_assoc, hcell (i + j) (by omega)]
 congr 3
 rw [List.getD_eq_getElem?_getD, List.getD_eq_getElem?_getD, List.getElem?_take_of_lt hj, List.getElem?_drop]
theorem Own.len {w : World} {B n : Nat} {v : Value} {bs : List Nat} (h : Own w B v bs) (hn : bs.length = n) : ∃ A cap, v = .slice A n cap ∧ Rd w A n bs ∧ Own w B (.slice A n cap) bs := by
 subst hn
 obtain ⟨A, cap, rfl, hr⟩ := h.rd
 exact ⟨A, cap, rfl, hr, h⟩
theorem Own.setOld {w w1 : World} {g : Nat} {v : Value} {T : List Nat} (hg : g < w.heap.size) (h : Own w1 w.heap.size v T) {p : Addr} (hp : p.block = g) (u : Value) : Own (w1.setCell p u) w.heap.size v T :=
 h.kept (rows := [g]) ((Kept.refl _ w1).setCell (.inl (by simp [hp])) u) (fun k hk hx => by
  have := h.block_ge k hk
  simp only [List.mem_singleton] at hx; omega)
theorem Own.rdOf {w : World} {B n cap : Nat} {A : Option Addr} {bs : List Nat} (h : Own w B (.slice A n cap) bs) (hn : bs.length = n) : Rd w A n bs := by
 obtain ⟨A', cap', e, hr, _⟩ := h.len hn
 injection e with e1 _ _
 subst e1
 exact hr
end Go.BL
namespace Go.Proofs.YtpdedfpacklnoaaGreatDoor.W
set_option maxRecDepth 100000
open Go.RowKit Go.BL Go.Wr

theorem made_box (g : Nat) (b : Bool) (w : World) (h : w.cell? ⟨g, 2, none⟩ = some (.bool b)) : Calls Tryz.prog 225 #[.pointer (some ⟨g, 0, none⟩)] w fun e w' => e = .returned (.bool b) ∧ w = w' := by
 go_enter Tryz.func225, Tryz.ntmps225
 go_wp2
 go_ret
 exact ⟨by simp, rfl⟩
end Go.Proofs.YtpdedfpacklnoaaGreatDoor.W
namespace Go.Proofs.YtpdedfpacklnoaaGreatDoor.W
set_option maxRecDepth 100000
open Go.RowKit Go.BL Go.Wr
/-- The object at g, below B, is a reader over bs, which lie below B, that stands at i. -/
def Rdr (w : World) (B g : Nat) (bs : List Nat) (i : Nat) : Prop :=
 ∃ G c, w.heap[g]? = some (.cells #[.slice G bs.length c, .int .i64 (i : Int), .bool true] 270 (0, 0)) ∧ Rd w G bs.length bs ∧ i ≤ bs.length ∧ bs.length ≤ 140737488355000 ∧ g < B ∧ bs.length ≤ c ∧ ∀ a, G = some a → a.block < B
theorem Rdr.cells {w : World} {B g i : Nat} {bs : List Nat} (h : Rdr w B g bs i) : ∃ G c, w.cell? ⟨g, 0, none⟩ = some (.slice G bs.length c) ∧ w.cell? ⟨g, 1, none⟩ = some (.int .i64 (i : Int)) ∧ w.cell? ⟨g, 2, none⟩ = some (.bool true) ∧ w.frozen? ⟨g, 1, none⟩ = false ∧ Rd w G bs.length bs ∧ bs.length ≤ c := by
 obtain ⟨G, c, hh, hr, _, _, _, hcap, _⟩ := h
 refine ⟨G, c, by rw [cell_of_row w g 0 _ 270 (0, 0) hh]; rfl, by rw [cell_of_row w g 1 _ 270 (0, 0) hh]; rfl, by rw [cell_of_row w g 2 _ 270 (0, 0) hh]; rfl, ?_, hr, hcap⟩
 unfold World.frozen?
 rw [hh]
 rfl
theorem Rdr.lt {w : World} {B g i : Nat} {bs : List Nat} (h : Rdr w B g bs i) : g < w.heap.size := by
 obtain ⟨G, c, hh, _⟩ := h
 rcases Nat.lt_or_ge g w.heap.size with h' | h'
 ·exact h'
 ·rw [Array.getElem?_eq_none h'] at hh; cases hh
theorem Rdr.le {w : World} {B g i : Nat} {bs : List Nat} (h : Rdr w B g bs i) : i ≤ bs.length := by
 obtain ⟨G, c, _, _, hb, _⟩ := h; exact hb
theorem Rdr.len {w : World} {B g i : Nat} {bs : List Nat} (h : Rdr w B g bs i) : bs.length ≤ 140737488355000 := by
 obtain ⟨G, c, _, _, _, hb, _⟩ := h; exact hb
theorem Rdr.kept {w w' : World} {B g i : Nat} {bs : List Nat} {rows : List Nat} (h : Rdr w B g bs i) (k : Kept rows w w') (hr : ∀ x ∈ rows, B ≤ x) : Rdr w' B g bs i := by
 have hlt := h.lt
 obtain ⟨G, c, hh, hd, hi, hl, hg, hcap, hG⟩ := h
 exact ⟨G, c, (k.block g hlt (fun hx => by have := hr g hx; omega)).trans hh, hd.kept k (fun a e _ hx => by have := hr _ hx; have := hG a e; omega), hi, hl, hg, hcap, hG⟩
theorem Rdr.drewN {w : World} {B g i : Nat} {bs : List Nat} (h : Rdr w B g bs i) (n : Nat) : Rdr (w.drewN n) B g bs i :=
 h.kept (rows := []) ((Kept.refl [] w).drewN n) (fun _ hx => by cases hx)
theorem Rdr.far {w : World} {B g i : Nat} {bs : List Nat} (h : Rdr w B g bs i) {p : Addr} (hp : B ≤ p.block) (u : Value) : Rdr (w.setCell p u) B g bs i :=
 h.kept (rows := [p.block]) ((Kept.refl _ w).setCell (.inl (by simp)) u) (fun x hx => by simp at hx; omega)
theorem left_any (B g : Nat) (bs : List Nat) (i : Nat) (w : World) (h : Rdr w B g bs i) : Calls Tryz.prog 185 #[.pointer (some ⟨g, 0, none⟩)] w fun e w' => e = .returned (.int .i64 ((bs.length - i : Nat) : Int)) ∧ ∃ N, w' = w.drewN N := by
 obtain ⟨G, c, h0, h1, h2, _, hr, _⟩ := h.cells
 have hi : (i : Int) ≤ (bs.length : Int) := by have := h.le; omega
 have hm := hr.2.1
 unfold maxLen at hm
 have Hr := Lib.hid hr
 have H := Lib.hid h
 clear hr h
 go_enter Tryz.func185, Tryz.ntmps185
 go_wp2_with fail
 refine (made_box g true _ h2).mono ?_
 rintro e w' ⟨rfl, rfl⟩
 go_wp2
 go_quiet (fail)
 go_wp2
 go_ret
 exact ⟨ret_int (by omega), _, rfl⟩
theorem end_any (B g : Nat) (bs : List Nat) (i : Nat) (w : World) (h : Rdr w B g bs i) : Calls Tryz.prog 190 #[.pointer (some ⟨g, 0, none⟩)] w fun e w' => e = .returned (.int .i64 (if i < bs.length then 3 else 0)) ∧ ∃ N, w' = w.drewN N := by
 obtain ⟨G, c, h0, h1, h2, _, hr, _⟩ := h.cells
 have hle := h.le
 have Hr := Lib.hid hr
 have H := Lib.hid h
 clear hr h
 by_cases hlt : i < bs.length
 ·go_enter Tryz.func190, Tryz.ntmps190
  go_wp2_with fail
  refine (made_box g true _ h2).mono ?_
  rintro e w' ⟨rfl, rfl⟩
  go_wp2_with fail
  refine (left_any B g bs i _ H.out).mono ?_
  rintro e w' ⟨rfl, N, rfl⟩
  have hpos : (0 : Int) < ((bs.length - i : Nat) : Int) := by omega
  go_wp2
  go_ret
  exact ⟨rfl, _, rfl⟩
 ·go_enter Tryz.func190, Tryz.ntmps190
  go_wp2_with fail
  refine (made_box g true _ h2).mono ?_
  rintro e w' ⟨rfl, rfl⟩
  go_wp2_with fail
  refine (left_any B g bs i _ H.out).mono ?_
  rintro e w' ⟨rfl, N, rfl⟩
  have hpos : ¬ (0 : Int) < ((bs.length - i : Nat) : Int) := by omega
  go_wp2
  go_ret
  exact ⟨rfl, _, rfl⟩
end Go.Proofs.YtpdedfpacklnoaaGreatDoor.W
namespace Go.Proofs.YtpdedfpacklnoaaGreatDoor.W
set_option maxRecDepth 100000
open Go.RowKit Go.BL Go.Wr

theorem cut_any (n : Int) (w : World) : Calls Tryz.prog 184 #[.int .i64 n] w fun e w' => e = .panicked [{ v := .iface 37 (.int .i64 n), recovered := false }] ∧ w = w' := by
 go_enter Tryz.func184, Tryz.ntmps184
 go_wp2
 exact ⟨rfl, rfl, rfl⟩

end Go.Proofs.YtpdedfpacklnoaaGreatDoor.W
namespace Go.Proofs.YtpdedfpacklnoaaGreatDoor.W
set_option maxRecDepth 100000
open Go.RowKit Go.BL Go.Wr
theorem pow128 {m k : Nat} (x : Nat) (hm : m < 128 ^ k) (hk : k ≤ 8) : m + x % 128 * 128 ^ k < 128 ^ (k + 1) ∧ x % 128 * 128 ^ k ≤ 9151314442816847872 := by
 have h1 : x % 128 < 128 := Nat.mod_lt _ (by decide)
 have h2 : 128 ^ k ≤ 128 ^ 8 := Nat.pow_le_pow_right (by decide) hk
 have h3 : x % 128 * 128 ^ k ≤ 127 * 128 ^ k := Nat.mul_le_mul_right _ (by omega)
 rw [Nat.pow_succ]
 omega
end Go.Proofs.YtpdedfpacklnoaaGreatDoor.W
namespace Go.BL
set_option maxRecDepth 100000
open Go.RowKit Go.Wr
theorem strOf (T : List Nat) : strOfNums (T.map fun x => ((x : Nat) : Int)) = bstr T := by
 unfold strOfNums bstr
 simp [List.map_map, Function.comp_def]
theorem run_bstr {P : Program} {w : World} {A : Option Addr} {n c : Nat} {T : List Nat} (h : Rd w A n T) (src e dst : TypeId) (hs : P.underlying src = some (.slice e)) (he : P.underlying e = some (.int .u8)) (hd : P.underlying dst = some .string) :
  (convert src dst (.slice A n c)).run P w = .ok (.string (bstr T)) w := by
 by_cases hn : n = 0
 ·subst hn
  have hT : T = [] := List.eq_nil_of_length_eq_zero h.1
  subst hT
  rw [run_convert_bytes_string w src dst e _ 0 c hs he hd]
  cases A <;> simp [Conv.bytesToString, loadCells]
  all_goals rfl
 ·obtain ⟨b, off, rfl, _, hc⟩ := h.2.2.2 (by omega)
  rw [run_convert_bytes_arg w src e hs he b off n c (T.map fun x => ((x : Nat) : Int)) (by simp [h.1]) (fun i hi => by
   rw [hc i hi]
   have hl : i < T.length := by rw [h.1]; exact hi
   simp [List.getD_eq_getElem?_getD, List.getElem?_eq_getElem hl]) dst hd, strOf]
end Go.BL
namespace Go.Proofs.YtpdedfpacklnoaaGreatDoor.W
open Go.RowKit Go.BL Go.Wr
/-- What a closure of a reader leaves: its code; the reader; the captured result. -/
def RG (B g : Nat) (bs : List Nat) (nb : Nat) (t : TypeId) (v : Value) (code pos : Nat) (w0 : World) (c : Nat) (w1 : World) : Prop :=
 c = code ∧ (∃ j, Rdr w1 B g bs j ∧ (c = 0 → j = pos)) ∧ Box w1 nb v t ∧ Kept [g, nb] w0 w1
theorem fin {B g : Nat} {bs : List Nat} {i nb eb : Nat} {t : TypeId} {v : Value} {code pos n : Nat} {w w0 w1 w' : World} (hpos : code ≠ 0 → pos = i) (hR : RG B g bs nb t v code pos w0 n w1)
  (hk : Kept [eb, g] w1 w') (h1 : n ≠ 0 → Rdr w' B g bs i) (h0 : n = 0 → Kept [eb] w1 w') (he : eb ≠ nb) (hg : g < w.heap.size) (hn : w.heap.size ≤ nb) (hbe : w.heap.size ≤ eb) (hB : B ≤ w.heap.size) (h00 : Kept [] w w0) :
  n = code ∧ Rdr w' B g bs pos ∧ Box w' nb v t ∧ Kept [g] w w' := by
 obtain ⟨rfl, ⟨j, hj, hj0⟩, hb, hk1⟩ := hR
 refine ⟨rfl, ?_, hb.kept hk (by simp; omega), ?_⟩
 ·by_cases hz : n = 0
  ·rw [← hj0 hz]
   exact hj.kept (h0 hz) (fun x hx => by simp at hx; omega)
  ·rw [hpos hz]; exact h1 hz
 ·have k1 : Kept [g] w w1 := (h00.mono (rows' := [g]) (fun _ hx => by cases hx)).trans hk1 (fun x hx => by simp at hx ⊢; omega)
  exact k1.trans hk (fun x hx => by simp at hx ⊢; omega)
end Go.Proofs.YtpdedfpacklnoaaGreatDoor.W
namespace Go.Proofs.YtpdedfpacklnoaaGreatDoor.W
set_option maxRecDepth 100000
open Go.RowKit Go.BL Go.Wr
theorem cast_pow (k : Nat) : ((128 : Int) ^ k) = ((128 ^ k : Nat) : Int) := by simp
theorem add_mul {m k : Nat} (x : Nat) (hm : m < 128 ^ k) (hk : k ≤ 8) : wrap64 ((m : Int) + wrap64 ((x : Int) % 128 * 128 ^ k)) = ((m + x % 128 * 128 ^ k : Nat) : Int) := by
 obtain ⟨h1, h2⟩ := pow128 x hm hk
 have h3 : m < 72057594037927936 := Nat.lt_of_lt_of_le hm (Nat.pow_le_pow_right (by decide) hk)
 rw [cast_pow, show ((x : Int) % 128) = ((x % 128 : Nat) : Int) by omega, ← Int.natCast_mul]
 generalize x % 128 * 128 ^ k = D at *
 clear h1 hm hk
 rw [IntWalk.wrap64_in (D : Int) (by omega), ← Int.natCast_add, IntWalk.wrap64_in _ (by omega)]
end Go.Proofs.YtpdedfpacklnoaaGreatDoor.W
namespace Go.BL
set_option maxRecDepth 100000
open Go.RowKit
theorem Rd.drewN {w : World} {A : Option Addr} {n : Nat} {bs : List Nat} (h : Rd w A n bs) (N : Nat) : Rd (w.drewN N) A n bs := h
theorem Rd.dropIf {w : World} {G : Option Addr} {len c i : Nat} {bs : List Nat} (h : Rd w G len bs) (hi : i ≤ len) (hc : len ≤ c) : Rd w (if c = i then G else G.map fun x => x.add i) (len - i) (bs.drop i) := by
 have h1 := h.cutIf (i := i) (n := len - i) (by omega) hc
 rwa [List.take_of_length_le (by rw [List.length_drop, h.1]; exact Nat.le_refl _)] at h1
end Go.BL
namespace Go.Proofs.YtpdedfpacklnoaaGreatDoor.W
open Go.RowKit Go.BL Go.Wr
/-- The document's reader over bs at i: its object g, its bytes below B. -/
def RRd (w : World) (B g : Nat) (bs : List Nat) (i : Nat) : Prop :=
 ∃ G c, w.heap[g]? = some (.cells #[.slice G bs.length c, .int .i64 (i : Int)] 208 (0, 0)) ∧ Rd w G bs.length bs ∧ i ≤ bs.length ∧ B ≤ g ∧ bs.length ≤ c ∧ (0 < bs.length → ∀ a, G = some a → a.block < B)
theorem RRd.cells {w : World} {B g i : Nat} {bs : List Nat} (h : RRd w B g bs i) : ∃ G c, w.cell? ⟨g, 0, none⟩ = some (.slice G bs.length c) ∧ w.cell? ⟨g, 1, none⟩ = some (.int .i64 (i : Int)) ∧ w.frozen? ⟨g, 1, none⟩ = false ∧ Rd w G bs.length bs ∧ bs.length ≤ c := by
 obtain ⟨G, c, hh, hr, _, _, hcap, _⟩ := h
 refine ⟨G, c, by rw [cell_of_row w g 0 _ 208 (0, 0) hh]; rfl, by rw [cell_of_row w g 1 _ 208 (0, 0) hh]; rfl, ?_, hr, hcap⟩
 unfold World.frozen?
 rw [hh]
 rfl
theorem RRd.lt {w : World} {B g i : Nat} {bs : List Nat} (h : RRd w B g bs i) : g < w.heap.size := by
 obtain ⟨G, c, hh, _⟩ := h
 rcases Nat.lt_or_ge g w.heap.size with h' | h'
 ·exact h'
 ·rw [Array.getElem?_eq_none h'] at hh; cases hh
theorem RRd.le {w : World} {B g i : Nat} {bs : List Nat} (h : RRd w B g bs i) : i ≤ bs.length := by
 obtain ⟨G, c, _, _, hb, _⟩ := h; exact hb
theorem RRd.kept {w w' : World} {B g i : Nat} {bs : List Nat} {rows : List Nat} (h : RRd w B g bs i) (k : Kept rows w w') (hr : ∀ x ∈ rows, B ≤ x ∧ x ≠ g) : RRd w' B g bs i := by
 have hlt := h.lt
 obtain ⟨G, c, hh, hd, hi, hg, hcap, hG⟩ := h
 exact ⟨G, c, (k.block g hlt (fun hx => (hr g hx).2 rfl)).trans hh, hd.kept k (fun a e hn hx => by have := (hr _ hx).1; have := hG hn a e; omega), hi, hg, hcap, hG⟩
theorem RRd.drewN {w : World} {B g i : Nat} {bs : List Nat} (h : RRd w B g bs i) (n : Nat) : RRd (w.drewN n) B g bs i :=
 h.kept (rows := []) ((Kept.refl [] w).drewN n) (fun _ hx => by cases hx)
end Go.Proofs.YtpdedfpacklnoaaGreatDoor.W
namespace Go.Proofs.YtpdedfpacklnoaaGreatDoor.W
set_option maxRecDepth 100000
open Go.RowKit Go.BL Go.Wr
/-- The call returns a new row of bytes and an error. -/
def RetF (r : List Nat × Nat) (w : World) (e : Ending) (w' : World) : Prop :=
 ∃ A cap, e = .returned (.tuple #[.slice A r.1.length cap, .int .i64 (r.2 : Int)]) ∧ Rd w' A r.1.length r.1 ∧ Own w' w.heap.size (.slice A r.1.length cap) r.1 ∧ Below w.heap.size w w'
theorem rd_four (w : World) (g S : Nat) (hg : g = w.heap.size) (hS : S < 4294967296) (t : TypeId) (fr : Nat × Nat) :
  Rd (w.alloc (.cells #[.int .u8 ((S : Int) % 256), .int .u8 ((S : Int) / 256 % 256), .int .u8 ((S : Int) / 65536 % 256), .int .u8 ((S : Int) / 16777216)] t fr)) (some ⟨g, 0, none⟩) 4 (le4 S) := by
 subst hg
 refine ⟨rfl, by decide, le4_lt S, fun _ => ⟨_, _, rfl, by simp, fun i hi => ?_⟩⟩
 have hh : (w.alloc (.cells #[.int .u8 ((S : Int) % 256), .int .u8 ((S : Int) / 256 % 256), .int .u8 ((S : Int) / 65536 % 256), .int .u8 ((S : Int) / 16777216)] t fr)).heap[w.heap.size]? = some (.cells #[.int .u8 ((S : Int) % 256), .int .u8 ((S : Int) / 256 % 256), .int .u8 ((S : Int) / 65536 % 256), .int .u8 ((S : Int) / 16777216)] t fr) := by
  show (w.heap.push _)[w.heap.size]? = _
  simp
 unfold World.cell?
 rw [hh]
 have h4 : (S : Int) / 16777216 = ((S / 16777216 % 256 : Nat) : Int) := by omega
 rw [h4]
 match i, hi with
 | 0, _ => rfl
 | 1, _ => rfl
 | 2, _ => rfl
 | 3, _ => rfl
set_option maxRecDepth 100000 in
theorem frame_any (A : Option Addr) (m cap : Nat) (bs : List Nat) (w : World) (hr : Rd w A m bs) : Calls Tryz.prog 119 #[.slice A m cap] w (RetF (frame bs) w) := by
 have hl := hr.1
 subst hl
 have hm := hr.2.1
 unfold maxLen at hm
 have Hr := Lib.hid hr
 clear hr
 by_cases hlong : 65536 < bs.length
 ·have HF : Hid (frame bs = ([], 4)) := Lib.hid (if_pos hlong)
  go_enter Tryz.func119, Tryz.ntmps119
  go_wp2
  go_ret2
  rw [HF.out]
  exact ⟨none, 0, rfl, Rd.none_, Own.nil _ _, Below.refl _ _⟩
 ·have HF : Hid (frame bs = (enc bs.length ++ bs ++ le4 (sum bs), 0)) := Lib.hid (if_neg hlong)
  have hs := sum_lt bs Hr.out.2.2.1
  go_enter Tryz.func119, Tryz.ntmps119
  go_wp2_with fail
  refine (sum_any A bs.length cap bs _ Hr.out).mono ?_
  rintro e w' ⟨rfl, rfl⟩
  generalize sum bs = S at *
  go_wp2_with fail
  refine (put_any none 0 0 [] (bs.length : Int) _ Rd.none_ (by omega) (by omega)).mono ?_
  rintro e w1 ⟨v, rfl, ho, hb⟩
  rw [List.nil_append, Int.toNat_natCast] at ho
  have Ho := Lib.hid ho
  have Hb := Lib.hid hb
  have He : Hid ((enc bs.length).length ≤ 9) := Lib.hid (enc_len9 (by omega))
  clear ho hb
  go_wp2_with (first
   | (at_builtin; refine wpList_appB rfl (.tmp 13) (.tmp 14) 75 rfl Tryz.underlying75 info5 rfl Ho.out rfl (Hr.out.below Hb.out (Nat.le_refl _)) (by have := He.out; omega) Hb.out.size ?_; intro v2 w2 ho hb; have Ho2 := Lib.hid ho; have Hb2 := Lib.hid (Hb.out.trans hb); clear ho hb)
   | (at_builtin; refine wpList_appB rfl (.tmp 16) (.tmp 28) 75 rfl Tryz.underlying75 info5 rfl (Ho2.out.alloc _) rfl (rd_four w2 _ S rfl hs 5 (0, 0)) (by rw [List.length_append]; have := He.out; omega) (Nat.le_trans Hb2.out.size (by simp)) ?_; intro v3 w3 ho hb; have Ho3 := Lib.hid ho; have Hb3 := Lib.hid ((Hb2.out.alloc Hb2.out.size _).trans hb); clear ho hb))
  go_ret2
  rw [HF.out]
  obtain ⟨A3, c3, rfl, hrd⟩ := Ho3.out.rd
  exact ⟨A3, c3, rfl, hrd, Ho3.out, Hb3.out⟩
end Go.Proofs.YtpdedfpacklnoaaGreatDoor.W
namespace Go.Proofs.YtpdedfpacklnoaaGreatDoor.W
set_option maxRecDepth 100000
open Go.RowKit Go.BL Go.Wr
theorem le4_take (S k : Nat) (hk : k < 4) : (le4 S).take (k + 1) = (le4 S).take k ++ [S / 256 ^ k % 256] := by
 match k, hk with
 | 0, _ => simp [le4]
 | 1, _ => simp [le4]
 | 2, _ => simp [le4]
 | 3, _ => simp [le4]
set_option maxRecDepth 100000 in
theorem frameR_any (A : Option Addr) (m cap : Nat) (bs : List Nat) (w : World) (hr : Rd w A m bs) : Calls Tryz.prog 124 #[.slice A m cap] w (RetF (frame bs) w) := by
 have hl := hr.1
 subst hl
 have hm := hr.2.1
 unfold maxLen at hm
 have Hr := Lib.hid hr
 clear hr
 by_cases hlong : 65536 < bs.length
 ·have HF : Hid (frame bs = ([], 4)) := Lib.hid (if_pos hlong)
  go_enter Tryz.func124, Tryz.ntmps124
  go_wp2
  go_ret2
  rw [HF.out]
  exact ⟨none, 0, rfl, Rd.none_, Own.nil _ _, Below.refl _ _⟩
 ·have HF : Hid (frame bs = (enc bs.length ++ bs ++ le4 (sum bs), 0)) := Lib.hid (if_neg hlong)
  have hs := sum_lt bs Hr.out.2.2.1
  go_enter Tryz.func124, Tryz.ntmps124
  go_wp2_with fail
  refine (putR_any none 0 0 [] (bs.length : Int) _ Rd.none_ (by omega) (by omega)).mono ?_
  rintro e w1 ⟨v, rfl, ho, hb⟩
  rw [List.nil_append, Int.toNat_natCast] at ho
  have Ho := Lib.hid ho
  have Hb := Lib.hid hb
  have He : Hid ((enc bs.length).length ≤ 9) := Lib.hid (enc_len9 (by omega))
  clear ho hb
  go_wp2_with (first
   | (at_builtin; refine wpList_appB rfl (.tmp 11) (.tmp 12) 75 rfl Tryz.underlying75 info5 rfl Ho.out rfl (Hr.out.below Hb.out (Nat.le_refl _)) (by have := He.out; omega) Hb.out.size ?_; intro v2 w2 ho hb; have Ho2 := Lib.hid ho; have Hb2 := Lib.hid (Hb.out.trans hb); clear ho hb)
   | fail)
  refine (sumR_any A bs.length cap bs _ (Hr.out.below Hb2.out (Nat.le_refl _))).mono ?_
  rintro e w' ⟨rfl, rfl⟩
  generalize sum bs = S at *
  go_wp2
  go_loopw [4, 5, 16] (fun v s i wr => ∃ k X : Nat, k ≤ 4 ∧ i = .int .i64 (k : Int) ∧ s = .int .i64 (X : Int) ∧ Hid (X = S / 256 ^ k) ∧ X < 4294967296 ∧ Hid (Own wr w.heap.size v (enc bs.length ++ bs ++ (le4 S).take k)) ∧ Hid (Below w.heap.size w wr)) (fun _ _ i _ => 4 - (intOf i).toNat)
  case atStart => exact ⟨0, S, by omega, rfl, rfl, Lib.hid (by simp), by omega, Lib.hid (by rw [List.take_zero, List.append_nil]; exact Ho2.out), Hb2⟩
  case round =>
   obtain ⟨k, X, hk, rfl, rfl, HX, hX, Ho3, Hb3⟩ := hrel
   by_cases hlt : k < 4
   ·have HT : Hid ((le4 S).take (k + 1) = (le4 S).take k ++ [X % 256]) := Lib.hid (by rw [le4_take S k hlt, HX.out])
    have HX2 : Hid (X / 256 = S / 256 ^ (k + 1)) := Lib.hid (by rw [HX.out, Nat.pow_succ, Nat.div_div_eq_div_mul])
    have Hpl : Hid ((enc bs.length ++ bs ++ (le4 S).take k).length + 1 ≤ 140737488355328) := Lib.hid (by
     have := He.out
     have h4 : ((le4 S).take k).length ≤ 4 := by rw [List.length_take]; exact Nat.le_trans (Nat.min_le_right _ _) (by simp [le4])
     rw [List.length_append, List.length_append]; omega)
    go_wp2_with (at_builtin; refine wpList_appB rfl (.tmp 18) (.tmp 22) 75 rfl Tryz.underlying75 info5 rfl (Ho3.out.alloc _) rfl (rd_one wr _ (X % 256) rfl (by omega) 5 (0, 0)) Hpl.out (Nat.le_trans Hb3.out.size (by simp)) ?_; intro v4 w4 ho hb; have Ho4 := Lib.hid ho; have Hb4 := Lib.hid ((Hb3.out.alloc Hb3.out.size _).trans hb); clear ho hb)
    go_roundw
    case rel => exact ⟨k + 1, X / 256, by omega, by go_num, by go_num, HX2, by omega, Lib.hid (by have h := Ho4.out; rw [HT.out, ← List.append_assoc]; exact h), Hb4⟩
    case measure => simp [intOf]; omega
   ·obtain rfl : k = 4 := by omega
    have Ho4 : Hid (Own wr w.heap.size _ (enc bs.length ++ bs ++ le4 S)) := Ho3
    go_wp2
    go_ret2
    rw [HF.out]
    obtain ⟨A3, c3, e3, hrd⟩ := Ho4.out.rd
    subst e3
    exact ⟨A3, c3, rfl, hrd, Ho4.out, Hb3.out⟩
end Go.Proofs.YtpdedfpacklnoaaGreatDoor.W
namespace Go.Wr
set_option maxRecDepth 100000
/-- The number of the first k bytes, the lowest first. -/
def pv (l : List Nat) : Nat → Nat
 | 0 => 0
 | k + 1 => pv l k + l.getD k 0 * 256 ^ k
end Go.Wr
namespace Go.BL
set_option maxRecDepth 100000
open Go.RowKit
section
variable {P : Program} {w : World}
end
end Go.BL
