/- Contract of http.Parse. -/
import Derived.Test.YtidhemjnchonaaaGreatDoorHap
import Derived.Deep.RegionWith
import Derived.Lib.SmallJoins
namespace Go.Proofs.YtidhemjnchonaaaGreatDoor
open Go.RowKit Go.BL

def sep4 : List UInt8 := [13, 10, 13, 10]
def headersL : List (List UInt8) → Nat → Except Int (List Hdr)
  | [], _ => .ok []
  | l :: ls, i => if 32 ≤ i then .error 431 else match headerL l with
    | none => .error 400
    | some h => match headersL ls (i + 1) with
      | .error c => .error c
      | .ok hs => .ok (h :: hs)
structure Req where
  m : List UInt8
  p : List UInt8
  hs : List Hdr
  b : List UInt8
/-- Behind the lines' own look. -/
def linesL (ls : List (List UInt8)) (body : List UInt8) : Except Int Req :=
  match ls with
  | [] => .error 400
  | l0 :: r => match firstL l0 with
    | .error c => .error c
    | .ok (m, t) => match headersL r 0 with
      | .error c => .error c
      | .ok hs => match lengthL hs with
        | .error c => .error c
        | .ok n => if body.length ≠ n then .error 400 else .ok ⟨m, t, hs, body⟩
def parseL (b : List UInt8) : Except Int Req :=
  if Lib.index b sep4 < 0 ∧ 65536 < b.length then .error 431
  else if 65536 < Lib.index b sep4 then .error 431
  else if Lib.index b sep4 < 0 then .error 400
  else if (lns (b.take (Lib.index b sep4).toNat) [13, 10]).any crL = true then .error 400
  else linesL (lns (b.take (Lib.index b sep4).toNat) [13, 10]) (b.drop ((Lib.index b sep4).toNat + 4))
/-- The value is a slice that reads as these bytes. -/
def Bsl (w : World) (v : Value) (b : List UInt8) : Prop :=
  b.length ≤ 4294967280 ∧ ((∃ A c, v = .slice A 0 c ∧ b = [] ∧ (A = none → c = 0)) ∨ ∃ blk off c, v = .slice (some ⟨blk, off, none⟩) b.length c ∧ b.length ≤ c ∧ blk < w.heap.size ∧ ∀ j (h : j < b.length), w.cell? ⟨blk, off + j, none⟩ = some (.int .u8 (b[j].toNat : Int)))
theorem Bsl.below {w w' : World} {v : Value} {b : List UInt8} {B : Nat} (h : Bsl w v b) (hb : Below B w w') (hB : w.heap.size ≤ B) : Bsl w' v b := by
  obtain ⟨h0, h | ⟨blk, off, c, rfl, hc, hl, hr⟩⟩ := h
  · exact ⟨h0, .inl h⟩
  · exact ⟨h0, .inr ⟨blk, off, c, rfl, hc, Nat.lt_of_lt_of_le hl hb.size, fun j hj => (hb.cell (show blk < B by omega)).trans (hr j hj)⟩⟩
theorem Bsl.form {w : World} {v : Value} {b : List UInt8} (h : Bsl w v b) : ∃ A c, v = .slice A b.length c := by
  obtain ⟨h0, ⟨A, c, rfl, rfl, _⟩ | ⟨blk, off, c, rfl, _⟩⟩ := h
  · exact ⟨A, c, rfl⟩
  · exact ⟨_, c, rfl⟩
def ints (b : List UInt8) : List Int := b.map fun c => (c.toNat : Int)
theorem ints_bytes (b : List UInt8) : Lib.bytesOf (ints b) = b := by
  unfold Lib.bytesOf ints
  rw [List.map_map]
  conv => rhs; rw [← List.map_id b]
  apply List.map_congr_left
  intro x _
  simp
theorem ints_range (b : List UInt8) : ∀ x ∈ ints b, 0 ≤ x ∧ x < 256 := by
  intro x hx
  obtain ⟨c, _, rfl⟩ := List.mem_map.1 hx
  have := c.toNat_lt
  omega
theorem ints_get (b : List UInt8) (i : Nat) (h : i < b.length) : (ints b).getD i 0 = (b[i].toNat : Int) := by
  simp [ints, List.getD_eq_getElem?_getD, h]
theorem idx_any (v : Value) (b : List UInt8) (w : World) (hv : Bsl w v b) (he : Env w) (g : Nat) (hg : g = w.heap.size) (fr : Nat × Nat) :
    Calls Tryz.prog 35 #[v, .slice (some ⟨g, 0, none⟩) 4 4] (w.alloc (.cells #[.int .u8 13, .int .u8 10, .int .u8 13, .int .u8 10] 5 fr)) fun e w' => e = .returned (.int .i64 (Lib.index b sep4)) ∧ Below (w.heap.size + 1) (w.alloc (.cells #[.int .u8 13, .int .u8 10, .int .u8 13, .int .u8 10] 5 fr)) w' := by
  subst hg
  obtain ⟨m, hm⟩ := he.alloc (.cells #[.int .u8 13, .int .u8 10, .int .u8 13, .int .u8 10] 5 fr)
  have hc2 : ∀ i, i < 4 → (w.alloc (.cells #[.int .u8 13, .int .u8 10, .int .u8 13, .int .u8 10] 5 fr)).cell? ((⟨w.heap.size, 0, none⟩ : Addr).add i) = some (.int .u8 ((ints sep4).getD i 0)) := by
    intro i hi
    rw [add_none, Nat.zero_add]
    unfold World.cell?
    rw [(MapKept.heap_alloc w _).1]
    rcases i with _ | _ | _ | _ | i <;> first | rfl | omega
  obtain ⟨hl, ⟨A0, c0, rfl, rfl, hA0⟩ | ⟨blk, off, c, rfl, hcap, hb, hr⟩⟩ := hv.below ((Below.refl w.heap.size w).alloc (Nat.le_refl _) (.cells #[.int .u8 13, .int .u8 10, .int .u8 13, .int .u8 10] 5 fr)) (Nat.le_refl _)
  · cases A0 with
    | none =>
      obtain rfl := hA0 rfl
      refine (Tryz.bytes_Index_nil _ 4 4 _ (by decide) (fun h => absurd h (by decide))).mono ?_
      rintro e w' ⟨rfl, rfl⟩
      exact ⟨rfl, Below.refl _ _⟩
    | some a0 =>
      refine (Tryz.bytes_Index_at a0 ⟨w.heap.size, 0, none⟩ 0 c0 4 4 [] (ints sep4) m _ rfl rfl (fun _ h => by cases h) (ints_range _) (fun i hi => absurd hi (Nat.not_lt_zero _)) hc2 (Nat.zero_le _) (by decide) (by decide) hm).mono ?_
      rintro e w' ⟨rfl, n, rfl⟩
      rw [ints_bytes]
      exact ⟨rfl, below_drewN (Below.refl _ _) _⟩
  · refine (Tryz.bytes_Index_at ⟨blk, off, none⟩ ⟨w.heap.size, 0, none⟩ b.length c 4 4 (ints b) (ints sep4) m _ (by simp [ints]) rfl (ints_range _) (ints_range _) (fun i hi => ?_) hc2 hcap (by omega) (by decide) hm).mono ?_
    · rw [add_none, ints_get b i hi]; exact hr i hi
    · rintro e w' ⟨rfl, n, rfl⟩
      rw [ints_bytes, ints_bytes]
      exact ⟨rfl, below_drewN (Below.refl _ _) _⟩
def RetQ (r : Except Int Req) (w : World) (e : Ending) (w' : World) : Prop :=
  match r with
  | .ok q => ∃ v, e = .returned (.tuple #[.agg #[.string ⟨q.m.toArray⟩, .string ⟨q.p.toArray⟩, v, .string ⟨q.b.toArray⟩], .int .i64 0]) ∧ Hdrs w' v q.hs ∧ Below w.heap.size w w'
  | .error c => e = .returned (.tuple #[.agg #[.string ⟨#[]⟩, .string ⟨#[]⟩, .slice none 0 0, .string ⟨#[]⟩], .int .i64 c]) ∧ Below w.heap.size w w'
theorem boxed {w : World} {B : Nat} {m p h b st : Value} (k : PBox w B m p h b st) (m' p' h' b' st' : Value) :
    PBox (((((w.setCell ⟨B, 0, none⟩ m').setCell ⟨B, 1, none⟩ p').setCell ⟨B, 2, none⟩ h').setCell ⟨B, 3, none⟩ b').setCell ⟨B + 1, 0, none⟩ st') B m' p' h' b' st' := by
  have ne : ∀ {x y : Nat}, x ≠ y → (⟨B, x, none⟩ : Addr) ≠ ⟨B, y, none⟩ := fun h e => h (by injection e)
  have ne' : ∀ {x y : Nat}, (⟨B + 1, x, none⟩ : Addr) ≠ ⟨B, y, none⟩ := fun e => by injection e with e; omega
  have ne'' : ∀ {x y : Nat}, (⟨B, x, none⟩ : Addr) ≠ ⟨B + 1, y, none⟩ := fun e => by injection e with e; omega
  constructor
  · rw [World.cell?_setCell_other _ _ _ _ ne', World.cell?_setCell_other _ _ _ _ (ne (by decide)), World.cell?_setCell_other _ _ _ _ (ne (by decide)), World.cell?_setCell_other _ _ _ _ (ne (by decide))]
    exact World.cell?_setCell_same _ _ _ k.c0
  · rw [World.cell?_setCell_other _ _ _ _ ne', World.cell?_setCell_other _ _ _ _ (ne (by decide)), World.cell?_setCell_other _ _ _ _ (ne (by decide))]
    exact World.cell?_setCell_same _ _ _ (by rw [World.cell?_setCell_other _ _ _ _ (ne (by decide))]; exact k.c1)
  · rw [World.cell?_setCell_other _ _ _ _ ne', World.cell?_setCell_other _ _ _ _ (ne (by decide))]
    exact World.cell?_setCell_same _ _ _ (by rw [World.cell?_setCell_other _ _ _ _ (ne (by decide)), World.cell?_setCell_other _ _ _ _ (ne (by decide))]; exact k.c2)
  · rw [World.cell?_setCell_other _ _ _ _ ne']
    exact World.cell?_setCell_same _ _ _ (by rw [World.cell?_setCell_other _ _ _ _ (ne (by decide)), World.cell?_setCell_other _ _ _ _ (ne (by decide)), World.cell?_setCell_other _ _ _ _ (ne (by decide))]; exact k.c3)
  · exact World.cell?_setCell_same _ _ _ (by rw [World.cell?_setCell_other _ _ _ _ ne'', World.cell?_setCell_other _ _ _ _ ne'', World.cell?_setCell_other _ _ _ _ ne'', World.cell?_setCell_other _ _ _ _ ne'']; exact k.c4)
  all_goals simp only [World.frozen?_setCell]
  · exact k.z0
  · exact k.z1
  · exact k.z2
  · exact k.z3
  · exact k.z4
set_option maxHeartbeats 4000000 in
set_option maxRecDepth 100000 in
theorem fail_end (w wx : World) (c : Int) {m p h b st : Value} (hP : PBox wx w.heap.size m p h b st) (hB : Below w.heap.size w wx) (tmps : Array Value)
    (h2 : tmps[2]?.getD undef = .pointer (some ⟨w.heap.size, 0, none⟩)) (h3 : tmps[3]?.getD undef = .pointer (some ⟨w.heap.size + 1, 0, none⟩)) :
    bodyPostD Tryz.prog Tryz.f17 (RetQ (.error c) w) (Exit.panic [{ v := .iface 60 (.int .i64 c), recovered := false }])
      { tmps := tmps, defers := [{ target := Target.fn (Fn.func 34) #[.pointer (some ⟨w.heap.size, 0, none⟩), .pointer (some ⟨w.heap.size + 1, 0, none⟩)], args := #[] }] } wx := by
  refine leaves_cons (f := 34) (args := #[.pointer (some ⟨w.heap.size, 0, none⟩), .pointer (some ⟨w.heap.size + 1, 0, none⟩)]) (by simp) (by simp [go_sem]) ?_
  refine (catch_panicking w.heap.size _ _ _ _ _ _ [] _ hP).mono ?_
  rintro e u' w'' ⟨rfl, rfl, hw⟩
  have hQ := boxed hP (.string ⟨#[]⟩) (.string ⟨#[]⟩) (.slice none 0 0) (.string ⟨#[]⟩) (.int .i64 c)
  have hB2 : Below w.heap.size w w'' := by
    rw [hw]
    exact ((((hB.setCell (Nat.le_refl _) _).setCell (Nat.le_refl _) _).setCell (Nat.le_refl _) _).setCell (Nat.le_refl _) _).setCell (Nat.le_succ _) _
  rw [← hw] at hQ
  clear hw hP hB
  obtain ⟨c0, c1, c2, c3, c4, -, -, -, -, -⟩ := hQ
  simp [Leaves, settle, results, Tryz.results17, go_sem, h2, h3, c0, c1, c2, c3, c4]
  exact ⟨rfl, hB2⟩
theorem from_slice (ty : TypeId) (e : TypeId) (ht : Tryz.prog.underlying ty = some (.slice e)) (hs : ∀ w, (sizeOf e).run Tryz.prog w = .ok 1 w) (blk off n c l : Nat) (hl : l ≤ n) (hc : n ≤ c) :
    ∃ A2, (0 < n - l → A2 = some ⟨blk, off + l, none⟩) ∧ ∀ w, (Instr.slice ty (.slice (some ⟨blk, off, none⟩) n c) (some (.int .i64 (l : Int))) none none).run Tryz.prog w = .ok (.slice A2 (n - l) (c - l)) w := by
  refine ⟨if c = l then some ⟨blk, off, none⟩ else some ⟨blk, off + l, none⟩, fun h => by rw [if_neg (by omega)], fun w => ?_⟩
  simp only [Instr.slice, Sem.run_bind, run_underlying ht, Result.andThen, Instr.sliceBounds, Sem.run_pure]
  rw [run_sliceBound _ _ _ _ _ (by omega) (by omega)]
  simp only [hs, Int.toNat_natCast]
  by_cases h : c = l
  · rw [if_pos h, if_pos h]
  · rw [if_neg h, if_neg h]; simp [add_none]
theorem to_slice (blk off n c h : Nat) (hc : h ≤ c) (w : World) :
    (Instr.slice 28 (.slice (some ⟨blk, off, none⟩) n c) none (some (.int .i64 (h : Int))) none).run Tryz.prog w = .ok (.slice (some ⟨blk, off, none⟩) h c) w := by
  simp only [Instr.slice, Sem.run_bind, run_underlying Tryz.underlying28, Result.andThen, Instr.sliceBounds, Sem.run_pure]
  rw [run_sliceBound _ _ _ _ _ (by omega) (by omega)]
  simp only [Tryz.sizeOf5, Int.toNat_natCast]
  simp [add_none]
theorem conv_some (w : World) (blk off n c : Nat) (l : List UInt8) (hn : n = l.length) (h : ∀ j (h : j < l.length), w.cell? ⟨blk, off + j, none⟩ = some (.int .u8 (l[j].toNat : Int))) :
    (convert 28 9 (.slice (some ⟨blk, off, none⟩) n c)).run Tryz.prog w = .ok (.string ⟨l.toArray⟩) w := by
  subst hn
  exact run_convert_bytes_back (P := Tryz.prog) _ 28 9 5 ⟨blk, off, none⟩ c l Tryz.underlying28 Tryz.underlying5 Tryz.underlying9 (fun j hj => by rw [add_none]; exact h j hj)
theorem conv_zero (w : World) (A : Option Addr) (c : Nat) : (convert 28 9 (.slice A 0 c)).run Tryz.prog w = .ok (.string ⟨#[]⟩) w := by
  cases A with
  | none => exact run_convert_bytes_nil w 28 5 Tryz.underlying28 Tryz.underlying5 0 c 9 Tryz.underlying9
  | some a => exact run_convert_bytes_back (P := Tryz.prog) w 28 9 5 a c [] Tryz.underlying28 Tryz.underlying5 Tryz.underlying9 (fun j hj => absurd hj (Nat.not_lt_zero _))
/-- The cells of a row of texts. -/
def LC (w : World) (g : Nat) (ls : List (List UInt8)) : Prop := ∀ k (h : k < ls.length), w.cell? ⟨g, k, none⟩ = some (.string ⟨ls[k].toArray⟩)
theorem LC.new (w : World) (ls : List (List UInt8)) : LC (w.alloc (.cells (strs ls) 9)) w.heap.size ls := by
  intro k h
  rw [World.cell?_alloc_at _ _ _ _ rfl]
  simp [strs, h]
theorem LC.below {w w' : World} {g B : Nat} {ls : List (List UInt8)} (h : LC w g ls) (hb : Below B w w') (hg : g < B) : LC w' g ls := fun k hk => (hb.cell (show g < B from hg)).trans (h k hk)
theorem LC.setCell {w : World} {g : Nat} {ls : List (List UInt8)} (h : LC w g ls) {p : Addr} (hp : p.block ≠ g) (u : Value) : LC (w.setCell p u) g ls := fun k hk =>
  (World.cell?_setCell_other _ _ _ _ (fun e => hp (by rw [e]))).trans (h k hk)
theorem Env.setCell {w : World} (h : Env w) {p : Addr} {x : Value} (hx : w.cell? p = some x) (hne : ∀ m, x ≠ .int .i64 m) (u : Value) : Env (w.setCell p u) := by
  obtain ⟨m, hm⟩ := h
  refine ⟨m, (World.cell?_setCell_other _ _ _ _ (fun e => ?_)).trans hm⟩
  subst e
  rw [hx] at hm
  injection hm with hm
  exact hne m hm
theorem PBox.set2 {w : World} {B : Nat} {m p h b st : Value} (k : PBox w B m p h b st) (u : Value) : PBox (w.setCell ⟨B, 2, none⟩ u) B m p u b st := by
  have ne : ∀ {x y : Nat}, x ≠ y → (⟨B, x, none⟩ : Addr) ≠ ⟨B, y, none⟩ := fun h e => h (by injection e)
  have ne'' : ∀ {x y : Nat}, (⟨B, x, none⟩ : Addr) ≠ ⟨B + 1, y, none⟩ := fun e => by injection e with e; omega
  constructor
  · rw [World.cell?_setCell_other _ _ _ _ (ne (by decide))]; exact k.c0
  · rw [World.cell?_setCell_other _ _ _ _ (ne (by decide))]; exact k.c1
  · exact World.cell?_setCell_same _ _ _ k.c2
  · rw [World.cell?_setCell_other _ _ _ _ (ne (by decide))]; exact k.c3
  · rw [World.cell?_setCell_other _ _ _ _ ne'']; exact k.c4
  all_goals rw [World.frozen?_setCell]
  · exact k.z0
  · exact k.z1
  · exact k.z2
  · exact k.z3
  · exact k.z4
theorem PBox.set3 {w : World} {B : Nat} {m p h b st : Value} (k : PBox w B m p h b st) (u : Value) : PBox (w.setCell ⟨B, 3, none⟩ u) B m p h u st := by
  have ne : ∀ {x y : Nat}, x ≠ y → (⟨B, x, none⟩ : Addr) ≠ ⟨B, y, none⟩ := fun h e => h (by injection e)
  have ne'' : ∀ {x y : Nat}, (⟨B, x, none⟩ : Addr) ≠ ⟨B + 1, y, none⟩ := fun e => by injection e with e; omega
  constructor
  · rw [World.cell?_setCell_other _ _ _ _ (ne (by decide))]; exact k.c0
  · rw [World.cell?_setCell_other _ _ _ _ (ne (by decide))]; exact k.c1
  · rw [World.cell?_setCell_other _ _ _ _ (ne (by decide))]; exact k.c2
  · exact World.cell?_setCell_same _ _ _ k.c3
  · rw [World.cell?_setCell_other _ _ _ _ ne'']; exact k.c4
  all_goals rw [World.frozen?_setCell]
  · exact k.z0
  · exact k.z1
  · exact k.z2
  · exact k.z3
  · exact k.z4
theorem PBox.set01 {w : World} {B : Nat} {m p h b st : Value} (k : PBox w B m p h b st) (u v : Value) : PBox ((w.setCell ⟨B, 0, none⟩ u).setCell ⟨B, 1, none⟩ v) B u v h b st := by
  have ne : ∀ {x y : Nat}, x ≠ y → (⟨B, x, none⟩ : Addr) ≠ ⟨B, y, none⟩ := fun h e => h (by injection e)
  have ne'' : ∀ {x y : Nat}, (⟨B, x, none⟩ : Addr) ≠ ⟨B + 1, y, none⟩ := fun e => by injection e with e; omega
  constructor
  · rw [World.cell?_setCell_other _ _ _ _ (ne (by decide))]; exact World.cell?_setCell_same _ _ _ k.c0
  · exact World.cell?_setCell_same _ _ _ (by rw [World.cell?_setCell_other _ _ _ _ (ne (by decide))]; exact k.c1)
  · rw [World.cell?_setCell_other _ _ _ _ (ne (by decide)), World.cell?_setCell_other _ _ _ _ (ne (by decide))]; exact k.c2
  · rw [World.cell?_setCell_other _ _ _ _ (ne (by decide)), World.cell?_setCell_other _ _ _ _ (ne (by decide))]; exact k.c3
  · rw [World.cell?_setCell_other _ _ _ _ ne'', World.cell?_setCell_other _ _ _ _ ne'']; exact k.c4
  all_goals rw [World.frozen?_setCell, World.frozen?_setCell]
  · exact k.z0
  · exact k.z1
  · exact k.z2
  · exact k.z3
  · exact k.z4
theorem OwnH.form {w : World} {B : Nat} {v : Value} {hs : List Hdr} (h : OwnH w B v hs) : ∃ A c, v = .slice A hs.length c := by
  rcases h.2 with ⟨rfl, h0⟩ | ⟨g, cap, cur, rfl, _⟩
  · exact ⟨none, 0, by rw [h0]⟩
  · exact ⟨_, cap, rfl⟩
theorem results_put (tmps : Array Value) (j : Nat) (hj : 4 ≤ j) (v : Value) : results Tryz.f17 (tmps.setIfInBounds j v) = results Tryz.f17 tmps := by
  have h2 : j ≠ 2 := by omega
  have h3 : j ≠ 3 := by omega
  simp [results, Tryz.results17, Array.getElem?_setIfInBounds, h2, h3]
theorem leaves_eq {fn : Func} {tmps tmps' : Array Value} (h : results fn tmps = results fn tmps') (R : Ending → World → Prop) : ∀ (ds : List Deferred) (u : FrameMode) (w : World), Leaves Tryz.prog fn tmps R ds u w = Leaves Tryz.prog fn tmps' R ds u w
  | [], .returning, w => by simp only [Leaves, h]
  | [], .panicking chain, w => by simp only [Leaves]
  | [], .run, _ => by simp only [Leaves]
  | d :: ds, u, w => by simp only [Leaves, leaves_eq h R ds]
theorem bodyD_put (R : Ending → World → Prop) (c : List PanicEntry) (a : Act) (j : Nat) (hj : 4 ≤ j) (v : Value) (w : World) (h : bodyPostD Tryz.prog Tryz.f17 R (.panic c) (a.put (some j) v) w) : bodyPostD Tryz.prog Tryz.f17 R (.panic c) a w := by
  have e : Leaves Tryz.prog Tryz.f17 (a.tmps.setIfInBounds j v) R a.defers (.panicking c) w = Leaves Tryz.prog Tryz.f17 a.tmps R a.defers (.panicking c) w := leaves_eq (results_put _ j hj v) R _ _ _
  have h' : Leaves Tryz.prog Tryz.f17 (a.tmps.setIfInBounds j v) R a.defers (.panicking c) w := h
  rw [e] at h'
  exact h'
theorem cells2 (w : World) (x y : Value) (t : TypeId) : (w.alloc (.cells #[x, y] t)).cell? ⟨w.heap.size, 0, none⟩ = some x ∧ (w.alloc (.cells #[x, y] t)).cell? ⟨w.heap.size, 1, none⟩ = some y := by
  constructor <;> (rw [World.cell?_alloc_at _ _ _ _ rfl]; rfl)
theorem headers_cons (l : List UInt8) (ls : List (List UInt8)) (i : Nat) : headersL (l :: ls) i = if 32 ≤ i then .error 431 else match headerL l with
    | none => .error 400
    | some h => match headersL ls (i + 1) with
      | .error c => .error c
      | .ok hs => .ok (h :: hs) := rfl
/-- What stands while the headers are read. -/
structure S2 (w wr : World) (sb W2 : Nat) (ls : List (List UInt8)) (m t : List UInt8) (h : Value) (hs : List Hdr) : Prop where
  box : PBox wr w.heap.size (.string ⟨m.toArray⟩) (.string ⟨t.toArray⟩) h (.string ⟨#[]⟩) (.int .i64 0)
  own : OwnH wr W2 h hs
  lc : LC wr sb ls
  env : Env wr
  bel : Below w.heap.size w wr
  siz : W2 ≤ wr.heap.size
theorem S2.below {w wr wa : World} {sb W2 : Nat} {ls : List (List UInt8)} {m t : List UInt8} {h : Value} {hs : List Hdr} (k : S2 w wr sb W2 ls m t h hs) (h1 : w.heap.size + 1 < sb) (h2 : sb < W2) (hb : Below wr.heap.size wr wa) : S2 w wa sb W2 ls m t h hs :=
  ⟨k.box.below hb (by have := k.siz; omega), k.own.below hb (Nat.le_refl _), k.lc.below hb (by have := k.siz; omega), k.env.below hb, k.bel.trans (hb.mono (by have := k.siz; omega)), Nat.le_trans k.siz hb.size⟩
theorem S2.step {w wb wc : World} {sb W2 : Nat} {ls : List (List UInt8)} {m t : List UInt8} {h h' : Value} {hs hs' : List Hdr} (k : S2 w wb sb W2 ls m t h hs) (h1 : w.heap.size + 1 < sb) (h2 : sb < W2)
    (ho : OwnH wc W2 h' hs') (hb : Below W2 wb wc) : S2 w (wc.setCell ⟨w.heap.size, 2, none⟩ h') sb W2 ls m t h' hs' := by
  have hbx := k.box.below hb (show w.heap.size + 1 < W2 by omega)
  refine ⟨hbx.set2 h', ho.setCell (show w.heap.size < W2 by omega) _, (k.lc.below hb h2).setCell (show w.heap.size ≠ sb by omega) _, ?_, (k.bel.trans (hb.mono (by omega))).setCell (Nat.le_refl _) _, ?_⟩
  · obtain ⟨q, hq⟩ := k.env
    refine Env.setCell ⟨q, (hb.cell (show 0 < W2 by omega)).trans hq⟩ hbx.c2 (fun z e => ?_) _
    rcases k.own.2 with ⟨e', _⟩ | ⟨_, _, _, e', _⟩ <;> rw [e'] at e <;> cases e
  · have := hb.size
    have := k.siz
    have e : (wc.setCell ⟨w.heap.size, 2, none⟩ h').heap.size = wc.heap.size := by simp
    rw [e]
    omega
set_option maxHeartbeats 4000000 in
set_option maxRecDepth 100000 in
theorem done_end (w wx : World) (q : Req) {h : Value} (hP : PBox wx w.heap.size (.string ⟨q.m.toArray⟩) (.string ⟨q.p.toArray⟩) h (.string ⟨q.b.toArray⟩) (.int .i64 0)) (hH : Hdrs wx h q.hs) (hB : Below w.heap.size w wx) (tmps : Array Value)
    (h2 : tmps[2]?.getD undef = .pointer (some ⟨w.heap.size, 0, none⟩)) (h3 : tmps[3]?.getD undef = .pointer (some ⟨w.heap.size + 1, 0, none⟩)) :
    bodyPostD Tryz.prog Tryz.f17 (RetQ (.ok q) w) Exit.ret
      { tmps := tmps, defers := [{ target := Target.fn (Fn.func 34) #[.pointer (some ⟨w.heap.size, 0, none⟩), .pointer (some ⟨w.heap.size + 1, 0, none⟩)], args := #[] }] } wx := by
  refine leaves_cons (f := 34) (args := #[.pointer (some ⟨w.heap.size, 0, none⟩), .pointer (some ⟨w.heap.size + 1, 0, none⟩)]) (by simp) (by simp [go_sem]) ?_
  refine (catch_idle ⟨w.heap.size, 0, none⟩ ⟨w.heap.size + 1, 0, none⟩ _).mono ?_
  rintro e u' w'' ⟨rfl, rfl, rfl⟩
  obtain ⟨c0, c1, c2, c3, c4, -, -, -, -, -⟩ := hP
  simp [Leaves, settle, results, Tryz.results17, go_sem, h2, h3, c0, c1, c2, c3, c4]
  exact ⟨h, rfl, hH, hB⟩
theorem pbox_alloc {w : World} {B : Nat} {m p h b st : Value} (k : PBox w B m p h b st) (o : Obj) : PBox (w.alloc o) B m p h b st :=
  k.below ((Below.refl w.heap.size w).alloc (Nat.le_refl _) o) (lt_block k.c4)
theorem pbox_new (w : World) : PBox ((w.alloc (.cells #[.string ⟨#[]⟩, .string ⟨#[]⟩, .slice none 0 0, .string ⟨#[]⟩] 31)).alloc (.cells #[.int .i64 0] 3)) w.heap.size (.string ⟨#[]⟩) (.string ⟨#[]⟩) (.slice none 0 0) (.string ⟨#[]⟩) (.int .i64 0) := by
  have e : (w.alloc (.cells #[.string ⟨#[]⟩, .string ⟨#[]⟩, .slice none 0 0, .string ⟨#[]⟩] 31)).heap.size = w.heap.size + 1 := by simp
  have hb := Below.alloc (Below.refl _ (w.alloc (.cells #[.string ⟨#[]⟩, .string ⟨#[]⟩, .slice none 0 0, .string ⟨#[]⟩] 31))) (Nat.le_refl _) (.cells #[.int .i64 0] 3)
  have hlt : ∀ k, (⟨w.heap.size, k, none⟩ : Addr).block < (w.alloc (.cells #[.string ⟨#[]⟩, .string ⟨#[]⟩, .slice none 0 0, .string ⟨#[]⟩] 31)).heap.size := by intro k; simp
  constructor
  · rw [hb.cell (hlt 0), World.cell?_alloc_at _ _ _ _ rfl]; rfl
  · rw [hb.cell (hlt 1), World.cell?_alloc_at _ _ _ _ rfl]; rfl
  · rw [hb.cell (hlt 2), World.cell?_alloc_at _ _ _ _ rfl]; rfl
  · rw [hb.cell (hlt 3), World.cell?_alloc_at _ _ _ _ rfl]; rfl
  · rw [World.cell?_alloc_at _ _ _ _ (by rw [e])]; rfl
  · rw [hb.frozen (hlt 0)]; exact World.frozen?_alloc_new w _ _ 0
  · rw [hb.frozen (hlt 1)]; exact World.frozen?_alloc_new w _ _ 1
  · rw [hb.frozen (hlt 2)]; exact World.frozen?_alloc_new w _ _ 2
  · rw [hb.frozen (hlt 3)]; exact World.frozen?_alloc_new w _ _ 3
  · rw [← e]; exact World.frozen?_alloc_new _ _ _ 0
set_option maxHeartbeats 4000000 in
set_option maxRecDepth 100000 in
theorem parse_any (v : Value) (b : List UInt8) (w : World) (hv : Bsl w v b) (he : Env w) : Calls Tryz.prog 17 #[v] w (RetQ (parseL b) w) := by
  obtain ⟨A, c, rfl⟩ : ∃ A c, v = .slice A b.length c := hv.form
  have hmf : ∀ (fn : Fn) (first cap : Array Value) (w : World), (Instr.makeFunc fn first cap).run Tryz.prog w = .ok (.func fn first cap) w := fun _ _ _ _ => rfl
  have HV := Lib.hid hv
  have HE := Lib.hid he
  clear hv he
  obtain ⟨L, hL⟩ : ∃ L, parseL b = L := ⟨_, rfl⟩
  rw [hL]
  unfold parseL at hL
  have hcc : (convert 28 28 (.slice (some ⟨w.heap.size + 1 + 1, 0, none⟩) 4 4)).run Tryz.prog (((w.alloc (.cells #[.string ⟨#[]⟩, .string ⟨#[]⟩, .slice none 0 0, .string ⟨#[]⟩] 31)).alloc (.cells #[.int .i64 0] 3)).alloc (.cells #[.int .u8 13, .int .u8 10, .int .u8 13, .int .u8 10] 5)) = .ok (.slice (some ⟨w.heap.size + 1 + 1, 0, none⟩) 4 4) (((w.alloc (.cells #[.string ⟨#[]⟩, .string ⟨#[]⟩, .slice none 0 0, .string ⟨#[]⟩] 31)).alloc (.cells #[.int .i64 0] 3)).alloc (.cells #[.int .u8 13, .int .u8 10, .int .u8 13, .int .u8 10] 5 (4, 5))) :=
    Joins.run_convert_bytes_const_at _ 28 5 _ 4 4 _ (by simp) Tryz.underlying28 Tryz.underlying5
  have HP0 : Hid (PBox ((w.alloc (.cells #[.string ⟨#[]⟩, .string ⟨#[]⟩, .slice none 0 0, .string ⟨#[]⟩] 31)).alloc (.cells #[.int .i64 0] 3)) w.heap.size (.string ⟨#[]⟩) (.string ⟨#[]⟩) (.slice none 0 0) (.string ⟨#[]⟩) (.int .i64 0)) := Lib.hid (pbox_new w)
  have HB0 : Hid (Below w.heap.size w ((w.alloc (.cells #[.string ⟨#[]⟩, .string ⟨#[]⟩, .slice none 0 0, .string ⟨#[]⟩] 31)).alloc (.cells #[.int .i64 0] 3))) := Lib.hid (((Below.refl _ _).alloc (Nat.le_refl _) _).alloc (by simp) _)
  have hix := idx_any (.slice A b.length c) b ((w.alloc (.cells #[.string ⟨#[]⟩, .string ⟨#[]⟩, .slice none 0 0, .string ⟨#[]⟩] 31)).alloc (.cells #[.int .i64 0] 3)) (HV.out.below HB0.out (Nat.le_refl _)) ((HE.out.alloc _).alloc _) (w.heap.size + 1 + 1) (by simp) (4, 5)
  have hroom := Lib.index_room b sep4
  generalize Lib.index b sep4 = i at *
  have HL := Lib.hid hL
  clear hL
  go_enter_defers Tryz.func17, Tryz.ntmps17
  go_wp2_with fail
  go_at_call 35
  refine hix.mono ?_
  rintro e w1 ⟨rfl, hb⟩
  have HP1 := Lib.hid ((pbox_alloc HP0.out _).below hb (by simp))
  have HB1 := Lib.hid ((HB0.out.alloc (by simp; omega) _).trans (hb.mono (by simp; omega)))
  clear hb
  have hL2 := HL.out
  clear HL
  by_cases i0 : i < 0
  case pos =>
    have j0 : decide (0 ≤ i) = false := decide_eq_false (by omega)
    have j1 : decide (i ≤ 65536) = true := decide_eq_true (by omega)
    by_cases hn : 65536 < b.length
    · have j2 : decide ((b.length : Int) ≤ 65536) = false := decide_eq_false (by omega)
      rw [if_pos ⟨i0, hn⟩] at hL2
      subst hL2
      clear i0 hn hroom
      go_wp2_with (go_at_call 36; refine (check_any _ _ _).mono ?_; rintro e w' ⟨rfl, rfl⟩; dsimp only [ckE])
      exact fail_end w w1 431 HP1.out HB1.out _ rfl rfl
    · have j2 : decide ((b.length : Int) ≤ 65536) = true := decide_eq_true (by omega)
      rw [if_neg (fun h => hn h.2), if_neg (by omega), if_pos i0] at hL2
      subst hL2
      clear i0 hn hroom
      go_wp2_with (go_at_call 36; refine (check_any _ _ _).mono ?_; rintro e w' ⟨rfl, rfl⟩; dsimp only [ckE])
      exact fail_end w w1 400 HP1.out HB1.out _ rfl rfl
  have j0 : decide (0 ≤ i) = true := decide_eq_true (by omega)
  by_cases i1 : 65536 < i
  case pos =>
    have j1 : decide (i ≤ 65536) = false := decide_eq_false (by omega)
    rw [if_neg (fun h => i0 h.1), if_pos i1] at hL2
    subst hL2
    clear i0 i1 hroom
    go_wp2_with (go_at_call 36; refine (check_any _ _ _).mono ?_; rintro e w' ⟨rfl, rfl⟩; dsimp only [ckE])
    exact fail_end w w1 431 HP1.out HB1.out _ rfl rfl
  have j1 : decide (i ≤ 65536) = true := decide_eq_true (by omega)
  rw [if_neg (fun h => i0 h.1), if_neg i1, if_neg i0] at hL2
  obtain ⟨E, rfl⟩ : ∃ E : Nat, i = (E : Int) := ⟨i.toNat, by omega⟩
  rw [Int.toNat_natCast] at hL2
  have hroom2 : E + 4 ≤ b.length := by
    have := hroom (by omega)
    have e4 : (sep4.length : Int) = 4 := rfl
    rw [e4] at this
    omega
  have hE : E ≤ 65536 := by omega
  clear i0 i1 hroom
  obtain ⟨hl, ⟨-, -, -, rfl, -⟩ | ⟨blk, off, c', hvv, hcap, hblk, hcell⟩⟩ := HV.out
  · exact absurd hroom2 (by simp)
  injection hvv with hA hc1 hc2
  subst hA hc2
  have HL2 := Lib.hid hL2
  have HCELL := Lib.hid hcell
  have HROOM := Lib.hid hroom2
  clear hL2 hcell
  have hto := to_slice blk off b.length c E (by omega)
  have hcv := conv_some w1 blk off E c (b.take E) (by simp; omega) (fun j hj => by
    rw [List.length_take] at hj
    rw [HB1.out.cell (show blk < w.heap.size from hblk), HCELL.out j (by omega)]
    simp)
  have HE1 := Lib.hid (HE.out.below HB1.out)
  have hsp := split_any (b.take E) [13, 10] (by decide) (by simp; omega) w1 HE1.out
  have HLEN : Hid (∀ x ∈ lns (b.take E) [13, 10], x.length < 4294967281) := Lib.hid (fun x hx => by
    have := lns_mem_len (b.take E) [13, 10] hx
    rw [List.length_take] at this
    omega)
  have hlb := lns_len (b.take E) [13, 10] (by decide)
  have hln1 := hlb.1
  have hln2 : (lns (b.take E) [13, 10]).length ≤ 65537 := by have := hlb.2; rw [List.length_take] at this; omega
  clear hlb hroom2
  generalize lns (b.take E) [13, 10] = ls at *
  have HCAP := Lib.hid hcap
  clear hcap
  go_wp2_with (go_at_call 36; refine (check_any _ _ _).mono ?_; rintro e w' ⟨rfl, rfl⟩; dsimp only [ckE])
  go_at_call 37
  refine hsp.mono ?_
  rintro e w2 ⟨rfl, hw2⟩
  have HC2 : Hid (LC w2 w1.heap.size ls) := Lib.hid (by rw [← hw2]; exact LC.new w1 ls)
  have HB12 : Hid (Below w1.heap.size w1 w2) := Lib.hid (by rw [← hw2]; exact (Below.refl _ _).alloc (Nat.le_refl _) _)
  have HS2 : Hid (w1.heap.size < w2.heap.size) := Lib.hid (by rw [← hw2]; simp)
  have HP2 := Lib.hid (HP1.out.below HB12.out (lt_block HP1.out.c4))
  have HB2 := Lib.hid (HB1.out.trans (HB12.out.mono HB1.out.size))
  have HE2 := Lib.hid (HE1.out.below HB12.out)
  have HBS := Lib.hid (lt_block HP1.out.c4)
  clear hw2 hsp hto hcv hcc hix
  obtain ⟨sb, hsb⟩ : ∃ sb, w1.heap.size = sb := ⟨_, rfl⟩
  rw [hsb] at HC2 HS2 HBS
  rw [hsb]
  have HSB := Lib.hid hsb
  clear hsb
  go_wp2_with fail
  go_loopw [37] (fun j wr => ∃ k : Nat, k ≤ ls.length ∧ j = .int .i64 (k : Int) ∧ Hid ((ls.take k).any crL = false) ∧ Hid (Below w2.heap.size w2 wr)) (fun j _ => ls.length - (intOf j).toNat)
  case atStart => exact ⟨0, by omega, rfl, Lib.hid rfl, Lib.hid (Below.refl _ _)⟩
  case round =>
    obtain ⟨k, hk, rfl, HA, HBr⟩ := hrel
    have HPr := Lib.hid (HP2.out.below HBr.out (lt_block HP2.out.c4))
    have HBw := Lib.hid (HB2.out.trans (HBr.out.mono HB2.out.size))
    have HCr := Lib.hid (HC2.out.below HBr.out HS2.out)
    by_cases hlt : k < ls.length
    · obtain ⟨x, hx⟩ : ∃ x, ls[k]'hlt = x := ⟨_, rfl⟩
      have hck := HCr.out k hlt
      rw [hx] at hck
      have hh := has_any x (HLEN.out x (by rw [← hx]; exact List.getElem_mem hlt))
      obtain ⟨u, hu⟩ : ∃ u, crL x = u := ⟨_, rfl⟩
      rw [hu] at hh
      have HX := Lib.hid hx
      have HU := Lib.hid hu
      clear hx hu
      cases u
      · have HA2 : Hid ((ls.take (k + 1)).any crL = false) := Lib.hid (by
          rw [List.take_succ_eq_append_getElem hlt, List.any_append, HA.out, HX.out]
          simp [HU.out])
        go_wp2_with (first | (go_at_call 36; refine (check_any _ _ _).mono ?_; rintro e w' ⟨rfl, rfl⟩; dsimp only [ckE]) | (go_at_call 38; refine (hh _).mono ?_; rintro e w3 ⟨rfl, hb⟩; have HB3 := Lib.hid (HBr.out.trans (hb.mono HBr.out.size)); clear hb))
        exact ⟨⟨k + 1, by omega, by go_num, HA2, HB3⟩, by simp [intOf]; omega⟩
      · have HF : Hid (ls.any crL = true) := Lib.hid (List.any_eq_true.2 ⟨x, by rw [← HX.out]; exact List.getElem_mem hlt, HU.out⟩)
        have hL2 := HL2.out
        rw [if_pos HF.out] at hL2
        subst hL2
        go_wp2_with (first | (go_at_call 36; refine (check_any _ _ _).mono ?_; rintro e w' ⟨rfl, rfl⟩; dsimp only [ckE]) | (go_at_call 38; refine (hh _).mono ?_; rintro e w3 ⟨rfl, hb⟩; have HB3 := Lib.hid hb; clear hb))
        exact fail_end w _ 400 (HPr.out.below HB3.out (lt_block HPr.out.c4)) (HBw.out.trans (HB3.out.mono HBw.out.size)) _ rfl rfl
    · have HF : Hid (ls.any crL = false) := Lib.hid (by have := HA.out; rwa [List.take_of_length_le (by omega)] at this)
      have hL2 := HL2.out
      rw [if_neg (by rw [HF.out]; decide)] at hL2
      have HL3 := Lib.hid hL2
      clear hL2 HL2
      obtain ⟨l0, r, rfl⟩ : ∃ l0 r, ls = l0 :: r := by
        cases ls with
        | nil => exact absurd hln1 (by decide)
        | cons l0 r => exact ⟨l0, r, rfl⟩
      simp only [List.length_cons] at hlt hk
      have hc0 := HCr.out 0 (by simp)
      rw [List.getElem_cons_zero] at hc0
      have HEr := Lib.hid (HE2.out.below HBr.out)
      have hfst := first_any l0 (HLEN.out l0 (by simp)) wr HEr.out
      have hL3 := HL3.out
      clear HL3
      unfold linesL at hL3
      simp only at hL3
      have HS2r := Lib.hid (Nat.le_trans (Nat.le_of_lt HS2.out) HBr.out.size)
      cases hf : firstL l0 with
      | error cf =>
        rw [hf] at hfst hL3
        simp only at hL3
        subst hL3
        have hfst' : Calls Tryz.prog 39 #[.string ⟨l0.toArray⟩] wr (PanN cf wr) := hfst
        clear hf hfst
        go_wp2_with (go_at_call 39; refine hfst'.mono ?_; rintro e w3 ⟨rfl, hb⟩; have HB3 := Lib.hid hb; clear hb)
        exact fail_end w _ cf (HPr.out.below HB3.out (lt_block HPr.out.c4)) (HBw.out.trans (HB3.out.mono HBw.out.size)) _ rfl rfl
      | ok mt =>
        obtain ⟨m, t⟩ := mt
        rw [hf] at hfst hL3
        simp only at hL3
        have HL4 := Lib.hid hL3
        clear hL3 hf
        have hfst' : Calls Tryz.prog 39 #[.string ⟨l0.toArray⟩] wr (RetV (.tuple #[.string ⟨m.toArray⟩, .string ⟨t.toArray⟩]) wr) := hfst
        clear hfst
        obtain ⟨A1, hA1, hsl⟩ := from_slice 64 9 Tryz.underlying64 Tryz.sizeOf9 sb 0 (r.length + 1) (r.length + 1) 1 (by omega) (by omega)
        have hsl' : ∀ w, (Instr.slice 64 (.slice (some ⟨sb, 0, none⟩) (r.length + 1) (r.length + 1)) (some (.int .i64 1)) none none).run Tryz.prog w = .ok (.slice A1 r.length r.length) w := by simpa using hsl
        have HA1 : Hid (0 < r.length → A1 = some ⟨sb, 1, none⟩) := Lib.hid (by simpa using hA1)
        clear hsl hA1
        go_wp2_with (go_at_call 39; refine hfst'.mono ?_; rintro e w3 ⟨rfl, hb⟩; have HB3 := Lib.hid hb; obtain ⟨p0, p1, -, -, -, y0, y1, -, -, -⟩ := HPr.out.below hb (lt_block HPr.out.c4); clear hb)
        have HP3 := Lib.hid (HPr.out.below HB3.out (lt_block HPr.out.c4))
        have HS3 : Hid (S2 w ((w3.setCell ⟨w.heap.size, 0, none⟩ (.string ⟨m.toArray⟩)).setCell ⟨w.heap.size, 1, none⟩ (.string ⟨t.toArray⟩)) sb w2.heap.size (l0 :: r) m t (.slice none 0 0) []) := Lib.hid (by
          have h1 := HBS.out
          have hEn := HEr.out.below HB3.out
          refine ⟨HP3.out.set01 _ _, OwnH.nil _ _, ((HCr.out.below HB3.out (Nat.lt_of_lt_of_le HS2.out HBr.out.size)).setCell (by show w.heap.size ≠ sb; omega) _).setCell (by show w.heap.size ≠ sb; omega) _, ?_, (((HBw.out.trans (HB3.out.mono HBw.out.size))).setCell (Nat.le_refl _) _).setCell (Nat.le_refl _) _, ?_⟩
          · exact (hEn.setCell HP3.out.c0 (fun _ e => by cases e) _).setCell (by rw [World.cell?_setCell_other _ _ _ _ (fun e => by injection e with _ e; cases e)]; exact HP3.out.c1) (fun _ e => by cases e) _
          · have := Nat.le_trans HBr.out.size HB3.out.size
            simpa using this)
        go_loopw [58] (fun j wq => ∃ (k : Nat) (hvv : Value) (hs : List Hdr), k ≤ r.length ∧ j = .int .i64 (k : Int) ∧ k ≤ 32 ∧ hs.length = k ∧ Hid (S2 w wq sb w2.heap.size (l0 :: r) m t hvv hs) ∧ Hid (headersL r 0 = match headersL (r.drop k) k with | .error c => .error c | .ok q => .ok (hs ++ q))) (fun j _ => r.length - (intOf j).toNat)
        case atStart => exact ⟨0, _, [], by omega, rfl, by omega, rfl, HS3, Lib.hid (by rw [List.drop_zero]; cases headersL r 0 <;> rfl)⟩
        case round =>
          obtain ⟨k2, hvv, hs, hk2, rfl, hk32, hlen, HSk, HH⟩ := hrel
          have h1 := HBS.out
          have h2 := HS2.out
          obtain ⟨g0, g1, g2, g3, g4, y0, y1, y2, y3, y4⟩ := HSk.out.box
          by_cases hlt2 : k2 < r.length
          · have hA := HA1.out (by omega)
            subst hA
            obtain ⟨x, hx⟩ : ∃ x, r[k2]'hlt2 = x := ⟨_, rfl⟩
            have hck : wr.cell? ⟨sb, 1 + k2, none⟩ = some (.string ⟨x.toArray⟩) := by
              have := HSk.out.lc (k2 + 1) (by simp; omega)
              rw [List.getElem_cons_succ, hx] at this
              rw [Nat.add_comm]; exact this
            have hdrop : r.drop k2 = x :: r.drop (k2 + 1) := by rw [List.drop_eq_getElem_cons hlt2, hx]
            have hxl := HLEN.out x (by rw [← hx]; exact List.mem_cons_of_mem _ (List.getElem_mem hlt2))
            have HH2 := HH.out
            rw [hdrop, headers_cons] at HH2
            by_cases h32 : 32 ≤ k2
            · have f32 : decide ((k2 : Int) < 32) = false := decide_eq_false (by omega)
              rw [if_pos h32] at HH2
              simp only at HH2
              have hL5 := HL4.out
              rw [HH2] at hL5
              simp only at hL5
              subst hL5
              clear HH2 hx hdrop h32
              go_wp2_with (go_at_call 36; refine (check_any _ _ _).mono ?_; rintro e w' ⟨rfl, rfl⟩; dsimp only [ckE])
              exact fail_end w _ 431 HSk.out.box HSk.out.bel _ rfl rfl
            · have f32 : decide ((k2 : Int) < 32) = true := decide_eq_true (by omega)
              rw [if_neg h32] at HH2
              have hh := fun wz (hz : Env wz) => header_any x (by omega) wz hz
              cases hd : headerL x with
              | none =>
                rw [hd] at hh HH2
                simp only at hh HH2
                have hL5 := HL4.out
                rw [HH2] at hL5
                simp only at hL5
                subst hL5
                clear HH2 hx hdrop h32 hd
                go_wp2_with (go_at_call 36; refine (check_any _ _ _).mono ?_; rintro e w' ⟨rfl, rfl⟩; dsimp only [ckE])
                refine wp_region_any (by kernel_rfl) ?_
                (try (change wpAny _ _ _ _ _ _ _ (World.drew _)))
                refine wpAny_take (i := 0) (v := .pointer (some ⟨w.heap.size, 2, none⟩)) rfl (by kernel_rfl) (by kernel_rfl) (by kernel_rfl) (fun c a w h => bodyD_put _ c a 66 (by decide) _ w h) (Or.inl ⟨by rfl, ?_⟩) ?_
                · intro w
                  go_simp
                refine wpAny_take (i := 2) (v := .string ⟨x.toArray⟩) rfl (by kernel_rfl) (by kernel_rfl) (by kernel_rfl) (fun c a w h => bodyD_put _ c a 68 (by decide) _ w h) (Or.inl ⟨by rfl, ?_⟩) ?_
                · intro w
                  go_simp
                refine wpAny_ready (rs := [1, 3]) (by kernel_rfl) (by simp) ?_
                refine (AllReady.cons (i := 1) rfl (fun K hK => ?_) (AllReady.cons (i := 3) rfl (fun K hK => ?_) AllReady.nil))
                · go_simp
                  refine hK _ _ ?_
                  clear hK K
                  refine wpAny_ready (rs := [3]) (by kernel_rfl) (by simp) ?_
                  refine (AllReady.cons (i := 3) rfl (fun K hK => ?_) AllReady.nil)
                  go_simp
                  go_at_call 40
                  refine (hh _ (by exact HSk.out.env)).mono ?_
                  rintro e w4 ⟨rfl, hb⟩
                  have HB4 := Lib.hid ((HSk.out.below h1 h2 ((Below.refl _ _).drew)).below h1 h2 hb)
                  obtain ⟨-, -, e2, -, -, -, -, -, -, -⟩ := HB4.out.box
                  clear hb
                  exact fail_end w _ 400 HB4.out.box HB4.out.bel _ rfl rfl
                · go_simp
                  go_at_call 40
                  refine (hh _ (by exact HSk.out.env)).mono ?_
                  rintro e w4 ⟨rfl, hb⟩
                  have HB4 := Lib.hid ((HSk.out.below h1 h2 ((Below.refl _ _).drew)).below h1 h2 hb)
                  obtain ⟨-, -, e2, -, -, -, -, -, -, -⟩ := HB4.out.box
                  clear hb
                  exact fail_end w _ 400 HB4.out.box HB4.out.bel _ rfl rfl
              | some nv =>
                obtain ⟨n, v⟩ := nv
                rw [hd] at hh HH2
                simp only at hh HH2
                have HHn : Hid (headersL r 0 = match headersL (r.drop (k2 + 1)) (k2 + 1) with | .error c => .error c | .ok q => .ok ((hs ++ [(n, v)]) ++ q)) := Lib.hid (by
                  rw [HH2]
                  cases headersL (r.drop (k2 + 1)) (k2 + 1) with
                  | error c => rfl
                  | ok q => simp)
                clear HH2 hx hdrop hd
                go_wp2_with (go_at_call 36; refine (check_any _ _ _).mono ?_; rintro e w' ⟨rfl, rfl⟩; dsimp only [ckE])
                refine wp_region_any (by kernel_rfl) ?_
                (try (change wpAny _ _ _ _ _ _ _ (World.drew _)))
                refine wpAny_take (i := 0) (v := .pointer (some ⟨w.heap.size, 2, none⟩)) rfl (by kernel_rfl) (by kernel_rfl) (by kernel_rfl) (fun c a w h => bodyD_put _ c a 66 (by decide) _ w h) (Or.inl ⟨by rfl, ?_⟩) ?_
                · intro w
                  go_simp
                refine wpAny_take (i := 2) (v := .string ⟨x.toArray⟩) rfl (by kernel_rfl) (by kernel_rfl) (by kernel_rfl) (fun c a w h => bodyD_put _ c a 68 (by decide) _ w h) (Or.inl ⟨by rfl, ?_⟩) ?_
                · intro w
                  go_simp
                refine wpAny_ready (rs := [1, 3]) (by kernel_rfl) (by simp) ?_
                refine (AllReady.cons (i := 1) rfl (fun K hK => ?_) (AllReady.cons (i := 3) rfl (fun K hK => ?_) AllReady.nil))
                · go_simp
                  refine hK _ _ ?_
                  clear hK K
                  refine wpAny_ready (rs := [3]) (by kernel_rfl) (by simp) ?_
                  refine (AllReady.cons (i := 3) rfl (fun K hK => ?_) AllReady.nil)
                  go_simp
                  go_at_call 40
                  refine (hh _ (by exact HSk.out.env)).mono ?_
                  rintro e w4 ⟨rfl, hb⟩
                  have HB4 := Lib.hid ((HSk.out.below h1 h2 ((Below.refl _ _).drew)).below h1 h2 hb)
                  obtain ⟨-, -, e2, -, -, -, -, -, -, -⟩ := HB4.out.box
                  clear hb
                  have e2' := (HB4.out.below h1 h2 ((Below.refl _ _).alloc (Nat.le_refl _) (.cells #[.string ⟨n.toArray⟩, .string ⟨v.toArray⟩] 44))).box.c2
                  refine hK _ _ ?_
                  clear hK K
                  refine wpAny_ready (rs := [4]) (by kernel_rfl) (by simp) ?_
                  refine (AllReady.cons (i := 4) rfl (fun K hK => ?_) AllReady.nil)
                  go_simp
                  refine hK _ _ ?_
                  clear hK K
                  refine wpAny_ready (rs := [5]) (by kernel_rfl) (by simp) ?_
                  refine (AllReady.cons (i := 5) rfl (fun K hK => ?_) AllReady.nil)
                  refine step_appH rfl (.tmp 67) (.tmp 70) rfl (B := w2.heap.size) (v := hvv) (hs := hs) rfl (by exact (HB4.out.below h1 h2 ((Below.refl _ _).alloc (Nat.le_refl _) _)).own) rfl (h1 := (n, v)) (by exact (cells2 w4 _ _ 44).1) (by exact (cells2 w4 _ _ 44).2) (by omega) (by exact Nat.le_trans HB4.out.siz (by simp)) ?_
                  intro h' w5 ho hb5 _
                  have hf5 := ho.form
                  rw [show (hs ++ [(n, v)]).length = k2 + 1 by simp [hlen]] at hf5
                  obtain ⟨A5, c5, rfl⟩ := hf5
                  have HS5 := Lib.hid ((HB4.out.below h1 h2 ((Below.refl _ _).alloc (Nat.le_refl _) (.cells #[.string ⟨n.toArray⟩, .string ⟨v.toArray⟩] 44))).step h1 h2 ho hb5)
                  obtain ⟨-, -, q2, -, -, -, -, p2, -, -⟩ := (HB4.out.below h1 h2 ((Below.refl _ _).alloc (Nat.le_refl _) (.cells #[.string ⟨n.toArray⟩, .string ⟨v.toArray⟩] 44))).box.below hb5 (by omega)
                  clear ho hb5
                  refine hK _ _ ?_
                  clear hK K
                  refine wpAny_ready (rs := [6]) (by kernel_rfl) (by simp) ?_
                  refine (AllReady.cons (i := 6) rfl (fun K hK => ?_) AllReady.nil)
                  go_simp
                  refine hK _ _ ?_
                  clear hK K
                  refine wpAny_ready (rs := [7]) (by kernel_rfl) (by simp) ?_
                  refine (AllReady.cons (i := 7) rfl (fun K hK => ?_) AllReady.nil)
                  go_simp
                  refine hK _ _ ?_
                  clear hK K
                  refine wpAny_done (by kernel_rfl) ?_ _
                  go_wp2_with fail
                  exact ⟨⟨k2 + 1, _, hs ++ [(n, v)], by omega, by go_num, by omega, by simp [hlen], HS5, HHn⟩, by simp [intOf]; omega⟩
                · go_simp
                  go_at_call 40
                  refine (hh _ (by exact HSk.out.env)).mono ?_
                  rintro e w4 ⟨rfl, hb⟩
                  have HB4 := Lib.hid ((HSk.out.below h1 h2 ((Below.refl _ _).drew)).below h1 h2 hb)
                  obtain ⟨-, -, e2, -, -, -, -, -, -, -⟩ := HB4.out.box
                  clear hb
                  have e2' := (HB4.out.below h1 h2 ((Below.refl _ _).alloc (Nat.le_refl _) (.cells #[.string ⟨n.toArray⟩, .string ⟨v.toArray⟩] 44))).box.c2
                  refine hK _ _ ?_
                  clear hK K
                  refine wpAny_ready (rs := [1, 4]) (by kernel_rfl) (by simp) ?_
                  refine (AllReady.cons (i := 1) rfl (fun K hK => ?_) (AllReady.cons (i := 4) rfl (fun K hK => ?_) AllReady.nil))
                  · go_simp
                    refine hK _ _ ?_
                    clear hK K
                    refine wpAny_ready (rs := [4]) (by kernel_rfl) (by simp) ?_
                    refine (AllReady.cons (i := 4) rfl (fun K hK => ?_) AllReady.nil)
                    go_simp
                    refine hK _ _ ?_
                    clear hK K
                    refine wpAny_ready (rs := [5]) (by kernel_rfl) (by simp) ?_
                    refine (AllReady.cons (i := 5) rfl (fun K hK => ?_) AllReady.nil)
                    refine step_appH rfl (.tmp 67) (.tmp 70) rfl (B := w2.heap.size) (v := hvv) (hs := hs) rfl (by exact (HB4.out.below h1 h2 ((Below.refl _ _).alloc (Nat.le_refl _) _)).own) rfl (h1 := (n, v)) (by exact (cells2 w4 _ _ 44).1) (by exact (cells2 w4 _ _ 44).2) (by omega) (by exact Nat.le_trans HB4.out.siz (by simp)) ?_
                    intro h' w5 ho hb5 _
                    have hf5 := ho.form
                    rw [show (hs ++ [(n, v)]).length = k2 + 1 by simp [hlen]] at hf5
                    obtain ⟨A5, c5, rfl⟩ := hf5
                    have HS5 := Lib.hid ((HB4.out.below h1 h2 ((Below.refl _ _).alloc (Nat.le_refl _) (.cells #[.string ⟨n.toArray⟩, .string ⟨v.toArray⟩] 44))).step h1 h2 ho hb5)
                    obtain ⟨-, -, q2, -, -, -, -, p2, -, -⟩ := (HB4.out.below h1 h2 ((Below.refl _ _).alloc (Nat.le_refl _) (.cells #[.string ⟨n.toArray⟩, .string ⟨v.toArray⟩] 44))).box.below hb5 (by omega)
                    clear ho hb5
                    refine hK _ _ ?_
                    clear hK K
                    refine wpAny_ready (rs := [6]) (by kernel_rfl) (by simp) ?_
                    refine (AllReady.cons (i := 6) rfl (fun K hK => ?_) AllReady.nil)
                    go_simp
                    refine hK _ _ ?_
                    clear hK K
                    refine wpAny_ready (rs := [7]) (by kernel_rfl) (by simp) ?_
                    refine (AllReady.cons (i := 7) rfl (fun K hK => ?_) AllReady.nil)
                    go_simp
                    refine hK _ _ ?_
                    clear hK K
                    refine wpAny_done (by kernel_rfl) ?_ _
                    go_wp2_with fail
                    exact ⟨⟨k2 + 1, _, hs ++ [(n, v)], by omega, by go_num, by omega, by simp [hlen], HS5, HHn⟩, by simp [intOf]; omega⟩
                  · go_simp
                    refine hK _ _ ?_
                    clear hK K
                    refine wpAny_ready (rs := [1]) (by kernel_rfl) (by simp) ?_
                    refine (AllReady.cons (i := 1) rfl (fun K hK => ?_) AllReady.nil)
                    go_simp
                    refine hK _ _ ?_
                    clear hK K
                    refine wpAny_ready (rs := [5]) (by kernel_rfl) (by simp) ?_
                    refine (AllReady.cons (i := 5) rfl (fun K hK => ?_) AllReady.nil)
                    refine step_appH rfl (.tmp 67) (.tmp 70) rfl (B := w2.heap.size) (v := hvv) (hs := hs) rfl (by exact (HB4.out.below h1 h2 ((Below.refl _ _).alloc (Nat.le_refl _) _)).own) rfl (h1 := (n, v)) (by exact (cells2 w4 _ _ 44).1) (by exact (cells2 w4 _ _ 44).2) (by omega) (by exact Nat.le_trans HB4.out.siz (by simp)) ?_
                    intro h' w5 ho hb5 _
                    have hf5 := ho.form
                    rw [show (hs ++ [(n, v)]).length = k2 + 1 by simp [hlen]] at hf5
                    obtain ⟨A5, c5, rfl⟩ := hf5
                    have HS5 := Lib.hid ((HB4.out.below h1 h2 ((Below.refl _ _).alloc (Nat.le_refl _) (.cells #[.string ⟨n.toArray⟩, .string ⟨v.toArray⟩] 44))).step h1 h2 ho hb5)
                    obtain ⟨-, -, q2, -, -, -, -, p2, -, -⟩ := (HB4.out.below h1 h2 ((Below.refl _ _).alloc (Nat.le_refl _) (.cells #[.string ⟨n.toArray⟩, .string ⟨v.toArray⟩] 44))).box.below hb5 (by omega)
                    clear ho hb5
                    refine hK _ _ ?_
                    clear hK K
                    refine wpAny_ready (rs := [6]) (by kernel_rfl) (by simp) ?_
                    refine (AllReady.cons (i := 6) rfl (fun K hK => ?_) AllReady.nil)
                    go_simp
                    refine hK _ _ ?_
                    clear hK K
                    refine wpAny_ready (rs := [7]) (by kernel_rfl) (by simp) ?_
                    refine (AllReady.cons (i := 7) rfl (fun K hK => ?_) AllReady.nil)
                    go_simp
                    refine hK _ _ ?_
                    clear hK K
                    refine wpAny_done (by kernel_rfl) ?_ _
                    go_wp2_with fail
                    exact ⟨⟨k2 + 1, _, hs ++ [(n, v)], by omega, by go_num, by omega, by simp [hlen], HS5, HHn⟩, by simp [intOf]; omega⟩
          · have heq : headersL r 0 = .ok hs := by
              rw [HH.out, List.drop_of_length_le (by omega)]
              simp [headersL]
            have hL5 := HL4.out
            rw [heq] at hL5
            simp only at hL5
            obtain ⟨A9, c9, hv9⟩ := HSk.out.own.form
            rw [hlen] at hv9
            subst hv9
            have hln := fun wz (hz : Hdrs wz (.slice A9 k2 c9) hs) => length_any hs _ wz hz
            have HHd := Lib.hid (HSk.out.own.hdrs (by omega))
            cases hq : lengthL hs with
            | error cq =>
              rw [hq] at hL5 hln
              simp only at hL5 hln
              subst hL5
              clear heq hq
              go_wp2_with (go_at_call 41; refine (hln _ HHd.out).mono ?_; rintro e w4 ⟨rfl, hb⟩; have HB4 := Lib.hid (HSk.out.below h1 h2 hb); clear hb)
              exact fail_end w _ cq HB4.out.box HB4.out.bel _ rfl rfl
            | ok N =>
              rw [hq] at hL5 hln
              simp only at hL5 hln
              clear heq hq
              obtain ⟨A2, hA2, hsl2⟩ := from_slice 28 5 Tryz.underlying28 Tryz.sizeOf5 blk off b.length c (E + 4) HROOM.out HCAP.out
              have ecast : ((E + 4 : Nat) : Int) = (E : Int) + 4 := by omega
              rw [ecast] at hsl2
              obtain ⟨bd, hbd⟩ : ∃ bd, b.drop (E + 4) = bd := ⟨_, rfl⟩
              have hbl : b.length - (E + 4) = bd.length := by rw [← hbd, List.length_drop]
              rw [hbl] at hsl2 hA2
              rw [hbd] at hL5
              obtain ⟨c2, hc2⟩ : ∃ c2, c - (E + 4) = c2 := ⟨_, rfl⟩
              rw [hc2] at hsl2
              have HCV : Hid (∀ wz, Below w.heap.size w wz → (convert 28 9 (.slice A2 bd.length c2)).run Tryz.prog wz = .ok (.string ⟨bd.toArray⟩) wz) := Lib.hid (fun wz hz => by
                rcases Nat.eq_zero_or_pos bd.length with h0 | h0
                · rw [h0, List.eq_nil_of_length_eq_zero h0]; exact conv_zero wz A2 c2
                · rw [hA2 h0]
                  refine conv_some wz blk (off + (E + 4)) bd.length c2 bd rfl (fun j hj => ?_)
                  have h5 := HROOM.out
                  have h6 := HCELL.out (E + 4 + j) (by omega)
                  rw [hz.cell (show blk < w.heap.size from hblk), Nat.add_assoc, h6]
                  simp [← hbd])
              have hbm : Hid (bd.length ≤ 4294967280) := Lib.hid (by have := hl; omega)
              clear hA2 hbd hbl hc2 ecast
              by_cases hN : bd.length = N
              case neg =>
                rw [if_pos hN] at hL5
                subst hL5
                have fN : ((bd.length : Int) == (N : Int)) = false := beq_false_of_ne (by omega)
                clear hN
                go_wp2_with (first | (go_at_call 36; refine (check_any _ _ _).mono ?_; rintro e w' ⟨rfl, rfl⟩; dsimp only [ckE]) | (go_at_call 41; refine (hln _ HHd.out).mono ?_; rintro e w4 ⟨rfl, hb⟩; have HB4 := Lib.hid (HSk.out.below h1 h2 hb); have hcv4 := HCV.out _ HB4.out.bel; obtain ⟨f0, f1, f2, f3, f4, x0, x1, x2, x3, x4⟩ := HB4.out.box; have k3 := fun u => (HB4.out.box.set3 u).c3; clear hb))
                exact fail_end w _ 400 (HB4.out.box.set3 _) (HB4.out.bel.setCell (Nat.le_refl _) _) _ rfl rfl
              rw [if_neg (by simpa using hN)] at hL5
              subst hL5
              have fN : ((bd.length : Int) == (N : Int)) = true := by rw [hN]; simp
              clear hN
              go_wp2_with (first | (go_at_call 36; refine (check_any _ _ _).mono ?_; rintro e w' ⟨rfl, rfl⟩; dsimp only [ckE]) | (go_at_call 41; refine (hln _ HHd.out).mono ?_; rintro e w4 ⟨rfl, hb⟩; have HB4 := Lib.hid (HSk.out.below h1 h2 hb); have hcv4 := HCV.out _ HB4.out.bel; obtain ⟨f0, f1, f2, f3, f4, x0, x1, x2, x3, x4⟩ := HB4.out.box; have k3 := fun u => (HB4.out.box.set3 u).c3; obtain ⟨m0, m1, m2, m3, m4, -, -, -, -, -⟩ := HB4.out.box.set3 (.string ⟨bd.toArray⟩); clear hb))
              have hbw : w.heap.size < w2.heap.size := by omega
              have HOW := ((((((HB4.out.own.setCell (p := ⟨w.heap.size, 3, none⟩) hbw (.string ⟨bd.toArray⟩)).setCell (p := ⟨w.heap.size, 0, none⟩) hbw (.string ⟨m.toArray⟩)).setCell (p := ⟨w.heap.size, 1, none⟩) hbw (.string ⟨t.toArray⟩)).setCell (p := ⟨w.heap.size, 2, none⟩) hbw (.slice A9 k2 c9)).setCell (p := ⟨w.heap.size, 3, none⟩) hbw (.string ⟨bd.toArray⟩)).setCell (p := ⟨w.heap.size + 1, 0, none⟩) (show w.heap.size + 1 < w2.heap.size by omega) (.int .i64 0))
              have HBW := (((((HB4.out.bel.setCell (p := ⟨w.heap.size, 3, none⟩) (Nat.le_refl _) (.string ⟨bd.toArray⟩)).setCell (p := ⟨w.heap.size, 0, none⟩) (Nat.le_refl _) (.string ⟨m.toArray⟩)).setCell (p := ⟨w.heap.size, 1, none⟩) (Nat.le_refl _) (.string ⟨t.toArray⟩)).setCell (p := ⟨w.heap.size, 2, none⟩) (Nat.le_refl _) (.slice A9 k2 c9)).setCell (p := ⟨w.heap.size, 3, none⟩) (Nat.le_refl _) (.string ⟨bd.toArray⟩)).setCell (p := ⟨w.heap.size + 1, 0, none⟩) (Nat.le_succ _) (.int .i64 0)
              exact done_end w _ ⟨m, t, hs, bd⟩ (boxed (HB4.out.box.set3 _) _ _ _ _ _) (HOW.hdrs (by omega)) HBW _ rfl rfl
end Go.Proofs.YtidhemjnchonaaaGreatDoor
