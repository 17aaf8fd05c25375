/- A cart that came in, opened to its cells, and how long its rows are. What was told, opened to its cells. -/
import Derived.Test.YtpdedfpacklnoaaGreatDoorTzMO
namespace Go.Proofs.YtpdedfpacklnoaaGreatDoor
open Go.ChangeShapes Go.WideShapes Go.Deep Go.Ct Go.Sl Go.BL

theorem all_two {H : Type} : ∀ l : List (DataW H), (∀ d ∈ l, 2 ≤ Rows.uptoBulk d) → 2 * l.length ≤ Rows.uptoBulkAll l
 | [], _ => Nat.zero_le _
 | d :: r, h => by
  have h1 := h d (List.mem_cons_self ..)
  have h2 := all_two r (fun x hx => h x (List.mem_cons_of_mem _ hx))
  simp only [Rows.uptoBulkAll, List.length_cons]; omega
theorem two_parts {H : Type} {l : List (DataW H × List MemPlace)} (h : l.length = 2) : Rows.uptoBulkAll (l.map (·.1)) = Rows.uptoBulk (l[0]'(by omega)).1 + Rows.uptoBulk (l[1]'(by omega)).1 := by
 match l, h with
 | [a, b], _ => simp [Rows.uptoBulkAll]
def dotFsL : Array Field := #[{ name := "Node", type := 3, offset := 0, embedded := false, tag := "", pkgPath := "", byteOffset := 0 }, { name := "Life", type := 3, offset := 1, embedded := false, tag := "", pkgPath := "", byteOffset := 8 }, { name := "Count", type := 3, offset := 2, embedded := false, tag := "", pkgPath := "", byteOffset := 16 }]
theorem open_dotsL {H : Type} {enc : TypeId × Value → H} {W : World} {t e : TypeId} {n : Nat} {v : Value} {x : DataW H × List MemPlace} (ht : Tryz.prog.underlying t = some (.slice e)) (he : Tryz.prog.underlying e = some (.struct dotFsL)) (hC : Tryz.prog.cellsOf e = 3)
  (h : DataW.trod enc Tryz.prog W 0 (fun _ => true) true n t [v] = some x) (hb : Rows.uptoBulk x.1 ≤ 1048576) : ∃ l : List Dt, Dots W v l ∧ l.length ≤ 1000000 := by
 rcases open_slice_fields ht he (by kernel_rfl) hC h with ⟨h1, _⟩ | ⟨a, len, cap, m, D, Pl, h1, _, hl, hm, hmm, hx, hi⟩
 ·simp only [List.cons.injEq, and_true] at h1
  subst h1
  exact ⟨[], Sl.nil W, by simp⟩
 ·simp only [List.cons.injEq, and_true] at h1
  subst h1
  simp only [if_true] at hmm
  subst hmm
  subst hx
  have h2 : ∀ i, i < len → 2 ≤ Rows.uptoBulk (D i) := fun i hil => by
   obtain ⟨ys, n, hD, _, hyl, _⟩ := hi i (by omega)
   have hyl : ys.length = 3 := hyl
   have h := bulks.length_le (ys.map (·.1))
   rw [List.length_map] at h
   rw [hD]
   show 2 ≤ Rows.uptoBulkAll (ys.map (·.1)) + 1
   omega
  have h3 := all_two ((List.range len).map D) (fun d hd => by obtain ⟨i, hi', rfl⟩ := List.mem_map.1 hd; exact h2 i (List.mem_range.1 hi'))
  rw [List.length_map, List.length_range] at h3
  have hlen : len ≤ 1000000 := by
   have := bulks.slice_elems ((List.range len).map D) ((List.range (m - len)).map fun j => D (len + j))
   dsimp only at hb
   omega
  clear h2 h3
  have key : ∀ i, i < len → ∃ y : Dt, W.cell? (a.add (i * 3)) = some (.int .i64 y.n) ∧ W.cell? (a.add (i * 3 + 1)) = some (.int .i64 y.l) ∧ W.cell? (a.add (i * 3 + 2)) = some (.int .i64 y.c) := by
   intro i hil
   obtain ⟨ys, n, hD, _, hyl, hfd⟩ := hi i (by omega)
   obtain ⟨v0, y0, c0, g0, t0⟩ := hfd 0 _ rfl
   obtain ⟨v1, y1, c1, g1, t1⟩ := hfd 1 _ rfl
   obtain ⟨v2, y2, c2, g2, t2⟩ := hfd 2 _ rfl
   obtain ⟨q0, e0, z0, _⟩ := DataW.trod_int Tryz.underlying3 t0
   obtain ⟨q1, e1, z1, _⟩ := DataW.trod_int Tryz.underlying3 t1
   obtain ⟨q2, e2, z2, _⟩ := DataW.trod_int Tryz.underlying3 t2
   simp only [List.cons.injEq, and_true] at e0 e1 e2
   subst e0 e1 e2
   exact ⟨⟨q0, q1, q2⟩, c0, c1, c2⟩
  obtain ⟨l, hll, hls⟩ := list_of len key
  subst hll
  refine ⟨l, ⟨by omega, _, _, rfl, fun hpos => ?_⟩, hlen⟩
  obtain ⟨y0, hc0, _⟩ := key 0 hpos
  obtain ⟨b, off, spot⟩ := a
  have hspot : spot = none := by simpa [Addr.add] using World.cell?_spot hc0
  subst hspot
  refine ⟨b, off, rfl, by simpa [Addr.add] using Go.BL.lt_block hc0, fun i hi j u hu => ?_⟩
  obtain ⟨h0, h1, h2⟩ := hls i _ (List.getElem?_eq_getElem hi)
  rw [Go.BL.add_none] at h0 h1 h2
  rcases j with _ | _ | _ | j
  ·rw [show u = _ from (Option.some.inj hu).symm]; exact h0
  ·rw [show u = _ from (Option.some.inj hu).symm, Nat.add_assoc]; exact h1
  ·rw [show u = _ from (Option.some.inj hu).symm, Nat.add_assoc]; exact h2
  ·simp [dotC] at hu
theorem six_ofL {cs : List Value} (h : cs.length = 6) : ∃ a b c d e f, cs = [a, b, c, d, e, f] := by
 match cs, h with
 | [a, b, c, d, e, f], _ => exact ⟨a, b, c, d, e, f, rfl⟩
def okEnWL (e : En) : Prop := e.it.length ≤ 1048576 ∧ e.p < 18446744073709551616
theorem open_entsL {H : Type} {enc : TypeId × Value → H} {W : World} {n : Nat} {v : Value} {x : DataW H × List MemPlace}
  (h : DataW.trod enc Tryz.prog W 0 (fun _ => true) true n 26 [v] = some x) (hb : Rows.uptoBulk x.1 ≤ 1048576) : ∃ l : List En, Ents W v l ∧ (∀ e ∈ l, okEnWL e) ∧ (∀ A n c, v = .slice A n c → n ≤ c) ∧ l.length ≤ 1000000 := by
 rcases open_slice Tryz.underlying26 h with ⟨h1, _⟩ | ⟨a, len, cap, m, n', D, Pl, h1, _, hl, hm, hmm, hx, hi⟩
 ·simp only [List.cons.injEq, and_true] at h1
  subst h1
  exact ⟨[], Sl.nil W, (by intro e he; cases he), fun A n c e => (by injection e with _ e2 e3; omega), by simp⟩
 ·simp only [List.cons.injEq, and_true] at h1
  subst h1
  simp only [if_true] at hmm
  subst hmm
  subst hx
  have hC : Tryz.prog.cellsOf 92 = 6 := by kernel_rfl
  rw [hC] at hi
  dsimp only at hb
  have h2 : ∀ i, i < len → 2 ≤ Rows.uptoBulk (D i) := fun i hil => by
   obtain ⟨cs, hcs, ht⟩ := hi i (by omega)
   obtain ⟨ys, n2, _, hy, _, hyl, hf⟩ := DataW.trod_struct Tryz.underlying92 ht
   have hyl : ys.length = 4 := hyl
   have h := bulks.length_le (ys.map (·.1))
   rw [List.length_map] at h
   rw [show D i = .agg (ys.map (·.1)) from congrArg Prod.fst hy]
   show 2 ≤ Rows.uptoBulkAll (ys.map (·.1)) + 1
   omega
  have h3 := all_two ((List.range len).map D) (fun d hd => by obtain ⟨i, hi', rfl⟩ := List.mem_map.1 hd; exact h2 i (List.mem_range.1 hi'))
  rw [List.length_map, List.length_range] at h3
  have hlen : len ≤ 1000000 := by
   have := bulks.slice_elems ((List.range len).map D) ((List.range (m - len)).map fun j => D (len + j))
   omega
  clear h2 h3
  have hel := bulks.slice_elems ((List.range len).map D) ((List.range (m - len)).map fun j => D (len + j))
  have key : ∀ i, i < len → ∃ y : En, okEnWL y ∧ ∀ j u, (entC y)[j]? = some u → W.cell? (a.add (i * 6 + j)) = some u := by
   intro i hil
   obtain ⟨cs, hcs, ht⟩ := hi i (by omega)
   obtain ⟨_, hcl, hat⟩ := World.cells?_some hcs
   obtain ⟨u0, u1, u2, u3, u4, u5, rfl⟩ := six_ofL hcl
   obtain ⟨ys, n2, _, hy, _, hyl, hf⟩ := DataW.trod_struct Tryz.underlying92 ht
   have hyl' : ys.length = 4 := hyl
   obtain ⟨y0, hy0⟩ : ∃ y, ys[0]? = some y := ⟨ys[0]'(by omega), List.getElem?_eq_getElem _⟩
   obtain ⟨y1, hy1⟩ : ∃ y, ys[1]? = some y := ⟨ys[1]'(by omega), List.getElem?_eq_getElem _⟩
   obtain ⟨y2, hy2⟩ : ∃ y, ys[2]? = some y := ⟨ys[2]'(by omega), List.getElem?_eq_getElem _⟩
   obtain ⟨y3, hy3⟩ : ∃ y, ys[3]? = some y := ⟨ys[3]'(by omega), List.getElem?_eq_getElem _⟩
   have f0 : DataW.trod enc Tryz.prog W 0 (fun _ => true) true n2 9 (([u0, u1, u2, u3, u4, u5].drop 0).take (Tryz.prog.cellsOf 9)) = some y0 := (hf 0 _ rfl).trans hy0
   have f1 : DataW.trod enc Tryz.prog W 0 (fun _ => true) true n2 90 (([u0, u1, u2, u3, u4, u5].drop 1).take (Tryz.prog.cellsOf 90)) = some y1 := (hf 1 _ rfl).trans hy1
   have f2 : DataW.trod enc Tryz.prog W 0 (fun _ => true) true n2 3 (([u0, u1, u2, u3, u4, u5].drop 4).take (Tryz.prog.cellsOf 3)) = some y2 := (hf 2 _ rfl).trans hy2
   have f3 : DataW.trod enc Tryz.prog W 0 (fun _ => true) true n2 25 (([u0, u1, u2, u3, u4, u5].drop 5).take (Tryz.prog.cellsOf 25)) = some y3 := (hf 3 _ rfl).trans hy3
   rw [show Tryz.prog.cellsOf 9 = 1 by kernel_rfl] at f0
   rw [show Tryz.prog.cellsOf 90 = 3 by kernel_rfl] at f1
   rw [show Tryz.prog.cellsOf 3 = 1 by kernel_rfl] at f2
   rw [show Tryz.prog.cellsOf 25 = 1 by kernel_rfl] at f3
   obtain ⟨s, e0, z0, _⟩ := DataW.trod_string Tryz.underlying9 f0
   obtain ⟨q, e2, _, _⟩ := DataW.trod_int Tryz.underlying3 f2
   obtain ⟨r, e3, _, hr⟩ := DataW.trod_int Tryz.underlying25 f3
   obtain ⟨zs, n3, _, _, _, hzl, hg⟩ := DataW.trod_struct Tryz.underlying90 f1
   have hzl' : zs.length = 3 := hzl
   have g0 : DataW.trod enc Tryz.prog W 0 (fun _ => true) true n3 3 (((([u0, u1, u2, u3, u4, u5].drop 1).take 3).drop 0).take (Tryz.prog.cellsOf 3)) = some (zs[0]'(by omega)) := (hg 0 _ rfl).trans (List.getElem?_eq_getElem (show 0 < zs.length by omega))
   have g1 : DataW.trod enc Tryz.prog W 0 (fun _ => true) true n3 3 (((([u0, u1, u2, u3, u4, u5].drop 1).take 3).drop 1).take (Tryz.prog.cellsOf 3)) = some (zs[1]'(by omega)) := (hg 1 _ rfl).trans (List.getElem?_eq_getElem (show 1 < zs.length by omega))
   have g2 : DataW.trod enc Tryz.prog W 0 (fun _ => true) true n3 3 (((([u0, u1, u2, u3, u4, u5].drop 1).take 3).drop 2).take (Tryz.prog.cellsOf 3)) = some (zs[2]'(by omega)) := (hg 2 _ rfl).trans (List.getElem?_eq_getElem (show 2 < zs.length by omega))
   rw [show Tryz.prog.cellsOf 3 = 1 by kernel_rfl] at g0 g1 g2
   obtain ⟨d0, k0, _, _⟩ := DataW.trod_int Tryz.underlying3 g0
   obtain ⟨d1, k1, _, _⟩ := DataW.trod_int Tryz.underlying3 g1
   obtain ⟨d2, k2, _, _⟩ := DataW.trod_int Tryz.underlying3 g2
   simp at e0 e2 e3 k0 k1 k2
   subst e0 e2 e3 k0 k1 k2
   have hr' := wf_u64 hr
   obtain ⟨R, rfl⟩ := Int.eq_ofNat_of_zero_le hr'.1
   have b3 : Rows.uptoBulk (D i) = Rows.uptoBulkAll (ys.map (·.1)) + 1 := by rw [show D i = .agg (ys.map (·.1)) from congrArg Prod.fst hy]; rfl
   have b5 : Rows.uptoBulk y0.1 = s.data.toList.length + 1 := by rw [z0]; exact bulks.string_eq _
   have b6 := bulks.part_le (d := y0.1) (l := ys.map (·.1)) (List.mem_map.2 ⟨y0, List.mem_of_getElem? hy0, rfl⟩)
   have b7 := bulks.part_le (d := D i) (l := (List.range len).map D) (List.mem_map.2 ⟨i, List.mem_range.2 hil, rfl⟩)
   refine ⟨⟨s.data.toList, ⟨d0, d1, d2⟩, q, R⟩, ⟨by dsimp only; omega, by have := hr'.2; show R < _; omega⟩, fun j u hu => ?_⟩
   have hj : j < 6 := by
    rcases Nat.lt_or_ge j 6 with h | h
    ·exact h
    ·rw [List.getElem?_eq_none (by simpa [entC] using h)] at hu; cases hu
   rw [← Go.Deep.add_add, hat j hj]
   rcases j with _ | _ | _ | _ | _ | _ | j
   all_goals first | exact hu | omega
  obtain ⟨l, hll, hls⟩ := list_of len key
  subst hll
  refine ⟨l, ⟨by omega, _, _, rfl, fun hpos => ?_⟩, fun y hy => ?_, fun A n c e => (by injection e with _ e2 e3; omega), hlen⟩
  ·obtain ⟨y0, _, hc0⟩ := key 0 hpos
   have hc1 := hc0 0 _ rfl
   obtain ⟨b, off, spot⟩ := a
   have hspot : spot = none := by simpa [Addr.add] using World.cell?_spot hc1
   subst hspot
   refine ⟨b, off, rfl, by simpa [Addr.add] using Go.BL.lt_block hc1, fun i hi j u hu => ?_⟩
   have h0 := (hls i _ (List.getElem?_eq_getElem hi)).2 j u hu
   rw [Go.BL.add_none] at h0
   rw [Nat.add_assoc]
   exact h0
  ·obtain ⟨i, hi', rfl⟩ := List.mem_iff_getElem.1 hy
   exact (hls i _ (List.getElem?_eq_getElem hi')).1
set_option maxRecDepth 100000
end Go.Proofs.YtpdedfpacklnoaaGreatDoor
namespace Go.Proofs.YtpdedfpacklnoaaGreatDoor
open Go.ChangeShapes Go.WideShapes Go.Deep Go.Ct Go.Sl Go.BL
set_option maxRecDepth 100000

theorem open_cells3 {H : Type} {enc : TypeId × Value → H} {W : World} {fuel : Nat} {a b c : Value} {x : DataW H × List MemPlace} (hf0 : DataW.trod enc Tryz.prog W 0 (fun _ => true) true fuel 32 [a, b, c] = some x) (hb : Rows.uptoBulk x.1 ≤ 1048576) :
  ∃ k : Ct, Ents W a k.es ∧ Dots W b k.x.ms ∧ Dots W c k.x.cl ∧ (∀ e ∈ k.es, okEnWL e) ∧ (∀ A n c, a = .slice A n c → n ≤ c) ∧ (k.es.length ≤ 1000000 ∧ k.x.ms.length ≤ 1000000 ∧ k.x.cl.length ≤ 1000000) ∧ 5 ≤ Rows.uptoBulk x.1 := by
 obtain ⟨ys, n2, _, hy, _, hyl, hf⟩ := DataW.trod_struct Tryz.underlying32 hf0
 have hyl' : ys.length = 2 := hyl
 have hy0 := List.getElem?_eq_getElem (show 0 < ys.length by omega)
 have hy1 := List.getElem?_eq_getElem (show 1 < ys.length by omega)
 have f0 : DataW.trod enc Tryz.prog W 0 (fun _ => true) true n2 26 (([a, b, c].drop 0).take (Tryz.prog.cellsOf 26)) = some ys[0] := (hf 0 _ rfl).trans hy0
 have f1 : DataW.trod enc Tryz.prog W 0 (fun _ => true) true n2 30 (([a, b, c].drop 1).take (Tryz.prog.cellsOf 30)) = some ys[1] := (hf 1 _ rfl).trans hy1
 rw [show Tryz.prog.cellsOf 26 = 1 by kernel_rfl] at f0
 rw [show Tryz.prog.cellsOf 30 = 2 by kernel_rfl] at f1
 have hd : x.1 = .agg (ys.map (·.1)) := congrArg Prod.fst hy
 have bA : Rows.uptoBulk x.1 = Rows.uptoBulkAll (ys.map (·.1)) + 1 := by rw [hd]; rfl
 have b0 := bulks.part_le (d := ys[0].1) (l := ys.map (·.1)) (List.mem_map.2 ⟨ys[0], List.getElem_mem _, rfl⟩)
 have b1 := bulks.part_le (d := ys[1].1) (l := ys.map (·.1)) (List.mem_map.2 ⟨ys[1], List.getElem_mem _, rfl⟩)
 obtain ⟨zs, n3, _, hz, _, hzl, hg⟩ := DataW.trod_struct Tryz.underlying30 f1
 have hzl' : zs.length = 2 := hzl
 have g0 : DataW.trod enc Tryz.prog W 0 (fun _ => true) true n3 27 (((([a, b, c].drop 1).take 2).drop 0).take (Tryz.prog.cellsOf 27)) = some (zs[0]'(by omega)) := (hg 0 _ rfl).trans (List.getElem?_eq_getElem (show 0 < zs.length by omega))
 have g1 : DataW.trod enc Tryz.prog W 0 (fun _ => true) true n3 28 (((([a, b, c].drop 1).take 2).drop 1).take (Tryz.prog.cellsOf 28)) = some (zs[1]'(by omega)) := (hg 1 _ rfl).trans (List.getElem?_eq_getElem (show 1 < zs.length by omega))
 rw [show Tryz.prog.cellsOf 27 = 1 by kernel_rfl] at g0
 rw [show Tryz.prog.cellsOf 28 = 1 by kernel_rfl] at g1
 have bZ : Rows.uptoBulk ys[1].1 = Rows.uptoBulkAll (zs.map (·.1)) + 1 := by rw [congrArg Prod.fst hz]; rfl
 have c0 := bulks.part_le (d := zs[0].1) (l := zs.map (·.1)) (List.mem_map.2 ⟨zs[0], List.getElem_mem _, rfl⟩)
 have c1 := bulks.part_le (d := zs[1].1) (l := zs.map (·.1)) (List.mem_map.2 ⟨zs[1], List.getElem_mem _, rfl⟩)
 obtain ⟨es, he, hok, hcp, hle⟩ := open_entsL (v := a) f0 (by omega)
 obtain ⟨ms, hm, hlm⟩ := open_dotsL (v := b) Tryz.underlying27 Tryz.underlying150 (by kernel_rfl) g0 (by omega)
 obtain ⟨cl, hc, hlc⟩ := open_dotsL (v := c) Tryz.underlying28 Tryz.underlying90 (by kernel_rfl) g1 (by omega)
 exact ⟨⟨es, ⟨ms, cl⟩⟩, he, hm, hc, hok, hcp, ⟨hle, hlm, hlc⟩, by
  have k1 := two_parts hyl'
  have k2 := two_parts hzl'
  have k3 := bulks.one_le (zs[0]'(by omega)).1
  have k4 := bulks.one_le (zs[1]'(by omega)).1
  have k5 := bulks.one_le (ys[0]'(by omega)).1
  omega⟩
theorem five_of {cs : Array Value} (h : cs.size = 5) : ∃ a b c d e, cs = #[a, b, c, d, e] := by
 obtain ⟨l⟩ := cs
 match l, h with
 | [a, b, c, d, e], _ => exact ⟨a, b, c, d, e, rfl⟩
/-- What was told. -/
theorem open_told {H : Type} {enc : TypeId × Value → H} {W : World} {base : Nat} {v : Value} {d : DataW H} {p : List MemPlace}
  (hv : Value.okWide Tryz.prog W .any base 64 v) (h : DataW.Trod enc Tryz.prog W 0 (fun _ => true) true 64 v d p) (hb : Rows.uptoBulk d ≤ 1048576) :
  ∃ (id st : Int) (k : Ct) (e m c : Value), v = .agg #[.int .i64 id, .int .i64 st, e, m, c] ∧ Ents W e k.es ∧ Dots W m k.x.ms ∧ Dots W c k.x.cl ∧ (∀ e ∈ k.es, okEnWL e) ∧ (∀ A n c, e = .slice A n c → n ≤ c) ∧ (k.es.length ≤ 1000000 ∧ k.x.ms.length ≤ 1000000 ∧ k.x.cl.length ≤ 1000000) := by
 obtain ⟨cs, rfl, hsz⟩ := okWide_struct Tryz.underlying64 hv
 rw [show Tryz.prog.cellsOf 64 = 5 by kernel_rfl] at hsz
 obtain ⟨u0, u1, a, b, c, rfl⟩ := five_of hsz
 obtain ⟨fuel, hf0⟩ := h
 have hcs : (Value.agg #[u0, u1, a, b, c]).cells.toList = [u0, u1, a, b, c] := rfl
 rw [hcs] at hf0
 obtain ⟨ys, n2, _, hy, _, hyl, hf⟩ := DataW.trod_struct Tryz.underlying64 hf0
 have hyl' : ys.length = 3 := hyl
 have hy0 := List.getElem?_eq_getElem (show 0 < ys.length by omega)
 have hy1 := List.getElem?_eq_getElem (show 1 < ys.length by omega)
 have hy2 := List.getElem?_eq_getElem (show 2 < ys.length by omega)
 have f0 : DataW.trod enc Tryz.prog W 0 (fun _ => true) true n2 3 (([u0, u1, a, b, c].drop 0).take (Tryz.prog.cellsOf 3)) = some ys[0] := (hf 0 _ rfl).trans hy0
 have f1 : DataW.trod enc Tryz.prog W 0 (fun _ => true) true n2 3 (([u0, u1, a, b, c].drop 1).take (Tryz.prog.cellsOf 3)) = some ys[1] := (hf 1 _ rfl).trans hy1
 have f2 : DataW.trod enc Tryz.prog W 0 (fun _ => true) true n2 32 (([u0, u1, a, b, c].drop 2).take (Tryz.prog.cellsOf 32)) = some ys[2] := (hf 2 _ rfl).trans hy2
 rw [show Tryz.prog.cellsOf 3 = 1 by kernel_rfl] at f0 f1
 rw [show Tryz.prog.cellsOf 32 = 3 by kernel_rfl] at f2
 obtain ⟨id, e0, _, _⟩ := DataW.trod_int Tryz.underlying3 f0
 obtain ⟨st, e1, _, _⟩ := DataW.trod_int Tryz.underlying3 f1
 simp at e0 e1
 subst e0 e1
 have hd : d = .agg (ys.map (·.1)) := congrArg Prod.fst hy
 have bA : Rows.uptoBulk d = Rows.uptoBulkAll (ys.map (·.1)) + 1 := by rw [hd]; rfl
 have b2 := bulks.part_le (d := ys[2].1) (l := ys.map (·.1)) (List.mem_map.2 ⟨ys[2], List.getElem_mem _, rfl⟩)
 obtain ⟨k, he, hm, hc, hok, hcp, hln, _⟩ := open_cells3 (a := a) (b := b) (c := c) f2 (by omega)
 exact ⟨id, st, k, a, b, c, rfl, he, hm, hc, hok, hcp, hln⟩
end Go.Proofs.YtpdedfpacklnoaaGreatDoor
