/- Contracts of http.Find, and of the document's SameHeaders and SameRequest. -/
import Derived.Test.YtidhemjnchonaaaGreatDoorEq
namespace Go.Proofs.YtidhemjnchonaaaGreatDoor
open Go.RowKit Go.BL

def hit (name : List UInt8) (h : Hdr) : Bool := smallL h.1 == smallL name
def findL (hs : List Hdr) (name : List UInt8) : Option (List UInt8) := (hs.find? (hit name)).map (·.2)
def findV (r : Option (List UInt8)) : Value := .tuple #[.string ⟨(r.getD []).toArray⟩, .bool r.isSome]
theorem find_take {hs : List Hdr} {name : List UInt8} {k : Nat} (h : ∀ x ∈ hs.take k, hit name x = false) (hk : k < hs.length) (hx : hit name hs[k] = true) : findL hs name = some hs[k].2 := by
  have e : hs = hs.take k ++ hs[k] :: hs.drop (k + 1) := by rw [List.getElem_cons_drop hk]; exact (List.take_append_drop k hs).symm
  unfold findL
  conv => lhs; rw [e]
  rw [List.find?_append, List.find?_eq_none.2 (fun x hx => by rw [h x hx]; decide)]
  simp only [Option.none_or, List.find?_cons, hx, Option.map_some]
theorem find_none {hs : List Hdr} {name : List UInt8} (h : ∀ x ∈ hs, hit name x = false) : findL hs name = none := by
  unfold findL
  rw [List.find?_eq_none.2 (fun x hx => by rw [h x hx]; decide)]
  rfl
set_option maxHeartbeats 1000000 in
set_option maxRecDepth 100000 in
theorem find_any (hs : List Hdr) (name : List UInt8) (v : Value) (w : World) (hv : Hdrs w v hs) (hn : name.length ≤ 140737488355328) (hl : ∀ h ∈ hs, h.1.length ≤ 140737488355328) :
    Calls Tryz.prog 12 #[v, .string ⟨name.toArray⟩] w (RetV (findV (findL hs name)) w) := by
  obtain ⟨hmax, A, c, rfl, hcells⟩ := hv
  have hs1 := small_any name hn
  have HL := Lib.hid hl
  have HC := Lib.hid hcells
  clear hcells hl hn
  go_enter Tryz.func12, Tryz.ntmps12
  go_wp2_with fail
  go_loopw [10] (fun i wr => ∃ k : Nat, k ≤ hs.length ∧ i = .int .i64 (k : Int) ∧ Hid (∀ x ∈ hs.take k, hit name x = false) ∧ Hid (Below w.heap.size w wr)) (fun i _ => hs.length - (intOf i).toNat)
  case atStart => exact ⟨0, by omega, rfl, Lib.hid (fun x hx => by simp at hx), Lib.hid (Below.refl _ _)⟩
  case round =>
    obtain ⟨k, hk, rfl, HA, HB⟩ := hrel
    by_cases hlt : k < hs.length
    · obtain ⟨b, off, rfl, hbl, hc⟩ := HC.out (by omega)
      obtain ⟨c1, c2⟩ := hc k hlt
      obtain ⟨⟨n, x⟩, hx⟩ : ∃ x, hs[k]'hlt = x := ⟨_, rfl⟩
      rw [hx] at c1 c2
      have d1 := (HB.out.cell (p := ⟨b, off + k * 2, none⟩) hbl).trans c1
      have d2 := (HB.out.cell (p := ⟨b, off + k * 2 + 1, none⟩) hbl).trans c2
      have hs2 := small_any n (HL.out (n, x) (by rw [← hx]; exact List.getElem_mem hlt))
      have HX := Lib.hid hx
      clear hx hc c1 c2
      obtain ⟨u1, hu1⟩ : ∃ u, smallL n = u := ⟨_, rfl⟩
      obtain ⟨u2, hu2⟩ : ∃ u, smallL name = u := ⟨_, rfl⟩
      rw [hu1] at hs2
      rw [hu2] at hs1
      have HU : Hid (hit name (n, x) = (u1 == u2)) := Lib.hid (by unfold hit; rw [hu1, hu2])
      clear hu1 hu2
      obtain ⟨q, hq⟩ : ∃ q, (u1 == u2) = q := ⟨_, rfl⟩
      have TW : Hid (Below w.heap.size w (wr.alloc (.cells #[.string ⟨n.toArray⟩, .string ⟨x.toArray⟩] 44))) := Lib.hid (HB.out.alloc HB.out.size _)
      have HQ := Lib.hid hq
      have hq' := hq
      clear hq
      cases q
      · have HA2 : Hid (∀ y ∈ hs.take (k + 1), hit name y = false) := Lib.hid (by
          intro y hy
          rw [List.take_succ_eq_append_getElem hlt, List.mem_append, List.mem_singleton] at hy
          rcases hy with hy | rfl
          · exact HA.out y hy
          · rw [HX.out, HU.out, HQ.out])
        go_wp2_with fail
        go_at_call 32
        refine (hs2 _).mono ?_
        rintro e w3 ⟨rfl, hb⟩
        have HB3 := Lib.hid (TW.out.trans (hb.mono TW.out.size))
        clear hb
        go_wp2_with fail
        go_at_call 32
        refine (hs1 _).mono ?_
        rintro e w4 ⟨rfl, hb⟩
        have HB4 := Lib.hid (HB3.out.trans (hb.mono HB3.out.size))
        clear hb
        go_wp2_with fail
        exact ⟨⟨k + 1, by omega, by go_num, HA2, HB4⟩, by simp [intOf]; omega⟩
      · have HF : Hid (findL hs name = some x) := Lib.hid (by
          have := find_take HA.out hlt (by rw [HX.out, HU.out, HQ.out])
          rw [this, HX.out])
        go_wp2_with fail
        go_at_call 32
        refine (hs2 _).mono ?_
        rintro e w3 ⟨rfl, hb⟩
        have HB3 := Lib.hid (TW.out.trans (hb.mono TW.out.size))
        obtain ⟨⟨q0, q1⟩, -, -⟩ := box2 hb
        have HS3 := Lib.hid hb.size
        clear hb
        go_wp2_with fail
        go_at_call 32
        refine (hs1 _).mono ?_
        rintro e w4 ⟨rfl, hb⟩
        have HB4 := Lib.hid (HB3.out.trans (hb.mono HB3.out.size))
        have q2 : w4.cell? ⟨wr.heap.size, 1, none⟩ = some (.string ⟨x.toArray⟩) := (hb.cell (show wr.heap.size < w3.heap.size by have := HS3.out; simp at this; omega)).trans q1
        clear hb
        go_wp2_with fail
        go_ret2
        exact ⟨by rw [HF.out]; rfl, HB4.out⟩
    · have HF : Hid (findL hs name = none) := Lib.hid (find_none (by have := HA.out; rwa [List.take_of_length_le (by omega)] at this))
      go_wp2_with fail
      go_ret2
      exact ⟨by rw [HF.out]; rfl, HB.out⟩

theorem take_diff {a b : List Hdr} {k : Nat} (ha : k < a.length) (hb : k < b.length) (h : a[k] ≠ b[k]) : ¬ a = b := fun e => h (by subst e; rfl)
set_option maxHeartbeats 1000000 in
set_option maxRecDepth 100000 in
theorem sameH_any (a b : List Hdr) (v u : Value) (w : World) (hv : Hdrs w v a) (hu : Hdrs w u b) : Calls Tryz.prog 42 #[v, u] w (RetV (.bool (decide (a = b))) w) := by
  obtain ⟨hmax, A, c, rfl, hca⟩ := hv
  obtain ⟨hmax', D, d, rfl, hcb⟩ := hu
  have HA := Lib.hid hca
  have HD := Lib.hid hcb
  clear hca hcb
  by_cases hl : a.length = b.length
  case neg =>
    have HF : Hid (decide (a = b) = false) := Lib.hid (decide_eq_false (fun e => hl (by rw [e])))
    have hne : ((a.length : Int) != (b.length : Int)) = true := bne_iff_ne.2 (by omega)
    go_enter Tryz.func42, Tryz.ntmps42
    go_wp2_with fail
    go_ret
    exact ⟨by rw [HF.out]; rfl, Below.refl _ _⟩
  have hne : ((a.length : Int) != (b.length : Int)) = false := by rw [bne_eq_false_iff_eq]; omega
  go_enter Tryz.func42, Tryz.ntmps42
  go_wp2_with fail
  go_loopw [5] (fun i wr => ∃ k N : Nat, k ≤ a.length ∧ i = .int .i64 (k : Int) ∧ wr = w.drewN N ∧ Hid (a.take k = b.take k)) (fun i _ => a.length - (intOf i).toNat)
  case atStart => exact ⟨0, 0, by omega, rfl, rfl, Lib.hid rfl⟩
  case round =>
    obtain ⟨k, N, hk, rfl, rfl, HT⟩ := hrel
    by_cases hlt : k < a.length
    · have hlt' : k < b.length := by omega
      obtain ⟨b1, o1, rfl, _, hc1⟩ := HA.out (by omega)
      obtain ⟨b2, o2, rfl, _, hc2⟩ := HD.out (by omega)
      obtain ⟨x1, x2⟩ := hc1 k hlt
      obtain ⟨y1, y2⟩ := hc2 k hlt'
      have hlt2 : (k : Int) < (b.length : Int) := by omega
      by_cases hxy : a[k] = b[k]
      · have HT2 : Hid (a.take (k + 1) = b.take (k + 1)) := Lib.hid (by
          rw [List.take_succ_eq_append_getElem hlt, List.take_succ_eq_append_getElem hlt', HT.out, hxy])
        rw [hxy] at x1 x2
        generalize b[k] = z at *
        obtain ⟨n, v⟩ := z
        simp only at x1 x2 y1 y2
        clear hxy hc1 hc2
        go_wp2_with fail
        go_quiet (fail)
        go_wp2_with fail
        exact ⟨⟨k + 1, _, by omega, by go_num, rfl, HT2⟩, by simp [intOf]; omega⟩
      · have HF : Hid (decide (a = b) = false) := Lib.hid (decide_eq_false (take_diff hlt hlt' hxy))
        generalize a[k] = z at *
        generalize b[k] = y at *
        obtain ⟨n, v⟩ := z
        obtain ⟨n', v'⟩ := y
        simp only at x1 x2 y1 y2
        clear hc1 hc2
        by_cases hn : n = n'
        · subst hn
          have hv : (v == v') = false := beq_false_of_ne (fun e => hxy (by rw [e]))
          clear hxy
          go_wp2_with fail
          go_quiet (fail)
          go_wp2_with fail
          go_ret
          exact ⟨by rw [HF.out]; rfl, below_drewN (drewN_below w N) _⟩
        · have hn' : (n == n') = false := beq_false_of_ne hn
          clear hxy hn
          go_wp2_with fail
          go_quiet (fail)
          go_wp2_with fail
          go_ret
          exact ⟨by rw [HF.out]; rfl, below_drewN (drewN_below w N) _⟩
    · have HF : Hid (decide (a = b) = true) := Lib.hid (decide_eq_true (by have := HT.out; rwa [List.take_of_length_le (by omega), List.take_of_length_le (by omega)] at this))
      go_wp2_with fail
      go_ret
      exact ⟨by rw [HF.out]; rfl, drewN_below w N⟩

/-- A request's value. -/
def reqV (q : Req) (h : Value) : Value := .agg #[.string ⟨q.m.toArray⟩, .string ⟨q.p.toArray⟩, h, .string ⟨q.b.toArray⟩]
def sameR (a b : Req) : Bool := a.m == b.m && a.p == b.p && a.b == b.b && decide (a.hs = b.hs)
theorem Hdrs.alloc {w : World} {v : Value} {hs : List Hdr} (h : Hdrs w v hs) (o : Obj) : Hdrs (w.alloc o) v hs := h.below ((Below.refl _ _).alloc (Nat.le_refl _) o) (Nat.le_refl _)
set_option maxHeartbeats 4000000 in
set_option maxRecDepth 100000 in
theorem sameR_any (a b : Req) (v u : Value) (w : World) (hv : Hdrs w v a.hs) (hu : Hdrs w u b.hs) : Calls Tryz.prog 20 #[reqV a v, reqV b u] w (RetV (.bool (sameR a b)) w) := by
  obtain ⟨A, c, rfl⟩ := hv.form
  obtain ⟨D, d, rfl⟩ := hu.form
  obtain ⟨m1, p1, hs1, b1⟩ := a
  obtain ⟨m2, p2, hs2, b2⟩ := b
  unfold reqV sameR
  simp only at hv hu ⊢
  have hh := fun w (h1 : Hdrs w (.slice A hs1.length c) hs1) (h2 : Hdrs w (.slice D hs2.length d) hs2) => sameH_any hs1 hs2 _ _ w h1 h2
  have HV := Lib.hid hv
  have HU := Lib.hid hu
  clear hv hu
  generalize hq1 : (m1 == m2) = q1
  generalize hq2 : (p1 == p2) = q2
  generalize hq3 : (b1 == b2) = q3
  generalize decide (hs1 = hs2) = q4 at *
  cases q1
  case false =>
    go_enter Tryz.func20, Tryz.ntmps20
    go_wp2_with fail
    go_ret
    exact ⟨rfl, ((Below.refl _ _).alloc (Nat.le_refl _) _).alloc (by simp) _⟩
  cases q2
  case false =>
    go_enter Tryz.func20, Tryz.ntmps20
    go_wp2_with fail
    go_ret
    exact ⟨rfl, ((Below.refl _ _).alloc (Nat.le_refl _) _).alloc (by simp) _⟩
  cases q3
  case false =>
    go_enter Tryz.func20, Tryz.ntmps20
    go_wp2_with fail
    go_ret
    exact ⟨rfl, ((Below.refl _ _).alloc (Nat.le_refl _) _).alloc (by simp) _⟩
  go_enter Tryz.func20, Tryz.ntmps20
  go_wp2_with (go_at_call 42; refine (hh _ ((HV.out.alloc _).alloc _) ((HU.out.alloc _).alloc _)).mono ?_; rintro e w3 ⟨rfl, hb⟩; have HB := Lib.hid hb; clear hb)
  go_ret
  exact ⟨by simp, below_alloc (below_alloc HB.out)⟩
end Go.Proofs.YtidhemjnchonaaaGreatDoor
