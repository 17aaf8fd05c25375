/- Contract of the document's Parse. -/
import Derived.Test.YtidhemjnchonaaaGreatDoorRefD
import Derived.Test.YtidhemjnchonaaaGreatDoorRefE
import Derived.Test.YtidhemjnchonaaaGreatDoorRefI
import Derived.Test.YtidhemjnchonaaaGreatDoorRefL
namespace Go.Proofs.YtidhemjnchonaaaGreatDoor
open Go.RowKit Go.BL

/-- The cells of the result: a request's four. -/
structure B4 (w : World) (B : Nat) (m p h b : Value) : Prop where
  c0 : w.cell? ⟨B, 0, none⟩ = some m
  c1 : w.cell? ⟨B, 1, none⟩ = some p
  c2 : w.cell? ⟨B, 2, none⟩ = some h
  c3 : w.cell? ⟨B, 3, none⟩ = some b
  z0 : w.frozen? ⟨B, 0, none⟩ = false
  z1 : w.frozen? ⟨B, 1, none⟩ = false
  z2 : w.frozen? ⟨B, 2, none⟩ = false
  z3 : w.frozen? ⟨B, 3, none⟩ = false
theorem B4.below {w w' : World} {B C : Nat} {m p h b : Value} (k : B4 w B m p h b) (hb : Below C w w') (hC : B < C) : B4 w' B m p h b :=
  ⟨(hb.cell hC).trans k.c0, (hb.cell hC).trans k.c1, (hb.cell hC).trans k.c2, (hb.cell hC).trans k.c3, (hb.frozen hC).trans k.z0, (hb.frozen hC).trans k.z1, (hb.frozen hC).trans k.z2, (hb.frozen hC).trans k.z3⟩
theorem B4.new (w : World) (m p h b : Value) (t : TypeId) : B4 (w.alloc (.cells #[m, p, h, b] t)) w.heap.size m p h b := by
  refine ⟨?_, ?_, ?_, ?_, World.frozen?_alloc_new w _ t 0, World.frozen?_alloc_new w _ t 1, World.frozen?_alloc_new w _ t 2, World.frozen?_alloc_new w _ t 3⟩
  all_goals (rw [World.cell?_alloc_at _ _ _ _ rfl]; rfl)
theorem B4.set {w : World} {B : Nat} {m p h b : Value} (k : B4 w B m p h b) (m' p' h' b' : Value) :
    B4 ((((w.setCell ⟨B, 0, none⟩ m').setCell ⟨B, 1, none⟩ p').setCell ⟨B, 2, none⟩ h').setCell ⟨B, 3, none⟩ b') B m' p' h' b' := by
  have ne : ∀ {x y : Nat}, x ≠ y → (⟨B, x, none⟩ : Addr) ≠ ⟨B, y, none⟩ := fun h e => h (by injection e)
  constructor
  · rw [World.cell?_setCell_other _ _ _ _ (ne (by decide)), World.cell?_setCell_other _ _ _ _ (ne (by decide)), World.cell?_setCell_other _ _ _ _ (ne (by decide))]
    exact World.cell?_setCell_same _ _ _ k.c0
  · rw [World.cell?_setCell_other _ _ _ _ (ne (by decide)), World.cell?_setCell_other _ _ _ _ (ne (by decide))]
    exact World.cell?_setCell_same _ _ _ (by rw [World.cell?_setCell_other _ _ _ _ (ne (by decide))]; exact k.c1)
  · rw [World.cell?_setCell_other _ _ _ _ (ne (by decide))]
    exact World.cell?_setCell_same _ _ _ (by rw [World.cell?_setCell_other _ _ _ _ (ne (by decide)), World.cell?_setCell_other _ _ _ _ (ne (by decide))]; exact k.c2)
  · exact World.cell?_setCell_same _ _ _ (by rw [World.cell?_setCell_other _ _ _ _ (ne (by decide)), World.cell?_setCell_other _ _ _ _ (ne (by decide)), World.cell?_setCell_other _ _ _ _ (ne (by decide))]; exact k.c3)
  all_goals simp only [World.frozen?_setCell]
  · exact k.z0
  · exact k.z1
  · exact k.z2
  · exact k.z3
theorem Bsl.conv {w : World} {v : Value} {b : List UInt8} (h : Bsl w v b) : (convert 28 9 v).run Tryz.prog w = .ok (.string ⟨b.toArray⟩) w := by
  obtain ⟨_, ⟨A, c, rfl, rfl, _⟩ | ⟨blk, off, c, rfl, _, _, hc⟩⟩ := h
  · exact conv_zero w A c
  · exact conv_some w blk off b.length c b rfl hc
theorem findFrom_zero (s t : List UInt8) : findFrom s t 0 = Lib.index s t := by
  unfold findFrom
  rw [List.drop_zero]
  split
  · rename_i h; exact h.symm
  · omega
theorem Txts.cons {w : World} {v : Value} {x : List UInt8} {r : List (List UInt8)} (h : Txts w v (x :: r)) :
    ∃ b off c, v = .slice (some ⟨b, off, none⟩) (r.length + 1) c ∧ r.length + 1 ≤ c ∧ w.cell? ⟨b, off, none⟩ = some (.string ⟨x.toArray⟩) ∧ ∃ A2, (∀ w, (Instr.slice 64 (.slice (some ⟨b, off, none⟩) (r.length + 1) c) (some (.int .i64 1)) none none).run Tryz.prog w = .ok (.slice A2 r.length (c - 1)) w) ∧ Txts w (.slice A2 r.length (c - 1)) r := by
  obtain ⟨A, c, rfl, hc, h1⟩ := h
  obtain ⟨b, off, rfl, hb, hr⟩ := h1 (by simp)
  refine ⟨b, off, c, rfl, hc, hr 0 (by simp), ?_⟩
  obtain ⟨A2, hA2, hs⟩ := from_slice 64 9 under64 Tryz.sizeOf9 b off (r.length + 1) c 1 (by omega) hc
  refine ⟨A2, hs, A2, c - 1, rfl, by simp at hc; omega, fun hn => ⟨b, off + 1, hA2 (by omega), hb, fun i hi => ?_⟩⟩
  have := hr (i + 1) (by simpa using hi)
  rw [show off + 1 + i = off + (i + 1) by omega, this]
  rfl
theorem codes_ne {c : Int} (h : c ∈ codes) : (c != 0) = true := by
  unfold codes at h
  simp at h
  rcases h with rfl | rfl | rfl | rfl | rfl | rfl <;> rfl
theorem header_vlen {l : List UInt8} {h : Hdr} (e : headerL l = some h) : h.2.length ≤ 32768 := by
  unfold headerL at e
  split at e
  · rename_i hc
    injection e with e
    rw [← e]
    simp only [Bool.and_eq_true] at hc
    have := hc.2
    unfold valueL at this
    simp only [Bool.and_eq_true, decide_eq_true_eq] at this
    exact this.1.1
  · cases e
theorem headers_vlen : ∀ (ls : List (List UInt8)) (i : Nat) (hs : List Hdr), headersL ls i = .ok hs → ∀ h ∈ hs, h.2.length ≤ 32768
  | [], i, hs, e, h, hm => by
    simp only [headersL] at e
    injection e with e
    subst e
    cases hm
  | l :: ls, i, hs, e, h, hm => by
    rw [headers_cons] at e
    split at e
    · cases e
    · split at e
      · cases e
      · rename_i x hx
        split at e
        · cases e
        · rename_i q hq
          injection e with e
          subst e
          rcases List.mem_cons.1 hm with rfl | hm
          · exact header_vlen hx
          · exact headers_vlen ls (i + 1) q hq h hm
set_option maxHeartbeats 4000000 in
set_option maxRecDepth 100000 in
theorem docParse_any (v : Value) (b : List UInt8) (w : World) (hv : Bsl w v b) (hb : b.length ≤ 1073741824) : Calls Tryz.prog 21 #[v] w (RetQ (parseL b) w) := by
  obtain ⟨w0, hw0⟩ : ∃ w0, w.alloc (.cells #[.string ⟨#[]⟩, .string ⟨#[]⟩, .slice none 0 0, .string ⟨#[]⟩] 31) = w0 := ⟨_, rfl⟩
  have HK : Hid (B4 w0 w.heap.size (.string ⟨#[]⟩) (.string ⟨#[]⟩) (.slice none 0 0) (.string ⟨#[]⟩)) := Lib.hid (by rw [← hw0]; exact B4.new w _ _ _ _ _)
  have HB : Hid (Below w.heap.size w w0) := Lib.hid (by rw [← hw0]; exact (Below.refl _ _).alloc (Nat.le_refl _) _)
  have HS : Hid (w.heap.size < w0.heap.size) := Lib.hid (by rw [← hw0]; simp)
  have hcv := (hv.below HB.out (Nat.le_refl _)).conv
  obtain ⟨A, c, rfl⟩ := hv.form
  clear hv
  obtain ⟨R, hR⟩ : ∃ R, parseL b = R := ⟨_, rfl⟩
  rw [hR]
  unfold parseL at hR
  have hf : ∀ w, Calls Tryz.prog 43 #[.string ⟨b.toArray⟩, .string ⟨#[13, 10, 13, 10]⟩, .int .i64 0] w fun e w' => e = .returned (.int .i64 (Lib.index b sep4)) ∧ w = w' := fun w => by
    rw [← findFrom_zero]
    exact findR_at b sep4 0 hb (by decide) (by decide) (by decide) w
  have hix : Lib.index b sep4 = -1 ∨ ∃ E : Nat, Lib.index b sep4 = E ∧ E + 4 ≤ b.length := by
    rcases findFrom_is b sep4 0 with h | ⟨n, h⟩
    · rw [findFrom_zero] at h; exact .inl h
    · have := findFrom_at (by decide) h
      rw [findFrom_zero] at h
      exact .inr ⟨n, h, this.2.1⟩
  rcases hix with hi | ⟨E, hi, hE⟩
  · rw [hi] at hR hf
    by_cases hbig : 65536 < b.length
    · have hbig' : (65536 : Int) < (b.length : Int) := by omega
      rw [if_pos ⟨by decide, hbig⟩] at hR
      subst hR
      clear hi hbig hb
      go_enter Tryz.func21, Tryz.ntmps21
      go_wp2_with fail
      clear hw0
      (go_at_call 43; refine (hf _).mono ?_; rintro e w' ⟨rfl, rfl⟩; obtain ⟨q0, q1, q2, q3, z0, z1, z2, z3⟩ := HK.out)
      go_wp2_with fail
      obtain ⟨e0, e1, e2, e3, -, -, -, -⟩ := HK.out.set (.string ⟨#[]⟩) (.string ⟨#[]⟩) (.slice none 0 0) (.string ⟨#[]⟩)
      refine bodyPost_ret (by simp [results, Tryz.results21, go_sem, e0, e1, e2, e3]; try rfl) rfl ?_
      exact ⟨rfl, (((HB.out.setCell (Nat.le_refl _) _).setCell (Nat.le_refl _) _).setCell (Nat.le_refl _) _).setCell (Nat.le_refl _) _⟩
    · have hbig' : ¬ (65536 : Int) < (b.length : Int) := by omega
      rw [if_neg (fun h => hbig h.2), if_neg (by decide), if_pos (by decide)] at hR
      subst hR
      clear hi hbig hb
      go_enter Tryz.func21, Tryz.ntmps21
      go_wp2_with fail
      clear hw0
      (go_at_call 43; refine (hf _).mono ?_; rintro e w' ⟨rfl, rfl⟩; obtain ⟨q0, q1, q2, q3, z0, z1, z2, z3⟩ := HK.out)
      go_wp2_with fail
      obtain ⟨e0, e1, e2, e3, -, -, -, -⟩ := HK.out.set (.string ⟨#[]⟩) (.string ⟨#[]⟩) (.slice none 0 0) (.string ⟨#[]⟩)
      refine bodyPost_ret (by simp [results, Tryz.results21, go_sem, e0, e1, e2, e3]; try rfl) rfl ?_
      exact ⟨rfl, (((HB.out.setCell (Nat.le_refl _) _).setCell (Nat.le_refl _) _).setCell (Nat.le_refl _) _).setCell (Nat.le_refl _) _⟩
  rw [hi] at hR hf
  have e0 : ((E : Int) < 0) = False := by simp only [eq_iff_iff, iff_false]; omega
  have e0' : ¬ ((E : Int) < 0 ∧ 65536 < b.length) := fun h => by omega
  rw [if_neg e0'] at hR
  by_cases hE6 : 65536 < E
  · have hE7 : (65536 : Int) < (E : Int) := by omega
    rw [if_pos hE7] at hR
    subst hR
    clear hi e0' hb hE6 hE
    go_enter Tryz.func21, Tryz.ntmps21
    go_wp2_with fail
    clear hw0
    (go_at_call 43; refine (hf _).mono ?_; rintro e w' ⟨rfl, rfl⟩; obtain ⟨q0, q1, q2, q3, z0, z1, z2, z3⟩ := HK.out)
    go_wp2_with fail
    obtain ⟨e0, e1, e2, e3, -, -, -, -⟩ := HK.out.set (.string ⟨#[]⟩) (.string ⟨#[]⟩) (.slice none 0 0) (.string ⟨#[]⟩)
    refine bodyPost_ret (by simp [results, Tryz.results21, go_sem, e0, e1, e2, e3]; try rfl) rfl ?_
    exact ⟨rfl, (((HB.out.setCell (Nat.le_refl _) _).setCell (Nat.le_refl _) _).setCell (Nat.le_refl _) _).setCell (Nat.le_refl _) _⟩
  have hE7 : ¬ (65536 : Int) < (E : Int) := by omega
  have e1' : ¬ (E : Int) < 0 := by omega
  rw [if_neg hE7, if_neg e1', Int.toNat_natCast] at hR
  have hEi : (E : Int) ≤ 65536 := by omega
  have s1 := sl_to b E (E : Int) rfl (by omega)
  have s2 := sl_from b (E + 4) ((E : Int) + 4) (by omega) hE
  have hbl : (b.drop (E + 4)).length ≤ 1073741824 := by rw [List.length_drop]; omega
  have htl : (b.take E).length ≤ 1073741824 := by rw [List.length_take]; omega
  obtain ⟨u, hu⟩ : ∃ u, b.take E = u := ⟨_, rfl⟩
  obtain ⟨bd, hbd⟩ : ∃ u, b.drop (E + 4) = u := ⟨_, rfl⟩
  rw [hu] at s1 hR htl
  rw [hbd] at s2 hR hbl
  have hln := linesD_any u htl
  have hml : ∀ x ∈ lns u [13, 10], x.length ≤ 1073741824 := fun x hx => by have := lns_mem_len u [13, 10] hx; omega
  have hl1 := (lns_len u [13, 10] (by decide)).1
  unfold LinR at hln
  clear hi e0' e1' hE6 hE hu hbd htl hb
  generalize lns u [13, 10] = ls at *
  cases hcr : ls.any crL with
  | true =>
    rw [hcr] at hR hln
    rw [if_pos rfl] at hR
    subst hR
    clear hcr hl1 hml
    go_enter Tryz.func21, Tryz.ntmps21
    go_wp2_with fail
    clear hw0
    (go_at_call 43; refine (hf _).mono ?_; rintro e w' ⟨rfl, rfl⟩)
    go_wp2_with fail
    (go_at_call 44; refine (hln _).mono ?_; rintro e w1 ⟨hb1, ⟨-, rfl⟩ | ⟨hx, -⟩⟩)
    case inr => cases hx
    have HK1 := Lib.hid (HK.out.below hb1 HS.out)
    have HB1 := Lib.hid (HB.out.trans (hb1.mono HB.out.size))
    clear hb1
    obtain ⟨q0, q1, q2, q3, z0, z1, z2, z3⟩ := HK1.out
    go_wp2_with fail
    obtain ⟨e0, e1, e2, e3, -, -, -, -⟩ := HK1.out.set (.string ⟨#[]⟩) (.string ⟨#[]⟩) (.slice none 0 0) (.string ⟨#[]⟩)
    refine bodyPost_ret (by simp [results, Tryz.results21, go_sem, e0, e1, e2, e3]; try rfl) rfl ?_
    exact ⟨rfl, (((HB1.out.setCell (Nat.le_refl _) _).setCell (Nat.le_refl _) _).setCell (Nat.le_refl _) _).setCell (Nat.le_refl _) _⟩
  | false =>
  rw [hcr] at hR hln
  rw [if_neg (by decide)] at hR
  clear hcr
  cases ls with
  | nil => simp at hl1
  | cons l0 r =>
  clear hl1
  have hfi := firstR_any l0 (hml l0 (by simp))
  have hhd := fun v w (hv : Txts w v r) => headersR_any r v w hv (fun x hx => hml x (by simp [hx]))
  unfold FirR at hfi
  unfold HedsR at hhd
  clear hml
  unfold linesL at hR
  simp only at hR
  cases hfl : firstL l0 with
  | error c0 =>
    rw [hfl] at hR hfi
    simp only at hR
    subst hR
    have hc0 := codes_ne (first_err hfl)
    clear hfl
    go_enter Tryz.func21, Tryz.ntmps21
    go_wp2_with fail
    clear hw0
    (go_at_call 43; refine (hf _).mono ?_; rintro e w' ⟨rfl, rfl⟩)
    go_wp2_with fail
    (go_at_call 44; refine (hln _).mono ?_; rintro e w1 ⟨hb1, ⟨hx, -⟩ | ⟨-, lv, rfl, ht⟩⟩)
    case inl => cases hx
    have HK1 := Lib.hid (HK.out.below hb1 HS.out)
    have HB1 := Lib.hid (HB.out.trans (hb1.mono HB.out.size))
    have HS1 := Lib.hid (Nat.lt_of_lt_of_le HS.out hb1.size)
    clear hb1
    obtain ⟨lb, lo, lc, rfl, hlc, hl0, A2, hls, hlr⟩ := ht.cons
    have HR1 := Lib.hid hlr
    clear ht hlr
    go_wp2_with fail
    (go_at_call 45; refine (hfi _).mono ?_; rintro e w' ⟨rfl, rfl⟩)
    dsimp only [firV]
    obtain ⟨q0, q1, q2, q3, z0, z1, z2, z3⟩ := HK1.out
    go_wp2_with fail
    obtain ⟨e0, e1, e2, e3, -, -, -, -⟩ := HK1.out.set (.string ⟨#[]⟩) (.string ⟨#[]⟩) (.slice none 0 0) (.string ⟨#[]⟩)
    refine bodyPost_ret (by simp [results, Tryz.results21, go_sem, e0, e1, e2, e3]; try rfl) rfl ?_
    exact ⟨rfl, (((HB1.out.setCell (Nat.le_refl _) _).setCell (Nat.le_refl _) _).setCell (Nat.le_refl _) _).setCell (Nat.le_refl _) _⟩
  | ok mt =>
  obtain ⟨m, t⟩ := mt
  rw [hfl] at hR hfi
  simp only at hR
  clear hfl
  cases hhl : headersL r 0 with
  | error c0 =>
    rw [hhl] at hR hhd
    simp only at hR hhd
    subst hR
    have hc0 : (c0 != 0) = true := by rcases headers_err r 0 c0 hhl with rfl | rfl <;> rfl
    clear hhl
    go_enter Tryz.func21, Tryz.ntmps21
    go_wp2_with fail
    clear hw0
    (go_at_call 43; refine (hf _).mono ?_; rintro e w' ⟨rfl, rfl⟩)
    go_wp2_with fail
    (go_at_call 44; refine (hln _).mono ?_; rintro e w1 ⟨hb1, ⟨hx, -⟩ | ⟨-, lv, rfl, ht⟩⟩)
    case inl => cases hx
    have HK1 := Lib.hid (HK.out.below hb1 HS.out)
    have HB1 := Lib.hid (HB.out.trans (hb1.mono HB.out.size))
    have HS1 := Lib.hid (Nat.lt_of_lt_of_le HS.out hb1.size)
    clear hb1
    obtain ⟨lb, lo, lc, rfl, hlc, hl0, A2, hls, hlr⟩ := ht.cons
    have HR1 := Lib.hid hlr
    clear ht hlr
    go_wp2_with fail
    (go_at_call 45; refine (hfi _).mono ?_; rintro e w' ⟨rfl, rfl⟩)
    dsimp only [firV]
    go_wp2_with fail
    (go_at_call 46; refine (hhd _ _ HR1.out).mono ?_; rintro e w2 ⟨hb2, rfl⟩)
    have HK2 := Lib.hid (HK1.out.below hb2 HS1.out)
    have HB2 := Lib.hid (HB1.out.trans (hb2.mono HB1.out.size))
    clear hb2
    obtain ⟨q0, q1, q2, q3, z0, z1, z2, z3⟩ := HK2.out
    go_wp2_with fail
    obtain ⟨e0, e1, e2, e3, -, -, -, -⟩ := HK2.out.set (.string ⟨#[]⟩) (.string ⟨#[]⟩) (.slice none 0 0) (.string ⟨#[]⟩)
    refine bodyPost_ret (by simp [results, Tryz.results21, go_sem, e0, e1, e2, e3]; try rfl) rfl ?_
    exact ⟨rfl, (((HB2.out.setCell (Nat.le_refl _) _).setCell (Nat.le_refl _) _).setCell (Nat.le_refl _) _).setCell (Nat.le_refl _) _⟩
  | ok hs =>
  rw [hhl] at hR hhd
  simp only at hR hhd
  have hsm := headers_small r 0 hs hhl
  have hnl := headers_len r 0 hs hhl
  have hvl := headers_vlen r 0 hs hhl
  have hle := fun v w (hv : Hdrs w v hs) => lengthR_any hs v w hv (fun h hm => Nat.le_trans (hnl h hm) (by decide)) (fun h hm => Nat.le_trans (hvl h hm) (by decide))
  rw [length_eq hsm] at hle
  unfold LenR at hle
  clear hhl hsm hnl hvl
  cases hll : lengthL hs with
  | error c0 =>
    rw [hll] at hR hle
    simp only at hR hle
    subst hR
    have hc0 := codes_ne (length_err hll)
    clear hll
    go_enter Tryz.func21, Tryz.ntmps21
    go_wp2_with fail
    clear hw0
    (go_at_call 43; refine (hf _).mono ?_; rintro e w' ⟨rfl, rfl⟩)
    go_wp2_with fail
    (go_at_call 44; refine (hln _).mono ?_; rintro e w1 ⟨hb1, ⟨hx, -⟩ | ⟨-, lv, rfl, ht⟩⟩)
    case inl => cases hx
    have HK1 := Lib.hid (HK.out.below hb1 HS.out)
    have HB1 := Lib.hid (HB.out.trans (hb1.mono HB.out.size))
    have HS1 := Lib.hid (Nat.lt_of_lt_of_le HS.out hb1.size)
    clear hb1
    obtain ⟨lb, lo, lc, rfl, hlc, hl0, A2, hls, hlr⟩ := ht.cons
    have HR1 := Lib.hid hlr
    clear ht hlr
    go_wp2_with fail
    (go_at_call 45; refine (hfi _).mono ?_; rintro e w' ⟨rfl, rfl⟩)
    dsimp only [firV]
    go_wp2_with fail
    (go_at_call 46; refine (hhd _ _ HR1.out).mono ?_; rintro e w2 ⟨hb2, hv2, rfl, ho2, hlen⟩)
    obtain ⟨D, dc, rfl⟩ := (ho2.hdrs (by omega)).form
    have HK2 := Lib.hid (HK1.out.below hb2 HS1.out)
    have HB2 := Lib.hid (HB1.out.trans (hb2.mono HB1.out.size))
    have HS2 := Lib.hid (Nat.lt_of_lt_of_le HS1.out hb2.size)
    have HH2 := Lib.hid (ho2.hdrs (by omega))
    have HO2 := Lib.hid ho2
    have HLEN := Lib.hid hlen
    clear hb2 ho2 hlen
    go_wp2_with fail
    (go_at_call 47; refine (hle _ _ HH2.out).mono ?_; rintro e w3 ⟨hb3, rfl⟩)
    have HK3 := Lib.hid (HK2.out.below hb3 HS2.out)
    have HB3 := Lib.hid (HB2.out.trans (hb3.mono HB2.out.size))
    clear hb3
    obtain ⟨q0, q1, q2, q3, z0, z1, z2, z3⟩ := HK3.out
    go_wp2_with fail
    obtain ⟨e0, e1, e2, e3, -, -, -, -⟩ := HK3.out.set (.string ⟨#[]⟩) (.string ⟨#[]⟩) (.slice none 0 0) (.string ⟨#[]⟩)
    refine bodyPost_ret (by simp [results, Tryz.results21, go_sem, e0, e1, e2, e3]; try rfl) rfl ?_
    exact ⟨rfl, (((HB3.out.setCell (Nat.le_refl _) _).setCell (Nat.le_refl _) _).setCell (Nat.le_refl _) _).setCell (Nat.le_refl _) _⟩
  | ok n =>
  rw [hll] at hR hle
  simp only at hR hle
  clear hll
  by_cases hn : bd.length = n
  case neg =>
    rw [if_pos hn] at hR
    subst hR
    have hn' : ((bd.length : Int) != (n : Int)) = true := bne_iff_ne.2 (by omega)
    clear hn
    go_enter Tryz.func21, Tryz.ntmps21
    go_wp2_with fail
    clear hw0
    (go_at_call 43; refine (hf _).mono ?_; rintro e w' ⟨rfl, rfl⟩)
    go_wp2_with fail
    (go_at_call 44; refine (hln _).mono ?_; rintro e w1 ⟨hb1, ⟨hx, -⟩ | ⟨-, lv, rfl, ht⟩⟩)
    case inl => cases hx
    have HK1 := Lib.hid (HK.out.below hb1 HS.out)
    have HB1 := Lib.hid (HB.out.trans (hb1.mono HB.out.size))
    have HS1 := Lib.hid (Nat.lt_of_lt_of_le HS.out hb1.size)
    clear hb1
    obtain ⟨lb, lo, lc, rfl, hlc, hl0, A2, hls, hlr⟩ := ht.cons
    have HR1 := Lib.hid hlr
    clear ht hlr
    go_wp2_with fail
    (go_at_call 45; refine (hfi _).mono ?_; rintro e w' ⟨rfl, rfl⟩)
    dsimp only [firV]
    go_wp2_with fail
    (go_at_call 46; refine (hhd _ _ HR1.out).mono ?_; rintro e w2 ⟨hb2, hv2, rfl, ho2, hlen⟩)
    obtain ⟨D, dc, rfl⟩ := (ho2.hdrs (by omega)).form
    have HK2 := Lib.hid (HK1.out.below hb2 HS1.out)
    have HB2 := Lib.hid (HB1.out.trans (hb2.mono HB1.out.size))
    have HS2 := Lib.hid (Nat.lt_of_lt_of_le HS1.out hb2.size)
    have HH2 := Lib.hid (ho2.hdrs (by omega))
    have HO2 := Lib.hid ho2
    have HLEN := Lib.hid hlen
    clear hb2 ho2 hlen
    go_wp2_with fail
    (go_at_call 47; refine (hle _ _ HH2.out).mono ?_; rintro e w3 ⟨hb3, rfl⟩)
    have HK3 := Lib.hid (HK2.out.below hb3 HS2.out)
    have HB3 := Lib.hid (HB2.out.trans (hb3.mono HB2.out.size))
    clear hb3
    obtain ⟨q0, q1, q2, q3, z0, z1, z2, z3⟩ := HK3.out
    go_wp2_with fail
    obtain ⟨e0, e1, e2, e3, -, -, -, -⟩ := HK3.out.set (.string ⟨#[]⟩) (.string ⟨#[]⟩) (.slice none 0 0) (.string ⟨#[]⟩)
    refine bodyPost_ret (by simp [results, Tryz.results21, go_sem, e0, e1, e2, e3]; try rfl) rfl ?_
    exact ⟨rfl, (((HB3.out.setCell (Nat.le_refl _) _).setCell (Nat.le_refl _) _).setCell (Nat.le_refl _) _).setCell (Nat.le_refl _) _⟩
  rw [if_neg (fun h => h hn)] at hR
  subst hR
  have hn' : ((bd.length : Int) != (n : Int)) = false := by rw [hn]; simp
  clear hn
  go_enter Tryz.func21, Tryz.ntmps21
  go_wp2_with fail
  clear hw0
  (go_at_call 43; refine (hf _).mono ?_; rintro e w' ⟨rfl, rfl⟩)
  go_wp2_with fail
  (go_at_call 44; refine (hln _).mono ?_; rintro e w1 ⟨hb1, ⟨hx, -⟩ | ⟨-, lv, rfl, ht⟩⟩)
  case inl => cases hx
  have HK1 := Lib.hid (HK.out.below hb1 HS.out)
  have HB1 := Lib.hid (HB.out.trans (hb1.mono HB.out.size))
  have HS1 := Lib.hid (Nat.lt_of_lt_of_le HS.out hb1.size)
  clear hb1
  obtain ⟨lb, lo, lc, rfl, hlc, hl0, A2, hls, hlr⟩ := ht.cons
  have HR1 := Lib.hid hlr
  clear ht hlr
  go_wp2_with fail
  (go_at_call 45; refine (hfi _).mono ?_; rintro e w' ⟨rfl, rfl⟩)
  dsimp only [firV]
  go_wp2_with fail
  (go_at_call 46; refine (hhd _ _ HR1.out).mono ?_; rintro e w2 ⟨hb2, hv2, rfl, ho2, hlen⟩)
  obtain ⟨D, dc, rfl⟩ := (ho2.hdrs (by omega)).form
  have HK2 := Lib.hid (HK1.out.below hb2 HS1.out)
  have HB2 := Lib.hid (HB1.out.trans (hb2.mono HB1.out.size))
  have HS2 := Lib.hid (Nat.lt_of_lt_of_le HS1.out hb2.size)
  have HH2 := Lib.hid (ho2.hdrs (by omega))
  have HO2 := Lib.hid ho2
  have HLEN := Lib.hid hlen
  clear hb2 ho2 hlen
  go_wp2_with fail
  (go_at_call 47; refine (hle _ _ HH2.out).mono ?_; rintro e w3 ⟨hb3, rfl⟩)
  have HK3 := Lib.hid (HK2.out.below hb3 HS2.out)
  have HB3 := Lib.hid (HB2.out.trans (hb3.mono HB2.out.size))
  have HO3 := Lib.hid (HO2.out.below hb3 (Nat.le_refl _))
  clear hb3
  obtain ⟨q0, q1, q2, q3, z0, z1, z2, z3⟩ := HK3.out
  go_wp2_with fail
  obtain ⟨e0, e1, e2, e3, -, -, -, -⟩ := HK3.out.set (.string ⟨m.toArray⟩) (.string ⟨t.toArray⟩) (.slice D hs.length dc) (.string ⟨bd.toArray⟩)
  refine bodyPost_ret (by simp [results, Tryz.results21, go_sem, e0, e1, e2, e3]; try rfl) rfl ?_
  exact ⟨_, rfl, ((((HO3.out.setCell (p := ⟨w.heap.size, 0, none⟩) HS1.out _).setCell (p := ⟨w.heap.size, 1, none⟩) HS1.out _).setCell (p := ⟨w.heap.size, 2, none⟩) HS1.out _).setCell (p := ⟨w.heap.size, 3, none⟩) HS1.out _).hdrs (by have := HLEN.out; omega), (((HB3.out.setCell (Nat.le_refl _) _).setCell (Nat.le_refl _) _).setCell (Nat.le_refl _) _).setCell (Nat.le_refl _) _⟩
end Go.Proofs.YtidhemjnchonaaaGreatDoor
