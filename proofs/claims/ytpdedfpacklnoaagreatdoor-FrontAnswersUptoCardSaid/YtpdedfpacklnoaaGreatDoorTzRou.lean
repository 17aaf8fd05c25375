/- Contract of front.route, out of token.Read's. -/
import Derived.Test.YtpdedfpacklnoaaGreatDoorTzMR
import Derived.Test.YtpdedfpacklnoaaGreatDoorTzLnF
namespace Go.Proofs.YtpdedfpacklnoaaGreatDoor
open Go.RowKit Go.BL Go.Ct Go.Sl

theorem parts_le (p : List UInt8) : ∀ x ∈ partsL 47 p, x.length ≤ p.length := fun x h => parts_len 47 p x h
theorem keyL_name (s : List UInt8) : keyL s = isName s := by
 unfold keyL I.isKey isName nats
 rw [List.length_map, List.all_map]
 have h : ∀ c : UInt8, I.keyByte c.toNat = nameB c := by
  intro c
  rw [Bool.eq_iff_iff]
  unfold I.keyByte nameB
  simp only [Bool.or_eq_true, Bool.and_eq_true, decide_eq_true_eq, beq_iff_eq]
  omega
 have h2 : s.all (I.keyByte ∘ UInt8.toNat) = s.all nameB := by
  congr 1
  funext c
  exact h c
 rw [h2]
 cases s with
 | nil => simp
 | cons a t => simp only [List.length_cons, List.isEmpty_cons, Bool.not_false, Bool.true_and]; rw [decide_eq_true (show 1 ≤ t.length + 1 by omega), Bool.and_true, Bool.and_comm]
theorem kind_eq (m : List UInt8) (n : Nat) (bG bP bD : Bool) (h1 : (m == [71, 69, 84]) = bG) (h2 : (m == [80, 85, 84]) = bP) (h3 : (m == [68, 69, 76, 69, 84, 69]) = bD) :
  kindL m n = if bG = true ∧ n = 1 then 1 else if bP = true ∧ n = 2 then 2 else if bD = true ∧ n = 2 then 3 else 0 := by
 have g1 : (m = getT) ↔ bG = true := by rw [← h1, beq_iff_eq]; rfl
 have g2 : (m = putT) ↔ bP = true := by rw [← h2, beq_iff_eq]; rfl
 have g3 : (m = delT) ↔ bD = true := by rw [← h3, beq_iff_eq]; rfl
 unfold kindL
 simp only [g1, g2, g3]
theorem path_len (p : List UInt8) : (pathL p).1.length ≤ p.length ∧ (pathL p).2.1.length ≤ p.length ∧ (pathL p).2.2 ≤ 2 ∧ ((pathL p).2.2 ≠ 2 → (pathL p).2.1 = []) := by
 have h := parts_le p
 unfold pathL
 generalize partsL 47 p = l at *
 rcases l with _ | ⟨a, _ | ⟨b, _ | ⟨k, _ | ⟨i, _ | ⟨x, r⟩⟩⟩⟩⟩
 ·simp
 ·simp
 ·simp
 ·dsimp only
  split
  ·exact ⟨h k (by simp), by simp, by simp, fun _ => rfl⟩
  ·simp
 ·dsimp only
  split
  ·exact ⟨h k (by simp), h i (by simp), by simp, fun h => absurd rfl h⟩
  ·simp
 ·simp
set_option maxHeartbeats 16000000 in
set_option maxRecDepth 100000 in
theorem route_any (q : Rq) (h : Value) (id : Int) (w : World) (hd : H.Hdrs w h q.hs) (hz : q.p.length ≤ 1048576 ∧ q.b.length ≤ 1048576 ∧ ∀ x ∈ q.hs, x.1.length ≤ 1048576) (he : H.Env w) (hr : Errs w) (ht : Tab w)
  (hk : ∀ s, H.findL q.hs tokenH = some s → ∀ w, Calls Tryz.prog 84 #[.string ⟨s.toArray⟩] w (TokR (tokenR s) w)) :
  Calls Tryz.prog 37 #[rqV q h, .int .i64 id] w (RouR (routeL q.m q.p (H.findL q.hs tokenH) q.b id) w) := by
 obtain ⟨m, p, hs, b⟩ := q
 dsimp only [rqV] at *
 obtain ⟨A, ac, rfl⟩ : ∃ A c, h = .slice A hs.length c := by obtain ⟨_, A, c, e, _⟩ := hd; exact ⟨A, c, e⟩
 obtain ⟨w0, hw0⟩ : ∃ w0, w.alloc (.cells #[.string ⟨m.toArray⟩, .string ⟨p.toArray⟩, .slice A hs.length ac, .string ⟨b.toArray⟩] 24) = w0 := ⟨_, rfl⟩
 obtain ⟨w1, hw1⟩ : ∃ w1, w0.alloc (.cells #[.int .i64 0, .int .i64 0, .string ⟨#[]⟩, .string ⟨#[]⟩, .int .i64 0, .int .u64 0, .slice none 0 0, .slice none 0 0, .slice none 0 0] 34) = w1 := ⟨_, rfl⟩
 obtain ⟨w2, hw2⟩ : ∃ w2, w1.alloc (.cells #[.int .i64 id, .int .i64 0, .string ⟨#[]⟩, .string ⟨#[]⟩, .int .i64 0, .int .u64 0, .slice none 0 0, .slice none 0 0, .slice none 0 0] 34) = w2 := ⟨_, rfl⟩
 have HL0 : Hid (w.heap.size < w0.heap.size) := Lib.hid (by rw [← hw0]; simp)
 have HL1 : Hid (w0.heap.size < w1.heap.size) := Lib.hid (by rw [← hw1]; simp)
 have HL2 : Hid (w1.heap.size < w2.heap.size) := Lib.hid (by rw [← hw2]; simp)
 have HB2 : Hid (Below w.heap.size w w2) := Lib.hid (by rw [← hw2, ← hw1, ← hw0]; exact ((((Below.refl _ _).alloc (Nat.le_refl _) _).alloc (by simp) _).alloc (by simp; omega) _))
 have K2 : Hid (Bk w2 w.heap.size [.string ⟨m.toArray⟩, .string ⟨p.toArray⟩, .slice A hs.length ac, .string ⟨b.toArray⟩]) := Lib.hid (by
  have h0 : Bk w0 w.heap.size [.string ⟨m.toArray⟩, .string ⟨p.toArray⟩, .slice A hs.length ac, .string ⟨b.toArray⟩] := by rw [← hw0]; exact Bk.new w _ 24 rfl
  rw [← hw2]
  refine Bk.alloc ?_ _ (Nat.lt_trans HL0.out HL1.out)
  rw [← hw1]
  exact h0.alloc _ HL0.out)
 have R2 : Hid (Bk w2 w0.heap.size [.int .i64 0, .int .i64 0, .string ⟨#[]⟩, .string ⟨#[]⟩, .int .i64 0, .int .u64 0, .slice none 0 0, .slice none 0 0, .slice none 0 0]) := Lib.hid (by
  rw [← hw2]
  refine Bk.alloc ?_ _ HL1.out
  rw [← hw1]
  exact Bk.new w0 _ 34 rfl)
 have A2 : Hid (Bk w2 w1.heap.size [.int .i64 id, .int .i64 0, .string ⟨#[]⟩, .string ⟨#[]⟩, .int .i64 0, .int .u64 0, .slice none 0 0, .slice none 0 0, .slice none 0 0]) := Lib.hid (by rw [← hw2]; exact Bk.new w1 _ 34 rfl)
 have HNE : Hid (w0.heap.size ≠ w1.heap.size) := Lib.hid (Nat.ne_of_lt HL1.out)
 have HLE : Hid (w.heap.size ≤ w0.heap.size) := Lib.hid (Nat.le_of_lt HL0.out)
 have HD := Lib.hid hd
 have HZ := Lib.hid hz
 have HE := Lib.hid he
 have HR := Lib.hid hr
 have HT := Lib.hid ht
 have HK := Lib.hid hk
 clear hd hz he hr ht hk
 have hpa := fun w he => path_any p (by have := HZ.out.1; omega) w he
 have hrl : routeL m p (H.findL hs tokenH) b id = if (pathL p).2.2 = 0 then .error 404
  else if kindL m (pathL p).2.2 = 0 then .error 405
  else if isName (pathL p).1 = false ∨ ((pathL p).2.2 = 2 ∧ isName (pathL p).2.1 = false) then .error 400
  else match seenL (H.findL hs tokenH) with
  | .error _ => .error 400
  | .ok c => bodyL ⟨id, kindL m (pathL p).2.2, (pathL p).1, (pathL p).2.1, 0, 0, c⟩ b := rfl
 have hpl := path_len p
 obtain ⟨⟨key, item, pn⟩, hpe⟩ : ∃ x, pathL p = x := ⟨_, rfl⟩
 rw [hpe] at hpa hrl hpl
 dsimp only at hrl hpl
 unfold pathV at hpa
 dsimp only at hpa
 have HRL := Lib.hid hrl
 have HPL := Lib.hid hpl
 clear hrl hpe hpl
 have HW2 := Lib.hid hw2
 clear hw2
 have k1 : w1.cell? ⟨w.heap.size, 1, none⟩ = some (.string ⟨p.toArray⟩) := by
  have := (K2.out 1 _ rfl).1
  rw [← HW2.out, World.cell?_alloc_lt _ _ _ (Nat.lt_trans HL0.out HL1.out)] at this
  exact this
 have l1 : w.heap.size < w1.heap.size := Nat.lt_trans HL0.out HL1.out
 go_enter Tryz.func37, Tryz.ntmps37
 go_wp2_with fail
 rw [HW2.out]
 clear hw0 hw1 l1
 go_at_call 81
 refine (hpa _ (HE.out.below HB2.out)).mono ?_
 rintro e w3 ⟨rfl, hb3⟩
 have HB3 := Lib.hid (HB2.out.trans (hb3.mono HB2.out.size))
 have K3 := Lib.hid (K2.out.below hb3 (Nat.lt_trans HL0.out (Nat.lt_trans HL1.out HL2.out)))
 have R3 := Lib.hid (R2.out.below hb3 (Nat.lt_trans HL1.out HL2.out))
 have A3 := Lib.hid (A2.out.below hb3 HL2.out)
 have HS3 := Lib.hid (Nat.lt_of_lt_of_le HL2.out hb3.size)
 clear hb3 hpa k1
 have RQ : List Value := []
 clear RQ
 go_upto_block 0 with fail
 go_cut [37] from 30 to 63 (fun s37 wq => ∃ kn : Nat, Hid (kindL m pn = kn) ∧ Hid (kn ≠ 0) ∧ Hid (pn = 1 ∨ pn = 2) ∧ Hid (Bk wq w.heap.size [.string ⟨m.toArray⟩, .string ⟨p.toArray⟩, .slice A hs.length ac, .string ⟨b.toArray⟩]) ∧ Hid (Bk wq w0.heap.size [.int .i64 0, .int .i64 0, .string ⟨#[]⟩, .string ⟨#[]⟩, .int .i64 0, .int .u64 0, .slice none 0 0, .slice none 0 0, .slice none 0 0]) ∧ Hid (Bk wq w1.heap.size [.int .i64 id, .int .i64 (kn : Int), .string ⟨#[]⟩, .string ⟨#[]⟩, .int .i64 0, .int .u64 0, .slice none 0 0, .slice none 0 0, .slice none 0 0]) ∧ Hid (Below w.heap.size w wq) ∧ Hid (w1.heap.size < wq.heap.size))
 case first =>
  by_cases p0 : pn = 0
  ·have HV : Hid (routeL m p (H.findL hs tokenH) b id = .error 404) := Lib.hid (by rw [HRL.out, if_pos p0])
   subst p0
   have s0 := (A3.out 0 _ rfl).1
   have g0 := (R3.out 0 _ rfl).1
   have f0 := (R3.out 0 _ rfl).2
   have s1 := (A3.out 1 _ rfl).1
   have g1 := (R3.out 1 _ rfl).1
   have f1 := (R3.out 1 _ rfl).2
   have s2 := (A3.out 2 _ rfl).1
   have g2 := (R3.out 2 _ rfl).1
   have f2 := (R3.out 2 _ rfl).2
   have s3 := (A3.out 3 _ rfl).1
   have g3 := (R3.out 3 _ rfl).1
   have f3 := (R3.out 3 _ rfl).2
   have s4 := (A3.out 4 _ rfl).1
   have g4 := (R3.out 4 _ rfl).1
   have f4 := (R3.out 4 _ rfl).2
   have s5 := (A3.out 5 _ rfl).1
   have g5 := (R3.out 5 _ rfl).1
   have f5 := (R3.out 5 _ rfl).2
   have s6 := (A3.out 6 _ rfl).1
   have g6 := (R3.out 6 _ rfl).1
   have f6 := (R3.out 6 _ rfl).2
   have s7 := (A3.out 7 _ rfl).1
   have g7 := (R3.out 7 _ rfl).1
   have f7 := (R3.out 7 _ rfl).2
   have s8 := (A3.out 8 _ rfl).1
   have g8 := (R3.out 8 _ rfl).1
   have f8 := (R3.out 8 _ rfl).2
   have HQ6 := Lib.hid (Bk.sets_other HNE.out [.int .i64 id, .int .i64 0, .string ⟨#[]⟩, .string ⟨#[]⟩, .int .i64 0, .int .u64 0, .slice none 0 0, .slice none 0 0, .slice none 0 0] 0 A3.out)
   have HR4 := Lib.hid (Bk.sets [.int .i64 id, .int .i64 0, .string ⟨#[]⟩, .string ⟨#[]⟩, .int .i64 0, .int .u64 0, .slice none 0 0, .slice none 0 0, .slice none 0 0] 0 R3.out)
   have HB9 := Lib.hid (below_sets HLE.out [.int .i64 id, .int .i64 0, .string ⟨#[]⟩, .string ⟨#[]⟩, .int .i64 0, .int .u64 0, .slice none 0 0, .slice none 0 0, .slice none 0 0] 0 HB3.out)
   obtain ⟨w9, hw9⟩ : ∃ w9, sets w3 w0.heap.size 0 [.int .i64 id, .int .i64 0, .string ⟨#[]⟩, .string ⟨#[]⟩, .int .i64 0, .int .u64 0, .slice none 0 0, .slice none 0 0, .slice none 0 0] = w9 := ⟨_, rfl⟩
   rw [hw9] at HQ6 HR4 HB9
   go_upto_region 5 with fail
   refine hstart (S := fun u => u.cell? ⟨w1.heap.size, 0, none⟩ = some (.int .i64 id) ∧ u.cell? ⟨w1.heap.size, 1, none⟩ = some (.int .i64 0) ∧ u.cell? ⟨w1.heap.size, 2, none⟩ = some (.string ⟨#[]⟩) ∧ u.cell? ⟨w1.heap.size, 3, none⟩ = some (.string ⟨#[]⟩) ∧ u.cell? ⟨w1.heap.size, 4, none⟩ = some (.int .i64 0) ∧ u.cell? ⟨w1.heap.size, 5, none⟩ = some (.int .u64 0) ∧ u.cell? ⟨w1.heap.size, 6, none⟩ = some (.slice none 0 0) ∧ u.cell? ⟨w1.heap.size, 7, none⟩ = some (.slice none 0 0) ∧ u.cell? ⟨w1.heap.size, 8, none⟩ = some (.slice none 0 0)) (by kernel_rfl) (by repeat (first | exact PG.body | refine PG.then_ ?_ | refine PG.inBlock ?_)) ?_ (fun hPF hHeld => ?_)
   ·exact ⟨s0, s1, s2, s3, s4, s5, s6, s7, s8⟩
   refine htake (i := 0) (v := .agg #[.int .i64 id, .int .i64 0, .string ⟨#[]⟩, .string ⟨#[]⟩, .int .i64 0, .int .u64 0, .slice none 0 0, .slice none 0 0, .slice none 0 0]) rfl (by kernel_rfl) (by kernel_rfl) (by kernel_rfl) hPF (Or.inl ⟨by kernel_rfl, ?_⟩) hHeld ?_
   ·intro u hS; obtain ⟨p0, p1, p2, p3, p4, p5, p6, p7, p8⟩ := hS; go_simp
   refine wpAnyH_ready (rs := [1]) (by kernel_rfl) (by simp) ?_
   refine AllReadyH.cons (i := 1) rfl (fun K hK => ?_) AllReadyH.nil
   go_simp
   go_at_call 82
   refine (refuse_any 404 _).mono ?_
   rintro e w_8 ⟨rfl, rfl⟩
   refine hK.out _ _ ?_ (fun hHeld => ?_)
   ·exact ⟨s0, s1, s2, s3, s4, s5, s6, s7, s8⟩
   clear hK K
   refine wpAnyH_ready (rs := [2]) (by kernel_rfl) (by simp) ?_
   refine AllReadyH.cons (i := 2) rfl (fun K hK => ?_) AllReadyH.nil
   go_simp
   have hw9' : (((((((((w3.setCell ⟨w0.heap.size, 0, none⟩ (.int .i64 id)).setCell ⟨w0.heap.size, 1, none⟩ (.int .i64 0)).setCell ⟨w0.heap.size, 2, none⟩ (.string ⟨#[]⟩)).setCell ⟨w0.heap.size, 3, none⟩ (.string ⟨#[]⟩)).setCell ⟨w0.heap.size, 4, none⟩ (.int .i64 0)).setCell ⟨w0.heap.size, 5, none⟩ (.int .u64 0)).setCell ⟨w0.heap.size, 6, none⟩ (.slice none 0 0)).setCell ⟨w0.heap.size, 7, none⟩ (.slice none 0 0)).setCell ⟨w0.heap.size, 8, none⟩ (.slice none 0 0)) = w9 := hw9
   rw [hw9']
   have q0 := (HQ6.out 0 _ rfl).1
   have c0 := (HR4.out 0 _ rfl).1
   have q1 := (HQ6.out 1 _ rfl).1
   have c1 := (HR4.out 1 _ rfl).1
   have q2 := (HQ6.out 2 _ rfl).1
   have c2 := (HR4.out 2 _ rfl).1
   have q3 := (HQ6.out 3 _ rfl).1
   have c3 := (HR4.out 3 _ rfl).1
   have q4 := (HQ6.out 4 _ rfl).1
   have c4 := (HR4.out 4 _ rfl).1
   have q5 := (HQ6.out 5 _ rfl).1
   have c5 := (HR4.out 5 _ rfl).1
   have q6 := (HQ6.out 6 _ rfl).1
   have c6 := (HR4.out 6 _ rfl).1
   have q7 := (HQ6.out 7 _ rfl).1
   have c7 := (HR4.out 7 _ rfl).1
   have q8 := (HQ6.out 8 _ rfl).1
   have c8 := (HR4.out 8 _ rfl).1
   clear hw9 hw9'
   refine hK.out _ _ ?_ (fun hHeld => ?_)
   ·exact ⟨q0, q1, q2, q3, q4, q5, q6, q7, q8⟩
   clear hK K
   refine wpAnyH_ready (rs := [3]) (by kernel_rfl) (by simp) ?_
   refine AllReadyH.cons (i := 3) rfl (fun K hK => ?_) AllReadyH.nil
   go_simp
   refine hK.out _ _ ?_ (fun hHeld => ?_)
   ·exact ⟨q0, q1, q2, q3, q4, q5, q6, q7, q8⟩
   clear hK K
   refine wpAnyH_done (by kernel_rfl) ?_ _
   go_wp2_with fail
   refine bodyPost_ret (v := .tuple #[.agg #[.int .i64 id, .int .i64 0, .string ⟨#[]⟩, .string ⟨#[]⟩, .int .i64 0, .int .u64 0, .slice none 0 0, .slice none 0 0, .slice none 0 0], .iface 85 (.agg #[.int .i64 404, .int .i64 240])]) (by simp [results, Tryz.results37, go_sem, c0, c1, c2, c3, c4, c5, c6, c7, c8]; try rfl) rfl ?_
   exact ⟨HB9.out.drew, .inr ⟨404, _, _, _, _, _, _, _, _, _, _, _, _, _, _, _, HV.out, rfl⟩⟩
  have h12 : pn = 1 ∨ pn = 2 := by have := HPL.out.2.2.1; omega
  have n0 : ((pn : Int) == 0) = false := beq_false_of_ne (by omega)
  obtain ⟨bG, hG⟩ : ∃ x, (m == [71, 69, 84]) = x := ⟨_, rfl⟩
  obtain ⟨bP, hP⟩ : ∃ x, (m == [80, 85, 84]) = x := ⟨_, rfl⟩
  obtain ⟨bD, hDl⟩ : ∃ x, (m == [68, 69, 76, 69, 84, 69]) = x := ⟨_, rfl⟩
  have HKI := Lib.hid (kind_eq m pn bG bP bD hG hP hDl)
  have HEX : Hid ((bG && bP) = false ∧ (bG && bD) = false ∧ (bP && bD) = false) := Lib.hid (by
   refine ⟨?_, ?_, ?_⟩
   ·rw [← hG, ← hP]; by_cases h : m = [71, 69, 84]
    ·subst h; rfl
    ·rw [beq_false_of_ne h]; rfl
   ·rw [← hG, ← hDl]; by_cases h : m = [71, 69, 84]
    ·subst h; rfl
    ·rw [beq_false_of_ne h]; rfl
   ·rw [← hP, ← hDl]; by_cases h : m = [80, 85, 84]
    ·subst h; rfl
    ·rw [beq_false_of_ne h]; rfl)
  have HPN := Lib.hid (show pn ≠ 0 from p0)
  have q0 := (K3.out 0 _ rfl).1
  have a1 := (A3.out 1 _ rfl).1
  have fa1 := (A3.out 1 _ rfl).2
  have HMV : ∀ kn : Nat, Hid (Bk (w3.setCell ⟨w1.heap.size, 1, none⟩ (.int .i64 (kn : Int))) w.heap.size [.string ⟨m.toArray⟩, .string ⟨p.toArray⟩, .slice A hs.length ac, .string ⟨b.toArray⟩] ∧ Bk (w3.setCell ⟨w1.heap.size, 1, none⟩ (.int .i64 (kn : Int))) w0.heap.size [.int .i64 0, .int .i64 0, .string ⟨#[]⟩, .string ⟨#[]⟩, .int .i64 0, .int .u64 0, .slice none 0 0, .slice none 0 0, .slice none 0 0] ∧ Bk (w3.setCell ⟨w1.heap.size, 1, none⟩ (.int .i64 (kn : Int))) w1.heap.size [.int .i64 id, .int .i64 (kn : Int), .string ⟨#[]⟩, .string ⟨#[]⟩, .int .i64 0, .int .u64 0, .slice none 0 0, .slice none 0 0, .slice none 0 0] ∧ Below w.heap.size w (w3.setCell ⟨w1.heap.size, 1, none⟩ (.int .i64 (kn : Int))) ∧ w1.heap.size < (w3.setCell ⟨w1.heap.size, 1, none⟩ (.int .i64 (kn : Int))).heap.size) := fun kn =>
   Lib.hid ⟨K3.out.other (p := ⟨w1.heap.size, 1, none⟩) (Nat.ne_of_gt (Nat.lt_trans HL0.out HL1.out)) _, R3.out.other (p := ⟨w1.heap.size, 1, none⟩) (fun h => HNE.out h.symm) _, A3.out.set 1 _, HB3.out.setCell (p := ⟨w1.heap.size, 1, none⟩) (Nat.le_of_lt (Nat.lt_trans HL0.out HL1.out)) _, by rw [World.size_setCell]; exact HS3.out⟩
  have HMW := Lib.hid HMV
  clear p0 HMV
  rcases h12 with h12 | h12
  ·subst h12
   cases bG
   case true =>
    obtain rfl : bP = false := by have := HEX.out.1; simpa using this
    obtain rfl : bD = false := by have := HEX.out.2.1; simpa using this
    obtain ⟨m1, m2, m3, m4, m5⟩ := (HMW.out 1).out
    go_wp2_with fail
    go_meet
    case rel => exact ⟨1, Lib.hid (by rw [HKI.out]; rfl), Lib.hid (by decide), Lib.hid (by simp), Lib.hid m1, Lib.hid m2, Lib.hid m3, Lib.hid m4, Lib.hid m5⟩
   case false =>
   have HV : Hid (routeL m p (H.findL hs tokenH) b id = .error 405) := Lib.hid (by rw [HRL.out, if_neg (by decide), if_pos (by rw [HKI.out]; simp)])
   clear q0 a1 fa1
   have q0 := (K3.out 0 _ rfl).1
   cases bP
   ·cases bD
    ·go_wp2_with fail
     have s0 := (A3.out 0 _ rfl).1
     have g0 := (R3.out 0 _ rfl).1
     have f0 := (R3.out 0 _ rfl).2
     have s1 := (A3.out 1 _ rfl).1
     have g1 := (R3.out 1 _ rfl).1
     have f1 := (R3.out 1 _ rfl).2
     have s2 := (A3.out 2 _ rfl).1
     have g2 := (R3.out 2 _ rfl).1
     have f2 := (R3.out 2 _ rfl).2
     have s3 := (A3.out 3 _ rfl).1
     have g3 := (R3.out 3 _ rfl).1
     have f3 := (R3.out 3 _ rfl).2
     have s4 := (A3.out 4 _ rfl).1
     have g4 := (R3.out 4 _ rfl).1
     have f4 := (R3.out 4 _ rfl).2
     have s5 := (A3.out 5 _ rfl).1
     have g5 := (R3.out 5 _ rfl).1
     have f5 := (R3.out 5 _ rfl).2
     have s6 := (A3.out 6 _ rfl).1
     have g6 := (R3.out 6 _ rfl).1
     have f6 := (R3.out 6 _ rfl).2
     have s7 := (A3.out 7 _ rfl).1
     have g7 := (R3.out 7 _ rfl).1
     have f7 := (R3.out 7 _ rfl).2
     have s8 := (A3.out 8 _ rfl).1
     have g8 := (R3.out 8 _ rfl).1
     have f8 := (R3.out 8 _ rfl).2
     have HQ6 := Lib.hid (Bk.sets_other HNE.out [.int .i64 id, .int .i64 0, .string ⟨#[]⟩, .string ⟨#[]⟩, .int .i64 0, .int .u64 0, .slice none 0 0, .slice none 0 0, .slice none 0 0] 0 A3.out)
     have HR4 := Lib.hid (Bk.sets [.int .i64 id, .int .i64 0, .string ⟨#[]⟩, .string ⟨#[]⟩, .int .i64 0, .int .u64 0, .slice none 0 0, .slice none 0 0, .slice none 0 0] 0 R3.out)
     have HB9 := Lib.hid (below_sets HLE.out [.int .i64 id, .int .i64 0, .string ⟨#[]⟩, .string ⟨#[]⟩, .int .i64 0, .int .u64 0, .slice none 0 0, .slice none 0 0, .slice none 0 0] 0 HB3.out)
     obtain ⟨w9, hw9⟩ : ∃ w9, sets w3 w0.heap.size 0 [.int .i64 id, .int .i64 0, .string ⟨#[]⟩, .string ⟨#[]⟩, .int .i64 0, .int .u64 0, .slice none 0 0, .slice none 0 0, .slice none 0 0] = w9 := ⟨_, rfl⟩
     rw [hw9] at HQ6 HR4 HB9
     go_upto_region 3 with fail
     refine hstart (S := fun u => u.cell? ⟨w1.heap.size, 0, none⟩ = some (.int .i64 id) ∧ u.cell? ⟨w1.heap.size, 1, none⟩ = some (.int .i64 0) ∧ u.cell? ⟨w1.heap.size, 2, none⟩ = some (.string ⟨#[]⟩) ∧ u.cell? ⟨w1.heap.size, 3, none⟩ = some (.string ⟨#[]⟩) ∧ u.cell? ⟨w1.heap.size, 4, none⟩ = some (.int .i64 0) ∧ u.cell? ⟨w1.heap.size, 5, none⟩ = some (.int .u64 0) ∧ u.cell? ⟨w1.heap.size, 6, none⟩ = some (.slice none 0 0) ∧ u.cell? ⟨w1.heap.size, 7, none⟩ = some (.slice none 0 0) ∧ u.cell? ⟨w1.heap.size, 8, none⟩ = some (.slice none 0 0)) (by kernel_rfl) (by repeat (first | exact PG.body | refine PG.then_ ?_ | refine PG.inBlock ?_)) ?_ (fun hPF hHeld => ?_)
     ·exact ⟨s0, s1, s2, s3, s4, s5, s6, s7, s8⟩
     refine htake (i := 0) (v := .agg #[.int .i64 id, .int .i64 0, .string ⟨#[]⟩, .string ⟨#[]⟩, .int .i64 0, .int .u64 0, .slice none 0 0, .slice none 0 0, .slice none 0 0]) rfl (by kernel_rfl) (by kernel_rfl) (by kernel_rfl) hPF (Or.inl ⟨by kernel_rfl, ?_⟩) hHeld ?_
     ·intro u hS; obtain ⟨p0, p1, p2, p3, p4, p5, p6, p7, p8⟩ := hS; go_simp
     refine wpAnyH_ready (rs := [1]) (by kernel_rfl) (by simp) ?_
     refine AllReadyH.cons (i := 1) rfl (fun K hK => ?_) AllReadyH.nil
     go_simp
     go_at_call 82
     refine (refuse_any 405 _).mono ?_
     rintro e w_8 ⟨rfl, rfl⟩
     refine hK.out _ _ ?_ (fun hHeld => ?_)
     ·exact ⟨s0, s1, s2, s3, s4, s5, s6, s7, s8⟩
     clear hK K
     refine wpAnyH_ready (rs := [2]) (by kernel_rfl) (by simp) ?_
     refine AllReadyH.cons (i := 2) rfl (fun K hK => ?_) AllReadyH.nil
     go_simp
     have hw9' : (((((((((w3.setCell ⟨w0.heap.size, 0, none⟩ (.int .i64 id)).setCell ⟨w0.heap.size, 1, none⟩ (.int .i64 0)).setCell ⟨w0.heap.size, 2, none⟩ (.string ⟨#[]⟩)).setCell ⟨w0.heap.size, 3, none⟩ (.string ⟨#[]⟩)).setCell ⟨w0.heap.size, 4, none⟩ (.int .i64 0)).setCell ⟨w0.heap.size, 5, none⟩ (.int .u64 0)).setCell ⟨w0.heap.size, 6, none⟩ (.slice none 0 0)).setCell ⟨w0.heap.size, 7, none⟩ (.slice none 0 0)).setCell ⟨w0.heap.size, 8, none⟩ (.slice none 0 0)) = w9 := hw9
     rw [hw9']
     have q0 := (HQ6.out 0 _ rfl).1
     have c0 := (HR4.out 0 _ rfl).1
     have q1 := (HQ6.out 1 _ rfl).1
     have c1 := (HR4.out 1 _ rfl).1
     have q2 := (HQ6.out 2 _ rfl).1
     have c2 := (HR4.out 2 _ rfl).1
     have q3 := (HQ6.out 3 _ rfl).1
     have c3 := (HR4.out 3 _ rfl).1
     have q4 := (HQ6.out 4 _ rfl).1
     have c4 := (HR4.out 4 _ rfl).1
     have q5 := (HQ6.out 5 _ rfl).1
     have c5 := (HR4.out 5 _ rfl).1
     have q6 := (HQ6.out 6 _ rfl).1
     have c6 := (HR4.out 6 _ rfl).1
     have q7 := (HQ6.out 7 _ rfl).1
     have c7 := (HR4.out 7 _ rfl).1
     have q8 := (HQ6.out 8 _ rfl).1
     have c8 := (HR4.out 8 _ rfl).1
     clear hw9 hw9'
     refine hK.out _ _ ?_ (fun hHeld => ?_)
     ·exact ⟨q0, q1, q2, q3, q4, q5, q6, q7, q8⟩
     clear hK K
     refine wpAnyH_ready (rs := [3]) (by kernel_rfl) (by simp) ?_
     refine AllReadyH.cons (i := 3) rfl (fun K hK => ?_) AllReadyH.nil
     go_simp
     refine hK.out _ _ ?_ (fun hHeld => ?_)
     ·exact ⟨q0, q1, q2, q3, q4, q5, q6, q7, q8⟩
     clear hK K
     refine wpAnyH_done (by kernel_rfl) ?_ _
     go_wp2_with fail
     refine bodyPost_ret (v := .tuple #[.agg #[.int .i64 id, .int .i64 0, .string ⟨#[]⟩, .string ⟨#[]⟩, .int .i64 0, .int .u64 0, .slice none 0 0, .slice none 0 0, .slice none 0 0], .iface 85 (.agg #[.int .i64 405, .int .i64 240])]) (by simp [results, Tryz.results37, go_sem, c0, c1, c2, c3, c4, c5, c6, c7, c8]; try rfl) rfl ?_
     exact ⟨HB9.out.drew, .inr ⟨405, _, _, _, _, _, _, _, _, _, _, _, _, _, _, _, HV.out, rfl⟩⟩
    ·go_wp2_with fail
     have s0 := (A3.out 0 _ rfl).1
     have g0 := (R3.out 0 _ rfl).1
     have f0 := (R3.out 0 _ rfl).2
     have s1 := (A3.out 1 _ rfl).1
     have g1 := (R3.out 1 _ rfl).1
     have f1 := (R3.out 1 _ rfl).2
     have s2 := (A3.out 2 _ rfl).1
     have g2 := (R3.out 2 _ rfl).1
     have f2 := (R3.out 2 _ rfl).2
     have s3 := (A3.out 3 _ rfl).1
     have g3 := (R3.out 3 _ rfl).1
     have f3 := (R3.out 3 _ rfl).2
     have s4 := (A3.out 4 _ rfl).1
     have g4 := (R3.out 4 _ rfl).1
     have f4 := (R3.out 4 _ rfl).2
     have s5 := (A3.out 5 _ rfl).1
     have g5 := (R3.out 5 _ rfl).1
     have f5 := (R3.out 5 _ rfl).2
     have s6 := (A3.out 6 _ rfl).1
     have g6 := (R3.out 6 _ rfl).1
     have f6 := (R3.out 6 _ rfl).2
     have s7 := (A3.out 7 _ rfl).1
     have g7 := (R3.out 7 _ rfl).1
     have f7 := (R3.out 7 _ rfl).2
     have s8 := (A3.out 8 _ rfl).1
     have g8 := (R3.out 8 _ rfl).1
     have f8 := (R3.out 8 _ rfl).2
     have HQ6 := Lib.hid (Bk.sets_other HNE.out [.int .i64 id, .int .i64 0, .string ⟨#[]⟩, .string ⟨#[]⟩, .int .i64 0, .int .u64 0, .slice none 0 0, .slice none 0 0, .slice none 0 0] 0 A3.out)
     have HR4 := Lib.hid (Bk.sets [.int .i64 id, .int .i64 0, .string ⟨#[]⟩, .string ⟨#[]⟩, .int .i64 0, .int .u64 0, .slice none 0 0, .slice none 0 0, .slice none 0 0] 0 R3.out)
     have HB9 := Lib.hid (below_sets HLE.out [.int .i64 id, .int .i64 0, .string ⟨#[]⟩, .string ⟨#[]⟩, .int .i64 0, .int .u64 0, .slice none 0 0, .slice none 0 0, .slice none 0 0] 0 HB3.out)
     obtain ⟨w9, hw9⟩ : ∃ w9, sets w3 w0.heap.size 0 [.int .i64 id, .int .i64 0, .string ⟨#[]⟩, .string ⟨#[]⟩, .int .i64 0, .int .u64 0, .slice none 0 0, .slice none 0 0, .slice none 0 0] = w9 := ⟨_, rfl⟩
     rw [hw9] at HQ6 HR4 HB9
     go_upto_region 3 with fail
     refine hstart (S := fun u => u.cell? ⟨w1.heap.size, 0, none⟩ = some (.int .i64 id) ∧ u.cell? ⟨w1.heap.size, 1, none⟩ = some (.int .i64 0) ∧ u.cell? ⟨w1.heap.size, 2, none⟩ = some (.string ⟨#[]⟩) ∧ u.cell? ⟨w1.heap.size, 3, none⟩ = some (.string ⟨#[]⟩) ∧ u.cell? ⟨w1.heap.size, 4, none⟩ = some (.int .i64 0) ∧ u.cell? ⟨w1.heap.size, 5, none⟩ = some (.int .u64 0) ∧ u.cell? ⟨w1.heap.size, 6, none⟩ = some (.slice none 0 0) ∧ u.cell? ⟨w1.heap.size, 7, none⟩ = some (.slice none 0 0) ∧ u.cell? ⟨w1.heap.size, 8, none⟩ = some (.slice none 0 0)) (by kernel_rfl) (by repeat (first | exact PG.body | refine PG.then_ ?_ | refine PG.inBlock ?_)) ?_ (fun hPF hHeld => ?_)
     ·exact ⟨s0, s1, s2, s3, s4, s5, s6, s7, s8⟩
     refine htake (i := 0) (v := .agg #[.int .i64 id, .int .i64 0, .string ⟨#[]⟩, .string ⟨#[]⟩, .int .i64 0, .int .u64 0, .slice none 0 0, .slice none 0 0, .slice none 0 0]) rfl (by kernel_rfl) (by kernel_rfl) (by kernel_rfl) hPF (Or.inl ⟨by kernel_rfl, ?_⟩) hHeld ?_
     ·intro u hS; obtain ⟨p0, p1, p2, p3, p4, p5, p6, p7, p8⟩ := hS; go_simp
     refine wpAnyH_ready (rs := [1]) (by kernel_rfl) (by simp) ?_
     refine AllReadyH.cons (i := 1) rfl (fun K hK => ?_) AllReadyH.nil
     go_simp
     go_at_call 82
     refine (refuse_any 405 _).mono ?_
     rintro e w_8 ⟨rfl, rfl⟩
     refine hK.out _ _ ?_ (fun hHeld => ?_)
     ·exact ⟨s0, s1, s2, s3, s4, s5, s6, s7, s8⟩
     clear hK K
     refine wpAnyH_ready (rs := [2]) (by kernel_rfl) (by simp) ?_
     refine AllReadyH.cons (i := 2) rfl (fun K hK => ?_) AllReadyH.nil
     go_simp
     have hw9' : (((((((((w3.setCell ⟨w0.heap.size, 0, none⟩ (.int .i64 id)).setCell ⟨w0.heap.size, 1, none⟩ (.int .i64 0)).setCell ⟨w0.heap.size, 2, none⟩ (.string ⟨#[]⟩)).setCell ⟨w0.heap.size, 3, none⟩ (.string ⟨#[]⟩)).setCell ⟨w0.heap.size, 4, none⟩ (.int .i64 0)).setCell ⟨w0.heap.size, 5, none⟩ (.int .u64 0)).setCell ⟨w0.heap.size, 6, none⟩ (.slice none 0 0)).setCell ⟨w0.heap.size, 7, none⟩ (.slice none 0 0)).setCell ⟨w0.heap.size, 8, none⟩ (.slice none 0 0)) = w9 := hw9
     rw [hw9']
     have q0 := (HQ6.out 0 _ rfl).1
     have c0 := (HR4.out 0 _ rfl).1
     have q1 := (HQ6.out 1 _ rfl).1
     have c1 := (HR4.out 1 _ rfl).1
     have q2 := (HQ6.out 2 _ rfl).1
     have c2 := (HR4.out 2 _ rfl).1
     have q3 := (HQ6.out 3 _ rfl).1
     have c3 := (HR4.out 3 _ rfl).1
     have q4 := (HQ6.out 4 _ rfl).1
     have c4 := (HR4.out 4 _ rfl).1
     have q5 := (HQ6.out 5 _ rfl).1
     have c5 := (HR4.out 5 _ rfl).1
     have q6 := (HQ6.out 6 _ rfl).1
     have c6 := (HR4.out 6 _ rfl).1
     have q7 := (HQ6.out 7 _ rfl).1
     have c7 := (HR4.out 7 _ rfl).1
     have q8 := (HQ6.out 8 _ rfl).1
     have c8 := (HR4.out 8 _ rfl).1
     clear hw9 hw9'
     refine hK.out _ _ ?_ (fun hHeld => ?_)
     ·exact ⟨q0, q1, q2, q3, q4, q5, q6, q7, q8⟩
     clear hK K
     refine wpAnyH_ready (rs := [3]) (by kernel_rfl) (by simp) ?_
     refine AllReadyH.cons (i := 3) rfl (fun K hK => ?_) AllReadyH.nil
     go_simp
     refine hK.out _ _ ?_ (fun hHeld => ?_)
     ·exact ⟨q0, q1, q2, q3, q4, q5, q6, q7, q8⟩
     clear hK K
     refine wpAnyH_done (by kernel_rfl) ?_ _
     go_wp2_with fail
     refine bodyPost_ret (v := .tuple #[.agg #[.int .i64 id, .int .i64 0, .string ⟨#[]⟩, .string ⟨#[]⟩, .int .i64 0, .int .u64 0, .slice none 0 0, .slice none 0 0, .slice none 0 0], .iface 85 (.agg #[.int .i64 405, .int .i64 240])]) (by simp [results, Tryz.results37, go_sem, c0, c1, c2, c3, c4, c5, c6, c7, c8]; try rfl) rfl ?_
     exact ⟨HB9.out.drew, .inr ⟨405, _, _, _, _, _, _, _, _, _, _, _, _, _, _, _, HV.out, rfl⟩⟩
   ·obtain rfl : bD = false := by have := HEX.out.2.2; simpa using this
    go_wp2_with fail
    have s0 := (A3.out 0 _ rfl).1
    have g0 := (R3.out 0 _ rfl).1
    have f0 := (R3.out 0 _ rfl).2
    have s1 := (A3.out 1 _ rfl).1
    have g1 := (R3.out 1 _ rfl).1
    have f1 := (R3.out 1 _ rfl).2
    have s2 := (A3.out 2 _ rfl).1
    have g2 := (R3.out 2 _ rfl).1
    have f2 := (R3.out 2 _ rfl).2
    have s3 := (A3.out 3 _ rfl).1
    have g3 := (R3.out 3 _ rfl).1
    have f3 := (R3.out 3 _ rfl).2
    have s4 := (A3.out 4 _ rfl).1
    have g4 := (R3.out 4 _ rfl).1
    have f4 := (R3.out 4 _ rfl).2
    have s5 := (A3.out 5 _ rfl).1
    have g5 := (R3.out 5 _ rfl).1
    have f5 := (R3.out 5 _ rfl).2
    have s6 := (A3.out 6 _ rfl).1
    have g6 := (R3.out 6 _ rfl).1
    have f6 := (R3.out 6 _ rfl).2
    have s7 := (A3.out 7 _ rfl).1
    have g7 := (R3.out 7 _ rfl).1
    have f7 := (R3.out 7 _ rfl).2
    have s8 := (A3.out 8 _ rfl).1
    have g8 := (R3.out 8 _ rfl).1
    have f8 := (R3.out 8 _ rfl).2
    have HQ6 := Lib.hid (Bk.sets_other HNE.out [.int .i64 id, .int .i64 0, .string ⟨#[]⟩, .string ⟨#[]⟩, .int .i64 0, .int .u64 0, .slice none 0 0, .slice none 0 0, .slice none 0 0] 0 A3.out)
    have HR4 := Lib.hid (Bk.sets [.int .i64 id, .int .i64 0, .string ⟨#[]⟩, .string ⟨#[]⟩, .int .i64 0, .int .u64 0, .slice none 0 0, .slice none 0 0, .slice none 0 0] 0 R3.out)
    have HB9 := Lib.hid (below_sets HLE.out [.int .i64 id, .int .i64 0, .string ⟨#[]⟩, .string ⟨#[]⟩, .int .i64 0, .int .u64 0, .slice none 0 0, .slice none 0 0, .slice none 0 0] 0 HB3.out)
    obtain ⟨w9, hw9⟩ : ∃ w9, sets w3 w0.heap.size 0 [.int .i64 id, .int .i64 0, .string ⟨#[]⟩, .string ⟨#[]⟩, .int .i64 0, .int .u64 0, .slice none 0 0, .slice none 0 0, .slice none 0 0] = w9 := ⟨_, rfl⟩
    rw [hw9] at HQ6 HR4 HB9
    go_upto_region 3 with fail
    refine hstart (S := fun u => u.cell? ⟨w1.heap.size, 0, none⟩ = some (.int .i64 id) ∧ u.cell? ⟨w1.heap.size, 1, none⟩ = some (.int .i64 0) ∧ u.cell? ⟨w1.heap.size, 2, none⟩ = some (.string ⟨#[]⟩) ∧ u.cell? ⟨w1.heap.size, 3, none⟩ = some (.string ⟨#[]⟩) ∧ u.cell? ⟨w1.heap.size, 4, none⟩ = some (.int .i64 0) ∧ u.cell? ⟨w1.heap.size, 5, none⟩ = some (.int .u64 0) ∧ u.cell? ⟨w1.heap.size, 6, none⟩ = some (.slice none 0 0) ∧ u.cell? ⟨w1.heap.size, 7, none⟩ = some (.slice none 0 0) ∧ u.cell? ⟨w1.heap.size, 8, none⟩ = some (.slice none 0 0)) (by kernel_rfl) (by repeat (first | exact PG.body | refine PG.then_ ?_ | refine PG.inBlock ?_)) ?_ (fun hPF hHeld => ?_)
    ·exact ⟨s0, s1, s2, s3, s4, s5, s6, s7, s8⟩
    refine htake (i := 0) (v := .agg #[.int .i64 id, .int .i64 0, .string ⟨#[]⟩, .string ⟨#[]⟩, .int .i64 0, .int .u64 0, .slice none 0 0, .slice none 0 0, .slice none 0 0]) rfl (by kernel_rfl) (by kernel_rfl) (by kernel_rfl) hPF (Or.inl ⟨by kernel_rfl, ?_⟩) hHeld ?_
    ·intro u hS; obtain ⟨p0, p1, p2, p3, p4, p5, p6, p7, p8⟩ := hS; go_simp
    refine wpAnyH_ready (rs := [1]) (by kernel_rfl) (by simp) ?_
    refine AllReadyH.cons (i := 1) rfl (fun K hK => ?_) AllReadyH.nil
    go_simp
    go_at_call 82
    refine (refuse_any 405 _).mono ?_
    rintro e w_8 ⟨rfl, rfl⟩
    refine hK.out _ _ ?_ (fun hHeld => ?_)
    ·exact ⟨s0, s1, s2, s3, s4, s5, s6, s7, s8⟩
    clear hK K
    refine wpAnyH_ready (rs := [2]) (by kernel_rfl) (by simp) ?_
    refine AllReadyH.cons (i := 2) rfl (fun K hK => ?_) AllReadyH.nil
    go_simp
    have hw9' : (((((((((w3.setCell ⟨w0.heap.size, 0, none⟩ (.int .i64 id)).setCell ⟨w0.heap.size, 1, none⟩ (.int .i64 0)).setCell ⟨w0.heap.size, 2, none⟩ (.string ⟨#[]⟩)).setCell ⟨w0.heap.size, 3, none⟩ (.string ⟨#[]⟩)).setCell ⟨w0.heap.size, 4, none⟩ (.int .i64 0)).setCell ⟨w0.heap.size, 5, none⟩ (.int .u64 0)).setCell ⟨w0.heap.size, 6, none⟩ (.slice none 0 0)).setCell ⟨w0.heap.size, 7, none⟩ (.slice none 0 0)).setCell ⟨w0.heap.size, 8, none⟩ (.slice none 0 0)) = w9 := hw9
    rw [hw9']
    have q0 := (HQ6.out 0 _ rfl).1
    have c0 := (HR4.out 0 _ rfl).1
    have q1 := (HQ6.out 1 _ rfl).1
    have c1 := (HR4.out 1 _ rfl).1
    have q2 := (HQ6.out 2 _ rfl).1
    have c2 := (HR4.out 2 _ rfl).1
    have q3 := (HQ6.out 3 _ rfl).1
    have c3 := (HR4.out 3 _ rfl).1
    have q4 := (HQ6.out 4 _ rfl).1
    have c4 := (HR4.out 4 _ rfl).1
    have q5 := (HQ6.out 5 _ rfl).1
    have c5 := (HR4.out 5 _ rfl).1
    have q6 := (HQ6.out 6 _ rfl).1
    have c6 := (HR4.out 6 _ rfl).1
    have q7 := (HQ6.out 7 _ rfl).1
    have c7 := (HR4.out 7 _ rfl).1
    have q8 := (HQ6.out 8 _ rfl).1
    have c8 := (HR4.out 8 _ rfl).1
    clear hw9 hw9'
    refine hK.out _ _ ?_ (fun hHeld => ?_)
    ·exact ⟨q0, q1, q2, q3, q4, q5, q6, q7, q8⟩
    clear hK K
    refine wpAnyH_ready (rs := [3]) (by kernel_rfl) (by simp) ?_
    refine AllReadyH.cons (i := 3) rfl (fun K hK => ?_) AllReadyH.nil
    go_simp
    refine hK.out _ _ ?_ (fun hHeld => ?_)
    ·exact ⟨q0, q1, q2, q3, q4, q5, q6, q7, q8⟩
    clear hK K
    refine wpAnyH_done (by kernel_rfl) ?_ _
    go_wp2_with fail
    refine bodyPost_ret (v := .tuple #[.agg #[.int .i64 id, .int .i64 0, .string ⟨#[]⟩, .string ⟨#[]⟩, .int .i64 0, .int .u64 0, .slice none 0 0, .slice none 0 0, .slice none 0 0], .iface 85 (.agg #[.int .i64 405, .int .i64 240])]) (by simp [results, Tryz.results37, go_sem, c0, c1, c2, c3, c4, c5, c6, c7, c8]; try rfl) rfl ?_
    exact ⟨HB9.out.drew, .inr ⟨405, _, _, _, _, _, _, _, _, _, _, _, _, _, _, _, HV.out, rfl⟩⟩
  ·subst h12
   cases bG
   case true =>
    obtain rfl : bP = false := by have := HEX.out.1; simpa using this
    obtain rfl : bD = false := by have := HEX.out.2.1; simpa using this
    have HV : Hid (routeL m p (H.findL hs tokenH) b id = .error 405) := Lib.hid (by rw [HRL.out, if_neg (by decide), if_pos (by rw [HKI.out]; rfl)])
    go_wp2_with fail
    have s0 := (A3.out 0 _ rfl).1
    have g0 := (R3.out 0 _ rfl).1
    have f0 := (R3.out 0 _ rfl).2
    have s1 := (A3.out 1 _ rfl).1
    have g1 := (R3.out 1 _ rfl).1
    have f1 := (R3.out 1 _ rfl).2
    have s2 := (A3.out 2 _ rfl).1
    have g2 := (R3.out 2 _ rfl).1
    have f2 := (R3.out 2 _ rfl).2
    have s3 := (A3.out 3 _ rfl).1
    have g3 := (R3.out 3 _ rfl).1
    have f3 := (R3.out 3 _ rfl).2
    have s4 := (A3.out 4 _ rfl).1
    have g4 := (R3.out 4 _ rfl).1
    have f4 := (R3.out 4 _ rfl).2
    have s5 := (A3.out 5 _ rfl).1
    have g5 := (R3.out 5 _ rfl).1
    have f5 := (R3.out 5 _ rfl).2
    have s6 := (A3.out 6 _ rfl).1
    have g6 := (R3.out 6 _ rfl).1
    have f6 := (R3.out 6 _ rfl).2
    have s7 := (A3.out 7 _ rfl).1
    have g7 := (R3.out 7 _ rfl).1
    have f7 := (R3.out 7 _ rfl).2
    have s8 := (A3.out 8 _ rfl).1
    have g8 := (R3.out 8 _ rfl).1
    have f8 := (R3.out 8 _ rfl).2
    have HQ6 := Lib.hid (Bk.sets_other HNE.out [.int .i64 id, .int .i64 0, .string ⟨#[]⟩, .string ⟨#[]⟩, .int .i64 0, .int .u64 0, .slice none 0 0, .slice none 0 0, .slice none 0 0] 0 A3.out)
    have HR4 := Lib.hid (Bk.sets [.int .i64 id, .int .i64 0, .string ⟨#[]⟩, .string ⟨#[]⟩, .int .i64 0, .int .u64 0, .slice none 0 0, .slice none 0 0, .slice none 0 0] 0 R3.out)
    have HB9 := Lib.hid (below_sets HLE.out [.int .i64 id, .int .i64 0, .string ⟨#[]⟩, .string ⟨#[]⟩, .int .i64 0, .int .u64 0, .slice none 0 0, .slice none 0 0, .slice none 0 0] 0 HB3.out)
    obtain ⟨w9, hw9⟩ : ∃ w9, sets w3 w0.heap.size 0 [.int .i64 id, .int .i64 0, .string ⟨#[]⟩, .string ⟨#[]⟩, .int .i64 0, .int .u64 0, .slice none 0 0, .slice none 0 0, .slice none 0 0] = w9 := ⟨_, rfl⟩
    rw [hw9] at HQ6 HR4 HB9
    go_upto_region 3 with fail
    refine hstart (S := fun u => u.cell? ⟨w1.heap.size, 0, none⟩ = some (.int .i64 id) ∧ u.cell? ⟨w1.heap.size, 1, none⟩ = some (.int .i64 0) ∧ u.cell? ⟨w1.heap.size, 2, none⟩ = some (.string ⟨#[]⟩) ∧ u.cell? ⟨w1.heap.size, 3, none⟩ = some (.string ⟨#[]⟩) ∧ u.cell? ⟨w1.heap.size, 4, none⟩ = some (.int .i64 0) ∧ u.cell? ⟨w1.heap.size, 5, none⟩ = some (.int .u64 0) ∧ u.cell? ⟨w1.heap.size, 6, none⟩ = some (.slice none 0 0) ∧ u.cell? ⟨w1.heap.size, 7, none⟩ = some (.slice none 0 0) ∧ u.cell? ⟨w1.heap.size, 8, none⟩ = some (.slice none 0 0)) (by kernel_rfl) (by repeat (first | exact PG.body | refine PG.then_ ?_ | refine PG.inBlock ?_)) ?_ (fun hPF hHeld => ?_)
    ·exact ⟨s0, s1, s2, s3, s4, s5, s6, s7, s8⟩
    refine htake (i := 0) (v := .agg #[.int .i64 id, .int .i64 0, .string ⟨#[]⟩, .string ⟨#[]⟩, .int .i64 0, .int .u64 0, .slice none 0 0, .slice none 0 0, .slice none 0 0]) rfl (by kernel_rfl) (by kernel_rfl) (by kernel_rfl) hPF (Or.inl ⟨by kernel_rfl, ?_⟩) hHeld ?_
    ·intro u hS; obtain ⟨p0, p1, p2, p3, p4, p5, p6, p7, p8⟩ := hS; go_simp
    refine wpAnyH_ready (rs := [1]) (by kernel_rfl) (by simp) ?_
    refine AllReadyH.cons (i := 1) rfl (fun K hK => ?_) AllReadyH.nil
    go_simp
    go_at_call 82
    refine (refuse_any 405 _).mono ?_
    rintro e w_8 ⟨rfl, rfl⟩
    refine hK.out _ _ ?_ (fun hHeld => ?_)
    ·exact ⟨s0, s1, s2, s3, s4, s5, s6, s7, s8⟩
    clear hK K
    refine wpAnyH_ready (rs := [2]) (by kernel_rfl) (by simp) ?_
    refine AllReadyH.cons (i := 2) rfl (fun K hK => ?_) AllReadyH.nil
    go_simp
    have hw9' : (((((((((w3.setCell ⟨w0.heap.size, 0, none⟩ (.int .i64 id)).setCell ⟨w0.heap.size, 1, none⟩ (.int .i64 0)).setCell ⟨w0.heap.size, 2, none⟩ (.string ⟨#[]⟩)).setCell ⟨w0.heap.size, 3, none⟩ (.string ⟨#[]⟩)).setCell ⟨w0.heap.size, 4, none⟩ (.int .i64 0)).setCell ⟨w0.heap.size, 5, none⟩ (.int .u64 0)).setCell ⟨w0.heap.size, 6, none⟩ (.slice none 0 0)).setCell ⟨w0.heap.size, 7, none⟩ (.slice none 0 0)).setCell ⟨w0.heap.size, 8, none⟩ (.slice none 0 0)) = w9 := hw9
    rw [hw9']
    have q0 := (HQ6.out 0 _ rfl).1
    have c0 := (HR4.out 0 _ rfl).1
    have q1 := (HQ6.out 1 _ rfl).1
    have c1 := (HR4.out 1 _ rfl).1
    have q2 := (HQ6.out 2 _ rfl).1
    have c2 := (HR4.out 2 _ rfl).1
    have q3 := (HQ6.out 3 _ rfl).1
    have c3 := (HR4.out 3 _ rfl).1
    have q4 := (HQ6.out 4 _ rfl).1
    have c4 := (HR4.out 4 _ rfl).1
    have q5 := (HQ6.out 5 _ rfl).1
    have c5 := (HR4.out 5 _ rfl).1
    have q6 := (HQ6.out 6 _ rfl).1
    have c6 := (HR4.out 6 _ rfl).1
    have q7 := (HQ6.out 7 _ rfl).1
    have c7 := (HR4.out 7 _ rfl).1
    have q8 := (HQ6.out 8 _ rfl).1
    have c8 := (HR4.out 8 _ rfl).1
    clear hw9 hw9'
    refine hK.out _ _ ?_ (fun hHeld => ?_)
    ·exact ⟨q0, q1, q2, q3, q4, q5, q6, q7, q8⟩
    clear hK K
    refine wpAnyH_ready (rs := [3]) (by kernel_rfl) (by simp) ?_
    refine AllReadyH.cons (i := 3) rfl (fun K hK => ?_) AllReadyH.nil
    go_simp
    refine hK.out _ _ ?_ (fun hHeld => ?_)
    ·exact ⟨q0, q1, q2, q3, q4, q5, q6, q7, q8⟩
    clear hK K
    refine wpAnyH_done (by kernel_rfl) ?_ _
    go_wp2_with fail
    refine bodyPost_ret (v := .tuple #[.agg #[.int .i64 id, .int .i64 0, .string ⟨#[]⟩, .string ⟨#[]⟩, .int .i64 0, .int .u64 0, .slice none 0 0, .slice none 0 0, .slice none 0 0], .iface 85 (.agg #[.int .i64 405, .int .i64 240])]) (by simp [results, Tryz.results37, go_sem, c0, c1, c2, c3, c4, c5, c6, c7, c8]; try rfl) rfl ?_
    exact ⟨HB9.out.drew, .inr ⟨405, _, _, _, _, _, _, _, _, _, _, _, _, _, _, _, HV.out, rfl⟩⟩
   case false =>
   cases bP
   case true =>
    obtain rfl : bD = false := by have := HEX.out.2.2; simpa using this
    obtain ⟨m1, m2, m3, m4, m5⟩ := (HMW.out 2).out
    go_wp2_with fail
    go_meet
    case rel => exact ⟨2, Lib.hid (by rw [HKI.out]; rfl), Lib.hid (by decide), Lib.hid (by simp), Lib.hid m1, Lib.hid m2, Lib.hid m3, Lib.hid m4, Lib.hid m5⟩
   case false =>
   cases bD
   case true =>
    obtain ⟨m1, m2, m3, m4, m5⟩ := (HMW.out 3).out
    go_wp2_with fail
    go_meet
    case rel => exact ⟨3, Lib.hid (by rw [HKI.out]; rfl), Lib.hid (by decide), Lib.hid (by simp), Lib.hid m1, Lib.hid m2, Lib.hid m3, Lib.hid m4, Lib.hid m5⟩
   case false =>
    have HV : Hid (routeL m p (H.findL hs tokenH) b id = .error 405) := Lib.hid (by rw [HRL.out, if_neg (by decide), if_pos (by rw [HKI.out]; rfl)])
    go_wp2_with fail
    have s0 := (A3.out 0 _ rfl).1
    have g0 := (R3.out 0 _ rfl).1
    have f0 := (R3.out 0 _ rfl).2
    have s1 := (A3.out 1 _ rfl).1
    have g1 := (R3.out 1 _ rfl).1
    have f1 := (R3.out 1 _ rfl).2
    have s2 := (A3.out 2 _ rfl).1
    have g2 := (R3.out 2 _ rfl).1
    have f2 := (R3.out 2 _ rfl).2
    have s3 := (A3.out 3 _ rfl).1
    have g3 := (R3.out 3 _ rfl).1
    have f3 := (R3.out 3 _ rfl).2
    have s4 := (A3.out 4 _ rfl).1
    have g4 := (R3.out 4 _ rfl).1
    have f4 := (R3.out 4 _ rfl).2
    have s5 := (A3.out 5 _ rfl).1
    have g5 := (R3.out 5 _ rfl).1
    have f5 := (R3.out 5 _ rfl).2
    have s6 := (A3.out 6 _ rfl).1
    have g6 := (R3.out 6 _ rfl).1
    have f6 := (R3.out 6 _ rfl).2
    have s7 := (A3.out 7 _ rfl).1
    have g7 := (R3.out 7 _ rfl).1
    have f7 := (R3.out 7 _ rfl).2
    have s8 := (A3.out 8 _ rfl).1
    have g8 := (R3.out 8 _ rfl).1
    have f8 := (R3.out 8 _ rfl).2
    have HQ6 := Lib.hid (Bk.sets_other HNE.out [.int .i64 id, .int .i64 0, .string ⟨#[]⟩, .string ⟨#[]⟩, .int .i64 0, .int .u64 0, .slice none 0 0, .slice none 0 0, .slice none 0 0] 0 A3.out)
    have HR4 := Lib.hid (Bk.sets [.int .i64 id, .int .i64 0, .string ⟨#[]⟩, .string ⟨#[]⟩, .int .i64 0, .int .u64 0, .slice none 0 0, .slice none 0 0, .slice none 0 0] 0 R3.out)
    have HB9 := Lib.hid (below_sets HLE.out [.int .i64 id, .int .i64 0, .string ⟨#[]⟩, .string ⟨#[]⟩, .int .i64 0, .int .u64 0, .slice none 0 0, .slice none 0 0, .slice none 0 0] 0 HB3.out)
    obtain ⟨w9, hw9⟩ : ∃ w9, sets w3 w0.heap.size 0 [.int .i64 id, .int .i64 0, .string ⟨#[]⟩, .string ⟨#[]⟩, .int .i64 0, .int .u64 0, .slice none 0 0, .slice none 0 0, .slice none 0 0] = w9 := ⟨_, rfl⟩
    rw [hw9] at HQ6 HR4 HB9
    go_upto_region 3 with fail
    refine hstart (S := fun u => u.cell? ⟨w1.heap.size, 0, none⟩ = some (.int .i64 id) ∧ u.cell? ⟨w1.heap.size, 1, none⟩ = some (.int .i64 0) ∧ u.cell? ⟨w1.heap.size, 2, none⟩ = some (.string ⟨#[]⟩) ∧ u.cell? ⟨w1.heap.size, 3, none⟩ = some (.string ⟨#[]⟩) ∧ u.cell? ⟨w1.heap.size, 4, none⟩ = some (.int .i64 0) ∧ u.cell? ⟨w1.heap.size, 5, none⟩ = some (.int .u64 0) ∧ u.cell? ⟨w1.heap.size, 6, none⟩ = some (.slice none 0 0) ∧ u.cell? ⟨w1.heap.size, 7, none⟩ = some (.slice none 0 0) ∧ u.cell? ⟨w1.heap.size, 8, none⟩ = some (.slice none 0 0)) (by kernel_rfl) (by repeat (first | exact PG.body | refine PG.then_ ?_ | refine PG.inBlock ?_)) ?_ (fun hPF hHeld => ?_)
    ·exact ⟨s0, s1, s2, s3, s4, s5, s6, s7, s8⟩
    refine htake (i := 0) (v := .agg #[.int .i64 id, .int .i64 0, .string ⟨#[]⟩, .string ⟨#[]⟩, .int .i64 0, .int .u64 0, .slice none 0 0, .slice none 0 0, .slice none 0 0]) rfl (by kernel_rfl) (by kernel_rfl) (by kernel_rfl) hPF (Or.inl ⟨by kernel_rfl, ?_⟩) hHeld ?_
    ·intro u hS; obtain ⟨p0, p1, p2, p3, p4, p5, p6, p7, p8⟩ := hS; go_simp
    refine wpAnyH_ready (rs := [1]) (by kernel_rfl) (by simp) ?_
    refine AllReadyH.cons (i := 1) rfl (fun K hK => ?_) AllReadyH.nil
    go_simp
    go_at_call 82
    refine (refuse_any 405 _).mono ?_
    rintro e w_8 ⟨rfl, rfl⟩
    refine hK.out _ _ ?_ (fun hHeld => ?_)
    ·exact ⟨s0, s1, s2, s3, s4, s5, s6, s7, s8⟩
    clear hK K
    refine wpAnyH_ready (rs := [2]) (by kernel_rfl) (by simp) ?_
    refine AllReadyH.cons (i := 2) rfl (fun K hK => ?_) AllReadyH.nil
    go_simp
    have hw9' : (((((((((w3.setCell ⟨w0.heap.size, 0, none⟩ (.int .i64 id)).setCell ⟨w0.heap.size, 1, none⟩ (.int .i64 0)).setCell ⟨w0.heap.size, 2, none⟩ (.string ⟨#[]⟩)).setCell ⟨w0.heap.size, 3, none⟩ (.string ⟨#[]⟩)).setCell ⟨w0.heap.size, 4, none⟩ (.int .i64 0)).setCell ⟨w0.heap.size, 5, none⟩ (.int .u64 0)).setCell ⟨w0.heap.size, 6, none⟩ (.slice none 0 0)).setCell ⟨w0.heap.size, 7, none⟩ (.slice none 0 0)).setCell ⟨w0.heap.size, 8, none⟩ (.slice none 0 0)) = w9 := hw9
    rw [hw9']
    have q0 := (HQ6.out 0 _ rfl).1
    have c0 := (HR4.out 0 _ rfl).1
    have q1 := (HQ6.out 1 _ rfl).1
    have c1 := (HR4.out 1 _ rfl).1
    have q2 := (HQ6.out 2 _ rfl).1
    have c2 := (HR4.out 2 _ rfl).1
    have q3 := (HQ6.out 3 _ rfl).1
    have c3 := (HR4.out 3 _ rfl).1
    have q4 := (HQ6.out 4 _ rfl).1
    have c4 := (HR4.out 4 _ rfl).1
    have q5 := (HQ6.out 5 _ rfl).1
    have c5 := (HR4.out 5 _ rfl).1
    have q6 := (HQ6.out 6 _ rfl).1
    have c6 := (HR4.out 6 _ rfl).1
    have q7 := (HQ6.out 7 _ rfl).1
    have c7 := (HR4.out 7 _ rfl).1
    have q8 := (HQ6.out 8 _ rfl).1
    have c8 := (HR4.out 8 _ rfl).1
    clear hw9 hw9'
    refine hK.out _ _ ?_ (fun hHeld => ?_)
    ·exact ⟨q0, q1, q2, q3, q4, q5, q6, q7, q8⟩
    clear hK K
    refine wpAnyH_ready (rs := [3]) (by kernel_rfl) (by simp) ?_
    refine AllReadyH.cons (i := 3) rfl (fun K hK => ?_) AllReadyH.nil
    go_simp
    refine hK.out _ _ ?_ (fun hHeld => ?_)
    ·exact ⟨q0, q1, q2, q3, q4, q5, q6, q7, q8⟩
    clear hK K
    refine wpAnyH_done (by kernel_rfl) ?_ _
    go_wp2_with fail
    refine bodyPost_ret (v := .tuple #[.agg #[.int .i64 id, .int .i64 0, .string ⟨#[]⟩, .string ⟨#[]⟩, .int .i64 0, .int .u64 0, .slice none 0 0, .slice none 0 0, .slice none 0 0], .iface 85 (.agg #[.int .i64 405, .int .i64 240])]) (by simp [results, Tryz.results37, go_sem, c0, c1, c2, c3, c4, c5, c6, c7, c8]; try rfl) rfl ?_
    exact ⟨HB9.out.drew, .inr ⟨405, _, _, _, _, _, _, _, _, _, _, _, _, _, _, _, HV.out, rfl⟩⟩
 case rest =>
 obtain ⟨kn, HKK, HK0, HPN, KQ, RQ, AQ, HBQ, HSQ⟩ := hcut
 have HRL2 : Hid (routeL m p (H.findL hs tokenH) b id = if isName key = false ∨ (pn = 2 ∧ isName item = false) then .error 400
  else match seenL (H.findL hs tokenH) with
  | .error _ => .error 400
  | .ok c => bodyL ⟨id, kn, key, item, 0, 0, c⟩ b) := Lib.hid (by
   rw [HRL.out, HKK.out, if_neg (by have := HPN.out; omega), if_neg HK0.out])
 have hky := fun w => key_any key (by have := HZ.out.1; have := HPL.out.1; omega) w
 have hit := fun w => key_any item (by have := HZ.out.1; have := HPL.out.2.1; omega) w
 rw [keyL_name] at hky hit
 obtain ⟨ky, hk'⟩ : ∃ x, isName key = x := ⟨_, rfl⟩
 obtain ⟨iy, hi'⟩ : ∃ x, isName item = x := ⟨_, rfl⟩
 rw [hk'] at hky
 rw [hi'] at hit
 have HKY := Lib.hid hk'
 have HIY := Lib.hid hi'
 clear hk' hi'
 obtain ⟨ok, hok⟩ : ∃ x, (ky && (!decide (pn = 2) || iy)) = x := ⟨_, rfl⟩
 have HOK := Lib.hid hok
 clear hok
 go_upto_region 12 with fail
 go_cut [75] from 64 to 77 (fun s75 wx => s75 = .bool (!ok) ∧ Hid (Bk wx w.heap.size [.string ⟨m.toArray⟩, .string ⟨p.toArray⟩, .slice A hs.length ac, .string ⟨b.toArray⟩]) ∧ Hid (Bk wx w0.heap.size [.int .i64 0, .int .i64 0, .string ⟨#[]⟩, .string ⟨#[]⟩, .int .i64 0, .int .u64 0, .slice none 0 0, .slice none 0 0, .slice none 0 0]) ∧ Hid (Bk wx w1.heap.size [.int .i64 id, .int .i64 (kn : Int), .string ⟨#[]⟩, .string ⟨#[]⟩, .int .i64 0, .int .u64 0, .slice none 0 0, .slice none 0 0, .slice none 0 0]) ∧ Hid (Below w.heap.size w wx) ∧ Hid (w1.heap.size < wx.heap.size))
 case first =>
  cases ky
  case false =>
   obtain rfl : ok = false := HOK.out.symm
   go_wp2_with fail
   go_at_call 60
   refine (hky _).mono ?_
   rintro e w4 ⟨rfl, hb4⟩
   have HB4 := Lib.hid (HBQ.out.trans (hb4.mono HBQ.out.size))
   have K4 := Lib.hid (KQ.out.below hb4 (Nat.lt_trans (Nat.lt_trans HL0.out HL1.out) HSQ.out))
   have R4 := Lib.hid (RQ.out.below hb4 (Nat.lt_trans HL1.out HSQ.out))
   have A4 := Lib.hid (AQ.out.below hb4 HSQ.out)
   have HS4 := Lib.hid (Nat.lt_of_lt_of_le HSQ.out hb4.size)
   clear hb4
   go_wp2_with fail
   go_meet
   case rel => exact ⟨rfl, K4, R4, A4, HB4, HS4⟩
  case true =>
  by_cases h2 : pn = 2
  case neg =>
   have n2 : ((pn : Int) == 2) = false := beq_false_of_ne (by omega)
   obtain rfl : ok = true := by have := HOK.out; rw [decide_eq_false h2] at this; exact this.symm
   clear h2
   go_wp2_with fail
   go_at_call 60
   refine (hky _).mono ?_
   rintro e w4 ⟨rfl, hb4⟩
   have HB4 := Lib.hid (HBQ.out.trans (hb4.mono HBQ.out.size))
   have K4 := Lib.hid (KQ.out.below hb4 (Nat.lt_trans (Nat.lt_trans HL0.out HL1.out) HSQ.out))
   have R4 := Lib.hid (RQ.out.below hb4 (Nat.lt_trans HL1.out HSQ.out))
   have A4 := Lib.hid (AQ.out.below hb4 HSQ.out)
   have HS4 := Lib.hid (Nat.lt_of_lt_of_le HSQ.out hb4.size)
   clear hb4
   go_wp2_with fail
   go_meet
   case rel => exact ⟨rfl, K4, R4, A4, HB4, HS4⟩
  case pos =>
  subst h2
  cases iy
  case false =>
   obtain rfl : ok = false := HOK.out.symm
   go_wp2_with fail
   go_at_call 60
   refine (hky _).mono ?_
   rintro e w4' ⟨rfl, hb4'⟩
   clear hky
   go_wp2_with fail
   go_at_call 60
   refine (hit _).mono ?_
   rintro e w4 ⟨rfl, hb4'2⟩
   have hb4 := hb4'.trans (hb4'2.mono hb4'.size)
   clear hb4' hb4'2
   have HB4 := Lib.hid (HBQ.out.trans (hb4.mono HBQ.out.size))
   have K4 := Lib.hid (KQ.out.below hb4 (Nat.lt_trans (Nat.lt_trans HL0.out HL1.out) HSQ.out))
   have R4 := Lib.hid (RQ.out.below hb4 (Nat.lt_trans HL1.out HSQ.out))
   have A4 := Lib.hid (AQ.out.below hb4 HSQ.out)
   have HS4 := Lib.hid (Nat.lt_of_lt_of_le HSQ.out hb4.size)
   clear hb4
   go_wp2_with fail
   go_meet
   case rel => exact ⟨rfl, K4, R4, A4, HB4, HS4⟩
  case true =>
   obtain rfl : ok = true := HOK.out.symm
   go_wp2_with fail
   go_at_call 60
   refine (hky _).mono ?_
   rintro e w4' ⟨rfl, hb4'⟩
   clear hky
   go_wp2_with fail
   go_at_call 60
   refine (hit _).mono ?_
   rintro e w4 ⟨rfl, hb4'2⟩
   have hb4 := hb4'.trans (hb4'2.mono hb4'.size)
   clear hb4' hb4'2
   have HB4 := Lib.hid (HBQ.out.trans (hb4.mono HBQ.out.size))
   have K4 := Lib.hid (KQ.out.below hb4 (Nat.lt_trans (Nat.lt_trans HL0.out HL1.out) HSQ.out))
   have R4 := Lib.hid (RQ.out.below hb4 (Nat.lt_trans HL1.out HSQ.out))
   have A4 := Lib.hid (AQ.out.below hb4 HSQ.out)
   have HS4 := Lib.hid (Nat.lt_of_lt_of_le HSQ.out hb4.size)
   clear hb4
   go_wp2_with fail
   go_meet
   case rel => exact ⟨rfl, K4, R4, A4, HB4, HS4⟩
 case rest =>
 clear hky hit
 obtain ⟨rfl, KX, RX, AX, HBX, HSX⟩ := hcut
 cases ok
 case false =>
  have HV : Hid (routeL m p (H.findL hs tokenH) b id = .error 400) := Lib.hid (by
   rw [HRL2.out, if_pos]
   rw [HKY.out, HIY.out]
   have := HOK.out
   by_cases h2 : pn = 2
   ·rw [decide_eq_true h2] at this
    cases ky
    ·exact .inl rfl
    ·exact .inr ⟨h2, this⟩
   ·rw [decide_eq_false h2] at this
    exact .inl (by simpa using this))
  go_wp2_with fail
  have s0 := (AX.out 0 _ rfl).1
  have g0 := (RX.out 0 _ rfl).1
  have f0 := (RX.out 0 _ rfl).2
  have s1 := (AX.out 1 _ rfl).1
  have g1 := (RX.out 1 _ rfl).1
  have f1 := (RX.out 1 _ rfl).2
  have s2 := (AX.out 2 _ rfl).1
  have g2 := (RX.out 2 _ rfl).1
  have f2 := (RX.out 2 _ rfl).2
  have s3 := (AX.out 3 _ rfl).1
  have g3 := (RX.out 3 _ rfl).1
  have f3 := (RX.out 3 _ rfl).2
  have s4 := (AX.out 4 _ rfl).1
  have g4 := (RX.out 4 _ rfl).1
  have f4 := (RX.out 4 _ rfl).2
  have s5 := (AX.out 5 _ rfl).1
  have g5 := (RX.out 5 _ rfl).1
  have f5 := (RX.out 5 _ rfl).2
  have s6 := (AX.out 6 _ rfl).1
  have g6 := (RX.out 6 _ rfl).1
  have f6 := (RX.out 6 _ rfl).2
  have s7 := (AX.out 7 _ rfl).1
  have g7 := (RX.out 7 _ rfl).1
  have f7 := (RX.out 7 _ rfl).2
  have s8 := (AX.out 8 _ rfl).1
  have g8 := (RX.out 8 _ rfl).1
  have f8 := (RX.out 8 _ rfl).2
  have HQ6 := Lib.hid (Bk.sets_other HNE.out [.int .i64 id, .int .i64 (kn : Int), .string ⟨#[]⟩, .string ⟨#[]⟩, .int .i64 0, .int .u64 0, .slice none 0 0, .slice none 0 0, .slice none 0 0] 0 AX.out)
  have HR4 := Lib.hid (Bk.sets [.int .i64 id, .int .i64 (kn : Int), .string ⟨#[]⟩, .string ⟨#[]⟩, .int .i64 0, .int .u64 0, .slice none 0 0, .slice none 0 0, .slice none 0 0] 0 RX.out)
  have HB9 := Lib.hid (below_sets HLE.out [.int .i64 id, .int .i64 (kn : Int), .string ⟨#[]⟩, .string ⟨#[]⟩, .int .i64 0, .int .u64 0, .slice none 0 0, .slice none 0 0, .slice none 0 0] 0 HBX.out)
  obtain ⟨w9, hw9⟩ : ∃ w9, sets wc w0.heap.size 0 [.int .i64 id, .int .i64 (kn : Int), .string ⟨#[]⟩, .string ⟨#[]⟩, .int .i64 0, .int .u64 0, .slice none 0 0, .slice none 0 0, .slice none 0 0] = w9 := ⟨_, rfl⟩
  rw [hw9] at HQ6 HR4 HB9
  go_upto_region 13 with fail
  refine hstart (S := fun u => u.cell? ⟨w1.heap.size, 0, none⟩ = some (.int .i64 id) ∧ u.cell? ⟨w1.heap.size, 1, none⟩ = some (.int .i64 (kn : Int)) ∧ u.cell? ⟨w1.heap.size, 2, none⟩ = some (.string ⟨#[]⟩) ∧ u.cell? ⟨w1.heap.size, 3, none⟩ = some (.string ⟨#[]⟩) ∧ u.cell? ⟨w1.heap.size, 4, none⟩ = some (.int .i64 0) ∧ u.cell? ⟨w1.heap.size, 5, none⟩ = some (.int .u64 0) ∧ u.cell? ⟨w1.heap.size, 6, none⟩ = some (.slice none 0 0) ∧ u.cell? ⟨w1.heap.size, 7, none⟩ = some (.slice none 0 0) ∧ u.cell? ⟨w1.heap.size, 8, none⟩ = some (.slice none 0 0)) (by kernel_rfl) (by repeat (first | exact PG.body | refine PG.then_ ?_ | refine PG.inBlock ?_)) ?_ (fun hPF hHeld => ?_)
  ·exact ⟨s0, s1, s2, s3, s4, s5, s6, s7, s8⟩
  refine htake (i := 0) (v := .agg #[.int .i64 id, .int .i64 (kn : Int), .string ⟨#[]⟩, .string ⟨#[]⟩, .int .i64 0, .int .u64 0, .slice none 0 0, .slice none 0 0, .slice none 0 0]) rfl (by kernel_rfl) (by kernel_rfl) (by kernel_rfl) hPF (Or.inl ⟨by kernel_rfl, ?_⟩) hHeld ?_
  ·intro u hS; obtain ⟨p0, p1, p2, p3, p4, p5, p6, p7, p8⟩ := hS; go_simp
  refine wpAnyH_ready (rs := [1]) (by kernel_rfl) (by simp) ?_
  refine AllReadyH.cons (i := 1) rfl (fun K hK => ?_) AllReadyH.nil
  go_simp
  go_at_call 82
  refine (refuse_any 400 _).mono ?_
  rintro e w_8 ⟨rfl, rfl⟩
  refine hK.out _ _ ?_ (fun hHeld => ?_)
  ·exact ⟨s0, s1, s2, s3, s4, s5, s6, s7, s8⟩
  clear hK K
  refine wpAnyH_ready (rs := [2]) (by kernel_rfl) (by simp) ?_
  refine AllReadyH.cons (i := 2) rfl (fun K hK => ?_) AllReadyH.nil
  go_simp
  have hw9' : (((((((((wc.setCell ⟨w0.heap.size, 0, none⟩ (.int .i64 id)).setCell ⟨w0.heap.size, 1, none⟩ (.int .i64 (kn : Int))).setCell ⟨w0.heap.size, 2, none⟩ (.string ⟨#[]⟩)).setCell ⟨w0.heap.size, 3, none⟩ (.string ⟨#[]⟩)).setCell ⟨w0.heap.size, 4, none⟩ (.int .i64 0)).setCell ⟨w0.heap.size, 5, none⟩ (.int .u64 0)).setCell ⟨w0.heap.size, 6, none⟩ (.slice none 0 0)).setCell ⟨w0.heap.size, 7, none⟩ (.slice none 0 0)).setCell ⟨w0.heap.size, 8, none⟩ (.slice none 0 0)) = w9 := hw9
  rw [hw9']
  have q0 := (HQ6.out 0 _ rfl).1
  have c0 := (HR4.out 0 _ rfl).1
  have q1 := (HQ6.out 1 _ rfl).1
  have c1 := (HR4.out 1 _ rfl).1
  have q2 := (HQ6.out 2 _ rfl).1
  have c2 := (HR4.out 2 _ rfl).1
  have q3 := (HQ6.out 3 _ rfl).1
  have c3 := (HR4.out 3 _ rfl).1
  have q4 := (HQ6.out 4 _ rfl).1
  have c4 := (HR4.out 4 _ rfl).1
  have q5 := (HQ6.out 5 _ rfl).1
  have c5 := (HR4.out 5 _ rfl).1
  have q6 := (HQ6.out 6 _ rfl).1
  have c6 := (HR4.out 6 _ rfl).1
  have q7 := (HQ6.out 7 _ rfl).1
  have c7 := (HR4.out 7 _ rfl).1
  have q8 := (HQ6.out 8 _ rfl).1
  have c8 := (HR4.out 8 _ rfl).1
  clear hw9 hw9'
  refine hK.out _ _ ?_ (fun hHeld => ?_)
  ·exact ⟨q0, q1, q2, q3, q4, q5, q6, q7, q8⟩
  clear hK K
  refine wpAnyH_ready (rs := [3]) (by kernel_rfl) (by simp) ?_
  refine AllReadyH.cons (i := 3) rfl (fun K hK => ?_) AllReadyH.nil
  go_simp
  refine hK.out _ _ ?_ (fun hHeld => ?_)
  ·exact ⟨q0, q1, q2, q3, q4, q5, q6, q7, q8⟩
  clear hK K
  refine wpAnyH_done (by kernel_rfl) ?_ _
  go_wp2_with fail
  refine bodyPost_ret (v := .tuple #[.agg #[.int .i64 id, .int .i64 (kn : Int), .string ⟨#[]⟩, .string ⟨#[]⟩, .int .i64 0, .int .u64 0, .slice none 0 0, .slice none 0 0, .slice none 0 0], .iface 85 (.agg #[.int .i64 400, .int .i64 240])]) (by simp [results, Tryz.results37, go_sem, c0, c1, c2, c3, c4, c5, c6, c7, c8]; try rfl) rfl ?_
  exact ⟨HB9.out.drew, .inr ⟨400, _, _, _, _, _, _, _, _, _, _, _, _, _, _, _, HV.out, rfl⟩⟩
 case true =>
 have HRL3 : Hid (routeL m p (H.findL hs tokenH) b id = match seenL (H.findL hs tokenH) with
  | .error _ => .error 400
  | .ok c => bodyL ⟨id, kn, key, item, 0, 0, c⟩ b) := Lib.hid (by
   rw [HRL2.out, if_neg]
   rw [HKY.out, HIY.out]
   have := HOK.out
   rintro (h | ⟨h1, h2⟩)
   ·rw [h] at this; cases this
   ·rw [h1, h2] at this; simp at this)
 have a2 := (AX.out 2 _ rfl).1
 have fa2 := (AX.out 2 _ rfl).2
 have a3 := (AX.out 3 _ rfl).1
 have fa3 := (AX.out 3 _ rfl).2
 have K5' := KX.out.other (p := ⟨w1.heap.size, 2, none⟩) (Nat.ne_of_gt (Nat.lt_trans HL0.out HL1.out)) (.string ⟨key.toArray⟩) |>.other (p := ⟨w1.heap.size, 3, none⟩) (Nat.ne_of_gt (Nat.lt_trans HL0.out HL1.out)) (.string ⟨item.toArray⟩)
 have R5' := RX.out.other (p := ⟨w1.heap.size, 2, none⟩) (fun h => HNE.out h.symm) (.string ⟨key.toArray⟩) |>.other (p := ⟨w1.heap.size, 3, none⟩) (fun h => HNE.out h.symm) (.string ⟨item.toArray⟩)
 have A5' := (AX.out.set 2 (.string ⟨key.toArray⟩)).set 3 (.string ⟨item.toArray⟩)
 have B5' := (HBX.out.setCell (p := ⟨w1.heap.size, 2, none⟩) (Nat.le_of_lt (Nat.lt_trans HL0.out HL1.out)) (.string ⟨key.toArray⟩)).setCell (p := ⟨w1.heap.size, 3, none⟩) (Nat.le_of_lt (Nat.lt_trans HL0.out HL1.out)) (.string ⟨item.toArray⟩)
 have S5' : w1.heap.size < ((wc.setCell ⟨w1.heap.size, 2, none⟩ (.string ⟨key.toArray⟩)).setCell ⟨w1.heap.size, 3, none⟩ (.string ⟨item.toArray⟩)).heap.size := by rw [World.size_setCell, World.size_setCell]; exact HSX.out
 obtain ⟨w5, hw5⟩ : ∃ w5, (wc.setCell ⟨w1.heap.size, 2, none⟩ (.string ⟨key.toArray⟩)).setCell ⟨w1.heap.size, 3, none⟩ (.string ⟨item.toArray⟩) = w5 := ⟨_, rfl⟩
 rw [hw5] at K5' R5' A5' B5' S5'
 have K5 := Lib.hid K5'
 have R5 := Lib.hid R5'
 have A5 : Hid (Bk w5 w1.heap.size [.int .i64 id, .int .i64 (kn : Int), .string ⟨key.toArray⟩, .string ⟨item.toArray⟩, .int .i64 0, .int .u64 0, .slice none 0 0, .slice none 0 0, .slice none 0 0]) := Lib.hid A5'
 have HB5 := Lib.hid B5'
 have HS5 := Lib.hid S5'
 clear K5' R5' A5' B5' S5'
 have k2 := (K5.out 2 _ rfl).1
 have hfd := fun w hd => H.find_any hs tokenH (.slice A hs.length ac) w hd (by decide) (fun x hx => Nat.le_trans (HZ.out.2.2 x hx) (by decide))
 have HTK := Lib.hid (show ∀ s, H.findL hs tokenH = some s → ∀ w, Calls Tryz.prog 84 #[.string ⟨s.toArray⟩] w (TokR (tokenR s) w) from HK.out)
 obtain ⟨r, hr⟩ : ∃ r, H.findL hs tokenH = r := ⟨_, rfl⟩
 have HTK2 := HTK.out
 have HRL5 : Hid (routeL m p (H.findL hs tokenH) b id = match seenL r with
  | .error _ => .error 400
  | .ok c => bodyL ⟨id, kn, key, item, 0, 0, c⟩ b) := Lib.hid (by rw [HRL3.out, hr])
 rw [hr] at hfd HTK2
 unfold tokenH H.findV at hfd
 have HTK3 := Lib.hid HTK2
 clear HTK2 HTK hr HRL HRL2 HRL3 HK
 go_upto_region 15 with fail
 clear hw5 a2 fa2 a3 fa3
 go_wp2_with fail
 go_at_call 83
 refine (hfd _ (HD.out.below HB5.out (Nat.le_refl _))).mono ?_
 rintro e w6 ⟨rfl, hb6⟩
 have HB6 := Lib.hid (HB5.out.trans (hb6.mono HB5.out.size))
 have K6 := Lib.hid (K5.out.below hb6 (Nat.lt_trans (Nat.lt_trans HL0.out HL1.out) HS5.out))
 have R6 := Lib.hid (R5.out.below hb6 (Nat.lt_trans HL1.out HS5.out))
 have A6 := Lib.hid (A5.out.below hb6 HS5.out)
 have HS6 := Lib.hid (Nat.lt_of_lt_of_le HS5.out hb6.size)
 clear hb6 hfd k2
 go_upto_if 88 with fail
 go_cut [12, 13] from 89 to 99 (fun s12 s13 wx => ∃ (c : Ct) (Bc : Nat) (e mv cv : Value), Hid (seenL r = .ok c) ∧ Hid (w1.heap.size < Bc) ∧ Hid (OwnS 92 6 entC wx Bc e c.es) ∧ Hid (OwnS 150 3 dotC wx Bc mv c.x.ms) ∧ Hid (OwnS 90 3 dotC wx Bc cv c.x.cl) ∧ Hid (Bk wx w.heap.size [.string ⟨m.toArray⟩, .string ⟨p.toArray⟩, .slice A hs.length ac, .string ⟨b.toArray⟩]) ∧ Hid (Bk wx w0.heap.size [.int .i64 0, .int .i64 0, .string ⟨#[]⟩, .string ⟨#[]⟩, .int .i64 0, .int .u64 0, .slice none 0 0, .slice none 0 0, .slice none 0 0]) ∧ Hid (Bk wx w1.heap.size [.int .i64 id, .int .i64 (kn : Int), .string ⟨key.toArray⟩, .string ⟨item.toArray⟩, .int .i64 0, .int .u64 0, e, mv, cv]) ∧ Hid (Below w.heap.size w wx) ∧ Hid (w1.heap.size < wx.heap.size))
 case first =>
  cases r with
  | none =>
   go_wp2_with fail
   go_meet
   case rel => exact ⟨noC, w6.heap.size, .slice none 0 0, .slice none 0 0, .slice none 0 0, Lib.hid rfl, HS6, Lib.hid (OwnS.nil _ _), Lib.hid (OwnS.nil _ _), Lib.hid (OwnS.nil _ _), K6, R6, A6, HB6, HS6⟩
  | some s =>
   go_wp2_with fail
   go_at_call 84
   refine (HTK3.out s rfl w6).mono ?_
   rintro e w7 ⟨hb7, (⟨c, v, hc, rfl, e', mv, cv, rfl, o1, o2, o3⟩ | ⟨⟨x, hx⟩, rfl⟩)⟩
   ·have HB7 := Lib.hid (HB6.out.trans (hb7.mono HB6.out.size))
    have K7 := Lib.hid (K6.out.below hb7 (Nat.lt_trans (Nat.lt_trans HL0.out HL1.out) HS6.out))
    have R7 := Lib.hid (R6.out.below hb7 (Nat.lt_trans HL1.out HS6.out))
    have A7 := Lib.hid (A6.out.below hb7 HS6.out)
    have HS7 := Lib.hid (Nat.lt_of_lt_of_le HS6.out hb7.size)
    have O1 := Lib.hid o1
    have O2 := Lib.hid o2
    have O3 := Lib.hid o3
    have HSEEN : Hid (seenL (some s) = .ok c) := Lib.hid hc
    clear hb7 o1 o2 o3 hc
    obtain ⟨w8, hw8⟩ : ∃ w8, w7.alloc (.cells #[e', mv, cv] 32) = w8 := ⟨_, rfl⟩
    have hb8 : Below w7.heap.size w7 w8 := by rw [← hw8]; exact (Below.refl _ _).alloc (Nat.le_refl _) _
    have HB8 := Lib.hid (HB7.out.trans (hb8.mono HB7.out.size))
    have K8 := Lib.hid (K7.out.below hb8 (Nat.lt_trans (Nat.lt_trans HL0.out HL1.out) HS7.out))
    have R8 := Lib.hid (R7.out.below hb8 (Nat.lt_trans HL1.out HS7.out))
    have A8 := Lib.hid (A7.out.below hb8 HS7.out)
    have HS8 := Lib.hid (Nat.lt_of_lt_of_le HS7.out hb8.size)
    have P1 := Lib.hid (O1.out.below hb8 (Nat.le_refl _))
    have P2 := Lib.hid (O2.out.below hb8 (Nat.le_refl _))
    have P3 := Lib.hid (O3.out.below hb8 (Nat.le_refl _))
    obtain ⟨x0, x1, x2⟩ : w8.cell? ⟨w7.heap.size, 0, none⟩ = some e' ∧ w8.cell? ⟨w7.heap.size, 1, none⟩ = some mv ∧ w8.cell? ⟨w7.heap.size, 2, none⟩ = some cv := by rw [← hw8]; exact tri_at w7 _ _ _ 32 _ rfl
    obtain ⟨Ae, ne, ce, rfl⟩ : ∃ A n c, e' = .slice A n c := by obtain ⟨A, c, h⟩ := P1.out.form; exact ⟨A, _, c, h⟩
    obtain ⟨Am, nm, cm, rfl⟩ : ∃ A n c, mv = .slice A n c := by obtain ⟨A, c, h⟩ := P2.out.form; exact ⟨A, _, c, h⟩
    obtain ⟨Ac, nc, cc, rfl⟩ : ∃ A n c, cv = .slice A n c := by obtain ⟨A, c, h⟩ := P3.out.form; exact ⟨A, _, c, h⟩
    have a6 := (A8.out 6 _ rfl).1
    have a7 := (A8.out 7 _ rfl).1
    have a8 := (A8.out 8 _ rfl).1
    have f6 := (A8.out 6 _ rfl).2
    have f7 := (A8.out 7 _ rfl).2
    have f8 := (A8.out 8 _ rfl).2
    clear hb8
    have LW : w.heap.size < w1.heap.size := Nat.lt_trans HL0.out HL1.out
    have M1 := Lib.hid (Bk.sets_other (C := w1.heap.size) (Nat.ne_of_gt LW) [.slice Ae ne ce, .slice Am nm cm, .slice Ac nc cc] 6 K8.out)
    have M2 := Lib.hid (Bk.sets_other (C := w1.heap.size) (fun h => HNE.out h.symm) [.slice Ae ne ce, .slice Am nm cm, .slice Ac nc cc] 6 R8.out)
    have M3 := Lib.hid (Bk.sets [.slice Ae ne ce, .slice Am nm cm, .slice Ac nc cc] 6 A8.out)
    have M4 := Lib.hid (below_sets (C := w1.heap.size) (Nat.le_of_lt LW) [.slice Ae ne ce, .slice Am nm cm, .slice Ac nc cc] 6 HB8.out)
    have M5 := Lib.hid (own_sets (C := w1.heap.size) HS6.out [.slice Ae ne ce, .slice Am nm cm, .slice Ac nc cc] 6 P1.out)
    have M6 := Lib.hid (own_sets (C := w1.heap.size) HS6.out [.slice Ae ne ce, .slice Am nm cm, .slice Ac nc cc] 6 P2.out)
    have M7 := Lib.hid (own_sets (C := w1.heap.size) HS6.out [.slice Ae ne ce, .slice Am nm cm, .slice Ac nc cc] 6 P3.out)
    clear LW
    go_wp2_with fail
    go_meet
    case rel => exact ⟨c, w6.heap.size, _, _, _, HSEEN, HS6, M5, M6, M7, M1, M2, M3, M4, Lib.hid (by simp only [World.size_setCell]; exact HS8.out)⟩
   ·have HB7 := Lib.hid (HB6.out.trans (hb7.mono HB6.out.size))
    have R7 := Lib.hid (R6.out.below hb7 (Nat.lt_trans HL1.out HS6.out))
    have A7 := Lib.hid (A6.out.below hb7 HS6.out)
    have HS7 := Lib.hid (Nat.lt_of_lt_of_le HS6.out hb7.size)
    have HV : Hid (routeL m p (H.findL hs tokenH) b id = .error 400) := Lib.hid (by rw [HRL5.out, show seenL (some s) = tokenR s from rfl, hx])
    clear hb7 hx
    obtain ⟨w8, hw8⟩ : ∃ w8, w7.alloc (.cells #[.slice none 0 0, .slice none 0 0, .slice none 0 0] 32) = w8 := ⟨_, rfl⟩
    have hb8 : Below w7.heap.size w7 w8 := by rw [← hw8]; exact (Below.refl _ _).alloc (Nat.le_refl _) _
    have HB8 := Lib.hid (HB7.out.trans (hb8.mono HB7.out.size))
    have R8 := Lib.hid (R7.out.below hb8 (Nat.lt_trans HL1.out HS7.out))
    have A8 := Lib.hid (A7.out.below hb8 HS7.out)
    have HW8 := Lib.hid hw8
    clear hb8 hw8
    go_upto_region 19 with fail
    rw [HW8.out]
    have s0 := (A8.out 0 _ rfl).1
    have g0 := (R8.out 0 _ rfl).1
    have f0 := (R8.out 0 _ rfl).2
    have s1 := (A8.out 1 _ rfl).1
    have g1 := (R8.out 1 _ rfl).1
    have f1 := (R8.out 1 _ rfl).2
    have s2 := (A8.out 2 _ rfl).1
    have g2 := (R8.out 2 _ rfl).1
    have f2 := (R8.out 2 _ rfl).2
    have s3 := (A8.out 3 _ rfl).1
    have g3 := (R8.out 3 _ rfl).1
    have f3 := (R8.out 3 _ rfl).2
    have s4 := (A8.out 4 _ rfl).1
    have g4 := (R8.out 4 _ rfl).1
    have f4 := (R8.out 4 _ rfl).2
    have s5 := (A8.out 5 _ rfl).1
    have g5 := (R8.out 5 _ rfl).1
    have f5 := (R8.out 5 _ rfl).2
    have s6 := (A8.out 6 _ rfl).1
    have g6 := (R8.out 6 _ rfl).1
    have f6 := (R8.out 6 _ rfl).2
    have s7 := (A8.out 7 _ rfl).1
    have g7 := (R8.out 7 _ rfl).1
    have f7 := (R8.out 7 _ rfl).2
    have s8 := (A8.out 8 _ rfl).1
    have g8 := (R8.out 8 _ rfl).1
    have f8 := (R8.out 8 _ rfl).2
    have HQ6 := Lib.hid (Bk.sets_other HNE.out [.int .i64 id, .int .i64 (kn : Int), .string ⟨key.toArray⟩, .string ⟨item.toArray⟩, .int .i64 0, .int .u64 0, .slice none 0 0, .slice none 0 0, .slice none 0 0] 0 A8.out)
    have HR4 := Lib.hid (Bk.sets [.int .i64 id, .int .i64 (kn : Int), .string ⟨key.toArray⟩, .string ⟨item.toArray⟩, .int .i64 0, .int .u64 0, .slice none 0 0, .slice none 0 0, .slice none 0 0] 0 R8.out)
    have HB9 := Lib.hid (below_sets HLE.out [.int .i64 id, .int .i64 (kn : Int), .string ⟨key.toArray⟩, .string ⟨item.toArray⟩, .int .i64 0, .int .u64 0, .slice none 0 0, .slice none 0 0, .slice none 0 0] 0 HB8.out)
    obtain ⟨w9, hw9⟩ : ∃ w9, sets w8 w0.heap.size 0 [.int .i64 id, .int .i64 (kn : Int), .string ⟨key.toArray⟩, .string ⟨item.toArray⟩, .int .i64 0, .int .u64 0, .slice none 0 0, .slice none 0 0, .slice none 0 0] = w9 := ⟨_, rfl⟩
    rw [hw9] at HQ6 HR4 HB9
    go_upto_region 19 with fail
    refine hstart (S := fun u => u.cell? ⟨w1.heap.size, 0, none⟩ = some (.int .i64 id) ∧ u.cell? ⟨w1.heap.size, 1, none⟩ = some (.int .i64 (kn : Int)) ∧ u.cell? ⟨w1.heap.size, 2, none⟩ = some (.string ⟨key.toArray⟩) ∧ u.cell? ⟨w1.heap.size, 3, none⟩ = some (.string ⟨item.toArray⟩) ∧ u.cell? ⟨w1.heap.size, 4, none⟩ = some (.int .i64 0) ∧ u.cell? ⟨w1.heap.size, 5, none⟩ = some (.int .u64 0) ∧ u.cell? ⟨w1.heap.size, 6, none⟩ = some (.slice none 0 0) ∧ u.cell? ⟨w1.heap.size, 7, none⟩ = some (.slice none 0 0) ∧ u.cell? ⟨w1.heap.size, 8, none⟩ = some (.slice none 0 0)) (by kernel_rfl) (by repeat (first | exact PG.body | refine PG.then_ ?_ | refine PG.inBlock ?_)) ?_ (fun hPF hHeld => ?_)
    ·exact ⟨s0, s1, s2, s3, s4, s5, s6, s7, s8⟩
    refine htake (i := 0) (v := .agg #[.int .i64 id, .int .i64 (kn : Int), .string ⟨key.toArray⟩, .string ⟨item.toArray⟩, .int .i64 0, .int .u64 0, .slice none 0 0, .slice none 0 0, .slice none 0 0]) rfl (by kernel_rfl) (by kernel_rfl) (by kernel_rfl) hPF (Or.inl ⟨by kernel_rfl, ?_⟩) hHeld ?_
    ·intro u hS; obtain ⟨p0, p1, p2, p3, p4, p5, p6, p7, p8⟩ := hS; go_simp
    refine wpAnyH_ready (rs := [1]) (by kernel_rfl) (by simp) ?_
    refine AllReadyH.cons (i := 1) rfl (fun K hK => ?_) AllReadyH.nil
    go_simp
    go_at_call 82
    refine (refuse_any 400 _).mono ?_
    rintro e w_8 ⟨rfl, rfl⟩
    refine hK.out _ _ ?_ (fun hHeld => ?_)
    ·exact ⟨s0, s1, s2, s3, s4, s5, s6, s7, s8⟩
    clear hK K
    refine wpAnyH_ready (rs := [2]) (by kernel_rfl) (by simp) ?_
    refine AllReadyH.cons (i := 2) rfl (fun K hK => ?_) AllReadyH.nil
    go_simp
    have hw9' : (((((((((w8.setCell ⟨w0.heap.size, 0, none⟩ (.int .i64 id)).setCell ⟨w0.heap.size, 1, none⟩ (.int .i64 (kn : Int))).setCell ⟨w0.heap.size, 2, none⟩ (.string ⟨key.toArray⟩)).setCell ⟨w0.heap.size, 3, none⟩ (.string ⟨item.toArray⟩)).setCell ⟨w0.heap.size, 4, none⟩ (.int .i64 0)).setCell ⟨w0.heap.size, 5, none⟩ (.int .u64 0)).setCell ⟨w0.heap.size, 6, none⟩ (.slice none 0 0)).setCell ⟨w0.heap.size, 7, none⟩ (.slice none 0 0)).setCell ⟨w0.heap.size, 8, none⟩ (.slice none 0 0)) = w9 := hw9
    rw [hw9']
    have q0 := (HQ6.out 0 _ rfl).1
    have c0 := (HR4.out 0 _ rfl).1
    have q1 := (HQ6.out 1 _ rfl).1
    have c1 := (HR4.out 1 _ rfl).1
    have q2 := (HQ6.out 2 _ rfl).1
    have c2 := (HR4.out 2 _ rfl).1
    have q3 := (HQ6.out 3 _ rfl).1
    have c3 := (HR4.out 3 _ rfl).1
    have q4 := (HQ6.out 4 _ rfl).1
    have c4 := (HR4.out 4 _ rfl).1
    have q5 := (HQ6.out 5 _ rfl).1
    have c5 := (HR4.out 5 _ rfl).1
    have q6 := (HQ6.out 6 _ rfl).1
    have c6 := (HR4.out 6 _ rfl).1
    have q7 := (HQ6.out 7 _ rfl).1
    have c7 := (HR4.out 7 _ rfl).1
    have q8 := (HQ6.out 8 _ rfl).1
    have c8 := (HR4.out 8 _ rfl).1
    clear hw9 hw9'
    refine hK.out _ _ ?_ (fun hHeld => ?_)
    ·exact ⟨q0, q1, q2, q3, q4, q5, q6, q7, q8⟩
    clear hK K
    refine wpAnyH_ready (rs := [3]) (by kernel_rfl) (by simp) ?_
    refine AllReadyH.cons (i := 3) rfl (fun K hK => ?_) AllReadyH.nil
    go_simp
    refine hK.out _ _ ?_ (fun hHeld => ?_)
    ·exact ⟨q0, q1, q2, q3, q4, q5, q6, q7, q8⟩
    clear hK K
    refine wpAnyH_done (by kernel_rfl) ?_ _
    go_wp2_with fail
    refine bodyPost_ret (v := .tuple #[.agg #[.int .i64 id, .int .i64 (kn : Int), .string ⟨key.toArray⟩, .string ⟨item.toArray⟩, .int .i64 0, .int .u64 0, .slice none 0 0, .slice none 0 0, .slice none 0 0], .iface 85 (.agg #[.int .i64 400, .int .i64 240])]) (by simp [results, Tryz.results37, go_sem, c0, c1, c2, c3, c4, c5, c6, c7, c8]; try rfl) rfl ?_
    exact ⟨HB9.out.drew, .inr ⟨400, _, _, _, _, _, _, _, _, _, _, _, _, _, _, _, HV.out, rfl⟩⟩
 case rest =>
 obtain ⟨c, Bc, e', mv, cv, HSEEN, HBc, O1, O2, O3, KY, RY, AY, HBY, HSY⟩ := hcut
 have HRL6 : Hid (routeL m p (H.findL hs tokenH) b id = bodyL ⟨id, kn, key, item, 0, 0, c⟩ b) := Lib.hid (by rw [HRL5.out, HSEEN.out])
 obtain ⟨Ae, ne, ce, rfl⟩ : ∃ A n c, e' = .slice A n c := by obtain ⟨A, c, h⟩ := O1.out.form; exact ⟨A, _, c, h⟩
 obtain ⟨Am, nm, cm, rfl⟩ : ∃ A n c, mv = .slice A n c := by obtain ⟨A, c, h⟩ := O2.out.form; exact ⟨A, _, c, h⟩
 obtain ⟨Ac, nc, cc, rfl⟩ : ∃ A n c, cv = .slice A n c := by obtain ⟨A, c, h⟩ := O3.out.form; exact ⟨A, _, c, h⟩
 have a1 := (AY.out 1 _ rfl).1
 have k3 := (KY.out 3 _ rfl).1
 by_cases hK2 : kn = 2
 case neg =>
  have n2 : ((kn : Int) != 2) = true := bne_iff_ne.2 (by omega)
  have HK2 := Lib.hid hK2
  clear hK2
  rcases b with _ | ⟨b0, b⟩
  ·have HV : Hid (routeL m p (H.findL hs tokenH) [] id = .ok ⟨id, kn, key, item, 0, 0, c⟩) := Lib.hid (by rw [HRL6.out]; unfold bodyL; dsimp only; rw [if_pos HK2.out, if_neg (fun h => h rfl)])
   have s0 := (AY.out 0 _ rfl).1
   have g0 := (RY.out 0 _ rfl).1
   have f0 := (RY.out 0 _ rfl).2
   have s1 := (AY.out 1 _ rfl).1
   have g1 := (RY.out 1 _ rfl).1
   have f1 := (RY.out 1 _ rfl).2
   have s2 := (AY.out 2 _ rfl).1
   have g2 := (RY.out 2 _ rfl).1
   have f2 := (RY.out 2 _ rfl).2
   have s3 := (AY.out 3 _ rfl).1
   have g3 := (RY.out 3 _ rfl).1
   have f3 := (RY.out 3 _ rfl).2
   have s4 := (AY.out 4 _ rfl).1
   have g4 := (RY.out 4 _ rfl).1
   have f4 := (RY.out 4 _ rfl).2
   have s5 := (AY.out 5 _ rfl).1
   have g5 := (RY.out 5 _ rfl).1
   have f5 := (RY.out 5 _ rfl).2
   have s6 := (AY.out 6 _ rfl).1
   have g6 := (RY.out 6 _ rfl).1
   have f6 := (RY.out 6 _ rfl).2
   have s7 := (AY.out 7 _ rfl).1
   have g7 := (RY.out 7 _ rfl).1
   have f7 := (RY.out 7 _ rfl).2
   have s8 := (AY.out 8 _ rfl).1
   have g8 := (RY.out 8 _ rfl).1
   have f8 := (RY.out 8 _ rfl).2
   have HR4 := Lib.hid (Bk.sets [.int .i64 id, .int .i64 (kn : Int), .string ⟨key.toArray⟩, .string ⟨item.toArray⟩, .int .i64 0, .int .u64 0, .slice Ae ne ce, .slice Am nm cm, .slice Ac nc cc] 0 RY.out)
   have HB9 := Lib.hid (below_sets HLE.out [.int .i64 id, .int .i64 (kn : Int), .string ⟨key.toArray⟩, .string ⟨item.toArray⟩, .int .i64 0, .int .u64 0, .slice Ae ne ce, .slice Am nm cm, .slice Ac nc cc] 0 HBY.out)
   have Q1 := Lib.hid (own_sets (C := w0.heap.size) (Nat.lt_trans HL1.out HBc.out) [.int .i64 id, .int .i64 (kn : Int), .string ⟨key.toArray⟩, .string ⟨item.toArray⟩, .int .i64 0, .int .u64 0, .slice Ae ne ce, .slice Am nm cm, .slice Ac nc cc] 0 O1.out)
   have Q2 := Lib.hid (own_sets (C := w0.heap.size) (Nat.lt_trans HL1.out HBc.out) [.int .i64 id, .int .i64 (kn : Int), .string ⟨key.toArray⟩, .string ⟨item.toArray⟩, .int .i64 0, .int .u64 0, .slice Ae ne ce, .slice Am nm cm, .slice Ac nc cc] 0 O2.out)
   have Q3 := Lib.hid (own_sets (C := w0.heap.size) (Nat.lt_trans HL1.out HBc.out) [.int .i64 id, .int .i64 (kn : Int), .string ⟨key.toArray⟩, .string ⟨item.toArray⟩, .int .i64 0, .int .u64 0, .slice Ae ne ce, .slice Am nm cm, .slice Ac nc cc] 0 O3.out)
   have c0 : ((((((((((wc.setCell ⟨w0.heap.size, 0, none⟩ (.int .i64 id)).setCell ⟨w0.heap.size, 1, none⟩ (.int .i64 (kn : Int))).setCell ⟨w0.heap.size, 2, none⟩ (.string ⟨key.toArray⟩)).setCell ⟨w0.heap.size, 3, none⟩ (.string ⟨item.toArray⟩)).setCell ⟨w0.heap.size, 4, none⟩ (.int .i64 0)).setCell ⟨w0.heap.size, 5, none⟩ (.int .u64 0)).setCell ⟨w0.heap.size, 6, none⟩ (.slice Ae ne ce)).setCell ⟨w0.heap.size, 7, none⟩ (.slice Am nm cm)).setCell ⟨w0.heap.size, 8, none⟩ (.slice Ac nc cc))).cell? ⟨w0.heap.size, 0, none⟩ = some (.int .i64 id) := (HR4.out 0 _ rfl).1
   have c1 : ((((((((((wc.setCell ⟨w0.heap.size, 0, none⟩ (.int .i64 id)).setCell ⟨w0.heap.size, 1, none⟩ (.int .i64 (kn : Int))).setCell ⟨w0.heap.size, 2, none⟩ (.string ⟨key.toArray⟩)).setCell ⟨w0.heap.size, 3, none⟩ (.string ⟨item.toArray⟩)).setCell ⟨w0.heap.size, 4, none⟩ (.int .i64 0)).setCell ⟨w0.heap.size, 5, none⟩ (.int .u64 0)).setCell ⟨w0.heap.size, 6, none⟩ (.slice Ae ne ce)).setCell ⟨w0.heap.size, 7, none⟩ (.slice Am nm cm)).setCell ⟨w0.heap.size, 8, none⟩ (.slice Ac nc cc))).cell? ⟨w0.heap.size, 1, none⟩ = some (.int .i64 (kn : Int)) := (HR4.out 1 _ rfl).1
   have c2 : ((((((((((wc.setCell ⟨w0.heap.size, 0, none⟩ (.int .i64 id)).setCell ⟨w0.heap.size, 1, none⟩ (.int .i64 (kn : Int))).setCell ⟨w0.heap.size, 2, none⟩ (.string ⟨key.toArray⟩)).setCell ⟨w0.heap.size, 3, none⟩ (.string ⟨item.toArray⟩)).setCell ⟨w0.heap.size, 4, none⟩ (.int .i64 0)).setCell ⟨w0.heap.size, 5, none⟩ (.int .u64 0)).setCell ⟨w0.heap.size, 6, none⟩ (.slice Ae ne ce)).setCell ⟨w0.heap.size, 7, none⟩ (.slice Am nm cm)).setCell ⟨w0.heap.size, 8, none⟩ (.slice Ac nc cc))).cell? ⟨w0.heap.size, 2, none⟩ = some (.string ⟨key.toArray⟩) := (HR4.out 2 _ rfl).1
   have c3 : ((((((((((wc.setCell ⟨w0.heap.size, 0, none⟩ (.int .i64 id)).setCell ⟨w0.heap.size, 1, none⟩ (.int .i64 (kn : Int))).setCell ⟨w0.heap.size, 2, none⟩ (.string ⟨key.toArray⟩)).setCell ⟨w0.heap.size, 3, none⟩ (.string ⟨item.toArray⟩)).setCell ⟨w0.heap.size, 4, none⟩ (.int .i64 0)).setCell ⟨w0.heap.size, 5, none⟩ (.int .u64 0)).setCell ⟨w0.heap.size, 6, none⟩ (.slice Ae ne ce)).setCell ⟨w0.heap.size, 7, none⟩ (.slice Am nm cm)).setCell ⟨w0.heap.size, 8, none⟩ (.slice Ac nc cc))).cell? ⟨w0.heap.size, 3, none⟩ = some (.string ⟨item.toArray⟩) := (HR4.out 3 _ rfl).1
   have c4 : ((((((((((wc.setCell ⟨w0.heap.size, 0, none⟩ (.int .i64 id)).setCell ⟨w0.heap.size, 1, none⟩ (.int .i64 (kn : Int))).setCell ⟨w0.heap.size, 2, none⟩ (.string ⟨key.toArray⟩)).setCell ⟨w0.heap.size, 3, none⟩ (.string ⟨item.toArray⟩)).setCell ⟨w0.heap.size, 4, none⟩ (.int .i64 0)).setCell ⟨w0.heap.size, 5, none⟩ (.int .u64 0)).setCell ⟨w0.heap.size, 6, none⟩ (.slice Ae ne ce)).setCell ⟨w0.heap.size, 7, none⟩ (.slice Am nm cm)).setCell ⟨w0.heap.size, 8, none⟩ (.slice Ac nc cc))).cell? ⟨w0.heap.size, 4, none⟩ = some (.int .i64 0) := (HR4.out 4 _ rfl).1
   have c5 : ((((((((((wc.setCell ⟨w0.heap.size, 0, none⟩ (.int .i64 id)).setCell ⟨w0.heap.size, 1, none⟩ (.int .i64 (kn : Int))).setCell ⟨w0.heap.size, 2, none⟩ (.string ⟨key.toArray⟩)).setCell ⟨w0.heap.size, 3, none⟩ (.string ⟨item.toArray⟩)).setCell ⟨w0.heap.size, 4, none⟩ (.int .i64 0)).setCell ⟨w0.heap.size, 5, none⟩ (.int .u64 0)).setCell ⟨w0.heap.size, 6, none⟩ (.slice Ae ne ce)).setCell ⟨w0.heap.size, 7, none⟩ (.slice Am nm cm)).setCell ⟨w0.heap.size, 8, none⟩ (.slice Ac nc cc))).cell? ⟨w0.heap.size, 5, none⟩ = some (.int .u64 0) := (HR4.out 5 _ rfl).1
   have c6 : ((((((((((wc.setCell ⟨w0.heap.size, 0, none⟩ (.int .i64 id)).setCell ⟨w0.heap.size, 1, none⟩ (.int .i64 (kn : Int))).setCell ⟨w0.heap.size, 2, none⟩ (.string ⟨key.toArray⟩)).setCell ⟨w0.heap.size, 3, none⟩ (.string ⟨item.toArray⟩)).setCell ⟨w0.heap.size, 4, none⟩ (.int .i64 0)).setCell ⟨w0.heap.size, 5, none⟩ (.int .u64 0)).setCell ⟨w0.heap.size, 6, none⟩ (.slice Ae ne ce)).setCell ⟨w0.heap.size, 7, none⟩ (.slice Am nm cm)).setCell ⟨w0.heap.size, 8, none⟩ (.slice Ac nc cc))).cell? ⟨w0.heap.size, 6, none⟩ = some (.slice Ae ne ce) := (HR4.out 6 _ rfl).1
   have c7 : ((((((((((wc.setCell ⟨w0.heap.size, 0, none⟩ (.int .i64 id)).setCell ⟨w0.heap.size, 1, none⟩ (.int .i64 (kn : Int))).setCell ⟨w0.heap.size, 2, none⟩ (.string ⟨key.toArray⟩)).setCell ⟨w0.heap.size, 3, none⟩ (.string ⟨item.toArray⟩)).setCell ⟨w0.heap.size, 4, none⟩ (.int .i64 0)).setCell ⟨w0.heap.size, 5, none⟩ (.int .u64 0)).setCell ⟨w0.heap.size, 6, none⟩ (.slice Ae ne ce)).setCell ⟨w0.heap.size, 7, none⟩ (.slice Am nm cm)).setCell ⟨w0.heap.size, 8, none⟩ (.slice Ac nc cc))).cell? ⟨w0.heap.size, 7, none⟩ = some (.slice Am nm cm) := (HR4.out 7 _ rfl).1
   have c8 : ((((((((((wc.setCell ⟨w0.heap.size, 0, none⟩ (.int .i64 id)).setCell ⟨w0.heap.size, 1, none⟩ (.int .i64 (kn : Int))).setCell ⟨w0.heap.size, 2, none⟩ (.string ⟨key.toArray⟩)).setCell ⟨w0.heap.size, 3, none⟩ (.string ⟨item.toArray⟩)).setCell ⟨w0.heap.size, 4, none⟩ (.int .i64 0)).setCell ⟨w0.heap.size, 5, none⟩ (.int .u64 0)).setCell ⟨w0.heap.size, 6, none⟩ (.slice Ae ne ce)).setCell ⟨w0.heap.size, 7, none⟩ (.slice Am nm cm)).setCell ⟨w0.heap.size, 8, none⟩ (.slice Ac nc cc))).cell? ⟨w0.heap.size, 8, none⟩ = some (.slice Ac nc cc) := (HR4.out 8 _ rfl).1
   go_wp2_with fail
   refine bodyPost_ret (v := .tuple #[.agg #[.int .i64 id, .int .i64 (kn : Int), .string ⟨key.toArray⟩, .string ⟨item.toArray⟩, .int .i64 0, .int .u64 0, .slice Ae ne ce, .slice Am nm cm, .slice Ac nc cc], .nilIface]) (by simp [results, Tryz.results37, go_sem, c0, c1, c2, c3, c4, c5, c6, c7, c8]; try rfl) rfl ?_
   exact ⟨HB9.out, .inl ⟨⟨id, kn, key, item, 0, 0, c⟩, _, HV.out, rfl, _, _, _, rfl, Q1.out.base (Nat.le_of_lt (Nat.lt_trans HL0.out (Nat.lt_trans HL1.out HBc.out))), Q2.out.base (Nat.le_of_lt (Nat.lt_trans HL0.out (Nat.lt_trans HL1.out HBc.out))), Q3.out.base (Nat.le_of_lt (Nat.lt_trans HL0.out (Nat.lt_trans HL1.out HBc.out)))⟩⟩
  ·have HV : Hid (routeL m p (H.findL hs tokenH) (b0 :: b) id = .error 400) := Lib.hid (by rw [HRL6.out]; unfold bodyL; dsimp only; rw [if_pos HK2.out, if_pos (by simp)])
   go_upto_region 23 with fail
   have s0 := (AY.out 0 _ rfl).1
   have g0 := (RY.out 0 _ rfl).1
   have f0 := (RY.out 0 _ rfl).2
   have s1 := (AY.out 1 _ rfl).1
   have g1 := (RY.out 1 _ rfl).1
   have f1 := (RY.out 1 _ rfl).2
   have s2 := (AY.out 2 _ rfl).1
   have g2 := (RY.out 2 _ rfl).1
   have f2 := (RY.out 2 _ rfl).2
   have s3 := (AY.out 3 _ rfl).1
   have g3 := (RY.out 3 _ rfl).1
   have f3 := (RY.out 3 _ rfl).2
   have s4 := (AY.out 4 _ rfl).1
   have g4 := (RY.out 4 _ rfl).1
   have f4 := (RY.out 4 _ rfl).2
   have s5 := (AY.out 5 _ rfl).1
   have g5 := (RY.out 5 _ rfl).1
   have f5 := (RY.out 5 _ rfl).2
   have s6 := (AY.out 6 _ rfl).1
   have g6 := (RY.out 6 _ rfl).1
   have f6 := (RY.out 6 _ rfl).2
   have s7 := (AY.out 7 _ rfl).1
   have g7 := (RY.out 7 _ rfl).1
   have f7 := (RY.out 7 _ rfl).2
   have s8 := (AY.out 8 _ rfl).1
   have g8 := (RY.out 8 _ rfl).1
   have f8 := (RY.out 8 _ rfl).2
   have HQ6 := Lib.hid (Bk.sets_other HNE.out [.int .i64 id, .int .i64 (kn : Int), .string ⟨key.toArray⟩, .string ⟨item.toArray⟩, .int .i64 0, .int .u64 0, .slice Ae ne ce, .slice Am nm cm, .slice Ac nc cc] 0 AY.out)
   have HR4 := Lib.hid (Bk.sets [.int .i64 id, .int .i64 (kn : Int), .string ⟨key.toArray⟩, .string ⟨item.toArray⟩, .int .i64 0, .int .u64 0, .slice Ae ne ce, .slice Am nm cm, .slice Ac nc cc] 0 RY.out)
   have HB9 := Lib.hid (below_sets HLE.out [.int .i64 id, .int .i64 (kn : Int), .string ⟨key.toArray⟩, .string ⟨item.toArray⟩, .int .i64 0, .int .u64 0, .slice Ae ne ce, .slice Am nm cm, .slice Ac nc cc] 0 HBY.out)
   obtain ⟨w9, hw9⟩ : ∃ w9, sets wc w0.heap.size 0 [.int .i64 id, .int .i64 (kn : Int), .string ⟨key.toArray⟩, .string ⟨item.toArray⟩, .int .i64 0, .int .u64 0, .slice Ae ne ce, .slice Am nm cm, .slice Ac nc cc] = w9 := ⟨_, rfl⟩
   rw [hw9] at HQ6 HR4 HB9
   go_upto_region 23 with fail
   refine hstart (S := fun u => u.cell? ⟨w1.heap.size, 0, none⟩ = some (.int .i64 id) ∧ u.cell? ⟨w1.heap.size, 1, none⟩ = some (.int .i64 (kn : Int)) ∧ u.cell? ⟨w1.heap.size, 2, none⟩ = some (.string ⟨key.toArray⟩) ∧ u.cell? ⟨w1.heap.size, 3, none⟩ = some (.string ⟨item.toArray⟩) ∧ u.cell? ⟨w1.heap.size, 4, none⟩ = some (.int .i64 0) ∧ u.cell? ⟨w1.heap.size, 5, none⟩ = some (.int .u64 0) ∧ u.cell? ⟨w1.heap.size, 6, none⟩ = some (.slice Ae ne ce) ∧ u.cell? ⟨w1.heap.size, 7, none⟩ = some (.slice Am nm cm) ∧ u.cell? ⟨w1.heap.size, 8, none⟩ = some (.slice Ac nc cc)) (by kernel_rfl) (by repeat (first | exact PG.body | refine PG.then_ ?_ | refine PG.inBlock ?_)) ?_ (fun hPF hHeld => ?_)
   ·exact ⟨s0, s1, s2, s3, s4, s5, s6, s7, s8⟩
   refine htake (i := 0) (v := .agg #[.int .i64 id, .int .i64 (kn : Int), .string ⟨key.toArray⟩, .string ⟨item.toArray⟩, .int .i64 0, .int .u64 0, .slice Ae ne ce, .slice Am nm cm, .slice Ac nc cc]) rfl (by kernel_rfl) (by kernel_rfl) (by kernel_rfl) hPF (Or.inl ⟨by kernel_rfl, ?_⟩) hHeld ?_
   ·intro u hS; obtain ⟨p0, p1, p2, p3, p4, p5, p6, p7, p8⟩ := hS; go_simp
   refine wpAnyH_ready (rs := [1]) (by kernel_rfl) (by simp) ?_
   refine AllReadyH.cons (i := 1) rfl (fun K hK => ?_) AllReadyH.nil
   go_simp
   go_at_call 82
   refine (refuse_any 400 _).mono ?_
   rintro e w_8 ⟨rfl, rfl⟩
   refine hK.out _ _ ?_ (fun hHeld => ?_)
   ·exact ⟨s0, s1, s2, s3, s4, s5, s6, s7, s8⟩
   clear hK K
   refine wpAnyH_ready (rs := [2]) (by kernel_rfl) (by simp) ?_
   refine AllReadyH.cons (i := 2) rfl (fun K hK => ?_) AllReadyH.nil
   go_simp
   have hw9' : (((((((((wc.setCell ⟨w0.heap.size, 0, none⟩ (.int .i64 id)).setCell ⟨w0.heap.size, 1, none⟩ (.int .i64 (kn : Int))).setCell ⟨w0.heap.size, 2, none⟩ (.string ⟨key.toArray⟩)).setCell ⟨w0.heap.size, 3, none⟩ (.string ⟨item.toArray⟩)).setCell ⟨w0.heap.size, 4, none⟩ (.int .i64 0)).setCell ⟨w0.heap.size, 5, none⟩ (.int .u64 0)).setCell ⟨w0.heap.size, 6, none⟩ (.slice Ae ne ce)).setCell ⟨w0.heap.size, 7, none⟩ (.slice Am nm cm)).setCell ⟨w0.heap.size, 8, none⟩ (.slice Ac nc cc)) = w9 := hw9
   rw [hw9']
   have q0 := (HQ6.out 0 _ rfl).1
   have c0 := (HR4.out 0 _ rfl).1
   have q1 := (HQ6.out 1 _ rfl).1
   have c1 := (HR4.out 1 _ rfl).1
   have q2 := (HQ6.out 2 _ rfl).1
   have c2 := (HR4.out 2 _ rfl).1
   have q3 := (HQ6.out 3 _ rfl).1
   have c3 := (HR4.out 3 _ rfl).1
   have q4 := (HQ6.out 4 _ rfl).1
   have c4 := (HR4.out 4 _ rfl).1
   have q5 := (HQ6.out 5 _ rfl).1
   have c5 := (HR4.out 5 _ rfl).1
   have q6 := (HQ6.out 6 _ rfl).1
   have c6 := (HR4.out 6 _ rfl).1
   have q7 := (HQ6.out 7 _ rfl).1
   have c7 := (HR4.out 7 _ rfl).1
   have q8 := (HQ6.out 8 _ rfl).1
   have c8 := (HR4.out 8 _ rfl).1
   clear hw9 hw9'
   refine hK.out _ _ ?_ (fun hHeld => ?_)
   ·exact ⟨q0, q1, q2, q3, q4, q5, q6, q7, q8⟩
   clear hK K
   refine wpAnyH_ready (rs := [3]) (by kernel_rfl) (by simp) ?_
   refine AllReadyH.cons (i := 3) rfl (fun K hK => ?_) AllReadyH.nil
   go_simp
   refine hK.out _ _ ?_ (fun hHeld => ?_)
   ·exact ⟨q0, q1, q2, q3, q4, q5, q6, q7, q8⟩
   clear hK K
   refine wpAnyH_done (by kernel_rfl) ?_ _
   go_wp2_with fail
   refine bodyPost_ret (v := .tuple #[.agg #[.int .i64 id, .int .i64 (kn : Int), .string ⟨key.toArray⟩, .string ⟨item.toArray⟩, .int .i64 0, .int .u64 0, .slice Ae ne ce, .slice Am nm cm, .slice Ac nc cc], .iface 85 (.agg #[.int .i64 400, .int .i64 240])]) (by simp [results, Tryz.results37, go_sem, c0, c1, c2, c3, c4, c5, c6, c7, c8]; try rfl) rfl ?_
   exact ⟨HB9.out.drew, .inr ⟨400, _, _, _, _, _, _, _, _, _, _, _, _, _, _, _, HV.out, rfl⟩⟩
 case pos =>
 subst hK2
 have hcu := fun w he => H.cut_any b [32] (by have := HZ.out.2.1; omega) w he
 rw [cutL_cut1] at hcu
 have hbl : bodyL ⟨id, 2, key, item, 0, 0, c⟩ b = match (cut1 32 b).2.2, piecesL (cut1 32 b).1, priceT (cut1 32 b).2.1 with
  | true, some n, some p => .ok ⟨id, 2, key, item, n, p, c⟩
  | _, _, _ => .error 400 := rfl
 have hlens := cut1_lens 32 b
 obtain ⟨⟨n1, p1, okc⟩, hce⟩ : ∃ x, cut1 32 b = x := ⟨_, rfl⟩
 rw [hce] at hcu hbl hlens
 dsimp only at hcu hbl hlens
 have hpc := fun w he ht => pieces_any n1 (by have := HZ.out.2.1; omega) w he ht
 have hpr := (price_both p1 (by have := HZ.out.2.1; omega)).1
 rw [resL_eq] at hpr
 obtain ⟨o1, ho1⟩ : ∃ o, piecesL n1 = o := ⟨_, rfl⟩
 obtain ⟨o2, ho2⟩ : ∃ o, priceT p1 = o := ⟨_, rfl⟩
 rw [ho1] at hpc hbl
 rw [ho2] at hpr hbl
 have HBL := Lib.hid (HRL6.out.trans hbl)
 unfold PieR at hpc
 obtain ⟨P, hP⟩ : ∃ P, o2.getD 0 = P := ⟨_, rfl⟩
 rw [hP] at hpr
 have HP := Lib.hid hP
 clear hbl hlens hce ho1 ho2 hP
 go_wp2_with fail
 go_at_call 56
 refine (hcu _ (HE.out.below HBY.out)).mono ?_
 rintro e w6' ⟨rfl, hbz⟩
 have HBZ := Lib.hid (HBY.out.trans (hbz.mono HBY.out.size))
 have RZ := Lib.hid (RY.out.below hbz (Nat.lt_trans HL1.out HSY.out))
 have AZ := Lib.hid (AY.out.below hbz HSY.out)
 have HSZ := Lib.hid (Nat.lt_of_lt_of_le HSY.out hbz.size)
 have O1Z := Lib.hid (O1.out.below hbz (Nat.le_refl _))
 have O2Z := Lib.hid (O2.out.below hbz (Nat.le_refl _))
 have O3Z := Lib.hid (O3.out.below hbz (Nat.le_refl _))
 clear hbz
 go_wp2_with fail
 go_at_call 58
 refine (hpc _ (HR.out.below HBZ.out) (HT.out.below HBZ.out)).mono ?_
 rintro e w7' ⟨hbu, n, rfl, hn⟩
 have HBU := Lib.hid (HBZ.out.trans (hbu.mono HBZ.out.size))
 have RU := Lib.hid (RZ.out.below hbu (Nat.lt_trans HL1.out HSZ.out))
 have AU := Lib.hid (AZ.out.below hbu HSZ.out)
 have HSU := Lib.hid (Nat.lt_of_lt_of_le HSZ.out hbu.size)
 have O1U := Lib.hid (O1Z.out.below hbu (Nat.le_refl _))
 have O2U := Lib.hid (O2Z.out.below hbu (Nat.le_refl _))
 have O3U := Lib.hid (O3Z.out.below hbu (Nat.le_refl _))
 clear hbu
 have HN := Lib.hid hn
 clear hn hcu hpc a1 k3
 go_wp2_with fail
 go_at_call 59
 refine (hpr _).mono ?_
 rintro e w8' ⟨rfl, hbv⟩
 have HBV := Lib.hid (HBU.out.trans (hbv.mono HBU.out.size))
 have RV := Lib.hid (RU.out.below hbv (Nat.lt_trans HL1.out HSU.out))
 have AV := Lib.hid (AU.out.below hbv HSU.out)
 have HSV := Lib.hid (Nat.lt_of_lt_of_le HSU.out hbv.size)
 have O1V := Lib.hid (O1U.out.below hbv (Nat.le_refl _))
 have O2V := Lib.hid (O2U.out.below hbv (Nat.le_refl _))
 have O3V := Lib.hid (O3U.out.below hbv (Nat.le_refl _))
 clear hbv
 clear hpr
 cases okc
 case false =>
  have HV : Hid (routeL m p (H.findL hs tokenH) b id = .error 400) := HBL
  go_upto_region 29 with fail
  have s0 := (AV.out 0 _ rfl).1
  have g0 := (RV.out 0 _ rfl).1
  have f0 := (RV.out 0 _ rfl).2
  have s1 := (AV.out 1 _ rfl).1
  have g1 := (RV.out 1 _ rfl).1
  have f1 := (RV.out 1 _ rfl).2
  have s2 := (AV.out 2 _ rfl).1
  have g2 := (RV.out 2 _ rfl).1
  have f2 := (RV.out 2 _ rfl).2
  have s3 := (AV.out 3 _ rfl).1
  have g3 := (RV.out 3 _ rfl).1
  have f3 := (RV.out 3 _ rfl).2
  have s4 := (AV.out 4 _ rfl).1
  have g4 := (RV.out 4 _ rfl).1
  have f4 := (RV.out 4 _ rfl).2
  have s5 := (AV.out 5 _ rfl).1
  have g5 := (RV.out 5 _ rfl).1
  have f5 := (RV.out 5 _ rfl).2
  have s6 := (AV.out 6 _ rfl).1
  have g6 := (RV.out 6 _ rfl).1
  have f6 := (RV.out 6 _ rfl).2
  have s7 := (AV.out 7 _ rfl).1
  have g7 := (RV.out 7 _ rfl).1
  have f7 := (RV.out 7 _ rfl).2
  have s8 := (AV.out 8 _ rfl).1
  have g8 := (RV.out 8 _ rfl).1
  have f8 := (RV.out 8 _ rfl).2
  have HQ6 := Lib.hid (Bk.sets_other HNE.out [.int .i64 id, .int .i64 2, .string ⟨key.toArray⟩, .string ⟨item.toArray⟩, .int .i64 0, .int .u64 0, .slice Ae ne ce, .slice Am nm cm, .slice Ac nc cc] 0 AV.out)
  have HR4 := Lib.hid (Bk.sets [.int .i64 id, .int .i64 2, .string ⟨key.toArray⟩, .string ⟨item.toArray⟩, .int .i64 0, .int .u64 0, .slice Ae ne ce, .slice Am nm cm, .slice Ac nc cc] 0 RV.out)
  have HB9 := Lib.hid (below_sets HLE.out [.int .i64 id, .int .i64 2, .string ⟨key.toArray⟩, .string ⟨item.toArray⟩, .int .i64 0, .int .u64 0, .slice Ae ne ce, .slice Am nm cm, .slice Ac nc cc] 0 HBV.out)
  obtain ⟨w9, hw9⟩ : ∃ w9, sets w8' w0.heap.size 0 [.int .i64 id, .int .i64 2, .string ⟨key.toArray⟩, .string ⟨item.toArray⟩, .int .i64 0, .int .u64 0, .slice Ae ne ce, .slice Am nm cm, .slice Ac nc cc] = w9 := ⟨_, rfl⟩
  rw [hw9] at HQ6 HR4 HB9
  go_upto_region 29 with fail
  refine hstart (S := fun u => u.cell? ⟨w1.heap.size, 0, none⟩ = some (.int .i64 id) ∧ u.cell? ⟨w1.heap.size, 1, none⟩ = some (.int .i64 2) ∧ u.cell? ⟨w1.heap.size, 2, none⟩ = some (.string ⟨key.toArray⟩) ∧ u.cell? ⟨w1.heap.size, 3, none⟩ = some (.string ⟨item.toArray⟩) ∧ u.cell? ⟨w1.heap.size, 4, none⟩ = some (.int .i64 0) ∧ u.cell? ⟨w1.heap.size, 5, none⟩ = some (.int .u64 0) ∧ u.cell? ⟨w1.heap.size, 6, none⟩ = some (.slice Ae ne ce) ∧ u.cell? ⟨w1.heap.size, 7, none⟩ = some (.slice Am nm cm) ∧ u.cell? ⟨w1.heap.size, 8, none⟩ = some (.slice Ac nc cc)) (by kernel_rfl) (by repeat (first | exact PG.body | refine PG.then_ ?_ | refine PG.inBlock ?_)) ?_ (fun hPF hHeld => ?_)
  ·exact ⟨s0, s1, s2, s3, s4, s5, s6, s7, s8⟩
  refine htake (i := 0) (v := .agg #[.int .i64 id, .int .i64 2, .string ⟨key.toArray⟩, .string ⟨item.toArray⟩, .int .i64 0, .int .u64 0, .slice Ae ne ce, .slice Am nm cm, .slice Ac nc cc]) rfl (by kernel_rfl) (by kernel_rfl) (by kernel_rfl) hPF (Or.inl ⟨by kernel_rfl, ?_⟩) hHeld ?_
  ·intro u hS; obtain ⟨p0, p1, p2, p3, p4, p5, p6, p7, p8⟩ := hS; go_simp
  refine wpAnyH_ready (rs := [1]) (by kernel_rfl) (by simp) ?_
  refine AllReadyH.cons (i := 1) rfl (fun K hK => ?_) AllReadyH.nil
  go_simp
  go_at_call 82
  refine (refuse_any 400 _).mono ?_
  rintro e w_8 ⟨rfl, rfl⟩
  refine hK.out _ _ ?_ (fun hHeld => ?_)
  ·exact ⟨s0, s1, s2, s3, s4, s5, s6, s7, s8⟩
  clear hK K
  refine wpAnyH_ready (rs := [2]) (by kernel_rfl) (by simp) ?_
  refine AllReadyH.cons (i := 2) rfl (fun K hK => ?_) AllReadyH.nil
  go_simp
  have hw9' : (((((((((w8'.setCell ⟨w0.heap.size, 0, none⟩ (.int .i64 id)).setCell ⟨w0.heap.size, 1, none⟩ (.int .i64 2)).setCell ⟨w0.heap.size, 2, none⟩ (.string ⟨key.toArray⟩)).setCell ⟨w0.heap.size, 3, none⟩ (.string ⟨item.toArray⟩)).setCell ⟨w0.heap.size, 4, none⟩ (.int .i64 0)).setCell ⟨w0.heap.size, 5, none⟩ (.int .u64 0)).setCell ⟨w0.heap.size, 6, none⟩ (.slice Ae ne ce)).setCell ⟨w0.heap.size, 7, none⟩ (.slice Am nm cm)).setCell ⟨w0.heap.size, 8, none⟩ (.slice Ac nc cc)) = w9 := hw9
  rw [hw9']
  have q0 := (HQ6.out 0 _ rfl).1
  have c0 := (HR4.out 0 _ rfl).1
  have q1 := (HQ6.out 1 _ rfl).1
  have c1 := (HR4.out 1 _ rfl).1
  have q2 := (HQ6.out 2 _ rfl).1
  have c2 := (HR4.out 2 _ rfl).1
  have q3 := (HQ6.out 3 _ rfl).1
  have c3 := (HR4.out 3 _ rfl).1
  have q4 := (HQ6.out 4 _ rfl).1
  have c4 := (HR4.out 4 _ rfl).1
  have q5 := (HQ6.out 5 _ rfl).1
  have c5 := (HR4.out 5 _ rfl).1
  have q6 := (HQ6.out 6 _ rfl).1
  have c6 := (HR4.out 6 _ rfl).1
  have q7 := (HQ6.out 7 _ rfl).1
  have c7 := (HR4.out 7 _ rfl).1
  have q8 := (HQ6.out 8 _ rfl).1
  have c8 := (HR4.out 8 _ rfl).1
  clear hw9 hw9'
  refine hK.out _ _ ?_ (fun hHeld => ?_)
  ·exact ⟨q0, q1, q2, q3, q4, q5, q6, q7, q8⟩
  clear hK K
  refine wpAnyH_ready (rs := [3]) (by kernel_rfl) (by simp) ?_
  refine AllReadyH.cons (i := 3) rfl (fun K hK => ?_) AllReadyH.nil
  go_simp
  refine hK.out _ _ ?_ (fun hHeld => ?_)
  ·exact ⟨q0, q1, q2, q3, q4, q5, q6, q7, q8⟩
  clear hK K
  refine wpAnyH_done (by kernel_rfl) ?_ _
  go_wp2_with fail
  refine bodyPost_ret (v := .tuple #[.agg #[.int .i64 id, .int .i64 2, .string ⟨key.toArray⟩, .string ⟨item.toArray⟩, .int .i64 0, .int .u64 0, .slice Ae ne ce, .slice Am nm cm, .slice Ac nc cc], .iface 85 (.agg #[.int .i64 400, .int .i64 240])]) (by simp [results, Tryz.results37, go_sem, c0, c1, c2, c3, c4, c5, c6, c7, c8]; try rfl) rfl ?_
  exact ⟨HB9.out.drew, .inr ⟨400, _, _, _, _, _, _, _, _, _, _, _, _, _, _, _, HV.out, rfl⟩⟩
 case true =>
 cases o1 with
 | none =>
  have HV : Hid (routeL m p (H.findL hs tokenH) b id = .error 400) := HBL
  go_upto_region 29 with fail
  have s0 := (AV.out 0 _ rfl).1
  have g0 := (RV.out 0 _ rfl).1
  have f0 := (RV.out 0 _ rfl).2
  have s1 := (AV.out 1 _ rfl).1
  have g1 := (RV.out 1 _ rfl).1
  have f1 := (RV.out 1 _ rfl).2
  have s2 := (AV.out 2 _ rfl).1
  have g2 := (RV.out 2 _ rfl).1
  have f2 := (RV.out 2 _ rfl).2
  have s3 := (AV.out 3 _ rfl).1
  have g3 := (RV.out 3 _ rfl).1
  have f3 := (RV.out 3 _ rfl).2
  have s4 := (AV.out 4 _ rfl).1
  have g4 := (RV.out 4 _ rfl).1
  have f4 := (RV.out 4 _ rfl).2
  have s5 := (AV.out 5 _ rfl).1
  have g5 := (RV.out 5 _ rfl).1
  have f5 := (RV.out 5 _ rfl).2
  have s6 := (AV.out 6 _ rfl).1
  have g6 := (RV.out 6 _ rfl).1
  have f6 := (RV.out 6 _ rfl).2
  have s7 := (AV.out 7 _ rfl).1
  have g7 := (RV.out 7 _ rfl).1
  have f7 := (RV.out 7 _ rfl).2
  have s8 := (AV.out 8 _ rfl).1
  have g8 := (RV.out 8 _ rfl).1
  have f8 := (RV.out 8 _ rfl).2
  have HQ6 := Lib.hid (Bk.sets_other HNE.out [.int .i64 id, .int .i64 2, .string ⟨key.toArray⟩, .string ⟨item.toArray⟩, .int .i64 0, .int .u64 0, .slice Ae ne ce, .slice Am nm cm, .slice Ac nc cc] 0 AV.out)
  have HR4 := Lib.hid (Bk.sets [.int .i64 id, .int .i64 2, .string ⟨key.toArray⟩, .string ⟨item.toArray⟩, .int .i64 0, .int .u64 0, .slice Ae ne ce, .slice Am nm cm, .slice Ac nc cc] 0 RV.out)
  have HB9 := Lib.hid (below_sets HLE.out [.int .i64 id, .int .i64 2, .string ⟨key.toArray⟩, .string ⟨item.toArray⟩, .int .i64 0, .int .u64 0, .slice Ae ne ce, .slice Am nm cm, .slice Ac nc cc] 0 HBV.out)
  obtain ⟨w9, hw9⟩ : ∃ w9, sets w8' w0.heap.size 0 [.int .i64 id, .int .i64 2, .string ⟨key.toArray⟩, .string ⟨item.toArray⟩, .int .i64 0, .int .u64 0, .slice Ae ne ce, .slice Am nm cm, .slice Ac nc cc] = w9 := ⟨_, rfl⟩
  rw [hw9] at HQ6 HR4 HB9
  go_upto_region 29 with fail
  refine hstart (S := fun u => u.cell? ⟨w1.heap.size, 0, none⟩ = some (.int .i64 id) ∧ u.cell? ⟨w1.heap.size, 1, none⟩ = some (.int .i64 2) ∧ u.cell? ⟨w1.heap.size, 2, none⟩ = some (.string ⟨key.toArray⟩) ∧ u.cell? ⟨w1.heap.size, 3, none⟩ = some (.string ⟨item.toArray⟩) ∧ u.cell? ⟨w1.heap.size, 4, none⟩ = some (.int .i64 0) ∧ u.cell? ⟨w1.heap.size, 5, none⟩ = some (.int .u64 0) ∧ u.cell? ⟨w1.heap.size, 6, none⟩ = some (.slice Ae ne ce) ∧ u.cell? ⟨w1.heap.size, 7, none⟩ = some (.slice Am nm cm) ∧ u.cell? ⟨w1.heap.size, 8, none⟩ = some (.slice Ac nc cc)) (by kernel_rfl) (by repeat (first | exact PG.body | refine PG.then_ ?_ | refine PG.inBlock ?_)) ?_ (fun hPF hHeld => ?_)
  ·exact ⟨s0, s1, s2, s3, s4, s5, s6, s7, s8⟩
  refine htake (i := 0) (v := .agg #[.int .i64 id, .int .i64 2, .string ⟨key.toArray⟩, .string ⟨item.toArray⟩, .int .i64 0, .int .u64 0, .slice Ae ne ce, .slice Am nm cm, .slice Ac nc cc]) rfl (by kernel_rfl) (by kernel_rfl) (by kernel_rfl) hPF (Or.inl ⟨by kernel_rfl, ?_⟩) hHeld ?_
  ·intro u hS; obtain ⟨p0, p1, p2, p3, p4, p5, p6, p7, p8⟩ := hS; go_simp
  refine wpAnyH_ready (rs := [1]) (by kernel_rfl) (by simp) ?_
  refine AllReadyH.cons (i := 1) rfl (fun K hK => ?_) AllReadyH.nil
  go_simp
  go_at_call 82
  refine (refuse_any 400 _).mono ?_
  rintro e w_8 ⟨rfl, rfl⟩
  refine hK.out _ _ ?_ (fun hHeld => ?_)
  ·exact ⟨s0, s1, s2, s3, s4, s5, s6, s7, s8⟩
  clear hK K
  refine wpAnyH_ready (rs := [2]) (by kernel_rfl) (by simp) ?_
  refine AllReadyH.cons (i := 2) rfl (fun K hK => ?_) AllReadyH.nil
  go_simp
  have hw9' : (((((((((w8'.setCell ⟨w0.heap.size, 0, none⟩ (.int .i64 id)).setCell ⟨w0.heap.size, 1, none⟩ (.int .i64 2)).setCell ⟨w0.heap.size, 2, none⟩ (.string ⟨key.toArray⟩)).setCell ⟨w0.heap.size, 3, none⟩ (.string ⟨item.toArray⟩)).setCell ⟨w0.heap.size, 4, none⟩ (.int .i64 0)).setCell ⟨w0.heap.size, 5, none⟩ (.int .u64 0)).setCell ⟨w0.heap.size, 6, none⟩ (.slice Ae ne ce)).setCell ⟨w0.heap.size, 7, none⟩ (.slice Am nm cm)).setCell ⟨w0.heap.size, 8, none⟩ (.slice Ac nc cc)) = w9 := hw9
  rw [hw9']
  have q0 := (HQ6.out 0 _ rfl).1
  have c0 := (HR4.out 0 _ rfl).1
  have q1 := (HQ6.out 1 _ rfl).1
  have c1 := (HR4.out 1 _ rfl).1
  have q2 := (HQ6.out 2 _ rfl).1
  have c2 := (HR4.out 2 _ rfl).1
  have q3 := (HQ6.out 3 _ rfl).1
  have c3 := (HR4.out 3 _ rfl).1
  have q4 := (HQ6.out 4 _ rfl).1
  have c4 := (HR4.out 4 _ rfl).1
  have q5 := (HQ6.out 5 _ rfl).1
  have c5 := (HR4.out 5 _ rfl).1
  have q6 := (HQ6.out 6 _ rfl).1
  have c6 := (HR4.out 6 _ rfl).1
  have q7 := (HQ6.out 7 _ rfl).1
  have c7 := (HR4.out 7 _ rfl).1
  have q8 := (HQ6.out 8 _ rfl).1
  have c8 := (HR4.out 8 _ rfl).1
  clear hw9 hw9'
  refine hK.out _ _ ?_ (fun hHeld => ?_)
  ·exact ⟨q0, q1, q2, q3, q4, q5, q6, q7, q8⟩
  clear hK K
  refine wpAnyH_ready (rs := [3]) (by kernel_rfl) (by simp) ?_
  refine AllReadyH.cons (i := 3) rfl (fun K hK => ?_) AllReadyH.nil
  go_simp
  refine hK.out _ _ ?_ (fun hHeld => ?_)
  ·exact ⟨q0, q1, q2, q3, q4, q5, q6, q7, q8⟩
  clear hK K
  refine wpAnyH_done (by kernel_rfl) ?_ _
  go_wp2_with fail
  refine bodyPost_ret (v := .tuple #[.agg #[.int .i64 id, .int .i64 2, .string ⟨key.toArray⟩, .string ⟨item.toArray⟩, .int .i64 0, .int .u64 0, .slice Ae ne ce, .slice Am nm cm, .slice Ac nc cc], .iface 85 (.agg #[.int .i64 400, .int .i64 240])]) (by simp [results, Tryz.results37, go_sem, c0, c1, c2, c3, c4, c5, c6, c7, c8]; try rfl) rfl ?_
  exact ⟨HB9.out.drew, .inr ⟨400, _, _, _, _, _, _, _, _, _, _, _, _, _, _, _, HV.out, rfl⟩⟩
 | some n' =>
 obtain rfl : n = (n' : Int) := HN.out n' rfl
 cases o2 with
 | none =>
  have HV : Hid (routeL m p (H.findL hs tokenH) b id = .error 400) := HBL
  go_upto_region 29 with fail
  have s0 := (AV.out 0 _ rfl).1
  have g0 := (RV.out 0 _ rfl).1
  have f0 := (RV.out 0 _ rfl).2
  have s1 := (AV.out 1 _ rfl).1
  have g1 := (RV.out 1 _ rfl).1
  have f1 := (RV.out 1 _ rfl).2
  have s2 := (AV.out 2 _ rfl).1
  have g2 := (RV.out 2 _ rfl).1
  have f2 := (RV.out 2 _ rfl).2
  have s3 := (AV.out 3 _ rfl).1
  have g3 := (RV.out 3 _ rfl).1
  have f3 := (RV.out 3 _ rfl).2
  have s4 := (AV.out 4 _ rfl).1
  have g4 := (RV.out 4 _ rfl).1
  have f4 := (RV.out 4 _ rfl).2
  have s5 := (AV.out 5 _ rfl).1
  have g5 := (RV.out 5 _ rfl).1
  have f5 := (RV.out 5 _ rfl).2
  have s6 := (AV.out 6 _ rfl).1
  have g6 := (RV.out 6 _ rfl).1
  have f6 := (RV.out 6 _ rfl).2
  have s7 := (AV.out 7 _ rfl).1
  have g7 := (RV.out 7 _ rfl).1
  have f7 := (RV.out 7 _ rfl).2
  have s8 := (AV.out 8 _ rfl).1
  have g8 := (RV.out 8 _ rfl).1
  have f8 := (RV.out 8 _ rfl).2
  have HQ6 := Lib.hid (Bk.sets_other HNE.out [.int .i64 id, .int .i64 2, .string ⟨key.toArray⟩, .string ⟨item.toArray⟩, .int .i64 0, .int .u64 0, .slice Ae ne ce, .slice Am nm cm, .slice Ac nc cc] 0 AV.out)
  have HR4 := Lib.hid (Bk.sets [.int .i64 id, .int .i64 2, .string ⟨key.toArray⟩, .string ⟨item.toArray⟩, .int .i64 0, .int .u64 0, .slice Ae ne ce, .slice Am nm cm, .slice Ac nc cc] 0 RV.out)
  have HB9 := Lib.hid (below_sets HLE.out [.int .i64 id, .int .i64 2, .string ⟨key.toArray⟩, .string ⟨item.toArray⟩, .int .i64 0, .int .u64 0, .slice Ae ne ce, .slice Am nm cm, .slice Ac nc cc] 0 HBV.out)
  obtain ⟨w9, hw9⟩ : ∃ w9, sets w8' w0.heap.size 0 [.int .i64 id, .int .i64 2, .string ⟨key.toArray⟩, .string ⟨item.toArray⟩, .int .i64 0, .int .u64 0, .slice Ae ne ce, .slice Am nm cm, .slice Ac nc cc] = w9 := ⟨_, rfl⟩
  rw [hw9] at HQ6 HR4 HB9
  go_upto_region 29 with fail
  refine hstart (S := fun u => u.cell? ⟨w1.heap.size, 0, none⟩ = some (.int .i64 id) ∧ u.cell? ⟨w1.heap.size, 1, none⟩ = some (.int .i64 2) ∧ u.cell? ⟨w1.heap.size, 2, none⟩ = some (.string ⟨key.toArray⟩) ∧ u.cell? ⟨w1.heap.size, 3, none⟩ = some (.string ⟨item.toArray⟩) ∧ u.cell? ⟨w1.heap.size, 4, none⟩ = some (.int .i64 0) ∧ u.cell? ⟨w1.heap.size, 5, none⟩ = some (.int .u64 0) ∧ u.cell? ⟨w1.heap.size, 6, none⟩ = some (.slice Ae ne ce) ∧ u.cell? ⟨w1.heap.size, 7, none⟩ = some (.slice Am nm cm) ∧ u.cell? ⟨w1.heap.size, 8, none⟩ = some (.slice Ac nc cc)) (by kernel_rfl) (by repeat (first | exact PG.body | refine PG.then_ ?_ | refine PG.inBlock ?_)) ?_ (fun hPF hHeld => ?_)
  ·exact ⟨s0, s1, s2, s3, s4, s5, s6, s7, s8⟩
  refine htake (i := 0) (v := .agg #[.int .i64 id, .int .i64 2, .string ⟨key.toArray⟩, .string ⟨item.toArray⟩, .int .i64 0, .int .u64 0, .slice Ae ne ce, .slice Am nm cm, .slice Ac nc cc]) rfl (by kernel_rfl) (by kernel_rfl) (by kernel_rfl) hPF (Or.inl ⟨by kernel_rfl, ?_⟩) hHeld ?_
  ·intro u hS; obtain ⟨p0, p1, p2, p3, p4, p5, p6, p7, p8⟩ := hS; go_simp
  refine wpAnyH_ready (rs := [1]) (by kernel_rfl) (by simp) ?_
  refine AllReadyH.cons (i := 1) rfl (fun K hK => ?_) AllReadyH.nil
  go_simp
  go_at_call 82
  refine (refuse_any 400 _).mono ?_
  rintro e w_8 ⟨rfl, rfl⟩
  refine hK.out _ _ ?_ (fun hHeld => ?_)
  ·exact ⟨s0, s1, s2, s3, s4, s5, s6, s7, s8⟩
  clear hK K
  refine wpAnyH_ready (rs := [2]) (by kernel_rfl) (by simp) ?_
  refine AllReadyH.cons (i := 2) rfl (fun K hK => ?_) AllReadyH.nil
  go_simp
  have hw9' : (((((((((w8'.setCell ⟨w0.heap.size, 0, none⟩ (.int .i64 id)).setCell ⟨w0.heap.size, 1, none⟩ (.int .i64 2)).setCell ⟨w0.heap.size, 2, none⟩ (.string ⟨key.toArray⟩)).setCell ⟨w0.heap.size, 3, none⟩ (.string ⟨item.toArray⟩)).setCell ⟨w0.heap.size, 4, none⟩ (.int .i64 0)).setCell ⟨w0.heap.size, 5, none⟩ (.int .u64 0)).setCell ⟨w0.heap.size, 6, none⟩ (.slice Ae ne ce)).setCell ⟨w0.heap.size, 7, none⟩ (.slice Am nm cm)).setCell ⟨w0.heap.size, 8, none⟩ (.slice Ac nc cc)) = w9 := hw9
  rw [hw9']
  have q0 := (HQ6.out 0 _ rfl).1
  have c0 := (HR4.out 0 _ rfl).1
  have q1 := (HQ6.out 1 _ rfl).1
  have c1 := (HR4.out 1 _ rfl).1
  have q2 := (HQ6.out 2 _ rfl).1
  have c2 := (HR4.out 2 _ rfl).1
  have q3 := (HQ6.out 3 _ rfl).1
  have c3 := (HR4.out 3 _ rfl).1
  have q4 := (HQ6.out 4 _ rfl).1
  have c4 := (HR4.out 4 _ rfl).1
  have q5 := (HQ6.out 5 _ rfl).1
  have c5 := (HR4.out 5 _ rfl).1
  have q6 := (HQ6.out 6 _ rfl).1
  have c6 := (HR4.out 6 _ rfl).1
  have q7 := (HQ6.out 7 _ rfl).1
  have c7 := (HR4.out 7 _ rfl).1
  have q8 := (HQ6.out 8 _ rfl).1
  have c8 := (HR4.out 8 _ rfl).1
  clear hw9 hw9'
  refine hK.out _ _ ?_ (fun hHeld => ?_)
  ·exact ⟨q0, q1, q2, q3, q4, q5, q6, q7, q8⟩
  clear hK K
  refine wpAnyH_ready (rs := [3]) (by kernel_rfl) (by simp) ?_
  refine AllReadyH.cons (i := 3) rfl (fun K hK => ?_) AllReadyH.nil
  go_simp
  refine hK.out _ _ ?_ (fun hHeld => ?_)
  ·exact ⟨q0, q1, q2, q3, q4, q5, q6, q7, q8⟩
  clear hK K
  refine wpAnyH_done (by kernel_rfl) ?_ _
  go_wp2_with fail
  refine bodyPost_ret (v := .tuple #[.agg #[.int .i64 id, .int .i64 2, .string ⟨key.toArray⟩, .string ⟨item.toArray⟩, .int .i64 0, .int .u64 0, .slice Ae ne ce, .slice Am nm cm, .slice Ac nc cc], .iface 85 (.agg #[.int .i64 400, .int .i64 240])]) (by simp [results, Tryz.results37, go_sem, c0, c1, c2, c3, c4, c5, c6, c7, c8]; try rfl) rfl ?_
  exact ⟨HB9.out.drew, .inr ⟨400, _, _, _, _, _, _, _, _, _, _, _, _, _, _, _, HV.out, rfl⟩⟩
 | some p' =>
 obtain rfl : p' = P := HP.out
 have HV : Hid (routeL m p (H.findL hs tokenH) b id = .ok ⟨id, 2, key, item, n', p', c⟩) := HBL
 have a4 := (AV.out 4 _ rfl).1
 have fa4 := (AV.out 4 _ rfl).2
 have a5 := (AV.out 5 _ rfl).1
 have fa5 := (AV.out 5 _ rfl).2
 have LW : w.heap.size < w1.heap.size := Nat.lt_trans HL0.out HL1.out
 have M2' := Bk.sets_other (C := w1.heap.size) (fun h => HNE.out h.symm) [.int .i64 (n' : Int), .int .u64 (p' : Int)] 4 RV.out
 have M3' := Bk.sets [.int .i64 (n' : Int), .int .u64 (p' : Int)] 4 AV.out
 have M4' := below_sets (C := w1.heap.size) (Nat.le_of_lt LW) [.int .i64 (n' : Int), .int .u64 (p' : Int)] 4 HBV.out
 have M5' := own_sets (C := w1.heap.size) HBc.out [.int .i64 (n' : Int), .int .u64 (p' : Int)] 4 O1V.out
 have M6' := own_sets (C := w1.heap.size) HBc.out [.int .i64 (n' : Int), .int .u64 (p' : Int)] 4 O2V.out
 have M7' := own_sets (C := w1.heap.size) HBc.out [.int .i64 (n' : Int), .int .u64 (p' : Int)] 4 O3V.out
 obtain ⟨wz, hwz⟩ : ∃ wz, sets w8' w1.heap.size 4 [.int .i64 (n' : Int), .int .u64 (p' : Int)] = wz := ⟨_, rfl⟩
 rw [hwz] at M2' M3' M4' M5' M6' M7'
 have hwz' : (w8'.setCell ⟨w1.heap.size, 4, none⟩ (.int .i64 (n' : Int))).setCell ⟨w1.heap.size, 5, none⟩ (.int .u64 (p' : Int)) = wz := hwz
 have RW := Lib.hid M2'
 have AW : Hid (Bk wz w1.heap.size [.int .i64 id, .int .i64 2, .string ⟨key.toArray⟩, .string ⟨item.toArray⟩, .int .i64 (n' : Int), .int .u64 (p' : Int), .slice Ae ne ce, .slice Am nm cm, .slice Ac nc cc]) := Lib.hid M3'
 have HBW := Lib.hid M4'
 have O1 := Lib.hid M5'
 have O2 := Lib.hid M6'
 have O3 := Lib.hid M7'
 clear M2' M3' M4' M5' M6' M7' hwz LW
 have s0 := (AW.out 0 _ rfl).1
 have g0 := (RW.out 0 _ rfl).1
 have f0 := (RW.out 0 _ rfl).2
 have s1 := (AW.out 1 _ rfl).1
 have g1 := (RW.out 1 _ rfl).1
 have f1 := (RW.out 1 _ rfl).2
 have s2 := (AW.out 2 _ rfl).1
 have g2 := (RW.out 2 _ rfl).1
 have f2 := (RW.out 2 _ rfl).2
 have s3 := (AW.out 3 _ rfl).1
 have g3 := (RW.out 3 _ rfl).1
 have f3 := (RW.out 3 _ rfl).2
 have s4 := (AW.out 4 _ rfl).1
 have g4 := (RW.out 4 _ rfl).1
 have f4 := (RW.out 4 _ rfl).2
 have s5 := (AW.out 5 _ rfl).1
 have g5 := (RW.out 5 _ rfl).1
 have f5 := (RW.out 5 _ rfl).2
 have s6 := (AW.out 6 _ rfl).1
 have g6 := (RW.out 6 _ rfl).1
 have f6 := (RW.out 6 _ rfl).2
 have s7 := (AW.out 7 _ rfl).1
 have g7 := (RW.out 7 _ rfl).1
 have f7 := (RW.out 7 _ rfl).2
 have s8 := (AW.out 8 _ rfl).1
 have g8 := (RW.out 8 _ rfl).1
 have f8 := (RW.out 8 _ rfl).2
 have HR4 := Lib.hid (Bk.sets [.int .i64 id, .int .i64 2, .string ⟨key.toArray⟩, .string ⟨item.toArray⟩, .int .i64 (n' : Int), .int .u64 (p' : Int), .slice Ae ne ce, .slice Am nm cm, .slice Ac nc cc] 0 RW.out)
 have HB9 := Lib.hid (below_sets HLE.out [.int .i64 id, .int .i64 2, .string ⟨key.toArray⟩, .string ⟨item.toArray⟩, .int .i64 (n' : Int), .int .u64 (p' : Int), .slice Ae ne ce, .slice Am nm cm, .slice Ac nc cc] 0 HBW.out)
 have Q1 := Lib.hid (own_sets (C := w0.heap.size) (Nat.lt_trans HL1.out HBc.out) [.int .i64 id, .int .i64 2, .string ⟨key.toArray⟩, .string ⟨item.toArray⟩, .int .i64 (n' : Int), .int .u64 (p' : Int), .slice Ae ne ce, .slice Am nm cm, .slice Ac nc cc] 0 O1.out)
 have Q2 := Lib.hid (own_sets (C := w0.heap.size) (Nat.lt_trans HL1.out HBc.out) [.int .i64 id, .int .i64 2, .string ⟨key.toArray⟩, .string ⟨item.toArray⟩, .int .i64 (n' : Int), .int .u64 (p' : Int), .slice Ae ne ce, .slice Am nm cm, .slice Ac nc cc] 0 O2.out)
 have Q3 := Lib.hid (own_sets (C := w0.heap.size) (Nat.lt_trans HL1.out HBc.out) [.int .i64 id, .int .i64 2, .string ⟨key.toArray⟩, .string ⟨item.toArray⟩, .int .i64 (n' : Int), .int .u64 (p' : Int), .slice Ae ne ce, .slice Am nm cm, .slice Ac nc cc] 0 O3.out)
 have c0 : ((((((((((wz.setCell ⟨w0.heap.size, 0, none⟩ (.int .i64 id)).setCell ⟨w0.heap.size, 1, none⟩ (.int .i64 2)).setCell ⟨w0.heap.size, 2, none⟩ (.string ⟨key.toArray⟩)).setCell ⟨w0.heap.size, 3, none⟩ (.string ⟨item.toArray⟩)).setCell ⟨w0.heap.size, 4, none⟩ (.int .i64 (n' : Int))).setCell ⟨w0.heap.size, 5, none⟩ (.int .u64 (p' : Int))).setCell ⟨w0.heap.size, 6, none⟩ (.slice Ae ne ce)).setCell ⟨w0.heap.size, 7, none⟩ (.slice Am nm cm)).setCell ⟨w0.heap.size, 8, none⟩ (.slice Ac nc cc))).cell? ⟨w0.heap.size, 0, none⟩ = some (.int .i64 id) := (HR4.out 0 _ rfl).1
 have c1 : ((((((((((wz.setCell ⟨w0.heap.size, 0, none⟩ (.int .i64 id)).setCell ⟨w0.heap.size, 1, none⟩ (.int .i64 2)).setCell ⟨w0.heap.size, 2, none⟩ (.string ⟨key.toArray⟩)).setCell ⟨w0.heap.size, 3, none⟩ (.string ⟨item.toArray⟩)).setCell ⟨w0.heap.size, 4, none⟩ (.int .i64 (n' : Int))).setCell ⟨w0.heap.size, 5, none⟩ (.int .u64 (p' : Int))).setCell ⟨w0.heap.size, 6, none⟩ (.slice Ae ne ce)).setCell ⟨w0.heap.size, 7, none⟩ (.slice Am nm cm)).setCell ⟨w0.heap.size, 8, none⟩ (.slice Ac nc cc))).cell? ⟨w0.heap.size, 1, none⟩ = some (.int .i64 2) := (HR4.out 1 _ rfl).1
 have c2 : ((((((((((wz.setCell ⟨w0.heap.size, 0, none⟩ (.int .i64 id)).setCell ⟨w0.heap.size, 1, none⟩ (.int .i64 2)).setCell ⟨w0.heap.size, 2, none⟩ (.string ⟨key.toArray⟩)).setCell ⟨w0.heap.size, 3, none⟩ (.string ⟨item.toArray⟩)).setCell ⟨w0.heap.size, 4, none⟩ (.int .i64 (n' : Int))).setCell ⟨w0.heap.size, 5, none⟩ (.int .u64 (p' : Int))).setCell ⟨w0.heap.size, 6, none⟩ (.slice Ae ne ce)).setCell ⟨w0.heap.size, 7, none⟩ (.slice Am nm cm)).setCell ⟨w0.heap.size, 8, none⟩ (.slice Ac nc cc))).cell? ⟨w0.heap.size, 2, none⟩ = some (.string ⟨key.toArray⟩) := (HR4.out 2 _ rfl).1
 have c3 : ((((((((((wz.setCell ⟨w0.heap.size, 0, none⟩ (.int .i64 id)).setCell ⟨w0.heap.size, 1, none⟩ (.int .i64 2)).setCell ⟨w0.heap.size, 2, none⟩ (.string ⟨key.toArray⟩)).setCell ⟨w0.heap.size, 3, none⟩ (.string ⟨item.toArray⟩)).setCell ⟨w0.heap.size, 4, none⟩ (.int .i64 (n' : Int))).setCell ⟨w0.heap.size, 5, none⟩ (.int .u64 (p' : Int))).setCell ⟨w0.heap.size, 6, none⟩ (.slice Ae ne ce)).setCell ⟨w0.heap.size, 7, none⟩ (.slice Am nm cm)).setCell ⟨w0.heap.size, 8, none⟩ (.slice Ac nc cc))).cell? ⟨w0.heap.size, 3, none⟩ = some (.string ⟨item.toArray⟩) := (HR4.out 3 _ rfl).1
 have c4 : ((((((((((wz.setCell ⟨w0.heap.size, 0, none⟩ (.int .i64 id)).setCell ⟨w0.heap.size, 1, none⟩ (.int .i64 2)).setCell ⟨w0.heap.size, 2, none⟩ (.string ⟨key.toArray⟩)).setCell ⟨w0.heap.size, 3, none⟩ (.string ⟨item.toArray⟩)).setCell ⟨w0.heap.size, 4, none⟩ (.int .i64 (n' : Int))).setCell ⟨w0.heap.size, 5, none⟩ (.int .u64 (p' : Int))).setCell ⟨w0.heap.size, 6, none⟩ (.slice Ae ne ce)).setCell ⟨w0.heap.size, 7, none⟩ (.slice Am nm cm)).setCell ⟨w0.heap.size, 8, none⟩ (.slice Ac nc cc))).cell? ⟨w0.heap.size, 4, none⟩ = some (.int .i64 (n' : Int)) := (HR4.out 4 _ rfl).1
 have c5 : ((((((((((wz.setCell ⟨w0.heap.size, 0, none⟩ (.int .i64 id)).setCell ⟨w0.heap.size, 1, none⟩ (.int .i64 2)).setCell ⟨w0.heap.size, 2, none⟩ (.string ⟨key.toArray⟩)).setCell ⟨w0.heap.size, 3, none⟩ (.string ⟨item.toArray⟩)).setCell ⟨w0.heap.size, 4, none⟩ (.int .i64 (n' : Int))).setCell ⟨w0.heap.size, 5, none⟩ (.int .u64 (p' : Int))).setCell ⟨w0.heap.size, 6, none⟩ (.slice Ae ne ce)).setCell ⟨w0.heap.size, 7, none⟩ (.slice Am nm cm)).setCell ⟨w0.heap.size, 8, none⟩ (.slice Ac nc cc))).cell? ⟨w0.heap.size, 5, none⟩ = some (.int .u64 (p' : Int)) := (HR4.out 5 _ rfl).1
 have c6 : ((((((((((wz.setCell ⟨w0.heap.size, 0, none⟩ (.int .i64 id)).setCell ⟨w0.heap.size, 1, none⟩ (.int .i64 2)).setCell ⟨w0.heap.size, 2, none⟩ (.string ⟨key.toArray⟩)).setCell ⟨w0.heap.size, 3, none⟩ (.string ⟨item.toArray⟩)).setCell ⟨w0.heap.size, 4, none⟩ (.int .i64 (n' : Int))).setCell ⟨w0.heap.size, 5, none⟩ (.int .u64 (p' : Int))).setCell ⟨w0.heap.size, 6, none⟩ (.slice Ae ne ce)).setCell ⟨w0.heap.size, 7, none⟩ (.slice Am nm cm)).setCell ⟨w0.heap.size, 8, none⟩ (.slice Ac nc cc))).cell? ⟨w0.heap.size, 6, none⟩ = some (.slice Ae ne ce) := (HR4.out 6 _ rfl).1
 have c7 : ((((((((((wz.setCell ⟨w0.heap.size, 0, none⟩ (.int .i64 id)).setCell ⟨w0.heap.size, 1, none⟩ (.int .i64 2)).setCell ⟨w0.heap.size, 2, none⟩ (.string ⟨key.toArray⟩)).setCell ⟨w0.heap.size, 3, none⟩ (.string ⟨item.toArray⟩)).setCell ⟨w0.heap.size, 4, none⟩ (.int .i64 (n' : Int))).setCell ⟨w0.heap.size, 5, none⟩ (.int .u64 (p' : Int))).setCell ⟨w0.heap.size, 6, none⟩ (.slice Ae ne ce)).setCell ⟨w0.heap.size, 7, none⟩ (.slice Am nm cm)).setCell ⟨w0.heap.size, 8, none⟩ (.slice Ac nc cc))).cell? ⟨w0.heap.size, 7, none⟩ = some (.slice Am nm cm) := (HR4.out 7 _ rfl).1
 have c8 : ((((((((((wz.setCell ⟨w0.heap.size, 0, none⟩ (.int .i64 id)).setCell ⟨w0.heap.size, 1, none⟩ (.int .i64 2)).setCell ⟨w0.heap.size, 2, none⟩ (.string ⟨key.toArray⟩)).setCell ⟨w0.heap.size, 3, none⟩ (.string ⟨item.toArray⟩)).setCell ⟨w0.heap.size, 4, none⟩ (.int .i64 (n' : Int))).setCell ⟨w0.heap.size, 5, none⟩ (.int .u64 (p' : Int))).setCell ⟨w0.heap.size, 6, none⟩ (.slice Ae ne ce)).setCell ⟨w0.heap.size, 7, none⟩ (.slice Am nm cm)).setCell ⟨w0.heap.size, 8, none⟩ (.slice Ac nc cc))).cell? ⟨w0.heap.size, 8, none⟩ = some (.slice Ac nc cc) := (HR4.out 8 _ rfl).1
 go_wp2_with fail
 refine bodyPost_ret (v := .tuple #[.agg #[.int .i64 id, .int .i64 2, .string ⟨key.toArray⟩, .string ⟨item.toArray⟩, .int .i64 (n' : Int), .int .u64 (p' : Int), .slice Ae ne ce, .slice Am nm cm, .slice Ac nc cc], .nilIface]) (by simp [results, Tryz.results37, go_sem, c0, c1, c2, c3, c4, c5, c6, c7, c8]; try rfl) rfl ?_
 exact ⟨HB9.out, .inl ⟨⟨id, 2, key, item, n', p', c⟩, _, HV.out, rfl, _, _, _, rfl, Q1.out.base (Nat.le_of_lt (Nat.lt_trans HL0.out (Nat.lt_trans HL1.out HBc.out))), Q2.out.base (Nat.le_of_lt (Nat.lt_trans HL0.out (Nat.lt_trans HL1.out HBc.out))), Q3.out.base (Nat.le_of_lt (Nat.lt_trans HL0.out (Nat.lt_trans HL1.out HBc.out)))⟩⟩
end Go.Proofs.YtpdedfpacklnoaaGreatDoor
