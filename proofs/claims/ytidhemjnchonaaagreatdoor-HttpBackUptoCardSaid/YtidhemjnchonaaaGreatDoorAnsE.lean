/- Contract of http.Read, of any bytes. -/
import Derived.Test.YtidhemjnchonaaaGreatDoorAnsC
import Derived.Test.YtidhemjnchonaaaGreatDoorAnsD
import Derived.Deep.CutRange
namespace Go.Proofs.YtidhemjnchonaaaGreatDoor
open Go.RowKit Go.BL

def ReaR (r : Except Int Ans) (w : World) (e : Ending) (w' : World) : Prop :=
  Below w.heap.size w w' ∧ match r with
  | .ok a => ∃ h, e = .returned (.tuple #[ansV a h, .int .i64 0]) ∧ Hdrs w' h a.hs
  | .error c => e = .returned (.tuple #[.agg #[.int .i64 0, .slice none 0 0, .string ⟨#[]⟩], .int .i64 c])
/-- Behind the headers. -/
def finR (st : Int) (T body : List UInt8) : Except Int (List Hdr × List UInt8) → Except Int Ans
  | .error c => .error c
  | .ok (hs, len) => if len ≠ Lib.itoa (body.length : Nat) ∨ 4096 < body.length then .error 142 else if 65536 < T.length then .error 4 else .ok ⟨st, hs, body⟩
theorem B3.other {w : World} {B : Nat} {s h b : Value} (k : B3 w B s h b) {p : Addr} (hp : p.block ≠ B) (u : Value) : B3 (w.setCell p u) B s h b := by
  have ne : ∀ x, p ≠ ⟨B, x, none⟩ := fun x e => hp (by rw [e])
  exact ⟨(World.cell?_setCell_other _ _ _ _ (ne 0)).trans k.c0, (World.cell?_setCell_other _ _ _ _ (ne 1)).trans k.c1, (World.cell?_setCell_other _ _ _ _ (ne 2)).trans k.c2, by rw [World.frozen?_setCell]; exact k.z0, by rw [World.frozen?_setCell]; exact k.z1, by rw [World.frozen?_setCell]; exact k.z2⟩
theorem B3.set1 {w : World} {B : Nat} {s h b : Value} (k : B3 w B s h b) (h' : Value) : B3 (w.setCell ⟨B, 1, none⟩ h') B s h' b := by
  have ne : ∀ {x : Nat}, 1 ≠ x → (⟨B, 1, none⟩ : Addr) ≠ ⟨B, x, none⟩ := fun h e => h (by injection e)
  exact ⟨(World.cell?_setCell_other _ _ _ _ (ne (by decide))).trans k.c0, World.cell?_setCell_same _ _ _ k.c1, (World.cell?_setCell_other _ _ _ _ (ne (by decide))).trans k.c2, by rw [World.frozen?_setCell]; exact k.z0, by rw [World.frozen?_setCell]; exact k.z1, by rw [World.frozen?_setCell]; exact k.z2⟩
theorem pair_at (w : World) (x y : Value) (t : TypeId) (g : Nat) (hg : g = w.heap.size) : (w.alloc (.cells #[x, y] t)).cell? ⟨g, 0, none⟩ = some x ∧ (w.alloc (.cells #[x, y] t)).cell? ⟨g, 1, none⟩ = some y := by
  subst hg
  exact pair_cells
theorem pair_keep {w w' : World} {x y : Value} {t : TypeId} (hb : Below (w.alloc (.cells #[x, y] t)).heap.size (w.alloc (.cells #[x, y] t)) w') : w'.cell? ⟨w.heap.size, 0, none⟩ = some x ∧ w'.cell? ⟨w.heap.size, 1, none⟩ = some y := (box2 hb).1
theorem finR_if {st : Int} {T b : List UInt8} {p q : Prop} [Decidable p] [Decidable q] {x : Except Int (List Hdr × List UInt8)} {c : Int} (h : p ↔ q) : finR st T b (if p then x else .error c) = if q then finR st T b x else .error c := by
  by_cases hp : p
  · rw [if_pos hp, if_pos (h.1 hp)]
  · rw [if_neg hp, if_neg (fun h' => hp (h.2 h'))]; rfl
theorem cutL_le (s sep : List UInt8) : (cutL s sep).1.length ≤ s.length ∧ (cutL s sep).2.1.length ≤ s.length := cut_le s sep
set_option maxHeartbeats 8000000 in
set_option maxRecDepth 100000 in
theorem read_any (v : Value) (b : List UInt8) (w : World) (hv : Bsl w v b) (hb : b.length ≤ 536870912) (he : Env w) (ht : Tab w) (hr : Errs w) : Calls Tryz.prog 30 #[v] w (ReaR (readL b) w) := by
  obtain ⟨X, hX⟩ : ∃ x, readL b = x := ⟨_, rfl⟩
  rw [hX]
  unfold readL at hX
  obtain ⟨w0, hw0⟩ : ∃ w0, w.alloc (.cells #[.int .i64 0, .slice none 0 0, .string ⟨#[]⟩] 53) = w0 := ⟨_, rfl⟩
  obtain ⟨w1, hw1⟩ : ∃ w1, w0.alloc (.cells #[.int .i64 0, .slice none 0 0, .string ⟨#[]⟩] 53) = w1 := ⟨_, rfl⟩
  have HS0 : Hid (w.heap.size < w0.heap.size) := Lib.hid (by rw [← hw0]; simp)
  have HS1 : Hid (w0.heap.size < w1.heap.size) := Lib.hid (by rw [← hw1]; simp)
  have HB0 : Hid (Below w.heap.size w w0) := Lib.hid (by rw [← hw0]; exact (Below.refl _ _).alloc (Nat.le_refl _) _)
  have HB01 : Hid (Below w0.heap.size w0 w1) := Lib.hid (by rw [← hw1]; exact (Below.refl _ _).alloc (Nat.le_refl _) _)
  have HB1 := Lib.hid (HB0.out.trans (HB01.out.mono HB0.out.size))
  have K1 : Hid (B3 w1 w.heap.size (.int .i64 0) (.slice none 0 0) (.string ⟨#[]⟩)) := Lib.hid ((show B3 w0 w.heap.size (.int .i64 0) (.slice none 0 0) (.string ⟨#[]⟩) by rw [← hw0]; exact B3.new w _ _ _ _).below HB01.out HS0.out)
  have J1 : Hid (B3 w1 w0.heap.size (.int .i64 0) (.slice none 0 0) (.string ⟨#[]⟩)) := Lib.hid (by rw [← hw1]; exact B3.new w0 _ _ _ _)
  have hcv := (hv.below HB1.out (Nat.le_refl _)).conv
  obtain ⟨A, c, rfl⟩ := hv.form
  have HW1 := Lib.hid hw1
  rw [← hw1] at hcv
  clear hw1
  have HE := Lib.hid he
  have HT := Lib.hid ht
  have HER := Lib.hid hr
  clear hv he ht hr
  have hcut := fun w he => cut_any b sep4 (by omega) w he
  obtain ⟨cl1, cl2⟩ := cutL_le b sep4
  obtain ⟨q, hq⟩ : ∃ q, cutL b sep4 = q := ⟨_, rfl⟩
  rw [hq] at hX hcut cl1 cl2
  obtain ⟨T, body, f⟩ := q
  dsimp only at hX hcut cl1 cl2
  have hcut' : ∀ w, Env w → Calls Tryz.prog 55 #[.string ⟨b.toArray⟩, .string ⟨#[13, 10, 13, 10]⟩] w (RetV (.tuple #[.string ⟨T.toArray⟩, .string ⟨body.toArray⟩, .bool f]) w) := hcut
  clear hcut hq
  cases f
  case false =>
    rw [if_pos rfl] at hX
    subst hX
    clear hb cl1 cl2
    go_enter Tryz.func30, Tryz.ntmps30
    go_wp2_with fail
    rw [HW1.out]
    clear hw0
    (go_at_call 55; refine (hcut' _ (HE.out.below HB1.out)).mono ?_; rintro e w2 ⟨rfl, hb2⟩)
    have K2 := Lib.hid (K1.out.below hb2 (Nat.lt_trans HS0.out HS1.out))
    have J2 := Lib.hid (J1.out.below hb2 HS1.out)
    have HB2 := Lib.hid (HB1.out.trans (hb2.mono HB1.out.size))
    clear hb2
    obtain ⟨k0, k1, k2, z0, z1, z2⟩ := K2.out
    obtain ⟨j0, j1, j2, -, -, -⟩ := J2.out
    go_wp2_with fail
    obtain ⟨e0, e1, e2, -, -, -⟩ := K2.out.set (.int .i64 0) (.slice none 0 0) (.string ⟨#[]⟩)
    refine bodyPost_ret (by simp [results, Tryz.results30, go_sem, e0, e1, e2]; try rfl) rfl ?_
    exact ⟨((HB2.out.setCell (Nat.le_refl _) _).setCell (Nat.le_refl _) _).setCell (Nat.le_refl _) _, rfl⟩
  rw [if_neg (by decide)] at hX
  have hspl : ∀ w, Env w → Calls Tryz.prog 37 #[.string ⟨T.toArray⟩, .string ⟨#[13, 10]⟩] w fun e w' => e = .returned (.slice (some ⟨w.heap.size, 0, none⟩) (lns T [13, 10]).length (lns T [13, 10]).length) ∧ w.alloc (.cells (strs (lns T [13, 10])) 9) = w' := fun w he => split_any T [13, 10] (by decide) (by omega) w he
  have hml : ∀ x ∈ lns T [13, 10], x.length ≤ 536870912 := fun x hx => by have := lns_mem_len T [13, 10] hx; omega
  have hl1 := lns_len T [13, 10] (by decide)
  generalize lns T [13, 10] = ls at *
  cases ls with
  | nil => simp at hl1
  | cons l0 r =>
  simp only at hX
  have hsta := fun w => status_any l0 (by have := hml l0 (by simp); omega) w
  have hrl : r.length ≤ 536870912 := by have := hl1.2; simp at this; omega
  obtain ⟨st, hst⟩ : ∃ x, statusL l0 = x := ⟨_, rfl⟩
  rw [hst] at hX hsta
  have HML : Hid (∀ x ∈ r, x.length ≤ 536870912) := Lib.hid (fun x hx => hml x (by simp [hx]))
  have HX := Lib.hid hX
  have HBL : Hid (body.length ≤ 536870912) := Lib.hid (by omega)
  have HTL : Hid (T.length ≤ 536870912) := Lib.hid (by omega)
  clear hX hst hb cl1 cl2 hl1 hml
  go_enter Tryz.func30, Tryz.ntmps30
  go_wp2_with fail
  rw [HW1.out]
  clear hw0 hcv
  (go_at_call 55; refine (hcut' _ (HE.out.below HB1.out)).mono ?_; rintro e w2 ⟨rfl, hb2⟩)
  have K2 := Lib.hid (K1.out.below hb2 (Nat.lt_trans HS0.out HS1.out))
  have J2 := Lib.hid (J1.out.below hb2 HS1.out)
  have HB2 := Lib.hid (HB1.out.trans (hb2.mono HB1.out.size))
  have HZ2 := Lib.hid (Nat.le_trans (Nat.le_of_lt HS1.out) hb2.size)
  have HY2 := Lib.hid (Nat.lt_of_lt_of_le HS1.out hb2.size)
  clear hb2
  go_wp2_with fail
  (go_at_call 37; refine (hspl _ (HE.out.below HB2.out)).mono ?_; rintro e w3 ⟨rfl, hw3⟩)
  have hb3 : Below w2.heap.size w2 w3 := by rw [← hw3]; exact (Below.refl _ _).alloc (Nat.le_refl _) _
  have HLC : Hid (LC w3 w2.heap.size (l0 :: r)) := Lib.hid (by rw [← hw3]; exact LC.new w2 _)
  have HS3 : Hid (w2.heap.size < w3.heap.size) := Lib.hid (by rw [← hw3]; simp)
  have K3 := Lib.hid (K2.out.below hb3 (Nat.lt_of_lt_of_le HS0.out HZ2.out))
  have J3 := Lib.hid (J2.out.below hb3 HY2.out)
  have HB3 := Lib.hid (HB2.out.trans (hb3.mono HB2.out.size))
  clear hb3 hw3 hspl hcut'
  have c0 := HLC.out 0 (by simp)
  simp only [List.getElem_cons_zero] at c0
  have hlen2 : (0 : Int) < (r.length : Int) + 1 := by omega
  go_wp2_with fail
  (go_at_call 56; refine (hsta _).mono ?_; rintro e w4 ⟨rfl, hb4⟩)
  have K4 := Lib.hid (K3.out.below hb4 (Nat.lt_trans (Nat.lt_of_lt_of_le HS0.out HZ2.out) HS3.out))
  have J4 := Lib.hid (J3.out.below hb4 (Nat.lt_trans HY2.out HS3.out))
  have HB4 := Lib.hid (HB3.out.trans (hb4.mono HB3.out.size))
  have HLC4 := Lib.hid (HLC.out.below hb4 HS3.out)
  have HS4 := Lib.hid (Nat.lt_of_lt_of_le HS3.out hb4.size)
  clear hb4 c0
  obtain ⟨w5, hw5⟩ : ∃ w5, w4.alloc (.cells #[.int .i64 st, .slice none 0 0, .string ⟨body.toArray⟩] 53) = w5 := ⟨_, rfl⟩
  have HB5 : Hid (Below w4.heap.size w4 w5) := Lib.hid (by rw [← hw5]; exact (Below.refl _ _).alloc (Nat.le_refl _) _)
  have HS5 : Hid (w4.heap.size < w5.heap.size) := Lib.hid (by rw [← hw5]; simp)
  have HA5 : Hid (B3 w5 w4.heap.size (.int .i64 st) (.slice none 0 0) (.string ⟨body.toArray⟩)) := Lib.hid (by rw [← hw5]; exact B3.new w4 _ _ _ _)
  have HK4 : Hid (w.heap.size < w4.heap.size) := Lib.hid (Nat.lt_trans (Nat.lt_of_lt_of_le HS0.out HZ2.out) HS4.out)
  have HJ4 : Hid (w0.heap.size < w4.heap.size) := Lib.hid (Nat.lt_trans HY2.out HS4.out)
  have K5 := Lib.hid (K4.out.below HB5.out HK4.out)
  have J5 := Lib.hid (J4.out.below HB5.out HJ4.out)
  have HW5 := Lib.hid (HB4.out.trans (HB5.out.mono HB4.out.size))
  obtain ⟨k0, k1, k2, z0, z1, z2⟩ := K5.out
  obtain ⟨j0, j1, j2, -, -, -⟩ := J5.out
  obtain ⟨a0, a1, a2, -, -, -⟩ := HA5.out
  by_cases hst0 : st = 0
  · subst hst0
    have HF : Hid (X = .error 140) := Lib.hid (by rw [← HX.out, if_pos rfl])
    go_wp2_with fail
    obtain ⟨e0, e1, e2, -, -, -⟩ := K5.out.set (.int .i64 0) (.slice none 0 0) (.string ⟨#[]⟩)
    refine bodyPost_ret (by simp [results, Tryz.results30, go_sem, e0, e1, e2]; try rfl) rfl ?_
    exact ⟨((HW5.out.setCell (Nat.le_refl _) _).setCell (Nat.le_refl _) _).setCell (Nat.le_refl _) _, by rw [HF.out]⟩
  have hst1 : ((st : Int) == 0) = false := beq_false_of_ne hst0
  have hX2 := HX.out
  rw [if_neg hst0] at hX2
  have HX2 := Lib.hid hX2
  clear HX hX2 hst0
  obtain ⟨A2, hA2, hsl⟩ := from_slice 64 9 under64 Tryz.sizeOf9 w2.heap.size 0 (r.length + 1) (r.length + 1) 1 (by omega) (Nat.le_refl _)
  simp only [Nat.add_sub_cancel, Nat.zero_add] at hA2 hsl
  have hsl' : ∀ w, (Instr.slice 64 (.slice (some ⟨w2.heap.size, 0, none⟩) (r.length + 1) (r.length + 1)) (some (.int .i64 1)) none none).run Tryz.prog w = .ok (.slice A2 r.length r.length) w := hsl
  have HA2 := Lib.hid hA2
  clear hA2 hsl
  go_wp2_with fail
  have HR0 : Hid (finR st T body (readH r 0 [] []) = X) := Lib.hid (by
    rw [← HX2.out]
    cases readH r 0 [] [] with
    | error c => rfl
    | ok q => rfl)
  have HO5 : Hid (OwnH w5 w5.heap.size (.slice none 0 0) []) := Lib.hid (OwnH.nil _ _)
  clear hsl' hw5 HX2 k0 k1 k2 z0 z1 z2 j0 j1 j2 a0 a1 a2 hst1 hlen2 hsta
  go_loopw [10, 46] (fun lv j wr => ∃ (k : Nat) (len : List UInt8) (hs : List Hdr) (D : Option Addr) (dc : Nat), lv = .string ⟨len.toArray⟩ ∧ j = .int .i64 (k : Int) ∧ k ≤ r.length ∧ k ≤ 32 ∧ hs.length ≤ k ∧ Hid (OwnH wr w5.heap.size (.slice D hs.length dc) hs) ∧ Hid (B3 wr w4.heap.size (.int .i64 st) (.slice D hs.length dc) (.string ⟨body.toArray⟩)) ∧ Hid (Below w4.heap.size w4 wr) ∧ Hid (w5.heap.size ≤ wr.heap.size) ∧ Hid (finR st T body (readH (r.drop k) k hs len) = X)) (fun _ j _ => r.length - (intOf j).toNat)
  case atStart => exact ⟨0, [], [], none, 0, rfl, rfl, by omega, by omega, by simp, HO5, HA5, HB5, Lib.hid (Nat.le_refl _), by simpa using HR0⟩
  case round =>
    obtain ⟨k, len, hs, D, dc, rfl, rfl, hk, hk32, hhl, HO, HA, HBr, HSr, HR⟩ := hrel
    have HWr := Lib.hid (HB4.out.trans (HBr.out.mono HB4.out.size))
    have KR := Lib.hid (K4.out.below HBr.out HK4.out)
    have JR := Lib.hid (J4.out.below HBr.out HJ4.out)
    obtain ⟨k0, k1, k2, z0, z1, z2⟩ := KR.out
    obtain ⟨j0, j1, j2, -, -, -⟩ := JR.out
    obtain ⟨a0, a1, a2, x0, x1, x2⟩ := HA.out
    by_cases hlt : k < r.length
    · obtain rfl := HA2.out (by omega)
      obtain ⟨ln, hln⟩ : ∃ x, r[k]'hlt = x := ⟨_, rfl⟩
      have c1 := HLC4.out (k + 1) (by simp; omega)
      simp only [List.getElem_cons_succ] at c1
      rw [hln] at c1
      have d1 : wr.cell? ⟨w2.heap.size, 1 + k, none⟩ = some (.string ⟨ln.toArray⟩) := by
        rw [Nat.add_comm 1 k]
        exact (HBr.out.cell (p := ⟨w2.heap.size, k + 1, none⟩) HS4.out).trans c1
      have hlnl : ln.length ≤ 536870912 := by rw [← hln]; exact HML.out _ (List.getElem_mem hlt)
      have hcut := fun w he => cut_any ln [58, 32] (by omega) w he
      obtain ⟨cl1, cl2⟩ := cutL_le ln [58, 32]
      have hRR := HR.out
      rw [List.drop_eq_getElem_cons hlt, hln] at hRR
      simp only [readH] at hRR
      have hrest : r.drop (k + 1) = [] ↔ k + 1 = r.length := by rw [List.drop_eq_nil_iff]; omega
      obtain ⟨q, hq⟩ : ∃ q, cutL ln [58, 32] = q := ⟨_, rfl⟩
      rw [hq] at hRR hcut cl1 cl2
      obtain ⟨n, v, okc⟩ := q
      dsimp only at hRR hcut cl1 cl2
      have hcut' : ∀ w, Env w → Calls Tryz.prog 55 #[.string ⟨ln.toArray⟩, .string ⟨#[58, 32]⟩] w (RetV (.tuple #[.string ⟨n.toArray⟩, .string ⟨v.toArray⟩, .bool okc]) w) := hcut
      have hnl : n.length ≤ 536870912 := by omega
      have hvl : v.length ≤ 536870912 := by omega
      have hw : wrap64 ((r.length : Int) + 1 - 2) = (r.length : Int) - 1 := by unfold wrap64; omega
      obtain ⟨g1, hg1⟩ : ∃ g, (n == [99, 111, 110, 116, 101, 110, 116, 45, 108, 101, 110, 103, 116, 104]) = g := ⟨_, rfl⟩
      have HRR := Lib.hid hRR
      have HREST := Lib.hid hrest
      clear hcut hq hRR hrest cl1 cl2 c1 hln hlnl
      obtain ⟨lb, hlb⟩ : ∃ x, (decide (k + 1 = r.length) && g1) = x := ⟨_, rfl⟩
      have HLB : Hid (lb = true ↔ (r.drop (k + 1) = [] ∧ n = clK)) := Lib.hid (by
        rw [HREST.out, ← hlb, ← hg1, Bool.and_eq_true, decide_eq_true_eq, beq_iff_eq]; exact Iff.rfl)
      have HL1 := Lib.hid hlb
      clear hlb HREST
      go_upto_region 15 with (go_at_call 55; refine (hcut' _ (HE.out.below HWr.out)).mono ?_; rintro e wa ⟨rfl, hba⟩; obtain ⟨wb, hwb⟩ : ∃ wb, wa.alloc (.cells #[.string ⟨n.toArray⟩, .string ⟨v.toArray⟩] 44) = wb := ⟨_, rfl⟩)
      have hbb : Below wa.heap.size wa wb := by rw [← hwb]; exact (Below.refl _ _).alloc (Nat.le_refl _) _
      have hbc := hba.trans (hbb.mono hba.size)
      have HPb : Hid (wa.heap.size < wb.heap.size) := Lib.hid (by rw [← hwb]; simp)
      have HP := Lib.hid (pair_at wa (.string ⟨n.toArray⟩) (.string ⟨v.toArray⟩) 44 _ rfl)
      rw [hwb] at HP
      have HBb := Lib.hid (HBr.out.trans (hbc.mono HBr.out.size))
      have HOb := Lib.hid (HO.out.below hbc (Nat.le_refl _))
      have HAb := Lib.hid (HA.out.below hbc (Nat.lt_of_lt_of_le HS5.out HSr.out))
      have HSb := Lib.hid (Nat.le_trans HSr.out hbc.size)
      clear hba hbb hbc hwb k0 k1 k2 z0 z1 z2 j0 j1 j2 a0 a1 a2 x0 x1 x2 d1 hcut'
      go_cut [11, 17, 46] from 47 to 109 (fun s11 s17 s46 wq => s11 = .int .i64 (k : Int) ∧ s46 = .int .i64 (k : Int) ∧ s17 = .bool lb ∧ wb = wq)
      case first =>
        by_cases hlast : k + 1 = r.length
        · have hlk : ((k : Int) == (r.length : Int) - 1) = true := by rw [beq_iff_eq]; omega
          go_wp2_with fail
          go_meet
          case rel => exact ⟨by congr 1; omega, by congr 1; omega, by have := HL1.out; rw [← this]; simp [hlast], rfl⟩
        · have hlk : ((k : Int) == (r.length : Int) - 1) = false := beq_false_of_ne (by omega)
          go_wp2_with fail
          go_meet
          case rel => exact ⟨rfl, rfl, by have := HL1.out; rw [← this]; simp [hlast], rfl⟩
      case rest =>
      obtain ⟨rfl, rfl, rfl, rfl⟩ := hcut
      clear hg1 HL1 hw
      go_upto_if 69 with fail
      go_cut [10, 15] from 47 to 109 (fun s10 s15 wq => ∃ (kf : Bool) (len' : List UInt8) (hs' : List Hdr) (D' : Option Addr) (dc' N : Nat), s15 = .bool kf ∧ s10 = .string ⟨len'.toArray⟩ ∧ hs'.length = N ∧ N ≤ k + 1 ∧ Hid (OwnH wq w5.heap.size (.slice D' N dc') hs') ∧ Hid (B3 wq w4.heap.size (.int .i64 st) (.slice D' N dc') (.string ⟨body.toArray⟩)) ∧ Hid (Below w4.heap.size w4 wq) ∧ Hid (w5.heap.size ≤ wq.heap.size) ∧ Hid ((if kf = true ∧ k < 32 then finR st T body (readH (r.drop (k + 1)) (k + 1) hs' len') else .error 141) = X))
      case first =>
        have hX3 := HRR.out
        obtain ⟨p0, p1⟩ := HP.out
        obtain ⟨f0, f1, f2, t0, t1, t2⟩ := HAb.out
        cases lb
        case false =>
          rw [if_neg (fun h => by have := HLB.out.2 h; cases this)] at hX3
          have HX3 := Lib.hid hX3
          clear hX3
          cases okc
          case false =>
            have HEQ : (if false = true ∧ k < 32 then finR st T body (readH (r.drop (k + 1)) (k + 1) (hs ++ [(n, v)]) len) else .error 141) = X := (finR_if (by simp)).symm.trans HX3.out
            have HEQ' := Lib.hid HEQ
            clear HEQ
            have HBf := HBb
            have HOf := HOb
            have HAf := HAb
            have HSf := HSb
            go_wp2_with (at_builtin; refine wpList_appH (h1 := (n, v)) rfl (.tmp 97) (.tmp 99) rfl rfl (HOf.out.below ((Below.refl _ _).alloc (Nat.le_refl _) _) (Nat.le_refl _)) rfl (pair_at _ _ _ _ _ (by simp)).1 (pair_at _ _ _ _ _ (by simp)).2 (by omega) (by have := HSf.out; simp; omega) ?_; intro v' w6 ho hb6; have hsz6 : w5.heap.size ≤ w6.heap.size := Nat.le_trans (by have := HSf.out; simp; omega) hb6.size; obtain ⟨D6, c6, hform⟩ := (ho.hdrs (by simp; omega)).form; rw [show (hs ++ [(n, v)]).length = hs.length + 1 by simp] at hform; subst hform; have HO6 := Lib.hid ho; have HB6 := Lib.hid ((HBf.out.alloc HBf.out.size (.cells #[.string ⟨n.toArray⟩, .string ⟨v.toArray⟩] 44)).trans (hb6.mono (Nat.le_of_lt HS5.out))); have A6 := Lib.hid ((HAf.out.below ((Below.refl _ _).alloc (Nat.le_refl _) (.cells #[.string ⟨n.toArray⟩, .string ⟨v.toArray⟩] 44)) (by have := HSf.out; have := HS5.out; simp; omega)).below hb6 HS5.out); obtain ⟨u0, u1, u2, s0, s1, s2⟩ := A6.out; clear ho hb6)
            have HEQ := HEQ'.out
            go_meet
            case rel => exact ⟨_, len, hs ++ [(n, v)], D6, c6, hs.length + 1, rfl, rfl, by simp, by omega, Lib.hid (HO6.out.setCell (p := ⟨w4.heap.size, 1, none⟩) HS5.out _), Lib.hid (A6.out.set1 _), Lib.hid (HB6.out.setCell (p := ⟨w4.heap.size, 1, none⟩) (Nat.le_refl _) _), Lib.hid (by simpa using hsz6), Lib.hid HEQ⟩
          case true =>
            have hfd := fun w => field_any n v w (by omega) (by omega)
            obtain ⟨fl, hfl⟩ : ∃ g, fieldL (n, v) = g := ⟨_, rfl⟩
            have hX4 := HX3.out
            rw [hfl] at hfd hX4
            clear hfl
            have HEQ' : Hid ((if fl = true ∧ k < 32 then finR st T body (readH (r.drop (k + 1)) (k + 1) (hs ++ [(n, v)]) len) else .error 141) = X) := Lib.hid ((finR_if (by simp)).symm.trans hX4)
            clear hX4
            go_wp2_with (first | (go_at_call 53; refine (hfd _).mono ?_; rintro e wf ⟨rfl, hbf⟩; have HBf := Lib.hid (HBb.out.trans (hbf.mono HBb.out.size)); have HOf := Lib.hid (HOb.out.below hbf (Nat.le_refl _)); have HAf := Lib.hid (HAb.out.below hbf (Nat.lt_of_lt_of_le HS5.out HSb.out)); have HSf := Lib.hid (Nat.le_trans HSb.out hbf.size); obtain ⟨f0, f1, f2, t0, t1, t2⟩ := HAf.out; have p0' := (hbf.cell (p := ⟨wa.heap.size, 0, none⟩) HPb.out).trans p0; have p1' := (hbf.cell (p := ⟨wa.heap.size, 1, none⟩) HPb.out).trans p1; clear hbf) | (at_builtin; refine wpList_appH (h1 := (n, v)) rfl (.tmp 97) (.tmp 99) rfl rfl (HOf.out.below ((Below.refl _ _).alloc (Nat.le_refl _) _) (Nat.le_refl _)) rfl (pair_at _ _ _ _ _ (by simp)).1 (pair_at _ _ _ _ _ (by simp)).2 (by omega) (by have := HSf.out; simp; omega) ?_; intro v' w6 ho hb6; have hsz6 : w5.heap.size ≤ w6.heap.size := Nat.le_trans (by have := HSf.out; simp; omega) hb6.size; obtain ⟨D6, c6, hform⟩ := (ho.hdrs (by simp; omega)).form; rw [show (hs ++ [(n, v)]).length = hs.length + 1 by simp] at hform; subst hform; have HO6 := Lib.hid ho; have HB6 := Lib.hid ((HBf.out.alloc HBf.out.size (.cells #[.string ⟨n.toArray⟩, .string ⟨v.toArray⟩] 44)).trans (hb6.mono (Nat.le_of_lt HS5.out))); have A6 := Lib.hid ((HAf.out.below ((Below.refl _ _).alloc (Nat.le_refl _) (.cells #[.string ⟨n.toArray⟩, .string ⟨v.toArray⟩] 44)) (by have := HSf.out; have := HS5.out; simp; omega)).below hb6 HS5.out); obtain ⟨u0, u1, u2, s0, s1, s2⟩ := A6.out; clear ho hb6))
            have HEQ := HEQ'.out
            go_meet
            case rel => exact ⟨_, len, hs ++ [(n, v)], D6, c6, hs.length + 1, rfl, rfl, by simp, by omega, Lib.hid (HO6.out.setCell (p := ⟨w4.heap.size, 1, none⟩) HS5.out _), Lib.hid (A6.out.set1 _), Lib.hid (HB6.out.setCell (p := ⟨w4.heap.size, 1, none⟩) (Nat.le_refl _) _), Lib.hid (by simpa using hsz6), Lib.hid HEQ⟩
        case true =>
          rw [if_pos (HLB.out.1 rfl)] at hX3
          have HX3 := Lib.hid hX3
          clear hX3
          go_wp2_with fail
          (go_at_call 57; refine (atoi_any v (by omega) _ (HER.out.below (HB4.out.trans (HBb.out.mono HB4.out.size)))).mono ?_; rintro e wt ⟨hbt, hto⟩)
          have HBt := Lib.hid (HBb.out.trans (hbt.mono HBb.out.size))
          have HOt := Lib.hid (HOb.out.below hbt (Nat.le_refl _))
          have HAt := Lib.hid (HAb.out.below hbt (Nat.lt_of_lt_of_le HS5.out HSb.out))
          have HSt := Lib.hid (Nat.le_trans HSb.out hbt.size)
          clear hbt
          rcases hto with ⟨m, rfl, hm, hm1, hm2⟩ | ⟨m, ti, pi, rfl, hm⟩
          · have HM : Hid (atoiOk v = (decide (0 ≤ m) && (Lib.itoa m == v))) := Lib.hid (by unfold atoiOk; rw [hm])
            clear hm
            cases okc
            case false =>
              go_wp2_with fail
              go_meet
              case rel => exact ⟨false, v, hs, D, dc, hs.length, rfl, rfl, rfl, by omega, HOt, HAt, HBt, HSt, Lib.hid ((finR_if (by simp)).symm.trans HX3.out)⟩
            case true =>
              obtain ⟨J, hJ⟩ : ∃ x, Lib.itoa m = x := ⟨_, rfl⟩
              have hib := fun w => itoa_any m hm1 hm2 w
              rw [hJ] at hib HM
              clear hJ
              by_cases hm0 : 0 ≤ m
              · have HX4 : Hid ((if (J == v) = true ∧ k < 32 then finR st T body (readH (r.drop (k + 1)) (k + 1) hs v) else .error 141) = X) := Lib.hid ((finR_if (by rw [HM.out]; simp [hm0])).symm.trans HX3.out)
                go_wp2_with (go_at_call 58; refine (hib _ (HT.out.below (HB4.out.trans (HBt.out.mono HB4.out.size)))).mono ?_; rintro e wi ⟨rfl, hbi⟩)
                go_meet
                case rel => exact ⟨_, v, hs, D, dc, hs.length, rfl, rfl, rfl, by omega, Lib.hid (HOt.out.below hbi (Nat.le_refl _)), Lib.hid (HAt.out.below hbi (Nat.lt_of_lt_of_le HS5.out HSt.out)), Lib.hid (HBt.out.trans (hbi.mono HBt.out.size)), Lib.hid (Nat.le_trans HSt.out hbi.size), HX4⟩
              · have HX4 : Hid ((if false = true ∧ k < 32 then finR st T body (readH (r.drop (k + 1)) (k + 1) hs v) else .error 141) = X) := Lib.hid ((finR_if (by rw [HM.out]; simp [hm0])).symm.trans HX3.out)
                go_wp2_with fail
                go_meet
                case rel => exact ⟨false, v, hs, D, dc, hs.length, rfl, rfl, rfl, by omega, HOt, HAt, HBt, HSt, HX4⟩
          · have HX4 : Hid ((if false = true ∧ k < 32 then finR st T body (readH (r.drop (k + 1)) (k + 1) hs v) else .error 141) = X) := Lib.hid ((finR_if (by rw [hm]; simp)).symm.trans HX3.out)
            clear hm
            cases okc
            case false =>
              go_wp2_with fail
              go_meet
              case rel => exact ⟨false, v, hs, D, dc, hs.length, rfl, rfl, rfl, by omega, HOt, HAt, HBt, HSt, HX4⟩
            case true =>
              go_wp2_with fail
              go_meet
              case rel => exact ⟨false, v, hs, D, dc, hs.length, rfl, rfl, rfl, by omega, HOt, HAt, HBt, HSt, HX4⟩
      case rest =>
      obtain ⟨kf, len', hs', D', dc', N, rfl, rfl, hN, hNk, HOq, HAq, HBq, HSq, HXq⟩ := hcut
      subst hN
      have HWq := Lib.hid (HB4.out.trans (HBq.out.mono HB4.out.size))
      have KQ := Lib.hid (K4.out.below HBq.out HK4.out)
      have JQ := Lib.hid (J4.out.below HBq.out HJ4.out)
      obtain ⟨k0, k1, k2, z0, z1, z2⟩ := KQ.out
      obtain ⟨j0, j1, j2, -, -, -⟩ := JQ.out
      clear HRR HLB HPb HP HBb HOb HAb HSb HO HA HBr HSr HR HWr KR JR
      cases kf
      case false =>
        have HF : Hid (X = .error 141) := Lib.hid (by rw [← HXq.out, if_neg (by simp)])
        go_wp2_with fail
        obtain ⟨e0, e1, e2, -, -, -⟩ := KQ.out.set (.int .i64 0) (.slice none 0 0) (.string ⟨#[]⟩)
        refine bodyPost_ret (by simp [results, Tryz.results30, go_sem, e0, e1, e2]; try rfl) rfl ?_
        exact ⟨((HWq.out.setCell (Nat.le_refl _) _).setCell (Nat.le_refl _) _).setCell (Nat.le_refl _) _, by rw [HF.out]⟩
      case true =>
      by_cases hk2 : k < 32
      case neg =>
        have hk3 : (32 : Int) ≤ (k : Int) := by omega
        have HF : Hid (X = .error 141) := Lib.hid (by rw [← HXq.out, if_neg (by simp; omega)])
        go_wp2_with fail
        obtain ⟨e0, e1, e2, -, -, -⟩ := KQ.out.set (.int .i64 0) (.slice none 0 0) (.string ⟨#[]⟩)
        refine bodyPost_ret (by simp [results, Tryz.results30, go_sem, e0, e1, e2]; try rfl) rfl ?_
        exact ⟨((HWq.out.setCell (Nat.le_refl _) _).setCell (Nat.le_refl _) _).setCell (Nat.le_refl _) _, by rw [HF.out]⟩
      have hk3 : ¬ (32 : Int) ≤ (k : Int) := by omega
      have hX5 := HXq.out
      rw [if_pos ⟨rfl, hk2⟩] at hX5
      have HX5 := Lib.hid hX5
      clear hX5 HXq
      go_wp2_with fail
      go_roundw
      case rel => exact ⟨k + 1, len', hs', D', dc', rfl, by go_num, by omega, by omega, by omega, HOq, HAq, HBq, HSq, HX5⟩
      case measure => simp [intOf]; omega
    · have hR : finR st T body (.ok (hs, len)) = X := by
        have := HR.out
        rw [List.drop_of_length_le (by omega)] at this
        exact this
      unfold finR at hR
      simp only at hR
      have hib := fun w => itoa_any (body.length : Int) (by omega) (by have := HBL.out; omega) w
      obtain ⟨J, hJ⟩ : ∃ x, Lib.itoa (body.length : Int) = x := ⟨_, rfl⟩
      rw [hJ] at hR hib
      obtain ⟨g, hg⟩ : ∃ g, (len == J) = g := ⟨_, rfl⟩
      have hg' : (len != J) = !g := by rw [bne, hg]
      have HG := Lib.hid hg
      cases g
      case false =>
        have HF : Hid (X = .error 142) := Lib.hid (by rw [← hR, if_pos (.inl (by have := HG.out; simpa using this))])
        clear hR
        go_wp2_with (go_at_call 58; refine (hib _ (HT.out.below HWr.out)).mono ?_; rintro e w6 ⟨rfl, hb6⟩; have HW6 := Lib.hid (HWr.out.trans (hb6.mono HWr.out.size)); have K6 := Lib.hid (KR.out.below hb6 (Nat.lt_of_lt_of_le HK4.out HBr.out.size)); obtain ⟨m0, m1, m2, y0, y1, y2⟩ := K6.out; obtain ⟨n0, n1, n2, -, -, -⟩ := JR.out.below hb6 (Nat.lt_of_lt_of_le HJ4.out HBr.out.size); clear hb6)
        go_wp2_with fail
        obtain ⟨e0, e1, e2, -, -, -⟩ := K6.out.set (.int .i64 0) (.slice none 0 0) (.string ⟨#[]⟩)
        refine bodyPost_ret (by simp [results, Tryz.results30, go_sem, e0, e1, e2]; try rfl) rfl ?_
        exact ⟨((HW6.out.setCell (Nat.le_refl _) _).setCell (Nat.le_refl _) _).setCell (Nat.le_refl _) _, by rw [HF.out]⟩
      case true =>
      have hlj : len = J := by have := HG.out; simpa using this
      by_cases hb4 : 4096 < body.length
      · have hb4' : (4096 : Int) < (body.length : Int) := by omega
        have HF : Hid (X = .error 142) := Lib.hid (by rw [← hR, if_pos (.inr hb4)])
        clear hR hlj
        go_wp2_with (go_at_call 58; refine (hib _ (HT.out.below HWr.out)).mono ?_; rintro e w6 ⟨rfl, hb6⟩; have HW6 := Lib.hid (HWr.out.trans (hb6.mono HWr.out.size)); have K6 := Lib.hid (KR.out.below hb6 (Nat.lt_of_lt_of_le HK4.out HBr.out.size)); obtain ⟨m0, m1, m2, y0, y1, y2⟩ := K6.out; obtain ⟨n0, n1, n2, -, -, -⟩ := JR.out.below hb6 (Nat.lt_of_lt_of_le HJ4.out HBr.out.size); have A6 := Lib.hid (HA.out.below hb6 (Nat.lt_of_lt_of_le HS5.out HSr.out)); obtain ⟨o0, o1, o2, -, -, -⟩ := A6.out; have HO6 := Lib.hid (HO.out.below hb6 (Nat.le_refl _)); clear hb6)
        go_wp2_with fail
        obtain ⟨e0, e1, e2, -, -, -⟩ := K6.out.set (.int .i64 0) (.slice none 0 0) (.string ⟨#[]⟩)
        refine bodyPost_ret (by simp [results, Tryz.results30, go_sem, e0, e1, e2]; try rfl) rfl ?_
        exact ⟨((HW6.out.setCell (Nat.le_refl _) _).setCell (Nat.le_refl _) _).setCell (Nat.le_refl _) _, by rw [HF.out]⟩
      have hb4' : ¬ (4096 : Int) < (body.length : Int) := by omega
      have hno : ¬ (len ≠ J ∨ 4096 < body.length) := by rintro (h | h); exact h hlj; exact hb4 h
      rw [if_neg hno] at hR
      clear hno hlj
      by_cases ht6 : 65536 < T.length
      · have ht6' : (65536 : Int) < (T.length : Int) := by omega
        have HF : Hid (X = .error 4) := Lib.hid (by rw [← hR, if_pos ht6])
        clear hR
        go_wp2_with (go_at_call 58; refine (hib _ (HT.out.below HWr.out)).mono ?_; rintro e w6 ⟨rfl, hb6⟩; have HW6 := Lib.hid (HWr.out.trans (hb6.mono HWr.out.size)); have K6 := Lib.hid (KR.out.below hb6 (Nat.lt_of_lt_of_le HK4.out HBr.out.size)); obtain ⟨m0, m1, m2, y0, y1, y2⟩ := K6.out; obtain ⟨n0, n1, n2, -, -, -⟩ := JR.out.below hb6 (Nat.lt_of_lt_of_le HJ4.out HBr.out.size); have A6 := Lib.hid (HA.out.below hb6 (Nat.lt_of_lt_of_le HS5.out HSr.out)); obtain ⟨o0, o1, o2, -, -, -⟩ := A6.out; have HO6 := Lib.hid (HO.out.below hb6 (Nat.le_refl _)); clear hb6)
        go_wp2_with fail
        obtain ⟨e0, e1, e2, -, -, -⟩ := K6.out.set (.int .i64 0) (.slice none 0 0) (.string ⟨#[]⟩)
        refine bodyPost_ret (by simp [results, Tryz.results30, go_sem, e0, e1, e2]; try rfl) rfl ?_
        exact ⟨((HW6.out.setCell (Nat.le_refl _) _).setCell (Nat.le_refl _) _).setCell (Nat.le_refl _) _, by rw [HF.out]⟩
      have ht6' : ¬ (65536 : Int) < (T.length : Int) := by omega
      have HF : Hid (X = .ok ⟨st, hs, body⟩) := Lib.hid (by rw [← hR, if_neg ht6])
      clear hR
      go_wp2_with (go_at_call 58; refine (hib _ (HT.out.below HWr.out)).mono ?_; rintro e w6 ⟨rfl, hb6⟩; have HW6 := Lib.hid (HWr.out.trans (hb6.mono HWr.out.size)); have K6 := Lib.hid (KR.out.below hb6 (Nat.lt_of_lt_of_le HK4.out HBr.out.size)); obtain ⟨m0, m1, m2, y0, y1, y2⟩ := K6.out; obtain ⟨n0, n1, n2, -, -, -⟩ := JR.out.below hb6 (Nat.lt_of_lt_of_le HJ4.out HBr.out.size); have A6 := Lib.hid (HA.out.below hb6 (Nat.lt_of_lt_of_le HS5.out HSr.out)); obtain ⟨o0, o1, o2, -, -, -⟩ := A6.out; have HO6 := Lib.hid (HO.out.below hb6 (Nat.le_refl _)); clear hb6)
      go_wp2_with fail
      obtain ⟨e0, e1, e2, -, -, -⟩ := K6.out.set (.int .i64 st) (.slice D hs.length dc) (.string ⟨body.toArray⟩)
      refine bodyPost_ret (by simp [results, Tryz.results30, go_sem, e0, e1, e2]; try rfl) rfl ?_
      refine ⟨((HW6.out.setCell (Nat.le_refl _) _).setCell (Nat.le_refl _) _).setCell (Nat.le_refl _) _, ?_⟩
      rw [HF.out]
      exact ⟨_, rfl, (((HO6.out.setCell (p := ⟨w.heap.size, 0, none⟩) (Nat.lt_trans HK4.out HS5.out) _).setCell (p := ⟨w.heap.size, 1, none⟩) (Nat.lt_trans HK4.out HS5.out) _).setCell (p := ⟨w.heap.size, 2, none⟩) (Nat.lt_trans HK4.out HS5.out) _).hdrs (by omega)⟩
end Go.Proofs.YtidhemjnchonaaaGreatDoor
