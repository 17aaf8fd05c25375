/- Contracts of the document's above: aboveE; of items: itemsF. -/
import Derived.Test.YtpdedfpacklnoaaGreatDoorTzRfA
import Derived.BigQuiet
set_option maxRecDepth 100000
namespace Go.Proofs.YtpdedfpacklnoaaGreatDoor
open Go.RowKit Go.BL Go.Ct Go.Sl

theorem less_lt : ∀ a b : List UInt8, a ≠ b → (!Op.bytesLess a b) = ltT b a
 | [], [], h => absurd rfl h
 | [], _ :: _, _ => rfl
 | _ :: _, [], _ => rfl
 | x :: r, y :: t, h => by
  unfold Op.bytesLess ltT
  by_cases e : x = y
  ·subst e
   rw [if_pos rfl, ← less_lt r t (fun e => h (by rw [e]))]
   have h1 : decide (x < x) = false := decide_eq_false (fun h => by have := UInt8.lt_iff_toNat_lt.1 h; omega)
   have h2 : (x == x) = true := by simp
   rw [h1, h2]; rfl
  ·rw [if_neg (fun e2 => e e2.symm), show (x == y) = false from beq_false_of_ne e, Bool.false_and, Bool.or_false]
   rw [Bool.eq_iff_iff]
   have : x.toNat ≠ y.toNat := fun e2 => e (UInt8.toNat_inj.1 e2)
   simp only [Bool.not_eq_true', decide_eq_false_iff_not, decide_eq_true_eq, UInt8.lt_iff_toNat_lt]
   omega
set_option maxHeartbeats 2000000 in
theorem aboveR_any (a b : En) (w : World) : Calls Tryz.prog 44 #[entV a, entV b] w (RetV (.bool (aboveE a b)) w) := by
 obtain ⟨i, ⟨n, l, c⟩, q, p⟩ := a
 obtain ⟨i', ⟨n', l', c'⟩, q', p'⟩ := b
 dsimp only [entV]
 obtain ⟨w0, hw0⟩ : ∃ x, (w.alloc (.cells #[.string ⟨i.toArray⟩, .int .i64 n, .int .i64 l, .int .i64 c, .int .i64 q, .int .u64 (p : Int)] 92)).alloc (.cells #[.string ⟨i'.toArray⟩, .int .i64 n', .int .i64 l', .int .i64 c', .int .i64 q', .int .u64 (p' : Int)] 92) = x := ⟨_, rfl⟩
 have HB : Hid (Below w.heap.size w w0) := Lib.hid (by rw [← hw0]; exact ((Below.refl w.heap.size w).alloc (Nat.le_refl _) _).alloc (by simp) _)
 have HA : Hid (Bk w0 w.heap.size [.string ⟨i.toArray⟩, .int .i64 n, .int .i64 l, .int .i64 c, .int .i64 q, .int .u64 (p : Int)]) := Lib.hid (by rw [← hw0]; exact (Bk.new w _ 92 rfl).alloc _ (by simp))
 have HB' : Hid (Bk w0 (w.heap.size + 1) [.string ⟨i'.toArray⟩, .int .i64 n', .int .i64 l', .int .i64 c', .int .i64 q', .int .u64 (p' : Int)]) := Lib.hid (by rw [← hw0]; exact Bk.new (w.alloc _) _ 92 (by simp))
 have a0 := (HA.out 0 _ rfl).1
 have a1 := (HA.out 1 _ rfl).1
 have a2 := (HA.out 2 _ rfl).1
 have a3 := (HA.out 3 _ rfl).1
 have b0 := (HB'.out 0 _ rfl).1
 have b1 := (HB'.out 1 _ rfl).1
 have b2 := (HB'.out 2 _ rfl).1
 have b3 := (HB'.out 3 _ rfl).1
 by_cases h : i = i'
 case neg =>
  have g0 : (i != i') = true := bne_iff_ne.2 h
  have g0' : (i == i') = false := beq_false_of_ne h
  have HV : Hid (aboveE ⟨i, ⟨n, l, c⟩, q, p⟩ ⟨i', ⟨n', l', c'⟩, q', p'⟩ = ltT i' i) := Lib.hid (by unfold aboveE; dsimp only; rw [if_pos h])
  have HL := Lib.hid (less_lt i i' h)
  clear h
  go_enter Tryz.func44, Tryz.ntmps44
  go_wp2_with fail
  go_ret
  exact ⟨by rw [HV.out, ← HL.out]; rfl, HB.out⟩
 subst h
 have g0 : (i != i) = false := by simp
 have HV : Hid (aboveE ⟨i, ⟨n, l, c⟩, q, p⟩ ⟨i, ⟨n', l', c'⟩, q', p'⟩ = belowD ⟨n', l', c'⟩ ⟨n, l, c⟩) := Lib.hid (by unfold aboveE; dsimp only; rw [if_neg (by simp)])
 have hbe := fun w => belowR_any ⟨n', l', c'⟩ ⟨n, l, c⟩ w
 obtain ⟨bb, hbb⟩ : ∃ x, belowD ⟨n', l', c'⟩ ⟨n, l, c⟩ = x := ⟨_, rfl⟩
 rw [hbb] at hbe HV
 dsimp only [dotV] at hbe
 clear hbb
 go_enter Tryz.func44, Tryz.ntmps44
 go_wp2_with (go_at_call 92; refine (hbe _).mono ?_; rintro e w2 ⟨rfl, hb⟩; have HB2 := Lib.hid (HB.out.trans (hb.mono HB.out.size)); clear hb)
 go_ret
 exact ⟨by rw [HV.out]; rfl, HB2.out⟩
/-- The item of the one ahead of the k-th. -/
def prvI (l : List En) : Nat → Option (List UInt8)
 | 0 => none
 | k + 1 => (l[k]?).map En.it
theorem prvI_succ {l : List En} {k : Nat} (h : k < l.length) : prvI l (k + 1) = some l[k].it := by show (l[k]?).map En.it = _; rw [List.getElem?_eq_getElem h]; rfl
theorem itemsF_le : ∀ (l : List En) (p : Option (List UInt8)), itemsF p l ≤ l.length
 | [], p => by cases p <;> exact Nat.le_refl 0
 | e :: r, none => by show 1 + itemsF (some e.it) r ≤ r.length + 1; have := itemsF_le r (some e.it); omega
 | e :: r, some s => by show (if s = e.it then 0 else 1) + itemsF (some e.it) r ≤ r.length + 1; have := itemsF_le r (some e.it); split <;> omega
set_option maxHeartbeats 4000000 in
theorem itemsR_any (es : List En) (v : Value) (w : World) (he : Ents w v es) : Calls Tryz.prog 45 #[v] w (RetV (.int .i64 ((itemsF none es : Nat) : Int)) w) := by
 obtain ⟨A, cp, rfl⟩ := he.form
 have hmx := he.1
 have HE := Lib.hid he
 clear he
 go_enter Tryz.func45, Tryz.ntmps45
 go_wp2_with fail
 go_loopw [3, 8] (fun a j wr => ∃ k n : Nat, k ≤ es.length ∧ n ≤ k ∧ a = .int .i64 (n : Int) ∧ j = .int .i64 (k : Int) ∧ Hid (Below w.heap.size w wr) ∧ Hid (n + itemsF (prvI es k) (es.drop k) = itemsF none es)) (fun _ j _ => es.length - (intOf j).toNat)
 case atStart => exact ⟨0, 0, by omega, by omega, rfl, rfl, Lib.hid (Below.refl _ _), Lib.hid (by simp [prvI])⟩
 case round =>
  obtain ⟨k, n, hk, hnk, rfl, rfl, HR, HN⟩ := hrel
  by_cases hlt : k < es.length
  ·obtain ⟨b, off, rfl, hbl, hcc⟩ := ent_cells HE.out (by omega)
   obtain ⟨c0, c1, c2, c3, c4, c5⟩ := hcc k hlt
   have HCC := Lib.hid hcc
   obtain ⟨⟨eit, ⟨dn, dl, dc⟩, eq, ep⟩, hx⟩ : ∃ x, es[k]'hlt = x := ⟨_, rfl⟩
   have hd : itemsF (prvI es k) (es.drop k) = (match prvI es k with | none => 1 | some s => if s = eit then 0 else 1) + itemsF (prvI es (k + 1)) (es.drop (k + 1)) := by
    rw [List.drop_eq_getElem_cons hlt, prvI_succ hlt, hx]
    cases prvI es k <;> rfl
   have HD := Lib.hid hd
   rw [hx] at c0 c1 c2 c3 c4 c5
   dsimp only at c0 c1 c2 c3 c4 c5
   have d0 := old_cell HR.out hbl c0
   have d1 := old_cell HR.out hbl c1
   have d2 := old_cell HR.out hbl c2
   have d3 := old_cell HR.out hbl c3
   have d4 := old_cell HR.out hbl c4
   have d5 := old_cell HR.out hbl c5
   have HBL := Lib.hid hbl
   clear hcc c0 c1 c2 c3 c4 c5 hx hbl hd
   obtain ⟨w2, hw2⟩ : ∃ w2, wr.alloc (.cells #[.string ⟨eit.toArray⟩, .int .i64 dn, .int .i64 dl, .int .i64 dc, .int .i64 eq, .int .u64 (ep : Int)] 92) = w2 := ⟨_, rfl⟩
   have HB2 : Hid (Below w.heap.size w w2) := Lib.hid (by rw [← hw2]; exact HR.out.alloc HR.out.size _)
   have HBK : Hid (Bk w2 wr.heap.size [.string ⟨eit.toArray⟩, .int .i64 dn, .int .i64 dl, .int .i64 dc, .int .i64 eq, .int .u64 (ep : Int)]) := Lib.hid (by rw [← hw2]; exact Bk.new wr _ 92 rfl)
   go_upto_region 5 with fail
   clear hw2 d0 d1 d2 d3 d4 d5
   have x0 := (HBK.out 0 _ rfl).1
   rcases Nat.eq_zero_or_pos k with h0 | h0
   ·subst h0
    have hn0 : n = 0 := by omega
    subst hn0
    go_quiet (fail)
    go_wp2_with fail
    exact ⟨⟨0 + 1, 0 + 1, by omega, by omega, by go_num, by go_num, Lib.hid (H.below_drewN HB2.out _), Lib.hid (by have := HN.out; rw [HD.out] at this; simp only [prvI] at this ⊢; omega)⟩, by simp [intOf]; omega⟩
   ·obtain ⟨k', rfl⟩ : ∃ k', k = k' + 1 := ⟨k - 1, by omega⟩
    have hlt' : k' < es.length := by omega
    obtain ⟨e0, _⟩ := HCC.out k' hlt'
    obtain ⟨⟨xit, xd, xq, xp⟩, hy⟩ : ∃ x, es[k']'hlt' = x := ⟨_, rfl⟩
    have hp : prvI es (k' + 1) = some xit := by rw [prvI_succ hlt', hy]
    rw [hy] at e0
    dsimp only at e0
    have z0 := old_cell HB2.out HBL.out e0
    have HP := Lib.hid hp
    have hw : IntKind.i64.wrap (k' : Int) = (k' : Int) := by rw [IntKind.wrap_i64]; omega
    have hg0 : ((k' : Int) + 1 == 0) = false := beq_false_of_ne (by omega)
    clear hy hp e0 h0
    by_cases h1 : xit = eit
    ·subst h1
     have h1' : (xit != xit) = false := by simp
     go_quiet (fail)
     go_wp2_with fail
     exact ⟨⟨k' + 1 + 1, n, by omega, by omega, rfl, by go_num, Lib.hid (H.below_drewN HB2.out _), Lib.hid (by have := HN.out; rw [HD.out, HP.out] at this; simp only [if_true] at this; omega)⟩, by simp [intOf]; omega⟩
    ·have h1' : (xit != eit) = true := bne_iff_ne.2 h1
     have h1'' : (xit == eit) = false := beq_false_of_ne h1
     have HH := Lib.hid h1
     clear h1
     go_quiet (fail)
     go_wp2_with fail
     exact ⟨⟨k' + 1 + 1, n + 1, by omega, by omega, by go_num, by go_num, Lib.hid (H.below_drewN HB2.out _), Lib.hid (by have := HN.out; rw [HD.out, HP.out] at this; dsimp only at this; rw [if_neg HH.out] at this; omega)⟩, by simp [intOf]; omega⟩
  ·have HV : Hid (n = itemsF none es) := Lib.hid (by have := HN.out; rw [List.drop_of_length_le (by omega)] at this; rw [← this]; cases prvI es k <;> rfl)
   go_wp2_with fail
   go_ret
   exact ⟨by rw [← HV.out]; rfl, HR.out⟩
end Go.Proofs.YtpdedfpacklnoaaGreatDoor
