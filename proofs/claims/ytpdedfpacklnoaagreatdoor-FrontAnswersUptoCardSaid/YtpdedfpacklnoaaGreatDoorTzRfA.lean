/- Contract of the document's IsName: isName. Contracts of the document's small questions: pieces, price, rank, a dot, a mark, below, a name. Contracts of the document's mark: markOf; of above: aboveE. -/
import Derived.Test.YtpdedfpacklnoaaGreatDoorTzFbP
set_option maxRecDepth 100000
namespace Go.Proofs.YtpdedfpacklnoaaGreatDoor
open Go.RowKit Go.BL Go.Ct Go.Sl Go.Wr

set_option maxHeartbeats 2000000 in
theorem isName_bytes (s : ByteArray) (w : World) (hs : s.size ≤ 9223372036854775807) : Calls Tryz.prog 40 #[.string s] w fun e w' => e = .returned (.bool (I.isKey (I.bl s))) ∧ w = w' := by
 by_cases h0 : s = .empty
 ·subst h0
  go_enter Tryz.func40, Tryz.ntmps40
  go_wp2
  go_ret
  exact ⟨rfl, rfl⟩
 have hne : ¬ s.toList = [] := fun h => h0 (by
  have h1 : s.size = 0 := by rw [← show s.toList.length = s.size by rw [ByteArray.toList_eq]; simp, h]; rfl
  exact ByteArray.size_eq_zero_iff.1 h1)
 have hie : s.toList.isEmpty = false := by
  cases h : s.toList with
  | nil => exact absurd h hne
  | cons a t => rfl
 have H0 : Hid (1 ≤ s.size) := Lib.hid (by
  rcases Nat.eq_zero_or_pos s.size with h | h
  ·exact absurd (ByteArray.size_eq_zero_iff.1 h) h0
  ·exact h)
 clear h0
 by_cases h32 : 32 < s.size
 ·have HF : Hid (I.isKey (I.bl s) = false) := Lib.hid (by unfold I.isKey; rw [I.bl_length, decide_eq_false (show ¬ s.size ≤ 32 by omega), Bool.and_false])
  go_enter Tryz.func40, Tryz.ntmps40
  go_wp2
  go_ret
  exact ⟨by rw [HF.out]; rfl, rfl⟩
 go_enter Tryz.func40, Tryz.ntmps40
 go_wp2
 go_loop [3] (fun i => ∃ k : Nat, k ≤ s.size ∧ i = .int .i64 k ∧ Hid (∀ j, j < k → I.keyByte ((I.bl s).getD j 0) = true)) (fun i => s.size - (intOf i).toNat)
 case atStart => exact ⟨0, Nat.zero_le _, rfl, Lib.hid (fun j hj => by omega)⟩
 case round =>
  obtain ⟨k, hk, rfl, Hk⟩ := hrel
  by_cases hlt : k < s.size
  ·have hck := I.bl_get s k hlt
   have hno : Hid (I.keyByte ((I.bl s).getD k 0) = false → I.isKey (I.bl s) = false) := Lib.hid (I.isKey_no (by rw [I.bl_length]; exact hlt))
   have hyes : Hid (I.keyByte ((I.bl s).getD k 0) = true → ∀ j, j < k + 1 → I.keyByte ((I.bl s).getD j 0) = true) := Lib.hid (fun h j hj => by
    rcases Nat.lt_or_ge j k with h1 | h1
    ·exact Hk.out j h1
    ·rw [show j = k by omega]; exact h)
   have hx : (I.bl s).getD k 0 < 256 := I.getD_lt (I.bl_lt s) k
   generalize (I.bl s).getD k 0 = c at *
   rcases I.cut12 c with h | rfl | rfl | rfl | ⟨h, h'⟩ | ⟨h, h'⟩ | ⟨h, h'⟩ | ⟨h, h'⟩ | rfl | rfl | ⟨h, h'⟩ | h
   all_goals
    try (have n46 : ((c : Int) == 46) = false := beq_false_of_ne (by omega)
         have n45 : ((c : Int) == 45) = false := beq_false_of_ne (by omega)
         have n95 : ((c : Int) == 95) = false := beq_false_of_ne (by omega))
   all_goals
    try have e57 : decide ((c : Int) ≤ 57) = false := decide_eq_false (by omega)
    try have e90 : decide ((c : Int) ≤ 90) = false := decide_eq_false (by omega)
    try have e122 : decide ((c : Int) ≤ 122) = false := decide_eq_false (by omega)
   all_goals go_wp2
   all_goals first
    | (exfalso; omega)
    | (go_ret
       exact ⟨I.ret_bool (hno.out (I.key_no (by omega))).symm, rfl⟩)
    | (go_round
       case rel => exact ⟨k + 1, by omega, by go_num, Lib.hid (hyes.out (I.key_yes (by omega)))⟩
       case measure => simp [intOf]; omega)
  ·obtain rfl : k = s.size := by omega
   have HA : Hid (I.isKey (I.bl s) = (decide (1 ≤ (I.bl s).length) && decide ((I.bl s).length ≤ 32))) := Lib.hid (I.isKey_all (by rw [I.bl_length]; exact Hk.out))
   go_wp2
   all_goals go_ret
   exact ⟨I.ret_bool (by rw [HA.out, I.bl_length, decide_eq_true H0.out, decide_eq_true (show s.size ≤ 32 by omega)]; rfl), rfl⟩
theorem isName_any (l : List UInt8) (hl : l.length ≤ 9223372036854775807) (w : World) : Calls Tryz.prog 40 #[.string ⟨l.toArray⟩] w fun e w' => e = .returned (.bool (isName l)) ∧ w = w' := by
 have h := isName_bytes ⟨l.toArray⟩ w hl
 have e : I.isKey (I.bl ⟨l.toArray⟩) = isName l := key_name l
 rw [e] at h
 exact h
end Go.Proofs.YtpdedfpacklnoaaGreatDoor
set_option maxRecDepth 100000
namespace Go.Proofs.YtpdedfpacklnoaaGreatDoor
open Go.RowKit Go.BL Go.Ct Go.Sl

theorem qty_any (n l : Int) (w : World) : Calls Tryz.prog 41 #[.int .i64 n, .int .i64 l] w fun e w' => e = .returned (.bool (decide (l ≤ n) && decide (n ≤ 1000000))) ∧ w = w' := by
 go_enter Tryz.func41, Tryz.ntmps41
 go_wp2
 all_goals go_ret
 all_goals (refine ⟨congrArg (fun b => Ending.returned (Value.bool b)) ?_, rfl⟩; rw [Bool.eq_iff_iff]; simp; omega)
theorem isPrice_any (p : Nat) (w : World) : Calls Tryz.prog 42 #[.int .u64 (p : Int)] w fun e w' => e = .returned (.bool (isPrice p)) ∧ w = w' := by
 unfold isPrice
 go_enter Tryz.func42, Tryz.ntmps42
 go_wp2
 all_goals go_ret
 all_goals (refine ⟨congrArg (fun b => Ending.returned (Value.bool b)) ?_, rfl⟩; rw [Bool.eq_iff_iff]; simp; omega)
theorem rank_any (p : Nat) (hp : p < 18446744073709551615) (w : World) : Calls Tryz.prog 53 #[.int .u64 (p : Int)] w fun e w' => e = .returned (.int .u64 ((rankN p : Nat) : Int)) ∧ w = w' := by
 by_cases h : p = 9223372036854775808
 ·subst h
  go_enter Tryz.func53, Tryz.ntmps53
  go_wp2
  go_ret
  exact ⟨rfl, rfl⟩
 ·have h1 : ((p : Int) == 9223372036854775808) = false := beq_false_of_ne (by omega)
  have hr : rankN p = p + 1 := if_neg h
  go_enter Tryz.func53, Tryz.ntmps53
  go_wp2
  go_ret
  refine ⟨?_, rfl⟩
  rw [hr]
  go_num
set_option maxHeartbeats 2000000 in
theorem mayR_any (d : Dt) (w : World) : Calls Tryz.prog 90 #[dotV d] w (RetV (.bool (mayD d)) w) := by
 obtain ⟨n, l, c⟩ := d
 dsimp only [dotV]
 have HB := Lib.hid ((Below.refl w.heap.size w).alloc (Nat.le_refl _) (.cells #[.int .i64 n, .int .i64 l, .int .i64 c] 90))
 go_enter Tryz.func90, Tryz.ntmps90
 go_wp2
 all_goals go_ret
 all_goals (refine ⟨congrArg (fun b => Ending.returned (Value.bool b)) ?_, HB.out⟩; unfold mayD; rw [Bool.eq_iff_iff]; simp; omega)
theorem mayMark_any (d : Dt) (w : World) : Calls Tryz.prog 89 #[dotV d] w (RetV (.bool (mayD d)) w) := by
 obtain ⟨b, hb⟩ : ∃ b, mayD d = b := ⟨_, rfl⟩
 have hm := fun w => mayR_any d w
 rw [hb] at hm ⊢
 obtain ⟨n, l, c⟩ := d
 dsimp only [dotV] at hm ⊢
 obtain ⟨w0, hw0⟩ : ∃ w0, w.alloc (.cells #[.int .i64 n, .int .i64 l, .int .i64 c] 150) = w0 := ⟨_, rfl⟩
 obtain ⟨e0, e1, e2⟩ := tri_at w (.int .i64 n) (.int .i64 l) (.int .i64 c) 150 w.heap.size rfl
 rw [hw0] at e0 e1 e2
 have HB := Lib.hid ((Below.refl w.heap.size w).alloc (Nat.le_refl _) (.cells #[.int .i64 n, .int .i64 l, .int .i64 c] 150))
 rw [hw0] at HB
 clear hb
 go_enter Tryz.func89, Tryz.ntmps89
 go_wp2_with fail
 go_at_call 90
 refine (hm _).mono ?_
 rintro e w2 ⟨rfl, hb⟩
 clear hm
 have HB2 := Lib.hid (HB.out.trans (hb.mono HB.out.size))
 clear hb
 go_wp2_with fail
 go_ret
 exact ⟨rfl, HB2.out⟩
set_option maxHeartbeats 2000000 in
theorem belowR_any (a b : Dt) (w : World) : Calls Tryz.prog 92 #[dotV a, dotV b] w (RetV (.bool (belowD a b)) w) := by
 obtain ⟨n, l, c⟩ := a
 obtain ⟨n', l', c'⟩ := b
 dsimp only [dotV]
 have HB := Lib.hid (((Below.refl w.heap.size w).alloc (Nat.le_refl _) (.cells #[.int .i64 n, .int .i64 l, .int .i64 c] 90)).alloc (by simp) (.cells #[.int .i64 n', .int .i64 l', .int .i64 c'] 90))
 by_cases h : n = n'
 case neg =>
  have g2 : (n != n') = true := bne_iff_ne.2 h
  have g3 : belowD ⟨n, l, c⟩ ⟨n', l', c'⟩ = decide (n < n') := by simp [belowD, h]
  rw [g3]
  clear h g3
  go_enter Tryz.func92, Tryz.ntmps92
  go_wp2
  all_goals go_ret
  all_goals exact ⟨rfl, HB.out⟩
 subst h
 have g0 : (n != n) = false := by simp
 by_cases h : l = l'
 case neg =>
  have g2 : (l != l') = true := bne_iff_ne.2 h
  have g3 : belowD ⟨n, l, c⟩ ⟨n, l', c'⟩ = decide (l < l') := by simp [belowD, h]
  rw [g3]
  clear h g3
  go_enter Tryz.func92, Tryz.ntmps92
  go_wp2
  all_goals go_ret
  all_goals exact ⟨rfl, HB.out⟩
 subst h
 have g1 : (l != l) = false := by simp
 have g3 : belowD ⟨n, l, c⟩ ⟨n, l, c'⟩ = decide (c < c') := by simp [belowD]
 rw [g3]
 clear g3
 go_enter Tryz.func92, Tryz.ntmps92
 go_wp2
 all_goals go_ret
 all_goals exact ⟨rfl, HB.out⟩
end Go.Proofs.YtpdedfpacklnoaaGreatDoor
set_option maxRecDepth 100000
namespace Go.Proofs.YtpdedfpacklnoaaGreatDoor
open Go.RowKit Go.BL Go.Ct Go.Sl

set_option maxHeartbeats 2000000 in
theorem markR_any (ms : List Dt) (v : Value) (n l : Int) (w : World) (hm : Dots w v ms) : Calls Tryz.prog 91 #[v, .int .i64 n, .int .i64 l] w (RetV (.int .i64 (markOf ms n l)) w) := by
 obtain ⟨A, cp, rfl⟩ := hm.form
 have HD := Lib.hid hm
 have hmx := hm.1
 clear hm
 go_enter Tryz.func91, Tryz.ntmps91
 go_wp2_with fail
 go_loopw [11] (fun i wr => ∃ k : Nat, k ≤ ms.length ∧ i = .int .i64 (k : Int) ∧ Hid (Below w.heap.size w wr) ∧ Hid (markOf (ms.drop k) n l = markOf ms n l)) (fun i _ => ms.length - (intOf i).toNat)
 case atStart => exact ⟨0, by omega, rfl, Lib.hid (Below.refl _ _), Lib.hid rfl⟩
 case round =>
  obtain ⟨k, hk, rfl, HB, HM⟩ := hrel
  by_cases hlt : k < ms.length
  ·obtain ⟨b, off, rfl, hbl, hc⟩ := dot_cells HD.out (by omega)
   obtain ⟨c1, c2, c3⟩ := hc k hlt
   obtain ⟨⟨dn, dl, dc⟩, hx⟩ : ∃ x, ms[k]'hlt = x := ⟨_, rfl⟩
   rw [hx] at c1 c2 c3
   have d1 := (HB.out.cell (p := ⟨b, off + k * 3, none⟩) hbl).trans c1
   have d2 := (HB.out.cell (p := ⟨b, off + k * 3 + 1, none⟩) hbl).trans c2
   have d3 := (HB.out.cell (p := ⟨b, off + k * 3 + 2, none⟩) hbl).trans c3
   have hd : markOf (ms.drop k) n l = if dn = n ∧ dl = l then dc else markOf (ms.drop (k + 1)) n l := by
    rw [List.drop_eq_getElem_cons hlt, hx]; rfl
   have HM2 := Lib.hid (hd.symm.trans HM.out)
   clear hc c1 c2 c3 hx hd hbl
   obtain ⟨w1, hw1⟩ : ∃ w1, wr.alloc (.cells #[.int .i64 dn, .int .i64 dl, .int .i64 dc] 150) = w1 := ⟨_, rfl⟩
   have HW1 : Hid (Below w.heap.size w w1) := Lib.hid (by rw [← hw1]; exact HB.out.alloc HB.out.size _)
   have HP : Hid (w1.cell? ⟨wr.heap.size, 0, none⟩ = some (.int .i64 dn) ∧ w1.cell? ⟨wr.heap.size, 1, none⟩ = some (.int .i64 dl) ∧ w1.cell? ⟨wr.heap.size, 2, none⟩ = some (.int .i64 dc)) := Lib.hid (by rw [← hw1]; exact tri_at wr _ _ _ 150 _ rfl)
   go_upto_region 4 with fail
   clear hw1 d1 d2 d3
   obtain ⟨p0, p1, p2⟩ := HP.out
   by_cases h1 : dn = n
   case neg =>
    have g1 : (dn == n) = false := beq_false_of_ne h1
    have HN : Hid (markOf (ms.drop (k + 1)) n l = markOf ms n l) := Lib.hid (by have := HM2.out; rwa [if_neg (fun e => h1 e.1)] at this)
    clear h1
    go_wp2_with fail
    exact ⟨⟨k + 1, by omega, by go_num, HW1, HN⟩, by simp [intOf]; omega⟩
   subst h1
   by_cases h2 : dl = l
   case neg =>
    have g2 : (dl == l) = false := beq_false_of_ne h2
    have HN : Hid (markOf (ms.drop (k + 1)) dn l = markOf ms dn l) := Lib.hid (by have := HM2.out; rwa [if_neg (fun e => h2 e.2)] at this)
    clear h2
    go_wp2_with fail
    exact ⟨⟨k + 1, by omega, by go_num, HW1, HN⟩, by simp [intOf]; omega⟩
   subst h2
   have HN : Hid (dc = markOf ms dn dl) := Lib.hid (by have := HM2.out; rwa [if_pos ⟨rfl, rfl⟩] at this)
   go_wp2_with fail
   go_ret
   exact ⟨by rw [← HN.out]; rfl, HW1.out⟩
  ·have HN : Hid (markOf ms n l = 0) := Lib.hid (by rw [← HM.out, List.drop_of_length_le (by omega)]; rfl)
   go_wp2_with fail
   go_ret
   exact ⟨by rw [HN.out]; rfl, HB.out⟩
end Go.Proofs.YtpdedfpacklnoaaGreatDoor
