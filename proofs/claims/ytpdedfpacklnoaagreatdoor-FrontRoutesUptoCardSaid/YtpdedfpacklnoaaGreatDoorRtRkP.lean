/- Plain: the document's way from letters to bytes and back, bit by bit: it is bytesL and lettersL. No program. Contracts of the document's value of a letter and of its Bytes: bytesL. -/
import Derived.Test.YtpdedfpacklnoaaGreatDoorRtMP
import Derived.Test.YtpdedfpacklnoaaGreatDoorRtTkN
namespace Go.Proofs.YtpdedfpacklnoaaGreatDoor

/-- The document's bytes of letters: what is had of n bits, and the bytes so far. -/
def bitB : List Nat → Nat → Nat → List Nat → Option (List Nat × Nat)
 | [], h, _, out => some (out, h)
 | c :: r, h, n, out => if vlt c = 64 then none else
  if 2 ≤ n then bitB r ((h * 64 + vlt c) % 2 ^ (n - 2)) (n - 2) (out ++ [(h * 64 + vlt c) / 2 ^ (n - 2) % 256]) else bitB r (h * 64 + vlt c) (n + 6) out
def bytesD (s : List Nat) : Option (List Nat) := if s.length % 4 = 1 then none else match bitB s 0 0 [] with
 | none => none
 | some (out, h) => if h ≠ 0 then none else some out
theorem bit_step4 (p q r s : Nat) (t out : List Nat) : bitB (p :: q :: r :: s :: t) 0 0 out = if vlt p = 64 ∨ vlt q = 64 ∨ vlt r = 64 ∨ vlt s = 64 then none else
  bitB t 0 0 (out ++ [vlt p * 4 + vlt q / 16, vlt q % 16 * 16 + vlt r / 4, vlt r % 4 * 64 + vlt s]) := by
 have hp := vlt_le p; have hq := vlt_le q; have hr := vlt_le r; have hs := vlt_le s
 by_cases h1 : vlt p = 64
 ·simp [bitB, h1]
 by_cases h2 : vlt q = 64
 ·simp [bitB, h1, h2]
 by_cases h3 : vlt r = 64
 ·simp [bitB, h1, h2, h3]
 by_cases h4 : vlt s = 64
 ·simp [bitB, h1, h2, h3, h4]
 rw [if_neg (by simp [h1, h2, h3, h4])]
 simp only [bitB, if_neg h1, if_neg h2, if_neg h3, if_neg h4]
 simp only [Nat.reduceLeDiff, if_false, if_true, Nat.reduceAdd, Nat.reduceSub, Nat.reducePow, Nat.zero_mul, Nat.zero_add, Nat.le_refl, Nat.div_one, Nat.mod_one, List.append_assoc, List.cons_append, List.nil_append]
 congr 3
 ·omega
 ·congr 1
  ·omega
  ·congr 1; omega
theorem bit_bytes : ∀ (s out : List Nat), (if s.length % 4 = 1 then none else match bitB s 0 0 out with
  | none => none
  | some (o, h) => if h ≠ 0 then none else some o) = (bytesL s).map (out ++ ·)
 | [], out => by simp [bitB, bytesL]
 | [p], out => by simp [bytesL]
 | [p, q], out => by
  have hp := vlt_le p; have hq := vlt_le q
  rw [if_neg (by simp)]
  by_cases h1 : vlt p = 64
  ·simp [bitB, h1, bytesL]
  by_cases h2 : vlt q = 64
  ·simp [bitB, h1, h2, bytesL]
  simp only [bitB, bytesL, if_neg h1, if_neg h2, Nat.reduceLeDiff, if_false, if_true, Nat.reduceSub, Nat.reducePow, Nat.zero_mul, Nat.zero_add]
  by_cases h3 : vlt q % 16 = 0
  ·rw [if_neg (by omega), if_neg (by omega)]
   simp only [Option.map_some]
   congr 3; omega
  ·rw [if_pos (by omega), if_pos (by omega)]; rfl
 | [p, q, r], out => by
  have hp := vlt_le p; have hq := vlt_le q; have hr := vlt_le r
  rw [if_neg (by simp)]
  by_cases h1 : vlt p = 64
  ·simp [bitB, h1, bytesL]
  by_cases h2 : vlt q = 64
  ·simp [bitB, h1, h2, bytesL]
  by_cases h3 : vlt r = 64
  ·simp [bitB, h1, h2, h3, bytesL]
  simp only [bitB, bytesL, if_neg h1, if_neg h2, if_neg h3, Nat.reduceLeDiff, if_false, if_true, Nat.reduceAdd, Nat.reduceSub, Nat.reducePow, Nat.zero_mul, Nat.zero_add]
  by_cases h4 : vlt r % 4 = 0
  ·rw [if_neg (by omega), if_neg (by omega)]
   simp only [Option.map_some, List.append_assoc, List.cons_append, List.nil_append]
   congr 3
   ·omega
   ·congr 1; omega
  ·rw [if_pos (by omega), if_pos (by omega)]; rfl
 | p :: q :: r :: s :: t, out => by
  rw [bit_step4]
  have ih := bit_bytes t
  simp only [bytesL]
  by_cases h : vlt p = 64 ∨ vlt q = 64 ∨ vlt r = 64 ∨ vlt s = 64
  ·rw [if_pos h, if_pos h]; simp
  ·rw [if_neg h, if_neg h]
   have hm : (p :: q :: r :: s :: t).length % 4 = t.length % 4 := by simp only [List.length_cons]; omega
   rw [hm, ih]
   cases bytesL t <;> simp
theorem bytesD_eq (s : List Nat) : bytesD s = bytesL s := by
 unfold bytesD
 rw [bit_bytes s []]
 cases bytesL s <;> simp

end Go.Proofs.YtpdedfpacklnoaaGreatDoor
set_option maxRecDepth 100000
namespace Go.Proofs.YtpdedfpacklnoaaGreatDoor
open Go.RowKit Go.BL Go.Ct Go.Sl Go.Wr

theorem ltr_vlt : ∀ c, c < 256 → vlt c < 64 → ltr (vlt c) = c := by decide +kernel
/-- A letter's number; -1: it is none. -/
def valI (c : Nat) : Int := if vlt c < 64 then (vlt c : Int) else -1
theorem val_first {c k : Nat} (hk : k < 64) (h : ltr k = c) : valI c = (k : Int) := by
 unfold valI
 rw [← h, vlt_ltr k hk, if_pos hk]
theorem val_none {c : Nat} (hc : c < 256) (h : ∀ j, j < 64 → ltr j ≠ c) : valI c = -1 := by
 unfold valI
 by_cases hv : vlt c < 64
 ·exact absurd (ltr_vlt c hc hv) (h _ hv)
 ·rw [if_neg hv]
theorem valueD_any (c : Nat) (hc : c < 256) (w : World) : Calls Tryz.prog 140 #[.int .u8 (c : Int)] w fun e w' => e = .returned (.int .i64 (valI c)) ∧ w = w' := by
 have hal := alpha_at
 have HAL := Lib.hid hal
 clear hal
 go_enter Tryz.func140, Tryz.ntmps140
 go_wp2_with fail
 go_loopw [3] (fun i wr => ∃ k : Nat, k ≤ 64 ∧ i = .int .i64 (k : Int) ∧ wr = w ∧ Hid (∀ j, j < k → ltr j ≠ c)) (fun i _ => 64 - (intOf i).toNat)
 case atStart => exact ⟨0, by omega, rfl, rfl, Lib.hid (fun j h => absurd h (by omega))⟩
 case round =>
  obtain ⟨k, hk, rfl, rfl, HP⟩ := hrel
  by_cases hlt : k < 64
  ·have ha := HAL.out k hlt
   obtain ⟨L, hL⟩ : ∃ L, ltr k = L := ⟨_, rfl⟩
   rw [hL] at ha
   by_cases he : L = c
   ·have HV : Hid (valI c = (k : Int)) := Lib.hid (val_first hlt (hL.trans he))
    subst he
    clear hL
    go_wp2_with fail
    go_ret
    rw [HV.out]
    exact ⟨rfl, rfl⟩
   ·have hne : ((L : Int) == (c : Int)) = false := beq_false_of_ne (by omega)
    have HP2 : Hid (∀ j, j < k + 1 → ltr j ≠ c) := Lib.hid (fun j hj => by
     rcases Nat.lt_or_ge j k with h | h
     ·exact HP.out j h
     ·rw [show j = k by omega, hL]; exact he)
    clear he hL
    go_wp2_with fail
    exact ⟨⟨k + 1, by omega, by go_num, trivial, HP2⟩, by simp [intOf]; omega⟩
  ·obtain rfl : k = 64 := by omega
   have HV : Hid (valI c = -1) := Lib.hid (val_none hc HP.out)
   have hng : ¬ ((64 : Nat) : Int) < 64 := by omega
   go_wp2_with fail
   go_ret
   rw [HV.out]
   exact ⟨rfl, rfl⟩
set_option maxHeartbeats 8000000 in
theorem bytesD_any (s : List UInt8) (hl : s.length ≤ 1048576) (w : World) : Calls Tryz.prog 94 #[.string ⟨s.toArray⟩] w (BytR (bytesL (nats s)) w) := by
 rw [← bytesD_eq]
 have hvd := Lib.hid valueD_any
 go_enter Tryz.func94, Tryz.ntmps94
 by_cases h1 : s.length % 4 = 1
 ·have h1' : (s.length : Int) % 4 = 1 := by omega
  have HV : Hid (bytesD (nats s) = none) := Lib.hid (by unfold bytesD; rw [if_pos (by rw [nats, List.length_map]; exact h1)])
  go_wp2_with fail
  go_ret2
  rw [HV.out]
  exact ⟨Below.refl _ _, _, rfl, Own.nil _ _⟩
 ·have h1' : ¬ ((s.length : Int) % 4 = 1) := by omega
  have h1b : ((s.length : Int) % 4 == 1) = false := beq_false_of_ne h1'
  have HD : Hid (bytesD (nats s) = match bitB (nats s) 0 0 [] with
   | none => none
   | some (out, h) => if h ≠ 0 then none else some out) := Lib.hid (by unfold bytesD; rw [if_neg (by rw [nats, List.length_map]; exact h1)]; try rfl)
  go_wp2_with fail
  go_loopw [4, 5, 6, 7] (fun ov hv nv iv wr => ∃ (k h n : Nat) (acc : List Nat), k ≤ s.length ∧ iv = .int .i64 (k : Int) ∧ hv = .int .i64 (h : Int) ∧ nv = .int .i64 (n : Int) ∧ (n = 0 ∨ n = 2 ∨ n = 4 ∨ n = 6) ∧ h < 2 ^ n ∧ Hid (Below w.heap.size w wr) ∧ Hid (Own wr w.heap.size ov acc) ∧ Hid (bitB (nats s) 0 0 [] = bitB ((nats s).drop k) h n acc) ∧ Hid (acc.length ≤ k)) (fun _ _ _ iv _ => s.length - (intOf iv).toNat)
  case atStart => exact ⟨0, 0, 0, [], by omega, rfl, rfl, rfl, by omega, by decide, Lib.hid (Below.refl _ _), Lib.hid (Own.nil _ _), Lib.hid rfl, Lib.hid (by simp)⟩
  case round =>
   obtain ⟨k, h, n, acc, hk, rfl, rfl, rfl, hn, hh, HB, HO, HP, HA⟩ := hrel
   by_cases hlt : k < s.length
   ·obtain ⟨x, hx⟩ : ∃ x, (⟨s.toArray⟩ : ByteArray)[k]'hlt = x := ⟨_, rfl⟩
    have hxs : s[k] = x := hx
    have HX : Hid ((nats s).drop k = x.toNat :: (nats s).drop (k + 1)) := Lib.hid (by
     rw [List.drop_eq_getElem_cons (show k < (nats s).length by rw [nats, List.length_map]; exact hlt)]
     simp [nats, hxs])
    have hx256 : x.toNat < 256 := x.toNat_lt
    have hva := hvd.out x.toNat hx256
    obtain ⟨v, hv⟩ : ∃ v, vlt x.toNat = v := ⟨_, rfl⟩
    have hlt2 : (k : Int) < (s.length : Int) := by omega
    by_cases hv64 : v < 64
    ·have hvi : valI x.toNat = (v : Int) := by unfold valI; rw [hv, if_pos hv64]
     rw [hvi] at hva
     have HP2 : Hid (bitB (nats s) 0 0 [] = if 2 ≤ n then bitB ((nats s).drop (k + 1)) ((h * 64 + v) % 2 ^ (n - 2)) (n - 2) (acc ++ [(h * 64 + v) / 2 ^ (n - 2) % 256]) else bitB ((nats s).drop (k + 1)) (h * 64 + v) (n + 6) acc) := Lib.hid (by
      rw [HP.out, HX.out]
      conv => lhs; unfold bitB
      rw [hv, if_neg (by omega)])
     have hvn : ¬ (v : Int) < 0 := by omega
     clear hvi hv hxs HP HX
     rcases hn with rfl | rfl | rfl | rfl
     ·obtain rfl : h = 0 := by simp at hh; omega
      go_wp2_with (go_at_call 140; refine (hva _).mono ?_; clear hva; rintro e w' ⟨rfl, rfl⟩)
      have HN2 : Hid (bitB (nats s) 0 0 [] = bitB ((nats s).drop (k + 1)) v 6 acc) := Lib.hid (by rw [HP2.out, if_neg (by omega), Nat.zero_mul, Nat.zero_add])
      exact ⟨⟨k + 1, v, 6, acc, by omega, by go_num, by go_num, by go_num, by omega, by simpa using hv64, HB, HO, HN2, Lib.hid (by have := HA.out; omega)⟩, by simp [intOf]; omega⟩
     ·have hh : h < 4 := hh
      go_upto_region 9 with (go_at_call 140; refine (hva _).mono ?_; clear hva; rintro e w' ⟨rfl, rfl⟩)
      obtain ⟨X, hX⟩ : ∃ X, h * 64 + v = X := ⟨_, rfl⟩
      have hXl : X < 256 := by omega
      have hXi : (h : Int) * 64 + (v : Int) = (X : Int) := by omega
      have hand : bits .and .i64 (X : Int) 0 = 0 := by
       have := and_i64 X 0 (by omega) (by decide)
       simpa using this
      have hcv : IntKind.u8.wrap (X : Int) = (X : Int) := by rw [IntKind.wrap_u8]; omega
      have HN2 : Hid (bitB (nats s) 0 0 [] = bitB ((nats s).drop (k + 1)) 0 0 (acc ++ [X])) := Lib.hid (by
       rw [HP2.out, if_pos (by omega), hX]
       show bitB _ (X % 2 ^ 0) 0 (acc ++ [X / 2 ^ 0 % 256]) = _
       rw [show X / 2 ^ 0 % 256 = X by omega, show X % 2 ^ 0 = 0 by omega])
      have HLa : Hid (acc.length + 1 ≤ 140737488355328) := Lib.hid (by have := HA.out; omega)
      clear hX HP2
      go_wp2_with (at_builtin; refine wpList_appB rfl (.tmp 35) (.tmp 40) 75 rfl Tryz.underlying75 W.info5 rfl (HO.out.alloc _) rfl (rd_one wr _ X rfl hXl 5 (0, 0)) HLa.out (Nat.le_trans HB.out.size (by simp)) ?_; intro v2 w2 ho2 hb2; have HO2 := Lib.hid ho2; have HB2 := Lib.hid ((HB.out.alloc HB.out.size _).trans hb2); clear ho2 hb2)
      exact ⟨⟨k + 1, 0, 0, acc ++ [X], by omega, by go_num, by go_num, by go_num, by omega, by decide, HB2, HO2, HN2, Lib.hid (by have := HA.out; rw [List.length_append]; simp; omega)⟩, by simp [intOf]; omega⟩
     ·have hh : h < 16 := hh
      go_upto_region 9 with (go_at_call 140; refine (hva _).mono ?_; clear hva; rintro e w' ⟨rfl, rfl⟩)
      obtain ⟨X, hX⟩ : ∃ X, h * 64 + v = X := ⟨_, rfl⟩
      have hXl : X < 1024 := by omega
      have hXi : (h : Int) * 64 + (v : Int) = (X : Int) := by omega
      have hand : bits .and .i64 (X : Int) 3 = ((X % 4 : Nat) : Int) := by
       have := and_i64 X 3 (by omega) (by decide)
       rw [show X &&& 3 = X % 4 from Nat.and_two_pow_sub_one_eq_mod X 2] at this
       exact this
      have hcv : IntKind.u8.wrap ((X : Int) / 4) = ((X / 4 : Nat) : Int) := by rw [IntKind.wrap_u8]; omega
      have HN2 : Hid (bitB (nats s) 0 0 [] = bitB ((nats s).drop (k + 1)) (X % 4) 2 (acc ++ [X / 4])) := Lib.hid (by
       rw [HP2.out, if_pos (by omega), hX]
       show bitB _ (X % 2 ^ 2) 2 (acc ++ [X / 2 ^ 2 % 256]) = _
       rw [show X / 2 ^ 2 % 256 = X / 4 by omega])
      have HLa : Hid (acc.length + 1 ≤ 140737488355328) := Lib.hid (by have := HA.out; omega)
      have hX2 : X / 4 < 256 := by omega
      clear hX HP2
      go_wp2_with (at_builtin; refine wpList_appB rfl (.tmp 35) (.tmp 40) 75 rfl Tryz.underlying75 W.info5 rfl (HO.out.alloc _) rfl (rd_one wr _ (X / 4) rfl hX2 5 (0, 0)) HLa.out (Nat.le_trans HB.out.size (by simp)) ?_; intro v2 w2 ho2 hb2; have HO2 := Lib.hid ho2; have HB2 := Lib.hid ((HB.out.alloc HB.out.size _).trans hb2); clear ho2 hb2)
      exact ⟨⟨k + 1, X % 4, 2, acc ++ [X / 4], by omega, by go_num, by go_num, by go_num, by omega, by show X % 4 < 4; omega, HB2, HO2, HN2, Lib.hid (by have := HA.out; rw [List.length_append]; simp; omega)⟩, by simp [intOf]; omega⟩
     ·have hh : h < 64 := hh
      go_upto_region 9 with (go_at_call 140; refine (hva _).mono ?_; clear hva; rintro e w' ⟨rfl, rfl⟩)
      obtain ⟨X, hX⟩ : ∃ X, h * 64 + v = X := ⟨_, rfl⟩
      have hXl : X < 4096 := by omega
      have hXi : (h : Int) * 64 + (v : Int) = (X : Int) := by omega
      have hand : bits .and .i64 (X : Int) 15 = ((X % 16 : Nat) : Int) := by
       have := and_i64 X 15 (by omega) (by decide)
       rw [show X &&& 15 = X % 16 from Nat.and_two_pow_sub_one_eq_mod X 4] at this
       exact this
      have hcv : IntKind.u8.wrap ((X : Int) / 16) = ((X / 16 : Nat) : Int) := by rw [IntKind.wrap_u8]; omega
      have HN2 : Hid (bitB (nats s) 0 0 [] = bitB ((nats s).drop (k + 1)) (X % 16) 4 (acc ++ [X / 16])) := Lib.hid (by
       rw [HP2.out, if_pos (by omega), hX]
       show bitB _ (X % 2 ^ 4) 4 (acc ++ [X / 2 ^ 4 % 256]) = _
       rw [show X / 2 ^ 4 % 256 = X / 16 by omega])
      have HLa : Hid (acc.length + 1 ≤ 140737488355328) := Lib.hid (by have := HA.out; omega)
      have hX2 : X / 16 < 256 := by omega
      clear hX HP2
      go_wp2_with (at_builtin; refine wpList_appB rfl (.tmp 35) (.tmp 40) 75 rfl Tryz.underlying75 W.info5 rfl (HO.out.alloc _) rfl (rd_one wr _ (X / 16) rfl hX2 5 (0, 0)) HLa.out (Nat.le_trans HB.out.size (by simp)) ?_; intro v2 w2 ho2 hb2; have HO2 := Lib.hid ho2; have HB2 := Lib.hid ((HB.out.alloc HB.out.size _).trans hb2); clear ho2 hb2)
      exact ⟨⟨k + 1, X % 16, 4, acc ++ [X / 16], by omega, by go_num, by go_num, by go_num, by omega, by show X % 16 < 16; omega, HB2, HO2, HN2, Lib.hid (by have := HA.out; rw [List.length_append]; simp; omega)⟩, by simp [intOf]; omega⟩
    ·have hvi : valI x.toNat = -1 := by unfold valI; rw [hv, if_neg hv64]
     rw [hvi] at hva
     have HV : Hid (bytesD (nats s) = none) := Lib.hid (by
      rw [HD.out, HP.out, HX.out]
      unfold bitB
      have := vlt_le x.toNat
      rw [if_pos (by omega)])
     clear hvi hv hxs HP HX
     go_wp2_with (go_at_call 140; refine (hva _).mono ?_; clear hva; rintro e w' ⟨rfl, rfl⟩)
     go_ret2
     rw [HV.out]
     exact ⟨HB.out, _, rfl, Own.nil _ _⟩
   ·obtain rfl : k = s.length := by omega
    have hng : ¬ (s.length : Int) < (s.length : Int) := by omega
    have HE : Hid (bitB (nats s) 0 0 [] = some (acc, h)) := Lib.hid (by rw [HP.out, List.drop_eq_nil_of_le (by rw [nats, List.length_map]; exact Nat.le_refl _)]; rfl)
    by_cases h0 : h = 0
    ·subst h0
     have HV : Hid (bytesD (nats s) = some acc) := Lib.hid (by rw [HD.out, HE.out]; rfl)
     go_wp2_with fail
     go_ret2
     rw [HV.out]
     exact ⟨HB.out, _, rfl, HO.out⟩
    ·have hne : ((h : Int) != 0) = true := bne_iff_ne.2 (by omega)
     have HV : Hid (bytesD (nats s) = none) := Lib.hid (by rw [HD.out, HE.out]; exact if_pos h0)
     go_wp2_with fail
     go_ret2
     rw [HV.out]
     exact ⟨HB.out, _, rfl, Own.nil _ _⟩
end Go.Proofs.YtpdedfpacklnoaaGreatDoor
