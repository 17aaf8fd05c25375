/- Plain: bytes in letters, one byte after another, as the document writes them. No program. Contract of the document's Letters: lettersL. -/
import Derived.Test.YtpdedfpacklnoaaGreatDoorTzLtA
import Derived.Test.YtpdedfpacklnoaaGreatDoorTzML
import Derived.LoopN
namespace Go.Proofs.YtpdedfpacklnoaaGreatDoor
open Go.RowKit Go.BL Go.Ct Go.Sl Go.Wr

/-- The letters so far, the bits that are left, and how many. -/
def encS : List Nat → List Nat × Nat × Nat
 | [] => ([], 0, 0)
 | [a] => ([ltr (a / 4)], a % 4, 2)
 | [a, b] => ([ltr (a / 4), ltr (a % 4 * 16 + b / 16)], b % 16, 4)
 | a :: b :: c :: r => (ltr (a / 4) :: ltr (a % 4 * 16 + b / 16) :: ltr (b % 16 * 4 + c / 64) :: ltr (c % 64) :: (encS r).1, (encS r).2)
/-- One byte more. -/
def stepS (t : List Nat × Nat × Nat) (x : Nat) : List Nat × Nat × Nat :=
 if t.2.2 = 0 then (t.1 ++ [ltr (x / 4)], x % 4, 2)
 else if t.2.2 = 2 then (t.1 ++ [ltr ((t.2.1 * 256 + x) / 16)], (t.2.1 * 256 + x) % 16, 4)
 else (t.1 ++ [ltr ((t.2.1 * 256 + x) / 64), ltr ((t.2.1 * 256 + x) % 64)], 0, 0)
theorem encS_three : ∀ l : List Nat, (encS l).2.2 = 0 ∧ (encS l).2.1 = 0 ∨ (encS l).2.2 = 2 ∧ (encS l).2.1 < 4 ∨ (encS l).2.2 = 4 ∧ (encS l).2.1 < 16
 | [] => .inl ⟨rfl, rfl⟩
 | [a] => .inr (.inl ⟨rfl, by show a % 4 < 4; omega⟩)
 | [a, b] => .inr (.inr ⟨rfl, by show b % 16 < 16; omega⟩)
 | a :: b :: c :: r => encS_three r
theorem encS_snoc : ∀ (l : List Nat) (x : Nat), x < 256 → (∀ y ∈ l, y < 256) → encS (l ++ [x]) = stepS (encS l) x
 | [], x, _, _ => rfl
 | [a], x, hx, h => by
  have ha := h a (by simp)
  show ([ltr (a / 4), ltr (a % 4 * 16 + x / 16)], x % 16, 4) = stepS ([ltr (a / 4)], a % 4, 2) x
  unfold stepS
  rw [if_neg (by simp), if_pos rfl]
  dsimp only
  rw [show (a % 4 * 256 + x) / 16 = a % 4 * 16 + x / 16 by omega, show (a % 4 * 256 + x) % 16 = x % 16 by omega]
  rfl
 | [a, b], x, hx, h => by
  have ha := h a (by simp)
  have hb := h b (by simp)
  show ([ltr (a / 4), ltr (a % 4 * 16 + b / 16), ltr (b % 16 * 4 + x / 64), ltr (x % 64)], 0, 0) = stepS ([ltr (a / 4), ltr (a % 4 * 16 + b / 16)], b % 16, 4) x
  unfold stepS
  rw [if_neg (by simp), if_neg (by simp)]
  dsimp only
  rw [show (b % 16 * 256 + x) / 64 = b % 16 * 4 + x / 64 by omega, show (b % 16 * 256 + x) % 64 = x % 64 by omega]
  rfl
 | a :: b :: c :: r, x, hx, h => by
  have ih := encS_snoc r x hx (fun y hy => h y (by simp [hy]))
  show (ltr (a / 4) :: ltr (a % 4 * 16 + b / 16) :: ltr (b % 16 * 4 + c / 64) :: ltr (c % 64) :: (encS (r ++ [x])).1, (encS (r ++ [x])).2) = stepS (encS (a :: b :: c :: r)) x
  rw [ih]
  show _ = stepS (ltr (a / 4) :: ltr (a % 4 * 16 + b / 16) :: ltr (b % 16 * 4 + c / 64) :: ltr (c % 64) :: (encS r).1, (encS r).2) x
  unfold stepS
  dsimp only
  by_cases h0 : (encS r).2.2 = 0
  ·simp only [if_pos h0, List.cons_append]
  ·rw [if_neg h0, if_neg h0]
   by_cases h2 : (encS r).2.2 = 2
   ·simp only [if_pos h2, List.cons_append]
   ·simp only [if_neg h2, List.cons_append]
theorem encS_end : ∀ l : List Nat, lettersL l = (encS l).1 ++ (if (encS l).2.2 = 0 then [] else [ltr ((encS l).2.1 * 2 ^ (6 - (encS l).2.2))])
 | [] => rfl
 | [a] => rfl
 | [a, b] => rfl
 | a :: b :: c :: r => by
  have ih := encS_end r
  show ltr (a / 4) :: ltr (a % 4 * 16 + b / 16) :: ltr (b % 16 * 4 + c / 64) :: ltr (c % 64) :: lettersL r = (ltr (a / 4) :: ltr (a % 4 * 16 + b / 16) :: ltr (b % 16 * 4 + c / 64) :: ltr (c % 64) :: (encS r).1) ++ (if (encS r).2.2 = 0 then [] else [ltr ((encS r).2.1 * 2 ^ (6 - (encS r).2.2))])
  rw [ih]
  rfl
/-- The document's letters. -/
def alph : List UInt8 := [65, 66, 67, 68, 69, 70, 71, 72, 73, 74, 75, 76, 77, 78, 79, 80, 81, 82, 83, 84, 85, 86, 87, 88, 89, 90, 97, 98, 99, 100, 101, 102, 103, 104, 105, 106, 107, 108, 109, 110, 111, 112, 113, 114, 115, 116, 117, 118, 119, 120, 121, 122, 48, 49, 50, 51, 52, 53, 54, 55, 56, 57, 45, 95]
theorem alph_at (k : Nat) (h : k < 64) : (alph.drop k).take 1 = [UInt8.ofNat (ltr k)] := by
 have : ∀ n : Fin 64, (alph.drop n.val).take 1 = [UInt8.ofNat (ltr n.val)] := by decide +kernel
 exact this ⟨k, h⟩
theorem and_mod (X n : Nat) (hX : X < 4294967296) (hn : n ≤ 16) : bits .and .i64 (X : Int) ((2 ^ n - 1 : Nat) : Int) = ((X % 2 ^ n : Nat) : Int) := by
 have h2 : 2 ^ n ≤ 2 ^ 16 := Nat.pow_le_pow_right (by decide) hn
 rw [and_i64 X (2 ^ n - 1) hX (by omega), Nat.and_two_pow_sub_one_eq_mod]
end Go.Proofs.YtpdedfpacklnoaaGreatDoor
set_option maxRecDepth 100000
namespace Go.Proofs.YtpdedfpacklnoaaGreatDoor
open Go.RowKit Go.BL Go.Ct Go.Sl Go.Wr

theorem nats_snoc (t : List UInt8) (q : Nat) : nats (t ++ [UInt8.ofNat (ltr q)]) = nats t ++ [ltr q] := by
 unfold nats
 rw [List.map_append]
 have h := ltr_lt q
 simp; omega
set_option maxHeartbeats 8000000 in
theorem lettersD_any (A : Option Addr) (m cap : Nat) (bs : List Nat) (w : World) (hr : Rd w A m bs) (hm : m ≤ 100000) : Calls Tryz.prog 125 #[.slice A m cap] w fun e w' => e = .returned (.string (bstr (lettersL bs))) ∧ w = w' := by
 have HR := Lib.hid hr
 have hl := hr.1
 subst hl
 have HLT : Hid (∀ x ∈ bs, x < 256) := Lib.hid hr.2.2.1
 clear hr
 go_enter Tryz.func125, Tryz.ntmps125
 go_wp2_with fail
 go_loopw [3, 4, 5, 12] (fun s h n i wr => ∃ (k : Nat) (t : List UInt8) (H N : Nat), i = .int .i64 (k : Int) ∧ k ≤ bs.length ∧ s = .string ⟨t.toArray⟩ ∧ h = .int .i64 (H : Int) ∧ n = .int .i64 (N : Int) ∧ Hid (encS (bs.take k) = (nats t, H, N)) ∧ t.length ≤ 2 * k ∧ Hid (wr = w)) (fun _ _ _ i _ => bs.length - (intOf i).toNat)
 case atStart => exact ⟨0, [], 0, 0, rfl, by omega, rfl, rfl, rfl, Lib.hid rfl, by simp, Lib.hid rfl⟩
 case round =>
  obtain ⟨k, t, H, N, rfl, hk, rfl, rfl, rfl, HE, ht, HW⟩ := hrel
  by_cases hlt : k < bs.length
  ·obtain rfl := HW.out
   have hrd := HR.out
   obtain ⟨ba, oa, rfl, hbl, hce⟩ := hrd.2.2.2 (by omega)
   have hx := hce k hlt
   rw [List.getD_eq_getElem?_getD, List.getElem?_eq_getElem hlt, Option.getD_some] at hx
   have hxl := HLT.out _ (List.getElem_mem hlt)
   have HST : Hid (encS (bs.take (k + 1)) = stepS (nats t, H, N) (bs[k])) := Lib.hid (by rw [List.take_succ_eq_append_getElem hlt, encS_snoc _ _ hxl (fun y hy => HLT.out y (List.mem_of_mem_take hy)), HE.out])
   have h3 := encS_three (bs.take k)
   rw [HE.out] at h3
   dsimp only at h3
   obtain ⟨x, hxe⟩ : ∃ y, bs[k] = y := ⟨_, rfl⟩
   rw [hxe] at hx hxl HST
   have hlt' : (k : Int) < (bs.length : Int) := by omega
   clear hrd hce hbl hxe
   rcases h3 with ⟨rfl, rfl⟩ | ⟨rfl, hH⟩ | ⟨rfl, hH⟩
   ·obtain ⟨q, hq⟩ : ∃ y, x / 4 = y := ⟨_, rfl⟩
    obtain ⟨r, hr⟩ : ∃ y, x % 4 = y := ⟨_, rfl⟩
    have hq64 : q < 64 := by omega
    have hr64 : r < 4 := by omega
    have fq : (x : Int) / 4 = (q : Int) := by rw [← hq]; norm_cast
    have fa := and_mod x 2 (by omega) (by omega)
    rw [show ((2 ^ 2 - 1 : Nat) : Int) = 3 from rfl, show 2 ^ 2 = 4 from rfl, hr] at fa
    have hsl1 := fun w => sl_mid alph q (q + 1) (q : Int) ((q : Int) + 1) rfl (by omega) (by omega) (by show q + 1 ≤ 64; omega) w
    rw [show q + 1 - q = 1 by omega, alph_at q (by omega)] at hsl1
    unfold alph at hsl1
    obtain ⟨t1, ht1⟩ : ∃ y, t ++ [UInt8.ofNat (ltr q)] = y := ⟨_, rfl⟩
    have hcat1 := cat_run t [UInt8.ofNat (ltr q)] t1 ht1 (by simp; omega)
    have HN1 : Hid (nats t1 = nats t ++ [ltr q]) := Lib.hid (by rw [← ht1]; exact nats_snoc t q)
    have hlen1 : t1.length = t.length + 1 := by rw [← ht1]; simp
    have HF : Hid (encS (bs.take (k + 1)) = (nats t1, r, 2)) := Lib.hid (by rw [HST.out]; unfold stepS; rw [if_pos rfl]; dsimp only; rw [hq, hr, HN1.out])
    have hft : t1.length ≤ 2 * (k + 1) := by omega
    clear HST hq hr ht1
    go_upto_region 8 with fail
    refine wp_loop_rounds 2 ?_
    rw [rounds_succ]
    go_wp2_with fail
    rw [rounds_succ]
    go_wp2_with fail
    exact ⟨⟨k + 1, t1, r, 2, by go_num, by omega, rfl, rfl, rfl, HF, hft, Lib.hid trivial⟩, by simp [intOf]; omega⟩
   ·obtain ⟨W, hW⟩ : ∃ y, H * 256 + x = y := ⟨_, rfl⟩
    have hWl : W < 5000 := by omega
    have fW : (H : Int) * 256 + (x : Int) = (W : Int) := by omega
    obtain ⟨q, hq⟩ : ∃ y, W / 16 = y := ⟨_, rfl⟩
    obtain ⟨r, hr⟩ : ∃ y, W % 16 = y := ⟨_, rfl⟩
    have hq64 : q < 64 := by omega
    have hr64 : r < 16 := by omega
    have fq : (W : Int) / 16 = (q : Int) := by rw [← hq]; norm_cast
    have fa := and_mod W 4 (by omega) (by omega)
    rw [show ((2 ^ 4 - 1 : Nat) : Int) = 15 from rfl, show 2 ^ 4 = 16 from rfl, hr] at fa
    have hsl1 := fun w => sl_mid alph q (q + 1) (q : Int) ((q : Int) + 1) rfl (by omega) (by omega) (by show q + 1 ≤ 64; omega) w
    rw [show q + 1 - q = 1 by omega, alph_at q (by omega)] at hsl1
    unfold alph at hsl1
    obtain ⟨t1, ht1⟩ : ∃ y, t ++ [UInt8.ofNat (ltr q)] = y := ⟨_, rfl⟩
    have hcat1 := cat_run t [UInt8.ofNat (ltr q)] t1 ht1 (by simp; omega)
    have HN1 : Hid (nats t1 = nats t ++ [ltr q]) := Lib.hid (by rw [← ht1]; exact nats_snoc t q)
    have hlen1 : t1.length = t.length + 1 := by rw [← ht1]; simp
    have HF : Hid (encS (bs.take (k + 1)) = (nats t1, r, 4)) := Lib.hid (by rw [HST.out]; unfold stepS; rw [if_neg (by simp), if_pos rfl]; dsimp only; rw [hW, hq, hr, HN1.out])
    have hft : t1.length ≤ 2 * (k + 1) := by omega
    clear HST hq hr ht1 hW
    go_upto_region 8 with fail
    refine wp_loop_rounds 2 ?_
    rw [rounds_succ]
    go_wp2_with fail
    rw [rounds_succ]
    go_wp2_with fail
    exact ⟨⟨k + 1, t1, r, 4, by go_num, by omega, rfl, rfl, rfl, HF, hft, Lib.hid trivial⟩, by simp [intOf]; omega⟩
   ·obtain ⟨W, hW⟩ : ∃ y, H * 256 + x = y := ⟨_, rfl⟩
    have hWl : W < 5000 := by omega
    have fW : (H : Int) * 256 + (x : Int) = (W : Int) := by omega
    obtain ⟨q, hq⟩ : ∃ y, W / 64 = y := ⟨_, rfl⟩
    obtain ⟨r, hr⟩ : ∃ y, W % 64 = y := ⟨_, rfl⟩
    have hq64 : q < 64 := by omega
    have hr64 : r < 64 := by omega
    have fq : (W : Int) / 64 = (q : Int) := by rw [← hq]; norm_cast
    have fa := and_mod W 6 (by omega) (by omega)
    rw [show ((2 ^ 6 - 1 : Nat) : Int) = 63 from rfl, show 2 ^ 6 = 64 from rfl, hr] at fa
    have hsl1 := fun w => sl_mid alph q (q + 1) (q : Int) ((q : Int) + 1) rfl (by omega) (by omega) (by show q + 1 ≤ 64; omega) w
    rw [show q + 1 - q = 1 by omega, alph_at q (by omega)] at hsl1
    unfold alph at hsl1
    obtain ⟨t1, ht1⟩ : ∃ y, t ++ [UInt8.ofNat (ltr q)] = y := ⟨_, rfl⟩
    have hcat1 := cat_run t [UInt8.ofNat (ltr q)] t1 ht1 (by simp; omega)
    have HN1 : Hid (nats t1 = nats t ++ [ltr q]) := Lib.hid (by rw [← ht1]; exact nats_snoc t q)
    have hlen1 : t1.length = t.length + 1 := by rw [← ht1]; simp
    have fb := and_mod r 0 (by omega) (by omega)
    rw [show ((2 ^ 0 - 1 : Nat) : Int) = 0 from rfl, show r % 2 ^ 0 = 0 by simp [Nat.mod_one]] at fb
    have hsl2 := fun w => sl_mid alph r (r + 1) (r : Int) ((r : Int) + 1) rfl (by omega) (by omega) (by show r + 1 ≤ 64; omega) w
    rw [show r + 1 - r = 1 by omega, alph_at r (by omega)] at hsl2
    unfold alph at hsl2
    obtain ⟨t2, ht2⟩ : ∃ y, t1 ++ [UInt8.ofNat (ltr r)] = y := ⟨_, rfl⟩
    have hcat2 := cat_run t1 [UInt8.ofNat (ltr r)] t2 ht2 (by simp; omega)
    have HN2 : Hid (nats t2 = nats t1 ++ [ltr r]) := Lib.hid (by rw [← ht2]; exact nats_snoc t1 r)
    have hlen2 : t2.length = t1.length + 1 := by rw [← ht2]; simp
    have HF : Hid (encS (bs.take (k + 1)) = (nats t2, 0, 0)) := Lib.hid (by rw [HST.out]; unfold stepS; rw [if_neg (by simp), if_neg (by simp)]; dsimp only; rw [hW, hq, hr, HN2.out, HN1.out]; simp)
    have hft : t2.length ≤ 2 * (k + 1) := by omega
    clear HST hq hr ht1 hW ht2
    go_upto_region 8 with fail
    refine wp_loop_rounds 3 ?_
    rw [rounds_succ]
    go_wp2_with fail
    rw [rounds_succ]
    go_wp2_with fail
    rw [rounds_succ]
    go_wp2_with fail
    exact ⟨⟨k + 1, t2, 0, 0, by go_num, by omega, rfl, rfl, rfl, HF, hft, Lib.hid trivial⟩, by simp [intOf]; omega⟩
  ·obtain rfl := HW.out
   obtain rfl : k = bs.length := by omega
   rw [List.take_length] at HE
   have h3 := encS_three bs
   rw [HE.out] at h3
   dsimp only at h3
   have hge : ¬ (bs.length : Int) < (bs.length : Int) := by omega
   rcases h3 with ⟨rfl, rfl⟩ | ⟨rfl, hH⟩ | ⟨rfl, hH⟩
   ·have HV : Hid (lettersL bs = nats t) := Lib.hid (by rw [encS_end bs, HE.out]; dsimp only; rw [if_pos rfl, List.append_nil])
    go_wp2_with fail
    go_ret
    exact ⟨by rw [HV.out]; unfold bstr; rw [map_nats]; rfl, rfl⟩
   ·obtain ⟨z, hz⟩ : ∃ y, H * 16 = y := ⟨_, rfl⟩
    have fz : (H : Int) * 16 = (z : Int) := by omega
    have hsl1 := fun w => sl_mid alph z (z + 1) (z : Int) ((z : Int) + 1) rfl (by omega) (by omega) (by show z + 1 ≤ 64; omega) w
    rw [show z + 1 - z = 1 by omega, alph_at z (by omega)] at hsl1
    unfold alph at hsl1
    obtain ⟨t1, ht1⟩ : ∃ y, t ++ [UInt8.ofNat (ltr z)] = y := ⟨_, rfl⟩
    have hcat1 := cat_run t [UInt8.ofNat (ltr z)] t1 ht1 (by simp; omega)
    have HN1 : Hid (nats t1 = nats t ++ [ltr z]) := Lib.hid (by rw [← ht1]; exact nats_snoc t z)
    have hlen1 : t1.length = t.length + 1 := by rw [← ht1]; simp
    have HV : Hid (lettersL bs = nats t1) := Lib.hid (by rw [encS_end bs, HE.out]; dsimp only; rw [if_neg (by simp), HN1.out, show 2 ^ (6 - 2) = 16 from rfl, hz])
    clear hz ht1
    go_wp2_with fail
    go_ret
    exact ⟨by rw [HV.out]; unfold bstr; rw [map_nats]; rfl, rfl⟩
   ·obtain ⟨z, hz⟩ : ∃ y, H * 4 = y := ⟨_, rfl⟩
    have fz : (H : Int) * 4 = (z : Int) := by omega
    have hsl1 := fun w => sl_mid alph z (z + 1) (z : Int) ((z : Int) + 1) rfl (by omega) (by omega) (by show z + 1 ≤ 64; omega) w
    rw [show z + 1 - z = 1 by omega, alph_at z (by omega)] at hsl1
    unfold alph at hsl1
    obtain ⟨t1, ht1⟩ : ∃ y, t ++ [UInt8.ofNat (ltr z)] = y := ⟨_, rfl⟩
    have hcat1 := cat_run t [UInt8.ofNat (ltr z)] t1 ht1 (by simp; omega)
    have HN1 : Hid (nats t1 = nats t ++ [ltr z]) := Lib.hid (by rw [← ht1]; exact nats_snoc t z)
    have hlen1 : t1.length = t.length + 1 := by rw [← ht1]; simp
    have HV : Hid (lettersL bs = nats t1) := Lib.hid (by rw [encS_end bs, HE.out]; dsimp only; rw [if_neg (by simp), HN1.out, show 2 ^ (6 - 4) = 4 from rfl, hz])
    clear hz ht1
    go_wp2_with fail
    go_ret
    exact ⟨by rw [HV.out]; unfold bstr; rw [map_nats]; rfl, rfl⟩
end Go.Proofs.YtpdedfpacklnoaaGreatDoor
