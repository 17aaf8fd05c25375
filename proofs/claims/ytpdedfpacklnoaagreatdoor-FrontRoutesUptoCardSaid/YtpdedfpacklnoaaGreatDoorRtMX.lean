/- More words on memory, of no program: an own row written cell by cell; results that are slices. Contracts of Put and Text, the program's and the document's. Contracts of the document's Put and of both  -/
import Derived.Test.YtpdedfpacklnoaaGreatDoorRtMH
import Derived.Laws.BitsAllLaws
import Derived.Test.YtpdedfpacklnoaaGreatDoorRows
import Derived.Test.YtpdedfpacklnoaaGreatDoorRtMV
import Derived.WalkKit
import Derived.WalkLawsBesides
namespace Go.BL
set_option maxRecDepth 100000
open Go.RowKit

theorem Own.only {w w' : World} {B g : Nat} {v : Value} {bs : List Nat} (h : Own w B v bs) (hg : w.grownBy w' (some g)) (hne : v.ownBlock ≠ some g) : Own w' B v bs :=
 ⟨h.1.kept hg (.inr hne), h.2⟩
theorem Own.lt {w : World} {B : Nat} {v : Value} {bs : List Nat} (h : Own w B v bs) : ∀ k, v.ownBlock = some k → k < w.heap.size := by
 intro k hk
 rcases h.1.2 with ⟨rfl, _⟩ | ⟨g, cap', cur, rfl, hg, hh, _⟩
 ·cases hk
 ·simp only [Value.ownBlock, Option.some.injEq] at hk
  subst hk
  rcases Nat.lt_or_ge g w.heap.size with h' | h'
  ·exact h'
  ·rw [Array.getElem?_eq_none h'] at hh; cases hh
end Go.BL
namespace Go.Proofs.YtpdedfpacklnoaaGreatDoor.W
set_option maxRecDepth 100000
open Go.RowKit Go.BL Go.Wr

theorem info5 : (Tryz.prog.info? 5).map (fun i => (i.zero, i.size, i.bytes)) = some (some (.int .u8 0), 1, 1) := by kernel_rfl
end Go.Proofs.YtpdedfpacklnoaaGreatDoor.W
namespace Go.Proofs.YtpdedfpacklnoaaGreatDoor.W
set_option maxRecDepth 100000
open Go.RowKit Go.BL Go.Wr

theorem and1 (c : Nat) (hc : c < 4294967296) : bits .and .u32 (c : Int) 1 = ((c % 2 : Nat) : Int) := by
 have h := u32_and_nat c 1 hc (by decide)
 rw [show ((1 : Nat) : Int) = 1 from rfl, nat_mask1] at h; exact h
theorem poly32 (c : Nat) (hc : c < 4294967296) : bits .xor .u32 (c : Int) 3988292384 = ((c ^^^ 3988292384 : Nat) : Int) := by
 have h := u32_xor_nat c 3988292384 hc (by decide)
 rwa [show ((3988292384 : Nat) : Int) = 3988292384 from rfl] at h

set_option maxRecDepth 100000 in
theorem sum_any (A : Option Addr) (n cap : Nat) (bs : List Nat) (w : World) (hr : Rd w A n bs) :
  Calls Tryz.prog 163 #[.slice A n cap] w fun e w' => e = .returned (.int .i64 ((sum bs : Nat) : Int)) ∧ w = w' := by
 have hm := hr.2.1
 unfold maxLen at hm
 have Hr := Lib.hid hr
 clear hr
 go_enter Tryz.func163, Tryz.ntmps163
 go_wp2
 go_loop [3, 9] (fun c i => ∃ (k C : Nat), k ≤ n ∧ i = .int .i64 k ∧ c = .int .u32 C ∧ Hid (C = crcAll (bs.take k))) (fun _ i => n - (intOf i).toNat)
 case atStart => exact ⟨0, 4294967295, Nat.zero_le _, rfl, rfl, Lib.hid rfl⟩
 case round =>
  obtain ⟨k, C, hk, rfl, rfl, HC⟩ := hrel
  have hC : C < 4294967296 := by rw [HC.out]; exact crcAll_lt _ (fun x hx => Hr.out.2.2.1 x (List.mem_of_mem_take hx))
  by_cases hlt : k < n
  ·obtain ⟨b, off, rfl, _, hcell⟩ := Hr.out.2.2.2 (by omega)
   have hck := hcell k hlt
   have hbk := getD_lt Hr.out.2.2.1 k
   have Hts := Lib.hid (take_snoc' bs k (by rw [Hr.out.1]; exact hlt))
   clear hcell
   generalize hx : bs.getD k 0 = x at *
   clear hx
   obtain ⟨D, hD⟩ : ∃ D, C ^^^ x = D := ⟨_, rfl⟩
   have hDl : D < 4294967296 := by rw [← hD]; exact xor_lt32 hC hbk
   have hxor : bits .xor .u32 (C : Int) (x : Int) = (D : Int) := by rw [u32_xor_nat C x hC (by omega), hD]
   have HD := Lib.hid hD
   clear hD
   go_wp2
   go_loop [3, 17] (fun c i => ∃ (j E : Nat), j ≤ 8 ∧ i = .int .i64 j ∧ c = .int .u32 E ∧ Hid (E = crcN j D)) (fun _ i => 8 - (intOf i).toNat)
   case atStart => exact ⟨0, D, by omega, rfl, rfl, Lib.hid rfl⟩
   case round =>
    obtain ⟨j, E, hj, rfl, rfl, HE⟩ := hrel
    by_cases hj8 : j < 8
    ·have hE : E < 4294967296 := by rw [HE.out]; exact crcN_lt hDl j
     have ha := and1 E hE
     by_cases hodd : E % 2 = 1
     ·have ho : (((E % 2 : Nat) : Int) == 1) = true := by rw [hodd]; rfl
      obtain ⟨F, hF⟩ : ∃ F, E / 2 ^^^ 3988292384 = F := ⟨_, rfl⟩
      have hp : bits .xor .u32 ((E : Int) / 2) 3988292384 = (F : Int) := by
       rw [← hF, ← poly32 (E / 2) (by omega)]; rfl
      have Hs : Hid (F = crcN (j + 1) D) := Lib.hid (by rw [← hF, crcN, ← HE.out, crcBit, if_pos hodd])
      clear hodd hF
      go_wp2
      go_round
      case rel => exact ⟨j + 1, F, by omega, by go_num, rfl, Hs⟩
      case measure => simp [intOf]; omega
     ·have ho : (((E % 2 : Nat) : Int) == 1) = false := beq_eq_false_iff_ne.2 (by omega)
      have Hs : Hid (E / 2 = crcN (j + 1) D) := Lib.hid (by rw [crcN, ← HE.out, crcBit, if_neg hodd])
      clear hodd
      go_wp2
      go_round
      case rel => exact ⟨j + 1, E / 2, by omega, by go_num, by go_num, Hs⟩
      case measure => simp [intOf]; omega
    ·obtain rfl : j = 8 := by omega
     have HE2 : Hid (E = crcAll (bs.take (k + 1))) := Lib.hid (by rw [Hts.out, crcAll_snoc, HE.out, crcByte, ← HC.out, ← HD.out])
     go_wp2
     go_round
     case rel => exact ⟨k + 1, E, by omega, by go_num, rfl, HE2⟩
     case measure => simp [intOf]; omega
  ·obtain rfl : k = n := by omega
   have hF : C ^^^ 4294967295 = sum bs := by rw [HC.out, List.take_of_length_le (by rw [Hr.out.1]; omega), sum]
   have hnot : bits .xor .u32 IntKind.u32.max (C : Int) = ((sum bs : Nat) : Int) := by
    rw [show IntKind.u32.max = ((4294967295 : Nat) : Int) by decide, u32_xor_nat 4294967295 C (by decide) hC, Nat.xor_comm, hF]
   have hsl : ((sum bs : Nat) : Int) ≤ 4294967295 := by have := sum_lt bs Hr.out.2.2.1; omega
   clear hF
   generalize hS : sum bs = S at *
   have HS := Lib.hid hS
   clear hS
   go_wp2
   go_ret
   refine ⟨?_, rfl⟩
   show Ending.returned (.int .i64 (wrap64 (S : Int))) = _
   rw [IntWalk.wrap64_in _ (by omega), HS.out]
theorem poly64 (c : Nat) (hc : c < 4294967296) : bits .xor .i64 (c : Int) 3988292384 = ((c ^^^ 3988292384 : Nat) : Int) := by
 have h := i64_xor_nat c 3988292384 (by omega) (by decide)
 rwa [show ((3988292384 : Nat) : Int) = 3988292384 from rfl] at h

set_option maxRecDepth 100000 in
theorem sumR_any (A : Option Addr) (n cap : Nat) (bs : List Nat) (w : World) (hr : Rd w A n bs) :
  Calls Tryz.prog 142 #[.slice A n cap] w fun e w' => e = .returned (.int .i64 ((sum bs : Nat) : Int)) ∧ w = w' := by
 have hm := hr.2.1
 unfold maxLen at hm
 have Hr := Lib.hid hr
 clear hr
 go_enter Tryz.func142, Tryz.ntmps142
 go_wp2
 go_loop [3, 9] (fun c i => ∃ (k C : Nat), k ≤ n ∧ i = .int .i64 k ∧ c = .int .i64 C ∧ Hid (C = crcAll (bs.take k))) (fun _ i => n - (intOf i).toNat)
 case atStart => exact ⟨0, 4294967295, Nat.zero_le _, rfl, rfl, Lib.hid rfl⟩
 case round =>
  obtain ⟨k, C, hk, rfl, rfl, HC⟩ := hrel
  have hC : C < 4294967296 := by rw [HC.out]; exact crcAll_lt _ (fun x hx => Hr.out.2.2.1 x (List.mem_of_mem_take hx))
  by_cases hlt : k < n
  ·obtain ⟨b, off, rfl, _, hcell⟩ := Hr.out.2.2.2 (by omega)
   have hck := hcell k hlt
   have hbk := getD_lt Hr.out.2.2.1 k
   have Hts := Lib.hid (take_snoc' bs k (by rw [Hr.out.1]; exact hlt))
   clear hcell
   generalize hx : bs.getD k 0 = x at *
   clear hx
   obtain ⟨D, hD⟩ : ∃ D, C ^^^ x = D := ⟨_, rfl⟩
   have hDl : D < 4294967296 := by rw [← hD]; exact xor_lt32 hC hbk
   have hxor : bits .xor .i64 (C : Int) (x : Int) = (D : Int) := by rw [i64_xor_nat C x (by omega) (by omega), hD]
   have HD := Lib.hid hD
   clear hD
   go_wp2
   go_loop [3, 17] (fun c i => ∃ (j E : Nat), j ≤ 8 ∧ i = .int .i64 j ∧ c = .int .i64 E ∧ Hid (E = crcN j D)) (fun _ i => 8 - (intOf i).toNat)
   case atStart => exact ⟨0, D, by omega, rfl, rfl, Lib.hid rfl⟩
   case round =>
    obtain ⟨j, E, hj, rfl, rfl, HE⟩ := hrel
    by_cases hj8 : j < 8
    ·have hE : E < 4294967296 := by rw [HE.out]; exact crcN_lt hDl j
     by_cases hodd : E % 2 = 1
     ·have ho : ((E : Int) % 2 == 1) = true := beq_iff_eq.2 (by omega)
      obtain ⟨F, hF⟩ : ∃ F, E / 2 ^^^ 3988292384 = F := ⟨_, rfl⟩
      have hp : bits .xor .i64 ((E : Int) / 2) 3988292384 = (F : Int) := by
       rw [← hF, ← poly64 (E / 2) (by omega)]; rfl
      have Hs : Hid (F = crcN (j + 1) D) := Lib.hid (by rw [← hF, crcN, ← HE.out, crcBit, if_pos hodd])
      clear hodd hF
      go_wp2
      go_round
      case rel => exact ⟨j + 1, F, by omega, by go_num, rfl, Hs⟩
      case measure => simp [intOf]; omega
     ·have ho : ((E : Int) % 2 == 1) = false := beq_eq_false_iff_ne.2 (by omega)
      have Hs : Hid (E / 2 = crcN (j + 1) D) := Lib.hid (by rw [crcN, ← HE.out, crcBit, if_neg hodd])
      clear hodd
      go_wp2
      go_round
      case rel => exact ⟨j + 1, E / 2, by omega, by go_num, by go_num, Hs⟩
      case measure => simp [intOf]; omega
    ·obtain rfl : j = 8 := by omega
     have HE2 : Hid (E = crcAll (bs.take (k + 1))) := Lib.hid (by rw [Hts.out, crcAll_snoc, HE.out, crcByte, ← HC.out, ← HD.out])
     go_wp2
     go_round
     case rel => exact ⟨k + 1, E, by omega, by go_num, rfl, HE2⟩
     case measure => simp [intOf]; omega
  ·obtain rfl : k = n := by omega
   have hF : C ^^^ 4294967295 = sum bs := by rw [HC.out, List.take_of_length_le (by rw [Hr.out.1]; omega), sum]
   have hnot : bits .xor .i64 (C : Int) 4294967295 = ((sum bs : Nat) : Int) := by
    have h := i64_xor_nat C 4294967295 (by omega) (by decide)
    rw [hF] at h
    exact h
   have hsl : ((sum bs : Nat) : Int) ≤ 4294967295 := by have := sum_lt bs Hr.out.2.2.1; omega
   clear hF
   generalize hS : sum bs = S at *
   have HS := Lib.hid hS
   clear hS
   go_wp2
   go_ret
   exact ⟨congrArg (fun z : Nat => Ending.returned (.int .i64 (z : Int))) HS.out.symm, rfl⟩
end Go.Proofs.YtpdedfpacklnoaaGreatDoor.W
