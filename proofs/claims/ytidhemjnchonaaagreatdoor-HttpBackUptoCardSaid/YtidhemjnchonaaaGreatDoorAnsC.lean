/- Contract of http.Write, of any answer. -/
import Derived.Test.YtidhemjnchonaaaGreatDoorAnsA
import Derived.Test.YtidhemjnchonaaaGreatDoorAnsB
namespace Go.Proofs.YtidhemjnchonaaaGreatDoor
open Go.RowKit Go.BL

def WriR (r : Except Int (List UInt8)) (w : World) (e : Ending) (w' : World) : Prop :=
  Below w.heap.size w w' ∧ match r with
  | .ok bs => ∃ v, e = .returned (.tuple #[v, .int .i64 0]) ∧ Bsl w' v bs
  | .error c => e = .returned (.tuple #[.slice none 0 0, .int .i64 c])
set_option maxHeartbeats 4000000 in
set_option maxRecDepth 100000 in
theorem write_any (a : Ans) (h : Value) (w : World) (hd : Hdrs w h a.hs) (ht : Tab w) (hst : -9223372036854775808 ≤ a.st ∧ a.st ≤ 9223372036854775807) (hbl : a.b.length ≤ 536870912) (hl : (headA a).length ≤ 536870912) :
    Calls Tryz.prog 29 #[ansV a h] w (WriR (writeL a) w) := by
  obtain ⟨A, c, rfl⟩ := hd.form
  obtain ⟨X, hX⟩ : ∃ x, writeL a = x := ⟨_, rfl⟩
  rw [hX]
  unfold writeL at hX
  have hhd := fun w hd ht => head_any a (.slice A a.hs.length c) w hd ht hst (by omega) (by omega)
  have hhl := head_len a
  obtain ⟨HH, hHH⟩ : ∃ x, headA a = x := ⟨_, rfl⟩
  rw [hHH] at hX hl hhd hhl
  obtain ⟨n, hs, b⟩ := a
  dsimp only at hX hd hbl hhd hst hhl
  dsimp only [ansV] at hhd ⊢
  have htx : (textL hs).length ≤ 536870912 := by omega
  have hre := reason_any n
  obtain ⟨R, hR⟩ : ∃ x, reasonL n = x := ⟨_, rfl⟩
  rw [hR] at hX hre
  obtain ⟨w0, hw0⟩ : ∃ w0, w.alloc (.cells #[.int .i64 n, .slice A hs.length c, .string ⟨b.toArray⟩] 53) = w0 := ⟨_, rfl⟩
  have HK : Hid (B3 w0 w.heap.size (.int .i64 n) (.slice A hs.length c) (.string ⟨b.toArray⟩)) := Lib.hid (by rw [← hw0]; exact B3.new w _ _ _ _)
  have HB : Hid (Below w.heap.size w w0) := Lib.hid (by rw [← hw0]; exact (Below.refl _ _).alloc (Nat.le_refl _) _)
  have HS : Hid (w.heap.size < w0.heap.size) := Lib.hid (by rw [← hw0]; simp)
  have HD := Lib.hid (hd.below HB.out (Nat.le_refl _))
  have HT := Lib.hid (ht.below HB.out)
  obtain ⟨_, A', c', heq, hcells⟩ := HD.out
  injection heq with e1 e2 e3
  subst e1 e3
  have HC := Lib.hid hcells
  have HTX := Lib.hid htx
  have HLB := Lib.hid hbl
  have HLH := Lib.hid hl
  have HHS : Hid (hs.length ≤ 536870912) := Lib.hid (by have := text_len (hs := hs); omega)
  have HH4 : Hid (4 ≤ HH.length) := Lib.hid (by omega)
  clear hd ht hst hhl htx hR e2 hcells hHH
  obtain ⟨q0, q1, q2, -, -, -⟩ := HK.out
  cases R with
  | nil =>
    rw [if_pos rfl] at hX
    subst hX
    clear hbl hl
    go_enter Tryz.func29, Tryz.ntmps29
    go_wp2_with (go_at_call 14; refine (hre _).mono ?_; rintro e w' ⟨rfl, rfl⟩)
    go_ret2
    exact ⟨HB.out, rfl⟩
  | cons r0 rt =>
  rw [if_neg (by simp)] at hX
  have HX := Lib.hid hX
  clear hX hbl hl
  go_enter Tryz.func29, Tryz.ntmps29
  go_wp2_with (go_at_call 14; refine (hre _).mono ?_; rintro e w' ⟨rfl, rfl⟩)
  clear hw0 q0 q1 q2 hre
  go_loopw [14] (fun j wr => ∃ k : Nat, j = .int .i64 (k : Int) ∧ k ≤ hs.length ∧ Hid ((hs.take k).all fieldL = true) ∧ Hid (Below w0.heap.size w0 wr)) (fun j _ => hs.length - (intOf j).toNat)
  case atStart => exact ⟨0, rfl, by omega, Lib.hid rfl, Lib.hid (Below.refl _ _)⟩
  case round =>
    obtain ⟨k, rfl, hk, HA, HBk⟩ := hrel
    have HSZ := Lib.hid HBk.out.size
    by_cases hlt : k < hs.length
    · obtain ⟨bb, off, rfl, hbl, hc⟩ := HC.out (by omega)
      obtain ⟨c1, c2⟩ := hc k hlt
      have hmem : hs[k] ∈ hs := List.getElem_mem hlt
      have hml := text_mem hmem
      have HTK : Hid (hs.take (k + 1) = hs.take k ++ [hs[k]]) := Lib.hid (List.take_succ_eq_append_getElem hlt)
      have HMEM := Lib.hid hmem
      clear hmem
      generalize hs[k] = z at *
      obtain ⟨m, x⟩ := z
      dsimp only at c1 c2 hml
      have d1 := (HBk.out.cell (p := ⟨bb, off + k * 2, none⟩) hbl).trans c1
      have d2 := (HBk.out.cell (p := ⟨bb, off + k * 2 + 1, none⟩) hbl).trans c2
      have hfd := fun w => field_any m x w (by have := HTX.out; omega) (by have := HTX.out; omega)
      obtain ⟨g, hg⟩ : ∃ g, fieldL (m, x) = g := ⟨_, rfl⟩
      rw [hg] at hfd
      have HG := Lib.hid hg
      clear hg hc c1 c2 hml
      cases g
      · have HF : Hid (X = .error 141) := Lib.hid (by
          rw [← HX.out, if_pos]
          rw [List.all_eq_false]
          exact ⟨_, HMEM.out, by rw [HG.out]; decide⟩)
        go_wp2_with (go_at_call 53; refine (hfd _).mono ?_; rintro e w5 ⟨rfl, hb⟩; have HB5 := Lib.hid ((HBk.out.alloc HSZ.out (.cells #[.string ⟨m.toArray⟩, .string ⟨x.toArray⟩] 44)).trans (hb.mono (by have := HSZ.out; simp; omega))); clear hb)
        go_ret2
        exact ⟨HB.out.trans (HB5.out.mono HB.out.size), by rw [HF.out]; rfl⟩
      · have HN : Hid ((hs.take (k + 1)).all fieldL = true) := Lib.hid (by rw [HTK.out, List.all_append, HA.out]; simp [HG.out])
        go_wp2_with (go_at_call 53; refine (hfd _).mono ?_; rintro e w5 ⟨rfl, hb⟩; have HB5 := Lib.hid ((HBk.out.alloc HSZ.out (.cells #[.string ⟨m.toArray⟩, .string ⟨x.toArray⟩] 44)).trans (hb.mono (by have := HSZ.out; simp; omega))); clear hb)
        exact ⟨⟨k + 1, by go_num, by omega, HN, HB5⟩, by simp [intOf]; omega⟩
    · have HALL : Hid (hs.all fieldL = true) := Lib.hid (by have := HA.out; rwa [List.take_of_length_le (by omega)] at this)
      have hX := HX.out
      rw [if_neg (by rw [HALL.out]; decide)] at hX
      clear HX
      obtain ⟨j0, j1, j2, -, -, -⟩ := HK.out.below HBk.out HS.out
      by_cases h32 : 32 ≤ hs.length
      · have h32' : (32 : Int) ≤ (hs.length : Int) := by omega
        rw [if_pos h32] at hX
        subst hX
        go_wp2_with fail
        go_ret2
        exact ⟨HB.out.trans (HBk.out.mono HB.out.size), rfl⟩
      have h32' : ¬ (32 : Int) ≤ (hs.length : Int) := by omega
      rw [if_neg h32] at hX
      by_cases hb4 : 4096 < b.length
      · have hb4' : (4096 : Int) < (b.length : Int) := by omega
        rw [if_pos hb4] at hX
        subst hX
        go_wp2_with fail
        go_ret2
        exact ⟨HB.out.trans (HBk.out.mono HB.out.size), rfl⟩
      have hb4' : ¬ (4096 : Int) < (b.length : Int) := by omega
      rw [if_neg hb4] at hX
      have hw : wrap64 ((HH.length : Int) - 4) = (HH.length : Int) - 4 := by have := HLH.out; have := HH4.out; unfold wrap64; omega
      have HD5 := Lib.hid (HD.out.below HBk.out (Nat.le_refl _))
      by_cases hlg : 65536 + 4 < HH.length
      · have hlg' : (65536 : Int) < (HH.length : Int) - 4 := by omega
        rw [if_pos hlg] at hX
        subst hX
        clear hlg
        go_wp2_with (go_at_call 54; refine (hhd _ HD5.out (HT.out.below HBk.out)).mono ?_; rintro e w5 ⟨rfl, hb⟩; have HB5 := Lib.hid (HBk.out.trans (hb.mono HSZ.out)); clear hb)
        go_ret2
        exact ⟨HB.out.trans (HB5.out.mono HB.out.size), rfl⟩
      have hlg' : ¬ (65536 : Int) < (HH.length : Int) - 4 := by omega
      rw [if_neg hlg] at hX
      subst hX
      clear hlg
      have r1 := cat_run HH b (HH ++ b) rfl (by have := HLH.out; have := HLB.out; omega)
      obtain ⟨BS, hBS⟩ : ∃ x, HH ++ b = x := ⟨_, rfl⟩
      rw [hBS] at r1 ⊢
      have HBL : Hid (BS.length ≤ 1073741824) := Lib.hid (by rw [← hBS, List.length_append]; have := HLH.out; have := HLB.out; omega)
      have HBS := Lib.hid hBS
      clear hBS
      go_wp2_with (go_at_call 54; refine (hhd _ HD5.out (HT.out.below HBk.out)).mono ?_; rintro e w5 ⟨rfl, hb⟩; have HB5 := Lib.hid (HBk.out.trans (hb.mono HSZ.out)); clear hb; obtain ⟨k0, k1, k2, -, -, -⟩ := HK.out.below HB5.out HS.out; obtain ⟨v6, w6, hcv, hown, hbel⟩ := OwnM.conv BS (by have := HBL.out; omega) w5; have HOWN := Lib.hid hown; have HB6 := Lib.hid (HB5.out.trans (hbel.mono HB5.out.size)); clear hown hbel)
      go_ret2
      exact ⟨HB.out.trans (HB6.out.mono HB.out.size), v6, rfl, by rw [HBS.out]; exact HOWN.out.bsl (by have := HBL.out; omega)⟩
end Go.Proofs.YtidhemjnchonaaaGreatDoor
