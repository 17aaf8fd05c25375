/- Contracts of the document's number and line of an answer. Contract of the document's answer, of the lines that an answer was written in. -/
import Derived.Test.YtpdedfpacklnoaaGreatDoorTqRH
import Derived.Test.YtpdedfpacklnoaaGreatDoorTqRdP
import Derived.Test.YtpdedfpacklnoaaGreatDoorTqTaP
import Derived.BigQuiet
import Derived.Deep.RegionWith
set_option maxRecDepth 100000
namespace Go.Proofs.YtpdedfpacklnoaaGreatDoor
open Go.RowKit Go.BL Go.Ct Go.Sl Go.Fl

set_option maxHeartbeats 2000000 in
set_option maxRecDepth 100000 in
theorem number_any (N : Nat) (hN : N ≤ 9223372036854775807) (w : World) : Calls Tryz.prog 131 #[.int .i64 (N : Int)] w (RetV (.string ⟨(Lib.itoa (N : Int)).toArray⟩) w) := by
 rw [itoa_nat]
 have HN := Lib.hid hN
 have hN' : (N : Int) ≤ 9223372036854775807 := by omega
 clear hN
 go_enter Tryz.func131, Tryz.ntmps131
 go_wp2_with fail
 go_loopw [0, 3] (fun i v wr => ∃ (n : Nat) (t : List UInt8), (n : Int) ≤ 9223372036854775807 ∧ i = .int .i64 (n : Int) ∧ v = .string ⟨t.toArray⟩ ∧ Hid (T.fin n t = Lib.decDigits N) ∧ Hid (Below w.heap.size w wr)) (fun i v _ => 2 * (intOf i).toNat + (1 - T.lenOf v))
 case atStart => exact ⟨N, [], hN', rfl, rfl, Lib.hid (T.fin_start N), Lib.hid (Below.refl _ _)⟩
 case round =>
  obtain ⟨n, t, hn', rfl, rfl, He, Hb⟩ := hrel
  have Ht := Lib.hid (fin_len He.out HN.out)
  have hlen : ¬ 9223372036854775807 < 1 + t.length := by have := Ht.out; omega
  obtain ⟨c, hc⟩ : ∃ c : Nat, 48 + (n : Int) % 10 = (c : Int) := ⟨48 + n % 10, by omega⟩
  have hc2 : c < 256 := by omega
  have hcc := fun w => T.conv1 w 5 c hc2
  have Hc : Hid (48 + n % 10 = c) := Lib.hid (by omega)
  have Hbc := Lib.hid (T.bcat [UInt8.ofNat c] t)
  by_cases hp : 0 < n
  ·go_wp2_with fail
   go_roundw
   case rel => exact ⟨n / 10, UInt8.ofNat c :: t, by omega, by go_num, congrArg Value.string Hbc.out, Lib.hid (by rw [← Hc.out, T.fin_step (.inl hp)]; exact He.out), Lib.hid (Hb.out.alloc Hb.out.size _)⟩
   case measure => rw [Hbc.out]; simp [intOf, T.lenOf, ByteArray.size]; omega
  ·obtain rfl : n = 0 := by omega
   clear hp
   rcases t with _ | ⟨a, t⟩
   ·clear hcc hc hc2 Hbc
    have hcc := T.conv48
    have Hbc := Lib.hid (T.bcat [48] [])
    go_wp2_with fail
    go_roundw
    case rel => exact ⟨0, [48], by omega, rfl, congrArg Value.string Hbc.out, Lib.hid ((T.fin_step (n := 0) (t := []) (.inr rfl)).trans He.out), Lib.hid (Hb.out.alloc Hb.out.size _)⟩
    case measure => rw [Hbc.out]; simp [intOf, T.lenOf, ByteArray.size]
   ·have HF : Hid (Lib.decDigits N = a :: t) := Lib.hid (by rw [← He.out]; unfold T.fin; rw [if_neg (by simp)])
    go_wp2_with fail
    go_ret
    exact ⟨by rw [HF.out]; rfl, Hb.out⟩
theorem reason_small (n : Int) : (H.reasonL n).length ≤ 31 := H.reason_le n
set_option maxHeartbeats 2000000 in
theorem lineR2_any (n : Nat) (hn : n ≤ 100000) (w : World) : Calls Tryz.prog 79 #[.int .i64 (n : Int)] w (RetV (.string ⟨(H.lineA (n : Int)).toArray⟩) w) := by
 have hnu := fun w => number_any n (by omega) w
 have hre := fun w => H.reasonR_any (n : Int) w
 have hl1 := itoa_len n (by omega)
 have hl2 := reason_small (n : Int)
 obtain ⟨I, hI⟩ : ∃ y, Lib.itoa (n : Int) = y := ⟨_, rfl⟩
 obtain ⟨R, hR⟩ : ∃ y, H.reasonL (n : Int) = y := ⟨_, rfl⟩
 unfold H.lineA
 rw [hI] at hnu hl1 ⊢
 rw [hR] at hre hl2 ⊢
 obtain ⟨s1, h1⟩ : ∃ y, H.stat11 ++ I = y := ⟨_, rfl⟩
 obtain ⟨s2, h2⟩ : ∃ y, s1 ++ [32] = y := ⟨_, rfl⟩
 obtain ⟨s3, h3⟩ : ∃ y, s2 ++ R = y := ⟨_, rfl⟩
 have hs0 : H.stat11.length = 9 := rfl
 have hs1 : s1.length = 9 + I.length := by rw [← h1]; simp [hs0]
 have hs2 : s2.length = 10 + I.length := by rw [← h2]; simp [hs1]; omega
 have k1 := cat_run H.stat11 I s1 h1 (by omega)
 have k2 := cat_run s1 [32] s2 h2 (by simp; omega)
 have k3 := cat_run s2 R s3 h3 (by omega)
 unfold H.stat11 at k1
 rw [h1, h2, h3]
 clear hI hR h1 h2 h3 hs0 hs1 hs2 hl1 hl2 hn
 unfold RetV at hnu
 go_enter Tryz.func79, Tryz.ntmps79
 go_wp2_with (first | (go_at_call 131; refine (hnu _).mono ?_; rintro e w1 ⟨rfl, hb⟩; have HB1 := Lib.hid hb; clear hb) | (go_at_call 73; refine (hre _).mono ?_; rintro e w2 ⟨rfl, rfl⟩))
 go_ret
 exact ⟨rfl, HB1.out⟩
end Go.Proofs.YtpdedfpacklnoaaGreatDoor
set_option maxRecDepth 100000
namespace Go.Proofs.YtpdedfpacklnoaaGreatDoor
open Go.RowKit Go.BL Go.Ct Go.Sl

def AnsR (a : H.Ans) (w : World) (e : Ending) (w' : World) : Prop := Below w.heap.size w w' ∧ ∃ h, e = .returned (.tuple #[H.ansV a h, .int .i64 0]) ∧ H.OwnH w' w.heap.size h a.hs
theorem ownH_base {w : World} {B B' : Nat} {v : Value} {hs : List H.Hdr} (h : H.OwnH w B v hs) (hB : B' ≤ B) : H.OwnH w B' v hs := by
 refine ⟨h.1, ?_⟩
 rcases h.2 with h0 | ⟨g, cap, cur, hv, hg, r⟩
 ·exact .inl h0
 ·exact .inr ⟨g, cap, cur, hv, by omega, r⟩
/-- The document's header of a line of an answer: two boxes' words. -/
theorem line_at {hs : List H.Hdr} {n k : Nat} (h : k < hs.length) (h' : k < (hs.map H.lineH ++ [H.clLine n]).length) : (hs.map H.lineH ++ [H.clLine n])[k] = H.lineH hs[k] := by
 rw [List.getElem_append_left (by simpa using h), List.getElem_map]
theorem line_last {hs : List H.Hdr} {n : Nat} (h' : hs.length < (hs.map H.lineH ++ [H.clLine n]).length) : (hs.map H.lineH ++ [H.clLine n])[hs.length] = H.clLine n := by
 rw [List.getElem_append_right (by simp)]
 simp
set_option maxHeartbeats 16000000 in
theorem answerD_any (st : Int) (hs : List H.Hdr) (bd hd : List UInt8) (v : Value) (w : World) (hv : H.Txts w v (hs.map H.lineH ++ [H.clLine bd.length])) (hf : hs.all H.fieldL = true) (hlen : hs.length < 32) (hb : bd.length ≤ 4096) (hh : hd.length ≤ 65536)
  (hll : ∀ x ∈ hs, x.1.length ≤ 100000 ∧ x.2.length ≤ 100000) :
  Calls Tryz.prog 80 #[.int .i64 st, v, .string ⟨hd.toArray⟩, .string ⟨bd.toArray⟩] w (AnsR ⟨st, hs, bd⟩ w) := by
 obtain ⟨A, cp, rfl, hcp, hcells⟩ := hv
 have hn : (hs.map H.lineH ++ [H.clLine bd.length]).length = hs.length + 1 := by simp
 obtain ⟨b, off, rfl, hbl, hcc⟩ := hcells (by rw [hn]; omega)
 rw [hn] at hcp ⊢
 have HF : Hid (∀ x ∈ hs, H.fieldL x = true) := Lib.hid (List.all_eq_true.1 hf)
 have HLL := Lib.hid hll
 have HCC := Lib.hid hcc
 have HBD := Lib.hid hb
 have hbd' : ¬ (4096 : Int) < (bd.length : Int) := by omega
 have hhd' : ¬ (65536 : Int) < (hd.length : Int) := by omega
 obtain ⟨w0, hw0⟩ : ∃ y, w.alloc (.cells #[.int .i64 0, .slice none 0 0, .string ⟨#[]⟩] 67) = y := ⟨_, rfl⟩
 obtain ⟨w1, hw1⟩ : ∃ y, w0.alloc (.cells #[.int .i64 st, .slice none 0 0, .string ⟨bd.toArray⟩] 67) = y := ⟨_, rfl⟩
 have HB1 : Hid (Below w.heap.size w w1) := Lib.hid (by rw [← hw1, ← hw0]; exact ((Below.refl _ _).alloc (Nat.le_refl _) _).alloc (by simp) _)
 have HR1 : Hid (Bk w1 w.heap.size [.int .i64 0, .slice none 0 0, .string ⟨#[]⟩]) := Lib.hid (by rw [← hw1, ← hw0]; exact (Bk.new w [.int .i64 0, .slice none 0 0, .string ⟨#[]⟩] 67 rfl).alloc _ (by simp))
 have HA1 : Hid (Bk w1 (w.heap.size + 1) [.int .i64 st, .slice none 0 0, .string ⟨bd.toArray⟩]) := Lib.hid (by rw [← hw1]; exact Bk.new w0 _ 67 (by rw [← hw0]; simp))
 have HS1 : Hid (w.heap.size + 2 ≤ w1.heap.size) := Lib.hid (by rw [← hw1, ← hw0]; simp)
 have hw0s : w0.heap.size = w.heap.size + 1 := by rw [← hw0]; simp
 have HW0 := Lib.hid hw0
 have HW1 := Lib.hid hw1
 have HWS := Lib.hid hw0s
 clear hf hll hcc hcells hn hb hh hw0 hw1 hw0s
 go_enter Tryz.func80, Tryz.ntmps80
 go_upto_region 1 with fail
 rw [HW0.out]
 go_upto_region 2 with fail
 rw [HW1.out, HWS.out]
 clear HW0 HW1
 go_wp2_with fail
 go_loopw [11, 12] (fun l i wr => ∃ (k : Nat) (hv : Value) (ln : Int), i = .int .i64 (k : Int) ∧ l = .int .i64 ln ∧ k ≤ hs.length + 1 ∧ Hid ((k ≤ hs.length ∧ ln = -1) ∨ (k = hs.length + 1 ∧ ln = bd.length)) ∧ Hid (Below w.heap.size w wr) ∧ Hid (Bk wr w.heap.size [.int .i64 0, .slice none 0 0, .string ⟨#[]⟩]) ∧ Hid (Bk wr (w.heap.size + 1) [.int .i64 st, hv, .string ⟨bd.toArray⟩]) ∧ Hid (H.OwnH wr (w.heap.size + 2) hv (hs.take k)) ∧ Hid (w.heap.size + 2 ≤ wr.heap.size)) (fun _ i _ => hs.length + 1 - (intOf i).toNat)
 case atStart => exact ⟨0, .slice none 0 0, -1, rfl, rfl, by omega, Lib.hid (.inl ⟨by omega, rfl⟩), HB1, HR1, HA1, Lib.hid (H.OwnH.nil _ _), HS1⟩
 case round =>
  obtain ⟨k, hv, ln, rfl, rfl, hk, HLN, HBr, HRr, HAr, HOr, HSr⟩ := hrel
  obtain ⟨A4, c4, hvf⟩ := H.OwnH.form HOr.out
  have HVF := Lib.hid hvf
  clear hvf
  rcases Nat.lt_or_ge k (hs.length + 1) with hlt | hge
  ·have hlt' : (k : Int) < ((hs.length + 1 : Nat) : Int) := by omega
   have hcell := old_cell HBr.out hbl (HCC.out k (by simp; omega))
   rcases Nat.lt_or_ge k hs.length with hk2 | hk2
   ·have hx : H.fieldL hs[k] = true := HF.out _ (List.getElem_mem hk2)
    rw [line_at hk2] at hcell
    have HHD := Lib.hid (H.header_field hx)
    have HTK : Hid (hs.take (k + 1) = hs.take k ++ [hs[k]]) := Lib.hid (List.take_succ_eq_append_getElem hk2)
    have hlx := HLL.out _ (List.getElem_mem hk2)
    have hne := (H.field_parts hx).2.2.1
    obtain ⟨⟨hnm, hvl⟩, hhe⟩ : ∃ y, hs[k] = y := ⟨_, rfl⟩
    rw [hhe] at hcell HHD HTK hlx hne
    dsimp only at hlx hne
    have hcl : (hnm == H.clK) = false := beq_false_of_ne hne
    unfold H.clK at hcl
    obtain ⟨LN, hLN⟩ : ∃ y, H.lineH (hnm, hvl) = y := ⟨_, rfl⟩
    obtain ⟨s1, hs1⟩ : ∃ y, hnm ++ [58, 32] = y := ⟨_, rfl⟩
    have hLN2 : s1 ++ hvl = LN := by rw [← hLN, ← hs1]; unfold H.lineH; simp
    have k1 := cat_run hnm [58, 32] s1 hs1 (by simp; omega)
    have k2 := cat_run s1 hvl LN hLN2 (by rw [← hs1]; simp; omega)
    have hhr := fun w => H.headerR_any LN (by rw [← hLN2, ← hs1]; simp; omega) w
    rw [hLN] at hcell HHD
    have hhr2 : ∀ w, Calls Tryz.prog 132 #[.string ⟨LN.toArray⟩] w fun e w' => e = .returned (.tuple #[.agg #[.string ⟨hnm.toArray⟩, .string ⟨hvl.toArray⟩], .bool true]) ∧ Below w.heap.size w w' := fun w => (hhr w).mono fun e w' ⟨a, b, h1, h2, h3⟩ => by
     have h4 := h3 _ HHD.out
     injection h4 with h5 h6
     rw [HHD.out] at h1
     exact ⟨by rw [h1, ← h5, ← h6]; rfl, h2⟩
    clear hhr hx hhe hne hLN hLN2 hs1 hlx
    go_upto_region 6 with fail
    go_upto_region 7 with (go_at_call 132; refine (hhr2 _).mono ?_; rintro e w2 ⟨rfl, hb2⟩; have HB2 := Lib.hid hb2; clear hb2)
    obtain ⟨gx, hgx⟩ : ∃ y, w2.heap.size = y := ⟨_, rfl⟩
    obtain ⟨w3, hw3⟩ : ∃ y, w2.alloc (.cells #[.string ⟨hnm.toArray⟩, .string ⟨hvl.toArray⟩] 45) = y := ⟨_, rfl⟩
    have hb3 : Below w2.heap.size w2 w3 := by rw [← hw3]; exact (Below.refl _ _).alloc (Nat.le_refl _) _
    have HBX : Hid (Below wr.heap.size wr w3) := Lib.hid (HB2.out.trans (hb3.mono HB2.out.size))
    have HG3 : Hid (Bk w3 gx [.string ⟨hnm.toArray⟩, .string ⟨hvl.toArray⟩]) := Lib.hid (by rw [← hw3]; exact Bk.new w2 _ 45 hgx.symm)
    have HB3 : Hid (Below w.heap.size w w3) := Lib.hid (HBr.out.trans (HBX.out.mono HBr.out.size))
    have HR3 : Hid (Bk w3 w.heap.size _) := Lib.hid (HRr.out.below HBX.out (by have := HSr.out; omega))
    have HA3 : Hid (Bk w3 (w.heap.size + 1) _) := Lib.hid (HAr.out.below HBX.out (by have := HSr.out; omega))
    have HO3 : Hid (H.OwnH w3 (w.heap.size + 2) hv (hs.take k)) := Lib.hid (H.OwnH.below HOr.out HBX.out (Nat.le_refl _))
    have HS3 : Hid (w.heap.size + 2 ≤ w3.heap.size) := Lib.hid (Nat.le_trans HSr.out HBX.out.size)
    have hcell := old_cell HBX.out (by have := HSr.out; omega) hcell
    have HW3 := Lib.hid hw3
    have HGX := Lib.hid hgx
    clear hw3 hgx hb3
    try rw [HGX.out]
    try rw [HW3.out]
    clear HW3 HGX
    obtain ⟨y0, -⟩ := HG3.out 0 _ rfl
    obtain ⟨y1, -⟩ := HG3.out 1 _ rfl
    go_quiet (fail)
    have y0 : (w3.drewN nq).cell? ⟨gx, 0, none⟩ = some (.string ⟨hnm.toArray⟩) := y0
    have y1 : (w3.drewN nq).cell? ⟨gx, 1, none⟩ = some (.string ⟨hvl.toArray⟩) := y1
    obtain ⟨z1, zf1⟩ : (w3.drewN nq).cell? ⟨w.heap.size + 1, 1, none⟩ = some hv ∧ (w3.drewN nq).frozen? ⟨w.heap.size + 1, 1, none⟩ = false := HA3.out 1 _ rfl
    go_upto_region 14 with fail
    obtain ⟨g4, hg4⟩ : ∃ y, (w3.drewN nq).heap.size = y := ⟨_, rfl⟩
    have hg4' : w3.heap.size = g4 := hg4
    obtain ⟨w4, hw4⟩ : ∃ y, (w3.drewN nq).alloc (.cells #[.string ⟨hnm.toArray⟩, .string ⟨hvl.toArray⟩] 45) = y := ⟨_, rfl⟩
    have hb4 : Below w3.heap.size w3 w4 := by rw [← hw4]; exact (H.below_drewN (Below.refl _ _) _).alloc (Nat.le_refl _) _
    have HG4 : Hid (Bk w4 g4 [.string ⟨hnm.toArray⟩, .string ⟨hvl.toArray⟩]) := Lib.hid (by rw [← hw4]; exact Bk.new _ _ 45 hg4.symm)
    have HO4 : Hid (H.OwnH w4 (w.heap.size + 2) hv (hs.take k)) := Lib.hid (H.OwnH.below HO3.out hb4 (Nat.le_refl _))
    have HBY : Hid (Below (w.heap.size + 2) w3 w4) := Lib.hid (hb4.mono HS3.out)
    have HS4 : Hid (w.heap.size + 2 ≤ w4.heap.size) := Lib.hid (Nat.le_trans HS3.out hb4.size)
    have HTL : Hid ((hs.take k).length ≤ 1000000) := Lib.hid (by rw [List.length_take]; omega)
    have HW4 := Lib.hid hw4
    have HG4' := Lib.hid hg4'
    clear hw4 hg4 hg4' hb4 hcell
    go_wp2_with (at_builtin; rw [HW4.out]; try rw [HG4'.out]; refine H.wpList_appH rfl (.tmp 78) (.tmp 80) rfl rfl HO4.out (g := g4) (c := 1) (h1 := (hnm, hvl)) rfl (HG4.out 0 _ rfl).1 (HG4.out 1 _ rfl).1 HTL.out HS4.out ?_; intro v' w5 hown hb5; obtain ⟨A6, c6, rfl⟩ := H.OwnH.form hown; have HO5 := Lib.hid hown; have HBZ : Hid (Below (w.heap.size + 2) w3 w5) := Lib.hid (HBY.out.trans hb5); have HA5 := Lib.hid (HA3.out.below HBZ.out (by simp)); obtain ⟨z1, zf1⟩ := HA5.out 1 _ rfl; clear hown hb5)
    go_roundw
    case rel =>
     refine ⟨k + 1, _, ln, by go_num, rfl, by omega, Lib.hid (.inl ⟨by omega, by rcases HLN.out with ⟨_, h⟩ | ⟨h, _⟩; exact h; omega⟩), Lib.hid ((HB3.out.trans (HBZ.out.mono (by simp))).setCell (p := ⟨w.heap.size + 1, 1, none⟩) (by simp) _), Lib.hid ((HR3.out.below HBZ.out (by simp)).other (p := ⟨w.heap.size + 1, 1, none⟩) (by simp) _), Lib.hid (HA5.out.set 1 _), Lib.hid ?_, Lib.hid ?_⟩
     ·rw [HTK.out]
      have h := H.OwnH.setCell HO5.out (p := ⟨w.heap.size + 1, 1, none⟩) (by simp) (.slice A6 (min k hs.length + 1) c6)
      simp only [List.length_append, List.length_take, List.length_cons, List.length_nil, Nat.zero_add] at h
      exact h
     ·rw [World.size_setCell]; exact Nat.le_trans HS3.out HBZ.out.size
    case measure => simp [intOf]; omega
   ·obtain rfl : k = hs.length := by omega
    rw [line_last] at hcell
    have HHD := Lib.hid (H.header_cl (n := bd.length) HBD.out)
    have hdg := Lib.hid (H.digits_itoa (n := bd.length) HBD.out)
    have hl9 := H.itoa_len9 (n := bd.length) HBD.out
    have hnu := fun w => number_any bd.length (by have := HBD.out; omega) w
    unfold RetV at hnu
    obtain ⟨IT, hIT⟩ : ∃ y, Lib.itoa (bd.length : Int) = y := ⟨_, rfl⟩
    obtain ⟨LN, hLN⟩ : ∃ y, H.clLine bd.length = y := ⟨_, rfl⟩
    obtain ⟨s1, hs1⟩ : ∃ y, H.clK ++ [58, 32] = y := ⟨_, rfl⟩
    have hLN2 : s1 ++ IT = LN := by rw [← hLN, ← hs1, ← hIT]; unfold H.clLine; rfl
    have hck : H.clK.length = 14 := rfl
    rw [hIT] at HHD hdg hl9 hnu
    have k1 := cat_run H.clK [58, 32] s1 hs1 (by simp [hck])
    have k2 := cat_run s1 IT LN hLN2 (by rw [← hs1]; simp [hck]; omega)
    have hhr := fun w => H.headerR_any LN (by rw [← hLN2, ← hs1]; simp [hck]; omega) w
    rw [hLN] at hcell HHD
    have hhr2 : ∀ w, Calls Tryz.prog 132 #[.string ⟨LN.toArray⟩] w fun e w' => e = .returned (.tuple #[.agg #[.string ⟨H.clK.toArray⟩, .string ⟨IT.toArray⟩], .bool true]) ∧ Below w.heap.size w w' := fun w => (hhr w).mono fun e w' ⟨a, b, h1, h2, h3⟩ => by
     have h4 := h3 _ HHD.out
     injection h4 with h5 h6
     rw [HHD.out] at h1
     exact ⟨by rw [h1, ← h5, ← h6]; rfl, h2⟩
    have hdg2 : ∀ w, Calls Tryz.prog 133 #[.string ⟨IT.toArray⟩] w fun e w' => e = .returned (.tuple #[.int .i64 (bd.length : Int), .bool true]) ∧ w = w' := fun w => (H.digitsR_any IT (by omega) w).mono fun e w' ⟨h0, m, h1, _, h3⟩ => by
     have h4 := h3 _ hdg.out
     rw [hdg.out, h4] at h1
     exact ⟨h1, h0⟩
    have hkk : ((hs.length : Int) != (hs.length : Int)) = false := by simp
    clear hhr hLN hLN2 hs1 hIT hl9 hck
    unfold H.clK at hhr2 k1
    go_upto_region 6 with fail
    go_upto_region 7 with (go_at_call 132; refine (hhr2 _).mono ?_; rintro e w2 ⟨rfl, hb2⟩; have HB2 := Lib.hid hb2; clear hb2)
    obtain ⟨gx, hgx⟩ : ∃ y, w2.heap.size = y := ⟨_, rfl⟩
    obtain ⟨w3, hw3⟩ : ∃ y, w2.alloc (.cells #[.string ⟨#[99, 111, 110, 116, 101, 110, 116, 45, 108, 101, 110, 103, 116, 104]⟩, .string ⟨IT.toArray⟩] 45) = y := ⟨_, rfl⟩
    have hb3 : Below w2.heap.size w2 w3 := by rw [← hw3]; exact (Below.refl _ _).alloc (Nat.le_refl _) _
    have HBX : Hid (Below wr.heap.size wr w3) := Lib.hid (HB2.out.trans (hb3.mono HB2.out.size))
    have HG3 : Hid (Bk w3 gx [.string ⟨#[99, 111, 110, 116, 101, 110, 116, 45, 108, 101, 110, 103, 116, 104]⟩, .string ⟨IT.toArray⟩]) := Lib.hid (by rw [← hw3]; exact Bk.new w2 _ 45 hgx.symm)
    have HB3 : Hid (Below w.heap.size w w3) := Lib.hid (HBr.out.trans (HBX.out.mono HBr.out.size))
    have HS3 : Hid (gx < w3.heap.size) := Lib.hid (by rw [← hw3, ← hgx]; simp)
    have hcell := old_cell HBX.out (by have := HSr.out; omega) hcell
    have HW3 := Lib.hid hw3
    have HGX := Lib.hid hgx
    clear hw3 hgx hb3
    try rw [HGX.out]
    try rw [HW3.out]
    clear HW3 HGX
    obtain ⟨y0, -⟩ := HG3.out 0 _ rfl
    obtain ⟨y1, -⟩ := HG3.out 1 _ rfl
    go_quiet (fail)
    have y0 : (w3.drewN nq).cell? ⟨gx, 0, none⟩ = some (.string ⟨#[99, 111, 110, 116, 101, 110, 116, 45, 108, 101, 110, 103, 116, 104]⟩) := y0
    have y1 : (w3.drewN nq).cell? ⟨gx, 1, none⟩ = some (.string ⟨IT.toArray⟩) := y1
    go_upto_region 11 with (go_at_call 133; refine (hdg2 _).mono ?_; rintro e w4 ⟨rfl, rfl⟩)
    have HBW : Hid (Below wr.heap.size wr (w3.drewN nq)) := Lib.hid (H.below_drewN HBX.out nq)
    clear hcell
    refine hstart (S := fun u => u.cell? ⟨gx, 1, none⟩ = some (.string ⟨IT.toArray⟩)) (by kernel_rfl) (by repeat (first | exact PG.body | refine PG.then_ ?_ | refine PG.inBlock ?_)) ?_ (fun hPF hHeld => ?_)
    ·exact y1
    refine htake (i := 0) (v := .int .i64 (hs.length : Int)) rfl (by kernel_rfl) (by kernel_rfl) (by kernel_rfl) hPF (Or.inl ⟨by kernel_rfl, ?_⟩) hHeld ?_
    ·intro u p0; go_simp
    refine htake (i := 1) (v := .slice (some ⟨b, off, none⟩) (hs.length + 1) cp) rfl (by kernel_rfl) (by kernel_rfl) (by kernel_rfl) hPF (Or.inl ⟨by kernel_rfl, ?_⟩) hHeld ?_
    ·intro u p0; go_simp
    refine htake (i := 2) (v := .int .i64 ((hs.length + 1 : Nat) : Int)) rfl (by kernel_rfl) (by kernel_rfl) (by kernel_rfl) hPF (Or.inl ⟨by kernel_rfl, ?_⟩) hHeld ?_
    ·intro u p0; go_simp
    refine htake (i := 3) (v := .int .i64 (hs.length : Int)) rfl (by kernel_rfl) (by kernel_rfl) (by kernel_rfl) hPF (Or.inl ⟨by kernel_rfl, ?_⟩) hHeld ?_
    ·intro u p0; go_simp; rw [IntKind.wrap_i64]; omega
    refine htake (i := 4) (v := .bool false) rfl (by kernel_rfl) (by kernel_rfl) (by kernel_rfl) hPF (Or.inl ⟨by kernel_rfl, ?_⟩) hHeld ?_
    ·intro u p0; go_simp
    refine htake (i := 5) (v := .bool false) rfl (by kernel_rfl) (by kernel_rfl) (by kernel_rfl) hPF (Or.inl ⟨by kernel_rfl, ?_⟩) hHeld ?_
    ·intro u p0; go_simp
    refine htake (i := 6) (v := .bool true) rfl (by kernel_rfl) (by kernel_rfl) (by kernel_rfl) hPF (Or.inl ⟨by kernel_rfl, ?_⟩) hHeld ?_
    ·intro u p0; go_simp
    refine htake (i := 7) (v := .bool false) rfl (by kernel_rfl) (by kernel_rfl) (by kernel_rfl) hPF (Or.inl ⟨by kernel_rfl, ?_⟩) hHeld ?_
    ·intro u p0; go_simp
    refine htake (i := 8) (v := .bool false) rfl (by kernel_rfl) (by kernel_rfl) (by kernel_rfl) hPF (Or.inl ⟨by kernel_rfl, ?_⟩) hHeld ?_
    ·intro u p0; go_simp
    refine htake (i := 9) (v := .bool false) rfl (by kernel_rfl) (by kernel_rfl) (by kernel_rfl) hPF (Or.inl ⟨by kernel_rfl, ?_⟩) hHeld ?_
    ·intro u p0; go_simp
    refine htake (i := 10) (v := .int .i64 (bd.length : Int)) rfl (by kernel_rfl) (by kernel_rfl) (by kernel_rfl) hPF (Or.inl ⟨by kernel_rfl, ?_⟩) hHeld ?_
    ·intro u p0; go_simp
    refine htake (i := 12) (v := .pointer (some ⟨gx, 1, none⟩)) rfl (by kernel_rfl) (by kernel_rfl) (by kernel_rfl) hPF (Or.inl ⟨by kernel_rfl, ?_⟩) hHeld ?_
    ·intro u p0; go_simp
    refine htake (i := 13) (v := .string ⟨IT.toArray⟩) rfl (by kernel_rfl) (by kernel_rfl) (by kernel_rfl) hPF (Or.inl ⟨by kernel_rfl, ?_⟩) hHeld ?_
    ·intro u p0; go_simp
    refine wpAnyH_ready (rs := [11]) (by kernel_rfl) (by simp) ?_
    refine AllReadyH.cons (i := 11) rfl (fun K hK => ?_) AllReadyH.nil
    go_simp
    go_at_call 131
    refine (hnu _).mono ?_
    rintro e w4 ⟨rfl, hb4⟩
    have hb4' : Below w3.heap.size w3 w4 := (H.below_drewN (Below.refl _ _) nq).drew.trans hb4
    have HB4 : Hid (Below wr.heap.size wr w4) := Lib.hid (HBX.out.trans (hb4'.mono HBX.out.size))
    have y2 := old_cell hb4' HS3.out y1
    clear hb4 hb4'
    refine hK.out _ _ ?_ (fun hHeld => ?_)
    ·exact y2
    clear hK K
    refine htake (i := 14) (v := .bool false) rfl (by kernel_rfl) (by kernel_rfl) (by kernel_rfl) hPF (Or.inl ⟨by kernel_rfl, ?_⟩) hHeld ?_
    ·intro u p0; go_simp
    refine wpAnyH_ready (rs := [15]) (by kernel_rfl) (by simp) ?_
    refine AllReadyH.cons (i := 15) rfl (fun K hK => ?_) AllReadyH.nil
    go_simp
    refine hK.out _ _ ?_ (fun hHeld => ?_)
    ·exact y2
    clear hK K
    refine wpAnyH_done (by kernel_rfl) ?_ _
    have HR4 : Hid (Bk w4 w.heap.size _) := Lib.hid (HRr.out.below HB4.out (by have := HSr.out; omega))
    have HA4 : Hid (Bk w4 (w.heap.size + 1) _) := Lib.hid (HAr.out.below HB4.out (by have := HSr.out; omega))
    have HO4 : Hid (H.OwnH w4 (w.heap.size + 2) hv (hs.take (hs.length + 1))) := Lib.hid (by have h := H.OwnH.below HOr.out HB4.out (Nat.le_refl _); rw [List.take_of_length_le (Nat.le_refl _)] at h; rw [List.take_of_length_le (by omega)]; exact h)
    go_wp2_with fail
    exact ⟨⟨hs.length + 1, hv, _, by go_num, rfl, by omega, Lib.hid (.inr ⟨rfl, rfl⟩), Lib.hid (HBr.out.trans (HB4.out.mono HBr.out.size)), HR4, HA4, HO4, Lib.hid (Nat.le_trans HSr.out HB4.out.size)⟩, by simp [intOf]⟩
  ·obtain rfl : k = hs.length + 1 := by omega
   obtain rfl : ln = bd.length := by rcases HLN.out with ⟨h, _⟩ | ⟨_, h⟩; omega; exact h
   have hge' : ¬ ((hs.length + 1 : Nat) : Int) < ((hs.length + 1 : Nat) : Int) := by omega
   have h32 : ¬ (32 : Int) < ((hs.length + 1 : Nat) : Int) := by omega
   have hvv := HVF.out
   rw [show (hs.take (hs.length + 1)).length = hs.length by rw [List.take_of_length_le (by omega)]] at hvv
   subst hvv
   obtain ⟨a0, -⟩ := HAr.out 0 _ rfl
   obtain ⟨a1, -⟩ := HAr.out 1 _ rfl
   obtain ⟨a2, -⟩ := HAr.out 2 _ rfl
   obtain ⟨r0, rf0⟩ := HRr.out 0 _ rfl
   obtain ⟨r1, rf1⟩ := HRr.out 1 _ rfl
   obtain ⟨r2, rf2⟩ := HRr.out 2 _ rfl
   obtain ⟨c0, -⟩ := (((HRr.out.set 0 (.int .i64 st)).set 1 (.slice A4 hs.length c4)).set 2 (.string ⟨bd.toArray⟩)) 0 _ rfl
   obtain ⟨c1, -⟩ := (((HRr.out.set 0 (.int .i64 st)).set 1 (.slice A4 hs.length c4)).set 2 (.string ⟨bd.toArray⟩)) 1 _ rfl
   obtain ⟨c2, -⟩ := (((HRr.out.set 0 (.int .i64 st)).set 1 (.slice A4 hs.length c4)).set 2 (.string ⟨bd.toArray⟩)) 2 _ rfl
   go_wp2_with fail
   refine bodyPost_ret (v := .tuple #[.agg #[.int .i64 st, .slice A4 hs.length c4, .string ⟨bd.toArray⟩], .int .i64 0]) (by simp [results, Tryz.results80, go_sem, c0, c1, c2]; try rfl) rfl ?_
   refine ⟨((HBr.out.setCell (p := ⟨w.heap.size, 0, none⟩) (Nat.le_refl _) _).setCell (p := ⟨w.heap.size, 1, none⟩) (Nat.le_refl _) _).setCell (p := ⟨w.heap.size, 2, none⟩) (Nat.le_refl _) _, _, rfl, ?_⟩
   have h := H.OwnH.setCell (H.OwnH.setCell (H.OwnH.setCell HOr.out (p := ⟨w.heap.size, 0, none⟩) (by simp) (.int .i64 st)) (p := ⟨w.heap.size, 1, none⟩) (by simp) (.slice A4 hs.length c4)) (p := ⟨w.heap.size, 2, none⟩) (by simp) (.string ⟨bd.toArray⟩)
   rw [List.take_of_length_le (by omega)] at h
   exact ownH_base h (by omega)
end Go.Proofs.YtpdedfpacklnoaaGreatDoor
