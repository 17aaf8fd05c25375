/- Contract of the document's Read of a token: tokenR. Contract of the document's parts of a path: partsL. -/
import Derived.Test.YtpdedfpacklnoaaGreatDoorRtRkE
import Derived.Test.YtpdedfpacklnoaaGreatDoorRtRkP
import Derived.Test.YtpdedfpacklnoaaGreatDoorRtTkV
import Derived.Test.YtpdedfpacklnoaaGreatDoorRtMA
import Derived.Test.YtpdedfpacklnoaaGreatDoorRtML
set_option maxRecDepth 100000
namespace Go.Proofs.YtpdedfpacklnoaaGreatDoor
open Go.RowKit Go.BL Go.Ct Go.Sl Go.Wr W

theorem own_capB {w : World} {B : Nat} {v : Value} {bs : List Nat} (h : Own w B v bs) : ∀ A n c, v = .slice A n c → n ≤ c := by
 intro A n c e
 rcases h.1.2 with ⟨hv, _⟩ | ⟨g, cap, cur, hv, _, _, h1, _⟩
 ·rw [hv] at e; injection e with _ e2 e3; omega
 ·rw [hv] at e; injection e with _ e2 e3; omega
set_option maxHeartbeats 16000000 in
theorem readD_any (s : List UInt8) (hl : s.length ≤ 1048576) (w : World) : Calls Tryz.prog 50 #[.string ⟨s.toArray⟩] w (TokR (tokenR s) w) := by
 have hby := bytesD_any s hl
 obtain ⟨o, ho⟩ : ∃ y, bytesL (nats s) = y := ⟨_, rfl⟩
 have HLN : Hid (∀ b, o = some b → b.length ≤ 1048576) := Lib.hid (fun b hb => by rw [hb] at ho; have := bytesL_len _ _ ho; rw [show (nats s).length = s.length by simp [nats]] at this; omega)
 have HO := Lib.hid ho
 rw [ho] at hby
 clear ho
 obtain ⟨w0, hw0⟩ : ∃ y, w.alloc (.cells #[.slice none 0 0, .slice none 0 0, .slice none 0 0] 32) = y := ⟨_, rfl⟩
 have HBW : Hid (Below w.heap.size w w0) := Lib.hid (by rw [← hw0]; exact (Below.refl _ _).alloc (Nat.le_refl _) _)
 have HB0 : Hid (Bk w0 w.heap.size [.slice none 0 0, .slice none 0 0, .slice none 0 0]) := Lib.hid (by rw [← hw0]; exact Bk.new w _ 32 rfl)
 have HS0 : Hid (w.heap.size < w0.heap.size) := Lib.hid (by rw [← hw0]; simp)
 have hb := hby w0
 clear hby
 by_cases hs : s = []
 case pos =>
  clear hb
  have HV : Hid (tokenR s = .ok noC) := Lib.hid (by unfold tokenR; exact if_pos hs)
  subst hs
  go_enter Tryz.func50, Tryz.ntmps50
  go_upto_region 2 with fail
  clear hw0
  obtain ⟨r0, rf0⟩ := HB0.out 0 _ rfl
  obtain ⟨r1, rf1⟩ := HB0.out 1 _ rfl
  obtain ⟨r2, rf2⟩ := HB0.out 2 _ rfl
  have HQ := Lib.hid (((HB0.out.set 0 (.slice none 0 0)).set 1 (.slice none 0 0)).set 2 (.slice none 0 0))
  have q0 := (HQ.out 0 _ rfl).1
  have q1 := (HQ.out 1 _ rfl).1
  have q2 := (HQ.out 2 _ rfl).1
  have HWF := Lib.hid (((HBW.out.setCell (p := ⟨w.heap.size, 0, none⟩) (Nat.le_refl _) (.slice none 0 0)).setCell (p := ⟨w.heap.size, 1, none⟩) (Nat.le_refl _) (.slice none 0 0)).setCell (p := ⟨w.heap.size, 2, none⟩) (Nat.le_refl _) (.slice none 0 0))
  go_wp2_with fail
  refine bodyPost_ret (v := .tuple #[.agg #[.slice none 0 0, .slice none 0 0, .slice none 0 0], .int .i64 0]) (by simp [results, Tryz.results50, go_sem, q0, q1, q2]; try rfl) rfl ?_
  refine ⟨HWF.out, ?_⟩
  exact .inl ⟨noC, _, HV.out, rfl, _, _, _, rfl, OwnS.nil _ _, OwnS.nil _ _, OwnS.nil _ _⟩
 have hsb : s.isEmpty = false := by simpa using hs
 have HNS := Lib.hid hs
 go_enter Tryz.func50, Tryz.ntmps50
 go_upto_region 3 with fail
 clear hw0
 go_wp2_with fail
 go_at_call 94
 refine hb.mono ?_
 clear hb
 rintro e w1 ⟨hb1, v, rfl, hv⟩
 have HW1 := Lib.hid (HBW.out.trans (hb1.mono (Nat.le_of_lt HS0.out)))
 have HB1 := Lib.hid (HB0.out.below hb1 HS0.out)
 have HS1 : Hid (w.heap.size < w1.heap.size) := Lib.hid (Nat.lt_of_lt_of_le HS0.out hb1.size)
 cases o with
 | none =>
  have HV2 := Lib.hid (tok_none HNS.out HO.out)
  clear hv hb1
  dsimp only [Option.isSome]
  obtain ⟨r0, rf0⟩ := HB1.out 0 _ rfl
  obtain ⟨r1, rf1⟩ := HB1.out 1 _ rfl
  obtain ⟨r2, rf2⟩ := HB1.out 2 _ rfl
  have HQ := Lib.hid (((HB1.out.set 0 (.slice none 0 0)).set 1 (.slice none 0 0)).set 2 (.slice none 0 0))
  have q0 := (HQ.out 0 _ rfl).1
  have q1 := (HQ.out 1 _ rfl).1
  have q2 := (HQ.out 2 _ rfl).1
  have HWF := Lib.hid (((HW1.out.setCell (p := ⟨w.heap.size, 0, none⟩) (Nat.le_refl _) (.slice none 0 0)).setCell (p := ⟨w.heap.size, 1, none⟩) (Nat.le_refl _) (.slice none 0 0)).setCell (p := ⟨w.heap.size, 2, none⟩) (Nat.le_refl _) (.slice none 0 0))
  go_wp2_with fail
  refine bodyPost_ret (v := .tuple #[.agg #[.slice none 0 0, .slice none 0 0, .slice none 0 0], .int .i64 150]) (by simp [results, Tryz.results50, go_sem, q0, q1, q2]; try rfl) rfl ?_
  refine ⟨HWF.out, ?_⟩
  exact .inr ⟨⟨150, HV2.out⟩, rfl⟩
 | some b =>
  dsimp only [Option.getD] at hv
  have hcpv := own_capB hv
  obtain ⟨A, cap, rfl, hrd⟩ := hv.rd
  have hcb : b.length ≤ cap := hcpv _ _ _ rfl
  have hmb : b.length ≤ 140737488355000 := by have := HLN.out b rfl; omega
  have hun := unframeR_any A b.length cap b w1 hrd hmb hcb
  clear hcpv hcb
  unfold RetU at hun
  have HV2 := Lib.hid (tok_some HNS.out HO.out)
  have HUL : Hid ((unframe b).1.length ≤ 140737488355000) := Lib.hid (by have := unframe_len b; have := HLN.out b rfl; omega)
  obtain ⟨⟨p, q, c⟩, hu⟩ : ∃ y, unframe b = y := ⟨_, rfl⟩
  rw [hu] at hun HV2 HUL
  dsimp only at hun HV2 HUL
  clear hu hv hb1 hrd hmb
  dsimp only [Option.isSome]
  go_wp2_with fail
  go_at_call 95
  refine hun.mono ?_
  clear hun
  rintro e w2 ⟨A1, c1, A2, c2, rfl, hp, _, hb2⟩
  have HPC := Lib.hid (own_capB hp _ _ _ rfl)
  have HW2 := Lib.hid (HW1.out.trans (hb2.mono (Nat.le_of_lt HS1.out)))
  have HB2 := Lib.hid (HB1.out.below hb2 HS1.out)
  have HS2 : Hid (w.heap.size < w2.heap.size) := Lib.hid (Nat.lt_of_lt_of_le HS1.out hb2.size)
  have HP := Lib.hid hp
  clear hp hb2
  by_cases hc : c = 0
  case neg =>
   have hne : ((c : Int) != 0) = true := bne_iff_ne.2 (by omega)
   have HV3 := Lib.hid (HV2.out.trans (if_pos (.inl hc)))
   obtain ⟨r0, rf0⟩ := HB2.out 0 _ rfl
   obtain ⟨r1, rf1⟩ := HB2.out 1 _ rfl
   obtain ⟨r2, rf2⟩ := HB2.out 2 _ rfl
   have HQ := Lib.hid (((HB2.out.set 0 (.slice none 0 0)).set 1 (.slice none 0 0)).set 2 (.slice none 0 0))
   have q0 := (HQ.out 0 _ rfl).1
   have q1 := (HQ.out 1 _ rfl).1
   have q2 := (HQ.out 2 _ rfl).1
   have HWF := Lib.hid (((HW2.out.setCell (p := ⟨w.heap.size, 0, none⟩) (Nat.le_refl _) (.slice none 0 0)).setCell (p := ⟨w.heap.size, 1, none⟩) (Nat.le_refl _) (.slice none 0 0)).setCell (p := ⟨w.heap.size, 2, none⟩) (Nat.le_refl _) (.slice none 0 0))
   go_wp2_with fail
   refine bodyPost_ret (v := .tuple #[.agg #[.slice none 0 0, .slice none 0 0, .slice none 0 0], .int .i64 150]) (by simp [results, Tryz.results50, go_sem, q0, q1, q2]; try rfl) rfl ?_
   refine ⟨HWF.out, ?_⟩
   exact .inr ⟨⟨150, HV3.out⟩, rfl⟩
  subst hc
  by_cases hq : q = []
  case neg =>
   have hq2 : (0 : Int) < (q.length : Int) := by have := List.length_pos_iff.2 hq; omega
   have HV3 := Lib.hid (HV2.out.trans (if_pos (.inr hq)))
   obtain ⟨r0, rf0⟩ := HB2.out 0 _ rfl
   obtain ⟨r1, rf1⟩ := HB2.out 1 _ rfl
   obtain ⟨r2, rf2⟩ := HB2.out 2 _ rfl
   have HQ := Lib.hid (((HB2.out.set 0 (.slice none 0 0)).set 1 (.slice none 0 0)).set 2 (.slice none 0 0))
   have q0 := (HQ.out 0 _ rfl).1
   have q1 := (HQ.out 1 _ rfl).1
   have q2 := (HQ.out 2 _ rfl).1
   have HWF := Lib.hid (((HW2.out.setCell (p := ⟨w.heap.size, 0, none⟩) (Nat.le_refl _) (.slice none 0 0)).setCell (p := ⟨w.heap.size, 1, none⟩) (Nat.le_refl _) (.slice none 0 0)).setCell (p := ⟨w.heap.size, 2, none⟩) (Nat.le_refl _) (.slice none 0 0))
   go_wp2_with fail
   refine bodyPost_ret (v := .tuple #[.agg #[.slice none 0 0, .slice none 0 0, .slice none 0 0], .int .i64 150]) (by simp [results, Tryz.results50, go_sem, q0, q1, q2]; try rfl) rfl ?_
   refine ⟨HWF.out, ?_⟩
   exact .inr ⟨⟨150, HV3.out⟩, rfl⟩
  subst hq
  have HV3 := Lib.hid (HV2.out.trans (if_neg (by simp)))
  have hde := decodeD_any A1 p.length c1 p w2 (HP.out.rdOf rfl) HUL.out HPC.out
  unfold DecR at hde
  go_wp2_with fail
  go_at_call 96
  refine hde.mono ?_
  clear hde
  rintro e w3 ⟨hb3, hd⟩
  have HW3 := Lib.hid (HW2.out.trans (hb3.mono (Nat.le_of_lt HS2.out)))
  have HB3 := Lib.hid (HB2.out.below hb3 HS2.out)
  have HS3 : Hid (w.heap.size < w3.heap.size) := Lib.hid (Nat.lt_of_lt_of_le HS2.out hb3.size)
  cases hdl : decodeL p with
  | error k =>
   rw [hdl] at hd
   obtain ⟨c, hc, rfl⟩ := hd
   have hne : ((c : Int) != 0) = true := bne_iff_ne.2 (by omega)
   have HV4 : Hid (tokenR s = .error 150) := Lib.hid (by rw [HV3.out, hdl])
   clear hdl hb3
   have HW := Lib.hid (HW3.out.alloc HW3.out.size (.cells #[.slice none 0 0, .slice none 0 0, .slice none 0 0] 32))
   have HB := Lib.hid (HB3.out.alloc (.cells #[.slice none 0 0, .slice none 0 0, .slice none 0 0] 32) HS3.out)
   obtain ⟨r0, rf0⟩ := HB.out 0 _ rfl
   obtain ⟨r1, rf1⟩ := HB.out 1 _ rfl
   obtain ⟨r2, rf2⟩ := HB.out 2 _ rfl
   have HQ := Lib.hid (((HB.out.set 0 (.slice none 0 0)).set 1 (.slice none 0 0)).set 2 (.slice none 0 0))
   have q0 := (HQ.out 0 _ rfl).1
   have q1 := (HQ.out 1 _ rfl).1
   have q2 := (HQ.out 2 _ rfl).1
   have HWF := Lib.hid (((HW.out.setCell (p := ⟨w.heap.size, 0, none⟩) (Nat.le_refl _) (.slice none 0 0)).setCell (p := ⟨w.heap.size, 1, none⟩) (Nat.le_refl _) (.slice none 0 0)).setCell (p := ⟨w.heap.size, 2, none⟩) (Nat.le_refl _) (.slice none 0 0))
   go_wp2_with fail
   refine bodyPost_ret (v := .tuple #[.agg #[.slice none 0 0, .slice none 0 0, .slice none 0 0], .int .i64 150]) (by simp [results, Tryz.results50, go_sem, q0, q1, q2]; try rfl) rfl ?_
   refine ⟨HWF.out, ?_⟩
   exact .inr ⟨⟨150, HV4.out⟩, rfl⟩
  | ok k =>
   rw [hdl] at hd
   obtain ⟨v, rfl, ev, mv, cv, rfl, he, hm, hcl⟩ := hd
   obtain ⟨A1, d1, rfl⟩ := he.form
   obtain ⟨A2, d2, rfl⟩ := hm.form
   obtain ⟨A3, d3, rfl⟩ := hcl.form
   have HE := Lib.hid he
   have HM := Lib.hid hm
   have HC := Lib.hid hcl
   have HV4 : Hid (tokenR s = .ok k) := Lib.hid (by rw [HV3.out, hdl])
   clear hdl hb3 he hm hcl
   obtain ⟨w4, hw4⟩ : ∃ y, w3.alloc (.cells #[.slice A1 k.es.length d1, .slice A2 k.x.ms.length d2, .slice A3 k.x.cl.length d3] 32) = y := ⟨_, rfl⟩
   have HW : Hid (Below w.heap.size w w4) := Lib.hid (by rw [← hw4]; exact HW3.out.alloc HW3.out.size _)
   have HB : Hid (Bk w4 w.heap.size [.slice none 0 0, .slice none 0 0, .slice none 0 0]) := Lib.hid (by rw [← hw4]; exact HB3.out.alloc _ HS3.out)
   have HX : Hid (Bk w4 w3.heap.size [.slice A1 k.es.length d1, .slice A2 k.x.ms.length d2, .slice A3 k.x.cl.length d3]) := Lib.hid (by rw [← hw4]; exact Bk.new w3 _ 32 rfl)
   have HEa : Hid (OwnS 92 6 entC w4 w2.heap.size (.slice A1 k.es.length d1) k.es) := Lib.hid (by rw [← hw4]; exact HE.out.below ((Below.refl w3.heap.size w3).alloc (Nat.le_refl _) _) (Nat.le_refl _))
   have HMa : Hid (OwnS 150 3 dotC w4 w2.heap.size (.slice A2 k.x.ms.length d2) k.x.ms) := Lib.hid (by rw [← hw4]; exact HM.out.below ((Below.refl w3.heap.size w3).alloc (Nat.le_refl _) _) (Nat.le_refl _))
   have HCa : Hid (OwnS 90 3 dotC w4 w2.heap.size (.slice A3 k.x.cl.length d3) k.x.cl) := Lib.hid (by rw [← hw4]; exact HC.out.below ((Below.refl w3.heap.size w3).alloc (Nat.le_refl _) _) (Nat.le_refl _))
   go_upto_region 12 with fail
   clear hw4
   obtain ⟨y0, yf0⟩ := HX.out 0 _ rfl
   obtain ⟨y1, yf1⟩ := HX.out 1 _ rfl
   obtain ⟨y2, yf2⟩ := HX.out 2 _ rfl
   obtain ⟨r0, rf0⟩ := HB.out 0 _ rfl
   obtain ⟨r1, rf1⟩ := HB.out 1 _ rfl
   obtain ⟨r2, rf2⟩ := HB.out 2 _ rfl
   have HQ := Lib.hid (((HB.out.set 0 (.slice A1 k.es.length d1)).set 1 (.slice A2 k.x.ms.length d2)).set 2 (.slice A3 k.x.cl.length d3))
   have q0 := (HQ.out 0 _ rfl).1
   have q1 := (HQ.out 1 _ rfl).1
   have q2 := (HQ.out 2 _ rfl).1
   have HWF := Lib.hid (((HW.out.setCell (p := ⟨w.heap.size, 0, none⟩) (Nat.le_refl _) (.slice A1 k.es.length d1)).setCell (p := ⟨w.heap.size, 1, none⟩) (Nat.le_refl _) (.slice A2 k.x.ms.length d2)).setCell (p := ⟨w.heap.size, 2, none⟩) (Nat.le_refl _) (.slice A3 k.x.cl.length d3))
   go_wp2_with fail
   refine bodyPost_ret (v := .tuple #[.agg #[.slice A1 k.es.length d1, .slice A2 k.x.ms.length d2, .slice A3 k.x.cl.length d3], .int .i64 0]) (by simp [results, Tryz.results50, go_sem, q0, q1, q2]; try rfl) rfl ?_
   refine ⟨HWF.out, ?_⟩
   exact .inl ⟨k, _, HV4.out, rfl, _, _, _, rfl, (((HEa.out.setCell (p := ⟨w.heap.size, 0, none⟩) HS2.out (.slice A1 k.es.length d1)).setCell (p := ⟨w.heap.size, 1, none⟩) HS2.out (.slice A2 k.x.ms.length d2)).setCell (p := ⟨w.heap.size, 2, none⟩) HS2.out (.slice A3 k.x.cl.length d3)).base (Nat.le_of_lt HS2.out), (((HMa.out.setCell (p := ⟨w.heap.size, 0, none⟩) HS2.out (.slice A1 k.es.length d1)).setCell (p := ⟨w.heap.size, 1, none⟩) HS2.out (.slice A2 k.x.ms.length d2)).setCell (p := ⟨w.heap.size, 2, none⟩) HS2.out (.slice A3 k.x.cl.length d3)).base (Nat.le_of_lt HS2.out), (((HCa.out.setCell (p := ⟨w.heap.size, 0, none⟩) HS2.out (.slice A1 k.es.length d1)).setCell (p := ⟨w.heap.size, 1, none⟩) HS2.out (.slice A2 k.x.ms.length d2)).setCell (p := ⟨w.heap.size, 2, none⟩) HS2.out (.slice A3 k.x.cl.length d3)).base (Nat.le_of_lt HS2.out)⟩
end Go.Proofs.YtpdedfpacklnoaaGreatDoor
set_option maxRecDepth 100000
namespace Go.Proofs.YtpdedfpacklnoaaGreatDoor
open Go.RowKit Go.BL

theorem parts_pre : ∀ (x r : List UInt8), (∀ c ∈ x, c ≠ 47) → partsL 47 (x ++ 47 :: r) = x :: partsL 47 r
 | [], r, _ => by rw [List.nil_append, parts_cons, if_pos rfl]
 | c :: x, r, h => by
  rw [List.cons_append, parts_cons, if_neg (h c (by simp)), parts_pre x r (fun y hy => h y (by simp [hy]))]
theorem parts_last : ∀ (x : List UInt8), (∀ c ∈ x, c ≠ 47) → partsL 47 x = [x]
 | [], _ => rfl
 | c :: x, h => by
  rw [parts_cons, if_neg (h c (by simp)), parts_last x (fun y hy => h y (by simp [hy]))]
theorem part_mem {s : List UInt8} {f k : Nat} (h : ∀ j, f ≤ j → j < k → s[j]? ≠ some 47) (c : UInt8) (hc : c ∈ (s.drop f).take (k - f)) : c ≠ 47 := by
 obtain ⟨i, hi, rfl⟩ := List.mem_iff_getElem.1 hc
 have hi' : i < k - f := by rw [List.length_take] at hi; omega
 intro e
 refine h (f + i) (by omega) (by omega) ?_
 rw [← e, List.getElem_take, List.getElem_drop]
 rw [List.getElem?_eq_getElem]
theorem parts_at {s : List UInt8} {f k : Nat} (hf : f ≤ k) (hk : k < s.length) (hs : s[k] = 47) (h : ∀ j, f ≤ j → j < k → s[j]? ≠ some 47) : partsL 47 (s.drop f) = ((s.drop f).take (k - f)) :: partsL 47 (s.drop (k + 1)) := by
 have e : s.drop f = (s.drop f).take (k - f) ++ 47 :: s.drop (k + 1) := by
  conv => lhs; rw [← List.take_append_drop (k - f) (s.drop f)]
  rw [List.drop_drop, show f + (k - f) = k by omega, List.drop_eq_getElem_cons hk, hs]
 conv => lhs; rw [e]
 exact parts_pre _ _ (part_mem h)
theorem parts_end {s : List UInt8} {f : Nat} (h : ∀ j, f ≤ j → j < s.length → s[j]? ≠ some 47) : partsL 47 (s.drop f) = [(s.drop f).take (s.length - f)] := by
 have e : (s.drop f).take (s.length - f) = s.drop f := List.take_of_length_le (by rw [List.length_drop]; exact Nat.le_refl _)
 have := parts_last ((s.drop f).take (s.length - f)) (part_mem h)
 rw [e] at this ⊢
 exact this
theorem txt_form {w : World} {B : Nat} {v : Value} {ls : List (List UInt8)} (h : H.OwnS w B v ls) : ∃ A c, v = .slice A ls.length c := by
 rcases h.2 with ⟨rfl, h0⟩ | ⟨g, cap, cur, rfl, _⟩
 ·exact ⟨none, 0, by rw [h0]⟩
 ·exact ⟨_, _, rfl⟩
theorem txt_cells {w : World} {B : Nat} {v : Value} {ls : List (List UInt8)} (h : H.OwnS w B v ls) (hn : 0 < ls.length) : ∃ g c, v = .slice (some ⟨g, 0, none⟩) ls.length c ∧ B ≤ g ∧ ∀ i (hi : i < ls.length), w.cell? ⟨g, i, none⟩ = some (.string ⟨ls[i].toArray⟩) := by
 have hr := h
 rcases h.2 with ⟨rfl, h0⟩ | ⟨g, cap, cur, rfl, hg, _⟩
 ·omega
 ·refine ⟨g, cap, rfl, hg, fun i hi => ?_⟩
  have h1 := World.ownsRow.cells hr (g := g) rfl i (.string ⟨ls[i].toArray⟩) (by unfold H.txs; rw [List.getElem?_map, List.getElem?_eq_getElem hi]; rfl)
  rw [add_none, Nat.zero_add] at h1
  exact h1
set_option maxHeartbeats 4000000 in
theorem partsR_any (s : List UInt8) (hl : s.length ≤ 1048576) (w : World) : Calls Tryz.prog 48 #[.string ⟨s.toArray⟩] w fun e w' => Below w.heap.size w w' ∧ ∃ v, e = .returned v ∧ H.OwnS w' w.heap.size v (partsL 47 s) := by
 go_enter Tryz.func48, Tryz.ntmps48
 go_wp2_with fail
 go_loopw [3, 4, 5] (fun av fv iv wr => ∃ (f k : Nat) (acc : List (List UInt8)), k ≤ s.length + 1 ∧ fv = .int .i64 (f : Int) ∧ iv = .int .i64 (k : Int) ∧ f ≤ k ∧ Hid (Below w.heap.size w wr) ∧ Hid (H.OwnS wr w.heap.size av acc) ∧ Hid (acc.length ≤ k) ∧ Hid (∀ j, f ≤ j → j < k → s[j]? ≠ some 47) ∧ Hid ((k ≤ s.length → partsL 47 s = acc ++ partsL 47 (s.drop f)) ∧ (s.length < k → partsL 47 s = acc))) (fun _ _ iv _ => s.length + 1 - (intOf iv).toNat)
 case atStart => exact ⟨0, 0, [], by omega, rfl, rfl, by omega, Lib.hid (Below.refl _ _), Lib.hid (H.OwnS.nil _ _), Lib.hid (by simp), Lib.hid (fun j _ h => absurd h (by omega)), Lib.hid ⟨fun _ => rfl, fun h => absurd h (by omega)⟩⟩
 case round =>
  obtain ⟨f, k, acc, hk, rfl, rfl, hfk, HB, HO, HA, HF, HP⟩ := hrel
  obtain ⟨A, c, rfl⟩ := txt_form HO.out
  have HAc : Hid (acc.length ≤ 1073741826) := Lib.hid (by have := HA.out; omega)
  rcases Nat.lt_trichotomy k s.length with hlt | heq | hgt
  ·have hle : (k : Int) ≤ (s.length : Int) := by omega
   have hne : ((k : Int) == (s.length : Int)) = false := beq_false_of_ne (by omega)
   have hlt2 : (k : Int) < (s.length : Int) := by omega
   obtain ⟨x, hx⟩ : ∃ x, (⟨s.toArray⟩ : ByteArray)[k]'hlt = x := ⟨_, rfl⟩
   have hxs : s[k] = x := hx
   by_cases h47 : x = 47
   ·have hb : ((x.toNat : Int) == 47) = true := by rw [h47]; rfl
    have HS : Hid (partsL 47 s = (acc ++ [(s.drop f).take (k - f)]) ++ partsL 47 (s.drop (k + 1))) := Lib.hid (by
     rw [HP.out.1 (by omega), parts_at hfk hlt (hxs.trans h47) HF.out, List.append_assoc]; rfl)
    have hsl := sl_mid s f k (f : Int) (k : Int) rfl rfl hfk (by omega)
    obtain ⟨y, hy⟩ : ∃ y, (s.drop f).take (k - f) = y := ⟨_, rfl⟩
    rw [hy] at hsl HS
    have HF2 : Hid (∀ j, k + 1 ≤ j → j < k + 1 → s[j]? ≠ some 47) := Lib.hid (fun j h1 h2 => absurd h2 (by omega))
    clear hxs h47 hy
    go_wp2_with (at_builtin; refine H.wpList_appT rfl (.tmp 22) (.tmp 27) rfl rfl (HO.out.alloc _) rfl (x1 := y) (by simp) HAc.out (Nat.le_trans HB.out.size (by simp)) ?_; intro v2 w2 ho2 hb2; have HO2 := Lib.hid ho2; have HB2 := Lib.hid ((HB.out.alloc HB.out.size _).trans hb2); clear ho2 hb2)
    exact ⟨⟨k + 1, k + 1, acc ++ [y], by omega, by go_num, by go_num, by omega, HB2, HO2, Lib.hid (by have := HA.out; simp; omega), HF2, Lib.hid ⟨fun _ => HS.out, fun h => absurd h (by omega)⟩⟩, by simp [intOf]; omega⟩
   ·have hb : ((x.toNat : Int) == 47) = false := by
     refine beq_false_of_ne fun e => h47 ?_
     apply UInt8.toNat_inj.1
     have : x.toNat = 47 := by omega
     rw [this]; rfl
    have HF2 : Hid (∀ j, f ≤ j → j < k + 1 → s[j]? ≠ some 47) := Lib.hid (fun j h1 h2 => by
     rcases Nat.lt_or_ge j k with h | h
     ·exact HF.out j h1 h
     ·obtain rfl : j = k := by omega
      rw [List.getElem?_eq_getElem hlt, hxs]
      intro e; injection e with e; exact h47 e)
    have HP2 : Hid (partsL 47 s = acc ++ partsL 47 (s.drop f)) := Lib.hid (HP.out.1 (by omega))
    clear hxs h47
    go_wp2_with fail
    exact ⟨⟨f, k + 1, acc, by omega, rfl, by go_num, by omega, HB, HO, Lib.hid (by have := HA.out; omega), HF2, Lib.hid ⟨fun _ => HP2.out, fun h => absurd h (by omega)⟩⟩, by simp [intOf]; omega⟩
  ·subst heq
   have hle : (s.length : Int) ≤ (s.length : Int) := by omega
   have HS : Hid (partsL 47 s = acc ++ [(s.drop f).take (s.length - f)]) := Lib.hid (by rw [HP.out.1 (by omega), parts_end HF.out])
   have hsl := sl_mid s f s.length (f : Int) (s.length : Int) rfl rfl hfk (by omega)
   obtain ⟨y, hy⟩ : ∃ y, (s.drop f).take (s.length - f) = y := ⟨_, rfl⟩
   rw [hy] at hsl HS
   clear hy
   go_wp2_with (at_builtin; refine H.wpList_appT rfl (.tmp 22) (.tmp 27) rfl rfl (HO.out.alloc _) rfl (x1 := y) (by simp) HAc.out (Nat.le_trans HB.out.size (by simp)) ?_; intro v2 w2 ho2 hb2; have HO2 := Lib.hid ho2; have HB2 := Lib.hid ((HB.out.alloc HB.out.size _).trans hb2); clear ho2 hb2)
   exact ⟨⟨s.length + 1, s.length + 1, acc ++ [y], by omega, by go_num, by go_num, by omega, HB2, HO2, Lib.hid (by have := HA.out; simp; omega), Lib.hid (fun j h1 h2 => absurd h2 (by omega)), Lib.hid ⟨fun h => absurd h (by omega), fun _ => HS.out⟩⟩, by simp [intOf]⟩
  ·have hle : ¬ (k : Int) ≤ (s.length : Int) := by omega
   have HV : Hid (partsL 47 s = acc) := Lib.hid (HP.out.2 hgt)
   go_wp2_with fail
   go_ret
   rw [HV.out]
   exact ⟨HB.out, _, rfl, HO.out⟩
end Go.Proofs.YtpdedfpacklnoaaGreatDoor
