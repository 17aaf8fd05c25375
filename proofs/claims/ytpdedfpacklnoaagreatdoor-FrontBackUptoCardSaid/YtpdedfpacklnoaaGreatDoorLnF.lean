/- Contract of front.Parse. -/
import Derived.Test.YtpdedfpacklnoaaGreatDoorMB
namespace Go.Proofs.YtpdedfpacklnoaaGreatDoor
open Go.RowKit Go.BL Go.Ct Go.Sl Go.Fl

theorem cut1_lens (c : UInt8) (s : List UInt8) : (cut1 c s).1.length + (cut1 c s).2.1.length ≤ s.length := by
  induction s with
  | nil => simp [cut1]
  | cons x r ih =>
    rw [cut1_cons]
    split
    · simp
    · simp only [List.length_cons]; omega
theorem cut1_lens_hit {c : UInt8} {s : List UInt8} (h : (cut1 c s).2.2 = true) : (cut1 c s).1.length + (cut1 c s).2.1.length + 1 = s.length := by
  have := congrArg List.length (cut1_parts h)
  simp only [List.length_append, List.length_cons] at this
  omega
theorem parts_len (c : UInt8) : ∀ (s x : List UInt8), x ∈ partsL c s → x.length ≤ s.length
  | [], x, h => by simp [partsL] at h; subst h; simp
  | y :: r, x, h => by
    rw [parts_cons] at h
    split at h
    · rcases List.mem_cons.1 h with rfl | h
      · simp
      · have := parts_len c r x h; simp; omega
    · split at h
      · simp at h; subst h; simp
      · rename_i hd tl he
        rcases List.mem_cons.1 h with rfl | h
        · have := parts_len c r hd (by rw [he]; simp)
          simp; omega
        · have := parts_len c r x (by rw [he]; simp [h])
          simp; omega

theorem par_miss {s t : List UInt8} {acc : List Ln} (h : parseT s = (parseT t).map (acc ++ ·)) (h2 : parseT t = none) : parseT s = none := by rw [h, h2]; rfl
theorem par_line {s t r t' : List UInt8} {acc : List Ln} (h : parseT s = (parseT t).map (acc ++ ·)) (hc : cut1 10 t = (r, t', true)) (hx : lineL r = none) : parseT s = none := by
  refine par_miss h ?_
  rw [parseT_hit (by rw [hc]), hc]
  dsimp only
  rw [hx]
set_option maxHeartbeats 16000000 in
set_option maxRecDepth 100000 in
theorem parse_any (s : List UInt8) (hl : s.length ≤ 1048576) (w : World) (he : H.Env w) (hr : Errs w) (ht : Tab w) : Calls Tryz.prog 22 #[.string ⟨s.toArray⟩] w (ParR (parseT s) w) := by
  have HE := Lib.hid he
  have HR := Lib.hid hr
  have HTB := Lib.hid ht
  clear he hr ht
  go_enter Tryz.func22, Tryz.ntmps22
  go_wp2_with fail
  go_loopw [0, 4] (fun sv v wr => ∃ (t : List UInt8) (acc : List Ln), sv = .string ⟨t.toArray⟩ ∧ Hid (OwnS 54 3 lnC wr w.heap.size v acc) ∧ Hid (Below w.heap.size w wr) ∧ Hid (parseT s = (parseT t).map (acc ++ ·)) ∧ Hid (acc.length * 2 + t.length ≤ s.length)) (fun sv _ _ => T.lenOf sv)
  case atStart => exact ⟨s, [], rfl, Lib.hid (OwnS.nil _ _), Lib.hid (Below.refl _ _), Lib.hid (by simp), Lib.hid (by simp)⟩
  case round =>
    rename_i u4
    obtain ⟨t, acc, rfl, HO, HB, HP, HL⟩ := hrel
    rcases t with _ | ⟨c, t⟩
    · have HV : Hid (parseT s = some acc) := Lib.hid (by rw [HP.out, parseT_nil]; simp)
      go_wp2_with fail
      go_ret2
      exact ⟨HB.out, _, by rw [HV.out]; rfl, by rw [HV.out]; exact HO.out.sl lnC_len (by have := HL.out; omega)⟩
    · have hcut := fun w he => H.cut_any (c :: t) [10] (by have h1 := HL.out; exact Nat.lt_of_le_of_lt (show (c :: t).length ≤ s.length by omega) (by omega)) w he
      rw [cutL_cut1] at hcut
      have hlens := cut1_lens 10 (c :: t)
      obtain ⟨⟨line, rest, ok⟩, hct⟩ : ∃ e, cut1 10 (c :: t) = e := ⟨_, rfl⟩
      rw [hct] at hcut hlens
      dsimp only at hcut hlens
      have HCT := Lib.hid hct
      have HLN := Lib.hid hlens
      clear hct hlens
      go_wp2_with fail
      go_at_call 56
      refine (hcut _ (HE.out.below HB.out)).mono ?_
      rintro e w1 ⟨rfl, hb1⟩
      have HB1 := Lib.hid (HB.out.trans (hb1.mono HB.out.size))
      have HO1 := Lib.hid (HO.out.below hb1 (Nat.le_refl _))
      have HZ1 := Lib.hid hb1.size
      have HA1 := Lib.hid hb1
      clear hb1 hcut
      have hsp := H.split_any line [32] (by decide) (by have h1 := HL.out; have h2 := HLN.out; omega) w1 (HE.out.below HB1.out)
      rw [lns_parts 32 line.length line (Nat.le_refl _)] at hsp
      have hpl := parts_len 32 line
      obtain ⟨L, hL⟩ : ∃ L, partsL 32 line = L := ⟨_, rfl⟩
      rw [hL] at hsp hpl
      have hlc := H.LC.new w1 L
      have hb2 := (Below.refl w1.heap.size w1).alloc (Nat.le_refl _) (.cells (H.strs L) 9)
      have hz2 : w1.heap.size < (w1.alloc (.cells (H.strs L) 9)).heap.size := by simp
      obtain ⟨w2, hw2⟩ : ∃ w2, w1.alloc (.cells (H.strs L) 9) = w2 := ⟨_, rfl⟩
      rw [hw2] at hsp hlc hb2 hz2
      have HLL := Lib.hid hL
      have HLC := Lib.hid hlc
      have HPL := Lib.hid hpl
      have HB2 := Lib.hid (HB1.out.trans (hb2.mono HB1.out.size))
      have HZ2 : Hid (wr.heap.size ≤ w2.heap.size) := Lib.hid (Nat.le_trans HZ1.out hb2.size)
      have HA2 := Lib.hid (HA1.out.trans (hb2.mono HZ1.out))
      have HS2 := Lib.hid hz2
      clear hw2 hL hlc hpl hb2 hz2
      go_wp2_with fail
      go_at_call 57
      refine hsp.mono ?_
      clear hsp
      rintro e w' ⟨rfl, rfl⟩
      cases ok
      case false =>
        have HV : Hid (parseT s = none) := Lib.hid (par_miss HP.out (parseT_miss (by rw [HCT.out]) (by simp)))
        go_wp2_with fail
        go_ret2
        exact ⟨HB2.out, _, by rw [HV.out]; rfl, by rw [HV.out]; exact Sl.nil _⟩
      case true =>
      by_cases hN : L.length = 3
      case neg =>
        have HV : Hid (parseT s = none) := Lib.hid (par_line HP.out HCT.out (by
          unfold lineL
          rw [HLL.out]
          rcases L with _ | ⟨x, _ | ⟨y, _ | ⟨z, _ | ⟨v, r⟩⟩⟩⟩
          · rfl
          · rfl
          · rfl
          · exact absurd rfl hN
          · rfl))
        have g1 : ((L.length : Int) != 3) = true := bne_iff_ne.2 (by omega)
        clear hN
        go_wp2_with fail
        go_ret2
        exact ⟨HB2.out, _, by rw [HV.out]; rfl, by rw [HV.out]; exact Sl.nil _⟩
      case pos =>
      obtain ⟨a, n, p, rfl⟩ : ∃ a n p, L = [a, n, p] := by
        rcases L with _ | ⟨x, _ | ⟨y, _ | ⟨z, _ | ⟨v, r⟩⟩⟩⟩
        · cases hN
        · cases hN
        · cases hN
        · exact ⟨x, y, z, rfl⟩
        · simp at hN
      clear hN
      have x0 := HLC.out 0 (by simp)
      have x1 := HLC.out 1 (by simp)
      have x2 := HLC.out 2 (by simp)
      simp only [List.getElem_cons_zero, List.getElem_cons_succ] at x0 x1 x2
      have HLA : Hid (a.length ≤ 1048576 ∧ n.length ≤ 1048576 ∧ p.length ≤ 1048576) := Lib.hid (by
        have h1 := HPL.out a (by simp)
        have h2 := HPL.out n (by simp)
        have h3 := HPL.out p (by simp)
        have := HL.out
        have := HLN.out
        simp only [List.length_cons] at *
        omega)
      have hpc := fun w he ht => pieces_any n (by have := HLA.out; omega) w he ht
      have hpr := (price_both p (by have := HLA.out; omega)).1
      have hkey := key_any a (by have := HLA.out; omega)
      have hll : lineL line = match piecesL n, priceT p with
        | some k, some v => if keyL a = true ∧ prt v = p then some ⟨a, (k : Int), v⟩ else none
        | _, _ => none := by unfold lineL; rw [HLL.out]; rfl
      rw [resL_eq] at hpr
      obtain ⟨o1, ho1⟩ : ∃ o, piecesL n = o := ⟨_, rfl⟩
      obtain ⟨o2, ho2⟩ : ∃ o, priceT p = o := ⟨_, rfl⟩
      obtain ⟨ky, hky⟩ : ∃ o, keyL a = o := ⟨_, rfl⟩
      have hle := getD_le (s := p)
      rw [ho1] at hpc hll
      rw [ho2] at hpr hll hle
      rw [hky] at hkey hll
      have HLI := Lib.hid hll
      clear hll ho1 ho2 hky
      unfold PieR at hpc
      go_wp2_with fail
      go_at_call 58
      refine (hpc _ (HR.out.below HB2.out) (HTB.out.below HB2.out)).mono ?_
      clear hpc
      rintro e w3 ⟨hb3, q, rfl, hq⟩
      have HB3 := Lib.hid (HB2.out.trans (hb3.mono HB2.out.size))
      have HZ3 : Hid (wr.heap.size ≤ w3.heap.size) := Lib.hid (Nat.le_trans HZ2.out hb3.size)
      have HA3 := Lib.hid (HA2.out.trans (hb3.mono HZ2.out))
      have HS3 : Hid (w1.heap.size < w3.heap.size) := Lib.hid (Nat.lt_of_lt_of_le HS2.out hb3.size)
      have y0 := old_cell hb3 HS2.out x0
      have y2 := old_cell hb3 HS2.out x2
      have HQ := Lib.hid hq
      clear hb3 hq x0 x1 x2
      obtain ⟨v, hv⟩ : ∃ v, o2.getD 0 = v := ⟨_, rfl⟩
      rw [hv] at hpr hle
      have HVV := Lib.hid hv
      have HLE := Lib.hid hle
      clear hv hle
      go_wp2_with fail
      go_at_call 59
      refine (hpr _).mono ?_
      clear hpr
      rintro e w4 ⟨rfl, hb4⟩
      have HB4 := Lib.hid (HB3.out.trans (hb4.mono HB3.out.size))
      have HZ4 : Hid (wr.heap.size ≤ w4.heap.size) := Lib.hid (Nat.le_trans HZ3.out hb4.size)
      have HA4 := Lib.hid (HA3.out.trans (hb4.mono HZ3.out))
      have HS4 : Hid (w1.heap.size < w4.heap.size) := Lib.hid (Nat.lt_of_lt_of_le HS3.out hb4.size)
      have x0 := old_cell hb4 HS3.out y0
      have x2 := old_cell hb4 HS3.out y2
      clear hb4 y0 y2
      cases o1 with
      | none =>
        have HV : Hid (parseT s = none) := Lib.hid (par_line HP.out HCT.out (by rw [HLI.out]))
        go_upto_region 9 with fail
        refine hstart (S := fun u => u.cell? ⟨w1.heap.size, 0, none⟩ = some (.string ⟨a.toArray⟩) ∧ u.cell? ⟨w1.heap.size, 2, none⟩ = some (.string ⟨p.toArray⟩)) (by kernel_rfl) (by repeat (first | exact PG.body | refine PG.then_ ?_ | refine PG.inBlock ?_)) ?_ (fun hPF hHeld => ?_)
        · exact ⟨x0, x2⟩
        refine htake (i := 0) (v := .bool false) rfl (by kernel_rfl) (by kernel_rfl) (by kernel_rfl) hPF (Or.inl ⟨by kernel_rfl, ?_⟩) hHeld ?_
        · intro u hS; obtain ⟨p0, p1⟩ := hS; go_simp
        refine htake (i := 1) (v := .bool true) rfl (by kernel_rfl) (by kernel_rfl) (by kernel_rfl) hPF (Or.inl ⟨by kernel_rfl, ?_⟩) hHeld ?_
        · intro u hS; obtain ⟨p0, p1⟩ := hS; go_simp
        refine htake (i := 2) (v := .bool true) rfl (by kernel_rfl) (by kernel_rfl) (by kernel_rfl) hPF (Or.inl ⟨by kernel_rfl, ?_⟩) hHeld ?_
        · intro u hS; obtain ⟨p0, p1⟩ := hS; go_simp
        refine htake (i := 3) (v := undef) rfl (by kernel_rfl) (by kernel_rfl) (by kernel_rfl) hPF (Or.inr ⟨by kernel_rfl, rfl⟩) hHeld ?_
        refine htake (i := 4) (v := undef) rfl (by kernel_rfl) (by kernel_rfl) (by kernel_rfl) hPF (Or.inr ⟨by kernel_rfl, rfl⟩) hHeld ?_
        refine htake (i := 5) (v := .bool true) rfl (by kernel_rfl) (by kernel_rfl) (by kernel_rfl) hPF (Or.inl ⟨by kernel_rfl, ?_⟩) hHeld ?_
        · intro u hS; obtain ⟨p0, p1⟩ := hS; go_simp
        refine htake (i := 6) (v := .bool true) rfl (by kernel_rfl) (by kernel_rfl) (by kernel_rfl) hPF (Or.inl ⟨by kernel_rfl, ?_⟩) hHeld ?_
        · intro u hS; obtain ⟨p0, p1⟩ := hS; go_simp
        refine htake (i := 7) (v := undef) rfl (by kernel_rfl) (by kernel_rfl) (by kernel_rfl) hPF (Or.inr ⟨by kernel_rfl, rfl⟩) hHeld ?_
        refine htake (i := 8) (v := undef) rfl (by kernel_rfl) (by kernel_rfl) (by kernel_rfl) hPF (Or.inr ⟨by kernel_rfl, rfl⟩) hHeld ?_
        refine htake (i := 9) (v := undef) rfl (by kernel_rfl) (by kernel_rfl) (by kernel_rfl) hPF (Or.inr ⟨by kernel_rfl, rfl⟩) hHeld ?_
        refine htake (i := 10) (v := undef) rfl (by kernel_rfl) (by kernel_rfl) (by kernel_rfl) hPF (Or.inr ⟨by kernel_rfl, rfl⟩) hHeld ?_
        refine htake (i := 11) (v := undef) rfl (by kernel_rfl) (by kernel_rfl) (by kernel_rfl) hPF (Or.inr ⟨by kernel_rfl, rfl⟩) hHeld ?_
        refine htake (i := 12) (v := .bool true) rfl (by kernel_rfl) (by kernel_rfl) (by kernel_rfl) hPF (Or.inl ⟨by kernel_rfl, ?_⟩) hHeld ?_
        · intro u hS; obtain ⟨p0, p1⟩ := hS; go_simp
        refine htake (i := 13) (v := .bool true) rfl (by kernel_rfl) (by kernel_rfl) (by kernel_rfl) hPF (Or.inl ⟨by kernel_rfl, ?_⟩) hHeld ?_
        · intro u hS; obtain ⟨p0, p1⟩ := hS; go_simp
        refine htake (i := 14) (v := undef) rfl (by kernel_rfl) (by kernel_rfl) (by kernel_rfl) hPF (Or.inr ⟨by kernel_rfl, rfl⟩) hHeld ?_
        refine htake (i := 15) (v := undef) rfl (by kernel_rfl) (by kernel_rfl) (by kernel_rfl) hPF (Or.inr ⟨by kernel_rfl, rfl⟩) hHeld ?_
        refine htake (i := 16) (v := undef) rfl (by kernel_rfl) (by kernel_rfl) (by kernel_rfl) hPF (Or.inr ⟨by kernel_rfl, rfl⟩) hHeld ?_
        refine htake (i := 17) (v := undef) rfl (by kernel_rfl) (by kernel_rfl) (by kernel_rfl) hPF (Or.inr ⟨by kernel_rfl, rfl⟩) hHeld ?_
        refine htake (i := 18) (v := undef) rfl (by kernel_rfl) (by kernel_rfl) (by kernel_rfl) hPF (Or.inr ⟨by kernel_rfl, rfl⟩) hHeld ?_
        refine htake (i := 19) (v := undef) rfl (by kernel_rfl) (by kernel_rfl) (by kernel_rfl) hPF (Or.inr ⟨by kernel_rfl, rfl⟩) hHeld ?_
        refine wpAnyH_ready (rs := [20]) (by kernel_rfl) (by simp) ?_
        refine AllReadyH.cons (i := 20) rfl (fun K hK => ?_) AllReadyH.nil
        go_simp
        refine hK.out _ _ ?_ (fun hHeld => ?_)
        · exact ⟨x0, x2⟩
        clear hK K
        refine wpAnyH_done (by kernel_rfl) ?_ _
        go_wp2_with fail
        go_ret2
        exact ⟨HB4.out.drew, _, by rw [HV.out]; rfl, by rw [HV.out]; exact Sl.nil _⟩
      | some k =>
      obtain rfl : q = (k : Int) := HQ.out k rfl
      cases o2 with
      | none =>
        have HV : Hid (parseT s = none) := Lib.hid (par_line HP.out HCT.out (by rw [HLI.out]))
        go_upto_region 9 with fail
        refine hstart (S := fun u => u.cell? ⟨w1.heap.size, 0, none⟩ = some (.string ⟨a.toArray⟩) ∧ u.cell? ⟨w1.heap.size, 2, none⟩ = some (.string ⟨p.toArray⟩)) (by kernel_rfl) (by repeat (first | exact PG.body | refine PG.then_ ?_ | refine PG.inBlock ?_)) ?_ (fun hPF hHeld => ?_)
        · exact ⟨x0, x2⟩
        refine htake (i := 0) (v := .bool true) rfl (by kernel_rfl) (by kernel_rfl) (by kernel_rfl) hPF (Or.inl ⟨by kernel_rfl, ?_⟩) hHeld ?_
        · intro u hS; obtain ⟨p0, p1⟩ := hS; go_simp
        refine htake (i := 1) (v := .bool false) rfl (by kernel_rfl) (by kernel_rfl) (by kernel_rfl) hPF (Or.inl ⟨by kernel_rfl, ?_⟩) hHeld ?_
        · intro u hS; obtain ⟨p0, p1⟩ := hS; go_simp
        refine htake (i := 2) (v := .bool false) rfl (by kernel_rfl) (by kernel_rfl) (by kernel_rfl) hPF (Or.inl ⟨by kernel_rfl, ?_⟩) hHeld ?_
        · intro u hS; obtain ⟨p0, p1⟩ := hS; go_simp
        refine htake (i := 3) (v := .bool false) rfl (by kernel_rfl) (by kernel_rfl) (by kernel_rfl) hPF (Or.inl ⟨by kernel_rfl, ?_⟩) hHeld ?_
        · intro u hS; obtain ⟨p0, p1⟩ := hS; go_simp
        refine htake (i := 4) (v := .bool true) rfl (by kernel_rfl) (by kernel_rfl) (by kernel_rfl) hPF (Or.inl ⟨by kernel_rfl, ?_⟩) hHeld ?_
        · intro u hS; obtain ⟨p0, p1⟩ := hS; go_simp
        refine htake (i := 5) (v := .bool true) rfl (by kernel_rfl) (by kernel_rfl) (by kernel_rfl) hPF (Or.inl ⟨by kernel_rfl, ?_⟩) hHeld ?_
        · intro u hS; obtain ⟨p0, p1⟩ := hS; go_simp
        refine htake (i := 6) (v := .bool true) rfl (by kernel_rfl) (by kernel_rfl) (by kernel_rfl) hPF (Or.inl ⟨by kernel_rfl, ?_⟩) hHeld ?_
        · intro u hS; obtain ⟨p0, p1⟩ := hS; go_simp
        refine htake (i := 7) (v := undef) rfl (by kernel_rfl) (by kernel_rfl) (by kernel_rfl) hPF (Or.inr ⟨by kernel_rfl, rfl⟩) hHeld ?_
        refine htake (i := 8) (v := undef) rfl (by kernel_rfl) (by kernel_rfl) (by kernel_rfl) hPF (Or.inr ⟨by kernel_rfl, rfl⟩) hHeld ?_
        refine htake (i := 9) (v := undef) rfl (by kernel_rfl) (by kernel_rfl) (by kernel_rfl) hPF (Or.inr ⟨by kernel_rfl, rfl⟩) hHeld ?_
        refine htake (i := 10) (v := undef) rfl (by kernel_rfl) (by kernel_rfl) (by kernel_rfl) hPF (Or.inr ⟨by kernel_rfl, rfl⟩) hHeld ?_
        refine htake (i := 11) (v := undef) rfl (by kernel_rfl) (by kernel_rfl) (by kernel_rfl) hPF (Or.inr ⟨by kernel_rfl, rfl⟩) hHeld ?_
        refine htake (i := 12) (v := .bool true) rfl (by kernel_rfl) (by kernel_rfl) (by kernel_rfl) hPF (Or.inl ⟨by kernel_rfl, ?_⟩) hHeld ?_
        · intro u hS; obtain ⟨p0, p1⟩ := hS; go_simp
        refine htake (i := 13) (v := .bool true) rfl (by kernel_rfl) (by kernel_rfl) (by kernel_rfl) hPF (Or.inl ⟨by kernel_rfl, ?_⟩) hHeld ?_
        · intro u hS; obtain ⟨p0, p1⟩ := hS; go_simp
        refine htake (i := 14) (v := undef) rfl (by kernel_rfl) (by kernel_rfl) (by kernel_rfl) hPF (Or.inr ⟨by kernel_rfl, rfl⟩) hHeld ?_
        refine htake (i := 15) (v := undef) rfl (by kernel_rfl) (by kernel_rfl) (by kernel_rfl) hPF (Or.inr ⟨by kernel_rfl, rfl⟩) hHeld ?_
        refine htake (i := 16) (v := undef) rfl (by kernel_rfl) (by kernel_rfl) (by kernel_rfl) hPF (Or.inr ⟨by kernel_rfl, rfl⟩) hHeld ?_
        refine htake (i := 17) (v := undef) rfl (by kernel_rfl) (by kernel_rfl) (by kernel_rfl) hPF (Or.inr ⟨by kernel_rfl, rfl⟩) hHeld ?_
        refine htake (i := 18) (v := undef) rfl (by kernel_rfl) (by kernel_rfl) (by kernel_rfl) hPF (Or.inr ⟨by kernel_rfl, rfl⟩) hHeld ?_
        refine htake (i := 19) (v := undef) rfl (by kernel_rfl) (by kernel_rfl) (by kernel_rfl) hPF (Or.inr ⟨by kernel_rfl, rfl⟩) hHeld ?_
        refine wpAnyH_ready (rs := [20]) (by kernel_rfl) (by simp) ?_
        refine AllReadyH.cons (i := 20) rfl (fun K hK => ?_) AllReadyH.nil
        go_simp
        refine hK.out _ _ ?_ (fun hHeld => ?_)
        · exact ⟨x0, x2⟩
        clear hK K
        refine wpAnyH_done (by kernel_rfl) ?_ _
        go_wp2_with fail
        go_ret2
        exact ⟨HB4.out.drew, _, by rw [HV.out]; rfl, by rw [HV.out]; exact Sl.nil _⟩
      | some v' =>
      obtain rfl : v' = v := HVV.out
      cases ky
      case false =>
        have HV : Hid (parseT s = none) := Lib.hid (par_line HP.out HCT.out (by rw [HLI.out]; simp))
        go_upto_region 9 with fail
        refine hstart (S := fun u => u.cell? ⟨w1.heap.size, 0, none⟩ = some (.string ⟨a.toArray⟩) ∧ u.cell? ⟨w1.heap.size, 2, none⟩ = some (.string ⟨p.toArray⟩)) (by kernel_rfl) (by repeat (first | exact PG.body | refine PG.then_ ?_ | refine PG.inBlock ?_)) ?_ (fun hPF hHeld => ?_)
        · exact ⟨x0, x2⟩
        refine htake (i := 0) (v := .bool true) rfl (by kernel_rfl) (by kernel_rfl) (by kernel_rfl) hPF (Or.inl ⟨by kernel_rfl, ?_⟩) hHeld ?_
        · intro u hS; obtain ⟨p0, p1⟩ := hS; go_simp
        refine htake (i := 1) (v := .bool false) rfl (by kernel_rfl) (by kernel_rfl) (by kernel_rfl) hPF (Or.inl ⟨by kernel_rfl, ?_⟩) hHeld ?_
        · intro u hS; obtain ⟨p0, p1⟩ := hS; go_simp
        refine htake (i := 2) (v := .bool false) rfl (by kernel_rfl) (by kernel_rfl) (by kernel_rfl) hPF (Or.inl ⟨by kernel_rfl, ?_⟩) hHeld ?_
        · intro u hS; obtain ⟨p0, p1⟩ := hS; go_simp
        refine htake (i := 3) (v := .bool true) rfl (by kernel_rfl) (by kernel_rfl) (by kernel_rfl) hPF (Or.inl ⟨by kernel_rfl, ?_⟩) hHeld ?_
        · intro u hS; obtain ⟨p0, p1⟩ := hS; go_simp
        refine htake (i := 4) (v := .bool false) rfl (by kernel_rfl) (by kernel_rfl) (by kernel_rfl) hPF (Or.inl ⟨by kernel_rfl, ?_⟩) hHeld ?_
        · intro u hS; obtain ⟨p0, p1⟩ := hS; go_simp
        refine htake (i := 5) (v := .bool false) rfl (by kernel_rfl) (by kernel_rfl) (by kernel_rfl) hPF (Or.inl ⟨by kernel_rfl, ?_⟩) hHeld ?_
        · intro u hS; obtain ⟨p0, p1⟩ := hS; go_simp
        refine htake (i := 6) (v := .bool false) rfl (by kernel_rfl) (by kernel_rfl) (by kernel_rfl) hPF (Or.inl ⟨by kernel_rfl, ?_⟩) hHeld ?_
        · intro u hS; obtain ⟨p0, p1⟩ := hS; go_simp
        refine htake (i := 7) (v := .slice (some ⟨w1.heap.size, 0, none⟩) 3 3) rfl (by kernel_rfl) (by kernel_rfl) (by kernel_rfl) hPF (Or.inl ⟨by kernel_rfl, ?_⟩) hHeld ?_
        · intro u hS; obtain ⟨p0, p1⟩ := hS; go_simp
        refine htake (i := 8) (v := .pointer (some ⟨w1.heap.size, 0, none⟩)) rfl (by kernel_rfl) (by kernel_rfl) (by kernel_rfl) hPF (Or.inl ⟨by kernel_rfl, ?_⟩) hHeld ?_
        · intro u hS; obtain ⟨p0, p1⟩ := hS; go_simp
        refine htake (i := 9) (v := .string ⟨a.toArray⟩) rfl (by kernel_rfl) (by kernel_rfl) (by kernel_rfl) hPF (Or.inl ⟨by kernel_rfl, ?_⟩) hHeld ?_
        · intro u hS; obtain ⟨p0, p1⟩ := hS; go_simp
        refine wpAnyH_ready (rs := [10]) (by kernel_rfl) (by simp) ?_
        refine AllReadyH.cons (i := 10) rfl (fun K hK => ?_) AllReadyH.nil
        go_simp
        go_at_call 60
        refine (hkey _).mono ?_
        rintro e w5 ⟨rfl, hb5⟩
        have hb5' : Below w4.heap.size w4 w5 := (Below.refl w4.heap.size w4).drew.trans hb5
        have HB5 := Lib.hid (HB4.out.trans (hb5'.mono HB4.out.size))
        have HZ5 : Hid (wr.heap.size ≤ w5.heap.size) := Lib.hid (Nat.le_trans HZ4.out hb5'.size)
        have HA5 := Lib.hid (HA4.out.trans (hb5'.mono HZ4.out))
        have y0 := old_cell hb5' HS4.out x0
        have y2 := old_cell hb5' HS4.out x2
        have HS5 : Hid (w1.heap.size < w5.heap.size) := Lib.hid (Nat.lt_of_lt_of_le HS4.out hb5'.size)
        clear hb5 hb5'
        refine hK.out _ _ ?_ (fun hHeld => ?_)
        · exact ⟨y0, y2⟩
        clear hK K
        refine htake (i := 11) (v := .bool true) rfl (by kernel_rfl) (by kernel_rfl) (by kernel_rfl) hPF (Or.inl ⟨by kernel_rfl, ?_⟩) hHeld ?_
        · intro u hS; obtain ⟨p0, p1⟩ := hS; go_simp
        refine htake (i := 12) (v := .bool true) rfl (by kernel_rfl) (by kernel_rfl) (by kernel_rfl) hPF (Or.inl ⟨by kernel_rfl, ?_⟩) hHeld ?_
        · intro u hS; obtain ⟨p0, p1⟩ := hS; go_simp
        refine htake (i := 13) (v := .bool true) rfl (by kernel_rfl) (by kernel_rfl) (by kernel_rfl) hPF (Or.inl ⟨by kernel_rfl, ?_⟩) hHeld ?_
        · intro u hS; obtain ⟨p0, p1⟩ := hS; go_simp
        refine htake (i := 14) (v := undef) rfl (by kernel_rfl) (by kernel_rfl) (by kernel_rfl) hPF (Or.inr ⟨by kernel_rfl, rfl⟩) hHeld ?_
        refine htake (i := 15) (v := undef) rfl (by kernel_rfl) (by kernel_rfl) (by kernel_rfl) hPF (Or.inr ⟨by kernel_rfl, rfl⟩) hHeld ?_
        refine htake (i := 16) (v := undef) rfl (by kernel_rfl) (by kernel_rfl) (by kernel_rfl) hPF (Or.inr ⟨by kernel_rfl, rfl⟩) hHeld ?_
        refine htake (i := 17) (v := undef) rfl (by kernel_rfl) (by kernel_rfl) (by kernel_rfl) hPF (Or.inr ⟨by kernel_rfl, rfl⟩) hHeld ?_
        refine htake (i := 18) (v := undef) rfl (by kernel_rfl) (by kernel_rfl) (by kernel_rfl) hPF (Or.inr ⟨by kernel_rfl, rfl⟩) hHeld ?_
        refine htake (i := 19) (v := undef) rfl (by kernel_rfl) (by kernel_rfl) (by kernel_rfl) hPF (Or.inr ⟨by kernel_rfl, rfl⟩) hHeld ?_
        refine wpAnyH_ready (rs := [20]) (by kernel_rfl) (by simp) ?_
        refine AllReadyH.cons (i := 20) rfl (fun K hK => ?_) AllReadyH.nil
        go_simp
        refine hK.out _ _ ?_ (fun hHeld => ?_)
        · exact ⟨y0, y2⟩
        clear hK K
        refine wpAnyH_done (by kernel_rfl) ?_ _
        go_wp2_with fail
        go_ret2
        exact ⟨HB5.out, _, by rw [HV.out]; rfl, by rw [HV.out]; exact Sl.nil _⟩
      case true =>
      have hprn := fun w ht => T.print_any v' (by have := HLE.out; omega) w ht
      unfold T.str at hprn
      by_cases hpv : prt v' = p
      case neg =>
        have HV : Hid (parseT s = none) := Lib.hid (par_line HP.out HCT.out (by rw [HLI.out]; dsimp only; rw [if_neg (fun h => hpv h.2)]))
        obtain ⟨R, hR⟩ : ∃ R, prt v' = R := ⟨_, rfl⟩
        rw [hR] at hpv hprn
        have hne : (R != p) = true := bne_iff_ne.2 hpv
        clear hR
        go_upto_region 9 with fail
        refine hstart (S := fun u => u.cell? ⟨w1.heap.size, 0, none⟩ = some (.string ⟨a.toArray⟩) ∧ u.cell? ⟨w1.heap.size, 2, none⟩ = some (.string ⟨p.toArray⟩)) (by kernel_rfl) (by repeat (first | exact PG.body | refine PG.then_ ?_ | refine PG.inBlock ?_)) ?_ (fun hPF hHeld => ?_)
        · exact ⟨x0, x2⟩
        refine htake (i := 0) (v := .bool true) rfl (by kernel_rfl) (by kernel_rfl) (by kernel_rfl) hPF (Or.inl ⟨by kernel_rfl, ?_⟩) hHeld ?_
        · intro u hS; obtain ⟨p0, p1⟩ := hS; go_simp
        refine htake (i := 1) (v := .bool false) rfl (by kernel_rfl) (by kernel_rfl) (by kernel_rfl) hPF (Or.inl ⟨by kernel_rfl, ?_⟩) hHeld ?_
        · intro u hS; obtain ⟨p0, p1⟩ := hS; go_simp
        refine htake (i := 2) (v := .bool false) rfl (by kernel_rfl) (by kernel_rfl) (by kernel_rfl) hPF (Or.inl ⟨by kernel_rfl, ?_⟩) hHeld ?_
        · intro u hS; obtain ⟨p0, p1⟩ := hS; go_simp
        refine htake (i := 3) (v := .bool true) rfl (by kernel_rfl) (by kernel_rfl) (by kernel_rfl) hPF (Or.inl ⟨by kernel_rfl, ?_⟩) hHeld ?_
        · intro u hS; obtain ⟨p0, p1⟩ := hS; go_simp
        refine htake (i := 4) (v := .bool false) rfl (by kernel_rfl) (by kernel_rfl) (by kernel_rfl) hPF (Or.inl ⟨by kernel_rfl, ?_⟩) hHeld ?_
        · intro u hS; obtain ⟨p0, p1⟩ := hS; go_simp
        refine htake (i := 5) (v := .bool false) rfl (by kernel_rfl) (by kernel_rfl) (by kernel_rfl) hPF (Or.inl ⟨by kernel_rfl, ?_⟩) hHeld ?_
        · intro u hS; obtain ⟨p0, p1⟩ := hS; go_simp
        refine htake (i := 6) (v := .bool false) rfl (by kernel_rfl) (by kernel_rfl) (by kernel_rfl) hPF (Or.inl ⟨by kernel_rfl, ?_⟩) hHeld ?_
        · intro u hS; obtain ⟨p0, p1⟩ := hS; go_simp
        refine htake (i := 7) (v := .slice (some ⟨w1.heap.size, 0, none⟩) 3 3) rfl (by kernel_rfl) (by kernel_rfl) (by kernel_rfl) hPF (Or.inl ⟨by kernel_rfl, ?_⟩) hHeld ?_
        · intro u hS; obtain ⟨p0, p1⟩ := hS; go_simp
        refine htake (i := 8) (v := .pointer (some ⟨w1.heap.size, 0, none⟩)) rfl (by kernel_rfl) (by kernel_rfl) (by kernel_rfl) hPF (Or.inl ⟨by kernel_rfl, ?_⟩) hHeld ?_
        · intro u hS; obtain ⟨p0, p1⟩ := hS; go_simp
        refine htake (i := 9) (v := .string ⟨a.toArray⟩) rfl (by kernel_rfl) (by kernel_rfl) (by kernel_rfl) hPF (Or.inl ⟨by kernel_rfl, ?_⟩) hHeld ?_
        · intro u hS; obtain ⟨p0, p1⟩ := hS; go_simp
        refine wpAnyH_ready (rs := [10]) (by kernel_rfl) (by simp) ?_
        refine AllReadyH.cons (i := 10) rfl (fun K hK => ?_) AllReadyH.nil
        go_simp
        go_at_call 60
        refine (hkey _).mono ?_
        rintro e w5 ⟨rfl, hb5⟩
        have hb5' : Below w4.heap.size w4 w5 := (Below.refl w4.heap.size w4).drew.trans hb5
        have HB5 := Lib.hid (HB4.out.trans (hb5'.mono HB4.out.size))
        have HZ5 : Hid (wr.heap.size ≤ w5.heap.size) := Lib.hid (Nat.le_trans HZ4.out hb5'.size)
        have HA5 := Lib.hid (HA4.out.trans (hb5'.mono HZ4.out))
        have y0 := old_cell hb5' HS4.out x0
        have y2 := old_cell hb5' HS4.out x2
        have HS5 : Hid (w1.heap.size < w5.heap.size) := Lib.hid (Nat.lt_of_lt_of_le HS4.out hb5'.size)
        clear hb5 hb5'
        refine hK.out _ _ ?_ (fun hHeld => ?_)
        · exact ⟨y0, y2⟩
        clear hK K
        refine htake (i := 11) (v := .bool false) rfl (by kernel_rfl) (by kernel_rfl) (by kernel_rfl) hPF (Or.inl ⟨by kernel_rfl, ?_⟩) hHeld ?_
        · intro u hS; obtain ⟨p0, p1⟩ := hS; go_simp
        refine htake (i := 12) (v := .bool false) rfl (by kernel_rfl) (by kernel_rfl) (by kernel_rfl) hPF (Or.inl ⟨by kernel_rfl, ?_⟩) hHeld ?_
        · intro u hS; obtain ⟨p0, p1⟩ := hS; go_simp
        refine htake (i := 13) (v := .bool false) rfl (by kernel_rfl) (by kernel_rfl) (by kernel_rfl) hPF (Or.inl ⟨by kernel_rfl, ?_⟩) hHeld ?_
        · intro u hS; obtain ⟨p0, p1⟩ := hS; go_simp
        refine htake (i := 14) (v := .int .u64 (v' : Int)) rfl (by kernel_rfl) (by kernel_rfl) (by kernel_rfl) hPF (Or.inl ⟨by kernel_rfl, ?_⟩) hHeld ?_
        · intro u hS; obtain ⟨p0, p1⟩ := hS; go_simp
        refine htake (i := 16) (v := .slice (some ⟨w1.heap.size, 0, none⟩) 3 3) rfl (by kernel_rfl) (by kernel_rfl) (by kernel_rfl) hPF (Or.inl ⟨by kernel_rfl, ?_⟩) hHeld ?_
        · intro u hS; obtain ⟨p0, p1⟩ := hS; go_simp
        refine htake (i := 17) (v := .pointer (some ⟨w1.heap.size, 2, none⟩)) rfl (by kernel_rfl) (by kernel_rfl) (by kernel_rfl) hPF (Or.inl ⟨by kernel_rfl, ?_⟩) hHeld ?_
        · intro u hS; obtain ⟨p0, p1⟩ := hS; go_simp
        refine htake (i := 18) (v := .string ⟨p.toArray⟩) rfl (by kernel_rfl) (by kernel_rfl) (by kernel_rfl) hPF (Or.inl ⟨by kernel_rfl, ?_⟩) hHeld ?_
        · intro u hS; obtain ⟨p0, p1⟩ := hS; go_simp
        refine wpAnyH_ready (rs := [15]) (by kernel_rfl) (by simp) ?_
        refine AllReadyH.cons (i := 15) rfl (fun K hK => ?_) AllReadyH.nil
        go_simp
        go_at_call 61
        refine (hprn _ (HTB.out.below HB5.out)).mono ?_
        rintro e w6 ⟨rfl, hb6⟩
        have HB6 := Lib.hid (HB5.out.trans (hb6.mono HB5.out.size))
        have HZ6 : Hid (wr.heap.size ≤ w6.heap.size) := Lib.hid (Nat.le_trans HZ5.out hb6.size)
        have HA6 := Lib.hid (HA5.out.trans (hb6.mono HZ5.out))
        have z0 := old_cell hb6 HS5.out y0
        have z2 := old_cell hb6 HS5.out y2
        clear hb6
        refine hK.out _ _ ?_ (fun hHeld => ?_)
        · exact ⟨z0, z2⟩
        clear hK K
        refine htake (i := 19) (v := .bool true) rfl (by kernel_rfl) (by kernel_rfl) (by kernel_rfl) hPF (Or.inl ⟨by kernel_rfl, ?_⟩) hHeld ?_
        · intro u hS; obtain ⟨p0, p1⟩ := hS; go_simp
        refine wpAnyH_ready (rs := [20]) (by kernel_rfl) (by simp) ?_
        refine AllReadyH.cons (i := 20) rfl (fun K hK => ?_) AllReadyH.nil
        go_simp
        refine hK.out _ _ ?_ (fun hHeld => ?_)
        · exact ⟨z0, z2⟩
        clear hK K
        refine wpAnyH_done (by kernel_rfl) ?_ _
        go_wp2_with fail
        go_ret2
        exact ⟨HB6.out, _, by rw [HV.out]; rfl, by rw [HV.out]; exact Sl.nil _⟩
      case pos =>
      have HNL : Hid (lineL line = some ⟨a, (k : Int), v'⟩) := Lib.hid (by rw [HLI.out]; dsimp only; rw [if_pos ⟨rfl, hpv⟩])
      have HLNE : Hid (line.length ≠ 0) := Lib.hid (fun h => by
        have h0 : line = [] := List.eq_nil_of_length_eq_zero h
        have := HNL.out
        rw [h0, line_same, lineD_nil] at this
        cases this)
      have HCL := Lib.hid (cut1_lens_hit (c := 10) (s := c :: t) (by rw [HCT.out]))
      have HP2 := Lib.hid (par_next HP.out HCT.out HNL.out)
      obtain ⟨R, hR⟩ : ∃ R, prt v' = R := ⟨_, rfl⟩
      rw [hR] at hpv hprn
      subst hpv
      have hne : (R != R) = false := by simp
      clear hR
      go_upto_region 9 with fail
      refine hstart (S := fun u => u.cell? ⟨w1.heap.size, 0, none⟩ = some (.string ⟨a.toArray⟩) ∧ u.cell? ⟨w1.heap.size, 2, none⟩ = some (.string ⟨R.toArray⟩)) (by kernel_rfl) (by repeat (first | exact PG.body | refine PG.then_ ?_ | refine PG.inBlock ?_)) ?_ (fun hPF hHeld => ?_)
      · exact ⟨x0, x2⟩
      refine htake (i := 0) (v := .bool true) rfl (by kernel_rfl) (by kernel_rfl) (by kernel_rfl) hPF (Or.inl ⟨by kernel_rfl, ?_⟩) hHeld ?_
      · intro u hS; obtain ⟨p0, p1⟩ := hS; go_simp
      refine htake (i := 1) (v := .bool false) rfl (by kernel_rfl) (by kernel_rfl) (by kernel_rfl) hPF (Or.inl ⟨by kernel_rfl, ?_⟩) hHeld ?_
      · intro u hS; obtain ⟨p0, p1⟩ := hS; go_simp
      refine htake (i := 2) (v := .bool false) rfl (by kernel_rfl) (by kernel_rfl) (by kernel_rfl) hPF (Or.inl ⟨by kernel_rfl, ?_⟩) hHeld ?_
      · intro u hS; obtain ⟨p0, p1⟩ := hS; go_simp
      refine htake (i := 3) (v := .bool true) rfl (by kernel_rfl) (by kernel_rfl) (by kernel_rfl) hPF (Or.inl ⟨by kernel_rfl, ?_⟩) hHeld ?_
      · intro u hS; obtain ⟨p0, p1⟩ := hS; go_simp
      refine htake (i := 4) (v := .bool false) rfl (by kernel_rfl) (by kernel_rfl) (by kernel_rfl) hPF (Or.inl ⟨by kernel_rfl, ?_⟩) hHeld ?_
      · intro u hS; obtain ⟨p0, p1⟩ := hS; go_simp
      refine htake (i := 5) (v := .bool false) rfl (by kernel_rfl) (by kernel_rfl) (by kernel_rfl) hPF (Or.inl ⟨by kernel_rfl, ?_⟩) hHeld ?_
      · intro u hS; obtain ⟨p0, p1⟩ := hS; go_simp
      refine htake (i := 6) (v := .bool false) rfl (by kernel_rfl) (by kernel_rfl) (by kernel_rfl) hPF (Or.inl ⟨by kernel_rfl, ?_⟩) hHeld ?_
      · intro u hS; obtain ⟨p0, p1⟩ := hS; go_simp
      refine htake (i := 7) (v := .slice (some ⟨w1.heap.size, 0, none⟩) 3 3) rfl (by kernel_rfl) (by kernel_rfl) (by kernel_rfl) hPF (Or.inl ⟨by kernel_rfl, ?_⟩) hHeld ?_
      · intro u hS; obtain ⟨p0, p1⟩ := hS; go_simp
      refine htake (i := 8) (v := .pointer (some ⟨w1.heap.size, 0, none⟩)) rfl (by kernel_rfl) (by kernel_rfl) (by kernel_rfl) hPF (Or.inl ⟨by kernel_rfl, ?_⟩) hHeld ?_
      · intro u hS; obtain ⟨p0, p1⟩ := hS; go_simp
      refine htake (i := 9) (v := .string ⟨a.toArray⟩) rfl (by kernel_rfl) (by kernel_rfl) (by kernel_rfl) hPF (Or.inl ⟨by kernel_rfl, ?_⟩) hHeld ?_
      · intro u hS; obtain ⟨p0, p1⟩ := hS; go_simp
      refine wpAnyH_ready (rs := [10]) (by kernel_rfl) (by simp) ?_
      refine AllReadyH.cons (i := 10) rfl (fun K hK => ?_) AllReadyH.nil
      go_simp
      go_at_call 60
      refine (hkey _).mono ?_
      rintro e w5 ⟨rfl, hb5⟩
      have hb5' : Below w4.heap.size w4 w5 := (Below.refl w4.heap.size w4).drew.trans hb5
      have HB5 := Lib.hid (HB4.out.trans (hb5'.mono HB4.out.size))
      have HZ5 : Hid (wr.heap.size ≤ w5.heap.size) := Lib.hid (Nat.le_trans HZ4.out hb5'.size)
      have HA5 := Lib.hid (HA4.out.trans (hb5'.mono HZ4.out))
      have y0 := old_cell hb5' HS4.out x0
      have y2 := old_cell hb5' HS4.out x2
      have HS5 : Hid (w1.heap.size < w5.heap.size) := Lib.hid (Nat.lt_of_lt_of_le HS4.out hb5'.size)
      clear hb5 hb5'
      refine hK.out _ _ ?_ (fun hHeld => ?_)
      · exact ⟨y0, y2⟩
      clear hK K
      refine htake (i := 11) (v := .bool false) rfl (by kernel_rfl) (by kernel_rfl) (by kernel_rfl) hPF (Or.inl ⟨by kernel_rfl, ?_⟩) hHeld ?_
      · intro u hS; obtain ⟨p0, p1⟩ := hS; go_simp
      refine htake (i := 12) (v := .bool false) rfl (by kernel_rfl) (by kernel_rfl) (by kernel_rfl) hPF (Or.inl ⟨by kernel_rfl, ?_⟩) hHeld ?_
      · intro u hS; obtain ⟨p0, p1⟩ := hS; go_simp
      refine htake (i := 13) (v := .bool false) rfl (by kernel_rfl) (by kernel_rfl) (by kernel_rfl) hPF (Or.inl ⟨by kernel_rfl, ?_⟩) hHeld ?_
      · intro u hS; obtain ⟨p0, p1⟩ := hS; go_simp
      refine htake (i := 14) (v := .int .u64 (v' : Int)) rfl (by kernel_rfl) (by kernel_rfl) (by kernel_rfl) hPF (Or.inl ⟨by kernel_rfl, ?_⟩) hHeld ?_
      · intro u hS; obtain ⟨p0, p1⟩ := hS; go_simp
      refine htake (i := 16) (v := .slice (some ⟨w1.heap.size, 0, none⟩) 3 3) rfl (by kernel_rfl) (by kernel_rfl) (by kernel_rfl) hPF (Or.inl ⟨by kernel_rfl, ?_⟩) hHeld ?_
      · intro u hS; obtain ⟨p0, p1⟩ := hS; go_simp
      refine htake (i := 17) (v := .pointer (some ⟨w1.heap.size, 2, none⟩)) rfl (by kernel_rfl) (by kernel_rfl) (by kernel_rfl) hPF (Or.inl ⟨by kernel_rfl, ?_⟩) hHeld ?_
      · intro u hS; obtain ⟨p0, p1⟩ := hS; go_simp
      refine htake (i := 18) (v := .string ⟨R.toArray⟩) rfl (by kernel_rfl) (by kernel_rfl) (by kernel_rfl) hPF (Or.inl ⟨by kernel_rfl, ?_⟩) hHeld ?_
      · intro u hS; obtain ⟨p0, p1⟩ := hS; go_simp
      refine wpAnyH_ready (rs := [15]) (by kernel_rfl) (by simp) ?_
      refine AllReadyH.cons (i := 15) rfl (fun K hK => ?_) AllReadyH.nil
      go_simp
      go_at_call 61
      refine (hprn _ (HTB.out.below HB5.out)).mono ?_
      rintro e w6 ⟨rfl, hb6⟩
      have HB6 := Lib.hid (HB5.out.trans (hb6.mono HB5.out.size))
      have HZ6 : Hid (wr.heap.size ≤ w6.heap.size) := Lib.hid (Nat.le_trans HZ5.out hb6.size)
      have HA6 := Lib.hid (HA5.out.trans (hb6.mono HZ5.out))
      have z0 := old_cell hb6 HS5.out y0
      have z2 := old_cell hb6 HS5.out y2
      clear hb6
      refine hK.out _ _ ?_ (fun hHeld => ?_)
      · exact ⟨z0, z2⟩
      clear hK K
      refine htake (i := 19) (v := .bool false) rfl (by kernel_rfl) (by kernel_rfl) (by kernel_rfl) hPF (Or.inl ⟨by kernel_rfl, ?_⟩) hHeld ?_
      · intro u hS; obtain ⟨p0, p1⟩ := hS; go_simp
      refine wpAnyH_ready (rs := [20]) (by kernel_rfl) (by simp) ?_
      refine AllReadyH.cons (i := 20) rfl (fun K hK => ?_) AllReadyH.nil
      go_simp
      refine hK.out _ _ ?_ (fun hHeld => ?_)
      · exact ⟨z0, z2⟩
      clear hK K
      refine wpAnyH_done (by kernel_rfl) ?_ _
      have HO6 : Hid (OwnS 54 3 lnC w6 w.heap.size u4 acc) := Lib.hid (HO.out.below HA6.out (Nat.le_refl _))
      have HO7 := Lib.hid (HO6.out.below ((Below.refl w6.heap.size w6).alloc (Nat.le_refl _) (.cells #[.string ⟨a.toArray⟩, .int .i64 (k : Int), .int .u64 (v' : Int)] 54)) (Nat.le_refl _))
      have HB7 := Lib.hid (HB6.out.alloc HB6.out.size (.cells #[.string ⟨a.toArray⟩, .int .i64 (k : Int), .int .u64 (v' : Int)] 54))
      have HN7 := Lib.hid (Bk.new w6 (lnC ⟨a, (k : Int), v'⟩) 54 rfl)
      go_wp2_with (at_builtin; refine wpList_appS rfl _ _ 51 rfl Tryz.underlying51 info54 rfl (by decide) lnC_len lnC_one (by decide) rfl HO7.out (g := w6.heap.size) (c := 1) (y := ⟨a, (k : Int), v'⟩) rfl (fun j u hj => (HN7.out j u hj).1) (by have := HL.out; omega) HB7.out.size ?_; intro v9 w9 hown' hb9 _; have HO9 := Lib.hid hown'; have HB9 := Lib.hid (HB7.out.trans hb9); clear hown' hb9)
      have HCL2 := HCL.out
      rw [HCT.out] at HCL2
      dsimp only at HCL2
      exact ⟨⟨rest, acc ++ [⟨a, (k : Int), v'⟩], rfl, HO9, HB9, HP2, Lib.hid (by rw [List.length_append, List.length_singleton]; have h1 := HL.out; have h2 := HLNE.out; omega)⟩, by have h1 : (c :: t).length = t.length + 1 := rfl; simp only [T.lenOf, ByteArray.size, List.size_toArray]; omega⟩
end Go.Proofs.YtpdedfpacklnoaaGreatDoor
