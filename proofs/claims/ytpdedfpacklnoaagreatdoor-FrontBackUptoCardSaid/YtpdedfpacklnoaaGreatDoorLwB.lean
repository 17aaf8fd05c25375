/- The law FrontBack: its round of a price, and the law. -/
import Derived.Test.YtpdedfpacklnoaaGreatDoorRfG
import Derived.Test.YtpdedfpacklnoaaGreatDoorRfI
import Derived.Test.YtpdedfpacklnoaaGreatDoorMR
set_option maxRecDepth 100000
namespace Go.Proofs.YtpdedfpacklnoaaGreatDoor
open Go.RowKit Go.BL Go.Ct Go.Sl Go.Wr Go.Fl

set_option maxHeartbeats 2000000 in
theorem round_any (p : Nat) (hp : p < 18446744073709551616) (w : World) : Calls Tryz.prog 21 #[.int .u64 (p : Int)] w (RetV (.bool (decide (priceT (prt p) = some p))) w) := by
  have hpr := fun w => T.printR_any p hp w
  have hpc := (price_both (prt p) (by have := prt_len p; omega)).2
  rw [resL_eq] at hpc
  obtain ⟨s, hs⟩ : ∃ s, prt p = s := ⟨_, rfl⟩
  rw [hs] at hpr hpc ⊢
  obtain ⟨o, ho⟩ : ∃ o, priceT s = o := ⟨_, rfl⟩
  rw [ho] at hpc ⊢
  unfold T.str at hpr
  clear hs ho
  cases o with
  | none =>
    have HV : Hid (decide ((none : Option Nat) = some p) = false) := Lib.hid (by simp)
    dsimp only [Option.getD, Option.isSome] at hpc
    go_enter Tryz.func21, Tryz.ntmps21
    go_wp2_with (first
      | (go_at_call 55; refine (hpr _).mono ?_; rintro e w1 ⟨rfl, hb⟩; have HB1 := Lib.hid hb; clear hb)
      | (go_at_call 54; refine (hpc _).mono ?_; rintro e w2 ⟨rfl, hb⟩; have HB2 := Lib.hid (HB1.out.trans (hb.mono HB1.out.size)); clear hb))
    go_ret
    exact ⟨by rw [HV.out]; rfl, HB2.out⟩
  | some q =>
    dsimp only [Option.getD, Option.isSome] at hpc
    by_cases hq : q = p
    case pos =>
      subst hq
      have HV : Hid (decide ((some q : Option Nat) = some q) = true) := Lib.hid (by simp)
      go_enter Tryz.func21, Tryz.ntmps21
      go_wp2_with (first
        | (go_at_call 55; refine (hpr _).mono ?_; rintro e w1 ⟨rfl, hb⟩; have HB1 := Lib.hid hb; clear hb)
        | (go_at_call 54; refine (hpc _).mono ?_; rintro e w2 ⟨rfl, hb⟩; have HB2 := Lib.hid (HB1.out.trans (hb.mono HB1.out.size)); clear hb))
      go_ret
      exact ⟨by rw [HV.out]; rfl, HB2.out⟩
    case neg =>
      have HV : Hid (decide ((some q : Option Nat) = some p) = false) := Lib.hid (by simp [hq])
      have hq' : ((q : Int) == (p : Int)) = false := beq_false_of_ne (by omega)
      go_enter Tryz.func21, Tryz.ntmps21
      go_wp2_with (first
        | (go_at_call 55; refine (hpr _).mono ?_; rintro e w1 ⟨rfl, hb⟩; have HB1 := Lib.hid hb; clear hb)
        | (go_at_call 54; refine (hpc _).mono ?_; rintro e w2 ⟨rfl, hb⟩; have HB2 := Lib.hid (HB1.out.trans (hb.mono HB1.out.size)); clear hb))
      go_ret
      exact ⟨by rw [HV.out]; rfl, HB2.out⟩

theorem lines_len : ∀ (l : List Ln), (∀ x ∈ l, okLn x) → (linesT l).length ≤ l.length * 82
  | [], _ => Nat.zero_le _
  | x :: r, h => by
    have h1 := lines_len r (fun y hy => h y (List.mem_cons_of_mem _ hy))
    obtain ⟨h2, h3, h4, _⟩ := h x (List.mem_cons_self ..)
    have h5 : x.it.length ≤ 32 := by
      rw [key_name] at h2
      unfold isName at h2
      simp only [Bool.and_eq_true, decide_eq_true_eq] at h2
      exact h2.1.2
    obtain ⟨it, q, p⟩ := x
    dsimp only at h3 h4 h5
    obtain ⟨m, rfl⟩ := Int.eq_ofNat_of_zero_le (by omega : 0 ≤ q)
    have h6 := lineT_len it m p (by omega)
    show (lineT ⟨it, (m : Int), p⟩ ++ linesT r).length ≤ (r.length + 1) * 82
    rw [List.length_append]
    omega
theorem ents_price {x : Cx} : ∀ (l pre : List En), entsE x pre l = 0 → ∀ e ∈ l, isPrice e.p = true
  | [], _, _, e, he => by cases he
  | a :: r, pre, h, e, he => by
    unfold entsE at h
    by_cases h0 : entE x pre a ≠ 0
    · rw [if_pos h0] at h; exact absurd h h0
    · rw [if_neg h0] at h
      rcases List.mem_cons.1 he with rfl | he
      · have h1 : entE x pre e = 0 := Decidable.not_not.1 h0
        unfold entE at h1
        split at h1
        · cases h1
        · split at h1
          · cases h1
          · split at h1
            · cases h1
            · rename_i _ _ h3
              simpa using h3
      · exact ents_price r (a :: pre) h e he
theorem cart_prices {c : Ct} (h : canC c = 0) : ∀ e ∈ c.es, e.p < 18446744073709551615 := fun e he => by
  have := ents_price c.es [] (can_iff h).2.2.1 e he
  unfold isPrice at this
  simp only [Bool.or_eq_true, decide_eq_true_eq] at this
  omega
set_option maxHeartbeats 8000000 in
theorem back_law (hc : AwkC) (k : Ct) (e m c : Value) (w : World) (he : Ents w e k.es) (hm : Dots w m k.x.ms) (hcl : Dots w c k.x.cl) (hok : ∀ y ∈ k.es, y.it.length ≤ 1048576 ∧ y.p < 18446744073709551616) (hcp : ∀ A n c, e = .slice A n c → n ≤ c) (hg : Gnd w) :
    Calls Tryz.prog 6 #[.agg #[e, m, c]] w (RetV (.bool true) w) := by
  obtain ⟨w0, hw0⟩ : ∃ w0, w.alloc (.cells #[e, m, c] 32) = w0 := ⟨_, rfl⟩
  have HB : Hid (Below w.heap.size w w0) := Lib.hid (by rw [← hw0]; exact (Below.refl _ _).alloc (Nat.le_refl _) _)
  have HS : Hid (w.heap.size < w0.heap.size) := Lib.hid (by rw [← hw0]; simp)
  obtain ⟨q0, q1, q2⟩ : w0.cell? ⟨w.heap.size, 0, none⟩ = some e ∧ w0.cell? ⟨w.heap.size, 1, none⟩ = some m ∧ w0.cell? ⟨w.heap.size, 2, none⟩ = some c := by rw [← hw0]; exact tri_at w e m c 32 _ rfl
  have HE := Lib.hid (he.below HB.out (Nat.le_refl _))
  have HM := Lib.hid (hm.below HB.out (Nat.le_refl _))
  have HC := Lib.hid (hcl.below HB.out (Nat.le_refl _))
  have HG := Lib.hid (hg.below HB.out)
  have hca := canR_any k.es k.x e m c w0 HE.out HM.out HC.out hcp (fun y hy => by have := (hok y hy).1; omega)
  have haw := awake_any hc
  have HCP := Lib.hid hcp
  have HOK := Lib.hid hok
  clear he hm hcl hg hcp hok hc
  rw [show (⟨k.es, k.x⟩ : Ct) = k from rfl] at hca
  by_cases h0 : canC k = 0
  case neg =>
    obtain ⟨n, hn⟩ : ∃ n, canC k = n := ⟨_, rfl⟩
    rw [hn] at hca h0
    have hne : ((n : Int) != 0) = true := bne_iff_ne.2 (by omega)
    clear hn h0
    go_enter Tryz.func6, Tryz.ntmps6
    go_wp2_with (first
      | (go_at_call 12; refine hca.mono ?_; rintro e w1 ⟨rfl, hb⟩; have HB1 := Lib.hid hb; have HG1 := Lib.hid (HG.out.below hb); clear hb)
      | (go_at_call 13; refine (haw _ HG1.out).mono ?_; rintro e w2 ⟨rfl, hb⟩; have HB2 := Lib.hid (HB1.out.trans (hb.mono HB1.out.size)); clear hb))
    go_ret
    exact ⟨rfl, HB.out.trans (HB2.out.mono HB.out.size)⟩
  rw [h0] at hca
  have HC0 := Lib.hid h0
  have hpr := cart_prices h0
  have hles : k.es.length ≤ 64 := (can_iff h0).2.1
  have hrd := fun v w h => readR_any k v w h hpr hles
  have HLL : Hid ((readL k.es).length ≤ 64) := Lib.hid (Nat.le_trans (read_len _) hles)
  have HPR : Hid (∀ x ∈ readL k.es, x.p < 18446744073709551616) := Lib.hid (read_all (P := fun x => x.p < 18446744073709551616) k.es (fun e he => (HOK.out e he).2))
  have HPB := Lib.hid (fun hp => back_plain h0 hp)
  have HKN := Lib.hid (fun hp => read_ok h0 hp)
  obtain ⟨l, hl⟩ : ∃ l, readL k.es = l := ⟨_, rfl⟩
  rw [hl] at hrd HLL HPR HPB HKN
  clear h0 hpr hles hl
  unfold ReaLR at hrd
  go_enter Tryz.func6, Tryz.ntmps6
  go_upto_region 3 with (go_at_call 12; refine hca.mono ?_; rintro e w1 ⟨rfl, hb⟩; have HB1 := Lib.hid hb; clear hb)
  clear hca hw0
  have r0 := old_cell HB1.out HS.out q0
  have r1 := old_cell HB1.out HS.out q1
  have r2 := old_cell HB1.out HS.out q2
  have HCR : Hid (CartR w1 (.agg #[e, m, c]) k) := Lib.hid ⟨e, m, c, rfl, HE.out.below HB1.out (Nat.le_refl _), HM.out.below HB1.out (Nat.le_refl _), HC.out.below HB1.out (Nat.le_refl _)⟩
  go_wp2_with fail
  go_at_call 20
  refine (hrd _ _ HCR.out).mono ?_
  clear hrd r0 r1 r2
  rintro e' w2 ⟨hb2, v', rfl, hl2⟩
  obtain ⟨A2, c2, rfl⟩ := hl2.form
  have hmx := hl2.1
  have HB2 := Lib.hid (HB1.out.trans (hb2.mono HB1.out.size))
  have HL2 := Lib.hid hl2
  clear hb2 hl2
  go_wp2_with fail
  go_loopw [16] (fun j wr => ∃ i : Nat, i ≤ l.length ∧ j = .int .i64 (i : Int) ∧ Hid (Below w2.heap.size w2 wr) ∧ Hid (∀ x ∈ l.take i, priceT (prt x.p) = some x.p)) (fun j _ => l.length - (intOf j).toNat)
  case atStart => exact ⟨0, by omega, rfl, Lib.hid (Below.refl _ _), Lib.hid (by intro x hx; cases hx)⟩
  case round =>
    obtain ⟨i, hi, rfl, HR, HP⟩ := hrel
    by_cases hlt : i < l.length
    · obtain ⟨b, off, rfl, hbl, hcc⟩ := ln_cells HL2.out (by omega)
      obtain ⟨c0, c1, c2'⟩ := hcc i hlt
      have HPI := Lib.hid (HPR.out _ (List.getElem_mem hlt))
      have HTK : Hid (priceT (prt l[i].p) = some l[i].p → ∀ x ∈ l.take (i + 1), priceT (prt x.p) = some x.p) := Lib.hid (fun h x hx => by
        rw [List.take_succ_eq_append_getElem hlt] at hx
        rcases List.mem_append.1 hx with hx | hx
        · exact HP.out x hx
        · rw [List.mem_singleton.1 hx]; exact h)
      generalize l[i] = y at *
      obtain ⟨it, q, p⟩ := y
      dsimp only at c0 c1 c2' HPI HTK
      have d0 := old_cell HR.out hbl c0
      have d1 := old_cell HR.out hbl c1
      have d2 := old_cell HR.out hbl c2'
      clear hcc c0 c1 c2' hbl
      have hro := fun w => round_any p HPI.out w
      obtain ⟨bb, hbb⟩ : ∃ x, decide (priceT (prt p) = some p) = x := ⟨_, rfl⟩
      rw [hbb] at hro
      have HBB := Lib.hid hbb
      clear hbb
      obtain ⟨w3, hw3⟩ : ∃ y, wr.alloc (.cells #[.string ⟨it.toArray⟩, .int .i64 q, .int .u64 (p : Int)] 54) = y := ⟨_, rfl⟩
      have HB3 : Hid (Below w2.heap.size w2 w3) := Lib.hid (by rw [← hw3]; exact HR.out.alloc HR.out.size _)
      obtain ⟨x0, x1, x2⟩ : w3.cell? ⟨wr.heap.size, 0, none⟩ = some (.string ⟨it.toArray⟩) ∧ w3.cell? ⟨wr.heap.size, 1, none⟩ = some (.int .i64 q) ∧ w3.cell? ⟨wr.heap.size, 2, none⟩ = some (.int .u64 (p : Int)) := by rw [← hw3]; exact tri_at wr _ _ _ 54 _ rfl
      go_upto_region 7 with fail
      clear hw3 d0 d1 d2
      cases bb
      case false =>
        go_wp2_with (first
          | (go_at_call 21; refine (hro _).mono ?_; rintro e w4 ⟨rfl, hb⟩; have HB4 := Lib.hid (HB3.out.trans (hb.mono HB3.out.size)); have HG4 := Lib.hid ((HG.out.below HB2.out).below HB4.out); clear hb)
          | (go_at_call 13; refine (haw _ HG4.out).mono ?_; rintro e w5 ⟨rfl, hb⟩; have HB5 := Lib.hid (HB4.out.trans (hb.mono HB4.out.size)); clear hb))
        go_ret
        exact ⟨rfl, HB.out.trans ((HB2.out.trans (HB5.out.mono HB2.out.size)).mono HB.out.size)⟩
      case true =>
        have HTK2 := Lib.hid (HTK.out (of_decide_eq_true HBB.out))
        go_wp2_with (go_at_call 21; refine (hro _).mono ?_; rintro e w4 ⟨rfl, hb⟩; have HB4 := Lib.hid (HB3.out.trans (hb.mono HB3.out.size)); clear hb)
        exact ⟨⟨i + 1, by omega, by go_num, HB4, HTK2⟩, by simp [intOf]; omega⟩
    · have HPA : Hid (∀ x ∈ l, priceT (prt x.p) = some x.p) := Lib.hid (by have := HP.out; rwa [List.take_of_length_le (by omega)] at this)
      have HKK := Lib.hid (HKN.out HPA.out)
      have hlen : (linesT l).length ≤ 5248 := by have := lines_len l HKK.out; have := HLL.out; omega
      have hli := fun v w h ht => lines_any l v w h (fun x hx => ⟨by have := (HKK.out x hx).2.1; omega, by have := (HKK.out x hx).2.2.1; omega, HPR.out x hx⟩) (by omega) ht
      have hpa := fun w he hr ht => parse_any (linesT l) (by omega) w he hr ht
      rw [HPB.out HPA.out] at hpa
      unfold ParR at hpa
      dsimp only [Option.getD, Option.isSome] at hpa
      obtain ⟨S, hS⟩ : ∃ S, linesT l = S := ⟨_, rfl⟩
      rw [hS] at hli hpa
      clear hlen hS
      have HG3 := Lib.hid ((HG.out.below HB2.out).below HR.out)
      go_wp2_with fail
      go_at_call 23
      refine (hli _ _ (HL2.out.below HR.out (Nat.le_refl _)) HG3.out.tab).mono ?_
      clear hli
      rintro e' w4 ⟨rfl, hb4⟩
      have HB4 := Lib.hid (HR.out.trans (hb4.mono HR.out.size))
      have HG4 := Lib.hid (HG3.out.below hb4)
      clear hb4
      go_wp2_with fail
      go_at_call 22
      refine (hpa _ HG4.out.env HG4.out.errs HG4.out.tab).mono ?_
      clear hpa
      rintro e' w5 ⟨hb5, v5, rfl, hl5⟩
      obtain ⟨A5, c5, rfl⟩ := hl5.form
      have HB5 := Lib.hid (HB4.out.trans (hb5.mono HB4.out.size))
      have HG5 := Lib.hid (HG4.out.below hb5)
      have heq := eqLn_any l l (.slice A2 l.length c2) (.slice A5 l.length c5) w5 (HL2.out.below HB5.out (Nat.le_refl _)) hl5
      rw [decide_eq_true (rfl : l = l)] at heq
      clear hb5 hl5
      go_wp2_with fail
      go_at_call 24
      refine heq.mono ?_
      clear heq
      rintro e' w6 ⟨rfl, hb6⟩
      have HB6 := Lib.hid (HB5.out.trans (hb6.mono HB5.out.size))
      have HG6 := Lib.hid (HG5.out.below hb6)
      clear hb6
      go_wp2_with fail
      go_at_call 13
      refine (haw _ HG6.out).mono ?_
      rintro e' w7 ⟨rfl, hb7⟩
      have HB7 := Lib.hid (HB6.out.trans (hb7.mono HB6.out.size))
      clear hb7
      go_wp2_with fail
      go_ret
      exact ⟨rfl, HB.out.trans ((HB2.out.trans (HB7.out.mono HB2.out.size)).mono HB.out.size)⟩
end Go.Proofs.YtpdedfpacklnoaaGreatDoor
