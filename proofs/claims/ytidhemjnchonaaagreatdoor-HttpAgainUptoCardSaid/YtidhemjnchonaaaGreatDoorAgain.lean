/- The law HttpAgain, walked. -/
import Derived.Test.YtidhemjnchonaaaGreatDoorPrnC
import Derived.Test.YtidhemjnchonaaaGreatDoorCase
namespace Go.Proofs.YtidhemjnchonaaaGreatDoor
open Go.RowKit Go.BL

theorem first_len {l m t : List UInt8} (e : firstL l = .ok (m, t)) : m.length ≤ 16 ∧ t.length ≤ 1024 := by
  unfold firstL at e
  split at e
  · rename_i m' t' v' hl
    split at e
    · cases e
    · split at e
      · cases e
      · rename_i h1
        split at e
        · cases e
        · split at e
          · cases e
          · split at e
            · cases e
            · split at e
              · cases e
              · split at e
                · cases e
                · rename_i h2
                  injection e with e
                  injection e with e1 e2
                  subst e1 e2
                  exact ⟨(Decidable.not_not.1 h1).1, by omega⟩
  · cases e
theorem headers_count : ∀ (ls : List (List UInt8)) (i : Nat) (hs : List Hdr), headersL ls i = .ok hs → hs = [] ∨ hs.length + i ≤ 32
  | [], i, hs, e => by
    simp only [headersL] at e
    injection e with e
    exact .inl e.symm
  | l :: ls, i, hs, e => by
    rw [headers_cons] at e
    split at e
    · cases e
    · split at e
      · cases e
      · split at e
        · cases e
        · rename_i q hq
          injection e with e
          subst e
          right
          rcases headers_count ls (i + 1) q hq with rfl | h
          · simp; omega
          · simp; omega
theorem text_le {hs : List Hdr} {N : Nat} (h : ∀ x ∈ hs, x.1.length + x.2.length + 4 ≤ N) : (textL hs).length ≤ hs.length * N := by
  induction hs with
  | nil => simp [textL]
  | cons x r ih =>
    have e : (lineT x).length = x.1.length + x.2.length + 4 := by simp [lineT]; omega
    have h1 := h x (by simp)
    have h2 := ih (fun y hy => h y (by simp [hy]))
    simp only [textL, List.length_append, e, List.length_cons, Nat.succ_mul]
    omega
theorem parsed_len {b : List UInt8} {q : Req} (e : parseL b = .ok q) : (printB q).length ≤ 1073741824 := by
  obtain ⟨ls, n, k, l0, h1, h2, h3, h4, h5, -, -⟩ := parse_ok e
  obtain ⟨m1, m2⟩ := first_len h1
  obtain ⟨n1, -⟩ := length_ok h3
  have h6 : q.hs.length ≤ 32 := by
    rcases headers_count ls 0 q.hs h2 with h | h
    · rw [h]; simp
    · omega
  have h7 : (textL q.hs).length ≤ q.hs.length * 32836 := text_le (fun x hx => by
    have a := headers_len ls 0 q.hs h2 x hx
    have b := headers_vlen ls 0 q.hs h2 x hx
    omega)
  have h8 : q.hs.length * 32836 ≤ 32 * 32836 := Nat.mul_le_mul_right _ h6
  rw [print_len]
  omega
theorem same_eq {a b : Req} (h : sameR a b = true) : a = b := by
  obtain ⟨am, ap, ah, ab⟩ := a
  obtain ⟨bm, bp, bh, bb⟩ := b
  unfold sameR at h
  simp only [Bool.and_eq_true, beq_iff_eq, decide_eq_true_eq] at h
  obtain ⟨⟨⟨h1, h2⟩, h3⟩, h4⟩ := h
  rw [h1, h2, h3, h4]
theorem print_some {q : Req} {bs : List UInt8} (h : printL q = some bs) : parseL bs = .ok q := by
  unfold printL at h
  split at h
  · rename_i x hx
    split at h
    · rename_i hs
      injection h with h
      rw [← h, hx, same_eq hs]
    · cases h
  · cases h
set_option maxHeartbeats 4000000 in
set_option maxRecDepth 100000 in
theorem again_law (v : Value) (b : List UInt8) (w : World) (hv : Bsl w v b) (he : Env w) (ht : Tab w) : Calls Tryz.prog 8 #[v] w (RetV (.bool true) w) := by
  have hcl := clone_any v b w hv
  have HE := Lib.hid he
  have HT := Lib.hid ht
  have haw := awake_any
  clear hv he ht
  go_enter Tryz.func8, Tryz.ntmps8
  go_wp2_with (go_at_call 18; refine hcl.mono ?_; rintro e w1 ⟨v1, rfl, hb1, hb⟩; have HV1 := Lib.hid hb1; have HB1 := Lib.hid hb; clear hb1 hb hcl)
  go_at_call 17
  refine (parse_any v1 b _ HV1.out (HE.out.below HB1.out)).mono ?_
  cases hp : parseL b with
  | error c =>
    rintro e w2 ⟨rfl, hb⟩
    have HB2 := Lib.hid (HB1.out.trans (hb.mono HB1.out.size))
    have HB3 := Lib.hid (HB2.out.alloc HB2.out.size (.cells #[.string ⟨#[]⟩, .string ⟨#[]⟩, .slice none 0 0, .string ⟨#[]⟩] 31))
    have hc0 := codes_ne (parse_err hp)
    clear hb hp
    go_wp2_with (go_at_call 16; refine (haw _ (HE.out.below HB3.out) (HT.out.below HB3.out)).mono ?_; rintro e w7 ⟨rfl, hb⟩; have HB7 := Lib.hid (HB3.out.trans (hb.mono HB3.out.size)); clear hb)
    go_ret
    exact ⟨rfl, HB7.out⟩
  | ok q =>
    rintro e w2 ⟨h, rfl, hh, hb⟩
    obtain ⟨A, ch, rfl⟩ := hh.form
    have HB2 := Lib.hid (HB1.out.trans (hb.mono HB1.out.size))
    have hlen := parsed_len hp
    obtain ⟨qm, qp, qh, qb⟩ := q
    dsimp only at hh ⊢
    have hpr := fun w hd he => print_any ⟨qm, qp, qh, qb⟩ (.slice A qh.length ch) w hd he hlen
    have hdp := fun w hd => docPrint_any ⟨qm, qp, qh, qb⟩ (.slice A qh.length ch) w hd hlen
    unfold reqV PrnR at hpr hdp
    dsimp only at hpr hdp
    obtain ⟨w3, hw3⟩ : ∃ w3, w2.alloc (.cells #[.string ⟨qm.toArray⟩, .string ⟨qp.toArray⟩, .slice A qh.length ch, .string ⟨qb.toArray⟩] 31) = w3 := ⟨_, rfl⟩
    have HK := Lib.hid (show B4 w3 w2.heap.size _ _ _ _ by rw [← hw3]; exact B4.new w2 (.string ⟨qm.toArray⟩) (.string ⟨qp.toArray⟩) (.slice A qh.length ch) (.string ⟨qb.toArray⟩) 31)
    have HS3 : Hid (w2.heap.size < w3.heap.size) := Lib.hid (by rw [← hw3]; simp)
    have HB3 : Hid (Below w.heap.size w w3) := Lib.hid (by rw [← hw3]; exact HB2.out.alloc HB2.out.size _)
    have HH3 : Hid (Hdrs w3 (.slice A qh.length ch) qh) := Lib.hid (by rw [← hw3]; exact hh.below ((Below.refl w2.heap.size w2).alloc (Nat.le_refl _) _) (Nat.le_refl _))
    obtain ⟨q0, q1, q2, q3, -, -, -, -⟩ := HK.out
    clear hb hp hh hlen
    cases hr : printL ⟨qm, qp, qh, qb⟩ with
    | none =>
      rw [hr] at hpr hdp
      simp only at hpr hdp
      clear hr
      go_wp2_with (go_at_call 26; refine (hpr _ HH3.out (HE.out.below HB3.out)).mono ?_; rintro e w4 ⟨hb, rfl⟩; have HB4 := Lib.hid (HB3.out.trans (hb.mono HB3.out.size)); have HH4 := Lib.hid (HH3.out.below hb (Nat.le_refl _)); obtain ⟨k0, k1, k2, k3, -, -, -, -⟩ := HK.out.below hb HS3.out; clear hb hpr)
      go_wp2_with (first
        | (go_at_call 27; refine (hdp _ HH4.out).mono ?_; rintro e w5 ⟨hb, rfl⟩; have HB5 := Lib.hid (HB4.out.trans (hb.mono HB4.out.size)); clear hb hdp)
        | (go_at_call 16; refine (haw _ (HE.out.below HB5.out) (HT.out.below HB5.out)).mono ?_; rintro e w7 ⟨rfl, hb⟩; have HB7 := Lib.hid (HB5.out.trans (hb.mono HB5.out.size)); clear hb))
      go_ret
      exact ⟨rfl, HB7.out⟩
    | some bs =>
      rw [hr] at hpr
      simp only at hpr
      have hpb := print_some hr
      clear hr hdp
      go_wp2_with (go_at_call 26; refine (hpr _ HH3.out (HE.out.below HB3.out)).mono ?_; rintro e w4 ⟨hb, v4, rfl, hv4⟩; obtain ⟨A4, c4, rfl⟩ := hv4.form; have HB4 := Lib.hid (HB3.out.trans (hb.mono HB3.out.size)); have HH4 := Lib.hid (HH3.out.below hb (Nat.le_refl _)); have HK4 := Lib.hid (HK.out.below hb HS3.out); have HS4 := Lib.hid (Nat.lt_of_lt_of_le HS3.out hb.size); have HV4 := Lib.hid hv4; clear hb hpr hv4)
      go_at_call 17
      refine (parse_any _ bs _ HV4.out (HE.out.below HB4.out)).mono ?_
      rw [hpb]
      clear hpb
      rintro e w5 ⟨h5, rfl, hh5, hb5⟩
      obtain ⟨A5, c5, rfl⟩ := hh5.form
      dsimp only at hh5 ⊢
      have HB5 := Lib.hid ((HB4.out.trans (hb5.mono HB4.out.size)).alloc (HB4.out.trans (hb5.mono HB4.out.size)).size (.cells #[.string ⟨qm.toArray⟩, .string ⟨qp.toArray⟩, .slice A5 qh.length c5, .string ⟨qb.toArray⟩] 31))
      have HH5 := Lib.hid (hh5.below ((Below.refl w5.heap.size w5).alloc (Nat.le_refl _) (.cells #[.string ⟨qm.toArray⟩, .string ⟨qp.toArray⟩, .slice A5 qh.length c5, .string ⟨qb.toArray⟩] 31)) (Nat.le_refl _))
      have HH6 := Lib.hid ((HH4.out.below hb5 (Nat.le_refl _)).below ((Below.refl w5.heap.size w5).alloc (Nat.le_refl _) (.cells #[.string ⟨qm.toArray⟩, .string ⟨qp.toArray⟩, .slice A5 qh.length c5, .string ⟨qb.toArray⟩] 31)) (Nat.le_refl _))
      have HK6 := Lib.hid ((HK4.out.below hb5 HS4.out).below ((Below.refl w5.heap.size w5).alloc (Nat.le_refl _) (.cells #[.string ⟨qm.toArray⟩, .string ⟨qp.toArray⟩, .slice A5 qh.length c5, .string ⟨qb.toArray⟩] 31)) (Nat.lt_of_lt_of_le HS4.out hb5.size))
      obtain ⟨k0, k1, k2, k3, -, -, -, -⟩ := HK6.out
      obtain ⟨n0, n1, n2, n3, -, -, -, -⟩ := B4.new w5 (.string ⟨qm.toArray⟩) (.string ⟨qp.toArray⟩) (.slice A5 qh.length c5) (.string ⟨qb.toArray⟩) 31
      have hsr := fun w' v1 v2 h1 h2 => sameR_any ⟨qm, qp, qh, qb⟩ ⟨qm, qp, qh, qb⟩ v1 v2 w' h1 h2
      rw [show sameR ⟨qm, qp, qh, qb⟩ ⟨qm, qp, qh, qb⟩ = true by simp [sameR]] at hsr
      unfold reqV at hsr
      clear hb5 hh5
      go_wp2_with (first
        | (go_at_call 20; refine (hsr _ _ _ HH6.out HH5.out).mono ?_; rintro e w6 ⟨rfl, hb⟩; have HB6 := Lib.hid (HB5.out.trans (hb.mono HB5.out.size)); clear hb)
        | (go_at_call 16; refine (haw _ (HE.out.below HB6.out) (HT.out.below HB6.out)).mono ?_; rintro e w7 ⟨rfl, hb⟩; have HB7 := Lib.hid (HB6.out.trans (hb.mono HB6.out.size)); clear hb))
      go_ret
      exact ⟨rfl, HB7.out⟩
end Go.Proofs.YtidhemjnchonaaaGreatDoor
