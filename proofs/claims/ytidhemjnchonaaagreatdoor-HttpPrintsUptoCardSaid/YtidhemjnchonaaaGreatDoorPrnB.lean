/- Contract of http.Print. -/
import Derived.Test.YtidhemjnchonaaaGreatDoorPrnA
import Derived.Test.YtidhemjnchonaaaGreatDoorRefG
namespace Go.Proofs.YtidhemjnchonaaaGreatDoor
open Go.RowKit Go.BL

def PrnR (r : Option (List UInt8)) (w : World) (e : Ending) (w' : World) : Prop :=
  Below w.heap.size w w' ∧ match r with
  | some bs => ∃ v, e = .returned (.tuple #[v, .int .i64 0]) ∧ Bsl w' v bs
  | none => e = .returned (.tuple #[.slice none 0 0, .int .i64 1])
set_option maxHeartbeats 4000000 in
set_option maxRecDepth 100000 in
theorem print_any (q : Req) (h : Value) (w : World) (hd : Hdrs w h q.hs) (he : Env w) (hl : (printB q).length ≤ 1073741824) : Calls Tryz.prog 26 #[reqV q h] w (PrnR (printL q) w) := by
  have hap := app_str
  obtain ⟨A, c, rfl⟩ := hd.form
  obtain ⟨R, hR⟩ : ∃ R, printL q = R := ⟨_, rfl⟩
  rw [hR]
  unfold printL at hR
  have hln := print_len q
  have hlt0 := text_len (hs := q.hs)
  obtain ⟨PB, hPB⟩ : ∃ b, printB q = b := ⟨_, rfl⟩
  rw [hPB] at hR hl hln
  have hpb2 : PB = headT q ++ textL q.hs ++ ([13, 10] ++ q.b) := hPB.symm
  obtain ⟨m, p, hs, b⟩ := q
  simp only [headT, verT] at hd hln hlt0 hpb2
  dsimp only [reqV]
  obtain ⟨w0, hw0⟩ : ∃ w0, w.alloc (.cells #[.string ⟨m.toArray⟩, .string ⟨p.toArray⟩, .slice A hs.length c, .string ⟨b.toArray⟩] 31) = w0 := ⟨_, rfl⟩
  have HK : Hid (B4 w0 w.heap.size (.string ⟨m.toArray⟩) (.string ⟨p.toArray⟩) (.slice A hs.length c) (.string ⟨b.toArray⟩)) := Lib.hid (by rw [← hw0]; exact B4.new w _ _ _ _ _)
  have HB : Hid (Below w.heap.size w w0) := Lib.hid (by rw [← hw0]; exact (Below.refl _ _).alloc (Nat.le_refl _) _)
  have HS : Hid (w.heap.size < w0.heap.size) := Lib.hid (by rw [← hw0]; simp)
  have HD := Lib.hid (hd.below HB.out (Nat.le_refl _))
  have HE := Lib.hid (he.below HB.out)
  obtain ⟨_, A', c', heq, hcells⟩ := HD.out
  injection heq with e1 e2 e3
  subst e1 e3
  have HC := Lib.hid hcells
  have HPB := Lib.hid hpb2
  have HL := Lib.hid hl
  have HLN := Lib.hid hln
  clear hd he hcells hPB hpb2 e2
  obtain ⟨p1, hp1⟩ : ∃ u, m ++ [32] = u := ⟨_, rfl⟩
  obtain ⟨p2, hp2⟩ : ∃ u, p1 ++ p = u := ⟨_, rfl⟩
  obtain ⟨pre, hpre⟩ : ∃ u, p2 ++ [32, 72, 84, 84, 80, 47, 49, 46, 49, 13, 10] = u := ⟨_, rfl⟩
  have l1 : p1.length = m.length + 1 := by rw [← hp1, List.length_append]; rfl
  have l2 : p2.length = p1.length + p.length := by rw [← hp2, List.length_append]
  have l3 : pre.length = p2.length + 11 := by rw [← hpre, List.length_append]; rfl
  have r1 := cat_run m [32] p1 hp1 (by simp; omega)
  have r2 := cat_run p1 p p2 hp2 (by omega)
  have r3 := cat_run p2 [32, 72, 84, 84, 80, 47, 49, 46, 49, 13, 10] pre hpre (by simp; omega)
  have HPRE : Hid (PB = pre ++ textL hs ++ ([13, 10] ++ b)) := Lib.hid (by rw [HPB.out, ← hpre, ← hp2, ← hp1])
  have HPL : Hid (pre.length + (textL hs).length + b.length + 2 = PB.length) := Lib.hid (by rw [HPRE.out]; simp; omega)
  obtain ⟨v1, w1, hc1, ho1, hb1⟩ := OwnM.conv pre (by omega) w0
  obtain ⟨A1, ca1, rfl⟩ := ho1.form
  have HO1 := Lib.hid ho1
  have HB1 := Lib.hid hb1
  have HHL : Hid (hs.length ≤ 1073741824) := Lib.hid (by omega)
  clear ho1 hb1 hl hln hlt0 l1 l2 l3 hp1 hp2 hpre HPB HLN
  obtain ⟨q0, q1, q2, q3, z0, z1, z2, z3⟩ := HK.out
  have HK1 := Lib.hid (HK.out.below HB1.out HS.out)
  have j2 := HK1.out.c2
  go_enter Tryz.func26, Tryz.ntmps26
  go_wp2_with fail
  clear q0 q1 q2 q3 z0 z1 z2 z3 j2 hc1 r1 r2 r3
  go_loopw [4, 20] (fun v j wr => ∃ k : Nat, j = .int .i64 (k : Int) ∧ k ≤ hs.length ∧ Hid (OwnM wr w0.heap.size v (pre ++ textL (hs.take k))) ∧ Hid (Below w0.heap.size w0 wr)) (fun _ j _ => hs.length - (intOf j).toNat)
  case atStart => exact ⟨0, rfl, by omega, Lib.hid (by simpa [textL] using HO1.out), HB1⟩
  case round =>
    obtain ⟨k, rfl, hk, HOk, HBk⟩ := hrel
    have hsz := HBk.out.size
    have HSZ := Lib.hid hsz
    clear hsz
    by_cases hlt : k < hs.length
    · obtain ⟨bb, off, rfl, hbl, hc⟩ := HC.out (by omega)
      obtain ⟨c1, c2⟩ := hc k hlt
      have hT := text_next hlt
      have b1 := text_take hs (k + 1)
      have b2 := HPL.out
      have b3 := HL.out
      rw [hT] at b1
      generalize hs[k] = z at *
      obtain ⟨n, x⟩ := z
      simp only at c1 c2
      have d1 := (HBk.out.cell (p := ⟨bb, off + k * 2, none⟩) hbl).trans c1
      have d2 := (HBk.out.cell (p := ⟨bb, off + k * 2 + 1, none⟩) hbl).trans c2
      simp only [lineT, List.length_append, List.length_cons, List.length_nil] at b1
      obtain ⟨t1, h1⟩ : ∃ u, n ++ [58, 32] = u := ⟨_, rfl⟩
      obtain ⟨t2, h2⟩ : ∃ u, t1 ++ x = u := ⟨_, rfl⟩
      obtain ⟨t3, h3⟩ : ∃ u, t2 ++ [13, 10] = u := ⟨_, rfl⟩
      have l1 : t1.length = n.length + 2 := by rw [← h1, List.length_append]; rfl
      have l2 : t2.length = t1.length + x.length := by rw [← h2, List.length_append]
      have l3 : t3.length = t2.length + 2 := by rw [← h3, List.length_append]; rfl
      have r1 := cat_run n [58, 32] t1 h1 (by simp; omega)
      have r2 := cat_run t1 x t2 h2 (by omega)
      have r3 := cat_run t2 [13, 10] t3 h3 (by simp; omega)
      have HT : Hid (textL (hs.take (k + 1)) = textL (hs.take k) ++ t3) := Lib.hid (by rw [hT, ← h3, ← h2, ← h1]; rfl)
      have HBD : Hid ((pre ++ textL (hs.take k)).length + t3.length ≤ 140737488355328) := Lib.hid (by rw [List.length_append]; omega)
      clear hc hT b1 b2 b3 l1 l2 l3 h1 h2 h3 c1 c2
      go_wp2_with (at_builtin; refine wpList_appM rfl (.tmp 24) (.tmp 31) rfl rfl (HOk.out.below ((Below.refl _ _).alloc (Nat.le_refl _) _) (Nat.le_refl _)) rfl HBD.out (by have := HSZ.out; simp; omega) ?_; intro v' w2 ho hb; have HO2 := Lib.hid ho; have HB2 := Lib.hid ((HBk.out.alloc HSZ.out _).trans hb); clear ho hb)
      exact ⟨⟨k + 1, by go_num, by omega, Lib.hid (by rw [HT.out, ← List.append_assoc]; exact HO2.out), HB2⟩, by simp [intOf]; omega⟩
    · have HO3 : Hid (OwnM wr w0.heap.size u4 (pre ++ textL hs)) := Lib.hid (by have := HOk.out; rwa [List.take_of_length_le (by omega)] at this)
      obtain ⟨e1, he1⟩ : ∃ u, [13, 10] ++ b = u := ⟨_, rfl⟩
      have l1 : e1.length = b.length + 2 := by rw [← he1, List.length_append]; simp; omega
      have b2 := HPL.out
      have b3 := HL.out
      have r1 := cat_run [13, 10] b e1 he1 (by simp; omega)
      have hpe : pre ++ textL hs ++ e1 = PB := by rw [HPRE.out, he1]
      have HBD : Hid ((pre ++ textL hs).length + e1.length ≤ 140737488355328) := Lib.hid (by rw [List.length_append]; omega)
      have HPE := Lib.hid hpe
      have HK2 := Lib.hid (HK.out.below HBk.out HS.out)
      have j3 := HK2.out.c3
      clear l1 b2 b3 hpe he1
      go_wp2_with (at_builtin; refine wpList_appM rfl (.tmp 34) (.tmp 37) rfl rfl HO3.out rfl HBD.out HSZ.out ?_; intro v' w3 ho hb; rw [HPE.out] at ho; obtain ⟨A3, c3, rfl⟩ := ho.form; have HO4 := Lib.hid ho; have HB3 := Lib.hid (HBk.out.trans hb); clear ho hb)
      have HB3' := Lib.hid (HB.out.trans (HB3.out.mono HB.out.size))
      have HSZ3 := Lib.hid (Nat.le_trans HS.out HB3.out.size)
      go_at_call 17
      refine (parse_any _ PB _ (HO4.out.bsl (by have := HL.out; omega)) (HE.out.below HB3.out)).mono ?_
      cases hp : parseL PB with
      | error c0 =>
        rw [hp] at hR
        simp only at hR
        subst hR
        have hc0 := codes_ne (parse_err hp)
        clear hp
        rintro e w4 ⟨rfl, hb4⟩
        have HB4 := Lib.hid (HB3'.out.trans (hb4.mono HB3'.out.size))
        clear hb4
        go_wp2_with fail
        go_ret2
        exact ⟨HB4.out.alloc HB4.out.size _, rfl⟩
      | ok x =>
        rw [hp] at hR
        simp only at hR
        clear hp
        rintro e w4 ⟨hx, rfl, hhx, hb4⟩
        obtain ⟨Ax, cx, rfl⟩ := hhx.form
        obtain ⟨xm, xp, xh, xb⟩ := x
        dsimp only at hhx hR ⊢
        have HB4 := Lib.hid (HB3'.out.trans (hb4.mono HB3'.out.size))
        have HB4z := Lib.hid (HB3.out.trans (hb4.mono HB3.out.size))
        have HX5 := Lib.hid (hhx.below ((Below.refl _ _).alloc (Nat.le_refl _) (.cells #[.string ⟨xm.toArray⟩, .string ⟨xp.toArray⟩, .slice Ax xh.length cx, .string ⟨xb.toArray⟩] 31)) (Nat.le_refl _))
        have HD5 := Lib.hid ((HD.out.below HB4z.out (Nat.le_refl _)).below ((Below.refl _ _).alloc (Nat.le_refl _) (.cells #[.string ⟨xm.toArray⟩, .string ⟨xp.toArray⟩, .slice Ax xh.length cx, .string ⟨xb.toArray⟩] 31)) (Nat.le_refl _))
        have HK5 := Lib.hid ((HK.out.below HB4z.out HS.out).below ((Below.refl _ _).alloc (Nat.le_refl _) (.cells #[.string ⟨xm.toArray⟩, .string ⟨xp.toArray⟩, .slice Ax xh.length cx, .string ⟨xb.toArray⟩] 31)) (Nat.lt_of_lt_of_le HS.out HB4z.out.size))
        have HO5 := Lib.hid ((HO4.out.below hb4 (Nat.le_refl _)).below ((Below.refl _ _).alloc (Nat.le_refl _) (.cells #[.string ⟨xm.toArray⟩, .string ⟨xp.toArray⟩, .slice Ax xh.length cx, .string ⟨xb.toArray⟩] 31)) (Nat.le_refl _))
        obtain ⟨k0, k1, k2, k3, -, -, -, -⟩ := HK5.out
        obtain ⟨n0, n1, n2, n3, -, -, -, -⟩ := B4.new w4 (.string ⟨xm.toArray⟩) (.string ⟨xp.toArray⟩) (.slice Ax xh.length cx) (.string ⟨xb.toArray⟩) 31
        have HB5 := Lib.hid (HB4.out.alloc HB4.out.size (.cells #[.string ⟨xm.toArray⟩, .string ⟨xp.toArray⟩, .slice Ax xh.length cx, .string ⟨xb.toArray⟩] 31))
        have heq := fun w h1 h2 => equalH_any xh hs (.slice Ax xh.length cx) (.slice A hs.length c) w h1 h2
        unfold sameR at hR
        dsimp only at hR
        obtain ⟨g1, hg1⟩ : ∃ q, (xm == m) = q := ⟨_, rfl⟩
        obtain ⟨g2, hg2⟩ : ∃ q, (xp == p) = q := ⟨_, rfl⟩
        obtain ⟨g3, hg3⟩ : ∃ q, (xb == b) = q := ⟨_, rfl⟩
        obtain ⟨g4, hg4⟩ : ∃ q, decide (xh = hs) = q := ⟨_, rfl⟩
        rw [hg1, hg2, hg3, hg4] at hR
        rw [hg4] at heq
        have hg1' : (xm != m) = !g1 := by rw [bne, hg1]
        have hg2' : (xp != p) = !g2 := by rw [bne, hg2]
        have hg3' : (xb != b) = !g3 := by rw [bne, hg3]
        clear hhx hb4 hg4 HK2 HBD
        cases g1
        case false =>
          rw [if_neg (by simp)] at hR
          subst hR
          go_wp2_with fail
          go_ret2
          exact ⟨HB5.out, rfl⟩
        cases g2
        case false =>
          rw [if_neg (by simp)] at hR
          subst hR
          go_wp2_with fail
          go_ret2
          exact ⟨HB5.out, rfl⟩
        cases g3
        case false =>
          rw [if_neg (by simp)] at hR
          subst hR
          go_wp2_with fail
          go_ret2
          exact ⟨HB5.out, rfl⟩
        cases g4
        case false =>
          rw [if_neg (by simp)] at hR
          subst hR
          go_wp2_with (go_at_call 50; refine (heq _ HX5.out HD5.out).mono ?_; rintro e w6 ⟨rfl, hb⟩; have HB6 := Lib.hid (HB5.out.trans (hb.mono HB5.out.size)); clear hb)
          go_ret2
          exact ⟨HB6.out, rfl⟩
        rw [if_pos (by decide)] at hR
        subst hR
        go_wp2_with (go_at_call 50; refine (heq _ HX5.out HD5.out).mono ?_; rintro e w6 ⟨rfl, hb⟩; have HB6 := Lib.hid (HB5.out.trans (hb.mono HB5.out.size)); have HO6 := Lib.hid (HO5.out.below hb (Nat.le_refl _)); clear hb)
        go_ret2
        exact ⟨HB6.out, _, rfl, HO6.out.bsl (by have := HL.out; omega)⟩
end Go.Proofs.YtidhemjnchonaaaGreatDoor
