/- Contract of ormap.Can: canC; premises: ormap.item's and ormap.many's. -/
import Derived.Test.YtpdedfpacklnoaaGreatDoorTkTkE
import Derived.Test.YtpdedfpacklnoaaGreatDoorTkCnx
set_option maxRecDepth 100000
namespace Go.Proofs.YtpdedfpacklnoaaGreatDoor
open Go.RowKit Go.BL Go.Ct Go.Sl

/-- The contract of ormap.many. -/
def ManyC : Prop := ∀ (es : List En) (v : Value) (w : World), Ents w v es → es.length ≤ 64 → (∀ A n c, v = .slice A n c → n ≤ c) → Calls Tryz.prog 221 #[v] w (RetV (.int .i64 ((itemsF none es : Nat) : Int)) w)
theorem ent_cov {x : Cx} {p : List En} {e : En} (h : entE x p e = 0) : covers x e.d = true := by
 rw [entE_pre] at h
 split at h
 ·cases h
 ·split at h
  ·cases h
  ·split at h
   ·cases h
   ·split at h
    ·cases h
    ·rename_i h5
     cases hc : covers x e.d with
     | true => rfl
     | false => rw [hc] at h5; simp at h5
set_option maxHeartbeats 8000000 in
theorem can_any (hI : ItemC) (hMy : ManyC) (es : List En) (x : Cx) (ev : Value) (mv cv : Value) (w : World) (he : Ents w ev es) (hm : Dots w mv x.ms) (hc : Dots w cv x.cl) (hcp : ∀ A n c, ev = .slice A n c → n ≤ c) (hsl : ∀ e ∈ es, e.it.length ≤ 1073741824 ∧ e.p < 18446744073709551616) :
  Calls Tryz.prog 159 #[.agg #[ev, mv, cv]] w (RetV (.int .i64 ((canC ⟨es, x⟩ : Nat) : Int)) w) := by
 obtain ⟨A, ec, rfl⟩ := he.form
 have HCP := Lib.hid hcp
 have HSL := Lib.hid hsl
 have hmx := he.1
 obtain ⟨w0, hw0⟩ : ∃ w0, w.alloc (.cells #[.slice A es.length ec, mv, cv] 32) = w0 := ⟨_, rfl⟩
 have HB : Hid (Below w.heap.size w w0) := Lib.hid (by rw [← hw0]; exact (Below.refl _ _).alloc (Nat.le_refl _) _)
 have HS : Hid (w.heap.size < w0.heap.size) := Lib.hid (by rw [← hw0]; simp)
 obtain ⟨q0, q1, q2⟩ : w0.cell? ⟨w.heap.size, 0, none⟩ = some (.slice A es.length ec) ∧ w0.cell? ⟨w.heap.size, 1, none⟩ = some mv ∧ w0.cell? ⟨w.heap.size, 2, none⟩ = some cv := by rw [← hw0]; exact tri_at w _ _ _ 32 _ rfl
 have HM := Lib.hid (hm.below HB.out (Nat.le_refl _))
 have HC := Lib.hid (hc.below HB.out (Nat.le_refl _))
 have HE := Lib.hid (he.below HB.out (Nat.le_refl _))
 have hcx := canX_any x mv cv w0 HM.out HC.out
 clear hm hc he hcp hsl
 by_cases hx : canX x = true
 case neg =>
  have HV : Hid (canC ⟨es, x⟩ = 30) := Lib.hid (by unfold canC; dsimp only; rw [if_pos (by simpa using hx)])
  rw [show canX x = false by simpa using hx] at hcx
  clear hx
  go_enter Tryz.func159, Tryz.ntmps159
  go_wp2_with (go_at_call 219; refine hcx.mono ?_; rintro e w1 ⟨rfl, hb⟩; have HB1 := Lib.hid (HB.out.trans (hb.mono HB.out.size)); clear hb)
  go_ret
  exact ⟨by rw [HV.out]; rfl, HB1.out⟩
 rw [hx] at hcx
 have HX := Lib.hid hx
 clear hx
 by_cases hl : es.length ≤ 64
 case neg =>
  have HV : Hid (canC ⟨es, x⟩ = 51) := Lib.hid (by unfold canC; dsimp only; rw [HX.out, if_neg (by simp), if_pos (by omega)])
  have hl' : (64 : Int) < (es.length : Int) := by omega
  go_enter Tryz.func159, Tryz.ntmps159
  go_upto_region 3 with (go_at_call 219; refine hcx.mono ?_; rintro e w1 ⟨rfl, hb⟩; have HW1 := Lib.hid hb; clear hb)
  have r0 := old_cell HW1.out HS.out q0
  go_wp2_with fail
  go_ret
  exact ⟨by rw [HV.out]; rfl, HB.out.trans (HW1.out.mono HB.out.size)⟩
 have HF := Lib.hid (can_of HX.out hl)
 have hl' : ¬ (64 : Int) < (es.length : Int) := by omega
 have hil := itemsF_le es none
 have hit := fun w h => hMy es (.slice A es.length ec) w h hl HCP.out
 obtain ⟨it, hit'⟩ : ∃ y, itemsF none es = y := ⟨_, rfl⟩
 rw [hit'] at hit hil
 have HIT := Lib.hid hit'
 clear hit'
 go_enter Tryz.func159, Tryz.ntmps159
 go_upto_region 3 with (go_at_call 219; refine hcx.mono ?_; rintro e w1 ⟨rfl, hb⟩; have HW1 := Lib.hid hb; clear hb)
 have r0 := old_cell HW1.out HS.out q0
 clear hw0 hcx
 go_wp2_with fail
 clear r0 hl'
 go_loopw [18] (fun j wr => ∃ k : Nat, k ≤ es.length ∧ j = .int .i64 (k : Int) ∧ Hid (Below w0.heap.size w0 wr) ∧ Hid (entsE x (preE es k) (es.drop k) = entsE x [] es) ∧ Hid (∀ j (h : j < es.length), j < k → mayD es[j].d = true)) (fun j _ => es.length - (intOf j).toNat)
 case atStart => exact ⟨0, by omega, rfl, HW1, Lib.hid rfl, Lib.hid (fun _ _ h => absurd h (by omega))⟩
 case round =>
  obtain ⟨k, hk, rfl, HR, HN, HY⟩ := hrel
  have r0 := old_cell HR.out HS.out q0
  have r1 := old_cell HR.out HS.out q1
  have r2 := old_cell HR.out HS.out q2
  by_cases hlt : k < es.length
  ·have hen := entry_any hI es x (.slice A es.length ec) mv cv k wr (HE.out.below HR.out (Nat.le_refl _)) (HM.out.below HR.out (Nat.le_refl _)) (HC.out.below HR.out (Nat.le_refl _)) HCP.out hlt hl HSL.out HX.out HY.out
   have hst := ents_step x es hlt
   obtain ⟨X, hX⟩ : ∃ y, entE x (preE es k) es[k] = y := ⟨_, rfl⟩
   have hentE := hX
   rw [hX] at hen hst
   have HST := Lib.hid (HN.out.symm.trans hst)
   have HX0 := Lib.hid hentE
   clear hX hst hentE
   by_cases h0 : X = 0
   case neg =>
    have hne : ((X : Int) != 0) = true := bne_iff_ne.2 (by omega)
    have HV : Hid (canC ⟨es, x⟩ = X) := Lib.hid (by have h2 := HST.out; rw [if_pos h0] at h2; rw [HF.out, h2, if_pos h0])
    clear h0
    go_wp2_with (go_at_call 220; refine hen.mono ?_; rintro e w1' ⟨rfl, hb⟩; have HWE := Lib.hid (HR.out.trans (hb.mono HR.out.size)); clear hb)
    go_ret
    exact ⟨by rw [HV.out]; rfl, HB.out.trans (HWE.out.mono HB.out.size)⟩
   subst h0
   have HN2 : Hid (entsE x (preE es (k + 1)) (es.drop (k + 1)) = entsE x [] es) := Lib.hid (by have h2 := HST.out; rw [if_neg (by simp)] at h2; exact h2.symm)
   have HY2 : Hid (∀ j (h : j < es.length), j < k + 1 → mayD es[j].d = true) := Lib.hid (fun j h hj => by
    rcases Nat.lt_or_ge j k with h' | h'
    ·exact HY.out j h h'
    ·obtain rfl : j = k := by omega
     exact covers_may HX.out (ent_cov HX0.out))
   go_wp2_with (go_at_call 220; refine hen.mono ?_; rintro e w1' ⟨rfl, hb⟩; have HWE := Lib.hid (HR.out.trans (hb.mono HR.out.size)); clear hb)
   exact ⟨⟨k + 1, by omega, by go_num, HWE, HN2, HY2⟩, by simp [intOf]; omega⟩
  ·have HE0 : Hid (entsE x [] es = 0) := Lib.hid (by
    have h := HN.out
    rw [List.drop_of_length_le (by omega)] at h
    rw [← h]; rfl)
   by_cases h32 : 32 < it
   case pos =>
    have HV : Hid (canC ⟨es, x⟩ = 51) := Lib.hid (by rw [HF.out, HE0.out, if_neg (by simp), if_pos (by rw [HIT.out]; exact h32)])
    have h32' : (32 : Int) < (it : Int) := by omega
    go_wp2_with (go_at_call 221; refine (hit _ (HE.out.below HR.out (Nat.le_refl _))).mono ?_; rintro e w6 ⟨rfl, hb⟩; have HB6 := Lib.hid (HR.out.trans (hb.mono HR.out.size)); clear hb)
    go_ret
    exact ⟨by rw [HV.out]; rfl, HB.out.trans (HB6.out.mono HB.out.size)⟩
   case neg =>
    have HV : Hid (canC ⟨es, x⟩ = 0) := Lib.hid (by rw [HF.out, HE0.out, if_neg (by simp), if_neg (by rw [HIT.out]; exact h32)])
    have h32' : ¬ (32 : Int) < (it : Int) := by omega
    go_wp2_with (go_at_call 221; refine (hit _ (HE.out.below HR.out (Nat.le_refl _))).mono ?_; rintro e w6 ⟨rfl, hb⟩; have HB6 := Lib.hid (HR.out.trans (hb.mono HR.out.size)); clear hb)
    go_ret
    exact ⟨by rw [HV.out]; rfl, HB.out.trans (HB6.out.mono HB.out.size)⟩
end Go.Proofs.YtpdedfpacklnoaaGreatDoor
