/- Contracts of the document's headers and length. -/
import Derived.Test.YtidhemjnchonaaaGreatDoorRefH
import Derived.Test.YtidhemjnchonaaaGreatDoorRefC
import Derived.Test.YtidhemjnchonaaaGreatDoorTxt
namespace Go.Proofs.YtidhemjnchonaaaGreatDoor
open Go.RowKit Go.BL

def HedsR (r : Except Int (List Hdr)) (w : World) (e : Ending) (w' : World) : Prop :=
  Below w.heap.size w w' ∧ match r with
  | .ok hs => ∃ v, e = .returned (.tuple #[v, .int .i64 0]) ∧ OwnH w' w.heap.size v hs ∧ hs.length ≤ 32
  | .error c => e = .returned (.tuple #[.slice none 0 0, .int .i64 c])
theorem box_at (w : World) (x y : Value) (t : TypeId) (g : Nat) (hg : g = w.heap.size) : (w.alloc (.cells #[x, y] t)).cell? ⟨g, 0, none⟩ = some x ∧ (w.alloc (.cells #[x, y] t)).cell? ⟨g, 1, none⟩ = some y := by
  subst hg
  exact (box_cells w x y t).1
set_option maxHeartbeats 2000000 in
set_option maxRecDepth 100000 in
theorem headersR_any (ls : List (List UInt8)) (v : Value) (w : World) (hv : Txts w v ls) (hl : ∀ l ∈ ls, l.length ≤ 1073741824) : Calls Tryz.prog 46 #[v] w (HedsR (headersL ls 0) w) := by
  obtain ⟨A, c, rfl, hcap, hcells⟩ := hv
  obtain ⟨R, hR⟩ : ∃ R, headersL ls 0 = R := ⟨_, rfl⟩
  rw [hR]
  have HR := Lib.hid hR
  clear hR
  have HC := Lib.hid hcells
  have HLn := Lib.hid hl
  clear hcells hl
  go_enter Tryz.func46, Tryz.ntmps46
  go_wp2_with fail
  go_loopw [4, 5] (fun u j wr => ∃ (k : Nat) (hs : List Hdr), j = .int .i64 (k : Int) ∧ k ≤ ls.length ∧ k ≤ 32 ∧ hs.length = k ∧ Hid (OwnH wr w.heap.size u hs) ∧ Hid (R = match headersL (ls.drop k) k with | .error c => .error c | .ok q => .ok (hs ++ q)) ∧ Hid (Below w.heap.size w wr)) (fun _ j _ => ls.length - (intOf j).toNat)
  case atStart => exact ⟨0, [], rfl, by omega, by omega, rfl, Lib.hid (OwnH.nil _ _), Lib.hid (by rw [List.drop_zero, HR.out]; cases R <;> rfl), Lib.hid (Below.refl _ _)⟩
  case round =>
    obtain ⟨k, hs, rfl, hk, hk32, hlen, HO, HH, HB⟩ := hrel
    by_cases hlt : k < ls.length
    · by_cases h32 : 32 ≤ k
      · have HF : Hid (R = .error 431) := Lib.hid (by
          rw [HH.out, List.drop_eq_getElem_cons hlt, headers_cons, if_pos h32])
        go_wp2_with fail
        go_ret2
        exact ⟨HB.out, by rw [HF.out]; rfl⟩
      · obtain ⟨b, off, rfl, hbl, hc⟩ := HC.out (by omega)
        have c1 := hc k hlt
        obtain ⟨x, hx⟩ : ∃ x, ls[k]'hlt = x := ⟨_, rfl⟩
        have hxl : x.length ≤ 1073741824 := by rw [← hx]; exact HLn.out _ (List.getElem_mem hlt)
        rw [hx] at c1
        have d1 := (HB.out.cell (p := ⟨b, off + k, none⟩) hbl).trans c1
        have HX := Lib.hid hx
        have hh := headerR_any x hxl
        have HB0 := Lib.hid HB.out.size
        clear hc c1 hx
        cases hd : headerL x with
        | none =>
          have HF : Hid (R = .error 400) := Lib.hid (by rw [HH.out, List.drop_eq_getElem_cons hlt, headers_cons, if_neg h32, HX.out, hd])
          rw [show HdrR x = HdrR x from rfl] at hh
          unfold HdrR at hh
          rw [hd] at hh
          clear HX hd
          go_wp2_with (go_at_call 76; refine (hh _).mono ?_; rintro e w3 ⟨n1, v1, rfl, hb, -⟩; have HB3 := Lib.hid (HB.out.trans (hb.mono HB0.out)); dsimp only [Option.isSome]; clear hb)
          go_ret2
          exact ⟨HB3.out.alloc HB3.out.size _, by rw [HF.out]; rfl⟩
        | some h =>
          obtain ⟨n, u⟩ := h
          have HF : Hid (R = match headersL (ls.drop (k + 1)) (k + 1) with | .error c => .error c | .ok q => .ok ((hs ++ [(n, u)]) ++ q)) := Lib.hid (by
            rw [HH.out, List.drop_eq_getElem_cons hlt, headers_cons, if_neg h32, HX.out, hd]
            simp only
            cases headersL (ls.drop (k + 1)) (k + 1) with
            | error c => rfl
            | ok q => simp)
          unfold HdrR at hh
          rw [hd] at hh
          clear HX hd
          go_wp2_with (first
            | (go_at_call 76; refine (hh _).mono ?_; rintro e w3 ⟨n1, v1, rfl, hb, he⟩; obtain ⟨rfl, rfl⟩ : n = n1 ∧ u = v1 := (by have := he _ rfl; injection this with a b; exact ⟨a, b⟩); have HB3 := Lib.hid (HB.out.trans (hb.mono HB0.out)); have HO3 := Lib.hid (HO.out.below hb (Nat.le_refl _)); dsimp only [Option.isSome]; clear hb he; obtain ⟨⟨p0, p1⟩, y0, y1⟩ := box_cells w3 (.string ⟨n.toArray⟩) (.string ⟨u.toArray⟩) 44)
            | (at_builtin; refine wpList_appH (h1 := (n, u)) rfl (.tmp 26) (.tmp 28) rfl rfl ((HO3.out.below ((Below.refl _ _).alloc (Nat.le_refl _) _) (Nat.le_refl _)).below ((Below.refl _ _).alloc (Nat.le_refl _) _) (Nat.le_refl _)) rfl (box_at _ _ _ _ _ (by simp)).1 (box_at _ _ _ _ _ (by simp)).2 (by omega) (by have := HB3.out.size; simp; omega) ?_; intro v' w4 ho hb; have HO4 := Lib.hid ho; have HB4 := Lib.hid (((HB3.out.alloc HB3.out.size _).alloc (by have := HB3.out.size; simp; omega) _).trans hb); clear ho hb))
          exact ⟨⟨k + 1, hs ++ [(n, u)], by go_num, by omega, by omega, by simp [hlen], HO4, HF, HB4⟩, by simp [intOf]; omega⟩
    · have HF : Hid (R = .ok hs) := Lib.hid (by
        rw [HH.out, List.drop_of_length_le (by omega)]
        simp [headersL])
      go_wp2_with fail
      go_ret2
      refine ⟨HB.out, ?_⟩
      rw [HF.out]
      exact ⟨_, rfl, HO.out, by omega⟩
end Go.Proofs.YtidhemjnchonaaaGreatDoor
