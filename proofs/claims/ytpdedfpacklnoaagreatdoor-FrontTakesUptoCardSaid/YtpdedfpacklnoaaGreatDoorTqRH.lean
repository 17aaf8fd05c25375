/- Contract of the document's header. -/
import Derived.Test.YtpdedfpacklnoaaGreatDoorTqMA
import Derived.Deep.RegionWith
namespace Go.Proofs.YtpdedfpacklnoaaGreatDoor.H
set_option maxRecDepth 100000
open Go.RowKit Go.BL

def HdrR (s : List UInt8) (w : World) (e : Ending) (w' : World) : Prop :=
 ∃ (a b : List UInt8), e = .returned (.tuple #[.agg #[.string ⟨a.toArray⟩, .string ⟨b.toArray⟩], .bool (headerL s).isSome]) ∧ Below w.heap.size w w' ∧ ∀ h, headerL s = some h → h = (a, b)
def slen : Value → Nat | .string b => b.size | _ => 0
theorem sz_of (u : List UInt8) : ByteArray.size ⟨u.toArray⟩ = u.length := rfl
theorem box_cells (w : World) (x y : Value) (t : TypeId) : ((w.alloc (.cells #[x, y] t)).cell? ⟨w.heap.size, 0, none⟩ = some x ∧ (w.alloc (.cells #[x, y] t)).cell? ⟨w.heap.size, 1, none⟩ = some y) ∧ (w.alloc (.cells #[x, y] t)).frozen? ⟨w.heap.size, 0, none⟩ = false ∧ (w.alloc (.cells #[x, y] t)).frozen? ⟨w.heap.size, 1, none⟩ = false := box2 (Below.refl _ _)
set_option maxHeartbeats 4000000 in
set_option maxRecDepth 100000 in
theorem headerR_any (s : List UInt8) (hs : s.length ≤ 1073741824) (w : World) : Calls Tryz.prog 132 #[.string ⟨s.toArray⟩] w (HdrR s w) := by
 have hf := findR_at s [58] 0 hs (by simp) (by simp) (by decide)
 rcases findFrom_is s [58] 0 with h1 | ⟨n, h1⟩
 ·rw [h1] at hf
  have HF := Lib.hid (header_no h1)
  clear h1
  go_enter Tryz.func132, Tryz.ntmps132
  go_wp2_with (go_at_call 78; refine (hf _).mono ?_; rintro e w' ⟨rfl, rfl⟩)
  obtain ⟨⟨q0, q1⟩, z0, z1⟩ := box_cells w (.string ⟨#[]⟩) (.string ⟨#[]⟩) 45
  go_wp2_with fail
  refine bodyPost_ret (by simp [results, Tryz.results132, go_sem]; try rfl) rfl ?_
  exact ⟨[], [], by rw [HF.out]; rfl, by first | exact (Below.refl _ _).alloc (Nat.le_refl _) _ | exact (((Below.refl _ _).alloc (Nat.le_refl _) _).setCell (Nat.le_refl _) _).setCell (Nat.le_refl _) _, fun h e => by rw [HF.out] at e; cases e⟩
 ·rw [h1] at hf
  obtain ⟨-, hn1, -⟩ := findFrom_at (by simp) h1
  simp only [List.length_singleton] at hn1
  have HH := Lib.hid (header_at h1)
  have hn0 : ((n : Int) < 0) = False := by simp only [eq_iff_iff, iff_false]; omega
  clear h1
  obtain ⟨v0, hv0⟩ : ∃ v, s.drop (n + 1) = v := ⟨_, rfl⟩
  have hsl0 := sl_from s (n + 1) ((n : Int) + 1) (by omega) hn1
  have hsl1 := sl_to s n (n : Int) rfl (by omega)
  rw [hv0] at hsl0 HH
  have hv0l : v0.length ≤ 1073741824 := by rw [← hv0, List.length_drop]; omega
  have hal : (s.take n).length ≤ 1073741824 := by rw [List.length_take]; omega
  obtain ⟨a, ha⟩ : ∃ a, s.take n = a := ⟨_, rfl⟩
  rw [ha] at hsl1 HH hal
  clear ha hv0
  go_enter Tryz.func132, Tryz.ntmps132
  go_wp2_with (go_at_call 78; refine (hf _).mono ?_; rintro e w' ⟨rfl, rfl⟩)
  go_loop [5] (fun v => ∃ u : List UInt8, v = .string ⟨u.toArray⟩ ∧ u.length ≤ 1073741824 ∧ Hid (u.dropWhile bla = v0.dropWhile bla)) (fun v => slen v)
  case atStart => exact ⟨v0, rfl, hv0l, Lib.hid rfl⟩
  case round =>
   obtain ⟨u, rfl, hul, HU⟩ := hrel
   cases u with
   | nil =>
    have HD : Hid (v0.dropWhile bla = []) := Lib.hid HU.out.symm
    go_wp2_with fail
    go_loop [5] (fun v => ∃ u : List UInt8, v = .string ⟨u.toArray⟩ ∧ u.length ≤ 1073741824 ∧ Hid (dropR bla u = dropR bla (v0.dropWhile bla))) (fun v => slen v)
    case atStart => exact ⟨[], rfl, hul, Lib.hid (by rw [HD.out])⟩
    case round =>
     obtain ⟨u2, rfl, hVl, HU2⟩ := hrel
     cases u2 with
     | nil =>
      go_wp2_with fail
      have HV : Hid (dropR bla (v0.dropWhile bla) = []) := Lib.hid HU2.out.symm
      obtain ⟨k, hk⟩ : ∃ k, tokenL a = k := ⟨_, rfl⟩
      obtain ⟨r, hr⟩ : ∃ r, valueL [] = r := ⟨_, rfl⟩
      have htk := tokenR_any a hal
      have hvl := valueR_any [] (by simp)
      have hsm := smallR_any a (by omega)
      obtain ⟨l, hl⟩ : ∃ l, smallL a = l := ⟨_, rfl⟩
      rw [hk] at htk
      rw [hr] at hvl
      rw [hl] at hsm
      have HR : Hid (headerL s = if k && r then some (l, []) else none) := Lib.hid (by rw [HH.out, HV.out, hk, hr, hl])
      clear hk hr hl
      obtain ⟨⟨q0, q1⟩, z0, z1⟩ := box_cells w (.string ⟨#[]⟩) (.string ⟨#[]⟩) 45
      cases k
      case false =>
       refine wp_region_any (by kernel_rfl) ?_
       (try (change wpAny _ _ _ _ _ _ _ (World.drew _)))
       refine wpAny_take (i := 0) (v := .string ⟨s.toArray⟩) rfl (by kernel_rfl) (by kernel_rfl) (by kernel_rfl) (fun _ _ _ h => h) (Or.inl ⟨by rfl, ?_⟩) ?_
       ·intro w; go_simp
       refine wpAny_take (i := 1) (v := .int .i64 (n : Int)) rfl (by kernel_rfl) (by kernel_rfl) (by kernel_rfl) (fun _ _ _ h => h) (Or.inl ⟨by rfl, ?_⟩) ?_
       ·intro w; go_simp
       refine wpAny_take (i := 2) (v := .string ⟨a.toArray⟩) rfl (by kernel_rfl) (by kernel_rfl) (by kernel_rfl) (fun _ _ _ h => h) (Or.inl ⟨by rfl, ?_⟩) ?_
       ·intro w; go_simp
       refine wpAny_take (i := 4) (v := .string ⟨[].toArray⟩) rfl (by kernel_rfl) (by kernel_rfl) (by kernel_rfl) (fun _ _ _ h => h) (Or.inl ⟨by rfl, ?_⟩) ?_
       ·intro w; go_simp
       refine wpAny_take (i := 6) (v := .string ⟨s.toArray⟩) rfl (by kernel_rfl) (by kernel_rfl) (by kernel_rfl) (fun _ _ _ h => h) (Or.inl ⟨by rfl, ?_⟩) ?_
       ·intro w; go_simp
       refine wpAny_take (i := 7) (v := .int .i64 (n : Int)) rfl (by kernel_rfl) (by kernel_rfl) (by kernel_rfl) (fun _ _ _ h => h) (Or.inl ⟨by rfl, ?_⟩) ?_
       ·intro w; go_simp
       refine wpAny_take (i := 8) (v := .string ⟨a.toArray⟩) rfl (by kernel_rfl) (by kernel_rfl) (by kernel_rfl) (fun _ _ _ h => h) (Or.inl ⟨by rfl, ?_⟩) ?_
       ·intro w; go_simp
       refine wpAny_ready (rs := [3]) (by kernel_rfl) (by simp) ?_
       refine (AllReady.cons (i := 3) rfl (fun K hK => ?_) AllReady.nil)
       go_simp
       go_at_call 47
       refine (hsm _).mono ?_
       rintro e w3 ⟨rfl, hb⟩
       obtain ⟨⟨p0, p1⟩, y0, y1⟩ := box2 (show Below (w.alloc (.cells #[.string ⟨#[]⟩, .string ⟨#[]⟩] 45)).heap.size (w.alloc (.cells #[.string ⟨#[]⟩, .string ⟨#[]⟩] 45)) w3 from (Below.refl _ _).drew.trans hb)
       have HB3 := Lib.hid ((Below.refl _ _).drew.trans hb)
       clear hb
       refine hK _ _ ?_
       clear hK K
       refine wpAny_take (i := 5) (v := .agg #[.string ⟨l.toArray⟩, .string ⟨[].toArray⟩]) rfl (by kernel_rfl) (by kernel_rfl) (by kernel_rfl) (fun _ _ _ h => h) (Or.inl ⟨by rfl, ?_⟩) ?_
       ·intro w; go_simp
       refine wpAny_ready (rs := [9]) (by kernel_rfl) (by simp) ?_
       refine (AllReady.cons (i := 9) rfl (fun K hK => ?_) AllReady.nil)
       go_simp
       go_at_call 176
       refine (htk _).mono ?_
       rintro e w' ⟨rfl, rfl⟩
       refine hK _ _ ?_
       clear hK K
       refine wpAny_take (i := 10) (v := .bool false) rfl (by kernel_rfl) (by kernel_rfl) (by kernel_rfl) (fun _ _ _ h => h) (Or.inl ⟨by rfl, ?_⟩) ?_
       ·intro w; go_simp
       refine wpAny_take (i := 11) (v := undef) rfl (by kernel_rfl) (by kernel_rfl) (by kernel_rfl) (fun _ _ _ h => h) (Or.inr ⟨by rfl, rfl⟩) ?_
       refine wpAny_take (i := 12) (v := undef) rfl (by kernel_rfl) (by kernel_rfl) (by kernel_rfl) (fun _ _ _ h => h) (Or.inr ⟨by rfl, rfl⟩) ?_
       refine wpAny_take (i := 13) (v := .bool false) rfl (by kernel_rfl) (by kernel_rfl) (by kernel_rfl) (fun _ _ _ h => h) (Or.inl ⟨by rfl, ?_⟩) ?_
       ·intro w; go_simp
       refine wpAny_ready (rs := [14]) (by kernel_rfl) (by simp) ?_
       refine (AllReady.cons (i := 14) rfl (fun K hK => ?_) AllReady.nil)
       go_simp
       refine hK _ _ ?_
       clear hK K
       refine wpAny_take (i := 15) (v := .bool false) rfl (by kernel_rfl) (by kernel_rfl) (by kernel_rfl) (fun _ _ _ h => h) (Or.inl ⟨by rfl, ?_⟩) ?_
       ·intro w; go_simp
       refine wpAny_done (by kernel_rfl) ?_ _
       go_wp2_with fail
       have s0 : ∀ x, (w3.setCell ⟨w.heap.size, 0, none⟩ x).cell? ⟨w.heap.size, 0, none⟩ = some x := fun x => World.cell?_setCell_same _ _ _ p0
       have s1 : ∀ x y, ((w3.setCell ⟨w.heap.size, 0, none⟩ x).setCell ⟨w.heap.size, 1, none⟩ y).cell? ⟨w.heap.size, 1, none⟩ = some y := fun x y => World.cell?_setCell_same _ _ _ (by rw [World.cell?_setCell_other _ _ _ _ (by simp)]; exact p1)
       refine bodyPost_ret (by simp [results, Tryz.results132, go_sem, s0, s1]; try rfl) rfl ?_
       exact ⟨l, [], by rw [HR.out]; rfl, ((below_alloc HB3.out).setCell (Nat.le_refl _) _).setCell (Nat.le_refl _) _, fun h e => by rw [HR.out] at e; cases e⟩
      case true =>
       refine wp_region_any (by kernel_rfl) ?_
       (try (change wpAny _ _ _ _ _ _ _ (World.drew _)))
       refine wpAny_take (i := 0) (v := .string ⟨s.toArray⟩) rfl (by kernel_rfl) (by kernel_rfl) (by kernel_rfl) (fun _ _ _ h => h) (Or.inl ⟨by rfl, ?_⟩) ?_
       ·intro w; go_simp
       refine wpAny_take (i := 1) (v := .int .i64 (n : Int)) rfl (by kernel_rfl) (by kernel_rfl) (by kernel_rfl) (fun _ _ _ h => h) (Or.inl ⟨by rfl, ?_⟩) ?_
       ·intro w; go_simp
       refine wpAny_take (i := 2) (v := .string ⟨a.toArray⟩) rfl (by kernel_rfl) (by kernel_rfl) (by kernel_rfl) (fun _ _ _ h => h) (Or.inl ⟨by rfl, ?_⟩) ?_
       ·intro w; go_simp
       refine wpAny_take (i := 4) (v := .string ⟨[].toArray⟩) rfl (by kernel_rfl) (by kernel_rfl) (by kernel_rfl) (fun _ _ _ h => h) (Or.inl ⟨by rfl, ?_⟩) ?_
       ·intro w; go_simp
       refine wpAny_take (i := 6) (v := .string ⟨s.toArray⟩) rfl (by kernel_rfl) (by kernel_rfl) (by kernel_rfl) (fun _ _ _ h => h) (Or.inl ⟨by rfl, ?_⟩) ?_
       ·intro w; go_simp
       refine wpAny_take (i := 7) (v := .int .i64 (n : Int)) rfl (by kernel_rfl) (by kernel_rfl) (by kernel_rfl) (fun _ _ _ h => h) (Or.inl ⟨by rfl, ?_⟩) ?_
       ·intro w; go_simp
       refine wpAny_take (i := 8) (v := .string ⟨a.toArray⟩) rfl (by kernel_rfl) (by kernel_rfl) (by kernel_rfl) (fun _ _ _ h => h) (Or.inl ⟨by rfl, ?_⟩) ?_
       ·intro w; go_simp
       refine wpAny_ready (rs := [3]) (by kernel_rfl) (by simp) ?_
       refine (AllReady.cons (i := 3) rfl (fun K hK => ?_) AllReady.nil)
       go_simp
       go_at_call 47
       refine (hsm _).mono ?_
       rintro e w3 ⟨rfl, hb⟩
       obtain ⟨⟨p0, p1⟩, y0, y1⟩ := box2 (show Below (w.alloc (.cells #[.string ⟨#[]⟩, .string ⟨#[]⟩] 45)).heap.size (w.alloc (.cells #[.string ⟨#[]⟩, .string ⟨#[]⟩] 45)) w3 from (Below.refl _ _).drew.trans hb)
       have HB3 := Lib.hid ((Below.refl _ _).drew.trans hb)
       clear hb
       refine hK _ _ ?_
       clear hK K
       refine wpAny_take (i := 5) (v := .agg #[.string ⟨l.toArray⟩, .string ⟨[].toArray⟩]) rfl (by kernel_rfl) (by kernel_rfl) (by kernel_rfl) (fun _ _ _ h => h) (Or.inl ⟨by rfl, ?_⟩) ?_
       ·intro w; go_simp
       refine wpAny_ready (rs := [9]) (by kernel_rfl) (by simp) ?_
       refine (AllReady.cons (i := 9) rfl (fun K hK => ?_) AllReady.nil)
       go_simp
       go_at_call 176
       refine (htk _).mono ?_
       rintro e w' ⟨rfl, rfl⟩
       refine hK _ _ ?_
       clear hK K
       refine wpAny_take (i := 10) (v := .bool true) rfl (by kernel_rfl) (by kernel_rfl) (by kernel_rfl) (fun _ _ _ h => h) (Or.inl ⟨by rfl, ?_⟩) ?_
       ·intro w; go_simp
       refine wpAny_take (i := 11) (v := .string ⟨[].toArray⟩) rfl (by kernel_rfl) (by kernel_rfl) (by kernel_rfl) (fun _ _ _ h => h) (Or.inl ⟨by rfl, ?_⟩) ?_
       ·intro w; go_simp
       refine wpAny_ready (rs := [12]) (by kernel_rfl) (by simp) ?_
       refine (AllReady.cons (i := 12) rfl (fun K hK => ?_) AllReady.nil)
       go_simp
       go_at_call 177
       refine (hvl _).mono ?_
       rintro e w' ⟨rfl, rfl⟩
       refine hK _ _ ?_
       clear hK K
       refine wpAny_take (i := 13) (v := .bool r) rfl (by kernel_rfl) (by kernel_rfl) (by kernel_rfl) (fun _ _ _ h => h) (Or.inl ⟨by rfl, ?_⟩) ?_
       ·intro w; go_simp
       refine wpAny_ready (rs := [14]) (by kernel_rfl) (by simp) ?_
       refine (AllReady.cons (i := 14) rfl (fun K hK => ?_) AllReady.nil)
       go_simp
       refine hK _ _ ?_
       clear hK K
       refine wpAny_take (i := 15) (v := .bool r) rfl (by kernel_rfl) (by kernel_rfl) (by kernel_rfl) (fun _ _ _ h => h) (Or.inl ⟨by rfl, ?_⟩) ?_
       ·intro w; go_simp
       refine wpAny_done (by kernel_rfl) ?_ _
       go_wp2_with fail
       have s0 : ∀ x, (w3.setCell ⟨w.heap.size, 0, none⟩ x).cell? ⟨w.heap.size, 0, none⟩ = some x := fun x => World.cell?_setCell_same _ _ _ p0
       have s1 : ∀ x y, ((w3.setCell ⟨w.heap.size, 0, none⟩ x).setCell ⟨w.heap.size, 1, none⟩ y).cell? ⟨w.heap.size, 1, none⟩ = some y := fun x y => World.cell?_setCell_same _ _ _ (by rw [World.cell?_setCell_other _ _ _ _ (by simp)]; exact p1)
       refine bodyPost_ret (by simp [results, Tryz.results132, go_sem, s0, s1]; try rfl) rfl ?_
       cases r
       ·exact ⟨l, [], by rw [HR.out]; rfl, ((below_alloc HB3.out).setCell (Nat.le_refl _) _).setCell (Nat.le_refl _) _, fun h e => by rw [HR.out] at e; cases e⟩
       ·exact ⟨l, [], by rw [HR.out]; rfl, ((below_alloc HB3.out).setCell (Nat.le_refl _) _).setCell (Nat.le_refl _) _, fun h e => by rw [HR.out] at e; cases e; rfl⟩
     | cons c t =>
      have hVl2 : (t.length : Int) ≤ 1073741823 := by simp at hVl; omega
      obtain ⟨y, hy⟩ : ∃ y, (c :: t)[t.length]'(by simp) = y := ⟨_, rfl⟩
      have hi1 : ∀ h, (⟨(c :: t).toArray⟩ : ByteArray)[t.length]'h = y := fun _ => hy
      have hz : (0 < (t.length : Int) + 1) = True := by simp only [eq_iff_iff, iff_true]; omega
      have hw : wrap64 ((t.length : Int) + 1 - 1) = (t.length : Int) := by unfold wrap64; omega
      have hsl2 := sl_to (c :: t) t.length (t.length : Int) rfl (by simp)
      have HS : Hid (c :: t = (c :: t).take t.length ++ [y]) := Lib.hid (by
       conv => lhs; rw [← List.take_append_drop t.length (c :: t)]
       rw [List.drop_eq_getElem_cons (by simp), hy]
       simp)
      obtain ⟨d, hd⟩ : ∃ d, bla y = d := ⟨_, rfl⟩
      have hby := blankR_any y
      rw [hd] at hby
      cases d
      ·have HV : Hid (dropR bla (v0.dropWhile bla) = c :: t) := Lib.hid (by rw [← HU2.out, HS.out, dropR_snoc, hd]; rfl)
       clear hd hy
       go_wp2_with (go_at_call 175; refine (hby _).mono ?_; rintro e w' ⟨rfl, rfl⟩)
       obtain ⟨k, hk⟩ : ∃ k, tokenL a = k := ⟨_, rfl⟩
       obtain ⟨r, hr⟩ : ∃ r, valueL (c :: t) = r := ⟨_, rfl⟩
       have htk := tokenR_any a hal
       have hvl := valueR_any (c :: t) (by simpa using hVl)
       have hsm := smallR_any a (by omega)
       obtain ⟨l, hl⟩ : ∃ l, smallL a = l := ⟨_, rfl⟩
       rw [hk] at htk
       rw [hr] at hvl
       rw [hl] at hsm
       have HR : Hid (headerL s = if k && r then some (l, (c :: t)) else none) := Lib.hid (by rw [HH.out, HV.out, hk, hr, hl])
       clear hk hr hl
       obtain ⟨⟨q0, q1⟩, z0, z1⟩ := box_cells w (.string ⟨#[]⟩) (.string ⟨#[]⟩) 45
       cases k
       case false =>
        refine wp_region_any (by kernel_rfl) ?_
        (try (change wpAny _ _ _ _ _ _ _ (World.drew _)))
        refine wpAny_take (i := 0) (v := .string ⟨s.toArray⟩) rfl (by kernel_rfl) (by kernel_rfl) (by kernel_rfl) (fun _ _ _ h => h) (Or.inl ⟨by rfl, ?_⟩) ?_
        ·intro w; go_simp
        refine wpAny_take (i := 1) (v := .int .i64 (n : Int)) rfl (by kernel_rfl) (by kernel_rfl) (by kernel_rfl) (fun _ _ _ h => h) (Or.inl ⟨by rfl, ?_⟩) ?_
        ·intro w; go_simp
        refine wpAny_take (i := 2) (v := .string ⟨a.toArray⟩) rfl (by kernel_rfl) (by kernel_rfl) (by kernel_rfl) (fun _ _ _ h => h) (Or.inl ⟨by rfl, ?_⟩) ?_
        ·intro w; go_simp
        refine wpAny_take (i := 4) (v := .string ⟨(c :: t).toArray⟩) rfl (by kernel_rfl) (by kernel_rfl) (by kernel_rfl) (fun _ _ _ h => h) (Or.inl ⟨by rfl, ?_⟩) ?_
        ·intro w; go_simp
        refine wpAny_take (i := 6) (v := .string ⟨s.toArray⟩) rfl (by kernel_rfl) (by kernel_rfl) (by kernel_rfl) (fun _ _ _ h => h) (Or.inl ⟨by rfl, ?_⟩) ?_
        ·intro w; go_simp
        refine wpAny_take (i := 7) (v := .int .i64 (n : Int)) rfl (by kernel_rfl) (by kernel_rfl) (by kernel_rfl) (fun _ _ _ h => h) (Or.inl ⟨by rfl, ?_⟩) ?_
        ·intro w; go_simp
        refine wpAny_take (i := 8) (v := .string ⟨a.toArray⟩) rfl (by kernel_rfl) (by kernel_rfl) (by kernel_rfl) (fun _ _ _ h => h) (Or.inl ⟨by rfl, ?_⟩) ?_
        ·intro w; go_simp
        refine wpAny_ready (rs := [3]) (by kernel_rfl) (by simp) ?_
        refine (AllReady.cons (i := 3) rfl (fun K hK => ?_) AllReady.nil)
        go_simp
        go_at_call 47
        refine (hsm _).mono ?_
        rintro e w3 ⟨rfl, hb⟩
        obtain ⟨⟨p0, p1⟩, y0, y1⟩ := box2 (show Below (w.alloc (.cells #[.string ⟨#[]⟩, .string ⟨#[]⟩] 45)).heap.size (w.alloc (.cells #[.string ⟨#[]⟩, .string ⟨#[]⟩] 45)) w3 from (Below.refl _ _).drew.trans hb)
        have HB3 := Lib.hid ((Below.refl _ _).drew.trans hb)
        clear hb
        refine hK _ _ ?_
        clear hK K
        refine wpAny_take (i := 5) (v := .agg #[.string ⟨l.toArray⟩, .string ⟨(c :: t).toArray⟩]) rfl (by kernel_rfl) (by kernel_rfl) (by kernel_rfl) (fun _ _ _ h => h) (Or.inl ⟨by rfl, ?_⟩) ?_
        ·intro w; go_simp
        refine wpAny_ready (rs := [9]) (by kernel_rfl) (by simp) ?_
        refine (AllReady.cons (i := 9) rfl (fun K hK => ?_) AllReady.nil)
        go_simp
        go_at_call 176
        refine (htk _).mono ?_
        rintro e w' ⟨rfl, rfl⟩
        refine hK _ _ ?_
        clear hK K
        refine wpAny_take (i := 10) (v := .bool false) rfl (by kernel_rfl) (by kernel_rfl) (by kernel_rfl) (fun _ _ _ h => h) (Or.inl ⟨by rfl, ?_⟩) ?_
        ·intro w; go_simp
        refine wpAny_take (i := 11) (v := undef) rfl (by kernel_rfl) (by kernel_rfl) (by kernel_rfl) (fun _ _ _ h => h) (Or.inr ⟨by rfl, rfl⟩) ?_
        refine wpAny_take (i := 12) (v := undef) rfl (by kernel_rfl) (by kernel_rfl) (by kernel_rfl) (fun _ _ _ h => h) (Or.inr ⟨by rfl, rfl⟩) ?_
        refine wpAny_take (i := 13) (v := .bool false) rfl (by kernel_rfl) (by kernel_rfl) (by kernel_rfl) (fun _ _ _ h => h) (Or.inl ⟨by rfl, ?_⟩) ?_
        ·intro w; go_simp
        refine wpAny_ready (rs := [14]) (by kernel_rfl) (by simp) ?_
        refine (AllReady.cons (i := 14) rfl (fun K hK => ?_) AllReady.nil)
        go_simp
        refine hK _ _ ?_
        clear hK K
        refine wpAny_take (i := 15) (v := .bool false) rfl (by kernel_rfl) (by kernel_rfl) (by kernel_rfl) (fun _ _ _ h => h) (Or.inl ⟨by rfl, ?_⟩) ?_
        ·intro w; go_simp
        refine wpAny_done (by kernel_rfl) ?_ _
        go_wp2_with fail
        have s0 : ∀ x, (w3.setCell ⟨w.heap.size, 0, none⟩ x).cell? ⟨w.heap.size, 0, none⟩ = some x := fun x => World.cell?_setCell_same _ _ _ p0
        have s1 : ∀ x y, ((w3.setCell ⟨w.heap.size, 0, none⟩ x).setCell ⟨w.heap.size, 1, none⟩ y).cell? ⟨w.heap.size, 1, none⟩ = some y := fun x y => World.cell?_setCell_same _ _ _ (by rw [World.cell?_setCell_other _ _ _ _ (by simp)]; exact p1)
        refine bodyPost_ret (by simp [results, Tryz.results132, go_sem, s0, s1]; try rfl) rfl ?_
        exact ⟨l, (c :: t), by rw [HR.out]; rfl, ((below_alloc HB3.out).setCell (Nat.le_refl _) _).setCell (Nat.le_refl _) _, fun h e => by rw [HR.out] at e; cases e⟩
       case true =>
        refine wp_region_any (by kernel_rfl) ?_
        (try (change wpAny _ _ _ _ _ _ _ (World.drew _)))
        refine wpAny_take (i := 0) (v := .string ⟨s.toArray⟩) rfl (by kernel_rfl) (by kernel_rfl) (by kernel_rfl) (fun _ _ _ h => h) (Or.inl ⟨by rfl, ?_⟩) ?_
        ·intro w; go_simp
        refine wpAny_take (i := 1) (v := .int .i64 (n : Int)) rfl (by kernel_rfl) (by kernel_rfl) (by kernel_rfl) (fun _ _ _ h => h) (Or.inl ⟨by rfl, ?_⟩) ?_
        ·intro w; go_simp
        refine wpAny_take (i := 2) (v := .string ⟨a.toArray⟩) rfl (by kernel_rfl) (by kernel_rfl) (by kernel_rfl) (fun _ _ _ h => h) (Or.inl ⟨by rfl, ?_⟩) ?_
        ·intro w; go_simp
        refine wpAny_take (i := 4) (v := .string ⟨(c :: t).toArray⟩) rfl (by kernel_rfl) (by kernel_rfl) (by kernel_rfl) (fun _ _ _ h => h) (Or.inl ⟨by rfl, ?_⟩) ?_
        ·intro w; go_simp
        refine wpAny_take (i := 6) (v := .string ⟨s.toArray⟩) rfl (by kernel_rfl) (by kernel_rfl) (by kernel_rfl) (fun _ _ _ h => h) (Or.inl ⟨by rfl, ?_⟩) ?_
        ·intro w; go_simp
        refine wpAny_take (i := 7) (v := .int .i64 (n : Int)) rfl (by kernel_rfl) (by kernel_rfl) (by kernel_rfl) (fun _ _ _ h => h) (Or.inl ⟨by rfl, ?_⟩) ?_
        ·intro w; go_simp
        refine wpAny_take (i := 8) (v := .string ⟨a.toArray⟩) rfl (by kernel_rfl) (by kernel_rfl) (by kernel_rfl) (fun _ _ _ h => h) (Or.inl ⟨by rfl, ?_⟩) ?_
        ·intro w; go_simp
        refine wpAny_ready (rs := [3]) (by kernel_rfl) (by simp) ?_
        refine (AllReady.cons (i := 3) rfl (fun K hK => ?_) AllReady.nil)
        go_simp
        go_at_call 47
        refine (hsm _).mono ?_
        rintro e w3 ⟨rfl, hb⟩
        obtain ⟨⟨p0, p1⟩, y0, y1⟩ := box2 (show Below (w.alloc (.cells #[.string ⟨#[]⟩, .string ⟨#[]⟩] 45)).heap.size (w.alloc (.cells #[.string ⟨#[]⟩, .string ⟨#[]⟩] 45)) w3 from (Below.refl _ _).drew.trans hb)
        have HB3 := Lib.hid ((Below.refl _ _).drew.trans hb)
        clear hb
        refine hK _ _ ?_
        clear hK K
        refine wpAny_take (i := 5) (v := .agg #[.string ⟨l.toArray⟩, .string ⟨(c :: t).toArray⟩]) rfl (by kernel_rfl) (by kernel_rfl) (by kernel_rfl) (fun _ _ _ h => h) (Or.inl ⟨by rfl, ?_⟩) ?_
        ·intro w; go_simp
        refine wpAny_ready (rs := [9]) (by kernel_rfl) (by simp) ?_
        refine (AllReady.cons (i := 9) rfl (fun K hK => ?_) AllReady.nil)
        go_simp
        go_at_call 176
        refine (htk _).mono ?_
        rintro e w' ⟨rfl, rfl⟩
        refine hK _ _ ?_
        clear hK K
        refine wpAny_take (i := 10) (v := .bool true) rfl (by kernel_rfl) (by kernel_rfl) (by kernel_rfl) (fun _ _ _ h => h) (Or.inl ⟨by rfl, ?_⟩) ?_
        ·intro w; go_simp
        refine wpAny_take (i := 11) (v := .string ⟨(c :: t).toArray⟩) rfl (by kernel_rfl) (by kernel_rfl) (by kernel_rfl) (fun _ _ _ h => h) (Or.inl ⟨by rfl, ?_⟩) ?_
        ·intro w; go_simp
        refine wpAny_ready (rs := [12]) (by kernel_rfl) (by simp) ?_
        refine (AllReady.cons (i := 12) rfl (fun K hK => ?_) AllReady.nil)
        go_simp
        go_at_call 177
        refine (hvl _).mono ?_
        rintro e w' ⟨rfl, rfl⟩
        refine hK _ _ ?_
        clear hK K
        refine wpAny_take (i := 13) (v := .bool r) rfl (by kernel_rfl) (by kernel_rfl) (by kernel_rfl) (fun _ _ _ h => h) (Or.inl ⟨by rfl, ?_⟩) ?_
        ·intro w; go_simp
        refine wpAny_ready (rs := [14]) (by kernel_rfl) (by simp) ?_
        refine (AllReady.cons (i := 14) rfl (fun K hK => ?_) AllReady.nil)
        go_simp
        refine hK _ _ ?_
        clear hK K
        refine wpAny_take (i := 15) (v := .bool r) rfl (by kernel_rfl) (by kernel_rfl) (by kernel_rfl) (fun _ _ _ h => h) (Or.inl ⟨by rfl, ?_⟩) ?_
        ·intro w; go_simp
        refine wpAny_done (by kernel_rfl) ?_ _
        go_wp2_with fail
        have s0 : ∀ x, (w3.setCell ⟨w.heap.size, 0, none⟩ x).cell? ⟨w.heap.size, 0, none⟩ = some x := fun x => World.cell?_setCell_same _ _ _ p0
        have s1 : ∀ x y, ((w3.setCell ⟨w.heap.size, 0, none⟩ x).setCell ⟨w.heap.size, 1, none⟩ y).cell? ⟨w.heap.size, 1, none⟩ = some y := fun x y => World.cell?_setCell_same _ _ _ (by rw [World.cell?_setCell_other _ _ _ _ (by simp)]; exact p1)
        refine bodyPost_ret (by simp [results, Tryz.results132, go_sem, s0, s1]; try rfl) rfl ?_
        cases r
        ·exact ⟨l, (c :: t), by rw [HR.out]; rfl, ((below_alloc HB3.out).setCell (Nat.le_refl _) _).setCell (Nat.le_refl _) _, fun h e => by rw [HR.out] at e; cases e⟩
        ·exact ⟨l, (c :: t), by rw [HR.out]; rfl, ((below_alloc HB3.out).setCell (Nat.le_refl _) _).setCell (Nat.le_refl _) _, fun h e => by rw [HR.out] at e; cases e; rfl⟩
      ·have HN : Hid (dropR bla ((c :: t).take t.length) = dropR bla (v0.dropWhile bla)) := Lib.hid (by
        have e := HU2.out
        rw [HS.out, dropR_snoc, hd] at e
        exact e)
       clear hd hy
       go_wp2_with (go_at_call 175; refine (hby _).mono ?_; rintro e w' ⟨rfl, rfl⟩)
       exact ⟨⟨(c :: t).take t.length, rfl, by rw [List.length_take]; omega, HN⟩, by simp [slen, sz_of] <;> omega⟩
   | cons c t =>
    have hul2 : (t.length : Int) ≤ 1073741823 := by simp at hul; omega
    have hz0 : (0 < (t.length : Int) + 1) = True := by simp only [eq_iff_iff, iff_true]; omega
    have hi0 : ∀ h, (⟨(c :: t).toArray⟩ : ByteArray)[0]'h = c := fun _ => rfl
    have hsl3 := sl_from (c :: t) 1 1 rfl (by simp)
    rw [List.drop_succ_cons, List.drop_zero] at hsl3
    obtain ⟨d, hd⟩ : ∃ d, bla c = d := ⟨_, rfl⟩
    have hbc := blankR_any c
    rw [hd] at hbc
    cases d
    ·have HD : Hid (v0.dropWhile bla = c :: t) := Lib.hid (by rw [← HU.out, List.dropWhile_cons_of_neg (by rw [hd]; decide)])
     clear hd
     go_wp2_with (go_at_call 175; refine (hbc _).mono ?_; rintro e w' ⟨rfl, rfl⟩)
     clear hi0 hsl3 hbc hz0 hul2
     go_loop [5] (fun v => ∃ u : List UInt8, v = .string ⟨u.toArray⟩ ∧ u.length ≤ 1073741824 ∧ Hid (dropR bla u = dropR bla (v0.dropWhile bla))) (fun v => slen v)
     case atStart => exact ⟨(c :: t), rfl, hul, Lib.hid (by rw [HD.out])⟩
     case round =>
      obtain ⟨u2, rfl, hVl, HU2⟩ := hrel
      cases u2 with
      | nil =>
       go_wp2_with fail
       have HV : Hid (dropR bla (v0.dropWhile bla) = []) := Lib.hid HU2.out.symm
       obtain ⟨k, hk⟩ : ∃ k, tokenL a = k := ⟨_, rfl⟩
       obtain ⟨r, hr⟩ : ∃ r, valueL [] = r := ⟨_, rfl⟩
       have htk := tokenR_any a hal
       have hvl := valueR_any [] (by simp)
       have hsm := smallR_any a (by omega)
       obtain ⟨l, hl⟩ : ∃ l, smallL a = l := ⟨_, rfl⟩
       rw [hk] at htk
       rw [hr] at hvl
       rw [hl] at hsm
       have HR : Hid (headerL s = if k && r then some (l, []) else none) := Lib.hid (by rw [HH.out, HV.out, hk, hr, hl])
       clear hk hr hl
       obtain ⟨⟨q0, q1⟩, z0, z1⟩ := box_cells w (.string ⟨#[]⟩) (.string ⟨#[]⟩) 45
       cases k
       case false =>
        refine wp_region_any (by kernel_rfl) ?_
        (try (change wpAny _ _ _ _ _ _ _ (World.drew _)))
        refine wpAny_take (i := 0) (v := .string ⟨s.toArray⟩) rfl (by kernel_rfl) (by kernel_rfl) (by kernel_rfl) (fun _ _ _ h => h) (Or.inl ⟨by rfl, ?_⟩) ?_
        ·intro w; go_simp
        refine wpAny_take (i := 1) (v := .int .i64 (n : Int)) rfl (by kernel_rfl) (by kernel_rfl) (by kernel_rfl) (fun _ _ _ h => h) (Or.inl ⟨by rfl, ?_⟩) ?_
        ·intro w; go_simp
        refine wpAny_take (i := 2) (v := .string ⟨a.toArray⟩) rfl (by kernel_rfl) (by kernel_rfl) (by kernel_rfl) (fun _ _ _ h => h) (Or.inl ⟨by rfl, ?_⟩) ?_
        ·intro w; go_simp
        refine wpAny_take (i := 4) (v := .string ⟨[].toArray⟩) rfl (by kernel_rfl) (by kernel_rfl) (by kernel_rfl) (fun _ _ _ h => h) (Or.inl ⟨by rfl, ?_⟩) ?_
        ·intro w; go_simp
        refine wpAny_take (i := 6) (v := .string ⟨s.toArray⟩) rfl (by kernel_rfl) (by kernel_rfl) (by kernel_rfl) (fun _ _ _ h => h) (Or.inl ⟨by rfl, ?_⟩) ?_
        ·intro w; go_simp
        refine wpAny_take (i := 7) (v := .int .i64 (n : Int)) rfl (by kernel_rfl) (by kernel_rfl) (by kernel_rfl) (fun _ _ _ h => h) (Or.inl ⟨by rfl, ?_⟩) ?_
        ·intro w; go_simp
        refine wpAny_take (i := 8) (v := .string ⟨a.toArray⟩) rfl (by kernel_rfl) (by kernel_rfl) (by kernel_rfl) (fun _ _ _ h => h) (Or.inl ⟨by rfl, ?_⟩) ?_
        ·intro w; go_simp
        refine wpAny_ready (rs := [3]) (by kernel_rfl) (by simp) ?_
        refine (AllReady.cons (i := 3) rfl (fun K hK => ?_) AllReady.nil)
        go_simp
        go_at_call 47
        refine (hsm _).mono ?_
        rintro e w3 ⟨rfl, hb⟩
        obtain ⟨⟨p0, p1⟩, y0, y1⟩ := box2 (show Below (w.alloc (.cells #[.string ⟨#[]⟩, .string ⟨#[]⟩] 45)).heap.size (w.alloc (.cells #[.string ⟨#[]⟩, .string ⟨#[]⟩] 45)) w3 from (Below.refl _ _).drew.trans hb)
        have HB3 := Lib.hid ((Below.refl _ _).drew.trans hb)
        clear hb
        refine hK _ _ ?_
        clear hK K
        refine wpAny_take (i := 5) (v := .agg #[.string ⟨l.toArray⟩, .string ⟨[].toArray⟩]) rfl (by kernel_rfl) (by kernel_rfl) (by kernel_rfl) (fun _ _ _ h => h) (Or.inl ⟨by rfl, ?_⟩) ?_
        ·intro w; go_simp
        refine wpAny_ready (rs := [9]) (by kernel_rfl) (by simp) ?_
        refine (AllReady.cons (i := 9) rfl (fun K hK => ?_) AllReady.nil)
        go_simp
        go_at_call 176
        refine (htk _).mono ?_
        rintro e w' ⟨rfl, rfl⟩
        refine hK _ _ ?_
        clear hK K
        refine wpAny_take (i := 10) (v := .bool false) rfl (by kernel_rfl) (by kernel_rfl) (by kernel_rfl) (fun _ _ _ h => h) (Or.inl ⟨by rfl, ?_⟩) ?_
        ·intro w; go_simp
        refine wpAny_take (i := 11) (v := undef) rfl (by kernel_rfl) (by kernel_rfl) (by kernel_rfl) (fun _ _ _ h => h) (Or.inr ⟨by rfl, rfl⟩) ?_
        refine wpAny_take (i := 12) (v := undef) rfl (by kernel_rfl) (by kernel_rfl) (by kernel_rfl) (fun _ _ _ h => h) (Or.inr ⟨by rfl, rfl⟩) ?_
        refine wpAny_take (i := 13) (v := .bool false) rfl (by kernel_rfl) (by kernel_rfl) (by kernel_rfl) (fun _ _ _ h => h) (Or.inl ⟨by rfl, ?_⟩) ?_
        ·intro w; go_simp
        refine wpAny_ready (rs := [14]) (by kernel_rfl) (by simp) ?_
        refine (AllReady.cons (i := 14) rfl (fun K hK => ?_) AllReady.nil)
        go_simp
        refine hK _ _ ?_
        clear hK K
        refine wpAny_take (i := 15) (v := .bool false) rfl (by kernel_rfl) (by kernel_rfl) (by kernel_rfl) (fun _ _ _ h => h) (Or.inl ⟨by rfl, ?_⟩) ?_
        ·intro w; go_simp
        refine wpAny_done (by kernel_rfl) ?_ _
        go_wp2_with fail
        have s0 : ∀ x, (w3.setCell ⟨w.heap.size, 0, none⟩ x).cell? ⟨w.heap.size, 0, none⟩ = some x := fun x => World.cell?_setCell_same _ _ _ p0
        have s1 : ∀ x y, ((w3.setCell ⟨w.heap.size, 0, none⟩ x).setCell ⟨w.heap.size, 1, none⟩ y).cell? ⟨w.heap.size, 1, none⟩ = some y := fun x y => World.cell?_setCell_same _ _ _ (by rw [World.cell?_setCell_other _ _ _ _ (by simp)]; exact p1)
        refine bodyPost_ret (by simp [results, Tryz.results132, go_sem, s0, s1]; try rfl) rfl ?_
        exact ⟨l, [], by rw [HR.out]; rfl, ((below_alloc HB3.out).setCell (Nat.le_refl _) _).setCell (Nat.le_refl _) _, fun h e => by rw [HR.out] at e; cases e⟩
       case true =>
        refine wp_region_any (by kernel_rfl) ?_
        (try (change wpAny _ _ _ _ _ _ _ (World.drew _)))
        refine wpAny_take (i := 0) (v := .string ⟨s.toArray⟩) rfl (by kernel_rfl) (by kernel_rfl) (by kernel_rfl) (fun _ _ _ h => h) (Or.inl ⟨by rfl, ?_⟩) ?_
        ·intro w; go_simp
        refine wpAny_take (i := 1) (v := .int .i64 (n : Int)) rfl (by kernel_rfl) (by kernel_rfl) (by kernel_rfl) (fun _ _ _ h => h) (Or.inl ⟨by rfl, ?_⟩) ?_
        ·intro w; go_simp
        refine wpAny_take (i := 2) (v := .string ⟨a.toArray⟩) rfl (by kernel_rfl) (by kernel_rfl) (by kernel_rfl) (fun _ _ _ h => h) (Or.inl ⟨by rfl, ?_⟩) ?_
        ·intro w; go_simp
        refine wpAny_take (i := 4) (v := .string ⟨[].toArray⟩) rfl (by kernel_rfl) (by kernel_rfl) (by kernel_rfl) (fun _ _ _ h => h) (Or.inl ⟨by rfl, ?_⟩) ?_
        ·intro w; go_simp
        refine wpAny_take (i := 6) (v := .string ⟨s.toArray⟩) rfl (by kernel_rfl) (by kernel_rfl) (by kernel_rfl) (fun _ _ _ h => h) (Or.inl ⟨by rfl, ?_⟩) ?_
        ·intro w; go_simp
        refine wpAny_take (i := 7) (v := .int .i64 (n : Int)) rfl (by kernel_rfl) (by kernel_rfl) (by kernel_rfl) (fun _ _ _ h => h) (Or.inl ⟨by rfl, ?_⟩) ?_
        ·intro w; go_simp
        refine wpAny_take (i := 8) (v := .string ⟨a.toArray⟩) rfl (by kernel_rfl) (by kernel_rfl) (by kernel_rfl) (fun _ _ _ h => h) (Or.inl ⟨by rfl, ?_⟩) ?_
        ·intro w; go_simp
        refine wpAny_ready (rs := [3]) (by kernel_rfl) (by simp) ?_
        refine (AllReady.cons (i := 3) rfl (fun K hK => ?_) AllReady.nil)
        go_simp
        go_at_call 47
        refine (hsm _).mono ?_
        rintro e w3 ⟨rfl, hb⟩
        obtain ⟨⟨p0, p1⟩, y0, y1⟩ := box2 (show Below (w.alloc (.cells #[.string ⟨#[]⟩, .string ⟨#[]⟩] 45)).heap.size (w.alloc (.cells #[.string ⟨#[]⟩, .string ⟨#[]⟩] 45)) w3 from (Below.refl _ _).drew.trans hb)
        have HB3 := Lib.hid ((Below.refl _ _).drew.trans hb)
        clear hb
        refine hK _ _ ?_
        clear hK K
        refine wpAny_take (i := 5) (v := .agg #[.string ⟨l.toArray⟩, .string ⟨[].toArray⟩]) rfl (by kernel_rfl) (by kernel_rfl) (by kernel_rfl) (fun _ _ _ h => h) (Or.inl ⟨by rfl, ?_⟩) ?_
        ·intro w; go_simp
        refine wpAny_ready (rs := [9]) (by kernel_rfl) (by simp) ?_
        refine (AllReady.cons (i := 9) rfl (fun K hK => ?_) AllReady.nil)
        go_simp
        go_at_call 176
        refine (htk _).mono ?_
        rintro e w' ⟨rfl, rfl⟩
        refine hK _ _ ?_
        clear hK K
        refine wpAny_take (i := 10) (v := .bool true) rfl (by kernel_rfl) (by kernel_rfl) (by kernel_rfl) (fun _ _ _ h => h) (Or.inl ⟨by rfl, ?_⟩) ?_
        ·intro w; go_simp
        refine wpAny_take (i := 11) (v := .string ⟨[].toArray⟩) rfl (by kernel_rfl) (by kernel_rfl) (by kernel_rfl) (fun _ _ _ h => h) (Or.inl ⟨by rfl, ?_⟩) ?_
        ·intro w; go_simp
        refine wpAny_ready (rs := [12]) (by kernel_rfl) (by simp) ?_
        refine (AllReady.cons (i := 12) rfl (fun K hK => ?_) AllReady.nil)
        go_simp
        go_at_call 177
        refine (hvl _).mono ?_
        rintro e w' ⟨rfl, rfl⟩
        refine hK _ _ ?_
        clear hK K
        refine wpAny_take (i := 13) (v := .bool r) rfl (by kernel_rfl) (by kernel_rfl) (by kernel_rfl) (fun _ _ _ h => h) (Or.inl ⟨by rfl, ?_⟩) ?_
        ·intro w; go_simp
        refine wpAny_ready (rs := [14]) (by kernel_rfl) (by simp) ?_
        refine (AllReady.cons (i := 14) rfl (fun K hK => ?_) AllReady.nil)
        go_simp
        refine hK _ _ ?_
        clear hK K
        refine wpAny_take (i := 15) (v := .bool r) rfl (by kernel_rfl) (by kernel_rfl) (by kernel_rfl) (fun _ _ _ h => h) (Or.inl ⟨by rfl, ?_⟩) ?_
        ·intro w; go_simp
        refine wpAny_done (by kernel_rfl) ?_ _
        go_wp2_with fail
        have s0 : ∀ x, (w3.setCell ⟨w.heap.size, 0, none⟩ x).cell? ⟨w.heap.size, 0, none⟩ = some x := fun x => World.cell?_setCell_same _ _ _ p0
        have s1 : ∀ x y, ((w3.setCell ⟨w.heap.size, 0, none⟩ x).setCell ⟨w.heap.size, 1, none⟩ y).cell? ⟨w.heap.size, 1, none⟩ = some y := fun x y => World.cell?_setCell_same _ _ _ (by rw [World.cell?_setCell_other _ _ _ _ (by simp)]; exact p1)
        refine bodyPost_ret (by simp [results, Tryz.results132, go_sem, s0, s1]; try rfl) rfl ?_
        cases r
        ·exact ⟨l, [], by rw [HR.out]; rfl, ((below_alloc HB3.out).setCell (Nat.le_refl _) _).setCell (Nat.le_refl _) _, fun h e => by rw [HR.out] at e; cases e⟩
        ·exact ⟨l, [], by rw [HR.out]; rfl, ((below_alloc HB3.out).setCell (Nat.le_refl _) _).setCell (Nat.le_refl _) _, fun h e => by rw [HR.out] at e; cases e; rfl⟩
      | cons c t =>
       have hVl2 : (t.length : Int) ≤ 1073741823 := by simp at hVl; omega
       obtain ⟨y, hy⟩ : ∃ y, (c :: t)[t.length]'(by simp) = y := ⟨_, rfl⟩
       have hi1 : ∀ h, (⟨(c :: t).toArray⟩ : ByteArray)[t.length]'h = y := fun _ => hy
       have hz : (0 < (t.length : Int) + 1) = True := by simp only [eq_iff_iff, iff_true]; omega
       have hw : wrap64 ((t.length : Int) + 1 - 1) = (t.length : Int) := by unfold wrap64; omega
       have hsl2 := sl_to (c :: t) t.length (t.length : Int) rfl (by simp)
       have HS : Hid (c :: t = (c :: t).take t.length ++ [y]) := Lib.hid (by
        conv => lhs; rw [← List.take_append_drop t.length (c :: t)]
        rw [List.drop_eq_getElem_cons (by simp), hy]
        simp)
       obtain ⟨d, hd⟩ : ∃ d, bla y = d := ⟨_, rfl⟩
       have hby := blankR_any y
       rw [hd] at hby
       cases d
       ·have HV : Hid (dropR bla (v0.dropWhile bla) = c :: t) := Lib.hid (by rw [← HU2.out, HS.out, dropR_snoc, hd]; rfl)
        clear hd hy
        go_wp2_with (go_at_call 175; refine (hby _).mono ?_; rintro e w' ⟨rfl, rfl⟩)
        obtain ⟨k, hk⟩ : ∃ k, tokenL a = k := ⟨_, rfl⟩
        obtain ⟨r, hr⟩ : ∃ r, valueL (c :: t) = r := ⟨_, rfl⟩
        have htk := tokenR_any a hal
        have hvl := valueR_any (c :: t) (by simpa using hVl)
        have hsm := smallR_any a (by omega)
        obtain ⟨l, hl⟩ : ∃ l, smallL a = l := ⟨_, rfl⟩
        rw [hk] at htk
        rw [hr] at hvl
        rw [hl] at hsm
        have HR : Hid (headerL s = if k && r then some (l, (c :: t)) else none) := Lib.hid (by rw [HH.out, HV.out, hk, hr, hl])
        clear hk hr hl
        obtain ⟨⟨q0, q1⟩, z0, z1⟩ := box_cells w (.string ⟨#[]⟩) (.string ⟨#[]⟩) 45
        cases k
        case false =>
         refine wp_region_any (by kernel_rfl) ?_
         (try (change wpAny _ _ _ _ _ _ _ (World.drew _)))
         refine wpAny_take (i := 0) (v := .string ⟨s.toArray⟩) rfl (by kernel_rfl) (by kernel_rfl) (by kernel_rfl) (fun _ _ _ h => h) (Or.inl ⟨by rfl, ?_⟩) ?_
         ·intro w; go_simp
         refine wpAny_take (i := 1) (v := .int .i64 (n : Int)) rfl (by kernel_rfl) (by kernel_rfl) (by kernel_rfl) (fun _ _ _ h => h) (Or.inl ⟨by rfl, ?_⟩) ?_
         ·intro w; go_simp
         refine wpAny_take (i := 2) (v := .string ⟨a.toArray⟩) rfl (by kernel_rfl) (by kernel_rfl) (by kernel_rfl) (fun _ _ _ h => h) (Or.inl ⟨by rfl, ?_⟩) ?_
         ·intro w; go_simp
         refine wpAny_take (i := 4) (v := .string ⟨(c :: t).toArray⟩) rfl (by kernel_rfl) (by kernel_rfl) (by kernel_rfl) (fun _ _ _ h => h) (Or.inl ⟨by rfl, ?_⟩) ?_
         ·intro w; go_simp
         refine wpAny_take (i := 6) (v := .string ⟨s.toArray⟩) rfl (by kernel_rfl) (by kernel_rfl) (by kernel_rfl) (fun _ _ _ h => h) (Or.inl ⟨by rfl, ?_⟩) ?_
         ·intro w; go_simp
         refine wpAny_take (i := 7) (v := .int .i64 (n : Int)) rfl (by kernel_rfl) (by kernel_rfl) (by kernel_rfl) (fun _ _ _ h => h) (Or.inl ⟨by rfl, ?_⟩) ?_
         ·intro w; go_simp
         refine wpAny_take (i := 8) (v := .string ⟨a.toArray⟩) rfl (by kernel_rfl) (by kernel_rfl) (by kernel_rfl) (fun _ _ _ h => h) (Or.inl ⟨by rfl, ?_⟩) ?_
         ·intro w; go_simp
         refine wpAny_ready (rs := [3]) (by kernel_rfl) (by simp) ?_
         refine (AllReady.cons (i := 3) rfl (fun K hK => ?_) AllReady.nil)
         go_simp
         go_at_call 47
         refine (hsm _).mono ?_
         rintro e w3 ⟨rfl, hb⟩
         obtain ⟨⟨p0, p1⟩, y0, y1⟩ := box2 (show Below (w.alloc (.cells #[.string ⟨#[]⟩, .string ⟨#[]⟩] 45)).heap.size (w.alloc (.cells #[.string ⟨#[]⟩, .string ⟨#[]⟩] 45)) w3 from (Below.refl _ _).drew.trans hb)
         have HB3 := Lib.hid ((Below.refl _ _).drew.trans hb)
         clear hb
         refine hK _ _ ?_
         clear hK K
         refine wpAny_take (i := 5) (v := .agg #[.string ⟨l.toArray⟩, .string ⟨(c :: t).toArray⟩]) rfl (by kernel_rfl) (by kernel_rfl) (by kernel_rfl) (fun _ _ _ h => h) (Or.inl ⟨by rfl, ?_⟩) ?_
         ·intro w; go_simp
         refine wpAny_ready (rs := [9]) (by kernel_rfl) (by simp) ?_
         refine (AllReady.cons (i := 9) rfl (fun K hK => ?_) AllReady.nil)
         go_simp
         go_at_call 176
         refine (htk _).mono ?_
         rintro e w' ⟨rfl, rfl⟩
         refine hK _ _ ?_
         clear hK K
         refine wpAny_take (i := 10) (v := .bool false) rfl (by kernel_rfl) (by kernel_rfl) (by kernel_rfl) (fun _ _ _ h => h) (Or.inl ⟨by rfl, ?_⟩) ?_
         ·intro w; go_simp
         refine wpAny_take (i := 11) (v := undef) rfl (by kernel_rfl) (by kernel_rfl) (by kernel_rfl) (fun _ _ _ h => h) (Or.inr ⟨by rfl, rfl⟩) ?_
         refine wpAny_take (i := 12) (v := undef) rfl (by kernel_rfl) (by kernel_rfl) (by kernel_rfl) (fun _ _ _ h => h) (Or.inr ⟨by rfl, rfl⟩) ?_
         refine wpAny_take (i := 13) (v := .bool false) rfl (by kernel_rfl) (by kernel_rfl) (by kernel_rfl) (fun _ _ _ h => h) (Or.inl ⟨by rfl, ?_⟩) ?_
         ·intro w; go_simp
         refine wpAny_ready (rs := [14]) (by kernel_rfl) (by simp) ?_
         refine (AllReady.cons (i := 14) rfl (fun K hK => ?_) AllReady.nil)
         go_simp
         refine hK _ _ ?_
         clear hK K
         refine wpAny_take (i := 15) (v := .bool false) rfl (by kernel_rfl) (by kernel_rfl) (by kernel_rfl) (fun _ _ _ h => h) (Or.inl ⟨by rfl, ?_⟩) ?_
         ·intro w; go_simp
         refine wpAny_done (by kernel_rfl) ?_ _
         go_wp2_with fail
         have s0 : ∀ x, (w3.setCell ⟨w.heap.size, 0, none⟩ x).cell? ⟨w.heap.size, 0, none⟩ = some x := fun x => World.cell?_setCell_same _ _ _ p0
         have s1 : ∀ x y, ((w3.setCell ⟨w.heap.size, 0, none⟩ x).setCell ⟨w.heap.size, 1, none⟩ y).cell? ⟨w.heap.size, 1, none⟩ = some y := fun x y => World.cell?_setCell_same _ _ _ (by rw [World.cell?_setCell_other _ _ _ _ (by simp)]; exact p1)
         refine bodyPost_ret (by simp [results, Tryz.results132, go_sem, s0, s1]; try rfl) rfl ?_
         exact ⟨l, (c :: t), by rw [HR.out]; rfl, ((below_alloc HB3.out).setCell (Nat.le_refl _) _).setCell (Nat.le_refl _) _, fun h e => by rw [HR.out] at e; cases e⟩
        case true =>
         refine wp_region_any (by kernel_rfl) ?_
         (try (change wpAny _ _ _ _ _ _ _ (World.drew _)))
         refine wpAny_take (i := 0) (v := .string ⟨s.toArray⟩) rfl (by kernel_rfl) (by kernel_rfl) (by kernel_rfl) (fun _ _ _ h => h) (Or.inl ⟨by rfl, ?_⟩) ?_
         ·intro w; go_simp
         refine wpAny_take (i := 1) (v := .int .i64 (n : Int)) rfl (by kernel_rfl) (by kernel_rfl) (by kernel_rfl) (fun _ _ _ h => h) (Or.inl ⟨by rfl, ?_⟩) ?_
         ·intro w; go_simp
         refine wpAny_take (i := 2) (v := .string ⟨a.toArray⟩) rfl (by kernel_rfl) (by kernel_rfl) (by kernel_rfl) (fun _ _ _ h => h) (Or.inl ⟨by rfl, ?_⟩) ?_
         ·intro w; go_simp
         refine wpAny_take (i := 4) (v := .string ⟨(c :: t).toArray⟩) rfl (by kernel_rfl) (by kernel_rfl) (by kernel_rfl) (fun _ _ _ h => h) (Or.inl ⟨by rfl, ?_⟩) ?_
         ·intro w; go_simp
         refine wpAny_take (i := 6) (v := .string ⟨s.toArray⟩) rfl (by kernel_rfl) (by kernel_rfl) (by kernel_rfl) (fun _ _ _ h => h) (Or.inl ⟨by rfl, ?_⟩) ?_
         ·intro w; go_simp
         refine wpAny_take (i := 7) (v := .int .i64 (n : Int)) rfl (by kernel_rfl) (by kernel_rfl) (by kernel_rfl) (fun _ _ _ h => h) (Or.inl ⟨by rfl, ?_⟩) ?_
         ·intro w; go_simp
         refine wpAny_take (i := 8) (v := .string ⟨a.toArray⟩) rfl (by kernel_rfl) (by kernel_rfl) (by kernel_rfl) (fun _ _ _ h => h) (Or.inl ⟨by rfl, ?_⟩) ?_
         ·intro w; go_simp
         refine wpAny_ready (rs := [3]) (by kernel_rfl) (by simp) ?_
         refine (AllReady.cons (i := 3) rfl (fun K hK => ?_) AllReady.nil)
         go_simp
         go_at_call 47
         refine (hsm _).mono ?_
         rintro e w3 ⟨rfl, hb⟩
         obtain ⟨⟨p0, p1⟩, y0, y1⟩ := box2 (show Below (w.alloc (.cells #[.string ⟨#[]⟩, .string ⟨#[]⟩] 45)).heap.size (w.alloc (.cells #[.string ⟨#[]⟩, .string ⟨#[]⟩] 45)) w3 from (Below.refl _ _).drew.trans hb)
         have HB3 := Lib.hid ((Below.refl _ _).drew.trans hb)
         clear hb
         refine hK _ _ ?_
         clear hK K
         refine wpAny_take (i := 5) (v := .agg #[.string ⟨l.toArray⟩, .string ⟨(c :: t).toArray⟩]) rfl (by kernel_rfl) (by kernel_rfl) (by kernel_rfl) (fun _ _ _ h => h) (Or.inl ⟨by rfl, ?_⟩) ?_
         ·intro w; go_simp
         refine wpAny_ready (rs := [9]) (by kernel_rfl) (by simp) ?_
         refine (AllReady.cons (i := 9) rfl (fun K hK => ?_) AllReady.nil)
         go_simp
         go_at_call 176
         refine (htk _).mono ?_
         rintro e w' ⟨rfl, rfl⟩
         refine hK _ _ ?_
         clear hK K
         refine wpAny_take (i := 10) (v := .bool true) rfl (by kernel_rfl) (by kernel_rfl) (by kernel_rfl) (fun _ _ _ h => h) (Or.inl ⟨by rfl, ?_⟩) ?_
         ·intro w; go_simp
         refine wpAny_take (i := 11) (v := .string ⟨(c :: t).toArray⟩) rfl (by kernel_rfl) (by kernel_rfl) (by kernel_rfl) (fun _ _ _ h => h) (Or.inl ⟨by rfl, ?_⟩) ?_
         ·intro w; go_simp
         refine wpAny_ready (rs := [12]) (by kernel_rfl) (by simp) ?_
         refine (AllReady.cons (i := 12) rfl (fun K hK => ?_) AllReady.nil)
         go_simp
         go_at_call 177
         refine (hvl _).mono ?_
         rintro e w' ⟨rfl, rfl⟩
         refine hK _ _ ?_
         clear hK K
         refine wpAny_take (i := 13) (v := .bool r) rfl (by kernel_rfl) (by kernel_rfl) (by kernel_rfl) (fun _ _ _ h => h) (Or.inl ⟨by rfl, ?_⟩) ?_
         ·intro w; go_simp
         refine wpAny_ready (rs := [14]) (by kernel_rfl) (by simp) ?_
         refine (AllReady.cons (i := 14) rfl (fun K hK => ?_) AllReady.nil)
         go_simp
         refine hK _ _ ?_
         clear hK K
         refine wpAny_take (i := 15) (v := .bool r) rfl (by kernel_rfl) (by kernel_rfl) (by kernel_rfl) (fun _ _ _ h => h) (Or.inl ⟨by rfl, ?_⟩) ?_
         ·intro w; go_simp
         refine wpAny_done (by kernel_rfl) ?_ _
         go_wp2_with fail
         have s0 : ∀ x, (w3.setCell ⟨w.heap.size, 0, none⟩ x).cell? ⟨w.heap.size, 0, none⟩ = some x := fun x => World.cell?_setCell_same _ _ _ p0
         have s1 : ∀ x y, ((w3.setCell ⟨w.heap.size, 0, none⟩ x).setCell ⟨w.heap.size, 1, none⟩ y).cell? ⟨w.heap.size, 1, none⟩ = some y := fun x y => World.cell?_setCell_same _ _ _ (by rw [World.cell?_setCell_other _ _ _ _ (by simp)]; exact p1)
         refine bodyPost_ret (by simp [results, Tryz.results132, go_sem, s0, s1]; try rfl) rfl ?_
         cases r
         ·exact ⟨l, (c :: t), by rw [HR.out]; rfl, ((below_alloc HB3.out).setCell (Nat.le_refl _) _).setCell (Nat.le_refl _) _, fun h e => by rw [HR.out] at e; cases e⟩
         ·exact ⟨l, (c :: t), by rw [HR.out]; rfl, ((below_alloc HB3.out).setCell (Nat.le_refl _) _).setCell (Nat.le_refl _) _, fun h e => by rw [HR.out] at e; cases e; rfl⟩
       ·have HN : Hid (dropR bla ((c :: t).take t.length) = dropR bla (v0.dropWhile bla)) := Lib.hid (by
         have e := HU2.out
         rw [HS.out, dropR_snoc, hd] at e
         exact e)
        clear hd hy
        go_wp2_with (go_at_call 175; refine (hby _).mono ?_; rintro e w' ⟨rfl, rfl⟩)
        exact ⟨⟨(c :: t).take t.length, rfl, by rw [List.length_take]; omega, HN⟩, by simp [slen, sz_of] <;> omega⟩
    ·have HN : Hid (t.dropWhile bla = v0.dropWhile bla) := Lib.hid (by rw [← HU.out, List.dropWhile_cons_of_pos hd])
     clear hd
     go_wp2_with (go_at_call 175; refine (hbc _).mono ?_; rintro e w' ⟨rfl, rfl⟩)
     exact ⟨⟨t, rfl, by simp at hul; omega, HN⟩, by simp [slen, sz_of] <;> omega⟩
end Go.Proofs.YtpdedfpacklnoaaGreatDoor.H
