/- Contracts of causal.Encode's closure and of causal.Encode: ctxB behind bytes. -/
import Derived.Test.YtpdedfpacklnoaaGreatDoorTzCnx
import Derived.Test.YtpdedfpacklnoaaGreatDoorTzMW
import Derived.Test.YtpdedfpacklnoaaGreatDoorTzTkD
import Derived.Test.YtpdedfpacklnoaaGreatDoorTzML
set_option maxRecDepth 100000
namespace Go.Proofs.YtpdedfpacklnoaaGreatDoor
open Go.RowKit Go.BL Go.Ct Go.Sl Go.Wr W

theorem own_read {w : World} {B : Nat} {v : Value} {bs : List Nat} (h : Own w B v bs) : ∃ A c, v = .slice A bs.length c ∧ Rd w A bs.length bs := by
 obtain ⟨A, c, e, hr⟩ := h.rd
 exact ⟨A, c, e, hr⟩
/-- put, onto bytes that are read. -/
theorem put_on {w : World} {A : Option Addr} {m cap : Nat} {bs : List Nat} (hr : Rd w A m bs) (n : Int) (hm : m ≤ 1000000) (hn : n ≤ 9223372036854775807) : Calls Tryz.prog 160 #[.slice A m cap, .int .i64 n] w (RetO (bs ++ enc n.toNat) w) := put_any A m cap bs n w hr (by omega) hn
theorem enc_le {n : Int} (hn : n ≤ 9223372036854775807) : (enc n.toNat).length ≤ 9 := enc_len9 (by omega)
/-- What the closure answers: the captured cell holds a new row. -/
def CloR (b : Nat) (bs : List Nat) (w : World) (w' : World) : Prop := Kept [b] w w' ∧ ∃ A c, Box w' b (.slice A bs.length c) 75 ∧ Own w' w.heap.size (.slice A bs.length c) bs
theorem take_dots {l : List Dt} {k : Nat} (h : k < l.length) : dotsB (l.take (k + 1)) = dotsB (l.take k) ++ dotB (l[k]'h) := by
 have : ∀ (a : List Dt) (d : Dt), dotsB (a ++ [d]) = dotsB a ++ dotB d := by
  intro a d
  induction a with
  | nil => simp [dotsB]
  | cons x r ih => simp [dotsB, ih]
 rw [List.take_succ_eq_append_getElem h, this]
theorem dots_le : ∀ (l : List Dt), (∀ d ∈ l, d.n ≤ 9223372036854775807 ∧ d.l ≤ 9223372036854775807 ∧ d.c ≤ 9223372036854775807) → (dotsB l).length ≤ 27 * l.length
 | [], _ => by simp [dotsB]
 | d :: r, h => by
  have h1 := dots_le r (fun e he => h e (by simp [he]))
  obtain ⟨a, b, c⟩ := h d (by simp)
  have := enc_le a; have := enc_le b; have := enc_le c
  simp only [dotsB, dotB, List.length_append, List.length_cons]; omega
theorem far_cell {w : World} {g b i : Nat} (h : g ≠ b) (u : Value) : (w.setCell ⟨b, 0, none⟩ u).cell? ⟨g, i, none⟩ = w.cell? ⟨g, i, none⟩ := World.cell?_of_block (a := ⟨g, i, none⟩) (Below.heap_setCell w ⟨b, 0, none⟩ u g h)
set_option maxHeartbeats 8000000 in
theorem clo_any (l : List Dt) (v : Value) (b : Nat) (A : Option Addr) (cap : Nat) (bs : List Nat) (w : World) (hv : Dots w v l) (hB : Box w b (.slice A bs.length cap) 75) (hr : Rd w A bs.length bs)
  (hvb : 0 < l.length → ∀ g off n c, v = .slice (some ⟨g, off, none⟩) n c → g ≠ b) (hl : l.length ≤ 64) (hbl : bs.length ≤ 100000) (hd : ∀ d ∈ l, d.n ≤ 9223372036854775807 ∧ d.l ≤ 9223372036854775807 ∧ d.c ≤ 9223372036854775807) :
  Calls Tryz.prog 222 #[v, .pointer (some ⟨b, 0, none⟩)] w fun e w' => e = .returned (.tuple #[]) ∧ CloR b (bs ++ (enc l.length ++ dotsB l)) w w' := by
 obtain ⟨V, vc, rfl⟩ := hv.form
 have HV := Lib.hid hv
 have HVB := Lib.hid hvb
 have HDM := Lib.hid hd
 have HBW := Lib.hid hB.lt
 have HX := Lib.hid hB
 have hb := hB.cell
 have hp := put_on (cap := cap) hr (l.length : Int) (by omega) (by omega)
 rw [Int.toNat_natCast] at hp
 obtain ⟨bs0, hbs0⟩ : ∃ x, bs ++ enc l.length = x := ⟨_, rfl⟩
 have HB0 : Hid (bs0.length ≤ 100010) := Lib.hid (by rw [← hbs0, List.length_append]; have := enc_len9 (n := l.length) (by omega); omega)
 have HE : Hid (bs ++ (enc l.length ++ dotsB l) = bs0 ++ dotsB l) := Lib.hid (by rw [← hbs0, List.append_assoc])
 rw [hbs0] at hp
 clear hv hvb hd hr hB hbs0 hbl
 go_enter Tryz.func222, Tryz.ntmps222
 go_wp2_with (go_at_call 160; refine hp.mono ?_; rintro e w2 ⟨v2, rfl, ho, hb2⟩; obtain ⟨A2, c2, rfl, -⟩ := own_read ho; have HO2 := Lib.hid ho; have HB2 := Lib.hid hb2; have HX2 : Hid (Box w2 b (.slice A bs.length cap) 75) := Lib.hid (HX.out.kept (Kept.of_below hb2 (Nat.le_refl _)) (by simp : b ∉ [])); clear hb; have hb := HX2.out.cell; have hf := HX2.out.free; clear ho hb2)
 clear hp hb hf
 obtain ⟨w3, hw3⟩ : ∃ y, w2.setCell ⟨b, 0, none⟩ (.slice A2 bs0.length c2) = y := ⟨_, rfl⟩
 have HK3 : Hid (Kept [b] w w3) := Lib.hid (by rw [← hw3]; exact ((Kept.of_below (rows := [b]) HB2.out (Nat.le_refl _)).setCell (.inl (by simp)) _))
 have HX3 : Hid (Box w3 b (.slice A2 bs0.length c2) 75) := Lib.hid (by rw [← hw3]; exact HX2.out.set_ _)
 have HO3 : Hid (Own w3 w.heap.size (.slice A2 bs0.length c2) bs0) := Lib.hid (by rw [← hw3]; exact Own.setOld HBW.out HO2.out rfl _)
 simp only [hw3]
 clear hw3 HX HO2 HB2 HX2
 go_loopw [11] (fun i wr => ∃ (k : Nat) (A : Option Addr) (c : Nat), k ≤ l.length ∧ i = .int .i64 (k : Int) ∧ Hid (Kept [b] w wr) ∧ Hid (Box wr b (.slice A (bs0 ++ dotsB (l.take k)).length c) 75) ∧ Hid (Own wr w.heap.size (.slice A (bs0 ++ dotsB (l.take k)).length c) (bs0 ++ dotsB (l.take k)))) (fun i _ => l.length - (intOf i).toNat)
 case atStart =>
  refine ⟨0, A2, c2, by omega, rfl, HK3, ?_⟩
  rw [show bs0 ++ dotsB (l.take 0) = bs0 by simp [dotsB]]
  exact ⟨HX3, HO3⟩
 case round =>
  obtain ⟨k, A1, c1, hk, rfl, HK, HXr, HOr⟩ := hrel
  by_cases hlt : k < l.length
  ·obtain ⟨vb, off, rfl, hbl, hc⟩ := dot_cells HV.out (by omega)
   obtain ⟨q1, q2, q3⟩ := hc k hlt
   obtain ⟨⟨dn, dl, dc⟩, hx⟩ : ∃ x, l[k]'hlt = x := ⟨_, rfl⟩
   rw [hx] at q1 q2 q3
   have hne : vb ∉ [b] := by have := HVB.out (by omega) vb off _ _ rfl; simpa using this
   have d1 := (World.cell?_of_block (a := ⟨vb, off + k * 3, none⟩) (HK.out.block vb hbl hne)).trans q1
   have d2 := (World.cell?_of_block (a := ⟨vb, off + k * 3 + 1, none⟩) (HK.out.block vb hbl hne)).trans q2
   have d3 := (World.cell?_of_block (a := ⟨vb, off + k * 3 + 2, none⟩) (HK.out.block vb hbl hne)).trans q3
   have HTK : Hid (dotsB (l.take (k + 1)) = dotsB (l.take k) ++ dotB ⟨dn, dl, dc⟩) := Lib.hid (by rw [take_dots hlt, hx])
   obtain ⟨hdn, hdl, hdc⟩ : dn ≤ 9223372036854775807 ∧ dl ≤ 9223372036854775807 ∧ dc ≤ 9223372036854775807 := by have := HDM.out (l[k]'hlt) (List.getElem_mem hlt); rw [hx] at this; exact this
   have hlen : (dotsB (l.take k)).length ≤ 27 * 64 := Nat.le_trans (dots_le _ (fun d h => HDM.out d (List.mem_of_mem_take h))) (by rw [List.length_take]; omega)
   obtain ⟨bs1, hbs1⟩ : ∃ x, bs0 ++ dotsB (l.take k) = x := ⟨_, rfl⟩
   have HBS1 : Hid (bs1.length ≤ 110000) := Lib.hid (by rw [← hbs1, List.length_append]; have := HB0.out; omega)
   have HN1 : Hid (bs0 ++ dotsB (l.take (k + 1)) = ((bs1 ++ enc dn.toNat) ++ enc dl.toNat) ++ enc dc.toNat) := Lib.hid (by rw [HTK.out, ← hbs1]; simp [dotB])
   rw [hbs1] at HXr HOr
   clear hc q1 q2 q3 hx hbl hbs1 hlen HTK hne
   obtain ⟨w4, hw4⟩ : ∃ y, wr.alloc (.cells #[.int .i64 dn, .int .i64 dl, .int .i64 dc] 90) = y := ⟨_, rfl⟩
   have HK4 : Hid (Kept [b] w w4) := Lib.hid (by rw [← hw4]; exact HK.out.alloc _)
   have HX4 : Hid (Box w4 b (.slice A1 bs1.length c1) 75) := Lib.hid (by rw [← hw4]; exact HXr.out.alloc _)
   have HO4 : Hid (Own w4 w.heap.size (.slice A1 bs1.length c1) bs1) := Lib.hid (by rw [← hw4]; exact HOr.out.alloc _)
   have HP : Hid (w4.cell? ⟨wr.heap.size, 0, none⟩ = some (.int .i64 dn) ∧ w4.cell? ⟨wr.heap.size, 1, none⟩ = some (.int .i64 dl) ∧ w4.cell? ⟨wr.heap.size, 2, none⟩ = some (.int .i64 dc)) := Lib.hid (by rw [← hw4]; exact tri_at wr _ _ _ 90 _ rfl)
   go_upto_region 4 with fail
   have HS4 : Hid (wr.heap.size < w4.heap.size) := Lib.hid (by rw [← hw4]; simp)
   have HZ4 : Hid (w.heap.size ≤ w4.heap.size) := Lib.hid HK4.out.size
   have HR4 : Hid (Rd w4 A1 bs1.length bs1) := Lib.hid (HO4.out.rdOf rfl)
   have hne3 : wr.heap.size ≠ b := by have := HBW.out; have := HK.out.size; omega
   obtain ⟨p0, p1, p2⟩ := HP.out
   have hbc0 := HX4.out.cell
   clear hw4 d1 d2 d3
   refine hstart (S := fun u => u.cell? ⟨wr.heap.size, 0, none⟩ = some (.int .i64 dn) ∧ u.cell? ⟨wr.heap.size, 1, none⟩ = some (.int .i64 dl) ∧ u.cell? ⟨wr.heap.size, 2, none⟩ = some (.int .i64 dc)) (by kernel_rfl) (by repeat (first | exact PG.body | refine PG.then_ ?_ | refine PG.inBlock ?_)) ?_ (fun hPF hHeld => ?_)
   ·exact ⟨p0, p1, p2⟩
   refine htake (i := 1) (v := .pointer (some ⟨wr.heap.size, 0, none⟩)) rfl (by kernel_rfl) (by kernel_rfl) (by kernel_rfl) hPF (Or.inl ⟨by kernel_rfl, ?_⟩) hHeld ?_
   ·intro u hS; obtain ⟨p0, p1, p2⟩ := hS; go_simp
   refine htake (i := 2) (v := .int .i64 dn) rfl (by kernel_rfl) (by kernel_rfl) (by kernel_rfl) hPF (Or.inl ⟨by kernel_rfl, ?_⟩) hHeld ?_
   ·intro u hS; obtain ⟨p0, p1, p2⟩ := hS; go_simp
   refine htake (i := 4) (v := .pointer (some ⟨wr.heap.size, 1, none⟩)) rfl (by kernel_rfl) (by kernel_rfl) (by kernel_rfl) hPF (Or.inl ⟨by kernel_rfl, ?_⟩) hHeld ?_
   ·intro u hS; obtain ⟨p0, p1, p2⟩ := hS; go_simp
   refine htake (i := 5) (v := .int .i64 dl) rfl (by kernel_rfl) (by kernel_rfl) (by kernel_rfl) hPF (Or.inl ⟨by kernel_rfl, ?_⟩) hHeld ?_
   ·intro u hS; obtain ⟨p0, p1, p2⟩ := hS; go_simp
   refine htake (i := 7) (v := .pointer (some ⟨wr.heap.size, 2, none⟩)) rfl (by kernel_rfl) (by kernel_rfl) (by kernel_rfl) hPF (Or.inl ⟨by kernel_rfl, ?_⟩) hHeld ?_
   ·intro u hS; obtain ⟨p0, p1, p2⟩ := hS; go_simp
   refine htake (i := 8) (v := .int .i64 dc) rfl (by kernel_rfl) (by kernel_rfl) (by kernel_rfl) hPF (Or.inl ⟨by kernel_rfl, ?_⟩) hHeld ?_
   ·intro u hS; obtain ⟨p0, p1, p2⟩ := hS; go_simp
   refine wpAnyH_ready (rs := [0]) (by kernel_rfl) (by simp) ?_
   refine AllReadyH.cons (i := 0) rfl (fun K hK => ?_) AllReadyH.nil
   go_simp
   refine hK.out _ _ ?_ (fun hHeld => ?_)
   ·exact ⟨p0, p1, p2⟩
   clear hK K
   refine wpAnyH_ready (rs := [3]) (by kernel_rfl) (by simp) ?_
   refine AllReadyH.cons (i := 3) rfl (fun K hK => ?_) AllReadyH.nil
   go_simp
   go_at_call 160
   refine (put_on (w := w4.drew) HR4.out dn (Nat.le_trans HBS1.out (by decide)) hdn).mono ?_
   rintro e w5 ⟨v5, rfl, ho, hb⟩
   obtain ⟨b5, hbe⟩ : ∃ x, bs1 ++ enc dn.toNat = x := ⟨_, rfl⟩
   have HL5 : Hid (b5.length ≤ 110009) := Lib.hid (by rw [← hbe, List.length_append]; have := enc_le hdn; have := HBS1.out; omega)
   rw [hbe] at ho
   have HN5 := Lib.hid hbe
   obtain ⟨A5, c5, rfl, hr⟩ := own_read ho
   have hb' : Below w4.heap.size w4 w5 := (Below.refl w4.heap.size w4).drew.trans hb
   have HR5 := Lib.hid hr
   have HO5 : Hid (Own w5 w.heap.size _ _) := Lib.hid (ho.base HZ4.out)
   have HK5 : Hid (Kept [b] w w5) := Lib.hid (HK4.out.trans (Kept.of_below (rows := [b]) hb' (Nat.le_refl _)) (fun x hx => .inl hx))
   have HX5 : Hid (Box w5 b _ 75) := Lib.hid (HX4.out.kept (Kept.of_below hb' (Nat.le_refl _)) (by simp : b ∉ []))
   have HZ5 : Hid (w.heap.size ≤ w5.heap.size) := Lib.hid (Nat.le_trans HZ4.out hb'.size)
   have HS5 : Hid (wr.heap.size < w5.heap.size) := Lib.hid (Nat.lt_of_lt_of_le HS4.out hb'.size)
   have q0 := old_cell hb' HS4.out p0
   have q1 := old_cell hb' HS4.out p1
   have q2 := old_cell hb' HS4.out p2
   clear ho hr hb hb' hbe
   refine hK.out _ _ ?_ (fun hHeld => ?_)
   ·exact ⟨q0, q1, q2⟩
   clear hK K
   refine wpAnyH_ready (rs := [6]) (by kernel_rfl) (by simp) ?_
   refine AllReadyH.cons (i := 6) rfl (fun K hK => ?_) AllReadyH.nil
   go_simp
   go_at_call 160
   refine (put_on (w := w5) HR5.out dl (Nat.le_trans HL5.out (by decide)) hdl).mono ?_
   rintro e w6 ⟨v6, rfl, ho, hb⟩
   obtain ⟨b6, hbe⟩ : ∃ x, b5 ++ enc dl.toNat = x := ⟨_, rfl⟩
   have HL6 : Hid (b6.length ≤ 110018) := Lib.hid (by rw [← hbe, List.length_append]; have := enc_le hdl; have := HL5.out; omega)
   rw [hbe] at ho
   have HN6 := Lib.hid hbe
   obtain ⟨A6, c6, rfl, hr⟩ := own_read ho
   have hb' : Below w5.heap.size w5 w6 := hb
   have HR6 := Lib.hid hr
   have HO6 : Hid (Own w6 w.heap.size _ _) := Lib.hid (ho.base HZ5.out)
   have HK6 : Hid (Kept [b] w w6) := Lib.hid (HK5.out.trans (Kept.of_below (rows := [b]) hb' (Nat.le_refl _)) (fun x hx => .inl hx))
   have HX6 : Hid (Box w6 b _ 75) := Lib.hid (HX5.out.kept (Kept.of_below hb' (Nat.le_refl _)) (by simp : b ∉ []))
   have HZ6 : Hid (w.heap.size ≤ w6.heap.size) := Lib.hid (Nat.le_trans HZ5.out hb'.size)
   have HS6 : Hid (wr.heap.size < w6.heap.size) := Lib.hid (Nat.lt_of_lt_of_le HS5.out hb'.size)
   have r0 := old_cell hb' HS5.out q0
   have r1 := old_cell hb' HS5.out q1
   have r2 := old_cell hb' HS5.out q2
   clear ho hr hb hb' hbe
   refine hK.out _ _ ?_ (fun hHeld => ?_)
   ·exact ⟨r0, r1, r2⟩
   clear hK K
   refine wpAnyH_ready (rs := [9]) (by kernel_rfl) (by simp) ?_
   refine AllReadyH.cons (i := 9) rfl (fun K hK => ?_) AllReadyH.nil
   go_simp
   go_at_call 160
   refine (put_on (w := w6) HR6.out dc (Nat.le_trans HL6.out (by decide)) hdc).mono ?_
   rintro e w7 ⟨v7, rfl, ho, hb⟩
   obtain ⟨b7, hbe⟩ : ∃ x, b6 ++ enc dc.toNat = x := ⟨_, rfl⟩
   have HL7 : Hid (b7.length ≤ 110027) := Lib.hid (by rw [← hbe, List.length_append]; have := enc_le hdc; have := HL6.out; omega)
   rw [hbe] at ho
   have HN7 := Lib.hid hbe
   obtain ⟨A7, c7, rfl, hr⟩ := own_read ho
   have hb' : Below w6.heap.size w6 w7 := hb
   have HR7 := Lib.hid hr
   have HO7 : Hid (Own w7 w.heap.size _ _) := Lib.hid (ho.base HZ6.out)
   have HK7 : Hid (Kept [b] w w7) := Lib.hid (HK6.out.trans (Kept.of_below (rows := [b]) hb' (Nat.le_refl _)) (fun x hx => .inl hx))
   have HX7 : Hid (Box w7 b _ 75) := Lib.hid (HX6.out.kept (Kept.of_below hb' (Nat.le_refl _)) (by simp : b ∉ []))
   have HZ7 : Hid (w.heap.size ≤ w7.heap.size) := Lib.hid (Nat.le_trans HZ6.out hb'.size)
   have HS7 : Hid (wr.heap.size < w7.heap.size) := Lib.hid (Nat.lt_of_lt_of_le HS6.out hb'.size)
   have s0 := old_cell hb' HS6.out r0
   have s1 := old_cell hb' HS6.out r1
   have s2 := old_cell hb' HS6.out r2
   clear ho hr hb hb' hbe
   have hf := HX7.out.free
   have hbc := HX7.out.cell
   refine hK.out _ _ ?_ (fun hHeld => ?_)
   ·exact ⟨s0, s1, s2⟩
   clear hK K
   refine wpAnyH_ready (rs := [10]) (by kernel_rfl) (by simp) ?_
   refine AllReadyH.cons (i := 10) rfl (fun K hK => ?_) AllReadyH.nil
   go_simp
   refine hK.out _ _ ?_ (fun hHeld => ?_)
   ·exact ⟨(far_cell hne3 _).trans s0, (far_cell hne3 _).trans s1, (far_cell hne3 _).trans s2⟩
   clear hK K
   refine wpAnyH_done (by kernel_rfl) ?_ _
   obtain ⟨w8, hw8⟩ : ∃ y, w7.setCell ⟨b, 0, none⟩ (.slice A7 b7.length c7) = y := ⟨_, rfl⟩
   have HK8 : Hid (Kept [b] w w8) := Lib.hid (by rw [← hw8]; exact HK7.out.setCell (.inl (by simp)) _)
   have HX8 : Hid (Box w8 b (.slice A7 b7.length c7) 75) := Lib.hid (by rw [← hw8]; exact HX7.out.set_ _)
   have HO8 : Hid (Own w8 w.heap.size (.slice A7 b7.length c7) b7) := Lib.hid (by rw [← hw8]; exact Own.setOld HBW.out HO7.out rfl _)
   have HB7 : bs0 ++ dotsB (l.take (k + 1)) = b7 := by rw [HN1.out, HN5.out, HN6.out, HN7.out]
   simp only [hw8]
   clear hw8 hbc hf hbc0
   go_wp2_with fail
   exact ⟨⟨k + 1, A7, c7, by omega, by go_num, HK8, by rw [HB7]; exact HX8, by rw [HB7]; exact HO8⟩, by simp [intOf]; omega⟩
  ·have hkl : k = l.length := by omega
   subst hkl
   rw [List.take_length] at HXr HOr
   go_wp2_with fail
   go_end0
   rw [HE.out]
   exact ⟨rfl, HK.out, A1, c1, HXr.out, HOr.out⟩
theorem ms_may : ∀ (o : Option Dt) (l : List Dt), canMs o l = true → ∀ d ∈ l, mayD d = true
 | _, [], _, d, h => by simp at h
 | none, m :: r, h, d, hd => by
  simp only [canMs, Bool.and_eq_true] at h
  rcases List.mem_cons.1 hd with rfl | hd
  ·exact h.1
  ·exact ms_may _ r h.2 d hd
 | some x, m :: r, h, d, hd => by
  simp only [canMs, Bool.and_eq_true] at h
  rcases List.mem_cons.1 hd with rfl | hd
  ·exact h.1.1
  ·exact ms_may _ r h.2 d hd
theorem cl_may (ms : List Dt) : ∀ (o : Option Dt) (l : List Dt), canCl ms o l = true → ∀ d ∈ l, mayD d = true
 | _, [], _, d, h => by simp at h
 | none, m :: r, h, d, hd => by
  simp only [canCl, Bool.and_eq_true] at h
  rcases List.mem_cons.1 hd with rfl | hd
  ·exact h.1.1
  ·exact cl_may ms _ r h.2 d hd
 | some x, m :: r, h, d, hd => by
  simp only [canCl, Bool.and_eq_true] at h
  rcases List.mem_cons.1 hd with rfl | hd
  ·exact h.1.1.1
  ·exact cl_may ms _ r h.2 d hd
theorem may_lt {d : Dt} (h : mayD d = true) : d.n ≤ 9223372036854775807 ∧ d.l ≤ 9223372036854775807 ∧ d.c ≤ 9223372036854775807 := by
 simp only [mayD, Bool.and_eq_true, decide_eq_true_eq] at h
 omega
theorem dots_kept {rows : List Nat} {w w' : World} {v : Value} {l : List Dt} (h : Dots w v l) (k : Kept rows w w') (hr : 0 < l.length → ∀ g off n c, v = .slice (some ⟨g, off, none⟩) n c → g ∉ rows) : Dots w' v l := by
 obtain ⟨hm, A, c, rfl, h1⟩ := h
 refine ⟨hm, A, c, rfl, fun hn => ?_⟩
 obtain ⟨b, off, rfl, hlt, hc⟩ := h1 hn
 exact ⟨b, off, rfl, Nat.lt_of_lt_of_le hlt k.size, fun i hi j u hu => (World.cell?_of_block (k.block b hlt (hr hn b off _ _ rfl))).trans (hc i hi j u hu)⟩
def EncR (x : Cx) (bs : List Nat) (w : World) (e : Ending) (w' : World) : Prop := ∃ v, Below w.heap.size w w' ∧ e = .returned (.tuple #[v, .int .i64 (if canX x then 0 else 30)]) ∧ (canX x = true → Own w' w.heap.size v (bs ++ ctxB x))
set_option maxHeartbeats 8000000 in
theorem enc_any (x : Cx) (mv cv : Value) (A : Option Addr) (cap : Nat) (bs : List Nat) (w : World) (hm : Dots w mv x.ms) (hc : Dots w cv x.cl) (hr : Rd w A bs.length bs) (hbl : bs.length ≤ 90000) :
  Calls Tryz.prog 162 #[.slice A bs.length cap, .agg #[mv, cv]] w (EncR x bs w) := by
 obtain ⟨M, mc, rfl⟩ := hm.form
 obtain ⟨C, cc, rfl⟩ := hc.form
 obtain ⟨ms, cl⟩ := x
 dsimp only at hm hc ⊢
 obtain ⟨w0, hw0⟩ : ∃ y, w.alloc (.cells #[.slice A bs.length cap] 75) = y := ⟨_, rfl⟩
 have HS0 : Hid (w0.heap.size = w.heap.size + 1) := Lib.hid (by rw [← hw0]; simp)
 obtain ⟨w1, hw1⟩ : ∃ y, w0.alloc (.cells #[.slice M ms.length mc, .slice C cl.length cc] 30) = y := ⟨_, rfl⟩
 have HC0 : Hid (Dots w (.slice C cl.length cc) cl) := Lib.hid hc
 have HCV : Hid (0 < cl.length → ∀ g off n c, Value.slice C cl.length cc = .slice (some ⟨g, off, none⟩) n c → g ≠ w.heap.size) := Lib.hid (fun h0 g off n c e => by
  obtain ⟨b', off', e1, hlt, _⟩ := dot_cells hc h0
  injection e with e2 _ _
  rw [e1] at e2; injection e2 with e3; injection e3 with e4 _ _
  omega)
 have HS1 : Hid (w1.heap.size = w.heap.size + 2) := Lib.hid (by rw [← hw1]; simp [HS0.out])
 have HB1 : Hid (Below w.heap.size w w1) := Lib.hid (by rw [← hw1, ← hw0]; exact ((Below.refl _ _).alloc (Nat.le_refl _) _).alloc (by simp) _)
 have HX1 : Hid (Box w1 w.heap.size (.slice A bs.length cap) 75) := Lib.hid (by rw [← hw1, ← hw0]; exact (Box.new w _ 75).alloc _)
 have HP1 : Hid (w1.cell? ⟨w0.heap.size, 0, none⟩ = some (.slice M ms.length mc) ∧ w1.cell? ⟨w0.heap.size, 1, none⟩ = some (.slice C cl.length cc)) := Lib.hid (by rw [← hw1]; exact pair_at w0 _ _ 30 _ rfl)
 have HM1 := Lib.hid (hm.below HB1.out (Nat.le_refl _))
 have HC1 := Lib.hid (hc.below HB1.out (Nat.le_refl _))
 have HR1 := Lib.hid (hr.below HB1.out (Nat.le_refl _))
 have hca := canX_any ⟨ms, cl⟩ _ _ w1 HM1.out HC1.out
 obtain ⟨g0, g1⟩ := HP1.out
 have HQ1 : Hid (w0.heap.size < w1.heap.size) := Lib.hid (by rw [← hw1]; simp)
 obtain ⟨ok, hok⟩ : ∃ y, canX ⟨ms, cl⟩ = y := ⟨_, rfl⟩
 rw [hok] at hca
 unfold EncR
 rw [hok]
 have HOK := Lib.hid hok
 clear hm hc hr hok
 cases ok
 ·go_enter Tryz.func162, Tryz.ntmps162
  go_wp2_with (go_at_call 219; refine hca.mono ?_; rintro e w2 ⟨rfl, hb⟩; have HB2 := Lib.hid hb; have k0 := old_cell hb HQ1.out g0; have k1 := old_cell hb HQ1.out g1; clear hb g0 g1)
  go_ret2
  exact ⟨HB1.out.trans (HB2.out.mono HB1.out.size), _, rfl⟩
 obtain ⟨hl1, hl2, hm1, hm2⟩ : ms.length ≤ 64 ∧ cl.length ≤ 64 ∧ (∀ d ∈ ms, mayD d = true) ∧ (∀ d ∈ cl, mayD d = true) := by
  have h := HOK.out
  simp only [canX, Bool.and_eq_true, decide_eq_true_eq] at h
  exact ⟨h.1.1.1, h.1.1.2, ms_may _ _ h.1.2, cl_may _ _ _ h.2⟩
 have HD1 : Hid (∀ d ∈ ms, d.n ≤ 9223372036854775807 ∧ d.l ≤ 9223372036854775807 ∧ d.c ≤ 9223372036854775807) := Lib.hid (fun d h => may_lt (hm1 d h))
 have HD2 : Hid (∀ d ∈ cl, d.n ≤ 9223372036854775807 ∧ d.l ≤ 9223372036854775807 ∧ d.c ≤ 9223372036854775807) := Lib.hid (fun d h => may_lt (hm2 d h))
 clear hm1 hm2
 go_enter Tryz.func162, Tryz.ntmps162
 go_wp2_with (go_at_call 219; refine hca.mono ?_; rintro e w2 ⟨rfl, hb⟩; have HB2 := Lib.hid hb; have k0 := old_cell hb HQ1.out g0; have k1 := old_cell hb HQ1.out g1; clear hb g0 g1)
 have HK2 : Hid (Kept [w.heap.size] w w2) := Lib.hid (Kept.of_below (HB1.out.trans (HB2.out.mono HB1.out.size)) (Nat.le_refl _))
 have HX2 : Hid (Box w2 w.heap.size (.slice A bs.length cap) 75) := Lib.hid (HX1.out.kept (Kept.of_below HB2.out (Nat.le_refl _)) (by simp : w.heap.size ∉ []))
 have HM2 := Lib.hid (HM1.out.below HB2.out (Nat.le_refl _))
 have HC2 := Lib.hid (HC1.out.below HB2.out (Nat.le_refl _))
 have HR2 := Lib.hid (HR1.out.below HB2.out (Nat.le_refl _))
 have HQ2 : Hid (w0.heap.size < w2.heap.size) := Lib.hid (Nat.lt_of_lt_of_le HQ1.out HB2.out.size)
 have HP2 : Hid (w2.cell? ⟨w0.heap.size, 1, none⟩ = some (.slice C cl.length cc)) := Lib.hid k1
 clear hca k0 k1 hw0 hw1
 go_loopw [7, 17] (fun jv kv wr => ∃ (k : Nat), k ≤ ms.length ∧ kv = .int .i64 (k : Int) ∧ Hid (Below w2.heap.size w2 wr) ∧ Hid (OwnS 90 3 dotC wr w2.heap.size jv (ms.take k))) (fun _ kv _ => ms.length - (intOf kv).toNat)
 case atStart => exact ⟨0, by omega, rfl, Lib.hid (Below.refl _ _), Lib.hid (OwnS.nil _ _)⟩
 case round =>
  rename_i u7
  obtain ⟨k, hk, rfl, HB, HO⟩ := hrel
  by_cases hlt : k < ms.length
  ·obtain ⟨vb, off, rfl, hbl2, hc⟩ := dot_cells HM2.out (by omega)
   obtain ⟨q1, q2, q3⟩ := hc k hlt
   obtain ⟨⟨dn, dl, dc⟩, hx⟩ : ∃ x, ms[k]'hlt = x := ⟨_, rfl⟩
   rw [hx] at q1 q2 q3
   have d1 := (HB.out.cell (p := ⟨vb, off + k * 3, none⟩) hbl2).trans q1
   have d2 := (HB.out.cell (p := ⟨vb, off + k * 3 + 1, none⟩) hbl2).trans q2
   have d3 := (HB.out.cell (p := ⟨vb, off + k * 3 + 2, none⟩) hbl2).trans q3
   have HTK : Hid (ms.take (k + 1) = ms.take k ++ [⟨dn, dl, dc⟩]) := Lib.hid (by rw [List.take_succ_eq_append_getElem hlt, hx])
   have HLT : Hid ((ms.take k).length ≤ 1000000) := Lib.hid (by rw [List.length_take]; omega)
   clear hc q1 q2 q3 hx hbl2
   obtain ⟨w4, hw4⟩ : ∃ y, wr.alloc (.cells #[.int .i64 dn, .int .i64 dl, .int .i64 dc] 150) = y := ⟨_, rfl⟩
   have HB4 : Hid (Below w2.heap.size w2 w4) := Lib.hid (by rw [← hw4]; exact HB.out.alloc HB.out.size _)
   have HO4 := Lib.hid (show OwnS 90 3 dotC w4 w2.heap.size _ (ms.take k) by rw [← hw4]; exact HO.out.below ((Below.refl wr.heap.size wr).alloc (Nat.le_refl _) _) (Nat.le_refl _))
   have HP4 : Hid (w4.cell? ⟨wr.heap.size, 0, none⟩ = some (.int .i64 dn) ∧ w4.cell? ⟨wr.heap.size, 1, none⟩ = some (.int .i64 dl) ∧ w4.cell? ⟨wr.heap.size, 2, none⟩ = some (.int .i64 dc)) := Lib.hid (by rw [← hw4]; exact tri_at wr _ _ _ 150 _ rfl)
   have hfi := first_any ⟨dn, dl, dc⟩ w4
   dsimp only [dotV] at hfi
   go_upto_region 8 with fail
   obtain ⟨p0, p1, p2⟩ := HP4.out
   clear hw4 d1 d2 d3
   go_wp2_with fail
   go_at_call 223
   refine hfi.mono ?_
   rintro e w5 ⟨rfl, hb⟩
   have HB5 := Lib.hid (HB4.out.trans (hb.mono HB4.out.size))
   have HO5 := Lib.hid (HO4.out.below hb (Nat.le_refl _))
   have HB6 := Lib.hid (HB5.out.alloc HB5.out.size (.cells #[.int .i64 dn, .int .i64 dl, .int .i64 dc] 90))
   have HO6 := Lib.hid (HO5.out.below ((Below.refl w5.heap.size w5).alloc (Nat.le_refl _) (.cells #[.int .i64 dn, .int .i64 dl, .int .i64 dc] 90)) (Nat.le_refl _))
   have HN6 := Lib.hid (Bk.new w5 (dotC ⟨dn, dl, dc⟩) 90 rfl)
   clear hb
   go_wp2_with (at_builtin; refine wpList_appS rfl _ _ 28 rfl Tryz.underlying28 info90 rfl (by decide) dotC_len dotC_one (by decide) rfl HO6.out (g := w5.heap.size) (c := 1) (y := ⟨dn, dl, dc⟩) rfl (fun j u hj => (HN6.out j u hj).1) HLT.out HB6.out.size ?_; intro v' w7 hown' hb7 _; have HO7 := Lib.hid hown'; have HB7 := Lib.hid (HB6.out.trans hb7); clear hown' hb7)
   exact ⟨⟨k + 1, by omega, by go_num, HB7, by rw [HTK.out]; exact HO7⟩, by simp [intOf]; omega⟩
  ·have hkl : k = ms.length := by omega
   subst hkl
   rw [List.take_length] at HO
   obtain ⟨J, jc, rfl⟩ := HO.out.form
   have HJ : Hid (Dots wr (.slice J ms.length jc) ms) := Lib.hid (HO.out.sl dotC_len (by omega))
   have HX3 : Hid (Box wr w.heap.size (.slice A bs.length cap) 75) := Lib.hid (HX2.out.kept (Kept.of_below HB.out (Nat.le_refl _)) (by simp : w.heap.size ∉ []))
   have HK3 : Hid (Kept [w.heap.size] w2 wr) := Lib.hid (Kept.of_below HB.out (Nat.le_refl _))
   obtain ⟨bs2, hbs2⟩ : ∃ y, bs ++ (enc ms.length ++ dotsB ms) = y := ⟨_, rfl⟩
   have HL2 : Hid (bs2.length ≤ 100000) := Lib.hid (by
    rw [← hbs2]; simp only [List.length_append]
    have := enc_len9 (n := ms.length) (by omega)
    have := dots_le _ HD1.out
    omega)
   have HWS : Hid (w.heap.size < w2.heap.size) := Lib.hid (by have := HQ2.out; have := HS0.out; omega)
   have hc1 := clo_any ms _ w.heap.size A cap bs wr HJ.out HX3.out (HR2.out.below HB.out (Nat.le_refl _)) (fun _ g off n c e => by have := HO.out.block_ge g (by rw [e]; rfl); have := HWS.out; omega) hl1 (by omega) HD1.out
   unfold CloR at hc1
   rw [hbs2] at hc1
   have HBS := Lib.hid hbs2
   clear hbs2
   go_wp2_with fail
   go_at_call 222
   refine hc1.mono ?_
   rintro e w4 ⟨rfl, hk4, A4, c4, hx4, ho4⟩
   have HK4 : Hid (Kept [w.heap.size] w w4) := Lib.hid ((HK2.out.then_ HK3.out).then_ hk4)
   have k1 : w4.cell? ⟨w0.heap.size, 1, none⟩ = some (.slice C cl.length cc) := (World.cell?_of_block (a := ⟨w0.heap.size, 1, none⟩) ((HK3.out.then_ hk4).block w0.heap.size HQ2.out (by have := HS0.out; simp; omega))).trans HP2.out
   have HC4 : Hid (Dots w4 (.slice C cl.length cc) cl) := Lib.hid (dots_kept HC0.out HK4.out (fun h0 g off n c e => by have := HCV.out h0 g off n c e; simpa using this))
   have hc2 := clo_any cl _ w.heap.size A4 c4 bs2 w4 HC4.out hx4 (ho4.rdOf rfl) HCV.out hl2 HL2.out HD2.out
   unfold CloR at hc2
   have HBS3 : Hid (bs2 ++ (enc cl.length ++ dotsB cl) = bs ++ ctxB ⟨ms, cl⟩) := Lib.hid (by rw [← HBS.out]; simp [ctxB])
   rw [HBS3.out] at hc2
   have HS4 : Hid (w.heap.size ≤ w4.heap.size) := Lib.hid HK4.out.size
   clear hk4 hx4 ho4 hc1
   go_wp2_with (go_at_call 222; refine hc2.mono ?_; rintro e w5 ⟨rfl, hk5, A5, c5, hx5, ho5⟩; have z0 := hx5.cell; have HK5 : Hid (Kept [w.heap.size] w w5) := Lib.hid (HK4.out.then_ hk5); have HO5 := Lib.hid (ho5.base HS4.out); clear hk5 hx5 ho5)
   go_ret2
   exact ⟨HK5.out.below (Nat.le_refl _) (by simp), _, rfl, by have := HO5.out; rw [List.length_append] at this; exact this⟩
end Go.Proofs.YtpdedfpacklnoaaGreatDoor
