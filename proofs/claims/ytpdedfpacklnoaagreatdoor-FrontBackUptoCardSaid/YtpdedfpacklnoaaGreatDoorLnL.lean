/- Contract of the document's line. -/
import Derived.Test.YtpdedfpacklnoaaGreatDoorML
namespace Go.Proofs.YtpdedfpacklnoaaGreatDoor
open Go.RowKit Go.BL Go.Ct Go.Sl Go.Fl

theorem bl_str (A : List UInt8) : I.bl ⟨A.toArray⟩ = nats A := rfl
theorem keyD_any (A : List UInt8) (hA : A.length ≤ 9223372036854775807) (w : World) : Calls Tryz.prog 49 #[.string ⟨A.toArray⟩] w fun e w' => e = .returned (.bool (keyL A)) ∧ w = w' := I.keyR_any ⟨A.toArray⟩ w hA
theorem key_any (A : List UInt8) (hA : A.length ≤ 9223372036854775807) (w : World) : Calls Tryz.prog 60 #[.string ⟨A.toArray⟩] w (RetV (.bool (keyL A)) w) := I.key_any ⟨A.toArray⟩ w hA
/-- A line, and whether it is one. -/
def LinR (o : Option Ln) (w : World) (e : Ending) (w' : World) : Prop := Below w.heap.size w w' ∧ ∃ x : Ln, e = .returned (.tuple #[lnV x, .bool o.isSome]) ∧ ∀ y, o = some y → x = y
theorem prt_len (b : Nat) : (prt b).length ≤ 20 := by
  have hs : (sgn b).length ≤ 1 := by unfold sgn; split <;> simp
  unfold prt
  split
  · simp
  · split
    · rw [List.length_append]; simp; omega
    · split
      · have h1 := dd_len 15 (rnd (hund (b % 9223372036854775808))) (by have := rnd_lt (r := hund (b % 9223372036854775808)); omega)
        have h2 : (pad (Lib.decDigits (rnd (hund (b % 9223372036854775808))))).length ≤ 16 := by unfold pad; rw [List.length_append, List.length_replicate]; omega
        rw [List.length_append]
        unfold dots
        rw [List.length_append, List.length_cons, List.length_take, List.length_drop]
        omega
      · simp
theorem itoa_len (m : Nat) (h : m ≤ 9223372036854775807) : (Lib.itoa (m : Int)).length ≤ 19 := by rw [itoa_nat]; exact dd_len 18 m (by omega)
theorem lineT_len (A : List UInt8) (m p : Nat) (h : m ≤ 9223372036854775807) : (lineT ⟨A, (m : Int), p⟩).length ≤ A.length + 50 := by
  have h1 := prt_len p
  have h2 := itoa_len m h
  unfold lineT
  simp only [List.length_append, List.length_cons, List.length_nil]
  omega
theorem two_le {D : List UInt8} {m v : Nat} (h : twoD D = some (m, v)) : m ≤ 1000000 ∧ v ≤ 9218868437227405312 := by
  unfold twoD at h
  split at h
  · cases hk : piecesL (cut1 32 D).1 with
    | none => rw [hk] at h; cases h
    | some k =>
      cases hv : priceT (cut1 32 D).2.1 with
      | none => rw [hk, hv] at h; cases h
      | some u =>
        rw [hk, hv] at h
        cases h
        exact ⟨(pieces_iff.1 hk).2.1, price_le hv⟩
  · cases h
set_option maxHeartbeats 8000000 in
set_option maxRecDepth 100000 in
theorem line_any (l : List UInt8) (hl : l.length ≤ 1073741824) (w : World) : Calls Tryz.prog 65 #[.string ⟨l.toArray⟩] w (LinR (lineD l) w) := by
  obtain ⟨w0, hw0⟩ : ∃ w0, w.alloc (.cells #[.string ⟨#[]⟩, .int .i64 0, .int .u64 0] 54) = w0 := ⟨_, rfl⟩
  have HB0 : Hid (Below w.heap.size w w0) := Lib.hid (by rw [← hw0]; exact (Below.refl _ _).alloc (Nat.le_refl _) _)
  have HS0 : Hid (w.heap.size < w0.heap.size) := Lib.hid (by rw [← hw0]; simp)
  have HR0 : Hid (Bk w0 w.heap.size [.string ⟨#[]⟩, .int .i64 0, .int .u64 0]) := Lib.hid (by rw [← hw0]; exact Bk.new w _ 54 rfl)
  go_enter Tryz.func65, Tryz.ntmps65
  go_wp2_with fail
  clear hw0
  go_loop [4] (fun j => ∃ k : Nat, j = .int .i64 (k : Int) ∧ k ≤ l.length ∧ Hid ((32 : UInt8) ∉ l.take k)) (fun j => l.length - (intOf j).toNat)
  case atStart => exact ⟨0, rfl, by omega, Lib.hid (by simp)⟩
  case round =>
    obtain ⟨k, rfl, hk, HN⟩ := hrel
    by_cases hlt : k < l.length
    · obtain ⟨x, hx⟩ : ∃ x, (⟨l.toArray⟩ : ByteArray)[k]'hlt = x := ⟨_, rfl⟩
      have Hx : Hid (l[k]? = some x) := Lib.hid (by rw [← hx, List.getElem?_eq_getElem hlt]; rfl)
      by_cases h32 : x = 32
      · subst h32
        have hc := cut1_hit HN.out Hx.out
        have s1 := sl_to l k (k : Int) rfl (by omega)
        have s2 := sl_from l (k + 1) ((k : Int) + 1) (by omega) (by omega)
        have hA1 : (l.take k).length ≤ 1073741824 := by rw [List.length_take]; omega
        have htw := two_any (l.drop (k + 1)) (by rw [List.length_drop]; omega)
        have hkey := keyD_any (l.take k) (by omega)
        have hT : lineD l = match twoD (l.drop (k + 1)) with
          | some (m, v) => if keyL (l.take k) = true ∧ lineT ⟨l.take k, (m : Int), v⟩ = l ++ [10] then some ⟨l.take k, (m : Int), v⟩ else none
          | none => none := by unfold lineD; rw [hc]; rfl
        obtain ⟨A, hA⟩ : ∃ A, l.take k = A := ⟨_, rfl⟩
        obtain ⟨D, hD⟩ : ∃ D, l.drop (k + 1) = D := ⟨_, rfl⟩
        obtain ⟨e1, he1⟩ : ∃ e, l ++ [10] = e := ⟨_, rfl⟩
        obtain ⟨ky, hky⟩ : ∃ e, keyL A = e := ⟨_, rfl⟩
        have hcat := cat_run l [10] e1 he1 (by simp; omega)
        rw [hA] at s1 hkey hT hA1
        rw [hD] at s2 htw hT
        rw [hky] at hkey hT
        rw [he1] at hT
        obtain ⟨o, ho⟩ : ∃ o, twoD D = o := ⟨_, rfl⟩
        have HTW := Lib.hid ho
        rw [ho] at htw hT
        obtain ⟨b, hb⟩ : ∃ b, o.isSome = b := ⟨_, rfl⟩
        unfold TwoR at htw
        rw [hb] at htw
        have HT := Lib.hid hT
        have HO := Lib.hid hb
        have HK := Lib.hid hky
        have HA1 := Lib.hid hA1
        clear hT hb ho hA hD hc hky he1 hA1
        go_wp2_with fail
        go_at_call 51
        refine (htw _).mono ?_
        rintro e w1 ⟨hb1, n, P, rfl, hP, hnP⟩
        have HB1 := Lib.hid (HB0.out.trans (hb1.mono HB0.out.size))
        have HR1 := Lib.hid (HR0.out.below hb1 HS0.out)
        have HS1 := Lib.hid (Nat.lt_of_lt_of_le HS0.out hb1.size)
        have HNP := Lib.hid hnP
        have HP := Lib.hid hP
        clear hb1 hnP hP htw
        obtain ⟨w2, hw2⟩ : ∃ w2, w1.alloc (.cells #[.string ⟨A.toArray⟩, .int .i64 n, .int .u64 (P : Int)] 54) = w2 := ⟨_, rfl⟩
        have HB2 : Hid (Below w.heap.size w w2) := Lib.hid (by rw [← hw2]; exact HB1.out.alloc HB1.out.size _)
        have HX : Hid (w1.heap.size < w2.heap.size) := Lib.hid (by rw [← hw2]; simp)
        have HR2 : Hid (Bk w2 w.heap.size [.string ⟨#[]⟩, .int .i64 0, .int .u64 0]) := Lib.hid (by rw [← hw2]; exact HR1.out.alloc _ HS1.out)
        obtain ⟨x0, x1, x2⟩ : w2.cell? ⟨w1.heap.size, 0, none⟩ = some (.string ⟨A.toArray⟩) ∧ w2.cell? ⟨w1.heap.size, 1, none⟩ = some (.int .i64 n) ∧ w2.cell? ⟨w1.heap.size, 2, none⟩ = some (.int .u64 (P : Int)) := by rw [← hw2]; exact tri_at w1 _ _ _ 54 _ rfl
        have HXB : Hid (Bk w2 w1.heap.size [.string ⟨A.toArray⟩, .int .i64 n, .int .u64 (P : Int)]) := Lib.hid (by rw [← hw2]; exact Bk.new w1 _ 54 rfl)
        have HS2 : Hid (w.heap.size < w2.heap.size) := Lib.hid (Nat.lt_trans HS1.out HX.out)
        have HNE : Hid ((⟨w.heap.size, 0, none⟩ : Addr).block ≠ w1.heap.size) := Lib.hid (Nat.ne_of_lt HS1.out)
        have HNE' : Hid ((⟨w.heap.size, 1, none⟩ : Addr).block ≠ w1.heap.size) := Lib.hid (Nat.ne_of_lt HS1.out)
        have HNE'' : Hid ((⟨w.heap.size, 2, none⟩ : Addr).block ≠ w1.heap.size) := Lib.hid (Nat.ne_of_lt HS1.out)
        obtain ⟨f0, f1, f2⟩ : (w2.frozen? ⟨w.heap.size, 0, none⟩ = false ∧ w2.frozen? ⟨w.heap.size, 1, none⟩ = false ∧ w2.frozen? ⟨w.heap.size, 2, none⟩ = false) := ⟨(HR2.out 0 _ rfl).2, (HR2.out 1 _ rfl).2, (HR2.out 2 _ rfl).2⟩
        obtain ⟨g0, g1, g2⟩ : (w2.cell? ⟨w.heap.size, 0, none⟩ = _ ∧ w2.cell? ⟨w.heap.size, 1, none⟩ = _ ∧ w2.cell? ⟨w.heap.size, 2, none⟩ = _) := ⟨(HR2.out 0 _ rfl).1, (HR2.out 1 _ rfl).1, (HR2.out 2 _ rfl).1⟩
        go_upto_region 7 with fail
        clear hw2
        cases b
        case false =>
          have HV : Hid (lineD l = none) := Lib.hid (by rw [HT.out]; cases o with
            | none => rfl
            | some v => have := HO.out; cases this)
          refine hstart (S := fun u => u.cell? ⟨w1.heap.size, 0, none⟩ = some (.string ⟨A.toArray⟩) ∧ u.cell? ⟨w1.heap.size, 1, none⟩ = some (.int .i64 n) ∧ u.cell? ⟨w1.heap.size, 2, none⟩ = some (.int .u64 (P : Int))) (by kernel_rfl) (by repeat (first | exact PG.body | refine PG.then_ ?_ | refine PG.inBlock ?_)) ?_ (fun hPF hHeld => ?_)
          · exact ⟨x0, x1, x2⟩
          refine htake (i := 0) (v := .agg #[.string ⟨A.toArray⟩, .int .i64 n, .int .u64 (P : Int)]) rfl (by kernel_rfl) (by kernel_rfl) (by kernel_rfl) hPF (Or.inl ⟨by kernel_rfl, ?_⟩) hHeld ?_
          · intro u hS; obtain ⟨p0, p1, p2⟩ := hS; go_simp
          refine htake (i := 1) (v := .bool false) rfl (by kernel_rfl) (by kernel_rfl) (by kernel_rfl) hPF (Or.inl ⟨by kernel_rfl, ?_⟩) hHeld ?_
          · intro u hS; obtain ⟨p0, p1, p2⟩ := hS; go_simp
          refine htake (i := 2) (v := .bool false) rfl (by kernel_rfl) (by kernel_rfl) (by kernel_rfl) hPF (Or.inl ⟨by kernel_rfl, ?_⟩) hHeld ?_
          · intro u hS; obtain ⟨p0, p1, p2⟩ := hS; go_simp
          refine htake (i := 3) (v := undef) rfl (by kernel_rfl) (by kernel_rfl) (by kernel_rfl) hPF (Or.inr ⟨by kernel_rfl, rfl⟩) hHeld ?_
          refine htake (i := 4) (v := undef) rfl (by kernel_rfl) (by kernel_rfl) (by kernel_rfl) hPF (Or.inr ⟨by kernel_rfl, rfl⟩) hHeld ?_
          refine htake (i := 5) (v := undef) rfl (by kernel_rfl) (by kernel_rfl) (by kernel_rfl) hPF (Or.inr ⟨by kernel_rfl, rfl⟩) hHeld ?_
          refine htake (i := 6) (v := .bool false) rfl (by kernel_rfl) (by kernel_rfl) (by kernel_rfl) hPF (Or.inl ⟨by kernel_rfl, ?_⟩) hHeld ?_
          · intro u hS; obtain ⟨p0, p1, p2⟩ := hS; go_simp
          refine htake (i := 7) (v := .bool false) rfl (by kernel_rfl) (by kernel_rfl) (by kernel_rfl) hPF (Or.inl ⟨by kernel_rfl, ?_⟩) hHeld ?_
          · intro u hS; obtain ⟨p0, p1, p2⟩ := hS; go_simp
          refine htake (i := 8) (v := undef) rfl (by kernel_rfl) (by kernel_rfl) (by kernel_rfl) hPF (Or.inr ⟨by kernel_rfl, rfl⟩) hHeld ?_
          refine htake (i := 9) (v := undef) rfl (by kernel_rfl) (by kernel_rfl) (by kernel_rfl) hPF (Or.inr ⟨by kernel_rfl, rfl⟩) hHeld ?_
          refine htake (i := 10) (v := undef) rfl (by kernel_rfl) (by kernel_rfl) (by kernel_rfl) hPF (Or.inr ⟨by kernel_rfl, rfl⟩) hHeld ?_
          refine htake (i := 11) (v := undef) rfl (by kernel_rfl) (by kernel_rfl) (by kernel_rfl) hPF (Or.inr ⟨by kernel_rfl, rfl⟩) hHeld ?_
          refine htake (i := 12) (v := undef) rfl (by kernel_rfl) (by kernel_rfl) (by kernel_rfl) hPF (Or.inr ⟨by kernel_rfl, rfl⟩) hHeld ?_
          refine htake (i := 13) (v := undef) rfl (by kernel_rfl) (by kernel_rfl) (by kernel_rfl) hPF (Or.inr ⟨by kernel_rfl, rfl⟩) hHeld ?_
          refine htake (i := 14) (v := .bool false) rfl (by kernel_rfl) (by kernel_rfl) (by kernel_rfl) hPF (Or.inl ⟨by kernel_rfl, ?_⟩) hHeld ?_
          · intro u hS; obtain ⟨p0, p1, p2⟩ := hS; go_simp
          refine wpAnyH_ready (rs := [15]) (by kernel_rfl) (by simp) ?_
          refine AllReadyH.cons (i := 15) rfl (fun K hK => ?_) AllReadyH.nil
          go_simp
          have hq := ((HXB.out.other (p := ⟨w.heap.size, 0, none⟩) HNE.out (.string ⟨A.toArray⟩)).other (p := ⟨w.heap.size, 1, none⟩) HNE'.out (.int .i64 n)).other (p := ⟨w.heap.size, 2, none⟩) HNE''.out (.int .u64 (P : Int))
          have hr := ((HR2.out.set 0 (.string ⟨A.toArray⟩)).set 1 (.int .i64 n)).set 2 (.int .u64 (P : Int))
          have hB := ((HB2.out.setCell (p := ⟨w.heap.size, 0, none⟩) (Nat.le_refl _) (.string ⟨A.toArray⟩)).setCell (p := ⟨w.heap.size, 1, none⟩) (Nat.le_refl _) (.int .i64 n)).setCell (p := ⟨w.heap.size, 2, none⟩) (Nat.le_refl _) (.int .u64 (P : Int))
          obtain ⟨w9, hw9⟩ : ∃ w9, (((w2.setCell ⟨w.heap.size, 0, none⟩ (.string ⟨A.toArray⟩)).setCell ⟨w.heap.size, 1, none⟩ (.int .i64 n)).setCell ⟨w.heap.size, 2, none⟩ (.int .u64 (P : Int))) = w9 := ⟨_, rfl⟩
          rw [hw9] at hq hr hB ⊢
          have HB9 := Lib.hid hB
          have q0 := (hq 0 _ rfl).1
          have q1 := (hq 1 _ rfl).1
          have q2 := (hq 2 _ rfl).1
          have c0 := (hr 0 _ rfl).1
          have c1 := (hr 1 _ rfl).1
          have c2 := (hr 2 _ rfl).1
          clear hw9 hq hr hB
          refine hK.out _ _ ?_ (fun hHeld => ?_)
          · exact ⟨q0, q1, q2⟩
          clear hK K
          refine wpAnyH_ready (rs := [16]) (by kernel_rfl) (by simp) ?_
          refine AllReadyH.cons (i := 16) rfl (fun K hK => ?_) AllReadyH.nil
          go_simp
          refine hK.out _ _ ?_ (fun hHeld => ?_)
          · exact ⟨q0, q1, q2⟩
          clear hK K
          refine wpAnyH_done (by kernel_rfl) ?_ _
          go_wp2_with fail
          refine bodyPost_ret (v := .tuple #[lnV ⟨A, n, P⟩, .bool false]) (by simp [results, Tryz.results65, go_sem, c0, c1, c2]; try rfl) rfl ?_
          exact ⟨HB9.out.drew, ⟨A, n, P⟩, by rw [HV.out]; first | rfl | (cases q <;> rfl), fun y hy => by rw [HV.out] at hy; first | cases hy | (cases q; (cases hy); (cases hy; rfl))⟩
        case true =>
        cases ky
        case false =>
          have HV : Hid (lineD l = none) := Lib.hid (by rw [HT.out]; cases o with
            | none => rfl
            | some v => simp)
          refine hstart (S := fun u => u.cell? ⟨w1.heap.size, 0, none⟩ = some (.string ⟨A.toArray⟩) ∧ u.cell? ⟨w1.heap.size, 1, none⟩ = some (.int .i64 n) ∧ u.cell? ⟨w1.heap.size, 2, none⟩ = some (.int .u64 (P : Int))) (by kernel_rfl) (by repeat (first | exact PG.body | refine PG.then_ ?_ | refine PG.inBlock ?_)) ?_ (fun hPF hHeld => ?_)
          · exact ⟨x0, x1, x2⟩
          refine htake (i := 0) (v := .agg #[.string ⟨A.toArray⟩, .int .i64 n, .int .u64 (P : Int)]) rfl (by kernel_rfl) (by kernel_rfl) (by kernel_rfl) hPF (Or.inl ⟨by kernel_rfl, ?_⟩) hHeld ?_
          · intro u hS; obtain ⟨p0, p1, p2⟩ := hS; go_simp
          refine htake (i := 1) (v := .bool true) rfl (by kernel_rfl) (by kernel_rfl) (by kernel_rfl) hPF (Or.inl ⟨by kernel_rfl, ?_⟩) hHeld ?_
          · intro u hS; obtain ⟨p0, p1, p2⟩ := hS; go_simp
          refine htake (i := 2) (v := .bool true) rfl (by kernel_rfl) (by kernel_rfl) (by kernel_rfl) hPF (Or.inl ⟨by kernel_rfl, ?_⟩) hHeld ?_
          · intro u hS; obtain ⟨p0, p1, p2⟩ := hS; go_simp
          refine htake (i := 3) (v := .pointer (some ⟨w1.heap.size, 0, none⟩)) rfl (by kernel_rfl) (by kernel_rfl) (by kernel_rfl) hPF (Or.inl ⟨by kernel_rfl, ?_⟩) hHeld ?_
          · intro u hS; obtain ⟨p0, p1, p2⟩ := hS; go_simp
          refine htake (i := 4) (v := .string ⟨A.toArray⟩) rfl (by kernel_rfl) (by kernel_rfl) (by kernel_rfl) hPF (Or.inl ⟨by kernel_rfl, ?_⟩) hHeld ?_
          · intro u hS; obtain ⟨p0, p1, p2⟩ := hS; go_simp
          refine wpAnyH_ready (rs := [5]) (by kernel_rfl) (by simp) ?_
          refine AllReadyH.cons (i := 5) rfl (fun K hK => ?_) AllReadyH.nil
          go_simp
          go_at_call 49
          refine (hkey _).mono ?_
          rintro e w_3 ⟨rfl, rfl⟩
          refine hK.out _ _ ?_ (fun hHeld => ?_)
          · exact ⟨x0, x1, x2⟩
          clear hK K
          refine htake (i := 6) (v := .bool false) rfl (by kernel_rfl) (by kernel_rfl) (by kernel_rfl) hPF (Or.inl ⟨by kernel_rfl, ?_⟩) hHeld ?_
          · intro u hS; obtain ⟨p0, p1, p2⟩ := hS; go_simp
          refine htake (i := 7) (v := .bool false) rfl (by kernel_rfl) (by kernel_rfl) (by kernel_rfl) hPF (Or.inl ⟨by kernel_rfl, ?_⟩) hHeld ?_
          · intro u hS; obtain ⟨p0, p1, p2⟩ := hS; go_simp
          refine htake (i := 8) (v := undef) rfl (by kernel_rfl) (by kernel_rfl) (by kernel_rfl) hPF (Or.inr ⟨by kernel_rfl, rfl⟩) hHeld ?_
          refine htake (i := 9) (v := undef) rfl (by kernel_rfl) (by kernel_rfl) (by kernel_rfl) hPF (Or.inr ⟨by kernel_rfl, rfl⟩) hHeld ?_
          refine htake (i := 10) (v := undef) rfl (by kernel_rfl) (by kernel_rfl) (by kernel_rfl) hPF (Or.inr ⟨by kernel_rfl, rfl⟩) hHeld ?_
          refine htake (i := 11) (v := undef) rfl (by kernel_rfl) (by kernel_rfl) (by kernel_rfl) hPF (Or.inr ⟨by kernel_rfl, rfl⟩) hHeld ?_
          refine htake (i := 12) (v := undef) rfl (by kernel_rfl) (by kernel_rfl) (by kernel_rfl) hPF (Or.inr ⟨by kernel_rfl, rfl⟩) hHeld ?_
          refine htake (i := 13) (v := undef) rfl (by kernel_rfl) (by kernel_rfl) (by kernel_rfl) hPF (Or.inr ⟨by kernel_rfl, rfl⟩) hHeld ?_
          refine htake (i := 14) (v := .bool false) rfl (by kernel_rfl) (by kernel_rfl) (by kernel_rfl) hPF (Or.inl ⟨by kernel_rfl, ?_⟩) hHeld ?_
          · intro u hS; obtain ⟨p0, p1, p2⟩ := hS; go_simp
          refine wpAnyH_ready (rs := [15]) (by kernel_rfl) (by simp) ?_
          refine AllReadyH.cons (i := 15) rfl (fun K hK => ?_) AllReadyH.nil
          go_simp
          have hq := ((HXB.out.other (p := ⟨w.heap.size, 0, none⟩) HNE.out (.string ⟨A.toArray⟩)).other (p := ⟨w.heap.size, 1, none⟩) HNE'.out (.int .i64 n)).other (p := ⟨w.heap.size, 2, none⟩) HNE''.out (.int .u64 (P : Int))
          have hr := ((HR2.out.set 0 (.string ⟨A.toArray⟩)).set 1 (.int .i64 n)).set 2 (.int .u64 (P : Int))
          have hB := ((HB2.out.setCell (p := ⟨w.heap.size, 0, none⟩) (Nat.le_refl _) (.string ⟨A.toArray⟩)).setCell (p := ⟨w.heap.size, 1, none⟩) (Nat.le_refl _) (.int .i64 n)).setCell (p := ⟨w.heap.size, 2, none⟩) (Nat.le_refl _) (.int .u64 (P : Int))
          obtain ⟨w9, hw9⟩ : ∃ w9, (((w2.setCell ⟨w.heap.size, 0, none⟩ (.string ⟨A.toArray⟩)).setCell ⟨w.heap.size, 1, none⟩ (.int .i64 n)).setCell ⟨w.heap.size, 2, none⟩ (.int .u64 (P : Int))) = w9 := ⟨_, rfl⟩
          rw [hw9] at hq hr hB ⊢
          have HB9 := Lib.hid hB
          have q0 := (hq 0 _ rfl).1
          have q1 := (hq 1 _ rfl).1
          have q2 := (hq 2 _ rfl).1
          have c0 := (hr 0 _ rfl).1
          have c1 := (hr 1 _ rfl).1
          have c2 := (hr 2 _ rfl).1
          clear hw9 hq hr hB
          refine hK.out _ _ ?_ (fun hHeld => ?_)
          · exact ⟨q0, q1, q2⟩
          clear hK K
          refine wpAnyH_ready (rs := [16]) (by kernel_rfl) (by simp) ?_
          refine AllReadyH.cons (i := 16) rfl (fun K hK => ?_) AllReadyH.nil
          go_simp
          refine hK.out _ _ ?_ (fun hHeld => ?_)
          · exact ⟨q0, q1, q2⟩
          clear hK K
          refine wpAnyH_done (by kernel_rfl) ?_ _
          go_wp2_with fail
          refine bodyPost_ret (v := .tuple #[lnV ⟨A, n, P⟩, .bool false]) (by simp [results, Tryz.results65, go_sem, c0, c1, c2]; try rfl) rfl ?_
          exact ⟨HB9.out.drew, ⟨A, n, P⟩, by rw [HV.out]; first | rfl | (cases q <;> rfl), fun y hy => by rw [HV.out] at hy; first | cases hy | (cases q; (cases hy); (cases hy; rfl))⟩
        case true =>
          obtain ⟨⟨m, v⟩, rfl⟩ : ∃ x, o = some x := by
            cases o with
            | none => have := HO.out; cases this
            | some x => exact ⟨x, rfl⟩
          obtain ⟨hm, rfl⟩ := HNP.out _ rfl
          dsimp only at hm
          subst hm
          have hln := fun v w hv => linesR_any [⟨A, (m : Int), P⟩] v w hv (fun x hx => by
            simp only [List.mem_singleton] at hx
            subst hx
            exact ⟨by simp, by have := (two_le HTW.out).1; simp only; omega, by have := HP.out; simp only; omega⟩) (by
            simp only [linesT, List.append_nil]
            have := lineT_len A m P (by have := (two_le HTW.out).1; omega)
            have := HA1.out
            omega)
          obtain ⟨L, hL⟩ : ∃ L, linesT [⟨A, (m : Int), P⟩] = L := ⟨_, rfl⟩
          rw [hL] at hln
          obtain ⟨q, hq⟩ : ∃ q, (L == e1) = q := ⟨_, rfl⟩
          have HV : Hid (lineD l = if q = true then some ⟨A, (m : Int), P⟩ else none) := Lib.hid (by
            rw [HT.out, ← hq, ← hL]
            simp only [linesT, List.append_nil]
            by_cases h : lineT ⟨A, (m : Int), P⟩ = e1
            · simp [h]
            · simp [h])
          clear hL
          refine hstart (S := fun u => u.cell? ⟨w1.heap.size, 0, none⟩ = some (.string ⟨A.toArray⟩) ∧ u.cell? ⟨w1.heap.size, 1, none⟩ = some (.int .i64 (m : Int)) ∧ u.cell? ⟨w1.heap.size, 2, none⟩ = some (.int .u64 (P : Int))) (by kernel_rfl) (by repeat (first | exact PG.body | refine PG.then_ ?_ | refine PG.inBlock ?_)) ?_ (fun hPF hHeld => ?_)
          · exact ⟨x0, x1, x2⟩
          refine htake (i := 0) (v := .agg #[.string ⟨A.toArray⟩, .int .i64 (m : Int), .int .u64 (P : Int)]) rfl (by kernel_rfl) (by kernel_rfl) (by kernel_rfl) hPF (Or.inl ⟨by kernel_rfl, ?_⟩) hHeld ?_
          · intro u hS; obtain ⟨p0, p1, p2⟩ := hS; go_simp
          refine htake (i := 1) (v := .bool true) rfl (by kernel_rfl) (by kernel_rfl) (by kernel_rfl) hPF (Or.inl ⟨by kernel_rfl, ?_⟩) hHeld ?_
          · intro u hS; obtain ⟨p0, p1, p2⟩ := hS; go_simp
          refine htake (i := 2) (v := .bool true) rfl (by kernel_rfl) (by kernel_rfl) (by kernel_rfl) hPF (Or.inl ⟨by kernel_rfl, ?_⟩) hHeld ?_
          · intro u hS; obtain ⟨p0, p1, p2⟩ := hS; go_simp
          refine htake (i := 3) (v := .pointer (some ⟨w1.heap.size, 0, none⟩)) rfl (by kernel_rfl) (by kernel_rfl) (by kernel_rfl) hPF (Or.inl ⟨by kernel_rfl, ?_⟩) hHeld ?_
          · intro u hS; obtain ⟨p0, p1, p2⟩ := hS; go_simp
          refine htake (i := 4) (v := .string ⟨A.toArray⟩) rfl (by kernel_rfl) (by kernel_rfl) (by kernel_rfl) hPF (Or.inl ⟨by kernel_rfl, ?_⟩) hHeld ?_
          · intro u hS; obtain ⟨p0, p1, p2⟩ := hS; go_simp
          refine wpAnyH_ready (rs := [5]) (by kernel_rfl) (by simp) ?_
          refine AllReadyH.cons (i := 5) rfl (fun K hK => ?_) AllReadyH.nil
          go_simp
          go_at_call 49
          refine (hkey _).mono ?_
          rintro e w_3 ⟨rfl, rfl⟩
          refine hK.out _ _ ?_ (fun hHeld => ?_)
          · exact ⟨x0, x1, x2⟩
          clear hK K
          refine htake (i := 6) (v := .bool true) rfl (by kernel_rfl) (by kernel_rfl) (by kernel_rfl) hPF (Or.inl ⟨by kernel_rfl, ?_⟩) hHeld ?_
          · intro u hS; obtain ⟨p0, p1, p2⟩ := hS; go_simp
          refine htake (i := 7) (v := .bool true) rfl (by kernel_rfl) (by kernel_rfl) (by kernel_rfl) hPF (Or.inl ⟨by kernel_rfl, ?_⟩) hHeld ?_
          · intro u hS; obtain ⟨p0, p1, p2⟩ := hS; go_simp
          refine htake (i := 8) (v := .agg #[.string ⟨A.toArray⟩, .int .i64 (m : Int), .int .u64 (P : Int)]) rfl (by kernel_rfl) (by kernel_rfl) (by kernel_rfl) hPF (Or.inl ⟨by kernel_rfl, ?_⟩) hHeld ?_
          · intro u hS; obtain ⟨p0, p1, p2⟩ := hS; go_simp
          refine htake (i := 11) (v := .string ⟨l.toArray⟩) rfl (by kernel_rfl) (by kernel_rfl) (by kernel_rfl) hPF (Or.inl ⟨by kernel_rfl, ?_⟩) hHeld ?_
          · intro u hS; obtain ⟨p0, p1, p2⟩ := hS; go_simp
          refine htake (i := 12) (v := .string ⟨e1.toArray⟩) rfl (by kernel_rfl) (by kernel_rfl) (by kernel_rfl) hPF (Or.inl ⟨by kernel_rfl, ?_⟩) hHeld ?_
          · intro u hS; obtain ⟨p0, p1, p2⟩ := hS; go_simp
          refine wpAnyH_ready (rs := [9]) (by kernel_rfl) (by simp) ?_
          refine AllReadyH.cons (i := 9) rfl (fun K hK => ?_) AllReadyH.nil
          go_simp
          have hb3 : Below w2.heap.size w2 (w2.alloc (.cells #[.string ⟨A.toArray⟩, .int .i64 (m : Int), .int .u64 (P : Int)] 54)) := (Below.refl w2.heap.size w2).alloc (Nat.le_refl _) _
          have hn3 := Bk.new w2 [.string ⟨A.toArray⟩, .int .i64 (m : Int), .int .u64 (P : Int)] 54 rfl
          obtain ⟨w3, hw3⟩ : ∃ w3, w2.alloc (.cells #[.string ⟨A.toArray⟩, .int .i64 (m : Int), .int .u64 (P : Int)] 54) = w3 := ⟨_, rfl⟩
          have hz3 : w2.heap.size < w3.heap.size := by rw [← hw3]; simp
          have hn3' : Bk w3 w2.heap.size [.string ⟨A.toArray⟩, .int .i64 (m : Int), .int .u64 (P : Int)] := by rw [← hw3]; exact hn3
          rw [hw3] at hb3 ⊢
          have HB3 := Lib.hid (HB2.out.trans (hb3.mono HB2.out.size))
          have HXB3 := Lib.hid (HXB.out.below hb3 HX.out)
          have HR3 := Lib.hid (HR2.out.below hb3 HS2.out)
          have HS3 : Hid (w.heap.size < w3.heap.size) := Lib.hid (Nat.lt_of_lt_of_le HS2.out hb3.size)
          have HX3 : Hid (w1.heap.size < w3.heap.size) := Lib.hid (Nat.lt_of_lt_of_le HX.out hb3.size)
          have HSL : Hid (Lns w3 (.slice (some ⟨w2.heap.size, 0, none⟩) 1 1) [⟨A, (m : Int), P⟩]) := Lib.hid (Sl.one (fun i u h => (hn3' i u h).1) hz3)
          have y0 := (HXB3.out 0 _ rfl).1
          have y1 := (HXB3.out 1 _ rfl).1
          have y2 := (HXB3.out 2 _ rfl).1
          clear hb3 hn3 hn3' hz3 hw3
          refine hK.out _ _ ?_ (fun hHeld => ?_)
          · exact ⟨y0, y1, y2⟩
          clear hK K
          refine wpAnyH_ready (rs := [10]) (by kernel_rfl) (by simp) ?_
          refine AllReadyH.cons (i := 10) rfl (fun K hK => ?_) AllReadyH.nil
          go_simp
          go_at_call 27
          refine (hln _ w3.drew (show Lns w3.drew _ _ from HSL.out)).mono ?_
          rintro e w4 ⟨rfl, hb4⟩
          have hb4' : Below w3.heap.size w3 w4 := (Below.refl w3.heap.size w3).drew.trans hb4
          have HB4 := Lib.hid (HB3.out.trans (hb4'.mono HB3.out.size))
          have HXB4 := Lib.hid (HXB3.out.below hb4' HX3.out)
          have HR4 := Lib.hid (HR3.out.below hb4' HS3.out)
          clear hb4 hb4'
          have z0 := (HXB4.out 0 _ rfl).1
          have z1 := (HXB4.out 1 _ rfl).1
          have z2 := (HXB4.out 2 _ rfl).1
          have k0 := (HR4.out 0 _ rfl).1
          have k1 := (HR4.out 1 _ rfl).1
          have k2 := (HR4.out 2 _ rfl).1
          have m0 := (HR4.out 0 _ rfl).2
          have m1 := (HR4.out 1 _ rfl).2
          have m2 := (HR4.out 2 _ rfl).2
          refine hK.out _ _ ?_ (fun hHeld => ?_)
          · exact ⟨z0, z1, z2⟩
          clear hK K
          refine htake (i := 13) (v := .bool q) rfl (by kernel_rfl) (by kernel_rfl) (by kernel_rfl) hPF (Or.inl ⟨by kernel_rfl, ?_⟩) hHeld ?_
          · intro u hS; obtain ⟨p0, p1, p2⟩ := hS; go_simp
          refine htake (i := 14) (v := .bool q) rfl (by kernel_rfl) (by kernel_rfl) (by kernel_rfl) hPF (Or.inl ⟨by kernel_rfl, ?_⟩) hHeld ?_
          · intro u hS; obtain ⟨p0, p1, p2⟩ := hS; go_simp
          refine wpAnyH_ready (rs := [15]) (by kernel_rfl) (by simp) ?_
          refine AllReadyH.cons (i := 15) rfl (fun K hK => ?_) AllReadyH.nil
          go_simp
          have hq := ((HXB4.out.other (p := ⟨w.heap.size, 0, none⟩) HNE.out (.string ⟨A.toArray⟩)).other (p := ⟨w.heap.size, 1, none⟩) HNE'.out (.int .i64 (m : Int))).other (p := ⟨w.heap.size, 2, none⟩) HNE''.out (.int .u64 (P : Int))
          have hr := ((HR4.out.set 0 (.string ⟨A.toArray⟩)).set 1 (.int .i64 (m : Int))).set 2 (.int .u64 (P : Int))
          have hB := ((HB4.out.setCell (p := ⟨w.heap.size, 0, none⟩) (Nat.le_refl _) (.string ⟨A.toArray⟩)).setCell (p := ⟨w.heap.size, 1, none⟩) (Nat.le_refl _) (.int .i64 (m : Int))).setCell (p := ⟨w.heap.size, 2, none⟩) (Nat.le_refl _) (.int .u64 (P : Int))
          obtain ⟨w9, hw9⟩ : ∃ w9, (((w4.setCell ⟨w.heap.size, 0, none⟩ (.string ⟨A.toArray⟩)).setCell ⟨w.heap.size, 1, none⟩ (.int .i64 (m : Int))).setCell ⟨w.heap.size, 2, none⟩ (.int .u64 (P : Int))) = w9 := ⟨_, rfl⟩
          rw [hw9] at hq hr hB ⊢
          have HB9 := Lib.hid hB
          have q0 := (hq 0 _ rfl).1
          have q1 := (hq 1 _ rfl).1
          have q2 := (hq 2 _ rfl).1
          have c0 := (hr 0 _ rfl).1
          have c1 := (hr 1 _ rfl).1
          have c2 := (hr 2 _ rfl).1
          clear hw9 hq hr hB
          refine hK.out _ _ ?_ (fun hHeld => ?_)
          · exact ⟨q0, q1, q2⟩
          clear hK K
          refine wpAnyH_ready (rs := [16]) (by kernel_rfl) (by simp) ?_
          refine AllReadyH.cons (i := 16) rfl (fun K hK => ?_) AllReadyH.nil
          go_simp
          refine hK.out _ _ ?_ (fun hHeld => ?_)
          · exact ⟨q0, q1, q2⟩
          clear hK K
          refine wpAnyH_done (by kernel_rfl) ?_ _
          go_wp2_with fail
          refine bodyPost_ret (v := .tuple #[lnV ⟨A, (m : Int), P⟩, .bool q]) (by simp [results, Tryz.results65, go_sem, c0, c1, c2]; try rfl) rfl ?_
          exact ⟨HB9.out, ⟨A, (m : Int), P⟩, by rw [HV.out]; first | rfl | (cases q <;> rfl), fun y hy => by rw [HV.out] at hy; first | cases hy | (cases q; (cases hy); (cases hy; rfl))⟩
      · have HN2 := Lib.hid (take_not HN.out Hx.out h32)
        have h32' : ((x.toNat : Int) == 32) = false := beq_false_of_ne (fun e => h32 (UInt8.toNat_inj.1 (by have h : (32 : UInt8).toNat = 32 := rfl; omega)))
        clear h32
        go_wp2_with fail
        exact ⟨⟨k + 1, by go_num, by omega, HN2⟩, by simp [intOf]; omega⟩
    · have HF : Hid (lineD l = none) := Lib.hid (by
        have h := HN.out
        rw [List.take_of_length_le (by omega)] at h
        unfold lineD
        rw [cut1_not h]
        rfl)
      obtain ⟨f0, f1, f2⟩ : (w0.frozen? ⟨w.heap.size, 0, none⟩ = false ∧ w0.frozen? ⟨w.heap.size, 1, none⟩ = false ∧ w0.frozen? ⟨w.heap.size, 2, none⟩ = false) := ⟨(HR0.out 0 _ rfl).2, (HR0.out 1 _ rfl).2, (HR0.out 2 _ rfl).2⟩
      obtain ⟨g0, g1, g2⟩ : (w0.cell? ⟨w.heap.size, 0, none⟩ = _ ∧ w0.cell? ⟨w.heap.size, 1, none⟩ = _ ∧ w0.cell? ⟨w.heap.size, 2, none⟩ = _) := ⟨(HR0.out 0 _ rfl).1, (HR0.out 1 _ rfl).1, (HR0.out 2 _ rfl).1⟩
      have hr := ((HR0.out.set 0 (.string ⟨#[]⟩)).set 1 (.int .i64 0)).set 2 (.int .u64 0)
      have c0 := (hr 0 _ rfl).1
      have c1 := (hr 1 _ rfl).1
      have c2 := (hr 2 _ rfl).1
      clear hr
      go_wp2_with fail
      refine bodyPost_ret (v := .tuple #[lnV ⟨[], 0, 0⟩, .bool false]) (by simp [results, Tryz.results65, go_sem, c0, c1, c2]; try rfl) rfl ?_
      exact ⟨((HB0.out.setCell (p := ⟨w.heap.size, 0, none⟩) (Nat.le_refl _) _).setCell (p := ⟨w.heap.size, 1, none⟩) (Nat.le_refl _) _).setCell (p := ⟨w.heap.size, 2, none⟩) (Nat.le_refl _) _, ⟨[], 0, 0⟩, by rw [HF.out]; rfl, fun y hy => by rw [HF.out] at hy; cases hy⟩
end Go.Proofs.YtpdedfpacklnoaaGreatDoor
