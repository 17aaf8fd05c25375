/- Byte and Text of a reader. -/
import Derived.Test.YthjfogllinboaaaReads
namespace Go.Proofs.Ythjfogllinboaaa
open Go.RowKit Go.BL Go.Wr
theorem takeZ (B g : Nat) (bs : List Nat) (i n : Nat) (z : Int) (hz : z = (n : Int)) (w : World) (h : Rdr w B g bs i) (hn : i + n ≤ bs.length) : Calls Try.prog 38 #[.pointer (some ⟨g, 0, none⟩), .int .i64 z] w fun e w' =>
    ∃ A c, e = .returned (.slice A n c) ∧ Rd w' A n ((bs.drop i).take n) ∧ Own w' w.heap.size (.slice A n c) ((bs.drop i).take n) ∧ Rdr w' B g bs (i + n) ∧ Kept [g] w w' := by
  subst hz; exact take_any B g bs i n w h hn
theorem take1 {bs : List Nat} {i : Nat} (h : i < bs.length) : (bs.drop i).take 1 = [bs.getD i 0] := by
  rw [List.drop_eq_getElem_cons h, List.getD_eq_getElem?_getD, List.getElem?_eq_getElem h]; rfl
theorem byteC (B g : Nat) (bs : List Nat) (i rb nb eb : Nat) (w : World) (h : Rdr w B g bs i) (hr : Box w rb (.pointer (some ⟨g, 0, none⟩)) 29) (hn : Box w nb (.int .i64 0) 3) (he : Box w eb (.int .i64 0) 33) (h1 : B ≤ nb) (h2 : B ≤ eb) :
    Calls Try.prog 36 #[.pointer (some ⟨rb, 0, none⟩), .pointer (some ⟨nb, 0, none⟩)] w fun e w' => Box w' eb (.int .i64 0) 33 ∧ Out (RG B g bs nb 3 (.int .i64 ((byteAt bs i).1 : Int)) (byteAt bs i).2.1 (byteAt bs i).2.2 w) e w' := by
  have hrc := hr.cell
  have hgb := h.ltB
  have hne : eb ≠ nb := by rintro rfl; unfold Box at hn he; rw [hn] at he; injection he with he; injection he with _ he; cases he
  have H := Lib.hid h
  have Hn := Lib.hid hn
  have He := Lib.hid he
  have Hne := Lib.hid hne
  clear h hr hn he hne
  go_enter Try.func36, Try.ntmps36
  go_wp2_with fail
  refine (left_any B g bs i _ H.out).mono ?_
  rintro e w' ⟨rfl, N, rfl⟩
  by_cases hlt : i < bs.length
  · have HU : Hid (byteAt bs i = (bs.getD i 0, 0, i + 1)) := Lib.hid (by unfold byteAt; rw [if_pos hlt])
    have hz : (((bs.length - i : Nat) : Int) == 0) = false := beq_eq_false_iff_ne.2 (by omega)
    have Hlt := Lib.hid hlt
    clear hlt
    go_wp2_with fail
    refine (takeZ B g bs i 1 1 rfl _ (H.out.drewN N) (by have := Hlt.out; omega)).mono ?_
    rw [take1 Hlt.out]
    rintro e w1 ⟨A, c, rfl, hrd, -, hR, hK⟩
    obtain ⟨b, off, rfl, _, hcell⟩ := hrd.2.2.2 (by omega)
    have hc0 : w1.cell? ⟨b, off, none⟩ = some (.int .u8 ((bs.getD i 0 : Nat) : Int)) := hcell 0 (by omega)
    have hx := hrd.2.2.1 _ (List.mem_singleton_self _)
    have HR := Lib.hid hR
    have HK := Lib.hid ((((Kept.refl [g] w).drewN N).then_ hK))
    have Hn1 := Lib.hid (Hn.out.kept HK.out (by simp; omega))
    have He1 := Lib.hid (He.out.kept HK.out (by simp; omega))
    have hnc := Hn1.out.cell
    have hnf := Hn1.out.free
    clear hrd hR hK hcell
    generalize bs.getD i 0 = x at *
    go_wp2
    go_end0
    rw [HU.out]
    exact ⟨He1.out.far Hne.out _, .inl ⟨rfl, rfl, ⟨i + 1, HR.out.far h1 _, fun _ => rfl⟩, Hn1.out.set_ _, (HK.out.mono (fun x hx => .inl (by simp at hx; simp [hx]))).setCell (.inl (by simp)) _⟩⟩
  · have HU : Hid (byteAt bs i = (0, 2, i)) := Lib.hid (by unfold byteAt; rw [if_neg hlt])
    have hz : (((bs.length - i : Nat) : Int) == 0) = true := beq_iff_eq.2 (by omega)
    clear hlt
    go_wp2_with fail
    refine (cut_any 2 _).mono ?_
    rintro e w' ⟨rfl, rfl⟩
    go_wp2
    rw [HU.out]
    exact ⟨rfl, He.out.drewN N, .inr ⟨2, by decide, rfl, rfl, ⟨i, H.out.drewN N, fun h => absurd h (by decide)⟩, Hn.out.drewN N, (Kept.refl _ w).drewN N⟩⟩
theorem byteAt_pos {bs : List Nat} {i : Nat} (h : (byteAt bs i).2.1 ≠ 0) : (byteAt bs i).2.2 = i := by
  unfold byteAt at h ⊢
  by_cases hl : i < bs.length
  · rw [if_pos hl] at h; exact absurd rfl h
  · rw [if_neg hl]
theorem byteP (B g : Nat) (bs : List Nat) (i : Nat) (w : World) (h : Rdr w B g bs i) (hB : B ≤ w.heap.size) :
    Calls Try.prog 33 #[.pointer (some ⟨g, 0, none⟩), .func (.func 36) #[] #[.pointer (some ⟨w.heap.size, 0, none⟩), .pointer (some ⟨w.heap.size + 1, 0, none⟩)]]
      ((w.alloc (.cells #[.pointer (some ⟨g, 0, none⟩)] 29)).alloc (.cells #[.int .i64 0] 3))
      fun e w' => e = .returned (.int .i64 ((byteAt bs i).2.1 : Int)) ∧ Rdr w' B g bs (byteAt bs i).2.2 ∧ Box w' (w.heap.size + 1) (.int .i64 ((byteAt bs i).1 : Int)) 3 ∧ Kept [g] w w' := by
  have hlt := h.lt
  have b1 : Box (((w.alloc (.cells #[.pointer (some ⟨g, 0, none⟩)] 29)).alloc (.cells #[.int .i64 0] 3)).alloc (.cells #[.int .i64 0] 33)) w.heap.size (.pointer (some ⟨g, 0, none⟩)) 29 := ((boxAt rfl _ _).alloc _).alloc _
  have b2 : Box (((w.alloc (.cells #[.pointer (some ⟨g, 0, none⟩)] 29)).alloc (.cells #[.int .i64 0] 3)).alloc (.cells #[.int .i64 0] 33)) (w.heap.size + 1) (.int .i64 0) 3 := (boxAt (by simp) _ _).alloc _
  have b3 : Box (((w.alloc (.cells #[.pointer (some ⟨g, 0, none⟩)] 29)).alloc (.cells #[.int .i64 0] 3)).alloc (.cells #[.int .i64 0] 33)) ((w.alloc (.cells #[.pointer (some ⟨g, 0, none⟩)] 29)).alloc (.cells #[.int .i64 0] 3)).heap.size (.int .i64 0) 33 := boxAt rfl _ _
  refine (tried36 B g bs i _ _ _ ((h.alloc _).alloc _) (by simp; omega) (byteC B g bs i w.heap.size (w.heap.size + 1) _ _ (((h.alloc _).alloc _).alloc _) b1 b2 b3 (by omega) (by simp; omega)) (fun n w1 hR => ⟨_, hR.2.1.choose_spec.1⟩)).mono ?_
  rintro e w' ⟨n, w1, rfl, hR, hk, h1, h0⟩
  obtain ⟨rfl, f1, f2, f3⟩ := fin (w := w) (fun h => byteAt_pos h) hR hk h1 h0 (by simp) hlt (by omega) (by simp; omega) hB ((((Kept.refl [] w).alloc _).alloc _).alloc _)
  exact ⟨rfl, f1, f2, f3⟩
theorem byte_any (B g : Nat) (bs : List Nat) (i : Nat) (w : World) (h : Rdr w B g bs i) (hB : B ≤ w.heap.size) :
    Calls Try.prog 19 #[.pointer (some ⟨g, 0, none⟩)] w (RetR B g bs (.int .i64 ((byteAt bs i).1 : Int)) (byteAt bs i).2.1 (byteAt bs i).2.2 w) := by
  have hmf : ∀ (fn : Fn) (first cap : Array Value) (w : World), (Instr.makeFunc fn first cap).run Try.prog w = .ok (.func fn first cap) w := fun _ _ _ _ => rfl
  have H := Lib.hid h
  have HB := Lib.hid hB
  clear h hB
  go_enter Try.func19, Try.ntmps19
  go_wp2_with fail
  refine (byteP B g bs i w H.out HB.out).mono ?_
  rintro e w' ⟨rfl, h1, h2, h3⟩
  have hc := h2.cell
  have H1 := Lib.hid h1
  have H3 := Lib.hid h3
  clear h1 h2 h3
  go_wp2
  go_ret2
  exact ⟨rfl, H1.out, H3.out⟩
theorem textC (B g : Nat) (bs : List Nat) (i : Nat) (most : Int) (rb mb nb eb : Nat) (w : World) (h : Rdr w B g bs i) (hr : Box w rb (.pointer (some ⟨g, 0, none⟩)) 29) (hm : Box w mb (.int .i64 most) 3) (hn : Box w nb (.string .empty) 9) (he : Box w eb (.int .i64 0) 33) (h0 : B ≤ mb) (hrb : B ≤ rb) (h1 : B ≤ nb) (h2 : B ≤ eb) :
    Calls Try.prog 39 #[.pointer (some ⟨rb, 0, none⟩), .pointer (some ⟨mb, 0, none⟩), .pointer (some ⟨nb, 0, none⟩)] w fun e w' => Box w' eb (.int .i64 0) 33 ∧ Out (RG B g bs nb 9 (.string (bstr (textAt bs i most).1)) (textAt bs i most).2.1 (textAt bs i most).2.2 w) e w' := by
  have hrc := hr.cell
  have hgb := h.ltB
  have hne : eb ≠ nb := by rintro rfl; unfold Box at hn he; rw [hn] at he; injection he with he; injection he with _ he; cases he
  have H := Lib.hid h
  have Hr := Lib.hid hr
  have Hm := Lib.hid hm
  have Hn := Lib.hid hn
  have He := Lib.hid he
  have Hne := Lib.hid hne
  clear h hr hn he hne hm
  go_enter Try.func39, Try.ntmps39
  go_wp2_with fail
  refine (number_any B g bs i _ H.out).mono ?_
  cases hnum : num (bs.drop i) 0 0 with
  | bad c =>
    rintro e w1 ⟨rfl, hR, hK⟩
    have HR := Lib.hid hR
    have HK := Lib.hid hK
    have Hc := Lib.hid (num_bad _ _ _ _ hnum)
    have HU : Hid (textAt bs i most = ([], c, i)) := Lib.hid (by unfold textAt; rw [hnum])
    clear hR hK hnum
    go_wp2
    rw [HU.out]
    exact ⟨rfl, He.out.kept HK.out (by simp; omega), .inr ⟨c, Hc.out, rfl, rfl, ⟨i, HR.out, fun h => absurd h Hc.out⟩, Hn.out.kept HK.out (by simp; omega), HK.out.mono (fun x hx => .inl (by simp at hx; simp [hx]))⟩⟩
  | got n k =>
    rintro e w1 ⟨rfl, hR, hK⟩
    have HR := Lib.hid hR
    have HK := Lib.hid hK
    have Hnum := Lib.hid hnum
    clear hR hK hnum
    have Hn1 := Lib.hid (Hn.out.kept HK.out (by simp; omega))
    have He1 := Lib.hid (He.out.kept HK.out (by simp; omega))
    have hrc1 := (Hr.out.kept HK.out (by simp; omega)).cell
    have hmc1 := (Hm.out.kept HK.out (by simp; omega)).cell
    clear hrc
    rcases (show most < 0 ∨ 0 ≤ most by omega) with hmost | hmost
    · by_cases hlong : max most 0 < (n : Int)
      · have HU : Hid (textAt bs i most = ([], 4, i)) := Lib.hid (by unfold textAt; rw [Hnum.out]; exact if_pos hlong)
        have hl2 : 0 < (n : Int) := by omega
        clear hlong
        go_wp2_with fail
        refine (cut_any 4 _).mono ?_
        rintro e w' ⟨rfl, rfl⟩
        go_wp2
        rw [HU.out]
        exact ⟨rfl, He1.out, .inr ⟨4, by decide, rfl, rfl, ⟨i + k, HR.out, fun h => absurd h (by decide)⟩, Hn1.out, HK.out.mono (fun x hx => .inl (by simp at hx; simp [hx]))⟩⟩
      · have Hlong := Lib.hid hlong
        have hl2 : ¬ (0 : Int) < (n : Int) := by omega
        clear hlong
        go_wp2_with fail
        refine (left_any B g bs (i + k) _ HR.out).mono ?_
        rintro e w' ⟨rfl, N, rfl⟩
        by_cases hshort : bs.length - (i + k) < n
        · have HU : Hid (textAt bs i most = ([], 2, i)) := Lib.hid (by unfold textAt; rw [Hnum.out]; show (if _ then _ else _) = _; rw [if_neg (Int.not_lt.2 Hlong.out), if_pos hshort])
          have hs : ((bs.length - (i + k) : Nat) : Int) < (n : Int) := by omega
          go_wp2_with fail
          refine (cut_any 2 _).mono ?_
          rintro e w' ⟨rfl, rfl⟩
          go_wp2
          rw [HU.out]
          exact ⟨rfl, He1.out.drewN N, .inr ⟨2, by decide, rfl, rfl, ⟨i + k, HR.out.drewN N, fun h => absurd h (by decide)⟩, Hn1.out.drewN N, (HK.out.mono (fun x hx => .inl (by simp at hx; simp [hx]))).drewN N⟩⟩
        · have HU : Hid (textAt bs i most = ((bs.drop (i + k)).take n, 0, i + k + n)) := Lib.hid (by unfold textAt; rw [Hnum.out]; show (if _ then _ else _) = _; rw [if_neg (Int.not_lt.2 Hlong.out), if_neg hshort])
          have hs : ¬ ((bs.length - (i + k) : Nat) : Int) < (n : Int) := by omega
          have Hik := Lib.hid HR.out.le
          have Hsh := Lib.hid hshort
          clear hshort
          go_wp2_with fail
          refine (takeZ B g bs (i + k) n n rfl _ (HR.out.drewN N) (by have := Hsh.out; have := Hik.out; omega)).mono ?_
          generalize (bs.drop (i + k)).take n = T at *
          rintro e w2 ⟨A, c, rfl, hrd, -, hR2, hK2⟩
          have HR2 := Lib.hid hR2
          have HK2 := Lib.hid (HK.out.then_ (((Kept.refl [g] w1).drewN N).then_ hK2))
          have hconv := run_bstr (P := Try.prog) (c := c) hrd 22 5 9 Try.underlying22 Try.underlying5 Try.underlying9
          have Hn2 := Lib.hid (Hn.out.kept HK2.out (by simp; omega))
          have He2 := Lib.hid (He.out.kept HK2.out (by simp; omega))
          have hnc := Hn2.out.cell
          have hnf := Hn2.out.free
          clear hrd hR2 hK2
          go_wp2
          go_end0
          rw [HU.out]
          exact ⟨He2.out.far Hne.out _, .inl ⟨rfl, rfl, ⟨i + k + n, HR2.out.far h1 _, fun _ => rfl⟩, Hn2.out.set_ _, (HK2.out.mono (fun x hx => .inl (by simp at hx; simp [hx]))).setCell (.inl (by simp)) _⟩⟩
    · by_cases hlong : max most 0 < (n : Int)
      · have HU : Hid (textAt bs i most = ([], 4, i)) := Lib.hid (by unfold textAt; rw [Hnum.out]; exact if_pos hlong)
        have hl2 : most < (n : Int) := by omega
        clear hlong
        go_wp2_with fail
        refine (cut_any 4 _).mono ?_
        rintro e w' ⟨rfl, rfl⟩
        go_wp2
        rw [HU.out]
        exact ⟨rfl, He1.out, .inr ⟨4, by decide, rfl, rfl, ⟨i + k, HR.out, fun h => absurd h (by decide)⟩, Hn1.out, HK.out.mono (fun x hx => .inl (by simp at hx; simp [hx]))⟩⟩
      · have Hlong := Lib.hid hlong
        have hl2 : ¬ most < (n : Int) := by omega
        clear hlong
        go_wp2_with fail
        refine (left_any B g bs (i + k) _ HR.out).mono ?_
        rintro e w' ⟨rfl, N, rfl⟩
        by_cases hshort : bs.length - (i + k) < n
        · have HU : Hid (textAt bs i most = ([], 2, i)) := Lib.hid (by unfold textAt; rw [Hnum.out]; show (if _ then _ else _) = _; rw [if_neg (Int.not_lt.2 Hlong.out), if_pos hshort])
          have hs : ((bs.length - (i + k) : Nat) : Int) < (n : Int) := by omega
          go_wp2_with fail
          refine (cut_any 2 _).mono ?_
          rintro e w' ⟨rfl, rfl⟩
          go_wp2
          rw [HU.out]
          exact ⟨rfl, He1.out.drewN N, .inr ⟨2, by decide, rfl, rfl, ⟨i + k, HR.out.drewN N, fun h => absurd h (by decide)⟩, Hn1.out.drewN N, (HK.out.mono (fun x hx => .inl (by simp at hx; simp [hx]))).drewN N⟩⟩
        · have HU : Hid (textAt bs i most = ((bs.drop (i + k)).take n, 0, i + k + n)) := Lib.hid (by unfold textAt; rw [Hnum.out]; show (if _ then _ else _) = _; rw [if_neg (Int.not_lt.2 Hlong.out), if_neg hshort])
          have hs : ¬ ((bs.length - (i + k) : Nat) : Int) < (n : Int) := by omega
          have Hik := Lib.hid HR.out.le
          have Hsh := Lib.hid hshort
          clear hshort
          go_wp2_with fail
          refine (takeZ B g bs (i + k) n n rfl _ (HR.out.drewN N) (by have := Hsh.out; have := Hik.out; omega)).mono ?_
          generalize (bs.drop (i + k)).take n = T at *
          rintro e w2 ⟨A, c, rfl, hrd, -, hR2, hK2⟩
          have HR2 := Lib.hid hR2
          have HK2 := Lib.hid (HK.out.then_ (((Kept.refl [g] w1).drewN N).then_ hK2))
          have hconv := run_bstr (P := Try.prog) (c := c) hrd 22 5 9 Try.underlying22 Try.underlying5 Try.underlying9
          have Hn2 := Lib.hid (Hn.out.kept HK2.out (by simp; omega))
          have He2 := Lib.hid (He.out.kept HK2.out (by simp; omega))
          have hnc := Hn2.out.cell
          have hnf := Hn2.out.free
          clear hrd hR2 hK2
          go_wp2
          go_end0
          rw [HU.out]
          exact ⟨He2.out.far Hne.out _, .inl ⟨rfl, rfl, ⟨i + k + n, HR2.out.far h1 _, fun _ => rfl⟩, Hn2.out.set_ _, (HK2.out.mono (fun x hx => .inl (by simp at hx; simp [hx]))).setCell (.inl (by simp)) _⟩⟩
theorem textAt_pos {bs : List Nat} {i : Nat} {most : Int} (h : (textAt bs i most).2.1 ≠ 0) : (textAt bs i most).2.2 = i := by
  unfold textAt at h ⊢
  cases hn : num (bs.drop i) 0 0 with
  | bad c => rfl
  | got n k =>
    rw [hn] at h
    by_cases h1 : max most 0 < (n : Int)
    · simp only [if_pos h1]
    · by_cases h2 : bs.length - (i + k) < n
      · simp only [if_neg h1, if_pos h2]
      · simp only [if_neg h1, if_neg h2] at h; exact absurd rfl h
theorem textP (B g : Nat) (bs : List Nat) (i : Nat) (most : Int) (w : World) (h : Rdr w B g bs i) (hB : B ≤ w.heap.size) :
    Calls Try.prog 33 #[.pointer (some ⟨g, 0, none⟩), .func (.func 39) #[] #[.pointer (some ⟨w.heap.size, 0, none⟩), .pointer (some ⟨w.heap.size + 1, 0, none⟩), .pointer (some ⟨w.heap.size + 1 + 1, 0, none⟩)]]
      (((w.alloc (.cells #[.pointer (some ⟨g, 0, none⟩)] 29)).alloc (.cells #[.int .i64 most] 3)).alloc (.cells #[.string .empty] 9))
      fun e w' => e = .returned (.int .i64 ((textAt bs i most).2.1 : Int)) ∧ Rdr w' B g bs (textAt bs i most).2.2 ∧ Box w' (w.heap.size + 1 + 1) (.string (bstr (textAt bs i most).1)) 9 ∧ Kept [g] w w' := by
  have hlt := h.lt
  have b1 : Box ((((w.alloc (.cells #[.pointer (some ⟨g, 0, none⟩)] 29)).alloc (.cells #[.int .i64 most] 3)).alloc (.cells #[.string .empty] 9)).alloc (.cells #[.int .i64 0] 33)) w.heap.size (.pointer (some ⟨g, 0, none⟩)) 29 := (((boxAt rfl _ _).alloc _).alloc _).alloc _
  have b2 : Box ((((w.alloc (.cells #[.pointer (some ⟨g, 0, none⟩)] 29)).alloc (.cells #[.int .i64 most] 3)).alloc (.cells #[.string .empty] 9)).alloc (.cells #[.int .i64 0] 33)) (w.heap.size + 1) (.int .i64 most) 3 := ((boxAt (by simp) _ _).alloc _).alloc _
  have b3 : Box ((((w.alloc (.cells #[.pointer (some ⟨g, 0, none⟩)] 29)).alloc (.cells #[.int .i64 most] 3)).alloc (.cells #[.string .empty] 9)).alloc (.cells #[.int .i64 0] 33)) (w.heap.size + 1 + 1) (.string .empty) 9 := (boxAt (by simp) _ _).alloc _
  have b4 : Box ((((w.alloc (.cells #[.pointer (some ⟨g, 0, none⟩)] 29)).alloc (.cells #[.int .i64 most] 3)).alloc (.cells #[.string .empty] 9)).alloc (.cells #[.int .i64 0] 33)) (((w.alloc (.cells #[.pointer (some ⟨g, 0, none⟩)] 29)).alloc (.cells #[.int .i64 most] 3)).alloc (.cells #[.string .empty] 9)).heap.size (.int .i64 0) 33 := boxAt rfl _ _
  refine (tried39 B g bs i _ _ _ (((h.alloc _).alloc _).alloc _) (by simp; omega) (textC B g bs i most w.heap.size (w.heap.size + 1) (w.heap.size + 1 + 1) _ _ ((((h.alloc _).alloc _).alloc _).alloc _) b1 b2 b3 b4 (by omega) (by omega) (by omega) (by simp; omega)) (fun n w1 hR => ⟨_, hR.2.1.choose_spec.1⟩)).mono ?_
  rintro e w' ⟨n, w1, rfl, hR, hk, h1, h0⟩
  obtain ⟨rfl, f1, f2, f3⟩ := fin (w := w) (fun h => textAt_pos h) hR hk h1 h0 (by simp) hlt (by omega) (by simp; omega) hB (((((Kept.refl [] w).alloc _).alloc _).alloc _).alloc _)
  exact ⟨rfl, f1, f2, f3⟩
theorem rtext_any (B g : Nat) (bs : List Nat) (i : Nat) (most : Int) (w : World) (h : Rdr w B g bs i) (hB : B ≤ w.heap.size) :
    Calls Try.prog 20 #[.pointer (some ⟨g, 0, none⟩), .int .i64 most] w (RetR B g bs (.string (bstr (textAt bs i most).1)) (textAt bs i most).2.1 (textAt bs i most).2.2 w) := by
  have hmf : ∀ (fn : Fn) (first cap : Array Value) (w : World), (Instr.makeFunc fn first cap).run Try.prog w = .ok (.func fn first cap) w := fun _ _ _ _ => rfl
  have H := Lib.hid h
  have HB := Lib.hid hB
  clear h hB
  go_enter Try.func20, Try.ntmps20
  go_wp2_with fail
  refine (textP B g bs i most w H.out HB.out).mono ?_
  rintro e w' ⟨rfl, h1, h2, h3⟩
  have hc := h2.cell
  have H1 := Lib.hid h1
  have H3 := Lib.hid h3
  clear h1 h2 h3
  go_wp2
  go_ret2
  exact ⟨rfl, H1.out, H3.out⟩
end Go.Proofs.Ythjfogllinboaaa
