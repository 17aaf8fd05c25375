/- Law 4: FrontOther. -/
import Derived.Test.YtpdedfpacklnoaaGreatDoorFeA
import Derived.Test.YtpdedfpacklnoaaGreatDoorMh2
set_option maxRecDepth 100000
namespace Go.Proofs.YtpdedfpacklnoaaGreatDoor
open Go.RowKit Go.BL Go.Ct Go.Sl

/-- The headers that are no token, and those that are. -/
def otherH (l : List H.Hdr) : List H.Hdr := l.filter fun x => !(H.hit tokenH x)
def tokH (l : List H.Hdr) : List H.Hdr := l.filter (H.hit tokenH)
theorem find_other (more hs : List H.Hdr) : H.findL (otherH more ++ tokH hs) tokenH = H.findL hs tokenH := by
  unfold H.findL otherH tokH
  rw [List.find?_append, List.find?_eq_none.2 (fun x hx => by have := (List.mem_filter.1 hx).2; simpa using this), Option.none_or, List.find?_filter]
  congr 2
  funext a
  simp
theorem find_one (x : H.Hdr) : H.findL [x] tokenH = if H.hit tokenH x then some x.2 else none := by
  unfold H.findL
  simp only [List.find?_cons, List.find?_nil]
  cases H.hit tokenH x <;> rfl
theorem other_snoc {l : List H.Hdr} {k : Nat} (h : k < l.length) : otherH (l.take (k + 1)) = otherH (l.take k) ++ (if H.hit tokenH l[k] then [] else [l[k]]) := by
  unfold otherH
  rw [List.take_add_one, List.getElem?_eq_getElem h, List.filter_append]
  congr 1
  cases hh : H.hit tokenH l[k] <;> simp [hh]
theorem tok_snoc {l : List H.Hdr} {k : Nat} (h : k < l.length) : tokH (l.take (k + 1)) = tokH (l.take k) ++ (if H.hit tokenH l[k] then [l[k]] else []) := by
  unfold tokH
  rw [List.take_add_one, List.getElem?_eq_getElem h, List.filter_append]
  congr 1
  cases hh : H.hit tokenH l[k] <;> simp [hh]
theorem hdr_cells {w : World} {A : Option Addr} {c : Nat} {l : List H.Hdr} (h : H.Hdrs w (.slice A l.length c) l) (hn : 0 < l.length) : ∃ b off, A = some ⟨b, off, none⟩ ∧ b < w.heap.size ∧
    ∀ i (h : i < l.length), w.cell? ⟨b, off + i * 2, none⟩ = some (.string ⟨l[i].1.toArray⟩) ∧ w.cell? ⟨b, off + i * 2 + 1, none⟩ = some (.string ⟨l[i].2.toArray⟩) := by
  obtain ⟨_, A', c', e, hc⟩ := h
  injection e with e _ _
  subst e
  exact hc hn
theorem one_hdrs (w : World) (x : H.Hdr) (t : TypeId) {g : Nat} (hg : g = w.heap.size) : H.Hdrs (w.alloc (.cells #[.string ⟨x.1.toArray⟩, .string ⟨x.2.toArray⟩] t)) (.slice (some ⟨g, 0, none⟩) 1 1) [x] := by
  have hp := pair_at w (.string ⟨x.1.toArray⟩) (.string ⟨x.2.toArray⟩) t g hg
  refine ⟨by simp, _, _, rfl, fun _ => ⟨g, 0, rfl, by simp [hg], fun i hi => ?_⟩⟩
  have : i = 0 := by simp at hi; omega
  subst this
  simpa using hp
theorem own_form {w : World} {B : Nat} {v : Value} {hs : List H.Hdr} (h : H.OwnH w B v hs) : ∃ A n c, v = .slice A n c := by
  obtain ⟨A, c, e⟩ := h.form
  exact ⟨A, _, c, e⟩
theorem own_hdrs {w : World} {B : Nat} {v : Value} {hs : List H.Hdr} (h : H.OwnH w B v hs) (hm : hs.length ≤ 4611686018427387903) : H.Hdrs w v hs := by
  rcases h.2 with ⟨rfl, h0⟩ | ⟨g, cap, cur, rfl, hg, hh, hn, _⟩
  · rw [List.eq_nil_of_length_eq_zero h0]
    exact ⟨by decide, none, 0, rfl, fun hn => absurd hn (by decide)⟩
  · refine ⟨hm, _, cap, rfl, fun _ => ⟨g, 0, rfl, ?_, fun i hi => ?_⟩⟩
    · rcases Nat.lt_or_ge g w.heap.size with h' | h'
      · exact h'
      · rw [Array.getElem?_eq_none h'] at hh; cases hh
    · have hc := World.ownsRow.cells h (g := g) rfl
      have ha := H.hv_at hs i hi
      have h1 := hc _ _ ha.1
      have h2 := hc _ _ ha.2
      rw [add_none] at h1 h2
      exact ⟨h1, by rw [Nat.add_assoc]; exact h2⟩
theorem other_len (l : List H.Hdr) : (otherH l).length ≤ l.length := List.length_filter_le _ _
theorem tok_hlen (l : List H.Hdr) : (tokH l).length ≤ l.length := List.length_filter_le _ _
set_option maxHeartbeats 16000000 in
theorem other_law (q : Rq) (h : Value) (more : List H.Hdr) (mv : Value) (id : Int) (w : World) (hd : H.Hdrs w h q.hs) (hm : H.Hdrs w mv more) (hz : Small q) (hzm : ∀ x ∈ more, x.1.length ≤ 1048576 ∧ x.2.length ≤ 1048576) (hn : q.hs.length ≤ 1048576) (hmn : more.length ≤ 1048576) (hg : Gnd w) : Calls Tryz.prog 4 #[rqV q h, mv, .int .i64 id] w (RetV (.bool true) w) := by
  obtain ⟨A, ac, rfl⟩ : ∃ A c, h = .slice A q.hs.length c := by obtain ⟨_, A, c, e, _⟩ := hd; exact ⟨A, c, e⟩
  obtain ⟨M, mc, rfl⟩ : ∃ A c, mv = .slice A more.length c := by obtain ⟨_, A, c, e, _⟩ := hm; exact ⟨A, c, e⟩
  obtain ⟨w0, hw0⟩ : ∃ w0, w.alloc (.cells #[.string ⟨q.m.toArray⟩, .string ⟨q.p.toArray⟩, .slice A q.hs.length ac, .string ⟨q.b.toArray⟩] 24) = w0 := ⟨_, rfl⟩
  have HB0 : Hid (Below w.heap.size w w0) := Lib.hid (by rw [← hw0]; exact (Below.refl _ _).alloc (Nat.le_refl _) _)
  have HBa : Hid (Bk w0 w.heap.size [.string ⟨q.m.toArray⟩, .string ⟨q.p.toArray⟩, .slice A q.hs.length ac, .string ⟨q.b.toArray⟩]) := Lib.hid (by rw [← hw0]; exact Bk.new w _ 24 rfl)
  have HL0 : Hid (w.heap.size < w0.heap.size) := Lib.hid (by rw [← hw0]; simp)
  have HD := Lib.hid (H.Hdrs.below hd HB0.out (Nat.le_refl _))
  have HM := Lib.hid (H.Hdrs.below hm HB0.out (Nat.le_refl _))
  have HG := Lib.hid (hg.below HB0.out)
  have HZ := Lib.hid hz
  have HZM := Lib.hid hzm
  have HLQ := Lib.hid hn
  have HLM := Lib.hid hmn
  clear hd hm hz hzm hg hn hmn
  unfold rqV
  go_enter Tryz.func4, Tryz.ntmps4
  go_upto_region 1 with fail
  clear hw0
  have x0 := (HBa.out 0 _ rfl).1
  have x1 := (HBa.out 1 _ rfl).1
  have x2 := (HBa.out 2 _ rfl).1
  have x3 := (HBa.out 3 _ rfl).1
  obtain ⟨w1, hw1⟩ : ∃ y, w0.alloc (.cells #[.string ⟨q.m.toArray⟩, .string ⟨q.p.toArray⟩, .slice A q.hs.length ac, .string ⟨q.b.toArray⟩] 24) = y := ⟨_, rfl⟩
  have HW1 : Hid (Below w0.heap.size w0 w1) := Lib.hid (by rw [← hw1]; exact (Below.refl _ _).alloc (Nat.le_refl _) _)
  have HX1 : Hid (Bk w1 w0.heap.size [.string ⟨q.m.toArray⟩, .string ⟨q.p.toArray⟩, .slice A q.hs.length ac, .string ⟨q.b.toArray⟩]) := Lib.hid (by rw [← hw1]; exact Bk.new w0 _ 24 rfl)
  have HS1 : Hid (w0.heap.size + 1 ≤ w1.heap.size) := Lib.hid (by rw [← hw1]; simp)
  go_upto_region 2 with fail
  clear hw1 x0 x1 x2 x3
  obtain ⟨y2, yf2⟩ := HX1.out 2 _ rfl
  go_upto_region 3 with fail
  obtain ⟨w2, hw2⟩ : ∃ y, w1.setCell ⟨w0.heap.size, 2, none⟩ (.slice none 0 0) = y := ⟨_, rfl⟩
  have HW2 : Hid (Below w0.heap.size w0 w2) := Lib.hid (by rw [← hw2]; exact HW1.out.setCell (p := ⟨w0.heap.size, 2, none⟩) (Nat.le_refl _) _)
  have HX2 : Hid (Bk w2 w0.heap.size [.string ⟨q.m.toArray⟩, .string ⟨q.p.toArray⟩, .slice none 0 0, .string ⟨q.b.toArray⟩]) := Lib.hid (by rw [← hw2]; exact HX1.out.set 2 _)
  have HS2 : Hid (w0.heap.size + 1 ≤ w2.heap.size) := Lib.hid (by rw [← hw2]; simpa using HS1.out)
  rw [hw2]
  clear hw2 y2 yf2
  go_wp2_with fail
  go_loopw [24] (fun kv wr => ∃ (k : Nat) (Hv : Value), k ≤ more.length ∧ kv = .int .i64 (k : Int) ∧ Hid (Below w0.heap.size w0 wr) ∧ Hid (Bk wr w0.heap.size [.string ⟨q.m.toArray⟩, .string ⟨q.p.toArray⟩, Hv, .string ⟨q.b.toArray⟩]) ∧ Hid (H.OwnH wr (w0.heap.size + 1) Hv (otherH (more.take k))) ∧ Hid (w0.heap.size + 1 ≤ wr.heap.size)) (fun kv _ => more.length - (intOf kv).toNat)
  case atStart => exact ⟨0, Value.slice none 0 0, by omega, rfl, HW2, HX2, Lib.hid (H.OwnH.nil _ _), HS2⟩
  case round =>
    obtain ⟨k, Hv, hk, rfl, HWr, HXr, HOr, HSr⟩ := hrel
    by_cases hlt : k < more.length
    · obtain ⟨hb, off, rfl, hbl, hcc⟩ := hdr_cells HM.out (by omega)
      obtain ⟨c0, c1⟩ := hcc k hlt
      have hlt2 : (k : Int) < (more.length : Int) := by omega
      have hkb : k < 1048576 := by have := HLM.out; omega
      have HZK : Hid (more[k].1.length ≤ 1048576) := Lib.hid (HZM.out _ (List.getElem_mem hlt)).1
      have HSK := Lib.hid (other_snoc hlt)
      obtain ⟨⟨hn, hv⟩, hz⟩ : ∃ z, more[k] = z := ⟨_, rfl⟩
      rw [hz] at c0 c1 HZK HSK
      dsimp only at c0 c1 HZK
      have d0 := old_cell HWr.out hbl c0
      have d1 := old_cell HWr.out hbl c1
      clear hcc hbl c0 c1 hz
      obtain ⟨w5, hw5⟩ : ∃ y, wr.alloc (.cells #[.string ⟨hn.toArray⟩, .string ⟨hv.toArray⟩] 45) = y := ⟨_, rfl⟩
      have HW5 : Hid (Below w0.heap.size w0 w5) := Lib.hid (by rw [← hw5]; exact HWr.out.alloc HWr.out.size _)
      have HN5 : Hid (w5.cell? ⟨wr.heap.size, 0, none⟩ = some (.string ⟨hn.toArray⟩) ∧ w5.cell? ⟨wr.heap.size, 1, none⟩ = some (.string ⟨hv.toArray⟩)) := Lib.hid (by rw [← hw5]; exact pair_at _ _ _ _ _ rfl)
      have HX5 : Hid (Bk w5 w0.heap.size [.string ⟨q.m.toArray⟩, .string ⟨q.p.toArray⟩, Hv, .string ⟨q.b.toArray⟩]) := Lib.hid (by rw [← hw5]; exact HXr.out.alloc _ HSr.out)
      have HO5 : Hid (H.OwnH w5 (w0.heap.size + 1) Hv (otherH (more.take k))) := Lib.hid (by rw [← hw5]; exact HOr.out.below ((Below.refl wr.heap.size wr).alloc (Nat.le_refl _) _) (Nat.le_refl _))
      have HZ5 : Hid (wr.heap.size < w5.heap.size) := Lib.hid (by rw [← hw5]; simp)
      go_upto_region 6 with fail
      clear hw5 d0 d1
      obtain ⟨n0, n1⟩ := HN5.out
      obtain ⟨w6, hw6⟩ : ∃ y, w5.alloc (.cells #[.string ⟨hn.toArray⟩, .string ⟨hv.toArray⟩] 45) = y := ⟨_, rfl⟩
      have HB6 : Hid (Below w5.heap.size w5 w6) := Lib.hid (by rw [← hw6]; exact (Below.refl _ _).alloc (Nat.le_refl _) _)
      have hf := H.findR_any [(hn, hv)] tokenH (.slice (some ⟨w5.heap.size, 0, none⟩) 1 1) w6 (by rw [← hw6]; exact one_hdrs w5 (hn, hv) 45 rfl) (by decide) (fun x hx => by simp at hx; subst hx; exact Nat.le_trans HZK.out (by decide))
      rw [find_one] at hf
      go_wp2_with fail
      go_at_call 16
      refine hf.mono ?_
      clear hf hw6 n0 n1
      rintro e w7 ⟨rfl, hb7⟩
      have HB7 := Lib.hid (HB6.out.trans (hb7.mono HB6.out.size))
      have HW7 := Lib.hid (HW5.out.trans (HB7.out.mono HW5.out.size))
      have HX7 := Lib.hid (HX5.out.below HB7.out (Nat.lt_trans HSr.out HZ5.out))
      have HO7 := Lib.hid (HO5.out.below HB7.out (Nat.le_refl _))
      have HN7 : Hid (w7.cell? ⟨wr.heap.size, 0, none⟩ = some (.string ⟨hn.toArray⟩) ∧ w7.cell? ⟨wr.heap.size, 1, none⟩ = some (.string ⟨hv.toArray⟩)) := Lib.hid ⟨old_cell HB7.out HZ5.out HN5.out.1, old_cell HB7.out HZ5.out HN5.out.2⟩
      have HS7 : Hid (w0.heap.size + 1 ≤ w7.heap.size) := Lib.hid (Nat.le_trans HSr.out (Nat.le_trans (Nat.le_of_lt HZ5.out) HB7.out.size))
      clear hb7 HB6 HB7
      cases hh : H.hit tokenH (hn, hv) with
      | true =>
        rw [hh] at HSK
        clear hh
        simp only [H.findV, if_true, Option.isSome, Option.getD] at HSK ⊢
        go_wp2_with fail
        exact ⟨⟨k + 1, Hv, by omega, by go_num, HW7, HX7, Lib.hid (by rw [HSK.out, List.append_nil]; exact HO7.out), HS7⟩, by simp [intOf]; omega⟩
      | false =>
        rw [hh] at HSK
        clear hh
        simp only [H.findV, Bool.false_eq_true, if_false, Option.isSome, Option.getD] at HSK ⊢
        go_upto_region 8 with fail
        have z0 := (HX7.out 0 _ rfl).1
        have z1 := (HX7.out 1 _ rfl).1
        have z2 := (HX7.out 2 _ rfl).1
        have z3 := (HX7.out 3 _ rfl).1
        obtain ⟨n0, n1⟩ := HN7.out
        obtain ⟨w8, hw8⟩ : ∃ y, w7.alloc (.cells #[.string ⟨hn.toArray⟩, .string ⟨hv.toArray⟩] 45) = y := ⟨_, rfl⟩
        have HW8 : Hid (Below w0.heap.size w0 w8) := Lib.hid (by rw [← hw8]; exact HW7.out.alloc HW7.out.size _)
        have HX8 : Hid (Bk w8 w0.heap.size [.string ⟨q.m.toArray⟩, .string ⟨q.p.toArray⟩, Hv, .string ⟨q.b.toArray⟩]) := Lib.hid (by rw [← hw8]; exact HX7.out.alloc _ HS7.out)
        have HO8 : Hid (H.OwnH w8 (w0.heap.size + 1) Hv (otherH (more.take k))) := Lib.hid (by rw [← hw8]; exact HO7.out.below ((Below.refl w7.heap.size w7).alloc (Nat.le_refl _) _) (Nat.le_refl _))
        have H18 : Hid (H.Hdrs w8 (.slice (some ⟨w7.heap.size, 0, none⟩) 1 1) [(hn, hv)]) := Lib.hid (by rw [← hw8]; exact one_hdrs w7 (hn, hv) 45 rfl)
        have HS8 : Hid (w0.heap.size + 1 ≤ w8.heap.size) := Lib.hid (Nat.le_trans HS7.out (by rw [← hw8]; simp))
        have HL8 : Hid ((otherH (more.take k)).length + 1 ≤ 1000000000) := Lib.hid (by have h1 := other_len (more.take k); have h2 := HLM.out; rw [List.length_take] at h1; omega)
        obtain ⟨A8, n8, c8, rfl⟩ := own_form HO8.out
        go_wp2_with (at_builtin; refine H.wpList_appHs rfl (.tmp 37) (.tmp 39) rfl rfl HO8.out rfl H18.out HL8.out HS8.out ?_; intro v9 w9 ho hb; have HO9 := Lib.hid ho; have HW9 := Lib.hid (HW8.out.trans (hb.mono (Nat.le_succ _))); have HX9 := Lib.hid (HX8.out.below hb (Nat.lt_succ_self _)); have HS9 : Hid (w0.heap.size + 1 ≤ w9.heap.size) := Lib.hid (Nat.le_trans HS8.out hb.size); clear ho hb hw8; obtain ⟨A9, n9, c9, h9⟩ := own_form HO9.out; subst h9; obtain ⟨y2, yf2⟩ := HX9.out 2 _ rfl)
        exact ⟨⟨k + 1, _, by omega, by go_num, Lib.hid (HW9.out.setCell (p := ⟨w0.heap.size, 2, none⟩) (Nat.le_refl _) _), Lib.hid (HX9.out.set 2 _), Lib.hid (by rw [HSK.out]; exact HO9.out.setCell (p := ⟨w0.heap.size, 2, none⟩) (Nat.lt_succ_self _) _), Lib.hid (by simpa using HS9.out)⟩, by simp [intOf]; omega⟩
    · have hkl : k = more.length := by omega
      subst hkl
      have HOr2 : Hid (H.OwnH wr (w0.heap.size + 1) Hv (otherH more)) := Lib.hid (by have := HOr.out; rwa [List.take_length] at this)
      obtain ⟨x2, -⟩ := HBa.out 2 _ rfl
      have x2' := old_cell HWr.out HL0.out x2
      clear x2 HOr
      go_wp2_with fail
      go_loopw [46] (fun kv wr => ∃ (k : Nat) (Hv : Value), k ≤ q.hs.length ∧ kv = .int .i64 (k : Int) ∧ Hid (Below w0.heap.size w0 wr) ∧ Hid (Bk wr w0.heap.size [.string ⟨q.m.toArray⟩, .string ⟨q.p.toArray⟩, Hv, .string ⟨q.b.toArray⟩]) ∧ Hid (H.OwnH wr (w0.heap.size + 1) Hv (otherH more ++ tokH (q.hs.take k))) ∧ Hid (w0.heap.size + 1 ≤ wr.heap.size)) (fun kv _ => q.hs.length - (intOf kv).toNat)
      case atStart => exact ⟨0, Hv, by omega, rfl, HWr, HXr, Lib.hid (by simpa [tokH] using HOr2.out), HSr⟩
      case round =>
        obtain ⟨k, Hv, hk, rfl, HWr, HXr, HOr, HSr⟩ := hrel
        by_cases hlt : k < q.hs.length
        · obtain ⟨hb, off, rfl, hbl, hcc⟩ := hdr_cells HD.out (by omega)
          obtain ⟨c0, c1⟩ := hcc k hlt
          have hlt2 : (k : Int) < (q.hs.length : Int) := by omega
          have hkb : k < 1048576 := by have := HLQ.out; omega
          have HZK : Hid (q.hs[k].1.length ≤ 1048576) := Lib.hid (HZ.out.2.2 _ (List.getElem_mem hlt)).1
          have HSK := Lib.hid (tok_snoc hlt)
          obtain ⟨⟨hn, hv⟩, hz⟩ : ∃ z, q.hs[k] = z := ⟨_, rfl⟩
          rw [hz] at c0 c1 HZK HSK
          dsimp only at c0 c1 HZK
          have d0 := old_cell HWr.out hbl c0
          have d1 := old_cell HWr.out hbl c1
          clear hcc hbl c0 c1 hz
          obtain ⟨w5, hw5⟩ : ∃ y, wr.alloc (.cells #[.string ⟨hn.toArray⟩, .string ⟨hv.toArray⟩] 45) = y := ⟨_, rfl⟩
          have HW5 : Hid (Below w0.heap.size w0 w5) := Lib.hid (by rw [← hw5]; exact HWr.out.alloc HWr.out.size _)
          have HN5 : Hid (w5.cell? ⟨wr.heap.size, 0, none⟩ = some (.string ⟨hn.toArray⟩) ∧ w5.cell? ⟨wr.heap.size, 1, none⟩ = some (.string ⟨hv.toArray⟩)) := Lib.hid (by rw [← hw5]; exact pair_at _ _ _ _ _ rfl)
          have HX5 : Hid (Bk w5 w0.heap.size [.string ⟨q.m.toArray⟩, .string ⟨q.p.toArray⟩, Hv, .string ⟨q.b.toArray⟩]) := Lib.hid (by rw [← hw5]; exact HXr.out.alloc _ HSr.out)
          have HO5 : Hid (H.OwnH w5 (w0.heap.size + 1) Hv (otherH more ++ tokH (q.hs.take k))) := Lib.hid (by rw [← hw5]; exact HOr.out.below ((Below.refl wr.heap.size wr).alloc (Nat.le_refl _) _) (Nat.le_refl _))
          have HZ5 : Hid (wr.heap.size < w5.heap.size) := Lib.hid (by rw [← hw5]; simp)
          go_upto_region 13 with fail
          clear hw5 d0 d1
          obtain ⟨n0, n1⟩ := HN5.out
          obtain ⟨w6, hw6⟩ : ∃ y, w5.alloc (.cells #[.string ⟨hn.toArray⟩, .string ⟨hv.toArray⟩] 45) = y := ⟨_, rfl⟩
          have HB6 : Hid (Below w5.heap.size w5 w6) := Lib.hid (by rw [← hw6]; exact (Below.refl _ _).alloc (Nat.le_refl _) _)
          have hf := H.findR_any [(hn, hv)] tokenH (.slice (some ⟨w5.heap.size, 0, none⟩) 1 1) w6 (by rw [← hw6]; exact one_hdrs w5 (hn, hv) 45 rfl) (by decide) (fun x hx => by simp at hx; subst hx; exact Nat.le_trans HZK.out (by decide))
          rw [find_one] at hf
          go_wp2_with fail
          go_at_call 16
          refine hf.mono ?_
          clear hf hw6 n0 n1
          rintro e w7 ⟨rfl, hb7⟩
          have HB7 := Lib.hid (HB6.out.trans (hb7.mono HB6.out.size))
          have HW7 := Lib.hid (HW5.out.trans (HB7.out.mono HW5.out.size))
          have HX7 := Lib.hid (HX5.out.below HB7.out (Nat.lt_trans HSr.out HZ5.out))
          have HO7 := Lib.hid (HO5.out.below HB7.out (Nat.le_refl _))
          have HN7 : Hid (w7.cell? ⟨wr.heap.size, 0, none⟩ = some (.string ⟨hn.toArray⟩) ∧ w7.cell? ⟨wr.heap.size, 1, none⟩ = some (.string ⟨hv.toArray⟩)) := Lib.hid ⟨old_cell HB7.out HZ5.out HN5.out.1, old_cell HB7.out HZ5.out HN5.out.2⟩
          have HS7 : Hid (w0.heap.size + 1 ≤ w7.heap.size) := Lib.hid (Nat.le_trans HSr.out (Nat.le_trans (Nat.le_of_lt HZ5.out) HB7.out.size))
          clear hb7 HB6 HB7
          cases hh : H.hit tokenH (hn, hv) with
          | true =>
            rw [hh] at HSK
            clear hh
            simp only [H.findV, if_true, Option.isSome, Option.getD] at HSK ⊢
            go_upto_region 15 with fail
            have z0 := (HX7.out 0 _ rfl).1
            have z1 := (HX7.out 1 _ rfl).1
            have z2 := (HX7.out 2 _ rfl).1
            have z3 := (HX7.out 3 _ rfl).1
            obtain ⟨n0, n1⟩ := HN7.out
            obtain ⟨w8, hw8⟩ : ∃ y, w7.alloc (.cells #[.string ⟨hn.toArray⟩, .string ⟨hv.toArray⟩] 45) = y := ⟨_, rfl⟩
            have HW8 : Hid (Below w0.heap.size w0 w8) := Lib.hid (by rw [← hw8]; exact HW7.out.alloc HW7.out.size _)
            have HX8 : Hid (Bk w8 w0.heap.size [.string ⟨q.m.toArray⟩, .string ⟨q.p.toArray⟩, Hv, .string ⟨q.b.toArray⟩]) := Lib.hid (by rw [← hw8]; exact HX7.out.alloc _ HS7.out)
            have HO8 : Hid (H.OwnH w8 (w0.heap.size + 1) Hv (otherH more ++ tokH (q.hs.take k))) := Lib.hid (by rw [← hw8]; exact HO7.out.below ((Below.refl w7.heap.size w7).alloc (Nat.le_refl _) _) (Nat.le_refl _))
            have H18 : Hid (H.Hdrs w8 (.slice (some ⟨w7.heap.size, 0, none⟩) 1 1) [(hn, hv)]) := Lib.hid (by rw [← hw8]; exact one_hdrs w7 (hn, hv) 45 rfl)
            have HS8 : Hid (w0.heap.size + 1 ≤ w8.heap.size) := Lib.hid (Nat.le_trans HS7.out (by rw [← hw8]; simp))
            have HL8 : Hid ((otherH more ++ tokH (q.hs.take k)).length + 1 ≤ 1000000000) := Lib.hid (by have h1 := other_len more; have h2 := tok_hlen (q.hs.take k); have h3 := HLM.out; have h4 := HLQ.out; rw [List.length_take] at h2; rw [List.length_append]; omega)
            obtain ⟨A8, n8, c8, rfl⟩ := own_form HO8.out
            go_wp2_with (at_builtin; refine H.wpList_appHs rfl (.tmp 58) (.tmp 60) rfl rfl HO8.out rfl H18.out HL8.out HS8.out ?_; intro v9 w9 ho hb; have HO9 := Lib.hid ho; have HW9 := Lib.hid (HW8.out.trans (hb.mono (Nat.le_succ _))); have HX9 := Lib.hid (HX8.out.below hb (Nat.lt_succ_self _)); have HS9 : Hid (w0.heap.size + 1 ≤ w9.heap.size) := Lib.hid (Nat.le_trans HS8.out hb.size); clear ho hb hw8; obtain ⟨A9, n9, c9, h9⟩ := own_form HO9.out; subst h9; obtain ⟨y2, yf2⟩ := HX9.out 2 _ rfl)
            exact ⟨⟨k + 1, _, by omega, by go_num, Lib.hid (HW9.out.setCell (p := ⟨w0.heap.size, 2, none⟩) (Nat.le_refl _) _), Lib.hid (HX9.out.set 2 _), Lib.hid (by rw [HSK.out, ← List.append_assoc]; exact HO9.out.setCell (p := ⟨w0.heap.size, 2, none⟩) (Nat.lt_succ_self _) _), Lib.hid (by simpa using HS9.out)⟩, by simp [intOf]; omega⟩
          | false =>
            rw [hh] at HSK
            clear hh
            simp only [H.findV, Bool.false_eq_true, if_false, Option.isSome, Option.getD] at HSK ⊢
            go_wp2_with fail
            exact ⟨⟨k + 1, Hv, by omega, by go_num, HW7, HX7, Lib.hid (by rw [HSK.out, List.append_nil]; exact HO7.out), HS7⟩, by simp [intOf]; omega⟩
        · have hkl : k = q.hs.length := by omega
          subst hkl
          have HO3 : Hid (H.OwnH wr (w0.heap.size + 1) Hv (otherH more ++ tokH q.hs)) := Lib.hid (by have := HOr.out; rwa [List.take_length] at this)
          obtain ⟨q2, hq2⟩ : ∃ q2 : Rq, q2 = ⟨q.m, q.p, otherH more ++ tokH q.hs, q.b⟩ := ⟨_, rfl⟩
          have HLN : Hid ((otherH more ++ tokH q.hs).length ≤ 4611686018427387903) := Lib.hid (by have h1 := other_len more; have h2 := tok_hlen q.hs; have h3 := HLM.out; have h4 := HLQ.out; rw [List.length_append]; omega)
          have HZ2 : Hid (Small q2) := Lib.hid (by
            rw [hq2]
            refine ⟨HZ.out.1, HZ.out.2.1, fun x hx => ?_⟩
            rcases List.mem_append.1 hx with h | h
            · exact HZM.out x (List.mem_filter.1 h).1
            · exact HZ.out.2.2 x (List.mem_filter.1 h).1)
          obtain ⟨X, hX⟩ : ∃ y, routeL q.m q.p (H.findL q.hs tokenH) q.b id = y := ⟨_, rfl⟩
          have HX2 : Hid (routeL q2.m q2.p (H.findL q2.hs tokenH) q2.b id = X) := Lib.hid (by rw [hq2]; dsimp only; rw [find_other]; exact hX)
          have HXX := Lib.hid hX
          have HQ2 := Lib.hid hq2
          have HGr := Lib.hid (HG.out.below HWr.out)
          have hr := RouteA q (.slice A q.hs.length ac) id wr (H.Hdrs.below HD.out HWr.out (Nat.le_refl _)) HZ.out HGr.out
          unfold rqV at hr
          rw [hX] at hr
          have HAr := Lib.hid (HBa.out.below HWr.out HL0.out)
          have HB0r := Lib.hid (HB0.out.trans (HWr.out.mono HB0.out.size))
          clear hX hq2 HOr
          obtain ⟨A9, n9, c9, h9⟩ := own_form HO3.out
          subst h9
          have x0 := (HAr.out 0 _ rfl).1
          have x1 := (HAr.out 1 _ rfl).1
          have x2 := (HAr.out 2 _ rfl).1
          have x3 := (HAr.out 3 _ rfl).1
          have hng : ¬ (q.hs.length : Int) < (q.hs.length : Int) := by omega
          go_wp2_with fail
          go_at_call 11
          refine hr.mono ?_
          clear hr x0 x1 x2 x3
          rintro e w1' ⟨hb, ⟨a, v, rfl, rfl, hA⟩ | ⟨c, rfl, rfl⟩⟩
          · obtain ⟨e1, m1, c1, rfl, he, hm, hc⟩ := hA
            obtain ⟨E1, a1, rfl⟩ := he.form
            obtain ⟨M1, b1, rfl⟩ := hm.form
            obtain ⟨D1, d1, rfl⟩ := hc.form
            have hok := route_ok HXX.out
            have hcan := can_iff hok.2.2.2
            have hl1 : a.seen.es.length ≤ 4611686018427387903 := by have := hcan.2.1; omega
            have hl2 : a.seen.x.ms.length ≤ 4611686018427387903 := by have := (canX_iff.1 hcan.1).1; omega
            have hl3 : a.seen.x.cl.length ≤ 4611686018427387903 := by have := (canX_iff.1 hcan.1).2.1; omega
            have HE1 := Lib.hid (he.sl entC_len hl1)
            have HM1 := Lib.hid (hm.sl dotC_len hl2)
            have HC1 := Lib.hid (hc.sl dotC_len hl3)
            have HL1 := Lib.hid hl1
            have HL2 := Lib.hid hl2
            have HL3 := Lib.hid hl3
            have HB1 := Lib.hid hb
            clear he hm hc hok hcan hl1 hl2 hl3 hb
            obtain ⟨w2, hw2⟩ : ∃ y, w1'.alloc (.cells #[.int .i64 a.id, .int .i64 (a.kind : Int), .string ⟨a.key.toArray⟩, .string ⟨a.item.toArray⟩, .int .i64 (a.qty : Int), .int .u64 (a.price : Int), .slice E1 a.seen.es.length a1, .slice M1 a.seen.x.ms.length b1, .slice D1 a.seen.x.cl.length d1] 34) = y := ⟨_, rfl⟩
            have HLw2 : Hid (Below w1'.heap.size w1' w2) := Lib.hid (by rw [← hw2]; exact (Below.refl _ _).alloc (Nat.le_refl _) _)
            have HK1 : Hid (Bk w2 w1'.heap.size [.int .i64 a.id, .int .i64 (a.kind : Int), .string ⟨a.key.toArray⟩, .string ⟨a.item.toArray⟩, .int .i64 (a.qty : Int), .int .u64 (a.price : Int), .slice E1 a.seen.es.length a1, .slice M1 a.seen.x.ms.length b1, .slice D1 a.seen.x.cl.length d1]) := Lib.hid (by rw [← hw2]; exact Bk.new w1' _ 34 rfl)
            have HSw2 : Hid (w1'.heap.size < w2.heap.size) := Lib.hid (by rw [← hw2]; simp)
            have HR2 := Lib.hid (HB1.out.trans (HLw2.out.mono HB1.out.size))
            have HO4 := Lib.hid (HO3.out.below HR2.out (Nat.le_refl _))
            have HX4 := Lib.hid (HXr.out.below HR2.out HSr.out)
            have hr2 := RouteA q2 (.slice A9 n9 c9) id w2 (by rw [HQ2.out]; exact own_hdrs HO4.out HLN.out) HZ2.out (HGr.out.below HR2.out)
            unfold rqV at hr2
            rw [HX2.out] at hr2
            have HF : Hid (q2.m = q.m ∧ q2.p = q.p ∧ q2.b = q.b) := Lib.hid (by rw [HQ2.out]; exact ⟨rfl, rfl, rfl⟩)
            rw [HF.out.1, HF.out.2.1, HF.out.2.2] at hr2
            go_upto_region 18 with fail
            clear hw2
            have x0 := (HX4.out 0 _ rfl).1
            have x1 := (HX4.out 1 _ rfl).1
            have x2 := (HX4.out 2 _ rfl).1
            have x3 := (HX4.out 3 _ rfl).1
            go_wp2_with fail
            go_at_call 11
            refine hr2.mono ?_
            clear hr2 x0 x1 x2 x3
            rintro e w3 ⟨hb, ⟨a', v, hx, rfl, hA⟩ | ⟨c', hx, rfl⟩⟩
            case inr => cases hx
            cases hx
            obtain ⟨e1, m1, c1, rfl, he, hm, hc⟩ := hA
            obtain ⟨E2, a2, rfl⟩ := he.form
            obtain ⟨M2, b2, rfl⟩ := hm.form
            obtain ⟨D2, d2, rfl⟩ := hc.form
            have HE2 := Lib.hid (he.sl entC_len HL1.out)
            have HM2 := Lib.hid (hm.sl dotC_len HL2.out)
            have HC2 := Lib.hid (hc.sl dotC_len HL3.out)
            have HB2 := Lib.hid hb
            clear he hm hc hb
            obtain ⟨w4, hw4⟩ : ∃ y, w3.alloc (.cells #[.int .i64 a.id, .int .i64 (a.kind : Int), .string ⟨a.key.toArray⟩, .string ⟨a.item.toArray⟩, .int .i64 (a.qty : Int), .int .u64 (a.price : Int), .slice E2 a.seen.es.length a2, .slice M2 a.seen.x.ms.length b2, .slice D2 a.seen.x.cl.length d2] 34) = y := ⟨_, rfl⟩
            have HLw4 : Hid (Below w3.heap.size w3 w4) := Lib.hid (by rw [← hw4]; exact (Below.refl _ _).alloc (Nat.le_refl _) _)
            have HK2 : Hid (Bk w4 w3.heap.size [.int .i64 a.id, .int .i64 (a.kind : Int), .string ⟨a.key.toArray⟩, .string ⟨a.item.toArray⟩, .int .i64 (a.qty : Int), .int .u64 (a.price : Int), .slice E2 a.seen.es.length a2, .slice M2 a.seen.x.ms.length b2, .slice D2 a.seen.x.cl.length d2]) := Lib.hid (by rw [← hw4]; exact Bk.new w3 _ 34 rfl)
            have HSw4 : Hid (w3.heap.size < w4.heap.size) := Lib.hid (by rw [← hw4]; simp)
            have HR3 := Lib.hid (HB2.out.trans (HLw4.out.mono HB2.out.size))
            have HK1' := Lib.hid (HK1.out.below HR3.out HSw2.out)
            have HR1 := Lib.hid (HLw2.out.trans (HR3.out.mono HLw2.out.size))
            have HBW := Lib.hid (HB0r.out.trans ((HR2.out.trans (HR3.out.mono HR2.out.size)).mono HB0r.out.size))
            have HG4 := Lib.hid (HGr.out.below (HR2.out.trans (HR3.out.mono HR2.out.size)))
            have hsa := sameAsk_any a.id (a.kind : Int) (a.qty : Int) a.key a.item a.price a.seen E1 M1 D1 a1 b1 d1 E2 M2 D2 a2 b2 d2 w4 (HE1.out.below HR1.out (Nat.le_refl _)) (HM1.out.below HR1.out (Nat.le_refl _)) (HC1.out.below HR1.out (Nat.le_refl _)) (HE2.out.below HLw4.out (Nat.le_refl _)) (HM2.out.below HLw4.out (Nat.le_refl _)) (HC2.out.below HLw4.out (Nat.le_refl _))
            have haw := awake_any awkC
            go_upto_region 19 with fail
            clear hw4
            have x0 := (HK1'.out 0 _ rfl).1
            have x1 := (HK1'.out 1 _ rfl).1
            have x2 := (HK1'.out 2 _ rfl).1
            have x3 := (HK1'.out 3 _ rfl).1
            have x4 := (HK1'.out 4 _ rfl).1
            have x5 := (HK1'.out 5 _ rfl).1
            have x6 := (HK1'.out 6 _ rfl).1
            have x7 := (HK1'.out 7 _ rfl).1
            have x8 := (HK1'.out 8 _ rfl).1
            have y0 := (HK2.out 0 _ rfl).1
            have y1 := (HK2.out 1 _ rfl).1
            have y2 := (HK2.out 2 _ rfl).1
            have y3 := (HK2.out 3 _ rfl).1
            have y4 := (HK2.out 4 _ rfl).1
            have y5 := (HK2.out 5 _ rfl).1
            have y6 := (HK2.out 6 _ rfl).1
            have y7 := (HK2.out 7 _ rfl).1
            have y8 := (HK2.out 8 _ rfl).1
            go_wp2_with fail
            go_at_call 15
            refine hsa.mono ?_
            clear hsa
            rintro e w5 ⟨rfl, hb⟩
            have HB5 := Lib.hid (HBW.out.trans (hb.mono HBW.out.size))
            have haw3 := haw w5 (HG4.out.below hb)
            clear hb haw
            go_wp2_with (go_at_call 13; refine haw3.mono ?_; clear haw3; rintro e w6 ⟨rfl, hb⟩; have HB6 := Lib.hid (HB5.out.trans (hb.mono HB5.out.size)); clear hb)
            go_ret
            exact ⟨rfl, HB6.out⟩
          · have HB1 := Lib.hid hb
            clear hb
            obtain ⟨w2, hw2⟩ : ∃ y, w1'.alloc (.cells #[.int .i64 0, .int .i64 0, .string ⟨#[]⟩, .string ⟨#[]⟩, .int .i64 0, .int .u64 0, .slice none 0 0, .slice none 0 0, .slice none 0 0] 34) = y := ⟨_, rfl⟩
            have HLw2 : Hid (Below w1'.heap.size w1' w2) := Lib.hid (by rw [← hw2]; exact (Below.refl _ _).alloc (Nat.le_refl _) _)
            have HK1 : Hid (Bk w2 w1'.heap.size [.int .i64 0, .int .i64 0, .string ⟨#[]⟩, .string ⟨#[]⟩, .int .i64 0, .int .u64 0, .slice none 0 0, .slice none 0 0, .slice none 0 0]) := Lib.hid (by rw [← hw2]; exact Bk.new w1' _ 34 rfl)
            have HSw2 : Hid (w1'.heap.size < w2.heap.size) := Lib.hid (by rw [← hw2]; simp)
            have HEw2 := Lib.hid hw2
            clear hw2
            have HR2 := Lib.hid (HB1.out.trans (HLw2.out.mono HB1.out.size))
            have HO4 := Lib.hid (HO3.out.below HR2.out (Nat.le_refl _))
            have HX4 := Lib.hid (HXr.out.below HR2.out HSr.out)
            have hr2 := RouteA q2 (.slice A9 n9 c9) id w2 (by rw [HQ2.out]; exact own_hdrs HO4.out HLN.out) HZ2.out (HGr.out.below HR2.out)
            unfold rqV at hr2
            rw [HX2.out] at hr2
            have HF : Hid (q2.m = q.m ∧ q2.p = q.p ∧ q2.b = q.b) := Lib.hid (by rw [HQ2.out]; exact ⟨rfl, rfl, rfl⟩)
            rw [HF.out.1, HF.out.2.1, HF.out.2.2] at hr2
            go_upto_region 18 with fail
            rw [HEw2.out]
            clear HEw2
            have x0 := (HX4.out 0 _ rfl).1
            have x1 := (HX4.out 1 _ rfl).1
            have x2 := (HX4.out 2 _ rfl).1
            have x3 := (HX4.out 3 _ rfl).1
            go_wp2_with fail
            go_at_call 11
            refine hr2.mono ?_
            clear hr2 x0 x1 x2 x3
            rintro e w3 ⟨hb, ⟨a', v, hx, rfl, hA⟩ | ⟨c', hx, rfl⟩⟩
            case inl => cases hx
            cases hx
            have HB2 := Lib.hid hb
            clear hb
            obtain ⟨w4, hw4⟩ : ∃ y, w3.alloc (.cells #[.int .i64 0, .int .i64 0, .string ⟨#[]⟩, .string ⟨#[]⟩, .int .i64 0, .int .u64 0, .slice none 0 0, .slice none 0 0, .slice none 0 0] 34) = y := ⟨_, rfl⟩
            have HLw4 : Hid (Below w3.heap.size w3 w4) := Lib.hid (by rw [← hw4]; exact (Below.refl _ _).alloc (Nat.le_refl _) _)
            have HK2 : Hid (Bk w4 w3.heap.size [.int .i64 0, .int .i64 0, .string ⟨#[]⟩, .string ⟨#[]⟩, .int .i64 0, .int .u64 0, .slice none 0 0, .slice none 0 0, .slice none 0 0]) := Lib.hid (by rw [← hw4]; exact Bk.new w3 _ 34 rfl)
            have HSw4 : Hid (w3.heap.size < w4.heap.size) := Lib.hid (by rw [← hw4]; simp)
            have HEw4 := Lib.hid hw4
            clear hw4
            have HR3 := Lib.hid (HB2.out.trans (HLw4.out.mono HB2.out.size))
            have HK1' := Lib.hid (HK1.out.below HR3.out HSw2.out)
            have HBW := Lib.hid (HB0r.out.trans ((HR2.out.trans (HR3.out.mono HR2.out.size)).mono HB0r.out.size))
            have HG4 := Lib.hid (HGr.out.below (HR2.out.trans (HR3.out.mono HR2.out.size)))
            have hsa := sameAsk_any 0 0 0 [] [] 0 noC none none none 0 0 0 none none none 0 0 0 w4 (Sl.nil _) (Sl.nil _) (Sl.nil _) (Sl.nil _) (Sl.nil _) (Sl.nil _)
            dsimp only [noC, List.length_nil] at hsa
            have haw := awake_any awkC
            go_upto_region 19 with fail
            rw [HEw4.out]
            clear HEw4
            have x0 := (HK1'.out 0 _ rfl).1
            have x1 := (HK1'.out 1 _ rfl).1
            have x2 := (HK1'.out 2 _ rfl).1
            have x3 := (HK1'.out 3 _ rfl).1
            have x4 := (HK1'.out 4 _ rfl).1
            have x5 := (HK1'.out 5 _ rfl).1
            have x6 := (HK1'.out 6 _ rfl).1
            have x7 := (HK1'.out 7 _ rfl).1
            have x8 := (HK1'.out 8 _ rfl).1
            have y0 := (HK2.out 0 _ rfl).1
            have y1 := (HK2.out 1 _ rfl).1
            have y2 := (HK2.out 2 _ rfl).1
            have y3 := (HK2.out 3 _ rfl).1
            have y4 := (HK2.out 4 _ rfl).1
            have y5 := (HK2.out 5 _ rfl).1
            have y6 := (HK2.out 6 _ rfl).1
            have y7 := (HK2.out 7 _ rfl).1
            have y8 := (HK2.out 8 _ rfl).1
            go_wp2_with fail
            go_at_call 15
            refine hsa.mono ?_
            clear hsa
            rintro e w5 ⟨rfl, hb⟩
            have HB5 := Lib.hid (HBW.out.trans (hb.mono HBW.out.size))
            have haw3 := haw w5 (HG4.out.below hb)
            clear hb haw
            go_wp2_with (go_at_call 13; refine haw3.mono ?_; clear haw3; rintro e w6 ⟨rfl, hb⟩; have HB6 := Lib.hid (HB5.out.trans (hb.mono HB5.out.size)); clear hb)
            go_ret
            exact ⟨rfl, HB6.out⟩
end Go.Proofs.YtpdedfpacklnoaaGreatDoor
