/- WireNobody: the walk of the law. -/
import Derived.Test.YthjfogllinboaaaReads2
namespace Go.Proofs.Ythjfogllinboaaa
open Go.RowKit Go.BL Go.Wr
theorem seven (w : World) : Rd (w.alloc (.cells #[.int .u8 7] 5)) (some ⟨w.heap.size, 0, none⟩) 1 [7] := rd_one w w.heap.size 7 rfl (by omega) 5 (0, 0)
set_option maxRecDepth 100000 in
theorem nobody_any (most : Int) (w : World) : Calls Try.prog 4 #[.int .i64 most] w (RetV (.bool true) w) := by
  go_enter Try.func4, Try.ntmps4
  go_wp2
  have hb : Below w.heap.size w ((w.alloc (.cells #[.slice none 0 0, .int .i64 0, .bool false] 31)).alloc (.cells #[.pointer none, .pointer (some ⟨w.heap.size, 0, none⟩)] 29)) := by go_grown
  have hp : ∀ k, k < 2 → ∃ p, ((w.alloc (.cells #[.slice none 0 0, .int .i64 0, .bool false] 31)).alloc (.cells #[.pointer none, .pointer (some ⟨w.heap.size, 0, none⟩)] 29)).cell? ⟨w.heap.size + 1, k, none⟩ = some (.pointer p) ∧ Nobody ((w.alloc (.cells #[.slice none 0 0, .int .i64 0, .bool false] 31)).alloc (.cells #[.pointer none, .pointer (some ⟨w.heap.size, 0, none⟩)] 29)) p := by
    intro k hk
    rcases (show k = 0 ∨ k = 1 by omega) with rfl | rfl
    · exact ⟨none, by simp [go_sem], .inl rfl⟩
    · exact ⟨some ⟨w.heap.size, 0, none⟩, by simp [go_sem], .inr ⟨_, rfl, by simp [go_sem]⟩⟩
  have hs : w.heap.size + 1 < ((w.alloc (.cells #[.slice none 0 0, .int .i64 0, .bool false] 31)).alloc (.cells #[.pointer none, .pointer (some ⟨w.heap.size, 0, none⟩)] 29)).heap.size := by simp
  generalize ((w.alloc (.cells #[.slice none 0 0, .int .i64 0, .bool false] 31)).alloc (.cells #[.pointer none, .pointer (some ⟨w.heap.size, 0, none⟩)] 29)) = W0 at *
  have Hb := Lib.hid hb
  have Hp := Lib.hid hp
  have Hs := Lib.hid hs
  clear hb hp hs
  go_loopw [17] (fun i wr => ∃ k : Nat, k ≤ 2 ∧ i = .int .i64 (k : Int) ∧ Hid (Below W0.heap.size W0 wr)) (fun i _ => 2 - (intOf i).toNat)
  case atStart => exact ⟨0, by omega, rfl, Lib.hid (Below.refl _ _)⟩
  case round =>
    obtain ⟨k, hk, rfl, HK⟩ := hrel
    by_cases hlt : k < 2
    · obtain ⟨p, hc, hno⟩ := Hp.out k hlt
      have hc1 := (HK.out.cell (p := ⟨w.heap.size + 1, k, none⟩) Hs.out).trans hc
      have H1 := Lib.hid (hno.below HK.out)
      clear hc hno
      go_wp2_with fail
      refine (uint_no p _ H1.out).mono ?_
      rintro e w1 ⟨rfl, hb⟩
      have H2 := Lib.hid (H1.out.below hb)
      have HK1 := Lib.hid (HK.out.trans (hb.mono HK.out.size))
      clear hb
      go_wp2_with fail
      refine (byte_no p _ H2.out).mono ?_
      rintro e w2 ⟨rfl, hb⟩
      have H3 := Lib.hid (H2.out.below hb)
      have HK2 := Lib.hid (HK1.out.trans (hb.mono HK1.out.size))
      clear hb
      go_wp2_with fail
      refine (rtext_no p _ _ H3.out).mono ?_
      rintro e w3 ⟨rfl, hb⟩
      have H4 := Lib.hid (H3.out.below hb)
      have HK3 := Lib.hid (HK2.out.trans (hb.mono HK2.out.size))
      clear hb
      go_wp2_with fail
      refine (end_no p _ H4.out).mono ?_
      rintro e w4 ⟨rfl, rfl⟩
      go_wp2_with fail
      refine (at_no p _ H4.out).mono ?_
      rintro e w4 ⟨rfl, rfl⟩
      go_wp2_with fail
      refine (left_no p _ H4.out).mono ?_
      rintro e w4 ⟨rfl, rfl⟩
      go_wp2
      go_roundw
      case rel => exact ⟨k + 1, by omega, by go_num, HK3⟩
      case measure => simp [intOf]; omega
    · obtain rfl : k = 2 := by omega
      have HB : Hid (Below w.heap.size w wr) := Lib.hid (Hb.out.trans (HK.out.mono Hb.out.size))
      go_wp2_with fail
      refine (over_rdr _ 1 1 [7] _ (seven wr) (by omega)).mono ?_
      rintro e w1 ⟨g, rfl, hg, hr, hb⟩
      have HR := Lib.hid hr
      have HB1 : Hid (Below w.heap.size w w1) := Lib.hid ((HB.out.alloc HB.out.size _).trans (hb.mono (by simp; have := HB.out.size; omega)))
      have Hg : Hid (w.heap.size ≤ g) := Lib.hid (by have := HB.out.size; simp at hg; omega)
      clear hr hb hg
      go_wp2_with fail
      refine (byte_any _ g [7] 0 _ HR.out (Nat.le_refl _)).mono ?_
      rintro e w2 ⟨rfl, hr, hk⟩
      have HB2 : Hid (Below w.heap.size w w2) := Lib.hid (HB1.out.trans (hk.below HB1.out.size (fun x hx => by have := Hg.out; simp at hx; omega)))
      clear hr hk
      have h7 : (byteAt [7] 0).1 = 7 := rfl
      have h0 : (byteAt [7] 0).2.1 = 0 := rfl
      rw [h7, h0]
      clear h7 h0
      go_wp2
      go_ret
      exact ⟨rfl, HB2.out⟩
end Go.Proofs.Ythjfogllinboaaa
