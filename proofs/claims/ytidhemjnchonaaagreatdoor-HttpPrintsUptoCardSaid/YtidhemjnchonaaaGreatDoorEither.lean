/- The law HttpEither, walked. -/
import Derived.Test.YtidhemjnchonaaaGreatDoorPlain
namespace Go.Proofs.YtidhemjnchonaaaGreatDoor
open Go.RowKit Go.BL

theorem req0_hdrs (w : World) : Hdrs w (.slice none 0 0) [] := ⟨by decide, none, 0, rfl, fun h => absurd h (by decide)⟩
theorem codes_any (c : Int) (hc : c ∈ codes) (w : World) (g : Nat) (hg : g = w.heap.size) : Calls Tryz.prog 24 #[.slice (some ⟨g, 0, none⟩) 6 6, .int .i64 c] (w.alloc (.cells #[.int .i64 400, .int .i64 413, .int .i64 414, .int .i64 431, .int .i64 501, .int .i64 505] 3))
    fun e w' => e = .returned (.bool true) ∧ w.alloc (.cells #[.int .i64 400, .int .i64 413, .int .i64 414, .int .i64 431, .int .i64 501, .int .i64 505] 3) = w' := by
  subst hg
  refine (Tryz.slices_Contains_int w.heap.size 0 6 6 codes c _ (by decide) (by decide) (fun j hj => ?_)).mono ?_
  · rw [World.cell?_alloc_at _ _ _ _ rfl]
    have : j < 6 := hj
    rcases j with _ | _ | _ | _ | _ | _ | _ <;> first | rfl | omega
  · rintro e w' ⟨rfl, rfl⟩
    refine ⟨?_, rfl⟩
    have : (codes.take 6).contains c = true := by
      rw [show codes.take 6 = codes from rfl]
      simpa using hc
    rw [this]
theorem suffix_any (v : Value) (b body : List UInt8) (w : World) (hv : Bsl w v b) (g c' : Nat) (hr : Row w g body) (hs : Lib.hasSuffix b body = true) :
    Calls Tryz.prog 23 #[v, .slice (some ⟨g, 0, none⟩) body.length c'] w fun e w' => e = .returned (.bool true) ∧ w = w' := by
  have h2 : Lib.BytesIn w (some ⟨g, 0, none⟩) body.length (ints body) := fun _ => ⟨g, 0, rfl, fun i hi => by rw [Nat.zero_add, ints_get body i hi]; exact (hr i hi).1⟩
  have key : ∀ p1 n c, n = b.length → n ≤ c → Lib.BytesIn w p1 n (ints b) → Calls Tryz.prog 23 #[.slice p1 n c, .slice (some ⟨g, 0, none⟩) body.length c'] w fun e w' => e = .returned (.bool true) ∧ w = w' := by
    intro p1 n c hn hnc h1
    refine (Tryz.bytes_HasSuffix_all p1 (some ⟨g, 0, none⟩) n c body.length c' (ints b) (ints body) w (by simp [ints, hn]) (by simp [ints]) hnc (by have := hv.1; omega) h1 h2).mono ?_
    rintro e w' ⟨rfl, rfl⟩
    rw [ints_bytes, ints_bytes, hs]
    exact ⟨rfl, rfl⟩
  obtain ⟨h0, ⟨A0, c0, rfl, rfl, _⟩ | ⟨blk, off, c, rfl, hcap, hlt, hc⟩⟩ := hv
  · exact key A0 0 c0 rfl (Nat.zero_le _) (Lib.BytesIn.nil _ _ _)
  · exact key _ _ c rfl hcap (fun _ => ⟨blk, off, rfl, fun i hi => by rw [ints_get b i hi]; exact hc i hi⟩)
set_option maxHeartbeats 4000000 in
set_option maxRecDepth 100000 in
theorem either_any (v : Value) (b : List UInt8) (w : World) (hv : Bsl w v b) (he : Env w) (ht : Tab w) : Calls Tryz.prog 6 #[v] w (RetV (.bool true) w) := by
  have hcl := clone_any v b w hv
  have HV := Lib.hid hv
  have HE := Lib.hid he
  have HT := Lib.hid ht
  clear hv he ht
  go_enter Tryz.func6, Tryz.ntmps6
  go_wp2_with (go_at_call 18; refine hcl.mono ?_; rintro e w1 ⟨v1, rfl, hb1, hb⟩; have HV1 := Lib.hid hb1; have HB1 := Lib.hid hb; clear hb1 hb)
  go_at_call 17
  refine (parse_any v1 b _ HV1.out (HE.out.below HB1.out)).mono ?_
  cases hp : parseL b with
  | error c =>
    rintro e w2 ⟨rfl, hb⟩
    have HB2 := Lib.hid (HB1.out.trans (hb.mono HB1.out.size))
    have hc := parse_err hp
    have hc0 : (c == (0 : Int)) = false := by
      unfold codes at hc
      simp at hc
      rcases hc with rfl | rfl | rfl | rfl | rfl | rfl <;> rfl
    have hcd := codes_any c hc
    have haw := awake_any
    have hsr := fun w => sameR_any ⟨[], [], [], []⟩ ⟨[], [], [], []⟩ (.slice none 0 0) (.slice none 0 0) w (req0_hdrs w) (req0_hdrs w)
    rw [show sameR ⟨[], [], [], []⟩ ⟨[], [], [], []⟩ = true by decide] at hsr
    unfold reqV at hsr
    have HS2 := Lib.hid HB2.out.size
    clear hb hp hc
    go_wp2_with (first
      | (go_at_call 24; refine (hcd _ _ (by simp)).mono ?_; rintro e w' ⟨rfl, rfl⟩)
      | (go_at_call 20; refine (hsr _).mono ?_; rintro e w3 ⟨rfl, hb⟩; have HB3 := Lib.hid (HB2.out.trans ((below_alloc (below_alloc hb)).mono HS2.out)); clear hb)
      | (go_at_call 16; refine (haw _ (HE.out.below HB3.out) (HT.out.below HB3.out)).mono ?_; rintro e w4 ⟨rfl, hb⟩; have HB4 := Lib.hid (HB3.out.trans (hb.mono HB3.out.size)); clear hb))
    go_ret
    exact ⟨rfl, HB4.out⟩
  | ok q =>
    rintro e w2 ⟨h, rfl, hh, hb⟩
    obtain ⟨A, c, rfl⟩ := hh.form
    have HB2 := Lib.hid (HB1.out.trans (hb.mono HB1.out.size))
    have HH := Lib.hid hh
    obtain ⟨ls, n, k, l0, h1, h2, h3, h4, h5, -, -⟩ := parse_ok hp
    obtain ⟨h6, t, h7⟩ := first_ok h1
    obtain ⟨h8, h9⟩ := length_ok h3
    have hfs := find_host h9
    obtain ⟨x, hx⟩ := Option.isSome_iff_exists.1 hfs
    have hfi := fun w (hd : Hdrs w (.slice A q.hs.length c) q.hs) => find_any q.hs hostK _ w hd (by decide) (fun y hy => Nat.le_trans (headers_len ls 0 q.hs h2 y hy) (by decide))
    rw [hx] at hfi
    have HV2 := Lib.hid (HV.out.below HB2.out (Nat.le_refl _))
    have hbl : q.b.length ≤ 4096 := by omega
    obtain ⟨qm, qp, qh, qb⟩ := q
    simp only at h4 h5 h6 h7 hbl hfi ⊢
    subst h7
    have haw := awake_any
    have HK := Lib.hid h5
    have HM := Lib.hid h6
    cases qm with
    | nil => exact absurd rfl h6
    | cons m0 mr =>
    clear hb hh h1 h2 h3 h4 h5 h6 h8 h9 hfs hx hp
    have HS2 := Lib.hid HB2.out.size
    have hi0 : ∀ h, (⟨(47 :: t).toArray⟩ : ByteArray)[0]'h = 47 := fun _ => rfl
    have hsf : Lib.hasSuffix b qb = true := by
      rw [HK.out]
      unfold Lib.hasSuffix
      rw [List.isSuffixOf_iff_suffix]
      exact List.drop_suffix _ _
    have hbl' : decide ((qb.length : Int) ≤ 4096) = true := decide_eq_true (by omega)
    go_wp2_with (first
      | (go_at_call 12; refine (hfi _ (HH.out.alloc _)).mono ?_; rintro e w3 ⟨rfl, hb⟩; have HB3 := Lib.hid (HB2.out.trans ((below_alloc hb).mono HS2.out)); obtain ⟨n0, n1, n2, n3⟩ := cells4 hb; obtain ⟨w4, c4, hcv, hr4, hb4, -⟩ := conv_in qb w3; have HB4 := Lib.hid (HB3.out.trans (hb4.mono HB3.out.size)); have HR4 := Lib.hid hr4; clear hb hr4 hb4; dsimp only [findV])
      | (go_at_call 23; refine (suffix_any v b qb _ (HV.out.below HB4.out (Nat.le_refl _)) _ _ HR4.out hsf).mono ?_; rintro e w' ⟨rfl, rfl⟩)
      | (go_at_call 16; refine (haw _ (HE.out.below HB4.out) (HT.out.below HB4.out)).mono ?_; rintro e w5 ⟨rfl, hb⟩; have HB5 := Lib.hid (HB4.out.trans (hb.mono HB4.out.size)); clear hb))
    go_ret
    exact ⟨rfl, HB5.out⟩
end Go.Proofs.YtidhemjnchonaaaGreatDoor
