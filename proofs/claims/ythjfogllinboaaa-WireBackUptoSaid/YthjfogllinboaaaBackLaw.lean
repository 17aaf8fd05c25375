/- WireBack: the walk of the law. -/
import Derived.Test.YthjfogllinboaaaPlain2
import Derived.Test.YthjfogllinboaaaUnf
import Derived.Test.YthjfogllinboaaaLawKit
namespace Go.BL
open Go.Wr
theorem bstr_bl (s : ByteArray) : bstr (bl s) = s := by
  unfold bstr bl
  rw [List.map_map]
  have h : (fun x => x) = (UInt8.ofNat ∘ UInt8.toNat) := by funext x; simp
  rw [← h, List.map_id']
end Go.BL
namespace Go.Proofs.Ythjfogllinboaaa
open Go.RowKit Go.BL Go.Wr
theorem putZ (N : Nat) (z : Int) (hz : z = (N : Int)) (hN : N < 9223372036854775808) (w : World) : Calls Try.prog 11 #[.slice none 0 0, .int .i64 z] w (RetO (enc N) w) := by
  subst hz
  have h := put_any none 0 0 [] (N : Int) w Rd.none_ (by omega) (by omega)
  rwa [List.nil_append, Int.toNat_natCast] at h
set_option maxRecDepth 100000 in
set_option maxHeartbeats 4000000 in
theorem back_pos (N : Nat) (hN : N < 9223372036854775808) (s : ByteArray) (A C : Option Addr) (m cap q qcap : Nat) (ps cs : List Nat) (w : World) (hr : Rd w A m ps) (hc : Rd w C q cs) (hs : s.size ≤ 1048576) (hm : m ≤ 1048576) (hq : q ≤ 1048576) :
    Calls Try.prog 9 #[.int .i64 (N : Int), .string s, .slice A m cap, .slice C q qcap] w (RetV (.bool true) w) := by
  have Hz : Hid ((N : Int) = (N : Int)) := Lib.hid rfl
  have hN2 : (N : Int) ≤ 9223372036854775807 := by omega
  have hl := hr.1
  subst hl
  have hl := hc.1
  subst hl
  have Hr := Lib.hid hr
  have Hc := Lib.hid hc
  have Hs := Lib.hid hs
  have Hm := Lib.hid hm
  have Hq := Lib.hid hq
  have HN := Lib.hid hN
  have He := Lib.hid (enc_len9 (n := N) hN)
  have Hes := Lib.hid (enc_len9 (n := s.size) (by omega))
  have hb1 := Hr.out.2.2.1
  have HbP := Lib.hid hb1
  obtain ⟨X, hX⟩ : ∃ X, enc N ++ enc s.size ++ bl s = X := ⟨_, rfl⟩
  have HX := Lib.hid hX
  have HXl : Hid (X.length ≤ 1048600) := Lib.hid (by have h1 := He.out; have h2 := Hes.out; have h3 := bl_length s; have h4 := Hs.out; rw [← hX]; simp only [List.length_append]; omega)
  have HUa : Hid (uintAt (X ++ cs) 0 = (N, 0, (enc N).length)) := Lib.hid (by
    rw [← hX, List.append_assoc, List.append_assoc]; exact uint_back _ hN)
  have HTa : Hid (textAt (X ++ cs) (enc N).length (s.size : Int) = (bl s, 0, X.length)) := Lib.hid (by
    have h := text_back (enc N) (bl s) cs (by rw [bl_length]; omega)
    rw [bl_length, hX] at h; exact h)
  have Hbs := Lib.hid (bstr_bl s)
  clear hr hc hm hq hs hN hX hb1
  have C_0_0 : Hid (Below w.heap.size w w) := Lib.hid (Below.refl _ _)
  go_enter Try.func9, Try.ntmps9
  go_wp2_with fail
  refine (putZ N _ rfl HN.out _).mono ?_
  rintro e w1 ⟨v, rfl, ho, hb⟩
  obtain ⟨A1, c1, rfl, hrd, -⟩ := ho.len (n := (enc N).length) rfl
  have R1 := Lib.hid hrd
  have C_0_1 := Lib.hid hb
  clear ho hrd hb
  go_wp2_with fail
  refine (text_any A1 (enc N).length c1 (enc N) s _ R1.out (by have := He.out; have := Hs.out; omega)).mono ?_
  rw [HX.out]
  rintro e w2 ⟨v2, rfl, ho, hb⟩
  have O2 := Lib.hid ho
  have C_0_2 : Hid (Below w.heap.size w w2) := Lib.hid (C_0_1.out.trans (hb.mono C_0_1.out.size))
  have hs12 := hb.size
  have C12 := Lib.hid hs12
  clear ho hb hs12
  go_wp2_with (at_builtin; refine wpList_appB rfl (.tmp 24) (.tmp 25) 22 rfl Try.underlying22 info5 rfl O2.out rfl (Hc.out.below C_0_2.out (Nat.le_refl _)) (by have := HXl.out; have := Hq.out; omega) C12.out ?_; intro v3 w3 ho hb; have O3 := Lib.hid ho; have C_0_3 : Hid (Below w.heap.size w w3) := Lib.hid (C_0_2.out.trans (hb.mono C_0_1.out.size)); clear ho hb; obtain ⟨A3, c3, rfl, hrd3, -⟩ := O3.out.len (n := X.length + cs.length) (by rw [List.length_append]); have R3 := Lib.hid hrd3; clear hrd3)
  refine (over_rdr A3 (X.length + cs.length) c3 (X ++ cs) _ R3.out (by have := HXl.out; have := Hq.out; omega)).mono ?_
  rintro e w4 ⟨g, rfl, hg, hrd, hb, -⟩
  have RR4 := Lib.hid hrd
  have Hg : Hid (w.heap.size ≤ g) := Lib.hid (Nat.le_trans C_0_3.out.size hg)
  have C_0_4 : Hid (Below w.heap.size w w4) := Lib.hid (C_0_3.out.trans (hb.mono C_0_3.out.size))
  clear hrd hg hb
  go_wp2_with fail
  refine (uint_any _ g (X ++ cs) 0 _ RR4.out (Nat.le_refl _)).mono ?_
  rw [HUa.out]
  rintro e w5 ⟨rfl, hrd, hk⟩
  have RR5 : Hid (Rdr w5 w4.heap.size g (X ++ cs) (enc N).length) := Lib.hid hrd
  have C_0_5 : Hid (Below w.heap.size w w5) := Lib.hid (C_0_4.out.trans (hk.below C_0_4.out.size (fun x hx => by have := Hg.out; simp at hx; omega)))
  have S45 := Lib.hid hk.size
  clear hrd hk
  go_wp2_with fail
  refine (rtext_any _ g (X ++ cs) (enc N).length (s.size : Int) _ RR5.out S45.out).mono ?_
  rw [HTa.out]
  rintro e w6 ⟨he, hrd, hk⟩
  have he2 : e = .returned (.tuple #[.string s, .int .i64 0]) := by rw [he, Hbs.out]; rfl
  subst he2
  have RR6 : Hid (Rdr w6 w4.heap.size g (X ++ cs) X.length) := Lib.hid hrd
  have C_0_6 : Hid (Below w.heap.size w w6) := Lib.hid (C_0_5.out.trans (hk.below C_0_5.out.size (fun x hx => by have := Hg.out; simp at hx; omega)))
  clear he hrd hk
  
  go_wp2_with fail
  refine (left_any _ g (X ++ cs) X.length _ RR6.out).mono ?_
  have hleft : (X ++ cs).length - X.length = cs.length := by rw [List.length_append]; omega
  rw [hleft]
  clear hleft
  rintro e w7 ⟨rfl, N7, hw7⟩
  have C_0_7 : Hid (Below w.heap.size w w7) := Lib.hid (by rw [hw7]; exact below_drewN C_0_6.out N7)
  clear hw7
  
  go_wp2_with fail
  refine (frame_any A ps.length cap ps _ (Hr.out.below C_0_7.out (Nat.le_refl _))).mono ?_
  by_cases hlong : 65536 < ps.length
  · have HF : Hid (frame ps = ([], 4)) := Lib.hid (if_pos hlong)
    rw [HF.out]
    rintro e w8 ⟨A8, c8, rfl, -, -, hb⟩
    have C_0_8 : Hid (Below w.heap.size w w8) := Lib.hid (C_0_7.out.trans (hb.mono C_0_7.out.size))
    clear hb
    go_wp2
    go_ret
    exact ⟨rfl, C_0_8.out⟩
  · obtain ⟨FL, hFL⟩ : ∃ FL, (frame ps).1 = FL := ⟨_, rfl⟩
    have hub := unframe_frame (p := ps) (behind := cs) (by omega) HbP.out
    rw [hFL] at hub
    have HU := Lib.hid hub.1
    have HF : Hid (frame ps = (FL, 0)) := Lib.hid (by rw [← hFL, ← hub.2])
    have HFl : Hid (FL.length ≤ 1048600) := Lib.hid (by
      have h1 : frame ps = (enc ps.length ++ ps ++ le4 (sum ps), 0) := if_neg hlong
      have := enc_len9 (n := ps.length) (by omega)
      rw [← hFL, h1]
      simp only [List.length_append, le4, List.length_cons, List.length_nil]; omega)
    clear hub hFL
    rw [HF.out]
    rintro e w8 ⟨A8, c8, rfl, hrd, -, hb⟩
    have R8 : Hid (Rd w8 A8 FL.length FL) := Lib.hid hrd
    have C_0_8 : Hid (Below w.heap.size w w8) := Lib.hid (C_0_7.out.trans (hb.mono C_0_7.out.size))
    clear hrd hb
    go_wp2_with fail
    refine (clone_any A8 FL.length c8 FL _ R8.out (by have := HFl.out; omega)).mono ?_
    rintro e w9 ⟨v9, rfl, ho, hb⟩
    have O9 := Lib.hid ho
    have C_0_9 : Hid (Below w.heap.size w w9) := Lib.hid (C_0_8.out.trans (hb.mono C_0_8.out.size))
    have S89 := Lib.hid hb.size
    clear ho hb
    go_wp2_with (at_builtin; refine wpList_appB rfl (.tmp 76) (.tmp 77) 22 rfl Try.underlying22 info5 rfl O9.out rfl (Hc.out.below C_0_9.out (Nat.le_refl _)) (by have := HFl.out; have := Hq.out; omega) S89.out ?_; intro v10 w10 ho hb; have O10 := Lib.hid ho; have C_0_10 : Hid (Below w.heap.size w w10) := Lib.hid (C_0_9.out.trans (hb.mono C_0_8.out.size)); clear ho hb; obtain ⟨A10, c10, rfl, hrd10, -⟩ := O10.out.len (n := FL.length + cs.length) (by rw [List.length_append]); have R10 := Lib.hid hrd10; clear hrd10)
    refine (unframe_any A10 (FL.length + cs.length) c10 (FL ++ cs) _ R10.out (by have := HFl.out; have := Hq.out; omega)).mono ?_
    rw [HU.out]
    rintro e w11 ⟨A_p, c_p, A_r, c_r, rfl, how, how2, hb⟩
    have RP : Hid (Rd w11 A_p ps.length ps) := Lib.hid (own_rd how)
    have RQ : Hid (Rd w11 A_r cs.length cs) := Lib.hid (own_rd how2)
    have C_0_11 : Hid (Below w.heap.size w w11) := Lib.hid (C_0_10.out.trans (hb.mono C_0_10.out.size))
    clear how how2 hb
    go_wp2_with fail
    refine (equal_same' A A_p ps.length cap c_p ps _ (Hr.out.below C_0_11.out (Nat.le_refl _)) RP.out).mono ?_
    rintro e w12 ⟨rfl, hb⟩
    have RQ2 := Lib.hid (RQ.out.below hb (Nat.le_refl _))
    have C_0_12 : Hid (Below w.heap.size w w12) := Lib.hid (C_0_11.out.trans (hb.mono C_0_11.out.size))
    clear hb
    go_wp2_with fail
    refine (equal_same' A_r C cs.length c_r qcap cs _ RQ2.out (Hc.out.below C_0_12.out (Nat.le_refl _))).mono ?_
    rintro e w13 ⟨rfl, hb⟩
    have C_0_13 : Hid (Below w.heap.size w w13) := Lib.hid (C_0_12.out.trans (hb.mono C_0_12.out.size))
    clear hb
    go_wp2
    go_ret
    exact ⟨rfl, C_0_13.out⟩
set_option maxRecDepth 100000 in
set_option maxHeartbeats 4000000 in
theorem back_neg (n : Int) (hn : n < 0) (s : ByteArray) (A C : Option Addr) (m cap q qcap : Nat) (ps cs : List Nat) (w : World) (hr : Rd w A m ps) (hc : Rd w C q cs) (hs : s.size ≤ 1048576) (hm : m ≤ 1048576) (hq : q ≤ 1048576) :
    Calls Try.prog 9 #[.int .i64 n, .string s, .slice A m cap, .slice C q qcap] w (RetV (.bool true) w) := by
  obtain ⟨N, hN0⟩ : ∃ N : Nat, N = 0 := ⟨0, rfl⟩
  have hN : N < 9223372036854775808 := by omega
  have hz : (0 : Int) = (N : Int) := by omega
  have Hz : Hid ((0 : Int) = (N : Int)) := Lib.hid hz
  clear hz hN0
  have hl := hr.1
  subst hl
  have hl := hc.1
  subst hl
  have Hr := Lib.hid hr
  have Hc := Lib.hid hc
  have Hs := Lib.hid hs
  have Hm := Lib.hid hm
  have Hq := Lib.hid hq
  have HN := Lib.hid hN
  have He := Lib.hid (enc_len9 (n := N) hN)
  have Hes := Lib.hid (enc_len9 (n := s.size) (by omega))
  have hb1 := Hr.out.2.2.1
  have HbP := Lib.hid hb1
  obtain ⟨X, hX⟩ : ∃ X, enc N ++ enc s.size ++ bl s = X := ⟨_, rfl⟩
  have HX := Lib.hid hX
  have HXl : Hid (X.length ≤ 1048600) := Lib.hid (by have h1 := He.out; have h2 := Hes.out; have h3 := bl_length s; have h4 := Hs.out; rw [← hX]; simp only [List.length_append]; omega)
  have HUa : Hid (uintAt (X ++ cs) 0 = (N, 0, (enc N).length)) := Lib.hid (by
    rw [← hX, List.append_assoc, List.append_assoc]; exact uint_back _ hN)
  have HTa : Hid (textAt (X ++ cs) (enc N).length (s.size : Int) = (bl s, 0, X.length)) := Lib.hid (by
    have h := text_back (enc N) (bl s) cs (by rw [bl_length]; omega)
    rw [bl_length, hX] at h; exact h)
  have Hbs := Lib.hid (bstr_bl s)
  clear hr hc hm hq hs hN hX hb1
  have C_0_0 : Hid (Below w.heap.size w w) := Lib.hid (Below.refl _ _)
  go_enter Try.func9, Try.ntmps9
  go_wp2_with fail
  refine (putZ N 0 Hz.out HN.out _).mono ?_
  rintro e w1 ⟨v, rfl, ho, hb⟩
  obtain ⟨A1, c1, rfl, hrd, -⟩ := ho.len (n := (enc N).length) rfl
  have R1 := Lib.hid hrd
  have C_0_1 := Lib.hid hb
  clear ho hrd hb
  go_wp2_with fail
  refine (text_any A1 (enc N).length c1 (enc N) s _ R1.out (by have := He.out; have := Hs.out; omega)).mono ?_
  rw [HX.out]
  rintro e w2 ⟨v2, rfl, ho, hb⟩
  have O2 := Lib.hid ho
  have C_0_2 : Hid (Below w.heap.size w w2) := Lib.hid (C_0_1.out.trans (hb.mono C_0_1.out.size))
  have hs12 := hb.size
  have C12 := Lib.hid hs12
  clear ho hb hs12
  go_wp2_with (at_builtin; refine wpList_appB rfl (.tmp 24) (.tmp 25) 22 rfl Try.underlying22 info5 rfl O2.out rfl (Hc.out.below C_0_2.out (Nat.le_refl _)) (by have := HXl.out; have := Hq.out; omega) C12.out ?_; intro v3 w3 ho hb; have O3 := Lib.hid ho; have C_0_3 : Hid (Below w.heap.size w w3) := Lib.hid (C_0_2.out.trans (hb.mono C_0_1.out.size)); clear ho hb; obtain ⟨A3, c3, rfl, hrd3, -⟩ := O3.out.len (n := X.length + cs.length) (by rw [List.length_append]); have R3 := Lib.hid hrd3; clear hrd3)
  refine (over_rdr A3 (X.length + cs.length) c3 (X ++ cs) _ R3.out (by have := HXl.out; have := Hq.out; omega)).mono ?_
  rintro e w4 ⟨g, rfl, hg, hrd, hb, -⟩
  have RR4 := Lib.hid hrd
  have Hg : Hid (w.heap.size ≤ g) := Lib.hid (Nat.le_trans C_0_3.out.size hg)
  have C_0_4 : Hid (Below w.heap.size w w4) := Lib.hid (C_0_3.out.trans (hb.mono C_0_3.out.size))
  clear hrd hg hb
  go_wp2_with fail
  refine (uint_any _ g (X ++ cs) 0 _ RR4.out (Nat.le_refl _)).mono ?_
  rw [HUa.out]
  rintro e w5 ⟨rfl, hrd, hk⟩
  have RR5 : Hid (Rdr w5 w4.heap.size g (X ++ cs) (enc N).length) := Lib.hid hrd
  have C_0_5 : Hid (Below w.heap.size w w5) := Lib.hid (C_0_4.out.trans (hk.below C_0_4.out.size (fun x hx => by have := Hg.out; simp at hx; omega)))
  have S45 := Lib.hid hk.size
  clear hrd hk
  go_wp2_with fail
  refine (rtext_any _ g (X ++ cs) (enc N).length (s.size : Int) _ RR5.out S45.out).mono ?_
  rw [HTa.out]
  rintro e w6 ⟨he, hrd, hk⟩
  have he2 : e = .returned (.tuple #[.string s, .int .i64 0]) := by rw [he, Hbs.out]; rfl
  subst he2
  have RR6 : Hid (Rdr w6 w4.heap.size g (X ++ cs) X.length) := Lib.hid hrd
  have C_0_6 : Hid (Below w.heap.size w w6) := Lib.hid (C_0_5.out.trans (hk.below C_0_5.out.size (fun x hx => by have := Hg.out; simp at hx; omega)))
  clear he hrd hk
  have hzz := Hz.out
  go_wp2_with fail
  refine (left_any _ g (X ++ cs) X.length _ RR6.out).mono ?_
  have hleft : (X ++ cs).length - X.length = cs.length := by rw [List.length_append]; omega
  rw [hleft]
  clear hleft
  rintro e w7 ⟨rfl, N7, hw7⟩
  have C_0_7 : Hid (Below w.heap.size w w7) := Lib.hid (by rw [hw7]; exact below_drewN C_0_6.out N7)
  clear hw7
  clear hzz
  go_wp2_with fail
  refine (frame_any A ps.length cap ps _ (Hr.out.below C_0_7.out (Nat.le_refl _))).mono ?_
  by_cases hlong : 65536 < ps.length
  · have HF : Hid (frame ps = ([], 4)) := Lib.hid (if_pos hlong)
    rw [HF.out]
    rintro e w8 ⟨A8, c8, rfl, -, -, hb⟩
    have C_0_8 : Hid (Below w.heap.size w w8) := Lib.hid (C_0_7.out.trans (hb.mono C_0_7.out.size))
    clear hb
    go_wp2
    go_ret
    exact ⟨rfl, C_0_8.out⟩
  · obtain ⟨FL, hFL⟩ : ∃ FL, (frame ps).1 = FL := ⟨_, rfl⟩
    have hub := unframe_frame (p := ps) (behind := cs) (by omega) HbP.out
    rw [hFL] at hub
    have HU := Lib.hid hub.1
    have HF : Hid (frame ps = (FL, 0)) := Lib.hid (by rw [← hFL, ← hub.2])
    have HFl : Hid (FL.length ≤ 1048600) := Lib.hid (by
      have h1 : frame ps = (enc ps.length ++ ps ++ le4 (sum ps), 0) := if_neg hlong
      have := enc_len9 (n := ps.length) (by omega)
      rw [← hFL, h1]
      simp only [List.length_append, le4, List.length_cons, List.length_nil]; omega)
    clear hub hFL
    rw [HF.out]
    rintro e w8 ⟨A8, c8, rfl, hrd, -, hb⟩
    have R8 : Hid (Rd w8 A8 FL.length FL) := Lib.hid hrd
    have C_0_8 : Hid (Below w.heap.size w w8) := Lib.hid (C_0_7.out.trans (hb.mono C_0_7.out.size))
    clear hrd hb
    go_wp2_with fail
    refine (clone_any A8 FL.length c8 FL _ R8.out (by have := HFl.out; omega)).mono ?_
    rintro e w9 ⟨v9, rfl, ho, hb⟩
    have O9 := Lib.hid ho
    have C_0_9 : Hid (Below w.heap.size w w9) := Lib.hid (C_0_8.out.trans (hb.mono C_0_8.out.size))
    have S89 := Lib.hid hb.size
    clear ho hb
    go_wp2_with (at_builtin; refine wpList_appB rfl (.tmp 76) (.tmp 77) 22 rfl Try.underlying22 info5 rfl O9.out rfl (Hc.out.below C_0_9.out (Nat.le_refl _)) (by have := HFl.out; have := Hq.out; omega) S89.out ?_; intro v10 w10 ho hb; have O10 := Lib.hid ho; have C_0_10 : Hid (Below w.heap.size w w10) := Lib.hid (C_0_9.out.trans (hb.mono C_0_8.out.size)); clear ho hb; obtain ⟨A10, c10, rfl, hrd10, -⟩ := O10.out.len (n := FL.length + cs.length) (by rw [List.length_append]); have R10 := Lib.hid hrd10; clear hrd10)
    refine (unframe_any A10 (FL.length + cs.length) c10 (FL ++ cs) _ R10.out (by have := HFl.out; have := Hq.out; omega)).mono ?_
    rw [HU.out]
    rintro e w11 ⟨A_p, c_p, A_r, c_r, rfl, how, how2, hb⟩
    have RP : Hid (Rd w11 A_p ps.length ps) := Lib.hid (own_rd how)
    have RQ : Hid (Rd w11 A_r cs.length cs) := Lib.hid (own_rd how2)
    have C_0_11 : Hid (Below w.heap.size w w11) := Lib.hid (C_0_10.out.trans (hb.mono C_0_10.out.size))
    clear how how2 hb
    go_wp2_with fail
    refine (equal_same' A A_p ps.length cap c_p ps _ (Hr.out.below C_0_11.out (Nat.le_refl _)) RP.out).mono ?_
    rintro e w12 ⟨rfl, hb⟩
    have RQ2 := Lib.hid (RQ.out.below hb (Nat.le_refl _))
    have C_0_12 : Hid (Below w.heap.size w w12) := Lib.hid (C_0_11.out.trans (hb.mono C_0_11.out.size))
    clear hb
    go_wp2_with fail
    refine (equal_same' A_r C cs.length c_r qcap cs _ RQ2.out (Hc.out.below C_0_12.out (Nat.le_refl _))).mono ?_
    rintro e w13 ⟨rfl, hb⟩
    have C_0_13 : Hid (Below w.heap.size w w13) := Lib.hid (C_0_12.out.trans (hb.mono C_0_12.out.size))
    clear hb
    go_wp2
    go_ret
    exact ⟨rfl, C_0_13.out⟩
theorem back_any (n : Int) (hn : n ≤ 9223372036854775807) (s : ByteArray) (A C : Option Addr) (m cap q qcap : Nat) (ps cs : List Nat) (w : World) (hr : Rd w A m ps) (hc : Rd w C q cs) (hs : s.size ≤ 1048576) (hm : m ≤ 1048576) (hq : q ≤ 1048576) :
    Calls Try.prog 9 #[.int .i64 n, .string s, .slice A m cap, .slice C q qcap] w (RetV (.bool true) w) := by
  by_cases h : n < 0
  · exact back_neg n h s A C m cap q qcap ps cs w hr hc hs hm hq
  · obtain ⟨N, rfl⟩ := Int.eq_ofNat_of_zero_le (show 0 ≤ n by omega)
    exact back_pos N (by omega) s A C m cap q qcap ps cs w hr hc hs hm hq
end Go.Proofs.Ythjfogllinboaaa
