/- Contract of ormap.Encode: cartB, or what Can says. Contract of token.Make: tokT, or what Can says. -/
import Derived.Test.YtpdedfpacklnoaaGreatDoorTzEnA
import Derived.Test.YtpdedfpacklnoaaGreatDoorTzTkE
import Derived.Test.YtpdedfpacklnoaaGreatDoorTzTkI
import Derived.Test.YtpdedfpacklnoaaGreatDoorTzRdP
import Derived.Test.YtpdedfpacklnoaaGreatDoorTzLtA
set_option maxRecDepth 100000
namespace Go.Proofs.YtpdedfpacklnoaaGreatDoor
open Go.RowKit Go.BL Go.Ct Go.Sl Go.Wr W

theorem nats_bl (l : List UInt8) : bl ⟨l.toArray⟩ = nats l := by simp [bl, nats]
theorem take_ents {l : List En} {k : Nat} (h : k < l.length) : entsB (l.take (k + 1)) = entsB (l.take k) ++ entB (l[k]'h) := by
 have : ∀ (a : List En) (d : En), entsB (a ++ [d]) = entsB a ++ entB d := by
  intro a d
  induction a with
  | nil => simp [entsB]
  | cons x r ih => simp [entsB, ih]
 rw [List.take_succ_eq_append_getElem h, this]
def enc4 (l : List Int) (m : Nat) : List Nat := ((l.take m).map fun n => enc n.toNat).flatten
theorem enc4_at {a b c d : Int} (ha : a ≤ 9223372036854775807) (hb : b ≤ 9223372036854775807) (hc : c ≤ 9223372036854775807) (hd : d ≤ 9223372036854775807) {m : Nat} (hm : m < 4) :
  ∃ z, ([.int .i64 a, .int .i64 b, .int .i64 c, .int .i64 d] : List Value)[m]? = some (.int .i64 z) ∧ z ≤ 9223372036854775807 ∧ enc4 [a, b, c, d] (m + 1) = enc4 [a, b, c, d] m ++ enc z.toNat ∧ (enc4 [a, b, c, d] m).length ≤ 36 := by
 have h1 := enc_le ha; have h2 := enc_le hb; have h3 := enc_le hc; have h4 := enc_le hd
 rcases (by omega : m = 0 ∨ m = 1 ∨ m = 2 ∨ m = 3) with rfl | rfl | rfl | rfl
 ·exact ⟨a, rfl, ha, by simp [enc4], by simp [enc4]⟩
 ·exact ⟨b, rfl, hb, by simp [enc4], by simp [enc4]; omega⟩
 ·exact ⟨c, rfl, hc, by simp [enc4], by simp [enc4]; omega⟩
 ·exact ⟨d, rfl, hd, by simp [enc4], by simp [enc4]; omega⟩
theorem le8_at {p i : Nat} (h : i < 8) : (le8 p).take (i + 1) = (le8 p).take i ++ [p / 2 ^ (8 * i) % 256] := by
 rcases (by omega : i = 0 ∨ i = 1 ∨ i = 2 ∨ i = 3 ∨ i = 4 ∨ i = 5 ∨ i = 6 ∨ i = 7) with rfl | rfl | rfl | rfl | rfl | rfl | rfl | rfl <;> simp [le8]
/-- What ormap.Encode answers. -/
def EncC (c : Ct) (w : World) (e : Ending) (w' : World) : Prop := ∃ v, Below w.heap.size w w' ∧ e = .returned (.tuple #[v, .int .i64 ((canC c : Nat) : Int)]) ∧ (canC c = 0 → Go.BL.Own w' w.heap.size v (cartB c))
set_option maxHeartbeats 8000000 in
theorem encode_any (es : List En) (x : Cx) (ev mv cv : Value) (w : World) (he : Ents w ev es) (hm : Dots w mv x.ms) (hc : Dots w cv x.cl) (hcp : ∀ A n c, ev = .slice A n c → n ≤ c) (hsl : ∀ e ∈ es, e.it.length ≤ 1073741824 ∧ e.p < 18446744073709551616) :
  Calls Tryz.prog 118 #[.agg #[ev, mv, cv]] w (EncC ⟨es, x⟩ w) := by
 obtain ⟨A, ec, rfl⟩ := he.form
 have HSL := Lib.hid hsl
 obtain ⟨w0, hw0⟩ : ∃ w0, w.alloc (.cells #[.slice A es.length ec, mv, cv] 32) = w0 := ⟨_, rfl⟩
 have HB : Hid (Below w.heap.size w w0) := Lib.hid (by rw [← hw0]; exact (Below.refl _ _).alloc (Nat.le_refl _) _)
 have HS : Hid (w.heap.size < w0.heap.size) := Lib.hid (by rw [← hw0]; simp)
 obtain ⟨q0, q1, q2⟩ : w0.cell? ⟨w.heap.size, 0, none⟩ = some (.slice A es.length ec) ∧ w0.cell? ⟨w.heap.size, 1, none⟩ = some mv ∧ w0.cell? ⟨w.heap.size, 2, none⟩ = some cv := by rw [← hw0]; exact tri_at w _ _ _ 32 _ rfl
 have HM := Lib.hid (hm.below HB.out (Nat.le_refl _))
 have HC := Lib.hid (hc.below HB.out (Nat.le_refl _))
 have HE := Lib.hid (he.below HB.out (Nat.le_refl _))
 have hca := can_any item_any many_any es x _ mv cv w0 HE.out HM.out HC.out hcp hsl
 obtain ⟨X, hX⟩ : ∃ y, canC ⟨es, x⟩ = y := ⟨_, rfl⟩
 unfold EncC
 rw [hX] at hca ⊢
 have HX := Lib.hid hX
 clear hm hc he hcp hsl hX
 by_cases h0 : X = 0
 case neg =>
  have hne : ((X : Int) != 0) = true := bne_iff_ne.2 (by omega)
  go_enter Tryz.func118, Tryz.ntmps118
  go_wp2_with (go_at_call 159; refine hca.mono ?_; rintro e w1 ⟨rfl, hb⟩; have HB1 := Lib.hid hb; clear hb)
  go_ret2
  exact ⟨.slice none 0 0, HB.out.trans (HB1.out.mono HB.out.size), rfl, fun h => absurd h h0⟩
 case pos =>
  subst h0
  obtain ⟨hx1, hel, hent, hprice⟩ : canX x = true ∧ es.length ≤ 64 ∧ entsE x [] es = 0 ∧ True := ⟨(can_iff HX.out).1, (can_iff HX.out).2.1, (can_iff HX.out).2.2.1, trivial⟩
  have HOK : Hid (∀ e ∈ es, okE e) := Lib.hid (ents_ok hx1 es [] hent (fun e h => (HSL.out e h).2))
  have HXX := Lib.hid hx1
  clear hent hx1 hprice
  have hp0 := fun w => put_on (w := w) (cap := 0) (A := none) (bs := []) (Rd.none_) (es.length : Int) (by omega) (by omega)
  simp only [List.nil_append, Int.toNat_natCast] at hp0
  go_enter Tryz.func118, Tryz.ntmps118
  go_wp2_with (first | (go_at_call 159; refine hca.mono ?_; rintro e w1 ⟨rfl, hb⟩; have HB1 := Lib.hid hb; have k0 := old_cell hb HS.out q0; have k1 := old_cell hb HS.out q1; have k2 := old_cell hb HS.out q2; clear hb q0 q1 q2) | (go_at_call 160; refine (hp0 _).mono ?_; rintro e w2 ⟨v2, rfl, ho, hb⟩; have HB2 := Lib.hid (HB1.out.trans (hb.mono HB1.out.size)); have HO2 := Lib.hid (ho.base HB1.out.size); have HQ1 : Hid (w.heap.size < w1.heap.size) := Lib.hid (Nat.lt_of_lt_of_le HS.out HB1.out.size); have j0 := old_cell hb HQ1.out k0; have j1 := old_cell hb HQ1.out k1; have j2 := old_cell hb HQ1.out k2; clear ho hb k0 k1 k2))
  have HJ0 := Lib.hid j0
  have HJ1 := Lib.hid j1
  have HJ2 := Lib.hid j2
  have HQ2 : Hid (w.heap.size < w2.heap.size) := Lib.hid (Nat.lt_of_lt_of_le HS.out HB2.out.size)
  have HE2 := Lib.hid (HE.out.below HB2.out (Nat.le_refl _))
  clear hca hp0 j0 j1 j2 hw0
  go_loopw [5, 23] (fun jv kv wr => ∃ (k : Nat), k ≤ es.length ∧ kv = .int .i64 (k : Int) ∧ Hid (Below w0.heap.size w2 wr) ∧ Hid (Go.BL.Own wr w0.heap.size jv (enc es.length ++ entsB (es.take k)))) (fun _ kv _ => es.length - (intOf kv).toNat)
  case atStart => exact ⟨0, by omega, rfl, Lib.hid (Below.refl _ _), by simpa [entsB] using HO2⟩
  case round =>
   rename_i u5
   rename World => wr
   obtain ⟨k, hk, rfl, HBr, HO⟩ := hrel
   by_cases hlt : k < es.length
   ·obtain ⟨vb, off, rfl, hbl2, hcc⟩ := ent_cells HE2.out (by omega)
    obtain ⟨e0, e1, e2, e3, e4, e5⟩ := hcc k hlt
    have hvw : vb < w0.heap.size := by
     obtain ⟨vb', off', ee, h1, _⟩ := ent_cells HE.out (by omega)
     injection ee with ee; injection ee with ee _ _; omega
    have HOKE := Lib.hid (HOK.out _ (List.getElem_mem hlt))
    obtain ⟨⟨eit, ⟨dn, dl, dc⟩, eq, ep⟩, hx⟩ : ∃ x, es[k]'hlt = x := ⟨_, rfl⟩
    rw [hx] at e0 e1 e2 e3 e4 e5 HOKE
    dsimp only at e0 e1 e2 e3 e4 e5
    have d0 := (HBr.out.cell (p := ⟨vb, off + k * 6, none⟩) hvw).trans e0
    have d1 := (HBr.out.cell (p := ⟨vb, off + k * 6 + 1, none⟩) hvw).trans e1
    have d2 := (HBr.out.cell (p := ⟨vb, off + k * 6 + 2, none⟩) hvw).trans e2
    have d3 := (HBr.out.cell (p := ⟨vb, off + k * 6 + 3, none⟩) hvw).trans e3
    have d4 := (HBr.out.cell (p := ⟨vb, off + k * 6 + 4, none⟩) hvw).trans e4
    have d5 := (HBr.out.cell (p := ⟨vb, off + k * 6 + 5, none⟩) hvw).trans e5
    have HTK : Hid (entsB (es.take (k + 1)) = entsB (es.take k) ++ entB ⟨eit, ⟨dn, dl, dc⟩, eq, ep⟩) := Lib.hid (by rw [take_ents hlt, hx])
    obtain ⟨b4, hb4⟩ : ∃ y, enc es.length ++ entsB (es.take k) = y := ⟨_, rfl⟩
    have HL4 : Hid (b4.length ≤ 6000) := Lib.hid (by
     rw [← hb4, List.length_append]
     have := enc_len9 (n := es.length) (by omega)
     have := entsB_len (es.take k) (fun e h => HOK.out e (List.mem_of_mem_take h))
     rw [List.length_take] at this
     omega)
    rw [hb4] at HO
    have HB4 := Lib.hid hb4
    clear hcc e0 e1 e2 e3 e4 e5 hx hbl2 hvw hb4
    obtain ⟨w4, hw4⟩ : ∃ y, wr.alloc (.cells #[.string ⟨eit.toArray⟩, .int .i64 dn, .int .i64 dl, .int .i64 dc, .int .i64 eq, .int .u64 (ep : Int)] 92) = y := ⟨_, rfl⟩
    have HW4 : Hid (Below w0.heap.size w2 w4) := Lib.hid (by rw [← hw4]; exact HBr.out.alloc (Nat.le_trans HB2.out.size HBr.out.size) _)
    have HO4 : Hid (Go.BL.Own w4 w0.heap.size u5 b4) := Lib.hid (by rw [← hw4]; exact HO.out.alloc _)
    have HBK : Hid (Bk w4 wr.heap.size [.string ⟨eit.toArray⟩, .int .i64 dn, .int .i64 dl, .int .i64 dc, .int .i64 eq, .int .u64 (ep : Int)]) := Lib.hid (by rw [← hw4]; exact Bk.new wr _ 92 rfl)
    have HS4 : Hid (wr.heap.size < w4.heap.size) := Lib.hid (by rw [← hw4]; simp)
    obtain ⟨A4, c4, rfl, hr4⟩ := own_read HO4.out
    have htx := text_any A4 b4.length c4 b4 ⟨eit.toArray⟩ w4 hr4 (by have h1 := HOKE.out.1; have := HL4.out; dsimp only at h1; simp [ByteArray.size]; omega)
    rw [nats_bl] at htx
    clear hr4
    go_upto_region 8 with fail
    clear hw4 d0 d1 d2 d3 d4 d5
    have t0 := (HBK.out 0 _ rfl).1
    go_wp2_with (go_at_call 161; refine htx.mono ?_; rintro e w5 ⟨v5, rfl, ho, hb⟩; have HB5 := Lib.hid hb; have HO5 := Lib.hid ho; have HBK5 := Lib.hid (HBK.out.below hb HS4.out); have t1 := (HBK5.out 1 _ rfl).1; have t2 := (HBK5.out 2 _ rfl).1; have t3 := (HBK5.out 3 _ rfl).1; have t4 := (HBK5.out 4 _ rfl).1; clear ho hb t0)
    obtain ⟨b5, hb5⟩ : ∃ y, b4 ++ enc (ByteArray.size ⟨eit.toArray⟩) ++ nats eit = y := ⟨_, rfl⟩
    rw [hb5] at HO5
    have HN5 : Hid (b4 ++ (enc eit.length ++ nats eit) = b5) := Lib.hid (by rw [← hb5, List.append_assoc]; simp [ByteArray.size])
    have HL5 : Hid (b5.length ≤ 6050) := Lib.hid (by
     rw [← HN5.out]; simp only [List.length_append]
     have h1 := HOKE.out.1; dsimp only at h1
     have := enc_len9 (n := eit.length) (by omega)
     have := HL4.out
     simp only [nats, List.length_map]; omega)
    obtain ⟨hz1, hz2, hz3⟩ := may_lt HOKE.out.2.1
    have hz4 : eq ≤ 9223372036854775807 := by have := HOKE.out.2.2.1.2; dsimp only at this; omega
    dsimp only at hz1 hz2 hz3
    have HZ := Lib.hid (fun m => enc4_at (m := m) hz1 hz2 hz3 hz4)
    clear htx t1 t2 t3 t4 hb5 hz1 hz2 hz3 hz4
    obtain ⟨w6, hw6⟩ : ∃ y, w5.alloc (.cells #[.int .i64 dn, .int .i64 dl, .int .i64 dc, .int .i64 eq] 3) = y := ⟨_, rfl⟩
    have HB6 : Hid (Below w4.heap.size w4 w6) := Lib.hid (by rw [← hw6]; exact HB5.out.alloc HB5.out.size _)
    have HO6 : Hid (Go.BL.Own w6 w4.heap.size v5 b5) := Lib.hid (by rw [← hw6]; exact HO5.out.alloc _)
    have HK6 : Hid (Bk w6 w5.heap.size [.int .i64 dn, .int .i64 dl, .int .i64 dc, .int .i64 eq]) := Lib.hid (by rw [← hw6]; exact Bk.new w5 _ 3 rfl)
    have HS6 : Hid (w5.heap.size < w6.heap.size) := Lib.hid (by rw [← hw6]; simp)
    simp only [hw6]
    clear hw6
    go_loopw [5, 44] (fun jv mv wq => ∃ (m : Nat), m ≤ 4 ∧ mv = .int .i64 (m : Int) ∧ Hid (Below w6.heap.size w6 wq) ∧ Hid (Go.BL.Own wq w4.heap.size jv (b5 ++ enc4 [dn, dl, dc, eq] m))) (fun _ mv _ => 4 - (intOf mv).toNat)
    case atStart => exact ⟨0, by omega, rfl, Lib.hid (Below.refl _ _), by simpa [enc4] using HO6⟩
    case round =>
     rename_i u5
     rename World => wq
     obtain ⟨m, hm4, rfl, HBq, HOq⟩ := hrel
     by_cases hm : m < 4
     ·have hm' : (m : Int) < 4 := by omega
      obtain ⟨z, hz, hzl, hze, hzn⟩ := HZ.out m hm
      have HKq := HK6.out.below HBq.out HS6.out
      have c0 := (HKq m _ hz).1
      have HZE := Lib.hid hze
      obtain ⟨bq, hbq⟩ : ∃ y, b5 ++ enc4 [dn, dl, dc, eq] m = y := ⟨_, rfl⟩
      have HLQ : Hid (bq.length ≤ 6100) := Lib.hid (by rw [← hbq, List.length_append]; have := HL5.out; omega)
      rw [hbq] at HOq
      have HEQ : Hid (bq ++ enc z.toNat = b5 ++ enc4 [dn, dl, dc, eq] (m + 1)) := Lib.hid (by rw [HZE.out, ← hbq, List.append_assoc])
      obtain ⟨Aq, cq, rfl, hrq⟩ := own_read HOq.out
      have hput := put_on (w := wq) (cap := cq) hrq z (Nat.le_trans HLQ.out (by decide)) hzl
      rw [HEQ.out] at hput
      clear hz hze hzn hbq hrq HKq
      go_wp2_with (go_at_call 160; refine hput.mono ?_; rintro e w7 ⟨v7, rfl, ho, hb⟩; have HB7 := Lib.hid (HBq.out.trans (hb.mono HBq.out.size)); have HO7 := Lib.hid (ho.base (Nat.le_trans HB6.out.size HBq.out.size)); clear ho hb)
      exact ⟨⟨m + 1, by omega, by go_num, HB7, HO7⟩, by simp [intOf]; omega⟩
     ·obtain rfl : m = 4 := by omega
      have hng : ¬ ((4 : Nat) : Int) < 4 := by omega
      obtain ⟨b8, hb8⟩ : ∃ y, b5 ++ enc4 [dn, dl, dc, eq] 4 = y := ⟨_, rfl⟩
      have HL8 : Hid (b8.length ≤ 6100) := Lib.hid (by
       rw [← hb8, List.length_append]; have := HL5.out
       obtain ⟨z, _, hz2, hz3, hz4⟩ := HZ.out 3 (by omega)
       have := enc_le hz2
       rw [hz3, List.length_append]; omega)
      rw [hb8] at HOq
      have HN8 : Hid (enc es.length ++ entsB (es.take (k + 1)) = b8 ++ le8 ep) := Lib.hid (by
       rw [HTK.out, ← hb8, ← HN5.out, ← HB4.out]; simp [entB, enc4])
      have HBw : Hid (Below w4.heap.size w4 wq) := Lib.hid (HB6.out.trans (HBq.out.mono HB6.out.size))
      clear hb8 hm hm4
      go_wp2_with fail
      go_loopw [5, 52] (fun jv iv wz => ∃ (i : Nat), i ≤ 8 ∧ iv = .int .i64 (i : Int) ∧ Hid (Below w4.heap.size w4 wz) ∧ Hid (Go.BL.Own wz w4.heap.size jv (b8 ++ (le8 ep).take i))) (fun _ iv _ => 8 - (intOf iv).toNat)
      case atStart => exact ⟨0, by omega, rfl, HBw, by simpa using HOq⟩
      case round =>
       rename_i u5
       rename World => wz
       obtain ⟨i, hi8, rfl, HBz, HOz⟩ := hrel
       by_cases hi : i < 8
       ·have hi' : (i : Int) < 8 := by omega
        have c5 := ((HBK.out.below HBz.out HS4.out) 5 _ rfl).1
        obtain ⟨y, hy⟩ : ∃ y : Nat, ep / 2 ^ (8 * i) % 256 = y := ⟨_, rfl⟩
        have hylt : y < 256 := by omega
        have HYI : Hid ((ep : Int) / 2 ^ (8 * i) % 256 = (y : Int)) := Lib.hid (by rw [← hy]; norm_cast)
        have HTI : Hid ((le8 ep).take (i + 1) = (le8 ep).take i ++ [y]) := Lib.hid (by rw [le8_at hi, hy])
        have HYL := Lib.hid hylt
        have HPL : Hid ((b8 ++ (le8 ep).take i).length + 1 ≤ 140737488355328) := Lib.hid (by rw [List.length_append, List.length_take]; have := HL8.out; omega)
        have hye := HYI.out
        clear hy hylt
        go_wp2_with (at_builtin; refine Go.BL.wpList_appB rfl (.tmp 55) (.tmp 62) 75 rfl Tryz.underlying75 info5 rfl (HOz.out.alloc _) rfl (rd_one wz _ y rfl HYL.out 5 (0, 0)) HPL.out (Nat.le_trans HBz.out.size (by simp)) ?_; intro v9 w9 ho hb; have HB9 := Lib.hid ((HBz.out.alloc HBz.out.size _).trans hb); have HO9 := Lib.hid ho; clear ho hb)
        exact ⟨⟨i + 1, by omega, by go_num, HB9, by rw [HTI.out, ← List.append_assoc]; exact HO9⟩, by simp [intOf]; omega⟩
       ·obtain rfl : i = 8 := by omega
        have hng8 : ¬ ((8 : Nat) : Int) < 8 := by omega
        have hle : w0.heap.size ≤ w4.heap.size := Nat.le_trans HB2.out.size HW4.out.size
        have HBn : Hid (Below w0.heap.size w2 wz) := Lib.hid (HW4.out.trans (HBz.out.mono hle))
        have HOn : Hid (Go.BL.Own wz w0.heap.size u5 (enc es.length ++ entsB (es.take (k + 1)))) := Lib.hid (by
         have h := HOz.out.base hle
         rw [List.take_of_length_le (by simp [le8])] at h
         rw [HN8.out]; exact h)
        clear hle
        go_wp2_with fail
        exact ⟨⟨k + 1, by omega, by go_num, HBn, HOn⟩, by simp [intOf]; omega⟩
   ·have hkl : k = es.length := by omega
    subst hkl
    rw [List.take_length] at HO
    obtain ⟨bq, hbq⟩ : ∃ y, enc es.length ++ entsB es = y := ⟨_, rfl⟩
    have HLQ : Hid (bq.length ≤ 90000) := Lib.hid (by
     rw [← hbq, List.length_append]
     have := enc_len9 (n := es.length) (by omega)
     have := entsB_len es HOK.out
     omega)
    rw [hbq] at HO
    have HN : Hid (bq ++ ctxB x = cartB ⟨es, x⟩) := Lib.hid (by rw [← hbq]; simp [cartB])
    obtain ⟨Aq, cq, rfl, hrq⟩ := own_read HO.out
    have HB3 := Lib.hid (HB2.out.trans HBr.out)
    have henc := enc_any x mv cv Aq cq bq wr (HM.out.below HB3.out (Nat.le_refl _)) (HC.out.below HB3.out (Nat.le_refl _)) hrq HLQ.out
    unfold EncR at henc
    rw [HXX.out, HN.out] at henc
    have r1 := (HBr.out.cell (p := ⟨w.heap.size, 1, none⟩) HS.out).trans HJ1.out
    have r2 := (HBr.out.cell (p := ⟨w.heap.size, 2, none⟩) HS.out).trans HJ2.out
    clear hbq hrq
    go_wp2_with (go_at_call 162; refine henc.mono ?_; rintro e w9 ⟨v9, hb, rfl, ho⟩; have HB9 := Lib.hid hb; have HO9 := Lib.hid (ho rfl); clear hb ho)
    go_ret2
    have hle : w.heap.size ≤ wr.heap.size := Nat.le_trans HB.out.size HB3.out.size
    exact ⟨v9, (HB.out.trans (HB3.out.mono HB.out.size)).trans (HB9.out.mono hle), rfl, fun _ => HO9.out.base hle⟩
end Go.Proofs.YtpdedfpacklnoaaGreatDoor
set_option maxRecDepth 100000
namespace Go.Proofs.YtpdedfpacklnoaaGreatDoor
open Go.RowKit Go.BL Go.Ct Go.Sl Go.Wr W

theorem own_capB {w : World} {B n c : Nat} {A : Option Addr} {bs : List Nat} (h : Go.BL.Own w B (.slice A n c) bs) : n ≤ c := by
 rcases h.1.2 with ⟨h0, _⟩ | ⟨g, cap, cur, hv, _, _, hle, _⟩
 ·injection h0 with _ h1 h2; omega
 ·injection hv with _ h1 h2; omega
/-- What token.Make answers. -/
def MkR (c : Ct) (w : World) (e : Ending) (w' : World) : Prop := Below w.heap.size w w' ∧ e = .returned (.tuple #[.string ⟨(if canC c = 0 then tokT c else []).toArray⟩, .int .i64 ((canC c : Nat) : Int)])
set_option maxHeartbeats 8000000 in
theorem make_any (es : List En) (x : Cx) (ev mv cv : Value) (w : World) (he : Ents w ev es) (hm : Dots w mv x.ms) (hc : Dots w cv x.cl) (hcp : ∀ A n c, ev = .slice A n c → n ≤ c) (hsl : ∀ e ∈ es, e.it.length ≤ 1073741824 ∧ e.p < 18446744073709551616) :
  Calls Tryz.prog 69 #[.agg #[ev, mv, cv]] w (MkR ⟨es, x⟩ w) := by
 have HSL := Lib.hid hsl
 obtain ⟨w0, hw0⟩ : ∃ w0, w.alloc (.cells #[ev, mv, cv] 32) = w0 := ⟨_, rfl⟩
 have HB : Hid (Below w.heap.size w w0) := Lib.hid (by rw [← hw0]; exact (Below.refl _ _).alloc (Nat.le_refl _) _)
 obtain ⟨q0, q1, q2⟩ : w0.cell? ⟨w.heap.size, 0, none⟩ = some ev ∧ w0.cell? ⟨w.heap.size, 1, none⟩ = some mv ∧ w0.cell? ⟨w.heap.size, 2, none⟩ = some cv := by rw [← hw0]; exact tri_at w _ _ _ 32 _ rfl
 have hen := encode_any es x ev mv cv w0 (he.below HB.out (Nat.le_refl _)) (hm.below HB.out (Nat.le_refl _)) (hc.below HB.out (Nat.le_refl _)) hcp hsl
 obtain ⟨A, ec, rfl⟩ := he.form
 obtain ⟨X, hX⟩ : ∃ y, canC ⟨es, x⟩ = y := ⟨_, rfl⟩
 unfold EncC at hen
 unfold MkR
 rw [hX] at hen ⊢
 have HX := Lib.hid hX
 clear hm hc he hcp hsl hX
 by_cases h0 : X = 0
 case neg =>
  have hne : ((X : Int) != 0) = true := bne_iff_ne.2 (by omega)
  rw [if_neg h0]
  go_enter Tryz.func69, Tryz.ntmps69
  go_wp2_with (go_at_call 118; refine hen.mono ?_; rintro e w1 ⟨v1, hb, rfl, -⟩; have HB1 := Lib.hid hb; clear hb)
  go_ret2
  exact ⟨HB.out.trans (HB1.out.mono HB.out.size), rfl⟩
 case pos =>
  subst h0
  rw [if_pos rfl]
  have hcl := cart_len HX.out (fun e h => (HSL.out e h).2)
  have HFL : Hid ((frame (cartB ⟨es, x⟩)).1.length ≤ 100000) := Lib.hid (by have := frame_len (b := cartB ⟨es, x⟩) (by omega); omega)
  have HF2 : (frame (cartB ⟨es, x⟩)).2 = 0 := by unfold frame; rw [if_neg (by omega)]
  obtain ⟨F, hF⟩ : ∃ y, (frame (cartB ⟨es, x⟩)).1 = y := ⟨_, rfl⟩
  have HTT : Hid (bstr (lettersL F) = ⟨(tokT ⟨es, x⟩).toArray⟩) := Lib.hid (by rw [← hF]; rfl)
  obtain ⟨cb, hcb⟩ : ∃ y, cartB ⟨es, x⟩ = y := ⟨_, rfl⟩
  have hfr := fun A cap w hr => frame_any A cb.length cap cb w hr
  unfold RetF at hfr
  rw [hcb] at hF HF2
  rw [hcb, hF] at HFL
  simp only [hF, HF2] at hfr
  rw [hcb] at hen
  clear hF HF2 hcb hcl
  go_enter Tryz.func69, Tryz.ntmps69
  go_wp2_with (first | (go_at_call 118; refine hen.mono ?_; rintro e w1 ⟨v1, hb, rfl, ho⟩; obtain ⟨A1, c1, rfl, hr1⟩ := own_read (ho rfl); have HR1 := Lib.hid hr1; have HB1 := Lib.hid hb; clear hb ho hr1 hen) | (go_at_call 119; refine (hfr _ _ _ HR1.out).mono ?_; rintro e w2 ⟨A2, c2, rfl, hr2, ho2, hb2⟩; have HR2 := Lib.hid hr2; have HB2 := Lib.hid (HB1.out.trans (hb2.mono HB1.out.size)); have HCP := Lib.hid (own_capB ho2); clear hr2 ho2 hb2) | (go_at_call 120; refine (letters_any _ _ _ _ _ HR2.out HFL.out HCP.out).mono ?_; rintro e w3 ⟨rfl, hb3⟩; have HB3 := Lib.hid (HB2.out.trans (hb3.mono HB2.out.size)); clear hb3))
  go_ret2
  rw [HTT.out]
  exact ⟨HB.out.trans (HB3.out.mono HB.out.size), rfl⟩
end Go.Proofs.YtpdedfpacklnoaaGreatDoor
