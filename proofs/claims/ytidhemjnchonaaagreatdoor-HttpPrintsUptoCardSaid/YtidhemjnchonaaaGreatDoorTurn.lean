/- Contract of the law's turned: bytes that are parsed as the bytes are. -/
import Derived.Test.YtidhemjnchonaaaGreatDoorTwinP
import Derived.Test.YtidhemjnchonaaaGreatDoorEither
namespace Go.Proofs.YtidhemjnchonaaaGreatDoor
open Go.RowKit Go.BL

theorem own_row {w : World} {B : Nat} {v : Value} {b : List UInt8} (h : Own w B v (nats b)) (hb : b ≠ []) : ∃ g c, v = .slice (some ⟨g, 0, none⟩) b.length c ∧ b.length ≤ c ∧ B ≤ g ∧ g < w.heap.size ∧ Row w g b := by
  rcases h.1.2 with ⟨rfl, h0⟩ | ⟨g, cap, cur, rfl, hg, hh, hn, hm, hs, ht⟩
  · rw [nats_len] at h0
    exact absurd (List.eq_nil_of_length_eq_zero h0) hb
  · rw [nats_len] at hn ht ⊢
    refine ⟨g, cap, rfl, hn, hg, ?_, fun i hi => ⟨?_, ?_⟩⟩
    · rcases Nat.lt_or_ge g w.heap.size with h' | h'
      · exact h'
      · rw [Array.getElem?_eq_none h'] at hh; cases hh
    · rw [cell_of_row w g i cur 5 (0, 0) hh, ← nats_get b i hi, ← bv_at (by rw [nats_len]; exact hi), ← ht, List.getElem?_take_of_lt (by omega), Array.getElem?_toList]
    · unfold World.frozen?
      rw [hh]
      simp
theorem row_bsl {w : World} {g c : Nat} {b : List UInt8} (h : Row w g b) (hl : b.length ≤ 4294967280) (hc : b.length ≤ c) (hg : g < w.heap.size) (n : Nat) (hn : n = b.length) : Bsl w (.slice (some ⟨g, 0, none⟩) n c) b := by
  subst hn
  exact ⟨hl, .inr ⟨g, 0, c, rfl, hc, hg, fun j hj => by rw [Nat.zero_add]; exact (h j hj).1⟩⟩
theorem or_32 (x : UInt8) : bits .or .u8 (x.toNat : Int) 32 = ((x ||| 32).toNat : Int) := byte_all (fun x => bits .or .u8 (x.toNat : Int) 32 = ((x ||| 32).toNat : Int)) (by decide +kernel) x
theorem xor_32 (x : UInt8) : bits .xor .u8 (x.toNat : Int) 32 = ((x ^^^ 32).toNat : Int) := byte_all (fun x => bits .xor .u8 (x.toNat : Int) 32 = ((x ^^^ 32).toNat : Int)) (by decide +kernel) x
theorem row_turn {w : World} {g n : Nat} {b ys : List UInt8} (h : Row w g (ys ++ b.drop n)) (hn : n < b.length) (hy : ys.length = n) (y : UInt8) :
    (w.cell? ⟨g, n, none⟩ = some (.int .u8 (b[n].toNat : Int)) ∧ w.frozen? ⟨g, n, none⟩ = false) ∧ Row (w.setCell ⟨g, n, none⟩ (.int .u8 (y.toNat : Int))) g ((ys ++ [y]) ++ b.drop (n + 1)) := by
  have hl : n < (ys ++ b.drop n).length := by rw [List.length_append, List.length_drop]; omega
  have h1 := h n hl
  have e : (ys ++ b.drop n)[n]'hl = b[n] := by
    rw [List.getElem_append_right (by omega), List.getElem_drop]
    congr 1
    omega
  rw [e] at h1
  refine ⟨h1, ?_⟩
  have h2 := h.set n hl y
  have e2 : (ys ++ b.drop n).set n y = (ys ++ [y]) ++ b.drop (n + 1) := by
    rw [List.set_append_right _ _ (by omega), hy, Nat.sub_self, List.drop_eq_getElem_cons hn, List.set_cons_zero, List.append_assoc]
    rfl
  rwa [e2] at h2
theorem row_same {n : Nat} {b ys : List UInt8} (hn : n < b.length) : ys ++ b.drop n = (ys ++ [b[n]]) ++ b.drop (n + 1) := by
  rw [List.drop_eq_getElem_cons hn, List.append_assoc]
  rfl
set_option maxHeartbeats 4000000 in
set_option maxRecDepth 100000 in
theorem turned_any (v : Value) (b : List UInt8) (a : Int) (w : World) (hv : Bsl w v b) (hlen : b.length ≤ 1048576) (he : Env w) :
    Calls Tryz.prog 19 #[v, .int .u64 a] w fun e w' => ∃ v' b', e = .returned v' ∧ Bsl w' v' b' ∧ parseL b' = parseL b ∧ Below w.heap.size w w' := by
  obtain ⟨A0, c0, rfl⟩ := hv.form
  have hcl := clone_rd A0 b.length c0 (nats b) w hv.rd.2 (by omega)
  have HV := Lib.hid hv
  have HE := Lib.hid he
  have HLN := Lib.hid hlen
  clear hv he hlen
  go_enter Tryz.func19, Tryz.ntmps19
  go_wp2_with (first
    | (go_at_call 18; refine hcl.mono ?_; rintro e w1 ⟨v1, rfl, ho, hb⟩; have HO := Lib.hid ho; have HB1 := Lib.hid hb; clear ho hb hcl))
  have hcc : (convert 28 28 (.slice (some ⟨w1.heap.size, 0, none⟩) 4 4)).run Tryz.prog (w1.alloc (.cells #[.int .u8 13, .int .u8 10, .int .u8 13, .int .u8 10] 5)) = .ok (.slice (some ⟨w1.heap.size, 0, none⟩) 4 4) (w1.alloc (.cells #[.int .u8 13, .int .u8 10, .int .u8 13, .int .u8 10] 5 (4, 5))) :=
    Joins.run_convert_bytes_const_at _ 28 5 _ 4 4 _ rfl Tryz.underlying28 Tryz.underlying5
  obtain ⟨I, hI⟩ : ∃ I, Lib.index b sep4 = I := ⟨_, rfl⟩
  have hix := fun v w hv he g hg fr => idx_any v b w hv he g hg fr
  rw [hI] at hix
  rw [hcc]
  go_wp2_with fail
  go_at_call 35
  refine (hix _ _ (HV.out.below HB1.out (Nat.le_refl _)) (HE.out.below HB1.out) _ rfl _).mono ?_
  rintro e w2 ⟨rfl, hb⟩
  have HB2 := Lib.hid hb
  clear hb hix
  by_cases h0 : I < 0
  · clear hI hcc
    have hB : Below w.heap.size w w2 := HB1.out.trans ((((Below.refl w1.heap.size w1).alloc (Nat.le_refl _) _).trans (HB2.out.mono (Nat.le_succ _))).mono HB1.out.size)
    have hO := (HO.out.alloc _).below HB2.out (by simp)
    have hR : ∃ v' b', v1 = v' ∧ Bsl w2 v' b' ∧ parseL b' = parseL b ∧ Below w.heap.size w w2 := ⟨v1, b, rfl, own_bsl hO (by have := HLN.out; omega), rfl, hB⟩
    have HR := Lib.hid hR
    clear hB hO hR
    go_wp2_with fail
    go_ret
    obtain ⟨v', b', h1, h2⟩ := HR.out
    exact ⟨v', b', by rw [h1]; rfl, h2⟩
  · obtain ⟨E, rfl⟩ := Int.eq_ofNat_of_zero_le (Int.not_lt.1 h0)
    have hEb : E + 4 ≤ b.length := by
      rcases Lib.index_spec b sep4 with ⟨g1, _⟩ | ⟨i, g1, g2, g3, _⟩
      · omega
      · rcases Lib.occAt_room g3 with h' | h'
        · rw [show sep4.length = 4 from rfl] at h'; omega
        · cases h'
    have hne : b ≠ [] := fun e => by rw [e] at hEb; exact absurd hEb (by simp)
    have hB : Below w.heap.size w w2 := HB1.out.trans ((((Below.refl w1.heap.size w1).alloc (Nat.le_refl _) _).trans (HB2.out.mono (Nat.le_succ _))).mono HB1.out.size)
    have hO := (HO.out.alloc _).below HB2.out (by simp)
    obtain ⟨g, cap, rfl, hcap, hg1, hg2, hrow⟩ := own_row hO hne
    obtain ⟨hl1, ⟨A1, c1, hv0, hb0, -⟩ | ⟨blk, off, c, hv0, hc, hlt, hcell⟩⟩ := HV.out
    · exact absurd hb0 hne
    obtain ⟨rfl, rfl⟩ : A0 = some ⟨blk, off, none⟩ ∧ c0 = c := by injection hv0 with e1 e2 e3; exact ⟨e1, e3⟩
    have HR := Lib.hid hrow
    have HB := Lib.hid hB
    have HC := Lib.hid hcell
    have HG1 := Lib.hid hg1
    have HG2 := Lib.hid hg2
    have HCAP := Lib.hid hcap
    have HEb := Lib.hid hEb
    have HI := Lib.hid hI
    clear hB hO hrow hv0 hcell hI hEb hl1 hc hg1 hg2 h0 hcap
    go_wp2_with fail
    go_loopw [7, 8, 9, 21] (fun ln nm kk i wr => ∃ (n l q : Nat) (p : Bool) (ys : List UInt8), n ≤ E ∧ i = .int .i64 (n : Int) ∧ ln = .int .i64 (l : Int) ∧ nm = .bool p ∧ kk = .int .i64 (q : Int) ∧ l ≤ n ∧ q ≤ n ∧ Hid (p = true → 0 < l) ∧ Hid (p = stn false (b.take n)) ∧ Hid (Tw false (b.take n) ys) ∧ Hid (Row wr g (ys ++ b.drop n)) ∧ Hid (Below w.heap.size w wr) ∧ Hid (g < wr.heap.size)) (fun _ _ _ i _ => E - (intOf i).toNat)
    case atStart => exact ⟨0, 0, 0, false, [], Nat.zero_le _, rfl, rfl, rfl, rfl, Nat.le_refl _, Nat.le_refl _, Lib.hid (fun h => by cases h), Lib.hid rfl, Lib.hid trivial, Lib.hid (by simpa using HR.out), HB, HG2⟩
    case round =>
      obtain ⟨n, l, q, p, ys, hn, rfl, rfl, rfl, rfl, hl, hq, HP, HS, HT, HRk, HBk, HGk⟩ := hrel
      have hbn := HLN.out
      have hE4 := HEb.out
      by_cases hlt2 : n < E
      · have hnb : n < b.length := by omega
        have hys : ys.length = n := by have := HT.out.len; rw [List.length_take] at this; omega
        have hst : ∀ x, b[n]'hnb = x → stn false (b.take (n + 1)) = stp (stn false (b.take n)) x := fun x hx => by
          rw [List.take_succ_eq_append_getElem hnb, hx]; unfold stn; rw [List.foldl_append]; rfl
        have htw : ∀ x y, b[n]'hnb = x → twin p x y → Tw false (b.take (n + 1)) (ys ++ [y]) := fun x y hx h => by
          rw [List.take_succ_eq_append_getElem hnb, hx]; exact HT.out.snoc (by rw [← HS.out]; exact h)
        have c1 := (HBk.out.cell (p := ⟨blk, off + n, none⟩) hlt).trans (HC.out n hnb)
        obtain ⟨⟨r1, r2⟩, r3⟩ := row_turn HRk.out hnb hys (b[n]'hnb)
        have rsame := row_same (ys := ys) hnb
        have rturn := fun y => (row_turn HRk.out hnb hys y).2
        obtain ⟨x, hx⟩ : ∃ x, b[n]'hnb = x := ⟨_, rfl⟩
        rw [hx] at c1 r1 rsame
        have HST := Lib.hid (hst x hx)
        have HTW := Lib.hid (fun y => htw x y hx)
        have RS := Lib.hid rsame
        have RT := Lib.hid rturn
        clear hst htw rsame rturn r3 hx hys
        have b1 : n + 1 ≤ E := by omega
        have b2 : l + 1 ≤ n + 1 := by omega
        have b3 : q + 1 ≤ n + 1 := by omega
        have b4 : l ≤ n + 1 := by omega
        have b5 : q ≤ n + 1 := by omega
        have bm : E - (n + 1) < E - n := by omega
        have W1 : Hid (Value.int .i64 (wrap64 ((n : Int) + 1)) = .int .i64 ((n + 1 : Nat) : Int)) := Lib.hid (by congr 1; unfold wrap64; omega)
        have W2 : Hid (Value.int .i64 (wrap64 ((l : Int) + 1)) = .int .i64 ((l + 1 : Nat) : Int)) := Lib.hid (by congr 1; unfold wrap64; omega)
        have W3 : Hid (Value.int .i64 (wrap64 ((q : Int) + 1)) = .int .i64 ((q + 1 : Nat) : Int)) := Lib.hid (by congr 1; unfold wrap64; omega)
        have BM : Hid (E - (intOf (.int .i64 (wrap64 ((n : Int) + 1)))).toNat < E - (intOf (.int .i64 (n : Int))).toNat) := Lib.hid (by rw [W1.out]; exact bm)
        clear hbn hE4 hn hl hq hlt2
        by_cases h10 : x = 10
        · have d1 : ((x.toNat : Int) == 10) = true := by rw [h10]; rfl
          have hsx : stp (stn false (b.take n)) x = true := by rw [h10]; rfl
          go_wp2_with fail
          exact ⟨⟨n + 1, l + 1, q, true, ys ++ [x], b1, W1.out, W2.out, rfl, rfl, b2, b5, Lib.hid (fun _ => Nat.succ_pos _), Lib.hid (by rw [HST.out, hsx]), Lib.hid (HTW.out x (.inl rfl)), Lib.hid (by rw [← RS.out]; exact HRk.out), HBk, HGk⟩, BM.out⟩
        have d1 : ((x.toNat : Int) == 10) = false := beq_false_of_ne (fun h => h10 (UInt8.toNat_inj.1 (by rw [show ((10 : UInt8).toNat) = 10 from rfl]; omega)))
        by_cases h58 : x = 58
        · have d2 : ((x.toNat : Int) == 58) = true := by rw [h58]; rfl
          have hsx : stp (stn false (b.take n)) x = false := by rw [h58]; rfl
          go_wp2_with fail
          exact ⟨⟨n + 1, l, q, false, ys ++ [x], b1, W1.out, rfl, rfl, rfl, b4, b5, Lib.hid (fun h => by cases h), Lib.hid (by rw [HST.out, hsx]), Lib.hid (HTW.out x (.inl rfl)), Lib.hid (by rw [← RS.out]; exact HRk.out), HBk, HGk⟩, BM.out⟩
        have d2 : ((x.toNat : Int) == 58) = false := beq_false_of_ne (fun h => h58 (UInt8.toNat_inj.1 (by rw [show ((58 : UInt8).toNat) = 58 from rfl]; omega)))
        have hsx : stp (stn false (b.take n)) x = p := by rw [← HS.out]; unfold stp; rw [if_neg h10, if_neg h58]
        have hor := or_32 x
        have hxo := xor_32 x
        obtain ⟨z, hz⟩ : ∃ z, (x ||| 32).toNat = z := ⟨_, rfl⟩
        obtain ⟨y, hy⟩ : ∃ y, x ^^^ 32 = y := ⟨_, rfl⟩
        rw [hz] at hor
        rw [hy] at hxo
        have hletter : letter x = (decide (97 ≤ z) && decide (z ≤ 122)) := by unfold letter; rw [hz]
        have HTURN := Lib.hid (fun hp hl => HTW.out y (.inr ⟨hp, hl, hy.symm⟩) : p = true → letter x = true → Tw false (b.take (n + 1)) (ys ++ [y]))
        clear hz hy
        have KEEP : Hid (((∃ (n' l' q' : Nat) (p' : Bool) (ys' : List UInt8), n' ≤ E ∧ Value.int .i64 (wrap64 ((n : Int) + 1)) = .int .i64 (n' : Int) ∧ Value.int .i64 (l : Int) = .int .i64 (l' : Int) ∧ Value.bool p = .bool p' ∧ Value.int .i64 (q : Int) = .int .i64 (q' : Int) ∧ l' ≤ n' ∧ q' ≤ n' ∧ Hid (p' = true → 0 < l') ∧ Hid (p' = stn false (b.take n')) ∧ Hid (Tw false (b.take n') ys') ∧ Hid (Row wr g (ys' ++ b.drop n')) ∧ Hid (Below w.heap.size w wr) ∧ Hid (g < wr.heap.size)))) :=
          Lib.hid ⟨n + 1, l, q, p, ys ++ [x], b1, W1.out, rfl, rfl, rfl, b4, b5, HP, Lib.hid (by rw [HST.out, hsx]), Lib.hid (HTW.out x (.inl rfl)), Lib.hid (by rw [← RS.out]; exact HRk.out), HBk, HGk⟩
        cases p with
        | false =>
          clear hor hxo hsx h10 h58 hletter HTURN
          go_wp2_with fail
          all_goals exact ⟨KEEP.out, BM.out⟩
        | true =>
          have hl0 := HP.out rfl
          have d3 : decide ((l : Int) > 0) = true := decide_eq_true (by omega)
          have hq0 : ¬ (Int.tmod (q : Int) 64 < 0) := by rw [Int.tmod_eq_emod_of_nonneg (by omega)]; omega
          by_cases hlet : letter x = true
          · have hlet' := hlet
            rw [hletter, Bool.and_eq_true, decide_eq_true_eq, decide_eq_true_eq] at hlet'
            have d4 : decide ((97 : Int) ≤ (z : Int)) = true := decide_eq_true (by omega)
            have d5 : decide ((z : Int) ≤ 122) = true := decide_eq_true (by omega)
            have TURN : ∀ q' : Nat, Hid (q' ≤ n + 1) → Hid (((∃ (n' l' q'' : Nat) (p' : Bool) (ys' : List UInt8), n' ≤ E ∧ Value.int .i64 (wrap64 ((n : Int) + 1)) = .int .i64 (n' : Int) ∧ Value.int .i64 (l : Int) = .int .i64 (l' : Int) ∧ Value.bool true = .bool p' ∧ Value.int .i64 (q' : Int) = .int .i64 (q'' : Int) ∧ l' ≤ n' ∧ q'' ≤ n' ∧ Hid (p' = true → 0 < l') ∧ Hid (p' = stn false (b.take n')) ∧ Hid (Tw false (b.take n') ys') ∧ Hid (Row (wr.setCell ⟨g, n, none⟩ (.int .u8 (y.toNat : Int))) g (ys' ++ b.drop n')) ∧ Hid (Below w.heap.size w (wr.setCell ⟨g, n, none⟩ (.int .u8 (y.toNat : Int)))) ∧ Hid (g < (wr.setCell ⟨g, n, none⟩ (.int .u8 (y.toNat : Int))).heap.size)))) := fun q' hq' =>
              Lib.hid ⟨n + 1, l, q', true, ys ++ [y], b1, W1.out, rfl, rfl, rfl, b4, hq'.out, HP, Lib.hid (by rw [HST.out, hsx]), Lib.hid (HTURN.out rfl hlet), Lib.hid (RT.out _), Lib.hid (HBk.out.setCell HG1.out _), Lib.hid (by simpa using HGk.out)⟩
            have KEEPQ : Hid (((∃ (n' l' q' : Nat) (p' : Bool) (ys' : List UInt8), n' ≤ E ∧ Value.int .i64 (wrap64 ((n : Int) + 1)) = .int .i64 (n' : Int) ∧ Value.int .i64 (l : Int) = .int .i64 (l' : Int) ∧ Value.bool true = .bool p' ∧ Value.int .i64 (wrap64 ((q : Int) + 1)) = .int .i64 (q' : Int) ∧ l' ≤ n' ∧ q' ≤ n' ∧ Hid (p' = true → 0 < l') ∧ Hid (p' = stn false (b.take n')) ∧ Hid (Tw false (b.take n') ys') ∧ Hid (Row wr g (ys' ++ b.drop n')) ∧ Hid (Below w.heap.size w wr) ∧ Hid (g < wr.heap.size)))) :=
              Lib.hid ⟨n + 1, l, q + 1, true, ys ++ [x], b1, W1.out, rfl, rfl, W3.out, b4, b3, HP, Lib.hid (by rw [HST.out, hsx]), Lib.hid (HTW.out x (.inl rfl)), Lib.hid (by rw [← RS.out]; exact HRk.out), HBk, HGk⟩
            clear hlet hlet' hsx h10 h58 hl0 hletter HTURN
            go_wp2_with fail
            all_goals first
              | exact ⟨KEEP.out, BM.out⟩
              | exact ⟨KEEPQ.out, BM.out⟩
              | exact ⟨by have h := (TURN (q + 1) (Lib.hid b3)).out; rw [← W3.out] at h; exact h, BM.out⟩
          · have hnl : decide ((97 : Int) ≤ (z : Int)) = false ∨ decide ((z : Int) ≤ 122) = false := by
              rw [hletter, Bool.and_eq_true, decide_eq_true_eq, decide_eq_true_eq] at hlet
              by_cases h97 : 97 ≤ z
              · exact .inr (decide_eq_false (by omega))
              · exact .inl (decide_eq_false (by omega))
            clear hlet hsx h10 h58 hl0 hletter HTURN
            rcases hnl with d4 | d5
            · go_wp2_with fail
              all_goals exact ⟨KEEP.out, BM.out⟩
            · go_wp2_with fail
              all_goals exact ⟨KEEP.out, BM.out⟩
      · obtain rfl : n = E := by omega
        have hys : ys.length = n := by have := HT.out.len; rw [List.length_take] at this; omega
        have hln : b.length = (ys ++ b.drop n).length := by rw [List.length_append, List.length_drop]; omega
        have RES : Hid (∃ v' b', Value.slice (some ⟨g, 0, none⟩) b.length cap = v' ∧ Bsl wr v' b' ∧ parseL b' = parseL b ∧ Below w.heap.size w wr) :=
          Lib.hid ⟨_, ys ++ b.drop n, rfl, row_bsl HRk.out (by omega) (by have := HCAP.out; omega) HGk.out _ hln, twin_parse HI.out (by omega) HT.out, HBk.out⟩
        clear hbn hE4 hys hln
        go_wp2_with fail
        go_ret
        obtain ⟨v', b', h1, h2⟩ := RES.out
        exact ⟨v', b', by rw [h1]; rfl, h2⟩
end Go.Proofs.YtidhemjnchonaaaGreatDoor
