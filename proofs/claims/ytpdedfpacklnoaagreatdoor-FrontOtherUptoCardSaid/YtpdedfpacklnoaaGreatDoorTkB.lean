/- Contract of token.Bytes: bytesL. -/
import Derived.Test.YtpdedfpacklnoaaGreatDoorTkP
import Derived.Test.YtpdedfpacklnoaaGreatDoorMX
import Derived.WalkMore
import Derived.ScopeJumps
set_option maxRecDepth 100000
namespace Go.Proofs.YtpdedfpacklnoaaGreatDoor
open Go.RowKit Go.BL Go.Ct Go.Sl

@[go_sem] theorem jump_normal {l : Nat} {J : Act → World → Prop} {Q : Exit → Act → World → Prop} {a : Act} {w : World} : Exit.jump l J Q .normal a w = Q .normal a w := rfl
@[go_sem] theorem jump_exit {l : Nat} {J : Act → World → Prop} {Q : Exit → Act → World → Prop} {a : Act} {w : World} (id : Nat) : Exit.jump l J Q (.exit id) a w = Q (.exit id) a w := rfl
@[go_sem] theorem jump_ret {l : Nat} {J : Act → World → Prop} {Q : Exit → Act → World → Prop} {a : Act} {w : World} : Exit.jump l J Q .ret a w = Q .ret a w := rfl
@[go_sem] theorem jump_panic {l : Nat} {J : Act → World → Prop} {Q : Exit → Act → World → Prop} {a : Act} {w : World} (ch : List PanicEntry) : Exit.jump l J Q (.panic ch) a w = Q (.panic ch) a w := rfl
@[go_sem] theorem jump_goto {l : Nat} {J : Act → World → Prop} {Q : Exit → Act → World → Prop} {a : Act} {w : World} (l' : Nat) : Exit.jump l J Q (.goto l') a w = (l' = l ∧ J a w) := rfl
def BytR (o : Option (List Nat)) (w : World) (e : Ending) (w' : World) : Prop := Below w.heap.size w w' ∧ ∃ v, e = .returned (.tuple #[v, .bool o.isSome]) ∧ Own w' w.heap.size v (o.getD [])
theorem rd_three (w : World) (X : Nat) (hX : X < 16777216) (g : Nat) (hg : g = w.heap.size) : Rd (w.alloc (.cells #[.int .u8 ((X : Int) / 65536), .int .u8 ((X : Int) / 256 % 256), .int .u8 ((X : Int) % 256)] 224)) (some ⟨g, 0, none⟩) 3 [X / 65536, X / 256 % 256, X % 256] := by
  obtain ⟨e0, e1, e2⟩ := tri_at w (.int .u8 ((X : Int) / 65536)) (.int .u8 ((X : Int) / 256 % 256)) (.int .u8 ((X : Int) % 256)) 224 g hg
  refine ⟨rfl, by decide, fun x hx => ?_, fun _ => ⟨g, 0, rfl, by rw [hg]; simp, fun i hi => ?_⟩⟩
  · simp only [List.mem_cons, List.not_mem_nil, or_false] at hx
    omega
  · rcases i with _ | _ | _ | i
    · exact e0
    · exact e1
    · exact e2
    · omega
theorem next_of {s t b : List Nat} {o : Option (List Nat)} {acc : List Nat} (h : bytesL s = (bytesL t).map (acc ++ ·)) (h2 : bytesL t = o.map (b ++ ·)) : bytesL s = o.map ((acc ++ b) ++ ·) := by
  rw [h, h2]; cases o <;> simp
set_option maxHeartbeats 4000000 in
theorem bytes_any (s : List UInt8) (hl : s.length ≤ 1048576) (w : World) : Calls Tryz.prog 134 #[.string ⟨s.toArray⟩] w (BytR (bytesL (nats s)) w) := by
  have hnu := numbers_any w
  obtain ⟨hz, hs⟩ := zero_of_info zero229
  have HZ := Lib.hid hz
  clear hz
  go_enter Tryz.func134, Tryz.ntmps134
  go_wp2_with fail
  refine wp_scope_jumps 0 (fun a w' => (∃ u0 u1 u2 u3 u4 u5 u6 u7 u8 u9 u10 u11 u12 u13 u14 u15 u16 u17 u18 u19 u20 u21 u22 u23 u24 u25 u26 u27 u28 u29 u30 u31 u32 u33 u34 u35 u36 u37 u38 u39 u40 u41 u42 u43 u44 u45 u46 u47 u48 u49 u50 u51 u52 u53 u54 u55 u56 u57 u58 u59 u60 u61 u62 u63 u64 u65 u66 u67 u68 : Value, a = { tmps := #[u0, u1, u2, u3, u4, u5, u6, u7, u8, u9, u10, u11, u12, u13, u14, u15, u16, u17, u18, u19, u20, u21, u22, u23, u24, u25, u26, u27, u28, u29, u30, u31, u32, u33, u34, u35, u36, u37, u38, u39, u40, u41, u42, u43, u44, u45, u46, u47, u48, u49, u50, u51, u52, u53, u54, u55, u56, u57, u58, u59, u60, u61, u62, u63, u64, u65, u66, u67, u68], defers := [] }) ∧ Below w.heap.size w w' ∧ bytesL (nats s) = none) (fun _ _ => 0) rfl ?_ ?_
  case refine_2 =>
    rintro a w' ⟨⟨u0, u1, u2, u3, u4, u5, u6, u7, u8, u9, u10, u11, u12, u13, u14, u15, u16, u17, u18, u19, u20, u21, u22, u23, u24, u25, u26, u27, u28, u29, u30, u31, u32, u33, u34, u35, u36, u37, u38, u39, u40, u41, u42, u43, u44, u45, u46, u47, u48, u49, u50, u51, u52, u53, u54, u55, u56, u57, u58, u59, u60, u61, u62, u63, u64, u65, u66, u67, u68, rfl⟩, hB, hN⟩
    go_wp2_with fail
    refine bodyPost_ret (v := .tuple #[.slice none 0 0, .bool false]) (by simp [results, Tryz.results134, go_sem]; try rfl) rfl ?_
    exact ⟨hB, _, rfl, Own.nil _ _⟩
  case refine_1 =>
    go_wp2_with fail
    go_at_call 179
    refine hnu.mono ?_
    rintro e w1 ⟨rfl, hb⟩
    have HB1 := Lib.hid hb
    clear hb hnu
    have hz := HZ.out
    have hsz64 := tabV_size 64
    have hsc := run_storeCells_new (P := Tryz.prog) w1 229 (tabV 0) (tabV 64) (by rw [tabV_size]; exact hs) (by rw [tabV_size, tabV_size]) (tabV_one 64)
    go_wp2_with fail
    obtain ⟨w2, hw2⟩ : ∃ x, w1.alloc (.cells (tabV 64) 229) = x := ⟨_, rfl⟩
    have HB2 : Hid (Below w.heap.size w w2) := Lib.hid (by rw [← hw2]; exact HB1.out.alloc HB1.out.size _)
    have HT : Hid (∀ k : Nat, k < 256 → w2.cell? ⟨w1.heap.size, k, none⟩ = some (.int .u8 (((if vlt k < 64 then vlt k + 1 else 0 : Nat) : Nat) : Int))) := Lib.hid (fun k hk => by
      rw [← hw2, World.cell?_alloc_at _ _ _ _ rfl]
      exact tab_at hk)
    have HS2 : Hid (w1.heap.size < w2.heap.size) := Lib.hid (by rw [← hw2]; simp)
    rw [hw2]
    clear hw2 hsc hz
    go_loopw [0, 5] (fun sv ov wr => ∃ (t : List UInt8) (acc : List Nat), sv = .string ⟨t.toArray⟩ ∧ t.length ≤ 1048576 ∧ Hid (Below w2.heap.size w2 wr) ∧ Hid (Own wr w2.heap.size ov acc) ∧ Hid (bytesL (nats s) = (bytesL (nats t)).map (acc ++ ·)) ∧ Hid (acc.length + t.length ≤ s.length)) (fun sv _ _ => (match sv with | .string b => b.size | _ => 0))
    case atStart => exact ⟨s, [], rfl, hl, Lib.hid (Below.refl _ _), Lib.hid (Own.nil _ _), Lib.hid (by simp), Lib.hid (by simp)⟩
    case round =>
      rename_i u5
      obtain ⟨t, acc, rfl, htl, HR, HO, HP, HL⟩ := hrel
      cases t with
      | nil =>
        have HV : Hid (bytesL (nats s) = some acc) := Lib.hid (by rw [HP.out]; simp [nats, bytesL])
        go_wp2_with fail
        go_ret2
        exact ⟨HB2.out.trans (HR.out.mono HB2.out.size), _, by rw [HV.out]; rfl, by rw [HV.out]; exact HO.out.base HB2.out.size⟩
      | cons c0 tr =>
        have hpos : (0 : Int) < (((c0 :: tr).length : Nat) : Int) := by simp
        obtain ⟨t, ht⟩ : ∃ t, c0 :: tr = t := ⟨_, rfl⟩
        rw [ht] at htl HP HL hpos ⊢
        have HNE : Hid (t ≠ []) := Lib.hid (by rw [← ht]; simp)
        clear ht
        go_upto_region 6 with fail
        obtain ⟨n, hn⟩ : ∃ n : Nat, min t.length 4 = n := ⟨_, rfl⟩
        have hni : (min (t.length : Int) 4) = (n : Int) := by omega
        have hn4 : n ≤ 4 := by omega
        have hnt : n ≤ t.length := by omega
        have hn1 : 1 ≤ n := by omega
        have HNN := Lib.hid hn
        rw [hni]
        clear hni hn
        go_wp2_with fail
        go_loopw [7, 18] (fun xv iv wq => ∃ i X : Nat, i ≤ 4 ∧ iv = .int .i64 (i : Int) ∧ xv = .int .i64 (X : Int) ∧ X < 16777216 ∧ wq = wr ∧ Hid (X < 64 ^ i) ∧ Hid (X = numL (nats t) i) ∧ Hid (∀ j, j < i → j < n → vlt ((nats t).getD j 0) < 64)) (fun _ iv _ => 4 - (intOf iv).toNat)
        case atStart => exact ⟨0, 0, by omega, rfl, rfl, by omega, rfl, Lib.hid (by simp), Lib.hid rfl, Lib.hid (fun j h => absurd h (by omega))⟩
        case round =>
          obtain ⟨i, X, hi, rfl, rfl, hX, rfl, HX, HN, HV⟩ := hrel
          by_cases hi4 : i < 4
          · have hp4 : X * 64 < 16777216 := by
              have h1 := HX.out
              have h2 : 64 ^ i ≤ 64 ^ 3 := Nat.pow_le_pow_right (by omega) (by omega)
              omega
            by_cases hin : i < n
            · have hit : i < t.length := by omega
              obtain ⟨x, hx⟩ : ∃ x, (⟨t.toArray⟩ : ByteArray)[i]'hit = x := ⟨_, rfl⟩
              have Hx : Hid ((nats t).getD i 0 = x.toNat) := Lib.hid (by
                have h1 : t[i]? = some x := by rw [← hx, List.getElem?_eq_getElem hit]; rfl
                unfold nats
                rw [List.getD_eq_getElem?_getD, List.getElem?_map, h1]; rfl)
              have hx256 : x.toNat < 256 := x.toNat_lt
              have hcell := old_cell HR.out HS2.out (HT.out x.toNat hx256)
              by_cases hv : vlt x.toNat < 64
              · rw [if_pos hv] at hcell
                obtain ⟨v, hv'⟩ : ∃ v, vlt x.toNat = v := ⟨_, rfl⟩
                rw [hv'] at hcell hv
                have HVX := Lib.hid hv'
                clear hv'
                have hor := or_add X v hp4 hv
                have HV2 : Hid (∀ j, j < i + 1 → j < n → vlt ((nats t).getD j 0) < 64) := Lib.hid (fun j h1 h2 => by
                  rcases Nat.lt_or_ge j i with h | h
                  · exact HV.out j h h2
                  · obtain rfl : j = i := by omega
                    rw [Hx.out, HVX.out]; exact hv)
                have HN2 : Hid (X * 64 + v = numL (nats t) (i + 1)) := Lib.hid (by
                  show X * 64 + v = numL (nats t) i * 64 + _
                  rw [if_pos (by rw [nats, List.length_map, HNN.out]; exact hin), ← HN.out, Hx.out, HVX.out])
                have HX2 : Hid (X * 64 + v < 64 ^ (i + 1)) := Lib.hid (by have := HX.out; rw [Nat.pow_succ]; omega)
                have hb24 : X * 64 + v < 16777216 := by
                  have h1 := HX2.out
                  have h2 : 64 ^ (i + 1) ≤ 64 ^ 4 := Nat.pow_le_pow_right (by omega) (by omega)
                  omega
                go_wp2_with fail
                exact ⟨⟨i + 1, X * 64 + v, by omega, by go_num, by go_num, hb24, trivial, HX2, HN2, HV2⟩, by simp [intOf]; omega⟩
              · rw [if_neg hv] at hcell
                have HVX := Lib.hid hv
                clear hv
                have HBAD : Hid (bytesL (nats s) = none) := Lib.hid (by
                  rw [HP.out, bytes_bad (j := i) (by rw [nats, List.length_map, HNN.out]; exact hin) (by rw [Hx.out]; exact HVX.out)]; rfl)
                go_wp2_with fail
                go_step3
                exact ⟨rfl, ⟨_, _, _, _, _, _, _, _, _, _, _, _, _, _, _, _, _, _, _, _, _, _, _, _, _, _, _, _, _, _, _, _, _, _, _, _, _, _, _, _, _, _, _, _, _, _, _, _, _, _, _, _, _, _, _, _, _, _, _, _, _, _, _, _, _, _, _, _, _, rfl⟩, HB2.out.trans (HR.out.mono HB2.out.size), HBAD.out⟩
            · have HV2 : Hid (∀ j, j < i + 1 → j < n → vlt ((nats t).getD j 0) < 64) := Lib.hid (fun j h1 h2 => HV.out j (by omega) h2)
              have HN2 : Hid (X * 64 = numL (nats t) (i + 1)) := Lib.hid (by
                show X * 64 = numL (nats t) i * 64 + _
                rw [if_neg (by rw [nats, List.length_map, HNN.out]; exact hin), ← HN.out]; rfl)
              have HX2 : Hid (X * 64 < 64 ^ (i + 1)) := Lib.hid (by have := HX.out; rw [Nat.pow_succ]; omega)
              go_wp2_with fail
              exact ⟨⟨i + 1, X * 64, by omega, by go_num, by go_num, by omega, trivial, HX2, HN2, HV2⟩, by simp [intOf]; omega⟩
          · obtain rfl : i = 4 := by omega
            have hng : ¬ ((4 : Nat) : Int) < 4 := by omega
            obtain ⟨ha0, ha1, ha2⟩ := and_low X hX
            rcases (show n = 1 ∨ n = 2 ∨ n = 3 ∨ n = 4 by omega) with rfl | rfl | rfl | rfl
            · have HBAD : Hid (bytesL (nats s) = none) := Lib.hid (by rw [HP.out, bytes_one (by rw [nats, List.length_map, HNN.out])]; rfl)
              go_wp2_with fail
              go_step3
              exact ⟨rfl, ⟨_, _, _, _, _, _, _, _, _, _, _, _, _, _, _, _, _, _, _, _, _, _, _, _, _, _, _, _, _, _, _, _, _, _, _, _, _, _, _, _, _, _, _, _, _, _, _, _, _, _, _, _, _, _, _, _, _, _, _, _, _, _, _, _, _, _, _, _, _, rfl⟩, HB2.out.trans (HR.out.mono HB2.out.size), HBAD.out⟩
            · have HS := bytes_two (t := nats t) (by rw [nats, List.length_map, HNN.out]) (fun j hj => HV.out j (by omega) hj)
              rw [← HN.out] at HS
              by_cases h0 : X % 65536 = 0
              · rw [if_neg (by omega)] at HS
                have hne : (((X % 65536 : Nat) : Int) != 0) = false := by rw [h0]; rfl
                have HPN := Lib.hid (next_of HP.out HS)
                have HD : Hid ((nats t).drop 2 = nats (t.drop 2)) := Lib.hid (by simp [nats])
                have s2 := sl_from t 2 2 rfl (by omega)
                have HL2 : Hid (acc.length + 1 ≤ 140737488355328) := Lib.hid (by have := HL.out; omega)
                have HO2 := Lib.hid (HO.out.alloc (.cells #[.int .u8 ((X : Int) / 65536), .int .u8 ((X : Int) / 256 % 256), .int .u8 ((X : Int) % 256)] 224))
                have HR2 := Lib.hid (HR.out.alloc HR.out.size (.cells #[.int .u8 ((X : Int) / 65536), .int .u8 ((X : Int) / 256 % 256), .int .u8 ((X : Int) % 256)] 224))
                have HRD := Lib.hid ((rd_three wr X hX wr.heap.size rfl).take 1 (by decide))
                clear HS
                go_wp2_with (at_builtin; refine wpList_appB rfl (.tmp 60) (.tmp 63) 75 rfl Tryz.underlying75 W.info5 rfl HO2.out rfl HRD.out HL2.out HR2.out.size ?_; intro v2 w4 ho2 hb2; have HO4 := Lib.hid ho2; have HR4 := Lib.hid (HR2.out.trans hb2); clear ho2 hb2)
                exact ⟨⟨t.drop 2, acc ++ [X / 65536], rfl, by rw [List.length_drop]; omega, HR4, HO4, Lib.hid (by rw [← HD.out]; exact HPN.out), Lib.hid (by have := HL.out; rw [List.length_drop, List.length_append]; simp; omega)⟩, by show (t.drop 2).length < t.length; rw [List.length_drop]; omega⟩
              · rw [if_pos (by omega)] at HS
                have hne : (((X % 65536 : Nat) : Int) != 0) = true := bne_iff_ne.2 (by omega)
                have HBAD : Hid (bytesL (nats s) = none) := Lib.hid (by rw [HP.out, HS]; rfl)
                clear HS
                go_wp2_with fail
                go_step3
                exact ⟨rfl, ⟨_, _, _, _, _, _, _, _, _, _, _, _, _, _, _, _, _, _, _, _, _, _, _, _, _, _, _, _, _, _, _, _, _, _, _, _, _, _, _, _, _, _, _, _, _, _, _, _, _, _, _, _, _, _, _, _, _, _, _, _, _, _, _, _, _, _, _, _, _, rfl⟩, HB2.out.trans (HR.out.mono HB2.out.size), HBAD.out⟩
            · have HS := bytes_three (t := nats t) (by rw [nats, List.length_map, HNN.out]) (fun j hj => HV.out j (by omega) hj)
              rw [← HN.out] at HS
              by_cases h0 : X % 256 = 0
              · rw [if_neg (by omega)] at HS
                have hne : (((X % 256 : Nat) : Int) != 0) = false := by rw [h0]; rfl
                have HPN := Lib.hid (next_of HP.out HS)
                have HD : Hid ((nats t).drop 3 = nats (t.drop 3)) := Lib.hid (by simp [nats])
                have s2 := sl_from t 3 3 rfl (by omega)
                have HL2 : Hid (acc.length + 2 ≤ 140737488355328) := Lib.hid (by have := HL.out; omega)
                have HO2 := Lib.hid (HO.out.alloc (.cells #[.int .u8 ((X : Int) / 65536), .int .u8 ((X : Int) / 256 % 256), .int .u8 ((X : Int) % 256)] 224))
                have HR2 := Lib.hid (HR.out.alloc HR.out.size (.cells #[.int .u8 ((X : Int) / 65536), .int .u8 ((X : Int) / 256 % 256), .int .u8 ((X : Int) % 256)] 224))
                have HRD := Lib.hid ((rd_three wr X hX wr.heap.size rfl).take 2 (by decide))
                clear HS
                go_wp2_with (at_builtin; refine wpList_appB rfl (.tmp 60) (.tmp 63) 75 rfl Tryz.underlying75 W.info5 rfl HO2.out rfl HRD.out HL2.out HR2.out.size ?_; intro v2 w4 ho2 hb2; have HO4 := Lib.hid ho2; have HR4 := Lib.hid (HR2.out.trans hb2); clear ho2 hb2)
                exact ⟨⟨t.drop 3, acc ++ [X / 65536, X / 256 % 256], rfl, by rw [List.length_drop]; omega, HR4, HO4, Lib.hid (by rw [← HD.out]; exact HPN.out), Lib.hid (by have := HL.out; rw [List.length_drop, List.length_append]; simp; omega)⟩, by show (t.drop 3).length < t.length; rw [List.length_drop]; omega⟩
              · rw [if_pos (by omega)] at HS
                have hne : (((X % 256 : Nat) : Int) != 0) = true := bne_iff_ne.2 (by omega)
                have HBAD : Hid (bytesL (nats s) = none) := Lib.hid (by rw [HP.out, HS]; rfl)
                clear HS
                go_wp2_with fail
                go_step3
                exact ⟨rfl, ⟨_, _, _, _, _, _, _, _, _, _, _, _, _, _, _, _, _, _, _, _, _, _, _, _, _, _, _, _, _, _, _, _, _, _, _, _, _, _, _, _, _, _, _, _, _, _, _, _, _, _, _, _, _, _, _, _, _, _, _, _, _, _, _, _, _, _, _, _, _, rfl⟩, HB2.out.trans (HR.out.mono HB2.out.size), HBAD.out⟩
            · have HS := bytes_four (t := nats t) (by rw [nats, List.length_map, HNN.out]) (fun j hj => HV.out j (by omega) hj)
              rw [← HN.out] at HS
              have HPN := Lib.hid (next_of HP.out HS)
              have HD : Hid ((nats t).drop 4 = nats (t.drop 4)) := Lib.hid (by simp [nats])
              have s2 := sl_from t 4 4 rfl (by omega)
              have HL2 : Hid (acc.length + 3 ≤ 140737488355328) := Lib.hid (by have := HL.out; omega)
              have HO2 := Lib.hid (HO.out.alloc (.cells #[.int .u8 ((X : Int) / 65536), .int .u8 ((X : Int) / 256 % 256), .int .u8 ((X : Int) % 256)] 224))
              have HR2 := Lib.hid (HR.out.alloc HR.out.size (.cells #[.int .u8 ((X : Int) / 65536), .int .u8 ((X : Int) / 256 % 256), .int .u8 ((X : Int) % 256)] 224))
              have HRD := Lib.hid ((rd_three wr X hX wr.heap.size rfl).take 3 (by decide))
              clear HS
              go_wp2_with (at_builtin; refine wpList_appB rfl (.tmp 60) (.tmp 63) 75 rfl Tryz.underlying75 W.info5 rfl HO2.out rfl HRD.out HL2.out HR2.out.size ?_; intro v2 w4 ho2 hb2; have HO4 := Lib.hid ho2; have HR4 := Lib.hid (HR2.out.trans hb2); clear ho2 hb2)
              exact ⟨⟨t.drop 4, acc ++ [X / 65536, X / 256 % 256, X % 256], rfl, by rw [List.length_drop]; omega, HR4, HO4, Lib.hid (by rw [← HD.out]; exact HPN.out), Lib.hid (by have := HL.out; rw [List.length_drop, List.length_append]; simp; omega)⟩, by show (t.drop 4).length < t.length; rw [List.length_drop]; omega⟩
end Go.Proofs.YtpdedfpacklnoaaGreatDoor
