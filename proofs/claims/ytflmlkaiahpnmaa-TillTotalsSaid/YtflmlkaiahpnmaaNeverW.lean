/- TillNever: the walk of the law. -/
import Derived.Test.YtflmlkaiahpnmaaNever
namespace Go.Proofs.Ytflmlkaiahpnmaa
open Go.RowKit Go.Fl

theorem keepL_q {x : Ln} (h : 0 ≤ x.q) : keepL x = canB x.p.toNat := by unfold keepL; rw [decide_eq_true h, Bool.true_and]
theorem keepL_no {x : Ln} (h : x.q < 0) : keepL x = false := by unfold keepL; rw [decide_eq_false (by omega), Bool.false_and]
theorem filter_snoc (ls : List Ln) (k : Nat) (x : Ln) (h : ls[k]? = some x) : (ls.take (k + 1)).filter keepL = (ls.take k).filter keepL ++ (if keepL x then [x] else []) := by
  have hk : k < ls.length := by
    rcases Nat.lt_or_ge k ls.length with h' | h'
    · exact h'
    · rw [List.getElem?_eq_none h'] at h; cases h
  rw [List.take_succ_eq_append_getElem hk, List.filter_append]
  rw [List.getElem?_eq_getElem hk] at h
  injection h with h
  rw [h]
  cases hx : keepL x <;> simp [List.filter, hx]
theorem filter_le (ls : List Ln) (k n : Nat) (hk : k ≤ n) : ((ls.take k).filter keepL).length ≤ n := by
  have h1 := List.length_filter_le keepL (ls.take k)
  have h2 : (ls.take k).length ≤ k := List.length_take_le _ _
  omega

theorem cell_three_new (w : World) (g : Nat) (hg : g = w.heap.size) (a b c : Value) (t : TypeId) :
    ∀ j u, [a, b, c][j]? = some u → (w.alloc (.cells #[a, b, c] t)).cell? ((⟨g, 0, none⟩ : Addr).add j) = some u := by
  intro j u hj
  subst hg
  have e : (⟨w.heap.size, 0, none⟩ : Addr).add j = ⟨w.heap.size, j, none⟩ := by unfold Addr.add; split <;> simp_all
  rw [e, World.cell?_alloc_new]
  match j, hj with
  | 0, h | 1, h | 2, h => simpa using h
  | j + 3, h => simp at h

theorem own_block_ge {w : World} {B : Nat} {e : TypeId} {s n : Nat} {v : Value} {xs : List Value} (h : w.ownsRow B e s v n xs) : ∀ k, v.ownBlock = some k → B ≤ k := by
  intro k hk
  rcases h.2 with ⟨rfl, _⟩ | ⟨g, cap, cur, rfl, hg, _⟩
  · cases hk
  · simp only [Value.ownBlock, Option.some.injEq] at hk; omega
theorem cellsOf_snoc (l : List Ln) (x : Ln) : cellsOf (l ++ [x]) = cellsOf l ++ [.string x.s, .int .i64 x.q, .int .u64 x.p] := by simp [cellsOf]

theorem can_nan (w : World) : Calls Try.prog 14 #[.int .u64 9221120237041090561] w fun e w' => e = .returned (.bool false) ∧ w = w' := by
  have h := can_any 9221120237041090561 w (by decide)
  have e : canB 9221120237041090561 = false := by decide
  rw [e] at h
  exact h

theorem never_any (A : Option Addr) (n cap : Nat) (ls : List Ln) (w : World) (hr : RdL w A n ls) (hn32 : n * 32 ≤ 140737488351232) : Calls Try.prog 4 #[.slice A n cap] w (RetV (.bool true) w) := by
  have hm := hr.2.1
  unfold maxLen at hm
  obtain ⟨i0, hi0, hz0, hz1, hz2⟩ := info_parts info27
  have Hi0 := Lib.hid hi0
  have Hz0 := Lib.hid hz0
  have Hz1 := Lib.hid hz1
  have Hz2 := Lib.hid hz2
  have Hr := Lib.hid hr
  clear hr hi0 hz0 hz1 hz2
  go_enter Try.func4, Try.ntmps4
  go_wp2
  go_loopw [3, 9] (fun v i wr => ∃ k : Nat, k ≤ n ∧ i = .int .i64 k ∧ Hid (wr.ownsRow w.heap.size 27 3 v ((ls.take k).filter keepL).length (cellsOf ((ls.take k).filter keepL))) ∧ Hid (Below w.heap.size w wr)) (fun _ i _ => n - (intOf i).toNat)
  case atStart => exact ⟨0, Nat.zero_le _, rfl, Lib.hid ⟨by simp [cellsOf], .inl ⟨rfl, by simp⟩⟩, Lib.hid (Below.refl _ _)⟩
  case round =>
    obtain ⟨k, hk, rfl, Ho, Hb⟩ := hrel
    by_cases hlt : k < n
    · obtain ⟨b, off, rfl, hbl, hc⟩ := (Hr.out.below Hb.out (Nat.le_refl _)).2.2.2 (by omega)
      obtain ⟨x, hx⟩ : ∃ x, ls[k]? = some x := ⟨_, List.getElem?_eq_getElem (by rw [Hr.out.1]; exact hlt)⟩
      obtain ⟨h1, h2, h3⟩ := hc k x hx
      have Ht := Lib.hid (filter_snoc ls k x hx)
      have hok := Hr.out.2.2.1 x (List.mem_of_getElem? hx)
      obtain ⟨pn, hpn⟩ := Int.eq_ofNat_of_zero_le hok.2.2.2.1
      have Hpn := Lib.hid hpn
      have Hq1 := hok.2.1
      have Hq2 := hok.2.2.1
      have Hle := filter_le ls k k (Nat.le_refl _)
      rw [hpn] at h3
      clear hc hx hpn hok
      by_cases hq : 0 ≤ x.q
      · cases hcan : canB pn
        · have Hcan := Lib.hid hcan
          clear hcan
          go_wp2_with (first
            | (go_at_call 11; refine (canR_any pn _).mono ?_; rw [Hcan.out]; rintro e w' ⟨rfl, rfl⟩))
          go_roundw
          case rel =>
            refine ⟨k + 1, by omega, by go_num, Lib.hid ?_, Lib.hid (Hb.out.alloc Hb.out.size _)⟩
            have e : keepL x = false := by rw [keepL_q hq, Hpn.out, Int.toNat_natCast, Hcan.out]
            rw [Ht.out, e, if_neg (by decide), List.append_nil]
            exact Ho.out.alloc _
          case measure => simp [intOf]; omega
        · have Hcan := Lib.hid hcan
          clear hcan
          go_wp2_with fail
          refine (canR_any pn _).mono ?_
          rw [Hcan.out]
          rintro e w' ⟨rfl, rfl⟩
          have Hn := Lib.hid (cell_three_new (wr.alloc (.cells #[.string x.s, .int .i64 x.q, .int .u64 pn] 27)) (wr.heap.size + 1) (by simp) (.string x.s) (.int .i64 x.q) (.int .u64 pn) 27)
          have Hone : Hid (∀ u ∈ ([.string x.s, .int .i64 x.q, .int .u64 pn] : List Value), u.oneCell' = true) := Lib.hid (by intro u hu; simp at hu; rcases hu with rfl | rfl | rfl <;> rfl)
          have Hbase : Hid (w.heap.size ≤ ((wr.alloc (.cells #[.string x.s, .int .i64 x.q, .int .u64 pn] 27)).alloc (.cells #[.string x.s, .int .i64 x.q, .int .u64 pn] 27)).heap.size) := Lib.hid (by have := Hb.out.size; simp; omega)
          have Hml : Hid (((ls.take k).filter keepL).length + 1 ≤ maxLen) := Lib.hid (by unfold maxLen; omega)
          have Hby : Hid ((((ls.take k).filter keepL).length + 1) * 32 ≤ 140737488355328) := Lib.hid (by omega)
          go_wp2_with (at_builtin; refine wpList_append_own _ rfl (.tmp 21) (.tmp 23) 25 rfl w.heap.size 27 i0 _ 3 32 Try.underlying25 Hi0.out Hz0.out Hz1.out Hz2.out rfl (by decide) _ _ _ rfl ((Ho.out.alloc _).alloc _) ⟨wr.heap.size + 1, 0, none⟩ 1 1 [.string x.s, .int .i64 x.q, .int .u64 pn] rfl rfl Hn.out Hone.out Hml.out Hby.out Hbase.out ?_; intro v' w1 hown1 hgrow1 _; have Ho1 := Lib.hid hown1; have Hg1 := Lib.hid hgrow1; clear hown1 hgrow1)
          go_roundw
          case rel =>
            have e : keepL x = true := by rw [keepL_q hq, Hpn.out, Int.toNat_natCast, Hcan.out]
            have ef : (ls.take (k + 1)).filter keepL = (ls.take k).filter keepL ++ [x] := by rw [Ht.out, e, if_pos rfl]
            refine ⟨k + 1, by omega, by go_num, Lib.hid ?_, Lib.hid (((Hb.out.alloc Hb.out.size _).alloc (by have := Hb.out.size; simp; omega) _).grown Hg1.out Hbase.out (own_block_ge Ho.out))⟩
            rw [ef, cellsOf_snoc, Hpn.out, List.length_append]
            exact Ho1.out
          case measure => simp [intOf]; omega
      · go_wp2
        go_roundw
        case rel =>
          refine ⟨k + 1, by omega, by go_num, Lib.hid ?_, Lib.hid (Hb.out.alloc Hb.out.size _)⟩
          have e : keepL x = false := keepL_no (by omega)
          rw [Ht.out, e, if_neg (by decide), List.append_nil]
          exact Ho.out.alloc _
        case measure => simp [intOf]; omega
    · obtain rfl : k = n := by omega
      have hF : ls.take k = ls := List.take_of_length_le (by rw [Hr.out.1]; omega)
      have hle := filter_le ls k k (Nat.le_refl _)
      rw [hF] at Ho hle
      obtain ⟨A1, cap1, hv, hrd⟩ := own_rdL Ho.out (by unfold maxLen; omega) (fun y hy => Hr.out.2.2.1 y ((List.mem_filter.1 hy).1))
      have hcan := tot_can (ls.filter keepL) (fun y hy => ⟨by simpa using (List.mem_filter.1 hy).2, Hr.out.2.2.1 y ((List.mem_filter.1 hy).1)⟩)
      have Hrd := Lib.hid hrd
      clear hF hle hrd
      rw [hv]
      clear hv
      generalize ls.filter keepL = fs at *
      rcases hcan with hT | ⟨z, hT, hz⟩
      · have HT : Hid (wordI (totc fs) = 9221120237041090561) := Lib.hid (by rw [hT]; rfl)
        clear hT
        go_wp2_with fail
        refine (sum_any _ _ _ _ _ Hrd.out).mono ?_
        rw [HT.out]
        rintro e w1 ⟨rfl, hb1⟩
        have Hb1 := Lib.hid hb1
        clear hb1
        go_wp2_with fail
        refine (sumR_any _ _ _ _ _ (Hrd.out.below Hb1.out (Nat.le_refl _))).mono ?_
        rw [HT.out]
        rintro e w2 ⟨rfl, hb2⟩
        have Hb2 := Lib.hid hb2
        clear hb2
        go_wp2_with fail
        refine (can_nan _).mono ?_
        rintro e w' ⟨rfl, rfl⟩
        go_wp2
        go_ret
        exact ⟨rfl, (Hb.out.trans (Hb1.out.mono Hb.out.size)).trans (Hb2.out.mono (Nat.le_trans Hb.out.size Hb1.out.size))⟩
      · have HT : Hid (wordI (totc fs) = (z : Int)) := Lib.hid (by rw [hT]; rfl)
        have Hz := Lib.hid hz
        clear hT hz
        go_wp2_with fail
        refine (sum_any _ _ _ _ _ Hrd.out).mono ?_
        rw [HT.out]
        rintro e w1 ⟨rfl, hb1⟩
        have Hb1 := Lib.hid hb1
        clear hb1
        go_wp2_with fail
        refine (sumR_any _ _ _ _ _ (Hrd.out.below Hb1.out (Nat.le_refl _))).mono ?_
        rw [HT.out]
        rintro e w2 ⟨rfl, hb2⟩
        have Hb2 := Lib.hid hb2
        clear hb2
        go_wp2_with fail
        refine (can_any z _ (by have := Hz.out; omega)).mono ?_
        rw [canB_le Hz.out]
        rintro e w' ⟨rfl, rfl⟩
        go_wp2
        go_ret
        exact ⟨rfl, (Hb.out.trans (Hb1.out.mono Hb.out.size)).trans (Hb2.out.mono (Nat.le_trans Hb.out.size Hb1.out.size))⟩
end Go.Proofs.Ytflmlkaiahpnmaa
