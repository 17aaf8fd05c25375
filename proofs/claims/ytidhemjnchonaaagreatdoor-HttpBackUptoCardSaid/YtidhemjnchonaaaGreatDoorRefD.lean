/- Contract of the document's lines: a text's parts between ends of lines, or that a CR or LF stands elsewhere. -/
import Derived.Test.YtidhemjnchonaaaGreatDoorRefB
import Derived.Test.YtidhemjnchonaaaGreatDoorRefC
import Derived.Test.YtidhemjnchonaaaGreatDoorTxt
namespace Go.Proofs.YtidhemjnchonaaaGreatDoor
open Go.RowKit Go.BL

theorem seg_next {s : List UInt8} {p i : Nat} {x : UInt8} (h : ((s.drop p).take (i - p)).any crb = false) (hx : s[i]? = some x) (hc : crb x = false) (hp : p ≤ i) : ((s.drop p).take (i + 1 - p)).any crb = false := by
  have e : i + 1 - p = (i - p) + 1 := by omega
  have e2 : (s.drop p)[i - p]? = some x := by rw [List.getElem?_drop, show p + (i - p) = i by omega, hx]
  rw [e, List.take_add_one, e2, List.any_append, h]
  simp [hc]
theorem seg_hit {s : List UInt8} {p i n : Nat} {x : UInt8} (hx : s[i]? = some x) (hc : crb x = true) (hp : p ≤ i) (hn : i < n) : crL ((s.drop p).take (n - p)) = true := by
  have e2 : ((s.drop p).take (n - p))[i - p]? = some x := by rw [List.getElem?_take_of_lt (by omega), List.getElem?_drop, show p + (i - p) = i by omega, hx]
  unfold crL
  rw [List.any_eq_true]
  exact ⟨x, List.mem_of_getElem? e2, hc⟩
theorem crb_cases {x : UInt8} (h : crb x = true) : x = 13 ∨ x = 10 := by simpa [crb] using h
theorem crb_not {x : UInt8} (h : crb x = false) : ((x.toNat : Int) == 13) = false ∧ ((x.toNat : Int) == 10) = false := by
  simp only [crb, Bool.or_eq_false_iff, beq_eq_false_iff_ne] at h
  constructor
  · exact beq_false_of_ne (fun e => h.1 (UInt8.toNat_inj.1 (by show x.toNat = 13; omega)))
  · exact beq_false_of_ne (fun e => h.2 (UInt8.toNat_inj.1 (by show x.toNat = 10; omega)))
def LinR (s : List UInt8) (w : World) (e : Ending) (w' : World) : Prop :=
  Below w.heap.size w w' ∧ (((lns s [13, 10]).any crL = true ∧ e = .returned (.tuple #[.slice none 0 0, .bool false])) ∨ ((lns s [13, 10]).any crL = false ∧ ∃ v, e = .returned (.tuple #[v, .bool true]) ∧ Txts w' v (lns s [13, 10])))
theorem cell_one (w : World) (x : Value) (t : TypeId) : (w.alloc (.cells #[x] t)).cell? ⟨w.heap.size, 0, none⟩ = some x := by
  rw [World.cell?_alloc_at _ _ _ _ rfl]; rfl
set_option maxHeartbeats 2000000 in
set_option maxRecDepth 100000 in
theorem linesD_any (s : List UInt8) (hs : s.length ≤ 1073741824) (w : World) : Calls Tryz.prog 44 #[.string ⟨s.toArray⟩] w (LinR s w) := by
  go_enter Tryz.func44, Tryz.ntmps44
  go_wp2_with fail
  go_loopw [4, 5] (fun v j wr => ∃ (p : Nat) (ls : List (List UInt8)), j = .int .i64 (p : Int) ∧ p ≤ s.length ∧ ls.length ≤ p ∧ Hid (OwnS wr w.heap.size v ls) ∧ Hid (ls.any crL = false) ∧ Hid (lns s [13, 10] = ls ++ lns (s.drop p) [13, 10]) ∧ Hid (Below w.heap.size w wr)) (fun _ j _ => s.length - (intOf j).toNat)
  case atStart => exact ⟨0, [], rfl, by omega, by simp, Lib.hid (OwnS.nil _ _), Lib.hid rfl, Lib.hid (by simp), Lib.hid (Below.refl _ _)⟩
  case round =>
    obtain ⟨p, ls, rfl, hp, hll, HO, HA, HL, HB⟩ := hrel
    have hf := findR_at s [13, 10] p hs (by simp) (by simp) (by omega)
    rcases findFrom_is s [13, 10] p with h1 | ⟨n, h1⟩
    · rw [h1] at hf
      have HS : Hid (lns s [13, 10] = ls ++ [(s.drop p).take (s.length - p)]) := Lib.hid (by
        rw [HL.out, find_lns_no h1, List.take_of_length_le (by rw [List.length_drop]; exact Nat.le_refl _)])
      have hpn : p ≤ s.length := hp
      have hnl : s.length ≤ s.length := Nat.le_refl _
      clear h1
      go_wp2_with (go_at_call 43; refine (hf _).mono ?_; rintro e w' ⟨rfl, rfl⟩)
      go_loop [8] (fun j => ∃ i : Nat, j = .int .i64 (i : Int) ∧ p ≤ i ∧ i ≤ s.length ∧ Hid (((s.drop p).take (i - p)).any crb = false)) (fun j => s.length - (intOf j).toNat)
      case atStart => exact ⟨p, rfl, Nat.le_refl _, hpn, Lib.hid (by simp)⟩
      case round =>
        obtain ⟨i, rfl, hpi, hin, HK⟩ := hrel
        by_cases hlt : i < s.length
        · have hlt' : i < s.length := by omega
          obtain ⟨x, hx⟩ : ∃ x, (⟨s.toArray⟩ : ByteArray)[i]'hlt' = x := ⟨_, rfl⟩
          have Hx : Hid (s[i]? = some x) := Lib.hid (by rw [← hx, List.getElem?_eq_getElem hlt']; rfl)
          cases hc : crb x with
          | true =>
            have HF : Hid ((lns s [13, 10]).any crL = true) := Lib.hid (by
              rw [HS.out, List.any_append, List.any_cons, seg_hit Hx.out hc hpi hlt]; simp)
            rcases crb_cases hc with rfl | rfl
            all_goals
              clear hc
              go_wp2_with fail
              go_ret2
              exact ⟨HB.out, .inl ⟨HF.out, rfl⟩⟩
          | false =>
            have HN := Lib.hid (seg_next HK.out Hx.out hc hpi)
            obtain ⟨n13, n10⟩ := crb_not hc
            clear hc
            go_wp2_with fail
            exact ⟨⟨i + 1, by go_num, by omega, by omega, HN⟩, by simp [intOf]; omega⟩
        · obtain rfl : i = s.length := by omega
          have hsl := sl_mid s p s.length (p : Int) (s.length : Int) rfl rfl hpn hnl
          have HC : Hid (crL ((s.drop p).take (s.length - p)) = false) := Lib.hid HK.out
          obtain ⟨u, hu⟩ : ∃ u, (s.drop p).take (s.length - p) = u := ⟨_, rfl⟩
          rw [hu] at hsl HC HS
          clear hu HK
          go_wp2_with (at_builtin; refine wpList_appT rfl (.tmp 33) (.tmp 38) rfl rfl (HO.out.alloc _) rfl (cell_one _ _ _) (by omega) (by have := HB.out.size; simp; omega) ?_; intro v' w1 ho hb; have HO1 := Lib.hid ho; have HB1 := Lib.hid ((HB.out.alloc HB.out.size _).trans hb); clear ho hb)
          go_ret2
          refine ⟨HB1.out, .inr ⟨by rw [HS.out, List.any_append, HA.out, List.any_cons, HC.out]; rfl, _, rfl, ?_⟩⟩
          rw [HS.out]
          exact HO1.out.txts
    · rw [h1] at hf
      obtain ⟨hpn, hn2, -⟩ := findFrom_at (by simp) h1
      simp only [List.length_cons, List.length_nil] at hn2
      have hnl : n ≤ s.length := by omega
      have hn0 : ((n : Int) < 0) = False := by simp only [eq_iff_iff, iff_false]; omega
      have HS : Hid (lns s [13, 10] = ls ++ (s.drop p).take (n - p) :: lns (s.drop (n + 2)) [13, 10]) := Lib.hid (by
        rw [HL.out, find_lns (by decide) h1]; rfl)
      clear h1
      go_wp2_with (go_at_call 43; refine (hf _).mono ?_; rintro e w' ⟨rfl, rfl⟩)
      go_loop [8] (fun j => ∃ i : Nat, j = .int .i64 (i : Int) ∧ p ≤ i ∧ i ≤ n ∧ Hid (((s.drop p).take (i - p)).any crb = false)) (fun j => n - (intOf j).toNat)
      case atStart => exact ⟨p, rfl, Nat.le_refl _, hpn, Lib.hid (by simp)⟩
      case round =>
        obtain ⟨i, rfl, hpi, hin, HK⟩ := hrel
        by_cases hlt : i < n
        · have hlt' : i < s.length := by omega
          obtain ⟨x, hx⟩ : ∃ x, (⟨s.toArray⟩ : ByteArray)[i]'hlt' = x := ⟨_, rfl⟩
          have Hx : Hid (s[i]? = some x) := Lib.hid (by rw [← hx, List.getElem?_eq_getElem hlt']; rfl)
          cases hc : crb x with
          | true =>
            have HF : Hid ((lns s [13, 10]).any crL = true) := Lib.hid (by
              rw [HS.out, List.any_append, List.any_cons, seg_hit Hx.out hc hpi hlt]; simp)
            rcases crb_cases hc with rfl | rfl
            all_goals
              clear hc
              go_wp2_with fail
              go_ret2
              exact ⟨HB.out, .inl ⟨HF.out, rfl⟩⟩
          | false =>
            have HN := Lib.hid (seg_next HK.out Hx.out hc hpi)
            obtain ⟨n13, n10⟩ := crb_not hc
            clear hc
            go_wp2_with fail
            exact ⟨⟨i + 1, by go_num, by omega, by omega, HN⟩, by simp [intOf]; omega⟩
        · obtain rfl : i = n := by omega
          have hsl := sl_mid s p i (p : Int) (i : Int) rfl rfl hpn hnl
          have HC : Hid (crL ((s.drop p).take (i - p)) = false) := Lib.hid HK.out
          obtain ⟨u, hu⟩ : ∃ u, (s.drop p).take (i - p) = u := ⟨_, rfl⟩
          rw [hu] at hsl HC HS
          clear hu HK
          go_wp2_with (at_builtin; refine wpList_appT rfl (.tmp 33) (.tmp 38) rfl rfl (HO.out.alloc _) rfl (cell_one _ _ _) (by omega) (by have := HB.out.size; simp; omega) ?_; intro v' w1 ho hb; have HO1 := Lib.hid ho; have HB1 := Lib.hid ((HB.out.alloc HB.out.size _).trans hb); clear ho hb)
          have HA2 : Hid ((ls ++ [u]).any crL = false) := Lib.hid (by rw [List.any_append, HA.out, List.any_cons, HC.out]; rfl)
          have HL2 : Hid (lns s [13, 10] = (ls ++ [u]) ++ lns (s.drop (i + 2)) [13, 10]) := Lib.hid (by rw [HS.out, List.append_assoc]; rfl)
          exact ⟨⟨i + 2, ls ++ [u], by go_num, by omega, by simp; omega, HO1, HA2, HL2, HB1⟩, by simp [intOf]; omega⟩
end Go.Proofs.YtidhemjnchonaaaGreatDoor
