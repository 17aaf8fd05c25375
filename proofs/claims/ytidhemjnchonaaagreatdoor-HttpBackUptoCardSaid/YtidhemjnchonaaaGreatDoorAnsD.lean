/- Contracts of strconv.Atoi at any text, and of http.status. -/
import Derived.Test.YtidhemjnchonaaaGreatDoorAnsP
import Derived.Test.YtidhemjnchonaaaGreatDoorPrnA
import Derived.Test.YtidhemjnchonaaaGreatDoorRefA
import Derived.Test.YtidhemjnchonaaaGreatDoorShelfB
import Derived.Deep.RegionWith
namespace Go.Proofs.YtidhemjnchonaaaGreatDoor
open Go.RowKit Go.BL

theorem pput2 (P : Program) (f : Func) (R : Ending → World → Prop) (K K2 : Act → World → Prop) (j : Option Tmp) (v : Value) : ∀ c (a : Act) w, Exit.then K (Exit.then K2 (bodyPost P f R)) (.panic c) (a.put j v) w → Exit.then K (Exit.then K2 (bodyPost P f R)) (.panic c) a w := fun _ _ _ h => by cases j <;> exact h
/-- The cells of the library's two errors hold some errors. -/
def Errs (w : World) : Prop := (∃ t p, w.cell? ⟨1, 0, none⟩ = some (.iface t p)) ∧ ∃ t p, w.cell? ⟨2, 0, none⟩ = some (.iface t p)
theorem Errs.below {w w' : World} (h : Errs w) (hb : Below w.heap.size w w') : Errs w' := by
  obtain ⟨⟨t, p, h1⟩, u, q, h2⟩ := h
  exact ⟨⟨t, p, (hb.cell (lt_block h1)).trans h1⟩, u, q, (hb.cell (lt_block h2)).trans h2⟩
/-- A number and no error, or a number and some error. -/
def AtoR (v : List UInt8) (w : World) (e : Ending) (w' : World) : Prop :=
  Below w.heap.size w w' ∧ ((∃ n : Int, e = .returned (.tuple #[.int .i64 n, .nilIface]) ∧ Lib.atoiAll v = .ok n ∧ -9223372036854775808 ≤ n ∧ n ≤ 9223372036854775807) ∨
    (∃ (n : Int) (t : TypeId) (p : Value), e = .returned (.tuple #[.int .i64 n, .iface t p]) ∧ atoiOk v = false))
theorem atoi_any (v : List UInt8) (hv : v.length ≤ 1073741824) (w : World) (he : Errs w) : Calls Tryz.prog 57 #[.string ⟨v.toArray⟩] w (AtoR v w) := by
  obtain ⟨⟨t1, p1, c1⟩, t2, p2, c2⟩ := he
  have hsz : (⟨v.toArray⟩ : ByteArray).size ≤ 1073741824 := hv
  rcases hr : Lib.atoiAll v with n | _ | _
  · refine (Any.strconv_Atoi_ok Tryz.laysC172 ⟨v.toArray⟩ (by omega) n hr w).mono ?_
    rintro e w' ⟨rfl, h⟩
    have hb := Lib.atoiAll_bounds hr
    refine ⟨?_, .inl ⟨n, rfl, hr, hb⟩⟩
    rcases h with rfl | ⟨t, rfl⟩
    · exact Below.refl _ _
    · exact Lib.bytesWorld_below w _ _
  · refine (Any.strconv_Atoi_syntax Tryz.laysC172 ⟨v.toArray⟩ (by omega) hr (.iface t1 p1) w c1 (.inr ⟨t1, p1, rfl⟩)).mono ?_
    rintro e w' ⟨N, rfl, _, _, hb⟩
    exact ⟨hb, .inr ⟨_, _, _, rfl, by unfold atoiOk; rw [hr]⟩⟩
  · refine (Any.strconv_Atoi_range Tryz.laysC172 ⟨v.toArray⟩ (by omega) hr (.iface t2 p2) w c2 (.inr ⟨t2, p2, rfl⟩)).mono ?_
    rintro e w' ⟨N, rfl, _, _, hb⟩
    exact ⟨hb, .inr ⟨_, _, _, rfl, by unfold atoiOk; rw [hr]⟩⟩
theorem numL_bound : ∀ (s : List UInt8) (acc : Nat), ∀ n, Lib.decFrom acc s = some n → n < (acc + 1) * 10 ^ s.length
  | [], acc, n, h => by simp only [Lib.decFrom, Option.some.injEq] at h; subst h; simp
  | c :: r, acc, n, h => by
    simp only [Lib.decFrom] at h
    cases e : Lib.digitVal c with
    | none => rw [e] at h; cases h
    | some d =>
      rw [e] at h
      have := numL_bound r _ n h
      have hd : d ≤ 9 := by unfold Lib.digitVal at e; split at e <;> simp at e; omega
      rw [List.length_cons, Nat.pow_succ]
      refine Nat.lt_of_lt_of_le this ?_
      rw [Nat.mul_comm (10 ^ r.length) 10, ← Nat.mul_assoc]
      exact Nat.mul_le_mul_right _ (by omega)
theorem trim_prefix {l : List UInt8} (h : Lib.hasPrefix l stat11 = true) : Lib.trimPrefix l stat11 = l.drop 9 := by
  unfold Lib.trimPrefix
  rw [if_pos h]
  rfl
set_option maxHeartbeats 4000000 in
set_option maxRecDepth 100000 in
theorem status_any (l : List UInt8) (hl : l.length ≤ 1073741824) (w : World) : Calls Tryz.prog 56 #[.string ⟨l.toArray⟩] w (RetV (.int .i64 (statusL l)) w) := by
  have hcp : ∀ w, Calls Tryz.prog 80 #[.string ⟨l.toArray⟩, .string ⟨#[72, 84, 84, 80, 47, 49, 46, 49, 32]⟩] w fun e w' => e = .returned (.tuple #[.string ⟨(Lib.trimPrefix l stat11).toArray⟩, .bool (Lib.hasPrefix l stat11)]) ∧ w = w' := fun w =>
    (Tryz.strings_CutPrefix ⟨l.toArray⟩ ⟨#[72, 84, 84, 80, 47, 49, 46, 49, 32]⟩ w).mono fun _ _ ⟨a, b⟩ => ⟨a, b.symm⟩
  obtain ⟨S, hS⟩ : ∃ x, statusL l = x := ⟨_, rfl⟩
  rw [hS]
  unfold statusL at hS
  cases hp : Lib.hasPrefix l stat11 with
  | false =>
    rw [hp] at hS hcp
    rw [if_pos rfl] at hS
    subst hS
    clear hp
    go_enter Tryz.func56, Tryz.ntmps56
    go_wp2_with (go_at_call 80; refine (hcp _).mono ?_; rintro e w' ⟨rfl, rfl⟩)
    go_ret
    exact ⟨rfl, Below.refl _ _⟩
  | true =>
  rw [hp, trim_prefix hp] at hcp
  rw [hp, if_neg (by decide)] at hS
  clear hp
  have hsl : (l.drop 9).length ≤ 1073741824 := by rw [List.length_drop]; omega
  generalize l.drop 9 = s at *
  by_cases h4 : s.length < 4
  · have h4' : (s.length : Int) < 4 := by omega
    rw [if_pos h4] at hS
    subst hS
    clear h4
    go_enter Tryz.func56, Tryz.ntmps56
    go_wp2_with (go_at_call 80; refine (hcp _).mono ?_; rintro e w' ⟨rfl, rfl⟩)
    go_ret
    exact ⟨rfl, Below.refl _ _⟩
  have h4' : ¬ (s.length : Int) < 4 := by omega
  have h4'' : (3 : Int) < (s.length : Int) := by omega
  rw [if_neg h4] at hS
  obtain ⟨d, hd⟩ : ∃ d, s[3]? = some d := ⟨_, List.getElem?_eq_getElem (by omega)⟩
  have hid : ∀ hk : 3 < (⟨s.toArray⟩ : ByteArray).size, (⟨s.toArray⟩ : ByteArray)[3]'hk = d := by
    intro hk
    have h1 : 3 < s.length := hk
    have : s[3]'h1 = d := by rw [List.getElem?_eq_getElem h1] at hd; exact Option.some.inj hd
    exact this
  rw [hd] at hS
  by_cases hd32 : d = 32
  case neg =>
    have hne : ((d.toNat : Int) != 32) = true := bne_iff_ne.2 (fun e => hd32 (UInt8.toNat_inj.1 (by show d.toNat = 32; omega)))
    rw [if_pos (by simpa using hd32)] at hS
    subst hS
    clear hd hd32 h4
    go_enter Tryz.func56, Tryz.ntmps56
    go_wp2_with (go_at_call 80; refine (hcp _).mono ?_; rintro e w' ⟨rfl, rfl⟩)
    go_ret
    exact ⟨rfl, Below.refl _ _⟩
  subst hd32
  rw [if_neg (by simp)] at hS
  have hs3 := sl_to s 3 3 rfl (by omega)
  have hs4 := sl_from s 4 4 rfl (by omega)
  have ht3 : (s.take 3).length = 3 := by rw [List.length_take]; omega
  have hal := all_any 70 dig digit_any (fun _ _ => rfl) (s.take 3) (by omega)
  obtain ⟨g, hg⟩ : ∃ g, (s.take 3).all dig = g := ⟨_, rfl⟩
  rw [hg] at hal hS
  cases g
  case false =>
    rw [if_pos rfl] at hS
    subst hS
    generalize s.take 3 = t at *
    clear hd h4 hg ht3
    go_enter Tryz.func56, Tryz.ntmps56
    go_wp2_with fail
    (go_at_call 80; refine (hcp _).mono ?_; rintro e w' ⟨rfl, rfl⟩)
    go_wp2_with fail
    (go_at_call 67; refine (hal _).mono ?_; rintro e w' ⟨rfl, rfl⟩)
    go_wp2_with fail
    go_ret
    exact ⟨rfl, Below.refl _ _⟩
  rw [if_neg (by decide)] at hS
  have hat : Lib.atoi (s.take 3) = some (numL (s.take 3) : Int) := atoi_num (fun e => by rw [e] at ht3; simp at ht3) hg
  have hca := fun w => Tryz.strconv_Atoi ⟨(s.take 3).toArray⟩ _ (show (s.take 3).length ≤ 18 by omega) hat w
  generalize s.take 3 = t at *
  generalize s.drop 4 = s4 at *
  obtain ⟨n, hn⟩ : ∃ n, numL t = n := ⟨_, rfl⟩
  rw [hn] at hS hca
  have hre := reason_any (n : Int)
  obtain ⟨R, hR⟩ : ∃ x, reasonL (n : Int) = x := ⟨_, rfl⟩
  rw [hR] at hre hS
  have HS := Lib.hid hS
  clear hd h4 hg ht3 hat hn hR hS
  obtain ⟨g2, hg2⟩ : ∃ g, (R == s4) = g := ⟨_, rfl⟩
  have hg2' : (R != s4) = !g2 := by rw [bne, hg2]
  have HG2 := Lib.hid hg2
  cases R with
  | nil =>
    have HF : Hid (S = 0) := Lib.hid (by rw [← HS.out, if_pos (.inl rfl)])
    clear hg2 hg2'
    go_enter Tryz.func56, Tryz.ntmps56
    go_wp2_with fail
    (go_at_call 80; refine (hcp _).mono ?_; rintro e w' ⟨rfl, rfl⟩)
    go_wp2_with fail
    (go_at_call 67; refine (hal _).mono ?_; rintro e w' ⟨rfl, rfl⟩)
    go_wp2_with fail
    (go_at_call 57; refine (hca _).mono ?_; rintro e w2 ⟨rfl, tt, hw2⟩)
    have HB2 : Hid (Below w.heap.size w w2) := Lib.hid (by rw [hw2]; exact Lib.bytesWorld_below w 5 tt)
    clear hw2
    go_wp2_with fail
    refine wp_region_any (by kernel_rfl) ?_
    (try (change wpAny _ _ _ _ _ _ _ (World.drew _)))
    refine wpAny_take (i := 0) (v := .int .i64 (n : Int)) rfl (by kernel_rfl) (by kernel_rfl) (by kernel_rfl) (pput2 _ _ _ _ _ _ _) (Or.inl ⟨by kernel_rfl, ?_⟩) ?_
    · intro w; go_simp
    refine wpAny_ready (rs := [1]) (by kernel_rfl) (by simp) ?_
    refine (AllReady.cons (i := 1) rfl (fun K hK => ?_) AllReady.nil)
    go_simp
    go_at_call 14
    refine (hre _).mono ?_
    rintro e w' ⟨rfl, rfl⟩
    refine hK _ _ ?_
    clear hK K
    refine wpAny_take (i := 2) (v := .bool true) rfl (by kernel_rfl) (by kernel_rfl) (by kernel_rfl) (pput2 _ _ _ _ _ _ _) (Or.inl ⟨by kernel_rfl, ?_⟩) ?_
    · intro w; go_simp
    refine wpAny_take (i := 3) (v := .bool true) rfl (by kernel_rfl) (by kernel_rfl) (by kernel_rfl) (pput2 _ _ _ _ _ _ _) (Or.inl ⟨by kernel_rfl, ?_⟩) ?_
    · intro w; go_simp
    refine wpAny_take (i := 4) (v := undef) rfl (by kernel_rfl) (by kernel_rfl) (by kernel_rfl) (pput2 _ _ _ _ _ _ _) (Or.inr ⟨by kernel_rfl, rfl⟩) ?_
    refine wpAny_take (i := 6) (v := undef) rfl (by kernel_rfl) (by kernel_rfl) (by kernel_rfl) (pput2 _ _ _ _ _ _ _) (Or.inr ⟨by kernel_rfl, rfl⟩) ?_
    refine wpAny_take (i := 7) (v := undef) rfl (by kernel_rfl) (by kernel_rfl) (by kernel_rfl) (pput2 _ _ _ _ _ _ _) (Or.inr ⟨by kernel_rfl, rfl⟩) ?_
    refine wpAny_take (i := 5) (v := undef) rfl (by kernel_rfl) (by kernel_rfl) (by kernel_rfl) (pput2 _ _ _ _ _ _ _) (Or.inr ⟨by kernel_rfl, rfl⟩) ?_
    refine wpAny_take (i := 8) (v := undef) rfl (by kernel_rfl) (by kernel_rfl) (by kernel_rfl) (pput2 _ _ _ _ _ _ _) (Or.inr ⟨by kernel_rfl, rfl⟩) ?_
    refine wpAny_ready (rs := [9]) (by kernel_rfl) (by simp) ?_
    refine (AllReady.cons (i := 9) rfl (fun K hK => ?_) AllReady.nil)
    go_simp
    refine hK _ _ ?_
    clear hK K
    refine wpAny_done (by kernel_rfl) ?_ _
    go_wp2_with fail
    go_ret
    refine ⟨?_, HB2.out.drew⟩
    rw [HF.out]
    simp
  | cons r0 rt =>
    cases g2
    case false =>
      have HF : Hid (S = 0) := Lib.hid (by rw [← HS.out, if_pos (.inr (by have := HG2.out; simpa using this))])
      go_enter Tryz.func56, Tryz.ntmps56
      go_wp2_with fail
      (go_at_call 80; refine (hcp _).mono ?_; rintro e w' ⟨rfl, rfl⟩)
      go_wp2_with fail
      (go_at_call 67; refine (hal _).mono ?_; rintro e w' ⟨rfl, rfl⟩)
      go_wp2_with fail
      (go_at_call 57; refine (hca _).mono ?_; rintro e w2 ⟨rfl, tt, hw2⟩)
      have HB2 : Hid (Below w.heap.size w w2) := Lib.hid (by rw [hw2]; exact Lib.bytesWorld_below w 5 tt)
      clear hw2
      go_wp2_with fail
      refine wp_region_any (by kernel_rfl) ?_
      (try (change wpAny _ _ _ _ _ _ _ (World.drew _)))
      refine wpAny_take (i := 0) (v := .int .i64 (n : Int)) rfl (by kernel_rfl) (by kernel_rfl) (by kernel_rfl) (pput2 _ _ _ _ _ _ _) (Or.inl ⟨by kernel_rfl, ?_⟩) ?_
      · intro w; go_simp
      refine wpAny_ready (rs := [1]) (by kernel_rfl) (by simp) ?_
      refine (AllReady.cons (i := 1) rfl (fun K hK => ?_) AllReady.nil)
      go_simp
      go_at_call 14
      refine (hre _).mono ?_
      rintro e w' ⟨rfl, rfl⟩
      refine hK _ _ ?_
      clear hK K
      refine wpAny_take (i := 2) (v := .bool false) rfl (by kernel_rfl) (by kernel_rfl) (by kernel_rfl) (pput2 _ _ _ _ _ _ _) (Or.inl ⟨by kernel_rfl, ?_⟩) ?_
      · intro w; go_simp
      refine wpAny_take (i := 3) (v := .bool false) rfl (by kernel_rfl) (by kernel_rfl) (by kernel_rfl) (pput2 _ _ _ _ _ _ _) (Or.inl ⟨by kernel_rfl, ?_⟩) ?_
      · intro w; go_simp
      refine wpAny_take (i := 4) (v := .int .i64 (n : Int)) rfl (by kernel_rfl) (by kernel_rfl) (by kernel_rfl) (pput2 _ _ _ _ _ _ _) (Or.inl ⟨by kernel_rfl, ?_⟩) ?_
      · intro w; go_simp
      refine wpAny_take (i := 6) (v := .string ⟨s.toArray⟩) rfl (by kernel_rfl) (by kernel_rfl) (by kernel_rfl) (pput2 _ _ _ _ _ _ _) (Or.inl ⟨by kernel_rfl, ?_⟩) ?_
      · intro w; go_simp
      refine wpAny_take (i := 7) (v := .string ⟨s4.toArray⟩) rfl (by kernel_rfl) (by kernel_rfl) (by kernel_rfl) (pput2 _ _ _ _ _ _ _) (Or.inl ⟨by kernel_rfl, ?_⟩) ?_
      · intro w; go_simp
      refine wpAny_ready (rs := [5]) (by kernel_rfl) (by simp) ?_
      refine (AllReady.cons (i := 5) rfl (fun K hK => ?_) AllReady.nil)
      go_simp
      go_at_call 14
      refine (hre _).mono ?_
      rintro e w' ⟨rfl, rfl⟩
      refine hK _ _ ?_
      clear hK K
      refine wpAny_take (i := 8) (v := .bool true) rfl (by kernel_rfl) (by kernel_rfl) (by kernel_rfl) (pput2 _ _ _ _ _ _ _) (Or.inl ⟨by kernel_rfl, ?_⟩) ?_
      · intro w; go_simp
      refine wpAny_ready (rs := [9]) (by kernel_rfl) (by simp) ?_
      refine (AllReady.cons (i := 9) rfl (fun K hK => ?_) AllReady.nil)
      go_simp
      refine hK _ _ ?_
      clear hK K
      refine wpAny_done (by kernel_rfl) ?_ _
      go_wp2_with fail
      go_ret
      refine ⟨?_, HB2.out.drew⟩
      rw [HF.out]
      simp
    case true =>
      have HF : Hid (S = (n : Int)) := Lib.hid (by rw [← HS.out, if_neg (by have := HG2.out; simpa using this)])
      go_enter Tryz.func56, Tryz.ntmps56
      go_wp2_with fail
      (go_at_call 80; refine (hcp _).mono ?_; rintro e w' ⟨rfl, rfl⟩)
      go_wp2_with fail
      (go_at_call 67; refine (hal _).mono ?_; rintro e w' ⟨rfl, rfl⟩)
      go_wp2_with fail
      (go_at_call 57; refine (hca _).mono ?_; rintro e w2 ⟨rfl, tt, hw2⟩)
      have HB2 : Hid (Below w.heap.size w w2) := Lib.hid (by rw [hw2]; exact Lib.bytesWorld_below w 5 tt)
      clear hw2
      go_wp2_with fail
      refine wp_region_any (by kernel_rfl) ?_
      (try (change wpAny _ _ _ _ _ _ _ (World.drew _)))
      refine wpAny_take (i := 0) (v := .int .i64 (n : Int)) rfl (by kernel_rfl) (by kernel_rfl) (by kernel_rfl) (pput2 _ _ _ _ _ _ _) (Or.inl ⟨by kernel_rfl, ?_⟩) ?_
      · intro w; go_simp
      refine wpAny_ready (rs := [1]) (by kernel_rfl) (by simp) ?_
      refine (AllReady.cons (i := 1) rfl (fun K hK => ?_) AllReady.nil)
      go_simp
      go_at_call 14
      refine (hre _).mono ?_
      rintro e w' ⟨rfl, rfl⟩
      refine hK _ _ ?_
      clear hK K
      refine wpAny_take (i := 2) (v := .bool false) rfl (by kernel_rfl) (by kernel_rfl) (by kernel_rfl) (pput2 _ _ _ _ _ _ _) (Or.inl ⟨by kernel_rfl, ?_⟩) ?_
      · intro w; go_simp
      refine wpAny_take (i := 3) (v := .bool false) rfl (by kernel_rfl) (by kernel_rfl) (by kernel_rfl) (pput2 _ _ _ _ _ _ _) (Or.inl ⟨by kernel_rfl, ?_⟩) ?_
      · intro w; go_simp
      refine wpAny_take (i := 4) (v := .int .i64 (n : Int)) rfl (by kernel_rfl) (by kernel_rfl) (by kernel_rfl) (pput2 _ _ _ _ _ _ _) (Or.inl ⟨by kernel_rfl, ?_⟩) ?_
      · intro w; go_simp
      refine wpAny_take (i := 6) (v := .string ⟨s.toArray⟩) rfl (by kernel_rfl) (by kernel_rfl) (by kernel_rfl) (pput2 _ _ _ _ _ _ _) (Or.inl ⟨by kernel_rfl, ?_⟩) ?_
      · intro w; go_simp
      refine wpAny_take (i := 7) (v := .string ⟨s4.toArray⟩) rfl (by kernel_rfl) (by kernel_rfl) (by kernel_rfl) (pput2 _ _ _ _ _ _ _) (Or.inl ⟨by kernel_rfl, ?_⟩) ?_
      · intro w; go_simp
      refine wpAny_ready (rs := [5]) (by kernel_rfl) (by simp) ?_
      refine (AllReady.cons (i := 5) rfl (fun K hK => ?_) AllReady.nil)
      go_simp
      go_at_call 14
      refine (hre _).mono ?_
      rintro e w' ⟨rfl, rfl⟩
      refine hK _ _ ?_
      clear hK K
      refine wpAny_take (i := 8) (v := .bool false) rfl (by kernel_rfl) (by kernel_rfl) (by kernel_rfl) (pput2 _ _ _ _ _ _ _) (Or.inl ⟨by kernel_rfl, ?_⟩) ?_
      · intro w; go_simp
      refine wpAny_ready (rs := [9]) (by kernel_rfl) (by simp) ?_
      refine (AllReady.cons (i := 9) rfl (fun K hK => ?_) AllReady.nil)
      go_simp
      refine hK _ _ ?_
      clear hK K
      refine wpAny_done (by kernel_rfl) ?_ _
      go_wp2_with fail
      go_ret
      refine ⟨?_, HB2.out.drew⟩
      rw [HF.out]
      simp
end Go.Proofs.YtidhemjnchonaaaGreatDoor
