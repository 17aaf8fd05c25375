/- The document's Price. -/
import Derived.Test.YtflmlkaiahpnmaaDoorPrice
namespace Go.Proofs.YtflmlkaiahpnmaaDoor
open Go.RowKit Go.Fl

def bad : Value := .tuple #[.int .u64 0, .bool false]
def good (P : Nat) : Value := .tuple #[.int .u64 (P : Int), .bool true]
def DigR (l : List UInt8) (most : Int) (n : Nat) (b : Bool) : Prop := ∀ w, Calls Tryd.prog 16 #[.string ⟨l.toArray⟩, .int .i64 most] w (RetV (.tuple #[.int .i64 (n : Int), .bool b]) w)
/-- A quotient of two numbers' floats. -/
def QuoR (n b P : Nat) : Prop := ∃ A B : Nat, (∀ w, (convert 3 39 (.int .i64 (n : Int))).run Tryd.prog w = .ok (.float .f64 A) w) ∧ (∀ w, (convert 3 39 (.int .i64 (b : Int))).run Tryd.prog w = .ok (.float .f64 B) w) ∧
  (∀ w, (binOp .quo 39 (.float .f64 A) (.float .f64 B)).run Tryd.prog w = .ok (.float .f64 P) w) ∧ isNaN P = false
def HeadOk (h : List UInt8) : Prop := (h.length : Int) ≤ 1 ∨ ∃ x r, h = x :: r ∧ x ≠ 48
/-- What the document makes of a head and a tail. -/
inductive Tail (h t : List UInt8) (res : Value) : Prop
  | bad1 (hd : DigR h 9 0 false) (hr : res = bad)
  | bad2 (y : UInt8) (r : List UInt8) (n : Nat) (he : h = 48 :: y :: r) (hd : DigR h 9 n true) (hr : res = bad)
  | bad3 (n : Nat) (hh : HeadOk h) (hd : DigR h 9 n true) (ht : t ≠ []) (hd2 : DigR t 6 0 false) (hr : res = bad)
  | good1 (n k P : Nat) (hh : HeadOk h) (hd : DigR h 9 n true) (ht : t ≠ []) (hd2 : DigR t 6 k true) (hn : n ≤ 999999999) (hk : k ≤ 999999) (ht6 : t.length ≤ 6) (hq : QuoR (n * 10 ^ t.length + k) (10 ^ t.length) P) (hr : res = good P)
  | good2 (n P : Nat) (hh : HeadOk h) (hd : DigR h 9 n true) (ht : t = []) (hq : QuoR n 1 P) (hr : res = good P)
theorem pow6 {k : Nat} (h : k ≤ 6) : 10 ^ k ≤ 1000000 := Nat.le_trans (Nat.pow_le_pow_right (by decide) h) (by decide)
theorem not46' (h : List UInt8) (k : Nat) (hk : k < h.length) (hh : ∀ x, x ∈ h → x ≠ 46) : ¬ ((((⟨h.toArray⟩ : ByteArray)[k]'hk).toNat : Int) = 46) := by
  have h1 := hh h[k] (List.getElem_mem hk)
  intro e
  exact h1 (UInt8.toNat_inj.1 (Int.ofNat.inj e))
theorem not46 (h t : List UInt8) (k : Nat) (hk : k < h.length) (hh : ∀ x, x ∈ h → x ≠ 46) : ¬ ((((⟨(h ++ 46 :: t).toArray⟩ : ByteArray)[k]'(by simp [ByteArray.size]; omega)).toNat : Int) = 46) := by
  have h1 := hh h[k] (List.getElem_mem hk)
  have h2 : (h ++ 46 :: t)[k]'(by simp; omega) = h[k] := by rw [List.getElem_append_left hk]
  rw [← h2] at h1
  intro e
  exact h1 (UInt8.toNat_inj.1 (Int.ofNat.inj e))
theorem at46 (h t : List UInt8) : (((⟨(h ++ 46 :: t).toArray⟩ : ByteArray)[h.length]'(by simp [ByteArray.size])).toNat : Int) = 46 := by
  have h2 : (h ++ 46 :: t)[h.length]'(by simp) = 46 := by rw [List.getElem_append_right (Nat.le_refl _)]; simp
  show ((((h ++ 46 :: t)[h.length]'(by simp)).toNat : Nat) : Int) = 46
  rw [h2]
  rfl
set_option maxRecDepth 100000 in
set_option maxHeartbeats 400000 in
theorem priceR_hit (h t : List UInt8) (hh46 : ∀ x, x ∈ h → x ≠ 46) (hne : t ≠ []) (hl : h.length + t.length ≤ 9223372036854775806) (res : Value) (hcase : Tail h t res) (w : World) :
    Calls Tryd.prog 7 #[.string ⟨(h ++ 46 :: t).toArray⟩] w (RetV res w) := by
  have Hcase := Lib.hid hcase
  have H46 := Lib.hid hh46
  have Hne := Lib.hid hne
  clear hcase hh46 hne
  go_enter Tryd.func7, Tryd.ntmps7
  go_wp2_with fail
  go_loopw [6] (fun i wr => ∃ k : Nat, k ≤ h.length ∧ i = .int .i64 (k : Int) ∧ Hid (wr = w)) (fun i _ => h.length - (intOf i).toNat)
  case atStart => exact ⟨0, Nat.zero_le _, rfl, Lib.hid (by simp)⟩
  case round =>
    obtain ⟨k, hk, rfl, Hwr⟩ := hrel
    obtain rfl := Hwr.out
    have hkl2 : k < h.length + (t.length + 1) := by omega
    by_cases hkl : k < h.length
    · obtain ⟨c, hc⟩ : ∃ c : Nat, (((⟨(h ++ 46 :: t).toArray⟩ : ByteArray)[k]'(by simp [ByteArray.size]; omega)).toNat : Int) = (c : Int) := ⟨_, rfl⟩
      have hc46 : ¬ ((c : Int) = 46) := by rw [← hc]; exact not46 h t k hkl H46.out
      go_wp2_with fail
      go_roundw
      case rel => exact ⟨k + 1, hkl, by go_num, Lib.hid (by simp)⟩
      case measure => simp [intOf]; omega
    · obtain rfl : k = h.length := by omega
      have hc46 : (((⟨(h ++ 46 :: t).toArray⟩ : ByteArray)[h.length]'(by simp [ByteArray.size])).toNat : Int) = 46 := at46 h t
      have e1 := ext_head h t 46
      have e2 := ext_tail h t 46
      have b1 : (0 : Int) ≤ h.length := by omega
      have b2 : (h.length : Int) ≤ h.length + (t.length + 1) := by omega
      have b3 : IntKind.i64.wrap ((h.length : Int) + 1) = (h.length : Int) + 1 := by rw [IntKind.wrap_i64]; omega
      have b4 : (0 : Int) ≤ (h.length : Int) + 1 := by omega
      have b5 : (h.length : Int) + 1 ≤ h.length + (t.length + 1) := by omega
      have b6 : ((h.length : Int) + 1).toNat = h.length + 1 := by omega
      have hte : t.isEmpty = false := by have := Hne.out; cases t <;> simp_all
      have hte2 := Hne.out
      go_wp2_with fail
      go_quiet (fail)
      go_wp2_with fail
      have Hb0 : Hid (Below wr.heap.size wr (wr.drewN nq)) := Lib.hid (bdrew _ _)
      clear b1 b2 b3 b4 b5 b6 e1 e2 hc46
      have hne := Hne.out
      have hcase := Hcase.out
      rcases hcase with ⟨hd, hr⟩ | ⟨y, r, n, he, hd, hr⟩ | ⟨n, hh, hd, ht, hd2, hr⟩ | ⟨n, q, P, hh, hd, ht, hd2, hn9, hk9, ht6, hq, hr⟩ | ⟨n, P, hh, hd, ht, hq, hr⟩
      · subst hr
        go_wp2_with (go_at_call 16; refine (hd _).mono ?_; rintro e w1 ⟨rfl, hb⟩; have Hw1 := Lib.hid (Hb0.out.trans (hb.mono Hb0.out.size)); clear hb)
        go_ret2
        exact ⟨rfl, Hw1.out⟩
      · subst hr
        subst he
        go_wp2_with (go_at_call 16; refine (hd _).mono ?_; rintro e w1 ⟨rfl, hb⟩; have Hw1 := Lib.hid (Hb0.out.trans (hb.mono Hb0.out.size)); clear hb)
        go_ret2
        exact ⟨rfl, Hw1.out⟩
      · subst hr
        have hte : t.isEmpty = false := by cases t <;> simp_all
        rcases hh with hh | ⟨x, r, rfl, hx⟩
        · go_wp2_with fail
          go_at_call 16
          refine (hd _).mono ?_
          rintro e w1 ⟨rfl, hb⟩
          have Hw1 := Lib.hid (Hb0.out.trans (hb.mono Hb0.out.size))
          clear hb
          go_wp2_with (go_at_call 16; refine (hd2 _).mono ?_; rintro e w2 ⟨rfl, hb⟩; have Hw2 := Lib.hid (Hw1.out.trans (hb.mono Hw1.out.size)); clear hb)
          go_ret2
          exact ⟨rfl, Hw2.out⟩
        · have hx0 := head_at x r
          have hx1 := ne48 hx
          clear hx
          go_wp2_with fail
          go_at_call 16
          refine (hd _).mono ?_
          rintro e w1 ⟨rfl, hb⟩
          have Hw1 := Lib.hid (Hb0.out.trans (hb.mono Hb0.out.size))
          clear hb
          go_wp2_with (go_at_call 16; refine (hd2 _).mono ?_; rintro e w2 ⟨rfl, hb⟩; have Hw2 := Lib.hid (Hw1.out.trans (hb.mono Hw1.out.size)); clear hb)
          all_goals
            go_ret2
            exact ⟨rfl, Hw2.out⟩
      · subst hr
        have hte : t.isEmpty = false := by cases t <;> simp_all
        rcases hh with hh | ⟨x, r, rfl, hx⟩
        · have Hq := Lib.hid hq
          have hn10 : (n : Int) ≤ 999999999 := by omega
          have hk10 : (q : Int) ≤ 999999 := by omega
          clear hq hn9 hk9
          go_wp2_with fail
          go_at_call 16
          refine (hd _).mono ?_
          rintro e w1 ⟨rfl, hb⟩
          have Hw1 := Lib.hid (Hb0.out.trans (hb.mono Hb0.out.size))
          clear hb
          go_wp2_with (go_at_call 16; refine (hd2 _).mono ?_; rintro e w2 ⟨rfl, hb⟩; have Hw2 := Lib.hid (Hw1.out.trans (hb.mono Hw1.out.size)); clear hb)
          all_goals
            go_loop [9, 60] (fun b i => ∃ (k B : Nat), k ≤ t.length ∧ b = .int .i64 (B : Int) ∧ i = .int .i64 (k : Int) ∧ (B : Int) ≤ 1000000 ∧ Hid (B = 10 ^ k)) (fun _ i => t.length - (intOf i).toNat)
            case atStart => exact ⟨0, 1, Nat.zero_le _, rfl, rfl, by decide, Lib.hid rfl⟩
            case round =>
              obtain ⟨k, B, hk, rfl, rfl, hB, HB⟩ := hrel
              by_cases hkl : k < t.length
              · have HB2 : Hid (B * 10 = 10 ^ (k + 1)) := Lib.hid (by rw [HB.out, Nat.pow_succ])
                have hB2 : (B : Int) * 10 ≤ 1000000 := by have h1 := HB2.out; have h2 := @pow6 (k + 1) (by omega); omega
                go_wp2_with fail
                exact ⟨⟨k + 1, B * 10, hkl, by go_num, by go_num, by omega, HB2⟩, by simp [intOf]; omega⟩
              · have hkk : Hid (k = t.length) := Lib.hid (by omega)
                obtain ⟨X, hX⟩ : ∃ X : Nat, (n : Int) * (B : Int) = (X : Int) := ⟨n * B, by simp⟩
                have HX : Hid (X = n * 10 ^ t.length) := Lib.hid (by rw [← hkk.out, ← HB.out]; apply Int.ofNat.inj; exact hX.symm.trans (Int.natCast_mul n B).symm)
                have hX9 : (X : Int) ≤ 999999999000000 := by
                  rw [← hX]
                  exact Int.le_trans (Int.mul_le_mul hn10 hB (by omega) (by decide)) (by decide)
                obtain ⟨Y, hY⟩ : ∃ Y : Nat, (X : Int) + (q : Int) = (Y : Int) := ⟨X + q, by simp⟩
                have HY : Hid (Y = n * 10 ^ t.length + q) := Lib.hid (by rw [← HX.out]; omega)
                have hY9 : (Y : Int) ≤ 1000000000000000 := by omega
                obtain ⟨A, B', q1, q2, q3, q4⟩ := Hq.out
                rw [← HY.out] at q1
                rw [← hkk.out, ← HB.out] at q2
                have hbits := bitsR_any P q4
                clear q4 hB
                have hw1 : IntKind.i64.wrap ((n : Int) * (B : Int)) = (X : Int) := by rw [hX, IntKind.wrap_i64]; omega
                have hw2 : IntKind.i64.wrap ((X : Int) + (q : Int)) = (Y : Int) := by rw [hY, IntKind.wrap_i64]; omega
                go_wp2_with (go_at_call 17; refine (hbits _).mono ?_; rintro e w5 ⟨rfl, rfl⟩)
                go_ret2
                exact ⟨rfl, Hw2.out⟩
        · have hx0 := head_at x r
          have hx1 := ne48 hx
          clear hx
          have Hq := Lib.hid hq
          have hn10 : (n : Int) ≤ 999999999 := by omega
          have hk10 : (q : Int) ≤ 999999 := by omega
          clear hq hn9 hk9
          go_wp2_with fail
          go_at_call 16
          refine (hd _).mono ?_
          rintro e w1 ⟨rfl, hb⟩
          have Hw1 := Lib.hid (Hb0.out.trans (hb.mono Hb0.out.size))
          clear hb
          go_wp2_with (go_at_call 16; refine (hd2 _).mono ?_; rintro e w2 ⟨rfl, hb⟩; have Hw2 := Lib.hid (Hw1.out.trans (hb.mono Hw1.out.size)); clear hb)
          all_goals
            go_loop [9, 60] (fun b i => ∃ (k B : Nat), k ≤ t.length ∧ b = .int .i64 (B : Int) ∧ i = .int .i64 (k : Int) ∧ (B : Int) ≤ 1000000 ∧ Hid (B = 10 ^ k)) (fun _ i => t.length - (intOf i).toNat)
            case atStart => exact ⟨0, 1, Nat.zero_le _, rfl, rfl, by decide, Lib.hid rfl⟩
            case round =>
              obtain ⟨k, B, hk, rfl, rfl, hB, HB⟩ := hrel
              by_cases hkl : k < t.length
              · have HB2 : Hid (B * 10 = 10 ^ (k + 1)) := Lib.hid (by rw [HB.out, Nat.pow_succ])
                have hB2 : (B : Int) * 10 ≤ 1000000 := by have h1 := HB2.out; have h2 := @pow6 (k + 1) (by omega); omega
                go_wp2_with fail
                exact ⟨⟨k + 1, B * 10, hkl, by go_num, by go_num, by omega, HB2⟩, by simp [intOf]; omega⟩
              · have hkk : Hid (k = t.length) := Lib.hid (by omega)
                obtain ⟨X, hX⟩ : ∃ X : Nat, (n : Int) * (B : Int) = (X : Int) := ⟨n * B, by simp⟩
                have HX : Hid (X = n * 10 ^ t.length) := Lib.hid (by rw [← hkk.out, ← HB.out]; apply Int.ofNat.inj; exact hX.symm.trans (Int.natCast_mul n B).symm)
                have hX9 : (X : Int) ≤ 999999999000000 := by
                  rw [← hX]
                  exact Int.le_trans (Int.mul_le_mul hn10 hB (by omega) (by decide)) (by decide)
                obtain ⟨Y, hY⟩ : ∃ Y : Nat, (X : Int) + (q : Int) = (Y : Int) := ⟨X + q, by simp⟩
                have HY : Hid (Y = n * 10 ^ t.length + q) := Lib.hid (by rw [← HX.out]; omega)
                have hY9 : (Y : Int) ≤ 1000000000000000 := by omega
                obtain ⟨A, B', q1, q2, q3, q4⟩ := Hq.out
                rw [← HY.out] at q1
                rw [← hkk.out, ← HB.out] at q2
                have hbits := bitsR_any P q4
                clear q4 hB
                have hw1 : IntKind.i64.wrap ((n : Int) * (B : Int)) = (X : Int) := by rw [hX, IntKind.wrap_i64]; omega
                have hw2 : IntKind.i64.wrap ((X : Int) + (q : Int)) = (Y : Int) := by rw [hY, IntKind.wrap_i64]; omega
                go_wp2_with (go_at_call 17; refine (hbits _).mono ?_; rintro e w5 ⟨rfl, rfl⟩)
                go_ret2
                exact ⟨rfl, Hw2.out⟩
      · exact absurd ht hne
set_option maxRecDepth 100000 in
theorem priceR_hit_nil (h : List UInt8) (hh46 : ∀ x, x ∈ h → x ≠ 46) (hl : h.length ≤ 9223372036854775806) (w : World) :
    Calls Tryd.prog 7 #[.string ⟨(h ++ 46 :: []).toArray⟩] w (RetV bad w) := by
  have H46 := Lib.hid hh46
  clear hh46
  obtain ⟨s, hs⟩ : ∃ s, h ++ [46] = s := ⟨_, rfl⟩
  have e1 := ext_head h [] 46
  have e2 := ext_tail h [] 46
  have h46 := at46 h []
  have e3 : h.length + (([] : List UInt8).length + 1) = s.length := by rw [← hs]; simp
  rw [e3] at e2
  rw [hs] at e1 e2 ⊢
  have h46' : ∀ hp, (((⟨s.toArray⟩ : ByteArray)[h.length]'hp).toNat : Int) = 46 := by subst hs; exact fun _ => h46
  clear h46 e3
  have hls : s.length = h.length + 1 := by rw [← hs]; simp
  have Hs := Lib.hid hs
  clear hs
  go_enter Tryd.func7, Tryd.ntmps7
  go_wp2_with fail
  go_loopw [6] (fun i wr => ∃ k : Nat, k ≤ h.length ∧ i = .int .i64 (k : Int) ∧ Hid (wr = w)) (fun i _ => h.length - (intOf i).toNat)
  case atStart => exact ⟨0, Nat.zero_le _, rfl, Lib.hid (by simp)⟩
  case round =>
    obtain ⟨k, hk, rfl, Hwr⟩ := hrel
    obtain rfl := Hwr.out
    have hkl2 : k < s.length := by omega
    by_cases hkl : k < h.length
    · obtain ⟨c, hc⟩ : ∃ c : Nat, (((⟨s.toArray⟩ : ByteArray)[k]'hkl2).toNat : Int) = (c : Int) := ⟨_, rfl⟩
      have hc46 : ¬ ((c : Int) = 46) := by rw [← hc]; have := not46 h [] k hkl H46.out; simp only [Hs.out] at this; exact this
      go_wp2_with fail
      go_roundw
      case rel => exact ⟨k + 1, hkl, by go_num, Lib.hid (by simp)⟩
      case measure => simp [intOf]; omega
    · obtain rfl : k = h.length := by omega
      have hc46 := h46' hkl2
      clear h46'
      have b1 : (0 : Int) ≤ h.length := by omega
      have b2 : (h.length : Int) ≤ s.length := by omega
      have b3 : IntKind.i64.wrap ((h.length : Int) + 1) = (h.length : Int) + 1 := by rw [IntKind.wrap_i64]; omega
      have b4 : (0 : Int) ≤ (h.length : Int) + 1 := by omega
      have b5 : (h.length : Int) + 1 ≤ s.length := by omega
      have b6 : ((h.length : Int) + 1).toNat = h.length + 1 := by omega
      clear hls
      go_wp2_with fail
      go_quiet (fail)
      go_wp2_with fail
      go_ret2
      exact ⟨rfl, bdrew _ _⟩
set_option maxRecDepth 100000 in
set_option maxHeartbeats 400000 in
theorem priceR_miss (h : List UInt8) (hh46 : ∀ x, x ∈ h → x ≠ 46) (hl : h.length ≤ 9223372036854775807) (res : Value) (hcase : Tail h [] res) (w : World) :
    Calls Tryd.prog 7 #[.string ⟨h.toArray⟩] w (RetV res w) := by
  have Hcase := Lib.hid hcase
  have H46 := Lib.hid hh46
  clear hcase hh46
  go_enter Tryd.func7, Tryd.ntmps7
  go_wp2_with fail
  go_loopw [4, 5, 6] (fun a b i wr => ∃ k : Nat, k ≤ h.length ∧ a = .string ⟨h.toArray⟩ ∧ b = .string ⟨#[]⟩ ∧ i = .int .i64 (k : Int) ∧ Hid (wr = w)) (fun _ _ i _ => h.length - (intOf i).toNat)
  case atStart => exact ⟨0, Nat.zero_le _, rfl, rfl, rfl, Lib.hid (by simp)⟩
  case round =>
    obtain ⟨k, hk, rfl, rfl, rfl, Hwr⟩ := hrel
    obtain rfl := Hwr.out
    by_cases hkl : k < h.length
    · obtain ⟨c, hc⟩ : ∃ c : Nat, (((⟨h.toArray⟩ : ByteArray)[k]'hkl).toNat : Int) = (c : Int) := ⟨_, rfl⟩
      have hc46 : ¬ ((c : Int) = 46) := by rw [← hc]; exact not46' h k hkl H46.out
      go_wp2_with fail
      go_roundw
      case rel => exact ⟨k + 1, hkl, rfl, rfl, by go_num, Lib.hid (by simp)⟩
      case measure => simp [intOf]; omega
    · go_wp2_with fail
      have Hb0 : Hid (Below wr.heap.size wr wr) := Lib.hid (Below.refl _ _)
      have hcase := Hcase.out
      rcases hcase with ⟨hd, hr⟩ | ⟨y, r, n, he, hd, hr⟩ | ⟨n, hh, hd, ht, hd2, hr⟩ | ⟨n, q, P, hh, hd, ht, hd2, hn9, hk9, ht6, hq, hr⟩ | ⟨n, P, hh, hd, ht, hq, hr⟩
      · subst hr
        go_wp2_with (go_at_call 16; refine (hd _).mono ?_; rintro e w1 ⟨rfl, hb⟩; have Hw1 := Lib.hid (Hb0.out.trans (hb.mono Hb0.out.size)); clear hb)
        go_ret2
        exact ⟨rfl, Hw1.out⟩
      · subst hr
        subst he
        go_wp2_with (go_at_call 16; refine (hd _).mono ?_; rintro e w1 ⟨rfl, hb⟩; have Hw1 := Lib.hid (Hb0.out.trans (hb.mono Hb0.out.size)); clear hb)
        go_ret2
        exact ⟨rfl, Hw1.out⟩
      · exact absurd rfl ht
      · exact absurd rfl ht
      · subst hr
        rcases hh with hh | ⟨x, r, rfl, hx⟩
        · obtain ⟨A, B', q1, q2', q3, q4⟩ := hq
          have q2 : ∀ w, (convert 3 39 (.int .i64 1)).run Tryd.prog w = .ok (.float .f64 B') w := q2'
          clear q2'
          have hbits := bitsR_any P q4
          clear q4
          go_wp2_with (first | (go_at_call 16; refine (hd _).mono ?_; rintro e w1 ⟨rfl, hb⟩; have Hw1 := Lib.hid (Hb0.out.trans (hb.mono Hb0.out.size)); clear hb) | (go_at_call 17; refine (hbits _).mono ?_; rintro e w5 ⟨rfl, rfl⟩))
          all_goals
            go_ret2
            exact ⟨rfl, Hw1.out⟩
        · have hx0 := head_at x r
          have hx1 := ne48 hx
          clear hx
          obtain ⟨A, B', q1, q2', q3, q4⟩ := hq
          have q2 : ∀ w, (convert 3 39 (.int .i64 1)).run Tryd.prog w = .ok (.float .f64 B') w := q2'
          clear q2'
          have hbits := bitsR_any P q4
          clear q4
          go_wp2_with (first | (go_at_call 16; refine (hd _).mono ?_; rintro e w1 ⟨rfl, hb⟩; have Hw1 := Lib.hid (Hb0.out.trans (hb.mono Hb0.out.size)); clear hb) | (go_at_call 17; refine (hbits _).mono ?_; rintro e w5 ⟨rfl, rfl⟩))
          all_goals
            go_ret2
            exact ⟨rfl, Hw1.out⟩
end Go.Proofs.YtflmlkaiahpnmaaDoor
