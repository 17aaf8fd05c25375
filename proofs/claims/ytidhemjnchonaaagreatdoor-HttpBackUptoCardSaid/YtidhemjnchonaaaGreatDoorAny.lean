/- Contract of strings.ContainsAny(s, CR LF), whatever s's bytes. -/
import Derived.Test.YtidhemjnchonaaaGreatDoorFirst
import Derived.Laws.RangeAny
import Derived.Laws.Runes
import Derived.WalkMore
import Derived.Lib.OthersKept
namespace Go.Proofs.YtidhemjnchonaaaGreatDoor
open Go.RowKit Go.BL

theorem iter_below (w : World) (s : ByteArray) (p : Nat) : Below w.heap.size w (w.iter s p) := (Below.refl _ _).alloc (Nat.le_refl _) _
set_option maxHeartbeats 4000000 in
set_option maxRecDepth 100000 in
theorem rune_bad (w : World) : Calls Tryz.prog 89 #[.string ⟨#[13, 10]⟩, .int .i32 65533] w (RetV (.int .i64 (-1)) w) := by
  go_enter Tryz.func89, Tryz.ntmps89
  go_wp2_with fail
  go_loopw [5, 6] (fun _ _ wr => ∃ k : Nat, k ≤ 2 ∧ Hid (wr = w.iter ⟨#[13, 10]⟩ k)) (fun _ _ wr => 2 - wr.iterPos w.heap.size)
  case atStart => exact ⟨0, by omega, Lib.hid rfl⟩
  case round =>
    obtain ⟨k, hk, HK⟩ := hrel
    have hw := HK.out
    clear HK
    subst hw
    have h0 := fun ty => run_next_ascii (P := Tryz.prog) w ⟨#[13, 10]⟩ 0 ty (by decide) (by decide)
    have h1 := fun ty => run_next_ascii (P := Tryz.prog) w ⟨#[13, 10]⟩ 1 ty (by decide) (by decide)
    have h2 := fun ty => run_next_end (P := Tryz.prog) w ⟨#[13, 10]⟩ 2 ty (by decide)
    rcases k with _ | _ | _ | k
    · clear h1 h2
      go_wp2_with fail
      exact ⟨⟨1, by omega, Lib.hid rfl⟩, by simp⟩
    · clear h0 h2
      go_wp2_with fail
      exact ⟨⟨2, by omega, Lib.hid rfl⟩, by simp⟩
    · clear h0 h1
      go_wp2_with fail
      go_ret
      exact ⟨rfl, iter_below _ _ _⟩
    · omega

theorem valid_any (r : Int) (w : World) : Calls Tryz.prog 118 #[.int .i32 r] w fun e w' => e = .returned (.bool (Lib.validRune r)) ∧ w = w' := (Tryz.utf8_ValidRune r w).mono fun _ _ ⟨a, b⟩ => ⟨a, b.symm⟩
theorem none_any (c : Int) (w : World) : Calls Tryz.prog 102 #[.string ⟨#[]⟩, .int .u8 c] w fun e w' => e = .returned (.int .i64 (-1)) ∧ w = w' := (Tryz.strings_IndexByte ⟨#[]⟩ c w).mono fun _ _ ⟨a, b⟩ => ⟨a, b.symm⟩
theorem two_bytes {E : ByteArray} (h : E.size = 2) (hx : ∀ h : E.size - 1 < E.size, 128 ≤ (E[E.size - 1]'h).toNat) : ∃ a x : UInt8, E = ⟨#[a, x]⟩ ∧ 128 ≤ x.toNat := by
  obtain ⟨⟨l⟩⟩ := E
  match l, h with
  | [a, x], _ => exact ⟨a, x, rfl, hx (show 1 < 2 by decide)⟩
set_option maxHeartbeats 4000000 in
set_option maxRecDepth 100000 in
theorem rune_no (r : Int) (h : 128 ≤ r) (w : World) : Calls Tryz.prog 89 #[.string ⟨#[13, 10]⟩, .int .i32 r] w (RetV (.int .i64 (-1)) w) := by
  by_cases hb : r = 65533
  · subst hb; exact rune_bad w
  have b0 : (r == 65533) = false := beq_false_of_ne hb
  have b1 : decide (0 ≤ r) = true := decide_eq_true (by omega)
  have b2 : decide (r < 128) = false := decide_eq_false (by omega)
  obtain ⟨u, hu⟩ : ∃ u, Lib.validRune r = u := ⟨_, rfl⟩
  have hv := valid_any r
  rw [hu] at hv
  cases u
  case false =>
    clear hu hb
    go_enter Tryz.func89, Tryz.ntmps89
    go_wp2_with (go_at_call 118; refine (hv _).mono ?_; rintro e w' ⟨rfl, rfl⟩)
    go_ret
    exact ⟨rfl, Below.refl _ _⟩
  have hval : Utf8.valid r = true := by
    unfold Lib.validRune at hu
    unfold Utf8.valid
    simp at hu ⊢
    omega
  obtain ⟨s1, s2, s3⟩ := encode_facts r hval h
  have hcv : ∀ w, (convert 21 9 (.int .i32 r)).run Tryz.prog w = .ok (.string (Utf8.encode r)) w := fun w => run_convert_int_string w 21 9 .i32 r (by kernel_rfl) Tryz.underlying9
  generalize Utf8.encode r = E at *
  by_cases h2 : E.size = 2
  case pos =>
    obtain ⟨a, x, rfl, hx⟩ := two_bytes h2 s3
    have hne : ((10 : Int) == (x.toNat : Int)) = false := beq_false_of_ne (by omega)
    clear hu hb s1 s2 s3 h2 hx hval h
    go_enter Tryz.func89, Tryz.ntmps89
    go_wp2_with (go_at_call 118; refine (hv _).mono ?_; rintro e w' ⟨rfl, rfl⟩)
    have hi1 : ∀ h, (⟨#[13, 10]⟩ : ByteArray)[1]'h = 10 := fun _ => rfl
    have hi2 : ∀ h, (⟨#[a, x]⟩ : ByteArray)[1]'h = x := fun _ => rfl
    go_wp2_with fail
    have hsl : ∀ w, (Instr.slice 9 (.string ⟨#[13, 10]⟩) (some (.int .i64 2)) none none).run Tryz.prog w = .ok (.string ⟨#[]⟩) w := fun w => by
      rw [run_slice_string_from_if _ 9 _ _ _ Tryz.underlying9]
      rfl
    go_step3
    go_wp2_with fail
    go_loop [9, 10] (fun i f => i = .int .i64 1 ∧ f = .int .i64 0) (fun _ _ => 0)
    case atStart => exact ⟨rfl, rfl⟩
    case round =>
      obtain ⟨rfl, rfl⟩ := hrel
      go_wp2_with fail
      go_step3
      go_wp2_with fail
      go_quiet (fail)
      go_wp2_with fail
      go_quiet (exact (none_any _ _).mono fun _ _ ⟨a, b⟩ => ⟨a, _, b.symm⟩)
      go_wp2_with fail
      rw [Exit.noGoto_ret]
      simp only [Exit.inBlock]
      go_ret
      exact ⟨rfl, drewN_below _ _⟩
  obtain ⟨n, hn⟩ : ∃ n : Int, (E.size : Int) = n := ⟨_, rfl⟩
  have hn2 : 3 ≤ n := by omega
  have hn4 : n ≤ 4 := by omega
  have hw : wrap64 (n - 1) = n - 1 := by unfold wrap64; omega
  have hlt : decide (n - 1 < 2) = false := decide_eq_false (by omega)
  clear hu hb s1 s2 s3 h2 hval h hn2 hn4
  go_enter Tryz.func89, Tryz.ntmps89
  go_wp2_with (go_at_call 118; refine (hv _).mono ?_; rintro e w' ⟨rfl, rfl⟩)
  go_step3
  go_wp2_with fail
  go_loop [9, 10] (fun i f => i = .int .i64 (n - 1) ∧ f = .int .i64 0) (fun _ _ => 0)
  case atStart => exact ⟨by rw [hw], rfl⟩
  case round =>
    obtain ⟨rfl, rfl⟩ := hrel
    go_wp2_with fail
    go_ret
    exact ⟨rfl, Below.refl _ _⟩

def crb (c : UInt8) : Bool := c == 13 || c == 10
def crL (s : List UInt8) : Bool := s.any crb
theorem index_nl (c : UInt8) : Lib.indexByte [13, 10] c = if c = 13 then 0 else if c = 10 then 1 else -1 := by
  by_cases h1 : c = 13
  · subst h1; rfl
  · by_cases h2 : c = 10
    · subst h2; rfl
    · rw [if_neg h1, if_neg h2]
      have e1 : ((13 : UInt8) == c) = false := beq_false_of_ne (Ne.symm h1)
      have e2 : ((10 : UInt8) == c) = false := beq_false_of_ne (Ne.symm h2)
      simp [Lib.indexByte, e1, e2]
/-- What a rune of more than a byte's ASCII takes up is no ASCII. -/
theorem decode_skip (s : ByteArray) (pos : Nat) (h : pos < s.size) (ha : 128 ≤ (s[pos]'h).toNat) : pos + (Utf8.decode s pos).2 ≤ s.size ∧ ∀ j (hj : j < s.size), pos ≤ j → j < pos + (Utf8.decode s pos).2 → 128 ≤ (s[j]'hj).toNat := by
  have hg : ∀ k, (hk : pos + k < s.size) → s.get! (pos + k) = s[pos + k]'hk := fun k hk => by have := get_at s (pos + k) hk; simpa using this
  have hn : ¬ (s[pos]'h).toNat < 128 := by omega
  have hc : ∀ k, (decide (pos + k < s.size) && (s.get! (pos + k)).toNat / 64 == 2) = true → pos + k < s.size ∧ ∀ hk : pos + k < s.size, 128 ≤ (s[pos + k]'hk).toNat := by
    intro k e
    simp only [Bool.and_eq_true, decide_eq_true_eq, beq_iff_eq] at e
    refine ⟨e.1, fun hk => ?_⟩
    have := hg k hk
    rw [← this]
    omega
  have one : pos + 1 ≤ s.size ∧ ∀ j (hj : j < s.size), pos ≤ j → j < pos + 1 → 128 ≤ (s[j]'hj).toNat := by
    refine ⟨h, fun j hj h1 h2 => ?_⟩
    obtain rfl : j = pos := by omega
    exact ha
  simp only [Utf8.decode, get_at s pos h, hn, if_false]
  split
  · rename_i e
    obtain ⟨c1, d1⟩ := hc 1 (by simp only [Bool.and_eq_true] at e ⊢; exact e.2)
    split
    · refine ⟨c1, fun j hj h1 h2 => ?_⟩
      simp only at h2
      rcases (by omega : j = pos ∨ j = pos + 1) with rfl | rfl
      · exact ha
      · exact d1 hj
    · exact one
  · split
    · rename_i e
      simp only [Bool.and_eq_true] at e
      obtain ⟨c1, d1⟩ := hc 1 (by simp only [Bool.and_eq_true]; exact e.1.2)
      obtain ⟨c2, d2⟩ := hc 2 (by simp only [Bool.and_eq_true]; exact e.2)
      split
      · refine ⟨c2, fun j hj h1 h2 => ?_⟩
        simp only at h2
        rcases (by omega : j = pos ∨ j = pos + 1 ∨ j = pos + 2) with rfl | rfl | rfl
        · exact ha
        · exact d1 hj
        · exact d2 hj
      · exact one
    · split
      · rename_i e
        simp only [Bool.and_eq_true] at e
        obtain ⟨c1, d1⟩ := hc 1 (by simp only [Bool.and_eq_true]; exact e.1.1.2)
        obtain ⟨c2, d2⟩ := hc 2 (by simp only [Bool.and_eq_true]; exact e.1.2)
        obtain ⟨c3, d3⟩ := hc 3 (by simp only [Bool.and_eq_true]; exact e.2)
        split
        · refine ⟨c3, fun j hj h1 h2 => ?_⟩
          simp only at h2
          rcases (by omega : j = pos ∨ j = pos + 1 ∨ j = pos + 2 ∨ j = pos + 3) with rfl | rfl | rfl | rfl
          · exact ha
          · exact d1 hj
          · exact d2 hj
          · exact d3 hj
        · exact one
      · exact one
theorem rune_asc (c : UInt8) (w : World) (h : c.toNat < 128) : Calls Tryz.prog 89 #[.string ⟨#[13, 10]⟩, .int .i32 (c.toNat : Int)] w fun e w' => e = .returned (.int .i64 (Lib.indexByte [13, 10] c)) ∧ w = w' := by
  have h2 := Tryz.strings_IndexRune_ascii ⟨#[13, 10]⟩ (c.toNat : Int) w (by omega) (by omega)
  have e : ((c.toNat : Int)).toNat.toUInt8 = c := by simp
  rw [e] at h2
  exact h2.mono fun _ _ ⟨a, b⟩ => ⟨a, b.symm⟩

theorem ascii_any (n : Int) (w : World) : Calls Tryz.prog 90 #[.int .i64 n] w fun e w' => e = .returned (.bool (decide (8 < n))) ∧ w = w' :=
  (Tryz.strings_shouldUseASCIISet n w).mono fun _ _ ⟨a, b⟩ => ⟨a, b.symm⟩
theorem next_any {w wr : World} {s : List UInt8} {pos : Nat} (hi : wr.heap[w.heap.size]? = some (.stringIter ⟨s.toArray⟩ pos)) (hb : Below w.heap.size w wr) (h : pos < s.length) :
    ∃ w1, (∀ ty, (Instr.next (.pointer (some ⟨w.heap.size, 0, none⟩)) true ty).run Tryz.prog wr = .ok (.tuple #[.bool true, .int .i64 pos, .int .i32 (Utf8.decode ⟨s.toArray⟩ pos).1]) w1) ∧
      w1.heap[w.heap.size]? = some (.stringIter ⟨s.toArray⟩ (pos + (Utf8.decode ⟨s.toArray⟩ pos).2)) ∧ Below w.heap.size w w1 ∧ w.heap.size < w1.heap.size := by
  refine ⟨_, fun ty => Lib.run_next_any_at wr w.heap.size ⟨s.toArray⟩ pos ty hi h, Lib.iterAt_heap _ _ _ _ _ hi, ?_, ?_⟩
  · refine ⟨hb.os, hb.tape, hb.output, ?_, fun k hk => ?_⟩
    · have := hb.size
      simpa [World.iterAt] using this
    · rw [← hb.block k hk]
      simp [World.iterAt, Nat.ne_of_gt hk]
  · have hlt : w.heap.size < wr.heap.size := (Array.getElem?_eq_some_iff.1 hi).1
    simpa [World.iterAt] using hlt
theorem cr_next {s : List UInt8} {k n : Nat} (h : (s.take k).any crb = false) (hn : ∀ j (hj : j < s.length), k ≤ j → j < k + n → crb s[j] = false) : (s.take (k + n)).any crb = false := by
  rw [List.any_eq_false] at h ⊢
  intro x hx
  obtain ⟨j, hj⟩ := List.mem_iff_getElem?.1 hx
  rw [List.getElem?_take] at hj
  split at hj
  · rename_i hjn
    obtain ⟨hlt, rfl⟩ := List.getElem?_eq_some_iff.1 hj
    by_cases hjk : j < k
    · exact h _ (List.mem_iff_getElem?.2 ⟨j, by rw [List.getElem?_take, if_pos hjk]; exact hj⟩)
    · rw [hn j hlt (by omega) hjn]; decide
  · cases hj
def RetC (b : Bool) (w : World) (e : Ending) (w' : World) : Prop := ∃ i : Int, e = .returned (.int .i64 i) ∧ decide (0 ≤ i) = b ∧ Below w.heap.size w w'
set_option maxHeartbeats 4000000 in
set_option maxRecDepth 100000 in
theorem index_short (s : List UInt8) (hs : s.length ≤ 8) (w : World) : Calls Tryz.prog 66 #[.string ⟨s.toArray⟩, .string ⟨#[13, 10]⟩] w (RetC (crL s) w) := by
  have h8 : decide ((8 : Int) < (s.length : Int)) = false := decide_eq_false (by omega)
  have has := ascii_any (s.length : Int)
  rw [h8] at has
  have H0 : Hid (Below w.heap.size w (w.iter ⟨s.toArray⟩ 0)) := Lib.hid (iter_below _ _ _)
  have HI : Hid ((w.iter ⟨s.toArray⟩ 0).heap[w.heap.size]? = some (.stringIter ⟨s.toArray⟩ 0)) := Lib.hid (World.iter_heap w _ 0)
  go_enter Tryz.func66, Tryz.ntmps66
  go_wp2_with (go_at_call 90; refine (has _).mono ?_; rintro e w' ⟨rfl, rfl⟩)
  go_loopw [9, 10] (fun _ _ wr => ∃ k : Nat, k ≤ s.length ∧ Hid (wr.heap[w.heap.size]? = some (.stringIter ⟨s.toArray⟩ k)) ∧ Hid (Below w.heap.size w wr) ∧ Hid ((s.take k).any crb = false)) (fun _ _ wr => s.length - wr.iterPos w.heap.size)
  case atStart => exact ⟨0, by omega, HI, H0, Lib.hid rfl⟩
  case round =>
    obtain ⟨k, hk, HIk, HB, HC⟩ := hrel
    have Hpos : Hid (wr.iterPos w.heap.size = k) := Lib.hid (by unfold World.iterPos; rw [HIk.out])
    by_cases hlt : k < s.length
    · obtain ⟨w1, hnx, hi1, hb1, hs1⟩ := next_any HIk.out HB.out hlt
      obtain ⟨x, hx⟩ : ∃ x, s[k]'hlt = x := ⟨_, rfl⟩
      have HI1 := Lib.hid hi1
      have HB1 := Lib.hid hb1
      have HS1 := Lib.hid hs1
      clear hi1 hb1 hs1
      by_cases h7 : x.toNat < 128
      · have hdec : Utf8.decode ⟨s.toArray⟩ k = (x.toNat, 1) := by
          have := decode_ascii ⟨s.toArray⟩ k hlt (show (s[k]'hlt).toNat < 128 by rw [hx]; exact h7)
          rw [this, ← hx]; rfl
        rw [hdec] at hnx HI1
        simp only at hnx HI1
        have hr := rune_asc x
        by_cases hc : crb x = true
        · have hge : (0 : Int) ≤ Lib.indexByte [13, 10] x := by
            rw [index_nl]; simp [crb] at hc; rcases hc with rfl | rfl <;> decide
          have HF : Hid (crL s = true) := Lib.hid (List.any_eq_true.2 ⟨x, by rw [← hx]; exact List.getElem_mem hlt, hc⟩)
          obtain ⟨i, hi⟩ : ∃ i, Lib.indexByte [13, 10] x = i := ⟨_, rfl⟩
          rw [hi] at hr hge
          have HX : Hid (x.toNat < 128) := Lib.hid h7
          clear h7 hdec hx hc hi
          go_wp2_with (go_at_call 89; refine (hr _ HX.out).mono ?_; rintro e w' ⟨rfl, rfl⟩)
          go_ret
          exact ⟨_, rfl, by rw [HF.out]; exact decide_eq_true (by omega), HB1.out⟩
        · have hcf : crb x = false := by simpa using hc
          have hlt0 : ¬ (0 : Int) ≤ Lib.indexByte [13, 10] x := by
            rw [index_nl]; simp [crb] at hcf; rw [if_neg hcf.1, if_neg hcf.2]; decide
          have hcj : ∀ j (hj : j < s.length), k ≤ j → j < k + 1 → crb s[j] = false := by
            intro j hj h1 h2
            obtain rfl : j = k := by omega
            rw [hx]; exact hcf
          have HN : Hid ((s.take (k + 1)).any crb = false) := Lib.hid (cr_next HC.out hcj)
          clear hcj
          obtain ⟨i, hi⟩ : ∃ i, Lib.indexByte [13, 10] x = i := ⟨_, rfl⟩
          rw [hi] at hr hlt0
          have hlt1 : decide (0 ≤ i) = false := decide_eq_false hlt0
          have HX : Hid (x.toNat < 128) := Lib.hid h7
          have Hm : Hid (w1.iterPos w.heap.size = k + 1) := Lib.hid (by unfold World.iterPos; rw [HI1.out])
          clear h7 hdec hx hc hi hcf hlt0
          go_wp2_with (go_at_call 89; refine (hr _ HX.out).mono ?_; rintro e w' ⟨rfl, rfl⟩)
          exact ⟨⟨k + 1, by omega, HI1, HB1, HN⟩, by rw [Hm.out, Hpos.out]; omega⟩
      · have ha : 128 ≤ ((⟨s.toArray⟩ : ByteArray)[k]'hlt).toNat := by show 128 ≤ (s[k]'hlt).toNat; rw [hx]; omega
        obtain ⟨d1, d2⟩ := decode_high ⟨s.toArray⟩ k hlt ha
        obtain ⟨d3, d4⟩ := decode_skip ⟨s.toArray⟩ k hlt ha
        generalize Utf8.decode ⟨s.toArray⟩ k = q at *
        obtain ⟨r, n⟩ := q
        simp only at d1 d2 d3 d4 hnx HI1
        have hr := rune_no (r : Int) (by omega)
        have d3' : k + n ≤ s.length := d3
        have HN : Hid ((s.take (k + n)).any crb = false) := Lib.hid (cr_next HC.out (fun j hj h1 h2 => by
          have h3 : 128 ≤ (s[j]'hj).toNat := d4 j hj h1 h2
          simp only [crb, Bool.or_eq_false_iff, beq_eq_false_iff_ne]
          constructor <;> · intro e; rw [e] at h3; exact absurd h3 (by decide)))
        clear ha d1 d4 h7 hx d3
        go_wp2_with (go_at_call 89; refine (hr _).mono ?_; rintro e w2 ⟨rfl, hb2⟩; have HB2 := Lib.hid (HB1.out.trans (hb2.mono (Nat.le_of_lt HS1.out))); have HI2 := Lib.hid ((hb2.block _ HS1.out).trans HI1.out); clear hb2)
        have Hm : w2.iterPos w.heap.size = k + n := by unfold World.iterPos; rw [HI2.out]
        exact ⟨⟨k + n, by omega, HI2, HB2, HN⟩, by rw [Hm, Hpos.out]; omega⟩
    · have HF : Hid (crL s = false) := Lib.hid (by have := HC.out; rwa [List.take_of_length_le (by omega)] at this)
      have hnx : ∀ ty, (Instr.next (.pointer (some ⟨w.heap.size, 0, none⟩)) true ty).run Tryz.prog wr = .ok (.tuple #[.bool false]) wr := fun ty => Lib.run_next_end_at wr w.heap.size ⟨s.toArray⟩ k ty HIk.out hlt
      go_wp2_with fail
      go_ret
      exact ⟨_, rfl, by rw [HF.out]; decide, HB.out⟩

theorem indexAny_cr : ∀ s : List UInt8, decide (0 ≤ Lib.indexAny s [13, 10]) = crL s
  | [] => rfl
  | c :: r => by
    have ih := indexAny_cr r
    have hge := Lib.indexAny_ge [13, 10] r
    have hcont : ([13, 10] : List UInt8).contains c = crb c := by
      simp only [List.contains_cons, List.contains_nil, Bool.or_false, crb]
    unfold Lib.indexAny crL
    rw [hcont, List.any_cons]
    cases crb c with
    | true => rfl
    | false =>
      rw [if_neg (by simp), Bool.false_or]
      unfold crL at ih
      rw [← ih]
      by_cases h : Lib.indexAny r [13, 10] = -1
      · rw [h]; rfl
      · rw [if_neg (by simpa using h)]
        congr 1
        simp only [eq_iff_iff]
        omega
set_option maxRecDepth 100000 in
theorem zero119 : ∀ w, (zeroValue 119).run Tryz.prog w = .ok (.agg (Array.replicate 256 (.bool false))) w := fun w => by
  rw [Tryz.zeroValue119 w]; rfl
theorem index_long (s : List UInt8) (h8 : 8 < s.length) (hs : s.length < 4294967281) (w : World) : Calls Tryz.prog 66 #[.string ⟨s.toArray⟩, .string ⟨#[13, 10]⟩] w (RetC (crL s) w) := by
  refine (Tryz.strings_IndexAny_long zero119 ⟨s.toArray⟩ ⟨#[13, 10]⟩ w (by decide) h8 hs (by decide) (ascii_of_all (by decide))).mono ?_
  rintro e w' ⟨rfl, rfl⟩
  exact ⟨_, rfl, indexAny_cr s, ((Below.refl _ _).alloc (Nat.le_refl _) _).alloc (by simp) _⟩
theorem has_any (s : List UInt8) (hs : s.length < 4294967281) (w : World) : Calls Tryz.prog 38 #[.string ⟨s.toArray⟩, .string ⟨#[13, 10]⟩] w (RetV (.bool (crL s)) w) := by
  have hc : Calls Tryz.prog 66 #[.string ⟨s.toArray⟩, .string ⟨#[13, 10]⟩] w (RetC (crL s) w) := by
    by_cases h8 : 8 < s.length
    · exact index_long s h8 hs w
    · exact index_short s (by omega) w
  generalize crL s = b at *
  go_enter Tryz.func38, Tryz.ntmps38
  go_wp2_with (go_at_call 66; refine hc.mono ?_; rintro e w' ⟨i, rfl, hi, hb⟩; have HB := Lib.hid hb; have Hi := Lib.hid hi; clear hb hi)
  all_goals go_ret
  all_goals exact ⟨congrArg (fun b => Ending.returned (Value.bool b)) Hi.out, HB.out⟩
end Go.Proofs.YtidhemjnchonaaaGreatDoor
