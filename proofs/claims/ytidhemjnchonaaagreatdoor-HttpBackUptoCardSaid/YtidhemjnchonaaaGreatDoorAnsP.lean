/- Plain: an answer's bytes, and how bytes are read as an answer: one undoes the other. No program. -/
import Derived.Test.YtidhemjnchonaaaGreatDoorRefP
import Derived.Test.YtidhemjnchonaaaGreatDoorPrnP
import Derived.Test.YtidhemjnchonaaaGreatDoorReason
import Derived.Lib.AtoiAll
namespace Go.Proofs.YtidhemjnchonaaaGreatDoor

structure Ans where
  st : Int
  hs : List Hdr
  b : List UInt8
def fieldL (h : Hdr) : Bool := tokenL h.1 && (smallL h.1 == h.1) && !(h.1 == clK) && valueL h.2
def stat11 : List UInt8 := [72, 84, 84, 80, 47, 49, 46, 49, 32]
def lineA (n : Int) : List UInt8 := stat11 ++ Lib.itoa n ++ [32] ++ reasonL n
def clT : List UInt8 := [99, 111, 110, 116, 101, 110, 116, 45, 108, 101, 110, 103, 116, 104, 58, 32]
def clLine (n : Nat) : List UInt8 := clT ++ Lib.itoa n
def headA (a : Ans) : List UInt8 := lineA a.st ++ [13, 10] ++ textL a.hs ++ clLine a.b.length ++ sep4
def writeL (a : Ans) : Except Int (List UInt8) :=
  if reasonL a.st = [] then .error 1
  else if a.hs.all fieldL = false then .error 141
  else if 32 ≤ a.hs.length then .error 7
  else if 4096 < a.b.length then .error 142
  else if 65536 + 4 < (headA a).length then .error 4
  else .ok (headA a ++ a.b)
def statusL (l : List UInt8) : Int :=
  if Lib.hasPrefix l stat11 = false then 0
  else if (l.drop 9).length < 4 then 0
  else if (l.drop 9)[3]? ≠ some 32 then 0
  else if ((l.drop 9).take 3).all dig = false then 0
  else if reasonL (numL ((l.drop 9).take 3)) = [] ∨ reasonL (numL ((l.drop 9).take 3)) ≠ (l.drop 9).drop 4 then 0
  else (numL ((l.drop 9).take 3) : Int)
def atoiOk (v : List UInt8) : Bool := match Lib.atoiAll v with
  | .ok n => decide (0 ≤ n) && (Lib.itoa n == v)
  | _ => false
def readH : List (List UInt8) → Nat → List Hdr → List UInt8 → Except Int (List Hdr × List UInt8)
  | [], _, hs, len => .ok (hs, len)
  | l :: r, i, hs, len =>
    if r = [] ∧ (cutL l [58, 32]).1 = clK then
      if (cutL l [58, 32]).2.2 = true ∧ atoiOk (cutL l [58, 32]).2.1 = true ∧ i < 32 then readH r (i + 1) hs (cutL l [58, 32]).2.1 else .error 141
    else if (cutL l [58, 32]).2.2 = true ∧ fieldL ((cutL l [58, 32]).1, (cutL l [58, 32]).2.1) = true ∧ i < 32 then readH r (i + 1) (hs ++ [((cutL l [58, 32]).1, (cutL l [58, 32]).2.1)]) len
    else .error 141
def readL (b : List UInt8) : Except Int Ans :=
  if (cutL b sep4).2.2 = false then .error 140
  else match lns (cutL b sep4).1 [13, 10] with
    | [] => .error 140
    | l0 :: r => if statusL l0 = 0 then .error 140 else
      match readH r 0 [] [] with
      | .error c => .error c
      | .ok (hs, len) => if len ≠ Lib.itoa ((cutL b sep4).2.1.length : Nat) ∨ 4096 < (cutL b sep4).2.1.length then .error 142
        else if 65536 < (cutL b sep4).1.length then .error 4
        else .ok ⟨statusL l0, hs, (cutL b sep4).2.1⟩
/- Lines joined. -/
def joinL : List (List UInt8) → List UInt8
  | [] => []
  | [x] => x
  | x :: r => x ++ 13 :: 10 :: joinL r
theorem join_cons (x : List UInt8) {r : List (List UInt8)} (h : r ≠ []) : joinL (x :: r) = x ++ 13 :: 10 :: joinL r := by
  cases r with
  | nil => exact absurd rfl h
  | cons y r => rfl
/-- A line: no end of line in it, and not empty. -/
def Line (l : List UInt8) : Prop := l ≠ [] ∧ crL l = false
theorem crL_cons {c : UInt8} {t : List UInt8} (h : crL (c :: t) = false) : c ≠ 13 ∧ c ≠ 10 ∧ crL t = false := by
  unfold crL at h ⊢
  simp only [List.any_cons, Bool.or_eq_false_iff, crb, beq_eq_false_iff_ne] at h
  exact ⟨h.1.1, h.1.2, by simpa [crb] using h.2⟩
theorem linesR_line : ∀ (x u : List UInt8), crL x = false → linesR (x ++ 13 :: 10 :: u) = (x, (linesR u).1 :: (linesR u).2)
  | [], u, _ => linesR_cut u
  | c :: t, u, h => by
    obtain ⟨h1, h2, h3⟩ := crL_cons h
    have ih := linesR_line t u h3
    show linesR (c :: (t ++ 13 :: 10 :: u)) = _
    rw [linesR, if_neg (fun h => h1 h.1), ih]
theorem linesR_one : ∀ (x : List UInt8), crL x = false → linesR x = (x, [])
  | [], _ => rfl
  | c :: t, h => by
    obtain ⟨h1, h2, h3⟩ := crL_cons h
    rw [linesR, if_neg (fun h => h1 h.1), linesR_one t h3]
theorem linesR_join : ∀ (ls : List (List UInt8)), ls ≠ [] → (∀ l ∈ ls, crL l = false) → (linesR (joinL ls)).1 :: (linesR (joinL ls)).2 = ls
  | [], h, _ => absurd rfl h
  | [x], _, h => by rw [joinL, linesR_one x (h x (by simp))]
  | x :: y :: r, _, h => by
    rw [join_cons x (by simp), linesR_line x _ (h x (by simp))]
    have := linesR_join (y :: r) (by simp) (fun l hl => h l (by simp [hl]))
    simp only
    rw [this]
theorem lns_join {ls : List (List UInt8)} (h0 : ls ≠ []) (h : ∀ l ∈ ls, crL l = false) : lns (joinL ls) [13, 10] = ls := by
  rw [lns_lines _ _ (Nat.le_refl _), linesR_join ls h0 h]
theorem join_linesR : ∀ (n : Nat) (s : List UInt8), s.length ≤ n → joinL ((linesR s).1 :: (linesR s).2) = s
  | _, [], _ => rfl
  | n, c :: t, hn => by
    by_cases hc : c = 13 ∧ t.head? = some 10
    · obtain ⟨rfl, ht⟩ := hc
      cases t with
      | nil => cases ht
      | cons y u =>
        injection ht with ht
        subst ht
        cases n with
        | zero => simp at hn
        | succ n =>
          rw [linesR_cut, join_cons _ (by simp), join_linesR n u (by simp at hn; omega)]
          rfl
    · cases n with
      | zero => simp at hn
      | succ n =>
        have ih := join_linesR n t (by simp at hn; omega)
        rw [linesR, if_neg hc]
        cases e : (linesR t).2 with
        | nil => rw [e] at ih; simp only [joinL] at ih ⊢; rw [ih]
        | cons y r =>
          rw [e, join_cons _ (by simp)] at ih
          rw [join_cons _ (by simp)]
          rw [List.cons_append, ih]
theorem join_lns (s : List UInt8) : joinL (lns s [13, 10]) = s := by
  rw [lns_lines _ s (Nat.le_refl _)]
  exact join_linesR _ s (Nat.le_refl _)
/- The first empty line. -/
theorem ix_skip {c : UInt8} {t : List UInt8} {n : Nat} (hc : c ≠ 13) (h : Lib.index t sep4 = n) : Lib.index (c :: t) sep4 = ((n + 1 : Nat) : Int) := by
  rw [index_cons, if_neg (by simp [sep4, List.isPrefixOf]; intro e; exact absurd e.symm hc), if_neg (by rw [h, beq_iff_eq]; omega), h]
  omega
theorem ix_line : ∀ {x r : List UInt8} {n : Nat}, crL x = false → Lib.index r sep4 = (n : Int) → Lib.index (x ++ r) sep4 = ((x.length + n : Nat) : Int)
  | [], r, n, _, h => by simpa using h
  | c :: t, r, n, hx, h => by
    obtain ⟨h1, h2, h3⟩ := crL_cons hx
    have := ix_skip h1 (ix_line h3 h)
    rw [List.cons_append, this, List.length_cons]
    omega
theorem ix_end {y : UInt8} {u : List UInt8} {n : Nat} (hy : y ≠ 13) (h : Lib.index (y :: u) sep4 = (n : Int)) : Lib.index (13 :: 10 :: y :: u) sep4 = ((n + 2 : Nat) : Int) := by
  have h10 := ix_skip (c := 10) (by decide) h
  rw [index_cons, if_neg (by simp [sep4, List.isPrefixOf]; intro e; exact absurd e.symm hy), if_neg (by rw [h10, beq_iff_eq]; omega), h10]
  omega
theorem ix_join : ∀ (ls : List (List UInt8)) (body : List UInt8), ls ≠ [] → (∀ l ∈ ls, Line l) → Lib.index (joinL ls ++ (sep4 ++ body)) sep4 = ((joinL ls).length : Int)
  | [], _, h, _ => absurd rfl h
  | [x], body, _, h => by
    have h0 : Lib.index (sep4 ++ body) sep4 = ((0 : Nat) : Int) := by
      show Lib.index (13 :: (10 :: 13 :: 10 :: body)) sep4 = _
      rw [index_cons, if_pos (by simp [sep4, List.isPrefixOf])]
      rfl
    have := ix_line (h x (by simp)).2 h0
    rw [joinL, this]
    simp
  | x :: y :: r, body, _, h => by
    have ih := ix_join (y :: r) body (by simp) (fun l hl => h l (by simp [hl]))
    rw [join_cons x (by simp), List.append_assoc]
    obtain ⟨c, t, hct⟩ : ∃ c t, joinL (y :: r) = c :: t ∧ c ≠ 13 := by
      obtain ⟨hy0, hy1⟩ := h y (by simp)
      cases y with
      | nil => exact absurd rfl hy0
      | cons c t =>
        cases r with
        | nil => exact ⟨c, t, rfl, (crL_cons hy1).1⟩
        | cons z r => exact ⟨c, _, rfl, (crL_cons hy1).1⟩
    obtain ⟨hct, hc⟩ := hct
    rw [hct] at ih ⊢
    have h2 := ix_end hc ih
    have := ix_line (h x (by simp)).2 h2
    show Lib.index (x ++ (13 :: 10 :: c :: t.append (sep4 ++ body))) sep4 = _
    rw [this]
    simp
    omega
theorem cut_join {ls : List (List UInt8)} (body : List UInt8) (h0 : ls ≠ []) (h : ∀ l ∈ ls, Line l) : cutL (joinL ls ++ (sep4 ++ body)) sep4 = (joinL ls, body, true) := by
  unfold cutL Lib.cut
  rw [ix_join ls body h0 h, if_pos (by omega)]
  simp only [Int.toNat_natCast, List.take_left]
  have e : (joinL ls ++ (sep4 ++ body)).drop ((joinL ls).length + sep4.length) = body := by
    rw [← List.append_assoc, List.drop_left' (by simp)]
  rw [e]
/- Numbers. -/
theorem dec_snoc : ∀ (l : List UInt8) (acc n : Nat) (b : UInt8) (d : Nat), Lib.decFrom acc l = some n → Lib.digitVal b = some d → Lib.decFrom acc (l ++ [b]) = some (n * 10 + d)
  | [], acc, n, b, d, h, hd => by
    simp only [Lib.decFrom, Option.some.injEq] at h
    simp only [List.nil_append, Lib.decFrom, hd, h]
  | c :: r, acc, n, b, d, h, hd => by
    simp only [Lib.decFrom] at h
    simp only [List.cons_append, Lib.decFrom]
    cases e : Lib.digitVal c with
    | none => rw [e] at h; cases h
    | some k => rw [e] at h; exact dec_snoc r _ n b d h hd
theorem digit_of (d : Nat) (h : d < 10) : dig (UInt8.ofNat (48 + d)) = true ∧ Lib.digitVal (UInt8.ofNat (48 + d)) = some d := by
  have : ∀ k : Fin 10, dig (UInt8.ofNat (48 + k.val)) = true ∧ Lib.digitVal (UInt8.ofNat (48 + k.val)) = some k.val := by decide
  exact this ⟨d, h⟩
theorem digits_ok (u : Nat) : (Lib.decDigits u).all dig = true ∧ Lib.decDigits u ≠ [] ∧ Lib.decFrom 0 (Lib.decDigits u) = some u := by
  induction u using Nat.strongRecOn with
  | _ u ih =>
    rw [Lib.decDigits]
    by_cases h : u < 10
    · rw [dif_pos h]
      obtain ⟨h1, h2⟩ := digit_of u h
      generalize UInt8.ofNat (48 + u) = c at *
      refine ⟨by simp [h1], by simp, ?_⟩
      simp only [Lib.decFrom, h2]
      simp
    · rw [dif_neg h]
      obtain ⟨h1, h2⟩ := digit_of (u % 10) (by omega)
      obtain ⟨i1, i2, i3⟩ := ih (u / 10) (by omega)
      generalize UInt8.ofNat (48 + u % 10) = c at *
      refine ⟨by rw [List.all_append, i1]; simp [h1], by simp, ?_⟩
      rw [dec_snoc _ 0 (u / 10) _ (u % 10) i3 h2]
      congr 1
      omega
theorem digits_len : ∀ (k u : Nat), u < 10 ^ (k + 1) → (Lib.decDigits u).length ≤ k + 1
  | 0, u, h => by rw [Lib.decDigits, dif_pos (by simpa using h)]; simp
  | k + 1, u, h => by
    rw [Lib.decDigits]
    split
    · simp
    · have := digits_len k (u / 10) (by rw [Nat.pow_succ] at h; omega)
      simp
      omega
theorem atoi_itoa (n : Nat) (h : n ≤ 4096) : Lib.atoiAll (Lib.itoa (n : Int)) = .ok (n : Int) := by
  obtain ⟨h1, h2, h3⟩ := digits_ok n
  have h4 := digits_len 3 n (by omega)
  rw [Lib.itoa_nonneg, Lib.atoiAll_short _ (by omega), atoi_num h2 h1]
  unfold numL
  rw [h3]
  rfl
theorem atoiOk_itoa (n : Nat) (h : n ≤ 4096) : atoiOk (Lib.itoa (n : Int)) = true := by
  unfold atoiOk
  rw [atoi_itoa n h]
  simp
/- Cuts. -/
theorem cut_inv {s sep : List UInt8} (hne : sep ≠ []) (h : (cutL s sep).2.2 = true) : s = (cutL s sep).1 ++ (sep ++ (cutL s sep).2.1) := by
  unfold cutL Lib.cut at h ⊢
  rcases Lib.index_spec s sep with ⟨h1, _⟩ | ⟨i, h1, h2, h3, _⟩
  · rw [h1] at h; cases h
  · rw [h1, if_pos (by omega)]
    simp only [Int.toNat_natCast]
    rcases Lib.occAt_room h3 with hr | hr
    · rw [Lib.occAt_iff_take _ _ _ hr] at h3
      have h4 : (s.drop i).take sep.length = sep := eq_of_beq h3
      conv => lhs; rw [← List.take_append_drop i s, ← List.take_append_drop sep.length (s.drop i), h4, List.drop_drop]
    · exact absurd hr hne
theorem tok_facts (c : UInt8) : tokb c = true → c ≠ 58 ∧ crb c = false := byte_all (fun c => tokb c = true → c ≠ 58 ∧ crb c = false) (by decide +kernel) c
theorem vab_facts (c : UInt8) : vab c = true → crb c = false := byte_all (fun c => vab c = true → crb c = false) (by decide +kernel) c
theorem dig_facts (c : UInt8) : dig c = true → crb c = false := byte_all (fun c => dig c = true → crb c = false) (by decide +kernel) c
theorem ix_colon : ∀ {x r : List UInt8}, (∀ c ∈ x, c ≠ 58) → Lib.index (x ++ 58 :: 32 :: r) [58, 32] = (x.length : Int)
  | [], r, _ => by
    show Lib.index (58 :: 32 :: r) [58, 32] = _
    rw [index_cons, if_pos (by simp [List.isPrefixOf])]
    rfl
  | c :: t, r, h => by
    have ih := ix_colon (x := t) (r := r) (fun c hc => h c (by simp [hc]))
    have hc := h c (by simp)
    show Lib.index (c :: (t ++ 58 :: 32 :: r)) [58, 32] = _
    rw [index_cons, if_neg (by simp [List.isPrefixOf]; intro e; exact absurd e.symm hc), if_neg (by rw [ih, beq_iff_eq]; omega), ih]
    simp
def lineH (h : Hdr) : List UInt8 := h.1 ++ 58 :: 32 :: h.2
theorem cut_colon {x r : List UInt8} (h : ∀ c ∈ x, c ≠ 58) : cutL (x ++ 58 :: 32 :: r) [58, 32] = (x, r, true) := by
  unfold cutL Lib.cut
  rw [ix_colon h, if_pos (by omega)]
  simp only [Int.toNat_natCast, List.take_left]
  have e : (x ++ 58 :: 32 :: r).drop (x.length + ([58, 32] : List UInt8).length) = r := by
    rw [show x ++ 58 :: 32 :: r = (x ++ [58, 32]) ++ r by simp, List.drop_left' (by simp)]
  rw [e]
theorem field_parts {h : Hdr} (hf : fieldL h = true) : tokenL h.1 = true ∧ smallL h.1 = h.1 ∧ h.1 ≠ clK ∧ valueL h.2 = true := by
  unfold fieldL at hf
  simp only [Bool.and_eq_true, beq_iff_eq, Bool.not_eq_true', beq_eq_false_iff_ne] at hf
  exact ⟨hf.1.1.1, hf.1.1.2, hf.1.2, hf.2⟩
theorem token_all {s : List UInt8} (h : tokenL s = true) : ∀ c ∈ s, tokb c = true := by
  unfold tokenL at h
  simp only [Bool.and_eq_true, List.all_eq_true] at h
  exact h.2
theorem value_all {s : List UInt8} (h : valueL s = true) : ∀ c ∈ s, vab c = true := by
  unfold valueL at h
  simp only [Bool.and_eq_true, List.all_eq_true] at h
  exact h.2
theorem crL_of {s : List UInt8} (h : ∀ c ∈ s, crb c = false) : crL s = false := by
  unfold crL
  rw [List.any_eq_false]
  intro c hc
  rw [h c hc]; decide
theorem crL_app (a b : List UInt8) : crL (a ++ b) = (crL a || crL b) := by unfold crL; rw [List.any_append]
theorem line_field {h : Hdr} (hf : fieldL h = true) : Line (lineH h) ∧ cutL (lineH h) [58, 32] = (h.1, h.2, true) := by
  obtain ⟨h1, _, _, h4⟩ := field_parts hf
  refine ⟨⟨by unfold lineH; simp, ?_⟩, cut_colon (fun c hc => (tok_facts c (token_all h1 c hc)).1)⟩
  unfold lineH
  rw [show h.1 ++ 58 :: 32 :: h.2 = h.1 ++ ([58, 32] ++ h.2) from rfl, crL_app, crL_app, crL_of (fun c hc => (tok_facts c (token_all h1 c hc)).2), crL_of (s := h.2) (fun c hc => vab_facts c (value_all h4 c hc))]
  decide
theorem itoa_line (n : Nat) : crL (Lib.itoa (n : Int)) = false := by
  rw [Lib.itoa_nonneg]
  refine crL_of (fun c hc => dig_facts c ?_)
  exact List.all_eq_true.1 (digits_ok n).1 c hc
theorem line_cl (n : Nat) : Line (clLine n) ∧ cutL (clLine n) [58, 32] = (clK, Lib.itoa (n : Int), true) := by
  refine ⟨⟨by unfold clLine clT; simp, ?_⟩, ?_⟩
  · unfold clLine
    rw [crL_app, itoa_line]
    decide
  · exact cut_colon (x := clK) (r := Lib.itoa (n : Int)) (by decide)
def statuses : List Int := [200, 400, 404, 405, 413, 414, 431, 500, 501, 503, 504, 505, 507]
theorem reason_in {n : Int} (h : reasonL n ≠ []) : n ∈ statuses := by
  refine Decidable.byContradiction (fun hn => h ?_)
  unfold statuses at hn
  simp only [List.mem_cons, List.not_mem_nil, or_false, not_or] at hn
  unfold reasonL
  rw [if_neg (hn.1), if_neg (hn.2.1), if_neg (hn.2.2.1), if_neg (hn.2.2.2.1), if_neg (hn.2.2.2.2.1), if_neg (hn.2.2.2.2.2.1), if_neg (hn.2.2.2.2.2.2.1), if_neg (hn.2.2.2.2.2.2.2.1), if_neg (hn.2.2.2.2.2.2.2.2.1), if_neg (hn.2.2.2.2.2.2.2.2.2.1), if_neg (hn.2.2.2.2.2.2.2.2.2.2.1), if_neg (hn.2.2.2.2.2.2.2.2.2.2.2.1), if_neg (hn.2.2.2.2.2.2.2.2.2.2.2.2)]
theorem status_line : ∀ n ∈ statuses, Line (lineA n) ∧ statusL (lineA n) = n := by
  have : ∀ n ∈ statuses, (lineA n ≠ [] ∧ crL (lineA n) = false) ∧ statusL (lineA n) = n := by decide +kernel
  exact this
theorem join_head (hs : List Hdr) (c : List UInt8) : joinL (hs.map lineH ++ [c]) = textL hs ++ c := by
  induction hs with
  | nil => rfl
  | cons x r ih =>
    rw [List.map_cons, List.cons_append, join_cons _ (by simp), ih]
    simp [textL, lineT, lineH]
theorem head_join (a : Ans) : headA a = joinL (lineA a.st :: (a.hs.map lineH ++ [clLine a.b.length])) ++ sep4 := by
  rw [join_cons _ (by simp), join_head]
  simp [headA]
theorem read_all {n : Nat} (hn : n ≤ 4096) : ∀ (hs : List Hdr) (i : Nat) (acc : List Hdr) (len : List UInt8), hs.all fieldL = true → hs.length + i < 32 → readH (hs.map lineH ++ [clLine n]) i acc len = .ok (acc ++ hs, Lib.itoa (n : Int))
  | [], i, acc, len, _, hi => by
    simp only [List.map_nil, List.nil_append, readH, (line_cl n).2]
    have hi2 : i < 32 := by simpa using hi
    simp [atoiOk_itoa n hn, hi2]
  | x :: r, i, acc, len, hf, hi => by
    simp only [List.all_cons, Bool.and_eq_true] at hf
    simp only [List.map_cons, List.cons_append, readH, (line_field hf.1).2]
    have hi2 : i < 32 := by simp at hi; omega
    have ih := read_all hn r (i + 1) (acc ++ [(x.1, x.2)]) len hf.2 (by simp at hi; omega)
    rw [if_neg (by simp), if_pos (by simp [hf.1, hi2]), ih]
    simp
/-- What Write writes is read as the answer. -/
theorem write_read {a : Ans} {bs : List UInt8} (h : writeL a = .ok bs) : readL bs = .ok a := by
  unfold writeL at h
  split at h
  · cases h
  · rename_i h1
    split at h
    · cases h
    · rename_i h2
      split at h
      · cases h
      · rename_i h3
        split at h
        · cases h
        · rename_i h4
          split at h
          · cases h
          · rename_i h5
            injection h with h
            have h2' : a.hs.all fieldL = true := by simpa using h2
            obtain ⟨l1, l2⟩ := status_line a.st (reason_in h1)
            have hl : ∀ l ∈ lineA a.st :: (a.hs.map lineH ++ [clLine a.b.length]), Line l := by
              intro l hl
              rcases List.mem_cons.1 hl with rfl | hl
              · exact l1
              · rcases List.mem_append.1 hl with hl | hl
                · obtain ⟨x, hx, rfl⟩ := List.mem_map.1 hl
                  exact (line_field (List.all_eq_true.1 h2' x hx)).1
                · rw [List.mem_singleton.1 hl]; exact (line_cl _).1
            have hc := cut_join a.b (by simp) hl
            rw [← List.append_assoc, ← head_join, h] at hc
            have hln := lns_join (by simp) (fun l hm => (hl l hm).2)
            have hlen : (joinL (lineA a.st :: (a.hs.map lineH ++ [clLine a.b.length]))).length + 4 = (headA a).length := by rw [head_join]; simp [sep4]
            have hst : a.st ≠ 0 := by
              have := reason_in h1
              intro e
              rw [e] at this
              revert this
              decide
            unfold readL
            rw [hc]
            simp only
            rw [hln]
            simp only
            rw [l2, if_neg hst, read_all (by omega) a.hs 0 [] [] h2' (by omega)]
            simp only
            have k1 : ¬ (Lib.itoa (a.b.length : Nat) ≠ Lib.itoa (a.b.length : Nat) ∨ 4096 < a.b.length) := by rintro (h | h); exact h rfl; exact h4 h
            have k2 : ¬ 65536 < (joinL (lineA a.st :: (a.hs.map lineH ++ [clLine a.b.length]))).length := by omega
            rw [if_neg k1, if_neg k2]
            rfl
/- What was read. -/
theorem read_inv : ∀ (ls : List (List UInt8)) (i : Nat) (acc : List Hdr) (len : List UInt8) (hs : List Hdr) (len' : List UInt8), readH ls i acc len = .ok (hs, len') →
    ∃ hs2, hs = acc ++ hs2 ∧ hs2.all fieldL = true ∧ ((ls = hs2.map lineH ∧ len' = len) ∨ (ls = hs2.map lineH ++ [clT ++ len'] ∧ hs2.length + i < 32))
  | [], i, acc, len, hs, len', h => by
    simp only [readH, Except.ok.injEq, Prod.mk.injEq] at h
    exact ⟨[], by simp [h.1], rfl, .inl ⟨rfl, h.2.symm⟩⟩
  | l :: r, i, acc, len, hs, len', h => by
    simp only [readH] at h
    split at h
    · rename_i hl
      split at h
      · rename_i hok
        obtain ⟨rfl, hn⟩ := hl
        simp only [readH, Except.ok.injEq, Prod.mk.injEq] at h
        have hc := cut_inv (by simp) hok.1
        rw [hn, h.2] at hc
        refine ⟨[], by simp [h.1], rfl, .inr ⟨?_, by simpa using hok.2.2⟩⟩
        rw [hc]
        rfl
      · cases h
    · split at h
      · rename_i hok
        obtain ⟨hs2, e1, e2, e3⟩ := read_inv r (i + 1) _ len hs len' h
        have hc := cut_inv (by simp) hok.1
        obtain ⟨x, hx⟩ : ∃ x : Hdr, ((cutL l [58, 32]).1, (cutL l [58, 32]).2.1) = x := ⟨_, rfl⟩
        have hlx : l = lineH x := by rw [hc, ← hx]; rfl
        rw [hx] at e1 hok
        refine ⟨x :: hs2, by rw [e1]; simp, by rw [List.all_cons, hok.2.1, e2]; rfl, ?_⟩
        rcases e3 with ⟨e3, e4⟩ | ⟨e3, e4⟩
        · exact .inl ⟨by rw [List.map_cons, ← e3, hlx], e4⟩
        · exact .inr ⟨by rw [List.map_cons, List.cons_append, ← e3, hlx], by simp; omega⟩
      · cases h
theorem three {s : List UInt8} (h : 4 ≤ s.length) : ∃ a b c d r, s = a :: b :: c :: d :: r := by
  match s, h with
  | a :: b :: c :: d :: r, _ => exact ⟨a, b, c, d, r, rfl⟩
theorem num_three {a b c : UInt8} (h : [a, b, c].all dig = true) : numL [a, b, c] = (a.toNat - 48) * 100 + (b.toNat - 48) * 10 + (c.toNat - 48) ∧ (48 ≤ a.toNat ∧ a.toNat ≤ 57) ∧ (48 ≤ b.toNat ∧ b.toNat ≤ 57) ∧ 48 ≤ c.toNat ∧ c.toNat ≤ 57 := by
  simp only [List.all_cons, List.all_nil, Bool.and_true, Bool.and_eq_true] at h
  obtain ⟨h1, h2, h3⟩ := h
  have d1 := (dig_val h1).1
  have d2 := (dig_val h2).1
  have d3 := (dig_val h3).1
  simp only [dig, Bool.and_eq_true, decide_eq_true_eq] at h1 h2 h3
  refine ⟨?_, h1, h2, h3⟩
  unfold numL
  simp only [Lib.decFrom, d1, d2, d3, Option.getD_some]
  omega
theorem itoa_in : ∀ n ∈ statuses, ∃ a b c : UInt8, Lib.itoa n = [a, b, c] ∧ n = (a.toNat - 48) * 100 + (b.toNat - 48) * 10 + (c.toNat - 48) ∧ (48 ≤ a.toNat ∧ a.toNat ≤ 57) ∧ (48 ≤ b.toNat ∧ b.toNat ≤ 57) ∧ 48 ≤ c.toNat ∧ c.toNat ≤ 57 := by
  intro n hn
  unfold statuses at hn
  simp only [List.mem_cons, List.not_mem_nil, or_false] at hn
  rcases hn with rfl | rfl | rfl | rfl | rfl | rfl | rfl | rfl | rfl | rfl | rfl | rfl | rfl
  · exact ⟨50, 48, 48, by decide +kernel, by decide, by decide, by decide, by decide⟩
  · exact ⟨52, 48, 48, by decide +kernel, by decide, by decide, by decide, by decide⟩
  · exact ⟨52, 48, 52, by decide +kernel, by decide, by decide, by decide, by decide⟩
  · exact ⟨52, 48, 53, by decide +kernel, by decide, by decide, by decide, by decide⟩
  · exact ⟨52, 49, 51, by decide +kernel, by decide, by decide, by decide, by decide⟩
  · exact ⟨52, 49, 52, by decide +kernel, by decide, by decide, by decide, by decide⟩
  · exact ⟨52, 51, 49, by decide +kernel, by decide, by decide, by decide, by decide⟩
  · exact ⟨53, 48, 48, by decide +kernel, by decide, by decide, by decide, by decide⟩
  · exact ⟨53, 48, 49, by decide +kernel, by decide, by decide, by decide, by decide⟩
  · exact ⟨53, 48, 51, by decide +kernel, by decide, by decide, by decide, by decide⟩
  · exact ⟨53, 48, 52, by decide +kernel, by decide, by decide, by decide, by decide⟩
  · exact ⟨53, 48, 53, by decide +kernel, by decide, by decide, by decide, by decide⟩
  · exact ⟨53, 48, 55, by decide +kernel, by decide, by decide, by decide, by decide⟩
theorem status_inv {l : List UInt8} (h : statusL l ≠ 0) : l = lineA (statusL l) ∧ reasonL (statusL l) ≠ [] := by
  unfold statusL at h ⊢
  split at h
  · exact absurd rfl h
  · rename_i h1
    split at h
    · exact absurd rfl h
    · rename_i h2
      split at h
      · exact absurd rfl h
      · rename_i h3
        split at h
        · exact absurd rfl h
        · rename_i h4
          split at h
          · exact absurd rfl h
          · rename_i h5
            rw [if_neg h1, if_neg h2, if_neg h3, if_neg h4, if_neg h5]
            have hp : Lib.hasPrefix l stat11 = true := by simpa using h1
            have hl : l = stat11 ++ l.drop 9 := by
              have := List.prefix_iff_eq_take.1 (List.isPrefixOf_iff_prefix.1 hp)
              conv => lhs; rw [← List.take_append_drop 9 l]
              rw [show stat11.length = 9 from rfl] at this
              rw [← this]
            generalize l.drop 9 = s at *
            obtain ⟨a, b, c, d, r, rfl⟩ := three (show 4 ≤ s.length by omega)
            have hd : d = 32 := by simpa using h3
            subst hd
            have h4' : [a, b, c].all dig = true := by simpa using h4
            have h5' : reasonL (numL [a, b, c]) ≠ [] ∧ reasonL (numL [a, b, c]) = r := by
              constructor
              · exact fun e => h5 (.inl e)
              · exact Decidable.byContradiction fun e => h5 (.inr e)
            refine ⟨?_, h5'.1⟩
            obtain ⟨n1, n2, n3, n4⟩ := num_three h4'
            obtain ⟨a', b', c', i1, i2, i3, i4, i5⟩ := itoa_in _ (reason_in h5'.1)
            have hi : Lib.itoa (numL [a, b, c] : Nat) = [a, b, c] := by
              rw [i1]
              have e1 : a'.toNat = a.toNat := by omega
              have e2 : b'.toNat = b.toNat := by omega
              have e3 : c'.toNat = c.toNat := by omega
              rw [UInt8.toNat_inj.1 e1, UInt8.toNat_inj.1 e2, UInt8.toNat_inj.1 e3]
            show l = lineA (numL [a, b, c] : Nat)
            unfold lineA
            rw [hi, h5'.2, hl]
            simp
/-- Write of what was read is the bytes. -/
theorem read_write {b : List UInt8} {a : Ans} (h : readL b = .ok a) : writeL a = .ok b := by
  unfold readL at h
  split at h
  · cases h
  · rename_i hcut
    have hc := cut_inv (s := b) (sep := sep4) (by decide) (by simpa using hcut)
    generalize cutL b sep4 = q at *
    obtain ⟨T, body, f⟩ := q
    simp only at hc h
    split at h
    · cases h
    · rename_i l0 r hls
      split at h
      · cases h
      · rename_i hst
        split at h
        · cases h
        · rename_i hs len hrd
          split at h
          · cases h
          · rename_i hlen
            split at h
            · cases h
            · rename_i hT
              injection h with h
              obtain ⟨s1, s2⟩ := status_inv hst
              have hlen' : len = Lib.itoa (body.length : Nat) ∧ body.length ≤ 4096 := by
                constructor
                · exact Decidable.byContradiction fun e => hlen (.inl e)
                · exact Nat.le_of_not_lt fun e => hlen (.inr e)
              obtain ⟨hs2, e1, e2, e3⟩ := read_inv r 0 [] [] hs len hrd
              rw [List.nil_append] at e1
              subst e1
              have e4 : r = hs.map lineH ++ [clLine body.length] ∧ hs.length + 0 < 32 := by
                rcases e3 with ⟨_, e⟩ | ⟨e, e'⟩
                · exfalso
                  rw [hlen'.1, Lib.itoa_nonneg] at e
                  exact (digits_ok _).2.1 e
                · exact ⟨by rw [e, hlen'.1]; rfl, e'⟩
              have hjoin := join_lns T
              rw [hls, e4.1] at hjoin
              subst h
              have hh := head_join ⟨statusL l0, hs, body⟩
              simp only at hh
              rw [← s1, hjoin] at hh
              have hl4 : (headA ⟨statusL l0, hs, body⟩).length = T.length + 4 := by rw [hh]; simp [sep4]
              unfold writeL
              simp only
              rw [if_neg s2, if_neg (by rw [e2]; decide), if_neg (by omega), if_neg (by omega), if_neg (by omega), hh, hc, List.append_assoc]
theorem readH_err : ∀ (ls : List (List UInt8)) (i : Nat) (acc : List Hdr) (len : List UInt8) {c : Int}, readH ls i acc len = .error c → c ≠ 0
  | [], i, acc, len, c, h => by cases h
  | l :: r, i, acc, len, c, h => by
    simp only [readH] at h
    split at h
    · split at h
      · exact readH_err r _ _ _ h
      · injection h with h; omega
    · split at h
      · exact readH_err r _ _ _ h
      · injection h with h; omega
theorem read_err {b : List UInt8} {c : Int} (h : readL b = .error c) : c ≠ 0 := by
  unfold readL at h
  split at h
  · injection h with h; omega
  · split at h
    · injection h with h; omega
    · split at h
      · injection h with h; omega
      · split at h
        · rename_i c' hc
          injection h with h
          subst h
          exact readH_err _ _ _ _ hc
        · split at h
          · injection h with h; omega
          · split at h
            · injection h with h; omega
            · cases h
end Go.Proofs.YtidhemjnchonaaaGreatDoor
