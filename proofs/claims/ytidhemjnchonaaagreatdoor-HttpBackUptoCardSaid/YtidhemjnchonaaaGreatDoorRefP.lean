/- Plain: the document's words of http are the program's. No program. -/
import Derived.Test.YtidhemjnchonaaaGreatDoorTwinP
import Derived.Test.YtidhemjnchonaaaGreatDoorFindP
namespace Go.Proofs.YtidhemjnchonaaaGreatDoor

theorem find_lns_no {s sep : List UInt8} {f : Nat} (h : findFrom s sep f = -1) : lns (s.drop f) sep = [s.drop f] := lns_miss (findFrom_no h)
theorem find_lns {s sep : List UInt8} {f n : Nat} (h1 : 1 ≤ sep.length) (h : findFrom s sep f = (n : Int)) : lns (s.drop f) sep = (s.drop f).take (n - f) :: lns (s.drop (n + sep.length)) sep := by
  obtain ⟨h2, h3, h4⟩ := findFrom_at (by intro e; subst e; simp at h1) h
  rw [lns_hit h1 h4, List.drop_drop]
  congr 3
  omega

/- Trimmed. -/
section trim
variable (p : UInt8 → Bool)
def dropR (l : List UInt8) : List UInt8 := (l.reverse.dropWhile p).reverse
theorem dropR_cons (x : UInt8) (t : List UInt8) : dropR p (x :: t) = if dropR p t = [] then (if p x then [] else [x]) else x :: dropR p t := by
  unfold dropR
  rw [List.reverse_cons, List.dropWhile_append]
  cases h : t.reverse.dropWhile p with
  | nil => cases hx : p x <;> simp [List.dropWhile, hx]
  | cons a r => simp
theorem drop_comm : ∀ l : List UInt8, dropR p (l.dropWhile p) = (dropR p l).dropWhile p
  | [] => rfl
  | x :: t => by
    rw [dropR_cons]
    cases hx : p x with
    | true =>
      rw [List.dropWhile_cons_of_pos hx, drop_comm t]
      by_cases h : dropR p t = []
      · rw [if_pos h, h]; simp
      · rw [if_neg h, List.dropWhile_cons_of_pos hx]
    | false =>
      rw [List.dropWhile_cons_of_neg (by simp [hx]), dropR_cons, hx]
      by_cases h : dropR p t = []
      · rw [if_pos h]; simp [hx]
      · rw [if_neg h, List.dropWhile_cons_of_neg (by simp [hx])]
theorem dropR_snoc (t : List UInt8) (x : UInt8) : dropR p (t ++ [x]) = if p x then dropR p t else t ++ [x] := by
  unfold dropR
  rw [List.reverse_append, List.reverse_singleton, List.singleton_append]
  cases hx : p x with
  | true => rw [List.dropWhile_cons_of_pos hx]; rfl
  | false => rw [List.dropWhile_cons_of_neg (by simp [hx])]; simp
theorem dropR_le (l : List UInt8) : (dropR p l).length ≤ l.length := by
  unfold dropR
  rw [List.length_reverse]
  refine Nat.le_trans (List.dropWhile_sublist _).length_le ?_
  rw [List.length_reverse]
  exact Nat.le_refl _
/-- Both ends are no such bytes. -/
theorem trim_same (s : List UInt8) : (dropR p (s.dropWhile p) = s) ↔ (s = [] ∨ ((s.head?.all fun c => !p c) = true ∧ (s.getLast?.all fun c => !p c) = true)) := by
  cases s with
  | nil => simp [dropR]
  | cons x t =>
    constructor
    · intro h
      right
      have h1 := dropR_le p ((x :: t).dropWhile p)
      rw [h] at h1
      have hx : p x = false := by
        cases e : p x with
        | false => rfl
        | true =>
          rw [List.dropWhile_cons_of_pos e] at h1
          have := (List.dropWhile_sublist p (l := t)).length_le
          simp only [List.length_cons] at h1
          omega
      rw [List.dropWhile_cons_of_neg (by simp [hx])] at h
      refine ⟨by simp [hx], ?_⟩
      have hne : x :: t ≠ [] := by simp
      rw [← List.dropLast_concat_getLast hne, dropR_snoc] at h
      cases e : p ((x :: t).getLast hne) with
      | false => rw [List.getLast?_eq_some_getLast hne]; simp [e]
      | true =>
        rw [if_pos e] at h
        have h2 := dropR_le p (x :: t).dropLast
        rw [h] at h2
        simp at h2
        omega
    · rintro (h | ⟨h1, h2⟩)
      · cases h
      · have hne : x :: t ≠ [] := by simp
        rw [List.dropWhile_cons_of_neg (by simpa using h1)]
        rw [List.getLast?_eq_some_getLast hne] at h2
        rw [← List.dropLast_concat_getLast hne, dropR_snoc, if_neg (by simpa using h2)]
end trim
theorem bla_eq : (fun c : UInt8 => blanks.contains c) = bla := by
  funext c
  have h : ∀ c : UInt8, blanks.contains c = bla c := fun c => byte_all (fun c => blanks.contains c = bla c) (by decide +kernel) c
  exact h c
theorem trim_eq (s : List UInt8) : trimL s = dropR bla (s.dropWhile bla) := by
  rw [drop_comm]
  unfold trimL Lib.trimS Lib.trimLeftS Lib.trimRightS dropR
  rw [← bla_eq]
def valueR (s : List UInt8) : Bool := s.all vab && decide (s.length ≤ 32768) && (decide (s = []) || ((s.head?.all fun c => !bla c) && (s.getLast?.all fun c => !bla c)))
theorem value_eq (s : List UInt8) : valueR s = valueL s := by
  unfold valueR valueL
  rw [trim_eq, Bool.eq_iff_iff]
  simp only [Bool.and_eq_true, Bool.or_eq_true, decide_eq_true_eq, trim_same]
  constructor
  · rintro ⟨⟨a, b⟩, c⟩; exact ⟨⟨b, c⟩, a⟩
  · rintro ⟨⟨b, c⟩, a⟩; exact ⟨⟨a, b⟩, c⟩
theorem mark_eq (c : UInt8) : findFrom marks [c] 0 = Lib.indexByte marks c := by
  exact byte_all (fun c => findFrom marks [c] 0 = Lib.indexByte marks c) (by decide +kernel) c
/- A header. -/
theorem header_no {s : List UInt8} (h : findFrom s [58] 0 = -1) : headerL s = none := by
  have := findFrom_no h
  rw [List.drop_zero] at this
  unfold headerL cutL Lib.cut
  rw [this]
  rfl
theorem header_at {s : List UInt8} {n : Nat} (h : findFrom s [58] 0 = (n : Int)) : headerL s = if tokenL (s.take n) && valueL (dropR bla ((s.drop (n + 1)).dropWhile bla)) then some (smallL (s.take n), dropR bla ((s.drop (n + 1)).dropWhile bla)) else none := by
  obtain ⟨_, _, h3⟩ := findFrom_at (by simp) h
  rw [List.drop_zero, Nat.sub_zero] at h3
  have hc : cutL s [58] = (s.take n, s.drop (n + 1), true) := by
    unfold cutL Lib.cut
    rw [h3, if_pos (by omega)]
    rfl
  unfold headerL
  rw [hc]
  simp only [Bool.true_and, trim_eq]
/- A first line. -/
def restL (m t v : List UInt8) : Except Int (List UInt8 × List UInt8) :=
    if m = [] ∨ t = [] ∨ v = [] then .error 400
    else if ¬ (m.length ≤ 16 ∧ m.all cap = true) then .error 400
    else if ¬ (t.head? = some 47 ∧ t.all vis = true) then .error 400
    else if verL v = false then .error 400
    else if v ≠ http11 then .error 505
    else if Lib.containsS meths ⟨m.toArray⟩ = false then .error 501
    else if 1024 < t.length then .error 414
    else .ok (m, t)
theorem first_one {s : List UInt8} (h : findFrom s [32] 0 = -1) : firstL s = .error 400 := by
  have := find_lns_no h
  rw [List.drop_zero] at this
  unfold firstL
  rw [this]
theorem first_two {s : List UInt8} {a : Nat} (h : findFrom s [32] 0 = (a : Int)) (h2 : findFrom s [32] (a + 1) = -1) : firstL s = .error 400 := by
  have e1 := find_lns (by decide) h
  have e2 := find_lns_no h2
  rw [List.drop_zero] at e1
  unfold firstL
  rw [e1]
  simp only [List.length_singleton]
  rw [e2]
theorem first_four {s : List UInt8} {a b c : Nat} (h : findFrom s [32] 0 = (a : Int)) (h2 : findFrom s [32] (a + 1) = (b : Int)) (h3 : findFrom s [32] (b + 1) = (c : Int)) : firstL s = .error 400 := by
  have e1 := find_lns (by decide) h
  have e2 := find_lns (by decide) h2
  have e3 := find_lns (by decide) h3
  have e4 := (lns_len (s.drop (c + 1)) [32] (by decide)).1
  rw [List.drop_zero] at e1
  unfold firstL
  rw [e1]
  simp only [List.length_singleton]
  rw [e2]
  simp only [List.length_singleton]
  rw [e3]
  simp only [List.length_singleton]
  cases e : lns (s.drop (c + 1)) [32] with
  | nil => rw [e] at e4; simp at e4
  | cons x r => rfl
theorem first_three {s : List UInt8} {a b : Nat} (h : findFrom s [32] 0 = (a : Int)) (h2 : findFrom s [32] (a + 1) = (b : Int)) (h3 : findFrom s [32] (b + 1) = -1) : firstL s = restL (s.take a) ((s.drop (a + 1)).take (b - (a + 1))) (s.drop (b + 1)) := by
  have e1 := find_lns (by decide) h
  have e2 := find_lns (by decide) h2
  have e3 := find_lns_no h3
  rw [List.drop_zero] at e1
  unfold firstL
  rw [e1]
  simp only [List.length_singleton]
  rw [e2]
  simp only [List.length_singleton]
  rw [e3]
  simp only [Nat.sub_zero]
  rfl
theorem ver_nil : verL [] = false := rfl
theorem rest_cap {m t v : List UInt8} (h : m.all cap = false) : restL m t v = .error 400 := by
  unfold restL
  split
  · rfl
  · rw [if_pos (by rw [h]; simp)]
theorem rest_form {m t v : List UInt8} (h : m.length < 1 ∨ 16 < m.length ∨ t.length = 0 ∨ t.head? ≠ some 47) : restL m t v = .error 400 := by
  unfold restL
  split
  · rfl
  · rename_i hn
    split
    · rfl
    · rename_i h2
      have h2' := Decidable.not_not.1 h2
      rw [if_pos]
      rintro ⟨h3, _⟩
      rcases h with h | h | h | h
      · exact hn (.inl (List.eq_nil_of_length_eq_zero (by omega)))
      · omega
      · exact hn (.inr (.inl (List.eq_nil_of_length_eq_zero h)))
      · exact h h3
theorem rest_vis {m t v : List UInt8} (h : t.all vis = false) : restL m t v = .error 400 := by
  unfold restL
  split
  · rfl
  · split
    · rfl
    · rw [if_pos (by rw [h]; simp)]
theorem rest_ver {m t v : List UInt8} (h : verL v = false) : restL m t v = .error 400 := by
  unfold restL
  split
  · rfl
  · split
    · rfl
    · split
      · rfl
      · first | rfl | rw [if_pos h]
theorem rest_go {m t v : List UInt8} (h1 : 1 ≤ m.length) (h2 : m.length ≤ 16) (h3 : m.all cap = true) (h4 : t.head? = some 47) (h5 : t.all vis = true) (h6 : verL v = true) :
    restL m t v = if v ≠ http11 then .error 505 else if Lib.containsS meths ⟨m.toArray⟩ = false then .error 501 else if 1024 < t.length then .error 414 else .ok (m, t) := by
  unfold restL
  rw [if_neg, if_neg (by simp [h2, h3]), if_neg (by simp [h4, h5]), if_neg (by simp [h6])]
  rintro (rfl | rfl | rfl)
  · simp at h1
  · simp at h4
  · rw [ver_nil] at h6; cases h6
theorem meths_eq (m : List UInt8) : Lib.containsS meths ⟨m.toArray⟩ = (m == [71, 69, 84] || m == [80, 85, 84] || m == [80, 79, 83, 84] || m == [68, 69, 76, 69, 84, 69]) := by
  have key : ∀ a b : List UInt8, ((⟨a.toArray⟩ : ByteArray) = ⟨b.toArray⟩) ↔ a = b := fun a b => ⟨fun e => by injection e with e; simpa using e, fun e => by rw [e]⟩
  unfold Lib.containsS Lib.idxOfS meths
  rw [Bool.eq_iff_iff]
  simp only [Lib.idxFromS, Bool.or_eq_true, beq_iff_eq]
  by_cases h1 : m = [71, 69, 84]
  · subst h1; simp
  · by_cases h2 : m = [80, 85, 84]
    · subst h2; decide
    · by_cases h3 : m = [80, 79, 83, 84]
      · subst h3; decide
      · by_cases h4 : m = [68, 69, 76, 69, 84, 69]
        · subst h4; decide
        · have k := fun a => key a m
          simp only [h1, h2, h3, h4, or_self, iff_false]
          have n1 : ¬ (⟨#[71, 69, 84]⟩ : ByteArray) = ⟨m.toArray⟩ := fun e => h1 ((k [71, 69, 84]).1 e).symm
          have n2 : ¬ (⟨#[80, 85, 84]⟩ : ByteArray) = ⟨m.toArray⟩ := fun e => h2 ((k [80, 85, 84]).1 e).symm
          have n3 : ¬ (⟨#[80, 79, 83, 84]⟩ : ByteArray) = ⟨m.toArray⟩ := fun e => h3 ((k [80, 79, 83, 84]).1 e).symm
          have n4 : ¬ (⟨#[68, 69, 76, 69, 84, 69]⟩ : ByteArray) = ⟨m.toArray⟩ := fun e => h4 ((k [68, 69, 76, 69, 84, 69]).1 e).symm
          simp [n1, n2, n3, n4]
/- How long the body must be. -/
theorem low_low (c : UInt8) : low (low c) = low c := byte_all (fun c => low (low c) = low c) (by decide +kernel) c
theorem small_small (s : List UInt8) : smallL (smallL s) = smallL s := by
  unfold smallL
  rw [List.map_map]
  apply List.map_congr_left
  intro c _
  exact low_low c
theorem header_small {l : List UInt8} {h : Hdr} (e : headerL l = some h) : smallL h.1 = h.1 := by
  unfold headerL at e
  split at e
  · injection e with e
    rw [← e]
    exact small_small _
  · cases e
theorem headers_small : ∀ (ls : List (List UInt8)) (i : Nat) (hs : List Hdr), headersL ls i = .ok hs → ∀ h ∈ hs, smallL h.1 = h.1
  | [], i, hs, e, h, hm => by
    simp only [headersL] at e
    injection e with e
    subst e
    cases hm
  | l :: ls, i, hs, e, h, hm => by
    rw [headers_cons] at e
    split at e
    · cases e
    · split at e
      · cases e
      · rename_i x hx
        split at e
        · cases e
        · rename_i q hq
          injection e with e
          subst e
          rcases List.mem_cons.1 hm with rfl | hm
          · exact header_small hx
          · exact headers_small ls (i + 1) q hq h hm
def digitsL (s : List UInt8) : Option Nat := if s ≠ [] ∧ s.length ≤ 9 ∧ s.all dig = true then some (numL s) else none
def lengthD (hs : List Hdr) : Except Int Nat :=
  if 0 < cntL hs teK then .error 501
  else if cntL hs hostK ≠ 1 ∨ (findL hs hostK).getD [] = [] then .error 400
  else if 1 < cntL hs clK then .error 400
  else match findL hs clK with
    | none => .ok 0
    | some v => match digitsL v with
      | none => .error 400
      | some n => if 4096 < n then .error 413 else .ok n
theorem find_filter {hs : List Hdr} {k : List UInt8} (hk : smallL k = k) (hs' : ∀ h ∈ hs, smallL h.1 = h.1) : findL hs k = ((hs.filter fun h => h.1 == k).head?).map (·.2) := by
  unfold findL
  congr 1
  induction hs with
  | nil => rfl
  | cons x t ih =>
    have hx : hit k x = (x.1 == k) := by unfold hit; rw [hs' x (by simp), hk]
    rw [List.find?_cons, List.filter_cons, hx, ih (fun h hm => hs' h (by simp [hm]))]
    cases x.1 == k <;> rfl
theorem find_one {hs : List Hdr} {k : List UInt8} (hk : smallL k = k) (hs' : ∀ h ∈ hs, smallL h.1 = h.1) (h1 : cntL hs k = 1) : findL hs k = some (valL hs k) := by
  rw [find_filter hk hs']
  unfold cntL at h1
  unfold valL
  generalize (hs.filter fun h => h.1 == k) = l at h1 ⊢
  match l, h1 with
  | [x], _ => rfl
theorem find_zero {hs : List Hdr} {k : List UInt8} (hk : smallL k = k) (hs' : ∀ h ∈ hs, smallL h.1 = h.1) (h0 : cntL hs k = 0) : findL hs k = none := by
  rw [find_filter hk hs']
  unfold cntL at h0
  rw [List.eq_nil_of_length_eq_zero h0]
  rfl
theorem length_eq {hs : List Hdr} (hs' : ∀ h ∈ hs, smallL h.1 = h.1) : lengthD hs = lengthL hs := by
  unfold lengthD lengthL
  by_cases h1 : cntL hs teK = 0
  case neg => rw [if_pos (Nat.pos_of_ne_zero h1), if_pos h1]
  have g1 : ¬ 0 < cntL hs teK := by omega
  have g2 : ¬ cntL hs teK ≠ 0 := fun h => h h1
  rw [if_neg g1, if_neg g2]
  by_cases h2 : cntL hs hostK = 1
  case neg =>
    have k1 : cntL hs hostK ≠ 1 ∨ (findL hs hostK).getD [] = [] := .inl h2
    have k2 : ¬ (cntL hs hostK = 1 ∧ valL hs hostK ≠ []) := fun h => h2 h.1
    rw [if_pos k1, if_pos k2]
  rw [find_one (by decide) hs' h2, Option.getD_some]
  by_cases h3 : valL hs hostK = []
  · have k1 : cntL hs hostK ≠ 1 ∨ valL hs hostK = [] := .inr h3
    have k2 : ¬ (cntL hs hostK = 1 ∧ valL hs hostK ≠ []) := fun h => h.2 h3
    rw [if_pos k1, if_pos k2]
  have k1 : ¬ (cntL hs hostK ≠ 1 ∨ valL hs hostK = []) := by rintro (h | h); exact h h2; exact h3 h
  have k2 : ¬ ¬ (cntL hs hostK = 1 ∧ valL hs hostK ≠ []) := fun h => h ⟨h2, h3⟩
  rw [if_neg k1, if_neg k2]
  by_cases h4 : cntL hs clK = 0
  · have k3 : ¬ 1 < cntL hs clK := by omega
    rw [find_zero (by decide) hs' h4, if_neg k3, if_pos h4]
  rw [if_neg h4]
  by_cases h5 : cntL hs clK = 1
  case neg =>
    have k3 : 1 < cntL hs clK := by omega
    have k4 : ¬ (cntL hs clK = 1 ∧ valL hs clK ≠ [] ∧ (valL hs clK).length ≤ 9 ∧ (valL hs clK).all dig = true) := fun h => h5 h.1
    rw [if_pos k3, if_pos k4]
  have k3 : ¬ 1 < cntL hs clK := by omega
  rw [find_one (by decide) hs' h5, if_neg k3]
  simp only
  unfold digitsL
  by_cases h6 : valL hs clK ≠ [] ∧ (valL hs clK).length ≤ 9 ∧ (valL hs clK).all dig = true
  · have k4 : ¬ ¬ (cntL hs clK = 1 ∧ valL hs clK ≠ [] ∧ (valL hs clK).length ≤ 9 ∧ (valL hs clK).all dig = true) := fun h => h ⟨h5, h6⟩
    rw [if_pos h6, if_neg k4]
  · have k4 : ¬ (cntL hs clK = 1 ∧ valL hs clK ≠ [] ∧ (valL hs clK).length ≤ 9 ∧ (valL hs clK).all dig = true) := fun h => h6 h.2
    rw [if_neg h6, if_pos k4]
end Go.Proofs.YtidhemjnchonaaaGreatDoor
