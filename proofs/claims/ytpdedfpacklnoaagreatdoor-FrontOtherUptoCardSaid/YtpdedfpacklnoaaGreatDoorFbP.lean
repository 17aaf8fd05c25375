/- Plain: a cart's lines, and the lines of a cart that may be are parsed as they were. No program. -/
import Derived.Test.YtpdedfpacklnoaaGreatDoorML
namespace Go.Proofs.YtpdedfpacklnoaaGreatDoor
open Go.Ct Go.Wr Go.Fl

/-! A cart's lines. -/
def rankN (p : Nat) : Nat := if p = 9223372036854775808 then 0 else p + 1
def lnE (e : En) : Ln := ⟨e.it, e.q, e.p⟩
/-- Lines, and one entry more. -/
def readS (o : List Ln) (e : En) : List Ln := match o.getLast? with
  | none => o ++ [lnE e]
  | some x => if x.it ≠ e.it then o ++ [lnE e] else if x.q < e.q ∨ (e.q = x.q ∧ rankN x.p < rankN e.p) then o.dropLast ++ [lnE e] else o
def readL (l : List En) : List Ln := l.foldl readS []
theorem readS_all {P : Ln → Prop} {o : List Ln} {e : En} (h : ∀ x ∈ o, P x) (he : P (lnE e)) : ∀ x ∈ readS o e, P x := by
  unfold readS
  have h1 : ∀ x ∈ o ++ [lnE e], P x := fun x hx => by
    rcases List.mem_append.1 hx with hx | hx
    · exact h x hx
    · rw [List.mem_singleton.1 hx]; exact he
  have h2 : ∀ x ∈ o.dropLast ++ [lnE e], P x := fun x hx => by
    rcases List.mem_append.1 hx with hx | hx
    · exact h x (List.dropLast_subset _ hx)
    · rw [List.mem_singleton.1 hx]; exact he
  cases o.getLast? with
  | none => exact h1
  | some x =>
    dsimp only
    split
    · exact h1
    · split
      · exact h2
      · exact h
theorem fold_all {P : Ln → Prop} : ∀ (l : List En) (o : List Ln), (∀ x ∈ o, P x) → (∀ e ∈ l, P (lnE e)) → ∀ x ∈ l.foldl readS o, P x
  | [], _, h, _ => h
  | e :: r, o, h, hl => fold_all r (readS o e) (readS_all h (hl e (List.mem_cons_self ..))) (fun x hx => hl x (List.mem_cons_of_mem _ hx))
theorem read_all {P : Ln → Prop} (l : List En) (h : ∀ e ∈ l, P (lnE e)) : ∀ x ∈ readL l, P x := fold_all l [] (fun x hx => by cases hx) h
theorem readS_len (o : List Ln) (e : En) : (readS o e).length ≤ o.length + 1 := by
  unfold readS
  cases o.getLast? with
  | none => simp
  | some x =>
    dsimp only
    split
    · simp
    · split
      · simp
      · omega
theorem fold_len : ∀ (l : List En) (o : List Ln), (l.foldl readS o).length ≤ o.length + l.length
  | [], o => Nat.le_refl _
  | e :: r, o => by
    have h1 := fold_len r (readS o e)
    have h2 := readS_len o e
    simp only [List.foldl_cons, List.length_cons]; omega
theorem read_len (l : List En) : (readL l).length ≤ l.length := by
  have := fold_len l []
  simpa [readL] using this
theorem read_take {l : List En} {k : Nat} (h : k < l.length) : readL (l.take (k + 1)) = readS (readL (l.take k)) l[k] := by
  unfold readL; rw [List.take_succ_eq_append_getElem h, List.foldl_append]; rfl

/-! The entries of a cart that may be. -/
def okEn (e : En) : Prop := isName e.it = true ∧ 1 ≤ e.q ∧ e.q ≤ 1000000
theorem ents_name {x : Cx} : ∀ (l pre : List En), entsE x pre l = 0 → ∀ e ∈ l, okEn e
  | [], _, _, e, he => by cases he
  | a :: r, pre, h, e, he => by
    unfold entsE at h
    by_cases h0 : entE x pre a ≠ 0
    · rw [if_pos h0] at h; exact absurd h h0
    · rw [if_neg h0] at h
      rcases List.mem_cons.1 he with rfl | he
      · have h1 : entE x pre e = 0 := Decidable.not_not.1 h0
        unfold entE at h1
        split at h1
        · cases h1
        · split at h1
          · cases h1
          · rename_i h2 h3
            exact ⟨by simpa using h2, by omega, by omega⟩
      · exact ents_name r (a :: pre) h e he
theorem cart_names {c : Ct} (h : canC c = 0) : ∀ e ∈ c.es, okEn e := ents_name c.es [] (can_iff h).2.2.1

/-! Names and keys. -/
theorem keyByte_nat (c : UInt8) : I.keyByte c.toNat = nameB c := by
  rw [Bool.eq_iff_iff]; unfold I.keyByte nameB
  simp only [Bool.or_eq_true, Bool.and_eq_true, decide_eq_true_eq, beq_iff_eq]
  omega
theorem key_name (s : List UInt8) : keyL s = isName s := by
  unfold keyL I.isKey isName nats
  rw [List.all_map, show (I.keyByte ∘ UInt8.toNat) = nameB from funext keyByte_nat, List.length_map]
  cases s with
  | nil => rfl
  | cons a r =>
    simp only [List.length_cons, List.isEmpty_cons, Bool.not_false, Bool.true_and]
    rw [show decide (1 ≤ r.length + 1) = true from by simp, Bool.and_true, Bool.and_comm]
theorem name_not {s : List UInt8} {c : UInt8} (h : isName s = true) (hc : nameB c = false) : c ∉ s := fun hm => by
  unfold isName at h
  rw [Bool.and_eq_true, List.all_eq_true] at h
  rw [h.2 c hm] at hc; cases hc

/-! Lines are parsed as they were. -/
theorem prt_no10 (b : Nat) : (10 : UInt8) ∉ prt b := by
  have hdd : ∀ n, (10 : UInt8) ∉ Lib.decDigits n := fun n h => by have := (dd_dig n 10 h).1; exact absurd this (by decide)
  have hs : (10 : UInt8) ∉ sgn b := by unfold sgn; split <;> simp
  have hpad : ∀ n, (10 : UInt8) ∉ pad (Lib.decDigits n) := fun n h => by
    unfold pad at h
    rcases List.mem_append.1 h with h | h
    · have := List.eq_of_mem_replicate h; exact absurd this (by decide)
    · exact hdd n h
  have hdots : ∀ n, (10 : UInt8) ∉ dots (pad (Lib.decDigits n)) := fun n h => by
    unfold dots at h
    rcases List.mem_append.1 h with h | h
    · exact hpad n (List.mem_of_mem_take h)
    · rcases List.mem_cons.1 h with h | h
      · exact absurd h (by decide)
      · exact hpad n (List.mem_of_mem_drop h)
  unfold prt
  split
  · decide
  · split
    · rw [List.mem_append]; rintro (h | h)
      · exact hs h
      · exact absurd h (by decide)
    · split
      · rw [List.mem_append]; rintro (h | h)
        · exact hs h
        · exact hdots _ h
      · decide
theorem itoa_no {q : Int} (h1 : 1 ≤ q) {c : UInt8} (hc : c.toNat < 48) : c ∉ Lib.itoa q := by
  obtain ⟨k, rfl⟩ := Int.eq_ofNat_of_zero_le (by omega : 0 ≤ q)
  rw [itoa_nat]
  intro h
  have := (dd_dig k c h).1
  omega
theorem line_back {x : Ln} (h : okLn x) : lineL (x.it ++ (32 :: (Lib.itoa x.q ++ (32 :: prt x.p)))) = some x := by
  obtain ⟨h1, h2, h3, h4⟩ := h
  have hn : isName x.it = true := (key_name _).symm.trans h1
  have e1 : cut1 32 (x.it ++ (32 :: (Lib.itoa x.q ++ (32 :: prt x.p)))) = (x.it, Lib.itoa x.q ++ (32 :: prt x.p), true) := cut1_at 32 _ _ (name_not hn (by decide))
  have e2 : cut1 32 (Lib.itoa x.q ++ (32 :: prt x.p)) = (Lib.itoa x.q, prt x.p, true) := cut1_at 32 _ _ (itoa_no h2 (by decide))
  have e3 : partsL 32 (x.it ++ (32 :: (Lib.itoa x.q ++ (32 :: prt x.p)))) = [x.it, Lib.itoa x.q, prt x.p] := by
    rw [parts_cut, e1]; dsimp only; rw [if_pos rfl, parts_cut, e2]; dsimp only; rw [if_pos rfl, parts_one (prt_no32 _)]
  obtain ⟨it, q, p⟩ := x
  dsimp only at *
  obtain ⟨k, rfl⟩ := Int.eq_ofNat_of_zero_le (by omega : 0 ≤ q)
  have e4 : piecesL (Lib.itoa (k : Int)) = some k := pieces_iff.2 ⟨by omega, by omega, (itoa_nat k).symm⟩
  unfold lineL
  rw [e3]
  dsimp only
  rw [e4, h4]
  dsimp only
  rw [if_pos ⟨h1, rfl⟩]
theorem parse_back : ∀ l : List Ln, (∀ x ∈ l, okLn x) → parseT (linesT l) = some l
  | [], _ => parseT_nil
  | x :: r, h => by
    have hx := h x (List.mem_cons_self ..)
    have hn : isName x.it = true := (key_name _).symm.trans hx.1
    have e0 : linesT (x :: r) = (x.it ++ (32 :: (Lib.itoa x.q ++ (32 :: prt x.p)))) ++ 10 :: linesT r := by
      show lineT x ++ linesT r = _
      unfold lineT
      simp only [List.append_assoc, List.cons_append, List.nil_append]
    have hno : (10 : UInt8) ∉ x.it ++ (32 :: (Lib.itoa x.q ++ (32 :: prt x.p))) := by
      intro hm
      rcases List.mem_append.1 hm with hm | hm
      · exact name_not hn (by decide) hm
      · rcases List.mem_cons.1 hm with hm | hm
        · exact absurd hm (by decide)
        · rcases List.mem_append.1 hm with hm | hm
          · exact itoa_no hx.2.1 (by decide) hm
          · rcases List.mem_cons.1 hm with hm | hm
            · exact absurd hm (by decide)
            · exact prt_no10 _ hm
    have e1 := cut1_at 10 _ (linesT r) hno
    rw [e0, parseT_hit (by rw [e1]), e1]
    dsimp only
    rw [line_back hx]
    dsimp only
    rw [parse_back r (fun y hy => h y (List.mem_cons_of_mem _ hy))]
    rfl
/-- Lines of a cart that may be: as they can be printed and read. -/
theorem read_ok {c : Ct} (h : canC c = 0) (hp : ∀ x ∈ readL c.es, priceT (prt x.p) = some x.p) : ∀ x ∈ readL c.es, okLn x := by
  have h1 : ∀ x ∈ readL c.es, isName x.it = true ∧ 1 ≤ x.q ∧ x.q ≤ 1000000 := read_all (P := fun x => isName x.it = true ∧ 1 ≤ x.q ∧ x.q ≤ 1000000) c.es (cart_names h)
  exact fun x hx => ⟨(key_name _).trans (h1 x hx).1, (h1 x hx).2.1, (h1 x hx).2.2, hp x hx⟩
theorem back_plain {c : Ct} (h : canC c = 0) (hp : ∀ x ∈ readL c.es, priceT (prt x.p) = some x.p) : parseT (linesT (readL c.es)) = some (readL c.es) := parse_back _ (read_ok h hp)
end Go.Proofs.YtpdedfpacklnoaaGreatDoor
