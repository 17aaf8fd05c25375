/- Plain: a cart's lines, and the lines of a cart that may be are parsed as they were. No program. -/
import Derived.Test.YtpdedfpacklnoaaGreatDoorTzML
namespace Go.Proofs.YtpdedfpacklnoaaGreatDoor
open Go.Ct Go.Wr Go.Fl

/-! A cart's lines. -/
def rankN (p : Nat) : Nat := if p = 9223372036854775808 then 0 else p + 1
def lnE (e : En) : Ln := ⟨e.it, e.q, e.p⟩
/-- Lines, and one entry more. -/
def readS (o : List Ln) (e : En) : List Ln := match o.getLast? with
 | none => o ++ [lnE e]
 | some x => if x.it ≠ e.it then o ++ [lnE e] else if x.q < e.q ∨ (e.q = x.q ∧ rankN x.p < rankN e.p) then o.dropLast ++ [lnE e] else o
def readL (l : List En) : List Ln := l.foldl readS []
theorem readS_all {P : Ln → Prop} {o : List Ln} {e : En} (h : ∀ x ∈ o, P x) (he : P (lnE e)) : ∀ x ∈ readS o e, P x := by
 unfold readS
 have h1 : ∀ x ∈ o ++ [lnE e], P x := fun x hx => by
  rcases List.mem_append.1 hx with hx | hx
  ·exact h x hx
  ·rw [List.mem_singleton.1 hx]; exact he
 have h2 : ∀ x ∈ o.dropLast ++ [lnE e], P x := fun x hx => by
  rcases List.mem_append.1 hx with hx | hx
  ·exact h x (List.dropLast_subset _ hx)
  ·rw [List.mem_singleton.1 hx]; exact he
 cases o.getLast? with
 | none => exact h1
 | some x =>
  dsimp only
  split
  ·exact h1
  ·split
   ·exact h2
   ·exact h
theorem fold_all {P : Ln → Prop} : ∀ (l : List En) (o : List Ln), (∀ x ∈ o, P x) → (∀ e ∈ l, P (lnE e)) → ∀ x ∈ l.foldl readS o, P x
 | [], _, h, _ => h
 | e :: r, o, h, hl => fold_all r (readS o e) (readS_all h (hl e (List.mem_cons_self ..))) (fun x hx => hl x (List.mem_cons_of_mem _ hx))
theorem read_all {P : Ln → Prop} (l : List En) (h : ∀ e ∈ l, P (lnE e)) : ∀ x ∈ readL l, P x := fold_all l [] (fun x hx => by cases hx) h
theorem readS_len (o : List Ln) (e : En) : (readS o e).length ≤ o.length + 1 := by
 unfold readS
 cases o.getLast? with
 | none => simp
 | some x =>
  dsimp only
  split
  ·simp
  ·split
   ·simp
   ·omega
theorem fold_len : ∀ (l : List En) (o : List Ln), (l.foldl readS o).length ≤ o.length + l.length
 | [], o => Nat.le_refl _
 | e :: r, o => by
  have h1 := fold_len r (readS o e)
  have h2 := readS_len o e
  simp only [List.foldl_cons, List.length_cons]; omega
theorem read_len (l : List En) : (readL l).length ≤ l.length := by
 have := fold_len l []
 simpa [readL] using this
theorem read_take {l : List En} {k : Nat} (h : k < l.length) : readL (l.take (k + 1)) = readS (readL (l.take k)) l[k] := by
 unfold readL; rw [List.take_succ_eq_append_getElem h, List.foldl_append]; rfl

/-! The entries of a cart that may be. -/
def okEn (e : En) : Prop := isName e.it = true ∧ 1 ≤ e.q ∧ e.q ≤ 1000000
theorem ents_name {x : Cx} : ∀ (l pre : List En), entsE x pre l = 0 → ∀ e ∈ l, okEn e
 | [], _, _, e, he => by cases he
 | a :: r, pre, h, e, he => by
  unfold entsE at h
  by_cases h0 : entE x pre a ≠ 0
  ·rw [if_pos h0] at h; exact absurd h h0
  ·rw [if_neg h0] at h
   rcases List.mem_cons.1 he with rfl | he
   ·have h1 : entE x pre e = 0 := Decidable.not_not.1 h0
    unfold entE at h1
    split at h1
    ·cases h1
    ·split at h1
     ·cases h1
     ·rename_i h2 h3
      exact ⟨by simpa using h2, by omega, by omega⟩
   ·exact ents_name r (a :: pre) h e he
theorem cart_names {c : Ct} (h : canC c = 0) : ∀ e ∈ c.es, okEn e := ents_name c.es [] (can_iff h).2.2.1

/-! Names and keys. -/
theorem keyByte_nat (c : UInt8) : I.keyByte c.toNat = nameB c := by
 rw [Bool.eq_iff_iff]; unfold I.keyByte nameB
 simp only [Bool.or_eq_true, Bool.and_eq_true, decide_eq_true_eq, beq_iff_eq]
 omega
theorem key_name (s : List UInt8) : keyL s = isName s := by
 unfold keyL I.isKey isName nats
 rw [List.all_map, show (I.keyByte ∘ UInt8.toNat) = nameB from funext keyByte_nat, List.length_map]
 cases s with
 | nil => rfl
 | cons a r =>
  simp only [List.length_cons, List.isEmpty_cons, Bool.not_false, Bool.true_and]
  rw [show decide (1 ≤ r.length + 1) = true from by simp, Bool.and_true, Bool.and_comm]
/-! Lines are parsed as they were. -/
end Go.Proofs.YtpdedfpacklnoaaGreatDoor
