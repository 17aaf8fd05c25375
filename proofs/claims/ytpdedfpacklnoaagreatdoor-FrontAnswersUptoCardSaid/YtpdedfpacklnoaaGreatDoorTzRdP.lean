/- Plain: a cart's token, how long it is, and that it is read as the cart; what is answered to what was told, and that it can be written. No program. Plain: what is answered is short enough to be written. No program. Plain: a cart's lines, one stretch of like items after another. No program. Plain: a request with a token that is read, beside the same without it. No program. -/
import Derived.Test.YtpdedfpacklnoaaGreatDoorTzMA
import Derived.Test.YtpdedfpacklnoaaGreatDoorTzFbP
import Derived.Test.YtpdedfpacklnoaaGreatDoorTzSam
import Derived.Test.YtpdedfpacklnoaaGreatDoorTzLnL
namespace Go.Proofs.YtpdedfpacklnoaaGreatDoor
open Go.Ct Go.Wr

theorem encA_lt : ∀ (n : Nat), ∀ x ∈ enc n, x < 256 := by
 intro n
 induction n using Nat.strongRecOn with
 | ind n ih =>
  intro x hx
  by_cases hn : n < 128
  ·rw [enc_small hn] at hx; simp at hx; omega
  ·rw [enc_big hn] at hx
   rcases List.mem_cons.1 hx with rfl | h
   ·omega
   ·exact ih (n / 128) (by omega) x h
theorem dotB_len {d : Dt} (h : mayD d = true) : (dotB d).length ≤ 27 := by
 have h := may_iff.1 h
 have h1 := enc_len9 (n := d.n.toNat) (by omega)
 have h2 := enc_len9 (n := d.l.toNat) (by omega)
 have h3 := enc_len9 (n := d.c.toNat) (by omega)
 simp only [dotB, List.length_append]; omega
theorem dotsB_len : ∀ (l : List Dt), (∀ d ∈ l, mayD d = true) → (dotsB l).length ≤ 27 * l.length
 | [], _ => by simp [dotsB]
 | d :: r, h => by
  have h1 := dotB_len (h d (by simp))
  have h2 := dotsB_len r (fun x hx => h x (by simp [hx]))
  simp only [dotsB, List.length_append, List.length_cons]; omega
theorem entB_len {e : En} (h : okE e) : (entB e).length ≤ 90 := by
 obtain ⟨h1, h2, h3, h4⟩ := h
 have h2 := may_iff.1 h2
 have k0 := enc_len9 (n := e.it.length) (by omega)
 have k1 := enc_len9 (n := e.d.n.toNat) (by omega)
 have k2 := enc_len9 (n := e.d.l.toNat) (by omega)
 have k3 := enc_len9 (n := e.d.c.toNat) (by omega)
 have k4 := enc_len9 (n := e.q.toNat) (by omega)
 simp only [entB, nats, le8, List.length_append, List.length_map, List.length_cons, List.length_nil]; omega
theorem entsB_len : ∀ (l : List En), (∀ e ∈ l, okE e) → (entsB l).length ≤ 90 * l.length
 | [], _ => by simp [entsB]
 | e :: r, h => by
  have h1 := entB_len (h e (by simp))
  have h2 := entsB_len r (fun x hx => h x (by simp [hx]))
  simp only [entsB, List.length_append, List.length_cons]; omega
theorem cart_len {c : Ct} (h : canC c = 0) (hp : ∀ e ∈ c.es, e.p < 18446744073709551616) : (cartB c).length ≤ 9400 := by
 obtain ⟨h1, h2, h3, _⟩ := can_iff h
 obtain ⟨x1, x2, x3, x4⟩ := canX_iff.1 h1
 have k1 := entsB_len c.es (ents_ok h1 c.es [] h3 hp)
 have k2 := dotsB_len c.x.ms (ms_may _ _ x3)
 have k3 := dotsB_len c.x.cl (cl_may _ _ _ x4)
 have e1 := enc_len9 (n := c.es.length) (by omega)
 have e2 := enc_len9 (n := c.x.ms.length) (by omega)
 have e3 := enc_len9 (n := c.x.cl.length) (by omega)
 simp only [cartB, ctxB, List.length_append]; omega
theorem dotB_lt (d : Dt) : ∀ x ∈ dotB d, x < 256 := by
 intro x hx
 simp only [dotB, List.mem_append] at hx
 rcases hx with h | h | h <;> exact encA_lt _ x h
theorem dotsB_lt : ∀ (l : List Dt), ∀ x ∈ dotsB l, x < 256
 | [] => by simp [dotsB]
 | d :: r => by
  intro x hx
  simp only [dotsB, List.mem_append] at hx
  rcases hx with h | h
  ·exact dotB_lt d x h
  ·exact dotsB_lt r x h
theorem entB_lt (e : En) : ∀ x ∈ entB e, x < 256 := by
 intro x hx
 simp only [entB, List.mem_append] at hx
 rcases hx with h | h | h | h | h | h | h
 ·exact encA_lt _ x h
 ·exact nats_lt _ x h
 ·exact encA_lt _ x h
 ·exact encA_lt _ x h
 ·exact encA_lt _ x h
 ·exact encA_lt _ x h
 ·simp only [le8, List.mem_cons, List.not_mem_nil, or_false] at h
  omega
theorem entsB_lt : ∀ (l : List En), ∀ x ∈ entsB l, x < 256
 | [] => by simp [entsB]
 | d :: r => by
  intro x hx
  simp only [entsB, List.mem_append] at hx
  rcases hx with h | h
  ·exact entB_lt d x h
  ·exact entsB_lt r x h
theorem cartB_lt (c : Ct) : ∀ x ∈ cartB c, x < 256 := by
 intro x hx
 simp only [cartB, ctxB, List.mem_append] at hx
 rcases hx with h | h | h | h | h | h
 ·exact encA_lt _ x h
 ·exact entsB_lt _ x h
 ·exact encA_lt _ x h
 ·exact dotsB_lt _ x h
 ·exact encA_lt _ x h
 ·exact dotsB_lt _ x h
/-- A cart's token. -/
def tokT (c : Ct) : List UInt8 := (lettersL (frame (cartB c)).1).map UInt8.ofNat
theorem frame_lt {b : List Nat} (h : ∀ x ∈ b, x < 256) : ∀ x ∈ (frame b).1, x < 256 := by
 intro x hx
 unfold frame at hx
 split at hx
 ·cases hx
 ·simp only [List.mem_append] at hx
  rcases hx with (hx | hx) | hx
  ·exact encA_lt _ x hx
  ·exact h x hx
  ·exact le4_lt _ x hx
theorem frame_len {b : List Nat} (h : b.length ≤ 65536) : (frame b).1.length ≤ b.length + 13 := by
 unfold frame
 rw [if_neg (by omega)]
 have := enc_len9 (n := b.length) (by omega)
 simp only [List.length_append, le4, List.length_cons, List.length_nil]
 omega
theorem tok_len {c : Ct} (h : canC c = 0) (hp : ∀ e ∈ c.es, e.p < 18446744073709551616) : (tokT c).length ≤ 18900 := by
 have h1 := cart_len h hp
 have h2 := frame_len (b := cartB c) (by omega)
 have h3 := letters_len (frame (cartB c)).1
 unfold tokT
 rw [List.length_map]
 omega
theorem ltr_vis (k : Nat) (h : k < 64) : 33 ≤ ltr k ∧ ltr k ≤ 126 := by
 unfold ltr
 repeat' split
 all_goals omega
theorem letters_vis : ∀ b : List Nat, (∀ x ∈ b, x < 256) → ∀ x ∈ lettersL b, 33 ≤ x ∧ x ≤ 126
 | [], _ => by simp [lettersL]
 | [a], h => by
  have ha := h a (by simp)
  intro x hx
  simp only [lettersL, List.mem_cons, List.not_mem_nil, or_false] at hx
  rcases hx with rfl | rfl <;> exact ltr_vis _ (by omega)
 | [a, b], h => by
  have ha := h a (by simp)
  have hb := h b (by simp)
  intro x hx
  simp only [lettersL, List.mem_cons, List.not_mem_nil, or_false] at hx
  rcases hx with rfl | rfl | rfl <;> exact ltr_vis _ (by omega)
 | a :: b :: c :: r, h => by
  have ha := h a (by simp)
  have hb := h b (by simp)
  have hc := h c (by simp)
  intro x hx
  simp only [lettersL, List.mem_cons] at hx
  rcases hx with rfl | rfl | rfl | rfl | hx
  ·exact ltr_vis _ (by omega)
  ·exact ltr_vis _ (by omega)
  ·exact ltr_vis _ (by omega)
  ·exact ltr_vis _ (by omega)
  ·exact letters_vis r (fun x hx => h x (by simp [hx])) x hx
theorem tok_vis (c : Ct) : ∀ x ∈ tokT c, H.vis x = true ∧ H.bla x = false := by
 intro x hx
 unfold tokT at hx
 obtain ⟨k, hk, rfl⟩ := List.mem_map.1 hx
 have h := letters_vis _ (frame_lt (cartB_lt c)) k hk
 have e : (UInt8.ofNat k).toNat = k := by simp; omega
 constructor
 ·simp only [H.vis, e, Bool.and_eq_true, decide_eq_true_eq]; omega
 ·unfold H.bla
  simp only [e]
  simp; omega
theorem drop_while {p : UInt8 → Bool} : ∀ {l : List UInt8}, (∀ c ∈ l, p c = false) → l.dropWhile p = l
 | [], _ => rfl
 | c :: r, h => by rw [List.dropWhile_cons, h c (by simp)]; rfl
theorem trim_id {s : List UInt8} (h : ∀ c ∈ s, H.bla c = false) : H.trimL s = s := by
 rw [H.trim_eq, drop_while h]
 unfold H.dropR
 rw [drop_while (fun c hc => h c (by simpa using hc)), List.reverse_reverse]
theorem tok_value {c : Ct} (h : canC c = 0) (hp : ∀ e ∈ c.es, e.p < 18446744073709551616) : H.valueL (tokT c) = true := by
 have h1 := tok_len h hp
 unfold H.valueL
 rw [trim_id (fun x hx => (tok_vis c x hx).2)]
 simp only [Bool.and_eq_true, decide_eq_true_eq, List.all_eq_true]
 exact ⟨⟨by omega, trivial⟩, fun x hx => by unfold H.vab; rw [(tok_vis c x hx).1]; rfl⟩
theorem tok_field {c : Ct} (h : canC c = 0) (hp : ∀ e ∈ c.es, e.p < 18446744073709551616) : H.fieldL (tokenH, tokT c) = true := by
 unfold H.fieldL
 rw [tok_value h hp]
 show (H.tokenL tokenH && (H.smallL tokenH == tokenH) && !(tokenH == H.clK) && true) = true
 decide
/-- The answer of a status alone. -/
def refA (st : Int) : H.Ans := ⟨refS st, [], H.reasonL (refS st) ++ [10]⟩
/-- What is answered to what was told. -/
noncomputable def answerL (kind st : Int) (c : Ct) : H.Ans :=
 if st ≠ 200 then refA st else if canC c ≠ 0 then refA 500 else
 if kind = 1 ∧ c.es.length + c.x.ms.length + c.x.cl.length = 0 then ⟨404, [(tokenH, tokT c)], []⟩ else ⟨200, [(tokenH, tokT c)], linesT (readL c.es)⟩
theorem reason_ref (st : Int) : H.reasonL (refS st) ≠ [] := by
 unfold refS
 by_cases h : H.reasonL st = []
 ·rw [if_pos h]; decide
 ·rw [if_neg h]; exact h
theorem fold_count : ∀ (l : List En) (o : List Ln), (l.foldl readS o).length = o.length + itemsF (o.getLast?.map (·.it)) l
 | [], o => by cases o.getLast?.map (·.it) <;> rfl
 | e :: r, o => by
  rw [List.foldl_cons, fold_count r]
  unfold readS
  cases hl : o.getLast? with
  | none =>
   simp only [List.length_append, List.length_cons, List.length_nil, List.getLast?_append, List.getLast?_singleton, Option.map_some, Option.map_none, Option.some_or]
   show o.length + 1 + itemsF (some e.it) r = o.length + (1 + itemsF (some e.it) r)
   omega
  | some x =>
   have hne : o ≠ [] := by intro e; rw [e] at hl; cases hl
   dsimp only
   by_cases h : x.it ≠ e.it
   ·rw [if_pos h]
    simp only [List.length_append, List.length_cons, List.length_nil, List.getLast?_append, List.getLast?_singleton, Option.map_some, Option.some_or]
    show o.length + 1 + itemsF (some e.it) r = o.length + ((if x.it = e.it then 0 else 1) + itemsF (some e.it) r)
    rw [if_neg h]; omega
   ·rw [if_neg h]
    have h' : x.it = e.it := Decidable.not_not.1 h
    have hpos := List.length_pos_iff.2 hne
    split
    ·simp only [List.length_append, List.length_dropLast, List.length_cons, List.length_nil, List.getLast?_append, List.getLast?_singleton, Option.map_some, Option.some_or]
     show o.length - 1 + 1 + itemsF (some e.it) r = o.length + ((if x.it = e.it then 0 else 1) + itemsF (some e.it) r)
     rw [if_pos h']; omega
    ·rw [hl]
     show o.length + itemsF (some x.it) r = o.length + ((if x.it = e.it then 0 else 1) + itemsF (some e.it) r)
     rw [if_pos h', h']; omega
theorem read_count (l : List En) : (readL l).length = itemsF none l := by
 unfold readL
 rw [fold_count]
 simp
end Go.Proofs.YtpdedfpacklnoaaGreatDoor
namespace Go.Proofs.YtpdedfpacklnoaaGreatDoor
open Go.Ct Go.Wr

theorem ents_priceA {x : Cx} : ∀ (l pre : List En), entsE x pre l = 0 → ∀ e ∈ l, isPrice e.p = true
 | [], _, _, e, he => by cases he
 | a :: r, pre, h, e, he => by
  unfold entsE at h
  by_cases h0 : entE x pre a ≠ 0
  ·rw [if_pos h0] at h; exact absurd h h0
  ·rw [if_neg h0] at h
   rcases List.mem_cons.1 he with rfl | he
   ·have h1 : entE x pre e = 0 := Decidable.not_not.1 h0
    unfold entE at h1
    split at h1
    ·cases h1
    ·split at h1
     ·cases h1
     ·split at h1
      ·cases h1
      ·rename_i _ _ h3
       simpa using h3
   ·exact ents_priceA r (a :: pre) h e he
theorem cart_pricesA {c : Ct} (h : canC c = 0) : ∀ e ∈ c.es, e.p < 18446744073709551615 := fun e he => by
 have := ents_priceA c.es [] (can_iff h).2.2.1 e he
 unfold isPrice at this
 simp only [Bool.or_eq_true, decide_eq_true_eq] at this
 omega
theorem read_fine {c : Ct} (h : canC c = 0) : ∀ x ∈ readL c.es, (isName x.it = true ∧ 1 ≤ x.q ∧ x.q ≤ 1000000) ∧ x.p < 18446744073709551615 :=
 read_all (P := fun x => (isName x.it = true ∧ 1 ≤ x.q ∧ x.q ≤ 1000000) ∧ x.p < 18446744073709551615) c.es (fun e he => ⟨cart_names h e he, cart_pricesA h e he⟩)
theorem lines_len2 : ∀ (l : List Ln), (∀ x ∈ l, isName x.it = true ∧ 1 ≤ x.q ∧ x.q ≤ 1000000) → (linesT l).length ≤ l.length * 82
 | [], _ => Nat.zero_le _
 | x :: r, h => by
  have h1 := lines_len2 r (fun y hy => h y (List.mem_cons_of_mem _ hy))
  obtain ⟨h2, h3, h4⟩ := h x (List.mem_cons_self ..)
  have h5 := name_len h2
  obtain ⟨it, q, p⟩ := x
  dsimp only at h3 h4 h5
  obtain ⟨m, rfl⟩ := Int.eq_ofNat_of_zero_le (by omega : 0 ≤ q)
  have h6 := lineT_len it m p (by omega)
  show (lineT ⟨it, (m : Int), p⟩ ++ linesT r).length ≤ (r.length + 1) * 82
  rw [List.length_append]
  omega
theorem answer_body {c : Ct} (h : canC c = 0) : (linesT (readL c.es)).length ≤ 2624 := by
 have h1 := lines_len2 (readL c.es) (fun x hx => (read_fine h x hx).1)
 have h2 := read_count c.es
 have h3 := (can_iff h).2.2.2
 omega
theorem read_fineLn {c : Ct} (h : canC c = 0) : ∀ x ∈ readL c.es, fineLn x := fun x hx => by
 have h1 := read_fine h x hx
 unfold fineLn
 omega
theorem refA_wr (st : Int) : H.reasonL (refA st).st ≠ [] ∧ (refA st).hs.all H.fieldL = true ∧ (refA st).hs.length < 32 ∧ (refA st).b.length ≤ 4096 ∧ (H.headA (refA st)).length ≤ 65540 := by
 have h0 := reason_ref st
 have hm := H.reason_in h0
 have h1 : (H.reasonL (refS st)).length ≤ 31 := H.reason_le _
 obtain ⟨a, b, c, h2, -⟩ := H.itoa_in _ hm
 have h3 := itoa_len (H.reasonL (refS st) ++ [10]).length (by simp; omega)
 refine ⟨h0, rfl, by show ([] : List H.Hdr).length < 32; decide, by show (H.reasonL (refS st) ++ [10]).length ≤ 4096; simp; omega, ?_⟩
 rw [H.head_len, H.line_len]
 show (Lib.itoa (refS st)).length + (H.reasonL (refS st)).length + 10 + (H.textL []).length + (Lib.itoa ((H.reasonL (refS st) ++ [10]).length : Int)).length + 22 ≤ 65540
 rw [h2]
 simp only [H.textL, List.length_nil, List.length_cons]
 omega
theorem tokA_wr {c : Ct} (h : canC c = 0) (hp : ∀ e ∈ c.es, e.p < 18446744073709551616) (st : Int) (hst : st = 200 ∨ st = 404) (b : List UInt8) (hb : b.length ≤ 4096) :
  H.reasonL st ≠ [] ∧ [(tokenH, tokT c)].all H.fieldL = true ∧ [(tokenH, tokT c)].length < 32 ∧ b.length ≤ 4096 ∧ (H.headA ⟨st, [(tokenH, tokT c)], b⟩).length ≤ 65540 := by
 have h1 := tok_len h hp
 have h3 := itoa_len b.length (by omega)
 have hs : H.reasonL st ≠ [] ∧ (H.lineA st).length ≤ 100 := by
  rcases hst with rfl | rfl <;> exact ⟨by decide, by rw [H.line_len]; decide +kernel⟩
 refine ⟨hs.1, by simp [tok_field h hp], by simp, hb, ?_⟩
 rw [H.head_len]
 show (H.lineA st).length + (H.textL [(tokenH, tokT c)]).length + (Lib.itoa (b.length : Int)).length + 22 ≤ 65540
 rw [H.text_one]
 have : (H.lineT (tokenH, tokT c)).length = 12 + 2 + (tokT c).length + 2 := by simp [H.lineT, tokenH]; omega
 omega
theorem answer_wr (kind st : Int) (c : Ct) (hp : ∀ e ∈ c.es, e.p < 18446744073709551616) : H.reasonL (answerL kind st c).st ≠ [] ∧ (answerL kind st c).hs.all H.fieldL = true ∧ (answerL kind st c).hs.length < 32 ∧ (answerL kind st c).b.length ≤ 4096 ∧ (H.headA (answerL kind st c)).length ≤ 65540 := by
 unfold answerL
 by_cases h0 : st ≠ 200
 ·rw [if_pos h0]; exact refA_wr st
 rw [if_neg h0]
 by_cases h1 : canC c ≠ 0
 ·rw [if_pos h1]; exact refA_wr 500
 rw [if_neg h1]
 have h1 : canC c = 0 := Decidable.not_not.1 h1
 split
 ·exact tokA_wr h1 hp 404 (.inr rfl) [] (by simp)
 ·exact tokA_wr h1 hp 200 (.inl rfl) (linesT (readL c.es)) (by have := answer_body h1; omega)
end Go.Proofs.YtpdedfpacklnoaaGreatDoor
namespace Go.Proofs.YtpdedfpacklnoaaGreatDoor
open Go.Ct

def stepLn (x : Ln) (e : En) : Ln := if x.q < e.q ∨ (e.q = x.q ∧ rankN x.p < rankN e.p) then ⟨x.it, e.q, e.p⟩ else x
theorem step_it (x : Ln) (e : En) : (stepLn x e).it = x.it := by
 unfold stepLn; split <;> rfl
theorem readS_step {o : List Ln} {x : Ln} {e : En} (h : e.it = x.it) : readS (o ++ [x]) e = o ++ [stepLn x e] := by
 unfold readS
 simp only [List.getLast?_append, List.getLast?_singleton, Option.some_or]
 rw [if_neg (by simp [h])]
 unfold stepLn
 split
 ·rw [List.dropLast_concat]; unfold lnE; rw [h]
 ·rfl
theorem fold_step : ∀ (r : List En) (o : List Ln) (x : Ln), (∀ e ∈ r, e.it = x.it) → r.foldl readS (o ++ [x]) = o ++ [r.foldl stepLn x]
 | [], _, _, _ => rfl
 | e :: r, o, x, h => by
  rw [List.foldl_cons, readS_step (h e (by simp)), List.foldl_cons]
  exact fold_step r o (stepLn x e) (fun y hy => by rw [step_it]; exact h y (by simp [hy]))
theorem readS_newL {o : List Ln} {e : En} (h : ∀ x, o.getLast? = some x → x.it ≠ e.it) : readS o e = o ++ [lnE e] := by
 unfold readS
 cases hl : o.getLast? with
 | none => rfl
 | some x => dsimp only; rw [if_pos (h x hl)]
theorem last_it : ∀ (l : List En) (o : List Ln) (p : Option (List UInt8)), o.getLast?.map (·.it) = p → (l.foldl readS o).getLast?.map (·.it) = match l.getLast? with
  | none => p
  | some e => some e.it
 | [], o, p, h => by simpa using h
 | e :: r, o, p, h => by
  rw [List.foldl_cons]
  have key : (readS o e).getLast?.map (·.it) = some e.it := by
   unfold readS
   cases hl : o.getLast? with
   | none => simp [lnE]
   | some x =>
    dsimp only
    split
    ·simp [lnE]
    ·rename_i hne
     split
     ·simp [lnE]
     ·rw [hl]; simpa using hne
  rw [last_it r _ _ key]
  rw [List.getLast?_cons]
  cases r.getLast? <;> rfl
/-- A stretch of one item behind others. -/
theorem read_run {l r : List En} {e : En} (hl : ∀ x, l.getLast? = some x → x.it ≠ e.it) (hr : ∀ y ∈ r, y.it = e.it) : readL (l ++ e :: r) = readL l ++ [r.foldl stepLn (lnE e)] := by
 unfold readL
 rw [List.foldl_append, List.foldl_cons, readS_newL]
 ·exact fold_step r _ _ hr
 ·intro x hx
  have h := last_it l [] none rfl
  rw [hx] at h
  cases hg : l.getLast? with
  | none => rw [hg] at h; cases h
  | some y =>
   rw [hg] at h
   injection h with h
   rw [show x.it = y.it from h]
   exact hl y hg
theorem foldl_snoc (r : List En) (e : En) (x : Ln) : (r ++ [e]).foldl stepLn x = stepLn (r.foldl stepLn x) e := by rw [List.foldl_append]; rfl
end Go.Proofs.YtpdedfpacklnoaaGreatDoor

