/- Plain: the lines of an answer that was written, found again as the document finds them. No program. Plain: where an answer's head ends, its first line, its lines. No program. -/
import Derived.Test.YtpdedfpacklnoaaGreatDoorTqRdP
namespace Go.Proofs.YtpdedfpacklnoaaGreatDoor.H
open Go.Ct
set_option maxRecDepth 100000

theorem trim_blank {v : List UInt8} (h : trimL v = v) : trimL (32 :: v) = v := by
 rw [trim_eq, show (32 :: v).dropWhile bla = v.dropWhile bla from rfl, ← trim_eq, h]
theorem value_trim {v : List UInt8} (h : valueL v = true) : trimL v = v := by
 unfold valueL at h
 simp only [Bool.and_eq_true, decide_eq_true_eq] at h
 first | exact h.1.2 | simpa using h.1.2
theorem header_cut {n v : List UInt8} (h1 : tokenL n = true) (h2 : smallL n = n) (h3 : valueL v = true) : headerL (n ++ 58 :: 32 :: v) = some (n, v) := by
 have hc : cutL (n ++ 58 :: 32 :: v) [58] = (n, 32 :: v, true) := by
  rw [cutL_cut1]
  exact cut1_at 58 n (32 :: v) (fun hm => (tok_facts 58 (token_all h1 58 hm)).1 rfl)
 unfold headerL
 rw [hc]
 dsimp only
 rw [trim_blank (value_trim h3), h1, h3, h2]
 rfl
theorem header_field {h : Hdr} (hf : fieldL h = true) : headerL (lineH h) = some h := by
 obtain ⟨h1, h2, _, h4⟩ := field_parts hf
 exact header_cut h1 h2 h4
theorem dig_vis (c : UInt8) : dig c = true → bla c = false ∧ vab c = true := byte_all (fun c => dig c = true → bla c = false ∧ vab c = true) (by decide +kernel) c
theorem itoa_dig (n : Nat) : ∀ c ∈ Lib.itoa (n : Int), dig c = true := by
 rw [Lib.itoa_nonneg]
 exact List.all_eq_true.1 (digits_ok n).1
theorem itoa_len9 {n : Nat} (h : n ≤ 4096) : (Lib.itoa (n : Int)).length ≤ 9 := by
 rw [Lib.itoa_nonneg]
 exact digits_len 8 n (by omega)
theorem itoa_value {n : Nat} (h : n ≤ 4096) : valueL (Lib.itoa (n : Int)) = true := by
 have h1 := itoa_len9 h
 unfold valueL
 rw [trim_id (fun x hx => (dig_vis x (itoa_dig n x hx)).1)]
 simp only [Bool.and_eq_true, decide_eq_true_eq, List.all_eq_true]
 exact ⟨⟨by omega, trivial⟩, fun x hx => (dig_vis x (itoa_dig n x hx)).2⟩
theorem header_cl {n : Nat} (h : n ≤ 4096) : headerL (clLine n) = some (clK, Lib.itoa (n : Int)) := header_cut (n := clK) (by decide) (by decide) (itoa_value h)
theorem digits_itoa {n : Nat} (h : n ≤ 4096) : digitsL (Lib.itoa (n : Int)) = some n := by
 have h1 := itoa_len9 h
 obtain ⟨k1, k2, k3⟩ := digits_ok n
 rw [Lib.itoa_nonneg] at h1 ⊢
 unfold digitsL
 rw [if_pos ⟨k2, h1, k1⟩]
 unfold numL
 rw [k3]; rfl
theorem ix2_at : ∀ {x r : List UInt8}, crL x = false → Lib.index (x ++ 13 :: 10 :: r) [13, 10] = (x.length : Int)
 | [], r, _ => by
  show Lib.index (13 :: 10 :: r) [13, 10] = _
  rw [index_cons, if_pos (by simp [List.isPrefixOf])]
  rfl
 | c :: t, r, h => by
  obtain ⟨h1, _, h3⟩ := crL_cons h
  have ih := ix2_at (x := t) (r := r) h3
  show Lib.index (c :: (t ++ 13 :: 10 :: r)) [13, 10] = _
  rw [index_cons, if_neg (by simp [List.isPrefixOf]; intro e; exact absurd e.symm h1), if_neg (by rw [ih, beq_iff_eq]; omega), ih]
  simp
theorem ix2_no : ∀ {x : List UInt8}, crL x = false → Lib.index x [13, 10] = -1
 | [], _ => by decide
 | c :: t, h => by
  obtain ⟨h1, _, h3⟩ := crL_cons h
  have ih := ix2_no (x := t) h3
  rw [index_cons, if_neg (by simp [List.isPrefixOf]; intro e; exact absurd e.symm h1), if_pos (by rw [ih]; rfl)]
theorem rest_step {rest : List UInt8} {ls : List (List UInt8)} {k p : Nat} (hk : k < ls.length) (hL : ∀ l ∈ ls, Line l) (hd : rest.drop p = joinL (ls.drop k)) (hp : p ≤ rest.length) :
  p + ls[k].length ≤ rest.length ∧ 0 < ls[k].length ∧ (rest.drop p).take ls[k].length = ls[k] ∧
  ((k + 1 = ls.length ∧ findFrom rest [13, 10] p = -1 ∧ p + ls[k].length = rest.length) ∨
   (k + 1 < ls.length ∧ findFrom rest [13, 10] p = ((p + ls[k].length : Nat) : Int) ∧ p + ls[k].length + 2 ≤ rest.length ∧ rest.drop (p + ls[k].length + 2) = joinL (ls.drop (k + 1)))) := by
 have hx := hL ls[k] (List.getElem_mem hk)
 have hpos : 0 < ls[k].length := List.length_pos_iff.2 hx.1
 have hlen : (rest.drop p).length = rest.length - p := List.length_drop
 rw [List.drop_eq_getElem_cons hk] at hd
 rcases Nat.eq_or_lt_of_le (show k + 1 ≤ ls.length by omega) with e | e
 ·rw [List.drop_eq_nil_of_le (by omega : ls.length ≤ k + 1)] at hd
  have hd : rest.drop p = ls[k] := hd
  rw [hd] at hlen
  refine ⟨by omega, hpos, by rw [hd]; exact List.take_length, .inl ⟨e, ?_, by omega⟩⟩
  unfold findFrom
  rw [hd, ix2_no hx.2, if_pos rfl]
 ·have hne : ls.drop (k + 1) ≠ [] := by
   intro h0
   have := congrArg List.length h0
   rw [List.length_drop, List.length_nil] at this
   omega
  rw [join_cons _ hne] at hd
  rw [hd] at hlen
  simp only [List.length_append, List.length_cons] at hlen
  refine ⟨by omega, hpos, by rw [hd]; exact List.take_left, .inr ⟨e, ?_, by omega, ?_⟩⟩
  ·unfold findFrom
   rw [hd, ix2_at hx.2, if_neg (by omega)]
   omega
  ·rw [Nat.add_assoc, ← List.drop_drop, hd, ← List.drop_drop, List.drop_left]
   rfl
end Go.Proofs.YtpdedfpacklnoaaGreatDoor.H
namespace Go.Proofs.YtpdedfpacklnoaaGreatDoor.H
open Go.Ct
set_option maxRecDepth 100000

theorem line_inj {n m : Int} (hn : reasonL n ≠ []) (hm : reasonL m ≠ []) (h : lineA n = lineA m) : n = m := by
 have h1 := (status_line n (reason_in hn)).2
 rw [h, (status_line m (reason_in hm)).2] at h1
 exact h1.symm
theorem st_range {n : Int} (h : reasonL n ≠ []) : ∃ k : Nat, n = (k : Int) ∧ 200 ≤ k ∧ k < 600 := by
 have hm := reason_in h
 unfold statuses at hm
 simp only [List.mem_cons, List.not_mem_nil, or_false] at hm
 exact ⟨n.toNat, by omega, by omega, by omega⟩
/-- An answer's lines behind the first. -/
def lsA (a : Ans) : List (List UInt8) := a.hs.map lineH ++ [clLine a.b.length]
theorem lsA_lines {a : Ans} (h : a.hs.all fieldL = true) : ∀ l ∈ lsA a, Line l := by
 intro l hl
 unfold lsA at hl
 rcases List.mem_append.1 hl with hl | hl
 ·obtain ⟨x, hx, rfl⟩ := List.mem_map.1 hl
  exact (line_field (List.all_eq_true.1 h x hx)).1
 ·rw [List.mem_singleton.1 hl]; exact (line_cl _).1
theorem lsA_ne (a : Ans) : lsA a ≠ [] := by unfold lsA; simp
/-- The document's places in an answer's text. -/
theorem doc_places {a : Ans} (h1 : reasonL a.st ≠ []) (h2 : a.hs.all fieldL = true) : ∃ (J R : List UInt8), headA a = J ++ sep4 ∧ J = lineA a.st ++ 13 :: 10 :: R ∧ R = joinL (lsA a) ∧
  findFrom (headA a ++ a.b) sep4 0 = (J.length : Int) ∧ findFrom (headA a ++ a.b) [13, 10] 0 = ((lineA a.st).length : Int) := by
 have hl0 := (status_line a.st (reason_in h1)).1
 have hj := head_join a
 have hcons := join_cons (lineA a.st) (lsA_ne a)
 refine ⟨joinL (lineA a.st :: lsA a), joinL (lsA a), hj, hcons, rfl, ?_, ?_⟩
 ·rw [findFrom_zero, hj, List.append_assoc]
  exact ix_join (lineA a.st :: lsA a) a.b (by simp) (fun l hl => by
   rcases List.mem_cons.1 hl with rfl | hl
   ·exact hl0
   ·exact lsA_lines h2 l hl)
 ·rw [findFrom_zero, hj]
  show Lib.index ((joinL (lineA a.st :: lsA a) ++ sep4) ++ a.b) [13, 10] = _
  rw [hcons, List.append_assoc, List.append_assoc]
  exact ix2_at hl0.2
theorem OwnS.txts {w : World} {B : Nat} {v : Value} {ls : List (List UInt8)} (h : OwnS w B v ls) : Txts w v ls := by
 rcases h.2 with ⟨rfl, h0⟩ | ⟨g, cap, cur, rfl, hg, hh, hn, hr⟩
 ·have : ls = [] := List.length_eq_zero_iff.1 h0
  subst this
  exact ⟨none, 0, rfl, Nat.le_refl _, fun h => absurd h (by simp)⟩
 ·refine ⟨_, cap, rfl, hn, fun _ => ⟨g, 0, rfl, OwnM.lt hh, fun i hi => ?_⟩⟩
  have hc := World.ownsRow.cells h (g := g) rfl
  have h1 := hc i (.string ⟨ls[i].toArray⟩) (by unfold txs; rw [List.getElem?_map, List.getElem?_eq_getElem hi]; rfl)
  rw [Go.BL.add_none] at h1
  exact h1
end Go.Proofs.YtpdedfpacklnoaaGreatDoor.H
