/- Plain: a frame that is torn, or of which a byte is turned. No program; no condition. -/
import Derived.Test.YthjfogllinboaaaPlain2
namespace Go.Wr
theorem xor_cancel {a b c : Nat} (h : a ^^^ c = b ^^^ c) : a = b := by
  have h2 : a ^^^ c ^^^ c = b ^^^ c ^^^ c := by rw [h]
  rwa [Nat.xor_assoc, Nat.xor_self, Nat.xor_zero, Nat.xor_assoc, Nat.xor_self, Nat.xor_zero] at h2
theorem xor_cancel_left {a b c : Nat} (h : c ^^^ a = c ^^^ b) : a = b := by
  rw [Nat.xor_comm c a, Nat.xor_comm c b] at h; exact xor_cancel h
theorem bit31_lt {a : Nat} (h : a < 2147483648) : a.testBit 31 = false := Nat.testBit_lt_two_pow h
theorem crcBit_inj {a b : Nat} (ha : a < 4294967296) (hb : b < 4294967296) (h : crcBit a = crcBit b) : a = b := by
  unfold crcBit at h
  have bit : ∀ x, x < 2147483648 → (x ^^^ 3988292384).testBit 31 = true := by
    intro x hx
    rw [Nat.testBit_xor, bit31_lt hx]; decide
  by_cases h1 : a % 2 = 1 <;> by_cases h2 : b % 2 = 1
  · rw [if_pos h1, if_pos h2] at h
    have := xor_cancel h; omega
  · rw [if_pos h1, if_neg h2] at h
    have h3 := bit (a / 2) (by omega)
    rw [h, bit31_lt (by omega)] at h3; cases h3
  · rw [if_neg h1, if_pos h2] at h
    have h3 := bit (b / 2) (by omega)
    rw [← h, bit31_lt (by omega)] at h3; cases h3
  · rw [if_neg h1, if_neg h2] at h
    omega
theorem crcN_inj {a b : Nat} (ha : a < 4294967296) (hb : b < 4294967296) : ∀ k, crcN k a = crcN k b → a = b
  | 0, h => h
  | k + 1, h => crcN_inj ha hb k (crcBit_inj (crcN_lt ha k) (crcN_lt hb k) h)
theorem crcByte_inj_c {c d x : Nat} (hc : c < 4294967296) (hd : d < 4294967296) (hx : x < 256) (h : crcByte c x = crcByte d x) : c = d :=
  xor_cancel (crcN_inj (xor_lt32 hc hx) (xor_lt32 hd hx) 8 h)
theorem crcByte_inj_x {c x y : Nat} (hc : c < 4294967296) (hx : x < 256) (hy : y < 256) (h : crcByte c x = crcByte c y) : x = y :=
  xor_cancel_left (crcN_inj (xor_lt32 hc hx) (xor_lt32 hc hy) 8 h)
theorem fold_inj : ∀ (l : List Nat) (c d : Nat), (∀ x ∈ l, x < 256) → c < 4294967296 → d < 4294967296 → l.foldl crcByte c = l.foldl crcByte d → c = d
  | [], _, _, _, _, _, h => h
  | x :: l, c, d, hl, hc, hd, h => by
    have hx := hl x (List.mem_cons_self ..)
    exact crcByte_inj_c hc hd hx (fold_inj l _ _ (fun y hy => hl y (List.mem_cons_of_mem _ hy)) (crcByte_lt hc hx) (crcByte_lt hd hx) h)
theorem fold_lt : ∀ (l : List Nat) (c : Nat), (∀ x ∈ l, x < 256) → c < 4294967296 → l.foldl crcByte c < 4294967296
  | [], _, _, h => h
  | x :: l, _, hl, hc => fold_lt l _ (fun y hy => hl y (List.mem_cons_of_mem _ hy)) (crcByte_lt hc (hl x (List.mem_cons_self ..)))
/-- A byte turned turns the sum. -/
theorem sum_set {p : List Nat} {i y : Nat} (hp : ∀ x ∈ p, x < 256) (hi : i < p.length) (hy : y < 256) (hne : y ≠ p.getD i 0) : sum (p.set i y) ≠ sum p := by
  intro h
  have h1 := xor_cancel h
  have hsplit : p = p.take i ++ p.getD i 0 :: p.drop (i + 1) := by
    rw [List.getD_eq_getElem?_getD, List.getElem?_eq_getElem hi]
    simp
  have hset : p.set i y = p.take i ++ y :: p.drop (i + 1) := List.set_eq_take_append_cons_drop ▸ by rw [if_pos hi]
  have ht : ∀ x ∈ p.take i, x < 256 := fun x hx => hp x (List.mem_of_mem_take hx)
  have hd : ∀ x ∈ p.drop (i + 1), x < 256 := fun x hx => hp x (List.mem_of_mem_drop hx)
  have hx : p.getD i 0 < 256 := by
    rw [List.getD_eq_getElem?_getD, List.getElem?_eq_getElem hi]
    exact hp _ (List.getElem_mem hi)
  generalize p.getD i 0 = x at *
  rw [hset] at h1
  rw [show crcAll p = crcAll (p.take i ++ x :: p.drop (i + 1)) by rw [← hsplit]] at h1
  unfold crcAll at h1
  rw [List.foldl_append, List.foldl_append, List.foldl_cons, List.foldl_cons] at h1
  have hc := fold_lt (p.take i) 4294967295 ht (by decide)
  exact hne (crcByte_inj_x hc hy hx (fold_inj _ _ _ hd (crcByte_lt hc hy) (crcByte_lt hc hx) h1))
theorem val4_set {S i y : Nat} (hi : i < 4) (hy : y < 256) (hne : y ≠ (le4 S).getD i 0) : val4 ((le4 S).set i y) ≠ S := by
  have key : ∀ (a b c d : Nat), a < 256 → b < 256 → c < 256 → d < 256 → val4 [a, b, c, d] = S → [a, b, c, d] = le4 S := by
    intro a b c d ha hb hc hd h
    rw [← h, le4_val4 rfl (by intro x hx; simp only [List.mem_cons, List.not_mem_nil, or_false] at hx; omega)]
  have h0 : S % 256 < 256 := by omega
  have h1 : S / 256 % 256 < 256 := by omega
  have h2 : S / 65536 % 256 < 256 := by omega
  have h3 : S / 16777216 % 256 < 256 := by omega
  intro h
  match i, hi with
  | 0, _ => have e := key y _ _ _ hy h1 h2 h3 h; simp [le4] at e; exact hne e
  | 1, _ => have e := key _ y _ _ h0 hy h2 h3 h; simp [le4] at e; exact hne e
  | 2, _ => have e := key _ _ y _ h0 h1 hy h3 h; simp [le4] at e; exact hne e
  | 3, _ => have e := key _ _ _ y h0 h1 h2 hy h; simp [le4] at e; exact hne e
/-- No beginning of a frame is one. -/
theorem torn {p : List Nat} {j : Nat} (hp : p.length ≤ 65536) (hj : j < (frame p).1.length) : (unframe ((frame p).1.take j)).2.2 ≠ 0 := by
  have hf : frame p = (enc p.length ++ p ++ le4 (sum p), 0) := if_neg (by omega)
  rw [hf] at hj ⊢
  have hj' : j < (enc p.length).length + p.length + 4 := by simpa [le4, Nat.add_assoc] using hj
  show (unframe ((enc p.length ++ p ++ le4 (sum p)).take j)).2.2 ≠ 0
  by_cases h : j < (enc p.length).length
  · have hn : num ((enc p.length ++ p ++ le4 (sum p)).take j) 0 0 = .bad 2 := by
      rw [List.append_assoc, List.take_append_of_le_length (by omega)]
      exact num_take p.length 0 0 j (by omega) (by omega) h
    unfold unframe
    rw [hn]
    show (2 : Nat) ≠ 0
    decide
  · have hn : num ((enc p.length ++ p ++ le4 (sum p)).take j) 0 0 = .got p.length (enc p.length).length := by
      rw [List.append_assoc, List.take_append, List.take_of_length_le (by omega)]
      exact num_back _ (by omega)
    have hl : ((enc p.length ++ p ++ le4 (sum p)).take j).length = j := by
      rw [List.length_take, List.length_append, List.length_append]
      simp only [le4, List.length_cons, List.length_nil]; omega
    unfold unframe
    rw [hn]
    show (if _ then _ else _ : List Nat × List Nat × Nat).2.2 ≠ 0
    rw [if_neg (by omega), hl, if_pos (by omega)]
    decide
/-- A frame of which a byte of the payload or the sum is turned. -/
theorem turned {p : List Nat} {i y : Nat} (hp : p.length ≤ 65536) (hb : ∀ x ∈ p, x < 256) (hi : i < p.length + 4) (hy : y < 256) (hne : y ≠ (frame p).1.getD ((enc p.length).length + i) 0) :
    (unframe ((frame p).1.set ((enc p.length).length + i) y)).2.2 = 11 := by
  have hf : frame p = (enc p.length ++ p ++ le4 (sum p), 0) := if_neg (by omega)
  rw [hf] at hne ⊢
  have hS := sum_lt p hb
  have hset : (enc p.length ++ p ++ le4 (sum p)).set ((enc p.length).length + i) y = enc p.length ++ (p ++ le4 (sum p)).set i y := by
    rw [List.append_assoc, List.set_append_right _ _ (by omega)]
    congr 2; omega
  have hget : (enc p.length ++ p ++ le4 (sum p)).getD ((enc p.length).length + i) 0 = (p ++ le4 (sum p)).getD i 0 := by
    rw [List.append_assoc, List.getD_eq_getElem?_getD, List.getD_eq_getElem?_getD, List.getElem?_append_right (by omega)]
    congr 2; omega
  have hne' : y ≠ (p ++ le4 (sum p)).getD i 0 := by
    intro e; exact hne (e.trans hget.symm)
  show (unframe ((enc p.length ++ p ++ le4 (sum p)).set ((enc p.length).length + i) y)).2.2 = 11
  rw [hset]
  clear hne hset hget
  have hl4 : (le4 (sum p)).length = 4 := rfl
  -- the turned payload and sum
  obtain ⟨p', s', hps, hpl, hsl, hbad⟩ : ∃ p' s', (p ++ le4 (sum p)).set i y = p' ++ s' ∧ p'.length = p.length ∧ s'.length = 4 ∧ val4 s' ≠ sum p' := by
    by_cases h : i < p.length
    · refine ⟨p.set i y, le4 (sum p), by rw [List.set_append_left _ _ h], by simp, rfl, ?_⟩
      rw [val4_le4 hS]
      refine fun e => sum_set hb h hy ?_ e.symm
      intro e2
      apply hne'
      rw [List.getD_eq_getElem?_getD, List.getElem?_append_left h, ← List.getD_eq_getElem?_getD]; exact e2
    · refine ⟨p, (le4 (sum p)).set (i - p.length) y, by rw [List.set_append_right _ _ (by omega)], rfl, by simp [le4], ?_⟩
      refine val4_set (by omega) hy ?_
      intro e2
      apply hne'
      rw [List.getD_eq_getElem?_getD, List.getElem?_append_right (by omega), ← List.getD_eq_getElem?_getD]; exact e2
  rw [hps]
  have hn : num (enc p.length ++ (p' ++ s')) 0 0 = .got p.length (enc p.length).length := num_back _ (by omega)
  unfold unframe
  rw [hn]
  show (if _ then _ else _ : List Nat × List Nat × Nat).2.2 = 11
  have h1 : ((enc p.length ++ (p' ++ s')).drop (enc p.length).length).take p.length = p' := by
    rw [List.drop_left, ← hpl, List.take_left]
  have h2 : ((enc p.length ++ (p' ++ s')).drop ((enc p.length).length + p.length)).take 4 = s' := by
    rw [← List.drop_drop, List.drop_left, ← hpl, List.drop_left, ← hsl, List.take_length]
  rw [if_neg (by omega), if_neg (by simp only [List.length_append]; omega), h1, h2, if_pos hbad]
end Go.Wr
