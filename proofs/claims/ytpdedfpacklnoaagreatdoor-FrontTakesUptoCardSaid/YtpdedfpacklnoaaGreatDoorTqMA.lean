/- Words on memory: a row of bytes that a conversion of a string has made (its mark lies behind the row), and appends of strings onto it. Plain: a request's bytes. No program. Contracts of slices.Equal a -/
import Derived.Test.YtpdedfpacklnoaaGreatDoorTqMH
import Derived.Test.YtpdedfpacklnoaaGreatDoorTqMR
import Derived.Test.YtpdedfpacklnoaaGreatDoorTqMh2
import Derived.Lib.AppendStr
import Derived.Lib.ConvBytes
import Derived.Lib.AtoiAll
import Derived.Deep.RegionHeld
namespace Go.Proofs.YtpdedfpacklnoaaGreatDoor.H
open Go.RowKit Go.BL

theorem byte_all (P : UInt8 → Prop) [DecidablePred P] (h : ∀ n : Fin 256, P (UInt8.ofNat n.val)) (x : UInt8) : P x := by
 have := h ⟨x.toNat, x.toNat_lt⟩
 simpa using this
def clK : List UInt8 := [99, 111, 110, 116, 101, 110, 116, 45, 108, 101, 110, 103, 116, 104]
/-- What the digits come to. -/
def numL (s : List UInt8) : Nat := (Lib.decFrom 0 s).getD 0
theorem dig_val {c : UInt8} (h : dig c = true) : Lib.digitVal c = some (c.toNat - 48) ∧ c ≠ 45 ∧ c ≠ 43 := by
 simp [dig] at h
 unfold Lib.digitVal
 refine ⟨by rw [if_pos h], ?_, ?_⟩ <;> · rintro rfl; simp at h
theorem dec_all : ∀ (s : List UInt8) (acc : Nat), s.all dig = true → ∃ n, Lib.decFrom acc s = some n
 | [], acc, _ => ⟨acc, rfl⟩
 | c :: r, acc, h => by
  simp only [List.all_cons, Bool.and_eq_true] at h
  simp only [Lib.decFrom, (dig_val h.1).1]
  exact dec_all r _ h.2
theorem atoi_num {s : List UInt8} (h0 : s ≠ []) (h : s.all dig = true) : Lib.atoi s = some (numL s : Int) := by
 obtain ⟨n, hn⟩ := dec_all s 0 h
 cases s with
 | nil => exact absurd rfl h0
 | cons c r =>
  simp only [List.all_cons, Bool.and_eq_true] at h
  obtain ⟨_, h1, h2⟩ := dig_val h.1
  have e : Lib.decNat (c :: r) = some n := hn
  unfold numL Lib.atoi
  show (if (c == 45) = true then _ else if (c == 43) = true then _ else Option.map _ (Lib.decNat (c :: r))) = _
  rw [if_neg (by simpa using h1), if_neg (by simpa using h2), e, hn]
  rfl

def sep4 : List UInt8 := [13, 10, 13, 10]
def crb (c : UInt8) : Bool := c == 13 || c == 10
def crL (s : List UInt8) : Bool := s.any crb
end Go.Proofs.YtpdedfpacklnoaaGreatDoor.H
namespace Go.Proofs.YtpdedfpacklnoaaGreatDoor.H
set_option maxRecDepth 100000
open Go.RowKit Go.BL

/-- Nothing frozen lies within so many cells. -/
def Past (fz : Nat × Nat) (n : Nat) : Prop := ∀ k, k < n → ¬ (fz.1 ≤ k ∧ k < fz.2)
/-- The value is a row of the call's own (behind base) that holds these bytes. -/
def OwnM (w : World) (B : Nat) (v : Value) (bs : List UInt8) : Prop :=
 ∃ (g cap : Nat) (cur : Array Value) (fz : Nat × Nat), v = .slice (some ⟨g, 0, none⟩) bs.length cap ∧ B ≤ g ∧ w.heap[g]? = some (.cells cur 5 fz) ∧ Past fz cur.size ∧ bs.length ≤ cap ∧ cap ≤ maxLen ∧ cur.size = cap ∧ cur.toList.take bs.length = Lib.strCells ⟨bs.toArray⟩
theorem OwnM.lt {w : World} {g : Nat} {o : Obj} (h : w.heap[g]? = some o) : g < w.heap.size := by
 rcases Nat.lt_or_ge g w.heap.size with h' | h'
 ·exact h'
 ·rw [Array.getElem?_eq_none h'] at h; cases h
theorem OwnM.below {w w' : World} {B C : Nat} {v : Value} {bs : List UInt8} (h : OwnM w B v bs) (hb : Below C w w') (hC : w.heap.size ≤ C) : OwnM w' B v bs := by
 obtain ⟨g, cap, cur, fz, hv, hg, hh, r⟩ := h
 exact ⟨g, cap, cur, fz, hv, hg, (hb.block g (by have := OwnM.lt hh; omega)).trans hh, r⟩
theorem str_at (bs : List UInt8) (i : Nat) (h : i < bs.length) : (Lib.strCells ⟨bs.toArray⟩)[i]? = some (.int .u8 (bs[i].toNat : Int)) := by
 simp [Lib.strCells, h]
theorem OwnM.cell {w : World} {g : Nat} {cur : Array Value} {fz : Nat × Nat} {bs : List UInt8} (hh : w.heap[g]? = some (.cells cur 5 fz)) (ht : cur.toList.take bs.length = Lib.strCells ⟨bs.toArray⟩) :
  ∀ j u, (Lib.strCells ⟨bs.toArray⟩)[j]? = some u → w.cell? ((⟨g, 0, none⟩ : Addr).add j) = some u := by
 intro j u hu
 rw [add_none, Nat.zero_add, cell_of_row w g j cur 5 fz hh]
 rw [← ht, List.getElem?_take] at hu
 split at hu
 ·simpa using hu
 ·cases hu
theorem OwnM.bsl {w : World} {B : Nat} {v : Value} {bs : List UInt8} (h : OwnM w B v bs) (hb : bs.length ≤ 4294967280) : Bsl w v bs := by
 obtain ⟨g, cap, cur, fz, rfl, hg, hh, hp, hn, hm, hs, ht⟩ := h
 refine ⟨hb, .inr ⟨g, 0, cap, rfl, hn, OwnM.lt hh, fun i hi => ?_⟩⟩
 have := OwnM.cell hh ht i _ (str_at bs i hi)
 rw [add_none] at this
 exact this
theorem OwnM.conv (bs : List UInt8) (hb : bs.length ≤ 1000000000000) (w : World) : ∃ v w', (convert 9 75 (.string ⟨bs.toArray⟩)).run Tryz.prog w = .ok v w' ∧ OwnM w' w.heap.size v bs ∧ Below w.heap.size w w' := by
 have hge := grownCap_ge w bs.length 0 5
 refine ⟨_, _, Lib.run_convert_string_bytes w 9 75 5 ⟨bs.toArray⟩ Tryz.underlying9 Tryz.underlying75 Tryz.underlying5, ⟨w.heap.size, _, _, _, rfl, Nat.le_refl _, Lib.bytesWorld_at_new w 5 _, fun k hk h => by have := h.1; simp only at this; omega, hge, grownCap_le_maxLen w bs.length 0 5 (by unfold maxLen; omega), ?_, ?_⟩, Lib.bytesWorld_below w 5 _⟩
 ·simp only [Lib.bytesCells, Array.size_append, Array.size_map, Array.size_replicate, List.size_toArray]
  show bs.length + (grownCap w bs.length 0 5 - bs.length) = grownCap w bs.length 0 5
  omega
 ·simp [Lib.bytesCells, Lib.strCells]
end Go.Proofs.YtpdedfpacklnoaaGreatDoor.H
namespace Go.Proofs.YtpdedfpacklnoaaGreatDoor.H
set_option maxRecDepth 100000

def lineT (h : Hdr) : List UInt8 := h.1 ++ [58, 32] ++ h.2 ++ [13, 10]
def textL : List Hdr → List UInt8
 | [] => []
 | h :: r => lineT h ++ textL r
theorem text_app : ∀ a b : List Hdr, textL (a ++ b) = textL a ++ textL b
 | [], _ => rfl
 | h :: r, b => by simp only [List.cons_append, textL, text_app r b, List.append_assoc]
theorem text_one (h : Hdr) : textL [h] = lineT h := by simp [textL]
theorem text_mem {hs : List Hdr} {h : Hdr} (hm : h ∈ hs) : h.1.length + h.2.length + 4 ≤ (textL hs).length := by
 induction hs with
 | nil => cases hm
 | cons x r ih =>
  have e : (lineT x).length = x.1.length + x.2.length + 4 := by simp [lineT]; omega
  simp only [textL, List.length_append, e]
  rcases List.mem_cons.1 hm with rfl | hm
  ·omega
  ·have := ih hm; omega
theorem text_take (hs : List Hdr) (k : Nat) : (textL (hs.take k)).length ≤ (textL hs).length := by
 conv => rhs; rw [← List.take_append_drop k hs]
 rw [text_app, List.length_append]
 omega
theorem text_next {hs : List Hdr} {k : Nat} (h : k < hs.length) : textL (hs.take (k + 1)) = textL (hs.take k) ++ lineT hs[k] := by
 rw [List.take_succ_eq_append_getElem h, text_app, text_one]
theorem text_len {hs : List Hdr} : hs.length ≤ (textL hs).length := by
 induction hs with
 | nil => simp
 | cons x r ih =>
  have e : (lineT x).length = x.1.length + x.2.length + 4 := by simp [lineT]; omega
  simp only [textL, List.length_append, e, List.length_cons]
  omega
end Go.Proofs.YtpdedfpacklnoaaGreatDoor.H
namespace Go.Proofs.YtpdedfpacklnoaaGreatDoor.H
set_option maxRecDepth 100000
open Go.RowKit Go.BL

def txs (ls : List (List UInt8)) : List Value := ls.map fun x => .string ⟨x.toArray⟩
theorem txs_one (ls : List (List UInt8)) : ∀ u ∈ txs ls, u.oneCell' = true := by
 intro u hu
 simp only [txs, List.mem_map] at hu
 obtain ⟨b, _, rfl⟩ := hu
 rfl
/-- The value is a slice that reads as these texts. -/
def Txts (w : World) (v : Value) (ls : List (List UInt8)) : Prop :=
 ∃ A c, v = .slice A ls.length c ∧ ls.length ≤ c ∧ (0 < ls.length → ∃ b off, A = some ⟨b, off, none⟩ ∧ b < w.heap.size ∧ ∀ i (h : i < ls.length), w.cell? ⟨b, off + i, none⟩ = some (.string ⟨ls[i].toArray⟩))
theorem Txts.below {w w' : World} {v : Value} {ls : List (List UInt8)} {B : Nat} (h : Txts w v ls) (hb : Below B w w') (hB : w.heap.size ≤ B) : Txts w' v ls := by
 obtain ⟨A, c, rfl, hc, h1⟩ := h
 refine ⟨A, c, rfl, hc, fun hn => ?_⟩
 obtain ⟨b, off, rfl, hlt, hc⟩ := h1 hn
 exact ⟨b, off, rfl, Nat.lt_of_lt_of_le hlt hb.size, fun i hi => (hb.cell (show b < B by omega)).trans (hc i hi)⟩
/-- The value is a row of the call's own (behind base) that holds these texts. -/
def OwnS (w : World) (B : Nat) (v : Value) (ls : List (List UInt8)) : Prop := w.ownsRow B 9 1 v ls.length (txs ls)
theorem OwnS.nil (w : World) (B : Nat) : OwnS w B (.slice none 0 0) [] := ⟨rfl, .inl ⟨rfl, rfl⟩⟩
theorem OwnS.below {w w' : World} {B C : Nat} {v : Value} {ls : List (List UInt8)} (h : OwnS w B v ls) (hb : Below C w w') (hC : w.heap.size ≤ C) : OwnS w' B v ls := by
 refine ⟨h.1, ?_⟩
 rcases h.2 with h0 | ⟨g, cap, cur, hv, hg, hh, r⟩
 ·exact .inl h0
 ·have hlt : g < w.heap.size := by
   rcases Nat.lt_or_ge g w.heap.size with h' | h'
   ·exact h'
   ·rw [Array.getElem?_eq_none h'] at hh; cases hh
  exact .inr ⟨g, cap, cur, hv, hg, (hb.block g (by omega)).trans hh, r⟩
theorem OwnS.alloc {w : World} {B : Nat} {v : Value} {ls : List (List UInt8)} (h : OwnS w B v ls) (o : Obj) : OwnS (w.alloc o) B v ls := h.below ((Below.refl w.heap.size w).alloc (Nat.le_refl _) o) (Nat.le_refl _)
theorem OwnS.block_ge {w : World} {B : Nat} {v : Value} {ls : List (List UInt8)} (h : OwnS w B v ls) : ∀ k, v.ownBlock = some k → B ≤ k := by
 intro k hk
 rcases h.2 with ⟨rfl, _⟩ | ⟨g, cap, cur, rfl, hg, _⟩
 ·cases hk
 ·simp only [Value.ownBlock, Option.some.injEq] at hk; omega
theorem under64 : Tryz.prog.underlying 100 = some (.slice 9) := by kernel_rfl
theorem info9 : (Tryz.prog.info? 9).map (fun i => (i.zero, i.size, i.bytes)) = some (some (.string ⟨#[]⟩), 1, 16) := by kernel_rfl
/-- append(ls, x). -/
theorem wpList_appT {w : World} {ops : Array Oper} {rest : List Oper} {o : Oper} {a : Act} {Q : Exit → Act → World → Prop} (hgd : o.guard = none) (s x : Operand)
  (ho : o.op = .call { callee := .builtin .append, args := #[s, x], argTypes := #[100, 100] })
  {B : Nat} {v : Value} {ls : List (List UInt8)} (hs' : a.eval s = v) (hown : OwnS w B v ls)
  {g c : Nat} {x1 : List UInt8} (hx : a.eval x = .slice (some ⟨g, 0, none⟩) 1 c) (hg0 : w.cell? ⟨g, 0, none⟩ = some (.string ⟨x1.toArray⟩))
  (hb : ls.length ≤ 1073741826) (hbase : B ≤ w.heap.size)
  (h : ∀ v' w', OwnS w' B v' (ls ++ [x1]) → Below B w w' → wpList Tryz.prog ops Q rest (a.put o.dst v') w') : wpList Tryz.prog ops Q (o :: rest) a w := by
 obtain ⟨i0, hi0, hz0, hz1, hz2⟩ := info_parts info9
 have hr : Reads w w.heap.size 1 (some ⟨g, 0, none⟩) 1 (txs [x1]) := by
  refine ⟨rfl, fun _ => ⟨_, rfl, lt_block hg0, fun j u hj => ?_⟩⟩
  rw [add_none, Nat.zero_add]
  rcases j with _ | j
  ·simp [txs] at hj; rw [← hj]; exact hg0
  ·simp [txs] at hj
 refine wpList_append_any w hgd s x 100 ho B 9 i0 _ 1 16 under64 hi0 hz0 hz1 hz2 rfl (by decide) v ls.length (txs ls) hs' hown w.heap.size _ 1 c (txs [x1]) hx hr (txs_one _) (by unfold maxLen; omega) (by omega) hbase ?_
 intro v' w' k1 k2 k3
 refine h v' w' ?_ ((Below.refl B w).grown k2 hbase hown.block_ge)
 unfold OwnS
 rw [List.length_append, show txs (ls ++ [x1]) = txs ls ++ txs [x1] by simp [txs]]
 exact k1
/-- append(hs, h). -/
theorem wpList_appH {w : World} {ops : Array Oper} {rest : List Oper} {o : Oper} {a : Act} {Q : Exit → Act → World → Prop} (hgd : o.guard = none) (s x : Operand)
  (ho : o.op = .call { callee := .builtin .append, args := #[s, x], argTypes := #[22, 22] })
  {B : Nat} {v : Value} {hs : List Hdr} (hs' : a.eval s = v) (hown : OwnH w B v hs)
  {g c : Nat} {h1 : Hdr} (hx : a.eval x = .slice (some ⟨g, 0, none⟩) 1 c) (hg0 : w.cell? ⟨g, 0, none⟩ = some (.string ⟨h1.1.toArray⟩)) (hg1 : w.cell? ⟨g, 1, none⟩ = some (.string ⟨h1.2.toArray⟩))
  (hb : hs.length ≤ 1000000) (hbase : B ≤ w.heap.size)
  (h : ∀ v' w', OwnH w' B v' (hs ++ [h1]) → Below B w w' → wpList Tryz.prog ops Q rest (a.put o.dst v') w') : wpList Tryz.prog ops Q (o :: rest) a w := by
 obtain ⟨i0, hi0, hz0, hz1, hz2⟩ := info_parts info44
 have hr : Reads w w.heap.size 2 (some ⟨g, 0, none⟩) 1 (hv [h1]) := by
  refine ⟨rfl, fun _ => ⟨_, rfl, lt_block hg0, fun j u hj => ?_⟩⟩
  rw [add_none, Nat.zero_add]
  rcases j with _ | _ | j
  ·simp [hv] at hj; rw [← hj]; exact hg0
  ·simp [hv] at hj; rw [← hj]; exact hg1
  ·simp [hv] at hj
 refine wpList_append_any w hgd s x 22 ho B 45 i0 _ 2 32 Tryz.underlying22 hi0 hz0 hz1 hz2 rfl (by decide) v hs.length (hv hs) hs' hown w.heap.size _ 1 c (hv [h1]) hx hr (hv_one _) (by unfold maxLen; omega) (by omega) hbase ?_
 intro v' w' k1 k2 k3
 refine h v' w' ?_ ((Below.refl B w).grown k2 hbase hown.block_ge)
 unfold OwnH
 rw [List.length_append, hv_app]
 exact k1
end Go.Proofs.YtpdedfpacklnoaaGreatDoor.H
namespace Go.Proofs.YtpdedfpacklnoaaGreatDoor.H
set_option maxRecDepth 100000

/- Trimmed. -/
section trim
variable (p : UInt8 → Bool)
def dropR (l : List UInt8) : List UInt8 := (l.reverse.dropWhile p).reverse
theorem dropR_cons (x : UInt8) (t : List UInt8) : dropR p (x :: t) = if dropR p t = [] then (if p x then [] else [x]) else x :: dropR p t := by
 unfold dropR
 rw [List.reverse_cons, List.dropWhile_append]
 cases h : t.reverse.dropWhile p with
 | nil => cases hx : p x <;> simp [List.dropWhile, hx]
 | cons a r => simp
theorem drop_comm : ∀ l : List UInt8, dropR p (l.dropWhile p) = (dropR p l).dropWhile p
 | [] => rfl
 | x :: t => by
  rw [dropR_cons]
  cases hx : p x with
  | true =>
   rw [List.dropWhile_cons_of_pos hx, drop_comm t]
   by_cases h : dropR p t = []
   ·rw [if_pos h, h]; simp
   ·rw [if_neg h, List.dropWhile_cons_of_pos hx]
  | false =>
   rw [List.dropWhile_cons_of_neg (by simp [hx]), dropR_cons, hx]
   by_cases h : dropR p t = []
   ·rw [if_pos h]; simp [hx]
   ·rw [if_neg h, List.dropWhile_cons_of_neg (by simp [hx])]
theorem dropR_snoc (t : List UInt8) (x : UInt8) : dropR p (t ++ [x]) = if p x then dropR p t else t ++ [x] := by
 unfold dropR
 rw [List.reverse_append, List.reverse_singleton, List.singleton_append]
 cases hx : p x with
 | true => rw [List.dropWhile_cons_of_pos hx]; rfl
 | false => rw [List.dropWhile_cons_of_neg (by simp [hx])]; simp
theorem dropR_le (l : List UInt8) : (dropR p l).length ≤ l.length := by
 unfold dropR
 rw [List.length_reverse]
 refine Nat.le_trans (List.dropWhile_sublist _).length_le ?_
 rw [List.length_reverse]
 exact Nat.le_refl _
/-- Both ends are no such bytes. -/
theorem trim_same (s : List UInt8) : (dropR p (s.dropWhile p) = s) ↔ (s = [] ∨ ((s.head?.all fun c => !p c) = true ∧ (s.getLast?.all fun c => !p c) = true)) := by
 cases s with
 | nil => simp [dropR]
 | cons x t =>
  constructor
  ·intro h
   right
   have h1 := dropR_le p ((x :: t).dropWhile p)
   rw [h] at h1
   have hx : p x = false := by
    cases e : p x with
    | false => rfl
    | true =>
     rw [List.dropWhile_cons_of_pos e] at h1
     have := (List.dropWhile_sublist p (l := t)).length_le
     simp only [List.length_cons] at h1
     omega
   rw [List.dropWhile_cons_of_neg (by simp [hx])] at h
   refine ⟨by simp [hx], ?_⟩
   have hne : x :: t ≠ [] := by simp
   rw [← List.dropLast_concat_getLast hne, dropR_snoc] at h
   cases e : p ((x :: t).getLast hne) with
   | false => rw [List.getLast?_eq_some_getLast hne]; simp [e]
   | true =>
    rw [if_pos e] at h
    have h2 := dropR_le p (x :: t).dropLast
    rw [h] at h2
    simp at h2
    omega
  ·rintro (h | ⟨h1, h2⟩)
   ·cases h
   ·have hne : x :: t ≠ [] := by simp
    rw [List.dropWhile_cons_of_neg (by simpa using h1)]
    rw [List.getLast?_eq_some_getLast hne] at h2
    rw [← List.dropLast_concat_getLast hne, dropR_snoc, if_neg (by simpa using h2)]
end trim
theorem bla_eq : (fun c : UInt8 => blanks.contains c) = bla := by
 funext c
 have h : ∀ c : UInt8, blanks.contains c = bla c := fun c => byte_all (fun c => blanks.contains c = bla c) (by decide +kernel) c
 exact h c
theorem trim_eq (s : List UInt8) : trimL s = dropR bla (s.dropWhile bla) := by
 rw [drop_comm]
 unfold trimL Lib.trimS Lib.trimLeftS Lib.trimRightS dropR
 rw [← bla_eq]
def valueR (s : List UInt8) : Bool := s.all vab && decide (s.length ≤ 32768) && (decide (s = []) || ((s.head?.all fun c => !bla c) && (s.getLast?.all fun c => !bla c)))
theorem value_eq (s : List UInt8) : valueR s = valueL s := by
 unfold valueR valueL
 rw [trim_eq, Bool.eq_iff_iff]
 simp only [Bool.and_eq_true, Bool.or_eq_true, decide_eq_true_eq, trim_same]
 constructor
 ·rintro ⟨⟨a, b⟩, c⟩; exact ⟨⟨b, c⟩, a⟩
 ·rintro ⟨⟨b, c⟩, a⟩; exact ⟨⟨a, b⟩, c⟩
theorem mark_eq (c : UInt8) : findFrom marks [c] 0 = Lib.indexByte marks c := by
 exact byte_all (fun c => findFrom marks [c] 0 = Lib.indexByte marks c) (by decide +kernel) c
/- A header. -/
theorem header_no {s : List UInt8} (h : findFrom s [58] 0 = -1) : headerL s = none := by
 have := findFrom_no h
 rw [List.drop_zero] at this
 unfold headerL cutL Lib.cut
 rw [this]
 rfl
theorem header_at {s : List UInt8} {n : Nat} (h : findFrom s [58] 0 = (n : Int)) : headerL s = if tokenL (s.take n) && valueL (dropR bla ((s.drop (n + 1)).dropWhile bla)) then some (smallL (s.take n), dropR bla ((s.drop (n + 1)).dropWhile bla)) else none := by
 obtain ⟨_, _, h3⟩ := findFrom_at (by simp) h
 rw [List.drop_zero, Nat.sub_zero] at h3
 have hc : cutL s [58] = (s.take n, s.drop (n + 1), true) := by
  unfold cutL Lib.cut
  rw [h3, if_pos (by omega)]
  rfl
 unfold headerL
 rw [hc]
 simp only [Bool.true_and, trim_eq]
/- A first line. -/
/- How long the body must be. -/
def digitsL (s : List UInt8) : Option Nat := if s ≠ [] ∧ s.length ≤ 9 ∧ s.all dig = true then some (numL s) else none
end Go.Proofs.YtpdedfpacklnoaaGreatDoor.H
namespace Go.Proofs.YtpdedfpacklnoaaGreatDoor.H
set_option maxRecDepth 100000
open Go.RowKit

theorem digitR_any (c : UInt8) (w : World) : Calls Tryz.prog 178 #[.int .u8 (c.toNat : Int)] w fun e w' => e = .returned (.bool (dig c)) ∧ w = w' := by
 go_enter Tryz.func178, Tryz.ntmps178
 go_wp2
 all_goals go_ret
 all_goals (refine ⟨congrArg (fun b => Ending.returned (Value.bool b)) ?_, rfl⟩; rw [Bool.eq_iff_iff]; simp [dig]; omega)
theorem blankR_any (c : UInt8) (w : World) : Calls Tryz.prog 175 #[.int .u8 (c.toNat : Int)] w fun e w' => e = .returned (.bool (bla c)) ∧ w = w' := by
 go_enter Tryz.func175, Tryz.ntmps175
 go_wp2
 all_goals go_ret
 all_goals (refine ⟨congrArg (fun b => Ending.returned (Value.bool b)) ?_, rfl⟩; rw [Bool.eq_iff_iff]; simp [bla]; omega)
theorem sl_mid (s : List UInt8) (i j : Nat) (l h : Int) (hl : l = i) (hh : h = j) (h1 : i ≤ j) (h2 : j ≤ s.length) (w : World) :
  (Instr.slice 9 (.string ⟨s.toArray⟩) (some (.int .i64 l)) (some (.int .i64 h)) none).run Tryz.prog w = .ok (.string ⟨((s.drop i).take (j - i)).toArray⟩) w := by
 subst hl hh
 rw [run_slice_string w 9 ⟨s.toArray⟩ .i64 .i64 i j Tryz.underlying9 (by omega) (by omega) (by show (j : Int) ≤ (s.length : Int); omega)]
 simp only [Int.toNat_natCast, ext_mid]
theorem sl_to (s : List UInt8) (j : Nat) (h : Int) (hh : h = j) (h2 : j ≤ s.length) (w : World) :
  (Instr.slice 9 (.string ⟨s.toArray⟩) none (some (.int .i64 h)) none).run Tryz.prog w = .ok (.string ⟨(s.take j).toArray⟩) w := by
 subst hh
 rw [run_slice_string_to_if w 9 ⟨s.toArray⟩ .i64 j Tryz.underlying9, if_pos ⟨by omega, by show (j : Int) ≤ (s.length : Int); omega⟩]
 simp only [Int.toNat_natCast, ext_mid, List.drop_zero, Nat.sub_zero]
theorem sl_from (s : List UInt8) (i : Nat) (l : Int) (hl : l = i) (h2 : i ≤ s.length) (w : World) :
  (Instr.slice 9 (.string ⟨s.toArray⟩) (some (.int .i64 l)) none none).run Tryz.prog w = .ok (.string ⟨(s.drop i).toArray⟩) w := by
 subst hl
 rw [run_slice_string_from_if w 9 ⟨s.toArray⟩ .i64 i Tryz.underlying9, if_pos ⟨by omega, by show (i : Int) ≤ (s.length : Int); omega⟩]
 simp only [Int.toNat_natCast, ext_mid]
 rw [List.take_of_length_le (by rw [List.length_drop]; exact Nat.le_refl _)]
set_option maxRecDepth 100000 in
theorem findR_at (s t : List UInt8) (f : Nat) (hs : s.length ≤ 1073741824) (ht : t ≠ []) (htl : t.length ≤ 1073741824) (hf : f ≤ 1073741824) (w : World) :
  Calls Tryz.prog 78 #[.string ⟨s.toArray⟩, .string ⟨t.toArray⟩, .int .i64 (f : Int)] w fun e w' => e = .returned (.int .i64 (findFrom s t f)) ∧ w = w' := by
 have HT := Lib.hid ht
 clear ht
 go_enter Tryz.func78, Tryz.ntmps78
 go_wp2_with fail
 go_loop [7] (fun j => ∃ i k : Nat, j = .int .i64 (i : Int) ∧ f + k = i ∧ i ≤ 1073741825 ∧ Hid (∀ j, j < k → Lib.occAt (s.drop f) t j = false)) (fun j => s.length + 1 - (intOf j).toNat)
 case atStart => exact ⟨f, 0, rfl, rfl, by omega, Lib.hid (fun j hj => absurd hj (Nat.not_lt_zero _))⟩
 case round =>
  obtain ⟨i, k, rfl, hik, hi, HK⟩ := hrel
  by_cases hl : i + t.length ≤ s.length
  ·obtain ⟨u, hu⟩ : ∃ u, (s.drop i).take t.length = u := ⟨_, rfl⟩
   have hsl := sl_mid s i (i + t.length) (i : Int) ((i : Int) + (t.length : Int)) rfl (by omega) (by omega) hl
   rw [Nat.add_sub_cancel_left, hu] at hsl
   by_cases he : u = t
   ·have HF : Hid (findFrom s t f = (i : Int)) := Lib.hid (by rw [← hik]; exact findFrom_hit HK.out (by omega) (by rw [hik, hu, he]))
    subst he
    clear hu
    go_wp2_with fail
    go_ret
    exact ⟨by rw [HF.out]; rfl, rfl⟩
   ·have HN := Lib.hid (findFrom_next HK.out (by omega) (by rw [hik, hu]; exact he))
    have hne : (u == t) = false := beq_false_of_ne he
    clear hu he
    go_wp2_with fail
    exact ⟨⟨i + 1, k + 1, by go_num, by omega, by omega, HN⟩, by simp [intOf]; omega⟩
  ·have HF : Hid (findFrom s t f = -1) := Lib.hid (findFrom_miss HT.out HK.out (by omega))
   go_wp2_with fail
   go_ret
   exact ⟨by rw [HF.out]; rfl, rfl⟩
end Go.Proofs.YtpdedfpacklnoaaGreatDoor.H
namespace Go.Proofs.YtpdedfpacklnoaaGreatDoor.H
set_option maxRecDepth 100000
open Go.RowKit Go.BL

set_option maxRecDepth 100000 in
theorem tokenR_any (s : List UInt8) (hs : s.length ≤ 1073741824) (w : World) : Calls Tryz.prog 176 #[.string ⟨s.toArray⟩] w fun e w' => e = .returned (.bool (tokenL s)) ∧ w = w' := by
 go_enter Tryz.func176, Tryz.ntmps176
 go_wp2_with fail
 go_loop [4] (fun j => ∃ k : Nat, j = .int .i64 (k : Int) ∧ k ≤ s.length ∧ Hid ((s.take k).all tokb = true)) (fun j => s.length - (intOf j).toNat)
 case atStart => exact ⟨0, rfl, by omega, Lib.hid rfl⟩
 case round =>
  obtain ⟨k, rfl, hk, Hk⟩ := hrel
  by_cases hlt : k < s.length
  ·obtain ⟨x, hx⟩ : ∃ x, (⟨s.toArray⟩ : ByteArray)[k]'hlt = x := ⟨_, rfl⟩
   have Hx : Hid (s[k]? = some x) := Lib.hid (by rw [← hx, List.getElem?_eq_getElem hlt]; rfl)
   have hsl := sl_mid s k (k + 1) (k : Int) ((k : Int) + 1) rfl (by omega) (by omega) hlt
   have h1 : (s.drop k).take (k + 1 - k) = [x] := by
    rw [Nat.add_sub_cancel_left, List.drop_eq_getElem_cons hlt]
    have : s[k] = x := hx
    rw [this]; rfl
   rw [h1] at hsl
   clear h1
   obtain ⟨i, hi⟩ : ∃ i, Lib.indexByte marks x = i := ⟨_, rfl⟩
   have hf : ∀ w, Calls Tryz.prog 78 #[.string ⟨#[33, 35, 36, 37, 38, 39, 42, 43, 45, 46, 94, 95, 96, 124, 126]⟩, .string ⟨#[x]⟩, .int .i64 0] w fun e w' => e = .returned (.int .i64 i) ∧ w = w' := fun w => by
    rw [← hi, ← mark_eq]
    exact findR_at marks [x] 0 (by decide) (by simp) (by simp) (by decide) w
   obtain ⟨d, hd⟩ : ∃ d, dig x = d := ⟨_, rfl⟩
   obtain ⟨u, hu⟩ : ∃ u, cap x = u := ⟨_, rfl⟩
   have hdi := digitR_any x
   have hca := capitalR_any x
   rw [hd] at hdi
   rw [hu] at hca
   have HB : Hid (tokb x = (d || u || (decide (97 ≤ x.toNat) && decide (x.toNat ≤ 122)) || decide (0 ≤ i))) := Lib.hid (by unfold tokb; rw [hd, hu, hi])
   have HY : Hid (tokb x = true → (s.take (k + 1)).all tokb = true) := Lib.hid (fun h => by
    rw [List.take_add_one, Hx.out, List.all_append, Hk.out]; simp [h])
   have HN : Hid (tokb x = false → tokenL s = false) := Lib.hid (fun h => by
    have : s.all tokb = false := by
     rw [List.all_eq_false]
     exact ⟨x, List.mem_of_getElem? Hx.out, by rw [h]; decide⟩
    unfold tokenL
    rw [this, Bool.and_false])
   clear hd hu hi
   cases d <;> cases u <;>
   ·go_wp2_with (first | (go_at_call 178; refine (hdi _).mono ?_; rintro e w' ⟨rfl, rfl⟩) | (go_at_call 93; refine (hca _).mono ?_; rintro e w' ⟨rfl, rfl⟩) | (go_at_call 78; refine (hf _).mono ?_; rintro e w' ⟨rfl, rfl⟩))
    all_goals first
     | exact ⟨⟨k + 1, by go_num, by omega, Lib.hid (HY.out (by rw [HB.out]; simp; try omega))⟩, by simp [intOf]; omega⟩
     | (go_ret; exact ⟨by rw [HN.out (by rw [HB.out]; simp; omega)]; rfl, rfl⟩)
  ·have HA : Hid (s.all tokb = true) := Lib.hid (by have := Hk.out; rwa [List.take_of_length_le (by omega)] at this)
   have HL : Hid (tokenL s = (decide (1 ≤ s.length) && decide (s.length ≤ 64))) := Lib.hid (by
    unfold tokenL
    rw [HA.out, Bool.and_true]
    congr 1
    exact decide_eq_decide.2 ⟨fun h => List.length_pos_iff.2 h, fun h => List.length_pos_iff.1 h⟩)
   go_wp2_with fail
   all_goals go_ret
   all_goals (refine ⟨congrArg (fun b => Ending.returned (Value.bool b)) ?_, rfl⟩; rw [HL.out, Bool.eq_iff_iff]; simp; try omega)
set_option maxHeartbeats 2000000 in
set_option maxRecDepth 100000 in
theorem valueR_any (s : List UInt8) (hs : s.length ≤ 1073741824) (w : World) : Calls Tryz.prog 177 #[.string ⟨s.toArray⟩] w fun e w' => e = .returned (.bool (valueL s)) ∧ w = w' := by
 rw [← value_eq]
 obtain ⟨r, hr⟩ : ∃ r, valueR s = r := ⟨_, rfl⟩
 rw [hr]
 have HR := Lib.hid hr
 clear hr
 go_enter Tryz.func177, Tryz.ntmps177
 go_wp2_with fail
 go_loop [3] (fun j => ∃ k : Nat, j = .int .i64 (k : Int) ∧ k ≤ s.length ∧ Hid ((s.take k).all vab = true)) (fun j => s.length - (intOf j).toNat)
 case atStart => exact ⟨0, rfl, by omega, Lib.hid rfl⟩
 case round =>
  obtain ⟨k, rfl, hk, Hk⟩ := hrel
  by_cases hlt : k < s.length
  ·obtain ⟨x, hx⟩ : ∃ x, (⟨s.toArray⟩ : ByteArray)[k]'hlt = x := ⟨_, rfl⟩
   have Hx : Hid (s[k]? = some x) := Lib.hid (by rw [← hx, List.getElem?_eq_getElem hlt]; rfl)
   obtain ⟨d, hd⟩ : ∃ d, bla x = d := ⟨_, rfl⟩
   have hbl := blankR_any x
   rw [hd] at hbl
   have HB : Hid (vab x = (d || vis x)) := Lib.hid (by rw [← hd]; unfold vab bla; rw [Bool.or_assoc, Bool.or_comm])
   have HY : Hid (vab x = true → (s.take (k + 1)).all vab = true) := Lib.hid (fun h => by
    rw [List.take_add_one, Hx.out, List.all_append, Hk.out]; simp [h])
   have HN : Hid (vab x = false → valueR s = false) := Lib.hid (fun h => by
    have : s.all vab = false := by
     rw [List.all_eq_false]
     exact ⟨x, List.mem_of_getElem? Hx.out, by rw [h]; decide⟩
    unfold valueR
    rw [this, Bool.false_and, Bool.false_and])
   clear hd
   cases d <;>
   ·go_wp2_with (go_at_call 175; refine (hbl _).mono ?_; rintro e w' ⟨rfl, rfl⟩)
    all_goals first
     | exact ⟨⟨k + 1, by go_num, by omega, Lib.hid (HY.out (by rw [HB.out]; simp [vis]; try omega))⟩, by simp [intOf]; omega⟩
     | (go_ret; exact ⟨by rw [← HR.out, HN.out (by rw [HB.out]; simp [vis]; omega)]; rfl, rfl⟩)
  ·have HA : Hid (s.all vab = true) := Lib.hid (by have := Hk.out; rwa [List.take_of_length_le (by omega)] at this)
   cases s with
   | nil =>
    go_wp2_with fail
    go_ret
    exact ⟨by rw [← HR.out]; rfl, rfl⟩
   | cons a t =>
    obtain ⟨y, hy⟩ : ∃ y, (a :: t)[t.length]'(by simp) = y := ⟨_, rfl⟩
    have hlt2 : ¬ (k : Int) < (t.length : Int) + 1 := by simp at hlt; omega
    have hs2 : (t.length : Int) ≤ 1073741823 := by simp at hs; omega
    clear hs hlt hk Hk
    have hi0 : ∀ h, (⟨(a :: t).toArray⟩ : ByteArray)[0]'h = a := fun _ => rfl
    have hi1 : ∀ h, (⟨(a :: t).toArray⟩ : ByteArray)[t.length]'h = y := fun _ => hy
    have HL0 : valueR (a :: t) = (decide (t.length + 1 ≤ 32768) && (!bla a && !bla y)) := by
     unfold valueR
     rw [HA.out, List.getLast?_eq_getElem?]
     have : (a :: t)[(a :: t).length - 1]? = some y := by rw [← hy]; simp
     rw [this]
     simp
    rw [HR.out] at HL0
    clear HR HA
    obtain ⟨d, hd⟩ : ∃ d, bla a = d := ⟨_, rfl⟩
    obtain ⟨u, hu⟩ : ∃ u, bla y = u := ⟨_, rfl⟩
    have hba := blankR_any a
    have hby := blankR_any y
    rw [hd] at hba
    rw [hu] at hby
    rw [hd, hu] at HL0
    clear hd hu hy
    by_cases hm : t.length + 1 ≤ 32768
    ·have hm2 : (t.length : Int) + 1 ≤ 32768 := by omega
     have hz : ((t.length : Int) + 1 == 0) = false := beq_false_of_ne (by omega)
     have hw : wrap64 ((t.length : Int) + 1 - 1) = (t.length : Int) := by unfold wrap64; omega
     have HL : Hid (r = (!d && !u)) := Lib.hid (by rw [HL0, decide_eq_true hm, Bool.true_and])
     clear HL0 hm
     cases d <;> cases u <;>
     ·go_wp2_with (go_at_call 175; first | (refine (hba _).mono ?_; rintro e w' ⟨rfl, rfl⟩) | (refine (hby _).mono ?_; rintro e w' ⟨rfl, rfl⟩))
      go_ret
      exact ⟨by rw [HL.out]; rfl, rfl⟩
    ·have hm2 : ¬ (t.length : Int) + 1 ≤ 32768 := by omega
     have HL : Hid (r = false) := Lib.hid (by rw [HL0, decide_eq_false hm, Bool.false_and])
     clear HL0 hm
     go_wp2_with fail
     go_ret
     exact ⟨by rw [HL.out]; rfl, rfl⟩
end Go.Proofs.YtpdedfpacklnoaaGreatDoor.H
namespace Go.Proofs.YtpdedfpacklnoaaGreatDoor.H
set_option maxRecDepth 100000
open Go.RowKit Go.BL

theorem dig_num {x : UInt8} (h : dig x = true) : ∃ d : Nat, d ≤ 9 ∧ IntKind.u8.wrap ((x.toNat : Int) - 48) = (d : Int) ∧ Lib.digitVal x = some d := by
 have h1 := (dig_val h).1
 simp [dig] at h
 refine ⟨x.toNat - 48, by omega, ?_, h1⟩
 simp [IntKind.wrap, IntKind.signed, IntKind.bits]
 omega
def DigR (s : List UInt8) (w : World) (e : Ending) (w' : World) : Prop := w = w' ∧ ∃ m : Nat, e = .returned (.tuple #[.int .i64 (m : Int), .bool (digitsL s).isSome]) ∧ m ≤ 999999999 ∧ ∀ k, digitsL s = some k → m = k
set_option maxRecDepth 100000 in
theorem digitsR_any (s : List UInt8) (hs : s.length ≤ 1073741824) (w : World) : Calls Tryz.prog 133 #[.string ⟨s.toArray⟩] w (DigR s w) := by
 go_enter Tryz.func133, Tryz.ntmps133
 go_wp2_with fail
 go_loop [4, 5] (fun a j => ∃ n k : Nat, a = .int .i64 (n : Int) ∧ j = .int .i64 (k : Int) ∧ k ≤ s.length ∧ k ≤ 9 ∧ n < 10 ^ k ∧ Hid ((s.take k).all dig = true) ∧ Hid (Lib.decFrom 0 (s.take k) = some n)) (fun _ j => s.length - (intOf j).toNat)
 case atStart => exact ⟨0, 0, rfl, rfl, by omega, by omega, by decide, Lib.hid rfl, Lib.hid rfl⟩
 case round =>
  obtain ⟨n, k, rfl, rfl, hk, hk9, hn, Hk, Hd⟩ := hrel
  have hn9 : n ≤ 999999999 := by
   have := Nat.pow_le_pow_right (n := 10) (by decide) hk9
   omega
  have HP := Lib.hid hn
  clear hn
  by_cases hlt : k < s.length
  ·obtain ⟨x, hx⟩ : ∃ x, (⟨s.toArray⟩ : ByteArray)[k]'hlt = x := ⟨_, rfl⟩
   have Hx : Hid (s[k]? = some x) := Lib.hid (by rw [← hx, List.getElem?_eq_getElem hlt]; rfl)
   obtain ⟨d, hd⟩ : ∃ d, dig x = d := ⟨_, rfl⟩
   have hdi := digitR_any x
   rw [hd] at hdi
   cases d
   ·have HF : Hid (digitsL s = none) := Lib.hid (by
     have : s.all dig = false := by
      rw [List.all_eq_false]
      exact ⟨x, List.mem_of_getElem? Hx.out, by rw [hd]; decide⟩
     unfold digitsL
     rw [if_neg (by rw [this]; simp)])
    clear hd
    go_wp2_with (go_at_call 178; refine (hdi _).mono ?_; rintro e w' ⟨rfl, rfl⟩)
    go_ret2
    exact ⟨rfl, 0, by rw [HF.out]; rfl, by decide, fun k h => by rw [HF.out] at h; cases h⟩
   ·by_cases h9 : 9 ≤ k
    ·have HF : Hid (digitsL s = none) := Lib.hid (by
      unfold digitsL
      rw [if_neg (by omega)])
     clear hd
     go_wp2_with (go_at_call 178; refine (hdi _).mono ?_; rintro e w' ⟨rfl, rfl⟩)
     go_ret2
     exact ⟨rfl, 0, by rw [HF.out]; rfl, by decide, fun k h => by rw [HF.out] at h; cases h⟩
    ·obtain ⟨v, hv9, hw, hv⟩ := dig_num hd
     have HK : Hid ((s.take (k + 1)).all dig = true) := Lib.hid (by
      rw [List.take_add_one, Hx.out, List.all_append, Hk.out]; simp [hd])
     have HD : Hid (Lib.decFrom 0 (s.take (k + 1)) = some (n * 10 + v)) := Lib.hid (Lib.decFrom_take s k 0 n x v Hd.out Hx.out hv)
     have HP2 : Hid (n * 10 + v < 10 ^ (k + 1)) := Lib.hid (by have := HP.out; rw [Nat.pow_succ]; omega)
     have hn8 : n ≤ 99999999 := by
      have h1 := Nat.pow_le_pow_right (n := 10) (by decide) (show k ≤ 8 by omega)
      have h2 := HP.out
      omega
     clear hd hv
     go_wp2_with (go_at_call 178; refine (hdi _).mono ?_; rintro e w' ⟨rfl, rfl⟩)
     exact ⟨⟨n * 10 + v, k + 1, by go_num, by go_num, by omega, by omega, HP2.out, HK, HD⟩, by simp [intOf]; omega⟩
  ·have HA : Hid (s.all dig = true) := Lib.hid (by have := Hk.out; rwa [List.take_of_length_le (by omega)] at this)
   have HD : Hid (numL s = n) := Lib.hid (by have := Hd.out; rw [List.take_of_length_le (by omega)] at this; unfold numL; rw [this]; rfl)
   have HF : Hid (digitsL s = if s ≠ [] then some n else none) := Lib.hid (by
    unfold digitsL
    by_cases h : s = []
    ·rw [if_neg (by simp [h]), if_neg (by simp [h])]
    ·rw [if_pos ⟨h, by omega, HA.out⟩, if_pos h, HD.out])
   cases s with
   | nil =>
    have hlt2 : ¬ (k : Int) < 0 := by omega
    go_wp2_with fail
    go_ret2
    exact ⟨rfl, n, by rw [HF.out]; rfl, hn9, fun k h => by rw [HF.out] at h; cases h⟩
   | cons a t =>
    have hlt2 : ¬ (k : Int) < (t.length : Int) + 1 := by simp at hlt; omega
    go_wp2_with fail
    go_ret2
    exact ⟨rfl, n, by rw [HF.out]; rfl, hn9, fun k h => by rw [HF.out, if_pos (by simp)] at h; injection h⟩
end Go.Proofs.YtpdedfpacklnoaaGreatDoor.H
namespace Go.Proofs.YtpdedfpacklnoaaGreatDoor.H
set_option maxRecDepth 100000

structure Ans where
 st : Int
 hs : List Hdr
 b : List UInt8
def fieldL (h : Hdr) : Bool := tokenL h.1 && (smallL h.1 == h.1) && !(h.1 == clK) && valueL h.2
def stat11 : List UInt8 := [72, 84, 84, 80, 47, 49, 46, 49, 32]
def lineA (n : Int) : List UInt8 := stat11 ++ Lib.itoa n ++ [32] ++ reasonL n
def clT : List UInt8 := [99, 111, 110, 116, 101, 110, 116, 45, 108, 101, 110, 103, 116, 104, 58, 32]
def clLine (n : Nat) : List UInt8 := clT ++ Lib.itoa n
def headA (a : Ans) : List UInt8 := lineA a.st ++ [13, 10] ++ textL a.hs ++ clLine a.b.length ++ sep4
def writeL (a : Ans) : Except Int (List UInt8) :=
 if reasonL a.st = [] then .error 1
 else if a.hs.all fieldL = false then .error 141
 else if 32 ≤ a.hs.length then .error 7
 else if 4096 < a.b.length then .error 142
 else if 65536 + 4 < (headA a).length then .error 4
 else .ok (headA a ++ a.b)
def statusL (l : List UInt8) : Int :=
 if Lib.hasPrefix l stat11 = false then 0
 else if (l.drop 9).length < 4 then 0
 else if (l.drop 9)[3]? ≠ some 32 then 0
 else if ((l.drop 9).take 3).all dig = false then 0
 else if reasonL (numL ((l.drop 9).take 3)) = [] ∨ reasonL (numL ((l.drop 9).take 3)) ≠ (l.drop 9).drop 4 then 0
 else (numL ((l.drop 9).take 3) : Int)
def atoiOk (v : List UInt8) : Bool := match Lib.atoiAll v with
 | .ok n => decide (0 ≤ n) && (Lib.itoa n == v)
 | _ => false
def readH : List (List UInt8) → Nat → List Hdr → List UInt8 → Except Int (List Hdr × List UInt8)
 | [], _, hs, len => .ok (hs, len)
 | l :: r, i, hs, len =>
  if r = [] ∧ (cutL l [58, 32]).1 = clK then
   if (cutL l [58, 32]).2.2 = true ∧ atoiOk (cutL l [58, 32]).2.1 = true ∧ i < 32 then readH r (i + 1) hs (cutL l [58, 32]).2.1 else .error 141
  else if (cutL l [58, 32]).2.2 = true ∧ fieldL ((cutL l [58, 32]).1, (cutL l [58, 32]).2.1) = true ∧ i < 32 then readH r (i + 1) (hs ++ [((cutL l [58, 32]).1, (cutL l [58, 32]).2.1)]) len
  else .error 141
def readL (b : List UInt8) : Except Int Ans :=
 if (cutL b sep4).2.2 = false then .error 140
 else match lns (cutL b sep4).1 [13, 10] with
  | [] => .error 140
  | l0 :: r => if statusL l0 = 0 then .error 140 else
   match readH r 0 [] [] with
   | .error c => .error c
   | .ok (hs, len) => if len ≠ Lib.itoa ((cutL b sep4).2.1.length : Nat) ∨ 4096 < (cutL b sep4).2.1.length then .error 142
    else if 65536 < (cutL b sep4).1.length then .error 4
    else .ok ⟨statusL l0, hs, (cutL b sep4).2.1⟩
/- Lines joined. -/
def joinL : List (List UInt8) → List UInt8
 | [] => []
 | [x] => x
 | x :: r => x ++ 13 :: 10 :: joinL r
theorem join_cons (x : List UInt8) {r : List (List UInt8)} (h : r ≠ []) : joinL (x :: r) = x ++ 13 :: 10 :: joinL r := by
 cases r with
 | nil => exact absurd rfl h
 | cons y r => rfl
/-- A line: no end of line in it, and not empty. -/
def Line (l : List UInt8) : Prop := l ≠ [] ∧ crL l = false
theorem crL_cons {c : UInt8} {t : List UInt8} (h : crL (c :: t) = false) : c ≠ 13 ∧ c ≠ 10 ∧ crL t = false := by
 unfold crL at h ⊢
 simp only [List.any_cons, Bool.or_eq_false_iff, crb, beq_eq_false_iff_ne] at h
 exact ⟨h.1.1, h.1.2, by simpa [crb] using h.2⟩
/- The first empty line. -/
theorem ix_skip {c : UInt8} {t : List UInt8} {n : Nat} (hc : c ≠ 13) (h : Lib.index t sep4 = n) : Lib.index (c :: t) sep4 = ((n + 1 : Nat) : Int) := by
 rw [index_cons, if_neg (by simp [sep4, List.isPrefixOf]; intro e; exact absurd e.symm hc), if_neg (by rw [h, beq_iff_eq]; omega), h]
 omega
theorem ix_line : ∀ {x r : List UInt8} {n : Nat}, crL x = false → Lib.index r sep4 = (n : Int) → Lib.index (x ++ r) sep4 = ((x.length + n : Nat) : Int)
 | [], r, n, _, h => by simpa using h
 | c :: t, r, n, hx, h => by
  obtain ⟨h1, h2, h3⟩ := crL_cons hx
  have := ix_skip h1 (ix_line h3 h)
  rw [List.cons_append, this, List.length_cons]
  omega
theorem ix_end {y : UInt8} {u : List UInt8} {n : Nat} (hy : y ≠ 13) (h : Lib.index (y :: u) sep4 = (n : Int)) : Lib.index (13 :: 10 :: y :: u) sep4 = ((n + 2 : Nat) : Int) := by
 have h10 := ix_skip (c := 10) (by decide) h
 rw [index_cons, if_neg (by simp [sep4, List.isPrefixOf]; intro e; exact absurd e.symm hy), if_neg (by rw [h10, beq_iff_eq]; omega), h10]
 omega
theorem ix_join : ∀ (ls : List (List UInt8)) (body : List UInt8), ls ≠ [] → (∀ l ∈ ls, Line l) → Lib.index (joinL ls ++ (sep4 ++ body)) sep4 = ((joinL ls).length : Int)
 | [], _, h, _ => absurd rfl h
 | [x], body, _, h => by
  have h0 : Lib.index (sep4 ++ body) sep4 = ((0 : Nat) : Int) := by
   show Lib.index (13 :: (10 :: 13 :: 10 :: body)) sep4 = _
   rw [index_cons, if_pos (by simp [sep4, List.isPrefixOf])]
   rfl
  have := ix_line (h x (by simp)).2 h0
  rw [joinL, this]
  simp
 | x :: y :: r, body, _, h => by
  have ih := ix_join (y :: r) body (by simp) (fun l hl => h l (by simp [hl]))
  rw [join_cons x (by simp), List.append_assoc]
  obtain ⟨c, t, hct⟩ : ∃ c t, joinL (y :: r) = c :: t ∧ c ≠ 13 := by
   obtain ⟨hy0, hy1⟩ := h y (by simp)
   cases y with
   | nil => exact absurd rfl hy0
   | cons c t =>
    cases r with
    | nil => exact ⟨c, t, rfl, (crL_cons hy1).1⟩
    | cons z r => exact ⟨c, _, rfl, (crL_cons hy1).1⟩
  obtain ⟨hct, hc⟩ := hct
  rw [hct] at ih ⊢
  have h2 := ix_end hc ih
  have := ix_line (h x (by simp)).2 h2
  show Lib.index (x ++ (13 :: 10 :: c :: t.append (sep4 ++ body))) sep4 = _
  rw [this]
  simp
  omega
/- Numbers. -/
theorem dec_snoc : ∀ (l : List UInt8) (acc n : Nat) (b : UInt8) (d : Nat), Lib.decFrom acc l = some n → Lib.digitVal b = some d → Lib.decFrom acc (l ++ [b]) = some (n * 10 + d)
 | [], acc, n, b, d, h, hd => by
  simp only [Lib.decFrom, Option.some.injEq] at h
  simp only [List.nil_append, Lib.decFrom, hd, h]
 | c :: r, acc, n, b, d, h, hd => by
  simp only [Lib.decFrom] at h
  simp only [List.cons_append, Lib.decFrom]
  cases e : Lib.digitVal c with
  | none => rw [e] at h; cases h
  | some k => rw [e] at h; exact dec_snoc r _ n b d h hd
theorem digit_of (d : Nat) (h : d < 10) : dig (UInt8.ofNat (48 + d)) = true ∧ Lib.digitVal (UInt8.ofNat (48 + d)) = some d := by
 have : ∀ k : Fin 10, dig (UInt8.ofNat (48 + k.val)) = true ∧ Lib.digitVal (UInt8.ofNat (48 + k.val)) = some k.val := by decide
 exact this ⟨d, h⟩
theorem digits_ok (u : Nat) : (Lib.decDigits u).all dig = true ∧ Lib.decDigits u ≠ [] ∧ Lib.decFrom 0 (Lib.decDigits u) = some u := by
 induction u using Nat.strongRecOn with
 | _ u ih =>
  rw [Lib.decDigits]
  by_cases h : u < 10
  ·rw [dif_pos h]
   obtain ⟨h1, h2⟩ := digit_of u h
   generalize UInt8.ofNat (48 + u) = c at *
   refine ⟨by simp [h1], by simp, ?_⟩
   simp only [Lib.decFrom, h2]
   simp
  ·rw [dif_neg h]
   obtain ⟨h1, h2⟩ := digit_of (u % 10) (by omega)
   obtain ⟨i1, i2, i3⟩ := ih (u / 10) (by omega)
   generalize UInt8.ofNat (48 + u % 10) = c at *
   refine ⟨by rw [List.all_append, i1]; simp [h1], by simp, ?_⟩
   rw [dec_snoc _ 0 (u / 10) _ (u % 10) i3 h2]
   congr 1
   omega
theorem digits_len : ∀ (k u : Nat), u < 10 ^ (k + 1) → (Lib.decDigits u).length ≤ k + 1
 | 0, u, h => by rw [Lib.decDigits, dif_pos (by simpa using h)]; simp
 | k + 1, u, h => by
  rw [Lib.decDigits]
  split
  ·simp
  ·have := digits_len k (u / 10) (by rw [Nat.pow_succ] at h; omega)
   simp
   omega
theorem atoi_itoa (n : Nat) (h : n ≤ 4096) : Lib.atoiAll (Lib.itoa (n : Int)) = .ok (n : Int) := by
 obtain ⟨h1, h2, h3⟩ := digits_ok n
 have h4 := digits_len 3 n (by omega)
 rw [Lib.itoa_nonneg, Lib.atoiAll_short _ (by omega), atoi_num h2 h1]
 unfold numL
 rw [h3]
 rfl
theorem atoiOk_itoa (n : Nat) (h : n ≤ 4096) : atoiOk (Lib.itoa (n : Int)) = true := by
 unfold atoiOk
 rw [atoi_itoa n h]
 simp
/- Cuts. -/
theorem tok_facts (c : UInt8) : tokb c = true → c ≠ 58 ∧ crb c = false := byte_all (fun c => tokb c = true → c ≠ 58 ∧ crb c = false) (by decide +kernel) c
theorem vab_facts (c : UInt8) : vab c = true → crb c = false := byte_all (fun c => vab c = true → crb c = false) (by decide +kernel) c
theorem dig_facts (c : UInt8) : dig c = true → crb c = false := byte_all (fun c => dig c = true → crb c = false) (by decide +kernel) c
theorem ix_colon : ∀ {x r : List UInt8}, (∀ c ∈ x, c ≠ 58) → Lib.index (x ++ 58 :: 32 :: r) [58, 32] = (x.length : Int)
 | [], r, _ => by
  show Lib.index (58 :: 32 :: r) [58, 32] = _
  rw [index_cons, if_pos (by simp [List.isPrefixOf])]
  rfl
 | c :: t, r, h => by
  have ih := ix_colon (x := t) (r := r) (fun c hc => h c (by simp [hc]))
  have hc := h c (by simp)
  show Lib.index (c :: (t ++ 58 :: 32 :: r)) [58, 32] = _
  rw [index_cons, if_neg (by simp [List.isPrefixOf]; intro e; exact absurd e.symm hc), if_neg (by rw [ih, beq_iff_eq]; omega), ih]
  simp
def lineH (h : Hdr) : List UInt8 := h.1 ++ 58 :: 32 :: h.2
theorem cut_colon {x r : List UInt8} (h : ∀ c ∈ x, c ≠ 58) : cutL (x ++ 58 :: 32 :: r) [58, 32] = (x, r, true) := by
 unfold cutL Lib.cut
 rw [ix_colon h, if_pos (by omega)]
 simp only [Int.toNat_natCast, List.take_left]
 have e : (x ++ 58 :: 32 :: r).drop (x.length + ([58, 32] : List UInt8).length) = r := by
  rw [show x ++ 58 :: 32 :: r = (x ++ [58, 32]) ++ r by simp, List.drop_left' (by simp)]
 rw [e]
theorem field_parts {h : Hdr} (hf : fieldL h = true) : tokenL h.1 = true ∧ smallL h.1 = h.1 ∧ h.1 ≠ clK ∧ valueL h.2 = true := by
 unfold fieldL at hf
 simp only [Bool.and_eq_true, beq_iff_eq, Bool.not_eq_true', beq_eq_false_iff_ne] at hf
 exact ⟨hf.1.1.1, hf.1.1.2, hf.1.2, hf.2⟩
theorem token_all {s : List UInt8} (h : tokenL s = true) : ∀ c ∈ s, tokb c = true := by
 unfold tokenL at h
 simp only [Bool.and_eq_true, List.all_eq_true] at h
 exact h.2
theorem value_all {s : List UInt8} (h : valueL s = true) : ∀ c ∈ s, vab c = true := by
 unfold valueL at h
 simp only [Bool.and_eq_true, List.all_eq_true] at h
 exact h.2
theorem crL_of {s : List UInt8} (h : ∀ c ∈ s, crb c = false) : crL s = false := by
 unfold crL
 rw [List.any_eq_false]
 intro c hc
 rw [h c hc]; decide
theorem crL_app (a b : List UInt8) : crL (a ++ b) = (crL a || crL b) := by unfold crL; rw [List.any_append]
theorem line_field {h : Hdr} (hf : fieldL h = true) : Line (lineH h) ∧ cutL (lineH h) [58, 32] = (h.1, h.2, true) := by
 obtain ⟨h1, _, _, h4⟩ := field_parts hf
 refine ⟨⟨by unfold lineH; simp, ?_⟩, cut_colon (fun c hc => (tok_facts c (token_all h1 c hc)).1)⟩
 unfold lineH
 rw [show h.1 ++ 58 :: 32 :: h.2 = h.1 ++ ([58, 32] ++ h.2) from rfl, crL_app, crL_app, crL_of (fun c hc => (tok_facts c (token_all h1 c hc)).2), crL_of (s := h.2) (fun c hc => vab_facts c (value_all h4 c hc))]
 decide
theorem itoa_line (n : Nat) : crL (Lib.itoa (n : Int)) = false := by
 rw [Lib.itoa_nonneg]
 refine crL_of (fun c hc => dig_facts c ?_)
 exact List.all_eq_true.1 (digits_ok n).1 c hc
theorem line_cl (n : Nat) : Line (clLine n) ∧ cutL (clLine n) [58, 32] = (clK, Lib.itoa (n : Int), true) := by
 refine ⟨⟨by unfold clLine clT; simp, ?_⟩, ?_⟩
 ·unfold clLine
  rw [crL_app, itoa_line]
  decide
 ·exact cut_colon (x := clK) (r := Lib.itoa (n : Int)) (by decide)
def statuses : List Int := [200, 400, 404, 405, 413, 414, 431, 500, 501, 503, 504, 505, 507]
theorem reason_in {n : Int} (h : reasonL n ≠ []) : n ∈ statuses := by
 refine Decidable.byContradiction (fun hn => h ?_)
 unfold statuses at hn
 simp only [List.mem_cons, List.not_mem_nil, or_false, not_or] at hn
 unfold reasonL
 rw [if_neg (hn.1), if_neg (hn.2.1), if_neg (hn.2.2.1), if_neg (hn.2.2.2.1), if_neg (hn.2.2.2.2.1), if_neg (hn.2.2.2.2.2.1), if_neg (hn.2.2.2.2.2.2.1), if_neg (hn.2.2.2.2.2.2.2.1), if_neg (hn.2.2.2.2.2.2.2.2.1), if_neg (hn.2.2.2.2.2.2.2.2.2.1), if_neg (hn.2.2.2.2.2.2.2.2.2.2.1), if_neg (hn.2.2.2.2.2.2.2.2.2.2.2.1), if_neg (hn.2.2.2.2.2.2.2.2.2.2.2.2)]
theorem status_line : ∀ n ∈ statuses, Line (lineA n) ∧ statusL (lineA n) = n := by
 have : ∀ n ∈ statuses, (lineA n ≠ [] ∧ crL (lineA n) = false) ∧ statusL (lineA n) = n := by decide +kernel
 exact this
theorem join_head (hs : List Hdr) (c : List UInt8) : joinL (hs.map lineH ++ [c]) = textL hs ++ c := by
 induction hs with
 | nil => rfl
 | cons x r ih =>
  rw [List.map_cons, List.cons_append, join_cons _ (by simp), ih]
  simp [textL, lineT, lineH]
theorem head_join (a : Ans) : headA a = joinL (lineA a.st :: (a.hs.map lineH ++ [clLine a.b.length])) ++ sep4 := by
 rw [join_cons _ (by simp), join_head]
 simp [headA]
theorem read_all {n : Nat} (hn : n ≤ 4096) : ∀ (hs : List Hdr) (i : Nat) (acc : List Hdr) (len : List UInt8), hs.all fieldL = true → hs.length + i < 32 → readH (hs.map lineH ++ [clLine n]) i acc len = .ok (acc ++ hs, Lib.itoa (n : Int))
 | [], i, acc, len, _, hi => by
  simp only [List.map_nil, List.nil_append, readH, (line_cl n).2]
  have hi2 : i < 32 := by simpa using hi
  simp [atoiOk_itoa n hn, hi2]
 | x :: r, i, acc, len, hf, hi => by
  simp only [List.all_cons, Bool.and_eq_true] at hf
  simp only [List.map_cons, List.cons_append, readH, (line_field hf.1).2]
  have hi2 : i < 32 := by simp at hi; omega
  have ih := read_all hn r (i + 1) (acc ++ [(x.1, x.2)]) len hf.2 (by simp at hi; omega)
  rw [if_neg (by simp), if_pos (by simp [hf.1, hi2]), ih]
  simp
/- What was read. -/
theorem itoa_in : ∀ n ∈ statuses, ∃ a b c : UInt8, Lib.itoa n = [a, b, c] ∧ n = (a.toNat - 48) * 100 + (b.toNat - 48) * 10 + (c.toNat - 48) ∧ (48 ≤ a.toNat ∧ a.toNat ≤ 57) ∧ (48 ≤ b.toNat ∧ b.toNat ≤ 57) ∧ 48 ≤ c.toNat ∧ c.toNat ≤ 57 := by
 intro n hn
 unfold statuses at hn
 simp only [List.mem_cons, List.not_mem_nil, or_false] at hn
 rcases hn with rfl | rfl | rfl | rfl | rfl | rfl | rfl | rfl | rfl | rfl | rfl | rfl | rfl
 ·exact ⟨50, 48, 48, by decide +kernel, by decide, by decide, by decide, by decide⟩
 ·exact ⟨52, 48, 48, by decide +kernel, by decide, by decide, by decide, by decide⟩
 ·exact ⟨52, 48, 52, by decide +kernel, by decide, by decide, by decide, by decide⟩
 ·exact ⟨52, 48, 53, by decide +kernel, by decide, by decide, by decide, by decide⟩
 ·exact ⟨52, 49, 51, by decide +kernel, by decide, by decide, by decide, by decide⟩
 ·exact ⟨52, 49, 52, by decide +kernel, by decide, by decide, by decide, by decide⟩
 ·exact ⟨52, 51, 49, by decide +kernel, by decide, by decide, by decide, by decide⟩
 ·exact ⟨53, 48, 48, by decide +kernel, by decide, by decide, by decide, by decide⟩
 ·exact ⟨53, 48, 49, by decide +kernel, by decide, by decide, by decide, by decide⟩
 ·exact ⟨53, 48, 51, by decide +kernel, by decide, by decide, by decide, by decide⟩
 ·exact ⟨53, 48, 52, by decide +kernel, by decide, by decide, by decide, by decide⟩
 ·exact ⟨53, 48, 53, by decide +kernel, by decide, by decide, by decide, by decide⟩
 ·exact ⟨53, 48, 55, by decide +kernel, by decide, by decide, by decide, by decide⟩
end Go.Proofs.YtpdedfpacklnoaaGreatDoor.H
namespace Go.Proofs.YtpdedfpacklnoaaGreatDoor.H
set_option maxRecDepth 100000
open Go.RowKit Go.BL

/-- The cells of the result: a request's four. -/
structure B4 (w : World) (B : Nat) (m p h b : Value) : Prop where
 c0 : w.cell? ⟨B, 0, none⟩ = some m
 c1 : w.cell? ⟨B, 1, none⟩ = some p
 c2 : w.cell? ⟨B, 2, none⟩ = some h
 c3 : w.cell? ⟨B, 3, none⟩ = some b
 z0 : w.frozen? ⟨B, 0, none⟩ = false
 z1 : w.frozen? ⟨B, 1, none⟩ = false
 z2 : w.frozen? ⟨B, 2, none⟩ = false
 z3 : w.frozen? ⟨B, 3, none⟩ = false
theorem B4.below {w w' : World} {B C : Nat} {m p h b : Value} (k : B4 w B m p h b) (hb : Below C w w') (hC : B < C) : B4 w' B m p h b :=
 ⟨(hb.cell hC).trans k.c0, (hb.cell hC).trans k.c1, (hb.cell hC).trans k.c2, (hb.cell hC).trans k.c3, (hb.frozen hC).trans k.z0, (hb.frozen hC).trans k.z1, (hb.frozen hC).trans k.z2, (hb.frozen hC).trans k.z3⟩
theorem Bsl.conv {w : World} {v : Value} {b : List UInt8} (h : Bsl w v b) : (convert 75 9 v).run Tryz.prog w = .ok (.string ⟨b.toArray⟩) w := by
 obtain ⟨_, ⟨A, c, rfl, rfl, _⟩ | ⟨blk, off, c, rfl, _, _, hc⟩⟩ := h
 ·exact conv_zero w A c
 ·exact conv_some w blk off b.length c b rfl hc
theorem findFrom_zero (s t : List UInt8) : findFrom s t 0 = Lib.index s t := by
 unfold findFrom
 rw [List.drop_zero]
 split
 ·rename_i h; exact h.symm
 ·omega

end Go.Proofs.YtpdedfpacklnoaaGreatDoor.H
namespace Go.Proofs.YtpdedfpacklnoaaGreatDoor.H
set_option maxRecDepth 100000
open Go.RowKit Go.BL

theorem pputH (P : Program) (f : Func) (R : Ending → World → Prop) (K : Act → World → Prop) (j : Option Tmp) (v : Value) : ∀ c (a : Act) w, Exit.then K (bodyPost P f R) (.panic c) (a.put j v) w → Exit.then K (bodyPost P f R) (.panic c) a w := fun _ _ _ h => by cases j <;> exact h
theorem pair_cells {w : World} {x y : Value} {t : TypeId} : (w.alloc (.cells #[x, y] t)).cell? ⟨w.heap.size, 0, none⟩ = some x ∧ (w.alloc (.cells #[x, y] t)).cell? ⟨w.heap.size, 1, none⟩ = some y := by
 constructor <;> (rw [World.cell?_alloc_at _ _ _ _ rfl]; rfl)
set_option maxHeartbeats 4000000 in
set_option maxRecDepth 100000 in
theorem field_any (n v : List UInt8) (w : World) (hn : n.length ≤ 1073741824) (hv : v.length ≤ 1073741824) : Calls Tryz.prog 76 #[.agg #[.string ⟨n.toArray⟩, .string ⟨v.toArray⟩]] w (RetV (.bool (fieldL (n, v))) w) := by
 obtain ⟨w0, hw0⟩ : ∃ w0, w.alloc (.cells #[.string ⟨n.toArray⟩, .string ⟨v.toArray⟩] 45) = w0 := ⟨_, rfl⟩
 have HB : Hid (Below w.heap.size w w0) := Lib.hid (by rw [← hw0]; exact (Below.refl _ _).alloc (Nat.le_refl _) _)
 have HS : Hid (w.heap.size < w0.heap.size) := Lib.hid (by rw [← hw0]; simp)
 have HP : Hid (w0.cell? ⟨w.heap.size, 0, none⟩ = some (.string ⟨n.toArray⟩) ∧ w0.cell? ⟨w.heap.size, 1, none⟩ = some (.string ⟨v.toArray⟩)) := Lib.hid (by rw [← hw0]; exact pair_cells)
 have htk := token_any n (by omega)
 have hsm := small_any n (by omega)
 have hvl := value_any v (by omega)
 obtain ⟨k, hk⟩ : ∃ k, tokenL n = k := ⟨_, rfl⟩
 obtain ⟨l, hl⟩ : ∃ l, smallL n = l := ⟨_, rfl⟩
 obtain ⟨r, hr⟩ : ∃ k, valueL v = k := ⟨_, rfl⟩
 obtain ⟨g1, h1⟩ : ∃ k, (l == n) = k := ⟨_, rfl⟩
 obtain ⟨g2, h2⟩ : ∃ k, (n == [99, 111, 110, 116, 101, 110, 116, 45, 108, 101, 110, 103, 116, 104]) = k := ⟨_, rfl⟩
 have h2' : (n != [99, 111, 110, 116, 101, 110, 116, 45, 108, 101, 110, 103, 116, 104]) = !g2 := by rw [bne, h2]
 have HF : Hid (fieldL (n, v) = (k && g1 && !g2 && r)) := Lib.hid (by
  unfold fieldL
  simp only
  rw [hk, hl, h1, hr, show (n == clK) = g2 from h2])
 rw [hk] at htk
 rw [hl] at hsm
 rw [hr] at hvl
 clear hk hl hr hn hv
 obtain ⟨q0, q1⟩ := HP.out
 go_enter Tryz.func76, Tryz.ntmps76
 go_wp2_with fail
 cases k
 case false =>
  refine wp_region_held_drew (S := fun u => u.cell? ⟨w.heap.size, 0, none⟩ = some (.string ⟨n.toArray⟩) ∧ u.cell? ⟨w.heap.size, 1, none⟩ = some (.string ⟨v.toArray⟩)) (by kernel_rfl) ?_ (fun hHeld => ?_)
  ·exact ⟨q0, q1⟩
  refine wpAnyH_take (i := 0) (v := .pointer (some ⟨w.heap.size, 0, none⟩)) rfl (by kernel_rfl) (by kernel_rfl) (by kernel_rfl) (pputH _ _ _ _ _ _) (Or.inl ⟨by kernel_rfl, ?_⟩) hHeld ?_
  ·intro u hS; obtain ⟨p0, p1⟩ := hS; go_simp
  refine wpAnyH_take (i := 1) (v := .string ⟨n.toArray⟩) rfl (by kernel_rfl) (by kernel_rfl) (by kernel_rfl) (pputH _ _ _ _ _ _) (Or.inl ⟨by kernel_rfl, ?_⟩) hHeld ?_
  ·intro u hS; obtain ⟨p0, p1⟩ := hS; go_simp
  refine wpAnyH_ready (rs := [2]) (by kernel_rfl) (by simp) ?_
  refine AllReadyH.cons (i := 2) rfl (fun K hK => ?_) AllReadyH.nil
  go_simp
  go_at_call 128
  refine (htk _).mono ?_
  rintro e w' ⟨rfl, rfl⟩
  refine hK.out _ _ ?_ (fun hHeld => ?_)
  ·exact ⟨q0, q1⟩
  clear hK K
  refine wpAnyH_take (i := 3) (v := .bool false) rfl (by kernel_rfl) (by kernel_rfl) (by kernel_rfl) (pputH _ _ _ _ _ _) (Or.inl ⟨by kernel_rfl, ?_⟩) hHeld ?_
  ·intro u hS; obtain ⟨p0, p1⟩ := hS; go_simp
  refine wpAnyH_take (i := 4) (v := undef) rfl (by kernel_rfl) (by kernel_rfl) (by kernel_rfl) (pputH _ _ _ _ _ _) (Or.inr ⟨by kernel_rfl, rfl⟩) hHeld ?_
  refine wpAnyH_take (i := 5) (v := undef) rfl (by kernel_rfl) (by kernel_rfl) (by kernel_rfl) (pputH _ _ _ _ _ _) (Or.inr ⟨by kernel_rfl, rfl⟩) hHeld ?_
  refine wpAnyH_take (i := 7) (v := undef) rfl (by kernel_rfl) (by kernel_rfl) (by kernel_rfl) (pputH _ _ _ _ _ _) (Or.inr ⟨by kernel_rfl, rfl⟩) hHeld ?_
  refine wpAnyH_take (i := 8) (v := undef) rfl (by kernel_rfl) (by kernel_rfl) (by kernel_rfl) (pputH _ _ _ _ _ _) (Or.inr ⟨by kernel_rfl, rfl⟩) hHeld ?_
  refine wpAnyH_take (i := 6) (v := undef) rfl (by kernel_rfl) (by kernel_rfl) (by kernel_rfl) (pputH _ _ _ _ _ _) (Or.inr ⟨by kernel_rfl, rfl⟩) hHeld ?_
  refine wpAnyH_take (i := 9) (v := undef) rfl (by kernel_rfl) (by kernel_rfl) (by kernel_rfl) (pputH _ _ _ _ _ _) (Or.inr ⟨by kernel_rfl, rfl⟩) hHeld ?_
  refine wpAnyH_take (i := 10) (v := .bool false) rfl (by kernel_rfl) (by kernel_rfl) (by kernel_rfl) (pputH _ _ _ _ _ _) (Or.inl ⟨by kernel_rfl, ?_⟩) hHeld ?_
  ·intro u hS; obtain ⟨p0, p1⟩ := hS; go_simp
  refine wpAnyH_take (i := 11) (v := .bool false) rfl (by kernel_rfl) (by kernel_rfl) (by kernel_rfl) (pputH _ _ _ _ _ _) (Or.inl ⟨by kernel_rfl, ?_⟩) hHeld ?_
  ·intro u hS; obtain ⟨p0, p1⟩ := hS; go_simp
  refine wpAnyH_take (i := 12) (v := undef) rfl (by kernel_rfl) (by kernel_rfl) (by kernel_rfl) (pputH _ _ _ _ _ _) (Or.inr ⟨by kernel_rfl, rfl⟩) hHeld ?_
  refine wpAnyH_take (i := 13) (v := undef) rfl (by kernel_rfl) (by kernel_rfl) (by kernel_rfl) (pputH _ _ _ _ _ _) (Or.inr ⟨by kernel_rfl, rfl⟩) hHeld ?_
  refine wpAnyH_take (i := 14) (v := undef) rfl (by kernel_rfl) (by kernel_rfl) (by kernel_rfl) (pputH _ _ _ _ _ _) (Or.inr ⟨by kernel_rfl, rfl⟩) hHeld ?_
  refine wpAnyH_take (i := 15) (v := .bool false) rfl (by kernel_rfl) (by kernel_rfl) (by kernel_rfl) (pputH _ _ _ _ _ _) (Or.inl ⟨by kernel_rfl, ?_⟩) hHeld ?_
  ·intro u hS; obtain ⟨p0, p1⟩ := hS; go_simp
  refine wpAnyH_take (i := 16) (v := .bool false) rfl (by kernel_rfl) (by kernel_rfl) (by kernel_rfl) (pputH _ _ _ _ _ _) (Or.inl ⟨by kernel_rfl, ?_⟩) hHeld ?_
  ·intro u hS; obtain ⟨p0, p1⟩ := hS; go_simp
  refine wpAnyH_take (i := 17) (v := undef) rfl (by kernel_rfl) (by kernel_rfl) (by kernel_rfl) (pputH _ _ _ _ _ _) (Or.inr ⟨by kernel_rfl, rfl⟩) hHeld ?_
  refine wpAnyH_take (i := 18) (v := undef) rfl (by kernel_rfl) (by kernel_rfl) (by kernel_rfl) (pputH _ _ _ _ _ _) (Or.inr ⟨by kernel_rfl, rfl⟩) hHeld ?_
  refine wpAnyH_take (i := 19) (v := undef) rfl (by kernel_rfl) (by kernel_rfl) (by kernel_rfl) (pputH _ _ _ _ _ _) (Or.inr ⟨by kernel_rfl, rfl⟩) hHeld ?_
  refine wpAnyH_ready (rs := [20]) (by kernel_rfl) (by simp) ?_
  refine AllReadyH.cons (i := 20) rfl (fun K hK => ?_) AllReadyH.nil
  go_simp
  refine hK.out _ _ ?_ (fun hHeld => ?_)
  ·exact ⟨q0, q1⟩
  clear hK K
  refine wpAnyH_ready (rs := [21]) (by kernel_rfl) (by simp) ?_
  refine AllReadyH.cons (i := 21) rfl (fun K hK => ?_) AllReadyH.nil
  go_simp
  refine hK.out _ _ ?_ (fun hHeld => ?_)
  ·exact ⟨q0, q1⟩
  clear hK K
  refine wpAnyH_done (by kernel_rfl) ?_ _
  go_wp2_with fail
  go_ret
  refine ⟨?_, HB.out.trans ((Below.refl w0.heap.size w0).drew.mono HB.out.size)⟩
  have hff : fieldL (n, v) = false := by rw [HF.out]; rfl
  rw [hff]
  simp
 cases g1
 case false =>
  refine wp_region_held_drew (S := fun u => u.cell? ⟨w.heap.size, 0, none⟩ = some (.string ⟨n.toArray⟩) ∧ u.cell? ⟨w.heap.size, 1, none⟩ = some (.string ⟨v.toArray⟩)) (by kernel_rfl) ?_ (fun hHeld => ?_)
  ·exact ⟨q0, q1⟩
  refine wpAnyH_take (i := 0) (v := .pointer (some ⟨w.heap.size, 0, none⟩)) rfl (by kernel_rfl) (by kernel_rfl) (by kernel_rfl) (pputH _ _ _ _ _ _) (Or.inl ⟨by kernel_rfl, ?_⟩) hHeld ?_
  ·intro u hS; obtain ⟨p0, p1⟩ := hS; go_simp
  refine wpAnyH_take (i := 1) (v := .string ⟨n.toArray⟩) rfl (by kernel_rfl) (by kernel_rfl) (by kernel_rfl) (pputH _ _ _ _ _ _) (Or.inl ⟨by kernel_rfl, ?_⟩) hHeld ?_
  ·intro u hS; obtain ⟨p0, p1⟩ := hS; go_simp
  refine wpAnyH_ready (rs := [2]) (by kernel_rfl) (by simp) ?_
  refine AllReadyH.cons (i := 2) rfl (fun K hK => ?_) AllReadyH.nil
  go_simp
  go_at_call 128
  refine (htk _).mono ?_
  rintro e w' ⟨rfl, rfl⟩
  refine hK.out _ _ ?_ (fun hHeld => ?_)
  ·exact ⟨q0, q1⟩
  clear hK K
  refine wpAnyH_take (i := 3) (v := .bool true) rfl (by kernel_rfl) (by kernel_rfl) (by kernel_rfl) (pputH _ _ _ _ _ _) (Or.inl ⟨by kernel_rfl, ?_⟩) hHeld ?_
  ·intro u hS; obtain ⟨p0, p1⟩ := hS; go_simp
  refine wpAnyH_take (i := 4) (v := .pointer (some ⟨w.heap.size, 0, none⟩)) rfl (by kernel_rfl) (by kernel_rfl) (by kernel_rfl) (pputH _ _ _ _ _ _) (Or.inl ⟨by kernel_rfl, ?_⟩) hHeld ?_
  ·intro u hS; obtain ⟨p0, p1⟩ := hS; go_simp
  refine wpAnyH_take (i := 5) (v := .string ⟨n.toArray⟩) rfl (by kernel_rfl) (by kernel_rfl) (by kernel_rfl) (pputH _ _ _ _ _ _) (Or.inl ⟨by kernel_rfl, ?_⟩) hHeld ?_
  ·intro u hS; obtain ⟨p0, p1⟩ := hS; go_simp
  refine wpAnyH_take (i := 7) (v := .pointer (some ⟨w.heap.size, 0, none⟩)) rfl (by kernel_rfl) (by kernel_rfl) (by kernel_rfl) (pputH _ _ _ _ _ _) (Or.inl ⟨by kernel_rfl, ?_⟩) hHeld ?_
  ·intro u hS; obtain ⟨p0, p1⟩ := hS; go_simp
  refine wpAnyH_take (i := 8) (v := .string ⟨n.toArray⟩) rfl (by kernel_rfl) (by kernel_rfl) (by kernel_rfl) (pputH _ _ _ _ _ _) (Or.inl ⟨by kernel_rfl, ?_⟩) hHeld ?_
  ·intro u hS; obtain ⟨p0, p1⟩ := hS; go_simp
  refine wpAnyH_ready (rs := [6]) (by kernel_rfl) (by simp) ?_
  refine AllReadyH.cons (i := 6) rfl (fun K hK => ?_) AllReadyH.nil
  go_simp
  go_at_call 129
  refine (hsm _).mono ?_
  rintro e w3 ⟨rfl, hb⟩
  have HB3 := Lib.hid ((Below.refl w0.heap.size w0).drew.trans hb)
  clear hb
  have k0 := (HB3.out.cell (p := ⟨w.heap.size, 0, none⟩) HS.out).trans q0
  have k1 := (HB3.out.cell (p := ⟨w.heap.size, 1, none⟩) HS.out).trans q1
  refine hK.out _ _ ?_ (fun hHeld => ?_)
  ·exact ⟨k0, k1⟩
  clear hK K
  refine wpAnyH_take (i := 9) (v := .bool false) rfl (by kernel_rfl) (by kernel_rfl) (by kernel_rfl) (pputH _ _ _ _ _ _) (Or.inl ⟨by kernel_rfl, ?_⟩) hHeld ?_
  ·intro u hS; obtain ⟨p0, p1⟩ := hS; go_simp
  refine wpAnyH_take (i := 10) (v := .bool false) rfl (by kernel_rfl) (by kernel_rfl) (by kernel_rfl) (pputH _ _ _ _ _ _) (Or.inl ⟨by kernel_rfl, ?_⟩) hHeld ?_
  ·intro u hS; obtain ⟨p0, p1⟩ := hS; go_simp
  refine wpAnyH_take (i := 11) (v := .bool false) rfl (by kernel_rfl) (by kernel_rfl) (by kernel_rfl) (pputH _ _ _ _ _ _) (Or.inl ⟨by kernel_rfl, ?_⟩) hHeld ?_
  ·intro u hS; obtain ⟨p0, p1⟩ := hS; go_simp
  refine wpAnyH_take (i := 12) (v := undef) rfl (by kernel_rfl) (by kernel_rfl) (by kernel_rfl) (pputH _ _ _ _ _ _) (Or.inr ⟨by kernel_rfl, rfl⟩) hHeld ?_
  refine wpAnyH_take (i := 13) (v := undef) rfl (by kernel_rfl) (by kernel_rfl) (by kernel_rfl) (pputH _ _ _ _ _ _) (Or.inr ⟨by kernel_rfl, rfl⟩) hHeld ?_
  refine wpAnyH_take (i := 14) (v := undef) rfl (by kernel_rfl) (by kernel_rfl) (by kernel_rfl) (pputH _ _ _ _ _ _) (Or.inr ⟨by kernel_rfl, rfl⟩) hHeld ?_
  refine wpAnyH_take (i := 15) (v := .bool false) rfl (by kernel_rfl) (by kernel_rfl) (by kernel_rfl) (pputH _ _ _ _ _ _) (Or.inl ⟨by kernel_rfl, ?_⟩) hHeld ?_
  ·intro u hS; obtain ⟨p0, p1⟩ := hS; go_simp
  refine wpAnyH_take (i := 16) (v := .bool false) rfl (by kernel_rfl) (by kernel_rfl) (by kernel_rfl) (pputH _ _ _ _ _ _) (Or.inl ⟨by kernel_rfl, ?_⟩) hHeld ?_
  ·intro u hS; obtain ⟨p0, p1⟩ := hS; go_simp
  refine wpAnyH_take (i := 17) (v := undef) rfl (by kernel_rfl) (by kernel_rfl) (by kernel_rfl) (pputH _ _ _ _ _ _) (Or.inr ⟨by kernel_rfl, rfl⟩) hHeld ?_
  refine wpAnyH_take (i := 18) (v := undef) rfl (by kernel_rfl) (by kernel_rfl) (by kernel_rfl) (pputH _ _ _ _ _ _) (Or.inr ⟨by kernel_rfl, rfl⟩) hHeld ?_
  refine wpAnyH_take (i := 19) (v := undef) rfl (by kernel_rfl) (by kernel_rfl) (by kernel_rfl) (pputH _ _ _ _ _ _) (Or.inr ⟨by kernel_rfl, rfl⟩) hHeld ?_
  refine wpAnyH_ready (rs := [20]) (by kernel_rfl) (by simp) ?_
  refine AllReadyH.cons (i := 20) rfl (fun K hK => ?_) AllReadyH.nil
  go_simp
  refine hK.out _ _ ?_ (fun hHeld => ?_)
  ·exact ⟨k0, k1⟩
  clear hK K
  refine wpAnyH_ready (rs := [21]) (by kernel_rfl) (by simp) ?_
  refine AllReadyH.cons (i := 21) rfl (fun K hK => ?_) AllReadyH.nil
  go_simp
  refine hK.out _ _ ?_ (fun hHeld => ?_)
  ·exact ⟨k0, k1⟩
  clear hK K
  refine wpAnyH_done (by kernel_rfl) ?_ _
  go_wp2_with fail
  go_ret
  refine ⟨?_, HB.out.trans (HB3.out.mono HB.out.size)⟩
  have hff : fieldL (n, v) = false := by rw [HF.out]; rfl
  rw [hff]
  simp
 cases g2
 case true =>
  refine wp_region_held_drew (S := fun u => u.cell? ⟨w.heap.size, 0, none⟩ = some (.string ⟨n.toArray⟩) ∧ u.cell? ⟨w.heap.size, 1, none⟩ = some (.string ⟨v.toArray⟩)) (by kernel_rfl) ?_ (fun hHeld => ?_)
  ·exact ⟨q0, q1⟩
  refine wpAnyH_take (i := 0) (v := .pointer (some ⟨w.heap.size, 0, none⟩)) rfl (by kernel_rfl) (by kernel_rfl) (by kernel_rfl) (pputH _ _ _ _ _ _) (Or.inl ⟨by kernel_rfl, ?_⟩) hHeld ?_
  ·intro u hS; obtain ⟨p0, p1⟩ := hS; go_simp
  refine wpAnyH_take (i := 1) (v := .string ⟨n.toArray⟩) rfl (by kernel_rfl) (by kernel_rfl) (by kernel_rfl) (pputH _ _ _ _ _ _) (Or.inl ⟨by kernel_rfl, ?_⟩) hHeld ?_
  ·intro u hS; obtain ⟨p0, p1⟩ := hS; go_simp
  refine wpAnyH_ready (rs := [2]) (by kernel_rfl) (by simp) ?_
  refine AllReadyH.cons (i := 2) rfl (fun K hK => ?_) AllReadyH.nil
  go_simp
  go_at_call 128
  refine (htk _).mono ?_
  rintro e w' ⟨rfl, rfl⟩
  refine hK.out _ _ ?_ (fun hHeld => ?_)
  ·exact ⟨q0, q1⟩
  clear hK K
  refine wpAnyH_take (i := 3) (v := .bool true) rfl (by kernel_rfl) (by kernel_rfl) (by kernel_rfl) (pputH _ _ _ _ _ _) (Or.inl ⟨by kernel_rfl, ?_⟩) hHeld ?_
  ·intro u hS; obtain ⟨p0, p1⟩ := hS; go_simp
  refine wpAnyH_take (i := 4) (v := .pointer (some ⟨w.heap.size, 0, none⟩)) rfl (by kernel_rfl) (by kernel_rfl) (by kernel_rfl) (pputH _ _ _ _ _ _) (Or.inl ⟨by kernel_rfl, ?_⟩) hHeld ?_
  ·intro u hS; obtain ⟨p0, p1⟩ := hS; go_simp
  refine wpAnyH_take (i := 5) (v := .string ⟨n.toArray⟩) rfl (by kernel_rfl) (by kernel_rfl) (by kernel_rfl) (pputH _ _ _ _ _ _) (Or.inl ⟨by kernel_rfl, ?_⟩) hHeld ?_
  ·intro u hS; obtain ⟨p0, p1⟩ := hS; go_simp
  refine wpAnyH_take (i := 7) (v := .pointer (some ⟨w.heap.size, 0, none⟩)) rfl (by kernel_rfl) (by kernel_rfl) (by kernel_rfl) (pputH _ _ _ _ _ _) (Or.inl ⟨by kernel_rfl, ?_⟩) hHeld ?_
  ·intro u hS; obtain ⟨p0, p1⟩ := hS; go_simp
  refine wpAnyH_take (i := 8) (v := .string ⟨n.toArray⟩) rfl (by kernel_rfl) (by kernel_rfl) (by kernel_rfl) (pputH _ _ _ _ _ _) (Or.inl ⟨by kernel_rfl, ?_⟩) hHeld ?_
  ·intro u hS; obtain ⟨p0, p1⟩ := hS; go_simp
  refine wpAnyH_ready (rs := [6]) (by kernel_rfl) (by simp) ?_
  refine AllReadyH.cons (i := 6) rfl (fun K hK => ?_) AllReadyH.nil
  go_simp
  go_at_call 129
  refine (hsm _).mono ?_
  rintro e w3 ⟨rfl, hb⟩
  have HB3 := Lib.hid ((Below.refl w0.heap.size w0).drew.trans hb)
  clear hb
  have k0 := (HB3.out.cell (p := ⟨w.heap.size, 0, none⟩) HS.out).trans q0
  have k1 := (HB3.out.cell (p := ⟨w.heap.size, 1, none⟩) HS.out).trans q1
  refine hK.out _ _ ?_ (fun hHeld => ?_)
  ·exact ⟨k0, k1⟩
  clear hK K
  refine wpAnyH_take (i := 9) (v := .bool true) rfl (by kernel_rfl) (by kernel_rfl) (by kernel_rfl) (pputH _ _ _ _ _ _) (Or.inl ⟨by kernel_rfl, ?_⟩) hHeld ?_
  ·intro u hS; obtain ⟨p0, p1⟩ := hS; go_simp
  refine wpAnyH_take (i := 10) (v := .bool true) rfl (by kernel_rfl) (by kernel_rfl) (by kernel_rfl) (pputH _ _ _ _ _ _) (Or.inl ⟨by kernel_rfl, ?_⟩) hHeld ?_
  ·intro u hS; obtain ⟨p0, p1⟩ := hS; go_simp
  refine wpAnyH_take (i := 11) (v := .bool true) rfl (by kernel_rfl) (by kernel_rfl) (by kernel_rfl) (pputH _ _ _ _ _ _) (Or.inl ⟨by kernel_rfl, ?_⟩) hHeld ?_
  ·intro u hS; obtain ⟨p0, p1⟩ := hS; go_simp
  refine wpAnyH_take (i := 12) (v := .pointer (some ⟨w.heap.size, 0, none⟩)) rfl (by kernel_rfl) (by kernel_rfl) (by kernel_rfl) (pputH _ _ _ _ _ _) (Or.inl ⟨by kernel_rfl, ?_⟩) hHeld ?_
  ·intro u hS; obtain ⟨p0, p1⟩ := hS; go_simp
  refine wpAnyH_take (i := 13) (v := .string ⟨n.toArray⟩) rfl (by kernel_rfl) (by kernel_rfl) (by kernel_rfl) (pputH _ _ _ _ _ _) (Or.inl ⟨by kernel_rfl, ?_⟩) hHeld ?_
  ·intro u hS; obtain ⟨p0, p1⟩ := hS; go_simp
  refine wpAnyH_take (i := 14) (v := .bool false) rfl (by kernel_rfl) (by kernel_rfl) (by kernel_rfl) (pputH _ _ _ _ _ _) (Or.inl ⟨by kernel_rfl, ?_⟩) hHeld ?_
  ·intro u hS; obtain ⟨p0, p1⟩ := hS; go_simp
  refine wpAnyH_take (i := 15) (v := .bool false) rfl (by kernel_rfl) (by kernel_rfl) (by kernel_rfl) (pputH _ _ _ _ _ _) (Or.inl ⟨by kernel_rfl, ?_⟩) hHeld ?_
  ·intro u hS; obtain ⟨p0, p1⟩ := hS; go_simp
  refine wpAnyH_take (i := 16) (v := .bool false) rfl (by kernel_rfl) (by kernel_rfl) (by kernel_rfl) (pputH _ _ _ _ _ _) (Or.inl ⟨by kernel_rfl, ?_⟩) hHeld ?_
  ·intro u hS; obtain ⟨p0, p1⟩ := hS; go_simp
  refine wpAnyH_take (i := 17) (v := undef) rfl (by kernel_rfl) (by kernel_rfl) (by kernel_rfl) (pputH _ _ _ _ _ _) (Or.inr ⟨by kernel_rfl, rfl⟩) hHeld ?_
  refine wpAnyH_take (i := 18) (v := undef) rfl (by kernel_rfl) (by kernel_rfl) (by kernel_rfl) (pputH _ _ _ _ _ _) (Or.inr ⟨by kernel_rfl, rfl⟩) hHeld ?_
  refine wpAnyH_take (i := 19) (v := undef) rfl (by kernel_rfl) (by kernel_rfl) (by kernel_rfl) (pputH _ _ _ _ _ _) (Or.inr ⟨by kernel_rfl, rfl⟩) hHeld ?_
  refine wpAnyH_ready (rs := [20]) (by kernel_rfl) (by simp) ?_
  refine AllReadyH.cons (i := 20) rfl (fun K hK => ?_) AllReadyH.nil
  go_simp
  refine hK.out _ _ ?_ (fun hHeld => ?_)
  ·exact ⟨k0, k1⟩
  clear hK K
  refine wpAnyH_ready (rs := [21]) (by kernel_rfl) (by simp) ?_
  refine AllReadyH.cons (i := 21) rfl (fun K hK => ?_) AllReadyH.nil
  go_simp
  refine hK.out _ _ ?_ (fun hHeld => ?_)
  ·exact ⟨k0, k1⟩
  clear hK K
  refine wpAnyH_done (by kernel_rfl) ?_ _
  go_wp2_with fail
  go_ret
  refine ⟨?_, HB.out.trans (HB3.out.mono HB.out.size)⟩
  have hff : fieldL (n, v) = false := by rw [HF.out]; rfl
  rw [hff]
  simp
 case false =>
  refine wp_region_held_drew (S := fun u => u.cell? ⟨w.heap.size, 0, none⟩ = some (.string ⟨n.toArray⟩) ∧ u.cell? ⟨w.heap.size, 1, none⟩ = some (.string ⟨v.toArray⟩)) (by kernel_rfl) ?_ (fun hHeld => ?_)
  ·exact ⟨q0, q1⟩
  refine wpAnyH_take (i := 0) (v := .pointer (some ⟨w.heap.size, 0, none⟩)) rfl (by kernel_rfl) (by kernel_rfl) (by kernel_rfl) (pputH _ _ _ _ _ _) (Or.inl ⟨by kernel_rfl, ?_⟩) hHeld ?_
  ·intro u hS; obtain ⟨p0, p1⟩ := hS; go_simp
  refine wpAnyH_take (i := 1) (v := .string ⟨n.toArray⟩) rfl (by kernel_rfl) (by kernel_rfl) (by kernel_rfl) (pputH _ _ _ _ _ _) (Or.inl ⟨by kernel_rfl, ?_⟩) hHeld ?_
  ·intro u hS; obtain ⟨p0, p1⟩ := hS; go_simp
  refine wpAnyH_ready (rs := [2]) (by kernel_rfl) (by simp) ?_
  refine AllReadyH.cons (i := 2) rfl (fun K hK => ?_) AllReadyH.nil
  go_simp
  go_at_call 128
  refine (htk _).mono ?_
  rintro e w' ⟨rfl, rfl⟩
  refine hK.out _ _ ?_ (fun hHeld => ?_)
  ·exact ⟨q0, q1⟩
  clear hK K
  refine wpAnyH_take (i := 3) (v := .bool true) rfl (by kernel_rfl) (by kernel_rfl) (by kernel_rfl) (pputH _ _ _ _ _ _) (Or.inl ⟨by kernel_rfl, ?_⟩) hHeld ?_
  ·intro u hS; obtain ⟨p0, p1⟩ := hS; go_simp
  refine wpAnyH_take (i := 4) (v := .pointer (some ⟨w.heap.size, 0, none⟩)) rfl (by kernel_rfl) (by kernel_rfl) (by kernel_rfl) (pputH _ _ _ _ _ _) (Or.inl ⟨by kernel_rfl, ?_⟩) hHeld ?_
  ·intro u hS; obtain ⟨p0, p1⟩ := hS; go_simp
  refine wpAnyH_take (i := 5) (v := .string ⟨n.toArray⟩) rfl (by kernel_rfl) (by kernel_rfl) (by kernel_rfl) (pputH _ _ _ _ _ _) (Or.inl ⟨by kernel_rfl, ?_⟩) hHeld ?_
  ·intro u hS; obtain ⟨p0, p1⟩ := hS; go_simp
  refine wpAnyH_take (i := 7) (v := .pointer (some ⟨w.heap.size, 0, none⟩)) rfl (by kernel_rfl) (by kernel_rfl) (by kernel_rfl) (pputH _ _ _ _ _ _) (Or.inl ⟨by kernel_rfl, ?_⟩) hHeld ?_
  ·intro u hS; obtain ⟨p0, p1⟩ := hS; go_simp
  refine wpAnyH_take (i := 8) (v := .string ⟨n.toArray⟩) rfl (by kernel_rfl) (by kernel_rfl) (by kernel_rfl) (pputH _ _ _ _ _ _) (Or.inl ⟨by kernel_rfl, ?_⟩) hHeld ?_
  ·intro u hS; obtain ⟨p0, p1⟩ := hS; go_simp
  refine wpAnyH_ready (rs := [6]) (by kernel_rfl) (by simp) ?_
  refine AllReadyH.cons (i := 6) rfl (fun K hK => ?_) AllReadyH.nil
  go_simp
  go_at_call 129
  refine (hsm _).mono ?_
  rintro e w3 ⟨rfl, hb⟩
  have HB3 := Lib.hid ((Below.refl w0.heap.size w0).drew.trans hb)
  clear hb
  have k0 := (HB3.out.cell (p := ⟨w.heap.size, 0, none⟩) HS.out).trans q0
  have k1 := (HB3.out.cell (p := ⟨w.heap.size, 1, none⟩) HS.out).trans q1
  refine hK.out _ _ ?_ (fun hHeld => ?_)
  ·exact ⟨k0, k1⟩
  clear hK K
  refine wpAnyH_take (i := 9) (v := .bool true) rfl (by kernel_rfl) (by kernel_rfl) (by kernel_rfl) (pputH _ _ _ _ _ _) (Or.inl ⟨by kernel_rfl, ?_⟩) hHeld ?_
  ·intro u hS; obtain ⟨p0, p1⟩ := hS; go_simp
  refine wpAnyH_take (i := 10) (v := .bool true) rfl (by kernel_rfl) (by kernel_rfl) (by kernel_rfl) (pputH _ _ _ _ _ _) (Or.inl ⟨by kernel_rfl, ?_⟩) hHeld ?_
  ·intro u hS; obtain ⟨p0, p1⟩ := hS; go_simp
  refine wpAnyH_take (i := 11) (v := .bool true) rfl (by kernel_rfl) (by kernel_rfl) (by kernel_rfl) (pputH _ _ _ _ _ _) (Or.inl ⟨by kernel_rfl, ?_⟩) hHeld ?_
  ·intro u hS; obtain ⟨p0, p1⟩ := hS; go_simp
  refine wpAnyH_take (i := 12) (v := .pointer (some ⟨w.heap.size, 0, none⟩)) rfl (by kernel_rfl) (by kernel_rfl) (by kernel_rfl) (pputH _ _ _ _ _ _) (Or.inl ⟨by kernel_rfl, ?_⟩) hHeld ?_
  ·intro u hS; obtain ⟨p0, p1⟩ := hS; go_simp
  refine wpAnyH_take (i := 13) (v := .string ⟨n.toArray⟩) rfl (by kernel_rfl) (by kernel_rfl) (by kernel_rfl) (pputH _ _ _ _ _ _) (Or.inl ⟨by kernel_rfl, ?_⟩) hHeld ?_
  ·intro u hS; obtain ⟨p0, p1⟩ := hS; go_simp
  refine wpAnyH_take (i := 14) (v := .bool true) rfl (by kernel_rfl) (by kernel_rfl) (by kernel_rfl) (pputH _ _ _ _ _ _) (Or.inl ⟨by kernel_rfl, ?_⟩) hHeld ?_
  ·intro u hS; obtain ⟨p0, p1⟩ := hS; go_simp
  refine wpAnyH_take (i := 15) (v := .bool true) rfl (by kernel_rfl) (by kernel_rfl) (by kernel_rfl) (pputH _ _ _ _ _ _) (Or.inl ⟨by kernel_rfl, ?_⟩) hHeld ?_
  ·intro u hS; obtain ⟨p0, p1⟩ := hS; go_simp
  refine wpAnyH_take (i := 16) (v := .bool true) rfl (by kernel_rfl) (by kernel_rfl) (by kernel_rfl) (pputH _ _ _ _ _ _) (Or.inl ⟨by kernel_rfl, ?_⟩) hHeld ?_
  ·intro u hS; obtain ⟨p0, p1⟩ := hS; go_simp
  refine wpAnyH_take (i := 17) (v := .pointer (some ⟨w.heap.size, 1, none⟩)) rfl (by kernel_rfl) (by kernel_rfl) (by kernel_rfl) (pputH _ _ _ _ _ _) (Or.inl ⟨by kernel_rfl, ?_⟩) hHeld ?_
  ·intro u hS; obtain ⟨p0, p1⟩ := hS; go_simp
  refine wpAnyH_take (i := 18) (v := .string ⟨v.toArray⟩) rfl (by kernel_rfl) (by kernel_rfl) (by kernel_rfl) (pputH _ _ _ _ _ _) (Or.inl ⟨by kernel_rfl, ?_⟩) hHeld ?_
  ·intro u hS; obtain ⟨p0, p1⟩ := hS; go_simp
  refine wpAnyH_ready (rs := [19]) (by kernel_rfl) (by simp) ?_
  refine AllReadyH.cons (i := 19) rfl (fun K hK => ?_) AllReadyH.nil
  go_simp
  go_at_call 130
  refine (hvl _).mono ?_
  rintro e w4 ⟨rfl, hb⟩
  have HB4 := Lib.hid (HB3.out.trans (hb.mono HB3.out.size))
  clear hb
  have j0 := (HB4.out.cell (p := ⟨w.heap.size, 0, none⟩) HS.out).trans q0
  have j1 := (HB4.out.cell (p := ⟨w.heap.size, 1, none⟩) HS.out).trans q1
  refine hK.out _ _ ?_ (fun hHeld => ?_)
  ·exact ⟨j0, j1⟩
  clear hK K
  refine wpAnyH_ready (rs := [20]) (by kernel_rfl) (by simp) ?_
  refine AllReadyH.cons (i := 20) rfl (fun K hK => ?_) AllReadyH.nil
  go_simp
  refine hK.out _ _ ?_ (fun hHeld => ?_)
  ·exact ⟨j0, j1⟩
  clear hK K
  refine wpAnyH_ready (rs := [21]) (by kernel_rfl) (by simp) ?_
  refine AllReadyH.cons (i := 21) rfl (fun K hK => ?_) AllReadyH.nil
  go_simp
  refine hK.out _ _ ?_ (fun hHeld => ?_)
  ·exact ⟨j0, j1⟩
  clear hK K
  refine wpAnyH_done (by kernel_rfl) ?_ _
  go_wp2_with fail
  go_ret
  refine ⟨?_, HB.out.trans (HB4.out.mono HB.out.size)⟩
  have hff : fieldL (n, v) = r := by rw [HF.out]; rfl
  rw [hff]
  simp
end Go.Proofs.YtpdedfpacklnoaaGreatDoor.H
namespace Go.Proofs.YtpdedfpacklnoaaGreatDoor.H
set_option maxRecDepth 100000
open Go.RowKit Go.BL

/-- An answer's value. -/
def ansV (a : Ans) (h : Value) : Value := .agg #[.int .i64 a.st, h, .string ⟨a.b.toArray⟩]
def sameA (a b : Ans) : Bool := (a.st == b.st) && (a.b == b.b) && decide (a.hs = b.hs)
set_option maxHeartbeats 4000000 in
set_option maxRecDepth 100000 in
theorem sameA_any (a b : Ans) (v u : Value) (w : World) (hv : Hdrs w v a.hs) (hu : Hdrs w u b.hs) : Calls Tryz.prog 30 #[ansV a v, ansV b u] w (RetV (.bool (sameA a b)) w) := by
 obtain ⟨A, c, rfl⟩ := hv.form
 obtain ⟨D, d, rfl⟩ := hu.form
 obtain ⟨m1, hs1, b1⟩ := a
 obtain ⟨m2, hs2, b2⟩ := b
 unfold ansV sameA
 simp only at hv hu ⊢
 have hh := fun w (h1 : Hdrs w (.slice A hs1.length c) hs1) (h2 : Hdrs w (.slice D hs2.length d) hs2) => sameH_any hs1 hs2 _ _ w h1 h2
 have HV := Lib.hid hv
 have HU := Lib.hid hu
 clear hv hu
 generalize hq1 : (m1 == m2) = q1
 generalize hq3 : (b1 == b2) = q3
 generalize decide (hs1 = hs2) = q4 at *
 cases q1
 case false =>
  go_enter Tryz.func30, Tryz.ntmps30
  go_wp2_with fail
  go_ret
  exact ⟨rfl, ((Below.refl _ _).alloc (Nat.le_refl _) _).alloc (by simp) _⟩
 cases q3
 case false =>
  go_enter Tryz.func30, Tryz.ntmps30
  go_wp2_with fail
  go_ret
  exact ⟨rfl, ((Below.refl _ _).alloc (Nat.le_refl _) _).alloc (by simp) _⟩
 go_enter Tryz.func30, Tryz.ntmps30
 go_wp2_with (go_at_call 52; refine (hh _ ((HV.out.alloc _).alloc _) ((HU.out.alloc _).alloc _)).mono ?_; rintro e w3 ⟨rfl, hb⟩; have HB := Lib.hid hb; clear hb)
 go_ret
 exact ⟨by simp, below_alloc (below_alloc HB.out)⟩
/-- The cells of an answer. -/
structure B3 (w : World) (B : Nat) (s h b : Value) : Prop where
 c0 : w.cell? ⟨B, 0, none⟩ = some s
 c1 : w.cell? ⟨B, 1, none⟩ = some h
 c2 : w.cell? ⟨B, 2, none⟩ = some b
 z0 : w.frozen? ⟨B, 0, none⟩ = false
 z1 : w.frozen? ⟨B, 1, none⟩ = false
 z2 : w.frozen? ⟨B, 2, none⟩ = false
theorem B3.below {w w' : World} {B C : Nat} {s h b : Value} (k : B3 w B s h b) (hb : Below C w w') (hC : B < C) : B3 w' B s h b :=
 ⟨(hb.cell hC).trans k.c0, (hb.cell hC).trans k.c1, (hb.cell hC).trans k.c2, (hb.frozen hC).trans k.z0, (hb.frozen hC).trans k.z1, (hb.frozen hC).trans k.z2⟩
theorem B3.new (w : World) (s h b : Value) (t : TypeId) : B3 (w.alloc (.cells #[s, h, b] t)) w.heap.size s h b := by
 refine ⟨?_, ?_, ?_, World.frozen?_alloc_new w _ t 0, World.frozen?_alloc_new w _ t 1, World.frozen?_alloc_new w _ t 2⟩
 all_goals (rw [World.cell?_alloc_at _ _ _ _ rfl]; rfl)
theorem head_len (a : Ans) : (headA a).length = (lineA a.st).length + (textL a.hs).length + (Lib.itoa (a.b.length : Int)).length + 22 := by
 simp [headA, clLine, clT, sep4]; omega
theorem line_len (n : Int) : (lineA n).length = (Lib.itoa n).length + (reasonL n).length + 10 := by
 simp [lineA, stat11]; omega
set_option maxHeartbeats 4000000 in
set_option maxRecDepth 100000 in
theorem head_any (a : Ans) (h : Value) (w : World) (hd : Hdrs w h a.hs) (ht : Tab w) (hst : -9223372036854775808 ≤ a.st ∧ a.st ≤ 9223372036854775807) (hbl : a.b.length ≤ 1073741824) (hl : (headA a).length ≤ 1073741824) :
  Calls Tryz.prog 77 #[ansV a h] w (RetV (.string ⟨(headA a).toArray⟩) w) := by
 obtain ⟨A, c, rfl⟩ := hd.form
 have hln := head_len a
 have hl2 := line_len a.st
 obtain ⟨HH, hHH⟩ : ∃ x, headA a = x := ⟨_, rfl⟩
 rw [hHH] at hl hln ⊢
 have hh2 : HH = lineA a.st ++ [13, 10] ++ textL a.hs ++ clLine a.b.length ++ sep4 := hHH.symm
 obtain ⟨n, hs, b⟩ := a
 dsimp only at hd hln hl2 hst hbl
 simp only [lineA, clLine] at hh2
 dsimp only [ansV]
 have hit := fun w => itoa_any n hst.1 hst.2 w
 have hib := fun w => itoa_any (b.length : Int) (by omega) (by omega) w
 have hre := reason_any n
 obtain ⟨I, hI⟩ : ∃ x, Lib.itoa n = x := ⟨_, rfl⟩
 obtain ⟨J, hJ⟩ : ∃ x, Lib.itoa (b.length : Int) = x := ⟨_, rfl⟩
 obtain ⟨R, hR⟩ : ∃ x, reasonL n = x := ⟨_, rfl⟩
 rw [hI] at hit hh2 hl2
 rw [hJ] at hib hh2 hln
 rw [hR] at hre hh2 hl2
 obtain ⟨w0, hw0⟩ : ∃ w0, w.alloc (.cells #[.int .i64 n, .slice A hs.length c, .string ⟨b.toArray⟩] 67) = w0 := ⟨_, rfl⟩
 have HK : Hid (B3 w0 w.heap.size (.int .i64 n) (.slice A hs.length c) (.string ⟨b.toArray⟩)) := Lib.hid (by rw [← hw0]; exact B3.new w _ _ _ _)
 have HB : Hid (Below w.heap.size w w0) := Lib.hid (by rw [← hw0]; exact (Below.refl _ _).alloc (Nat.le_refl _) _)
 have HS : Hid (w.heap.size < w0.heap.size) := Lib.hid (by rw [← hw0]; simp)
 have HD := Lib.hid (hd.below HB.out (Nat.le_refl _))
 have HT := Lib.hid (ht.below HB.out)
 obtain ⟨_, A', c', heq, hcells⟩ := HD.out
 injection heq with e1 e2 e3
 subst e1 e3
 have HC := Lib.hid hcells
 obtain ⟨s1, h1⟩ : ∃ u, [72, 84, 84, 80, 47, 49, 46, 49, 32] ++ I = u := ⟨_, rfl⟩
 obtain ⟨s2, h2⟩ : ∃ u, s1 ++ [32] = u := ⟨_, rfl⟩
 obtain ⟨s3, h3⟩ : ∃ u, s2 ++ R = u := ⟨_, rfl⟩
 obtain ⟨pre, h4⟩ : ∃ u, s3 ++ [13, 10] = u := ⟨_, rfl⟩
 have l1 : s1.length = I.length + 9 := by rw [← h1, List.length_append]; simp; omega
 have l2 : s2.length = s1.length + 1 := by rw [← h2, List.length_append]; rfl
 have l3 : s3.length = s2.length + R.length := by rw [← h3, List.length_append]
 have l4 : pre.length = s3.length + 2 := by rw [← h4, List.length_append]; rfl
 have HHH : Hid (HH = pre ++ textL hs ++ clT ++ J ++ [13, 10, 13, 10]) := Lib.hid (by rw [hh2, ← h4, ← h3, ← h2, ← h1]; simp [stat11, sep4])
 have HLL : Hid (pre.length + (textL hs).length + J.length + 20 = HH.length) := Lib.hid (by rw [HHH.out]; simp [clT]; omega)
 have HL := Lib.hid hl
 have r1 := cat_run [72, 84, 84, 80, 47, 49, 46, 49, 32] I s1 h1 (by simp; omega)
 have r2 := cat_run s1 [32] s2 h2 (by simp; omega)
 have r3 := cat_run s2 R s3 h3 (by omega)
 have r4 := cat_run s3 [13, 10] pre h4 (by simp; omega)
 have HHL : Hid (hs.length ≤ 1073741824) := Lib.hid (by have := text_len (hs := hs); omega)
 clear hd ht hst hbl hl hHH hln hl2 hh2 hI hJ hR e2 hcells l1 l2 l3 l4 h1 h2 h3 h4
 obtain ⟨q0, q1, q2, -, -, -⟩ := HK.out
 go_enter Tryz.func77, Tryz.ntmps77
 go_wp2_with fail
 refine wp_region_held_drew (S := fun u => u.cell? ⟨w.heap.size, 0, none⟩ = some (.int .i64 n)) (by kernel_rfl) ?_ (fun hHeld => ?_)
 ·exact q0
 refine wpAnyH_take (i := 0) (v := .pointer (some ⟨w.heap.size, 0, none⟩)) rfl (by kernel_rfl) (by kernel_rfl) (by kernel_rfl) (fun _ _ _ h => h) (Or.inl ⟨by rfl, ?_⟩) hHeld ?_
 ·intro u hS; obtain p0 := hS; go_simp
 refine wpAnyH_take (i := 1) (v := .int .i64 n) rfl (by kernel_rfl) (by kernel_rfl) (by kernel_rfl) (fun _ _ _ h => h) (Or.inl ⟨by rfl, ?_⟩) hHeld ?_
 ·intro u hS; obtain p0 := hS; go_simp
 refine wpAnyH_take (i := 5) (v := .pointer (some ⟨w.heap.size, 0, none⟩)) rfl (by kernel_rfl) (by kernel_rfl) (by kernel_rfl) (fun _ _ _ h => h) (Or.inl ⟨by rfl, ?_⟩) hHeld ?_
 ·intro u hS; obtain p0 := hS; go_simp
 refine wpAnyH_take (i := 6) (v := .int .i64 n) rfl (by kernel_rfl) (by kernel_rfl) (by kernel_rfl) (fun _ _ _ h => h) (Or.inl ⟨by rfl, ?_⟩) hHeld ?_
 ·intro u hS; obtain p0 := hS; go_simp
 refine wpAnyH_ready (rs := [2]) (by kernel_rfl) (by simp) ?_
 refine AllReadyH.cons (i := 2) rfl (fun K hK => ?_) AllReadyH.nil
 go_simp
 go_at_call 63
 refine (hit _ (HT.out.below ((Below.refl w0.heap.size w0).drew))).mono ?_
 rintro e w2 ⟨rfl, hb⟩
 have HB2 := Lib.hid ((Below.refl w0.heap.size w0).drew.trans hb)
 clear hb
 have k0 := (HB2.out.cell (p := ⟨w.heap.size, 0, none⟩) HS.out).trans q0
 refine hK.out _ _ ?_ (fun hHeld => ?_)
 ·exact k0
 clear hK K
 refine wpAnyH_take (i := 3) (v := .string ⟨s1.toArray⟩) rfl (by kernel_rfl) (by kernel_rfl) (by kernel_rfl) (fun _ _ _ h => h) (Or.inl ⟨by rfl, ?_⟩) hHeld ?_
 ·intro u hS; obtain p0 := hS; go_simp
 refine wpAnyH_take (i := 4) (v := .string ⟨s2.toArray⟩) rfl (by kernel_rfl) (by kernel_rfl) (by kernel_rfl) (fun _ _ _ h => h) (Or.inl ⟨by rfl, ?_⟩) hHeld ?_
 ·intro u hS; obtain p0 := hS; go_simp
 refine wpAnyH_ready (rs := [7]) (by kernel_rfl) (by simp) ?_
 refine AllReadyH.cons (i := 7) rfl (fun K hK => ?_) AllReadyH.nil
 go_simp
 go_at_call 72
 refine (hre _).mono ?_
 rintro e w' ⟨rfl, rfl⟩
 refine hK.out _ _ ?_ (fun hHeld => ?_)
 ·exact k0
 clear hK K
 refine wpAnyH_take (i := 8) (v := .string ⟨s3.toArray⟩) rfl (by kernel_rfl) (by kernel_rfl) (by kernel_rfl) (fun _ _ _ h => h) (Or.inl ⟨by rfl, ?_⟩) hHeld ?_
 ·intro u hS; obtain p0 := hS; go_simp
 refine wpAnyH_take (i := 9) (v := .string ⟨pre.toArray⟩) rfl (by kernel_rfl) (by kernel_rfl) (by kernel_rfl) (fun _ _ _ h => h) (Or.inl ⟨by rfl, ?_⟩) hHeld ?_
 ·intro u hS; obtain p0 := hS; go_simp
 refine wpAnyH_take (i := 10) (v := .string ⟨pre.toArray⟩) rfl (by kernel_rfl) (by kernel_rfl) (by kernel_rfl) (fun _ _ _ h => h) (Or.inl ⟨by rfl, ?_⟩) hHeld ?_
 ·intro u hS; obtain p0 := hS; go_simp
 refine wpAnyH_done (by kernel_rfl) ?_ _
 obtain ⟨j0, j1, j2, -, -, -⟩ := HK.out.below HB2.out HS.out
 go_wp2_with fail
 clear r1 r2 r3 r4 j0 j1 q0 q1 q2 k0 hit hre hw0
 go_loopw [3, 19] (fun v j wr => ∃ k : Nat, v = .string ⟨(pre ++ textL (hs.take k)).toArray⟩ ∧ j = .int .i64 (k : Int) ∧ k ≤ hs.length ∧ Hid (Below w0.heap.size w0 wr)) (fun _ j _ => hs.length - (intOf j).toNat)
 case atStart => exact ⟨0, by simp [textL], rfl, by omega, HB2⟩
 case round =>
  obtain ⟨k, rfl, rfl, hk, HBk⟩ := hrel
  have HSZ := Lib.hid HBk.out.size
  by_cases hlt : k < hs.length
  ·obtain ⟨bb, off, rfl, hbl, hc⟩ := HC.out (by omega)
   obtain ⟨c1, c2⟩ := hc k hlt
   have hT := text_next hlt
   have b1 := text_take hs (k + 1)
   have b2 := HLL.out
   have b3 := HL.out
   rw [hT] at b1
   generalize hs[k] = z at *
   obtain ⟨m, x⟩ := z
   simp only at c1 c2
   have d1 := (HBk.out.cell (p := ⟨bb, off + k * 2, none⟩) hbl).trans c1
   have d2 := (HBk.out.cell (p := ⟨bb, off + k * 2 + 1, none⟩) hbl).trans c2
   simp only [lineT, List.length_append, List.length_cons, List.length_nil] at b1
   obtain ⟨t0, ht0⟩ : ∃ u, pre ++ textL (hs.take k) = u := ⟨_, rfl⟩
   obtain ⟨t1, h1⟩ : ∃ u, m ++ [58, 32] = u := ⟨_, rfl⟩
   obtain ⟨t2, h2⟩ : ∃ u, t1 ++ x = u := ⟨_, rfl⟩
   obtain ⟨t3, h3⟩ : ∃ u, t2 ++ [13, 10] = u := ⟨_, rfl⟩
   obtain ⟨t4, h4⟩ : ∃ u, t0 ++ t3 = u := ⟨_, rfl⟩
   have l0 : t0.length = pre.length + (textL (hs.take k)).length := by rw [← ht0, List.length_append]
   have l1 : t1.length = m.length + 2 := by rw [← h1, List.length_append]; rfl
   have l2 : t2.length = t1.length + x.length := by rw [← h2, List.length_append]
   have l3 : t3.length = t2.length + 2 := by rw [← h3, List.length_append]; rfl
   have r1 := cat_run m [58, 32] t1 h1 (by simp; omega)
   have r2 := cat_run t1 x t2 h2 (by omega)
   have r3 := cat_run t2 [13, 10] t3 h3 (by simp; omega)
   have r4 := cat_run t0 t3 t4 h4 (by omega)
   have HT4 : Hid (pre ++ textL (hs.take (k + 1)) = t4) := Lib.hid (by rw [hT, ← h4, ← h3, ← h2, ← h1, ← ht0]; simp [lineT])
   have HB4 := Lib.hid (HBk.out.alloc HSZ.out (.cells #[.string ⟨m.toArray⟩, .string ⟨x.toArray⟩] 45))
   rw [ht0]
   clear hc hT b1 b2 b3 l0 l1 l2 l3 h1 h2 h3 h4 c1 c2 ht0
   go_wp2_with fail
   exact ⟨⟨k + 1, by rw [HT4.out], by go_num, by omega, HB4⟩, by simp [intOf]; omega⟩
  ·have HF : Hid (pre ++ textL (hs.take k) = pre ++ textL hs) := Lib.hid (by rw [List.take_of_length_le (by omega)])
   have b2 := HLL.out
   have b3 := HL.out
   rw [HF.out]
   obtain ⟨t0, ht0⟩ : ∃ u, pre ++ textL hs = u := ⟨_, rfl⟩
   rw [ht0]
   obtain ⟨t1, h1⟩ : ∃ u, t0 ++ [99, 111, 110, 116, 101, 110, 116, 45, 108, 101, 110, 103, 116, 104, 58, 32] = u := ⟨_, rfl⟩
   obtain ⟨t2, h2⟩ : ∃ u, t1 ++ J = u := ⟨_, rfl⟩
   have h3 : t2 ++ [13, 10, 13, 10] = HH := by rw [HHH.out, ← h2, ← h1, ← ht0]; rfl
   have l0 : t0.length = pre.length + (textL hs).length := by rw [← ht0, List.length_append]
   have l1 : t1.length = t0.length + 16 := by rw [← h1, List.length_append]; rfl
   have l2 : t2.length = t1.length + J.length := by rw [← h2, List.length_append]
   have r1 := cat_run t0 [99, 111, 110, 116, 101, 110, 116, 45, 108, 101, 110, 103, 116, 104, 58, 32] t1 h1 (by simp; omega)
   have r2 := cat_run t1 J t2 h2 (by omega)
   have r3 := cat_run t2 [13, 10, 13, 10] HH h3 (by simp; omega)
   have j2 := (HK.out.below HBk.out HS.out).c2
   clear b2 b3 l0 l1 l2 h1 h2 h3 ht0
   go_wp2_with (go_at_call 63; refine (hib _ (HT.out.below HBk.out)).mono ?_; rintro e w5 ⟨rfl, hb⟩; have HB5 := Lib.hid (HBk.out.trans (hb.mono HSZ.out)); clear hb)
   go_ret
   exact ⟨rfl, HB.out.trans (HB5.out.mono HB.out.size)⟩
end Go.Proofs.YtpdedfpacklnoaaGreatDoor.H
namespace Go.Proofs.YtpdedfpacklnoaaGreatDoor.H
set_option maxRecDepth 100000
open Go.RowKit Go.BL

def WriR (r : Except Int (List UInt8)) (w : World) (e : Ending) (w' : World) : Prop :=
 Below w.heap.size w w' ∧ match r with
 | .ok bs => ∃ v, e = .returned (.tuple #[v, .int .i64 0]) ∧ Bsl w' v bs
 | .error c => e = .returned (.tuple #[.slice none 0 0, .int .i64 c])
set_option maxHeartbeats 4000000 in
set_option maxRecDepth 100000 in
theorem write_any (a : Ans) (h : Value) (w : World) (hd : Hdrs w h a.hs) (ht : Tab w) (hst : -9223372036854775808 ≤ a.st ∧ a.st ≤ 9223372036854775807) (hbl : a.b.length ≤ 536870912) (hl : (headA a).length ≤ 536870912) :
  Calls Tryz.prog 35 #[ansV a h] w (WriR (writeL a) w) := by
 obtain ⟨A, c, rfl⟩ := hd.form
 obtain ⟨X, hX⟩ : ∃ x, writeL a = x := ⟨_, rfl⟩
 rw [hX]
 unfold writeL at hX
 have hhd := fun w hd ht => head_any a (.slice A a.hs.length c) w hd ht hst (by omega) (by omega)
 have hhl := head_len a
 obtain ⟨HH, hHH⟩ : ∃ x, headA a = x := ⟨_, rfl⟩
 rw [hHH] at hX hl hhd hhl
 obtain ⟨n, hs, b⟩ := a
 dsimp only at hX hd hbl hhd hst hhl
 dsimp only [ansV] at hhd ⊢
 have htx : (textL hs).length ≤ 536870912 := by omega
 have hre := reason_any n
 obtain ⟨R, hR⟩ : ∃ x, reasonL n = x := ⟨_, rfl⟩
 rw [hR] at hX hre
 obtain ⟨w0, hw0⟩ : ∃ w0, w.alloc (.cells #[.int .i64 n, .slice A hs.length c, .string ⟨b.toArray⟩] 67) = w0 := ⟨_, rfl⟩
 have HK : Hid (B3 w0 w.heap.size (.int .i64 n) (.slice A hs.length c) (.string ⟨b.toArray⟩)) := Lib.hid (by rw [← hw0]; exact B3.new w _ _ _ _)
 have HB : Hid (Below w.heap.size w w0) := Lib.hid (by rw [← hw0]; exact (Below.refl _ _).alloc (Nat.le_refl _) _)
 have HS : Hid (w.heap.size < w0.heap.size) := Lib.hid (by rw [← hw0]; simp)
 have HD := Lib.hid (hd.below HB.out (Nat.le_refl _))
 have HT := Lib.hid (ht.below HB.out)
 obtain ⟨_, A', c', heq, hcells⟩ := HD.out
 injection heq with e1 e2 e3
 subst e1 e3
 have HC := Lib.hid hcells
 have HTX := Lib.hid htx
 have HLB := Lib.hid hbl
 have HLH := Lib.hid hl
 have HHS : Hid (hs.length ≤ 536870912) := Lib.hid (by have := text_len (hs := hs); omega)
 have HH4 : Hid (4 ≤ HH.length) := Lib.hid (by omega)
 clear hd ht hst hhl htx hR e2 hcells hHH
 obtain ⟨q0, q1, q2, -, -, -⟩ := HK.out
 cases R with
 | nil =>
  rw [if_pos rfl] at hX
  subst hX
  clear hbl hl
  go_enter Tryz.func35, Tryz.ntmps35
  go_wp2_with (go_at_call 72; refine (hre _).mono ?_; rintro e w' ⟨rfl, rfl⟩)
  go_ret2
  exact ⟨HB.out, rfl⟩
 | cons r0 rt =>
 rw [if_neg (by simp)] at hX
 have HX := Lib.hid hX
 clear hX hbl hl
 go_enter Tryz.func35, Tryz.ntmps35
 go_wp2_with (go_at_call 72; refine (hre _).mono ?_; rintro e w' ⟨rfl, rfl⟩)
 clear hw0 q0 q1 q2 hre
 go_loopw [14] (fun j wr => ∃ k : Nat, j = .int .i64 (k : Int) ∧ k ≤ hs.length ∧ Hid ((hs.take k).all fieldL = true) ∧ Hid (Below w0.heap.size w0 wr)) (fun j _ => hs.length - (intOf j).toNat)
 case atStart => exact ⟨0, rfl, by omega, Lib.hid rfl, Lib.hid (Below.refl _ _)⟩
 case round =>
  obtain ⟨k, rfl, hk, HA, HBk⟩ := hrel
  have HSZ := Lib.hid HBk.out.size
  by_cases hlt : k < hs.length
  ·obtain ⟨bb, off, rfl, hbl, hc⟩ := HC.out (by omega)
   obtain ⟨c1, c2⟩ := hc k hlt
   have hmem : hs[k] ∈ hs := List.getElem_mem hlt
   have hml := text_mem hmem
   have HTK : Hid (hs.take (k + 1) = hs.take k ++ [hs[k]]) := Lib.hid (List.take_succ_eq_append_getElem hlt)
   have HMEM := Lib.hid hmem
   clear hmem
   generalize hs[k] = z at *
   obtain ⟨m, x⟩ := z
   dsimp only at c1 c2 hml
   have d1 := (HBk.out.cell (p := ⟨bb, off + k * 2, none⟩) hbl).trans c1
   have d2 := (HBk.out.cell (p := ⟨bb, off + k * 2 + 1, none⟩) hbl).trans c2
   have hfd := fun w => field_any m x w (by have := HTX.out; omega) (by have := HTX.out; omega)
   obtain ⟨g, hg⟩ : ∃ g, fieldL (m, x) = g := ⟨_, rfl⟩
   rw [hg] at hfd
   have HG := Lib.hid hg
   clear hg hc c1 c2 hml
   cases g
   ·have HF : Hid (X = .error 141) := Lib.hid (by
     rw [← HX.out, if_pos]
     rw [List.all_eq_false]
     exact ⟨_, HMEM.out, by rw [HG.out]; decide⟩)
    go_wp2_with (go_at_call 76; refine (hfd _).mono ?_; rintro e w5 ⟨rfl, hb⟩; have HB5 := Lib.hid ((HBk.out.alloc HSZ.out (.cells #[.string ⟨m.toArray⟩, .string ⟨x.toArray⟩] 45)).trans (hb.mono (by have := HSZ.out; simp; omega))); clear hb)
    go_ret2
    exact ⟨HB.out.trans (HB5.out.mono HB.out.size), by rw [HF.out]; rfl⟩
   ·have HN : Hid ((hs.take (k + 1)).all fieldL = true) := Lib.hid (by rw [HTK.out, List.all_append, HA.out]; simp [HG.out])
    go_wp2_with (go_at_call 76; refine (hfd _).mono ?_; rintro e w5 ⟨rfl, hb⟩; have HB5 := Lib.hid ((HBk.out.alloc HSZ.out (.cells #[.string ⟨m.toArray⟩, .string ⟨x.toArray⟩] 45)).trans (hb.mono (by have := HSZ.out; simp; omega))); clear hb)
    exact ⟨⟨k + 1, by go_num, by omega, HN, HB5⟩, by simp [intOf]; omega⟩
  ·have HALL : Hid (hs.all fieldL = true) := Lib.hid (by have := HA.out; rwa [List.take_of_length_le (by omega)] at this)
   have hX := HX.out
   rw [if_neg (by rw [HALL.out]; decide)] at hX
   clear HX
   obtain ⟨j0, j1, j2, -, -, -⟩ := HK.out.below HBk.out HS.out
   by_cases h32 : 32 ≤ hs.length
   ·have h32' : (32 : Int) ≤ (hs.length : Int) := by omega
    rw [if_pos h32] at hX
    subst hX
    go_wp2_with fail
    go_ret2
    exact ⟨HB.out.trans (HBk.out.mono HB.out.size), rfl⟩
   have h32' : ¬ (32 : Int) ≤ (hs.length : Int) := by omega
   rw [if_neg h32] at hX
   by_cases hb4 : 4096 < b.length
   ·have hb4' : (4096 : Int) < (b.length : Int) := by omega
    rw [if_pos hb4] at hX
    subst hX
    go_wp2_with fail
    go_ret2
    exact ⟨HB.out.trans (HBk.out.mono HB.out.size), rfl⟩
   have hb4' : ¬ (4096 : Int) < (b.length : Int) := by omega
   rw [if_neg hb4] at hX
   have hw : wrap64 ((HH.length : Int) - 4) = (HH.length : Int) - 4 := by have := HLH.out; have := HH4.out; unfold wrap64; omega
   have HD5 := Lib.hid (HD.out.below HBk.out (Nat.le_refl _))
   by_cases hlg : 65536 + 4 < HH.length
   ·have hlg' : (65536 : Int) < (HH.length : Int) - 4 := by omega
    rw [if_pos hlg] at hX
    subst hX
    clear hlg
    go_wp2_with (go_at_call 77; refine (hhd _ HD5.out (HT.out.below HBk.out)).mono ?_; rintro e w5 ⟨rfl, hb⟩; have HB5 := Lib.hid (HBk.out.trans (hb.mono HSZ.out)); clear hb)
    go_ret2
    exact ⟨HB.out.trans (HB5.out.mono HB.out.size), rfl⟩
   have hlg' : ¬ (65536 : Int) < (HH.length : Int) - 4 := by omega
   rw [if_neg hlg] at hX
   subst hX
   clear hlg
   have r1 := cat_run HH b (HH ++ b) rfl (by have := HLH.out; have := HLB.out; omega)
   obtain ⟨BS, hBS⟩ : ∃ x, HH ++ b = x := ⟨_, rfl⟩
   rw [hBS] at r1 ⊢
   have HBL : Hid (BS.length ≤ 1073741824) := Lib.hid (by rw [← hBS, List.length_append]; have := HLH.out; have := HLB.out; omega)
   have HBS := Lib.hid hBS
   clear hBS
   go_wp2_with (go_at_call 77; refine (hhd _ HD5.out (HT.out.below HBk.out)).mono ?_; rintro e w5 ⟨rfl, hb⟩; have HB5 := Lib.hid (HBk.out.trans (hb.mono HSZ.out)); clear hb; obtain ⟨k0, k1, k2, -, -, -⟩ := HK.out.below HB5.out HS.out; obtain ⟨v6, w6, hcv, hown, hbel⟩ := OwnM.conv BS (by have := HBL.out; omega) w5; have HOWN := Lib.hid hown; have HB6 := Lib.hid (HB5.out.trans (hbel.mono HB5.out.size)); clear hown hbel)
   go_ret2
   exact ⟨HB.out.trans (HB6.out.mono HB.out.size), v6, rfl, by rw [HBS.out]; exact HOWN.out.bsl (by have := HBL.out; omega)⟩
end Go.Proofs.YtpdedfpacklnoaaGreatDoor.H
