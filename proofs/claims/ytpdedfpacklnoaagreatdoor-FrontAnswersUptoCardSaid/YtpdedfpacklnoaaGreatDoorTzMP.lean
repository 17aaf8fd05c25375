/- Plain: carts, what may be one, their bytes and how bytes are read as one. No program. Plain: bytes in letters, and letters' bytes: one undoes the other. No program. Plain: what a request asks. No prog -/
import Derived.Test.YtpdedfpacklnoaaGreatDoorTzMV
import Derived.Test.YtpdedfpacklnoaaGreatDoorTzMH
import Derived.Test.YtpdedfpacklnoaaGreatDoorTzMU
import Derived.Lib.AtoiAll
import Derived.Laws.Pointers
namespace Go.Ct
open Go.Wr

structure Dt where
 n : Int
 l : Int
 c : Int
structure En where
 it : List UInt8
 d : Dt
 q : Int
 p : Nat
structure Cx where
 ms : List Dt
 cl : List Dt
structure Ct where
 es : List En
 x : Cx
instance : DecidableEq Dt := fun a b => by
 cases a; cases b
 simp only [Dt.mk.injEq]
 infer_instance
instance : DecidableEq En := fun a b => by
 cases a; cases b
 simp only [En.mk.injEq]
 infer_instance
def mayD (d : Dt) : Bool := decide (0 ≤ d.n) && decide (d.n < 8) && decide (1 ≤ d.l) && decide (d.l ≤ 1099511627776) && decide (1 ≤ d.c) && decide (d.c ≤ 1099511627776)
/-- Does a dot stand ahead of another one? -/
def belowD (a b : Dt) : Bool := if a.n ≠ b.n then decide (a.n < b.n) else if a.l ≠ b.l then decide (a.l < b.l) else decide (a.c < b.c)
def belowA (a b : Dt) : Bool := if a.n ≠ b.n then decide (a.n < b.n) else decide (a.l < b.l)
def markOf : List Dt → Int → Int → Int
 | [], _, _ => 0
 | m :: r, n, l => if m.n = n ∧ m.l = l then m.c else markOf r n l
def canMs : Option Dt → List Dt → Bool
 | _, [] => true
 | none, m :: r => mayD m && canMs (some m) r
 | some x, m :: r => mayD m && belowA x m && canMs (some m) r
def canCl (ms : List Dt) : Option Dt → List Dt → Bool
 | _, [] => true
 | none, d :: r => mayD d && decide (markOf ms d.n d.l + 1 < d.c) && canCl ms (some d) r
 | some x, d :: r => mayD d && decide (markOf ms d.n d.l + 1 < d.c) && belowD x d && canCl ms (some d) r
def canX (x : Cx) : Bool := decide (x.ms.length ≤ 64) && decide (x.cl.length ≤ 64) && canMs none x.ms && canCl x.ms none x.cl
def covers (x : Cx) (d : Dt) : Bool := decide (1 ≤ d.c) && (decide (d.c ≤ markOf x.ms d.n d.l) || decide (d ∈ x.cl))
/-- May a byte stand in a name? -/
def nameB (c : UInt8) : Bool := (decide (97 ≤ c.toNat) && decide (c.toNat ≤ 122)) || (decide (65 ≤ c.toNat) && decide (c.toNat ≤ 90)) || (decide (48 ≤ c.toNat) && decide (c.toNat ≤ 57)) || decide (c.toNat = 45) || decide (c.toNat = 95) || decide (c.toNat = 46)
def isName (s : List UInt8) : Bool := !s.isEmpty && decide (s.length ≤ 32) && s.all nameB
def isPrice (p : Nat) : Bool := decide (p ≤ 9218868437227405312) || decide (p = 9223372036854775808)
/-- Is a text ahead of another one? -/
def ltT : List UInt8 → List UInt8 → Bool
 | [], [] => false
 | [], _ :: _ => true
 | _ :: _, [] => false
 | a :: r, b :: s => if a = b then ltT r s else decide (a.toNat < b.toNat)
/-- Does an entry stand behind another one? -/
def aboveE (a b : En) : Bool := if a.it ≠ b.it then ltT b.it a.it else belowD b.d a.d
/-- How many items there are, these being in order. -/
def itemsF : Option (List UInt8) → List En → Nat
 | _, [] => 0
 | none, e :: r => 1 + itemsF (some e.it) r
 | some s, e :: r => (if s = e.it then 0 else 1) + itemsF (some e.it) r
/-- What is wrong with an entry, given those ahead of it, the last one first. -/
def entE (x : Cx) (pre : List En) (e : En) : Nat :=
 if isName e.it = false then 6
 else if e.q < 1 ∨ 1000000 < e.q then 52
 else if isPrice e.p = false then 53
 else if covers x e.d = false ∨ (match pre with | [] => false | y :: _ => !aboveE e y) = true then 50
 else if pre.any (fun y => decide (y.d = e.d)) then 50
 else 0
def entsE (x : Cx) : List En → List En → Nat
 | _, [] => 0
 | pre, e :: r => if entE x pre e ≠ 0 then entE x pre e else entsE x (e :: pre) r
def canC (c : Ct) : Nat :=
 if canX c.x = false then 30
 else if 64 < c.es.length then 51
 else if entsE c.x [] c.es ≠ 0 then entsE c.x [] c.es
 else if 32 < itemsF none c.es then 51
 else 0
def nats (b : List UInt8) : List Nat := b.map UInt8.toNat
def dotB (d : Dt) : List Nat := enc d.n.toNat ++ (enc d.l.toNat ++ enc d.c.toNat)
def dotsB : List Dt → List Nat
 | [] => []
 | d :: r => dotB d ++ dotsB r
def le8 (p : Nat) : List Nat := [p % 256, p / 256 % 256, p / 65536 % 256, p / 16777216 % 256, p / 4294967296 % 256, p / 1099511627776 % 256, p / 281474976710656 % 256, p / 72057594037927936 % 256]
def entB (e : En) : List Nat := enc e.it.length ++ (nats e.it ++ (enc e.d.n.toNat ++ (enc e.d.l.toNat ++ (enc e.d.c.toNat ++ (enc e.q.toNat ++ le8 e.p)))))
def entsB : List En → List Nat
 | [] => []
 | e :: r => entB e ++ entsB r
def ctxB (x : Cx) : List Nat := enc x.ms.length ++ (dotsB x.ms ++ (enc x.cl.length ++ dotsB x.cl))
def cartB (c : Ct) : List Nat := enc c.es.length ++ (entsB c.es ++ ctxB c.x)
def dotR (bs : List Nat) (i : Nat) : Except Nat (Dt × Nat) :=
 if (uintAt bs i).2.1 ≠ 0 then .error (uintAt bs i).2.1
 else if (uintAt bs (uintAt bs i).2.2).2.1 ≠ 0 then .error (uintAt bs (uintAt bs i).2.2).2.1
 else if (uintAt bs (uintAt bs (uintAt bs i).2.2).2.2).2.1 ≠ 0 then .error (uintAt bs (uintAt bs (uintAt bs i).2.2).2.2).2.1
 else .ok (⟨(uintAt bs i).1, (uintAt bs (uintAt bs i).2.2).1, (uintAt bs (uintAt bs (uintAt bs i).2.2).2.2).1⟩, (uintAt bs (uintAt bs (uintAt bs i).2.2).2.2).2.2)
/-- So many dots more, behind those that are read. -/
def dotsR (bs : List Nat) : Nat → Nat → List Dt → Except Nat (List Dt × Nat)
 | 0, i, l => .ok (l, i)
 | k + 1, i, l => match dotR bs i with
  | .error e => .error e
  | .ok (d, j) => dotsR bs k j (l ++ [d])
def listR (bs : List Nat) (i : Nat) : Except Nat (List Dt × Nat) :=
 if (uintAt bs i).2.1 ≠ 0 then .error (uintAt bs i).2.1
 else if 64 < (uintAt bs i).1 then .error 4
 else dotsR bs (uintAt bs i).1 (uintAt bs i).2.2 []
def ctxR (bs : List Nat) (i : Nat) : Except Nat (Cx × Nat) := match listR bs i with
 | .error e => .error e
 | .ok (m, j) => match listR bs j with
  | .error e => .error e
  | .ok (c, k) => if canX ⟨m, c⟩ = false then .error 30 else .ok (⟨m, c⟩, k)
/-- So many bytes more of a number, the lowest first. -/
def bytesR (bs : List Nat) : Nat → Nat → Nat → Nat → Except Nat (Nat × Nat)
 | 0, _, i, p => .ok (p, i)
 | k + 1, s, i, p => if (byteAt bs i).2.1 ≠ 0 then .error (byteAt bs i).2.1 else bytesR bs k (s + 1) (byteAt bs i).2.2 (p + (byteAt bs i).1 * 256 ^ s)
/-- Behind an item: its dot, its pieces, its price. -/
def entT (bs : List Nat) (s : List Nat) (i : Nat) : Except Nat (En × Nat) := match dotR bs i with
 | .error e => .error e
 | .ok (d, j) => if (uintAt bs j).2.1 ≠ 0 then .error (uintAt bs j).2.1 else
  match bytesR bs 8 0 (uintAt bs j).2.2 0 with
  | .error e => .error e
  | .ok (p, k) => .ok (⟨s.map UInt8.ofNat, d, (uintAt bs j).1, p⟩, k)
def entR (bs : List Nat) (i : Nat) : Except Nat (En × Nat) :=
 if (textAt bs i 32).2.1 ≠ 0 then .error (textAt bs i 32).2.1 else entT bs (textAt bs i 32).1 (textAt bs i 32).2.2
def entsR (bs : List Nat) : Nat → Nat → List En → Except Nat (List En × Nat)
 | 0, i, l => .ok (l, i)
 | k + 1, i, l => match entR bs i with
  | .error e => .error e
  | .ok (d, j) => entsR bs k j (l ++ [d])
def endR (bs : List Nat) (es : List En) (x : Cx) (k : Nat) : Except Nat Ct :=
 if k < bs.length then .error 3 else if canC ⟨es, x⟩ ≠ 0 then .error (canC ⟨es, x⟩) else .ok ⟨es, x⟩
def decodeL (bs : List Nat) : Except Nat Ct :=
 if (uintAt bs 0).2.1 ≠ 0 then .error (uintAt bs 0).2.1
 else if 64 < (uintAt bs 0).1 then .error 4
 else match entsR bs (uintAt bs 0).1 (uintAt bs 0).2.2 [] with
 | .error e => .error e
 | .ok (es, j) => match ctxR bs j with
  | .error e => .error e
  | .ok (x, k) => endR bs es x k

theorem nats_lt (b : List UInt8) : ∀ x ∈ nats b, x < 256 := by
 intro x hx
 simp only [nats, List.mem_map] at hx
 obtain ⟨y, _, rfl⟩ := hx
 exact y.toNat_lt
theorem map_nats (b : List UInt8) : (nats b).map UInt8.ofNat = b := by
 simp only [nats, List.map_map]
 conv => rhs; rw [← List.map_id b]
 apply List.map_congr_left
 intro x _
 simp
theorem may_iff {d : Dt} : mayD d = true ↔ 0 ≤ d.n ∧ d.n < 8 ∧ 1 ≤ d.l ∧ d.l ≤ 1099511627776 ∧ 1 ≤ d.c ∧ d.c ≤ 1099511627776 := by
 simp only [mayD, Bool.and_eq_true, decide_eq_true_eq, and_assoc]
theorem ms_may : ∀ (l : List Dt) (p : Option Dt), canMs p l = true → ∀ d ∈ l, mayD d = true
 | [], _, _ => by simp
 | m :: r, none, h => by
  simp only [canMs, Bool.and_eq_true] at h
  intro d hd
  rcases List.mem_cons.1 hd with rfl | hd
  ·exact h.1
  ·exact ms_may r _ h.2 d hd
 | m :: r, some x, h => by
  simp only [canMs, Bool.and_eq_true] at h
  intro d hd
  rcases List.mem_cons.1 hd with rfl | hd
  ·exact h.1.1
  ·exact ms_may r _ h.2 d hd
theorem cl_may (ms : List Dt) : ∀ (l : List Dt) (p : Option Dt), canCl ms p l = true → ∀ d ∈ l, mayD d = true
 | [], _, _ => by simp
 | m :: r, none, h => by
  simp only [canCl, Bool.and_eq_true] at h
  intro d hd
  rcases List.mem_cons.1 hd with rfl | hd
  ·exact h.1.1
  ·exact cl_may ms r _ h.2 d hd
 | m :: r, some x, h => by
  simp only [canCl, Bool.and_eq_true] at h
  intro d hd
  rcases List.mem_cons.1 hd with rfl | hd
  ·exact h.1.1.1
  ·exact cl_may ms r _ h.2 d hd
theorem canX_iff {x : Cx} : canX x = true ↔ x.ms.length ≤ 64 ∧ x.cl.length ≤ 64 ∧ canMs none x.ms = true ∧ canCl x.ms none x.cl = true := by
 simp only [canX, Bool.and_eq_true, decide_eq_true_eq, and_assoc]
def okE (e : En) : Prop := e.it.length ≤ 32 ∧ mayD e.d = true ∧ (0 ≤ e.q ∧ e.q ≤ 1000000) ∧ e.p < 18446744073709551616
theorem mark_may : ∀ (ms : List Dt), (∀ m ∈ ms, mayD m = true) → ∀ n l, markOf ms n l = 0 ∨ ∃ m ∈ ms, m.n = n ∧ m.l = l ∧ markOf ms n l = m.c
 | [], _, _, _ => .inl rfl
 | m :: r, h, n, l => by
  unfold markOf
  split
  ·rename_i hm
   exact .inr ⟨m, by simp, hm.1, hm.2, rfl⟩
  ·rcases mark_may r (fun x hx => h x (by simp [hx])) n l with h0 | ⟨x, hx, h1⟩
   ·exact .inl h0
   ·exact .inr ⟨x, by simp [hx], h1⟩
theorem covers_may {x : Cx} {d : Dt} (hx : canX x = true) (h : covers x d = true) : mayD d = true := by
 obtain ⟨_, _, h3, h4⟩ := canX_iff.1 hx
 simp only [covers, Bool.and_eq_true, Bool.or_eq_true, decide_eq_true_eq] at h
 obtain ⟨h1, h2 | h2⟩ := h
 ·rcases mark_may x.ms (ms_may _ _ h3) d.n d.l with h0 | ⟨m, hm, hn, hl, hc⟩
  ·omega
  ·have := may_iff.1 (ms_may _ _ h3 m hm)
   rw [may_iff]
   omega
 ·exact cl_may _ _ _ h4 d h2
theorem ents_ok {x : Cx} (hx : canX x = true) : ∀ (l pre : List En), entsE x pre l = 0 → (∀ e ∈ l, e.p < 18446744073709551616) → ∀ e ∈ l, okE e
 | [], _, _, _ => by simp
 | e :: r, pre, h, hp => by
  simp only [entsE] at h
  split at h
  ·rename_i h1; exact absurd h h1
  ·rename_i h1
   have h2 := Decidable.not_not.1 h1
   intro y hy
   rcases List.mem_cons.1 hy with rfl | hy
   ·unfold entE at h2
    by_cases n1 : isName y.it = false
    ·rw [if_pos n1] at h2; cases h2
    rw [if_neg n1] at h2
    by_cases n2 : y.q < 1 ∨ 1000000 < y.q
    ·rw [if_pos n2] at h2; cases h2
    rw [if_neg n2] at h2
    by_cases n3 : isPrice y.p = false
    ·rw [if_pos n3] at h2; cases h2
    rw [if_neg n3] at h2
    by_cases n4 : covers x y.d = false
    ·rw [if_pos (.inl n4)] at h2; cases h2
    have n1' : isName y.it = true := by simpa using n1
    simp only [isName, Bool.and_eq_true, decide_eq_true_eq] at n1'
    exact ⟨n1'.1.2, covers_may hx (by simpa using n4), by omega, hp y (by simp)⟩
   ·exact ents_ok hx r _ h (fun z hz => hp z (by simp [hz])) y hy
theorem can_iff {c : Ct} (h : canC c = 0) : canX c.x = true ∧ c.es.length ≤ 64 ∧ entsE c.x [] c.es = 0 ∧ itemsF none c.es ≤ 32 := by
 unfold canC at h
 split at h
 ·cases h
 rename_i h1
 split at h
 ·cases h
 rename_i h2
 split at h
 ·rename_i h3; exact absurd h h3
 rename_i h3
 split at h
 ·cases h
 rename_i h4
 exact ⟨by simpa using h1, by omega, Decidable.not_not.1 h3, by omega⟩
end Go.Ct
namespace Go.Proofs.YtpdedfpacklnoaaGreatDoor

/-- The letter of a number below 64. -/
def ltr (k : Nat) : Nat := if k < 26 then 65 + k else if k < 52 then 71 + k else if k < 62 then k - 4 else if k = 62 then 45 else 95
/-- A letter's number; 64: it is none. -/
def vlt (c : Nat) : Nat := if 65 ≤ c ∧ c ≤ 90 then c - 65 else if 97 ≤ c ∧ c ≤ 122 then c - 71 else if 48 ≤ c ∧ c ≤ 57 then c + 4 else if c = 45 then 62 else if c = 95 then 63 else 64
theorem ltr_lt (k : Nat) : ltr k < 256 := by
 unfold ltr
 repeat' split
 all_goals omega
def lettersL : List Nat → List Nat
 | [] => []
 | [a] => [ltr (a / 4), ltr (a % 4 * 16)]
 | [a, b] => [ltr (a / 4), ltr (a % 4 * 16 + b / 16), ltr (b % 16 * 4)]
 | a :: b :: c :: r => ltr (a / 4) :: ltr (a % 4 * 16 + b / 16) :: ltr (b % 16 * 4 + c / 64) :: ltr (c % 64) :: lettersL r
def bytesL : List Nat → Option (List Nat)
 | [] => some []
 | [_] => none
 | [p, q] => if vlt p = 64 ∨ vlt q = 64 ∨ vlt q % 16 ≠ 0 then none else some [vlt p * 4 + vlt q / 16]
 | [p, q, r] => if vlt p = 64 ∨ vlt q = 64 ∨ vlt r = 64 ∨ vlt r % 4 ≠ 0 then none else some [vlt p * 4 + vlt q / 16, vlt q % 16 * 16 + vlt r / 4]
 | p :: q :: r :: s :: t => if vlt p = 64 ∨ vlt q = 64 ∨ vlt r = 64 ∨ vlt s = 64 then none else
  (bytesL t).map fun x => (vlt p * 4 + vlt q / 16) :: (vlt q % 16 * 16 + vlt r / 4) :: (vlt r % 4 * 64 + vlt s) :: x
theorem letters_len : ∀ b : List Nat, (lettersL b).length ≤ 2 * b.length
 | [] => by simp [lettersL]
 | [a] => by simp [lettersL]
 | [a, b] => by simp [lettersL]
 | a :: b :: c :: r => by
  have := letters_len r
  simp only [lettersL, List.length_cons]
  omega
end Go.Proofs.YtpdedfpacklnoaaGreatDoor
namespace Go.Proofs.YtpdedfpacklnoaaGreatDoor
open Go.Ct Go.Wr

/-- A cut at the first byte of that kind. -/
def cut1 (c : UInt8) : List UInt8 → List UInt8 × List UInt8 × Bool
 | [] => ([], [], false)
 | x :: r => if x = c then ([], r, true) else (x :: (cut1 c r).1, (cut1 c r).2.1, (cut1 c r).2.2)
/-- What stands between bytes of that kind. -/
def partsL (c : UInt8) : List UInt8 → List (List UInt8)
 | [] => [[]]
 | x :: r => if x = c then [] :: partsL c r else match partsL c r with
  | [] => [[x]]
  | h :: t => (x :: h) :: t
def cartT : List UInt8 := [99, 97, 114, 116]
def getT : List UInt8 := [71, 69, 84]
def putT : List UInt8 := [80, 85, 84]
def delT : List UInt8 := [68, 69, 76, 69, 84, 69]
def tokenH : List UInt8 := [120, 45, 99, 97, 114, 116, 45, 116, 111, 107, 101, 110]
/-- The key and the item of a path, and how many parts these are. -/
def pathL (s : List UInt8) : List UInt8 × List UInt8 × Nat := match partsL 47 s with
 | [a, b, k] => if a = [] ∧ b = cartT then (k, [], 1) else ([], [], 0)
 | [a, b, k, i] => if a = [] ∧ b = cartT then (k, i, 2) else ([], [], 0)
 | _ => ([], [], 0)
/-- Pieces. -/
def piecesL (s : List UInt8) : Option Nat := match Lib.atoiAll s with
 | .ok n => if 1 ≤ n ∧ n ≤ 1000000 ∧ Lib.itoa n = s then some n.toNat else none
 | _ => none
/-- A price. -/
noncomputable def priceT (s : List UInt8) : Option Nat :=
 if (cut1 46 s).2.2 then Fl.priceL (cut1 46 s).1 (cut1 46 s).2.1 true else Fl.priceL s [] false
def noC : Ct := ⟨[], ⟨[], []⟩⟩
/-- A token. -/
def tokenR (s : List UInt8) : Except Nat Ct :=
 if s = [] then .ok noC else match bytesL (nats s) with
 | none => .error 150
 | some b => if (unframe b).2.2 ≠ 0 ∨ (unframe b).2.1 ≠ [] then .error 150 else match decodeL (unframe b).1 with
  | .error _ => .error 150
  | .ok c => .ok c
structure Ask where
 id : Int
 kind : Nat
 key : List UInt8
 item : List UInt8
 qty : Nat
 price : Nat
 seen : Ct
def kindL (m : List UInt8) (parts : Nat) : Nat := if m = getT ∧ parts = 1 then 1 else if m = putT ∧ parts = 2 then 2 else if m = delT ∧ parts = 2 then 3 else 0
def seenL (tok : Option (List UInt8)) : Except Nat Ct := match tok with
 | none => .ok noC
 | some s => tokenR s
noncomputable def bodyL (a : Ask) (body : List UInt8) : Except Nat Ask :=
 if a.kind ≠ 2 then if body ≠ [] then .error 400 else .ok a
 else match (cut1 32 body).2.2, piecesL (cut1 32 body).1, priceT (cut1 32 body).2.1 with
 | true, some n, some p => .ok { a with qty := n, price := p }
 | _, _, _ => .error 400
/-- What a request asks, or the status that refuses it. -/
noncomputable def routeL (m path : List UInt8) (tok : Option (List UInt8)) (body : List UInt8) (id : Int) : Except Nat Ask :=
 if (pathL path).2.2 = 0 then .error 404
 else if kindL m (pathL path).2.2 = 0 then .error 405
 else if isName (pathL path).1 = false ∨ ((pathL path).2.2 = 2 ∧ isName (pathL path).2.1 = false) then .error 400
 else match seenL tok with
 | .error _ => .error 400
 | .ok c => bodyL ⟨id, kindL m (pathL path).2.2, (pathL path).1, (pathL path).2.1, 0, 0, c⟩ body
theorem cut1_cons (c x : UInt8) (r : List UInt8) : cut1 c (x :: r) = if x = c then ([], r, true) else (x :: (cut1 c r).1, (cut1 c r).2.1, (cut1 c r).2.2) := rfl
theorem parts_cons (c x : UInt8) (r : List UInt8) : partsL c (x :: r) = if x = c then [] :: partsL c r else match partsL c r with
  | [] => [[x]]
  | h :: t => (x :: h) :: t := rfl
theorem cutL_cut1 (c : UInt8) : ∀ s : List UInt8, H.cutL s [c] = cut1 c s
 | [] => rfl
 | x :: t => by
  have ih := cutL_cut1 c t
  have h4 := Lib.index_ge t [c]
  unfold H.cutL Lib.cut at ih ⊢
  rw [H.index_cons]
  unfold cut1
  by_cases hx : x = c
  ·subst hx
   rw [if_pos (show ([x] : List UInt8).isPrefixOf (x :: t) = true from by simp [List.isPrefixOf]), if_pos rfl]
   rfl
  ·rw [if_neg (show ¬ ([c] : List UInt8).isPrefixOf (x :: t) = true from by simp [List.isPrefixOf]; exact fun h => hx h.symm), if_neg hx, ← ih]
   by_cases h : Lib.index t [c] = -1
   ·rw [h]; rfl
   ·obtain ⟨j, hj⟩ : ∃ j : Nat, Lib.index t [c] = j := ⟨(Lib.index t [c]).toNat, by omega⟩
    have h5 : (Lib.index t [c] == -1) = false := beq_false_of_ne h
    have h6 : (if (Lib.index t [c] == -1) = true then (-1 : Int) else Lib.index t [c] + 1) = (j : Int) + 1 := by rw [h5, hj]; rfl
    rw [h6, hj, if_pos (by omega), if_pos (by omega)]
    simp only [show ((j : Int) + 1).toNat = j + 1 from by omega, Int.toNat_natCast, List.take_succ_cons, show ([c] : List UInt8).length = 1 from rfl, List.drop_succ_cons]
theorem index_one (c : UInt8) : ∀ s : List UInt8, (Lib.index s [c] = -1 → cut1 c s = (s, [], false)) ∧ ∀ i : Nat, Lib.index s [c] = i → cut1 c s = (s.take i, s.drop (i + 1), true)
 | [] => ⟨fun _ => rfl, fun i h => by rw [show Lib.index [] [c] = -1 from rfl] at h; omega⟩
 | x :: t => by
  have ih := index_one c t
  have h4 := Lib.index_ge t [c]
  rw [H.index_cons]
  unfold cut1
  by_cases hx : x = c
  ·subst hx
   rw [if_pos (show ([x] : List UInt8).isPrefixOf (x :: t) = true from by simp [List.isPrefixOf]), if_pos rfl]
   exact ⟨fun h => by omega, fun i h => by obtain rfl : i = 0 := by omega
                                           rfl⟩
  ·rw [if_neg (show ¬ ([c] : List UInt8).isPrefixOf (x :: t) = true from by simp [List.isPrefixOf]; exact fun h => hx h.symm), if_neg hx]
   by_cases h : Lib.index t [c] = -1
   ·rw [h, (ih.1 h)]
    exact ⟨fun _ => rfl, fun i h => by simp at h⟩
   ·obtain ⟨j, hj⟩ : ∃ j : Nat, Lib.index t [c] = j := ⟨(Lib.index t [c]).toNat, by omega⟩
    have h5 : (Lib.index t [c] == -1) = false := beq_false_of_ne h
    rw [h5, hj, (ih.2 j hj)]
    refine ⟨fun h => by simp at h; omega, fun i h => ?_⟩
    obtain rfl : i = j + 1 := by simp at h; omega
    rfl
theorem parts_cut (c : UInt8) : ∀ s : List UInt8, partsL c s = if (cut1 c s).2.2 then (cut1 c s).1 :: partsL c (cut1 c s).2.1 else [s]
 | [] => rfl
 | x :: t => by
  rw [parts_cons, cut1_cons]
  by_cases hx : x = c
  ·rw [if_pos hx, if_pos hx]; rfl
  ·rw [if_neg hx, if_neg hx, parts_cut c t]
   dsimp only
   cases h : (cut1 c t).2.2 with
   | true => rfl
   | false => rfl
theorem lns_parts (c : UInt8) : ∀ (n : Nat) (s : List UInt8), s.length ≤ n → H.lns s [c] = partsL c s
 | n, s, hn => by
  rw [parts_cut]
  by_cases h : Lib.index s [c] = -1
  ·rw [H.lns_miss h, ((index_one c s).1 h)]
   rfl
  ·have h4 := Lib.index_ge s [c]
   obtain ⟨j, hj⟩ : ∃ j : Nat, Lib.index s [c] = j := ⟨(Lib.index s [c]).toNat, by omega⟩
   rw [H.lns_hit (by simp) hj, ((index_one c s).2 j hj)]
   dsimp only
   rw [if_pos rfl]
   have hs : s ≠ [] := fun e => by subst e; rw [show Lib.index [] [c] = -1 from rfl] at h; exact h rfl
   have hp := List.length_pos_iff.2 hs
   cases n with
   | zero => omega
   | succ n => rw [show ([c] : List UInt8).length = 1 from rfl, lns_parts c n (s.drop (j + 1)) (by rw [List.length_drop]; omega)]
end Go.Proofs.YtpdedfpacklnoaaGreatDoor
namespace Go.Sl
open Go.RowKit Go.BL
variable {α : Type}

/-- The value is a slice that reads as this list; an element takes k cells, which hold f of it. -/
def Sl (k : Nat) (f : α → List Value) (w : World) (v : Value) (l : List α) : Prop :=
 l.length ≤ 4611686018427387903 ∧ ∃ A c, v = .slice A l.length c ∧ (0 < l.length → ∃ b off, A = some ⟨b, off, none⟩ ∧ b < w.heap.size ∧
  ∀ i (h : i < l.length) j u, (f l[i])[j]? = some u → w.cell? ⟨b, off + i * k + j, none⟩ = some u)
theorem Sl.below {k : Nat} {f : α → List Value} {w w' : World} {v : Value} {l : List α} {B : Nat} (h : Sl k f w v l) (hb : Below B w w') (hB : w.heap.size ≤ B) : Sl k f w' v l := by
 obtain ⟨h0, A, c, rfl, h1⟩ := h
 refine ⟨h0, A, c, rfl, fun hn => ?_⟩
 obtain ⟨b, off, rfl, hlt, hc⟩ := h1 hn
 exact ⟨b, off, rfl, Nat.lt_of_lt_of_le hlt hb.size, fun i hi j u hu => (hb.cell (show b < B by omega)).trans (hc i hi j u hu)⟩
theorem Sl.form {k : Nat} {f : α → List Value} {w : World} {v : Value} {l : List α} (h : Sl k f w v l) : ∃ A c, v = .slice A l.length c := by
 obtain ⟨_, A, c, e, _⟩ := h
 exact ⟨A, c, e⟩
theorem Sl.nil {k : Nat} {f : α → List Value} (w : World) : Sl k f w (.slice none 0 0) ([] : List α) := ⟨by simp, none, 0, rfl, fun h => absurd h (by simp)⟩
theorem Sl.zero {k : Nat} {f : α → List Value} (w : World) (A : Option Addr) (c : Nat) : Sl k f w (.slice A 0 c) ([] : List α) := ⟨by simp, A, c, rfl, fun h => absurd h (by simp)⟩
theorem Sl.drewN {k : Nat} {f : α → List Value} {w : World} {v : Value} {l : List α} (h : Sl k f w v l) (N : Nat) : Sl k f (w.drewN N) v l := h
/-- The first n elements. -/
theorem Sl.take {k : Nat} {f : α → List Value} {w : World} {A : Option Addr} {c : Nat} {l : List α} (h : Sl k f w (.slice A l.length c) l) (n : Nat) (hn : n ≤ l.length) (c' : Nat) : Sl k f w (.slice A n c') (l.take n) := by
 obtain ⟨h0, A', c0, e, h1⟩ := h
 injection e with e1 e2 e3
 subst e1 e3
 have hl : (l.take n).length = n := by rw [List.length_take]; omega
 refine ⟨by omega, A, c', by rw [hl], fun hp => ?_⟩
 obtain ⟨b, off, rfl, hlt, hc⟩ := h1 (by omega)
 refine ⟨b, off, rfl, hlt, fun i hi j u hu => hc i (by omega) j u ?_⟩
 rw [← hu, List.getElem_take]
/-- Behind the first n elements. -/
theorem Sl.drop {k : Nat} {f : α → List Value} {w : World} {b off c : Nat} {l : List α} (h : Sl k f w (.slice (some ⟨b, off, none⟩) l.length c) l) (n : Nat) (hn : n ≤ l.length) (c' : Nat) : Sl k f w (.slice (some ⟨b, off + n * k, none⟩) (l.length - n) c') (l.drop n) := by
 obtain ⟨h0, A', c0, e, h1⟩ := h
 injection e with e1 e2 e3
 subst e1 e3
 have hl : (l.drop n).length = l.length - n := List.length_drop
 refine ⟨by omega, _, c', by rw [hl], fun hp => ?_⟩
 obtain ⟨b', off', e, hlt, hc⟩ := h1 (by omega)
 injection e with e
 injection e with e1 e2 _
 subst e1 e2
 refine ⟨b, off + n * k, rfl, hlt, fun i hi j u hu => ?_⟩
 have := hc (n + i) (by omega) j u (by rw [← hu, List.getElem_drop])
 have e : off + n * k + i * k + j = off + (n + i) * k + j := by rw [Nat.add_mul]; omega
 rw [e]
 exact this
def flat (f : α → List Value) (l : List α) : List Value := l.flatMap f
theorem flat_len {k : Nat} {f : α → List Value} (hf : ∀ x, (f x).length = k) : ∀ l : List α, (flat f l).length = l.length * k
 | [] => by simp [flat]
 | x :: r => by
  have := flat_len hf r
  simp only [flat, List.flatMap_cons, List.length_append, hf, List.length_cons] at this ⊢
  rw [Nat.add_mul, Nat.one_mul]
  omega
theorem flat_app (f : α → List Value) (a b : List α) : flat f (a ++ b) = flat f a ++ flat f b := by simp [flat]
theorem flat_one {f : α → List Value} (hf : ∀ x, ∀ u ∈ f x, u.oneCell' = true) (l : List α) : ∀ u ∈ flat f l, u.oneCell' = true := by
 intro u hu
 simp only [flat, List.mem_flatMap] at hu
 obtain ⟨x, _, hu⟩ := hu
 exact hf x u hu
theorem flat_at {k : Nat} {f : α → List Value} (hf : ∀ x, (f x).length = k) : ∀ (l : List α) (i : Nat) (h : i < l.length) (j : Nat) (u : Value), (f l[i])[j]? = some u → (flat f l)[i * k + j]? = some u
 | [], i, h, _, _, _ => absurd h (Nat.not_lt_zero _)
 | x :: r, 0, _, j, u, hu => by
  have hj : j < (f x).length := by
   rcases Nat.lt_or_ge j (f x).length with h | h
   ·exact h
   ·rw [show (x :: r)[0] = x from rfl, List.getElem?_eq_none h] at hu; cases hu
  show (f x ++ flat f r)[0 * k + j]? = some u
  rw [Nat.zero_mul, Nat.zero_add, List.getElem?_append_left hj]
  exact hu
 | x :: r, i + 1, h, j, u, hu => by
  show (f x ++ flat f r)[(i + 1) * k + j]? = some u
  have e : (i + 1) * k + j = (f x).length + (i * k + j) := by rw [hf, Nat.add_mul, Nat.one_mul]; omega
  rw [e, List.getElem?_append_right (Nat.le_add_right _ _), Nat.add_sub_cancel_left]
  exact flat_at hf r i (by simpa using h) j u hu
/-- The value is a row of the call's own (behind base) that holds this list. -/
def OwnS (t k : Nat) (f : α → List Value) (w : World) (B : Nat) (v : Value) (l : List α) : Prop := w.ownsRow B t k v l.length (flat f l)
section
variable {t k : Nat} {f : α → List Value}
theorem OwnS.nil (w : World) (B : Nat) : OwnS t k f w B (.slice none 0 0) ([] : List α) := ⟨by simp [flat], .inl ⟨rfl, rfl⟩⟩
theorem OwnS.below {w w' : World} {B C : Nat} {v : Value} {l : List α} (h : OwnS t k f w B v l) (hb : Below C w w') (hC : w.heap.size ≤ C) : OwnS t k f w' B v l := by
 refine ⟨h.1, ?_⟩
 rcases h.2 with h0 | ⟨g, cap, cur, hv, hg, hh, r⟩
 ·exact .inl h0
 ·have hlt : g < w.heap.size := by
   rcases Nat.lt_or_ge g w.heap.size with h' | h'
   ·exact h'
   ·rw [Array.getElem?_eq_none h'] at hh; cases hh
  exact .inr ⟨g, cap, cur, hv, hg, (hb.block g (by omega)).trans hh, r⟩
theorem OwnS.block_ge {w : World} {B : Nat} {v : Value} {l : List α} (h : OwnS t k f w B v l) : ∀ g, v.ownBlock = some g → B ≤ g := by
 intro g hg
 rcases h.2 with ⟨rfl, _⟩ | ⟨g', cap, cur, rfl, hg', _⟩
 ·cases hg
 ·simp only [Value.ownBlock, Option.some.injEq] at hg; omega
theorem OwnS.form {w : World} {B : Nat} {v : Value} {l : List α} (h : OwnS t k f w B v l) : ∃ A c, v = .slice A l.length c := by
 rcases h.2 with ⟨rfl, h0⟩ | ⟨g, cap, cur, rfl, _⟩
 ·exact ⟨none, 0, by rw [h0]⟩
 ·exact ⟨_, cap, rfl⟩
/-- A store into a block ahead. -/
theorem OwnS.setCell {w : World} {B : Nat} {v : Value} {l : List α} (h : OwnS t k f w B v l) {p : Addr} (hp : p.block < B) (u : Value) : OwnS t k f (w.setCell p u) B v l := by
 refine ⟨h.1, ?_⟩
 rcases h.2 with h0 | ⟨g, cap, cur, hv, hg, hh, r⟩
 ·exact .inl h0
 ·exact .inr ⟨g, cap, cur, hv, hg, (Below.heap_setCell w p u g (by omega)).trans hh, r⟩
theorem OwnS.base {w : World} {B B' : Nat} {v : Value} {l : List α} (h : OwnS t k f w B v l) (hB : B' ≤ B) : OwnS t k f w B' v l := by
 refine ⟨h.1, ?_⟩
 rcases h.2 with h0 | ⟨g, cap, cur, hv, hg, r⟩
 ·exact .inl h0
 ·exact .inr ⟨g, cap, cur, hv, by omega, r⟩
theorem OwnS.sl (hf : ∀ x, (f x).length = k) {w : World} {B : Nat} {v : Value} {l : List α} (h : OwnS t k f w B v l) (hm : l.length ≤ 4611686018427387903) : Sl k f w v l := by
 rcases h.2 with ⟨rfl, h0⟩ | ⟨g, cap, cur, rfl, hg, hh, hn, _⟩
 ·rw [List.eq_nil_of_length_eq_zero h0]
  exact Sl.nil w
 ·refine ⟨hm, _, cap, rfl, fun _ => ⟨g, 0, rfl, ?_, fun i hi j u hu => ?_⟩⟩
  ·rcases Nat.lt_or_ge g w.heap.size with h' | h'
   ·exact h'
   ·rw [Array.getElem?_eq_none h'] at hh; cases hh
  ·have hc := World.ownsRow.cells h (g := g) rfl
   have h1 := hc _ _ (flat_at hf l i hi j u hu)
   rw [add_none] at h1
   have e : 0 + i * k + j = i * k + j := by omega
   have e2 : 0 + (i * k + j) = i * k + j := by omega
   rw [e]
   first | exact h1 | (rw [e2] at h1; exact h1)
theorem info_of {P : Program} {e : TypeId} {z : Value} {n b : Nat} (h : (P.info? e).map (fun i => (i.zero, i.size, i.bytes)) = some (some z, n, b)) : ∃ i, P.info? e = some i ∧ i.zero = some z ∧ i.size = n ∧ i.bytes = b := by
 cases hi : P.info? e with
 | none => rw [hi] at h; cases h
 | some i =>
  rw [hi] at h
  simp only [Option.map_some, Option.some.injEq, Prod.mk.injEq] at h
  exact ⟨i, rfl, h.1, h.2.1, h.2.2⟩
theorem one_reads {w : World} {g : Nat} {x : α} (hf : ∀ x, (f x).length = k) (hk : 0 < k) (hg : ∀ j u, (f x)[j]? = some u → w.cell? ⟨g, j, none⟩ = some u) : Reads w w.heap.size k (some ⟨g, 0, none⟩) 1 (flat f [x]) := by
 have h1 : flat f [x] = f x := by simp [flat]
 rw [h1]
 refine ⟨by rw [hf]; omega, fun _ => ⟨_, rfl, ?_, fun j u hj => ?_⟩⟩
 ·obtain ⟨u, hu⟩ : ∃ u, (f x)[0]? = some u := ⟨(f x)[0]'(by rw [hf]; exact hk), List.getElem?_eq_getElem _⟩
  exact lt_block (hg 0 u hu)
 ·rw [add_none, Nat.zero_add]
  exact hg j u hj
theorem bytes_fit {n b : Nat} (hn : n ≤ 1000000) (hb : b ≤ 100000) : (n + 1) * b ≤ 140737488355328 :=
 Nat.le_trans (Nat.mul_le_mul (show n + 1 ≤ 1000001 by omega) hb) (by decide)
/-- append(l, y), in a region in the order of its text. -/
theorem wpList_appS {P : Program} {w : World} {ops : Array Oper} {rest : List Oper} {o : Oper} {a : Act} {Q : Exit → Act → World → Prop} (hgd : o.guard = none) (s x : Operand) (st : TypeId)
  (ho : o.op = .call { callee := .builtin .append, args := #[s, x], argTypes := #[st, st] })
  (ht : P.underlying st = some (.slice t)) {z : Value} {bytes : Nat} (hi : (P.info? t).map (fun i => (i.zero, i.size, i.bytes)) = some (some z, k, bytes)) (hzs : z.cells.size = k) (hk : 0 < k)
  (hf : ∀ x, (f x).length = k) (h1 : ∀ x, ∀ u ∈ f x, u.oneCell' = true) (hby : bytes ≤ 100000)
  {B : Nat} {v : Value} {l : List α} (hs : a.eval s = v) (hown : OwnS t k f w B v l)
  {g c : Nat} {y : α} (hx : a.eval x = .slice (some ⟨g, 0, none⟩) 1 c) (hg : ∀ j u, (f y)[j]? = some u → w.cell? ⟨g, j, none⟩ = some u) (hb : l.length ≤ 1000000) (hbase : B ≤ w.heap.size)
  (h : ∀ v' w', OwnS t k f w' B v' (l ++ [y]) → Below B w w' → w.grownBy w' v.ownBlock → wpList P ops Q rest (a.put o.dst v') w') : wpList P ops Q (o :: rest) a w := by
 obtain ⟨i0, hi0, hz0, hz1, hz2⟩ := info_of hi
 refine wpList_append_any w hgd s x st ho B t i0 z k bytes ht hi0 hz0 hz1 hz2 hzs hk v l.length (flat f l) hs hown w.heap.size _ 1 c (flat f [y]) hx (one_reads hf hk hg) (flat_one h1 _) (by unfold maxLen; omega) (bytes_fit hb hby) hbase ?_
 intro v' w' k1 k2 _
 refine h v' w' ?_ ((Below.refl B w).grown k2 hbase hown.block_ge) k2
 unfold OwnS
 rw [List.length_append, flat_app]
 exact k1
end
end Go.Sl
namespace Go.Sl
open Go.RowKit Go.BL
variable {α : Type} {t k : Nat} {f : α → List Value}

theorem OwnS.empty (w : World) (B g : Nat) (hg : g = w.heap.size) (hB : B ≤ g) : OwnS t k f (w.alloc (.cells #[] t)) B (.slice (some ⟨g, 0, none⟩) 0 0) ([] : List α) := by
 subst hg
 refine ⟨by simp [flat], .inr ⟨w.heap.size, 0, #[], rfl, hB, ?_, Nat.le_refl _, by simp, by simp, by simp [flat]⟩⟩
 show (w.heap.push _)[w.heap.size]? = _
 simp
theorem Sl.reads (hf : ∀ x, (f x).length = k) (hk : 0 < k) {w : World} {A : Option Addr} {n c : Nat} {l : List α} (h : Sl k f w (.slice A n c) l) : n = l.length ∧ Reads w w.heap.size k A n (flat f l) := by
 obtain ⟨_, A', c', e, hc⟩ := h
 injection e with e1 e2 e3
 subst e1 e2
 refine ⟨rfl, flat_len hf l, fun hn => ?_⟩
 obtain ⟨b, off, rfl, hb, hr⟩ := hc hn
 refine ⟨_, rfl, hb, fun j u hu => ?_⟩
 rw [add_none]
 have hj : j < l.length * k := by
  rcases Nat.lt_or_ge j (l.length * k) with h | h
  ·exact h
  ·rw [List.getElem?_eq_none (by rw [flat_len hf]; exact h)] at hu; cases hu
 have hi : j / k < l.length := Nat.div_lt_of_lt_mul (by rw [Nat.mul_comm]; exact hj)
 have hm : j % k < k := Nat.mod_lt _ hk
 obtain ⟨x, hx⟩ : ∃ x, (f (l[j / k]'hi))[j % k]? = some x := ⟨_, List.getElem?_eq_getElem (by rw [hf]; exact hm)⟩
 have h1 := flat_at hf l (j / k) hi (j % k) x hx
 have e : j / k * k + j % k = j := by rw [Nat.mul_comm]; exact Nat.div_add_mod j k
 rw [e, hu] at h1
 injection h1 with h1
 subst h1
 have := hr (j / k) hi (j % k) u hx
 rw [Nat.add_assoc, e] at this
 exact this
/-- append(l, m...). -/
theorem wpList_appSs {P : Program} {w : World} {ops : Array Oper} {rest : List Oper} {o : Oper} {a : Act} {Q : Exit → Act → World → Prop} (hgd : o.guard = none) (s x : Operand) (st : TypeId)
  (ho : o.op = .call { callee := .builtin .append, args := #[s, x], argTypes := #[st, st] })
  (ht : P.underlying st = some (.slice t)) {z : Value} {bytes : Nat} (hi : (P.info? t).map (fun i => (i.zero, i.size, i.bytes)) = some (some z, k, bytes)) (hzs : z.cells.size = k) (hk : 0 < k)
  (hf : ∀ x, (f x).length = k) (h1 : ∀ x, ∀ u ∈ f x, u.oneCell' = true) (hby : bytes ≤ 100000)
  {B : Nat} {v : Value} {l m : List α} (hs : a.eval s = v) (hown : OwnS t k f w B v l)
  {A : Option Addr} {n c : Nat} (hx : a.eval x = .slice A n c) (hd : Sl k f w (.slice A n c) m) (hb : l.length + n ≤ 1000000) (hbase : B ≤ w.heap.size)
  (h : ∀ v' w', OwnS t k f w' B v' (l ++ m) → Below B w w' → w.grownBy w' v.ownBlock → wpList P ops Q rest (a.put o.dst v') w') : wpList P ops Q (o :: rest) a w := by
 obtain ⟨i0, hi0, hz0, hz1, hz2⟩ := info_of hi
 obtain ⟨hn, hr⟩ := hd.reads hf hk
 have hbf := bytes_fit (n := l.length + n) hb hby
 refine wpList_append_any w hgd s x st ho B t i0 z k bytes ht hi0 hz0 hz1 hz2 hzs hk v l.length (flat f l) hs hown w.heap.size A n c (flat f m) hx hr (flat_one h1 _) (by unfold maxLen; omega) (Nat.le_trans (Nat.mul_le_mul_right _ (Nat.le_succ _)) hbf) hbase ?_
 intro v' w' k1 k2 _
 refine h v' w' ?_ ((Below.refl B w).grown k2 hbase hown.block_ge) k2
 unfold OwnS
 rw [List.length_append, flat_app, ← hn]
 exact k1
end Go.Sl
namespace Go.Proofs.YtpdedfpacklnoaaGreatDoor
open Go.RowKit Go.BL Go.Ct Go.Sl

def dotC (d : Dt) : List Value := [.int .i64 d.n, .int .i64 d.l, .int .i64 d.c]
def entC (e : En) : List Value := [.string ⟨e.it.toArray⟩, .int .i64 e.d.n, .int .i64 e.d.l, .int .i64 e.d.c, .int .i64 e.q, .int .u64 (e.p : Int)]
theorem dotC_len (d : Dt) : (dotC d).length = 3 := rfl
theorem entC_len (e : En) : (entC e).length = 6 := rfl
theorem dotC_one (d : Dt) : ∀ u ∈ dotC d, u.oneCell' = true := by
 intro u hu
 simp only [dotC, List.mem_cons, List.not_mem_nil, or_false] at hu
 rcases hu with rfl | rfl | rfl <;> rfl
theorem entC_one (e : En) : ∀ u ∈ entC e, u.oneCell' = true := by
 intro u hu
 simp only [entC, List.mem_cons, List.not_mem_nil, or_false] at hu
 rcases hu with rfl | rfl | rfl | rfl | rfl | rfl <;> rfl
def dotV (d : Dt) : Value := .agg #[.int .i64 d.n, .int .i64 d.l, .int .i64 d.c]
def entV (e : En) : Value := .agg #[.string ⟨e.it.toArray⟩, .int .i64 e.d.n, .int .i64 e.d.l, .int .i64 e.d.c, .int .i64 e.q, .int .u64 (e.p : Int)]
abbrev Dots := Sl 3 dotC
abbrev Ents := Sl 6 entC
/-- The value is a cart that reads so. -/
def CartR (w : World) (v : Value) (k : Ct) : Prop := ∃ e m c, v = .agg #[e, m, c] ∧ Ents w e k.es ∧ Dots w m k.x.ms ∧ Dots w c k.x.cl
/-- The cells of a dot of a slice. -/
theorem dot_cells {w : World} {A : Option Addr} {c : Nat} {l : List Dt} (h : Dots w (.slice A l.length c) l) (hn : 0 < l.length) : ∃ b off, A = some ⟨b, off, none⟩ ∧ b < w.heap.size ∧
  ∀ i (hi : i < l.length), w.cell? ⟨b, off + i * 3, none⟩ = some (.int .i64 l[i].n) ∧ w.cell? ⟨b, off + i * 3 + 1, none⟩ = some (.int .i64 l[i].l) ∧ w.cell? ⟨b, off + i * 3 + 2, none⟩ = some (.int .i64 l[i].c) := by
 obtain ⟨_, A', c', e, h1⟩ := h
 injection e with e1 e2 e3
 subst e1 e3
 obtain ⟨b, off, rfl, hlt, hc⟩ := h1 hn
 exact ⟨b, off, rfl, hlt, fun i hi => ⟨hc i hi 0 _ rfl, hc i hi 1 _ rfl, hc i hi 2 _ rfl⟩⟩
theorem ent_cells {w : World} {A : Option Addr} {c : Nat} {l : List En} (h : Ents w (.slice A l.length c) l) (hn : 0 < l.length) : ∃ b off, A = some ⟨b, off, none⟩ ∧ b < w.heap.size ∧
  ∀ i (hi : i < l.length), w.cell? ⟨b, off + i * 6, none⟩ = some (.string ⟨l[i].it.toArray⟩) ∧ w.cell? ⟨b, off + i * 6 + 1, none⟩ = some (.int .i64 l[i].d.n) ∧ w.cell? ⟨b, off + i * 6 + 2, none⟩ = some (.int .i64 l[i].d.l) ∧
   w.cell? ⟨b, off + i * 6 + 3, none⟩ = some (.int .i64 l[i].d.c) ∧ w.cell? ⟨b, off + i * 6 + 4, none⟩ = some (.int .i64 l[i].q) ∧ w.cell? ⟨b, off + i * 6 + 5, none⟩ = some (.int .u64 (l[i].p : Int)) := by
 obtain ⟨_, A', c', e, h1⟩ := h
 injection e with e1 e2 e3
 subst e1 e3
 obtain ⟨b, off, rfl, hlt, hc⟩ := h1 hn
 exact ⟨b, off, rfl, hlt, fun i hi => ⟨hc i hi 0 _ rfl, hc i hi 1 _ rfl, hc i hi 2 _ rfl, hc i hi 3 _ rfl, hc i hi 4 _ rfl, hc i hi 5 _ rfl⟩⟩
theorem pair_at (w : World) (x y : Value) (t : TypeId) (g : Nat) (hg : g = w.heap.size) : (w.alloc (.cells #[x, y] t)).cell? ⟨g, 0, none⟩ = some x ∧ (w.alloc (.cells #[x, y] t)).cell? ⟨g, 1, none⟩ = some y := by
 subst hg
 constructor <;> (rw [World.cell?_alloc_at _ _ _ _ rfl]; rfl)
theorem tri_at (w : World) (x y z : Value) (t : TypeId) (g : Nat) (hg : g = w.heap.size) : (w.alloc (.cells #[x, y, z] t)).cell? ⟨g, 0, none⟩ = some x ∧ (w.alloc (.cells #[x, y, z] t)).cell? ⟨g, 1, none⟩ = some y ∧ (w.alloc (.cells #[x, y, z] t)).cell? ⟨g, 2, none⟩ = some z := by
 subst hg
 refine ⟨?_, ?_, ?_⟩ <;> (rw [World.cell?_alloc_at _ _ _ _ rfl]; rfl)
/-- Cells of a block ahead, in a later world. -/
theorem old_cell {w w' : World} {B C : Nat} (hb : Below C w w') (hC : B < C) {i : Nat} {v : Value} (h : w.cell? ⟨B, i, none⟩ = some v) : w'.cell? ⟨B, i, none⟩ = some v := (hb.cell (p := ⟨B, i, none⟩) hC).trans h
end Go.Proofs.YtpdedfpacklnoaaGreatDoor
