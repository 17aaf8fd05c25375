/- A reader that stands at a place of its bytes; Over makes one; Left, At. -/
import Derived.Test.YthjfogllinboaaaNob
import Derived.Test.YthjfogllinboaaaKept
namespace Go.Proofs.Ythjfogllinboaaa
open Go.RowKit Go.BL Go.Wr
/-- The object at g, below B, is a reader over bs, which lie below B, that stands at i. -/
def Rdr (w : World) (B g : Nat) (bs : List Nat) (i : Nat) : Prop :=
  ∃ G c, w.heap[g]? = some (.cells #[.slice G bs.length c, .int .i64 (i : Int), .bool true] 31 (0, 0)) ∧ Rd w G bs.length bs ∧ i ≤ bs.length ∧ bs.length ≤ 140737488355000 ∧ g < B ∧ bs.length ≤ c ∧ ∀ a, G = some a → a.block < B
theorem Rdr.cells {w : World} {B g i : Nat} {bs : List Nat} (h : Rdr w B g bs i) : ∃ G c, w.cell? ⟨g, 0, none⟩ = some (.slice G bs.length c) ∧ w.cell? ⟨g, 1, none⟩ = some (.int .i64 (i : Int)) ∧ w.cell? ⟨g, 2, none⟩ = some (.bool true) ∧ w.frozen? ⟨g, 1, none⟩ = false ∧ Rd w G bs.length bs ∧ bs.length ≤ c := by
  obtain ⟨G, c, hh, hr, _, _, _, hcap, _⟩ := h
  refine ⟨G, c, by rw [cell_of_row w g 0 _ 31 (0, 0) hh]; rfl, by rw [cell_of_row w g 1 _ 31 (0, 0) hh]; rfl, by rw [cell_of_row w g 2 _ 31 (0, 0) hh]; rfl, ?_, hr, hcap⟩
  unfold World.frozen?
  rw [hh]
  rfl
theorem Rdr.lt {w : World} {B g i : Nat} {bs : List Nat} (h : Rdr w B g bs i) : g < w.heap.size := by
  obtain ⟨G, c, hh, _⟩ := h
  rcases Nat.lt_or_ge g w.heap.size with h' | h'
  · exact h'
  · rw [Array.getElem?_eq_none h'] at hh; cases hh
theorem Rdr.ltB {w : World} {B g i : Nat} {bs : List Nat} (h : Rdr w B g bs i) : g < B := by
  obtain ⟨G, c, _, _, _, _, hb, _⟩ := h; exact hb
theorem Rdr.le {w : World} {B g i : Nat} {bs : List Nat} (h : Rdr w B g bs i) : i ≤ bs.length := by
  obtain ⟨G, c, _, _, hb, _⟩ := h; exact hb
theorem Rdr.len {w : World} {B g i : Nat} {bs : List Nat} (h : Rdr w B g bs i) : bs.length ≤ 140737488355000 := by
  obtain ⟨G, c, _, _, _, hb, _⟩ := h; exact hb
/-- The reader's object is not its bytes' block. -/
theorem rdr_ne {w : World} {g n : Nat} {G : Option Addr} {bs : List Nat} {i : Int} {c : Nat} (hh : w.heap[g]? = some (.cells #[.slice G n c, .int .i64 i, .bool true] 31 (0, 0))) (hr : Rd w G n bs) : ∀ a, G = some a → 0 < n → a.block ≠ g := by
  rintro a rfl hn rfl
  obtain ⟨b, off, e, _, hc⟩ := hr.2.2.2 hn
  injection e with e
  subst e
  have h0 := hc 0 hn
  rw [cell_of_row w b (off + 0) _ 31 (0, 0) hh] at h0
  match off, h0 with
  | 0, h0 => simp at h0
  | 1, h0 => simp at h0
  | 2, h0 => simp at h0
  | k + 3, h0 => simp at h0
theorem Rdr.kept {w w' : World} {B g i : Nat} {bs : List Nat} {rows : List Nat} (h : Rdr w B g bs i) (k : Kept rows w w') (hr : ∀ x ∈ rows, B ≤ x) : Rdr w' B g bs i := by
  have hlt := h.lt
  obtain ⟨G, c, hh, hd, hi, hl, hg, hcap, hG⟩ := h
  exact ⟨G, c, (k.block g hlt (fun hx => by have := hr g hx; omega)).trans hh, hd.kept k (fun a e _ hx => by have := hr _ hx; have := hG a e; omega), hi, hl, hg, hcap, hG⟩
theorem Rdr.drewN {w : World} {B g i : Nat} {bs : List Nat} (h : Rdr w B g bs i) (n : Nat) : Rdr (w.drewN n) B g bs i :=
  h.kept (rows := []) ((Kept.refl [] w).drewN n) (fun _ hx => by cases hx)
theorem Rdr.alloc {w : World} {B g i : Nat} {bs : List Nat} (h : Rdr w B g bs i) (o : Obj) : Rdr (w.alloc o) B g bs i :=
  h.kept (rows := []) ((Kept.refl [] w).alloc o) (fun _ hx => by cases hx)
theorem Rdr.far {w : World} {B g i : Nat} {bs : List Nat} (h : Rdr w B g bs i) {p : Addr} (hp : B ≤ p.block) (u : Value) : Rdr (w.setCell p u) B g bs i :=
  h.kept (rows := [p.block]) ((Kept.refl _ w).setCell (.inl (by simp)) u) (fun x hx => by simp at hx; omega)
/-- The reader goes to j. -/
theorem Rdr.to {w : World} {B g i : Nat} {bs : List Nat} (h : Rdr w B g bs i) (j : Nat) (hj : j ≤ bs.length) : Rdr (w.setCell ⟨g, 1, none⟩ (.int .i64 (j : Int))) B g bs j := by
  obtain ⟨G, c, hh, hd, hi, hl, hg, hcap, hG⟩ := h
  refine ⟨G, c, ?_, ?_, hj, hl, hg, hcap, hG⟩
  · simp [World.setCell, Array.getElem?_modify, hh]
  · exact hd.kept (rows := [g]) ((Kept.refl _ w).setCell (.inl (by simp)) _) (fun a e hn hx => rdr_ne hh hd a e hn (by simpa using hx))
theorem Rdr.toI {w : World} {B g i : Nat} {bs : List Nat} {z : Int} (h : Rdr w B g bs i) (j : Nat) (hj : j ≤ bs.length) (hz : z = (j : Int)) : Rdr (w.setCell ⟨g, 1, none⟩ (.int .i64 z)) B g bs j := by
  subst hz; exact h.to j hj
theorem over_rdr (A : Option Addr) (n cap : Nat) (bs : List Nat) (w : World) (hr : Rd w A n bs) (hn : n ≤ 140737488355000) :
    Calls Try.prog 24 #[.slice A n cap] w fun e w' => ∃ g, e = .returned (.pointer (some ⟨g, 0, none⟩)) ∧ w.heap.size ≤ g ∧ Rdr w' w'.heap.size g bs 0 ∧ Below w.heap.size w w' ∧ ∀ (rows : List Nat) (W : World), (∀ x ∈ rows, x < w.heap.size) → Kept rows w' W → Rdr W w'.heap.size g bs 0 := by
  have Hr := Lib.hid hr
  have hl := hr.1
  clear hr
  have Hl := Lib.hid hl
  clear hl
  go_enter Try.func24, Try.ntmps24
  go_wp2_with (at_builtin; refine wpList_appB rfl (.const (.slice none 0 0)) (.tmp 3) 22 rfl Try.underlying22 info5 rfl (Own.nil w w.heap.size) rfl Hr.out (by simp; omega) (Nat.le_refl _) ?_; intro v w1 ho hb; have hlt := ho.lt; have hcl := ho.1.2; obtain ⟨G, c, rfl, hrd⟩ := ho.rd; have Hrd := Lib.hid hrd; have Hlt := Lib.hid hlt; have Hcl := Lib.hid hcl; have Hb := Lib.hid hb; clear ho hb hrd hlt hcl)
  go_ret
  have hblk : ∀ a, G = some a → a.block < w1.heap.size ∧ w.heap.size ≤ a.block := by
    rcases Hcl.out with ⟨e, h0⟩ | ⟨g', cap', cur, e, hge, hh, _⟩
    · injection e with e1 _ _
      rintro a rfl; cases e1
    · injection e with e1 _ _
      rintro a rfl
      injection e1 with e1
      subst e1
      exact ⟨Hlt.out g' rfl, hge⟩
  have hR : Rdr (w1.alloc (.cells #[.slice G bs.length c, .int .i64 0, .bool true] 31)) (w1.heap.size + 1) w1.heap.size bs 0 := by
    refine ⟨G, c, ?_, (by have h := Hrd.out; rw [List.nil_append] at h; exact h.alloc _), by omega, by rw [Hl.out]; exact hn, by omega, ?_, fun a e => by have := (hblk a e).1; omega⟩
    · show (w1.heap.push _)[w1.heap.size]? = _
      simp
    · rcases Hcl.out with ⟨e, h0⟩ | ⟨g', cap', cur, e, _, _, h1, _⟩
      · simp only [List.nil_append] at h0; omega
      · injection e with _ _ e3
        simp only [List.nil_append] at h1; omega
  refine ⟨w1.heap.size, rfl, Hb.out.size, by simpa using hR, Hb.out.alloc Hb.out.size _, fun rows W hrows hk => ?_⟩
  have hlt := hR.lt
  obtain ⟨G2, c2, hh, hd, hi, hl, hg, hcap, hG⟩ := hR
  have hsz := Hb.out.size
  have e2 : G2 = G := by
    rw [show (w1.alloc (.cells #[.slice G bs.length c, .int .i64 0, .bool true] 31)).heap[w1.heap.size]? = some (.cells #[.slice G bs.length c, .int .i64 0, .bool true] 31) by show (w1.heap.push _)[w1.heap.size]? = _; simp] at hh
    simp at hh
    exact hh.1.symm
  subst e2
  refine ⟨G2, c2, (hk.block _ hlt (fun hx => by have := hrows _ hx; omega)).trans hh, hd.kept hk (fun a e _ hx => by have := hrows _ hx; have := (hblk a e).2; omega), hi, hl, by simp, hcap, fun a e => by have := hG a e; simp; omega⟩
theorem left_any (B g : Nat) (bs : List Nat) (i : Nat) (w : World) (h : Rdr w B g bs i) : Calls Try.prog 23 #[.pointer (some ⟨g, 0, none⟩)] w fun e w' => e = .returned (.int .i64 ((bs.length - i : Nat) : Int)) ∧ ∃ N, w' = w.drewN N := by
  obtain ⟨G, c, h0, h1, h2, _, hr, _⟩ := h.cells
  have hi : (i : Int) ≤ (bs.length : Int) := by have := h.le; omega
  have hm := hr.2.1
  unfold maxLen at hm
  have Hr := Lib.hid hr
  have H := Lib.hid h
  clear hr h
  go_enter Try.func23, Try.ntmps23
  go_wp2_with fail
  refine (made_box g true _ h2).mono ?_
  rintro e w' ⟨rfl, rfl⟩
  go_wp2
  go_quiet (fail)
  go_wp2
  go_ret
  exact ⟨ret_int (by omega), _, rfl⟩
theorem at_any (B g : Nat) (bs : List Nat) (i : Nat) (w : World) (h : Rdr w B g bs i) : Calls Try.prog 22 #[.pointer (some ⟨g, 0, none⟩)] w fun e w' => e = .returned (.int .i64 (i : Int)) ∧ w = w' := by
  obtain ⟨G, c, h0, h1, h2, _, hr, _⟩ := h.cells
  have Hr := Lib.hid hr
  have H := Lib.hid h
  clear hr h
  go_enter Try.func22, Try.ntmps22
  go_wp2_with fail
  refine (made_box g true _ h2).mono ?_
  rintro e w' ⟨rfl, rfl⟩
  go_wp2
  go_ret
  exact ⟨rfl, rfl⟩
theorem end_any (B g : Nat) (bs : List Nat) (i : Nat) (w : World) (h : Rdr w B g bs i) : Calls Try.prog 21 #[.pointer (some ⟨g, 0, none⟩)] w fun e w' => e = .returned (.int .i64 (if i < bs.length then 3 else 0)) ∧ ∃ N, w' = w.drewN N := by
  obtain ⟨G, c, h0, h1, h2, _, hr, _⟩ := h.cells
  have hle := h.le
  have Hr := Lib.hid hr
  have H := Lib.hid h
  clear hr h
  by_cases hlt : i < bs.length
  · go_enter Try.func21, Try.ntmps21
    go_wp2_with fail
    refine (made_box g true _ h2).mono ?_
    rintro e w' ⟨rfl, rfl⟩
    go_wp2_with fail
    refine (left_any B g bs i _ H.out).mono ?_
    rintro e w' ⟨rfl, N, rfl⟩
    have hpos : (0 : Int) < ((bs.length - i : Nat) : Int) := by omega
    go_wp2
    go_ret
    exact ⟨rfl, _, rfl⟩
  · go_enter Try.func21, Try.ntmps21
    go_wp2_with fail
    refine (made_box g true _ h2).mono ?_
    rintro e w' ⟨rfl, rfl⟩
    go_wp2_with fail
    refine (left_any B g bs i _ H.out).mono ?_
    rintro e w' ⟨rfl, N, rfl⟩
    have hpos : ¬ (0 : Int) < ((bs.length - i : Nat) : Int) := by omega
    go_wp2
    go_ret
    exact ⟨rfl, _, rfl⟩
end Go.Proofs.Ythjfogllinboaaa
