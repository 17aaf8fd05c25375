/- Unframe. -/
import Derived.Test.YthjfogllinboaaaUnfC
namespace Go.Wr
theorem unframe_bad {bs : List Nat} (h : (unframe bs).2.2 ≠ 0) : (unframe bs).1 = [] ∧ (unframe bs).2.1 = [] := by
  unfold unframe at h ⊢
  cases hn : num bs 0 0 with
  | bad c => exact ⟨rfl, rfl⟩
  | got n k =>
    rw [hn] at h
    by_cases h1 : 65536 < n
    · simp only [if_pos h1]; exact ⟨trivial, trivial⟩
    · by_cases h2 : bs.length - k < n + 4
      · simp only [if_neg h1, if_pos h2]; exact ⟨trivial, trivial⟩
      · by_cases h3 : val4 ((bs.drop (k + n)).take 4) ≠ sum ((bs.drop k).take n)
        · simp only [if_neg h1, if_neg h2, if_pos h3]; exact ⟨trivial, trivial⟩
        · simp only [if_neg h1, if_neg h2, if_neg h3] at h; exact absurd rfl h
end Go.Wr
namespace Go.Proofs.Ythjfogllinboaaa
open Go.RowKit Go.BL Go.Wr
/-- What Unframe leaves: two new rows and an error. -/
def RetU (r : List Nat × List Nat × Nat) (w : World) (e : Ending) (w' : World) : Prop :=
  ∃ A1 c1 A2 c2, e = .returned (.tuple #[.slice A1 r.1.length c1, .slice A2 r.2.1.length c2, .int .i64 (r.2.2 : Int)]) ∧ Own w' w.heap.size (.slice A1 r.1.length c1) r.1 ∧ Own w' w.heap.size (.slice A2 r.2.1.length c2) r.2.1 ∧ Below w.heap.size w w'
theorem unframeP (g : Nat) (bs : List Nat) (w : World) (h : Rdr w w.heap.size g bs 0) :
    Calls Try.prog 41 #[.func (.func 42) #[] #[.pointer (some ⟨w.heap.size, 0, none⟩), .pointer (some ⟨w.heap.size + 1, 0, none⟩), .pointer (some ⟨w.heap.size + 1 + 1, 0, none⟩)]]
      (((w.alloc (.cells #[.pointer (some ⟨g, 0, none⟩)] 29)).alloc (.cells #[.slice none 0 0] 22)).alloc (.cells #[.slice none 0 0] 22))
      fun e w' => e = .returned (.int .i64 ((unframe bs).2.2 : Int)) ∧ ((unframe bs).2.2 = 0 → ∃ A1 c1 A2 c2, Box w' (w.heap.size + 1) (.slice A1 (unframe bs).1.length c1) 22 ∧ Own w' w.heap.size (.slice A1 (unframe bs).1.length c1) (unframe bs).1 ∧ Box w' (w.heap.size + 1 + 1) (.slice A2 (unframe bs).2.1.length c2) 22 ∧ Own w' w.heap.size (.slice A2 (unframe bs).2.1.length c2) (unframe bs).2.1) ∧ Kept [g] w w' := by
  have hlt := h.lt
  refine (try42 _ _ (RUf g bs (w.heap.size + 1) (w.heap.size + 1 + 1) _) ((unframeC w.heap.size g bs w.heap.size (w.heap.size + 1) (w.heap.size + 1 + 1) _ _ ((((h.alloc _).alloc _).alloc _).alloc _) ((((boxAt rfl _ _).alloc _).alloc _).alloc _) (((boxAt (by simp) _ _).alloc _).alloc _) ((boxAt (by simp) _ _).alloc _) (boxAt rfl _ _) (by omega) (by omega) (by omega) (by simp; omega) (by omega)))).mono ?_
  rintro e w' ⟨n, w1, rfl, hR, hk⟩
  obtain ⟨rfl, hok, hk1⟩ := hR
  have hsz := hk1.size
  simp only [World.size_alloc] at hsz
  refine ⟨rfl, fun h0 => ?_, ?_⟩
  · obtain ⟨A1, c1, A2, c2, b1, o1, b2, o2⟩ := hok h0
    have hne : ∀ (v : Value) (bs : List Nat), Own w1 ((((w.alloc (.cells #[.pointer (some ⟨g, 0, none⟩)] 29)).alloc (.cells #[.slice none 0 0] 22)).alloc (.cells #[.slice none 0 0] 22)).alloc (.cells #[.int .i64 0] 33)).heap.size v bs → Own w' w.heap.size v bs := by
      intro v bs ho
      refine (ho.kept hk (fun x hx => ?_)).base (by simp; omega)
      have := ho.block_ge x hx
      simp only [World.size_alloc] at this
      simp; omega
    exact ⟨A1, c1, A2, c2, b1.kept hk (by simp), hne _ _ o1, b2.kept hk (by simp), hne _ _ o2⟩
  · have k1 : Kept [g] w w1 := (((((Kept.refl [g] w).alloc _).alloc _).alloc _).alloc _).trans hk1 (fun x hx => by simp at hx ⊢; omega)
    exact k1.trans hk (fun x hx => by simp at hx ⊢; omega)
set_option maxRecDepth 100000 in
theorem unframe_any (A : Option Addr) (m cap : Nat) (bs : List Nat) (w : World) (hr : Rd w A m bs) (hm : m ≤ 140737488355000) : Calls Try.prog 29 #[.slice A m cap] w (RetU (unframe bs) w) := by
  have hmf : ∀ (fn : Fn) (first cap : Array Value) (w : World), (Instr.makeFunc fn first cap).run Try.prog w = .ok (.func fn first cap) w := fun _ _ _ _ => rfl
  have Hr := Lib.hid hr
  clear hr
  go_enter Try.func29, Try.ntmps29
  go_wp2_with fail
  refine (over_rdr A m cap bs _ Hr.out hm).mono ?_
  rintro e w1 ⟨g, rfl, hg, hR, hb, -⟩
  have HR := Lib.hid hR
  have Hb := Lib.hid hb
  have Hg := Lib.hid hg
  clear hR hb hg
  go_wp2_with fail
  refine (unframeP g bs w1 HR.out).mono ?_
  rintro e w2 ⟨rfl, hok, hk⟩
  have HB : Hid (Below w.heap.size w w2) := Lib.hid (Hb.out.trans (hk.below Hb.out.size (fun x hx => by have := Hg.out; simp at hx; omega)))
  by_cases h0 : (unframe bs).2.2 = 0
  · obtain ⟨A1, c1, A2, c2, b1, o1, b2, o2⟩ := hok h0
    have H0 := Lib.hid h0
    have O1 := Lib.hid (o1.base Hb.out.size)
    have O2 := Lib.hid (o2.base Hb.out.size)
    have hc1 := b1.cell
    have hc2 := b2.cell
    clear hok hk o1 o2 b1 b2
    rw [h0]
    clear h0
    go_wp2
    go_quiet (fail)
    go_wp2
    go_ret3
    exact ⟨A1, c1, A2, c2, by rw [H0.out]; rfl, O1.out, O2.out, below_drewN HB.out _⟩
  · have hne : (((unframe bs).2.2 : Int) != 0) = true := bne_iff_ne.2 (by omega)
    have HU := Lib.hid (unframe_bad h0)
    clear hok hk h0
    go_wp2
    go_ret3
    unfold RetU
    rw [HU.out.1, HU.out.2]
    exact ⟨none, 0, none, 0, rfl, Own.nil _ _, Own.nil _ _, HB.out⟩
end Go.Proofs.Ythjfogllinboaaa
