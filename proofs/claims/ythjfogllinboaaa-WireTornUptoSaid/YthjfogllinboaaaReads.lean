/- Uint, Byte and Text of a reader: what is read, told as plain functions. -/
import Derived.Test.YthjfogllinboaaaTried
import Derived.Laws.BytesArg
namespace Go.BL
open Go.RowKit Go.Wr
theorem strOf (T : List Nat) : strOfNums (T.map fun x => ((x : Nat) : Int)) = bstr T := by
  unfold strOfNums bstr
  simp [List.map_map, Function.comp_def]
theorem run_bstr {P : Program} {w : World} {A : Option Addr} {n c : Nat} {T : List Nat} (h : Rd w A n T) (src e dst : TypeId) (hs : P.underlying src = some (.slice e)) (he : P.underlying e = some (.int .u8)) (hd : P.underlying dst = some .string) :
    (convert src dst (.slice A n c)).run P w = .ok (.string (bstr T)) w := by
  by_cases hn : n = 0
  · subst hn
    have hT : T = [] := List.eq_nil_of_length_eq_zero h.1
    subst hT
    rw [run_convert_bytes_string w src dst e _ 0 c hs he hd]
    cases A <;> simp [Conv.bytesToString, loadCells]
    all_goals rfl
  · obtain ⟨b, off, rfl, _, hc⟩ := h.2.2.2 (by omega)
    rw [run_convert_bytes_arg w src e hs he b off n c (T.map fun x => ((x : Nat) : Int)) (by simp [h.1]) (fun i hi => by
      rw [hc i hi]
      have hl : i < T.length := by rw [h.1]; exact hi
      simp [List.getD_eq_getElem?_getD, List.getElem?_eq_getElem hl]) dst hd, strOf]
end Go.BL
namespace Go.Proofs.Ythjfogllinboaaa
open Go.RowKit Go.BL Go.Wr
/-- What a closure of a reader leaves: its code; the reader; the captured result. -/
def RG (B g : Nat) (bs : List Nat) (nb : Nat) (t : TypeId) (v : Value) (code pos : Nat) (w0 : World) (c : Nat) (w1 : World) : Prop :=
  c = code ∧ (∃ j, Rdr w1 B g bs j ∧ (c = 0 → j = pos)) ∧ Box w1 nb v t ∧ Kept [g, nb] w0 w1
/-- What a reader's call leaves. -/
def RetR (B g : Nat) (bs : List Nat) (v : Value) (code pos : Nat) (w : World) (e : Ending) (w' : World) : Prop :=
  e = .returned (.tuple #[v, .int .i64 (code : Int)]) ∧ Rdr w' B g bs pos ∧ Kept [g] w w'
theorem uintC (B g : Nat) (bs : List Nat) (i rb nb eb : Nat) (w : World) (h : Rdr w B g bs i) (hr : Box w rb (.pointer (some ⟨g, 0, none⟩)) 29) (hn : Box w nb (.int .i64 0) 3) (he : Box w eb (.int .i64 0) 33) (h1 : B ≤ nb) (h2 : B ≤ eb) :
    Calls Try.prog 34 #[.pointer (some ⟨rb, 0, none⟩), .pointer (some ⟨nb, 0, none⟩)] w fun e w' => Box w' eb (.int .i64 0) 33 ∧ Out (RG B g bs nb 3 (.int .i64 ((uintAt bs i).1 : Int)) (uintAt bs i).2.1 (uintAt bs i).2.2 w) e w' := by
  have hrc := hr.cell
  have hgb := h.ltB
  have hne : eb ≠ nb := by rintro rfl; unfold Box at hn he; rw [hn] at he; injection he with he; injection he with _ he; cases he
  have H := Lib.hid h
  have Hn := Lib.hid hn
  have He := Lib.hid he
  have Hne := Lib.hid hne
  clear h hr hn he hne
  go_enter Try.func34, Try.ntmps34
  go_wp2_with fail
  refine (number_any B g bs i _ H.out).mono ?_
  cases hnum : num (bs.drop i) 0 0 with
  | bad c =>
    rintro e w1 ⟨rfl, hR, hK⟩
    have HR := Lib.hid hR
    have HK := Lib.hid hK
    have Hc := Lib.hid (num_bad _ _ _ _ hnum)
    have HU : Hid (uintAt bs i = (0, c, i)) := Lib.hid (by unfold uintAt; rw [hnum])
    clear hR hK hnum
    go_wp2
    rw [HU.out]
    exact ⟨rfl, He.out.kept HK.out (by simp; omega), .inr ⟨c, Hc.out, rfl, rfl, ⟨i, HR.out, fun h => absurd h Hc.out⟩, Hn.out.kept HK.out (by simp; omega), HK.out.mono (fun x hx => .inl (by simp at hx; simp [hx]))⟩⟩
  | got n k =>
    rintro e w1 ⟨rfl, hR, hK⟩
    have HR := Lib.hid hR
    have HK := Lib.hid hK
    have HU : Hid (uintAt bs i = (n, 0, i + k)) := Lib.hid (by unfold uintAt; rw [hnum])
    clear hR hK hnum
    have Hn1 := Lib.hid (Hn.out.kept HK.out (by simp; omega))
    have He1 := Lib.hid (He.out.kept HK.out (by simp; omega))
    have hnc := Hn1.out.cell
    have hnf := Hn1.out.free
    go_wp2
    go_end0
    rw [HU.out]
    exact ⟨He1.out.far Hne.out _, .inl ⟨rfl, rfl, ⟨i + k, HR.out.far h1 _, fun _ => rfl⟩, Hn1.out.set_ _, (HK.out.mono (fun x hx => .inl (by simp at hx; simp [hx]))).setCell (.inl (by simp)) _⟩⟩
theorem uintAt_pos {bs : List Nat} {i : Nat} (h : (uintAt bs i).2.1 ≠ 0) : (uintAt bs i).2.2 = i := by
  unfold uintAt at h ⊢
  cases hn : num (bs.drop i) 0 0 with
  | bad c => rfl
  | got n k => rw [hn] at h; exact absurd rfl h
theorem fin {B g : Nat} {bs : List Nat} {i nb eb : Nat} {t : TypeId} {v : Value} {code pos n : Nat} {w w0 w1 w' : World} (hpos : code ≠ 0 → pos = i) (hR : RG B g bs nb t v code pos w0 n w1)
    (hk : Kept [eb, g] w1 w') (h1 : n ≠ 0 → Rdr w' B g bs i) (h0 : n = 0 → Kept [eb] w1 w') (he : eb ≠ nb) (hg : g < w.heap.size) (hn : w.heap.size ≤ nb) (hbe : w.heap.size ≤ eb) (hB : B ≤ w.heap.size) (h00 : Kept [] w w0) :
    n = code ∧ Rdr w' B g bs pos ∧ Box w' nb v t ∧ Kept [g] w w' := by
  obtain ⟨rfl, ⟨j, hj, hj0⟩, hb, hk1⟩ := hR
  refine ⟨rfl, ?_, hb.kept hk (by simp; omega), ?_⟩
  · by_cases hz : n = 0
    · rw [← hj0 hz]
      exact hj.kept (h0 hz) (fun x hx => by simp at hx; omega)
    · rw [hpos hz]; exact h1 hz
  · have k1 : Kept [g] w w1 := (h00.mono (rows' := [g]) (fun _ hx => by cases hx)).trans hk1 (fun x hx => by simp at hx ⊢; omega)
    exact k1.trans hk (fun x hx => by simp at hx ⊢; omega)
theorem size2 (w : World) (o1 o2 : Obj) : ((w.alloc o1).alloc o2).heap.size = w.heap.size + 2 := by simp
theorem size3 (w : World) (o1 o2 o3 : Obj) : (((w.alloc o1).alloc o2).alloc o3).heap.size = w.heap.size + 3 := by simp
theorem boxAt {w : World} {g : Nat} (hg : g = w.heap.size) (v : Value) (t : TypeId) : Box (w.alloc (.cells #[v] t)) g v t := by subst hg; exact Box.new w v t
theorem uintP (B g : Nat) (bs : List Nat) (i : Nat) (w : World) (h : Rdr w B g bs i) (hB : B ≤ w.heap.size) :
    Calls Try.prog 33 #[.pointer (some ⟨g, 0, none⟩), .func (.func 34) #[] #[.pointer (some ⟨w.heap.size, 0, none⟩), .pointer (some ⟨w.heap.size + 1, 0, none⟩)]]
      ((w.alloc (.cells #[.pointer (some ⟨g, 0, none⟩)] 29)).alloc (.cells #[.int .i64 0] 3))
      fun e w' => e = .returned (.int .i64 ((uintAt bs i).2.1 : Int)) ∧ Rdr w' B g bs (uintAt bs i).2.2 ∧ Box w' (w.heap.size + 1) (.int .i64 ((uintAt bs i).1 : Int)) 3 ∧ Kept [g] w w' := by
  have hlt := h.lt
  have b1 : Box (((w.alloc (.cells #[.pointer (some ⟨g, 0, none⟩)] 29)).alloc (.cells #[.int .i64 0] 3)).alloc (.cells #[.int .i64 0] 33)) w.heap.size (.pointer (some ⟨g, 0, none⟩)) 29 := ((boxAt rfl _ _).alloc _).alloc _
  have b2 : Box (((w.alloc (.cells #[.pointer (some ⟨g, 0, none⟩)] 29)).alloc (.cells #[.int .i64 0] 3)).alloc (.cells #[.int .i64 0] 33)) (w.heap.size + 1) (.int .i64 0) 3 := (boxAt (by simp) _ _).alloc _
  have b3 : Box (((w.alloc (.cells #[.pointer (some ⟨g, 0, none⟩)] 29)).alloc (.cells #[.int .i64 0] 3)).alloc (.cells #[.int .i64 0] 33)) ((w.alloc (.cells #[.pointer (some ⟨g, 0, none⟩)] 29)).alloc (.cells #[.int .i64 0] 3)).heap.size (.int .i64 0) 33 := boxAt rfl _ _
  refine (tried34 B g bs i _ _ _ ((h.alloc _).alloc _) (by simp; omega) (uintC B g bs i w.heap.size (w.heap.size + 1) _ _ (((h.alloc _).alloc _).alloc _) b1 b2 b3 (by omega) (by simp; omega)) (fun n w1 hR => ⟨_, hR.2.1.choose_spec.1⟩)).mono ?_
  rintro e w' ⟨n, w1, rfl, hR, hk, h1, h0⟩
  obtain ⟨rfl, f1, f2, f3⟩ := fin (w := w) (fun h => uintAt_pos h) hR hk h1 h0 (by simp) hlt (by omega) (by simp; omega) hB ((((Kept.refl [] w).alloc _).alloc _).alloc _)
  exact ⟨rfl, f1, f2, f3⟩
theorem uint_any (B g : Nat) (bs : List Nat) (i : Nat) (w : World) (h : Rdr w B g bs i) (hB : B ≤ w.heap.size) :
    Calls Try.prog 18 #[.pointer (some ⟨g, 0, none⟩)] w (RetR B g bs (.int .i64 ((uintAt bs i).1 : Int)) (uintAt bs i).2.1 (uintAt bs i).2.2 w) := by
  have hmf : ∀ (fn : Fn) (first cap : Array Value) (w : World), (Instr.makeFunc fn first cap).run Try.prog w = .ok (.func fn first cap) w := fun _ _ _ _ => rfl
  have H := Lib.hid h
  have HB := Lib.hid hB
  clear h hB
  go_enter Try.func18, Try.ntmps18
  go_wp2_with fail
  refine (uintP B g bs i w H.out HB.out).mono ?_
  rintro e w' ⟨rfl, h1, h2, h3⟩
  have hc := h2.cell
  have H1 := Lib.hid h1
  have H3 := Lib.hid h3
  clear h1 h2 h3
  go_wp2
  go_ret2
  exact ⟨rfl, H1.out, H3.out⟩
end Go.Proofs.Ythjfogllinboaaa
