/- The reader's readings that may be given up: tried. -/
import Derived.Test.YthjfogllinboaaaTake
import Derived.Test.YthjfogllinboaaaNumber
import Derived.Test.YthjfogllinboaaaTry
namespace Go.Proofs.Ythjfogllinboaaa
open Go.RowKit Go.BL Go.Wr
theorem tried34 (B g : Nat) (bs : List Nat) (i : Nat) (cap : Array Value) (w : World) (R : Nat → World → Prop) (h : Rdr w B g bs i) (hB : B ≤ w.heap.size)
    (hc : Calls Try.prog 34 cap (w.alloc (.cells #[.int .i64 0] 33)) fun e w' => Box w' w.heap.size (.int .i64 0) 33 ∧ Out R e w')
    (hR : ∀ n w1, R n w1 → ∃ j, Rdr w1 B g bs j) :
    Calls Try.prog 33 #[.pointer (some ⟨g, 0, none⟩), .func (.func 34) #[] cap] w fun e w' =>
      ∃ (n : Nat) (w1 : World), e = .returned (.int .i64 (n : Int)) ∧ R n w1 ∧ Kept [w.heap.size, g] w1 w' ∧ (n ≠ 0 → Rdr w' B g bs i) ∧ (n = 0 → Kept [w.heap.size] w1 w') := by
  obtain ⟨G, c, h0, h1, h2, h3, hr, hcap⟩ := h.cells
  have H := Lib.hid h
  have HC := Lib.hid hc
  have HR := Lib.hid hR
  have HB := Lib.hid hB
  clear h hc hR hr hcap hB
  go_enter Try.func33, Try.ntmps33
  go_wp2_with fail
  refine (made_box g true _ h2).mono ?_
  rintro e w' ⟨rfl, rfl⟩
  go_wp2_with fail
  refine (try34 cap _ R HC.out).mono ?_
  rintro e w' ⟨n, w1, rfl, hr, hk⟩
  obtain ⟨j, hj⟩ := HR.out n w1 hr
  have hj' := hj.kept hk (fun x hx => by have := HB.out; simp only [List.mem_singleton] at hx; omega)
  obtain ⟨_, _, _, k1, _, k3, _, _⟩ := hj'.cells
  have Hj := Lib.hid hj'
  have Hr := Lib.hid hr
  have Hk := Lib.hid hk
  have Hi := Lib.hid H.out.le
  clear hr hk hj hj'
  by_cases hn : n = 0
  · subst hn
    go_wp2
    go_ret
    exact ⟨0, w1, rfl, Hr.out, Hk.out.mono (fun x hx => .inl (by simp at hx; simp [hx])), fun h => absurd rfl h, fun _ => Hk.out⟩
  · have hn' : ((n : Int) != 0) = true := bne_iff_ne.2 (by omega)
    go_wp2
    go_ret
    exact ⟨n, w1, rfl, Hr.out, (Hk.out.mono (fun x hx => .inl (by simp at hx; simp [hx]))).setCell (.inl (by simp)) _, fun _ => Hj.out.to i Hi.out, fun h => absurd h hn⟩
theorem tried36 (B g : Nat) (bs : List Nat) (i : Nat) (cap : Array Value) (w : World) (R : Nat → World → Prop) (h : Rdr w B g bs i) (hB : B ≤ w.heap.size)
    (hc : Calls Try.prog 36 cap (w.alloc (.cells #[.int .i64 0] 33)) fun e w' => Box w' w.heap.size (.int .i64 0) 33 ∧ Out R e w')
    (hR : ∀ n w1, R n w1 → ∃ j, Rdr w1 B g bs j) :
    Calls Try.prog 33 #[.pointer (some ⟨g, 0, none⟩), .func (.func 36) #[] cap] w fun e w' =>
      ∃ (n : Nat) (w1 : World), e = .returned (.int .i64 (n : Int)) ∧ R n w1 ∧ Kept [w.heap.size, g] w1 w' ∧ (n ≠ 0 → Rdr w' B g bs i) ∧ (n = 0 → Kept [w.heap.size] w1 w') := by
  obtain ⟨G, c, h0, h1, h2, h3, hr, hcap⟩ := h.cells
  have H := Lib.hid h
  have HC := Lib.hid hc
  have HR := Lib.hid hR
  have HB := Lib.hid hB
  clear h hc hR hr hcap hB
  go_enter Try.func33, Try.ntmps33
  go_wp2_with fail
  refine (made_box g true _ h2).mono ?_
  rintro e w' ⟨rfl, rfl⟩
  go_wp2_with fail
  refine (try36 cap _ R HC.out).mono ?_
  rintro e w' ⟨n, w1, rfl, hr, hk⟩
  obtain ⟨j, hj⟩ := HR.out n w1 hr
  have hj' := hj.kept hk (fun x hx => by have := HB.out; simp only [List.mem_singleton] at hx; omega)
  obtain ⟨_, _, _, k1, _, k3, _, _⟩ := hj'.cells
  have Hj := Lib.hid hj'
  have Hr := Lib.hid hr
  have Hk := Lib.hid hk
  have Hi := Lib.hid H.out.le
  clear hr hk hj hj'
  by_cases hn : n = 0
  · subst hn
    go_wp2
    go_ret
    exact ⟨0, w1, rfl, Hr.out, Hk.out.mono (fun x hx => .inl (by simp at hx; simp [hx])), fun h => absurd rfl h, fun _ => Hk.out⟩
  · have hn' : ((n : Int) != 0) = true := bne_iff_ne.2 (by omega)
    go_wp2
    go_ret
    exact ⟨n, w1, rfl, Hr.out, (Hk.out.mono (fun x hx => .inl (by simp at hx; simp [hx]))).setCell (.inl (by simp)) _, fun _ => Hj.out.to i Hi.out, fun h => absurd h hn⟩
theorem tried39 (B g : Nat) (bs : List Nat) (i : Nat) (cap : Array Value) (w : World) (R : Nat → World → Prop) (h : Rdr w B g bs i) (hB : B ≤ w.heap.size)
    (hc : Calls Try.prog 39 cap (w.alloc (.cells #[.int .i64 0] 33)) fun e w' => Box w' w.heap.size (.int .i64 0) 33 ∧ Out R e w')
    (hR : ∀ n w1, R n w1 → ∃ j, Rdr w1 B g bs j) :
    Calls Try.prog 33 #[.pointer (some ⟨g, 0, none⟩), .func (.func 39) #[] cap] w fun e w' =>
      ∃ (n : Nat) (w1 : World), e = .returned (.int .i64 (n : Int)) ∧ R n w1 ∧ Kept [w.heap.size, g] w1 w' ∧ (n ≠ 0 → Rdr w' B g bs i) ∧ (n = 0 → Kept [w.heap.size] w1 w') := by
  obtain ⟨G, c, h0, h1, h2, h3, hr, hcap⟩ := h.cells
  have H := Lib.hid h
  have HC := Lib.hid hc
  have HR := Lib.hid hR
  have HB := Lib.hid hB
  clear h hc hR hr hcap hB
  go_enter Try.func33, Try.ntmps33
  go_wp2_with fail
  refine (made_box g true _ h2).mono ?_
  rintro e w' ⟨rfl, rfl⟩
  go_wp2_with fail
  refine (try39 cap _ R HC.out).mono ?_
  rintro e w' ⟨n, w1, rfl, hr, hk⟩
  obtain ⟨j, hj⟩ := HR.out n w1 hr
  have hj' := hj.kept hk (fun x hx => by have := HB.out; simp only [List.mem_singleton] at hx; omega)
  obtain ⟨_, _, _, k1, _, k3, _, _⟩ := hj'.cells
  have Hj := Lib.hid hj'
  have Hr := Lib.hid hr
  have Hk := Lib.hid hk
  have Hi := Lib.hid H.out.le
  clear hr hk hj hj'
  by_cases hn : n = 0
  · subst hn
    go_wp2
    go_ret
    exact ⟨0, w1, rfl, Hr.out, Hk.out.mono (fun x hx => .inl (by simp at hx; simp [hx])), fun h => absurd rfl h, fun _ => Hk.out⟩
  · have hn' : ((n : Int) != 0) = true := bne_iff_ne.2 (by omega)
    go_wp2
    go_ret
    exact ⟨n, w1, rfl, Hr.out, (Hk.out.mono (fun x hx => .inl (by simp at hx; simp [hx]))).setCell (.inl (by simp)) _, fun _ => Hj.out.to i Hi.out, fun h => absurd h hn⟩
end Go.Proofs.Ythjfogllinboaaa
