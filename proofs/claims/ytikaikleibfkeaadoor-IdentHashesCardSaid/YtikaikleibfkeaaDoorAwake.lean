/- The contract of awake, and of Name. -/
import Derived.Test.YtikaikleibfkeaaDoorKeyR
import Derived.Test.YtikaikleibfkeaaDoorHash
import Derived.Lib.SlBytesConst
import Derived.Lib.SmallJoins
namespace Go.Proofs.YtikaikleibfkeaaDoor
open Go.RowKit Go.Idn

def nm (i : Nat) : ByteArray := ⟨#[110, UInt8.ofNat (48 + i)]⟩
/-- The table of names holds the eight names. -/
def Names (w : World) : Prop := ∀ i, i < 8 → w.cell? ⟨0, i, none⟩ = some (.string (nm i))
theorem lt_of_cell {w : World} {a : Addr} {v : Value} (h : w.cell? a = some v) : a.block < w.heap.size := by
  rcases Nat.lt_or_ge a.block w.heap.size with h' | h'
  · exact h'
  · unfold World.cell? at h; rw [Array.getElem?_eq_none h'] at h; cases h
theorem Names.below {w w' : World} (h : Names w) (hb : Below w.heap.size w w') : Names w' := fun i hi =>
  (hb.cell (p := ⟨0, i, none⟩) (lt_of_cell (h i hi))).trans (h i hi)

theorem rd_one (w : World) (c : Nat) (hc : c < 256) (t : TypeId) (fr : Nat × Nat) : Rd (w.alloc (.cells #[.int .u8 (c : Int)] t fr)) (some ⟨w.heap.size, 0, none⟩) 1 [c] := by
  refine ⟨rfl, by decide, by simpa using hc, fun _ => ⟨_, _, rfl, fun i hi => ?_⟩⟩
  obtain rfl : i = 0 := by omega
  exact World.cell?_alloc_mark w _ t fr 0

theorem rd_one_at (w : World) (g c : Nat) (hg : g = w.heap.size) (hc : c < 256) (t : TypeId) (fr : Nat × Nat) : Rd (w.alloc (.cells #[.int .u8 (c : Int)] t fr)) (some ⟨g, 0, none⟩) 1 [c] := by
  subst hg; exact rd_one w c hc t fr

theorem name_yes (k : Nat) (w : World) (hk : k < 8) (hn : Names w) :
    Calls Tryd.prog 12 #[.int .i64 (k : Int)] w fun e w' => e = .returned (.tuple #[.string (nm k), .bool true]) ∧ w = w' := by
  have hc := hn k hk
  clear hn
  go_enter Tryd.func12, Tryd.ntmps12
  go_wp2
  go_ret2
  exact ⟨rfl, rfl⟩
theorem name_no (n : Int) (w : World) (hk : n < 0 ∨ 8 ≤ n) :
    Calls Tryd.prog 12 #[.int .i64 n] w fun e w' => e = .returned (.tuple #[.string ⟨#[]⟩, .bool false]) ∧ w = w' := by
  rcases hk with h | h
  · go_enter Tryd.func12, Tryd.ntmps12
    go_wp2
    go_ret2
    exact ⟨rfl, rfl⟩
  · go_enter Tryd.func12, Tryd.ntmps12
    go_wp2
    go_ret2
    exact ⟨rfl, rfl⟩
theorem name_3 (w : World) (hn : Names w) : Calls Tryd.prog 12 #[.int .i64 3] w fun e w' => e = .returned (.tuple #[.string ⟨#[110, 51]⟩, .bool true]) ∧ w = w' :=
  name_yes 3 w (by decide) hn
theorem key_cart (w : World) : Calls Tryd.prog 16 #[.string ⟨#[99, 97, 114, 116, 45, 49]⟩] w (RetB (.bool true) w) := by
  have h := key_any ⟨#[99, 97, 114, 116, 45, 49]⟩ w (by decide)
  have e : isKey (bl ⟨#[99, 97, 114, 116, 45, 49]⟩) = true := by decide +kernel
  rwa [e] at h
theorem hash_ne : ((((hsh [97] : Nat) : Int) != ((hsh [98] : Nat) : Int))) = true := by decide +kernel

theorem awake_any (w : World) (hn : Names w) : Calls Tryd.prog 11 #[] w (RetB (.bool true) w) := by
  have kc := fun (w : World) (C : Array Value) (n c : Nat) => Lib.run_convert_bytes_const (P := Tryd.prog) w 24 5 C n c Tryd.underlying24 Tryd.underlying5
  have Hn := Lib.hid hn
  clear hn
  go_enter Tryd.func11, Tryd.ntmps11
  go_wp2_with fail
  refine (name_3 _ Hn.out).mono ?_
  rintro e w' ⟨rfl, rfl⟩
  go_wp2_with fail
  refine (key_cart _).mono ?_
  rintro e w1 ⟨rfl, hb1⟩
  have Hb1 := Lib.hid hb1
  clear hb1
  go_wp2_with fail
  refine (hash_any _ _ _ [97] _ (rd_one w1 97 (by decide) 5 (1, 2))).mono ?_
  rintro e w' ⟨rfl, rfl⟩
  have kc2 := fun (C : Array Value) (n c : Nat) (o : Obj) => Joins.run_convert_bytes_const_at (P := Tryd.prog) (w1.alloc o) 24 5 C n c (w1.heap.size + 1) (by simp) Tryd.underlying24 Tryd.underlying5
  go_wp2_with fail
  refine (hash_any _ _ _ [98] _ (rd_one_at _ _ 98 (by simp) (by decide) 5 (1, 2))).mono ?_
  rintro e w' ⟨rfl, rfl⟩
  have hne := hash_ne
  go_wp2_with fail

  go_ret
  exact ⟨rfl, (Hb1.out.alloc Hb1.out.size _).alloc (by have := Hb1.out.size; simp; omega) _⟩
end Go.Proofs.YtikaikleibfkeaaDoor
