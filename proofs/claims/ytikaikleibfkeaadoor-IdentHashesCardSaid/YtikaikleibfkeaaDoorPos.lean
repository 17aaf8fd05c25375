/- Position and Point, of both packages. -/
import Derived.Test.YtikaikleibfkeaaDoorMixR
import Derived.Laws.IdiomStrings
namespace Go.Proofs.YtikaikleibfkeaaDoor
open Go.RowKit Go.Idn
theorem rd_str (w : World) (s : ByteArray) (cap : Nat) (t : TypeId) (fr : Nat × Nat) (hs : s.size ≤ maxLen) :
    BL.Rd (w.alloc (.cells (bytesRow s cap) t fr)).drew (some ⟨w.heap.size, 0, none⟩) s.size (BL.bl s) := by
  refine ⟨BL.bl_length s, hs, BL.bl_lt s, fun _ => ⟨w.heap.size, 0, rfl, ?_, fun i hi => ?_⟩⟩
  · rw [World.size_drew, World.size_alloc]; omega
  · show (w.alloc (.cells (bytesRow s cap) t fr)).cell? ⟨w.heap.size, 0 + i, none⟩ = _
    rw [Nat.zero_add, World.cell?_alloc_mark, bytesRow_at s cap i hi, ← BL.bl_get s i hi]
    rfl
theorem posit_any (s : ByteArray) (hs : s.size ≤ maxLen) (w : World) : Calls Tryd.prog 22 #[.string s] w (BL.RetV (.int .u64 ((hsh (BL.bl s) : Nat) : Int)) w) := by
  have kb := fun (w : World) (s : ByteArray) => run_bytes_of_string (P := Tryd.prog) w 9 24 5 s Tryd.underlying9 Tryd.underlying24 Tryd.underlying5
  have Hs := Lib.hid hs
  clear hs
  go_enter Tryd.func22, Tryd.ntmps22
  go_wp2_with fail
  refine (hash_any _ _ _ _ _ (toRd (rd_str w s _ _ _ Hs.out))).mono ?_
  rintro e w1 ⟨rfl, rfl⟩
  clear kb
  go_wp2
  go_ret
  exact ⟨rfl, ((Below.refl _ _).alloc (Nat.le_refl _) _).drewN' 1⟩
theorem positR_any (s : ByteArray) (hs : s.size ≤ maxLen) (w : World) : Calls Tryd.prog 23 #[.string s] w (BL.RetV (.int .u64 ((hsh (BL.bl s) : Nat) : Int)) w) := by
  have kb := fun (w : World) (s : ByteArray) => run_bytes_of_string (P := Tryd.prog) w 9 24 5 s Tryd.underlying9 Tryd.underlying24 Tryd.underlying5
  have Hs := Lib.hid hs
  clear hs
  go_enter Tryd.func23, Tryd.ntmps23
  go_wp2_with fail
  refine (hashR_any _ _ _ _ _ (toRd (rd_str w s _ _ _ Hs.out))).mono ?_
  rintro e w1 ⟨rfl, rfl⟩
  clear kb
  go_wp2
  go_ret
  exact ⟨rfl, ((Below.refl _ _).alloc (Nat.le_refl _) _).drewN' 1⟩
/-- A point's number. -/
def pt (n i : Int) : Nat := if 0 ≤ n ∧ n ≤ 7 ∧ 0 ≤ i ∧ i ≤ 15 then hsh (e8 (n + 1).toNat ++ e8 i.toNat) else 0
theorem pt_in {n i : Int} (h0 : 0 ≤ n) (h1 : n ≤ 7) (h2 : 0 ≤ i) (h3 : i ≤ 15) : pt n i = hsh (e8 (n + 1).toNat ++ e8 i.toNat) := if_pos ⟨h0, h1, h2, h3⟩
theorem pt_out {n i : Int} (h : ¬ (0 ≤ n ∧ n ≤ 7 ∧ 0 ≤ i ∧ i ≤ 15)) : pt n i = 0 := if_neg h
theorem point_any (n i : Int) (w : World) : Calls Tryd.prog 24 #[.int .i64 n, .int .i64 i] w (BL.RetV (.int .u64 ((pt n i : Nat) : Int)) w) := by
  by_cases h0 : n < 0
  · have h := Lib.hid (pt_out (n := n) (i := i) (by omega))
    go_enter Tryd.func24, Tryd.ntmps24
    go_wp2
    go_ret
    exact ⟨by rw [h.out]; rfl, Below.refl _ _⟩
  by_cases h1 : 8 ≤ n
  · have h := Lib.hid (pt_out (n := n) (i := i) (by omega))
    go_enter Tryd.func24, Tryd.ntmps24
    go_wp2
    go_ret
    exact ⟨by rw [h.out]; rfl, Below.refl _ _⟩
  by_cases h2 : i < 0
  · have h := Lib.hid (pt_out (n := n) (i := i) (by omega))
    go_enter Tryd.func24, Tryd.ntmps24
    go_wp2
    go_ret
    exact ⟨by rw [h.out]; rfl, Below.refl _ _⟩
  by_cases h3 : 16 ≤ i
  · have h := Lib.hid (pt_out (n := n) (i := i) (by omega))
    go_enter Tryd.func24, Tryd.ntmps24
    go_wp2
    go_ret
    exact ⟨by rw [h.out]; rfl, Below.refl _ _⟩
  have h := Lib.hid (pt_in (n := n) (i := i) (by omega) (by omega) (by omega) (by omega))
  obtain ⟨k, hk⟩ : ∃ k : Nat, n = k := ⟨n.toNat, by omega⟩
  obtain ⟨m, hm⟩ : ∃ k : Nat, i = k := ⟨i.toNat, by omega⟩
  subst hk hm
  have Hk : Hid (k ≤ 7) := Lib.hid (by omega)
  have Hm : Hid (m ≤ 15) := Lib.hid (by omega)
  go_enter Tryd.func24, Tryd.ntmps24
  go_wp2_with fail
  refine (mix_any (k + 1) m (by have := Hk.out; omega) (by have := Hm.out; omega) _).mono ?_
  rintro e w1 ⟨rfl, hb⟩
  have Hb := Lib.hid hb
  clear hb
  go_wp2
  go_ret
  exact ⟨by rw [h.out]; rfl, Hb.out⟩
theorem pointR_any (n i : Int) (w : World) : Calls Tryd.prog 25 #[.int .i64 n, .int .i64 i] w (BL.RetV (.int .u64 ((pt n i : Nat) : Int)) w) := by
  by_cases h0 : n < 0
  · have h := Lib.hid (pt_out (n := n) (i := i) (by omega))
    go_enter Tryd.func25, Tryd.ntmps25
    go_wp2
    go_ret
    exact ⟨by rw [h.out]; rfl, Below.refl _ _⟩
  by_cases h1 : 8 ≤ n
  · have h := Lib.hid (pt_out (n := n) (i := i) (by omega))
    go_enter Tryd.func25, Tryd.ntmps25
    go_wp2
    go_ret
    exact ⟨by rw [h.out]; rfl, Below.refl _ _⟩
  by_cases h2 : i < 0
  · have h := Lib.hid (pt_out (n := n) (i := i) (by omega))
    go_enter Tryd.func25, Tryd.ntmps25
    go_wp2
    go_ret
    exact ⟨by rw [h.out]; rfl, Below.refl _ _⟩
  by_cases h3 : 16 ≤ i
  · have h := Lib.hid (pt_out (n := n) (i := i) (by omega))
    go_enter Tryd.func25, Tryd.ntmps25
    go_wp2
    go_ret
    exact ⟨by rw [h.out]; rfl, Below.refl _ _⟩
  have h := Lib.hid (pt_in (n := n) (i := i) (by omega) (by omega) (by omega) (by omega))
  obtain ⟨k, hk⟩ : ∃ k : Nat, n = k := ⟨n.toNat, by omega⟩
  obtain ⟨m, hm⟩ : ∃ k : Nat, i = k := ⟨i.toNat, by omega⟩
  subst hk hm
  have Hk : Hid (k ≤ 7) := Lib.hid (by omega)
  have Hm : Hid (m ≤ 15) := Lib.hid (by omega)
  go_enter Tryd.func25, Tryd.ntmps25
  go_wp2_with fail
  refine (mixR_any (k + 1) m (by have := Hk.out; omega) (by have := Hm.out; omega) _).mono ?_
  rintro e w1 ⟨rfl, hb⟩
  have Hb := Lib.hid hb
  clear hb
  go_wp2
  go_ret
  exact ⟨by rw [h.out]; rfl, Hb.out⟩
end Go.Proofs.YtikaikleibfkeaaDoor
