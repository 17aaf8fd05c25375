/- The laws TillPrices and TillBack, walked. -/
import Derived.Test.YtflmlkaiahpnmaaDoorPriceAny
namespace Go.Proofs.YtflmlkaiahpnmaaDoor
open Go.RowKit Go.Fl

theorem can_nat (b : Nat) (hb : b < 18446744073709551616) (w : World) : Calls Tryd.prog 10 #[.int .u64 (b : Int)] w (RetV (.bool (canB b)) w) := by
  refine (can_any (b : Int) w).mono ?_
  rintro e w' ⟨rfl, rfl⟩
  refine .of_eq ?_ rfl
  rw [show ((b : Int)).toNat = b from Int.toNat_natCast b, can_eq b hb]
theorem canR_nat (b : Nat) (w : World) : Calls Tryd.prog 11 #[.int .u64 (b : Int)] w (RetV (.bool (canB b)) w) := by
  refine (canR_any (b : Int) w).mono ?_
  rintro e w' ⟨rfl, rfl⟩
  refine .of_eq ?_ rfl
  refine congrArg (fun x => Ending.returned (.bool x)) ?_
  unfold canB
  rw [Bool.eq_iff_iff]
  simp
  omega
theorem chain {W w w' : World} (h : Below W.heap.size W w) (k : Below w.heap.size w w') : Below W.heap.size W w' := h.trans (k.mono h.size)
theorem resL_eq (o : Option Nat) : ∃ (p : Nat) (ok : Bool), resL o = .tuple #[.int .u64 (p : Int), .bool ok] := by
  cases o with
  | none => exact ⟨0, false, rfl⟩
  | some p => exact ⟨p, true, rfl⟩
set_option maxRecDepth 100000 in
theorem prices_any (l : List UInt8) (hl : l.length ≤ 9223372036854775807) (b : Nat) (hb : b < 18446744073709551616) (w : World) (htab : Tab w) :
    Calls Tryd.prog 4 #[.string ⟨l.toArray⟩, .int .u64 (b : Int)] w (RetV (.bool true) w) := by
  obtain ⟨o, h1, h2⟩ := both_price l hl
  obtain ⟨p, ok, ho⟩ := resL_eq o
  rw [ho] at h1 h2
  obtain ⟨S, hS⟩ : ∃ S : ByteArray, str (prt b) = .string S := ⟨_, rfl⟩
  have h3 := fun w h => print_any b hb w h
  have h4 := printR_any b hb
  rw [hS] at h3 h4
  have h5 := can_nat b hb
  have h6 := canR_nat b
  have Ht := Lib.hid htab
  clear htab hl hb ho hS
  go_enter Tryd.func4, Tryd.ntmps4
  go_wp2_with (first | (go_at_call 6; refine (h1 _).mono ?_; rintro e w1 ⟨rfl, hb1⟩; have H1 := Lib.hid hb1; clear hb1) | (go_at_call 7; refine (h2 _).mono ?_; rintro e w2 ⟨rfl, hb2⟩; have H2 := Lib.hid (chain H1.out hb2); clear hb2) | (go_at_call 8; refine (h3 _ (Ht.out.below H2.out)).mono ?_; rintro e w3 ⟨rfl, hb3⟩; have H3 := Lib.hid (chain H2.out hb3); clear hb3) | (go_at_call 9; refine (h4 _).mono ?_; rintro e w4 ⟨rfl, hb4⟩; have H4 := Lib.hid (chain H3.out hb4); clear hb4) | (go_at_call 10; refine (h5 _).mono ?_; rintro e w5 ⟨rfl, hb5⟩; have H5 := Lib.hid (chain H4.out hb5); clear hb5) | (go_at_call 11; refine (h6 _).mono ?_; rintro e w6 ⟨rfl, hb6⟩; have H6 := Lib.hid (chain H5.out hb6); clear hb6))
  go_ret
  exact ⟨rfl, H6.out⟩
end Go.Proofs.YtflmlkaiahpnmaaDoor
