/- IdentHashes: the walk of the law. -/
import Derived.Test.YtikaikleibfkeaaDoorPos
import Derived.Test.YtikaikleibfkeaaDoorAwake
import Derived.Test.YtikaikleibfkeaaDoorOpen
import Derived.Laws.BytesArg
namespace Go.Proofs.YtikaikleibfkeaaDoor
open Go.RowKit Go.Idn
theorem conv_any (A : Option Addr) (n cap : Nat) (bs : List Nat) (w : World) (hr : BL.Rd w A n bs) :
    ∃ S, (convert 24 9 (.slice A n cap)).run Tryd.prog w = .ok (.string S) w := by
  cases A with
  | none => exact ⟨_, run_convert_bytes_nil w 24 5 Tryd.underlying24 Tryd.underlying5 n cap 9 Tryd.underlying9⟩
  | some a =>
    have hl : (bs.map UInt8.ofNat).length = n := by rw [List.length_map, hr.1]
    refine ⟨⟨(bs.map UInt8.ofNat).toArray⟩, ?_⟩
    have h := run_convert_bytes_back (P := Tryd.prog) w 24 9 5 a cap (bs.map UInt8.ofNat) Tryd.underlying24 Tryd.underlying5 Tryd.underlying9 (fun j hj => by
      have hj' : j < bs.length := by simpa using hj
      obtain ⟨b, off, e, _, hc⟩ := hr.2.2.2 (by have := hr.1; omega)
      obtain rfl := Option.some.inj e
      rw [BL.add_none, hc j (by have := hr.1; omega)]
      have hb := BL.getD_lt hr.2.2.1 j
      rw [List.getElem_map, List.getD_eq_getElem?_getD, List.getElem?_eq_getElem hj'] at *
      simp only [Option.getD_some] at *
      congr 2
      rw [UInt8.toNat_ofNat']
      omega)
    rw [hl] at h
    exact h
theorem hashes_any (A : Option Addr) (n cap : Nat) (bs : List Nat) (x y : Nat) (s : ByteArray) (nd i : Int) (w : World) (hr : BL.Rd w A n bs) (hx : x ≤ 18446744073709551615) (hy : y ≤ 18446744073709551615)
    (hs : s.size ≤ maxLen) (hn : Names w) :
    Calls Tryd.prog 6 #[.slice A n cap, .int .u64 (x : Int), .int .u64 (y : Int), .string s, .int .i64 nd, .int .i64 i] w (RetB (.bool true) w) := by
  obtain ⟨S, hS⟩ := conv_any A n cap bs w hr
  have Hr := Lib.hid (toRd hr)
  have Hx := Lib.hid hx
  have Hy := Lib.hid hy
  have Hs := Lib.hid hs
  have Hn := Lib.hid hn
  clear hr hx hy hs hn
  go_enter Tryd.func6, Tryd.ntmps6
  go_wp2_with fail
  refine (hash_any _ _ _ _ _ Hr.out).mono ?_
  rintro e w' ⟨rfl, rfl⟩
  go_wp2_with fail
  refine (hashR_any _ _ _ _ _ Hr.out).mono ?_
  rintro e w' ⟨rfl, rfl⟩
  go_wp2_with fail
  refine (mix_any x y Hx.out Hy.out _).mono ?_
  rintro e w1 ⟨rfl, hb⟩
  have B1 := Lib.hid hb
  clear hb hS
  go_wp2_with fail
  refine (mixR_any x y Hx.out Hy.out _).mono ?_
  rintro e w2 ⟨rfl, hb⟩
  have B2 : Hid (Below w.heap.size w w2) := Lib.hid (B1.out.trans (hb.mono B1.out.size))
  clear hb
  go_wp2_with fail
  refine (posit_any s Hs.out _).mono ?_
  rintro e w3 ⟨rfl, hb⟩
  have B3 : Hid (Below w.heap.size w w3) := Lib.hid (B2.out.trans (hb.mono B2.out.size))
  clear hb
  go_wp2_with fail
  refine (positR_any s Hs.out _).mono ?_
  rintro e w4 ⟨rfl, hb⟩
  have B4 : Hid (Below w.heap.size w w4) := Lib.hid (B3.out.trans (hb.mono B3.out.size))
  clear hb
  go_wp2_with fail
  refine (point_any nd i _).mono ?_
  rintro e w5 ⟨rfl, hb⟩
  have B5 : Hid (Below w.heap.size w w5) := Lib.hid (B4.out.trans (hb.mono B4.out.size))
  clear hb
  go_wp2_with fail
  refine (pointR_any nd i _).mono ?_
  rintro e w6 ⟨rfl, hb⟩
  have B6 : Hid (Below w.heap.size w w6) := Lib.hid (B5.out.trans (hb.mono B5.out.size))
  clear hb
  go_wp2_with fail
  refine (awake_any _ (Hn.out.below B6.out)).mono ?_
  rintro e w7 ⟨rfl, hb⟩
  have B7 : Hid (Below w.heap.size w w7) := Lib.hid (B6.out.trans (hb.mono B6.out.size))
  clear hb
  go_wp2
  go_ret
  exact ⟨rfl, B7.out⟩
end Go.Proofs.YtikaikleibfkeaaDoor
