/- Frame, the program's and the document's. -/
import Derived.Test.YthjfogllinboaaaFr
import Derived.Test.YthjfogllinboaaaSum
import Derived.Test.YthjfogllinboaaaBL2
namespace Go.Proofs.Ythjfogllinboaaa
open Go.RowKit Go.BL Go.Wr
/-- The call returns a new row of bytes and an error. -/
def RetF (r : List Nat × Nat) (w : World) (e : Ending) (w' : World) : Prop :=
  ∃ A cap, e = .returned (.tuple #[.slice A r.1.length cap, .int .i64 (r.2 : Int)]) ∧ Rd w' A r.1.length r.1 ∧ Own w' w.heap.size (.slice A r.1.length cap) r.1 ∧ Below w.heap.size w w'
theorem rd_four (w : World) (g S : Nat) (hg : g = w.heap.size) (hS : S < 4294967296) (t : TypeId) (fr : Nat × Nat) :
    Rd (w.alloc (.cells #[.int .u8 ((S : Int) % 256), .int .u8 ((S : Int) / 256 % 256), .int .u8 ((S : Int) / 65536 % 256), .int .u8 ((S : Int) / 16777216)] t fr)) (some ⟨g, 0, none⟩) 4 (le4 S) := by
  subst hg
  refine ⟨rfl, by decide, le4_lt S, fun _ => ⟨_, _, rfl, by simp, fun i hi => ?_⟩⟩
  have hh : (w.alloc (.cells #[.int .u8 ((S : Int) % 256), .int .u8 ((S : Int) / 256 % 256), .int .u8 ((S : Int) / 65536 % 256), .int .u8 ((S : Int) / 16777216)] t fr)).heap[w.heap.size]? = some (.cells #[.int .u8 ((S : Int) % 256), .int .u8 ((S : Int) / 256 % 256), .int .u8 ((S : Int) / 65536 % 256), .int .u8 ((S : Int) / 16777216)] t fr) := by
    show (w.heap.push _)[w.heap.size]? = _
    simp
  unfold World.cell?
  rw [hh]
  have h4 : (S : Int) / 16777216 = ((S / 16777216 % 256 : Nat) : Int) := by omega
  rw [h4]
  match i, hi with
  | 0, _ => rfl
  | 1, _ => rfl
  | 2, _ => rfl
  | 3, _ => rfl
set_option maxRecDepth 100000 in
theorem frame_any (A : Option Addr) (m cap : Nat) (bs : List Nat) (w : World) (hr : Rd w A m bs) : Calls Try.prog 28 #[.slice A m cap] w (RetF (frame bs) w) := by
  have hl := hr.1
  subst hl
  have hm := hr.2.1
  unfold maxLen at hm
  have Hr := Lib.hid hr
  clear hr
  by_cases hlong : 65536 < bs.length
  · have HF : Hid (frame bs = ([], 4)) := Lib.hid (if_pos hlong)
    go_enter Try.func28, Try.ntmps28
    go_wp2
    go_ret2
    rw [HF.out]
    exact ⟨none, 0, rfl, Rd.none_, Own.nil _ _, Below.refl _ _⟩
  · have HF : Hid (frame bs = (enc bs.length ++ bs ++ le4 (sum bs), 0)) := Lib.hid (if_neg hlong)
    have hs := sum_lt bs Hr.out.2.2.1
    go_enter Try.func28, Try.ntmps28
    go_wp2_with fail
    refine (sum_any A bs.length cap bs _ Hr.out).mono ?_
    rintro e w' ⟨rfl, rfl⟩
    generalize sum bs = S at *
    go_wp2_with fail
    refine (put_any none 0 0 [] (bs.length : Int) _ Rd.none_ (by omega) (by omega)).mono ?_
    rintro e w1 ⟨v, rfl, ho, hb⟩
    rw [List.nil_append, Int.toNat_natCast] at ho
    have Ho := Lib.hid ho
    have Hb := Lib.hid hb
    have He : Hid ((enc bs.length).length ≤ 9) := Lib.hid (enc_len9 (by omega))
    clear ho hb
    go_wp2_with (first
      | (at_builtin; refine wpList_appB rfl (.tmp 13) (.tmp 14) 22 rfl Try.underlying22 info5 rfl Ho.out rfl (Hr.out.below Hb.out (Nat.le_refl _)) (by have := He.out; omega) Hb.out.size ?_; intro v2 w2 ho hb; have Ho2 := Lib.hid ho; have Hb2 := Lib.hid (Hb.out.trans hb); clear ho hb)
      | (at_builtin; refine wpList_appB rfl (.tmp 16) (.tmp 28) 22 rfl Try.underlying22 info5 rfl (Ho2.out.alloc _) rfl (rd_four w2 _ S rfl hs 5 (0, 0)) (by rw [List.length_append]; have := He.out; omega) (Nat.le_trans Hb2.out.size (by simp)) ?_; intro v3 w3 ho hb; have Ho3 := Lib.hid ho; have Hb3 := Lib.hid ((Hb2.out.alloc Hb2.out.size _).trans hb); clear ho hb))
    go_ret2
    rw [HF.out]
    obtain ⟨A3, c3, rfl, hrd⟩ := Ho3.out.rd
    exact ⟨A3, c3, rfl, hrd, Ho3.out, Hb3.out⟩
end Go.Proofs.Ythjfogllinboaaa
