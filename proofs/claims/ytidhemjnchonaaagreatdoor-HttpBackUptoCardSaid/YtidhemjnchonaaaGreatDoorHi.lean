/- Contracts of Reason, head and Write at the one answer that awake asks. -/
import Derived.Test.YtidhemjnchonaaaGreatDoorHead
import Derived.Deep.RegionWith
namespace Go.Proofs.YtidhemjnchonaaaGreatDoor
open Go.RowKit Go.BL

/-- The table of powers of ten lies as the library's text lays it. -/
def Tab (w : World) : Prop := Lib.TabIs Tryz.prog w "internal/strconv.uint64pow10" .u64 Lib.pow10Tab
theorem Tab.below {w w' : World} (h : Tab w) (hb : Below w.heap.size w w') : Tab w' := by
  unfold Tab Lib.TabIs World.var? at *
  cases hg : Tryz.prog.globalNamed "internal/strconv.uint64pow10" with
  | none => simp [hg] at h
  | some g =>
    simp only [hg, Option.bind_some] at h ⊢
    have hlt : g < w.heap.size := by
      rcases Nat.lt_or_ge g w.heap.size with h' | h'
      · exact h'
      · rw [Array.getElem?_eq_none h'] at h; simp at h
    rw [hb.block g hlt]
    exact h
open Go.Sort in
theorem grow_below (w : World) (k : Nat) (os : Array Obj) : Below w.heap.size w (grow (w.drewN k) os) := by
  refine ⟨rfl, rfl, rfl, ?_, fun i hi => ?_⟩
  · simp [grow, World.drewN]
  · simp [grow, World.drewN, Array.getElem?_append, hi]
theorem itoa_any (n : Int) (h0 : -9223372036854775808 ≤ n) (h1 : n ≤ 9223372036854775807) (w : World) (htab : Tab w) : Calls Tryz.prog 58 #[.int .i64 n] w (RetV (.string ⟨(Lib.itoa n).toArray⟩) w) := by
  refine (Tryz.strconv_Itoa n h0 h1 w htab).mono ?_
  rintro e w' ⟨rfl, k, os, rfl⟩
  exact ⟨rfl, grow_below w k os⟩
theorem itoa_two (w : World) : Calls Tryz.prog 58 #[.int .i64 2] w fun e w' => e = .returned (.string ⟨#[50]⟩) ∧ w = w' := by
  have h := Tryz.strconv_Itoa_small 2 (by decide) w
  exact h.mono fun _ _ ⟨a, b⟩ => ⟨a.trans (by rw [Lib.decDigits_one (by decide)]; rfl), b.symm⟩
theorem itoa_200 : Lib.itoa 200 = [50, 48, 48] := by decide +kernel
set_option maxRecDepth 100000 in
theorem reason200 (w : World) : Calls Tryz.prog 14 #[.int .i64 200] w fun e w' => e = .returned (.string ⟨#[79, 75]⟩) ∧ w = w' := by
  go_enter Tryz.func14, Tryz.ntmps14
  go_wp2_with fail
  go_ret
  exact ⟨rfl, rfl⟩
def hiHead : ByteArray := ⟨#[72, 84, 84, 80, 47, 49, 46, 49, 32, 50, 48, 48, 32, 79, 75, 13, 10, 99, 111, 110, 116, 101, 110, 116, 45, 108, 101, 110, 103, 116, 104, 58, 32, 50, 13, 10, 13, 10]⟩
theorem bcells {w w' : World} {x y z : Value} {t : TypeId} (hb : Below (w.alloc (.cells #[x, y, z] t)).heap.size (w.alloc (.cells #[x, y, z] t)).drew w') :
    w'.cell? ⟨w.heap.size, 0, none⟩ = some x ∧ w'.cell? ⟨w.heap.size, 1, none⟩ = some y ∧ w'.cell? ⟨w.heap.size, 2, none⟩ = some z := by
  have hlt : ∀ k, (⟨w.heap.size, k, none⟩ : Addr).block < (w.alloc (.cells #[x, y, z] t)).heap.size := by intro k; simp
  have hd : ∀ p, (w.alloc (.cells #[x, y, z] t)).drew.cell? p = (w.alloc (.cells #[x, y, z] t)).cell? p := fun _ => rfl
  rw [hb.cell (hlt 0), hb.cell (hlt 1), hb.cell (hlt 2), hd, hd, hd]
  refine ⟨?_, ?_, ?_⟩ <;> (rw [World.cell?_alloc_at _ _ _ _ rfl]; rfl)
set_option maxHeartbeats 4000000 in
set_option maxRecDepth 100000 in
theorem head_hi (w : World) (ht : Tab w) : Calls Tryz.prog 54 #[.agg #[.int .i64 200, .slice none 0 0, .string ⟨#[104, 105]⟩]] w (RetV (.string hiHead) w) := by
  have hi := fun w => itoa_any 200 (by decide) (by decide) w
  rw [itoa_200] at hi
  have HT := Lib.hid ht
  clear ht
  go_enter Tryz.func54, Tryz.ntmps54
  go_wp2_with fail
  go_region_with ((first
    | (go_at_call 58; refine (hi _ (HT.out.below (((Below.refl _ _).alloc (Nat.le_refl _) _).drew))).mono ?_; rintro e w2 ⟨rfl, hb⟩; have HB := Lib.hid hb; obtain ⟨k0, k1, k2⟩ := bcells hb; clear hb)
    | (go_at_call 14; refine (reason200 _).mono ?_; rintro e w' ⟨rfl, rfl⟩)))
  all_goals go_wp2_with fail
  all_goals
    go_loopw [3, 19] (fun s i wr => s = .string ⟨#[72, 84, 84, 80, 47, 49, 46, 49, 32, 50, 48, 48, 32, 79, 75, 13, 10]⟩ ∧ i = .int .i64 0 ∧ Hid (wr = w2)) (fun _ _ _ => 0)
    case atStart => exact ⟨rfl, rfl, Lib.hid rfl⟩
    case round =>
      obtain ⟨rfl, rfl, HW⟩ := hrel
      have hw := HW.out
      subst hw
      clear HW
      go_wp2_with (go_at_call 58; refine (itoa_two _).mono ?_; rintro e w' ⟨rfl, rfl⟩)
      go_ret
      exact ⟨rfl, ((Below.refl _ _).alloc (Nat.le_refl _) _).drew.trans (HB.out.mono (by simp))⟩
theorem bcells0 {w w' : World} {x y z : Value} {t : TypeId} (hb : Below (w.alloc (.cells #[x, y, z] t)).heap.size (w.alloc (.cells #[x, y, z] t)) w') :
    w'.cell? ⟨w.heap.size, 0, none⟩ = some x ∧ w'.cell? ⟨w.heap.size, 1, none⟩ = some y ∧ w'.cell? ⟨w.heap.size, 2, none⟩ = some z := by
  have hlt : ∀ k, (⟨w.heap.size, k, none⟩ : Addr).block < (w.alloc (.cells #[x, y, z] t)).heap.size := by intro k; simp
  rw [hb.cell (hlt 0), hb.cell (hlt 1), hb.cell (hlt 2)]
  refine ⟨?_, ?_, ?_⟩ <;> (rw [World.cell?_alloc_at _ _ _ _ rfl]; rfl)
/-- What Write makes of it. -/
def hiText : List UInt8 := hiHead.data.toList ++ [104, 105]
set_option maxHeartbeats 4000000 in
set_option maxRecDepth 100000 in
theorem write_hi (w : World) (ht : Tab w) : Calls Tryz.prog 29 #[.agg #[.int .i64 200, .slice none 0 0, .string ⟨#[104, 105]⟩]] w fun e w' => ∃ b c, e = .returned (.tuple #[.slice (some ⟨b, 0, none⟩) hiText.length c, .int .i64 0]) ∧ Row w' b hiText ∧ Below w.heap.size w w' := by
  have HT := Lib.hid ht
  have hsz : hiHead.size = 38 := rfl
  have hcat : hiHead ++ (⟨#[104, 105]⟩ : ByteArray) = ⟨hiText.toArray⟩ := by decide +kernel
  clear ht
  go_enter Tryz.func29, Tryz.ntmps29
  go_wp2_with (go_at_call 14; refine (reason200 _).mono ?_; rintro e w' ⟨rfl, rfl⟩)
  go_loopw [14] (fun i wr => i = .int .i64 0 ∧ Hid (wr = w.alloc (.cells #[.int .i64 200, .slice none 0 0, .string ⟨#[104, 105]⟩] 53))) (fun _ _ => 0)
  case atStart => exact ⟨rfl, Lib.hid rfl⟩
  case round =>
    obtain ⟨rfl, HW⟩ := hrel
    have hw := HW.out
    subst hw
    clear HW
    go_wp2_with (go_at_call 54; refine (head_hi _ (HT.out.below ((Below.refl _ _).alloc (Nat.le_refl _) _))).mono ?_; rintro e w2 ⟨rfl, hb⟩; have HB := Lib.hid hb; obtain ⟨k0, k1, k2⟩ := bcells0 hb; obtain ⟨w3, c3, hcv, hr3, hb3, hs3⟩ := conv_in hiText w2; have HR3 := Lib.hid hr3; have HB3 := Lib.hid hb3; clear hb hr3 hb3 hs3)
    go_ret2
    exact ⟨_, _, rfl, HR3.out, (below_alloc HB.out).trans (HB3.out.mono (by have := HB.out.size; simp at this; omega))⟩
end Go.Proofs.YtidhemjnchonaaaGreatDoor
