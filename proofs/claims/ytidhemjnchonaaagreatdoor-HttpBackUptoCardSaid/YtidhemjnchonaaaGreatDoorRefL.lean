/- Contract of the document's length: how long headers say that the body is, or the status that refuses them. -/
import Derived.Test.YtidhemjnchonaaaGreatDoorRefC
namespace Go.Proofs.YtidhemjnchonaaaGreatDoor
open Go.RowKit Go.BL

def LenR (r : Except Int Nat) (w : World) (e : Ending) (w' : World) : Prop :=
  Below w.heap.size w w' ∧ match r with
  | .ok n => e = .returned (.tuple #[.int .i64 (n : Int), .int .i64 0])
  | .error c => e = .returned (.tuple #[.int .i64 0, .int .i64 c])
theorem find_mem {hs : List Hdr} {name x : List UInt8} (h : findL hs name = some x) : ∃ y ∈ hs, y.2 = x := by
  unfold findL at h
  cases e : hs.find? (hit name) with
  | none => rw [e] at h; cases h
  | some y =>
    rw [e] at h
    simp only [Option.map_some, Option.some.injEq] at h
    exact ⟨y, List.mem_of_find?_eq_some e, h⟩
set_option maxHeartbeats 2000000 in
set_option maxRecDepth 100000 in
theorem lengthR_any (hs : List Hdr) (v : Value) (w : World) (hv : Hdrs w v hs) (hl : ∀ h ∈ hs, h.1.length ≤ 140737488355328) (hl2 : ∀ h ∈ hs, h.2.length ≤ 1073741824) : Calls Tryz.prog 47 #[v] w (LenR (lengthD hs) w) := by
  obtain ⟨L, hL⟩ : ∃ L, lengthD hs = L := ⟨_, rfl⟩
  rw [hL]
  have hx : ∀ x, findL hs clK = some x → x.length ≤ 1073741824 := fun x h => by obtain ⟨y, hy, rfl⟩ := find_mem h; exact hl2 y hy
  have c1 : ∀ w, Hdrs w v hs → Calls Tryz.prog 77 #[v, .string ⟨#[116, 114, 97, 110, 115, 102, 101, 114, 45, 101, 110, 99, 111, 100, 105, 110, 103]⟩] w fun e w' => e = .returned (.int .i64 (cntL hs teK : Nat)) ∧ w = w' := fun w h => countR_any hs v teK w h
  have c2 : ∀ w, Hdrs w v hs → Calls Tryz.prog 77 #[v, .string ⟨#[104, 111, 115, 116]⟩] w fun e w' => e = .returned (.int .i64 (cntL hs hostK : Nat)) ∧ w = w' := fun w h => countR_any hs v hostK w h
  have c3 : ∀ w, Hdrs w v hs → Calls Tryz.prog 77 #[v, .string ⟨#[99, 111, 110, 116, 101, 110, 116, 45, 108, 101, 110, 103, 116, 104]⟩] w fun e w' => e = .returned (.int .i64 (cntL hs clK : Nat)) ∧ w = w' := fun w h => countR_any hs v clK w h
  have k2 : ∀ w, Hdrs w v hs → Calls Tryz.prog 13 #[v, .string ⟨#[104, 111, 115, 116]⟩] w (RetV (findV (findL hs hostK)) w) := fun w h => findR_any hs hostK v w h (by decide) hl
  have k3 : ∀ w, Hdrs w v hs → Calls Tryz.prog 13 #[v, .string ⟨#[99, 111, 110, 116, 101, 110, 116, 45, 108, 101, 110, 103, 116, 104]⟩] w (RetV (findV (findL hs clK)) w) := fun w h => findR_any hs clK v w h (by decide) hl
  unfold lengthD at hL
  clear hl hl2
  generalize cntL hs teK = n1 at *
  generalize cntL hs hostK = n2 at *
  generalize cntL hs clK = n3 at *
  generalize findL hs hostK = r2 at *
  generalize findL hs clK = r3 at *
  have HV := Lib.hid hv
  clear hv
  by_cases e1 : 0 < n1
  · have f1 : (0 : Int) < (n1 : Int) := by omega
    rw [if_pos e1] at hL
    subst hL
    clear e1
    go_enter Tryz.func47, Tryz.ntmps47
    go_wp2_with fail
    (go_at_call 77; refine (c1 _ HV.out).mono ?_; rintro e w' ⟨rfl, rfl⟩)
    go_wp2_with fail
    go_ret2
    exact ⟨Below.refl _ _, rfl⟩
  have f1 : ¬ (0 : Int) < (n1 : Int) := by omega
  rw [if_neg e1] at hL
  clear e1
  obtain ⟨x2, hx2⟩ : ∃ x, r2.getD [] = x := ⟨_, rfl⟩
  obtain ⟨u2, hu2⟩ : ∃ u, r2.isSome = u := ⟨_, rfl⟩
  have e : findV r2 = .tuple #[.string ⟨x2.toArray⟩, .bool u2] := by unfold findV; rw [hx2, hu2]
  rw [e] at k2
  rw [hx2] at hL
  clear e hx2 hu2
  by_cases e2 : n2 = 1
  case neg =>
    have f2 : ((n2 : Int) != 1) = true := bne_iff_ne.2 (by omega)
    rw [if_pos (.inl e2)] at hL
    subst hL
    clear e2
    go_enter Tryz.func47, Tryz.ntmps47
    go_wp2_with fail
    (go_at_call 77; refine (c1 _ HV.out).mono ?_; rintro e w' ⟨rfl, rfl⟩)
    go_wp2_with fail
    (go_at_call 13; refine (k2 _ HV.out).mono ?_; rintro e w1 ⟨rfl, hb⟩; have HV1 := Lib.hid (HV.out.below hb (Nat.le_refl _)); have HB1 := Lib.hid hb; clear hb)
    go_wp2_with fail
    (go_at_call 77; refine (c2 _ HV1.out).mono ?_; rintro e w' ⟨rfl, rfl⟩)
    go_wp2_with fail
    go_ret2
    exact ⟨HB1.out, rfl⟩
  subst e2
  cases x2 with
  | nil =>
    rw [if_pos (.inr rfl)] at hL
    subst hL
    go_enter Tryz.func47, Tryz.ntmps47
    go_wp2_with fail
    (go_at_call 77; refine (c1 _ HV.out).mono ?_; rintro e w' ⟨rfl, rfl⟩)
    go_wp2_with fail
    (go_at_call 13; refine (k2 _ HV.out).mono ?_; rintro e w1 ⟨rfl, hb⟩; have HV1 := Lib.hid (HV.out.below hb (Nat.le_refl _)); have HB1 := Lib.hid hb; clear hb)
    go_wp2_with fail
    (go_at_call 77; refine (c2 _ HV1.out).mono ?_; rintro e w' ⟨rfl, rfl⟩)
    go_wp2_with fail
    go_ret2
    exact ⟨HB1.out, rfl⟩
  | cons a2 t2 =>
  rw [if_neg (by simp)] at hL
  by_cases e3 : 1 < n3
  · have f3 : (1 : Int) < (n3 : Int) := by omega
    rw [if_pos e3] at hL
    subst hL
    clear e3
    go_enter Tryz.func47, Tryz.ntmps47
    go_wp2_with fail
    (go_at_call 77; refine (c1 _ HV.out).mono ?_; rintro e w' ⟨rfl, rfl⟩)
    go_wp2_with fail
    (go_at_call 13; refine (k2 _ HV.out).mono ?_; rintro e w1 ⟨rfl, hb⟩; have HV1 := Lib.hid (HV.out.below hb (Nat.le_refl _)); have HB1 := Lib.hid hb; clear hb)
    go_wp2_with fail
    (go_at_call 77; refine (c2 _ HV1.out).mono ?_; rintro e w' ⟨rfl, rfl⟩)
    go_wp2_with fail
    (go_at_call 77; refine (c3 _ HV1.out).mono ?_; rintro e w' ⟨rfl, rfl⟩)
    go_wp2_with fail
    go_ret2
    exact ⟨HB1.out, rfl⟩
  have f3 : ¬ (1 : Int) < (n3 : Int) := by omega
  rw [if_neg e3] at hL
  clear e3
  cases r3 with
  | none =>
    simp only at hL
    subst hL
    have k4 : ∀ w, Hdrs w v hs → Calls Tryz.prog 13 #[v, .string ⟨#[99, 111, 110, 116, 101, 110, 116, 45, 108, 101, 110, 103, 116, 104]⟩] w (RetV (.tuple #[.string ⟨#[]⟩, .bool false]) w) := k3
    clear k3
    go_enter Tryz.func47, Tryz.ntmps47
    go_wp2_with fail
    (go_at_call 77; refine (c1 _ HV.out).mono ?_; rintro e w' ⟨rfl, rfl⟩)
    go_wp2_with fail
    (go_at_call 13; refine (k2 _ HV.out).mono ?_; rintro e w1 ⟨rfl, hb⟩; have HV1 := Lib.hid (HV.out.below hb (Nat.le_refl _)); have HB1 := Lib.hid hb; clear hb)
    go_wp2_with fail
    (go_at_call 77; refine (c2 _ HV1.out).mono ?_; rintro e w' ⟨rfl, rfl⟩)
    go_wp2_with fail
    (go_at_call 77; refine (c3 _ HV1.out).mono ?_; rintro e w' ⟨rfl, rfl⟩)
    go_wp2_with fail
    (go_at_call 13; refine (k4 _ HV1.out).mono ?_; rintro e w2 ⟨rfl, hb⟩; have HB2 := Lib.hid (HB1.out.trans (hb.mono HB1.out.size)); clear hb)
    go_wp2_with fail
    go_ret2
    exact ⟨HB2.out, rfl⟩
  | some x =>
  have k4 : ∀ w, Hdrs w v hs → Calls Tryz.prog 13 #[v, .string ⟨#[99, 111, 110, 116, 101, 110, 116, 45, 108, 101, 110, 103, 116, 104]⟩] w (RetV (.tuple #[.string ⟨x.toArray⟩, .bool true]) w) := k3
  have hdg := digitsR_any x (hx x rfl)
  clear k3 hx
  simp only at hL
  unfold DigR at hdg
  cases hd : digitsL x with
  | none =>
    rw [hd] at hL hdg
    simp only at hL
    subst hL
    go_enter Tryz.func47, Tryz.ntmps47
    go_wp2_with fail
    (go_at_call 77; refine (c1 _ HV.out).mono ?_; rintro e w' ⟨rfl, rfl⟩)
    go_wp2_with fail
    (go_at_call 13; refine (k2 _ HV.out).mono ?_; rintro e w1 ⟨rfl, hb⟩; have HV1 := Lib.hid (HV.out.below hb (Nat.le_refl _)); have HB1 := Lib.hid hb; clear hb)
    go_wp2_with fail
    (go_at_call 77; refine (c2 _ HV1.out).mono ?_; rintro e w' ⟨rfl, rfl⟩)
    go_wp2_with fail
    (go_at_call 77; refine (c3 _ HV1.out).mono ?_; rintro e w' ⟨rfl, rfl⟩)
    go_wp2_with fail
    (go_at_call 13; refine (k4 _ HV1.out).mono ?_; rintro e w2 ⟨rfl, hb⟩; have HB2 := Lib.hid (HB1.out.trans (hb.mono HB1.out.size)); clear hb)
    go_wp2_with fail
    (go_at_call 78; refine (hdg _).mono ?_; rintro e w' ⟨rfl, m, rfl, -, -⟩; dsimp only [Option.isSome])
    go_wp2_with fail
    go_ret2
    exact ⟨HB2.out, rfl⟩
  | some n =>
    rw [hd] at hL hdg
    simp only at hL
    by_cases h4 : 4096 < n
    · rw [if_pos h4] at hL
      subst hL
      have f4 : (4096 : Int) < (n : Int) := by omega
      clear h4 hd
      go_enter Tryz.func47, Tryz.ntmps47
      go_wp2_with fail
      (go_at_call 77; refine (c1 _ HV.out).mono ?_; rintro e w' ⟨rfl, rfl⟩)
      go_wp2_with fail
      (go_at_call 13; refine (k2 _ HV.out).mono ?_; rintro e w1 ⟨rfl, hb⟩; have HV1 := Lib.hid (HV.out.below hb (Nat.le_refl _)); have HB1 := Lib.hid hb; clear hb)
      go_wp2_with fail
      (go_at_call 77; refine (c2 _ HV1.out).mono ?_; rintro e w' ⟨rfl, rfl⟩)
      go_wp2_with fail
      (go_at_call 77; refine (c3 _ HV1.out).mono ?_; rintro e w' ⟨rfl, rfl⟩)
      go_wp2_with fail
      (go_at_call 13; refine (k4 _ HV1.out).mono ?_; rintro e w2 ⟨rfl, hb⟩; have HB2 := Lib.hid (HB1.out.trans (hb.mono HB1.out.size)); clear hb)
      go_wp2_with fail
      (go_at_call 78; refine (hdg _).mono ?_; rintro e w' ⟨rfl, m, rfl, -, hm⟩; obtain rfl := hm _ rfl; clear hm; dsimp only [Option.isSome])
      go_wp2_with fail
      go_ret2
      exact ⟨HB2.out, rfl⟩
    · rw [if_neg h4] at hL
      subst hL
      have f4 : ¬ (4096 : Int) < (n : Int) := by omega
      clear h4 hd
      go_enter Tryz.func47, Tryz.ntmps47
      go_wp2_with fail
      (go_at_call 77; refine (c1 _ HV.out).mono ?_; rintro e w' ⟨rfl, rfl⟩)
      go_wp2_with fail
      (go_at_call 13; refine (k2 _ HV.out).mono ?_; rintro e w1 ⟨rfl, hb⟩; have HV1 := Lib.hid (HV.out.below hb (Nat.le_refl _)); have HB1 := Lib.hid hb; clear hb)
      go_wp2_with fail
      (go_at_call 77; refine (c2 _ HV1.out).mono ?_; rintro e w' ⟨rfl, rfl⟩)
      go_wp2_with fail
      (go_at_call 77; refine (c3 _ HV1.out).mono ?_; rintro e w' ⟨rfl, rfl⟩)
      go_wp2_with fail
      (go_at_call 13; refine (k4 _ HV1.out).mono ?_; rintro e w2 ⟨rfl, hb⟩; have HB2 := Lib.hid (HB1.out.trans (hb.mono HB1.out.size)); clear hb)
      go_wp2_with fail
      (go_at_call 78; refine (hdg _).mono ?_; rintro e w' ⟨rfl, m, rfl, -, hm⟩; obtain rfl := hm _ rfl; clear hm; dsimp only [Option.isSome])
      go_wp2_with fail
      go_ret2
      exact ⟨HB2.out, rfl⟩
end Go.Proofs.YtidhemjnchonaaaGreatDoor
