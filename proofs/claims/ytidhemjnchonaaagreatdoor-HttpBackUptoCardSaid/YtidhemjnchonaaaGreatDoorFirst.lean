/- Contract of http.first: a first line's method and target, or the panic by which it is refused. -/
import Derived.Test.YtidhemjnchonaaaGreatDoorLen
import Derived.Lib.SplitLaws
namespace Go.Proofs.YtidhemjnchonaaaGreatDoor
open Go.RowKit Go.BL

/-- A text's parts between the places of another. -/
def lns (s sep : List UInt8) : List (List UInt8) := (Lib.splitB ⟨sep.toArray⟩ 0 (Lib.countB ⟨s.toArray⟩ ⟨sep.toArray⟩) ⟨s.toArray⟩).map fun b => b.data.toList
def strs (l : List (List UInt8)) : Array Value := (l.map fun x => Value.string ⟨x.toArray⟩).toArray
theorem split_any (s sep : List UInt8) (h1 : 1 ≤ sep.length) (hs : s.length < 4294967281) (w : World) (he : Env w) :
    Calls Tryz.prog 37 #[.string ⟨s.toArray⟩, .string ⟨sep.toArray⟩] w fun e w' => e = .returned (.slice (some ⟨w.heap.size, 0, none⟩) (lns s sep).length (lns s sep).length) ∧ w.alloc (.cells (strs (lns s sep)) 9) = w' := by
  obtain ⟨m, hm⟩ := he
  refine (Tryz.strings_Split ⟨s.toArray⟩ ⟨sep.toArray⟩ m w hs hm h1).mono ?_
  have hl := Lib.splitB_all ⟨sep.toArray⟩ h1 0 _ ⟨s.toArray⟩ rfl
  rintro e w' ⟨rfl, rfl⟩
  have e1 : (lns s sep).length = Lib.countB ⟨s.toArray⟩ ⟨sep.toArray⟩ + 1 := by unfold lns; rw [List.length_map, hl]
  rw [e1]
  refine ⟨rfl, ?_⟩
  unfold strs lns
  rw [List.map_map]
  rfl
theorem lns_len (s sep : List UInt8) (h1 : 1 ≤ sep.length) : 1 ≤ (lns s sep).length ∧ (lns s sep).length ≤ s.length + 1 := by
  have hl := Lib.splitB_all ⟨sep.toArray⟩ h1 0 _ ⟨s.toArray⟩ rfl
  have hc := Lib.countB_le ⟨sep.toArray⟩ h1 _ ⟨s.toArray⟩ (Nat.le_refl _)
  have hc' : Lib.countB ⟨s.toArray⟩ ⟨sep.toArray⟩ ≤ s.length := hc
  unfold lns
  rw [List.length_map, hl]
  omega
theorem splitK_mem (sep : List UInt8) : ∀ (k : Nat) (s x : List UInt8), x ∈ Lib.splitK sep 0 k s → x.length ≤ s.length
  | 0, s, x, h => by simp [Lib.splitK] at h; rw [h]; exact Nat.le_refl _
  | k + 1, s, x, h => by
    unfold Lib.splitK at h
    split at h
    · simp at h; rw [h]; exact Nat.le_refl _
    · rcases List.mem_cons.1 h with rfl | h
      · simp; omega
      · have := splitK_mem sep k _ x h
        simp at this
        omega
theorem lns_eq (s sep : List UInt8) : lns s sep = Lib.splitK sep 0 (Lib.countB ⟨s.toArray⟩ ⟨sep.toArray⟩) s := by
  unfold lns
  exact Lib.splitB_data _ _ _ _
theorem lns_mem_len (s sep : List UInt8) {x : List UInt8} (hx : x ∈ lns s sep) : x.length ≤ s.length := by
  rw [lns_eq] at hx
  exact splitK_mem sep _ s x hx
def httpP : List UInt8 := [72, 84, 84, 80, 47]
def http11 : List UInt8 := [72, 84, 84, 80, 47, 49, 46, 49]
def meths : List ByteArray := [⟨#[71, 69, 84]⟩, ⟨#[80, 85, 84]⟩, ⟨#[80, 79, 83, 84]⟩, ⟨#[68, 69, 76, 69, 84, 69]⟩]
def verL : List UInt8 → Bool
  | [a, b, c, d, e, f, g, h] => Lib.hasPrefix [a, b, c, d, e, f, g, h] httpP && dig f && (g == 46) && dig h
  | _ => false
def firstL (line : List UInt8) : Except Int (List UInt8 × List UInt8) :=
  match lns line [32] with
  | [m, t, v] =>
    if m = [] ∨ t = [] ∨ v = [] then .error 400
    else if ¬ (m.length ≤ 16 ∧ m.all cap = true) then .error 400
    else if ¬ (t.head? = some 47 ∧ t.all vis = true) then .error 400
    else if verL v = false then .error 400
    else if v ≠ http11 then .error 505
    else if Lib.containsS meths ⟨m.toArray⟩ = false then .error 501
    else if 1024 < t.length then .error 414
    else .ok (m, t)
  | _ => .error 400
theorem prefix_any (v : List UInt8) (w : World) : Calls Tryz.prog 69 #[.string ⟨v.toArray⟩, .string ⟨#[72, 84, 84, 80, 47]⟩] w fun e w' => e = .returned (.bool (Lib.hasPrefix v httpP)) ∧ w = w' :=
  (Tryz.strings_HasPrefix ⟨v.toArray⟩ ⟨#[72, 84, 84, 80, 47]⟩ w).mono fun _ _ ⟨a, b⟩ => ⟨a, b.symm⟩
theorem meths_any (m : List UInt8) (w : World) (b : Nat) (hb : b = w.heap.size) : Calls Tryz.prog 71 #[.slice (some ⟨b, 0, none⟩) 4 4, .string ⟨m.toArray⟩] (w.alloc (.cells #[.string ⟨#[71, 69, 84]⟩, .string ⟨#[80, 85, 84]⟩, .string ⟨#[80, 79, 83, 84]⟩, .string ⟨#[68, 69, 76, 69, 84, 69]⟩] 9))
    fun e w' => e = .returned (.bool (Lib.containsS meths ⟨m.toArray⟩)) ∧ w.alloc (.cells #[.string ⟨#[71, 69, 84]⟩, .string ⟨#[80, 85, 84]⟩, .string ⟨#[80, 79, 83, 84]⟩, .string ⟨#[68, 69, 76, 69, 84, 69]⟩] 9) = w' := by
  subst hb
  refine (Tryz.slices_Contains_string w.heap.size 0 4 4 meths ⟨m.toArray⟩ _ (by decide) (by decide) (fun j hj => ?_)).mono fun _ _ ⟨a, b⟩ => ⟨a, b.symm⟩
  rw [World.cell?_alloc_at _ _ _ _ rfl]
  have : j < 4 := hj
  rcases j with _ | _ | _ | _ | _ <;> first | rfl | omega
theorem below_drewN {B : Nat} {a w : World} (h : Below B a w) : ∀ n, Below B a (w.drewN n)
  | 0 => h
  | n + 1 => (below_drewN h n).drew
theorem ne47 {x : UInt8} (h : ¬ x = 47) : ((x.toNat : Int) == 47) = false := beq_false_of_ne (fun e => h (UInt8.toNat_inj.1 (by show x.toNat = 47; omega)))
theorem ne46 {x : UInt8} (h : ¬ x = 46) : ((x.toNat : Int) == 46) = false := beq_false_of_ne (fun e => h (UInt8.toNat_inj.1 (by show x.toNat = 46; omega)))
theorem seven {l : List UInt8} (h : l.length = 7) : ∃ a b c d e f g, l = [a, b, c, d, e, f, g] := by
  match l, h with
  | [a, b, c, d, e, f, g], _ => exact ⟨a, b, c, d, e, f, g, rfl⟩
theorem ver_len {a : UInt8} {l : List UInt8} (h : ¬ l.length = 7) : verL (a :: l) = false := by
  unfold verL
  split
  · rename_i e
    injection e with _ e
    subst e
    exact absurd rfl h
  · rfl
def RetT (r : Except Int (List UInt8 × List UInt8)) (w : World) : Ending → World → Prop :=
  match r with | .ok (m, t) => RetV (.tuple #[.string ⟨m.toArray⟩, .string ⟨t.toArray⟩]) w | .error c => PanN c w
set_option maxHeartbeats 4000000 in
set_option maxRecDepth 100000 in
theorem first_last (s : List UInt8) (w : World) {m0 : UInt8} {mr tr : List UInt8} {L : Except Int (List UInt8 × List UInt8)}
    (hsp' : Calls Tryz.prog 37 #[.string ⟨s.toArray⟩, .string ⟨#[32]⟩] w fun e w' => e = .returned (.slice (some ⟨w.heap.size, 0, none⟩) 3 3) ∧ w.alloc (.cells #[.string ⟨(m0 :: mr).toArray⟩, .string ⟨(47 :: tr).toArray⟩, .string ⟨[72, 84, 84, 80, 47, 49, 46, 49].toArray⟩] 9) = w')
    (f1 : (mr.length : Int) + 1 ≤ 16) (hca : ∀ w, Calls Tryz.prog 67 #[.string ⟨(m0 :: mr).toArray⟩, .func (.func 59) #[] #[]] w fun e w' => e = .returned (.bool true) ∧ w = w')
    (hva : ∀ w, Calls Tryz.prog 67 #[.string ⟨(47 :: tr).toArray⟩, .func (.func 68) #[] #[]] w fun e w' => e = .returned (.bool true) ∧ w = w')
    (hL : (if Lib.containsS meths ⟨(m0 :: mr).toArray⟩ = false then Except.error 501 else if 1024 < (47 :: tr).length then .error 414 else .ok (m0 :: mr, 47 :: tr)) = L) : Calls Tryz.prog 39 #[.string ⟨s.toArray⟩] w (RetT L w) := by
  have hpf : ∀ w, Calls Tryz.prog 69 #[.string ⟨#[72, 84, 84, 80, 47, 49, 46, 49]⟩, .string ⟨#[72, 84, 84, 80, 47]⟩] w fun e w' => e = .returned (.bool true) ∧ w = w' := prefix_any [72, 84, 84, 80, 47, 49, 46, 49]
  have h5 : dig 49 = true := by decide
  have hi0 : ∀ h, (⟨(47 :: tr).toArray⟩ : ByteArray)[0]'h = 47 := fun _ => rfl
  have hme := meths_any (m0 :: mr)
  generalize Lib.containsS meths ⟨(m0 :: mr).toArray⟩ = me at *
  cases me
  case false =>
    rw [if_pos rfl] at hL
    subst hL
    skip
    go_enter Tryz.func39, Tryz.ntmps39
    go_wp2_with (first | (go_at_call 37; refine hsp'.mono ?_; rintro e w1 ⟨rfl, rfl⟩) | (go_at_call 36; refine (check_any _ _ _).mono ?_; rintro e w' ⟨rfl, rfl⟩; dsimp only [ckE]))
    go_quiet (fail)
    go_wp2_with fail
    (go_at_call 67; refine (hca _).mono ?_; rintro e w' ⟨rfl, rfl⟩)
    go_wp2_with (go_at_call 36; refine (check_any _ _ _).mono ?_; rintro e w' ⟨rfl, rfl⟩; dsimp only [ckE])
    (go_at_call 67; refine (hva _).mono ?_; rintro e w' ⟨rfl, rfl⟩)
    go_wp2_with (first | (go_at_call 36; refine (check_any _ _ _).mono ?_; rintro e w' ⟨rfl, rfl⟩; dsimp only [ckE]) | (go_at_call 69; refine (hpf _).mono ?_; rintro e w' ⟨rfl, rfl⟩) | (go_at_call 70; refine (digit_any _ _).mono ?_; rintro e w' ⟨rfl, rfl⟩) | (go_at_call 71; refine (hme _ _ (by simp)).mono ?_; rintro e w' ⟨rfl, rfl⟩))
    exact ⟨rfl, rfl, (below_drewN ((Below.refl _ _).alloc (Nat.le_refl _) _) _).alloc (by simp) _⟩
  rw [if_neg (by simp)] at hL
  by_cases h9 : 1024 < tr.length + 1
  case neg =>
    have f9 : decide ((tr.length : Int) + 1 ≤ 1024) = true := decide_eq_true (by omega)
    rw [if_neg (by simpa using h9)] at hL
    subst hL
    clear h9
    go_enter Tryz.func39, Tryz.ntmps39
    go_wp2_with (first | (go_at_call 37; refine hsp'.mono ?_; rintro e w1 ⟨rfl, rfl⟩) | (go_at_call 36; refine (check_any _ _ _).mono ?_; rintro e w' ⟨rfl, rfl⟩; dsimp only [ckE]))
    go_quiet (fail)
    go_wp2_with fail
    (go_at_call 67; refine (hca _).mono ?_; rintro e w' ⟨rfl, rfl⟩)
    go_wp2_with (go_at_call 36; refine (check_any _ _ _).mono ?_; rintro e w' ⟨rfl, rfl⟩; dsimp only [ckE])
    (go_at_call 67; refine (hva _).mono ?_; rintro e w' ⟨rfl, rfl⟩)
    go_wp2_with (first | (go_at_call 36; refine (check_any _ _ _).mono ?_; rintro e w' ⟨rfl, rfl⟩; dsimp only [ckE]) | (go_at_call 69; refine (hpf _).mono ?_; rintro e w' ⟨rfl, rfl⟩) | (go_at_call 70; refine (digit_any _ _).mono ?_; rintro e w' ⟨rfl, rfl⟩) | (go_at_call 71; refine (hme _ _ (by simp)).mono ?_; rintro e w' ⟨rfl, rfl⟩))
    go_ret2
    exact ⟨rfl, (below_drewN ((Below.refl _ _).alloc (Nat.le_refl _) _) _).alloc (by simp) _⟩
  have f9 : decide ((tr.length : Int) + 1 ≤ 1024) = false := decide_eq_false (by omega)
  rw [if_pos (by simpa using h9)] at hL
  subst hL
  clear h9
  go_enter Tryz.func39, Tryz.ntmps39
  go_wp2_with (first | (go_at_call 37; refine hsp'.mono ?_; rintro e w1 ⟨rfl, rfl⟩) | (go_at_call 36; refine (check_any _ _ _).mono ?_; rintro e w' ⟨rfl, rfl⟩; dsimp only [ckE]))
  go_quiet (fail)
  go_wp2_with fail
  (go_at_call 67; refine (hca _).mono ?_; rintro e w' ⟨rfl, rfl⟩)
  go_wp2_with (go_at_call 36; refine (check_any _ _ _).mono ?_; rintro e w' ⟨rfl, rfl⟩; dsimp only [ckE])
  (go_at_call 67; refine (hva _).mono ?_; rintro e w' ⟨rfl, rfl⟩)
  go_wp2_with (first | (go_at_call 36; refine (check_any _ _ _).mono ?_; rintro e w' ⟨rfl, rfl⟩; dsimp only [ckE]) | (go_at_call 69; refine (hpf _).mono ?_; rintro e w' ⟨rfl, rfl⟩) | (go_at_call 70; refine (digit_any _ _).mono ?_; rintro e w' ⟨rfl, rfl⟩) | (go_at_call 71; refine (hme _ _ (by simp)).mono ?_; rintro e w' ⟨rfl, rfl⟩))
  exact ⟨rfl, rfl, (below_drewN ((Below.refl _ _).alloc (Nat.le_refl _) _) _).alloc (by simp) _⟩
set_option maxHeartbeats 4000000 in
set_option maxRecDepth 100000 in
theorem first_any (s : List UInt8) (hs : s.length < 4294967281) (w : World) (he : Env w) : Calls Tryz.prog 39 #[.string ⟨s.toArray⟩] w (RetT (firstL s) w) := by
  have hsp := split_any s [32] (by decide) hs w he
  have htlen : ∀ {x : List UInt8}, x ∈ lns s [32] → x.length ≤ 9223372036854775807 := fun hx => by have := lns_mem_len s [32] hx; omega
  obtain ⟨L, hL⟩ : ∃ L, firstL s = L := ⟨_, rfl⟩
  rw [hL]
  unfold firstL at hL
  generalize lns s [32] = l at *
  by_cases h3 : l.length = 3
  case neg =>
    have hL2 : Except.error 400 = L := by rw [← hL]; split <;> simp_all
    subst hL2
    have f1 : ((l.length : Int) == 3) = false := beq_false_of_ne (by omega)
    clear hL h3 he
    go_enter Tryz.func39, Tryz.ntmps39
    go_wp2_with (first | (go_at_call 37; refine hsp.mono ?_; rintro e w1 ⟨rfl, rfl⟩) | (go_at_call 36; refine (check_any _ _ _).mono ?_; rintro e w' ⟨rfl, rfl⟩; dsimp only [ckE]))
    exact ⟨rfl, rfl, (Below.refl _ _).alloc (Nat.le_refl _) _⟩
  obtain ⟨m, t, v, rfl⟩ : ∃ m t v, l = [m, t, v] := by
    match l, h3 with
    | [m, t, v], _ => exact ⟨m, t, v, rfl⟩
  have hsp' : Calls Tryz.prog 37 #[.string ⟨s.toArray⟩, .string ⟨#[32]⟩] w fun e w' => e = .returned (.slice (some ⟨w.heap.size, 0, none⟩) 3 3) ∧ w.alloc (.cells #[.string ⟨m.toArray⟩, .string ⟨t.toArray⟩, .string ⟨v.toArray⟩] 9) = w' := hsp
  clear hsp h3
  simp only at hL
  cases m with
  | nil =>
    rw [if_pos (by simp)] at hL
    subst hL
    clear he
    go_enter Tryz.func39, Tryz.ntmps39
    go_wp2_with (first | (go_at_call 37; refine hsp'.mono ?_; rintro e w1 ⟨rfl, rfl⟩) | (go_at_call 36; refine (check_any _ _ _).mono ?_; rintro e w' ⟨rfl, rfl⟩; dsimp only [ckE]))
    first | exact ⟨rfl, rfl, (Below.refl _ _).alloc (Nat.le_refl _) _⟩ | exact ⟨rfl, rfl, below_drewN ((Below.refl _ _).alloc (Nat.le_refl _) _) _⟩
  | cons m0 mr =>
  cases t with
  | nil =>
    rw [if_pos (by simp)] at hL
    subst hL
    clear he
    go_enter Tryz.func39, Tryz.ntmps39
    go_wp2_with (first | (go_at_call 37; refine hsp'.mono ?_; rintro e w1 ⟨rfl, rfl⟩) | (go_at_call 36; refine (check_any _ _ _).mono ?_; rintro e w' ⟨rfl, rfl⟩; dsimp only [ckE]))
    first | exact ⟨rfl, rfl, (Below.refl _ _).alloc (Nat.le_refl _) _⟩ | exact ⟨rfl, rfl, below_drewN ((Below.refl _ _).alloc (Nat.le_refl _) _) _⟩
  | cons t0 tr =>
  cases v with
  | nil =>
    rw [if_pos (by simp)] at hL
    subst hL
    clear he
    go_enter Tryz.func39, Tryz.ntmps39
    go_wp2_with (first | (go_at_call 37; refine hsp'.mono ?_; rintro e w1 ⟨rfl, rfl⟩) | (go_at_call 36; refine (check_any _ _ _).mono ?_; rintro e w' ⟨rfl, rfl⟩; dsimp only [ckE]))
    first | exact ⟨rfl, rfl, (Below.refl _ _).alloc (Nat.le_refl _) _⟩ | exact ⟨rfl, rfl, below_drewN ((Below.refl _ _).alloc (Nat.le_refl _) _) _⟩
  | cons v0 vr =>
  rw [if_neg (by simp)] at hL
  by_cases d1 : mr.length + 1 ≤ 16
  case neg =>
    have f1 : ¬ (mr.length : Int) + 1 ≤ 16 := by omega
    rw [if_pos (by simp; omega)] at hL
    subst hL
    clear he d1
    go_enter Tryz.func39, Tryz.ntmps39
    go_wp2_with (first | (go_at_call 37; refine hsp'.mono ?_; rintro e w1 ⟨rfl, rfl⟩) | (go_at_call 36; refine (check_any _ _ _).mono ?_; rintro e w' ⟨rfl, rfl⟩; dsimp only [ckE]))
    go_quiet (fail)
    go_wp2_with (first | (go_at_call 37; refine hsp'.mono ?_; rintro e w1 ⟨rfl, rfl⟩) | (go_at_call 36; refine (check_any _ _ _).mono ?_; rintro e w' ⟨rfl, rfl⟩; dsimp only [ckE]))
    first | exact ⟨rfl, rfl, (Below.refl _ _).alloc (Nat.le_refl _) _⟩ | exact ⟨rfl, rfl, below_drewN ((Below.refl _ _).alloc (Nat.le_refl _) _) _⟩
  have f1 : (mr.length : Int) + 1 ≤ 16 := by omega
  have hca := all_any 59 cap capital_any (fun _ _ => rfl) (m0 :: mr) (by simp; omega)
  obtain ⟨u1, hu1⟩ : ∃ u, (m0 :: mr).all cap = u := ⟨_, rfl⟩
  rw [hu1] at hca
  cases u1
  case false =>
    rw [if_pos (by rw [hu1]; simp)] at hL
    subst hL
    clear he d1 hu1
    go_enter Tryz.func39, Tryz.ntmps39
    go_wp2_with (first | (go_at_call 37; refine hsp'.mono ?_; rintro e w1 ⟨rfl, rfl⟩) | (go_at_call 36; refine (check_any _ _ _).mono ?_; rintro e w' ⟨rfl, rfl⟩; dsimp only [ckE]) | (go_at_call 67; refine (hca _).mono ?_; rintro e w' ⟨rfl, rfl⟩))
    go_quiet (fail)
    go_wp2_with (first | (go_at_call 37; refine hsp'.mono ?_; rintro e w1 ⟨rfl, rfl⟩) | (go_at_call 36; refine (check_any _ _ _).mono ?_; rintro e w' ⟨rfl, rfl⟩; dsimp only [ckE]) | (go_at_call 67; refine (hca _).mono ?_; rintro e w' ⟨rfl, rfl⟩))
    first | exact ⟨rfl, rfl, (Below.refl _ _).alloc (Nat.le_refl _) _⟩ | exact ⟨rfl, rfl, below_drewN ((Below.refl _ _).alloc (Nat.le_refl _) _) _⟩
  rw [if_neg (by rw [hu1]; simp; omega)] at hL
  clear hu1 d1
  have htl : (t0 :: tr).length ≤ 9223372036854775807 := htlen (by simp)
  have hva := all_any 68 vis visible_any (fun _ _ => rfl) (t0 :: tr) htl
  clear htl htlen
  have hi0 : ∀ h, (⟨(t0 :: tr).toArray⟩ : ByteArray)[0]'h = t0 := fun _ => rfl
  by_cases e1 : t0 = 47
  case neg =>
    have f2 := ne47 e1
    rw [if_pos (by simp [e1])] at hL
    subst hL
    clear he e1
    go_enter Tryz.func39, Tryz.ntmps39
    go_wp2_with (first | (go_at_call 37; refine hsp'.mono ?_; rintro e w1 ⟨rfl, rfl⟩) | (go_at_call 36; refine (check_any _ _ _).mono ?_; rintro e w' ⟨rfl, rfl⟩; dsimp only [ckE]))
    go_quiet (fail)
    go_wp2_with fail
    (go_at_call 67; refine (hca _).mono ?_; rintro e w' ⟨rfl, rfl⟩)
    go_wp2_with (go_at_call 36; refine (check_any _ _ _).mono ?_; rintro e w' ⟨rfl, rfl⟩; dsimp only [ckE])
    first | exact ⟨rfl, rfl, (Below.refl _ _).alloc (Nat.le_refl _) _⟩ | exact ⟨rfl, rfl, below_drewN ((Below.refl _ _).alloc (Nat.le_refl _) _) _⟩
  subst e1
  obtain ⟨u2, hu2⟩ : ∃ u, ((47 : UInt8) :: tr).all vis = u := ⟨_, rfl⟩
  rw [hu2] at hva
  cases u2
  case false =>
    rw [if_pos (by rw [hu2]; simp)] at hL
    subst hL
    clear he hu2
    go_enter Tryz.func39, Tryz.ntmps39
    go_wp2_with (first | (go_at_call 37; refine hsp'.mono ?_; rintro e w1 ⟨rfl, rfl⟩) | (go_at_call 36; refine (check_any _ _ _).mono ?_; rintro e w' ⟨rfl, rfl⟩; dsimp only [ckE]))
    go_quiet (fail)
    go_wp2_with fail
    (go_at_call 67; refine (hca _).mono ?_; rintro e w' ⟨rfl, rfl⟩)
    go_wp2_with (go_at_call 36; refine (check_any _ _ _).mono ?_; rintro e w' ⟨rfl, rfl⟩; dsimp only [ckE])
    (go_at_call 67; refine (hva _).mono ?_; rintro e w' ⟨rfl, rfl⟩)
    go_wp2_with (go_at_call 36; refine (check_any _ _ _).mono ?_; rintro e w' ⟨rfl, rfl⟩; dsimp only [ckE])
    first | exact ⟨rfl, rfl, (Below.refl _ _).alloc (Nat.le_refl _) _⟩ | exact ⟨rfl, rfl, below_drewN ((Below.refl _ _).alloc (Nat.le_refl _) _) _⟩
  rw [if_neg (by rw [hu2]; simp)] at hL
  clear hu2
  by_cases g8 : vr.length = 7
  case neg =>
    have f3 : ((vr.length : Int) + 1 == 8) = false := beq_false_of_ne (by omega)
    rw [if_pos (ver_len g8)] at hL
    subst hL
    clear he g8
    go_enter Tryz.func39, Tryz.ntmps39
    go_wp2_with (first | (go_at_call 37; refine hsp'.mono ?_; rintro e w1 ⟨rfl, rfl⟩) | (go_at_call 36; refine (check_any _ _ _).mono ?_; rintro e w' ⟨rfl, rfl⟩; dsimp only [ckE]))
    go_quiet (fail)
    go_wp2_with fail
    (go_at_call 67; refine (hca _).mono ?_; rintro e w' ⟨rfl, rfl⟩)
    go_wp2_with (go_at_call 36; refine (check_any _ _ _).mono ?_; rintro e w' ⟨rfl, rfl⟩; dsimp only [ckE])
    (go_at_call 67; refine (hva _).mono ?_; rintro e w' ⟨rfl, rfl⟩)
    go_wp2_with (go_at_call 36; refine (check_any _ _ _).mono ?_; rintro e w' ⟨rfl, rfl⟩; dsimp only [ckE])
    first | exact ⟨rfl, rfl, (Below.refl _ _).alloc (Nat.le_refl _) _⟩ | exact ⟨rfl, rfl, below_drewN ((Below.refl _ _).alloc (Nat.le_refl _) _) _⟩
  obtain ⟨v1, v2, v3, v4, v5, v6, v7, rfl⟩ := seven g8
  clear g8
  have hi5 : ∀ h, (⟨#[v0, v1, v2, v3, v4, v5, v6, v7]⟩ : ByteArray)[5]'h = v5 := fun _ => rfl
  have hi6 : ∀ h, (⟨#[v0, v1, v2, v3, v4, v5, v6, v7]⟩ : ByteArray)[6]'h = v6 := fun _ => rfl
  have hi7 : ∀ h, (⟨#[v0, v1, v2, v3, v4, v5, v6, v7]⟩ : ByteArray)[7]'h = v7 := fun _ => rfl
  have hpf := prefix_any [v0, v1, v2, v3, v4, v5, v6, v7]
  have hver : verL [v0, v1, v2, v3, v4, v5, v6, v7] = (Lib.hasPrefix [v0, v1, v2, v3, v4, v5, v6, v7] httpP && dig v5 && (v6 == 46) && dig v7) := rfl
  rw [hver] at hL
  clear hver
  generalize Lib.hasPrefix [v0, v1, v2, v3, v4, v5, v6, v7] httpP = pf at *
  cases pf
  case false =>
    rw [if_pos (by simp)] at hL
    subst hL
    clear he
    go_enter Tryz.func39, Tryz.ntmps39
    go_wp2_with (first | (go_at_call 37; refine hsp'.mono ?_; rintro e w1 ⟨rfl, rfl⟩) | (go_at_call 36; refine (check_any _ _ _).mono ?_; rintro e w' ⟨rfl, rfl⟩; dsimp only [ckE]))
    go_quiet (fail)
    go_wp2_with fail
    (go_at_call 67; refine (hca _).mono ?_; rintro e w' ⟨rfl, rfl⟩)
    go_wp2_with (go_at_call 36; refine (check_any _ _ _).mono ?_; rintro e w' ⟨rfl, rfl⟩; dsimp only [ckE])
    (go_at_call 67; refine (hva _).mono ?_; rintro e w' ⟨rfl, rfl⟩)
    go_wp2_with (first | (go_at_call 36; refine (check_any _ _ _).mono ?_; rintro e w' ⟨rfl, rfl⟩; dsimp only [ckE]) | (go_at_call 69; refine (hpf _).mono ?_; rintro e w' ⟨rfl, rfl⟩))
    first | exact ⟨rfl, rfl, (Below.refl _ _).alloc (Nat.le_refl _) _⟩ | exact ⟨rfl, rfl, below_drewN ((Below.refl _ _).alloc (Nat.le_refl _) _) _⟩
  by_cases h5 : dig v5 = true
  case neg =>
    have h5' : dig v5 = false := by simpa using h5
    rw [if_pos (by simp [h5'])] at hL
    subst hL
    clear he h5
    go_enter Tryz.func39, Tryz.ntmps39
    go_wp2_with (first | (go_at_call 37; refine hsp'.mono ?_; rintro e w1 ⟨rfl, rfl⟩) | (go_at_call 36; refine (check_any _ _ _).mono ?_; rintro e w' ⟨rfl, rfl⟩; dsimp only [ckE]))
    go_quiet (fail)
    go_wp2_with fail
    (go_at_call 67; refine (hca _).mono ?_; rintro e w' ⟨rfl, rfl⟩)
    go_wp2_with (go_at_call 36; refine (check_any _ _ _).mono ?_; rintro e w' ⟨rfl, rfl⟩; dsimp only [ckE])
    (go_at_call 67; refine (hva _).mono ?_; rintro e w' ⟨rfl, rfl⟩)
    go_wp2_with (first | (go_at_call 36; refine (check_any _ _ _).mono ?_; rintro e w' ⟨rfl, rfl⟩; dsimp only [ckE]) | (go_at_call 69; refine (hpf _).mono ?_; rintro e w' ⟨rfl, rfl⟩) | (go_at_call 70; refine (digit_any _ _).mono ?_; rintro e w' ⟨rfl, rfl⟩))
    first | exact ⟨rfl, rfl, (Below.refl _ _).alloc (Nat.le_refl _) _⟩ | exact ⟨rfl, rfl, below_drewN ((Below.refl _ _).alloc (Nat.le_refl _) _) _⟩
  by_cases h6 : v6 = 46
  case neg =>
    have h6' := ne46 h6
    rw [if_pos (by simp [h6])] at hL
    subst hL
    clear he h6
    go_enter Tryz.func39, Tryz.ntmps39
    go_wp2_with (first | (go_at_call 37; refine hsp'.mono ?_; rintro e w1 ⟨rfl, rfl⟩) | (go_at_call 36; refine (check_any _ _ _).mono ?_; rintro e w' ⟨rfl, rfl⟩; dsimp only [ckE]))
    go_quiet (fail)
    go_wp2_with fail
    (go_at_call 67; refine (hca _).mono ?_; rintro e w' ⟨rfl, rfl⟩)
    go_wp2_with (go_at_call 36; refine (check_any _ _ _).mono ?_; rintro e w' ⟨rfl, rfl⟩; dsimp only [ckE])
    (go_at_call 67; refine (hva _).mono ?_; rintro e w' ⟨rfl, rfl⟩)
    go_wp2_with (first | (go_at_call 36; refine (check_any _ _ _).mono ?_; rintro e w' ⟨rfl, rfl⟩; dsimp only [ckE]) | (go_at_call 69; refine (hpf _).mono ?_; rintro e w' ⟨rfl, rfl⟩) | (go_at_call 70; refine (digit_any _ _).mono ?_; rintro e w' ⟨rfl, rfl⟩))
    first | exact ⟨rfl, rfl, (Below.refl _ _).alloc (Nat.le_refl _) _⟩ | exact ⟨rfl, rfl, below_drewN ((Below.refl _ _).alloc (Nat.le_refl _) _) _⟩
  subst h6
  by_cases h7 : dig v7 = true
  case neg =>
    have h7' : dig v7 = false := by simpa using h7
    rw [if_pos (by simp [h7'])] at hL
    subst hL
    clear he h7
    go_enter Tryz.func39, Tryz.ntmps39
    go_wp2_with (first | (go_at_call 37; refine hsp'.mono ?_; rintro e w1 ⟨rfl, rfl⟩) | (go_at_call 36; refine (check_any _ _ _).mono ?_; rintro e w' ⟨rfl, rfl⟩; dsimp only [ckE]))
    go_quiet (fail)
    go_wp2_with fail
    (go_at_call 67; refine (hca _).mono ?_; rintro e w' ⟨rfl, rfl⟩)
    go_wp2_with (go_at_call 36; refine (check_any _ _ _).mono ?_; rintro e w' ⟨rfl, rfl⟩; dsimp only [ckE])
    (go_at_call 67; refine (hva _).mono ?_; rintro e w' ⟨rfl, rfl⟩)
    go_wp2_with (first | (go_at_call 36; refine (check_any _ _ _).mono ?_; rintro e w' ⟨rfl, rfl⟩; dsimp only [ckE]) | (go_at_call 69; refine (hpf _).mono ?_; rintro e w' ⟨rfl, rfl⟩) | (go_at_call 70; refine (digit_any _ _).mono ?_; rintro e w' ⟨rfl, rfl⟩))
    first | exact ⟨rfl, rfl, (Below.refl _ _).alloc (Nat.le_refl _) _⟩ | exact ⟨rfl, rfl, below_drewN ((Below.refl _ _).alloc (Nat.le_refl _) _) _⟩
  rw [if_neg (by simp [h5, h7])] at hL
  by_cases hv : [v0, v1, v2, v3, v4, v5, 46, v7] = http11
  case neg =>
    have hv' : ([v0, v1, v2, v3, v4, v5, 46, v7] == [72, 84, 84, 80, 47, 49, 46, 49]) = false := beq_false_of_ne hv
    rw [if_pos hv] at hL
    subst hL
    clear he hv
    go_enter Tryz.func39, Tryz.ntmps39
    go_wp2_with (first | (go_at_call 37; refine hsp'.mono ?_; rintro e w1 ⟨rfl, rfl⟩) | (go_at_call 36; refine (check_any _ _ _).mono ?_; rintro e w' ⟨rfl, rfl⟩; dsimp only [ckE]))
    go_quiet (fail)
    go_wp2_with fail
    (go_at_call 67; refine (hca _).mono ?_; rintro e w' ⟨rfl, rfl⟩)
    go_wp2_with (go_at_call 36; refine (check_any _ _ _).mono ?_; rintro e w' ⟨rfl, rfl⟩; dsimp only [ckE])
    (go_at_call 67; refine (hva _).mono ?_; rintro e w' ⟨rfl, rfl⟩)
    go_wp2_with (first | (go_at_call 36; refine (check_any _ _ _).mono ?_; rintro e w' ⟨rfl, rfl⟩; dsimp only [ckE]) | (go_at_call 69; refine (hpf _).mono ?_; rintro e w' ⟨rfl, rfl⟩) | (go_at_call 70; refine (digit_any _ _).mono ?_; rintro e w' ⟨rfl, rfl⟩))
    first | exact ⟨rfl, rfl, (Below.refl _ _).alloc (Nat.le_refl _) _⟩ | exact ⟨rfl, rfl, below_drewN ((Below.refl _ _).alloc (Nat.le_refl _) _) _⟩
  rw [if_neg (by simpa using hv)] at hL
  unfold http11 at hv
  injection hv with k0 hv; injection hv with k1 hv; injection hv with k2 hv; injection hv with k3 hv; injection hv with k4 hv; injection hv with k5 hv; injection hv with k6 hv; injection hv with k7 hv
  subst k0 k1 k2 k3 k4 k5 k7
  clear hv k6
  exact first_last s w hsp' f1 hca hva hL
end Go.Proofs.YtidhemjnchonaaaGreatDoor
