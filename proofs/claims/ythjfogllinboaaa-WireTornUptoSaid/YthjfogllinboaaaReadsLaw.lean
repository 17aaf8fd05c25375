/- WireReads: the walk of the law. -/
import Derived.Test.YthjfogllinboaaaRefRdr
import Derived.Test.YthjfogllinboaaaLooks
import Derived.Test.YthjfogllinboaaaEq
namespace Go.Proofs.Ythjfogllinboaaa
open Go.RowKit Go.BL Go.Wr
/-- The own block of a slice, if it has one. -/
def rowsOf : Option Addr → List Nat
  | some a => [a.block]
  | none => []
theorem Own.rows {w : World} {B n c : Nat} {A : Option Addr} {bs : List Nat} (h : Own w B (.slice A n c) bs) : ∀ x ∈ rowsOf A, B ≤ x ∧ x < w.heap.size := by
  intro x hx
  cases A with
  | none => cases hx
  | some a =>
    have hx' : x = a.block := by simpa [rowsOf] using hx
    subst hx'
    exact ⟨h.block_ge _ rfl, h.lt _ rfl⟩
theorem left_any2 (B g : Nat) (bs : List Nat) (i : Nat) (w : World) (h : Rdr w B g bs i) : Calls Try.prog 23 #[.pointer (some ⟨g, 0, none⟩)] w fun e w' => e = .returned (.int .i64 ((bs.length : Int) - (i : Int))) ∧ ∃ N, w' = w.drewN N :=
  (left_any B g bs i w h).mono fun e w' ⟨he, hw⟩ => ⟨by rw [he]; exact ret_int (by have := h.le; omega), hw⟩
theorem end_lt (B g : Nat) (bs : List Nat) (i : Nat) (w : World) (h : Rdr w B g bs i) (hi : i < bs.length) : Calls Try.prog 21 #[.pointer (some ⟨g, 0, none⟩)] w fun e w' => e = .returned (.int .i64 3) ∧ ∃ N, w' = w.drewN N :=
  (end_any B g bs i w h).mono fun e w' ⟨he, hw⟩ => ⟨by rw [he, if_pos hi], hw⟩
theorem end_ge (B g : Nat) (bs : List Nat) (i : Nat) (w : World) (h : Rdr w B g bs i) (hi : ¬ i < bs.length) : Calls Try.prog 21 #[.pointer (some ⟨g, 0, none⟩)] w fun e w' => e = .returned (.int .i64 0) ∧ ∃ N, w' = w.drewN N :=
  (end_any B g bs i w h).mono fun e w' ⟨he, hw⟩ => ⟨by rw [he, if_neg hi], hw⟩
theorem below_drewN {B : Nat} {a w : World} (h : Below B a w) (n : Nat) : Below B a (w.drewN n) := ⟨h.os, h.tape, h.output, h.size, h.block⟩
set_option maxRecDepth 100000 in
set_option maxHeartbeats 4000000 in
theorem reads_any (A L : Option Addr) (m cap n lcap : Nat) (bs : List Nat) (w : World) (hr : Rd w A m bs) (hL : Lk w L n) (hm : m ≤ 1048576) (hcap : m ≤ cap) :
    Calls Try.prog 5 #[.slice A m cap, .slice L n lcap] w (RetV (.bool true) w) := by
  have hl := hr.1
  subst hl
  have Hr := Lib.hid hr
  have HL := Lib.hid hL
  have Hm := Lib.hid hm
  have hbs : bs.length ≤ 1048576 := hm
  have hnn := hL.1
  unfold maxLen at hnn
  have Hcap := Lib.hid hcap
  clear hcap
  clear hr hL hm
  go_enter Try.func5, Try.ntmps5
  go_wp2_with fail
  refine (retS (clone_any A bs.length cap bs _ Hr.out (by have := Hm.out; omega))).mono ?_
  rintro e w1 ⟨Ag, cg, rfl, hrd, how, hb⟩
  have Rg := Lib.hid hrd
  have Og := Lib.hid how
  have B1 := Lib.hid hb
  clear hrd how hb
  go_wp2_with fail
  refine (over_rdr Ag bs.length cg bs _ Rg.out (by have := Hm.out; omega)).mono ?_
  rintro e w2 ⟨g, rfl, hg, hr2, hb, hfar⟩
  have Hg := Lib.hid hg
  have Hfar := Lib.hid hfar
  have B2 := Lib.hid hb
  clear hg hr2 hb hfar
  go_wp2
  have hO3 : Own (w2.alloc (.cells #[.slice A bs.length cap, .int .i64 0] 45)) w.heap.size (.slice Ag bs.length cg) bs := (Og.out.below B2.out (Nat.le_refl _)).alloc _
  have hrows : ∀ x ∈ rowsOf Ag, w.heap.size ≤ x ∧ x < w1.heap.size := Own.rows Og.out
  have hB3 : Below w.heap.size w (w2.alloc (.cells #[.slice A bs.length cap, .int .i64 0] 45)) := (B1.out.trans (B2.out.mono B1.out.size)).alloc (Nat.le_trans B1.out.size B2.out.size) _
  have hk3 : Kept [] w2 (w2.alloc (.cells #[.slice A bs.length cap, .int .i64 0] 45)) := (Kept.refl [] w2).alloc _
  have hRR : RRd (w2.alloc (.cells #[.slice A bs.length cap, .int .i64 0] 45)) w.heap.size w2.heap.size bs 0 := by
    refine ⟨A, cap, heap_alloc_new w2 _, Hr.out.below hB3 (Nat.le_refl _), Nat.zero_le _, Nat.le_trans B1.out.size B2.out.size, Hcap.out, fun hn a e => ?_⟩
    obtain ⟨b, off, e', hlt, _⟩ := Hr.out.2.2.2 hn
    rw [e'] at e
    injection e with e
    subst e
    exact hlt
  have hs2 := B2.out.size
  have hs1 := B1.out.size
  have Hs2 := Lib.hid hs2
  have Hs1 := Lib.hid hs1
  clear hs1 hs2
  generalize w2.alloc (.cells #[.slice A bs.length cap, .int .i64 0] 45) = w3 at *
  have HO3 := Lib.hid hO3
  have Hrows := Lib.hid hrows
  have HB3 := Lib.hid hB3
  have HK3 := Lib.hid hk3
  have HRR := Lib.hid hRR
  clear hO3 hrows hB3 hk3 hRR
  go_loopw [34] (fun i wr => ∃ (k : Nat) (ds : List Nat), k ≤ bs.length ∧ i = .int .i64 k ∧ Hid (ds.length = bs.length) ∧ Hid (Own wr w.heap.size (.slice Ag bs.length cg) ds) ∧ Hid (Kept (rowsOf Ag) w3 wr)) (fun i _ => bs.length - (intOf i).toNat)
  case atStart => exact ⟨0, bs, Nat.zero_le _, rfl, Lib.hid rfl, HO3, Lib.hid (Kept.refl _ _)⟩
  case round =>
    obtain ⟨k, ds, hk, rfl, Hd, Ho, HK⟩ := hrel
    by_cases hlt : k < bs.length
    · obtain ⟨gx, rfl, -, -⟩ := Ho.out.some_ (by rw [Hd.out]; omega)
      have hck := Ho.out.cellAt Hd.out k hlt
      have hfr := Ho.out.frozenAt Hd.out k
      have hcl := getD_lt Ho.out.2 k
      obtain ⟨d, hd, hxd⟩ := xor255 _ hcl
      have Hst := Lib.hid (Ho.out.set Hd.out k d hd)
      generalize ds.getD k 0 = c at *
      go_wp2
      go_roundw
      case rel => exact ⟨k + 1, ds.set k d, by omega, by go_num, Lib.hid (by rw [List.length_set]; exact Hd.out), Lib.hid Hst.out.1, Lib.hid (HK.out.then_ (Kept.of_grown Hst.out.2))⟩
      case measure => simp [intOf]; omega
    · obtain rfl : k = bs.length := by omega
      obtain ⟨w4, ew4⟩ : ∃ wn : World, wn = wr := ⟨_, rfl⟩
      subst ew4
      have HR4 : Hid (Rdr w4 w2.heap.size g bs 0) := Lib.hid (Hfar.out (rowsOf Ag) w4 (fun x hx => (Hrows.out x hx).2) ((HK3.out.mono (rows' := rowsOf Ag) (fun _ hx => by cases hx)).trans HK.out (fun x hx => .inl hx)))
      have HRR4 : Hid (RRd w4 w.heap.size w2.heap.size bs 0) := Lib.hid (HRR.out.kept HK.out (fun x hx => ⟨(Hrows.out x hx).1, by have := (Hrows.out x hx).2; have := Hs2.out; omega⟩))
      have HB4 : Hid (Below w.heap.size w w4) := Lib.hid (HB3.out.trans (HK.out.below HB3.out.size (fun x hx => (Hrows.out x hx).1)))
      clear HK Ho Hd
      go_wp2
      go_loopw [46] (fun v wr => ∃ (k i : Nat), k ≤ n ∧ v = .int .i64 k ∧ Hid (Rdr wr w2.heap.size g bs i) ∧ Hid (RRd wr w.heap.size w2.heap.size bs i) ∧ Hid (Below w.heap.size w wr)) (fun v _ => n - (intOf v).toNat)
      case atStart => exact ⟨0, 0, Nat.zero_le _, rfl, HR4, HRR4, HB4⟩
      case round =>
        obtain ⟨k, i, hk, rfl, HR5, HRR5, HB5⟩ := hrel
        obtain ⟨w5, ew5⟩ : ∃ wn : World, wn = wr := ⟨_, rfl⟩
        subst ew5
        by_cases hlt : k < n
        · obtain ⟨b, off, rfl, hbl, hlk⟩ := (HL.out.below HB5.out (Nat.le_refl _)).2 (by omega)
          obtain ⟨op, most, hc0, hc1⟩ := hlk k hlt
          clear hlk
          go_wp2_with fail
          · have HR6 : Hid (Rdr (w5.alloc (.cells #[.int .i64 op, .int .i64 most] 47)) w2.heap.size g bs i) := Lib.hid (HR5.out.alloc _)
            have HRR6 : Hid (RRd (w5.alloc (.cells #[.int .i64 op, .int .i64 most] 47)) w.heap.size w2.heap.size bs i) := Lib.hid (HRR5.out.kept (rows := []) ((Kept.refl [] w5).alloc _) (fun _ hx => by cases hx))
            have HB6 : Hid (Below w.heap.size w (w5.alloc (.cells #[.int .i64 op, .int .i64 most] 47))) := Lib.hid (HB5.out.alloc HB5.out.size _)
            refine (uint_any w2.heap.size g bs i _ HR6.out (by have := HRR6.out.lt; omega)).mono ?_
            rintro e w6 ⟨rfl, hr, hk⟩
            have hg1 : w.heap.size ≤ g ∧ g < w2.heap.size := ⟨by have := Hg.out; have := Hs1.out; omega, HR5.out.ltB⟩
            have HRR7 : Hid (RRd w6 w.heap.size w2.heap.size bs i) := Lib.hid (HRR6.out.kept hk (fun x hx => by simp at hx; subst hx; exact ⟨hg1.1, by omega⟩))
            have HR7 := Lib.hid hr
            have HB7 : Hid (Below w.heap.size w w6) := Lib.hid (HB6.out.trans (hk.below HB6.out.size (fun x hx => by simp at hx; omega)))
            clear hr hk HR6 HRR6 HB6 hg1
            go_wp2_with fail
            refine (refRUint_any w.heap.size w2.heap.size bs i _ HRR7.out).mono ?_
            rintro e w7 ⟨rfl, hr, hk⟩
            have HRR8 := Lib.hid hr
            have HR8 : Hid (Rdr w7 w2.heap.size g bs (uintAt bs i).2.2) := Lib.hid (HR7.out.kept hk (fun x hx => by simp at hx; omega))
            have HB8 : Hid (Below w.heap.size w w7) := Lib.hid (HB7.out.trans (hk.below HB7.out.size (fun x hx => by simp at hx; have := Hs1.out; have := Hs2.out; omega)))
            clear hr hk HR7 HRR7 HB7
            generalize uintAt bs i = r at *
            obtain ⟨v, code, pos⟩ := r
            have HR7 : Hid (Rdr w7 w2.heap.size g bs pos) := HR8
            have HRR7 : Hid (RRd w7 w.heap.size w2.heap.size bs pos) := HRR8
            have HB7 := HB8
            clear HR8 HRR8 HB8
            go_wp2
            obtain ⟨_, _, _, hat, _, _, _⟩ := HRR7.out.cells
            have hple : (pos : Int) ≤ (bs.length : Int) := by have := HR7.out.le; omega
            have hw9 : IntKind.i64.wrap ((bs.length : Int) - (pos : Int)) = (bs.length : Int) - (pos : Int) := IntWalk.i64_in _ (by omega)
            go_quiet ((first | (go_at_call 22; exact quiet_left (at_any _ _ _ _ _ (HR7.out.drewN _))) | (go_at_call 23; exact Calls.quiet_of (left_any2 _ _ _ _ _ (HR7.out.drewN _)))))
            clear hw9
            go_wp2
            go_roundw
            case rel => exact ⟨k + 1, pos, by omega, by go_num, Lib.hid (HR7.out.drewN _), Lib.hid (HRR7.out.drewN _), Lib.hid (below_drewN HB7.out _)⟩
            case measure => simp [intOf]; omega
          · have HR6 : Hid (Rdr (w5.alloc (.cells #[.int .i64 op, .int .i64 most] 47)) w2.heap.size g bs i) := Lib.hid (HR5.out.alloc _)
            have HRR6 : Hid (RRd (w5.alloc (.cells #[.int .i64 op, .int .i64 most] 47)) w.heap.size w2.heap.size bs i) := Lib.hid (HRR5.out.kept (rows := []) ((Kept.refl [] w5).alloc _) (fun _ hx => by cases hx))
            have HB6 : Hid (Below w.heap.size w (w5.alloc (.cells #[.int .i64 op, .int .i64 most] 47))) := Lib.hid (HB5.out.alloc HB5.out.size _)
            refine (byte_any w2.heap.size g bs i _ HR6.out (by have := HRR6.out.lt; omega)).mono ?_
            rintro e w6 ⟨rfl, hr, hk⟩
            have hg1 : w.heap.size ≤ g ∧ g < w2.heap.size := ⟨by have := Hg.out; have := Hs1.out; omega, HR5.out.ltB⟩
            have HRR7 : Hid (RRd w6 w.heap.size w2.heap.size bs i) := Lib.hid (HRR6.out.kept hk (fun x hx => by simp at hx; subst hx; exact ⟨hg1.1, by omega⟩))
            have HR7 := Lib.hid hr
            have HB7 : Hid (Below w.heap.size w w6) := Lib.hid (HB6.out.trans (hk.below HB6.out.size (fun x hx => by simp at hx; omega)))
            clear hr hk HR6 HRR6 HB6 hg1
            go_wp2_with fail
            refine (refRByte_any w.heap.size w2.heap.size bs i _ HRR7.out).mono ?_
            rintro e w7 ⟨rfl, hr, hk⟩
            have HRR8 := Lib.hid hr
            have HR8 : Hid (Rdr w7 w2.heap.size g bs (byteAt bs i).2.2) := Lib.hid (HR7.out.kept hk (fun x hx => by simp at hx; omega))
            have HB8 : Hid (Below w.heap.size w w7) := Lib.hid (HB7.out.trans (hk.below HB7.out.size (fun x hx => by simp at hx; have := Hs1.out; have := Hs2.out; omega)))
            clear hr hk HR7 HRR7 HB7
            generalize byteAt bs i = r at *
            obtain ⟨v, code, pos⟩ := r
            have HR7 : Hid (Rdr w7 w2.heap.size g bs pos) := HR8
            have HRR7 : Hid (RRd w7 w.heap.size w2.heap.size bs pos) := HRR8
            have HB7 := HB8
            clear HR8 HRR8 HB8
            go_wp2
            obtain ⟨_, _, _, hat, _, _, _⟩ := HRR7.out.cells
            have hple : (pos : Int) ≤ (bs.length : Int) := by have := HR7.out.le; omega
            have hw9 : IntKind.i64.wrap ((bs.length : Int) - (pos : Int)) = (bs.length : Int) - (pos : Int) := IntWalk.i64_in _ (by omega)
            go_quiet ((first | (go_at_call 22; exact quiet_left (at_any _ _ _ _ _ (HR7.out.drewN _))) | (go_at_call 23; exact Calls.quiet_of (left_any2 _ _ _ _ _ (HR7.out.drewN _)))))
            clear hw9
            go_wp2
            go_roundw
            case rel => exact ⟨k + 1, pos, by omega, by go_num, Lib.hid (HR7.out.drewN _), Lib.hid (HRR7.out.drewN _), Lib.hid (below_drewN HB7.out _)⟩
            case measure => simp [intOf]; omega
          · have HR6 : Hid (Rdr (w5.alloc (.cells #[.int .i64 op, .int .i64 most] 47)) w2.heap.size g bs i) := Lib.hid (HR5.out.alloc _)
            have HRR6 : Hid (RRd (w5.alloc (.cells #[.int .i64 op, .int .i64 most] 47)) w.heap.size w2.heap.size bs i) := Lib.hid (HRR5.out.kept (rows := []) ((Kept.refl [] w5).alloc _) (fun _ hx => by cases hx))
            have HB6 : Hid (Below w.heap.size w (w5.alloc (.cells #[.int .i64 op, .int .i64 most] 47))) := Lib.hid (HB5.out.alloc HB5.out.size _)
            refine (rtext_any w2.heap.size g bs i most _ HR6.out (by have := HRR6.out.lt; omega)).mono ?_
            rintro e w6 ⟨rfl, hr, hk⟩
            have hg1 : w.heap.size ≤ g ∧ g < w2.heap.size := ⟨by have := Hg.out; have := Hs1.out; omega, HR5.out.ltB⟩
            have HRR7 : Hid (RRd w6 w.heap.size w2.heap.size bs i) := Lib.hid (HRR6.out.kept hk (fun x hx => by simp at hx; subst hx; exact ⟨hg1.1, by omega⟩))
            have HR7 := Lib.hid hr
            have HB7 : Hid (Below w.heap.size w w6) := Lib.hid (HB6.out.trans (hk.below HB6.out.size (fun x hx => by simp at hx; omega)))
            have hmost : w6.cell? ⟨w5.heap.size, 1, none⟩ = some (.int .i64 most) := by
              have e := hk.block w5.heap.size (by simp) (by have := HRR5.out.lt; simp; omega)
              rw [heap_alloc_new] at e
              rw [cell_of_row w6 w5.heap.size 1 _ 47 (0, 0) e]; rfl
            clear hr hk HR6 HRR6 HB6 hg1
            go_wp2_with fail
            refine (refRText_any w.heap.size w2.heap.size bs i most _ HRR7.out (by omega)).mono ?_
            rintro e w7 ⟨rfl, hr, hk⟩
            have HRR8 := Lib.hid hr
            have HR8 : Hid (Rdr w7 w2.heap.size g bs (textAt bs i most).2.2) := Lib.hid (HR7.out.kept hk (fun x hx => by simp at hx; omega))
            have HB8 : Hid (Below w.heap.size w w7) := Lib.hid (HB7.out.trans (hk.below HB7.out.size (fun x hx => by simp at hx; have := Hs1.out; have := Hs2.out; omega)))
            clear hr hk HR7 HRR7 HB7
            generalize textAt bs i most = r at *
            obtain ⟨v, code, pos⟩ := r
            have HR7 : Hid (Rdr w7 w2.heap.size g bs pos) := HR8
            have HRR7 : Hid (RRd w7 w.heap.size w2.heap.size bs pos) := HRR8
            have HB7 := HB8
            clear HR8 HRR8 HB8
            go_wp2
            obtain ⟨_, _, _, hat, _, _, _⟩ := HRR7.out.cells
            have hple : (pos : Int) ≤ (bs.length : Int) := by have := HR7.out.le; omega
            have hw9 : IntKind.i64.wrap ((bs.length : Int) - (pos : Int)) = (bs.length : Int) - (pos : Int) := IntWalk.i64_in _ (by omega)
            go_quiet ((first | (go_at_call 22; exact quiet_left (at_any _ _ _ _ _ (HR7.out.drewN _))) | (go_at_call 23; exact Calls.quiet_of (left_any2 _ _ _ _ _ (HR7.out.drewN _)))))
            clear hw9
            go_wp2
            go_roundw
            case rel => exact ⟨k + 1, pos, by omega, by go_num, Lib.hid (HR7.out.drewN _), Lib.hid (HRR7.out.drewN _), Lib.hid (below_drewN HB7.out _)⟩
            case measure => simp [intOf]; omega
          · have HR7 : Hid (Rdr (w5.alloc (.cells #[.int .i64 op, .int .i64 most] 47)) w2.heap.size g bs i) := Lib.hid (HR5.out.alloc _)
            have HRR7 : Hid (RRd (w5.alloc (.cells #[.int .i64 op, .int .i64 most] 47)) w.heap.size w2.heap.size bs i) := Lib.hid (HRR5.out.kept (rows := []) ((Kept.refl [] w5).alloc _) (fun _ hx => by cases hx))
            have HB7 : Hid (Below w.heap.size w (w5.alloc (.cells #[.int .i64 op, .int .i64 most] 47))) := Lib.hid (HB5.out.alloc HB5.out.size _)
            generalize w5.alloc (.cells #[.int .i64 op, .int .i64 most] 47) = w7 at *
            obtain ⟨pos, rfl⟩ : ∃ pos, pos = i := ⟨i, rfl⟩
            obtain ⟨_, _, _, hat, _, _, _⟩ := HRR7.out.cells
            by_cases hil : pos < bs.length
            · have HE := Lib.hid hil
              have hd1 : ((pos : Int) == (bs.length : Int)) = false := beq_eq_false_iff_ne.2 (by omega)
              have hd2 : decide ((pos : Int) < (bs.length : Int)) = true := by simp; omega
              have hd3 : (pos : Int) < (bs.length : Int) := by omega
              go_quiet ((go_at_call 21; exact Calls.quiet_of (end_lt _ _ _ _ _ (HR7.out.drewN _) HE.out)))
              clear hat
              have HR8 := Lib.hid (HR7.out.drewN nq)
              have HRR8 := Lib.hid (HRR7.out.drewN nq)
              have HB8 : Hid (Below w.heap.size w (w7.drewN nq)) := Lib.hid (below_drewN HB7.out nq)
              clear HR7 HRR7 HB7
              go_wp2
              generalize w7.drewN nq = w8 at *
              have HR7 := HR8
              have HRR7 := HRR8
              have HB7 := HB8
              obtain ⟨_, _, _, hat, _, _, _⟩ := HRR7.out.cells
              have hple : (pos : Int) ≤ (bs.length : Int) := by have := HR7.out.le; omega
              have hw9 : IntKind.i64.wrap ((bs.length : Int) - (pos : Int)) = (bs.length : Int) - (pos : Int) := IntWalk.i64_in _ (by omega)
              go_quiet ((first | (go_at_call 22; exact quiet_left (at_any _ _ _ _ _ (HR7.out.drewN _))) | (go_at_call 23; exact Calls.quiet_of (left_any2 _ _ _ _ _ (HR7.out.drewN _)))))
              clear hw9
              go_wp2
              go_roundw
              case rel => exact ⟨k + 1, pos, by omega, by go_num, Lib.hid (HR7.out.drewN _), Lib.hid (HRR7.out.drewN _), Lib.hid (below_drewN HB7.out _)⟩
              case measure => simp [intOf]; omega
            · have HE := Lib.hid hil
              have hd1 : ((pos : Int) == (bs.length : Int)) = true := beq_iff_eq.2 (by have := HR7.out.le; omega)
              have hd2 : decide ((pos : Int) < (bs.length : Int)) = false := by simp; omega
              go_quiet ((go_at_call 21; exact Calls.quiet_of (end_ge _ _ _ _ _ (HR7.out.drewN _) HE.out)))
              clear hat
              have HR8 := Lib.hid (HR7.out.drewN nq)
              have HRR8 := Lib.hid (HRR7.out.drewN nq)
              have HB8 : Hid (Below w.heap.size w (w7.drewN nq)) := Lib.hid (below_drewN HB7.out nq)
              clear HR7 HRR7 HB7
              go_wp2
              generalize w7.drewN nq = w8 at *
              have HR7 := HR8
              have HRR7 := HRR8
              have HB7 := HB8
              obtain ⟨_, _, _, hat, _, _, _⟩ := HRR7.out.cells
              have hple : (pos : Int) ≤ (bs.length : Int) := by have := HR7.out.le; omega
              have hw9 : IntKind.i64.wrap ((bs.length : Int) - (pos : Int)) = (bs.length : Int) - (pos : Int) := IntWalk.i64_in _ (by omega)
              go_quiet ((first | (go_at_call 22; exact quiet_left (at_any _ _ _ _ _ (HR7.out.drewN _))) | (go_at_call 23; exact Calls.quiet_of (left_any2 _ _ _ _ _ (HR7.out.drewN _)))))
              clear hw9
              go_wp2
              go_roundw
              case rel => exact ⟨k + 1, pos, by omega, by go_num, Lib.hid (HR7.out.drewN _), Lib.hid (HRR7.out.drewN _), Lib.hid (below_drewN HB7.out _)⟩
              case measure => simp [intOf]; omega
        · obtain rfl : k = n := by omega
          obtain ⟨_, _, _, hat, _, _, _⟩ := HRR5.out.cells
          go_wp2
          go_quiet ((go_at_call 22; exact quiet_left (at_any _ _ _ _ _ (HR5.out.drewN _))))
          go_wp2
          go_ret
          exact ⟨rfl, below_drewN HB5.out _⟩
end Go.Proofs.Ythjfogllinboaaa
