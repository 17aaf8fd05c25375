/- Contract of http.length: how long headers say that the body is, or the panic by which they are refused. -/
import Derived.Test.YtidhemjnchonaaaGreatDoorHead
import Derived.Test.YtidhemjnchonaaaGreatDoorMaps
namespace Go.Proofs.YtidhemjnchonaaaGreatDoor
open Go.RowKit Go.BL

abbrev Hdr := List UInt8 × List UInt8
/-- The value is a slice that reads as these headers. -/
def Hdrs (w : World) (v : Value) (hs : List Hdr) : Prop :=
  hs.length ≤ 4611686018427387903 ∧ ∃ A c, v = .slice A hs.length c ∧ (0 < hs.length → ∃ b off, A = some ⟨b, off, none⟩ ∧ b < w.heap.size ∧
    ∀ i (h : i < hs.length), w.cell? ⟨b, off + i * 2, none⟩ = some (.string ⟨hs[i].1.toArray⟩) ∧ w.cell? ⟨b, off + i * 2 + 1, none⟩ = some (.string ⟨hs[i].2.toArray⟩))
theorem Hdrs.below {w w' : World} {v : Value} {hs : List Hdr} {B : Nat} (h : Hdrs w v hs) (hb : Below B w w') (hB : w.heap.size ≤ B) : Hdrs w' v hs := by
  obtain ⟨h0, A, c, rfl, h1⟩ := h
  refine ⟨h0, A, c, rfl, fun hn => ?_⟩
  obtain ⟨b, off, rfl, hlt, hc⟩ := h1 hn
  exact ⟨b, off, rfl, Nat.lt_of_lt_of_le hlt hb.size, fun i hi => ⟨(hb.cell (show b < B by omega)).trans (hc i hi).1, (hb.cell (show b < B by omega)).trans (hc i hi).2⟩⟩
def cntL (hs : List Hdr) (k : List UInt8) : Nat := (hs.filter fun h => h.1 == k).length
def valL (hs : List Hdr) (k : List UInt8) : List UInt8 := ((hs.filter fun h => h.1 == k).getLast?.map (·.2)).getD []
theorem cnt_snoc (hs : List Hdr) (h : Hdr) (k : List UInt8) : cntL (hs ++ [h]) k = if k = h.1 then cntL hs k + 1 else cntL hs k := by
  unfold cntL
  rw [List.filter_append]
  by_cases e : k = h.1
  · subst e; simp
  · have : (h.1 == k) = false := beq_false_of_ne (Ne.symm e)
    simp [this, e]
theorem val_snoc (hs : List Hdr) (h : Hdr) (k : List UInt8) : valL (hs ++ [h]) k = if k = h.1 then h.2 else valL hs k := by
  unfold valL
  rw [List.filter_append]
  by_cases e : k = h.1
  · subst e; simp
  · have : (h.1 == k) = false := beq_false_of_ne (Ne.symm e)
    simp [this, e]
theorem cnt_le (hs : List Hdr) (k : List UInt8) : cntL hs k ≤ hs.length := List.length_filter_le _ _
/-- The two maps behind so many headers. -/
def Maps (w : World) (r1 r2 : Nat) (hs : List Hdr) : Prop :=
  ∃ f1 f2, MapFn.Is w r1 f1 ∧ MapFn.Is w r2 f2 ∧ (∀ k, (f1 k).getD (.int .i64 0) = .int .i64 (cntL hs k : Nat)) ∧ (∀ k, (f2 k).getD (.string ⟨#[]⟩) = .string ⟨(valL hs k).toArray⟩)
theorem Maps.of_blocks {w w' : World} {r1 r2 : Nat} {hs : List Hdr} (h : Maps w r1 r2 hs) (h1 : w'.heap[r1]? = w.heap[r1]?) (h2 : w'.heap[r2]? = w.heap[r2]?) : Maps w' r1 r2 hs := by
  obtain ⟨f1, f2, a, b, c⟩ := h
  exact ⟨f1, f2, a.of_block h1, b.of_block h2, c⟩
theorem run_zero_int : ∀ w, (zeroValue 3).run Tryz.prog w = .ok (.int .i64 0) w := Tryz.zeroValue3
theorem run_zero_str : ∀ w, (zeroValue 9).run Tryz.prog w = .ok (.string ⟨#[]⟩) w := Tryz.zeroValue9
theorem under103 : Tryz.prog.underlying 103 = some (.map 9 3) := by kernel_rfl
theorem under104 : Tryz.prog.underlying 104 = some (.map 9 9) := by kernel_rfl
theorem Maps.cnt {w : World} {r1 r2 : Nat} {hs : List Hdr} (h : Maps w r1 r2 hs) (k : List UInt8) : (Instr.lookup 103 (.map (some r1)) (.string ⟨k.toArray⟩) false).run Tryz.prog w = .ok (.int .i64 (cntL hs k : Nat)) w := by
  obtain ⟨f1, f2, a, b, c, d⟩ := h
  rw [a.look under103 Tryz.underlying9 (.int .i64 0) run_zero_int k, c]
theorem Maps.val {w : World} {r1 r2 : Nat} {hs : List Hdr} (h : Maps w r1 r2 hs) (k : List UInt8) : (Instr.lookup 104 (.map (some r2)) (.string ⟨k.toArray⟩) false).run Tryz.prog w = .ok (.string ⟨(valL hs k).toArray⟩) w := by
  obtain ⟨f1, f2, a, b, c, d⟩ := h
  rw [b.look under104 Tryz.underlying9 (.string ⟨#[]⟩) run_zero_str k, d]
/-- One header more: the two stores. -/
theorem Maps.next {w : World} {r1 r2 : Nat} {hs : List Hdr} (h : Maps w r1 r2 hs) (hne : r1 ≠ r2) (x : Hdr) :
    ∃ wa wb, (Instr.mapUpdate 103 (.map (some r1)) (.string ⟨x.1.toArray⟩) (.int .i64 ((cntL hs x.1 : Nat) + 1 : Int))).run Tryz.prog w = .ok () wa ∧
      (Instr.mapUpdate 104 (.map (some r2)) (.string ⟨x.1.toArray⟩) (.string ⟨x.2.toArray⟩)).run Tryz.prog wa = .ok () wb ∧ Maps wb r1 r2 (hs ++ [x]) ∧
      (∀ r', r' ≠ r1 → wa.heap[r']? = w.heap[r']?) ∧ (∀ r', r' ≠ r1 → r' ≠ r2 → wb.heap[r']? = w.heap[r']?) ∧ wb.os = w.os ∧ wb.tape = w.tape ∧ wb.output = w.output ∧ wb.heap.size = w.heap.size := by
  obtain ⟨f1, f2, a, b, c, d⟩ := h
  obtain ⟨wa, ha, ia, ka, o1, o2, o3, o4⟩ := a.store under103 Tryz.underlying9 x.1 (.int .i64 ((cntL hs x.1 : Nat) + 1 : Int))
  obtain ⟨wb, hb, ib, kb, p1, p2, p3, p4⟩ := (b.of_block (ka r2 (Ne.symm hne))).store under104 Tryz.underlying9 x.1 (.string ⟨x.2.toArray⟩)
  refine ⟨wa, wb, ha, hb, ⟨_, _, ia.of_block (kb r1 hne), ib, fun k => ?_, fun k => ?_⟩, ka, fun r' h1 h2 => (kb r' h2).trans (ka r' h1), p1.trans o1, p2.trans o2, p3.trans o3, p4.trans o4⟩
  · rw [cnt_snoc]
    unfold MapFn.upd
    by_cases e : k = x.1
    · subst e; simp
    · rw [if_neg e, if_neg e]; exact c k
  · rw [val_snoc]
    unfold MapFn.upd
    by_cases e : k = x.1
    · subst e; simp
    · rw [if_neg e, if_neg e]; exact d k


def teK : List UInt8 := [116, 114, 97, 110, 115, 102, 101, 114, 45, 101, 110, 99, 111, 100, 105, 110, 103]
def hostK : List UInt8 := [104, 111, 115, 116]
def clK : List UInt8 := [99, 111, 110, 116, 101, 110, 116, 45, 108, 101, 110, 103, 116, 104]
/-- What the digits come to. -/
def numL (s : List UInt8) : Nat := (Lib.decFrom 0 s).getD 0
def lengthL (hs : List Hdr) : Except Int Nat :=
  if cntL hs teK ≠ 0 then .error 501
  else if ¬ (cntL hs hostK = 1 ∧ valL hs hostK ≠ []) then .error 400
  else if cntL hs clK = 0 then .ok 0
  else if ¬ (cntL hs clK = 1 ∧ valL hs clK ≠ [] ∧ (valL hs clK).length ≤ 9 ∧ (valL hs clK).all dig = true) then .error 400
  else if 4096 < numL (valL hs clK) then .error 413
  else .ok (numL (valL hs clK))
theorem dig_val {c : UInt8} (h : dig c = true) : Lib.digitVal c = some (c.toNat - 48) ∧ c ≠ 45 ∧ c ≠ 43 := by
  simp [dig] at h
  unfold Lib.digitVal
  refine ⟨by rw [if_pos h], ?_, ?_⟩ <;> · rintro rfl; simp at h
theorem dec_all : ∀ (s : List UInt8) (acc : Nat), s.all dig = true → ∃ n, Lib.decFrom acc s = some n
  | [], acc, _ => ⟨acc, rfl⟩
  | c :: r, acc, h => by
    simp only [List.all_cons, Bool.and_eq_true] at h
    simp only [Lib.decFrom, (dig_val h.1).1]
    exact dec_all r _ h.2
theorem atoi_num {s : List UInt8} (h0 : s ≠ []) (h : s.all dig = true) : Lib.atoi s = some (numL s : Int) := by
  obtain ⟨n, hn⟩ := dec_all s 0 h
  cases s with
  | nil => exact absurd rfl h0
  | cons c r =>
    simp only [List.all_cons, Bool.and_eq_true] at h
    obtain ⟨_, h1, h2⟩ := dig_val h.1
    have e : Lib.decNat (c :: r) = some n := hn
    unfold numL Lib.atoi
    show (if (c == 45) = true then _ else if (c == 43) = true then _ else Option.map _ (Lib.decNat (c :: r))) = _
    rw [if_neg (by simpa using h1), if_neg (by simpa using h2), e, hn]
    rfl

set_option maxRecDepth 100000 in
theorem length_any (hs : List Hdr) (v : Value) (w : World) (hh : Hdrs w v hs) : Calls Tryz.prog 41 #[v] w (match lengthL hs with | .ok n => RetV (.int .i64 (n : Int)) w | .error c => PanN c w) := by
  obtain ⟨hmax, A, c, rfl, hcells⟩ := hh
  have hmm := @run_makeMap Tryz.prog
  have HM0 : Hid (Maps ((w.alloc (.map #[] 0)).alloc (.map #[] 0)) w.heap.size (w.heap.size + 1) []) := Lib.hid (by
    have h2 := MapFn.Is.new (w.alloc (.map #[] 0))
    rw [show (w.alloc (.map #[] 0)).heap.size = w.heap.size + 1 by simp] at h2
    exact ⟨_, _, (MapFn.Is.new w).alloc _, h2, fun k => rfl, fun k => rfl⟩)
  have HC := Lib.hid hcells
  obtain ⟨L, hL⟩ : ∃ L, lengthL hs = L := ⟨_, rfl⟩
  rw [hL]
  have HL := Lib.hid hL
  clear hL
  clear hcells
  go_enter Tryz.func41, Tryz.ntmps41
  go_wp2_with fail
  go_loopw [14] (fun i wr => ∃ k : Nat, k ≤ hs.length ∧ i = .int .i64 (k : Int) ∧ Hid (Maps wr w.heap.size (w.heap.size + 1) (hs.take k)) ∧ Hid (Below w.heap.size w wr) ∧ Hid (w.heap.size + 2 ≤ wr.heap.size)) (fun i _ => hs.length - (intOf i).toNat)
  case atStart => exact ⟨0, by omega, rfl, HM0, Lib.hid (((Below.refl _ _).alloc (Nat.le_refl _) _).alloc (by simp) _), Lib.hid (by simp)⟩
  case round =>
    obtain ⟨k, hk, rfl, HM, HB, HS⟩ := hrel
    by_cases hlt : k < hs.length
    · obtain ⟨b, off, rfl, hbl, hc⟩ := HC.out (by omega)
      obtain ⟨c1, c2⟩ := hc k hlt
      obtain ⟨⟨n, x⟩, hx⟩ : ∃ x, hs[k]'hlt = x := ⟨_, rfl⟩
      rw [hx] at c1 c2
      have d1 := (HB.out.cell (p := ⟨b, off + k * 2, none⟩) hbl).trans c1
      have d2 := (HB.out.cell (p := ⟨b, off + k * 2 + 1, none⟩) hbl).trans c2
      have HX := Lib.hid hx
      clear hx hc c1 c2
      have hM2 : Maps (wr.alloc (.cells #[.string ⟨n.toArray⟩, .string ⟨x.toArray⟩] 44)) w.heap.size (w.heap.size + 1) (hs.take k) :=
        HM.out.of_blocks (Below.heap_alloc _ _ _ (by have := HS.out; omega)) (Below.heap_alloc _ _ _ (by have := HS.out; omega))
      have hl := hM2.cnt n
      obtain ⟨wa, wb, ua, ub, hM3, ka, kb, o1, o2, o3, o4⟩ := hM2.next (by omega) (n, x)
      simp only at ua ub
      obtain ⟨q, hq⟩ : ∃ q : Nat, cntL (hs.take k) n = q := ⟨_, rfl⟩
      have hq2 : (q : Int) + 1 ≤ 9223372036854775807 := by
        have := cnt_le (hs.take k) n
        rw [hq, List.length_take] at this
        omega
      rw [hq] at hl ua
      have e0 : wa.cell? ⟨wr.heap.size, 0, none⟩ = some (.string ⟨n.toArray⟩) := by
        rw [World.cell?_of_block (w := wr.alloc (.cells #[.string ⟨n.toArray⟩, .string ⟨x.toArray⟩] 44)) (ka _ (by have := HS.out; show wr.heap.size ≠ _; omega)), World.cell?_alloc_at _ _ _ _ rfl]; rfl
      have e1 : wa.cell? ⟨wr.heap.size, 1, none⟩ = some (.string ⟨x.toArray⟩) := by
        rw [World.cell?_of_block (w := wr.alloc (.cells #[.string ⟨n.toArray⟩, .string ⟨x.toArray⟩] 44)) (ka _ (by have := HS.out; show wr.heap.size ≠ _; omega)), World.cell?_alloc_at _ _ _ _ rfl]; rfl
      have HN : Hid (Maps wb w.heap.size (w.heap.size + 1) (hs.take (k + 1))) := Lib.hid (by
        rw [List.take_succ_eq_append_getElem hlt, HX.out]; exact hM3)
      have HB2 : Hid (Below w.heap.size w wb) := Lib.hid (by
        have h1 : Below w.heap.size w (wr.alloc (.cells #[.string ⟨n.toArray⟩, .string ⟨x.toArray⟩] 44)) := HB.out.alloc (by have := HS.out; omega) _
        exact ⟨o1.trans h1.os, o2.trans h1.tape, o3.trans h1.output, by rw [o4]; exact h1.size, fun j hj => (kb j (by omega) (by omega)).trans (h1.block j hj)⟩)
      have HS2 : Hid (w.heap.size + 2 ≤ wb.heap.size) := Lib.hid (by rw [o4]; have := HS.out; simp; omega)
      clear hM2 hM3 ka kb o1 o2 o3 o4 hq
      go_wp2_with fail
      exact ⟨⟨k + 1, by omega, by go_num, HN, HB2, HS2⟩, by simp [intOf]; omega⟩
    · have Hall : Hid (Maps wr w.heap.size (w.heap.size + 1) hs) := Lib.hid (by have := HM.out; rwa [List.take_of_length_le (by omega)] at this)
      have t1 : (Instr.lookup 103 (.map (some (w.heap.size))) (.string ⟨#[116, 114, 97, 110, 115, 102, 101, 114, 45, 101, 110, 99, 111, 100, 105, 110, 103]⟩) false).run Tryz.prog wr = .ok (.int .i64 (cntL hs teK : Nat)) wr := Hall.out.cnt teK
      have t2 : (Instr.lookup 103 (.map (some (w.heap.size))) (.string ⟨#[104, 111, 115, 116]⟩) false).run Tryz.prog wr = .ok (.int .i64 (cntL hs hostK : Nat)) wr := Hall.out.cnt hostK
      have t3 : (Instr.lookup 104 (.map (some (w.heap.size + 1))) (.string ⟨#[104, 111, 115, 116]⟩) false).run Tryz.prog wr = .ok (.string ⟨(valL hs hostK).toArray⟩) wr := Hall.out.val hostK
      have t4 : (Instr.lookup 103 (.map (some (w.heap.size))) (.string ⟨#[99, 111, 110, 116, 101, 110, 116, 45, 108, 101, 110, 103, 116, 104]⟩) false).run Tryz.prog wr = .ok (.int .i64 (cntL hs clK : Nat)) wr := Hall.out.cnt clK
      have t5 : (Instr.lookup 104 (.map (some (w.heap.size + 1))) (.string ⟨#[99, 111, 110, 116, 101, 110, 116, 45, 108, 101, 110, 103, 116, 104]⟩) false).run Tryz.prog wr = .ok (.string ⟨(valL hs clK).toArray⟩) wr := Hall.out.val clK
      have hat : valL hs clK ≠ [] → (valL hs clK).all dig = true → Lib.atoi (valL hs clK) = some (numL (valL hs clK) : Int) := atoi_num
      have hL2 := HL.out
      clear HL
      unfold lengthL at hL2
      generalize cntL hs teK = n1 at *
      generalize cntL hs hostK = n2 at *
      generalize cntL hs clK = n3 at *
      generalize valL hs hostK = v2 at *
      generalize valL hs clK = v3 at *
      by_cases e1 : n1 = 0
      case neg =>
        have f1 : ((n1 : Int) == 0) = false := beq_false_of_ne (by omega)
        rw [if_pos e1] at hL2
        subst hL2
        clear e1
        go_wp2_with (go_at_call 36; refine (check_any _ _ _).mono ?_; rintro e w' ⟨rfl, rfl⟩; dsimp only [ckE])
        exact ⟨rfl, rfl, HB.out⟩
      subst e1
      rw [if_neg (by simp)] at hL2
      by_cases e2 : n2 = 1
      case neg =>
        have f2 : ((n2 : Int) == 1) = false := beq_false_of_ne (by omega)
        rw [if_pos (by simp [e2])] at hL2
        subst hL2
        clear e2
        go_wp2_with (first | (go_at_call 36; refine (check_any _ _ _).mono ?_; rintro e w' ⟨rfl, rfl⟩; dsimp only [ckE]))
        exact ⟨rfl, rfl, HB.out⟩
      subst e2
      cases v2 with
      | nil =>
        rw [if_pos (by simp)] at hL2
        subst hL2
        go_wp2_with (first | (go_at_call 36; refine (check_any _ _ _).mono ?_; rintro e w' ⟨rfl, rfl⟩; dsimp only [ckE]))
        exact ⟨rfl, rfl, HB.out⟩
      | cons a2 r2 =>
      rw [if_neg (by simp)] at hL2
      by_cases e3 : n3 = 0
      case pos =>
        subst e3
        rw [if_pos rfl] at hL2
        subst hL2
        go_wp2_with (first | (go_at_call 36; refine (check_any _ _ _).mono ?_; rintro e w' ⟨rfl, rfl⟩; dsimp only [ckE]))
        go_ret
        exact ⟨rfl, HB.out⟩
      have f3 : ((n3 : Int) == 0) = false := beq_false_of_ne (by omega)
      rw [if_neg e3] at hL2
      by_cases e4 : n3 = 1
      case neg =>
        have f4 : ((n3 : Int) == 1) = false := beq_false_of_ne (by omega)
        rw [if_pos (by simp [e4])] at hL2
        subst hL2
        clear e3 e4
        go_wp2_with (first | (go_at_call 36; refine (check_any _ _ _).mono ?_; rintro e w' ⟨rfl, rfl⟩; dsimp only [ckE]))
        exact ⟨rfl, rfl, HB.out⟩
      subst e4
      clear e3 f3
      cases v3 with
      | nil =>
        rw [if_pos (by simp)] at hL2
        subst hL2
        go_wp2_with (first | (go_at_call 36; refine (check_any _ _ _).mono ?_; rintro e w' ⟨rfl, rfl⟩; dsimp only [ckE]))
        exact ⟨rfl, rfl, HB.out⟩
      | cons a3 r3 =>
      by_cases e5 : r3.length + 1 ≤ 9
      case neg =>
        have f5 : ¬ (r3.length : Int) + 1 ≤ 9 := by omega
        rw [if_pos (by simp; omega)] at hL2
        subst hL2
        clear e5
        go_wp2_with (first | (go_at_call 36; refine (check_any _ _ _).mono ?_; rintro e w' ⟨rfl, rfl⟩; dsimp only [ckE]))
        exact ⟨rfl, rfl, HB.out⟩
      have f5 : (r3.length : Int) + 1 ≤ 9 := by omega
      have ha := all_any 70 dig digit_any (fun _ _ => rfl) (a3 :: r3) (by simp; omega)
      obtain ⟨u, hu⟩ : ∃ u, (a3 :: r3).all dig = u := ⟨_, rfl⟩
      rw [hu] at ha
      cases u
      case false =>
        rw [if_pos (by rw [hu]; simp)] at hL2
        subst hL2
        clear hu hat e5
        go_wp2_with (first | (go_at_call 67; refine (ha _).mono ?_; rintro e w' ⟨rfl, rfl⟩) | (go_at_call 36; refine (check_any _ _ _).mono ?_; rintro e w' ⟨rfl, rfl⟩; dsimp only [ckE]))
        exact ⟨rfl, rfl, HB.out⟩
      rw [if_neg (by rw [hu]; simp; omega)] at hL2
      have hat2 := hat (by simp) hu
      have hato : ∀ w, Calls Tryz.prog 57 #[.string ⟨(a3 :: r3).toArray⟩] w (RetV (.tuple #[.int .i64 (numL (a3 :: r3) : Int), .nilIface]) w) := fun w => by
        refine (Tryz.strconv_Atoi ⟨(a3 :: r3).toArray⟩ _ (show (a3 :: r3).length ≤ 18 by simp; omega) hat2 w).mono ?_
        rintro e w' ⟨rfl, t, rfl⟩
        exact ⟨rfl, Lib.bytesWorld_below _ _ _⟩
      clear hu hat hat2 e5
      generalize numL (a3 :: r3) = N at *
      by_cases e6 : 4096 < N
      case pos =>
        have f6 : decide ((N : Int) ≤ 4096) = false := decide_eq_false (by omega)
        rw [if_pos e6] at hL2
        subst hL2
        clear e6
        go_wp2_with (first | (go_at_call 57; refine (hato _).mono ?_; rintro e w1 ⟨rfl, hb⟩; have H1 := Lib.hid (HB.out.trans (hb.mono (by have := HS.out; omega))); clear hb) | (go_at_call 67; refine (ha _).mono ?_; rintro e w' ⟨rfl, rfl⟩) | (go_at_call 36; refine (check_any _ _ _).mono ?_; rintro e w' ⟨rfl, rfl⟩; dsimp only [ckE]))
        exact ⟨rfl, rfl, H1.out⟩
      have f6 : decide ((N : Int) ≤ 4096) = true := decide_eq_true (by omega)
      rw [if_neg e6] at hL2
      subst hL2
      clear e6
      go_wp2_with (first | (go_at_call 57; refine (hato _).mono ?_; rintro e w1 ⟨rfl, hb⟩; have H1 := Lib.hid (HB.out.trans (hb.mono (by have := HS.out; omega))); clear hb) | (go_at_call 67; refine (ha _).mono ?_; rintro e w' ⟨rfl, rfl⟩) | (go_at_call 36; refine (check_any _ _ _).mono ?_; rintro e w' ⟨rfl, rfl⟩; dsimp only [ckE]))
      go_ret
      exact ⟨rfl, H1.out⟩
end Go.Proofs.YtidhemjnchonaaaGreatDoor
