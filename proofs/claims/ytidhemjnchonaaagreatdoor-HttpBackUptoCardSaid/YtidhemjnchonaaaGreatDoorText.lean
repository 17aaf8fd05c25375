/- Contracts of http's functions over texts: small, token, value; and rows of bytes that a call has made. -/
import Derived.Test.YtidhemjnchonaaaGreatDoorBase
import Derived.Test.YtidhemjnchonaaaGreatDoorBL
import Derived.Test.YtidhemjnchonaaaGreatDoorShelf
import Derived.Lib.ConvBytes
namespace Go.Proofs.YtidhemjnchonaaaGreatDoor
open Go.RowKit Go.BL

/-- A block whose first cells hold these bytes, none of them frozen. -/
def Row (w : World) (b : Nat) (xs : List UInt8) : Prop :=
  ∀ j (h : j < xs.length), w.cell? ⟨b, j, none⟩ = some (.int .u8 (xs[j].toNat : Int)) ∧ w.frozen? ⟨b, j, none⟩ = false
theorem Row.set {w : World} {b : Nat} {xs : List UInt8} (h : Row w b xs) (k : Nat) (hk : k < xs.length) (y : UInt8) : Row (w.setCell ⟨b, k, none⟩ (.int .u8 (y.toNat : Int))) b (xs.set k y) := by
  intro j hj
  rw [List.length_set] at hj
  rw [World.frozen?_setCell]
  refine ⟨?_, (h j hj).2⟩
  by_cases e : k = j
  · subst e
    rw [World.cell?_setCell_same _ _ _ (h k hk).1]
    simp
  · rw [World.cell?_setCell_other _ _ _ _ (by intro h'; injection h' with _ h'; exact e h'), (h j hj).1]
    simp [List.getElem_set_ne e]
theorem conv_in (s : List UInt8) (w : World) : ∃ w1 c, (convert 9 28 (.string ⟨s.toArray⟩)).run Tryz.prog w = .ok (.slice (some ⟨w.heap.size, 0, none⟩) s.length c) w1 ∧ Row w1 w.heap.size s ∧ Below w.heap.size w w1 ∧ w.heap.size < w1.heap.size := by
  refine ⟨Lib.bytesWorld w 5 ⟨s.toArray⟩, _, Lib.run_convert_string_bytes w 9 28 5 ⟨s.toArray⟩ Tryz.underlying9 Tryz.underlying28 Tryz.underlying5, fun j hj => ⟨?_, ?_⟩, Lib.bytesWorld_below w 5 _, by rw [Lib.bytesWorld_size]; omega⟩
  · rw [Lib.bytesWorld_cell w 5 ⟨s.toArray⟩ j hj]
    simp [List.getD, hj]
  · unfold World.frozen?
    rw [Lib.bytesWorld_at_new]
    have : s.length ≤ (Lib.bytesCells w 5 ⟨s.toArray⟩).size := by simp [Lib.bytesCells]
    simp
    omega
theorem Row.out {w : World} {b : Nat} {xs : List UInt8} (h : Row w b xs) (n c : Nat) (hn : n = xs.length) : (convert 28 9 (.slice (some ⟨b, 0, none⟩) n c)).run Tryz.prog w = .ok (.string ⟨xs.toArray⟩) w := by
  subst hn
  exact run_convert_bytes_back (P := Tryz.prog) _ 28 9 5 ⟨b, 0, none⟩ c xs Tryz.underlying28 Tryz.underlying5 Tryz.underlying9 (fun j hj => by rw [add_none, Nat.zero_add]; exact (h j hj).1)

def low (c : UInt8) : UInt8 := if cap c then c + 32 else c
def smallL (s : List UInt8) : List UInt8 := s.map low
theorem low_cap {c : UInt8} (h : cap c = true) : IntKind.u8.wrap ((c.toNat : Int) + 32) = ((low c).toNat : Int) := by
  simp [cap] at h
  have e : low c = c + 32 := by unfold low; rw [if_pos (by simp [cap]; omega)]
  rw [e, UInt8.toNat_add]
  simp [IntKind.wrap, IntKind.signed, IntKind.bits]
theorem low_not {c : UInt8} (h : cap c = false) : low c = c := by unfold low; rw [h]; rfl
/-- So far in small letters. -/
def upto (s : List UInt8) (k : Nat) : List UInt8 := (s.take k).map low ++ s.drop k
theorem upto_len (s : List UInt8) (k : Nat) (hk : k ≤ s.length) : (upto s k).length = s.length := by simp [upto]; omega
theorem upto_get (s : List UInt8) (k : Nat) (hk : k < s.length) (h : k < (upto s k).length) : (upto s k)[k] = s[k] := by
  simp [upto, Nat.min_eq_left (Nat.le_of_lt hk)]
theorem upto_next (s : List UInt8) (k : Nat) (hk : k < s.length) : (upto s k).set k (low s[k]) = upto s (k + 1) := by
  have e1 : ((s.take k).map low).length = k := by simp; omega
  unfold upto
  rw [List.set_append, if_neg (by omega), e1, Nat.sub_self, List.drop_eq_getElem_cons hk, List.set_cons_zero, List.take_succ_eq_append_getElem hk]
  rw [List.map_append, List.append_assoc]; rfl
theorem upto_end (s : List UInt8) (k : Nat) (hk : s.length ≤ k) : upto s k = smallL s := by
  unfold upto smallL
  rw [List.take_of_length_le hk, List.drop_of_length_le hk, List.append_nil]

set_option maxRecDepth 100000 in
theorem small_any (s : List UInt8) (hs : s.length ≤ 140737488355328) (w : World) : Calls Tryz.prog 32 #[.string ⟨s.toArray⟩] w (RetV (.string ⟨(smallL s).toArray⟩) w) := by
  obtain ⟨w1, c, hc, hr, hb, hsz⟩ := conv_in s w
  obtain ⟨b, hb0⟩ : ∃ b, w.heap.size = b := ⟨_, rfl⟩
  rw [hb0] at hc hr hb hsz
  have H0 := Lib.hid hb0
  have HR := Lib.hid hr
  have HB := Lib.hid hb
  have HS := Lib.hid hsz
  clear hb0 hr hb hsz
  go_enter Tryz.func32, Tryz.ntmps32
  go_wp2_with fail
  go_loopw [10] (fun i wr => ∃ k : Nat, k ≤ s.length ∧ i = .int .i64 (k : Int) ∧ Hid (Row wr b (upto s k)) ∧ Hid (Below b w wr) ∧ Hid (b < wr.heap.size)) (fun i _ => s.length - (intOf i).toNat)
  case atStart => exact ⟨0, by omega, rfl, HR, HB, HS⟩
  case round =>
    obtain ⟨k, hk, rfl, HRk, HBk, HSk⟩ := hrel
    have Hlen := Lib.hid (upto_len s k hk)
    by_cases hlt : k < s.length
    · obtain ⟨x, hx⟩ : ∃ x, s[k]'hlt = x := ⟨_, rfl⟩
      have h1 := HRk.out k (by rw [Hlen.out]; exact hlt)
      rw [upto_get s k hlt (by rw [Hlen.out]; exact hlt), hx] at h1
      obtain ⟨hc1, hf1⟩ := h1
      obtain ⟨u, hu⟩ : ∃ u, cap x = u := ⟨_, rfl⟩
      have hcap := capital_any x
      rw [hu] at hcap
      have Hx := Lib.hid hx
      cases u
      · have Hn : Hid (upto s k = upto s (k + 1)) := Lib.hid (by
          rw [← upto_next s k hlt, Hx.out, low_not hu]
          have : x = (upto s k)[k]'(by rw [Hlen.out]; exact hlt) := by rw [upto_get s k hlt, Hx.out]
          conv => rhs; rw [this]
          exact (List.set_getElem_self _).symm)
        clear hu hx
        go_wp2_with (go_at_call 59; refine (hcap _).mono ?_; rintro e w' ⟨rfl, rfl⟩)
        exact ⟨⟨k + 1, by omega, by go_num, by rw [← Hn.out]; exact HRk, HBk, HSk⟩, by simp [intOf]; omega⟩
      · have hw := low_cap hu
        obtain ⟨y, hy⟩ : ∃ y, low x = y := ⟨_, rfl⟩
        rw [hy] at hw
        have Hn : Hid ((upto s k).set k y = upto s (k + 1)) := Lib.hid (by rw [← upto_next s k hlt, Hx.out, hy])
        clear hu hx hy
        go_wp2_with (go_at_call 59; refine (hcap _).mono ?_; rintro e w' ⟨rfl, rfl⟩)
        exact ⟨⟨k + 1, by omega, by go_num, by rw [← Hn.out]; exact Lib.hid (HRk.out.set k (by rw [Hlen.out]; exact hlt) y), Lib.hid (HBk.out.setCell (Nat.le_refl _) _), Lib.hid (by simpa using HSk.out)⟩, by simp [intOf]; omega⟩
    · have hout := HRk.out.out s.length c Hlen.out.symm
      rw [upto_end s k (by omega)] at hout
      go_wp2_with fail
      go_ret
      exact ⟨rfl, by rw [H0.out]; exact HBk.out⟩

theorem Below.eq {W w : World} : W = w → Below W.heap.size W w := fun h => h ▸ Below.refl _ _
theorem chain {W w w' : World} (h : Below W.heap.size W w) (k : Below w.heap.size w w') : Below W.heap.size W w' := h.trans (k.mono h.size)
def marks : List UInt8 := [33, 35, 36, 37, 38, 39, 42, 43, 45, 46, 94, 95, 96, 124, 126]
def tokb (c : UInt8) : Bool := dig c || cap c || (decide (97 ≤ c.toNat) && decide (c.toNat ≤ 122)) || decide (0 ≤ Lib.indexByte marks c)
def tokenL (s : List UInt8) : Bool := decide (s ≠ []) && decide (s.length ≤ 64) && s.all tokb
theorem mark_any (c : UInt8) (w : World) : Calls Tryz.prog 102 #[.string ⟨#[33, 35, 36, 37, 38, 39, 42, 43, 45, 46, 94, 95, 96, 124, 126]⟩, .int .u8 (c.toNat : Int)] w fun e w' => e = .returned (.int .i64 (Lib.indexByte marks c)) ∧ w = w' := by
  have h := Tryz.strings_IndexByte ⟨#[33, 35, 36, 37, 38, 39, 42, 43, 45, 46, 94, 95, 96, 124, 126]⟩ (c.toNat : Int) w
  have e : ((c.toNat : Int)).toNat.toUInt8 = c := by simp
  rw [e] at h
  exact h.mono fun _ _ ⟨a, b⟩ => ⟨a, b.symm⟩
theorem tokbyte_any (c : UInt8) (w : World) : Calls Tryz.prog 101 #[.int .u8 (c.toNat : Int)] w fun e w' => e = .returned (.bool (tokb c)) ∧ w = w' := by
  obtain ⟨d, hd⟩ : ∃ d, dig c = d := ⟨_, rfl⟩
  obtain ⟨u, hu⟩ : ∃ u, cap c = u := ⟨_, rfl⟩
  obtain ⟨i, hi⟩ : ∃ i, Lib.indexByte marks c = i := ⟨_, rfl⟩
  have h1 := digit_any c
  have h2 := capital_any c
  have h3 := mark_any c
  rw [hd] at h1
  rw [hu] at h2
  rw [hi] at h3
  have Hd := Lib.hid hd
  have Hu := Lib.hid hu
  have Hi := Lib.hid hi
  clear hd hu hi
  cases d <;> cases u <;>
  · go_enter Tryz.func101, Tryz.ntmps101
    go_wp2_with (first | (go_at_call 70; refine (h1 _).mono ?_; rintro e w' ⟨rfl, rfl⟩) | (go_at_call 59; refine (h2 _).mono ?_; rintro e w' ⟨rfl, rfl⟩) | (go_at_call 102; refine (h3 _).mono ?_; rintro e w' ⟨rfl, rfl⟩))
    all_goals go_ret
    all_goals (refine ⟨congrArg (fun b => Ending.returned (Value.bool b)) ?_, rfl⟩; rw [Bool.eq_iff_iff]; simp [tokb, Hd.out, Hu.out, Hi.out]; try omega)

set_option maxRecDepth 100000 in
theorem token_any (s : List UInt8) (hs : s.length ≤ 9223372036854775807) (w : World) : Calls Tryz.prog 73 #[.string ⟨s.toArray⟩] w fun e w' => e = .returned (.bool (tokenL s)) ∧ w = w' := by
  obtain ⟨r, hr⟩ : ∃ r, s.all tokb = r := ⟨_, rfl⟩
  have ha := all_any 101 tokb tokbyte_any (fun _ _ => rfl) s hs
  rw [hr] at ha
  have Hr := Lib.hid hr
  clear hr
  cases s with
  | nil =>
    go_enter Tryz.func73, Tryz.ntmps73
    go_wp2_with fail
    go_ret
    exact ⟨rfl, rfl⟩
  | cons c t =>
    by_cases hm : (t.length : Int) + 1 ≤ 64
    · have hf : Hid (tokenL (c :: t) = r) := Lib.hid (by unfold tokenL; rw [Hr.out]; simp; omega)
      cases r <;>
      · go_enter Tryz.func73, Tryz.ntmps73
        go_wp2_with (go_at_call 67; refine (ha _).mono ?_; rintro e w' ⟨rfl, rfl⟩)
        go_ret
        exact ⟨by rw [hf.out]; rfl, rfl⟩
    · have hf : Hid (tokenL (c :: t) = false) := Lib.hid (by unfold tokenL; simp; omega)
      go_enter Tryz.func73, Tryz.ntmps73
      go_wp2_with fail
      go_ret
      exact ⟨by rw [hf.out]; rfl, rfl⟩

def blanks : List UInt8 := [32, 9]
def trimL (s : List UInt8) : List UInt8 := Lib.trimS s blanks
def valueL (s : List UInt8) : Bool := decide (s.length ≤ 32768) && decide (trimL s = s) && s.all vab
theorem trim_any (l : List UInt8) (hl : l.length ≤ 9223372036854775807) (w : World) :
    Calls Tryz.prog 72 #[.string ⟨l.toArray⟩, .string ⟨#[32, 9]⟩] w (RetV (.string ⟨(trimL l).toArray⟩) w) :=
  Any.strings_Trim_laid Tryz.lays160 (by kernel_rfl) ⟨l.toArray⟩ ⟨#[32, 9]⟩ w hl (by decide) (ascii_of_all (by decide))
theorem str_ne {a b : List UInt8} (h : ¬ a = b) : ((⟨a.toArray⟩ : ByteArray) == ⟨b.toArray⟩) = false := by
  cases e : ((⟨a.toArray⟩ : ByteArray) == ⟨b.toArray⟩) with
  | false => rfl
  | true =>
    have := (MapKept.bytes_beq _ _).1 e
    injection this with this
    exact absurd (by simpa using this) h
theorem str_eq (a : List UInt8) : ((⟨a.toArray⟩ : ByteArray) == ⟨a.toArray⟩) = true := (MapKept.bytes_beq _ _).2 rfl
set_option maxRecDepth 100000 in
theorem value_any (s : List UInt8) (hs : s.length ≤ 9223372036854775807) (w : World) : Calls Tryz.prog 74 #[.string ⟨s.toArray⟩] w (RetV (.bool (valueL s)) w) := by
  obtain ⟨r, hr⟩ : ∃ r, s.all vab = r := ⟨_, rfl⟩
  have ha := all_any 103 vab valuebyte_any (fun _ _ => rfl) s hs
  have ht := trim_any s hs
  rw [hr] at ha
  have Hr := Lib.hid hr
  clear hr
  by_cases hm : 32768 < s.length
  · have hf : Hid (valueL s = false) := Lib.hid (by unfold valueL; simp; omega)
    go_enter Tryz.func74, Tryz.ntmps74
    go_wp2_with fail
    go_ret
    exact ⟨by rw [hf.out]; rfl, Below.refl _ _⟩
  · have hm2 : ¬ (32768 : Int) < s.length := by omega
    obtain ⟨u, hu⟩ : ∃ u, trimL s = u := ⟨_, rfl⟩
    rw [hu] at ht
    have Hu := Lib.hid hu
    clear hu
    by_cases he : u = s
    · subst he
      have hf : Hid (valueL u = r) := Lib.hid (by unfold valueL; rw [Hr.out, Hu.out]; simp; omega)
      go_enter Tryz.func74, Tryz.ntmps74
      go_wp2_with (first | (go_at_call 72; refine (ht _).mono ?_; rintro e w' ⟨rfl, hb⟩; have HB := Lib.hid hb; clear hb) | (go_at_call 67; refine (ha _).mono ?_; rintro e w' ⟨rfl, rfl⟩))
      go_ret
      exact ⟨by rw [hf.out]; rfl, HB.out⟩
    · have hf : Hid (valueL s = false) := Lib.hid (by unfold valueL; rw [Hu.out]; simp [he])
      have hn : (u == s) = false := beq_false_of_ne he
      clear he
      go_enter Tryz.func74, Tryz.ntmps74
      go_wp2_with (first | (go_at_call 72; refine (ht _).mono ?_; rintro e w' ⟨rfl, hb⟩; have HB := Lib.hid hb; clear hb) | (go_at_call 67; refine (ha _).mono ?_; rintro e w' ⟨rfl, rfl⟩))
      go_ret
      exact ⟨by rw [hf.out]; rfl, HB.out⟩
end Go.Proofs.YtidhemjnchonaaaGreatDoor
