/- The closure of Unframe. -/
import Derived.Test.YthjfogllinboaaaReads2
import Derived.Test.YthjfogllinboaaaFrame
import Derived.Deep.RegionWith
namespace Go.Wr
/-- The number of the first k bytes, the lowest first. -/
def pv (l : List Nat) : Nat → Nat
  | 0 => 0
  | k + 1 => pv l k + l.getD k 0 * 256 ^ k
theorem pv_four (l : List Nat) : pv l 4 = val4 l := by simp [pv, val4]
theorem pv_lt (l : List Nat) (h : ∀ i, l.getD i 0 < 256) : ∀ k, pv l k < 256 ^ k
  | 0 => by simp [pv]
  | k + 1 => by
    have h1 := pv_lt l h k
    have h2 := h k
    have h3 : l.getD k 0 * 256 ^ k ≤ 255 * 256 ^ k := Nat.mul_le_mul_right _ (by omega)
    rw [pv, Nat.pow_succ]
    omega
end Go.Wr
namespace Go.Proofs.Ythjfogllinboaaa
open Go.RowKit Go.BL Go.Wr
theorem cast_pow8 (k : Nat) : ((2 : Int) ^ (8 * k)) = ((256 ^ k : Nat) : Int) := by
  have : (2 : Nat) ^ (8 * k) = 256 ^ k := by rw [Nat.pow_mul]
  rw [← this]; simp
theorem byte_shl {k x : Nat} (hk : k < 4) (hx : x < 256) : wrap64 ((x : Int) * 2 ^ (8 * k)) = ((x * 256 ^ k : Nat) : Int) ∧ x * 256 ^ k < 4294967296 := by
  have h3 : 256 ^ k ≤ 256 ^ 3 := Nat.pow_le_pow_right (by decide) (by omega)
  have h4 : x * 256 ^ k ≤ 255 * 256 ^ 3 := Nat.mul_le_mul (by omega) h3
  rw [cast_pow8, ← Int.natCast_mul]
  generalize x * 256 ^ k = D at *
  clear h3
  refine ⟨IntWalk.wrap64_in _ (by omega), by omega⟩
theorem or_byte {m k x : Nat} (hm : m < 256 ^ k) (hk : k < 4) (hx : x < 256) :
    bits .or .i64 (m : Int) (wrap64 ((x : Int) * 2 ^ (8 * k))) = ((m + x * 256 ^ k : Nat) : Int) := by
  obtain ⟨h1, h2⟩ := byte_shl hk hx
  have h4 : m < 4294967296 := Nat.lt_of_lt_of_le hm (Nat.le_trans (Nat.pow_le_pow_right (by decide) (show k ≤ 3 by omega)) (by decide))
  rw [h1, i64_or_nat m _ (by omega) (by omega)]
  congr 1
  have hp : (2 : Nat) ^ (8 * k) = 256 ^ k := by rw [Nat.pow_mul]
  rw [Nat.or_comm, ← hp, Nat.mul_comm, ← Nat.two_pow_add_eq_or_of_lt (by rw [hp]; exact hm)]
  omega
/-- What Unframe's closure leaves. -/
def RUf (g : Nat) (bs : List Nat) (pb sb : Nat) (w0 : World) (c : Nat) (w1 : World) : Prop :=
  c = (unframe bs).2.2 ∧ (c = 0 → ∃ A1 c1 A2 c2, Box w1 pb (.slice A1 (unframe bs).1.length c1) 22 ∧ Own w1 w0.heap.size (.slice A1 (unframe bs).1.length c1) (unframe bs).1 ∧ Box w1 sb (.slice A2 (unframe bs).2.1.length c2) 22 ∧ Own w1 w0.heap.size (.slice A2 (unframe bs).2.1.length c2) (unframe bs).2.1) ∧ Kept [g, pb, sb] w0 w1
theorem closeU {g n r pb sb c1 c4 B' : Nat} {A1 A4 : Option Addr} {bs PP RR : List Nat} {w0 w' : World} (hU : unframe bs = (PP, RR, 0)) (hl1 : PP.length = n) (hl2 : RR.length = r)
    (hp : Box w' pb (.slice A1 n c1) 22) (ho : Own w' w0.heap.size (.slice A1 n c1) PP) (hs : Box w' sb (.slice A4 r c4) 22) (ho2 : Own w' B' (.slice A4 r c4) RR) (hB : w0.heap.size ≤ B') (hk : Kept [g, pb, sb] w0 w') :
    Out (RUf g bs pb sb w0) (.returned (.tuple #[])) w' := by
  subst hl1 hl2
  refine .inl ⟨rfl, by rw [hU], fun _ => ⟨A1, c1, A4, c4, ?_⟩, hk⟩
  rw [hU]
  exact ⟨hp, ho, hs, ho2.base hB⟩
set_option maxRecDepth 100000 in
set_option maxHeartbeats 1000000 in
theorem unframeC (B g : Nat) (bs : List Nat) (rb pb sb eb : Nat) (w : World) (h : Rdr w B g bs 0) (hr : Box w rb (.pointer (some ⟨g, 0, none⟩)) 29) (hp : Box w pb (.slice none 0 0) 22) (hs : Box w sb (.slice none 0 0) 22) (he : Box w eb (.int .i64 0) 33)
    (h0 : B ≤ rb) (h1 : B ≤ pb) (h2 : B ≤ sb) (h3 : B ≤ eb) (hps : pb ≠ sb) :
    Calls Try.prog 42 #[.pointer (some ⟨rb, 0, none⟩), .pointer (some ⟨pb, 0, none⟩), .pointer (some ⟨sb, 0, none⟩)] w fun e w' => Box w' eb (.int .i64 0) 33 ∧ Out (RUf g bs pb sb w) e w' := by
  have hrc := hr.cell
  have hgb := h.ltB
  have hn1 : eb ≠ pb := by rintro rfl; unfold Box at hp he; rw [hp] at he; injection he with he; injection he with _ he; cases he
  have hn2 : eb ≠ sb := by rintro rfl; unfold Box at hs he; rw [hs] at he; injection he with he; injection he with _ he; cases he
  have hn3 : rb ≠ pb := by rintro rfl; unfold Box at hp hr; rw [hp] at hr; injection hr with hr; injection hr with _ hr; cases hr
  have hn4 : rb ≠ sb := by rintro rfl; unfold Box at hs hr; rw [hs] at hr; injection hr with hr; injection hr with _ hr; cases hr
  have hlen := h.len
  have H := Lib.hid h
  have Hr := Lib.hid hr
  have Hp := Lib.hid hp
  have Hs := Lib.hid hs
  have He := Lib.hid he
  have Hn := Lib.hid (show eb ≠ pb ∧ eb ≠ sb ∧ rb ≠ pb ∧ rb ≠ sb ∧ pb ≠ sb from ⟨hn1, hn2, hn3, hn4, hps⟩)
  clear h hr hp hs he hn1 hn2 hn3 hn4 hps
  go_enter Try.func42, Try.ntmps42
  go_wp2_with fail
  refine (number_any B g bs 0 _ H.out).mono ?_
  rw [List.drop_zero]
  cases hnum : num bs 0 0 with
  | bad c =>
    rintro e w1 ⟨rfl, hR, hK⟩
    have HR := Lib.hid hR
    have HK := Lib.hid hK
    have Hc := Lib.hid (num_bad _ _ _ _ hnum)
    have HU : Hid (unframe bs = ([], [], c)) := Lib.hid (by unfold unframe; rw [hnum])
    clear hR hK hnum
    go_wp2
    exact ⟨rfl, He.out.kept HK.out (by simp; omega), .inr ⟨c, Hc.out, rfl, by rw [HU.out], fun h => absurd h Hc.out, HK.out.mono (fun x hx => .inl (by simp at hx; simp [hx]))⟩⟩
  | got n k =>
    rintro e w1 ⟨rfl, hR, hK⟩
    rw [Nat.zero_add] at hR
    have HR := Lib.hid hR
    have HK := Lib.hid hK
    have Hnum := Lib.hid hnum
    clear hR hK hnum
    have hkl := HR.out.le
    have He1 := Lib.hid (He.out.kept HK.out (by simp; omega))
    have hrc1 := (Hr.out.kept HK.out (by simp; omega)).cell
    clear hrc
    by_cases hlong : 65536 < n
    · have HU : Hid (unframe bs = ([], [], 4)) := Lib.hid (by unfold unframe; rw [Hnum.out]; exact if_pos hlong)
      go_wp2_with fail
      refine (cut_any 4 _).mono ?_
      rintro e w' ⟨rfl, rfl⟩
      go_wp2
      exact ⟨rfl, He1.out, .inr ⟨4, by decide, rfl, by rw [HU.out], fun h => absurd h (by decide), HK.out.mono (fun x hx => .inl (by simp at hx; simp [hx]))⟩⟩
    · go_wp2_with fail
      refine (left_any B g bs k _ HR.out).mono ?_
      rintro e w' ⟨rfl, N, rfl⟩
      by_cases hshort : bs.length - k < n + 4
      · have HU : Hid (unframe bs = ([], [], 2)) := Lib.hid (by unfold unframe; rw [Hnum.out]; show (if _ then _ else _) = _; rw [if_neg hlong, if_pos hshort])
        have hsh : ((bs.length - k : Nat) : Int) < (n : Int) + 4 := by omega
        go_wp2_with fail
        refine (cut_any 2 _).mono ?_
        rintro e w' ⟨rfl, rfl⟩
        go_wp2
        exact ⟨rfl, He1.out.drewN N, .inr ⟨2, by decide, rfl, by rw [HU.out], fun h => absurd h (by decide), (HK.out.mono (fun x hx => .inl (by simp at hx; simp [hx]))).drewN N⟩⟩
      · have hsh : ¬ ((bs.length - k : Nat) : Int) < (n : Int) + 4 := by omega
        go_wp2_with fail
        refine (takeZ B g bs k n n rfl _ (HR.out.drewN N) (by omega)).mono ?_
        have HU : Hid (unframe bs = if val4 ((bs.drop (k + n)).take 4) ≠ sum ((bs.drop k).take n) then ([], [], 11) else ((bs.drop k).take n, bs.drop (k + n + 4), 0)) := Lib.hid (by unfold unframe; rw [Hnum.out]; show (if _ then _ else _) = _; rw [if_neg hlong, if_neg hshort])
        have HPl : Hid (((bs.drop k).take n).length = n) := Lib.hid (by rw [List.length_take, List.length_drop]; omega)
        have HTl : Hid (((bs.drop (k + n)).take 4).length = 4) := Lib.hid (by rw [List.length_take, List.length_drop]; omega)
        have HLl : Hid ((bs.drop (k + n + 4)).length = bs.length - (k + n + 4)) := Lib.hid (by rw [List.length_drop])
        have HL3 : Hid ((bs.drop (k + n + 4)).take (bs.length - (k + n + 4)) = bs.drop (k + n + 4)) := Lib.hid (List.take_of_length_le (by rw [List.length_drop]; exact Nat.le_refl _))
        have htot : k + n + 4 ≤ bs.length := by omega
        clear hshort hsh
        obtain ⟨PP, hPP⟩ : ∃ PP, (bs.drop k).take n = PP := ⟨_, rfl⟩
        rw [hPP] at HU HPl ⊢
        clear hPP
        rintro e w2 ⟨A1, c1, rfl, -, how, hR2, hK2⟩
        have HK2 := Lib.hid (HK.out.then_ (((Kept.refl [g] w1).drewN N).then_ hK2))
        have HR2 := Lib.hid hR2
        have HO2 : Hid (Own w2 w.heap.size (.slice A1 n c1) PP) := Lib.hid (how.base HK.out.size)
        have Hp2 := Lib.hid (Hp.out.kept HK2.out (by simp; omega))
        have Hs2 := Lib.hid (Hs.out.kept HK2.out (by simp; omega))
        have He2 := Lib.hid (He.out.kept HK2.out (by simp; omega))
        have Hr2 := Lib.hid (Hr.out.kept HK2.out (by simp; omega))
        have Hlt := Lib.hid (show pb < w.heap.size ∧ sb < w.heap.size ∧ eb < w.heap.size ∧ rb < w.heap.size ∧ g < w.heap.size from ⟨Hp.out.lt, Hs.out.lt, He.out.lt, Hr.out.lt, H.out.lt⟩)
        have hpc := Hp2.out.cell
        have hpf := Hp2.out.free
        clear how hR2 hK2 hrc1
        have hrc2 := (Hr2.out.far (p := ⟨pb, 0, none⟩) (by have := Hn.out; show rb ≠ pb; omega) (.slice A1 n c1)).cell
        go_wp2_with fail
        refine (takeZ B g bs (k + n) 4 4 rfl _ (HR2.out.far h1 _) (by omega)).mono ?_
        obtain ⟨T, hT⟩ : ∃ T, (bs.drop (k + n)).take 4 = T := ⟨_, rfl⟩
        rw [hT] at HU HTl ⊢
        clear hT
        rintro e w3 ⟨A2, c2, rfl, hrd, -, hR3, hK3⟩
        have HK3 : Hid (Kept [g, pb, sb] w w3) := Lib.hid (((HK2.out.mono (rows' := [g, pb, sb]) (fun x hx => .inl (by simp at hx; simp [hx]))).setCell (p := ⟨pb, 0, none⟩) (.inl (by simp)) _).trans hK3 (fun x hx => .inl (by simp at hx; simp [hx])))
        have HR3 := Lib.hid hR3
        have HT := Lib.hid hrd
        have Hp3 : Hid (Box w3 pb (.slice A1 n c1) 22) := Lib.hid ((Hp2.out.set_ _).kept hK3 (by have := H.out.ltB; simp; omega))
        have Hs3 : Hid (Box w3 sb (.slice none 0 0) 22) := Lib.hid ((Hs2.out.far (p := ⟨pb, 0, none⟩) (by have := Hn.out; show sb ≠ pb; omega) _).kept hK3 (by have := H.out.ltB; simp; omega))
        have He3 : Hid (Box w3 eb (.int .i64 0) 33) := Lib.hid ((He2.out.far (p := ⟨pb, 0, none⟩) (by have := Hn.out; show eb ≠ pb; omega) _).kept hK3 (by have := H.out.ltB; simp; omega))
        have Hr3 : Hid (Box w3 rb (.pointer (some ⟨g, 0, none⟩)) 29) := Lib.hid ((Hr2.out.far (p := ⟨pb, 0, none⟩) (by have := Hn.out; show rb ≠ pb; omega) _).kept hK3 (by have := H.out.ltB; simp; omega))
        have HO3 : Hid (Own w3 w.heap.size (.slice A1 n c1) PP) := Lib.hid ((HO2.out.kept (rows := [pb]) ((Kept.refl _ w2).setCell (p := ⟨pb, 0, none⟩) (.inl (by simp)) (.slice A1 n c1)) (fun x hx => by have h5 := HO2.out.block_ge x hx; have := Hlt.out; simp; omega)).kept hK3 (fun x hx => by have h5 := HO2.out.block_ge x hx; have := Hlt.out; simp; omega))
        clear hrd hR3 hK3 hpc hpf hrc2
        clear HR2 HO2 Hp2 Hs2 He2 Hr2
        go_wp2
        go_loop [4, 24] (fun s i => ∃ j m : Nat, j ≤ 4 ∧ i = .int .i64 (j : Int) ∧ s = .int .i64 (m : Int) ∧ Hid (m = pv T j)) (fun _ i => 4 - (intOf i).toNat)
        case atStart => exact ⟨0, 0, by omega, rfl, rfl, Lib.hid rfl⟩
        case round =>
          obtain ⟨j, m, hj, rfl, rfl, Hm⟩ := hrel
          by_cases hlt : j < 4
          · obtain ⟨b, off, rfl, _, hcell⟩ := HT.out.2.2.2 (by omega)
            have hc := hcell j hlt
            have hx := getD_lt HT.out.2.2.1 j
            have Hs9 := Lib.hid (or_byte (m := m) (x := T.getD j 0) (by rw [Hm.out]; exact pv_lt T (getD_lt HT.out.2.2.1) j) hlt hx)
            have Hm9 : Hid (m + T.getD j 0 * 256 ^ j = pv T (j + 1)) := Lib.hid (by rw [Hm.out, pv])
            clear hcell
            generalize T.getD j 0 = x at *
            go_wp2
            go_round
            case rel => exact ⟨j + 1, m + x * 256 ^ j, by omega, by go_num, by rw [Hs9.out], Hm9⟩
            case measure => simp [intOf]; omega
          · obtain rfl : j = 4 := by omega
            have Hm4 : Hid (m = val4 T) := Lib.hid (by rw [Hm.out, pv_four])
            have hpc := Hp3.out.cell
            clear Hm
            go_wp2_with fail
            refine (sum_any A1 n c1 PP _ (HO3.out.rdOf HPl.out)).mono ?_
            rintro e w' ⟨rfl, rfl⟩
            by_cases hsum : val4 T ≠ sum PP
            · have HU2 := Lib.hid (HU.out.trans (if_pos hsum))
              have hne : ((m : Int) != (sum PP : Int)) = true := bne_iff_ne.2 (by have := Hm4.out; omega)
              go_wp2_with fail
              refine (cut_any 11 _).mono ?_
              rintro e w' ⟨rfl, rfl⟩
              go_wp2
              exact ⟨rfl, He3.out, .inr ⟨11, by decide, rfl, by rw [HU2.out], fun h => absurd h (by decide), HK3.out⟩⟩
            · have HU2 := Lib.hid (HU.out.trans (if_neg hsum))
              have hne : ((m : Int) != (sum PP : Int)) = false := by have := Hm4.out; rw [bne_eq_false_iff_eq]; omega
              clear hsum
              have Hlt3 := Lib.hid HK3.out.size
              have hrc3 := Hr3.out.cell
              go_wp2
              go_region_with ((first
                | (go_at_call 23; refine (left_any B g bs (k + n + 4) _ (by exact HR3.out)).mono ?_; rintro e w' ⟨rfl, N2, rfl⟩)
                | (go_at_call 38; refine (takeZ B g bs (k + n + 4) (bs.length - (k + n + 4)) _ rfl _ (by exact HR3.out) (by omega)).mono ?_; rw [HL3.out]; rintro e w4 ⟨A4, c4, rfl, -, how4, hR4, hK4⟩; have Hs4 := Lib.hid (Box.kept (b := sb) (v := .slice none 0 0) (t := 22) (by exact Hs3.out) hK4 (by have := H.out.ltB; simp; omega)); have hsc := Hs4.out.cell; have hsf := Hs4.out.free; have How4 := Lib.hid how4; have HK4 := Lib.hid hK4; clear how4 hR4 hK4)))
              all_goals
                go_end0
                have hn := Hn.out
                have hl := Hlt.out
                have hgB := H.out.ltB
                have Hp4 : Box w4 pb (.slice A1 n c1) 22 := Box.kept (w := w3) Hp3.out (by exact ⟨HK4.out.os, HK4.out.tape, HK4.out.output, HK4.out.size, HK4.out.block⟩ : Kept [g] w3 w4) (by simp; omega)
                have He4 : Box w4 eb (.int .i64 0) 33 := Box.kept (w := w3) He3.out (by exact ⟨HK4.out.os, HK4.out.tape, HK4.out.output, HK4.out.size, HK4.out.block⟩ : Kept [g] w3 w4) (by simp; omega)
                have K4 : Kept [g] w3 w4 := ⟨HK4.out.os, HK4.out.tape, HK4.out.output, HK4.out.size, HK4.out.block⟩
                have HO4 : Own w4 w.heap.size (.slice A1 n c1) PP := HO3.out.kept K4 (fun x hx => by have h5 := HO3.out.block_ge x hx; simp; omega)
                have hw4 : w.heap.size ≤ w4.heap.size := Nat.le_trans HK3.out.size K4.size
                refine ⟨He4.far (by show eb ≠ sb; omega) _, closeU (n := n) (r := bs.length - (k + n + 4)) HU2.out HPl.out HLl.out (Hp4.far (by show pb ≠ sb; omega) _) (HO4.kept (rows := [sb]) ((Kept.refl _ w4).setCell (.inl (by simp)) _) (fun x hx => by have h5 := HO4.block_ge x hx; simp; omega)) (Hs4.out.set_ _)
                  (How4.out.kept (rows := [sb]) ((Kept.refl _ w4).setCell (.inl (by simp)) _) (fun x hx => by have h5 := How4.out.block_ge x hx; have h6 : w3.heap.size ≤ x := h5; have h7 := HK3.out.size; simp; omega)) HK3.out.size ((HK3.out.trans K4 (fun x hx => .inl (by simp at hx; simp [hx]))).setCell (.inl (by simp)) _)⟩
end Go.Proofs.Ythjfogllinboaaa
