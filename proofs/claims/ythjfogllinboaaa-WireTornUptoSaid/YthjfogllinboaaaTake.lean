/- The reader's take. -/
import Derived.Test.YthjfogllinboaaaRdr
import Derived.StillTailTactics
namespace Go.Proofs.Ythjfogllinboaaa
open Go.RowKit Go.BL Go.Wr
set_option maxRecDepth 100000 in
theorem take_any (B g : Nat) (bs : List Nat) (i n : Nat) (w : World) (h : Rdr w B g bs i) (hn : i + n ≤ bs.length) : Calls Try.prog 38 #[.pointer (some ⟨g, 0, none⟩), .int .i64 (n : Int)] w fun e w' =>
    ∃ A c, e = .returned (.slice A n c) ∧ Rd w' A n ((bs.drop i).take n) ∧ Own w' w.heap.size (.slice A n c) ((bs.drop i).take n) ∧ Rdr w' B g bs (i + n) ∧ Kept [g] w w' := by
  obtain ⟨T, hT⟩ : ∃ T, (bs.drop i).take n = T := ⟨_, rfl⟩
  rw [hT]
  have HT := Lib.hid hT
  clear hT
  obtain ⟨G, c, h0, h1, h2, h3, hr, hcap⟩ := h.cells
  have hi : (i : Int) ≤ (bs.length : Int) := by have := h.le; omega
  have hl := h.len
  have hm := hr.2.1
  unfold maxLen at hm
  have Hr := Lib.hid hr
  have H := Lib.hid h
  clear hr h
  go_enter Try.func38, Try.ntmps38
  go_wp2
  refine wp_region_still_tail 15 (by kernel_rfl) (by kernel_rfl) ?_
  simp only [List.take_succ_cons, List.take_zero, List.drop_succ_cons, List.drop_zero]
  change wpStill Try.prog _ (World.drew w) (fun a' => wpList Try.prog _ _ _ a' (World.drew w)) _ _
  have hw : IntKind.i64.wrap ((i : Int) + (n : Int)) = (i : Int) + (n : Int) := IntWalk.i64_in _ (by omega)
  have hs1 : (0 : Int) ≤ (i : Int) := by omega
  have hs2 : (i : Int) ≤ (i : Int) + (n : Int) := by omega
  have hs3 : (i : Int) + (n : Int) ≤ (c : Int) := by omega
  have hs4 : ((i : Int) + (n : Int)).toNat = i + n := by omega
  repeat still_step
  refine wpStill_nil ?_
  have R0 : Hid (Rd w.drew (if c = i then G else G.map fun x => x.add i) n T) := Lib.hid (by rw [← HT.out]; exact Rd.cutIf Hr.out hn hcap)
  have HL : Hid (T.length = n) := Lib.hid (by rw [← HT.out, List.length_take, List.length_drop]; omega)
  clear hw hs4
  generalize (if c = i then G else G.map fun x => x.add i) = Z at *
  go_wp2_with (at_builtin; refine wpList_appB rfl (.const (.slice none 0 0)) (.tmp 20) 22 rfl Try.underlying22 info5 rfl (Own.nil w.drew w.heap.size) rfl R0.out (by simp; omega) (Nat.le_refl _) ?_; intro v w1 ho hb; rw [List.nil_append] at ho; obtain ⟨A, c', rfl, hrd, ho⟩ := ho.len HL.out; have Ho := Lib.hid ho; have Hrd := Lib.hid hrd; have Hb := Lib.hid hb; have HR := Lib.hid (H.out.kept (Kept.of_below (rows := []) (a := w) ⟨hb.os, hb.tape, hb.output, hb.size, hb.block⟩ (Nat.le_refl _)) (fun _ hx => by cases hx)); clear ho hb hrd; obtain ⟨_, _, _, h1', _, h3', _, _⟩ := HR.out.cells)
  go_ret
  have K1 : Kept [g] w w1 := Kept.of_below (B := w.heap.size) ⟨Hb.out.os, Hb.out.tape, Hb.out.output, Hb.out.size, Hb.out.block⟩ (Nat.le_refl _)
  have HO := Own.setOld (p := ⟨g, 1, none⟩) H.out.lt Ho.out rfl (.int .i64 ((i : Int) + (n : Int)))
  exact ⟨A, c', rfl, HO.rdOf HL.out, HO, HR.out.toI (i + n) hn (by omega), K1.setCell (.inl (by simp)) _⟩
end Go.Proofs.Ythjfogllinboaaa
