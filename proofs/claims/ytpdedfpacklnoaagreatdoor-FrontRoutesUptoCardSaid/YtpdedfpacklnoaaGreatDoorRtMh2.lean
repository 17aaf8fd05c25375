/- Contract of slices.Clone at headers; appends of headers onto a row of the call's own; sums of texts. -/
import Derived.Test.YtpdedfpacklnoaaGreatDoorRtMR
import Derived.Test.YtpdedfpacklnoaaGreatDoorRtMH
import Derived.Lib.AppendStr
namespace Go.Proofs.YtpdedfpacklnoaaGreatDoor.H
set_option maxRecDepth 100000
open Go.RowKit Go.BL

theorem Hdrs.form {w : World} {v : Value} {hs : List Hdr} (h : Hdrs w v hs) : ∃ A c, v = .slice A hs.length c := by
 obtain ⟨_, A, c, e, _⟩ := h
 exact ⟨A, c, e⟩
theorem app_str (a b : List UInt8) : (⟨a.toArray⟩ : ByteArray) ++ ⟨b.toArray⟩ = ⟨(a ++ b).toArray⟩ := by
 apply ByteArray.ext
 simp
theorem cat_run (a b c : List UInt8) (h : a ++ b = c) (hl : a.length + b.length ≤ 4294967296) (w : World) : (Op.stringOp .add ⟨a.toArray⟩ ⟨b.toArray⟩).run Tryz.prog w = .ok (.string ⟨c.toArray⟩) w := by
 rw [run_string_add_sum w ⟨a.toArray⟩ ⟨b.toArray⟩ (by show a.length + b.length ≤ 9223372036854775807; omega), app_str, h]
theorem OwnH.empty (w : World) (B g : Nat) (hg : g = w.heap.size) (hB : B ≤ g) : OwnH (w.alloc (.cells #[] 45)) B (.slice (some ⟨g, 0, none⟩) 0 0) [] := by
 subst hg
 refine ⟨rfl, .inr ⟨w.heap.size, 0, #[], rfl, hB, ?_, Nat.le_refl _, by decide, rfl, rfl⟩⟩
 show (w.heap.push _)[w.heap.size]? = _
 simp
theorem hv_cell {w : World} {b off : Nat} : ∀ {hs : List Hdr}, (∀ i (h : i < hs.length), w.cell? ⟨b, off + i * 2, none⟩ = some (.string ⟨hs[i].1.toArray⟩) ∧ w.cell? ⟨b, off + i * 2 + 1, none⟩ = some (.string ⟨hs[i].2.toArray⟩)) →
  ∀ j u, (hv hs)[j]? = some u → w.cell? ((⟨b, off, none⟩ : Addr).add j) = some u := by
 intro hs hc j u hu
 rw [add_none]
 have hj : j < hs.length * 2 := by
  rcases Nat.lt_or_ge j (hs.length * 2) with h | h
  ·exact h
  ·rw [List.getElem?_eq_none (by rw [hv_len]; exact h)] at hu; cases hu
 have hi : j / 2 < hs.length := by omega
 obtain ⟨h1, h2⟩ := hv_at hs (j / 2) hi
 obtain ⟨c1, c2⟩ := hc (j / 2) hi
 rcases Nat.mod_two_eq_zero_or_one j with h | h
 ·have e : j / 2 * 2 = j := by omega
  rw [e] at h1 c1
  rw [h1] at hu
  rw [c1]; exact hu
 ·have e : j / 2 * 2 + 1 = j := by omega
  rw [e] at h2
  rw [Nat.add_assoc, e] at c2
  rw [h2] at hu
  rw [c2]; exact hu
theorem Hdrs.reads {w : World} {A : Option Addr} {n c : Nat} {hs : List Hdr} (h : Hdrs w (.slice A n c) hs) : n = hs.length ∧ Reads w w.heap.size 2 A n (hv hs) := by
 obtain ⟨_, A', c', e, hc⟩ := h
 injection e with e1 e2 e3
 subst e1 e2
 refine ⟨rfl, hv_len hs, fun hn => ?_⟩
 obtain ⟨b, off, rfl, hb, hr⟩ := hc hn
 exact ⟨_, rfl, hb, hv_cell hr⟩
/-- append(hs, cs...). -/
theorem wpList_appHs {w : World} {ops : Array Oper} {rest : List Oper} {o : Oper} {a : Act} {Q : Exit → Act → World → Prop} (hgd : o.guard = none) (s x : Operand)
  (ho : o.op = .call { callee := .builtin .append, args := #[s, x], argTypes := #[22, 22] })
  {B : Nat} {v : Value} {hs cs : List Hdr} (hs' : a.eval s = v) (hown : OwnH w B v hs)
  {A : Option Addr} {n c : Nat} (hx : a.eval x = .slice A n c) (hd : Hdrs w (.slice A n c) cs)
  (hb : hs.length + n ≤ 1000000000) (hbase : B ≤ w.heap.size)
  (h : ∀ v' w', OwnH w' B v' (hs ++ cs) → Below B w w' → wpList Tryz.prog ops Q rest (a.put o.dst v') w') : wpList Tryz.prog ops Q (o :: rest) a w := by
 obtain ⟨i0, hi0, hz0, hz1, hz2⟩ := info_parts info44
 obtain ⟨hn, hr⟩ := hd.reads
 refine wpList_append_any w hgd s x 22 ho B 45 i0 _ 2 32 Tryz.underlying22 hi0 hz0 hz1 hz2 rfl (by decide) v hs.length (hv hs) hs' hown w.heap.size A n c (hv cs) hx hr (hv_one _) (by unfold maxLen; omega) (by omega) hbase ?_
 intro v' w' k1 k2 k3
 refine h v' w' ?_ ((Below.refl B w).grown k2 hbase hown.block_ge)
 unfold OwnH
 rw [List.length_append, hv_app, ← hn]
 exact k1
theorem cloneH_any (hs : List Hdr) (v : Value) (w : World) (hd : Hdrs w v hs) (hl : hs.length ≤ 1000000000) : Calls Tryz.prog 17 #[v] w fun e w' => ∃ v', e = .returned v' ∧ OwnH w' w.heap.size v' hs ∧ Below w.heap.size w w' := by
 have heq := fun (w : World) (a : Option Addr) (n c n' c' : Nat) => Lib.run_eql_slice_nil (P := Tryz.prog) w 22 45 a n c n' c' Tryz.underlying22
 obtain ⟨A, c, rfl⟩ := hd.form
 have HD := Lib.hid hd
 cases A with
 | none =>
  have hb : Hid (hs = []) := Lib.hid (by
   obtain ⟨_, A', c', e, hc⟩ := hd
   rcases Nat.eq_zero_or_pos hs.length with h | h
   ·exact List.eq_nil_of_length_eq_zero h
   ·obtain ⟨_, _, e2, _⟩ := hc h
    injection e with e1
    rw [e2] at e1; cases e1)
  clear hd
  go_enter Tryz.func17, Tryz.ntmps17
  go_wp2
  go_ret
  exact ⟨_, rfl, by rw [hb.out]; exact OwnH.nil _ _, Below.refl _ _⟩
 | some a =>
  clear hd
  go_enter Tryz.func17, Tryz.ntmps17
  go_wp2_with (at_builtin; refine wpList_appHs rfl (.tmp 5) (.tmp 6) rfl rfl (OwnH.empty w w.heap.size w.heap.size rfl (Nat.le_refl _)) rfl (HD.out.below ((Below.refl _ _).alloc (Nat.le_refl _) _) (Nat.le_refl _)) (by simp; omega) (by simp) ?_; intro v w1 ho hb; have Ho := Lib.hid ho; have Hb := Lib.hid hb; clear ho hb)
  go_ret
  exact ⟨_, rfl, Ho.out, ((Below.refl _ _).alloc (Nat.le_refl _) _).trans Hb.out⟩
end Go.Proofs.YtpdedfpacklnoaaGreatDoor.H
