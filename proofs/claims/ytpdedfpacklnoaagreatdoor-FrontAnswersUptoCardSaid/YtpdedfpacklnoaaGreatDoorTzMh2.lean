/- Contract of slices.Clone at headers; appends of headers onto a row of the call's own; sums of texts. -/
import Derived.Test.YtpdedfpacklnoaaGreatDoorTzMR
import Derived.Test.YtpdedfpacklnoaaGreatDoorTzMH
import Derived.Lib.AppendStr
namespace Go.Proofs.YtpdedfpacklnoaaGreatDoor.H
set_option maxRecDepth 100000
open Go.RowKit Go.BL

theorem Hdrs.form {w : World} {v : Value} {hs : List Hdr} (h : Hdrs w v hs) : ∃ A c, v = .slice A hs.length c := by
 obtain ⟨_, A, c, e, _⟩ := h
 exact ⟨A, c, e⟩
theorem app_str (a b : List UInt8) : (⟨a.toArray⟩ : ByteArray) ++ ⟨b.toArray⟩ = ⟨(a ++ b).toArray⟩ := by
 apply ByteArray.ext
 simp
theorem cat_run (a b c : List UInt8) (h : a ++ b = c) (hl : a.length + b.length ≤ 4294967296) (w : World) : (Op.stringOp .add ⟨a.toArray⟩ ⟨b.toArray⟩).run Tryz.prog w = .ok (.string ⟨c.toArray⟩) w := by
 rw [run_string_add_sum w ⟨a.toArray⟩ ⟨b.toArray⟩ (by show a.length + b.length ≤ 9223372036854775807; omega), app_str, h]
theorem hv_cell {w : World} {b off : Nat} : ∀ {hs : List Hdr}, (∀ i (h : i < hs.length), w.cell? ⟨b, off + i * 2, none⟩ = some (.string ⟨hs[i].1.toArray⟩) ∧ w.cell? ⟨b, off + i * 2 + 1, none⟩ = some (.string ⟨hs[i].2.toArray⟩)) →
  ∀ j u, (hv hs)[j]? = some u → w.cell? ((⟨b, off, none⟩ : Addr).add j) = some u := by
 intro hs hc j u hu
 rw [add_none]
 have hj : j < hs.length * 2 := by
  rcases Nat.lt_or_ge j (hs.length * 2) with h | h
  ·exact h
  ·rw [List.getElem?_eq_none (by rw [hv_len]; exact h)] at hu; cases hu
 have hi : j / 2 < hs.length := by omega
 obtain ⟨h1, h2⟩ := hv_at hs (j / 2) hi
 obtain ⟨c1, c2⟩ := hc (j / 2) hi
 rcases Nat.mod_two_eq_zero_or_one j with h | h
 ·have e : j / 2 * 2 = j := by omega
  rw [e] at h1 c1
  rw [h1] at hu
  rw [c1]; exact hu
 ·have e : j / 2 * 2 + 1 = j := by omega
  rw [e] at h2
  rw [Nat.add_assoc, e] at c2
  rw [h2] at hu
  rw [c2]; exact hu
theorem Hdrs.reads {w : World} {A : Option Addr} {n c : Nat} {hs : List Hdr} (h : Hdrs w (.slice A n c) hs) : n = hs.length ∧ Reads w w.heap.size 2 A n (hv hs) := by
 obtain ⟨_, A', c', e, hc⟩ := h
 injection e with e1 e2 e3
 subst e1 e2
 refine ⟨rfl, hv_len hs, fun hn => ?_⟩
 obtain ⟨b, off, rfl, hb, hr⟩ := hc hn
 exact ⟨_, rfl, hb, hv_cell hr⟩
end Go.Proofs.YtpdedfpacklnoaaGreatDoor.H
