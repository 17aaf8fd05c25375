/- The document's Hash, whole: the plain hash of the bytes. -/
import Derived.Test.YtikaikleibfkeaaDoorHash
namespace Go.Proofs.YtikaikleibfkeaaDoor
open Go.RowKit Go.Idn

theorem hashR_any (A : Option Addr) (n cap : Nat) (bs : List Nat) (w : World) (hr : Rd w A n bs) :
    Calls Tryd.prog 19 #[.slice A n cap] w fun e w' => e = .returned (.int .u64 ((hsh bs : Nat) : Int)) ∧ w = w' := by
  obtain ⟨hl, hm, hb, hc⟩ := hr
  unfold maxLen at hm
  have Hl := Lib.hid hl
  have Hb := Lib.hid hb
  have Hc := Lib.hid hc
  clear hl hb hc
  go_enter Tryd.func19, Tryd.ntmps19
  go_wp2
  go_loop [3, 4] (fun h i => ∃ k : Nat, k ≤ n ∧ i = .int .i64 k ∧ h = .int .u64 (((bs.take k).foldl hstep 14695981039346656037 : Nat) : Int)) (fun _ i => n - (intOf i).toNat)
  case atStart => exact ⟨0, Nat.zero_le _, rfl, val_start bs⟩
  case round =>
    obtain ⟨k, hk, rfl, rfl⟩ := hrel
    by_cases hlt : k < n
    · obtain ⟨b, off, rfl, hcell⟩ := Hc.out (by omega)
      have hck := hcell k hlt
      have hbk := getD_lt Hb.out k
      have hts := take_snoc' bs k (by rw [Hl.out]; exact hlt)
      have hH := foldl_lt (bs.take k) 14695981039346656037 (by decide)
      have hsv := step_val _ _ hH hbk
      have HS : Hid ((bs.take (k + 1)).foldl hstep 14695981039346656037 = hstep ((bs.take k).foldl hstep 14695981039346656037) (bs.getD k 0)) := Lib.hid (by rw [hts, List.foldl_append, List.foldl_cons, List.foldl_nil])
      generalize hx : bs.getD k 0 = x at *
      generalize hy : (bs.take k).foldl hstep 14695981039346656037 = H at *
      have Hx := Lib.hid hx
      have Hy := Lib.hid hy
      clear hx hy hts hcell
      go_wp2
      go_round
      case rel => exact ⟨k + 1, by omega, by go_num, by rw [HS.out]⟩
      case measure => simp [intOf]; omega
    · obtain rfl : k = n := by omega
      have HF : Hid (hsh bs = fin ((bs.take k).foldl hstep 14695981039346656037)) := Lib.hid (by rw [hsh, List.take_of_length_le (by rw [Hl.out]; omega)])
      have hH := foldl_lt (bs.take k) 14695981039346656037 (by decide)
      generalize (bs.take k).foldl hstep 14695981039346656037 = H at *
      have h1 := mix_val H 18397679294719823053 hH
      have h2 := mix_val (mix1 H 18397679294719823053) 14181476777654086739 (mix1_lt _ _)
      have h3 := xs_val (mix1 (mix1 H 18397679294719823053) 14181476777654086739) (mix1_lt _ _)
      simp only [Int.cast_ofNat_Int] at h1 h2
      have HF' : Hid (hsh bs = xs (mix1 (mix1 H 18397679294719823053) 14181476777654086739)) := Lib.hid (by rw [HF.out, fin])
      go_wp2
      go_ret
      exact ⟨ret_int (by rw [HF'.out]), rfl⟩
end Go.Proofs.YtikaikleibfkeaaDoor
