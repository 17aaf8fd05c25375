/- Contract of the laws' awake: true. -/
import Derived.Test.YtidhemjnchonaaaGreatDoorParse
import Derived.Test.YtidhemjnchonaaaGreatDoorHi
namespace Go.Proofs.YtidhemjnchonaaaGreatDoor
open Go.RowKit Go.BL

def hiReq : List UInt8 := [71, 69, 84, 32, 47, 99, 97, 114, 116, 47, 99, 49, 32, 72, 84, 84, 80, 47, 49, 46, 49, 13, 10, 72, 111, 115, 116, 58, 32, 97, 13, 10, 13, 10]
theorem Hdrs.form {w : World} {v : Value} {hs : List Hdr} (h : Hdrs w v hs) : ∃ A c, v = .slice A hs.length c := by
  obtain ⟨_, A, c, e, _⟩ := h
  exact ⟨A, c, e⟩
theorem parse_hi : parseL hiReq = .ok ⟨[71, 69, 84], [47, 99, 97, 114, 116, 47, 99, 49], [([104, 111, 115, 116], [97])], []⟩ := by kernel_rfl
def hiCells : Array Value := #[.int .u8 71, .int .u8 69, .int .u8 84, .int .u8 32, .int .u8 47, .int .u8 99, .int .u8 97, .int .u8 114, .int .u8 116, .int .u8 47, .int .u8 99, .int .u8 49, .int .u8 32, .int .u8 72, .int .u8 84, .int .u8 84, .int .u8 80, .int .u8 47, .int .u8 49, .int .u8 46, .int .u8 49, .int .u8 13, .int .u8 10, .int .u8 72, .int .u8 111, .int .u8 115, .int .u8 116, .int .u8 58, .int .u8 32, .int .u8 97, .int .u8 13, .int .u8 10, .int .u8 13, .int .u8 10]
theorem hi_bsl (w : World) (g : Nat) (hg : g = w.heap.size) (fr : Nat × Nat) : Bsl (w.alloc (.cells hiCells 5 fr)) (.slice (some ⟨g, 0, none⟩) 34 34) hiReq := by
  subst hg
  refine ⟨by decide, .inr ⟨w.heap.size, 0, 34, rfl, by decide, by simp, fun j hj => ?_⟩⟩
  unfold World.cell?
  rw [(MapKept.heap_alloc w _).1, Nat.zero_add]
  have h2 : ∀ j (hj : j < hiReq.length), hiCells[j]? = some (.int .u8 (hiReq[j].toNat : Int)) := by
    intro j hj
    have hj' : j < 34 := hj
    rcases j with _ | _ | _ | _ | _ | _ | _ | _ | _ | _ | _ | _ | _ | _ | _ | _ | _ | _ | _ | _ | _ | _ | _ | _ | _ | _ | _ | _ | _ | _ | _ | _ | _ | _ | _
    all_goals first | rfl | omega
  exact h2 j hj
theorem cells4 {w w' : World} {x y z u : Value} {t : TypeId} (hb : Below (w.alloc (.cells #[x, y, z, u] t)).heap.size (w.alloc (.cells #[x, y, z, u] t)) w') :
    w'.cell? ⟨w.heap.size, 0, none⟩ = some x ∧ w'.cell? ⟨w.heap.size, 1, none⟩ = some y ∧ w'.cell? ⟨w.heap.size, 2, none⟩ = some z ∧ w'.cell? ⟨w.heap.size, 3, none⟩ = some u := by
  have hlt : ∀ k, (⟨w.heap.size, k, none⟩ : Addr).block < (w.alloc (.cells #[x, y, z, u] t)).heap.size := by intro k; simp
  rw [hb.cell (hlt 0), hb.cell (hlt 1), hb.cell (hlt 2), hb.cell (hlt 3)]
  refine ⟨?_, ?_, ?_, ?_⟩ <;> (rw [World.cell?_alloc_at _ _ _ _ rfl]; rfl)
set_option maxHeartbeats 4000000 in
set_option maxRecDepth 100000 in
theorem awake_any (w : World) (he : Env w) (ht : Tab w) : Calls Tryz.prog 16 #[] w (RetV (.bool true) w) := by
  have hcc : (convert 28 28 (.slice (some ⟨w.heap.size, 0, none⟩) 34 34)).run Tryz.prog (w.alloc (.cells hiCells 5)) = .ok (.slice (some ⟨w.heap.size, 0, none⟩) 34 34) (w.alloc (.cells hiCells 5 (34, 35))) :=
    Joins.run_convert_bytes_const_at _ 28 5 _ 34 34 _ rfl Tryz.underlying28 Tryz.underlying5
  have hp := parse_any _ hiReq _ (hi_bsl w w.heap.size rfl (34, 35)) (he.alloc _)
  rw [parse_hi] at hp
  unfold hiCells at hcc hp
  have HE := Lib.hid he
  have HT := Lib.hid ht
  clear he ht
  go_enter Tryz.func16, Tryz.ntmps16
  have heq : hiText = [72, 84, 84, 80, 47, 49, 46, 49, 32, 50, 48, 48, 32, 79, 75, 13, 10, 99, 111, 110, 116, 101, 110, 116, 45, 108, 101, 110, 103, 116, 104, 58, 32, 50, 13, 10, 13, 10, 104, 105] := by decide +kernel
  go_wp2_with (first
    | (go_at_call 17; refine hp.mono ?_; rintro e w2 ⟨v, rfl, hh, hb⟩; obtain ⟨A, c, hv⟩ := hh.form; rw [show [(([104, 111, 115, 116], [97]) : Hdr)].length = 1 from rfl] at hv; subst hv; have HT2 := Lib.hid (HT.out.below (below_alloc hb)); have HB := Lib.hid (below_alloc hb); clear hh hb)
    | (go_at_call 29; refine (write_hi _ (HT2.out.below ((Below.refl _ _).alloc (Nat.le_refl _) _))).mono ?_; rintro e w3 ⟨b, c3, rfl, hr, hb⟩; have hcv := hr.out 40 c3 rfl; have HB3 := Lib.hid (HB.out.trans ((below_alloc hb).mono (HB.out.size))); rw [heq] at hcv; obtain ⟨n0, n1, n2, n3⟩ := cells4 hb; clear hr hb))
  go_ret
  exact ⟨rfl, HB3.out⟩
end Go.Proofs.YtidhemjnchonaaaGreatDoor
