/- Contract of ormap.Decode: decodeL; premises: ormap.item's and ormap.many's. -/
import Derived.Test.YtpdedfpacklnoaaGreatDoorTzTkE
import Derived.Test.YtpdedfpacklnoaaGreatDoorTzTkO
import Derived.Test.YtpdedfpacklnoaaGreatDoorTzTkR
import Derived.Test.YtpdedfpacklnoaaGreatDoorTzMR
set_option maxRecDepth 100000
namespace Go.Proofs.YtpdedfpacklnoaaGreatDoor
open Go.RowKit Go.BL Go.Ct Go.Sl Go.Wr W

theorem ents_ok {bs : List Nat} {k i j : Nat} {d : En} {l : List En} (h : entR bs i = .ok (d, j)) : entsR bs (k + 1) i l = entsR bs k j (l ++ [d]) := by conv => lhs; unfold entsR; rw [h]
theorem info92 : (Tryz.prog.info? 92).map (fun i => (i.zero, i.size, i.bytes)) = some (some (.agg #[.string ⟨#[]⟩, .int .i64 0, .int .i64 0, .int .i64 0, .int .i64 0, .int .u64 0]), 6, 56) := by kernel_rfl
theorem _root_.Go.Sl.OwnS.cap {α : Type} {t k : Nat} {f : α → List Value} {w : World} {B : Nat} {v : Value} {l : List α} (h : OwnS t k f w B v l) : ∀ A n c, v = .slice A n c → n ≤ c := by
 intro A n c e
 rcases h.2 with ⟨hv, _⟩ | ⟨g, cap, cur, hv, _, _, h1, _⟩
 ·rw [hv] at e; injection e with _ e2 e3; omega
 ·rw [hv] at e; injection e with _ e2 e3; omega
end Go.Proofs.YtpdedfpacklnoaaGreatDoor
