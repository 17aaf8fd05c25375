/- Contract of causal.read: ctxR. Contract of causal.Decode: ctxR. -/
import Derived.Test.YtpdedfpacklnoaaGreatDoorTzTkD
import Derived.Test.YtpdedfpacklnoaaGreatDoorTzCnx
set_option maxRecDepth 100000
namespace Go.Proofs.YtpdedfpacklnoaaGreatDoor
open Go.RowKit Go.BL Go.Ct Go.Sl Go.Wr W

theorem info150 : (Tryz.prog.info? 150).map (fun i => (i.zero, i.size, i.bytes)) = some (some (.agg #[.int .i64 0, .int .i64 0, .int .i64 0]), 3, 24) := by kernel_rfl
end Go.Proofs.YtpdedfpacklnoaaGreatDoor
set_option maxRecDepth 100000
