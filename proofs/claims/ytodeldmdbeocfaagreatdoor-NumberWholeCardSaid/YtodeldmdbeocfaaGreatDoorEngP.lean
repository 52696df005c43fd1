/- The engine over this seat's program. -/
import Derived.Test.YtodeldmdbeocfaaGreatDoorRows
import Derived.Test.YtodeldmdbeocfaaGreatDoorEngSl
namespace Go.Proofs.YtodeldmdbeocfaaGreatDoor.Eng
open Go
theorem mixed : Tryz.prog.follows .mixedOrders = true := by kernel_rfl
theorem info_u8 : (Tryz.prog.info? 5).map (fun i => (i.zero, i.size, i.bytes)) = some (some (.int .u8 0), 1, 1) := by kernel_rfl
theorem ret_int {k : IntKind} {a b : Int} (h : a = b) : Ending.returned (.int k a) = .returned (.int k b) := by rw [h]
end Go.Proofs.YtodeldmdbeocfaaGreatDoor.Eng
