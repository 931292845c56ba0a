/- An argument of words, opened. Conditions: none. -/
import Derived.Test.YtibpagmpdgflmaaGreatDoorZK6
import Derived.Test.YtibpagmpdgflmaaGreatDoorZV3
namespace Go.Proofs.YtibpagmpdgflmaaGreatDoor
open Go.RowKit Go.WideShapes Go.ChangeShapes Go.ChangeMaps

theorem Tryz.underlyingWord : Tryz.prog.underlying 239 = some (.int .u64) := by kernel_rfl
theorem Tryz.cellsWord : Tryz.prog.cellsOf 239 = 1 := by kernel_rfl
end Go.Proofs.YtibpagmpdgflmaaGreatDoor
