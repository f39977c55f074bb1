/- NumberSystems: no goroutine is started. -/
import Derived.Test.YtdaggbpeoldmeaaGreatDoorZNY6
set_option linter.unusedVariables false
set_option maxRecDepth 100000
namespace Go.Proofs.YtdaggbpeoldmeaaGreatDoor.systems
open Go.ChangeShapes Go.WideShapes Go.ChangeAt Go.RowKit Go.Ae laws
theorem RU:false=Rows.numberSystemsRow.goesBy Tryz.pinned.checked.prog:=by kernel_rfl
end Go.Proofs.YtdaggbpeoldmeaaGreatDoor.systems
