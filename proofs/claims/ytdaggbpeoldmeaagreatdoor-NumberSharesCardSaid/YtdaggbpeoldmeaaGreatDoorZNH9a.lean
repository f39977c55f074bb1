/- NumberShares: no goroutine is started. -/
import Derived.Test.YtdaggbpeoldmeaaGreatDoorZNH6
set_option linter.unusedVariables false
set_option maxRecDepth 100000
namespace Go.Proofs.YtdaggbpeoldmeaaGreatDoor.shares
open Go.ChangeShapes Go.WideShapes Go.ChangeAt Go.RowKit Go.Ae laws
theorem goesT:false=Rows.numberSharesRow.goesBy Tryz.pinned.checked.prog:=by kernel_rfl
end Go.Proofs.YtdaggbpeoldmeaaGreatDoor.shares
