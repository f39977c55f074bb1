/- NumberDeals: no goroutine is started. -/
import Derived.Test.YtdaggbpeoldmeaaGreatDoorZND6
set_option linter.unusedVariables false
set_option maxRecDepth 100000
namespace Go.Proofs.YtdaggbpeoldmeaaGreatDoor.deals
open Go.ChangeShapes Go.WideShapes Go.ChangeAt Go.RowKit Go.Ae laws
theorem Tg:false=Rows.numberDealsRow.goesBy Tryz.pinned.checked.prog:=by kernel_rfl
end Go.Proofs.YtdaggbpeoldmeaaGreatDoor.deals
