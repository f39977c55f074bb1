/- NumberTables: no goroutine is started. -/
import Derived.Test.YtdaggbpeoldmeaaGreatDoorZNB6
set_option linter.unusedVariables false
set_option maxRecDepth 100000
namespace Go.Proofs.YtdaggbpeoldmeaaGreatDoor.tables
open Go.ChangeShapes Go.WideShapes Go.ChangeAt Go.RowKit Go.Ae laws
theorem goesT:false=Rows.numberTablesRow.goesBy Tryz.pinned.checked.prog:=by kernel_rfl
end Go.Proofs.YtdaggbpeoldmeaaGreatDoor.tables
