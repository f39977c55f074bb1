/- NumberReads: no goroutine is started. -/
import Derived.Test.YtdaggbpeoldmeaaGreatDoorZNR6
set_option linter.unusedVariables false
set_option maxRecDepth 100000
namespace Go.Proofs.YtdaggbpeoldmeaaGreatDoor.reads
open Go.ChangeShapes Go.WideShapes Go.ChangeAt Go.RowKit Go.Ae laws
theorem goesT : false = Rows.numberReadsRow.goesBy Tryz.pinned.checked.prog := by kernel_rfl
end Go.Proofs.YtdaggbpeoldmeaaGreatDoor.reads

