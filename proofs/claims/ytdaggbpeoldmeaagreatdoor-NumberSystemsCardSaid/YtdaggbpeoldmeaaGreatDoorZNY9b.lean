/- NumberSystems: the entry program's name. -/
import Derived.Test.YtdaggbpeoldmeaaGreatDoorZNY6
set_option linter.unusedVariables false
set_option maxRecDepth 100000
namespace Go.Proofs.YtdaggbpeoldmeaaGreatDoor.systems
open Go.ChangeShapes Go.WideShapes Go.ChangeAt Go.RowKit Go.Ae laws
theorem Q2:Tryz.pinned.checked.prog.mainIs=some (true, "2727c40674ff8a62efb0d2b5bf452a45832371f2c2921a4055da084f6edf6e2b".toList):=by kernel_rfl
theorem Pb:Rows.numberSystemsRow.wfByText (OpenSpec.ofChange Rows.numberSystemsSpec)=true:=by kernel_rfl
end Go.Proofs.YtdaggbpeoldmeaaGreatDoor.systems
