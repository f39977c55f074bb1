/- NumberTables: the row's name. -/
import Derived.Test.YtdaggbpeoldmeaaGreatDoorZNB6
set_option linter.unusedVariables false
set_option maxRecDepth 100000
namespace Go.Proofs.YtdaggbpeoldmeaaGreatDoor.tables
open Go.ChangeShapes Go.WideShapes Go.ChangeAt Go.RowKit Go.Ae laws
theorem named:Tryz.pinned.checked.prog.funcNamed Rows.numberTablesRow.func=some 12:=by kernel_rfl
theorem inst:Tryz.f12.isInstance Tryz.pinned.checked.prog Rows.numberTablesRow.origin Rows.numberTablesRow.targs:=of_decide_eq_true (by kernel_rfl)
theorem wrapper:Tryz.f12.isWrapper Tryz.pinned.checked.prog Rows.numberTablesRow.wrapper Rows.numberTablesRow.mainSum:=by unfold Func.isWrapper;first|(rw[if_pos (by decide+kernel)];kernel_rfl)|(rw[if_neg (by decide+kernel)];exact⟨rfl,rfl⟩)
end Go.Proofs.YtdaggbpeoldmeaaGreatDoor.tables
