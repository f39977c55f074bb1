/- NumberSums: the row's name. -/
import Derived.Test.YtdaggbpeoldmeaaGreatDoorZNS6
set_option linter.unusedVariables false
set_option maxRecDepth 100000
namespace Go.Proofs.YtdaggbpeoldmeaaGreatDoor.sums
open Go.ChangeShapes Go.WideShapes Go.ChangeAt Go.RowKit Go.Ae laws
theorem named:Tryz.pinned.checked.prog.funcNamed Rows.numberSumsRow.func=some 16:=by kernel_rfl
theorem inst:Tryz.f16.isInstance Tryz.pinned.checked.prog Rows.numberSumsRow.origin Rows.numberSumsRow.targs:=of_decide_eq_true (by kernel_rfl)
theorem wrapper:Tryz.f16.isWrapper Tryz.pinned.checked.prog Rows.numberSumsRow.wrapper Rows.numberSumsRow.mainSum:=by unfold Func.isWrapper;first|(rw[if_pos (by decide+kernel)];kernel_rfl)|(rw[if_neg (by decide+kernel)];exact⟨rfl,rfl⟩)
end Go.Proofs.YtdaggbpeoldmeaaGreatDoor.sums
