/- NumberSystems: the row's name. -/
import Derived.Test.YtdaggbpeoldmeaaGreatDoorZNY6
set_option linter.unusedVariables false
set_option maxRecDepth 100000
namespace Go.Proofs.YtdaggbpeoldmeaaGreatDoor.systems
open Go.ChangeShapes Go.WideShapes Go.ChangeAt Go.RowKit Go.Ae laws
theorem named:Tryz.pinned.checked.prog.funcNamed Rows.numberSystemsRow.func=some 5:=by kernel_rfl
theorem inst:Tryz.f5.isInstance Tryz.pinned.checked.prog Rows.numberSystemsRow.origin Rows.numberSystemsRow.targs:=of_decide_eq_true (by kernel_rfl)
theorem wrapper:Tryz.f5.isWrapper Tryz.pinned.checked.prog Rows.numberSystemsRow.wrapper Rows.numberSystemsRow.mainSum:=by unfold Func.isWrapper;first|(rw[if_pos (by decide+kernel)];kernel_rfl)|(rw[if_neg (by decide+kernel)];exact⟨rfl,rfl⟩)
end Go.Proofs.YtdaggbpeoldmeaaGreatDoor.systems
