/- NumberEncloses: the row's name. -/
import Derived.Test.YtdaggbpeoldmeaaGreatDoorZNE6
set_option linter.unusedVariables false
set_option maxRecDepth 100000
namespace Go.Proofs.YtdaggbpeoldmeaaGreatDoor.encloses
open Go.ChangeShapes Go.WideShapes Go.ChangeAt Go.RowKit Go.Ae laws
theorem named:Tryz.pinned.checked.prog.funcNamed Rows.numberEnclosesRow.func=some 11:=by kernel_rfl
theorem inst:Tryz.f11.isInstance Tryz.pinned.checked.prog Rows.numberEnclosesRow.origin Rows.numberEnclosesRow.targs:=of_decide_eq_true (by kernel_rfl)
theorem wrapper:Tryz.f11.isWrapper Tryz.pinned.checked.prog Rows.numberEnclosesRow.wrapper Rows.numberEnclosesRow.mainSum:=by unfold Func.isWrapper;first|(rw[if_pos (by decide+kernel)];kernel_rfl)|(rw[if_neg (by decide+kernel)];exact⟨rfl,rfl⟩)
end Go.Proofs.YtdaggbpeoldmeaaGreatDoor.encloses
