/- NumberForms: the row's name. -/
import Derived.Test.YtdaggbpeoldmeaaGreatDoorZNF6
set_option linter.unusedVariables false
set_option maxRecDepth 100000
namespace Go.Proofs.YtdaggbpeoldmeaaGreatDoor.forms
open Go.ChangeShapes Go.WideShapes Go.ChangeAt Go.RowKit Go.Ae laws
theorem named:Tryz.pinned.checked.prog.funcNamed Rows.numberFormsRow.func=some 15:=by kernel_rfl
theorem inst:Tryz.f15.isInstance Tryz.pinned.checked.prog Rows.numberFormsRow.origin Rows.numberFormsRow.targs:=of_decide_eq_true (by kernel_rfl)
theorem wrapper:Tryz.f15.isWrapper Tryz.pinned.checked.prog Rows.numberFormsRow.wrapper Rows.numberFormsRow.mainSum:=by unfold Func.isWrapper;first|(rw[if_pos (by decide+kernel)];kernel_rfl)|(rw[if_neg (by decide+kernel)];exact⟨rfl,rfl⟩)
end Go.Proofs.YtdaggbpeoldmeaaGreatDoor.forms
