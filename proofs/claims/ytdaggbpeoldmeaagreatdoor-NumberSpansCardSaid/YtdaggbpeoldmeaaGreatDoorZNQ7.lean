/- NumberSpans: the row's name. -/
import Derived.Test.YtdaggbpeoldmeaaGreatDoorZNQ6
set_option linter.unusedVariables false
set_option maxRecDepth 100000
namespace Go.Proofs.YtdaggbpeoldmeaaGreatDoor.spans
open Go.ChangeShapes Go.WideShapes Go.ChangeAt Go.RowKit Go.Ae laws
theorem named:Tryz.pinned.checked.prog.funcNamed Rows.numberSpansRow.func=some 10:=by kernel_rfl
theorem inst:Tryz.f10.isInstance Tryz.pinned.checked.prog Rows.numberSpansRow.origin Rows.numberSpansRow.targs:=of_decide_eq_true (by kernel_rfl)
theorem wrapper:Tryz.f10.isWrapper Tryz.pinned.checked.prog Rows.numberSpansRow.wrapper Rows.numberSpansRow.mainSum:=by unfold Func.isWrapper;first|(rw[if_pos (by decide+kernel)];kernel_rfl)|(rw[if_neg (by decide+kernel)];exact⟨rfl,rfl⟩)
end Go.Proofs.YtdaggbpeoldmeaaGreatDoor.spans
