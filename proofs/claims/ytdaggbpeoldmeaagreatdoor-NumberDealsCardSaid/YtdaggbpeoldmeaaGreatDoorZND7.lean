/- NumberDeals: the row's name. -/
import Derived.Test.YtdaggbpeoldmeaaGreatDoorZND6
set_option linter.unusedVariables false
set_option maxRecDepth 100000
namespace Go.Proofs.YtdaggbpeoldmeaaGreatDoor.deals
open Go.ChangeShapes Go.WideShapes Go.ChangeAt Go.RowKit Go.Ae laws
theorem named:Tryz.pinned.checked.prog.funcNamed Rows.numberDealsRow.func=some 8:=by kernel_rfl
theorem inst:Tryz.f8.isInstance Tryz.pinned.checked.prog Rows.numberDealsRow.origin Rows.numberDealsRow.targs:=of_decide_eq_true (by kernel_rfl)
theorem wrapper:Tryz.f8.isWrapper Tryz.pinned.checked.prog Rows.numberDealsRow.wrapper Rows.numberDealsRow.mainSum:=by unfold Func.isWrapper;first|(rw[if_pos (by decide+kernel)];kernel_rfl)|(rw[if_neg (by decide+kernel)];exact⟨rfl,rfl⟩)
end Go.Proofs.YtdaggbpeoldmeaaGreatDoor.deals
