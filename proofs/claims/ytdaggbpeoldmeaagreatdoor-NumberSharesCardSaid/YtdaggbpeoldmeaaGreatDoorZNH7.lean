/- NumberShares: the row's name. -/
import Derived.Test.YtdaggbpeoldmeaaGreatDoorZNH6
set_option linter.unusedVariables false
set_option maxRecDepth 100000
namespace Go.Proofs.YtdaggbpeoldmeaaGreatDoor.shares
open Go.ChangeShapes Go.WideShapes Go.ChangeAt Go.RowKit Go.Ae laws
theorem named:Tryz.pinned.checked.prog.funcNamed Rows.numberSharesRow.func=some 4:=by kernel_rfl
theorem inst:Tryz.f4.isInstance Tryz.pinned.checked.prog Rows.numberSharesRow.origin Rows.numberSharesRow.targs:=of_decide_eq_true (by kernel_rfl)
theorem wrapper:Tryz.f4.isWrapper Tryz.pinned.checked.prog Rows.numberSharesRow.wrapper Rows.numberSharesRow.mainSum:=by unfold Func.isWrapper;first|(rw[if_pos (by decide+kernel)];kernel_rfl)|(rw[if_neg (by decide+kernel)];exact⟨rfl,rfl⟩)
end Go.Proofs.YtdaggbpeoldmeaaGreatDoor.shares
