/- NumberAngles: the row's name. -/
import Derived.Test.YtdaggbpeoldmeaaGreatDoorZNA6
set_option linter.unusedVariables false
set_option maxRecDepth 100000
namespace Go.Proofs.YtdaggbpeoldmeaaGreatDoor.angles
open Go.ChangeShapes Go.WideShapes Go.ChangeAt Go.RowKit Go.Ae laws
theorem named : Tryz.pinned.checked.prog.funcNamed Rows.numberAnglesRow.func = some 14 := by kernel_rfl
theorem inst : Tryz.f14.isInstance Tryz.pinned.checked.prog Rows.numberAnglesRow.origin Rows.numberAnglesRow.targs := of_decide_eq_true (by kernel_rfl)
theorem wrapper : Tryz.f14.isWrapper Tryz.pinned.checked.prog Rows.numberAnglesRow.wrapper Rows.numberAnglesRow.mainSum := by unfold Func.isWrapper; first | (rw [if_pos (by decide +kernel)]; kernel_rfl) | (rw [if_neg (by decide +kernel)]; exact ⟨rfl, rfl⟩)
end Go.Proofs.YtdaggbpeoldmeaaGreatDoor.angles

