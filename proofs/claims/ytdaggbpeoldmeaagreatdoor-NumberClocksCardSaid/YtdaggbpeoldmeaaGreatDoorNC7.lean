/- NumberClocks: the row's closed facts. -/
import Derived.Test.YtdaggbpeoldmeaaGreatDoorNC6
set_option linter.unusedVariables false
set_option maxRecDepth 100000
namespace Go.Proofs.YtdaggbpeoldmeaaGreatDoor.clocks
open Go.ChangeShapes Go.WideShapes Go.ChangeAt Go.RowKit Go.Ae laws
theorem named : Tryz.pinned.checked.prog.funcNamed Rows.numberClocksRow.func = some 6 := by kernel_rfl
theorem inst : Tryz.f6.isInstance Tryz.pinned.checked.prog Rows.numberClocksRow.origin Rows.numberClocksRow.targs := of_decide_eq_true (by kernel_rfl)
theorem wrapper : Tryz.f6.isWrapper Tryz.pinned.checked.prog Rows.numberClocksRow.wrapper Rows.numberClocksRow.mainSum := by unfold Func.isWrapper; first | (rw [if_pos (by decide +kernel)]; kernel_rfl) | (rw [if_neg (by decide +kernel)]; exact ⟨rfl, rfl⟩)
end Go.Proofs.YtdaggbpeoldmeaaGreatDoor.clocks
