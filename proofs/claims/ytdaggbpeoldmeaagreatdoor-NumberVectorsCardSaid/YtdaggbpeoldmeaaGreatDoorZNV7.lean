/- NumberVectors: the row's name. -/
import Derived.Test.YtdaggbpeoldmeaaGreatDoorZNV6
set_option linter.unusedVariables false
set_option maxRecDepth 100000
namespace Go.Proofs.YtdaggbpeoldmeaaGreatDoor.vectors
open Go.ChangeShapes Go.WideShapes Go.ChangeAt Go.RowKit Go.Ae laws
theorem named : Tryz.pinned.checked.prog.funcNamed Rows.numberVectorsRow.func = some 13 := by kernel_rfl
theorem inst : Tryz.f13.isInstance Tryz.pinned.checked.prog Rows.numberVectorsRow.origin Rows.numberVectorsRow.targs := of_decide_eq_true (by kernel_rfl)
theorem wrapper : Tryz.f13.isWrapper Tryz.pinned.checked.prog Rows.numberVectorsRow.wrapper Rows.numberVectorsRow.mainSum := by unfold Func.isWrapper; first | (rw [if_pos (by decide +kernel)]; kernel_rfl) | (rw [if_neg (by decide +kernel)]; exact ⟨rfl, rfl⟩)
end Go.Proofs.YtdaggbpeoldmeaaGreatDoor.vectors

