/- NumberReads: the row's name. -/
import Derived.Test.YtdaggbpeoldmeaaGreatDoorZNR6
set_option linter.unusedVariables false
set_option maxRecDepth 100000
namespace Go.Proofs.YtdaggbpeoldmeaaGreatDoor.reads
open Go.ChangeShapes Go.WideShapes Go.ChangeAt Go.RowKit Go.Ae laws
theorem named : Tryz.pinned.checked.prog.funcNamed Rows.numberReadsRow.func = some 9 := by kernel_rfl
theorem inst : Tryz.f9.isInstance Tryz.pinned.checked.prog Rows.numberReadsRow.origin Rows.numberReadsRow.targs := of_decide_eq_true (by kernel_rfl)
theorem wrapper : Tryz.f9.isWrapper Tryz.pinned.checked.prog Rows.numberReadsRow.wrapper Rows.numberReadsRow.mainSum := by unfold Func.isWrapper; first | (rw [if_pos (by decide +kernel)]; kernel_rfl) | (rw [if_neg (by decide +kernel)]; exact ⟨rfl, rfl⟩)
end Go.Proofs.YtdaggbpeoldmeaaGreatDoor.reads

