/- NumberTickets: the row's name. -/
import Derived.Test.YtdaggbpeoldmeaaGreatDoorZNT6
set_option linter.unusedVariables false
set_option maxRecDepth 100000
namespace Go.Proofs.YtdaggbpeoldmeaaGreatDoor.tickets
open Go.ChangeShapes Go.WideShapes Go.ChangeAt Go.RowKit Go.Ae laws
theorem named : Tryz.pinned.checked.prog.funcNamed Rows.numberTicketsRow.func = some 7 := by kernel_rfl
theorem inst : Tryz.f7.isInstance Tryz.pinned.checked.prog Rows.numberTicketsRow.origin Rows.numberTicketsRow.targs := of_decide_eq_true (by kernel_rfl)
theorem wrapper : Tryz.f7.isWrapper Tryz.pinned.checked.prog Rows.numberTicketsRow.wrapper Rows.numberTicketsRow.mainSum := by unfold Func.isWrapper; first | (rw [if_pos (by decide +kernel)]; kernel_rfl) | (rw [if_neg (by decide +kernel)]; exact ⟨rfl, rfl⟩)
end Go.Proofs.YtdaggbpeoldmeaaGreatDoor.tickets

