/- NumberTickets: the row and its card. -/
import Derived.Test.YtdaggbpeoldmeaaGreatDoorZNT8
import Derived.Test.YtdaggbpeoldmeaaGreatDoorZNT7
import Derived.Test.YtdaggbpeoldmeaaGreatDoorZNT9a
import Derived.Test.YtdaggbpeoldmeaaGreatDoorZNT9b
set_option linter.unusedVariables false
set_option maxRecDepth 100000
namespace Go.Proofs.YtdaggbpeoldmeaaGreatDoor.tickets
open Go.ChangeShapes Go.WideShapes Go.ChangeAt Go.RowKit Go.Ae laws
theorem said : Rows.NumberTicketsSaid :=
  OpenClaim.holds_of_cond 7 Tryz.f7 rfl rfl rfl rfl rfl rfl rfl ⟨rfl, rfl, rfl, rfl, rfl⟩ rfl rfl rfl rfl rfl named Tryz.func7 closed inst wrapper
    (fun os started H enc _ F => by rw [OpenClaim.pre_eq_preRow]; exact lifted os started H enc F)
theorem card : Rows.NumberTicketsCardSaid :=
  Claim7.holds_tied_plain_at .later [] _ _ _ _ said (fun _ h => by cases h) byText (fun _ h => by cases h) numberTickets_row_tie rfl ⟨rfl, rfl⟩ mainT rfl plain goesT
end Go.Proofs.YtdaggbpeoldmeaaGreatDoor.tickets

