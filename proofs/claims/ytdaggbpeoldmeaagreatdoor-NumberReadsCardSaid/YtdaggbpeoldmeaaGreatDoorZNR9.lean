/- NumberReads: the row and its card. -/
import Derived.Test.YtdaggbpeoldmeaaGreatDoorZNR8
import Derived.Test.YtdaggbpeoldmeaaGreatDoorZNR7
import Derived.Test.YtdaggbpeoldmeaaGreatDoorZNR9a
import Derived.Test.YtdaggbpeoldmeaaGreatDoorZNR9b
set_option linter.unusedVariables false
set_option maxRecDepth 100000
namespace Go.Proofs.YtdaggbpeoldmeaaGreatDoor.reads
open Go.ChangeShapes Go.WideShapes Go.ChangeAt Go.RowKit Go.Ae laws
theorem said : Rows.NumberReadsSaid :=
  OpenClaim.holds_of_cond 9 Tryz.f9 rfl rfl rfl rfl rfl rfl rfl ⟨rfl, rfl, rfl, rfl, rfl⟩ rfl rfl rfl rfl rfl named Tryz.func9 closed inst wrapper
    (fun os started H enc _ F => by rw [OpenClaim.pre_eq_preRow]; exact lifted os started H enc F)
theorem card : Rows.NumberReadsCardSaid :=
  Claim7.holds_tied_plain_at .later [] _ _ _ _ said (fun _ h => by cases h) byText (fun _ h => by cases h) numberReads_row_tie rfl ⟨rfl, rfl⟩ mainT rfl plain goesT
end Go.Proofs.YtdaggbpeoldmeaaGreatDoor.reads

