/- NumberAngles: the row and its card. -/
import Derived.Test.YtdaggbpeoldmeaaGreatDoorZNA8
import Derived.Test.YtdaggbpeoldmeaaGreatDoorZNA7
import Derived.Test.YtdaggbpeoldmeaaGreatDoorZNA9a
import Derived.Test.YtdaggbpeoldmeaaGreatDoorZNA9b
set_option linter.unusedVariables false
set_option maxRecDepth 100000
namespace Go.Proofs.YtdaggbpeoldmeaaGreatDoor.angles
open Go.ChangeShapes Go.WideShapes Go.ChangeAt Go.RowKit Go.Ae laws
theorem said : Rows.NumberAnglesSaid :=
  OpenClaim.holds_of_cond 14 Tryz.f14 rfl rfl rfl rfl rfl rfl rfl ⟨rfl, rfl, rfl, rfl, rfl⟩ rfl rfl rfl rfl rfl named Tryz.func14 closed inst wrapper
    (fun os started H enc _ F => by rw [OpenClaim.pre_eq_preRow]; exact lifted os started H enc F)
theorem card : Rows.NumberAnglesCardSaid :=
  Claim7.holds_tied_plain_at .later [] _ _ _ _ said (fun _ h => by cases h) byText (fun _ h => by cases h) numberAngles_row_tie rfl ⟨rfl, rfl⟩ mainT rfl plain goesT
end Go.Proofs.YtdaggbpeoldmeaaGreatDoor.angles

