/- NumberSystems: the row and its card. -/
import Derived.Test.YtdaggbpeoldmeaaGreatDoorZNY8
import Derived.Test.YtdaggbpeoldmeaaGreatDoorZNY7
import Derived.Test.YtdaggbpeoldmeaaGreatDoorZNY9a
import Derived.Test.YtdaggbpeoldmeaaGreatDoorZNY9b
set_option linter.unusedVariables false
set_option maxRecDepth 100000
namespace Go.Proofs.YtdaggbpeoldmeaaGreatDoor.systems
open Go.ChangeShapes Go.WideShapes Go.ChangeAt Go.RowKit Go.Ae laws
theorem said:Rows.NumberSystemsSaid:=
 OpenClaim.holds_of_cond 5 Tryz.f5 rfl rfl rfl rfl rfl rfl rfl ⟨rfl,rfl,rfl,rfl,rfl⟩ rfl rfl rfl rfl rfl named Tryz.func5 closed inst wrapper
  (fun os started H enc _ F=>by rw[OpenClaim.pre_eq_preRow];exact lifted os started H enc F)
theorem card:Rows.NumberSystemsCardSaid:=
 Claim7.holds_tied_plain_at .later [] _ _ _ _ said (fun _ h=>by cases h) Pb (fun _ h=>by cases h) numberSystems_row_tie rfl ⟨rfl,rfl⟩ Q2 rfl plain RU
end Go.Proofs.YtdaggbpeoldmeaaGreatDoor.systems
