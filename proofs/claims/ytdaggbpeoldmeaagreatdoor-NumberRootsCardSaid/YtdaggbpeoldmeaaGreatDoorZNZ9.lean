/- NumberRoots: the row and its card. -/
import Derived.Test.YtdaggbpeoldmeaaGreatDoorZNZ8
import Derived.Test.YtdaggbpeoldmeaaGreatDoorZNZ7
import Derived.Test.YtdaggbpeoldmeaaGreatDoorZNZ9a
import Derived.Test.YtdaggbpeoldmeaaGreatDoorZNZ9b
set_option linter.unusedVariables false
set_option maxRecDepth 100000
namespace Go.Proofs.YtdaggbpeoldmeaaGreatDoor.roots
open Go.ChangeShapes Go.WideShapes Go.ChangeAt Go.RowKit Go.Ae laws
theorem said:Rows.NumberRootsSaid:=
 OpenClaim.holds_of_cond 3 Tryz.f3 rfl rfl rfl rfl rfl rfl rfl ⟨rfl,rfl,rfl,rfl,rfl⟩ rfl rfl rfl rfl rfl named Tryz.func3 closed inst wrapper
  (fun os started H enc _ F=>by rw[OpenClaim.pre_eq_preRow];exact lifted os started H enc F)
theorem card:Rows.NumberRootsCardSaid:=
 Claim7.holds_tied_plain_at .later [] _ _ _ _ said (fun _ h=>by cases h) byText (fun _ h=>by cases h) numberRoots_row_tie rfl ⟨rfl,rfl⟩ mainT rfl plain goesT
end Go.Proofs.YtdaggbpeoldmeaaGreatDoor.roots
