/- NumberForms: the row and its card. -/
import Derived.Test.YtdaggbpeoldmeaaGreatDoorZNF8
import Derived.Test.YtdaggbpeoldmeaaGreatDoorZNF7
import Derived.Test.YtdaggbpeoldmeaaGreatDoorZNF9a
import Derived.Test.YtdaggbpeoldmeaaGreatDoorZNF9b
set_option linter.unusedVariables false
set_option maxRecDepth 100000
namespace Go.Proofs.YtdaggbpeoldmeaaGreatDoor.forms
open Go.ChangeShapes Go.WideShapes Go.ChangeAt Go.RowKit Go.Ae laws
theorem said:Rows.NumberFormsSaid:=
  OpenClaim.holds_of_cond 15 Tryz.f15 rfl rfl rfl rfl rfl rfl rfl ⟨rfl,rfl,rfl,rfl,rfl⟩ rfl rfl rfl rfl rfl named Tryz.func15 closed inst wrapper
    (fun os started H enc _ F=>by rw[OpenClaim.pre_eq_preRow];exact lifted os started H enc F)
theorem card:Rows.NumberFormsCardSaid:=
  Claim7.holds_tied_plain_at .later [] _ _ _ _ said (fun _ h=>by cases h) byText (fun _ h=>by cases h) numberForms_row_tie rfl ⟨rfl,rfl⟩ mainT rfl plain goesT
end Go.Proofs.YtdaggbpeoldmeaaGreatDoor.forms
