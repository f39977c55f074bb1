/- NumberSpans: the row and its card. -/
import Derived.Test.YtdaggbpeoldmeaaGreatDoorZNQ8
import Derived.Test.YtdaggbpeoldmeaaGreatDoorZNQ7
import Derived.Test.YtdaggbpeoldmeaaGreatDoorZNQ9a
import Derived.Test.YtdaggbpeoldmeaaGreatDoorZNQ9b
set_option linter.unusedVariables false
set_option maxRecDepth 100000
namespace Go.Proofs.YtdaggbpeoldmeaaGreatDoor.spans
open Go.ChangeShapes Go.WideShapes Go.ChangeAt Go.RowKit Go.Ae laws
theorem said:Rows.NumberSpansSaid:=
 OpenClaim.holds_of_cond 10 Tryz.f10 rfl rfl rfl rfl rfl rfl rfl ⟨rfl,rfl,rfl,rfl,rfl⟩ rfl rfl rfl rfl rfl named Tryz.func10 closed inst wrapper
  (fun os started H enc _ F=>by rw[OpenClaim.pre_eq_preRow];exact lifted os started H enc F)
theorem card:Rows.NumberSpansCardSaid:=
 Claim7.holds_tied_plain_at .later [] _ _ _ _ said (fun _ h=>by cases h) byText (fun _ h=>by cases h) numberSpans_row_tie rfl ⟨rfl,rfl⟩ mainT rfl plain goesT
end Go.Proofs.YtdaggbpeoldmeaaGreatDoor.spans
