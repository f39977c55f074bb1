/- NumberDeals: the row and its card. -/
import Derived.Test.YtdaggbpeoldmeaaGreatDoorZND8
import Derived.Test.YtdaggbpeoldmeaaGreatDoorZND7
import Derived.Test.YtdaggbpeoldmeaaGreatDoorZND9a
import Derived.Test.YtdaggbpeoldmeaaGreatDoorZND9b
set_option linter.unusedVariables false
set_option maxRecDepth 100000
namespace Go.Proofs.YtdaggbpeoldmeaaGreatDoor.deals
open Go.ChangeShapes Go.WideShapes Go.ChangeAt Go.RowKit Go.Ae laws
theorem said:Rows.NumberDealsSaid:=
 OpenClaim.holds_of_cond 8 Tryz.f8 rfl rfl rfl rfl rfl rfl rfl ⟨rfl,rfl,rfl,rfl,rfl⟩ rfl rfl rfl rfl rfl named Tryz.func8 closed inst wrapper
  (fun os started H enc _ F=>by rw[OpenClaim.pre_eq_preRow];exact lifted os started H enc F)
theorem card:Rows.NumberDealsCardSaid:=
 Claim7.holds_tied_plain_at .later [] _ _ _ _ said (fun _ h=>by cases h) Qp (fun _ h=>by cases h) numberDeals_row_tie rfl ⟨rfl,rfl⟩ Si rfl plain Tg
end Go.Proofs.YtdaggbpeoldmeaaGreatDoor.deals
