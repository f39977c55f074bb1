/- The abstract evaluator: the environment of this program. -/
import Derived.Test.YtdaggbpeoldmeaaGreatDoorA24
set_option linter.unusedVariables false
set_option linter.unusedSimpArgs false
set_option maxRecDepth 100000
namespace Go.Ae.L
open Go.Proofs Go.Ae
noncomputable def primsE (n : Nat) : Option Prim :=
  if n = 147 then some p147 else if n = 157 then some p157 else if n = 220 then some p220 else if n = 221 then some p221 else if n = 155 then some p155 else if n = 224 then some p224
  else if n = 258 then some p258 else if n = 259 then some p259 else if n = 188 then some p188 else if n = 239 then some p239 else if n = 223 then some p223 else none
noncomputable def extsE (n : Nat) : Option (List AV → Option AV) := if n = 267 then some x267 else if n = 269 then some x269 else none
def methE (T : Nat) (s : String) : Option Nat :=
  if T = 148 then if s = "Sign" then some 112 else if s = "Inv" then some 245 else if s = "Mul" then some 115 else if s = "Sub" then some 164 else none else none
noncomputable def En (fns : Nat → Option AFn) : Env := { fns := fns, prims := primsE, exts := extsE, meth := methE }
section
variable {W0 : World} {base : Nat} {fns : Nat → Option AFn}
theorem prims_ok (G : Glob W0 base) : PrimsOk Tryz.prog W0 base (En fns) := by
  intro f p hf args h v h' hp ρ w B R hok
  have hf : primsE f = some p := hf
  unfold primsE at hf
  by_cases e147 : f = 147
  · subst e147; rw [if_pos rfl] at hf; obtain rfl := Option.some.inj hf; exact k147 G hp B R
  rw [if_neg e147] at hf
  by_cases e157 : f = 157
  · subst e157; rw [if_pos rfl] at hf; obtain rfl := Option.some.inj hf; exact k157 G hp B R
  rw [if_neg e157] at hf
  by_cases e220 : f = 220
  · subst e220; rw [if_pos rfl] at hf; obtain rfl := Option.some.inj hf; exact k220 G hp B R
  rw [if_neg e220] at hf
  by_cases e221 : f = 221
  · subst e221; rw [if_pos rfl] at hf; obtain rfl := Option.some.inj hf; exact k221 hp R
  rw [if_neg e221] at hf
  by_cases e155 : f = 155
  · subst e155; rw [if_pos rfl] at hf; obtain rfl := Option.some.inj hf; exact k155 hp R hok
  rw [if_neg e155] at hf
  by_cases e224 : f = 224
  · subst e224; rw [if_pos rfl] at hf; obtain rfl := Option.some.inj hf; exact k224 hp R
  rw [if_neg e224] at hf
  by_cases e258 : f = 258
  · subst e258; rw [if_pos rfl] at hf; obtain rfl := Option.some.inj hf; exact k258 hp R
  rw [if_neg e258] at hf
  by_cases e259 : f = 259
  · subst e259; rw [if_pos rfl] at hf; obtain rfl := Option.some.inj hf; exact k259 hp R
  rw [if_neg e259] at hf
  by_cases e188 : f = 188
  · subst e188; rw [if_pos rfl] at hf; obtain rfl := Option.some.inj hf; exact k188 hp R
  rw [if_neg e188] at hf
  by_cases e239 : f = 239
  · subst e239; rw [if_pos rfl] at hf; obtain rfl := Option.some.inj hf; exact k239 hp R
  rw [if_neg e239] at hf
  by_cases e223 : f = 223
  · subst e223; rw [if_pos rfl] at hf; obtain rfl := Option.some.inj hf; exact k223 hp R
  rw [if_neg e223] at hf
  cases hf
theorem exts_ok : ExtsOk Tryz.prog W0 base (En fns) := by
  intro f e hf args v hp ρ h w B R hok
  have hf : extsE f = some e := hf
  unfold extsE at hf
  by_cases e267 : f = 267
  · subst e267; rw [if_pos rfl] at hf; obtain rfl := Option.some.inj hf; exact k267 hp R
  rw [if_neg e267] at hf
  by_cases e269 : f = 269
  · subst e269; rw [if_pos rfl] at hf; obtain rfl := Option.some.inj hf; exact k269 hp R
  rw [if_neg e269] at hf
  cases hf
theorem meth_ok : MethOk Tryz.prog (En fns) := by
  intro T name f hf v w
  have hf : methE T name = some f := hf
  unfold methE at hf
  by_cases hT : T = 148
  · subst hT
    rw [if_pos rfl] at hf
    by_cases e1 : name = "Sign"
    · subst e1; rw [if_pos rfl] at hf; obtain rfl := Option.some.inj hf; exact m112 v w
    rw [if_neg e1] at hf
    by_cases e2 : name = "Inv"
    · subst e2; rw [if_pos rfl] at hf; obtain rfl := Option.some.inj hf; exact m245 v w
    rw [if_neg e2] at hf
    by_cases e3 : name = "Mul"
    · subst e3; rw [if_pos rfl] at hf; obtain rfl := Option.some.inj hf; exact m115 v w
    rw [if_neg e3] at hf
    by_cases e4 : name = "Sub"
    · subst e4; rw [if_pos rfl] at hf; obtain rfl := Option.some.inj hf; exact m164 v w
    rw [if_neg e4] at hf
    cases hf
  · rw [if_neg hT] at hf; cases hf
theorem l147 {args : List AV} {h h' : Hp} {v : AV} (hp : p147 args h = some (v, h')) : Later h h' := by
  unfold p147 at hp
  repeat' split at hp
  all_goals first
    | (cases hp; done)
    | (obtain ⟨rfl, rfl⟩ := pair_inj hp; exact Later.refl _)
    | (obtain ⟨rfl, rfl⟩ := pair_inj hp; exact Later.push _ _ rfl)
theorem l157 {args : List AV} {h h' : Hp} {v : AV} (hp : p157 args h = some (v, h')) : Later h h' := by
  unfold p157 at hp
  repeat' split at hp
  all_goals first
    | (cases hp; done)
    | (obtain ⟨rfl, rfl⟩ := pair_inj hp; exact Later.refl _)
    | (obtain ⟨rfl, rfl⟩ := pair_inj hp; exact Later.push _ _ rfl)
theorem l220 {args : List AV} {h h' : Hp} {v : AV} (hp : p220 args h = some (v, h')) : Later h h' := by
  unfold p220 at hp
  repeat' split at hp
  all_goals first
    | (cases hp; done)
    | (obtain ⟨rfl, rfl⟩ := pair_inj hp; exact Later.refl _)
    | (obtain ⟨rfl, rfl⟩ := pair_inj hp; exact Later.push _ _ rfl)
theorem l221 {args : List AV} {h h' : Hp} {v : AV} (hp : p221 args h = some (v, h')) : Later h h' := by
  unfold p221 at hp
  repeat' split at hp
  all_goals first
    | (cases hp; done)
    | (obtain ⟨rfl, rfl⟩ := pair_inj hp; exact Later.refl _)
    | (obtain ⟨rfl, rfl⟩ := pair_inj hp; exact Later.push _ _ rfl)
theorem l155 {args : List AV} {h h' : Hp} {v : AV} (hp : p155 args h = some (v, h')) : Later h h' := by
  unfold p155 at hp
  repeat' split at hp
  all_goals first
    | (cases hp; done)
    | (obtain ⟨rfl, rfl⟩ := pair_inj hp; exact Later.refl _)
    | (obtain ⟨rfl, rfl⟩ := pair_inj hp; exact Later.push _ _ rfl)
theorem l224 {args : List AV} {h h' : Hp} {v : AV} (hp : p224 args h = some (v, h')) : Later h h' := by
  unfold p224 at hp
  repeat' split at hp
  all_goals first
    | (cases hp; done)
    | (obtain ⟨rfl, rfl⟩ := pair_inj hp; exact Later.refl _)
    | (obtain ⟨rfl, rfl⟩ := pair_inj hp; exact Later.push _ _ rfl)
theorem l258 {args : List AV} {h h' : Hp} {v : AV} (hp : p258 args h = some (v, h')) : Later h h' := by
  unfold p258 at hp
  repeat' split at hp
  all_goals first
    | (cases hp; done)
    | (obtain ⟨rfl, rfl⟩ := pair_inj hp; exact Later.refl _)
    | (obtain ⟨rfl, rfl⟩ := pair_inj hp; exact Later.push _ _ rfl)
theorem l259 {args : List AV} {h h' : Hp} {v : AV} (hp : p259 args h = some (v, h')) : Later h h' := by
  unfold p259 at hp
  repeat' split at hp
  all_goals first
    | (cases hp; done)
    | (obtain ⟨rfl, rfl⟩ := pair_inj hp; exact Later.refl _)
    | (obtain ⟨rfl, rfl⟩ := pair_inj hp; exact Later.push _ _ rfl)
theorem l188 {args : List AV} {h h' : Hp} {v : AV} (hp : p188 args h = some (v, h')) : Later h h' := by
  unfold p188 at hp
  repeat' split at hp
  all_goals first
    | (cases hp; done)
    | (obtain ⟨rfl, rfl⟩ := pair_inj hp; exact Later.refl _)
    | (obtain ⟨rfl, rfl⟩ := pair_inj hp; exact Later.push _ _ rfl)
theorem l239 {args : List AV} {h h' : Hp} {v : AV} (hp : p239 args h = some (v, h')) : Later h h' := by
  unfold p239 at hp
  repeat' split at hp
  all_goals first
    | (cases hp; done)
    | (obtain ⟨rfl, rfl⟩ := pair_inj hp; exact Later.refl _)
    | (obtain ⟨rfl, rfl⟩ := pair_inj hp; exact Later.push _ _ rfl)
theorem l223 {args : List AV} {h h' : Hp} {v : AV} (hp : p223 args h = some (v, h')) : Later h h' := by
  unfold p223 at hp
  repeat' split at hp
  all_goals first
    | (cases hp; done)
    | (obtain ⟨rfl, rfl⟩ := pair_inj hp; exact Later.refl _)
    | (obtain ⟨rfl, rfl⟩ := pair_inj hp; exact Later.push _ _ rfl)
theorem later_ok : PrimsLater (En fns) := by
  intro f p args h v h' hf hp
  have hf : primsE f = some p := hf
  unfold primsE at hf
  by_cases e147 : f = 147
  · subst e147; rw [if_pos rfl] at hf; obtain rfl := Option.some.inj hf; exact l147 hp
  rw [if_neg e147] at hf
  by_cases e157 : f = 157
  · subst e157; rw [if_pos rfl] at hf; obtain rfl := Option.some.inj hf; exact l157 hp
  rw [if_neg e157] at hf
  by_cases e220 : f = 220
  · subst e220; rw [if_pos rfl] at hf; obtain rfl := Option.some.inj hf; exact l220 hp
  rw [if_neg e220] at hf
  by_cases e221 : f = 221
  · subst e221; rw [if_pos rfl] at hf; obtain rfl := Option.some.inj hf; exact l221 hp
  rw [if_neg e221] at hf
  by_cases e155 : f = 155
  · subst e155; rw [if_pos rfl] at hf; obtain rfl := Option.some.inj hf; exact l155 hp
  rw [if_neg e155] at hf
  by_cases e224 : f = 224
  · subst e224; rw [if_pos rfl] at hf; obtain rfl := Option.some.inj hf; exact l224 hp
  rw [if_neg e224] at hf
  by_cases e258 : f = 258
  · subst e258; rw [if_pos rfl] at hf; obtain rfl := Option.some.inj hf; exact l258 hp
  rw [if_neg e258] at hf
  by_cases e259 : f = 259
  · subst e259; rw [if_pos rfl] at hf; obtain rfl := Option.some.inj hf; exact l259 hp
  rw [if_neg e259] at hf
  by_cases e188 : f = 188
  · subst e188; rw [if_pos rfl] at hf; obtain rfl := Option.some.inj hf; exact l188 hp
  rw [if_neg e188] at hf
  by_cases e239 : f = 239
  · subst e239; rw [if_pos rfl] at hf; obtain rfl := Option.some.inj hf; exact l239 hp
  rw [if_neg e239] at hf
  by_cases e223 : f = 223
  · subst e223; rw [if_pos rfl] at hf; obtain rfl := Option.some.inj hf; exact l223 hp
  rw [if_neg e223] at hf
  cases hf
theorem env_ok (G : Glob W0 base) (F : FnsOk Tryz.prog (En fns)) : EnvOk Tryz.prog W0 base (En fns) := ⟨F, prims_ok G, exts_ok, meth_ok, later_ok, mixed⟩
end
end Go.Ae.L
