/- The environment with number.ReadClock, and awake. -/
import Derived.Test.YtdaggbpeoldmeaaGreatDoorZKR2
import Derived.Test.YtdaggbpeoldmeaaGreatDoorM4
set_option linter.unusedVariables false
set_option linter.unusedSimpArgs false
set_option maxRecDepth 100000
namespace Go.Ae
open Go.Proofs
def Env.withP (E:Env) (f:Nat) (p:Prim):Env:={ E with prims:=fun n=>if n=f then some p else E.prims n }
section
variable {P:Program} {W0:World} {base:Nat} {E:Env} {f:Nat}
theorem EnvOk.withP {p:Prim} (EO:EnvOk P W0 base E) (hp:∀args h v h',p args h=some (v,h')→h'=h∧∀ρ w,Go.RowKit.Below base W0 w→HRel base ρ h w→Does P base ρ h w (callFunc f (encs ρ args).toArray) v h):EnvOk P W0 base (E.withP f p) where
 fns:=EO.fns
 exts:=EO.exts
 meth:=EO.meth
 mixed:=EO.mixed
 prims:=by
  intro k q hq args h v h' hv ρ w B R hok
  simp only[Env.withP]at hq
  split at hq
  ·rename_i e
   subst e
   obtain rfl:=Option.some.inj hq
   obtain⟨rfl,hd⟩:=hp args h v h' hv
   exact hd ρ w B R
  ·exact EO.prims k q hq args h v h' hv ρ w B R hok
 later:=by
  intro k q args h v h' hq hv
  simp only[Env.withP]at hq
  split at hq
  ·obtain rfl:=Option.some.inj hq
   obtain⟨rfl,_⟩:=hp args h v h' hv
   exact Later.refl _
  ·exact EO.later k q args h v h' hq hv
end
section
variable {W0:World} {base:Nat}
def p43 (args:List AV) (h:Hp):Option (AV×Hp):=
 match args with
 |[.str s]=>if s.length<4294967281 then some (.tup [.int .i64 (Rc.readClk s).1,.int .i64 (Rc.readClk s).2],h)else none
 |_=>none
theorem k43 (G:L.Glob W0 base) (args:List AV) (h:Hp) (v:AV) (h':Hp) (hp:p43 args h=some (v,h')):h'=h∧∀ρ w,Go.RowKit.Below base W0 w→HRel base ρ h w→Does Tryz.prog base ρ h w (callFunc 43 (encs ρ args).toArray) v h:=by
 unfold p43 at hp
 split at hp
 ·rename_i s
  split at hp
  ·rename_i hs
   obtain⟨rfl,rfl⟩:=pair_inj hp
   refine⟨rfl,fun ρ w B R=>?_⟩
   refine Does.grown (by kernel_rfl) R (by simp[ok,oks]) ?_
   refine(Rc.d43 G s hs w B R.size).mono ?_
   rintro e w' ⟨rfl,hB⟩
   exact⟨by simp[enc,encs],hB⟩
  ·cases hp
 ·cases hp
noncomputable def E1:Env:=((E0.withP 43 p43).withP 264 p264).withP 299 L.p299
theorem env1 (G:L.Glob W0 base):EnvOk Tryz.prog W0 base E1:=(((L.env_ok G C.fns_ok).withP (k43 G)).withP (k264 G)).withP (L.k299 G)
end
theorem awake_eval:(match call E1 100000 17 [] .nil with|some (.bool true,_)=>true|_=>false)=true:=by kernel_rfl
theorem awake_true:∃h,call E1 100000 17 [] .nil=some (.bool true,h):=by
 have:=awake_eval
 split at this
 ·rename_i h e;exact⟨h,e⟩
 ·cases this
def pAwake (args:List AV):Option AV:=
 match args with
 |[]=>some (.bool true)
 |_=>none
noncomputable def E2:Env:=E1.with 17 pAwake
theorem env2 {W0:World} {base:Nat} (G:L.Glob W0 base):EnvOk Tryz.prog W0 base E2:=by
 refine(env1 G).with fun args v hv=>?_
 cases args with
 | nil=>
  obtain rfl:=Option.some.inj hv
  exact⟨rfl,rfl,100000,awake_true⟩
 |cons a l=>cases hv
end Go.Ae
