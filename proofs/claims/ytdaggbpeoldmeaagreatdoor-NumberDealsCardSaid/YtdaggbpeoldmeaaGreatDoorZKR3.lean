/- The environment with number.ReadClock, and awake. -/
import Derived.Test.YtdaggbpeoldmeaaGreatDoorZKR2
import Derived.Test.YtdaggbpeoldmeaaGreatDoorM4
open Go.RowKit renaming Below → bn
open Option.some renaming inj → aa
set_option linter.unusedVariables false
set_option linter.unusedSimpArgs false
set_option maxRecDepth 100000
namespace Go.Ae
open Go.Proofs
def Env.pj (E:Env)(f:Nat)(p:Prim):Env:={ E with dK:=fun n=>if n=f then some p else E.dK n }
section
variable {P:Program}{W0:World}{base:Nat}{E:Env}{f:Nat}
theorem fO.pj {p:Prim}(EO:fO P W0 base E)(hp:∀args h v h',p args h=some (v,h')→h'=h∧∀ρ w,bn base W0 w→bz base ρ h w→eC P base ρ h w (callFunc f (encs ρ args).toArray) v h):fO P W0 base (E.pj f p) where
 fns:=EO.fns
 exts:=EO.exts
 gO:=EO.gO
 mixed:=EO.mixed
 dK:=by
  intro k q hq args h v h' hv ρ w B R hok;simp only[Env.pj]at hq;split at hq
  ·rename_i e;subst e;obtain rfl:=aa hq;obtain⟨rfl,hd⟩:=hp args h v h' hv;exact hd ρ w B R
  ·exact EO.dK k q hq args h v h' hv ρ w B R hok
 later:=by
  intro k q args h v h' hq hv;simp only[Env.pj]at hq;split at hq
  ·obtain rfl:=aa hq;obtain⟨rfl,_⟩:=hp args h v h' hv;exact bJ.refl _
  ·exact EO.later k q args h v h' hq hv
end
section
variable {W0:World}{base:Nat}
def VV (args:List AV)(h:Hp):Option (AV×Hp):=
 match args with
 |[.str s]=>if s.length<4294967281 then some (.gk [.int .i64 (Rc.jJ s).1,.int .i64 (Rc.jJ s).2],h)else none
 |_=>none
theorem k43 (G:L.kR W0 base)(args:List AV)(h:Hp)(v:AV)(h':Hp)(hp:VV args h=some (v,h')):h'=h∧∀ρ w,bn base W0 w→bz base ρ h w→eC Tryz.prog base ρ h w (callFunc 43 (encs ρ args).toArray) v h:=by
 unfold VV at hp;split at hp
 ·rename_i s;split at hp
  ·rename_i hs;obtain⟨rfl,rfl⟩:=aj hp;refine⟨rfl,fun ρ w B R=>?_⟩;refine eC.grown (by kernel_rfl) R (by simp[ok,gV]) ?_;refine(Rc.d43 G s hs w B R.size).mono ?_;rintro e w' ⟨rfl,hB⟩;exact⟨by simp[enc,encs],hB⟩
  ·cases hp
 ·cases hp
noncomputable def E1:Env:=((E0.pj 43 VV).pj 264 Ey).pj 299 L.Ew
theorem XV (G:L.kR W0 base):fO Tryz.prog W0 base E1:=(((L.xL G C.xF).pj (k43 G)).pj (Su G)).pj (L.Wy G)
end
theorem Cr:(match call E1 100000 17 [] .nil with|some (.bool true,_)=>true|_=>false)=true:=by kernel_rfl
theorem Cq:∃h,call E1 100000 17 [] .nil=some (.bool true,h):=by
 have:=Cr;split at this
 ·rename_i h e;exact⟨h,e⟩
 ·cases this
def Hk (args:List AV):Option AV:=
 match args with
 |[]=>some (.bool true)
 |_=>none
noncomputable def E2:Env:=E1.with 17 Hk
theorem P6 {W0:World}{base:Nat}(G:L.kR W0 base):fO Tryz.prog W0 base E2:=by
 refine(XV G).with fun args v hv=>?_
 cases args with
 | nil=>
  obtain rfl:=aa hv;exact⟨rfl,rfl,100000,Cq⟩
 |cons a l=>cases hv
end Go.Ae
