/- The environment with number.ReadClock, and awake. -/
import Derived.Test.YtdaggbpeoldmeaaGreatDoorZKR2
import Derived.Test.YtdaggbpeoldmeaaGreatDoorM4
open Go.RowKit renaming Below → bl
open Option.some renaming inj → aa
set_option linter.unusedVariables false
set_option linter.unusedSimpArgs false
set_option maxRecDepth 100000
namespace Go.Ae
open Go.Proofs
def Env.oX (E:Env)(f:Nat)(p:Prim):Env:={ E with dG:=fun n=>if n=f then some p else E.dG n }
section
variable {P:Program}{W0:World}{base:Nat}{E:Env}{f:Nat}
theorem fC.oX {p:Prim}(EO:fC P W0 base E)(hp:∀args h v h',p args h=some (v,h')→h'=h∧∀ρ w,bl base W0 w→bv base ρ h w→dQ P base ρ h w (callFunc f (encs ρ args).toArray) v h):fC P W0 base (E.oX f p) where
 fns:=EO.fns
 exts:=EO.exts
 gF:=EO.gF
 mixed:=EO.mixed
 dG:=by
  intro k q hq args h v h' hv ρ w B R hok;simp only[Env.oX]at hq;split at hq
  ·rename_i e;subst e;obtain rfl:=aa hq;obtain⟨rfl,hd⟩:=hp args h v h' hv;exact hd ρ w B R
  ·exact EO.dG k q hq args h v h' hv ρ w B R hok
 later:=by
  intro k q args h v h' hq hv;simp only[Env.oX]at hq;split at hq
  ·obtain rfl:=aa hq;obtain⟨rfl,_⟩:=hp args h v h' hv;exact bH.refl _
  ·exact EO.later k q args h v h' hq hv
end
section
variable {W0:World}{base:Nat}
def UT (args:List AV)(h:Hp):Option (AV×Hp):=
 match args with
 |[.str s]=>if s.length<4294967281 then some (.fO [.int .i64 (Rc.jy s).1,.int .i64 (Rc.jy s).2],h)else none
 |_=>none
theorem k43 (G:L.kz W0 base)(args:List AV)(h:Hp)(v:AV)(h':Hp)(hp:UT args h=some (v,h')):h'=h∧∀ρ w,bl base W0 w→bv base ρ h w→dQ Tryz.prog base ρ h w (callFunc 43 (encs ρ args).toArray) v h:=by
 unfold UT at hp;split at hp
 ·rename_i s;split at hp
  ·rename_i hs;obtain⟨rfl,rfl⟩:=ai hp;refine⟨rfl,fun ρ w B R=>?_⟩;refine dQ.grown (by kernel_rfl) R (by simp[ok,gP]) ?_;refine(Rc.d43 G s hs w B R.size).mono ?_;rintro e w' ⟨rfl,hB⟩;exact⟨by simp[enc,encs],hB⟩
  ·cases hp
 ·cases hp
noncomputable def E1:Env:=((E0.oX 43 UT).oX 264 DO).oX 299 L.DN
theorem WM (G:L.kz W0 base):fC Tryz.prog W0 base E1:=(((L.xv G C.xj).oX (k43 G)).oX (Q8 G)).oX (L.Vl G)
end
theorem B5:(match call E1 100000 17 [] .nil with|some (.bool true,_)=>true|_=>false)=true:=by kernel_rfl
theorem B4:∃h,call E1 100000 17 [] .nil=some (.bool true,h):=by
 have:=B5;split at this
 ·rename_i h e;exact⟨h,e⟩
 ·cases this
def Gn (args:List AV):Option AV:=
 match args with
 |[]=>some (.bool true)
 |_=>none
noncomputable def E2:Env:=E1.with 17 Gn
theorem OR {W0:World}{base:Nat}(G:L.kz W0 base):fC Tryz.prog W0 base E2:=by
 refine(WM G).with fun args v hv=>?_
 cases args with
 | nil=>
  obtain rfl:=aa hv;exact⟨rfl,rfl,100000,B4⟩
 |cons a l=>cases hv
end Go.Ae
