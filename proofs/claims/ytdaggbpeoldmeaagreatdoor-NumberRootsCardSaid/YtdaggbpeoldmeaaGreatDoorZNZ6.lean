/-
  NumberRoots returns true for every input: number.Root returns what the reference returns, or the first error. Condition: the package-level variables that the row lists read as their initialisers lay them.
-/
import Derived.Test.YtdaggbpeoldmeaaGreatDoorM5
import Derived.Test.YtdaggbpeoldmeaaGreatDoorM8
import Derived.Lib.SmallJoins
set_option linter.unusedVariables false
set_option maxRecDepth 100000
namespace Go.Proofs.YtdaggbpeoldmeaaGreatDoor.roots
open Go.ChangeShapes Go.WideShapes Go.ChangeAt Go.RowKit Go.Ae laws
open Go.ChangeMaps (open_string shut_string)
theorem envL {W0:World} {base:Nat} (G:L.Glob W0 base):EnvOk Tryz.prog W0 base EI:=((envX G).add Go.Ae.F.good).add Go.Ae.Hb.good
theorem contract (H:Type) (enc:TypeId×Value→H) (W:World) (base:Nat) (args:Array Value) (ds gs:List (DataW H)) (before:List MemPlace)
  (hval:∀(j:Nat) t v,Tryz.f3.params[j]?=some t→args[j]?=some v→Value.okWide Tryz.prog W .any base t v)
  (hW:DataW.Whole enc Tryz.prog Tryz.f3.params.toList Rows.numberRootsSpec.vars false W args.toList ds gs before) (hL:laidMetH Tryz.prog Rows.numberRootsRow.laid W) (hO:W.ShapedOpen Tryz.prog):
  Calls Tryz.prog 3 args W fun e W'=>∃v,e= .returned v∧Rows.numberRootsSpec.post enc Tryz.prog Tryz.f3 false true false false W args v W':=by
 have hW':=hW
 obtain⟨p,q,hA0,hV,rfl,hfz,hnd⟩:=hW
 have hA:DataW.TrodAll enc Tryz.prog W 0 (fun _=>true) true Tryz.f3.params.toList args.toList ds p:=hA0
 have hA1:=hA
 rw[Tryz.params3]at hA hval
 obtain⟨v0,vs0,d0,ds0,p0,q0,hargs,rfl,rfl,h0,r0⟩:=trodAll_cons hA
 obtain⟨rfl,rfl,rfl⟩:=trodAll_nil r0
 obtain rfl:args= #[v0]:=by cases args;simp_all
 obtain⟨rfl,rfl⟩:=trodVars_none hV
 obtain⟨a,rfl,_,_,_⟩:=open_string Tryz.underlying22 (hval 0 22 v0 rfl rfl) h0
 clear hA0
 have hlt:=hW'.lt
 have hT:∀t∈Tryz.f3.params.toList,Tryz.prog.readableRec t=true∧t<Tryz.prog.types.size:=by
  rw[Tryz.params3]
  intro t ht
  have:t=22:=by simpa using ht
  subst this
  exact⟨by kernel_rfl,of_decide_eq_true (by kernel_rfl)⟩
 have G:L.Glob W W.heap.size:=glob hL (by kernel_rfl) hO
 have walk:=calls_heap (ρ:=(fun _=>⟨0,0,0,0⟩)) (envL G) (f:=3) (by kernel_rfl) (law3 (h:= .nil) (s:=a.data.toList)) (HRel.nil (Nat.le_refl _)) (by simp[oks,ok]) rfl
 have ea:(encs (fun _=>⟨0,0,0,0⟩) [AV.str a.data.toList]).toArray= #[Value.string a]:=by simp[Ae.encs,Ae.enc]
 rw[ea]at walk
 refine walk.mono fun e W' ⟨he,hg⟩=>⟨_,he,?_⟩
 exact post_below (pa:=p0++[]) (pv:=[]) hW' (fun _ _ _=>trodAll_cons_mk (shut_bool Tryz.underlying4 _) trodAll_mk0)
  (fun sp hsp=>trodAll_stays (by kernel_rfl) hg hT hA1 (fun x hx=>hlt x (List.mem_append_left _ hx)) (fun x hx=>hsp x (List.mem_append_left _ hx))) (fun _ _=>rfl) rfl
  hg (ok_one (by kernel_rfl) rfl (okWide_bool_mk Tryz.underlying4 _))
abbrev zs:Array Value:= #[.string ⟨#[]⟩]
theorem laid_met (os:Os):laidMet Tryz.prog Rows.numberRootsRow.laid ((laidWorld os).forCall (fun _ _=>0) ⟨#[],zs,[]⟩).memory:=
 laidMet_of_run3 8 (by kernel_rfl) (by kernel_rfl) (by kernel_rfl)
theorem witness_row (os:Os) {H:Type} (enc:TypeId×Value→H):
    (OpenSpec.ofChange Rows.numberRootsSpec).preRow enc Tryz.prog Tryz.f3 Rows.numberRootsRow.domain false Rows.numberRootsRow.laid ((laidWorld os).forCall (fun _ _=>0) ⟨#[],zs,[]⟩).memory zs:=by
  have hw:(DataW.whole enc Tryz.prog ((laidWorld os).forCall (fun _ _=>0) ⟨#[],zs,[]⟩).memory Tryz.f3.params.toList Rows.numberRootsSpec.vars false zs.toList 8).map (fun x=>(x.1,x.2.1))=
      some ([.lit (.string [])],[]):=by kernel_rfl
  obtain⟨⟨x1,x2,x3⟩,hx,hx1⟩:=Option.map_eq_some_iff.1 hw
  simp only[Prod.mk.injEq]at hx1
  obtain⟨rfl,rfl⟩:=hx1
  exact OpenSpec.preRow_of_cond 8 hx (by kernel_rfl) (fun k hk=>by cases hk) (by kernel_rfl) (by rw[MakeChecks.laidMetH_plain _ _ _ (by kernel_rfl)];exact laid_met os)
theorem lifted (os:Os) (started:os.Started) (H:Type) (enc:TypeId×Value→H) (F:Stop.Interp):
  ReturnsInHanded {} Tryz.checked os 3 .any ((OpenSpec.ofChange Rows.numberRootsSpec).preRow enc Tryz.prog Tryz.f3 Rows.numberRootsRow.domain false Rows.numberRootsRow.laid) (((OpenSpec.ofChange Rows.numberRootsSpec).at F).post enc Tryz.prog Tryz.f3 false true false false):=by
 refine returnsInHanded_of_row (C:=Tryz.checked) (s:=OpenSpec.ofChange Rows.numberRootsSpec) own started (by kernel_rfl) Tryz.func3
  (witness_row_atRef (enc:=enc) (C:=Tryz.checked) false (laidWorld os) zs rfl (by kernel_rfl) (by kernel_rfl) (by kernel_rfl) (witness_row os enc)) ?_
 intro W base args ds gs before hval hW _ _ _ hL hO _
 exact contract H enc W base args ds gs before hval hW hL hO
theorem plain (f:FuncId) (fn:Func) (hf:Tryz.pinned.checked.prog.funcNamed "crux/cruxlaw01.NumberRoots" =some f) (hfn:Tryz.pinned.checked.prog.funcs[f]?=some fn):
  true=Tryz.pinned.checked.prog.looks []∧∀(j:Nat) t,fn.params[j]?=some t→Tryz.pinned.checked.prog.wantsStandIn t=false:=by
 obtain rfl:f=3:=Option.some.inj ((show Tryz.prog.funcNamed "crux/cruxlaw01.NumberRoots" =some 3 by kernel_rfl).symm.trans hf)|>.symm
 obtain rfl:fn=Tryz.f3:=(Option.some.inj (Tryz.func3.symm.trans hfn)).symm
 refine⟨by kernel_rfl,fun j t ht=>?_⟩
 rw[Tryz.params3]at ht
 have:t=22:=by simpa using Array.mem_of_getElem? ht
 subst this
 exact(show Tryz.prog.wantsStandIn 22=false by kernel_rfl)
end Go.Proofs.YtdaggbpeoldmeaaGreatDoor.roots
