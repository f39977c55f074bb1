/-
  NumberSums returns true for every two texts: number.Check, Add, Sub, Mul, Div and Order of them return what the reference returns, or the first error. Condition: the package-level variables that the row lists read as their initialisers lay them.
-/
import Derived.Test.YtdaggbpeoldmeaaGreatDoorM5
import Derived.Test.YtdaggbpeoldmeaaGreatDoorM8
set_option linter.unusedVariables false
set_option maxRecDepth 100000
namespace Go.Proofs.YtdaggbpeoldmeaaGreatDoor.sums
open Go.ChangeShapes Go.WideShapes Go.ChangeAt Go.RowKit Go.Ae laws
open Go.ChangeMaps (open_string shut_string)
theorem envF {W0:World} {base:Nat} (G:L.Glob W0 base):EnvOk Tryz.prog W0 base EF:=(envX G).add Go.Ae.F.good
theorem contract (H:Type) (enc:TypeId×Value→H) (W:World) (base:Nat) (args:Array Value) (ds gs:List (DataW H)) (before:List MemPlace)
    (hval:∀(j:Nat) t v,Tryz.f16.params[j]?=some t→args[j]?=some v→Value.okWide Tryz.prog W .any base t v)
    (hW:DataW.Whole enc Tryz.prog Tryz.f16.params.toList Rows.numberSumsSpec.vars false W args.toList ds gs before) (hL:laidMetH Tryz.prog Rows.numberSumsRow.laid W) (hO:W.ShapedOpen Tryz.prog):
    Calls Tryz.prog 16 args W fun e W'=>∃v,e= .returned v∧Rows.numberSumsSpec.post enc Tryz.prog Tryz.f16 false true false false W args v W':=by
  have hW':=hW
  obtain⟨p,q,hA0,hV,rfl,hfz,hnd⟩:=hW
  have hA:DataW.TrodAll enc Tryz.prog W 0 (fun _=>true) true Tryz.f16.params.toList args.toList ds p:=hA0
  rw[Tryz.params16]at hA hval
  obtain⟨v0,vs0,d0,ds0,p0,q0,hargs,rfl,rfl,h0,r0⟩:=trodAll_cons hA
  obtain⟨v1,vs1,d1,ds1,p1,q1,rfl,rfl,rfl,h1,r1⟩:=trodAll_cons r0
  obtain⟨rfl,rfl,rfl⟩:=trodAll_nil r1
  obtain rfl:args= #[v0,v1]:=by cases args;simp_all
  obtain⟨rfl,rfl⟩:=trodVars_none hV
  obtain⟨a,rfl,rfl,rfl,ha⟩:=open_string Tryz.underlying22 (hval 0 22 v0 rfl rfl) h0
  obtain⟨b,rfl,rfl,rfl,hb⟩:=open_string Tryz.underlying22 (hval 1 22 v1 rfl rfl) h1
  clear hA0
  simp only[List.append_nil]at hW'
  have G:L.Glob W W.heap.size:=glob hL (by kernel_rfl) hO
  obtain⟨h',hc,hg0⟩:=law16 (h:= .nil) (s:=a.data.toList) (u:=b.data.toList)
  have walk:=calls_of (envF G) (f:=16) (by kernel_rfl) ⟨_,_,hc.choose_spec⟩ rfl rfl (Below.refl _ _) (Nat.le_refl _) (fun _=>⟨0,0,0,0⟩)
  have ea:(encs (fun _=>⟨0,0,0,0⟩) [AV.str a.data.toList,AV.str b.data.toList]).toArray= #[Value.string a,.string b]:=by simp[Ae.encs,Ae.enc]
  rw[ea]at walk
  refine walk.mono fun e W' ⟨he,hg⟩=>?_
  subst he
  exact⟨_,rfl,post_below (pa:=[]) (pv:=[]) hW' (fun _ _ _=>trodAll_cons_mk (shut_bool Tryz.underlying4 _) trodAll_mk0)
    (fun _ _=>trodAll_cons_mk (shut_string Tryz.underlying22 ha) (trodAll_cons_mk (shut_string Tryz.underlying22 hb) trodAll_mk0)) (fun _ _=>rfl) rfl
    hg (ok_one (by kernel_rfl) rfl (okWide_bool_mk Tryz.underlying4 _))⟩
abbrev z1:Value:= .string ⟨#[]⟩
theorem laid_met (os:Os):laidMet Tryz.prog Rows.numberSumsRow.laid ((laidWorld os).forCall (fun _ _=>0) ⟨#[], #[z1,z1],[]⟩).memory:=
  laidMet_of_run3 8 (by kernel_rfl) (by kernel_rfl) (by kernel_rfl)
theorem witness_row (os:Os) {H:Type} (enc:TypeId×Value→H):
    (OpenSpec.ofChange Rows.numberSumsSpec).preRow enc Tryz.prog Tryz.f16 Rows.numberSumsRow.domain false Rows.numberSumsRow.laid ((laidWorld os).forCall (fun _ _=>0) ⟨#[], #[z1,z1],[]⟩).memory #[z1,z1]:=by
  have hw:(DataW.whole enc Tryz.prog ((laidWorld os).forCall (fun _ _=>0) ⟨#[], #[z1,z1],[]⟩).memory Tryz.f16.params.toList Rows.numberSumsSpec.vars false #[z1,z1].toList 8).map (fun x=>(x.1,x.2.1))=
      some ([.lit (.string []),.lit (.string [])],[]):=by kernel_rfl
  obtain⟨⟨x1,x2,x3⟩,hx,hx1⟩:=Option.map_eq_some_iff.1 hw
  simp only[Prod.mk.injEq]at hx1
  obtain⟨rfl,rfl⟩:=hx1
  exact OpenSpec.preRow_of_cond 8 hx (by kernel_rfl) (fun k hk=>by cases hk) (by kernel_rfl) (by rw[MakeChecks.laidMetH_plain _ _ _ (by kernel_rfl)];exact laid_met os)
theorem lifted (os:Os) (started:os.Started) (H:Type) (enc:TypeId×Value→H) (F:Stop.Interp):
    ReturnsInHanded {} Tryz.checked os 16 .any ((OpenSpec.ofChange Rows.numberSumsSpec).preRow enc Tryz.prog Tryz.f16 Rows.numberSumsRow.domain false Rows.numberSumsRow.laid) (((OpenSpec.ofChange Rows.numberSumsSpec).at F).post enc Tryz.prog Tryz.f16 false true false false):=by
  refine returnsInHanded_of_row (C:=Tryz.checked) (s:=OpenSpec.ofChange Rows.numberSumsSpec) own started (by kernel_rfl) Tryz.func16
    (witness_row_atRef (enc:=enc) (C:=Tryz.checked) false (laidWorld os) #[z1,z1] rfl (by kernel_rfl) (by kernel_rfl) (by kernel_rfl) (witness_row os enc)) ?_
  intro W base args ds gs before hval hW _ _ _ hL hO _
  exact contract H enc W base args ds gs before hval hW hL hO
theorem plain (f:FuncId) (fn:Func) (hf:Tryz.pinned.checked.prog.funcNamed "crux/cruxlaw01.NumberSums" =some f) (hfn:Tryz.pinned.checked.prog.funcs[f]?=some fn):
    true=Tryz.pinned.checked.prog.looks []∧∀(j:Nat) t,fn.params[j]?=some t→Tryz.pinned.checked.prog.wantsStandIn t=false:=by
  obtain rfl:f=16:=Option.some.inj ((show Tryz.prog.funcNamed "crux/cruxlaw01.NumberSums" =some 16 by kernel_rfl).symm.trans hf)|>.symm
  obtain rfl:fn=Tryz.f16:=(Option.some.inj (Tryz.func16.symm.trans hfn)).symm
  refine⟨by kernel_rfl,fun j t ht=>?_⟩
  rw[Tryz.params16]at ht
  have:t=22:=by simpa using Array.mem_of_getElem? ht
  subst this
  exact(show Tryz.prog.wantsStandIn 22=false by kernel_rfl)
end Go.Proofs.YtdaggbpeoldmeaaGreatDoor.sums
