/-
  NumberForms returns true for every input: number.IsName, Of and Floor return what the reference returns, or the first error. Condition: the package-level variables that the row lists read as their initialisers lay them.
-/
import Derived.Test.YtdaggbpeoldmeaaGreatDoorM5
import Derived.Test.YtdaggbpeoldmeaaGreatDoorM8
import Derived.Lib.SmallJoins
set_option linter.unusedVariables false
set_option maxRecDepth 100000
namespace Go.Proofs.YtdaggbpeoldmeaaGreatDoor.forms
open Go.ChangeShapes Go.WideShapes Go.ChangeAt Go.RowKit Go.Ae laws
open Go.ChangeMaps (open_string shut_string)
theorem cells35:Tryz.prog.cellsOf 35=2:=by kernel_rfl
theorem cells3:Tryz.prog.cellsOf 3=1:=by kernel_rfl
theorem open_two {H:Type} {enc:TypeId×Value→H} {W:World} {r:Reach} {b0 base:Nat} {sp:Nat→Bool} {hd:Bool} {v:Value} {d:DataW H} {p:List MemPlace} (hv:Value.okWide Tryz.prog W r b0 35 v) (h:DataW.Trod enc Tryz.prog W base sp hd 35 v d p):
    ∃x y,v= .agg #[.int .i64 x,.int .i64 y]∧(Lit.int .i64 x).wf=true∧(Lit.int .i64 y).wf=true:=by
  unfold Value.okWide at hv
  rw[Tryz.underlying35]at hv
  obtain⟨cs,rfl,hsz,_⟩:=hv
  obtain⟨c0,c1,rfl⟩:=Go.Joins.array2 (hsz.trans cells35)
  obtain⟨fuel,hf⟩:=h
  obtain⟨xs,m,_,_,_,hl,hx⟩:=DataW.trod_array Tryz.underlying35 hf
  obtain⟨y0,e0⟩:∃y,xs[0]?=some y:=⟨_,List.getElem?_eq_getElem (by omega)⟩
  obtain⟨y1,e1⟩:∃y,xs[1]?=some y:=⟨_,List.getElem?_eq_getElem (by omega)⟩
  obtain⟨x,s0,_,w0⟩:=DataW.trod_int Tryz.underlying3 ((hx 0 (by omega)).trans e0)
  obtain⟨y,s1,_,w1⟩:=DataW.trod_int Tryz.underlying3 ((hx 1 (by omega)).trans e1)
  rw[cells3]at s0 s1
  simp[Value.cells]at s0 s1
  subst s0 s1
  exact⟨x,y,rfl,w0,w1⟩
theorem envL {W0:World} {base:Nat} (G:L.Glob W0 base):EnvOk Tryz.prog W0 base EF:=(envX G).add Go.Ae.F.good
theorem contract (H:Type) (enc:TypeId×Value→H) (W:World) (base:Nat) (args:Array Value) (ds gs:List (DataW H)) (before:List MemPlace)
    (hval:∀(j:Nat) t v,Tryz.f15.params[j]?=some t→args[j]?=some v→Value.okWide Tryz.prog W .any base t v)
    (hW:DataW.Whole enc Tryz.prog Tryz.f15.params.toList Rows.numberFormsSpec.vars false W args.toList ds gs before) (hL:laidMetH Tryz.prog Rows.numberFormsRow.laid W) (hO:W.ShapedOpen Tryz.prog):
    Calls Tryz.prog 15 args W fun e W'=>∃v,e= .returned v∧Rows.numberFormsSpec.post enc Tryz.prog Tryz.f15 false true false false W args v W':=by
  have hW':=hW
  obtain⟨p,q,hA0,hV,rfl,hfz,hnd⟩:=hW
  have hA:DataW.TrodAll enc Tryz.prog W 0 (fun _=>true) true Tryz.f15.params.toList args.toList ds p:=hA0
  have hA1:=hA
  rw[Tryz.params15]at hA hval
  obtain⟨v0,vs0,d0,ds0,p0,q0,hargs,rfl,rfl,h0,r0⟩:=trodAll_cons hA
  obtain⟨v1,vs1,d1,ds1,p1,q1,rfl,rfl,rfl,h1,r1⟩:=trodAll_cons r0
  obtain⟨v2,vs2,d2,ds2,p2,q2,rfl,rfl,rfl,h2,r2⟩:=trodAll_cons r1
  obtain⟨rfl,rfl,rfl⟩:=trodAll_nil r2
  obtain rfl:args= #[v0,v1,v2]:=by cases args;simp_all
  obtain⟨rfl,rfl⟩:=trodVars_none hV
  obtain⟨a,rfl,_,_,_⟩:=open_string Tryz.underlying9 (hval 0 9 v0 rfl rfl) h0
  obtain⟨b0,b1,rfl,_,_⟩:=open_two (hval 1 35 v1 rfl rfl) h1
  obtain⟨c,rfl,_,_,_⟩:=open_string Tryz.underlying22 (hval 2 22 v2 rfl rfl) h2
  clear hA0
  have hlt:=hW'.lt
  have hT:∀t∈Tryz.f15.params.toList,Tryz.prog.readableRec t=true∧t<Tryz.prog.types.size:=by
    rw[Tryz.params15]
    intro t ht
    have:t=9∨t=35∨t=22:=by simpa using ht
    rcases this with rfl|rfl|rfl
    · exact⟨by kernel_rfl,of_decide_eq_true (by kernel_rfl)⟩
    · exact⟨by kernel_rfl,of_decide_eq_true (by kernel_rfl)⟩
    · exact⟨by kernel_rfl,of_decide_eq_true (by kernel_rfl)⟩
  have G:L.Glob W W.heap.size:=glob hL (by kernel_rfl) hO
  have walk:=calls_heap (ρ:=(fun _=>⟨0,0,0,0⟩)) (envL G) (f:=15) (by kernel_rfl) (law15 (h:= .nil) (s:=a.data.toList) (u:=c.data.toList) (x:=b0) (y:=b1)) (HRel.nil (Nat.le_refl _)) (by simp[oks,ok]) rfl
  have ea:(encs (fun _=>⟨0,0,0,0⟩) [AV.str a.data.toList,.agg [.int .i64 b0,.int .i64 b1],.str c.data.toList]).toArray= #[Value.string a,Value.agg #[.int .i64 b0,.int .i64 b1],Value.string c]:=by simp[Ae.encs,Ae.enc]
  rw[ea]at walk
  refine walk.mono fun e W' ⟨he,hg⟩=>⟨_,he,?_⟩
  exact post_below (pa:=p0++(p1++(p2++[]))) (pv:=[]) hW' (fun _ _ _=>trodAll_cons_mk (shut_bool Tryz.underlying4 _) trodAll_mk0)
    (fun sp hsp=>trodAll_stays (by kernel_rfl) hg hT hA1 (fun x hx=>hlt x (List.mem_append_left _ hx)) (fun x hx=>hsp x (List.mem_append_left _ hx))) (fun _ _=>rfl) rfl
    hg (ok_one (by kernel_rfl) rfl (okWide_bool_mk Tryz.underlying4 _))
abbrev zs:Array Value:= #[.string ⟨#[]⟩,.agg #[.int .i64 0,.int .i64 0],.string ⟨#[]⟩]
theorem laid_met (os:Os):laidMet Tryz.prog Rows.numberFormsRow.laid ((laidWorld os).forCall (fun _ _=>0) ⟨#[],zs,[]⟩).memory:=
  laidMet_of_run3 8 (by kernel_rfl) (by kernel_rfl) (by kernel_rfl)
theorem witness_row (os:Os) {H:Type} (enc:TypeId×Value→H):
    (OpenSpec.ofChange Rows.numberFormsSpec).preRow enc Tryz.prog Tryz.f15 Rows.numberFormsRow.domain false Rows.numberFormsRow.laid ((laidWorld os).forCall (fun _ _=>0) ⟨#[],zs,[]⟩).memory zs:=by
  have hw:(DataW.whole enc Tryz.prog ((laidWorld os).forCall (fun _ _=>0) ⟨#[],zs,[]⟩).memory Tryz.f15.params.toList Rows.numberFormsSpec.vars false zs.toList 8).map (fun x=>(x.1,x.2.1))=
      some ([.lit (.string []),.agg [.lit (.int .i64 0),.lit (.int .i64 0)],.lit (.string [])],[]):=by kernel_rfl
  obtain⟨⟨x1,x2,x3⟩,hx,hx1⟩:=Option.map_eq_some_iff.1 hw
  simp only[Prod.mk.injEq]at hx1
  obtain⟨rfl,rfl⟩:=hx1
  exact OpenSpec.preRow_of_cond 8 hx (by kernel_rfl) (fun k hk=>by cases hk) (by kernel_rfl) (by rw[MakeChecks.laidMetH_plain _ _ _ (by kernel_rfl)];exact laid_met os)
theorem lifted (os:Os) (started:os.Started) (H:Type) (enc:TypeId×Value→H) (F:Stop.Interp):
    ReturnsInHanded {} Tryz.checked os 15 .any ((OpenSpec.ofChange Rows.numberFormsSpec).preRow enc Tryz.prog Tryz.f15 Rows.numberFormsRow.domain false Rows.numberFormsRow.laid) (((OpenSpec.ofChange Rows.numberFormsSpec).at F).post enc Tryz.prog Tryz.f15 false true false false):=by
  refine returnsInHanded_of_row (C:=Tryz.checked) (s:=OpenSpec.ofChange Rows.numberFormsSpec) own started (by kernel_rfl) Tryz.func15
    (witness_row_atRef (enc:=enc) (C:=Tryz.checked) false (laidWorld os) zs rfl (by kernel_rfl) (by kernel_rfl) (by kernel_rfl) (witness_row os enc)) ?_
  intro W base args ds gs before hval hW _ _ _ hL hO _
  exact contract H enc W base args ds gs before hval hW hL hO
theorem plain (f:FuncId) (fn:Func) (hf:Tryz.pinned.checked.prog.funcNamed "crux/cruxlaw01.NumberForms" =some f) (hfn:Tryz.pinned.checked.prog.funcs[f]?=some fn):
    true=Tryz.pinned.checked.prog.looks []∧∀(j:Nat) t,fn.params[j]?=some t→Tryz.pinned.checked.prog.wantsStandIn t=false:=by
  obtain rfl:f=15:=Option.some.inj ((show Tryz.prog.funcNamed "crux/cruxlaw01.NumberForms" =some 15 by kernel_rfl).symm.trans hf)|>.symm
  obtain rfl:fn=Tryz.f15:=(Option.some.inj (Tryz.func15.symm.trans hfn)).symm
  refine⟨by kernel_rfl,fun j t ht=>?_⟩
  rw[Tryz.params15]at ht
  have:t=9∨t=35∨t=22:=by simpa using Array.mem_of_getElem? ht
  rcases this with rfl|rfl|rfl
  · exact(show Tryz.prog.wantsStandIn 9=false by kernel_rfl)
  · exact(show Tryz.prog.wantsStandIn 35=false by kernel_rfl)
  · exact(show Tryz.prog.wantsStandIn 22=false by kernel_rfl)
end Go.Proofs.YtdaggbpeoldmeaaGreatDoor.forms
