/-
  NumberEncloses returns true for every input: whatever numbers two spans have, their sum, difference, product and quotient are in the span that the program computes, whose ends are such numbers themselves; and a span that is wider gives no narrower one. Condition: the package-level variables that the row lists read as their initialisers lay them.
-/
import Derived.Test.YtdaggbpeoldmeaaGreatDoorM5
import Derived.Test.YtdaggbpeoldmeaaGreatDoorM8
import Derived.Lib.SmallJoins
set_option linter.unusedVariables false
set_option maxRecDepth 100000
namespace Go.Proofs.YtdaggbpeoldmeaaGreatDoor.encloses
open Go.ChangeShapes Go.WideShapes Go.ChangeAt Go.RowKit Go.Ae laws
open Go.ChangeMaps (open_string shut_string)
theorem open_pair {H:Type} {enc:TypeId×Value→H} {W:World} {r:Reach} {b0 base:Nat} {sp:Nat→Bool} {hd:Bool} {v:Value} {d:DataW H} {p:List MemPlace} (hv:Value.okWide Tryz.prog W r b0 25 v) (h:DataW.Trod enc Tryz.prog W base sp hd 25 v d p):
  ∃x y:ByteArray,v= .agg #[.string x,.string y]:=by
 obtain⟨v0,v1,y0,y1,n,rfl,rfl,rfl,h0,h1⟩:=Go.Joins.open_agg2 Tryz.underlying25 (by kernel_rfl) (by kernel_rfl) hv h
 obtain⟨x,e0,_,_⟩:=DataW.trod_string Tryz.underlying22 h0
 obtain⟨y,e1,_,_⟩:=DataW.trod_string Tryz.underlying22 h1
 injection e0 with e0;injection e1 with e1
 subst e0;subst e1
 exact⟨x,y,rfl⟩
theorem open_part {H:Type} {enc:TypeId×Value→H} {W:World} {r:Reach} {b0 base:Nat} {sp:Nat→Bool} {hd:Bool} {v:Value} {d:DataW H} {p:List MemPlace} (hv:Value.okWide Tryz.prog W r b0 100 v) (h:DataW.Trod enc Tryz.prog W base sp hd 100 v d p):
  ∃x y:Int,v= .agg #[.int .u8 x,.int .u8 y]∧(0≤x∧x≤255)∧(0≤y∧y≤255):=by
 obtain⟨v0,v1,y0,y1,n,rfl,rfl,rfl,h0,h1⟩:=Go.Joins.open_agg2 Tryz.underlying100 (by kernel_rfl) (by kernel_rfl) hv h
 obtain⟨x,e0,_,w0⟩:=DataW.trod_int Tryz.underlying5 h0
 obtain⟨y,e1,_,w1⟩:=DataW.trod_int Tryz.underlying5 h1
 injection e0 with e0;injection e1 with e1
 subst e0;subst e1
 exact⟨x,y,rfl,bounds_u8 w0,bounds_u8 w1⟩
theorem envL {W0:World} {base:Nat} (G:L.Glob W0 base):EnvOk Tryz.prog W0 base EH:=((envX G).add Go.Ae.F.good).add Go.Ae.Ha.good
theorem contract (H:Type) (enc:TypeId×Value→H) (W:World) (base:Nat) (args:Array Value) (ds gs:List (DataW H)) (before:List MemPlace)
  (hval:∀(j:Nat) t v,Tryz.f11.params[j]?=some t→args[j]?=some v→Value.okWide Tryz.prog W .any base t v)
  (hW:DataW.Whole enc Tryz.prog Tryz.f11.params.toList Rows.numberEnclosesSpec.vars false W args.toList ds gs before) (hL:laidMetH Tryz.prog Rows.numberEnclosesRow.laid W) (hO:W.ShapedOpen Tryz.prog):
  Calls Tryz.prog 11 args W fun e W'=>∃v,e= .returned v∧Rows.numberEnclosesSpec.post enc Tryz.prog Tryz.f11 false true false false W args v W':=by
 have hW':=hW
 obtain⟨p,q,hA0,hV,rfl,hfz,hnd⟩:=hW
 have hA:DataW.TrodAll enc Tryz.prog W 0 (fun _=>true) true Tryz.f11.params.toList args.toList ds p:=hA0
 have hA1:=hA
 rw[Tryz.params11]at hA hval
 obtain⟨v0,vs0,d0,ds0,p0,q0,hargs,rfl,rfl,h0,r0⟩:=trodAll_cons hA
 obtain⟨v1,vs1,d1,ds1,p1,q1,rfl,rfl,rfl,h1,r1⟩:=trodAll_cons r0
 obtain⟨v2,vs2,d2,ds2,p2,q2,rfl,rfl,rfl,h2,r2⟩:=trodAll_cons r1
 obtain⟨rfl,rfl,rfl⟩:=trodAll_nil r2
 obtain rfl:args= #[v0,v1,v2]:=by cases args;simp_all
 obtain⟨rfl,rfl⟩:=trodVars_none hV
 obtain⟨a0,a1,rfl⟩:=open_pair (hval 0 25 v0 rfl rfl) h0
 obtain⟨b0,b1,rfl⟩:=open_pair (hval 1 25 v1 rfl rfl) h1
 obtain⟨c0,c1,rfl,bc0,bc1⟩:=open_part (hval 2 100 v2 rfl rfl) h2
 clear hA0
 have hlt:=hW'.lt
 have hT:∀t∈Tryz.f11.params.toList,Tryz.prog.readableRec t=true∧t<Tryz.prog.types.size:=by
  rw[Tryz.params11]
  intro t ht
  have:t=25∨t=100:=by simpa using ht
  rcases this with rfl|rfl
  ·exact⟨by kernel_rfl,of_decide_eq_true (by kernel_rfl)⟩
  ·exact⟨by kernel_rfl,of_decide_eq_true (by kernel_rfl)⟩
 have G:L.Glob W W.heap.size:=glob hL (by kernel_rfl) hO
 have walk:=calls_heap (ρ:=(fun _=>⟨0,0,0,0⟩)) (envL G) (f:=11) (by kernel_rfl) (law11 (h:= .nil) (s:=a0.data.toList) (u:=a1.data.toList) (s':=b0.data.toList) (u':=b1.data.toList) bc0 bc1) (HRel.nil (Nat.le_refl _)) (by simp[oks,ok]) rfl
 have ea:(encs (fun _=>⟨0,0,0,0⟩) [AV.agg [.str a0.data.toList,.str a1.data.toList],.agg [.str b0.data.toList,.str b1.data.toList],.agg [.int .u8 c0,.int .u8 c1]]).toArray= #[Value.agg #[.string a0,.string a1],Value.agg #[.string b0,.string b1],Value.agg #[.int .u8 c0,.int .u8 c1]]:=by simp[Ae.encs,Ae.enc]
 rw[ea]at walk
 refine walk.mono fun e W' ⟨he,hg⟩=>⟨_,he,?_⟩
 exact post_below (pa:=p0++(p1++(p2++[]))) (pv:=[]) hW' (fun _ _ _=>trodAll_cons_mk (shut_bool Tryz.underlying4 _) trodAll_mk0)
  (fun sp hsp=>trodAll_stays (by kernel_rfl) hg hT hA1 (fun x hx=>hlt x (List.mem_append_left _ hx)) (fun x hx=>hsp x (List.mem_append_left _ hx))) (fun _ _=>rfl) rfl
  hg (ok_one (by kernel_rfl) rfl (okWide_bool_mk Tryz.underlying4 _))
abbrev zs:Array Value:= #[.agg #[.string ⟨#[]⟩,.string ⟨#[]⟩],.agg #[.string ⟨#[]⟩,.string ⟨#[]⟩],.agg #[.int .u8 0,.int .u8 0]]
theorem laid_met (os:Os):laidMet Tryz.prog Rows.numberEnclosesRow.laid ((laidWorld os).forCall (fun _ _=>0) ⟨#[],zs,[]⟩).memory:=
 laidMet_of_run3 8 (by kernel_rfl) (by kernel_rfl) (by kernel_rfl)
theorem witness_row (os:Os) {H:Type} (enc:TypeId×Value→H):
    (OpenSpec.ofChange Rows.numberEnclosesSpec).preRow enc Tryz.prog Tryz.f11 Rows.numberEnclosesRow.domain false Rows.numberEnclosesRow.laid ((laidWorld os).forCall (fun _ _=>0) ⟨#[],zs,[]⟩).memory zs:=by
  have hw:(DataW.whole enc Tryz.prog ((laidWorld os).forCall (fun _ _=>0) ⟨#[],zs,[]⟩).memory Tryz.f11.params.toList Rows.numberEnclosesSpec.vars false zs.toList 8).map (fun x=>(x.1,x.2.1))=
      some ([.agg [.lit (.string []),.lit (.string [])],.agg [.lit (.string []),.lit (.string [])],.agg [.lit (.int .u8 0),.lit (.int .u8 0)]],[]):=by kernel_rfl
  obtain⟨⟨x1,x2,x3⟩,hx,hx1⟩:=Option.map_eq_some_iff.1 hw
  simp only[Prod.mk.injEq]at hx1
  obtain⟨rfl,rfl⟩:=hx1
  exact OpenSpec.preRow_of_cond 8 hx (by kernel_rfl) (fun k hk=>by cases hk) (by kernel_rfl) (by rw[MakeChecks.laidMetH_plain _ _ _ (by kernel_rfl)];exact laid_met os)
theorem lifted (os:Os) (started:os.Started) (H:Type) (enc:TypeId×Value→H) (F:Stop.Interp):
  ReturnsInHanded {} Tryz.checked os 11 .any ((OpenSpec.ofChange Rows.numberEnclosesSpec).preRow enc Tryz.prog Tryz.f11 Rows.numberEnclosesRow.domain false Rows.numberEnclosesRow.laid) (((OpenSpec.ofChange Rows.numberEnclosesSpec).at F).post enc Tryz.prog Tryz.f11 false true false false):=by
 refine returnsInHanded_of_row (C:=Tryz.checked) (s:=OpenSpec.ofChange Rows.numberEnclosesSpec) own started (by kernel_rfl) Tryz.func11
  (witness_row_atRef (enc:=enc) (C:=Tryz.checked) false (laidWorld os) zs rfl (by kernel_rfl) (by kernel_rfl) (by kernel_rfl) (witness_row os enc)) ?_
 intro W base args ds gs before hval hW _ _ _ hL hO _
 exact contract H enc W base args ds gs before hval hW hL hO
theorem plain (f:FuncId) (fn:Func) (hf:Tryz.pinned.checked.prog.funcNamed "crux/cruxlaw01.NumberEncloses" =some f) (hfn:Tryz.pinned.checked.prog.funcs[f]?=some fn):
  true=Tryz.pinned.checked.prog.looks []∧∀(j:Nat) t,fn.params[j]?=some t→Tryz.pinned.checked.prog.wantsStandIn t=false:=by
 obtain rfl:f=11:=Option.some.inj ((show Tryz.prog.funcNamed "crux/cruxlaw01.NumberEncloses" =some 11 by kernel_rfl).symm.trans hf)|>.symm
 obtain rfl:fn=Tryz.f11:=(Option.some.inj (Tryz.func11.symm.trans hfn)).symm
 refine⟨by kernel_rfl,fun j t ht=>?_⟩
 rw[Tryz.params11]at ht
 have:t=25∨t=100:=by simpa using Array.mem_of_getElem? ht
 rcases this with rfl|rfl
 ·exact(show Tryz.prog.wantsStandIn 25=false by kernel_rfl)
 ·exact(show Tryz.prog.wantsStandIn 100=false by kernel_rfl)
end Go.Proofs.YtdaggbpeoldmeaaGreatDoor.encloses
