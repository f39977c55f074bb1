/-
  NumberSystems returns true for every input: number.Solve returns what the reference returns, or the first error. Condition: the package-level variables that the row lists read as their initialisers lay them.
-/
import Derived.Test.YtdaggbpeoldmeaaGreatDoorM5
import Derived.Test.YtdaggbpeoldmeaaGreatDoorM9
open List renaming mem_append_left → lT
open Option.some renaming inj → aa
set_option linter.unusedVariables false
set_option maxRecDepth 100000
namespace Go.Proofs.YtdaggbpeoldmeaaGreatDoor.systems
open Go.ChangeShapes Go.WideShapes Go.ChangeAt Go.RowKit Go.Ae laws
open Go.ChangeMaps (open_string shut_string)
theorem KE:Tryz.prog.cellsOf 47=1:=by kernel_rfl
theorem Dk:Tryz.prog.cellsOf 22=1:=by kernel_rfl
theorem WL {W0:World}{base:Nat}(G:L.kz W0 base):fC Tryz.prog W0 base EM:=(WJ G).add Go.Ae.Hf.xh
theorem H8 (H:Type)(enc:TypeId×Value→H)(W:World)(base:Nat)(args:Array Value)(ds gs:List (DataW H))(before:List MemPlace)
  (Hj:∀(j:Nat) t v,Tryz.f5.params[j]?=some t→args[j]?=some v→Value.okWide Tryz.prog W .any base t v)
  (hW:DataW.Whole enc Tryz.prog Tryz.f5.params.toList Rows.numberSystemsSpec.vars false W args.toList ds gs before) (hL:laidMetH Tryz.prog Rows.numberSystemsRow.laid W) (hO:W.ShapedOpen Tryz.prog):
  Calls Tryz.prog 5 args W fun e W'=>∃v,e= .returned v∧Rows.numberSystemsSpec.post enc Tryz.prog Tryz.f5 false true false false W args v W':=by
 have hW':=hW;obtain⟨p,q,hA0,hV,rfl,hfz,hnd⟩:=hW;have hA:DataW.TrodAll enc Tryz.prog W 0 (fun _=>true) true Tryz.f5.params.toList args.toList ds p:=hA0;have hA1:=hA;rw[Tryz.params5]at hA Hj;obtain⟨v0,vs0,d0,ds0,p0,q0,tS,rfl,rfl,h0,r0⟩:=trodAll_cons hA;obtain⟨v1,vs1,d1,ds1,p1,q1,rfl,rfl,rfl,h1,r1⟩:=trodAll_cons r0;obtain⟨rfl,rfl,rfl⟩:=trodAll_nil r1;obtain rfl:args= #[v0,v1]:=by cases args;simp_all
 obtain⟨rfl,rfl⟩:=trodVars_none hV;clear hA0;have hlt:=hW'.lt
 have hT:∀t∈Tryz.f5.params.toList,Tryz.prog.readableRec t=true∧t<Tryz.prog.types.size:=by
  rw[Tryz.params5];intro t ht;have:t=46∨t=47:=by simpa using ht
  rcases this with rfl|rfl
  ·exact⟨by kernel_rfl,of_decide_eq_true (by kernel_rfl)⟩
  ·exact⟨by kernel_rfl,of_decide_eq_true (by kernel_rfl)⟩
 have fin:∀W',Below W.heap.size W W'→Rows.numberSystemsSpec.post enc Tryz.prog Tryz.f5 false true false false W #[v0,v1] (.bool true) W':=fun W' hg=>
  AU (pa:=p0++(p1++[])) (pv:=[]) hW' (fun _ _ _=>trodAll_cons_mk (shut_bool Tryz.underlying4 _) trodAll_mk0)
   (fun sp hsp=>oY (by kernel_rfl) hg hT hA1 (fun x hx=>hlt x (lT _ hx)) (fun x hx=>hsp x (lT _ hx))) (fun _ _=>rfl) rfl
   hg (ok_one (by kernel_rfl) rfl (okWide_bool_mk Tryz.underlying4 _))
 have G:L.kz W W.heap.size:=oO hL (by kernel_rfl) hO
 obtain⟨ρ1,hp1,x1,R1,e1,o1,m,M1⟩:∃ρ1 hp1 x1,bv W.heap.size ρ1 hp1 W∧Ae.enc ρ1 x1=v0∧ok ρ1 hp1.next x1∧∃m,je hp1 x1 m:=by
  have R0:bv W.heap.size (fun _=>⟨0,0,0,0⟩) .nil W:=bv.nil (Nat.le_refl _);rcases wo Tryz.underlying46 (Hj 0 46 v0 rfl rfl)with rfl|⟨b,o,len,cap,rfl,IR,hb⟩
  ·exact⟨_,_,.aq,R0,by simp[Ae.enc],by simp[ok],[],je.nil⟩
  ·obtain⟨l,rfl,hl,hr⟩:=Gw Tryz.underlying46 Tryz.underlying47 Tryz.underlying22 KE Dk h0;obtain⟨ρ2,hp2,x2,A2,G2,R2,e2,o2,M2⟩:=Oh hl IR hb hr R0;exact⟨ρ2,hp2,x2,R2,e2,o2,_,M2⟩
 obtain⟨k,hk⟩:∃k,Rv W v1 k:=by
  obtain⟨fuel,hf⟩:=h1;rcases wo Tryz.underlying47 (Hj 1 47 v1 rfl rfl)with rfl|⟨b,o,len,cap,rfl,IR,hb⟩
  ·exact⟨[],.inl ⟨rfl,rfl⟩⟩
  ·obtain⟨u,k,hcs,hk⟩:=yH Tryz.underlying47 Tryz.underlying22 Dk hf;simp[Value.cells]at hcs;subst hcs;exact⟨k,hk⟩
 obtain⟨ρ2,hp2,x2,A2,G2,R2,e2,o2,n2,B2⟩:=FW hk R1;have law:=U9 (h:=hp2) (v:=x1) (vb:=x2) (M1.aO G2) B2;have walk:=BW (WL G) (f:=5) (by kernel_rfl) law R2 (by simp only[gP];exact⟨fy A2 G2.next x1 o1,o2,trivial⟩) rfl;have ea:(encs ρ2 [x1,x2]).toArray= #[v0,v1]:=by simp only[Ae.encs,e2,du A2 x1 o1,e1]
 rw[ea]at walk;exact walk.mono fun e W' ⟨he,hg⟩=>⟨_,he,fin W' hg⟩
abbrev z1:Value:= .slice none 0 0
abbrev z2:Value:= .slice none 0 0
theorem GY (os:Os):laidMet Tryz.prog Rows.numberSystemsRow.laid ((oD os).forCall (fun _ _=>0) ⟨#[], #[z1,z2],[]⟩).memory:=
 laidMet_of_run3 8 (by kernel_rfl) (by kernel_rfl) (by kernel_rfl)
theorem yb (os:Os){H:Type}(enc:TypeId×Value→H):
    (OpenSpec.ofChange Rows.numberSystemsSpec).preRow enc Tryz.prog Tryz.f5 Rows.numberSystemsRow.domain false Rows.numberSystemsRow.laid ((oD os).forCall (fun _ _=>0) ⟨#[], #[z1,z2],[]⟩).memory #[z1,z2]:=by
  have hw:(DataW.whole enc Tryz.prog ((oD os).forCall (fun _ _=>0) ⟨#[], #[z1,z2],[]⟩).memory Tryz.f5.params.toList Rows.numberSystemsSpec.vars false #[z1,z2].toList 8).map (fun x=>(x.1,x.2.1))=
      some ([.nil,.nil],[]):=by kernel_rfl
  obtain⟨⟨x1,x2,x3⟩,hx,hx1⟩:=Option.map_eq_some_iff.1 hw;simp only[Prod.mk.injEq]at hx1;obtain⟨rfl,rfl⟩:=hx1;exact OpenSpec.preRow_of_cond 8 hx (by kernel_rfl) (fun k hk=>by cases hk) (by kernel_rfl) (by rw[MakeChecks.laidMetH_plain _ _ _ (by kernel_rfl)];exact GY os)
theorem lifted (os:Os)(started:os.Started)(H:Type)(enc:TypeId×Value→H)(F:Stop.Interp):
  ReturnsInHanded {} Tryz.checked os 5 .any ((OpenSpec.ofChange Rows.numberSystemsSpec).preRow enc Tryz.prog Tryz.f5 Rows.numberSystemsRow.domain false Rows.numberSystemsRow.laid) (((OpenSpec.ofChange Rows.numberSystemsSpec).at F).post enc Tryz.prog Tryz.f5 false true false false):=by
 refine returnsInHanded_of_row (C:=Tryz.checked) (s:=OpenSpec.ofChange Rows.numberSystemsSpec) own started (by kernel_rfl) Tryz.func5
  (witness_row_atRef (enc:=enc) (C:=Tryz.checked) false (oD os) #[z1,z2] rfl (by kernel_rfl) (by kernel_rfl) (by kernel_rfl) (yb os enc)) ?_
 intro W base args ds gs before Hj hW _ _ _ hL hO _;exact H8 H enc W base args ds gs before Hj hW hL hO
theorem plain (f:FuncId)(fn:Func)(hf:Tryz.pinned.checked.prog.funcNamed "crux/cruxlaw01.NumberSystems" =some f)(rQ:Tryz.pinned.checked.prog.funcs[f]?=some fn):
  true=Tryz.pinned.checked.prog.looks []∧∀(j:Nat) t,fn.params[j]?=some t→Tryz.pinned.checked.prog.wantsStandIn t=false:=by
 obtain rfl:f=5:=aa ((show Tryz.prog.funcNamed "crux/cruxlaw01.NumberSystems" =some 5 by kernel_rfl).symm.trans hf)|>.symm
 obtain rfl:fn=Tryz.f5:=(aa (Tryz.func5.symm.trans rQ)).symm;refine⟨by kernel_rfl,fun j t ht=>?_⟩;rw[Tryz.params5]at ht;have:t=46∨t=47:=by simpa using Array.mem_of_getElem? ht
 rcases this with rfl|rfl
 ·exact(show Tryz.prog.wantsStandIn 46=false by kernel_rfl)
 ·exact(show Tryz.prog.wantsStandIn 47=false by kernel_rfl)
end Go.Proofs.YtdaggbpeoldmeaaGreatDoor.systems
