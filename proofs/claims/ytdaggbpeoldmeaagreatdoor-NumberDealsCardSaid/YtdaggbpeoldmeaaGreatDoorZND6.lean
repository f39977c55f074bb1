/-
  NumberDeals returns true for every input: shares add up to the total, are less than 1 away from the exact proportions, and greater weights have no lesser shares; a drawn order has each element once; a solution fulfils its equations. Condition: the package-level variables that the row lists read as their initialisers lay them.
-/
import Derived.Test.YtdaggbpeoldmeaaGreatDoorM5
import Derived.Test.YtdaggbpeoldmeaaGreatDoorM9
open List renaming mem_cons → fy, mem_append_left → mj
open Nat renaming le_refl → ac
open Option.some renaming inj → aa
set_option linter.unusedVariables false
set_option maxRecDepth 100000
namespace Go.Proofs.YtdaggbpeoldmeaaGreatDoor.deals
open Go.ChangeShapes Go.WideShapes Go.ChangeAt Go.RowKit Go.Ae laws
open Go.ChangeMaps (open_string shut_string)
theorem Qj:Tryz.prog.cellsOf 3=1:=by kernel_rfl
theorem LC:Tryz.prog.cellsOf 47=1:=by kernel_rfl
theorem LD:Tryz.prog.cellsOf 22=1:=by kernel_rfl
def iL (x:Int):List AV:=[.int .i64 x]
theorem Pz (x:Int):(iL x).length=1:=rfl
theorem Py (w:List Int):w.flatMap iL=w.map (AV.int .i64):=by
 induction w with
 |nil=>rfl
 |cons x w ih=>rw[List.flatMap_cons,ih];rfl
section
variable {H:Type}{enc:TypeId×Value→H}{W:World}{base:Nat}{sp:Nat→Bool}{hd:Bool}
theorem Pd {n:Nat}{cs:List Value}{x:DataW H×List MemPlace}(h:DataW.trod enc Tryz.prog W base sp hd n 3 cs=some x):∃k:Int,∀ρ,cs=encs ρ (iL k):=by
 obtain⟨y,s1,_,_⟩:=DataW.trod_int Tryz.underlying3 h;exact⟨y,fun ρ=>by rw[s1];simp[iL,encs,Ae.enc]⟩
theorem KC {b o len cap:Nat}{d:DataW H}{p:List MemPlace}(h:DataW.Trod enc Tryz.prog W 0 (fun _=>true) true 34 (.slice (some ⟨b,o,none⟩) len cap) d p):
  ∃l:List Int,l.length=len∧∀ρ:dF,W.rangeAt b o (encs ρ (l.flatMap iL)):=by
 obtain⟨fuel,hf⟩:=h;rcases Go.Deep.open_slice Tryz.underlying34 (by simpa[Value.cells]using hf)with⟨hcs,_⟩|⟨a',Wb,cap',m,n,D,Pl,hcs,_,Ie,_,hm,_,hx⟩
 ·simp at hcs
 ·simp at hcs;obtain⟨rfl,rfl,rfl⟩:=hcs;simp only[if_true]at hm;subst hm;rw[Qj]at hx
  have each:∀i,i<len→∃k:Int,∀ρ,W.cells? 0 ((⟨b,o,none⟩:Addr).add (i*1)) 1=some (encs ρ (iL k)):=fun i hi=>by
   obtain⟨vD,h1,h2⟩:=hx i (by omega);obtain⟨k,hk⟩:=Pd h2;exact⟨k,fun ρ=>by rw[h1,hk ρ]⟩
  obtain⟨f,PQ⟩:=Go.Deep.choose_lt each;refine⟨(List.range len).map f,by simp,fun ρ=>rY (base:=0) (by decide) Pz fun i hi=>?_⟩;have hi':i<len:=by simpa using hi
  rw[PQ i hi' ρ];simp
end
theorem XU {W0:World}{base:Nat}(G:L.kR W0 base):fO Tryz.prog W0 base EL:=(XS G).add Go.Ae.He.zA
theorem IA (l:List Int):∀v∈l.flatMap iL,v.one=true:=by
 intro v hv;rw[List.mem_flatMap]at hv;obtain⟨k,_,hk⟩:=hv;simp only[iL,fy,List.not_mem_nil,or_false]at hk;subst hk;rfl
theorem Lh (ρ:dF)(N:Nat)(l:List Int):gV ρ N (l.flatMap iL):=by
 rw[cZ];intro v hv;rw[List.mem_flatMap]at hv;obtain⟨k,_,hk⟩:=hv;simp only[iL,fy,List.not_mem_nil,or_false]at hk;subst hk;simp[ok]
theorem I0 (H:Type)(enc:TypeId×Value→H)(W:World)(base:Nat)(args:Array Value)(ds gs:List (DataW H))(before:List MemPlace)
  (EK:∀(j:Nat) t v,Tryz.f8.params[j]?=some t→args[j]?=some v→Value.okWide Tryz.prog W .any base t v)
  (hW:DataW.Whole enc Tryz.prog Tryz.f8.params.toList Rows.numberDealsSpec.vars false W args.toList ds gs before) (hL:laidMetH Tryz.prog Rows.numberDealsRow.laid W) (hO:W.ShapedOpen Tryz.prog):
  Calls Tryz.prog 8 args W fun e W'=>∃v,e= .returned v∧Rows.numberDealsSpec.post enc Tryz.prog Tryz.f8 false true false false W args v W':=by
 have hW':=hW;obtain⟨p,q,hA0,hV,rfl,hfz,hnd⟩:=hW;have hA:DataW.TrodAll enc Tryz.prog W 0 (fun _=>true) true Tryz.f8.params.toList args.toList ds p:=hA0;have hA1:=hA;rw[Tryz.params8]at hA EK;obtain⟨v0,vs0,d0,ds0,p0,q0,uk,rfl,rfl,h0,r0⟩:=trodAll_cons hA;obtain⟨v1,vs1,d1,ds1,p1,q1,rfl,rfl,rfl,h1,r1⟩:=trodAll_cons r0;obtain⟨v2,vs2,d2,ds2,p2,q2,rfl,rfl,rfl,h2,r2⟩:=trodAll_cons r1
 obtain⟨rfl,rfl,rfl⟩:=trodAll_nil r2;obtain rfl:args= #[v0,v1,v2]:=by cases args;simp_all
 obtain⟨rfl,rfl⟩:=trodVars_none hV;obtain⟨T,rfl,rfl,rfl,_⟩:=open_int Tryz.underlying3 (EK 0 3 v0 rfl rfl) h0;clear hA0;have hlt:=hW'.lt
 have hT:∀t∈Tryz.f8.params.toList,Tryz.prog.readableRec t=true∧t<Tryz.prog.types.size:=by
  rw[Tryz.params8];intro t ht;have:t=3∨t=34∨t=46:=by simpa using ht
  rcases this with rfl|rfl|rfl
  ·exact⟨by kernel_rfl,of_decide_eq_true (by kernel_rfl)⟩
  ·exact⟨by kernel_rfl,of_decide_eq_true (by kernel_rfl)⟩
  ·exact⟨by kernel_rfl,of_decide_eq_true (by kernel_rfl)⟩
 have fin:∀W',Below W.heap.size W W'→Rows.numberDealsSpec.post enc Tryz.prog Tryz.f8 false true false false W #[.int .i64 T,v1,v2] (.bool true) W':=fun W' hg=>
  Bp (pa:=[]++(p1++(p2++[]))) (pv:=[]) hW' (fun _ _ _=>trodAll_cons_mk (shut_bool Tryz.underlying4 _) trodAll_mk0)
   (fun sp hsp=>pk (by kernel_rfl) hg hT hA1 (fun x hx=>hlt x (mj _ hx)) (fun x hx=>hsp x (mj _ hx))) (fun _ _=>rfl) rfl
   hg (ok_one (by kernel_rfl) rfl (okWide_bool_mk Tryz.underlying4 _))
 have G:L.kR W W.heap.size:=pc hL (by kernel_rfl) hO
 obtain⟨ρ1,hp1,x1,R1,e1,o1,l,S1⟩:∃ρ1 hp1 x1,bz W.heap.size ρ1 hp1 W∧Ae.enc ρ1 x1=v1∧ok ρ1 hp1.next x1∧∃l:List Int,iC 1 hp1 x1 l.length (l.map (AV.int .i64)):=by
  rcases wM Tryz.underlying34 (EK 1 34 v1 rfl rfl)with rfl|⟨b,o,len,cap,rfl,Ie,hb⟩
  ·exact⟨fun _=>⟨0,0,0,0⟩,.nil,.av,bz.nil (ac _),by simp[Ae.enc],by simp[ok],[],rfl,.inl ⟨rfl,rfl⟩⟩
  ·obtain⟨l,rfl,hr⟩:=KC h1;refine⟨fun _=>⟨b,o,cap,1⟩,Hp.nil.push fun s=> .row (l.flatMap iL) false s,.sl 0 0 l.length 1,bz.arg (IA l) (Lh _ _ l) (hr _) hb,by simp[Ae.enc],by simp[ok,Hp.push];omega,l,?_⟩;rw[Py];exact⟨by simp,.inr ⟨0,false,_,rfl,Hp.cu,Nat.one_pos,ac _⟩⟩
 obtain⟨ρ2,hp2,x2,A2,G2,R2,e2,o2,m,M2⟩:∃ρ2 hp2 x2,cW hp1.next ρ1 ρ2∧aK hp1 hp2∧bz W.heap.size ρ2 hp2 W∧Ae.enc ρ2 x2=v2∧ok ρ2 hp2.next x2∧∃m,kN hp2 x2 m:=by
  rcases wM Tryz.underlying46 (EK 2 46 v2 rfl rfl)with rfl|⟨b,o,len,cap,rfl,Ie,hb⟩
  ·exact⟨ρ1,hp1,.av,cW.refl _ _,aK.refl _,R1,by simp[Ae.enc],by simp[ok],[],kN.nil⟩
  ·obtain⟨l,rfl,hl,hr⟩:=Hr Tryz.underlying46 Tryz.underlying47 Tryz.underlying22 LC LD h2;obtain⟨ρ2,hp2,x2,A2,G2,R2,e2,o2,M2⟩:=Pn hl Ie hb hr R1;exact⟨ρ2,hp2,x2,A2,G2,R2,e2,o2,_,M2⟩
 have law:=Wf (h:=hp2) (v:=x1) (vm:=x2) (w:=l) (T:=T) (S1.aO G2) M2;have walk:=Ck (XU G) (f:=8) (by kernel_rfl) law R2 (by simp only[gV];exact⟨by simp[ok],fL A2 G2.next x1 o1,o2,trivial⟩) rfl;have ea:(encs ρ2 [AV.int .i64 T,x1,x2]).toArray= #[Value.int .i64 T,v1,v2]:=by simp only[Ae.encs,e2,dE A2 x1 o1,e1];simp[Ae.enc]
 rw[ea]at walk;exact walk.mono fun e W' ⟨he,hg⟩=>⟨_,he,fin W' hg⟩
abbrev z1:Value:= .slice none 0 0
abbrev z2:Value:= .slice none 0 0
theorem HL (os:Os):laidMet Tryz.prog Rows.numberDealsRow.laid ((oQ os).forCall (fun _ _=>0) ⟨#[], #[.int .i64 0,z1,z2],[]⟩).memory:=
 laidMet_of_run3 8 (by kernel_rfl) (by kernel_rfl) (by kernel_rfl)
theorem yw (os:Os){H:Type}(enc:TypeId×Value→H):
    (OpenSpec.ofChange Rows.numberDealsSpec).preRow enc Tryz.prog Tryz.f8 Rows.numberDealsRow.domain false Rows.numberDealsRow.laid ((oQ os).forCall (fun _ _=>0) ⟨#[], #[.int .i64 0,z1,z2],[]⟩).memory #[.int .i64 0,z1,z2]:=by
  have hw:(DataW.whole enc Tryz.prog ((oQ os).forCall (fun _ _=>0) ⟨#[], #[.int .i64 0,z1,z2],[]⟩).memory Tryz.f8.params.toList Rows.numberDealsSpec.vars false #[.int .i64 0,z1,z2].toList 8).map (fun x=>(x.1,x.2.1))=
      some ([.lit (.int .i64 0),.nil,.nil],[]):=by kernel_rfl
  obtain⟨⟨x1,x2,x3⟩,hx,hx1⟩:=Option.map_eq_some_iff.1 hw;simp only[Prod.mk.injEq]at hx1;obtain⟨rfl,rfl⟩:=hx1;exact OpenSpec.preRow_of_cond 8 hx (by kernel_rfl) (fun k hk=>by cases hk) (by kernel_rfl) (by rw[MakeChecks.laidMetH_plain _ _ _ (by kernel_rfl)];exact HL os)
theorem lifted (os:Os)(started:os.Started)(H:Type)(enc:TypeId×Value→H)(F:Stop.Interp):
  ReturnsInHanded {} Tryz.checked os 8 .any ((OpenSpec.ofChange Rows.numberDealsSpec).preRow enc Tryz.prog Tryz.f8 Rows.numberDealsRow.domain false Rows.numberDealsRow.laid) (((OpenSpec.ofChange Rows.numberDealsSpec).at F).post enc Tryz.prog Tryz.f8 false true false false):=by
 refine returnsInHanded_of_row (C:=Tryz.checked) (s:=OpenSpec.ofChange Rows.numberDealsSpec) own started (by kernel_rfl) Tryz.func8
  (witness_row_atRef (enc:=enc) (C:=Tryz.checked) false (oQ os) #[.int .i64 0,z1,z2] rfl (by kernel_rfl) (by kernel_rfl) (by kernel_rfl) (yw os enc)) ?_
 intro W base args ds gs before EK hW _ _ _ hL hO _;exact I0 H enc W base args ds gs before EK hW hL hO
theorem plain (f:FuncId)(fn:Func)(hf:Tryz.pinned.checked.prog.funcNamed "crux/cruxlaw01.NumberDeals" =some f)(EP:Tryz.pinned.checked.prog.funcs[f]?=some fn):
  true=Tryz.pinned.checked.prog.looks []∧∀(j:Nat) t,fn.params[j]?=some t→Tryz.pinned.checked.prog.wantsStandIn t=false:=by
 obtain rfl:f=8:=aa ((show Tryz.prog.funcNamed "crux/cruxlaw01.NumberDeals" =some 8 by kernel_rfl).symm.trans hf)|>.symm
 obtain rfl:fn=Tryz.f8:=(aa (Tryz.func8.symm.trans EP)).symm;refine⟨by kernel_rfl,fun j t ht=>?_⟩;rw[Tryz.params8]at ht;have:t=3∨t=34∨t=46:=by simpa using Array.mem_of_getElem? ht
 rcases this with rfl|rfl|rfl
 ·exact(show Tryz.prog.wantsStandIn 3=false by kernel_rfl)
 ·exact(show Tryz.prog.wantsStandIn 34=false by kernel_rfl)
 ·exact(show Tryz.prog.wantsStandIn 46=false by kernel_rfl)
end Go.Proofs.YtdaggbpeoldmeaaGreatDoor.deals
