/-
  NumberShares returns true for every input: number.Shares and number.Draw return what the reference returns, or the first error. Condition: the package-level variables that the row lists read as their initialisers lay them.
-/
import Derived.Test.YtdaggbpeoldmeaaGreatDoorM5
import Derived.Test.YtdaggbpeoldmeaaGreatDoorM6
import Derived.Lib.SmallJoins
set_option linter.unusedVariables false
set_option maxRecDepth 100000
namespace Go.Proofs.YtdaggbpeoldmeaaGreatDoor.shares
open Go.ChangeShapes Go.WideShapes Go.ChangeAt Go.RowKit Go.Ae laws
open Go.ChangeMaps (open_string shut_string)
theorem cells35:Tryz.prog.cellsOf 35=2:=by kernel_rfl
theorem cells3:Tryz.prog.cellsOf 3=1:=by kernel_rfl
theorem open_two {H:Type} {enc:TypeId×Value→H} {W:World} {r:Reach} {b0 base:Nat} {sp:Nat→Bool} {hd:Bool} {v:Value} {d:DataW H} {p:List MemPlace} (hv:Value.okWide Tryz.prog W r b0 35 v) (h:DataW.Trod enc Tryz.prog W base sp hd 35 v d p):
  ∃x y,v= .agg #[.int .i64 x,.int .i64 y]∧(Lit.int .i64 x).wf=true∧(Lit.int .i64 y).wf=true:=by
 unfold Value.okWide at hv
 rw[Tryz.underlying35]at hv
 obtain⟨cs,rfl,hsz,_⟩:=hv
 obtain⟨c0,c1,rfl⟩:=Go.Joins.array2 (hsz.trans cells35)
 obtain⟨fuel,hf⟩:=h
 obtain⟨xs,m,_,_,_,hl,hx⟩:=DataW.trod_array Tryz.underlying35 hf
 obtain⟨y0,e0⟩:∃y,xs[0]?=some y:=⟨_,List.getElem?_eq_getElem (by omega)⟩
 obtain⟨y1,e1⟩:∃y,xs[1]?=some y:=⟨_,List.getElem?_eq_getElem (by omega)⟩
 obtain⟨x,s0,_,w0⟩:=DataW.trod_int Tryz.underlying3 ((hx 0 (by omega)).trans e0)
 obtain⟨y,s1,_,w1⟩:=DataW.trod_int Tryz.underlying3 ((hx 1 (by omega)).trans e1)
 rw[cells3]at s0 s1
 simp[Value.cells]at s0 s1
 subst s0 s1
 exact⟨x,y,rfl,w0,w1⟩
def iL (x:Int):List AV:=[.int .i64 x]
theorem iL_len (x:Int):(iL x).length=1:=rfl
theorem iL_map (w:List Int):w.flatMap iL=w.map (AV.int .i64):=by
 induction w with
 |nil=>rfl
 |cons x w ih=>rw[List.flatMap_cons,ih];rfl
section
variable {H:Type} {enc:TypeId×Value→H} {W:World} {base:Nat} {sp:Nat→Bool} {hd:Bool}
theorem open_i {n:Nat} {cs:List Value} {x:DataW H×List MemPlace} (h:DataW.trod enc Tryz.prog W base sp hd n 3 cs=some x):∃k:Int,∀ρ,cs=encs ρ (iL k):=by
 obtain⟨y,s1,_,_⟩:=DataW.trod_int Tryz.underlying3 h
 exact⟨y,fun ρ=>by rw[s1];simp[iL,encs,Ae.enc]⟩
theorem open_is {b o len cap:Nat} {d:DataW H} {p:List MemPlace} (h:DataW.Trod enc Tryz.prog W 0 (fun _=>true) true 34 (.slice (some ⟨b,o,none⟩) len cap) d p):
  ∃l:List Int,l.length=len∧∀ρ:Rho,W.rangeAt b o (encs ρ (l.flatMap iL)):=by
 obtain⟨fuel,hf⟩:=h
 rcases Go.Deep.open_slice Tryz.underlying34 (by simpa[Value.cells]using hf)with⟨hcs,_⟩|⟨a',len',cap',m,n,D,Pl,hcs,_,hlc,_,hm,_,hx⟩
 ·simp at hcs
 ·simp at hcs
  obtain⟨rfl,rfl,rfl⟩:=hcs
  simp only[if_true]at hm
  subst hm
  rw[cells3]at hx
  have each:∀i,i<len→∃k:Int,∀ρ,W.cells? 0 ((⟨b,o,none⟩:Addr).add (i*1)) 1=some (encs ρ (iL k)):=fun i hi=>by
   obtain⟨cs',h1,h2⟩:=hx i (by omega)
   obtain⟨k,hk⟩:=open_i h2
   exact⟨k,fun ρ=>by rw[h1,hk ρ]⟩
  obtain⟨f,hfk⟩:=Go.Deep.choose_lt each
  refine⟨(List.range len).map f,by simp,fun ρ=>range_cells (base:=0) (by decide) iL_len fun i hi=>?_⟩
  have hi':i<len:=by simpa using hi
  rw[hfk i hi' ρ];simp
end
theorem envL {W0:World} {base:Nat} (G:L.Glob W0 base):EnvOk Tryz.prog W0 base ED:=((env2 G).add Go.Ae.R.good).add Go.Ae.Hd.good
theorem flat_one (l:List Int):∀v∈l.flatMap iL,v.one=true:=by
 intro v hv
 rw[List.mem_flatMap]at hv
 obtain⟨k,_,hk⟩:=hv
 simp only[iL,List.mem_cons,List.not_mem_nil,or_false]at hk
 subst hk;rfl
theorem flat_ok (ρ:Rho) (N:Nat) (l:List Int):oks ρ N (l.flatMap iL):=by
 rw[oks_iff]
 intro v hv
 rw[List.mem_flatMap]at hv
 obtain⟨k,_,hk⟩:=hv
 simp only[iL,List.mem_cons,List.not_mem_nil,or_false]at hk
 subst hk;simp[ok]
theorem contract (H:Type) (enc:TypeId×Value→H) (W:World) (base:Nat) (args:Array Value) (ds gs:List (DataW H)) (before:List MemPlace)
  (hval:∀(j:Nat) t v,Tryz.f4.params[j]?=some t→args[j]?=some v→Value.okWide Tryz.prog W .any base t v)
  (hW:DataW.Whole enc Tryz.prog Tryz.f4.params.toList Rows.numberSharesSpec.vars false W args.toList ds gs before) (hL:laidMetH Tryz.prog Rows.numberSharesRow.laid W) (hO:W.ShapedOpen Tryz.prog):
  Calls Tryz.prog 4 args W fun e W'=>∃v,e= .returned v∧Rows.numberSharesSpec.post enc Tryz.prog Tryz.f4 false true false false W args v W':=by
 have hW':=hW
 obtain⟨p,q,hA0,hV,rfl,hfz,hnd⟩:=hW
 have hA:DataW.TrodAll enc Tryz.prog W 0 (fun _=>true) true Tryz.f4.params.toList args.toList ds p:=hA0
 have hA1:=hA
 rw[Tryz.params4]at hA hval
 obtain⟨v0,vs0,d0,ds0,p0,q0,hargs,rfl,rfl,h0,r0⟩:=trodAll_cons hA
 obtain⟨v1,vs1,d1,ds1,p1,q1,rfl,rfl,rfl,h1,r1⟩:=trodAll_cons r0
 obtain⟨v2,vs2,d2,ds2,p2,q2,rfl,rfl,rfl,h2,r2⟩:=trodAll_cons r1
 obtain⟨rfl,rfl,rfl⟩:=trodAll_nil r2
 obtain rfl:args= #[v0,v1,v2]:=by cases args;simp_all
 obtain⟨rfl,rfl⟩:=trodVars_none hV
 obtain⟨T,rfl,rfl,rfl,_⟩:=open_int Tryz.underlying3 (hval 0 3 v0 rfl rfl) h0
 obtain⟨s,n,rfl,_,_⟩:=open_two (hval 2 35 v2 rfl rfl) h2
 clear hA0
 have hlt:=hW'.lt
 have hT:∀t∈Tryz.f4.params.toList,Tryz.prog.readableRec t=true∧t<Tryz.prog.types.size:=by
  rw[Tryz.params4]
  intro t ht
  have:t=3∨t=34∨t=35:=by simpa using ht
  rcases this with rfl|rfl|rfl
  ·exact⟨by kernel_rfl,of_decide_eq_true (by kernel_rfl)⟩
  ·exact⟨by kernel_rfl,of_decide_eq_true (by kernel_rfl)⟩
  ·exact⟨by kernel_rfl,of_decide_eq_true (by kernel_rfl)⟩
 have fin:∀W',Below W.heap.size W W'→Rows.numberSharesSpec.post enc Tryz.prog Tryz.f4 false true false false W #[.int .i64 T,v1,Value.agg #[.int .i64 s,.int .i64 n]] (.bool true) W':=fun W' hg=>
  post_below (pa:=[]++(p1++(p2++[]))) (pv:=[]) hW' (fun _ _ _=>trodAll_cons_mk (shut_bool Tryz.underlying4 _) trodAll_mk0)
   (fun sp hsp=>trodAll_stays (by kernel_rfl) hg hT hA1 (fun x hx=>hlt x (List.mem_append_left _ hx)) (fun x hx=>hsp x (List.mem_append_left _ hx))) (fun _ _=>rfl) rfl
   hg (ok_one (by kernel_rfl) rfl (okWide_bool_mk Tryz.underlying4 _))
 have G:L.Glob W W.heap.size:=glob hL (by kernel_rfl) hO
 rcases arg_slice Tryz.underlying34 (hval 1 34 v1 rfl rfl)with rfl|⟨b,o,len,cap,rfl,hlc,hb⟩
 ·have law:=law4 (h:= .nil) (v:= .nils) (w:=[]) (T:=T) (s:=s) (n:=n) ⟨rfl,.inl ⟨rfl,rfl⟩⟩
  have walk:=calls_heap (ρ:=fun _=>⟨0,0,0,0⟩) (envL G) (f:=4) (by kernel_rfl) law (HRel.nil (Nat.le_refl _)) (by simp[oks,ok]) rfl
  have ea:(encs (fun _=>⟨0,0,0,0⟩) [AV.int .i64 T,AV.nils,AV.agg [.int .i64 s,.int .i64 n]]).toArray= #[Value.int .i64 T,Value.slice none 0 0,Value.agg #[.int .i64 s,.int .i64 n]]:=by simp[Ae.encs,Ae.enc]
  rw[ea]at walk
  exact walk.mono fun e W' ⟨he,hg⟩=>⟨_,he,fin W' hg⟩
 ·obtain⟨l,rfl,hr⟩:=open_is h1
  have R:HRel W.heap.size (fun _=>⟨b,o,cap,1⟩) (Hp.nil.push fun s=> .row (l.flatMap iL) false s) W:=HRel.arg (flat_one l) (flat_ok _ _ l) (hr _) hb
  have law:=law4 (h:=Hp.nil.push fun s=> .row (l.flatMap iL) false s) (v:= .sl 0 0 l.length 1) (w:=l) (T:=T) (s:=s) (n:=n) (by rw[iL_map];exact⟨by simp,.inr ⟨0,false,_,rfl,Hp.push_same,Nat.one_pos,Nat.le_refl _⟩⟩)
  have walk:=calls_heap (envL G) (f:=4) (by kernel_rfl) law R (by simp[oks,ok,Hp.push];omega) rfl
  have ea:(encs (fun _=>⟨b,o,cap,1⟩) [AV.int .i64 T,AV.sl 0 0 l.length 1,AV.agg [.int .i64 s,.int .i64 n]]).toArray= #[Value.int .i64 T,Value.slice (some ⟨b,o,none⟩) l.length cap,Value.agg #[.int .i64 s,.int .i64 n]]:=by simp[Ae.encs,Ae.enc]
  rw[ea]at walk
  exact walk.mono fun e W' ⟨he,hg⟩=>⟨_,he,fin W' hg⟩
abbrev z1:Value:= .slice none 0 0
abbrev z2:Value:= .agg #[.int .i64 0,.int .i64 0]
theorem laid_met (os:Os):laidMet Tryz.prog Rows.numberSharesRow.laid ((laidWorld os).forCall (fun _ _=>0) ⟨#[], #[.int .i64 0,z1,z2],[]⟩).memory:=
 laidMet_of_run3 8 (by kernel_rfl) (by kernel_rfl) (by kernel_rfl)
theorem witness_row (os:Os) {H:Type} (enc:TypeId×Value→H):
    (OpenSpec.ofChange Rows.numberSharesSpec).preRow enc Tryz.prog Tryz.f4 Rows.numberSharesRow.domain false Rows.numberSharesRow.laid ((laidWorld os).forCall (fun _ _=>0) ⟨#[], #[.int .i64 0,z1,z2],[]⟩).memory #[.int .i64 0,z1,z2]:=by
  have hw:(DataW.whole enc Tryz.prog ((laidWorld os).forCall (fun _ _=>0) ⟨#[], #[.int .i64 0,z1,z2],[]⟩).memory Tryz.f4.params.toList Rows.numberSharesSpec.vars false #[.int .i64 0,z1,z2].toList 8).map (fun x=>(x.1,x.2.1))=
      some ([.lit (.int .i64 0),.nil,.agg [.lit (.int .i64 0),.lit (.int .i64 0)]],[]):=by kernel_rfl
  obtain⟨⟨x1,x2,x3⟩,hx,hx1⟩:=Option.map_eq_some_iff.1 hw
  simp only[Prod.mk.injEq]at hx1
  obtain⟨rfl,rfl⟩:=hx1
  exact OpenSpec.preRow_of_cond 8 hx (by kernel_rfl) (fun k hk=>by cases hk) (by kernel_rfl) (by rw[MakeChecks.laidMetH_plain _ _ _ (by kernel_rfl)];exact laid_met os)
theorem lifted (os:Os) (started:os.Started) (H:Type) (enc:TypeId×Value→H) (F:Stop.Interp):
  ReturnsInHanded {} Tryz.checked os 4 .any ((OpenSpec.ofChange Rows.numberSharesSpec).preRow enc Tryz.prog Tryz.f4 Rows.numberSharesRow.domain false Rows.numberSharesRow.laid) (((OpenSpec.ofChange Rows.numberSharesSpec).at F).post enc Tryz.prog Tryz.f4 false true false false):=by
 refine returnsInHanded_of_row (C:=Tryz.checked) (s:=OpenSpec.ofChange Rows.numberSharesSpec) own started (by kernel_rfl) Tryz.func4
  (witness_row_atRef (enc:=enc) (C:=Tryz.checked) false (laidWorld os) #[.int .i64 0,z1,z2] rfl (by kernel_rfl) (by kernel_rfl) (by kernel_rfl) (witness_row os enc)) ?_
 intro W base args ds gs before hval hW _ _ _ hL hO _
 exact contract H enc W base args ds gs before hval hW hL hO
theorem plain (f:FuncId) (fn:Func) (hf:Tryz.pinned.checked.prog.funcNamed "crux/cruxlaw01.NumberShares" =some f) (hfn:Tryz.pinned.checked.prog.funcs[f]?=some fn):
  true=Tryz.pinned.checked.prog.looks []∧∀(j:Nat) t,fn.params[j]?=some t→Tryz.pinned.checked.prog.wantsStandIn t=false:=by
 obtain rfl:f=4:=Option.some.inj ((show Tryz.prog.funcNamed "crux/cruxlaw01.NumberShares" =some 4 by kernel_rfl).symm.trans hf)|>.symm
 obtain rfl:fn=Tryz.f4:=(Option.some.inj (Tryz.func4.symm.trans hfn)).symm
 refine⟨by kernel_rfl,fun j t ht=>?_⟩
 rw[Tryz.params4]at ht
 have:t=3∨t=34∨t=35:=by simpa using Array.mem_of_getElem? ht
 rcases this with rfl|rfl|rfl
 ·exact(show Tryz.prog.wantsStandIn 3=false by kernel_rfl)
 ·exact(show Tryz.prog.wantsStandIn 34=false by kernel_rfl)
 ·exact(show Tryz.prog.wantsStandIn 35=false by kernel_rfl)
end Go.Proofs.YtdaggbpeoldmeaaGreatDoor.shares
