/-
  NumberTables returns true for every input: number.CheckTable and number.Value return what the reference returns, or the first error. Condition: the package-level variables that the row lists read as their initialisers lay them.
-/
import Derived.Test.YtdaggbpeoldmeaaGreatDoorM5
import Derived.Test.YtdaggbpeoldmeaaGreatDoorM8
set_option linter.unusedVariables false
set_option maxRecDepth 100000
namespace Go.Proofs.YtdaggbpeoldmeaaGreatDoor.tables
open Go.ChangeShapes Go.WideShapes Go.ChangeAt Go.RowKit Go.Ae laws
open Go.ChangeMaps (open_string shut_string)
theorem list2 {α:Type} {cs:List α} (h:cs.length=2):∃a b,cs=[a,b]:=by
 match cs,h with
 |[a,b],_=>exact⟨a,b,rfl⟩
theorem cells141:Tryz.prog.cellsOf 141=2:=by kernel_rfl
theorem cells22:Tryz.prog.cellsOf 22=1:=by kernel_rfl
instance:Inhabited Pt:=⟨⟨[],[]⟩⟩
section
variable {H:Type} {enc:TypeId×Value→H} {W:World} {base:Nat} {sp:Nat→Bool} {hd:Bool}
theorem open_pt {n:Nat} {cs:List Value} {x:DataW H×List MemPlace} (h:DataW.trod enc Tryz.prog W base sp hd n 141 cs=some x):∃k:Pt,∀ρ,cs=encs ρ k.l:=by
 obtain⟨xs,n,_,_,hl,hlen,hf⟩:=DataW.trod_struct Tryz.underlying141 h
 rw[cells141]at hl
 obtain⟨c0,c1,rfl⟩:=list2 hl
 have h5:xs.length=2:=hlen
 obtain⟨y0,e0⟩:∃y,xs[0]?=some y:=⟨_,List.getElem?_eq_getElem (by omega)⟩
 obtain⟨y1,e1⟩:∃y,xs[1]?=some y:=⟨_,List.getElem?_eq_getElem (by omega)⟩
 obtain⟨s,s0,_,_⟩:=DataW.trod_string Tryz.underlying22 ((hf 0 _ rfl).trans e0)
 obtain⟨u,s1,_,_⟩:=DataW.trod_string Tryz.underlying22 ((hf 1 _ rfl).trans e1)
 have t0:List.take (Tryz.prog.cellsOf 22) (List.drop 0 [c0,c1])=[.string s]:=s0
 have t1:List.take (Tryz.prog.cellsOf 22) (List.drop 1 [c0,c1])=[.string u]:=s1
 clear s0 s1
 rw[cells22]at t0 t1
 simp at t0 t1
 subst t0 t1
 exact⟨⟨s.data.toList,u.data.toList⟩,fun ρ=>by simp[Pt.l,encs,Ae.enc]⟩
theorem open_pts {b o len cap:Nat} {d:DataW H} {p:List MemPlace} (h:DataW.Trod enc Tryz.prog W 0 (fun _=>true) true 106 (.slice (some ⟨b,o,none⟩) len cap) d p):
  ∃l:List Pt,l.length=len∧∀ρ:Rho,W.rangeAt b o (encs ρ (l.flatMap Pt.l)):=by
 obtain⟨fuel,hf⟩:=h
 rcases Go.Deep.open_slice Tryz.underlying106 (by simpa[Value.cells]using hf)with⟨hcs,_⟩|⟨a',len',cap',m,n,D,Pl,hcs,_,hlc,_,hm,_,hx⟩
 ·simp at hcs
 ·simp at hcs
  obtain⟨rfl,rfl,rfl⟩:=hcs
  simp only[if_true]at hm
  subst hm
  rw[cells141]at hx
  have each:∀i,i<len→∃k:Pt,∀ρ,W.cells? 0 ((⟨b,o,none⟩:Addr).add (i*2)) 2=some (encs ρ k.l):=fun i hi=>by
   obtain⟨cs',h1,h2⟩:=hx i (by omega)
   obtain⟨k,hk⟩:=open_pt h2
   exact⟨k,fun ρ=>by rw[h1,hk ρ]⟩
  obtain⟨f,hfk⟩:=Go.Deep.choose_lt each
  refine⟨(List.range len).map f,by simp,fun ρ=>range_cells (base:=0) (by decide) Pt.l_len fun i hi=>?_⟩
  have hi':i<len:=by simpa using hi
  rw[hfk i hi' ρ];simp
end
theorem env5 {W0:World} {base:Nat} (G:L.Glob W0 base):EnvOk Tryz.prog W0 base EJ:=((envX G).add Go.Ae.F.good).add Go.Ae.Hc.good
theorem flat_one (l:List Pt):∀v∈l.flatMap Pt.l,v.one=true:=by
 intro v hv
 rw[List.mem_flatMap]at hv
 obtain⟨k,_,hk⟩:=hv
 simp only[Pt.l,List.mem_cons,List.not_mem_nil,or_false]at hk
 rcases hk with rfl|rfl<;>rfl
theorem flat_ok (ρ:Rho) (N:Nat) (l:List Pt):oks ρ N (l.flatMap Pt.l):=by
 rw[oks_iff]
 intro v hv
 rw[List.mem_flatMap]at hv
 obtain⟨k,_,hk⟩:=hv
 simp only[Pt.l,List.mem_cons,List.not_mem_nil,or_false]at hk
 rcases hk with rfl|rfl<;>simp[ok]
theorem contract (H:Type) (enc:TypeId×Value→H) (W:World) (base:Nat) (args:Array Value) (ds gs:List (DataW H)) (before:List MemPlace)
  (hval:∀(j:Nat) t v,Tryz.f12.params[j]?=some t→args[j]?=some v→Value.okWide Tryz.prog W .any base t v)
  (hW:DataW.Whole enc Tryz.prog Tryz.f12.params.toList Rows.numberTablesSpec.vars false W args.toList ds gs before) (hL:laidMetH Tryz.prog Rows.numberTablesRow.laid W) (hO:W.ShapedOpen Tryz.prog):
  Calls Tryz.prog 12 args W fun e W'=>∃v,e= .returned v∧Rows.numberTablesSpec.post enc Tryz.prog Tryz.f12 false true false false W args v W':=by
 have hW':=hW
 obtain⟨p,q,hA0,hV,rfl,hfz,hnd⟩:=hW
 have hA:DataW.TrodAll enc Tryz.prog W 0 (fun _=>true) true Tryz.f12.params.toList args.toList ds p:=hA0
 have hA1:=hA
 rw[Tryz.params12]at hA hval
 obtain⟨v0,vs0,d0,ds0,p0,q0,hargs,rfl,rfl,h0,r0⟩:=trodAll_cons hA
 obtain⟨v1,vs1,d1,ds1,p1,q1,rfl,rfl,rfl,h1,r1⟩:=trodAll_cons r0
 obtain⟨rfl,rfl,rfl⟩:=trodAll_nil r1
 obtain rfl:args= #[v0,v1]:=by cases args;simp_all
 obtain⟨rfl,rfl⟩:=trodVars_none hV
 obtain⟨s,rfl,rfl,rfl,hs⟩:=open_string Tryz.underlying22 (hval 1 22 v1 rfl rfl) h1
 clear hA0
 have hlt:=hW'.lt
 have hT:∀t∈Tryz.f12.params.toList,Tryz.prog.readableRec t=true∧t<Tryz.prog.types.size:=by
  rw[Tryz.params12]
  intro t ht
  have:t=106∨t=22:=by simpa using ht
  rcases this with rfl|rfl
  ·exact⟨by kernel_rfl,of_decide_eq_true (by kernel_rfl)⟩
  ·exact⟨by kernel_rfl,of_decide_eq_true (by kernel_rfl)⟩
 have fin:∀W',Below W.heap.size W W'→Rows.numberTablesSpec.post enc Tryz.prog Tryz.f12 false true false false W #[v0,.string s] (.bool true) W':=fun W' hg=>
  post_below (pa:=p0++([]++[])) (pv:=[]) hW' (fun _ _ _=>trodAll_cons_mk (shut_bool Tryz.underlying4 _) trodAll_mk0)
   (fun sp hsp=>trodAll_stays (by kernel_rfl) hg hT hA1 (fun x hx=>hlt x (List.mem_append_left _ hx)) (fun x hx=>hsp x (List.mem_append_left _ hx))) (fun _ _=>rfl) rfl
   hg (ok_one (by kernel_rfl) rfl (okWide_bool_mk Tryz.underlying4 _))
 have G:L.Glob W W.heap.size:=glob hL (by kernel_rfl) hO
 rcases arg_slice Tryz.underlying106 (hval 0 106 v0 rfl rfl)with rfl|⟨b,o,len,cap,rfl,hlc,hb⟩
 ·have law:=law12 (h:= .nil) (v:= .nils) (l:=[]) (s:=s.data.toList) ⟨rfl,.inl ⟨rfl,rfl⟩⟩
  have walk:=calls_heap (ρ:=fun _=>⟨0,0,0,0⟩) (env5 G) (f:=12) (by kernel_rfl) law (HRel.nil (Nat.le_refl _)) (by simp[oks,ok]) rfl
  have ea:(encs (fun _=>⟨0,0,0,0⟩) [AV.nils,AV.str s.data.toList]).toArray= #[Value.slice none 0 0,.string s]:=by simp[Ae.encs,Ae.enc]
  rw[ea]at walk
  exact walk.mono fun e W' ⟨he,hg⟩=>⟨_,he,fin W' hg⟩
 ·obtain⟨l,rfl,hr⟩:=open_pts h0
  have R:HRel W.heap.size (fun _=>⟨b,o,cap,2⟩) (Hp.nil.push fun s=> .row (l.flatMap Pt.l) false s) W:=HRel.arg (flat_one l) (flat_ok _ _ l) (hr _) hb
  have law:=law12 (h:=Hp.nil.push fun s=> .row (l.flatMap Pt.l) false s) (v:= .sl 0 0 l.length 2) (l:=l) (s:=s.data.toList) ⟨flat_len Pt.l_len l,.inr ⟨0,false,_,rfl,Hp.push_same,Nat.one_pos,Nat.le_refl _⟩⟩
  have walk:=calls_heap (env5 G) (f:=12) (by kernel_rfl) law R (by simp[oks,ok,Hp.push];omega) rfl
  have ea:(encs (fun _=>⟨b,o,cap,2⟩) [AV.sl 0 0 l.length 2,AV.str s.data.toList]).toArray= #[Value.slice (some ⟨b,o,none⟩) l.length cap,.string s]:=by simp[Ae.encs,Ae.enc]
  rw[ea]at walk
  exact walk.mono fun e W' ⟨he,hg⟩=>⟨_,he,fin W' hg⟩
abbrev z2:Value:= .slice none 0 0
theorem laid_met (os:Os):laidMet Tryz.prog Rows.numberTablesRow.laid ((laidWorld os).forCall (fun _ _=>0) ⟨#[], #[z2,.string ⟨#[]⟩],[]⟩).memory:=
 laidMet_of_run3 8 (by kernel_rfl) (by kernel_rfl) (by kernel_rfl)
theorem witness_row (os:Os) {H:Type} (enc:TypeId×Value→H):
    (OpenSpec.ofChange Rows.numberTablesSpec).preRow enc Tryz.prog Tryz.f12 Rows.numberTablesRow.domain false Rows.numberTablesRow.laid ((laidWorld os).forCall (fun _ _=>0) ⟨#[], #[z2,.string ⟨#[]⟩],[]⟩).memory #[z2,.string ⟨#[]⟩]:=by
  have hw:(DataW.whole enc Tryz.prog ((laidWorld os).forCall (fun _ _=>0) ⟨#[], #[z2,.string ⟨#[]⟩],[]⟩).memory Tryz.f12.params.toList Rows.numberTablesSpec.vars false #[z2,.string ⟨#[]⟩].toList 8).map (fun x=>(x.1,x.2.1))=
      some ([.nil,.lit (.string [])],[]):=by kernel_rfl
  obtain⟨⟨x1,x2,x3⟩,hx,hx1⟩:=Option.map_eq_some_iff.1 hw
  simp only[Prod.mk.injEq]at hx1
  obtain⟨rfl,rfl⟩:=hx1
  exact OpenSpec.preRow_of_cond 8 hx (by kernel_rfl) (fun k hk=>by cases hk) (by kernel_rfl) (by rw[MakeChecks.laidMetH_plain _ _ _ (by kernel_rfl)];exact laid_met os)
theorem lifted (os:Os) (started:os.Started) (H:Type) (enc:TypeId×Value→H) (F:Stop.Interp):
  ReturnsInHanded {} Tryz.checked os 12 .any ((OpenSpec.ofChange Rows.numberTablesSpec).preRow enc Tryz.prog Tryz.f12 Rows.numberTablesRow.domain false Rows.numberTablesRow.laid) (((OpenSpec.ofChange Rows.numberTablesSpec).at F).post enc Tryz.prog Tryz.f12 false true false false):=by
 refine returnsInHanded_of_row (C:=Tryz.checked) (s:=OpenSpec.ofChange Rows.numberTablesSpec) own started (by kernel_rfl) Tryz.func12
  (witness_row_atRef (enc:=enc) (C:=Tryz.checked) false (laidWorld os) #[z2,.string ⟨#[]⟩] rfl (by kernel_rfl) (by kernel_rfl) (by kernel_rfl) (witness_row os enc)) ?_
 intro W base args ds gs before hval hW _ _ _ hL hO _
 exact contract H enc W base args ds gs before hval hW hL hO
theorem plain (f:FuncId) (fn:Func) (hf:Tryz.pinned.checked.prog.funcNamed "crux/cruxlaw01.NumberTables" =some f) (hfn:Tryz.pinned.checked.prog.funcs[f]?=some fn):
  true=Tryz.pinned.checked.prog.looks []∧∀(j:Nat) t,fn.params[j]?=some t→Tryz.pinned.checked.prog.wantsStandIn t=false:=by
 obtain rfl:f=12:=Option.some.inj ((show Tryz.prog.funcNamed "crux/cruxlaw01.NumberTables" =some 12 by kernel_rfl).symm.trans hf)|>.symm
 obtain rfl:fn=Tryz.f12:=(Option.some.inj (Tryz.func12.symm.trans hfn)).symm
 refine⟨by kernel_rfl,fun j t ht=>?_⟩
 rw[Tryz.params12]at ht
 have:t=106∨t=22:=by simpa using Array.mem_of_getElem? ht
 rcases this with rfl|rfl
 ·exact(show Tryz.prog.wantsStandIn 106=false by kernel_rfl)
 ·exact(show Tryz.prog.wantsStandIn 22=false by kernel_rfl)
end Go.Proofs.YtdaggbpeoldmeaaGreatDoor.tables
