/-
  What the rows of chapter 1 have in common: a start at which the listed variables read as their initialisers lay them.
-/
import Derived.Test.YtdaggbpeoldmeaaGreatDoorCards
import Derived.Test.YtdaggbpeoldmeaaGreatDoorTie
import Derived.Test.YtdaggbpeoldmeaaGreatDoorZKR3
import Derived.WalkKit
import Derived.ProofKit
import Derived.OpenShut
import Derived.LaidSub
import Derived.MakeChecks
import Derived.ChangeMaps5
import Derived.Deep.DeepHandedRow
import Derived.Deep.DeepWitnessRowRef
import Derived.Deep.DeepLaidRun
import Derived.Lib.LaidTab
import Derived.Test.YtdaggbpeoldmeaaGreatDoorM4
import Derived.WideKeyArgs
import Derived.Deep.Slices
import Derived.Lib.Mul64
import Derived.Test.YtdaggbpeoldmeaaGreatDoorM2
open Array renaming getElem?_eq_none → jT
open Go.Deep renaming open_slice → E8
open Go.RowKit.Below renaming refl → fo
open Iff renaming rfl → ax
open Int renaming gcd → cG, gcd_pos_of_ne_zero_right → kW, gcd_dvd_left → wE, gcd_dvd_right → uV, mul_fdiv_cancel_left → fe, natAbs_natCast → aw, natAbs → AD, natAbs_mul → fu, natAbs_neg → sc, natCast_mul → ce, toNat_natCast → gD, natCast_nonneg → jq, fmod_nonneg_of_pos → E7, mul_sub → xM, mul_le_mul_of_nonneg_left → gW, natCast_add → xX, ofNat_le → nS, ofNat_lt → Ci
open List renaming mem_append → dR, length_eq_zero_iff → fL, drop_zero → eE, take_length → bj, flatMap_cons → fM, length_append → ar, length_cons → ap, drop_eq_getElem_cons → ey, getElem?_take → gi, getElem?_drop → iW, getElem?_map → bK, getElem?_eq_none → bO, mem_cons → fv, mem_append_left → lT, mem_append_right → E6, mem_map → iV, range → ct, drop → gJ, take → fH, cons_append → lk, take_add_one → uL, getElem?_eq_getElem → aI, getD_eq_getElem?_getD → aW, all_eq_true → bV, mem_of_mem_take → fE, take_of_length_le → aP, length_take → az, getD → bQ, replicate → av, replicate_succ → vj, length_nil → aK, length_map → aU, take_take → Ar, length_drop → bP, drop_length → nR, map_replicate → gC, takeWhile_cons_of_pos → As, getD_cons_zero → de
open Nat renaming le_refl → ae, eq_zero_or_pos → aE, lt_of_lt_of_le → ah, le_trans → aB, add_mul → bh, lt_or_ge → aQ, div_lt_iff_lt_mul → df, mod_lt → bq, mul_comm → aA, div_add_mod → cE, add_assoc → dz, not_lt_zero → fh, lt_succ_self → cN, one_pos → vh, add_zero → aY, mul_one → dF, eq_of_mul_eq_mul_left → Cd, le_mul_of_pos_left → jF, gcd → eA, mul_div_cancel_left → oL, pow_le_pow_right → aT, pow_succ → aV, pow_add → dm, mul_pos → eY, pow_pos → dp, lt_of_le_of_lt → gR, mul_le_mul_right → aM, le_of_lt → EZ, mul_lt_mul_of_pos_left → gH, eq_or_lt_of_le → Aq, mul_le_mul → fG, zero_le → aJ, log2 → uT, min_eq_left → cD, and_two_pow_sub_one_eq_mod → wB, mul_add → ay, mul_assoc → aF, mul_le_mul_left → aD, add_mul_mod_self_left → Ce, mod_eq_of_lt → cH, blt → gV, add → ma, blt_eq → ji, sub_add_cancel → bT, le_of_not_lt → wA, div_eq_of_lt → iS, mul_zero → fW, add_sub_cancel → gS, mul_add_div → mV, mul_div_mul_right → uK, div_le_self → jp, add_lt_add_left → xL
open Option.some renaming injEq → cq
open Rat renaming divInt → bD, divInt_eq_divInt_iff → Dv, num_divInt_den → jo, intCast_mul → kU
set_option linter.unusedVariables false
set_option maxRecDepth 100000
namespace Go.Proofs.YtdaggbpeoldmeaaGreatDoor.laws
open Go.ChangeShapes Go.WideShapes Go.ChangeAt Go.RowKit Go.Ae
open Go.ChangeMaps (open_string shut_string)
section
variable {H:Type}{enc:TypeId×Value→H}{P:Program}
theorem AU {f:Func}{s:ChangeSpec}{apart fresh handsOn again:Bool}{W W':World}{args:Array Value}{v:Value}{ds gs:List (DataW H)}{before pa pv:List MemPlace}
  (hW:DataW.Whole enc P f.params.toList s.vars apart W args.toList ds gs before)
  (Bu:∀(b:Nat) (sp:Nat→Bool) (hd:Bool),DataW.TrodAll enc P W' b sp hd f.resultTypes.toList (v.resultList f.resultTypes.size) (s.fn H (ds++gs)).results [])
  (tS:∀sp:Nat→Bool,(∀p∈before,sp p.block=true)→DataW.TrodAll enc P W' 0 sp true f.params.toList args.toList (s.fn H (ds++gs)).args pa)
  (MJ:∀sp:Nat→Bool,(∀p∈before,sp p.block=true)→DataW.TrodVars enc P W' sp s.vars (s.fn H (ds++gs)).vars pv)
  (ML:before=pa++pv) (hB:Below W.heap.size W W')
  (hok:∀(j:Nat) (t:TypeId) (r:Value),f.resultTypes[j]?=some t→(v.resultList f.resultTypes.size)[j]?=some r→Value.okWide P W' .any 0 t r):
  s.post enc P f apart fresh handsOn again W args v W':=by
 have hold:∀p∈before,(fun b=>decide (b<W.heap.size)) p.block=true:=fun p hp=>by simpa using hW.lt p hp
 have hlt:=hW.lt;refine⟨ds,gs,before,[],pa,pv,hW,Bu _ _ _,tS _ hold,MJ _ hold,World.keptBut_mono (fun p hp=>⟨hp,?_⟩) (hB.frame (· ∈before)),fun _=>?_⟩
 ·rw[ML,dR]at hp;exact Or.inr hp
 ·obtain⟨_,_,_,_,_,hz,hn⟩:=hW;refine⟨hok,_,_,([]++pa)++pv,⟨[]++pa,pv,trodAll_append (tS _ (fun _ _=>rfl)) (Bu _ _ _),MJ _ (fun _ _=>rfl),rfl,?_,?_⟩,?_⟩
  ·intro b off hp;have hp':MemPlace.cell b off∈before:=by rw[ML];simpa using hp
   have hb:b<W.heap.size:=hlt _ hp'
   have e:W'.frozen? ⟨b,off,none⟩=W.frozen? ⟨b,off,none⟩:=by
    simp only[World.frozen?,hB.block b hb]
   rw[e];exact hz b off hp'
  ·intro ha;have:=hn ha;rw[ML]at this;simpa using this
  ·intro p hp _;rw[ML];simpa using hp
end
theorem own:ownKnob Tryz.prog.godebug=none:=by kernel_rfl
theorem WI:Tryz.prog.globalNamed "internal/strconv.uint64pow10" =some 5:=by kernel_rfl
theorem HD:(Tryz.prog.globals[5]?).map (·.type)=some 343:=by kernel_rfl
theorem If:Tryz.prog.cellsOf 343=20:=by kernel_rfl
theorem Ig:Tryz.prog.cellsOf 278=1:=by kernel_rfl
theorem oO {W:World}{l:List (String×DataW Unit)}(hL:laidMetH Tryz.prog l W)(hl:(l.filter fun x=>x.1== "internal/strconv.uint64pow10")=[("internal/strconv.uint64pow10",Lib.tabData .u64 Lib.pow10Tab)])(hO:W.ShapedOpen Tryz.prog):L.kz W W.heap.size:=by
 have h1:=laidMetH.filter (fun x=>x.1== "internal/strconv.uint64pow10") hL;rw[hl,MakeChecks.laidMetH_plain _ _ _ (by kernel_rfl)]at h1;obtain⟨m,hm⟩:=Tryz.laysM145.s1_3 W hO;have EV:W.cell? ⟨0,0,none⟩=some (.int .i64 m):=hm;refine⟨ae _,Lib.tabBelow_of_tabIs (Lib.tabIs_of_head WI HD Tryz.underlying343 Tryz.underlying278 Ig If h1),?_,m,EV⟩;rcases aE W.heap.size with h0|h0
 ·simp[World.cell?,jT (show W.heap.size≤0 by omega)]at EV
 ·exact h0
def leaf:DataW Unit→List Value
 | .lit (.int k n)=>[.int k n]
 |_=>[]
def row:DataW Unit→List Value
 | .agg l=>l.flatMap leaf
 |d=>leaf d
def kX:DataW Unit→List Value
 | .agg l=>l.flatMap row
 |d=>leaf d
noncomputable def low:Nat:=(World.holding Tryz.prog default ⟨#[], #[],[]⟩).heap.size
def AT (h:Array Obj)(g:Nat)(cs:Array Value):Array Obj:=h.modify g fun
 | .cells _ t frozen=> .cells cs t frozen
 |o=>o
noncomputable def oD (os:Os):World:=
 let w0:=World.holding Tryz.prog os ⟨#[.cells #[.string ⟨#[105,110,118,97,108,105,100,32,115,121,110,116,97,120]⟩] 353,.cells #[.string ⟨#[118,97,108,117,101,32,111,117,116,32,111,102,32,114,97,110,103,101]⟩] 353], #[],[]⟩
 let h1:=AT w0.heap 8 (kX Rows.laid_math_bits_deBruijn32tab).toArray
 let h2:=AT h1 9 (kX Rows.laid_math_bits_deBruijn64tab).toArray
 let h3:=AT h2 5 (kX Rows.laid_internal_strconv_uint64pow10).toArray
 let h4:=AT h3 7 (kX Rows.laid_unicode_utf8_acceptRanges).toArray
 let h5:=AT h4 6 (kX Rows.laid_unicode_utf8_first).toArray
 let h6:=AT h5 3 #[.iface 351 (.pointer (some ⟨low,0,none⟩))]
 let h7:=AT h6 4 #[.iface 351 (.pointer (some ⟨low+1,0,none⟩))]
 { w0 with heap:=h7 }
end Go.Proofs.YtdaggbpeoldmeaaGreatDoor.laws
set_option linter.unusedSimpArgs false
namespace Go.Ae
noncomputable section
def AV.tok:AV→Nat
 | .sl t _ _ _=>t
 |_=>0
def cO (z:Nat)(h0 h:Hp)(v:AV)(n:Nat)(cs:List AV):Prop:=
 cs.length=n*z∧((v= .aq∧n=0)∨∃t st,v= .sl t 0 n z∧h.get t=some (.row cs true st)∧h0.next≤t∧t<h.next∧st≤h.dc)
def xH (z:Nat)(h:Hp)(v:AV)(n:Nat)(cs:List AV):Prop:=
 cs.length=n*z∧((v= .aq∧n=0)∨∃t own st,v= .sl t 0 n z∧h.get t=some (.row cs own st)∧t<h.next∧st≤h.dc)
section
variable {h0 h h':Hp}{v:AV}{z n b u st:Nat}{cs xs:List AV}{own:Bool}{K:AV→Hp→Prop}
theorem cO.nil:cO z h0 h .aq 0 []:=⟨by simp,.inl ⟨rfl,rfl⟩⟩
theorem cO.aO (o:cO z h0 h v n cs)(g:aH h h'):cO z h0 h' v n cs:=by
 obtain⟨hl,o|⟨t,st,e,hg,h1,h2,h3⟩⟩:=o
 ·exact⟨hl,.inl o⟩
 ·exact⟨hl,.inr ⟨t,st,e,(g.get h2).trans hg,h1,ah h2 g.next,aB h3 g.dc⟩⟩
theorem xH.aO (o:xH z h v n cs)(g:aH h h'):xH z h' v n cs:=by
 obtain⟨hl,o|⟨t,own,st,e,hg,h2,h3⟩⟩:=o
 ·exact⟨hl,.inl o⟩
 ·exact⟨hl,.inr ⟨t,own,st,e,(g.get h2).trans hg,ah h2 g.next,aB h3 g.dc⟩⟩
theorem cO.row (o:cO z h0 h v n cs):xH z h v n cs:=by
 obtain⟨hl,o|⟨t,st,e,hg,h1,h2,h3⟩⟩:=o
 ·exact⟨hl,.inl o⟩
 ·exact⟨hl,.inr ⟨t,true,st,e,hg,h2,h3⟩⟩
theorem xB (hu:h.get u=some (.row xs own st))(hx:xs.length=z):cellsOf h z (.sl u 0 1 z)=some xs:=by
 simp only[cellsOf,hu];rw[if_pos ⟨trivial,by omega⟩,←hx];simp
theorem Er (hu:h.get u=some (.row cs own st))(hx:cs.length=n*z):cellsOf h z (.sl u 0 n z)=some cs:=by
 simp only[cellsOf,hu];rw[if_pos ⟨trivial,by omega⟩,←hx];simp
theorem cO.app (G:aH h0 h)(O:cO z h0 h v n cs)(hx:xs.length=z)(hz:0<z)(hl:(n+1)*b≤140737488355328)(hl2:n+1≤140737488355328):
  ∃v' h',jm (h.push fun st=> .row xs true st) z b v (.sl h.next 0 1 z)=some (v',h')∧aH h0 h'∧cO z h0 h' v' (n+1) (cs++xs):=by
 have hc:cellsOf (h.push fun st=> .row xs true st) z (.sl h.next 0 1 z)=some xs:=xB Hp.cu hx;have hn0:=G.next;obtain⟨hlen,⟨rfl,rfl⟩|⟨t,st,rfl,hg,h1,h2,h3⟩⟩:=O
 ·have hcs:cs=[]:=fL.1 (by omega);subst hcs;refine⟨.sl (h.next+1) 0 1 z,(h.push fun st=> .row xs true st).push fun st=> .row xs true st,?_,G.push.push,by simp[hx],.inr ⟨h.next+1,(h.push fun st=> .row xs true st).dc+1,rfl,Hp.cu,by omega,?_,ae _⟩⟩
  ·unfold jm;rw[hc];simp only[uY];rw[if_pos ⟨by omega,by omega,hz⟩];rfl
  ·show h.next+1<h.next+1+1;omega
 ·have hgt:(h.push fun st=> .row xs true st).get t=some (.row cs true st):=(Hp.cY (by omega)).trans hg;refine⟨.sl (h.next+1) 0 (n+1) z,((h.push fun st=> .row xs true st).put t fun s=> .dead s).push fun st=> .row (cs++xs) true st,?_,(G.push.put h1).push,by simp[hx,hlen,bh],.inr ⟨h.next+1,((h.push fun st=> .row xs true st).put t fun s=> .dead s).dc+1,rfl,Hp.cu,by omega,?_,ae _⟩⟩
  ·unfold jm;rw[hc];simp only[uY];rw[hgt];simp only;rw[if_pos ⟨trivial,by omega,hl,hl2⟩];simp only[eE,←hlen,bj];rfl
  ·show h.next+1<h.next+1+1;omega
theorem cO.wp (hu:u=h.next)(G:aH h0 h)(O:cO z h0 h v n cs)(hx:xs.length=z)(hz:0<z)(hl:(n+1)*b≤140737488355328)(hl2:n+1≤140737488355328)
  (hk:∀v' h',aH h0 h'→cO z h0 h' v' (n+1) (cs++xs)→K v' h'):dK (jm (h.push fun st=> .row xs true st) z b v (.sl u 0 1 z)) K:=by
 subst hu;obtain⟨v',h',e,G',O'⟩:=O.app G hx hz hl hl2;rw[e];exact hk v' h' G' O'
end
def au.post:Nat→au→au
 |0,c=>c
 |n+1,.seq _ r=>r.post n
 |_+1,c=>c
def au.pre:Nat→au→au
 |0,_=> .skip
 |n+1,.seq a r=> .seq a (r.pre n)
 |_+1,c=>c
def au.parts:Nat→au→Bool
 |0,_=>true
 |n+1,.seq _ r=>r.parts n
 |_+1,_=>false
theorem Wp.cut {E:Env}{Q:Ex→St→Prop}:∀(n:Nat) {c:au} {s:St},c.parts n=true→Wp E (c.pre n) s (uH E (c.post n) Q)→Wp E c s Q
 |0,c,s,_,h=>Wp.sY.1 h
 | n +1,c,s,hp,h=>by
  cases c with
  | seq a r=>
   have h:=Wp.wM.1 (show Wp E (.seq a (r.pre n)) s (uH E (r.post n) Q) from h);refine Wp.seq (h.mono fun e s' hq=>?_);cases e with
   |fP=>exact Wp.cut n hp hq
   |exit i=>exact hq
   |ret=>exact hq
  |_=>cases hp
section
variable {α:Type}{f:α→List AV}{k:Nat}
theorem ko (hf:∀x,(f x).length=k):∀l:List α,(l.flatMap f).length=l.length*k
 |[]=>by simp
 |x::l=>by rw[fM,ar,hf,ko hf l,ap,bh];omega
theorem vR (hf:∀x,(f x).length=k):∀(l:List α) (i:Nat),(l.flatMap f).drop (i*k)=(l.drop i).flatMap f
 |[],i=>by simp
 |x::l,0=>by simp
 | x::l,i+1=>by
  rw[fM,List.drop_succ_cons,←vR hf l i,show(i+1)*k=(f x).length+i*k by rw[hf,bh];omega,List.drop_append];simp
theorem C5 (hf:∀x,(f x).length=k){l:List α}{i:Nat}(hi:i<l.length):((l.flatMap f).drop (i*k)).take k=f l[i]:=by
 rw[vR hf,ey hi,fM,←hf l[i],List.take_append];simp
theorem HL (hf:∀x,(f x).length=k){l:List α}{i j:Nat}(hi:i<l.length)(hj:j<k):(l.flatMap f)[i*k+j]?=(f l[i])[j]?:=by
 rw[←C5 hf hi,gi,if_pos hj,iW]
end
def wz (t:Nat)(x:Option (List (AV×AV)))(h:Hp)(K:AV→Hp→Prop):Prop:=
 match x with
 |some es=>K jC (h.put t fun s=> .kx es s)
 |none=>False
def wy (k:List UInt8)(t:Nat)(v:AV)(x:Option cP)(h:Hp)(K:AV→Hp→Prop):Prop:=
 match x with
 |some (.kx es _)=>wz t (AI k v es) h K
 |_=>False
def Am (m k v:AV)(h:Hp)(K:AV→Hp→Prop):Prop:=
 match m,k with
 | .map t,.str k=>wy k t v (h.get t) h K
 |_,_=>False
def pQ (z:AV)(ok:Bool)(x:Option (Option AV))(h:Hp)(K:AV→Hp→Prop):Prop:=
 match x with
 |some (some v)=>K (if ok then .fO [v,.bool true]else v) h
 |some none=>K (if ok then .fO [z,.bool false]else z) h
 |none=>False
def EI (k:List UInt8)(z:AV)(ok:Bool)(x:Option cP)(h:Hp)(K:AV→Hp→Prop):Prop:=
 match x with
 |some (.kx es _)=>pQ z ok (tY k es) h K
 |_=>False
def IJ (m k:AV)(z:AV)(ok:Bool)(h:Hp)(K:AV→Hp→Prop):Prop:=
 match m,k with
 | .map t,.str k=>EI k z ok (h.get t) h K
 |_,_=>False
section
variable {E:Env}{s:St}{h:Hp}{K:AV→Hp→Prop}{t st:Nat}{k:List UInt8}{v z x y w:AV}{ok:Bool}{es:List (AV×AV)}
theorem IY {a b c:bp}:bY E (.yS a b c) s K↔Am (val s.tm a) (val s.tm b) (val s.tm c) s.hp K:=by
 rw[Ns];simp only[pp,Am];cases val s.tm a<;>try exact ax
 cases val s.tm b<;>try exact ax
 rename_i t k;simp only[wy];cases s.hp.get t with
 |none=>exact ax
 | some o=>
  cases o with
  | kx es st=>
   simp only[wz];cases AI k (val s.tm c) es<;>exact ax
  |_=>exact ax
theorem Nu {a b:bp}:bY E (.Ok a b z ok) s K↔IJ (val s.tm a) (val s.tm b) z ok s.hp K:=by
 rw[PY];simp only[tC,IJ];cases val s.tm a<;>try exact ax
 cases val s.tm b<;>try exact ax
 rename_i t k;simp only[EI];cases s.hp.get t with
 |none=>exact ax
 | some o=>
  cases o with
  | kx es st=>
   simp only[pQ];cases tY k es with
   |none=>exact ax
   |some r=>cases r<;>exact ax
  |_=>exact ax
theorem Am.r:Am (.map t) (.str k) v h K↔wy k t v (h.get t) h K:=ax
theorem wy.row:wy k t v (some (.kx es st)) h K↔wz t (AI k v es) h K:=ax
theorem wz.FL:wz t (some es) h K↔K jC (h.put t fun s=> .kx es s):=ax
theorem IJ.r:IJ (.map t) (.str k) z ok h K↔EI k z ok (h.get t) h K:=ax
theorem EI.row:EI k z ok (some (.kx es st)) h K↔pQ z ok (tY k es) h K:=ax
theorem pQ.tt:pQ z true (some (some v)) h K↔K (.fO [v,.bool true]) h:=ax
theorem pQ.tf:pQ z true (some none) h K↔K (.fO [z,.bool false]) h:=ax
theorem pQ.ft:pQ z false (some (some v)) h K↔K v h:=ax
theorem pQ.ff:pQ z false (some none) h K↔K z h:=ax
theorem GH:AV.kg.one=true:=rfl
theorem GG:AV.jD.one=true:=rfl
theorem GF:AV.py.one=true:=rfl
theorem JK:(AV.map t).one=true:=rfl
theorem Ep:(AV.map t).cells=[.map t]:=rfl
theorem BU:AV.kg.cells=[.kg]:=rfl
attribute [go_sem] jA GH GG GF JK Ep BU IZ IY Nu Am.r wy.row wz.FL IJ.r EI.row pQ.tt pQ.tf pQ.ft pQ.ff
end
end
theorem BW {P:Program}{W:World}{E:Env}{ρ:dw}{h:Hp}{v:AV}{args:List AV}{f:Nat}(EO:fC P W W.heap.size E)(hc:eD P f=true)(hr:Gv E f args h v)
  (R:bv W.heap.size ρ h W) (hok:gP ρ h.next args) (hv:v.free=true):
  Calls P f (encs ρ args).toArray W fun e w'=>e= .returned (enc ρ v)∧Go.RowKit.Below W.heap.size W w':=by
 obtain⟨h',⟨n,hn⟩,_⟩:=hr;have D:=ut EO hn (fo _ _) R hok;unfold dQ at D;rw[nY hc]at D;refine Calls.mono (show Calls P f (encs ρ args).toArray W _ from D) fun e w' he=>?_
 obtain⟨u,rfl,ρ',X,_,rfl⟩:=he;exact⟨congrArg _ (nH _ _ v hv),X.eK.below R⟩
theorem yz {α:Type}{W:World}{ρ:dw}{f:α→List AV}{z b o base:Nat}(hz:0<z)(hf:∀x,(f x).length=z){l:List α}
  (hx:∀i (hi:i<l.length),W.cells? base ((⟨b,o,none⟩:Addr).add (i*z)) z=some (encs ρ (f l[i]))):W.rangeAt b o (encs ρ (l.flatMap f)):=by
 intro j v hj;rw[cC,bK]at hj;have hlen:=ko hf l
 have PF:j<l.length*z:=by
  rcases aQ j (l.length*z)with c|c
  ·exact c
  ·rw[bO (by rw[hlen];exact c)]at hj;cases hj
 have hi:j/z<l.length:=(df hz).2 PF;have hr:j%z<z:=bq _ hz;have e:j=j/z*z+j%z:=by rw[aA];exact(cE j z).symm
 obtain⟨_,IR,hc⟩:=World.cells?_some (hx (j/z) hi);have:=hc (j%z) hr;rw[Addr.add_mid,Addr.add_mid,dz,←e]at this;rw[this,cC,bK,←HL hf hi hr,←e];exact hj
end Go.Ae
namespace Go.Proofs.YtdaggbpeoldmeaaGreatDoor.laws
open Go.ChangeShapes Go.WideShapes Go.ChangeAt Go.RowKit Go.Ae
theorem wo {P:Program}{W:World}{base:Nat}{t e:TypeId}{v:Value}(ht:P.underlying t=some (.slice e))(hv:Value.okWide P W .any base t v):
  v= .slice none 0 0∨∃b o len cap,v= .slice (some ⟨b,o,none⟩) len cap∧len≤cap∧b<W.heap.size:=by
 unfold Value.okWide at hv;rw[ht]at hv;unfold Cell.okWide Cell.ok at hv;rw[ht]at hv;cases v<;>simp only at hv<;>try(exact hv.elim)
 rename_i a len cap;cases a with
 | none=>
  left;cases len<;>cases cap<;>first|rfl|exact hv.elim
 | some a=>
  obtain⟨b,o,sp⟩:=a;right;obtain⟨h1,_,h2⟩:=hv;obtain⟨_,h3,row,cells,h4,_⟩:=h2;simp only at h3;subst h3;refine⟨b,o,len,cap,rfl,h1,?_⟩;rcases aQ b W.heap.size with c|c
  ·exact c
  ·simp[World.shape?,jT c]at h4
section
variable {H:Type}{enc:TypeId×Value→H}{P:Program}
theorem oY (hl:laidOutB P=true){W W':World}{sp:Nat→Bool}(hb:Below W.heap.size W W'):∀{ts:List TypeId} {vs:List Value} {ds:List (DataW H)} {ps:List MemPlace},
  (∀t∈ts,P.readableRec t=true∧t<P.types.size)→DataW.TrodAll enc P W 0 (fun _=>true) true ts vs ds ps→(∀x∈ps,x.block<W.heap.size)→(∀x∈ps,sp x.block=true)→DataW.TrodAll enc P W' 0 sp true ts vs ds ps
 |[],[],[],_,_,h,_,_=>h
 | t ::_,_::_,_::_,_,hT,⟨p,q,h1,h2,e⟩,hlt,hs=>
  ⟨p,q,WideElems.Trod_stays hl (hT t (fv.2 (Or.inl rfl))).1 (hT t (fv.2 (Or.inl rfl))).2 h1 (fun x hx=>hb.same (hlt x (by rw[e];exact lT _ hx))) (fun x hx=>hs x (by rw[e];exact lT _ hx)),
   oY hl hb (fun t ht=>hT t (fv.2 (Or.inr ht))) h2 (fun x hx=>hlt x (by rw[e];exact E6 _ hx)) (fun x hx=>hs x (by rw[e];exact E6 _ hx)),e⟩
end
end Go.Proofs.YtdaggbpeoldmeaaGreatDoor.laws
namespace Go.Ae
noncomputable section
def jd (h:Hp)(v:AV)(l:List (List UInt8)):Prop:=xH 1 h v l.length (l.map AV.str)∨(l=[]∧∃b o s c,v= .HW b o s c)
def je (h:Hp)(v:AV)(m:List (List (List UInt8))):Prop:=∃vs:List AV,xH 1 h v m.length vs∧∀(i:Nat) (hi:i<m.length),∃u,vs[i]?=some u∧jd h u m[i]
section
variable {h h':Hp}{v:AV}{l:List (List UInt8)}{m:List (List (List UInt8))}
theorem jd.aO (o:jd h v l)(g:aH h h'):jd h' v l:=by
 rcases o with o|o
 ·exact .inl (o.aO g)
 ·exact .inr o
theorem je.aO (o:je h v m)(g:aH h h'):je h' v m:=by
 obtain⟨vs,r,e⟩:=o;exact⟨vs,r.aO g,fun i hi=>by obtain⟨u,h1,h2⟩:=e i hi;exact⟨u,h1,h2.aO g⟩⟩
theorem je.nil:je h .aq []:=⟨[],⟨rfl,.inl ⟨rfl,rfl⟩⟩,fun i hi=>absurd hi (fh _)⟩
end
end
def Rv (W:World)(u:Value)(k:List (List UInt8)):Prop:=
 (u= .slice none 0 0∧k=[])∨(∃b o s c,u= .slice (some ⟨b,o,s⟩) 0 c∧k=[])∨
 ∃b o c,u= .slice (some ⟨b,o,none⟩) k.length c∧k.length≤c∧b<W.heap.size∧∀ρ:dw,W.rangeAt b o (encs ρ (k.map AV.str))
theorem Jm (k:List (List UInt8)):∀v∈k.map AV.str,v.one=true:=by
 intro v hv;obtain⟨s,_,rfl⟩:=iV.1 hv;rfl
theorem NE (ρ:dw)(N:Nat)(k:List (List UInt8)):gP ρ N (k.map AV.str):=by
 rw[cQ];intro v hv;obtain⟨s,_,rfl⟩:=iV.1 hv;simp[ok]
def dw.one (ρ:dw)(t:Nat)(p:Place):dw:=fun u=>if u=t then p else ρ u
theorem dw.qV {ρ:dw}{t:Nat}{p:Place}:ρ.one t p t=p:=if_pos rfl
theorem dw.lI {ρ:dw}{t:Nat}{p:Place}:cV t ρ (ρ.one t p):=fun u hu=>if_neg (by omega)
theorem bv.more {W:World}{ρ:dw}{h:Hp}{p:Place}{cs:List AV}(R:bv W.heap.size ρ h W)(h1:∀v∈cs,v.one=true)(h2:gP ρ h.next cs)(hr:W.rangeAt p.b p.o (encs (ρ.one h.next p) cs))(hb:p.b<W.heap.size):
  bv W.heap.size (ρ.one h.next p) (h.push fun s=> .row cs false s) W:=
 R.nk _ dw.lI (ae _) (fun _ _=>rfl) ⟨⟨h1,io dw.lI (Nat.le_succ _) _ h2,by rw[dw.qV];exact hr,nofun,fun _=> .inr (by rw[dw.qV];exact hb)⟩,nofun⟩
theorem FW {W:World}{u:Value}{k:List (List UInt8)}(hv:Rv W u k){ρ:dw}{h:Hp}(R:bv W.heap.size ρ h W):
  ∃ρ' h' v,cV h.next ρ ρ'∧aH h h'∧bv W.heap.size ρ' h' W∧enc ρ' v=u∧ok ρ' h'.next v∧v.one=true∧jd h' v k:=by
 rcases hv with⟨rfl,rfl⟩|⟨b,o,s,c,rfl,rfl⟩|⟨b,o,c,rfl,hc,hb,hr⟩
 ·exact⟨ρ,h,.aq,cV.refl _ _,aH.refl _,R,by simp[enc],by simp[ok],rfl,.inl ⟨rfl,.inl ⟨rfl,rfl⟩⟩⟩
 ·exact⟨ρ,h,.HW b o s c,cV.refl _ _,aH.refl _,R,by simp[enc],by simp[ok],rfl,.inr ⟨rfl,_,_,_,_,rfl⟩⟩
 ·refine⟨ρ.one h.next ⟨b,o,c,1⟩,h.push fun s=> .row (k.map AV.str) false s,.sl h.next 0 k.length 1,dw.lI,(aH.refl _).push,bv.more R (Jm k) (NE _ _ k) (hr _) hb,?_,?_,rfl,.inl ⟨by simp,.inr ⟨h.next,false,_,rfl,Hp.cu,?_,ae _⟩⟩⟩
  ·simp[enc,dw.qV]
  ·simp[ok,dw.qV,Hp.push];omega
  ·exact cN _
theorem CE {W:World}:∀(l:List (Value×List (List UInt8))),(∀x∈l,Rv W x.1 x.2)→∀{ρ:dw} {h:Hp},bv W.heap.size ρ h W→
  ∃ρ' h' vs,cV h.next ρ ρ'∧aH h h'∧bv W.heap.size ρ' h' W∧encs ρ' vs=l.map (·.1)∧gP ρ' h'.next vs∧(∀v∈vs,v.one=true)∧vs.length=l.length∧∀(i:Nat) (hi:i<l.length),∃u,vs[i]?=some u∧jd h' u l[i].2
 |[],_,ρ,h,R=>⟨ρ,h,[],cV.refl _ _,aH.refl _,R,by simp[encs],by simp[gP],nofun,rfl,fun i hi=>absurd hi (fh _)⟩
 | x ::l,hl,ρ,h,R=>by
  obtain⟨ρ1,h1,v,a1,g1,R1,e1,o1,n1,r1⟩:=FW (hl x (fv.2 (.inl rfl))) R;obtain⟨ρ2,h2,vs,a2,g2,R2,e2,o2,n2,l2,r2⟩:=CE l (fun y hy=>hl y (fv.2 (.inr hy))) R1;refine⟨ρ2,h2,v::vs,a1.trans a2 g1.next,g1.trans g2,R2,?_,?_,?_,by simp[l2],?_⟩
  ·simp only[encs,List.map_cons,e2,du a2 v o1,e1]
  ·simp only[gP];exact⟨fy a2 g2.next v o1,o2⟩
  ·intro w hw;rcases fv.1 hw with rfl|hw
   ·exact n1
   ·exact n2 w hw
  ·intro i hi;cases i with
   |zero=>exact⟨v,rfl,r1.aO g2⟩
   | succ i=>
    obtain⟨u,hu,hr⟩:=r2 i (by simpa using hi);exact⟨u,by simpa using hu,by simpa using hr⟩
theorem Oh {W:World}{b o c:Nat}{l:List (Value×List (List UInt8))}(hl:∀x∈l,Rv W x.1 x.2)(hc:l.length≤c)(hb:b<W.heap.size)(hr:W.rangeAt b o (l.map (·.1))){ρ:dw}{h:Hp}(R:bv W.heap.size ρ h W):
  ∃ρ' h' v,cV h.next ρ ρ'∧aH h h'∧bv W.heap.size ρ' h' W∧enc ρ' v= .slice (some ⟨b,o,none⟩) l.length c∧ok ρ' h'.next v∧je h' v (l.map (·.2)):=by
 obtain⟨ρ1,h1,vs,a1,g1,R1,e1,o1,n1,l1,r1⟩:=CE l hl R;refine⟨ρ1.one h1.next ⟨b,o,c,1⟩,h1.push fun s=> .row vs false s,.sl h1.next 0 l.length 1,fun t ht=>?_,g1.push,bv.more R1 n1 o1 (by rw[fA dw.lI vs o1,e1];exact hr) hb,?_,?_,vs,⟨by simp[l1],.inr ⟨h1.next,false,_,by simp,Hp.cu,cN _,ae _⟩⟩,?_⟩
 ·have:=g1.next;exact(dw.lI t (by omega)).trans (a1 t ht)
 ·simp[enc,dw.qV]
 ·simp[ok,dw.qV,Hp.push];omega
 ·intro i hi;obtain⟨u,hu,hr⟩:=r1 i (by simpa using hi);exact⟨u,hu,by simpa using hr.aO (aH.refl _).push⟩
end Go.Ae
namespace Go.Proofs.YtdaggbpeoldmeaaGreatDoor.laws
open Go.ChangeShapes Go.WideShapes Go.ChangeAt Go.RowKit Go.Ae
theorem Es {W:World}{b o:Nat}{s:Option Nat}{v:Value}(h:W.cell? ⟨b,o,s⟩=some v):s=none∧b<W.heap.size:=by
 unfold World.cell? at h;cases hb:W.heap[b]? with
 |none=>rw[hb]at h;cases h
 | some x=>
  have hlt:b<W.heap.size:=by
   rcases aQ b W.heap.size with c|c
   ·exact c
   ·rw[jT c]at hb;cases hb
  rw[hb]at h;cases s with
  |none=>exact⟨rfl,hlt⟩
  |some n=>cases x<;>simp at h
section
variable {H:Type}{enc:TypeId×Value→H}{P:Program}{W:World}{base:Nat}{sp:Nat→Bool}{hd:Bool}
theorem NN (w:List (List UInt8)):w.flatMap (fun s=>[AV.str s])=w.map AV.str:=by
 induction w with
 |nil=>rfl
 |cons x w ih=>rw[fM,ih];rfl
theorem yH {t e:TypeId}{fuel:Nat}{cs:List Value}{x:DataW H×List MemPlace}(ht:P.underlying t=some (.slice e))(he:P.underlying e=some .string)(hc1:P.cellsOf e=1)
  (h:DataW.trod enc P W 0 (fun _=>true) hd fuel t cs=some x):∃u k,cs=[u]∧Rv W u k:=by
 rcases E8 ht h with⟨rfl,_⟩|⟨a,len,cap,m,n,D,Pl,rfl,_,IR,_,hm,_,hx⟩
 ·exact⟨_,[],rfl,.inl ⟨rfl,rfl⟩⟩
 ·simp only[if_true]at hm;subst hm;rw[hc1]at hx;obtain⟨b,o,s⟩:=a;rcases aE len with rfl|h0
  ·exact⟨_,[],rfl,.inr (.inl ⟨_,_,_,_,rfl,rfl⟩)⟩
  ·obtain⟨cs0,h1,_⟩:=hx 0 (by omega);obtain⟨_,We,hcell⟩:=World.cells?_some h1;have hc0:=hcell 0 vh
   obtain⟨c0,rfl⟩:∃c,cs0=[c]:=by
    match cs0,We with
    |[c],_=>exact⟨c,rfl⟩
   obtain⟨rfl,hb⟩:=Es (W:=W) (b:=b) (o:=o) (s:=s) (v:=c0) (by simpa[Addr.add]using hc0)
   have each:∀i,i<len→∃k:List UInt8,∀ρ,W.cells? 0 ((⟨b,o,none⟩:Addr).add (i*1)) 1=some (encs ρ [AV.str k]):=fun i hi=>by
    obtain⟨vY,g1,g2⟩:=hx i (by omega);obtain⟨s,s1,_,_⟩:=DataW.trod_string he g2;exact⟨s.data.toList,fun ρ=>by rw[g1,s1];simp[encs,Ae.enc]⟩
   obtain⟨f,PH⟩:=Go.Deep.choose_lt each;refine⟨_,(ct len).map f,rfl,.inr (.inr ⟨b,o,m,by simp,by simpa using IR,hb,fun ρ=>?_⟩)⟩;rw[←NN];refine yz (base:=0) (f:=fun s=>[AV.str s]) vh (fun _=>rfl) fun i hi=>?_
   have hi':i<len:=by simpa using hi
   rw[PH i hi' ρ];simp
theorem Gw {t e s:TypeId}{b o len cap:Nat}{d:DataW H}{p:List MemPlace}(ht:P.underlying t=some (.slice e))(he:P.underlying e=some (.slice s))(hs:P.underlying s=some .string)(hc0:P.cellsOf e=1)(hc1:P.cellsOf s=1)
  (h:DataW.Trod enc P W 0 (fun _=>true) true t (.slice (some ⟨b,o,none⟩) len cap) d p):
  ∃l:List (Value×List (List UInt8)),l.length=len∧(∀x∈l,Rv W x.1 x.2)∧W.rangeAt b o (l.map (·.1)):=by
 obtain⟨fuel,hf⟩:=h;rcases E8 ht (by simpa[Value.cells]using hf)with⟨hcs,_⟩|⟨a',len',cap',m,n,D,Pl,hcs,_,IR,_,hm,_,hx⟩
 ·simp at hcs
 ·simp at hcs;obtain⟨rfl,rfl,rfl⟩:=hcs;simp only[if_true]at hm;subst hm;rw[hc0]at hx
  have each:∀i,i<len→∃y:Value×List (List UInt8),W.cells? 0 ((⟨b,o,none⟩:Addr).add (i*1)) 1=some [y.1]∧Rv W y.1 y.2:=fun i hi=>by
   obtain⟨vY,h1,h2⟩:=hx i (by omega);obtain⟨u,k,rfl,hk⟩:=yH he hs hc1 h2;exact⟨(u,k),h1,hk⟩
  obtain⟨f,PH⟩:=Go.Deep.choose_lt each;refine⟨(ct len).map f,by simp,fun x hx=>?_,fun j v hj=>?_⟩
  ·obtain⟨i,hi,rfl⟩:=iV.1 hx;exact(PH i (by simpa using hi)).2
  ·have PF:j<len:=by
    rcases aQ j len with c|c
    ·exact c
    ·rw[bO (by simpa using c)]at hj;cases hj
   obtain⟨_,_,hc⟩:=World.cells?_some (PH j PF).1;have:=hc 0 vh;rw[Addr.add_mid,Addr.add_mid,aY,dF]at this;rw[this];simp only[List.map_map,bK,List.getElem?_range PF,Option.map_some,Function.comp]at hj;simpa using hj
end
end Go.Proofs.YtdaggbpeoldmeaaGreatDoor.laws
namespace Go.Ae.Bg
theorem ug {p q n:Int}{d:Nat}(hq:q≠0)(hd:d≠0)(hc:n.natAbs.Coprime d)(h:p*d=n*q):(bD p q).num=n∧(bD p q).den=d:=by
 have e:bD p q=⟨n,d,hd,hc⟩:=by
  rw[Rat.mk_eq_divInt,Dv hq (by omega)];exact h
 rw[e];exact⟨rfl,rfl⟩
theorem mA {p q:Int}(hq:0<q):(bD p q).num=p.fdiv (cG p q:Int)∧((bD p q).den:Int)=q.fdiv (cG p q:Int):=by
 have hg:0<cG p q:=kW _ (by omega);obtain⟨a,ha⟩:=wE p q;obtain⟨b,hb⟩:=uV p q;have hgi:(cG p q:Int)≠0:=by omega
 have e1:p.fdiv (cG p q:Int)=a:=by
  have:=fe a hgi;rwa[←ha]at this
 have e2:q.fdiv (cG p q:Int)=b:=by
  have:=fe b hgi;rwa[←hb]at this
 have e3:cG a b=1:=by
  have h1:cG p q=cG p q*cG a b:=by
   have:=Int.gcd_mul_left (cG p q:Int) a b;rw[←ha,←hb,aw]at this;exact this
  exact Cd hg (by omega)
 have hb0:0<b:=by
  rcases Int.lt_or_le 0 b with c|c
  ·exact c
  ·have:(cG p q:Int)*b≤0:=Int.mul_nonpos_of_nonneg_of_nonpos (by omega) c;omega
 obtain⟨d,rfl⟩:∃d:Nat,b=d:=⟨b.toNat,by omega⟩
 obtain⟨h1,h2⟩:=ug (p:=p) (q:=q) (n:=a) (d:=d) (by omega) (by omega) e3 (by
  have h3:p*(d:Int)=(cG p q:Int)*a*d:=by rw[←ha]
  have h4:a*q=a*((cG p q:Int)*d):=by rw[←hb]
  rw[h3,h4];ac_rfl)
 rw[h1,h2,e1,e2];exact⟨rfl,rfl⟩
theorem fB {p:Int}:(bD p 1).num=p∧(bD p 1).den=1:=
 ug (p:=p) (q:=1) (n:=p) (d:=1) (by omega) (by omega) (Nat.coprime_one_right _) (by simp)
theorem nI {p q:Int}(hq:q≠0):bD (-p) (-q)=bD p q:=by
 rw[Dv (by omega) hq,Int.neg_mul,Int.mul_neg]
theorem den_pos (r:Rat):0<r.den:=Nat.pos_of_ne_zero r.den_nz
theorem rk {p q:Int}(hq:q≠0):(bD p q).num.natAbs≤p.natAbs∧(bD p q).den≤q.natAbs:=by
 have key:∀{p q:Int},0<q→(bD p q).num.natAbs≤p.natAbs∧(bD p q).den≤q.natAbs:=by
  intro p q hq;obtain⟨h1,h2⟩:=mA (p:=p) hq;have hg:0<cG p q:=kW _ (by omega);obtain⟨a,ha⟩:=wE p q;obtain⟨b,hb⟩:=uV p q;have hgi:(cG p q:Int)≠0:=by omega
  have e1:p.fdiv (cG p q:Int)=a:=by
   have:=fe a hgi;rwa[←ha]at this
  have e2:q.fdiv (cG p q:Int)=b:=by
   have:=fe b hgi;rwa[←hb]at this
  have n1:p.natAbs=cG p q*a.natAbs:=by
   have:=congrArg AD ha;rwa[fu,aw]at this
  have n2:q.natAbs=cG p q*b.natAbs:=by
   have:=congrArg AD hb;rwa[fu,aw]at this
  have m1:a.natAbs≤cG p q*a.natAbs:=jF _ hg;have m2:b.natAbs≤cG p q*b.natAbs:=jF _ hg;rw[e1]at h1;rw[e2]at h2;rw[h1];omega
 by_cases hp:0<q
 ·exact key hp
 ·have:=key (p:= -p) (q:= -q) (by omega);rwa[nI hq,sc,sc]at this
theorem FX (a b:Rat):a*b=bD (a.num*b.num) (a.den*b.den:Int):=by
 conv=>lhs;rw[←jo a,←jo b,Rat.divInt_mul_divInt]
theorem DL (a b:Rat):a+b=bD (a.num*b.den+b.num*a.den) (a.den*b.den:Int):=by
 have h1:=den_pos a;have h2:=den_pos b
 conv=>lhs;rw[←jo a,←jo b,Rat.divInt_add_divInt _ _ (by omega) (by omega)]
theorem Qs {a b:Rat}(ha:(a.den:Int)=1)(hb:(b.den:Int)=1):(a+b).num=a.num+b.num∧(a+b).den=1:=by
 rw[DL,ha,hb,Int.mul_one,Int.mul_one,Int.mul_one];exact fB
theorem uh {p q:Int}(hq:0<q):(bD p q).num.natAbs=p.natAbs/eA p.natAbs q.natAbs∧(bD p q).den=q.natAbs/eA p.natAbs q.natAbs∧((bD p q).num<0↔p<0):=by
 obtain⟨h1,h2⟩:=mA (p:=p) hq;have hg:0<cG p q:=kW _ (by omega);obtain⟨a,ha⟩:=wE p q;obtain⟨b,hb⟩:=uV p q;have hgi:(cG p q:Int)≠0:=by omega
 have e1:p.fdiv (cG p q:Int)=a:=by
  have:=fe a hgi;rwa[←ha]at this
 have e2:q.fdiv (cG p q:Int)=b:=by
  have:=fe b hgi;rwa[←hb]at this
 have n1:p.natAbs=cG p q*a.natAbs:=by
  have:=congrArg AD ha;rwa[fu,aw]at this
 have n2:q.natAbs=cG p q*b.natAbs:=by
  have:=congrArg AD hb;rwa[fu,aw]at this
 have eg:eA p.natAbs q.natAbs=cG p q:=rfl;rw[e1]at h1;rw[e2]at h2;rw[eg];refine⟨?_,?_,?_⟩
 ·rw[h1];conv=>rhs;rw[n1]
  rw[oL _ hg]
 ·have:q.natAbs/cG p q=b.natAbs:=by
   conv=>lhs;rw[n2]
   rw[oL _ hg]
  omega
 ·rw [h1];constructor
  ·intro c;rw[ha];exact Int.mul_neg_of_pos_of_neg (by omega) c
  ·intro c;rcases Int.lt_or_le a 0 with d|d
   ·exact d
   ·have:0≤(cG p q:Int)*a:=Int.mul_nonneg (by omega) d;omega
end Go.Ae.Bg
namespace Go.Ae.Gj
open Bg
abbrev Mt:=Nat→Nat→Rat
def swp (f a:Nat)(M:Mt):Mt:=fun i=>if i=f then M a else if i=a then M f else M i
def Aw (f:Nat)(b:Rat)(M:Mt):Mt:=fun i k=>if i=f then M i k*b else M i k
def red (f c:Nat)(M:Mt):Mt:=fun i k=>if i=f then M i k else M i k-M i c*M f k
def Jn (f c a:Nat)(M:Mt):Mt:=red f c (Aw f (M a c)⁻¹ (swp f a M))
def vQ (p:Nat→Bool):Nat→Nat→Option Nat
 |0,_=>none
 |k+1,i=>if p i then some i else vQ p k (i+1)
theorem qx {p:Nat→Bool}:∀{k i a:Nat},vQ p k i=some a→i≤a∧a<i+k∧p a=true
 |0,i,a,h=>by cases h
 | k +1,i,a,h=>by
  rw[vQ]at h;by_cases c:p i=true
  ·rw[if_pos c]at h;cases h;exact⟨ae _,by omega,c⟩
  ·rw[if_neg c]at h;obtain⟨h1,h2,h3⟩:=qx h;exact⟨by omega,by omega,h3⟩
theorem C3 {p:Nat→Bool}{k i:Nat}(hk:0<k)(h:p i=true):vQ p k i=some i:=by
 cases k with
 |zero=>omega
 |succ k=>rw[vQ,if_pos h]
theorem zq {p:Nat→Bool}{k i:Nat}(hk:0<k)(h:p i=false):vQ p k i=vQ p (k-1) (i+1):=by
 cases k with
 |zero=>omega
 |succ k=>rw[vQ,h];rfl
def el (n:Nat)(M:Mt):Nat→Option Mt
 |0=>some M
 | c +1=>match el n M c with
  | some E=>match vQ (fun i=>decide (E i c≠0)) (n-c) c with
   |some a=>some (Jn c c a E)
   |none=>none
  |none=>none
theorem Kn {n c:Nat}{M:Mt}(h:el n M c=none):el n M (c+1)=none:=by rw[el,h]
theorem C9 {n c:Nat}{M E:Mt}(h:el n M c=some E)(hf:vQ (fun i=>decide (E i c≠0)) (n-c) c=none):el n M (c+1)=none:=by rw[el,h];simp only[hf]
theorem Da {n c a:Nat}{M E:Mt}(h:el n M c=some E)(hf:vQ (fun i=>decide (E i c≠0)) (n-c) c=some a):el n M (c+1)=some (Jn c c a E):=by rw[el,h];simp only[hf]
theorem zy {n:Nat}{M:Mt}{c:Nat}(h:el n M c=none):∀k,el n M (c+k)=none
 |0=>h
 |k+1=>Kn (zy h k)
theorem zz {n:Nat}{M:Mt}{c d:Nat}(h:el n M c=none)(hd:c≤d):el n M d=none:=by
 have:=zy h (d-c);rwa[show c+(d-c)=d by omega]at this
def sm (g:Nat→Rat):Nat→Rat
 |0=>0
 |k+1=>sm g k+g k
def off (n:Nat)(x:Nat→Rat)(r:Nat→Rat):Rat:=sm (fun k=>r k*x k) n-r n
theorem DR {a b:Rat}(h:a*b=0)(hb:b≠0):a=0:=by
 have h1:a*b*b⁻¹=a:=by rw[Rat.mul_assoc,Rat.mul_inv_cancel b hb,Rat.mul_one]
 rw[←h1,h,Rat.zero_mul]
def Db (e:Nat)(r:Rat):Prop:=r.num.natAbs<10^e∧r.den<10^e
def Rb (e w:Nat)(r:Nat→Rat):Prop:=∃(D:Int) (V:Nat→Int),D≠0∧D.natAbs<10^e∧∀k,k<w→(V k).natAbs<10^e∧r k*(D:Rat)=V k
theorem qf {a b:Nat}(h:a≤b):(10:Nat)^a≤10^b:=aT (by omega) h
theorem Db.mono {e f:Nat}{r:Rat}(i:Db e r)(h:e≤f):Db f r:=⟨ah i.1 (qf h),ah i.2 (qf h)⟩
theorem Rb.mono {e f w:Nat}{r:Nat→Rat}(i:Rb e w r)(h:e≤f):Rb f w r:=by
 obtain⟨D,V,h0,h1,h2⟩:=i;exact⟨D,V,h0,ah h1 (qf h),fun k hk=>⟨ah (h2 k hk).1 (qf h),(h2 k hk).2⟩⟩
theorem xC {z:Int}(h:z≠0):(z:Rat)≠0:=fun e=>h (by rw[←Rat.intCast_zero]at e;exact Rat.intCast_inj.1 e)
theorem Rb.db {e w k:Nat}{r:Nat→Rat}(i:Rb e w r)(hk:k<w):Db e (r k):=by
 obtain⟨D,V,h0,h1,h2⟩:=i;obtain⟨h3,h4⟩:=h2 k hk
 have e1:r k=bD (V k) D:=by
  rw[Rat.divInt_eq_div,←h4];have:=xC h0;grind
 obtain⟨g1,g2⟩:=rk (p:=V k) h0;rw[e1];exact⟨by omega,by omega⟩
theorem Rb.scale {e w c:Nat}{r:Nat→Rat}(i:Rb e w r)(hc:c<w)(h0:r c≠0):Rb e w (fun k=>r k*(r c)⁻¹):=by
 obtain⟨D,V,d0,h1,h2⟩:=i;have hv:=(h2 c hc).2;have hd:=xC d0;refine⟨V c,V,fun e=>?_,(h2 c hc).1,fun k hk=>⟨(h2 k hk).1,?_⟩⟩
 ·rw[e]at hv;exact h0 (DR (hv.trans Rat.intCast_zero) hd)
 ·rw[←hv,←(h2 k hk).2];have:=Rat.mul_inv_cancel _ h0;grind
theorem Rb.sub {e f w c:Nat}{r s:Nat→Rat}(i:Rb e w r)(j:Rb f w s)(hc:c<w):Rb (e+f+1) w (fun k=>r k-r c*s k):=by
 obtain⟨D,V,d0,h1,h2⟩:=i;obtain⟨F,U,f0,g1,g2⟩:=j;have ep:(10:Nat)^(e+f+1)=10*(10^e*10^f):=by rw[aV,dm];omega
 have hp:0<10^e*10^f:=eY (dp (by omega)) (dp (by omega))
 have lt:∀{x y:Int},x.natAbs<10^e→y.natAbs<10^f→(x*y).natAbs<10^e*10^f:=fun{x y} hx hy=>by
  rw[fu];exact gR (aM _ (EZ hx)) (gH hy (by omega))
 refine⟨D*F,fun k=>V k*F-V c*U k,Int.mul_ne_zero d0 f0,by rw[ep];have:=lt h1 g1;omega,fun k hk=>⟨?_,?_⟩⟩
 ·have:=lt (h2 k hk).1 g1;have:=lt (h2 c hc).1 (g2 k hk).1;have:=Int.natAbs_sub_le (V k*F) (V c*U k);rw[ep];show(V k*F-V c*U k).natAbs<_;omega
 ·show _=((V k*F-V c*U k:Int):Rat)
  rw[Rat.intCast_sub,kU,kU,kU,←(h2 k hk).2,←(h2 c hc).2,←(g2 k hk).2];grind
def pd (r:Nat→Rat):Nat→Nat
 |0=>1
 |k+1=>pd r k*(r k).den
theorem Gk {r:Nat→Rat}:∀w,0<pd r w
 |0=>vh
 |w+1=>eY (Gk w) (den_pos _)
theorem Gl {r:Nat→Rat}:∀{w k:Nat},k<w→(r k).den∣pd r w
 | w+1,k,h=>by
  rcases Aq (Nat.le_of_lt_succ h)with e|e
  ·rw[e];exact Nat.dvd_mul_left _ _
  ·exact Nat.dvd_trans (Gl e) (Nat.dvd_mul_right _ _)
theorem MA {r:Nat→Rat}{d:Nat}:∀{w:Nat},(∀k,k<w→(r k).den≤10^d)→pd r w≤10^(d*w)
 |0,_=>by simp[pd]
 | w+1,h=>by
  rw[pd,Nat.mul_succ,dm];exact fG (MA fun k hk=>h k (by omega)) (h w (by omega))
theorem Rb.of {d w:Nat}{r:Nat→Rat}(h:∀k,k<w→Db d (r k))(h0:0<d):Rb (d*w+d) w r:=by
 have hp:=Gk (r:=r) w;have hl:=MA (r:=r) (d:=d) fun k hk=>EZ (h k hk).2
 have e1:(10:Nat)^(d*w+d)=10^(d*w)*10^d:=dm ..;have hd1:1<10^d:=Nat.one_lt_pow (by omega) (by omega);refine⟨(pd r w:Nat),fun k=>(r k).num*((pd r w/(r k).den:Nat):Int),by omega,?_,fun k hk=>?_⟩
 ·rw[aw,e1];have:10^(d*w)*1<10^(d*w)*10^d:=gH hd1 (dp (by omega));omega
 ·obtain⟨q,hq⟩:=Gl (r:=r) hk;have eq:pd r w/(r k).den=q:=by rw[hq];exact oL _ (den_pos _)
  show((r k).num*((pd r w/(r k).den:Nat):Int)).natAbs<_∧_=(((r k).num*((pd r w/(r k).den:Nat):Int):Int):Rat)
  rw[eq];refine⟨?_,?_⟩
  ·rw[fu,aw,e1,aA];have q1:q≤pd r w:=by rw[hq];exact jF _ (den_pos _)
   have q0:0<q:=Nat.pos_of_ne_zero fun e=>by rw[e]at hq;omega
   exact ah (gH (h k hk).1 q0) (aM _ (aB q1 hl))
  ·rw[hq,kU];have e2:((((r k).den*q:Nat):Int):Rat)=(((r k).den:Int):Rat)*((q:Int):Rat):=by rw[ce,kU]
   have e3:r k*(((r k).den:Int):Rat)=((r k).num:Rat):=by
    have h1:=jo (r k);rw[Rat.divInt_eq_div]at h1;have h2:=xC (show((r k).den:Int)≠0 by have:=den_pos (r k);omega);grind
   rw[e2,←e3];grind
def Mb (e n w:Nat)(M:Mt):Prop:=∀i,i<n→Rb e w (M i)
theorem Mb.mono {e f n w:Nat}{M:Mt}(h:Mb e n w M)(hf:e≤f):Mb f n w M:=fun i hi=>(h i hi).mono hf
theorem Mb.swp {e n w f a:Nat}{M:Mt}(h:Mb e n w M)(hf:f<n)(ha:a<n):Mb e n w (swp f a M):=fun i hi=>by
 unfold Gj.swp;by_cases h1:i=f
 ·rw[if_pos h1];exact h a ha
 ·rw[if_neg h1];by_cases h2:i=a
  ·rw[if_pos h2];exact h f hf
  ·rw[if_neg h2];exact h i hi
theorem Mb.Aw {e n w f c:Nat}{M:Mt}(h:Mb e n w M)(hf:f<n)(hc:c<w)(h0:M f c≠0):Mb e n w (Aw f (M f c)⁻¹ M):=fun i hi=>by
 by_cases h1:i=f
 ·subst h1;rw[show Gj.Aw i (M i c)⁻¹ M i=fun k=>M i k*(M i c)⁻¹ by funext k;simp[Gj.Aw]];exact(h i hi).scale hc h0
 ·rw[show Gj.Aw f (M f c)⁻¹ M i=M i by funext k;simp[Gj.Aw,h1]];exact h i hi
theorem Mb.red {e n w f c:Nat}{M:Mt}(h:Mb e n w M)(hf:f<n)(hc:c<w):Mb (e+e+1) n w (red f c M):=fun i hi=>by
 by_cases h1:i=f
 ·rw[show Gj.red f c M i=M i by funext k;simp[Gj.red,h1]];exact(h i hi).mono (by omega)
 ·rw[show Gj.red f c M i=fun k=>M i k-M i c*M f k by funext k;simp[Gj.red,h1]];exact(h i hi).sub (h f hf) hc
theorem rL {f a:Nat}{M:Mt}:swp f a M f=M a:=if_pos rfl
theorem Mb.Jn {e n w f c a:Nat}{M:Mt}(h:Mb e n w M)(hf:f<n)(ha:a<n)(hc:c<w)(h0:M a c≠0):Mb (e+e+1) n w (Jn f c a M):=by
 unfold Gj.Jn;refine Mb.red ?_ hf hc;have:=(h.swp hf ha).Aw hf hc (by rw[rL];exact h0);rwa[rL]at this
def eb (e:Nat):Nat→Nat
 |0=>e
 |k+1=>eb e k+eb e k+1
theorem xw {e:Nat}:∀{j k:Nat},j≤k→eb e j≤eb e k
 |j,0,h=>by rw[Nat.le_zero.1 h];exact ae _
 | j,k+1,h=>by
  rcases Aq h with e1|e1
  ·rw[e1];exact ae _
  ·have:=xw (e:=e) (Nat.le_of_lt_succ e1);rw[show eb e (k+1)=eb e k+eb e k+1 from rfl];omega
theorem Dc {n w e:Nat}{M:Mt}(h0:Mb e n w M)(hw:n≤w):∀{c:Nat} {E:Mt},c≤n→el n M c=some E→Mb (eb e c) n w E
 | 0,E,_,h=>by
  rw[el]at h;cases h
  exact h0
 | c + 1,E,hc,h=>by
  rw[el]at h;cases he:el n M c with
  |none=>rw[he]at h;cases h
  | some E'=>
   rw[he]at h;simp only at h;cases hf:vQ (fun i=>decide (E' i c≠0)) (n-c) c with
   |none=>rw[hf]at h;cases h
   | some a=>
    rw[hf]at h;simp only[cq]at h;subst h;obtain⟨a1,a2,a3⟩:=qx hf;exact(Dc h0 hw (by omega) he).Jn (by omega) (by omega) (by omega) (of_decide_eq_true a3)
end Go.Ae.Gj
namespace Go.Ae
open N Go.Proofs
section
variable {h:Hp}{K:AV→Hp→Prop}
theorem SE {s:List UInt8}{n:Int}(hn:0≤n∧n≤9223372036854775807∧s.length*n.toNat≤140737488355328):ac E2 221 [.str s,.int .i64 n] h K↔K (.str (Lib.repeatL s n.toNat)) h:=by
 rw[ac.fS (p:=L.AY) rfl rfl];have:L.AY [.str s,.int .i64 n] h=some (.str (Lib.repeatL s n.toNat),h):=if_pos hn;rw[this];exact ax
theorem c17:ac E2 17 [] h K↔K (.bool true) h:=by
 rw[ac.fS (p:=fun args h=>match Gn args with|some v=>some (v,h)|none=>none) rfl rfl];exact ax
theorem W4 {n k:Nat}(hn:n≤9223372036854775807)(hk:k≤1000):ac E2 186 [.int .i64 n,.int .i64 k] h K↔K (.str (bn n k)) h:=by
 refine ac.cZ (ac.fn (fn:=C.Lw) rfl rfl rfl ?_);have hlen:(bn n k).length≤19+k:=iI 19 (by omega);unfold C.Lw;simp(disch:=try exact ab) only[go_sem,seval];refine Wp.bW (fun m s=>∃(n':Nat) (l:List UInt8),val s.tm (.t 0)= .int .i64 n'∧val s.tm (.t 1)= .int .i64 k∧val s.tm (.t 5)= .str l∧s.hp=h∧n'≤n∧bn n' (k-l.length)++l=bn n k∧m=n'+(k-l.length)) (n:=n+k) ?_ ?_
 ·exact⟨n,[],aS,aS,aS,rfl,ae _,by simp,by simp⟩
 ·rintro m ⟨tm,hp⟩ ⟨n',l,h0,h1,h5,rfl,hle,heq,rfl⟩;simp only at h0 h1 h5;have hl:l.length≤(bn n k).length:=by rw[←heq,ar];omega
  have hs:gJ ((n':Int)%10).toNat (fH ((n':Int)%10+1).toNat [48,49,50,51,52,53,54,55,56,57])=[dg n']:=by
   rw[show((n':Int)%10).toNat=n'%10 by omega,show((n':Int)%10+1).toNat=n'%10+1 by omega];exact HZ
  have hdiv:(n':Int)/10=(n'/10:Nat):=by omega
  have Kg:¬(n'=0∧k-l.length=0)→bn (n'/10) (k-(dg n'::l).length)++dg n'::l=bn n k:=fun hne=>by
   rw[←heq,eM hne,List.append_assoc,ap,Nat.sub_sub];rfl
  repeat'(with_reducible first|simp(disch:=try exact ab) only[go_sem,seval,h0,h1,h5,hs,lk,List.nil_append]|(apply aj.i<;>intro hc))
  ·refine⟨_,?_,n'/10,dg n'::l,?_,rfl,?_,Kg (by omega),rfl⟩
   ·simp only[ap];omega
   ·rw[hdiv]
   ·omega
  ·refine⟨_,?_,n'/10,dg n'::l,?_,rfl,?_,Kg (by omega),rfl⟩
   ·simp only[ap];omega
   ·rw[hdiv]
   ·omega
  ·rw[←heq,show n'=0 by omega,show k-l.length=0 by omega,iw];rfl
theorem O0 {b:UInt8}:fJ b=decide (¬((b.toNat:Int)<48)∧¬(57<(b.toNat:Int))):=by
 unfold fJ;congr 1;rw[eq_iff_iff];omega
theorem W7 {s:List UInt8}(hs:s.length≤1000000):ac E2 151 [.str s] h K↔K (.bool (bI s)) h:=by
 refine ac.cZ (ac.fn (fn:=C.LF) rfl rfl rfl ?_);unfold C.LF;simp(disch:=try exact ab) only[go_sem,seval];refine Wp.bW (fun m st=>∃i:Nat,val st.tm (.t 0)= .str s∧val st.tm (.t 3)= .int .i64 i∧st.hp=h∧i≤s.length∧bI (s.take i)=true∧m=s.length-i) (n:=s.length) ?_ ?_
 ·exact⟨0,aS,by(simp(disch:=try exact ab) only[go_sem,seval])<;>rfl,rfl,aJ _,rfl,rfl⟩
 ·rintro m ⟨tm,hp⟩ ⟨i,h0,h3,rfl,hi,PK,rfl⟩;simp only at h0 h3;by_cases hlt:i<s.length
  ·have hlt':(i:Int)<s.length:=by omega
   have htk:s.take (i+1)=s.take i++[s.getD i 0]:=by
    rw[uL,aI hlt,aW,aI hlt];rfl
   have OJ:bI (s.take (i+1))=fJ (s.getD i 0):=by
    unfold bI at *;rw[htk,List.all_append,PK];simp
   have rP:fJ (s.getD i 0)=false→bI s=false:=fun e=>by
    rw[←OJ]at e;cases ha:bI s with
    |false=>rfl
    | true=>
     unfold bI at *;rw[bV]at ha;rw[List.all_eq_false]at e;obtain⟨x,hx,Ot⟩:=e;exact absurd (ha x (fE hx)) Ot
   rw[O0]at rP OJ;repeat'(with_reducible first|simp(disch:=try exact ab) only[go_sem,seval,h0,h3,gD]|(apply aj.i<;>intro hc))
   ·rw[rP (by simp_all)]
   ·rw[rP (by simp_all)]
   ·refine⟨_,?_,i+1,rfl,by omega,?_,rfl⟩
    ·omega
    ·rw[OJ];simp_all
  ·have hlt':¬(i:Int)<s.length:=by omega
   repeat'(with_reducible first|simp(disch:=try exact ab) only[go_sem,seval,h0,h3]|(apply aj.i<;>intro hc))
   rw[aP (by omega)]at PK;rw[PK]
theorem W6 {s:List UInt8}(hd:bI s=true)(hs:s.length≤18):ac E2 153 [.str s] h K↔K (.int .i64 (bm s)) h:=by
 refine ac.cZ (ac.fn (fn:=C.LD) rfl rfl rfl ?_);unfold C.LD;simp(disch:=try exact ab) only[go_sem,seval];refine Wp.bW (fun m st=>∃i:Nat,val st.tm (.t 0)= .str s∧val st.tm (.t 4)= .int .i64 i∧val st.tm (.t 3)= .int .i64 (bm (s.take i))∧st.hp=h∧i≤s.length∧m=s.length-i) (n:=s.length) ?_ ?_
 ·exact⟨0,aS,by(simp(disch:=try exact ab) only[go_sem,seval])<;>rfl,by(simp(disch:=try exact ab) only[go_sem,seval])<;>rfl,rfl,aJ _,rfl⟩
 ·rintro m ⟨tm,hp⟩ ⟨i,h0,h4,h3,rfl,hi,rfl⟩;simp only at h0 h3 h4;by_cases hlt:i<s.length
  ·have hlt':(i:Int)<s.length:=by omega
   have htk:s.take (i+1)=s.take i++[s.getD i 0]:=by
    rw[uL,aI hlt,aW,aI hlt];rfl
   have hdi:48≤(s.getD i 0).toNat∧(s.getD i 0).toNat≤57:=by
    have:fJ (s.getD i 0)=true:=by
     unfold bI at hd;rw[bV]at hd;rw[aW,aI hlt];exact hd _ (List.getElem_mem hlt)
    simpa[fJ]using this
   have hv:bm (s.take (i+1))=bm (s.take i)*10+((s.getD i 0).toNat-48):=by
    unfold bm ks;rw[htk,List.foldl_append];rfl
   have hb:bm (s.take i)<10^17:=by
    have h1:=iu (l:=s.take i) (by unfold bI at *;rw[bV]at *;exact fun x hx=>hd x (fE hx));exact ah h1 (aT (by decide) (by rw[az];omega))
   repeat'(with_reducible first|simp(disch:=try exact ab) only[go_sem,seval,h0,h3,h4,gD]|(apply aj.i<;>intro hc))
   refine⟨_,?_,i+1,rfl,?_,by omega,rfl⟩
   ·omega
   ·rw[hv];congr 1;omega
  ·have hlt':¬(i:Int)<s.length:=by omega
   repeat'(with_reducible first|simp(disch:=try exact ab) only[go_sem,seval,h0,h3,h4]|(apply aj.i<;>intro hc))
   rw[aP (by omega)]
end
end Go.Ae
namespace Go.Ae
open Go.Proofs
def bitLen (n:Nat):Nat:=if n=0 then 0 else uT n+1
theorem bitLen_shift {n k:Nat}(h:2^k≤n):bitLen n=k+bitLen (n/2^k):=by
 have hp:0<2^k:=dp (by decide);have h1:n≠0:=by omega
 have h2:n/2^k≠0:=by
  have:=Nat.div_pos h hp;omega
 unfold bitLen;rw[if_neg h1,if_neg h2]
 have:uT n=k+uT (n/2^k):=by
  have e1:=(Nat.le_log2 h2 (k:=uT (n/2^k))).1 (ae _);have e2:=Nat.lt_log2_self (n:=n/2^k)
  have e3:2^(k+uT (n/2^k))≤n:=by
   rw[dm,aA];exact(Nat.le_div_iff_mul_le hp).1 e1
  have e4:n<2^(k+uT (n/2^k)+1):=by
   rw[dz,dm,aA];exact(df hp).1 e2
  have e5:=(Nat.le_log2 h1).2 e3;have e6:=(Nat.log2_lt h1).2 e4;omega
 omega
theorem lQ {n k:Nat}(h:n<2^k):bitLen n≤k:=by
 unfold bitLen;split
 ·omega
 ·have:=(Nat.log2_lt ‹_›).2 h;omega
theorem bitLen_le {n k:Nat}(h:bitLen n≤k):n<2^k:=by
 unfold bitLen at h;split at h
 ·have:0<2^k:=dp (by decide);omega
 ·exact(Nat.log2_lt ‹_›).1 (by omega)
section
variable {h:Hp}{K:AV→Hp→Prop}
abbrev sI (n:Int):AV:= .agg [.int .i64 n,.aq]
theorem SR {q:mO}{k k':IntKind}{m n:Int}(hn:0≤n):dH .shr q (.int k m) (.int k' n)=some (.int k (m.fdiv (2^min n.toNat k.bits))):=by
 simp only[dH,mS];rw[if_neg (by omega)]
theorem ux {q:mO}{k k':IntKind}{m n:Nat}(hn:n≤k.bits):dH .shr q (.int k m) (.int k' n)=some (.int k ((m/2^n:Nat):Int)):=by
 rw[SR (by omega),gD,cD hn];congr 2;rw[show((2:Int)^n)=((2^n:Nat):Int) by rw[Int.natCast_pow];rfl,Int.fdiv_eq_ediv_of_nonneg _ (jq _)];exact(Int.natCast_ediv m (2^n)).symm
theorem DA:IntKind.wrap .i64 9223372036854775808= -9223372036854775808:=by decide
theorem Ff:IntKind.wrap .i64 (- -9223372036854775808)= -9223372036854775808:=by decide
theorem DB:IntKind.wrap .u64 (-9223372036854775808)=9223372036854775808:=by decide
theorem BX {n:Int}(hn: -9223372036854775808≤n∧n≤9223372036854775807):ac E2 262 [.int .i64 n] h K↔K (.int .u64 (n.natAbs:Int)) h:=by
 refine ac.cZ (ac.fn (fn:=C.K3) rfl rfl rfl ?_);unfold C.K3;by_cases h1:n= -9223372036854775808
 ·subst h1;repeat'(with_reducible first|simp(disch:=try exact ab) only[go_sem,seval,Ff,DA,DB]|(apply aj.i<;>intro hc))
  first|done|simp
 ·have e1:n<0→-n=(n.natAbs:Int):=by omega
  have e2:¬n<0→n=(n.natAbs:Int):=by omega
  repeat'(with_reducible first|simp(disch:=try exact ab) only[go_sem,seval]|(apply aj.i<;>intro hc))
  ·rw[e1 hc]
  ·rw[←e2 hc]
theorem Ew {n:Int}:Gv E2 120 [.int .i64 n] h (sI n):=by
 refine Gv.of (ac.fn (fn:=C.LR) rfl rfl rfl ?_);unfold C.LR;repeat'(with_reducible first|simp(disch:=try exact ab) only[go_sem,seval]|(apply aj.i<;>intro hc))
 exact aL
theorem WZ {a b:Int}:Gv E2 192 [sI a,sI b] h (.int .i64 (if a<b then -1 else if b<a then 1 else 0)):=by
 refine Gv.of (ac.fn (fn:=C.Ai) rfl rfl rfl ?_);unfold C.Ai;repeat'(with_reducible first|simp(disch:=try exact ab) only[go_sem,seval]|(apply aj.i<;>intro hc))
 all_goals first|rw[if_pos (by assumption)]|rw[if_neg (by assumption),if_pos (by assumption)]|rw[if_neg (by assumption),if_neg (by assumption)]
 all_goals exact aL
theorem mC {q:mO}{k:IntKind}{m n:Int}(hn:¬n=0):dH .quo q (.int k m) (.int k n)=some (.int k (k.wrap (m.tdiv n))):=Na hn
theorem uA {q:mO}{k:IntKind}{m n:Int}(hn:¬n=0):dH .rem q (.int k m) (.int k n)=some (.int k (m.tmod n)):=M9 hn
theorem tdiv_le {a b:Int}(ha: -9223372036854775808<a∧a≤9223372036854775807)(hb:0<b): -9223372036854775807≤a.tdiv b∧a.tdiv b≤9223372036854775807:=by
 have h1:=Int.natAbs_tdiv_le_natAbs a b;omega
theorem xq {a b:Int}(hb:0<b)(hm:a.tmod b<0):a.fdiv b=a.tdiv b-1∧a.fmod b=a.tmod b+b:=by
 have e1:=Int.tmod_add_mul_tdiv a b;have e2:=Int.fmod_add_mul_fdiv a b;have e3:=E7 a hb;have e4:=Int.fmod_lt_of_pos a hb;have e5: -b<a.tmod b:=Int.lt_tmod_of_pos a hb
 have key:a.fdiv b=a.tdiv b-1:=by
  have h1:b*(a.tdiv b-1)+(a.tmod b+b)=a:=by rw[xM];omega
  have h2:b*(a.tdiv b-1-a.fdiv b)=a.fmod b-(a.tmod b+b):=by rw[xM];omega
  rcases Int.lt_trichotomy (a.tdiv b-1-a.fdiv b) 0 with h|h|h
  ·have:=gW (show a.tdiv b-1-a.fdiv b≤-1 by omega) (show 0≤b by omega);omega
  ·omega
  ·have:=gW (show 1≤a.tdiv b-1-a.fdiv b by omega) (show 0≤b by omega);omega
 refine⟨key,?_⟩;rw[key,xM]at e2;omega
theorem xr {a b:Int}(hb:0<b)(hm:¬a.tmod b<0):a.fdiv b=a.tdiv b∧a.fmod b=a.tmod b:=by
 have e1:=Int.tmod_add_mul_tdiv a b;have e2:=Int.fmod_add_mul_fdiv a b;have e3:=E7 a hb;have e4:=Int.fmod_lt_of_pos a hb;have e5:a.tmod b<b:=Int.tmod_lt_of_pos a hb
 have key:a.fdiv b=a.tdiv b:=by
  have h2:b*(a.tdiv b-a.fdiv b)=a.fmod b-a.tmod b:=by rw[xM];omega
  rcases Int.lt_trichotomy (a.tdiv b-a.fdiv b) 0 with h|h|h
  ·have:=gW (show a.tdiv b-a.fdiv b≤-1 by omega) (show 0≤b by omega);omega
  ·omega
  ·have:=gW (show 1≤a.tdiv b-a.fdiv b by omega) (show 0≤b by omega);omega
 refine⟨key,?_⟩;rw[key]at e2;omega
theorem WY {a b:Int}(ha: -9223372036854775808<a∧a≤9223372036854775807)(hb:0<b∧b≤9223372036854775807):Gv E2 197 [sI a,sI b] h (.fO [sI (a.fdiv b),sI (a.fmod b)]):=by
 refine Gv.of (ac.fn (fn:=C.pO) rfl rfl rfl ?_);unfold C.pO;have hb0:¬b=0:=by omega
 have hm:¬a= -9223372036854775808:=by omega
 have hd:=tdiv_le ha hb.1;have ht: -b<a.tmod b∧a.tmod b<b:=⟨Int.lt_tmod_of_pos a hb.1,Int.tmod_lt_of_pos a hb.1⟩
 repeat'(with_reducible first|simp(disch:=try exact ab) only[go_sem,seval,mC,uA]|(apply aj.i<;>intro hc))
 ·obtain⟨e1,e2⟩:=xq hb.1 hc;rw[e1,e2];exact aL
 ·obtain⟨e1,e2⟩:=xr hb.1 hc;rw[e1,e2];exact aL
theorem Iu {q:mO}{k:IntKind}{m n:Int}:dH .and q (.int k m) (.int k n)=some (.int k (k.wrap (BitVec.ofInt k.bits m&&&BitVec.ofInt k.bits n).toNat)):=by
 simp[dH,mS,ki,fx,wm]
theorem uB {q:mO}{a:Nat}(ha:a<18446744073709551616):dH .and q (.int .u64 a) (.int .u64 4294967295)=some (.int .u64 ((a%4294967296:Nat):Int)):=by
 rw[Iu];congr 2
 have e:(BitVec.ofInt 64 (a:Int)&&&BitVec.ofInt 64 4294967295).toNat=a%4294967296:=by
  rw[BitVec.toNat_and];simp only[BitVec.toNat_ofInt];have e1:((a:Int)%(2^64:Nat)).toNat=a:=by omega
  rw[e1];exact wB a 32
 show IntKind.wrap .u64 (((BitVec.ofInt 64 (a:Int)&&&BitVec.ofInt 64 4294967295).toNat:Nat):Int)=_
 rw[e,wrap_u64 (by omega)]
theorem B3 {q:mO}{a:Nat}(ha:a<9223372036854775808):dH .and q (.int .i64 a) (.int .i64 1)=some (.int .i64 ((a%2:Nat):Int)):=by
 rw[Iu];congr 2
 have e:(BitVec.ofInt 64 (a:Int)&&&BitVec.ofInt 64 1).toNat=a%2:=by
  rw[BitVec.toNat_and];simp only[BitVec.toNat_ofInt];have e1:((a:Int)%(2^64:Nat)).toNat=a:=by omega
  rw[e1];exact wB a 1
 show IntKind.wrap .i64 (((BitVec.ofInt 64 (a:Int)&&&BitVec.ofInt 64 1).toNat:Nat):Int)=_
 rw[e,wrap_i64 (by omega)]
theorem jc {q:mO}{a:Nat}:dH .shr q (.int .u64 a) (.int .u64 32)=some (.int .u64 ((a/4294967296:Nat):Int)):=ux (n:=32) (by decide)
theorem sj {x y:Nat}(hx:x<18446744073709551616)(hy:y<18446744073709551616):ac E2 261 [.int .u64 x,.int .u64 y] h K↔K (.fO [.int .u64 ((x*y/18446744073709551616:Nat):Int),.int .u64 ((x*y%18446744073709551616:Nat):Int)]) h:=by
 refine ac.cZ (ac.fn (fn:=C.K4) rfl rfl rfl ?_);obtain⟨bd,bt,bw,D6⟩:=Lib.mul64_hi x y hx hy;have ba:=Lib.half_mul_le (a:=x/4294967296) (b:=y/4294967296) (by omega) (by omega);have bb:=Lib.half_mul_le (a:=x/4294967296) (b:=y%4294967296) (by omega) (by omega);have bc:=Lib.half_mul_le (a:=x%4294967296) (b:=y/4294967296) (by omega) (by omega);unfold C.K4
 have m0:∀a b:Nat,(a:Int)*(b:Int)=((a*b:Nat):Int):=fun a b=>(ce a b).symm
 have a0:∀a b:Nat,(a:Int)+(b:Int)=((a+b:Nat):Int):=fun a b=>(xX a b).symm
 have w0:∀a:Nat,a<18446744073709551616→IntKind.wrap .u64 (a:Int)=(a:Int):=fun a ha=>wrap_u64 (by omega)
 have w1:IntKind.wrap .u64 ((x*y:Nat):Int)=((x*y%18446744073709551616:Nat):Int):=by rw[IntKind.wrap_u64];omega
 simp(disch:=first|assumption|omega|fail) only[go_sem,↓reduceIte,Nat.reduceEqDiff,uB,jc,m0,a0,w0,w1];rw[D6]
 try exact⟨rfl,trivial⟩
def len8tab:List UInt8:=[0,1,2,2,3,3,3,3,4,4,4,4,4,4,4,4,5,5,5,5,5,5,5,5,5,5,5,5,5,5,5,5,6,6,6,6,6,6,6,6,6,6,6,6,6,6,6,6,6,6,6,6,6,6,6,6,6,6,6,6,6,6,6,6,7,7,7,7,7,7,7,7,7,7,7,7,7,7,7,7,7,7,7,7,7,7,7,7,7,7,7,7,7,7,7,7,7,7,7,7,7,7,7,7,7,7,7,7,7,7,7,7,7,7,7,7,7,7,7,7,7,7,7,7,7,7,7,7,8,8,8,8,8,8,8,8,8,8,8,8,8,8,8,8,8,8,8,8,8,8,8,8,8,8,8,8,8,8,8,8,8,8,8,8,8,8,8,8,8,8,8,8,8,8,8,8,8,8,8,8,8,8,8,8,8,8,8,8,8,8,8,8,8,8,8,8,8,8,8,8,8,8,8,8,8,8,8,8,8,8,8,8,8,8,8,8,8,8,8,8,8,8,8,8,8,8,8,8,8,8,8,8,8,8,8,8,8,8,8,8,8,8,8,8,8,8,8,8,8,8,8,8,8,8,8,8]
theorem len8:∀i:Nat,i<256→((len8tab.getD i 0).toNat)=bitLen i:=by decide+kernel
theorem zc {x:Nat}(hx:x<256):Hh (.str [0,1,2,2,3,3,3,3,4,4,4,4,4,4,4,4,5,5,5,5,5,5,5,5,5,5,5,5,5,5,5,5,6,6,6,6,6,6,6,6,6,6,6,6,6,6,6,6,6,6,6,6,6,6,6,6,6,6,6,6,6,6,6,6,7,7,7,7,7,7,7,7,7,7,7,7,7,7,7,7,7,7,7,7,7,7,7,7,7,7,7,7,7,7,7,7,7,7,7,7,7,7,7,7,7,7,7,7,7,7,7,7,7,7,7,7,7,7,7,7,7,7,7,7,7,7,7,7,8,8,8,8,8,8,8,8,8,8,8,8,8,8,8,8,8,8,8,8,8,8,8,8,8,8,8,8,8,8,8,8,8,8,8,8,8,8,8,8,8,8,8,8,8,8,8,8,8,8,8,8,8,8,8,8,8,8,8,8,8,8,8,8,8,8,8,8,8,8,8,8,8,8,8,8,8,8,8,8,8,8,8,8,8,8,8,8,8,8,8,8,8,8,8,8,8,8,8,8,8,8,8,8,8,8,8,8,8,8,8,8,8,8,8,8,8,8,8,8,8,8,8,8,8,8,8,8]) (.int .u8 x)=some (.int .u8 (bitLen x:Nat)):=by
 show Hh (.str len8tab) (.int .u8 x)=_
 rw[tQ ⟨by omega,by rw[show len8tab.length=256 from rfl];omega⟩,gD,len8 x hx]
theorem kS {q:mO}{a:Nat}:dH .shr q (.int .u64 a) (.int .u64 16)=some (.int .u64 ((a/65536:Nat):Int)):=ux (n:=16) (by decide)
theorem nM {q:mO}{a:Nat}:dH .shr q (.int .u64 a) (.int .u64 8)=some (.int .u64 ((a/256:Nat):Int)):=ux (n:=8) (by decide)
theorem SC {x:Nat}(hx:x<18446744073709551616):ac E2 266 [.int .u64 x] h K↔K (.int .i64 (bitLen x:Nat)) h:=by
 refine ac.cZ (ac.fn (fn:=C.KZ) rfl rfl rfl ?_);unfold C.KZ;have s32:4294967296≤x→bitLen x=32+bitLen (x/4294967296):=fun e=>bitLen_shift (k:=32) e
 have ZB:∀y,65536≤y→bitLen y=16+bitLen (y/65536):=fun y e=>bitLen_shift (k:=16) e
 have s8:∀y,256≤y→bitLen y=8+bitLen (y/256):=fun y e=>bitLen_shift (k:=8) e
 have b8:∀y,y<256→bitLen y≤8:=fun y e=>lQ (k:=8) e
 have l32:x/4294967296<4294967296:=by omega
 by_cases g32:4294967296≤((x:Nat):Int)
 ·have e32:=s32 (by omega);by_cases g16:65536≤((x/4294967296:Nat):Int)
  ·have e16:=ZB (x/4294967296) (by omega);by_cases g8:256≤((x/4294967296/65536:Nat):Int)
   ·have e8:=s8 (x/4294967296/65536) (by omega);have:=b8 (x/4294967296/65536/256) (by omega);simp(disch:=try exact ab) only[go_sem,seval,jc,kS,nM,zc]
    all_goals(congr 1;omega)
   ·skip
    have:=b8 (x/4294967296/65536) (by omega);simp(disch:=try exact ab) only[go_sem,seval,jc,kS,nM,zc]
    all_goals(congr 1;omega)
  ·skip
   by_cases g8:256≤((x/4294967296:Nat):Int)
   ·have e8:=s8 (x/4294967296) (by omega);have:=b8 (x/4294967296/256) (by omega);simp(disch:=try exact ab) only[go_sem,seval,jc,kS,nM,zc]
    all_goals(congr 1;omega)
   ·skip
    have:=b8 (x/4294967296) (by omega);simp(disch:=try exact ab) only[go_sem,seval,jc,kS,nM,zc]
    all_goals(congr 1;omega)
 ·skip
  by_cases g16:65536≤((x:Nat):Int)
  ·have e16:=ZB (x) (by omega);by_cases g8:256≤((x/65536:Nat):Int)
   ·have e8:=s8 (x/65536) (by omega);have:=b8 (x/65536/256) (by omega);simp(disch:=try exact ab) only[go_sem,seval,jc,kS,nM,zc]
    all_goals(congr 1;omega)
   ·skip
    have:=b8 (x/65536) (by omega);simp(disch:=try exact ab) only[go_sem,seval,jc,kS,nM,zc]
    all_goals(congr 1;omega)
  ·skip
   by_cases g8:256≤((x:Nat):Int)
   ·have e8:=s8 (x) (by omega);have:=b8 (x/256) (by omega);simp(disch:=try exact ab) only[go_sem,seval,jc,kS,nM,zc]
    all_goals(congr 1;omega)
   ·skip
    have:=b8 (x) (by omega);simp(disch:=try exact ab) only[go_sem,seval,jc,kS,nM,zc]
    all_goals(congr 1;omega)
end
end Go.Ae
namespace Go.Ae.Bg
def vl (B:Nat):List Nat→Nat
 |[]=>0
 |x::l=>x+B*vl B l
def Dg (B:Nat)(l:List Nat):Prop:=∀x∈l,x<B
def Norm (l:List Nat):Prop:=l.getLast?≠some 0
def dJ:List Nat→List Nat
 |[]=>[]
 |x::l=>if x=0∧dJ l=[]then[]else x::dJ l
variable {B:Nat}{l m:List Nat}{x i:Nat}
theorem jG:vl B []=0:=rfl
theorem gz:vl B (x::l)=x+B*vl B l:=rfl
theorem jU:∀l:List Nat,vl B (l++m)=vl B l+B^l.length*vl B m
 |[]=>by simp[vl]
 | x::l=>by
  rw[lk,gz,jU l,gz,ap,aV,ay,←aF,aA B (B^l.length)];omega
theorem jv:vl B (l++[x])=vl B l+B^l.length*x:=by rw[jU];simp[vl]
theorem getD_eq {l:List Nat}(hi:i<l.length):l.getD i 0=l[i]:=by simp[bQ,hi]
theorem take_succ {l:List Nat}(hi:i<l.length):l.take (i+1)=l.take i++[l.getD i 0]:=by
 rw[uL,getD_eq hi];simp[hi]
theorem bg (hi:i<l.length):vl B (l.take (i+1))=vl B (l.take i)+B^i*l.getD i 0:=by
 rw[take_succ hi,jv,az,cD (by omega)]
theorem jB:vl B (l.take (i+1))=vl B (l.take i)+B^i*l.getD i 0:=by
 rcases aQ i l.length with h|h
 ·exact bg h
 ·rw[aP (by omega),aP h];have:l.getD i 0=0:=by simp[bQ,bO h]
  rw[this];simp
theorem take_set {l:List Nat}:(l.set i x).take i=l.take i:=by
 rw[List.take_set_of_le (ae _)]
theorem qu {l:List Nat}(hi:i<l.length):(l.set i x).getD i 0=x:=by simp[bQ,hi]
theorem getD_set_ne {l:List Nat}{j:Nat}(h:i≠j):(l.set i x).getD j 0=l.getD j 0:=by simp[bQ,List.getElem?_set_ne h]
theorem fp (hi:i<l.length):vl B ((l.set i x).take (i+1))=vl B (l.take i)+B^i*x:=by
 rw[bg (by simpa using hi),take_set,qu hi]
theorem Dg.nil:Dg B []:=by simp[Dg]
theorem Dg.cons (h:x<B)(hl:Dg B l):Dg B (x::l):=by
 intro y hy;rcases fv.1 hy with rfl|hy
 ·exact h
 ·exact hl y hy
theorem Dg.head (h:Dg B (x::l)):x<B:=h x (by simp)
theorem Dg.tail (h:Dg B (x::l)):Dg B l:=fun y hy=>h y (List.mem_cons_of_mem _ hy)
theorem Dg.append (h:Dg B l)(k:Dg B m):Dg B (l++m):=fun y hy=>(dR.1 hy).elim (h y) (k y)
theorem Dg.left (h:Dg B (l++m)):Dg B l:=fun y hy=>h y (lT _ hy)
theorem Dg.take (h:Dg B l)(n:Nat):Dg B (l.take n):=fun y hy=>h y (fE hy)
theorem Dg.drop (h:Dg B l)(n:Nat):Dg B (l.drop n):=fun y hy=>h y (List.mem_of_mem_drop hy)
theorem Dg.set (h:Dg B l)(n:Nat)(hx:x<B):Dg B (l.set n x):=by
 intro y hy;rcases List.mem_or_eq_of_mem_set hy with hy|rfl
 ·exact h y hy
 ·exact hx
theorem Dg.oV (hB:0<B)(n:Nat):Dg B (av n 0):=by
 intro y hy;rw[List.mem_replicate]at hy;omega
theorem Dg.getD (hB:0<B)(h:Dg B l)(i:Nat):l.getD i 0<B:=by
 rcases aQ i l.length with hi|hi
 ·rw[getD_eq hi];exact h _ (List.getElem_mem hi)
 ·have:l.getD i 0=0:=by simp[bQ,bO hi]
  omega
theorem gI (hB:0<B):∀{l:List Nat},Dg B l→vl B l<B^l.length
 |[],_=>by simp[vl]
 | x::l,h=>by
  have h1:=gI hB h.tail;have h2:=h.head;have h3:B*(vl B l+1)≤B*B^l.length:=aD _ h1;rw[gz,ap,aV,aA (B^l.length)];rw[ay]at h3;omega
theorem nc:∀n:Nat,vl B (av n 0)=0
 |0=>rfl
 |n+1=>by rw[vj,gz,nc n];simp
theorem Fv (hB:0<B):∀{l m:List Nat},Dg B l→Dg B m→l.length=m.length→vl B l=vl B m→l=m
 |[],[],_,_,_,_=>rfl
 |[],_::_,_,_,h,_=>by simp at h
 |_::_,[],_,_,h,_=>by simp at h
 | x ::l,y::m,hl,hm,h,hv=>by
  rw[gz,gz]at hv;have h1:=hl.head;have h2:=hm.head
  have e:x=y:=by
   have a:(x+B*vl B l)%B=x:=by rw[Ce];exact cH h1
   have b:(y+B*vl B m)%B=y:=by rw[Ce];exact cH h2
   rw[←a,←b,hv]
  subst e;have:vl B l=vl B m:=Cd hB (by omega);rw[Fv hB hl.tail hm.tail (by simpa using h) this]
theorem fQ:∀l:List Nat,vl B (dJ l)=vl B l
 |[]=>rfl
 | x ::l=>by
  unfold dJ;split
  ·rename_i h;have:=fQ l;rw[h.2]at this;rw[gz,←this,h.1,jG];simp
  ·rw[gz,gz,fQ l]
theorem Dg.trim:∀{l:List Nat},Dg B l→Dg B (dJ l)
 |[],h=>h
 | x::l,h=>by
  unfold dJ;split
  ·exact Dg.nil
  ·exact Dg.cons h.head (Dg.trim h.tail)
theorem eJ:∀l:List Nat,Norm (dJ l)
 |[]=>by simp[dJ,Norm]
 | x ::l=>by
  have ih:=eJ l;unfold dJ;split
  ·simp[Norm]
  ·rename_i h;unfold Norm at *;cases ht:dJ l with
   |nil=>simp only[List.getLast?_singleton,ne_eq,cq];intro e;exact h ⟨e,ht⟩
   |cons y r=>rw[ht]at ih;rw[List.getLast?_cons_cons];exact ih
theorem nW:∀l:List Nat,dJ l=l.take (dJ l).length
 |[]=>rfl
 | x::l=>by
  unfold dJ;split
  ·rfl
  ·rw[ap,List.take_succ_cons,←nW l]
theorem nf (l:List Nat):(dJ l).length≤l.length:=by rw[nW l,az];omega
theorem pm:∀l:List Nat,dJ (l++[0])=dJ l
 |[]=>rfl
 |x::l=>by rw[lk,dJ,dJ,pm l]
theorem qN:∀{l:List Nat},x≠0→dJ (l++[x])=l++[x]
 |[],h=>by simp[dJ,h]
 |y::l,h=>by rw[lk,dJ,qN h,if_neg (by simp)]
theorem jN (h:l≠[]):∃m x,l=m++[x]:=by
 rcases List.eq_nil_or_concat l with h'|⟨m,x,h'⟩
 ·exact absurd h' h
 ·exact⟨m,x,by simpa using h'⟩
theorem iq:Norm (l++[x])↔x≠0:=by simp[Norm]
theorem Cn (hx:x≠0):B^l.length≤vl B (l++[x]):=by
 rw[jv];have:B^l.length*1≤B^l.length*x:=aD _ (by omega);omega
theorem kf (hB:0<B)(hn:Norm l)(h0:l≠[]):0<vl B l:=by
 obtain⟨m,x,rfl⟩:=jN h0;have:=Cn (B:=B) (l:=m) (iq.1 hn);have:=dp (n:=m.length) hB;omega
theorem jJ (hB:1<B)(hl:Dg B l)(hn:Norm m)(h:l.length<m.length):vl B l<vl B m:=by
 have h0:m≠[]:=by rintro rfl;simp at h
 obtain⟨k,x,rfl⟩:=jN h0;have h1:=Cn (B:=B) (l:=k) (iq.1 hn);have h2:=gI (B:=B) (by omega) hl;have h3:=aT (n:=B) (by omega) (show l.length≤k.length by simp at h;omega);omega
theorem GM (hB:1<B)(hl:Dg B l)(hm:Dg B m)(kl:Norm l)(km:Norm m)(h:vl B l=vl B m):l.length=m.length:=by
 rcases Nat.lt_trichotomy l.length m.length with c|c|c
 ·have:=jJ hB hl km c;omega
 ·exact c
 ·have:=jJ hB hm kl c;omega
theorem tK (hB:1<B)(hl:Dg B l)(hm:Dg B m)(kl:Norm l)(km:Norm m)(h:vl B l=vl B m):l=m:=
 Fv (by omega) hl hm (GM hB hl hm kl km h) h
theorem nd (n:Nat)(hn:n≤l.length):vl B l=vl B (l.take n)+B^n*vl B (l.drop n):=by
 conv=>lhs;rw[←List.take_append_drop n l,jU,az,cD hn]
theorem wL {a b:List Nat}(hB:0<B)(ha:Dg B a)(hl:a.length=b.length)(hi:i<a.length)(hs:a.drop (i+1)=b.drop (i+1))(h:a.getD i 0<b.getD i 0):vl B a<vl B b:=by
 rw[nd (B:=B) (l:=a) (i+1) (by omega),nd (B:=B) (l:=b) (i+1) (by omega),hs,bg hi,bg (by omega)];have h1:=gI hB (ha.take i);rw[az,cD (by omega)]at h1;have h2:B^i*(a.getD i 0+1)≤B^i*b.getD i 0:=aD _ h;rw[ay]at h2;omega
theorem pk:∀{l:List Nat} {i:Nat},i<l.length→vl B (l.set i x)+B^i*l.getD i 0=vl B l+B^i*x
 |[],_,h=>by simp at h
 |y::l,0,_=>by simp[gz];omega
 | y::l,i+1,h=>by
  have ih:=pk (l:=l) (i:=i) (by simpa using h);have e:B*(vl B (l.set i x)+B^i*l.getD i 0)=B*(vl B l+B^i*x):=by rw[ih]
  rw[ay,ay]at e;have e2:∀z,B^(i+1)*z=B*(B^i*z):=fun z=>by rw[aV,aA (B^i) B,aF]
  simp only[List.set_cons_succ,gz,List.getD_cons_succ];rw[e2,e2];omega
end Go.Ae.Bg
namespace Go.Ae
open Bg
noncomputable section
def wd (kd:IntKind)(n:Nat):AV:= .int kd n
def iE:AV→Nat
 | .sl t _ _ _=>t
 |_=>0
def vE:AV→Nat
 | .sl _ o _ _=>o
 |_=>0
def Sq (kd:IntKind)(h:Hp)(v:AV)(l:List Nat):Prop:=
 (v= .aq∧l=[])∨∃(t o:Nat) (own:Bool) (st:Nat) (L:List Nat),v= .sl t o l.length 1∧h.get t=some (.row (L.map (wd kd)) own st)∧o+l.length≤L.length∧(L.drop o).take l.length=l∧t<h.next∧st≤h.dc
structure Rd (kd:IntKind)(h:Hp)(v:AV)(l:List Nat):Prop where
 len:tO .slice v=some (.int .i64 l.length)
 jn:∀(k:IntKind) (i:Int),0≤i∧i<l.length→vM 1 v (.int k i)=some (.ptr (iE v) (vE v+i.toNat))
 tok:l.length≠0→iE v<h.next
 load:∀i,i<l.length→∀h' K,fU false 1 (vE v+i) (h.get (iE v)) h' K↔K (.int kd (l.getD i 0:Nat)) h'
 old:l.length≠0→∀c0,h.dc≤c0→lR (h.get (iE v)) c0=true
section
variable {kd:IntKind}{h h':Hp}{v:AV}{l L:List Nat}{i x t o n st:Nat}{own:Bool}{K:AV→Hp→Prop}
theorem Sq.aO (s:Sq kd h v l)(g:aH h h'):Sq kd h' v l:=by
 rcases s with s|⟨t,o,own,st,L,e,hg,h1,h2,h3,h4⟩
 ·exact .inl s
 ·exact .inr ⟨t,o,own,st,L,e,(g.get h3).trans hg,h1,h2,ah h3 g.next,aB h4 g.dc⟩
theorem Sq.nil:Sq kd h .aq []:= .inl ⟨rfl,rfl⟩
theorem Sq.all (hg:h.get t=some (.row (l.map (wd kd)) own st))(ht:t<h.next)(hs:st≤h.dc):Sq kd h (.sl t 0 l.length 1) l:=
 .inr ⟨t,0,own,st,l,rfl,hg,by simp,by simp,ht,hs⟩
theorem jx (hi:i<L.length):(L.map (wd kd))[i]?=some (.int kd (L.getD i 0:Nat)):=by
 rw[bK,aI hi,getD_eq hi];rfl
theorem iX (hi:i<L.length):fH i (L.map (wd kd))++ .int kd (x:Int)::gJ (i+1) (L.map (wd kd))=(L.set i x).map (wd kd):=by
 rw[List.map_set,List.set_eq_take_append_cons_drop,if_pos (by simpa using hi)];rfl
theorem IX (h1:o+l.length≤L.length)(h2:(L.drop o).take l.length=l)(hi:i<l.length):L.getD (o+i) 0=l.getD i 0:=by
 conv=>rhs;rw[←h2]
 simp only[bQ,gi,if_pos hi,iW]
theorem Sq.rd (s:Sq kd h v l):Rd kd h v l:=by
 rcases s with⟨rfl,rfl⟩|⟨t,o,own,st,L,rfl,hg,h1,h2,h3,h4⟩
 ·refine⟨rfl,fun k i hi=>?_,fun e=>absurd rfl e,fun i hi=>?_,fun e=>absurd rfl e⟩
  ·simp only[aK]at hi;omega
  ·simp only[aK]at hi;omega
 ·refine⟨rfl,fun k i hi=>?_,fun _=>h3,fun i hi h' K=>?_,fun _ c0 hc=>?_⟩
  ·rw[qo hi];simp only[iE,vE,dF]
  ·simp only[iE,vE,hg,fU.row];rw[if_pos (by rw[aU];omega),if_neg (by decide),jx (by omega),IX h1 h2 hi];exact ax
  ·simp only[iE,hg];exact lR.row (aB h4 hc)
theorem Sq.take (s:Sq kd h v l)(n:Nat)(hn:n≤l.length):∀{v'},(v'= .aq∧v= .aq∨v'= .sl (iE v) (vE v) n 1∧v≠ .aq)→Sq kd h v' (l.take n):=by
 intro v' hv;rcases s with⟨rfl,rfl⟩|⟨t,o,own,st,L,rfl,hg,h1,h2,h3,h4⟩
 ·rcases hv with⟨rfl,_⟩|⟨_,e⟩
  ·simpa using Sq.nil
  ·exact absurd rfl e
 ·rcases hv with⟨_,e⟩|⟨rfl,_⟩
  ·cases e
  ·refine .inr ⟨t,o,own,st,L,?_,hg,?_,?_,h3,h4⟩
   ·simp only[iE,vE,az,cD hn]
   ·rw[az];omega
   ·rw[az,cD hn]
    conv=>rhs;rw[←h2]
    rw[Ar,cD hn]
def bG (h:Hp)(t:Nat)(cs:List AV):Prop:=∃st,h.get t=some (.row cs true st)∧st≤h.dc∧t<h.next
theorem bG.put {cs:List AV}(ht:t<h.next):bG (h.put t fun s=> .row cs true s) t cs:=⟨_,Hp.lH,ae _,ht⟩
theorem bG.push {cs:List AV}:bG (h.push fun s=> .row cs true s) h.next cs:=⟨_,Hp.cu,ae _,cN _⟩
theorem bG.sq (a:bG h t (l.map (wd kd))){n:Nat}(hn:l.length=n):Sq kd h (.sl t 0 n 1) l:=by
 obtain⟨st,hg,hs,ht⟩:=a;subst hn;exact Sq.all hg ht hs
theorem bG.other {cs:List AV}{u:Nat}{f:Nat→cP}(a:bG h t cs)(hu:t≠u):bG (h.put u f) t cs:=by
 obtain⟨st,hg,hs,ht⟩:=a;exact⟨st,(Hp.eW hu).trans hg,Nat.le_succ_of_le hs,ht⟩
theorem bG.aO {cs:List AV}(a:bG h t cs)(g:aH h h'):bG h' t cs:=by
 obtain⟨st,hg,hs,ht⟩:=a;exact⟨st,(g.get ht).trans hg,aB hs g.dc,ah ht g.next⟩
def mU (b:Nat)(z l c:AV)(h:Hp)(K:AV→Hp→Prop):Prop:=
 match l,c with
 | .int .i64 l,.int .i64 c=>0≤l∧l≤c∧c*b≤281474976710656∧c≤281474976710656∧z.one=true∧K (.sl h.next 0 l.toNat 1) (h.push fun s=> .row (rep l.toNat [z]) true s)
 |_,_=>False
theorem CH (z:AV):∀n:Nat,rep n [z]=av n z
 |0=>rfl
 |n+1=>by rw[rep,CH z n,vj];rfl
theorem Nt {E:Env}{s:St}{b:Nat}{z:AV}{x y:bp}:bY E (.uN 1 b [z] x y) s K↔mU b z (val s.tm x) (val s.tm y) s.hp K:=by
 rw[Me];simp only[rO,mU];cases val s.tm x<;>try exact ax
 rename_i k l;cases k<;>try exact ax
 cases val s.tm y<;>try exact ax
 rename_i k' c;cases k'<;>try exact ax
 simp only;split
 ·rename_i hc;obtain⟨a1,a2,a3,a4,a5,a6,a7⟩:=hc;have a7':z.one=true:=by simpa using a7
  simp only[dK,a1,a2,a3,a4,a7',true_and]
 ·rename_i hc;simp only[dK,false_iff];rintro⟨a1,a2,a3,a4,a5,_⟩;exact hc ⟨a1,a2,a3,a4,rfl,by decide,by simpa using a5⟩
theorem mU.int {b:Nat}{z:AV}{n:Nat}(hz:z.one=true)(hn:n≤281474976710656∧n*b≤281474976710656):mU b z (.int .i64 n) (.int .i64 n) h K↔K (.sl h.next 0 n 1) (h.push fun s=> .row (av n z) true s):=by
 have:((n:Int))*b≤281474976710656:=by have:=hn.2;rw[←ce];exact nS.2 this
 have h1:(0:Int)≤n:=by omega
 have h2:(n:Int)≤281474976710656:=by omega
 simp only[mU,hz,CH,gD,this,h1,h2,Int.le_refl,true_and]
theorem mU.JZ {b:Nat}{z:AV}{m:Int}(n:Nat)(hm:m=n)(hz:z.one=true)(hn:n≤281474976710656∧n*b≤281474976710656):mU b z (.int .i64 m) (.int .i64 m) h K↔K (.sl h.next 0 n 1) (h.push fun s=> .row (av n z) true s):=by
 subst hm;exact mU.int hz hn
theorem pn {t o n z sz:Nat}{kd:IntKind}{k:Int}(hk:0≤k∧k≤n):AN h sz (.sl t o n z) none (some (.int kd k))=some (.sl t o k.toNat z,h):=by
 have:((0:Nat):Int)≤k∧k≤(n:Int):=by omega
 simp only[AN,bound,if_pos this,if_true]
theorem Jt {sz:Nat}{kd:IntKind}:AN h sz .aq none (some (.int kd 0))=some (.aq,h):=by
 simp[AN,bound]
theorem NJ {t o n:Nat}{k1 k2:IntKind}{i j:Int}(hk:0≤i∧i<j∧j≤(n:Int)):AN h 1 (.sl t o n 1) (some (.int k1 i)) (some (.int k2 j))=some (.sl t (o+i.toNat) (j.toNat-i.toNat) 1,h):=by
 have h1:((0:Nat):Int)≤j∧j≤(n:Int):=by omega
 have h2:((0:Nat):Int)≤i∧i≤((j.toNat:Nat):Int):=by omega
 simp only[AN,bound,if_pos h1,if_pos h2,dF];by_cases h0:i.toNat=0
 ·rw[if_pos h0,h0,aY,Nat.sub_zero]
 ·rw[if_neg h0,if_neg (by simp),if_pos (by omega)]
theorem dK.FL {v:AV}:dK (some (v,h)) K↔K v h:=ax
attribute [go_sem] Nt Uo dK.FL
end
section
variable {h:Hp}{K:AV→Hp→Prop}
theorem KH {x y c:Nat}(hc:c≤1):ac E2 267 [.int .u64 x,.int .u64 y,.int .u64 c] h K↔K (.fO [.int .u64 ((x+y+c)%18446744073709551616:Nat),.int .u64 ((x+y+c)/18446744073709551616:Nat)]) h:=by
 refine ac.cZ (ac.ext (p:=L.IW) rfl (v:= .fO [.int .u64 ((x+y+c)%18446744073709551616:Nat),.int .u64 ((x+y+c)/18446744073709551616:Nat)]) ?_ ⟨rfl,rfl⟩);show(match Nat.ble c 1 with|true=>_|false=>_)=_
 rw[Nat.ble_eq_true_of_le hc];simp only[pA];rfl
theorem uu {x y:Nat}:ac E2 267 [.int .u64 x,.int .u64 y,.int .u64 0] h K↔K (.fO [.int .u64 ((x+y)%18446744073709551616:Nat),.int .u64 ((x+y)/18446744073709551616:Nat)]) h:=KH (c:=0) (by omega)
theorem Ii {x y c:Nat}(hc:c≤1):ac E2 269 [.int .u64 x,.int .u64 y,.int .u64 c] h K↔K (.fO [.int .u64 ((x+18446744073709551616-y-c)%18446744073709551616:Nat),.int .u64 ((if x<y+c then 1 else 0:Nat):Nat)]) h:=by
 refine ac.cZ (ac.ext (p:=L.IV) rfl (v:= .fO [.int .u64 ((x+18446744073709551616-y-c)%18446744073709551616:Nat),.int .u64 ((if x<y+c then 1 else 0:Nat):Nat)]) ?_ ⟨rfl,rfl⟩);show(match Nat.ble c 1 with|true=>_|false=>_)=_
 rw[Nat.ble_eq_true_of_le hc];simp only[pA];congr 3;by_cases hb:x<y+c
 ·rw[if_pos hb,show gV x (ma y c)=true from by simpa[ji]using hb];rfl
 ·rw[if_neg hb,show gV x (ma y c)=false from by
   cases hh:gV x (ma y c)with
   |false=>rfl
   |true=>exact absurd (by simpa[ji]using hh) hb];rfl
theorem SB:ac E2 268 [.aq] h K↔K .aq h:=by
 refine ac.cZ (ac.fn (fn:=C.EE) rfl rfl rfl ?_);unfold C.EE;repeat'(with_reducible first|simp(disch:=try exact ab) only[go_sem,seval,Wp.sS,Jt]|(apply aj.i<;>intro hc))
theorem SA {t o n st:Nat}{L:List Nat}{own:Bool}(hg:h.get t=some (.row (L.map (wd .u64)) own st))(hn:o+n≤L.length)(V6:n≤9223372036854775807):
  ac E2 268 [.sl t o n 1] h K↔K (.sl t o (dJ ((L.drop o).take n)).length 1) h:=by
 refine ac.cZ (ac.fn (fn:=C.EE) rfl rfl rfl ?_);unfold C.EE;repeat'(with_reducible first|simp(disch:=try exact ab) only[go_sem,seval]|(apply aj.i<;>intro hc))
 refine Wp.bW (fun m s=>∃k:Nat,val s.tm (.t 0)= .sl t o n 1∧val s.tm (.t 3)= .int .i64 k∧s.hp=h∧k≤n∧dJ ((L.drop o).take n)=dJ ((L.drop o).take k)∧k=m) (n:=n) ?_ ?_
 ·exact⟨n,aS,aS,rfl,ae _,rfl,rfl⟩
 ·rintro m ⟨tm,hp⟩ ⟨k,h0,h3,rfl,hk,heq,rfl⟩;simp only at h0 h3;rcases aE k with rfl|hpos
  ·have e0:((0:Nat):Int).toNat=0:=rfl;repeat'(with_reducible first|simp(disch:=try exact ab) only[go_sem,seval,h0,h3,pn,e0]|(apply aj.i<;>intro hc))
   rw[heq];simp[dJ]
  ·have hp':(0:Int)<k:=by omega
   have e1:((k:Int)-1).toNat=k-1:=by omega
   have hx:(L.map (wd .u64))[o+(k-1)]?=some (.int .u64 (L.getD (o+(k-1)) 0:Nat)):=jx (by omega);have hle:o+(k-1)+1≤L.length:=by omega
   have htk:(L.drop o).take k=(L.drop o).take (k-1)++[L.getD (o+(k-1)) 0]:=by
    have:=take_succ (i:=k-1) (l:=L.drop o) (by rw[bP];omega);rw[bT hpos]at this;rw[this];congr 2;simp[bQ]
   by_cases hz:L.getD (o+(k-1)) 0=0
   ·have J6:((L.getD (o+(k-1)) 0:Nat):Int)=0:=by omega
    repeat'(with_reducible first|simp(disch:=try exact ab) only[go_sem,seval,h0,h3,hp',e1,hg,hx,hle,aU,dF,J6]|(apply aj.i<;>intro hc))
    refine⟨k-1,by omega,k-1,?_,by omega,?_,rfl⟩
    ·congr 1;omega
    ·rw[heq,htk,hz,pm]
   ·have J6:¬((L.getD (o+(k-1)) 0:Nat):Int)=0:=by omega
    repeat'(with_reducible first|simp(disch:=try exact ab) only[go_sem,seval,h0,h3,hp',e1,hg,hx,hle,aU,dF,J6,pn]|(apply aj.i<;>intro hc))
    rw[heq,htk,qN hz,←htk,az,bP,cD (by omega)]
theorem zn {v:AV}{l:List Nat}(hS:Sq .u64 h v l)(hl:l.length≤9223372036854775807):Gp E2 268 [v] h fun v' h'=>Sq .u64 h' v' (dJ l):=by
 rcases hS with⟨rfl,rfl⟩|⟨t,o,own,st,L,rfl,hg,h1,h2,h3,h4⟩
 ·exact Gp.of (SB.2 ⟨Sq.nil,aH.refl h⟩)
 ·refine Gp.of ((SA hg h1 hl).2 ⟨?_,aH.refl h⟩);rw[h2];refine .inr ⟨t,o,own,st,L,rfl,hg,?_,?_,h3,h4⟩
  ·have:=nf l;omega
  ·conv=>rhs;rw[nW l,←h2]
   rw[Ar,cD (by rw[h2];exact nf l),h2]
end
end
end Go.Ae
namespace Go.Ae
open Bg
noncomputable section
def jl (a b:Nat):Int:=if a<b then -1 else if b<a then 1 else 0
section
variable {h:Hp}{K:AV→Hp→Prop}
theorem KK {va vb:AV}{a b:List Nat}(ha:Sq .u64 h va a)(hb:Sq .u64 h vb b)(da:Dg 18446744073709551616 a)(db:Dg 18446744073709551616 b)(na:Norm a)(nb:Norm b)(hla:a.length≤9223372036854775807)(hlb:b.length≤9223372036854775807):
  ac E2 205 [va,vb] h K↔K (.int .i64 (jl (vl 18446744073709551616 a) (vl 18446744073709551616 b))) h:=by
 refine ac.cZ (ac.fn (fn:=C.Lp) rfl rfl rfl ?_);unfold C.Lp;have ra:=ha.rd;have rb:=hb.rd;by_cases hl:a.length=b.length
 ·have hl':(a.length:Int)=b.length:=by omega
  have hl2:=ra.len;have hl3:=rb.len;rw[←hl]at hl3;repeat'(with_reducible first|simp(disch:=try exact ab) only[go_sem,seval,hl2,hl3]|(apply aj.i<;>intro hc))
  refine Wp.bW (fun m s=>∃k:Nat,val s.tm (.t 0)=va∧val s.tm (.t 1)=vb∧val s.tm (.t 5)= .int .i64 ((k:Int)-1)∧s.hp=h∧k≤a.length∧a.drop k=b.drop k∧k=m) (n:=a.length) ?_ ?_
  ·exact⟨a.length,aS,aS,aS,rfl,ae _,by rw[nR,hl,nR],rfl⟩
  ·rintro m ⟨tm,hp⟩ ⟨k,h0,h1,h5,rfl,hk,heq,rfl⟩;simp only at h0 h1 h5;rcases aE k with rfl|hpos
   ·have e0:((0:Nat):Int)-1= -1:=rfl;repeat'(with_reducible first|simp(disch:=try exact ab) only[go_sem,seval,h0,h1,h5,e0]|(apply aj.i<;>intro hc))
    simp only[eE]at heq;subst heq;simp[jl]
   ·have e1:((k:Int)-1).toNat=k-1:=by omega
    have hp1:(0:Int)≤(k:Int)-1:=by omega
    have ola:=ra.old (by omega);have olb:=rb.old (by omega);have lda:=ra.load (k-1) (by omega);have ldb:=rb.load (k-1) (by omega);have ada:=ra.jn;have adb:=rb.jn
    have sda:a.drop (k-1)=a.getD (k-1) 0::a.drop k:=by
     rw[ey (by omega),getD_eq (by omega),bT hpos]
    have sdb:b.drop (k-1)=b.getD (k-1) 0::b.drop k:=by
     rw[ey (by omega),getD_eq (by omega),bT hpos]
    have tl:(k-1+1)=k:=by omega
    generalize Rk:a.getD (k-1) 0=xa at *
    generalize Rj:b.getD (k-1) 0=xb at *
    by_cases hx:xa=xb
    ·have Ot:(xa:Int)=xb:=by omega
     repeat'(with_reducible first|simp(disch:=try exact ab) only[go_sem,seval,h0,h1,h5,hp1,e1,ada,adb,lda,ldb,ola,olb,Ot]|(apply aj.i<;>intro hc))
     refine⟨k-1,by omega,k-1,?_,by omega,?_,rfl⟩
     ·congr 1;omega
     ·rw[sda,sdb,heq,hx]
    ·have Ot:¬(xa:Int)=xb:=by omega
     by_cases hlt:xa<xb
     ·have hlt':(xa:Int)<xb:=by omega
      repeat'(with_reducible first|simp(disch:=try exact ab) only[go_sem,seval,h0,h1,h5,hp1,e1,ada,adb,lda,ldb,ola,olb,Ot,hlt']|(apply aj.i<;>intro hc))
      have:=wL (B:=18446744073709551616) (i:=k-1) (by decide) da hl (by omega) (by rw[tl];exact heq) (by rw[Rk,Rj];exact hlt);simp[jl,this]
     ·have hlt':¬(xa:Int)<xb:=by omega
      repeat'(with_reducible first|simp(disch:=try exact ab) only[go_sem,seval,h0,h1,h5,hp1,e1,ada,adb,lda,ldb,ola,olb,Ot,hlt']|(apply aj.i<;>intro hc))
      have:=wL (B:=18446744073709551616) (i:=k-1) (by decide) db hl.symm (by omega) (by rw[tl];exact heq.symm) (by rw[Rk,Rj];omega);simp[jl,this,show ¬vl 18446744073709551616 a<vl 18446744073709551616 b by omega]
 ·have hl':¬(a.length:Int)=b.length:=by omega
  have hl2:=ra.len;have hl3:=rb.len;by_cases hlt:a.length<b.length
  ·have hlt':(a.length:Int)<b.length:=by omega
   repeat'(with_reducible first|simp(disch:=try exact ab) only[go_sem,seval,hl2,hl3,hl',hlt']|(apply aj.i<;>intro hc))
   have:=jJ (B:=18446744073709551616) (by decide) da nb hlt;simp[jl,this]
  ·have hlt':¬(a.length:Int)<b.length:=by omega
   repeat'(with_reducible first|simp(disch:=try exact ab) only[go_sem,seval,hl2,hl3,hl',hlt']|(apply aj.i<;>intro hc))
   have:=jJ (B:=18446744073709551616) (by decide) db na (by omega);simp[jl,this,show ¬vl 18446744073709551616 a<vl 18446744073709551616 b by omega]
theorem Af {P B o X Y x y c s:Nat}(h:o+P*c=X+Y)(hs:s=x+y+c):o+P*(s%B)+P*B*(s/B)=X+P*x+(Y+P*y):=by
 have e:P*(s%B)+P*B*(s/B)=P*s:=by
  rw[aF,←ay];congr 1;have:=cE s B;omega
 have e2:P*s=P*x+P*y+P*c:=by rw[hs,ay,ay]
 omega
theorem Ad {x y:List Nat}{vx vy:AV}{tm:T AV}(hx:Sq .u64 h vx x)(hy:Sq .u64 h vy y)(dx:Dg 18446744073709551616 x)(dy:Dg 18446744073709551616 y)(hl:y.length≤x.length)(hlx:x.length≤1000000)
  (h0:val tm (.t 0)=vx) (h1:val tm (.t 1)=vy):
  Wp E2 (C.xG.code.post 2) ⟨tm,h⟩ (gy [.tmp 4] fun v h'=>(∃l,Sq .u64 h' v l∧Dg 18446744073709551616 l∧Norm l∧vl 18446744073709551616 l=vl 18446744073709551616 x+vl 18446744073709551616 y)∧aH h h'):=by
 unfold C.xG;dsimp only[au.post];have lx:=hx.rd.len;have mk:=fun{h:Hp} {K:AV→Hp→Prop}=>mU.JZ (h:=h) (K:=K) (b:=8) (z:= .int .u64 0) (m:=(x.length:Int)+1) (x.length+1) rfl rfl (by omega)
 repeat'(with_reducible first|simp(disch:=try exact ab) only[go_sem,seval,h0,h1,lx,mk]|(apply aj.i<;>intro hc))
 have hz:(av (x.length+1) (AV.int .u64 0))=(av (x.length+1) 0).map (wd .u64):=by rw[gC];rfl
 rw[hz]
 refine Wp.bW (fun m s=>∃(i c:Nat) (out:List Nat),val s.tm (.t 0)=vx∧val s.tm (.t 1)=vy∧val s.tm (.t 5)= .sl h.next 0 (x.length+1) 1∧val s.tm (.t 6)= .int .u64 c∧val s.tm (.t 21)= .int .i64 x.length∧val s.tm (.t 22)= .int .i64 i∧
  aH h s.hp∧bG s.hp h.next (out.map (wd .u64))∧out.length=x.length+1∧Dg 18446744073709551616 out∧c≤1∧i≤x.length∧
  vl 18446744073709551616 (out.take i)+18446744073709551616^i*c=vl 18446744073709551616 (x.take i)+vl 18446744073709551616 (y.take i)∧m=x.length-i) (n:=x.length) ?_ ?_
 ·refine⟨0,0,av (x.length+1) 0,by simp(disch:=try exact ab) only[go_sem,seval,h0],by simp(disch:=try exact ab) only[go_sem,seval,h1],aS,by(simp(disch:=try exact ab) only[go_sem,seval])<;>rfl,aS,by(simp(disch:=try exact ab) only[go_sem,seval])<;>rfl,?_,?_,by simp,Dg.oV (by decide) _,by omega,by omega,by simp[vl],rfl⟩
  ·exact aL
  ·exact bG.push
 ·rintro m ⟨tm,hp⟩ ⟨i,c,out,h0,h1,h5,h6,Kj,Ki,hG,⟨st,hgo,Ow,hnx⟩,hlo,hd,hc,hle,hinv,rfl⟩;simp only at h0 h1 h5 h6 Kj Ki hG hgo hnx;have rx:=(hx.aO hG).rd;have ry:=(hy.aO hG).rd;by_cases hlt:i<x.length
  ·have hlt':(i:Int)<x.length:=by omega
   have sD:i+1≤out.length:=by omega
   have adx:=rx.jn;have ady:=ry.jn;have mX:=rx.load i hlt;have ly:=ry.len;have mr:∀r:Nat,fH i (out.map (wd .u64))++ .int .u64 (r:Int)::gJ (i+1) (out.map (wd .u64))=(out.set i r).map (wd .u64):=fun r=>iX (by omega)
   have tkx:=bg (B:=18446744073709551616) hlt;have hxd:=Dg.getD (B:=18446744073709551616) (by decide) dx i;have uO:=Dg.getD (B:=18446744073709551616) (by decide) dy i;have tky:=jB (B:=18446744073709551616) (l:=y) (i:=i)
   have fin:∀s,s=x.getD i 0+y.getD i 0+c→vl 18446744073709551616 ((out.set i (s%18446744073709551616)).take (i+1))+18446744073709551616^(i+1)*(s/18446744073709551616)=vl 18446744073709551616 (x.take (i+1))+vl 18446744073709551616 (y.take (i+1)):=by
    intro s hs;rw[fp (by omega),tkx,tky,aV];exact Af hinv hs
   by_cases RD:i<y.length
   ·have Bx:(i:Int)<y.length:=by omega
    have ldy:=ry.load i RD;generalize x.getD i 0=xi at *
    generalize y.getD i 0=yi at *
    repeat'(with_reducible first|simp(disch:=try exact ab) only[go_sem,seval,h0,h1,h5,h6,Kj,Ki,hlt',Bx,adx,ady,mX,ldy,ly,KH,hgo,sD,aU,mr,dF]|(apply aj.i<;>intro hc))
    refine⟨_,?_,i+1,(xi+yi+c)/18446744073709551616,out.set i ((xi+yi+c)%18446744073709551616),by simp,rfl,?_,?_,?_,?_,?_,?_,?_,rfl⟩
    ·omega
    ·exact aH.put hG (ae _)
    ·exact bG.put hnx
    ·simpa using hlo
    ·exact hd.set _ (bq _ (by decide))
    ·omega
    ·exact hlt
    ·exact fin _ rfl
   ·have Bx:¬(i:Int)<y.length:=by omega
    have MI:y.getD i 0=0:=by simp[bQ,bO (wA RD)]
    rw[MI]at fin;generalize x.getD i 0=xi at *
    have M6:=fun{h:Hp} {K:AV→Hp→Prop}=>KH (h:=h) (K:=K) (x:=xi) (y:=0) (c:=c) hc
    rw[Int.natCast_zero]at M6;repeat'(with_reducible first|simp(disch:=try exact ab) only[go_sem,seval,h0,h1,h5,h6,Kj,Ki,hlt',Bx,adx,ady,mX,ly,M6,hgo,sD,aU,mr,dF]|(apply aj.i<;>intro hc))
    refine⟨_,?_,i+1,(xi+0+c)/18446744073709551616,out.set i ((xi+0+c)%18446744073709551616),by simp,rfl,?_,?_,?_,?_,?_,?_,?_,rfl⟩
    ·omega
    ·exact aH.put hG (ae _)
    ·exact bG.put hnx
    ·simpa using hlo
    ·exact hd.set _ (bq _ (by decide))
    ·omega
    ·exact hlt
    ·exact fin _ rfl
  ·have hlt':¬(i:Int)<x.length:=by omega
   obtain rfl:i=x.length:=by omega
   have sD:x.length+1≤out.length:=by omega
   have mr:fH x.length (out.map (wd .u64))++ .int .u64 (c:Int)::gJ (x.length+1) (out.map (wd .u64))=(out.set x.length c).map (wd .u64):=iX (by omega);have lx:=rx.len;repeat'(with_reducible first|simp(disch:=try exact ab) only[go_sem,seval,h0,h1,h5,h6,Kj,Ki,hlt',lx,hgo,sD,aU,mr,dF]|(apply aj.i<;>intro hc))
   have hS:=(bG.put (cs:=(out.set x.length c).map (wd .u64)) hnx).sq (n:=x.length+1) (by simp[hlo]);refine Gp.wp (zn hS (by simp;omega)) fun v h' k j g hv=>?_
   repeat'(with_reducible first|simp(disch:=try exact ab) only[go_sem,seval]|(apply aj.i<;>intro hc))
   refine⟨⟨_,hv,(hd.set _ (by omega)).trim,eJ _,?_⟩,?_⟩
   ·rw[fQ];have e:=fp (B:=18446744073709551616) (l:=out) (i:=x.length) (x:=c) (by omega);rw[aP (by simp;omega)]at e;rw[e,hinv,bj,aP hl]
   ·exact aH.ov (aH.put hG (ae _))
theorem WX {va vb:AV}{a b:List Nat}(ha:Sq .u64 h va a)(hb:Sq .u64 h vb b)(da:Dg 18446744073709551616 a)(db:Dg 18446744073709551616 b)(hla:a.length≤1000000)(hlb:b.length≤1000000):
  Gp E2 204 [va,vb] h fun v h'=>∃l,Sq .u64 h' v l∧Dg 18446744073709551616 l∧Norm l∧vl 18446744073709551616 l=vl 18446744073709551616 a+vl 18446744073709551616 b:=by
 refine Gp.of (ac.fn (fn:=C.xG) rfl rfl rfl ?_);have la:=ha.rd.len;have lb:=hb.rd.len;refine Wp.cut 2 rfl ?_;by_cases hl:a.length<b.length
 ·have hl':(a.length:Int)<b.length:=by omega
  have tail:=fun tm h0 h1=>Ad (tm:=tm) hb ha db da (by omega) hlb h0 h1
  generalize au.post 2 C.xG.code=r at tail⊢
  unfold C.xG;dsimp only[au.pre];repeat'(with_reducible first|simp(disch:=try exact ab) only[go_sem,seval,la,lb,hl']|(apply aj.i<;>intro hc))
  rw[Nat.add_comm];exact tail _ aS aS
 ·have hl':¬(a.length:Int)<b.length:=by omega
  have tail:=fun tm h0 h1=>Ad (tm:=tm) ha hb da db (by omega) hla h0 h1
  generalize au.post 2 C.xG.code=r at tail⊢
  unfold C.xG;dsimp only[au.pre];repeat'(with_reducible first|simp(disch:=try exact ab) only[go_sem,seval,la,lb,hl']|(apply aj.i<;>intro hc))
  exact tail _ aS aS
theorem FG {P B o X Y x y b r:Nat}(h:o+Y=X+P*b)(hx:x<B)(hy:y<B)(hb:b≤1)(hr:r=(x+B-y-b)%B):
  o+P*r+(Y+P*y)=X+P*x+P*B*(if x<y+b then 1 else 0):=by
 have e:r+y+b=x+B*(if x<y+b then 1 else 0):=by
  split
  ·rw[cH (by omega)]at hr;omega
  ·have:x+B-y-b=(x-y-b)+B:=by omega
   rw[this,Nat.add_mod_right,cH (by omega)]at hr;omega
 have e2:P*r+P*y+P*b=P*x+P*B*(if x<y+b then 1 else 0):=by
  rw[aF,←ay,←ay,←ay,e]
 omega
theorem SG {vx vy:AV}{x y:List Nat}(hx:Sq .u64 h vx x)(hy:Sq .u64 h vy y)(dx:Dg 18446744073709551616 x)(dy:Dg 18446744073709551616 y)(hl:y.length≤x.length)(hlx:x.length≤1000000)(hv:vl 18446744073709551616 y≤vl 18446744073709551616 x):
  Gp E2 206 [vx,vy] h fun v h'=>∃l,Sq .u64 h' v l∧Dg 18446744073709551616 l∧Norm l∧vl 18446744073709551616 l=vl 18446744073709551616 x-vl 18446744073709551616 y:=by
 refine Gp.of (ac.fn (fn:=C.a206) rfl rfl rfl ?_);unfold C.a206;have lx:=hx.rd.len;have mk:=fun{h:Hp} {K:AV→Hp→Prop}=>mU.int (h:=h) (K:=K) (b:=8) (z:= .int .u64 0) (n:=x.length) rfl (by omega)
 repeat'(with_reducible first|simp(disch:=try exact ab) only[go_sem,seval,lx,mk]|(apply aj.i<;>intro hc))
 have hz:(av x.length (AV.int .u64 0))=(av x.length 0).map (wd .u64):=by rw[gC];rfl
 rw[hz]
 refine Wp.bW (fun m s=>∃(i c:Nat) (out:List Nat),val s.tm (.t 0)=vx∧val s.tm (.t 1)=vy∧val s.tm (.t 5)= .sl h.next 0 x.length 1∧val s.tm (.t 6)= .int .u64 c∧val s.tm (.t 13)= .int .i64 x.length∧val s.tm (.t 14)= .int .i64 i∧
  aH h s.hp∧bG s.hp h.next (out.map (wd .u64))∧out.length=x.length∧Dg 18446744073709551616 out∧c≤1∧i≤x.length∧
  vl 18446744073709551616 (out.take i)+vl 18446744073709551616 (y.take i)=vl 18446744073709551616 (x.take i)+18446744073709551616^i*c∧m=x.length-i) (n:=x.length) ?_ ?_
 ·refine⟨0,0,av x.length 0,aS,aS,aS,by(simp(disch:=try exact ab) only[go_sem,seval])<;>rfl,aS,by(simp(disch:=try exact ab) only[go_sem,seval])<;>rfl,?_,?_,by simp,Dg.oV (by decide) _,by omega,by omega,by simp[vl],rfl⟩
  ·exact aL
  ·exact bG.push
 ·rintro m ⟨tm,hp⟩ ⟨i,c,out,h0,h1,h5,h6,h13,h14,hG,⟨st,hgo,Ow,hnx⟩,hlo,hd,hc,hle,hinv,rfl⟩;simp only at h0 h1 h5 h6 h13 h14 hG hgo hnx;have rx:=(hx.aO hG).rd;have ry:=(hy.aO hG).rd;by_cases hlt:i<x.length
  ·have hlt':(i:Int)<x.length:=by omega
   have sD:i+1≤out.length:=by omega
   have adx:=rx.jn;have ady:=ry.jn;have mX:=rx.load i hlt;have ly:=ry.len;have mr:∀r:Nat,fH i (out.map (wd .u64))++ .int .u64 (r:Int)::gJ (i+1) (out.map (wd .u64))=(out.set i r).map (wd .u64):=fun r=>iX (by omega)
   have tkx:=bg (B:=18446744073709551616) hlt;have hxd:=Dg.getD (B:=18446744073709551616) (by decide) dx i;have uO:=Dg.getD (B:=18446744073709551616) (by decide) dy i;have tky:=jB (B:=18446744073709551616) (l:=y) (i:=i)
   have fin:∀r,r=(x.getD i 0+18446744073709551616-y.getD i 0-c)%18446744073709551616→vl 18446744073709551616 ((out.set i r).take (i+1))+vl 18446744073709551616 (y.take (i+1))=vl 18446744073709551616 (x.take (i+1))+18446744073709551616^(i+1)*(if x.getD i 0<y.getD i 0+c then 1 else 0):=by
    intro s hs;rw[fp (by omega),tkx,tky,aV];exact FG hinv hxd uO hc hs
   by_cases RD:i<y.length
   ·have Bx:(i:Int)<y.length:=by omega
    have ldy:=ry.load i RD;generalize x.getD i 0=xi at *
    generalize y.getD i 0=yi at *
    repeat'(with_reducible first|simp(disch:=try exact ab) only[go_sem,seval,h0,h1,h5,h6,h13,h14,hlt',Bx,adx,ady,mX,ldy,ly,Ii,hgo,sD,mr]|(apply aj.i<;>intro hc))
    refine⟨_,?_,i+1,(if xi<yi+c then 1 else 0),out.set i ((xi+18446744073709551616-yi-c)%18446744073709551616),by simp,rfl,?_,?_,?_,?_,?_,?_,?_,rfl⟩
    ·omega
    ·exact aH.put hG (ae _)
    ·exact bG.put hnx
    ·simpa using hlo
    ·exact hd.set _ (bq _ (by decide))
    ·split<;>omega
    ·exact hlt
    ·exact fin _ rfl
   ·have Bx:¬(i:Int)<y.length:=by omega
    have MI:y.getD i 0=0:=by simp[bQ,bO (wA RD)]
    rw[MI]at fin;generalize x.getD i 0=xi at *
    have M5:=fun{h:Hp} {K:AV→Hp→Prop}=>Ii (h:=h) (K:=K) (x:=xi) (y:=0) (c:=c) hc
    rw[Int.natCast_zero]at M5;repeat'(with_reducible first|simp(disch:=try exact ab) only[go_sem,seval,h0,h1,h5,h6,h13,h14,hlt',Bx,adx,ady,mX,ly,M5,hgo,sD,mr]|(apply aj.i<;>intro hc))
    refine⟨_,?_,i+1,(if xi<0+c then 1 else 0),out.set i ((xi+18446744073709551616-0-c)%18446744073709551616),by simp,rfl,?_,?_,?_,?_,?_,?_,?_,rfl⟩
    ·omega
    ·exact aH.put hG (ae _)
    ·exact bG.put hnx
    ·simpa using hlo
    ·exact hd.set _ (bq _ (by decide))
    ·split<;>omega
    ·exact hlt
    ·exact fin _ rfl
  ·have hlt':¬(i:Int)<x.length:=by omega
   obtain rfl:i=x.length:=by omega
   repeat'(with_reducible first|simp(disch:=try exact ab) only[go_sem,seval,h0,h1,h5,h6,h13,h14,hlt']|(apply aj.i<;>intro hc))
   have hS:Sq .u64 hp (.sl h.next 0 x.length 1) out:=bG.sq ⟨st,hgo,Ow,hnx⟩ hlo;refine Gp.wp (zn hS (by omega)) fun v h' k j g hv=>?_
   repeat'(with_reducible first|simp(disch:=try exact ab) only[go_sem,seval]|(apply aj.i<;>intro hc))
   refine⟨⟨_,hv,hd.trim,eJ _,?_⟩,?_⟩
   ·rw [fQ];rw[bj,aP hl,aP (by omega)]at hinv;have h1:=gI (B:=18446744073709551616) (by decide) hd;rw[hlo]at h1
    have:c=0:=by
     rcases aE c with h0|h0
     ·exact h0
     ·have:c=1:=by omega
      subst this;omega
    subst this;omega
   ·exact aH.ov hG
end
end
end Go.Ae
namespace Go.Ae
open Go.Proofs
section
variable {h:Hp}{K:AV→Hp→Prop}
theorem SI {a b:Int}(ha: -9223372036854775808≤a∧a≤9223372036854775807)(hb: -9223372036854775808≤b∧b≤9223372036854775807)(hab:a.natAbs*b.natAbs≤9223372036854775807):Gv E2 195 [sI a,sI b] h (sI (a*b)):=by
 refine Gv.of (ac.fn (fn:=C.pP) rfl rfl rfl ?_);unfold C.pP;have e1:a.natAbs*b.natAbs/18446744073709551616=0:=iS (by omega);have e2:a.natAbs*b.natAbs%18446744073709551616=a.natAbs*b.natAbs:=cH (by omega);have e3:(((a.natAbs*b.natAbs:Nat):Int)≤9223372036854775807):=nS.2 hab;have e5:(0:Int)≤((a.natAbs*b.natAbs:Nat):Int):=jq _;have e6:((0:Nat):Int)=0:=rfl;by_cases h1:a<0<;>by_cases h2:b<0
 ·have d1:decide (a<0)=true:=decide_eq_true h1;have d2:decide (b<0)=true:=decide_eq_true h2
  have e4:((a.natAbs*b.natAbs:Nat):Int)=a*b:=by
   rw[ce,show(a.natAbs:Int)= -a by omega,show(b.natAbs:Int)= -b by omega,Int.neg_mul_neg]
  repeat'(with_reducible first|simp(disch:=try exact ab) only[go_sem,seval,BX,sj,e1,e2,d1,d2,e6]|(apply aj.i<;>intro hc))
  rw[e4];exact aL
 ·have d1:decide (a<0)=true:=decide_eq_true h1;have d2:decide (b<0)=false:=decide_eq_false h2
  have e4: -((a.natAbs*b.natAbs:Nat):Int)=a*b:=by
   rw[ce,show(a.natAbs:Int)= -a by omega,show(b.natAbs:Int)=b by omega,Int.neg_mul,Int.neg_neg]
  repeat'(with_reducible first|simp(disch:=try exact ab) only[go_sem,seval,BX,sj,e1,e2,d1,d2,e6]|(apply aj.i<;>intro hc))
  rw[e4];exact aL
 ·have d1:decide (a<0)=false:=decide_eq_false h1;have d2:decide (b<0)=true:=decide_eq_true h2
  have e4: -((a.natAbs*b.natAbs:Nat):Int)=a*b:=by
   rw[ce,show(a.natAbs:Int)=a by omega,show(b.natAbs:Int)= -b by omega,Int.mul_neg,Int.neg_neg]
  repeat'(with_reducible first|simp(disch:=try exact ab) only[go_sem,seval,BX,sj,e1,e2,d1,d2,e6]|(apply aj.i<;>intro hc))
  rw[e4];exact aL
 ·have d1:decide (a<0)=false:=decide_eq_false h1;have d2:decide (b<0)=false:=decide_eq_false h2
  have e4:((a.natAbs*b.natAbs:Nat):Int)=a*b:=by
   rw[ce,show(a.natAbs:Int)=a by omega,show(b.natAbs:Int)=b by omega]
  repeat'(with_reducible first|simp(disch:=try exact ab) only[go_sem,seval,BX,sj,e1,e2,d1,d2,e6]|(apply aj.i<;>intro hc))
  rw[e4];exact aL
theorem JS {a b:Nat}(hab:a*b≤9223372036854775807)(ha:a≤9223372036854775807)(hb:b≤9223372036854775807):Gv E2 195 [sI a,sI b] h (sI (a*b:Nat)):=by
 rw[ce];exact SI (by omega) (by omega) (by rw[aw,aw];exact hab)
theorem B0 {q:mO}{a:Nat}:dH .shr q (.int .i64 a) (.int .u64 1)=some (.int .i64 ((a/2:Nat):Int)):=ux (n:=1) (by decide)
theorem SH {a k:Nat}(ha:1≤a)(hk:a^k≤9223372036854775807)(hk':k≤1000000):Gv E2 198 [sI a,.int .i64 k] h (sI (a^k:Nat)):=by
 refine Gv.of (ac.fn (fn:=C.a198) rfl rfl rfl ?_);unfold C.a198;repeat'(with_reducible first|simp(disch:=try exact ab) only[go_sem,seval]|(refine Gv.wp (Ew) fun _ _ _ _=>?_)|(apply aj.i<;>intro hc))
 refine Wp.bW (fun m s=>∃x y k':Nat,val s.tm (.t 1)= .int .i64 k'∧val s.tm (.t 2)= .ptr h.next 0∧val s.tm (.t 4)= .ptr (h.next+1) 0∧∃t5,val s.tm (.t 5)= .ptr t5 0∧At s.hp t5 [.int .i64 y,.aq]∧At s.hp h.next [.int .i64 x,.aq]∧At s.hp (h.next+1) [.int .i64 0,.aq]∧
  (h.next+1<t5∧t5<s.hp.next∧y*x^k'=a^k∧1≤y∧1≤x∧k'≤1000000∧k'=m)∧aH h s.hp) (n:=k) ?_ ?_
 ·refine⟨a,1,k,?_⟩;simp(disch:=try exact ab) only[go_sem,seval];refine⟨⟨by omega,by omega,by omega,ha,hk'⟩,?_⟩;exact aL
 ·rintro m ⟨tm,hp⟩ ⟨x,y,k',h1,h2,h4,t5,h5,⟨s5,g5⟩,⟨s0,g0⟩,⟨s1,g1⟩,⟨n1,n2,heq,hy,hx,hk2,rfl⟩,G⟩;simp only at h1 h2 h4 h5 g5 g0 g1 n2 G;have A5:At hp t5 [.int .i64 y,.aq]:=⟨_,g5⟩
  have A0:At hp h.next [.int .i64 x,.aq]:=⟨_,g0⟩
  have A1:At hp (h.next+1) [.int .i64 0,.aq]:=⟨_,g1⟩
  rcases aE k' with rfl|hp0
  ·have e1:((0:Nat):Int)=0:=rfl;have hyv:y=a^k:=by rw[←heq];simp
   repeat'(with_reducible first|simp(disch:=try exact ab) only[go_sem,seval,h1,h2,h4,h5,g5,g0,g1]|(apply aj.i<;>intro hc))
   subst hyv;exact aL
  ·have bx:x≤x^k':=Nat.le_self_pow (by omega) x;have by_:y*x^k'≤9223372036854775807:=by omega
   have b1:y*x≤y*x^k':=aD y bx
   have b2:2≤k'→x*x≤x^k':=fun e=>by
    have:=aT hx e;rwa[Nat.pow_two]at this
   have b3:x^k'≤y*x^k':=jF _ hy;have b4:y≤y*x^k':=Nat.le_mul_of_pos_right _ (by omega);have b5:2≤k'→x*x≤9223372036854775807:=fun e=>by have:=b2 e;omega
   have p2:x^k'=(x*x)^(k'/2)*x^(k'%2):=by
    rw[←Nat.pow_two,←Nat.pow_mul,←dm,cE]
   have x2:1≤x*x:=eY hx hx;rcases Nat.mod_two_eq_zero_or_one k' with hm|hm
   ·have k1:1<(k':Int):=by omega
    repeat'(with_reducible first|simp(disch:=try exact ab) only[go_sem,seval,h1,h2,h4,h5,g5,g0,g1,B3,B0,hm]|(refine Gv.wp (JS (b5 (by omega)) (by omega) (by omega)) fun _ _ _ _=>?_)|(apply aj.i<;>intro hc))
    refine⟨k'/2,by omega,x*x,y,k'/2,?_⟩;simp(disch:=try exact ab) only[go_sem,seval,h1,h2,h4,h5,A5,A0,A1];rw[hm,Nat.pow_zero,dF]at p2;refine⟨⟨n1,by omega,by rw[←p2,heq],hy,x2,by omega⟩,?_⟩;exact aL
   ·by_cases k1:1<(k':Int)
    ·repeat'(with_reducible first|simp(disch:=try exact ab) only[go_sem,seval,h1,h2,h4,h5,g5,g0,g1,B3,B0,hm]|(refine Gv.wp (JS (show y*x≤_ by omega) (by omega) (by omega)) fun _ _ _ _=>?_)|(refine Gv.wp (JS (b5 (by omega)) (by omega) (by omega)) fun _ _ _ _=>?_)|(apply aj.i<;>intro hc))
     refine⟨k'/2,by omega,x*x,y*x,k'/2,?_⟩;simp(disch:=try exact ab) only[go_sem,seval,h1,h2,h4,h5,A5,A0,A1];rw[hm,Nat.pow_one]at p2;refine⟨⟨n1,by omega,by rw[←heq,p2,aF,aA x],eY hy hx,x2,by omega⟩,?_⟩;exact aL
    ·repeat'(with_reducible first|simp(disch:=try exact ab) only[go_sem,seval,h1,h2,h4,h5,g5,g0,g1,B3,B0,hm]|(refine Gv.wp (JS (show y*x≤_ by omega) (by omega) (by omega)) fun _ _ _ _=>?_)|(apply aj.i<;>intro hc))
     refine⟨k'/2,by omega,x,y*x,k'/2,?_⟩;simp(disch:=try exact ab) only[go_sem,seval,h1,h2,h4,h5,A5,A0,A1];have k1':k'=1:=by omega
     refine⟨⟨n1,by omega,by rw[←heq,k1'];simp,eY hy hx,hx,by omega⟩,?_⟩;exact aL
end
end Go.Ae
namespace Go.Ae.R
open gM bp C
def IT:cy:=⟨96,[.tmp 2],(q [vi 2 0]
 (q [v 8 0,v 3 8]
 (.seq (q [v 9 3,ls 10 9,bi 11 .gtr 10 0,v 12 11,g 13 (m 3) 12 true,g 14 (.idxs (.t 13) (i 0)) 12 true,gb 15 .eql (.t 14) (.k (.int .u8 45)) 12 true,pf 16 12 15]
 (k 16 (.cx [v 17 3,o 18 (.qO (.t 17) (some (i 1)) none),v 3 18])))
 (q [v 19 3,c 20 122 [.t 19],v 4 20]
 (.seq (q [v 21 3,v 22 4,o 23 (.qO (.t 21) none (some (.t 22))),c 24 123 [.t 23],y 25 .not 24,v 26 25,g 27 (m 0) 26 false,g 28 (.idxs (.t 27) (i 0)) 26 false,gb 29 .eql (.t 28) (.k (.int .u8 45)) 26 false,g 30 (m 29) 26 false,g 31 (m 3) 30 true,g 32 (m 4) 30 true,g 33 (.qO (.t 31) none (some (.t 32))) 30 true,gb 34 .eql (.t 33) (.k (.str [48])) 30 true,g 35 (.pick (.t 30) (.t 34) (.k (.bool false))) 26 false,pt 36 26 35]
 (k 36 (q [vi 2 1]
 .ret)))
 (.seq (q [v 37 4,v 38 3,ls 39 38,bt 40 .lss 37 39,v 41 40,g 42 (m 3) 41 true,g 43 (m 4) 41 true,gb 44 .add (.t 43) (i 1) 41 true,g 45 (.qO (.t 42) (some (.t 44)) none) 41 true,gc 46 123 [.t 45] 41 true,g 47 (.un .not (.t 46)) 41 true,g 48 (m 47) 41 true,g 49 (m 3) 48 false,g 50 (m 4) 48 false,gb 51 .add (.t 50) (i 1) 48 false,g 52 (.qO (.t 49) (some (.t 51)) none) 48 false,gb 53 .eql (.t 52) (.k (.str [48])) 48 false,g 54 (.pick (.t 48) (.k (.bool true)) (.t 53)) 41 true,g 55 (m 54) 41 true,g 56 (m 3) 55 false,g 57 (m 4) 55 false,gb 58 .add (.t 57) (i 1) 55 false,g 59 (.qO (.t 56) (some (.t 58)) none) 55 false,gb 60 .eql (.t 59) (.k (.str [49])) 55 false,g 61 (.pick (.t 55) (.k (.bool true)) (.t 60)) 41 true,pf 62 41 61]
 (k 62 (q [vi 2 1]
 .ret)))
 (.seq (q [v 63 4,bi 64 .gtr 63 600,v 65 64,g 66 (m 3) 65 false,g 67 (.len .str (.t 66)) 65 false,g 68 (m 4) 65 false,gb 69 .sub (.t 67) (.t 68) 65 false,gb 70 .sub (.t 69) (i 1) 65 false,gb 71 .gtr (.t 70) (i 600) 65 false,pt 72 65 71]
 (k 72 (q [vi 2 4]
 .ret)))
 (.seq (q [v 73 4,v 74 3,ls 75 74,bt 76 .lss 73 75]
 (k 76 (q [v 78 3,c 79 124 [.t 78],v 77 79,e 80 77 0,e 81 77 1,o 5 (.alloc [.bool false,.aq]),o 6 (.alloc [.bool false,.aq]),s 2 5 80,s 2 6 81]
 (q [fa 82 1 5,l 83 false 1 82,fa 84 1 6,l 85 false 1 84,c 86 125 [.t 83,.t 85],v 7 86]
 (q [v 87 7,ln 88 87,bi 89 .neq 88 1,v 90 89,g 91 (m 7) 90 false,g 92 (.iG 1 (.t 91) (i 0)) 90 false,gl 93 false 1 92 90 false,gb 94 .neq (.t 93) (i 1) 90 false,pt 95 90 94]
 (k 95 (q [vi 2 1]
 .ret)))))))
 (q [vi 2 0]
 .ret)))))))))⟩
def a20:cy:=⟨7,[.tmp 4],(q [vi 4 0]
 (.seq (q [v 5 0]
 (k 5 (q [v 6 1,v 4 6]
 .ret)))
 (q [vi 4 0]
 .ret)))⟩
def a21:cy:=⟨13,[.tmp 2],(q [vi 2 0]
 (.seq (q [v 3 0,b 4 .eql (.t 3) (.k (.str [48]))]
 (k 4 (q [vi 2 0]
 .ret)))
 (.seq (q [v 5 0,ls 6 5,bi 7 .gtr 6 0,v 8 7,g 9 (m 0) 8 true,g 10 (.idxs (.t 9) (i 0)) 8 true,gb 11 .eql (.t 10) (.k (.int .u8 45)) 8 true,pf 12 8 11]
 (k 12 (q [vi 2 (-1)]
 .ret)))
 (q [vi 2 1]
 .ret))))⟩
def Ug:cy:=⟨42,[.tmp 4],(q [vi 4 0]
 (.seq (q [v 7 0,ln 8 7,bi 9 .eql 8 0]
 (k 9 (q [vi 4 12]
 .ret)))
 (.seq (q [v 10 0,ln 11 10,bi 12 .gtr 11 24]
 (k 12 (q [vi 4 5]
 .ret)))
 (.seq (q [vi 5 0]
 (.block 0 (.loop (.seq (q [v 13 5,v 14 0,ln 15 14,bt 16 .lss 13 15]
 (.cond (.t 16) .skip
 (.exit 0)))
 (.seq (.block 1 (.seq (q [v 19 0,v 20 5,ix 21 1 19 20,l 22 false 1 21,ln 23 22,v 24 0,ln 25 24,bt 26 .neq 23 25]
 (k 26 (q [vi 4 2]
 .ret)))
 (q [v 27 0,v 28 5,ix 29 1 27 28,l 30 false 1 29,c 31 56 [.t 30],v 6 31]
 (q [v 32 6,bi 33 .neq 32 0]
 (k 33 (q [v 34 6,v 4 34]
 .ret))))))
 (.cx [v 17 5,bi 18 .add 17 1,v 5 18]))))))
 (.seq (q [v 35 1,ln 36 35,v 37 0,ln 38 37,bt 39 .neq 36 38]
 (k 39 (q [vi 4 2]
 .ret)))
 (q [v 40 1,c 41 56 [.t 40],v 4 41]
 .ret))))))⟩
def Uf:cy:=⟨40,[.tmp 8],(q [o 8 (.mv (.k (.bool false)))]
 (.seq (q [v 10 0,ln 11 10,v 12 1,bt 13 .gtr 11 12]
 (k 13 (q [o 8 (.mv (.k (.bool false)))]
 .ret)))
 (.seq (q [vi 9 0]
 (.block 0 (.loop (.seq (q [v 14 9,v 15 0,ln 16 15,bt 17 .lss 14 16]
 (.cond (.t 17) .skip
 (.exit 0)))
 (.seq (.block 1 (.seq (.cm [v 20 0,v 21 9,ix 22 1 20 21,w 23 false 1 22 3,ln 24 23,v 25 0,o 26 (.iG 1 (.t 25) (i 0)),w 27 false 1 26 7,ln 28 27,bt 29 .neq 24 28,v 30 29,g 31 (m 0) 30 false,g 32 (m 9) 30 false,g 33 (.iG 1 (.t 31) (.t 32)) 30 false,x 34 false 1 33 30 false 14,g 35 (m 2) 30 false,g 36 (m 3) 30 false,gc 37 36 [.t 34,.t 35,.t 36] 30 false,g 38 (.un .not (.t 37)) 30 false,pt 39 30 38])
 (k 39 (q [o 8 (.mv (.k (.bool false)))]
 .ret))))
 (.cx [v 18 9,bi 19 .add 18 1,v 9 19]))))))
 (q [o 8 (.mv (.k (.bool true)))]
 .ret))))⟩
def Ue:cy:=⟨25,[.tmp 6],(q [o 6 (.mv (.k (.bool false)))]
 (.seq (q [v 8 0,ln 9 8,v 10 1,bt 11 .gtr 9 10]
 (k 11 (q [o 6 (.mv (.k (.bool false)))]
 .ret)))
 (.seq (q [vi 7 0]
 (.block 0 (.loop (.seq (q [v 12 7,v 13 0,ln 14 13,bt 15 .lss 12 14]
 (.cond (.t 15) .skip
 (.exit 0)))
 (.seq (.block 1 (q [v 18 0,v 19 7,ix 20 1 18 19,l 21 false 1 20,v 22 2,c 23 135 [.t 21,.t 22],y 24 .not 23]
 (k 24 (q [o 6 (.mv (.k (.bool false)))]
 .ret))))
 (.cx [v 16 7,bi 17 .add 16 1,v 7 17]))))))
 (q [o 6 (.mv (.k (.bool true)))]
 .ret))))⟩
def Ud:cy:=⟨10,[.tmp 2],(q [vi 2 0]
 (.seq (q [v 3 0,ln 4 3,bi 5 .eql 4 0]
 (k 5 (q [vi 2 0]
 .ret)))
 (q [v 6 0,o 7 (.iG 1 (.t 6) (i 0)),l 8 false 1 7,ln 9 8,v 2 9]
 .ret)))⟩
def Uc:cy:=⟨19,[.tmp 2],(q [vi 2 0]
 (.seq (q [vi 3 0]
 (.block 0 (.loop (.seq (q [v 5 3,v 6 0,ln 7 6,bt 8 .lss 5 7]
 (.cond (.t 8) .skip
 (.exit 0)))
 (.seq (.block 1 (q [v 11 0,v 12 3,ix 13 1 11 12,l 14 false 1 13,c 15 19 [.t 14],v 4 15]
 (q [v 16 4,bi 17 .neq 16 0]
 (k 17 (q [v 18 4,v 2 18]
 .ret)))))
 (.cx [v 9 3,bi 10 .add 9 1,v 3 10]))))))
 (q [vi 2 0]
 .ret)))⟩
def a72:cy:=⟨63,[.tmp 4],(q [o 4 (.mv (.k (.str [])))]
 (q [v 16 0,c 17 168 [.t 16],v 15 17,e 18 15 0,e 19 15 1,e 20 15 2,v 5 18,v 6 19,v 7 20]
 (q [v 22 1,c 23 168 [.t 22],v 21 23,e 24 21 0,e 25 21 1,e 26 21 2,v 8 24,v 9 25,v 10 26]
 (.seq (q [v 27 7,v 28 27,g 29 (m 10) 28 true,pf 30 28 29]
 (k 30 (q [v 31 5,v 32 9,bt 33 .mul 31 32,v 34 8,v 35 6,bt 36 .mul 34 35,bt 37 .add 33 36,v 38 6,v 39 9,bt 40 .mul 38 39,c 41 99 [.t 37,.t 40],v 4 41]
 .ret)))
 (q [v 43 0,c 44 124 [.t 43],v 42 44,e 45 42 0,e 46 42 1,o 11 (.alloc [.bool false,.aq]),o 12 (.alloc [.bool false,.aq]),s 2 11 45,s 2 12 46]
 (q [v 48 1,c 49 124 [.t 48],v 47 49,e 50 47 0,e 51 47 1,o 13 (.alloc [.bool false,.aq]),o 14 (.alloc [.bool false,.aq]),s 2 13 50,s 2 14 51]
 (.seq (.cm [w 52 true 2 11 0,w 53 true 2 14 1,c 54 171 [.t 52,.t 53],w 55 true 2 13 3,w 56 true 2 12 4,c 57 171 [.t 55,.t 56],c 58 170 [.t 54,.t 57],w 59 true 2 12 7,w 60 true 2 14 8,c 61 171 [.t 59,.t 60],c 62 169 [.t 58,.t 61],v 4 62])
 .ret)))))))⟩
def Ub:cy:=⟨9,[.tmp 4],(q [o 4 (.mv (.k (.str [])))]
 (q [v 5 0,v 6 1,c 7 172 [.t 6],c 8 72 [.t 5,.t 7],v 4 8]
 .ret))⟩
def Pt:cy:=⟨55,[.tmp 4],(q [o 4 (.mv (.k (.str [])))]
 (q [v 16 0,c 17 168 [.t 16],v 15 17,e 18 15 0,e 19 15 1,e 20 15 2,v 5 18,v 6 19,v 7 20]
 (q [v 22 1,c 23 168 [.t 22],v 21 23,e 24 21 0,e 25 21 1,e 26 21 2,v 8 24,v 9 25,v 10 26]
 (.seq (q [v 27 7,v 28 27,g 29 (m 10) 28 true,pf 30 28 29]
 (k 30 (q [v 31 5,v 32 8,bt 33 .mul 31 32,v 34 6,v 35 9,bt 36 .mul 34 35,c 37 99 [.t 33,.t 36],v 4 37]
 .ret)))
 (q [v 39 0,c 40 124 [.t 39],v 38 40,e 41 38 0,e 42 38 1,o 11 (.alloc [.bool false,.aq]),o 12 (.alloc [.bool false,.aq]),s 2 11 41,s 2 12 42]
 (q [v 44 1,c 45 124 [.t 44],v 43 45,e 46 43 0,e 47 43 1,o 13 (.alloc [.bool false,.aq]),o 14 (.alloc [.bool false,.aq]),s 2 13 46,s 2 14 47]
 (.seq (.cm [w 48 true 2 11 0,w 49 true 2 13 1,c 50 171 [.t 48,.t 49],w 51 true 2 12 3,w 52 true 2 14 4,c 53 171 [.t 51,.t 52],c 54 169 [.t 50,.t 53],v 4 54])
 .ret)))))))⟩
def Ps:cy:=⟨61,[.tmp 4],(q [o 4 (.mv (.k (.str [])))]
 (.seq (q [v 7 0,bi 8 .lss 7 (-4000000000000000000),v 9 8,g 10 (m 0) 9 false,gb 11 .gtr (.t 10) (i 4000000000000000000) 9 false,pt 12 9 11,v 13 12,g 14 (m 1) 13 false,gb 15 .lss (.t 14) (i (-4000000000000000000)) 13 false,pt 16 13 15,v 17 16,g 18 (m 1) 17 false,gb 19 .gtr (.t 18) (i 4000000000000000000) 17 false,pt 20 17 19]
 (k 20 (q [v 21 0,c 22 182 [.t 21],v 23 1,c 24 182 [.t 23],c 25 169 [.t 22,.t 24],v 4 25]
 .ret)))
 (.seq (q [v 26 1,bi 27 .lss 26 0]
 (k 27 (.cx [v 28 0,b 29 .sub (i 0) (.t 28),v 30 1,b 31 .sub (i 0) (.t 30),v 0 29,v 1 31])))
 (q [v 32 0,v 33 0,b 34 .sub (i 0) (.t 33),o 35 (.mx [.t 32,.t 34]),v 36 1,c 37 185 [.t 35,.t 36],v 5 37]
 (.seq (.cm [v 38 0,v 39 5,bt 40 .quo 38 39,v 41 1,v 42 5,bt 43 .quo 41 42,v 0 40,v 1 43])
 (q [o 6 (.mv (.k (.str [])))]
 (.seq (q [v 44 0,bi 45 .lss 44 0]
 (k 45 (.cx [o 6 (.mv (.k (.str [45])))])))
 (q [v 46 6,v 47 0,v 48 0,b 49 .sub (i 0) (.t 48),o 50 (.mx [.t 47,.t 49]),c 51 186 [.t 50,i 1],bt 52 .add 46 51,v 6 52]
 (.seq (q [v 53 1,bi 54 .gtr 53 1]
 (k 54 (.cx [v 55 6,b 56 .add (.t 55) (.k (.str [47])),v 57 1,c 58 186 [.t 57,i 1],bt 59 .add 56 58,v 6 59])))
 (q [v 60 6,v 4 60]
 .ret))))))))))⟩
def a107:cy:=⟨5,[.tmp 2],(q [o 2 (.mv (.k (.bool false)))]
 (q [v 3 0,b 4 .eql (.t 3) (.k (.str [48])),v 2 4]
 .ret))⟩
def LQ:cy:=⟨17,[.tmp 2],(q [vi 2 0]
 (.seq (q [vi 3 0]
 (.block 0 (.loop (.seq (q [v 4 3,v 5 0,ls 6 5,bt 7 .lss 4 6]
 (.cond (.t 7) .skip
 (.exit 0)))
 (.seq (.block 1 (q [v 10 0,v 11 3,o 12 (.idxs (.t 10) (.t 11)),b 13 .eql (.t 12) (.k (.int .u8 47))]
 (k 13 (q [v 14 3,v 2 14]
 .ret))))
 (.cx [v 8 3,bi 9 .add 8 1,v 3 9]))))))
 (q [v 15 0,ls 16 15,v 2 16]
 .ret)))⟩
def LP:cy:=⟨18,[.tmp 2],(q [o 2 (.mv (.k (.bool false)))]
 (.seq (q [v 3 0,ls 4 3,bi 5 .eql 4 0,v 6 5,g 7 (m 0) 6 false,g 8 (.len .str (.t 7)) 6 false,gb 9 .gtr (.t 8) (i 1) 6 false,g 10 (m 9) 6 false,g 11 (m 0) 10 true,g 12 (.idxs (.t 11) (i 0)) 10 true,gb 13 .eql (.t 12) (.k (.int .u8 48)) 10 true,g 14 (.pick (.t 10) (.t 13) (.k (.bool false))) 6 false,pt 15 6 14]
 (k 15 (q [o 2 (.mv (.k (.bool false)))]
 .ret)))
 (q [v 16 0,c 17 151 [.t 16],v 2 17]
 .ret)))⟩
def a124:cy:=⟨25,[.cell 2 true 2,.cell 3 true 2],(q [o 2 (.alloc [.bool false,.aq]),o 3 (.alloc [.bool false,.aq])]
 (q [v 6 0,v 4 6]
 (q [v 7 4,c 8 122 [.t 7],v 5 8]
 (.seq (q [v 9 5,v 10 4,ls 11 10,bt 12 .eql 9 11]
 (k 12 (q [v 13 4,c 14 207 [.t 13],c 15 182 [i 1],s 2 2 14,s 2 3 15]
 .ret)))
 (.seq (.cm [v 16 4,v 17 5,o 18 (.qO (.t 16) none (some (.t 17))),c 19 207 [.t 18],v 20 4,v 21 5,bi 22 .add 21 1,o 23 (.qO (.t 20) (some (.t 22)) none),c 24 207 [.t 23],s 2 2 19,s 2 3 24])
 .ret)))))⟩
def LO:cy:=⟨19,[.tmp 4],(q [o 4 (.mv (.k (.aq)))]
 (.seq (.block 0 (.loop (.seq (q [v 7 1,ln 8 7,bi 9 .gtr 8 0]
 (.cond (.t 9) .skip
 (.exit 0)))
 (.block 1 (q [v 11 0,v 12 1,c 13 208 [.t 11,.t 12],v 10 13,e 14 10 0,e 15 10 1,v 5 14,v 6 15]
 (.cx [v 16 1,v 17 6,v 0 16,v 1 17]))))))
 (q [v 18 0,v 4 18]
 .ret)))⟩
def LN:cy:=⟨7,[.tmp 2],(q [o 2 (.mv (.k (.str [])))]
 (q [v 3 0,v 4 0,c 5 122 [.t 4],o 6 (.qO (.t 3) none (some (.t 5))),v 2 6]
 .ret))⟩
def LM:cy:=⟨14,[.tmp 2],(q [o 2 (.mv (.k (.str [])))]
 (q [v 4 0,c 5 122 [.t 4],v 3 5]
 (.seq (q [v 6 3,v 7 0,ls 8 7,bt 9 .eql 6 8]
 (k 9 (q [o 2 (.mv (.k (.str [49])))]
 .ret)))
 (q [v 10 0,v 11 3,bi 12 .add 11 1,o 13 (.qO (.t 10) (some (.t 12)) none),v 2 13]
 .ret))))⟩
def LL:cy:=⟨31,[.tmp 4],(q [o 4 (.mv (.k (.bool false)))]
 (q [v 5 0,ls 6 5,v 7 1,b 8 .mul (i 2) (.t 7),bi 9 .add 8 2,bt 10 .leq 6 9,v 11 10,g 12 (m 0) 11 true,gc 13 19 [.t 12] 11 true,gb 14 .eql (.t 13) (i 0) 11 true,pf 15 11 14,v 16 15,g 17 (m 0) 16 true,gc 18 128 [.t 17] 16 true,gc 19 214 [.t 18] 16 true,g 20 (.len .str (.t 19)) 16 true,g 21 (m 1) 16 true,gb 22 .leq (.t 20) (.t 21) 16 true,pf 23 16 22,v 24 23,g 25 (m 0) 24 true,gc 26 129 [.t 25] 24 true,g 27 (.len .str (.t 26)) 24 true,g 28 (m 1) 24 true,gb 29 .leq (.t 27) (.t 28) 24 true,pf 30 24 29,v 4 30]
 .ret))⟩
def LG:cy:=⟨16,[.tmp 2],(q [vi 2 0]
 (.seq (q [vi 3 0]
 (.block 0 (.loop (.seq (q [v 4 3,v 5 0,ln 6 5,bt 7 .lss 4 6]
 (.cond (.t 7) .skip
 (.exit 0)))
 (.seq (.block 1 (q [v 10 0,v 11 3,ix 12 1 10 11,l 13 false 1 12,c 14 176 [.t 13],bi 15 .neq 14 0]
 (k 15 (q [vi 2 4]
 .ret))))
 (.cx [v 8 3,bi 9 .add 8 1,v 3 9]))))))
 (q [vi 2 0]
 .ret)))⟩
def a168:cy:=⟨54,[.tmp 2,.tmp 3,.tmp 4],(q [vi 2 0,vi 3 0,o 4 (.mv (.k (.bool false)))]
 (q [v 10 0,v 5 10]
 (.seq (q [v 11 5,ls 12 11,bi 13 .gtr 12 20]
 (k 13 (q [vi 2 0,vi 3 0,o 4 (.mv (.k (.bool false)))]
 .ret)))
 (q [v 14 5,ls 15 14,bi 16 .gtr 15 0,v 17 16,g 18 (m 5) 17 true,g 19 (.idxs (.t 18) (i 0)) 17 true,gb 20 .eql (.t 19) (.k (.int .u8 45)) 17 true,pf 21 17 20,v 6 21]
 (.seq (q [v 22 6]
 (k 22 (.cx [v 23 5,o 24 (.qO (.t 23) (some (i 1)) none),v 5 24])))
 (q [v 25 5,c 26 122 [.t 25],v 7 26]
 (.seq (q [v 27 7,bi 28 .gtr 27 9,v 29 28,g 30 (m 5) 29 false,g 31 (.len .str (.t 30)) 29 false,g 32 (m 7) 29 false,gb 33 .sub (.t 31) (.t 32) 29 false,gb 34 .gtr (.t 33) (i 10) 29 false,pt 35 29 34]
 (k 35 (q [vi 2 0,vi 3 0,o 4 (.mv (.k (.bool false)))]
 .ret)))
 (q [v 36 5,v 37 7,o 38 (.qO (.t 36) none (some (.t 37))),c 39 153 [.t 38],v 8 39,vi 9 1]
 (.seq (q [v 40 7,v 41 5,ls 42 41,bt 43 .lss 40 42]
 (k 43 (.cx [v 44 5,v 45 7,bi 46 .add 45 1,o 47 (.qO (.t 44) (some (.t 46)) none),c 48 153 [.t 47],v 9 48])))
 (.seq (q [v 49 6]
 (k 49 (.cx [v 50 8,b 51 .sub (i 0) (.t 50),v 8 51])))
 (q [v 52 8,v 53 9,v 2 52,v 3 53,o 4 (.mv (.k (.bool true)))]
 .ret)))))))))))⟩
def uD:cy:=⟨57,[.tmp 4],(q [o 2 (.box (.t 0)),o 3 (.box (.t 1)),o 4 (.mv (.k (.str [])))]
 (.seq (q [fa 11 0 3,l 12 false 1 11]
 (k 12 (.cm [w 13 true 2 2 0,c 14 248 [.t 13],w 15 true 2 3 2,c 16 248 [.t 15],s 2 2 14,s 2 3 16])))
 (q [fa 17 1 2,l 18 false 1 17,fa 19 1 3,l 20 false 1 19,c 21 125 [.t 18,.t 20],v 5 21]
 (q [fa 23 1 2,l 24 false 1 23,v 25 5,c 26 208 [.t 24,.t 25],v 22 26,e 27 22 0,e 28 22 1,v 6 27,v 7 28]
 (q [fa 30 1 3,l 31 false 1 30,v 32 5,c 33 208 [.t 31,.t 32],v 29 33,e 34 29 0,e 35 29 1,v 8 34,v 9 35]
 (q [fa 36 0 2,l 37 false 1 36,v 38 6,c 39 249 [.t 37,.t 38],c 40 181 [.t 39],v 10 40]
 (.seq (q [v 41 8,ln 42 41,bi 43 .eql 42 1,v 44 43,g 45 (m 8) 44 true,g 46 (.iG 1 (.t 45) (i 0)) 44 true,gl 47 false 1 46 44 true,gb 48 .eql (.t 47) (i 1) 44 true,pf 49 44 48]
 (k 49 (q [v 50 10,v 4 50]
 .ret)))
 (q [v 51 10,b 52 .add (.t 51) (.k (.str [47])),v 53 8,c 54 249 [(.k (.bool false)),.t 53],c 55 181 [.t 54],bt 56 .add 52 55,v 4 56]
 .ret))))))))⟩
def LC:cy:=⟨40,[.cell 4 true 2],(q [o 2 (.box (.t 0)),o 3 (.box (.t 1)),o 4 (.alloc [.bool false,.aq])]
 (.seq (q [fa 5 0 2,l 6 false 1 5,fa 7 0 3,l 8 false 1 7,o 9 (.bin .eql .bool (.t 6) (.t 8))]
 (k 9 (.seq (.cm [fa 10 0 2,w 11 false 1 10 6,fa 12 1 2,w 13 false 1 12 3,fa 14 1 3,w 15 false 1 14 5,c 16 250 [.t 13,.t 15],c 17 249 [.t 11,.t 16],s 2 4 17])
 .ret)))
 (.seq (q [fa 18 1 2,l 19 false 1 18,fa 20 1 3,l 21 false 1 20,c 22 251 [.t 19,.t 21],bi 23 .geq 22 0]
 (k 23 (.seq (.cm [fa 24 0 2,w 25 false 1 24 6,fa 26 1 2,w 27 false 1 26 3,fa 28 1 3,w 29 false 1 28 5,c 30 252 [.t 27,.t 29],c 31 249 [.t 25,.t 30],s 2 4 31])
 .ret)))
 (.seq (.cm [fa 32 0 3,w 33 false 1 32 6,fa 34 1 3,w 35 false 1 34 3,fa 36 1 2,w 37 false 1 36 5,c 38 252 [.t 35,.t 37],c 39 249 [.t 33,.t 38],s 2 4 39])
 .ret))))⟩
def a171:cy:=⟨16,[.cell 4 true 2],(q [o 2 (.box (.t 0)),o 3 (.box (.t 1)),o 4 (.alloc [.bool false,.aq])]
 (.seq (.cm [fa 5 0 2,w 6 false 1 5 9,fa 7 0 3,w 8 false 1 7 9,o 9 (.bin .neq .bool (.t 6) (.t 8)),fa 10 1 2,w 11 false 1 10 6,fa 12 1 3,w 13 false 1 12 8,c 14 253 [.t 11,.t 13],c 15 249 [.t 9,.t 14],s 2 4 15])
 .ret))⟩
def LA:cy:=⟨14,[.tmp 2],(q [o 2 (.mv (.k (.str [])))]
 (.seq (q [v 3 0,c 4 21 [.t 3],bi 5 .lss 4 0]
 (k 5 (q [v 6 0,o 7 (.qO (.t 6) (some (i 1)) none),v 2 7]
 .ret)))
 (.seq (q [v 8 0,c 9 21 [.t 8],bi 10 .eql 9 0]
 (k 10 (q [v 11 0,v 2 11]
 .ret)))
 (q [v 12 0,b 13 .add (.k (.str [45])) (.t 12),v 2 13]
 .ret))))⟩
def a173:cy:=⟨13,[.tmp 2],(q [o 2 (.mv (.k (.str [])))]
 (q [v 6 0,c 7 124 [.t 6],v 5 7,e 8 5 0,e 9 5 1,o 3 (.alloc [.bool false,.aq]),o 4 (.alloc [.bool false,.aq]),s 2 3 8,s 2 4 9]
 (q [l 10 true 2 4,l 11 true 2 3,c 12 169 [.t 10,.t 11],v 2 12]
 .ret)))⟩
def Lz:cy:=⟨14,[.tmp 2],(q [vi 2 0]
 (.seq (q [v 3 0,c 4 128 [.t 3],c 5 214 [.t 4],ls 6 5,bi 7 .gtr 6 600,v 8 7,g 9 (m 0) 8 false,gc 10 129 [.t 9] 8 false,g 11 (.len .str (.t 10)) 8 false,gb 12 .gtr (.t 11) (i 600) 8 false,pt 13 8 12]
 (k 13 (q [vi 2 4]
 .ret)))
 (q [vi 2 0]
 .ret)))⟩
def Ly:cy:=⟨39,[.tmp 2],(q [o 1 (.box (.t 0)),o 2 (.mv (.k (.str [])))]
 (.seq (q [fa 5 1 1,l 6 false 1 5,ln 7 6,bi 8 .eql 7 0]
 (k 8 (q [o 2 (.mv (.k (.str [48])))]
 .ret)))
 (q [fa 9 1 1,l 10 false 1 9,fa 11 1 1,l 12 false 1 11,ln 13 12,bi 14 .sub 13 1,ix 15 1 10 14,l 16 false 1 15,c 17 186 [.t 16,i 1],v 3 17]
 (.seq (q [fa 18 1 1,l 19 false 1 18,ln 20 19,bi 21 .sub 20 2,v 4 21]
 (.block 0 (.loop (.seq (q [v 22 4,bi 23 .geq 22 0]
 (.cond (.t 23) .skip
 (.exit 0)))
 (.seq (.block 1 (.cx [v 26 3,fa 27 1 1,l 28 false 1 27,v 29 4,ix 30 1 28 29,l 31 false 1 30,c 32 186 [.t 31,i 9],bt 33 .add 26 32,v 3 33]))
 (.cx [v 24 4,bi 25 .sub 24 1,v 4 25]))))))
 (.seq (q [fa 34 0 1,l 35 false 1 34]
 (k 35 (q [v 36 3,b 37 .add (.k (.str [45])) (.t 36),v 2 37]
 .ret)))
 (q [v 38 3,v 2 38]
 .ret))))))⟩
def a182:cy:=⟨25,[.cell 2 true 2],(q [o 2 (.alloc [.bool false,.aq])]
 (q [o 3 (.mv (.k (.aq)))]
 (q [v 6 0,bi 7 .lss 6 0,v 4 7]
 (.seq (.block 0 (.loop (.seq (q [v 8 0,bi 9 .neq 8 0]
 (.cond (.t 9) .skip
 (.exit 0)))
 (.block 1 (q [v 10 0,bi 11 .rem 10 1000000000,v 5 11]
 (.seq (q [v 12 5,bi 13 .lss 12 0]
 (k 13 (.cx [v 14 5,b 15 .sub (i 0) (.t 14),v 5 15])))
 (q [v 16 3,v 17 5,o 18 (.cL 1 1 [.int .i64 0] [(0,1,(.t 17))]),o 19 (.app 1 8 (.t 16) (.t 18)),v 3 19]
 (.cx [v 20 0,bi 21 .quo 20 1000000000,v 0 21]))))))))
 (q [v 22 4,v 23 3,c 24 249 [.t 22,.t 23],s 2 2 24]
 .ret)))))⟩
def Lx:cy:=⟨12,[.tmp 4],(q [vi 4 0]
 (.seq (.block 0 (.loop (.seq (q [v 5 1,bi 6 .gtr 5 0]
 (.cond (.t 6) .skip
 (.exit 0)))
 (.block 1 (.cm [v 7 1,v 8 0,v 9 1,bt 10 .rem 8 9,v 0 7,v 1 10])))))
 (q [v 11 0,v 4 11]
 .ret)))⟩
def B8:cy:=⟨40,[.cell 2 true 2],(q [o 2 (.alloc [.bool false,.aq])]
 (q [v 5 0,ls 6 5,bi 7 .gtr 6 0,v 8 7,g 9 (m 0) 8 true,g 10 (.idxs (.t 9) (i 0)) 8 true,gb 11 .eql (.t 10) (.k (.int .u8 45)) 8 true,pf 12 8 11,v 3 12]
 (.seq (q [v 13 3]
 (k 13 (.cx [v 14 0,o 15 (.qO (.t 14) (some (i 1)) none),v 0 15])))
 (q [o 4 (.mv (.k (.aq)))]
 (.seq (.block 0 (.loop (.seq (q [v 16 0,ls 17 16,bi 18 .gtr 17 9]
 (.cond (.t 18) .skip
 (.exit 0)))
 (.block 1 (q [v 19 4,v 20 0,v 21 0,ls 22 21,bi 23 .sub 22 9,o 24 (.qO (.t 20) (some (.t 23)) none),c 25 153 [.t 24],o 26 (.cL 1 1 [.int .i64 0] [(0,1,(.t 25))]),o 27 (.app 1 8 (.t 19) (.t 26)),v 4 27]
 (.cx [v 28 0,v 29 0,ls 30 29,bi 31 .sub 30 9,o 32 (.qO (.t 28) none (some (.t 31))),v 0 32]))))))
 (q [v 33 3,v 34 4,v 35 0,c 36 153 [.t 35],o 37 (.cL 1 1 [.int .i64 0] [(0,1,(.t 36))]),o 38 (.app 1 8 (.t 34) (.t 37)),c 39 249 [.t 33,.t 38],s 2 2 39]
 .ret))))))⟩
def a208:cy:=⟨206,[.tmp 4,.tmp 5],(q [o 4 (.mv (.k (.aq))),o 5 (.mv (.k (.aq)))]
 (.seq (q [v 24 0,v 25 1,c 26 251 [.t 24,.t 25],bi 27 .lss 26 0]
 (k 27 (q [v 28 0,o 4 (.mv (.k (.aq))),v 5 28]
 .ret)))
 (.seq (q [v 29 1,ln 30 29,bi 31 .eql 30 1]
 (k 31 (q [v 33 0,v 34 1,o 35 (.iG 1 (.t 34) (i 0)),l 36 false 1 35,c 37 270 [.t 33,.t 36],v 32 37,e 38 32 0,e 39 32 1,v 6 38,v 7 39]
 (q [v 40 6,v 41 7,o 42 (.cL 1 1 [.int .i64 0] [(0,1,(.t 41))]),c 43 271 [.t 42],v 4 40,v 5 43]
 .ret))))
 (q [v 44 1,v 45 1,ln 46 45,bi 47 .sub 46 1,ix 48 1 44 47,l 49 false 1 48,bi 50 .add 49 1,b 51 .quo (i 1000000000) (.t 50),o 52 (.cL 1 1 [.int .i64 0] [(0,1,(.t 51))]),v 8 52]
 (q [v 53 1,v 54 8,c 55 253 [.t 53,.t 54],v 9 55]
 (q [v 56 9,ln 57 56,v 10 57]
 (q [o 58 (.cL 1 0 [] []),v 59 0,v 60 8,c 61 253 [.t 59,.t 60],o 62 (.app 1 8 (.t 58) (.t 61)),v 11 62]
 (.seq (.block 0 (.loop (.seq (q [v 63 11,ln 64 63,v 65 0,ln 66 65,bi 67 .add 66 1,bt 68 .lss 64 67]
 (.cond (.t 68) .skip
 (.exit 0)))
 (.block 1 (.cx [v 69 11,o 70 (.cL 1 1 [.int .i64 0] [(0,1,(i 0))]),o 71 (.app 1 8 (.t 69) (.t 70)),v 11 71])))))
 (q [v 72 11,ln 73 72,v 74 10,bt 75 .sub 73 74,o 76 (.uN 1 8 [.int .i64 0] (.t 75) (.t 75)),v 12 76]
 (.seq (q [v 77 11,ln 78 77,v 79 10,bt 80 .sub 78 79,bi 81 .sub 80 1,v 13 81]
 (.block 2 (.loop (.seq (q [v 82 13,bi 83 .geq 82 0]
 (.cond (.t 83) .skip
 (.exit 2)))
 (.seq (.block 3 (q [v 86 11,v 87 9,v 88 13,c 89 272 [.t 86,.t 87,.t 88],v 14 89]
 (q [vi 15 0]
 (.seq (q [vi 16 0]
 (.block 4 (.loop (.seq (q [v 90 16,v 91 10,bt 92 .lss 90 91]
 (.cond (.t 92) .skip
 (.exit 4)))
 (.seq (.block 5 (q [v 95 14,v 96 9,v 97 16,ix 98 1 96 97,l 99 false 1 98,bt 100 .mul 95 99,v 101 15,bt 102 .add 100 101,v 17 102]
 (q [v 103 11,v 104 16,v 105 13,bt 106 .add 104 105,ix 107 1 103 106,l 108 false 1 107,v 109 17,bi 110 .rem 109 1000000000,bt 111 .sub 108 110,v 18 111]
 (q [v 112 17,bi 113 .quo 112 1000000000,v 15 113]
 (.seq (q [v 114 18,bi 115 .lss 114 0]
 (k 115 (q [v 116 18,bi 117 .add 116 1000000000,v 18 117]
 (.cx [v 118 15,bi 119 .add 118 1,v 15 119]))))
 (.cx [v 120 11,v 121 16,v 122 13,bt 123 .add 121 122,v 124 18,ix 125 1 120 123,s 1 125 124]))))))
 (.cx [v 93 16,bi 94 .add 93 1,v 16 94]))))))
 (q [v 126 11,v 127 13,v 128 10,bt 129 .add 127 128,v 130 11,v 131 13,v 132 10,bt 133 .add 131 132,ix 134 1 130 133,l 135 false 1 134,v 136 15,bt 137 .sub 135 136,ix 138 1 126 129,s 1 138 137]
 (.seq (q [v 139 11,v 140 13,v 141 10,bt 142 .add 140 141,ix 143 1 139 142,l 144 false 1 143,bi 145 .lss 144 0]
 (k 145 (q [v 146 14,bi 147 .sub 146 1,v 14 147]
 (q [vi 19 0]
 (.seq (q [vi 20 0]
 (.block 6 (.loop (.seq (q [v 148 20,v 149 10,bt 150 .lss 148 149]
 (.cond (.t 150) .skip
 (.exit 6)))
 (.seq (.block 7 (.seq (.cm [v 153 11,v 154 20,v 155 13,bt 156 .add 154 155,ix 157 1 153 156,w 158 false 1 157 5,v 159 9,v 160 20,ix 161 1 159 160,w 162 false 1 161 9,bt 163 .add 158 162,v 164 19,bt 165 .add 163 164,v 21 165])
 (q [v 166 11,v 167 20,v 168 13,bt 169 .add 167 168,v 170 21,bi 171 .rem 170 1000000000,ix 172 1 166 169,s 1 172 171]
 (.cx [v 173 21,bi 174 .quo 173 1000000000,v 19 174]))))
 (.cx [v 151 20,bi 152 .add 151 1,v 20 152]))))))
 (.cx [v 175 11,v 176 13,v 177 10,bt 178 .add 176 177,v 179 11,v 180 13,v 181 10,bt 182 .add 180 181,ix 183 1 179 182,l 184 false 1 183,v 185 19,bt 186 .add 184 185,ix 187 1 175 178,s 1 187 186]))))))
 (.cx [v 188 12,v 189 13,v 190 14,ix 191 1 188 189,s 1 191 190])))))))
 (.cx [v 84 13,bi 85 .sub 84 1,v 13 85]))))))
 (.seq (.cm [v 193 11,v 194 10,o 195 (.sl 1 (.t 193) none (some (.t 194))),c 196 271 [.t 195],v 197 8,o 198 (.iG 1 (.t 197) (i 0)),w 199 false 1 198 6,c 200 270 [.t 196,.t 199],v 192 200,e 201 192 0,e 202 192 1,v 22 201,v 23 202])
 (q [v 203 12,c 204 271 [.t 203],v 205 22,v 4 204,v 5 205]
 .ret))))))))))))⟩
def Lo:cy:=⟨9,[.tmp 2],(q [o 2 (.mv (.k (.str [])))]
 (.seq (q [v 3 0,c 4 21 [.t 3],bi 5 .lss 4 0]
 (k 5 (q [v 6 0,o 7 (.qO (.t 6) (some (i 1)) none),v 2 7]
 .ret)))
 (q [v 8 0,v 2 8]
 .ret)))⟩
def Le:cy:=⟨9,[.cell 2 true 2],(q [o 1 (.box (.t 0)),o 2 (.alloc [.bool false,.aq])]
 (q [fa 3 0 1,l 4 false 1 3,y 5 .not 4,fa 6 1 1,l 7 false 1 6,c 8 249 [.t 5,.t 7],s 2 2 8]
 .ret))⟩
def Ld:cy:=⟨15,[.cell 4 true 2],(q [o 4 (.alloc [.bool false,.aq])]
 (q [v 5 1,c 6 271 [.t 5],v 1 6]
 (q [v 7 0,v 8 7,g 9 (m 1) 8 true,g 10 (.len .slice (.t 9)) 8 true,gb 11 .gtr (.t 10) (i 0) 8 true,pf 12 8 11,v 13 1,o 14 (.build [.bool false,.aq] [(0,1,(.t 12)),(1,1,(.t 13))]),s 2 4 14]
 .ret)))⟩
def Lc:cy:=⟨42,[.tmp 4],(q [o 4 (.mv (.k (.aq)))]
 (q [o 5 (.mv (.k (.aq)))]
 (q [vi 6 0]
 (.seq (q [vi 7 0]
 (.block 0 (.loop (.seq (q [v 9 7,v 10 0,ln 11 10,bt 12 .lss 9 11,v 13 12,g 14 (m 7) 13 false,g 15 (m 1) 13 false,g 16 (.len .slice (.t 15)) 13 false,gb 17 .lss (.t 14) (.t 16) 13 false,pt 18 13 17,v 19 18,g 20 (m 6) 19 false,gb 21 .gtr (.t 20) (i 0) 19 false,pt 22 19 21]
 (.cond (.t 22) .skip
 (.exit 0)))
 (.seq (.block 1 (q [v 25 0,v 26 7,c 27 296 [.t 25,.t 26],v 28 1,v 29 7,c 30 296 [.t 28,.t 29],bt 31 .add 27 30,v 32 6,bt 33 .add 31 32,v 8 33]
 (q [v 34 5,v 35 8,bi 36 .rem 35 1000000000,o 37 (.cL 1 1 [.int .i64 0] [(0,1,(.t 36))]),o 38 (.app 1 8 (.t 34) (.t 37)),v 5 38]
 (.cx [v 39 8,bi 40 .quo 39 1000000000,v 6 40]))))
 (.cx [v 23 7,bi 24 .add 23 1,v 7 24]))))))
 (q [v 41 5,v 4 41]
 .ret)))))⟩
def La:cy:=⟨41,[.tmp 4],(q [vi 4 0]
 (.seq (q [v 6 0,ln 7 6,v 8 1,ln 9 8,bt 10 .neq 7 9]
 (k 10 (.seq (q [v 11 0,ln 12 11,v 13 1,ln 14 13,bt 15 .lss 12 14]
 (k 15 (q [vi 4 (-1)]
 .ret)))
 (q [vi 4 1]
 .ret))))
 (.seq (q [v 16 0,ln 17 16,bi 18 .sub 17 1,v 5 18]
 (.block 0 (.loop (.seq (q [v 19 5,bi 20 .geq 19 0]
 (.cond (.t 20) .skip
 (.exit 0)))
 (.seq (.block 1 (.seq (.seq (.cm [v 23 0,v 24 5,ix 25 1 23 24,w 26 false 1 25 3,v 27 1,v 28 5,ix 29 1 27 28,w 30 false 1 29 7,bt 31 .lss 26 30])
 (k 31 (q [vi 4 (-1)]
 .ret)))
 (.seq (.cm [v 32 0,v 33 5,ix 34 1 32 33,w 35 false 1 34 3,v 36 1,v 37 5,ix 38 1 36 37,w 39 false 1 38 7,bt 40 .gtr 35 39])
 (k 40 (q [vi 4 1]
 .ret)))))
 (.cx [v 21 5,bi 22 .sub 21 1,v 5 22]))))))
 (q [vi 4 0]
 .ret))))⟩
def K9:cy:=⟨35,[.tmp 4],(q [o 4 (.mv (.k (.aq)))]
 (q [o 5 (.mv (.k (.aq)))]
 (q [vi 6 0]
 (.seq (q [vi 7 0]
 (.block 0 (.loop (.seq (q [v 9 7,v 10 0,ln 11 10,bt 12 .lss 9 11]
 (.cond (.t 12) .skip
 (.exit 0)))
 (.seq (.block 1 (.seq (.cm [v 15 0,v 16 7,ix 17 1 15 16,w 18 false 1 17 6,v 19 1,v 20 7,c 21 296 [.t 19,.t 20],bt 22 .sub 18 21,v 23 6,bt 24 .sub 22 23,v 8 24])
 (q [vi 6 0]
 (.seq (q [v 25 8,bi 26 .lss 25 0]
 (k 26 (q [v 27 8,bi 28 .add 27 1000000000,v 8 28]
 (.cx [vi 6 1]))))
 (.cx [v 29 5,v 30 8,o 31 (.cL 1 1 [.int .i64 0] [(0,1,(.t 30))]),o 32 (.app 1 8 (.t 29) (.t 31)),v 5 32])))))
 (.cx [v 13 7,bi 14 .add 13 1,v 7 14]))))))
 (q [v 33 5,c 34 271 [.t 33],v 4 34]
 .ret)))))⟩
def K8:cy:=⟨72,[.tmp 4],(q [o 4 (.mv (.k (.aq)))]
 (q [v 10 0,ln 11 10,v 12 1,ln 13 12,bt 14 .add 11 13,o 15 (.uN 1 8 [.int .i64 0] (.t 14) (.t 14)),v 5 15]
 (.seq (q [vi 6 0]
 (.block 0 (.loop (.seq (q [v 16 6,v 17 0,ln 18 17,bt 19 .lss 16 18]
 (.cond (.t 19) .skip
 (.exit 0)))
 (.seq (.block 1 (q [vi 7 0]
 (.seq (q [vi 8 0]
 (.block 2 (.loop (.seq (q [v 22 8,v 23 1,ln 24 23,bt 25 .lss 22 24]
 (.cond (.t 25) .skip
 (.exit 2)))
 (.seq (.block 3 (.seq (.cm [v 28 5,v 29 6,v 30 8,bt 31 .add 29 30,ix 32 1 28 31,w 33 false 1 32 5,v 34 0,v 35 6,ix 36 1 34 35,w 37 false 1 36 9,v 38 1,v 39 8,ix 40 1 38 39,w 41 false 1 40 13,bt 42 .mul 37 41,bt 43 .add 33 42,v 44 7,bt 45 .add 43 44,v 9 45])
 (q [v 46 5,v 47 6,v 48 8,bt 49 .add 47 48,v 50 9,bi 51 .rem 50 1000000000,ix 52 1 46 49,s 1 52 51]
 (.cx [v 53 9,bi 54 .quo 53 1000000000,v 7 54]))))
 (.cx [v 26 8,bi 27 .add 26 1,v 8 27]))))))
 (.cx [v 55 5,v 56 6,v 57 1,ln 58 57,bt 59 .add 56 58,v 60 5,v 61 6,v 62 1,ln 63 62,bt 64 .add 61 63,ix 65 1 60 64,l 66 false 1 65,v 67 7,bt 68 .add 66 67,ix 69 1 55 59,s 1 69 68]))))
 (.cx [v 20 6,bi 21 .add 20 1,v 6 21]))))))
 (q [v 70 5,c 71 271 [.t 70],v 4 71]
 .ret))))⟩
def KY:cy:=⟨39,[.tmp 4,.tmp 5],(q [o 4 (.mv (.k (.aq))),vi 5 0]
 (q [v 10 0,ln 11 10,o 12 (.uN 1 8 [.int .i64 0] (.t 11) (.t 11)),v 6 12]
 (q [vi 7 0]
 (.seq (q [v 13 0,ln 14 13,bi 15 .sub 14 1,v 8 15]
 (.block 0 (.loop (.seq (q [v 16 8,bi 17 .geq 16 0]
 (.cond (.t 17) .skip
 (.exit 0)))
 (.seq (.block 1 (q [v 20 7,bi 21 .mul 20 1000000000,v 22 0,v 23 8,ix 24 1 22 23,l 25 false 1 24,bt 26 .add 21 25,v 9 26]
 (q [v 27 6,v 28 8,v 29 9,v 30 1,bt 31 .quo 29 30,ix 32 1 27 28,s 1 32 31]
 (.cx [v 33 9,v 34 1,bt 35 .rem 33 34,v 7 35]))))
 (.cx [v 18 8,bi 19 .sub 18 1,v 8 19]))))))
 (q [v 36 6,c 37 271 [.t 36],v 38 7,v 4 37,v 5 38]
 .ret)))))⟩
def ED:cy:=⟨21,[.tmp 2],(q [o 2 (.mv (.k (.aq)))]
 (.seq (.block 0 (.loop (.seq (q [v 3 0,ln 4 3,bi 5 .gtr 4 0,v 6 5,g 7 (m 0) 6 true,g 8 (m 0) 6 true,g 9 (.len .slice (.t 8)) 6 true,gb 10 .sub (.t 9) (i 1) 6 true,g 11 (.iG 1 (.t 7) (.t 10)) 6 true,gl 12 false 1 11 6 true,gb 13 .eql (.t 12) (i 0) 6 true,pf 14 6 13]
 (.cond (.t 14) .skip
 (.exit 0)))
 (.block 1 (.cx [v 15 0,v 16 0,ln 17 16,bi 18 .sub 17 1,o 19 (.sl 1 (.t 15) none (some (.t 18))),v 0 19])))))
 (q [v 20 0,v 2 20]
 .ret)))⟩
def KX:cy:=⟨77,[.tmp 6],(q [vi 6 0]
 (q [v 11 1,ln 12 11,v 7 12]
 (.seq (.cm [v 13 0,v 14 2,v 15 7,bt 16 .add 14 15,ix 17 1 13 16,w 18 false 1 17 5,bi 19 .mul 18 1000000000,v 20 0,v 21 2,v 22 7,bt 23 .add 21 22,bi 24 .sub 23 1,ix 25 1 20 24,w 26 false 1 25 13,bt 27 .add 19 26,v 8 27])
 (.seq (.cm [v 28 8,v 29 1,v 30 7,bi 31 .sub 30 1,ix 32 1 29 31,w 33 false 1 32 5,bt 34 .quo 28 33,v 35 8,v 36 1,v 37 7,bi 38 .sub 37 1,ix 39 1 36 38,w 40 false 1 39 12,bt 41 .rem 35 40,v 9 34,v 10 41])
 (.seq (.block 0 (.loop (.seq (.seq (.cm [v 42 9,bi 43 .geq 42 1000000000,v 44 43,g 45 (m 9) 44 false,g 46 (m 1) 44 false,g 47 (m 7) 44 false,gb 48 .sub (.t 47) (i 2) 44 false,g 49 (.iG 1 (.t 46) (.t 48)) 44 false,x 50 false 1 49 44 false 8,gb 51 .mul (.t 45) (.t 50) 44 false,g 52 (m 10) 44 false,gb 53 .mul (.t 52) (i 1000000000) 44 false,g 54 (m 0) 44 false,g 55 (m 2) 44 false,g 56 (m 7) 44 false,gb 57 .add (.t 55) (.t 56) 44 false,gb 58 .sub (.t 57) (i 2) 44 false,g 59 (.iG 1 (.t 54) (.t 58)) 44 false,x 60 false 1 59 44 false 18,gb 61 .add (.t 53) (.t 60) 44 false,gb 62 .gtr (.t 51) (.t 61) 44 false,pt 63 44 62])
 (.cond (.t 63) .skip
 (.exit 0)))
 (.block 1 (q [v 64 9,bi 65 .sub 64 1,v 9 65]
 (q [v 66 10,v 67 1,v 68 7,bi 69 .sub 68 1,ix 70 1 67 69,l 71 false 1 70,bt 72 .add 66 71,v 10 72]
 (q [v 73 10,bi 74 .geq 73 1000000000]
 (k 74 (q [v 75 9,v 6 75]
 .ret)))))))))
 (q [v 76 9,v 6 76]
 .ret))))))⟩
def KV:cy:=⟨13,[.tmp 4],(q [vi 4 0]
 (.seq (q [v 5 1,v 6 0,ln 7 6,bt 8 .lss 5 7]
 (k 8 (q [v 9 0,v 10 1,ix 11 1 9 10,l 12 false 1 11,v 4 12]
 .ret)))
 (q [vi 4 0]
 .ret)))⟩
def kX:T cy:=(.node (.node (.node (.node (.node .nil none (.node (.node (.node (.node .nil (some ED) .nil) none .nil) none (.node .nil (some B8) .nil)) none .nil)) none (.node (.node (.node (.node .nil (some LL) .nil) none .nil) none .nil) none (.node .nil (some Ud) .nil))) none (.node (.node (.node .nil (some Uf) (.node .nil (some Ps) .nil)) (some IT) .nil) none (.node (.node .nil none (.node (.node .nil (some a171) .nil) (some a107) .nil)) none (.node .nil none (.node .nil (some LP) (.node .nil (some La) .nil)))))) none (.node (.node (.node (.node (.node (.node .nil (some LM) .nil) none .nil) none .nil) none .nil) none (.node (.node (.node .nil (some Ub) .nil) none (.node (.node .nil (some uD) .nil) none .nil)) none (.node .nil none (.node (.node .nil (some Lx) .nil) none (.node .nil (some Ld) .nil))))) none (.node (.node .nil (some a21) (.node .nil none (.node (.node .nil (some Ly) .nil) none .nil))) none (.node (.node .nil none (.node (.node .nil (some a173) .nil) none .nil)) none (.node .nil none (.node .nil (some LO) (.node .nil (some K8) .nil))))))) none (.node (.node (.node (.node (.node (.node (.node .nil (some LN) .nil) none .nil) none .nil) none (.node (.node (.node (.node .nil (some KX) .nil) none .nil) none (.node .nil (some a208) .nil)) none (.node (.node .nil (some Lz) .nil) none .nil))) none (.node (.node (.node .nil (some a72) .nil) none (.node (.node (.node .nil (some KV) .nil) (some a168) .nil) none .nil)) none (.node .nil (some Uc) (.node .nil none (.node .nil (some Le) .nil))))) none (.node (.node (.node .nil (some Ue) .nil) (some a20) .nil) none (.node (.node .nil none (.node (.node .nil (some LA) .nil) none .nil)) none (.node .nil none (.node .nil (some a124) (.node .nil (some K9) .nil)))))) none (.node (.node (.node (.node .nil (some Ug) .nil) none .nil) none (.node (.node (.node .nil (some Pt) .nil) none (.node (.node .nil (some LC) .nil) none .nil)) none (.node .nil none (.node .nil (some LQ) (.node .nil (some Lc) .nil))))) none (.node (.node .nil none (.node (.node .nil none (.node .nil (some Lo) .nil)) none (.node (.node .nil (some a182) .nil) none .nil))) none (.node (.node (.node (.node (.node .nil (some KY) .nil) (some LG) .nil) none .nil) none .nil) none .nil)))))
section
open Go.Proofs
theorem b19:aR 19 IT:=by unfold aR;kernel_rfl
theorem b20:aR 20 a20:=by unfold aR;kernel_rfl
theorem b21:aR 21 a21:=by unfold aR;kernel_rfl
theorem b34:aR 34 Ug:=by unfold aR;kernel_rfl
theorem b35:aR 35 Uf:=by unfold aR;kernel_rfl
theorem b36:aR 36 Ue:=by unfold aR;kernel_rfl
theorem b55:aR 55 Ud:=by unfold aR;kernel_rfl
theorem b56:aR 56 Uc:=by unfold aR;kernel_rfl
theorem b72:aR 72 a72:=by unfold aR;kernel_rfl
theorem b73:aR 73 Ub:=by unfold aR;kernel_rfl
theorem b74:aR 74 Pt:=by unfold aR;kernel_rfl
theorem b99:aR 99 Ps:=by unfold aR;kernel_rfl
theorem Zn:aR 107 a107:=by unfold aR;kernel_rfl
theorem Y9:aR 122 LQ:=by unfold aR;kernel_rfl
theorem Y8:aR 123 LP:=by unfold aR;kernel_rfl
theorem Y7:aR 124 a124:=by unfold aR;kernel_rfl
theorem Y6:aR 125 LO:=by unfold aR;kernel_rfl
theorem Y5:aR 128 LN:=by unfold aR;kernel_rfl
theorem Y4:aR 129 LM:=by unfold aR;kernel_rfl
theorem YY:aR 135 LL:=by unfold aR;kernel_rfl
theorem YR:aR 142 LG:=by unfold aR;kernel_rfl
theorem YD:aR 168 a168:=by unfold aR;kernel_rfl
theorem YC:aR 169 uD:=by unfold aR;kernel_rfl
theorem YB:aR 170 LC:=by unfold aR;kernel_rfl
theorem YA:aR 171 a171:=by unfold aR;kernel_rfl
theorem Yz:aR 172 LA:=by unfold aR;kernel_rfl
theorem Yy:aR 173 a173:=by unfold aR;kernel_rfl
theorem Yw:aR 176 Lz:=by unfold aR;kernel_rfl
theorem Yt:aR 181 Ly:=by unfold aR;kernel_rfl
theorem Ys:aR 182 a182:=by unfold aR;kernel_rfl
theorem Yq:aR 185 Lx:=by unfold aR;kernel_rfl
theorem X7:aR 207 B8:=by unfold aR;kernel_rfl
theorem X6:aR 208 a208:=by unfold aR;kernel_rfl
theorem XX:aR 214 Lo:=by unfold aR;kernel_rfl
theorem XG:aR 248 Le:=by unfold aR;kernel_rfl
theorem XF:aR 249 Ld:=by unfold aR;kernel_rfl
theorem XE:aR 250 Lc:=by unfold aR;kernel_rfl
theorem XD:aR 251 La:=by unfold aR;kernel_rfl
theorem XC:aR 252 K9:=by unfold aR;kernel_rfl
theorem XB:aR 253 K8:=by unfold aR;kernel_rfl
theorem Xr:aR 270 KY:=by unfold aR;kernel_rfl
theorem Xq:aR 271 ED:=by unfold aR;kernel_rfl
theorem Xp:aR 272 KX:=by unfold aR;kernel_rfl
theorem Xi:aR 296 KV:=by unfold aR;kernel_rfl
theorem all:T.Forall aR kX (fun n=>n):=⟨C.no,⟨C.no,⟨C.no,⟨C.no,⟨C.no,trivial,⟨C.no,⟨C.no,⟨C.no,⟨C.yes Xq,trivial,trivial⟩,trivial⟩,⟨C.yes X7,trivial,trivial⟩⟩,trivial⟩⟩,⟨C.no,⟨C.no,⟨C.no,⟨C.yes YY,trivial,trivial⟩,trivial⟩,trivial⟩,⟨C.yes b55,trivial,trivial⟩⟩⟩,⟨C.no,⟨C.yes b19,⟨C.yes b35,trivial,⟨C.yes b99,trivial,trivial⟩⟩,trivial⟩,⟨C.no,⟨C.no,trivial,⟨C.yes Zn,⟨C.yes YA,trivial,trivial⟩,trivial⟩⟩,⟨C.no,trivial,⟨C.yes Y8,trivial,⟨C.yes XD,trivial,trivial⟩⟩⟩⟩⟩⟩,⟨C.no,⟨C.no,⟨C.no,⟨C.no,⟨C.no,⟨C.yes Y4,trivial,trivial⟩,trivial⟩,trivial⟩,trivial⟩,⟨C.no,⟨C.no,⟨C.yes b73,trivial,trivial⟩,⟨C.no,⟨C.yes YC,trivial,trivial⟩,trivial⟩⟩,⟨C.no,trivial,⟨C.no,⟨C.yes Yq,trivial,trivial⟩,⟨C.yes XF,trivial,trivial⟩⟩⟩⟩⟩,⟨C.no,⟨C.yes b21,trivial,⟨C.no,trivial,⟨C.no,⟨C.yes Yt,trivial,trivial⟩,trivial⟩⟩⟩,⟨C.no,⟨C.no,trivial,⟨C.no,⟨C.yes Yy,trivial,trivial⟩,trivial⟩⟩,⟨C.no,trivial,⟨C.yes Y6,trivial,⟨C.yes XB,trivial,trivial⟩⟩⟩⟩⟩⟩⟩,⟨C.no,⟨C.no,⟨C.no,⟨C.no,⟨C.no,⟨C.no,⟨C.yes Y5,trivial,trivial⟩,trivial⟩,trivial⟩,⟨C.no,⟨C.no,⟨C.no,⟨C.yes Xp,trivial,trivial⟩,trivial⟩,⟨C.yes X6,trivial,trivial⟩⟩,⟨C.no,⟨C.yes Yw,trivial,trivial⟩,trivial⟩⟩⟩,⟨C.no,⟨C.no,⟨C.yes b72,trivial,trivial⟩,⟨C.no,⟨C.yes YD,⟨C.yes Xi,trivial,trivial⟩,trivial⟩,trivial⟩⟩,⟨C.yes b56,trivial,⟨C.no,trivial,⟨C.yes XG,trivial,trivial⟩⟩⟩⟩⟩,⟨C.no,⟨C.yes b20,⟨C.yes b36,trivial,trivial⟩,trivial⟩,⟨C.no,⟨C.no,trivial,⟨C.no,⟨C.yes Yz,trivial,trivial⟩,trivial⟩⟩,⟨C.no,trivial,⟨C.yes Y7,trivial,⟨C.yes XC,trivial,trivial⟩⟩⟩⟩⟩⟩,⟨C.no,⟨C.no,⟨C.no,⟨C.yes b34,trivial,trivial⟩,trivial⟩,⟨C.no,⟨C.no,⟨C.yes b74,trivial,trivial⟩,⟨C.no,⟨C.yes YB,trivial,trivial⟩,trivial⟩⟩,⟨C.no,trivial,⟨C.yes Y9,trivial,⟨C.yes XE,trivial,trivial⟩⟩⟩⟩⟩,⟨C.no,⟨C.no,trivial,⟨C.no,⟨C.no,trivial,⟨C.yes XX,trivial,trivial⟩⟩,⟨C.no,⟨C.yes Ys,trivial,trivial⟩,trivial⟩⟩⟩,⟨C.no,⟨C.no,⟨C.no,⟨C.yes YR,⟨C.yes Xr,trivial,trivial⟩,trivial⟩,trivial⟩,trivial⟩,trivial⟩⟩⟩⟩⟩
theorem xh (n:Nat)(a:cy)(h:kX.get n=some a):BT Tryz.prog n=some a:=T.fZ kX (fun n=>n) all n a h
end
end Go.Ae.R
namespace Go.Ae
open Go.Proofs
noncomputable def E3:Env:=E2.add R.kX
theorem MT:Ge E2 E3:=Ge.add _ _
theorem gu3 {f:Nat}{args:List AV}{h:Hp}{v:AV}(hc:Gv E2 f args h v):Gv E3 f args h v:=hc.ge fun _ _ _ hk=>hk.ge MT
section
variable {h:Hp}{K:AV→Hp→Prop}
def ZH (x y z:Int):Prop:= -100000≤x∧x≤100000∧-100000≤y∧y≤100000∧-100000≤z∧z≤100000
instance {x y z:Int}:Decidable (ZH x y z):=by unfold ZH;infer_instance
end
end Go.Ae
namespace Go.Ae
open N Go.Proofs
def bR (s:List UInt8):Nat:=(s.takeWhile (fun b=>decide (b≠47))).length
theorem jZ (s:List UInt8):bR s≤s.length:=(List.takeWhile_sublist _).length_le
theorem sX {s:List UInt8}{i:Nat}(hi:i<s.length)(hn:∀j,j<i→s.getD j 0≠47)(h:s.getD i 0=47):bR s=i:=by
 induction s generalizing i with
 |nil=>simp at hi
 | cons b r ih=>
  unfold bR at *;cases i with
  | zero=>
   have hb:b=47:=h;subst hb;simp
  | succ i=>
   have hb:b≠47:=hn 0 (by omega);rw[As (by simpa using hb),ap,ih (i:=i) (by simpa using hi) (fun j hj=>hn (j+1) (by omega)) h]
theorem sW {s:List UInt8}(hn:∀j,j<s.length→s.getD j 0≠47):bR s=s.length:=by
 induction s with
 |nil=>rfl
 | cons b r ih=>
  unfold bR at *;have hb:b≠47:=hn 0 (by simp);rw[As (by simpa using hb),ap,ih (fun j hj=>hn (j+1) (by simp;omega)),ap]
def mj (s:List UInt8):List UInt8:=s.take (bR s)
def oP (s:List UInt8):List UInt8:=if bR s=s.length then[49]else s.drop (bR s+1)
def yo (s:List UInt8):Int:=if s=[48]then 0 else if s.head?=some 45 then -1 else 1
def oR (s:List UInt8):List UInt8:=if yo s<0 then s.drop 1 else s
def tP (s:List UInt8):Bool:=decide (600<(oR (mj s)).length)||decide (600<(oP s).length)
section
variable {h:Hp}{K:AV→Hp→Prop}
theorem qL {b:UInt8}{n:Nat}(hn:n<256):(b.toNat:Int)=n↔b=UInt8.ofNat n:=by
 constructor
 ·intro e;apply UInt8.toNat_inj.1;rw[UInt8.toNat_ofNat',cH hn];omega
 ·rintro rfl;rw[UInt8.toNat_ofNat',cH hn]
theorem zZ {s:List UInt8}(hs:s.length≤9223372036854775807):ac E3 122 [.str s] h K↔K (.int .i64 (bR s)) h:=by
 refine ac.cZ (ac.fn (fn:=R.LQ) rfl rfl rfl ?_);unfold R.LQ;repeat'(with_reducible first|simp(disch:=try exact ab) only[go_sem,seval]|(apply aj.i<;>intro hc))
 refine Wp.bW (fun m st=>∃i:Nat,val st.tm (.t 0)= .str s∧val st.tm (.t 3)= .int .i64 i∧st.hp=h∧i≤s.length∧(∀j,j<i→s.getD j 0≠47)∧s.length-i=m) (n:=s.length) ?_ ?_
 ·refine⟨0,?_⟩;simp(disch:=try exact ab) only[go_sem,seval];exact⟨by omega,fun j hj=>by omega,by omega⟩
 ·rintro m ⟨tm,hp⟩ ⟨i,h0,h3,rfl,hi,hn,rfl⟩;simp only at h0 h3;by_cases hlt:i<s.length
  ·have hlt':(i:Int)<s.length:=by omega
   have e1:((s.getD i 0).toNat:Int)=47↔s.getD i 0=47:=qL (n:=47) (by decide);by_cases hc:s.getD i 0=47
   ·have ky:=e1.2 hc;repeat'(with_reducible first|simp(disch:=try exact ab) only[go_sem,seval,h0,h3]|(apply aj.i<;>intro hc))
    rw[sX hlt hn hc]
   ·have ky:=fun e=>hc (e1.1 e)
    repeat'(with_reducible first|simp(disch:=try exact ab) only[go_sem,seval,h0,h3]|(apply aj.i<;>intro hc))
    refine⟨s.length-(i+1),by omega,i+1,?_⟩;simp(disch:=try exact ab) only[go_sem,seval,h0,h3];refine⟨rfl,by omega,fun j hj=>?_⟩;rcases aQ j i with hj'|hj'
    ·exact hn j hj'
    ·rw[show j=i by omega];exact hc
  ·have hlt':¬(i:Int)<s.length:=by omega
   repeat'(with_reducible first|simp(disch:=try exact ab) only[go_sem,seval,h0,h3]|(apply aj.i<;>intro hc))
   rw[sW (fun j hj=>hn j (by omega))]
theorem Ev {s:List UInt8}(hs:s.length≤9223372036854775807):ac E3 128 [.str s] h K↔K (.str (mj s)) h:=by
 refine ac.cZ (ac.fn (fn:=R.LN) rfl rfl rfl ?_);unfold R.LN;have:=jZ s;repeat'(with_reducible first|simp(disch:=try exact ab) only[go_sem,seval,zZ]|(apply aj.i<;>intro hc))
 rfl
theorem Ik {s:List UInt8}(hs:s.length≤9223372036854775807):ac E3 129 [.str s] h K↔K (.str (oP s)) h:=by
 refine ac.cZ (ac.fn (fn:=R.LM) rfl rfl rfl ?_);unfold R.LM;have:=jZ s;unfold oP;by_cases hc:bR s=s.length
 ·have ky:(bR s:Int)=s.length:=by omega
  rw[if_pos hc];repeat'(with_reducible first|simp(disch:=try exact ab) only[go_sem,seval,zZ]|(apply aj.i<;>intro hc))
 ·have ky:¬(bR s:Int)=s.length:=by omega
  have e1:((bR s:Int)+1).toNat=bR s+1:=by omega
  rw[if_neg hc];repeat'(with_reducible first|simp(disch:=try exact ab) only[go_sem,seval,zZ,e1]|(apply aj.i<;>intro hc))
theorem WW {s:List UInt8}(hs:s.length≤9223372036854775807):ac E3 21 [.str s] h K↔K (.int .i64 (yo s)) h:=by
 refine ac.cZ (ac.fn (fn:=R.a21) rfl rfl rfl ?_);unfold R.a21;unfold yo;by_cases hc:s=[48]
 ·rw[if_pos hc];repeat'(with_reducible first|simp(disch:=try exact ab) only[go_sem,seval]|(apply aj.i<;>intro hc))
 ·rw [if_neg hc];cases s with
  | nil=>
   repeat'(with_reducible first|simp(disch:=try exact ab) only[go_sem,seval]|(apply aj.i<;>intro hc))
   simp
  | cons b r=>
   have e1:(b.toNat:Int)=45↔b=45:=qL (n:=45) (by decide);by_cases hb:b=45
   ·have hb':=e1.2 hb;rw[if_pos (by rw[hb];rfl)];repeat'(with_reducible first|simp(disch:=try exact ab) only[go_sem,seval,de]|(apply aj.i<;>intro hc))
   ·have hb':=fun e=>hb (e1.1 e)
    rw[if_neg (by simpa using hb)];repeat'(with_reducible first|simp(disch:=try exact ab) only[go_sem,seval,de]|(apply aj.i<;>intro hc))
theorem Eu {s:List UInt8}(hs:s.length≤9223372036854775807):ac E3 214 [.str s] h K↔K (.str (oR s)) h:=by
 refine ac.cZ (ac.fn (fn:=R.Lo) rfl rfl rfl ?_);unfold R.Lo;unfold oR;by_cases hc:yo s<0
 ·have hl:1≤s.length:=by
   cases s with
   |nil=>simp[yo]at hc
   |cons b r=>simp
  rw[if_pos hc];repeat'(with_reducible first|simp(disch:=try exact ab) only[go_sem,seval,WW]|(apply aj.i<;>intro hc))
 ·rw[if_neg hc];repeat'(with_reducible first|simp(disch:=try exact ab) only[go_sem,seval,WW]|(apply aj.i<;>intro hc))
theorem wV (s:List UInt8):(mj s).length≤s.length:=by unfold mj;rw[az];omega
theorem Pr (s:List UInt8):(oR s).length≤s.length:=by unfold oR;split<;>simp
theorem O4 (s:List UInt8):(oP s).length≤s.length+1:=by unfold oP;split<;>simp;omega
theorem W5 {s:List UInt8}(hs:s.length≤9223372036854775806):ac E3 176 [.str s] h K↔K (.int .i64 (if tP s then 4 else 0)) h:=by
 refine ac.cZ (ac.fn (fn:=R.Lz) rfl rfl rfl ?_);unfold R.Lz;have h1:=wV s;have h2:=Pr (mj s);have h3:=O4 s;unfold tP;by_cases ha:600<(oR (mj s)).length
 ·have Kh:(600:Int)<((oR (mj s)).length:Nat):=by omega
  rw[if_pos (by simp[ha])];repeat'(with_reducible first|simp(disch:=try exact ab) only[go_sem,seval,Ev,Eu,Ik]|(apply aj.i<;>intro hc))
 ·have Kh:¬(600:Int)<((oR (mj s)).length:Nat):=by omega
  by_cases hb:600<(oP s).length
  ·have hb':(600:Int)<((oP s).length:Nat):=by omega
   rw[if_pos (by simp[hb])];repeat'(with_reducible first|simp(disch:=try exact ab) only[go_sem,seval,Ev,Eu,Ik]|(apply aj.i<;>intro hc))
  ·have hb':¬(600:Int)<((oP s).length:Nat):=by omega
   rw[if_neg (by simp[ha,hb])];repeat'(with_reducible first|simp(disch:=try exact ab) only[go_sem,seval,Ev,Eu,Ik]|(apply aj.i<;>intro hc))
end
end Go.Ae
namespace Go.Ae
noncomputable section
def TG (x:Option cP)(h:Hp):Option (AV×Hp):=
 match x with
 |some (.row (x::_) _ _)=>some (.sl h.next 0 1 1,h.push fun s=> .row [x] true s)
 |_=>none
section
variable {h:Hp}{u t n b st st':Nat}{own:Bool}{x:AV}{cs vY:List AV}
theorem TG.row:TG (some (.row (x::cs) own st)) h=some (.sl h.next 0 1 1,h.push fun s=> .row [x] true s):=rfl
end
end
open N Go.Proofs
section
variable {h:Hp}{K:AV→Hp→Prop}
theorem P5 {n k:Nat}(hn:n≤9223372036854775807)(hk:k≤1000):ac E3 186 [.int .i64 n,.int .i64 k] h K↔K (.str (bn n k)) h:=up MT fun K=>W4 hn hk
theorem AJ {n:Nat}(hn:n≤9223372036854775807):ac E3 186 [.int .i64 n,.int .i64 1] h K↔K (.str (bn n 1)) h:=P5 (k:=1) hn (by omega)
theorem Sz:ac E3 271 [.aq] h K↔K .aq h:=by
 refine ac.cZ (ac.fn (fn:=R.ED) rfl rfl rfl ?_);unfold R.ED;repeat'(with_reducible first|simp(disch:=try exact ab) only[go_sem,seval,Wp.sS]|(apply aj.i<;>intro hc))
end
end Go.Ae
namespace Go.Ae
open Bg
noncomputable section
abbrev D9:Nat:=1000000000
theorem cO.sq {kd:IntKind}{h0 h:Hp}{v:AV}{n:Nat}{l:List Nat}(o:cO 1 h0 h v n (l.map (wd kd)))(hl:l.length=n):Sq kd h v l:=by
 obtain⟨_,⟨rfl,rfl⟩|⟨t,st,rfl,hg,h1,h2,h3⟩⟩:=o
 ·have:l=[]:=fL.1 hl;subst this;exact Sq.nil
 ·subst hl;exact Sq.all hg h2 h3
section
variable {h:Hp}{K:AV→Hp→Prop}
theorem Sg {t o n st:Nat}{L:List Nat}{own:Bool}(hg:h.get t=some (.row (L.map (wd .i64)) own st))(hn:o+n≤L.length)(V6:n≤9223372036854775807):
  ac E3 271 [.sl t o n 1] h K↔K (.sl t o (dJ ((L.drop o).take n)).length 1) h:=by
 refine ac.cZ (ac.fn (fn:=R.ED) rfl rfl rfl ?_);unfold R.ED;repeat'(with_reducible first|simp(disch:=try exact ab) only[go_sem,seval]|(apply aj.i<;>intro hc))
 refine Wp.bW (fun m s=>∃k:Nat,val s.tm (.t 0)= .sl t o k 1∧s.hp=h∧k≤n∧dJ ((L.drop o).take n)=dJ ((L.drop o).take k)∧k=m) (n:=n) ?_ ?_
 ·exact⟨n,aS,rfl,ae _,rfl,rfl⟩
 ·rintro m ⟨tm,hp⟩ ⟨k,h0,rfl,hk,heq,rfl⟩;simp only at h0;rcases aE k with rfl|hpos
  ·have e0:((0:Nat):Int)=0:=rfl;repeat'(with_reducible first|simp(disch:=try exact ab) only[go_sem,seval,h0,e0]|(apply aj.i<;>intro hc))
   rw[heq];simp[dJ]
  ·have hp':(0:Int)<k:=by omega
   have e1:((k:Int)-1).toNat=k-1:=by omega
   have hx:(L.map (wd .i64))[o+(k-1)]?=some (.int .i64 (L.getD (o+(k-1)) 0:Nat)):=jx (by omega);have hle:o+(k-1)+1≤L.length:=by omega
   have htk:(L.drop o).take k=(L.drop o).take (k-1)++[L.getD (o+(k-1)) 0]:=by
    have:=take_succ (i:=k-1) (l:=L.drop o) (by rw[bP];omega);rw[bT hpos]at this;rw[this];congr 2;simp[bQ]
   by_cases hz:L.getD (o+(k-1)) 0=0
   ·have J6:((L.getD (o+(k-1)) 0:Nat):Int)=0:=by omega
    repeat'(with_reducible first|simp(disch:=try exact ab) only[go_sem,seval,h0,hp',e1,hg,hx,hle,aU,dF,J6,pn]|(apply aj.i<;>intro hc))
    refine⟨k-1,by omega,k-1,rfl,by omega,?_,rfl⟩;rw[heq,htk,hz,pm]
   ·have J6:¬((L.getD (o+(k-1)) 0:Nat):Int)=0:=by omega
    repeat'(with_reducible first|simp(disch:=try exact ab) only[go_sem,seval,h0,hp',e1,hg,hx,hle,aU,dF,J6,pn]|(apply aj.i<;>intro hc))
    rw[heq,htk,qN hz,←htk,az,bP,cD (by omega)]
theorem ui {v:AV}{l:List Nat}(hS:Sq .i64 h v l)(hl:l.length≤9223372036854775807):Gp E3 271 [v] h fun v' h'=>Sq .i64 h' v' (dJ l):=by
 rcases hS with⟨rfl,rfl⟩|⟨t,o,own,st,L,rfl,hg,h1,h2,h3,h4⟩
 ·exact Gp.of (Sz.2 ⟨Sq.nil,aH.refl h⟩)
 ·refine Gp.of ((Sg hg h1 hl).2 ⟨?_,aH.refl h⟩);rw[h2];refine .inr ⟨t,o,own,st,L,rfl,hg,?_,?_,h3,h4⟩
  ·have:=nf l;omega
  ·conv=>rhs;rw[nW l,←h2]
   rw[Ar,cD (by rw[h2];exact nf l),h2]
theorem d296 {v:AV}{l:List Nat}(hS:Sq .i64 h v l)(i:Nat):ac E3 296 [v,.int .i64 i] h K↔K (.int .i64 (l.getD i 0:Nat)) h:=by
 refine ac.cZ (ac.fn (fn:=R.KV) rfl rfl rfl ?_);unfold R.KV;have rd:=hS.rd;have ln:=rd.len;by_cases hi:i<l.length
 ·have hi':(i:Int)<l.length:=by omega
  have ad:=rd.jn;have ld:=rd.load i hi;repeat'(with_reducible first|simp(disch:=try exact ab) only[go_sem,seval,ln,hi',ad,ld]|(apply aj.i<;>intro hc))
 ·have hi':¬(i:Int)<l.length:=by omega
  have h0:l.getD i 0=0:=by simp[bQ,bO (wA hi)]
  repeat'(with_reducible first|simp(disch:=try exact ab) only[go_sem,seval,ln,hi']|(apply aj.i<;>intro hc))
  rw[h0];rfl
theorem d251 {va vb:AV}{a b:List Nat}(ha:Sq .i64 h va a)(hb:Sq .i64 h vb b)(da:Dg 1000000000 a)(db:Dg 1000000000 b)(na:Norm a)(nb:Norm b)(hla:a.length≤1000000)(hlb:b.length≤1000000):
  ac E3 251 [va,vb] h K↔K (.int .i64 (jl (vl 1000000000 a) (vl 1000000000 b))) h:=by
 refine ac.cZ (ac.fn (fn:=R.La) rfl rfl rfl ?_);unfold R.La;have ra:=ha.rd;have rb:=hb.rd;by_cases hl:a.length=b.length
 ·have hl':(a.length:Int)=b.length:=by omega
  have hl2:=ra.len;have hl3:=rb.len;rw[←hl]at hl3;repeat'(with_reducible first|simp(disch:=try exact ab) only[go_sem,seval,hl2,hl3]|(apply aj.i<;>intro hc))
  refine Wp.bW (fun m s=>∃k:Nat,val s.tm (.t 0)=va∧val s.tm (.t 1)=vb∧val s.tm (.t 5)= .int .i64 ((k:Int)-1)∧s.hp=h∧k≤a.length∧a.drop k=b.drop k∧k=m) (n:=a.length) ?_ ?_
  ·exact⟨a.length,aS,aS,aS,rfl,ae _,by rw[nR,hl,nR],rfl⟩
  ·rintro m ⟨tm,hp⟩ ⟨k,h0,h1,h5,rfl,hk,heq,rfl⟩;simp only at h0 h1 h5;rcases aE k with rfl|hpos
   ·have e0:((0:Nat):Int)-1= -1:=rfl;repeat'(with_reducible first|simp(disch:=try exact ab) only[go_sem,seval,h0,h1,h5,e0]|(apply aj.i<;>intro hc))
    simp only[eE]at heq;subst heq;simp[jl]
   ·have e1:((k:Int)-1).toNat=k-1:=by omega
    have hp1:(0:Int)≤(k:Int)-1:=by omega
    have ola:=ra.old (by omega);have olb:=rb.old (by omega);have lda:=ra.load (k-1) (by omega);have ldb:=rb.load (k-1) (by omega);have ada:=ra.jn;have adb:=rb.jn
    have sda:a.drop (k-1)=a.getD (k-1) 0::a.drop k:=by
     rw[ey (by omega),getD_eq (by omega),bT hpos]
    have sdb:b.drop (k-1)=b.getD (k-1) 0::b.drop k:=by
     rw[ey (by omega),getD_eq (by omega),bT hpos]
    have tl:(k-1+1)=k:=by omega
    generalize Rk:a.getD (k-1) 0=xa at *
    generalize Rj:b.getD (k-1) 0=xb at *
    by_cases hlt:xa<xb
    ·have hlt':(xa:Int)<xb:=by omega
     repeat'(with_reducible first|simp(disch:=try exact ab) only[go_sem,seval,h0,h1,h5,hp1,e1,ada,adb,lda,ldb,ola,olb,hlt']|(apply aj.i<;>intro hc))
     have:=wL (B:=1000000000) (i:=k-1) (by decide) da hl (by omega) (by rw[tl];exact heq) (by rw[Rk,Rj];exact hlt);simp[jl,this]
    ·have hlt':¬(xa:Int)<xb:=by omega
     by_cases hgt:xb<xa
     ·have OF:(xb:Int)<xa:=by omega
      repeat'(with_reducible first|simp(disch:=try exact ab) only[go_sem,seval,h0,h1,h5,hp1,e1,ada,adb,lda,ldb,ola,olb,hlt',OF]|(apply aj.i<;>intro hc))
      have:=wL (B:=1000000000) (i:=k-1) (by decide) db hl.symm (by omega) (by rw[tl];exact heq.symm) (by rw[Rk,Rj];exact hgt);simp[jl,this,show ¬vl 1000000000 a<vl 1000000000 b by omega]
     ·have OF:¬(xb:Int)<xa:=by omega
      repeat'(with_reducible first|simp(disch:=try exact ab) only[go_sem,seval,h0,h1,h5,hp1,e1,ada,adb,lda,ldb,ola,olb,hlt',OF]|(apply aj.i<;>intro hc))
      refine⟨k-1,by omega,k-1,?_,by omega,?_,rfl⟩
      ·congr 1;omega
      ·rw[sda,sdb,heq,show xa=xb by omega]
 ·have hl':¬(a.length:Int)=b.length:=by omega
  have hl2:=ra.len;have hl3:=rb.len;by_cases hlt:a.length<b.length
  ·have hlt':(a.length:Int)<b.length:=by omega
   repeat'(with_reducible first|simp(disch:=try exact ab) only[go_sem,seval,hl2,hl3,hl',hlt']|(apply aj.i<;>intro hc))
   have:=jJ (B:=1000000000) (by decide) da nb hlt;simp[jl,this]
  ·have hlt':¬(a.length:Int)<b.length:=by omega
   repeat'(with_reducible first|simp(disch:=try exact ab) only[go_sem,seval,hl2,hl3,hl',hlt']|(apply aj.i<;>intro hc))
   have:=jJ (B:=1000000000) (by decide) db na (by omega);simp[jl,this,show ¬vl 1000000000 a<vl 1000000000 b by omega]
theorem wu {P o X Y x y c s:Nat}(h:o+P*c=X+Y)(hs:s=x+y+c):o+P*(s%1000000000)+P*1000000000*(s/1000000000)=X+P*x+(Y+P*y):=by
 have e:P*(s%1000000000)+P*1000000000*(s/1000000000)=P*s:=by
  rw[aF,←ay];congr 1;omega
 have e2:P*s=P*x+P*y+P*c:=by rw[hs,ay,ay]
 omega
theorem d250 {va vb:AV}{a b:List Nat}(ha:Sq .i64 h va a)(hb:Sq .i64 h vb b)(da:Dg 1000000000 a)(db:Dg 1000000000 b)(hla:a.length≤1000000)(hlb:b.length≤1000000):
    Gp E3 250 [va,vb] h fun v h'=>∃l,Sq .i64 h' v l∧Dg 1000000000 l∧l.length≤1000001∧vl 1000000000 l=vl 1000000000 a+vl 1000000000 b:=by
  refine Gp.of (ac.fn (fn:=R.Lc) rfl rfl rfl ?_);unfold R.Lc;repeat'(with_reducible first|simp(disch:=try exact ab) only[go_sem,seval]|(apply aj.i<;>intro hc))
  refine Wp.bW (fun m s=>∃(i c:Nat) (out:List Nat) (v:AV),val s.tm (.t 0)=va∧val s.tm (.t 1)=vb∧val s.tm (.t 5)=v∧val s.tm (.t 6)= .int .i64 c∧val s.tm (.t 7)= .int .i64 i∧
    aH h s.hp∧cO 1 h s.hp v i (out.map (wd .i64))∧out.length=i∧Dg 1000000000 out∧c≤1∧i≤max a.length b.length+1∧(max a.length b.length<i→c=0)∧
    vl 1000000000 out+1000000000^i*c=vl 1000000000 (a.take i)+vl 1000000000 (b.take i)∧2*(max a.length b.length-i)+c=m) (n:=2*max a.length b.length) ?_ ?_
  · exact⟨0,0,[],.aq,aS,aS,aS,by(simp(disch:=try exact ab) only[go_sem,seval])<;>rfl,by(simp(disch:=try exact ab) only[go_sem,seval])<;>rfl,aH.refl _,cO.nil,rfl,Dg.nil,by omega,by omega,by omega,by simp[vl],by omega⟩
  · rintro m ⟨tm,hp⟩ ⟨i,c,out,v,h0,h1,h5,h6,h7,hG,hO,hlo,hd,hc,Wh,Wx,hinv,rfl⟩
    simp only at h0 h1 h5 h6 h7 hG hO;have lna:=(ha.aO hG).rd.len;have lnb:=(hb.aO hG).rd.len;have dA:=fun{K:AV→Hp→Prop}=>d296 (K:=K) (ha.aO hG) i
    have dB:=fun{K:AV→Hp→Prop}=>d296 (K:=K) (hb.aO hG) i
    have tka:=jB (B:=1000000000) (l:=a) (i:=i);have tkb:=jB (B:=1000000000) (l:=b) (i:=i);have hxd:=Dg.getD (B:=1000000000) (by decide) da i;have uO:=Dg.getD (B:=1000000000) (by decide) db i
    have fin:∀s,s=a.getD i 0+b.getD i 0+c→vl 1000000000 (out++[s%1000000000])+1000000000^(i+1)*(s/1000000000)=vl 1000000000 (a.take (i+1))+vl 1000000000 (b.take (i+1)):=by
      intro s hs;rw[jv,hlo,tka,tkb,aV];exact wu hinv hs
    have ZO:a.length≤i→a.getD i 0=0:=fun e=>by simp[bQ,bO e]
    have ZN:b.length≤i→b.getD i 0=0:=fun e=>by simp[bQ,bO e]
    generalize a.getD i 0=xi at *
    generalize b.getD i 0=yi at *
    have em:((xi:Int)+yi+c)%1000000000=((xi+yi+c)%1000000000:Nat):=by omega
    have eq:((xi:Int)+yi+c)/1000000000=((xi+yi+c)/1000000000:Nat):=by omega
    have body:(i<a.length∨i<b.length∨0<c)→∀v' h',aH h h'→cO 1 h h' v' (i+1) (out.map (wd .i64)++[.int .i64 ((xi+yi+c)%1000000000:Nat)])→
        ∃ m',m'<2*(max a.length b.length-i)+c∧∃(i' c':Nat) (fg:List Nat) (v'':AV),((i:Int)+1)=i'∧((xi+yi+c)/1000000000:Nat)=c'∧v'=v''∧aH h h'∧cO 1 h h' v'' i' (fg.map (wd .i64))∧fg.length=i'∧Dg 1000000000 fg∧c'≤1∧i'≤max a.length b.length+1∧(max a.length b.length<i'→c'=0)∧
          vl 1000000000 fg+1000000000^i'*c'=vl 1000000000 (a.take i')+vl 1000000000 (b.take i')∧2*(max a.length b.length-i')+c'=m':=by
      intro hor v' h' G' O'
      have Wi:i≤max a.length b.length:=by
        rcases aQ (max a.length b.length) i with e|e
        · have:=Wx e;omega
        · exact e
      refine⟨_,?_,i+1,(xi+yi+c)/1000000000,out++[(xi+yi+c)%1000000000],v',by omega,rfl,rfl,G',?_,by simp[hlo],hd.append (Dg.cons (bq _ (by decide)) Dg.nil),by omega,by omega,?_,fin _ rfl,rfl⟩
      · rcases aQ i (max a.length b.length)with e|e
        · omega
        · have:=ZO (by omega);have:=ZN (by omega)
          omega
      · rw[List.map_append];exact O'
      · intro e
        have:=ZO (by omega);have:=ZN (by omega);omega
    by_cases g1:i<a.length
    · have g1':(i:Int)<a.length:=by omega
      repeat'(with_reducible first|simp(disch:=try exact ab) only[go_sem,seval,h0,h1,h5,h6,h7,lna,lnb,g1',dA,dB,em,eq,jA]|(apply aj.i<;>intro hc))
      refine cO.wp (h0:=h) (b:=8) rfl hG hO rfl (by decide) (by omega) (by omega) fun v' h' G' O'=>?_
      repeat'(with_reducible first|simp(disch:=try exact ab) only[go_sem,seval,h0,h1,h5,h6,h7,eq]|(apply aj.i<;>intro hc))
      obtain⟨m',EV,i',c',fg,v'',e1,e2,rfl,r⟩:=body (.inl g1) v' h' G' O';subst e2;exact⟨m',EV,i',_,fg,rfl,by rw[e1],r⟩
    · have g1':¬(i:Int)<a.length:=by omega
      by_cases g2:i<b.length
      · have T8:(i:Int)<b.length:=by omega
        repeat'(with_reducible first|simp(disch:=try exact ab) only[go_sem,seval,h0,h1,h5,h6,h7,lna,lnb,g1',T8,dA,dB,em,eq,jA]|(apply aj.i<;>intro hc))
        refine cO.wp (h0:=h) (b:=8) rfl hG hO rfl (by decide) (by omega) (by omega) fun v' h' G' O'=>?_
        repeat'(with_reducible first|simp(disch:=try exact ab) only[go_sem,seval,h0,h1,h5,h6,h7,eq]|(apply aj.i<;>intro hc))
        obtain⟨m',EV,i',c',fg,v'',e1,e2,rfl,r⟩:=body (.inr (.inl g2)) v' h' G' O';subst e2;exact⟨m',EV,i',_,fg,rfl,by rw[e1],r⟩
      · have T8:¬(i:Int)<b.length:=by omega
        by_cases g3:0<c
        · have g3':(0:Int)<c:=by omega
          repeat'(with_reducible first|simp(disch:=try exact ab) only[go_sem,seval,h0,h1,h5,h6,h7,lna,lnb,g1',T8,g3',dA,dB,em,eq,jA]|(apply aj.i<;>intro hc))
          refine cO.wp (h0:=h) (b:=8) rfl hG hO rfl (by decide) (by omega) (by omega) fun v' h' G' O'=>?_
          repeat'(with_reducible first|simp(disch:=try exact ab) only[go_sem,seval,h0,h1,h5,h6,h7,eq]|(apply aj.i<;>intro hc))
          obtain⟨m',EV,i',c',fg,v'',e1,e2,rfl,r⟩:=body (.inr (.inr g3)) v' h' G' O';subst e2;exact⟨m',EV,i',_,fg,rfl,by rw[e1],r⟩
        · have g3':¬(0:Int)<c:=by omega
          repeat'(with_reducible first|simp(disch:=try exact ab) only[go_sem,seval,h0,h1,h5,h6,h7,lna,lnb,g1',T8,g3']|(apply aj.i<;>intro hc))
          refine⟨⟨out,hO.sq hlo,hd,by omega,?_⟩,hG⟩;obtain rfl:c=0:=by omega
          rw[fW,aY,aP (by omega),aP (by omega)]at hinv;exact hinv
end
end
end Go.Ae
namespace Go.Ae
open Bg
noncomputable section
theorem yT {P Q Bj B V V' V0 Y x y o c c' r:Nat}(h:V+Q*c=V0+P*(x*Y))(hQ:Q=P*Bj)(hr:r+B*c'=x*y+o+c)(hV:V'+Q*o=V+Q*r):
  V'+Q*B*c'=V0+P*(x*(Y+Bj*y)):=by
 have e1:Q*(r+B*c')=Q*(x*y+o+c):=by rw[hr]
 rw[ay,ay,ay,←aF]at e1
 have e2:P*(x*(Y+Bj*y))=P*(x*Y)+Q*(x*y):=by
  rw[hQ,ay,ay];congr 1;ac_rfl
 omega
theorem DT {p o c:Nat}(hp:p≤18446744073709551615*18446744073709551615)(ho:o<18446744073709551616)(hc:c<18446744073709551616):
  (p/18446744073709551616+(p%18446744073709551616+o)/18446744073709551616)+((p%18446744073709551616+o)%18446744073709551616+c)/18446744073709551616<18446744073709551616∧((p%18446744073709551616+o)%18446744073709551616+c)%18446744073709551616+18446744073709551616*((p/18446744073709551616+(p%18446744073709551616+o)/18446744073709551616)+((p%18446744073709551616+o)%18446744073709551616+c)/18446744073709551616)=p+o+c:=by
 omega
section
variable {h:Hp}{K:AV→Hp→Prop}
theorem WU {va vb:AV}{a b:List Nat}(ha:Sq .u64 h va a)(hb:Sq .u64 h vb b)(da:Dg 18446744073709551616 a)(db:Dg 18446744073709551616 b)(hla:a.length≤1000000)(hlb:b.length≤1000000):
  Gp E2 263 [va,vb] h fun v h'=>∃l,Sq .u64 h' v l∧Dg 18446744073709551616 l∧Norm l∧vl 18446744073709551616 l=vl 18446744073709551616 a*vl 18446744073709551616 b:=by
 refine Gp.of (ac.fn (fn:=C.K0) rfl rfl rfl ?_);unfold C.K0;have la:=ha.rd.len;have lb:=hb.rd.len;have mk:=fun{h:Hp} {K:AV→Hp→Prop}=>mU.JZ (h:=h) (K:=K) (b:=8) (z:= .int .u64 0) (m:=(a.length:Int)+b.length) (a.length+b.length) (by omega) rfl (by omega)
 repeat'(with_reducible first|simp(disch:=try exact ab) only[go_sem,seval,la,lb,mk]|(apply aj.i<;>intro hc))
 have hz:(av (a.length+b.length) (AV.int .u64 0))=(av (a.length+b.length) 0).map (wd .u64):=by rw[gC];rfl
 rw[hz]
 refine Wp.bW (fun m s=>∃(i:Nat) (out:List Nat),val s.tm (.t 1)=vb∧val s.tm (.t 5)= .sl h.next 0 (a.length+b.length) 1∧val s.tm (.t 20)=va∧val s.tm (.t 21)= .int .i64 a.length∧val s.tm (.t 22)= .int .i64 i∧
  aH h s.hp∧bG s.hp h.next (out.map (wd .u64))∧out.length=a.length+b.length∧Dg 18446744073709551616 out∧i≤a.length∧
  vl 18446744073709551616 out=vl 18446744073709551616 (a.take i)*vl 18446744073709551616 b∧(∀k,i+b.length≤k→out.getD k 0=0)∧m=a.length-i) (n:=a.length) ?_ ?_
 ·refine⟨0,av (a.length+b.length) 0,aS,aS,aS,aS,by(simp(disch:=try exact ab) only[go_sem,seval])<;>rfl,?_,?_,by simp,Dg.oV (by decide) _,by omega,by simp[vl,nc],?_,rfl⟩
  ·exact aL
  ·exact bG.push
  ·intro k _;simp only[bQ,List.getElem?_replicate];split<;>rfl
 ·rintro m ⟨tm,hp⟩ ⟨i,out,h1,h5,MS,Kj,Ki,hG,hAt,hlo,hd,hle,hinv,hzero,rfl⟩;simp only at h1 h5 MS Kj Ki hG hAt;by_cases hlt:i<a.length
  ·have hlt':(i:Int)<a.length:=by omega
   have ra:=(ha.aO hG).rd;have ada:=ra.jn;have lda:=ra.load i hlt;have lb:=(hb.aO hG).rd.len;have hxd:=Dg.getD (B:=18446744073709551616) (by decide) da i;have tka:=bg (B:=18446744073709551616) hlt;generalize a.getD i 0=xi at *
   obtain⟨UB,T6,hs0,hn0⟩:=id hAt;repeat'(with_reducible first|simp(disch:=try exact ab) only[go_sem,seval,h1,h5,MS,Kj,Ki,hlt',ada,lda,lb]|(apply aj.i<;>intro hc))
   refine Wp.bW (fun m s=>∃(j c:Nat) (fg:List Nat),val s.tm (.t 1)=vb∧val s.tm (.t 5)= .sl h.next 0 (a.length+b.length) 1∧val s.tm (.t 20)=va∧val s.tm (.t 21)= .int .i64 a.length∧val s.tm (.t 22)= .int .i64 i∧
    val s.tm (.t 6)= .int .i64 i∧val s.tm (.t 7)= .int .u64 xi∧val s.tm (.t 8)= .int .u64 c∧val s.tm (.t 27)=vb∧val s.tm (.t 28)= .int .i64 b.length∧val s.tm (.t 29)= .int .i64 j∧
    aH h s.hp∧bG s.hp h.next (fg.map (wd .u64))∧fg.length=a.length+b.length∧Dg 18446744073709551616 fg∧j≤b.length∧c<18446744073709551616∧
    vl 18446744073709551616 fg+18446744073709551616^(i+j)*c=vl 18446744073709551616 out+18446744073709551616^i*(xi*vl 18446744073709551616 (b.take j))∧(∀k,i+b.length≤k→fg.getD k 0=0)∧m=b.length-j) (n:=b.length) ?_ ?_
   ·exact⟨0,0,out,by simp(disch:=try exact ab) only[go_sem,seval,h1],by simp(disch:=try exact ab) only[go_sem,seval,h5],by simp(disch:=try exact ab) only[go_sem,seval,MS],by simp(disch:=try exact ab) only[go_sem,seval,Kj],by simp(disch:=try exact ab) only[go_sem,seval,Ki],aS,aS,by(simp(disch:=try exact ab) only[go_sem,seval])<;>rfl,aS,aS,by(simp(disch:=try exact ab) only[go_sem,seval])<;>rfl,hG,hAt,hlo,hd,aJ _,by decide,by simp[vl],hzero,rfl⟩
   ·rintro m ⟨fI,hq⟩ ⟨j,c,fg,k1,k5,Re,Ra,Q9,k6,k7,k8,Vo,Vn,Vm,zl,⟨st,hgo,Ow,hnx⟩,Hq,mZ,pC,hc,zg,nC,rfl⟩;simp only at k1 k5 Re Ra Q9 k6 k7 k8 Vo Vn Vm zl hgo Ow hnx;by_cases OB:j<b.length
    ·have By:(j:Int)<b.length:=by omega
     have rb:=(hb.aO zl).rd;have adb:=rb.jn;have ldb:=rb.load j OB;have uO:=Dg.getD (B:=18446744073709551616) (by decide) db j;have tkb:=bg (B:=18446744073709551616) OB;generalize b.getD j 0=yj at *
     have hij:(((i:Int)+j)).toNat=i+j:=by omega
     have sD:i+j+1≤fg.length:=by omega
     have TY:(fg.map (wd .u64))[i+j]?=some (.int .u64 (fg.getD (i+j) 0:Nat)):=jx (by omega);have mr:∀r:Nat,fH (i+j) (fg.map (wd .u64))++ .int .u64 (r:Int)::gJ (i+j+1) (fg.map (wd .u64))=(fg.set (i+j) r).map (wd .u64):=fun r=>iX (by omega)
     have ZW:=Dg.getD (B:=18446744073709551616) (by decide) mZ (i+j);have DZ:=fun r=>pk (B:=18446744073709551616) (l:=fg) (i:=i+j) (x:=r) (by omega)
     generalize hoj:fg.getD (i+j) 0=oj at *
     have hpp:xi*yj≤18446744073709551615*18446744073709551615:=fG (by omega) (by omega);obtain⟨c1,c2⟩:=DT hpp ZW hc
     have w1:IntKind.wrap .u64 (((xi*yj/18446744073709551616:Nat):Int)+((xi*yj%18446744073709551616+oj)/18446744073709551616:Nat))=((xi*yj/18446744073709551616+(xi*yj%18446744073709551616+oj)/18446744073709551616:Nat):Int):=by
      rw[←xX,wrap_u64 (by omega)]
     have w2:IntKind.wrap .u64 (((xi*yj/18446744073709551616+(xi*yj%18446744073709551616+oj)/18446744073709551616:Nat):Int)+(((xi*yj%18446744073709551616+oj)%18446744073709551616+c)/18446744073709551616:Nat))=(((xi*yj/18446744073709551616+(xi*yj%18446744073709551616+oj)/18446744073709551616)+((xi*yj%18446744073709551616+oj)%18446744073709551616+c)/18446744073709551616:Nat):Int):=by
      rw[←xX,wrap_u64 (by omega)]
     repeat'(with_reducible first|simp(disch:=try exact ab) only[go_sem,seval,k1,k5,Re,Ra,Q9,k6,k7,k8,Vo,Vn,Vm,By,adb,ldb,sj,uu,hij,hgo,sD,TY,mr,w1,w2]|(apply aj.i<;>intro hc))
     refine⟨_,?_,j+1,(xi*yj/18446744073709551616+(xi*yj%18446744073709551616+oj)/18446744073709551616)+((xi*yj%18446744073709551616+oj)%18446744073709551616+c)/18446744073709551616,fg.set (i+j) (((xi*yj%18446744073709551616+oj)%18446744073709551616+c)%18446744073709551616),by simp,rfl,?_,?_,?_,?_,OB,c1,?_,?_,rfl⟩
     ·omega
     ·exact aH.put zl (ae _)
     ·exact bG.put hnx
     ·simpa using Hq
     ·exact mZ.set _ (bq _ (by decide))
     ·rw[←dz,aV,tkb];exact yT zg (by rw[dm]) c2 (DZ _)
     ·intro k hk;rw[Bg.getD_set_ne (show i+j≠k by omega)];exact nC k hk
    ·have By:¬(j:Int)<b.length:=by omega
     obtain rfl:j=b.length:=by omega
     have lb:=(hb.aO zl).rd.len;have hij:(((i:Int)+b.length)).toNat=i+b.length:=by omega
     have sD:i+b.length+1≤fg.length:=by omega
     have mr:fH (i+b.length) (fg.map (wd .u64))++ .int .u64 (c:Int)::gJ (i+b.length+1) (fg.map (wd .u64))=(fg.set (i+b.length) c).map (wd .u64):=iX (by omega);repeat'(with_reducible first|simp(disch:=try exact ab) only[go_sem,seval,k1,k5,Re,Ra,Q9,k6,k7,k8,Vo,Vn,Vm,By,lb,hij,hgo,sD,mr]|(apply aj.i<;>intro hc))
     refine⟨_,?_,i+1,fg.set (i+b.length) c,rfl,?_,?_,?_,?_,hlt,?_,?_,rfl⟩
     ·omega
     ·exact aH.put zl (ae _)
     ·exact bG.put hnx
     ·simpa using Hq
     ·exact mZ.set _ hc
     ·have e:=pk (B:=18446744073709551616) (l:=fg) (i:=i+b.length) (x:=c) (by omega);rw[nC _ (ae _),fW,aY]at e;rw[e,zg,hinv,tka,bj,bh,aF]
     ·intro k hk;rw[Bg.getD_set_ne (show i+b.length≠k by omega)];exact nC k (by omega)
  ·have hlt':¬(i:Int)<a.length:=by omega
   obtain rfl:i=a.length:=by omega
   repeat'(with_reducible first|simp(disch:=try exact ab) only[go_sem,seval,h1,h5,MS,Kj,Ki,hlt']|(apply aj.i<;>intro hc))
   refine Gp.wp (zn (hAt.sq hlo) (by omega)) fun v h' k j g hv=>?_
   repeat'(with_reducible first|simp(disch:=try exact ab) only[go_sem,seval]|(apply aj.i<;>intro hc))
   refine⟨⟨_,hv,hd.trim,eJ _,?_⟩,?_⟩
   ·rw[fQ,hinv,bj]
   ·exact aH.ov hG
end
end
end Go.Ae
namespace Go.Ae.Bg
structure AB (b v1 v0 U u q r:Nat):Prop where
 rest:U=q*v1+r
 ge:(U*b+u)/(v1*b+v0)≤q
variable {b v1 v0 U u q r:Nat}
theorem AB.done (e:AB b v1 v0 U u q r)(hv:0<v1*b+v0)(h:q*v0≤b*r+u):q=(U*b+u)/(v1*b+v0):=by
 refine Nat.le_antisymm ?_ e.ge;rw[Nat.le_div_iff_mul_le hv];have e1:q*(v1*b+v0)=q*v1*b+q*v0:=by rw[ay,aF]
 have e2:U*b=q*v1*b+r*b:=by rw[e.rest,bh]
 have e3:b*r=r*b:=aA _ _;omega
theorem AB.down (e:AB b v1 v0 U u q r)(hv:0<v1*b+v0)(h:b*r+u<q*v0):1≤q∧AB b v1 v0 U u (q-1) (r+v1):=by
 have hq:1≤q:=by
  rcases aE q with h0|h0
  ·subst h0;simp at h
  ·exact h0
 obtain⟨p,rfl⟩:∃p,q=p+1:=⟨q-1,by omega⟩
 refine⟨hq,?_,?_⟩
 ·have:=e.rest;rw[bh]at this;rw[gS];omega
 ·rw[gS]
  have:(U*b+u)/(v1*b+v0)<p+1:=by
   rw[df hv];have e1:(p+1)*(v1*b+v0)=(p+1)*v1*b+(p+1)*v0:=by rw[ay,aF]
   have e2:U*b=(p+1)*v1*b+r*b:=by rw[e.rest,bh]
   have e3:b*r=r*b:=aA _ _;omega
  omega
theorem AB.M0 (e:AB b v1 v0 U u q r)(hb:0<b)(hQ:(U*b+u)/(v1*b+v0)<b)(hq:b≤q):1≤q∧AB b v1 v0 U u (q-1) (r+v1):=by
 obtain⟨p,rfl⟩:∃p,q=p+1:=⟨q-1,by omega⟩
 refine⟨by omega,?_,by omega⟩;have:=e.rest;rw[bh]at this;rw[gS];omega
theorem AB.first (hv1:0<v1)(hb:0<b)(hu:u<b):AB b v1 v0 U u (U/v1) (U%v1):=by
 refine⟨by rw[aA];exact(cE U v1).symm,?_⟩;have hv:0<v1*b+v0:=by have:=eY hv1 hb;omega
 have h1:(U*b+u)/(v1*b+v0)≤(U*b+u)/(v1*b):=Nat.div_le_div_left (by omega) (eY hv1 hb)
 have h2:(U*b+u)/(v1*b)=U/v1:=by
  rw[aA v1 b,←Nat.div_div_eq_div_mul];congr 1;rw[aA,mV hb,iS hu,aY]
 omega
theorem AB.tT (e:AB b v1 v0 U u q r)(xR:v0<b)(hU:U<v1*b+v0)(hr:b≤r):q<b∧q*v0≤b*r+u:=by
 have hq:q<b:=by
  rcases aQ q b with c|c
  ·exact c
  ·have h1:b*v1≤q*v1:=aM _ c;have:=e.rest;rw[aA v1 b]at hU;omega
 refine⟨hq,?_⟩;have h1:q*v0≤b*b:=fG (by omega) (by omega);have h2:b*b≤b*r:=aD _ hr;omega
theorem NS (hb:0<b)(hu:u<b)(hU:U<v1*b+v0):(U*b+u)/(v1*b+v0)<b:=by
 rw[df (by omega),aA b];have:(U+1)*b≤(v1*b+v0)*b:=aM _ (by omega);rw[bh]at this;omega
end Go.Ae.Bg
namespace Go.Ae
open Bg
noncomputable section
theorem FC (n:Nat):((2:Int)^n)=((2^n:Nat):Int):=by rw[Int.natCast_pow];rfl
theorem uy {q:mO}{k':IntKind}{m n:Nat}(hn:n≤64):dH .shl q (.int .u64 m) (.int k' n)=some (.int .u64 ((m*2^n%18446744073709551616:Nat):Int)):=by
 have hb:IntKind.bits .u64=64:=rfl;simp only[dH,mS];rw[if_neg (by omega),gD,hb,cD hn,FC,←ce,IntKind.wrap_u64];congr 2
theorem sK {q:mO}{k':IntKind}{m n:Nat}(hn:n≤64):dH .shr q (.int .u64 m) (.int k' n)=some (.int .u64 ((m/2^n:Nat):Int)):=ux (k:= .u64) hn
theorem Is {q:mO}{k:IntKind}{m n:Int}:dH .or q (.int k m) (.int k n)=some (.int k (k.wrap (BitVec.ofInt k.bits m|||BitVec.ofInt k.bits n).toNat)):=by
 simp[dH,mS,ki,fx,wm]
theorem Nc {q:mO}{a b c n:Nat}(ha:a=c*2^n)(hb:b<2^n)(hs:a+b<18446744073709551616):dH .or q (.int .u64 a) (.int .u64 b)=some (.int .u64 ((a+b:Nat):Int)):=by
 rw[Is];congr 2
 have e:(BitVec.ofInt 64 (a:Int)|||BitVec.ofInt 64 b).toNat=a+b:=by
  rw[BitVec.toNat_or];simp only[BitVec.toNat_ofInt];have e1:((a:Int)%(2^64:Nat)).toNat=a:=by omega
  have e2:((b:Int)%(2^64:Nat)).toNat=b:=by omega
  rw[e1,e2,ha,←Nat.shiftLeft_eq,←Nat.shiftLeft_add_eq_or_of_lt hb]
 show IntKind.wrap .u64 (((BitVec.ofInt 64 (a:Int)|||BitVec.ofInt 64 b).toNat:Nat):Int)=_
 rw[e,wrap_u64 (by omega)]
def lz (x:Nat):Nat:=64-bitLen x
theorem Ez {x:Nat}(h:0<x):2^(bitLen x-1)≤x∧1≤bitLen x:=by
 unfold bitLen;rw[if_neg (by omega)];exact⟨(Nat.le_log2 (by omega)).1 (by omega),by omega⟩
theorem xc {x:Nat}(h0:0<x)(hx:x<18446744073709551616):lz x≤63∧9223372036854775808≤x*2^lz x∧x*2^lz x<18446744073709551616∧0<2^lz x:=by
 obtain⟨h1,h2⟩:=Ez h0;have h3:bitLen x≤64:=lQ (k:=64) hx;have h4:x<2^bitLen x:=bitLen_le (ae _);have hp:0<2^lz x:=dp (by decide);unfold lz at *;refine⟨by omega,?_,?_,hp⟩
 ·have:=aM (2^(64-bitLen x)) h1;rw[←dm,show bitLen x-1+(64-bitLen x)=63 by omega]at this;exact this
 ·have:=Nat.mul_lt_mul_of_pos_right h4 hp;rw[←dm,show bitLen x+(64-bitLen x)=64 by omega]at this;exact this
theorem Kr {U b u1 u0 Y:Nat}(hY:0<Y):((U*b+u1)*b+u0)/Y=(U*b+u1)/Y*b+((U*b+u1)%Y*b+u0)/Y∧((U*b+u1)*b+u0)%Y=((U*b+u1)%Y*b+u0)%Y:=by
 have e:(U*b+u1)*b+u0=Y*((U*b+u1)/Y*b)+((U*b+u1)%Y*b+u0):=by
  have:=cE (U*b+u1) Y
  conv=>lhs;rw[←this]
  rw[bh,aF];omega
 refine⟨?_,?_⟩
 ·conv=>lhs;rw[e,mV hY]
 ·conv=>lhs;rw[e,Nat.mul_add_mod]
theorem Ju {hi lo s:Nat}(hs:s≤64):(hi*2^s+lo/2^(64-s))*18446744073709551616+lo*2^s%18446744073709551616=(hi*18446744073709551616+lo)*2^s:=by
 have hB:2^(64-s)*2^s=18446744073709551616:=by rw[←dm,bT hs]
 have h1:lo/2^(64-s)=lo*2^s/18446744073709551616:=by
  rw[←hB,uK _ _ (dp (by decide))]
 have h3:hi*2^s*18446744073709551616=hi*18446744073709551616*2^s:=by ac_rfl
 rw[h1,bh,bh,h3,dz,Nat.div_add_mod']
theorem Js {U u:Nat}:U*18446744073709551616+u=(U*4294967296+u/4294967296)*4294967296+u%4294967296:=by omega
theorem O9 {a b:Nat}:((a*4294967296+b:Nat):Int)=(a:Int)*4294967296+b:=by omega
theorem Ma {R u q Y rem:Nat}(h:q*Y+rem=R*4294967296+u)(hr:rem<18446744073709551616):
  IntKind.wrap .u64 (IntKind.wrap .u64 (IntKind.wrap .u64 ((R:Int)*4294967296)+u)-IntKind.wrap .u64 ((q:Int)*Y))=(rem:Nat):=by
 rw[←ce];generalize q*Y=X at *
 simp only[IntKind.wrap_u64];omega
theorem L8 {U q v r:Nat}(h:q*v+r=U)(hU:U<18446744073709551616):IntKind.wrap .u64 ((U:Int)-IntKind.wrap .u64 ((q:Int)*v))=(r:Nat):=by
 rw[←ce];generalize q*v=X at *
 simp only[IntKind.wrap_u64];omega
section
variable {h:Hp}{K:AV→Hp→Prop}
theorem Sx {x:Nat}(hx:x<18446744073709551616):ac E2 301 [.int .u64 x] h K↔K (.int .i64 (lz x:Nat)) h:=by
 refine ac.cZ (ac.fn (fn:=C.KU) rfl rfl rfl ?_);unfold C.KU;have h3:bitLen x≤64:=lQ (k:=64) hx;have e:(64:Int)-(bitLen x:Nat)=(lz x:Nat):=by unfold lz;omega
 repeat'(with_reducible first|simp(disch:=try exact ab) only[go_sem,seval,SC,e]|(apply aj.i<;>intro hc))
theorem OX {tm:T AV}{q1 q0 R u0 Y s rm:Nat}(h2:val tm (.t 2)= .int .u64 Y)(h8:val tm (.t 8)= .int .u64 s)(h14:val tm (.t 14)= .int .u64 u0)(IS:val tm (.t 15)= .int .u64 q1)(RR:val tm (.t 17)= .int .u64 R)(h18:val tm (.t 18)= .int .u64 q0)
  (hs:s≤63) (MK:q1<4294967296) (hq0:q0<4294967296) (IQ:q0*Y+rm=R*4294967296+u0) (hr:rm<18446744073709551616):
  Wp E2 ((C.sk.code.post 15).post 4) ⟨tm,h⟩ (gy [.tmp 6,.tmp 7] fun v h'=>v= .fO [.int .u64 ((q1:Int)*4294967296+q0),.int .u64 (rm/2^s:Nat)]∧h'=h):=by
 unfold C.sk;dsimp only[au.post];have e2:=Ma IQ hr;repeat'(with_reducible first|simp(disch:=try exact ab) only[go_sem,seval,h2,h8,h14,IS,RR,h18,e2,sK]|(apply aj.i<;>intro hc))
theorem HV {v1 v0 Y U u Q R':Nat}(hv1:0<v1)(hY:Y=v1*4294967296+v0)(hu:u<4294967296)(hU:U<Y)(hm:R'<Y)(hd:Q*Y+R'=U*4294967296+u):
  AB 4294967296 v1 v0 U u (U/v1) (U%v1)∧Q<4294967296∧(U*4294967296+u)/(v1*4294967296+v0)=Q:=by
 have e:(U*4294967296+u)/(v1*4294967296+v0)=Q:=by
  rw[←hY,←hd,aA,mV (by omega),iS hm,aY]
 refine⟨AB.first hv1 (by decide) hu,?_,e⟩;rw[←e];exact NS (by decide) hu (by omega)
theorem OY {tm:T AV}{q1 q0 U R u1 u0 Y s rm v1 v0:Nat}(h2:val tm (.t 2)= .int .u64 Y)(h8:val tm (.t 8)= .int .u64 s)(h9:val tm (.t 9)= .int .u64 v1)(h10:val tm (.t 10)= .int .u64 v0)(h11:val tm (.t 11)= .int .u64 U)(h13:val tm (.t 13)= .int .u64 u1)(h14:val tm (.t 14)= .int .u64 u0)(IS:val tm (.t 15)= .int .u64 q1)
  (hs:s≤63) (hv1:0<v1) (Rm:v1<4294967296) (xR:v0<4294967296) (hY:Y=v1*4294967296+v0) (TU:u0<4294967296) (hql:q1<4294967296) (hRl:R<Y) (uZ:q1*Y+R=U*4294967296+u1) (IQ:rm<Y) (zi:q0*Y+rm=R*4294967296+u0):
  Wp E2 (C.sk.code.post 15) ⟨tm,h⟩ (gy [.tmp 6,.tmp 7] fun v h'=>v= .fO [.int .u64 ((q1:Int)*4294967296+q0),.int .u64 (rm/2^s:Nat)]∧h'=h):=by
 obtain⟨hE,VS,Oy⟩:=HV hv1 hY TU hRl IQ zi;have tail:=fun tm hh2 Wl OE OD Wo Wm=>OX (h:=h) (tm:=tm) (q1:=q1) (q0:=q0) (R:=R) (u0:=u0) (Y:=Y) (s:=s) (rm:=rm) hh2 Wl OE OD Wo Wm hs hql VS zi (by omega)
 refine Wp.cut 4 rfl ?_;generalize au.post 4 (au.post 15 C.sk.code)=r at tail⊢
 unfold C.sk;dsimp only[au.post,au.pre];have e1:=Ma uZ (by omega);have e4:=L8 (U:=R) (q:=R/v1) (v:=v1) (r:=R%v1) (by rw[aA];exact cE _ _) (by omega);have e5:=jp R v1;have e6:R%v1<v1:=bq _ hv1;have VJ:0<(v1:Int):=by omega
 have e3:((R:Int)/v1)=((R/v1:Nat):Int):=rfl;obtain⟨Q0,hQ0⟩:∃Q0,Q0=R/v1:=⟨_,rfl⟩
 obtain⟨R0,hR0⟩:∃R0,R0=R%v1:=⟨_,rfl⟩
 rw[←hQ0]at e3 e4 e5 hE;rw[←hR0]at e4 e6 hE;have e7:IntKind.wrap .u64 (Q0:Int)=Q0:=wrap_u64 (by omega);repeat'(with_reducible first|simp(disch:=try exact ab) only[go_sem,seval,h2,h8,h9,h10,h11,h13,h14,IS,e1,e3,e4,e7,nN]|(apply aj.i<;>intro hc))
 refine Wp.bW (fun m s'=>∃q r':Nat,val s'.tm (.t 2)= .int .u64 Y∧val s'.tm (.t 8)= .int .u64 s∧val s'.tm (.t 9)= .int .u64 v1∧val s'.tm (.t 10)= .int .u64 v0∧val s'.tm (.t 14)= .int .u64 u0∧val s'.tm (.t 15)= .int .u64 q1∧val s'.tm (.t 17)= .int .u64 R∧val s'.tm (.t 18)= .int .u64 q∧val s'.tm (.t 16)= .int .u64 r'∧
  s'.hp=h∧AB 4294967296 v1 v0 R u0 q r'∧q<18446744073709551616∧r'<4294967296∧q=m) (n:=Q0) ?_ ?_
 ·exact⟨Q0,R0,by simp(disch:=try exact ab) only[go_sem,seval,h2],by simp(disch:=try exact ab) only[go_sem,seval,h8],by simp(disch:=try exact ab) only[go_sem,seval,h9],by simp(disch:=try exact ab) only[go_sem,seval,h10],by simp(disch:=try exact ab) only[go_sem,seval,h14],by simp(disch:=try exact ab) only[go_sem,seval,IS],aS,aS,aS,rfl,hE,by omega,by omega,rfl⟩
 ·rintro m ⟨fI,hp⟩ ⟨q,r',k2,k8,k9,k10,eQ,xP,JY,IP,Bk,rfl,hEst,hqB,hr',rfl⟩;simp only at k2 k8 k9 k10 eQ xP JY IP Bk
  have w2:IntKind.wrap .u64 (IntKind.wrap .u64 (4294967296*(r':Int))+u0)=((4294967296*r'+u0:Nat):Int):=by
   simp only[IntKind.wrap_u64];omega
  have sa:IntKind.wrap .u64 ((r':Int)+v1)=((r'+v1:Nat):Int):=by simp only[IntKind.wrap_u64];omega
  have sw:1≤q→IntKind.wrap .u64 ((q:Int)-1)=((q-1:Nat):Int):=fun e=>by simp only[IntKind.wrap_u64];omega
  by_cases ze:(4294967296:Int)≤q
  ·obtain⟨HC,hEd⟩:=hEst.M0 (by omega) (by omega) (by omega);by_cases hrb:(4294967296:Int)≤((r'+v1:Nat):Int)
   ·have pD:=hEd.tT xR (by omega) (by omega);have nF:q-1=q0:=(hEd.done (by omega) pD.2).trans Oy;repeat'(with_reducible first|simp(disch:=try exact ab) only[go_sem,seval,k2,k8,k9,k10,eQ,xP,JY,IP,Bk,ze,sw HC,sa,hrb]|(apply aj.i<;>intro hc))
    rw[nF];exact tail _ (by simp(disch:=try exact ab) only[go_sem,seval,k2]) (by simp(disch:=try exact ab) only[go_sem,seval,k8]) (by simp(disch:=try exact ab) only[go_sem,seval,eQ]) (by simp(disch:=try exact ab) only[go_sem,seval,xP]) (by simp(disch:=try exact ab) only[go_sem,seval,JY]) aS
   ·repeat'(with_reducible first|simp(disch:=try exact ab) only[go_sem,seval,k2,k8,k9,k10,eQ,xP,JY,IP,Bk,ze,sw HC,sa,hrb]|(apply aj.i<;>intro hc))
    exact⟨q-1,by omega,q-1,r'+v1,rfl,rfl,hEd,by omega,by omega,rfl⟩
  ·have w1:IntKind.wrap .u64 ((q:Int)*v0)=((q*v0:Nat):Int):=by
    have:q*v0≤4294967295*4294967295:=fG (by omega) (by omega);rw[←ce,wrap_u64 ⟨jq _,by omega⟩]
   by_cases hc:((4294967296*r'+u0:Nat):Int)<((q*v0:Nat):Int)
   ·obtain⟨HC,hEd⟩:=hEst.down (by omega) (Ci.1 hc);by_cases hrb:(4294967296:Int)≤((r'+v1:Nat):Int)
    ·have pD:=hEd.tT xR (by omega) (by omega);have nF:q-1=q0:=(hEd.done (by omega) pD.2).trans Oy;repeat'(with_reducible first|simp(disch:=try exact ab) only[go_sem,seval,k2,k8,k9,k10,eQ,xP,JY,IP,Bk,ze,w1,w2,hc,sw HC,sa,hrb]|(apply aj.i<;>intro hc))
     rw[nF];exact tail _ (by simp(disch:=try exact ab) only[go_sem,seval,k2]) (by simp(disch:=try exact ab) only[go_sem,seval,k8]) (by simp(disch:=try exact ab) only[go_sem,seval,eQ]) (by simp(disch:=try exact ab) only[go_sem,seval,xP]) (by simp(disch:=try exact ab) only[go_sem,seval,JY]) aS
    ·repeat'(with_reducible first|simp(disch:=try exact ab) only[go_sem,seval,k2,k8,k9,k10,eQ,xP,JY,IP,Bk,ze,w1,w2,hc,sw HC,sa,hrb]|(apply aj.i<;>intro hc))
     exact⟨q-1,by omega,q-1,r'+v1,rfl,rfl,hEd,by omega,by omega,rfl⟩
   ·have nF:q=q0:=(hEst.done (by omega) (by have:=Int.not_lt.1 hc;exact nS.1 this)).trans Oy;repeat'(with_reducible first|simp(disch:=try exact ab) only[go_sem,seval,k2,k8,k9,k10,eQ,xP,JY,IP,Bk,ze,w1,w2,hc]|(apply aj.i<;>intro hc))
    rw[nF]at IP;exact tail _ (by simp(disch:=try exact ab) only[go_sem,seval,k2]) (by simp(disch:=try exact ab) only[go_sem,seval,k8]) (by simp(disch:=try exact ab) only[go_sem,seval,eQ]) (by simp(disch:=try exact ab) only[go_sem,seval,xP]) (by simp(disch:=try exact ab) only[go_sem,seval,JY]) (by simp(disch:=try exact ab) only[go_sem,seval,IP])
theorem OZ {y hi lo s hs2 lh u Y v1 v0 u1 u0 U q1 R q0 rm:Nat}(hpos:0<hi)(hy:y<18446744073709551616)(hh:hi<y)(hs:s≤63)
  (cl:lz y=s) (b1:y*2^s%18446744073709551616=Y) (b2:hi*2^s%18446744073709551616=hs2) (b3:lo*2^s%18446744073709551616=u) (b4:lo/2^(64-s)=lh)
  (hor:∀q,dH .or q (.int .u64 hs2) (.int .u64 lh)=some (.int .u64 (U:Nat)))
  (m1:Y/4294967296=v1) (m2:Y%4294967296=v0) (m3:u/4294967296=u1) (m4:u%4294967296=u0) (hYB:Y<18446744073709551616) (huB:u<18446744073709551616) (hv1:0<v1) (hUY:U<Y)
  (hRl:R<Y) (uZ:q1*Y+R=U*4294967296+u1) (IQ:rm<Y) (zi:q0*Y+rm=R*4294967296+u0):
  ac E2 300 [.int .u64 hi,.int .u64 lo,.int .u64 y] h fun v h'=>v= .fO [.int .u64 ((q1:Int)*4294967296+q0),.int .u64 (rm/2^s:Nat)]∧h'=h:=by
 refine ac.fn (fn:=C.sk) rfl rfl rfl ?_;have y0:¬(y:Int)=0:=by omega
 have y1:¬(y:Int)≤hi:=by omega
 have hYp:Y=v1*4294967296+v0:=by omega
 have Rm:v1<4294967296:=by omega
 have xR:v0<4294967296:=by omega
 have hu1:u1<4294967296:=by omega
 have TU:u0<4294967296:=by omega
 obtain⟨hE,VR,Oy⟩:=HV hv1 hYp hu1 hUY hRl uZ;have tail:=fun tm hh2 Wl hh9 Ws Wr Wq OE OD=>OY (h:=h) (tm:=tm) (q1:=q1) (q0:=q0) (R:=R) (rm:=rm) (U:=U) (u1:=u1) (u0:=u0) (Y:=Y) (s:=s) (v1:=v1) (v0:=v0) hh2 Wl hh9 Ws Wr Wq OE OD hs hv1 Rm xR hYp TU VR hRl uZ IQ zi
 have cl':∀{h:Hp} {K:AV→Hp→Prop},ac E2 301 [.int .u64 y] h K↔K (.int .i64 s) h:=fun{h K}=>by rw[Sx hy,cl]
 have cw:IntKind.wrap .u64 (s:Int)=s:=wrap_u64 (by omega);have s1:=fun q k'=>uy (q:=q) (k':=k') (m:=y) (n:=s) (by omega)
 have s2:=fun q k'=>uy (q:=q) (k':=k') (m:=hi) (n:=s) (by omega)
 have s3:=fun q k'=>uy (q:=q) (k':=k') (m:=lo) (n:=s) (by omega)
 have s4:=fun q k'=>sK (q:=q) (k':=k') (m:=lo) (n:=64-s) (by omega)
 rw[b1]at s1;rw[b2]at s2;rw[b3]at s3;rw[b4]at s4;have n1:=fun q=>uB (q:=q) (a:=Y) (by omega)
 have n2:=fun q=>uB (q:=q) (a:=u) (by omega)
 have n3:=fun q=>jc (q:=q) (a:=Y)
 have n4:=fun q=>jc (q:=q) (a:=u)
 rw[m2]at n1;rw[m4]at n2;rw[m1]at n3;rw[m3]at n4;have e64:(64:Int)-s=((64-s:Nat):Int):=by omega
 have e4:=L8 (U:=U) (q:=U/v1) (v:=v1) (r:=U%v1) (by rw[aA];exact cE _ _) (by omega);have e5:=jp U v1;have e6:U%v1<v1:=bq _ hv1;have VJ:0<(v1:Int):=by omega
 have e3:((U:Int)/v1)=((U/v1:Nat):Int):=rfl;obtain⟨Q0,hQ0⟩:∃Q0,Q0=U/v1:=⟨_,rfl⟩
 obtain⟨R0,hR0⟩:∃R0,R0=U%v1:=⟨_,rfl⟩
 rw[←hQ0]at e3 e4 e5 hE;rw[←hR0]at e4 e6 hE;have e7:IntKind.wrap .u64 (Q0:Int)=Q0:=wrap_u64 (by omega);have OC:¬(hi:Int)=0:=by omega
 clear b1 b2 b3 b4 m1 m2 m3 m4;refine Wp.cut 15 rfl ?_;generalize au.post 15 C.sk.code=r at tail⊢
 unfold C.sk;dsimp only[au.pre];repeat'(with_reducible first|simp(disch:=try exact ab) only[go_sem,seval,y0,y1,OC,cl',cw,s1,s2,s3,e64,s4,hor,n1,n2,n3,n4,e3,e4,e7,nN]|(apply aj.i<;>intro hc))
 refine Wp.bW (fun m s'=>∃q r':Nat,val s'.tm (.t 2)= .int .u64 Y∧val s'.tm (.t 8)= .int .u64 s∧val s'.tm (.t 9)= .int .u64 v1∧val s'.tm (.t 10)= .int .u64 v0∧val s'.tm (.t 11)= .int .u64 U∧val s'.tm (.t 13)= .int .u64 u1∧val s'.tm (.t 14)= .int .u64 u0∧val s'.tm (.t 15)= .int .u64 q∧val s'.tm (.t 16)= .int .u64 r'∧
  s'.hp=h∧AB 4294967296 v1 v0 U u1 q r'∧q<18446744073709551616∧r'<4294967296∧q=m) (n:=Q0) ?_ ?_
 ·exact⟨Q0,R0,aS,aS,aS,aS,aS,aS,aS,aS,aS,rfl,hE,by omega,by omega,rfl⟩
 ·rintro m ⟨fI,hp⟩ ⟨q,r',k2,k8,k9,k10,k11,gk,eQ,xP,Bk,rfl,hEst,hqB,hr',rfl⟩;simp only at k2 k8 k9 k10 k11 gk eQ xP Bk
  have w2:IntKind.wrap .u64 (IntKind.wrap .u64 (4294967296*(r':Int))+u1)=((4294967296*r'+u1:Nat):Int):=by
   simp only[IntKind.wrap_u64];omega
  have sa:IntKind.wrap .u64 ((r':Int)+v1)=((r'+v1:Nat):Int):=by simp only[IntKind.wrap_u64];omega
  have sw:1≤q→IntKind.wrap .u64 ((q:Int)-1)=((q-1:Nat):Int):=fun e=>by simp only[IntKind.wrap_u64];omega
  by_cases ze:(4294967296:Int)≤q
  ·obtain⟨HC,hEd⟩:=hEst.M0 (by omega) (by omega) (by omega);by_cases hrb:(4294967296:Int)≤((r'+v1:Nat):Int)
   ·have pD:=hEd.tT xR (by omega) (by omega);have nF:q-1=q1:=(hEd.done (by omega) pD.2).trans Oy;repeat'(with_reducible first|simp(disch:=try exact ab) only[go_sem,seval,k2,k8,k9,k10,k11,gk,eQ,xP,Bk,ze,sw HC,sa,hrb]|(apply aj.i<;>intro hc))
    rw[nF];exact tail _ (by simp(disch:=try exact ab) only[go_sem,seval,k2]) (by simp(disch:=try exact ab) only[go_sem,seval,k8]) (by simp(disch:=try exact ab) only[go_sem,seval,k9]) (by simp(disch:=try exact ab) only[go_sem,seval,k10]) (by simp(disch:=try exact ab) only[go_sem,seval,k11]) (by simp(disch:=try exact ab) only[go_sem,seval,gk]) (by simp(disch:=try exact ab) only[go_sem,seval,eQ]) aS
   ·repeat'(with_reducible first|simp(disch:=try exact ab) only[go_sem,seval,k2,k8,k9,k10,k11,gk,eQ,xP,Bk,ze,sw HC,sa,hrb]|(apply aj.i<;>intro hc))
    exact⟨q-1,by omega,q-1,r'+v1,rfl,rfl,hEd,by omega,by omega,rfl⟩
  ·have w1:IntKind.wrap .u64 ((q:Int)*v0)=((q*v0:Nat):Int):=by
    have:q*v0≤4294967295*4294967295:=fG (by omega) (by omega);rw[←ce,wrap_u64 ⟨jq _,by omega⟩]
   by_cases hc:((4294967296*r'+u1:Nat):Int)<((q*v0:Nat):Int)
   ·obtain⟨HC,hEd⟩:=hEst.down (by omega) (Ci.1 hc);by_cases hrb:(4294967296:Int)≤((r'+v1:Nat):Int)
    ·have pD:=hEd.tT xR (by omega) (by omega);have nF:q-1=q1:=(hEd.done (by omega) pD.2).trans Oy;repeat'(with_reducible first|simp(disch:=try exact ab) only[go_sem,seval,k2,k8,k9,k10,k11,gk,eQ,xP,Bk,ze,w1,w2,hc,sw HC,sa,hrb]|(apply aj.i<;>intro hc))
     rw[nF];exact tail _ (by simp(disch:=try exact ab) only[go_sem,seval,k2]) (by simp(disch:=try exact ab) only[go_sem,seval,k8]) (by simp(disch:=try exact ab) only[go_sem,seval,k9]) (by simp(disch:=try exact ab) only[go_sem,seval,k10]) (by simp(disch:=try exact ab) only[go_sem,seval,k11]) (by simp(disch:=try exact ab) only[go_sem,seval,gk]) (by simp(disch:=try exact ab) only[go_sem,seval,eQ]) aS
    ·repeat'(with_reducible first|simp(disch:=try exact ab) only[go_sem,seval,k2,k8,k9,k10,k11,gk,eQ,xP,Bk,ze,w1,w2,hc,sw HC,sa,hrb]|(apply aj.i<;>intro hc))
     exact⟨q-1,by omega,q-1,r'+v1,rfl,rfl,hEd,by omega,by omega,rfl⟩
   ·have nF:q=q1:=(hEst.done (by omega) (by have:=Int.not_lt.1 hc;exact nS.1 this)).trans Oy;repeat'(with_reducible first|simp(disch:=try exact ab) only[go_sem,seval,k2,k8,k9,k10,k11,gk,eQ,xP,Bk,ze,w1,w2,hc]|(apply aj.i<;>intro hc))
    rw[nF]at xP
    exact tail _ (by simp(disch:=try exact ab) only[go_sem,seval,k2]) (by simp(disch:=try exact ab) only[go_sem,seval,k8]) (by simp(disch:=try exact ab) only[go_sem,seval,k9]) (by simp(disch:=try exact ab) only[go_sem,seval,k10]) (by simp(disch:=try exact ab) only[go_sem,seval,k11]) (by simp(disch:=try exact ab) only[go_sem,seval,gk]) (by simp(disch:=try exact ab) only[go_sem,seval,eQ]) (by simp(disch:=try exact ab) only[go_sem,seval,xP])
theorem Sy {hi lo y:Nat}(hlo:lo<18446744073709551616)(hy:y<18446744073709551616)(hh:hi<y):ac E2 300 [.int .u64 hi,.int .u64 lo,.int .u64 y] h K↔K (.fO [.int .u64 ((hi*18446744073709551616+lo)/y:Nat),.int .u64 ((hi*18446744073709551616+lo)%y:Nat)]) h:=by
 rcases aE hi with rfl|hpos
 ·refine ac.cZ (ac.fn (fn:=C.sk) rfl rfl rfl ?_);unfold C.sk;have y0:¬(y:Int)=0:=by omega
  have e0:((0:Nat):Int)=0:=rfl;have y1':¬(y:Int)≤0:=by omega
  have MI:0<(y:Int):=by omega
  have e3:((lo:Int)/y)=((lo/y:Nat):Int):=rfl;have e4:((lo:Int)%y)=((lo%y:Nat):Int):=rfl;have e5:=jp lo y;have e7:IntKind.wrap .u64 ((lo/y:Nat):Int)=((lo/y:Nat):Int):=wrap_u64 ⟨jq _,by omega⟩;rw[Nat.zero_mul,Nat.zero_add];repeat'(with_reducible first|simp(disch:=try exact ab) only[go_sem,seval,e0,y0,y1',nN,uz,e3,e4,e7]|(apply aj.i<;>intro hc))
 ·obtain⟨hs,PG,hlt,hp⟩:=xc (x:=y) (by omega) hy;have hsh:=Ju (hi:=hi) (lo:=lo) (s:=lz y) (by omega);have hpB:2^(64-lz y)*2^lz y=18446744073709551616:=by rw[←dm,bT (by omega)]
  have Wk:(hi+1)*2^lz y≤y*2^lz y:=aM _ hh;rw[bh,Nat.one_mul]at Wk
  have hlp:lo/2^(64-lz y)<2^lz y:=by
   rw[df (dp (by decide)),aA,hpB];exact hlo
  have hb:hi*2^lz y+lo/2^(64-lz y)<18446744073709551616:=ah (xL hlp _) (aB Wk (EZ hlt));have hor:=fun q=>Nc (q:=q) (a:=hi*2^lz y) (b:=lo/2^(64-lz y)) (c:=hi) (n:=lz y) rfl hlp hb
  have hq:(hi*18446744073709551616+lo)/y=(hi*18446744073709551616+lo)*2^lz y/(y*2^lz y):=(uK _ _ hp).symm
  have hr:(hi*18446744073709551616+lo)%y=(hi*18446744073709551616+lo)*2^lz y%(y*2^lz y)/2^lz y:=by
   rw[Nat.mul_mod_mul_right,Nat.mul_div_cancel _ hp]
  rw[hq,hr,←hsh];have ET:lo*2^lz y%18446744073709551616<18446744073709551616:=bq _ (by decide);obtain⟨U,hU⟩:∃U,U=hi*2^lz y+lo/2^(64-lz y):=⟨_,rfl⟩
  obtain⟨u,hu⟩:∃u,u=lo*2^lz y%18446744073709551616:=⟨_,rfl⟩
  obtain⟨Y,hY⟩:∃Y,Y=y*2^lz y:=⟨_,rfl⟩
  have hUY:U<Y:=by rw[hU,hY];exact ah (xL hlp _) Wk
  have hY63:9223372036854775808≤Y:=by rw[hY];exact PG
  have hYB:Y<18446744073709551616:=by rw[hY];exact hlt
  have hv1:0<Y/4294967296:=Nat.div_pos (aB (by decide) hY63) (by decide);rw[←hU]at hor;rw[←hU,←hu,←hY];rw[←hu]at ET;have hY0:0<Y:=ah (by decide) hY63;rw[Js (U:=U) (u:=u)];obtain⟨d1,d2⟩:=Kr (U:=U) (b:=4294967296) (u1:=u/4294967296) (u0:=u%4294967296) hY0;rw[d1,d2];have uZ:=cE (U*4294967296+u/4294967296) Y;rw[aA]at uZ;have hRl:(U*4294967296+u/4294967296)%Y<Y:=bq _ hY0
  obtain⟨q1,MK⟩:∃q1,q1=(U*4294967296+u/4294967296)/Y:=⟨_,rfl⟩
  obtain⟨R,hR⟩:∃R,R=(U*4294967296+u/4294967296)%Y:=⟨_,rfl⟩
  rw[←MK,←hR]at uZ;rw[←hR]at hRl;rw[←MK,←hR];have zi:=cE (R*4294967296+u%4294967296) Y;rw[aA]at zi;have IQ:(R*4294967296+u%4294967296)%Y<Y:=bq _ hY0;obtain⟨q0,hq0⟩:∃q0,q0=(R*4294967296+u%4294967296)/Y:=⟨_,rfl⟩
  obtain⟨rm,Ox⟩:∃rm,rm=(R*4294967296+u%4294967296)%Y:=⟨_,rfl⟩
  rw[←hq0,←Ox]at zi;rw[←Ox]at IQ;rw[←hq0,←Ox];rw[O9];exact ac.cZ (OZ (Y:=Y) (hs2:=hi*2^lz y) (lh:=lo/2^(64-lz y)) (u:=u) (U:=U) (v1:=Y/4294967296) (v0:=Y%4294967296) (u1:=u/4294967296) (u0:=u%4294967296) hpos hy hh hs rfl (by rw[←hY];exact cH hYB) (cH (gR (Nat.le_add_right _ _) hb)) hu.symm rfl hor rfl rfl rfl rfl hYB ET hv1 hUY hRl uZ IQ zi)
end
end
end Go.Ae
