/-
  What the rows of chapter 1 have in common: a start at which the listed variables read as their initialisers lay them.
-/
import Derived.Test.YtdaggbpeoldmeaaGreatDoorCards
import Derived.Test.YtdaggbpeoldmeaaGreatDoorTie
import Derived.Test.YtdaggbpeoldmeaaGreatDoorZKR3
import Derived.WalkKit
import Derived.ProofKit
import Derived.OpenShut
import Derived.LaidSub
import Derived.MakeChecks
import Derived.ChangeMaps5
import Derived.Deep.DeepHandedRow
import Derived.Deep.DeepWitnessRowRef
import Derived.Deep.DeepLaidRun
import Derived.Lib.LaidTab
import Derived.Test.YtdaggbpeoldmeaaGreatDoorM4
import Derived.WideKeyArgs
import Derived.Deep.Slices
import Derived.Lib.Mul64
import Derived.Test.YtdaggbpeoldmeaaGreatDoorM2
open Array renaming getElem?_eq_none → ks
open Go.Deep renaming open_slice → FO
open Go.RowKit.Below renaming refl → fH
open Iff renaming rfl → aA
open Int renaming gcd → cJ, gcd_pos_of_ne_zero_right → lu, gcd_dvd_left → xc, gcd_dvd_right → vo, mul_fdiv_cancel_left → fz, natAbs_natCast → ax, natAbs → AU, natAbs_mul → fJ, natAbs_neg → Eb, natCast_mul → bT, toNat_natCast → fm, natCast_nonneg → jC, fmod_nonneg_of_pos → FN, mul_sub → yf, mul_le_mul_of_nonneg_left → il, natCast_add → td, ofNat_le → oE, ofNat_lt → CI
open List renaming mem_append → dQ, length_eq_zero_iff → fZ, drop_zero → eY, take_length → bu, flatMap_cons → iE, length_append → ar, length_cons → aq, drop_eq_getElem_cons → eP, getElem?_take → iD, getElem?_drop → jh, getElem?_map → bZ, getElem?_eq_none → cb, mem_cons → fy, mem_append_left → mj, mem_append_right → FM, mem_map → kc, range → fg, drop → gT, take → fV, cons_append → lJ, take_add_one → pw, getElem?_eq_getElem → aC, getD_eq_getElem?_getD → aR, all_eq_true → cL, mem_of_mem_take → fQ, take_of_length_le → aP, getElem_mem → CF, length_take → aB, getD → bQ, replicate → aw, length_nil → aM, length_map → aV, take_take → AI, length_drop → bN, drop_length → oD, map_replicate → gM, takeWhile_cons_of_pos → AJ, getD_cons_zero → de
open Nat renaming le_refl → ac, eq_zero_or_pos → aG, lt_of_lt_of_le → ah, le_trans → az, add_mul → aX, lt_or_ge → aQ, div_lt_iff_lt_mul → dj, mod_lt → aZ, mul_comm → ay, div_add_mod → cD, add_assoc → dm, not_lt_zero → gz, lt_succ_self → eQ, one_pos → vG, add_zero → aT, mul_one → dG, eq_of_mul_eq_mul_left → CC, le_mul_of_pos_left → jT, gcd → eM, mul_div_cancel_left → oX, lt_trichotomy → iN, pow_le_pow_right → aU, pow_succ → aW, pow_add → dz, mul_pos → fv, pow_pos → dC, lt_of_le_of_lt → ic, mul_le_mul_right → aH, le_of_lt → yr, mul_lt_mul_of_pos_left → gP, eq_or_lt_of_le → cN, mul_le_mul → eH, zero_le → aE, log2 → vj, min_eq_left → cI, and_two_pow_sub_one_eq_mod → wX, mul_add → au, mul_assoc → aI, mul_le_mul_left → aD, add_mul_mod_self_left → CE, mod_eq_of_lt → cK, blt → gL, add → mu, blt_eq → jx, sub_add_cancel → bR, le_of_not_lt → wV, div_eq_of_lt → je, mul_zero → gA, add_sub_cancel → ie, mul_add_div → nu, mul_div_mul_right → vc, div_le_self → jB, add_lt_add_left → yc
open Option.some renaming injEq → bY
open Rat renaming divInt → bP, divInt_eq_divInt_iff → D6, num_divInt_den → jA, mul_inv_cancel → mo, intCast_mul → lm
set_option linter.unusedVariables false
set_option maxRecDepth 100000
namespace Go.Proofs.YtdaggbpeoldmeaaGreatDoor.laws
open Go.ChangeShapes Go.WideShapes Go.ChangeAt Go.RowKit Go.Ae
open Go.ChangeMaps (open_string shut_string)
section
variable {H:Type}{enc:TypeId×Value→H}{P:Program}
theorem Bp {f:Func}{s:ChangeSpec}{apart fresh handsOn again:Bool}{W W':World}{args:Array Value}{v:Value}{ds gs:List (DataW H)}{before pa pv:List MemPlace}
  (hW:DataW.Whole enc P f.params.toList s.vars apart W args.toList ds gs before)
  (BJ:∀(b:Nat) (sp:Nat→Bool) (hd:Bool),DataW.TrodAll enc P W' b sp hd f.resultTypes.toList (v.resultList f.resultTypes.size) (s.fn H (ds++gs)).results [])
  (uk:∀sp:Nat→Bool,(∀p∈before,sp p.block=true)→DataW.TrodAll enc P W' 0 sp true f.params.toList args.toList (s.fn H (ds++gs)).args pa)
  (NK:∀sp:Nat→Bool,(∀p∈before,sp p.block=true)→DataW.TrodVars enc P W' sp s.vars (s.fn H (ds++gs)).vars pv)
  (NN:before=pa++pv) (hB:Below W.heap.size W W')
  (hok:∀(j:Nat) (t:TypeId) (r:Value),f.resultTypes[j]?=some t→(v.resultList f.resultTypes.size)[j]?=some r→Value.okWide P W' .any 0 t r):
  s.post enc P f apart fresh handsOn again W args v W':=by
 have hold:∀p∈before,(fun b=>decide (b<W.heap.size)) p.block=true:=fun p hp=>by simpa using hW.lt p hp
 have hlt:=hW.lt;refine⟨ds,gs,before,[],pa,pv,hW,BJ _ _ _,uk _ hold,NK _ hold,World.keptBut_mono (fun p hp=>⟨hp,?_⟩) (hB.frame (· ∈before)),fun _=>?_⟩
 ·rw[NN,dQ]at hp;exact Or.inr hp
 ·obtain⟨_,_,_,_,_,hz,hn⟩:=hW;refine⟨hok,_,_,([]++pa)++pv,⟨[]++pa,pv,trodAll_append (uk _ (fun _ _=>rfl)) (BJ _ _ _),NK _ (fun _ _=>rfl),rfl,?_,?_⟩,?_⟩
  ·intro b off hp;have hp':MemPlace.cell b off∈before:=by rw[NN];simpa using hp
   have hb:b<W.heap.size:=hlt _ hp'
   have e:W'.frozen? ⟨b,off,none⟩=W.frozen? ⟨b,off,none⟩:=by
    simp only[World.frozen?,hB.block b hb]
   rw[e];exact hz b off hp'
  ·intro ha;have:=hn ha;rw[NN]at this;simpa using this
  ·intro p hp _;rw[NN];simpa using hp
end
theorem own:ownKnob Tryz.prog.godebug=none:=by kernel_rfl
theorem XR:Tryz.prog.globalNamed "internal/strconv.uint64pow10" =some 5:=by kernel_rfl
theorem Io:(Tryz.prog.globals[5]?).map (·.type)=some 343:=by kernel_rfl
theorem Jf:Tryz.prog.cellsOf 343=20:=by kernel_rfl
theorem Jg:Tryz.prog.cellsOf 278=1:=by kernel_rfl
theorem pc {W:World}{l:List (String×DataW Unit)}(hL:laidMetH Tryz.prog l W)(hl:(l.filter fun x=>x.1== "internal/strconv.uint64pow10")=[("internal/strconv.uint64pow10",Lib.tabData .u64 Lib.pow10Tab)])(hO:W.ShapedOpen Tryz.prog):L.kR W W.heap.size:=by
 have h1:=laidMetH.filter (fun x=>x.1== "internal/strconv.uint64pow10") hL;rw[hl,MakeChecks.laidMetH_plain _ _ _ (by kernel_rfl)]at h1;obtain⟨m,hm⟩:=Tryz.laysM145.s1_3 W hO;have FH:W.cell? ⟨0,0,none⟩=some (.int .i64 m):=hm;refine⟨ac _,Lib.tabBelow_of_tabIs (Lib.tabIs_of_head XR Io Tryz.underlying343 Tryz.underlying278 Jg Jf h1),?_,m,FH⟩;rcases aG W.heap.size with h0|h0
 ·simp[World.cell?,ks (show W.heap.size≤0 by omega)]at FH
 ·exact h0
def leaf:DataW Unit→List Value
 | .lit (.int k n)=>[.int k n]
 |_=>[]
def row:DataW Unit→List Value
 | .agg l=>l.flatMap leaf
 |d=>leaf d
def nc:DataW Unit→List Value
 | .agg l=>l.flatMap row
 |d=>leaf d
noncomputable def low:Nat:=(World.holding Tryz.prog default ⟨#[], #[],[]⟩).heap.size
def Bo (h:Array Obj)(g:Nat)(cs:Array Value):Array Obj:=h.modify g fun
 | .cells _ t frozen=> .cells cs t frozen
 |o=>o
noncomputable def oQ (os:Os):World:=
 let w0:=World.holding Tryz.prog os ⟨#[.cells #[.string ⟨#[105,110,118,97,108,105,100,32,115,121,110,116,97,120]⟩] 353,.cells #[.string ⟨#[118,97,108,117,101,32,111,117,116,32,111,102,32,114,97,110,103,101]⟩] 353], #[],[]⟩
 let h1:=Bo w0.heap 8 (nc Rows.laid_math_bits_deBruijn32tab).toArray
 let h2:=Bo h1 9 (nc Rows.laid_math_bits_deBruijn64tab).toArray
 let h3:=Bo h2 5 (nc Rows.laid_internal_strconv_uint64pow10).toArray
 let h4:=Bo h3 7 (nc Rows.laid_unicode_utf8_acceptRanges).toArray
 let h5:=Bo h4 6 (nc Rows.laid_unicode_utf8_first).toArray
 let h6:=Bo h5 3 #[.iface 351 (.pointer (some ⟨low,0,none⟩))]
 let h7:=Bo h6 4 #[.iface 351 (.pointer (some ⟨low+1,0,none⟩))]
 { w0 with heap:=h7 }
end Go.Proofs.YtdaggbpeoldmeaaGreatDoor.laws
set_option linter.unusedSimpArgs false
namespace Go.Ae
noncomputable section
def AV.tok:AV→Nat
 | .sl t _ _ _=>t
 |_=>0
def ee (z:Nat)(h0 h:Hp)(v:AV)(n:Nat)(cs:List AV):Prop:=
 cs.length=n*z∧((v= .av∧n=0)∨∃t st,v= .sl t 0 n z∧h.get t=some (.row cs true st)∧h0.next≤t∧t<h.next∧st≤h.df)
def iC (z:Nat)(h:Hp)(v:AV)(n:Nat)(cs:List AV):Prop:=
 cs.length=n*z∧((v= .av∧n=0)∨∃t own st,v= .sl t 0 n z∧h.get t=some (.row cs own st)∧t<h.next∧st≤h.df)
section
variable {h0 h h':Hp}{v:AV}{z n b u st:Nat}{cs xs:List AV}{own:Bool}{K:AV→Hp→Prop}
theorem ee.nil:ee z h0 h .av 0 []:=⟨by simp,.inl ⟨rfl,rfl⟩⟩
theorem ee.aO (o:ee z h0 h v n cs)(g:aK h h'):ee z h0 h' v n cs:=by
 obtain⟨hl,o|⟨t,st,e,hg,h1,h2,h3⟩⟩:=o
 ·exact⟨hl,.inl o⟩
 ·exact⟨hl,.inr ⟨t,st,e,(g.get h2).trans hg,h1,ah h2 g.next,az h3 g.df⟩⟩
theorem iC.aO (o:iC z h v n cs)(g:aK h h'):iC z h' v n cs:=by
 obtain⟨hl,o|⟨t,own,st,e,hg,h2,h3⟩⟩:=o
 ·exact⟨hl,.inl o⟩
 ·exact⟨hl,.inr ⟨t,own,st,e,(g.get h2).trans hg,ah h2 g.next,az h3 g.df⟩⟩
theorem ee.row (o:ee z h0 h v n cs):iC z h v n cs:=by
 obtain⟨hl,o|⟨t,st,e,hg,h1,h2,h3⟩⟩:=o
 ·exact⟨hl,.inl o⟩
 ·exact⟨hl,.inr ⟨t,true,st,e,hg,h2,h3⟩⟩
theorem xQ (hu:h.get u=some (.row xs own st))(hx:xs.length=z):cellsOf h z (.sl u 0 1 z)=some xs:=by
 simp only[cellsOf,hu];rw[if_pos ⟨trivial,by omega⟩,←hx];simp
theorem ee.app (G:aK h0 h)(O:ee z h0 h v n cs)(hx:xs.length=z)(hz:0<z)(hl:(n+1)*b≤140737488355328)(hl2:n+1≤140737488355328):
  ∃v' h',kr (h.push fun st=> .row xs true st) z b v (.sl h.next 0 1 z)=some (v',h')∧aK h0 h'∧ee z h0 h' v' (n+1) (cs++xs):=by
 have hc:cellsOf (h.push fun st=> .row xs true st) z (.sl h.next 0 1 z)=some xs:=xQ Hp.cu hx;have hn0:=G.next;obtain⟨hlen,⟨rfl,rfl⟩|⟨t,st,rfl,hg,h1,h2,h3⟩⟩:=O
 ·have hcs:cs=[]:=fZ.1 (by omega);subst hcs;refine⟨.sl (h.next+1) 0 1 z,(h.push fun st=> .row xs true st).push fun st=> .row xs true st,?_,G.push.push,by simp[hx],.inr ⟨h.next+1,(h.push fun st=> .row xs true st).df+1,rfl,Hp.cu,by omega,?_,ac _⟩⟩
  ·unfold kr;rw[hc];simp only[xB];rw[if_pos ⟨by omega,by omega,hz⟩];rfl
  ·show h.next+1<h.next+1+1;omega
 ·have hgt:(h.push fun st=> .row xs true st).get t=some (.row cs true st):=(Hp.du (by omega)).trans hg;refine⟨.sl (h.next+1) 0 (n+1) z,((h.push fun st=> .row xs true st).put t fun s=> .dead s).push fun st=> .row (cs++xs) true st,?_,(G.push.put h1).push,by simp[hx,hlen,aX],.inr ⟨h.next+1,((h.push fun st=> .row xs true st).put t fun s=> .dead s).df+1,rfl,Hp.cu,by omega,?_,ac _⟩⟩
  ·unfold kr;rw[hc];simp only[xB];rw[hgt];simp only;rw[if_pos ⟨trivial,by omega,hl,hl2⟩];simp only[eY,←hlen,bu];rfl
  ·show h.next+1<h.next+1+1;omega
theorem ee.wp (hu:u=h.next)(G:aK h0 h)(O:ee z h0 h v n cs)(hx:xs.length=z)(hz:0<z)(hl:(n+1)*b≤140737488355328)(hl2:n+1≤140737488355328)
  (hk:∀v' h',aK h0 h'→ee z h0 h' v' (n+1) (cs++xs)→K v' h'):eW (kr (h.push fun st=> .row xs true st) z b v (.sl u 0 1 z)) K:=by
 subst hu;obtain⟨v',h',e,G',O'⟩:=O.app G hx hz hl hl2;rw[e];exact hk v' h' G' O'
end
def ap.post:Nat→ap→ap
 |0,c=>c
 |n+1,.seq _ r=>r.post n
 |_+1,c=>c
def ap.pre:Nat→ap→ap
 |0,_=> .skip
 |n+1,.seq a r=> .seq a (r.pre n)
 |_+1,c=>c
def ap.parts:Nat→ap→Bool
 |0,_=>true
 |n+1,.seq _ r=>r.parts n
 |_+1,_=>false
theorem Wp.cut {E:Env}{Q:Ex→St→Prop}:∀(n:Nat) {c:ap} {s:St},c.parts n=true→Wp E (c.pre n) s (uW E (c.post n) Q)→Wp E c s Q
 |0,c,s,_,h=>Wp.tD.1 h
 | n +1,c,s,hp,h=>by
  cases c with
  | seq a r=>
   have h:=Wp.xl.1 (show Wp E (.seq a (r.pre n)) s (uW E (r.post n) Q) from h);refine Wp.seq (h.mono fun e s' hq=>?_);cases e with
   |fW=>exact Wp.cut n hp hq
   |exit i=>exact hq
   |ret=>exact hq
  |_=>cases hp
section
variable {α:Type}{f:α→List AV}{k:Nat}
theorem kG (hf:∀x,(f x).length=k):∀l:List α,(l.flatMap f).length=l.length*k
 |[]=>by simp
 |x::l=>by rw[iE,ar,hf,kG hf l,aq,aX];omega
theorem wu (hf:∀x,(f x).length=k):∀(l:List α) (i:Nat),(l.flatMap f).drop (i*k)=(l.drop i).flatMap f
 |[],i=>by simp
 |x::l,0=>by simp
 | x::l,i+1=>by
  rw[iE,List.drop_succ_cons,←wu hf l i,show(i+1)*k=(f x).length+i*k by rw[hf,aX];omega,List.drop_append];simp
theorem DE (hf:∀x,(f x).length=k){l:List α}{i:Nat}(hi:i<l.length):((l.flatMap f).drop (i*k)).take k=f l[i]:=by
 rw[wu hf,eP hi,iE,←hf l[i],List.take_append];simp
theorem IB (hf:∀x,(f x).length=k){l:List α}{i j:Nat}(hi:i<l.length)(hj:j<k):(l.flatMap f)[i*k+j]?=(f l[i])[j]?:=by
 rw[←DE hf hi,iD,if_pos hj,jh]
end
def wU (t:Nat)(x:Option (List (AV×AV)))(h:Hp)(K:AV→Hp→Prop):Prop:=
 match x with
 |some es=>K jO (h.put t fun s=> .kM es s)
 |none=>False
def wS (k:List UInt8)(t:Nat)(v:AV)(x:Option di)(h:Hp)(K:AV→Hp→Prop):Prop:=
 match x with
 |some (.kM es _)=>wU t (A7 k v es) h K
 |_=>False
def AE (m k v:AV)(h:Hp)(K:AV→Hp→Prop):Prop:=
 match m,k with
 | .map t,.str k=>wS k t v (h.get t) h K
 |_,_=>False
def pY (z:AV)(ok:Bool)(x:Option (Option AV))(h:Hp)(K:AV→Hp→Prop):Prop:=
 match x with
 |some (some v)=>K (if ok then .gk [v,.bool true]else v) h
 |some none=>K (if ok then .gk [z,.bool false]else z) h
 |none=>False
def Fv (k:List UInt8)(z:AV)(ok:Bool)(x:Option di)(h:Hp)(K:AV→Hp→Prop):Prop:=
 match x with
 |some (.kM es _)=>pY z ok (uv k es) h K
 |_=>False
def JE (m k:AV)(z:AV)(ok:Bool)(h:Hp)(K:AV→Hp→Prop):Prop:=
 match m,k with
 | .map t,.str k=>Fv k z ok (h.get t) h K
 |_,_=>False
section
variable {E:Env}{s:St}{h:Hp}{K:AV→Hp→Prop}{t st:Nat}{k:List UInt8}{v z x y w:AV}{ok:Bool}{es:List (AV×AV)}
theorem JR {a b c:bC}:cm E (.zd a b c) s K↔AE (val s.tm a) (val s.tm b) (val s.tm c) s.hp K:=by
 rw[OA];simp only[pB,AE];cases val s.tm a<;>try exact aA
 cases val s.tm b<;>try exact aA
 rename_i t k;simp only[wS];cases s.hp.get t with
 |none=>exact aA
 | some o=>
  cases o with
  | kM es st=>
   simp only[wU];cases A7 k (val s.tm c) es<;>exact aA
  |_=>exact aA
theorem OC {a b:bC}:cm E (.Pp a b z ok) s K↔JE (val s.tm a) (val s.tm b) z ok s.hp K:=by
 rw[Q5];simp only[tO,JE];cases val s.tm a<;>try exact aA
 cases val s.tm b<;>try exact aA
 rename_i t k;simp only[Fv];cases s.hp.get t with
 |none=>exact aA
 | some o=>
  cases o with
  | kM es st=>
   simp only[pY];cases uv k es with
   |none=>exact aA
   |some r=>cases r<;>exact aA
  |_=>exact aA
theorem AE.r:AE (.map t) (.str k) v h K↔wS k t v (h.get t) h K:=aA
theorem wS.row:wS k t v (some (.kM es st)) h K↔wU t (A7 k v es) h K:=aA
theorem wU.Ki:wU t (some es) h K↔K jO (h.put t fun s=> .kM es s):=aA
theorem JE.r:JE (.map t) (.str k) z ok h K↔Fv k z ok (h.get t) h K:=aA
theorem Fv.row:Fv k z ok (some (.kM es st)) h K↔pY z ok (uv k es) h K:=aA
theorem pY.tt:pY z true (some (some v)) h K↔K (.gk [v,.bool true]) h:=aA
theorem pY.tf:pY z true (some none) h K↔K (.gk [z,.bool false]) h:=aA
theorem pY.ft:pY z false (some (some v)) h K↔K v h:=aA
theorem pY.ff:pY z false (some none) h K↔K z h:=aA
theorem Hy:AV.kC.one=true:=rfl
theorem Hx:AV.jQ.one=true:=rfl
theorem Hw:AV.pG.one=true:=rfl
theorem KE:(AV.map t).one=true:=rfl
theorem Fa:(AV.map t).cells=[.map t]:=rfl
theorem Ci:AV.kC.cells=[.kC]:=rfl
attribute [go_sem] jM Hy Hx Hw KE Fa Ci JS JR OC AE.r wS.row wU.Ki JE.r Fv.row pY.tt pY.tf pY.ft pY.ff
end
end
theorem Ck {P:Program}{W:World}{E:Env}{ρ:dF}{h:Hp}{v:AV}{args:List AV}{f:Nat}(EO:fO P W W.heap.size E)(hc:eV P f=true)(hr:Gv E f args h v)
  (R:bz W.heap.size ρ h W) (hok:gV ρ h.next args) (hv:v.free=true):
  Calls P f (encs ρ args).toArray W fun e w'=>e= .returned (enc ρ v)∧Go.RowKit.Below W.heap.size W w':=by
 obtain⟨h',⟨n,hn⟩,_⟩:=hr;have D:=uN EO hn (fH _ _) R hok;unfold eC at D;rw[oJ hc]at D;refine Calls.mono (show Calls P f (encs ρ args).toArray W _ from D) fun e w' he=>?_
 obtain⟨u,rfl,ρ',X,_,rfl⟩:=he;exact⟨congrArg _ (nX _ _ v hv),X.fb.below R⟩
theorem bz.arg {W:World}{ρ:dF}{cs:List AV}(h1:∀v∈cs,v.one=true)(h2:gV ρ 1 cs)(hr:W.rangeAt (ρ 0).b (ρ 0).o (encs ρ cs))(hb:(ρ 0).b<W.heap.size):
  bz W.heap.size ρ (Hp.nil.push fun s=> .row cs false s) W:=
 (bz.nil (ac _)).mE _ (cW.refl _ _) (ac _) (fun _ _=>rfl) ⟨⟨h1,h2,hr,nofun,fun _=> .inr hb⟩,nofun⟩
theorem rY {α:Type}{W:World}{ρ:dF}{f:α→List AV}{z b o base:Nat}(hz:0<z)(hf:∀x,(f x).length=z){l:List α}
  (hx:∀i (hi:i<l.length),W.cells? base ((⟨b,o,none⟩:Addr).add (i*z)) z=some (encs ρ (f l[i]))):W.rangeAt b o (encs ρ (l.flatMap f)):=by
 intro j v hj;rw[cQ,bZ]at hj;have hlen:=kG hf l
 have US:j<l.length*z:=by
  rcases aQ j (l.length*z)with c|c
  ·exact c
  ·rw[cb (by rw[hlen];exact c)]at hj;cases hj
 have hi:j/z<l.length:=(dj hz).2 US;have hr:j%z<z:=aZ _ hz;have e:j=j/z*z+j%z:=by rw[ay];exact(cD j z).symm
 obtain⟨_,Ie,hc⟩:=World.cells?_some (hx (j/z) hi);have:=hc (j%z) hr;rw[Addr.add_mid,Addr.add_mid,dm,←e]at this;rw[this,cQ,bZ,←IB hf hi hr,←e];exact hj
end Go.Ae
namespace Go.Proofs.YtdaggbpeoldmeaaGreatDoor.laws
open Go.ChangeShapes Go.WideShapes Go.ChangeAt Go.RowKit Go.Ae
theorem wM {P:Program}{W:World}{base:Nat}{t e:TypeId}{v:Value}(ht:P.underlying t=some (.slice e))(hv:Value.okWide P W .any base t v):
  v= .slice none 0 0∨∃b o len cap,v= .slice (some ⟨b,o,none⟩) len cap∧len≤cap∧b<W.heap.size:=by
 unfold Value.okWide at hv;rw[ht]at hv;unfold Cell.okWide Cell.ok at hv;rw[ht]at hv;cases v<;>simp only at hv<;>try(exact hv.elim)
 rename_i a len cap;cases a with
 | none=>
  left;cases len<;>cases cap<;>first|rfl|exact hv.elim
 | some a=>
  obtain⟨b,o,sp⟩:=a;right;obtain⟨h1,_,h2⟩:=hv;obtain⟨_,h3,row,cells,h4,_⟩:=h2;simp only at h3;subst h3;refine⟨b,o,len,cap,rfl,h1,?_⟩;rcases aQ b W.heap.size with c|c
  ·exact c
  ·simp[World.shape?,ks c]at h4
section
variable {H:Type}{enc:TypeId×Value→H}{P:Program}
theorem pk (hl:laidOutB P=true){W W':World}{sp:Nat→Bool}(hb:Below W.heap.size W W'):∀{ts:List TypeId} {vs:List Value} {ds:List (DataW H)} {ps:List MemPlace},
  (∀t∈ts,P.readableRec t=true∧t<P.types.size)→DataW.TrodAll enc P W 0 (fun _=>true) true ts vs ds ps→(∀x∈ps,x.block<W.heap.size)→(∀x∈ps,sp x.block=true)→DataW.TrodAll enc P W' 0 sp true ts vs ds ps
 |[],[],[],_,_,h,_,_=>h
 | t ::_,_::_,_::_,_,hT,⟨p,q,h1,h2,e⟩,hlt,hs=>
  ⟨p,q,WideElems.Trod_stays hl (hT t (fy.2 (Or.inl rfl))).1 (hT t (fy.2 (Or.inl rfl))).2 h1 (fun x hx=>hb.same (hlt x (by rw[e];exact mj _ hx))) (fun x hx=>hs x (by rw[e];exact mj _ hx)),
   pk hl hb (fun t ht=>hT t (fy.2 (Or.inr ht))) h2 (fun x hx=>hlt x (by rw[e];exact FM _ hx)) (fun x hx=>hs x (by rw[e];exact FM _ hx)),e⟩
end
end Go.Proofs.YtdaggbpeoldmeaaGreatDoor.laws
namespace Go.Ae
noncomputable section
def js (h:Hp)(v:AV)(l:List (List UInt8)):Prop:=iC 1 h v l.length (l.map AV.str)∨(l=[]∧∃b o s c,v= .IM b o s c)
def kN (h:Hp)(v:AV)(m:List (List (List UInt8))):Prop:=∃vs:List AV,iC 1 h v m.length vs∧∀(i:Nat) (hi:i<m.length),∃u,vs[i]?=some u∧js h u m[i]
section
variable {h h':Hp}{v:AV}{l:List (List UInt8)}{m:List (List (List UInt8))}
theorem js.aO (o:js h v l)(g:aK h h'):js h' v l:=by
 rcases o with o|o
 ·exact .inl (o.aO g)
 ·exact .inr o
theorem kN.aO (o:kN h v m)(g:aK h h'):kN h' v m:=by
 obtain⟨vs,r,e⟩:=o;exact⟨vs,r.aO g,fun i hi=>by obtain⟨u,h1,h2⟩:=e i hi;exact⟨u,h1,h2.aO g⟩⟩
theorem kN.nil:kN h .av []:=⟨[],⟨rfl,.inl ⟨rfl,rfl⟩⟩,fun i hi=>absurd hi (gz _)⟩
end
end
def Rv (W:World)(u:Value)(k:List (List UInt8)):Prop:=
 (u= .slice none 0 0∧k=[])∨(∃b o s c,u= .slice (some ⟨b,o,s⟩) 0 c∧k=[])∨
 ∃b o c,u= .slice (some ⟨b,o,none⟩) k.length c∧k.length≤c∧b<W.heap.size∧∀ρ:dF,W.rangeAt b o (encs ρ (k.map AV.str))
theorem Kb (k:List (List UInt8)):∀v∈k.map AV.str,v.one=true:=by
 intro v hv;obtain⟨s,_,rfl⟩:=kc.1 hv;rfl
theorem OK (ρ:dF)(N:Nat)(k:List (List UInt8)):gV ρ N (k.map AV.str):=by
 rw[cZ];intro v hv;obtain⟨s,_,rfl⟩:=kc.1 hv;simp[ok]
def dF.one (ρ:dF)(t:Nat)(p:Place):dF:=fun u=>if u=t then p else ρ u
theorem dF.ru {ρ:dF}{t:Nat}{p:Place}:ρ.one t p t=p:=if_pos rfl
theorem dF.lV {ρ:dF}{t:Nat}{p:Place}:cW t ρ (ρ.one t p):=fun u hu=>if_neg (by omega)
theorem bz.more {W:World}{ρ:dF}{h:Hp}{p:Place}{cs:List AV}(R:bz W.heap.size ρ h W)(h1:∀v∈cs,v.one=true)(h2:gV ρ h.next cs)(hr:W.rangeAt p.b p.o (encs (ρ.one h.next p) cs))(hb:p.b<W.heap.size):
  bz W.heap.size (ρ.one h.next p) (h.push fun s=> .row cs false s) W:=
 R.mE _ dF.lV (ac _) (fun _ _=>rfl) ⟨⟨h1,iI dF.lV (Nat.le_succ _) _ h2,by rw[dF.ru];exact hr,nofun,fun _=> .inr (by rw[dF.ru];exact hb)⟩,nofun⟩
theorem OW {W:World}{u:Value}{k:List (List UInt8)}(hv:Rv W u k){ρ:dF}{h:Hp}(R:bz W.heap.size ρ h W):
  ∃ρ' h' v,cW h.next ρ ρ'∧aK h h'∧bz W.heap.size ρ' h' W∧enc ρ' v=u∧ok ρ' h'.next v∧v.one=true∧js h' v k:=by
 rcases hv with⟨rfl,rfl⟩|⟨b,o,s,c,rfl,rfl⟩|⟨b,o,c,rfl,hc,hb,hr⟩
 ·exact⟨ρ,h,.av,cW.refl _ _,aK.refl _,R,by simp[enc],by simp[ok],rfl,.inl ⟨rfl,.inl ⟨rfl,rfl⟩⟩⟩
 ·exact⟨ρ,h,.IM b o s c,cW.refl _ _,aK.refl _,R,by simp[enc],by simp[ok],rfl,.inr ⟨rfl,_,_,_,_,rfl⟩⟩
 ·refine⟨ρ.one h.next ⟨b,o,c,1⟩,h.push fun s=> .row (k.map AV.str) false s,.sl h.next 0 k.length 1,dF.lV,(aK.refl _).push,bz.more R (Kb k) (OK _ _ k) (hr _) hb,?_,?_,rfl,.inl ⟨by simp,.inr ⟨h.next,false,_,rfl,Hp.cu,?_,ac _⟩⟩⟩
  ·simp[enc,dF.ru]
  ·simp[ok,dF.ru,Hp.push];omega
  ·exact eQ _
theorem C9 {W:World}:∀(l:List (Value×List (List UInt8))),(∀x∈l,Rv W x.1 x.2)→∀{ρ:dF} {h:Hp},bz W.heap.size ρ h W→
  ∃ρ' h' vs,cW h.next ρ ρ'∧aK h h'∧bz W.heap.size ρ' h' W∧encs ρ' vs=l.map (·.1)∧gV ρ' h'.next vs∧(∀v∈vs,v.one=true)∧vs.length=l.length∧∀(i:Nat) (hi:i<l.length),∃u,vs[i]?=some u∧js h' u l[i].2
 |[],_,ρ,h,R=>⟨ρ,h,[],cW.refl _ _,aK.refl _,R,by simp[encs],by simp[gV],nofun,rfl,fun i hi=>absurd hi (gz _)⟩
 | x ::l,hl,ρ,h,R=>by
  obtain⟨ρ1,h1,v,a1,g1,R1,e1,o1,n1,r1⟩:=OW (hl x (fy.2 (.inl rfl))) R;obtain⟨ρ2,h2,vs,a2,g2,R2,e2,o2,n2,l2,r2⟩:=C9 l (fun y hy=>hl y (fy.2 (.inr hy))) R1;refine⟨ρ2,h2,v::vs,a1.trans a2 g1.next,g1.trans g2,R2,?_,?_,?_,by simp[l2],?_⟩
  ·simp only[encs,List.map_cons,e2,dE a2 v o1,e1]
  ·simp only[gV];exact⟨fL a2 g2.next v o1,o2⟩
  ·intro w hw;rcases fy.1 hw with rfl|hw
   ·exact n1
   ·exact n2 w hw
  ·intro i hi;cases i with
   |zero=>exact⟨v,rfl,r1.aO g2⟩
   | succ i=>
    obtain⟨u,hu,hr⟩:=r2 i (by simpa using hi);exact⟨u,by simpa using hu,by simpa using hr⟩
theorem Pn {W:World}{b o c:Nat}{l:List (Value×List (List UInt8))}(hl:∀x∈l,Rv W x.1 x.2)(hc:l.length≤c)(hb:b<W.heap.size)(hr:W.rangeAt b o (l.map (·.1))){ρ:dF}{h:Hp}(R:bz W.heap.size ρ h W):
  ∃ρ' h' v,cW h.next ρ ρ'∧aK h h'∧bz W.heap.size ρ' h' W∧enc ρ' v= .slice (some ⟨b,o,none⟩) l.length c∧ok ρ' h'.next v∧kN h' v (l.map (·.2)):=by
 obtain⟨ρ1,h1,vs,a1,g1,R1,e1,o1,n1,l1,r1⟩:=C9 l hl R;refine⟨ρ1.one h1.next ⟨b,o,c,1⟩,h1.push fun s=> .row vs false s,.sl h1.next 0 l.length 1,fun t ht=>?_,g1.push,bz.more R1 n1 o1 (by rw[fN dF.lV vs o1,e1];exact hr) hb,?_,?_,vs,⟨by simp[l1],.inr ⟨h1.next,false,_,by simp,Hp.cu,eQ _,ac _⟩⟩,?_⟩
 ·have:=g1.next;exact(dF.lV t (by omega)).trans (a1 t ht)
 ·simp[enc,dF.ru]
 ·simp[ok,dF.ru,Hp.push];omega
 ·intro i hi;obtain⟨u,hu,hr⟩:=r1 i (by simpa using hi);exact⟨u,hu,by simpa using hr.aO (aK.refl _).push⟩
end Go.Ae
namespace Go.Proofs.YtdaggbpeoldmeaaGreatDoor.laws
open Go.ChangeShapes Go.WideShapes Go.ChangeAt Go.RowKit Go.Ae
theorem Fb {W:World}{b o:Nat}{s:Option Nat}{v:Value}(h:W.cell? ⟨b,o,s⟩=some v):s=none∧b<W.heap.size:=by
 unfold World.cell? at h;cases hb:W.heap[b]? with
 |none=>rw[hb]at h;cases h
 | some x=>
  have hlt:b<W.heap.size:=by
   rcases aQ b W.heap.size with c|c
   ·exact c
   ·rw[ks c]at hb;cases hb
  rw[hb]at h;cases s with
  |none=>exact⟨rfl,hlt⟩
  |some n=>cases x<;>simp at h
section
variable {H:Type}{enc:TypeId×Value→H}{P:Program}{W:World}{base:Nat}{sp:Nat→Bool}{hd:Bool}
theorem OV (w:List (List UInt8)):w.flatMap (fun s=>[AV.str s])=w.map AV.str:=by
 induction w with
 |nil=>rfl
 |cons x w ih=>rw[iE,ih];rfl
theorem Hq {t e:TypeId}{fuel:Nat}{cs:List Value}{x:DataW H×List MemPlace}(ht:P.underlying t=some (.slice e))(he:P.underlying e=some .string)(hc1:P.cellsOf e=1)
  (h:DataW.trod enc P W 0 (fun _=>true) hd fuel t cs=some x):∃u k,cs=[u]∧Rv W u k:=by
 rcases FO ht h with⟨rfl,_⟩|⟨a,len,cap,m,n,D,Pl,rfl,_,Ie,_,hm,_,hx⟩
 ·exact⟨_,[],rfl,.inl ⟨rfl,rfl⟩⟩
 ·simp only[if_true]at hm;subst hm;rw[hc1]at hx;obtain⟨b,o,s⟩:=a;rcases aG len with rfl|h0
  ·exact⟨_,[],rfl,.inr (.inl ⟨_,_,_,_,rfl,rfl⟩)⟩
  ·obtain⟨cs0,h1,_⟩:=hx 0 (by omega);obtain⟨_,Xr,hcell⟩:=World.cells?_some h1;have hc0:=hcell 0 vG
   obtain⟨c0,rfl⟩:∃c,cs0=[c]:=by
    match cs0,Xr with
    |[c],_=>exact⟨c,rfl⟩
   obtain⟨rfl,hb⟩:=Fb (W:=W) (b:=b) (o:=o) (s:=s) (v:=c0) (by simpa[Addr.add]using hc0)
   have each:∀i,i<len→∃k:List UInt8,∀ρ,W.cells? 0 ((⟨b,o,none⟩:Addr).add (i*1)) 1=some (encs ρ [AV.str k]):=fun i hi=>by
    obtain⟨vD,g1,g2⟩:=hx i (by omega);obtain⟨s,s1,_,_⟩:=DataW.trod_string he g2;exact⟨s.data.toList,fun ρ=>by rw[g1,s1];simp[encs,Ae.enc]⟩
   obtain⟨f,PQ⟩:=Go.Deep.choose_lt each;refine⟨_,(fg len).map f,rfl,.inr (.inr ⟨b,o,m,by simp,by simpa using Ie,hb,fun ρ=>?_⟩)⟩;rw[←OV];refine rY (base:=0) (f:=fun s=>[AV.str s]) vG (fun _=>rfl) fun i hi=>?_
   have hi':i<len:=by simpa using hi
   rw[PQ i hi' ρ];simp
theorem Hr {t e s:TypeId}{b o len cap:Nat}{d:DataW H}{p:List MemPlace}(ht:P.underlying t=some (.slice e))(he:P.underlying e=some (.slice s))(hs:P.underlying s=some .string)(hc0:P.cellsOf e=1)(hc1:P.cellsOf s=1)
  (h:DataW.Trod enc P W 0 (fun _=>true) true t (.slice (some ⟨b,o,none⟩) len cap) d p):
  ∃l:List (Value×List (List UInt8)),l.length=len∧(∀x∈l,Rv W x.1 x.2)∧W.rangeAt b o (l.map (·.1)):=by
 obtain⟨fuel,hf⟩:=h;rcases FO ht (by simpa[Value.cells]using hf)with⟨hcs,_⟩|⟨a',Wb,cap',m,n,D,Pl,hcs,_,Ie,_,hm,_,hx⟩
 ·simp at hcs
 ·simp at hcs;obtain⟨rfl,rfl,rfl⟩:=hcs;simp only[if_true]at hm;subst hm;rw[hc0]at hx
  have each:∀i,i<len→∃y:Value×List (List UInt8),W.cells? 0 ((⟨b,o,none⟩:Addr).add (i*1)) 1=some [y.1]∧Rv W y.1 y.2:=fun i hi=>by
   obtain⟨vD,h1,h2⟩:=hx i (by omega);obtain⟨u,k,rfl,hk⟩:=Hq he hs hc1 h2;exact⟨(u,k),h1,hk⟩
  obtain⟨f,PQ⟩:=Go.Deep.choose_lt each;refine⟨(fg len).map f,by simp,fun x hx=>?_,fun j v hj=>?_⟩
  ·obtain⟨i,hi,rfl⟩:=kc.1 hx;exact(PQ i (by simpa using hi)).2
  ·have US:j<len:=by
    rcases aQ j len with c|c
    ·exact c
    ·rw[cb (by simpa using c)]at hj;cases hj
   obtain⟨_,_,hc⟩:=World.cells?_some (PQ j US).1;have:=hc 0 vG;rw[Addr.add_mid,Addr.add_mid,aT,dG]at this;rw[this];simp only[List.map_map,bZ,List.getElem?_range US,Option.map_some,Function.comp]at hj;simpa using hj
end
end Go.Proofs.YtdaggbpeoldmeaaGreatDoor.laws
namespace Go.Ae.Bg
theorem uC {p q n:Int}{d:Nat}(hq:q≠0)(hd:d≠0)(hc:n.natAbs.Coprime d)(h:p*d=n*q):(bP p q).num=n∧(bP p q).den=d:=by
 have e:bP p q=⟨n,d,hd,hc⟩:=by
  rw[Rat.mk_eq_divInt,D6 hq (by omega)];exact h
 rw[e];exact⟨rfl,rfl⟩
theorem mO {p q:Int}(hq:0<q):(bP p q).num=p.fdiv (cJ p q:Int)∧((bP p q).den:Int)=q.fdiv (cJ p q:Int):=by
 have hg:0<cJ p q:=lu _ (by omega);obtain⟨a,ha⟩:=xc p q;obtain⟨b,hb⟩:=vo p q;have hgi:(cJ p q:Int)≠0:=by omega
 have e1:p.fdiv (cJ p q:Int)=a:=by
  have:=fz a hgi;rwa[←ha]at this
 have e2:q.fdiv (cJ p q:Int)=b:=by
  have:=fz b hgi;rwa[←hb]at this
 have e3:cJ a b=1:=by
  have h1:cJ p q=cJ p q*cJ a b:=by
   have:=Int.gcd_mul_left (cJ p q:Int) a b;rw[←ha,←hb,ax]at this;exact this
  exact CC hg (by omega)
 have hb0:0<b:=by
  rcases Int.lt_or_le 0 b with c|c
  ·exact c
  ·have:(cJ p q:Int)*b≤0:=Int.mul_nonpos_of_nonneg_of_nonpos (by omega) c;omega
 obtain⟨d,rfl⟩:∃d:Nat,b=d:=⟨b.toNat,by omega⟩
 obtain⟨h1,h2⟩:=uC (p:=p) (q:=q) (n:=a) (d:=d) (by omega) (by omega) e3 (by
  have h3:p*(d:Int)=(cJ p q:Int)*a*d:=by rw[←ha]
  have h4:a*q=a*((cJ p q:Int)*d):=by rw[←hb]
  rw[h3,h4];ac_rfl)
 rw[h1,h2,e1,e2];exact⟨rfl,rfl⟩
theorem iB {p:Int}:(bP p 1).num=p∧(bP p 1).den=1:=
 uC (p:=p) (q:=1) (n:=p) (d:=1) (by omega) (by omega) (Nat.coprime_one_right _) (by simp)
theorem nY {p q:Int}(hq:q≠0):bP (-p) (-q)=bP p q:=by
 rw[D6 (by omega) hq,Int.neg_mul,Int.mul_neg]
theorem den_pos (r:Rat):0<r.den:=Nat.pos_of_ne_zero r.den_nz
theorem rJ {p q:Int}(hq:q≠0):(bP p q).num.natAbs≤p.natAbs∧(bP p q).den≤q.natAbs:=by
 have key:∀{p q:Int},0<q→(bP p q).num.natAbs≤p.natAbs∧(bP p q).den≤q.natAbs:=by
  intro p q hq;obtain⟨h1,h2⟩:=mO (p:=p) hq;have hg:0<cJ p q:=lu _ (by omega);obtain⟨a,ha⟩:=xc p q;obtain⟨b,hb⟩:=vo p q;have hgi:(cJ p q:Int)≠0:=by omega
  have e1:p.fdiv (cJ p q:Int)=a:=by
   have:=fz a hgi;rwa[←ha]at this
  have e2:q.fdiv (cJ p q:Int)=b:=by
   have:=fz b hgi;rwa[←hb]at this
  have n1:p.natAbs=cJ p q*a.natAbs:=by
   have:=congrArg AU ha;rwa[fJ,ax]at this
  have n2:q.natAbs=cJ p q*b.natAbs:=by
   have:=congrArg AU hb;rwa[fJ,ax]at this
  have m1:a.natAbs≤cJ p q*a.natAbs:=jT _ hg;have m2:b.natAbs≤cJ p q*b.natAbs:=jT _ hg;rw[e1]at h1;rw[e2]at h2;rw[h1];omega
 by_cases hp:0<q
 ·exact key hp
 ·have:=key (p:= -p) (q:= -q) (by omega);rwa[nY hq,Eb,Eb]at this
theorem GS (a b:Rat):a*b=bP (a.num*b.num) (a.den*b.den:Int):=by
 conv=>lhs;rw[←jA a,←jA b,Rat.divInt_mul_divInt]
theorem Eu (a b:Rat):a+b=bP (a.num*b.den+b.num*a.den) (a.den*b.den:Int):=by
 have h1:=den_pos a;have h2:=den_pos b
 conv=>lhs;rw[←jA a,←jA b,Rat.divInt_add_divInt _ _ (by omega) (by omega)]
theorem RF {a b:Rat}(ha:(a.den:Int)=1)(hb:(b.den:Int)=1):(a+b).num=a.num+b.num∧(a+b).den=1:=by
 rw[Eu,ha,hb,Int.mul_one,Int.mul_one,Int.mul_one];exact iB
theorem uD {p q:Int}(hq:0<q):(bP p q).num.natAbs=p.natAbs/eM p.natAbs q.natAbs∧(bP p q).den=q.natAbs/eM p.natAbs q.natAbs∧((bP p q).num<0↔p<0):=by
 obtain⟨h1,h2⟩:=mO (p:=p) hq;have hg:0<cJ p q:=lu _ (by omega);obtain⟨a,ha⟩:=xc p q;obtain⟨b,hb⟩:=vo p q;have hgi:(cJ p q:Int)≠0:=by omega
 have e1:p.fdiv (cJ p q:Int)=a:=by
  have:=fz a hgi;rwa[←ha]at this
 have e2:q.fdiv (cJ p q:Int)=b:=by
  have:=fz b hgi;rwa[←hb]at this
 have n1:p.natAbs=cJ p q*a.natAbs:=by
  have:=congrArg AU ha;rwa[fJ,ax]at this
 have n2:q.natAbs=cJ p q*b.natAbs:=by
  have:=congrArg AU hb;rwa[fJ,ax]at this
 have eg:eM p.natAbs q.natAbs=cJ p q:=rfl;rw[e1]at h1;rw[e2]at h2;rw[eg];refine⟨?_,?_,?_⟩
 ·rw[h1];conv=>rhs;rw[n1]
  rw[oX _ hg]
 ·have:q.natAbs/cJ p q=b.natAbs:=by
   conv=>lhs;rw[n2]
   rw[oX _ hg]
  omega
 ·rw [h1];constructor
  ·intro c;rw[ha];exact Int.mul_neg_of_pos_of_neg (by omega) c
  ·intro c;rcases Int.lt_or_le a 0 with d|d
   ·exact d
   ·have:0≤(cJ p q:Int)*a:=Int.mul_nonneg (by omega) d;omega
end Go.Ae.Bg
namespace Go.Ae.Gj
open Bg
abbrev Mt:=Nat→Nat→Rat
def swp (f a:Nat)(M:Mt):Mt:=fun i=>if i=f then M a else if i=a then M f else M i
def yJ (f:Nat)(b:Rat)(M:Mt):Mt:=fun i k=>if i=f then M i k*b else M i k
def red (f c:Nat)(M:Mt):Mt:=fun i k=>if i=f then M i k else M i k-M i c*M f k
def yB (f c a:Nat)(M:Mt):Mt:=red f c (yJ f (M a c)⁻¹ (swp f a M))
def zE (p:Nat→Bool):Nat→Nat→Option Nat
 |0,_=>none
 |k+1,i=>if p i then some i else zE p k (i+1)
theorem qL {p:Nat→Bool}:∀{k i a:Nat},zE p k i=some a→i≤a∧a<i+k∧p a=true
 |0,i,a,h=>by cases h
 | k +1,i,a,h=>by
  rw[zE]at h;by_cases c:p i=true
  ·rw[if_pos c]at h;cases h;exact⟨ac _,by omega,c⟩
  ·rw[if_neg c]at h;obtain⟨h1,h2,h3⟩:=qL h;exact⟨by omega,by omega,h3⟩
theorem Lg {p:Nat→Bool}{k i:Nat}(hk:0<k)(h:p i=true):zE p k i=some i:=by
 cases k with
 |zero=>omega
 |succ k=>rw[zE,if_pos h]
theorem Iq {p:Nat→Bool}{k i:Nat}(hk:0<k)(h:p i=false):zE p k i=zE p (k-1) (i+1):=by
 cases k with
 |zero=>omega
 |succ k=>rw[zE,h];rfl
def el (n:Nat)(M:Mt):Nat→Option Mt
 |0=>some M
 | c +1=>match el n M c with
  | some E=>match zE (fun i=>decide (E i c≠0)) (n-c) c with
   |some a=>some (yB c c a E)
   |none=>none
  |none=>none
theorem Lm {n c:Nat}{M:Mt}(h:el n M c=none):el n M (c+1)=none:=by rw[el,h]
theorem Lk {n c:Nat}{M E:Mt}(h:el n M c=some E)(hf:zE (fun i=>decide (E i c≠0)) (n-c) c=none):el n M (c+1)=none:=by rw[el,h];simp only[hf]
theorem Ll {n c a:Nat}{M E:Mt}(h:el n M c=some E)(hf:zE (fun i=>decide (E i c≠0)) (n-c) c=some a):el n M (c+1)=some (yB c c a E):=by rw[el,h];simp only[hf]
theorem zO {n:Nat}{M:Mt}{c:Nat}(h:el n M c=none):∀k,el n M (c+k)=none
 |0=>h
 |k+1=>Lm (zO h k)
theorem IP {n:Nat}{M:Mt}{c d:Nat}(h:el n M c=none)(hd:c≤d):el n M d=none:=by
 have:=zO h (d-c);rwa[show c+(d-c)=d by omega]at this
def sm (g:Nat→Rat):Nat→Rat
 |0=>0
 |k+1=>sm g k+g k
theorem yG {f g:Nat→Rat}:∀{n:Nat},(∀k,k<n→f k=g k)→sm f n=sm g n
 |0,_=>rfl
 |n+1,h=>by rw[sm,sm,yG fun k hk=>h k (by omega),h n (by omega)]
theorem Gz {g:Nat→Rat}{b:Rat}:∀{n:Nat},sm (fun k=>g k*b) n=sm g n*b
 |0=>by rw[sm,sm];grind
 |n+1=>by rw[sm,sm,Gz];grind
theorem Gw {f g:Nat→Rat}{t:Rat}:∀{n:Nat},sm (fun k=>f k-t*g k) n=sm f n-t*sm g n
 |0=>by rw[sm,sm,sm];grind
 |n+1=>by rw[sm,sm,sm,Gw];grind
def off (n:Nat)(x:Nat→Rat)(r:Nat→Rat):Rat:=sm (fun k=>r k*x k) n-r n
theorem Do {n:Nat}{x r:Nat→Rat}{b:Rat}:off n x (fun k=>r k*b)=off n x r*b:=by
 unfold off;rw[show(fun k=>r k*b*x k)=fun k=>r k*x k*b by funext k;grind,Gz];grind
theorem KH {n:Nat}{x r s:Nat→Rat}{t:Rat}:off n x (fun k=>r k-t*s k)=off n x r-t*off n x s:=by
 unfold off;rw[show(fun k=>(r k-t*s k)*x k)=fun k=>r k*x k-t*(s k*x k) by funext k;grind,Gw];grind
theorem vU {a b:Rat}(h:a*b=0)(hb:b≠0):a=0:=by
 have h1:a*b*b⁻¹=a:=by rw[Rat.mul_assoc,mo b hb,Rat.mul_one]
 rw[←h1,h,Rat.zero_mul]
theorem Kc {n f c a:Nat}{x:Nat→Rat}{M:Mt}(hf:f<n)(ha:a<n)(h0:M a c≠0)(h:∀i,i<n→off n x (yB f c a M i)=0):∀i,i<n→off n x (M i)=0:=by
 have hb:(M a c)⁻¹≠0:=fun e=>by
  have:=mo _ h0;rw[e,Rat.mul_zero]at this;exact absurd this (by decide)
 have e1:yB f c a M f=fun k=>M a k*(M a c)⁻¹:=by funext k;simp[yB,red,yJ,swp]
 have s1:=h f hf;rw[e1,Do]at s1;have ha0:=vU s1 hb
 have s2:∀i,i<n→i≠f→off n x (swp f a M i)=0:=fun i hi hif=>by
  have:=h i hi
  have e2:yB f c a M i=fun k=>swp f a M i k-swp f a M i c*(M a k*(M a c)⁻¹):=by
   funext k
   simp[yB,red,yJ,hif,swp]
  rw[e2,KH,Do,ha0]at this;grind
 intro i hi;by_cases h1:i=a
 ·rw[h1];exact ha0
 by_cases h2:i=f
 ·have:=s2 a ha (fun e=>h1 (h2.trans e.symm))
  have e3:swp f a M a=M f:=by
   unfold swp;rw[if_neg (fun e=>h1 (h2.trans e.symm)),if_pos rfl]
  rw[h2,←e3];exact this
 ·have:=s2 i hi h2
  have e3:swp f a M i=M i:=by
   unfold swp;rw[if_neg h2,if_neg h1]
  rwa[e3]at this
def unit (n c:Nat)(E:Mt):Prop:=∀i j,i<n→j<c→E i j=if i=j then 1 else 0
theorem Ef {n c a:Nat}{E:Mt}(u:unit n c E)(hc:c<n)(ha:a<n)(hca:c≤a)(h0:E a c≠0):unit n (c+1) (yB c c a E):=by
 have hb:E a c*(E a c)⁻¹=1:=mo _ h0;intro i j hi hj;have ef:∀k,yB c c a E c k=E a k*(E a c)⁻¹:=fun k=>by simp[yB,red,yJ,swp]
 have eo:∀k,i≠c→yB c c a E i k=swp c a E i k-swp c a E i c*(E a k*(E a c)⁻¹):=fun k hk=>by simp[yB,red,yJ,hk,swp]
 by_cases UV:i=c
 ·subst UV;rw[ef];by_cases EM:j=i
  ·subst EM;rw[hb,if_pos rfl]
  ·rw[u a j ha (by omega),if_neg (by omega),if_neg (by omega),Rat.zero_mul]
 ·rw [eo j UV];by_cases hjc:j=c
  ·subst hjc;rw[hb,if_neg UV];grind
  ·have PJ:j<c:=by omega
   rw[u a j ha PJ,if_neg (by omega)]
   have:swp c a E i j=if i=j then 1 else 0:=by
    unfold swp;rw[if_neg UV];by_cases hia:i=a
    ·rw[if_pos hia,u c j hc PJ,if_neg (by omega),if_neg (by omega)]
    ·rw[if_neg hia];exact u i j hi PJ
   rw[this];grind
theorem zP {n:Nat}{M:Mt}:∀{c:Nat} {E:Mt},c≤n→el n M c=some E→unit n c E∧∀x,(∀i,i<n→off n x (E i)=0)→∀i,i<n→off n x (M i)=0
 | 0,E,_,h=>by
  rw[el]at h;cases h
  exact⟨fun i j _ hj=>absurd hj (gz _),fun x h=>h⟩
 | c + 1,E,hc,h=>by
  rw[el]at h;cases he:el n M c with
  |none=>rw[he]at h;cases h
  | some E'=>
   rw[he]at h;simp only at h;cases hf:zE (fun i=>decide (E' i c≠0)) (n-c) c with
   |none=>rw[hf]at h;cases h
   | some a=>
    rw[hf]at h;simp only[bY]at h;subst h;obtain⟨u,s⟩:=zP (by omega) he;obtain⟨a1,a2,a3⟩:=qL hf;have h0:E' a c≠0:=of_decide_eq_true a3;exact⟨Ef u (by omega) (by omega) a1 h0,fun x hx=>s x (Kc (by omega) (by omega) h0 hx)⟩
theorem CV {x:Nat→Rat}{i:Nat}:∀{n:Nat},sm (fun k=>(if i=k then(1:Rat)else 0)*x k) n=if i<n then x i else 0
 |0=>by rw[sm,if_neg (gz _)]
 | n+1=>by
  rw[sm,CV];rcases iN i n with h|h|h
  ·rw[if_pos h,if_neg (by omega),if_pos (by omega)];grind
  ·subst h;rw[if_neg (Nat.lt_irrefl _),if_pos rfl,if_pos (by omega)];grind
  ·rw[if_neg (by omega),if_neg (by omega),if_neg (by omega)];grind
theorem solved {n:Nat}{M E:Mt}(h:el n M n=some E):∀i,i<n→sm (fun k=>M i k*E k n) n=M i n:=by
 obtain⟨u,s⟩:=zP (ac n) h
 have:=s (fun k=>E k n) fun i hi=>by
  unfold off;rw[yG (g:=fun k=>(if i=k then(1:Rat)else 0)*E k n) fun k hk=>by rw[u i k hi hk],CV,if_pos hi];grind
 intro i hi;have:=this i hi;unfold off at this;grind
def Db (e:Nat)(r:Rat):Prop:=r.num.natAbs<10^e∧r.den<10^e
def Rb (e w:Nat)(r:Nat→Rat):Prop:=∃(D:Int) (V:Nat→Int),D≠0∧D.natAbs<10^e∧∀k,k<w→(V k).natAbs<10^e∧r k*(D:Rat)=V k
theorem qt {a b:Nat}(h:a≤b):(10:Nat)^a≤10^b:=aU (by omega) h
theorem Db.mono {e f:Nat}{r:Rat}(i:Db e r)(h:e≤f):Db f r:=⟨ah i.1 (qt h),ah i.2 (qt h)⟩
theorem Rb.mono {e f w:Nat}{r:Nat→Rat}(i:Rb e w r)(h:e≤f):Rb f w r:=by
 obtain⟨D,V,h0,h1,h2⟩:=i;exact⟨D,V,h0,ah h1 (qt h),fun k hk=>⟨ah (h2 k hk).1 (qt h),(h2 k hk).2⟩⟩
theorem xR {z:Int}(h:z≠0):(z:Rat)≠0:=fun e=>h (by rw[←Rat.intCast_zero]at e;exact Rat.intCast_inj.1 e)
theorem Rb.db {e w k:Nat}{r:Nat→Rat}(i:Rb e w r)(hk:k<w):Db e (r k):=by
 obtain⟨D,V,h0,h1,h2⟩:=i;obtain⟨h3,h4⟩:=h2 k hk
 have e1:r k=bP (V k) D:=by
  rw[Rat.divInt_eq_div,←h4];have:=xR h0;grind
 obtain⟨g1,g2⟩:=rJ (p:=V k) h0;rw[e1];exact⟨by omega,by omega⟩
theorem Rb.scale {e w c:Nat}{r:Nat→Rat}(i:Rb e w r)(hc:c<w)(h0:r c≠0):Rb e w (fun k=>r k*(r c)⁻¹):=by
 obtain⟨D,V,d0,h1,h2⟩:=i;have hv:=(h2 c hc).2;have hd:=xR d0;refine⟨V c,V,fun e=>?_,(h2 c hc).1,fun k hk=>⟨(h2 k hk).1,?_⟩⟩
 ·rw[e]at hv;exact h0 (vU (hv.trans Rat.intCast_zero) hd)
 ·rw[←hv,←(h2 k hk).2];have:=mo _ h0;grind
theorem Rb.sub {e f w c:Nat}{r s:Nat→Rat}(i:Rb e w r)(j:Rb f w s)(hc:c<w):Rb (e+f+1) w (fun k=>r k-r c*s k):=by
 obtain⟨D,V,d0,h1,h2⟩:=i;obtain⟨F,U,f0,g1,g2⟩:=j;have ep:(10:Nat)^(e+f+1)=10*(10^e*10^f):=by rw[aW,dz];omega
 have hp:0<10^e*10^f:=fv (dC (by omega)) (dC (by omega))
 have lt:∀{x y:Int},x.natAbs<10^e→y.natAbs<10^f→(x*y).natAbs<10^e*10^f:=fun{x y} hx hy=>by
  rw[fJ];exact ic (aH _ (yr hx)) (gP hy (by omega))
 refine⟨D*F,fun k=>V k*F-V c*U k,Int.mul_ne_zero d0 f0,by rw[ep];have:=lt h1 g1;omega,fun k hk=>⟨?_,?_⟩⟩
 ·have:=lt (h2 k hk).1 g1;have:=lt (h2 c hc).1 (g2 k hk).1;have:=Int.natAbs_sub_le (V k*F) (V c*U k);rw[ep];show(V k*F-V c*U k).natAbs<_;omega
 ·show _=((V k*F-V c*U k:Int):Rat)
  rw[Rat.intCast_sub,lm,lm,lm,←(h2 k hk).2,←(h2 c hc).2,←(g2 k hk).2];grind
def pd (r:Nat→Rat):Nat→Nat
 |0=>1
 |k+1=>pd r k*(r k).den
theorem Hi {r:Nat→Rat}:∀w,0<pd r w
 |0=>vG
 |w+1=>fv (Hi w) (den_pos _)
theorem Hj {r:Nat→Rat}:∀{w k:Nat},k<w→(r k).den∣pd r w
 | w+1,k,h=>by
  rcases cN (Nat.le_of_lt_succ h)with e|e
  ·rw[e];exact Nat.dvd_mul_left _ _
  ·exact Nat.dvd_trans (Hj e) (Nat.dvd_mul_right _ _)
theorem Np {r:Nat→Rat}{d:Nat}:∀{w:Nat},(∀k,k<w→(r k).den≤10^d)→pd r w≤10^(d*w)
 |0,_=>by simp[pd]
 | w+1,h=>by
  rw[pd,Nat.mul_succ,dz];exact eH (Np fun k hk=>h k (by omega)) (h w (by omega))
theorem Rb.of {d w:Nat}{r:Nat→Rat}(h:∀k,k<w→Db d (r k))(h0:0<d):Rb (d*w+d) w r:=by
 have hp:=Hi (r:=r) w;have hl:=Np (r:=r) (d:=d) fun k hk=>yr (h k hk).2
 have e1:(10:Nat)^(d*w+d)=10^(d*w)*10^d:=dz ..;have hd1:1<10^d:=Nat.one_lt_pow (by omega) (by omega);refine⟨(pd r w:Nat),fun k=>(r k).num*((pd r w/(r k).den:Nat):Int),by omega,?_,fun k hk=>?_⟩
 ·rw[ax,e1];have:10^(d*w)*1<10^(d*w)*10^d:=gP hd1 (dC (by omega));omega
 ·obtain⟨q,hq⟩:=Hj (r:=r) hk;have eq:pd r w/(r k).den=q:=by rw[hq];exact oX _ (den_pos _)
  show((r k).num*((pd r w/(r k).den:Nat):Int)).natAbs<_∧_=(((r k).num*((pd r w/(r k).den:Nat):Int):Int):Rat)
  rw[eq];refine⟨?_,?_⟩
  ·rw[fJ,ax,e1,ay];have q1:q≤pd r w:=by rw[hq];exact jT _ (den_pos _)
   have q0:0<q:=Nat.pos_of_ne_zero fun e=>by rw[e]at hq;omega
   exact ah (gP (h k hk).1 q0) (aH _ (az q1 hl))
  ·rw[hq,lm];have e2:((((r k).den*q:Nat):Int):Rat)=(((r k).den:Int):Rat)*((q:Int):Rat):=by rw[bT,lm]
   have e3:r k*(((r k).den:Int):Rat)=((r k).num:Rat):=by
    have h1:=jA (r k);rw[Rat.divInt_eq_div]at h1;have h2:=xR (show((r k).den:Int)≠0 by have:=den_pos (r k);omega);grind
   rw[e2,←e3];grind
def Mb (e n w:Nat)(M:Mt):Prop:=∀i,i<n→Rb e w (M i)
theorem Mb.mono {e f n w:Nat}{M:Mt}(h:Mb e n w M)(hf:e≤f):Mb f n w M:=fun i hi=>(h i hi).mono hf
theorem Mb.swp {e n w f a:Nat}{M:Mt}(h:Mb e n w M)(hf:f<n)(ha:a<n):Mb e n w (swp f a M):=fun i hi=>by
 unfold Gj.swp;by_cases h1:i=f
 ·rw[if_pos h1];exact h a ha
 ·rw[if_neg h1];by_cases h2:i=a
  ·rw[if_pos h2];exact h f hf
  ·rw[if_neg h2];exact h i hi
theorem Mb.yJ {e n w f c:Nat}{M:Mt}(h:Mb e n w M)(hf:f<n)(hc:c<w)(h0:M f c≠0):Mb e n w (yJ f (M f c)⁻¹ M):=fun i hi=>by
 by_cases h1:i=f
 ·subst h1;rw[show Gj.yJ i (M i c)⁻¹ M i=fun k=>M i k*(M i c)⁻¹ by funext k;simp[Gj.yJ]];exact(h i hi).scale hc h0
 ·rw[show Gj.yJ f (M f c)⁻¹ M i=M i by funext k;simp[Gj.yJ,h1]];exact h i hi
theorem Mb.red {e n w f c:Nat}{M:Mt}(h:Mb e n w M)(hf:f<n)(hc:c<w):Mb (e+e+1) n w (red f c M):=fun i hi=>by
 by_cases h1:i=f
 ·rw[show Gj.red f c M i=M i by funext k;simp[Gj.red,h1]];exact(h i hi).mono (by omega)
 ·rw[show Gj.red f c M i=fun k=>M i k-M i c*M f k by funext k;simp[Gj.red,h1]];exact(h i hi).sub (h f hf) hc
theorem yz {f a:Nat}{M:Mt}:swp f a M f=M a:=if_pos rfl
theorem Mb.yB {e n w f c a:Nat}{M:Mt}(h:Mb e n w M)(hf:f<n)(ha:a<n)(hc:c<w)(h0:M a c≠0):Mb (e+e+1) n w (yB f c a M):=by
 unfold Gj.yB;refine Mb.red ?_ hf hc;have:=(h.swp hf ha).yJ hf hc (by rw[yz];exact h0);rwa[yz]at this
def eb (e:Nat):Nat→Nat
 |0=>e
 |k+1=>eb e k+eb e k+1
theorem DK {e:Nat}:∀{j k:Nat},j≤k→eb e j≤eb e k
 |j,0,h=>by rw[Nat.le_zero.1 h];exact ac _
 | j,k+1,h=>by
  rcases cN h with e1|e1
  ·rw[e1];exact ac _
  ·have:=DK (e:=e) (Nat.le_of_lt_succ e1);rw[show eb e (k+1)=eb e k+eb e k+1 from rfl];omega
theorem DJ {n w e:Nat}{M:Mt}(h0:Mb e n w M)(hw:n≤w):∀{c:Nat} {E:Mt},c≤n→el n M c=some E→Mb (eb e c) n w E
 | 0,E,_,h=>by
  rw[el]at h;cases h
  exact h0
 | c + 1,E,hc,h=>by
  rw[el]at h;cases he:el n M c with
  |none=>rw[he]at h;cases h
  | some E'=>
   rw[he]at h;simp only at h;cases hf:zE (fun i=>decide (E' i c≠0)) (n-c) c with
   |none=>rw[hf]at h;cases h
   | some a=>
    rw[hf]at h;simp only[bY]at h;subst h;obtain⟨a1,a2,a3⟩:=qL hf;exact(DJ h0 hw (by omega) he).yB (by omega) (by omega) (by omega) (of_decide_eq_true a3)
end Go.Ae.Gj
namespace Go.Ae
open N Go.Proofs
section
variable {h:Hp}{K:AV→Hp→Prop}
theorem TY {s:List UInt8}{n:Int}(hn:0≤n∧n≤9223372036854775807∧s.length*n.toNat≤140737488355328):ae E2 221 [.str s,.int .i64 n] h K↔K (.str (Lib.repeatL s n.toNat)) h:=by
 rw[ae.gv (p:=L.Bt) rfl rfl];have:L.Bt [.str s,.int .i64 n] h=some (.str (Lib.repeatL s n.toNat),h):=if_pos hn;rw[this];exact aA
theorem c17:ae E2 17 [] h K↔K (.bool true) h:=by
 rw[ae.gv (p:=fun args h=>match Hk args with|some v=>some (v,h)|none=>none) rfl rfl];exact aA
theorem Yn {n k:Nat}(hn:n≤9223372036854775807)(hk:k≤1000):ae E2 186 [.int .i64 n,.int .i64 k] h K↔K (.str (bj n k)) h:=by
 refine ae.cX (ae.fn (fn:=C.Mx) rfl rfl rfl ?_);have hlen:(bj n k).length≤19+k:=iV 19 (by omega);unfold C.Mx;simp(disch:=try exact ab) only[go_sem,seval];refine Wp.bD (fun m s=>∃(n':Nat) (l:List UInt8),val s.tm (.t 0)= .int .i64 n'∧val s.tm (.t 1)= .int .i64 k∧val s.tm (.t 5)= .str l∧s.hp=h∧n'≤n∧bj n' (k-l.length)++l=bj n k∧m=n'+(k-l.length)) (n:=n+k) ?_ ?_
 ·exact⟨n,[],aL,aL,aL,rfl,ac _,by simp,by simp⟩
 ·rintro m ⟨tm,hp⟩ ⟨n',l,h0,h1,h5,rfl,hle,heq,rfl⟩;simp only at h0 h1 h5;have hl:l.length≤(bj n k).length:=by rw[←heq,ar];omega
  have hs:gT ((n':Int)%10).toNat (fV ((n':Int)%10+1).toNat [48,49,50,51,52,53,54,55,56,57])=[dg n']:=by
   rw[show((n':Int)%10).toNat=n'%10 by omega,show((n':Int)%10+1).toNat=n'%10+1 by omega];exact IU
  have hdiv:(n':Int)/10=(n'/10:Nat):=by omega
  have hbad:¬(n'=0∧k-l.length=0)→bj (n'/10) (k-(dg n'::l).length)++dg n'::l=bj n k:=fun hne=>by
   rw[←heq,fc hne,List.append_assoc,aq,Nat.sub_sub];rfl
  repeat'(with_reducible first|simp(disch:=try exact ab) only[go_sem,seval,h0,h1,h5,hs,lJ,List.nil_append]|(apply ai.i<;>intro hc))
  ·refine⟨_,?_,n'/10,dg n'::l,?_,rfl,?_,hbad (by omega),rfl⟩
   ·simp only[aq];omega
   ·rw[hdiv]
   ·omega
  ·refine⟨_,?_,n'/10,dg n'::l,?_,rfl,?_,hbad (by omega),rfl⟩
   ·simp only[aq];omega
   ·rw[hdiv]
   ·omega
  ·rw[←heq,show n'=0 by omega,show k-l.length=0 by omega,iM];rfl
theorem Qe {b:UInt8}:fX b=decide (¬((b.toNat:Int)<48)∧¬(57<(b.toNat:Int))):=by
 unfold fX;congr 1;rw[eq_iff_iff];omega
theorem Yp {s:List UInt8}(hs:s.length≤1000000):ae E2 151 [.str s] h K↔K (.bool (bK s)) h:=by
 refine ae.cX (ae.fn (fn:=C.MC) rfl rfl rfl ?_);unfold C.MC;simp(disch:=try exact ab) only[go_sem,seval];refine Wp.bD (fun m st=>∃i:Nat,val st.tm (.t 0)= .str s∧val st.tm (.t 3)= .int .i64 i∧st.hp=h∧i≤s.length∧bK (s.take i)=true∧m=s.length-i) (n:=s.length) ?_ ?_
 ·exact⟨0,aL,by(simp(disch:=try exact ab) only[go_sem,seval])<;>rfl,rfl,aE _,rfl,rfl⟩
 ·rintro m ⟨tm,hp⟩ ⟨i,h0,h3,rfl,hi,BS,rfl⟩;simp only at h0 h3;by_cases hlt:i<s.length
  ·have hlt':(i:Int)<s.length:=by omega
   have htk:s.take (i+1)=s.take i++[s.getD i 0]:=by
    rw[pw,aC hlt,aR,aC hlt];rfl
   have PW:bK (s.take (i+1))=fX (s.getD i 0):=by
    unfold bK at *;rw[htk,List.all_append,BS];simp
   have sc:fX (s.getD i 0)=false→bK s=false:=fun e=>by
    rw[←PW]at e;cases ha:bK s with
    |false=>rfl
    | true=>
     unfold bK at *;rw[cL]at ha;rw[List.all_eq_false]at e;obtain⟨x,hx,PA⟩:=e;exact absurd (ha x (fQ hx)) PA
   rw[Qe]at sc PW;repeat'(with_reducible first|simp(disch:=try exact ab) only[go_sem,seval,h0,h3,fm]|(apply ai.i<;>intro hc))
   ·rw[sc (by simp_all)]
   ·rw[sc (by simp_all)]
   ·refine⟨_,?_,i+1,rfl,by omega,?_,rfl⟩
    ·omega
    ·rw[PW];simp_all
  ·have hlt':¬(i:Int)<s.length:=by omega
   repeat'(with_reducible first|simp(disch:=try exact ab) only[go_sem,seval,h0,h3]|(apply ai.i<;>intro hc))
   rw[aP (by omega)]at BS;rw[BS]
theorem Yo {s:List UInt8}(hd:bK s=true)(hs:s.length≤18):ae E2 153 [.str s] h K↔K (.int .i64 (bp s)) h:=by
 refine ae.cX (ae.fn (fn:=C.MB) rfl rfl rfl ?_);unfold C.MB;simp(disch:=try exact ab) only[go_sem,seval];refine Wp.bD (fun m st=>∃i:Nat,val st.tm (.t 0)= .str s∧val st.tm (.t 4)= .int .i64 i∧val st.tm (.t 3)= .int .i64 (bp (s.take i))∧st.hp=h∧i≤s.length∧m=s.length-i) (n:=s.length) ?_ ?_
 ·exact⟨0,aL,by(simp(disch:=try exact ab) only[go_sem,seval])<;>rfl,by(simp(disch:=try exact ab) only[go_sem,seval])<;>rfl,rfl,aE _,rfl⟩
 ·rintro m ⟨tm,hp⟩ ⟨i,h0,h4,h3,rfl,hi,rfl⟩;simp only at h0 h3 h4;by_cases hlt:i<s.length
  ·have hlt':(i:Int)<s.length:=by omega
   have htk:s.take (i+1)=s.take i++[s.getD i 0]:=by
    rw[pw,aC hlt,aR,aC hlt];rfl
   have hdi:48≤(s.getD i 0).toNat∧(s.getD i 0).toNat≤57:=by
    have:fX (s.getD i 0)=true:=by
     unfold bK at hd;rw[cL]at hd;rw[aR,aC hlt];exact hd _ (CF hlt)
    simpa[fX]using this
   have hv:bp (s.take (i+1))=bp (s.take i)*10+((s.getD i 0).toNat-48):=by
    unfold bp kp;rw[htk,List.foldl_append];rfl
   have hb:bp (s.take i)<10^17:=by
    have h1:=iK (l:=s.take i) (by unfold bK at *;rw[cL]at *;exact fun x hx=>hd x (fQ hx));exact ah h1 (aU (by decide) (by rw[aB];omega))
   repeat'(with_reducible first|simp(disch:=try exact ab) only[go_sem,seval,h0,h3,h4,fm]|(apply ai.i<;>intro hc))
   refine⟨_,?_,i+1,rfl,?_,by omega,rfl⟩
   ·omega
   ·rw[hv];congr 1;omega
  ·have hlt':¬(i:Int)<s.length:=by omega
   repeat'(with_reducible first|simp(disch:=try exact ab) only[go_sem,seval,h0,h3,h4]|(apply ai.i<;>intro hc))
   rw[aP (by omega)]
end
end Go.Ae
namespace Go.Ae
open Go.Proofs
def bitLen (n:Nat):Nat:=if n=0 then 0 else vj n+1
theorem bitLen_shift {n k:Nat}(h:2^k≤n):bitLen n=k+bitLen (n/2^k):=by
 have hp:0<2^k:=dC (by decide);have h1:n≠0:=by omega
 have h2:n/2^k≠0:=by
  have:=Nat.div_pos h hp;omega
 unfold bitLen;rw[if_neg h1,if_neg h2]
 have:vj n=k+vj (n/2^k):=by
  have e1:=(Nat.le_log2 h2 (k:=vj (n/2^k))).1 (ac _);have e2:=Nat.lt_log2_self (n:=n/2^k)
  have e3:2^(k+vj (n/2^k))≤n:=by
   rw[dz,ay];exact(Nat.le_div_iff_mul_le hp).1 e1
  have e4:n<2^(k+vj (n/2^k)+1):=by
   rw[dm,dz,ay];exact(dj hp).1 e2
  have e5:=(Nat.le_log2 h1).2 e3;have e6:=(Nat.log2_lt h1).2 e4;omega
 omega
theorem mg {n k:Nat}(h:n<2^k):bitLen n≤k:=by
 unfold bitLen;split
 ·omega
 ·have:=(Nat.log2_lt ‹_›).2 h;omega
theorem bitLen_le {n k:Nat}(h:bitLen n≤k):n<2^k:=by
 unfold bitLen at h;split at h
 ·have:0<2^k:=dC (by decide);omega
 ·exact(Nat.log2_lt ‹_›).1 (by omega)
section
variable {h:Hp}{K:AV→Hp→Prop}
abbrev sI (n:Int):AV:= .agg [.int .i64 n,.av]
theorem Uc {q:mW}{k k':IntKind}{m n:Int}(hn:0≤n):dM .shr q (.int k m) (.int k' n)=some (.int k (m.fdiv (2^min n.toNat k.bits))):=by
 simp only[dM,nr];rw[if_neg (by omega)]
theorem rP {q:mW}{k k':IntKind}{m n:Nat}(hn:n≤k.bits):dM .shr q (.int k m) (.int k' n)=some (.int k ((m/2^n:Nat):Int)):=by
 rw[Uc (by omega),fm,cI hn];congr 2;rw[show((2:Int)^n)=((2^n:Nat):Int) by rw[Int.natCast_pow];rfl,Int.fdiv_eq_ediv_of_nonneg _ (jC _)];exact(Int.natCast_ediv m (2^n)).symm
theorem Ec:IntKind.wrap .i64 9223372036854775808= -9223372036854775808:=by decide
theorem FS:IntKind.wrap .i64 (- -9223372036854775808)= -9223372036854775808:=by decide
theorem Ed:IntKind.wrap .u64 (-9223372036854775808)=9223372036854775808:=by decide
theorem Cl {n:Int}(hn: -9223372036854775808≤n∧n≤9223372036854775807):ae E2 262 [.int .i64 n] h K↔K (.int .u64 (n.natAbs:Int)) h:=by
 refine ae.cX (ae.fn (fn:=C.L8) rfl rfl rfl ?_);unfold C.L8;by_cases h1:n= -9223372036854775808
 ·subst h1;repeat'(with_reducible first|simp(disch:=try exact ab) only[go_sem,seval,FS,Ec,Ed]|(apply ai.i<;>intro hc))
  first|done|simp
 ·have e1:n<0→-n=(n.natAbs:Int):=by omega
  have e2:¬n<0→n=(n.natAbs:Int):=by omega
  repeat'(with_reducible first|simp(disch:=try exact ab) only[go_sem,seval]|(apply ai.i<;>intro hc))
  ·rw[e1 hc]
  ·rw[←e2 hc]
theorem Ff {n:Int}:Gv E2 120 [.int .i64 n] h (sI n):=by
 refine Gv.of (ae.fn (fn:=C.MQ) rfl rfl rfl ?_);unfold C.MQ;repeat'(with_reducible first|simp(disch:=try exact ab) only[go_sem,seval]|(apply ai.i<;>intro hc))
 exact aS
theorem Yl {a b:Int}:Gv E2 192 [sI a,sI b] h (.int .i64 (if a<b then -1 else if b<a then 1 else 0)):=by
 refine Gv.of (ae.fn (fn:=C.AB) rfl rfl rfl ?_);unfold C.AB;repeat'(with_reducible first|simp(disch:=try exact ab) only[go_sem,seval]|(apply ai.i<;>intro hc))
 all_goals first|rw[if_pos (by assumption)]|rw[if_neg (by assumption),if_pos (by assumption)]|rw[if_neg (by assumption),if_neg (by assumption)]
 all_goals exact aS
theorem mR {q:mW}{k:IntKind}{m n:Int}(hn:¬n=0):dM .quo q (.int k m) (.int k n)=some (.int k (k.wrap (m.tdiv n))):=Oi hn
theorem uQ {q:mW}{k:IntKind}{m n:Int}(hn:¬n=0):dM .rem q (.int k m) (.int k n)=some (.int k (m.tmod n)):=Oh hn
theorem tdiv_le {a b:Int}(ha: -9223372036854775808<a∧a≤9223372036854775807)(hb:0<b): -9223372036854775807≤a.tdiv b∧a.tdiv b≤9223372036854775807:=by
 have h1:=Int.natAbs_tdiv_le_natAbs a b;omega
theorem xH {a b:Int}(hb:0<b)(hm:a.tmod b<0):a.fdiv b=a.tdiv b-1∧a.fmod b=a.tmod b+b:=by
 have e1:=Int.tmod_add_mul_tdiv a b;have e2:=Int.fmod_add_mul_fdiv a b;have e3:=FN a hb;have e4:=Int.fmod_lt_of_pos a hb;have e5: -b<a.tmod b:=Int.lt_tmod_of_pos a hb
 have key:a.fdiv b=a.tdiv b-1:=by
  have h1:b*(a.tdiv b-1)+(a.tmod b+b)=a:=by rw[yf];omega
  have h2:b*(a.tdiv b-1-a.fdiv b)=a.fmod b-(a.tmod b+b):=by rw[yf];omega
  rcases Int.lt_trichotomy (a.tdiv b-1-a.fdiv b) 0 with h|h|h
  ·have:=il (show a.tdiv b-1-a.fdiv b≤-1 by omega) (show 0≤b by omega);omega
  ·omega
  ·have:=il (show 1≤a.tdiv b-1-a.fdiv b by omega) (show 0≤b by omega);omega
 refine⟨key,?_⟩;rw[key,yf]at e2;omega
theorem xI {a b:Int}(hb:0<b)(hm:¬a.tmod b<0):a.fdiv b=a.tdiv b∧a.fmod b=a.tmod b:=by
 have e1:=Int.tmod_add_mul_tdiv a b;have e2:=Int.fmod_add_mul_fdiv a b;have e3:=FN a hb;have e4:=Int.fmod_lt_of_pos a hb;have e5:a.tmod b<b:=Int.tmod_lt_of_pos a hb
 have key:a.fdiv b=a.tdiv b:=by
  have h2:b*(a.tdiv b-a.fdiv b)=a.fmod b-a.tmod b:=by rw[yf];omega
  rcases Int.lt_trichotomy (a.tdiv b-a.fdiv b) 0 with h|h|h
  ·have:=il (show a.tdiv b-a.fdiv b≤-1 by omega) (show 0≤b by omega);omega
  ·omega
  ·have:=il (show 1≤a.tdiv b-a.fdiv b by omega) (show 0≤b by omega);omega
 refine⟨key,?_⟩;rw[key]at e2;omega
theorem Yk {a b:Int}(ha: -9223372036854775808<a∧a≤9223372036854775807)(hb:0<b∧b≤9223372036854775807):Gv E2 197 [sI a,sI b] h (.gk [sI (a.fdiv b),sI (a.fmod b)]):=by
 refine Gv.of (ae.fn (fn:=C.pW) rfl rfl rfl ?_);unfold C.pW;have hb0:¬b=0:=by omega
 have hm:¬a= -9223372036854775808:=by omega
 have hd:=tdiv_le ha hb.1;have ht: -b<a.tmod b∧a.tmod b<b:=⟨Int.lt_tmod_of_pos a hb.1,Int.tmod_lt_of_pos a hb.1⟩
 repeat'(with_reducible first|simp(disch:=try exact ab) only[go_sem,seval,mR,uQ]|(apply ai.i<;>intro hc))
 ·obtain⟨e1,e2⟩:=xH hb.1 hc;rw[e1,e2];exact aS
 ·obtain⟨e1,e2⟩:=xI hb.1 hc;rw[e1,e2];exact aS
theorem Jt {q:mW}{k:IntKind}{m n:Int}:dM .and q (.int k m) (.int k n)=some (.int k (k.wrap (BitVec.ofInt k.bits m&&&BitVec.ofInt k.bits n).toNat)):=by
 simp[dM,nr,kD,fK,wL]
theorem uR {q:mW}{a:Nat}(ha:a<18446744073709551616):dM .and q (.int .u64 a) (.int .u64 4294967295)=some (.int .u64 ((a%4294967296:Nat):Int)):=by
 rw[Jt];congr 2
 have e:(BitVec.ofInt 64 (a:Int)&&&BitVec.ofInt 64 4294967295).toNat=a%4294967296:=by
  rw[BitVec.toNat_and];simp only[BitVec.toNat_ofInt];have e1:((a:Int)%(2^64:Nat)).toNat=a:=by omega
  rw[e1];exact wX a 32
 show IntKind.wrap .u64 (((BitVec.ofInt 64 (a:Int)&&&BitVec.ofInt 64 4294967295).toNat:Nat):Int)=_
 rw[e,wrap_u64 (by omega)]
theorem Cp {q:mW}{a:Nat}(ha:a<9223372036854775808):dM .and q (.int .i64 a) (.int .i64 1)=some (.int .i64 ((a%2:Nat):Int)):=by
 rw[Jt];congr 2
 have e:(BitVec.ofInt 64 (a:Int)&&&BitVec.ofInt 64 1).toNat=a%2:=by
  rw[BitVec.toNat_and];simp only[BitVec.toNat_ofInt];have e1:((a:Int)%(2^64:Nat)).toNat=a:=by omega
  rw[e1];exact wX a 1
 show IntKind.wrap .i64 (((BitVec.ofInt 64 (a:Int)&&&BitVec.ofInt 64 1).toNat:Nat):Int)=_
 rw[e,wrap_i64 (by omega)]
theorem jr {q:mW}{a:Nat}:dM .shr q (.int .u64 a) (.int .u64 32)=some (.int .u64 ((a/4294967296:Nat):Int)):=rP (n:=32) (by decide)
theorem sF {x y:Nat}(hx:x<18446744073709551616)(hy:y<18446744073709551616):ae E2 261 [.int .u64 x,.int .u64 y] h K↔K (.gk [.int .u64 ((x*y/18446744073709551616:Nat):Int),.int .u64 ((x*y%18446744073709551616:Nat):Int)]) h:=by
 refine ae.cX (ae.fn (fn:=C.L9) rfl rfl rfl ?_);obtain⟨bd,bt,bw,EN⟩:=Lib.mul64_hi x y hx hy;have ba:=Lib.half_mul_le (a:=x/4294967296) (b:=y/4294967296) (by omega) (by omega);have bb:=Lib.half_mul_le (a:=x/4294967296) (b:=y%4294967296) (by omega) (by omega);have bc:=Lib.half_mul_le (a:=x%4294967296) (b:=y/4294967296) (by omega) (by omega);unfold C.L9
 have m0:∀a b:Nat,(a:Int)*(b:Int)=((a*b:Nat):Int):=fun a b=>(bT a b).symm
 have a0:∀a b:Nat,(a:Int)+(b:Int)=((a+b:Nat):Int):=fun a b=>(td a b).symm
 have w0:∀a:Nat,a<18446744073709551616→IntKind.wrap .u64 (a:Int)=(a:Int):=fun a ha=>wrap_u64 (by omega)
 have w1:IntKind.wrap .u64 ((x*y:Nat):Int)=((x*y%18446744073709551616:Nat):Int):=by rw[IntKind.wrap_u64];omega
 simp(disch:=first|assumption|omega|fail) only[go_sem,↓reduceIte,Nat.reduceEqDiff,uR,jr,m0,a0,w0,w1];rw[EN]
 try exact⟨rfl,trivial⟩
def len8tab:List UInt8:=[0,1,2,2,3,3,3,3,4,4,4,4,4,4,4,4,5,5,5,5,5,5,5,5,5,5,5,5,5,5,5,5,6,6,6,6,6,6,6,6,6,6,6,6,6,6,6,6,6,6,6,6,6,6,6,6,6,6,6,6,6,6,6,6,7,7,7,7,7,7,7,7,7,7,7,7,7,7,7,7,7,7,7,7,7,7,7,7,7,7,7,7,7,7,7,7,7,7,7,7,7,7,7,7,7,7,7,7,7,7,7,7,7,7,7,7,7,7,7,7,7,7,7,7,7,7,7,7,8,8,8,8,8,8,8,8,8,8,8,8,8,8,8,8,8,8,8,8,8,8,8,8,8,8,8,8,8,8,8,8,8,8,8,8,8,8,8,8,8,8,8,8,8,8,8,8,8,8,8,8,8,8,8,8,8,8,8,8,8,8,8,8,8,8,8,8,8,8,8,8,8,8,8,8,8,8,8,8,8,8,8,8,8,8,8,8,8,8,8,8,8,8,8,8,8,8,8,8,8,8,8,8,8,8,8,8,8,8,8,8,8,8,8,8,8,8,8,8,8,8,8,8,8,8,8,8]
theorem len8:∀i:Nat,i<256→((len8tab.getD i 0).toNat)=bitLen i:=by decide+kernel
theorem zm {x:Nat}(hx:x<256):HW (.str [0,1,2,2,3,3,3,3,4,4,4,4,4,4,4,4,5,5,5,5,5,5,5,5,5,5,5,5,5,5,5,5,6,6,6,6,6,6,6,6,6,6,6,6,6,6,6,6,6,6,6,6,6,6,6,6,6,6,6,6,6,6,6,6,7,7,7,7,7,7,7,7,7,7,7,7,7,7,7,7,7,7,7,7,7,7,7,7,7,7,7,7,7,7,7,7,7,7,7,7,7,7,7,7,7,7,7,7,7,7,7,7,7,7,7,7,7,7,7,7,7,7,7,7,7,7,7,7,8,8,8,8,8,8,8,8,8,8,8,8,8,8,8,8,8,8,8,8,8,8,8,8,8,8,8,8,8,8,8,8,8,8,8,8,8,8,8,8,8,8,8,8,8,8,8,8,8,8,8,8,8,8,8,8,8,8,8,8,8,8,8,8,8,8,8,8,8,8,8,8,8,8,8,8,8,8,8,8,8,8,8,8,8,8,8,8,8,8,8,8,8,8,8,8,8,8,8,8,8,8,8,8,8,8,8,8,8,8,8,8,8,8,8,8,8,8,8,8,8,8,8,8,8,8,8,8]) (.int .u8 x)=some (.int .u8 (bitLen x:Nat)):=by
 show HW (.str len8tab) (.int .u8 x)=_
 rw[uh ⟨by omega,by rw[show len8tab.length=256 from rfl];omega⟩,fm,len8 x hx]
theorem ll {q:mW}{a:Nat}:dM .shr q (.int .u64 a) (.int .u64 16)=some (.int .u64 ((a/65536:Nat):Int)):=rP (n:=16) (by decide)
theorem oq {q:mW}{a:Nat}:dM .shr q (.int .u64 a) (.int .u64 8)=some (.int .u64 ((a/256:Nat):Int)):=rP (n:=8) (by decide)
theorem TW {x:Nat}(hx:x<18446744073709551616):ae E2 266 [.int .u64 x] h K↔K (.int .i64 (bitLen x:Nat)) h:=by
 refine ae.cX (ae.fn (fn:=C.L6) rfl rfl rfl ?_);unfold C.L6;have s32:4294967296≤x→bitLen x=32+bitLen (x/4294967296):=fun e=>bitLen_shift (k:=32) e
 have s16:∀y,65536≤y→bitLen y=16+bitLen (y/65536):=fun y e=>bitLen_shift (k:=16) e
 have s8:∀y,256≤y→bitLen y=8+bitLen (y/256):=fun y e=>bitLen_shift (k:=8) e
 have b8:∀y,y<256→bitLen y≤8:=fun y e=>mg (k:=8) e
 have l32:x/4294967296<4294967296:=by omega
 by_cases g32:4294967296≤((x:Nat):Int)
 ·have e32:=s32 (by omega);by_cases g16:65536≤((x/4294967296:Nat):Int)
  ·have e16:=s16 (x/4294967296) (by omega);by_cases g8:256≤((x/4294967296/65536:Nat):Int)
   ·have e8:=s8 (x/4294967296/65536) (by omega);have:=b8 (x/4294967296/65536/256) (by omega);simp(disch:=try exact ab) only[go_sem,seval,jr,ll,oq,zm]
    all_goals(congr 1;omega)
   ·skip
    have:=b8 (x/4294967296/65536) (by omega);simp(disch:=try exact ab) only[go_sem,seval,jr,ll,oq,zm]
    all_goals(congr 1;omega)
  ·skip
   by_cases g8:256≤((x/4294967296:Nat):Int)
   ·have e8:=s8 (x/4294967296) (by omega);have:=b8 (x/4294967296/256) (by omega);simp(disch:=try exact ab) only[go_sem,seval,jr,ll,oq,zm]
    all_goals(congr 1;omega)
   ·skip
    have:=b8 (x/4294967296) (by omega);simp(disch:=try exact ab) only[go_sem,seval,jr,ll,oq,zm]
    all_goals(congr 1;omega)
 ·skip
  by_cases g16:65536≤((x:Nat):Int)
  ·have e16:=s16 (x) (by omega);by_cases g8:256≤((x/65536:Nat):Int)
   ·have e8:=s8 (x/65536) (by omega);have:=b8 (x/65536/256) (by omega);simp(disch:=try exact ab) only[go_sem,seval,jr,ll,oq,zm]
    all_goals(congr 1;omega)
   ·skip
    have:=b8 (x/65536) (by omega);simp(disch:=try exact ab) only[go_sem,seval,jr,ll,oq,zm]
    all_goals(congr 1;omega)
  ·skip
   by_cases g8:256≤((x:Nat):Int)
   ·have e8:=s8 (x) (by omega);have:=b8 (x/256) (by omega);simp(disch:=try exact ab) only[go_sem,seval,jr,ll,oq,zm]
    all_goals(congr 1;omega)
   ·skip
    have:=b8 (x) (by omega);simp(disch:=try exact ab) only[go_sem,seval,jr,ll,oq,zm]
    all_goals(congr 1;omega)
end
end Go.Ae
namespace Go.Ae.Bg
def vl (B:Nat):List Nat→Nat
 |[]=>0
 |x::l=>x+B*vl B l
def Dg (B:Nat)(l:List Nat):Prop:=∀x∈l,x<B
def Norm (l:List Nat):Prop:=l.getLast?≠some 0
def dT:List Nat→List Nat
 |[]=>[]
 |x::l=>if x=0∧dT l=[]then[]else x::dT l
variable {B:Nat}{l m:List Nat}{x i:Nat}
theorem jV:vl B []=0:=rfl
theorem gH:vl B (x::l)=x+B*vl B l:=rfl
theorem ku:∀l:List Nat,vl B (l++m)=vl B l+B^l.length*vl B m
 |[]=>by simp[vl]
 | x::l=>by
  rw[lJ,gH,ku l,gH,aq,aW,au,←aI,ay B (B^l.length)];omega
theorem jG:vl B (l++[x])=vl B l+B^l.length*x:=by rw[ku];simp[vl]
theorem getD_eq {l:List Nat}(hi:i<l.length):l.getD i 0=l[i]:=by simp[bQ,hi]
theorem take_succ {l:List Nat}(hi:i<l.length):l.take (i+1)=l.take i++[l.getD i 0]:=by
 rw[pw,getD_eq hi];simp[hi]
theorem aY (hi:i<l.length):vl B (l.take (i+1))=vl B (l.take i)+B^i*l.getD i 0:=by
 rw[take_succ hi,jG,aB,cI (by omega)]
theorem jN:vl B (l.take (i+1))=vl B (l.take i)+B^i*l.getD i 0:=by
 rcases aQ i l.length with h|h
 ·exact aY h
 ·rw[aP (by omega),aP h];have:l.getD i 0=0:=by simp[bQ,cb h]
  rw[this];simp
theorem take_set {l:List Nat}:(l.set i x).take i=l.take i:=by
 rw[List.take_set_of_le (ac _)]
theorem qJ {l:List Nat}(hi:i<l.length):(l.set i x).getD i 0=x:=by simp[bQ,hi]
theorem getD_set_ne {l:List Nat}{j:Nat}(h:i≠j):(l.set i x).getD j 0=l.getD j 0:=by simp[bQ,List.getElem?_set_ne h]
theorem fI (hi:i<l.length):vl B ((l.set i x).take (i+1))=vl B (l.take i)+B^i*x:=by
 rw[aY (by simpa using hi),take_set,qJ hi]
theorem Dg.nil:Dg B []:=by simp[Dg]
theorem Dg.cons (h:x<B)(hl:Dg B l):Dg B (x::l):=by
 intro y hy;rcases fy.1 hy with rfl|hy
 ·exact h
 ·exact hl y hy
theorem Dg.head (h:Dg B (x::l)):x<B:=h x (by simp)
theorem Dg.tail (h:Dg B (x::l)):Dg B l:=fun y hy=>h y (List.mem_cons_of_mem _ hy)
theorem Dg.append (h:Dg B l)(k:Dg B m):Dg B (l++m):=fun y hy=>(dQ.1 hy).elim (h y) (k y)
theorem Dg.left (h:Dg B (l++m)):Dg B l:=fun y hy=>h y (mj _ hy)
theorem Dg.take (h:Dg B l)(n:Nat):Dg B (l.take n):=fun y hy=>h y (fQ hy)
theorem Dg.drop (h:Dg B l)(n:Nat):Dg B (l.drop n):=fun y hy=>h y (List.mem_of_mem_drop hy)
theorem Dg.set (h:Dg B l)(n:Nat)(hx:x<B):Dg B (l.set n x):=by
 intro y hy;rcases List.mem_or_eq_of_mem_set hy with hy|rfl
 ·exact h y hy
 ·exact hx
theorem Dg.ph (hB:0<B)(n:Nat):Dg B (aw n 0):=by
 intro y hy;rw[List.mem_replicate]at hy;omega
theorem Dg.getD (hB:0<B)(h:Dg B l)(i:Nat):l.getD i 0<B:=by
 rcases aQ i l.length with hi|hi
 ·rw[getD_eq hi];exact h _ (CF hi)
 ·have:l.getD i 0=0:=by simp[bQ,cb hi]
  omega
theorem gQ (hB:0<B):∀{l:List Nat},Dg B l→vl B l<B^l.length
 |[],_=>by simp[vl]
 | x::l,h=>by
  have h1:=gQ hB h.tail;have h2:=h.head;have h3:B*(vl B l+1)≤B*B^l.length:=aD _ h1;rw[gH,aq,aW,ay (B^l.length)];rw[au]at h3;omega
theorem nC:∀n:Nat,vl B (aw n 0)=0
 |0=>rfl
 |n+1=>by rw[List.replicate_succ,gH,nC n];simp
theorem Gb (hB:0<B):∀{l m:List Nat},Dg B l→Dg B m→l.length=m.length→vl B l=vl B m→l=m
 |[],[],_,_,_,_=>rfl
 |[],_::_,_,_,h,_=>by simp at h
 |_::_,[],_,_,h,_=>by simp at h
 | x ::l,y::m,hl,hm,h,hv=>by
  rw[gH,gH]at hv;have h1:=hl.head;have h2:=hm.head
  have e:x=y:=by
   have a:(x+B*vl B l)%B=x:=by rw[CE];exact cK h1
   have b:(y+B*vl B m)%B=y:=by rw[CE];exact cK h2
   rw[←a,←b,hv]
  subst e;have:vl B l=vl B m:=CC hB (by omega);rw[Gb hB hl.tail hm.tail (by simpa using h) this]
theorem gi:∀l:List Nat,vl B (dT l)=vl B l
 |[]=>rfl
 | x ::l=>by
  unfold dT;split
  ·rename_i h;have:=gi l;rw[h.2]at this;rw[gH,←this,h.1,jV];simp
  ·rw[gH,gH,gi l]
theorem Dg.trim:∀{l:List Nat},Dg B l→Dg B (dT l)
 |[],h=>h
 | x::l,h=>by
  unfold dT;split
  ·exact Dg.nil
  ·exact Dg.cons h.head (Dg.trim h.tail)
theorem eZ:∀l:List Nat,Norm (dT l)
 |[]=>by simp[dT,Norm]
 | x ::l=>by
  have ih:=eZ l;unfold dT;split
  ·simp[Norm]
  ·rename_i h;unfold Norm at *;cases ht:dT l with
   |nil=>simp only[List.getLast?_singleton,ne_eq,bY];intro e;exact h ⟨e,ht⟩
   |cons y r=>rw[ht]at ih;rw[List.getLast?_cons_cons];exact ih
theorem oH:∀l:List Nat,dT l=l.take (dT l).length
 |[]=>rfl
 | x::l=>by
  unfold dT;split
  ·rfl
  ·rw[aq,List.take_succ_cons,←oH l]
theorem nE (l:List Nat):(dT l).length≤l.length:=by rw[oH l,aB];omega
theorem pz:∀l:List Nat,dT (l++[0])=dT l
 |[]=>rfl
 |x::l=>by rw[lJ,dT,dT,pz l]
theorem rf:∀{l:List Nat},x≠0→dT (l++[x])=l++[x]
 |[],h=>by simp[dT,h]
 |y::l,h=>by rw[lJ,dT,rf h,if_neg (by simp)]
theorem kg (h:l≠[]):∃m x,l=m++[x]:=by
 rcases List.eq_nil_or_concat l with h'|⟨m,x,h'⟩
 ·exact absurd h' h
 ·exact⟨m,x,by simpa using h'⟩
theorem iJ:Norm (l++[x])↔x≠0:=by simp[Norm]
theorem CM (hx:x≠0):B^l.length≤vl B (l++[x]):=by
 rw[jG];have:B^l.length*1≤B^l.length*x:=aD _ (by omega);omega
theorem kA (hB:0<B)(hn:Norm l)(h0:l≠[]):0<vl B l:=by
 obtain⟨m,x,rfl⟩:=kg h0;have:=CM (B:=B) (l:=m) (iJ.1 hn);have:=dC (n:=m.length) hB;omega
theorem jY (hB:1<B)(hl:Dg B l)(hn:Norm m)(h:l.length<m.length):vl B l<vl B m:=by
 have h0:m≠[]:=by rintro rfl;simp at h
 obtain⟨k,x,rfl⟩:=kg h0;have h1:=CM (B:=B) (l:=k) (iJ.1 hn);have h2:=gQ (B:=B) (by omega) hl;have h3:=aU (n:=B) (by omega) (show l.length≤k.length by simp at h;omega);omega
theorem HC (hB:1<B)(hl:Dg B l)(hm:Dg B m)(kl:Norm l)(km:Norm m)(h:vl B l=vl B m):l.length=m.length:=by
 rcases iN l.length m.length with c|c|c
 ·have:=jY hB hl km c;omega
 ·exact c
 ·have:=jY hB hm kl c;omega
theorem tX (hB:1<B)(hl:Dg B l)(hm:Dg B m)(kl:Norm l)(km:Norm m)(h:vl B l=vl B m):l=m:=
 Gb (by omega) hl hm (HC hB hl hm kl km h) h
theorem nD (n:Nat)(hn:n≤l.length):vl B l=vl B (l.take n)+B^n*vl B (l.drop n):=by
 conv=>lhs;rw[←List.take_append_drop n l,ku,aB,cI hn]
theorem xh {a b:List Nat}(hB:0<B)(ha:Dg B a)(hl:a.length=b.length)(hi:i<a.length)(hs:a.drop (i+1)=b.drop (i+1))(h:a.getD i 0<b.getD i 0):vl B a<vl B b:=by
 rw[nD (B:=B) (l:=a) (i+1) (by omega),nD (B:=B) (l:=b) (i+1) (by omega),hs,aY hi,aY (by omega)];have h1:=gQ hB (ha.take i);rw[aB,cI (by omega)]at h1;have h2:B^i*(a.getD i 0+1)≤B^i*b.getD i 0:=aD _ h;rw[au]at h2;omega
theorem py:∀{l:List Nat} {i:Nat},i<l.length→vl B (l.set i x)+B^i*l.getD i 0=vl B l+B^i*x
 |[],_,h=>by simp at h
 |y::l,0,_=>by simp[gH];omega
 | y::l,i+1,h=>by
  have ih:=py (l:=l) (i:=i) (by simpa using h);have e:B*(vl B (l.set i x)+B^i*l.getD i 0)=B*(vl B l+B^i*x):=by rw[ih]
  rw[au,au]at e;have e2:∀z,B^(i+1)*z=B*(B^i*z):=fun z=>by rw[aW,ay (B^i) B,aI]
  simp only[List.set_cons_succ,gH,List.getD_cons_succ];rw[e2,e2];omega
end Go.Ae.Bg
namespace Go.Ae
open Bg
noncomputable section
def wd (kd:IntKind)(n:Nat):AV:= .int kd n
def iS:AV→Nat
 | .sl t _ _ _=>t
 |_=>0
def vT:AV→Nat
 | .sl _ o _ _=>o
 |_=>0
def Sq (kd:IntKind)(h:Hp)(v:AV)(l:List Nat):Prop:=
 (v= .av∧l=[])∨∃(t o:Nat) (own:Bool) (st:Nat) (L:List Nat),v= .sl t o l.length 1∧h.get t=some (.row (L.map (wd kd)) own st)∧o+l.length≤L.length∧(L.drop o).take l.length=l∧t<h.next∧st≤h.df
structure Rd (kd:IntKind)(h:Hp)(v:AV)(l:List Nat):Prop where
 len:vA .slice v=some (.int .i64 l.length)
 iZ:∀(k:IntKind) (i:Int),0≤i∧i<l.length→wi 1 v (.int k i)=some (.ptr (iS v) (vT v+i.toNat))
 tok:l.length≠0→iS v<h.next
 load:∀i,i<l.length→∀h' K,fB false 1 (vT v+i) (h.get (iS v)) h' K↔K (.int kd (l.getD i 0:Nat)) h'
 old:l.length≠0→∀c0,h.df≤c0→jS (h.get (iS v)) c0=true
section
variable {kd:IntKind}{h h':Hp}{v:AV}{l L:List Nat}{i x t o n st:Nat}{own:Bool}{K:AV→Hp→Prop}
theorem Sq.aO (s:Sq kd h v l)(g:aK h h'):Sq kd h' v l:=by
 rcases s with s|⟨t,o,own,st,L,e,hg,h1,h2,h3,h4⟩
 ·exact .inl s
 ·exact .inr ⟨t,o,own,st,L,e,(g.get h3).trans hg,h1,h2,ah h3 g.next,az h4 g.df⟩
theorem Sq.nil:Sq kd h .av []:= .inl ⟨rfl,rfl⟩
theorem Sq.all (hg:h.get t=some (.row (l.map (wd kd)) own st))(ht:t<h.next)(hs:st≤h.df):Sq kd h (.sl t 0 l.length 1) l:=
 .inr ⟨t,0,own,st,l,rfl,hg,by simp,by simp,ht,hs⟩
theorem jI (hi:i<L.length):(L.map (wd kd))[i]?=some (.int kd (L.getD i 0:Nat)):=by
 rw[bZ,aC hi,getD_eq hi];rfl
theorem jj (hi:i<L.length):fV i (L.map (wd kd))++ .int kd (x:Int)::gT (i+1) (L.map (wd kd))=(L.set i x).map (wd kd):=by
 rw[List.map_set,List.set_eq_take_append_cons_drop,if_pos (by simpa using hi)];rfl
theorem JQ (h1:o+l.length≤L.length)(h2:(L.drop o).take l.length=l)(hi:i<l.length):L.getD (o+i) 0=l.getD i 0:=by
 conv=>rhs;rw[←h2]
 simp only[bQ,iD,if_pos hi,jh]
theorem Sq.rd (s:Sq kd h v l):Rd kd h v l:=by
 rcases s with⟨rfl,rfl⟩|⟨t,o,own,st,L,rfl,hg,h1,h2,h3,h4⟩
 ·refine⟨rfl,fun k i hi=>?_,fun e=>absurd rfl e,fun i hi=>?_,fun e=>absurd rfl e⟩
  ·simp only[aM]at hi;omega
  ·simp only[aM]at hi;omega
 ·refine⟨rfl,fun k i hi=>?_,fun _=>h3,fun i hi h' K=>?_,fun _ c0 hc=>?_⟩
  ·rw[qF hi];simp only[iS,vT,dG]
  ·simp only[iS,vT,hg,fB.row];rw[if_pos (by rw[aV];omega),if_neg (by decide),jI (by omega),JQ h1 h2 hi];exact aA
  ·simp only[iS,hg];exact jS.row (az h4 hc)
theorem Sq.take (s:Sq kd h v l)(n:Nat)(hn:n≤l.length):∀{v'},(v'= .av∧v= .av∨v'= .sl (iS v) (vT v) n 1∧v≠ .av)→Sq kd h v' (l.take n):=by
 intro v' hv;rcases s with⟨rfl,rfl⟩|⟨t,o,own,st,L,rfl,hg,h1,h2,h3,h4⟩
 ·rcases hv with⟨rfl,_⟩|⟨_,e⟩
  ·simpa using Sq.nil
  ·exact absurd rfl e
 ·rcases hv with⟨_,e⟩|⟨rfl,_⟩
  ·cases e
  ·refine .inr ⟨t,o,own,st,L,?_,hg,?_,?_,h3,h4⟩
   ·simp only[iS,vT,aB,cI hn]
   ·rw[aB];omega
   ·rw[aB,cI hn]
    conv=>rhs;rw[←h2]
    rw[AI,cI hn]
def bv (h:Hp)(t:Nat)(cs:List AV):Prop:=∃st,h.get t=some (.row cs true st)∧st≤h.df∧t<h.next
theorem bv.put {cs:List AV}(ht:t<h.next):bv (h.put t fun s=> .row cs true s) t cs:=⟨_,Hp.lU,ac _,ht⟩
theorem bv.push {cs:List AV}:bv (h.push fun s=> .row cs true s) h.next cs:=⟨_,Hp.cu,ac _,eQ _⟩
theorem bv.sq (a:bv h t (l.map (wd kd))){n:Nat}(hn:l.length=n):Sq kd h (.sl t 0 n 1) l:=by
 obtain⟨st,hg,hs,ht⟩:=a;subst hn;exact Sq.all hg ht hs
theorem bv.other {cs:List AV}{u:Nat}{f:Nat→di}(a:bv h t cs)(hu:t≠u):bv (h.put u f) t cs:=by
 obtain⟨st,hg,hs,ht⟩:=a;exact⟨st,(Hp.fq hu).trans hg,Nat.le_succ_of_le hs,ht⟩
theorem bv.aO {cs:List AV}(a:bv h t cs)(g:aK h h'):bv h' t cs:=by
 obtain⟨st,hg,hs,ht⟩:=a;exact⟨st,(g.get ht).trans hg,az hs g.df,ah ht g.next⟩
def lI (b:Nat)(z l c:AV)(h:Hp)(K:AV→Hp→Prop):Prop:=
 match l,c with
 | .int .i64 l,.int .i64 c=>0≤l∧l≤c∧c*b≤281474976710656∧c≤281474976710656∧z.one=true∧K (.sl h.next 0 l.toNat 1) (h.push fun s=> .row (rep l.toNat [z]) true s)
 |_,_=>False
theorem Dc (z:AV):∀n:Nat,rep n [z]=aw n z
 |0=>rfl
 |n+1=>by rw[rep,Dc z n,List.replicate_succ];rfl
theorem OB {E:Env}{s:St}{b:Nat}{z:AV}{x y:bC}:cm E (.tY 1 b [z] x y) s K↔lI b z (val s.tm x) (val s.tm y) s.hp K:=by
 rw[M6];simp only[rZ,lI];cases val s.tm x<;>try exact aA
 rename_i k l;cases k<;>try exact aA
 cases val s.tm y<;>try exact aA
 rename_i k' c;cases k'<;>try exact aA
 simp only;split
 ·rename_i hc;obtain⟨a1,a2,a3,a4,a5,a6,a7⟩:=hc;have a7':z.one=true:=by simpa using a7
  simp only[eW,a1,a2,a3,a4,a7',true_and]
 ·rename_i hc;simp only[eW,false_iff];rintro⟨a1,a2,a3,a4,a5,_⟩;exact hc ⟨a1,a2,a3,a4,rfl,by decide,by simpa using a5⟩
theorem lI.int {b:Nat}{z:AV}{n:Nat}(hz:z.one=true)(hn:n≤281474976710656∧n*b≤281474976710656):lI b z (.int .i64 n) (.int .i64 n) h K↔K (.sl h.next 0 n 1) (h.push fun s=> .row (aw n z) true s):=by
 have:((n:Int))*b≤281474976710656:=by have:=hn.2;rw[←bT];exact oE.2 this
 have h1:(0:Int)≤n:=by omega
 have h2:(n:Int)≤281474976710656:=by omega
 simp only[lI,hz,Dc,fm,this,h1,h2,Int.le_refl,true_and]
theorem lI.EI {b:Nat}{z:AV}{m:Int}(n:Nat)(hm:m=n)(hz:z.one=true)(hn:n≤281474976710656∧n*b≤281474976710656):lI b z (.int .i64 m) (.int .i64 m) h K↔K (.sl h.next 0 n 1) (h.push fun s=> .row (aw n z) true s):=by
 subst hm;exact lI.int hz hn
theorem nI {t o n z sz:Nat}{kd:IntKind}{k:Int}(hk:0≤k∧k≤n):El h sz (.sl t o n z) none (some (.int kd k))=some (.sl t o k.toNat z,h):=by
 have:((0:Nat):Int)≤k∧k≤(n:Int):=by omega
 simp only[El,bound,if_pos this,if_true]
theorem Kj {sz:Nat}{kd:IntKind}:El h sz .av none (some (.int kd 0))=some (.av,h):=by
 simp[El,bound]
theorem OO {t o n:Nat}{k1 k2:IntKind}{i j:Int}(hk:0≤i∧i<j∧j≤(n:Int)):El h 1 (.sl t o n 1) (some (.int k1 i)) (some (.int k2 j))=some (.sl t (o+i.toNat) (j.toNat-i.toNat) 1,h):=by
 have h1:((0:Nat):Int)≤j∧j≤(n:Int):=by omega
 have h2:((0:Nat):Int)≤i∧i≤((j.toNat:Nat):Int):=by omega
 simp only[El,bound,if_pos h1,if_pos h2,dG];by_cases h0:i.toNat=0
 ·rw[if_pos h0,h0,aT,Nat.sub_zero]
 ·rw[if_neg h0,if_neg (by simp),if_pos (by omega)]
theorem eW.Ki {v:AV}:eW (some (v,h)) K↔K v h:=aA
attribute [go_sem] OB Vo eW.Ki
end
section
variable {h:Hp}{K:AV→Hp→Prop}
theorem LH {x y c:Nat}(hc:c≤1):ae E2 267 [.int .u64 x,.int .u64 y,.int .u64 c] h K↔K (.gk [.int .u64 ((x+y+c)%18446744073709551616:Nat),.int .u64 ((x+y+c)/18446744073709551616:Nat)]) h:=by
 refine ae.cX (ae.ext (p:=L.JP) rfl (v:= .gk [.int .u64 ((x+y+c)%18446744073709551616:Nat),.int .u64 ((x+y+c)/18446744073709551616:Nat)]) ?_ ⟨rfl,rfl⟩);show(match Nat.ble c 1 with|true=>_|false=>_)=_
 rw[Nat.ble_eq_true_of_le hc];simp only[pH];rfl
theorem uO {x y:Nat}:ae E2 267 [.int .u64 x,.int .u64 y,.int .u64 0] h K↔K (.gk [.int .u64 ((x+y)%18446744073709551616:Nat),.int .u64 ((x+y)/18446744073709551616:Nat)]) h:=LH (c:=0) (by omega)
theorem Ji {x y c:Nat}(hc:c≤1):ae E2 269 [.int .u64 x,.int .u64 y,.int .u64 c] h K↔K (.gk [.int .u64 ((x+18446744073709551616-y-c)%18446744073709551616:Nat),.int .u64 ((if x<y+c then 1 else 0:Nat):Nat)]) h:=by
 refine ae.cX (ae.ext (p:=L.JO) rfl (v:= .gk [.int .u64 ((x+18446744073709551616-y-c)%18446744073709551616:Nat),.int .u64 ((if x<y+c then 1 else 0:Nat):Nat)]) ?_ ⟨rfl,rfl⟩);show(match Nat.ble c 1 with|true=>_|false=>_)=_
 rw[Nat.ble_eq_true_of_le hc];simp only[pH];congr 3;by_cases hb:x<y+c
 ·rw[if_pos hb,show gL x (mu y c)=true from by simpa[jx]using hb];rfl
 ·rw[if_neg hb,show gL x (mu y c)=false from by
   cases hh:gL x (mu y c)with
   |false=>rfl
   |true=>exact absurd (by simpa[jx]using hh) hb];rfl
theorem TV:ae E2 268 [.av] h K↔K .av h:=by
 refine ae.cX (ae.fn (fn:=C.Fs) rfl rfl rfl ?_);unfold C.Fs;repeat'(with_reducible first|simp(disch:=try exact ab) only[go_sem,seval,Wp.lA,Kj]|(apply ai.i<;>intro hc))
theorem TU {t o n st:Nat}{L:List Nat}{own:Bool}(hg:h.get t=some (.row (L.map (wd .u64)) own st))(hn:o+n≤L.length)(Xi:n≤9223372036854775807):
  ae E2 268 [.sl t o n 1] h K↔K (.sl t o (dT ((L.drop o).take n)).length 1) h:=by
 refine ae.cX (ae.fn (fn:=C.Fs) rfl rfl rfl ?_);unfold C.Fs;repeat'(with_reducible first|simp(disch:=try exact ab) only[go_sem,seval]|(apply ai.i<;>intro hc))
 refine Wp.bD (fun m s=>∃k:Nat,val s.tm (.t 0)= .sl t o n 1∧val s.tm (.t 3)= .int .i64 k∧s.hp=h∧k≤n∧dT ((L.drop o).take n)=dT ((L.drop o).take k)∧k=m) (n:=n) ?_ ?_
 ·exact⟨n,aL,aL,rfl,ac _,rfl,rfl⟩
 ·rintro m ⟨tm,hp⟩ ⟨k,h0,h3,rfl,hk,heq,rfl⟩;simp only at h0 h3;rcases aG k with rfl|hpos
  ·have e0:((0:Nat):Int).toNat=0:=rfl;repeat'(with_reducible first|simp(disch:=try exact ab) only[go_sem,seval,h0,h3,nI,e0]|(apply ai.i<;>intro hc))
   rw[heq];simp[dT]
  ·have hp':(0:Int)<k:=by omega
   have e1:((k:Int)-1).toNat=k-1:=by omega
   have hx:(L.map (wd .u64))[o+(k-1)]?=some (.int .u64 (L.getD (o+(k-1)) 0:Nat)):=jI (by omega);have hle:o+(k-1)+1≤L.length:=by omega
   have htk:(L.drop o).take k=(L.drop o).take (k-1)++[L.getD (o+(k-1)) 0]:=by
    have:=take_succ (i:=k-1) (l:=L.drop o) (by rw[bN];omega);rw[bR hpos]at this;rw[this];congr 2;simp[bQ]
   by_cases hz:L.getD (o+(k-1)) 0=0
   ·have zn:((L.getD (o+(k-1)) 0:Nat):Int)=0:=by omega
    repeat'(with_reducible first|simp(disch:=try exact ab) only[go_sem,seval,h0,h3,hp',e1,hg,hx,hle,aV,dG,zn]|(apply ai.i<;>intro hc))
    refine⟨k-1,by omega,k-1,?_,by omega,?_,rfl⟩
    ·congr 1;omega
    ·rw[heq,htk,hz,pz]
   ·have zn:¬((L.getD (o+(k-1)) 0:Nat):Int)=0:=by omega
    repeat'(with_reducible first|simp(disch:=try exact ab) only[go_sem,seval,h0,h3,hp',e1,hg,hx,hle,aV,dG,zn,nI]|(apply ai.i<;>intro hc))
    rw[heq,htk,rf hz,←htk,aB,bN,cI (by omega)]
theorem zB {v:AV}{l:List Nat}(hS:Sq .u64 h v l)(hl:l.length≤9223372036854775807):Gp E2 268 [v] h fun v' h'=>Sq .u64 h' v' (dT l):=by
 rcases hS with⟨rfl,rfl⟩|⟨t,o,own,st,L,rfl,hg,h1,h2,h3,h4⟩
 ·exact Gp.of (TV.2 ⟨Sq.nil,aK.refl h⟩)
 ·refine Gp.of ((TU hg h1 hl).2 ⟨?_,aK.refl h⟩);rw[h2];refine .inr ⟨t,o,own,st,L,rfl,hg,?_,?_,h3,h4⟩
  ·have:=nE l;omega
  ·conv=>rhs;rw[oH l,←h2]
   rw[AI,cI (by rw[h2];exact nE l),h2]
end
end
end Go.Ae
namespace Go.Ae
open Bg
noncomputable section
def jz (a b:Nat):Int:=if a<b then -1 else if b<a then 1 else 0
section
variable {h:Hp}{K:AV→Hp→Prop}
theorem LL {va vb:AV}{a b:List Nat}(ha:Sq .u64 h va a)(hb:Sq .u64 h vb b)(da:Dg 18446744073709551616 a)(db:Dg 18446744073709551616 b)(na:Norm a)(nb:Norm b)(hla:a.length≤9223372036854775807)(hlb:b.length≤9223372036854775807):
  ae E2 205 [va,vb] h K↔K (.int .i64 (jz (vl 18446744073709551616 a) (vl 18446744073709551616 b))) h:=by
 refine ae.cX (ae.fn (fn:=C.Mq) rfl rfl rfl ?_);unfold C.Mq;have ra:=ha.rd;have rb:=hb.rd;by_cases hl:a.length=b.length
 ·have hl':(a.length:Int)=b.length:=by omega
  have hl2:=ra.len;have hl3:=rb.len;rw[←hl]at hl3;repeat'(with_reducible first|simp(disch:=try exact ab) only[go_sem,seval,hl2,hl3]|(apply ai.i<;>intro hc))
  refine Wp.bD (fun m s=>∃k:Nat,val s.tm (.t 0)=va∧val s.tm (.t 1)=vb∧val s.tm (.t 5)= .int .i64 ((k:Int)-1)∧s.hp=h∧k≤a.length∧a.drop k=b.drop k∧k=m) (n:=a.length) ?_ ?_
  ·exact⟨a.length,aL,aL,aL,rfl,ac _,by rw[oD,hl,oD],rfl⟩
  ·rintro m ⟨tm,hp⟩ ⟨k,h0,h1,h5,rfl,hk,heq,rfl⟩;simp only at h0 h1 h5;rcases aG k with rfl|hpos
   ·have e0:((0:Nat):Int)-1= -1:=rfl;repeat'(with_reducible first|simp(disch:=try exact ab) only[go_sem,seval,h0,h1,h5,e0]|(apply ai.i<;>intro hc))
    simp only[eY]at heq;subst heq;simp[jz]
   ·have e1:((k:Int)-1).toNat=k-1:=by omega
    have hp1:(0:Int)≤(k:Int)-1:=by omega
    have ola:=ra.old (by omega);have olb:=rb.old (by omega);have lda:=ra.load (k-1) (by omega);have ldb:=rb.load (k-1) (by omega);have ada:=ra.iZ;have adb:=rb.iZ
    have sda:a.drop (k-1)=a.getD (k-1) 0::a.drop k:=by
     rw[eP (by omega),getD_eq (by omega),bR hpos]
    have sdb:b.drop (k-1)=b.getD (k-1) 0::b.drop k:=by
     rw[eP (by omega),getD_eq (by omega),bR hpos]
    have tl:(k-1+1)=k:=by omega
    generalize SB:a.getD (k-1) 0=xa at *
    generalize SA:b.getD (k-1) 0=xb at *
    by_cases hx:xa=xb
    ·have PA:(xa:Int)=xb:=by omega
     repeat'(with_reducible first|simp(disch:=try exact ab) only[go_sem,seval,h0,h1,h5,hp1,e1,ada,adb,lda,ldb,ola,olb,PA]|(apply ai.i<;>intro hc))
     refine⟨k-1,by omega,k-1,?_,by omega,?_,rfl⟩
     ·congr 1;omega
     ·rw[sda,sdb,heq,hx]
    ·have PA:¬(xa:Int)=xb:=by omega
     by_cases hlt:xa<xb
     ·have hlt':(xa:Int)<xb:=by omega
      repeat'(with_reducible first|simp(disch:=try exact ab) only[go_sem,seval,h0,h1,h5,hp1,e1,ada,adb,lda,ldb,ola,olb,PA,hlt']|(apply ai.i<;>intro hc))
      have:=xh (B:=18446744073709551616) (i:=k-1) (by decide) da hl (by omega) (by rw[tl];exact heq) (by rw[SB,SA];exact hlt);simp[jz,this]
     ·have hlt':¬(xa:Int)<xb:=by omega
      repeat'(with_reducible first|simp(disch:=try exact ab) only[go_sem,seval,h0,h1,h5,hp1,e1,ada,adb,lda,ldb,ola,olb,PA,hlt']|(apply ai.i<;>intro hc))
      have:=xh (B:=18446744073709551616) (i:=k-1) (by decide) db hl.symm (by omega) (by rw[tl];exact heq.symm) (by rw[SB,SA];omega);simp[jz,this,show ¬vl 18446744073709551616 a<vl 18446744073709551616 b by omega]
 ·have hl':¬(a.length:Int)=b.length:=by omega
  have hl2:=ra.len;have hl3:=rb.len;by_cases hlt:a.length<b.length
  ·have hlt':(a.length:Int)<b.length:=by omega
   repeat'(with_reducible first|simp(disch:=try exact ab) only[go_sem,seval,hl2,hl3,hl',hlt']|(apply ai.i<;>intro hc))
   have:=jY (B:=18446744073709551616) (by decide) da nb hlt;simp[jz,this]
  ·have hlt':¬(a.length:Int)<b.length:=by omega
   repeat'(with_reducible first|simp(disch:=try exact ab) only[go_sem,seval,hl2,hl3,hl',hlt']|(apply ai.i<;>intro hc))
   have:=jY (B:=18446744073709551616) (by decide) db na (by omega);simp[jz,this,show ¬vl 18446744073709551616 a<vl 18446744073709551616 b by omega]
theorem Ay {P B o X Y x y c s:Nat}(h:o+P*c=X+Y)(hs:s=x+y+c):o+P*(s%B)+P*B*(s/B)=X+P*x+(Y+P*y):=by
 have e:P*(s%B)+P*B*(s/B)=P*s:=by
  rw[aI,←au];congr 1;have:=cD s B;omega
 have e2:P*s=P*x+P*y+P*c:=by rw[hs,au,au]
 omega
theorem Ax {x y:List Nat}{vx vy:AV}{tm:T AV}(hx:Sq .u64 h vx x)(hy:Sq .u64 h vy y)(dx:Dg 18446744073709551616 x)(dy:Dg 18446744073709551616 y)(hl:y.length≤x.length)(hlx:x.length≤1000000)
  (h0:val tm (.t 0)=vx) (h1:val tm (.t 1)=vy):
  Wp E2 (C.xX.code.post 2) ⟨tm,h⟩ (eT [.tmp 4] fun v h'=>(∃l,Sq .u64 h' v l∧Dg 18446744073709551616 l∧Norm l∧vl 18446744073709551616 l=vl 18446744073709551616 x+vl 18446744073709551616 y)∧aK h h'):=by
 unfold C.xX;dsimp only[ap.post];have lx:=hx.rd.len;have mk:=fun{h:Hp} {K:AV→Hp→Prop}=>lI.EI (h:=h) (K:=K) (b:=8) (z:= .int .u64 0) (m:=(x.length:Int)+1) (x.length+1) rfl rfl (by omega)
 repeat'(with_reducible first|simp(disch:=try exact ab) only[go_sem,seval,h0,h1,lx,mk]|(apply ai.i<;>intro hc))
 have hz:(aw (x.length+1) (AV.int .u64 0))=(aw (x.length+1) 0).map (wd .u64):=by rw[gM];rfl
 rw[hz]
 refine Wp.bD (fun m s=>∃(i c:Nat) (out:List Nat),val s.tm (.t 0)=vx∧val s.tm (.t 1)=vy∧val s.tm (.t 5)= .sl h.next 0 (x.length+1) 1∧val s.tm (.t 6)= .int .u64 c∧val s.tm (.t 21)= .int .i64 x.length∧val s.tm (.t 22)= .int .i64 i∧
  aK h s.hp∧bv s.hp h.next (out.map (wd .u64))∧out.length=x.length+1∧Dg 18446744073709551616 out∧c≤1∧i≤x.length∧
  vl 18446744073709551616 (out.take i)+18446744073709551616^i*c=vl 18446744073709551616 (x.take i)+vl 18446744073709551616 (y.take i)∧m=x.length-i) (n:=x.length) ?_ ?_
 ·refine⟨0,0,aw (x.length+1) 0,by simp(disch:=try exact ab) only[go_sem,seval,h0],by simp(disch:=try exact ab) only[go_sem,seval,h1],aL,by(simp(disch:=try exact ab) only[go_sem,seval])<;>rfl,aL,by(simp(disch:=try exact ab) only[go_sem,seval])<;>rfl,?_,?_,by simp,Dg.ph (by decide) _,by omega,by omega,by simp[vl],rfl⟩
  ·exact aS
  ·exact bv.push
 ·rintro m ⟨tm,hp⟩ ⟨i,c,out,h0,h1,h5,h6,Ld,Lc,hG,⟨st,hgo,PC,hnx⟩,hlo,hd,hc,hle,hinv,rfl⟩;simp only at h0 h1 h5 h6 Ld Lc hG hgo hnx;have rx:=(hx.aO hG).rd;have ry:=(hy.aO hG).rd;by_cases hlt:i<x.length
  ·have hlt':(i:Int)<x.length:=by omega
   have sD:i+1≤out.length:=by omega
   have adx:=rx.iZ;have ady:=ry.iZ;have sC:=rx.load i hlt;have ly:=ry.len;have mK:∀r:Nat,fV i (out.map (wd .u64))++ .int .u64 (r:Int)::gT (i+1) (out.map (wd .u64))=(out.set i r).map (wd .u64):=fun r=>jj (by omega)
   have tkx:=aY (B:=18446744073709551616) hlt;have hxd:=Dg.getD (B:=18446744073709551616) (by decide) dx i;have vf:=Dg.getD (B:=18446744073709551616) (by decide) dy i;have tky:=jN (B:=18446744073709551616) (l:=y) (i:=i)
   have fin:∀s,s=x.getD i 0+y.getD i 0+c→vl 18446744073709551616 ((out.set i (s%18446744073709551616)).take (i+1))+18446744073709551616^(i+1)*(s/18446744073709551616)=vl 18446744073709551616 (x.take (i+1))+vl 18446744073709551616 (y.take (i+1)):=by
    intro s hs;rw[fI (by omega),tkx,tky,aW];exact Ay hinv hs
   by_cases SQ:i<y.length
   ·have BO:(i:Int)<y.length:=by omega
    have ldy:=ry.load i SQ;generalize x.getD i 0=xi at *
    generalize y.getD i 0=yi at *
    repeat'(with_reducible first|simp(disch:=try exact ab) only[go_sem,seval,h0,h1,h5,h6,Ld,Lc,hlt',BO,adx,ady,sC,ldy,ly,LH,hgo,sD,aV,mK,dG]|(apply ai.i<;>intro hc))
    refine⟨_,?_,i+1,(xi+yi+c)/18446744073709551616,out.set i ((xi+yi+c)%18446744073709551616),by simp,rfl,?_,?_,?_,?_,?_,?_,?_,rfl⟩
    ·omega
    ·exact aK.put hG (ac _)
    ·exact bv.put hnx
    ·simpa using hlo
    ·exact hd.set _ (aZ _ (by decide))
    ·omega
    ·exact hlt
    ·exact fin _ rfl
   ·have BO:¬(i:Int)<y.length:=by omega
    have NH:y.getD i 0=0:=by simp[bQ,cb (wV SQ)]
    rw[NH]at fin;generalize x.getD i 0=xi at *
    have Od:=fun{h:Hp} {K:AV→Hp→Prop}=>LH (h:=h) (K:=K) (x:=xi) (y:=0) (c:=c) hc
    rw[Int.natCast_zero]at Od;repeat'(with_reducible first|simp(disch:=try exact ab) only[go_sem,seval,h0,h1,h5,h6,Ld,Lc,hlt',BO,adx,ady,sC,ly,Od,hgo,sD,aV,mK,dG]|(apply ai.i<;>intro hc))
    refine⟨_,?_,i+1,(xi+0+c)/18446744073709551616,out.set i ((xi+0+c)%18446744073709551616),by simp,rfl,?_,?_,?_,?_,?_,?_,?_,rfl⟩
    ·omega
    ·exact aK.put hG (ac _)
    ·exact bv.put hnx
    ·simpa using hlo
    ·exact hd.set _ (aZ _ (by decide))
    ·omega
    ·exact hlt
    ·exact fin _ rfl
  ·have hlt':¬(i:Int)<x.length:=by omega
   obtain rfl:i=x.length:=by omega
   have sD:x.length+1≤out.length:=by omega
   have mK:fV x.length (out.map (wd .u64))++ .int .u64 (c:Int)::gT (x.length+1) (out.map (wd .u64))=(out.set x.length c).map (wd .u64):=jj (by omega);have lx:=rx.len;repeat'(with_reducible first|simp(disch:=try exact ab) only[go_sem,seval,h0,h1,h5,h6,Ld,Lc,hlt',lx,hgo,sD,aV,mK,dG]|(apply ai.i<;>intro hc))
   have hS:=(bv.put (cs:=(out.set x.length c).map (wd .u64)) hnx).sq (n:=x.length+1) (by simp[hlo]);refine Gp.wp (zB hS (by simp;omega)) fun v h' k j g hv=>?_
   repeat'(with_reducible first|simp(disch:=try exact ab) only[go_sem,seval]|(apply ai.i<;>intro hc))
   refine⟨⟨_,hv,(hd.set _ (by omega)).trim,eZ _,?_⟩,?_⟩
   ·rw[gi];have e:=fI (B:=18446744073709551616) (l:=out) (i:=x.length) (x:=c) (by omega);rw[aP (by simp;omega)]at e;rw[e,hinv,bu,aP hl]
   ·exact aK.ov (aK.put hG (ac _))
theorem Yj {va vb:AV}{a b:List Nat}(ha:Sq .u64 h va a)(hb:Sq .u64 h vb b)(da:Dg 18446744073709551616 a)(db:Dg 18446744073709551616 b)(hla:a.length≤1000000)(hlb:b.length≤1000000):
  Gp E2 204 [va,vb] h fun v h'=>∃l,Sq .u64 h' v l∧Dg 18446744073709551616 l∧Norm l∧vl 18446744073709551616 l=vl 18446744073709551616 a+vl 18446744073709551616 b:=by
 refine Gp.of (ae.fn (fn:=C.xX) rfl rfl rfl ?_);have la:=ha.rd.len;have lb:=hb.rd.len;refine Wp.cut 2 rfl ?_;by_cases hl:a.length<b.length
 ·have hl':(a.length:Int)<b.length:=by omega
  have tail:=fun tm h0 h1=>Ax (tm:=tm) hb ha db da (by omega) hlb h0 h1
  generalize ap.post 2 C.xX.code=r at tail⊢
  unfold C.xX;dsimp only[ap.pre];repeat'(with_reducible first|simp(disch:=try exact ab) only[go_sem,seval,la,lb,hl']|(apply ai.i<;>intro hc))
  rw[Nat.add_comm];exact tail _ aL aL
 ·have hl':¬(a.length:Int)<b.length:=by omega
  have tail:=fun tm h0 h1=>Ax (tm:=tm) ha hb da db (by omega) hla h0 h1
  generalize ap.post 2 C.xX.code=r at tail⊢
  unfold C.xX;dsimp only[ap.pre];repeat'(with_reducible first|simp(disch:=try exact ab) only[go_sem,seval,la,lb,hl']|(apply ai.i<;>intro hc))
  exact tail _ aL aL
theorem Gl {P B o X Y x y b r:Nat}(h:o+Y=X+P*b)(hx:x<B)(hy:y<B)(hb:b≤1)(hr:r=(x+B-y-b)%B):
  o+P*r+(Y+P*y)=X+P*x+P*B*(if x<y+b then 1 else 0):=by
 have e:r+y+b=x+B*(if x<y+b then 1 else 0):=by
  split
  ·rw[cK (by omega)]at hr;omega
  ·have:x+B-y-b=(x-y-b)+B:=by omega
   rw[this,Nat.add_mod_right,cK (by omega)]at hr;omega
 have e2:P*r+P*y+P*b=P*x+P*B*(if x<y+b then 1 else 0):=by
  rw[aI,←au,←au,←au,e]
 omega
theorem T3 {vx vy:AV}{x y:List Nat}(hx:Sq .u64 h vx x)(hy:Sq .u64 h vy y)(dx:Dg 18446744073709551616 x)(dy:Dg 18446744073709551616 y)(hl:y.length≤x.length)(hlx:x.length≤1000000)(hv:vl 18446744073709551616 y≤vl 18446744073709551616 x):
  Gp E2 206 [vx,vy] h fun v h'=>∃l,Sq .u64 h' v l∧Dg 18446744073709551616 l∧Norm l∧vl 18446744073709551616 l=vl 18446744073709551616 x-vl 18446744073709551616 y:=by
 refine Gp.of (ae.fn (fn:=C.a206) rfl rfl rfl ?_);unfold C.a206;have lx:=hx.rd.len;have mk:=fun{h:Hp} {K:AV→Hp→Prop}=>lI.int (h:=h) (K:=K) (b:=8) (z:= .int .u64 0) (n:=x.length) rfl (by omega)
 repeat'(with_reducible first|simp(disch:=try exact ab) only[go_sem,seval,lx,mk]|(apply ai.i<;>intro hc))
 have hz:(aw x.length (AV.int .u64 0))=(aw x.length 0).map (wd .u64):=by rw[gM];rfl
 rw[hz]
 refine Wp.bD (fun m s=>∃(i c:Nat) (out:List Nat),val s.tm (.t 0)=vx∧val s.tm (.t 1)=vy∧val s.tm (.t 5)= .sl h.next 0 x.length 1∧val s.tm (.t 6)= .int .u64 c∧val s.tm (.t 13)= .int .i64 x.length∧val s.tm (.t 14)= .int .i64 i∧
  aK h s.hp∧bv s.hp h.next (out.map (wd .u64))∧out.length=x.length∧Dg 18446744073709551616 out∧c≤1∧i≤x.length∧
  vl 18446744073709551616 (out.take i)+vl 18446744073709551616 (y.take i)=vl 18446744073709551616 (x.take i)+18446744073709551616^i*c∧m=x.length-i) (n:=x.length) ?_ ?_
 ·refine⟨0,0,aw x.length 0,aL,aL,aL,by(simp(disch:=try exact ab) only[go_sem,seval])<;>rfl,aL,by(simp(disch:=try exact ab) only[go_sem,seval])<;>rfl,?_,?_,by simp,Dg.ph (by decide) _,by omega,by omega,by simp[vl],rfl⟩
  ·exact aS
  ·exact bv.push
 ·rintro m ⟨tm,hp⟩ ⟨i,c,out,h0,h1,h5,h6,h13,h14,hG,⟨st,hgo,PC,hnx⟩,hlo,hd,hc,hle,hinv,rfl⟩;simp only at h0 h1 h5 h6 h13 h14 hG hgo hnx;have rx:=(hx.aO hG).rd;have ry:=(hy.aO hG).rd;by_cases hlt:i<x.length
  ·have hlt':(i:Int)<x.length:=by omega
   have sD:i+1≤out.length:=by omega
   have adx:=rx.iZ;have ady:=ry.iZ;have sC:=rx.load i hlt;have ly:=ry.len;have mK:∀r:Nat,fV i (out.map (wd .u64))++ .int .u64 (r:Int)::gT (i+1) (out.map (wd .u64))=(out.set i r).map (wd .u64):=fun r=>jj (by omega)
   have tkx:=aY (B:=18446744073709551616) hlt;have hxd:=Dg.getD (B:=18446744073709551616) (by decide) dx i;have vf:=Dg.getD (B:=18446744073709551616) (by decide) dy i;have tky:=jN (B:=18446744073709551616) (l:=y) (i:=i)
   have fin:∀r,r=(x.getD i 0+18446744073709551616-y.getD i 0-c)%18446744073709551616→vl 18446744073709551616 ((out.set i r).take (i+1))+vl 18446744073709551616 (y.take (i+1))=vl 18446744073709551616 (x.take (i+1))+18446744073709551616^(i+1)*(if x.getD i 0<y.getD i 0+c then 1 else 0):=by
    intro s hs;rw[fI (by omega),tkx,tky,aW];exact Gl hinv hxd vf hc hs
   by_cases SQ:i<y.length
   ·have BO:(i:Int)<y.length:=by omega
    have ldy:=ry.load i SQ;generalize x.getD i 0=xi at *
    generalize y.getD i 0=yi at *
    repeat'(with_reducible first|simp(disch:=try exact ab) only[go_sem,seval,h0,h1,h5,h6,h13,h14,hlt',BO,adx,ady,sC,ldy,ly,Ji,hgo,sD,mK]|(apply ai.i<;>intro hc))
    refine⟨_,?_,i+1,(if xi<yi+c then 1 else 0),out.set i ((xi+18446744073709551616-yi-c)%18446744073709551616),by simp,rfl,?_,?_,?_,?_,?_,?_,?_,rfl⟩
    ·omega
    ·exact aK.put hG (ac _)
    ·exact bv.put hnx
    ·simpa using hlo
    ·exact hd.set _ (aZ _ (by decide))
    ·split<;>omega
    ·exact hlt
    ·exact fin _ rfl
   ·have BO:¬(i:Int)<y.length:=by omega
    have NH:y.getD i 0=0:=by simp[bQ,cb (wV SQ)]
    rw[NH]at fin;generalize x.getD i 0=xi at *
    have Oc:=fun{h:Hp} {K:AV→Hp→Prop}=>Ji (h:=h) (K:=K) (x:=xi) (y:=0) (c:=c) hc
    rw[Int.natCast_zero]at Oc;repeat'(with_reducible first|simp(disch:=try exact ab) only[go_sem,seval,h0,h1,h5,h6,h13,h14,hlt',BO,adx,ady,sC,ly,Oc,hgo,sD,mK]|(apply ai.i<;>intro hc))
    refine⟨_,?_,i+1,(if xi<0+c then 1 else 0),out.set i ((xi+18446744073709551616-0-c)%18446744073709551616),by simp,rfl,?_,?_,?_,?_,?_,?_,?_,rfl⟩
    ·omega
    ·exact aK.put hG (ac _)
    ·exact bv.put hnx
    ·simpa using hlo
    ·exact hd.set _ (aZ _ (by decide))
    ·split<;>omega
    ·exact hlt
    ·exact fin _ rfl
  ·have hlt':¬(i:Int)<x.length:=by omega
   obtain rfl:i=x.length:=by omega
   repeat'(with_reducible first|simp(disch:=try exact ab) only[go_sem,seval,h0,h1,h5,h6,h13,h14,hlt']|(apply ai.i<;>intro hc))
   have hS:Sq .u64 hp (.sl h.next 0 x.length 1) out:=bv.sq ⟨st,hgo,PC,hnx⟩ hlo;refine Gp.wp (zB hS (by omega)) fun v h' k j g hv=>?_
   repeat'(with_reducible first|simp(disch:=try exact ab) only[go_sem,seval]|(apply ai.i<;>intro hc))
   refine⟨⟨_,hv,hd.trim,eZ _,?_⟩,?_⟩
   ·rw [gi];rw[bu,aP hl,aP (by omega)]at hinv;have h1:=gQ (B:=18446744073709551616) (by decide) hd;rw[hlo]at h1
    have:c=0:=by
     rcases aG c with h0|h0
     ·exact h0
     ·have:c=1:=by omega
      subst this;omega
    subst this;omega
   ·exact aK.ov hG
end
end
end Go.Ae
namespace Go.Ae
open Go.Proofs
section
variable {h:Hp}{K:AV→Hp→Prop}
theorem T5 {a b:Int}(ha: -9223372036854775808≤a∧a≤9223372036854775807)(hb: -9223372036854775808≤b∧b≤9223372036854775807)(hab:a.natAbs*b.natAbs≤9223372036854775807):Gv E2 195 [sI a,sI b] h (sI (a*b)):=by
 refine Gv.of (ae.fn (fn:=C.pX) rfl rfl rfl ?_);unfold C.pX;have e1:a.natAbs*b.natAbs/18446744073709551616=0:=je (by omega);have e2:a.natAbs*b.natAbs%18446744073709551616=a.natAbs*b.natAbs:=cK (by omega);have e3:(((a.natAbs*b.natAbs:Nat):Int)≤9223372036854775807):=oE.2 hab;have e5:(0:Int)≤((a.natAbs*b.natAbs:Nat):Int):=jC _;have e6:((0:Nat):Int)=0:=rfl;by_cases h1:a<0<;>by_cases h2:b<0
 ·have d1:decide (a<0)=true:=decide_eq_true h1;have d2:decide (b<0)=true:=decide_eq_true h2
  have e4:((a.natAbs*b.natAbs:Nat):Int)=a*b:=by
   rw[bT,show(a.natAbs:Int)= -a by omega,show(b.natAbs:Int)= -b by omega,Int.neg_mul_neg]
  repeat'(with_reducible first|simp(disch:=try exact ab) only[go_sem,seval,Cl,sF,e1,e2,d1,d2,e6]|(apply ai.i<;>intro hc))
  rw[e4];exact aS
 ·have d1:decide (a<0)=true:=decide_eq_true h1;have d2:decide (b<0)=false:=decide_eq_false h2
  have e4: -((a.natAbs*b.natAbs:Nat):Int)=a*b:=by
   rw[bT,show(a.natAbs:Int)= -a by omega,show(b.natAbs:Int)=b by omega,Int.neg_mul,Int.neg_neg]
  repeat'(with_reducible first|simp(disch:=try exact ab) only[go_sem,seval,Cl,sF,e1,e2,d1,d2,e6]|(apply ai.i<;>intro hc))
  rw[e4];exact aS
 ·have d1:decide (a<0)=false:=decide_eq_false h1;have d2:decide (b<0)=true:=decide_eq_true h2
  have e4: -((a.natAbs*b.natAbs:Nat):Int)=a*b:=by
   rw[bT,show(a.natAbs:Int)=a by omega,show(b.natAbs:Int)= -b by omega,Int.mul_neg,Int.neg_neg]
  repeat'(with_reducible first|simp(disch:=try exact ab) only[go_sem,seval,Cl,sF,e1,e2,d1,d2,e6]|(apply ai.i<;>intro hc))
  rw[e4];exact aS
 ·have d1:decide (a<0)=false:=decide_eq_false h1;have d2:decide (b<0)=false:=decide_eq_false h2
  have e4:((a.natAbs*b.natAbs:Nat):Int)=a*b:=by
   rw[bT,show(a.natAbs:Int)=a by omega,show(b.natAbs:Int)=b by omega]
  repeat'(with_reducible first|simp(disch:=try exact ab) only[go_sem,seval,Cl,sF,e1,e2,d1,d2,e6]|(apply ai.i<;>intro hc))
  rw[e4];exact aS
theorem KN {a b:Nat}(hab:a*b≤9223372036854775807)(ha:a≤9223372036854775807)(hb:b≤9223372036854775807):Gv E2 195 [sI a,sI b] h (sI (a*b:Nat)):=by
 rw[bT];exact T5 (by omega) (by omega) (by rw[ax,ax];exact hab)
theorem Co {q:mW}{a:Nat}:dM .shr q (.int .i64 a) (.int .u64 1)=some (.int .i64 ((a/2:Nat):Int)):=rP (n:=1) (by decide)
theorem T4 {a k:Nat}(ha:1≤a)(hk:a^k≤9223372036854775807)(hk':k≤1000000):Gv E2 198 [sI a,.int .i64 k] h (sI (a^k:Nat)):=by
 refine Gv.of (ae.fn (fn:=C.a198) rfl rfl rfl ?_);unfold C.a198;repeat'(with_reducible first|simp(disch:=try exact ab) only[go_sem,seval]|(refine Gv.wp (Ff) fun _ _ _ _=>?_)|(apply ai.i<;>intro hc))
 refine Wp.bD (fun m s=>∃x y k':Nat,val s.tm (.t 1)= .int .i64 k'∧val s.tm (.t 2)= .ptr h.next 0∧val s.tm (.t 4)= .ptr (h.next+1) 0∧∃t5,val s.tm (.t 5)= .ptr t5 0∧At s.hp t5 [.int .i64 y,.av]∧At s.hp h.next [.int .i64 x,.av]∧At s.hp (h.next+1) [.int .i64 0,.av]∧
  (h.next+1<t5∧t5<s.hp.next∧y*x^k'=a^k∧1≤y∧1≤x∧k'≤1000000∧k'=m)∧aK h s.hp) (n:=k) ?_ ?_
 ·refine⟨a,1,k,?_⟩;simp(disch:=try exact ab) only[go_sem,seval];refine⟨⟨by omega,by omega,by omega,ha,hk'⟩,?_⟩;exact aS
 ·rintro m ⟨tm,hp⟩ ⟨x,y,k',h1,h2,h4,t5,h5,⟨s5,g5⟩,⟨s0,g0⟩,⟨s1,g1⟩,⟨n1,n2,heq,hy,hx,hk2,rfl⟩,G⟩;simp only at h1 h2 h4 h5 g5 g0 g1 n2 G;have A5:At hp t5 [.int .i64 y,.av]:=⟨_,g5⟩
  have A0:At hp h.next [.int .i64 x,.av]:=⟨_,g0⟩
  have A1:At hp (h.next+1) [.int .i64 0,.av]:=⟨_,g1⟩
  rcases aG k' with rfl|hp0
  ·have e1:((0:Nat):Int)=0:=rfl;have hyv:y=a^k:=by rw[←heq];simp
   repeat'(with_reducible first|simp(disch:=try exact ab) only[go_sem,seval,h1,h2,h4,h5,g5,g0,g1]|(apply ai.i<;>intro hc))
   subst hyv;exact aS
  ·have bx:x≤x^k':=Nat.le_self_pow (by omega) x;have by_:y*x^k'≤9223372036854775807:=by omega
   have b1:y*x≤y*x^k':=aD y bx
   have b2:2≤k'→x*x≤x^k':=fun e=>by
    have:=aU hx e;rwa[Nat.pow_two]at this
   have b3:x^k'≤y*x^k':=jT _ hy;have b4:y≤y*x^k':=Nat.le_mul_of_pos_right _ (by omega);have b5:2≤k'→x*x≤9223372036854775807:=fun e=>by have:=b2 e;omega
   have p2:x^k'=(x*x)^(k'/2)*x^(k'%2):=by
    rw[←Nat.pow_two,←Nat.pow_mul,←dz,cD]
   have x2:1≤x*x:=fv hx hx;rcases Nat.mod_two_eq_zero_or_one k' with hm|hm
   ·have k1:1<(k':Int):=by omega
    repeat'(with_reducible first|simp(disch:=try exact ab) only[go_sem,seval,h1,h2,h4,h5,g5,g0,g1,Cp,Co,hm]|(refine Gv.wp (KN (b5 (by omega)) (by omega) (by omega)) fun _ _ _ _=>?_)|(apply ai.i<;>intro hc))
    refine⟨k'/2,by omega,x*x,y,k'/2,?_⟩;simp(disch:=try exact ab) only[go_sem,seval,h1,h2,h4,h5,A5,A0,A1];rw[hm,Nat.pow_zero,dG]at p2;refine⟨⟨n1,by omega,by rw[←p2,heq],hy,x2,by omega⟩,?_⟩;exact aS
   ·by_cases k1:1<(k':Int)
    ·repeat'(with_reducible first|simp(disch:=try exact ab) only[go_sem,seval,h1,h2,h4,h5,g5,g0,g1,Cp,Co,hm]|(refine Gv.wp (KN (show y*x≤_ by omega) (by omega) (by omega)) fun _ _ _ _=>?_)|(refine Gv.wp (KN (b5 (by omega)) (by omega) (by omega)) fun _ _ _ _=>?_)|(apply ai.i<;>intro hc))
     refine⟨k'/2,by omega,x*x,y*x,k'/2,?_⟩;simp(disch:=try exact ab) only[go_sem,seval,h1,h2,h4,h5,A5,A0,A1];rw[hm,Nat.pow_one]at p2;refine⟨⟨n1,by omega,by rw[←heq,p2,aI,ay x],fv hy hx,x2,by omega⟩,?_⟩;exact aS
    ·repeat'(with_reducible first|simp(disch:=try exact ab) only[go_sem,seval,h1,h2,h4,h5,g5,g0,g1,Cp,Co,hm]|(refine Gv.wp (KN (show y*x≤_ by omega) (by omega) (by omega)) fun _ _ _ _=>?_)|(apply ai.i<;>intro hc))
     refine⟨k'/2,by omega,x,y*x,k'/2,?_⟩;simp(disch:=try exact ab) only[go_sem,seval,h1,h2,h4,h5,A5,A0,A1];have k1':k'=1:=by omega
     refine⟨⟨n1,by omega,by rw[←heq,k1'];simp,fv hy hx,hx,by omega⟩,?_⟩;exact aS
end
end Go.Ae
namespace Go.Ae.R
open ij bC C
def JM:cP:=⟨96,[.tmp 2],(q [vi 2 0]
 (q [v 8 0,v 3 8]
 (.seq (q [v 9 3,ls 10 9,bi 11 .gtr 10 0,v 12 11,g 13 (m 3) 12 true,g 14 (.idxs (.t 13) (i 0)) 12 true,gb 15 .eql (.t 14) (.k (.int .u8 45)) 12 true,pf 16 12 15]
 (k 16 (.cG [v 17 3,o 18 (.rW (.t 17) (some (i 1)) none),v 3 18])))
 (q [v 19 3,c 20 122 [.t 19],v 4 20]
 (.seq (q [v 21 3,v 22 4,o 23 (.rW (.t 21) none (some (.t 22))),c 24 123 [.t 23],y 25 .not 24,v 26 25,g 27 (m 0) 26 false,g 28 (.idxs (.t 27) (i 0)) 26 false,gb 29 .eql (.t 28) (.k (.int .u8 45)) 26 false,g 30 (m 29) 26 false,g 31 (m 3) 30 true,g 32 (m 4) 30 true,g 33 (.rW (.t 31) none (some (.t 32))) 30 true,gb 34 .eql (.t 33) (.k (.str [48])) 30 true,g 35 (.pick (.t 30) (.t 34) (.k (.bool false))) 26 false,pt 36 26 35]
 (k 36 (q [vi 2 1]
 .ret)))
 (.seq (q [v 37 4,v 38 3,ls 39 38,bt 40 .lss 37 39,v 41 40,g 42 (m 3) 41 true,g 43 (m 4) 41 true,gb 44 .add (.t 43) (i 1) 41 true,g 45 (.rW (.t 42) (some (.t 44)) none) 41 true,gc 46 123 [.t 45] 41 true,g 47 (.un .not (.t 46)) 41 true,g 48 (m 47) 41 true,g 49 (m 3) 48 false,g 50 (m 4) 48 false,gb 51 .add (.t 50) (i 1) 48 false,g 52 (.rW (.t 49) (some (.t 51)) none) 48 false,gb 53 .eql (.t 52) (.k (.str [48])) 48 false,g 54 (.pick (.t 48) (.k (.bool true)) (.t 53)) 41 true,g 55 (m 54) 41 true,g 56 (m 3) 55 false,g 57 (m 4) 55 false,gb 58 .add (.t 57) (i 1) 55 false,g 59 (.rW (.t 56) (some (.t 58)) none) 55 false,gb 60 .eql (.t 59) (.k (.str [49])) 55 false,g 61 (.pick (.t 55) (.k (.bool true)) (.t 60)) 41 true,pf 62 41 61]
 (k 62 (q [vi 2 1]
 .ret)))
 (.seq (q [v 63 4,bi 64 .gtr 63 600,v 65 64,g 66 (m 3) 65 false,g 67 (.len .str (.t 66)) 65 false,g 68 (m 4) 65 false,gb 69 .sub (.t 67) (.t 68) 65 false,gb 70 .sub (.t 69) (i 1) 65 false,gb 71 .gtr (.t 70) (i 600) 65 false,pt 72 65 71]
 (k 72 (q [vi 2 4]
 .ret)))
 (.seq (q [v 73 4,v 74 3,ls 75 74,bt 76 .lss 73 75]
 (k 76 (q [v 78 3,c 79 124 [.t 78],v 77 79,e 80 77 0,e 81 77 1,o 5 (.alloc [.bool false,.av]),o 6 (.alloc [.bool false,.av]),s 2 5 80,s 2 6 81]
 (q [fa 82 1 5,l 83 false 1 82,fa 84 1 6,l 85 false 1 84,c 86 125 [.t 83,.t 85],v 7 86]
 (q [v 87 7,ln 88 87,bi 89 .neq 88 1,v 90 89,g 91 (m 7) 90 false,g 92 (.gR 1 (.t 91) (i 0)) 90 false,gl 93 false 1 92 90 false,gb 94 .neq (.t 93) (i 1) 90 false,pt 95 90 94]
 (k 95 (q [vi 2 1]
 .ret)))))))
 (q [vi 2 0]
 .ret)))))))))⟩
def a21:cP:=⟨13,[.tmp 2],(q [vi 2 0]
 (.seq (q [v 3 0,b 4 .eql (.t 3) (.k (.str [48]))]
 (k 4 (q [vi 2 0]
 .ret)))
 (.seq (q [v 5 0,ls 6 5,bi 7 .gtr 6 0,v 8 7,g 9 (m 0) 8 true,g 10 (.idxs (.t 9) (i 0)) 8 true,gb 11 .eql (.t 10) (.k (.int .u8 45)) 8 true,pf 12 8 11]
 (k 12 (q [vi 2 (-1)]
 .ret)))
 (q [vi 2 1]
 .ret))))⟩
def Vj:cP:=⟨37,[.tmp 2],(q [vi 2 0]
 (.seq (q [v 5 0,ln 6 5,bi 7 .eql 6 0]
 (k 7 (q [vi 2 12]
 .ret)))
 (.seq (q [v 8 0,ln 9 8,bi 10 .gtr 9 256]
 (k 10 (q [vi 2 5]
 .ret)))
 (q [vi 3 0]
 (.seq (q [vi 4 0]
 (.block 0 (.loop (.seq (q [v 11 4,v 12 0,ln 13 12,bt 14 .lss 11 13]
 (.cond (.t 14) .skip
 (.exit 0)))
 (.seq (.block 1 (.seq (q [v 17 0,v 18 4,ix 19 1 17 18,l 20 false 1 19,bi 21 .lss 20 0,v 22 21,g 23 (m 0) 22 false,g 24 (m 4) 22 false,g 25 (.gR 1 (.t 23) (.t 24)) 22 false,gl 26 false 1 25 22 false,gb 27 .gtr (.t 26) (i 999999999) 22 false,pt 28 22 27]
 (k 28 (q [vi 2 3]
 .ret)))
 (.cG [v 29 3,v 30 0,v 31 4,ix 32 1 30 31,l 33 false 1 32,bt 34 .add 29 33,v 3 34])))
 (.cG [v 15 4,bi 16 .add 15 1,v 4 16]))))))
 (.seq (q [v 35 3,bi 36 .eql 35 0]
 (k 36 (q [vi 2 6]
 .ret)))
 (q [vi 2 0]
 .ret)))))))⟩
def Vh:cP:=⟨42,[.tmp 4],(q [vi 4 0]
 (.seq (q [v 7 0,ln 8 7,bi 9 .eql 8 0]
 (k 9 (q [vi 4 12]
 .ret)))
 (.seq (q [v 10 0,ln 11 10,bi 12 .gtr 11 24]
 (k 12 (q [vi 4 5]
 .ret)))
 (.seq (q [vi 5 0]
 (.block 0 (.loop (.seq (q [v 13 5,v 14 0,ln 15 14,bt 16 .lss 13 15]
 (.cond (.t 16) .skip
 (.exit 0)))
 (.seq (.block 1 (.seq (q [v 19 0,v 20 5,ix 21 1 19 20,l 22 false 1 21,ln 23 22,v 24 0,ln 25 24,bt 26 .neq 23 25]
 (k 26 (q [vi 4 2]
 .ret)))
 (q [v 27 0,v 28 5,ix 29 1 27 28,l 30 false 1 29,c 31 56 [.t 30],v 6 31]
 (q [v 32 6,bi 33 .neq 32 0]
 (k 33 (q [v 34 6,v 4 34]
 .ret))))))
 (.cG [v 17 5,bi 18 .add 17 1,v 5 18]))))))
 (.seq (q [v 35 1,ln 36 35,v 37 0,ln 38 37,bt 39 .neq 36 38]
 (k 39 (q [vi 4 2]
 .ret)))
 (q [v 40 1,c 41 56 [.t 40],v 4 41]
 .ret))))))⟩
def Vg:cP:=⟨40,[.tmp 8],(q [o 8 (.mv (.k (.bool false)))]
 (.seq (q [v 10 0,ln 11 10,v 12 1,bt 13 .gtr 11 12]
 (k 13 (q [o 8 (.mv (.k (.bool false)))]
 .ret)))
 (.seq (q [vi 9 0]
 (.block 0 (.loop (.seq (q [v 14 9,v 15 0,ln 16 15,bt 17 .lss 14 16]
 (.cond (.t 17) .skip
 (.exit 0)))
 (.seq (.block 1 (.seq (.cC [v 20 0,v 21 9,ix 22 1 20 21,w 23 false 1 22 3,ln 24 23,v 25 0,o 26 (.gR 1 (.t 25) (i 0)),w 27 false 1 26 7,ln 28 27,bt 29 .neq 24 28,v 30 29,g 31 (m 0) 30 false,g 32 (m 9) 30 false,g 33 (.gR 1 (.t 31) (.t 32)) 30 false,x 34 false 1 33 30 false 14,g 35 (m 2) 30 false,g 36 (m 3) 30 false,gc 37 36 [.t 34,.t 35,.t 36] 30 false,g 38 (.un .not (.t 37)) 30 false,pt 39 30 38])
 (k 39 (q [o 8 (.mv (.k (.bool false)))]
 .ret))))
 (.cG [v 18 9,bi 19 .add 18 1,v 9 19]))))))
 (q [o 8 (.mv (.k (.bool true)))]
 .ret))))⟩
def Vf:cP:=⟨25,[.tmp 6],(q [o 6 (.mv (.k (.bool false)))]
 (.seq (q [v 8 0,ln 9 8,v 10 1,bt 11 .gtr 9 10]
 (k 11 (q [o 6 (.mv (.k (.bool false)))]
 .ret)))
 (.seq (q [vi 7 0]
 (.block 0 (.loop (.seq (q [v 12 7,v 13 0,ln 14 13,bt 15 .lss 12 14]
 (.cond (.t 15) .skip
 (.exit 0)))
 (.seq (.block 1 (q [v 18 0,v 19 7,ix 20 1 18 19,l 21 false 1 20,v 22 2,c 23 135 [.t 21,.t 22],y 24 .not 23]
 (k 24 (q [o 6 (.mv (.k (.bool false)))]
 .ret))))
 (.cG [v 16 7,bi 17 .add 16 1,v 7 17]))))))
 (q [o 6 (.mv (.k (.bool true)))]
 .ret))))⟩
def Ve:cP:=⟨10,[.tmp 2],(q [vi 2 0]
 (.seq (q [v 3 0,ln 4 3,bi 5 .eql 4 0]
 (k 5 (q [vi 2 0]
 .ret)))
 (q [v 6 0,o 7 (.gR 1 (.t 6) (i 0)),l 8 false 1 7,ln 9 8,v 2 9]
 .ret)))⟩
def Vd:cP:=⟨19,[.tmp 2],(q [vi 2 0]
 (.seq (q [vi 3 0]
 (.block 0 (.loop (.seq (q [v 5 3,v 6 0,ln 7 6,bt 8 .lss 5 7]
 (.cond (.t 8) .skip
 (.exit 0)))
 (.seq (.block 1 (q [v 11 0,v 12 3,ix 13 1 11 12,l 14 false 1 13,c 15 19 [.t 14],v 4 15]
 (q [v 16 4,bi 17 .neq 16 0]
 (k 17 (q [v 18 4,v 2 18]
 .ret)))))
 (.cG [v 9 3,bi 10 .add 9 1,v 3 10]))))))
 (q [vi 2 0]
 .ret)))⟩
def a72:cP:=⟨63,[.tmp 4],(q [o 4 (.mv (.k (.str [])))]
 (q [v 16 0,c 17 168 [.t 16],v 15 17,e 18 15 0,e 19 15 1,e 20 15 2,v 5 18,v 6 19,v 7 20]
 (q [v 22 1,c 23 168 [.t 22],v 21 23,e 24 21 0,e 25 21 1,e 26 21 2,v 8 24,v 9 25,v 10 26]
 (.seq (q [v 27 7,v 28 27,g 29 (m 10) 28 true,pf 30 28 29]
 (k 30 (q [v 31 5,v 32 9,bt 33 .mul 31 32,v 34 8,v 35 6,bt 36 .mul 34 35,bt 37 .add 33 36,v 38 6,v 39 9,bt 40 .mul 38 39,c 41 99 [.t 37,.t 40],v 4 41]
 .ret)))
 (q [v 43 0,c 44 124 [.t 43],v 42 44,e 45 42 0,e 46 42 1,o 11 (.alloc [.bool false,.av]),o 12 (.alloc [.bool false,.av]),s 2 11 45,s 2 12 46]
 (q [v 48 1,c 49 124 [.t 48],v 47 49,e 50 47 0,e 51 47 1,o 13 (.alloc [.bool false,.av]),o 14 (.alloc [.bool false,.av]),s 2 13 50,s 2 14 51]
 (.seq (.cC [w 52 true 2 11 0,w 53 true 2 14 1,c 54 171 [.t 52,.t 53],w 55 true 2 13 3,w 56 true 2 12 4,c 57 171 [.t 55,.t 56],c 58 170 [.t 54,.t 57],w 59 true 2 12 7,w 60 true 2 14 8,c 61 171 [.t 59,.t 60],c 62 169 [.t 58,.t 61],v 4 62])
 .ret)))))))⟩
def QA:cP:=⟨55,[.tmp 4],(q [o 4 (.mv (.k (.str [])))]
 (q [v 16 0,c 17 168 [.t 16],v 15 17,e 18 15 0,e 19 15 1,e 20 15 2,v 5 18,v 6 19,v 7 20]
 (q [v 22 1,c 23 168 [.t 22],v 21 23,e 24 21 0,e 25 21 1,e 26 21 2,v 8 24,v 9 25,v 10 26]
 (.seq (q [v 27 7,v 28 27,g 29 (m 10) 28 true,pf 30 28 29]
 (k 30 (q [v 31 5,v 32 8,bt 33 .mul 31 32,v 34 6,v 35 9,bt 36 .mul 34 35,c 37 99 [.t 33,.t 36],v 4 37]
 .ret)))
 (q [v 39 0,c 40 124 [.t 39],v 38 40,e 41 38 0,e 42 38 1,o 11 (.alloc [.bool false,.av]),o 12 (.alloc [.bool false,.av]),s 2 11 41,s 2 12 42]
 (q [v 44 1,c 45 124 [.t 44],v 43 45,e 46 43 0,e 47 43 1,o 13 (.alloc [.bool false,.av]),o 14 (.alloc [.bool false,.av]),s 2 13 46,s 2 14 47]
 (.seq (.cC [w 48 true 2 11 0,w 49 true 2 13 1,c 50 171 [.t 48,.t 49],w 51 true 2 12 3,w 52 true 2 14 4,c 53 171 [.t 51,.t 52],c 54 169 [.t 50,.t 53],v 4 54])
 .ret)))))))⟩
def Qz:cP:=⟨61,[.tmp 4],(q [o 4 (.mv (.k (.str [])))]
 (.seq (q [v 7 0,bi 8 .lss 7 (-4000000000000000000),v 9 8,g 10 (m 0) 9 false,gb 11 .gtr (.t 10) (i 4000000000000000000) 9 false,pt 12 9 11,v 13 12,g 14 (m 1) 13 false,gb 15 .lss (.t 14) (i (-4000000000000000000)) 13 false,pt 16 13 15,v 17 16,g 18 (m 1) 17 false,gb 19 .gtr (.t 18) (i 4000000000000000000) 17 false,pt 20 17 19]
 (k 20 (q [v 21 0,c 22 182 [.t 21],v 23 1,c 24 182 [.t 23],c 25 169 [.t 22,.t 24],v 4 25]
 .ret)))
 (.seq (q [v 26 1,bi 27 .lss 26 0]
 (k 27 (.cG [v 28 0,b 29 .sub (i 0) (.t 28),v 30 1,b 31 .sub (i 0) (.t 30),v 0 29,v 1 31])))
 (q [v 32 0,v 33 0,b 34 .sub (i 0) (.t 33),o 35 (.mx [.t 32,.t 34]),v 36 1,c 37 185 [.t 35,.t 36],v 5 37]
 (.seq (.cC [v 38 0,v 39 5,bt 40 .quo 38 39,v 41 1,v 42 5,bt 43 .quo 41 42,v 0 40,v 1 43])
 (q [o 6 (.mv (.k (.str [])))]
 (.seq (q [v 44 0,bi 45 .lss 44 0]
 (k 45 (.cG [o 6 (.mv (.k (.str [45])))])))
 (q [v 46 6,v 47 0,v 48 0,b 49 .sub (i 0) (.t 48),o 50 (.mx [.t 47,.t 49]),c 51 186 [.t 50,i 1],bt 52 .add 46 51,v 6 52]
 (.seq (q [v 53 1,bi 54 .gtr 53 1]
 (k 54 (.cG [v 55 6,b 56 .add (.t 55) (.k (.str [47])),v 57 1,c 58 186 [.t 57,i 1],bt 59 .add 56 58,v 6 59])))
 (q [v 60 6,v 4 60]
 .ret))))))))))⟩
def MP:cP:=⟨17,[.tmp 2],(q [vi 2 0]
 (.seq (q [vi 3 0]
 (.block 0 (.loop (.seq (q [v 4 3,v 5 0,ls 6 5,bt 7 .lss 4 6]
 (.cond (.t 7) .skip
 (.exit 0)))
 (.seq (.block 1 (q [v 10 0,v 11 3,o 12 (.idxs (.t 10) (.t 11)),b 13 .eql (.t 12) (.k (.int .u8 47))]
 (k 13 (q [v 14 3,v 2 14]
 .ret))))
 (.cG [v 8 3,bi 9 .add 8 1,v 3 9]))))))
 (q [v 15 0,ls 16 15,v 2 16]
 .ret)))⟩
def MN:cP:=⟨18,[.tmp 2],(q [o 2 (.mv (.k (.bool false)))]
 (.seq (q [v 3 0,ls 4 3,bi 5 .eql 4 0,v 6 5,g 7 (m 0) 6 false,g 8 (.len .str (.t 7)) 6 false,gb 9 .gtr (.t 8) (i 1) 6 false,g 10 (m 9) 6 false,g 11 (m 0) 10 true,g 12 (.idxs (.t 11) (i 0)) 10 true,gb 13 .eql (.t 12) (.k (.int .u8 48)) 10 true,g 14 (.pick (.t 10) (.t 13) (.k (.bool false))) 6 false,pt 15 6 14]
 (k 15 (q [o 2 (.mv (.k (.bool false)))]
 .ret)))
 (q [v 16 0,c 17 151 [.t 16],v 2 17]
 .ret)))⟩
def a124:cP:=⟨25,[.cell 2 true 2,.cell 3 true 2],(q [o 2 (.alloc [.bool false,.av]),o 3 (.alloc [.bool false,.av])]
 (q [v 6 0,v 4 6]
 (q [v 7 4,c 8 122 [.t 7],v 5 8]
 (.seq (q [v 9 5,v 10 4,ls 11 10,bt 12 .eql 9 11]
 (k 12 (q [v 13 4,c 14 207 [.t 13],c 15 182 [i 1],s 2 2 14,s 2 3 15]
 .ret)))
 (.seq (.cC [v 16 4,v 17 5,o 18 (.rW (.t 16) none (some (.t 17))),c 19 207 [.t 18],v 20 4,v 21 5,bi 22 .add 21 1,o 23 (.rW (.t 20) (some (.t 22)) none),c 24 207 [.t 23],s 2 2 19,s 2 3 24])
 .ret)))))⟩
def MM:cP:=⟨19,[.tmp 4],(q [o 4 (.mv (.k (.av)))]
 (.seq (.block 0 (.loop (.seq (q [v 7 1,ln 8 7,bi 9 .gtr 8 0]
 (.cond (.t 9) .skip
 (.exit 0)))
 (.block 1 (q [v 11 0,v 12 1,c 13 208 [.t 11,.t 12],v 10 13,e 14 10 0,e 15 10 1,v 5 14,v 6 15]
 (.cG [v 16 1,v 17 6,v 0 16,v 1 17]))))))
 (q [v 18 0,v 4 18]
 .ret)))⟩
def ML:cP:=⟨7,[.tmp 2],(q [o 2 (.mv (.k (.str [])))]
 (q [v 3 0,v 4 0,c 5 122 [.t 4],o 6 (.rW (.t 3) none (some (.t 5))),v 2 6]
 .ret))⟩
def MK:cP:=⟨14,[.tmp 2],(q [o 2 (.mv (.k (.str [])))]
 (q [v 4 0,c 5 122 [.t 4],v 3 5]
 (.seq (q [v 6 3,v 7 0,ls 8 7,bt 9 .eql 6 8]
 (k 9 (q [o 2 (.mv (.k (.str [49])))]
 .ret)))
 (q [v 10 0,v 11 3,bi 12 .add 11 1,o 13 (.rW (.t 10) (some (.t 12)) none),v 2 13]
 .ret))))⟩
def MG:cP:=⟨31,[.tmp 4],(q [o 4 (.mv (.k (.bool false)))]
 (q [v 5 0,ls 6 5,v 7 1,b 8 .mul (i 2) (.t 7),bi 9 .add 8 2,bt 10 .leq 6 9,v 11 10,g 12 (m 0) 11 true,gc 13 19 [.t 12] 11 true,gb 14 .eql (.t 13) (i 0) 11 true,pf 15 11 14,v 16 15,g 17 (m 0) 16 true,gc 18 128 [.t 17] 16 true,gc 19 214 [.t 18] 16 true,g 20 (.len .str (.t 19)) 16 true,g 21 (m 1) 16 true,gb 22 .leq (.t 20) (.t 21) 16 true,pf 23 16 22,v 24 23,g 25 (m 0) 24 true,gc 26 129 [.t 25] 24 true,g 27 (.len .str (.t 26)) 24 true,g 28 (m 1) 24 true,gb 29 .leq (.t 27) (.t 28) 24 true,pf 30 24 29,v 4 30]
 .ret))⟩
def a168:cP:=⟨54,[.tmp 2,.tmp 3,.tmp 4],(q [vi 2 0,vi 3 0,o 4 (.mv (.k (.bool false)))]
 (q [v 10 0,v 5 10]
 (.seq (q [v 11 5,ls 12 11,bi 13 .gtr 12 20]
 (k 13 (q [vi 2 0,vi 3 0,o 4 (.mv (.k (.bool false)))]
 .ret)))
 (q [v 14 5,ls 15 14,bi 16 .gtr 15 0,v 17 16,g 18 (m 5) 17 true,g 19 (.idxs (.t 18) (i 0)) 17 true,gb 20 .eql (.t 19) (.k (.int .u8 45)) 17 true,pf 21 17 20,v 6 21]
 (.seq (q [v 22 6]
 (k 22 (.cG [v 23 5,o 24 (.rW (.t 23) (some (i 1)) none),v 5 24])))
 (q [v 25 5,c 26 122 [.t 25],v 7 26]
 (.seq (q [v 27 7,bi 28 .gtr 27 9,v 29 28,g 30 (m 5) 29 false,g 31 (.len .str (.t 30)) 29 false,g 32 (m 7) 29 false,gb 33 .sub (.t 31) (.t 32) 29 false,gb 34 .gtr (.t 33) (i 10) 29 false,pt 35 29 34]
 (k 35 (q [vi 2 0,vi 3 0,o 4 (.mv (.k (.bool false)))]
 .ret)))
 (q [v 36 5,v 37 7,o 38 (.rW (.t 36) none (some (.t 37))),c 39 153 [.t 38],v 8 39,vi 9 1]
 (.seq (q [v 40 7,v 41 5,ls 42 41,bt 43 .lss 40 42]
 (k 43 (.cG [v 44 5,v 45 7,bi 46 .add 45 1,o 47 (.rW (.t 44) (some (.t 46)) none),c 48 153 [.t 47],v 9 48])))
 (.seq (q [v 49 6]
 (k 49 (.cG [v 50 8,b 51 .sub (i 0) (.t 50),v 8 51])))
 (q [v 52 8,v 53 9,v 2 52,v 3 53,o 4 (.mv (.k (.bool true)))]
 .ret)))))))))))⟩
def uT:cP:=⟨57,[.tmp 4],(q [o 2 (.box (.t 0)),o 3 (.box (.t 1)),o 4 (.mv (.k (.str [])))]
 (.seq (q [fa 11 0 3,l 12 false 1 11]
 (k 12 (.cC [w 13 true 2 2 0,c 14 248 [.t 13],w 15 true 2 3 2,c 16 248 [.t 15],s 2 2 14,s 2 3 16])))
 (q [fa 17 1 2,l 18 false 1 17,fa 19 1 3,l 20 false 1 19,c 21 125 [.t 18,.t 20],v 5 21]
 (q [fa 23 1 2,l 24 false 1 23,v 25 5,c 26 208 [.t 24,.t 25],v 22 26,e 27 22 0,e 28 22 1,v 6 27,v 7 28]
 (q [fa 30 1 3,l 31 false 1 30,v 32 5,c 33 208 [.t 31,.t 32],v 29 33,e 34 29 0,e 35 29 1,v 8 34,v 9 35]
 (q [fa 36 0 2,l 37 false 1 36,v 38 6,c 39 249 [.t 37,.t 38],c 40 181 [.t 39],v 10 40]
 (.seq (q [v 41 8,ln 42 41,bi 43 .eql 42 1,v 44 43,g 45 (m 8) 44 true,g 46 (.gR 1 (.t 45) (i 0)) 44 true,gl 47 false 1 46 44 true,gb 48 .eql (.t 47) (i 1) 44 true,pf 49 44 48]
 (k 49 (q [v 50 10,v 4 50]
 .ret)))
 (q [v 51 10,b 52 .add (.t 51) (.k (.str [47])),v 53 8,c 54 249 [(.k (.bool false)),.t 53],c 55 181 [.t 54],bt 56 .add 52 55,v 4 56]
 .ret))))))))⟩
def MA:cP:=⟨40,[.cell 4 true 2],(q [o 2 (.box (.t 0)),o 3 (.box (.t 1)),o 4 (.alloc [.bool false,.av])]
 (.seq (q [fa 5 0 2,l 6 false 1 5,fa 7 0 3,l 8 false 1 7,o 9 (.bin .eql .bool (.t 6) (.t 8))]
 (k 9 (.seq (.cC [fa 10 0 2,w 11 false 1 10 6,fa 12 1 2,w 13 false 1 12 3,fa 14 1 3,w 15 false 1 14 5,c 16 250 [.t 13,.t 15],c 17 249 [.t 11,.t 16],s 2 4 17])
 .ret)))
 (.seq (q [fa 18 1 2,l 19 false 1 18,fa 20 1 3,l 21 false 1 20,c 22 251 [.t 19,.t 21],bi 23 .geq 22 0]
 (k 23 (.seq (.cC [fa 24 0 2,w 25 false 1 24 6,fa 26 1 2,w 27 false 1 26 3,fa 28 1 3,w 29 false 1 28 5,c 30 252 [.t 27,.t 29],c 31 249 [.t 25,.t 30],s 2 4 31])
 .ret)))
 (.seq (.cC [fa 32 0 3,w 33 false 1 32 6,fa 34 1 3,w 35 false 1 34 3,fa 36 1 2,w 37 false 1 36 5,c 38 252 [.t 35,.t 37],c 39 249 [.t 33,.t 38],s 2 4 39])
 .ret))))⟩
def a171:cP:=⟨16,[.cell 4 true 2],(q [o 2 (.box (.t 0)),o 3 (.box (.t 1)),o 4 (.alloc [.bool false,.av])]
 (.seq (.cC [fa 5 0 2,w 6 false 1 5 9,fa 7 0 3,w 8 false 1 7 9,o 9 (.bin .neq .bool (.t 6) (.t 8)),fa 10 1 2,w 11 false 1 10 6,fa 12 1 3,w 13 false 1 12 8,c 14 253 [.t 11,.t 13],c 15 249 [.t 9,.t 14],s 2 4 15])
 .ret))⟩
def Mz:cP:=⟨39,[.tmp 2],(q [o 1 (.box (.t 0)),o 2 (.mv (.k (.str [])))]
 (.seq (q [fa 5 1 1,l 6 false 1 5,ln 7 6,bi 8 .eql 7 0]
 (k 8 (q [o 2 (.mv (.k (.str [48])))]
 .ret)))
 (q [fa 9 1 1,l 10 false 1 9,fa 11 1 1,l 12 false 1 11,ln 13 12,bi 14 .sub 13 1,ix 15 1 10 14,l 16 false 1 15,c 17 186 [.t 16,i 1],v 3 17]
 (.seq (q [fa 18 1 1,l 19 false 1 18,ln 20 19,bi 21 .sub 20 2,v 4 21]
 (.block 0 (.loop (.seq (q [v 22 4,bi 23 .geq 22 0]
 (.cond (.t 23) .skip
 (.exit 0)))
 (.seq (.block 1 (.cG [v 26 3,fa 27 1 1,l 28 false 1 27,v 29 4,ix 30 1 28 29,l 31 false 1 30,c 32 186 [.t 31,i 9],bt 33 .add 26 32,v 3 33]))
 (.cG [v 24 4,bi 25 .sub 24 1,v 4 25]))))))
 (.seq (q [fa 34 0 1,l 35 false 1 34]
 (k 35 (q [v 36 3,b 37 .add (.k (.str [45])) (.t 36),v 2 37]
 .ret)))
 (q [v 38 3,v 2 38]
 .ret))))))⟩
def a182:cP:=⟨25,[.cell 2 true 2],(q [o 2 (.alloc [.bool false,.av])]
 (q [o 3 (.mv (.k (.av)))]
 (q [v 6 0,bi 7 .lss 6 0,v 4 7]
 (.seq (.block 0 (.loop (.seq (q [v 8 0,bi 9 .neq 8 0]
 (.cond (.t 9) .skip
 (.exit 0)))
 (.block 1 (q [v 10 0,bi 11 .rem 10 1000000000,v 5 11]
 (.seq (q [v 12 5,bi 13 .lss 12 0]
 (k 13 (.cG [v 14 5,b 15 .sub (i 0) (.t 14),v 5 15])))
 (q [v 16 3,v 17 5,o 18 (.dU 1 1 [.int .i64 0] [(0,1,(.t 17))]),o 19 (.app 1 8 (.t 16) (.t 18)),v 3 19]
 (.cG [v 20 0,bi 21 .quo 20 1000000000,v 0 21]))))))))
 (q [v 22 4,v 23 3,c 24 249 [.t 22,.t 23],s 2 2 24]
 .ret)))))⟩
def My:cP:=⟨12,[.tmp 4],(q [vi 4 0]
 (.seq (.block 0 (.loop (.seq (q [v 5 1,bi 6 .gtr 5 0]
 (.cond (.t 6) .skip
 (.exit 0)))
 (.block 1 (.cC [v 7 1,v 8 0,v 9 1,bt 10 .rem 8 9,v 0 7,v 1 10])))))
 (q [v 11 0,v 4 11]
 .ret)))⟩
def Cu:cP:=⟨40,[.cell 2 true 2],(q [o 2 (.alloc [.bool false,.av])]
 (q [v 5 0,ls 6 5,bi 7 .gtr 6 0,v 8 7,g 9 (m 0) 8 true,g 10 (.idxs (.t 9) (i 0)) 8 true,gb 11 .eql (.t 10) (.k (.int .u8 45)) 8 true,pf 12 8 11,v 3 12]
 (.seq (q [v 13 3]
 (k 13 (.cG [v 14 0,o 15 (.rW (.t 14) (some (i 1)) none),v 0 15])))
 (q [o 4 (.mv (.k (.av)))]
 (.seq (.block 0 (.loop (.seq (q [v 16 0,ls 17 16,bi 18 .gtr 17 9]
 (.cond (.t 18) .skip
 (.exit 0)))
 (.block 1 (q [v 19 4,v 20 0,v 21 0,ls 22 21,bi 23 .sub 22 9,o 24 (.rW (.t 20) (some (.t 23)) none),c 25 153 [.t 24],o 26 (.dU 1 1 [.int .i64 0] [(0,1,(.t 25))]),o 27 (.app 1 8 (.t 19) (.t 26)),v 4 27]
 (.cG [v 28 0,v 29 0,ls 30 29,bi 31 .sub 30 9,o 32 (.rW (.t 28) none (some (.t 31))),v 0 32]))))))
 (q [v 33 3,v 34 4,v 35 0,c 36 153 [.t 35],o 37 (.dU 1 1 [.int .i64 0] [(0,1,(.t 36))]),o 38 (.app 1 8 (.t 34) (.t 37)),c 39 249 [.t 33,.t 38],s 2 2 39]
 .ret))))))⟩
def a208:cP:=⟨206,[.tmp 4,.tmp 5],(q [o 4 (.mv (.k (.av))),o 5 (.mv (.k (.av)))]
 (.seq (q [v 24 0,v 25 1,c 26 251 [.t 24,.t 25],bi 27 .lss 26 0]
 (k 27 (q [v 28 0,o 4 (.mv (.k (.av))),v 5 28]
 .ret)))
 (.seq (q [v 29 1,ln 30 29,bi 31 .eql 30 1]
 (k 31 (q [v 33 0,v 34 1,o 35 (.gR 1 (.t 34) (i 0)),l 36 false 1 35,c 37 270 [.t 33,.t 36],v 32 37,e 38 32 0,e 39 32 1,v 6 38,v 7 39]
 (q [v 40 6,v 41 7,o 42 (.dU 1 1 [.int .i64 0] [(0,1,(.t 41))]),c 43 271 [.t 42],v 4 40,v 5 43]
 .ret))))
 (q [v 44 1,v 45 1,ln 46 45,bi 47 .sub 46 1,ix 48 1 44 47,l 49 false 1 48,bi 50 .add 49 1,b 51 .quo (i 1000000000) (.t 50),o 52 (.dU 1 1 [.int .i64 0] [(0,1,(.t 51))]),v 8 52]
 (q [v 53 1,v 54 8,c 55 253 [.t 53,.t 54],v 9 55]
 (q [v 56 9,ln 57 56,v 10 57]
 (q [o 58 (.dU 1 0 [] []),v 59 0,v 60 8,c 61 253 [.t 59,.t 60],o 62 (.app 1 8 (.t 58) (.t 61)),v 11 62]
 (.seq (.block 0 (.loop (.seq (q [v 63 11,ln 64 63,v 65 0,ln 66 65,bi 67 .add 66 1,bt 68 .lss 64 67]
 (.cond (.t 68) .skip
 (.exit 0)))
 (.block 1 (.cG [v 69 11,o 70 (.dU 1 1 [.int .i64 0] [(0,1,(i 0))]),o 71 (.app 1 8 (.t 69) (.t 70)),v 11 71])))))
 (q [v 72 11,ln 73 72,v 74 10,bt 75 .sub 73 74,o 76 (.tY 1 8 [.int .i64 0] (.t 75) (.t 75)),v 12 76]
 (.seq (q [v 77 11,ln 78 77,v 79 10,bt 80 .sub 78 79,bi 81 .sub 80 1,v 13 81]
 (.block 2 (.loop (.seq (q [v 82 13,bi 83 .geq 82 0]
 (.cond (.t 83) .skip
 (.exit 2)))
 (.seq (.block 3 (q [v 86 11,v 87 9,v 88 13,c 89 272 [.t 86,.t 87,.t 88],v 14 89]
 (q [vi 15 0]
 (.seq (q [vi 16 0]
 (.block 4 (.loop (.seq (q [v 90 16,v 91 10,bt 92 .lss 90 91]
 (.cond (.t 92) .skip
 (.exit 4)))
 (.seq (.block 5 (q [v 95 14,v 96 9,v 97 16,ix 98 1 96 97,l 99 false 1 98,bt 100 .mul 95 99,v 101 15,bt 102 .add 100 101,v 17 102]
 (q [v 103 11,v 104 16,v 105 13,bt 106 .add 104 105,ix 107 1 103 106,l 108 false 1 107,v 109 17,bi 110 .rem 109 1000000000,bt 111 .sub 108 110,v 18 111]
 (q [v 112 17,bi 113 .quo 112 1000000000,v 15 113]
 (.seq (q [v 114 18,bi 115 .lss 114 0]
 (k 115 (q [v 116 18,bi 117 .add 116 1000000000,v 18 117]
 (.cG [v 118 15,bi 119 .add 118 1,v 15 119]))))
 (.cG [v 120 11,v 121 16,v 122 13,bt 123 .add 121 122,v 124 18,ix 125 1 120 123,s 1 125 124]))))))
 (.cG [v 93 16,bi 94 .add 93 1,v 16 94]))))))
 (q [v 126 11,v 127 13,v 128 10,bt 129 .add 127 128,v 130 11,v 131 13,v 132 10,bt 133 .add 131 132,ix 134 1 130 133,l 135 false 1 134,v 136 15,bt 137 .sub 135 136,ix 138 1 126 129,s 1 138 137]
 (.seq (q [v 139 11,v 140 13,v 141 10,bt 142 .add 140 141,ix 143 1 139 142,l 144 false 1 143,bi 145 .lss 144 0]
 (k 145 (q [v 146 14,bi 147 .sub 146 1,v 14 147]
 (q [vi 19 0]
 (.seq (q [vi 20 0]
 (.block 6 (.loop (.seq (q [v 148 20,v 149 10,bt 150 .lss 148 149]
 (.cond (.t 150) .skip
 (.exit 6)))
 (.seq (.block 7 (.seq (.cC [v 153 11,v 154 20,v 155 13,bt 156 .add 154 155,ix 157 1 153 156,w 158 false 1 157 5,v 159 9,v 160 20,ix 161 1 159 160,w 162 false 1 161 9,bt 163 .add 158 162,v 164 19,bt 165 .add 163 164,v 21 165])
 (q [v 166 11,v 167 20,v 168 13,bt 169 .add 167 168,v 170 21,bi 171 .rem 170 1000000000,ix 172 1 166 169,s 1 172 171]
 (.cG [v 173 21,bi 174 .quo 173 1000000000,v 19 174]))))
 (.cG [v 151 20,bi 152 .add 151 1,v 20 152]))))))
 (.cG [v 175 11,v 176 13,v 177 10,bt 178 .add 176 177,v 179 11,v 180 13,v 181 10,bt 182 .add 180 181,ix 183 1 179 182,l 184 false 1 183,v 185 19,bt 186 .add 184 185,ix 187 1 175 178,s 1 187 186]))))))
 (.cG [v 188 12,v 189 13,v 190 14,ix 191 1 188 189,s 1 191 190])))))))
 (.cG [v 84 13,bi 85 .sub 84 1,v 13 85]))))))
 (.seq (.cC [v 193 11,v 194 10,o 195 (.sl 1 (.t 193) none (some (.t 194))),c 196 271 [.t 195],v 197 8,o 198 (.gR 1 (.t 197) (i 0)),w 199 false 1 198 6,c 200 270 [.t 196,.t 199],v 192 200,e 201 192 0,e 202 192 1,v 22 201,v 23 202])
 (q [v 203 12,c 204 271 [.t 203],v 205 22,v 4 204,v 5 205]
 .ret))))))))))))⟩
def Mo:cP:=⟨9,[.tmp 2],(q [o 2 (.mv (.k (.str [])))]
 (.seq (q [v 3 0,c 4 21 [.t 3],bi 5 .lss 4 0]
 (k 5 (q [v 6 0,o 7 (.rW (.t 6) (some (i 1)) none),v 2 7]
 .ret)))
 (q [v 8 0,v 2 8]
 .ret)))⟩
def Mi:cP:=⟨9,[.cell 2 true 2],(q [o 1 (.box (.t 0)),o 2 (.alloc [.bool false,.av])]
 (q [fa 3 0 1,l 4 false 1 3,y 5 .not 4,fa 6 1 1,l 7 false 1 6,c 8 249 [.t 5,.t 7],s 2 2 8]
 .ret))⟩
def Mh:cP:=⟨15,[.cell 4 true 2],(q [o 4 (.alloc [.bool false,.av])]
 (q [v 5 1,c 6 271 [.t 5],v 1 6]
 (q [v 7 0,v 8 7,g 9 (m 1) 8 true,g 10 (.len .slice (.t 9)) 8 true,gb 11 .gtr (.t 10) (i 0) 8 true,pf 12 8 11,v 13 1,o 14 (.build [.bool false,.av] [(0,1,(.t 12)),(1,1,(.t 13))]),s 2 4 14]
 .ret)))⟩
def Mg:cP:=⟨42,[.tmp 4],(q [o 4 (.mv (.k (.av)))]
 (q [o 5 (.mv (.k (.av)))]
 (q [vi 6 0]
 (.seq (q [vi 7 0]
 (.block 0 (.loop (.seq (q [v 9 7,v 10 0,ln 11 10,bt 12 .lss 9 11,v 13 12,g 14 (m 7) 13 false,g 15 (m 1) 13 false,g 16 (.len .slice (.t 15)) 13 false,gb 17 .lss (.t 14) (.t 16) 13 false,pt 18 13 17,v 19 18,g 20 (m 6) 19 false,gb 21 .gtr (.t 20) (i 0) 19 false,pt 22 19 21]
 (.cond (.t 22) .skip
 (.exit 0)))
 (.seq (.block 1 (q [v 25 0,v 26 7,c 27 296 [.t 25,.t 26],v 28 1,v 29 7,c 30 296 [.t 28,.t 29],bt 31 .add 27 30,v 32 6,bt 33 .add 31 32,v 8 33]
 (q [v 34 5,v 35 8,bi 36 .rem 35 1000000000,o 37 (.dU 1 1 [.int .i64 0] [(0,1,(.t 36))]),o 38 (.app 1 8 (.t 34) (.t 37)),v 5 38]
 (.cG [v 39 8,bi 40 .quo 39 1000000000,v 6 40]))))
 (.cG [v 23 7,bi 24 .add 23 1,v 7 24]))))))
 (q [v 41 5,v 4 41]
 .ret)))))⟩
def Mf:cP:=⟨41,[.tmp 4],(q [vi 4 0]
 (.seq (q [v 6 0,ln 7 6,v 8 1,ln 9 8,bt 10 .neq 7 9]
 (k 10 (.seq (q [v 11 0,ln 12 11,v 13 1,ln 14 13,bt 15 .lss 12 14]
 (k 15 (q [vi 4 (-1)]
 .ret)))
 (q [vi 4 1]
 .ret))))
 (.seq (q [v 16 0,ln 17 16,bi 18 .sub 17 1,v 5 18]
 (.block 0 (.loop (.seq (q [v 19 5,bi 20 .geq 19 0]
 (.cond (.t 20) .skip
 (.exit 0)))
 (.seq (.block 1 (.seq (.seq (.cC [v 23 0,v 24 5,ix 25 1 23 24,w 26 false 1 25 3,v 27 1,v 28 5,ix 29 1 27 28,w 30 false 1 29 7,bt 31 .lss 26 30])
 (k 31 (q [vi 4 (-1)]
 .ret)))
 (.seq (.cC [v 32 0,v 33 5,ix 34 1 32 33,w 35 false 1 34 3,v 36 1,v 37 5,ix 38 1 36 37,w 39 false 1 38 7,bt 40 .gtr 35 39])
 (k 40 (q [vi 4 1]
 .ret)))))
 (.cG [v 21 5,bi 22 .sub 21 1,v 5 22]))))))
 (q [vi 4 0]
 .ret))))⟩
def Me:cP:=⟨35,[.tmp 4],(q [o 4 (.mv (.k (.av)))]
 (q [o 5 (.mv (.k (.av)))]
 (q [vi 6 0]
 (.seq (q [vi 7 0]
 (.block 0 (.loop (.seq (q [v 9 7,v 10 0,ln 11 10,bt 12 .lss 9 11]
 (.cond (.t 12) .skip
 (.exit 0)))
 (.seq (.block 1 (.seq (.cC [v 15 0,v 16 7,ix 17 1 15 16,w 18 false 1 17 6,v 19 1,v 20 7,c 21 296 [.t 19,.t 20],bt 22 .sub 18 21,v 23 6,bt 24 .sub 22 23,v 8 24])
 (q [vi 6 0]
 (.seq (q [v 25 8,bi 26 .lss 25 0]
 (k 26 (q [v 27 8,bi 28 .add 27 1000000000,v 8 28]
 (.cG [vi 6 1]))))
 (.cG [v 29 5,v 30 8,o 31 (.dU 1 1 [.int .i64 0] [(0,1,(.t 30))]),o 32 (.app 1 8 (.t 29) (.t 31)),v 5 32])))))
 (.cG [v 13 7,bi 14 .add 13 1,v 7 14]))))))
 (q [v 33 5,c 34 271 [.t 33],v 4 34]
 .ret)))))⟩
def Md:cP:=⟨72,[.tmp 4],(q [o 4 (.mv (.k (.av)))]
 (q [v 10 0,ln 11 10,v 12 1,ln 13 12,bt 14 .add 11 13,o 15 (.tY 1 8 [.int .i64 0] (.t 14) (.t 14)),v 5 15]
 (.seq (q [vi 6 0]
 (.block 0 (.loop (.seq (q [v 16 6,v 17 0,ln 18 17,bt 19 .lss 16 18]
 (.cond (.t 19) .skip
 (.exit 0)))
 (.seq (.block 1 (q [vi 7 0]
 (.seq (q [vi 8 0]
 (.block 2 (.loop (.seq (q [v 22 8,v 23 1,ln 24 23,bt 25 .lss 22 24]
 (.cond (.t 25) .skip
 (.exit 2)))
 (.seq (.block 3 (.seq (.cC [v 28 5,v 29 6,v 30 8,bt 31 .add 29 30,ix 32 1 28 31,w 33 false 1 32 5,v 34 0,v 35 6,ix 36 1 34 35,w 37 false 1 36 9,v 38 1,v 39 8,ix 40 1 38 39,w 41 false 1 40 13,bt 42 .mul 37 41,bt 43 .add 33 42,v 44 7,bt 45 .add 43 44,v 9 45])
 (q [v 46 5,v 47 6,v 48 8,bt 49 .add 47 48,v 50 9,bi 51 .rem 50 1000000000,ix 52 1 46 49,s 1 52 51]
 (.cG [v 53 9,bi 54 .quo 53 1000000000,v 7 54]))))
 (.cG [v 26 8,bi 27 .add 26 1,v 8 27]))))))
 (.cG [v 55 5,v 56 6,v 57 1,ln 58 57,bt 59 .add 56 58,v 60 5,v 61 6,v 62 1,ln 63 62,bt 64 .add 61 63,ix 65 1 60 64,l 66 false 1 65,v 67 7,bt 68 .add 66 67,ix 69 1 55 59,s 1 69 68]))))
 (.cG [v 20 6,bi 21 .add 20 1,v 6 21]))))))
 (q [v 70 5,c 71 271 [.t 70],v 4 71]
 .ret))))⟩
def L5:cP:=⟨39,[.tmp 4,.tmp 5],(q [o 4 (.mv (.k (.av))),vi 5 0]
 (q [v 10 0,ln 11 10,o 12 (.tY 1 8 [.int .i64 0] (.t 11) (.t 11)),v 6 12]
 (q [vi 7 0]
 (.seq (q [v 13 0,ln 14 13,bi 15 .sub 14 1,v 8 15]
 (.block 0 (.loop (.seq (q [v 16 8,bi 17 .geq 16 0]
 (.cond (.t 17) .skip
 (.exit 0)))
 (.seq (.block 1 (q [v 20 7,bi 21 .mul 20 1000000000,v 22 0,v 23 8,ix 24 1 22 23,l 25 false 1 24,bt 26 .add 21 25,v 9 26]
 (q [v 27 6,v 28 8,v 29 9,v 30 1,bt 31 .quo 29 30,ix 32 1 27 28,s 1 32 31]
 (.cG [v 33 9,v 34 1,bt 35 .rem 33 34,v 7 35]))))
 (.cG [v 18 8,bi 19 .sub 18 1,v 8 19]))))))
 (q [v 36 6,c 37 271 [.t 36],v 38 7,v 4 37,v 5 38]
 .ret)))))⟩
def Fp:cP:=⟨21,[.tmp 2],(q [o 2 (.mv (.k (.av)))]
 (.seq (.block 0 (.loop (.seq (q [v 3 0,ln 4 3,bi 5 .gtr 4 0,v 6 5,g 7 (m 0) 6 true,g 8 (m 0) 6 true,g 9 (.len .slice (.t 8)) 6 true,gb 10 .sub (.t 9) (i 1) 6 true,g 11 (.gR 1 (.t 7) (.t 10)) 6 true,gl 12 false 1 11 6 true,gb 13 .eql (.t 12) (i 0) 6 true,pf 14 6 13]
 (.cond (.t 14) .skip
 (.exit 0)))
 (.block 1 (.cG [v 15 0,v 16 0,ln 17 16,bi 18 .sub 17 1,o 19 (.sl 1 (.t 15) none (some (.t 18))),v 0 19])))))
 (q [v 20 0,v 2 20]
 .ret)))⟩
def L4:cP:=⟨77,[.tmp 6],(q [vi 6 0]
 (q [v 11 1,ln 12 11,v 7 12]
 (.seq (.cC [v 13 0,v 14 2,v 15 7,bt 16 .add 14 15,ix 17 1 13 16,w 18 false 1 17 5,bi 19 .mul 18 1000000000,v 20 0,v 21 2,v 22 7,bt 23 .add 21 22,bi 24 .sub 23 1,ix 25 1 20 24,w 26 false 1 25 13,bt 27 .add 19 26,v 8 27])
 (.seq (.cC [v 28 8,v 29 1,v 30 7,bi 31 .sub 30 1,ix 32 1 29 31,w 33 false 1 32 5,bt 34 .quo 28 33,v 35 8,v 36 1,v 37 7,bi 38 .sub 37 1,ix 39 1 36 38,w 40 false 1 39 12,bt 41 .rem 35 40,v 9 34,v 10 41])
 (.seq (.block 0 (.loop (.seq (.seq (.cC [v 42 9,bi 43 .geq 42 1000000000,v 44 43,g 45 (m 9) 44 false,g 46 (m 1) 44 false,g 47 (m 7) 44 false,gb 48 .sub (.t 47) (i 2) 44 false,g 49 (.gR 1 (.t 46) (.t 48)) 44 false,x 50 false 1 49 44 false 8,gb 51 .mul (.t 45) (.t 50) 44 false,g 52 (m 10) 44 false,gb 53 .mul (.t 52) (i 1000000000) 44 false,g 54 (m 0) 44 false,g 55 (m 2) 44 false,g 56 (m 7) 44 false,gb 57 .add (.t 55) (.t 56) 44 false,gb 58 .sub (.t 57) (i 2) 44 false,g 59 (.gR 1 (.t 54) (.t 58)) 44 false,x 60 false 1 59 44 false 18,gb 61 .add (.t 53) (.t 60) 44 false,gb 62 .gtr (.t 51) (.t 61) 44 false,pt 63 44 62])
 (.cond (.t 63) .skip
 (.exit 0)))
 (.block 1 (q [v 64 9,bi 65 .sub 64 1,v 9 65]
 (q [v 66 10,v 67 1,v 68 7,bi 69 .sub 68 1,ix 70 1 67 69,l 71 false 1 70,bt 72 .add 66 71,v 10 72]
 (q [v 73 10,bi 74 .geq 73 1000000000]
 (k 74 (q [v 75 9,v 6 75]
 .ret)))))))))
 (q [v 76 9,v 6 76]
 .ret))))))⟩
def LZ:cP:=⟨13,[.tmp 4],(q [vi 4 0]
 (.seq (q [v 5 1,v 6 0,ln 7 6,bt 8 .lss 5 7]
 (k 8 (q [v 9 0,v 10 1,ix 11 1 9 10,l 12 false 1 11,v 4 12]
 .ret)))
 (q [vi 4 0]
 .ret)))⟩
def nc:T cP:=(.node (.node (.node (.node (.node .nil none (.node (.node (.node (.node .nil (some Fp) .nil) none .nil) none (.node .nil (some Cu) .nil)) none .nil)) none (.node (.node (.node (.node .nil (some MG) .nil) none .nil) none .nil) none (.node .nil (some Ve) .nil))) none (.node (.node (.node .nil (some Vg) (.node .nil (some Qz) .nil)) (some JM) .nil) none (.node (.node .nil none (.node (.node .nil (some a171) .nil) none .nil)) none (.node .nil none (.node .nil (some MN) (.node .nil (some Mf) .nil)))))) none (.node (.node (.node (.node (.node (.node .nil (some MK) .nil) none .nil) none .nil) none .nil) none (.node (.node .nil none (.node (.node .nil (some uT) .nil) none .nil)) none (.node .nil none (.node (.node .nil (some My) .nil) none (.node .nil (some Mh) .nil))))) none (.node (.node .nil (some a21) (.node .nil none (.node (.node .nil (some Mz) .nil) none .nil))) none (.node .nil none (.node .nil none (.node .nil (some MM) (.node .nil (some Md) .nil))))))) none (.node (.node (.node (.node (.node (.node (.node .nil (some ML) .nil) none .nil) none .nil) none (.node (.node (.node (.node .nil (some L4) .nil) none .nil) none (.node .nil (some a208) .nil)) none .nil)) none (.node (.node (.node .nil (some a72) .nil) none (.node (.node (.node .nil (some LZ) .nil) (some a168) .nil) none .nil)) none (.node .nil (some Vd) (.node .nil none (.node .nil (some Mi) .nil))))) none (.node (.node (.node .nil (some Vf) .nil) none .nil) none (.node .nil none (.node .nil none (.node .nil (some a124) (.node .nil (some Me) .nil)))))) none (.node (.node (.node (.node .nil (some Vh) .nil) none .nil) none (.node (.node (.node .nil (some QA) .nil) none (.node (.node .nil (some MA) .nil) none .nil)) (some Vj) (.node .nil none (.node .nil (some MP) (.node .nil (some Mg) .nil))))) none (.node (.node .nil none (.node (.node .nil none (.node .nil (some Mo) .nil)) none (.node (.node .nil (some a182) .nil) none .nil))) none (.node (.node (.node (.node (.node .nil (some L5) .nil) none .nil) none .nil) none .nil) none .nil)))))
section
open Go.Proofs
theorem b19:bh 19 JM:=by unfold bh;kernel_rfl
theorem b21:bh 21 a21:=by unfold bh;kernel_rfl
theorem b26:bh 26 Vj:=by unfold bh;kernel_rfl
theorem b34:bh 34 Vh:=by unfold bh;kernel_rfl
theorem b35:bh 35 Vg:=by unfold bh;kernel_rfl
theorem b36:bh 36 Vf:=by unfold bh;kernel_rfl
theorem b55:bh 55 Ve:=by unfold bh;kernel_rfl
theorem b56:bh 56 Vd:=by unfold bh;kernel_rfl
theorem b72:bh 72 a72:=by unfold bh;kernel_rfl
theorem b74:bh 74 QA:=by unfold bh;kernel_rfl
theorem b99:bh 99 Qz:=by unfold bh;kernel_rfl
theorem b122:bh 122 MP:=by unfold bh;kernel_rfl
theorem b123:bh 123 MN:=by unfold bh;kernel_rfl
theorem b124:bh 124 a124:=by unfold bh;kernel_rfl
theorem b125:bh 125 MM:=by unfold bh;kernel_rfl
theorem Z9:bh 128 ML:=by unfold bh;kernel_rfl
theorem Z8:bh 129 MK:=by unfold bh;kernel_rfl
theorem Z2:bh 135 MG:=by unfold bh;kernel_rfl
theorem ZK:bh 168 a168:=by unfold bh;kernel_rfl
theorem ZJ:bh 169 uT:=by unfold bh;kernel_rfl
theorem ZI:bh 170 MA:=by unfold bh;kernel_rfl
theorem ZH:bh 171 a171:=by unfold bh;kernel_rfl
theorem ZD:bh 181 Mz:=by unfold bh;kernel_rfl
theorem ZC:bh 182 a182:=by unfold bh;kernel_rfl
theorem ZA:bh 185 My:=by unfold bh;kernel_rfl
theorem Zh:bh 207 Cu:=by unfold bh;kernel_rfl
theorem Zg:bh 208 a208:=by unfold bh;kernel_rfl
theorem Zb:bh 214 Mo:=by unfold bh;kernel_rfl
theorem YX:bh 248 Mi:=by unfold bh;kernel_rfl
theorem YW:bh 249 Mh:=by unfold bh;kernel_rfl
theorem YV:bh 250 Mg:=by unfold bh;kernel_rfl
theorem YU:bh 251 Mf:=by unfold bh;kernel_rfl
theorem YT:bh 252 Me:=by unfold bh;kernel_rfl
theorem YS:bh 253 Md:=by unfold bh;kernel_rfl
theorem YI:bh 270 L5:=by unfold bh;kernel_rfl
theorem YH:bh 271 Fp:=by unfold bh;kernel_rfl
theorem YG:bh 272 L4:=by unfold bh;kernel_rfl
theorem YC:bh 296 LZ:=by unfold bh;kernel_rfl
theorem all:T.Forall bh nc (fun n=>n):=⟨C.no,⟨C.no,⟨C.no,⟨C.no,⟨C.no,trivial,⟨C.no,⟨C.no,⟨C.no,⟨C.yes YH,trivial,trivial⟩,trivial⟩,⟨C.yes Zh,trivial,trivial⟩⟩,trivial⟩⟩,⟨C.no,⟨C.no,⟨C.no,⟨C.yes Z2,trivial,trivial⟩,trivial⟩,trivial⟩,⟨C.yes b55,trivial,trivial⟩⟩⟩,⟨C.no,⟨C.yes b19,⟨C.yes b35,trivial,⟨C.yes b99,trivial,trivial⟩⟩,trivial⟩,⟨C.no,⟨C.no,trivial,⟨C.no,⟨C.yes ZH,trivial,trivial⟩,trivial⟩⟩,⟨C.no,trivial,⟨C.yes b123,trivial,⟨C.yes YU,trivial,trivial⟩⟩⟩⟩⟩⟩,⟨C.no,⟨C.no,⟨C.no,⟨C.no,⟨C.no,⟨C.yes Z8,trivial,trivial⟩,trivial⟩,trivial⟩,trivial⟩,⟨C.no,⟨C.no,trivial,⟨C.no,⟨C.yes ZJ,trivial,trivial⟩,trivial⟩⟩,⟨C.no,trivial,⟨C.no,⟨C.yes ZA,trivial,trivial⟩,⟨C.yes YW,trivial,trivial⟩⟩⟩⟩⟩,⟨C.no,⟨C.yes b21,trivial,⟨C.no,trivial,⟨C.no,⟨C.yes ZD,trivial,trivial⟩,trivial⟩⟩⟩,⟨C.no,trivial,⟨C.no,trivial,⟨C.yes b125,trivial,⟨C.yes YS,trivial,trivial⟩⟩⟩⟩⟩⟩⟩,⟨C.no,⟨C.no,⟨C.no,⟨C.no,⟨C.no,⟨C.no,⟨C.yes Z9,trivial,trivial⟩,trivial⟩,trivial⟩,⟨C.no,⟨C.no,⟨C.no,⟨C.yes YG,trivial,trivial⟩,trivial⟩,⟨C.yes Zg,trivial,trivial⟩⟩,trivial⟩⟩,⟨C.no,⟨C.no,⟨C.yes b72,trivial,trivial⟩,⟨C.no,⟨C.yes ZK,⟨C.yes YC,trivial,trivial⟩,trivial⟩,trivial⟩⟩,⟨C.yes b56,trivial,⟨C.no,trivial,⟨C.yes YX,trivial,trivial⟩⟩⟩⟩⟩,⟨C.no,⟨C.no,⟨C.yes b36,trivial,trivial⟩,trivial⟩,⟨C.no,trivial,⟨C.no,trivial,⟨C.yes b124,trivial,⟨C.yes YT,trivial,trivial⟩⟩⟩⟩⟩⟩,⟨C.no,⟨C.no,⟨C.no,⟨C.yes b34,trivial,trivial⟩,trivial⟩,⟨C.yes b26,⟨C.no,⟨C.yes b74,trivial,trivial⟩,⟨C.no,⟨C.yes ZI,trivial,trivial⟩,trivial⟩⟩,⟨C.no,trivial,⟨C.yes b122,trivial,⟨C.yes YV,trivial,trivial⟩⟩⟩⟩⟩,⟨C.no,⟨C.no,trivial,⟨C.no,⟨C.no,trivial,⟨C.yes Zb,trivial,trivial⟩⟩,⟨C.no,⟨C.yes ZC,trivial,trivial⟩,trivial⟩⟩⟩,⟨C.no,⟨C.no,⟨C.no,⟨C.no,⟨C.yes YI,trivial,trivial⟩,trivial⟩,trivial⟩,trivial⟩,trivial⟩⟩⟩⟩⟩
theorem zA (n:Nat)(a:cP)(h:nc.get n=some a):DQ Tryz.prog n=some a:=T.gS nc (fun n=>n) all n a h
end
end Go.Ae.R
namespace Go.Ae
open Go.Proofs
noncomputable def E3:Env:=E2.add R.nc
theorem NS:Ge E2 E3:=Ge.add _ _
theorem gu3 {f:Nat}{args:List AV}{h:Hp}{v:AV}(hc:Gv E2 f args h v):Gv E3 f args h v:=hc.ge fun _ _ _ hk=>hk.ge NS
section
variable {h:Hp}{K:AV→Hp→Prop}
def okP (x y z:Int):Prop:= -100000≤x∧x≤100000∧-100000≤y∧y≤100000∧-100000≤z∧z≤100000
instance {x y z:Int}:Decidable (okP x y z):=by unfold okP;infer_instance
end
end Go.Ae
namespace Go.Ae
open N Go.Proofs
def bO (s:List UInt8):Nat:=(s.takeWhile (fun b=>decide (b≠47))).length
theorem kw (s:List UInt8):bO s≤s.length:=(List.takeWhile_sublist _).length_le
theorem tC {s:List UInt8}{i:Nat}(hi:i<s.length)(hn:∀j,j<i→s.getD j 0≠47)(h:s.getD i 0=47):bO s=i:=by
 induction s generalizing i with
 |nil=>simp at hi
 | cons b r ih=>
  unfold bO at *;cases i with
  | zero=>
   have hb:b=47:=h;subst hb;simp
  | succ i=>
   have hb:b≠47:=hn 0 (by omega);rw[AJ (by simpa using hb),aq,ih (i:=i) (by simpa using hi) (fun j hj=>hn (j+1) (by omega)) h]
theorem tB {s:List UInt8}(hn:∀j,j<s.length→s.getD j 0≠47):bO s=s.length:=by
 induction s with
 |nil=>rfl
 | cons b r ih=>
  unfold bO at *;have hb:b≠47:=hn 0 (by simp);rw[AJ (by simpa using hb),aq,ih (fun j hj=>hn (j+1) (by simp;omega)),aq]
def sB (s:List UInt8):List UInt8:=s.take (bO s)
def zU (s:List UInt8):List UInt8:=if bO s=s.length then[49]else s.drop (bO s+1)
def yI (s:List UInt8):Int:=if s=[48]then 0 else if s.head?=some 45 then -1 else 1
def Az (s:List UInt8):List UInt8:=if yI s<0 then s.drop 1 else s
section
variable {h:Hp}{K:AV→Hp→Prop}
theorem qZ {b:UInt8}{n:Nat}(hn:n<256):(b.toNat:Int)=n↔b=UInt8.ofNat n:=by
 constructor
 ·intro e;apply UInt8.toNat_inj.1;rw[UInt8.toNat_ofNat',cK hn];omega
 ·rintro rfl;rw[UInt8.toNat_ofNat',cK hn]
theorem Aq {s:List UInt8}(hs:s.length≤9223372036854775807):ae E3 122 [.str s] h K↔K (.int .i64 (bO s)) h:=by
 refine ae.cX (ae.fn (fn:=R.MP) rfl rfl rfl ?_);unfold R.MP;repeat'(with_reducible first|simp(disch:=try exact ab) only[go_sem,seval]|(apply ai.i<;>intro hc))
 refine Wp.bD (fun m st=>∃i:Nat,val st.tm (.t 0)= .str s∧val st.tm (.t 3)= .int .i64 i∧st.hp=h∧i≤s.length∧(∀j,j<i→s.getD j 0≠47)∧s.length-i=m) (n:=s.length) ?_ ?_
 ·refine⟨0,?_⟩;simp(disch:=try exact ab) only[go_sem,seval];exact⟨by omega,fun j hj=>by omega,by omega⟩
 ·rintro m ⟨tm,hp⟩ ⟨i,h0,h3,rfl,hi,hn,rfl⟩;simp only at h0 h3;by_cases hlt:i<s.length
  ·have hlt':(i:Int)<s.length:=by omega
   have e1:((s.getD i 0).toNat:Int)=47↔s.getD i 0=47:=qZ (n:=47) (by decide);by_cases hc:s.getD i 0=47
   ·have qe:=e1.2 hc;repeat'(with_reducible first|simp(disch:=try exact ab) only[go_sem,seval,h0,h3]|(apply ai.i<;>intro hc))
    rw[tC hlt hn hc]
   ·have qe:=fun e=>hc (e1.1 e)
    repeat'(with_reducible first|simp(disch:=try exact ab) only[go_sem,seval,h0,h3]|(apply ai.i<;>intro hc))
    refine⟨s.length-(i+1),by omega,i+1,?_⟩;simp(disch:=try exact ab) only[go_sem,seval,h0,h3];refine⟨rfl,by omega,fun j hj=>?_⟩;rcases aQ j i with hj'|hj'
    ·exact hn j hj'
    ·rw[show j=i by omega];exact hc
  ·have hlt':¬(i:Int)<s.length:=by omega
   repeat'(with_reducible first|simp(disch:=try exact ab) only[go_sem,seval,h0,h3]|(apply ai.i<;>intro hc))
   rw[tB (fun j hj=>hn j (by omega))]
theorem Qo {s:List UInt8}(hs:s.length≤9223372036854775807):ae E3 128 [.str s] h K↔K (.str (sB s)) h:=by
 refine ae.cX (ae.fn (fn:=R.ML) rfl rfl rfl ?_);unfold R.ML;have:=kw s;repeat'(with_reducible first|simp(disch:=try exact ab) only[go_sem,seval,Aq]|(apply ai.i<;>intro hc))
 rfl
theorem T8 {s:List UInt8}(hs:s.length≤9223372036854775807):ae E3 129 [.str s] h K↔K (.str (zU s)) h:=by
 refine ae.cX (ae.fn (fn:=R.MK) rfl rfl rfl ?_);unfold R.MK;have:=kw s;unfold zU;by_cases hc:bO s=s.length
 ·have qe:(bO s:Int)=s.length:=by omega
  rw[if_pos hc];repeat'(with_reducible first|simp(disch:=try exact ab) only[go_sem,seval,Aq]|(apply ai.i<;>intro hc))
 ·have qe:¬(bO s:Int)=s.length:=by omega
  have e1:((bO s:Int)+1).toNat=bO s+1:=by omega
  rw[if_neg hc];repeat'(with_reducible first|simp(disch:=try exact ab) only[go_sem,seval,Aq,e1]|(apply ai.i<;>intro hc))
theorem c21 {s:List UInt8}(hs:s.length≤9223372036854775807):ae E3 21 [.str s] h K↔K (.int .i64 (yI s)) h:=by
 refine ae.cX (ae.fn (fn:=R.a21) rfl rfl rfl ?_);unfold R.a21;unfold yI;by_cases hc:s=[48]
 ·rw[if_pos hc];repeat'(with_reducible first|simp(disch:=try exact ab) only[go_sem,seval]|(apply ai.i<;>intro hc))
 ·rw [if_neg hc];cases s with
  | nil=>
   repeat'(with_reducible first|simp(disch:=try exact ab) only[go_sem,seval]|(apply ai.i<;>intro hc))
   simp
  | cons b r=>
   have e1:(b.toNat:Int)=45↔b=45:=qZ (n:=45) (by decide);by_cases hb:b=45
   ·have hb':=e1.2 hb;rw[if_pos (by rw[hb];rfl)];repeat'(with_reducible first|simp(disch:=try exact ab) only[go_sem,seval,de]|(apply ai.i<;>intro hc))
   ·have hb':=fun e=>hb (e1.1 e)
    rw[if_neg (by simpa using hb)];repeat'(with_reducible first|simp(disch:=try exact ab) only[go_sem,seval,de]|(apply ai.i<;>intro hc))
theorem Qm {s:List UInt8}(hs:s.length≤9223372036854775807):ae E3 214 [.str s] h K↔K (.str (Az s)) h:=by
 refine ae.cX (ae.fn (fn:=R.Mo) rfl rfl rfl ?_);unfold R.Mo;unfold Az;by_cases hc:yI s<0
 ·have hl:1≤s.length:=by
   cases s with
   |nil=>simp[yI]at hc
   |cons b r=>simp
  rw[if_pos hc];repeat'(with_reducible first|simp(disch:=try exact ab) only[go_sem,seval,c21]|(apply ai.i<;>intro hc))
 ·rw[if_neg hc];repeat'(with_reducible first|simp(disch:=try exact ab) only[go_sem,seval,c21]|(apply ai.i<;>intro hc))
theorem Bz (s:List UInt8):(sB s).length≤s.length:=by unfold sB;rw[aB];omega
end
end Go.Ae
namespace Go.Ae
noncomputable section
def UB (x:Option di)(h:Hp):Option (AV×Hp):=
 match x with
 |some (.row (x::_) _ _)=>some (.sl h.next 0 1 1,h.push fun s=> .row [x] true s)
 |_=>none
section
variable {h:Hp}{u t n b st st':Nat}{own:Bool}{x:AV}{cs vD:List AV}
theorem UB.row:UB (some (.row (x::cs) own st)) h=some (.sl h.next 0 1 1,h.push fun s=> .row [x] true s):=rfl
end
end
open N Go.Proofs
section
variable {h:Hp}{K:AV→Hp→Prop}
theorem Q8 {n k:Nat}(hn:n≤9223372036854775807)(hk:k≤1000):ae E3 186 [.int .i64 n,.int .i64 k] h K↔K (.str (bj n k)) h:=up NS fun K=>Yn hn hk
theorem A9 {n:Nat}(hn:n≤9223372036854775807):ae E3 186 [.int .i64 n,.int .i64 1] h K↔K (.str (bj n 1)) h:=Q8 (k:=1) hn (by omega)
theorem TT:ae E3 271 [.av] h K↔K .av h:=by
 refine ae.cX (ae.fn (fn:=R.Fp) rfl rfl rfl ?_);unfold R.Fp;repeat'(with_reducible first|simp(disch:=try exact ab) only[go_sem,seval,Wp.lA]|(apply ai.i<;>intro hc))
end
end Go.Ae
namespace Go.Ae
open Bg
noncomputable section
abbrev D9:Nat:=1000000000
theorem ee.sq {kd:IntKind}{h0 h:Hp}{v:AV}{n:Nat}{l:List Nat}(o:ee 1 h0 h v n (l.map (wd kd)))(hl:l.length=n):Sq kd h v l:=by
 obtain⟨_,⟨rfl,rfl⟩|⟨t,st,rfl,hg,h1,h2,h3⟩⟩:=o
 ·have:l=[]:=fZ.1 hl;subst this;exact Sq.nil
 ·subst hl;exact Sq.all hg h2 h3
section
variable {h:Hp}{K:AV→Hp→Prop}
theorem TD {t o n st:Nat}{L:List Nat}{own:Bool}(hg:h.get t=some (.row (L.map (wd .i64)) own st))(hn:o+n≤L.length)(Xi:n≤9223372036854775807):
  ae E3 271 [.sl t o n 1] h K↔K (.sl t o (dT ((L.drop o).take n)).length 1) h:=by
 refine ae.cX (ae.fn (fn:=R.Fp) rfl rfl rfl ?_);unfold R.Fp;repeat'(with_reducible first|simp(disch:=try exact ab) only[go_sem,seval]|(apply ai.i<;>intro hc))
 refine Wp.bD (fun m s=>∃k:Nat,val s.tm (.t 0)= .sl t o k 1∧s.hp=h∧k≤n∧dT ((L.drop o).take n)=dT ((L.drop o).take k)∧k=m) (n:=n) ?_ ?_
 ·exact⟨n,aL,rfl,ac _,rfl,rfl⟩
 ·rintro m ⟨tm,hp⟩ ⟨k,h0,rfl,hk,heq,rfl⟩;simp only at h0;rcases aG k with rfl|hpos
  ·have e0:((0:Nat):Int)=0:=rfl;repeat'(with_reducible first|simp(disch:=try exact ab) only[go_sem,seval,h0,e0]|(apply ai.i<;>intro hc))
   rw[heq];simp[dT]
  ·have hp':(0:Int)<k:=by omega
   have e1:((k:Int)-1).toNat=k-1:=by omega
   have hx:(L.map (wd .i64))[o+(k-1)]?=some (.int .i64 (L.getD (o+(k-1)) 0:Nat)):=jI (by omega);have hle:o+(k-1)+1≤L.length:=by omega
   have htk:(L.drop o).take k=(L.drop o).take (k-1)++[L.getD (o+(k-1)) 0]:=by
    have:=take_succ (i:=k-1) (l:=L.drop o) (by rw[bN];omega);rw[bR hpos]at this;rw[this];congr 2;simp[bQ]
   by_cases hz:L.getD (o+(k-1)) 0=0
   ·have zn:((L.getD (o+(k-1)) 0:Nat):Int)=0:=by omega
    repeat'(with_reducible first|simp(disch:=try exact ab) only[go_sem,seval,h0,hp',e1,hg,hx,hle,aV,dG,zn,nI]|(apply ai.i<;>intro hc))
    refine⟨k-1,by omega,k-1,rfl,by omega,?_,rfl⟩;rw[heq,htk,hz,pz]
   ·have zn:¬((L.getD (o+(k-1)) 0:Nat):Int)=0:=by omega
    repeat'(with_reducible first|simp(disch:=try exact ab) only[go_sem,seval,h0,hp',e1,hg,hx,hle,aV,dG,zn,nI]|(apply ai.i<;>intro hc))
    rw[heq,htk,rf hz,←htk,aB,bN,cI (by omega)]
theorem uE {v:AV}{l:List Nat}(hS:Sq .i64 h v l)(hl:l.length≤9223372036854775807):Gp E3 271 [v] h fun v' h'=>Sq .i64 h' v' (dT l):=by
 rcases hS with⟨rfl,rfl⟩|⟨t,o,own,st,L,rfl,hg,h1,h2,h3,h4⟩
 ·exact Gp.of (TT.2 ⟨Sq.nil,aK.refl h⟩)
 ·refine Gp.of ((TD hg h1 hl).2 ⟨?_,aK.refl h⟩);rw[h2];refine .inr ⟨t,o,own,st,L,rfl,hg,?_,?_,h3,h4⟩
  ·have:=nE l;omega
  ·conv=>rhs;rw[oH l,←h2]
   rw[AI,cI (by rw[h2];exact nE l),h2]
theorem d296 {v:AV}{l:List Nat}(hS:Sq .i64 h v l)(i:Nat):ae E3 296 [v,.int .i64 i] h K↔K (.int .i64 (l.getD i 0:Nat)) h:=by
 refine ae.cX (ae.fn (fn:=R.LZ) rfl rfl rfl ?_);unfold R.LZ;have rd:=hS.rd;have ln:=rd.len;by_cases hi:i<l.length
 ·have hi':(i:Int)<l.length:=by omega
  have ad:=rd.iZ;have ld:=rd.load i hi;repeat'(with_reducible first|simp(disch:=try exact ab) only[go_sem,seval,ln,hi',ad,ld]|(apply ai.i<;>intro hc))
 ·have hi':¬(i:Int)<l.length:=by omega
  have h0:l.getD i 0=0:=by simp[bQ,cb (wV hi)]
  repeat'(with_reducible first|simp(disch:=try exact ab) only[go_sem,seval,ln,hi']|(apply ai.i<;>intro hc))
  rw[h0];rfl
theorem d251 {va vb:AV}{a b:List Nat}(ha:Sq .i64 h va a)(hb:Sq .i64 h vb b)(da:Dg 1000000000 a)(db:Dg 1000000000 b)(na:Norm a)(nb:Norm b)(hla:a.length≤1000000)(hlb:b.length≤1000000):
  ae E3 251 [va,vb] h K↔K (.int .i64 (jz (vl 1000000000 a) (vl 1000000000 b))) h:=by
 refine ae.cX (ae.fn (fn:=R.Mf) rfl rfl rfl ?_);unfold R.Mf;have ra:=ha.rd;have rb:=hb.rd;by_cases hl:a.length=b.length
 ·have hl':(a.length:Int)=b.length:=by omega
  have hl2:=ra.len;have hl3:=rb.len;rw[←hl]at hl3;repeat'(with_reducible first|simp(disch:=try exact ab) only[go_sem,seval,hl2,hl3]|(apply ai.i<;>intro hc))
  refine Wp.bD (fun m s=>∃k:Nat,val s.tm (.t 0)=va∧val s.tm (.t 1)=vb∧val s.tm (.t 5)= .int .i64 ((k:Int)-1)∧s.hp=h∧k≤a.length∧a.drop k=b.drop k∧k=m) (n:=a.length) ?_ ?_
  ·exact⟨a.length,aL,aL,aL,rfl,ac _,by rw[oD,hl,oD],rfl⟩
  ·rintro m ⟨tm,hp⟩ ⟨k,h0,h1,h5,rfl,hk,heq,rfl⟩;simp only at h0 h1 h5;rcases aG k with rfl|hpos
   ·have e0:((0:Nat):Int)-1= -1:=rfl;repeat'(with_reducible first|simp(disch:=try exact ab) only[go_sem,seval,h0,h1,h5,e0]|(apply ai.i<;>intro hc))
    simp only[eY]at heq;subst heq;simp[jz]
   ·have e1:((k:Int)-1).toNat=k-1:=by omega
    have hp1:(0:Int)≤(k:Int)-1:=by omega
    have ola:=ra.old (by omega);have olb:=rb.old (by omega);have lda:=ra.load (k-1) (by omega);have ldb:=rb.load (k-1) (by omega);have ada:=ra.iZ;have adb:=rb.iZ
    have sda:a.drop (k-1)=a.getD (k-1) 0::a.drop k:=by
     rw[eP (by omega),getD_eq (by omega),bR hpos]
    have sdb:b.drop (k-1)=b.getD (k-1) 0::b.drop k:=by
     rw[eP (by omega),getD_eq (by omega),bR hpos]
    have tl:(k-1+1)=k:=by omega
    generalize SB:a.getD (k-1) 0=xa at *
    generalize SA:b.getD (k-1) 0=xb at *
    by_cases hlt:xa<xb
    ·have hlt':(xa:Int)<xb:=by omega
     repeat'(with_reducible first|simp(disch:=try exact ab) only[go_sem,seval,h0,h1,h5,hp1,e1,ada,adb,lda,ldb,ola,olb,hlt']|(apply ai.i<;>intro hc))
     have:=xh (B:=1000000000) (i:=k-1) (by decide) da hl (by omega) (by rw[tl];exact heq) (by rw[SB,SA];exact hlt);simp[jz,this]
    ·have hlt':¬(xa:Int)<xb:=by omega
     by_cases hgt:xb<xa
     ·have PO:(xb:Int)<xa:=by omega
      repeat'(with_reducible first|simp(disch:=try exact ab) only[go_sem,seval,h0,h1,h5,hp1,e1,ada,adb,lda,ldb,ola,olb,hlt',PO]|(apply ai.i<;>intro hc))
      have:=xh (B:=1000000000) (i:=k-1) (by decide) db hl.symm (by omega) (by rw[tl];exact heq.symm) (by rw[SB,SA];exact hgt);simp[jz,this,show ¬vl 1000000000 a<vl 1000000000 b by omega]
     ·have PO:¬(xb:Int)<xa:=by omega
      repeat'(with_reducible first|simp(disch:=try exact ab) only[go_sem,seval,h0,h1,h5,hp1,e1,ada,adb,lda,ldb,ola,olb,hlt',PO]|(apply ai.i<;>intro hc))
      refine⟨k-1,by omega,k-1,?_,by omega,?_,rfl⟩
      ·congr 1;omega
      ·rw[sda,sdb,heq,show xa=xb by omega]
 ·have hl':¬(a.length:Int)=b.length:=by omega
  have hl2:=ra.len;have hl3:=rb.len;by_cases hlt:a.length<b.length
  ·have hlt':(a.length:Int)<b.length:=by omega
   repeat'(with_reducible first|simp(disch:=try exact ab) only[go_sem,seval,hl2,hl3,hl',hlt']|(apply ai.i<;>intro hc))
   have:=jY (B:=1000000000) (by decide) da nb hlt;simp[jz,this]
  ·have hlt':¬(a.length:Int)<b.length:=by omega
   repeat'(with_reducible first|simp(disch:=try exact ab) only[go_sem,seval,hl2,hl3,hl',hlt']|(apply ai.i<;>intro hc))
   have:=jY (B:=1000000000) (by decide) db na (by omega);simp[jz,this,show ¬vl 1000000000 a<vl 1000000000 b by omega]
theorem wP {P o X Y x y c s:Nat}(h:o+P*c=X+Y)(hs:s=x+y+c):o+P*(s%1000000000)+P*1000000000*(s/1000000000)=X+P*x+(Y+P*y):=by
 have e:P*(s%1000000000)+P*1000000000*(s/1000000000)=P*s:=by
  rw[aI,←au];congr 1;omega
 have e2:P*s=P*x+P*y+P*c:=by rw[hs,au,au]
 omega
theorem d250 {va vb:AV}{a b:List Nat}(ha:Sq .i64 h va a)(hb:Sq .i64 h vb b)(da:Dg 1000000000 a)(db:Dg 1000000000 b)(hla:a.length≤1000000)(hlb:b.length≤1000000):
    Gp E3 250 [va,vb] h fun v h'=>∃l,Sq .i64 h' v l∧Dg 1000000000 l∧l.length≤1000001∧vl 1000000000 l=vl 1000000000 a+vl 1000000000 b:=by
  refine Gp.of (ae.fn (fn:=R.Mg) rfl rfl rfl ?_);unfold R.Mg;repeat'(with_reducible first|simp(disch:=try exact ab) only[go_sem,seval]|(apply ai.i<;>intro hc))
  refine Wp.bD (fun m s=>∃(i c:Nat) (out:List Nat) (v:AV),val s.tm (.t 0)=va∧val s.tm (.t 1)=vb∧val s.tm (.t 5)=v∧val s.tm (.t 6)= .int .i64 c∧val s.tm (.t 7)= .int .i64 i∧
    aK h s.hp∧ee 1 h s.hp v i (out.map (wd .i64))∧out.length=i∧Dg 1000000000 out∧c≤1∧i≤max a.length b.length+1∧(max a.length b.length<i→c=0)∧
    vl 1000000000 out+1000000000^i*c=vl 1000000000 (a.take i)+vl 1000000000 (b.take i)∧2*(max a.length b.length-i)+c=m) (n:=2*max a.length b.length) ?_ ?_
  · exact⟨0,0,[],.av,aL,aL,aL,by(simp(disch:=try exact ab) only[go_sem,seval])<;>rfl,by(simp(disch:=try exact ab) only[go_sem,seval])<;>rfl,aK.refl _,ee.nil,rfl,Dg.nil,by omega,by omega,by omega,by simp[vl],by omega⟩
  · rintro m ⟨tm,hp⟩ ⟨i,c,out,v,h0,h1,h5,h6,h7,hG,hO,hlo,hd,hc,Xv,XH,hinv,rfl⟩
    simp only at h0 h1 h5 h6 h7 hG hO;have lna:=(ha.aO hG).rd.len;have lnb:=(hb.aO hG).rd.len;have dA:=fun{K:AV→Hp→Prop}=>d296 (K:=K) (ha.aO hG) i
    have dB:=fun{K:AV→Hp→Prop}=>d296 (K:=K) (hb.aO hG) i
    have tka:=jN (B:=1000000000) (l:=a) (i:=i);have tkb:=jN (B:=1000000000) (l:=b) (i:=i);have hxd:=Dg.getD (B:=1000000000) (by decide) da i;have vf:=Dg.getD (B:=1000000000) (by decide) db i
    have fin:∀s,s=a.getD i 0+b.getD i 0+c→vl 1000000000 (out++[s%1000000000])+1000000000^(i+1)*(s/1000000000)=vl 1000000000 (a.take (i+1))+vl 1000000000 (b.take (i+1)):=by
      intro s hs;rw[jG,hlo,tka,tkb,aW];exact wP hinv hs
    have hza:a.length≤i→a.getD i 0=0:=fun e=>by simp[bQ,cb e]
    have hzb:b.length≤i→b.getD i 0=0:=fun e=>by simp[bQ,cb e]
    generalize a.getD i 0=xi at *
    generalize b.getD i 0=yi at *
    have em:((xi:Int)+yi+c)%1000000000=((xi+yi+c)%1000000000:Nat):=by omega
    have eq:((xi:Int)+yi+c)/1000000000=((xi+yi+c)/1000000000:Nat):=by omega
    have body:(i<a.length∨i<b.length∨0<c)→∀v' h',aK h h'→ee 1 h h' v' (i+1) (out.map (wd .i64)++[.int .i64 ((xi+yi+c)%1000000000:Nat)])→
        ∃ m',m'<2*(max a.length b.length-i)+c∧∃(i' c':Nat) (fA:List Nat) (v'':AV),((i:Int)+1)=i'∧((xi+yi+c)/1000000000:Nat)=c'∧v'=v''∧aK h h'∧ee 1 h h' v'' i' (fA.map (wd .i64))∧fA.length=i'∧Dg 1000000000 fA∧c'≤1∧i'≤max a.length b.length+1∧(max a.length b.length<i'→c'=0)∧
          vl 1000000000 fA+1000000000^i'*c'=vl 1000000000 (a.take i')+vl 1000000000 (b.take i')∧2*(max a.length b.length-i')+c'=m':=by
      intro hor v' h' G' O'
      have QQ:i≤max a.length b.length:=by
        rcases aQ (max a.length b.length) i with e|e
        · have:=XH e;omega
        · exact e
      refine⟨_,?_,i+1,(xi+yi+c)/1000000000,out++[(xi+yi+c)%1000000000],v',by omega,rfl,rfl,G',?_,by simp[hlo],hd.append (Dg.cons (aZ _ (by decide)) Dg.nil),by omega,by omega,?_,fin _ rfl,rfl⟩
      · rcases aQ i (max a.length b.length)with e|e
        · omega
        · have:=hza (by omega);have:=hzb (by omega)
          omega
      · rw[List.map_append];exact O'
      · intro e
        have:=hza (by omega);have:=hzb (by omega);omega
    by_cases g1:i<a.length
    · have g1':(i:Int)<a.length:=by omega
      repeat'(with_reducible first|simp(disch:=try exact ab) only[go_sem,seval,h0,h1,h5,h6,h7,lna,lnb,g1',dA,dB,em,eq,jM]|(apply ai.i<;>intro hc))
      refine ee.wp (h0:=h) (b:=8) rfl hG hO rfl (by decide) (by omega) (by omega) fun v' h' G' O'=>?_
      repeat'(with_reducible first|simp(disch:=try exact ab) only[go_sem,seval,h0,h1,h5,h6,h7,eq]|(apply ai.i<;>intro hc))
      obtain⟨m',FH,i',c',fA,v'',e1,e2,rfl,r⟩:=body (.inl g1) v' h' G' O';subst e2;exact⟨m',FH,i',_,fA,rfl,by rw[e1],r⟩
    · have g1':¬(i:Int)<a.length:=by omega
      by_cases g2:i<b.length
      · have U5:(i:Int)<b.length:=by omega
        repeat'(with_reducible first|simp(disch:=try exact ab) only[go_sem,seval,h0,h1,h5,h6,h7,lna,lnb,g1',U5,dA,dB,em,eq,jM]|(apply ai.i<;>intro hc))
        refine ee.wp (h0:=h) (b:=8) rfl hG hO rfl (by decide) (by omega) (by omega) fun v' h' G' O'=>?_
        repeat'(with_reducible first|simp(disch:=try exact ab) only[go_sem,seval,h0,h1,h5,h6,h7,eq]|(apply ai.i<;>intro hc))
        obtain⟨m',FH,i',c',fA,v'',e1,e2,rfl,r⟩:=body (.inr (.inl g2)) v' h' G' O';subst e2;exact⟨m',FH,i',_,fA,rfl,by rw[e1],r⟩
      · have U5:¬(i:Int)<b.length:=by omega
        by_cases g3:0<c
        · have g3':(0:Int)<c:=by omega
          repeat'(with_reducible first|simp(disch:=try exact ab) only[go_sem,seval,h0,h1,h5,h6,h7,lna,lnb,g1',U5,g3',dA,dB,em,eq,jM]|(apply ai.i<;>intro hc))
          refine ee.wp (h0:=h) (b:=8) rfl hG hO rfl (by decide) (by omega) (by omega) fun v' h' G' O'=>?_
          repeat'(with_reducible first|simp(disch:=try exact ab) only[go_sem,seval,h0,h1,h5,h6,h7,eq]|(apply ai.i<;>intro hc))
          obtain⟨m',FH,i',c',fA,v'',e1,e2,rfl,r⟩:=body (.inr (.inr g3)) v' h' G' O';subst e2;exact⟨m',FH,i',_,fA,rfl,by rw[e1],r⟩
        · have g3':¬(0:Int)<c:=by omega
          repeat'(with_reducible first|simp(disch:=try exact ab) only[go_sem,seval,h0,h1,h5,h6,h7,lna,lnb,g1',U5,g3']|(apply ai.i<;>intro hc))
          refine⟨⟨out,hO.sq hlo,hd,by omega,?_⟩,hG⟩;obtain rfl:c=0:=by omega
          rw[gA,aT,aP (by omega),aP (by omega)]at hinv;exact hinv
end
end
end Go.Ae
namespace Go.Ae
open Bg
noncomputable section
theorem ze {P Q Bj B V V' V0 Y x y o c c' r:Nat}(h:V+Q*c=V0+P*(x*Y))(hQ:Q=P*Bj)(hr:r+B*c'=x*y+o+c)(hV:V'+Q*o=V+Q*r):
  V'+Q*B*c'=V0+P*(x*(Y+Bj*y)):=by
 have e1:Q*(r+B*c')=Q*(x*y+o+c):=by rw[hr]
 rw[au,au,au,←aI]at e1
 have e2:P*(x*(Y+Bj*y))=P*(x*Y)+Q*(x*y):=by
  rw[hQ,au,au];congr 1;ac_rfl
 omega
theorem EB {p o c:Nat}(hp:p≤18446744073709551615*18446744073709551615)(ho:o<18446744073709551616)(hc:c<18446744073709551616):
  (p/18446744073709551616+(p%18446744073709551616+o)/18446744073709551616)+((p%18446744073709551616+o)%18446744073709551616+c)/18446744073709551616<18446744073709551616∧((p%18446744073709551616+o)%18446744073709551616+c)%18446744073709551616+18446744073709551616*((p/18446744073709551616+(p%18446744073709551616+o)/18446744073709551616)+((p%18446744073709551616+o)%18446744073709551616+c)/18446744073709551616)=p+o+c:=by
 omega
section
variable {h:Hp}{K:AV→Hp→Prop}
theorem Yb {va vb:AV}{a b:List Nat}(ha:Sq .u64 h va a)(hb:Sq .u64 h vb b)(da:Dg 18446744073709551616 a)(db:Dg 18446744073709551616 b)(hla:a.length≤1000000)(hlb:b.length≤1000000):
  Gp E2 263 [va,vb] h fun v h'=>∃l,Sq .u64 h' v l∧Dg 18446744073709551616 l∧Norm l∧vl 18446744073709551616 l=vl 18446744073709551616 a*vl 18446744073709551616 b:=by
 refine Gp.of (ae.fn (fn:=C.L7) rfl rfl rfl ?_);unfold C.L7;have la:=ha.rd.len;have lb:=hb.rd.len;have mk:=fun{h:Hp} {K:AV→Hp→Prop}=>lI.EI (h:=h) (K:=K) (b:=8) (z:= .int .u64 0) (m:=(a.length:Int)+b.length) (a.length+b.length) (by omega) rfl (by omega)
 repeat'(with_reducible first|simp(disch:=try exact ab) only[go_sem,seval,la,lb,mk]|(apply ai.i<;>intro hc))
 have hz:(aw (a.length+b.length) (AV.int .u64 0))=(aw (a.length+b.length) 0).map (wd .u64):=by rw[gM];rfl
 rw[hz]
 refine Wp.bD (fun m s=>∃(i:Nat) (out:List Nat),val s.tm (.t 1)=vb∧val s.tm (.t 5)= .sl h.next 0 (a.length+b.length) 1∧val s.tm (.t 20)=va∧val s.tm (.t 21)= .int .i64 a.length∧val s.tm (.t 22)= .int .i64 i∧
  aK h s.hp∧bv s.hp h.next (out.map (wd .u64))∧out.length=a.length+b.length∧Dg 18446744073709551616 out∧i≤a.length∧
  vl 18446744073709551616 out=vl 18446744073709551616 (a.take i)*vl 18446744073709551616 b∧(∀k,i+b.length≤k→out.getD k 0=0)∧m=a.length-i) (n:=a.length) ?_ ?_
 ·refine⟨0,aw (a.length+b.length) 0,aL,aL,aL,aL,by(simp(disch:=try exact ab) only[go_sem,seval])<;>rfl,?_,?_,by simp,Dg.ph (by decide) _,by omega,by simp[vl,nC],?_,rfl⟩
  ·exact aS
  ·exact bv.push
  ·intro k _;simp only[bQ,List.getElem?_replicate];split<;>rfl
 ·rintro m ⟨tm,hp⟩ ⟨i,out,h1,h5,NR,Ld,Lc,hG,hAt,hlo,hd,hle,hinv,hzero,rfl⟩;simp only at h1 h5 NR Ld Lc hG hAt;by_cases hlt:i<a.length
  ·have hlt':(i:Int)<a.length:=by omega
   have ra:=(ha.aO hG).rd;have ada:=ra.iZ;have lda:=ra.load i hlt;have lb:=(hb.aO hG).rd.len;have hxd:=Dg.getD (B:=18446744073709551616) (by decide) da i;have tka:=aY (B:=18446744073709551616) hlt;generalize a.getD i 0=xi at *
   obtain⟨VE,UW,hs0,hn0⟩:=id hAt;repeat'(with_reducible first|simp(disch:=try exact ab) only[go_sem,seval,h1,h5,NR,Ld,Lc,hlt',ada,lda,lb]|(apply ai.i<;>intro hc))
   refine Wp.bD (fun m s=>∃(j c:Nat) (fA:List Nat),val s.tm (.t 1)=vb∧val s.tm (.t 5)= .sl h.next 0 (a.length+b.length) 1∧val s.tm (.t 20)=va∧val s.tm (.t 21)= .int .i64 a.length∧val s.tm (.t 22)= .int .i64 i∧
    val s.tm (.t 6)= .int .i64 i∧val s.tm (.t 7)= .int .u64 xi∧val s.tm (.t 8)= .int .u64 c∧val s.tm (.t 27)=vb∧val s.tm (.t 28)= .int .i64 b.length∧val s.tm (.t 29)= .int .i64 j∧
    aK h s.hp∧bv s.hp h.next (fA.map (wd .u64))∧fA.length=a.length+b.length∧Dg 18446744073709551616 fA∧j≤b.length∧c<18446744073709551616∧
    vl 18446744073709551616 fA+18446744073709551616^(i+j)*c=vl 18446744073709551616 out+18446744073709551616^i*(xi*vl 18446744073709551616 (b.take j))∧(∀k,i+b.length≤k→fA.getD k 0=0)∧m=b.length-j) (n:=b.length) ?_ ?_
   ·exact⟨0,0,out,by simp(disch:=try exact ab) only[go_sem,seval,h1],by simp(disch:=try exact ab) only[go_sem,seval,h5],by simp(disch:=try exact ab) only[go_sem,seval,NR],by simp(disch:=try exact ab) only[go_sem,seval,Ld],by simp(disch:=try exact ab) only[go_sem,seval,Lc],aL,aL,by(simp(disch:=try exact ab) only[go_sem,seval])<;>rfl,aL,aL,by(simp(disch:=try exact ab) only[go_sem,seval])<;>rfl,hG,hAt,hlo,hd,aE _,by decide,by simp[vl],hzero,rfl⟩
   ·rintro m ⟨fE,hq⟩ ⟨j,c,fA,k1,k5,mI,ug,BC,k6,k7,k8,Wz,NF,NE,zx,⟨st,hgo,PC,hnx⟩,H9,nA,pJ,hc,zr,nS,rfl⟩;simp only at k1 k5 mI ug BC k6 k7 k8 Wz NF NE zx hgo PC hnx;by_cases PI:j<b.length
    ·have BP:(j:Int)<b.length:=by omega
     have rb:=(hb.aO zx).rd;have adb:=rb.iZ;have ldb:=rb.load j PI;have vf:=Dg.getD (B:=18446744073709551616) (by decide) db j;have tkb:=aY (B:=18446744073709551616) PI;generalize b.getD j 0=yj at *
     have hij:(((i:Int)+j)).toNat=i+j:=by omega
     have sD:i+j+1≤fA.length:=by omega
     have UQ:(fA.map (wd .u64))[i+j]?=some (.int .u64 (fA.getD (i+j) 0:Nat)):=jI (by omega);have mK:∀r:Nat,fV (i+j) (fA.map (wd .u64))++ .int .u64 (r:Int)::gT (i+j+1) (fA.map (wd .u64))=(fA.set (i+j) r).map (wd .u64):=fun r=>jj (by omega)
     have hod:=Dg.getD (B:=18446744073709551616) (by decide) nA (i+j);have EJ:=fun r=>py (B:=18446744073709551616) (l:=fA) (i:=i+j) (x:=r) (by omega)
     generalize hoj:fA.getD (i+j) 0=oj at *
     have hpp:xi*yj≤18446744073709551615*18446744073709551615:=eH (by omega) (by omega);obtain⟨c1,c2⟩:=EB hpp hod hc
     have w1:IntKind.wrap .u64 (((xi*yj/18446744073709551616:Nat):Int)+((xi*yj%18446744073709551616+oj)/18446744073709551616:Nat))=((xi*yj/18446744073709551616+(xi*yj%18446744073709551616+oj)/18446744073709551616:Nat):Int):=by
      rw[←td,wrap_u64 (by omega)]
     have w2:IntKind.wrap .u64 (((xi*yj/18446744073709551616+(xi*yj%18446744073709551616+oj)/18446744073709551616:Nat):Int)+(((xi*yj%18446744073709551616+oj)%18446744073709551616+c)/18446744073709551616:Nat))=(((xi*yj/18446744073709551616+(xi*yj%18446744073709551616+oj)/18446744073709551616)+((xi*yj%18446744073709551616+oj)%18446744073709551616+c)/18446744073709551616:Nat):Int):=by
      rw[←td,wrap_u64 (by omega)]
     repeat'(with_reducible first|simp(disch:=try exact ab) only[go_sem,seval,k1,k5,mI,ug,BC,k6,k7,k8,Wz,NF,NE,BP,adb,ldb,sF,uO,hij,hgo,sD,UQ,mK,w1,w2]|(apply ai.i<;>intro hc))
     refine⟨_,?_,j+1,(xi*yj/18446744073709551616+(xi*yj%18446744073709551616+oj)/18446744073709551616)+((xi*yj%18446744073709551616+oj)%18446744073709551616+c)/18446744073709551616,fA.set (i+j) (((xi*yj%18446744073709551616+oj)%18446744073709551616+c)%18446744073709551616),by simp,rfl,?_,?_,?_,?_,PI,c1,?_,?_,rfl⟩
     ·omega
     ·exact aK.put zx (ac _)
     ·exact bv.put hnx
     ·simpa using H9
     ·exact nA.set _ (aZ _ (by decide))
     ·rw[←dm,aW,tkb];exact ze zr (by rw[dz]) c2 (EJ _)
     ·intro k hk;rw[Bg.getD_set_ne (show i+j≠k by omega)];exact nS k hk
    ·have BP:¬(j:Int)<b.length:=by omega
     obtain rfl:j=b.length:=by omega
     have lb:=(hb.aO zx).rd.len;have hij:(((i:Int)+b.length)).toNat=i+b.length:=by omega
     have sD:i+b.length+1≤fA.length:=by omega
     have mK:fV (i+b.length) (fA.map (wd .u64))++ .int .u64 (c:Int)::gT (i+b.length+1) (fA.map (wd .u64))=(fA.set (i+b.length) c).map (wd .u64):=jj (by omega);repeat'(with_reducible first|simp(disch:=try exact ab) only[go_sem,seval,k1,k5,mI,ug,BC,k6,k7,k8,Wz,NF,NE,BP,lb,hij,hgo,sD,mK]|(apply ai.i<;>intro hc))
     refine⟨_,?_,i+1,fA.set (i+b.length) c,rfl,?_,?_,?_,?_,hlt,?_,?_,rfl⟩
     ·omega
     ·exact aK.put zx (ac _)
     ·exact bv.put hnx
     ·simpa using H9
     ·exact nA.set _ hc
     ·have e:=py (B:=18446744073709551616) (l:=fA) (i:=i+b.length) (x:=c) (by omega);rw[nS _ (ac _),gA,aT]at e;rw[e,zr,hinv,tka,bu,aX,aI]
     ·intro k hk;rw[Bg.getD_set_ne (show i+b.length≠k by omega)];exact nS k (by omega)
  ·have hlt':¬(i:Int)<a.length:=by omega
   obtain rfl:i=a.length:=by omega
   repeat'(with_reducible first|simp(disch:=try exact ab) only[go_sem,seval,h1,h5,NR,Ld,Lc,hlt']|(apply ai.i<;>intro hc))
   refine Gp.wp (zB (hAt.sq hlo) (by omega)) fun v h' k j g hv=>?_
   repeat'(with_reducible first|simp(disch:=try exact ab) only[go_sem,seval]|(apply ai.i<;>intro hc))
   refine⟨⟨_,hv,hd.trim,eZ _,?_⟩,?_⟩
   ·rw[gi,hinv,bu]
   ·exact aK.ov hG
end
end
end Go.Ae
namespace Go.Ae.Bg
structure AS (b v1 v0 U u q r:Nat):Prop where
 rest:U=q*v1+r
 ge:(U*b+u)/(v1*b+v0)≤q
variable {b v1 v0 U u q r:Nat}
theorem AS.done (e:AS b v1 v0 U u q r)(hv:0<v1*b+v0)(h:q*v0≤b*r+u):q=(U*b+u)/(v1*b+v0):=by
 refine Nat.le_antisymm ?_ e.ge;rw[Nat.le_div_iff_mul_le hv];have e1:q*(v1*b+v0)=q*v1*b+q*v0:=by rw[au,aI]
 have e2:U*b=q*v1*b+r*b:=by rw[e.rest,aX]
 have e3:b*r=r*b:=ay _ _;omega
theorem AS.down (e:AS b v1 v0 U u q r)(hv:0<v1*b+v0)(h:b*r+u<q*v0):1≤q∧AS b v1 v0 U u (q-1) (r+v1):=by
 have hq:1≤q:=by
  rcases aG q with h0|h0
  ·subst h0;simp at h
  ·exact h0
 obtain⟨p,rfl⟩:∃p,q=p+1:=⟨q-1,by omega⟩
 refine⟨hq,?_,?_⟩
 ·have:=e.rest;rw[aX]at this;rw[ie];omega
 ·rw[ie]
  have:(U*b+u)/(v1*b+v0)<p+1:=by
   rw[dj hv];have e1:(p+1)*(v1*b+v0)=(p+1)*v1*b+(p+1)*v0:=by rw[au,aI]
   have e2:U*b=(p+1)*v1*b+r*b:=by rw[e.rest,aX]
   have e3:b*r=r*b:=ay _ _;omega
  omega
theorem AS.NY (e:AS b v1 v0 U u q r)(hb:0<b)(hQ:(U*b+u)/(v1*b+v0)<b)(hq:b≤q):1≤q∧AS b v1 v0 U u (q-1) (r+v1):=by
 obtain⟨p,rfl⟩:∃p,q=p+1:=⟨q-1,by omega⟩
 refine⟨by omega,?_,by omega⟩;have:=e.rest;rw[aX]at this;rw[ie];omega
theorem AS.first (hv1:0<v1)(hb:0<b)(hu:u<b):AS b v1 v0 U u (U/v1) (U%v1):=by
 refine⟨by rw[ay];exact(cD U v1).symm,?_⟩;have hv:0<v1*b+v0:=by have:=fv hv1 hb;omega
 have h1:(U*b+u)/(v1*b+v0)≤(U*b+u)/(v1*b):=Nat.div_le_div_left (by omega) (fv hv1 hb)
 have h2:(U*b+u)/(v1*b)=U/v1:=by
  rw[ay v1 b,←Nat.div_div_eq_div_mul];congr 1;rw[ay,nu hb,je hu,aT]
 omega
theorem AS.uo (e:AS b v1 v0 U u q r)(yk:v0<b)(hU:U<v1*b+v0)(hr:b≤r):q<b∧q*v0≤b*r+u:=by
 have hq:q<b:=by
  rcases aQ q b with c|c
  ·exact c
  ·have h1:b*v1≤q*v1:=aH _ c;have:=e.rest;rw[ay v1 b]at hU;omega
 refine⟨hq,?_⟩;have h1:q*v0≤b*b:=eH (by omega) (by omega);have h2:b*b≤b*r:=aD _ hr;omega
theorem O3 (hb:0<b)(hu:u<b)(hU:U<v1*b+v0):(U*b+u)/(v1*b+v0)<b:=by
 rw[dj (by omega),ay b];have:(U+1)*b≤(v1*b+v0)*b:=aH _ (by omega);rw[aX]at this;omega
end Go.Ae.Bg
namespace Go.Ae
open Bg
noncomputable section
theorem Gg (n:Nat):((2:Int)^n)=((2^n:Nat):Int):=by rw[Int.natCast_pow];rfl
theorem uP {q:mW}{k':IntKind}{m n:Nat}(hn:n≤64):dM .shl q (.int .u64 m) (.int k' n)=some (.int .u64 ((m*2^n%18446744073709551616:Nat):Int)):=by
 have hb:IntKind.bits .u64=64:=rfl;simp only[dM,nr];rw[if_neg (by omega),fm,hb,cI hn,Gg,←bT,IntKind.wrap_u64];congr 2
theorem sY {q:mW}{k':IntKind}{m n:Nat}(hn:n≤64):dM .shr q (.int .u64 m) (.int k' n)=some (.int .u64 ((m/2^n:Nat):Int)):=rP (k:= .u64) hn
theorem Jr {q:mW}{k:IntKind}{m n:Int}:dM .or q (.int k m) (.int k n)=some (.int k (k.wrap (BitVec.ofInt k.bits m|||BitVec.ofInt k.bits n).toNat)):=by
 simp[dM,nr,kD,fK,wL]
theorem Ok {q:mW}{a b c n:Nat}(ha:a=c*2^n)(hb:b<2^n)(hs:a+b<18446744073709551616):dM .or q (.int .u64 a) (.int .u64 b)=some (.int .u64 ((a+b:Nat):Int)):=by
 rw[Jr];congr 2
 have e:(BitVec.ofInt 64 (a:Int)|||BitVec.ofInt 64 b).toNat=a+b:=by
  rw[BitVec.toNat_or];simp only[BitVec.toNat_ofInt];have e1:((a:Int)%(2^64:Nat)).toNat=a:=by omega
  have e2:((b:Int)%(2^64:Nat)).toNat=b:=by omega
  rw[e1,e2,ha,←Nat.shiftLeft_eq,←Nat.shiftLeft_add_eq_or_of_lt hb]
 show IntKind.wrap .u64 (((BitVec.ofInt 64 (a:Int)|||BitVec.ofInt 64 b).toNat:Nat):Int)=_
 rw[e,wrap_u64 (by omega)]
def lz (x:Nat):Nat:=64-bitLen x
theorem Fi {x:Nat}(h:0<x):2^(bitLen x-1)≤x∧1≤bitLen x:=by
 unfold bitLen;rw[if_neg (by omega)];exact⟨(Nat.le_log2 (by omega)).1 (by omega),by omega⟩
theorem xz {x:Nat}(h0:0<x)(hx:x<18446744073709551616):lz x≤63∧9223372036854775808≤x*2^lz x∧x*2^lz x<18446744073709551616∧0<2^lz x:=by
 obtain⟨h1,h2⟩:=Fi h0;have h3:bitLen x≤64:=mg (k:=64) hx;have h4:x<2^bitLen x:=bitLen_le (ac _);have hp:0<2^lz x:=dC (by decide);unfold lz at *;refine⟨by omega,?_,?_,hp⟩
 ·have:=aH (2^(64-bitLen x)) h1;rw[←dz,show bitLen x-1+(64-bitLen x)=63 by omega]at this;exact this
 ·have:=Nat.mul_lt_mul_of_pos_right h4 hp;rw[←dz,show bitLen x+(64-bitLen x)=64 by omega]at this;exact this
theorem Lp {U b u1 u0 Y:Nat}(hY:0<Y):((U*b+u1)*b+u0)/Y=(U*b+u1)/Y*b+((U*b+u1)%Y*b+u0)/Y∧((U*b+u1)*b+u0)%Y=((U*b+u1)%Y*b+u0)%Y:=by
 have e:(U*b+u1)*b+u0=Y*((U*b+u1)/Y*b)+((U*b+u1)%Y*b+u0):=by
  have:=cD (U*b+u1) Y
  conv=>lhs;rw[←this]
  rw[aX,aI];omega
 refine⟨?_,?_⟩
 ·conv=>lhs;rw[e,nu hY]
 ·conv=>lhs;rw[e,Nat.mul_add_mod]
theorem Kk {hi lo s:Nat}(hs:s≤64):(hi*2^s+lo/2^(64-s))*18446744073709551616+lo*2^s%18446744073709551616=(hi*18446744073709551616+lo)*2^s:=by
 have hB:2^(64-s)*2^s=18446744073709551616:=by rw[←dz,bR hs]
 have h1:lo/2^(64-s)=lo*2^s/18446744073709551616:=by
  rw[←hB,vc _ _ (dC (by decide))]
 have h3:hi*2^s*18446744073709551616=hi*18446744073709551616*2^s:=by ac_rfl
 rw[h1,aX,aX,h3,dm,Nat.div_add_mod']
theorem Kh {U u:Nat}:U*18446744073709551616+u=(U*4294967296+u/4294967296)*4294967296+u%4294967296:=by omega
theorem Qk {a b:Nat}:((a*4294967296+b:Nat):Int)=(a:Int)*4294967296+b:=by omega
theorem M3 {R u q Y rem:Nat}(h:q*Y+rem=R*4294967296+u)(hr:rem<18446744073709551616):
  IntKind.wrap .u64 (IntKind.wrap .u64 (IntKind.wrap .u64 ((R:Int)*4294967296)+u)-IntKind.wrap .u64 ((q:Int)*Y))=(rem:Nat):=by
 rw[←bT];generalize q*Y=X at *
 simp only[IntKind.wrap_u64];omega
theorem M0 {U q v r:Nat}(h:q*v+r=U)(hU:U<18446744073709551616):IntKind.wrap .u64 ((U:Int)-IntKind.wrap .u64 ((q:Int)*v))=(r:Nat):=by
 rw[←bT];generalize q*v=X at *
 simp only[IntKind.wrap_u64];omega
section
variable {h:Hp}{K:AV→Hp→Prop}
theorem TO {x:Nat}(hx:x<18446744073709551616):ae E2 301 [.int .u64 x] h K↔K (.int .i64 (lz x:Nat)) h:=by
 refine ae.cX (ae.fn (fn:=C.LY) rfl rfl rfl ?_);unfold C.LY;have h3:bitLen x≤64:=mg (k:=64) hx;have e:(64:Int)-(bitLen x:Nat)=(lz x:Nat):=by unfold lz;omega
 repeat'(with_reducible first|simp(disch:=try exact ab) only[go_sem,seval,TW,e]|(apply ai.i<;>intro hc))
theorem Qb {tm:T AV}{q1 q0 R u0 Y s rm:Nat}(h2:val tm (.t 2)= .int .u64 Y)(h8:val tm (.t 8)= .int .u64 s)(h14:val tm (.t 14)= .int .u64 u0)(JL:val tm (.t 15)= .int .u64 q1)(Tc:val tm (.t 17)= .int .u64 R)(h18:val tm (.t 18)= .int .u64 q0)
  (hs:s≤63) (K3:q1<4294967296) (hq0:q0<4294967296) (H6:q0*Y+rm=R*4294967296+u0) (hr:rm<18446744073709551616):
  Wp E2 ((C.sG.code.post 15).post 4) ⟨tm,h⟩ (eT [.tmp 6,.tmp 7] fun v h'=>v= .gk [.int .u64 ((q1:Int)*4294967296+q0),.int .u64 (rm/2^s:Nat)]∧h'=h):=by
 unfold C.sG;dsimp only[ap.post];have e2:=M3 H6 hr;repeat'(with_reducible first|simp(disch:=try exact ab) only[go_sem,seval,h2,h8,h14,JL,Tc,h18,e2,sY]|(apply ai.i<;>intro hc))
theorem IL {v1 v0 Y U u Q R':Nat}(hv1:0<v1)(hY:Y=v1*4294967296+v0)(hu:u<4294967296)(hU:U<Y)(hm:R'<Y)(hd:Q*Y+R'=U*4294967296+u):
  AS 4294967296 v1 v0 U u (U/v1) (U%v1)∧Q<4294967296∧(U*4294967296+u)/(v1*4294967296+v0)=Q:=by
 have e:(U*4294967296+u)/(v1*4294967296+v0)=Q:=by
  rw[←hY,←hd,ay,nu (by omega),je hm,aT]
 refine⟨AS.first hv1 (by decide) hu,?_,e⟩;rw[←e];exact O3 (by decide) hu (by omega)
theorem Qc {tm:T AV}{q1 q0 U R u1 u0 Y s rm v1 v0:Nat}(h2:val tm (.t 2)= .int .u64 Y)(h8:val tm (.t 8)= .int .u64 s)(h9:val tm (.t 9)= .int .u64 v1)(h10:val tm (.t 10)= .int .u64 v0)(h11:val tm (.t 11)= .int .u64 U)(h13:val tm (.t 13)= .int .u64 u1)(h14:val tm (.t 14)= .int .u64 u0)(JL:val tm (.t 15)= .int .u64 q1)
  (hs:s≤63) (hv1:0<v1) (SF:v1<4294967296) (yk:v0<4294967296) (hY:Y=v1*4294967296+v0) (UN:u0<4294967296) (hql:q1<4294967296) (hRl:R<Y) (vB:q1*Y+R=U*4294967296+u1) (H6:rm<Y) (zt:q0*Y+rm=R*4294967296+u0):
  Wp E2 (C.sG.code.post 15) ⟨tm,h⟩ (eT [.tmp 6,.tmp 7] fun v h'=>v= .gk [.int .u64 ((q1:Int)*4294967296+q0),.int .u64 (rm/2^s:Nat)]∧h'=h):=by
 obtain⟨hE,W8,PE⟩:=IL hv1 hY UN hRl H6 zt;have tail:=fun tm hh2 Xx PN PM Xz Xy=>Qb (h:=h) (tm:=tm) (q1:=q1) (q0:=q0) (R:=R) (u0:=u0) (Y:=Y) (s:=s) (rm:=rm) hh2 Xx PN PM Xz Xy hs hql W8 zt (by omega)
 refine Wp.cut 4 rfl ?_;generalize ap.post 4 (ap.post 15 C.sG.code)=r at tail⊢
 unfold C.sG;dsimp only[ap.post,ap.pre];have e1:=M3 vB (by omega);have e4:=M0 (U:=R) (q:=R/v1) (v:=v1) (r:=R%v1) (by rw[ay];exact cD _ _) (by omega);have e5:=jB R v1;have e6:R%v1<v1:=aZ _ hv1;have WU:0<(v1:Int):=by omega
 have e3:((R:Int)/v1)=((R/v1:Nat):Int):=rfl;obtain⟨Q0,hQ0⟩:∃Q0,Q0=R/v1:=⟨_,rfl⟩
 obtain⟨R0,hR0⟩:∃R0,R0=R%v1:=⟨_,rfl⟩
 rw[←hQ0]at e3 e4 e5 hE;rw[←hR0]at e4 e6 hE;have e7:IntKind.wrap .u64 (Q0:Int)=Q0:=wrap_u64 (by omega);repeat'(with_reducible first|simp(disch:=try exact ab) only[go_sem,seval,h2,h8,h9,h10,h11,h13,h14,JL,e1,e3,e4,e7,mQ]|(apply ai.i<;>intro hc))
 refine Wp.bD (fun m s'=>∃q r':Nat,val s'.tm (.t 2)= .int .u64 Y∧val s'.tm (.t 8)= .int .u64 s∧val s'.tm (.t 9)= .int .u64 v1∧val s'.tm (.t 10)= .int .u64 v0∧val s'.tm (.t 14)= .int .u64 u0∧val s'.tm (.t 15)= .int .u64 q1∧val s'.tm (.t 17)= .int .u64 R∧val s'.tm (.t 18)= .int .u64 q∧val s'.tm (.t 16)= .int .u64 r'∧
  s'.hp=h∧AS 4294967296 v1 v0 R u0 q r'∧q<18446744073709551616∧r'<4294967296∧q=m) (n:=Q0) ?_ ?_
 ·exact⟨Q0,R0,by simp(disch:=try exact ab) only[go_sem,seval,h2],by simp(disch:=try exact ab) only[go_sem,seval,h8],by simp(disch:=try exact ab) only[go_sem,seval,h9],by simp(disch:=try exact ab) only[go_sem,seval,h10],by simp(disch:=try exact ab) only[go_sem,seval,h14],by simp(disch:=try exact ab) only[go_sem,seval,JL],aL,aL,aL,rfl,hE,by omega,by omega,rfl⟩
 ·rintro m ⟨fE,hp⟩ ⟨q,r',k2,k8,k9,k10,eA,qE,ve,kQ,BD,rfl,hEst,hqB,hr',rfl⟩;simp only at k2 k8 k9 k10 eA qE ve kQ BD
  have w2:IntKind.wrap .u64 (IntKind.wrap .u64 (4294967296*(r':Int))+u0)=((4294967296*r'+u0:Nat):Int):=by
   simp only[IntKind.wrap_u64];omega
  have sa:IntKind.wrap .u64 ((r':Int)+v1)=((r'+v1:Nat):Int):=by simp only[IntKind.wrap_u64];omega
  have sw:1≤q→IntKind.wrap .u64 ((q:Int)-1)=((q-1:Nat):Int):=fun e=>by simp only[IntKind.wrap_u64];omega
  by_cases zp:(4294967296:Int)≤q
  ·obtain⟨Im,hEd⟩:=hEst.NY (by omega) (by omega) (by omega);by_cases hrb:(4294967296:Int)≤((r'+v1:Nat):Int)
   ·have pK:=hEd.uo yk (by omega) (by omega);have nU:q-1=q0:=(hEd.done (by omega) pK.2).trans PE;repeat'(with_reducible first|simp(disch:=try exact ab) only[go_sem,seval,k2,k8,k9,k10,eA,qE,ve,kQ,BD,zp,sw Im,sa,hrb]|(apply ai.i<;>intro hc))
    rw[nU];exact tail _ (by simp(disch:=try exact ab) only[go_sem,seval,k2]) (by simp(disch:=try exact ab) only[go_sem,seval,k8]) (by simp(disch:=try exact ab) only[go_sem,seval,eA]) (by simp(disch:=try exact ab) only[go_sem,seval,qE]) (by simp(disch:=try exact ab) only[go_sem,seval,ve]) aL
   ·repeat'(with_reducible first|simp(disch:=try exact ab) only[go_sem,seval,k2,k8,k9,k10,eA,qE,ve,kQ,BD,zp,sw Im,sa,hrb]|(apply ai.i<;>intro hc))
    exact⟨q-1,by omega,q-1,r'+v1,rfl,rfl,hEd,by omega,by omega,rfl⟩
  ·have w1:IntKind.wrap .u64 ((q:Int)*v0)=((q*v0:Nat):Int):=by
    have:q*v0≤4294967295*4294967295:=eH (by omega) (by omega);rw[←bT,wrap_u64 ⟨jC _,by omega⟩]
   by_cases hc:((4294967296*r'+u0:Nat):Int)<((q*v0:Nat):Int)
   ·obtain⟨Im,hEd⟩:=hEst.down (by omega) (CI.1 hc);by_cases hrb:(4294967296:Int)≤((r'+v1:Nat):Int)
    ·have pK:=hEd.uo yk (by omega) (by omega);have nU:q-1=q0:=(hEd.done (by omega) pK.2).trans PE;repeat'(with_reducible first|simp(disch:=try exact ab) only[go_sem,seval,k2,k8,k9,k10,eA,qE,ve,kQ,BD,zp,w1,w2,hc,sw Im,sa,hrb]|(apply ai.i<;>intro hc))
     rw[nU];exact tail _ (by simp(disch:=try exact ab) only[go_sem,seval,k2]) (by simp(disch:=try exact ab) only[go_sem,seval,k8]) (by simp(disch:=try exact ab) only[go_sem,seval,eA]) (by simp(disch:=try exact ab) only[go_sem,seval,qE]) (by simp(disch:=try exact ab) only[go_sem,seval,ve]) aL
    ·repeat'(with_reducible first|simp(disch:=try exact ab) only[go_sem,seval,k2,k8,k9,k10,eA,qE,ve,kQ,BD,zp,w1,w2,hc,sw Im,sa,hrb]|(apply ai.i<;>intro hc))
     exact⟨q-1,by omega,q-1,r'+v1,rfl,rfl,hEd,by omega,by omega,rfl⟩
   ·have nU:q=q0:=(hEst.done (by omega) (by have:=Int.not_lt.1 hc;exact oE.1 this)).trans PE;repeat'(with_reducible first|simp(disch:=try exact ab) only[go_sem,seval,k2,k8,k9,k10,eA,qE,ve,kQ,BD,zp,w1,w2,hc]|(apply ai.i<;>intro hc))
    rw[nU]at kQ;exact tail _ (by simp(disch:=try exact ab) only[go_sem,seval,k2]) (by simp(disch:=try exact ab) only[go_sem,seval,k8]) (by simp(disch:=try exact ab) only[go_sem,seval,eA]) (by simp(disch:=try exact ab) only[go_sem,seval,qE]) (by simp(disch:=try exact ab) only[go_sem,seval,ve]) (by simp(disch:=try exact ab) only[go_sem,seval,kQ])
theorem Qd {y hi lo s hs2 lh u Y v1 v0 u1 u0 U q1 R q0 rm:Nat}(hpos:0<hi)(hy:y<18446744073709551616)(hh:hi<y)(hs:s≤63)
  (cl:lz y=s) (b1:y*2^s%18446744073709551616=Y) (b2:hi*2^s%18446744073709551616=hs2) (b3:lo*2^s%18446744073709551616=u) (b4:lo/2^(64-s)=lh)
  (hor:∀q,dM .or q (.int .u64 hs2) (.int .u64 lh)=some (.int .u64 (U:Nat)))
  (m1:Y/4294967296=v1) (m2:Y%4294967296=v0) (m3:u/4294967296=u1) (m4:u%4294967296=u0) (hYB:Y<18446744073709551616) (huB:u<18446744073709551616) (hv1:0<v1) (hUY:U<Y)
  (hRl:R<Y) (vB:q1*Y+R=U*4294967296+u1) (H6:rm<Y) (zt:q0*Y+rm=R*4294967296+u0):
  ae E2 300 [.int .u64 hi,.int .u64 lo,.int .u64 y] h fun v h'=>v= .gk [.int .u64 ((q1:Int)*4294967296+q0),.int .u64 (rm/2^s:Nat)]∧h'=h:=by
 refine ae.fn (fn:=C.sG) rfl rfl rfl ?_;have y0:¬(y:Int)=0:=by omega
 have y1:¬(y:Int)≤hi:=by omega
 have hYp:Y=v1*4294967296+v0:=by omega
 have SF:v1<4294967296:=by omega
 have yk:v0<4294967296:=by omega
 have hu1:u1<4294967296:=by omega
 have UN:u0<4294967296:=by omega
 obtain⟨hE,W7,PE⟩:=IL hv1 hYp hu1 hUY hRl vB;have tail:=fun tm hh2 Xx hh9 XC XB XA PN PM=>Qc (h:=h) (tm:=tm) (q1:=q1) (q0:=q0) (R:=R) (rm:=rm) (U:=U) (u1:=u1) (u0:=u0) (Y:=Y) (s:=s) (v1:=v1) (v0:=v0) hh2 Xx hh9 XC XB XA PN PM hs hv1 SF yk hYp UN W7 hRl vB H6 zt
 have cl':∀{h:Hp} {K:AV→Hp→Prop},ae E2 301 [.int .u64 y] h K↔K (.int .i64 s) h:=fun{h K}=>by rw[TO hy,cl]
 have cw:IntKind.wrap .u64 (s:Int)=s:=wrap_u64 (by omega);have s1:=fun q k'=>uP (q:=q) (k':=k') (m:=y) (n:=s) (by omega)
 have s2:=fun q k'=>uP (q:=q) (k':=k') (m:=hi) (n:=s) (by omega)
 have s3:=fun q k'=>uP (q:=q) (k':=k') (m:=lo) (n:=s) (by omega)
 have s4:=fun q k'=>sY (q:=q) (k':=k') (m:=lo) (n:=64-s) (by omega)
 rw[b1]at s1;rw[b2]at s2;rw[b3]at s3;rw[b4]at s4;have n1:=fun q=>uR (q:=q) (a:=Y) (by omega)
 have n2:=fun q=>uR (q:=q) (a:=u) (by omega)
 have n3:=fun q=>jr (q:=q) (a:=Y)
 have n4:=fun q=>jr (q:=q) (a:=u)
 rw[m2]at n1;rw[m4]at n2;rw[m1]at n3;rw[m3]at n4;have e64:(64:Int)-s=((64-s:Nat):Int):=by omega
 have e4:=M0 (U:=U) (q:=U/v1) (v:=v1) (r:=U%v1) (by rw[ay];exact cD _ _) (by omega);have e5:=jB U v1;have e6:U%v1<v1:=aZ _ hv1;have WU:0<(v1:Int):=by omega
 have e3:((U:Int)/v1)=((U/v1:Nat):Int):=rfl;obtain⟨Q0,hQ0⟩:∃Q0,Q0=U/v1:=⟨_,rfl⟩
 obtain⟨R0,hR0⟩:∃R0,R0=U%v1:=⟨_,rfl⟩
 rw[←hQ0]at e3 e4 e5 hE;rw[←hR0]at e4 e6 hE;have e7:IntKind.wrap .u64 (Q0:Int)=Q0:=wrap_u64 (by omega);have QR:¬(hi:Int)=0:=by omega
 clear b1 b2 b3 b4 m1 m2 m3 m4;refine Wp.cut 15 rfl ?_;generalize ap.post 15 C.sG.code=r at tail⊢
 unfold C.sG;dsimp only[ap.pre];repeat'(with_reducible first|simp(disch:=try exact ab) only[go_sem,seval,y0,y1,QR,cl',cw,s1,s2,s3,e64,s4,hor,n1,n2,n3,n4,e3,e4,e7,mQ]|(apply ai.i<;>intro hc))
 refine Wp.bD (fun m s'=>∃q r':Nat,val s'.tm (.t 2)= .int .u64 Y∧val s'.tm (.t 8)= .int .u64 s∧val s'.tm (.t 9)= .int .u64 v1∧val s'.tm (.t 10)= .int .u64 v0∧val s'.tm (.t 11)= .int .u64 U∧val s'.tm (.t 13)= .int .u64 u1∧val s'.tm (.t 14)= .int .u64 u0∧val s'.tm (.t 15)= .int .u64 q∧val s'.tm (.t 16)= .int .u64 r'∧
  s'.hp=h∧AS 4294967296 v1 v0 U u1 q r'∧q<18446744073709551616∧r'<4294967296∧q=m) (n:=Q0) ?_ ?_
 ·exact⟨Q0,R0,aL,aL,aL,aL,aL,aL,aL,aL,aL,rfl,hE,by omega,by omega,rfl⟩
 ·rintro m ⟨fE,hp⟩ ⟨q,r',k2,k8,k9,k10,k11,fp,eA,qE,BD,rfl,hEst,hqB,hr',rfl⟩;simp only at k2 k8 k9 k10 k11 fp eA qE BD
  have w2:IntKind.wrap .u64 (IntKind.wrap .u64 (4294967296*(r':Int))+u1)=((4294967296*r'+u1:Nat):Int):=by
   simp only[IntKind.wrap_u64];omega
  have sa:IntKind.wrap .u64 ((r':Int)+v1)=((r'+v1:Nat):Int):=by simp only[IntKind.wrap_u64];omega
  have sw:1≤q→IntKind.wrap .u64 ((q:Int)-1)=((q-1:Nat):Int):=fun e=>by simp only[IntKind.wrap_u64];omega
  by_cases zp:(4294967296:Int)≤q
  ·obtain⟨Im,hEd⟩:=hEst.NY (by omega) (by omega) (by omega);by_cases hrb:(4294967296:Int)≤((r'+v1:Nat):Int)
   ·have pK:=hEd.uo yk (by omega) (by omega);have nU:q-1=q1:=(hEd.done (by omega) pK.2).trans PE;repeat'(with_reducible first|simp(disch:=try exact ab) only[go_sem,seval,k2,k8,k9,k10,k11,fp,eA,qE,BD,zp,sw Im,sa,hrb]|(apply ai.i<;>intro hc))
    rw[nU];exact tail _ (by simp(disch:=try exact ab) only[go_sem,seval,k2]) (by simp(disch:=try exact ab) only[go_sem,seval,k8]) (by simp(disch:=try exact ab) only[go_sem,seval,k9]) (by simp(disch:=try exact ab) only[go_sem,seval,k10]) (by simp(disch:=try exact ab) only[go_sem,seval,k11]) (by simp(disch:=try exact ab) only[go_sem,seval,fp]) (by simp(disch:=try exact ab) only[go_sem,seval,eA]) aL
   ·repeat'(with_reducible first|simp(disch:=try exact ab) only[go_sem,seval,k2,k8,k9,k10,k11,fp,eA,qE,BD,zp,sw Im,sa,hrb]|(apply ai.i<;>intro hc))
    exact⟨q-1,by omega,q-1,r'+v1,rfl,rfl,hEd,by omega,by omega,rfl⟩
  ·have w1:IntKind.wrap .u64 ((q:Int)*v0)=((q*v0:Nat):Int):=by
    have:q*v0≤4294967295*4294967295:=eH (by omega) (by omega);rw[←bT,wrap_u64 ⟨jC _,by omega⟩]
   by_cases hc:((4294967296*r'+u1:Nat):Int)<((q*v0:Nat):Int)
   ·obtain⟨Im,hEd⟩:=hEst.down (by omega) (CI.1 hc);by_cases hrb:(4294967296:Int)≤((r'+v1:Nat):Int)
    ·have pK:=hEd.uo yk (by omega) (by omega);have nU:q-1=q1:=(hEd.done (by omega) pK.2).trans PE;repeat'(with_reducible first|simp(disch:=try exact ab) only[go_sem,seval,k2,k8,k9,k10,k11,fp,eA,qE,BD,zp,w1,w2,hc,sw Im,sa,hrb]|(apply ai.i<;>intro hc))
     rw[nU];exact tail _ (by simp(disch:=try exact ab) only[go_sem,seval,k2]) (by simp(disch:=try exact ab) only[go_sem,seval,k8]) (by simp(disch:=try exact ab) only[go_sem,seval,k9]) (by simp(disch:=try exact ab) only[go_sem,seval,k10]) (by simp(disch:=try exact ab) only[go_sem,seval,k11]) (by simp(disch:=try exact ab) only[go_sem,seval,fp]) (by simp(disch:=try exact ab) only[go_sem,seval,eA]) aL
    ·repeat'(with_reducible first|simp(disch:=try exact ab) only[go_sem,seval,k2,k8,k9,k10,k11,fp,eA,qE,BD,zp,w1,w2,hc,sw Im,sa,hrb]|(apply ai.i<;>intro hc))
     exact⟨q-1,by omega,q-1,r'+v1,rfl,rfl,hEd,by omega,by omega,rfl⟩
   ·have nU:q=q1:=(hEst.done (by omega) (by have:=Int.not_lt.1 hc;exact oE.1 this)).trans PE;repeat'(with_reducible first|simp(disch:=try exact ab) only[go_sem,seval,k2,k8,k9,k10,k11,fp,eA,qE,BD,zp,w1,w2,hc]|(apply ai.i<;>intro hc))
    rw[nU]at qE
    exact tail _ (by simp(disch:=try exact ab) only[go_sem,seval,k2]) (by simp(disch:=try exact ab) only[go_sem,seval,k8]) (by simp(disch:=try exact ab) only[go_sem,seval,k9]) (by simp(disch:=try exact ab) only[go_sem,seval,k10]) (by simp(disch:=try exact ab) only[go_sem,seval,k11]) (by simp(disch:=try exact ab) only[go_sem,seval,fp]) (by simp(disch:=try exact ab) only[go_sem,seval,eA]) (by simp(disch:=try exact ab) only[go_sem,seval,qE])
theorem TP {hi lo y:Nat}(hlo:lo<18446744073709551616)(hy:y<18446744073709551616)(hh:hi<y):ae E2 300 [.int .u64 hi,.int .u64 lo,.int .u64 y] h K↔K (.gk [.int .u64 ((hi*18446744073709551616+lo)/y:Nat),.int .u64 ((hi*18446744073709551616+lo)%y:Nat)]) h:=by
 rcases aG hi with rfl|hpos
 ·refine ae.cX (ae.fn (fn:=C.sG) rfl rfl rfl ?_);unfold C.sG;have y0:¬(y:Int)=0:=by omega
  have e0:((0:Nat):Int)=0:=rfl;have y1':¬(y:Int)≤0:=by omega
  have NH:0<(y:Int):=by omega
  have e3:((lo:Int)/y)=((lo/y:Nat):Int):=rfl;have e4:((lo:Int)%y)=((lo%y:Nat):Int):=rfl;have e5:=jB lo y;have e7:IntKind.wrap .u64 ((lo/y:Nat):Int)=((lo/y:Nat):Int):=wrap_u64 ⟨jC _,by omega⟩;rw[Nat.zero_mul,Nat.zero_add];repeat'(with_reducible first|simp(disch:=try exact ab) only[go_sem,seval,e0,y0,y1',mQ,ot,e3,e4,e7]|(apply ai.i<;>intro hc))
 ·obtain⟨hs,QS,hlt,hp⟩:=xz (x:=y) (by omega) hy;have hsh:=Kk (hi:=hi) (lo:=lo) (s:=lz y) (by omega);have hpB:2^(64-lz y)*2^lz y=18446744073709551616:=by rw[←dz,bR (by omega)]
  have Xw:(hi+1)*2^lz y≤y*2^lz y:=aH _ hh;rw[aX,Nat.one_mul]at Xw
  have hlp:lo/2^(64-lz y)<2^lz y:=by
   rw[dj (dC (by decide)),ay,hpB];exact hlo
  have hb:hi*2^lz y+lo/2^(64-lz y)<18446744073709551616:=ah (yc hlp _) (az Xw (yr hlt));have hor:=fun q=>Ok (q:=q) (a:=hi*2^lz y) (b:=lo/2^(64-lz y)) (c:=hi) (n:=lz y) rfl hlp hb
  have hq:(hi*18446744073709551616+lo)/y=(hi*18446744073709551616+lo)*2^lz y/(y*2^lz y):=(vc _ _ hp).symm
  have hr:(hi*18446744073709551616+lo)%y=(hi*18446744073709551616+lo)*2^lz y%(y*2^lz y)/2^lz y:=by
   rw[Nat.mul_mod_mul_right,Nat.mul_div_cancel _ hp]
  rw[hq,hr,←hsh];have H0:lo*2^lz y%18446744073709551616<18446744073709551616:=aZ _ (by decide);obtain⟨U,hU⟩:∃U,U=hi*2^lz y+lo/2^(64-lz y):=⟨_,rfl⟩
  obtain⟨u,hu⟩:∃u,u=lo*2^lz y%18446744073709551616:=⟨_,rfl⟩
  obtain⟨Y,hY⟩:∃Y,Y=y*2^lz y:=⟨_,rfl⟩
  have hUY:U<Y:=by rw[hU,hY];exact ah (yc hlp _) Xw
  have hY63:9223372036854775808≤Y:=by rw[hY];exact QS
  have hYB:Y<18446744073709551616:=by rw[hY];exact hlt
  have hv1:0<Y/4294967296:=Nat.div_pos (az (by decide) hY63) (by decide);rw[←hU]at hor;rw[←hU,←hu,←hY];rw[←hu]at H0;have hY0:0<Y:=ah (by decide) hY63;rw[Kh (U:=U) (u:=u)];obtain⟨d1,d2⟩:=Lp (U:=U) (b:=4294967296) (u1:=u/4294967296) (u0:=u%4294967296) hY0;rw[d1,d2];have vB:=cD (U*4294967296+u/4294967296) Y;rw[ay]at vB;have hRl:(U*4294967296+u/4294967296)%Y<Y:=aZ _ hY0
  obtain⟨q1,K3⟩:∃q1,q1=(U*4294967296+u/4294967296)/Y:=⟨_,rfl⟩
  obtain⟨R,hR⟩:∃R,R=(U*4294967296+u/4294967296)%Y:=⟨_,rfl⟩
  rw[←K3,←hR]at vB;rw[←hR]at hRl;rw[←K3,←hR];have zt:=cD (R*4294967296+u%4294967296) Y;rw[ay]at zt;have H6:(R*4294967296+u%4294967296)%Y<Y:=aZ _ hY0;obtain⟨q0,hq0⟩:∃q0,q0=(R*4294967296+u%4294967296)/Y:=⟨_,rfl⟩
  obtain⟨rm,PD⟩:∃rm,rm=(R*4294967296+u%4294967296)%Y:=⟨_,rfl⟩
  rw[←hq0,←PD]at zt;rw[←PD]at H6;rw[←hq0,←PD];rw[Qk];exact ae.cX (Qd (Y:=Y) (hs2:=hi*2^lz y) (lh:=lo/2^(64-lz y)) (u:=u) (U:=U) (v1:=Y/4294967296) (v0:=Y%4294967296) (u1:=u/4294967296) (u0:=u%4294967296) hpos hy hh hs rfl (by rw[←hY];exact cK hYB) (cK (ic (Nat.le_add_right _ _) hb)) hu.symm rfl hor rfl rfl rfl rfl hYB H0 hv1 hUY hRl vB H6 zt)
end
end
end Go.Ae
