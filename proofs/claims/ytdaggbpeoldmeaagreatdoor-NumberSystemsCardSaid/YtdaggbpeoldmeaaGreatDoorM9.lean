/- Rows of texts of numbers in memory, which are written in place; a matrix of them. -/
import Derived.Test.YtdaggbpeoldmeaaGreatDoorM8
import Derived.Test.YtdaggbpeoldmeaaGreatDoorM7
import Derived.Test.YtdaggbpeoldmeaaGreatDoorM5
open List renaming range → ct, range_succ → pi, map_append → dT, map_congr_left → bJ, getElem?_map → bK, getElem?_range → eT, getElem?_eq_getElem → aI, getD_eq_getElem?_getD → aW, getElem?_eq_none → bO, getD → bQ, map_map → vk
open Nat renaming mul_le_mul_left → aD, le_refl → ae, lt_succ_self → cN, zero_le → aJ, le_trans → aB, not_lt_zero → fh, lt_or_ge → aQ
set_option linter.unusedVariables false
set_option linter.unusedSimpArgs false
set_option maxRecDepth 100000
set_option maxHeartbeats 4000000
set_option exponentiation.threshold 20000
namespace Go.Ae
open Bg N Go.Proofs Gj So
noncomputable section
structure Xm (h0 h:Hp)(T:Nat)(t:Nat→Nat)(n w:Nat)(M:Mt):Prop where
 top:Tp h T n 1 w t
 row:∀i,i<n→Sw h (t i) w (M i)
 ne:∀i,i<n→t i≠T
 inj:∀i j,i<n→j<n→t i=t j→i=j
 kh:h0.next≤T
 low:∀i,i<n→h0.next≤t i
def Gx (h0 h:Hp)(v:AV)(i w:Nat)(M:Mt):Prop:=(v= .aq∧i=0)∨∃T t,v= .sl T 0 i 1∧0<i∧Xm h0 h T t i w M
def EM:Env:=EX.add Hf.kX
theorem OM:Ge EX EM:=Ge.add _ _
section
variable {h h' h0 h1 hp:Hp}{K:AV→Hp→Prop}{tm:Ae.T AV}{y:Nat}{v va vb vw s u:AV}{a b r:Rat}{p T n z w i j k f c q:Nat}{t t':Nat→Nat}{M:Mt}{g:Nat→Rat}{o:Option cP}{l:List (List UInt8)}{m:List (List (List UInt8))}{Q:Ex→St→Prop}{P:AV→Hp→Prop}
theorem Xm.aO (F:Xm h0 h T t n w M)(G:aH h h'):Xm h0 h' T t n w M:=⟨F.top.aO G,fun i hi=>(F.row i hi).aO G,F.ne,F.inj,F.kh,F.low⟩
theorem Xm.kQ (F:Xm h0 h T t n w M)(ch:ig p h h')(neT:T≠p)(ne:∀i,i<n→t i≠p):Xm h0 h' T t n w M:=⟨F.top.kQ ch neT,fun i hi=>(F.row i hi).kQ ch (ne i hi),F.ne,F.inj,F.kh,F.low⟩
theorem Xm.congr {M':Mt}(F:Xm h0 h T t n w M)(e:∀i,i<n→∀k,k<w→M' i k=M i k):Xm h0 h T t n w M':=⟨F.top,fun i hi=>Ts.congr (F.row i hi) fun k hk=>by rw[e i hi k hk],F.ne,F.inj,F.kh,F.low⟩
theorem Xm.Mq {h1:Hp}(F:Xm h0 h1 T t n w M)(G:aH h0 h1)(g:aH h1 h)(hi:i<n)(hj:j<w)(ho:o=h1.get (t i))(hk:∀h',ig (t i) h1 h'→aH h0 h'→Xm h0 h' T t n w (wI M i j r)→K jC h'):fb 1 (t i) j (.str (aX r)) o h K:=by
 refine Ts.Mq (F.row i hi) G g hj rfl rfl (F.low i hi) ho fun h' G' ch P=>hk h' ch G' ?_
 refine⟨F.top.kQ ch (fun e=>F.ne i hi e.symm),fun i' hi'=>?_,F.ne,F.inj,F.kh,F.low⟩;unfold wI;by_cases c:i'=i
 ·subst c;simp only[if_pos];refine P.congr fun k hk=>?_
  simp only[sR];by_cases c2:k=j
  ·rw[if_pos c2,if_pos c2]
  ·rw[if_neg c2,if_neg c2]
 ·simp only[if_neg c];exact(F.row i' hi').kQ ch (fun e=>c (F.inj _ _ hi' hi e))
theorem Xm.swap {h1 h2:Hp}{f a:Nat}(F:Xm h0 h T t n w M)(hf:f<n)(ha:a<n)(c1:ig T h h1)(c2:ig T h1 h2)(P:Tp h2 T n 1 w (im (im t f (t a)) a (t f))):
  Xm h0 h2 T (fun i=>if i=f then t a else if i=a then t f else t i) n w (swp f a M):=by
 have ch:=c1.trans c2
 have e:im (im t f (t a)) a (t f)=fun i=>if i=f then t a else if i=a then t f else t i:=by
  funext i
  unfold im;by_cases x:i=a
  ·subst x;by_cases y:i=f
   ·subst y;simp
   ·simp[y]
  ·rw[if_neg x,if_neg x]
 rw[e]at P
 have cs:∀i,i<n→(i=f∧(if i=f then t a else if i=a then t f else t i)=t a∧swp f a M i=M a)∨(i≠f∧i=a∧(if i=f then t a else if i=a then t f else t i)=t f∧swp f a M i=M f)∨(i≠f∧i≠a∧(if i=f then t a else if i=a then t f else t i)=t i∧swp f a M i=M i):=fun i hi=>by
  unfold swp;by_cases y:i=f
  ·exact .inl ⟨y,if_pos y,if_pos y⟩
  ·by_cases x:i=a
   ·exact .inr (.inl ⟨y,x,by rw[if_neg y,if_pos x],by rw[if_neg y,if_pos x]⟩)
   ·exact .inr (.inr ⟨y,x,by rw[if_neg y,if_neg x],by rw[if_neg y,if_neg x]⟩)
 refine⟨P,fun i hi=>?_,fun i hi=>?_,fun i j hi hj=>?_,F.kh,fun i hi=>?_⟩
 ·rcases cs i hi with⟨_,e1,e2⟩|⟨_,_,e1,e2⟩|⟨_,_,e1,e2⟩
  ·rw[e1,e2];exact(F.row a ha).kQ ch (F.ne a ha)
  ·rw[e1,e2];exact(F.row f hf).kQ ch (F.ne f hf)
  ·rw[e1,e2];exact(F.row i hi).kQ ch (F.ne i hi)
 ·rcases cs i hi with⟨_,e1,e2⟩|⟨_,_,e1,e2⟩|⟨_,_,e1,e2⟩
  ·rw[e1];exact F.ne a ha
  ·rw[e1];exact F.ne f hf
  ·rw[e1];exact F.ne i hi
 ·intro he;rcases cs i hi with⟨i1,e1,_⟩|⟨i1,i2,e1,_⟩|⟨i1,i2,e1,_⟩<;>rcases cs j hj with⟨j1,e2,_⟩|⟨j1,j2,e2,_⟩|⟨j1,j2,e2,_⟩
  all_goals rw[e1,e2]at he
  ·omega
  ·have:=F.inj _ _ ha hf he;omega
  ·have:=F.inj _ _ ha hj he;omega
  ·have:=F.inj _ _ hf ha he;omega
  ·omega
  ·have:=F.inj _ _ hf hj he;omega
  ·have:=F.inj _ _ hi ha he;omega
  ·have:=F.inj _ _ hi hf he;omega
  ·exact F.inj _ _ hi hj he
 ·rcases cs i hi with⟨_,e1,e2⟩|⟨_,_,e1,e2⟩|⟨_,_,e1,e2⟩
  ·rw[e1];exact F.low a ha
  ·rw[e1];exact F.low f hf
  ·rw[e1];exact F.low i hi
theorem Gx.app {b':Nat}(A:Gx h0 h1 v i w M)(gr:aH h1 h)(G:aH h0 h1)(F:Sw h y w (M i))(hu:h1.next≤y)(hw:0<w)(hi:i≤1000)(hb:b'≤100)(hq:q=h.next)(hk:∀v' h',aH h0 h'→Gx h0 h' v' (i+1) w M→K v' h'):
  dK (jm (h.push fun st=> .row [.sl y 0 w 1] true st) 1 b' v (.sl q 0 1 1)) K:=by
 have hn0:=G.next;have V8:=gr.next;have ET:=F.lt;have hb2:(i+1)*b'≤(i+1)*100:=aD _ hb;rcases A with⟨rfl,rfl⟩|⟨T,t,rfl,OC,A⟩
 ·refine cO.Np hq (G.trans gr) cO.nil rfl (by decide) (by omega) (by omega) fun v' h' G' O' fr nx ck fs nn=>?_
  obtain⟨hl',⟨e1,_⟩|⟨t',st',e1,hg',hlo,h1',h2'⟩⟩:=O'
  ·exact absurd e1 nn
  ·subst e1;have ch:aH h h':=⟨h'.next-h.next,h'.dc-h.dc,by omega,by omega,fun t ht=>fr t ht fun t'' o' n' e=>nomatch e⟩
   have hlt:=fs t' 0 1 rfl;refine hk _ h' G' (.inr ⟨t',fun _=>y,rfl,Nat.one_pos,⟨⟨st',hg',h1',h2'⟩,fun j hj=>?_,fun j hj=>by omega,fun a b ha hb _=>by omega,hlo,fun j hj=>by omega⟩⟩);obtain rfl:j=0:=by omega
   exact F.aO ch
 ·have Ag:=A.aO gr;obtain⟨st,hg,h2,h3⟩:=Ag.top;have O:cO 1 h0 h (.sl T 0 i 1) i ((ct i).map fun j=> .sl (t j) 0 w 1):=⟨by simp,.inr ⟨T,st,rfl,hg,A.kh,h2,h3⟩⟩
  have hT1:=A.top.lt;have Ou:∀j,j<i→t j<h1.next:=fun j hj=>(A.row j hj).lt
  refine cO.Np hq (G.trans gr) O rfl (by decide) (by omega) (by omega) fun v' h' G' O' fr nx ck fs nn=>?_
  obtain⟨hl',⟨e1,_⟩|⟨t',st',e1,hg',hlo,h1',h2'⟩⟩:=O'
  ·exact absurd e1 nn
  ·subst e1;have ch:ig T h h':=⟨nx,ck,fun t ht ne=>fr t ht fun t'' o' n' e=>by injection e with e;omega⟩
   have hlt:=fs t' 0 (i+1) rfl
   have eu:∀j,j<i+1→(j<i∧im t i y j=t j)∨(j=i∧im t i y j=y):=fun j hj=>by
    unfold im;by_cases c:j=i
    ·exact .inr ⟨c,if_pos c⟩
    ·exact .inl ⟨by omega,if_neg c⟩
   refine hk _ h' G' (.inr ⟨t',im t i y,rfl,Nat.succ_pos _,⟨⟨st',?_,h1',h2'⟩,fun j hj=>?_,fun j hj=>?_,fun a b ha hb he=>?_,hlo,fun j hj=>?_⟩⟩)
   ·rw[hg',pi,dT]
    have e1:(ct i).map (fun j=>AV.sl (t j) 0 w 1)=(ct i).map (fun j=>AV.sl (im t i y j) 0 w 1):=bJ fun j hj=>by
     have hj':j<i:=by simpa using hj
     rw[show im t i y j=t j from if_neg (by omega)]
    rw[e1,List.map_cons,List.map_nil,show im t i y i=y from if_pos rfl]
   ·rcases eu j hj with⟨hj',e1⟩|⟨rfl,e1⟩
    ·rw[e1];exact(Ag.row j hj').kQ ch (A.ne j hj')
    ·rw[e1];exact F.kQ ch (by omega)
   ·rcases eu j hj with⟨hj',e1⟩|⟨rfl,e1⟩
    ·rw[e1];have:=Ou j hj';omega
    ·rw[e1];omega
   ·rcases eu a ha with⟨Kh,e1⟩|⟨Kh,e1⟩<;>rcases eu b hb with⟨hb',e2⟩|⟨hb',e2⟩<;>rw[e1,e2]at he
    ·exact A.inj a b Kh hb' he
    ·have:=Ou a Kh;omega
    ·have:=Ou b hb';omega
    ·omega
   ·rcases eu j hj with⟨hj',e1⟩|⟨rfl,e1⟩
    ·rw[e1];exact A.low j hj'
    ·rw[e1];omega
theorem m0 {f:Nat}{args:List AV}{v:AV}(hc:Gv EX f args h v):Gv EM f args h v:=hc.ge fun _ _ _ hk=>hk.ge OM
theorem m3 {f:Nat}{args:List AV}{v:AV}(hc:Gv E3 f args h v):Gv EM f args h v:=m0 (x3 hc)
theorem m2 {f:Nat}{args:List AV}{v:AV}(hc:Gv E2 f args h v):Gv EM f args h v:=m0 (x2 hc)
theorem ZJ {f:Nat}{args:List AV}(hc:Gp EX f args h P):Gp EM f args h P:=by
 obtain⟨v,h',h1,h2,h3⟩:=hc;exact⟨v,h',h1.ge OM,h2,h3⟩
theorem Do {b':Nat}(ou:jd h u l)(hl0:0<l.length)(hl:l.length≤1000)(hb:b'≤100)(G:aH h0 h)(hq:q=h.next)(hk:∀y h',aH h h'→Ts h' y l.length (fun k=> .str (jj l k))→h.next≤y→K (.sl y 0 l.length 1) h'):
  dK (jm (h.push fun s=> .row [] true s) 1 b' (.sl q 0 0 1) u) K:=by
 subst hq;rcases ou with ou|⟨e,_⟩
 ·obtain⟨hlen,⟨rfl,e⟩|⟨t,own,st,rfl,hg,h1,h2⟩⟩:=ou
  ·omega
  ·have hg':(h.push fun s=> .row [] true s).get t=some (.row (l.map AV.str) own st):=(Hp.cY (by omega)).trans hg;have hc:=Er (z:=1) (n:=l.length) hg' (by simp);have hb2:l.length*b'≤l.length*100:=aD _ hb
   have e:jm (h.push fun s=> .row [] true s) 1 b' (.sl h.next 0 0 1) (.sl t 0 l.length 1)=some (.sl (h.next+1) 0 l.length 1,((h.push fun s=> .row [] true s).put h.next fun s=> .dead s).push fun s=> .row (l.map AV.str) true s):=by
    obtain⟨m,hm⟩:∃m,l.length=m+1:=⟨l.length-1,by omega⟩
    unfold jm;rw[hc];simp only[uY,hm];rw[Hp.cu];simp only;rw[if_pos ⟨trivial,by simp,by rw[Nat.zero_add];rw[hm]at hb2;omega,by omega⟩];simp;rfl
   rw[e];refine hk _ _ (((aH.refl _).push.put (ae _)).push) ⟨_,?_,cN _,ae _⟩ (Nat.le_succ _)
   have el:l.map AV.str=(ct l.length).map fun k=>AV.str (jj l k):=by
    apply List.ext_getElem?;intro k;simp only[bK];by_cases ck:k<l.length
    ·rw[eT ck,aI ck];show some (AV.str l[k])=some (AV.str (l.getD k []));rw[aW,aI ck];rfl
    ·rw[bO (by omega),bO (by simpa using ck)];rfl
   rw[el];exact Hp.cu
 ·rw[e]at hl0;exact absurd hl0 (Nat.lt_irrefl _)
end
end
end Go.Ae
namespace Go.Ae
open Bg N Go.Proofs Gj So
noncomputable section
def US:au:=Hf.a218.code.r.r.r.l.r.b.b.r.l.b
def UR:au:=US.r.l
def UP:au:=US.r.r.r.r.r.r.l
def TM:au:=US.r.r.r.r.r.r.r.l
def UQ:au:=TM.r.b.b.r.l.b.r.r
structure Kv (tm:Ae.T AV)(T n:Nat)(v4:AV)(c f:Nat):Prop where
 k0:val tm (.t 0)= .sl T 0 n 1
 k4:val tm (.t 4)=v4
 k5:val tm (.t 5)= .int .i64 c
 k7:val tm (.t 7)= .int .i64 f
section
variable {h h' h0 h1 hp:Hp}{K:AV→Hp→Prop}{tm:Ae.T AV}{v va vb vw s u v4:AV}{a b r tt:Rat}{p T n z w i j k f c q:Nat}{t t':Nat→Nat}{M:Mt}{g:Nat→Rat}{o:Option cP}{l:List (List UInt8)}{m:List (List (List UInt8))}{Q:Ex→St→Prop}{P:AV→Hp→Prop}
theorem ye {r:Rat}:aX r=[48]↔r=0:=⟨fun e=>FA (e.trans qM.symm),fun e=>by rw[e];exact qM⟩
theorem R7 {x:List UInt8}:ac E3 107 [.str x] h K↔K (.bool (decide (x=[48]))) h:=by
 refine ac.cZ (ac.fn (fn:=R.a107) rfl rfl rfl ?_);unfold R.a107;repeat'(with_reducible first|simp(disch:=try exact ab) only[go_sem,seval]|(apply aj.i<;>intro hc))
theorem Mw (h0:r=0):ac EM 107 [.str (aX r)] h K↔K (.bool true) h:=by
 have:=fun K=>R7 (x:=aX r) (h:=h) (K:=K)
 rw[decide_eq_true (ye.2 h0)]at this;exact up OM fun K=>TH this
theorem Mx (h0:r≠0):ac EM 107 [.str (aX r)] h K↔K (.bool false) h:=by
 have:=fun K=>R7 (x:=aX r) (h:=h) (K:=K)
 rw[decide_eq_false (fun e=>h0 (ye.1 e))]at this;exact up OM fun K=>TH this
theorem d276 (o:je h v m)(hn0:0<m.length)(hn:m.length≤1000)(Bq:0<w)(hw:w≤1000)(hm:∀i,i<m.length→(ij m i).length=w∧∀k,k<w→jj (ij m i) k=aX (M i k)):
  Gp EM 276 [v] h fun v' h'=>∃T t,v'= .sl T 0 m.length 1∧Xm h h' T t m.length w M:=by
 refine Gp.of (ac.fn (fn:=Hf.KW) rfl rfl rfl ?_);unfold Hf.KW;obtain⟨vs,rz⟩:=o.rz;have ln:=rz.len;have ad:=rz.jn;repeat'(with_reducible first|simp(disch:=try exact ab) only[go_sem,seval]|(apply aj.i<;>intro hc))
 refine Wp.bW (fun mm s=>∃(i:Nat) (v3:AV),val s.tm (.t 0)=v∧val s.tm (.t 3)=v3∧val s.tm (.t 4)= .int .i64 i∧
  aH h s.hp∧Gx h s.hp v3 i w M∧i≤m.length∧m.length-i=mm) (n:=m.length) ?_ ?_
 ·exact⟨0,.aq,aS,aS,by(simp(disch:=try exact ab) only[go_sem,seval])<;>rfl,aH.refl _,.inl ⟨rfl,rfl⟩,aJ _,rfl⟩
 ·rintro mm ⟨tm,hp⟩ ⟨i,v3,k0,k3,k4,G,A,hle,rfl⟩;simp only at k0 k3 k4 G A;have og:=o.aO G;by_cases hlt:i<m.length
  ·have hlt':(i:Int)<m.length:=by omega
   have hlt1:i+1≤m.length:=hlt;obtain⟨u,ou,ld⟩:=og.ld hlt;obtain⟨hl,hv⟩:=hm i hlt
   have hvt:v.tok<hp.next:=by
    obtain⟨own,st,hg,ht,hst⟩:=og.choose_spec.1.rz.get (by omega);exact ht
   repeat'(with_reducible first|simp(disch:=try exact ab) only[go_sem,seval,k0,k3,k4,ln,ad,hlt',ld]|(apply aj.i<;>intro hc))
   refine Do ou (by omega) (by omega) (by decide) G mJ fun y h1 g1 S1 hy=>?_
   rw[hl]at S1⊢;have S2:Sw h1 y w (M i):=S1.congr fun k hk=>by rw[hv k hk]
   repeat'(with_reducible first|simp(disch:=try exact ab) only[go_sem,seval,k0,k3,k4]|(apply aj.i<;>intro hc))
   refine A.app g1 G S2 hy Bq (by omega) (by decide) mJ fun v' h2 G2 A2=>?_
   repeat'(with_reducible first|simp(disch:=try exact ab) only[go_sem,seval,k0,k3,k4]|(apply aj.i<;>intro hc))
   exact⟨_,by omega,i+1,rfl,G2,A2,hlt,rfl⟩
  ·have hlt':¬(i:Int)<m.length:=by omega
   obtain rfl:i=m.length:=by omega
   repeat'(with_reducible first|simp(disch:=try exact ab) only[go_sem,seval,k0,k3,k4,ln,hlt']|(apply aj.i<;>intro hc))
   rcases A with⟨_,e⟩|⟨T,t,rfl,_,A⟩
   ·omega
   ·exact⟨⟨T,t,rfl,A⟩,G⟩
theorem d219 (hn0:0<n)(hn:n≤1000):Gp EM 219 [.int .i64 n] h fun v' h'=>∃q,v'= .sl q 0 n 1∧Sw h' q n (fun _=>0)∧h.next≤q:=by
 refine Gp.of (ac.fn (fn:=Hf.Lk) rfl rfl rfl ?_);unfold Hf.Lk;repeat'(with_reducible first|simp(disch:=try exact ab) only[go_sem,seval]|(apply aj.i<;>intro hc))
 refine Wp.bW (fun mm s=>∃(i:Nat) (v3:AV),val s.tm (.t 0)= .int .i64 n∧val s.tm (.t 3)=v3∧val s.tm (.t 4)= .int .i64 i∧
  aH h s.hp∧cO 1 h s.hp v3 i ((ct i).map fun _=>AV.str [48])∧i≤n∧n-i=mm) (n:=n) ?_ ?_
 ·exact⟨0,.aq,aS,aS,by(simp(disch:=try exact ab) only[go_sem,seval])<;>rfl,aH.refl _,cO.nil,aJ _,rfl⟩
 ·rintro mm ⟨tm,hp⟩ ⟨i,v3,k0,k3,k4,G,A,hle,rfl⟩;simp only at k0 k3 k4 G A;by_cases hlt:i<n
  ·have hlt':(i:Int)<n:=by omega
   have hlt1:i+1≤n:=hlt;repeat'(with_reducible first|simp(disch:=try exact ab) only[go_sem,seval,k0,k3,k4,hlt']|(apply aj.i<;>intro hc))
   refine cO.wp (h0:=h) mJ G A rfl (by decide) (by omega) (by omega) fun v' h2 G2 A2=>?_
   rw[show(ct i).map (fun _=>AV.str [48])++[AV.str [48]]=(ct (i+1)).map fun _=>AV.str [48] by rw[pi,dT];rfl]at A2;repeat'(with_reducible first|simp(disch:=try exact ab) only[go_sem,seval,k0,k3,k4]|(apply aj.i<;>intro hc))
   exact⟨_,by omega,i+1,rfl,G2,A2,hlt,rfl⟩
  ·have hlt':¬(i:Int)<n:=by omega
   obtain rfl:i=n:=by omega
   repeat'(with_reducible first|simp(disch:=try exact ab) only[go_sem,seval,k0,k3,k4,hlt']|(apply aj.i<;>intro hc))
   obtain⟨_,⟨_,e⟩|⟨q,st,rfl,hg,h1,h2,h3⟩⟩:=A
   ·omega
   ·refine⟨⟨q,rfl,⟨st,?_,h2,h3⟩,h1⟩,G⟩;rw[hg];simp only[qM]
theorem JG {I:Hp→Prop}(kI:∀j,j<n→∀ha hb,ig (t j) ha hb→I ha→I hb)(i0:I hp)(q:Kv tm T n v4 c f)(k8:val tm (.t 8)= .str (aX b))(G:aH h hp)(F:Xm h hp T t n w M)(hf:f<n)(hw:w≤1000)(hn:n≤1000)(bd:∀k,k<w→Br 2000 (M f k))(bb:Br 2000 b)
  (hk:∀fI hp',Kv fI T n v4 c f→aH h hp'→I hp'→Xm h hp' T t n w (Aw f b M)→Q .fP ⟨fI,hp'⟩):Wp EM UP ⟨tm,hp⟩ Q:=by
 obtain⟨k0,k4,k5,k7⟩:=q;rw[show UP= .seq _ (.block 4 (.loop _)) from rfl];have uQ:(f:Int)<n:=by omega
 repeat'(with_reducible first|simp(disch:=try exact ab) only[go_sem,seval,k0,k4,k5,k7,k8]|(apply aj.i<;>intro hc))
 refine Wp.bW (fun mm s=>∃k:Nat,val s.tm (.t 0)= .sl T 0 n 1∧val s.tm (.t 4)=v4∧val s.tm (.t 5)= .int .i64 c∧val s.tm (.t 7)= .int .i64 f∧val s.tm (.t 8)= .str (aX b)∧val s.tm (.t 9)= .int .i64 k∧
  aH h s.hp∧I s.hp∧Xm h s.hp T t n w (Jw f k b M)∧k≤w∧w-k=mm) (n:=w) ?_ ?_
 ·exact⟨0,by simp(disch:=try exact ab) only[go_sem,seval,k0],by simp(disch:=try exact ab) only[go_sem,seval,k4],by simp(disch:=try exact ab) only[go_sem,seval,k5],by simp(disch:=try exact ab) only[go_sem,seval,k7],by simp(disch:=try exact ab) only[go_sem,seval,k8],by(simp(disch:=try exact ab) only[go_sem,seval])<;>rfl,G,i0,F.congr fun i hi k hk=>yp,aJ _,rfl⟩
 ·clear k0 k4 k5 k7 k8 G F i0;rintro mm ⟨tm,hp⟩ ⟨k,k0,k4,k5,k7,k8,k9,G,i0,F,hle,rfl⟩;simp only at k0 k4 k5 k7 k8 k9 G i0 F;have ldT:=F.top.ld hf;have hT:=F.top.lt;by_cases hlt:k<w
  ·have hlt':(k:Int)<w:=by omega
   have sf:k+1≤w:=hlt;have oldT:=F.top.old;have R:=F.row f hf;have ht:=R.lt;have oldR:=R.old;have ldy:=R.ld hlt;simp only[yr]at ldy;have f74:=fun h=>m3 (d74 (h:=h) (bd k hlt) bb)
   repeat'(with_reducible first|simp(disch:=try exact ab) only[go_sem,seval,k0,k4,k5,k7,k8,k9,uQ,ldT,hlt',ldy,oldT,oldR]|(refine Gv.wp (f74 _) fun _ _ _ _=>?_)|(apply aj.i<;>intro hc))
   refine F.Mq G aL hf hlt rfl fun h2 ch G2 F2=>?_
   repeat'(with_reducible first|simp(disch:=try exact ab) only[go_sem,seval,k0,k4,k5,k7,k8,k9]|(apply aj.i<;>intro hc))
   exact⟨_,by omega,k+1,rfl,G2,kI _ hf _ _ ch i0,F2.congr fun i hi j hj=>yq,hlt,rfl⟩
  ·have hlt':¬(k:Int)<w:=by omega
   obtain rfl:k=w:=by omega
   repeat'(with_reducible first|simp(disch:=try exact ab) only[go_sem,seval,k0,k4,k5,k7,k8,k9,uQ,ldT,hlt']|(apply aj.i<;>intro hc))
   exact hk _ _ ⟨by simp(disch:=try exact ab) only[go_sem,seval,k0],by simp(disch:=try exact ab) only[go_sem,seval,k4],by simp(disch:=try exact ab) only[go_sem,seval,k5],by simp(disch:=try exact ab) only[go_sem,seval,k7]⟩ G i0 (F.congr fun i hi j hj=>Cz hj)
theorem QS {I:Hp→Prop}(kI:∀j,j<n→∀ha hb,ig (t j) ha hb→I ha→I hb)(i0:I hp)(q:Kv tm T n v4 c f)(k10:val tm (.t 10)= .int .i64 i)(k11:val tm (.t 11)= .str (aX tt))(G:aH h hp)(F:Xm h hp T t n w M)(hi:i<n)(hf:f<n)(hw:w≤1000)(hn:n≤1000)(ne:i≠f)
  (bt:Br 900 tt) (bi:∀k,k<w→Br 2000 (M i k)) (bf:∀k,k<w→Br 900 (M f k))
  (hk:∀fI hp',Kv fI T n v4 c f→val fI (.t 10)= .int .i64 i→aH h hp'→I hp'→Xm h hp' T t n w (EQ f i w tt M)→Q .fP ⟨fI,hp'⟩):Wp EM UQ ⟨tm,hp⟩ Q:=by
 obtain⟨k0,k4,k5,k7⟩:=q;rw[show UQ= .seq _ (.block 8 (.loop _)) from rfl];have hi':(i:Int)<n:=by omega
 have uQ:(f:Int)<n:=by omega
 repeat'(with_reducible first|simp(disch:=try exact ab) only[go_sem,seval,k0,k4,k5,k7,k10,k11]|(apply aj.i<;>intro hc))
 refine Wp.bW (fun mm s=>∃k:Nat,val s.tm (.t 0)= .sl T 0 n 1∧val s.tm (.t 4)=v4∧val s.tm (.t 5)= .int .i64 c∧val s.tm (.t 7)= .int .i64 f∧val s.tm (.t 10)= .int .i64 i∧val s.tm (.t 11)= .str (aX tt)∧val s.tm (.t 12)= .int .i64 k∧
  aH h s.hp∧I s.hp∧Xm h s.hp T t n w (EQ f i k tt M)∧k≤w∧w-k=mm) (n:=w) ?_ ?_
 ·exact⟨0,by simp(disch:=try exact ab) only[go_sem,seval,k0],by simp(disch:=try exact ab) only[go_sem,seval,k4],by simp(disch:=try exact ab) only[go_sem,seval,k5],by simp(disch:=try exact ab) only[go_sem,seval,k7],by simp(disch:=try exact ab) only[go_sem,seval,k10],by simp(disch:=try exact ab) only[go_sem,seval,k11],by(simp(disch:=try exact ab) only[go_sem,seval])<;>rfl,G,i0,F.congr fun i hi k hk=>yw,aJ _,rfl⟩
 ·clear k0 k4 k5 k7 k10 k11 G F i0;rintro mm ⟨tm,hp⟩ ⟨k,k0,k4,k5,k7,k10,k11,k12,G,i0,F,hle,rfl⟩;simp only at k0 k4 k5 k7 k10 k11 k12 G i0 F;have ldT:=F.top.ld hi;have hT:=F.top.lt;by_cases hlt:k<w
  ·have hlt':(k:Int)<w:=by omega
   have sf:k+1≤w:=hlt;have ldU:=F.top.ld hf;have oldT:=F.top.old;have R:=F.row i hi;have U:=F.row f hf;have ht:=R.lt;have hu:=U.lt;have oldR:=R.old;have oldU:=U.old;have ldy:=R.ld hlt;have ldz:=U.ld hlt;simp only[yy]at ldy;simp only[Mv ne]at ldz;have f74:=fun h=>m3 (d74 (h:=h) (bt.mono (m:=2000) (by decide)) ((bf k hlt).mono (m:=2000) (by decide)))
   have f73:=fun h=>m3 (d73 (h:=h) (bi k hlt) ((bt.mul (bf k hlt)).mono (m:=2000) (by decide)))
   repeat'(with_reducible first|simp(disch:=try exact ab) only[go_sem,seval,k0,k4,k5,k7,k10,k11,k12,hi',uQ,ldT,ldU,hlt',ldy,ldz,oldT,oldR,oldU]|(refine Gv.wp (f74 _) fun _ _ _ _=>?_)|(refine Gv.wp (f73 _) fun _ _ _ _=>?_)|(apply aj.i<;>intro hc))
   refine F.Mq G aL hi hlt rfl fun h2 ch G2 F2=>?_
   repeat'(with_reducible first|simp(disch:=try exact ab) only[go_sem,seval,k0,k4,k5,k7,k10,k11,k12]|(apply aj.i<;>intro hc))
   exact⟨_,by omega,k+1,rfl,G2,kI _ hi _ _ ch i0,F2.congr fun i hi j hj=>yx,hlt,rfl⟩
  ·have hlt':¬(k:Int)<w:=by omega
   obtain rfl:k=w:=by omega
   repeat'(with_reducible first|simp(disch:=try exact ab) only[go_sem,seval,k0,k4,k5,k7,k10,k11,k12,hi',ldT,hlt']|(apply aj.i<;>intro hc))
   exact hk _ _ ⟨by simp(disch:=try exact ab) only[go_sem,seval,k0],by simp(disch:=try exact ab) only[go_sem,seval,k4],by simp(disch:=try exact ab) only[go_sem,seval,k5],by simp(disch:=try exact ab) only[go_sem,seval,k7]⟩ (by simp(disch:=try exact ab) only[go_sem,seval,k10]) G i0 F
end
end
end Go.Ae
namespace Go.Ae
open Bg N Go.Proofs Gj So
noncomputable section
def Lg (h0 h:Hp)(v:AV)(f:Nat)(cols:Nat→Nat):Prop:=cO 1 h0 h v f ((Wn f cols).map (wd .i64))
section
variable {h h' h0 h1 hp:Hp}{K:AV→Hp→Prop}{tm:Ae.T AV}{v va vb vw s u v4:AV}{a b r tt:Rat}{p T n z w i j k f c q e:Nat}{t t':Nat→Nat}{M:Mt}{g:Nat→Rat}{o:Option cP}{l:List (List UInt8)}{m:List (List (List UInt8))}{Q:Ex→St→Prop}{P:AV→Hp→Prop}{cols:Nat→Nat}
theorem Lg.len (A:Lg h0 h v f cols):tO .slice v=some (.int .i64 f):=(cO.row A).rz.len
theorem Lg.kQ (A:Lg h0 h v f cols)(ch:ig p h h')(ne:∀q o k,v= .sl q o k 1→q≠p):Lg h0 h' v f cols:=by
 obtain⟨hl,⟨e1,e2⟩|⟨q,st,e1,hg,h1,h2,h3⟩⟩:=A
 ·exact⟨hl,.inl ⟨e1,e2⟩⟩
 ·exact⟨hl,.inr ⟨q,st,e1,(ch.get q h2 (ne _ _ _ e1)).trans hg,h1,Nat.lt_of_lt_of_le h2 ch.next,aB h3 ch.dc⟩⟩
def Sp (v:AV)(T n:Nat)(t:Nat→Nat):Prop:=∀q o k,v= .sl q o k 1→q≠T∧∀j,j<n→q≠t j
theorem Lg.kI (s:Sp v T n t):∀j,j<n→∀ha hb,ig (t j) ha hb→Lg h0 ha v f cols→Lg h0 hb v f cols:=fun j hj ha hb ch A=>A.kQ ch fun q o k e=>(s q o k e).2 j hj
theorem Lg.aO (A:Lg h0 h v f cols)(G:aH h h'):Lg h0 h' v f cols:=cO.aO A G
theorem N8 {I:Hp→Prop}(kI:∀j,j<n→∀ha hb,ig (t j) ha hb→I ha→I hb)(i0:I hp)(q:Kv tm T n v4 c f)(G:aH h hp)(F:Xm h hp T t n w M)(hf:f<n)(hc:c<w)(hw:w≤1000)(hn:n≤1000)(bd:∀i,i<n→∀k,k<w→Br 900 (M i k))
  (hk:∀fI hp',Kv fI T n v4 c f→aH h hp'→I hp'→Xm h hp' T t n w (red f c M)→Q .fP ⟨fI,hp'⟩):Wp EM TM ⟨tm,hp⟩ Q:=by
 obtain⟨k0,k4,k5,k7⟩:=q;rw[show TM= .seq _ (.block 6 (.loop (.seq _ (.seq (.block 7 (.seq _ (.seq _ UQ))) _)))) from rfl];repeat'(with_reducible first|simp(disch:=try exact ab) only[go_sem,seval,k0,k4,k5,k7]|(apply aj.i<;>intro hc))
 refine Wp.bW (fun mm s=>∃i:Nat,val s.tm (.t 0)= .sl T 0 n 1∧val s.tm (.t 4)=v4∧val s.tm (.t 5)= .int .i64 c∧val s.tm (.t 7)= .int .i64 f∧val s.tm (.t 10)= .int .i64 i∧
  aH h s.hp∧I s.hp∧Xm h s.hp T t n w (DH f c i M)∧i≤n∧n-i=mm) (n:=n) ?_ ?_
 ·exact⟨0,by simp(disch:=try exact ab) only[go_sem,seval,k0],by simp(disch:=try exact ab) only[go_sem,seval,k4],by simp(disch:=try exact ab) only[go_sem,seval,k5],by simp(disch:=try exact ab) only[go_sem,seval,k7],by(simp(disch:=try exact ab) only[go_sem,seval])<;>rfl,G,i0,F.congr fun i hi k hk=>yu,aJ _,rfl⟩
 ·clear k0 k4 k5 k7 G F i0;rintro mm ⟨tm,hp⟩ ⟨i,k0,k4,k5,k7,k10,G,i0,F,hle,rfl⟩;simp only at k0 k4 k5 k7 k10 G i0 F;by_cases hlt:i<n
  ·have hi':(i:Int)<n:=by omega
   have ky:(c:Int)<w:=by omega
   have sf:i+1≤n:=hlt;have ldT:=F.top.ld hlt;have hT:=F.top.lt;have R:=F.row i hlt;have ht:=R.lt;have mX:=R.ld hc;simp only[qa]at mX;by_cases c1:i=f
   ·subst c1;repeat'(with_reducible first|simp(disch:=try exact ab) only[go_sem,seval,k0,k4,k5,k7,k10,hi',ky,ldT,mX]|(apply aj.i<;>intro hc))
    exact⟨_,by omega,i+1,rfl,G,i0,F.congr fun i hi j hj=>th (.inl rfl),hlt,rfl⟩
   ·have c1':¬(i:Int)=f:=by omega
    by_cases c2:M i c=0
    ·repeat'(with_reducible first|simp(disch:=try exact ab) only[go_sem,seval,k0,k4,k5,k7,k10,hi',ky,ldT,mX,c1',Mw c2]|(apply aj.i<;>intro hc))
     exact⟨_,by omega,i+1,rfl,G,i0,F.congr fun i hi j hj=>th (.inr c2),hlt,rfl⟩
    ·repeat'(with_reducible first|simp(disch:=try exact ab) only[go_sem,seval,k0,k4,k5,k7,k10,hi',ky,ldT,mX,c1',Mx c2]|(apply aj.i<;>intro hc))
     refine QS kI i0 (i:=i) (tt:=M i c) (T:=T) (n:=n) (f:=f) (c:=c) (v4:=v4) ⟨by simp(disch:=try exact ab) only[go_sem,seval,k0],by simp(disch:=try exact ab) only[go_sem,seval,k4],by simp(disch:=try exact ab) only[go_sem,seval,k5],by simp(disch:=try exact ab) only[go_sem,seval,k7]⟩ (by simp(disch:=try exact ab) only[go_sem,seval,k10]) aS G F hlt hf hw hn c1 (bd i hlt c hc) (fun k hk=>by rw[qa];exact(bd i hlt k hk).mono (by decide)) (fun k hk=>by rw[Ms];exact bd f hf k hk) fun fI hp' q q10 G' i0' F'=>?_
     obtain⟨k0,k4,k5,k7⟩:=q;repeat'(with_reducible first|simp(disch:=try exact ab) only[go_sem,seval,k0,k4,k5,k7,q10]|(apply aj.i<;>intro hc))
     exact⟨_,by omega,i+1,rfl,G',i0',F'.congr fun i hi j hj=>CA c1 hj,hlt,rfl⟩
  ·have hlt':¬(i:Int)<n:=by omega
   obtain rfl:i=n:=by omega
   repeat'(with_reducible first|simp(disch:=try exact ab) only[go_sem,seval,k0,k4,k5,k7,k10,hlt']|(apply aj.i<;>intro hc))
   exact hk _ _ ⟨by simp(disch:=try exact ab) only[go_sem,seval,k0],by simp(disch:=try exact ab) only[go_sem,seval,k4],by simp(disch:=try exact ab) only[go_sem,seval,k5],by simp(disch:=try exact ab) only[go_sem,seval,k7]⟩ G i0 (F.congr fun i hi j hj=>CC hi)
theorem Oa (k0:val tm (.t 0)= .sl T 0 n 1)(k4:val tm (.t 4)=v4)(k5:val tm (.t 5)= .int .i64 c)(k6:val tm (.t 6)= .int .i64 f)(F:Xm h hp T t n w M)(rQ:f≤n)(hc:c<w)(hw:w≤1000)(hn:n≤1000)
  (hk:∀fI (a:Nat),val fI (.t 0)= .sl T 0 n 1→val fI (.t 4)=v4→val fI (.t 5)= .int .i64 c→val fI (.t 6)= .int .i64 a→(a=n∧vQ (fun i=>decide (M i c≠0)) (n-f) f=none)∨vQ (fun i=>decide (M i c≠0)) (n-f) f=some a→Q .fP ⟨fI,hp⟩):Wp EM UR ⟨tm,hp⟩ Q:=by
 rw[show UR= .block 2 (.loop _) from rfl];have hT:=F.top.lt;repeat'(with_reducible first|simp(disch:=try exact ab) only[go_sem,seval]|(apply aj.i<;>intro hc))
 refine Wp.bW (fun mm s=>∃i:Nat,val s.tm (.t 0)= .sl T 0 n 1∧val s.tm (.t 4)=v4∧val s.tm (.t 5)= .int .i64 c∧val s.tm (.t 6)= .int .i64 i∧s.hp=hp∧i≤n∧vQ (fun i=>decide (M i c≠0)) (n-i) i=vQ (fun i=>decide (M i c≠0)) (n-f) f∧n-i=mm) (n:=n-f) ?_ ?_
 ·exact⟨f,k0,k4,k5,k6,rfl,rQ,rfl,rfl⟩
 ·clear k0 k4 k5 k6;rintro mm ⟨tm,hp⟩ ⟨i,k0,k4,k5,k6,rfl,hle,D8,rfl⟩;simp only at k0 k4 k5 k6;by_cases hlt:i<n
  ·have hi':(i:Int)<n:=by omega
   have ky:(c:Int)<w:=by omega
   have sf:i+1≤n:=hlt;have ldT:=F.top.ld hlt;have R:=F.row i hlt;have ht:=R.lt;have mX:=R.ld hc;by_cases c1:M i c=0
   ·rw[zq (by omega) (decide_eq_false (fun e=>e c1)),show n-i-1=n-(i+1) by omega]at D8;repeat'(with_reducible first|simp(disch:=try exact ab) only[go_sem,seval,k0,k4,k5,k6,hi',ky,ldT,mX,Mw c1]|(apply aj.i<;>intro hc))
    exact⟨_,by omega,i+1,rfl,hlt,D8,rfl⟩
   ·rw[C3 (by omega) (decide_eq_true c1)]at D8;repeat'(with_reducible first|simp(disch:=try exact ab) only[go_sem,seval,k0,k4,k5,k6,hi',ky,ldT,mX,Mx c1]|(apply aj.i<;>intro hc))
    exact hk _ i (by simp(disch:=try exact ab) only[go_sem,seval,k0]) (by simp(disch:=try exact ab) only[go_sem,seval,k4]) (by simp(disch:=try exact ab) only[go_sem,seval,k5]) (by simp(disch:=try exact ab) only[go_sem,seval,k6]) (.inr D8.symm)
  ·have hlt':¬(i:Int)<n:=by omega
   obtain rfl:i=n:=by omega
   rw[Nat.sub_self]at D8;repeat'(with_reducible first|simp(disch:=try exact ab) only[go_sem,seval,k0,k4,k5,k6,hlt']|(apply aj.i<;>intro hc))
   exact hk _ i (by simp(disch:=try exact ab) only[go_sem,seval,k0]) (by simp(disch:=try exact ab) only[go_sem,seval,k4]) (by simp(disch:=try exact ab) only[go_sem,seval,k5]) (by simp(disch:=try exact ab) only[go_sem,seval,k6]) (.inl ⟨rfl,D8.symm⟩)
end
end
end Go.Ae
namespace Go.Ae
open Bg N Go.Proofs Gj So
noncomputable section
def Jg (n w:Nat)(M:Mt):List (List (List UInt8)):=(ct n).map fun i=>(ct w).map fun k=>aX (M i k)
section
variable {h h' h0 h1 hp:Hp}{K:AV→Hp→Prop}{tm:Ae.T AV}{v va vb vw s u v4:AV}{a b r tt:Rat}{p T n z w i j k f c q e:Nat}{t t':Nat→Nat}{M:Mt}{g:Nat→Rat}{o:Option cP}{l:List (List UInt8)}{m:List (List (List UInt8))}{Q:Ex→St→Prop}{P:AV→Hp→Prop}{cols:Nat→Nat}
theorem sv:(Jg n w M).length=n:=by simp[Jg]
theorem Jf (hi:i<n):ij (Jg n w M) i=(ct w).map fun k=>aX (M i k):=by
 show bQ _ i []=_
 rw[aW,Jg,bK,eT hi];rfl
theorem FB (hi:i<n):(ij (Jg n w M) i).length=w∧∀k,k<w→jj (ij (Jg n w M) i) k=aX (M i k):=by
 rw[Jf hi];refine⟨by simp,fun k hk=>?_⟩;show bQ _ k []=_
 rw[aW,bK,eT hk];rfl
theorem Xm.SU (F:Xm h0 h T t n w M):je h (.sl T 0 n 1) (Jg n w M):=by
 obtain⟨st,hg,h1,h2⟩:=F.top;refine⟨_,⟨by rw[sv];simp,.inr ⟨T,true,st,by rw[sv],hg,h1,h2⟩⟩,fun i hi=>?_⟩;have hi':i<n:=by rwa[sv]at hi
 obtain⟨st',hg',h1',h2'⟩:=F.row i hi';refine⟨.sl (t i) 0 w 1,by rw[bK,eT hi'];rfl,.inl ?_⟩;have e:(Jg n w M)[i]=(ct w).map fun k=>aX (M i k):=by simp[Jg]
 rw[e];refine⟨by simp,.inr ⟨t i,true,st',by simp,?_,h1',h2'⟩⟩;rw[hg',vk];rfl
theorem d55 (F:Xm h0 h T t n w M)(hn:0<n):Gv EM 55 [.sl T 0 n 1] h (.int .i64 w):=by
 have:=m3 (ZD F.SU);rwa[(FB hn).1]at this
theorem WO (b:Br 2000 r)(h0:r≠0):Gv EM 173 [.str (aX r)] h (.str (aX r⁻¹)):=m3 (d173 (b.1.mono (by decide)) (b.2.mono (by decide)) h0)
theorem Gj.Mb.br (bd:Mb e n w M)(he:e≤8100):∀i,i<n→∀k,k<w→Br 900 (M i k):=fun i hi k hk=>((bd i hi).db hk).br (by omega)
theorem FN (hf:f≤n):AN h 1 (.sl T 0 n 1) none (some (.int .i64 (f:Nat)))=some (.sl T 0 f 1,h):=by
 unfold AN bound;simp only;rw[if_pos ⟨by omega,by omega⟩];simp
theorem FF {f a:Nat}:swp a f M=swp f a M:=by
 funext i
 unfold swp;by_cases c1:i=f<;>by_cases c2:i=a<;>simp[c1,c2]
 all_goals(intro e;rw[e])
theorem Lg.snoc:(Wn f cols).map (wd .i64)++[.int .i64 (c:Nat)]=(Wn (f+1) (wJ cols f c)).map (wd .i64):=by
 unfold Wn;rw[pi,dT,dT]
 have e:(ct f).map (wJ cols f c)=(ct f).map cols:=bJ fun k hk=>by
  have:=List.mem_range.1 hk;unfold wJ;rw[if_neg (by omega)]
 rw[e];simp[wJ];rfl
theorem Xm.Zp (F:Xm h0 h1 T t n w M)(s:Sp v T n t)(A:Lg h0 h1 v f cols)(nx:h1.next≤h.next)(ck:h1.dc≤h.dc)
  (fr:∀x,x<h1.next→(∀t' o n',v= .sl t' o n' 1→x≠t')→h.get x=h1.get x):Xm h0 h T t n w M:=by
 obtain⟨hl,⟨e1,e2⟩|⟨q,st,e1,hg,h1,h2,h3⟩⟩:=A
 ·refine F.kQ (p:=h1.next) ⟨nx,ck,fun t ht ne=>fr t ht fun t'' o' n' e=>by rw[e1]at e;cases e⟩ (by have:=F.top.lt;omega) fun i hi=>by have:=(F.row i hi).lt;omega
 ·refine F.kQ (p:=q) ⟨nx,ck,fun t ht ne=>fr t ht fun t'' o' n' e=>?_⟩ (s _ _ _ e1).1.symm fun i hi=>((s _ _ _ e1).2 i hi).symm
  rw[e1]at e;injection e with e
  omega
def PvP (n w:Nat)(M:Mt)(h:Hp)(r:AV)(h':Hp):Prop:=∃T f v4,r= .fO [.sl T 0 f 1,v4]∧f≤n∧((f=n∧∃E t,el n M n=some E∧Xm h h' T t n w E∧Lg h h' v4 n fun i=>i)∨(el n M n=none∧(w=n→f<n)))
theorem d218 (o:je h v m)(uP:m.length=n)(hn0:0<n)(hn:n≤1000)(TW:n≤w)(hw:w≤1000)(hm:∀i,i<n→(ij m i).length=w∧∀k,k<w→jj (ij m i) k=aX (M i k))(hb:Mb e n w M)(he:eb e n≤7500):
  Gp EM 218 [v] h (PvP n w M h):=by
 refine Gp.of (ac.fn (fn:=Hf.a218) rfl rfl rfl ?_);rw[show Hf.a218.code= .seq _ (.seq _ (.seq _ (.seq (.seq _ (.block 0 (.loop (.seq _ (.seq (.block 1 (.seq _ (.seq UR (.seq _ (.seq _ (.seq _ (.seq _ (.seq UP (.seq TM _))))))))) _))))) (.seq _ _)))) from rfl,show Hf.a218.res=[.tmp 2,.tmp 3] from rfl];have Bq:0<w:=by omega
 subst uP;repeat'(with_reducible first|simp(disch:=try exact ab) only[go_sem,seval]|(apply aj.i<;>intro hc))
 refine Gp.wp (d276 o hn0 hn Bq hw hm) fun v1 h2 a1 b1 u1 ⟨T,t,e1,F⟩=>?_
 subst e1;generalize m.length=n at *
 have G0:aH h (h.ov h2 u1):=aL;repeat'(with_reducible first|simp(disch:=try exact ab) only[go_sem,seval]|(apply aj.i<;>intro hc))
 refine Wp.bW (fun mm s=>∃(c f:Nat) (E:Mt) (t:Nat→Nat) (cols:Nat→Nat) (v4:AV),val s.tm (.t 0)= .sl T 0 n 1∧val s.tm (.t 4)=v4∧val s.tm (.t 5)= .int .i64 c∧
  aH h s.hp∧Lg h s.hp v4 f cols∧Sp v4 T n t∧Xm h s.hp T t n w E∧f≤n∧c≤w∧Mb (eb e f) n w E∧
  ((f=c∧el n M c=some E∧∀i,i<f→cols i=i)∨(f<c∧el n M n=none))∧w-c=mm) (n:=w) ?_ ?_
 ·exact⟨0,0,M,t,fun _=>0,.aq,aS,aS,by(simp(disch:=try exact ab) only[go_sem,seval])<;>rfl,G0,cO.nil,(fun q o k e=>by cases e),F,aJ _,aJ _,hb,.inl ⟨rfl,rfl,fun i hi=>absurd hi (fh _)⟩,rfl⟩
 ·clear F;rintro mm ⟨tm,hp⟩ ⟨c,f,E,t,cols,v4,k0,k4,k5,G,A,S,F,rQ,RL,bE,hst,rfl⟩;simp only at k0 k4 k5 G A F;have Oj:=A.len;by_cases hlt:c<w∧f<n
  ·obtain⟨hc,hf⟩:=hlt;have ky:(c:Int)<w:=by omega
   have uQ:(f:Int)<n:=by omega
   have sf:c+1≤w:=hc;have Z4:eb e f≤7500:=aB (xw rQ) he;repeat'(with_reducible first|simp(disch:=try exact ab) only[go_sem,seval,k0,k4,k5,Oj,ky,uQ]|(apply aj.i<;>intro hc))
   refine Gv.wp (d55 F hn0) fun h3 a3 b3 u3=>?_
   repeat'(with_reducible first|simp(disch:=try exact ab) only[go_sem,seval,k0,k4,k5,Oj,ky,uQ]|(apply aj.i<;>intro hc))
   refine Oa (T:=T) (n:=n) (c:=c) (f:=f) (v4:=v4) (by simp(disch:=try exact ab) only[go_sem,seval,k0]) (by simp(disch:=try exact ab) only[go_sem,seval,k4]) (by simp(disch:=try exact ab) only[go_sem,seval,k5]) aS (F.aO aL) rQ hc hw hn fun fI a q0 q4 q5 q6 D8=>?_
   rcases D8 with⟨rfl,D8⟩|D8
   ·repeat'(with_reducible first|simp(disch:=try exact ab) only[go_sem,seval,q0,q4,q5,q6]|(apply aj.i<;>intro hc))
    refine⟨_,by omega,c+1,f,E,t,cols,rfl,G.trans aL,A.aO aL,S,F.aO aL,rQ,hc,bE,.inr ?_,rfl⟩;rcases hst with⟨rfl,pT,_⟩|⟨h1,h2⟩
    ·exact⟨cN _,zz (C9 pT D8) hf⟩
    ·exact⟨by omega,h2⟩
   ·obtain⟨f1,f2,f3⟩:=qx D8;have h0:E a c≠0:=of_decide_eq_true f3;have ha:a<n:=by omega
    have hA:(a:Int)<n:=by omega
    have hAn:¬(a:Int)=n:=by omega
    have bA:=(bE.br (by omega) a ha c hc)
    have F1:Xm h (hp.ov h3 u3) T t n w E:=F.aO aL;have A1:Lg h (hp.ov h3 u3) v4 f cols:=A.aO aL;have G1:aH h (hp.ov h3 u3):=G.trans aL;have ldf:=F1.top.ld hf;have lda:=F1.top.ld ha;have oldT:=F1.top.old;have hT:=F1.top.lt;repeat'(with_reducible first|simp(disch:=try exact ab) only[go_sem,seval,q0,q4,q5,q6,Oj,hAn,uQ,hA,ldf,lda,oldT]|(apply aj.i<;>intro hc))
    refine F1.top.st ha rfl fun h4 c1 P1=>?_
    repeat'(with_reducible first|simp(disch:=try exact ab) only[go_sem,seval,q0,q4,q5,q6,uQ,hA]|(apply aj.i<;>intro hc))
    refine P1.st hf rfl fun h5 c2 P2=>?_
    have F2:=F1.swap ha hf c1 c2 P2;rw[FF]at F2;have ch:=c1.trans c2;have G2:=ch.aO G1 F1.kh;have A2:=A1.kQ ch fun q o k e=>(S q o k e).1
    have S2:Sp v4 T n (fun i=>if i=a then t f else if i=f then t a else t i):=fun q o k e=>⟨(S q o k e).1,fun j hj=>by
     simp only;by_cases c1:j=a
     ·rw[if_pos c1];exact(S q o k e).2 f hf
     ·rw[if_neg c1];by_cases c2:j=f
      ·rw[if_pos c2];exact(S q o k e).2 a ha
      ·rw[if_neg c2];exact(S q o k e).2 j hj⟩
    generalize (fun i=>if i=a then t f else if i=f then t a else t i)=t2 at F2 S2
    have U7:=F2.top.ld hf;have hT2:=F2.top.lt;have R2:=F2.row f hf;have ht2:=R2.lt;have mX:=R2.ld hc;rw[rL]at mX;have bE2:=bE.swp hf ha
    have bS:Mb (eb e f) n w (Aw f (E a c)⁻¹ (swp f a E)):=by
     have:=bE2.Aw hf hc (by rw[rL];exact h0);rwa[rL]at this
    repeat'(with_reducible first|simp(disch:=try exact ab) only[go_sem,seval,q0,q4,q5,q6,uQ,ky,U7,mX]|(apply aj.i<;>intro hc))
    refine Gv.wp (WO (bA.mono (by decide)) h0) fun h6 a6 b6 u6=>?_
    repeat'(with_reducible first|simp(disch:=try exact ab) only[go_sem,seval,q0,q4,q5,q6,uQ,ky]|(apply aj.i<;>intro hc))
    refine JG (T:=T) (t:=t2) (n:=n) (w:=w) (f:=f) (c:=c) (v4:=v4) (b:=(E a c)⁻¹) (M:=swp f a E) (Lg.kI S2) (A2.aO aL) ⟨by simp(disch:=try exact ab) only[go_sem,seval,q0],by simp(disch:=try exact ab) only[go_sem,seval,q4],by simp(disch:=try exact ab) only[go_sem,seval,q5],aS⟩ aS (G2.trans aL) (F2.aO aL) hf hw hn (fun k hk=>(bE2.br (by omega) f hf k hk).mono (by decide)) ((bA.inv h0).mono (by decide)) fun tm7 hp7 q7 G7 A7 F7=>?_
    obtain⟨k0,k4,k5,k7⟩:=q7;repeat'(with_reducible first|simp(disch:=try exact ab) only[go_sem,seval,k0,k4,k5,k7]|(apply aj.i<;>intro hc))
    refine N8 (T:=T) (t:=t2) (n:=n) (w:=w) (f:=f) (c:=c) (v4:=v4) (Lg.kI S2) A7 ⟨by simp(disch:=try exact ab) only[go_sem,seval,k0],by simp(disch:=try exact ab) only[go_sem,seval,k4],by simp(disch:=try exact ab) only[go_sem,seval,k5],by simp(disch:=try exact ab) only[go_sem,seval,k7]⟩ G7 F7 hf hc hw hn (bS.br (by omega)) fun tm8 hp8 q8 G8 A8 F8=>?_
    obtain⟨k0,k4,k5,k7⟩:=q8;repeat'(with_reducible first|simp(disch:=try exact ab) only[go_sem,seval,k0,k4,k5,k7]|(apply aj.i<;>intro hc))
    refine cO.Np (h0:=h) mJ G8 A8 rfl (by decide) (by omega) (by omega) fun v' h9 G9 A9 fr nx ck fs nn=>?_
    rw[Lg.snoc]at A9;have F9:=F8.Zp S2 A8 nx ck fr
    have S9:Sp v' T n t2:=fun q o k e=>by
     have:=fs q o k e;have h1:=F8.top.lt;exact⟨by omega,fun j hj=>by have:=(F8.row j hj).lt;omega⟩
    repeat'(with_reducible first|simp(disch:=try exact ab) only[go_sem,seval,k0,k4,k5,k7]|(apply aj.i<;>intro hc))
    refine⟨_,by omega,c+1,f+1,Jn f c a E,t2,wJ cols f c,rfl,G9,A9,S9,F9,hf,hc,bE.Jn hf ha hc h0,?_,rfl⟩;rcases hst with⟨rfl,pT,hid⟩|⟨h1,h2⟩
    ·refine .inl ⟨rfl,Da pT D8,fun i hi=>?_⟩;unfold wJ;by_cases c1:i=f
     ·rw[if_pos c1,c1]
     ·rw[if_neg c1];exact hid i (by omega)
    ·exact .inr ⟨by omega,h2⟩
  ·have post:∀{h'},aH hp h'→PvP n w M h (.fO [.sl T 0 f 1,v4]) h':=fun gr=>by
    refine⟨T,f,v4,rfl,rQ,?_⟩;have F:=F.aO gr;have A:=A.aO gr;rcases hst with⟨rfl,pT,hid⟩|⟨h1,h2⟩
    ·obtain rfl:f=n:=by omega
     refine .inl ⟨rfl,E,t,pT,F,?_⟩;unfold Lg at A⊢;rwa[Aj hid]at A
    ·exact .inr ⟨h2,fun e=>by omega⟩
   by_cases hc:c<w
   ·have ky:(c:Int)<w:=by omega
    have uQ:¬(f:Int)<n:=by omega
    repeat'(with_reducible first|simp(disch:=try exact ab) only[go_sem,seval,k0,k4,k5,Oj,ky,uQ]|(apply aj.i<;>intro hc))
    refine Gv.wp (d55 F hn0) fun h3 a3 b3 u3=>?_
    repeat'(with_reducible first|simp(disch:=try exact ab) only[go_sem,seval,k0,k4,k5,Oj,ky,uQ]|(apply aj.i<;>intro hc))
    rw[FN rQ];repeat'(with_reducible first|simp(disch:=try exact ab) only[go_sem,seval,k4]|(apply aj.i<;>intro hc))
    exact⟨post aL,G.trans aL⟩
   ·have ky:¬(c:Int)<w:=by omega
    repeat'(with_reducible first|simp(disch:=try exact ab) only[go_sem,seval,k0,k4,k5,Oj,ky]|(apply aj.i<;>intro hc))
    refine Gv.wp (d55 F hn0) fun h3 a3 b3 u3=>?_
    repeat'(with_reducible first|simp(disch:=try exact ab) only[go_sem,seval,k0,k4,k5,Oj,ky]|(apply aj.i<;>intro hc))
    rw[FN rQ];repeat'(with_reducible first|simp(disch:=try exact ab) only[go_sem,seval,k4]|(apply aj.i<;>intro hc))
    exact⟨post aL,G.trans aL⟩
end
end
end Go.Ae
namespace Go.Ae
open Bg N Go.Proofs Gj So
noncomputable section
def Ut:au:=Hf.EH.code.r.r.r.l
section
variable {h h' h0 h1 hp:Hp}{K:AV→Hp→Prop}{tm:Ae.T AV}{v va vb vw s u v4:AV}{a r tt:Rat}{p T n z w i j k f c q e:Nat}{t t':Nat→Nat}{M E:Mt}{g:Nat→Rat}{o:Option cP}{l b:List (List UInt8)}{m:List (List (List UInt8))}{Q:Ex→St→Prop}{P:AV→Hp→Prop}{cols:Nat→Nat}
theorem d143 (o:je h v m)(uP:m.length=n)(hn0:0<n)(hn:n≤1000)(hm:∀i,i<n→(ij m i).length=n∧∀k,k<n→jj (ij m i) k=aX (M i k))(hb:Mb e n n M)(he:eb e n≤7500):
  Gp EM 143 [v] h fun r h'=>∃f:Nat,r= .int .i64 f∧f≤n∧(f=n↔∃E,el n M n=some E):=by
 refine Gp.of (ac.fn (fn:=Hf.a143) rfl rfl rfl ?_);unfold Hf.a143;repeat'(with_reducible first|simp(disch:=try exact ab) only[go_sem,seval]|(apply aj.i<;>intro hc))
 have f217:Gp EM 217 [v] h fun r h'=>∃T f,r= .sl T 0 f 1∧f≤n∧(f=n↔∃E,el n M n=some E):=by
  refine Gp.of (ac.fn (fn:=Hf.Ll) rfl rfl rfl ?_);unfold Hf.Ll;repeat'(with_reducible first|simp(disch:=try exact ab) only[go_sem,seval]|(apply aj.i<;>intro hc))
  refine Gp.wp (d218 o uP hn0 hn (ae _) hn hm hb he) fun v1 h2 a1 b1 u1 ⟨T,f,v4,e1,hf,hor⟩=>?_
  subst e1;repeat'(with_reducible first|simp(disch:=try exact ab) only[go_sem,seval]|(apply aj.i<;>intro hc))
  refine⟨⟨T,f,rfl,hf,?_⟩,aL⟩;rcases hor with⟨e1,E,t,e2,_⟩|⟨e1,e2⟩
  ·exact⟨fun _=>⟨E,e2⟩,fun _=>e1⟩
  ·exact⟨fun e=>by have:=e2 rfl;omega,fun⟨E,e⟩=>by rw[e1]at e;cases e⟩
 refine Gp.wp f217 fun v1 h2 a1 b1 u1 ⟨T,f,e1,hf,hor⟩=>?_
 subst e1;repeat'(with_reducible first|simp(disch:=try exact ab) only[go_sem,seval]|(apply aj.i<;>intro hc))
 exact⟨⟨f,rfl,hf,hor⟩,aL⟩
theorem LX:(ct n).map (fun k=>AV.str (aX (g k)))++[.str (aX (g n))]=(ct (n+1)).map fun k=>AV.str (aX (g k)):=by rw[pi,dT];rfl
theorem N6 (k0:val tm (.t 0)=v)(k1:val tm (.t 1)=vb)(k6:val tm (.t 6)= .aq)(k7:val tm (.t 7)= .int .i64 n)(o:je h v m)(ob:jd h vb b)(uP:m.length=n)(RO:b.length=n)(hn0:0<n)(hn:n≤900)
  (hm:∀i,i<n→(ij m i).length=n∧∀k,k<n→jj (ij m i) k=aX (M i k)) (MQ:∀i,i<n→jj b i=aX (M i n)) (G:aH h hp)
  (hk:∀fI hp' T t,val fI (.t 6)= .sl T 0 n 1→val fI (.t 7)= .int .i64 n→aH h hp'→Xm h hp' T t n (n+1) M→Q .fP ⟨fI,hp'⟩):Wp EM Ut ⟨tm,hp⟩ Q:=by
 rw[show Ut= .seq _ (.block 0 (.loop _)) from rfl];obtain⟨vs,rz⟩:=o.rz;have ln:=rz.len;have ad:=rz.jn;have adb:=ob.rz.jn;have lnb:=ob.rz.len;rw[uP]at ln ad;rw[RO]at adb lnb;repeat'(with_reducible first|simp(disch:=try exact ab) only[go_sem,seval,k0,k1,k6,k7]|(apply aj.i<;>intro hc))
 refine Wp.bW (fun mm s=>∃(i:Nat) (v6:AV),val s.tm (.t 0)=v∧val s.tm (.t 1)=vb∧val s.tm (.t 6)=v6∧val s.tm (.t 7)= .int .i64 n∧val s.tm (.t 8)= .int .i64 i∧
  aH h s.hp∧Gx h s.hp v6 i (n+1) M∧i≤n∧n-i=mm) (n:=n) ?_ ?_
 ·exact⟨0,.aq,by simp(disch:=try exact ab) only[go_sem,seval,k0],by simp(disch:=try exact ab) only[go_sem,seval,k1],by simp(disch:=try exact ab) only[go_sem,seval,k6],by simp(disch:=try exact ab) only[go_sem,seval,k7],by(simp(disch:=try exact ab) only[go_sem,seval])<;>rfl,G,.inl ⟨rfl,rfl⟩,aJ _,rfl⟩
 ·clear k0 k1 k6 k7 G;rintro mm ⟨tm,hp⟩ ⟨i,v6,k0,k1,k6,k7,k8,G,A,hle,rfl⟩;simp only at k0 k1 k6 k7 k8 G A;have og:=o.aO G;have obg:=ob.aO G;by_cases hlt:i<n
  ·have hlt':(i:Int)<n:=by omega
   have hlt1:i+1≤n:=hlt;obtain⟨u,ou,ld⟩:=og.ld (i:=i) (by omega);obtain⟨hl,hv⟩:=hm i hlt
   have hvt:v.tok<hp.next:=by
    obtain⟨own,st,hg,ht,hst⟩:=og.choose_spec.1.rz.get (by omega);exact ht
   have old:=og.old (by omega);have ldb:=obg.ld (i:=i) (by omega);have oldb:=obg.old (by omega);have OH:=obg.lt (by omega);repeat'(with_reducible first|simp(disch:=try exact ab) only[go_sem,seval,k0,k1,k6,k7,k8,ln,ad,adb,lnb,hlt',ld,ldb,old,oldb]|(apply aj.i<;>intro hc))
   refine Do ou (by omega) (by omega) (by decide) G mJ fun y h1 g1 S1 hy=>?_
   rw[hl]at S1⊢;have S2:Sw h1 y n (M i):=S1.congr fun k hk=>by rw[hv k hk]
   have gv:=g1.get hvt;have gb:=g1.get OH;repeat'(with_reducible first|simp(disch:=try exact ab) only[go_sem,seval,k0,k1,k6,k7,k8,ln,ad,adb,lnb,hlt',ld,ldb,old,oldb,gv,gb]|(apply aj.i<;>intro hc))
   have O1:cO 1 hp h1 (.sl y 0 n 1) n ((ct n).map fun k=>AV.str (aX (M i k))):=by
    obtain⟨st,hg,h1',h2'⟩:=S2;exact⟨by simp,.inr ⟨y,st,rfl,hg,hy,h1',h2'⟩⟩
   refine cO.wp (h0:=hp) mJ g1 O1 rfl (by decide) (by omega) (by omega) fun v' h2 g2 O2=>?_
   rw[MQ i hlt,LX]at O2;obtain⟨_,⟨_,e⟩|⟨y2,Zy,rfl,RG,lo2,TO,cl2⟩⟩:=O2
   ·omega
   have gv:=g2.get hvt;have gb:=g2.get OH;repeat'(with_reducible first|simp(disch:=try exact ab) only[go_sem,seval,k0,k1,k6,k7,k8,ln,ad,adb,lnb,hlt',ld,ldb,old,oldb,gv,gb]|(apply aj.i<;>intro hc))
   refine A.app (M:=M) g2 G ⟨Zy,RG,TO,cl2⟩ lo2 (Nat.succ_pos _) (by omega) (by decide) mJ fun v7 h3 G3 A3=>?_
   repeat'(with_reducible first|simp(disch:=try exact ab) only[go_sem,seval,k0,k1,k6,k7,k8,ln,ad,adb,lnb,hlt',ld,ldb,old,oldb,gv,gb]|(apply aj.i<;>intro hc))
   exact⟨_,by omega,i+1,rfl,G3,A3,hlt,rfl⟩
  ·have hlt':¬(i:Int)<n:=by omega
   obtain rfl:i=n:=by omega
   repeat'(with_reducible first|simp(disch:=try exact ab) only[go_sem,seval,k0,k1,k6,k7,k8,ln,hlt']|(apply aj.i<;>intro hc))
   rcases A with⟨_,e⟩|⟨T,t,e,_,A⟩
   ·omega
   ·exact hk _ _ T t (by rw[←e];simp(disch:=try exact ab) only[go_sem,seval,k6]) (by simp(disch:=try exact ab) only[go_sem,seval,k7]) G A
theorem Lg.ts (A:Lg h0 h v n cols)(hn:0<n):∃q,v= .sl q 0 n 1∧Ts h q n fun k=> .int .i64 (cols k):=by
 obtain⟨_,⟨_,e⟩|⟨q,st,e1,hg,h1,h2,h3⟩⟩:=A
 ·omega
 ·refine⟨q,e1,st,?_,h2,h3⟩;rw[hg];unfold Wn;rw[vk];rfl
theorem d144 (o:je h v m)(ob:jd h vb b)(uP:m.length=n)(RO:b.length=n)(hn0:0<n)(hn:n≤900)
  (hm:∀i,i<n→(ij m i).length=n∧∀k,k<n→jj (ij m i) k=aX (M i k)) (MQ:∀i,i<n→jj b i=aX (M i n)) (hb:Mb e n (n+1) M) (he:eb e n≤7500) (pT:el n M n=some E):
  Gp EM 144 [v,vb] h fun r h'=>∃q,r= .fO [.sl q 0 n 1,.bool true]∧Sw h' q n fun i=>E i n:=by
 refine Gp.of (ac.fn (fn:=Hf.EH) rfl rfl rfl ?_);rw[show Hf.EH.code= .seq _ (.seq _ (.seq _ (.seq Ut (.seq _ (.seq _ (.seq (.seq _ (.block 2 (.loop _))) _)))))) from rfl,show Hf.EH.res=[.tmp 4,.tmp 5] from rfl];have f55:=m3 (ZD o);rw[(hm 0 hn0).1]at f55;repeat'(with_reducible first|simp(disch:=try exact ab) only[go_sem,seval]|(refine Gv.wp (f55) fun _ _ _ _=>?_)|(apply aj.i<;>intro hc))
 refine N6 (v:=v) (vb:=vb) (m:=m) (b:=b) (n:=n) (M:=M) (h:=h) aS aS aS aS o ob uP RO hn0 hn hm MQ aL fun Zw hp1 T t k6 k7 G F=>?_
 repeat'(with_reducible first|simp(disch:=try exact ab) only[go_sem,seval,k6,k7]|(apply aj.i<;>intro hc))
 refine Gp.wp (d218 (w:=n+1) F.SU sv hn0 (by omega) (by omega) (by omega) (fun i hi=>FB hi) hb he) fun v1 h2 a1 b1 u1 ⟨T1,f,v4,e1,hf,hor⟩=>?_
 rcases hor with⟨ef,E',t1,e2,F1,A1⟩|⟨e2,_⟩
 ·rw [pT]at e2;rw[ef]at e1;injection e2 with e2
  subst e1 e2;obtain⟨q4,rfl,L1⟩:=A1.ts hn0;have G1:aH h (hp1.ov h2 u1):=G.trans aL;generalize hp1.ov h2 u1=hB at *
  repeat'(with_reducible first|simp(disch:=try exact ab) only[go_sem,seval,k6,k7]|(apply aj.i<;>intro hc))
  refine Gp.wp (d219 hn0 (by omega)) fun v2 h3 a2 b2 u2 ⟨q,e3,X,hq⟩=>?_
  subst e3;have GB:aH hB (hB.ov h3 u2):=aL;repeat'(with_reducible first|simp(disch:=try exact ab) only[go_sem,seval,k6,k7]|(apply aj.i<;>intro hc))
  refine Wp.bW (fun mm s=>∃(i:Nat),val s.tm (.t 7)= .int .i64 n∧val s.tm (.t 9)= .sl T1 0 n 1∧val s.tm (.t 10)= .sl q4 0 n 1∧val s.tm (.t 11)= .sl q 0 n 1∧val s.tm (.t 12)= .int .i64 i∧
   aH hB s.hp∧Sw s.hp q n (fun k=>if k<i then E k n else 0)∧i≤n∧n-i=mm) (n:=n) ?_ ?_
  ·exact⟨0,by simp(disch:=try exact ab) only[go_sem,seval,k7],aS,aS,aS,by(simp(disch:=try exact ab) only[go_sem,seval])<;>rfl,GB,X.congr (fun k hk=>by simp only[if_neg (fh k)]),aJ _,rfl⟩
  ·clear k6 k7 X;rintro mm ⟨tm,hp⟩ ⟨i,k7,k9,k10,k11,k12,gb,X,hle,rfl⟩;simp only at k7 k9 k10 k11 k12 gb X;by_cases hlt:i<n
   ·have hlt':(i:Int)<n:=by omega
    have hne:¬(i:Int)=n:=by omega
    have hnn:(n:Int)<(n+1:Nat):=by omega
    have hlt1:i+1≤n:=hlt;have Fb:=F1.aO gb;have Lb:=L1.aO gb;have ldq:=Lb.ld hlt;have oldq:=Lb.old;have ltq:=Lb.lt;have ldT:=Fb.top.ld hlt;have oldT:=Fb.top.old;have ltT:=Fb.top.lt;have R:=Fb.row i hlt;have ldy:=R.ld (cN n);have oldy:=R.old;have lty:=R.lt
    repeat'(with_reducible first|simp(disch:=try exact ab) only[go_sem,seval,k7,k9,k10,k11,k12,hlt',hne,hnn,ldq,oldq,ldT,oldT,ldy,oldy]|(apply aj.i<;>intro hc))
    refine Ts.Mq X gb aL hlt rfl rfl hq rfl fun h5 G5 ch X5=>?_
    repeat'(with_reducible first|simp(disch:=try exact ab) only[go_sem,seval,k7,k9,k10,k11,k12]|(apply aj.i<;>intro hc))
    refine⟨_,by omega,i+1,rfl,G5,X5.congr fun k hk=>?_,hlt,rfl⟩;simp only[sR];by_cases c1:k=i
    ·rw[if_pos c1,if_pos (by omega),c1]
    ·rw[if_neg c1];by_cases c2:k<i
     ·rw[if_pos c2,if_pos (by omega)]
     ·rw[if_neg c2,if_neg (by omega)]
   ·have hlt':¬(i:Int)<n:=by omega
    obtain rfl:i=n:=by omega
    repeat'(with_reducible first|simp(disch:=try exact ab) only[go_sem,seval,k7,k9,k10,k11,k12,hlt']|(apply aj.i<;>intro hc))
    exact⟨⟨q,rfl,X.congr fun k hk=>by simp only[if_pos hk]⟩,G1.trans gb⟩
 ·rw[pT]at e2;cases e2
end
end
end Go.Ae
namespace Go.Ae
open Bg N Go.Proofs Gj So
noncomputable section
def mc (l:List (List UInt8)):Prop:=l.length≤30∧∀i,i<l.length→(jj l i).length≤30
def qP (m:List (List (List UInt8))):Prop:=m.length≤30∧∀i,i<m.length→mc (ij m i)
open Classical in
instance {l:List (List UInt8)}:Decidable (mc l):=Classical.propDecidable _
open Classical in
instance {m:List (List (List UInt8))}:Decidable (qP m):=Classical.propDecidable _
section
variable {h h' h0 h1 hp:Hp}{K:AV→Hp→Prop}{tm:Ae.T AV}{v va vb vw s u:AV}{a r tt:Rat}{p T n z w i j k f c q q' e:Nat}{t t':Nat→Nat}{M E:Mt}{g:Nat→Rat}{o:Option cP}{l b:List (List UInt8)}{m:List (List (List UInt8))}{Q:Ex→St→Prop}{P:AV→Hp→Prop}
theorem WN {b:Bool}{e:Int}:ac EM 20 [.bool b,.int .i64 e] h K↔K (.int .i64 (if b=true then e else 0)) h:=by
 refine up OM fun K=>TH fun K=>?_
 refine ac.cZ (ac.fn (fn:=R.a20) rfl rfl rfl ?_);unfold R.a20;cases b
 ·repeat'(with_reducible first|simp(disch:=try exact ab) only[go_sem,seval]|(apply aj.i<;>intro hc))
 ·repeat'(with_reducible first|simp(disch:=try exact ab) only[go_sem,seval]|(apply aj.i<;>intro hc))
theorem Fz {n:Nat}{a:Rat}(i:Br n a)(hn:n≤2000):(aX a).length≤1000000:=by
 have:=(su (i.mono hn).1 (i.mono hn).2).1;omega
theorem d33 (o:jd h v l):Gv EM 33 [v,.int .i64 30] h (.bool (decide (mc l))):=by
 refine Gv.of (ac.fn (fn:=Hf.Uh) rfl rfl rfl ?_);unfold Hf.Uh;have ln:=o.rz.len;have ad:=o.rz.jn;by_cases h1:30<l.length
 ·have h1':(30:Int)<l.length:=by omega
  rw[decide_eq_false (fun e:mc l=>by have:=e.1;omega)];repeat'(with_reducible first|simp(disch:=try exact ab) only[go_sem,seval,ln,h1']|(apply aj.i<;>intro hc))
  all_goals exact aL
 have h1':¬(30:Int)<l.length:=by omega
 repeat'(with_reducible first|simp(disch:=try exact ab) only[go_sem,seval,ln,h1']|(apply aj.i<;>intro hc))
 refine Wp.bW (fun mm s=>∃(i:Nat),val s.tm (.t 0)=v∧val s.tm (.t 1)= .int .i64 30∧val s.tm (.t 5)= .int .i64 i∧
  aH h s.hp∧i≤l.length∧(∀j,j<i→(jj l j).length≤30)∧l.length-i=mm) (n:=l.length) ?_ ?_
 ·exact⟨0,aS,aS,by(simp(disch:=try exact ab) only[go_sem,seval])<;>rfl,aH.refl _,aJ _,fun j hj=>absurd hj (fh _),rfl⟩
 ·rintro mm ⟨tm,hp⟩ ⟨i,k0,k1,k5,G,hle,hok,rfl⟩;simp only at k0 k1 k5 G;by_cases hlt:i<l.length
  ·have hlt':(i:Int)<l.length:=by omega
   have hlt1:i+1≤l.length:=hlt;have ld:=(o.aO G).ld hlt;by_cases c1:(jj l i).length≤30
   ·have c1':¬(30:Int)<(jj l i).length:=by omega
    repeat'(with_reducible first|simp(disch:=try exact ab) only[go_sem,seval,k0,k1,k5,ln,ad,hlt',ld,c1']|(apply aj.i<;>intro hc))
    refine⟨_,by omega,i+1,rfl,G,hlt1,?_,rfl⟩;intro j hj;rcases aQ j i with hj'|hj'
    ·exact hok j hj'
    ·rwa[show j=i by omega]
   ·have c1':(30:Int)<(jj l i).length:=by omega
    rw[decide_eq_false (fun e:mc l=>c1 (e.2 i hlt))];repeat'(with_reducible first|simp(disch:=try exact ab) only[go_sem,seval,k0,k1,k5,ln,ad,hlt',ld,c1']|(apply aj.i<;>intro hc))
    first|exact G|exact⟨rfl,G⟩
  ·have hlt':¬(i:Int)<l.length:=by omega
   obtain rfl:i=l.length:=by omega
   rw[decide_eq_true (show mc l from⟨by omega,hok⟩)];repeat'(with_reducible first|simp(disch:=try exact ab) only[go_sem,seval,k0,k1,k5,ln,hlt']|(apply aj.i<;>intro hc))
   first|exact G|exact⟨rfl,G⟩
theorem d32 (o:je h v m):Gv EM 32 [v,.int .i64 30] h (.bool (decide (qP m))):=by
 refine Gv.of (ac.fn (fn:=Hf.Ui) rfl rfl rfl ?_);unfold Hf.Ui;obtain⟨vs,rz⟩:=o.rz;have ln:=rz.len;have ad:=rz.jn;by_cases h1:30<m.length
 ·have h1':(30:Int)<m.length:=by omega
  rw[decide_eq_false (fun e:qP m=>by have:=e.1;omega)];repeat'(with_reducible first|simp(disch:=try exact ab) only[go_sem,seval,ln,h1']|(apply aj.i<;>intro hc))
  all_goals exact aL
 have h1':¬(30:Int)<m.length:=by omega
 repeat'(with_reducible first|simp(disch:=try exact ab) only[go_sem,seval,ln,h1']|(apply aj.i<;>intro hc))
 refine Wp.bW (fun mm s=>∃(i:Nat),val s.tm (.t 0)=v∧val s.tm (.t 1)= .int .i64 30∧val s.tm (.t 5)= .int .i64 i∧
  aH h s.hp∧i≤m.length∧(∀j,j<i→mc (ij m j))∧m.length-i=mm) (n:=m.length) ?_ ?_
 ·exact⟨0,aS,aS,by(simp(disch:=try exact ab) only[go_sem,seval])<;>rfl,aH.refl _,aJ _,fun j hj=>absurd hj (fh _),rfl⟩
 ·rintro mm ⟨tm,hp⟩ ⟨i,k0,k1,k5,G,hle,hok,rfl⟩;simp only at k0 k1 k5 G;by_cases hlt:i<m.length
  ·have hlt':(i:Int)<m.length:=by omega
   have hlt1:i+1≤m.length:=hlt;obtain⟨u,ou,ld⟩:=(o.aO G).ld hlt;have f33:=d33 ou;by_cases c1:mc (ij m i)
   ·rw[decide_eq_true c1]at f33;repeat'(with_reducible first|simp(disch:=try exact ab) only[go_sem,seval,k0,k1,k5,ln,ad,hlt',ld]|(refine Gv.wp (f33) fun _ _ _ _=>?_)|(apply aj.i<;>intro hc))
    refine⟨_,by omega,i+1,rfl,G.trans aL,hlt1,?_,rfl⟩;intro j hj;rcases aQ j i with hj'|hj'
    ·exact hok j hj'
    ·rwa[show j=i by omega]
   ·rw[decide_eq_false c1]at f33;rw[decide_eq_false (fun e:qP m=>c1 (e.2 i hlt))];repeat'(with_reducible first|simp(disch:=try exact ab) only[go_sem,seval,k0,k1,k5,ln,ad,hlt',ld]|(refine Gv.wp (f33) fun _ _ _ _=>?_)|(apply aj.i<;>intro hc))
    first|exact G.trans aL|exact⟨rfl,G.trans aL⟩
  ·have hlt':¬(i:Int)<m.length:=by omega
   obtain rfl:i=m.length:=by omega
   rw[decide_eq_true (show qP m from⟨by omega,hok⟩)];repeat'(with_reducible first|simp(disch:=try exact ab) only[go_sem,seval,k0,k1,k5,ln,hlt']|(apply aj.i<;>intro hc))
   first|exact G|exact⟨rfl,G⟩
theorem Sj (S:Sw h q n g)(S':Sw h q' n g)(hn:n≤1000):Gv EM 110 [.sl q 0 n 1,.sl q' 0 n 1] h (.bool true):=by
 refine Gv.of (ac.fn (fn:=C.LW) rfl rfl rfl ?_);unfold C.LW;repeat'(with_reducible first|simp(disch:=try exact ab) only[go_sem,seval]|(apply aj.i<;>intro hc))
 refine Wp.bW (fun mm s=>∃(i:Nat),val s.tm (.t 0)= .sl q 0 n 1∧val s.tm (.t 1)= .sl q' 0 n 1∧val s.tm (.t 5)= .int .i64 i∧
  aH h s.hp∧i≤n∧n-i=mm) (n:=n) ?_ ?_
 ·exact⟨0,aS,aS,by(simp(disch:=try exact ab) only[go_sem,seval])<;>rfl,aH.refl _,aJ _,rfl⟩
 ·rintro mm ⟨tm,hp⟩ ⟨i,k0,k1,k5,G,hle,rfl⟩;simp only at k0 k1 k5 G;by_cases hlt:i<n
  ·have hlt':(i:Int)<n:=by omega
   have hlt1:i+1≤n:=hlt;have A:=S.aO G;have B:=S'.aO G;have ldA:=A.ld hlt;have ldB:=B.ld hlt;have oA:=A.old;have oB:=B.old;have lA:=A.lt;have lB:=B.lt;repeat'(with_reducible first|simp(disch:=try exact ab) only[go_sem,seval,k0,k1,k5,hlt',ldA,ldB,oA,oB]|(apply aj.i<;>intro hc))
   exact⟨_,by omega,i+1,rfl,G,hlt1,rfl⟩
  ·have hlt':¬(i:Int)<n:=by omega
   obtain rfl:i=n:=by omega
   repeat'(with_reducible first|simp(disch:=try exact ab) only[go_sem,seval,k0,k1,k5,hlt']|(apply aj.i<;>intro hc))
   first|exact G|exact⟨rfl,G⟩
theorem M4 (S:Sw h q n g)(hn:n≤1000)(hb:∀k,k<n→Br 2000 (g k)):Gp EM 142 [.sl q 0 n 1] h fun r _=>((∀k,k<n→oe (g k)=true)→r= .int .i64 0)∧((¬∀k,k<n→oe (g k)=true)→r= .int .i64 4):=by
 refine Gp.of (ac.fn (fn:=R.LG) rfl rfl rfl ?_);unfold R.LG;repeat'(with_reducible first|simp(disch:=try exact ab) only[go_sem,seval]|(apply aj.i<;>intro hc))
 refine Wp.bW (fun mm s=>∃(i:Nat),val s.tm (.t 0)= .sl q 0 n 1∧val s.tm (.t 3)= .int .i64 i∧
  aH h s.hp∧i≤n∧(∀k,k<i→oe (g k)=true)∧n-i=mm) (n:=n) ?_ ?_
 ·exact⟨0,aS,by(simp(disch:=try exact ab) only[go_sem,seval])<;>rfl,aH.refl _,aJ _,fun k hk=>absurd hk (fh _),rfl⟩
 ·rintro mm ⟨tm,hp⟩ ⟨i,k0,k3,G,hle,hok,rfl⟩;simp only at k0 k3 G;by_cases hlt:i<n
  ·have hlt':(i:Int)<n:=by omega
   have hlt1:i+1≤n:=hlt;have A:=S.aO G;have ldA:=A.ld hlt;have lA:=A.lt;have tl:=Fz (hb i hlt) (by decide);have Gb:∀{h K},ac EM 176 [.str (aX (g i))] h K↔K (.int .i64 (if tP (aX (g i))then 4 else 0)) h:=up OM fun K=>TH fun K=>W5 (by omega)
   rw[Bi]at Gb;by_cases c1:oe (g i)=true
   ·rw[c1]at Gb;repeat'(with_reducible first|simp(disch:=try exact ab) only[go_sem,seval,k0,k3,hlt',ldA,Gb]|(apply aj.i<;>intro hc))
    refine⟨_,by omega,i+1,rfl,G,hlt1,?_,rfl⟩;intro k hk;rcases aQ k i with c|c
    ·exact hok k c
    ·rwa[show k=i by omega]
   ·rw[show oe (g i)=false by simpa using c1]at Gb;repeat'(with_reducible first|simp(disch:=try exact ab) only[go_sem,seval,k0,k3,hlt',ldA,Gb]|(apply aj.i<;>intro hc))
    exact⟨⟨fun e=>absurd (e i hlt) c1,fun _=>trivial⟩,G⟩
  ·have hlt':¬(i:Int)<n:=by omega
   obtain rfl:i=n:=by omega
   repeat'(with_reducible first|simp(disch:=try exact ab) only[go_sem,seval,k0,k3,hlt']|(apply aj.i<;>intro hc))
   exact⟨⟨fun _=>trivial,fun e=>absurd hok e⟩,G⟩
theorem Qt {e:Int}(he:e≠0):Gv EM 38 [.aq,.int .i64 e,.int .i64 e,vw] h (.bool true):=by
 refine Gv.of (ac.fn (fn:=Hf.Nn) rfl rfl rfl ?_);unfold Hf.Nn;repeat'(with_reducible first|simp(disch:=try exact ab) only[go_sem,seval,he]|(apply aj.i<;>intro hc))
 all_goals exact aL
theorem UI (S:Sw h q n g)(hn:n≤1000)(hb:∀k,k<n→Br 2000 (g k))(no:¬∀k,k<n→oe (g k)=true):Gv EM 38 [.aq,.int .i64 4,.int .i64 0,.sl q 0 n 1] h (.bool true):=by
 refine Gv.of (ac.fn (fn:=Hf.Nn) rfl rfl rfl ?_);unfold Hf.Nn;repeat'(with_reducible first|simp(disch:=try exact ab) only[go_sem,seval]|(apply aj.i<;>intro hc))
 refine Gp.wp (M4 S hn hb) fun v1 h1 a1 b1 u1 ⟨_,e1⟩=>?_
 have e1:=e1 no;subst e1;repeat'(with_reducible first|simp(disch:=try exact ab) only[go_sem,seval]|(apply aj.i<;>intro hc))
 all_goals exact aL
theorem UH (S:Sw h q n g)(S':Sw h q' n g)(hn:n≤1000)(hb:∀k,k<n→Br 2000 (g k))(ok:∀k,k<n→oe (g k)=true):Gv EM 38 [.sl q 0 n 1,.int .i64 0,.int .i64 0,.sl q' 0 n 1] h (.bool true):=by
 refine Gv.of (ac.fn (fn:=Hf.Nn) rfl rfl rfl ?_);unfold Hf.Nn;repeat'(with_reducible first|simp(disch:=try exact ab) only[go_sem,seval]|(apply aj.i<;>intro hc))
 refine Gp.wp (M4 S' hn hb) fun v1 h1 a1 b1 u1 ⟨e1,_⟩=>?_
 have e1:=e1 ok;subst e1;repeat'(with_reducible first|simp(disch:=try exact ab) only[go_sem,seval]|(apply aj.i<;>intro hc))
 refine Gv.wp (Sj (S.aO aL) (S'.aO aL) hn) fun h2 a2 b2 u2=>?_
 repeat'(with_reducible first|simp(disch:=try exact ab) only[go_sem,seval]|(apply aj.i<;>intro hc))
 all_goals exact aL
theorem WR (o:je h v m)(uP:m.length=n)(hn0:0<n)(hn:n≤1000)(hm:∀i,i<n→(ij m i).length=n∧∀k,k<n→jj (ij m i) k=aX (M i k))(hb:Mb e n n M)(he:eb e n≤7500)(pT:el n M n=none):
  Gv EM 39 [v,vb] h (.fO [.aq,.bool false]):=by
 refine Gv.of (ac.fn (fn:=Hf.PP) rfl rfl rfl ?_);unfold Hf.PP;obtain⟨vs,rz⟩:=o.rz;have ln:=rz.len;rw[uP]at ln;repeat'(with_reducible first|simp(disch:=try exact ab) only[go_sem,seval]|(apply aj.i<;>intro hc))
 refine Gp.wp (d143 o uP hn0 hn hm hb he) fun v1 h1 a1 b1 u1 ⟨f,e1,hf,hor⟩=>?_
 subst e1
 have rQ:(f:Int)<n:=by
  have:f≠n:=fun e=>by
   obtain⟨E,hE⟩:=hor.1 e;rw[pT]at hE;cases hE
  omega
 repeat'(with_reducible first|simp(disch:=try exact ab) only[go_sem,seval,ln,rQ]|(apply aj.i<;>intro hc))
 all_goals exact aL
theorem Sf (o:je h v m)(ob:jd h vb b)(uP:m.length=n)(RO:b.length=n)(hn0:0<n)(hn:n≤900)
  (hm:∀i,i<n→(ij m i).length=n∧∀k,k<n→jj (ij m i) k=aX (M i k)) (MQ:∀i,i<n→jj b i=aX (M i n)) (hb0:Mb e n n M) (hb:Mb e n (n+1) M) (he:eb e n≤7500) (pT:el n M n=some E):
  Gp EM 39 [v,vb] h fun r h'=>∃q,r= .fO [.sl q 0 n 1,.bool true]∧Sw h' q n fun i=>E i n:=by
 refine Gp.of (ac.fn (fn:=Hf.PP) rfl rfl rfl ?_);unfold Hf.PP;obtain⟨vs,rz⟩:=o.rz;have ln:=rz.len;rw[uP]at ln;repeat'(with_reducible first|simp(disch:=try exact ab) only[go_sem,seval]|(apply aj.i<;>intro hc))
 refine Gp.wp (d143 o uP hn0 (by omega) hm hb0 he) fun v1 h1 a1 b1 u1 ⟨f,e1,hf,hor⟩=>?_
 subst e1
 have rQ:¬(f:Int)<n:=by
  have:=hor.2 ⟨E,pT⟩;omega
 repeat'(with_reducible first|simp(disch:=try exact ab) only[go_sem,seval,ln,rQ]|(apply aj.i<;>intro hc))
 refine Gp.wp (d144 (o.aO aL) (ob.aO aL) uP RO hn0 hn hm MQ hb he pT) fun v2 h2 a2 b2 u2 ⟨q,e2,S⟩=>?_
 subst e2;repeat'(with_reducible first|simp(disch:=try exact ab) only[go_sem,seval]|(apply aj.i<;>intro hc))
 exact⟨⟨q,rfl,S⟩,aL⟩
end
end
end Go.Ae
set_option maxHeartbeats 8000000
namespace Go.Ae
open Bg N Go.Proofs Gj So
noncomputable section
section
variable {h h' h0 h1 hp:Hp}{K:AV→Hp→Prop}{tm:Ae.T AV}{v va vb vw s u:AV}{a r tt:Rat}{p T n z w i j k f c q q' e:Nat}{t t':Nat→Nat}{M E:Mt}{g:Nat→Rat}{o:Option cP}{l b:List (List UInt8)}{m:List (List (List UInt8))}{Q:Ex→St→Prop}{P:AV→Hp→Prop}
theorem NB (h0:mR m b=0):0<m.length∧m.length≤24∧(∀i,i<m.length→(ij m i).length=m.length∧∀k,k<m.length→fm (jj (ij m i) k)=0)∧b.length=m.length∧∀i,i<m.length→fm (jj b i)=0:=by
 unfold mR at h0;by_cases c0:m.length=0
 ·rw[if_pos c0]at h0;omega
 rw[if_neg c0]at h0;by_cases c1:24<m.length
 ·rw[if_pos c1]at h0;omega
 rw[if_neg c1]at h0;by_cases c2:te (iA m) m.length 0=0
 ·rw [if_neg (fun e=>e c2)]at h0;by_cases c3:b.length=m.length
  ·rw[if_neg (fun e=>e c3)]at h0;refine⟨by omega,by omega,fun i hi=>?_,c3,fun i hi=>nZ h0 i (by omega)⟩;have:=td c2 i (aJ _) (by omega);unfold iA at this;by_cases c4:(ij m i).length=m.length
   ·rw[if_neg (fun e=>e c4)]at this;exact⟨c4,fun k hk=>nZ this k (by omega)⟩
   ·rw[if_pos c4]at this;omega
  ·rw[if_pos c3]at h0;omega
 ·rw[if_pos c2]at h0;exact absurd h0 c2
theorem eb5 {n:Nat}(h0:0<n)(h:n≤5):eb (6*(n+1)+6) n≤7500:=by
 obtain rfl|rfl|rfl|rfl|rfl:n=1∨n=2∨n=3∨n=4∨n=5:=by omega
 all_goals decide
theorem Gj.Mb.less (hb:Mb e n (w+1) M):Mb e n w M:=fun i hi=>by
 obtain⟨d,f,h1,h2,h3⟩:=hb i hi;exact⟨d,f,h1,h2,fun k hk=>h3 k (by omega)⟩
theorem U9 (o:je h v m)(ob:jd h vb b):Gv EM 5 [v,vb] h (.bool true):=by
 refine Gv.of (ac.fn (fn:=Hf.a5) rfl rfl rfl ?_);unfold Hf.a5;have d17:∀{h:Hp} {K:AV→Hp→Prop},ac EM 17 [] h K↔K (.bool true) h:=fun{h K}=>up OM fun K=>PT fun K=>c17
 obtain⟨vs,rz⟩:=o.rz;have ln:=rz.len;have lnb:=ob.rz.len;by_cases c1:m.length≤30
 rotate_left
 ·have c1':(30:Int)<m.length:=by omega
  repeat'(with_reducible first|simp(disch:=try exact ab) only[go_sem,seval,d17,ln,c1']|(apply aj.i<;>intro hc))
  all_goals first|exact aL|exact⟨rfl,aL⟩
 have c1':¬(30:Int)<m.length:=by omega
 by_cases c2:b.length≤30
 rotate_left
 ·have uv:(30:Int)<b.length:=by omega
  repeat'(with_reducible first|simp(disch:=try exact ab) only[go_sem,seval,d17,ln,lnb,c1',uv]|(apply aj.i<;>intro hc))
  all_goals first|exact aL|exact⟨rfl,aL⟩
 have uv:¬(30:Int)<b.length:=by omega
 have f32:=fun h' (g:aH h h')=>d32 (o.aO g)
 have f33:=fun h' (g:aH h h')=>d33 (ob.aO g)
 by_cases c3:qP m
 rotate_left
 ·simp only[decide_eq_false c3]at f32;repeat'(with_reducible first|simp(disch:=try exact ab) only[go_sem,seval,d17,ln,lnb,c1',uv]|(refine Gv.wp (f32 _ aL) fun _ _ _ _=>?_)|(apply aj.i<;>intro hc))
  all_goals first|exact aL|exact⟨rfl,aL⟩
 simp only[decide_eq_true c3]at f32;by_cases c4:mc b
 rotate_left
 ·simp only[decide_eq_false c4]at f33;repeat'(with_reducible first|simp(disch:=try exact ab) only[go_sem,seval,d17,ln,lnb,c1',uv]|(refine Gv.wp (f32 _ aL) fun _ _ _ _=>?_)|(refine Gv.wp (f33 _ aL) fun _ _ _ _=>?_)|(apply aj.i<;>intro hc))
  all_goals first|exact aL|exact⟨rfl,aL⟩
 simp only[decide_eq_true c4]at f33
 have EU:∀i,i<m.length→(ij m i).length≤1000000∧∀j,j<(ij m i).length→(jj (ij m i) j).length≤1000000:=fun i hi=>
  ⟨by have:=(c3.2 i hi).1;omega,fun j hj=>by have:=(c3.2 i hi).2 j hj;omega⟩
 have hbl:b.length≤1000000∧∀j,j<b.length→(jj b j).length≤1000000:=⟨by omega,fun j hj=>by have:=c4.2 j hj;omega⟩
 have f34:=fun h' (g:aH h h')=>m3 (r34 (o.aO g) (ob.aO g) (fun i hi=>(EU i hi).2) hbl.2)
 by_cases c5:mR m b=0
 rotate_left
 ·obtain⟨y,hy⟩:∃y,mR m b=y:=⟨_,rfl⟩
  simp only[hy]at f34 c5;repeat'(with_reducible first|simp(disch:=try exact ab) only[go_sem,seval,d17,ln,lnb,c1',uv,c5]|(refine Gv.wp (f32 _ aL) fun _ _ _ _=>?_)|(refine Gv.wp (f33 _ aL) fun _ _ _ _=>?_)|(refine Gv.wp (f34 _ aL) fun _ _ _ _=>?_)|(apply aj.i<;>intro hc))
  refine Gp.wp (ZJ (c37 (o.aO aL) (ob.aO aL) EU hbl fun e=>absurd (hy.symm.trans e) c5)) fun v1 h1 a1 b1 u1 hor=>?_
  rcases hor with⟨_,e1⟩|⟨e1,_⟩
  ·rw[hy]at e1;subst e1;repeat'(with_reducible first|simp(disch:=try exact ab) only[go_sem,seval,d17,ln,lnb,c5]|(apply aj.i<;>intro hc))
   refine Gv.wp (Qt c5) fun h2 a2 b2 u2=>?_
   repeat'(with_reducible first|simp(disch:=try exact ab) only[go_sem,seval]|(apply aj.i<;>intro hc))
   all_goals first|exact aL|exact⟨rfl,aL⟩
  ·exact absurd (hy.symm.trans e1) c5
 simp only[c5]at f34;have f35:=fun h' (g:aH h h')=>m3 (r35 (o.aO g) (r:=5) (c:=5) (d:=6) (by decide) (by decide) (by decide))
 have f36:=fun h' (g:aH h h')=>m3 (ZE (ob.aO g) (n:=5) (d:=6) (by decide) (by decide))
 by_cases c6:BA m 5 5 6
 rotate_left
 ·simp only[decide_eq_false c6]at f35;repeat'(with_reducible first|simp(disch:=try exact ab) only[go_sem,seval,d17,ln,lnb,c1',uv]|(refine Gv.wp (f32 _ aL) fun _ _ _ _=>?_)|(refine Gv.wp (f33 _ aL) fun _ _ _ _=>?_)|(refine Gv.wp (f34 _ aL) fun _ _ _ _=>?_)|(refine Gv.wp (f35 _ aL) fun _ _ _ _=>?_)|(apply aj.i<;>intro hc))
  all_goals first|exact aL|exact⟨rfl,aL⟩
 simp only[decide_eq_true c6]at f35;by_cases c7:xp b 5 6
 rotate_left
 ·simp only[decide_eq_false c7]at f36;repeat'(with_reducible first|simp(disch:=try exact ab) only[go_sem,seval,d17,ln,lnb,c1',uv]|(refine Gv.wp (f32 _ aL) fun _ _ _ _=>?_)|(refine Gv.wp (f33 _ aL) fun _ _ _ _=>?_)|(refine Gv.wp (f34 _ aL) fun _ _ _ _=>?_)|(refine Gv.wp (f35 _ aL) fun _ _ _ _=>?_)|(refine Gv.wp (f36 _ aL) fun _ _ _ _=>?_)|(apply aj.i<;>intro hc))
  all_goals first|exact aL|exact⟨rfl,aL⟩
 simp only[decide_eq_true c7]at f36;obtain⟨z1,z2,z3,z4,z5⟩:=NB c5;have n5:m.length≤5:=c6.1;obtain⟨n,uP⟩:∃n,m.length=n:=⟨_,rfl⟩
 have sD:Mb (6*(n+1)+6) n (n+1) (ya m b):=fun i hi=>Rb.of (fun k hk=>by
  by_cases ck:k=m.length
  ·subst ck;rw[Fh];exact(MU (by decide) (c7.2 i (by omega))).2.2
  ·rw[L7 ck];exact(MU (by decide) ((c6.2 i (by omega)).2.2 k (by have:=(z3 i (by omega)).1;omega))).2.2) (by decide)
 have RJ:=eb5 (n:=n) (by omega) (by omega)
 have hm:∀i,i<n→(ij m i).length=n∧∀k,k<n→jj (ij m i) k=aX (ya m b i k):=fun i hi=>by
  obtain⟨y1,y2⟩:=z3 i (by omega);refine⟨by omega,fun k hk=>?_⟩;rw[L7 (by omega)];exact(lu (y2 k (by omega))).1
 have MQ:∀i,i<n→jj b i=aX (ya m b i n):=fun i hi=>by
  rw[←uP,Fh];exact(lu (z5 i (by omega))).1
 repeat'(with_reducible first|simp(disch:=try exact ab) only[go_sem,seval,d17,ln,lnb,c1',uv]|(refine Gv.wp (f32 _ aL) fun _ _ _ _=>?_)|(refine Gv.wp (f33 _ aL) fun _ _ _ _=>?_)|(refine Gv.wp (f34 _ aL) fun _ _ _ _=>?_)|(refine Gv.wp (f35 _ aL) fun _ _ _ _=>?_)|(refine Gv.wp (f36 _ aL) fun _ _ _ _=>?_)|(apply aj.i<;>intro hc))
 refine Gp.wp (ZJ (c37 (o.aO aL) (ob.aO aL) EU hbl fun e=>⟨_,by rw[uP];exact sD,by rw[uP];exact RJ⟩)) fun v1 h1 a1 b1 u1 hor=>?_
 rcases hor with⟨e1,_⟩|⟨_,hor⟩
 ·exact absurd c5 e1
 rw[uP]at hor;generalize ya m b=M at *
 rcases hor with⟨pT,rfl⟩|⟨E,pT,hor⟩
 ·repeat'(with_reducible first|simp(disch:=try exact ab) only[go_sem,seval]|(apply aj.i<;>intro hc))
  refine Gv.wp (WR (o.aO aL) uP (by omega) (by omega) hm sD.less RJ pT) fun h2 a2 b2 u2=>?_
  repeat'(with_reducible first|simp(disch:=try exact ab) only[go_sem,seval,WN]|(apply aj.i<;>intro hc))
  refine Gv.wp (Qt (e:=14) (by decide)) fun h3 a3 b3 u3=>?_
  repeat'(with_reducible first|simp(disch:=try exact ab) only[go_sem,seval]|(apply aj.i<;>intro hc))
  all_goals first|exact aL|exact⟨rfl,aL⟩
 ·have hE:=Dc sD (by omega) (ae _) pT;have hbE:∀k,k<n→Br 2000 (E k n):=fun k hk=>((hE k hk).db (cN _)).br (by omega)
  rcases hor with⟨no,rfl⟩|⟨ok,q,rfl,S⟩
  ·repeat'(with_reducible first|simp(disch:=try exact ab) only[go_sem,seval]|(apply aj.i<;>intro hc))
   refine Gp.wp (Sf (o.aO aL) (ob.aO aL) uP (by omega) (by omega) (by omega) hm MQ sD.less sD RJ pT) fun v2 h2 a2 b2 u2 ⟨q2,e2,S2⟩=>?_
   subst e2;repeat'(with_reducible first|simp(disch:=try exact ab) only[go_sem,seval,WN]|(apply aj.i<;>intro hc))
   refine Gv.wp (UI (S2.aO aL) (by omega) hbE no) fun h3 a3 b3 u3=>?_
   repeat'(with_reducible first|simp(disch:=try exact ab) only[go_sem,seval]|(apply aj.i<;>intro hc))
   all_goals first|exact aL|exact⟨rfl,aL⟩
  ·repeat'(with_reducible first|simp(disch:=try exact ab) only[go_sem,seval]|(apply aj.i<;>intro hc))
   refine Gp.wp (Sf (o.aO aL) (ob.aO aL) uP (by omega) (by omega) (by omega) hm MQ sD.less sD RJ pT) fun v2 h2 a2 b2 u2 ⟨q2,e2,S2⟩=>?_
   subst e2;repeat'(with_reducible first|simp(disch:=try exact ab) only[go_sem,seval,WN]|(apply aj.i<;>intro hc))
   refine Gv.wp (UH (S.aO aL) (S2.aO aL) (by omega) hbE ok) fun h3 a3 b3 u3=>?_
   repeat'(with_reducible first|simp(disch:=try exact ab) only[go_sem,seval]|(apply aj.i<;>intro hc))
   all_goals first|exact aL|exact⟨rfl,aL⟩
end
end
end Go.Ae
