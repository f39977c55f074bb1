/- Words: rows that are written in place; words that are shifted. -/
import Derived.Test.YtdaggbpeoldmeaaGreatDoorM5
open Iff renaming rfl → ax
open Int renaming lt_irrefl → fY, ofNat_lt → Ci, ofNat_le → nS, natAbs_mul → fu, natAbs_neg → sc, natCast_mul → ce
open List renaming getD → bQ, append_assoc → cW, getElem?_append_right → eP, getElem?_append_left → cB, length_map → aU, length_append → ar, replicate → av, map_replicate → gC, getElem?_replicate → nQ, take → fH, drop → gJ, take_length → bj, take_of_length_le → aP, length_take → az, getLast?_singleton → Dy, length_nil → aK, length_cons → ap, getD_cons_zero → de, drop_eq_getElem_cons → ey, drop_of_length_le → dN, drop_zero → eE, map_append → dT, append_nil → iK, drop_append_of_le_length → wD, drop_drop → eG, getElem?_take → gi, getElem?_drop → iW, length_drop → bP, take_append_drop → fD, map_cons → eH, all_eq_true → bV
open Nat renaming le_refl → ae, le_trans → aB, lt_of_lt_of_le → ah, le_succ_of_le → mW, add_sub_cancel_left → EK, pow_add → dm, sub_add_cancel → bT, pow_pos → dp, mul_mod_mul_right → uJ, mul_le_mul_right → aM, mod_lt → bq, div_lt_iff_lt_mul → df, mul_comm → aA, mul_div_mul_right → uK, mod_add_div → xW, add_mul → bh, mul_assoc → aF, mul_add → ay, add_assoc → dz, add_lt_add_left → xL, mul_zero → fW, add_zero → aY, pow_succ → aV, pow_le_pow_right → aT, eq_zero_or_pos → aE, lt_of_mul_lt_mul_right → lZ, add_sub_cancel → gS, div_add_mod → cE, mul_le_mul_left → aD, mul_pos → eY, lt_of_mul_lt_mul_left → mQ, mul_lt_mul_of_pos_left → gH, mul_one → dF, lt_or_ge → aQ, mul_le_mul → fG, mod_eq_of_lt → cH, min_eq_left → cD, lt_trans → Cc, mul_lt_mul_of_lt_of_lt → lW, mul_add_div → mV, div_eq_of_lt → iS, mul_add_mod → xV, div_le_self → jp, lt_trichotomy → mP, mul_lt_mul_of_pos_right → nP, lt_of_le_of_lt → gR, lt_succ_self → cN, gcd → eA, zero_add → dd, strongRecOn → sL
open Option renaming map_some → cJ
open Option.some renaming injEq → cq
open Rat renaming divInt → bD
set_option linter.unusedVariables false
set_option linter.unusedSimpArgs false
set_option maxRecDepth 100000
namespace Go.Ae
open Bg
noncomputable section
structure ig (t:Nat)(h h':Hp):Prop where
 next:h.next≤h'.next
 dc:h.dc≤h'.dc
 get:∀u,u<h.next→u≠t→h'.get u=h.get u
section
variable {h h' xg:Hp}{t u i x:Nat}{kd:IntKind}{v:AV}{l P W S:List Nat}{cs:List AV}
theorem ig.refl:ig t h h:=⟨ae _,ae _,fun _ _ _=>rfl⟩
theorem ig.trans (a:ig t h h')(b:ig t h' xg):ig t h xg:=⟨aB a.next b.next,aB a.dc b.dc,fun u hu hn=>(b.get u (ah hu a.next) hn).trans (a.get u hu hn)⟩
theorem ig.put {f:Nat→cP}(a:ig t h h'):ig t h (h'.put t f):=⟨a.next,mW a.dc,fun u hu hn=>(Hp.eW hn).trans (a.get u hu hn)⟩
theorem ig.of (g:aH h h'):ig t h h':=⟨g.next,g.dc,fun u hu _=>g.get hu⟩
theorem ig.aO (a:ig t h' xg)(g:aH h h')(ht:h.next≤t):aH h xg:=by
 have h1:=g.next;have h2:=g.dc;have h3:=a.next;have h4:=a.dc;exact⟨xg.next-h.next,xg.dc-h.dc,by omega,by omega,fun u hu=>(a.get u (by omega) (by omega)).trans (g.get hu)⟩
theorem Sq.kQ (s:Sq kd h v l)(c:ig t h h')(hn:iE v≠t):Sq kd h' v l:=by
 rcases s with s|⟨u,o,own,st,L,rfl,hg,h1,h2,h3,h4⟩
 ·exact .inl s
 ·exact .inr ⟨u,o,own,st,L,rfl,(c.get u h3 hn).trans hg,h1,h2,ah h3 c.next,aB h4 c.dc⟩
theorem bG.kQ (a:bG h u cs)(c:ig t h h')(hn:u≠t):bG h' u cs:=by
 obtain⟨st,hg,hs,ht⟩:=a;exact⟨st,(c.get u ht hn).trans hg,aB hs c.dc,ah ht c.next⟩
theorem Fi (hi:i<W.length):(P++W++S).getD (P.length+i) 0=W.getD i 0:=by
 simp only[bQ];rw[cW,eP (by omega),EK,cB hi]
theorem Ck (hi:i<W.length):(P++W++S).set (P.length+i) x=P++W.set i x++S:=by
 rw[cW,List.set_append_right _ _ (by omega),EK,List.set_append_left _ _ hi,cW]
theorem bG.MG (a:bG h t ((P++W++S).map (wd .u64)))(hi:i<W.length):∀h' K,fU false 1 (P.length+i) (h.get t) h' K↔K (.int .u64 (W.getD i 0:Nat)) h':=by
 obtain⟨st,hg,hs,ht⟩:=a;intro h' K;rw[hg,fU.row,if_pos (by simp only[aU,ar];omega),if_neg (by decide),jx (by simp only[ar];omega),Fi hi];exact ax
theorem bG.Qa (a:bG h t ((P++W++S).map (wd .u64)))(hi:i<W.length):∀(x:Nat) h' K,fb 1 t (P.length+i) (.int .u64 (x:Int)) (h.get t) h' K↔K jC (h'.put t fun st=> .row ((P++W.set i x++S).map (wd .u64)) true st):=by
 obtain⟨st,hg,hs,ht⟩:=a;intro x h' K;rw[hg,fb.row]
 have e:dU ((P++W++S).map (wd .u64)) (P.length+i) (AV.cells (.int .u64 (x:Int)))=(P++W.set i x++S).map (wd .u64):=by
  rw[←Ck hi,←iX (by simp only[ar];omega)];rfl
 rw[e];constructor
 ·exact fun hk=>hk.2.2.2
 ·exact fun hk=>⟨rfl,by simp only[aU,ar];omega,rfl,hk⟩
theorem bG.U5 (a:bG h t (W.map (wd .u64)))(hi:i<W.length):∀h' K,fU false 1 i (h.get t) h' K↔K (.int .u64 (W.getD i 0:Nat)) h':=by
 have:=bG.MG (P:=[]) (W:=W) (S:=[]) (i:=i) (by simpa using a) hi;simpa using this
theorem bG.ND (a:bG h t (W.map (wd .u64)))(hi:i<W.length):∀(x:Nat) h' K,fb 1 t i (.int .u64 (x:Int)) (h.get t) h' K↔K jC (h'.put t fun st=> .row ((W.set i x).map (wd .u64)) true st):=by
 have:=bG.Qa (P:=[]) (W:=W) (S:=[]) (i:=i) (by simpa using a) hi;simpa using this
theorem bG.MF (a:bG h t (W.map (wd .i64)))(hi:i<W.length):∀h' K,fU false 1 i (h.get t) h' K↔K (.int .i64 (W.getD i 0:Nat)) h':=by
 obtain⟨st,hg,hs,ht⟩:=a;intro h' K;rw[hg,fU.row,if_pos (by simp only[aU];omega),if_neg (by decide),jx hi];exact ax
theorem bG.vA (a:bG h t (W.map (wd .i64)))(hi:i<W.length):∀(x:Nat) h' K,fb 1 t i (.int .i64 (x:Int)) (h.get t) h' K↔K jC (h'.put t fun st=> .row ((W.set i x).map (wd .i64)) true st):=by
 obtain⟨st,hg,hs,ht⟩:=a;intro x h' K;rw[hg,fb.row]
 have e:dU (W.map (wd .i64)) i (AV.cells (.int .i64 (x:Int)))=(W.set i x).map (wd .i64):=by
  rw[←iX hi];rfl
 rw[e];constructor
 ·exact fun hk=>hk.2.2.2
 ·exact fun hk=>⟨rfl,by simp only[aU];omega,rfl,hk⟩
theorem bG.old (a:bG h t cs):∀c0,h.dc≤c0→lR (h.get t) c0=true:=by
 obtain⟨st,hg,hs,ht⟩:=a;intro c0 hc;rw[hg];exact lR.row (aB hs hc)
theorem bG.lt (a:bG h t cs):t<h.next:=a.choose_spec.2.2
end
theorem Nb {q:mO}{a b c n:Nat}(ha:a<2^n)(hb:b=c*2^n)(hs:b+a<18446744073709551616):dH .or q (.int .u64 a) (.int .u64 b)=some (.int .u64 ((b+a:Nat):Int)):=by
 rw[←Nc (q:=q) hb ha hs,Is,Is,BitVec.or_comm]
theorem Jv {x s:Nat}(hs:s≤64)(hx:x<18446744073709551616):x*2^s%18446744073709551616=(x%2^(64-s))*2^s∧x*2^s%18446744073709551616+2^s≤18446744073709551616∧x/2^(64-s)<2^s∧x*2^s%18446744073709551616+18446744073709551616*(x/2^(64-s))=x*2^s:=by
 have hB:2^(64-s)*2^s=18446744073709551616:=by rw[←dm,bT hs]
 have hp:0<2^(64-s):=dp (by decide);have e1:x*2^s%18446744073709551616=(x%2^(64-s))*2^s:=by rw[←hB,uJ]
 refine⟨e1,?_,?_,?_⟩
 ·rw[e1,←hB];have:=aM (2^s) (bq x hp);rwa[Nat.succ_mul]at this
 ·rw[df hp,aA,hB];exact hx
 ·have h1:x/2^(64-s)=x*2^s/18446744073709551616:=by
   rw[←hB,uK _ _ (dp (by decide))]
  rw[h1];exact xW _ _
theorem FO {P B V X lo hi x p:Nat}(hV:V=X*p)(h:lo+B*hi=x*p):V+P*lo+P*B*hi=(X+P*x)*p:=by
 rw[hV,bh,aF P x,←h,ay,aF,dz]
section
variable {h:Hp}{K:AV→Hp→Prop}
theorem Sv {va:AV}{x:List Nat}{s:Nat}(hx:Sq .u64 h va x)(dx:Dg 18446744073709551616 x)(hl:x.length≤1000000)(hs:s≤63):
  Gp E2 302 [va,.int .i64 s] h fun v h'=>∃l t,v= .sl t 0 (x.length+1) 1∧bG h' t (l.map (wd .u64))∧h.next≤t∧l.length=x.length+1∧Dg 18446744073709551616 l∧vl 18446744073709551616 l=vl 18446744073709551616 x*2^s:=by
 refine Gp.of (ac.fn (fn:=C.KT) rfl rfl rfl ?_);unfold C.KT;have lx:=hx.rd.len;have mk:=fun{h:Hp} {K:AV→Hp→Prop}=>mU.JZ (h:=h) (K:=K) (b:=8) (z:= .int .u64 0) (m:=(x.length:Int)+1) (x.length+1) rfl rfl (by omega)
 repeat'(with_reducible first|simp(disch:=try exact ab) only[go_sem,seval,lx,mk]|(apply aj.i<;>intro hc))
 have hz:(av (x.length+1) (AV.int .u64 0))=(av (x.length+1) 0).map (wd .u64):=by rw[gC];rfl
 rw[hz]
 refine Wp.bW (fun m s'=>∃(i:Nat) (out:List Nat),val s'.tm (.t 1)= .int .i64 s∧val s'.tm (.t 5)= .sl h.next 0 (x.length+1) 1∧val s'.tm (.t 12)=va∧val s'.tm (.t 13)= .int .i64 x.length∧val s'.tm (.t 14)= .int .i64 i∧
  aH h s'.hp∧bG s'.hp h.next (out.map (wd .u64))∧out.length=x.length+1∧Dg 18446744073709551616 out∧i≤x.length∧vl 18446744073709551616 out=vl 18446744073709551616 (x.take i)*2^s∧(∀k,i<k→out.getD k 0=0)∧out.getD i 0<2^s∧x.length-i=m) (n:=x.length) ?_ ?_
 ·refine⟨0,av (x.length+1) 0,aS,aS,aS,aS,by(simp(disch:=try exact ab) only[go_sem,seval])<;>rfl,?_,?_,by simp,Dg.oV (by decide) _,by omega,by simp[vl,nc],?_,?_,rfl⟩
  ·exact aL
  ·exact bG.push
  ·intro k _;simp only[bQ,nQ];split<;>rfl
  ·simp only[bQ,nQ];rw[if_pos (by omega)];exact dp (by decide)
 ·rintro m ⟨tm,hp⟩ ⟨i,out,h1,h5,h12,h13,h14,hG,⟨st,hgo,Ow,hnx⟩,hlo,hd,hle,hinv,hzero,Hs,rfl⟩;simp only at h1 h5 h12 h13 h14 hG hgo Ow hnx;by_cases hlt:i<x.length
  ·have hlt':(i:Int)<x.length:=by omega
   have rx:=(hx.aO hG).rd;have adx:=rx.jn;have mX:=rx.load i hlt;have hxd:=Dg.getD (B:=18446744073709551616) (by decide) dx i;have tkx:=bg (B:=18446744073709551616) hlt;have sD:i+1≤out.length:=by omega
   have RP:i+1+1≤out.length:=by omega
   have TY:(out.map (wd .u64))[i]?=some (.int .u64 (out.getD i 0:Nat)):=jx (by omega);have mr:∀r:Nat,fH i (out.map (wd .u64))++ .int .u64 (r:Int)::gJ (i+1) (out.map (wd .u64))=(out.set i r).map (wd .u64):=fun r=>iX (by omega)
   have hset2:∀r r':Nat,fH (i+1) ((out.set i r).map (wd .u64))++ .int .u64 (r':Int)::gJ (i+1+1) ((out.set i r).map (wd .u64))=((out.set i r).set (i+1) r').map (wd .u64):=fun r r'=>iX (by simp;omega)
   have hij:(((i:Int)+1)).toNat=i+1:=by omega
   have h64:(64:Int)-s=((64-s:Nat):Int):=by omega
   have MI:=hzero (i+1) (by omega);generalize x.getD i 0=xi at *
   have DZ:=fun r=>pk (B:=18446744073709551616) (l:=out) (i:=i) (x:=r) (by omega)
   have VI:=fun r r'=>pk (B:=18446744073709551616) (l:=out.set i r) (i:=i+1) (x:=r') (by simp;omega)
   have RG:∀r,(out.set i r).getD (i+1) 0=0:=fun r=>by rw[Bg.getD_set_ne (by omega),MI]
   obtain⟨o1,o2,o3,o4⟩:=Jv (x:=xi) (s:=s) (by omega) hxd;have sl1:=fun q k'=>uy (q:=q) (k':=k') (m:=xi) (n:=s) (by omega)
   have Zz:=fun q k'=>sK (q:=q) (k':=k') (m:=xi) (n:=64-s) (by omega)
   generalize hoi:out.getD i 0=oi at *
   have hor:=fun q=>Nb (q:=q) (a:=oi) (b:=xi*2^s%18446744073709551616) Hs o1 (ah (xL Hs _) o2)
   have hlB:xi*2^s%18446744073709551616+oi<18446744073709551616:=ah (xL Hs _) o2;obtain⟨low,hlow⟩:∃low,low=xi*2^s%18446744073709551616:=⟨_,rfl⟩
   obtain⟨high,MP⟩:∃high,high=xi/2^(64-s):=⟨_,rfl⟩
   rw[←hlow]at hor sl1 o4 hlB;rw[←MP]at Zz o3 o4
   have fin:vl 18446744073709551616 ((out.set i (low+oi)).set (i+1) high)=vl 18446744073709551616 (x.take (i+1))*2^s:=by
    have e1:=DZ (low+oi);have e2:=VI (low+oi) high;rw[RG,fW,aY]at e2;rw[ay]at e1;rw[e2,tkx,←FO hinv o4,aV];omega
   clear hlow MP o1 o2 o4;by_cases hs0:0<s
   ·have hs0':(0:Int)<s:=by omega
    have hh:high<18446744073709551616:=ah o3 (show 2^s≤2^64 from aT (by decide) (by omega));repeat'(with_reducible first|simp(disch:=try exact ab) only[go_sem,seval,h1,h5,h12,h13,h14,hlt',adx,mX,hgo,TY,sD,RP,mr,hset2,hij,h64,sl1,Zz,hor,hs0']|(apply aj.i<;>intro hc))
    refine⟨_,?_,i+1,(out.set i (low+oi)).set (i+1) high,rfl,?_,?_,?_,?_,hlt,fin,?_,?_,rfl⟩
    ·omega
    ·exact aL
    ·exact bG.put hnx
    ·simpa using hlo
    ·exact(hd.set _ hlB).set _ hh
    ·intro k hk;rw[Bg.getD_set_ne (by omega),Bg.getD_set_ne (by omega)];exact hzero k (by omega)
    ·rw[Bg.qu (by simp;omega)];exact o3
   ·obtain rfl:s=0:=by omega
    have hs0':¬(0:Int)<((0:Nat):Int):=by omega
    have h00:high=0:=by rw[Nat.pow_zero]at o3;omega
    have hsame:(out.set i (low+oi)).set (i+1) high=out.set i (low+oi):=by
     rw[h00];apply List.ext_getElem?;intro k;rw[List.getElem?_set];split
     ·rename_i hk;subst hk;rw[if_pos (by simp;omega),List.getElem?_set_ne (by omega),List.getElem?_eq_getElem (by omega)];rw[←MI,getD_eq (by omega)]
     ·rfl
    rw[hsame]at fin;have e0:((0:Nat):Int)=0:=rfl;rw[e0]at h1;have Qc:=fun q k'=>sl1 q k'
    simp only[e0]at Qc;repeat'(with_reducible first|simp(disch:=try exact ab) only[go_sem,seval,h1,h5,h12,h13,h14,hlt',adx,mX,hgo,TY,sD,RP,mr,hset2,hij,Qc,hor,fY]|(apply aj.i<;>intro hc))
    refine⟨_,?_,i+1,out.set i (low+oi),rfl,?_,?_,?_,?_,hlt,by simpa using fin,?_,?_,rfl⟩
    ·omega
    ·exact aL
    ·exact bG.put hnx
    ·simpa using hlo
    ·exact hd.set _ hlB
    ·intro k hk;rw[Bg.getD_set_ne (by omega)];exact hzero k (by omega)
    ·rw[Bg.getD_set_ne (by omega),MI];decide
  ·have hlt':¬(i:Int)<x.length:=by omega
   obtain rfl:i=x.length:=by omega
   repeat'(with_reducible first|simp(disch:=try exact ab) only[go_sem,seval,h1,h5,h12,h13,h14,hlt']|(apply aj.i<;>intro hc))
   refine⟨⟨out,h.next,rfl,⟨st,hgo,Ow,hnx⟩,ae _,hlo,hd,?_⟩,hG⟩;rw[hinv,bj]
end
end
end Go.Ae
namespace Go.Ae.Bg
structure xJ (v1 U Q q r:Nat):Prop where
 rest:U=q*v1+r
 ge:Q≤q
variable {b B v1 v0 U u Q q r:Nat}
theorem xJ.down (e:xJ v1 U Q q r)(hQ:Q*(v1*b+v0)≤U*b+u)(h:b*r+u<q*v0):1≤q∧xJ v1 U Q (q-1) (r+v1):=by
 have hq:1≤q:=by
  rcases aE q with h0|h0
  ·subst h0;simp at h
  ·exact h0
 have e1:q*(v1*b+v0)=q*v1*b+q*v0:=by rw[ay,aF]
 have e2:U*b=q*v1*b+r*b:=by rw[e.rest,bh]
 have e3:b*r=r*b:=aA _ _;have e4:Q*(v1*b+v0)<q*(v1*b+v0):=by omega
 have e5:=lZ e4;obtain⟨p,rfl⟩:∃p,q=p+1:=⟨q-1,by omega⟩
 refine⟨hq,?_,by omega⟩;have:=e.rest;rw[bh]at this;rw[gS];omega
theorem xJ.ok (e:xJ v1 U Q q r)(h:q*v0≤b*r+u):q*(v1*b+v0)≤U*b+u:=by
 have e1:q*(v1*b+v0)=q*v1*b+q*v0:=by rw[ay,aF]
 have e2:U*b=q*v1*b+r*b:=by rw[e.rest,bh]
 have e3:b*r=r*b:=aA _ _;omega
theorem xJ.first (hv1:0<v1)(hu:u<b)(hQ:Q*(v1*b+v0)≤U*b+u):xJ v1 U Q (U/v1) (U%v1):=by
 refine⟨by rw[aA];exact(cE U v1).symm,?_⟩;rw[Nat.le_div_iff_mul_le hv1];have e1:Q*(v1*b+v0)=Q*v1*b+Q*v0:=by rw[ay,aF]
 have e2:(Q*v1)*b<(U+1)*b:=by rw[bh];omega
 have:=lZ e2;omega
theorem vT {p v W vlow wlow V2 U3:Nat}(hv:v=vlow+p*V2)(hW:W=wlow+p*U3)(hvl:vlow<p)(hwl:wlow<p)(hV2:V2=v1*B+v0)(hU3:U3=U*B+u)(hv1:0<v1)(hB:0<B)(hlt:W<B*v):
  W/v*V2≤U3∧(∀q,q<B→q*V2≤U3→q≤W/v+1)∧U≤V2∧0<v∧W/v<B:=by
 have hV:B≤V2:=by
  have:=aM B hv1;omega
 have hpV:p*B≤p*V2:=aD _ hV;have hpB:0<p*B:=eY (by omega) hB;have hvp:0<v:=by omega
 refine⟨?_,?_,?_,hvp,?_⟩
 ·have h1:W/v*v≤W:=Nat.div_mul_le_self W v;have h2:W/v*(p*V2)≤W/v*v:=aD _ (by omega);have h3:W/v*(p*V2)=p*(W/v*V2):=by ac_rfl
  have h4:p*(W/v*V2)<p*(U3+1):=by rw[ay];omega
  have:=mQ h4;omega
 ·intro q hq hle;have h1:q*vlow≤B*vlow:=aM _ (by omega);have h2:B*vlow<B*p:=gH hvl hB;have h3:B*p=p*B:=aA _ _;have h4:p*(q*V2)≤p*U3:=aD _ hle;have h5:q*v=q*vlow+p*(q*V2):=by rw[hv,ay];congr 1;ac_rfl
  have h6:=cE W v;have h7:=bq W hvp
  have h8:q*v<(W/v+2)*v:=by
   rw[bh,aA (W/v)];omega
  have:=lZ h8;omega
 ·have h1:p*(U*B)≤p*U3:=aD _ (by omega);have h2:B*vlow<B*p:=gH hvl hB;have h3:B*v=B*vlow+B*(p*V2):=by rw[hv,ay]
  have h4:p*(U*B)=(p*B)*U:=by ac_rfl
  have h5:B*(p*V2)=(p*B)*V2:=by ac_rfl
  have h6:(p*B)*U<(p*B)*(V2+1):=by rw[ay,dF,aA p B];rw[aA p B]at h4 h5;omega
  have:=mQ h6;omega
 ·rw[df hvp];exact hlt
theorem P8 {l:List Nat}(h:2≤l.length):vl B l=vl B (l.take (l.length-2))+B^(l.length-2)*(l.getD (l.length-1) 0*B+l.getD (l.length-2) 0):=by
 have h1:=bg (B:=B) (l:=l) (i:=l.length-2) (by omega);have h2:=bg (B:=B) (l:=l) (i:=l.length-1) (by omega);rw[show l.length-2+1=l.length-1 by omega]at h1;rw[show l.length-1+1=l.length by omega,bj]at h2;rw[h2,h1,ay,show B^(l.length-1)=B^(l.length-2)*B by rw[←aV];congr 1;omega];have:B^(l.length-2)*B*l.getD (l.length-1) 0=B^(l.length-2)*(l.getD (l.length-1) 0*B):=by ac_rfl
 omega
theorem P7 {W:List Nat}{n:Nat}(hn:2≤n)(hW:W.length=n+1):vl B W=vl B (W.take (n-2))+B^(n-2)*((W.getD n 0*B+W.getD (n-1) 0)*B+W.getD (n-2) 0):=by
 have h1:=bg (B:=B) (l:=W) (i:=n-2) (by omega);have h2:=bg (B:=B) (l:=W) (i:=n-1) (by omega);have h3:=bg (B:=B) (l:=W) (i:=n) (by omega);rw[show n-2+1=n-1 by omega]at h1;rw[show n-1+1=n by omega]at h2;rw[←hW,bj]at h3;rw[h3,h2,h1,ay];have e1:B^(n-1)=B^(n-2)*B:=by rw[←aV];congr 1;omega
 have e2:B^n=B^(n-2)*B*B:=by rw[←aV,←aV];congr 1;omega
 rw[e1,e2]
 have:B^(n-2)*B*B*W.getD n 0+B^(n-2)*B*W.getD (n-1) 0=B^(n-2)*((W.getD n 0*B+W.getD (n-1) 0)*B):=by
  rw[bh,ay];congr 1<;>ac_rfl
 omega
end Go.Ae.Bg
namespace Go.Ae.Bg
variable {b B v1 v0 U u Q q r:Nat}
theorem xJ.R8 (e:xJ v1 U Q q r)(hQ:Q<b)(hq:b≤q):1≤q∧xJ v1 U Q (q-1) (r+v1):=by
 obtain⟨p,rfl⟩:∃p,q=p+1:=⟨q-1,by omega⟩
 refine⟨by omega,?_,by omega⟩;have:=e.rest;rw[bh]at this;rw[gS];omega
theorem xJ.tT (e:xJ v1 U Q q r)(xR:v0<b)(hU:U≤v1*b+v0)(hr:b≤r):q<b∧q*v0≤b*r+u:=by
 have hq:q<b:=by
  rcases aQ q b with c|c
  ·exact c
  ·have h1:b*v1≤q*v1:=aM _ c;have:=e.rest;rw[aA v1 b]at hU;omega
 refine⟨hq,?_⟩;have h1:q*v0≤b*b:=fG (by omega) (by omega);have h2:b*b≤b*r:=aD _ hr;omega
end Go.Ae.Bg
namespace Go.Ae
open Bg
noncomputable section
theorem Cq {B x y b:Nat}(hx:x<B)(hy:y<B)(hb:b≤1):(x+B-y-b)%B+y+b=x+B*(if x<y+b then 1 else 0):=by
 split
 ·rw[cH (by omega)];omega
 ·have:x+B-y-b=(x-y-b)+B:=by omega
  rw[this,Nat.add_mod_right,cH (by omega)];omega
theorem GR {p c:Nat}(hp:p≤18446744073709551615*18446744073709551615)(hc:c<18446744073709551616):
  p/18446744073709551616+(p%18446744073709551616+c)/18446744073709551616<18446744073709551616∧(p%18446744073709551616+c)%18446744073709551616+18446744073709551616*(p/18446744073709551616+(p%18446744073709551616+c)/18446744073709551616)=p+c:=by omega
theorem JQ {P B X q V W bo ca r l x v Im Ih:Nat}(h:X+q*V=W+P*(bo+ca))(hr:r+l+bo=x+B*Im)(hl:l+B*Ih=q*v+ca):
  X+P*r+q*(V+P*v)=W+P*x+P*B*(Im+Ih):=by
 have e1:P*(r+l+bo)=P*(x+B*Im):=by rw[hr]
 have e2:P*(l+B*Ih)=P*(q*v+ca):=by rw[hl]
 have e3:q*(P*v)=P*(q*v):=by ac_rfl
 rw[ay,ay,ay,←aF]at e1;rw[ay,ay,←aF]at e2;rw[ay,ay,e3];rw[ay]at h;omega
section
variable {h hp:Hp}{K:AV→Hp→Prop}{tm:T AV}{t:Nat}{wv:AV}{v P S:List Nat}
theorem FJ {X0:List Nat}{Q R:Nat}(h0:val tm (.t 0)= .sl t P.length (v.length+1) 1)(h1:val tm (.t 1)=wv)(h5:val tm (.t 5)= .int .i64 v.length)(h6:val tm (.t 6)= .int .u64 ((Q+1:Nat):Int))
  (c:ig t h hp) (hv:Sq .u64 h wv v) (hne:iE wv≠t) (hA:bG hp t ((P++X0++S).map (wd .u64))) (hX:X0.length=v.length+1) (dX:Dg 18446744073709551616 X0) (dv:Dg 18446744073709551616 v) (hl:v.length≤1000000) (hQ:Q+1<18446744073709551616)
  (heq:vl 18446744073709551616 X0+vl 18446744073709551616 v=R+18446744073709551616^(v.length+1)) (hR:R<18446744073709551616^(v.length+1))
  (hk:∀h' W',ig t h h'→bG h' t ((P++W'++S).map (wd .u64))→W'.length=v.length+1→Dg 18446744073709551616 W'→vl 18446744073709551616 W'=R→K (.int .u64 (Q:Nat)) h'):
  Wp E2 (((C.rD.code.post 5).post 1).post 4) ⟨tm,hp⟩ (gy [.tmp 4] K):=by
 unfold C.rD;dsimp only[au.post];repeat'(with_reducible first|simp(disch:=try exact ab) only[go_sem,seval,h5]|(apply aj.i<;>intro hc))
 refine Wp.bW (fun m s'=>∃(i cc:Nat) (X:List Nat),val s'.tm (.t 0)= .sl t P.length (v.length+1) 1∧val s'.tm (.t 1)=wv∧val s'.tm (.t 5)= .int .i64 v.length∧val s'.tm (.t 6)= .int .u64 ((Q+1:Nat):Int)∧val s'.tm (.t 17)= .int .u64 cc∧val s'.tm (.t 156)= .int .i64 v.length∧val s'.tm (.t 157)= .int .i64 i∧
  ig t h s'.hp∧bG s'.hp t ((P++X++S).map (wd .u64))∧X.length=v.length+1∧Dg 18446744073709551616 X∧cc≤1∧i≤v.length∧vl 18446744073709551616 (X.take i)+18446744073709551616^i*cc=vl 18446744073709551616 (X0.take i)+vl 18446744073709551616 (v.take i)∧(∀k,i≤k→X.getD k 0=X0.getD k 0)∧v.length-i=m) (n:=v.length) ?_ ?_
 ·exact⟨0,0,X0,by simp(disch:=try exact ab) only[go_sem,seval,h0],by simp(disch:=try exact ab) only[go_sem,seval,h1],by simp(disch:=try exact ab) only[go_sem,seval,h5],by simp(disch:=try exact ab) only[go_sem,seval,h6],by(simp(disch:=try exact ab) only[go_sem,seval])<;>rfl,aS,by(simp(disch:=try exact ab) only[go_sem,seval])<;>rfl,c,hA,hX,dX,by omega,by omega,by simp[vl],fun _ _=>rfl,rfl⟩
 ·rintro m ⟨tm,hp⟩ ⟨i,cc,X,h0,h1,h5,h6,RR,OL,OK,c,hA,hX,dX,Hz,hle,hinv,hsame,rfl⟩;simp only at h0 h1 h5 h6 RR OL OK c hA;by_cases hlt:i<v.length
  ·have hlt':(i:Int)<v.length:=by omega
   have rv:=(hv.kQ c hne).rd;have adv:=rv.jn;have ldv:=rv.load i hlt;have ov:=rv.old (by omega);have ld:=hA.MG (i:=i) (by omega);have sw:=hA.Qa (i:=i) (by omega);have od:=hA.old;have hnx:=hA.lt;have hs:=hsame i (ae _);have Av:=bg (B:=18446744073709551616) (l:=X0) (i:=i) (by omega);have tkv:=bg (B:=18446744073709551616) hlt;have hxd:=Dg.getD (B:=18446744073709551616) (by decide) dX i
   have hvd:=Dg.getD (B:=18446744073709551616) (by decide) dv i;rw[←hs]at Av
   have fin:∀s,s=X.getD i 0+v.getD i 0+cc→vl 18446744073709551616 ((X.set i (s%18446744073709551616)).take (i+1))+18446744073709551616^(i+1)*(s/18446744073709551616)=vl 18446744073709551616 (X0.take (i+1))+vl 18446744073709551616 (v.take (i+1)):=by
    intro s hs';rw[fp (by omega),Av,tkv,aV];exact Af hinv hs'
   generalize X.getD i 0=xi at *
   generalize v.getD i 0=vi at *
   repeat'(with_reducible first|simp(disch:=try exact ab) only[go_sem,seval,h0,h1,h5,h6,RR,OL,OK,hlt',adv,ldv,ov,ld,sw,od,KH]|(apply aj.i<;>intro hc))
   refine⟨_,?_,i+1,(xi+vi+cc)/18446744073709551616,X.set i ((xi+vi+cc)%18446744073709551616),by simp,rfl,c.put,bG.put hnx,by simpa using hX,dX.set _ (bq _ (by decide)),by omega,hlt,fin _ rfl,?_,rfl⟩
   ·omega
   ·intro k hk;rw[Bg.getD_set_ne (by omega)];exact hsame k (by omega)
  ·have hlt':¬(i:Int)<v.length:=by omega
   obtain rfl:i=v.length:=by omega
   have ld:=hA.MG (i:=v.length) (by omega);have sw:=hA.Qa (i:=v.length) (by omega);have hnx:=hA.lt;have hs:=hsame v.length (ae _);have Av:=bg (B:=18446744073709551616) (l:=X0) (i:=v.length) (by omega);have hxd:=Dg.getD (B:=18446744073709551616) (by decide) dX v.length;rw[←hs,←hX,aP (by omega)]at Av
   have fin:=fp (B:=18446744073709551616) (l:=X) (i:=v.length) (x:=(X.getD v.length 0+cc)%18446744073709551616) (by omega);rw[←hX,aP (by simp)]at fin;have dfin:=dX.set v.length (x:=(X.getD v.length 0+cc)%18446744073709551616) (bq _ (by decide));have Hr:=gI (B:=18446744073709551616) (by decide) dfin;rw[List.length_set,hX]at Hr;generalize X.getD v.length 0=xn at *
   have hw:IntKind.wrap .u64 ((xn:Int)+cc)=((xn+cc)%18446744073709551616:Nat):=by simp only[IntKind.wrap_u64];omega
   have hq:IntKind.wrap .u64 (((Q+1:Nat):Int)-1)=Q:=by simp only[IntKind.wrap_u64];omega
   repeat'(with_reducible first|simp(disch:=try exact ab) only[go_sem,seval,h0,h1,h5,h6,RR,OL,OK,hlt',ld,sw,hw,hq]|(apply aj.i<;>intro hc))
   refine hk _ _ c.put (bG.put hnx) (by simpa using hX) dfin ?_;rw[bj]at hinv
   have e1:18446744073709551616^v.length*((xn+cc)%18446744073709551616)+18446744073709551616^(v.length+1)*((xn+cc)/18446744073709551616)=18446744073709551616^v.length*xn+18446744073709551616^v.length*cc:=by
    rw[aV,aF,←ay,←ay];congr 1;omega
   have hd:(xn+cc)/18446744073709551616≤1:=by omega
   generalize (xn+cc)/18446744073709551616=d at *
   generalize (xn+cc)%18446744073709551616=e at *
   generalize 18446744073709551616^v.length=p at *
   rcases aE d with h0|h0
   ·subst h0;omega
   ·obtain rfl:d=1:=by omega
    omega
theorem Jo {W:List Nat}{q Q:Nat}(h0:val tm (.t 0)= .sl t P.length (v.length+1) 1)(h1:val tm (.t 1)=wv)(h5:val tm (.t 5)= .int .i64 v.length)(h6:val tm (.t 6)= .int .u64 (q:Nat))
  (c:ig t h hp) (hv:Sq .u64 h wv v) (hne:iE wv≠t) (hA:bG hp t ((P++W++S).map (wd .u64))) (hW:W.length=v.length+1) (dW:Dg 18446744073709551616 W) (dv:Dg 18446744073709551616 v) (hl:v.length≤1000000) (hq:q<18446744073709551616) (xR:0<vl 18446744073709551616 v)
  (hQ:vl 18446744073709551616 W/vl 18446744073709551616 v=Q) (hQ1:Q≤q) (hQ2:q≤Q+1)
  (hk:∀h' W',ig t h h'→bG h' t ((P++W'++S).map (wd .u64))→W'.length=v.length+1→Dg 18446744073709551616 W'→vl 18446744073709551616 W'=vl 18446744073709551616 W%vl 18446744073709551616 v→K (.int .u64 (Q:Nat)) h'):
  Wp E2 ((C.rD.code.post 5).post 1) ⟨tm,hp⟩ (gy [.tmp 4] K):=by
 have tail:=fun(tm:T AV) (hp:Hp) X0 h0 h1 h5 h6 c hA hX dX hQ heq hR=>FJ (h:=h) (hp:=hp) (K:=K) (tm:=tm) (t:=t) (wv:=wv) (v:=v) (P:=P) (S:=S) (X0:=X0) (Q:=Q) (R:=vl 18446744073709551616 W%vl 18446744073709551616 v) h0 h1 h5 h6 c hv hne hA hX dX dv hl hQ heq hR hk
 refine Wp.cut 4 rfl ?_;generalize au.post 4 (au.post 1 (au.post 5 C.rD.code))=r at tail⊢
 unfold C.rD;dsimp only[au.post,au.pre];repeat'(with_reducible first|simp(disch:=try exact ab) only[go_sem,seval,h5]|(apply aj.i<;>intro hc))
 refine Wp.bW (fun m s'=>∃(i bo ca:Nat) (X:List Nat),val s'.tm (.t 0)= .sl t P.length (v.length+1) 1∧val s'.tm (.t 1)=wv∧val s'.tm (.t 5)= .int .i64 v.length∧val s'.tm (.t 6)= .int .u64 (q:Nat)∧val s'.tm (.t 11)= .int .u64 bo∧val s'.tm (.t 12)= .int .u64 ca∧val s'.tm (.t 104)= .int .i64 v.length∧val s'.tm (.t 105)= .int .i64 i∧
  ig t h s'.hp∧bG s'.hp t ((P++X++S).map (wd .u64))∧X.length=v.length+1∧Dg 18446744073709551616 X∧bo≤1∧ca<18446744073709551616∧i≤v.length∧vl 18446744073709551616 (X.take i)+q*vl 18446744073709551616 (v.take i)=vl 18446744073709551616 (W.take i)+18446744073709551616^i*(bo+ca)∧(∀k,i≤k→X.getD k 0=W.getD k 0)∧v.length-i=m) (n:=v.length) ?_ ?_
 ·exact⟨0,0,0,W,by simp(disch:=try exact ab) only[go_sem,seval,h0],by simp(disch:=try exact ab) only[go_sem,seval,h1],by simp(disch:=try exact ab) only[go_sem,seval,h5],by simp(disch:=try exact ab) only[go_sem,seval,h6],by(simp(disch:=try exact ab) only[go_sem,seval])<;>rfl,by(simp(disch:=try exact ab) only[go_sem,seval])<;>rfl,aS,by(simp(disch:=try exact ab) only[go_sem,seval])<;>rfl,c,hA,hW,dW,by omega,by omega,by omega,by simp[vl],fun _ _=>rfl,rfl⟩
 ·rintro m ⟨tm,hp⟩ ⟨i,bo,ca,X,h0,h1,h5,h6,h11,h12,Kl,Kk,c,hA,hX,dX,WC,hca,hle,hinv,hsame,rfl⟩;simp only at h0 h1 h5 h6 h11 h12 Kl Kk c hA;by_cases hlt:i<v.length
  ·have hlt':(i:Int)<v.length:=by omega
   have rv:=(hv.kQ c hne).rd;have adv:=rv.jn;have ldv:=rv.load i hlt;have ld:=hA.MG (i:=i) (by omega);have sw:=hA.Qa (i:=i) (by omega);have hnx:=hA.lt;have hs:=hsame i (ae _);have Av:=bg (B:=18446744073709551616) (l:=W) (i:=i) (by omega);have tkv:=bg (B:=18446744073709551616) hlt;have hxd:=Dg.getD (B:=18446744073709551616) (by decide) dX i
   have hvd:=Dg.getD (B:=18446744073709551616) (by decide) dv i;rw[←hs]at Av;have tkx:=fun r=>fp (B:=18446744073709551616) (l:=X) (i:=i) (x:=r) (by omega)
   generalize X.getD i 0=xi at *
   generalize v.getD i 0=vi at *
   have hpp:q*vi≤18446744073709551615*18446744073709551615:=fG (by omega) (by omega);obtain⟨c1,c2⟩:=GR hpp hca
   have w1:IntKind.wrap .u64 (((q*vi/18446744073709551616:Nat):Int)+((q*vi%18446744073709551616+ca)/18446744073709551616:Nat))=((q*vi/18446744073709551616+(q*vi%18446744073709551616+ca)/18446744073709551616:Nat):Int):=by
    rw[←Int.natCast_add,wrap_u64 (by omega)]
   have sd:=Cq (B:=18446744073709551616) (x:=xi) (y:=(q*vi%18446744073709551616+ca)%18446744073709551616) (b:=bo) hxd (bq _ (by decide)) WC;have fin:=JQ hinv sd c2;repeat'(with_reducible first|simp(disch:=try exact ab) only[go_sem,seval,h0,h1,h5,h6,h11,h12,Kl,Kk,hlt',adv,ldv,sj,uu,Ii,w1,ld,sw]|(apply aj.i<;>intro hc))
   refine⟨_,?_,i+1,(if xi<(q*vi%18446744073709551616+ca)%18446744073709551616+bo then 1 else 0),q*vi/18446744073709551616+(q*vi%18446744073709551616+ca)/18446744073709551616,X.set i ((xi+18446744073709551616-(q*vi%18446744073709551616+ca)%18446744073709551616-bo)%18446744073709551616),by simp,by simp,rfl,c.put,bG.put hnx,by simpa using hX,dX.set _ (bq _ (by decide)),?_,c1,hlt,?_,?_,rfl⟩
   ·omega
   ·split<;>omega
   ·rw[tkx,Av,tkv,aV];exact fin
   ·intro k hk;rw[Bg.getD_set_ne (by omega)];exact hsame k (by omega)
  ·have hlt':¬(i:Int)<v.length:=by omega
   obtain rfl:i=v.length:=by omega
   have ld:=hA.MG (i:=v.length) (by omega);have sw:=hA.Qa (i:=v.length) (by omega);have hnx:=hA.lt;have hs:=hsame v.length (ae _);have Av:=bg (B:=18446744073709551616) (l:=W) (i:=v.length) (by omega);have hxd:=Dg.getD (B:=18446744073709551616) (by decide) dX v.length;rw[←hs,←hW,aP (by omega)]at Av
   have fin:=fp (B:=18446744073709551616) (l:=X) (i:=v.length) (x:=(X.getD v.length 0+18446744073709551616-ca-bo)%18446744073709551616) (by omega);rw[←hX,aP (by simp)]at fin;have dfin:=dX.set v.length (x:=(X.getD v.length 0+18446744073709551616-ca-bo)%18446744073709551616) (bq _ (by decide));have Hr:=gI (B:=18446744073709551616) (by decide) dfin;rw[List.length_set,hX]at Hr
   have sd:=Cq (B:=18446744073709551616) (x:=X.getD v.length 0) (y:=ca) (b:=bo) hxd hca WC;have hvl:=gI (B:=18446744073709551616) (by decide) dv;generalize X.getD v.length 0=xn at *
   rw[bj]at hinv;have hp1:18446744073709551616^(v.length+1)=18446744073709551616^v.length*18446744073709551616:=aV _ _
   have key:vl 18446744073709551616 (X.set v.length ((xn+18446744073709551616-ca-bo)%18446744073709551616))+q*vl 18446744073709551616 v=vl 18446744073709551616 W+18446744073709551616^(v.length+1)*(if xn<ca+bo then 1 else 0):=by
    have e1:18446744073709551616^v.length*((xn+18446744073709551616-ca-bo)%18446744073709551616+ca+bo)=18446744073709551616^v.length*(xn+18446744073709551616*(if xn<ca+bo then 1 else 0)):=by rw[sd]
    rw[ay,ay,ay,←aF,←hp1]at e1;rw[ay]at hinv;rw[fin,Av];omega
   have uZ:=cE (vl 18446744073709551616 W) (vl 18446744073709551616 v);have EU:=bq (vl 18446744073709551616 W) xR;rw[hQ]at uZ;have e0:((0:Nat):Int)=0:=rfl;have e1:((1:Nat):Int)=1:=rfl;by_cases hb:xn<ca+bo
   ·rw [if_pos hb,dF]at key
    have hqQ:q=Q+1:=by
     rcases aQ Q q with g|g
     ·omega
     ·obtain rfl:q=Q:=by omega
      rw[aA]at uZ;omega
    subst hqQ;rw[bh,Nat.one_mul,aA Q]at key;repeat'(with_reducible first|simp(disch:=try exact ab) only[go_sem,seval,h0,h1,h5,h6,h11,h12,Kl,Kk,hlt',Ii,ld,sw,hb,e1]|(apply aj.i<;>intro hc))
    exact tail _ _ _ (by simp(disch:=try exact ab) only[go_sem,seval,h0]) (by simp(disch:=try exact ab) only[go_sem,seval,h1]) (by simp(disch:=try exact ab) only[go_sem,seval,h5]) (by simp(disch:=try exact ab) only[go_sem,seval,h6]) c.put (bG.put hnx) (by simpa using hX) dfin hq (by omega) (by omega)
   ·rw [if_neg hb,fW,aY]at key
    have hqQ:q=Q:=by
     rcases aQ Q q with g|g
     ·have h3:(Q+1)*vl 18446744073709551616 v≤q*vl 18446744073709551616 v:=aM _ g;rw[bh,Nat.one_mul,aA Q]at h3;omega
     ·omega
    subst hqQ;rw[aA]at uZ;repeat'(with_reducible first|simp(disch:=try exact ab) only[go_sem,seval,h0,h1,h5,h6,h11,h12,Kl,Kk,hlt',Ii,ld,sw,hb,e0]|(apply aj.i<;>intro hc))
    exact hk _ _ c.put (bG.put hnx) (by simpa using hX) dfin (by omega)
theorem FI {W:List Nat}{q Q rh cf v1 v0 ul U:Nat}(h0:val tm (.t 0)= .sl t P.length (v.length+1) 1)(h1:val tm (.t 1)=wv)(h5:val tm (.t 5)= .int .i64 v.length)(h6:val tm (.t 6)= .int .u64 (q:Nat))(h7:val tm (.t 7)= .int .u64 (rh:Nat))(h8:val tm (.t 8)= .int .u64 (cf:Nat))
  (c:ig t h hp) (hv:Sq .u64 h wv v) (hne:iE wv≠t) (hA:bG hp t ((P++W++S).map (wd .u64))) (hW:W.length=v.length+1) (dW:Dg 18446744073709551616 W) (dv:Dg 18446744073709551616 v) (hl:v.length≤1000000) (h2:2≤v.length) (xR:0<vl 18446744073709551616 v)
  (hQ:vl 18446744073709551616 W/vl 18446744073709551616 v=Q) (g1:v.getD (v.length-1) 0=v1) (g0:v.getD (v.length-2) 0=v0) (gl:W.getD (v.length-2) 0=ul)
  (hQU:Q*(v1*18446744073709551616+v0)≤U*18446744073709551616+ul) (zh:∀q,q<18446744073709551616→q*(v1*18446744073709551616+v0)≤U*18446744073709551616+ul→q≤Q+1)
  (hE:xJ v1 U Q q (rh+18446744073709551616*cf)) (hq:q<18446744073709551616) (TV:rh<18446744073709551616) (Kf:cf≤1)
  (hk:∀h' W',ig t h h'→bG h' t ((P++W'++S).map (wd .u64))→W'.length=v.length+1→Dg 18446744073709551616 W'→vl 18446744073709551616 W'=vl 18446744073709551616 W%vl 18446744073709551616 v→K (.int .u64 (Q:Nat)) h'):
  Wp E2 (C.rD.code.post 5) ⟨tm,hp⟩ (gy [.tmp 4] K):=by
 have tail:=fun(tm:T AV) q h0 h1 h5 h6 (hq:q<18446744073709551616) hE hok=>Jo (h:=h) (hp:=hp) (K:=K) (tm:=tm) (t:=t) (wv:=wv) (v:=v) (P:=P) (S:=S) (W:=W) (q:=q) (Q:=Q) h0 h1 h5 h6 c hv hne hA hW dW dv hl hq xR hQ hE (zh q hq hok) hk
 refine Wp.cut 1 rfl ?_;generalize au.post 1 (au.post 5 C.rD.code)=r at tail⊢
 unfold C.rD;dsimp only[au.post,au.pre];have rv:=(hv.kQ c hne).rd;have adv:=rv.jn;have ldv1:=rv.load (v.length-1) (by omega);have ldv0:=rv.load (v.length-2) (by omega);have ld:=hA.MG (i:=v.length-2) (by omega);have i1:((v.length:Int)-1).toNat=v.length-1:=by omega
 have i2:((v.length:Int)-2).toNat=v.length-2:=by omega
 have Bs:=Dg.getD (B:=18446744073709551616) (by decide) dv (v.length-1);have Bt:=Dg.getD (B:=18446744073709551616) (by decide) dv (v.length-2);have Hk:=Dg.getD (B:=18446744073709551616) (by decide) dW (v.length-2);rw[g1]at ldv1 Bs;rw[g0]at ldv0 Bt;rw[gl]at ld Hk;repeat'(with_reducible first|simp(disch:=try exact ab) only[go_sem,seval]|(apply aj.i<;>intro hc))
 refine Wp.bW (fun m s'=>∃(q rh cf:Nat),val s'.tm (.t 0)= .sl t P.length (v.length+1) 1∧val s'.tm (.t 1)=wv∧val s'.tm (.t 5)= .int .i64 v.length∧val s'.tm (.t 6)= .int .u64 (q:Nat)∧val s'.tm (.t 7)= .int .u64 (rh:Nat)∧val s'.tm (.t 8)= .int .u64 (cf:Nat)∧
  s'.hp=hp∧xJ v1 U Q q (rh+18446744073709551616*cf)∧q<18446744073709551616∧rh<18446744073709551616∧cf≤1∧q=m) (n:=q) ?_ ?_
 ·exact⟨q,rh,cf,by simp(disch:=try exact ab) only[go_sem,seval,h0],by simp(disch:=try exact ab) only[go_sem,seval,h1],by simp(disch:=try exact ab) only[go_sem,seval,h5],by simp(disch:=try exact ab) only[go_sem,seval,h6],by simp(disch:=try exact ab) only[go_sem,seval,h7],by simp(disch:=try exact ab) only[go_sem,seval,h8],rfl,hE,hq,TV,Kf,rfl⟩
 ·rintro m ⟨tm,hp⟩ ⟨q,rh,cf,h0,h1,h5,h6,h7,h8,rfl,hE,hq,TV,Kf,rfl⟩;simp only at h0 h1 h5 h6 h7 h8;have hpp:q*v0≤18446744073709551615*18446744073709551615:=fG (by omega) (by omega);have e0:((0:Nat):Int)=0:=rfl;have e1:((1:Nat):Int)=1:=rfl;rcases aE cf with rfl|hcf'
  ·rw [fW,aY]at hE;by_cases hok:q*v0≤18446744073709551616*rh+ul
   ·have Kd:=hE.ok hok;by_cases c1:q*v0/18446744073709551616<rh
    ·have c1':((q*v0/18446744073709551616:Nat):Int)<rh:=Ci.2 c1;repeat'(with_reducible first|simp(disch:=try exact ab) only[go_sem,seval,h0,h1,h5,h6,h7,h8,e0,i1,i2,adv,ldv0,sj,c1']|(apply aj.i<;>intro hc))
     exact tail _ q (by simp(disch:=try exact ab) only[go_sem,seval,h0]) (by simp(disch:=try exact ab) only[go_sem,seval,h1]) (by simp(disch:=try exact ab) only[go_sem,seval,h5]) (by simp(disch:=try exact ab) only[go_sem,seval,h6]) hq hE.ge Kd
    ·have c1':¬((q*v0/18446744073709551616:Nat):Int)<rh:=fun e=>c1 (Ci.1 e)
     have c2:q*v0/18446744073709551616=rh:=by omega
     have c3':((q*v0%18446744073709551616:Nat):Int)≤ul:=nS.2 (by omega);repeat'(with_reducible first|simp(disch:=try exact ab) only[go_sem,seval,h0,h1,h5,h6,h7,h8,e0,i1,i2,adv,ldv0,ld,sj,c1',c2,c3',fY]|(apply aj.i<;>intro hc))
     exact tail _ q (by simp(disch:=try exact ab) only[go_sem,seval,h0]) (by simp(disch:=try exact ab) only[go_sem,seval,h1]) (by simp(disch:=try exact ab) only[go_sem,seval,h5]) (by simp(disch:=try exact ab) only[go_sem,seval,h6]) hq hE.ge Kd
   ·obtain⟨MK,hE'⟩:=hE.down hQU (by omega);have RQ:xJ v1 U Q (q-1) ((rh+v1)%18446744073709551616+18446744073709551616*((rh+v1)/18446744073709551616)):=by rwa[xW]
    have ZU:IntKind.wrap .u64 ((q:Int)-1)=((q-1:Nat):Int):=by simp only[IntKind.wrap_u64];omega
    have c1':¬((q*v0/18446744073709551616:Nat):Int)<rh:=fun e=>by have:=Ci.1 e;omega
    by_cases c2:q*v0/18446744073709551616=rh
    ·have c3':¬((q*v0%18446744073709551616:Nat):Int)≤ul:=fun e=>by have:=nS.1 e;omega
     repeat'(with_reducible first|simp(disch:=try exact ab) only[go_sem,seval,h0,h1,h5,h6,h7,h8,e0,i1,i2,adv,ldv0,ldv1,ld,sj,uu,c1',c2,c3',ZU,fY]|(apply aj.i<;>intro hc))
     exact⟨q-1,by omega,q-1,_,_,rfl,rfl,rfl,RQ,by omega,bq _ (by decide),by omega,rfl⟩
    ·have uv:¬((q*v0/18446744073709551616:Nat):Int)=rh:=fun e=>c2 (Int.ofNat.inj e)
     repeat'(with_reducible first|simp(disch:=try exact ab) only[go_sem,seval,h0,h1,h5,h6,h7,h8,e0,i1,i2,adv,ldv0,ldv1,ld,sj,uu,c1',uv,ZU]|(apply aj.i<;>intro hc))
     exact⟨q-1,by omega,q-1,_,_,rfl,rfl,rfl,RQ,by omega,bq _ (by decide),by omega,rfl⟩
  ·obtain rfl:cf=1:=by omega
   have Kd:=hE.ok (b:=18446744073709551616) (v0:=v0) (u:=ul) (aB hpp (aB (aB (show 18446744073709551615*18446744073709551615≤18446744073709551616*18446744073709551616 by decide) (aD _ (Nat.le_add_left _ _))) (Nat.le_add_right _ _)));repeat'(with_reducible first|simp(disch:=try exact ab) only[go_sem,seval,h0,h1,h5,h6,h7,h8,e1]|(apply aj.i<;>intro hc))
   exact tail _ q (by simp(disch:=try exact ab) only[go_sem,seval,h0]) (by simp(disch:=try exact ab) only[go_sem,seval,h1]) (by simp(disch:=try exact ab) only[go_sem,seval,h5]) (by simp(disch:=try exact ab) only[go_sem,seval,h6]) hq hE.ge Kd
theorem WT {W:List Nat}(hv:Sq .u64 h wv v)(hne:iE wv≠t)(hA:bG h t ((P++W++S).map (wd .u64)))(hW:W.length=v.length+1)(dW:Dg 18446744073709551616 W)(dv:Dg 18446744073709551616 v)(hl:v.length≤1000000)(h2:2≤v.length)
  (hv1:v.getD (v.length-1) 0≠0) (hlt:vl 18446744073709551616 W<18446744073709551616*vl 18446744073709551616 v)
  (hk:∀h' W',ig t h h'→bG h' t ((P++W'++S).map (wd .u64))→W'.length=v.length+1→Dg 18446744073709551616 W'→vl 18446744073709551616 W'=vl 18446744073709551616 W%vl 18446744073709551616 v→K (.int .u64 (vl 18446744073709551616 W/vl 18446744073709551616 v:Nat)) h'):
  ac E2 303 [.sl t P.length (v.length+1) 1,wv] h K:=by
 refine ac.fn (fn:=C.rD) rfl rfl rfl ?_;have tv:=P8 (B:=18446744073709551616) (l:=v) h2;have tw:=P7 (B:=18446744073709551616) (W:=W) h2 hW;have lv:=gI (B:=18446744073709551616) (by decide) (dv.take (v.length-2));have lw:=gI (B:=18446744073709551616) (by decide) (dW.take (v.length-2));rw[az,cD (by omega)]at lv lw;have Bs:=Dg.getD (B:=18446744073709551616) (by decide) dv (v.length-1)
 have Bt:=Dg.getD (B:=18446744073709551616) (by decide) dv (v.length-2);have VL:=Dg.getD (B:=18446744073709551616) (by decide) dW v.length;have Rn:=Dg.getD (B:=18446744073709551616) (by decide) dW (v.length-1);have Hk:=Dg.getD (B:=18446744073709551616) (by decide) dW (v.length-2);have rv:=hv.rd;have adv:=rv.jn;have lenv:=rv.len;have ldv1:=rv.load (v.length-1) (by omega);have ov:=rv.old (by omega)
 have ldn:=hA.MG (i:=v.length) (by omega);have ldm:=hA.MG (i:=v.length-1) (by omega);have od:=hA.old;obtain⟨v1,g1⟩:∃v1,v.getD (v.length-1) 0=v1:=⟨_,rfl⟩
 obtain⟨v0,g0⟩:∃v0,v.getD (v.length-2) 0=v0:=⟨_,rfl⟩
 obtain⟨un,gn⟩:∃un,W.getD v.length 0=un:=⟨_,rfl⟩
 obtain⟨um,gm⟩:∃um,W.getD (v.length-1) 0=um:=⟨_,rfl⟩
 obtain⟨ul,gl⟩:∃ul,W.getD (v.length-2) 0=ul:=⟨_,rfl⟩
 rw[g1]at Bs ldv1 tv hv1;rw[g0]at Bt tv;rw[gn]at VL ldn tw;rw[gm]at Rn ldm tw;rw[gl]at Hk tw;obtain⟨hQU,zh,hU,xR,hQB⟩:=vT (B:=18446744073709551616) (v1:=v1) (v0:=v0) (U:=un*18446744073709551616+um) (u:=ul) tv tw lv lw rfl rfl (by omega) (by decide) hlt;have i1:((v.length:Int)-1).toNat=v.length-1:=by omega
 have tail:=fun(tm:T AV) q rh cf h0 h1 h5 h6 h7 h8 hE hq TV Kf=>FI (h:=h) (hp:=h) (K:=K) (tm:=tm) (t:=t) (wv:=wv) (v:=v) (P:=P) (S:=S) (W:=W) (q:=q) (rh:=rh) (cf:=cf) h0 h1 h5 h6 h7 h8 ig.refl hv hne hA hW dW dv hl h2 xR rfl g1 g0 gl hQU zh hE hq TV Kf hk
 refine Wp.cut 5 rfl ?_;generalize au.post 5 C.rD.code=r at tail⊢
 unfold C.rD;dsimp only[au.pre];by_cases PG:v1≤un
 ·have OG:(v1:Int)≤un:=by omega
  have VM:un=v1:=by omega
  have hE:xJ v1 (un*18446744073709551616+um) (vl 18446744073709551616 W/vl 18446744073709551616 v) 18446744073709551615 ((um+v1)%18446744073709551616+18446744073709551616*((um+v1)/18446744073709551616)):=by
   refine⟨?_,by omega⟩;rw[xW,VM];omega
  repeat'(with_reducible first|simp(disch:=try exact ab) only[go_sem,seval,lenv,i1,adv,ldv1,ldn,ldm,ov,od,OG,uu]|(apply aj.i<;>intro hc))
  exact tail _ 18446744073709551615 _ _ aS aS aS (by(simp(disch:=try exact ab) only[go_sem,seval])<;>rfl) aS aS hE (by decide) (bq _ (by decide)) (by omega)
 ·have OG:¬(v1:Int)≤un:=by omega
  have hE:=xJ.first (b:=18446744073709551616) (v0:=v0) (u:=ul) (by omega:0<v1) Hk hQU
  have PE:(un*18446744073709551616+um)/v1<18446744073709551616:=by
   rw[df (by omega),aA];have:(un+1)*18446744073709551616≤v1*18446744073709551616:=aM _ (by omega);omega
  have ZZ:(un*18446744073709551616+um)%v1<18446744073709551616:=Cc (bq _ (by omega)) Bs;have c3:=fun{h:Hp} {K:AV→Hp→Prop}=>Sy (h:=h) (K:=K) (hi:=un) (lo:=um) (y:=v1) Rn Bs (by omega)
  obtain⟨q0,hq0⟩:∃q0,q0=(un*18446744073709551616+um)/v1:=⟨_,rfl⟩
  obtain⟨r0,hr0⟩:∃r0,r0=(un*18446744073709551616+um)%v1:=⟨_,rfl⟩
  rw[←hq0,←hr0]at hE;rw[←hq0]at PE;rw[←hr0]at ZZ;rw[←hq0,←hr0]at c3;repeat'(with_reducible first|simp(disch:=try exact ab) only[go_sem,seval,lenv,i1,adv,ldv1,ldn,ldm,ov,od,OG,c3]|(apply aj.i<;>intro hc))
  exact tail _ q0 r0 0 aS aS aS aS aS (by(simp(disch:=try exact ab) only[go_sem,seval])<;>rfl) (by rw[fW,aY];exact hE) PE ZZ (by omega)
end
end
end Go.Ae
namespace Go.Ae
open Bg
noncomputable section
def gj (h:Hp)(s w:AV)(z:Int):Prop:=
 (s= .int .i64 z∧w= .aq∧-9223372036854775808≤z∧z≤9223372036854775807)∨
 (∃(n t o:Nat) (l:List Nat),w= .sl t o n 1∧Sq .u64 h w l∧Dg 18446744073709551616 l∧Norm l∧9223372036854775808≤vl 18446744073709551616 l∧l.length≤10000∧((s= .int .i64 1∧z=vl 18446744073709551616 l)∨(s= .int .i64 (-1)∧z= -(vl 18446744073709551616 l:Int))))
def rF (h:Hp)(v:AV)(z:Int):Prop:=∃s w,v= .agg [s,w]∧gj h s w z
def fq (n:Nat)(z:Int):Prop:=z.natAbs<18446744073709551616^n
theorem fq.add {n:Nat}{x y:Int}(hx:fq n x)(hy:fq n y):fq (n+1) (x+y):=by
 unfold fq at *;rw[aV];have:(x+y).natAbs≤x.natAbs+y.natAbs:=Int.natAbs_add_le x y;omega
theorem fq.mul {n m:Nat}{x y:Int}(hx:fq n x)(hy:fq m y):fq (n+m) (x*y):=by
 unfold fq at *;rw[dm,fu];rcases aE y.natAbs with h|h
 ·rw[h,fW];exact eY (dp (by decide)) (dp (by decide))
 ·exact lW hx hy
theorem fq.mono {n m:Nat}{x:Int}(hx:fq n x)(h:n≤m):fq m x:=ah hx (aT (by decide) h)
theorem fq.neg {n:Nat}{x:Int}(hx:fq n x):fq n (-x):=by unfold fq at *;rwa[sc]
theorem fq.sub {n:Nat}{x y:Int}(hx:fq n x)(hy:fq n y):fq (n+1) (x-y):=by rw[Int.sub_eq_add_neg];exact hx.add hy.neg
section
variable {h h':Hp}{K:AV→Hp→Prop}{s w s' w':AV}{x y z:Int}
theorem gj.aO (i:gj h s w z)(g:aH h h'):gj h' s w z:=by
 rcases i with i|⟨n,t,o,l,e,hs,r⟩
 ·exact .inl i
 ·exact .inr ⟨n,t,o,l,e,hs.aO g,r⟩
theorem rF.aO {v:AV}(i:rF h v z)(g:aH h h'):rF h' v z:=by
 obtain⟨s,w,e,i⟩:=i;exact⟨s,w,e,i.aO g⟩
theorem gj.small {n:Int}(hn: -9223372036854775808≤n∧n≤9223372036854775807):gj h (.int .i64 n) .aq n:= .inl ⟨rfl,rfl,hn⟩
theorem sF {l:List Nat}{n:Nat}(hn:Norm l)(h:vl 18446744073709551616 l<18446744073709551616^n):l.length≤n:=by
 rcases aQ n l.length with c|c
 ·have h0:l≠[]:=by rintro rfl;simp at c
  obtain⟨m,x,rfl⟩:=jN h0;have h1:=Cn (B:=18446744073709551616) (l:=m) (iq.1 hn);have h2:=aT (n:=18446744073709551616) (by decide) (show n≤m.length by simp at c;omega);omega
 ·exact c
theorem fq.len {l:List Nat}{n:Nat}{z:Int}(hz:fq n z)(hn:Norm l)(h:vl 18446744073709551616 l=z.natAbs):l.length≤n:=sF hn (by rw[h];exact hz)
theorem fq.small {n:Int}(h: -9223372036854775808≤n∧n≤9223372036854775807):fq 1 n:=by unfold fq;omega
def Pw (z:Int)(v:AV)(h':Hp):Prop:=∃w' l,v= .fO [.bool (decide (z<0)),w']∧Sq .u64 h' w' l∧Dg 18446744073709551616 l∧Norm l∧vl 18446744073709551616 l=z.natAbs∧l.length≤10000
theorem vd (hi:gj h s w z):Gp E2 202 [.agg [s,w]] h (Pw z):=by
 refine Gp.of (ac.fn (fn:=C.Lq) rfl rfl rfl ?_);unfold C.Lq;rcases hi with⟨rfl,rfl,hz⟩|⟨n,t,o,l,rfl,hs,hd,hn,hb,hl,hv⟩
 ·by_cases h0:z=0
  ·subst h0;repeat'(with_reducible first|simp(disch:=try exact ab) only[go_sem,seval]|(apply aj.i<;>intro hc))
   refine⟨⟨.aq,[],by simp,Sq.nil,Dg.nil,by simp[Norm],rfl,by simp⟩,?_⟩;exact aL
  ·repeat'(with_reducible first|simp(disch:=try exact ab) only[go_sem,seval,BX,h0]|(apply aj.i<;>intro hc))
   refine⟨⟨_,[z.natAbs],rfl,?_,Dg.cons (by omega) Dg.nil,?_,by simp[vl],by simp⟩,?_⟩
   ·exact(bG.push (cs:=[z.natAbs].map (wd .u64))).sq rfl
   ·simp only[Norm,Dy,ne_eq,cq];omega
   ·exact aL
 ·rcases hv with⟨rfl,rfl⟩|⟨rfl,rfl⟩
  ·repeat'(with_reducible first|simp(disch:=try exact ab) only[go_sem,seval]|(apply aj.i<;>intro hc))
   refine⟨⟨_,l,?_,hs.aO ?_,hd,hn,by simp,hl⟩,?_⟩
   ·simp
   ·exact aL
   ·exact aL
  ·repeat'(with_reducible first|simp(disch:=try exact ab) only[go_sem,seval]|(apply aj.i<;>intro hc))
   refine⟨⟨_,l,?_,hs.aO ?_,hd,hn,by simp,hl⟩,?_⟩
   ·have: -(vl 18446744073709551616 l:Int)<0:=by omega
    simp[this];omega
   ·exact aL
   ·exact aL
def iB (b:Bool)(n:Nat):Int:=if b=true then-(n:Int)else n
theorem zY {neg:Bool}{w:AV}{l:List Nat}(hs:Sq .u64 h w l)(hd:Dg 18446744073709551616 l)(hn:Norm l)(hl:l.length≤10000):Gp E2 203 [.bool neg,w] h fun v h'=>rF h' v (iB neg (vl 18446744073709551616 l)):=by
 refine Gp.of (ac.fn (fn:=C.a203) rfl rfl rfl ?_);unfold C.a203;have rd:=hs.rd;have ln:=rd.len;match l,hs,hd,hn,hl,rd,ln with
 | [],hs,hd,hn,hl,rd,ln=>
  simp only[aK]at ln;repeat'(with_reducible first|simp(disch:=try exact ab) only[go_sem,seval,ln]|(apply aj.i<;>intro hc))
  refine⟨⟨_,_,rfl,?_⟩,?_⟩
  ·have:iB neg (vl 18446744073709551616 [])=0:=by unfold iB;simp[vl]
   rw[this];exact gj.small (by omega)
  ·exact aL
 | [x],hs,hd,hn,hl,rd,ln=>
  have hx:=hd.head;have hx0:x≠0:=fun e=>by subst e;simp[Norm]at hn
  have e:vl 18446744073709551616 [x]=x:=by simp[vl]
  rw[e];simp only[ap,aK]at ln;have ad:=rd.jn;have ld:=rd.load 0 (by simp);have htk:=rd.tok (by simp);simp only[de,aY]at ld;have e0:(0:Int).toNat=0:=rfl;by_cases hle:x≤9223372036854775807
  ·have pC:(x:Int)≤9223372036854775807:=by omega
   cases neg
   ·repeat'(with_reducible first|simp(disch:=try exact ab) only[go_sem,seval,ln,ad,ld,e0,pC]|(apply aj.i<;>intro hc))
    refine⟨⟨_,_,rfl,?_⟩,?_⟩
    ·exact gj.small (by omega)
    ·exact aL
   ·repeat'(with_reducible first|simp(disch:=try exact ab) only[go_sem,seval,ln,ad,ld,e0,pC]|(apply aj.i<;>intro hc))
    refine⟨⟨_,_,rfl,?_⟩,?_⟩
    ·exact gj.small (by omega)
    ·exact aL
  ·have pC:¬(x:Int)≤9223372036854775807:=by omega
   obtain⟨t,o,hw⟩:∃t o,w= .sl t o 1 1:=by
    rcases hs with⟨_,e⟩|⟨t,o,own,st,L,e,_⟩
    ·cases e
    ·exact⟨t,o,e⟩
   subst hw;cases neg
   ·repeat'(with_reducible first|simp(disch:=try exact ab) only[go_sem,seval,ln,ad,ld,e0,pC]|(apply aj.i<;>intro hc))
    refine⟨⟨_,_,rfl,.inr ⟨1,t,o,[x],rfl,hs.aO ?_,hd,hn,by rw[e];omega,by simp,.inl ⟨rfl,by rw[e];rfl⟩⟩⟩,?_⟩
    ·exact aL
    ·exact aL
   ·repeat'(with_reducible first|simp(disch:=try exact ab) only[go_sem,seval,ln,ad,ld,e0,pC]|(apply aj.i<;>intro hc))
    refine⟨⟨_,_,rfl,.inr ⟨1,t,o,[x],rfl,hs.aO ?_,hd,hn,by rw[e];omega,by simp,.inr ⟨rfl,by rw[e];rfl⟩⟩⟩,?_⟩
    ·exact aL
    ·exact aL
 | x ::y::r,hs,hd,hn,hl,rd,ln=>
  obtain⟨t,o,hw⟩:∃t o,w= .sl t o (x::y::r).length 1:=by
   rcases hs with⟨_,e⟩|⟨t,o,own,st,L,e,_⟩
   ·cases e
   ·exact⟨t,o,e⟩
  subst hw
  have HA:9223372036854775808≤vl 18446744073709551616 (x::y::r):=by
   have h0:y::r≠[]:=by simp
   have h1:=kf (B:=18446744073709551616) (l:=y::r) (by decide) (by unfold Norm at hn⊢;rwa[List.getLast?_cons_cons]at hn) h0;rw[gz];omega
  have n0:¬((x::y::r).length:Int)=0:=by simp;omega
  have n1:¬((x::y::r).length:Int)=1:=by simp;omega
  generalize Wd:x::y::r=l at *
  cases neg
  ·repeat'(with_reducible first|simp(disch:=try exact ab) only[go_sem,seval,n0,n1]|(apply aj.i<;>intro hc))
   refine⟨⟨_,_,rfl,.inr ⟨l.length,t,o,l,rfl,hs.aO ?_,hd,hn,HA,hl,.inl ⟨rfl,rfl⟩⟩⟩,?_⟩
   ·exact aL
   ·exact aL
  ·repeat'(with_reducible first|simp(disch:=try exact ab) only[go_sem,seval,n0,n1]|(apply aj.i<;>intro hc))
   refine⟨⟨_,_,rfl,.inr ⟨l.length,t,o,l,rfl,hs.aO ?_,hd,hn,HA,hl,.inr ⟨rfl,rfl⟩⟩⟩,?_⟩
   ·exact aL
   ·exact aL
end
end
end Go.Ae
namespace Go.Ae
open Bg
noncomputable section
theorem jw {B j:Nat}{l:List Nat}(h:j<l.length):vl B (l.drop j)=l.getD j 0+B*vl B (l.drop (j+1)):=by
 rw[ey h,gz,getD_eq h]
theorem kC {B j q:Nat}{l:List Nat}(h:j<l.length):vl B ((l.set j q).drop j)=q+B*vl B (l.drop (j+1)):=by
 rw[jw (by simpa using h),qu h,List.drop_set_of_lt (by omega)]
theorem sn {B n:Nat}{l:List Nat}(hB:0<B)(h:vl B l<B^n):vl B (l.drop n)=0∧vl B (l.take n)=vl B l:=by
 rcases aQ l.length n with c|c
 ·rw[dN (by omega),aP (by omega)];exact⟨rfl,rfl⟩
 ·have e:=nd (B:=B) (l:=l) n c;rcases aE (vl B (l.drop n))with h0|h0
  ·rw[h0,fW,aY]at e;exact⟨h0,e.symm⟩
  ·have:B^n*1≤B^n*vl B (l.drop n):=aD _ h0;omega
theorem rJ {B:Nat}(hB:0<B):∀{l:List Nat} {k:Nat},vl B l=0→l.getD k 0=0
 |[],k,_=>by simp
 |x::l,0,h=>by rw[gz]at h;simp;omega
 | x ::l,k+1,h=>by
  rw[gz]at h
  have:vl B l=0:=by
   rcases aE (vl B l)with h0|h0
   ·exact h0
   ·have:=eY hB h0;omega
  rw[List.getD_cons_succ];exact rJ hB this
def L5 (q r:Nat)(v:AV)(h':Hp):Prop:=∃vq vr lq lr,v= .fO [vq,vr]∧Sq .u64 h' vq lq∧Sq .u64 h' vr lr∧Dg 18446744073709551616 lq∧Dg 18446744073709551616 lr∧Norm lq∧Norm lr∧vl 18446744073709551616 lq=q∧vl 18446744073709551616 lr=r
theorem sZ {B A Q b r x q r':Nat}(h:A=Q*b+r)(hq:r*B+x=b*q+r'):x+B*A=(q+B*Q)*b+r':=by
 rw[h,bh,ay,aF,aA q b,aA B r];omega
theorem vI {B Lj A Q V R W q r:Nat}(h:A=Q*V+R)(hW:W=Lj+B*R)(hq:W=V*q+r):Lj+B*A=(q+B*Q)*V+r:=by
 rw[h,bh,ay,aF,aA q V];omega
section
variable {h hp:Hp}{K:AV→Hp→Prop}{tm:T AV}
theorem Ee {va vb:AV}{a:List Nat}{b0:Nat}(ha:Sq .u64 h va a)(hb:Sq .u64 h vb [b0])(da:Dg 18446744073709551616 a)(db:b0<18446744073709551616)(na:Norm a)(hb0:0<b0)(hl:a.length≤1000000)(hle:b0≤vl 18446744073709551616 a):
  Gp E2 265 [va,vb] h (L5 (vl 18446744073709551616 a/b0) (vl 18446744073709551616 a%b0)):=by
 refine Gp.of (ac.fn (fn:=C.qF) rfl rfl rfl ?_);unfold C.qF;have hv1:vl 18446744073709551616 [b0]=b0:=by simp[vl]
 have cmp:=fun{K:AV→Hp→Prop}=>KK (K:=K) ha hb da (Dg.cons db Dg.nil) na (by simp only[Norm,Dy,ne_eq,cq];omega) (by omega) (by simp)
 have hc:¬(jl (vl 18446744073709551616 a) (vl 18446744073709551616 [b0])<0):=by rw[hv1];unfold jl;split<;>(try split)<;>omega
 have la:=ha.rd.len;have lb:=hb.rd.len;have U8:tO .slice vb=some (.int .i64 1):=lb;have mk:=fun{h:Hp} {K:AV→Hp→Prop}=>mU.int (h:=h) (K:=K) (b:=8) (z:= .int .u64 0) (n:=a.length) rfl (by omega)
 have ilen:IntKind.wrap .i64 ((a.length:Int)-1)=(a.length:Int)-1:=wrap_i64 (by omega);repeat'(with_reducible first|simp(disch:=try exact ab) only[go_sem,seval,cmp,hc,la,U8,mk,ilen]|(apply aj.i<;>intro hc))
 have hz:(av a.length (AV.int .u64 0))=(av a.length 0).map (wd .u64):=by rw[gC];rfl
 rw[hz]
 refine Wp.bW (fun m s'=>∃(k rem:Nat) (out:List Nat),val s'.tm (.t 0)=va∧val s'.tm (.t 1)=vb∧val s'.tm (.t 6)= .sl h.next 0 a.length 1∧val s'.tm (.t 7)= .int .u64 rem∧val s'.tm (.t 8)= .int .i64 ((k:Int)-1)∧
  aH h s'.hp∧bG s'.hp h.next (out.map (wd .u64))∧out.length=a.length∧Dg 18446744073709551616 out∧rem<b0∧k≤a.length∧vl 18446744073709551616 (a.drop k)=vl 18446744073709551616 (out.drop k)*b0+rem∧k=m) (n:=a.length) ?_ ?_
 ·refine⟨a.length,0,av a.length 0,aS,aS,aS,by(simp(disch:=try exact ab) only[go_sem,seval])<;>rfl,aS,?_,bG.push,by simp,Dg.oV (by decide) _,hb0,ae _,?_,rfl⟩
  ·exact aL
  ·rw[dN (by simp),dN (by simp)];simp[vl]
 ·rintro m ⟨tm,hp⟩ ⟨k,rem,out,h0,h1,h6,h7,h8,hG,hA,hlo,hd,zd,hk,hinv,rfl⟩;simp only at h0 h1 h6 h7 h8 hG hA;rcases aE k with rfl|hpos
  ·have e0:((0:Nat):Int)-1= -1:=rfl;have hS:=hA.sq (n:=a.length) hlo;simp only[eE]at hinv;have hq:vl 18446744073709551616 out=vl 18446744073709551616 a/b0:=by rw[hinv,aA,mV hb0,iS zd,aY]
   have hr:rem=vl 18446744073709551616 a%b0:=by rw[hinv,aA,xV,cH zd]
   repeat'(with_reducible first|simp(disch:=try exact ab) only[go_sem,seval,h0,h1,h6,h7,h8,e0]|(apply aj.i<;>intro hc))
   refine Gp.wp (zn hS (by omega)) fun v1 k1 a1 b1 u1 S1=>?_
   repeat'(with_reducible first|simp(disch:=try exact ab) only[go_sem,seval,h7]|(apply aj.i<;>intro hc))
   have A2:bG ((hp.ov k1 u1).push fun s=> .row [.int .u64 (rem:Int)] true s) (hp.ov k1 u1).next ([rem].map (wd .u64)):=bG.push;have S2:=A2.sq (n:=1) rfl;have S1':=S1.aO (aH.push (aH.refl (hp.ov k1 u1)) (f:=fun s=> .row [.int .u64 (rem:Int)] true s));simp only[Hp.lJ,Hp.ns,Hp.iL,Hp.nK,Hp.qC,Hp.qT]at S2;refine Gp.wp (zn S2 (by simp)) fun v2 k2 a2 b2 u2 S3=>?_
   repeat'(with_reducible first|simp(disch:=try exact ab) only[go_sem,seval]|(apply aj.i<;>intro hc))
   refine⟨⟨v1,v2,_,_,rfl,S1'.aO ⟨_,_,u2⟩,S3,hd.trim,(Dg.cons (by omega) Dg.nil).trim,eJ _,eJ _,by rw[fQ,hq],by rw[fQ];simp[vl,hr]⟩,?_⟩;refine hG.trans ?_;exact aL
  ·have e1:((k:Int)-1).toNat=k-1:=by omega
   have hp1:(0:Int)≤(k:Int)-1:=by omega
   have ra:=(ha.aO hG).rd;have rb:=(hb.aO hG).rd;have ada:=ra.jn;have adb:=rb.jn;have lda:=ra.load (k-1) (by omega);have ldb:=rb.load 0 (by simp);have ola:=ra.old (by omega);have olb:=rb.old (by simp);have e00:(0:Int).toNat=0:=rfl;simp only[de,aY]at ldb;have sw:=hA.ND (i:=k-1) (by omega);have hnx:=hA.lt;have PK:=Dg.getD (B:=18446744073709551616) (by decide) da (k-1)
   have Sc:=jw (B:=18446744073709551616) (l:=a) (j:=k-1) (by omega);have Sb:=fun q=>kC (B:=18446744073709551616) (q:=q) (l:=out) (j:=k-1) (by omega)
   rw[bT hpos]at Sc;simp only[bT hpos]at Sb;generalize a.getD (k-1) 0=ak at *
   have c3:=fun{h:Hp} {K:AV→Hp→Prop}=>Sy (h:=h) (K:=K) (hi:=rem) (lo:=ak) (y:=b0) PK db zd
   have hqB:(rem*18446744073709551616+ak)/b0<18446744073709551616:=by
    rw[df hb0,aA];have:(rem+1)*18446744073709551616≤b0*18446744073709551616:=aM _ zd;omega
   have hrl:(rem*18446744073709551616+ak)%b0<b0:=bq _ hb0;have uZ:=sZ (B:=18446744073709551616) (x:=ak) hinv (cE (rem*18446744073709551616+ak) b0).symm;obtain⟨q0,hq0⟩:∃q0,q0=(rem*18446744073709551616+ak)/b0:=⟨_,rfl⟩
   obtain⟨r0,hr0⟩:∃r0,r0=(rem*18446744073709551616+ak)%b0:=⟨_,rfl⟩
   rw[←hq0]at hqB;rw[←hr0]at hrl;rw[←hq0,←hr0]at c3 uZ;have ik:IntKind.wrap .i64 ((k:Int)-1-1)=(k:Int)-1-1:=wrap_i64 (by omega);repeat'(with_reducible first|simp(disch:=try exact ab) only[go_sem,seval,h0,h1,h6,h7,h8,hp1,e1,e00,ada,adb,lda,ldb,ola,olb,c3,sw,ik]|(apply aj.i<;>intro hc))
   refine⟨k-1,by omega,k-1,r0,out.set (k-1) q0,rfl,?_,?_,bG.put hnx,by simpa using hlo,hd.set _ hqB,hrl,by omega,?_,rfl⟩
   ·congr 1;omega
   ·exact aH.put hG (ae _)
   ·rw[Sc,Sb];exact uZ
end
end
end Go.Ae
namespace Go.Ae
open Bg
noncomputable section
theorem DD {P o X Y x y bo Im r:Nat}(h:o+Y=X+P*bo)(hr:r+y+bo=x+1000000000*Im):o+P*r+(Y+P*y)=X+P*x+P*1000000000*Im:=by
 have e2:P*(r+y+bo)=P*(x+1000000000*Im):=by rw[hr]
 rw[ay,ay,ay,←aF]at e2;omega
section
variable {h:Hp}{K:AV→Hp→Prop}
theorem d252 {va vb:AV}{a b:List Nat}(ha:Sq .i64 h va a)(hb:Sq .i64 h vb b)(da:Dg 1000000000 a)(db:Dg 1000000000 b)(hla:a.length≤1000000)(hlb:b.length≤a.length)(hv:vl 1000000000 b≤vl 1000000000 a):
  Gp E3 252 [va,vb] h fun v h'=>∃l,Sq .i64 h' v l∧Dg 1000000000 l∧Norm l∧vl 1000000000 l=vl 1000000000 a-vl 1000000000 b:=by
 refine Gp.of (ac.fn (fn:=R.K9) rfl rfl rfl ?_);unfold R.K9;repeat'(with_reducible first|simp(disch:=try exact ab) only[go_sem,seval]|(apply aj.i<;>intro hc))
 refine Wp.bW (fun m s=>∃(i bo:Nat) (out:List Nat) (v:AV),val s.tm (.t 0)=va∧val s.tm (.t 1)=vb∧val s.tm (.t 5)=v∧val s.tm (.t 6)= .int .i64 bo∧val s.tm (.t 7)= .int .i64 i∧
  aH h s.hp∧cO 1 h s.hp v i (out.map (wd .i64))∧out.length=i∧Dg 1000000000 out∧bo≤1∧i≤a.length∧
  vl 1000000000 out+vl 1000000000 (b.take i)=vl 1000000000 (a.take i)+1000000000^i*bo∧a.length-i=m) (n:=a.length) ?_ ?_
 ·exact⟨0,0,[],.aq,aS,aS,aS,by(simp(disch:=try exact ab) only[go_sem,seval])<;>rfl,by(simp(disch:=try exact ab) only[go_sem,seval])<;>rfl,aH.refl _,cO.nil,rfl,Dg.nil,by omega,by omega,by simp[vl],rfl⟩
 ·rintro m ⟨tm,hp⟩ ⟨i,bo,out,v,h0,h1,h5,h6,h7,hG,hO,hlo,hd,WC,Wh,hinv,rfl⟩;simp only at h0 h1 h5 h6 h7 hG hO;have ra:=(ha.aO hG).rd;have lna:=ra.len;by_cases hlt:i<a.length
  ·have hlt':(i:Int)<a.length:=by omega
   have ada:=ra.jn;have lda:=ra.load i hlt;have ola:=ra.old (by omega);have dB:=fun{K:AV→Hp→Prop}=>d296 (K:=K) (hb.aO hG) i
   have tka:=bg (B:=1000000000) hlt;have tkb:=jB (B:=1000000000) (l:=b) (i:=i);have hxd:=Dg.getD (B:=1000000000) (by decide) da i;have uO:=Dg.getD (B:=1000000000) (by decide) db i
   have fin:∀r Im,r+b.getD i 0+bo=a.getD i 0+1000000000*Im→vl 1000000000 (out++[r])+vl 1000000000 (b.take (i+1))=vl 1000000000 (a.take (i+1))+1000000000^(i+1)*Im:=by
    intro r Im hr;rw[jv,hlo,tka,tkb,aV];exact DD hinv hr
   generalize a.getD i 0=xi at *
   generalize b.getD i 0=yi at *
   by_cases hn:(xi:Int)-yi-bo<0
   ·have er:(xi:Int)-yi-bo+1000000000=((xi+1000000000-yi-bo:Nat):Int):=by omega
    repeat'(with_reducible first|simp(disch:=try exact ab) only[go_sem,seval,h0,h1,h5,h6,h7,lna,hlt',ada,lda,ola,dB,hn,er,jA]|(apply aj.i<;>intro hc))
    refine cO.wp (h0:=h) (b:=8) rfl hG hO rfl (by decide) (by omega) (by omega) fun v' h' G' O'=>?_
    repeat'(with_reducible first|simp(disch:=try exact ab) only[go_sem,seval,h0,h1,h5,h6,h7]|(apply aj.i<;>intro hc))
    refine⟨_,?_,i+1,1,out++[xi+1000000000-yi-bo],rfl,rfl,G',?_,by simp[hlo],hd.append (Dg.cons (by omega) Dg.nil),ae _,hlt,fin _ _ (by omega),rfl⟩
    ·omega
    ·rw[dT];exact O'
   ·have er:(xi:Int)-yi-bo=((xi-yi-bo:Nat):Int):=by omega
    rw[er]at hn;repeat'(with_reducible first|simp(disch:=try exact ab) only[go_sem,seval,h0,h1,h5,h6,h7,lna,hlt',ada,lda,ola,dB,er,hn,jA]|(apply aj.i<;>intro hc))
    refine cO.wp (h0:=h) (b:=8) rfl hG hO rfl (by decide) (by omega) (by omega) fun v' h' G' O'=>?_
    repeat'(with_reducible first|simp(disch:=try exact ab) only[go_sem,seval,h0,h1,h5,h6,h7]|(apply aj.i<;>intro hc))
    refine⟨_,?_,i+1,0,out++[xi-yi-bo],rfl,rfl,G',?_,by simp[hlo],hd.append (Dg.cons (by omega) Dg.nil),by omega,hlt,fin _ _ (by omega),rfl⟩
    ·omega
    ·rw[dT];exact O'
  ·have hlt':¬(i:Int)<a.length:=by omega
   obtain rfl:i=a.length:=by omega
   repeat'(with_reducible first|simp(disch:=try exact ab) only[go_sem,seval,h0,h1,h5,h6,h7,lna,hlt']|(apply aj.i<;>intro hc))
   refine Gp.wp (ui (hO.sq hlo) (by omega)) fun v' h' k j g hv'=>?_
   repeat'(with_reducible first|simp(disch:=try exact ab) only[go_sem,seval]|(apply aj.i<;>intro hc))
   refine⟨⟨_,hv',hd.trim,eJ _,?_⟩,hG.ov⟩;rw[fQ];rw[bj,aP hlb]at hinv;have h1:=gI (B:=1000000000) (by decide) hd;rw[hlo]at h1
   have:bo=0:=by
    rcases aE bo with h0|h0
    ·exact h0
    ·have:bo=1:=by omega
     subst this;omega
   subst this;omega
theorem DU {P Q Bj V V' V0 Y x y o c c' r:Nat}(h:V+Q*c=V0+P*(x*Y))(hQ:Q=P*Bj)(hr:r+1000000000*c'=o+x*y+c)(hV:V'+Q*o=V+Q*r):
  V'+Q*1000000000*c'=V0+P*(x*(Y+Bj*y)):=yT h hQ (by omega) hV
theorem d253 {va vb:AV}{a b:List Nat}(ha:Sq .i64 h va a)(hb:Sq .i64 h vb b)(da:Dg 1000000000 a)(db:Dg 1000000000 b)(hla:a.length≤1000000)(hlb:b.length≤1000000):
  Gp E3 253 [va,vb] h fun v h'=>∃l,Sq .i64 h' v l∧Dg 1000000000 l∧Norm l∧vl 1000000000 l=vl 1000000000 a*vl 1000000000 b:=by
 refine Gp.of (ac.fn (fn:=R.K8) rfl rfl rfl ?_);unfold R.K8;have la:=ha.rd.len;have lb:=hb.rd.len;have mk:=fun{h:Hp} {K:AV→Hp→Prop}=>mU.JZ (h:=h) (K:=K) (b:=8) (z:= .int .i64 0) (m:=(a.length:Int)+b.length) (a.length+b.length) (by omega) rfl (by omega)
 repeat'(with_reducible first|simp(disch:=try exact ab) only[go_sem,seval,la,lb,mk]|(apply aj.i<;>intro hc))
 have hz:(av (a.length+b.length) (AV.int .i64 0))=(av (a.length+b.length) 0).map (wd .i64):=by rw[gC];rfl
 rw[hz]
 refine Wp.bW (fun m s=>∃(i:Nat) (out:List Nat),val s.tm (.t 0)=va∧val s.tm (.t 1)=vb∧val s.tm (.t 5)= .sl h.next 0 (a.length+b.length) 1∧val s.tm (.t 6)= .int .i64 i∧
  aH h s.hp∧bG s.hp h.next (out.map (wd .i64))∧out.length=a.length+b.length∧Dg 1000000000 out∧i≤a.length∧
  vl 1000000000 out=vl 1000000000 (a.take i)*vl 1000000000 b∧(∀k,i+b.length≤k→out.getD k 0=0)∧a.length-i=m) (n:=a.length) ?_ ?_
 ·refine⟨0,av (a.length+b.length) 0,aS,aS,aS,by(simp(disch:=try exact ab) only[go_sem,seval])<;>rfl,?_,?_,by simp,Dg.oV (by decide) _,by omega,by simp[vl,nc],?_,rfl⟩
  ·exact aL
  ·exact bG.push
  ·intro k _;simp only[bQ,nQ];split<;>rfl
 ·rintro m ⟨tm,hp⟩ ⟨i,out,h0,h1,h5,h6,hG,hAt,hlo,hd,hle,hinv,hzero,rfl⟩;simp only at h0 h1 h5 h6 hG hAt;have lna:=(ha.aO hG).rd.len;by_cases hlt:i<a.length
  ·have hlt':(i:Int)<a.length:=by omega
   have hxd:=Dg.getD (B:=1000000000) (by decide) da i;have tka:=bg (B:=1000000000) hlt;have RE:=fun(hq:Hp) (g:aH h hq)=>(ha.aO g).rd.load i hlt
   generalize a.getD i 0=xi at *
   obtain⟨UB,T6,hs0,hn0⟩:=id hAt;repeat'(with_reducible first|simp(disch:=try exact ab) only[go_sem,seval,h0,h1,h5,h6,lna,hlt']|(apply aj.i<;>intro hc))
   refine Wp.bW (fun m s=>∃(j c:Nat) (fg:List Nat),val s.tm (.t 0)=va∧val s.tm (.t 1)=vb∧val s.tm (.t 5)= .sl h.next 0 (a.length+b.length) 1∧val s.tm (.t 6)= .int .i64 i∧val s.tm (.t 7)= .int .i64 c∧val s.tm (.t 8)= .int .i64 j∧
    aH h s.hp∧bG s.hp h.next (fg.map (wd .i64))∧fg.length=a.length+b.length∧Dg 1000000000 fg∧j≤b.length∧c<1000000000∧
    vl 1000000000 fg+1000000000^(i+j)*c=vl 1000000000 out+1000000000^i*(xi*vl 1000000000 (b.take j))∧(∀k,i+b.length≤k→fg.getD k 0=0)∧b.length-j=m) (n:=b.length) ?_ ?_
   ·exact⟨0,0,out,by simp(disch:=try exact ab) only[go_sem,seval,h0],by simp(disch:=try exact ab) only[go_sem,seval,h1],by simp(disch:=try exact ab) only[go_sem,seval,h5],by simp(disch:=try exact ab) only[go_sem,seval,h6],by(simp(disch:=try exact ab) only[go_sem,seval])<;>rfl,by(simp(disch:=try exact ab) only[go_sem,seval])<;>rfl,hG,hAt,hlo,hd,Nat.zero_le _,by decide,by simp[vl],hzero,rfl⟩
   ·rintro m ⟨fI,hq⟩ ⟨j,c,fg,k0,k1,k5,k6,k7,k8,zl,hA',Hq,mZ,pC,hc,zg,nC,rfl⟩;simp only at k0 k1 k5 k6 k7 k8 zl hA';have lnb:=(hb.aO zl).rd.len;have hnx:=hA'.lt;by_cases OB:j<b.length
    ·have By:(j:Int)<b.length:=by omega
     have ra:=(ha.aO zl).rd;have rb:=(hb.aO zl).rd;have ada:=ra.jn;have adb:=rb.jn;have lda:=RE hq zl;have ldb:=rb.load j OB;have ola:=ra.old (by omega);have olb:=rb.old (by omega);have uO:=Dg.getD (B:=1000000000) (by decide) db j;have tkb:=bg (B:=1000000000) OB;generalize b.getD j 0=yj at *
     have hij:(((i:Int)+j)).toNat=i+j:=by omega
     have ld:=hA'.MF (i:=i+j) (by omega);have sw:=hA'.vA (i:=i+j) (by omega);have od:=hA'.old;have ZW:=Dg.getD (B:=1000000000) (by decide) mZ (i+j);have DZ:=fun r=>pk (B:=1000000000) (l:=fg) (i:=i+j) (x:=r) (by omega)
     generalize fg.getD (i+j) 0=oj at *
     have hpp:xi*yj≤999999999*999999999:=fG (by omega) (by omega);have hij2:(0:Int)≤(i:Int)+j∧(i:Int)+j<((a.length+b.length:Nat):Int):=by omega
     have hst:∀c' r V',r+1000000000*c'=oj+xi*yj+c→V'+1000000000^(i+j)*oj=vl 1000000000 fg+1000000000^(i+j)*r→V'+1000000000^(i+j)*1000000000*c'=vl 1000000000 out+1000000000^i*(xi*(vl 1000000000 (b.take j)+1000000000^j*yj)):=fun c' r V' hr hV=>DU zg (by rw[dm]) hr hV
     have m0:(xi:Int)*yj=((xi*yj:Nat):Int):=(ce _ _).symm;generalize xi*yj=pr at *
     have em:((oj:Int)+pr+c)%1000000000=((oj+pr+c)%1000000000:Nat):=by omega
     have eq:((oj:Int)+pr+c)/1000000000=((oj+pr+c)/1000000000:Nat):=by omega
     repeat'(with_reducible first|simp(disch:=try exact ab) only[go_sem,seval,k0,k1,k5,k6,k7,k8,lnb,By,ada,adb,lda,ldb,ola,olb,hij,ld,sw,od,m0,em,eq]|(apply aj.i<;>intro hc))
     refine⟨_,?_,j+1,(oj+pr+c)/1000000000,fg.set (i+j) ((oj+pr+c)%1000000000),by simp,rfl,aH.put zl (ae _),bG.put hnx,by simpa using Hq,mZ.set _ (bq _ (by decide)),OB,by omega,?_,?_,rfl⟩
     ·omega
     ·rw[←dz,aV,tkb];exact hst _ _ _ (by omega) (DZ _)
     ·intro k hk;rw[Bg.getD_set_ne (show i+j≠k by omega)];exact nC k hk
    ·have By:¬(j:Int)<b.length:=by omega
     obtain rfl:j=b.length:=by omega
     have hij:(((i:Int)+b.length)).toNat=i+b.length:=by omega
     have ld:=hA'.MF (i:=i+b.length) (by omega);have sw:=hA'.vA (i:=i+b.length) (by omega);rw[nC _ (ae _)]at ld;have e0:((0:Nat):Int)+c=c:=by omega
     repeat'(with_reducible first|simp(disch:=try exact ab) only[go_sem,seval,k0,k1,k5,k6,k7,k8,lnb,By,hij,ld,sw,e0]|(apply aj.i<;>intro hc))
     refine⟨_,?_,i+1,fg.set (i+b.length) c,rfl,aH.put zl (ae _),bG.put hnx,by simpa using Hq,mZ.set _ hc,hlt,?_,?_,rfl⟩
     ·omega
     ·have e:=pk (B:=1000000000) (l:=fg) (i:=i+b.length) (x:=c) (by omega);rw[nC _ (ae _),fW,aY]at e;rw[e,zg,hinv,tka,bj,bh,aF]
     ·intro k hk;rw[Bg.getD_set_ne (show i+b.length≠k by omega)];exact nC k (by omega)
  ·have hlt':¬(i:Int)<a.length:=by omega
   obtain rfl:i=a.length:=by omega
   repeat'(with_reducible first|simp(disch:=try exact ab) only[go_sem,seval,h0,h1,h5,h6,lna,hlt']|(apply aj.i<;>intro hc))
   refine Gp.wp (ui (hAt.sq hlo) (by omega)) fun v h' k j g hv=>?_
   repeat'(with_reducible first|simp(disch:=try exact ab) only[go_sem,seval]|(apply aj.i<;>intro hc))
   refine⟨⟨_,hv,hd.trim,eJ _,?_⟩,hG.ov⟩;rw[fQ,hinv,bj]
def TE (q r:Nat)(v:AV)(h':Hp):Prop:=∃vq lq,v= .fO [vq,.int .i64 r]∧Sq .i64 h' vq lq∧Dg 1000000000 lq∧Norm lq∧vl 1000000000 lq=q
theorem d270 {va:AV}{a:List Nat}{b0:Nat}(ha:Sq .i64 h va a)(da:Dg 1000000000 a)(db:b0<1000000000)(hb0:0<b0)(hl:a.length≤1000000):
  Gp E3 270 [va,.int .i64 b0] h (TE (vl 1000000000 a/b0) (vl 1000000000 a%b0)):=by
 refine Gp.of (ac.fn (fn:=R.KY) rfl rfl rfl ?_);unfold R.KY;have la:=ha.rd.len;have mk:=fun{h:Hp} {K:AV→Hp→Prop}=>mU.int (h:=h) (K:=K) (b:=8) (z:= .int .i64 0) (n:=a.length) rfl (by omega)
 have ilen:IntKind.wrap .i64 ((a.length:Int)-1)=(a.length:Int)-1:=wrap_i64 (by omega);repeat'(with_reducible first|simp(disch:=try exact ab) only[go_sem,seval,la,mk,ilen]|(apply aj.i<;>intro hc))
 have hz:(av a.length (AV.int .i64 0))=(av a.length 0).map (wd .i64):=by rw[gC];rfl
 rw[hz]
 refine Wp.bW (fun m s'=>∃(k rem:Nat) (out:List Nat),val s'.tm (.t 0)=va∧val s'.tm (.t 1)= .int .i64 b0∧val s'.tm (.t 6)= .sl h.next 0 a.length 1∧val s'.tm (.t 7)= .int .i64 rem∧val s'.tm (.t 8)= .int .i64 ((k:Int)-1)∧
  aH h s'.hp∧bG s'.hp h.next (out.map (wd .i64))∧out.length=a.length∧Dg 1000000000 out∧rem<b0∧k≤a.length∧vl 1000000000 (a.drop k)=vl 1000000000 (out.drop k)*b0+rem∧k=m) (n:=a.length) ?_ ?_
 ·refine⟨a.length,0,av a.length 0,aS,aS,aS,by(simp(disch:=try exact ab) only[go_sem,seval])<;>rfl,aS,?_,bG.push,by simp,Dg.oV (by decide) _,hb0,ae _,?_,rfl⟩
  ·exact aL
  ·rw[dN (by simp),dN (by simp)];simp[vl]
 ·rintro m ⟨tm,hp⟩ ⟨k,rem,out,h0,h1,h6,h7,h8,hG,hA,hlo,hd,zd,hk,hinv,rfl⟩;simp only at h0 h1 h6 h7 h8 hG hA;rcases aE k with rfl|hpos
  ·have e0:((0:Nat):Int)-1= -1:=rfl;have hS:=hA.sq (n:=a.length) hlo;simp only[eE]at hinv;have hq:vl 1000000000 out=vl 1000000000 a/b0:=by rw[hinv,aA,mV hb0,iS zd,aY]
   have hr:rem=vl 1000000000 a%b0:=by rw[hinv,aA,xV,cH zd]
   repeat'(with_reducible first|simp(disch:=try exact ab) only[go_sem,seval,h0,h1,h6,h7,h8,e0]|(apply aj.i<;>intro hc))
   refine Gp.wp (ui hS (by omega)) fun v1 k1 a1 b1 u1 S1=>?_
   repeat'(with_reducible first|simp(disch:=try exact ab) only[go_sem,seval,h7]|(apply aj.i<;>intro hc))
   refine⟨⟨v1,_,by rw[hr],S1,hd.trim,eJ _,by rw[fQ,hq]⟩,hG.ov⟩
  ·have e1:((k:Int)-1).toNat=k-1:=by omega
   have hp1:(0:Int)≤(k:Int)-1:=by omega
   have ra:=(ha.aO hG).rd;have ada:=ra.jn;have lda:=ra.load (k-1) (by omega);have ola:=ra.old (by omega);have sw:=hA.vA (i:=k-1) (by omega);have hnx:=hA.lt;have PK:=Dg.getD (B:=1000000000) (by decide) da (k-1);have Sc:=jw (B:=1000000000) (l:=a) (j:=k-1) (by omega);have Sb:=fun q=>kC (B:=1000000000) (q:=q) (l:=out) (j:=k-1) (by omega)
   rw[bT hpos]at Sc;simp only[bT hpos]at Sb;generalize a.getD (k-1) 0=ak at *
   have hqB:(rem*1000000000+ak)/b0<1000000000:=by
    rw[df hb0,aA];have:(rem+1)*1000000000≤b0*1000000000:=aM _ zd;omega
   have hrl:(rem*1000000000+ak)%b0<b0:=bq _ hb0;have uZ:=sZ (B:=1000000000) (x:=ak) hinv (cE (rem*1000000000+ak) b0).symm;obtain⟨t9,ht9⟩:∃t9,t9=rem*1000000000+ak:=⟨_,rfl⟩
   have e9:(rem:Int)*1000000000+ak=(t9:Nat):=by omega
   rw[←ht9]at hqB hrl uZ;have eq:(t9:Int)/b0=((t9/b0:Nat):Int):=rfl;have em:(t9:Int)%b0=((t9%b0:Nat):Int):=rfl;have hbi:0<(b0:Int):=by omega
   obtain⟨q0,hq0⟩:∃q0,q0=t9/b0:=⟨_,rfl⟩
   obtain⟨r0,hr0⟩:∃r0,r0=t9%b0:=⟨_,rfl⟩
   rw[←hq0]at hqB eq;rw[←hr0]at hrl em;rw[←hq0,←hr0]at uZ;have wq:IntKind.wrap .i64 (q0:Int)=q0:=wrap_i64 (by omega);have ik:IntKind.wrap .i64 ((k:Int)-1-1)=(k:Int)-1-1:=wrap_i64 (by omega);repeat'(with_reducible first|simp(disch:=try exact ab) only[go_sem,seval,h0,h1,h6,h7,h8,hp1,e1,ada,lda,ola,sw,e9,eq,em,wq,ik,nN,uz]|(apply aj.i<;>intro hc))
   refine⟨k-1,by omega,k-1,r0,out.set (k-1) q0,rfl,?_,?_,bG.put hnx,by simpa using hlo,hd.set _ hqB,hrl,by omega,?_,rfl⟩
   ·congr 1;omega
   ·exact aH.put hG (ae _)
   ·rw[Sc,Sb];exact uZ
end
end
end Go.Ae
namespace Go.Ae
open Bg
noncomputable section
section
variable {h:Hp}{K:AV→Hp→Prop}
theorem d272 {va vb:AV}{a v:List Nat}{j un um ul v1 v0 Q:Nat}(ha:Sq .i64 h va a)(hv:Sq .i64 h vb v)(h2:2≤v.length)(hj:j+v.length<a.length)(hla:a.length≤1000000)(da:Dg 1000000000 a)(dv:Dg 1000000000 v)
  (gn:a.getD (j+v.length) 0=un) (gm:a.getD (j+v.length-1) 0=um) (gl:a.getD (j+v.length-2) 0=ul) (g1:v.getD (v.length-1) 0=v1) (g0:v.getD (v.length-2) 0=v0) (hv1:0<v1)
  (hU:un*1000000000+um≤v1*1000000000+v0) (hQB:Q<1000000000) (hQU:Q*(v1*1000000000+v0)≤(un*1000000000+um)*1000000000+ul):
  ac E3 272 [va,vb,.int .i64 j] h fun v' h'=>∃q:Nat,v'= .int .i64 q∧h'=h∧Q≤q∧q<1000000000∧q*(v1*1000000000+v0)≤(un*1000000000+um)*1000000000+ul:=by
 refine ac.fn (fn:=R.KX) rfl rfl rfl ?_;unfold R.KX;have ra:=ha.rd;have rv:=hv.rd;have lnv:=rv.len;have ada:=ra.jn;have adv:=rv.jn;have oa:=ra.old (by omega);have ov:=rv.old (by omega);have ldn:=ra.load (j+v.length) (by omega);have ldm:=ra.load (j+v.length-1) (by omega);have ldl:=ra.load (j+v.length-2) (by omega);have ld1:=rv.load (v.length-1) (by omega);have ld0:=rv.load (v.length-2) (by omega)
 have VM:=Dg.getD (B:=1000000000) (by decide) da (j+v.length);have hum:=Dg.getD (B:=1000000000) (by decide) da (j+v.length-1);have ET:=Dg.getD (B:=1000000000) (by decide) da (j+v.length-2);have Bs:=Dg.getD (B:=1000000000) (by decide) dv (v.length-1);have Bt:=Dg.getD (B:=1000000000) (by decide) dv (v.length-2);rw[gn]at ldn VM;rw[gm]at ldm hum;rw[gl]at ldl ET;rw[g1]at ld1 Bs;rw[g0]at ld0 Bt
 have i0:((j:Int)+v.length).toNat=j+v.length:=by omega
 have i1:((j:Int)+v.length-1).toNat=j+v.length-1:=by omega
 have i2:((j:Int)+v.length-2).toNat=j+v.length-2:=by omega
 have k1:((v.length:Int)-1).toNat=v.length-1:=by omega
 have k2:((v.length:Int)-2).toNat=v.length-2:=by omega
 have hE:=xJ.first (b:=1000000000) (v0:=v0) (u:=ul) hv1 ET hQU;obtain⟨U,hUd⟩:∃U,U=un*1000000000+um:=⟨_,rfl⟩
 rw[←hUd]at hE hU hQU⊢;have eU:(un:Int)*1000000000+um=(U:Nat):=by omega
 have hUl:U<1000000000000000000:=by omega
 have qle:=jp U v1;have rlt:U%v1<v1:=bq _ hv1;have hv1i:0<(v1:Int):=by omega
 have eq:(U:Int)/v1=((U/v1:Nat):Int):=rfl;have em:(U:Int)%v1=((U%v1:Nat):Int):=rfl;obtain⟨Q0,hQ0⟩:∃Q0,Q0=U/v1:=⟨_,rfl⟩
 obtain⟨R0,hR0⟩:∃R0,R0=U%v1:=⟨_,rfl⟩
 rw[←hQ0]at qle eq hE;rw[←hR0]at rlt em hE;have wq:IntKind.wrap .i64 (Q0:Int)=Q0:=wrap_i64 (by omega);have w8:IntKind.wrap .i64 ((un:Int)*1000000000)=(un:Int)*1000000000:=wrap_i64 (by omega);repeat'(with_reducible first|simp(disch:=try exact ab) only[go_sem,seval,lnv,ada,adv,oa,ov,ldn,ldm,ld1,i0,i1,k1,w8,eU,eq,em,wq,nN,uz]|(apply aj.i<;>intro hc))
 refine Wp.bW (fun m s'=>∃q r:Nat,val s'.tm (.t 0)=va∧val s'.tm (.t 1)=vb∧val s'.tm (.t 2)= .int .i64 j∧val s'.tm (.t 7)= .int .i64 v.length∧val s'.tm (.t 9)= .int .i64 q∧val s'.tm (.t 10)= .int .i64 r∧
  s'.hp=h∧xJ v1 U Q q r∧q≤U∧r<1000000000∧q=m) (n:=Q0) ?_ ?_
 ·exact⟨Q0,R0,aS,aS,aS,aS,aS,aS,rfl,hE,qle,by omega,rfl⟩
 ·rintro m ⟨tm,hp⟩ ⟨q,r,h0,h1,h2',h7,h9,h10,rfl,hE,hqU,hr,rfl⟩;simp only at h0 h1 h2' h7 h9 h10;by_cases ze:(1000000000:Int)≤q
  ·obtain⟨MK,hEd⟩:=hE.R8 hQB (by omega);have es:(q:Int)-1=((q-1:Nat):Int):=by omega
   have ea:(r:Int)+v1=((r+v1:Nat):Int):=by omega
   by_cases hrb:(1000000000:Int)≤((r+v1:Nat):Int)
   ·obtain⟨f1,f2⟩:=hEd.tT (v0:=v0) (b:=1000000000) (u:=ul) Bt hU (by omega);have f3:=hEd.ok f2;repeat'(with_reducible first|simp(disch:=try exact ab) only[go_sem,seval,h0,h1,h2',h7,h9,h10,ze,es,ea,hrb,adv,ld1,k1]|(apply aj.i<;>intro hc))
    exact⟨q-1,rfl,hEd.ge,f1,f3⟩
   ·repeat'(with_reducible first|simp(disch:=try exact ab) only[go_sem,seval,h0,h1,h2',h7,h9,h10,ze,es,ea,hrb,adv,ld1,k1]|(apply aj.i<;>intro hc))
    exact⟨q-1,by omega,q-1,r+v1,rfl,rfl,hEd,by omega,by omega,rfl⟩
  ·have hqv:q*v0≤999999999*999999999:=fG (by omega) (by omega);have m0:(q:Int)*v0=((q*v0:Nat):Int):=(ce _ _).symm;have ok:=hE.ok (b:=1000000000) (v0:=v0) (u:=ul);have dn:=hE.down (b:=1000000000) (v0:=v0) (u:=ul) hQU;generalize q*v0=qv at *
   by_cases hc:(r:Int)*1000000000+ul<qv
   ·obtain⟨MK,hEd⟩:=dn (by omega);have es:(q:Int)-1=((q-1:Nat):Int):=by omega
    have ea:(r:Int)+v1=((r+v1:Nat):Int):=by omega
    by_cases hrb:(1000000000:Int)≤((r+v1:Nat):Int)
    ·obtain⟨f1,f2⟩:=hEd.tT (v0:=v0) (b:=1000000000) (u:=ul) Bt hU (by omega);have f3:=hEd.ok f2;repeat'(with_reducible first|simp(disch:=try exact ab) only[go_sem,seval,h0,h1,h2',h7,h9,h10,ze,es,ea,hrb,ada,adv,ld1,ld0,ldl,oa,ov,i2,k1,k2,m0,hc]|(apply aj.i<;>intro hc))
     exact⟨q-1,rfl,hEd.ge,f1,f3⟩
    ·repeat'(with_reducible first|simp(disch:=try exact ab) only[go_sem,seval,h0,h1,h2',h7,h9,h10,ze,es,ea,hrb,ada,adv,ld1,ld0,ldl,oa,ov,i2,k1,k2,m0,hc]|(apply aj.i<;>intro hc))
     exact⟨q-1,by omega,q-1,r+v1,rfl,rfl,hEd,by omega,by omega,rfl⟩
   ·repeat'(with_reducible first|simp(disch:=try exact ab) only[go_sem,seval,h0,h1,h2',h7,h9,h10,ze,ada,adv,ld1,ld0,ldl,oa,ov,i2,k1,k2,m0,hc]|(apply aj.i<;>intro hc))
    exact⟨q,rfl,hE.ge,by omega,ok (by omega)⟩
end
end
end Go.Ae
namespace Go.Ae
open Bg
noncomputable section
theorem ac.imp {E:Env}{f:Nat}{args:List AV}{h:Hp}{P K:AV→Hp→Prop}(hc:ac E f args h P)(hk:∀v h',P v h'→K v h'):ac E f args h K:=by
 obtain⟨v,h',h1,h2⟩:=hc;exact⟨v,h',h1,hk v h' h2⟩
def Px (q r:Nat)(v:AV)(h':Hp):Prop:=∃vq vr lq lr,v= .fO [vq,vr]∧Sq .i64 h' vq lq∧Sq .i64 h' vr lr∧Dg 1000000000 lq∧Dg 1000000000 lr∧Norm lq∧Norm lr∧vl 1000000000 lq=q∧vl 1000000000 lr=r
section
variable {h h' hp:Hp}{K:AV→Hp→Prop}{tm:T AV}{t i:Nat}{P X S:List Nat}{Z:List AV}{c:AV}
theorem bG.mX (a:bG h t ((P++X).map (wd .i64)++Z))(hi:i<X.length):∀h' K,fU false 1 (P.length+i) (h.get t) h' K↔K (.int .i64 (X.getD i 0:Nat)) h':=by
 obtain⟨st,hg,hs,ht⟩:=a;intro h' K;have e:=Fi (P:=P) (S:=[]) hi;rw[iK]at e;rw[hg,fU.row,if_pos (by simp only[aU,ar];omega),if_neg (by decide),cB (by simp only[aU,ar];omega),jx (by simp only[ar];omega),e];exact ax
theorem bG.stx (a:bG h t ((P++X).map (wd .i64)++Z))(hi:i<X.length):∀(x:Nat) h' K,fb 1 t (P.length+i) (.int .i64 (x:Int)) (h.get t) h' K↔K jC (h'.put t fun st=> .row ((P++X.set i x).map (wd .i64)++Z) true st):=by
 obtain⟨st,hg,hs,ht⟩:=a;intro x h' K;rw[hg,fb.row];have e0:=Ck (P:=P) (S:=[]) (x:=x) hi;rw[iK,iK]at e0
 have e:dU ((P++X).map (wd .i64)++Z) (P.length+i) (AV.cells (.int .i64 (x:Int)))=(P++X.set i x).map (wd .i64)++Z:=by
  rw[←e0,←iX (by simp only[ar];omega)];show fH (P.length+i) ((P++X).map (wd .i64)++Z)++([AV.int .i64 (x:Int)]++gJ (P.length+i+1) ((P++X).map (wd .i64)++Z))=_
  rw[List.take_append_of_le_length (by simp only[aU,ar];omega),wD (by simp only[aU,ar];omega)];simp
 rw[e];constructor
 ·exact fun hk=>hk.2.2.2
 ·exact fun hk=>⟨rfl,by simp only[aU,ar];omega,rfl,hk⟩
theorem bG.PB (a:bG h t ((P++X).map (wd .i64)++(c::Z))):∀h' K,fU false 1 (P.length+X.length) (h.get t) h' K↔K c h':=by
 obtain⟨st,hg,hs,ht⟩:=a;intro h' K;rw[hg,fU.row,if_pos (by simp only[aU,ar,ap];omega),if_neg (by decide),eP (by simp only[aU,ar];omega)];simp only[aU,ar,Nat.sub_self,List.getElem?_cons_zero];exact ax
theorem bG.Zx (a:bG h t ((P++X).map (wd .i64)++(c::Z))):∀(x:Int) h' K,fb 1 t (P.length+X.length) (.int .i64 x) (h.get t) h' K↔K jC (h'.put t fun st=> .row ((P++X).map (wd .i64)++(.int .i64 x::Z)) true st):=by
 obtain⟨st,hg,hs,ht⟩:=a;intro x h' K;rw[hg,fb.row]
 have e:dU ((P++X).map (wd .i64)++(c::Z)) (P.length+X.length) (AV.cells (.int .i64 x))=(P++X).map (wd .i64)++(.int .i64 x::Z):=by
  show fH (P.length+X.length) ((P++X).map (wd .i64)++(c::Z))++([AV.int .i64 x]++gJ (P.length+X.length+1) ((P++X).map (wd .i64)++(c::Z)))=_
  have hl:((P++X).map (wd .i64)).length=P.length+X.length:=by simp
  rw[←hl,List.take_left,←eG,List.drop_left];simp
 rw[e];constructor
 ·exact fun hk=>hk.2.2.2
 ·exact fun hk=>⟨rfl,by simp only[aU,ar,ap];omega,rfl,hk⟩
theorem GU {P V X W q v x x' ca Ih:Nat}(h:X+q*V=W+P*ca)(hx:x'+(q*v+ca)=x+1000000000*Ih):X+P*x'+q*(V+P*v)=W+P*x+P*1000000000*Ih:=by
 have e1:P*(x'+(q*v+ca))=P*(x+1000000000*Ih):=by rw[hx]
 have e3:q*(P*v)=P*(q*v):=by ac_rfl
 rw[ay,ay,ay,←aF P 1000000000]at e1;rw[ay,e3];omega
theorem Kz {T0 tq n N M Rr f:Nat}{v8:AV}{L out:List Nat}(h8:val tm (.t 8)=v8)(h10:val tm (.t 10)= .int .i64 n)(h11:val tm (.t 11)= .sl T0 0 N 1)(h12:val tm (.t 12)= .sl tq 0 M 1)
  (hG:aH h hp) (hT:h.next≤T0) (hA:bG hp T0 (L.map (wd .i64))) (hL:L.length=N) (dL:Dg 1000000000 L) (hn:n≤N) (hN:N≤1000000) (hv:vl 1000000000 L=Rr*f) (hlt:vl 1000000000 L<1000000000^n)
  (hS8:Sq .i64 hp v8 [f]) (hf:0<f) (hfB:f<1000000000) (hq:bG hp tq (out.map (wd .i64))) (ho:out.length=M) (dq:Dg 1000000000 out) (hM:M≤1000001):
  Wp E3 ((R.a208.code.post 9).post 1) ⟨tm,hp⟩ (gy [.tmp 4,.tmp 5] fun v h'=>Px (vl 1000000000 out) Rr v h'∧aH h h'):=by
 unfold R.a208;dsimp only[au.post];obtain⟨ht0,htn⟩:=sn (B:=1000000000) (by decide) hlt;have hk2:(0:Int)≤(n:Int)∧(n:Int)≤(N:Int):=by omega
 have sl1:=pn (h:=hp) (t:=T0) (o:=0) (n:=N) (z:=1) (sz:=1) (kd:= .i64) hk2;rw[Int.toNat_natCast]at sl1;obtain⟨st,hg,hst,hTn⟩:=hA
 have S2:Sq .i64 hp (.sl T0 0 n 1) (L.take n):=by
  refine .inr ⟨T0,0,true,st,L,?_,hg,?_,?_,hTn,hst⟩
  ·rw[az,cD (by omega)]
  ·rw[az];omega
  ·rw[az,cD (by omega),eE]
 have tn:=(dL.take n).trim;have tv:vl 1000000000 (dJ (L.take n))=Rr*f:=by rw[fQ,htn,hv]
 repeat'(with_reducible first|simp(disch:=try exact ab) only[go_sem,seval,h8,h10,h11,h12,sl1]|(apply aj.i<;>intro hc))
 refine Gp.wp (ui S2 (by rw[az];omega)) fun v1 k1 a1 b1 u1 S1=>?_
 have r8:=(hS8.aO ⟨_,_,u1⟩:Sq .i64 (hp.ov k1 u1) v8 [f]).rd;have Ua:=r8.jn;have JX:=r8.load 0 (by simp)
 have o8:lR ((hp.ov k1 u1).get (iE v8)) hp.dc=true:=by
  rw[Hp.qS (hS8.rd.tok (by simp))];exact hS8.rd.old (by simp) _ (ae _)
 simp only[de,aY]at JX;have e00:(0:Int).toNat=0:=rfl;repeat'(with_reducible first|simp(disch:=try exact ab) only[go_sem,seval,h8,h10,h11,h12,Ua,JX,o8,e00]|(apply aj.i<;>intro hc))
 have lt:=nf (L.take n);rw[az]at lt;refine Gp.wp (d270 S1 tn hfB hf (by omega)) fun v2 k2 a2 b2 u2 ⟨vq,lq,e2,S3,dlq,nlq,vlq⟩=>?_
 subst e2;have Ru:=(hq.aO ⟨_,_,u1⟩:bG (hp.ov k1 u1) tq _)
 have hq3:=(Ru.aO ⟨_,_,u2⟩:bG ((hp.ov k1 u1).ov k2 u2) tq _)
 repeat'(with_reducible first|simp(disch:=try exact ab) only[go_sem,seval,h8,h10,h11,h12]|(apply aj.i<;>intro hc))
 refine Gp.wp (ui (hq3.sq ho) (by omega)) fun v3 k3 a3 b3 u3 S4=>?_
 repeat'(with_reducible first|simp(disch:=try exact ab) only[go_sem,seval]|(apply aj.i<;>intro hc))
 refine⟨⟨v3,vq,_,_,rfl,S4,S3.aO ⟨_,_,u3⟩,dq.trim,dlq,eJ _,nlq,by rw[fQ],?_⟩,?_⟩
 ·rw[vlq,tv,Nat.mul_div_cancel _ hf]
 ·refine hG.trans ?_;exact aL
end
end
end Go.Ae
set_option maxHeartbeats 4000000
namespace Go.Ae
open Bg
noncomputable section
theorem tU {L:List Nat}{j n i:Nat}(hi:i<n):((L.drop j).take n).getD i 0=L.getD (j+i) 0:=by
 simp only[bQ,gi,if_pos hi,iW]
theorem FM {L:List Nat}{j n:Nat}(h:j+n<L.length):(L.drop j).take (n+1)=(L.drop j).take n++[L.getD (j+n) 0]:=by
 rw[take_succ (by rw[bP];omega)];congr 2;simp only[bQ,iW]
theorem Io {P Xf V R Xn c:Nat}(h:Xf+V=R+P)(hR:R<P)(hx:Xn<P)(hn:Xn+P*c=Xf+V):Xn=R∧c=1:=by
 have:c=1:=by
  rcases aQ c 1 with h0|h0
  ·obtain rfl:c=0:=by omega
   omega
  ·rcases aQ 1 c with h1|h1
   ·have:P*2≤P*c:=aD _ h1;omega
   ·omega
 subst this;omega
theorem Jk {P X0 Xf V W Q q top ca:Nat}(hW:W=X0+P*top)(h:Xf+q*V=X0+P*ca)(hXf:Xf<P)(hV:V<P)(hV0:0<V)(hQ:W/V=Q)(h1:Q≤q)(h2:q≤Q+1):
  (q=Q∧ca=top∧Xf=W%V)∨(q=Q+1∧ca=top+1∧Xf+V=W%V+P):=by
 have uZ:=cE W V;have EU:=bq W hV0;rw[hQ]at uZ;have e:Xf+q*V+P*top=W+P*ca:=by omega
 rcases aQ Q q with g|g
 ·obtain rfl:q=Q+1:=by omega
  rw[bh,Nat.one_mul,aA Q]at e
  have hc:ca=top+1:=by
   rcases mP ca (top+1)with c|c|c
   ·have:=aD P (show ca≤top by omega);omega
   ·exact c
   ·have:=aD P (show top+2≤ca by omega);rw[ay]at this;omega
  subst hc;rw[ay,dF]at e;exact .inr ⟨rfl,rfl,by omega⟩
 ·obtain rfl:q=Q:=by omega
  rw[aA q]at e
  have hc:ca=top:=by
   rcases mP ca top with c|c|c
   ·have:=aD P (show ca+1≤top by omega);rw[ay,dF]at this;omega
   ·exact c
   ·have:=aD P (show top+1≤ca by omega);rw[ay,dF]at this;omega
  subst hc;exact .inl ⟨rfl,rfl,by omega⟩
theorem Sq.oN {kd:IntKind}{h:Hp}{v:AV}{l:List Nat}{t:Nat}{f:Nat→cP}(s:Sq kd h v l)(hn:iE v≠t):Sq kd (h.put t f) v l:=s.kQ (ig.put (t:=t) ig.refl) hn
section
variable {h hp:Hp}{K:AV→Hp→Prop}{tm:T AV}
theorem KA {wv v8:AV}{a v L0:List Nat}{T0 tq f b:Nat}(h8:val tm (.t 8)=v8)(h9:val tm (.t 9)=wv)(h10:val tm (.t 10)= .int .i64 v.length)(h11:val tm (.t 11)= .sl T0 0 (a.length+1) 1)(h12:val tm (.t 12)= .sl tq 0 (a.length+1-v.length) 1)
    (hG:aH h hp) (hv:Sq .i64 hp wv v) (hS8:Sq .i64 hp v8 [f]) (dv:Dg 1000000000 v) (h2:2≤v.length) (hva:v.length≤a.length) (hN:a.length≤999999) (hv1:v.getD (v.length-1) 0≠0)
    (n1:iE wv≠T0) (n2:iE wv≠tq) (n3:iE v8≠T0) (n4:iE v8≠tq) (n5:tq≠T0) (hT:h.next≤T0) (hTq:h.next≤tq)
    (hA:bG hp T0 (L0.map (wd .i64))) (hL:L0.length=a.length+1) (dL:Dg 1000000000 L0) (hq:bG hp tq ((av (a.length+1-v.length) 0).map (wd .i64)))
    (hf:0<f) (hfB:f<1000000000) (hb:0<b) (hvb:vl 1000000000 v=b*f) (hab:vl 1000000000 L0=vl 1000000000 a*f) (htop:vl 1000000000 (L0.drop (a.length+1-v.length))<vl 1000000000 v):
    Wp E3 (R.a208.code.post 9) ⟨tm,hp⟩ (gy [.tmp 4,.tmp 5] fun v h'=>Px (vl 1000000000 a/b) (vl 1000000000 a%b) v h'∧aH h h'):=by
  have hvl:=gI (B:=1000000000) (by decide) dv;have hvp:0<vl 1000000000 v:=by rw[hvb];exact eY hb hf
  have tail:=fun(tm:T AV) (hp:Hp) (L out:List Nat) h8 h10 h11 h12 hG hA hL dL hv hlt hS8 hq ho dq=>Kz (h:=h) (hp:=hp) (tm:=tm) (T0:=T0) (tq:=tq) (n:=v.length) (N:=a.length+1) (M:=a.length+1-v.length) (Rr:=vl 1000000000 a%b) (f:=f) (v8:=v8) (L:=L) (out:=out) h8 h10 h11 h12 hG hT hA hL dL (by omega) (by omega) hv hlt hS8 hf hfB hq ho dq (by omega)
  refine Wp.cut 1 rfl ?_;generalize au.post 1 (au.post 9 R.a208.code)=r at tail⊢
  unfold R.a208;dsimp only[au.post,au.pre];have w1:((a.length+1:Nat):Int)-v.length=((a.length+1-v.length:Nat):Int):=by omega
  have w2:(a.length:Int)+1-v.length=((a.length+1-v.length:Nat):Int):=by omega
  repeat'(with_reducible first|simp(disch:=try exact ab) only[go_sem,seval,h10,h11,w1,w2]|(apply aj.i<;>intro hc))
  refine Wp.bW (fun m s'=>∃(k:Nat) (L out:List Nat),val s'.tm (.t 8)=v8∧val s'.tm (.t 9)=wv∧val s'.tm (.t 10)= .int .i64 v.length∧val s'.tm (.t 11)= .sl T0 0 (a.length+1) 1∧val s'.tm (.t 12)= .sl tq 0 (a.length+1-v.length) 1∧val s'.tm (.t 13)= .int .i64 ((k:Int)-1)∧
    aH h s'.hp∧Sq .i64 s'.hp wv v∧Sq .i64 s'.hp v8 [f]∧bG s'.hp T0 (L.map (wd .i64))∧bG s'.hp tq (out.map (wd .i64))∧L.length=a.length+1∧out.length=a.length+1-v.length∧Dg 1000000000 L∧Dg 1000000000 out∧k≤a.length+1-v.length∧
    (∀i,i<k→L.getD i 0=L0.getD i 0)∧vl 1000000000 (L.drop k)<vl 1000000000 v∧vl 1000000000 (L0.drop k)=vl 1000000000 (out.drop k)*vl 1000000000 v+vl 1000000000 (L.drop k)∧k=m) (n:=a.length+1-v.length) ?_ ?_
  · refine⟨a.length+1-v.length,L0,av (a.length+1-v.length) 0,by simp(disch:=try exact ab) only[go_sem,seval,h8],by simp(disch:=try exact ab) only[go_sem,seval,h9],by simp(disch:=try exact ab) only[go_sem,seval,h10],by simp(disch:=try exact ab) only[go_sem,seval,h11],by simp(disch:=try exact ab) only[go_sem,seval,h12],aS,hG,hv,hS8,hA,hq,hL,by simp,dL,Dg.oV (by decide) _,ae _,fun _ _=>rfl,htop,?_,rfl⟩
    rw[dN (l:=av _ 0) (by simp)];simp[vl]
  · rintro m ⟨tm, hp⟩ ⟨k,L,out,h8,h9,h10,h11,h12,h13,hG,hv,hS8,hA,hq,hL,ho,dL,dq,hk,hlow,hR,hinv,rfl⟩
    simp only at h8 h9 h10 h11 h12 h13 hG hv hS8 hA hq;rcases aE k with rfl|hpos
    · have e0:((0:Nat):Int)-1= -1:=rfl
      simp only[eE]at hinv hR;rw[hab,hvb,←aF]at hinv;rw[hvb]at hR
      have key:vl 1000000000 L=vl 1000000000 a%b*f∧vl 1000000000 out=vl 1000000000 a/b:=by
        have e:vl 1000000000 a*f/(b*f)=vl 1000000000 out:=by
          rw[hinv,aF,aA,mV (eY hb hf),iS hR,aY]
        have e2:vl 1000000000 a*f%(b*f)=vl 1000000000 L:=by
          rw[hinv,aF,aA,xV,cH hR]
        rw[uK _ _ hf]at e;rw[uJ]at e2;exact⟨e2.symm,e.symm⟩
      repeat'(with_reducible first|simp(disch:=try exact ab) only[go_sem,seval,h8,h9,h10,h11,h12,h13,e0]|(apply aj.i<;>intro hc))
      rw[←key.2];exact tail _ _ _ _ (by simp(disch:=try exact ab) only[go_sem,seval,h8]) (by simp(disch:=try exact ab) only[go_sem,seval,h10]) (by simp(disch:=try exact ab) only[go_sem,seval,h11]) (by simp(disch:=try exact ab) only[go_sem,seval,h12]) hG hA hL dL key.1 (by rw[←hvb]at hR;omega) hS8 hq ho dq
    · have e1 : ((k:Int)-1).toNat=k-1:=by omega
      have hp1:(0:Int)≤(k:Int)-1:=by omega
      have ec:((k-1:Nat):Int)=(k:Int)-1:=by omega
      have T4:k-1+v.length<L.length:=by omega
      have hj:(L.take (k-1)).length=k-1:=by rw[az];omega
      have hX0l:((L.drop (k-1)).take v.length).length=v.length:=by rw[az,bP];omega
      have ZT:=FM T4
      have hsp:L=L.take (k-1)++(L.drop (k-1)).take v.length++(L.getD (k-1+v.length) 0::L.drop (k-1+(v.length+1))):=by
        have e:L.getD (k-1+v.length) 0::L.drop (k-1+(v.length+1))=(L.drop (k-1)).drop v.length:=by
          rw[eG,ey (i:=k-1+v.length) T4,getD_eq T4];rfl
        rw[e,cW,fD,fD]
      have dk:=jw (B:=1000000000) (l:=L) (j:=k-1) (by omega);have dk0:=jw (B:=1000000000) (l:=L0) (j:=k-1) (by omega);have dko:=fun q=>kC (B:=1000000000) (q:=q) (l:=out) (j:=k-1) (by omega)
      rw[bT hpos]at dk dk0;simp only[bT hpos]at dko;rw[hlow (k-1) (by omega)]at dk;have hljd:=Dg.getD (B:=1000000000) (by decide) dL (k-1);rw[hlow (k-1) (by omega)]at hljd
      have hWlt:vl 1000000000 (L.drop (k-1))<1000000000*vl 1000000000 v:=by
        rw[dk];have:1000000000*(vl 1000000000 (L.drop k)+1)≤1000000000*vl 1000000000 v:=aD _ hR;omega
      have hBn:vl 1000000000 (L.drop (k-1))<1000000000^(v.length+1):=by
        rw[aV,aA];exact Cc hWlt (gH hvl (by decide))
      obtain⟨ht0,htn⟩:=sn (B:=1000000000) (by decide) hBn;rw[eG]at ht0;have hstep:=vI (B:=1000000000) hinv dk (cE (vl 1000000000 (L.drop (k-1))) (vl 1000000000 v)).symm;rw[←htn]at hstep hWlt;have hWl:((L.drop (k-1)).take (v.length+1)).length=v.length+1:=by rw[az,bP];omega
      have dW:Dg 1000000000 ((L.drop (k-1)).take (v.length+1)):=(dL.drop _).take _;have tv:=P8 (B:=1000000000) (l:=v) h2;have tw:=P7 (B:=1000000000) (W:=(L.drop (k-1)).take (v.length+1)) h2 hWl;have lv:=gI (B:=1000000000) (by decide) (dv.take (v.length-2));have lw:=gI (B:=1000000000) (by decide) (dW.take (v.length-2));rw[az,cD (by omega)]at lv lw;rw[tU (by omega),tU (by omega),tU (by omega)]at tw
      have Hk:=Dg.getD (B:=1000000000) (by decide) dL (k-1+(v.length-2));obtain⟨hQU,zh,hU,_,hQB⟩:=vT (B:=1000000000) (v1:=v.getD (v.length-1) 0) (v0:=v.getD (v.length-2) 0) (U:=L.getD (k-1+v.length) 0*1000000000+L.getD (k-1+(v.length-1)) 0) (u:=L.getD (k-1+(v.length-2)) 0) tv tw lv lw rfl rfl (by omega) (by decide) hWlt
      have zj:=d272 (h:=hp) (va:= .sl T0 0 (a.length+1) 1) (vb:=wv) (a:=L) (v:=v) (j:=k-1) (hA.sq hL) hv h2 T4 (by omega) dL dv rfl rfl rfl rfl rfl (by omega) (by rw[show k-1+v.length-1=k-1+(v.length-1) by omega];exact hU) hQB (by rw[show k-1+v.length-1=k-1+(v.length-1) by omega,show k-1+v.length-2=k-1+(v.length-2) by omega];exact hQU)
      rw[show k-1+v.length-1=k-1+(v.length-1) by omega,show k-1+v.length-2=k-1+(v.length-2) by omega,ec]at zj
      have hrow:L.map (wd .i64)=(L.take (k-1)++(L.drop (k-1)).take v.length).map (wd .i64)++(.int .i64 (L.getD (k-1+v.length) 0:Nat)::(L.drop (k-1+(v.length+1))).map (wd .i64)):=by
        conv=>lhs;rw[hsp]
        rw[dT,eH];rfl
      rw[hrow]at hA;rw[ZT]at hstep zj hWlt zh hQB;have hdW:=bq (vl 1000000000 ((L.drop (k-1)).take v.length++[L.getD (k-1+v.length) 0])) hvp;have dX0:Dg 1000000000 ((L.drop (k-1)).take v.length):=(dL.drop _).take _;have dP:Dg 1000000000 (L.take (k-1)):=dL.take _;have dS:Dg 1000000000 (L.drop (k-1+(v.length+1))):=dL.drop _
      have hSl:(L.take (k-1)).length+(v.length+1)+(L.drop (k-1+(v.length+1))).length=a.length+1:=by
        rw[az,bP];omega
      have hPlow:∀i,i<k-1→(L.take (k-1)).getD i 0=L0.getD i 0:=by
        intro i hi;rw[←hlow i (by omega)];simp only[bQ,gi,if_pos hi]
      have hWv:vl 1000000000 ((L.drop (k-1)).take v.length++[L.getD (k-1+v.length) 0])=vl 1000000000 ((L.drop (k-1)).take v.length)+1000000000^v.length*L.getD (k-1+v.length) 0:=by rw[jv,hX0l]
      obtain⟨P,hP⟩:∃P,P=L.take (k-1):=⟨_,rfl⟩
      obtain⟨X0,hX0⟩:∃X0,X0=(L.drop (k-1)).take v.length:=⟨_,rfl⟩
      obtain⟨S,hS⟩:∃S,S=L.drop (k-1+(v.length+1)):=⟨_,rfl⟩
      obtain⟨top,J9⟩:∃top,top=L.getD (k-1+v.length) 0:=⟨_,rfl⟩
      rw[←hP,←hX0,←hS,←J9]at hA;rw[←hX0,←J9]at hWv hstep zj hdW zh hQB;rw[←hX0]at dX0 hX0l;rw[←hP]at dP hj hPlow;rw[←hS]at dS ht0;rw[←hP,←hS]at hSl;obtain⟨W,hWd⟩:∃W,W=vl 1000000000 (X0++[top]):=⟨_,rfl⟩
      rw[←hWd]at hWv hstep zj hdW zh hQB;have ZR:top<1000000000:=by rw[J9];exact Dg.getD (by decide) dL _
      have close:∀(hp':Hp) (Xn:List Nat) (q':Nat),aH h hp'→Sq .i64 hp' wv v→Sq .i64 hp' v8 [f]→bG hp' T0 ((P++Xn).map (wd .i64)++(.int .i64 0::S.map (wd .i64)))→bG hp' tq ((out.set (k-1) q').map (wd .i64))→Xn.length=v.length→Dg 1000000000 Xn→vl 1000000000 Xn=W%vl 1000000000 v→q'=W/vl 1000000000 v→
          ∃ m',m'<k∧∃(k':Nat) (L' fg:List Nat),(AV.int .i64 ((k:Int)-1-1)= .int .i64 ((k':Int)-1))∧aH h hp'∧Sq .i64 hp' wv v∧Sq .i64 hp' v8 [f]∧bG hp' T0 (L'.map (wd .i64))∧bG hp' tq (fg.map (wd .i64))∧L'.length=a.length+1∧fg.length=a.length+1-v.length∧Dg 1000000000 L'∧Dg 1000000000 fg∧k'≤a.length+1-v.length∧
            (∀i,i<k'→L'.getD i 0=L0.getD i 0)∧vl 1000000000 (L'.drop k')<vl 1000000000 v∧vl 1000000000 (L0.drop k')=vl 1000000000 (fg.drop k')*vl 1000000000 v+vl 1000000000 (L'.drop k')∧k'=m':=by
        intro hp' Xn q' G' V' S8' A' Q' lX dX vX hq'
        have erow:(P++Xn).map (wd .i64)++(.int .i64 0::S.map (wd .i64))=(P++Xn++(0::S)).map (wd .i64):=by
          rw[dT (l₁:=P++Xn),eH];rfl
        rw[erow]at A'
        have hdr:vl 1000000000 ((P++Xn++(0::S)).drop (k-1))=vl 1000000000 Xn:=by
          rw[cW,wD (by omega),dN (by omega),List.nil_append,jU,gz,ht0];simp
        refine⟨k-1,by omega,k-1,P++Xn++(0::S),out.set (k-1) q',by congr 1;omega,G',V',S8',A',Q',?_,by simpa using ho,?_,?_,by omega,?_,?_,?_,rfl⟩
        · simp only[ar,ap];omega
        · exact(dP.append dX).append (Dg.cons (by decide) dS)
        · exact dq.set _ (by rw[hq'];exact hQB)
        · intro i hi
          rw[←hPlow i hi];simp only[bQ];rw[cW,cB (by omega)]
        · rw[hdr,vX];exact hdW
        · rw[hdr,vX,dk0,dko,hq'];exact hstep
      have hiN:∀i:Nat,i<v.length→(0:Int)≤(i:Int)+((k:Int)-1)∧(i:Int)+((k:Int)-1)<((a.length+1:Nat):Int):=fun i hi=>by omega
      clear hrow ZT hsp tw dk;repeat'(with_reducible first|simp(disch:=try exact ab) only[go_sem,seval,h8,h9,h10,h11,h12,h13,hp1]|(apply aj.i<;>intro hc))
      refine zj.imp fun v' h' ⟨q,e,e',MK,hqB,VQ⟩=>?_
      subst e;subst e';have Ru:=zh q hqB VQ;repeat'(with_reducible first|simp(disch:=try exact ab) only[go_sem,seval,h8,h9,h10,h11,h12,h13]|(apply aj.i<;>intro hc))
      refine Wp.bW (fun m s'=>∃(i ca:Nat) (X:List Nat),val s'.tm (.t 8)=v8∧val s'.tm (.t 9)=wv∧val s'.tm (.t 10)= .int .i64 v.length∧val s'.tm (.t 11)= .sl T0 0 (a.length+1) 1∧val s'.tm (.t 12)= .sl tq 0 (a.length+1-v.length) 1∧val s'.tm (.t 13)= .int .i64 ((k:Int)-1)∧val s'.tm (.t 14)= .int .i64 (q:Nat)∧val s'.tm (.t 15)= .int .i64 (ca:Nat)∧val s'.tm (.t 16)= .int .i64 (i:Nat)∧
        aH h s'.hp∧Sq .i64 s'.hp wv v∧Sq .i64 s'.hp v8 [f]∧bG s'.hp tq (out.map (wd .i64))∧bG s'.hp T0 ((P++X).map (wd .i64)++(.int .i64 (top:Nat)::S.map (wd .i64)))∧X.length=v.length∧Dg 1000000000 X∧ca≤1000000000∧i≤v.length∧
        vl 1000000000 (X.take i)+q*vl 1000000000 (v.take i)=vl 1000000000 (X0.take i)+1000000000^i*ca∧(∀k',i≤k'→X.getD k' 0=X0.getD k' 0)∧v.length-i=m) (n:=v.length) ?_ ?_
      · exact⟨0,0,X0,by simp(disch:=try exact ab) only[go_sem,seval,h8],by simp(disch:=try exact ab) only[go_sem,seval,h9],by simp(disch:=try exact ab) only[go_sem,seval,h10],by simp(disch:=try exact ab) only[go_sem,seval,h11],by simp(disch:=try exact ab) only[go_sem,seval,h12],by simp(disch:=try exact ab) only[go_sem,seval,h13],aS,by(simp(disch:=try exact ab) only[go_sem,seval])<;>rfl,by(simp(disch:=try exact ab) only[go_sem,seval])<;>rfl,hG,hv,hS8,hq,hA,hX0l,dX0,by omega,by omega,by simp[vl],fun _ _=>rfl,rfl⟩
      · rintro m ⟨tm,hp⟩ ⟨i,ca,X,h8,h9,h10,h11,h12,h13,h14,IS,RS,hG,hv,hS8,hq,hA,hX,dX,hca,hle,Hu,hsame,rfl⟩
        simp only at h8 h9 h10 h11 h12 h13 h14 IS RS hG hv hS8 hq hA;have hnx:=hA.lt;by_cases hlt:i<v.length
        · have hlt':(i:Int)<v.length:=by omega
          have rv:=hv.rd;have adv:=rv.jn;have ldv:=rv.load i hlt;have ld:=hA.mX (i:=i) (by omega);have sw:=hA.stx (i:=i) (by omega);have hs:=hsame i (ae _);have Av:=bg (B:=1000000000) (l:=X0) (i:=i) (by omega);have tkv:=bg (B:=1000000000) hlt;have hxd:=Dg.getD (B:=1000000000) (by decide) dX i;have hvd:=Dg.getD (B:=1000000000) (by decide) dv i;rw[←hs]at Av
          have tkx:=fun r=>fp (B:=1000000000) (l:=X) (i:=i) (x:=r) (by omega)
          obtain⟨b1,b2⟩:=hiN i hlt;have hij:((i:Int)+((k:Int)-1)).toNat=P.length+i:=by omega
          generalize X.getD i 0=xi at *
          generalize v.getD i 0=vi at *
          have hpp:q*vi≤999999999*999999999:=fG (by omega) (by omega);have m0:(q:Int)*vi=((q*vi:Nat):Int):=(ce _ _).symm
          have fin:∀x' Ih,x'+(q*vi+ca)=xi+1000000000*Ih→vl 1000000000 ((X.set i x').take (i+1))+q*vl 1000000000 (v.take (i+1))=vl 1000000000 (X0.take (i+1))+1000000000^(i+1)*Ih:=by
            intro x' Ih hx;rw[tkx,Av,tkv,aV];exact GU Hu hx
          generalize q*vi=pr at *
          have Z9:(pr:Int)+ca=((pr+ca:Nat):Int):=by omega
          have em:((pr+ca:Nat):Int)%1000000000=((pr+ca)%1000000000:Nat):=by omega
          have eq:((pr+ca:Nat):Int)/1000000000=((pr+ca)/1000000000:Nat):=by omega
          by_cases hn:(xi:Int)-((pr+ca)%1000000000:Nat)<0
          · have er:(xi:Int)-((pr+ca)%1000000000:Nat)+1000000000=((xi+1000000000-(pr+ca)%1000000000:Nat):Int):=by omega
            have ec1:(((pr+ca)/1000000000:Nat):Int)+1=(((pr+ca)/1000000000+1:Nat):Int):=by omega
            repeat'(with_reducible first|simp(disch:=try exact ab) only[go_sem,seval,h8,h9,h10,h11,h12,h13,h14,IS,RS,hlt',adv,ldv,ld,sw,b1,b2,hij,m0,Z9,em,eq,hn,er,ec1]|(apply aj.i<;>intro hc))
            refine⟨v.length-(i+1),by omega,i+1,(pr+ca)/1000000000+1,X.set i (xi+1000000000-(pr+ca)%1000000000),rfl,rfl,aH.put hG hT,hv.oN n1,hS8.oN n3,hq.other n5,bG.put hnx,by simpa using hX,dX.set _ (by omega),by omega,hlt,fin _ _ (by omega),?_,rfl⟩;intro k' hk';rw[Bg.getD_set_ne (by omega)];exact hsame k' (by omega)
          · have er:(xi:Int)-((pr+ca)%1000000000:Nat)=((xi-(pr+ca)%1000000000:Nat):Int):=by omega
            rw[er]at hn;repeat'(with_reducible first|simp(disch:=try exact ab) only[go_sem,seval,h8,h9,h10,h11,h12,h13,h14,IS,RS,hlt',adv,ldv,ld,sw,b1,b2,hij,m0,Z9,em,eq,er,hn]|(apply aj.i<;>intro hc))
            refine⟨v.length-(i+1),by omega,i+1,(pr+ca)/1000000000,X.set i (xi-(pr+ca)%1000000000),rfl,rfl,aH.put hG hT,hv.oN n1,hS8.oN n3,hq.other n5,bG.put hnx,by simpa using hX,dX.set _ (by omega),by omega,hlt,fin _ _ (by omega),?_,rfl⟩;intro k' hk';rw[Bg.getD_set_ne (by omega)];exact hsame k' (by omega)
        · have hlt':¬(i:Int)<v.length:=by omega
          obtain rfl:i=v.length:=by omega
          rw[bj,aP (by omega:X.length≤v.length),aP (by omega:X0.length≤v.length)]at Hu;have hXl:=gI (B:=1000000000) (by decide) dX;rw[hX]at hXl;have htI:((k:Int)-1+v.length).toNat=P.length+X.length:=by omega
          have htN:(0:Int)≤(k:Int)-1+v.length∧(k:Int)-1+v.length<((a.length+1:Nat):Int):=by omega
          obtain⟨b1,b2⟩:=htN;have ld:=hA.PB;have st:=hA.Zx;have sq:=hq.vA (i:=k-1) (by omega);have VY:=hq.lt;have hb1:P.length+X.length+1≤P.length+X.length+(S.length+1):=by omega
          have g1:∀z:Int,((P++X).map (wd .i64)++ .int .i64 z::S.map (wd .i64))[P.length+X.length]?=some (.int .i64 z):=fun z=>by
            rw[eP (by simp)];simp
          rcases Jk hWv Hu hXl hvl hvp rfl MK Ru with⟨PE,Hz,hXv⟩|⟨PE,Hz,hXv⟩
          · have ez:(top:Int)-ca=0:=by omega
            subst PE;repeat'(with_reducible first|simp(disch:=try exact ab) only[go_sem,seval,h8,h9,h10,h11,h12,h13,h14,IS,RS,hlt',htI,b1,b2,ld,st,ez,hb1,g1,sq,hp1,e1,fY]|(apply aj.i<;>intro hc))
            refine close _ X _ (aH.put (aH.put hG hT) hTq) ((hv.oN n1).oN n2) ((hS8.oN n3).oN n4) ?_ (bG.put VY) hX dX hXv rfl;exact(bG.put hnx).other (by omega)
          · have ez:(top:Int)-ca= -1:=by omega
            have es:((W/vl 1000000000 v+1:Nat):Int)-1=(W/vl 1000000000 v:Nat):=by omega
            have hwQ:IntKind.wrap .i64 ((W/vl 1000000000 v:Nat):Int)=(W/vl 1000000000 v:Nat):=wrap_i64 ⟨Int.le_trans (by decide) (Int.natCast_nonneg _),Int.le_trans (nS.2 (Nat.le_of_lt hQB)) (by decide)⟩;subst PE;repeat'(with_reducible first|simp(disch:=try exact ab) only[go_sem,seval,h8,h9,h10,h11,h12,h13,h14,IS,RS,hlt',htI,b1,b2,ld,st,ez,es,hwQ,hb1,g1]|(apply aj.i<;>intro hc))
            refine Wp.bW (fun m s'=>∃(i c:Nat) (Y:List Nat),val s'.tm (.t 8)=v8∧val s'.tm (.t 9)=wv∧val s'.tm (.t 10)= .int .i64 v.length∧val s'.tm (.t 11)= .sl T0 0 (a.length+1) 1∧val s'.tm (.t 12)= .sl tq 0 (a.length+1-v.length) 1∧val s'.tm (.t 13)= .int .i64 ((k:Int)-1)∧val s'.tm (.t 14)= .int .i64 (W/vl 1000000000 v:Nat)∧val s'.tm (.t 19)= .int .i64 (c:Nat)∧val s'.tm (.t 20)= .int .i64 (i:Nat)∧
              aH h s'.hp∧Sq .i64 s'.hp wv v∧Sq .i64 s'.hp v8 [f]∧bG s'.hp tq (out.map (wd .i64))∧bG s'.hp T0 ((P++Y).map (wd .i64)++(.int .i64 (-1)::S.map (wd .i64)))∧Y.length=v.length∧Dg 1000000000 Y∧c≤1∧i≤v.length∧
              vl 1000000000 (Y.take i)+1000000000^i*c=vl 1000000000 (X.take i)+vl 1000000000 (v.take i)∧(∀k',i≤k'→Y.getD k' 0=X.getD k' 0)∧v.length-i=m) (n:=v.length) ?_ ?_
            · exact⟨0,0,X,by simp(disch:=try exact ab) only[go_sem,seval,h8],by simp(disch:=try exact ab) only[go_sem,seval,h9],by simp(disch:=try exact ab) only[go_sem,seval,h10],by simp(disch:=try exact ab) only[go_sem,seval,h11],by simp(disch:=try exact ab) only[go_sem,seval,h12],by simp(disch:=try exact ab) only[go_sem,seval,h13],by simp(disch:=try exact ab) only[go_sem,seval,es,hwQ],by(simp(disch:=try exact ab) only[go_sem,seval])<;>rfl,by(simp(disch:=try exact ab) only[go_sem,seval])<;>rfl,aH.put hG hT,hv.oN n1,hS8.oN n3,hq.other n5,bG.put hnx,hX,dX,by omega,by omega,by simp[vl],fun _ _=>rfl,rfl⟩
            · rintro m ⟨tm,hp⟩ ⟨i,c,Y,h8,h9,h10,h11,h12,h13,h14,WH,MS,hG,hv,hS8,hq,hA,hY,dY,hc,hle,Ht,Hl,rfl⟩
              simp only at h8 h9 h10 h11 h12 h13 h14 WH MS hG hv hS8 hq hA;have hnx:=hA.lt;by_cases hlt:i<v.length
              · have hlt':(i:Int)<v.length:=by omega
                have rv:=hv.rd;have adv:=rv.jn;have ldv:=rv.load i hlt;have ov:=rv.old (by omega);have od:=hA.old;have ld:=hA.mX (i:=i) (by omega);have sw:=hA.stx (i:=i) (by omega);have hs:=Hl i (ae _);have Av:=bg (B:=1000000000) (l:=X) (i:=i) (by omega);have tkv:=bg (B:=1000000000) hlt;have hxd:=Dg.getD (B:=1000000000) (by decide) dY i;have hvd:=Dg.getD (B:=1000000000) (by decide) dv i
                rw[←hs]at Av
                have fin:∀s,s=Y.getD i 0+v.getD i 0+c→vl 1000000000 ((Y.set i (s%1000000000)).take (i+1))+1000000000^(i+1)*(s/1000000000)=vl 1000000000 (X.take (i+1))+vl 1000000000 (v.take (i+1)):=by
                  intro s hs';rw[fp (by omega),Av,tkv,aV];exact wu Ht hs'
                obtain⟨b1,b2⟩:=hiN i hlt;have hij:((i:Int)+((k:Int)-1)).toNat=P.length+i:=by omega
                generalize Y.getD i 0=xi at *
                generalize v.getD i 0=vi at *
                have em:((xi:Int)+vi+c)%1000000000=((xi+vi+c)%1000000000:Nat):=by omega
                have eq:((xi:Int)+vi+c)/1000000000=((xi+vi+c)/1000000000:Nat):=by omega
                repeat'(with_reducible first|simp(disch:=try exact ab) only[go_sem,seval,h8,h9,h10,h11,h12,h13,h14,WH,MS,hlt',adv,ldv,ov,od,ld,sw,b1,b2,hij,em,eq]|(apply aj.i<;>intro hc))
                refine⟨v.length-(i+1),by omega,i+1,(xi+vi+c)/1000000000,Y.set i ((xi+vi+c)%1000000000),rfl,rfl,aH.put hG hT,hv.oN n1,hS8.oN n3,hq.other n5,bG.put hnx,by simpa using hY,dY.set _ (bq _ (by decide)),by omega,hlt,fin _ rfl,?_,rfl⟩;intro k' hk';rw[Bg.getD_set_ne (by omega)];exact Hl k' (by omega)
              · have hlt':¬(i:Int)<v.length:=by omega
                obtain rfl:i=v.length:=by omega
                rw[bj,aP (by omega:X.length≤v.length),aP (by omega:Y.length≤v.length)]at Ht;have hYl:=gI (B:=1000000000) (by decide) dY;rw[hY]at hYl;obtain⟨hYv,hc1⟩:=Io hXv (by omega) hYl Ht;subst hc1;have htI:((k:Int)-1+v.length).toNat=P.length+Y.length:=by omega
                have ld:=hA.PB;have st:=hA.Zx;have sq:=hq.vA (i:=k-1) (by omega);have VY:=hq.lt;have ez:(-1:Int)+((1:Nat):Int)=0:=by omega
                repeat'(with_reducible first|simp(disch:=try exact ab) only[go_sem,seval,h8,h9,h10,h11,h12,h13,h14,WH,MS,hlt',htI,b1,b2,ld,st,ez,sq,hp1,e1]|(apply aj.i<;>intro hc))
                refine close _ Y _ (aH.put (aH.put hG hT) hTq) ((hv.oN n1).oN n2) ((hS8.oN n3).oN n4) ?_ (bG.put VY) hY dY hYv rfl;exact(bG.put hnx).other (by omega)
end
end
end Go.Ae
set_option maxHeartbeats 1000000
namespace Go.Ae
open Bg
noncomputable section
theorem zu {B:Nat}(hB:1<B){l:List Nat}{n:Nat}(hn:Norm l)(h:vl B l<B^n):l.length≤n:=by
 rcases aQ n l.length with c|c
 ·have h0:l≠[]:=by rintro rfl;simp at c
  obtain⟨m,x,rfl⟩:=jN h0;have h1:=Cn (B:=B) (l:=m) (iq.1 hn);have h2:=aT (n:=B) (by omega) (show n≤m.length by simp at c;omega);omega
 ·exact c
theorem GN {b:List Nat}{f:Nat}(db:Dg 1000000000 b)(nb:Norm b)(hb:b≠[])(hf:f=1000000000/(b.getD (b.length-1) 0+1)):0<b.getD (b.length-1) 0∧0<f∧f<1000000000∧vl 1000000000 b*f<1000000000^b.length∧1000000000^(b.length-1)≤vl 1000000000 b:=by
 obtain⟨m,x,rfl⟩:=jN hb;have hx0:=iq.1 nb;have dx:x<1000000000:=db x (by simp);have e:(m++[x]).getD ((m++[x]).length-1) 0=x:=by simp[bQ]
 rw[e]at hf⊢;have hm:=gI (B:=1000000000) (by decide) (db.left);have hlen:(m++[x]).length=m.length+1:=by simp
 have f0:0<f:=by rw[hf];exact Nat.div_pos (by omega) (by omega)
 have f1:f*(x+1)≤1000000000:=by rw[hf];exact Nat.div_mul_le_self _ _
 have f2:f<1000000000:=by
  have:f*2≤f*(x+1):=aD _ (by omega);omega
 rw[hlen,gS,jv];refine⟨by omega,f0,f2,?_,?_⟩
 ·have h1:(vl 1000000000 m+1000000000^m.length*x)<1000000000^m.length*(x+1):=by rw[ay];omega
  have h2:=nP h1 f0;rw[aF,aA (x+1)]at h2;have h3:=aD (1000000000^m.length) f1;rw[aV];exact ah h2 h3
 ·have:1000000000^m.length*1≤1000000000^m.length*x:=aD _ (by omega);omega
theorem Jh {a L0:List Nat}{n f V:Nat}(da:Dg 1000000000 a)(hL:L0.length=a.length+1)(hv:vl 1000000000 L0=vl 1000000000 a*f)(hn:1≤n)(hna:n≤a.length)(hf:0<f)(hV:1000000000^(n-1)*f≤V):vl 1000000000 (L0.drop (a.length+1-n))<V:=by
 have h1:=nd (B:=1000000000) (l:=L0) (a.length+1-n) (by omega);have h2:=gI (B:=1000000000) (by decide) da;have h3:=nP h2 hf;rw[←hv,h1]at h3;have e:1000000000^a.length=1000000000^(a.length+1-n)*1000000000^(n-1):=by rw[←dm];congr 1;omega
 rw[e,aF]at h3;have h4:=mQ (gR (Nat.le_add_left _ _) h3);exact ah h4 hV
theorem Pj {h:Hp}{t st:Nat}{y:AV}{l:List Nat}(hs:Sq .i64 h y l)(h0:l≠[])(hg:h.get t=some (.row [] true st))(hl:l.length≤2000000):
  jm h 1 8 (.sl t 0 0 1) y=some (.sl h.next 0 l.length 1,(h.put t fun s=> .dead s).push fun s=> .row (l.map (wd .i64)) true s):=by
 rcases hs with⟨_,e⟩|⟨u,o,own,st',L,rfl,hu,h1,h2,h3,h4⟩
 ·exact absurd e h0
 ·have hc:cellsOf h 1 (.sl u o l.length 1)=some (l.map (wd .i64)):=by
   simp only[cellsOf,hu];rw[if_pos ⟨trivial,by rw[aU];omega⟩,dF,←List.map_drop,←List.map_take,h2]
  unfold jm;rw[hc];simp only[uY];have hne:l.length≠0:=by simpa using h0
  obtain⟨m,hm⟩:∃m,l.length=m+1:=⟨l.length-1,by omega⟩
  rw[hm];simp only[hg];rw[if_pos ⟨trivial,by simp,by omega,by omega⟩];simp
section
variable {h:Hp}{K:AV→Hp→Prop}
theorem d208 {va vb:AV}{a b:List Nat}(ha:Sq .i64 h va a)(hb:Sq .i64 h vb b)(da:Dg 1000000000 a)(db:Dg 1000000000 b)(na:Norm a)(nb:Norm b)(hla:a.length≤900000)(hlb:b.length≤900000)(hb0:b≠[]):
  Gp E3 208 [va,vb] h (Px (vl 1000000000 a/vl 1000000000 b) (vl 1000000000 a%vl 1000000000 b)):=by
 have cmp:=fun{K:AV→Hp→Prop}=>d251 (K:=K) ha hb da db na nb (by omega) (by omega)
 have hbp:=kf (B:=1000000000) (by decide) nb hb0;by_cases hlt:vl 1000000000 a<vl 1000000000 b
 ·refine Gp.of (ac.fn (fn:=R.a208) rfl rfl rfl ?_);unfold R.a208;have hc:jl (vl 1000000000 a) (vl 1000000000 b)<0:=by unfold jl;rw[if_pos hlt];omega
  repeat'(with_reducible first|simp(disch:=try exact ab) only[go_sem,seval,cmp,hc]|(apply aj.i<;>intro hc))
  refine⟨.aq,va,[],a,rfl,Sq.nil,ha,Dg.nil,da,by simp[Norm],na,?_,?_⟩
  ·rw[iS hlt];rfl
  ·rw[cH hlt]
 ·have hc :¬jl (vl 1000000000 a) (vl 1000000000 b)<0:=by unfold jl;rw[if_neg hlt];split<;>omega
  have lb:=hb.rd.len;by_cases h1:b.length=1
  ·obtain⟨x,rfl⟩:∃x,b=[x]:=by
    match b,h1 with
    |[x],_=>exact⟨x,rfl⟩
   have e:vl 1000000000 [x]=x:=by simp[vl]
   rw[e]at hbp⊢;have U8:tO .slice vb=some (.int .i64 1):=lb;have rb:=hb.rd;have adb:=rb.jn;have ldb:=rb.load 0 (by simp);simp only[de,aY]at ldb;have e00:(0:Int).toNat=0:=rfl;refine Gp.of (ac.fn (fn:=R.a208) rfl rfl rfl ?_);unfold R.a208;repeat'(with_reducible first|simp(disch:=try exact ab) only[go_sem,seval,cmp,hc,U8,adb,ldb,e00]|(apply aj.i<;>intro hc))
   refine Gp.wp (d270 ha da db.head hbp (by omega)) fun v1 k1 a1 b1 u1 ⟨vq,lq,e1,S1,dlq,nlq,vlq⟩=>?_
   subst e1;repeat'(with_reducible first|simp(disch:=try exact ab) only[go_sem,seval]|(apply aj.i<;>intro hc))
   have hrl:=bq (vl 1000000000 a) hbp;have A2:bG ((h.ov k1 u1).push fun s=> .row [.int .i64 ((vl 1000000000 a%x:Nat):Int)] true s) (h.ov k1 u1).next ([vl 1000000000 a%x].map (wd .i64)):=bG.push;have S2:=A2.sq (n:=1) rfl;have S1':=S1.aO (aH.push (aH.refl (h.ov k1 u1)) (f:=fun s=> .row [.int .i64 ((vl 1000000000 a%x:Nat):Int)] true s));simp only[Hp.lJ,Hp.ns,Hp.iL,Hp.nK,Hp.qC,Hp.qT]at S2
   have hx:=db.head;refine Gp.wp (ui S2 (by simp)) fun v2 k2 a2 b2 u2 S3=>?_
   repeat'(with_reducible first|simp(disch:=try exact ab) only[go_sem,seval]|(apply aj.i<;>intro hc))
   refine⟨⟨vq,v2,_,_,rfl,S1'.aO ⟨_,_,u2⟩,S3,dlq,(Dg.cons (by omega) Dg.nil).trim,nlq,eJ _,vlq,by rw[fQ];simp[vl]⟩,?_⟩;exact aL
  ·have hl2:2≤b.length:=by
    have:b.length≠0:=by simpa using hb0
    omega
   have hla2:b.length≤a.length:=by
    rcases aQ a.length b.length with c|c
    ·have:=jJ (B:=1000000000) (by decide) da nb c;omega
    ·exact c
   have h1':¬(b.length:Int)=1:=by omega
   have rb:=hb.rd;have adb:=rb.jn;have ldb:=rb.load (b.length-1) (by omega);have i1:((b.length:Int)-1).toNat=b.length-1:=by omega
   have hxd:=Dg.getD (B:=1000000000) (by decide) db (b.length-1);obtain⟨f,hf⟩:∃f,f=1000000000/(b.getD (b.length-1) 0+1):=⟨_,rfl⟩
   obtain⟨m1,m2,m3,m4,m5⟩:=GN db nb hb0 hf;have ef:(1000000000:Int)/((b.getD (b.length-1) 0:Nat)+1)=(f:Nat):=by rw[hf];rfl
   have ev:vl 1000000000 [f]=f:=by simp[vl]
   have la:=ha.rd.len;refine Gp.of (ac.fn (fn:=R.a208) rfl rfl rfl ?_);refine Wp.cut 9 rfl ?_
   have tail:=fun(tm:T AV) (hp:Hp) (v L0:List Nat) (wv v8:AV) (T0 tq:Nat) h8 h9 h10 h11 h12 hG hv hS8 dv h2 hva hv1 n1 n2 n3 n4 n5 hT hTq hA hL dL hq hvb hab htop=>KA (h:=h) (hp:=hp) (tm:=tm) (wv:=wv) (v8:=v8) (a:=a) (v:=v) (L0:=L0) (T0:=T0) (tq:=tq) (f:=f) (b:=vl 1000000000 b) h8 h9 h10 h11 h12 hG hv hS8 dv h2 hva (by omega) hv1 n1 n2 n3 n4 n5 hT hTq hA hL dL hq m2 m3 hbp hvb hab htop
   generalize au.post 9 R.a208.code=r at tail⊢
   unfold R.a208;dsimp only[au.pre];generalize b.getD (b.length-1) 0=x at *
   repeat'(with_reducible first|simp(disch:=try exact ab) only[go_sem,seval,cmp,hc,lb,h1',i1,adb,ldb,ef,nN]|(apply aj.i<;>intro hc))
   have G8:aH h (h.push fun s=> .row [.int .i64 (f:Int)] true s):=aH.push (aH.refl h);have A8:bG (h.push fun s=> .row [.int .i64 (f:Int)] true s) h.next ([f].map (wd .i64)):=bG.push;have S8:=A8.sq (n:=1) rfl;refine Gp.wp (d253 (hb.aO G8) S8 db (Dg.cons m3 Dg.nil) (by omega) (by simp)) fun v9 kk k1 j1 u1 ⟨l9,S9,D9,N9,V9⟩=>?_
   rw[ev]at V9;have ln9:=S9.rd.len
   have Z1:l9.length=b.length:=by
    refine Nat.le_antisymm (zu (B:=1000000000) (by decide) N9 (by rw[V9];exact m4)) ?_;rcases aQ l9.length b.length with c|c
    ·have g1:=gI (B:=1000000000) (by decide) D9;have g2:=aT (n:=1000000000) (by decide) (show l9.length≤b.length-1 by omega);rw[V9]at g1;have g3:vl 1000000000 b*1≤vl 1000000000 b*f:=aD _ m2;omega
    ·exact c
   have t9:=S9.rd.tok (by omega);have S8':=S8.aO ⟨_,_,u1⟩;obtain⟨H1,hH1⟩:∃H1,H1=(h.push fun s=> .row [.int .i64 (f:Int)] true s).ov kk u1:=⟨_,rfl⟩
   have Gx:aH (h.push fun s=> .row [.int .i64 (f:Int)] true s) H1:=by rw[hH1];exact(aH.refl _).ov
   have G1:aH h H1:=G8.trans Gx;have V8:h.next<H1.next:=ah (cN _) Gx.next;repeat'(with_reducible first|simp(disch:=try exact ab) only[go_sem,seval,ln9]|(apply aj.i<;>intro hc))
   rw[←hH1]at S9 t9⊢;have S8'':Sq .i64 H1 (.sl h.next 0 1 1) [f]:=by rw[hH1];exact S8'
   have Gp2:aH H1 (H1.push fun s=> .row [] true s):=aH.push (aH.refl _);refine Gp.wp (d253 ((ha.aO G1).aO Gp2) (S8''.aO Gp2) da (Dg.cons m3 Dg.nil) (by omega) (by simp)) fun v11 kk2 k2 j2 u2 ⟨xO,S11,D11,N11,V11⟩=>?_
   rw[ev]at V11;have T7:0<vl 1000000000 a:=by omega
   have RB:xO≠[]:=by
    rintro rfl;rw[jG]at V11;have:=eY T7 m2;omega
   have hl11:xO.length≤a.length+1:=zu (B:=1000000000) (by decide) N11 (by
    rw[V11,aV];have g1:=gI (B:=1000000000) (by decide) da;exact lW g1 m3)
   obtain⟨H2,hH2⟩:∃H2,H2=(H1.push fun s=> .row [] true s).ov kk2 u2:=⟨_,rfl⟩
   have G2:aH H1 H2:=by rw[hH2];exact(aH.push (aH.refl _)).ov
   have RG:H2.get H1.next=some (.row [] true (H1.dc+1)):=by
    rw[hH2,Hp.qS (cN _)];exact Hp.cu
   have ZX:H1.next<H2.next:=by
    have Gy:aH (H1.push fun s=> .row [] true s) H2:=by rw[hH2];exact(aH.refl _).ov
    exact ah (cN _) Gy.next
   rw[←hH2]at S11⊢;have VW:h.next+1+k1=H1.next:=by rw[hH1];exact(u1.next).symm
   rw[VW];have eap:=Pj S11 RB RG (by omega);repeat'(with_reducible first|simp(disch:=try exact ab) only[go_sem,seval,jA,eap]|(apply aj.i<;>intro hc))
   have G3:aH H1 ((H2.put H1.next fun s=> .dead s).push fun s=> .row (xO.map (wd .i64)) true s):=aH.push (aH.put G2 (ae _))
   refine Wp.bW (fun m s'=>∃(z:Nat) (v:AV),val s'.tm (.t 0)=va∧val s'.tm (.t 8)= .sl h.next 0 1 1∧val s'.tm (.t 9)=v9∧val s'.tm (.t 10)= .int .i64 l9.length∧val s'.tm (.t 11)=v∧
    aH H1 s'.hp∧cO 1 H1 s'.hp v (xO.length+z) ((xO++av z 0).map (wd .i64))∧xO.length+z≤a.length+1∧a.length+1-(xO.length+z)=m) (n:=a.length+1-xO.length) ?_ ?_
   ·refine⟨0,.sl H2.next 0 xO.length 1,aS,aS,aS,aS,aS,G3,⟨by simp,.inr ⟨_,_,rfl,?_,?_,?_,ae _⟩⟩,by omega,rfl⟩
    ·simp only[List.replicate_zero,iK];exact Hp.cu
    ·show H1.next≤H2.next;omega
    ·exact cN _
   ·rintro m ⟨tm,hp⟩ ⟨z,v,h0,h8,h9,h10,h11,hG,hO,hz,rfl⟩;simp only at h0 h8 h9 h10 h11 hG hO;have lnv:=(hO.sq (by simp)).rd.len;have hlen:(xO++av z 0).length=xO.length+z:=by simp
    rw[hlen]at lnv;by_cases hc1:xO.length+z<a.length+1
    ·have WB:((xO.length+z:Nat):Int)<(a.length:Int)+1:=by omega
     repeat'(with_reducible first|simp(disch:=try exact ab) only[go_sem,seval,h0,h8,h9,h10,h11,lnv,la,WB,jA]|(apply aj.i<;>intro hc))
     refine cO.wp (h0:=H1) (b:=8) rfl hG hO rfl (by decide) (by omega) (by omega) fun v' h' G' O'=>?_
     repeat'(with_reducible first|simp(disch:=try exact ab) only[go_sem,seval,h0,h8,h9,h10,h11]|(apply aj.i<;>intro hc))
     have e:(xO++av (z+1) 0).map (wd .i64)=(xO++av z 0).map (wd .i64)++[.int .i64 0]:=by
      rw[List.replicate_succ',←cW,dT];rfl
     refine⟨a.length+1-(xO.length+(z+1)),by omega,z+1,G',?_,by omega,rfl⟩;rw[e];exact O'
    ·have hzz:xO.length+z=a.length+1:=by omega
     rw[hzz]at hO hlen;obtain⟨_,⟨_,e0⟩|⟨T0,UB,ev0,T6,hT0,hTn,hst⟩⟩:=hO
     ·omega
     subst ev0;have hc2:¬((a.length+1:Nat):Int)<(a.length:Int)+1:=by omega
     have w1:((a.length+1:Nat):Int)-l9.length=((a.length+1-l9.length:Nat):Int):=by omega
     have mk:=fun{h:Hp} {K:AV→Hp→Prop}=>mU.int (h:=h) (K:=K) (b:=8) (z:= .int .i64 0) (n:=a.length+1-l9.length) rfl (by omega)
     repeat'(with_reducible first|simp(disch:=try exact ab) only[go_sem,seval,h0,h8,h9,h10,h11,la,hc2,w1,mk]|(apply aj.i<;>intro hc))
     have hzr:(av (a.length+1-l9.length) (AV.int .i64 0))=(av (a.length+1-l9.length) 0).map (wd .i64):=by rw[gC];rfl
     rw[hzr];obtain⟨L0,hL0⟩:∃L0,L0=xO++av z 0:=⟨_,rfl⟩
     rw[←hL0]at T6 hlen;have vL0:vl 1000000000 L0=vl 1000000000 a*f:=by rw[hL0,jU,nc,fW,aY,V11]
     have dL0:Dg 1000000000 L0:=by rw[hL0];exact D11.append (Dg.oV (by decide) _)
     have Gq:aH hp (hp.push fun s=> .row ((av (a.length+1-l9.length) 0).map (wd .i64)) true s):=aH.push (aH.refl _);have hn0:=hG.next
     have Ro:l9.getD (l9.length-1) 0≠0:=by
      obtain⟨m,y,rfl⟩:=jN (l:=l9) (by rintro rfl;simp at Z1;omega);have:=iq.1 N9;simpa[bQ]using this
     have A0:bG hp T0 (L0.map (wd .i64)):=⟨UB,T6,hst,hTn⟩
     refine tail _ _ l9 L0 v9 (.sl h.next 0 1 1) T0 hp.next (by simp(disch:=try exact ab) only[go_sem,seval,h8]) (by simp(disch:=try exact ab) only[go_sem,seval,h9]) (by simp(disch:=try exact ab) only[go_sem,seval,h10]) (by simp(disch:=try exact ab) only[go_sem,seval,h11]) aS ((G1.trans hG).trans Gq) ((S9.aO hG).aO Gq) ((S8''.aO hG).aO Gq) D9 (by omega) (by omega) Ro (by omega) (by omega) ?_ ?_ (by omega) (by omega) (by omega) (A0.aO Gq) (by omega) dL0 bG.push V9 vL0 ?_
     ·show h.next≠T0;omega
     ·show h.next≠hp.next;omega
     ·rw[Z1,V9];exact Jh da hlen vL0 (by omega) hla2 m2 (aM _ m5)
end
end
end Go.Ae
namespace Go.Ae
open Bg
noncomputable section
section
variable {h hp:Hp}{K:AV→Hp→Prop}{s w s' w':AV}{x y z:Int}
theorem gj.cases (hi:gj h s w z):(s= .int .i64 z∧w= .aq∧-9223372036854775808≤z∧z≤9223372036854775807)∨(∃n t o,w= .sl t o n 1∧(z≤-9223372036854775808∨9223372036854775808≤z)∧(s= .int .i64 1∧0<z∨s= .int .i64 (-1)∧z<0)):=by
 rcases hi with hi|⟨n,t,o,l,e,_,_,_,hb,_,⟨h1,h2⟩|⟨h1,h2⟩⟩
 ·exact .inl hi
 ·exact .inr ⟨n,t,o,e,by omega,.inl ⟨h1,by omega⟩⟩
 ·exact .inr ⟨n,t,o,e,by omega,.inr ⟨h1,by omega⟩⟩
theorem gj.one (hi:gj h s w z):s.one=true∧w.one=true:=by
 rcases hi.cases with⟨rfl,rfl,_⟩|⟨n,t,o,rfl,_,⟨rfl,_⟩|⟨rfl,_⟩⟩<;>exact⟨rfl,rfl⟩
theorem xA {a b:Nat}:(0:Int)≤jl a b↔b≤a:=by unfold jl;split<;>(try split)<;>omega
theorem Cx {x y:Int}{a:Nat}(ha:a=x.natAbs+y.natAbs)(hc:decide (x<0)=decide (y<0)):iB (decide (x<0)) a=x+y:=by
 rw[decide_eq_decide]at hc;unfold iB;by_cases h0:x<0
 ·rw[decide_eq_true h0,if_pos rfl];have:=hc.1 h0;omega
 ·rw[decide_eq_false h0,if_neg (by decide)];have:¬y<0:=fun e=>h0 (hc.2 e);omega
theorem sy {x y:Int}{a:Nat}(ha:a=x.natAbs-y.natAbs)(hle:y.natAbs≤x.natAbs)(hc:¬decide (x<0)=decide (y<0)):iB (decide (x<0)) a=x+y:=by
 rw[decide_eq_decide]at hc;unfold iB;by_cases h0:x<0
 ·have:¬y<0:=fun e=>hc ⟨fun _=>e,fun _=>h0⟩
  rw[decide_eq_true h0,if_pos rfl];omega
 ·have:y<0:=by
   rcases Int.lt_or_le y 0 with c|c
   ·exact c
   ·exact absurd ⟨fun e=>absurd e h0,fun e=>by omega⟩ hc
  rw[decide_eq_false h0,if_neg (by decide)];omega
theorem Cw {x y:Int}{a:Nat}(ha:a=x.natAbs*y.natAbs):iB (decide (¬decide (x<0)=decide (y<0))) a=x*y:=by
 have key:((x.natAbs*y.natAbs:Nat):Int)=(x*y).natAbs:=by rw[fu]
 unfold iB;rw[ha,key];by_cases h1:x<0
 ·by_cases h2:y<0
  ·have:0≤x*y:=Int.mul_nonneg_of_nonpos_of_nonpos (by omega) (by omega);simp[h1,h2];omega
  ·have:x*y≤0:=Int.mul_nonpos_of_nonpos_of_nonneg (by omega) (by omega);simp[h1,h2];omega
 ·by_cases h2:y<0
  ·have:x*y≤0:=Int.mul_nonpos_of_nonneg_of_nonpos (by omega) (by omega);simp[h1,h2];omega
  ·have:0≤x*y:=Int.mul_nonneg (by omega) (by omega);simp[h1,h2];omega
theorem rF.ex {v:AV}(i:rF h v z):∃s w,v= .agg [s,w]∧s.one=true∧w.one=true∧gj h s w z:=by
 obtain⟨s,w,e,i⟩:=i;exact⟨s,w,e,i.one.1,i.one.2,i⟩
theorem Sq.put {p st:Nat}{own:Bool}{cs:List AV}{v:AV}{l:List Nat}{f:Nat→cP}(i:Sq .u64 h v l)(hq:h.get p=some (.row (.int .i64 0::cs) own st)):Sq .u64 (h.put p f) v l:=by
 rcases i with i|⟨t,o,own',st',L,e,hg,r1,r2,r3,r4⟩
 ·exact .inl i
 ·refine .inr ⟨t,o,own',st',L,e,(Hp.eW ?_).trans hg,r1,r2,r3,mW r4⟩;rintro rfl;rw[hq]at hg;cases L with
  |nil=>simp at hg
  |cons a L=>simp[wd]at hg
theorem gj.put {p st:Nat}{own:Bool}{cs:List AV}{f:Nat→cP}(i:gj h s w z)(hq:h.get p=some (.row (.int .i64 0::cs) own st)):gj (h.put p f) s w z:=by
 rcases i with i|⟨n,t,o,l,e,hs,r⟩
 ·exact .inl i
 ·exact .inr ⟨n,t,o,l,e,hs.put hq,r⟩
theorem gj.ov {h':Hp}{k j:Nat}{g:L4 h h' k j}(i:gj h s w z):gj (h.ov h' g) s w z:=i.aO ⟨k,j,g⟩
theorem Sq.ov {h':Hp}{k j:Nat}{g:L4 h h' k j}{kd:IntKind}{v:AV}{l:List Nat}(i:Sq kd h v l):Sq kd (h.ov h' g) v l:=i.aO ⟨k,j,g⟩
theorem IB {tm:T AV}{p2 p3 p4:Nat}(h2:val tm (.t 2)= .ptr p2 0)(h3:val tm (.t 3)= .ptr p3 0)(h4:val tm (.t 4)= .ptr p4 0)(g2:bG hp p2 [s,w])(g3:bG hp p3 [s',w'])(g4:bG hp p4 [.int .i64 0,.aq])
  (hG:aH h hp) (hn:h.next≤p4) (ix:gj hp s w x) (iy:gj hp s' w' y) (lx:fq 4000 x) (ly:fq 4000 y):
  Wp E2 (C.Ca.code.post 2) ⟨tm,hp⟩ (gy [.cell 4 true 2] fun v h'=>rF h' v (x+y)∧aH h h'):=by
 unfold C.Ca;dsimp only[au.post];obtain⟨s2,q2,_,t2⟩:=g2;obtain⟨s3,q3,_,t3⟩:=g3;obtain⟨s4,q4,_,t4⟩:=g4;repeat'(with_reducible first|simp(disch:=try exact ab) only[go_sem,seval,h2,h3,h4,q2]|(apply aj.i<;>intro hc))
 refine Gp.wp (vd ix) fun v h1 k1 j1 u1 ⟨w1,l1,e,S1,D1,N1,V1,L1⟩=>?_
 subst e;have iy1:=iy.ov (g:=u1);have m1:=lx.len N1 V1;repeat'(with_reducible first|simp(disch:=try exact ab) only[go_sem,seval,h2,h3,h4,q3]|(apply aj.i<;>intro hc))
 refine Gp.wp (vd iy1) fun v h2' k2 j2 u2 ⟨w2,l2,e,S2,D2,N2,V2,L2⟩=>?_
 subst e;have m2:=ly.len N2 V2;have S1':=S1.ov (g:=u2);have ls:=lx.add ly;by_cases hc:decide (x<0)=decide (y<0)
 ·repeat'(with_reducible first|simp(disch:=try exact ab) only[go_sem,seval,h2,h3,h4,hc]|(apply aj.i<;>intro hc))
  refine Gp.wp (WX S1' S2 D1 D2 (by omega) (by omega)) fun v h3' k3 j3 u3 ⟨l,S3,D3,N3,V3⟩=>?_
  have e3:iB (decide (x<0)) (vl 18446744073709551616 l)=x+y:=Cx (by omega) hc;have m3:=ls.len N3 (by rw[V3,V1,V2];rw[decide_eq_decide]at hc;omega);rw[hc]at e3;repeat'(with_reducible first|simp(disch:=try exact ab) only[go_sem,seval,h2,h3,h4]|(apply aj.i<;>intro hc))
  refine Gp.wp (zY S3 D3 N3 (by omega)) fun v h4' k4 j4 u4 I4=>?_
  obtain⟨a,b,rfl,o1,o2,I4⟩:=I4.ex;rw[e3]at I4;have q4':((((hp.ov h1 u1).ov h2' u2).ov h3' u3).ov h4' u4).get p4=some (.row [.int .i64 0,.aq] true s4):=by simp(disch:=try exact ab) only[go_sem,seval,q4]
  repeat'(with_reducible first|simp(disch:=try exact ab) only[go_sem,seval,h4,q4,o1,o2]|(apply aj.i<;>intro hc))
  refine⟨⟨a,b,rfl,I4.put q4'⟩,?_⟩;exact aL
 ·by_cases hle:vl 18446744073709551616 l2≤vl 18446744073709551616 l1
  ·have pC:(0:Int)≤jl (vl 18446744073709551616 l1) (vl 18446744073709551616 l2):=xA.2 hle;repeat'(with_reducible first|simp(disch:=try exact ab) only[go_sem,seval,h2,h3,h4,hc,KK S1' S2 D1 D2 N1 N2 (by omega) (by omega),pC]|(apply aj.i<;>intro hc))
   refine Gp.wp (SG S1' S2 D1 D2 ?_ (by omega) hle) fun v h3' k3 j3 u3 ⟨l,S3,D3,N3,V3⟩=>?_
   ·rcases aQ l1.length l2.length with c|c
    ·have:=jJ (B:=18446744073709551616) (by decide) D1 N2 c;omega
    ·exact c
   have e3:iB (decide (x<0)) (vl 18446744073709551616 l)=x+y:=sy (by omega) (by omega) hc;have m3:=ls.len N3 (by rw[←e3];unfold iB;split<;>omega)
   repeat'(with_reducible first|simp(disch:=try exact ab) only[go_sem,seval,h2,h3,h4]|(apply aj.i<;>intro hc))
   refine Gp.wp (zY S3 D3 N3 (by omega)) fun v h4' k4 j4 u4 I4=>?_
   obtain⟨a,b,rfl,o1,o2,I4⟩:=I4.ex;rw[e3]at I4;have q4':((((hp.ov h1 u1).ov h2' u2).ov h3' u3).ov h4' u4).get p4=some (.row [.int .i64 0,.aq] true s4):=by simp(disch:=try exact ab) only[go_sem,seval,q4]
   repeat'(with_reducible first|simp(disch:=try exact ab) only[go_sem,seval,h4,q4,o1,o2]|(apply aj.i<;>intro hc))
   refine⟨⟨a,b,rfl,I4.put q4'⟩,?_⟩;exact aL
  ·have pC:¬(0:Int)≤jl (vl 18446744073709551616 l1) (vl 18446744073709551616 l2):=fun e=>hle (xA.1 e)
   repeat'(with_reducible first|simp(disch:=try exact ab) only[go_sem,seval,h2,h3,h4,hc,KK S1' S2 D1 D2 N1 N2 (by omega) (by omega),pC]|(apply aj.i<;>intro hc))
   refine Gp.wp (SG S2 S1' D2 D1 ?_ (by omega) (by omega)) fun v h3' k3 j3 u3 ⟨l,S3,D3,N3,V3⟩=>?_
   ·rcases aQ l2.length l1.length with c|c
    ·have:=jJ (B:=18446744073709551616) (by decide) D2 N1 c;omega
    ·exact c
   have e3:iB (decide (y<0)) (vl 18446744073709551616 l)=x+y:=by
    rw[Int.add_comm];exact sy (by omega) (by omega) (fun e=>hc e.symm)
   have m3:=ls.len N3 (by rw[←e3];unfold iB;split<;>omega)
   repeat'(with_reducible first|simp(disch:=try exact ab) only[go_sem,seval,h2,h3,h4]|(apply aj.i<;>intro hc))
   refine Gp.wp (zY S3 D3 N3 (by omega)) fun v h4' k4 j4 u4 I4=>?_
   obtain⟨a,b,rfl,o1,o2,I4⟩:=I4.ex;rw[e3]at I4;have q4':((((hp.ov h1 u1).ov h2' u2).ov h3' u3).ov h4' u4).get p4=some (.row [.int .i64 0,.aq] true s4):=by simp(disch:=try exact ab) only[go_sem,seval,q4]
   repeat'(with_reducible first|simp(disch:=try exact ab) only[go_sem,seval,h4,q4,o1,o2]|(apply aj.i<;>intro hc))
   refine⟨⟨a,b,rfl,I4.put q4'⟩,?_⟩;exact aL
theorem IA {a b:Int}(ha: -9223372036854775808≤a∧a≤9223372036854775807)(hb: -9223372036854775808≤b∧b≤9223372036854775807)(hn:¬(-9223372036854775808≤a+b∧a+b≤9223372036854775807)):
  ¬(decide (a<IntKind.wrap .i64 (a+b))=decide (0<b)):=by
 rw[decide_eq_decide];rcases Int.lt_or_le (a+b) (-9223372036854775808)with c|c
 ·have e:IntKind.wrap .i64 (a+b)=a+b+18446744073709551616:=by
   rw[IntKind.wrap_i64];omega
  rw[e];omega
 ·have e:IntKind.wrap .i64 (a+b)=a+b-18446744073709551616:=by
   rw[IntKind.wrap_i64];omega
  rw[e];omega
theorem i121 (ix:gj h s w x)(iy:gj h s' w' y)(lx:fq 4000 x)(ly:fq 4000 y):Gp E2 121 [.agg [s,w],.agg [s',w']] h fun v h'=>rF h' v (x+y):=by
 refine Gp.of (ac.fn (fn:=C.Ca) rfl rfl rfl ?_);refine Wp.cut 2 rfl ?_;obtain⟨o1,o2⟩:=ix.one;obtain⟨o3,o4⟩:=iy.one;have tail:=fun(hp:Hp) (tm:T AV) (p2 p3 p4:Nat) h2 h3 h4 g2 g3 g4 (hG:aH h hp) hn ix iy=>IB (h:=h) (hp:=hp) (tm:=tm) (p2:=p2) (p3:=p3) (p4:=p4) (s:=s) (w:=w) (s':=s') (w':=w') h2 h3 h4 g2 g3 g4 hG hn ix iy lx ly
 generalize au.post 2 C.Ca.code=r at tail⊢
 unfold C.Ca;dsimp only[au.pre];have A2:bG (((h.push fun st=> .row [s,w] true st).push fun st=> .row [s',w'] true st).push fun st=> .row [.int .i64 0,.aq] true st) h.next [s,w]:=(bG.push.aO (aH.refl _).push.push)
 have A3:bG (((h.push fun st=> .row [s,w] true st).push fun st=> .row [s',w'] true st).push fun st=> .row [.int .i64 0,.aq] true st) (h.next+1) [s',w']:=(bG.push.aO (aH.refl _).push)
 have A4:bG (((h.push fun st=> .row [s,w] true st).push fun st=> .row [s',w'] true st).push fun st=> .row [.int .i64 0,.aq] true st) (h.next+1+1) [.int .i64 0,.aq]:=bG.push;have G:aH h (((h.push fun st=> .row [s,w] true st).push fun st=> .row [s',w'] true st).push fun st=> .row [.int .i64 0,.aq] true st):=(aH.refl h).push.push.push;rcases ix.cases with⟨rfl,rfl,hx⟩|⟨n,t,o,rfl,_⟩
 ·rcases iy.cases with⟨rfl,rfl,hy⟩|⟨n,t,o,rfl,_⟩
  ·by_cases hn: -9223372036854775808≤x+y∧x+y≤9223372036854775807
   ·have e:(decide (x<x+y)=decide (0<y))=True:=by rw[eq_iff_iff,iff_true,decide_eq_decide];omega
    have ew:IntKind.wrap .i64 (x+y)=x+y:=wrap_i64 hn;repeat'(with_reducible first|simp(disch:=try exact ab) only[go_sem,seval,e,ew]|(apply aj.i<;>intro hc))
    refine⟨⟨_,_,rfl,gj.small hn⟩,?_⟩;exact aL
   ·have e:=IA hx hy hn;repeat'(with_reducible first|simp(disch:=try exact ab) only[go_sem,seval,e]|(apply aj.i<;>intro hc))
    exact tail _ _ _ _ _ aS aS aS A2 A3 A4 G (by omega) (ix.aO G) (iy.aO G)
  ·repeat'(with_reducible first|simp(disch:=try exact ab) only[go_sem,seval,o3]|(apply aj.i<;>intro hc))
   exact tail _ _ _ _ _ aS aS aS A2 A3 A4 G (by omega) (ix.aO G) (iy.aO G)
 ·repeat'(with_reducible first|simp(disch:=try exact ab) only[go_sem,seval,o1,o3,o4]|(apply aj.i<;>intro hc))
  exact tail _ _ _ _ _ aS aS aS A2 A3 A4 G (by omega) (ix.aO G) (iy.aO G)
theorem i200 (ix:gj h s w x)(lx:fq 9000 x):Gp E2 200 [.agg [s,w]] h fun v h'=>rF h' v (-x):=by
 refine Gp.of (ac.fn (fn:=C.Ls) rfl rfl rfl ?_);unfold C.Ls
 have key:∀{n:Nat} {x:Int},n=x.natAbs→iB (decide (¬x<0)) n= -x:=fun{n x} hn=>by
  unfold iB;by_cases h0:x<0
  ·simp[h0];omega
  ·simp[h0];omega
 rcases ix.cases with⟨rfl,rfl,hx⟩|⟨n,t,o,rfl,_,ho⟩
 ·by_cases hm:x= -9223372036854775808
  ·have EV:(x= -9223372036854775808)=True:=by simp[hm]
   repeat'(with_reducible first|simp(disch:=try exact ab) only[go_sem,seval,EV]|(apply aj.i<;>intro hc))
   refine Gp.wp (vd (ix.aO aL)) fun v h1 k1 j1 u1 ⟨w1,l1,e,S1,D1,N1,V1,L1⟩=>?_
   subst e;have m1:=lx.len N1 V1
   have e3:iB (decide (¬x<0)) (vl 18446744073709551616 l1)= -x:=by
    unfold iB;by_cases h0:x<0
    ·simp[h0];omega
    ·simp[h0];omega
   repeat'(with_reducible first|simp(disch:=try exact ab) only[go_sem,seval]|(apply aj.i<;>intro hc))
   refine Gp.wp (zY S1 D1 N1 (by omega)) fun v h2 k2 j2 u2 I2=>?_
   obtain⟨a,b,rfl,p1,p2,I2⟩:=I2.ex;rw[e3]at I2;repeat'(with_reducible first|simp(disch:=try exact ab) only[go_sem,seval,p1,p2]|(apply aj.i<;>intro hc))
   refine⟨⟨a,b,rfl,I2.put (st:=h.dc+1+1) (own:=true) (cs:=[.aq]) ?_⟩,?_⟩
   ·simp(disch:=try exact ab) only[go_sem,seval]
   ·exact aL
  ·repeat'(with_reducible first|simp(disch:=try exact ab) only[go_sem,seval,hm]|(apply aj.i<;>intro hc))
   refine⟨⟨_,_,rfl,gj.small (by omega)⟩,?_⟩;exact aL
 ·obtain⟨o1,o2⟩:=ix.one;repeat'(with_reducible first|simp(disch:=try exact ab) only[go_sem,seval,o1]|(apply aj.i<;>intro hc))
  refine Gp.wp (vd (ix.aO aL)) fun v h1 k1 j1 u1 ⟨w1,l1,e,S1,D1,N1,V1,L1⟩=>?_
  subst e;have m1:=lx.len N1 V1
  have e3:iB (decide (¬x<0)) (vl 18446744073709551616 l1)= -x:=by
   unfold iB;by_cases h0:x<0
   ·simp[h0];omega
   ·simp[h0];omega
  repeat'(with_reducible first|simp(disch:=try exact ab) only[go_sem,seval]|(apply aj.i<;>intro hc))
  refine Gp.wp (zY S1 D1 N1 (by omega)) fun v h2 k2 j2 u2 I2=>?_
  obtain⟨a,b,rfl,p1,p2,I2⟩:=I2.ex;rw[e3]at I2;repeat'(with_reducible first|simp(disch:=try exact ab) only[go_sem,seval,p1,p2]|(apply aj.i<;>intro hc))
  refine⟨⟨a,b,rfl,I2.put (st:=h.dc+1+1) (own:=true) (cs:=[.aq]) ?_⟩,?_⟩
  ·simp(disch:=try exact ab) only[go_sem,seval]
  ·exact aL
theorem i260 (ix:gj h s w x)(iy:gj h s' w' y)(lx:fq 4000 x)(ly:fq 4000 y):Gp E2 260 [.agg [s,w],.agg [s',w']] h fun v h'=>rF h' v (x-y):=by
 refine Gp.of (ac.fn (fn:=C.K5) rfl rfl rfl ?_);unfold C.K5;obtain⟨o1,o2⟩:=ix.one;obtain⟨o3,o4⟩:=iy.one;repeat'(with_reducible first|simp(disch:=try exact ab) only[go_sem,seval,o1,o2,o3,o4]|(apply aj.i<;>intro hc))
 refine Gp.wp (i200 (iy.aO aL) (ly.mono (by decide))) fun v h1 k1 j1 u1 I1=>?_
 obtain⟨a,b,rfl,p1,p2,I1⟩:=I1.ex;repeat'(with_reducible first|simp(disch:=try exact ab) only[go_sem,seval,p1,p2]|(apply aj.i<;>intro hc))
 refine Gp.wp (i121 (ix.aO aL) I1 lx ly.neg) fun v h2 k2 j2 u2 I2=>?_
 obtain⟨c,d,rfl,p3,p4,I2⟩:=I2.ex;rw[←Int.sub_eq_add_neg]at I2;repeat'(with_reducible first|simp(disch:=try exact ab) only[go_sem,seval,p3,p4]|(apply aj.i<;>intro hc))
 refine⟨⟨c,d,rfl,I2.put (st:=h.dc+1+1+1) (own:=true) (cs:=[.aq]) ?_⟩,?_⟩
 ·simp(disch:=try exact ab) only[go_sem,seval]
 ·exact aL
theorem i194 (ix:gj h s w x):Gv E2 194 [.agg [s,w]] h (.int .i64 (max (-1) (min 1 x))):=by
 refine Gv.of (ac.fn (fn:=C.a194) rfl rfl rfl ?_);unfold C.a194;rcases ix.cases with⟨rfl,rfl,hx⟩|⟨n,t,o,rfl,hb,⟨rfl,h0⟩|⟨rfl,h0⟩⟩
 ·repeat'(with_reducible first|simp(disch:=try exact ab) only[go_sem,seval]|(apply aj.i<;>intro hc))
  exact aL
 ·repeat'(with_reducible first|simp(disch:=try exact ab) only[go_sem,seval]|(apply aj.i<;>intro hc))
  refine⟨by congr 1;omega,?_⟩;exact aL
 ·repeat'(with_reducible first|simp(disch:=try exact ab) only[go_sem,seval]|(apply aj.i<;>intro hc))
  refine⟨by congr 1;omega,?_⟩;exact aL
end
end
end Go.Ae
namespace Go.Ae
open Bg
noncomputable section
def oS (h:Hp)(v:AV)(z:Int):Prop:=∃w l,v= .agg [.bool (decide (z<0)),w]∧Sq .i64 h w l∧Dg 1000000000 l∧Norm l∧vl 1000000000 l=z.natAbs
def Lr (n:Nat)(z:Int):Prop:=z.natAbs<1000000000^n
section
variable {h h':Hp}{K:AV→Hp→Prop}{v va vb w:AV}{x y z:Int}{n m:Nat}
theorem oS.aO (i:oS h v z)(g:aH h h'):oS h' v z:=by
 obtain⟨w,l,e,s,r⟩:=i;exact⟨w,l,e,s.aO g,r⟩
theorem Sq.one {l:List Nat}(s:Sq .i64 h w l):w.one=true:=by
 rcases s with⟨rfl,_⟩|⟨t,o,own,st,L,rfl,_⟩<;>rfl
theorem Sq.cells {l:List Nat}(s:Sq .i64 h w l):w.cells=[w]:=by
 rcases s with⟨rfl,_⟩|⟨t,o,own,st,L,rfl,_⟩<;>rfl
theorem HM {b:Bool}(hc:w.cells=[w])(ho:w.one=true):ja [.bool false,.aq] [(0,1,.bool b),(1,1,w)]=some [.bool b,w]:=by
 have e1:(AV.bool b).cells=[.bool b]:=rfl;rw[jt (by rw[e1];exact⟨rfl,by simp,rfl⟩),jt (by rw[hc];exact⟨rfl,by rw[e1];simp[dU],by simp only[List.all_cons,List.all_nil,ho,Bool.and_self]⟩),oE,e1,hc];rfl
theorem Lr.len {l:List Nat}(hz:Lr n z)(hn:Norm l)(h:vl 1000000000 l=z.natAbs):l.length≤n:=zu (B:=1000000000) (by decide) hn (by rw[h];exact hz)
theorem Lr.mono (hx:Lr n x)(h:n≤m):Lr m x:=ah hx (aT (by decide) h)
theorem Lr.le {x y:Int}(h:Lr n x)(hl:y.natAbs≤x.natAbs):Lr n y:=gR hl h
theorem Lr.neg (hx:Lr n x):Lr n (-x):=by unfold Lr;rwa[sc]
theorem Lr.add (hx:Lr n x)(hy:Lr n y):Lr (n+1) (x+y):=by
 unfold Lr at *;rw[aV];have:(x+y).natAbs≤x.natAbs+y.natAbs:=Int.natAbs_add_le x y;omega
theorem Lr.mul (hx:Lr n x)(hy:Lr m y):Lr (n+m) (x*y):=by
 unfold Lr at *;rw[dm,fu];rcases aE y.natAbs with h|h
 ·rw[h,fW];exact eY (dp (by decide)) (dp (by decide))
 ·exact lW hx hy
theorem d249 {neg:Bool}{l:List Nat}(hs:Sq .i64 h w l)(hd:Dg 1000000000 l)(hl:l.length≤3000000):Gp E3 249 [.bool neg,w] h fun v h'=>oS h' v (iB neg (vl 1000000000 l)):=by
 refine Gp.of (ac.fn (fn:=R.Ld) rfl rfl rfl ?_);unfold R.Ld;repeat'(with_reducible first|simp(disch:=try exact ab) only[go_sem,seval]|(apply aj.i<;>intro hc))
 refine Gp.wp (ui (hs.aO aL) (by omega)) fun v1 k1 a1 b1 u1 S1=>?_
 have hn:=eJ l;have hv:vl 1000000000 (dJ l)=vl 1000000000 l:=fQ l;have dt:Dg 1000000000 (dJ l):=hd.trim;rw[←hv];generalize dJ l=l1 at *
 have ln:=S1.rd.len;have o1:=S1.one
 have S1':Sq .i64 (((h.push fun st=> .row [.bool false,.aq] true st).ov k1 u1).put h.next fun st=> .row [.bool (decide (iB neg (vl 1000000000 l1)<0)),v1] true st) v1 l1:=by
  rcases S1 with⟨rfl,rfl⟩|⟨t,o,own,st,L,rfl,hg,r1,r2,r3,r4⟩
  ·exact Sq.nil
  ·refine .inr ⟨t,o,own,st,L,rfl,?_,r1,r2,r3,mW r4⟩;by_cases ht:t=h.next
   ·subst ht;exfalso
    have e:((h.push fun st=> .row [.bool false,.aq] true st).ov k1 u1).get h.next=some (.row [.bool false,.aq] true (h.dc+1)):=by
     rw[Hp.qS (cN _)];exact Hp.cu
    rw[e]at hg;cases L with
    |nil=>simp at hg
    |cons c L=>simp[wd]at hg
   ·exact(Hp.eW ht).trans hg
 have oc:=S1.cells;cases neg with
 | false=>
  have hz:decide (iB false (vl 1000000000 l1)<0)=false:=decide_eq_false (by unfold iB;simp);rw[hz]at S1';repeat'(with_reducible first|simp(disch:=try exact ab) only[go_sem,seval,ln,HM (b:=false) oc o1,cJ,o1]|(apply aj.i<;>intro hc))
  refine⟨⟨v1,l1,by rw[hz],S1',dt,hn,by unfold iB;simp⟩,?_⟩;exact aL
 | true=>
  by_cases h0:l1=[]
  ·subst h0;have hz:decide (iB true (vl 1000000000 [])<0)=false:=decide_eq_false (by unfold iB;simp[vl]);rw[hz]at S1';simp only[aK]at ln;repeat'(with_reducible first|simp(disch:=try exact ab) only[go_sem,seval,ln,HM (b:=false) oc o1,cJ,o1]|(apply aj.i<;>intro hc))
   refine⟨⟨v1,[],by rw[hz],S1',dt,hn,by unfold iB;simp[vl]⟩,?_⟩;exact aL
  ·have hp:=kf (B:=1000000000) (by decide) hn h0;have hz:decide (iB true (vl 1000000000 l1)<0)=true:=decide_eq_true (by unfold iB;simp;omega);rw[hz]at S1'
   have hl1:(0:Int)<l1.length:=by
    have:l1.length≠0:=by simpa using h0
    omega
   repeat'(with_reducible first|simp(disch:=try exact ab) only[go_sem,seval,ln,hl1,HM (b:=true) oc o1,cJ,o1]|(apply aj.i<;>intro hc))
   refine⟨⟨v1,l1,by rw[hz],S1',dt,hn,by unfold iB;simp⟩,?_⟩;exact aL
end
end
end Go.Ae
namespace Go.Ae
open Bg
noncomputable section
def sC:Option cP→Bool
 |some (.row (.bool _::_) _ _)=>true
 |_=>false
section
variable {h h':Hp}{K:AV→Hp→Prop}{v va vb w:AV}{x y z:Int}{n m:Nat}
theorem bU {b:Bool}{cs:List AV}{own:Bool}{st:Nat}:sC (some (.row (.bool b::cs) own st))=true:=rfl
theorem Bm {p:Nat}(hc:sC (h.get p)=true):∃b cs own st,h.get p=some (.row (.bool b::cs) own st):=by
 cases hq:h.get p with
 |none=>rw[hq]at hc;cases hc
 | some o=>
  rw[hq]at hc;match o,hc with
  | .row (.bool b::cs) own st,_=>exact⟨b,cs,own,st,rfl⟩
theorem Sq.jI {p:Nat}{l:List Nat}{f:Nat→cP}(i:Sq .i64 h v l)(hc:sC (h.get p)=true):Sq .i64 (h.put p f) v l:=by
 obtain⟨n,cs,own,st,hq⟩:=Bm hc;rcases i with i|⟨t,o,own',st',L,e,hg,r1,r2,r3,r4⟩
 ·exact .inl i
 ·refine .inr ⟨t,o,own',st',L,e,(Hp.eW ?_).trans hg,r1,r2,r3,mW r4⟩;rintro rfl;rw[hq]at hg;cases L with
  |nil=>simp at hg
  |cons a L=>simp[wd]at hg
theorem oS.jI {p:Nat}{f:Nat→cP}(i:oS h v z)(hc:sC (h.get p)=true):oS (h.put p f) v z:=by
 obtain⟨w,l,e,s,r⟩:=i;exact⟨w,l,e,s.jI hc,r⟩
theorem oS.ex (i:oS h v z):∃w,v= .agg [.bool (decide (z<0)),w]∧w.one=true∧oS h (.agg [.bool (decide (z<0)),w]) z:=by
 obtain⟨w,l,rfl,s,r⟩:=i;exact⟨w,rfl,s.one,w,l,rfl,s,r⟩
theorem oS.un (i:oS h (.agg [.bool (decide (z<0)),w]) z):∃l,Sq .i64 h w l∧Dg 1000000000 l∧Norm l∧vl 1000000000 l=z.natAbs:=by
 obtain⟨w',l,e,r⟩:=i;injection e with e
 injection e with _ e
 injection e with e _
 subst e;exact⟨l,r⟩
theorem d248 (ia:oS h va x)(lx:Lr 900000 x):Gp E3 248 [va] h fun v h'=>oS h' v (-x):=by
 obtain⟨w,rfl,o1,i⟩:=ia.ex;obtain⟨l,S,D,N,V⟩:=i.un;have hl:=lx.len N V;refine Gp.of (ac.fn (fn:=R.Le) rfl rfl rfl ?_);unfold R.Le
 have e:iB (!decide (x<0)) (vl 1000000000 l)= -x:=by
  rw[V];unfold iB;by_cases h0:x<0
  ·rw[decide_eq_true h0];simp;omega
  ·rw[decide_eq_false h0];simp;omega
 repeat'(with_reducible first|simp(disch:=try exact ab) only[go_sem,seval,o1]|(apply aj.i<;>intro hc))
 refine Gp.wp (d249 (S.aO aL) D (by omega)) fun v1 k1 a1 b1 u1 I1=>?_
 have hb:(decide (¬x<0))= !decide (x<0):=by by_cases h0:x<0<;>simp[h0]
 rw[hb,e]at I1;obtain⟨w1,rfl,p1,I1⟩:=I1.ex;repeat'(with_reducible first|simp(disch:=try exact ab) only[go_sem,seval,p1]|(apply aj.i<;>intro hc))
 refine⟨I1.jI (by simp(disch:=try exact ab) only[go_sem,seval,bU]),?_⟩;exact aL
theorem d171 (ia:oS h va x)(ib:oS h vb y)(lx:Lr 400000 x)(ly:Lr 400000 y):Gp E3 171 [va,vb] h fun v h'=>oS h' v (x*y):=by
 obtain⟨w1,rfl,o1,i1⟩:=ia.ex;obtain⟨w2,rfl,o2,i2⟩:=ib.ex;obtain⟨l1,S1,D1,N1,V1⟩:=i1.un;obtain⟨l2,S2,D2,N2,V2⟩:=i2.un;have hl1:=lx.len N1 V1;have hl2:=ly.len N2 V2;refine Gp.of (ac.fn (fn:=R.a171) rfl rfl rfl ?_);unfold R.a171;repeat'(with_reducible first|simp(disch:=try exact ab) only[go_sem,seval,o1,o2]|(apply aj.i<;>intro hc))
 refine Gp.wp (d253 (S1.aO aL) (S2.aO aL) D1 D2 (by omega) (by omega)) fun v3 k3 a3 b3 u3 ⟨l3,S3,D3,N3,V3⟩=>?_
 have e3:iB (decide (¬decide (x<0)=decide (y<0))) (vl 1000000000 l3)=x*y:=Cw (by rw[V3,V1,V2]);have hl3:=(lx.mul ly).len N3 (by rw[V3,V1,V2,fu]);repeat'(with_reducible first|simp(disch:=try exact ab) only[go_sem,seval,o1,o2]|(apply aj.i<;>intro hc))
 refine Gp.wp (d249 S3 D3 (by omega)) fun v4 k4 a4 b4 u4 I4=>?_
 rw[e3]at I4;obtain⟨w4,rfl,p4,I4⟩:=I4.ex;repeat'(with_reducible first|simp(disch:=try exact ab) only[go_sem,seval,p4]|(apply aj.i<;>intro hc))
 refine⟨I4.jI (by simp(disch:=try exact ab) only[go_sem,seval,bU]),?_⟩;exact aL
theorem d170 (ia:oS h va x)(ib:oS h vb y)(lx:Lr 400000 x)(ly:Lr 400000 y):Gp E3 170 [va,vb] h fun v h'=>oS h' v (x+y):=by
 obtain⟨w1,rfl,o1,i1⟩:=ia.ex;obtain⟨w2,rfl,o2,i2⟩:=ib.ex;obtain⟨l1,S1,D1,N1,V1⟩:=i1.un;obtain⟨l2,S2,D2,N2,V2⟩:=i2.un;have hl1:=lx.len N1 V1;have hl2:=ly.len N2 V2;refine Gp.of (ac.fn (fn:=R.LC) rfl rfl rfl ?_);unfold R.LC;by_cases hc:decide (x<0)=decide (y<0)
 ·repeat'(with_reducible first|simp(disch:=try exact ab) only[go_sem,seval,o1,o2,hc]|(apply aj.i<;>intro hc))
  refine Gp.wp (d250 (S1.aO aL) (S2.aO aL) D1 D2 (by omega) (by omega)) fun v3 k3 a3 b3 u3 ⟨l3,S3,D3,hl3,V3⟩=>?_
  have e3:iB (decide (x<0)) (vl 1000000000 l3)=x+y:=Cx (by omega) hc;rw[hc]at e3;repeat'(with_reducible first|simp(disch:=try exact ab) only[go_sem,seval,o1,o2]|(apply aj.i<;>intro hc))
  refine Gp.wp (d249 S3 D3 (by omega)) fun v4 k4 a4 b4 u4 I4=>?_
  rw[e3]at I4;obtain⟨w4,rfl,p4,I4⟩:=I4.ex;repeat'(with_reducible first|simp(disch:=try exact ab) only[go_sem,seval,p4]|(apply aj.i<;>intro hc))
  refine⟨I4.jI (by simp(disch:=try exact ab) only[go_sem,seval,bU]),?_⟩;exact aL
 ·have cmp:=fun(h':Hp) (g:aH h h') {K:AV→Hp→Prop}=>d251 (K:=K) (S1.aO g) (S2.aO g) D1 D2 N1 N2 (by omega) (by omega)
  have G:aH h (((h.push fun st=> .row [.bool (decide (x<0)),w1] true st).push fun st=> .row [.bool (decide (y<0)),w2] true st).push fun st=> .row [.bool false,.aq] true st):=(aH.refl h).push.push.push;by_cases hle:vl 1000000000 l2≤vl 1000000000 l1
  ·have pC:(0:Int)≤jl (vl 1000000000 l1) (vl 1000000000 l2):=xA.2 hle;repeat'(with_reducible first|simp(disch:=try exact ab) only[go_sem,seval,o1,o2,hc,cmp _ G,pC]|(apply aj.i<;>intro hc))
   refine Gp.wp (d252 (S1.aO G) (S2.aO G) D1 D2 (by omega) ?_ hle) fun v3 k3 a3 b3 u3 ⟨l3,S3,D3,N3,V3⟩=>?_
   ·rcases aQ l1.length l2.length with c|c
    ·have:=jJ (B:=1000000000) (by decide) D1 N2 c;omega
    ·exact c
   have e3:iB (decide (x<0)) (vl 1000000000 l3)=x+y:=sy (by omega) (by omega) hc;have hl3:=(lx.add ly).len N3 (by rw[←e3];unfold iB;split<;>omega)
   repeat'(with_reducible first|simp(disch:=try exact ab) only[go_sem,seval,o1,o2]|(apply aj.i<;>intro hc))
   refine Gp.wp (d249 S3 D3 (by omega)) fun v4 k4 a4 b4 u4 I4=>?_
   rw[e3]at I4;obtain⟨w4,rfl,p4,I4⟩:=I4.ex;repeat'(with_reducible first|simp(disch:=try exact ab) only[go_sem,seval,p4]|(apply aj.i<;>intro hc))
   refine⟨I4.jI (by simp(disch:=try exact ab) only[go_sem,seval,bU]),?_⟩;exact aL
  ·have pC:¬(0:Int)≤jl (vl 1000000000 l1) (vl 1000000000 l2):=fun e=>hle (xA.1 e)
   repeat'(with_reducible first|simp(disch:=try exact ab) only[go_sem,seval,o1,o2,hc,cmp _ G,pC]|(apply aj.i<;>intro hc))
   refine Gp.wp (d252 (S2.aO G) (S1.aO G) D2 D1 (by omega) ?_ (by omega)) fun v3 k3 a3 b3 u3 ⟨l3,S3,D3,N3,V3⟩=>?_
   ·rcases aQ l2.length l1.length with c|c
    ·have:=jJ (B:=1000000000) (by decide) D2 N1 c;omega
    ·exact c
   have e3:iB (decide (y<0)) (vl 1000000000 l3)=x+y:=by
    rw[Int.add_comm];exact sy (by omega) (by omega) (fun e=>hc e.symm)
   have hl3:=(lx.add ly).len N3 (by rw[←e3];unfold iB;split<;>omega)
   repeat'(with_reducible first|simp(disch:=try exact ab) only[go_sem,seval,o1,o2]|(apply aj.i<;>intro hc))
   refine Gp.wp (d249 S3 D3 (by omega)) fun v4 k4 a4 b4 u4 I4=>?_
   rw[e3]at I4;obtain⟨w4,rfl,p4,I4⟩:=I4.ex;repeat'(with_reducible first|simp(disch:=try exact ab) only[go_sem,seval,p4]|(apply aj.i<;>intro hc))
   refine⟨I4.jI (by simp(disch:=try exact ab) only[go_sem,seval,bU]),?_⟩;exact aL
theorem d125 {a b:List Nat}(ha:Sq .i64 h va a)(hb:Sq .i64 h vb b)(da:Dg 1000000000 a)(db:Dg 1000000000 b)(na:Norm a)(nb:Norm b)(hla:a.length≤900000)(hlb:b.length≤900000):
  Gp E3 125 [va,vb] h fun v h'=>∃l,Sq .i64 h' v l∧Dg 1000000000 l∧Norm l∧vl 1000000000 l=eA (vl 1000000000 a) (vl 1000000000 b):=by
 refine Gp.of (ac.fn (fn:=R.LO) rfl rfl rfl ?_);unfold R.LO;repeat'(with_reducible first|simp(disch:=try exact ab) only[go_sem,seval]|(apply aj.i<;>intro hc))
 refine Wp.bW (fun m s=>∃(v1 v2:AV) (l1 l2:List Nat),val s.tm (.t 0)=v1∧val s.tm (.t 1)=v2∧aH h s.hp∧Sq .i64 s.hp v1 l1∧Sq .i64 s.hp v2 l2∧Dg 1000000000 l1∧Dg 1000000000 l2∧Norm l1∧Norm l2∧l1.length≤900000∧l2.length≤900000∧
  eA (vl 1000000000 l1) (vl 1000000000 l2)=eA (vl 1000000000 a) (vl 1000000000 b)∧vl 1000000000 l2=m) (n:=vl 1000000000 b) ?_ ?_
 ·exact⟨va,vb,a,b,aS,aS,aH.refl _,ha,hb,da,db,na,nb,hla,hlb,rfl,rfl⟩
 ·rintro m ⟨tm,hp⟩ ⟨v1,v2,l1,l2,h0,h1,hG,S1,S2,D1,D2,N1,N2,hl1,hl2,Z2,rfl⟩;simp only at h0 h1 hG S1 S2;have ln:=S2.rd.len;by_cases hz:l2=[]
  ·subst hz;simp only[aK]at ln;repeat'(with_reducible first|simp(disch:=try exact ab) only[go_sem,seval,h0,h1,ln]|(apply aj.i<;>intro hc))
   refine⟨⟨l1,S1,D1,N1,?_⟩,hG⟩;rw[←Z2,jG,Nat.gcd_zero_right]
  ·have hp':(0:Int)<l2.length:=by
    have:l2.length≠0:=by simpa using hz
    omega
   repeat'(with_reducible first|simp(disch:=try exact ab) only[go_sem,seval,h0,h1,ln,hp']|(apply aj.i<;>intro hc))
   refine Gp.wp (d208 S1 S2 D1 D2 N1 N2 hl1 hl2 hz) fun v3 k3 a3 b3 u3 ⟨vq,vr,lq,lr,e3,Sq',Sr,Dq,Dr,Nq,Nr,Vq,Vr⟩=>?_
   subst e3;repeat'(with_reducible first|simp(disch:=try exact ab) only[go_sem,seval,h0,h1]|(apply aj.i<;>intro hc))
   have hpos:=kf (B:=1000000000) (by decide) N2 hz;have hrl:=bq (vl 1000000000 l1) hpos;refine⟨vl 1000000000 lr,by rw[Vr];exact hrl,v2,vr,l2,lr,rfl,rfl,hG.ov,S2.aO ⟨_,_,u3⟩,Sr,D2,Dr,N2,Nr,hl2,?_,?_,rfl⟩
   ·refine aB (zu (B:=1000000000) (by decide) Nr ?_) hl2;rw[Vr];exact Cc hrl (gI (by decide) D2)
   ·rw[Vr,←Z2,Nat.gcd_comm (vl 1000000000 l2),←Nat.gcd_rec,Nat.gcd_comm]
end
end
end Go.Ae
namespace Go.Ae
open N Go.Proofs
structure Tk where
 d:List UInt8
 n:Int
 p:Bool
 t:Int
 z:Int
abbrev TK (d:List UInt8)(n:Int)(p:Bool)(t z:Int):List AV:=[.str d,.int .i64 n,.bool p,.int .i64 t,.int .i64 z]
def Tk.l (k:Tk):List AV:=TK k.d k.n k.p k.t k.z
theorem Tk.mK (k:Tk):k.l.length=5:=rfl
abbrev ME:List UInt8:=[108,101,97,100]
abbrev SN:List UInt8:=[98,111,117,108,100,101,114]
def Q5 (n:Int)(p:Bool)(t z:Int):Int:=if n<0∨64<n∨t<0∨1<t∨z≠0 then 3 else if t=1∧(p=true∨n≠0)then 1 else 0
def SP (n:Int)(p:Bool)(t z:Int):Int:=if n≠0∨t<0∨99<t∨z<0∨99<z then 3 else if p=true∨(0<t∧(z=0∨t<z))then 1 else 0
def WS (d:List UInt8)(n:Int)(p:Bool)(t z:Int):Int:=if d=ME then Q5 n p t z else if d=SN then SP n p t z else 13
def Q4 (n:Int)(p:Bool)(t:Int):List UInt8:=if t=1 then[84,79,80]else if p=true then bn n.toNat 1++[43]else bn n.toNat 1
def SS (c:UInt8)(n:Int):List UInt8:=if n=0 then[45]else c::bn n.toNat 1
def SO (t z:Int):List UInt8:=SS 84 t++[32]++SS 90 z
def UA (d:List UInt8)(n:Int)(p:Bool)(t z:Int):List UInt8:=if d=ME then Q4 n p t else SO t z
section
variable {h:Hp}{K:AV→Hp→Prop}
theorem lP {b:Bool}{e:Int}:ac E2 131 [.bool b,.int .i64 e] h K↔K (.int .i64 (if b=true then e else 0)) h:=by
 refine ac.cZ (ac.fn (fn:=C.a131) rfl rfl rfl ?_);unfold C.a131;cases b
 ·repeat'(with_reducible first|simp(disch:=try exact ab) only[go_sem,seval]|(apply aj.i<;>intro hc))
 ·repeat'(with_reducible first|simp(disch:=try exact ab) only[go_sem,seval]|(apply aj.i<;>intro hc))
theorem Pa {p:Prop}{_:Decidable p}{e:Int}:ac E2 131 [.bool (decide p),.int .i64 e] h K↔K (.int .i64 (if p then e else 0)) h:=by
 rw[lP];by_cases hp:p
 ·rw[decide_eq_true hp,if_pos hp,if_pos rfl]
 ·rw[decide_eq_false hp,if_neg hp,if_neg (by decide)]
theorem SL {e:Int}:ac E2 131 [.bool true,.int .i64 e] h K↔K (.int .i64 e) h:=lP
theorem SM {e:Int}:ac E2 131 [.bool false,.int .i64 e] h K↔K (.int .i64 0) h:=lP
def kp (a b:Int):Int:=if a=0 then b else a
theorem pN {t st:Nat}{own:Bool}{a b:Int}(hg:h.get t=some (.row [.int .i64 a,.int .i64 b] own st))(ht:t<h.next):Gv E2 130 [.sl t 0 2 1] h (.int .i64 (kp a b)):=by
 refine Gv.of (ac.fn (fn:=C.a130) rfl rfl rfl ?_);unfold C.a130;by_cases ha:a=0
 ·by_cases hb:b=0
  ·repeat'(with_reducible first|simp(disch:=try exact ab) only[go_sem,seval,Wp.sS,hg,ha,hb]|(apply aj.i<;>intro hc))
   simp[kp]
  ·repeat'(with_reducible first|simp(disch:=try exact ab) only[go_sem,seval,Wp.sS,hg,ha,hb]|(apply aj.i<;>intro hc))
   simp[kp]
 ·repeat'(with_reducible first|simp(disch:=try exact ab) only[go_sem,seval,Wp.sS,hg,ha]|(apply aj.i<;>intro hc))
  simp[kp,ha]
end
end Go.Ae
namespace Go.Ae
open N Go.Proofs
structure uG (h h':Hp):Prop where
 next:h.next≤h'.next
 get:∀t,t<h.next→h'.get t=h.get t
theorem uG.refl (h:Hp):uG h h:=⟨ae _,fun _ _=>rfl⟩
theorem uG.trans {a b c:Hp}(x:uG a b)(y:uG b c):uG a c:=⟨aB x.1 y.1,fun t ht=>(y.2 t (ah ht x.1)).trans (x.2 t ht)⟩
theorem uG.push (h:Hp)(f:Nat→cP):uG h (h.push f):=⟨Nat.le_succ _,fun t ht=>Hp.cY (by omega)⟩
theorem uG.put {h0 h:Hp}(g:uG h0 h){t:Nat}(f:Nat→cP)(ht:h0.next≤t):uG h0 (h.put t f):=⟨g.1,fun u hu=>(Hp.eW (by omega)).trans (g.2 u hu)⟩
def Own (h0 h:Hp)(v:AV)(cs:List AV):Prop:=
 (v= .aq∧cs=[])∨∃t st,v= .sl t 0 cs.length 1∧h.get t=some (.row cs true st)∧h0.next≤t∧t<h.next
theorem Own.nil (h0 h:Hp):Own h0 h .aq []:= .inl ⟨rfl,rfl⟩
def PS (v:AV)(h:Hp)(K:AV→Hp→Prop):Prop:=v.cells.length=1∧v.cells.all AV.one=true∧K (.sl h.next 0 1 1) (h.push fun st=> .row v.cells true st)
section
variable {E:Env}{s:St}{h:Hp}{K:AV→Hp→Prop}
theorem PS.str {l:List UInt8}:PS (.str l) h K↔K (.sl h.next 0 1 1) (h.push fun st=> .row [.str l] true st):=by simp[PS,AV.cells,AV.one]
theorem PS.int {k:IntKind}{n:Int}:PS (.int k n) h K↔K (.sl h.next 0 1 1) (h.push fun st=> .row [.int k n] true st):=by simp[PS,AV.cells,AV.one]
end
section
variable {h:Hp}{K:AV→Hp→Prop}
end
end Go.Ae
namespace Go.Ae
open N Go.Proofs
def Tk.e (k:Tk):Int:=WS k.d k.n k.p k.t k.z
def headD (l:List Tk):List UInt8:=match l with|[]=>[]|k::_=>k.d
section
variable {h:Hp}{K:AV→Hp→Prop}
theorem f223 {s:List UInt8}(hs:s.length≤9223372036854775807):ac E2 223 [.str s,.str [48,49,50,51,52,53,54,55,56,57]] h K↔K (.str (Lib.trimS s L.gA)) h:=by
 rw[ac.fS (p:=L.wR) rfl rfl];have:L.wR [.str s,.str [48,49,50,51,52,53,54,55,56,57]] h=some (.str (Lib.trimS s L.gA),h):=if_pos ⟨rfl,hs⟩;rw[this];exact ax
theorem f224 {s:List UInt8}(hd:bI s=true)(h0:¬s=[])(hs:s.length≤18):ac E2 224 [.str s] h K↔K (.fO [.int .i64 (bm s),.jD]) h:=by
 rw[ac.fS (p:=L.qe) rfl rfl]
 have:L.qe [.str s] h=some (.fO [.int .i64 (bm s),.jD],h):=by
  simp only[L.qe,if_pos hs,xE hd h0]
 rw[this];exact ax
theorem f189 {s:List UInt8}(hs:s.length≤9223372036854775807):ac E2 189 [.str s] h K↔K (.bool (cK s)) h:=by
 refine ac.cZ (ac.fn (fn:=C.EG) rfl rfl rfl ?_);unfold C.EG;cases s with
 | nil=>
  repeat'(with_reducible first|simp(disch:=try exact ab) only[go_sem,seval,f223,lC]|(apply aj.i<;>intro hc))
  all_goals simp[cK]
 | cons b r=>
  have h0:¬(b::r)=[]:=by simp
  have hb:(b.toNat:Int)=48↔b=48:=by
   constructor
   ·intro e;exact UInt8.toNat_inj.1 (by simpa using Int.ofNat.inj e)
   ·rintro rfl;rfl
  repeat'(with_reducible first|simp(disch:=try exact ab) only[go_sem,seval,f223,lC,Int.toNat_zero,de,hb]|(apply aj.i<;>intro hc))
  all_goals simp_all [cK]
theorem f226 {s:List UInt8}(hs:s.length≤9223372036854775807):ac E2 226 [.str s] h K↔K (.fO [.int .i64 (mq s).1,.bool (mq s).2]) h:=by
 refine ac.cZ (ac.fn (fn:=C.a226) rfl rfl rfl ?_);unfold C.a226
 have key:cK s=true→¬s=[]∧bI s=true:=by
  unfold cK;simp only[Bool.and_eq_true,decide_eq_true_eq];exact fun e=>e.1
 cases hd:cK s with
 | true=>
  obtain⟨h0,h1⟩:=key hd;repeat'(with_reducible first|simp(disch:=try exact ab) only[go_sem,seval,f189,hd,f224]|(apply aj.i<;>intro hc))
  ·simp[mq,hd,show ¬s.length≤9 by omega]
  ·simp[mq,hd,show s.length≤9 by omega]
 | false=>
  repeat'(with_reducible first|simp(disch:=try exact ab) only[go_sem,seval,f189,hd,f224]|(apply aj.i<;>intro hc))
  all_goals simp[mq,hd]
theorem W2 {s p:List UInt8}:ac E2 188 [.str s,.str p] h K↔K (.fO [.str (Lib.trimPrefix s p),.bool (Lib.hasPrefix s p)]) h:=by
 rw[ac.fS (p:=L.DP) rfl rfl];exact ax
theorem W9 {s p:List UInt8}(hs:s.length<4294967281):ac E2 147 [.str s,.str p] h K↔K (.fO [.str (Lib.cut s p).1,.str (Lib.cut s p).2.1,.bool (Lib.cut s p).2.2]) h:=by
 rw[ac.fS (p:=L.A6) rfl rfl];have:L.A6 [.str s,.str p] h=some (.fO [.str (Lib.cut s p).1,.str (Lib.cut s p).2.1,.bool (Lib.cut s p).2.2],h):=if_pos hs;rw[this];exact ax
end
end Go.Ae
namespace Go.Ae
open N Go.Proofs
def Tk.s (k:Tk):List UInt8:=UA k.d k.n k.p k.t k.z
section
variable {h:Hp}{K:AV→Hp→Prop}
end
end Go.Ae
namespace Go.Ae
open N Go.Proofs
theorem index_none {c:UInt8}:∀{s:List UInt8},c∉s→Lib.index s [c]= -1:=by
 intro s h;rw[Lib.index_one]
 induction s with
 |nil=>rfl
 | cons b l ih=>
  have h1:(b==c)=false:=beq_eq_false_iff_ne.2 (fun e=>h (by rw[e];simp));have:=ih (fun e=>h (List.mem_cons_of_mem _ e));simp only[Lib.indexByte,h1,this];rfl
theorem Bo {c:UInt8}{b:List UInt8}:∀{a:List UInt8},c∉a→Lib.index (a++c::b) [c]=a.length:=by
 intro a h;rw[Lib.index_one]
 induction a with
 |nil=>simp[Lib.indexByte]
 | cons x l ih=>
  have h1:(x==c)=false:=beq_eq_false_iff_ne.2 (fun e=>h (by rw[e];simp));have:=ih (fun e=>h (List.mem_cons_of_mem _ e));have h2:((l.length:Int)== -1)=false:=beq_eq_false_iff_ne.2 (by omega);simp only[List.cons_append,Lib.indexByte,h1,this,h2];simp
end Go.Ae
namespace Go.Ae
open N Go.Proofs
theorem Ej {c:UInt8}{s:List UInt8}(h:c∉s):Lib.cut s [c]=(s,[],false):=by
 unfold Lib.cut;rw[index_none h,if_neg (by omega)]
theorem Eh {c:UInt8}{a b:List UInt8}(h:c∉a):Lib.cut (a++c::b) [c]=(a,b,true):=by
 unfold Lib.cut;rw[Bo h,if_pos (by omega)];simp
end Go.Ae
namespace Go.Ae.T
open gM bp C
def kX:T cy:= .nil
section
open Go.Proofs
theorem all:T.Forall aR kX (fun n=>n):=trivial
theorem xh (n:Nat)(a:cy)(h:kX.get n=some a):BT Tryz.prog n=some a:=T.fZ kX (fun n=>n) all n a h
end
end Go.Ae.T
namespace Go.Ae
open N Go.Proofs
noncomputable def E5:Env:=E3.add T.kX
theorem ge5:Ge E2 E5:=MT.trans (Ge.add _ _)
structure Rz (z:Nat)(h:Hp)(v:AV)(n:Nat)(cs:List AV):Prop where
 len:tO .slice v=some (.int .i64 n)
 jn:∀(k:IntKind) (i:Int),0≤i∧i<n→vM z v (.int k i)=some (.ptr (v.tok) (i.toNat*z))
 get:n≠0→∃own st,h.get v.tok=some (.row cs own st)∧v.tok<h.next∧st≤h.dc
section
variable {h:Hp}{K:AV→Hp→Prop}
theorem u5 {f:Nat}{args:List AV}{h':Hp}{v:AV}(hc:∀K,ac E2 f args h K↔K v h'):ac E5 f args h K↔K v h':=up ge5 hc
theorem xH.rz {z:Nat}{v:AV}{n:Nat}{cs:List AV}(s:xH z h v n cs):Rz z h v n cs:=by
 obtain⟨hlen,⟨rfl,rfl⟩|⟨t,own,st,rfl,hg,ht,hst⟩⟩:=s
 ·exact⟨rfl,fun k i hi=>by omega,fun e=>absurd rfl e⟩
 ·refine⟨rfl,fun k i hi=>?_,fun _=>⟨own,st,hg,ht,hst⟩⟩;rw[qo hi,dd];rfl
end
end Go.Ae
namespace Go.Ae
open N Go.Proofs
theorem rn (n:Nat):(dg n).toNat=48+n%10:=by
 unfold dg;have h:48+n%10<256:=by omega
 rw[UInt8.toNat_ofNat'];omega
theorem O3 (n:Nat):fJ (dg n)=true:=by
 unfold fJ;rw[rn];simp;omega
theorem Se (n:Nat):dV (dg n)=n%10:=by unfold dV;rw[rn];omega
theorem H4:∀(m n k:Nat),n+k=m→bI (bn n k)=true:=by
 intro m
 induction m using sL with
 | _ m ih=>
  intro n k hm;by_cases h:n=0∧k=0
  ·rw[h.1,h.2,iw];rfl
  ·rw[eM h];have:=ih (n/10+(k-1)) (by omega) (n/10) (k-1) rfl;unfold bI at *;rw[List.all_append,this];simp[O3]
theorem jE (n k:Nat):bI (bn n k)=true:=H4 _ n k rfl
theorem zH (l m:List UInt8)(n:Nat):ks n (l++m)=ks (ks n l) m:=by unfold ks;rw[List.foldl_append]
theorem Ef:∀(m n k:Nat),n+k=m→bm (bn n k)=n:=by
 intro m
 induction m using sL with
 | _ m ih=>
  intro n k hm;by_cases h:n=0∧k=0
  ·rw[h.1,h.2,iw];rfl
  ·rw[eM h];have:=ih (n/10+(k-1)) (by omega) (n/10) (k-1) rfl;unfold bm at *;rw[zH,this,oI,qz,Se];omega
theorem lM (n k:Nat):bm (bn n k)=n:=Ef _ n k rfl
theorem oH:∀(k n:Nat),n<10^k→(bn n k).length=k
 | 0,n,h=>by
  have:n=0:=by simpa using h
  subst this;rw[iw];rfl
 | k+1,n,h=>by
  rw[eM (by omega)];have:=oH k (n/10) (by rw[aV]at h;omega);simp[this]
theorem jb {n:Nat}(h:n<10):bn n 1=[dg n]:=by rw[eM (by omega),show n/10=0 by omega,iw];rfl
theorem qy {n:Nat}(h:10≤n):bn n 1=bn (n/10) 1++[dg n]:=by rw[eM (by omega)];rw[show 1-1=0 from rfl,sH (by omega)]
theorem mB (n:Nat):bn n 1≠[]:=by rw[eM (by omega)];simp
theorem Eg:∀(m n:Nat),n=m→0<n→(bn n 1).headD 0≠48:=by
 intro m
 induction m using sL with
 | _ m ih=>
  intro n hm hp;by_cases h:n<10
  ·rw[jb h];simp only[List.headD_cons];intro e;have:=congrArg UInt8.toNat e;rw[rn]at this;have h48:(48:UInt8).toNat=48:=rfl;omega
  ·rw[qy (by omega)];have h1:=ih (n/10) (by omega) (n/10) rfl (by omega);have h2:=mB (n/10);cases hd:bn (n/10) 1 with
   |nil=>exact absurd hd h2
   |cons x l=>rw[hd]at h1;exact h1
theorem Od {l:List UInt8}{c:UInt8}(h:bI l=true)(hc:fJ c=false):c∉l:=by
 intro hm;have:=bV.1 h c hm;rw[hc]at this;cases this
theorem Kx {n k:Nat}{c:UInt8}(hc:fJ c=false):c∉bn n k:=Od (jE n k) hc
theorem i32:fJ 32=false:=by decide
end Go.Ae
namespace Go.Ae
open Bg N Go.Proofs
noncomputable section
theorem H0 {n m:Nat}(h:n%10=m%10):dg n=dg m:=by
 have e:(dg n).toNat=(dg m).toNat:=by rw[rn,rn,h]
 exact UInt8.toNat_inj.1 e
theorem pI:∀(j q r:Nat),0<q→r<10^j→bn (q*10^j+r) 1=bn q 1++bn r j
 | 0,q,r,hq,hr=>by
  rw[Nat.pow_zero]at hr⊢;obtain rfl:r=0:=by omega
  rw[iw,dF,aY,iK]
 | j+1,q,r,hq,hr=>by
  have h10:q*10^(j+1)=q*10^j*10:=by rw[aV,aF]
  have hp:0<q*10^j:=eY hq (dp (by decide));rw[aV]at hr;have hd:(q*10^(j+1)+r)/10=q*10^j+r/10:=by rw[h10];omega
  have hm:dg (q*10^(j+1)+r)=dg r:=H0 (by rw[h10];omega);rw[eM (by omega),hd,show 1-1=0 from rfl,sH (by omega),pI j q (r/10) hq (by omega),hm,eM (n:=r) (k:=j+1) (by omega),gS,cW]
def bB (z:Int):List UInt8:=if z<0 then 45::bn z.natAbs 1 else bn z.natAbs 1
section
variable {h h':Hp}{K:AV→Hp→Prop}{v w:AV}{z:Int}
theorem d181 (i:oS h v z)(lz:Lr 400000 z):Gv E3 181 [v] h (.str (bB z)):=by
 obtain⟨w,rfl,o1,i⟩:=i.ex;obtain⟨l,S,D,N,V⟩:=i.un;have hl:=lz.len N V;refine Gv.of (ac.fn (fn:=R.Ly) rfl rfl rfl ?_);unfold R.Ly;have rd:=(S.aO (aH.push (aH.refl h) (f:=fun st=> .row [.bool (decide (z<0)),w] true st))).rd;have ln:=rd.len;by_cases h0:l=[]
 ·subst h0;simp only[aK]at ln;rw[jG]at V;obtain rfl:z=0:=by omega
  repeat'(with_reducible first|simp(disch:=try exact ab) only[go_sem,seval,o1,ln]|(apply aj.i<;>intro hc))
  refine⟨by unfold bB;rw[if_neg (by omega)];rw[show(0:Int).natAbs=0 from rfl,show bn 0 1=[48] from by decide+kernel],?_⟩;exact aL
 ·have hl0:l.length≠0:=by simpa using h0
  have Wf:¬(l.length:Int)=0:=by omega
  have ad:=rd.jn;have PB:=rd.load (l.length-1) (by omega);have i1:((l.length:Int)-1).toNat=l.length-1:=by omega
  have ZS:=Dg.getD (B:=1000000000) (by decide) D (l.length-1)
  have htop:0<l.getD (l.length-1) 0:=by
   obtain⟨m,y,rfl⟩:=jN h0;have:=iq.1 N;have e:(m++[y]).getD ((m++[y]).length-1) 0=y:=by simp[bQ]
   omega
  have xR:=jw (B:=1000000000) (l:=l) (j:=l.length-1) (by omega);rw[show l.length-1+1=l.length by omega,List.drop_length,jG,fW,aY]at xR;have t1:=fun{h:Hp} {K:AV→Hp→Prop}=>AJ (h:=h) (K:=K) (n:=l.getD (l.length-1) 0) (by omega)
  repeat'(with_reducible first|simp(disch:=try exact ab) only[go_sem,seval,o1,ln,Wf,ad,i1,PB,t1]|(apply aj.i<;>intro hc))
  refine Wp.bW (fun m s=>∃k:Nat,val s.tm (.t 1)= .ptr h.next 0∧val s.tm (.t 3)= .str (bn (vl 1000000000 (l.drop k)) 1)∧val s.tm (.t 4)= .int .i64 ((k:Int)-1)∧
   s.hp=(h.push fun st=> .row [.bool (decide (z<0)),w] true st)∧k<l.length∧0<vl 1000000000 (l.drop k)∧(bn (vl 1000000000 (l.drop k)) 1).length≤20+9*(l.length-k)∧k=m) (n:=l.length-1) ?_ ?_
  ·refine⟨l.length-1,aS,by simp(disch:=try exact ab) only[go_sem,seval,xR],?_,rfl,by omega,by omega,?_,rfl⟩
   ·simp(disch:=try exact ab) only[go_sem,seval];congr 1;omega
   ·rw[xR];have:=iI (j:=9) (n:=l.getD (l.length-1) 0) (k:=1) (by omega);omega
  ·rintro m ⟨tm,hp⟩ ⟨k,k1,k3,k4,rfl,hk,hpos,hlen,rfl⟩;simp only at k1 k3 k4;rcases aE k with rfl|Bz
   ·have e0:((0:Nat):Int)-1= -1:=rfl;rw[eE,V]at k3;rw[eE,V]at hlen;by_cases hz:z<0
    ·have et:bB z=45::bn z.natAbs 1:=if_pos hz;repeat'(with_reducible first|simp(disch:=try exact ab) only[go_sem,seval,k1,k3,k4,e0,hz]|(apply aj.i<;>intro hc))
     rw[et];refine⟨rfl,?_⟩;exact aL
    ·have et:bB z=bn z.natAbs 1:=if_neg hz;repeat'(with_reducible first|simp(disch:=try exact ab) only[go_sem,seval,k1,k3,k4,e0,hz]|(apply aj.i<;>intro hc))
     rw[et];refine⟨rfl,?_⟩;exact aL
   ·have e1:((k:Int)-1).toNat=k-1:=by omega
    have hp1:(0:Int)≤(k:Int)-1:=by omega
    have ld:=rd.load (k-1) (by omega);have hd:=Dg.getD (B:=1000000000) (by decide) D (k-1);have hv:=jw (B:=1000000000) (l:=l) (j:=k-1) (by omega);rw[bT Bz]at hv;have t9:∀{h:Hp} {K:AV→Hp→Prop},ac E3 186 [.int .i64 (l.getD (k-1) 0:Nat),.int .i64 9] h K↔K (.str (bn (l.getD (k-1) 0) 9)) h:=fun{h K}=>P5 (h:=h) (K:=K) (n:=l.getD (k-1) 0) (k:=9) (by omega) (by omega)
    have es:=pI 9 (vl 1000000000 (l.drop k)) (l.getD (k-1) 0) hpos hd;rw[show vl 1000000000 (l.drop k)*10^9+l.getD (k-1) 0=vl 1000000000 (l.drop (k-1)) by rw[hv];omega]at es;have l9:=oH 9 (l.getD (k-1) 0) hd;repeat'(with_reducible first|simp(disch:=try exact ab) only[go_sem,seval,k1,k3,k4,e1,hp1,ad,ld,t9]|(apply aj.i<;>intro hc))
    refine⟨k-1,by omega,k-1,?_,?_,by omega,by omega,?_,rfl⟩
    ·rw[es]
    ·congr 1;omega
    ·rw[es,ar,l9];omega
end
end
end Go.Ae
namespace Go.Ae
open Bg N Go.Proofs
noncomputable section
theorem uk:∀(l:List UInt8) (n:Nat),ks n l=n*10^l.length+ks 0 l
 |[],n=>by show n=n*10^0+0;simp
 | c::l,n=>by
  show ks (n*10+dV c) l=n*10^(l.length+1)+ks (0*10+dV c) l
  rw[uk l (n*10+dV c),uk l (0*10+dV c),aV,bh,Nat.zero_mul,dd,aF n 10,aA 10];omega
theorem nJ (a b:List UInt8):bm (a++b)=bm a*10^b.length+bm b:=by
 have e:ks 0 (a++b)=ks (ks 0 a) b:=by unfold ks;rw[List.foldl_append]
 show ks 0 (a++b)=ks 0 a*10^b.length+ks 0 b
 rw[e,uk]
theorem rU {l:List UInt8}(h:bI l=true)(n:Nat):bI (l.take n)=true:=by
 unfold bI at *;rw[bV]at *;exact fun x hx=>h x (List.mem_of_mem_take hx)
theorem rV {l:List UInt8}(h:bI l=true)(n:Nat):bI (l.drop n)=true:=by
 unfold bI at *;rw[bV]at *;exact fun x hx=>h x (List.mem_of_mem_drop hx)
section
variable {h h':Hp}{K:AV→Hp→Prop}{v w:AV}{z:Int}
theorem Je {s:List UInt8}(hd:bI s=true)(hs:s.length≤18):ac E3 153 [.str s] h K↔K (.int .i64 (bm s)) h:=up MT fun K=>W6 hd hs
theorem wP {tm:T AV}{hp:Hp}{neg:Bool}{t:List UInt8}(h0:val tm (.t 0)= .str t)(h2:val tm (.t 2)= .ptr h.next 0)(h3:val tm (.t 3)= .bool neg)(hA:bG hp h.next [.bool false,.aq])(hG:aH h hp)
  (hd:bI t=true) (ht:t≠[]) (hl:t.length≤100000):
  Wp E3 (R.B8.code.post 3) ⟨tm,hp⟩ (gy [.cell 2 true 2] fun v h'=>oS h' v (iB neg (bm t))∧aH h h'):=by
 unfold R.B8;dsimp only[au.post];repeat'(with_reducible first|simp(disch:=try exact ab) only[go_sem,seval,h0,h2,h3]|(apply aj.i<;>intro hc))
 refine Wp.bW (fun m s=>∃(u:List UInt8) (out:List Nat) (v:AV) (n:Nat),val s.tm (.t 0)= .str u∧val s.tm (.t 2)= .ptr h.next 0∧val s.tm (.t 3)= .bool neg∧val s.tm (.t 4)=v∧aH hp s.hp∧cO 1 hp s.hp v n (out.map (wd .i64))∧out.length=n∧Dg 1000000000 out∧
  bI u=true∧u≠[]∧u.length+9*n=t.length∧bm t=vl 1000000000 out+1000000000^n*bm u∧u.length=m) (n:=t.length) ?_ ?_
 ·exact⟨t,[],.aq,0,by simp(disch:=try exact ab) only[go_sem,seval,h0],by simp(disch:=try exact ab) only[go_sem,seval,h2],by simp(disch:=try exact ab) only[go_sem,seval,h3],aS,aH.refl _,cO.nil,rfl,Dg.nil,hd,ht,by omega,by simp[vl],rfl⟩
 ·rintro m ⟨tm,hq⟩ ⟨u,out,v,n,h0,h2,h3,h4,zl,hO,hlo,dO,hu,TU,hlen,heq,rfl⟩;simp only at h0 h2 h3 h4 zl hO;by_cases hc:9<u.length
  ·have ky:(9:Int)<u.length:=by omega
   have e1:((u.length:Int)-9).toNat=u.length-9:=by omega
   have hd2:=rV hu (u.length-9);have l2:(u.drop (u.length-9)).length=9:=by rw[bP];omega
   have c2:=fun{h:Hp} {K:AV→Hp→Prop}=>Je (h:=h) (K:=K) hd2 (by omega)
   have TO:=iu hd2;rw[l2]at TO
   have ha:bm u=bm (u.take (u.length-9))*10^9+bm (u.drop (u.length-9)):=by
    conv=>lhs;rw[←fD (u.length-9) u,nJ,l2]
   repeat'(with_reducible first|simp(disch:=try exact ab) only[go_sem,seval,h0,h2,h3,h4,ky,e1,c2,jA]|(apply aj.i<;>intro hc))
   refine cO.wp (h0:=hp) (b:=8) rfl zl hO rfl (by decide) (by omega) (by omega) fun v' h' G' O'=>?_
   repeat'(with_reducible first|simp(disch:=try exact ab) only[go_sem,seval,h0,h2,h3,h4,e1]|(apply aj.i<;>intro hc))
   refine⟨(u.take (u.length-9)).length,by rw[az];omega,u.take (u.length-9),out++[bm (u.drop (u.length-9))],v',n+1,rfl,rfl,G',?_,by simp[hlo],dO.append (Dg.cons TO Dg.nil),rU hu _,?_,?_,?_,rfl⟩
   ·rw[dT];exact O'
   ·intro e;have:=congrArg List.length e;rw[az]at this;simp only[aK]at this;omega
   ·rw[az];omega
   ·rw[show(10:Nat)^9=1000000000 from rfl]at ha;have e9:(1000000000:Nat)^(n+1)=1000000000^n*1000000000:=aV _ _;rw[heq,ha,jv,hlo,e9,ay];have:1000000000^n*(bm (fH (u.length-9) u)*1000000000)=1000000000^n*1000000000*bm (fH (u.length-9) u):=by rw[aA (bm _),aF]
    omega
  ·have ky:¬(9:Int)<u.length:=by omega
   have c1:=fun{h:Hp} {K:AV→Hp→Prop}=>Je (h:=h) (K:=K) hu (by omega)
   have lt1:=iu hu;have hpw:(10:Nat)^u.length≤10^9:=aT (by decide) (by omega);have hdu:bm u<1000000000:=ah lt1 hpw;repeat'(with_reducible first|simp(disch:=try exact ab) only[go_sem,seval,h0,h2,h3,h4,ky,c1,jA]|(apply aj.i<;>intro hc))
   refine cO.wp (h0:=hp) (b:=8) rfl zl hO rfl (by decide) (by omega) (by omega) fun v' h' G' O'=>?_
   have eO:out.map (wd .i64)++[.int .i64 (bm u:Nat)]=(out++[bm u]).map (wd .i64):=by rw[dT];rfl
   rw[eO]at O';have S':=O'.sq (by simp[hlo]);repeat'(with_reducible first|simp(disch:=try exact ab) only[go_sem,seval,h0,h2,h3,h4]|(apply aj.i<;>intro hc))
   refine Gp.wp (d249 S' (dO.append (Dg.cons hdu Dg.nil)) (by simp;omega)) fun v5 k5 a5 b5 u5 I5=>?_
   have ev:vl 1000000000 (out++[bm u])=bm t:=by rw[jv,hlo,heq]
   rw[ev]at I5;obtain⟨w5,rfl,p5,I5⟩:=I5.ex;obtain⟨st,hg,hst,hlt⟩:=(hA.aO G').aO (⟨_,_,u5⟩:aH h' (h'.ov k5 u5));repeat'(with_reducible first|simp(disch:=try exact ab) only[go_sem,seval,h2,hg,p5]|(apply aj.i<;>intro hc))
   refine⟨I5.jI (by simp(disch:=try exact ab) only[go_sem,seval,bU,hg]),?_⟩;exact aH.put ((hG.trans G').ov) (ae _)
end
end
end Go.Ae
namespace Go.Ae
open Bg N Go.Proofs
noncomputable section
section
variable {h h':Hp}{K:AV→Hp→Prop}{v w:AV}{z:Int}
theorem d207 {neg:Bool}{t:List UInt8}(hd:bI t=true)(ht:t≠[])(hl:t.length≤100000):Gp E3 207 [.str (if neg=true then 45::t else t)] h fun v h'=>oS h' v (iB neg (bm t)):=by
 refine Gp.of (ac.fn (fn:=R.B8) rfl rfl rfl ?_);have A:bG (h.push fun st=> .row [.bool false,.aq] true st) h.next [.bool false,.aq]:=bG.push;have G:aH h (h.push fun st=> .row [.bool false,.aq] true st):=aH.push (aH.refl h);have tail:=fun(tm:T AV) h0 h2 h3=>wP (h:=h) (hp:=h.push fun st=> .row [.bool false,.aq] true st) (tm:=tm) (neg:=neg) (t:=t) h0 h2 h3 A G hd ht hl
 refine Wp.cut 3 rfl ?_;generalize au.post 3 R.B8.code=r at tail⊢
 unfold R.B8;dsimp only[au.pre];cases neg with
 | true=>
  rw[if_pos rfl];have e0:((45::t:List UInt8).getD 0 0).toNat=45:=rfl;have IR:(0:Int)<((45::t:List UInt8).length:Int):=by simp
  repeat'(with_reducible first|simp(disch:=try exact ab) only[go_sem,seval,IR,e0]|(apply aj.i<;>intro hc))
  exact tail _ aS aS (by(simp(disch:=try exact ab) only[go_sem,seval])<;>rfl)
 | false =>
  rw[if_neg (by decide)];have hl0:t.length≠0:=by simpa using ht
  have IR:(0:Int)<t.length:=by omega
  have hne:¬(((t.getD 0 0).toNat:Nat):Int)=45:=by
   match t,ht,hd with
   | c ::r,_,hd=>
    have hc:fJ c=true:=by
     unfold bI at hd;exact(bV.1 hd) c (by simp)
    unfold fJ at hc;have:=of_decide_eq_true hc;simp only[de];omega
  repeat'(with_reducible first|simp(disch:=try exact ab) only[go_sem,seval,IR,hne]|(apply aj.i<;>intro hc))
  exact tail _ aS aS (by(simp(disch:=try exact ab) only[go_sem,seval])<;>rfl)
end
end
end Go.Ae
set_option maxHeartbeats 2000000
namespace Go.Ae
open Bg N Go.Proofs
noncomputable section
def aX (r:Rat):List UInt8:=if r.den=1 then bB r.num else bB r.num++47::bB r.den
theorem iD {n:Nat}{z:Int}(h:Lr n z):(bB z).length≤9*n+2:=by
 have h':z.natAbs<10^(9*n):=by rw[Nat.pow_mul];exact h
 have:=iI (j:=9*n) (n:=z.natAbs) (k:=1) h';unfold bB;split
 ·rw[ap];omega
 ·omega
section
variable {h h' hp:Hp}{K:AV→Hp→Prop}{tm:T AV}{w1 w2:AV}{x y:Int}
theorem zp {p2 p3:Nat}(h2:val tm (.t 2)= .ptr p2 0)(h3:val tm (.t 3)= .ptr p3 0)(g2:bG hp p2 [.bool (decide (x<0)),w1])(g3:bG hp p3 [.bool (decide (y<0)),w2])(hG:aH h hp)
  (ix:oS hp (.agg [.bool (decide (x<0)),w1]) x) (iy:oS hp (.agg [.bool (decide (y<0)),w2]) y) (lx:Lr 100000 x) (ly:Lr 100000 y) (hy:0<y):
  Wp E3 (R.uD.code.post 2) ⟨tm,hp⟩ (gy [.tmp 4] fun v h'=>v= .str (aX (bD x y))∧aH h h'):=by
 refine Wp.cut 5 rfl ?_;obtain⟨rc,Rt⟩:∃rc,rc=au.post 5 (au.post 2 R.uD.code):=⟨_,rfl⟩
 rw[←Rt];unfold R.uD;dsimp only[au.post,au.pre];obtain⟨s2,q2,c2,t2⟩:=g2;obtain⟨s3,q3,c3,t3⟩:=g3;obtain⟨l1,S1,D1,N1,V1⟩:=ix.un;obtain⟨l2,S2,D2,N2,V2⟩:=iy.un;have m1:=lx.len N1 V1;have m2:=ly.len N2 V2;obtain⟨f1,f2,f3⟩:=uh (p:=x) hy;have hgp:0<eA x.natAbs y.natAbs:=Nat.gcd_pos_of_pos_right _ (by omega)
 repeat'(with_reducible first|simp(disch:=try exact ab) only[go_sem,seval,h2,h3,q2,q3]|(apply aj.i<;>intro hc))
 refine Gp.wp (d125 S1 S2 D1 D2 N1 N2 (by omega) (by omega)) fun v5 k5 a5 b5 u5 ⟨l5,S5,D5,N5,V5⟩=>?_
 rw[V1,V2]at V5
 have hl5:l5.length≤100000:=zu (B:=1000000000) (by decide) N5 (by
  rw[V5];exact gR (Nat.gcd_le_right _ (by omega)) ly)
 have Z7:l5≠[]:=by rintro rfl;rw[jG]at V5;omega
 have S1':=(S1.aO ⟨_,_,u5⟩:Sq .i64 (hp.ov k5 u5) w1 l1)
 have S2':=(S2.aO ⟨_,_,u5⟩:Sq .i64 (hp.ov k5 u5) w2 l2)
 repeat'(with_reducible first|simp(disch:=try exact ab) only[go_sem,seval,h2,h3,q2,q3]|(apply aj.i<;>intro hc))
 refine Gp.wp (d208 S1' S5 D1 D5 N1 N5 (by omega) (by omega) Z7) fun v6 k6 a6 b6 u6 ⟨vq6,vr6,U4,lr6,e6,Sq6,_,Dq6,_,Nq6,_,Vq6,_⟩=>?_
 subst e6;rw[V1,V5,←f1]at Vq6;have S2'':=(S2'.aO ⟨_,_,u6⟩:Sq .i64 ((hp.ov k5 u5).ov k6 u6) w2 l2)
 have S5':=(S5.aO ⟨_,_,u6⟩:Sq .i64 ((hp.ov k5 u5).ov k6 u6) v5 l5)
 repeat'(with_reducible first|simp(disch:=try exact ab) only[go_sem,seval,h2,h3,q2,q3]|(apply aj.i<;>intro hc))
 refine Gp.wp (d208 S2'' S5' D2 D5 N2 N5 (by omega) (by omega) Z7) fun v8 k8 a8 b8 u8 ⟨Us,vr8,JT,lr8,e8,Sq8,_,Dq8,_,Nq8,_,Vq8,_⟩=>?_
 subst e8;rw[V2,V5,←f2]at Vq8;have Sq6':=(Sq6.aO ⟨_,_,u8⟩:Sq .i64 (((hp.ov k5 u5).ov k6 u6).ov k8 u8) vq6 U4)
 obtain⟨r,hr⟩:∃r,r=bD x y:=⟨_,rfl⟩
 rw[←hr]at f1 f2 f3 Vq6 Vq8⊢;have ln:Lr 100000 r.num:=lx.le (by rw[f1];exact jp _ _);have ld:Lr 100000 (r.den:Int):=ly.le (by rw[Int.natAbs_natCast,f2];exact jp _ _);have hq6:U4.length≤100000:=zu (B:=1000000000) (by decide) Nq6 (by rw[Vq6];exact ln);have hq8:JT.length≤100000:=zu (B:=1000000000) (by decide) Nq8 (by rw[Vq8];exact ld)
 have es:iB (decide (x<0)) (vl 1000000000 U4)=r.num:=by
  rw[Vq6];unfold iB;by_cases c:x<0
  ·have:=f3.2 c;rw[decide_eq_true c,if_pos rfl];omega
  ·have:¬r.num<0:=fun e=>c (f3.1 e)
   rw[decide_eq_false c,if_neg (by decide)];omega
 have tl1:=iD ln;have tl2:=iD ld;repeat'(with_reducible first|simp(disch:=try exact ab) only[go_sem,seval,h2,h3,q2,q3]|(apply aj.i<;>intro hc))
 refine Gp.wp (d249 Sq6' Dq6 (by omega)) fun v9 k9 a9 b9 u9 I9=>?_
 rw[es]at I9;repeat'(with_reducible first|simp(disch:=try exact ab) only[go_sem,seval,h2,h3]|(apply aj.i<;>intro hc))
 refine Gv.wp (d181 I9 (ln.mono (by decide))) fun h10 k10 ZM u10=>?_
 have Sq8':=((Sq8.aO ⟨_,_,u9⟩:Sq .i64 ((((hp.ov k5 u5).ov k6 u6).ov k8 u8).ov k9 u9) Us JT).aO ⟨_,_,u10⟩:Sq .i64 (((((hp.ov k5 u5).ov k6 u6).ov k8 u8).ov k9 u9).ov h10 u10) Us JT)
 have r8:=Sq8'.rd;have Oi:=r8.len;have Ua:=r8.jn;have e00:(0:Int).toNat=0:=rfl
 have slow:∀(tm:T AV),val tm (.t 8)=Us→val tm (.t 10)= .str (bB r.num)→r.den≠1→Wp E3 rc ⟨tm,((((hp.ov k5 u5).ov k6 u6).ov k8 u8).ov k9 u9).ov h10 u10⟩ (gy [.tmp 4] fun v h'=>v= .str (aX r)∧aH h h'):=by
  intro tm h8 RT Wy;rw[Rt];unfold R.uD;dsimp only[au.post];have et:aX r=bB r.num++47::bB r.den:=if_neg Wy;have eden:iB false (vl 1000000000 JT)=(r.den:Int):=by rw[Vq8];unfold iB;simp
  repeat'(with_reducible first|simp(disch:=try exact ab) only[go_sem,seval,h8,RT]|(apply aj.i<;>intro hc))
  refine Gp.wp (d249 Sq8' Dq8 (by omega)) fun v11 k11 a11 b11 u11 I11=>?_
  rw[eden]at I11;repeat'(with_reducible first|simp(disch:=try exact ab) only[go_sem,seval,h8,RT]|(apply aj.i<;>intro hc))
  refine Gv.wp (d181 I11 (ld.mono (by decide))) fun h12 k12 ZL u12=>?_
  repeat'(with_reducible first|simp(disch:=try exact ab) only[go_sem,seval]|(apply aj.i<;>intro hc))
  refine⟨by rw[et];simp,?_⟩;refine hG.trans ?_;exact aL
 by_cases hd:r.den=1
 ·have e8:JT=[1]:=tK (B:=1000000000) (by decide) Dq8 (Dg.cons (by decide) Dg.nil) Nq8 (by simp[Norm]) (by rw[Vq8,hd];simp[vl]);subst e8;have JX:=r8.load 0 (by simp);simp only[de,aY]at JX;have e1:((1:Nat):Int)=1:=rfl;simp only[ap,aK,dd]at Oi;rw[e1]at Oi JX;have et:aX r=bB r.num:=if_pos hd
  repeat'(with_reducible first|simp(disch:=try exact ab) only[go_sem,seval,Oi,Ua,e00,JX,e1]|(apply aj.i<;>intro hc))
  refine⟨by rw[et],?_⟩;refine hG.trans ?_;exact aL
 ·by_cases hl:JT.length=1
  ·obtain⟨d,rfl⟩:∃d,JT=[d]:=by
    match JT,hl with
    |[d],_=>exact⟨d,rfl⟩
   have ed:d=r.den:=by rw[←Vq8];simp[vl]
   have JX:=r8.load 0 (by simp);simp only[de,aY]at JX;have e1:((1:Nat):Int)=1:=rfl;simp only[ap,aK,dd]at Oi;rw[e1]at Oi;have hd1:¬(d:Int)=1:=by omega
   repeat'(with_reducible first|simp(disch:=try exact ab) only[go_sem,seval,Oi,Ua,e00,JX,hd1]|(apply aj.i<;>intro hc))
   exact slow _ aS aS hd
  ·have hl':¬(JT.length:Int)=1:=by omega
   repeat'(with_reducible first|simp(disch:=try exact ab) only[go_sem,seval,Oi,hl']|(apply aj.i<;>intro hc))
   exact slow _ aS aS hd
end
end
end Go.Ae
namespace Go.Ae
open Bg N Go.Proofs
noncomputable section
section
variable {h h' hp:Hp}{K:AV→Hp→Prop}{va vb:AV}{x y:Int}
theorem d169 (ia:oS h va x)(ib:oS h vb y)(lx:Lr 100000 x)(ly:Lr 100000 y)(hy:y≠0):Gv E3 169 [va,vb] h (.str (aX (bD x y))):=by
 obtain⟨w1,rfl,o1,i1⟩:=ia.ex;obtain⟨w2,rfl,o2,i2⟩:=ib.ex;refine Gv.of (ac.fn (fn:=R.uD) rfl rfl rfl ?_);refine Wp.cut 2 rfl ?_;have G:aH h ((h.push fun st=> .row [.bool (decide (x<0)),w1] true st).push fun st=> .row [.bool (decide (y<0)),w2] true st):=(aH.refl h).push.push
 have A2:bG ((h.push fun st=> .row [.bool (decide (x<0)),w1] true st).push fun st=> .row [.bool (decide (y<0)),w2] true st) h.next [.bool (decide (x<0)),w1]:=(bG.push.aO (aH.refl _).push)
 have A3:bG ((h.push fun st=> .row [.bool (decide (x<0)),w1] true st).push fun st=> .row [.bool (decide (y<0)),w2] true st) (h.next+1) [.bool (decide (y<0)),w2]:=bG.push;by_cases hp:0<y
 ·have tail:=fun(hp':Hp) tm p2 p3 h2 h3 g2 g3 hG ix iy=>zp (h:=h) (hp:=hp') (tm:=tm) (x:=x) (y:=y) (w1:=w1) (w2:=w2) (p2:=p2) (p3:=p3) h2 h3 g2 g3 hG ix iy lx ly hp
  generalize au.post 2 R.uD.code=r at tail⊢
  unfold R.uD;dsimp only[au.pre];have hs:¬y<0:=by omega
  repeat'(with_reducible first|simp(disch:=try exact ab) only[go_sem,seval,o1,o2,hs]|(apply aj.i<;>intro hc))
  have hd:decide (y<0)=false:=decide_eq_false hs;rw[hd]at A2 A3 G i2 tail;exact tail _ _ h.next (h.next+1) aS aS A2 A3 G (i1.aO G) (i2.aO G)
 ·have tail:=fun(hp':Hp) tm p2 p3 (w1 w2:AV) h2 h3 g2 g3 hG ix iy=>zp (h:=h) (hp:=hp') (tm:=tm) (x:= -x) (y:= -y) (w1:=w1) (w2:=w2) (p2:=p2) (p3:=p3) h2 h3 g2 g3 hG ix iy lx.neg ly.neg (by omega)
  rw[nI hy]at tail;generalize au.post 2 R.uD.code=r at tail⊢
  unfold R.uD;dsimp only[au.pre];have hs:y<0:=by omega
  have hd:decide (y<0)=true:=decide_eq_true hs;rw[hd]at A2 A3 G i2;repeat'(with_reducible first|simp(disch:=try exact ab) only[go_sem,seval,o1,o2,hd]|(apply aj.i<;>intro hc))
  refine Gp.wp (d248 (i1.aO G) (lx.mono (by decide))) fun v5 k5 a5 b5 u5 I5=>?_
  obtain⟨w5,rfl,p5,I5⟩:=I5.ex;repeat'(with_reducible first|simp(disch:=try exact ab) only[go_sem,seval,o1,o2,p5]|(apply aj.i<;>intro hc))
  refine Gp.wp (d248 ((i2.aO G).aO aL) (ly.mono (by decide))) fun v6 k6 a6 b6 u6 I6=>?_
  obtain⟨w6,rfl,p6,I6⟩:=I6.ex;have I5':=I5.aO (⟨_,_,u6⟩:aH _ ((((h.push fun st=> .row [.bool (decide (x<0)),w1] true st).push fun st=> .row [.bool true,w2] true st).ov k5 u5).ov k6 u6));repeat'(with_reducible first|simp(disch:=try exact ab) only[go_sem,seval,o1,o2,p5,p6]|(apply aj.i<;>intro hc))
  have G6:aH ((h.push fun st=> .row [.bool (decide (x<0)),w1] true st).push fun st=> .row [.bool true,w2] true st) ((((h.push fun st=> .row [.bool (decide (x<0)),w1] true st).push fun st=> .row [.bool true,w2] true st).ov k5 u5).ov k6 u6):=by exact aL
  refine tail _ _ h.next (h.next+1) w5 w6 aS aS ?_ ?_ ?_ ?_ ?_
  ·exact(bG.put mJ).other (by omega)
  ·exact bG.put mJ
  ·exact aH.put (aH.put (G.trans G6) (by omega)) (by omega)
  ·exact(I5'.jI (by simp(disch:=try exact ab) only[go_sem,seval,bU])).jI (by simp(disch:=try exact ab) only[go_sem,seval,bU])
  ·exact(I6.jI (by simp(disch:=try exact ab) only[go_sem,seval,bU])).jI (by simp(disch:=try exact ab) only[go_sem,seval,bU])
end
end
end Go.Ae
