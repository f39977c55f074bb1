/- Whole numbers of any size: quotient, greatest common divisor. -/
import Derived.Test.YtdaggbpeoldmeaaGreatDoorM7
import Derived.Test.YtdaggbpeoldmeaaGreatDoorM5
import Derived.Test.YtdaggbpeoldmeaaGreatDoorM6
open Bool renaming and_eq_true → bI
open Iff renaming rfl → aA
open Int renaming gcd → cJ, natAbs_natCast → ax, mul_ne_zero → jb, lt_irrefl → gC, toNat_natCast → fm, natCast_add → td
open List renaming all_cons → jU, all_nil → vJ, prefix_iff_eq_take → D8, takeWhile_prefix → FL, all_eq_true → cL, take_length → bu, length_pos_iff → gy, length_take → aB, length_drop → bN, take_append_drop → fP, map_cons → fR, take_left → kO, drop_drop → fC, drop_left → jv, replicate → aw, flatMap_cons → iE, flatMap_append → rU, range → fg, set_eq_take_append_cons_drop → tc, getElem?_map → bZ, getElem?_range → im, ext_getElem? → AL, getElem?_eq_none → cb
open List.cons renaming injEq → jf
open Nat renaming gcd → eM, eq_zero_or_pos → aG, pow_le_pow_right → aU, le_refl → ac, pow_add → dz, mul_le_mul_right → aH, add_mul → aX, zero_le → aE, min_eq_left → cI, pow_mul → mY, lt_of_lt_of_le → ah, not_lt_zero → gz, le_trans → az, eq_or_lt_of_le → cN, lt_trichotomy → iN, le_of_lt → yr, succ_mul → vg
open Option renaming map_some → cV
open Option.some renaming inj → aa
open Rat renaming divInt → bP, num_eq_zero → qa, num_intCast → yo
set_option linter.unusedVariables false
set_option linter.unusedSimpArgs false
set_option maxRecDepth 100000
namespace Go.Ae
open Bg
noncomputable section
section
variable {h hp:Hp}{K:AV→Hp→Prop}{s w s' w':AV}{x y z:Int}
theorem i197 (ix:gF h s w x)(iy:gF h s' w' y)(lx:fS 3999 x)(ly:fS 3999 y)(hy:0<y):Gp E2 197 [.agg [s,w],.agg [s',w']] h (DmP x y):=by
 obtain⟨o1,o2⟩:=ix.one;obtain⟨o3,o4⟩:=iy.one;obtain⟨n',rfl⟩:=iy.fst;have A2:bv ((((h.push fun st=> .row [s,w] true st).push fun st=> .row [.int .i64 n',w'] true st).push fun st=> .row [.int .i64 0,.av] true st).push fun st=> .row [.int .i64 0,.av] true st) h.next [s,w]:=(bv.push.aO (aK.refl _).push.push.push)
 have A3:bv ((((h.push fun st=> .row [s,w] true st).push fun st=> .row [.int .i64 n',w'] true st).push fun st=> .row [.int .i64 0,.av] true st).push fun st=> .row [.int .i64 0,.av] true st) (h.next+1) [.int .i64 n',w']:=(bv.push.aO (aK.refl _).push.push)
 have A4:bv ((((h.push fun st=> .row [s,w] true st).push fun st=> .row [.int .i64 n',w'] true st).push fun st=> .row [.int .i64 0,.av] true st).push fun st=> .row [.int .i64 0,.av] true st) (h.next+1+1) [.int .i64 0,.av]:=(bv.push.aO (aK.refl _).push)
 have A5:bv ((((h.push fun st=> .row [s,w] true st).push fun st=> .row [.int .i64 n',w'] true st).push fun st=> .row [.int .i64 0,.av] true st).push fun st=> .row [.int .i64 0,.av] true st) (h.next+1+1+1) [.int .i64 0,.av]:=bv.push
 have G:aK h ((((h.push fun st=> .row [s,w] true st).push fun st=> .row [.int .i64 n',w'] true st).push fun st=> .row [.int .i64 0,.av] true st).push fun st=> .row [.int .i64 0,.av] true st):=(aK.refl h).push.push.push.push
 have tail:=fun(hp:Hp) (tm:T AV) (p2 p3 p4 p5:Nat) h2 h3 h4 h5 g2 g3 g4 g5 (hG:aK h hp) hn h45 ix iy=>Lo (h:=h) (hp:=hp) (tm:=tm) (p2:=p2) (p3:=p3) (p4:=p4) (p5:=p5) (s:=s) (w:=w) (n':=n') (w':=w') h2 h3 h4 h5 g2 g3 g4 g5 hG hn h45 ix iy lx ly hy
 rcases ix.cases with⟨rfl,rfl,hx⟩|⟨n,t,o,rfl,_⟩
 ·rcases iy.cases with⟨e,rfl,hy'⟩|⟨n,t,o,rfl,_⟩
  ·obtain rfl:n'=y:=by injection e
   by_cases hm:x= -9223372036854775808
   ·refine Gp.of (ae.fn (fn:=C.pW) rfl rfl rfl ?_);refine Wp.cut 2 rfl ?_;generalize ap.post 2 C.pW.code=r at tail⊢
    unfold C.pW;dsimp only[ap.pre];subst hm;repeat'(with_reducible first|simp(disch:=try exact ab) only[go_sem,seval]|(apply ai.i<;>intro hc))
    exact tail _ _ _ _ _ _ aL aL aL aL A2 A3 A4 A5 G (by omega) (by omega) (ix.aO G) (iy.aO G)
   ·refine(Yk (by omega) (by omega)).gp fun h' _=>⟨_,_,rfl,sZ.sI ?_,sZ.sI ?_⟩
    ·have:=tdiv_le (a:=x) (b:=n') (by omega) hy;have ht: -n'<x.tmod n'∧x.tmod n'<n':=⟨Int.lt_tmod_of_pos x hy,Int.tmod_lt_of_pos x hy⟩
     by_cases hr:x.tmod n'<0
     ·rw[(xH hy hr).1];omega
     ·rw[(xI hy hr).1];omega
    ·have:=Int.fmod_nonneg_of_pos x hy;have:=Int.fmod_lt_of_pos x hy;omega
  ·refine Gp.of (ae.fn (fn:=C.pW) rfl rfl rfl ?_);refine Wp.cut 2 rfl ?_;generalize ap.post 2 C.pW.code=r at tail⊢
   unfold C.pW;dsimp only[ap.pre];repeat'(with_reducible first|simp(disch:=try exact ab) only[go_sem,seval]|(apply ai.i<;>intro hc))
   exact tail _ _ _ _ _ _ aL aL aL aL A2 A3 A4 A5 G (by omega) (by omega) (ix.aO G) (iy.aO G)
 ·refine Gp.of (ae.fn (fn:=C.pW) rfl rfl rfl ?_);refine Wp.cut 2 rfl ?_;generalize ap.post 2 C.pW.code=r at tail⊢
  unfold C.pW;dsimp only[ap.pre];repeat'(with_reducible first|simp(disch:=try exact ab) only[go_sem,seval,o1,o4]|(apply ai.i<;>intro hc))
  exact tail _ _ _ _ _ _ aL aL aL aL A2 A3 A4 A5 G (by omega) (by omega) (ix.aO G) (iy.aO G)
theorem i201 (ix:gF h s w x)(iy:gF h s' w' y)(lx:fS 3999 x)(ly:fS 3999 y)(hy:0<y):Gp E2 201 [.agg [s,w],.agg [s',w']] h fun v h'=>sZ h' v (x.fdiv y):=by
 obtain⟨o1,o2⟩:=ix.one;obtain⟨o3,o4⟩:=iy.one;refine Gp.of (ae.fn (fn:=C.a201) rfl rfl rfl ?_);unfold C.a201;have hs':¬max (-1) (min 1 y)<0:=by omega
 repeat'(with_reducible first|simp(disch:=try exact ab) only[go_sem,seval,o1,o2,o3,o4]|(apply ai.i<;>intro hc))
 refine Gv.wp (i194 (iy.aO aS)) fun h1 k1 j1 u1=>?_
 repeat'(with_reducible first|simp(disch:=try exact ab) only[go_sem,seval,hs',o1,o2,o3,o4]|(apply ai.i<;>intro hc))
 refine Gp.wp (i197 (ix.aO aS) (iy.aO aS) lx ly hy) fun v h2 k2 j2 u2 ⟨va,vb,e,I1,I2⟩=>?_
 subst e;obtain⟨a1,b1,rfl,p1,I1⟩:=I1.pq;obtain⟨a2,b2,rfl,p2,I2⟩:=I2.pq;repeat'(with_reducible first|simp(disch:=try exact ab) only[go_sem,seval,p1,p2]|(apply ai.i<;>intro hc))
 refine⟨⟨_,_,rfl,?_⟩,?_⟩
 ·exact(I1.aO aS).fx (by simp(disch:=try exact ab) only[go_sem,seval,aJ])
 ·exact aS
theorem i190 (ix:gF h s w x)(iy:gF h s' w' y)(lx:fS 3999 x)(ly:fS 3999 y):Gp E2 190 [.agg [s,w],.agg [s',w']] h fun v h'=>sZ h' v (cJ x y:Int):=by
 obtain⟨o1,o2⟩:=ix.one;obtain⟨o3,o4⟩:=iy.one;obtain⟨n1,rfl⟩:=ix.fst;obtain⟨n2,rfl⟩:=iy.fst;refine Gp.of (ae.fn (fn:=C.Mw) rfl rfl rfl ?_);unfold C.Mw;repeat'(with_reducible first|simp(disch:=try exact ab) only[go_sem,seval,o2,o4]|(apply ai.i<;>intro hc))
 refine Gp.wp (i257 (ix.aO aS) (lx.mono (by decide))) fun v h1 k1 j1 u1 I1=>?_
 obtain⟨a1,b1,rfl,p1,I1⟩:=I1.pq;repeat'(with_reducible first|simp(disch:=try exact ab) only[go_sem,seval,o2,o4,p1]|(apply ai.i<;>intro hc))
 refine Gp.wp (i257 (iy.aO aS) (ly.mono (by decide))) fun v h2 k2 j2 u2 I2=>?_
 obtain⟨a2,b2,rfl,p2,I2⟩:=I2.pq;have I1':=I1.ov (g:=u2);have lx':fS 3999 (x.natAbs:Int):=lx.le (by omega);have ly':fS 3999 (y.natAbs:Int):=ly.le (by omega);repeat'(with_reducible first|simp(disch:=try exact ab) only[go_sem,seval,o2,o4,p1,p2]|(apply ai.i<;>intro hc))
 refine Wp.bD (fun m s'=>∃(a b:Nat) (m1 m2:Int) (w1 w2:AV),val s'.tm (.t 2)= .ptr h.next 0∧val s'.tm (.t 3)= .ptr (h.next+1) 0∧val s'.tm (.t 4)= .ptr (h.next+1+1) 0∧
  bv s'.hp h.next [.int .i64 m1,w1]∧bv s'.hp (h.next+1) [.int .i64 m2,w2]∧bv s'.hp (h.next+1+1) [.int .i64 0,.av]∧aK h s'.hp∧gF s'.hp (.int .i64 m1) w1 a∧gF s'.hp (.int .i64 m2) w2 b∧fS 3999 (a:Int)∧fS 3999 (b:Int)∧eM a b=cJ x y∧b=m) (n:=y.natAbs) ?_ ?_
 ·refine⟨x.natAbs,y.natAbs,a1,a2,b1,b2,aL,aL,aL,?_,?_,?_,?_,?_,?_,lx',ly',rfl,rfl⟩
  ·exact(bv.put nL).other (by omega)
  ·exact bv.put nL
  ·refine bv.other (bv.other ?_ (by omega)) (by omega);exact(bv.push (h:=(h.push fun st=> .row [.int .i64 n1,w] true st).push fun st=> .row [.int .i64 n2,w'] true st)).aO aS
  ·refine aK.put (aK.put ?_ (by omega)) (by omega);exact aS
  ·exact(I1'.fx (by simp(disch:=try exact ab) only[go_sem,seval,aJ])).fx (by simp(disch:=try exact ab) only[go_sem,seval,aJ])
  ·exact(I2.fx (by simp(disch:=try exact ab) only[go_sem,seval,aJ])).fx (by simp(disch:=try exact ab) only[go_sem,seval,aJ])
 ·rintro m ⟨tm,hp⟩ ⟨a,b,m1,m2,w1,w2,h2,h3,h4,⟨s2,g2,c2,t2⟩,⟨s3,g3,c3,t3⟩,⟨s4,g4,c4,t4⟩,hG,Ia,Ib,la,lb,hg,rfl⟩;simp only at h2 h3 h4 g2 g3 g4 c2 c3 c4 t2 t3 t4 hG Ia Ib;obtain⟨_,oa⟩:=Ia.one;obtain⟨_,ob⟩:=Ib.one;repeat'(with_reducible first|simp(disch:=try exact ab) only[go_sem,seval,h2,h3,h4,g3,oa,ob]|(apply ai.i<;>intro hc))
  refine Gv.wp (i194 Ib) fun h5 k5 j5 u5=>?_
  have Ia5:=Ia.ov (g:=u5);have Ib5:=Ib.ov (g:=u5);rcases aG b with rfl|hb
  ·have hz:max (-1) (min 1 ((0:Nat):Int))=0:=by omega
   rw[Nat.gcd_zero_right]at hg;repeat'(with_reducible first|simp(disch:=try exact ab) only[go_sem,seval,h2,h3,h4,g2,g3,g4,oa,ob,hz]|(apply ai.i<;>intro hc))
   refine⟨⟨_,_,rfl,?_⟩,?_⟩
   ·rw[←hg];exact Ia5.fx (by simp(disch:=try exact ab) only[go_sem,seval,aJ,g4])
   ·refine aK.put hG.ov (by omega)
  ·have hz:¬max (-1) (min 1 (b:Int))=0:=by omega
   repeat'(with_reducible first|simp(disch:=try exact ab) only[go_sem,seval,h2,h3,h4,g2,g3,g4,oa,ob,hz]|(apply ai.i<;>intro hc))
   refine Gp.wp (i197 Ia5 Ib5 la lb (by omega)) fun v h6 k6 j6 u6 ⟨va,vb,e,I6,I7⟩=>?_
   subst e;obtain⟨a6,b6,rfl,p6,I6⟩:=I6.pq;obtain⟨a7,b7,rfl,p7,I7⟩:=I7.pq;have Ib6:=Ib5.ov (g:=u6)
   have Xk:(a:Int).fmod b=((a%b:Nat):Int):=by
    rw[Int.fmod_eq_emod_of_nonneg _ (by omega)];rfl
   rw[Xk]at I7;repeat'(with_reducible first|simp(disch:=try exact ab) only[go_sem,seval,h2,h3,h4,g2,g3,g4,oa,ob,p6,p7]|(apply ai.i<;>intro hc))
   refine⟨a%b,Nat.mod_lt _ hb,b,a%b,m2,a7,w2,b7,?_,?_,?_,?_,?_,?_,lb,?_,?_,rfl⟩
   ·exact(bv.put nL).other (by omega)
   ·exact bv.put nL
   ·refine bv.other (bv.other ?_ (by omega)) (by omega);exact bv.aO (h:=hp) ⟨s4,g4,c4,t4⟩ aS
   ·refine aK.put (aK.put (hG.trans ?_) (by omega)) (by omega);exact aS
   ·exact((Ib6.aO aS).fx (by simp(disch:=try exact ab) only[go_sem,seval,aJ,g2])).fx (by simp(disch:=try exact ab) only[go_sem,seval,aJ,g3])
   ·exact((I7.aO aS).fx (by simp(disch:=try exact ab) only[go_sem,seval,aJ,g2])).fx (by simp(disch:=try exact ab) only[go_sem,seval,aJ,g3])
   ·exact la.le (by have:=Nat.mod_le a b;omega)
   ·rw[←hg,Nat.gcd_comm b,←Nat.gcd_rec,Nat.gcd_comm]
end
end
end Go.Ae
namespace Go.Ae
open Bg
noncomputable section
def kf (h:Hp)(v:AV)(r:Rat):Prop:=∃s w s' w',v= .agg [s,w,s',w']∧gF h s w r.num∧gF h s' w' r.den
section
variable {h h' hp:Hp}{K:AV→Hp→Prop}{s w s' w':AV}{x y z:Int}{r:Rat}{v:AV}
theorem kf.aO (i:kf h v r)(g:aK h h'):kf h' v r:=by
 obtain⟨s,w,s',w',e,i,j⟩:=i;exact⟨s,w,s',w',e,i.aO g,j.aO g⟩
theorem kf.ex (i:kf h v r):∃n w n' w',v= .agg [.int .i64 n,w,.int .i64 n',w']∧w.one=true∧w'.one=true∧gF h (.int .i64 n) w r.num∧gF h (.int .i64 n') w' r.den:=by
 obtain⟨s,w,s',w',rfl,i,j⟩:=i;obtain⟨n,rfl⟩:=i.fst;obtain⟨n',rfl⟩:=j.fst;exact⟨n,w,n',w',rfl,i.one.2,j.one.2,i,j⟩
theorem uw {n n':Int}(h1:w.one=true)(h2:w'.one=true):ke [.int .i64 0,.av,.int .i64 0,.av] [(0,2,.agg [.int .i64 n,w]),(2,2,.agg [.int .i64 n',w'])]=some [.int .i64 n,w,.int .i64 n',w']:=by
 have e1:(AV.agg [.int .i64 n,w]).cells=[.int .i64 n,w]:=rfl;have e2:(AV.agg [.int .i64 n',w']).cells=[.int .i64 n',w']:=rfl;rw[jE (by rw[e1];exact⟨rfl,by simp,by simp only[jU,vJ,h1,qy,Bool.and_self]⟩),jE (by rw[e2];exact⟨rfl,by rw[e1];simp[eE],by simp only[jU,vJ,h2,qy,Bool.and_self]⟩),oR,e1,e2];rfl
theorem HH {tm:T AV}{p2 p3 p4:Nat}{n n':Int}(h2:val tm (.t 2)= .ptr p2 0)(h3:val tm (.t 3)= .ptr p3 0)(h4:val tm (.t 4)= .ptr p4 0)(g2:bv hp p2 [.int .i64 n,w])(g3:bv hp p3 [.int .i64 n',w'])(g4:bv hp p4 [.int .i64 0,.av,.int .i64 0,.av])
  (hG:aK h hp) (hn:h.next≤p4) (ix:gF hp (.int .i64 n) w x) (iy:gF hp (.int .i64 n') w' y) (lx:fS 3999 x) (ly:fS 3999 y) (hy:0<y):
  Wp E2 ((C.a119.code.post 2).post 1) ⟨tm,hp⟩ (eT [.cell 4 true 4] fun v h'=>kf h' v (bP x y)∧aK h h'):=by
 unfold C.a119;dsimp only[ap.post];obtain⟨s2,q2,c2,t2⟩:=g2;obtain⟨s3,q3,c3,t3⟩:=g3;obtain⟨s4,q4,c4,t4⟩:=g4;obtain⟨_,o1⟩:=ix.one;obtain⟨_,o2⟩:=iy.one;obtain⟨f1,f2⟩:=mO (p:=x) hy
 have hg:0<(cJ x y:Int):=by
  have:=Int.gcd_pos_of_ne_zero_right x (show y≠0 by omega);omega
 have lg:fS 3999 (cJ x y:Int):=ly.le (by
  have:=Nat.le_of_dvd (show 0<y.natAbs by omega) (Int.gcd_dvd_natAbs_right x y);omega)
 repeat'(with_reducible first|simp(disch:=try exact ab) only[go_sem,seval,h2,h3,h4,q2,q3,o1,o2]|(apply ai.i<;>intro hc))
 refine Gp.wp (i190 ix iy lx ly) fun v h1 k1 j1 u1 I1=>?_
 obtain⟨a1,b1,rfl,p1,I1⟩:=I1.pq;repeat'(with_reducible first|simp(disch:=try exact ab) only[go_sem,seval,h2,h3,h4,q2,q3,o1,o2,p1]|(apply ai.i<;>intro hc))
 refine Gp.wp (i201 ((ix.ov (g:=u1)).aO aS) (I1.aO aS) lx lg hg) fun v h5 k5 j5 u5 I5=>?_
 obtain⟨a5,b5,rfl,p5,I5⟩:=I5.pq;repeat'(with_reducible first|simp(disch:=try exact ab) only[go_sem,seval,h2,h3,h4,q2,q3,o1,o2,p1,p5]|(apply ai.i<;>intro hc))
 refine Gp.wp (i201 ((iy.ov (g:=u1)).aO aS) (I1.aO aS) ly lg hg) fun v h6 k6 j6 u6 I6=>?_
 obtain⟨a6,b6,rfl,p6,I6⟩:=I6.pq;rw[←f1]at I5;rw[←f2]at I6;repeat'(with_reducible first|simp(disch:=try exact ab) only[go_sem,seval,h2,h3,h4,q4,o1,o2,p1,p5,p6,uw p5 p6,cV]|(apply ai.i<;>intro hc))
 refine⟨⟨_,_,_,_,rfl,?_,?_⟩,?_⟩
 ·exact(I5.ov (g:=u6)).fx (by simp(disch:=try exact ab) only[go_sem,seval,aJ,q4])
 ·exact I6.fx (by simp(disch:=try exact ab) only[go_sem,seval,aJ,q4])
 ·refine aK.put (hG.trans ?_) hn;exact aS
theorem zg {tm:T AV}{p2 p3 p4:Nat}{n n':Int}(h2:val tm (.t 2)= .ptr p2 0)(h3:val tm (.t 3)= .ptr p3 0)(h4:val tm (.t 4)= .ptr p4 0)(g2:bv hp p2 [.int .i64 n,w])(g3:bv hp p3 [.int .i64 n',w'])(g4:bv hp p4 [.int .i64 0,.av,.int .i64 0,.av])
  (hG:aK h hp) (hn:h.next≤p4) (ix:gF hp (.int .i64 n) w x) (iy:gF hp (.int .i64 n') w' y) (lx:fS 3999 x) (ly:fS 3999 y) (hy:0<y):
  Wp E2 (C.a119.code.post 2) ⟨tm,hp⟩ (eT [.cell 4 true 4] fun v h'=>kf h' v (bP x y)∧aK h h'):=by
 have tail:=fun tm h2 h3 h4=>HH (tm:=tm) (p2:=p2) (p3:=p3) (p4:=p4) h2 h3 h4 g2 g3 g4 hG hn ix iy lx ly hy
 refine Wp.cut 1 rfl ?_;generalize ap.post 1 (ap.post 2 C.a119.code)=r at tail⊢
 unfold C.a119;dsimp only[ap.post,ap.pre];obtain⟨s2,q2,c2,t2⟩:=g2;obtain⟨s3,q3,c3,t3⟩:=g3;obtain⟨s4,q4,c4,t4⟩:=g4;obtain⟨_,o1⟩:=ix.one;rcases iy.cases with⟨e,rfl,_⟩|⟨m,t,o,rfl,_⟩
 ·obtain rfl:n'=y:=by injection e
  by_cases h1:n'=1
  ·subst h1;obtain⟨f1,f2⟩:=iB (p:=x);repeat'(with_reducible first|simp(disch:=try exact ab) only[go_sem,seval,h2,h3,h4,q2,q3,q4,o1,uw o1 qx,cV]|(apply ai.i<;>intro hc))
   refine⟨⟨_,_,_,_,rfl,?_,?_⟩,?_⟩
   ·rw[f1];exact ix.fx (by simp(disch:=try exact ab) only[go_sem,seval,aJ,q4])
   ·rw[f2];exact gF.small (by omega)
   ·exact aK.put hG hn
  ·repeat'(with_reducible first|simp(disch:=try exact ab) only[go_sem,seval,h2,h3,h4,q2,q3,h1]|(apply ai.i<;>intro hc))
   exact tail _ (by simp(disch:=try exact ab) only[go_sem,seval,h2]) (by simp(disch:=try exact ab) only[go_sem,seval,h3]) (by simp(disch:=try exact ab) only[go_sem,seval,h4])
 ·repeat'(with_reducible first|simp(disch:=try exact ab) only[go_sem,seval,h2,h3,h4,q2,q3]|(apply ai.i<;>intro hc))
  exact tail _ (by simp(disch:=try exact ab) only[go_sem,seval,h2]) (by simp(disch:=try exact ab) only[go_sem,seval,h3]) (by simp(disch:=try exact ab) only[go_sem,seval,h4])
theorem i119 (ix:gF h s w x)(iy:gF h s' w' y)(lx:fS 3999 x)(ly:fS 3999 y)(hy:y≠0):Gp E2 119 [.agg [s,w],.agg [s',w']] h fun v h'=>kf h' v (bP x y):=by
 obtain⟨n,rfl⟩:=ix.fst;obtain⟨n',rfl⟩:=iy.fst;obtain⟨_,o1⟩:=ix.one;obtain⟨_,o2⟩:=iy.one;refine Gp.of (ae.fn (fn:=C.a119) rfl rfl rfl ?_);refine Wp.cut 2 rfl ?_;have G:aK h (((h.push fun st=> .row [.int .i64 n,w] true st).push fun st=> .row [.int .i64 n',w'] true st).push fun st=> .row [.int .i64 0,.av,.int .i64 0,.av] true st):=(aK.refl h).push.push.push
 have A2:bv (((h.push fun st=> .row [.int .i64 n,w] true st).push fun st=> .row [.int .i64 n',w'] true st).push fun st=> .row [.int .i64 0,.av,.int .i64 0,.av] true st) h.next [.int .i64 n,w]:=(bv.push.aO (aK.refl _).push.push)
 have A3:bv (((h.push fun st=> .row [.int .i64 n,w] true st).push fun st=> .row [.int .i64 n',w'] true st).push fun st=> .row [.int .i64 0,.av,.int .i64 0,.av] true st) (h.next+1) [.int .i64 n',w']:=(bv.push.aO (aK.refl _).push)
 have A4:bv (((h.push fun st=> .row [.int .i64 n,w] true st).push fun st=> .row [.int .i64 n',w'] true st).push fun st=> .row [.int .i64 0,.av,.int .i64 0,.av] true st) (h.next+1+1) [.int .i64 0,.av,.int .i64 0,.av]:=bv.push;by_cases hp:0<y
 ·have tail:=fun(hp':Hp) tm p2 p3 p4 (n n':Int) (w w':AV) h2 h3 h4 g2 g3 g4 hG hn ix iy=>zg (h:=h) (hp:=hp') (tm:=tm) (p2:=p2) (p3:=p3) (p4:=p4) (n:=n) (n':=n') (w:=w) (w':=w') h2 h3 h4 g2 g3 g4 hG hn ix iy lx ly hp
  generalize ap.post 2 C.a119.code=r at tail⊢
  unfold C.a119;dsimp only[ap.pre];have hs:¬max (-1) (min 1 y)<0:=by omega
  repeat'(with_reducible first|simp(disch:=try exact ab) only[go_sem,seval,o1,o2]|(apply ai.i<;>intro hc))
  refine Gv.wp (i194 (iy.aO G)) fun h1 k1 j1 u1=>?_
  have G1:aK _ ((((h.push fun st=> .row [.int .i64 n,w] true st).push fun st=> .row [.int .i64 n',w'] true st).push fun st=> .row [.int .i64 0,.av,.int .i64 0,.av] true st).ov h1 u1):=(aK.refl _).ov;repeat'(with_reducible first|simp(disch:=try exact ab) only[go_sem,seval,hs]|(apply ai.i<;>intro hc))
  exact tail _ _ h.next (h.next+1) (h.next+1+1) n n' w w' aL aL aL (A2.aO G1) (A3.aO G1) (A4.aO G1) (G.trans G1) (by omega) ((ix.aO G).aO G1) ((iy.aO G).aO G1)
 ·have tail:=fun(hp':Hp) tm p2 p3 p4 (n n':Int) (w w':AV) h2 h3 h4 g2 g3 g4 hG hn ix iy=>zg (h:=h) (hp:=hp') (tm:=tm) (p2:=p2) (p3:=p3) (p4:=p4) (n:=n) (n':=n') (w:=w) (w':=w') (x:= -x) (y:= -y) h2 h3 h4 g2 g3 g4 hG hn ix iy lx.neg ly.neg (by omega)
  rw[nY hy]at tail;generalize ap.post 2 C.a119.code=r at tail⊢
  unfold C.a119;dsimp only[ap.pre];have hs:max (-1) (min 1 y)<0:=by omega
  repeat'(with_reducible first|simp(disch:=try exact ab) only[go_sem,seval,o1,o2]|(apply ai.i<;>intro hc))
  refine Gv.wp (i194 (iy.aO G)) fun h1 k1 j1 u1=>?_
  repeat'(with_reducible first|simp(disch:=try exact ab) only[go_sem,seval,hs,o1,o2]|(apply ai.i<;>intro hc))
  refine Gp.wp (i200 ((ix.aO G).aO aS) (lx.mono (by decide))) fun v h5 k5 j5 u5 I5=>?_
  obtain⟨a5,b5,rfl,p5,I5⟩:=I5.pq;repeat'(with_reducible first|simp(disch:=try exact ab) only[go_sem,seval,hs,o1,o2,p5]|(apply ai.i<;>intro hc))
  refine Gp.wp (i200 ((iy.aO G).aO aS) (ly.mono (by decide))) fun v h6 k6 j6 u6 I6=>?_
  obtain⟨a6,b6,rfl,p6,I6⟩:=I6.pq;have I5':=I5.ov (g:=u6)
  have G6:aK (((h.push fun st=> .row [.int .i64 n,w] true st).push fun st=> .row [.int .i64 n',w'] true st).push fun st=> .row [.int .i64 0,.av,.int .i64 0,.av] true st) ((((((h.push fun st=> .row [.int .i64 n,w] true st).push fun st=> .row [.int .i64 n',w'] true st).push fun st=> .row [.int .i64 0,.av,.int .i64 0,.av] true st).ov h1 u1).ov h5 u5).ov h6 u6):=by exact aS
  repeat'(with_reducible first|simp(disch:=try exact ab) only[go_sem,seval,o1,o2,p5,p6]|(apply ai.i<;>intro hc))
  refine tail _ _ h.next (h.next+1) (h.next+1+1) a5 a6 b5 b6 aL aL aL ?_ ?_ ?_ ?_ (by omega) ?_ ?_
  ·exact(bv.put nL).other (by omega)
  ·exact bv.put nL
  ·exact((A4.aO G6).other (by omega)).other (by omega)
  ·exact aK.put (aK.put (G.trans G6) (by omega)) (by omega)
  ·exact(I5'.fx (by simp(disch:=try exact ab) only[go_sem,seval,aJ])).fx (by simp(disch:=try exact ab) only[go_sem,seval,aJ])
  ·exact(I6.fx (by simp(disch:=try exact ab) only[go_sem,seval,aJ])).fx (by simp(disch:=try exact ab) only[go_sem,seval,aJ])
end
end
end Go.Ae
namespace Go.Ae
open Bg
noncomputable section
def Bd (n:Nat)(r:Rat):Prop:=fS n r.num∧fS n (r.den:Int)
section
variable {h h' hp:Hp}{K:AV→Hp→Prop}{s w s' w':AV}{x y z:Int}{a b r:Rat}{v va vb:AV}{n m:Nat}
theorem Bd.mono (i:Bd n r)(hn:n≤m):Bd m r:=⟨i.1.mono hn,i.2.mono hn⟩
theorem Bd.of {p q:Int}(hq:q≠0)(hp:fS n p)(hl:fS n q):Bd n (bP p q):=by
 obtain⟨h1,h2⟩:=rJ (p:=p) hq;exact⟨hp.le h1,hl.le (by rw[ax];exact h2)⟩
theorem Bd.mul (i:Bd n a)(j:Bd m b):Bd (n+m) (a*b):=by
 rw[GS];have h1:=den_pos a;have h2:=den_pos b;exact Bd.of (jb (by omega) (by omega)) (i.1.mul j.1) (i.2.mul j.2)
theorem Bd.add (i:Bd n a)(j:Bd m b):Bd (n+m+1) (a+b):=by
 rw[Eu];have h1:=den_pos a;have h2:=den_pos b;exact Bd.of (jb (by omega) (by omega)) ((i.1.mul j.2).add ((j.1.mul i.2).mono (by omega))) ((i.2.mul j.2).mono (by omega))
theorem Bd.neg (i:Bd n a):Bd n (-a):=⟨i.1.neg,i.2⟩
theorem Bd.inv (i:Bd n a)(h0:a≠0):Bd n a⁻¹:=by
 rw[Rat.inv_def];exact Bd.of (by rw[ne_eq,qa];exact h0) i.2 i.1
theorem i183 (ix:gF h s w x):Gp E2 183 [.agg [s,w]] h fun v h'=>kf h' v (bP x 1):=by
 obtain⟨n,rfl⟩:=ix.fst;obtain⟨_,o1⟩:=ix.one;obtain⟨f1,f2⟩:=iB (p:=x);refine Gp.of (ae.fn (fn:=C.a183) rfl rfl rfl ?_);unfold C.a183;repeat'(with_reducible first|simp(disch:=try exact ab) only[go_sem,seval,o1]|(apply ai.i<;>intro hc))
 refine Gv.wp Ff fun h1 k1 j1 u1=>?_
 repeat'(with_reducible first|simp(disch:=try exact ab) only[go_sem,seval,o1,uw o1 qx,cV]|(apply ai.i<;>intro hc))
 refine⟨⟨_,_,_,_,rfl,?_,?_⟩,?_⟩
 ·rw[f1];exact(ix.aO aS).fx (by simp(disch:=try exact ab) only[go_sem,seval,aJ])
 ·rw[f2];exact gF.small (by omega)
 ·exact aS
theorem i115 (ia:kf h va a)(ib:kf h vb b)(la:Bd 900 a)(lb:Bd 900 b):Gp E2 115 [va,vb] h fun v h'=>kf h' v (a*b):=by
 obtain⟨n1,w1,n2,w2,rfl,o1,o2,I1,I2⟩:=ia.ex;obtain⟨m1,v1,m2,v2,rfl,o3,o4,I3,I4⟩:=ib.ex;have ha:=den_pos a;have hb:=den_pos b;refine Gp.of (ae.fn (fn:=C.MR) rfl rfl rfl ?_);unfold C.MR;rw[GS];repeat'(with_reducible first|simp(disch:=try exact ab) only[go_sem,seval,o1,o2,o3,o4]|(apply ai.i<;>intro hc))
 refine Gp.wp (i195 (I1.aO aS) (I3.aO aS) (la.1.mono (by decide)) (lb.1.mono (by decide))) fun v h1 k1 j1 u1 I5=>?_
 obtain⟨n5,w5,rfl,o5,I5⟩:=I5.pq;repeat'(with_reducible first|simp(disch:=try exact ab) only[go_sem,seval,o1,o2,o3,o4]|(apply ai.i<;>intro hc))
 refine Gp.wp (i195 (I2.aO aS) (I4.aO aS) (la.2.mono (by decide)) (lb.2.mono (by decide))) fun v h2 k2 j2 u2 I6=>?_
 obtain⟨n6,w6,rfl,o6,I6⟩:=I6.pq;repeat'(with_reducible first|simp(disch:=try exact ab) only[go_sem,seval,o1,o2,o3,o4]|(apply ai.i<;>intro hc))
 refine Gp.wp (i119 (I5.ov (g:=u2)) I6 ((la.1.mul lb.1).mono (by decide)) ((la.2.mul lb.2).mono (by decide)) (jb (by omega) (by omega))) fun v h3 k3 j3 u3 I7=>?_
 obtain⟨n7,w7,n8,w8,rfl,o7,o8,I7,I8⟩:=I7.ex;repeat'(with_reducible first|simp(disch:=try exact ab) only[go_sem,seval,o7,o8]|(apply ai.i<;>intro hc))
 refine⟨⟨_,_,_,_,rfl,?_,?_⟩,?_⟩
 ·exact I7.fx (by simp(disch:=try exact ab) only[go_sem,seval,aJ])
 ·exact I8.fx (by simp(disch:=try exact ab) only[go_sem,seval,aJ])
 ·exact aS
theorem i241 (ia:kf h va a):Gv E2 241 [va] h (.bool (decide ((a.den:Int)=1))):=by
 obtain⟨n1,w1,n2,w2,rfl,o1,o2,I1,I2⟩:=ia.ex;refine Gv.of (ae.fn (fn:=C.Ml) rfl rfl rfl ?_);unfold C.Ml;rcases I2.cases with⟨e,rfl,_⟩|⟨m,t,o,rfl,hb,_⟩
 ·obtain rfl:n2=a.den:=by injection e
  repeat'(with_reducible first|simp(disch:=try exact ab) only[go_sem,seval,o1]|(apply ai.i<;>intro hc))
  exact aS
 ·have h1:((a.den:Int)=1)=False:=by simp only[eq_iff_iff,iff_false];omega
  repeat'(with_reducible first|simp(disch:=try exact ab) only[go_sem,seval,o1,h1]|(apply ai.i<;>intro hc))
  exact aS
theorem i163 (ia:kf h va a)(ib:kf h vb b)(la:Bd 900 a)(lb:Bd 900 b):Gp E2 163 [va,vb] h fun v h'=>kf h' v (a+b):=by
  obtain⟨n1,w1,n2,w2,ea,o1,o2,I1,I2⟩:=ia.ex;obtain⟨m1,v1,m2,v2,eb,o3,o4,I3,I4⟩:=ib.ex;have ha:=den_pos a;have hb:=den_pos b;refine Gp.of (ae.fn (fn:=C.Cv) rfl rfl rfl ?_)
  have slow:∀(tm:T AV) (hp:Hp) (p2 p3 p4:Nat),val tm (.t 2)= .ptr p2 0→val tm (.t 3)= .ptr p3 0→val tm (.t 4)= .ptr p4 0→bv hp p2 [.int .i64 n1,w1,.int .i64 n2,w2]→bv hp p3 [.int .i64 m1,v1,.int .i64 m2,v2]→bv hp p4 [.int .i64 0,.av,.int .i64 0,.av]→aK h hp→h.next≤p4→
      Wp E2 (C.Cv.code.post 2) ⟨tm,hp⟩ (eT [.cell 4 true 4] fun v h'=>kf h' v (a+b)∧aK h h'):=by
    intro tm hp p2 p3 p4 h2 h3 h4 ⟨s2,q2,c2,t2⟩ ⟨s3,q3,c3,t3⟩ ⟨s4,q4,c4,t4⟩ hG hn;unfold C.Cv;dsimp only[ap.post];rw[Eu];repeat'(with_reducible first|simp(disch:=try exact ab) only[go_sem,seval,h2,h3,h4,q2,q3,o1,o2,o3,o4]|(apply ai.i<;>intro hc))
    refine Gp.wp (i195 (I1.aO hG) (I4.aO hG) (la.1.mono (by decide)) (lb.2.mono (by decide))) fun v h1 k1 j1 u1 I5=>?_
    obtain⟨n5,w5,rfl,o5,I5⟩:=I5.pq;repeat'(with_reducible first|simp(disch:=try exact ab) only[go_sem,seval,h2,h3,h4,q2,q3,o1,o2,o3,o4]|(apply ai.i<;>intro hc))
    refine Gp.wp (i195 ((I3.aO hG).aO aS) ((I2.aO hG).aO aS) (lb.1.mono (by decide)) (la.2.mono (by decide))) fun v h5 k5 j5 u5 I6=>?_
    obtain⟨n6,w6,rfl,o6,I6⟩:=I6.pq;repeat'(with_reducible first|simp(disch:=try exact ab) only[go_sem,seval,h2,h3,h4,q2,q3,o1,o2,o3,o4]|(apply ai.i<;>intro hc))
    refine Gp.wp (i121 (I5.ov (g:=u5)) I6 ((la.1.mul lb.2).mono (by decide)) ((lb.1.mul la.2).mono (by decide))) fun v h6 k6 j6 u6 I7=>?_
    obtain⟨n7,w7,rfl,o7,I7⟩:=I7.pq;repeat'(with_reducible first|simp(disch:=try exact ab) only[go_sem,seval,h2,h3,h4,q2,q3,o1,o2,o3,o4]|(apply ai.i<;>intro hc))
    refine Gp.wp (i195 ((I2.aO hG).aO aS) ((I4.aO hG).aO aS) (la.2.mono (by decide)) (lb.2.mono (by decide))) fun v h7 k7 j7 u7 I8=>?_
    obtain⟨n8,w8,rfl,o8,I8⟩:=I8.pq;repeat'(with_reducible first|simp(disch:=try exact ab) only[go_sem,seval,h2,h3,h4,q2,q3,o1,o2,o3,o4]|(apply ai.i<;>intro hc))
    refine Gp.wp (i119 (I7.ov (g:=u7)) I8 (((la.1.mul lb.2).add (lb.1.mul la.2)).mono (by decide)) ((la.2.mul lb.2).mono (by decide)) (jb (by omega) (by omega))) fun v h8 k8 j8 u8 I9=>?_
    obtain⟨n9,w9,n10,w10,rfl,o9,VW,I9,I10⟩:=I9.ex;repeat'(with_reducible first|simp(disch:=try exact ab) only[go_sem,seval,h4,q4,o9,VW]|(apply ai.i<;>intro hc))
    refine⟨⟨_,_,_,_,rfl,?_,?_⟩,?_⟩
    · exact I9.fx (by simp(disch:=try exact ab) only[go_sem,seval,aJ,q4])
    · exact I10.fx (by simp(disch:=try exact ab) only[go_sem,seval,aJ,q4])
    · refine aK.put (hG.trans ?_) hn
      exact aS
  subst ea;subst eb;have G:aK h (((h.push fun st=> .row [.int .i64 n1,w1,.int .i64 n2,w2] true st).push fun st=> .row [.int .i64 m1,v1,.int .i64 m2,v2] true st).push fun st=> .row [.int .i64 0,.av,.int .i64 0,.av] true st):=(aK.refl h).push.push.push
  have A2:bv (((h.push fun st=> .row [.int .i64 n1,w1,.int .i64 n2,w2] true st).push fun st=> .row [.int .i64 m1,v1,.int .i64 m2,v2] true st).push fun st=> .row [.int .i64 0,.av,.int .i64 0,.av] true st) h.next [.int .i64 n1,w1,.int .i64 n2,w2]:=(bv.push.aO (aK.refl _).push.push)
  have A3:bv (((h.push fun st=> .row [.int .i64 n1,w1,.int .i64 n2,w2] true st).push fun st=> .row [.int .i64 m1,v1,.int .i64 m2,v2] true st).push fun st=> .row [.int .i64 0,.av,.int .i64 0,.av] true st) (h.next+1) [.int .i64 m1,v1,.int .i64 m2,v2]:=(bv.push.aO (aK.refl _).push)
  have A4:bv (((h.push fun st=> .row [.int .i64 n1,w1,.int .i64 n2,w2] true st).push fun st=> .row [.int .i64 m1,v1,.int .i64 m2,v2] true st).push fun st=> .row [.int .i64 0,.av,.int .i64 0,.av] true st) (h.next+1+1) [.int .i64 0,.av,.int .i64 0,.av]:=bv.push;refine Wp.cut 2 rfl ?_;generalize ap.post 2 C.Cv.code=r at slow⊢
  unfold C.Cv;dsimp only[ap.pre];repeat'(with_reducible first|simp(disch:=try exact ab) only[go_sem,seval,o1,o2,o3,o4]|(apply ai.i<;>intro hc))
  refine Gv.wp (i241 (ia.aO G)) fun h1 k1 j1 u1=>?_
  by_cases g1:(a.den:Int)=1
  · repeat'(with_reducible first|simp(disch:=try exact ab) only[go_sem,seval,o1,o2,o3,o4,g1]|(apply ai.i<;>intro hc))
    refine Gv.wp (i241 ((ib.aO G).aO aS)) fun h5 k5 j5 u5=>?_
    by_cases g2:(b.den:Int)=1
    · obtain⟨f1,f2⟩:=RF g1 g2
      repeat'(with_reducible first|simp(disch:=try exact ab) only[go_sem,seval,o1,o2,o3,o4,g2]|(apply ai.i<;>intro hc))
      refine Gp.wp (i121 ((I1.aO G).aO aS) ((I3.aO G).aO aS) (la.1.mono (by decide)) (lb.1.mono (by decide))) fun v h6 k6 j6 u6 I7=>?_
      obtain⟨n7,w7,rfl,o7,I7⟩:=I7.pq;repeat'(with_reducible first|simp(disch:=try exact ab) only[go_sem,seval,o7]|(apply ai.i<;>intro hc))
      refine Gp.wp (i183 I7) fun v h7 k7 j7 u7 I8=>?_
      obtain⟨n9,w9,n10,w10,rfl,o9,VW,I9,I10⟩:=I8.ex;obtain⟨e1,e2⟩:=iB (p:=a.num+b.num);rw[e1]at I9;rw[e2]at I10;repeat'(with_reducible first|simp(disch:=try exact ab) only[go_sem,seval,o9,VW]|(apply ai.i<;>intro hc))
      refine⟨⟨_,_,_,_,rfl,?_,?_⟩,?_⟩
      · rw[f1];exact I9.fx (by simp(disch:=try exact ab) only[go_sem,seval,aJ])
      · rw[f2];exact I10.fx (by simp(disch:=try exact ab) only[go_sem,seval,aJ])
      · exact aS
    · have G5:aK (((h.push fun st=> .row [.int .i64 n1,w1,.int .i64 n2,w2] true st).push fun st=> .row [.int .i64 m1,v1,.int .i64 m2,v2] true st).push fun st=> .row [.int .i64 0,.av,.int .i64 0,.av] true st) (((((h.push fun st=> .row [.int .i64 n1,w1,.int .i64 n2,w2] true st).push fun st=> .row [.int .i64 m1,v1,.int .i64 m2,v2] true st).push fun st=> .row [.int .i64 0,.av,.int .i64 0,.av] true st).ov h1 u1).ov h5 u5):=by exact aS
      repeat'(with_reducible first|simp(disch:=try exact ab) only[go_sem,seval,o1,o2,o3,o4,g2]|(apply ai.i<;>intro hc))
      exact slow _ _ h.next (h.next+1) (h.next+1+1) aL aL aL (A2.aO G5) (A3.aO G5) (A4.aO G5) (G.trans G5) (by omega)
  · have G5:aK (((h.push fun st=> .row [.int .i64 n1,w1,.int .i64 n2,w2] true st).push fun st=> .row [.int .i64 m1,v1,.int .i64 m2,v2] true st).push fun st=> .row [.int .i64 0,.av,.int .i64 0,.av] true st) ((((h.push fun st=> .row [.int .i64 n1,w1,.int .i64 n2,w2] true st).push fun st=> .row [.int .i64 m1,v1,.int .i64 m2,v2] true st).push fun st=> .row [.int .i64 0,.av,.int .i64 0,.av] true st).ov h1 u1):=by exact aS
    repeat'(with_reducible first|simp(disch:=try exact ab) only[go_sem,seval,o1,o2,o3,o4,g1]|(apply ai.i<;>intro hc))
    exact slow _ _ h.next (h.next+1) (h.next+1+1) aL aL aL (A2.aO G5) (A3.aO G5) (A4.aO G5) (G.trans G5) (by omega)
end
end
end Go.Ae
namespace Go.Ae
open Bg
noncomputable section
section
variable {h h' hp:Hp}{K:AV→Hp→Prop}{s w s' w':AV}{x y z:Int}{a b r:Rat}{v va vb:AV}{n m:Nat}
theorem i242 (ia:kf h va a)(la:Bd 4000 a):Gp E2 242 [va] h fun v h'=>kf h' v (-a):=by
 obtain⟨n1,w1,n2,w2,rfl,o1,o2,I1,I2⟩:=ia.ex;refine Gp.of (ae.fn (fn:=C.Mk) rfl rfl rfl ?_);unfold C.Mk;repeat'(with_reducible first|simp(disch:=try exact ab) only[go_sem,seval,o1,o2]|(apply ai.i<;>intro hc))
 refine Gp.wp (i200 (I1.aO aS) (la.1.mono (by decide))) fun v h1 k1 j1 u1 I5=>?_
 obtain⟨n5,w5,rfl,o5,I5⟩:=I5.pq;repeat'(with_reducible first|simp(disch:=try exact ab) only[go_sem,seval,o1,o2,o5,uw o5 o2,cV]|(apply ai.i<;>intro hc))
 refine⟨⟨_,_,_,_,rfl,?_,?_⟩,?_⟩
 ·exact I5.fx (by simp(disch:=try exact ab) only[go_sem,seval,aJ])
 ·exact(I2.aO aS).fx (by simp(disch:=try exact ab) only[go_sem,seval,aJ])
 ·exact aS
theorem i164 (ia:kf h va a)(ib:kf h vb b)(la:Bd 900 a)(lb:Bd 900 b):Gp E2 164 [va,vb] h fun v h'=>kf h' v (a-b):=by
 obtain⟨n1,w1,n2,w2,rfl,o1,o2,I1,I2⟩:=ia.ex;obtain⟨m1,v1,m2,v2,rfl,o3,o4,I3,I4⟩:=ib.ex;refine Gp.of (ae.fn (fn:=C.a164) rfl rfl rfl ?_);unfold C.a164;repeat'(with_reducible first|simp(disch:=try exact ab) only[go_sem,seval,o1,o2,o3,o4]|(apply ai.i<;>intro hc))
 refine Gp.wp (i242 (ib.aO aS) (lb.mono (by decide))) fun v h1 k1 j1 u1 I5=>?_
 obtain⟨n5,w5,n6,w6,rfl,o5,o6,_⟩:=I5.ex;repeat'(with_reducible first|simp(disch:=try exact ab) only[go_sem,seval,o1,o2,o3,o4,o5,o6]|(apply ai.i<;>intro hc))
 refine Gp.wp (i163 (ia.aO aS) I5 la lb.neg) fun v h3 k3 j3 u3 I7=>?_
 obtain⟨n7,w7,n8,w8,rfl,o7,o8,I7,I8⟩:=I7.ex;rw[←Rat.sub_eq_add_neg]at I7 I8;repeat'(with_reducible first|simp(disch:=try exact ab) only[go_sem,seval,o7,o8]|(apply ai.i<;>intro hc))
 refine⟨⟨_,_,_,_,rfl,?_,?_⟩,?_⟩
 ·exact I7.fx (by simp(disch:=try exact ab) only[go_sem,seval,aJ])
 ·exact I8.fx (by simp(disch:=try exact ab) only[go_sem,seval,aJ])
 ·exact aS
theorem i245 (ia:kf h va a)(la:Bd 3999 a)(h0:a≠0):Gp E2 245 [va] h fun v h'=>kf h' v a⁻¹:=by
 obtain⟨n1,w1,n2,w2,rfl,o1,o2,I1,I2⟩:=ia.ex;refine Gp.of (ae.fn (fn:=C.Mj) rfl rfl rfl ?_);unfold C.Mj;rw[Rat.inv_def];repeat'(with_reducible first|simp(disch:=try exact ab) only[go_sem,seval,o1,o2]|(apply ai.i<;>intro hc))
 refine Gp.wp (i119 (I2.aO aS) (I1.aO aS) la.2 la.1 (by rw[ne_eq,qa];exact h0)) fun v h1 k1 j1 u1 I7=>?_
 obtain⟨n7,w7,n8,w8,rfl,o7,o8,I7,I8⟩:=I7.ex;repeat'(with_reducible first|simp(disch:=try exact ab) only[go_sem,seval,o7,o8]|(apply ai.i<;>intro hc))
 refine⟨⟨_,_,_,_,rfl,?_,?_⟩,?_⟩
 ·exact I7.fx (by simp(disch:=try exact ab) only[go_sem,seval,aJ])
 ·exact I8.fx (by simp(disch:=try exact ab) only[go_sem,seval,aJ])
 ·exact aS
theorem i112 (ia:kf h va a):Gv E2 112 [va] h (.int .i64 (max (-1) (min 1 a.num))):=by
 obtain⟨n1,w1,n2,w2,rfl,o1,o2,I1,I2⟩:=ia.ex;refine Gv.of (ae.fn (fn:=C.MS) rfl rfl rfl ?_);unfold C.MS;repeat'(with_reducible first|simp(disch:=try exact ab) only[go_sem,seval,o1,o2]|(apply ai.i<;>intro hc))
 refine Gv.wp (i194 (I1.aO aS)) fun h1 k1 j1 u1=>?_
 repeat'(with_reducible first|simp(disch:=try exact ab) only[go_sem,seval]|(apply ai.i<;>intro hc))
 exact aS
end
end
end Go.Ae
set_option maxHeartbeats 1000000
set_option exponentiation.threshold 2000
namespace Go.Ae
open Bg N Go.Proofs
noncomputable section
section
variable {h h' hp:Hp}{K:AV→Hp→Prop}{tm:T AV}{v:AV}{z:Int}
theorem Hc (s:List UInt8):Lib.hasPrefix s [45]=decide (s.head?=some 45):=by
 unfold Lib.hasPrefix;cases s with
 |nil=>rfl
 | cons c l=>
  by_cases e:c=45
  ·subst e;simp[List.isPrefixOf]
  ·have:¬(45:UInt8)=c:=fun x=>e x.symm
   simp[List.isPrefixOf,e,this]
theorem Gh (s:List UInt8):Lib.trimPrefix s [45]=iR s:=by
 unfold Lib.trimPrefix iR;rw[Hc];by_cases c:s.head?=some 45
 ·rw[decide_eq_true c,if_pos rfl,if_pos c];rfl
 ·rw[decide_eq_false c,if_neg (by decide),if_neg c]
theorem EZ (t:List UInt8):Lib.cut t [47]=(t.take (bO t),t.drop (bO t+1),decide (bO t<t.length)):=by
 by_cases c:bO t<t.length
 ·have hs:=nH c
  have sc:(47:UInt8)∉t.take (bO t):=by
   intro hm
   have e:t.take (bO t)=t.takeWhile (fun b=>decide (b≠47)):=by
    unfold bO;exact(D8.1 (FL _)).symm
   rw[e]at hm;have:=cL.1 (List.all_takeWhile (p:=fun b:UInt8=>decide (b≠47)) (l:=t)) 47 hm;simp at this
  rw[decide_eq_true c]
  conv=>lhs;rw[hs]
  exact EY sc
 ·have hk:=kw t
  have sc:(47:UInt8)∉t:=by
   intro hm
   have e:t.takeWhile (fun b=>decide (b≠47))=t:=by
    have hp:=D8.1 (FL (fun b:UInt8=>decide (b≠47)) (l:=t))
    have:(t.takeWhile (fun b=>decide (b≠47))).length=t.length:=by
     have:bO t=t.length:=by omega
     exact this
    rw[this,bu]at hp;exact hp
   rw[←e]at hm;have:=cL.1 (List.all_takeWhile (p:=fun b:UInt8=>decide (b≠47)) (l:=t)) 47 hm;simp at this
  have e:bO t=t.length:=by omega
  rw[decide_eq_false c,E4 sc,e,bu,List.drop_eq_nil_of_le (by omega)]
theorem Vx {s:List UInt8}:ae E2 258 [.str s,.str [45]] h K↔K (.bool (decide (s.head?=some 45))) h:=by
 rw[ae.gv (p:=L.Bs) rfl rfl];have:L.Bs [.str s,.str [45]] h=some (.bool (decide (s.head?=some 45)),h):=by rw[←Hc];rfl
 rw[this];exact aA
theorem Q7 {s:List UInt8}:ae E2 259 [.str s,.str [45]] h K↔K (.str (iR s)) h:=by
 rw[ae.gv (p:=L.Bq) rfl rfl];have:L.Bq [.str s,.str [45]] h=some (.str (iR s),h):=by rw[←Gh];rfl
 rw[this];exact aA
theorem Vz {s:List UInt8}:ae E2 188 [.str s,.str [45]] h K↔K (.gk [.str (iR s),.bool (decide (s.head?=some 45))]) h:=by
 rw[Ym,Gh,Hc]
theorem Q9 {s:List UInt8}(hs:s.length<4294967281):ae E2 147 [.str s,.str [47]] h K↔K (.gk [.str (s.take (bO s)),.str (s.drop (bO s+1)),.bool (decide (bO s<s.length))]) h:=by
 rw[Yr hs,EZ]
theorem Vy {s:List UInt8}(hd:bK s=true)(h0:¬s=[])(hs:s.length≤18):ae E2 224 [.str s] h K↔K (.gk [.int .i64 (bp s),.jQ]) h:=by
 rw[ae.gv (p:=L.qs) rfl rfl]
 have:L.qs [.str s] h=some (.gk [.int .i64 (bp s),.jQ],h):=by
  simp only[L.qs,if_pos hs,xU hd h0]
 rw[this];exact aA
theorem mV {n m:Nat}(hn:n<10^m)(hm:m≤2000):fS 110 (n:Int):=by
 unfold fS;rw[ax];have h1:(10:Nat)^m≤10^2000:=aU (by decide) hm;have h2:(10:Nat)^2000≤(2^64)^110:=by decide+kernel
 have h3:((2:Nat)^64)=18446744073709551616:=by decide
 rw[h3]at h2;omega
theorem i191 {s t:List UInt8}(hs:iR s=t)(hd:bK t=true)(hl:t.length≤2000):Gp E2 191 [.str s] h fun v h'=>sZ h' v (iQ (decide (s.head?=some 45)) (bp t)):=by
 refine Gp.of (ae.fn (fn:=C.Mv) rfl rfl rfl ?_);unfold C.Mv;repeat'(with_reducible first|simp(disch:=try exact ab) only[go_sem,seval,Vx,Q7,hs]|(apply ai.i<;>intro hc))
 refine Wp.bD (fun m st=>∃(u:List UInt8) (a:Nat) (m1:Int) (w1:AV),val st.tm (.t 0)= .str u∧val st.tm (.t 2)= .ptr h.next 0∧val st.tm (.t 3)= .bool (decide (s.head?=some 45))∧val st.tm (.t 4)= .ptr (h.next+1) 0∧
  bv st.hp h.next [.int .i64 0,.av]∧bv st.hp (h.next+1) [.int .i64 m1,w1]∧aK h st.hp∧gF st.hp (.int .i64 m1) w1 (a:Int)∧bK u=true∧u.length≤t.length∧a<10^(t.length-u.length)∧a*10^u.length+bp u=bp t∧u.length=m) (n:=t.length) ?_ ?_
 ·refine⟨t,0,0,.av,aL,aL,aL,aL,?_,?_,?_,?_,hd,ac _,by simp,by simp,rfl⟩
  ·exact(bv.push.aO (aK.refl _).push).other (by omega)
  ·exact bv.put nL
  ·exact aS
  ·exact .inl ⟨rfl,rfl,by omega⟩
 ·rintro m ⟨tm,hp⟩ ⟨u,a,m1,w1,h0,h2,h3,h4,⟨s2,g2,c2,t2⟩,⟨s4,g4,c4,t4⟩,hG,Ia,hu,H0,hla,heq,rfl⟩;simp only at h0 h2 h3 h4 g2 g4 c2 c4 t2 t4 hG Ia;obtain⟨_,oa⟩:=Ia.one;by_cases hz:u=[]
  ·subst hz;have eL:(([]:List UInt8).length:Int)=0:=rfl;have ea:a=bp t:=by rw[←heq];show a=a*1+0;omega
   have la0:fS 110 (a:Int):=mV hla (by omega);rw[ea]at Ia la0;by_cases hn:s.head?=some 45
   ·rw[decide_eq_true hn]at h3⊢;repeat'(with_reducible first|simp(disch:=try exact ab) only[go_sem,seval,h0,h2,h3,h4,g2,g4,oa,eL,gC]|(apply ai.i<;>intro hc))
    refine Gp.wp (i200 Ia (la0.mono (by decide))) fun v5 k5 a5 b5 u5 I5=>?_
    obtain⟨m5,w5,rfl,p5,I5⟩:=I5.pq;repeat'(with_reducible first|simp(disch:=try exact ab) only[go_sem,seval,h0,h2,h3,h4,g2,g4,p5]|(apply ai.i<;>intro hc))
    refine⟨⟨_,_,rfl,I5.fx (by simp(disch:=try exact ab) only[go_sem,seval,aJ,g2])⟩,?_⟩;refine aK.put hG.ov (by omega)
   ·rw[decide_eq_false hn]at h3⊢;repeat'(with_reducible first|simp(disch:=try exact ab) only[go_sem,seval,h0,h2,h3,h4,g2,g4,oa,eL,gC]|(apply ai.i<;>intro hc))
    refine⟨⟨_,_,rfl,Ia.fx (by simp(disch:=try exact ab) only[go_sem,seval,aJ,g2])⟩,?_⟩;refine aK.put hG (by omega)
  ·have hp':(0:Int)<u.length:=by
    have:=gy.2 hz;omega
   obtain⟨n,hn1,hn2,hn3,Xj⟩:∃n:Nat,1≤n∧n≤18∧n≤u.length∧(n:Int)=min 18 (u.length:Int):=by
    have:=gy.2 hz;refine⟨min 18 u.length,by omega,by omega,by omega,by omega⟩
   have htk:=sj hu n;have hdk:=sk hu n;have ltk:(u.take n).length=n:=by rw[aB];omega
   have ldk:(u.drop n).length=u.length-n:=by rw[bN]
   have hne:¬u.take n=[]:=fun e=>by rw[e]at ltk;simp at ltk;omega
   have cA:=fun{h:Hp} {K:AV→Hp→Prop}=>Vy (h:=h) (K:=K) htk hne (by omega)
   have vlt:=iK htk;rw[ltk]at vlt;have e18:(10:Nat)^n≤10^18:=aU (by decide) hn2;rw[show(10:Nat)^18=1000000000000000000 from rfl]at e18;have hp0:0<(10:Nat)^n:=Nat.pow_pos (by decide)
   have hua:bp u=bp (u.take n)*10^(u.length-n)+bp (u.drop n):=by
    conv=>lhs;rw[←fP n u,nZ,ldk]
   have hnl:(n:Int)≤u.length:=by omega
   have hn0:(0:Int)≤n:=by omega
   have nn:((n:Int)).toNat=n:=fm n;have W2:(t.length-u.length)+n=t.length-(u.drop n).length:=by rw[ldk];omega
   have SS:a*10^n+bp (u.take n)<10^(t.length-(u.drop n).length):=by
    rw[←W2,dz];have:(a+1)*10^n≤10^(t.length-u.length)*10^n:=aH _ hla;rw[aX]at this;omega
   have la:fS 110 (a:Int):=mV hla (by omega);have l10:fS 1 ((10^n:Nat):Int):=fS.small (by omega);have lv:fS 1 ((bp (u.take n):Nat):Int):=fS.small (by omega);have la':fS 110 ((a*10^n+bp (u.take n):Nat):Int):=mV SS (by omega);have Xl:min 18 (u.length:Int)=n:=Xj.symm
   repeat'(with_reducible first|simp(disch:=try exact ab) only[go_sem,seval,h0,h2,h3,h4,g2,g4,oa,hp',Xl,nn,hnl,hn0,cA]|(refine Gv.wp (Ff) fun _ _ _ _=>?_)|(refine Gv.wp (T4 (a:=10) (k:=n) (by decide) (by omega) (by omega)) fun _ _ _ _=>?_)|(apply ai.i<;>intro hc))
   refine Gp.wp (i195 (Ia.aO aS) (.inl ⟨rfl,rfl,by omega⟩) (la.mono (by decide)) (l10.mono (by decide))) fun v5 k5 a5 b5 u5 I5=>?_
   obtain⟨m5,w5,rfl,p5,I5⟩:=I5.pq;repeat'(with_reducible first|simp(disch:=try exact ab) only[go_sem,seval,h0,h2,h3,h4,g2,g4,p5,nn,hnl,hn0]|(refine Gv.wp (Ff) fun _ _ _ _=>?_)|(apply ai.i<;>intro hc))
   have l5:fS 111 ((a:Int)*((10^n:Nat):Int)):=la.mul l10;refine Gp.wp (i121 (I5.aO aS) (.inl ⟨rfl,rfl,by omega⟩) (l5.mono (by decide)) (lv.mono (by decide))) fun v6 k6 a6 b6 u6 I6=>?_
   obtain⟨m6,w6,rfl,p6,I6⟩:=I6.pq;have ez:(a:Int)*((10^n:Nat):Int)+((bp (u.take n):Nat):Int)=((a*10^n+bp (u.take n):Nat):Int):=by rw[td,Int.natCast_mul]
   rw[ez]at I6;repeat'(with_reducible first|simp(disch:=try exact ab) only[go_sem,seval,h0,h2,h3,h4,g2,g4,p6,nn,hnl,hn0]|(apply ai.i<;>intro hc))
   refine⟨(u.drop n).length,by rw[ldk];omega,u.drop n,a*10^n+bp (u.take n),m6,w6,rfl,?_,?_,?_,?_,hdk,by rw[ldk];omega,SS,?_,rfl⟩
   ·refine bv.other ?_ (by omega);exact bv.aO (h:=hp) ⟨s2,g2,c2,t2⟩ aS
   ·exact bv.put nL
   ·refine aK.put (hG.trans ?_) (by omega);exact aS
   ·exact I6.fx (by simp(disch:=try exact ab) only[go_sem,seval,aJ,g4])
   ·rw[ldk,←heq,hua,aX,Nat.mul_assoc,←dz,show n+(u.length-n)=u.length by omega];omega
end
end
end Go.Ae
namespace Go.Ae
open Bg N Go.Proofs
noncomputable section
section
variable {h h' hp:Hp}{K:AV→Hp→Prop}{tm:T AV}{v:AV}{z:Int}
theorem JX {l:List UInt8}(hd:bK l=true):iR l=l∧decide (l.head?=some 45)=false:=by
 have:¬l.head?=some 45:=by
  intro e;match l,e,hd with
  | c ::r,e,hd=>
   have hc:fX c=true:=by
    unfold bK at hd;exact(cL.1 hd) c (by simp)
   have:c=45:=by simpa using e
   subst this;exact absurd hc (by decide)
 exact⟨if_neg this,decide_eq_false this⟩
theorem NG {t:List UInt8}(hd:bK t=true)(hl:t.length≤2000):Gp E2 191 [.str t] h fun v h'=>sZ h' v (bp t:Nat):=by
 obtain⟨h1,h2⟩:=JX hd;have:=i191 (h:=h) (s:=t) h1 hd hl;rw[h2]at this;exact this
theorem Jc {N D:List UInt8}(hd1:cM N=true)(hd2:cM D=true)(h5:val tm (.t 5)= .str N)(h6:val tm (.t 6)= .str D)(h7:val tm (.t 7)= .bool true)(hG:aK h hp)(lN:N.length≤600)(lD:D.length≤600):
  Wp E2 (ap.post 1 (ap.post 5 C.uU.code)) ⟨tm,hp⟩ (eT [.tmp 2] fun v h'=>v= .int .i64 (if eM (bp N) (bp D)≠1 then 1 else 0)∧aK h h'):=by
 unfold C.uU;dsimp only[ap.post];have l1:fS 110 ((bp N:Nat):Int):=mV (iK (fh hd1).2.1) (by omega);have l2:fS 110 ((bp D:Nat):Int):=mV (iK (fh hd2).2.1) (by omega);repeat'(with_reducible first|simp(disch:=try exact ab) only[go_sem,seval,h5,h6,h7]|(apply ai.i<;>intro hc))
 refine Gp.wp (NG (fh hd1).2.1 (by omega)) fun v1 k1 a1 b1 u1 I1=>?_
 obtain⟨m1,w1,rfl,p1,I1⟩:=I1.pq;repeat'(with_reducible first|simp(disch:=try exact ab) only[go_sem,seval,h5,h6,h7,p1]|(apply ai.i<;>intro hc))
 refine Gp.wp (NG (fh hd2).2.1 (by omega)) fun v2 k2 a2 b2 u2 I2=>?_
 obtain⟨m2,w2,rfl,p2,I2⟩:=I2.pq;repeat'(with_reducible first|simp(disch:=try exact ab) only[go_sem,seval,h5,h6,h7,p1,p2]|(apply ai.i<;>intro hc))
 refine Gp.wp (i190 (I1.ov (g:=u2)) I2 (l1.mono (by decide)) (l2.mono (by decide))) fun v3 k3 a3 b3 u3 I3=>?_
 obtain⟨m3,w3,rfl,p3,I3⟩:=I3.pq
 have lg:fS 111 ((cJ ((bp N:Nat):Int) ((bp D:Nat):Int):Nat):Int):=by
  rcases aG (bp D)with e|e
  ·have:cJ ((bp N:Nat):Int) ((bp D:Nat):Int)=bp N:=by rw[e];exact Nat.gcd_zero_right _
   rw[this];exact l1.mono (by decide)
  ·refine(l2.le (y:=((cJ ((bp N:Nat):Int) ((bp D:Nat):Int):Nat):Int)) ?_).mono (by decide);rw[ax,ax];exact Nat.gcd_le_right _ e
 have eg:cJ ((bp N:Nat):Int) ((bp D:Nat):Int)=eM (bp N) (bp D):=rfl;rw[eg]at I3 lg;repeat'(with_reducible first|simp(disch:=try exact ab) only[go_sem,seval,h5,h6,h7,p3]|(refine Gv.wp (Ff) fun _ _ _ _=>?_)|(apply ai.i<;>intro hc))
 refine Gv.wp (i192 (I3.aO aS) (.inl ⟨rfl,rfl,by omega⟩) (lg.mono (by decide)) ((fS.small (n:=1) (by omega)).mono (by decide))) fun h4 k4 j4 u4=>?_
 by_cases hc:eM (bp N) (bp D)=1
 ·have ec:E9 ((eM (bp N) (bp D):Nat):Int) 1=0:=by rw[hc];rfl
  rw[if_neg (by simpa using hc)];repeat'(with_reducible first|simp(disch:=try exact ab) only[go_sem,seval,h5,h6,h7,ec,mf]|(apply ai.i<;>intro hc))
  refine hG.trans ?_;exact aS
 ·have ec:¬E9 ((eM (bp N) (bp D):Nat):Int) 1=0:=by
   unfold E9;split
   ·omega
   ·split
    ·omega
    ·intro _;omega
  rw[if_pos hc];repeat'(with_reducible first|simp(disch:=try exact ab) only[go_sem,seval,h5,h6,h7,ec,mf]|(apply ai.i<;>intro hc))
  refine hG.trans ?_;exact aS
theorem Ly {N D:List UInt8}{bk f:Bool}(h5:val tm (.t 5)= .str N)(h6:val tm (.t 6)= .str D)(h7:val tm (.t 7)= .bool bk)(h8:val tm (.t 8)= .bool f)(hN:f=true→cM N=true)(hD:f=true→bk=true→cM D=true)(lN:N.length≤1000000)(lD:D.length≤1000000):
  Wp E2 (C.uU.code.post 5) ⟨tm,h⟩ (eT [.tmp 2] fun v h'=>v= .int .i64 (if f=false then 1 else if 600<N.length∨600<D.length then 4 else if bk=true∧eM (bp N) (bp D)≠1 then 1 else 0)∧aK h h'):=by
 have last:=fun(hp:Hp) tm hd1 hd2 h5 h6 h7 hG a b=>Jc (h:=h) (hp:=hp) (tm:=tm) (N:=N) (D:=D) hd1 hd2 h5 h6 h7 hG a b
 have f1:∀a,jZ 1 a=1:=fun a=>rfl
 have f2:jZ 0 4=4:=rfl;have f3:jZ 0 0=0:=rfl;refine Wp.cut 1 rfl ?_;obtain⟨rc,SK⟩:∃rc,rc=ap.post 1 (ap.post 5 C.uU.code):=⟨_,rfl⟩
 rw[←SK]at last⊢
 have fast:∀(hp:Hp) (tm:T AV),val tm (.t 7)= .bool false→aK h hp→Wp E2 rc ⟨tm,hp⟩ (eT [.tmp 2] fun v h'=>v= .int .i64 0∧aK h h'):=by
  intro hp tm h7 hG;rw[SK];unfold C.uU;dsimp only[ap.post];repeat'(with_reducible first|simp(disch:=try exact ab) only[go_sem,seval,h7,mf]|(apply ai.i<;>intro hc))
  exact hG
 unfold C.uU;dsimp only[ap.post,ap.pre];cases f with
 | false=>
  rw[if_pos rfl];by_cases c1:600<N.length
  ·have c1':(600:Int)<N.length:=by omega
   repeat'(with_reducible first|simp(disch:=try exact ab) only[go_sem,seval,h5,h6,h7,h8,c1',mf,f1]|(refine Gv.wp (pV (a:=1) (b:=4) Hp.cu nL) fun _ _ _ _=>?_)|(apply ai.i<;>intro hc))
   exact aS
  ·have c1':¬(600:Int)<N.length:=by omega
   by_cases c2:600<D.length
   ·have kq:(600:Int)<D.length:=by omega
    repeat'(with_reducible first|simp(disch:=try exact ab) only[go_sem,seval,h5,h6,h7,h8,c1',kq,mf,f1]|(refine Gv.wp (pV (a:=1) (b:=4) Hp.cu nL) fun _ _ _ _=>?_)|(apply ai.i<;>intro hc))
    exact aS
   ·have kq:¬(600:Int)<D.length:=by omega
    repeat'(with_reducible first|simp(disch:=try exact ab) only[go_sem,seval,h5,h6,h7,h8,c1',kq,mf,f1]|(refine Gv.wp (pV (a:=1) (b:=0) Hp.cu nL) fun _ _ _ _=>?_)|(apply ai.i<;>intro hc))
    exact aS
 | true=>
  rw[if_neg (by decide)];by_cases c1:600<N.length
  ·have c1':(600:Int)<N.length:=by omega
   rw[if_pos (Or.inl c1)];repeat'(with_reducible first|simp(disch:=try exact ab) only[go_sem,seval,h5,h6,h7,h8,c1',mf,f2]|(refine Gv.wp (pV (a:=0) (b:=4) Hp.cu nL) fun _ _ _ _=>?_)|(apply ai.i<;>intro hc))
   exact aS
  ·have c1':¬(600:Int)<N.length:=by omega
   by_cases c2:600<D.length
   ·have kq:(600:Int)<D.length:=by omega
    rw[if_pos (Or.inr c2)];repeat'(with_reducible first|simp(disch:=try exact ab) only[go_sem,seval,h5,h6,h7,h8,c1',kq,mf,f2]|(refine Gv.wp (pV (a:=0) (b:=4) Hp.cu nL) fun _ _ _ _=>?_)|(apply ai.i<;>intro hc))
    exact aS
   ·have kq:¬(600:Int)<D.length:=by omega
    rw[if_neg (by omega)];repeat'(with_reducible first|simp(disch:=try exact ab) only[go_sem,seval,h5,h6,h7,h8,c1',kq,mf,f3]|(refine Gv.wp (pV (a:=0) (b:=0) Hp.cu nL) fun _ _ _ _=>?_)|(apply ai.i<;>intro hc))
    cases bk with
    | false=>
     rw[if_neg (by simp)];exact fast _ _ (by simp(disch:=try exact ab) only[go_sem,seval,h7]) aS
    | true=>
     have eb:(if(true=true∧eM (bp N) (bp D)≠1)then(1:Int)else 0)=if eM (bp N) (bp D)≠1 then 1 else 0:=by simp
     rw[eb];exact last _ _ (hN rfl) (hD rfl rfl) (by simp(disch:=try exact ab) only[go_sem,seval,h5]) (by simp(disch:=try exact ab) only[go_sem,seval,h6]) (by simp(disch:=try exact ab) only[go_sem,seval,h7]) aS (by omega) (by omega)
theorem i101 {s :List UInt8}(hs:s.length≤1000000):Gv E2 101 [.str s] h (.int .i64 (fj s)):=by
 refine Gv.of (ae.fn (fn:=C.uU) rfl rfl rfl ?_)
 have hu:(iR s).length≤s.length:=by
  unfold iR;split
  ·rw[bN];omega
  ·exact ac _
 have hk:=kw (iR s);have lN:(fM s).length≤1000000:=by unfold fM;rw[aB];omega
 have lD:(ig s).length≤1000000:=by unfold ig;rw[bN];omega
 have tail:=fun tm bk f h5 h6 h7 h8 hN hD=>Ly (h:=h) (tm:=tm) (N:=fM s) (D:=ig s) (bk:=bk) (f:=f) h5 h6 h7 h8 hN hD lN lD
 have cc:=fun{h:Hp} {K:AV→Hp→Prop}=>Q9 (h:=h) (K:=K) (s:=iR s) (by omega)
 have e1:(iR s).take (bO (iR s))=fM s:=rfl;have e2:(iR s).drop (bO (iR s)+1)=ig s:=rfl;have e3:decide (bO (iR s)<(iR s).length)=vF s:=rfl;rw[e1,e2,e3]at cc;have cn:=fun{h:Hp} {K:AV→Hp→Prop}=>f189 (h:=h) (K:=K) (s:=fM s) (by omega)
 have cd:=fun{h:Hp} {K:AV→Hp→Prop}=>f189 (h:=h) (K:=K) (s:=ig s) (by omega)
 have ecv:fj s=if ni s=false then 1 else if 600<(fM s).length∨600<(ig s).length then 4 else if vF s=true∧eM (bp (fM s)) (bp (ig s))≠1 then 1 else 0:=rfl
 have efm:ni s=(cM (fM s)&&(!(decide (s.head?=some 45))||decide (fM s≠[48]))&&(!(vF s)||(cM (ig s)&&decide (ig s≠[48])&&decide (ig s≠[49])))):=rfl;rw[ecv];generalize hng:decide (s.head?=some 45)=ng at efm
 have c8:=fun{h:Hp} {K:AV→Hp→Prop}=>Vz (h:=h) (K:=K) (s:=s)
 rw[hng]at c8;refine Wp.cut 5 rfl ?_;generalize ap.post 5 C.uU.code=rc at tail⊢
 unfold C.uU;dsimp only[ap.pre];generalize fM s=N at *
 generalize ig s=D at *
 generalize vF s=bk at *
 clear hu hk e1 e2 e3;have num:∃f1:Bool,f1=(cM N&&(!ng||decide (N≠[48]))):=⟨_,rfl⟩
 obtain⟨f1,hf1⟩:=num;have den:∃f2:Bool,f2=(cM D&&decide (D≠[48])&&decide (D≠[49])):=⟨_,rfl⟩
 obtain⟨f2,AQ⟩:=den;rw[←hf1,←AQ]at efm;rw[efm];obtain⟨res,BJ⟩:∃res:Bool→Int,∀b,res b=(if b=false then 1 else if 600<N.length∨600<D.length then 4 else if bk=true∧eM (bp N) (bp D)≠1 then 1 else 0):=⟨fun b=>_,fun b=>rfl⟩
 rw[←BJ (f1&&(!bk||f2))];have hN1:f1=true→cM N=true:=fun e=>by rw[hf1]at e;simp only[bI]at e;exact e.1
 have hD1:f2=true→cM D=true:=fun e=>by rw[AQ]at e;simp only[bI]at e;exact e.1.1
 have go:∀(tm:T AV),val tm (.t 5)= .str N→val tm (.t 6)= .str D→val tm (.t 7)= .bool bk→val tm (.t 8)= .bool (f1&&(!bk||f2))→Wp E2 rc ⟨tm,h⟩ (eT [.tmp 2] fun v' h'=>v'= .int .i64 (res (f1&&(!bk||f2)))∧aK h h'):=fun tm h5 h6 h7 h8=>by
  rw[BJ];exact tail tm bk (f1&&(!bk||f2)) h5 h6 h7 h8 (fun e=>hN1 (by simp only[bI]at e;exact e.1)) (fun e b=>hD1 (by subst b;simp only[bI,Bool.or_eq_true,Bool.not_true,Bool.false_eq_true,false_or]at e;exact e.2))
 cases hdn:cM N with
 | false=>
  rw[hdn]at cn;cases bk with
  | false=>
   have g8:(f1&&(!false||f2))=false:=by rw[hf1,AQ];simp[hdn]
   rw[g8]at go⊢;repeat'(with_reducible first|simp(disch:=try exact ab) only[go_sem,seval,c8,cc,cn,cd]|(apply ai.i<;>intro hc))
   exact go _ aL aL aL (by(simp(disch:=try exact ab) only[go_sem,seval])<;>rfl)
  | true=>
   have g8:(f1&&(!true||f2))=false:=by rw[hf1,AQ];simp[hdn]
   rw[g8]at go⊢;repeat'(with_reducible first|simp(disch:=try exact ab) only[go_sem,seval,c8,cc,cn,cd]|(apply ai.i<;>intro hc))
   exact go _ aL aL aL (by(simp(disch:=try exact ab) only[go_sem,seval])<;>rfl)
 | true=>
  rw[hdn]at cn;cases ng with
  | false =>
   cases bk with
   | false=>
    have g8:(f1&&(!false||f2))=true:=by rw[hf1,AQ];simp[hdn]
    rw[g8]at go⊢;repeat'(with_reducible first|simp(disch:=try exact ab) only[go_sem,seval,c8,cc,cn,cd]|(apply ai.i<;>intro hc))
    exact go _ aL aL aL (by(simp(disch:=try exact ab) only[go_sem,seval])<;>rfl)
   | true=>
    cases hdd:cM D with
    | false=>
     rw[hdd]at cd;have g8:(f1&&(!true||f2))=false:=by rw[hf1,AQ];simp[hdn,hdd]
     rw[g8]at go⊢;repeat'(with_reducible first|simp(disch:=try exact ab) only[go_sem,seval,c8,cc,cn,cd]|(apply ai.i<;>intro hc))
     exact go _ aL aL aL (by(simp(disch:=try exact ab) only[go_sem,seval])<;>rfl)
    | true=>
     rw[hdd]at cd;by_cases d48:D=[48]
     ·subst d48;have g8:(f1&&(!true||f2))=false:=by rw[hf1,AQ];simp[hdn,hdd]
      rw[g8]at go⊢;repeat'(with_reducible first|simp(disch:=try exact ab) only[go_sem,seval,c8,cc,cn,cd]|(apply ai.i<;>intro hc))
      exact go _ aL aL aL (by(simp(disch:=try exact ab) only[go_sem,seval])<;>rfl)
     ·by_cases d49:D=[49]
      ·subst d49;have g8:(f1&&(!true||f2))=false:=by rw[hf1,AQ];simp[hdn,hdd,d48]
       rw[g8]at go⊢;repeat'(with_reducible first|simp(disch:=try exact ab) only[go_sem,seval,c8,cc,cn,cd,d48]|(apply ai.i<;>intro hc))
       exact go _ aL aL aL (by(simp(disch:=try exact ab) only[go_sem,seval])<;>rfl)
      ·skip
       have g8:(f1&&(!true||f2))=true:=by rw[hf1,AQ];simp[hdn,hdd,d48,d49]
       rw[g8]at go⊢;repeat'(with_reducible first|simp(disch:=try exact ab) only[go_sem,seval,c8,cc,cn,cd,d48,d49]|(apply ai.i<;>intro hc))
       exact go _ aL aL aL (by(simp(disch:=try exact ab) only[go_sem,seval])<;>rfl)
  | true=>
   by_cases HE:N=[48]
   ·subst HE;cases bk with
    | false=>
     have g8:(f1&&(!false||f2))=false:=by rw[hf1,AQ];simp[hdn]
     rw[g8]at go⊢;repeat'(with_reducible first|simp(disch:=try exact ab) only[go_sem,seval,c8,cc,cn,cd]|(apply ai.i<;>intro hc))
     exact go _ aL aL aL (by(simp(disch:=try exact ab) only[go_sem,seval])<;>rfl)
    | true=>
     have g8:(f1&&(!true||f2))=false:=by rw[hf1,AQ];simp[hdn]
     rw[g8]at go⊢;repeat'(with_reducible first|simp(disch:=try exact ab) only[go_sem,seval,c8,cc,cn,cd]|(apply ai.i<;>intro hc))
     exact go _ aL aL aL (by(simp(disch:=try exact ab) only[go_sem,seval])<;>rfl)
   ·skip
    cases bk with
    | false=>
     have g8:(f1&&(!false||f2))=true:=by rw[hf1,AQ];simp[hdn,HE]
     rw[g8]at go⊢;repeat'(with_reducible first|simp(disch:=try exact ab) only[go_sem,seval,c8,cc,cn,cd,HE]|(apply ai.i<;>intro hc))
     exact go _ aL aL aL (by(simp(disch:=try exact ab) only[go_sem,seval])<;>rfl)
    | true=>
     cases hdd:cM D with
     | false=>
      rw[hdd]at cd;have g8:(f1&&(!true||f2))=false:=by rw[hf1,AQ];simp[hdn,hdd,HE]
      rw[g8]at go⊢;repeat'(with_reducible first|simp(disch:=try exact ab) only[go_sem,seval,c8,cc,cn,cd,HE]|(apply ai.i<;>intro hc))
      exact go _ aL aL aL (by(simp(disch:=try exact ab) only[go_sem,seval])<;>rfl)
     | true=>
      rw[hdd]at cd;by_cases d48:D=[48]
      ·subst d48;have g8:(f1&&(!true||f2))=false:=by rw[hf1,AQ];simp[hdn,hdd,HE]
       rw[g8]at go⊢;repeat'(with_reducible first|simp(disch:=try exact ab) only[go_sem,seval,c8,cc,cn,cd,HE]|(apply ai.i<;>intro hc))
       exact go _ aL aL aL (by(simp(disch:=try exact ab) only[go_sem,seval])<;>rfl)
      ·by_cases d49:D=[49]
       ·subst d49;have g8:(f1&&(!true||f2))=false:=by rw[hf1,AQ];simp[hdn,hdd,d48,HE]
        rw[g8]at go⊢;repeat'(with_reducible first|simp(disch:=try exact ab) only[go_sem,seval,c8,cc,cn,cd,d48,HE]|(apply ai.i<;>intro hc))
        exact go _ aL aL aL (by(simp(disch:=try exact ab) only[go_sem,seval])<;>rfl)
       ·skip
        have g8:(f1&&(!true||f2))=true:=by rw[hf1,AQ];simp[hdn,hdd,d48,d49,HE]
        rw[g8]at go⊢;repeat'(with_reducible first|simp(disch:=try exact ab) only[go_sem,seval,c8,cc,cn,cd,d48,d49,HE]|(apply ai.i<;>intro hc))
        exact go _ aL aL aL (by(simp(disch:=try exact ab) only[go_sem,seval])<;>rfl)
end
end
end Go.Ae
set_option exponentiation.threshold 5000
namespace Go.Ae
open Bg N Go.Proofs
noncomputable section
section
variable {h h' hp:Hp}{K:AV→Hp→Prop}{tm:T AV}{v va s w:AV}{z z':Int}{a:Rat}
theorem FV {kd:IntKind}:∀{L M:List Nat},L.map (wd kd)=M.map (wd kd)→L=M
 |[],[],_=>rfl
 | x::L,y::M,e=>by
  simp only[fR,jf,wd,AV.int.injEq,true_and]at e;rw[show x=y by omega,FV e.2]
 |[],_::_,e=>by simp at e
 |_::_,[],e=>by simp at e
theorem Sq.uniq {t o n:Nat}{l l':List Nat}(S:Sq .u64 h (.sl t o n 1) l)(S':Sq .u64 h (.sl t o n 1) l'):l=l':=by
 rcases S with⟨e,_⟩|⟨t1,o1,sA,st1,L1,e1,g1,h1,h2,_⟩
 ·cases e
 ·rcases S' with⟨e,_⟩|⟨t2,o2,own2,st2,L2,e2,g2,h3,h4,_⟩
  ·cases e
  ·injection e1 with q1 q2 q3
   injection e2 with r1 r2 r3
   subst q1;subst q2;subst r1;subst r2;rw[g1]at g2;have e:=aa g2;injection e with e
   have:=FV e;subst this;rw[←h2,←h4,←q3,←r3]
theorem gF.uniq (i:gF h s w z)(j:gF h s w z'):z=z':=by
 rcases i with⟨rfl,rfl,_⟩|⟨n,t,o,l,rfl,S,_,_,_,_,c⟩
 ·rcases j with⟨e,_,_⟩|⟨_,_,_,_,e,_⟩
  ·injection e
  ·cases e
 ·rcases j with⟨_,e,_⟩|⟨n',t',o',l',e,S',_,_,_,_,c'⟩
  ·cases e
  ·injection e with q1 q2 q3
   subst q1;subst q2;subst q3;have:=S.uniq S';subst this;rcases c with⟨rfl,rfl⟩|⟨rfl,rfl⟩
   ·rcases c' with⟨_,rfl⟩|⟨e,_⟩
    ·rfl
    ·injection e with _ e;exact absurd e (by decide)
   ·rcases c' with⟨e,_⟩|⟨_,rfl⟩
    ·injection e with _ e;exact absurd e (by decide)
    ·rfl
theorem wg (n:Int):Lib.itoa n=bM n:=by
 unfold bM;by_cases c:n<0
 ·obtain⟨u,rfl⟩:∃u:Nat,n= -(u:Int):=⟨n.natAbs,by omega⟩
  rw[if_pos c,Lib.itoa_neg u (by omega),kZ,Int.natAbs_neg,ax]
 ·obtain⟨u,rfl⟩:∃u:Nat,n=(u:Int):=⟨n.natAbs,by omega⟩
  rw[if_neg c,Lib.itoa_nonneg u,kZ,ax]
def vS:Prim:=fun args h=>
 open Classical in if hx:∃z:Int,∃s w,args=[.agg [s,w]]∧gF h s w z∧fS 3999 z then some (.str (bM hx.choose),h)else none
theorem yR (i:gF h s w z)(lz:fS 3999 z):vS [.agg [s,w]] h=some (.str (bM z),h):=by
 have hx:∃z:Int,∃s' w',[AV.agg [s,w]]=[.agg [s',w']]∧gF h s' w' z∧fS 3999 z:=⟨z,s,w,rfl,i,lz⟩
 unfold vS;rw[dif_pos hx];obtain⟨s',w',e,j,_⟩:=hx.choose_spec;simp only[jf,AV.agg.injEq,and_true]at e;obtain⟨rfl,rfl⟩:=e;rw[i.uniq j]
theorem yS {args:List AV}(hv:vS args h=some (v,h')):∃z s w,args=[.agg [s,w]]∧gF h s w z∧fS 3999 z∧v= .str (bM z)∧h'=h:=by
 unfold vS at hv;split at hv
 ·rename_i hx;obtain⟨rfl,rfl⟩:=aj hv;obtain⟨s,w,e,i,l⟩:=hx.choose_spec;exact⟨_,s,w,e,i,l,rfl,rfl⟩
 ·cases hv
def EX:Env:=E3.qj 264 vS
theorem Tf:Gq E3 EX:=by
 refine Gq.qj (q:=Ey) rfl fun args h x hx=>?_
 unfold Ey at hx;split at hx
 ·rename_i n;split at hx
  ·rename_i hn;obtain rfl:=aa hx;rw[wg];exact yR (.inl ⟨rfl,rfl,hn⟩) ((fS.small hn).mono (by decide))
  ·cases hx
 ·cases hx
theorem XS {W0:World}{base:Nat}(G:L.kR W0 base):fO Tryz.prog W0 base EX:=by
 refine((P6 G).add R.zA).qj fun args h v h' hv=>?_
 obtain⟨z,s,w,rfl,i,l,rfl,rfl⟩:=yS hv;refine⟨bJ.refl _,fun ρ wd B R hok=>?_⟩;rcases id i with⟨rfl,rfl,hz⟩|⟨n,t,o,li,rfl,_,_,_,_,_,c⟩
 ·have:Ey [.agg [.int .i64 z,.av]] h'=some (.str (Lib.itoa z),h'):=if_pos hz;rw[←wg];exact(Su G _ _ _ _ this).2 ρ wd B R
 ·rcases c with⟨rfl,_⟩|⟨rfl,_⟩
  ·exact yA G B R i l hok
  ·exact yA G B R i l hok
theorem x3 {f:Nat}{args:List AV}{v:AV}(hc:Gv E3 f args h v):Gv EX f args h v:=hc.gq Tf
theorem x2 {f:Nat}{args:List AV}{v:AV}(hc:Gv E2 f args h v):Gv EX f args h v:=(gu3 hc).gq Tf
theorem UC {f:Nat}{args:List AV}{p:AV→Hp→Prop}(hc:Gp E2 f args h p):Gp EX f args h p:=by
 obtain⟨v,h',h1,h2,h3⟩:=hc;exact⟨v,h',(h1.ge NS).gq Tf,h2,h3⟩
theorem QZ {f:Nat}{args:List AV}{h':Hp}{v:AV}(hc:∀K,ae E2 f args h K↔K v h'):ae EX f args h K↔K v h':=upq Tf fun K=>up NS hc
theorem Oz (i:gF h s w z)(lz:fS 3999 z):ae EX 264 [.agg [s,w]] h K↔K (.str (bM z)) h:=by
 rw[ae.gv (p:=vS) rfl rfl,yR i lz];exact aA
theorem i199 {m:Nat}(ix:gF h s w z)(lz:fS m z)(hm:m≤4000):Gp E2 199 [.agg [s,w]] h fun v h'=>∃b:Nat,v= .int .i64 b∧z.natAbs<2^b∧b≤64*m:=by
 obtain⟨o1,o2⟩:=ix.one;obtain⟨m1,rfl⟩:=ix.fst;refine Gp.of (ae.fn (fn:=C.Mu) rfl rfl rfl ?_);unfold C.Mu;repeat'(with_reducible first|simp(disch:=try exact ab) only[go_sem,seval,o1,o2]|(apply ai.i<;>intro hc))
 refine Gp.wp (vE (ix.aO aS)) fun v k a b u ⟨w',l,e0,S0,D0,N0,V0,L0⟩=>?_
 subst e0;have ln:=S0.rd.len;have ad:=S0.rd.iZ;by_cases hz:l=[]
 ·subst hz;simp only[List.length_nil]at ln;have e0:((0:Nat):Int)=0:=rfl;repeat'(with_reducible first|simp(disch:=try exact ab) only[go_sem,seval,ln,e0]|(apply ai.i<;>intro hc))
  rw[jV]at V0;refine⟨⟨0,rfl,by rw[←V0];decide,aE _⟩,?_⟩;exact aS
 ·have hlp:=gy.2 hz;have Xq:=lz.len N0 V0;have QJ:=S0.rd.load (l.length-1) (by omega);have i1:((l.length:Int)-1).toNat=l.length-1:=by omega
  have htd:=Dg.getD (B:=18446744073709551616) (by decide) D0 (l.length-1);have hne:¬(l.length:Int)=0:=by omega
  have hb:=mg (n:=l.getD (l.length-1) 0) (k:=64) htd;have c6:=fun{h:Hp} {K:AV→Hp→Prop}=>TW (h:=h) (K:=K) (x:=l.getD (l.length-1) 0) (by omega)
  have w1:IntKind.wrap .i64 (64*((l.length:Int)-1))=64*((l.length:Int)-1):=wrap_i64 (by omega);have w2:IntKind.wrap .i64 (64*((l.length:Int)-1)+(bitLen (l.getD (l.length-1) 0):Nat))=((64*(l.length-1)+bitLen (l.getD (l.length-1) 0):Nat):Int):=by rw[wrap_i64 (by omega)];omega
  repeat'(with_reducible first|simp(disch:=try exact ab) only[go_sem,seval,ln,ad,QJ,i1,hne,c6,w1,w2]|(apply ai.i<;>intro hc))
  refine⟨⟨_,rfl,?_,by omega⟩,?_⟩
  ·have hv1:=aY (B:=18446744073709551616) (l:=l) (i:=l.length-1) (by omega);rw[show l.length-1+1=l.length by omega,bu]at hv1;have hv2:=gQ (B:=18446744073709551616) (by decide) (D0.take (n:=l.length-1));rw[aB,cI (by omega)]at hv2;have hb2:=bitLen_le (ac (bitLen (l.getD (l.length-1) 0)))
   have e64:(18446744073709551616:Nat)^(l.length-1)=2^(64*(l.length-1)):=by rw[show(18446744073709551616:Nat)=2^64 from rfl,←mY]
   rw[←V0,hv1,dz,←e64];have:18446744073709551616^(l.length-1)*(l.getD (l.length-1) 0+1)≤18446744073709551616^(l.length-1)*2^bitLen (l.getD (l.length-1) 0):=Nat.mul_le_mul_left _ hb2;rw[Nat.mul_add,Nat.mul_one]at this;omega
  ·exact aS
theorem Q2 (ix:gF h s w z)(lz:fS 3999 z):Gv EX 216 [.agg [s,w]] h (.bool (decide (10^600≤z.natAbs))):=by
 obtain⟨o1,o2⟩:=ix.one;obtain⟨m1,rfl⟩:=ix.fst;have hp:(2:Nat)^1800≤10^600:=by decide+kernel
 refine Gv.of (ae.fn (fn:=C.Mm) rfl rfl rfl ?_);unfold C.Mm;repeat'(with_reducible first|simp(disch:=try exact ab) only[go_sem,seval,o1,o2]|(apply ai.i<;>intro hc))
 refine Gp.wp (UC (i199 (ix.aO aS) lz (by decide))) fun v k a b u ⟨b1,e1,hb,_⟩=>?_
 subst e1;by_cases c:1800<b1
 ·have c':(1800:Int)<(b1:Int):=by omega
  have cS:=fun{K:AV→Hp→Prop}=>Oz (K:=K) ((ix.aO aS:gF ((h.push fun t=> .row [.int .i64 m1,w] true t).ov k u) (.int .i64 m1) w z)) lz
  have cU:=fun{h:Hp} {K:AV→Hp→Prop}=>QZ (h:=h) (K:=K) fun K=>Q7 (s:=bM z) (h:=h) (K:=K)
  have eu:iR (bM z)=bj z.natAbs 1:=by
   have:=qk (z:Rat);rw[ti]at this;rw[this];unfold gZ;rw[Rat.den_intCast,yo,if_pos rfl]
  rw[eu]at cU;have hd:=sU (n:=z.natAbs);by_cases d:10^600≤z.natAbs
  ·have d':(600:Int)<(bj z.natAbs 1).length:=by
    have:¬(bj z.natAbs 1).length≤600:=fun e=>by have:=hd.1 e;omega
    omega
   rw[decide_eq_true d];repeat'(with_reducible first|simp(disch:=try exact ab) only[go_sem,seval,o1,o2,c',cS,cU,d']|(apply ai.i<;>intro hc))
   exact aS
  ·have d':¬(600:Int)<(bj z.natAbs 1).length:=by
    have:=hd.2 (by omega);omega
   rw[decide_eq_false d];repeat'(with_reducible first|simp(disch:=try exact ab) only[go_sem,seval,o1,o2,c',cS,cU,d']|(apply ai.i<;>intro hc))
   exact aS
 ·have c':¬(1800:Int)<(b1:Int):=by omega
  have d:¬10^600≤z.natAbs:=by
   have:(2:Nat)^b1≤2^1800:=aU (by decide) (by omega);omega
  rw[decide_eq_false d];repeat'(with_reducible first|simp(disch:=try exact ab) only[go_sem,seval,o1,o2,c']|(apply ai.i<;>intro hc))
  exact aS
theorem KG {a:Rat}:(decide (10^600≤a.num.natAbs)||decide (10^600≤(a.den:Int).natAbs))= !(qd a):=by
 unfold qd;rw[ax];by_cases c1:a.num.natAbs<10^600
 ·by_cases c2:a.den<10^600
  ·rw[decide_eq_false (by omega),decide_eq_false (by omega),decide_eq_true ⟨c1,c2⟩];rfl
  ·rw[decide_eq_true (p:=10^600≤a.den) (by omega),decide_eq_false (p:=a.num.natAbs<10^600∧a.den<10^600) (fun e=>c2 e.2),Bool.or_true];rfl
 ·rw[decide_eq_true (p:=10^600≤a.num.natAbs) (by omega),decide_eq_false (p:=a.num.natAbs<10^600∧a.den<10^600) (fun e=>c1 e.1),Bool.true_or];rfl
theorem Vn (ia:kf h va a)(la:Bd 3999 a):Gv EX 140 [va] h (.bool (!(qd a))):=by
 obtain⟨n1,w1,n2,w2,rfl,o1,o2,I1,I2⟩:=ia.ex;refine Gv.of (ae.fn (fn:=C.MD) rfl rfl rfl ?_);unfold C.MD;rw[←KG];repeat'(with_reducible first|simp(disch:=try exact ab) only[go_sem,seval,o1,o2]|(apply ai.i<;>intro hc))
 refine Gv.wp (Q2 (I1.aO aS) la.1) fun h1 k1 j1 u1=>?_
 by_cases d:10^600≤a.num.natAbs
 ·rw[decide_eq_true d];repeat'(with_reducible first|simp(disch:=try exact ab) only[go_sem,seval,o1,o2]|(apply ai.i<;>intro hc))
  refine⟨by simp,?_⟩;exact aS
 ·rw[decide_eq_false d];repeat'(with_reducible first|simp(disch:=try exact ab) only[go_sem,seval,o1,o2]|(apply ai.i<;>intro hc))
  refine Gv.wp (Q2 (I2.aO aS) la.2) fun h2 k2 j2 u2=>?_
  repeat'(with_reducible first|simp(disch:=try exact ab) only[go_sem,seval,o1,o2]|(apply ai.i<;>intro hc))
  refine⟨by simp,?_⟩;exact aS
theorem Vm (ia:kf h va a)(la:Bd 3999 a)(hl:(bU a).length≤1000000):Gv EX 196 [va] h (.str (bU a)):=by
 obtain⟨n1,w1,n2,w2,e,o1,o2,I1,I2⟩:=id ia.ex;refine Gv.of (ae.fn (fn:=C.a196) rfl rfl rfl ?_);unfold C.a196;subst e;repeat'(with_reducible first|simp(disch:=try exact ab) only[go_sem,seval,o1,o2]|(apply ai.i<;>intro hc))
 refine Gv.wp (x2 (i241 (ia.aO aS))) fun h1 k1 j1 u1=>?_
 have cS:=fun{h':Hp} {K:AV→Hp→Prop} (g:aK h h')=>Oz (h:=h') (K:=K) (I1.aO g) la.1
 have cT:=fun{h':Hp} {K:AV→Hp→Prop} (g:aK h h')=>Oz (h:=h') (K:=K) (I2.aO g) la.2
 by_cases d:(a.den:Int)=1
 ·have et:bU a=bM a.num:=if_pos (by omega);rw[et];have c1:=fun{K:AV→Hp→Prop}=>cS (h':=(h.push fun t=> .row [.int .i64 n1,w1,.int .i64 n2,w2] true t).ov h1 u1) (K:=K) aS
  repeat'(with_reducible first|simp(disch:=try exact ab) only[go_sem,seval,o1,o2,d,c1]|(apply ai.i<;>intro hc))
  exact aS
 ·have et:bU a=bM a.num++47::bM a.den:=if_neg (by omega);rw[et]at hl⊢;rw[List.length_append,List.length_cons]at hl;have c1:=fun{K:AV→Hp→Prop}=>cS (h':=(h.push fun t=> .row [.int .i64 n1,w1,.int .i64 n2,w2] true t).ov h1 u1) (K:=K) aS
  have c2:=fun{K:AV→Hp→Prop}=>cT (h':=(h.push fun t=> .row [.int .i64 n1,w1,.int .i64 n2,w2] true t).ov h1 u1) (K:=K) aS
  repeat'(with_reducible first|simp(disch:=try exact ab) only[go_sem,seval,o1,o2,d,c1,c2]|(apply ai.i<;>intro hc))
  refine⟨by simp,?_⟩;exact aS
end
end
end Go.Ae
namespace Go.Ae.F
open ij bC C
def nc:T cP:= .nil
section
open Go.Proofs
theorem all:T.Forall bh nc (fun n=>n):=trivial
theorem zA (n:Nat)(a:cP)(h:nc.get n=some a):DQ Tryz.prog n=some a:=T.gS nc (fun n=>n) all n a h
end
end Go.Ae.F
namespace Go.Ae
open Bg N Go.Proofs
noncomputable section
section
variable {h h' hp:Hp}{K:AV→Hp→Prop}{tm:T AV}{v va vb s w:AV}{z z':Int}{a b c r:Rat}
theorem Gf (z:Int):iR (bM z)=bj z.natAbs 1:=by
 have:=qk (z:Rat);rw[ti]at this;rw[this];unfold gZ;rw[Rat.den_intCast,yo,if_pos rfl]
theorem EQ (z:Int):decide ((bM z).head?=some 45)=decide (z<0):=by
 have:=lO (z:Rat);rw[ti,yo]at this;exact decide_eq_decide.2 this
theorem HX (hz:z.natAbs<10^600):Gp E2 191 [.str (bM z)] h fun v h'=>sZ h' v z:=by
 have hl:=sU.2 hz;have:=i191 (h:=h) (s:=bM z) (Gf z) (jp _ _) (by omega);rw[EQ,C4]at this;exact this
theorem i111 (hr:qd r=true):Gp E2 111 [.str (bU r)] h fun v h'=>kf h' v r:=by
 have ok:=hr;unfold qd at ok;obtain⟨h1,h2⟩:=of_decide_eq_true ok;obtain⟨b1,b2⟩:=Nt hr;obtain⟨t1,t2⟩:=sK b1 b2;have hs:=lR r;refine Gp.of (ae.fn (fn:=C.MT) rfl rfl rfl ?_);unfold C.MT;have cc:=fun{h:Hp} {K:AV→Hp→Prop}=>Q9 (h:=h) (K:=K) (s:=bU r) (by omega)
 rw[hs]at cc;by_cases d:r.den=1
 ·have et:bU r=bM r.num:=if_pos d;rw[et]at cc⊢;rw[bu,decide_eq_false (by omega)]at cc;repeat'(with_reducible first|simp(disch:=try exact ab) only[go_sem,seval,cc]|(apply ai.i<;>intro hc))
  refine Gp.wp (HX h1) fun v1 k1 a1 b1 u1 I1=>?_
  obtain⟨m1,w1,rfl,p1,I1⟩:=I1.pq;repeat'(with_reducible first|simp(disch:=try exact ab) only[go_sem,seval,p1]|(apply ai.i<;>intro hc))
  refine Gp.wp (i183 I1) fun v2 k2 a2 b2 u2 I2=>?_
  obtain⟨n1,w3,n2,w4,rfl,o1,o2,I3,I4⟩:=I2.ex;obtain⟨e1,e2⟩:=iB (p:=r.num);rw[e1]at I3;rw[e2]at I4;repeat'(with_reducible first|simp(disch:=try exact ab) only[go_sem,seval,o1,o2]|(apply ai.i<;>intro hc))
  refine⟨⟨_,_,_,_,rfl,?_,?_⟩,?_⟩
  ·exact I3.fx (by simp(disch:=try exact ab) only[go_sem,seval,aJ])
  ·rw[d];exact I4.fx (by simp(disch:=try exact ab) only[go_sem,seval,aJ])
  ·exact aS
 ·have et:bU r=bM r.num++47::bM r.den:=if_neg d;have k1:List.take (bM r.num).length (bU r)=bM r.num:=by rw[et];exact kO
  have k2:List.drop ((bM r.num).length+1) (bU r)=bM r.den:=by rw[et,←fC,jv];rfl
  rw[k1,k2,decide_eq_true (by rw[et];simp)]at cc;repeat'(with_reducible first|simp(disch:=try exact ab) only[go_sem,seval,cc]|(apply ai.i<;>intro hc))
  refine Gp.wp (HX h1) fun v1 k1 a1 b1 u1 I1=>?_
  obtain⟨m1,w1,rfl,p1,I1⟩:=I1.pq;repeat'(with_reducible first|simp(disch:=try exact ab) only[go_sem,seval,p1]|(apply ai.i<;>intro hc))
  refine Gp.wp (HX (z:=(r.den:Int)) (by rw[ax];exact h2)) fun v2 k2 a2 b2 u2 I2=>?_
  obtain⟨m2,w2,rfl,p2,I2⟩:=I2.pq;have I1':=I1.ov (g:=u2);have fl:=uw (n:=m1) (n':=m2) p1 p2;repeat'(with_reducible first|simp(disch:=try exact ab) only[go_sem,seval,p1,p2,fl]|(apply ai.i<;>intro hc))
  refine⟨⟨_,_,_,_,rfl,?_,?_⟩,?_⟩
  ·exact I1'.fx (by simp(disch:=try exact ab) only[go_sem,seval,aJ])
  ·exact I2.fx (by simp(disch:=try exact ab) only[go_sem,seval,aJ])
  ·exact aS
theorem UA {r:Rat}(h:qd r=true):Bd 110 r:=by
 unfold qd at h;obtain⟨h1,h2⟩:=of_decide_eq_true h;have l2:fS 110 (r.den:Int):=mV h2 (by decide);have l1:fS 110 ((r.num.natAbs:Nat):Int):=mV h1 (by decide);exact⟨l1.le (by rw[ax];exact ac _),l2⟩
end
def EF:Env:=EX.add F.nc
theorem geF:Ge EX EF:=Ge.add _ _
section
variable {h h' hp:Hp}{K:AV→Hp→Prop}{tm:T AV}{v va vb s w:AV}{z z':Int}{a b c r:Rat}
theorem f0 {f:Nat}{args:List AV}{v:AV}(hc:Gv EX f args h v):Gv EF f args h v:=hc.ge fun _ _ _ hk=>hk.ge geF
theorem f3 {f:Nat}{args:List AV}{v:AV}(hc:Gv E3 f args h v):Gv EF f args h v:=f0 (x3 hc)
theorem f2 {f:Nat}{args:List AV}{v:AV}(hc:Gv E2 f args h v):Gv EF f args h v:=f0 (x2 hc)
theorem Uz {r:Rat}(h:qd r=true):Br 67 r:=Nt h
theorem Pq {n:Nat}{c:Rat}(hb:Bd n c)(hn:n≤400):Bd 3999 c∧(bU c).length≤1000000:=by
 refine⟨hb.mono (by omega),?_⟩;have e:(18446744073709551616:Nat)^400≤1000000000^900:=by decide+kernel
 have h1:Lr 900 c.num:=ah (hb.mono hn).1 e;have h2:Lr 900 (c.den:Int):=ah (hb.mono hn).2 e;have:=(sK h1 h2).1;omega
end
end
end Go.Ae
namespace Go.Ae
open Bg N Go.Proofs
noncomputable section
structure Fc where
 n:Int
 w:AV
 d:Int
 u:AV
def Fc.l (c:Fc):List AV:=[.int .i64 c.n,c.w,.int .i64 c.d,c.u]
def Fc.z:Fc:=⟨0,.av,0,.av⟩
theorem Fc.nf (c:Fc):c.l.length=4:=rfl
def FrL (h:Hp)(L:List Fc)(l:List Rat):Prop:=L.length=l.length∧∀(i:Nat) (a:i<L.length) (b:i<l.length),kf h (.agg (L[i]).l) l[i]
def FrS (h:Hp)(v:AV)(l:List Rat):Prop:=∃L,iC 4 h v l.length (L.flatMap Fc.l)∧FrL h L l
section
variable {h h' h0 hp:Hp}{K:AV→Hp→Prop}{tm:T AV}{v va vb s w:AV}{z:Nat}{a b c r:Rat}{L:List Fc}{l:List Rat}{x:Fc}
theorem kf.cell (i:kf h v r):∃c:Fc,v= .agg c.l∧c.w.one=true∧c.u.one=true:=by
 obtain⟨n1,w1,n2,w2,e,o1,o2,_⟩:=i.ex;exact⟨⟨n1,w1,n2,w2⟩,e,o1,o2⟩
theorem kf.KD (i:kf h (.agg x.l) r):x.w.one=true∧x.u.one=true:=by
 obtain⟨n1,w1,n2,w2,e,o1,o2,_⟩:=i.ex;injection e with e
 unfold Fc.l at e;injection e with _ e
 injection e with e1 e
 injection e with _ e
 injection e with e2 _
 rw[e1,e2];exact⟨o1,o2⟩
theorem FrL.nil:FrL h [] []:=⟨rfl,fun i a=>absurd a (gz _)⟩
theorem ee.UD {n b u:Nat}{cs xs:List AV}(hu:u=h.next)(G:aK h0 h)(O:ee z h0 h v n cs)(hx:xs.length=z)(hz:0<z)(hl:(n+1)*b≤140737488355328)(hl2:n+1≤140737488355328)
  (hk:∀v' h',aK h0 h'→ee z h0 h' v' (n+1) (cs++xs)→(∀t,t<h.next→(∀t' o n',v= .sl t' o n' z→t≠t')→h'.get t=h.get t)→h.next≤h'.next→h.df≤h'.df→(∀t' o n',v'= .sl t' o n' z→h.next<t')→v'≠ .av→K v' h'):eW (kr (h.push fun st=> .row xs true st) z b v (.sl u 0 1 z)) K:=by
 subst hu;have hc:cellsOf (h.push fun st=> .row xs true st) z (.sl h.next 0 1 z)=some xs:=xQ Hp.cu hx;have hn0:=G.next;obtain⟨hlen,⟨rfl,rfl⟩|⟨t,st,rfl,hg,h1,h2,h3⟩⟩:=O
 ·have hcs:cs=[]:=List.length_eq_zero_iff.1 (by omega);subst hcs
  have e:kr (h.push fun st=> .row xs true st) z b .av (.sl h.next 0 1 z)=some (.sl (h.next+1) 0 1 z,(h.push fun st=> .row xs true st).push fun st=> .row xs true st):=by
   unfold kr;rw[hc];simp only[xB];rw[if_pos ⟨by omega,by omega,by omega⟩];rfl
  rw[e];refine hk _ _ G.push.push ⟨by simp[hx],.inr ⟨h.next+1,(h.push fun st=> .row xs true st).df+1,rfl,Hp.cu,by omega,?_,ac _⟩⟩ (fun t ht _=>?_) ?_ ?_ (fun t' o n' e=>?_) (fun e=>nomatch e)
  ·show h.next+1<h.next+1+1;omega
  ·rw[Hp.du (by show t≠h.next+1;omega),Hp.du (by omega)]
  ·show h.next≤h.next+1+1;omega
  ·show h.df≤h.df+1+1;omega
  ·injection e with e;omega
 ·have hgt:(h.push fun st=> .row xs true st).get t=some (.row cs true st):=(Hp.du (by omega)).trans hg
  have e:kr (h.push fun st=> .row xs true st) z b (.sl t 0 n z) (.sl h.next 0 1 z)=some (.sl (h.next+1) 0 (n+1) z,((h.push fun st=> .row xs true st).put t fun s=> .dead s).push fun st=> .row (cs++xs) true st):=by
   unfold kr;rw[hc];simp only[xB];rw[hgt];simp only;rw[if_pos ⟨trivial,by omega,hl,hl2⟩];simp only[List.drop_zero,←hlen,bu];rfl
  rw[e];refine hk _ _ ((G.push.put h1).push) ⟨by simp[hx,hlen,aX],.inr ⟨h.next+1,((h.push fun st=> .row xs true st).put t fun s=> .dead s).df+1,rfl,Hp.cu,by omega,?_,ac _⟩⟩ (fun t1 ht1 hne=>?_) ?_ ?_ (fun t' o n' e=>?_) (fun e=>nomatch e)
  ·show h.next+1<h.next+1+1;omega
  ·have:=hne t 0 n rfl;rw[Hp.du (by show t1≠h.next+1;omega),Hp.fq this,Hp.du (by omega)]
  ·show h.next≤h.next+1+1;omega
  ·show h.df≤h.df+1+1+1;omega
  ·injection e with e;omega
theorem RD (n:Nat):rep n [.int .i64 0,.av,.int .i64 0,.av]=(aw n Fc.z).flatMap Fc.l:=by
 induction n with
 |zero=>rfl
 |succ n ih=>rw[rep,ih,List.replicate_succ,iE];rfl
theorem VX {E:Env}{x y:bC}{n:Nat}{st:St}(hx:val st.tm x= .int .i64 n)(hy:val st.tm y= .int .i64 n)(hn:n≤1000000)
  (hk:K (.sl st.hp.next 0 n 4) (st.hp.push fun s=> .row ((aw n Fc.z).flatMap Fc.l) true s)):cm E (.tY 4 64 [.int .i64 0,.av,.int .i64 0,.av] x y) st K:=by
 rw[M6];simp only[rZ,hx,hy];rw[if_pos ⟨by omega,Int.le_refl _,by omega,by omega,rfl,by decide,rfl⟩,RD,fm];exact hk
theorem zG {R:List Fc}{y:Fc}:eE ((L++y::R).flatMap Fc.l) (L.length*4) x.l=((L++[x])++R).flatMap Fc.l:=by
 have e1:(L.flatMap Fc.l).length=L.length*4:=kG Fc.nf L;unfold eE;rw[rU,iE,←e1,kO,←fC,jv,rU,rU,Fc.nf x,←Fc.nf y,jv];simp
end
end
end Go.Ae
set_option maxHeartbeats 2000000
namespace Go.Ae
open Bg N Go.Proofs
noncomputable section
section
variable {h h' hp:Hp}{K:AV→Hp→Prop}{tm:T AV}{v va vb s w:AV}{a b c r:Rat}
theorem fS.of {n m:Nat}(hn:n<18446744073709551616^m):fS m (n:Int):=by unfold fS;rw[ax];exact hn
end
end
end Go.Ae
set_option exponentiation.threshold 20000
namespace Go.Ae
open Bg N Go.Proofs Gj
noncomputable section
theorem Ho {e n:Nat}(h:e≤19*n):10^e≤18446744073709551616^n:=by
 have h1:10^e≤10^(19*n):=aU (by decide) h;rw[mY]at h1;exact az h1 (Nat.pow_le_pow_left (by decide) n)
theorem Ns {e n:Nat}(h:e≤9*n):10^e≤1000000000^n:=by
 have h1:10^e≤10^(9*n):=aU (by decide) h;rw[mY]at h1;exact h1
theorem Gj.Db.bd {e n:Nat}{r:Rat}(i:Db e r)(h:e≤19*n):Bd n r:=⟨ah i.1 (Ho h),ah (by rw[ax];exact i.2) (Ho h)⟩
theorem Gj.Db.br {e n:Nat}{r:Rat}(i:Db e r)(h:e≤9*n):Br n r:=⟨ah i.1 (Ns h),ah (by rw[ax];exact i.2) (Ns h)⟩
def nw (h:Hp)(p:Nat):Prop:=∀own st (Q:List Nat),h.get p≠some (.row (Q.map (wd .u64)) own st)
def AZ (g:Nat→Rat)(j:Nat)(r:Rat):Nat→Rat:=fun k=>if k=j then r else g k
def Fw (h:Hp)(t w:Nat)(g:Nat→Rat):Prop:=∃(L:List Fc) (st:Nat),h.get t=some (.row (L.flatMap Fc.l) true st)∧t<h.next∧st≤h.df∧L.length=w∧∀k (hk:k<L.length),kf h (.agg (L[k]).l) (g k)
def Tp (h:Hp)(T n z w:Nat)(t:Nat→Nat):Prop:=∃st,h.get T=some (.row ((fg n).map fun i=> .sl (t i) 0 w z) true st)∧T<h.next∧st≤h.df
section
variable {h h' h0 hp:Hp}{K:AV→Hp→Prop}{v va vb vw s:AV}{a b c r:Rat}{L:List Fc}{g g':Nat→Rat}{x:Fc}{p T n z w i j k f u y:Nat}{t t':Nat→Nat}{o:Option di}{M:Mt}{q:List Nat}
theorem nw.aO (hn:nw h u)(G:aK h h')(hu:u<h.next):nw h' u:=fun own st Q e=>hn own st Q ((G.get hu).symm.trans e)
theorem nw.row {l:AV}{cs:List AV}{own:Bool}{st:Nat}(hg:h.get p=some (.row (l::cs) own st))(hl:∀m:Nat,l≠wd .u64 m):nw h p:=fun own' st' Q e=>by
 rw[hg]at e;injection e with e
 injection e with e _ _
 cases Q with
 |nil=>cases e
 |cons m Q=>simp only[fR,jf]at e;exact hl m e.1
theorem Sq.qQ (S:Sq .u64 h v q)(ch:fT p h h')(hn:nw h p):Sq .u64 h' v q:=by
 rcases S with S|⟨t,o,own,st,Q,e,hg,h1,h2,h3,h4⟩
 ·exact .inl S
 ·refine .inr ⟨t,o,own,st,Q,e,(ch.get t h3 ?_).trans hg,h1,h2,ah h3 ch.next,az h4 ch.df⟩;rintro rfl;exact hn _ _ _ hg
theorem gF.qQ {s w:AV}{y:Int}(i:gF h s w y)(ch:fT p h h')(hn:nw h p):gF h' s w y:=by
 rcases i with i|⟨n,t,o,q,e,hs,r⟩
 ·exact .inl i
 ·exact .inr ⟨n,t,o,q,e,hs.qQ ch hn,r⟩
theorem kf.qQ (i:kf h v r)(ch:fT p h h')(hn:nw h p):kf h' v r:=by
 obtain⟨s,w,s',w',e,i,j⟩:=i;exact⟨s,w,s',w',e,i.qQ ch hn,j.qQ ch hn⟩
theorem Fw.aO (F:Fw h u w g)(G:aK h h'):Fw h' u w g:=by
 obtain⟨L,st,hg,h1,h2,h3,h4⟩:=F;exact⟨L,st,(G.get h1).trans hg,ah h1 G.next,az h2 G.df,h3,fun k hk=>(h4 k hk).aO G⟩
theorem Fw.mP (F:Fw h u w g)(ch:fT p h h')(ne:u≠p)(hn:nw h p):Fw h' u w g:=by
 obtain⟨L,st,hg,h1,h2,h3,h4⟩:=F;exact⟨L,st,(ch.get u h1 ne).trans hg,ah h1 ch.next,az h2 ch.df,h3,fun k hk=>(h4 k hk).qQ ch hn⟩
theorem Fw.congr (F:Fw h u w g)(e:∀k,k<w→g' k=g k):Fw h u w g':=by
 obtain⟨L,st,hg,h1,h2,h3,h4⟩:=F;exact⟨L,st,hg,h1,h2,h3,fun k hk=>by rw[e k (by omega)];exact h4 k hk⟩
theorem Fw.lt (F:Fw h u w g):u<h.next:=by
 obtain⟨L,st,hg,h1,_⟩:=F;exact h1
theorem Fw.nw (F:Fw h u w g)(hw:0<w):nw h u:=by
 obtain⟨L,st,hg,h1,h2,h3,h4⟩:=F;cases L with
 |nil=>simp at h3;omega
 | cons x L=>
  rw[iE]at hg;exact nw.row (l:= .int .i64 x.n) hg (fun m e=>by unfold wd at e;cases e)
theorem Fw.old (F:Fw h u w g):∀c0,h.df≤c0→jS (h.get u) c0=true:=by
 obtain⟨L,st,hg,h1,h2,h3,h4⟩:=F;intro c0 hc;rw[hg];exact jS.row (az h2 hc)
theorem Fw.ld (F:Fw h u w g)(hj:j<w):∃x:Fc,kf h (.agg x.l) (g j)∧∀h' K,fB true 4 (j*4) (h.get u) h' K↔K (.agg x.l) h':=by
 obtain⟨L,st,hg,h1,h2,h3,h4⟩:=F;subst h3;refine⟨L[j],h4 j hj,fun h' K=>?_⟩;have hl:(L.flatMap Fc.l).length=L.length*4:=kG Fc.nf L;rw[hg,fB.row,if_pos (by omega),if_pos rfl,DE Fc.nf hj];exact aA
theorem Fw.st (F:Fw h u w g)(hj:j<w)(I:kf h (.agg x.l) r)(ho:o=h.get u)(hk:∀h',fT u h h'→Fw h' u w (AZ g j r)→K jO h'):fG 4 u (j*4) (.agg x.l) o h K:=by
 have hn:=F.nw (by omega);obtain⟨L,st,hg,h1,h2,h3,h4⟩:=F;subst h3;have hl:(L.flatMap Fc.l).length=L.length*4:=kG Fc.nf L;obtain⟨o1,o2⟩:=I.KD
 have nT:(AV.agg x.l).cells.all AV.one=true:=by
  show x.l.all AV.one=true
  unfold Fc.l;simp only[jU,vJ,o1,o2];rfl
 have mK:eE (L.flatMap Fc.l) (j*4) (AV.agg x.l).cells=(L.set j x).flatMap Fc.l:=by
  have e1:L=L.take j++L[j]::L.drop (j+1):=by
   rw[←List.drop_eq_getElem_cons hj,fP]
  have e2:L.set j x=L.take j++[x]++L.drop (j+1):=by
   rw[tc,if_pos hj];simp
  have e3:=zG (L:=L.take j) (x:=x) (y:=L[j]) (R:=L.drop (j+1));rw[←e1,aB,cI (by omega)]at e3;rw[e2];exact e3
 rw[ho,hg,fG.row,mK];have ch:fT u h (h.put u fun st=> .row ((L.set j x).flatMap Fc.l) true st):=fT.refl.put;refine⟨rfl,by omega,nT,hk _ ch ⟨L.set j x,_,Hp.lU,h1,ac _,by simp,fun k hk'=>?_⟩⟩;unfold AZ;by_cases c:k=j
 ·subst c;rw[if_pos rfl,List.getElem_set_self];exact I.qQ ch hn
 ·rw[if_neg c,List.getElem_set_ne (fun e=>c e.symm)];exact(h4 k (by simpa using hk')).qQ ch hn
theorem Tp.ld (P:Tp h T n z w t)(hj:j<n):∀h' K,fB false 1 j (h.get T) h' K↔K (.sl (t j) 0 w z) h':=by
 obtain⟨st,hg,h1,h2⟩:=P;intro h' K;rw[hg,fB.row,if_pos (by simp;omega),if_neg (by decide),bZ,im hj];exact aA
theorem Tp.old (P:Tp h T n z w t):∀c0,h.df≤c0→jS (h.get T) c0=true:=by
 obtain⟨st,hg,h1,h2⟩:=P;intro c0 hc;rw[hg];exact jS.row (az h2 hc)
theorem Tp.lt (P:Tp h T n z w t):T<h.next:=by
 obtain⟨st,hg,h1,h2⟩:=P;exact h1
theorem Tp.aO (P:Tp h T n z w t)(G:aK h h'):Tp h' T n z w t:=by
 obtain⟨st,hg,h1,h2⟩:=P;exact⟨st,(G.get h1).trans hg,ah h1 G.next,az h2 G.df⟩
theorem Tp.mP (P:Tp h T n z w t)(ch:fT p h h')(ne:T≠p):Tp h' T n z w t:=by
 obtain⟨st,hg,h1,h2⟩:=P;exact⟨st,(ch.get T h1 ne).trans hg,ah h1 ch.next,az h2 ch.df⟩
theorem Tp.nw (P:Tp h T n z w t)(hn:0<n):nw h T:=by
 obtain⟨st,hg,h1,h2⟩:=P;obtain⟨n,rfl⟩:∃m,n=m+1:=⟨n-1,by omega⟩
 rw[List.range_succ_eq_map,fR]at hg;exact nw.row hg (fun m e=>by unfold wd at e;cases e)
theorem vQ {α:Type}{n j:Nat}{e e':Nat→α}(hj:j<n)(h1:e' j=e' j)(h2:∀i,i≠j→e' i=e i):((fg n).map e).set j (e' j)=(fg n).map e':=by
 apply AL;intro i;rw[List.getElem?_set];simp only[List.length_map,List.length_range,bZ];by_cases c:j=i
 ·subst c;rw[if_pos rfl,if_pos hj,im hj];rfl
 ·rw[if_neg c];by_cases hi:i<n
  ·rw[im hi];simp only[cV,h2 i (fun e=>c e.symm)]
  ·rw[cb (by simpa using hi)];rfl
theorem yE {cs:List AV}{v:AV}{j:Nat}(hj:j<cs.length):eE cs j [v]=cs.set j v:=by
 rw[tc,if_pos hj];rfl
def kP (t:Nat→Nat)(j u:Nat):Nat→Nat:=fun i=>if i=j then u else t i
theorem Tp.st (P:Tp h T n z w t)(hj:j<n)(ho:o=h.get T)(hk:∀h',fT T h h'→Tp h' T n z w (kP t j u)→K jO h'):fG 1 T j (.sl u 0 w z) o h K:=by
 obtain⟨st,hg,h1,h2⟩:=P;rw[ho,hg,fG.row];refine⟨rfl,by simp;omega,rfl,hk _ fT.refl.put ⟨_,?_,h1,ac _⟩⟩;rw[show(AV.sl u 0 w z).cells=[.sl u 0 w z] from rfl,yE (by simpa using hj)];have:=vQ (n:=n) (j:=j) (e:=fun i=>AV.sl (t i) 0 w z) (e':=fun i=>AV.sl (kP t j u i) 0 w z) hj rfl (fun i hi=>by unfold kP;rw[if_neg hi]);rw[show AV.sl (kP t j u j) 0 w z= .sl u 0 w z by unfold kP;rw[if_pos rfl]]at this
 rw[this];exact Hp.lU
structure Fm (h0 h:Hp)(T:Nat)(t:Nat→Nat)(n w:Nat)(M:Mt):Prop where
 top:Tp h T n 4 w t
 row:∀i,i<n→Fw h (t i) w (M i)
 ne:∀i,i<n→t i≠T
 inj:∀i j,i<n→j<n→t i=t j→i=j
 qC:h0.next≤T
 low:∀i,i<n→h0.next≤t i
def A6 (M:Mt)(i j:Nat)(r:Rat):Mt:=fun a b=>if a=i then(if b=j then r else M a b)else M a b
theorem Fm.aO (F:Fm h0 h T t n w M)(G:aK h h'):Fm h0 h' T t n w M:=⟨F.top.aO G,fun i hi=>(F.row i hi).aO G,F.ne,F.inj,F.qC,F.low⟩
theorem Fm.congr {M':Mt}(F:Fm h0 h T t n w M)(e:∀i,i<n→∀k,k<w→M' i k=M i k):Fm h0 h T t n w M':=⟨F.top,fun i hi=>(F.row i hi).congr (e i hi),F.ne,F.inj,F.qC,F.low⟩
theorem Fm.st (F:Fm h0 h T t n w M)(hi:i<n)(hj:j<w)(I:kf h (.agg x.l) r)(ho:o=h.get (t i))(hk:∀h',fT (t i) h h'→Fm h0 h' T t n w (A6 M i j r)→K jO h'):fG 4 (t i) (j*4) (.agg x.l) o h K:=by
 refine(F.row i hi).st hj I ho fun h' ch F'=>hk h' ch ?_
 have hn:=(F.row i hi).nw (by omega);refine⟨F.top.mP ch (fun e=>F.ne i hi e.symm),fun i' hi'=>?_,F.ne,F.inj,F.qC,F.low⟩;unfold A6;by_cases c:i'=i
 ·subst c;simp only[if_pos];exact F'
 ·simp only[if_neg c];exact(F.row i' hi').mP ch (fun e=>c (F.inj _ _ hi' hi e)) hn
theorem Fm.swap {h1 h2:Hp}{f a:Nat}(F:Fm h0 h T t n w M)(hf:f<n)(ha:a<n)(c1:fT T h h1)(c2:fT T h1 h2)(P:Tp h2 T n 4 w (kP (kP t f (t a)) a (t f))):
  Fm h0 h2 T (fun i=>if i=f then t a else if i=a then t f else t i) n w (swp f a M):=by
 have hn:=F.top.nw (by omega);have ch:=c1.trans c2
 have e:kP (kP t f (t a)) a (t f)=fun i=>if i=f then t a else if i=a then t f else t i:=by
  funext i
  unfold kP;by_cases x:i=a
  ·subst x;by_cases y:i=f
   ·subst y;simp
   ·simp[y]
  ·rw[if_neg x,if_neg x]
 rw[e]at P
 have cs:∀i,i<n→(i=f∧(if i=f then t a else if i=a then t f else t i)=t a∧swp f a M i=M a)∨(i≠f∧i=a∧(if i=f then t a else if i=a then t f else t i)=t f∧swp f a M i=M f)∨(i≠f∧i≠a∧(if i=f then t a else if i=a then t f else t i)=t i∧swp f a M i=M i):=fun i hi=>by
  unfold swp;by_cases y:i=f
  ·exact .inl ⟨y,if_pos y,if_pos y⟩
  ·by_cases x:i=a
   ·exact .inr (.inl ⟨y,x,by rw[if_neg y,if_pos x],by rw[if_neg y,if_pos x]⟩)
   ·exact .inr (.inr ⟨y,x,by rw[if_neg y,if_neg x],by rw[if_neg y,if_neg x]⟩)
 refine⟨P,fun i hi=>?_,fun i hi=>?_,fun i j hi hj=>?_,F.qC,fun i hi=>?_⟩
 ·rcases cs i hi with⟨_,e1,e2⟩|⟨_,_,e1,e2⟩|⟨_,_,e1,e2⟩
  ·rw[e1,e2];exact(F.row a ha).mP ch (F.ne a ha) hn
  ·rw[e1,e2];exact(F.row f hf).mP ch (F.ne f hf) hn
  ·rw[e1,e2];exact(F.row i hi).mP ch (F.ne i hi) hn
 ·rcases cs i hi with⟨_,e1,e2⟩|⟨_,_,e1,e2⟩|⟨_,_,e1,e2⟩
  ·rw[e1];exact F.ne a ha
  ·rw[e1];exact F.ne f hf
  ·rw[e1];exact F.ne i hi
 ·intro he;rcases cs i hi with⟨i1,e1,_⟩|⟨i1,i2,e1,_⟩|⟨i1,i2,e1,_⟩<;>rcases cs j hj with⟨j1,e2,_⟩|⟨j1,j2,e2,_⟩|⟨j1,j2,e2,_⟩
  all_goals rw[e1,e2]at he
  ·omega
  ·have:=F.inj _ _ ha hf he;omega
  ·have:=F.inj _ _ ha hj he;omega
  ·have:=F.inj _ _ hf ha he;omega
  ·omega
  ·have:=F.inj _ _ hf hj he;omega
  ·have:=F.inj _ _ hi ha he;omega
  ·have:=F.inj _ _ hi hf he;omega
  ·exact F.inj _ _ hi hj he
 ·rcases cs i hi with⟨_,e1,e2⟩|⟨_,_,e1,e2⟩|⟨_,_,e1,e2⟩
  ·rw[e1];exact F.low a ha
  ·rw[e1];exact F.low f hf
  ·rw[e1];exact F.low i hi
end
end
end Go.Ae
set_option maxHeartbeats 4000000
namespace Go.Ae
open Bg N Go.Proofs Gj
def ap.l:ap→ap
 | .seq a _=>a
 |c=>c
def ap.r:ap→ap
 | .seq _ b=>b
 |c=>c
def ap.b:ap→ap
 | .block _ c=>c
 | .loop c=>c
 |c=>c
noncomputable section
def Nk (f k:Nat)(b:Rat)(M:Mt):Mt:=fun i j=>if i=f∧j<k then M i j*b else M i j
theorem GJ {f k:Nat}{b:Rat}{M:Mt}:Nk f k b M f k=M f k:=if_neg (by omega)
theorem GH {f i j:Nat}{b:Rat}{M:Mt}:Nk f 0 b M i j=M i j:=if_neg (by omega)
theorem Km {f w i j:Nat}{b:Rat}{M:Mt}(hj:j<w):yJ f b M i j=Nk f w b M i j:=by
 unfold yJ Nk;by_cases c:i=f
 ·rw[if_pos c,if_pos ⟨c,hj⟩]
 ·rw[if_neg c,if_neg (fun e=>c e.1)]
theorem GI {f k i j:Nat}{b:Rat}{M:Mt}:Nk f (k+1) b M i j=A6 (Nk f k b M) f k (M f k*b) i j:=by
 simp only[Nk,A6];by_cases c1:i=f
 ·subst c1;by_cases c2:j=k
  ·subst c2;rw[if_pos ⟨rfl,by omega⟩,if_pos rfl,if_pos rfl]
  ·rw[if_pos rfl,if_neg c2];by_cases c3:j<k
   ·rw[if_pos ⟨rfl,by omega⟩,if_pos ⟨rfl,c3⟩]
   ·rw[if_neg (by omega),if_neg (by omega)]
 ·rw[if_neg c1,if_neg (fun e=>c1 e.1),if_neg (fun e=>c1 e.1)]
def eB:ap:=C.a138.code.r.r.r.r.l.r.b.b.r.r.l.b
def eS:ap:=eB.r.r.r.r.r.l
def eR:ap:=eB.r.r.r.r.r.r.l
def eI:ap:=eR.r.b.b.r.r.l.b.r.r
section
variable {h h' h0 hp:Hp}{K:AV→Hp→Prop}{tm:T AV}{v va vb vw s:AV}{a b r tt:Rat}{x y:Fc}{p T n z w i j k f u c:Nat}{t t':Nat→Nat}{M:Mt}{Q:Ex→St→Prop}
theorem bv.Wd (A:bv h p x.l):∀h' K,fB true 4 0 (h.get p) h' K↔K (.agg x.l) h':=by
 obtain⟨st,hg,h1,h2⟩:=A;intro h' K;rw[hg,fB.row,if_pos (by rw[Fc.nf];omega),if_pos rfl];exact aA
theorem Sj:E2.gO 148 "Sign" =some 112:=by show L.nO 148 "Sign" =_;simp[L.nO]
theorem V4:E2.gO 148 "Inv" =some 245:=by show L.nO 148 "Inv" =_;simp[L.nO]
theorem VZ:E2.gO 148 "Mul" =some 115:=by show L.nO 148 "Mul" =_;simp[L.nO]
theorem VY:E2.gO 148 "Sub" =some 164:=by show L.nO 148 "Sub" =_;simp[L.nO]
theorem Dj {u:AV}{args:List AV}:qT E2 (.rE 148 u) "Sign" args h K↔ae E2 112 (u::args) h K:=qT.rE Sj
theorem VS {u:AV}{args:List AV}:qT E2 (.rE 148 u) "Inv" args h K↔ae E2 245 (u::args) h K:=qT.rE V4
theorem R7 {u:AV}{args:List AV}:qT E2 (.rE 148 u) "Mul" args h K↔ae E2 115 (u::args) h K:=qT.rE VZ
theorem VR {u:AV}{args:List AV}:qT E2 (.rE 148 u) "Sub" args h K↔ae E2 164 (u::args) h K:=qT.rE VY
theorem Ln (k0:val tm (.t 0)= .sl T 0 n 1)(k1:val tm (.t 1)= .int .i64 n)(k5:val tm (.t 5)= .int .i64 f)(k6:val tm (.t 6)= .int .i64 c)(k8:val tm (.t 8)= .ptr p 0)(fp:val tm (.t 13)= .int .i64 n)(eA:val tm (.t 14)= .int .i64 c)
  (G:aK h hp) (F:Fm h hp T t n w M) (A:bv hp p x.l) (I:kf hp (.agg x.l) b) (hpT:p≠T) (W9:∀i,i<n→p≠t i) (hf:f<n) (hw:w≤1000) (hn:n≤1000) (bd:∀k,k<w→Bd 900 (M f k)) (bb:Bd 900 b)
  (hk:∀fE hp',val fE (.t 0)= .sl T 0 n 1→val fE (.t 1)= .int .i64 n→val fE (.t 5)= .int .i64 f→val fE (.t 6)= .int .i64 c→val fE (.t 13)= .int .i64 n→val fE (.t 14)= .int .i64 c→aK h hp'→Fm h hp' T t n w (yJ f b M)→Q .fW ⟨fE,hp'⟩):Wp E2 eS ⟨tm,hp⟩ Q:=by
 rw[show eS= .seq _ (.block 4 (.loop _)) from rfl];have PR:(f:Int)<n:=by omega
 have ldT:=F.top.ld hf;have hT:=F.top.lt;repeat'(with_reducible first|simp(disch:=try exact ab) only[go_sem,seval,k0,k1,k5,k6,k8,fp,eA,PR,ldT]|(apply ai.i<;>intro hc))
 refine Wp.bD (fun mm s=>∃k:Nat,val s.tm (.t 0)= .sl T 0 n 1∧val s.tm (.t 1)= .int .i64 n∧val s.tm (.t 5)= .int .i64 f∧val s.tm (.t 6)= .int .i64 c∧val s.tm (.t 8)= .ptr p 0∧val s.tm (.t 13)= .int .i64 n∧val s.tm (.t 14)= .int .i64 c∧val s.tm (.t 61)= .int .i64 w∧val s.tm (.t 62)= .int .i64 k∧
  aK h s.hp∧Fm h s.hp T t n w (Nk f k b M)∧bv s.hp p x.l∧kf s.hp (.agg x.l) b∧k≤w∧w-k=mm) (n:=w) ?_ ?_
 ·refine⟨0,by simp(disch:=try exact ab) only[go_sem,seval,k0],by simp(disch:=try exact ab) only[go_sem,seval,k1],by simp(disch:=try exact ab) only[go_sem,seval,k5],by simp(disch:=try exact ab) only[go_sem,seval,k6],by simp(disch:=try exact ab) only[go_sem,seval,k8],by simp(disch:=try exact ab) only[go_sem,seval,fp],by simp(disch:=try exact ab) only[go_sem,seval,eA],aL,by(simp(disch:=try exact ab) only[go_sem,seval])<;>rfl,G,F.congr fun i hi k hk=>GH,A,I,aE _,rfl⟩
 ·clear k0 k1 k5 k6 k8 fp eA G F A I ldT hT;rintro mm ⟨tm,hp⟩ ⟨k,k0,k1,k5,k6,k8,fp,eA,Ss,Sn,G,F,A,I,hle,rfl⟩;simp only at k0 k1 k5 k6 k8 fp eA Ss Sn G F A I;by_cases hlt:k<w
  ·have hlt':(k:Int)<w:=by omega
   have BQ:k+1≤w:=hlt;have ldT:=F.top.ld hf;have hT:=F.top.lt;have oldT:=F.top.old;have R:=F.row f hf;have ht:=R.lt;have oldR:=R.old;obtain⟨y,Iy,ldy⟩:=R.ld hlt;rw[GJ]at Iy;have hp0:=A.lt;have oldp:=A.old;have ldp:=A.Wd;repeat'(with_reducible first|simp(disch:=try exact ab) only[go_sem,seval,k0,k1,k5,k6,k8,fp,eA,Ss,Sn,PR,ldT,hlt',ldy,ldp,oldT,oldR,oldp,R7]|(apply ai.i<;>intro hc))
   refine Gp.wp (i115 Iy I (bd k hlt) bb) fun v1 h1 a1 b1 u1 I1=>?_
   obtain⟨z,rfl,o1,o2⟩:=I1.cell;have gu:aK hp (hp.ov h1 u1):=⟨_,_,u1⟩
   repeat'(with_reducible first|simp(disch:=try exact ab) only[go_sem,seval,k0,k1,k5,k6,k8,fp,eA,Ss,Sn,PR,ldT,hlt',ldy,ldp,oldT,oldR,oldp]|(apply ai.i<;>intro hc))
   refine(F.aO gu).st hf hlt I1 (gu.get ht).symm fun h2 ch F2=>?_
   have G2:aK h h2:=ch.aO (G.trans gu) (F.low f hf);have nwf:=(R.aO gu).nw (by omega);have A2:=(A.aO gu).mP ch (W9 f hf);have I2:=(I.aO gu).qQ ch nwf;repeat'(with_reducible first|simp(disch:=try exact ab) only[go_sem,seval,k0,k1,k5,k6,k8,fp,eA,Ss,Sn]|(apply ai.i<;>intro hc))
   refine⟨_,by omega,k+1,rfl,G2,F2.congr fun i hi j hj=>GI,A2,I2,hlt,rfl⟩
  ·have hlt':¬(k:Int)<w:=by omega
   obtain rfl:k=w:=by omega
   repeat'(with_reducible first|simp(disch:=try exact ab) only[go_sem,seval,k0,k1,k5,k6,k8,fp,eA,Ss,Sn,hlt']|(apply ai.i<;>intro hc))
   refine hk _ _ (by simp(disch:=try exact ab) only[go_sem,seval,k0]) (by simp(disch:=try exact ab) only[go_sem,seval,k1]) (by simp(disch:=try exact ab) only[go_sem,seval,k5]) (by simp(disch:=try exact ab) only[go_sem,seval,k6]) (by simp(disch:=try exact ab) only[go_sem,seval,fp]) (by simp(disch:=try exact ab) only[go_sem,seval,eA]) G (F.congr fun i hi j hj=>Km hj)
end
end
end Go.Ae
namespace Go.Ae
open Bg N Go.Proofs Gj
noncomputable section
def JJ (f i k:Nat)(tt:Rat)(M:Mt):Mt:=fun a j=>if a=i∧j<k then M a j-tt*M f j else M a j
section
variable {h h' h0 hp:Hp}{K:AV→Hp→Prop}{tm:T AV}{v va vb vw s:AV}{a b r tt:Rat}{x y:Fc}{p T n z w i j k f u c:Nat}{t t':Nat→Nat}{M:Mt}{Q:Ex→St→Prop}
theorem Fm.VD {h1:Hp}{o:Option di}(F:Fm h0 h1 T t n w M)(G:aK h0 h1)(g:aK h1 h)(hi:i<n)(hj:j<w)(I:kf h (.agg x.l) r)(ho:o=h1.get (t i))(hk:∀h',fT (t i) h1 h'→nw h1 (t i)→aK h0 h'→Fm h0 h' T t n w (A6 M i j r)→K jO h'):fG 4 (t i) (j*4) (.agg x.l) o h K:=
 (F.aO g).st hi hj I (ho.trans (g.get (F.row i hi).lt).symm) fun h' ch F'=>hk h' ((fT.of g).trans ch) ((F.row i hi).nw (by omega)) (ch.aO (G.trans g) (F.low i hi)) F'
theorem GY {a:Nat}:JJ f i 0 tt M a j=M a j:=if_neg (by omega)
theorem G0:JJ f i k tt M i k=M i k:=if_neg (by omega)
theorem RE (h:i≠f):JJ f i k tt M f j=M f j:=if_neg (fun e=>h e.1.symm)
theorem GZ {a:Nat}:JJ f i (k+1) tt M a j=A6 (JJ f i k tt M) i k (M i k-tt*M f k) a j:=by
 simp only[JJ,A6];by_cases c1:a=i
 ·subst c1;by_cases c2:j=k
  ·subst c2;rw[if_pos ⟨rfl,by omega⟩,if_pos rfl,if_pos rfl]
  ·rw[if_pos rfl,if_neg c2];by_cases c3:j<k
   ·rw[if_pos ⟨rfl,by omega⟩,if_pos ⟨rfl,c3⟩]
   ·rw[if_neg (by omega),if_neg (by omega)]
 ·rw[if_neg c1,if_neg (fun e=>c1 e.1),if_neg (fun e=>c1 e.1)]
structure Kt (tm:Ae.T AV)(T n f c:Nat):Prop where
 k0:val tm (.t 0)= .sl T 0 n 1
 k1:val tm (.t 1)= .int .i64 n
 k5:val tm (.t 5)= .int .i64 f
 k6:val tm (.t 6)= .int .i64 c
 fp:val tm (.t 13)= .int .i64 n
 eA:val tm (.t 14)= .int .i64 c
theorem Rl:max (-1) (min 1 (0:Int))=0:=by decide
theorem Rj {z:Int}(hz:z≠0):max (-1) (min 1 z)≠0:=by omega
theorem P7 (q:Kt tm T n f c)(k10:val tm (.t 10)= .int .i64 i)(k11:val tm (.t 11)= .ptr p 0)(rD:val tm (.t 83)= .int .i64 n)(rC:val tm (.t 84)= .int .i64 i)
  (G:aK h hp) (F:Fm h hp T t n w M) (A:bv hp p x.l) (I:kf hp (.agg x.l) tt) (hi:i<n) (hf:f<n) (hw:w≤1000) (hn:n≤1000) (no:i=f∨tt=0)
  (hk:∀fE hp',Kt fE T n f c→val fE (.t 83)= .int .i64 n→val fE (.t 84)= .int .i64 i→aK h hp'→Fm h hp' T t n w M→Q .fW ⟨fE,hp'⟩):Wp E2 eI ⟨tm,hp⟩ Q:=by
 obtain⟨k0,k1,k5,k6,fp,eA⟩:=q;rw[show eI= .seq _ (.block 8 (.loop _)) from rfl];have hi':(i:Int)<n:=by omega
 have ldT:=F.top.ld hi;have hT:=F.top.lt;repeat'(with_reducible first|simp(disch:=try exact ab) only[go_sem,seval,k0,k1,k5,k6,k10,k11,fp,eA,rD,rC,hi',ldT]|(apply ai.i<;>intro hc))
 refine Wp.bD (fun mm s=>∃k:Nat,val s.tm (.t 0)= .sl T 0 n 1∧val s.tm (.t 1)= .int .i64 n∧val s.tm (.t 5)= .int .i64 f∧val s.tm (.t 6)= .int .i64 c∧val s.tm (.t 10)= .int .i64 i∧val s.tm (.t 11)= .ptr p 0∧val s.tm (.t 13)= .int .i64 n∧val s.tm (.t 14)= .int .i64 c∧val s.tm (.t 83)= .int .i64 n∧val s.tm (.t 84)= .int .i64 i∧val s.tm (.t 98)= .int .i64 w∧val s.tm (.t 99)= .int .i64 k∧
  aK h s.hp∧Fm h s.hp T t n w M∧bv s.hp p x.l∧kf s.hp (.agg x.l) tt∧k≤w∧w-k=mm) (n:=w) ?_ ?_
 ·exact⟨0,by simp(disch:=try exact ab) only[go_sem,seval,k0],by simp(disch:=try exact ab) only[go_sem,seval,k1],by simp(disch:=try exact ab) only[go_sem,seval,k5],by simp(disch:=try exact ab) only[go_sem,seval,k6],by simp(disch:=try exact ab) only[go_sem,seval,k10],by simp(disch:=try exact ab) only[go_sem,seval,k11],by simp(disch:=try exact ab) only[go_sem,seval,fp],by simp(disch:=try exact ab) only[go_sem,seval,eA],by simp(disch:=try exact ab) only[go_sem,seval,rD],by simp(disch:=try exact ab) only[go_sem,seval,rC],aL,by(simp(disch:=try exact ab) only[go_sem,seval])<;>rfl,G,F,A,I,aE _,rfl⟩
 ·clear k0 k1 k5 k6 k10 k11 fp eA rD rC G F A I ldT hT;rintro mm ⟨tm,hp⟩ ⟨k,k0,k1,k5,k6,k10,k11,fp,eA,rD,rC,HP,HO,G,F,A,I,hle,rfl⟩;simp only at k0 k1 k5 k6 k10 k11 fp eA rD rC HP HO G F A I;by_cases hlt:k<w
  ·have hlt':(k:Int)<w:=by omega
   have BQ:k+1≤w:=hlt;by_cases c1:i=f
   ·subst c1;repeat'(with_reducible first|simp(disch:=try exact ab) only[go_sem,seval,k0,k1,k5,k6,k10,k11,fp,eA,rD,rC,HP,HO,hlt']|(apply ai.i<;>intro hc))
    exact⟨_,by omega,k+1,rfl,G,F,A,I,hlt,rfl⟩
   ·obtain rfl:tt=0:=no.resolve_left c1;have ldp:=A.Wd;have hp0:=A.lt;have f112:=i112 I;rw[show(0:Rat).num=0 from rfl,Rl]at f112;have c1':¬(i:Int)=f:=by omega
    repeat'(with_reducible first|simp(disch:=try exact ab) only[go_sem,seval,k0,k1,k5,k6,k10,k11,fp,eA,rD,rC,HP,HO,hlt',c1',ldp,Dj]|(refine Gv.wp (f112) fun _ _ _ _=>?_)|(apply ai.i<;>intro hc))
    refine⟨_,by omega,k+1,rfl,G.trans aS,F.aO aS,A.aO aS,I.aO aS,hlt,rfl⟩
  ·have hlt':¬(k:Int)<w:=by omega
   repeat'(with_reducible first|simp(disch:=try exact ab) only[go_sem,seval,k0,k1,k5,k6,k10,k11,fp,eA,rD,rC,HP,HO,hlt']|(apply ai.i<;>intro hc))
   exact hk _ _ ⟨by simp(disch:=try exact ab) only[go_sem,seval,k0],by simp(disch:=try exact ab) only[go_sem,seval,k1],by simp(disch:=try exact ab) only[go_sem,seval,k5],by simp(disch:=try exact ab) only[go_sem,seval,k6],by simp(disch:=try exact ab) only[go_sem,seval,fp],by simp(disch:=try exact ab) only[go_sem,seval,eA]⟩ (by simp(disch:=try exact ab) only[go_sem,seval,rD]) (by simp(disch:=try exact ab) only[go_sem,seval,rC]) G F
theorem To (q:Kt tm T n f c)(k10:val tm (.t 10)= .int .i64 i)(k11:val tm (.t 11)= .ptr p 0)(rD:val tm (.t 83)= .int .i64 n)(rC:val tm (.t 84)= .int .i64 i)
  (G:aK h hp) (F:Fm h hp T t n w M) (A:bv hp p x.l) (I:kf hp (.agg x.l) tt) (hpT:p≠T) (W9:∀i,i<n→p≠t i) (hi:i<n) (hf:f<n) (hw:w≤1000) (hn:n≤1000) (ne:i≠f) (nz:tt≠0)
  (bt:Bd 400 tt) (bi:∀k,k<w→Bd 400 (M i k)) (bf:∀k,k<w→Bd 400 (M f k))
  (hk:∀fE hp',Kt fE T n f c→val fE (.t 83)= .int .i64 n→val fE (.t 84)= .int .i64 i→aK h hp'→Fm h hp' T t n w (JJ f i w tt M)→Q .fW ⟨fE,hp'⟩):Wp E2 eI ⟨tm,hp⟩ Q:=by
 obtain⟨k0,k1,k5,k6,fp,eA⟩:=q;rw[show eI= .seq _ (.block 8 (.loop _)) from rfl];have hi':(i:Int)<n:=by omega
 have PR:(f:Int)<n:=by omega
 have ne':¬(i:Int)=f:=by omega
 have ldT:=F.top.ld hi;have hT:=F.top.lt;repeat'(with_reducible first|simp(disch:=try exact ab) only[go_sem,seval,k0,k1,k5,k6,k10,k11,fp,eA,rD,rC,hi',ldT]|(apply ai.i<;>intro hc))
 refine Wp.bD (fun mm s=>∃k:Nat,val s.tm (.t 0)= .sl T 0 n 1∧val s.tm (.t 1)= .int .i64 n∧val s.tm (.t 5)= .int .i64 f∧val s.tm (.t 6)= .int .i64 c∧val s.tm (.t 10)= .int .i64 i∧val s.tm (.t 11)= .ptr p 0∧val s.tm (.t 13)= .int .i64 n∧val s.tm (.t 14)= .int .i64 c∧val s.tm (.t 83)= .int .i64 n∧val s.tm (.t 84)= .int .i64 i∧val s.tm (.t 98)= .int .i64 w∧val s.tm (.t 99)= .int .i64 k∧
  aK h s.hp∧Fm h s.hp T t n w (JJ f i k tt M)∧bv s.hp p x.l∧kf s.hp (.agg x.l) tt∧k≤w∧w-k=mm) (n:=w) ?_ ?_
 ·exact⟨0,by simp(disch:=try exact ab) only[go_sem,seval,k0],by simp(disch:=try exact ab) only[go_sem,seval,k1],by simp(disch:=try exact ab) only[go_sem,seval,k5],by simp(disch:=try exact ab) only[go_sem,seval,k6],by simp(disch:=try exact ab) only[go_sem,seval,k10],by simp(disch:=try exact ab) only[go_sem,seval,k11],by simp(disch:=try exact ab) only[go_sem,seval,fp],by simp(disch:=try exact ab) only[go_sem,seval,eA],by simp(disch:=try exact ab) only[go_sem,seval,rD],by simp(disch:=try exact ab) only[go_sem,seval,rC],aL,by(simp(disch:=try exact ab) only[go_sem,seval])<;>rfl,G,F.congr fun i hi k hk=>GY,A,I,aE _,rfl⟩
 ·clear k0 k1 k5 k6 k10 k11 fp eA rD rC G F A I ldT hT;rintro mm ⟨tm,hp⟩ ⟨k,k0,k1,k5,k6,k10,k11,fp,eA,rD,rC,HP,HO,G,F,A,I,hle,rfl⟩;simp only at k0 k1 k5 k6 k10 k11 fp eA rD rC HP HO G F A I;by_cases hlt:k<w
  ·have hlt':(k:Int)<w:=by omega
   have BQ:k+1≤w:=hlt;have ldT:=F.top.ld hi;have ldU:=F.top.ld hf;have hT:=F.top.lt;have oldT:=F.top.old;have R:=F.row i hi;have U:=F.row f hf;have ht:=R.lt;have hu:=U.lt;have oldR:=R.old;have oldU:=U.old;obtain⟨y,Iy,ldy⟩:=R.ld hlt;obtain⟨z,Iz,ldz⟩:=U.ld hlt;rw[G0]at Iy;rw[RE ne]at Iz;have hp0:=A.lt;have oldp:=A.old;have ldp:=A.Wd;have f112:=i112 I;have sg:=Rj (z:=tt.num) (fun e=>nz (qa.1 e))
   generalize max (-1) (min 1 tt.num)=sgv at f112 sg
   repeat'(with_reducible first|simp(disch:=try exact ab) only[go_sem,seval,k0,k1,k5,k6,k10,k11,fp,eA,rD,rC,HP,HO,hlt',ne',hi',PR,ldT,ldU,ldy,ldz,ldp,oldT,oldR,oldU,oldp,Dj,R7,sg]|(refine Gv.wp (f112) fun _ _ _ _=>?_)|(apply ai.i<;>intro hc))
   refine Gp.wp (i115 (I.aO aS) (Iz.aO aS) (bt.mono (by decide)) ((bf k hlt).mono (by decide))) fun v1 h1 a1 b1 u1 I1=>?_
   obtain⟨z1,rfl,o1,o2⟩:=I1.cell;repeat'(with_reducible first|simp(disch:=try exact ab) only[go_sem,seval,k0,k1,k5,k6,k10,k11,fp,eA,rD,rC,HP,HO,hlt',ne',hi',PR,ldT,ldU,ldy,ldz,ldp,oldT,oldR,oldU,oldp,VR]|(apply ai.i<;>intro hc))
   refine Gp.wp (i164 (Iy.aO aS) I1 ((bi k hlt).mono (by decide)) ((bt.mul (bf k hlt)).mono (by decide))) fun v2 h2 a2 b2 u2 I2=>?_
   obtain⟨z2,rfl,p1,p2⟩:=I2.cell;repeat'(with_reducible first|simp(disch:=try exact ab) only[go_sem,seval,k0,k1,k5,k6,k10,k11,fp,eA,rD,rC,HP,HO,hlt',ne',hi',PR,ldT,ldU,ldy,ldz,ldp,oldT,oldR,oldU,oldp]|(apply ai.i<;>intro hc))
   refine F.VD G aS hi hlt I2 rfl fun h3 ch nwi G3 F3=>?_
   repeat'(with_reducible first|simp(disch:=try exact ab) only[go_sem,seval,k0,k1,k5,k6,k10,k11,fp,eA,rD,rC,HP,HO]|(apply ai.i<;>intro hc))
   exact⟨_,by omega,k+1,rfl,G3,F3.congr fun i hi j hj=>GZ,A.mP ch (W9 i hi),I.qQ ch nwi,hlt,rfl⟩
  ·have hlt':¬(k:Int)<w:=by omega
   obtain rfl:k=w:=by omega
   repeat'(with_reducible first|simp(disch:=try exact ab) only[go_sem,seval,k0,k1,k5,k6,k10,k11,fp,eA,rD,rC,HP,HO,hlt']|(apply ai.i<;>intro hc))
   exact hk _ _ ⟨by simp(disch:=try exact ab) only[go_sem,seval,k0],by simp(disch:=try exact ab) only[go_sem,seval,k1],by simp(disch:=try exact ab) only[go_sem,seval,k5],by simp(disch:=try exact ab) only[go_sem,seval,k6],by simp(disch:=try exact ab) only[go_sem,seval,fp],by simp(disch:=try exact ab) only[go_sem,seval,eA]⟩ (by simp(disch:=try exact ab) only[go_sem,seval,rD]) (by simp(disch:=try exact ab) only[go_sem,seval,rC]) G F
end
end
end Go.Ae
namespace Go.Ae
open Bg N Go.Proofs Gj
noncomputable section
def eF:ap:=eB.r.r.l
def FC (f c i:Nat)(M:Mt):Mt:=fun a j=>if a<i∧a≠f then M a j-M a c*M f j else M a j
section
variable {h h' h0 hp:Hp}{K:AV→Hp→Prop}{tm:T AV}{v va vb vw s:AV}{a b r tt:Rat}{x y:Fc}{p T n z w i j k f u c e:Nat}{t t':Nat→Nat}{M:Mt}{Q:Ex→St→Prop}
theorem GQ {a:Nat}:FC f c 0 M a j=M a j:=if_neg (by omega)
theorem yK:FC f c i M i j=M i j:=if_neg (by omega)
theorem Rs:FC f c i M f j=M f j:=if_neg (fun e=>e.2 rfl)
theorem Ko {a:Nat}(ha:a<n):red f c M a j=FC f c n M a j:=by
 simp only[red,FC];by_cases c1:a=f
 ·rw[if_pos c1,if_neg (fun e=>e.2 c1)]
 ·rw[if_neg c1,if_pos ⟨ha,c1⟩]
theorem Kn {a:Nat}(ne:i≠f)(hj:j<w):FC f c (i+1) M a j=JJ f i w (M i c) (FC f c i M) a j:=by
 simp only[FC,JJ];by_cases c1:a=i
 ·subst c1;rw[if_pos ⟨by omega,ne⟩,if_pos ⟨rfl,hj⟩,if_neg (fun e=>Nat.lt_irrefl _ e.1),if_neg (fun e=>e.2 rfl)]
 ·by_cases c2:a<i∧a≠f
  ·rw[if_pos (show a<i+1∧a≠f from⟨by omega,c2.2⟩),if_neg (fun e:a=i∧j<w=>c1 e.1),if_pos c2]
  ·rw[if_neg (fun e:a<i+1∧a≠f=>c2 ⟨by omega,e.2⟩),if_neg (fun e:a=i∧j<w=>c1 e.1),if_neg c2]
theorem GR {a:Nat}(no:i=f∨M i c=0):FC f c (i+1) M a j=FC f c i M a j:=by
 simp only[FC];by_cases c2:a<i∧a≠f
 ·rw[if_pos c2,if_pos ⟨by omega,c2.2⟩]
 ·rw[if_neg c2];by_cases c1:a=i∧a≠f
  ·obtain⟨rfl,c3⟩:=c1;rw[if_pos ⟨by omega,c3⟩,no.resolve_left c3];grind
  ·rw[if_neg (fun e=>c1 ⟨by omega,e.2⟩)]
theorem P8 (q:Kt tm T n f c)(G:aK h hp)(F:Fm h hp T t n w M)(hf:f<n)(hc:c<w)(hw:w≤1000)(hn:n≤1000)(bd:∀i,i<n→∀k,k<w→Bd 400 (M i k))
  (hk:∀fE hp',Kt fE T n f c→aK h hp'→Fm h hp' T t n w (red f c M)→Q .fW ⟨fE,hp'⟩):Wp E2 eR ⟨tm,hp⟩ Q:=by
 obtain⟨k0,k1,k5,k6,fp,eA⟩:=q;rw[show eR= .seq _ (.block 6 (.loop (.seq _ (.seq _ (.seq (.block 7 (.seq _ (.seq _ eI))) _))))) from rfl];repeat'(with_reducible first|simp(disch:=try exact ab) only[go_sem,seval,k0,k1,k5,k6,fp,eA]|(apply ai.i<;>intro hc))
 refine Wp.bD (fun mm s=>∃i:Nat,val s.tm (.t 0)= .sl T 0 n 1∧val s.tm (.t 1)= .int .i64 n∧val s.tm (.t 5)= .int .i64 f∧val s.tm (.t 6)= .int .i64 c∧val s.tm (.t 13)= .int .i64 n∧val s.tm (.t 14)= .int .i64 c∧val s.tm (.t 83)= .int .i64 n∧val s.tm (.t 84)= .int .i64 i∧
  aK h s.hp∧Fm h s.hp T t n w (FC f c i M)∧i≤n∧n-i=mm) (n:=n) ?_ ?_
 ·exact⟨0,by simp(disch:=try exact ab) only[go_sem,seval,k0],by simp(disch:=try exact ab) only[go_sem,seval,k1],by simp(disch:=try exact ab) only[go_sem,seval,k5],by simp(disch:=try exact ab) only[go_sem,seval,k6],by simp(disch:=try exact ab) only[go_sem,seval,fp],by simp(disch:=try exact ab) only[go_sem,seval,eA],aL,by(simp(disch:=try exact ab) only[go_sem,seval])<;>rfl,G,F.congr fun i hi k hk=>GQ,aE _,rfl⟩
 ·clear k0 k1 k5 k6 fp eA G F;rintro mm ⟨tm,hp⟩ ⟨i,k0,k1,k5,k6,fp,eA,rD,rC,G,F,hle,rfl⟩;simp only at k0 k1 k5 k6 fp eA rD rC G F;by_cases hlt:i<n
  ·have hi':(i:Int)<n:=by omega
   have qe:(c:Int)<w:=by omega
   have BQ:i+1≤n:=hlt;have ldT:=F.top.ld hlt;have hT:=F.top.lt;have R:=F.row i hlt;have ht:=R.lt;obtain⟨x,Ix,sC⟩:=R.ld hc;rw[yK]at Ix;obtain⟨o1,o2⟩:=Ix.KD;repeat'(with_reducible first|simp(disch:=try exact ab) only[go_sem,seval,k0,k1,k5,k6,fp,eA,rD,rC,hi',qe,ldT,sC,o1,o2,Fc.l]|(apply ai.i<;>intro hc))
   by_cases no:i=f∨M i c=0
   ·refine P7 (i:=i) (p:=hp.next) (x:=x) (tt:=M i c) (T:=T) (n:=n) (f:=f) (c:=c) ⟨by simp(disch:=try exact ab) only[go_sem,seval,k0],by simp(disch:=try exact ab) only[go_sem,seval,k1],by simp(disch:=try exact ab) only[go_sem,seval,k5],by simp(disch:=try exact ab) only[go_sem,seval,k6],by simp(disch:=try exact ab) only[go_sem,seval,fp],by simp(disch:=try exact ab) only[go_sem,seval,eA]⟩ aL aL (by simp(disch:=try exact ab) only[go_sem,seval,rD]) (by simp(disch:=try exact ab) only[go_sem,seval,rC]) (G.trans aS) (F.aO aS) (bv.put nL) (Ix.aO aS) hlt hf hw hn no fun fE hp' q VU VT G' F'=>?_
    obtain⟨k0,k1,k5,k6,fp,eA⟩:=q;repeat'(with_reducible first|simp(disch:=try exact ab) only[go_sem,seval,k0,k1,k5,k6,fp,eA,VU,VT]|(apply ai.i<;>intro hc))
    exact⟨_,by omega,i+1,rfl,G',F'.congr fun i hi j hj=>GR no,hlt,rfl⟩
   ·have ne:i≠f:=fun e=>no (.inl e)
    have nz:M i c≠0:=fun e=>no (.inr e)
    refine To (i:=i) (p:=hp.next) (x:=x) (tt:=M i c) (T:=T) (n:=n) (f:=f) (c:=c) ⟨by simp(disch:=try exact ab) only[go_sem,seval,k0],by simp(disch:=try exact ab) only[go_sem,seval,k1],by simp(disch:=try exact ab) only[go_sem,seval,k5],by simp(disch:=try exact ab) only[go_sem,seval,k6],by simp(disch:=try exact ab) only[go_sem,seval,fp],by simp(disch:=try exact ab) only[go_sem,seval,eA]⟩ aL aL (by simp(disch:=try exact ab) only[go_sem,seval,rD]) (by simp(disch:=try exact ab) only[go_sem,seval,rC]) (G.trans aS) (F.aO aS) (bv.put nL) (Ix.aO aS) (by omega) (fun a ha=>by have:=(F.row a ha).lt;omega) hlt hf hw hn ne nz (bd i hlt c hc) (fun k hk=>by rw[yK];exact bd i hlt k hk) (fun k hk=>by rw[Rs];exact bd f hf k hk) fun fE hp' q VU VT G' F'=>?_
    obtain⟨k0,k1,k5,k6,fp,eA⟩:=q;repeat'(with_reducible first|simp(disch:=try exact ab) only[go_sem,seval,k0,k1,k5,k6,fp,eA,VU,VT]|(apply ai.i<;>intro hc))
    exact⟨_,by omega,i+1,rfl,G',F'.congr fun i hi j hj=>Kn ne hj,hlt,rfl⟩
  ·have hlt':¬(i:Int)<n:=by omega
   obtain rfl:i=n:=by omega
   repeat'(with_reducible first|simp(disch:=try exact ab) only[go_sem,seval,k0,k1,k5,k6,fp,eA,rD,rC,hlt']|(apply ai.i<;>intro hc))
   exact hk _ _ ⟨by simp(disch:=try exact ab) only[go_sem,seval,k0],by simp(disch:=try exact ab) only[go_sem,seval,k1],by simp(disch:=try exact ab) only[go_sem,seval,k5],by simp(disch:=try exact ab) only[go_sem,seval,k6],by simp(disch:=try exact ab) only[go_sem,seval,fp],by simp(disch:=try exact ab) only[go_sem,seval,eA]⟩ G (F.congr fun i hi j hj=>Ko hi)
theorem P9 (q:Kt tm T n c c)(k7:val tm (.t 7)= .int .i64 c)(G:aK h hp)(F:Fm h hp T t n w M)(XK:c≤n)(hc:c<w)(hw:w≤1000)(hn:n≤1000)
  (QO:∀fE hp' a,Kt fE T n c c→val fE (.t 7)= .int .i64 (a:Nat)→zE (fun i=>decide (M i c≠0)) (n-c) c=some a→aK h hp'→Fm h hp' T t n w M→Q .fW ⟨fE,hp'⟩)
  (hk2:∀fE hp',Kt fE T n c c→zE (fun i=>decide (M i c≠0)) (n-c) c=none→aK h hp'→Q (.exit 0) ⟨fE,hp'⟩):Wp E2 eF ⟨tm,hp⟩ Q:=by
 obtain⟨k0,k1,k5,k6,fp,eA⟩:=q;rw[show eF= .block 2 (.loop _) from rfl];repeat'(with_reducible first|simp(disch:=try exact ab) only[go_sem,seval]|(apply ai.i<;>intro hc))
 refine Wp.bD (fun mm s=>∃i:Nat,val s.tm (.t 0)= .sl T 0 n 1∧val s.tm (.t 1)= .int .i64 n∧val s.tm (.t 5)= .int .i64 c∧val s.tm (.t 6)= .int .i64 c∧val s.tm (.t 7)= .int .i64 i∧val s.tm (.t 13)= .int .i64 n∧val s.tm (.t 14)= .int .i64 c∧
  aK h s.hp∧Fm h s.hp T t n w M∧i≤n∧zE (fun i=>decide (M i c≠0)) (n-i) i=zE (fun i=>decide (M i c≠0)) (n-c) c∧n-i=mm) (n:=n-c) ?_ ?_
 ·exact⟨c,k0,k1,k5,k6,k7,fp,eA,G,F,XK,rfl,rfl⟩
 ·clear k0 k1 k5 k6 k7 fp eA G F;rintro mm ⟨tm,hp⟩ ⟨i,k0,k1,k5,k6,k7,fp,eA,G,F,hle,EP,rfl⟩;simp only at k0 k1 k5 k6 k7 fp eA G F;by_cases hlt:i<n
  ·have hi':(i:Int)<n:=by omega
   have QR:¬(i:Int)=n:=by omega
   have qe:(c:Int)<w:=by omega
   have BQ:i+1≤n:=hlt;have ldT:=F.top.ld hlt;have hT:=F.top.lt;have R:=F.row i hlt;have ht:=R.lt;obtain⟨x,Ix,sC⟩:=R.ld hc;have f112:=i112 Ix;by_cases c1:M i c=0
   ·rw[Iq (by omega) (decide_eq_false (fun e=>e c1)),show n-i-1=n-(i+1) by omega]at EP;rw[c1,show(0:Rat).num=0 from rfl,Rl]at f112;repeat'(with_reducible first|simp(disch:=try exact ab) only[go_sem,seval,k0,k1,k5,k6,k7,fp,eA,hi',QR,qe,ldT,sC,Dj]|(refine Gv.wp (f112) fun _ _ _ _=>?_)|(apply ai.i<;>intro hc))
    exact⟨_,by omega,i+1,rfl,G.trans aS,F.aO aS,hlt,EP,rfl⟩
   ·rw[Lg (by omega) (decide_eq_true c1)]at EP;have sg:=Rj (z:=(M i c).num) (fun e=>c1 (qa.1 e));generalize max (-1) (min 1 (M i c).num)=sgv at f112 sg
    repeat'(with_reducible first|simp(disch:=try exact ab) only[go_sem,seval,k0,k1,k5,k6,k7,fp,eA,hi',QR,qe,ldT,sC,Dj,sg]|(refine Gv.wp (f112) fun _ _ _ _=>?_)|(apply ai.i<;>intro hc))
    exact QO _ _ i ⟨by simp(disch:=try exact ab) only[go_sem,seval,k0],by simp(disch:=try exact ab) only[go_sem,seval,k1],by simp(disch:=try exact ab) only[go_sem,seval,k5],by simp(disch:=try exact ab) only[go_sem,seval,k6],by simp(disch:=try exact ab) only[go_sem,seval,fp],by simp(disch:=try exact ab) only[go_sem,seval,eA]⟩ (by simp(disch:=try exact ab) only[go_sem,seval,k7]) EP.symm (G.trans aS) (F.aO aS)
  ·obtain rfl:i=n:=by omega
   rw[Nat.sub_self]at EP;repeat'(with_reducible first|simp(disch:=try exact ab) only[go_sem,seval,k0,k1,k5,k6,k7,fp,eA]|(apply ai.i<;>intro hc))
   exact hk2 _ _ ⟨by simp(disch:=try exact ab) only[go_sem,seval,k0],by simp(disch:=try exact ab) only[go_sem,seval,k1],by simp(disch:=try exact ab) only[go_sem,seval,k5],by simp(disch:=try exact ab) only[go_sem,seval,k6],by simp(disch:=try exact ab) only[go_sem,seval,fp],by simp(disch:=try exact ab) only[go_sem,seval,eA]⟩ EP.symm G
theorem Ys (G:aK h hp)(F:Fm h hp T t n w M)(hn0:0<n)(Xd:n≤w)(hw:w≤1000)(hn:n≤1000)(hb:Mb e n w M)(he:eb e n≤7600):
  ae E2 138 [.sl T 0 n 1,.int .i64 n] hp fun v h'=>aK h h'∧∃bb:Bool,v= .bool bb∧((∃E t',el n M n=some E∧bb=true∧Fm h h' T t' n w E)∨(el n M n=none∧bb=false)):=by
 refine ae.fn (fn:=C.a138) rfl rfl rfl ?_;rw[show C.a138.code= .seq _ (.seq _ (.seq _ (.seq _ (.seq (.seq _ (.block 0 (.loop (.seq _ (.seq _ (.seq (.block 1 (.seq _ (.seq _ (.seq eF (.seq _ (.seq _ (.seq eS (.seq eR _)))))))) _)))))) _)))) from rfl,show C.a138.res=[.tmp 4] from rfl];repeat'(with_reducible first|simp(disch:=try exact ab) only[go_sem,seval]|(apply ai.i<;>intro hc))
 refine Wp.bD (fun mm s=>∃(c:Nat) (E:Mt) (t:Nat→Nat),val s.tm (.t 0)= .sl T 0 n 1∧val s.tm (.t 1)= .int .i64 n∧val s.tm (.t 5)= .int .i64 c∧val s.tm (.t 13)= .int .i64 n∧val s.tm (.t 14)= .int .i64 c∧
  aK h s.hp∧Fm h s.hp T t n w E∧el n M c=some E∧c≤n∧n-c=mm) (n:=n) ?_ ?_
 ·exact⟨0,M,t,aL,aL,by(simp(disch:=try exact ab) only[go_sem,seval])<;>rfl,aL,by(simp(disch:=try exact ab) only[go_sem,seval])<;>rfl,G,F,rfl,aE _,rfl⟩
 ·clear G F;rintro mm ⟨tm,hp⟩ ⟨c,E,t,k0,k1,k5,fp,eA,G,F,DA,hle,rfl⟩;simp only at k0 k1 k5 fp eA G F;by_cases hlt:c<n
  ·have qe:(c:Int)<n:=by omega
   have BQ:c+1≤n:=hlt;have bE:=DJ hb Xd hle DA;have hbE:eb e c≤7600:=az (DK hle) he;repeat'(with_reducible first|simp(disch:=try exact ab) only[go_sem,seval,k0,k1,k5,fp,eA,qe]|(apply ai.i<;>intro hc))
   refine P9 (T:=T) (n:=n) (c:=c) ⟨by simp(disch:=try exact ab) only[go_sem,seval,k0],by simp(disch:=try exact ab) only[go_sem,seval,k1],by simp(disch:=try exact ab) only[go_sem,seval,k5],by simp(disch:=try exact ab) only[go_sem,seval,k5],by simp(disch:=try exact ab) only[go_sem,seval,fp],by simp(disch:=try exact ab) only[go_sem,seval,eA]⟩ (by simp(disch:=try exact ab) only[go_sem,seval,k5]) G F hle (by omega) hw hn (fun fE hp' a q k7 EP G F=>?_) (fun fE hp' q EP G=>?_)
   ·obtain⟨f1,f2,f3⟩:=qL EP;have h0:E a c≠0:=of_decide_eq_true f3;have ha:a<n:=by omega
    have hA:(a:Int)<n:=by omega
    have UZ:c<w:=by omega
    have XJ:(c:Int)<w:=by omega
    obtain⟨k0,k1,k5,k6,fp,eA⟩:=q;have ldc:=F.top.ld hlt;have lda:=F.top.ld ha;have oldT:=F.top.old;have hT:=F.top.lt;repeat'(with_reducible first|simp(disch:=try exact ab) only[go_sem,seval,k0,k1,k5,k6,k7,fp,eA,qe,hA,ldc,lda,oldT]|(apply ai.i<;>intro hc))
    refine F.top.st hlt rfl fun h1 c1 P1=>?_
    repeat'(with_reducible first|simp(disch:=try exact ab) only[go_sem,seval,k0,k1,k5,k6,k7,fp,eA,qe,hA]|(apply ai.i<;>intro hc))
    refine P1.st ha rfl fun h2 c2 P2=>?_
    have F2:=F.swap hlt ha c1 c2 P2;have G2:=(c1.trans c2).aO G F.qC;generalize (fun i=>if i=c then t a else if i=a then t c else t i)=t2 at F2
    have UJ:=F2.top.ld hlt;have hT2:=F2.top.lt;have R2:=F2.row c hlt;have ht2:=R2.lt;obtain⟨x,Ix,sC⟩:=R2.ld UZ;rw[yz]at Ix;have bE2:=bE.swp hlt ha
    have bS:Mb (eb e c) n w (yJ c (E a c)⁻¹ (swp c a E)):=by
     have:=bE2.yJ hlt UZ (by rw[yz];exact h0);rwa[yz]at this
    have ba:Bd 400 (E a c):=((bE a ha).db UZ).bd (by omega);repeat'(with_reducible first|simp(disch:=try exact ab) only[go_sem,seval,k0,k1,k5,k6,k7,fp,eA,qe,hA,XJ,UJ,sC,VS]|(apply ai.i<;>intro hc))
    refine Gp.wp (i245 (Ix.aO aS) (ba.mono (by decide)) h0) fun v1 h3 a1 b1 u1 I1=>?_
    obtain⟨y,rfl,o1,o2⟩:=I1.cell;repeat'(with_reducible first|simp(disch:=try exact ab) only[go_sem,seval,k0,k1,k5,k6,k7,fp,eA,o1,o2,Fc.l]|(apply ai.i<;>intro hc))
    refine Ln (p:=h2.next+a1) (x:=y) (b:=(E a c)⁻¹) (M:=swp c a E) (t:=t2) (T:=T) (n:=n) (f:=c) (c:=c) (w:=w) (by simp(disch:=try exact ab) only[go_sem,seval,k0]) (by simp(disch:=try exact ab) only[go_sem,seval,k1]) (by simp(disch:=try exact ab) only[go_sem,seval,k5]) (by simp(disch:=try exact ab) only[go_sem,seval,k6]) aL (by simp(disch:=try exact ab) only[go_sem,seval,fp]) (by simp(disch:=try exact ab) only[go_sem,seval,eA]) (G2.trans aS) (F2.aO aS) (bv.put nL) (I1.aO aS) (by omega) (fun i hi=>by have:=(F2.row i hi).lt;omega) hlt hw hn (fun k hk=>((bE2 c hlt).db hk).bd (by omega)) ((ba.inv h0).mono (by decide)) fun fE hp' q0 q1 q5 q6 q13 q14 G4 F4=>?_
    repeat'(with_reducible first|simp(disch:=try exact ab) only[go_sem,seval,q0,q1,q5,q6,q13,q14]|(apply ai.i<;>intro hc))
    refine P8 (T:=T) (n:=n) (f:=c) (c:=c) ⟨by simp(disch:=try exact ab) only[go_sem,seval,q0],by simp(disch:=try exact ab) only[go_sem,seval,q1],by simp(disch:=try exact ab) only[go_sem,seval,q5],by simp(disch:=try exact ab) only[go_sem,seval,q6],by simp(disch:=try exact ab) only[go_sem,seval,q13],by simp(disch:=try exact ab) only[go_sem,seval,q14]⟩ G4 F4 hlt UZ hw hn (fun i hi k hk=>((bS i hi).db hk).bd (by omega)) fun fE hp' q G5 F5=>?_
    obtain⟨k0,k1,k5,k6,fp,eA⟩:=q;repeat'(with_reducible first|simp(disch:=try exact ab) only[go_sem,seval,k0,k1,k5,k6,fp,eA]|(apply ai.i<;>intro hc))
    exact⟨_,by omega,c+1,yB c c a E,t2,rfl,rfl,G5,F5,Ll DA EP,hlt,rfl⟩
   ·have sc:el n M n=none:=IP (Lk DA EP) hlt;obtain⟨k0,k1,k5,k6,fp,eA⟩:=q;have XK:¬(c:Int)=n:=by omega
    repeat'(with_reducible first|simp(disch:=try exact ab) only[go_sem,seval,k0,k1,k5,k6,fp,eA,XK]|(apply ai.i<;>intro hc))
    exact⟨G,_,rfl,.inr ⟨sc,rfl⟩⟩
  ·have hlt':¬(c:Int)<n:=by omega
   obtain rfl:c=n:=by omega
   repeat'(with_reducible first|simp(disch:=try exact ab) only[go_sem,seval,k0,k1,k5,fp,eA,hlt']|(apply ai.i<;>intro hc))
   exact⟨G,_,rfl,.inl ⟨E,t,DA,rfl,F⟩⟩
end
end
end Go.Ae
namespace Go.Ae
namespace So
def sw (d:Nat→Nat)(a b k:Nat)(i:Nat):Nat:=if a≤i∧i<a+k then d (b+(i-a))else if b≤i∧i<b+k then d (a+(i-b))else d i
def gN (d:Nat→Nat)(a m b:Nat)(i:Nat):Nat:=if a≤i∧i<a+(b-m)then d (i+(m-a))else if a+(b-m)≤i∧i<b then d (i-(b-m))else d i
theorem Er {d:Nat→Nat}{m i j:Nat}(hi:i≤m)(h:j<i)(k:Nat):gN (sw d (m-i) m j) (m-(i-j)) m (m+j) k=gN d (m-i) m (m+j) k:=by
 unfold gN sw;repeat' split
 all_goals first|omega|(congr 1;omega)
theorem Ep {d:Nat→Nat}{m i j:Nat}(hi:i≤m)(h:i<j)(k:Nat):gN (sw d (m-i) (m+j-i) i) (m-i) m (m+(j-i)) k=gN d (m-i) m (m+j) k:=by
 unfold gN sw;repeat' split
 all_goals first|omega|(congr 1;omega)
theorem Kq {d:Nat→Nat}{m i:Nat}(hi:i≤m)(k:Nat):sw d (m-i) m i k=gN d (m-i) m (m+i) k:=by
 unfold gN sw;repeat' split
 all_goals first|omega|(congr 1;omega)|rfl
structure Pm (d e:Nat→Nat)(a b:Nat):Prop where
 out:∀k,¬(a≤k∧k<b)→e k=d k
 fw:∀k,a≤k→k<b→∃k',a≤k'∧k'<b∧e k=d k'
 bw:∀k,a≤k→k<b→∃k',a≤k'∧k'<b∧d k=e k'
theorem Pm.refl (d:Nat→Nat)(a b:Nat):Pm d d a b:=⟨fun _ _=>rfl,fun k h1 h2=>⟨k,h1,h2,rfl⟩,fun k h1 h2=>⟨k,h1,h2,rfl⟩⟩
theorem Pm.trans {d e f:Nat→Nat}{a b:Nat}(x:Pm d e a b)(y:Pm e f a b):Pm d f a b:=by
 refine⟨fun k hk=>(y.out k hk).trans (x.out k hk),fun k h1 h2=>?_,fun k h1 h2=>?_⟩
 ·obtain⟨k1,p1,p2,p3⟩:=y.fw k h1 h2;obtain⟨k2,q1,q2,q3⟩:=x.fw k1 p1 p2;exact⟨k2,q1,q2,p3.trans q3⟩
 ·obtain⟨k1,p1,p2,p3⟩:=x.bw k h1 h2;obtain⟨k2,q1,q2,q3⟩:=y.bw k1 p1 p2;exact⟨k2,q1,q2,p3.trans q3⟩
theorem Pm.mono {d e:Nat→Nat}{a b a' b':Nat}(x:Pm d e a b)(h1:a'≤a)(h2:b≤b'):Pm d e a' b':=by
 refine⟨fun k hk=>x.out k (by omega),fun k p1 p2=>?_,fun k p1 p2=>?_⟩
 ·by_cases c:a≤k∧k<b
  ·obtain⟨k',q1,q2,q3⟩:=x.fw k c.1 c.2;exact⟨k',by omega,by omega,q3⟩
  ·exact⟨k,p1,p2,x.out k c⟩
 ·by_cases c:a≤k∧k<b
  ·obtain⟨k',q1,q2,q3⟩:=x.bw k c.1 c.2;exact⟨k',by omega,by omega,q3⟩
  ·exact⟨k,p1,p2,(x.out k c).symm⟩
theorem Bh {d:Nat→Nat}{a m b:Nat}(h1:a≤m)(h2:m≤b):Pm d (gN d a m b) a b:=by
 refine⟨fun k hk=>?_,fun k p1 p2=>?_,fun k p1 p2=>?_⟩
 ·unfold gN;rw[if_neg (by omega),if_neg (by omega)]
 ·unfold gN;by_cases c:k<a+(b-m)
  ·rw[if_pos ⟨p1,c⟩];exact⟨_,by omega,by omega,rfl⟩
  ·rw[if_neg (by omega),if_pos ⟨by omega,p2⟩];exact⟨_,by omega,by omega,rfl⟩
 ·by_cases c:k<m
  ·refine⟨k+(b-m),by omega,by omega,?_⟩;unfold gN;rw[if_neg (by omega),if_pos ⟨by omega,by omega⟩];congr 1;omega
  ·refine⟨k-(m-a),by omega,by omega,?_⟩;unfold gN;rw[if_pos ⟨by omega,by omega⟩];congr 1;omega
def Sd (L:Nat→Nat→Prop)(d:Nat→Nat)(a b:Nat):Prop:=∀i j,a≤i→i<j→j<b→L (d i) (d j)
theorem Sd.sub {L:Nat→Nat→Prop}{d:Nat→Nat}{a b a' b':Nat}(s:Sd L d a b)(h1:a≤a')(h2:b'≤b):Sd L d a' b':=fun i j p q r=>s i j (by omega) q (by omega)
theorem Sd.congr {L:Nat→Nat→Prop}{d e:Nat→Nat}{a b:Nat}(s:Sd L d a b)(h:∀k,a≤k→k<b→e k=d k):Sd L e a b:=fun i j p q r=>by
 rw[h i p (by omega),h j (by omega) r];exact s i j p q r
section
variable {L:Nat→Nat→Prop}{d e f:Nat→Nat}{a m b mid st en:Nat}
theorem split (tr:∀x y z,L x y→L y z→L x z)(U2:a≤st)(h1:st≤m)(h2:m≤en)(h3:en≤b)(hs:st+en=mid+m)(sl:Sd L d a m)(sr:Sd L d m b)
  (c1:st=a∨en=b∨L (d (st-1)) (d en)) (c2:st=m∨en=m∨L (d (en-1)) (d st)):
  Sd L (gN d st m en) a st∧Sd L (gN d st m en) st mid∧Sd L (gN d st m en) mid en∧Sd L (gN d st m en) en b∧∀i j,a≤i→i<mid→mid≤j→j<b→L (gN d st m en i) (gN d st m en j):=by
 have v1:∀i,i<st→gN d st m en i=d i:=fun i h=>by unfold gN;rw[if_neg (by omega),if_neg (by omega)]
 have v2:∀i,st≤i→i<mid→gN d st m en i=d (i+(m-st)):=fun i h h'=>by unfold gN;rw[if_pos ⟨h,by omega⟩]
 have v3:∀i,mid≤i→i<en→gN d st m en i=d (i-(en-m)):=fun i h h'=>by unfold gN;rw[if_neg (by omega),if_pos ⟨by omega,h'⟩]
 have v4:∀i,en≤i→gN d st m en i=d i:=fun i h=>by unfold gN;rw[if_neg (by omega),if_neg (by omega)]
 have le_of:∀{x y},x≤y→y<m→a≤x→(x=y∨L (d x) (d y)):=fun{x y} h h' xE=>by
  rcases cN h with e|e
  ·exact .inl e
  ·exact .inr (sl x y xE e h')
 have le_of':∀{x y},x≤y→y<b→m≤x→(x=y∨L (d x) (d y)):=fun{x y} h h' xE=>by
  rcases cN h with e|e
  ·exact .inl e
  ·exact .inr (sr x y xE e h')
 refine⟨?_,?_,?_,?_,?_⟩
 ·exact(sl.sub (ac _) h1).congr fun k p q=>v1 k q
 ·intro i j p q r;rw[v2 i p (by omega),v2 j (by omega) r];exact sr _ _ (by omega) (by omega) (by omega)
 ·intro i j p q r;rw[v3 i p (by omega),v3 j (by omega) r];exact sl _ _ (by omega) (by omega) (by omega)
 ·exact(sr.sub h2 (ac _)).congr fun k p q=>v4 k p
 ·intro i j p1 p2 p3 p4;by_cases ci:i<st<;>by_cases cj:j<en
  ·rw[v1 i ci,v3 j p3 cj];exact sl _ _ p1 (by omega) (by omega)
  ·rw[v1 i ci,v4 j (by omega)];have h:=c1.resolve_left (by omega)|>.resolve_left (by omega)
   rcases le_of (x:=i) (y:=st-1) (by omega) (by omega) p1 with e|e
   ·rw[e];rcases le_of' (x:=en) (y:=j) (by omega) p4 h2 with e'|e'
    ·rw[←e'];exact h
    ·exact tr _ _ _ h e'
   ·rcases le_of' (x:=en) (y:=j) (by omega) p4 h2 with e'|e'
    ·rw[←e'];exact tr _ _ _ e h
    ·exact tr _ _ _ e (tr _ _ _ h e')
  ·rw[v2 i (by omega) p2,v3 j p3 cj];have h:=c2.resolve_left (by omega)|>.resolve_left (by omega)
   rcases le_of' (x:=i+(m-st)) (y:=en-1) (by omega) (by omega) (by omega)with e|e
   ·rw[e];rcases le_of (x:=st) (y:=j-(en-m)) (by omega) (by omega) U2 with e'|e'
    ·rw[←e'];exact h
    ·exact tr _ _ _ h e'
   ·rcases le_of (x:=st) (y:=j-(en-m)) (by omega) (by omega) U2 with e'|e'
    ·rw[←e'];exact tr _ _ _ e h
    ·exact tr _ _ _ e (tr _ _ _ h e')
  ·rw[v2 i (by omega) p2,v4 j (by omega)];exact sr _ _ (by omega) (by omega) p4
theorem join (s1:Sd L f a mid)(s2:Sd L f mid b)(p1:Pm e f a b)(q1:∀k,a≤k→k<mid→∃k',a≤k'∧k'<mid∧f k=e k')(q2:∀k,mid≤k→k<b→∃k',mid≤k'∧k'<b∧f k=e k')
  (h:∀i j,a≤i→i<mid→mid≤j→j<b→L (e i) (e j)):Sd L f a b:=fun i j p q r=>by
 by_cases ci:j<mid
 ·exact s1 i j p q ci
 ·by_cases cj:mid≤i
  ·exact s2 i j cj q r
  ·obtain⟨k1,a1,a2,a3⟩:=q1 i p (by omega);obtain⟨k2,b1,b2,b3⟩:=q2 j (by omega) r;rw[a3,b3];exact h k1 k2 a1 a2 b1 b2
end
end So
open So Bg
noncomputable section
def Wn (n:Nat)(d:Nat→Nat):List Nat:=(fg n).map d
theorem Cx {n:Nat}{d:Nat→Nat}:(Wn n d).length=n:=by unfold Wn;simp
theorem QC {n i:Nat}{d:Nat→Nat}(hi:i<n):(Wn n d).getD i 0=d i:=by
 unfold Wn;rw[List.getD_eq_getElem?_getD,bZ,im hi];rfl
theorem JB {n:Nat}{d e:Nat→Nat}(h:∀k,k<n→e k=d k):Wn n e=Wn n d:=by
 unfold Wn;exact List.map_congr_left fun k hk=>h k (List.mem_range.1 hk)
def iP (d:Nat→Nat)(i x:Nat)(k:Nat):Nat:=if k=i then x else d k
theorem JA {n k:Nat}{d:Nat→Nat}:(Wn n d)[k]?=if k<n then some (d k)else none:=by
 unfold Wn;rw[bZ];by_cases c:k<n
 ·rw[im c,if_pos c];rfl
 ·rw[cb (by simp;omega),if_neg c];rfl
theorem QB {n i x:Nat}{d:Nat→Nat}(hi:i<n):(Wn n d).set i x=Wn n (iP d i x):=by
 apply AL;intro k;rw[List.getElem?_set,JA,JA,Cx];unfold iP;by_cases c:i=k
 ·subst c;simp[hi]
 ·have c':¬k=i:=fun e=>c e.symm
  rw[if_neg c,if_neg c']
def Rw (h:Hp)(t n:Nat)(d:Nat→Nat):Prop:=bv h t ((Wn n d).map (wd .i64))
section
variable {h h' hp:Hp}{K:AV→Hp→Prop}{tm:T AV}{t n i x:Nat}{d e:Nat→Nat}{w:AV}
theorem Rw.congr (A:Rw h t n d)(hk:∀k,k<n→e k=d k):Rw h t n e:=by unfold Rw;rw[JB hk];exact A
theorem Rw.ld (A:Rw h t n d)(hi:i<n):∀h' K,fB false 1 i (h.get t) h' K↔K (.int .i64 (d i:Nat)) h':=by
 have:=bv.HJ A (i:=i) (by rw[Cx];exact hi);rwa[QC hi]at this
theorem Rw.st (A:Rw h t n d)(hi:i<n)(x:Nat):∃h1,(∀K,fG 1 t i (.int .i64 (x:Nat)) (h.get t) h K↔K jO h1)∧fT t h h1∧Rw h1 t n (iP d i x)∧h1.next=h.next:=by
 refine⟨_,fun K=>bv.vP A (i:=i) (by rw[Cx];exact hi) x h K,fT.refl.put,?_,rfl⟩;have:=bv.lt A;unfold Rw;rw[QB hi];exact bv.put this
theorem Rw.old (A:Rw h t n d):∀c0,h.df≤c0→jS (h.get t) c0=true:=bv.old A
theorem Ql {a b k:Nat}(A:Rw h t n d)(ha:a+k≤n)(hb:b+k≤n)(hd:a+k≤b∨b+k≤a)(hn:n≤1000000):
  ae E2 326 [.sl t 0 n 1,.int .i64 a,.int .i64 b,.int .i64 k,w] h fun _ h'=>fT t h h'∧Rw h' t n (sw d a b k):=by
 refine ae.fn (fn:=C.LV) rfl rfl rfl ?_;unfold C.LV;repeat'(with_reducible first|simp(disch:=try exact ab) only[go_sem,seval]|(apply ai.i<;>intro hc))
 refine Wp.bD (fun m s=>∃(i:Nat),val s.tm (.t 0)= .sl t 0 n 1∧val s.tm (.t 1)= .int .i64 a∧val s.tm (.t 2)= .int .i64 b∧val s.tm (.t 3)= .int .i64 k∧val s.tm (.t 10)= .int .i64 i∧
  fT t h s.hp∧Rw s.hp t n (sw d a b i)∧i≤k∧k-i=m) (n:=k) ?_ ?_
 ·exact⟨0,aL,aL,aL,aL,by(simp(disch:=try exact ab) only[go_sem,seval])<;>rfl,fT.refl,A.congr fun j _=>by unfold sw;rw[if_neg (by omega),if_neg (by omega)],aE _,rfl⟩
 ·rintro m ⟨tm,hp⟩ ⟨i,k0,k1,k2,k3,k10,C,A,hle,rfl⟩;simp only at k0 k1 k2 k3 k10 C A;by_cases hlt:i<k
  ·have hlt':(i:Int)<k:=by omega
   have ea:((a:Int)+i).toNat=a+i:=by omega
   have eb:((b:Int)+i).toNat=b+i:=by omega
   have l1:=A.ld (i:=b+i) (by omega);have l2:=A.ld (i:=a+i) (by omega);have od:=A.old;have lt:=bv.lt A;obtain⟨h1,s1,C1,A1,n1⟩:=A.st (i:=a+i) (by omega) (sw d a b i (b+i));obtain⟨h2,s2,C2,A2,n2⟩:=A1.st (i:=b+i) (by omega) (sw d a b i (a+i));have ga:(0:Int)≤(a:Int)+i∧(a:Int)+i<n:=by omega
   have gb:(0:Int)≤(b:Int)+i∧(b:Int)+i<n:=by omega
   have key:∀j,j<n→sw d a b (i+1) j=iP (iP (sw d a b i) (a+i) (sw d a b i (b+i))) (b+i) (sw d a b i (a+i)) j:=fun j _=>by
    unfold iP sw;repeat' split
    all_goals first|omega|(congr 1;omega)
   have A3:=A2.congr key;clear key A2;generalize sw d a b i (b+i)=vb at *
   generalize sw d a b i (a+i)=va at *
   repeat'(with_reducible first|simp(disch:=try exact ab) only[go_sem,seval,k0,k1,k2,k3,k10,hlt',ea,eb,l1,l2,od,s1,s2]|(apply ai.i<;>intro hc))
   exact⟨_,by omega,i+1,rfl,C.trans (C1.trans C2),A3,hlt,rfl⟩
  ·have hlt':¬(i:Int)<k:=by omega
   obtain rfl:i=k:=by omega
   repeat'(with_reducible first|simp(disch:=try exact ab) only[go_sem,seval,k0,k1,k2,k3,k10,hlt']|(apply ai.i<;>intro hc))
   exact⟨C,A⟩
theorem X8 {a m b:Nat}(A:Rw h t n d)(ha:a<m)(hm:m<b)(hb:b≤n)(hn:n≤1000000):
  ae E2 304 [.sl t 0 n 1,.int .i64 a,.int .i64 m,.int .i64 b,w] h fun _ h'=>fT t h h'∧Rw h' t n (gN d a m b):=by
 refine ae.fn (fn:=C.LW) rfl rfl rfl ?_;unfold C.LW;have e1:(m:Int)-a=((m-a:Nat):Int):=by omega
 have e2:(b:Int)-m=((b-m:Nat):Int):=by omega
 repeat'(with_reducible first|simp(disch:=try exact ab) only[go_sem,seval,e1,e2]|(apply ai.i<;>intro hc))
 refine Wp.bD (fun k s=>∃(i j:Nat) (c:Nat→Nat),val s.tm (.t 0)= .sl t 0 n 1∧val s.tm (.t 2)= .int .i64 m∧val s.tm (.t 4)=w∧val s.tm (.t 10)= .int .i64 i∧val s.tm (.t 11)= .int .i64 j∧
  fT t h s.hp∧Rw s.hp t n c∧0<i∧0<j∧i≤m∧m+j≤n∧(∀k,gN c (m-i) m (m+j) k=gN d a m b k)∧i+j=k) (n:=m-a+(b-m)) ?_ ?_
 ·refine⟨m-a,b-m,d,aL,aL,aL,aL,aL,fT.refl,A,by omega,by omega,by omega,by omega,fun k=>?_,rfl⟩;rw[show m-(m-a)=a by omega,show m+(b-m)=b by omega]
 ·rintro k ⟨tm,hp⟩ ⟨i,j,c,k0,k2,k4,k10,k11,C,A,hi,hj,UT,QP,heq,rfl⟩;simp only at k0 k2 k4 k10 k11 C A;have f1:(m:Int)-i=((m-i:Nat):Int):=by omega
  have f2:(m:Int)+j-i=((m+j-i:Nat):Int)∨(m:Int)+j<i:=by omega
  rcases iN i j with c1|c1|c1
  ·have g1:¬(i:Int)=j:=by omega
   have g2:¬(j:Int)<i:=by omega
   have f3:(m:Int)+j-i=((m+j-i:Nat):Int):=by omega
   have f4:(j:Int)-i=((j-i:Nat):Int):=by omega
   repeat'(with_reducible first|simp(disch:=try exact ab) only[go_sem,seval,k0,k2,k4,k10,k11,g1,g2,f1,f3]|(apply ai.i<;>intro hc))
   refine ae.mono (Ql (k:=i) A (by omega) (by omega) (by omega) hn) fun v h1 ⟨C1,A1⟩=>?_
   repeat'(with_reducible first|simp(disch:=try exact ab) only[go_sem,seval,k0,k2,k4,k10,k11,f4]|(apply ai.i<;>intro hc))
   exact⟨_,by omega,i,j-i,_,rfl,rfl,C.trans C1,A1,hi,by omega,UT,by omega,fun k=>(Ep UT c1 k).trans (heq k),rfl⟩
  ·subst c1;have g1:(i:Int)=i:=rfl;repeat'(with_reducible first|simp(disch:=try exact ab) only[go_sem,seval,k0,k2,k4,k10,k11,f1]|(apply ai.i<;>intro hc))
   refine ae.mono (Ql (k:=i) A (by omega) (by omega) (by omega) hn) fun v h1 ⟨C1,A1⟩=>?_
   repeat'(with_reducible first|simp(disch:=try exact ab) only[go_sem,seval]|(apply ai.i<;>intro hc))
   exact⟨C.trans C1,A1.congr fun k _=>(heq k).symm.trans (Kq UT k).symm⟩
  ·have g1:¬(i:Int)=j:=by omega
   have g2:(j:Int)<i:=by omega
   have f4:(i:Int)-j=((i-j:Nat):Int):=by omega
   repeat'(with_reducible first|simp(disch:=try exact ab) only[go_sem,seval,k0,k2,k4,k10,k11,g1,g2,f1]|(apply ai.i<;>intro hc))
   refine ae.mono (Ql (k:=j) A (by omega) (by omega) (by omega) hn) fun v h1 ⟨C1,A1⟩=>?_
   repeat'(with_reducible first|simp(disch:=try exact ab) only[go_sem,seval,k0,k2,k4,k10,k11,f4]|(apply ai.i<;>intro hc))
   exact⟨_,by omega,i-j,j,_,rfl,rfl,C.trans C1,A1,by omega,hj,by omega,QP,fun k=>(Er UT c1 k).trans (heq k),rfl⟩
end
end
end Go.Ae
namespace Go.Ae
open So Bg
noncomputable section
structure JI (n f:Nat)(caps:List AV)(t:Nat)(P:Hp→Prop)(cz:Nat→Nat→Int)(L:Nat→Nat→Prop):Prop where
 st:∀h h',P h→fT t h h'→P h'
 call:∀(h:Hp) (x y:Nat) (K:AV→Hp→Prop),P h→x<n→y<n→(ae E2 f (.int .i64 x:: .int .i64 y::caps) h K↔K (.int .i64 (cz x y)) h)
 lt:∀x y,y<x→(cz x y<0↔L x y)
 gt:∀x y,y<x→(¬L x y↔L y x)
 tr:∀x y z,L x y→L y z→L x z
def ins (e:Nat→Nat)(i j x k:Nat):Nat:=if k<j then e k else if k=j then x else if k≤i then e (k-1)else e k
theorem HU {e:Nat→Nat}{i j x:Nat}(hj:0<j)(hi:j≤i)(k:Nat):ins e i (j-1) x k=iP (iP (ins e i j x) j (e (j-1))) (j-1) x k:=by
 unfold iP;by_cases c1:k=j-1
 ·rw[if_pos c1];unfold ins;rw[if_neg (by omega),if_pos c1]
 ·rw[if_neg c1];by_cases c2:k=j
  ·rw[if_pos c2];unfold ins;rw[if_neg (by omega),if_neg c1,if_pos (by omega),c2]
  ·rw[if_neg c2];unfold ins;by_cases c3:k<j
   ·rw[if_pos (by omega),if_pos c3]
   ·rw[if_neg (by omega),if_neg c1,if_neg c3,if_neg c2]
section
variable {h h' hp:Hp}{K:AV→Hp→Prop}{tm:T AV}{n t f:Nat}{d e:Nat→Nat}{caps:List AV}{P:Hp→Prop}{cz:Nat→Nat→Int}{L:Nat→Nat→Prop}
theorem TS (Q : JI n f caps t P cz L){a b:Nat}(hab:a<b)(hb:b≤n)(hn:n≤1000000)(A:Rw h t n d)(hP:P h)(hv:∀k,k<n→d k<n)(asc:∀i j,a≤i→i<j→j<b→d i<d j):
  ae E2 274 [.sl t 0 n 1,.int .i64 a,.int .i64 b,.fn f caps] h fun _ h'=>fT t h h'∧∃e,Rw h' t n e∧Pm d e a b∧Sd L e a b:=by
 refine ae.fn (fn:=C.Fo) rfl rfl rfl ?_;unfold C.Fo;repeat'(with_reducible first|simp(disch:=try exact ab) only[go_sem,seval]|(apply ai.i<;>intro hc))
 refine Wp.bD (fun m s=>∃(i:Nat) (e:Nat→Nat),val s.tm (.t 0)= .sl t 0 n 1∧val s.tm (.t 1)= .int .i64 a∧val s.tm (.t 2)= .int .i64 b∧val s.tm (.t 3)= .fn f caps∧val s.tm (.t 8)= .int .i64 i∧
  fT t h s.hp∧P s.hp∧Rw s.hp t n e∧Pm d e a i∧Sd L e a i∧a<i∧i≤b∧b-i=m) (n:=b-(a+1)) ?_ ?_
 ·exact⟨a+1,d,aL,aL,aL,aL,by(simp(disch:=try exact ab) only[go_sem,seval])<;>rfl,fT.refl,hP,A,Pm.refl _ _ _,fun i j p q r=>by omega,by omega,hab,rfl⟩
 ·rintro m ⟨tm, hp⟩ ⟨i,e,k0,k1,k2,k3,k8,C,hp',A,pm,sd,Lb,hib,rfl⟩;simp only at k0 k1 k2 k3 k8 C hp' A;by_cases hlt:i<b
  ·have hlt' : (i:Int)<b:=by omega
   have ei:e i=d i:=pm.out i (by omega);have hx:e i<n:=by rw[ei];exact hv i (by omega)
   have below:∀k,a≤k→k<i→e k<e i:=fun k p q=>by
    obtain⟨k',p1,p2,p3⟩:=pm.fw k p q;rw[p3,ei];exact asc k' i p1 p2 hlt
   obtain⟨x,NI⟩:∃x,e i=x:=⟨_,rfl⟩
   rw[NI]at hx below;repeat'(with_reducible first|simp(disch:=try exact ab) only[go_sem,seval,k0,k1,k2,k3,k8,hlt']|(apply ai.i<;>intro hc))
   refine Wp.bD (fun m s=>∃(j:Nat),val s.tm (.t 0)= .sl t 0 n 1∧val s.tm (.t 1)= .int .i64 a∧val s.tm (.t 2)= .int .i64 b∧val s.tm (.t 3)= .fn f caps∧val s.tm (.t 8)= .int .i64 i∧val s.tm (.t 9)= .int .i64 j∧
    fT t h s.hp∧P s.hp∧Rw s.hp t n (ins e i j x)∧a≤j∧j≤i∧(∀k,j≤k→k<i→L x (e k))∧j=m) (n:=i) ?_ ?_
   ·exact⟨i,by simp(disch:=try exact ab) only[go_sem,seval,k0],by simp(disch:=try exact ab) only[go_sem,seval,k1],by simp(disch:=try exact ab) only[go_sem,seval,k2],by simp(disch:=try exact ab) only[go_sem,seval,k3],by simp(disch:=try exact ab) only[go_sem,seval,k8],by simp(disch:=try exact ab) only[go_sem,seval,k8],C,hp',A.congr fun k _=>by
     unfold ins;repeat' split
     all_goals first|rfl|omega|(rename_i h1;rw[h1,NI]),by omega,ac _,fun k p q=>by omega,rfl⟩
   ·clear k0 k1 k2 k3 k8 C hp' A;rintro m ⟨tm,hq⟩ ⟨j,k0,k1,k2,k3,k8,k9,C,hp',A,haj,EM,hl,rfl⟩;simp only at k0 k1 k2 k3 k8 k9 C hp' A;have gj:ins e i j x j=x:=by unfold ins;rw[if_neg (by omega),if_pos rfl]
    by_cases c1:a<j
    ·have c1':(a:Int)<j:=by omega
     have gp:ins e i j x (j-1)=e (j-1):=by unfold ins;rw[if_pos (by omega)]
     have bl:=below (j-1) (by omega) (by omega);have vn:e (j-1)<n:=by omega
     have l1:=A.ld (i:=j) (by omega);have l2:=A.ld (i:=j-1) (by omega);rw[gj]at l1;rw[gp]at l2;have od:=A.old;have lt:=bv.lt A;have ej:((j:Int)-1).toNat=j-1:=by omega
     have cc:=fun K=>Q.call hq x (e (j-1)) K hp' hx vn
     have cl:=Q.lt x (e (j-1)) bl;by_cases c2:L x (e (j-1))
     ·have kq:=cl.2 c2;obtain⟨h1,s1,C1,A1,n1⟩:=A.st (i:=j) (by omega) (e (j-1));obtain⟨h2,s2,C2,A2,n2⟩:=A1.st (i:=j-1) (by omega) x;have A3:=A2.congr fun k _=>HU (e:=e) (x:=x) (i:=i) (j:=j) (by omega) EM k
      repeat'(with_reducible first|simp(disch:=try exact ab) only[go_sem,seval,k0,k1,k2,k3,k8,k9,c1',l1,l2,od,ej,cc,kq,s1,s2]|(apply ai.i<;>intro hc))
      refine⟨_,by omega,j-1,?_,C.trans (C1.trans C2),Q.st _ _ hp' (C1.trans C2),A3,by omega,by omega,fun k p q=>?_,rfl⟩
      ·congr 1;omega
      ·rcases cN p with e'|e'
       ·rw[←e'];exact c2
       ·exact hl k (by omega) q
     ·have kq:¬cz x (e (j-1))<0:=fun q=>c2 (cl.1 q)
      have hlow:∀k,a≤k→k<j→L (e k) x:=fun k p q=>by
       have g:=(Q.gt x (e (j-1)) bl).1 c2;rcases cN (show k≤j-1 by omega)with e'|e'
       ·rw[e'];exact g
       ·exact Q.tr _ _ _ (sd k (j-1) p e' (by omega)) g
      repeat'(with_reducible first|simp(disch:=try exact ab) only[go_sem,seval,k0,k1,k2,k3,k8,k9,c1',l1,l2,od,ej,cc,kq]|(apply ai.i<;>intro hc))
      refine⟨_,by omega,i+1,_,rfl,C,hp',A,?_,?_,by omega,hlt,rfl⟩
      ·refine pm.mono (ac _) (by omega:i≤i+1)|>.trans ⟨fun k hk=>?_,fun k p q=>?_,fun k p q=>?_⟩
       ·unfold ins;by_cases c3:k<j
        ·rw[if_pos c3]
        ·rw[if_neg c3,if_neg (by omega),if_neg (by omega)]
       ·unfold ins;by_cases c3:k<j
        ·rw[if_pos c3];exact⟨k,p,q,rfl⟩
        ·by_cases c4:k=j
         ·rw[if_neg c3,if_pos c4];exact⟨i,by omega,by omega,NI.symm⟩
         ·rw[if_neg c3,if_neg c4,if_pos (by omega)];exact⟨k-1,by omega,by omega,rfl⟩
       ·by_cases c3:k<j
        ·exact⟨k,p,q,by unfold ins;rw[if_pos c3]⟩
        ·by_cases c4:k=i
         ·exact⟨j,haj,by omega,by rw[gj,c4,NI]⟩
         ·exact⟨k+1,by omega,by omega,by unfold ins;rw[if_neg (by omega),if_neg (by omega),if_pos (by omega)];rfl⟩
      ·intro p q h1 h2 h3;have vp:∀k,k<j→ins e i j x k=e k:=fun k c=>by unfold ins;rw[if_pos c]
       have vq:∀k,j<k→k≤i→ins e i j x k=e (k-1):=fun k c c'=>by unfold ins;rw[if_neg (by omega),if_neg (by omega),if_pos c']
       have lx:∀k,a≤k→k<j→L (e k) x:=fun k p1 p2=>hlow k p1 p2
       by_cases cp:p<j<;>by_cases cq:q<j
       ·rw[vp p cp,vp q cq];exact sd p q h1 h2 (by omega)
       ·rw[vp p cp];by_cases c4:q=j
        ·rw[c4,gj];exact lx p h1 cp
        ·rw[vq q (by omega) (by omega)];exact Q.tr _ _ _ (lx p h1 cp) (hl (q-1) (by omega) (by omega))
       ·omega
       ·by_cases c4:p=j
        ·rw[c4,gj,vq q (by omega) (by omega)];exact hl (q-1) (by omega) (by omega)
        ·rw[vq p (by omega) (by omega),vq q (by omega) (by omega)];exact sd (p-1) (q-1) (by omega) (by omega) (by omega)
    ·have c1':¬(a:Int)<j:=by omega
     have hlow:∀k,a≤k→k<j→L (e k) x:=fun k p q=>by omega
     repeat'(with_reducible first|simp(disch:=try exact ab) only[go_sem,seval,k0,k1,k2,k3,k8,k9,c1']|(apply ai.i<;>intro hc))
     refine⟨_,by omega,i+1,_,rfl,C,hp',A,?_,?_,by omega,hlt,rfl⟩
     ·refine pm.mono (ac _) (by omega:i≤i+1)|>.trans ⟨fun k hk=>?_,fun k p q=>?_,fun k p q=>?_⟩
      ·unfold ins;by_cases c3:k<j
       ·rw[if_pos c3]
       ·rw[if_neg c3,if_neg (by omega),if_neg (by omega)]
      ·unfold ins;by_cases c3:k<j
       ·rw[if_pos c3];exact⟨k,p,q,rfl⟩
       ·by_cases c4:k=j
        ·rw[if_neg c3,if_pos c4];exact⟨i,by omega,by omega,NI.symm⟩
        ·rw[if_neg c3,if_neg c4,if_pos (by omega)];exact⟨k-1,by omega,by omega,rfl⟩
      ·by_cases c3:k<j
       ·exact⟨k,p,q,by unfold ins;rw[if_pos c3]⟩
       ·by_cases c4:k=i
        ·exact⟨j,haj,by omega,by rw[gj,c4,NI]⟩
        ·exact⟨k+1,by omega,by omega,by unfold ins;rw[if_neg (by omega),if_neg (by omega),if_pos (by omega)];rfl⟩
     ·intro p q h1 h2 h3;have vp:∀k,k<j→ins e i j x k=e k:=fun k c=>by unfold ins;rw[if_pos c]
      have vq:∀k,j<k→k≤i→ins e i j x k=e (k-1):=fun k c c'=>by unfold ins;rw[if_neg (by omega),if_neg (by omega),if_pos c']
      have lx:∀k,a≤k→k<j→L (e k) x:=fun k p1 p2=>hlow k p1 p2
      by_cases cp:p<j<;>by_cases cq:q<j
      ·rw[vp p cp,vp q cq];exact sd p q h1 h2 (by omega)
      ·rw[vp p cp];by_cases c4:q=j
       ·rw[c4,gj];exact lx p h1 cp
       ·rw[vq q (by omega) (by omega)];exact Q.tr _ _ _ (lx p h1 cp) (hl (q-1) (by omega) (by omega))
      ·omega
      ·by_cases c4:p=j
       ·rw[c4,gj,vq q (by omega) (by omega)];exact hl (q-1) (by omega) (by omega)
       ·rw[vq p (by omega) (by omega),vq q (by omega) (by omega)];exact sd (p-1) (q-1) (by omega) (by omega) (by omega)
  ·have hlt':¬(i:Int)<b:=by omega
   obtain rfl:i=b:=by omega
   repeat'(with_reducible first|simp(disch:=try exact ab) only[go_sem,seval,k0,k1,k2,k3,k8,hlt']|(apply ai.i<;>intro hc))
   exact⟨C,e,A,pm,sd⟩
end
end
end Go.Ae
namespace Go.Ae
open So Bg
noncomputable section
theorem DV {q:mW}{i j:Nat}:dM .shr q (.int .u64 ((i:Int)+j)) (.int .u64 1)=some (.int .u64 (((i+j)/2:Nat):Int)):=by
 rw[←td];exact rP (n:=1) (by decide)
section
variable {h h' hp:Hp}{K:AV→Hp→Prop}{tm:T AV}{n t f:Nat}{d e:Nat→Nat}{caps:List AV}{P:Hp→Prop}{cz:Nat→Nat→Int}{L:Nat→Nat→Prop}
theorem OX {a k:Nat}(hk:a≤k)(j:Nat):gN d a (a+1) (k+2) j=iP (iP (gN d a (a+1) (k+1)) k (d (k+1))) (k+1) (d a) j:=by
 unfold iP;by_cases c1:j=k+1
 ·rw[if_pos c1];unfold gN;rw[if_neg (by omega),if_pos (by omega)];congr 1;omega
 ·rw[if_neg c1];by_cases c2:j=k
  ·rw[if_pos c2];unfold gN;rw[if_pos (by omega)];congr 1;omega
  ·rw[if_neg c2];unfold gN;by_cases c3:a≤j∧j<k
   ·rw[if_pos (by omega),if_pos (by omega)]
   ·rw[if_neg (by omega),if_neg (by omega),if_neg (by omega),if_neg (by omega)]
theorem OY {m k:Nat}(hk:k≤m)(h0:0<k)(j:Nat):gN d (k-1) m (m+1) j=iP (iP (gN d k m (m+1)) k (d (k-1))) (k-1) (d m) j:=by
 unfold iP;by_cases c1:j=k-1
 ·rw[if_pos c1];unfold gN;rw[if_pos (by omega)];congr 1;omega
 ·rw[if_neg c1];by_cases c2:j=k
  ·rw[if_pos c2];unfold gN;rw[if_neg (by omega),if_pos (by omega)];congr 1;omega
  ·rw[if_neg c2];unfold gN;by_cases c3:k<j∧j<m+1
   ·rw[if_neg (by omega),if_pos (by omega),if_neg (by omega),if_pos (by omega)]
   ·rw[if_neg (by omega),if_neg (by omega),if_neg (by omega),if_neg (by omega)]
theorem OR {a b i:Nat}(tr:∀x y z,L x y→L y z→L x z)(hi:a+1≤i)(hb:i≤b)(sr:Sd L d (a+1) b)(lo:∀k,a+1≤k→k<i→L (d k) (d a))(hi':∀k,i≤k→k<b→L (d a) (d k)):Sd L (gN d a (a+1) i) a b:=by
 have v1:∀k,a≤k→k<i-1→gN d a (a+1) i k=d (k+1):=fun k p q=>by unfold gN;rw[if_pos (by omega)];congr 1;omega
 have v2:gN d a (a+1) i (i-1)=d a:=by unfold gN;rw[if_neg (by omega),if_pos (by omega)];congr 1;omega
 have v3:∀k,i≤k→gN d a (a+1) i k=d k:=fun k p=>by unfold gN;rw[if_neg (by omega),if_neg (by omega)]
 intro p q h1 h2 h3;by_cases c1:p<i-1
 ·rw[v1 p h1 c1];by_cases c2:q<i-1
  ·rw[v1 q (by omega) c2];exact sr _ _ (by omega) (by omega) (by omega)
  ·by_cases c3:q=i-1
   ·rw[c3,v2];exact lo _ (by omega) (by omega)
   ·rw[v3 q (by omega)];exact sr _ _ (by omega) (by omega) h3
 ·by_cases c2:p=i-1
  ·rw[c2,v2,v3 q (by omega)];exact hi' q (by omega) h3
  ·rw[v3 p (by omega),v3 q (by omega)];exact sr _ _ (by omega) h2 h3
theorem OQ {a m i:Nat}(tr:∀x y z,L x y→L y z→L x z)(hi:a≤i)(hm:i≤m)(sl:Sd L d a m)(lo:∀k,a≤k→k<i→L (d k) (d m))(hi':∀k,i≤k→k<m→L (d m) (d k)):Sd L (gN d i m (m+1)) a (m+1):=by
 have v1:∀k,k<i→gN d i m (m+1) k=d k:=fun k p=>by unfold gN;rw[if_neg (by omega),if_neg (by omega)]
 have v2:gN d i m (m+1) i=d m:=by unfold gN;rw[if_pos (by omega)];congr 1;omega
 have v3:∀k,i<k→k<m+1→gN d i m (m+1) k=d (k-1):=fun k p q=>by unfold gN;rw[if_neg (by omega),if_pos (by omega)];congr 1;omega
 intro p q h1 h2 h3;by_cases c1:p<i
 ·rw[v1 p c1];by_cases c2:q<i
  ·rw[v1 q c2];exact sl _ _ h1 h2 (by omega)
  ·by_cases c3:q=i
   ·rw[c3,v2];exact lo _ h1 c1
   ·rw[v3 q (by omega) h3];exact sl _ _ h1 (by omega) (by omega)
 ·by_cases c2:p=i
  ·rw[c2,v2,v3 q (by omega) h3];exact hi' _ (by omega) (by omega)
  ·rw[v3 p (by omega) (by omega),v3 q (by omega) h3];exact sl _ _ (by omega) (by omega) (by omega)
theorem sm1 (Q:JI n f caps t P cz L){a b:Nat}(hab:a+1≤b)(hb:b≤n)(hn:n≤1000000)(A:Rw h t n d)(hP:P h)(hv:∀k,k<n→d k<n)(sr:Sd L d (a+1) b)(cross:∀j,a+1≤j→j<b→d a<d j):
  ae E2 275 [.sl t 0 n 1,.int .i64 a,.int .i64 ((a+1:Nat):Int),.int .i64 b,.fn f caps] h fun _ h'=>fT t h h'∧∃e,Rw h' t n e∧Pm d e a b∧Sd L e a b:=by
 refine ae.fn (fn:=C.jR) rfl rfl rfl ?_;unfold C.jR;have e1:((a+1:Nat):Int)-a=1:=by omega
 repeat'(with_reducible first|simp(disch:=try exact ab) only[go_sem,seval,e1]|(apply ai.i<;>intro hc))
 refine Wp.bD (fun m s=>∃(i j:Nat),val s.tm (.t 0)= .sl t 0 n 1∧val s.tm (.t 1)= .int .i64 a∧val s.tm (.t 4)= .fn f caps∧val s.tm (.t 10)= .int .i64 i∧val s.tm (.t 11)= .int .i64 j∧
  fT t h s.hp∧P s.hp∧Rw s.hp t n d∧a+1≤i∧i≤j∧j≤b∧(∀k,a+1≤k→k<i→L (d k) (d a))∧(∀k,j≤k→k<b→L (d a) (d k))∧j-i=m) (n:=b-(a+1)) ?_ ?_
 ·exact⟨a+1,b,aL,aL,aL,aL,aL,fT.refl,hP,A,ac _,hab,ac _,fun k p q=>by omega,fun k p q=>by omega,rfl⟩
 ·rintro m ⟨tm,hp⟩ ⟨i,j,k0,k1,k4,k10,k11,C,hp',A,Lb,hij,Xu,lo,hi,rfl⟩;simp only at k0 k1 k4 k10 k11 C hp' A;have od:=A.old;have lt:=bv.lt A;by_cases c:i<j
  ·have c':(i:Int)<j:=by omega
   have m1:i≤(i+j)/2:=by omega
   have m2:(i+j)/2<j:=by omega
   have bm:=DV (q:= .none) (i:=i) (j:=j);generalize (i+j)/2=g at *
   have l1:=A.ld (i:=g) (by omega);have l2:=A.ld (i:=a) (by omega);have cc:=fun K=>Q.call hp (d g) (d a) K hp' (hv g (by omega)) (hv a (by omega))
   have cr:=cross g (by omega) (by omega);have cl:=Q.lt (d g) (d a) cr;by_cases c2:L (d g) (d a)
   ·have kq:=cl.2 c2;repeat'(with_reducible first|simp(disch:=try exact ab) only[go_sem,seval,k0,k1,k4,k10,k11,c',bm,l1,l2,od,cc,kq]|(apply ai.i<;>intro hc))
    refine⟨_,?_,g+1,j,rfl,rfl,C,hp',A,by omega,by omega,Xu,fun k p q=>?_,hi,rfl⟩
    ·omega
    ·rcases cN (show k≤g by omega)with e'|e'
     ·rw[e'];exact c2
     ·exact Q.tr _ _ _ (sr k g p e' (by omega)) c2
   ·have kq:¬cz (d g) (d a)<0:=fun q=>c2 (cl.1 q)
    have gt:=(Q.gt (d g) (d a) cr).1 c2;repeat'(with_reducible first|simp(disch:=try exact ab) only[go_sem,seval,k0,k1,k4,k10,k11,c',bm,l1,l2,od,cc,kq]|(apply ai.i<;>intro hc))
    refine⟨_,?_,i,g,rfl,rfl,C,hp',A,Lb,m1,by omega,lo,fun k p q=>?_,rfl⟩
    ·omega
    ·rcases cN p with e'|e'
     ·rw[←e'];exact gt
     ·exact Q.tr _ _ _ gt (sr g k (by omega) e' q)
  ·have c':¬(i:Int)<j:=by omega
   obtain rfl:i=j:=by omega
   have fin:=OR Q.tr Lb Xu sr lo hi;repeat'(with_reducible first|simp(disch:=try exact ab) only[go_sem,seval,k0,k1,k4,k10,k11,c']|(apply ai.i<;>intro hc))
   refine Wp.bD (fun m s=>∃(k:Nat),val s.tm (.t 0)= .sl t 0 n 1∧val s.tm (.t 10)= .int .i64 i∧val s.tm (.t 13)= .int .i64 k∧
    fT t h s.hp∧Rw s.hp t n (gN d a (a+1) (k+1))∧a≤k∧k+1≤i∧i-k=m) (n:=i-a) ?_ ?_
   ·exact⟨a,by simp(disch:=try exact ab) only[go_sem,seval,k0],by simp(disch:=try exact ab) only[go_sem,seval,k10],by simp(disch:=try exact ab) only[go_sem,seval,k1],C,A.congr fun k _=>by
     unfold gN;repeat' split
     all_goals first|rfl|omega|(congr 1;omega),ac _,Lb,rfl⟩
   ·clear k0 k1 k4 k10 k11 C hp' A od lt;rintro m ⟨tm,hq⟩ ⟨k,k0,k10,fp,C,A,PV,pp,rfl⟩;simp only at k0 k10 fp C A;have od:=A.old;have lt:=bv.lt A;by_cases c3:k+1<i
    ·have c3':(k:Int)<(i:Int)-1:=by omega
     have g1:gN d a (a+1) (k+1) (k+1)=d (k+1):=by unfold gN;rw[if_neg (by omega),if_neg (by omega)]
     have g2:gN d a (a+1) (k+1) k=d a:=by unfold gN;rw[if_neg (by omega),if_pos (by omega)];congr 1;omega
     have l1:=A.ld (i:=k+1) (by omega);have l2:=A.ld (i:=k) (by omega);rw[g1]at l1;rw[g2]at l2;have ek:((k:Int)+1).toNat=k+1:=by omega
     obtain⟨h1,s1,C1,A1,n1⟩:=A.st (i:=k) (by omega) (d (k+1));obtain⟨h2,s2,C2,A2,n2⟩:=A1.st (i:=k+1) (by omega) (d a);have A3:=A2.congr fun j _=>OX (d:=d) PV j
     repeat'(with_reducible first|simp(disch:=try exact ab) only[go_sem,seval,k0,k10,fp,c3',l1,l2,od,ek,s1,s2]|(apply ai.i<;>intro hc))
     exact⟨_,by omega,k+1,rfl,C.trans (C1.trans C2),A3,by omega,c3,rfl⟩
    ·have c3':¬(k:Int)<(i:Int)-1:=by omega
     have ek:k+1=i:=by omega
     rw[ek]at A;repeat'(with_reducible first|simp(disch:=try exact ab) only[go_sem,seval,k0,k10,fp,c3']|(apply ai.i<;>intro hc))
     exact⟨C,_,A,(Bh (by omega) Lb).mono (ac _) Xu,fin⟩
end
end
end Go.Ae
namespace Go.Ae
open So Bg
noncomputable section
section
variable {h h' hp:Hp}{K:AV→Hp→Prop}{tm:T AV}{n t f:Nat}{d e:Nat→Nat}{caps:List AV}{P:Hp→Prop}{cz:Nat→Nat→Int}{L:Nat→Nat→Prop}
theorem sm2 (Q:JI n f caps t P cz L){a m:Nat}(U2:a+1<m)(hb:m+1≤n)(hn:n≤1000000)(A:Rw h t n d)(hP:P h)(hv:∀k,k<n→d k<n)(sl:Sd L d a m)(cross:∀i,a≤i→i<m→d i<d m):
  ae E2 275 [.sl t 0 n 1,.int .i64 a,.int .i64 m,.int .i64 ((m+1:Nat):Int),.fn f caps] h fun _ h'=>fT t h h'∧∃e,Rw h' t n e∧Pm d e a (m+1)∧Sd L e a (m+1):=by
 refine ae.fn (fn:=C.jR) rfl rfl rfl ?_;unfold C.jR;have e1:¬(m:Int)-a=1:=by omega
 have e2:((m+1:Nat):Int)-m=1:=by omega
 repeat'(with_reducible first|simp(disch:=try exact ab) only[go_sem,seval,e1,e2]|(apply ai.i<;>intro hc))
 refine Wp.bD (fun mm s=>∃(i j:Nat),val s.tm (.t 0)= .sl t 0 n 1∧val s.tm (.t 2)= .int .i64 m∧val s.tm (.t 4)= .fn f caps∧val s.tm (.t 14)= .int .i64 i∧val s.tm (.t 15)= .int .i64 j∧
  fT t h s.hp∧P s.hp∧Rw s.hp t n d∧a≤i∧i≤j∧j≤m∧(∀k,a≤k→k<i→L (d k) (d m))∧(∀k,j≤k→k<m→L (d m) (d k))∧j-i=mm) (n:=m-a) ?_ ?_
 ·exact⟨a,m,aL,aL,aL,aL,aL,fT.refl,hP,A,ac _,by omega,ac _,fun k p q=>by omega,fun k p q=>by omega,rfl⟩
 ·rintro mm ⟨tm,hp⟩ ⟨i,j,k0,k2,k4,eA,qE,C,hp',A,Lb,hij,UR,lo,hi,rfl⟩;simp only at k0 k2 k4 eA qE C hp' A;have od:=A.old;have lt:=bv.lt A;by_cases c:i<j
  ·have c':(i:Int)<j:=by omega
   have m1:i≤(i+j)/2:=by omega
   have m2:(i+j)/2<j:=by omega
   have bm:=DV (q:= .none) (i:=i) (j:=j);generalize (i+j)/2=g at *
   have l1:=A.ld (i:=g) (by omega);have l2:=A.ld (i:=m) (by omega);have cc:=fun K=>Q.call hp (d m) (d g) K hp' (hv m (by omega)) (hv g (by omega))
   have cr:=cross g (by omega) (by omega);have cl:=Q.lt (d m) (d g) cr;by_cases c2:L (d m) (d g)
   ·have kq:=cl.2 c2;repeat'(with_reducible first|simp(disch:=try exact ab) only[go_sem,seval,k0,k2,k4,eA,qE,c',bm,l1,l2,od,cc,kq]|(apply ai.i<;>intro hc))
    refine⟨_,?_,i,g,rfl,rfl,C,hp',A,Lb,m1,by omega,lo,fun k p q=>?_,rfl⟩
    ·omega
    ·rcases cN p with e'|e'
     ·rw[←e'];exact c2
     ·exact Q.tr _ _ _ c2 (sl g k (by omega) e' q)
   ·have kq:¬cz (d m) (d g)<0:=fun q=>c2 (cl.1 q)
    have gt:=(Q.gt (d m) (d g) cr).1 c2;repeat'(with_reducible first|simp(disch:=try exact ab) only[go_sem,seval,k0,k2,k4,eA,qE,c',bm,l1,l2,od,cc,kq]|(apply ai.i<;>intro hc))
    refine⟨_,?_,g+1,j,rfl,rfl,C,hp',A,by omega,by omega,UR,fun k p q=>?_,hi,rfl⟩
    ·omega
    ·rcases cN (show k≤g by omega)with e'|e'
     ·rw[e'];exact gt
     ·exact Q.tr _ _ _ (sl k g p e' (by omega)) gt
  ·have c':¬(i:Int)<j:=by omega
   obtain rfl:i=j:=by omega
   have fin:=OQ Q.tr Lb UR sl lo hi;repeat'(with_reducible first|simp(disch:=try exact ab) only[go_sem,seval,k0,k2,k4,eA,qE,c']|(apply ai.i<;>intro hc))
   refine Wp.bD (fun mm s=>∃(k:Nat),val s.tm (.t 0)= .sl t 0 n 1∧val s.tm (.t 14)= .int .i64 i∧val s.tm (.t 17)= .int .i64 k∧
    fT t h s.hp∧Rw s.hp t n (gN d k m (m+1))∧i≤k∧k≤m∧k-i=mm) (n:=m-i) ?_ ?_
   ·exact⟨m,by simp(disch:=try exact ab) only[go_sem,seval,k0],by simp(disch:=try exact ab) only[go_sem,seval,eA],by simp(disch:=try exact ab) only[go_sem,seval,k2],C,A.congr fun k _=>by
     unfold gN;repeat' split
     all_goals first|rfl|omega|(congr 1;omega),UR,ac _,rfl⟩
   ·clear k0 k2 k4 eA qE C hp' A od lt;rintro mm ⟨tm,hq⟩ ⟨k,k0,eA,ve,C,A,UU,hkm,rfl⟩;simp only at k0 eA ve C A;have od:=A.old;have lt:=bv.lt A;by_cases c3:i<k
    ·have c3':(i:Int)<(k:Int):=by omega
     have g1:gN d k m (m+1) (k-1)=d (k-1):=by unfold gN;rw[if_neg (by omega),if_neg (by omega)]
     have g2:gN d k m (m+1) k=d m:=by unfold gN;rw[if_pos (by omega)];congr 1;omega
     have l1:=A.ld (i:=k-1) (by omega);have l2:=A.ld (i:=k) (by omega);rw[g1]at l1;rw[g2]at l2;have ek:((k:Int)-1).toNat=k-1:=by omega
     obtain⟨h1,s1,C1,A1,n1⟩:=A.st (i:=k) (by omega) (d (k-1));obtain⟨h2,s2,C2,A2,n2⟩:=A1.st (i:=k-1) (by omega) (d m);have A3:=A2.congr fun j _=>OY (d:=d) hkm (by omega) j
     repeat'(with_reducible first|simp(disch:=try exact ab) only[go_sem,seval,k0,eA,ve,c3',l1,l2,od,ek,s1,s2]|(apply ai.i<;>intro hc))
     refine⟨_,?_,k-1,?_,C.trans (C1.trans C2),A3,by omega,by omega,rfl⟩
     ·omega
     ·congr 1;omega
    ·have c3':¬(i:Int)<(k:Int):=by omega
     obtain rfl:k=i:=by omega
     repeat'(with_reducible first|simp(disch:=try exact ab) only[go_sem,seval,k0,eA,ve,c3']|(apply ai.i<;>intro hc))
     exact⟨C,_,A,(Bh UR (by omega)).mono Lb (ac _),fin⟩
def Cy (t n:Nat)(L:Nat→Nat→Prop)(d:Nat→Nat)(a b:Nat)(h:Hp)(_:AV)(h':Hp):Prop:=fT t h h'∧∃e,Rw h' t n e∧Pm d e a b∧Sd L e a b
def Fu (P:Hp→Prop)(f:Nat)(caps:List AV)(t n:Nat)(L:Nat→Nat→Prop)(N:Nat):Prop:=∀(a m b:Nat) (d:Nat→Nat) (h:Hp),b-a<N→a<m→m<b→b≤n→Rw h t n d→P h→(∀k,k<n→d k<n)→Sd L d a m→Sd L d m b→(∀i j,a≤i→i<m→m≤j→j<b→d i<d j)→
 ae E2 275 [.sl t 0 n 1,.int .i64 a,.int .i64 m,.int .i64 b,.fn f caps] h (Cy t n L d a b h)
theorem VH {a mid en b:Nat}{e f1:Nat→Nat}(IH:Fu P f caps t n L (b-a))(hn:n≤1000000)(hb:b≤n)(h1:a<mid)(h2:mid≤en)(h3:en≤b)(k0:val tm (.t 0)= .sl t 0 n 1)(k3:val tm (.t 3)= .int .i64 b)(k4:val tm (.t 4)= .fn f caps)(kQ:val tm (.t 18)= .int .i64 mid)(uf:val tm (.t 24)= .int .i64 en)
  (C0:fT t h hp) (hP:P hp) (A:Rw hp t n f1) (hv:∀k,k<n→f1 k<n) (pd:Pm d e a b) (pm:Pm e f1 a mid) (s1:Sd L f1 a mid) (s2:Sd L e mid en) (s3:Sd L e en b) (cross:∀i j,mid≤i→i<en→en≤j→j<b→e i<e j) (cl:∀i j,a≤i→i<mid→mid≤j→j<b→L (e i) (e j)):
  Wp E2 (C.jR.code.post 11) ⟨tm,hp⟩ (eT [] (Cy t n L d a b h)):=by
 unfold C.jR;dsimp only[ap.post];have PH:mid≤b:=by omega
 have same:∀k,mid≤k→k<b→f1 k=e k:=fun k p q=>pm.out k (by omega)
 by_cases c:mid<en∧en<b
 ·have c1:(mid:Int)<en:=by omega
  have c2:(en:Int)<b:=by omega
  repeat'(with_reducible first|simp(disch:=try exact ab) only[go_sem,seval,k0,k3,k4,kQ,uf,c1,c2]|(apply ai.i<;>intro hc))
  refine ae.mono (IH mid en b f1 hp (by omega) c.1 c.2 hb A hP hv (s2.congr fun k p q=>same k p (by omega)) (s3.congr fun k p q=>same k (by omega) q) (fun i j p q r s=>by rw[same i p (by omega),same j (by omega) s];exact cross i j p q r s)) fun v h2' ⟨C2,g,A2,p2,sg⟩=>?_
  repeat'(with_reducible first|simp(disch:=try exact ab) only[go_sem,seval]|(apply ai.i<;>intro hc))
  have pall:=(pm.mono (ac _) PH).trans (p2.mono (yr h1) (ac _));refine⟨C0.trans C2,g,A2,pd.trans pall,join (mid:=mid) (e:=e) (s1.congr fun k p q=>p2.out k (by omega)) sg pall (fun k p q=>?_) (fun k p q=>?_) cl⟩
  ·rw[p2.out k (by omega)];exact pm.fw k p q
  ·obtain⟨k',a1,a2,a3⟩:=p2.fw k p q;exact⟨k',a1,a2,by rw[a3,same k' a1 a2]⟩
 ·have pall:=pm.mono (ac _) PH
  have sfin:Sd L f1 mid b:=by
   by_cases c3:mid<en
   ·have:en=b:=by omega
    subst this;exact s2.congr fun k p q=>same k p q
   ·have:mid=en:=by omega
    subst this;exact s3.congr fun k p q=>same k p q
  have fin:Cy t n L d a b h (.gk []) hp:=⟨C0,f1,A,pd.trans pall,join (mid:=mid) (e:=e) s1 sfin pall pm.fw (fun k p q=>⟨k,p,q,same k p q⟩) cl⟩
  by_cases c1:mid<en
  ·have c1':(mid:Int)<en:=by omega
   have kq:¬(en:Int)<b:=by omega
   repeat'(with_reducible first|simp(disch:=try exact ab) only[go_sem,seval,k0,k3,k4,kQ,uf,c1',kq]|(apply ai.i<;>intro hc))
   exact fin
  ·have c1':¬(mid:Int)<en:=by omega
   repeat'(with_reducible first|simp(disch:=try exact ab) only[go_sem,seval,k0,k3,k4,kQ,uf,c1']|(apply ai.i<;>intro hc))
   exact fin
end
end
end Go.Ae
namespace Go.Ae
open So Bg
noncomputable section
section
variable {h h' hp:Hp}{K:AV→Hp→Prop}{tm:T AV}{n t f:Nat}{d e:Nat→Nat}{caps:List AV}{P:Hp→Prop}{cz:Nat→Nat→Int}{L:Nat→Nat→Prop}
theorem So.Pm.val {d e:Nat→Nat}{a b:Nat}(p:Pm d e a b)(hb:b≤n)(hv:∀k,k<n→d k<n):∀k,k<n→e k<n:=fun k hk=>by
 by_cases c:a≤k∧k<b
 ·obtain⟨k',q1,q2,q3⟩:=p.fw k c.1 c.2;rw[q3];exact hv k' (by omega)
 ·rw[p.out k c];exact hv k hk
theorem VI {a m st mid en b:Nat}{e:Nat→Nat}(hst:∀h h',P h→fT t h h'→P h')(IH:Fu P f caps t n L (b-a))(hn:n≤1000000)(hb:b≤n)(h0:a≤st)(h1:st≤mid)(h1':a<mid)(h2:mid≤en)(h3:en≤b)(h4:mid<b)(k0:val tm (.t 0)= .sl t 0 n 1)(k1:val tm (.t 1)= .int .i64 a)(k3:val tm (.t 3)= .int .i64 b)(k4:val tm (.t 4)= .fn f caps)(kQ:val tm (.t 18)= .int .i64 mid)(mI:val tm (.t 20)= .int .i64 st)(uf:val tm (.t 24)= .int .i64 en)
  (C0:fT t h hp) (hP:P hp) (A:Rw hp t n e) (hv:∀k,k<n→e k<n) (pd:Pm d e a b) (s0:Sd L e a st) (s1:Sd L e st mid) (s2:Sd L e mid en) (s3:Sd L e en b) (X6:∀i j,a≤i→i<st→st≤j→j<mid→e i<e j) (X5:∀i j,mid≤i→i<en→en≤j→j<b→e i<e j) (cl:∀i j,a≤i→i<mid→mid≤j→j<b→L (e i) (e j)):
  Wp E2 (C.jR.code.post 10) ⟨tm,hp⟩ (eT [] (Cy t n L d a b h)):=by
 have tail:=fun tm hp f1 k0 k3 k4 kQ uf C0 hP A hv pm s1=>VH (tm:=tm) (hp:=hp) (f1:=f1) (e:=e) (d:=d) (h:=h) IH hn hb h1' h2 h3 k0 k3 k4 kQ uf C0 hP A hv pd pm s1 s2 s3 X5 cl
 refine Wp.cut 1 rfl ?_;rw[show ap.post 1 (ap.post 10 C.jR.code)=ap.post 11 C.jR.code from rfl];generalize ap.post 11 C.jR.code=rest at tail⊢
 unfold C.jR;dsimp only[ap.post,ap.pre];by_cases c:a<st∧st<mid
 ·have c1:(a:Int)<st:=by omega
  have c2:(st:Int)<mid:=by omega
  repeat'(with_reducible first|simp(disch:=try exact ab) only[go_sem,seval,k0,k1,k3,k4,kQ,mI,uf,c1,c2]|(apply ai.i<;>intro hc))
  refine ae.mono (IH a st mid e hp (by omega) c.1 c.2 (by omega) A hP hv s0 s1 X6) fun v h2' ⟨C2,g,A2,p2,sg⟩=>?_
  repeat'(with_reducible first|simp(disch:=try exact ab) only[go_sem,seval]|(apply ai.i<;>intro hc))
  exact tail _ _ g (by simp(disch:=try exact ab) only[go_sem,seval,k0]) (by simp(disch:=try exact ab) only[go_sem,seval,k3]) (by simp(disch:=try exact ab) only[go_sem,seval,k4]) (by simp(disch:=try exact ab) only[go_sem,seval,kQ]) (by simp(disch:=try exact ab) only[go_sem,seval,uf]) (C0.trans C2) (hst _ _ hP C2) A2 (p2.val (by omega) hv) p2 sg
 ·have sa:Sd L e a mid:=by
   by_cases c3:a<st
   ·have:st=mid:=by omega
    subst this;exact s0
   ·have:st=a:=by omega
    subst this;exact s1
  by_cases c1:a<st
  ·have c1':(a:Int)<st:=by omega
   have kq:¬(st:Int)<mid:=by omega
   repeat'(with_reducible first|simp(disch:=try exact ab) only[go_sem,seval,k0,k1,k3,k4,kQ,mI,uf,c1',kq]|(apply ai.i<;>intro hc))
   exact tail _ _ e (by simp(disch:=try exact ab) only[go_sem,seval,k0]) (by simp(disch:=try exact ab) only[go_sem,seval,k3]) (by simp(disch:=try exact ab) only[go_sem,seval,k4]) (by simp(disch:=try exact ab) only[go_sem,seval,kQ]) (by simp(disch:=try exact ab) only[go_sem,seval,uf]) C0 hP A hv (Pm.refl _ _ _) sa
  ·have c1':¬(a:Int)<st:=by omega
   repeat'(with_reducible first|simp(disch:=try exact ab) only[go_sem,seval,k0,k1,k3,k4,kQ,mI,uf,c1']|(apply ai.i<;>intro hc))
   exact tail _ _ e (by simp(disch:=try exact ab) only[go_sem,seval,k0]) (by simp(disch:=try exact ab) only[go_sem,seval,k3]) (by simp(disch:=try exact ab) only[go_sem,seval,k4]) (by simp(disch:=try exact ab) only[go_sem,seval,kQ]) (by simp(disch:=try exact ab) only[go_sem,seval,uf]) C0 hP A hv (Pm.refl _ _ _) sa
theorem VJ {a m st mid en b:Nat}(hst:∀h h',P h→fT t h h'→P h')(IH:Fu P f caps t n L (b-a))(tr:∀x y z,L x y→L y z→L x z)(hn:n≤1000000)(hb:b≤n)(h0:a≤st)(g1:st≤m)(g2:m≤en)(hs:st+en=mid+m)(h1:st≤mid)(h1':a<mid)(h2:mid≤en)(h3:en≤b)(h4:mid<b)(k0:val tm (.t 0)= .sl t 0 n 1)(k1:val tm (.t 1)= .int .i64 a)(k2:val tm (.t 2)= .int .i64 m)(k3:val tm (.t 3)= .int .i64 b)(k4:val tm (.t 4)= .fn f caps)(kQ:val tm (.t 18)= .int .i64 mid)(mI:val tm (.t 20)= .int .i64 st)(uf:val tm (.t 24)= .int .i64 en)
  (C0:fT t h hp) (hP:P hp) (A:Rw hp t n d) (hv:∀k,k<n→d k<n) (sl:Sd L d a m) (sr:Sd L d m b) (cross:∀i j,a≤i→i<m→m≤j→j<b→d i<d j)
  (c1:st=a∨en=b∨L (d (st-1)) (d en)) (c2:st=m∨en=m∨L (d (en-1)) (d st)):
  Wp E2 (C.jR.code.post 9) ⟨tm,hp⟩ (eT [] (Cy t n L d a b h)):=by
 obtain⟨p0,p1,p2,p3,p4⟩:=split tr h0 g1 g2 h3 hs sl sr c1 c2;have pm:Pm d (gN d st m en) a b:=(Bh g1 g2).mono h0 h3;have v1:∀i,i<st→gN d st m en i=d i:=fun i h=>by unfold gN;rw[if_neg (by omega),if_neg (by omega)]
 have v2:∀i,st≤i→i<mid→gN d st m en i=d (i+(m-st)):=fun i h h'=>by unfold gN;rw[if_pos ⟨h,by omega⟩]
 have v3:∀i,mid≤i→i<en→gN d st m en i=d (i-(en-m)):=fun i h h'=>by unfold gN;rw[if_neg (by omega),if_pos ⟨by omega,h'⟩]
 have v4:∀i,en≤i→gN d st m en i=d i:=fun i h=>by unfold gN;rw[if_neg (by omega),if_neg (by omega)]
 have X6:∀i j,a≤i→i<st→st≤j→j<mid→gN d st m en i<gN d st m en j:=fun i j q1 q2 q3 q4=>by
  rw[v1 i q2,v2 j q3 q4];exact cross _ _ q1 (by omega) (by omega) (by omega)
 have X5:∀i j,mid≤i→i<en→en≤j→j<b→gN d st m en i<gN d st m en j:=fun i j q1 q2 q3 q4=>by
  rw[v3 i q1 q2,v4 j q3];exact cross _ _ (by omega) (by omega) (by omega) q4
 have tail:=fun tm hp k0 k1 k3 k4 kQ mI uf C0 hP A=>VI (m:=m) (tm:=tm) (hp:=hp) (d:=d) (e:=gN d st m en) (h:=h) hst IH hn hb h0 h1 h1' h2 h3 h4 k0 k1 k3 k4 kQ mI uf C0 hP A (pm.val hb hv) pm p0 p1 p2 p3 X6 X5 p4
 refine Wp.cut 1 rfl ?_;rw[show ap.post 1 (ap.post 9 C.jR.code)=ap.post 10 C.jR.code from rfl];generalize ap.post 10 C.jR.code=rest at tail⊢
 unfold C.jR;dsimp only[ap.post,ap.pre];by_cases c:st<m∧m<en
 ·have d1:(st:Int)<m:=by omega
  have d2:(m:Int)<en:=by omega
  repeat'(with_reducible first|simp(disch:=try exact ab) only[go_sem,seval,k0,k1,k2,k3,k4,kQ,mI,uf,d1,d2]|(apply ai.i<;>intro hc))
  refine ae.mono (X8 A c.1 c.2 (by omega) hn) fun v h2' ⟨C2,A2⟩=>?_
  repeat'(with_reducible first|simp(disch:=try exact ab) only[go_sem,seval]|(apply ai.i<;>intro hc))
  exact tail _ _ (by simp(disch:=try exact ab) only[go_sem,seval,k0]) (by simp(disch:=try exact ab) only[go_sem,seval,k1]) (by simp(disch:=try exact ab) only[go_sem,seval,k3]) (by simp(disch:=try exact ab) only[go_sem,seval,k4]) (by simp(disch:=try exact ab) only[go_sem,seval,kQ]) (by simp(disch:=try exact ab) only[go_sem,seval,mI]) (by simp(disch:=try exact ab) only[go_sem,seval,uf]) (C0.trans C2) (hst _ _ hP C2) A2
 ·have A':Rw hp t n (gN d st m en):=A.congr fun k _=>by
   unfold gN;by_cases c3:st<m
   ·have:en=m:=by omega
    subst this;rw[if_neg (by omega)];split
    ·congr 1;omega
    ·rfl
   ·have:st=m:=by omega
    subst this;split
    ·congr 1;omega
    ·rw[if_neg (by omega)]
  by_cases c1:st<m
  ·have d1:(st:Int)<m:=by omega
   have d2:¬(m:Int)<en:=by omega
   repeat'(with_reducible first|simp(disch:=try exact ab) only[go_sem,seval,k0,k1,k2,k3,k4,kQ,mI,uf,d1,d2]|(apply ai.i<;>intro hc))
   exact tail _ _ (by simp(disch:=try exact ab) only[go_sem,seval,k0]) (by simp(disch:=try exact ab) only[go_sem,seval,k1]) (by simp(disch:=try exact ab) only[go_sem,seval,k3]) (by simp(disch:=try exact ab) only[go_sem,seval,k4]) (by simp(disch:=try exact ab) only[go_sem,seval,kQ]) (by simp(disch:=try exact ab) only[go_sem,seval,mI]) (by simp(disch:=try exact ab) only[go_sem,seval,uf]) C0 hP A'
  ·have d1:¬(st:Int)<m:=by omega
   repeat'(with_reducible first|simp(disch:=try exact ab) only[go_sem,seval,k0,k1,k2,k3,k4,kQ,mI,uf,d1]|(apply ai.i<;>intro hc))
   exact tail _ _ (by simp(disch:=try exact ab) only[go_sem,seval,k0]) (by simp(disch:=try exact ab) only[go_sem,seval,k1]) (by simp(disch:=try exact ab) only[go_sem,seval,k3]) (by simp(disch:=try exact ab) only[go_sem,seval,k4]) (by simp(disch:=try exact ab) only[go_sem,seval,kQ]) (by simp(disch:=try exact ab) only[go_sem,seval,mI]) (by simp(disch:=try exact ab) only[go_sem,seval,uf]) C0 hP A'
theorem VG (Q:JI n f caps t P cz L){a m b mid s0 r0:Nat}(IH:Fu P f caps t n L (b-a))(h1:a+1<m)(h2:m+1<b)(hb:b≤n)(hn:n≤1000000)(BN:a<mid)(Xo:mid<b)(hsa:a≤s0)(W5:s0≤r0)(H6:r0≤m)(NM:r0≤mid)(hsb:mid+m≤b+s0)(wo:(s0=a∧r0=m)∨(s0+b=mid+m∧r0=mid))
  (k0:val tm (.t 0)= .sl t 0 n 1) (k1:val tm (.t 1)= .int .i64 a) (k2:val tm (.t 2)= .int .i64 m) (k3:val tm (.t 3)= .int .i64 b) (k4:val tm (.t 4)= .fn f caps) (kQ:val tm (.t 18)= .int .i64 mid) (HS:val tm (.t 19)= .int .i64 ((mid:Int)+m)) (mI:val tm (.t 20)= .int .i64 s0) (ug:val tm (.t 21)= .int .i64 r0) (BC:val tm (.t 22)= .int .i64 ((mid:Int)+m-1))
  (A:Rw h t n d) (hP:P h) (hv:∀k,k<n→d k<n) (sl:Sd L d a m) (sr:Sd L d m b) (cross:∀i j,a≤i→i<m→m≤j→j<b→d i<d j):
  Wp E2 (C.jR.code.post 7) ⟨tm,h⟩ (eT [] (Cy t n L d a b h)):=by
 have tail:=fun tm hp st en g1 g2 hs h1 h2 h3 k0 k1 k2 k3 k4 kQ mI uf C0 hP A c1 c2 h0=>VJ (tm:=tm) (hp:=hp) (d:=d) (h:=h) (st:=st) (en:=en) (mid:=mid) Q.st IH Q.tr hn hb h0 g1 g2 hs h1 BN h2 h3 Xo k0 k1 k2 k3 k4 kQ mI uf C0 hP A hv sl sr cross c1 c2
 refine Wp.cut 2 rfl ?_;rw[show ap.post 2 (ap.post 7 C.jR.code)=ap.post 9 C.jR.code from rfl];generalize ap.post 9 C.jR.code=rest at tail⊢
 unfold C.jR;dsimp only[ap.post,ap.pre];repeat'(with_reducible first|simp(disch:=try exact ab) only[go_sem,seval]|(apply ai.i<;>intro hc))
 refine Wp.bD (fun mm s=>∃(i j:Nat),val s.tm (.t 0)= .sl t 0 n 1∧val s.tm (.t 1)= .int .i64 a∧val s.tm (.t 2)= .int .i64 m∧val s.tm (.t 3)= .int .i64 b∧val s.tm (.t 4)= .fn f caps∧val s.tm (.t 18)= .int .i64 mid∧val s.tm (.t 19)= .int .i64 ((mid:Int)+m)∧val s.tm (.t 22)= .int .i64 ((mid:Int)+m-1)∧val s.tm (.t 20)= .int .i64 i∧val s.tm (.t 21)= .int .i64 j∧
  fT t h s.hp∧P s.hp∧Rw s.hp t n d∧s0≤i∧i≤j∧j≤r0∧(∀c,s0≤c→c<i→L (d c) (d (mid+m-1-c)))∧(∀c,j≤c→c<r0→L (d (mid+m-1-c)) (d c))∧j-i=mm) (n:=r0-s0) ?_ ?_
 ·exact⟨s0,r0,k0,k1,k2,k3,k4,kQ,HS,BC,mI,ug,fT.refl,hP,A,ac _,W5,ac _,fun k p q=>by omega,fun k p q=>by omega,rfl⟩
 ·clear k0 k1 k2 k3 k4 kQ HS mI ug BC A hP;rintro mm ⟨tm,hp⟩ ⟨i,j,k0,k1,k2,k3,k4,kQ,HS,BC,mI,ug,C0,hp',A,hsi,hij,hjr,lo,hi,rfl⟩;simp only at k0 k1 k2 k3 k4 kQ HS BC mI ug C0 hp' A;have od:=A.old;have lt:=bv.lt A;by_cases c:i<j
  ·have c':(i:Int)<j:=by omega
   have m1:i≤(i+j)/2:=by omega
   have m2:(i+j)/2<j:=by omega
   have bm:=DV (q:= .none) (i:=i) (j:=j);generalize (i+j)/2=g at *
   have eg:((mid:Int)+m-1-g).toNat=mid+m-1-g:=by omega
   have q1:m≤mid+m-1-g:=by omega
   have q2:mid+m-1-g<b:=by omega
   have q3:(0:Int)≤(mid:Int)+m-1-g∧(mid:Int)+m-1-g<n:=by omega
   have l1:=A.ld (i:=mid+m-1-g) (by omega);have l2:=A.ld (i:=g) (by omega);have cc:=fun K=>Q.call hp (d (mid+m-1-g)) (d g) K hp' (hv _ (by omega)) (hv g (by omega))
   have cr:=cross g (mid+m-1-g) (by omega) (by omega) q1 q2;have cl:=Q.lt (d (mid+m-1-g)) (d g) cr;by_cases c2:L (d (mid+m-1-g)) (d g)
   ·have kq:=cl.2 c2
    have hi':∀c,g≤c→c<r0→L (d (mid+m-1-c)) (d c):=fun k p q=>by
     rcases cN p with e'|e'
     ·rw[←e'];exact c2
     ·exact Q.tr _ _ _ (sr _ _ (by omega) (show mid+m-1-k<mid+m-1-g by omega) q2) (Q.tr _ _ _ c2 (sl g k (by omega) e' (by omega)))
    generalize d (mid+m-1-g)=dp at *
    repeat'(with_reducible first|simp(disch:=try exact ab) only[go_sem,seval,k0,k1,k2,k3,k4,kQ,HS,BC,mI,ug,c',bm,eg,l1,l2,od,cc,kq]|(apply ai.i<;>intro hc))
    refine⟨_,?_,i,g,rfl,rfl,C0,hp',A,hsi,m1,by omega,lo,hi',rfl⟩;omega
   ·have kq:¬cz (d (mid+m-1-g)) (d g)<0:=fun q=>c2 (cl.1 q)
    have gt:=(Q.gt (d (mid+m-1-g)) (d g) cr).1 c2
    have FE:∀c,s0≤c→c<g+1→L (d c) (d (mid+m-1-c)):=fun k p q=>by
     rcases cN (show k≤g by omega)with e'|e'
     ·rw[e'];exact gt
     ·exact Q.tr _ _ _ (sl k g (by omega) e' (by omega)) (Q.tr _ _ _ gt (sr _ _ q1 (show mid+m-1-g<mid+m-1-k by omega) (by omega)))
    generalize d (mid+m-1-g)=dp at *
    repeat'(with_reducible first|simp(disch:=try exact ab) only[go_sem,seval,k0,k1,k2,k3,k4,kQ,HS,BC,mI,ug,c',bm,eg,l1,l2,od,cc,kq]|(apply ai.i<;>intro hc))
    refine⟨_,?_,g+1,j,rfl,rfl,C0,hp',A,by omega,by omega,hjr,FE,hi,rfl⟩;omega
  ·have c':¬(i:Int)<j:=by omega
   obtain rfl:i=j:=by omega
   have en:(mid:Int)+m-i=((mid+m-i:Nat):Int):=by omega
   have f1:i=a∨mid+m-i=b∨L (d (i-1)) (d (mid+m-i)):=by
    by_cases c3:i=s0
    ·rcases wo with⟨e1,_⟩|⟨e1,_⟩
     ·exact .inl (by omega)
     ·exact .inr (.inl (by omega))
    ·refine .inr (.inr ?_);have:=lo (i-1) (by omega) (by omega);rwa[show mid+m-1-(i-1)=mid+m-i by omega]at this
   have f2:i=m∨mid+m-i=m∨L (d (mid+m-i-1)) (d i):=by
    by_cases c3:i=r0
    ·rcases wo with⟨_,e1⟩|⟨_,e1⟩
     ·exact .inl (by omega)
     ·exact .inr (.inl (by omega))
    ·refine .inr (.inr ?_);have:=hi i (ac _) (by omega);rwa[show mid+m-1-i=mid+m-i-1 by omega]at this
   repeat'(with_reducible first|simp(disch:=try exact ab) only[go_sem,seval,k0,k1,k2,k3,k4,kQ,HS,BC,mI,ug,c',en]|(apply ai.i<;>intro hc))
   exact tail _ _ i (mid+m-i) (by omega) (by omega) (by omega) (by omega) (by omega) (by omega) (by simp(disch:=try exact ab) only[go_sem,seval,k0]) (by simp(disch:=try exact ab) only[go_sem,seval,k1]) (by simp(disch:=try exact ab) only[go_sem,seval,k2]) (by simp(disch:=try exact ab) only[go_sem,seval,k3]) (by simp(disch:=try exact ab) only[go_sem,seval,k4]) (by simp(disch:=try exact ab) only[go_sem,seval,kQ]) (by simp(disch:=try exact ab) only[go_sem,seval,mI]) aL C0 hp' A f1 f2 (by omega)
theorem sm3 (Q:JI n f caps t P cz L){a m b:Nat}(IH:Fu P f caps t n L (b-a))(h1:a+1<m)(h2:m+1<b)(hb:b≤n)(hn:n≤1000000)(A:Rw h t n d)(hP:P h)(hv:∀k,k<n→d k<n)(sl:Sd L d a m)(sr:Sd L d m b)(cross:∀i j,a≤i→i<m→m≤j→j<b→d i<d j):
  ae E2 275 [.sl t 0 n 1,.int .i64 a,.int .i64 m,.int .i64 b,.fn f caps] h (Cy t n L d a b h):=by
 refine ae.fn (fn:=C.jR) rfl rfl rfl ?_;have e1:¬(m:Int)-a=1:=by omega
 have e2:¬(b:Int)-m=1:=by omega
 have bm:=DV (q:= .none) (i:=a) (j:=b);obtain⟨mid,Xm⟩:∃mid,(a+b)/2=mid:=⟨_,rfl⟩
 rw[Xm]at bm;have BN:a<mid:=by omega
 have Xo:mid<b:=by omega
 have q1:2*mid+1≥a+b:=by omega
 have q2:2*mid≤a+b:=by omega
 have tail:=fun tm s0 r0 hsa W5 H6 NM hsb wo k0 k1 k2 k3 k4 kQ HS mI ug BC=>VG (tm:=tm) (h:=h) (d:=d) (s0:=s0) (r0:=r0) (mid:=mid) Q IH h1 h2 hb hn BN Xo hsa W5 H6 NM hsb wo k0 k1 k2 k3 k4 kQ HS mI ug BC A hP hv sl sr cross
 refine Wp.cut 7 rfl ?_;generalize ap.post 7 C.jR.code=rest at tail⊢
 unfold C.jR;dsimp only[ap.pre];by_cases c:mid<m
 ·have c':(mid:Int)<m:=by omega
  have es:(mid:Int)+m-b=((mid+m-b:Nat):Int):=by omega
  repeat'(with_reducible first|simp(disch:=try exact ab) only[go_sem,seval,e1,e2,bm,c',es]|(apply ai.i<;>intro hc))
  exact tail _ (mid+m-b) mid (by omega) (by omega) (by omega) (by omega) (by omega) (.inr ⟨by omega,rfl⟩) aL aL aL aL aL aL aL aL aL aL
 ·have c':¬(mid:Int)<m:=by omega
  repeat'(with_reducible first|simp(disch:=try exact ab) only[go_sem,seval,e1,e2,bm,c']|(apply ai.i<;>intro hc))
  exact tail _ a m (by omega) (by omega) (by omega) (by omega) (by omega) (.inl ⟨rfl,rfl⟩) aL aL aL aL aL aL aL aL aL aL
theorem TQ (Q:JI n f caps t P cz L)(hn:n≤1000000):∀N,Fu P f caps t n L N
 |0=>fun a m b d h h0=>absurd h0 (gz _)
 | N + 1=>fun a m b d h h0 U2 PH hb A hP hv sl sr cross=>by
  by_cases c1:m=a+1
  ·subst c1;exact sm1 Q (yr PH) hb hn A hP hv sr (fun j p q=>cross a j (ac _) (by omega) p q)
  ·by_cases c2:b=m+1
   ·subst c2;exact sm2 Q (by omega) hb hn A hP hv sl (fun i p q=>cross i m p q (ac _) (by omega))
   ·refine sm3 Q (fun a' m' b' d' h' q=>TQ Q hn N a' m' b' d' h' (by omega)) (by omega) (by omega) hb hn A hP hv sl sr cross
end
end
end Go.Ae
namespace Go.Ae
open So Bg
noncomputable section
def Gd (L:Nat→Nat→Prop)(e:Nat→Nat)(a b:Nat):Prop:=Sd L e a b∧(∀i,a≤i→i<b→a≤e i∧e i<b)∧∀v,a≤v→v<b→∃i,a≤i∧i<b∧e i=v
def Ch (L:Nat→Nat→Prop)(e:Nat→Nat)(s a n:Nat):Prop:=∀k,a+k*s<n→Gd L e (a+k*s) (min (a+k*s+s) n)
def Dn (L:Nat→Nat→Prop)(e:Nat→Nat)(s a:Nat):Prop:=∀k,k*s+s≤a→Gd L e (k*s) (k*s+s)
section
variable {h h' hp:Hp}{K:AV→Hp→Prop}{tm:T AV}{n t f s a b m q:Nat}{d e e':Nat→Nat}{caps:List AV}{P:Hp→Prop}{cz:Nat→Nat→Int}{L:Nat→Nat→Prop}
theorem Gd.same (g:Gd L e a b)(h:∀k,a≤k→k<b→e' k=e k):Gd L e' a b:=by
 obtain⟨g1,g2,g3⟩:=g;refine⟨g1.congr h,fun i p q=>by rw[h i p q];exact g2 i p q,fun v p q=>?_⟩;obtain⟨i,a1,a2,a3⟩:=g3 v p q;exact⟨i,a1,a2,by rw[h i a1 a2];exact a3⟩
theorem Gd.merge (g1:Gd L e a m)(g2:Gd L e m b)(h1:a≤m)(h2:m≤b)(p:Pm e e' a b)(s:Sd L e' a b):Gd L e' a b:=by
 have val:∀i,a≤i→i<b→a≤e i∧e i<b:=fun i p q=>by
  by_cases c:i<m
  ·have:=g1.2.1 i p c;omega
  ·have:=g2.2.1 i (by omega) q;omega
 refine⟨s,fun i q1 q2=>?_,fun v q1 q2=>?_⟩
 ·obtain⟨k',a1,a2,a3⟩:=p.fw i q1 q2;rw[a3];exact val k' a1 a2
 ·obtain⟨i,a1,a2,a3⟩:∃i,a≤i∧i<b∧e i=v:=by
   by_cases c:v<m
   ·obtain⟨i,a1,a2,a3⟩:=g1.2.2 v q1 c;exact⟨i,a1,by omega,a3⟩
   ·obtain⟨i,a1,a2,a3⟩:=g2.2.2 v (by omega) q2;exact⟨i,by omega,a2,a3⟩
  obtain⟨k',b1,b2,b3⟩:=p.bw i a1 a2;exact⟨k',b1,b2,b3.symm.trans a3⟩
theorem Gd.Nu (h:∀k,a≤k→k<b→e k=k)(p:Pm e e' a b)(s:Sd L e' a b):Gd L e' a b:=by
 refine⟨s,fun i q1 q2=>?_,fun v q1 q2=>?_⟩
 ·obtain⟨k',a1,a2,a3⟩:=p.fw i q1 q2;rw[a3,h k' a1 a2];exact⟨a1,a2⟩
 ·obtain⟨k',b1,b2,b3⟩:=p.bw v q1 q2;exact⟨k',b1,b2,b3.symm.trans (h v q1 q2)⟩
theorem Dn.same (D:Dn L e s a)(h:∀k,k<a→e' k=e k):Dn L e' s a:=fun k hk=>(D k hk).same fun j p q=>h j (by omega)
theorem Dn.next (D:Dn L e s a)(ha:a=q*s)(g:Gd L e a (a+s)):Dn L e s (a+s):=fun k hk=>by
 by_cases c:k*s+s≤a
 ·exact D k c
 ·have hq:k=q:=by
   rcases iN k q with l|l|l
   ·have:=aH s (show k+1≤q by omega);rw[vg]at this;omega
   ·exact l
   ·have:=aH s (show q+1≤k by omega);rw[vg]at this;by_cases hs:s=0
    ·subst hs;omega
    ·omega
  subst hq;rw[←ha];exact g
theorem Ch.skip (c:Ch L e s a n):Ch L e s (a+2*s) n:=fun k hk=>by
 have:=c (k+2);rw[show a+(k+2)*s=a+2*s+k*s by rw[aX];omega]at this;exact this hk
theorem Ch.same (c:Ch L e s a n)(h:∀k,a≤k→k<n→e' k=e k):Ch L e' s a n:=fun k hk=>(c k hk).same fun j p q=>h j (by omega) (by omega)
theorem Ch.of (D:Dn L e s a)(ha:a=q*s)(hs:0<s)(h1:a≤n)(h2:n<a+s)(g:a<n→Gd L e a n):Ch L e s 0 n:=fun k hk=>by
 rw[Nat.zero_add]at hk⊢;by_cases c:k*s+s≤a
 ·have:=D k c;rwa[show min (k*s+s) n=k*s+s by omega]
 ·have hq:k=q:=by
   rcases iN k q with l|l|l
   ·have:=aH s (show k+1≤q by omega);rw[vg]at this;omega
   ·exact l
   ·have:=aH s (show q+1≤k by omega);rw[vg]at this;omega
  subst hq;rw[←ha]at hk⊢;rw[show min (a+s) n=n by omega];exact g hk
theorem TR (hn:n≤1000000)(hb:b≤n)(hab:b≤a)(ha:a≤1000000):ae E2 274 [.sl t 0 n 1,.int .i64 a,.int .i64 b,.fn f caps] h fun _ h'=>h'=h:=by
 refine ae.fn (fn:=C.Fo) rfl rfl rfl ?_;unfold C.Fo;repeat'(with_reducible first|simp(disch:=try exact ab) only[go_sem,seval]|(apply ai.i<;>intro hc))
 refine Wp.bD (fun m s=>val s.tm (.t 8)= .int .i64 ((a+1:Nat):Int)∧val s.tm (.t 2)= .int .i64 b∧s.hp=h) (n:=0) ?_ ?_
 ·exact⟨by(simp(disch:=try exact ab) only[go_sem,seval])<;>rfl,aL,rfl⟩
 ·rintro m ⟨tm,hp⟩ ⟨k8,k2,rfl⟩;simp only at k8 k2;have c:¬(((a+1:Nat):Int)<b):=by omega
  repeat'(with_reducible first|simp(disch:=try exact ab) only[go_sem,seval,k8,k2,c]|(apply ai.i<;>intro hc))
theorem mrg (Q:JI n f caps t P cz L)(hn:n≤1000000)(h1:a<m)(h2:m<b)(hb:b≤n)(A:Rw h t n e)(hP:P h)(hv:∀k,k<n→e k<n)(g1:Gd L e a m)(g2:Gd L e m b):
  ae E2 275 [.sl t 0 n 1,.int .i64 a,.int .i64 m,.int .i64 b,.fn f caps] h fun _ h'=>fT t h h'∧P h'∧∃e',Rw h' t n e'∧Pm e e' a b∧Gd L e' a b∧∀k,k<n→e' k<n:=by
 refine ae.mono (TQ Q hn (b-a+1) a m b e h (by omega) h1 h2 hb A hP hv g1.1 g2.1 fun i j p q r s=>?_) fun v h' ⟨C1,e',A',p,sd⟩=>⟨C1,Q.st _ _ hP C1,e',A',p,Gd.merge g1 g2 (by omega) (by omega) p sd,p.val hb hv⟩
 have:=g1.2.1 i p q;have:=g2.2.1 j r s;omega
end
end
end Go.Ae
