/- Whole numbers of any size: quotient, greatest common divisor. -/
import Derived.Test.YtdaggbpeoldmeaaGreatDoorM7
import Derived.Test.YtdaggbpeoldmeaaGreatDoorM5
import Derived.Test.YtdaggbpeoldmeaaGreatDoorM6
open Bool renaming and_self → Cj, and_eq_true → bz, false_eq_true → bZ
open Iff renaming rfl → ax
open Int renaming gcd → cG, natAbs_natCast → aw, mul_ne_zero → iP, lt_irrefl → fY, toNat_natCast → gD
open List renaming all_cons → iO, all_nil → pS, prefix_iff_eq_take → Dx, takeWhile_prefix → E4, all_eq_true → bV, take_length → bj, length_pos_iff → fV, length_take → az, length_drop → bP, take_append_drop → fD, map_cons → eH, length_append → ar, take_left → jh, drop_drop → eG, drop_left → ii, replicate → av, replicate_succ → vj, flatMap_cons → fM, flatMap_append → kV, range → ct, set_eq_take_append_cons_drop → sN, getElem?_map → bK, getElem?_range → eT, range_succ_eq_map → oU, ext_getElem? → Au, getElem?_eq_none → bO, map_congr_left → bJ, getElem_append_right → AC, getElem_cons_zero → EN, getElem_append_left → Cf, map_map → vk
open List.cons renaming injEq → iT
open Nat renaming gcd → eA, eq_zero_or_pos → aE, pow_le_pow_right → aT, le_refl → ae, pow_add → dm, mul_le_mul_right → aM, add_mul → bh, zero_le → aJ, min_eq_left → cD, pow_mul → mH, mul_le_mul_left → aD, lt_of_lt_of_le → ah, not_lt_zero → fh, le_trans → aB, lt_irrefl → Dw, sub_self → kA, eq_or_lt_of_le → Aq, lt_trichotomy → mP, succ_mul → uR, one_pos → vh, lt_succ_self → cN
open Option renaming map_some → cJ
open Option.some renaming inj → aa
open Rat renaming divInt → bD, num_eq_zero → jM, num_intCast → xU
set_option linter.unusedVariables false
set_option linter.unusedSimpArgs false
set_option maxRecDepth 100000
namespace Go.Ae
open Bg
noncomputable section
section
variable {h hp:Hp}{K:AV→Hp→Prop}{s w s' w':AV}{x y z:Int}
theorem i197 (ix:gj h s w x)(iy:gj h s' w' y)(lx:fq 3999 x)(ly:fq 3999 y)(hy:0<y):Gp E2 197 [.agg [s,w],.agg [s',w']] h (DmP x y):=by
 obtain⟨o1,o2⟩:=ix.one;obtain⟨o3,o4⟩:=iy.one;obtain⟨n',rfl⟩:=iy.fst;have A2:bG ((((h.push fun st=> .row [s,w] true st).push fun st=> .row [.int .i64 n',w'] true st).push fun st=> .row [.int .i64 0,.aq] true st).push fun st=> .row [.int .i64 0,.aq] true st) h.next [s,w]:=(bG.push.aO (aH.refl _).push.push.push)
 have A3:bG ((((h.push fun st=> .row [s,w] true st).push fun st=> .row [.int .i64 n',w'] true st).push fun st=> .row [.int .i64 0,.aq] true st).push fun st=> .row [.int .i64 0,.aq] true st) (h.next+1) [.int .i64 n',w']:=(bG.push.aO (aH.refl _).push.push)
 have A4:bG ((((h.push fun st=> .row [s,w] true st).push fun st=> .row [.int .i64 n',w'] true st).push fun st=> .row [.int .i64 0,.aq] true st).push fun st=> .row [.int .i64 0,.aq] true st) (h.next+1+1) [.int .i64 0,.aq]:=(bG.push.aO (aH.refl _).push)
 have A5:bG ((((h.push fun st=> .row [s,w] true st).push fun st=> .row [.int .i64 n',w'] true st).push fun st=> .row [.int .i64 0,.aq] true st).push fun st=> .row [.int .i64 0,.aq] true st) (h.next+1+1+1) [.int .i64 0,.aq]:=bG.push
 have G:aH h ((((h.push fun st=> .row [s,w] true st).push fun st=> .row [.int .i64 n',w'] true st).push fun st=> .row [.int .i64 0,.aq] true st).push fun st=> .row [.int .i64 0,.aq] true st):=(aH.refl h).push.push.push.push
 have tail:=fun(hp:Hp) (tm:T AV) (p2 p3 p4 p5:Nat) h2 h3 h4 h5 g2 g3 g4 g5 (hG:aH h hp) hn h45 ix iy=>Kq (h:=h) (hp:=hp) (tm:=tm) (p2:=p2) (p3:=p3) (p4:=p4) (p5:=p5) (s:=s) (w:=w) (n':=n') (w':=w') h2 h3 h4 h5 g2 g3 g4 g5 hG hn h45 ix iy lx ly hy
 rcases ix.cases with⟨rfl,rfl,hx⟩|⟨n,t,o,rfl,_⟩
 ·rcases iy.cases with⟨e,rfl,hy'⟩|⟨n,t,o,rfl,_⟩
  ·obtain rfl:n'=y:=by injection e
   by_cases hm:x= -9223372036854775808
   ·refine Gp.of (ac.fn (fn:=C.pO) rfl rfl rfl ?_);refine Wp.cut 2 rfl ?_;generalize au.post 2 C.pO.code=r at tail⊢
    unfold C.pO;dsimp only[au.pre];subst hm;repeat'(with_reducible first|simp(disch:=try exact ab) only[go_sem,seval]|(apply aj.i<;>intro hc))
    exact tail _ _ _ _ _ _ aS aS aS aS A2 A3 A4 A5 G (by omega) (by omega) (ix.aO G) (iy.aO G)
   ·refine(WY (by omega) (by omega)).gp fun h' _=>⟨_,_,rfl,rF.sI ?_,rF.sI ?_⟩
    ·have:=tdiv_le (a:=x) (b:=n') (by omega) hy;have ht: -n'<x.tmod n'∧x.tmod n'<n':=⟨Int.lt_tmod_of_pos x hy,Int.tmod_lt_of_pos x hy⟩
     by_cases hr:x.tmod n'<0
     ·rw[(xq hy hr).1];omega
     ·rw[(xr hy hr).1];omega
    ·have:=Int.fmod_nonneg_of_pos x hy;have:=Int.fmod_lt_of_pos x hy;omega
  ·refine Gp.of (ac.fn (fn:=C.pO) rfl rfl rfl ?_);refine Wp.cut 2 rfl ?_;generalize au.post 2 C.pO.code=r at tail⊢
   unfold C.pO;dsimp only[au.pre];repeat'(with_reducible first|simp(disch:=try exact ab) only[go_sem,seval]|(apply aj.i<;>intro hc))
   exact tail _ _ _ _ _ _ aS aS aS aS A2 A3 A4 A5 G (by omega) (by omega) (ix.aO G) (iy.aO G)
 ·refine Gp.of (ac.fn (fn:=C.pO) rfl rfl rfl ?_);refine Wp.cut 2 rfl ?_;generalize au.post 2 C.pO.code=r at tail⊢
  unfold C.pO;dsimp only[au.pre];repeat'(with_reducible first|simp(disch:=try exact ab) only[go_sem,seval,o1,o4]|(apply aj.i<;>intro hc))
  exact tail _ _ _ _ _ _ aS aS aS aS A2 A3 A4 A5 G (by omega) (by omega) (ix.aO G) (iy.aO G)
theorem i201 (ix:gj h s w x)(iy:gj h s' w' y)(lx:fq 3999 x)(ly:fq 3999 y)(hy:0<y):Gp E2 201 [.agg [s,w],.agg [s',w']] h fun v h'=>rF h' v (x.fdiv y):=by
 obtain⟨o1,o2⟩:=ix.one;obtain⟨o3,o4⟩:=iy.one;refine Gp.of (ac.fn (fn:=C.a201) rfl rfl rfl ?_);unfold C.a201;have hs':¬max (-1) (min 1 y)<0:=by omega
 repeat'(with_reducible first|simp(disch:=try exact ab) only[go_sem,seval,o1,o2,o3,o4]|(apply aj.i<;>intro hc))
 refine Gv.wp (i194 (iy.aO aL)) fun h1 k1 j1 u1=>?_
 repeat'(with_reducible first|simp(disch:=try exact ab) only[go_sem,seval,hs',o1,o2,o3,o4]|(apply aj.i<;>intro hc))
 refine Gp.wp (i197 (ix.aO aL) (iy.aO aL) lx ly hy) fun v h2 k2 j2 u2 ⟨va,vb,e,I1,I2⟩=>?_
 subst e;obtain⟨a1,b1,rfl,p1,I1⟩:=I1.pe;obtain⟨a2,b2,rfl,p2,I2⟩:=I2.pe;repeat'(with_reducible first|simp(disch:=try exact ab) only[go_sem,seval,p1,p2]|(apply aj.i<;>intro hc))
 refine⟨⟨_,_,rfl,?_⟩,?_⟩
 ·exact(I1.aO aL).eZ (by simp(disch:=try exact ab) only[go_sem,seval,aG])
 ·exact aL
theorem i190 (ix:gj h s w x)(iy:gj h s' w' y)(lx:fq 3999 x)(ly:fq 3999 y):Gp E2 190 [.agg [s,w],.agg [s',w']] h fun v h'=>rF h' v (cG x y:Int):=by
 obtain⟨o1,o2⟩:=ix.one;obtain⟨o3,o4⟩:=iy.one;obtain⟨n1,rfl⟩:=ix.fst;obtain⟨n2,rfl⟩:=iy.fst;refine Gp.of (ac.fn (fn:=C.Lv) rfl rfl rfl ?_);unfold C.Lv;repeat'(with_reducible first|simp(disch:=try exact ab) only[go_sem,seval,o2,o4]|(apply aj.i<;>intro hc))
 refine Gp.wp (i257 (ix.aO aL) (lx.mono (by decide))) fun v h1 k1 j1 u1 I1=>?_
 obtain⟨a1,b1,rfl,p1,I1⟩:=I1.pe;repeat'(with_reducible first|simp(disch:=try exact ab) only[go_sem,seval,o2,o4,p1]|(apply aj.i<;>intro hc))
 refine Gp.wp (i257 (iy.aO aL) (ly.mono (by decide))) fun v h2 k2 j2 u2 I2=>?_
 obtain⟨a2,b2,rfl,p2,I2⟩:=I2.pe;have I1':=I1.ov (g:=u2);have lx':fq 3999 (x.natAbs:Int):=lx.le (by omega);have ly':fq 3999 (y.natAbs:Int):=ly.le (by omega);repeat'(with_reducible first|simp(disch:=try exact ab) only[go_sem,seval,o2,o4,p1,p2]|(apply aj.i<;>intro hc))
 refine Wp.bW (fun m s'=>∃(a b:Nat) (m1 m2:Int) (w1 w2:AV),val s'.tm (.t 2)= .ptr h.next 0∧val s'.tm (.t 3)= .ptr (h.next+1) 0∧val s'.tm (.t 4)= .ptr (h.next+1+1) 0∧
  bG s'.hp h.next [.int .i64 m1,w1]∧bG s'.hp (h.next+1) [.int .i64 m2,w2]∧bG s'.hp (h.next+1+1) [.int .i64 0,.aq]∧aH h s'.hp∧gj s'.hp (.int .i64 m1) w1 a∧gj s'.hp (.int .i64 m2) w2 b∧fq 3999 (a:Int)∧fq 3999 (b:Int)∧eA a b=cG x y∧b=m) (n:=y.natAbs) ?_ ?_
 ·refine⟨x.natAbs,y.natAbs,a1,a2,b1,b2,aS,aS,aS,?_,?_,?_,?_,?_,?_,lx',ly',rfl,rfl⟩
  ·exact(bG.put mJ).other (by omega)
  ·exact bG.put mJ
  ·refine bG.other (bG.other ?_ (by omega)) (by omega);exact(bG.push (h:=(h.push fun st=> .row [.int .i64 n1,w] true st).push fun st=> .row [.int .i64 n2,w'] true st)).aO aL
  ·refine aH.put (aH.put ?_ (by omega)) (by omega);exact aL
  ·exact(I1'.eZ (by simp(disch:=try exact ab) only[go_sem,seval,aG])).eZ (by simp(disch:=try exact ab) only[go_sem,seval,aG])
  ·exact(I2.eZ (by simp(disch:=try exact ab) only[go_sem,seval,aG])).eZ (by simp(disch:=try exact ab) only[go_sem,seval,aG])
 ·rintro m ⟨tm,hp⟩ ⟨a,b,m1,m2,w1,w2,h2,h3,h4,⟨s2,g2,c2,t2⟩,⟨s3,g3,c3,t3⟩,⟨s4,g4,c4,t4⟩,hG,Ia,Ib,la,lb,hg,rfl⟩;simp only at h2 h3 h4 g2 g3 g4 c2 c3 c4 t2 t3 t4 hG Ia Ib;obtain⟨_,oa⟩:=Ia.one;obtain⟨_,ob⟩:=Ib.one;repeat'(with_reducible first|simp(disch:=try exact ab) only[go_sem,seval,h2,h3,h4,g3,oa,ob]|(apply aj.i<;>intro hc))
  refine Gv.wp (i194 Ib) fun h5 k5 j5 u5=>?_
  have Ia5:=Ia.ov (g:=u5);have Ib5:=Ib.ov (g:=u5);rcases aE b with rfl|hb
  ·have hz:max (-1) (min 1 ((0:Nat):Int))=0:=by omega
   rw[Nat.gcd_zero_right]at hg;repeat'(with_reducible first|simp(disch:=try exact ab) only[go_sem,seval,h2,h3,h4,g2,g3,g4,oa,ob,hz]|(apply aj.i<;>intro hc))
   refine⟨⟨_,_,rfl,?_⟩,?_⟩
   ·rw[←hg];exact Ia5.eZ (by simp(disch:=try exact ab) only[go_sem,seval,aG,g4])
   ·refine aH.put hG.ov (by omega)
  ·have hz:¬max (-1) (min 1 (b:Int))=0:=by omega
   repeat'(with_reducible first|simp(disch:=try exact ab) only[go_sem,seval,h2,h3,h4,g2,g3,g4,oa,ob,hz]|(apply aj.i<;>intro hc))
   refine Gp.wp (i197 Ia5 Ib5 la lb (by omega)) fun v h6 k6 j6 u6 ⟨va,vb,e,I6,I7⟩=>?_
   subst e;obtain⟨a6,b6,rfl,p6,I6⟩:=I6.pe;obtain⟨a7,b7,rfl,p7,I7⟩:=I7.pe;have Ib6:=Ib5.ov (g:=u6)
   have Wa:(a:Int).fmod b=((a%b:Nat):Int):=by
    rw[Int.fmod_eq_emod_of_nonneg _ (by omega)];rfl
   rw[Wa]at I7;repeat'(with_reducible first|simp(disch:=try exact ab) only[go_sem,seval,h2,h3,h4,g2,g3,g4,oa,ob,p6,p7]|(apply aj.i<;>intro hc))
   refine⟨a%b,Nat.mod_lt _ hb,b,a%b,m2,a7,w2,b7,?_,?_,?_,?_,?_,?_,lb,?_,?_,rfl⟩
   ·exact(bG.put mJ).other (by omega)
   ·exact bG.put mJ
   ·refine bG.other (bG.other ?_ (by omega)) (by omega);exact bG.aO (h:=hp) ⟨s4,g4,c4,t4⟩ aL
   ·refine aH.put (aH.put (hG.trans ?_) (by omega)) (by omega);exact aL
   ·exact((Ib6.aO aL).eZ (by simp(disch:=try exact ab) only[go_sem,seval,aG,g2])).eZ (by simp(disch:=try exact ab) only[go_sem,seval,aG,g3])
   ·exact((I7.aO aL).eZ (by simp(disch:=try exact ab) only[go_sem,seval,aG,g2])).eZ (by simp(disch:=try exact ab) only[go_sem,seval,aG,g3])
   ·exact la.le (by have:=Nat.mod_le a b;omega)
   ·rw[←hg,Nat.gcd_comm b,←Nat.gcd_rec,Nat.gcd_comm]
end
end
end Go.Ae
namespace Go.Ae
open Bg
noncomputable section
def jL (h:Hp)(v:AV)(r:Rat):Prop:=∃s w s' w',v= .agg [s,w,s',w']∧gj h s w r.num∧gj h s' w' r.den
section
variable {h h' hp:Hp}{K:AV→Hp→Prop}{s w s' w':AV}{x y z:Int}{r:Rat}{v:AV}
theorem jL.aO (i:jL h v r)(g:aH h h'):jL h' v r:=by
 obtain⟨s,w,s',w',e,i,j⟩:=i;exact⟨s,w,s',w',e,i.aO g,j.aO g⟩
theorem jL.ex (i:jL h v r):∃n w n' w',v= .agg [.int .i64 n,w,.int .i64 n',w']∧w.one=true∧w'.one=true∧gj h (.int .i64 n) w r.num∧gj h (.int .i64 n') w' r.den:=by
 obtain⟨s,w,s',w',rfl,i,j⟩:=i;obtain⟨n,rfl⟩:=i.fst;obtain⟨n',rfl⟩:=j.fst;exact⟨n,w,n',w',rfl,i.one.2,j.one.2,i,j⟩
theorem tZ {n n':Int}(h1:w.one=true)(h2:w'.one=true):ja [.int .i64 0,.aq,.int .i64 0,.aq] [(0,2,.agg [.int .i64 n,w]),(2,2,.agg [.int .i64 n',w'])]=some [.int .i64 n,w,.int .i64 n',w']:=by
 have e1:(AV.agg [.int .i64 n,w]).cells=[.int .i64 n,w]:=rfl;have e2:(AV.agg [.int .i64 n',w']).cells=[.int .i64 n',w']:=rfl;rw[jt (by rw[e1];exact⟨rfl,by simp,by simp only[iO,pS,h1,qj,Cj]⟩),jt (by rw[e2];exact⟨rfl,by rw[e1];simp[dU],by simp only[iO,pS,h2,qj,Cj]⟩),oE,e1,e2];rfl
theorem GS {tm:T AV}{p2 p3 p4:Nat}{n n':Int}(h2:val tm (.t 2)= .ptr p2 0)(h3:val tm (.t 3)= .ptr p3 0)(h4:val tm (.t 4)= .ptr p4 0)(g2:bG hp p2 [.int .i64 n,w])(g3:bG hp p3 [.int .i64 n',w'])(g4:bG hp p4 [.int .i64 0,.aq,.int .i64 0,.aq])
  (hG:aH h hp) (hn:h.next≤p4) (ix:gj hp (.int .i64 n) w x) (iy:gj hp (.int .i64 n') w' y) (lx:fq 3999 x) (ly:fq 3999 y) (hy:0<y):
  Wp E2 ((C.a119.code.post 2).post 1) ⟨tm,hp⟩ (gy [.cell 4 true 4] fun v h'=>jL h' v (bD x y)∧aH h h'):=by
 unfold C.a119;dsimp only[au.post];obtain⟨s2,q2,c2,t2⟩:=g2;obtain⟨s3,q3,c3,t3⟩:=g3;obtain⟨s4,q4,c4,t4⟩:=g4;obtain⟨_,o1⟩:=ix.one;obtain⟨_,o2⟩:=iy.one;obtain⟨f1,f2⟩:=mA (p:=x) hy
 have hg:0<(cG x y:Int):=by
  have:=Int.gcd_pos_of_ne_zero_right x (show y≠0 by omega);omega
 have lg:fq 3999 (cG x y:Int):=ly.le (by
  have:=Nat.le_of_dvd (show 0<y.natAbs by omega) (Int.gcd_dvd_natAbs_right x y);omega)
 repeat'(with_reducible first|simp(disch:=try exact ab) only[go_sem,seval,h2,h3,h4,q2,q3,o1,o2]|(apply aj.i<;>intro hc))
 refine Gp.wp (i190 ix iy lx ly) fun v h1 k1 j1 u1 I1=>?_
 obtain⟨a1,b1,rfl,p1,I1⟩:=I1.pe;repeat'(with_reducible first|simp(disch:=try exact ab) only[go_sem,seval,h2,h3,h4,q2,q3,o1,o2,p1]|(apply aj.i<;>intro hc))
 refine Gp.wp (i201 ((ix.ov (g:=u1)).aO aL) (I1.aO aL) lx lg hg) fun v h5 k5 j5 u5 I5=>?_
 obtain⟨a5,b5,rfl,p5,I5⟩:=I5.pe;repeat'(with_reducible first|simp(disch:=try exact ab) only[go_sem,seval,h2,h3,h4,q2,q3,o1,o2,p1,p5]|(apply aj.i<;>intro hc))
 refine Gp.wp (i201 ((iy.ov (g:=u1)).aO aL) (I1.aO aL) ly lg hg) fun v h6 k6 j6 u6 I6=>?_
 obtain⟨a6,b6,rfl,p6,I6⟩:=I6.pe;rw[←f1]at I5;rw[←f2]at I6;repeat'(with_reducible first|simp(disch:=try exact ab) only[go_sem,seval,h2,h3,h4,q4,o1,o2,p1,p5,p6,tZ p5 p6,cJ]|(apply aj.i<;>intro hc))
 refine⟨⟨_,_,_,_,rfl,?_,?_⟩,?_⟩
 ·exact(I5.ov (g:=u6)).eZ (by simp(disch:=try exact ab) only[go_sem,seval,aG,q4])
 ·exact I6.eZ (by simp(disch:=try exact ab) only[go_sem,seval,aG,q4])
 ·refine aH.put (hG.trans ?_) hn;exact aL
theorem yV {tm:T AV}{p2 p3 p4:Nat}{n n':Int}(h2:val tm (.t 2)= .ptr p2 0)(h3:val tm (.t 3)= .ptr p3 0)(h4:val tm (.t 4)= .ptr p4 0)(g2:bG hp p2 [.int .i64 n,w])(g3:bG hp p3 [.int .i64 n',w'])(g4:bG hp p4 [.int .i64 0,.aq,.int .i64 0,.aq])
  (hG:aH h hp) (hn:h.next≤p4) (ix:gj hp (.int .i64 n) w x) (iy:gj hp (.int .i64 n') w' y) (lx:fq 3999 x) (ly:fq 3999 y) (hy:0<y):
  Wp E2 (C.a119.code.post 2) ⟨tm,hp⟩ (gy [.cell 4 true 4] fun v h'=>jL h' v (bD x y)∧aH h h'):=by
 have tail:=fun tm h2 h3 h4=>GS (tm:=tm) (p2:=p2) (p3:=p3) (p4:=p4) h2 h3 h4 g2 g3 g4 hG hn ix iy lx ly hy
 refine Wp.cut 1 rfl ?_;generalize au.post 1 (au.post 2 C.a119.code)=r at tail⊢
 unfold C.a119;dsimp only[au.post,au.pre];obtain⟨s2,q2,c2,t2⟩:=g2;obtain⟨s3,q3,c3,t3⟩:=g3;obtain⟨s4,q4,c4,t4⟩:=g4;obtain⟨_,o1⟩:=ix.one;rcases iy.cases with⟨e,rfl,_⟩|⟨m,t,o,rfl,_⟩
 ·obtain rfl:n'=y:=by injection e
  by_cases h1:n'=1
  ·subst h1;obtain⟨f1,f2⟩:=fB (p:=x);repeat'(with_reducible first|simp(disch:=try exact ab) only[go_sem,seval,h2,h3,h4,q2,q3,q4,o1,tZ o1 qi,cJ]|(apply aj.i<;>intro hc))
   refine⟨⟨_,_,_,_,rfl,?_,?_⟩,?_⟩
   ·rw[f1];exact ix.eZ (by simp(disch:=try exact ab) only[go_sem,seval,aG,q4])
   ·rw[f2];exact gj.small (by omega)
   ·exact aH.put hG hn
  ·repeat'(with_reducible first|simp(disch:=try exact ab) only[go_sem,seval,h2,h3,h4,q2,q3,h1]|(apply aj.i<;>intro hc))
   exact tail _ (by simp(disch:=try exact ab) only[go_sem,seval,h2]) (by simp(disch:=try exact ab) only[go_sem,seval,h3]) (by simp(disch:=try exact ab) only[go_sem,seval,h4])
 ·repeat'(with_reducible first|simp(disch:=try exact ab) only[go_sem,seval,h2,h3,h4,q2,q3]|(apply aj.i<;>intro hc))
  exact tail _ (by simp(disch:=try exact ab) only[go_sem,seval,h2]) (by simp(disch:=try exact ab) only[go_sem,seval,h3]) (by simp(disch:=try exact ab) only[go_sem,seval,h4])
theorem i119 (ix:gj h s w x)(iy:gj h s' w' y)(lx:fq 3999 x)(ly:fq 3999 y)(hy:y≠0):Gp E2 119 [.agg [s,w],.agg [s',w']] h fun v h'=>jL h' v (bD x y):=by
 obtain⟨n,rfl⟩:=ix.fst;obtain⟨n',rfl⟩:=iy.fst;obtain⟨_,o1⟩:=ix.one;obtain⟨_,o2⟩:=iy.one;refine Gp.of (ac.fn (fn:=C.a119) rfl rfl rfl ?_);refine Wp.cut 2 rfl ?_;have G:aH h (((h.push fun st=> .row [.int .i64 n,w] true st).push fun st=> .row [.int .i64 n',w'] true st).push fun st=> .row [.int .i64 0,.aq,.int .i64 0,.aq] true st):=(aH.refl h).push.push.push
 have A2:bG (((h.push fun st=> .row [.int .i64 n,w] true st).push fun st=> .row [.int .i64 n',w'] true st).push fun st=> .row [.int .i64 0,.aq,.int .i64 0,.aq] true st) h.next [.int .i64 n,w]:=(bG.push.aO (aH.refl _).push.push)
 have A3:bG (((h.push fun st=> .row [.int .i64 n,w] true st).push fun st=> .row [.int .i64 n',w'] true st).push fun st=> .row [.int .i64 0,.aq,.int .i64 0,.aq] true st) (h.next+1) [.int .i64 n',w']:=(bG.push.aO (aH.refl _).push)
 have A4:bG (((h.push fun st=> .row [.int .i64 n,w] true st).push fun st=> .row [.int .i64 n',w'] true st).push fun st=> .row [.int .i64 0,.aq,.int .i64 0,.aq] true st) (h.next+1+1) [.int .i64 0,.aq,.int .i64 0,.aq]:=bG.push;by_cases hp:0<y
 ·have tail:=fun(hp':Hp) tm p2 p3 p4 (n n':Int) (w w':AV) h2 h3 h4 g2 g3 g4 hG hn ix iy=>yV (h:=h) (hp:=hp') (tm:=tm) (p2:=p2) (p3:=p3) (p4:=p4) (n:=n) (n':=n') (w:=w) (w':=w') h2 h3 h4 g2 g3 g4 hG hn ix iy lx ly hp
  generalize au.post 2 C.a119.code=r at tail⊢
  unfold C.a119;dsimp only[au.pre];have hs:¬max (-1) (min 1 y)<0:=by omega
  repeat'(with_reducible first|simp(disch:=try exact ab) only[go_sem,seval,o1,o2]|(apply aj.i<;>intro hc))
  refine Gv.wp (i194 (iy.aO G)) fun h1 k1 j1 u1=>?_
  have G1:aH _ ((((h.push fun st=> .row [.int .i64 n,w] true st).push fun st=> .row [.int .i64 n',w'] true st).push fun st=> .row [.int .i64 0,.aq,.int .i64 0,.aq] true st).ov h1 u1):=(aH.refl _).ov;repeat'(with_reducible first|simp(disch:=try exact ab) only[go_sem,seval,hs]|(apply aj.i<;>intro hc))
  exact tail _ _ h.next (h.next+1) (h.next+1+1) n n' w w' aS aS aS (A2.aO G1) (A3.aO G1) (A4.aO G1) (G.trans G1) (by omega) ((ix.aO G).aO G1) ((iy.aO G).aO G1)
 ·have tail:=fun(hp':Hp) tm p2 p3 p4 (n n':Int) (w w':AV) h2 h3 h4 g2 g3 g4 hG hn ix iy=>yV (h:=h) (hp:=hp') (tm:=tm) (p2:=p2) (p3:=p3) (p4:=p4) (n:=n) (n':=n') (w:=w) (w':=w') (x:= -x) (y:= -y) h2 h3 h4 g2 g3 g4 hG hn ix iy lx.neg ly.neg (by omega)
  rw[nI hy]at tail;generalize au.post 2 C.a119.code=r at tail⊢
  unfold C.a119;dsimp only[au.pre];have hs:max (-1) (min 1 y)<0:=by omega
  repeat'(with_reducible first|simp(disch:=try exact ab) only[go_sem,seval,o1,o2]|(apply aj.i<;>intro hc))
  refine Gv.wp (i194 (iy.aO G)) fun h1 k1 j1 u1=>?_
  repeat'(with_reducible first|simp(disch:=try exact ab) only[go_sem,seval,hs,o1,o2]|(apply aj.i<;>intro hc))
  refine Gp.wp (i200 ((ix.aO G).aO aL) (lx.mono (by decide))) fun v h5 k5 j5 u5 I5=>?_
  obtain⟨a5,b5,rfl,p5,I5⟩:=I5.pe;repeat'(with_reducible first|simp(disch:=try exact ab) only[go_sem,seval,hs,o1,o2,p5]|(apply aj.i<;>intro hc))
  refine Gp.wp (i200 ((iy.aO G).aO aL) (ly.mono (by decide))) fun v h6 k6 j6 u6 I6=>?_
  obtain⟨a6,b6,rfl,p6,I6⟩:=I6.pe;have I5':=I5.ov (g:=u6)
  have G6:aH (((h.push fun st=> .row [.int .i64 n,w] true st).push fun st=> .row [.int .i64 n',w'] true st).push fun st=> .row [.int .i64 0,.aq,.int .i64 0,.aq] true st) ((((((h.push fun st=> .row [.int .i64 n,w] true st).push fun st=> .row [.int .i64 n',w'] true st).push fun st=> .row [.int .i64 0,.aq,.int .i64 0,.aq] true st).ov h1 u1).ov h5 u5).ov h6 u6):=by exact aL
  repeat'(with_reducible first|simp(disch:=try exact ab) only[go_sem,seval,o1,o2,p5,p6]|(apply aj.i<;>intro hc))
  refine tail _ _ h.next (h.next+1) (h.next+1+1) a5 a6 b5 b6 aS aS aS ?_ ?_ ?_ ?_ (by omega) ?_ ?_
  ·exact(bG.put mJ).other (by omega)
  ·exact bG.put mJ
  ·exact((A4.aO G6).other (by omega)).other (by omega)
  ·exact aH.put (aH.put (G.trans G6) (by omega)) (by omega)
  ·exact(I5'.eZ (by simp(disch:=try exact ab) only[go_sem,seval,aG])).eZ (by simp(disch:=try exact ab) only[go_sem,seval,aG])
  ·exact(I6.eZ (by simp(disch:=try exact ab) only[go_sem,seval,aG])).eZ (by simp(disch:=try exact ab) only[go_sem,seval,aG])
end
end
end Go.Ae
namespace Go.Ae
open Bg
noncomputable section
def Bd (n:Nat)(r:Rat):Prop:=fq n r.num∧fq n (r.den:Int)
section
variable {h h' hp:Hp}{K:AV→Hp→Prop}{s w s' w':AV}{x y z:Int}{a b r:Rat}{v va vb:AV}{n m:Nat}
theorem Bd.mono (i:Bd n r)(hn:n≤m):Bd m r:=⟨i.1.mono hn,i.2.mono hn⟩
theorem Bd.of {p q:Int}(hq:q≠0)(hp:fq n p)(hl:fq n q):Bd n (bD p q):=by
 obtain⟨h1,h2⟩:=rk (p:=p) hq;exact⟨hp.le h1,hl.le (by rw[aw];exact h2)⟩
theorem Bd.mul (i:Bd n a)(j:Bd m b):Bd (n+m) (a*b):=by
 rw[FX];have h1:=den_pos a;have h2:=den_pos b;exact Bd.of (iP (by omega) (by omega)) (i.1.mul j.1) (i.2.mul j.2)
theorem Bd.add (i:Bd n a)(j:Bd m b):Bd (n+m+1) (a+b):=by
 rw[DL];have h1:=den_pos a;have h2:=den_pos b;exact Bd.of (iP (by omega) (by omega)) ((i.1.mul j.2).add ((j.1.mul i.2).mono (by omega))) ((i.2.mul j.2).mono (by omega))
theorem Bd.neg (i:Bd n a):Bd n (-a):=⟨i.1.neg,i.2⟩
theorem Bd.inv (i:Bd n a)(h0:a≠0):Bd n a⁻¹:=by
 rw[Rat.inv_def];exact Bd.of (by rw[ne_eq,jM];exact h0) i.2 i.1
theorem i183 (ix:gj h s w x):Gp E2 183 [.agg [s,w]] h fun v h'=>jL h' v (bD x 1):=by
 obtain⟨n,rfl⟩:=ix.fst;obtain⟨_,o1⟩:=ix.one;obtain⟨f1,f2⟩:=fB (p:=x);refine Gp.of (ac.fn (fn:=C.a183) rfl rfl rfl ?_);unfold C.a183;repeat'(with_reducible first|simp(disch:=try exact ab) only[go_sem,seval,o1]|(apply aj.i<;>intro hc))
 refine Gv.wp Ew fun h1 k1 j1 u1=>?_
 repeat'(with_reducible first|simp(disch:=try exact ab) only[go_sem,seval,o1,tZ o1 qi,cJ]|(apply aj.i<;>intro hc))
 refine⟨⟨_,_,_,_,rfl,?_,?_⟩,?_⟩
 ·rw[f1];exact(ix.aO aL).eZ (by simp(disch:=try exact ab) only[go_sem,seval,aG])
 ·rw[f2];exact gj.small (by omega)
 ·exact aL
theorem i115 (ia:jL h va a)(ib:jL h vb b)(la:Bd 900 a)(lb:Bd 900 b):Gp E2 115 [va,vb] h fun v h'=>jL h' v (a*b):=by
 obtain⟨n1,w1,n2,w2,rfl,o1,o2,I1,I2⟩:=ia.ex;obtain⟨m1,v1,m2,v2,rfl,o3,o4,I3,I4⟩:=ib.ex;have ha:=den_pos a;have hb:=den_pos b;refine Gp.of (ac.fn (fn:=C.LS) rfl rfl rfl ?_);unfold C.LS;rw[FX];repeat'(with_reducible first|simp(disch:=try exact ab) only[go_sem,seval,o1,o2,o3,o4]|(apply aj.i<;>intro hc))
 refine Gp.wp (i195 (I1.aO aL) (I3.aO aL) (la.1.mono (by decide)) (lb.1.mono (by decide))) fun v h1 k1 j1 u1 I5=>?_
 obtain⟨n5,w5,rfl,o5,I5⟩:=I5.pe;repeat'(with_reducible first|simp(disch:=try exact ab) only[go_sem,seval,o1,o2,o3,o4]|(apply aj.i<;>intro hc))
 refine Gp.wp (i195 (I2.aO aL) (I4.aO aL) (la.2.mono (by decide)) (lb.2.mono (by decide))) fun v h2 k2 j2 u2 I6=>?_
 obtain⟨n6,w6,rfl,o6,I6⟩:=I6.pe;repeat'(with_reducible first|simp(disch:=try exact ab) only[go_sem,seval,o1,o2,o3,o4]|(apply aj.i<;>intro hc))
 refine Gp.wp (i119 (I5.ov (g:=u2)) I6 ((la.1.mul lb.1).mono (by decide)) ((la.2.mul lb.2).mono (by decide)) (iP (by omega) (by omega))) fun v h3 k3 j3 u3 I7=>?_
 obtain⟨n7,w7,n8,w8,rfl,o7,o8,I7,I8⟩:=I7.ex;repeat'(with_reducible first|simp(disch:=try exact ab) only[go_sem,seval,o7,o8]|(apply aj.i<;>intro hc))
 refine⟨⟨_,_,_,_,rfl,?_,?_⟩,?_⟩
 ·exact I7.eZ (by simp(disch:=try exact ab) only[go_sem,seval,aG])
 ·exact I8.eZ (by simp(disch:=try exact ab) only[go_sem,seval,aG])
 ·exact aL
theorem i241 (ia:jL h va a):Gv E2 241 [va] h (.bool (decide ((a.den:Int)=1))):=by
 obtain⟨n1,w1,n2,w2,rfl,o1,o2,I1,I2⟩:=ia.ex;refine Gv.of (ac.fn (fn:=C.Li) rfl rfl rfl ?_);unfold C.Li;rcases I2.cases with⟨e,rfl,_⟩|⟨m,t,o,rfl,hb,_⟩
 ·obtain rfl:n2=a.den:=by injection e
  repeat'(with_reducible first|simp(disch:=try exact ab) only[go_sem,seval,o1]|(apply aj.i<;>intro hc))
  exact aL
 ·have h1:((a.den:Int)=1)=False:=by simp only[eq_iff_iff,iff_false];omega
  repeat'(with_reducible first|simp(disch:=try exact ab) only[go_sem,seval,o1,h1]|(apply aj.i<;>intro hc))
  exact aL
theorem i163 (ia:jL h va a)(ib:jL h vb b)(la:Bd 900 a)(lb:Bd 900 b):Gp E2 163 [va,vb] h fun v h'=>jL h' v (a+b):=by
  obtain⟨n1,w1,n2,w2,ea,o1,o2,I1,I2⟩:=ia.ex;obtain⟨m1,v1,m2,v2,eb,o3,o4,I3,I4⟩:=ib.ex;have ha:=den_pos a;have hb:=den_pos b;refine Gp.of (ac.fn (fn:=C.B9) rfl rfl rfl ?_)
  have slow:∀(tm:T AV) (hp:Hp) (p2 p3 p4:Nat),val tm (.t 2)= .ptr p2 0→val tm (.t 3)= .ptr p3 0→val tm (.t 4)= .ptr p4 0→bG hp p2 [.int .i64 n1,w1,.int .i64 n2,w2]→bG hp p3 [.int .i64 m1,v1,.int .i64 m2,v2]→bG hp p4 [.int .i64 0,.aq,.int .i64 0,.aq]→aH h hp→h.next≤p4→
      Wp E2 (C.B9.code.post 2) ⟨tm,hp⟩ (gy [.cell 4 true 4] fun v h'=>jL h' v (a+b)∧aH h h'):=by
    intro tm hp p2 p3 p4 h2 h3 h4 ⟨s2,q2,c2,t2⟩ ⟨s3,q3,c3,t3⟩ ⟨s4,q4,c4,t4⟩ hG hn;unfold C.B9;dsimp only[au.post];rw[DL];repeat'(with_reducible first|simp(disch:=try exact ab) only[go_sem,seval,h2,h3,h4,q2,q3,o1,o2,o3,o4]|(apply aj.i<;>intro hc))
    refine Gp.wp (i195 (I1.aO hG) (I4.aO hG) (la.1.mono (by decide)) (lb.2.mono (by decide))) fun v h1 k1 j1 u1 I5=>?_
    obtain⟨n5,w5,rfl,o5,I5⟩:=I5.pe;repeat'(with_reducible first|simp(disch:=try exact ab) only[go_sem,seval,h2,h3,h4,q2,q3,o1,o2,o3,o4]|(apply aj.i<;>intro hc))
    refine Gp.wp (i195 ((I3.aO hG).aO aL) ((I2.aO hG).aO aL) (lb.1.mono (by decide)) (la.2.mono (by decide))) fun v h5 k5 j5 u5 I6=>?_
    obtain⟨n6,w6,rfl,o6,I6⟩:=I6.pe;repeat'(with_reducible first|simp(disch:=try exact ab) only[go_sem,seval,h2,h3,h4,q2,q3,o1,o2,o3,o4]|(apply aj.i<;>intro hc))
    refine Gp.wp (i121 (I5.ov (g:=u5)) I6 ((la.1.mul lb.2).mono (by decide)) ((lb.1.mul la.2).mono (by decide))) fun v h6 k6 j6 u6 I7=>?_
    obtain⟨n7,w7,rfl,o7,I7⟩:=I7.pe;repeat'(with_reducible first|simp(disch:=try exact ab) only[go_sem,seval,h2,h3,h4,q2,q3,o1,o2,o3,o4]|(apply aj.i<;>intro hc))
    refine Gp.wp (i195 ((I2.aO hG).aO aL) ((I4.aO hG).aO aL) (la.2.mono (by decide)) (lb.2.mono (by decide))) fun v h7 k7 j7 u7 I8=>?_
    obtain⟨n8,w8,rfl,o8,I8⟩:=I8.pe;repeat'(with_reducible first|simp(disch:=try exact ab) only[go_sem,seval,h2,h3,h4,q2,q3,o1,o2,o3,o4]|(apply aj.i<;>intro hc))
    refine Gp.wp (i119 (I7.ov (g:=u7)) I8 (((la.1.mul lb.2).add (lb.1.mul la.2)).mono (by decide)) ((la.2.mul lb.2).mono (by decide)) (iP (by omega) (by omega))) fun v h8 k8 j8 u8 I9=>?_
    obtain⟨n9,w9,n10,w10,rfl,o9,UU,I9,I10⟩:=I9.ex;repeat'(with_reducible first|simp(disch:=try exact ab) only[go_sem,seval,h4,q4,o9,UU]|(apply aj.i<;>intro hc))
    refine⟨⟨_,_,_,_,rfl,?_,?_⟩,?_⟩
    · exact I9.eZ (by simp(disch:=try exact ab) only[go_sem,seval,aG,q4])
    · exact I10.eZ (by simp(disch:=try exact ab) only[go_sem,seval,aG,q4])
    · refine aH.put (hG.trans ?_) hn
      exact aL
  subst ea;subst eb;have G:aH h (((h.push fun st=> .row [.int .i64 n1,w1,.int .i64 n2,w2] true st).push fun st=> .row [.int .i64 m1,v1,.int .i64 m2,v2] true st).push fun st=> .row [.int .i64 0,.aq,.int .i64 0,.aq] true st):=(aH.refl h).push.push.push
  have A2:bG (((h.push fun st=> .row [.int .i64 n1,w1,.int .i64 n2,w2] true st).push fun st=> .row [.int .i64 m1,v1,.int .i64 m2,v2] true st).push fun st=> .row [.int .i64 0,.aq,.int .i64 0,.aq] true st) h.next [.int .i64 n1,w1,.int .i64 n2,w2]:=(bG.push.aO (aH.refl _).push.push)
  have A3:bG (((h.push fun st=> .row [.int .i64 n1,w1,.int .i64 n2,w2] true st).push fun st=> .row [.int .i64 m1,v1,.int .i64 m2,v2] true st).push fun st=> .row [.int .i64 0,.aq,.int .i64 0,.aq] true st) (h.next+1) [.int .i64 m1,v1,.int .i64 m2,v2]:=(bG.push.aO (aH.refl _).push)
  have A4:bG (((h.push fun st=> .row [.int .i64 n1,w1,.int .i64 n2,w2] true st).push fun st=> .row [.int .i64 m1,v1,.int .i64 m2,v2] true st).push fun st=> .row [.int .i64 0,.aq,.int .i64 0,.aq] true st) (h.next+1+1) [.int .i64 0,.aq,.int .i64 0,.aq]:=bG.push;refine Wp.cut 2 rfl ?_;generalize au.post 2 C.B9.code=r at slow⊢
  unfold C.B9;dsimp only[au.pre];repeat'(with_reducible first|simp(disch:=try exact ab) only[go_sem,seval,o1,o2,o3,o4]|(apply aj.i<;>intro hc))
  refine Gv.wp (i241 (ia.aO G)) fun h1 k1 j1 u1=>?_
  by_cases g1:(a.den:Int)=1
  · repeat'(with_reducible first|simp(disch:=try exact ab) only[go_sem,seval,o1,o2,o3,o4,g1]|(apply aj.i<;>intro hc))
    refine Gv.wp (i241 ((ib.aO G).aO aL)) fun h5 k5 j5 u5=>?_
    by_cases g2:(b.den:Int)=1
    · obtain⟨f1,f2⟩:=Qs g1 g2
      repeat'(with_reducible first|simp(disch:=try exact ab) only[go_sem,seval,o1,o2,o3,o4,g2]|(apply aj.i<;>intro hc))
      refine Gp.wp (i121 ((I1.aO G).aO aL) ((I3.aO G).aO aL) (la.1.mono (by decide)) (lb.1.mono (by decide))) fun v h6 k6 j6 u6 I7=>?_
      obtain⟨n7,w7,rfl,o7,I7⟩:=I7.pe;repeat'(with_reducible first|simp(disch:=try exact ab) only[go_sem,seval,o7]|(apply aj.i<;>intro hc))
      refine Gp.wp (i183 I7) fun v h7 k7 j7 u7 I8=>?_
      obtain⟨n9,w9,n10,w10,rfl,o9,UU,I9,I10⟩:=I8.ex;obtain⟨e1,e2⟩:=fB (p:=a.num+b.num);rw[e1]at I9;rw[e2]at I10;repeat'(with_reducible first|simp(disch:=try exact ab) only[go_sem,seval,o9,UU]|(apply aj.i<;>intro hc))
      refine⟨⟨_,_,_,_,rfl,?_,?_⟩,?_⟩
      · rw[f1];exact I9.eZ (by simp(disch:=try exact ab) only[go_sem,seval,aG])
      · rw[f2];exact I10.eZ (by simp(disch:=try exact ab) only[go_sem,seval,aG])
      · exact aL
    · have G5:aH (((h.push fun st=> .row [.int .i64 n1,w1,.int .i64 n2,w2] true st).push fun st=> .row [.int .i64 m1,v1,.int .i64 m2,v2] true st).push fun st=> .row [.int .i64 0,.aq,.int .i64 0,.aq] true st) (((((h.push fun st=> .row [.int .i64 n1,w1,.int .i64 n2,w2] true st).push fun st=> .row [.int .i64 m1,v1,.int .i64 m2,v2] true st).push fun st=> .row [.int .i64 0,.aq,.int .i64 0,.aq] true st).ov h1 u1).ov h5 u5):=by exact aL
      repeat'(with_reducible first|simp(disch:=try exact ab) only[go_sem,seval,o1,o2,o3,o4,g2]|(apply aj.i<;>intro hc))
      exact slow _ _ h.next (h.next+1) (h.next+1+1) aS aS aS (A2.aO G5) (A3.aO G5) (A4.aO G5) (G.trans G5) (by omega)
  · have G5:aH (((h.push fun st=> .row [.int .i64 n1,w1,.int .i64 n2,w2] true st).push fun st=> .row [.int .i64 m1,v1,.int .i64 m2,v2] true st).push fun st=> .row [.int .i64 0,.aq,.int .i64 0,.aq] true st) ((((h.push fun st=> .row [.int .i64 n1,w1,.int .i64 n2,w2] true st).push fun st=> .row [.int .i64 m1,v1,.int .i64 m2,v2] true st).push fun st=> .row [.int .i64 0,.aq,.int .i64 0,.aq] true st).ov h1 u1):=by exact aL
    repeat'(with_reducible first|simp(disch:=try exact ab) only[go_sem,seval,o1,o2,o3,o4,g1]|(apply aj.i<;>intro hc))
    exact slow _ _ h.next (h.next+1) (h.next+1+1) aS aS aS (A2.aO G5) (A3.aO G5) (A4.aO G5) (G.trans G5) (by omega)
end
end
end Go.Ae
namespace Go.Ae
open Bg
noncomputable section
section
variable {h h' hp:Hp}{K:AV→Hp→Prop}{s w s' w':AV}{x y z:Int}{a b r:Rat}{v va vb:AV}{n m:Nat}
theorem i242 (ia:jL h va a)(la:Bd 4000 a):Gp E2 242 [va] h fun v h'=>jL h' v (-a):=by
 obtain⟨n1,w1,n2,w2,rfl,o1,o2,I1,I2⟩:=ia.ex;refine Gp.of (ac.fn (fn:=C.Lh) rfl rfl rfl ?_);unfold C.Lh;repeat'(with_reducible first|simp(disch:=try exact ab) only[go_sem,seval,o1,o2]|(apply aj.i<;>intro hc))
 refine Gp.wp (i200 (I1.aO aL) (la.1.mono (by decide))) fun v h1 k1 j1 u1 I5=>?_
 obtain⟨n5,w5,rfl,o5,I5⟩:=I5.pe;repeat'(with_reducible first|simp(disch:=try exact ab) only[go_sem,seval,o1,o2,o5,tZ o5 o2,cJ]|(apply aj.i<;>intro hc))
 refine⟨⟨_,_,_,_,rfl,?_,?_⟩,?_⟩
 ·exact I5.eZ (by simp(disch:=try exact ab) only[go_sem,seval,aG])
 ·exact(I2.aO aL).eZ (by simp(disch:=try exact ab) only[go_sem,seval,aG])
 ·exact aL
theorem i164 (ia:jL h va a)(ib:jL h vb b)(la:Bd 900 a)(lb:Bd 900 b):Gp E2 164 [va,vb] h fun v h'=>jL h' v (a-b):=by
 obtain⟨n1,w1,n2,w2,rfl,o1,o2,I1,I2⟩:=ia.ex;obtain⟨m1,v1,m2,v2,rfl,o3,o4,I3,I4⟩:=ib.ex;refine Gp.of (ac.fn (fn:=C.a164) rfl rfl rfl ?_);unfold C.a164;repeat'(with_reducible first|simp(disch:=try exact ab) only[go_sem,seval,o1,o2,o3,o4]|(apply aj.i<;>intro hc))
 refine Gp.wp (i242 (ib.aO aL) (lb.mono (by decide))) fun v h1 k1 j1 u1 I5=>?_
 obtain⟨n5,w5,n6,w6,rfl,o5,o6,_⟩:=I5.ex;repeat'(with_reducible first|simp(disch:=try exact ab) only[go_sem,seval,o1,o2,o3,o4,o5,o6]|(apply aj.i<;>intro hc))
 refine Gp.wp (i163 (ia.aO aL) I5 la lb.neg) fun v h3 k3 j3 u3 I7=>?_
 obtain⟨n7,w7,n8,w8,rfl,o7,o8,I7,I8⟩:=I7.ex;rw[←Rat.sub_eq_add_neg]at I7 I8;repeat'(with_reducible first|simp(disch:=try exact ab) only[go_sem,seval,o7,o8]|(apply aj.i<;>intro hc))
 refine⟨⟨_,_,_,_,rfl,?_,?_⟩,?_⟩
 ·exact I7.eZ (by simp(disch:=try exact ab) only[go_sem,seval,aG])
 ·exact I8.eZ (by simp(disch:=try exact ab) only[go_sem,seval,aG])
 ·exact aL
theorem i245 (ia:jL h va a)(la:Bd 3999 a)(h0:a≠0):Gp E2 245 [va] h fun v h'=>jL h' v a⁻¹:=by
 obtain⟨n1,w1,n2,w2,rfl,o1,o2,I1,I2⟩:=ia.ex;refine Gp.of (ac.fn (fn:=C.Lf) rfl rfl rfl ?_);unfold C.Lf;rw[Rat.inv_def];repeat'(with_reducible first|simp(disch:=try exact ab) only[go_sem,seval,o1,o2]|(apply aj.i<;>intro hc))
 refine Gp.wp (i119 (I2.aO aL) (I1.aO aL) la.2 la.1 (by rw[ne_eq,jM];exact h0)) fun v h1 k1 j1 u1 I7=>?_
 obtain⟨n7,w7,n8,w8,rfl,o7,o8,I7,I8⟩:=I7.ex;repeat'(with_reducible first|simp(disch:=try exact ab) only[go_sem,seval,o7,o8]|(apply aj.i<;>intro hc))
 refine⟨⟨_,_,_,_,rfl,?_,?_⟩,?_⟩
 ·exact I7.eZ (by simp(disch:=try exact ab) only[go_sem,seval,aG])
 ·exact I8.eZ (by simp(disch:=try exact ab) only[go_sem,seval,aG])
 ·exact aL
theorem i112 (ia:jL h va a):Gv E2 112 [va] h (.int .i64 (max (-1) (min 1 a.num))):=by
 obtain⟨n1,w1,n2,w2,rfl,o1,o2,I1,I2⟩:=ia.ex;refine Gv.of (ac.fn (fn:=C.LU) rfl rfl rfl ?_);unfold C.LU;repeat'(with_reducible first|simp(disch:=try exact ab) only[go_sem,seval,o1,o2]|(apply aj.i<;>intro hc))
 refine Gv.wp (i194 (I1.aO aL)) fun h1 k1 j1 u1=>?_
 repeat'(with_reducible first|simp(disch:=try exact ab) only[go_sem,seval]|(apply aj.i<;>intro hc))
 exact aL
end
end
end Go.Ae
set_option maxHeartbeats 1000000
set_option exponentiation.threshold 2000
namespace Go.Ae
open Bg N Go.Proofs
noncomputable section
section
variable {h h' hp:Hp}{K:AV→Hp→Prop}{tm:T AV}{v:AV}{z:Int}
theorem Gf (s:List UInt8):Lib.hasPrefix s [45]=decide (s.head?=some 45):=by
 unfold Lib.hasPrefix;cases s with
 |nil=>rfl
 | cons c l=>
  by_cases e:c=45
  ·subst e;simp[List.isPrefixOf]
  ·have:¬(45:UInt8)=c:=fun x=>e x.symm
   simp[List.isPrefixOf,e,this]
theorem FD (s:List UInt8):Lib.trimPrefix s [45]=iC s:=by
 unfold Lib.trimPrefix iC;rw[Gf];by_cases c:s.head?=some 45
 ·rw[decide_eq_true c,if_pos rfl,if_pos c];rfl
 ·rw[decide_eq_false c,if_neg (by decide),if_neg c]
theorem Ei (t:List UInt8):Lib.cut t [47]=(t.take (bR t),t.drop (bR t+1),decide (bR t<t.length)):=by
 by_cases c:bR t<t.length
 ·have hs:=nh c
  have rP:(47:UInt8)∉t.take (bR t):=by
   intro hm
   have e:t.take (bR t)=t.takeWhile (fun b=>decide (b≠47)):=by
    unfold bR;exact(Dx.1 (E4 _)).symm
   rw[e]at hm;have:=bV.1 (List.all_takeWhile (p:=fun b:UInt8=>decide (b≠47)) (l:=t)) 47 hm;simp at this
  rw[decide_eq_true c]
  conv=>lhs;rw[hs]
  exact Eh rP
 ·have hk:=jZ t
  have rP:(47:UInt8)∉t:=by
   intro hm
   have e:t.takeWhile (fun b=>decide (b≠47))=t:=by
    have hp:=Dx.1 (E4 (fun b:UInt8=>decide (b≠47)) (l:=t))
    have:(t.takeWhile (fun b=>decide (b≠47))).length=t.length:=by
     have:bR t=t.length:=by omega
     exact this
    rw[this,bj]at hp;exact hp
   rw[←e]at hm;have:=bV.1 (List.all_takeWhile (p:=fun b:UInt8=>decide (b≠47)) (l:=t)) 47 hm;simp at this
  have e:bR t=t.length:=by omega
  rw[decide_eq_false c,Ej rP,e,bj,List.drop_eq_nil_of_le (by omega)]
theorem Uw {s:List UInt8}:ac E2 258 [.str s,.str [45]] h K↔K (.bool (decide (s.head?=some 45))) h:=by
 rw[ac.fS (p:=L.AX) rfl rfl];have:L.AX [.str s,.str [45]] h=some (.bool (decide (s.head?=some 45)),h):=by rw[←Gf];rfl
 rw[this];exact ax
theorem P4 {s:List UInt8}:ac E2 259 [.str s,.str [45]] h K↔K (.str (iC s)) h:=by
 rw[ac.fS (p:=L.AW) rfl rfl];have:L.AW [.str s,.str [45]] h=some (.str (iC s),h):=by rw[←FD];rfl
 rw[this];exact ax
theorem Uy {s:List UInt8}:ac E2 188 [.str s,.str [45]] h K↔K (.fO [.str (iC s),.bool (decide (s.head?=some 45))]) h:=by
 rw[W2,FD,Gf]
theorem P6 {s:List UInt8}(hs:s.length<4294967281):ac E2 147 [.str s,.str [47]] h K↔K (.fO [.str (s.take (bR s)),.str (s.drop (bR s+1)),.bool (decide (bR s<s.length))]) h:=by
 rw[W9 hs,Ei]
theorem Ux {s:List UInt8}(hd:bI s=true)(h0:¬s=[])(hs:s.length≤18):ac E2 224 [.str s] h K↔K (.fO [.int .i64 (bm s),.jD]) h:=by
 rw[ac.fS (p:=L.qe) rfl rfl]
 have:L.qe [.str s] h=some (.fO [.int .i64 (bm s),.jD],h):=by
  simp only[L.qe,if_pos hs,xE hd h0]
 rw[this];exact ax
theorem mF {n m:Nat}(hn:n<10^m)(hm:m≤2000):fq 110 (n:Int):=by
 unfold fq;rw[aw];have h1:(10:Nat)^m≤10^2000:=aT (by decide) hm;have h2:(10:Nat)^2000≤(2^64)^110:=by decide+kernel
 have h3:((2:Nat)^64)=18446744073709551616:=by decide
 rw[h3]at h2;omega
theorem i191 {s t:List UInt8}(hs:iC s=t)(hd:bI t=true)(hl:t.length≤2000):Gp E2 191 [.str s] h fun v h'=>rF h' v (iB (decide (s.head?=some 45)) (bm t)):=by
 refine Gp.of (ac.fn (fn:=C.Lu) rfl rfl rfl ?_);unfold C.Lu;repeat'(with_reducible first|simp(disch:=try exact ab) only[go_sem,seval,Uw,P4,hs]|(apply aj.i<;>intro hc))
 refine Wp.bW (fun m st=>∃(u:List UInt8) (a:Nat) (m1:Int) (w1:AV),val st.tm (.t 0)= .str u∧val st.tm (.t 2)= .ptr h.next 0∧val st.tm (.t 3)= .bool (decide (s.head?=some 45))∧val st.tm (.t 4)= .ptr (h.next+1) 0∧
  bG st.hp h.next [.int .i64 0,.aq]∧bG st.hp (h.next+1) [.int .i64 m1,w1]∧aH h st.hp∧gj st.hp (.int .i64 m1) w1 (a:Int)∧bI u=true∧u.length≤t.length∧a<10^(t.length-u.length)∧a*10^u.length+bm u=bm t∧u.length=m) (n:=t.length) ?_ ?_
 ·refine⟨t,0,0,.aq,aS,aS,aS,aS,?_,?_,?_,?_,hd,ae _,by simp,by simp,rfl⟩
  ·exact(bG.push.aO (aH.refl _).push).other (by omega)
  ·exact bG.put mJ
  ·exact aL
  ·exact .inl ⟨rfl,rfl,by omega⟩
 ·rintro m ⟨tm,hp⟩ ⟨u,a,m1,w1,h0,h2,h3,h4,⟨s2,g2,c2,t2⟩,⟨s4,g4,c4,t4⟩,hG,Ia,hu,ET,hla,heq,rfl⟩;simp only at h0 h2 h3 h4 g2 g4 c2 c4 t2 t4 hG Ia;obtain⟨_,oa⟩:=Ia.one;by_cases hz:u=[]
  ·subst hz;have eL:(([]:List UInt8).length:Int)=0:=rfl;have ea:a=bm t:=by rw[←heq];show a=a*1+0;omega
   have ZK:fq 110 (a:Int):=mF hla (by omega);rw[ea]at Ia ZK;by_cases hn:s.head?=some 45
   ·rw[decide_eq_true hn]at h3⊢;repeat'(with_reducible first|simp(disch:=try exact ab) only[go_sem,seval,h0,h2,h3,h4,g2,g4,oa,eL,fY]|(apply aj.i<;>intro hc))
    refine Gp.wp (i200 Ia (ZK.mono (by decide))) fun v5 k5 a5 b5 u5 I5=>?_
    obtain⟨m5,w5,rfl,p5,I5⟩:=I5.pe;repeat'(with_reducible first|simp(disch:=try exact ab) only[go_sem,seval,h0,h2,h3,h4,g2,g4,p5]|(apply aj.i<;>intro hc))
    refine⟨⟨_,_,rfl,I5.eZ (by simp(disch:=try exact ab) only[go_sem,seval,aG,g2])⟩,?_⟩;refine aH.put hG.ov (by omega)
   ·rw[decide_eq_false hn]at h3⊢;repeat'(with_reducible first|simp(disch:=try exact ab) only[go_sem,seval,h0,h2,h3,h4,g2,g4,oa,eL,fY]|(apply aj.i<;>intro hc))
    refine⟨⟨_,_,rfl,Ia.eZ (by simp(disch:=try exact ab) only[go_sem,seval,aG,g2])⟩,?_⟩;refine aH.put hG (by omega)
  ·have hp':(0:Int)<u.length:=by
    have:=fV.2 hz;omega
   obtain⟨n,V8,ZX,hn3,hn4⟩:∃n:Nat,1≤n∧n≤18∧n≤u.length∧(n:Int)=min 18 (u.length:Int):=by
    have:=fV.2 hz;refine⟨min 18 u.length,by omega,by omega,by omega,by omega⟩
   have htk:=rU hu n;have hdk:=rV hu n;have ltk:(u.take n).length=n:=by rw[az];omega
   have ldk:(u.drop n).length=u.length-n:=by rw[bP]
   have hne:¬u.take n=[]:=fun e=>by rw[e]at ltk;simp at ltk;omega
   have cA:=fun{h:Hp} {K:AV→Hp→Prop}=>Ux (h:=h) (K:=K) htk hne (by omega)
   have vlt:=iu htk;rw[ltk]at vlt;have e18:(10:Nat)^n≤10^18:=aT (by decide) ZX;rw[show(10:Nat)^18=1000000000000000000 from rfl]at e18;have hp0:0<(10:Nat)^n:=Nat.pow_pos (by decide)
   have hua:bm u=bm (u.take n)*10^(u.length-n)+bm (u.drop n):=by
    conv=>lhs;rw[←fD n u,nJ,ldk]
   have hnl:(n:Int)≤u.length:=by omega
   have hn0:(0:Int)≤n:=by omega
   have nn:((n:Int)).toNat=n:=gD n;have VO:(t.length-u.length)+n=t.length-(u.drop n).length:=by rw[ldk];omega
   have RF:a*10^n+bm (u.take n)<10^(t.length-(u.drop n).length):=by
    rw[←VO,dm];have:(a+1)*10^n≤10^(t.length-u.length)*10^n:=aM _ hla;rw[bh]at this;omega
   have la:fq 110 (a:Int):=mF hla (by omega);have l10:fq 1 ((10^n:Nat):Int):=fq.small (by omega);have lv:fq 1 ((bm (u.take n):Nat):Int):=fq.small (by omega);have la':fq 110 ((a*10^n+bm (u.take n):Nat):Int):=mF RF (by omega);have Wb:min 18 (u.length:Int)=n:=hn4.symm
   repeat'(with_reducible first|simp(disch:=try exact ab) only[go_sem,seval,h0,h2,h3,h4,g2,g4,oa,hp',Wb,nn,hnl,hn0,cA]|(refine Gv.wp (Ew) fun _ _ _ _=>?_)|(refine Gv.wp (SH (a:=10) (k:=n) (by decide) (by omega) (by omega)) fun _ _ _ _=>?_)|(apply aj.i<;>intro hc))
   refine Gp.wp (i195 (Ia.aO aL) (.inl ⟨rfl,rfl,by omega⟩) (la.mono (by decide)) (l10.mono (by decide))) fun v5 k5 a5 b5 u5 I5=>?_
   obtain⟨m5,w5,rfl,p5,I5⟩:=I5.pe;repeat'(with_reducible first|simp(disch:=try exact ab) only[go_sem,seval,h0,h2,h3,h4,g2,g4,p5,nn,hnl,hn0]|(refine Gv.wp (Ew) fun _ _ _ _=>?_)|(apply aj.i<;>intro hc))
   have l5:fq 111 ((a:Int)*((10^n:Nat):Int)):=la.mul l10;refine Gp.wp (i121 (I5.aO aL) (.inl ⟨rfl,rfl,by omega⟩) (l5.mono (by decide)) (lv.mono (by decide))) fun v6 k6 a6 b6 u6 I6=>?_
   obtain⟨m6,w6,rfl,p6,I6⟩:=I6.pe;have ez:(a:Int)*((10^n:Nat):Int)+((bm (u.take n):Nat):Int)=((a*10^n+bm (u.take n):Nat):Int):=by rw[Int.natCast_add,Int.natCast_mul]
   rw[ez]at I6;repeat'(with_reducible first|simp(disch:=try exact ab) only[go_sem,seval,h0,h2,h3,h4,g2,g4,p6,nn,hnl,hn0]|(apply aj.i<;>intro hc))
   refine⟨(u.drop n).length,by rw[ldk];omega,u.drop n,a*10^n+bm (u.take n),m6,w6,rfl,?_,?_,?_,?_,hdk,by rw[ldk];omega,RF,?_,rfl⟩
   ·refine bG.other ?_ (by omega);exact bG.aO (h:=hp) ⟨s2,g2,c2,t2⟩ aL
   ·exact bG.put mJ
   ·refine aH.put (hG.trans ?_) (by omega);exact aL
   ·exact I6.eZ (by simp(disch:=try exact ab) only[go_sem,seval,aG,g4])
   ·rw[ldk,←heq,hua,bh,Nat.mul_assoc,←dm,show n+(u.length-n)=u.length by omega];omega
end
end
end Go.Ae
namespace Go.Ae
open Bg N Go.Proofs
noncomputable section
section
variable {h h' hp:Hp}{K:AV→Hp→Prop}{tm:T AV}{v:AV}{z:Int}
theorem Jc {l:List UInt8}(hd:bI l=true):iC l=l∧decide (l.head?=some 45)=false:=by
 have:¬l.head?=some 45:=by
  intro e;match l,e,hd with
  | c ::r,e,hd=>
   have hc:fJ c=true:=by
    unfold bI at hd;exact(bV.1 hd) c (by simp)
   have:c=45:=by simpa using e
   subst this;exact absurd hc (by decide)
 exact⟨if_neg this,decide_eq_false this⟩
theorem MH {t:List UInt8}(hd:bI t=true)(hl:t.length≤2000):Gp E2 191 [.str t] h fun v h'=>rF h' v (bm t:Nat):=by
 obtain⟨h1,h2⟩:=Jc hd;have:=i191 (h:=h) (s:=t) h1 hd hl;rw[h2]at this;exact this
theorem Ie {N D:List UInt8}(hd1:cK N=true)(hd2:cK D=true)(h5:val tm (.t 5)= .str N)(h6:val tm (.t 6)= .str D)(h7:val tm (.t 7)= .bool true)(hG:aH h hp)(lN:N.length≤600)(lD:D.length≤600):
  Wp E2 (au.post 1 (au.post 5 C.uE.code)) ⟨tm,hp⟩ (gy [.tmp 2] fun v h'=>v= .int .i64 (if eA (bm N) (bm D)≠1 then 1 else 0)∧aH h h'):=by
 unfold C.uE;dsimp only[au.post];have l1:fq 110 ((bm N:Nat):Int):=mF (iu (eN hd1).2.1) (by omega);have l2:fq 110 ((bm D:Nat):Int):=mF (iu (eN hd2).2.1) (by omega);repeat'(with_reducible first|simp(disch:=try exact ab) only[go_sem,seval,h5,h6,h7]|(apply aj.i<;>intro hc))
 refine Gp.wp (MH (eN hd1).2.1 (by omega)) fun v1 k1 a1 b1 u1 I1=>?_
 obtain⟨m1,w1,rfl,p1,I1⟩:=I1.pe;repeat'(with_reducible first|simp(disch:=try exact ab) only[go_sem,seval,h5,h6,h7,p1]|(apply aj.i<;>intro hc))
 refine Gp.wp (MH (eN hd2).2.1 (by omega)) fun v2 k2 a2 b2 u2 I2=>?_
 obtain⟨m2,w2,rfl,p2,I2⟩:=I2.pe;repeat'(with_reducible first|simp(disch:=try exact ab) only[go_sem,seval,h5,h6,h7,p1,p2]|(apply aj.i<;>intro hc))
 refine Gp.wp (i190 (I1.ov (g:=u2)) I2 (l1.mono (by decide)) (l2.mono (by decide))) fun v3 k3 a3 b3 u3 I3=>?_
 obtain⟨m3,w3,rfl,p3,I3⟩:=I3.pe
 have lg:fq 111 ((cG ((bm N:Nat):Int) ((bm D:Nat):Int):Nat):Int):=by
  rcases aE (bm D)with e|e
  ·have:cG ((bm N:Nat):Int) ((bm D:Nat):Int)=bm N:=by rw[e];exact Nat.gcd_zero_right _
   rw[this];exact l1.mono (by decide)
  ·refine(l2.le (y:=((cG ((bm N:Nat):Int) ((bm D:Nat):Int):Nat):Int)) ?_).mono (by decide);rw[aw,aw];exact Nat.gcd_le_right _ e
 have eg:cG ((bm N:Nat):Int) ((bm D:Nat):Int)=eA (bm N) (bm D):=rfl;rw[eg]at I3 lg;repeat'(with_reducible first|simp(disch:=try exact ab) only[go_sem,seval,h5,h6,h7,p3]|(refine Gv.wp (Ew) fun _ _ _ _=>?_)|(apply aj.i<;>intro hc))
 refine Gv.wp (i192 (I3.aO aL) (.inl ⟨rfl,rfl,by omega⟩) (lg.mono (by decide)) ((fq.small (n:=1) (by omega)).mono (by decide))) fun h4 k4 j4 u4=>?_
 by_cases hc:eA (bm N) (bm D)=1
 ·have ec:Eo ((eA (bm N) (bm D):Nat):Int) 1=0:=by rw[hc];rfl
  rw[if_neg (by simpa using hc)];repeat'(with_reducible first|simp(disch:=try exact ab) only[go_sem,seval,h5,h6,h7,ec,lP]|(apply aj.i<;>intro hc))
  refine hG.trans ?_;exact aL
 ·have ec:¬Eo ((eA (bm N) (bm D):Nat):Int) 1=0:=by
   unfold Eo;split
   ·omega
   ·split
    ·omega
    ·intro _;omega
  rw[if_pos hc];repeat'(with_reducible first|simp(disch:=try exact ab) only[go_sem,seval,h5,h6,h7,ec,lP]|(apply aj.i<;>intro hc))
  refine hG.trans ?_;exact aL
theorem KB {N D:List UInt8}{bk f:Bool}(h5:val tm (.t 5)= .str N)(h6:val tm (.t 6)= .str D)(h7:val tm (.t 7)= .bool bk)(h8:val tm (.t 8)= .bool f)(hN:f=true→cK N=true)(hD:f=true→bk=true→cK D=true)(lN:N.length≤1000000)(lD:D.length≤1000000):
  Wp E2 (C.uE.code.post 5) ⟨tm,h⟩ (gy [.tmp 2] fun v h'=>v= .int .i64 (if f=false then 1 else if 600<N.length∨600<D.length then 4 else if bk=true∧eA (bm N) (bm D)≠1 then 1 else 0)∧aH h h'):=by
 have last:=fun(hp:Hp) tm hd1 hd2 h5 h6 h7 hG a b=>Ie (h:=h) (hp:=hp) (tm:=tm) (N:=N) (D:=D) hd1 hd2 h5 h6 h7 hG a b
 have f1:∀a,kp 1 a=1:=fun a=>rfl
 have f2:kp 0 4=4:=rfl;have f3:kp 0 0=0:=rfl;refine Wp.cut 1 rfl ?_;obtain⟨rc,Rt⟩:∃rc,rc=au.post 1 (au.post 5 C.uE.code):=⟨_,rfl⟩
 rw[←Rt]at last⊢
 have fast:∀(hp:Hp) (tm:T AV),val tm (.t 7)= .bool false→aH h hp→Wp E2 rc ⟨tm,hp⟩ (gy [.tmp 2] fun v h'=>v= .int .i64 0∧aH h h'):=by
  intro hp tm h7 hG;rw[Rt];unfold C.uE;dsimp only[au.post];repeat'(with_reducible first|simp(disch:=try exact ab) only[go_sem,seval,h7,lP]|(apply aj.i<;>intro hc))
  exact hG
 unfold C.uE;dsimp only[au.post,au.pre];cases f with
 | false=>
  rw[if_pos rfl];by_cases c1:600<N.length
  ·have c1':(600:Int)<N.length:=by omega
   repeat'(with_reducible first|simp(disch:=try exact ab) only[go_sem,seval,h5,h6,h7,h8,c1',lP,f1]|(refine Gv.wp (pN (a:=1) (b:=4) Hp.cu mJ) fun _ _ _ _=>?_)|(apply aj.i<;>intro hc))
   exact aL
  ·have c1':¬(600:Int)<N.length:=by omega
   by_cases c2:600<D.length
   ·have uv:(600:Int)<D.length:=by omega
    repeat'(with_reducible first|simp(disch:=try exact ab) only[go_sem,seval,h5,h6,h7,h8,c1',uv,lP,f1]|(refine Gv.wp (pN (a:=1) (b:=4) Hp.cu mJ) fun _ _ _ _=>?_)|(apply aj.i<;>intro hc))
    exact aL
   ·have uv:¬(600:Int)<D.length:=by omega
    repeat'(with_reducible first|simp(disch:=try exact ab) only[go_sem,seval,h5,h6,h7,h8,c1',uv,lP,f1]|(refine Gv.wp (pN (a:=1) (b:=0) Hp.cu mJ) fun _ _ _ _=>?_)|(apply aj.i<;>intro hc))
    exact aL
 | true=>
  rw[if_neg (by decide)];by_cases c1:600<N.length
  ·have c1':(600:Int)<N.length:=by omega
   rw[if_pos (Or.inl c1)];repeat'(with_reducible first|simp(disch:=try exact ab) only[go_sem,seval,h5,h6,h7,h8,c1',lP,f2]|(refine Gv.wp (pN (a:=0) (b:=4) Hp.cu mJ) fun _ _ _ _=>?_)|(apply aj.i<;>intro hc))
   exact aL
  ·have c1':¬(600:Int)<N.length:=by omega
   by_cases c2:600<D.length
   ·have uv:(600:Int)<D.length:=by omega
    rw[if_pos (Or.inr c2)];repeat'(with_reducible first|simp(disch:=try exact ab) only[go_sem,seval,h5,h6,h7,h8,c1',uv,lP,f2]|(refine Gv.wp (pN (a:=0) (b:=4) Hp.cu mJ) fun _ _ _ _=>?_)|(apply aj.i<;>intro hc))
    exact aL
   ·have uv:¬(600:Int)<D.length:=by omega
    rw[if_neg (by omega)];repeat'(with_reducible first|simp(disch:=try exact ab) only[go_sem,seval,h5,h6,h7,h8,c1',uv,lP,f3]|(refine Gv.wp (pN (a:=0) (b:=0) Hp.cu mJ) fun _ _ _ _=>?_)|(apply aj.i<;>intro hc))
    cases bk with
    | false=>
     rw[if_neg (by simp)];exact fast _ _ (by simp(disch:=try exact ab) only[go_sem,seval,h7]) aL
    | true=>
     have eb:(if(true=true∧eA (bm N) (bm D)≠1)then(1:Int)else 0)=if eA (bm N) (bm D)≠1 then 1 else 0:=by simp
     rw[eb];exact last _ _ (hN rfl) (hD rfl rfl) (by simp(disch:=try exact ab) only[go_sem,seval,h5]) (by simp(disch:=try exact ab) only[go_sem,seval,h6]) (by simp(disch:=try exact ab) only[go_sem,seval,h7]) aL (by omega) (by omega)
theorem i101 {s :List UInt8}(hs:s.length≤1000000):Gv E2 101 [.str s] h (.int .i64 (fm s)):=by
 refine Gv.of (ac.fn (fn:=C.uE) rfl rfl rfl ?_)
 have hu:(iC s).length≤s.length:=by
  unfold iC;split
  ·rw[bP];omega
  ·exact ae _
 have hk:=jZ (iC s);have lN:(fz s).length≤1000000:=by unfold fz;rw[az];omega
 have lD:(gT s).length≤1000000:=by unfold gT;rw[bP];omega
 have tail:=fun tm bk f h5 h6 h7 h8 hN hD=>KB (h:=h) (tm:=tm) (N:=fz s) (D:=gT s) (bk:=bk) (f:=f) h5 h6 h7 h8 hN hD lN lD
 have cc:=fun{h:Hp} {K:AV→Hp→Prop}=>P6 (h:=h) (K:=K) (s:=iC s) (by omega)
 have e1:(iC s).take (bR (iC s))=fz s:=rfl;have e2:(iC s).drop (bR (iC s)+1)=gT s:=rfl;have e3:decide (bR (iC s)<(iC s).length)=ve s:=rfl;rw[e1,e2,e3]at cc;have cn:=fun{h:Hp} {K:AV→Hp→Prop}=>f189 (h:=h) (K:=K) (s:=fz s) (by omega)
 have cd:=fun{h:Hp} {K:AV→Hp→Prop}=>f189 (h:=h) (K:=K) (s:=gT s) (by omega)
 have ecv:fm s=if pc s=false then 1 else if 600<(fz s).length∨600<(gT s).length then 4 else if ve s=true∧eA (bm (fz s)) (bm (gT s))≠1 then 1 else 0:=rfl
 have efm:pc s=(cK (fz s)&&(!(decide (s.head?=some 45))||decide (fz s≠[48]))&&(!(ve s)||(cK (gT s)&&decide (gT s≠[48])&&decide (gT s≠[49])))):=rfl;rw[ecv];generalize hng:decide (s.head?=some 45)=ng at efm
 have c8:=fun{h:Hp} {K:AV→Hp→Prop}=>Uy (h:=h) (K:=K) (s:=s)
 rw[hng]at c8;refine Wp.cut 5 rfl ?_;generalize au.post 5 C.uE.code=rc at tail⊢
 unfold C.uE;dsimp only[au.pre];generalize fz s=N at *
 generalize gT s=D at *
 generalize ve s=bk at *
 clear hu hk e1 e2 e3;have num:∃f1:Bool,f1=(cK N&&(!ng||decide (N≠[48]))):=⟨_,rfl⟩
 obtain⟨f1,hf1⟩:=num;have den:∃f2:Bool,f2=(cK D&&decide (D≠[48])&&decide (D≠[49])):=⟨_,rfl⟩
 obtain⟨f2,Ay⟩:=den;rw[←hf1,←Ay]at efm;rw[efm];obtain⟨res,Bu⟩:∃res:Bool→Int,∀b,res b=(if b=false then 1 else if 600<N.length∨600<D.length then 4 else if bk=true∧eA (bm N) (bm D)≠1 then 1 else 0):=⟨fun b=>_,fun b=>rfl⟩
 rw[←Bu (f1&&(!bk||f2))];have hN1:f1=true→cK N=true:=fun e=>by rw[hf1]at e;simp only[bz]at e;exact e.1
 have hD1:f2=true→cK D=true:=fun e=>by rw[Ay]at e;simp only[bz]at e;exact e.1.1
 have go:∀(tm:T AV),val tm (.t 5)= .str N→val tm (.t 6)= .str D→val tm (.t 7)= .bool bk→val tm (.t 8)= .bool (f1&&(!bk||f2))→Wp E2 rc ⟨tm,h⟩ (gy [.tmp 2] fun v' h'=>v'= .int .i64 (res (f1&&(!bk||f2)))∧aH h h'):=fun tm h5 h6 h7 h8=>by
  rw[Bu];exact tail tm bk (f1&&(!bk||f2)) h5 h6 h7 h8 (fun e=>hN1 (by simp only[bz]at e;exact e.1)) (fun e b=>hD1 (by subst b;simp only[bz,Bool.or_eq_true,Bool.not_true,bZ,false_or]at e;exact e.2))
 cases hdn:cK N with
 | false=>
  rw[hdn]at cn;cases bk with
  | false=>
   have g8:(f1&&(!false||f2))=false:=by rw[hf1,Ay];simp[hdn]
   rw[g8]at go⊢;repeat'(with_reducible first|simp(disch:=try exact ab) only[go_sem,seval,c8,cc,cn,cd]|(apply aj.i<;>intro hc))
   exact go _ aS aS aS (by(simp(disch:=try exact ab) only[go_sem,seval])<;>rfl)
  | true=>
   have g8:(f1&&(!true||f2))=false:=by rw[hf1,Ay];simp[hdn]
   rw[g8]at go⊢;repeat'(with_reducible first|simp(disch:=try exact ab) only[go_sem,seval,c8,cc,cn,cd]|(apply aj.i<;>intro hc))
   exact go _ aS aS aS (by(simp(disch:=try exact ab) only[go_sem,seval])<;>rfl)
 | true=>
  rw[hdn]at cn;cases ng with
  | false =>
   cases bk with
   | false=>
    have g8:(f1&&(!false||f2))=true:=by rw[hf1,Ay];simp[hdn]
    rw[g8]at go⊢;repeat'(with_reducible first|simp(disch:=try exact ab) only[go_sem,seval,c8,cc,cn,cd]|(apply aj.i<;>intro hc))
    exact go _ aS aS aS (by(simp(disch:=try exact ab) only[go_sem,seval])<;>rfl)
   | true=>
    cases hdd:cK D with
    | false=>
     rw[hdd]at cd;have g8:(f1&&(!true||f2))=false:=by rw[hf1,Ay];simp[hdn,hdd]
     rw[g8]at go⊢;repeat'(with_reducible first|simp(disch:=try exact ab) only[go_sem,seval,c8,cc,cn,cd]|(apply aj.i<;>intro hc))
     exact go _ aS aS aS (by(simp(disch:=try exact ab) only[go_sem,seval])<;>rfl)
    | true=>
     rw[hdd]at cd;by_cases d48:D=[48]
     ·subst d48;have g8:(f1&&(!true||f2))=false:=by rw[hf1,Ay];simp[hdn,hdd]
      rw[g8]at go⊢;repeat'(with_reducible first|simp(disch:=try exact ab) only[go_sem,seval,c8,cc,cn,cd]|(apply aj.i<;>intro hc))
      exact go _ aS aS aS (by(simp(disch:=try exact ab) only[go_sem,seval])<;>rfl)
     ·by_cases d49:D=[49]
      ·subst d49;have g8:(f1&&(!true||f2))=false:=by rw[hf1,Ay];simp[hdn,hdd,d48]
       rw[g8]at go⊢;repeat'(with_reducible first|simp(disch:=try exact ab) only[go_sem,seval,c8,cc,cn,cd,d48]|(apply aj.i<;>intro hc))
       exact go _ aS aS aS (by(simp(disch:=try exact ab) only[go_sem,seval])<;>rfl)
      ·skip
       have g8:(f1&&(!true||f2))=true:=by rw[hf1,Ay];simp[hdn,hdd,d48,d49]
       rw[g8]at go⊢;repeat'(with_reducible first|simp(disch:=try exact ab) only[go_sem,seval,c8,cc,cn,cd,d48,d49]|(apply aj.i<;>intro hc))
       exact go _ aS aS aS (by(simp(disch:=try exact ab) only[go_sem,seval])<;>rfl)
  | true=>
   by_cases GP:N=[48]
   ·subst GP;cases bk with
    | false=>
     have g8:(f1&&(!false||f2))=false:=by rw[hf1,Ay];simp[hdn]
     rw[g8]at go⊢;repeat'(with_reducible first|simp(disch:=try exact ab) only[go_sem,seval,c8,cc,cn,cd]|(apply aj.i<;>intro hc))
     exact go _ aS aS aS (by(simp(disch:=try exact ab) only[go_sem,seval])<;>rfl)
    | true=>
     have g8:(f1&&(!true||f2))=false:=by rw[hf1,Ay];simp[hdn]
     rw[g8]at go⊢;repeat'(with_reducible first|simp(disch:=try exact ab) only[go_sem,seval,c8,cc,cn,cd]|(apply aj.i<;>intro hc))
     exact go _ aS aS aS (by(simp(disch:=try exact ab) only[go_sem,seval])<;>rfl)
   ·skip
    cases bk with
    | false=>
     have g8:(f1&&(!false||f2))=true:=by rw[hf1,Ay];simp[hdn,GP]
     rw[g8]at go⊢;repeat'(with_reducible first|simp(disch:=try exact ab) only[go_sem,seval,c8,cc,cn,cd,GP]|(apply aj.i<;>intro hc))
     exact go _ aS aS aS (by(simp(disch:=try exact ab) only[go_sem,seval])<;>rfl)
    | true=>
     cases hdd:cK D with
     | false=>
      rw[hdd]at cd;have g8:(f1&&(!true||f2))=false:=by rw[hf1,Ay];simp[hdn,hdd,GP]
      rw[g8]at go⊢;repeat'(with_reducible first|simp(disch:=try exact ab) only[go_sem,seval,c8,cc,cn,cd,GP]|(apply aj.i<;>intro hc))
      exact go _ aS aS aS (by(simp(disch:=try exact ab) only[go_sem,seval])<;>rfl)
     | true=>
      rw[hdd]at cd;by_cases d48:D=[48]
      ·subst d48;have g8:(f1&&(!true||f2))=false:=by rw[hf1,Ay];simp[hdn,hdd,GP]
       rw[g8]at go⊢;repeat'(with_reducible first|simp(disch:=try exact ab) only[go_sem,seval,c8,cc,cn,cd,GP]|(apply aj.i<;>intro hc))
       exact go _ aS aS aS (by(simp(disch:=try exact ab) only[go_sem,seval])<;>rfl)
      ·by_cases d49:D=[49]
       ·subst d49;have g8:(f1&&(!true||f2))=false:=by rw[hf1,Ay];simp[hdn,hdd,d48,GP]
        rw[g8]at go⊢;repeat'(with_reducible first|simp(disch:=try exact ab) only[go_sem,seval,c8,cc,cn,cd,d48,GP]|(apply aj.i<;>intro hc))
        exact go _ aS aS aS (by(simp(disch:=try exact ab) only[go_sem,seval])<;>rfl)
       ·skip
        have g8:(f1&&(!true||f2))=true:=by rw[hf1,Ay];simp[hdn,hdd,d48,d49,GP]
        rw[g8]at go⊢;repeat'(with_reducible first|simp(disch:=try exact ab) only[go_sem,seval,c8,cc,cn,cd,d48,d49,GP]|(apply aj.i<;>intro hc))
        exact go _ aS aS aS (by(simp(disch:=try exact ab) only[go_sem,seval])<;>rfl)
end
end
end Go.Ae
set_option exponentiation.threshold 5000
namespace Go.Ae
open Bg N Go.Proofs
noncomputable section
section
variable {h h' hp:Hp}{K:AV→Hp→Prop}{tm:T AV}{v va s w:AV}{z z':Int}{a:Rat}
theorem Fj {kd:IntKind}:∀{L M:List Nat},L.map (wd kd)=M.map (wd kd)→L=M
 |[],[],_=>rfl
 | x::L,y::M,e=>by
  simp only[eH,iT,wd,AV.int.injEq,true_and]at e;rw[show x=y by omega,Fj e.2]
 |[],_::_,e=>by simp at e
 |_::_,[],e=>by simp at e
theorem Sq.uniq {t o n:Nat}{l l':List Nat}(S:Sq .u64 h (.sl t o n 1) l)(S':Sq .u64 h (.sl t o n 1) l'):l=l':=by
 rcases S with⟨e,_⟩|⟨t1,o1,se,st1,L1,e1,g1,h1,h2,_⟩
 ·cases e
 ·rcases S' with⟨e,_⟩|⟨t2,o2,own2,Zy,L2,e2,g2,h3,h4,_⟩
  ·cases e
  ·injection e1 with q1 q2 q3
   injection e2 with r1 r2 r3
   subst q1;subst q2;subst r1;subst r2;rw[g1]at g2;have e:=aa g2;injection e with e
   have:=Fj e;subst this;rw[←h2,←h4,←q3,←r3]
theorem gj.uniq (i:gj h s w z)(j:gj h s w z'):z=z':=by
 rcases i with⟨rfl,rfl,_⟩|⟨n,t,o,l,rfl,S,_,_,_,_,c⟩
 ·rcases j with⟨e,_,_⟩|⟨_,_,_,_,e,_⟩
  ·injection e
  ·cases e
 ·rcases j with⟨_,e,_⟩|⟨n',t',o',l',e,S',_,_,_,_,c'⟩
  ·cases e
  ·injection e with q1 q2 q3
   subst q1;subst q2;subst q3;have:=S.uniq S';subst this;rcases c with⟨rfl,rfl⟩|⟨rfl,rfl⟩
   ·rcases c' with⟨_,rfl⟩|⟨e,_⟩
    ·rfl
    ·injection e with _ e;exact absurd e (by decide)
   ·rcases c' with⟨e,_⟩|⟨_,rfl⟩
    ·injection e with _ e;exact absurd e (by decide)
    ·rfl
theorem vK (n:Int):Lib.itoa n=bB n:=by
 unfold bB;by_cases c:n<0
 ·obtain⟨u,rfl⟩:∃u:Nat,n= -(u:Int):=⟨n.natAbs,by omega⟩
  rw[if_pos c,Lib.itoa_neg u (by omega),kO,Int.natAbs_neg,aw]
 ·obtain⟨u,rfl⟩:∃u:Nat,n=(u:Int):=⟨n.natAbs,by omega⟩
  rw[if_neg c,Lib.itoa_nonneg u,kO,aw]
def vD:Prim:=fun args h=>
 open Classical in if hx:∃z:Int,∃s w,args=[.agg [s,w]]∧gj h s w z∧fq 3999 z then some (.str (bB hx.choose),h)else none
theorem yF (i:gj h s w z)(lz:fq 3999 z):vD [.agg [s,w]] h=some (.str (bB z),h):=by
 have hx:∃z:Int,∃s' w',[AV.agg [s,w]]=[.agg [s',w']]∧gj h s' w' z∧fq 3999 z:=⟨z,s,w,rfl,i,lz⟩
 unfold vD;rw[dif_pos hx];obtain⟨s',w',e,j,_⟩:=hx.choose_spec;simp only[iT,AV.agg.injEq,and_true]at e;obtain⟨rfl,rfl⟩:=e;rw[i.uniq j]
theorem yG {args:List AV}(hv:vD args h=some (v,h')):∃z s w,args=[.agg [s,w]]∧gj h s w z∧fq 3999 z∧v= .str (bB z)∧h'=h:=by
 unfold vD at hv;split at hv
 ·rename_i hx;obtain⟨rfl,rfl⟩:=ai hv;obtain⟨s,w,e,i,l⟩:=hx.choose_spec;exact⟨_,s,w,e,i,l,rfl,rfl⟩
 ·cases hv
def EX:Env:=E3.pX 264 vD
theorem PM:Gq E3 EX:=by
 refine Gq.pX (q:=DO) rfl fun args h x hx=>?_
 unfold DO at hx;split at hx
 ·rename_i n;split at hx
  ·rename_i hn;obtain rfl:=aa hx;rw[vK];exact yF (.inl ⟨rfl,rfl,hn⟩) ((fq.small hn).mono (by decide))
  ·cases hx
 ·cases hx
theorem WJ {W0:World}{base:Nat}(G:L.kz W0 base):fC Tryz.prog W0 base EX:=by
 refine((OR G).add R.xh).pX fun args h v h' hv=>?_
 obtain⟨z,s,w,rfl,i,l,rfl,rfl⟩:=yG hv;refine⟨bH.refl _,fun ρ wd B R hok=>?_⟩;rcases id i with⟨rfl,rfl,hz⟩|⟨n,t,o,li,rfl,_,_,_,_,_,c⟩
 ·have:DO [.agg [.int .i64 z,.aq]] h'=some (.str (Lib.itoa z),h'):=if_pos hz;rw[←vK];exact(Q8 G _ _ _ _ this).2 ρ wd B R
 ·rcases c with⟨rfl,_⟩|⟨rfl,_⟩
  ·exact yf G B R i l hok
  ·exact yf G B R i l hok
theorem x3 {f:Nat}{args:List AV}{v:AV}(hc:Gv E3 f args h v):Gv EX f args h v:=hc.gq PM
theorem x2 {f:Nat}{args:List AV}{v:AV}(hc:Gv E2 f args h v):Gv EX f args h v:=(gu3 hc).gq PM
theorem Ul {f:Nat}{args:List AV}{p:AV→Hp→Prop}(hc:Gp E2 f args h p):Gp EX f args h p:=by
 obtain⟨v,h',h1,h2,h3⟩:=hc;exact⟨v,h',(h1.ge MT).gq PM,h2,h3⟩
theorem TH {f:Nat}{args:List AV}{h':Hp}{v:AV}(hc:∀K,ac E3 f args h K↔K v h'):ac EX f args h K↔K v h':=Zv PM hc
theorem PT {f:Nat}{args:List AV}{h':Hp}{v:AV}(hc:∀K,ac E2 f args h K↔K v h'):ac EX f args h K↔K v h':=Zv PM fun K=>up MT hc
theorem No (i:gj h s w z)(lz:fq 3999 z):ac EX 264 [.agg [s,w]] h K↔K (.str (bB z)) h:=by
 rw[ac.fS (p:=vD) rfl rfl,yF i lz];exact ax
theorem i199 {m:Nat}(ix:gj h s w z)(lz:fq m z)(hm:m≤4000):Gp E2 199 [.agg [s,w]] h fun v h'=>∃b:Nat,v= .int .i64 b∧z.natAbs<2^b∧b≤64*m:=by
 obtain⟨o1,o2⟩:=ix.one;obtain⟨m1,rfl⟩:=ix.fst;refine Gp.of (ac.fn (fn:=C.Lt) rfl rfl rfl ?_);unfold C.Lt;repeat'(with_reducible first|simp(disch:=try exact ab) only[go_sem,seval,o1,o2]|(apply aj.i<;>intro hc))
 refine Gp.wp (vd (ix.aO aL)) fun v k a b u ⟨w',l,e0,S0,D0,N0,V0,L0⟩=>?_
 subst e0;have ln:=S0.rd.len;have ad:=S0.rd.jn;by_cases hz:l=[]
 ·subst hz;simp only[List.length_nil]at ln;have e0:((0:Nat):Int)=0:=rfl;repeat'(with_reducible first|simp(disch:=try exact ab) only[go_sem,seval,ln,e0]|(apply aj.i<;>intro hc))
  rw[jG]at V0;refine⟨⟨0,rfl,by rw[←V0];decide,aJ _⟩,?_⟩;exact aL
 ·have hlp:=fV.2 hz;have Wd:=lz.len N0 V0;have PB:=S0.rd.load (l.length-1) (by omega);have i1:((l.length:Int)-1).toNat=l.length-1:=by omega
  have ZS:=Dg.getD (B:=18446744073709551616) (by decide) D0 (l.length-1);have hne:¬(l.length:Int)=0:=by omega
  have hb:=lQ (n:=l.getD (l.length-1) 0) (k:=64) ZS;have c6:=fun{h:Hp} {K:AV→Hp→Prop}=>SC (h:=h) (K:=K) (x:=l.getD (l.length-1) 0) (by omega)
  have w1:IntKind.wrap .i64 (64*((l.length:Int)-1))=64*((l.length:Int)-1):=wrap_i64 (by omega);have w2:IntKind.wrap .i64 (64*((l.length:Int)-1)+(bitLen (l.getD (l.length-1) 0):Nat))=((64*(l.length-1)+bitLen (l.getD (l.length-1) 0):Nat):Int):=by rw[wrap_i64 (by omega)];omega
  repeat'(with_reducible first|simp(disch:=try exact ab) only[go_sem,seval,ln,ad,PB,i1,hne,c6,w1,w2]|(apply aj.i<;>intro hc))
  refine⟨⟨_,rfl,?_,by omega⟩,?_⟩
  ·have hv1:=bg (B:=18446744073709551616) (l:=l) (i:=l.length-1) (by omega);rw[show l.length-1+1=l.length by omega,bj]at hv1;have hv2:=gI (B:=18446744073709551616) (by decide) (D0.take (n:=l.length-1));rw[az,cD (by omega)]at hv2;have hb2:=bitLen_le (ae (bitLen (l.getD (l.length-1) 0)))
   have e64:(18446744073709551616:Nat)^(l.length-1)=2^(64*(l.length-1)):=by rw[show(18446744073709551616:Nat)=2^64 from rfl,←mH]
   rw[←V0,hv1,dm,←e64];have:18446744073709551616^(l.length-1)*(l.getD (l.length-1) 0+1)≤18446744073709551616^(l.length-1)*2^bitLen (l.getD (l.length-1) 0):=aD _ hb2;rw[Nat.mul_add,Nat.mul_one]at this;omega
  ·exact aL
theorem PV (ix:gj h s w z)(lz:fq 3999 z):Gv EX 216 [.agg [s,w]] h (.bool (decide (10^600≤z.natAbs))):=by
 obtain⟨o1,o2⟩:=ix.one;obtain⟨m1,rfl⟩:=ix.fst;have hp:(2:Nat)^1800≤10^600:=by decide+kernel
 refine Gv.of (ac.fn (fn:=C.Lm) rfl rfl rfl ?_);unfold C.Lm;repeat'(with_reducible first|simp(disch:=try exact ab) only[go_sem,seval,o1,o2]|(apply aj.i<;>intro hc))
 refine Gp.wp (Ul (i199 (ix.aO aL) lz (by decide))) fun v k a b u ⟨b1,e1,hb,_⟩=>?_
 subst e1;by_cases c:1800<b1
 ·have c':(1800:Int)<(b1:Int):=by omega
  have cS:=fun{K:AV→Hp→Prop}=>No (K:=K) ((ix.aO aL:gj ((h.push fun t=> .row [.int .i64 m1,w] true t).ov k u) (.int .i64 m1) w z)) lz
  have cU:=fun{h:Hp} {K:AV→Hp→Prop}=>PT (h:=h) (K:=K) fun K=>P4 (s:=bB z) (h:=h) (K:=K)
  have eu:iC (bB z)=bn z.natAbs 1:=by
   have:=pY (z:Rat);rw[sT]at this;rw[this];unfold gw;rw[Rat.den_intCast,xU,if_pos rfl]
  rw[eu]at cU;have hd:=sG (n:=z.natAbs);by_cases d:10^600≤z.natAbs
  ·have d':(600:Int)<(bn z.natAbs 1).length:=by
    have:¬(bn z.natAbs 1).length≤600:=fun e=>by have:=hd.1 e;omega
    omega
   rw[decide_eq_true d];repeat'(with_reducible first|simp(disch:=try exact ab) only[go_sem,seval,o1,o2,c',cS,cU,d']|(apply aj.i<;>intro hc))
   exact aL
  ·have d':¬(600:Int)<(bn z.natAbs 1).length:=by
    have:=hd.2 (by omega);omega
   rw[decide_eq_false d];repeat'(with_reducible first|simp(disch:=try exact ab) only[go_sem,seval,o1,o2,c',cS,cU,d']|(apply aj.i<;>intro hc))
   exact aL
 ·have c':¬(1800:Int)<(b1:Int):=by omega
  have d:¬10^600≤z.natAbs:=by
   have:(2:Nat)^b1≤2^1800:=aT (by decide) (by omega);omega
  rw[decide_eq_false d];repeat'(with_reducible first|simp(disch:=try exact ab) only[go_sem,seval,o1,o2,c']|(apply aj.i<;>intro hc))
  exact aL
theorem JL {a:Rat}:(decide (10^600≤a.num.natAbs)||decide (10^600≤(a.den:Int).natAbs))= !(oe a):=by
 unfold oe;rw[aw];by_cases c1:a.num.natAbs<10^600
 ·by_cases c2:a.den<10^600
  ·rw[decide_eq_false (by omega),decide_eq_false (by omega),decide_eq_true ⟨c1,c2⟩];rfl
  ·rw[decide_eq_true (p:=10^600≤a.den) (by omega),decide_eq_false (p:=a.num.natAbs<10^600∧a.den<10^600) (fun e=>c2 e.2),Bool.or_true];rfl
 ·rw[decide_eq_true (p:=10^600≤a.num.natAbs) (by omega),decide_eq_false (p:=a.num.natAbs<10^600∧a.den<10^600) (fun e=>c1 e.1),Bool.true_or];rfl
theorem Un (ia:jL h va a)(la:Bd 3999 a):Gv EX 140 [va] h (.bool (!(oe a))):=by
 obtain⟨n1,w1,n2,w2,rfl,o1,o2,I1,I2⟩:=ia.ex;refine Gv.of (ac.fn (fn:=C.LH) rfl rfl rfl ?_);unfold C.LH;rw[←JL];repeat'(with_reducible first|simp(disch:=try exact ab) only[go_sem,seval,o1,o2]|(apply aj.i<;>intro hc))
 refine Gv.wp (PV (I1.aO aL) la.1) fun h1 k1 j1 u1=>?_
 by_cases d:10^600≤a.num.natAbs
 ·rw[decide_eq_true d];repeat'(with_reducible first|simp(disch:=try exact ab) only[go_sem,seval,o1,o2]|(apply aj.i<;>intro hc))
  refine⟨by simp,?_⟩;exact aL
 ·rw[decide_eq_false d];repeat'(with_reducible first|simp(disch:=try exact ab) only[go_sem,seval,o1,o2]|(apply aj.i<;>intro hc))
  refine Gv.wp (PV (I2.aO aL) la.2) fun h2 k2 j2 u2=>?_
  repeat'(with_reducible first|simp(disch:=try exact ab) only[go_sem,seval,o1,o2]|(apply aj.i<;>intro hc))
  refine⟨by simp,?_⟩;exact aL
theorem Um (ia:jL h va a)(la:Bd 3999 a)(hl:(aX a).length≤1000000):Gv EX 196 [va] h (.str (aX a)):=by
 obtain⟨n1,w1,n2,w2,e,o1,o2,I1,I2⟩:=id ia.ex;refine Gv.of (ac.fn (fn:=C.a196) rfl rfl rfl ?_);unfold C.a196;subst e;repeat'(with_reducible first|simp(disch:=try exact ab) only[go_sem,seval,o1,o2]|(apply aj.i<;>intro hc))
 refine Gv.wp (x2 (i241 (ia.aO aL))) fun h1 k1 j1 u1=>?_
 have cS:=fun{h':Hp} {K:AV→Hp→Prop} (g:aH h h')=>No (h:=h') (K:=K) (I1.aO g) la.1
 have cT:=fun{h':Hp} {K:AV→Hp→Prop} (g:aH h h')=>No (h:=h') (K:=K) (I2.aO g) la.2
 by_cases d:(a.den:Int)=1
 ·have et:aX a=bB a.num:=if_pos (by omega);rw[et];have c1:=fun{K:AV→Hp→Prop}=>cS (h':=(h.push fun t=> .row [.int .i64 n1,w1,.int .i64 n2,w2] true t).ov h1 u1) (K:=K) aL
  repeat'(with_reducible first|simp(disch:=try exact ab) only[go_sem,seval,o1,o2,d,c1]|(apply aj.i<;>intro hc))
  exact aL
 ·have et:aX a=bB a.num++47::bB a.den:=if_neg (by omega);rw[et]at hl⊢;rw[ar,List.length_cons]at hl;have c1:=fun{K:AV→Hp→Prop}=>cS (h':=(h.push fun t=> .row [.int .i64 n1,w1,.int .i64 n2,w2] true t).ov h1 u1) (K:=K) aL
  have c2:=fun{K:AV→Hp→Prop}=>cT (h':=(h.push fun t=> .row [.int .i64 n1,w1,.int .i64 n2,w2] true t).ov h1 u1) (K:=K) aL
  repeat'(with_reducible first|simp(disch:=try exact ab) only[go_sem,seval,o1,o2,d,c1,c2]|(apply aj.i<;>intro hc))
  refine⟨by simp,?_⟩;exact aL
end
end
end Go.Ae
namespace Go.Ae.F
open gM bp C
def kX:T cy:= .nil
section
open Go.Proofs
theorem all:T.Forall aR kX (fun n=>n):=trivial
theorem xh (n:Nat)(a:cy)(h:kX.get n=some a):BT Tryz.prog n=some a:=T.fZ kX (fun n=>n) all n a h
end
end Go.Ae.F
namespace Go.Ae
open Bg N Go.Proofs
noncomputable section
section
variable {h h' hp:Hp}{K:AV→Hp→Prop}{tm:T AV}{v va vb s w:AV}{z z':Int}{a b c r:Rat}
theorem Fy (z:Int):iC (bB z)=bn z.natAbs 1:=by
 have:=pY (z:Rat);rw[sT]at this;rw[this];unfold gw;rw[Rat.den_intCast,xU,if_pos rfl]
theorem Ea (z:Int):decide ((bB z).head?=some 45)=decide (z<0):=by
 have:=nV (z:Rat);rw[sT,xU]at this;exact decide_eq_decide.2 this
theorem Hi (hz:z.natAbs<10^600):Gp E2 191 [.str (bB z)] h fun v h'=>rF h' v z:=by
 have hl:=sG.2 hz;have:=i191 (h:=h) (s:=bB z) (Fy z) (jE _ _) (by omega);rw[Ea,Cv]at this;exact this
theorem i111 (hr:oe r=true):Gp E2 111 [.str (aX r)] h fun v h'=>jL h' v r:=by
 have ok:=hr;unfold oe at ok;obtain⟨h1,h2⟩:=of_decide_eq_true ok;obtain⟨b1,b2⟩:=QV hr;obtain⟨t1,t2⟩:=su b1 b2;have hs:=jV r;refine Gp.of (ac.fn (fn:=C.LV) rfl rfl rfl ?_);unfold C.LV;have cc:=fun{h:Hp} {K:AV→Hp→Prop}=>P6 (h:=h) (K:=K) (s:=aX r) (by omega)
 rw[hs]at cc;by_cases d:r.den=1
 ·have et:aX r=bB r.num:=if_pos d;rw[et]at cc⊢;rw[bj,decide_eq_false (by omega)]at cc;repeat'(with_reducible first|simp(disch:=try exact ab) only[go_sem,seval,cc]|(apply aj.i<;>intro hc))
  refine Gp.wp (Hi h1) fun v1 k1 a1 b1 u1 I1=>?_
  obtain⟨m1,w1,rfl,p1,I1⟩:=I1.pe;repeat'(with_reducible first|simp(disch:=try exact ab) only[go_sem,seval,p1]|(apply aj.i<;>intro hc))
  refine Gp.wp (i183 I1) fun v2 k2 a2 b2 u2 I2=>?_
  obtain⟨n1,w3,n2,w4,rfl,o1,o2,I3,I4⟩:=I2.ex;obtain⟨e1,e2⟩:=fB (p:=r.num);rw[e1]at I3;rw[e2]at I4;repeat'(with_reducible first|simp(disch:=try exact ab) only[go_sem,seval,o1,o2]|(apply aj.i<;>intro hc))
  refine⟨⟨_,_,_,_,rfl,?_,?_⟩,?_⟩
  ·exact I3.eZ (by simp(disch:=try exact ab) only[go_sem,seval,aG])
  ·rw[d];exact I4.eZ (by simp(disch:=try exact ab) only[go_sem,seval,aG])
  ·exact aL
 ·have et:aX r=bB r.num++47::bB r.den:=if_neg d;have k1:List.take (bB r.num).length (aX r)=bB r.num:=by rw[et];exact jh
  have k2:List.drop ((bB r.num).length+1) (aX r)=bB r.den:=by rw[et,←eG,ii];rfl
  rw[k1,k2,decide_eq_true (by rw[et];simp)]at cc;repeat'(with_reducible first|simp(disch:=try exact ab) only[go_sem,seval,cc]|(apply aj.i<;>intro hc))
  refine Gp.wp (Hi h1) fun v1 k1 a1 b1 u1 I1=>?_
  obtain⟨m1,w1,rfl,p1,I1⟩:=I1.pe;repeat'(with_reducible first|simp(disch:=try exact ab) only[go_sem,seval,p1]|(apply aj.i<;>intro hc))
  refine Gp.wp (Hi (z:=(r.den:Int)) (by rw[aw];exact h2)) fun v2 k2 a2 b2 u2 I2=>?_
  obtain⟨m2,w2,rfl,p2,I2⟩:=I2.pe;have I1':=I1.ov (g:=u2);have fl:=tZ (n:=m1) (n':=m2) p1 p2;repeat'(with_reducible first|simp(disch:=try exact ab) only[go_sem,seval,p1,p2,fl]|(apply aj.i<;>intro hc))
  refine⟨⟨_,_,_,_,rfl,?_,?_⟩,?_⟩
  ·exact I1'.eZ (by simp(disch:=try exact ab) only[go_sem,seval,aG])
  ·exact I2.eZ (by simp(disch:=try exact ab) only[go_sem,seval,aG])
  ·exact aL
theorem TF {r:Rat}(h:oe r=true):Bd 110 r:=by
 unfold oe at h;obtain⟨h1,h2⟩:=of_decide_eq_true h;have l2:fq 110 (r.den:Int):=mF h2 (by decide);have l1:fq 110 ((r.num.natAbs:Nat):Int):=mF h1 (by decide);exact⟨l1.le (by rw[aw];exact ae _),l2⟩
end
def EF:Env:=EX.add F.kX
theorem geF:Ge EX EF:=Ge.add _ _
section
variable {h h' hp:Hp}{K:AV→Hp→Prop}{tm:T AV}{v va vb s w:AV}{z z':Int}{a b c r:Rat}
theorem f0 {f:Nat}{args:List AV}{v:AV}(hc:Gv EX f args h v):Gv EF f args h v:=hc.ge fun _ _ _ hk=>hk.ge geF
theorem f3 {f:Nat}{args:List AV}{v:AV}(hc:Gv E3 f args h v):Gv EF f args h v:=f0 (x3 hc)
theorem f2 {f:Nat}{args:List AV}{v:AV}(hc:Gv E2 f args h v):Gv EF f args h v:=f0 (x2 hc)
theorem Ol {n:Nat}{c:Rat}(hb:Bd n c)(hn:n≤400):Bd 3999 c∧(aX c).length≤1000000:=by
 refine⟨hb.mono (by omega),?_⟩;have e:(18446744073709551616:Nat)^400≤1000000000^900:=by decide+kernel
 have h1:Lr 900 c.num:=ah (hb.mono hn).1 e;have h2:Lr 900 (c.den:Int):=ah (hb.mono hn).2 e;have:=(su h1 h2).1;omega
end
end
end Go.Ae
namespace Go.Ae
open Bg N Go.Proofs
noncomputable section
structure Fc where
 n:Int
 w:AV
 d:Int
 u:AV
def Fc.l (c:Fc):List AV:=[.int .i64 c.n,c.w,.int .i64 c.d,c.u]
def Fc.z:Fc:=⟨0,.aq,0,.aq⟩
theorem Fc.mK (c:Fc):c.l.length=4:=rfl
def PQ (h:Hp)(L:List Fc)(l:List Rat):Prop:=L.length=l.length∧∀(i:Nat) (a:i<L.length) (b:i<l.length),jL h (.agg (L[i]).l) l[i]
def Zs (h:Hp)(v:AV)(l:List Rat):Prop:=∃L,xH 4 h v l.length (L.flatMap Fc.l)∧PQ h L l
section
variable {h h' h0 hp:Hp}{K:AV→Hp→Prop}{tm:T AV}{v va vb s w:AV}{z:Nat}{a b c r:Rat}{L:List Fc}{l:List Rat}{x:Fc}
theorem jL.cell (i:jL h v r):∃c:Fc,v= .agg c.l∧c.w.one=true∧c.u.one=true:=by
 obtain⟨n1,w1,n2,w2,e,o1,o2,_⟩:=i.ex;exact⟨⟨n1,w1,n2,w2⟩,e,o1,o2⟩
theorem jL.JJ (i:jL h (.agg x.l) r):x.w.one=true∧x.u.one=true:=by
 obtain⟨n1,w1,n2,w2,e,o1,o2,_⟩:=i.ex;injection e with e
 unfold Fc.l at e;injection e with _ e
 injection e with e1 e
 injection e with _ e
 injection e with e2 _
 rw[e1,e2];exact⟨o1,o2⟩
theorem PQ.aO (f:PQ h L l)(g:aH h h'):PQ h' L l:=⟨f.1,fun i a b=>(f.2 i a b).aO g⟩
theorem Zs.aO (f:Zs h v l)(g:aH h h'):Zs h' v l:=by
 obtain⟨L,o,i⟩:=f;exact⟨L,o.aO g,i.aO g⟩
theorem PQ.nil:PQ h [] []:=⟨rfl,fun i a=>absurd a (fh _)⟩
theorem cO.Np {n b u:Nat}{cs xs:List AV}(hu:u=h.next)(G:aH h0 h)(O:cO z h0 h v n cs)(hx:xs.length=z)(hz:0<z)(hl:(n+1)*b≤140737488355328)(hl2:n+1≤140737488355328)
  (hk:∀v' h',aH h0 h'→cO z h0 h' v' (n+1) (cs++xs)→(∀t,t<h.next→(∀t' o n',v= .sl t' o n' z→t≠t')→h'.get t=h.get t)→h.next≤h'.next→h.dc≤h'.dc→(∀t' o n',v'= .sl t' o n' z→h.next<t')→v'≠ .aq→K v' h'):dK (jm (h.push fun st=> .row xs true st) z b v (.sl u 0 1 z)) K:=by
 subst hu;have hc:cellsOf (h.push fun st=> .row xs true st) z (.sl h.next 0 1 z)=some xs:=xB Hp.cu hx;have hn0:=G.next;obtain⟨hlen,⟨rfl,rfl⟩|⟨t,st,rfl,hg,h1,h2,h3⟩⟩:=O
 ·have hcs:cs=[]:=List.length_eq_zero_iff.1 (by omega);subst hcs
  have e:jm (h.push fun st=> .row xs true st) z b .aq (.sl h.next 0 1 z)=some (.sl (h.next+1) 0 1 z,(h.push fun st=> .row xs true st).push fun st=> .row xs true st):=by
   unfold jm;rw[hc];simp only[uY];rw[if_pos ⟨by omega,by omega,by omega⟩];rfl
  rw[e];refine hk _ _ G.push.push ⟨by simp[hx],.inr ⟨h.next+1,(h.push fun st=> .row xs true st).dc+1,rfl,Hp.cu,by omega,?_,ae _⟩⟩ (fun t ht _=>?_) ?_ ?_ (fun t' o n' e=>?_) (fun e=>nomatch e)
  ·show h.next+1<h.next+1+1;omega
  ·rw[Hp.cY (by show t≠h.next+1;omega),Hp.cY (by omega)]
  ·show h.next≤h.next+1+1;omega
  ·show h.dc≤h.dc+1+1;omega
  ·injection e with e;omega
 ·have hgt:(h.push fun st=> .row xs true st).get t=some (.row cs true st):=(Hp.cY (by omega)).trans hg
  have e:jm (h.push fun st=> .row xs true st) z b (.sl t 0 n z) (.sl h.next 0 1 z)=some (.sl (h.next+1) 0 (n+1) z,((h.push fun st=> .row xs true st).put t fun s=> .dead s).push fun st=> .row (cs++xs) true st):=by
   unfold jm;rw[hc];simp only[uY];rw[hgt];simp only;rw[if_pos ⟨trivial,by omega,hl,hl2⟩];simp only[List.drop_zero,←hlen,bj];rfl
  rw[e];refine hk _ _ ((G.push.put h1).push) ⟨by simp[hx,hlen,bh],.inr ⟨h.next+1,((h.push fun st=> .row xs true st).put t fun s=> .dead s).dc+1,rfl,Hp.cu,by omega,?_,ae _⟩⟩ (fun t1 ht1 hne=>?_) ?_ ?_ (fun t' o n' e=>?_) (fun e=>nomatch e)
  ·show h.next+1<h.next+1+1;omega
  ·have:=hne t 0 n rfl;rw[Hp.cY (by show t1≠h.next+1;omega),Hp.eW this,Hp.cY (by omega)]
  ·show h.next≤h.next+1+1;omega
  ·show h.dc≤h.dc+1+1+1;omega
  ·injection e with e;omega
theorem Qr (n:Nat):rep n [.int .i64 0,.aq,.int .i64 0,.aq]=(av n Fc.z).flatMap Fc.l:=by
 induction n with
 |zero=>rfl
 |succ n ih=>rw[rep,ih,vj,fM];rfl
theorem UW {E:Env}{x y:bp}{n:Nat}{st:St}(hx:val st.tm x= .int .i64 n)(hy:val st.tm y= .int .i64 n)(hn:n≤1000000)
  (hk:K (.sl st.hp.next 0 n 4) (st.hp.push fun s=> .row ((av n Fc.z).flatMap Fc.l) true s)):bY E (.uN 4 64 [.int .i64 0,.aq,.int .i64 0,.aq] x y) st K:=by
 rw[Me];simp only[rO,hx,hy];rw[if_pos ⟨by omega,Int.le_refl _,by omega,by omega,rfl,by decide,rfl⟩,Qr,gD];exact hk
theorem zr {R:List Fc}{y:Fc}:dU ((L++y::R).flatMap Fc.l) (L.length*4) x.l=((L++[x])++R).flatMap Fc.l:=by
 have e1:(L.flatMap Fc.l).length=L.length*4:=ko Fc.mK L;unfold dU;rw[kV,fM,←e1,jh,←eG,ii,kV,kV,Fc.mK x,←Fc.mK y,ii];simp
end
end
end Go.Ae
set_option maxHeartbeats 2000000
namespace Go.Ae
open Bg N Go.Proofs
noncomputable section
section
variable {h h' hp:Hp}{K:AV→Hp→Prop}{tm:T AV}{v va vb s w:AV}{a b c r:Rat}
theorem fq.of {n m:Nat}(hn:n<18446744073709551616^m):fq m (n:Int):=by unfold fq;rw[aw];exact hn
end
end
end Go.Ae
set_option exponentiation.threshold 20000
namespace Go.Ae
open Bg N Go.Proofs Gj
noncomputable section
theorem Gu {e n:Nat}(h:e≤19*n):10^e≤18446744073709551616^n:=by
 have h1:10^e≤10^(19*n):=aT (by decide) h;rw[mH]at h1;exact aB h1 (Nat.pow_le_pow_left (by decide) n)
theorem MB {e n:Nat}(h:e≤9*n):10^e≤1000000000^n:=by
 have h1:10^e≤10^(9*n):=aT (by decide) h;rw[mH]at h1;exact h1
theorem Gj.Db.bd {e n:Nat}{r:Rat}(i:Db e r)(h:e≤19*n):Bd n r:=⟨ah i.1 (Gu h),ah (by rw[aw];exact i.2) (Gu h)⟩
theorem Gj.Db.br {e n:Nat}{r:Rat}(i:Db e r)(h:e≤9*n):Br n r:=⟨ah i.1 (MB h),ah (by rw[aw];exact i.2) (MB h)⟩
def nw (h:Hp)(p:Nat):Prop:=∀own st (Q:List Nat),h.get p≠some (.row (Q.map (wd .u64)) own st)
def AH (g:Nat→Rat)(j:Nat)(r:Rat):Nat→Rat:=fun k=>if k=j then r else g k
def Fw (h:Hp)(t w:Nat)(g:Nat→Rat):Prop:=∃(L:List Fc) (st:Nat),h.get t=some (.row (L.flatMap Fc.l) true st)∧t<h.next∧st≤h.dc∧L.length=w∧∀k (hk:k<L.length),jL h (.agg (L[k]).l) (g k)
def Tp (h:Hp)(T n z w:Nat)(t:Nat→Nat):Prop:=∃st,h.get T=some (.row ((ct n).map fun i=> .sl (t i) 0 w z) true st)∧T<h.next∧st≤h.dc
section
variable {h h' h0 hp:Hp}{K:AV→Hp→Prop}{v va vb vw s:AV}{a b c r:Rat}{L:List Fc}{g g':Nat→Rat}{x:Fc}{p T n z w i j k f u y:Nat}{t t':Nat→Nat}{o:Option cP}{M:Mt}{q:List Nat}
theorem nw.kQ (hn:nw h u)(ch:ig p h h')(hu:u<h.next)(ne:u≠p):nw h' u:=fun own st Q e=>hn own st Q ((ch.get u hu ne).symm.trans e)
theorem nw.aO (hn:nw h u)(G:aH h h')(hu:u<h.next):nw h' u:=fun own st Q e=>hn own st Q ((G.get hu).symm.trans e)
theorem nw.row {l:AV}{cs:List AV}{own:Bool}{st:Nat}(hg:h.get p=some (.row (l::cs) own st))(hl:∀m:Nat,l≠wd .u64 m):nw h p:=fun own' st' Q e=>by
 rw[hg]at e;injection e with e
 injection e with e _ _
 cases Q with
 |nil=>cases e
 |cons m Q=>simp only[eH,iT]at e;exact hl m e.1
theorem Sq.qD (S:Sq .u64 h v q)(ch:ig p h h')(hn:nw h p):Sq .u64 h' v q:=by
 rcases S with S|⟨t,o,own,st,Q,e,hg,h1,h2,h3,h4⟩
 ·exact .inl S
 ·refine .inr ⟨t,o,own,st,Q,e,(ch.get t h3 ?_).trans hg,h1,h2,ah h3 ch.next,aB h4 ch.dc⟩;rintro rfl;exact hn _ _ _ hg
theorem gj.qD {s w:AV}{y:Int}(i:gj h s w y)(ch:ig p h h')(hn:nw h p):gj h' s w y:=by
 rcases i with i|⟨n,t,o,q,e,hs,r⟩
 ·exact .inl i
 ·exact .inr ⟨n,t,o,q,e,hs.qD ch hn,r⟩
theorem jL.qD (i:jL h v r)(ch:ig p h h')(hn:nw h p):jL h' v r:=by
 obtain⟨s,w,s',w',e,i,j⟩:=i;exact⟨s,w,s',w',e,i.qD ch hn,j.qD ch hn⟩
theorem Fw.aO (F:Fw h u w g)(G:aH h h'):Fw h' u w g:=by
 obtain⟨L,st,hg,h1,h2,h3,h4⟩:=F;exact⟨L,st,(G.get h1).trans hg,ah h1 G.next,aB h2 G.dc,h3,fun k hk=>(h4 k hk).aO G⟩
theorem Fw.kQ (F:Fw h u w g)(ch:ig p h h')(ne:u≠p)(hn:nw h p):Fw h' u w g:=by
 obtain⟨L,st,hg,h1,h2,h3,h4⟩:=F;exact⟨L,st,(ch.get u h1 ne).trans hg,ah h1 ch.next,aB h2 ch.dc,h3,fun k hk=>(h4 k hk).qD ch hn⟩
theorem Fw.congr (F:Fw h u w g)(e:∀k,k<w→g' k=g k):Fw h u w g':=by
 obtain⟨L,st,hg,h1,h2,h3,h4⟩:=F;exact⟨L,st,hg,h1,h2,h3,fun k hk=>by rw[e k (by omega)];exact h4 k hk⟩
theorem Fw.lt (F:Fw h u w g):u<h.next:=by
 obtain⟨L,st,hg,h1,_⟩:=F;exact h1
theorem Fw.nw (F:Fw h u w g)(hw:0<w):nw h u:=by
 obtain⟨L,st,hg,h1,h2,h3,h4⟩:=F;cases L with
 |nil=>simp at h3;omega
 | cons x L=>
  rw[fM]at hg;exact nw.row (l:= .int .i64 x.n) hg (fun m e=>by unfold wd at e;cases e)
theorem Fw.old (F:Fw h u w g):∀c0,h.dc≤c0→lR (h.get u) c0=true:=by
 obtain⟨L,st,hg,h1,h2,h3,h4⟩:=F;intro c0 hc;rw[hg];exact lR.row (aB h2 hc)
theorem Fw.ld (F:Fw h u w g)(hj:j<w):∃x:Fc,jL h (.agg x.l) (g j)∧∀h' K,fU true 4 (j*4) (h.get u) h' K↔K (.agg x.l) h':=by
 obtain⟨L,st,hg,h1,h2,h3,h4⟩:=F;subst h3;refine⟨L[j],h4 j hj,fun h' K=>?_⟩;have hl:(L.flatMap Fc.l).length=L.length*4:=ko Fc.mK L;rw[hg,fU.row,if_pos (by omega),if_pos rfl,C5 Fc.mK hj];exact ax
theorem Fw.st (F:Fw h u w g)(hj:j<w)(I:jL h (.agg x.l) r)(ho:o=h.get u)(hk:∀h',ig u h h'→Fw h' u w (AH g j r)→K jC h'):fb 4 u (j*4) (.agg x.l) o h K:=by
 have hn:=F.nw (by omega);obtain⟨L,st,hg,h1,h2,h3,h4⟩:=F;subst h3;have hl:(L.flatMap Fc.l).length=L.length*4:=ko Fc.mK L;obtain⟨o1,o2⟩:=I.JJ
 have nD:(AV.agg x.l).cells.all AV.one=true:=by
  show x.l.all AV.one=true
  unfold Fc.l;simp only[iO,pS,o1,o2];rfl
 have mr:dU (L.flatMap Fc.l) (j*4) (AV.agg x.l).cells=(L.set j x).flatMap Fc.l:=by
  have e1:L=L.take j++L[j]::L.drop (j+1):=by
   rw[←List.drop_eq_getElem_cons hj,fD]
  have e2:L.set j x=L.take j++[x]++L.drop (j+1):=by
   rw[sN,if_pos hj];simp
  have e3:=zr (L:=L.take j) (x:=x) (y:=L[j]) (R:=L.drop (j+1));rw[←e1,az,cD (by omega)]at e3;rw[e2];exact e3
 rw[ho,hg,fb.row,mr];have ch:ig u h (h.put u fun st=> .row ((L.set j x).flatMap Fc.l) true st):=ig.refl.put;refine⟨rfl,by omega,nD,hk _ ch ⟨L.set j x,_,Hp.lH,h1,ae _,by simp,fun k hk'=>?_⟩⟩;unfold AH;by_cases c:k=j
 ·subst c;rw[if_pos rfl,List.getElem_set_self];exact I.qD ch hn
 ·rw[if_neg c,List.getElem_set_ne (fun e=>c e.symm)];exact(h4 k (by simpa using hk')).qD ch hn
theorem Tp.ld (P:Tp h T n z w t)(hj:j<n):∀h' K,fU false 1 j (h.get T) h' K↔K (.sl (t j) 0 w z) h':=by
 obtain⟨st,hg,h1,h2⟩:=P;intro h' K;rw[hg,fU.row,if_pos (by simp;omega),if_neg (by decide),bK,eT hj];exact ax
theorem Tp.old (P:Tp h T n z w t):∀c0,h.dc≤c0→lR (h.get T) c0=true:=by
 obtain⟨st,hg,h1,h2⟩:=P;intro c0 hc;rw[hg];exact lR.row (aB h2 hc)
theorem Tp.lt (P:Tp h T n z w t):T<h.next:=by
 obtain⟨st,hg,h1,h2⟩:=P;exact h1
theorem Tp.aO (P:Tp h T n z w t)(G:aH h h'):Tp h' T n z w t:=by
 obtain⟨st,hg,h1,h2⟩:=P;exact⟨st,(G.get h1).trans hg,ah h1 G.next,aB h2 G.dc⟩
theorem Tp.kQ (P:Tp h T n z w t)(ch:ig p h h')(ne:T≠p):Tp h' T n z w t:=by
 obtain⟨st,hg,h1,h2⟩:=P;exact⟨st,(ch.get T h1 ne).trans hg,ah h1 ch.next,aB h2 ch.dc⟩
theorem Tp.nw (P:Tp h T n z w t)(hn:0<n):nw h T:=by
 obtain⟨st,hg,h1,h2⟩:=P;obtain⟨n,rfl⟩:∃m,n=m+1:=⟨n-1,by omega⟩
 rw[oU,eH]at hg;exact nw.row hg (fun m e=>by unfold wd at e;cases e)
theorem vB {α:Type}{n j:Nat}{e e':Nat→α}(hj:j<n)(h1:e' j=e' j)(h2:∀i,i≠j→e' i=e i):((ct n).map e).set j (e' j)=(ct n).map e':=by
 apply Au;intro i;rw[List.getElem?_set];simp only[List.length_map,List.length_range,bK];by_cases c:j=i
 ·subst c;rw[if_pos rfl,if_pos hj,eT hj];rfl
 ·rw[if_neg c];by_cases hi:i<n
  ·rw[eT hi];simp only[cJ,h2 i (fun e=>c e.symm)]
  ·rw[bO (by simpa using hi)];rfl
theorem yk {cs:List AV}{v:AV}{j:Nat}(hj:j<cs.length):dU cs j [v]=cs.set j v:=by
 rw[sN,if_pos hj];rfl
def im (t:Nat→Nat)(j u:Nat):Nat→Nat:=fun i=>if i=j then u else t i
theorem Tp.st (P:Tp h T n z w t)(hj:j<n)(ho:o=h.get T)(hk:∀h',ig T h h'→Tp h' T n z w (im t j u)→K jC h'):fb 1 T j (.sl u 0 w z) o h K:=by
 obtain⟨st,hg,h1,h2⟩:=P;rw[ho,hg,fb.row];refine⟨rfl,by simp;omega,rfl,hk _ ig.refl.put ⟨_,?_,h1,ae _⟩⟩;rw[show(AV.sl u 0 w z).cells=[.sl u 0 w z] from rfl,yk (by simpa using hj)];have:=vB (n:=n) (j:=j) (e:=fun i=>AV.sl (t i) 0 w z) (e':=fun i=>AV.sl (im t j u i) 0 w z) hj rfl (fun i hi=>by unfold im;rw[if_neg hi]);rw[show AV.sl (im t j u j) 0 w z= .sl u 0 w z by unfold im;rw[if_pos rfl]]at this
 rw[this];exact Hp.lH
structure Fm (h0 h:Hp)(T:Nat)(t:Nat→Nat)(n w:Nat)(M:Mt):Prop where
 top:Tp h T n 4 w t
 row:∀i,i<n→Fw h (t i) w (M i)
 ne:∀i,i<n→t i≠T
 inj:∀i j,i<n→j<n→t i=t j→i=j
 kh:h0.next≤T
 low:∀i,i<n→h0.next≤t i
def wI (M:Mt)(i j:Nat)(r:Rat):Mt:=fun a b=>if a=i then(if b=j then r else M a b)else M a b
theorem Fm.aO (F:Fm h0 h T t n w M)(G:aH h h'):Fm h0 h' T t n w M:=⟨F.top.aO G,fun i hi=>(F.row i hi).aO G,F.ne,F.inj,F.kh,F.low⟩
theorem Fm.kQ (F:Fm h0 h T t n w M)(ch:ig p h h')(hn:nw h p)(neT:T≠p)(ne:∀i,i<n→t i≠p):Fm h0 h' T t n w M:=⟨F.top.kQ ch neT,fun i hi=>(F.row i hi).kQ ch (ne i hi) hn,F.ne,F.inj,F.kh,F.low⟩
theorem Fm.congr {M':Mt}(F:Fm h0 h T t n w M)(e:∀i,i<n→∀k,k<w→M' i k=M i k):Fm h0 h T t n w M':=⟨F.top,fun i hi=>(F.row i hi).congr (e i hi),F.ne,F.inj,F.kh,F.low⟩
theorem Fm.st (F:Fm h0 h T t n w M)(hi:i<n)(hj:j<w)(I:jL h (.agg x.l) r)(ho:o=h.get (t i))(hk:∀h',ig (t i) h h'→Fm h0 h' T t n w (wI M i j r)→K jC h'):fb 4 (t i) (j*4) (.agg x.l) o h K:=by
 refine(F.row i hi).st hj I ho fun h' ch F'=>hk h' ch ?_
 have hn:=(F.row i hi).nw (by omega);refine⟨F.top.kQ ch (fun e=>F.ne i hi e.symm),fun i' hi'=>?_,F.ne,F.inj,F.kh,F.low⟩;unfold wI;by_cases c:i'=i
 ·subst c;simp only[if_pos];exact F'
 ·simp only[if_neg c];exact(F.row i' hi').kQ ch (fun e=>c (F.inj _ _ hi' hi e)) hn
theorem Fm.swap {h1 h2:Hp}{f a:Nat}(F:Fm h0 h T t n w M)(hf:f<n)(ha:a<n)(c1:ig T h h1)(c2:ig T h1 h2)(P:Tp h2 T n 4 w (im (im t f (t a)) a (t f))):
  Fm h0 h2 T (fun i=>if i=f then t a else if i=a then t f else t i) n w (swp f a M):=by
 have hn:=F.top.nw (by omega);have ch:=c1.trans c2
 have e:im (im t f (t a)) a (t f)=fun i=>if i=f then t a else if i=a then t f else t i:=by
  funext i
  unfold im;by_cases x:i=a
  ·subst x;by_cases y:i=f
   ·subst y;simp
   ·simp[y]
  ·rw[if_neg x,if_neg x]
 rw[e]at P
 have cs:∀i,i<n→(i=f∧(if i=f then t a else if i=a then t f else t i)=t a∧swp f a M i=M a)∨(i≠f∧i=a∧(if i=f then t a else if i=a then t f else t i)=t f∧swp f a M i=M f)∨(i≠f∧i≠a∧(if i=f then t a else if i=a then t f else t i)=t i∧swp f a M i=M i):=fun i hi=>by
  unfold swp;by_cases y:i=f
  ·exact .inl ⟨y,if_pos y,if_pos y⟩
  ·by_cases x:i=a
   ·exact .inr (.inl ⟨y,x,by rw[if_neg y,if_pos x],by rw[if_neg y,if_pos x]⟩)
   ·exact .inr (.inr ⟨y,x,by rw[if_neg y,if_neg x],by rw[if_neg y,if_neg x]⟩)
 refine⟨P,fun i hi=>?_,fun i hi=>?_,fun i j hi hj=>?_,F.kh,fun i hi=>?_⟩
 ·rcases cs i hi with⟨_,e1,e2⟩|⟨_,_,e1,e2⟩|⟨_,_,e1,e2⟩
  ·rw[e1,e2];exact(F.row a ha).kQ ch (F.ne a ha) hn
  ·rw[e1,e2];exact(F.row f hf).kQ ch (F.ne f hf) hn
  ·rw[e1,e2];exact(F.row i hi).kQ ch (F.ne i hi) hn
 ·rcases cs i hi with⟨_,e1,e2⟩|⟨_,_,e1,e2⟩|⟨_,_,e1,e2⟩
  ·rw[e1];exact F.ne a ha
  ·rw[e1];exact F.ne f hf
  ·rw[e1];exact F.ne i hi
 ·intro he;rcases cs i hi with⟨i1,e1,_⟩|⟨i1,i2,e1,_⟩|⟨i1,i2,e1,_⟩<;>rcases cs j hj with⟨j1,e2,_⟩|⟨j1,j2,e2,_⟩|⟨j1,j2,e2,_⟩
  all_goals rw[e1,e2]at he
  ·omega
  ·have:=F.inj _ _ ha hf he;omega
  ·have:=F.inj _ _ ha hj he;omega
  ·have:=F.inj _ _ hf ha he;omega
  ·omega
  ·have:=F.inj _ _ hf hj he;omega
  ·have:=F.inj _ _ hi ha he;omega
  ·have:=F.inj _ _ hi hf he;omega
  ·exact F.inj _ _ hi hj he
 ·rcases cs i hi with⟨_,e1,e2⟩|⟨_,_,e1,e2⟩|⟨_,_,e1,e2⟩
  ·rw[e1];exact F.low a ha
  ·rw[e1];exact F.low f hf
  ·rw[e1];exact F.low i hi
end
end
end Go.Ae
set_option maxHeartbeats 4000000
namespace Go.Ae
open Bg N Go.Proofs Gj
def au.l:au→au
 | .seq a _=>a
 |c=>c
def au.r:au→au
 | .seq _ b=>b
 |c=>c
def au.b:au→au
 | .block _ c=>c
 | .loop c=>c
 |c=>c
noncomputable section
def Jw (f k:Nat)(b:Rat)(M:Mt):Mt:=fun i j=>if i=f∧j<k then M i j*b else M i j
theorem yr {f k:Nat}{b:Rat}{M:Mt}:Jw f k b M f k=M f k:=if_neg (by omega)
theorem yp {f i j:Nat}{b:Rat}{M:Mt}:Jw f 0 b M i j=M i j:=if_neg (by omega)
theorem Cz {f w i j:Nat}{b:Rat}{M:Mt}(hj:j<w):Aw f b M i j=Jw f w b M i j:=by
 unfold Aw Jw;by_cases c:i=f
 ·rw[if_pos c,if_pos ⟨c,hj⟩]
 ·rw[if_neg c,if_neg (fun e=>c e.1)]
theorem yq {f k i j:Nat}{b:Rat}{M:Mt}:Jw f (k+1) b M i j=wI (Jw f k b M) f k (M f k*b) i j:=by
 simp only[Jw,wI];by_cases c1:i=f
 ·subst c1;by_cases c2:j=k
  ·subst c2;rw[if_pos ⟨rfl,by omega⟩,if_pos rfl,if_pos rfl]
  ·rw[if_pos rfl,if_neg c2];by_cases c3:j<k
   ·rw[if_pos ⟨rfl,by omega⟩,if_pos ⟨rfl,c3⟩]
   ·rw[if_neg (by omega),if_neg (by omega)]
 ·rw[if_neg c1,if_neg (fun e=>c1 e.1),if_neg (fun e=>c1 e.1)]
def eB:au:=C.a138.code.r.r.r.r.l.r.b.b.r.r.l.b
def eS:au:=eB.r.r.r.r.r.l
def eR:au:=eB.r.r.r.r.r.r.l
def eI:au:=eR.r.b.b.r.r.l.b.r.r
section
variable {h h' h0 hp:Hp}{K:AV→Hp→Prop}{tm:T AV}{v va vb vw s:AV}{a b r tt:Rat}{x y:Fc}{p T n z w i j k f u c:Nat}{t t':Nat→Nat}{M:Mt}{Q:Ex→St→Prop}
theorem bG.U6 (A:bG h p x.l):∀h' K,fU true 4 0 (h.get p) h' K↔K (.agg x.l) h':=by
 obtain⟨st,hg,h1,h2⟩:=A;intro h' K;rw[hg,fU.row,if_pos (by rw[Fc.mK];omega),if_pos rfl];exact ax
theorem Q3:E2.gF 148 "Sign" =some 112:=by show L.nu 148 "Sign" =_;simp[L.nu]
theorem UZ:E2.gF 148 "Inv" =some 245:=by show L.nu 148 "Inv" =_;simp[L.nu]
theorem UY:E2.gF 148 "Mul" =some 115:=by show L.nu 148 "Mul" =_;simp[L.nu]
theorem UX:E2.gF 148 "Sub" =some 164:=by show L.nu 148 "Sub" =_;simp[L.nu]
theorem CM {u:AV}{args:List AV}:qG E2 (.qZ 148 u) "Sign" args h K↔ac E2 112 (u::args) h K:=qG.qZ Q3
theorem UM {u:AV}{args:List AV}:qG E2 (.qZ 148 u) "Inv" args h K↔ac E2 245 (u::args) h K:=qG.qZ UZ
theorem QO {u:AV}{args:List AV}:qG E2 (.qZ 148 u) "Mul" args h K↔ac E2 115 (u::args) h K:=qG.qZ UY
theorem UL {u:AV}{args:List AV}:qG E2 (.qZ 148 u) "Sub" args h K↔ac E2 164 (u::args) h K:=qG.qZ UX
theorem Ko (k0:val tm (.t 0)= .sl T 0 n 1)(k1:val tm (.t 1)= .int .i64 n)(k5:val tm (.t 5)= .int .i64 f)(k6:val tm (.t 6)= .int .i64 c)(k8:val tm (.t 8)= .ptr p 0)(gk:val tm (.t 13)= .int .i64 n)(eQ:val tm (.t 14)= .int .i64 c)
  (G:aH h hp) (F:Fm h hp T t n w M) (A:bG hp p x.l) (I:jL hp (.agg x.l) b) (hpT:p≠T) (VT:∀i,i<n→p≠t i) (hf:f<n) (hw:w≤1000) (hn:n≤1000) (bd:∀k,k<w→Bd 900 (M f k)) (bb:Bd 900 b)
  (hk:∀fI hp',val fI (.t 0)= .sl T 0 n 1→val fI (.t 1)= .int .i64 n→val fI (.t 5)= .int .i64 f→val fI (.t 6)= .int .i64 c→val fI (.t 13)= .int .i64 n→val fI (.t 14)= .int .i64 c→aH h hp'→Fm h hp' T t n w (Aw f b M)→Q .fP ⟨fI,hp'⟩):Wp E2 eS ⟨tm,hp⟩ Q:=by
 rw[show eS= .seq _ (.block 4 (.loop _)) from rfl];have uQ:(f:Int)<n:=by omega
 have ldT:=F.top.ld hf;have hT:=F.top.lt;repeat'(with_reducible first|simp(disch:=try exact ab) only[go_sem,seval,k0,k1,k5,k6,k8,gk,eQ,uQ,ldT]|(apply aj.i<;>intro hc))
 refine Wp.bW (fun mm s=>∃k:Nat,val s.tm (.t 0)= .sl T 0 n 1∧val s.tm (.t 1)= .int .i64 n∧val s.tm (.t 5)= .int .i64 f∧val s.tm (.t 6)= .int .i64 c∧val s.tm (.t 8)= .ptr p 0∧val s.tm (.t 13)= .int .i64 n∧val s.tm (.t 14)= .int .i64 c∧val s.tm (.t 61)= .int .i64 w∧val s.tm (.t 62)= .int .i64 k∧
  aH h s.hp∧Fm h s.hp T t n w (Jw f k b M)∧bG s.hp p x.l∧jL s.hp (.agg x.l) b∧k≤w∧w-k=mm) (n:=w) ?_ ?_
 ·refine⟨0,by simp(disch:=try exact ab) only[go_sem,seval,k0],by simp(disch:=try exact ab) only[go_sem,seval,k1],by simp(disch:=try exact ab) only[go_sem,seval,k5],by simp(disch:=try exact ab) only[go_sem,seval,k6],by simp(disch:=try exact ab) only[go_sem,seval,k8],by simp(disch:=try exact ab) only[go_sem,seval,gk],by simp(disch:=try exact ab) only[go_sem,seval,eQ],aS,by(simp(disch:=try exact ab) only[go_sem,seval])<;>rfl,G,F.congr fun i hi k hk=>yp,A,I,aJ _,rfl⟩
 ·clear k0 k1 k5 k6 k8 gk eQ G F A I ldT hT;rintro mm ⟨tm,hp⟩ ⟨k,k0,k1,k5,k6,k8,gk,eQ,Q7,Q6,G,F,A,I,hle,rfl⟩;simp only at k0 k1 k5 k6 k8 gk eQ Q7 Q6 G F A I;by_cases hlt:k<w
  ·have hlt':(k:Int)<w:=by omega
   have sf:k+1≤w:=hlt;have ldT:=F.top.ld hf;have hT:=F.top.lt;have oldT:=F.top.old;have R:=F.row f hf;have ht:=R.lt;have oldR:=R.old;obtain⟨y,Iy,ldy⟩:=R.ld hlt;rw[yr]at Iy;have hp0:=A.lt;have oldp:=A.old;have ldp:=A.U6;repeat'(with_reducible first|simp(disch:=try exact ab) only[go_sem,seval,k0,k1,k5,k6,k8,gk,eQ,Q7,Q6,uQ,ldT,hlt',ldy,ldp,oldT,oldR,oldp,QO]|(apply aj.i<;>intro hc))
   refine Gp.wp (i115 Iy I (bd k hlt) bb) fun v1 h1 a1 b1 u1 I1=>?_
   obtain⟨z,rfl,o1,o2⟩:=I1.cell;have gu:aH hp (hp.ov h1 u1):=⟨_,_,u1⟩
   repeat'(with_reducible first|simp(disch:=try exact ab) only[go_sem,seval,k0,k1,k5,k6,k8,gk,eQ,Q7,Q6,uQ,ldT,hlt',ldy,ldp,oldT,oldR,oldp]|(apply aj.i<;>intro hc))
   refine(F.aO gu).st hf hlt I1 (gu.get ht).symm fun h2 ch F2=>?_
   have G2:aH h h2:=ch.aO (G.trans gu) (F.low f hf);have nwf:=(R.aO gu).nw (by omega);have A2:=(A.aO gu).kQ ch (VT f hf);have I2:=(I.aO gu).qD ch nwf;repeat'(with_reducible first|simp(disch:=try exact ab) only[go_sem,seval,k0,k1,k5,k6,k8,gk,eQ,Q7,Q6]|(apply aj.i<;>intro hc))
   refine⟨_,by omega,k+1,rfl,G2,F2.congr fun i hi j hj=>yq,A2,I2,hlt,rfl⟩
  ·have hlt':¬(k:Int)<w:=by omega
   obtain rfl:k=w:=by omega
   repeat'(with_reducible first|simp(disch:=try exact ab) only[go_sem,seval,k0,k1,k5,k6,k8,gk,eQ,Q7,Q6,hlt']|(apply aj.i<;>intro hc))
   refine hk _ _ (by simp(disch:=try exact ab) only[go_sem,seval,k0]) (by simp(disch:=try exact ab) only[go_sem,seval,k1]) (by simp(disch:=try exact ab) only[go_sem,seval,k5]) (by simp(disch:=try exact ab) only[go_sem,seval,k6]) (by simp(disch:=try exact ab) only[go_sem,seval,gk]) (by simp(disch:=try exact ab) only[go_sem,seval,eQ]) G (F.congr fun i hi j hj=>Cz hj)
end
end
end Go.Ae
namespace Go.Ae
open Bg N Go.Proofs Gj
noncomputable section
def EQ (f i k:Nat)(tt:Rat)(M:Mt):Mt:=fun a j=>if a=i∧j<k then M a j-tt*M f j else M a j
section
variable {h h' h0 hp:Hp}{K:AV→Hp→Prop}{tm:T AV}{v va vb vw s:AV}{a b r tt:Rat}{x y:Fc}{p T n z w i j k f u c:Nat}{t t':Nat→Nat}{M:Mt}{Q:Ex→St→Prop}
theorem Fm.Mq {h1:Hp}{o:Option cP}(F:Fm h0 h1 T t n w M)(G:aH h0 h1)(g:aH h1 h)(hi:i<n)(hj:j<w)(I:jL h (.agg x.l) r)(ho:o=h1.get (t i))(hk:∀h',ig (t i) h1 h'→nw h1 (t i)→aH h0 h'→Fm h0 h' T t n w (wI M i j r)→K jC h'):fb 4 (t i) (j*4) (.agg x.l) o h K:=
 (F.aO g).st hi hj I (ho.trans (g.get (F.row i hi).lt).symm) fun h' ch F'=>hk h' ((ig.of g).trans ch) ((F.row i hi).nw (by omega)) (ch.aO (G.trans g) (F.low i hi)) F'
theorem yw {a:Nat}:EQ f i 0 tt M a j=M a j:=if_neg (by omega)
theorem yy:EQ f i k tt M i k=M i k:=if_neg (by omega)
theorem Mv (h:i≠f):EQ f i k tt M f j=M f j:=if_neg (fun e=>h e.1.symm)
theorem yx {a:Nat}:EQ f i (k+1) tt M a j=wI (EQ f i k tt M) i k (M i k-tt*M f k) a j:=by
 simp only[EQ,wI];by_cases c1:a=i
 ·subst c1;by_cases c2:j=k
  ·subst c2;rw[if_pos ⟨rfl,by omega⟩,if_pos rfl,if_pos rfl]
  ·rw[if_pos rfl,if_neg c2];by_cases c3:j<k
   ·rw[if_pos ⟨rfl,by omega⟩,if_pos ⟨rfl,c3⟩]
   ·rw[if_neg (by omega),if_neg (by omega)]
 ·rw[if_neg c1,if_neg (fun e=>c1 e.1),if_neg (fun e=>c1 e.1)]
structure Kt (tm:Ae.T AV)(T n f c:Nat):Prop where
 k0:val tm (.t 0)= .sl T 0 n 1
 k1:val tm (.t 1)= .int .i64 n
 k5:val tm (.t 5)= .int .i64 f
 k6:val tm (.t 6)= .int .i64 c
 gk:val tm (.t 13)= .int .i64 n
 eQ:val tm (.t 14)= .int .i64 c
theorem Qf:max (-1) (min 1 (0:Int))=0:=by decide
theorem Qd {z:Int}(hz:z≠0):max (-1) (min 1 z)≠0:=by omega
theorem OS (q:Kt tm T n f c)(k10:val tm (.t 10)= .int .i64 i)(k11:val tm (.t 11)= .ptr p 0)(qY:val tm (.t 83)= .int .i64 n)(qX:val tm (.t 84)= .int .i64 i)
  (G:aH h hp) (F:Fm h hp T t n w M) (A:bG hp p x.l) (I:jL hp (.agg x.l) tt) (hi:i<n) (hf:f<n) (hw:w≤1000) (hn:n≤1000) (no:i=f∨tt=0)
  (hk:∀fI hp',Kt fI T n f c→val fI (.t 83)= .int .i64 n→val fI (.t 84)= .int .i64 i→aH h hp'→Fm h hp' T t n w M→Q .fP ⟨fI,hp'⟩):Wp E2 eI ⟨tm,hp⟩ Q:=by
 obtain⟨k0,k1,k5,k6,gk,eQ⟩:=q;rw[show eI= .seq _ (.block 8 (.loop _)) from rfl];have hi':(i:Int)<n:=by omega
 have ldT:=F.top.ld hi;have hT:=F.top.lt;repeat'(with_reducible first|simp(disch:=try exact ab) only[go_sem,seval,k0,k1,k5,k6,k10,k11,gk,eQ,qY,qX,hi',ldT]|(apply aj.i<;>intro hc))
 refine Wp.bW (fun mm s=>∃k:Nat,val s.tm (.t 0)= .sl T 0 n 1∧val s.tm (.t 1)= .int .i64 n∧val s.tm (.t 5)= .int .i64 f∧val s.tm (.t 6)= .int .i64 c∧val s.tm (.t 10)= .int .i64 i∧val s.tm (.t 11)= .ptr p 0∧val s.tm (.t 13)= .int .i64 n∧val s.tm (.t 14)= .int .i64 c∧val s.tm (.t 83)= .int .i64 n∧val s.tm (.t 84)= .int .i64 i∧val s.tm (.t 98)= .int .i64 w∧val s.tm (.t 99)= .int .i64 k∧
  aH h s.hp∧Fm h s.hp T t n w M∧bG s.hp p x.l∧jL s.hp (.agg x.l) tt∧k≤w∧w-k=mm) (n:=w) ?_ ?_
 ·exact⟨0,by simp(disch:=try exact ab) only[go_sem,seval,k0],by simp(disch:=try exact ab) only[go_sem,seval,k1],by simp(disch:=try exact ab) only[go_sem,seval,k5],by simp(disch:=try exact ab) only[go_sem,seval,k6],by simp(disch:=try exact ab) only[go_sem,seval,k10],by simp(disch:=try exact ab) only[go_sem,seval,k11],by simp(disch:=try exact ab) only[go_sem,seval,gk],by simp(disch:=try exact ab) only[go_sem,seval,eQ],by simp(disch:=try exact ab) only[go_sem,seval,qY],by simp(disch:=try exact ab) only[go_sem,seval,qX],aS,by(simp(disch:=try exact ab) only[go_sem,seval])<;>rfl,G,F,A,I,aJ _,rfl⟩
 ·clear k0 k1 k5 k6 k10 k11 gk eQ qY qX G F A I ldT hT;rintro mm ⟨tm,hp⟩ ⟨k,k0,k1,k5,k6,k10,k11,gk,eQ,qY,qX,Hb,Ha,G,F,A,I,hle,rfl⟩;simp only at k0 k1 k5 k6 k10 k11 gk eQ qY qX Hb Ha G F A I;by_cases hlt:k<w
  ·have hlt':(k:Int)<w:=by omega
   have sf:k+1≤w:=hlt;by_cases c1:i=f
   ·subst c1;repeat'(with_reducible first|simp(disch:=try exact ab) only[go_sem,seval,k0,k1,k5,k6,k10,k11,gk,eQ,qY,qX,Hb,Ha,hlt']|(apply aj.i<;>intro hc))
    exact⟨_,by omega,k+1,rfl,G,F,A,I,hlt,rfl⟩
   ·obtain rfl:tt=0:=no.resolve_left c1;have ldp:=A.U6;have hp0:=A.lt;have f112:=i112 I;rw[show(0:Rat).num=0 from rfl,Qf]at f112;have c1':¬(i:Int)=f:=by omega
    repeat'(with_reducible first|simp(disch:=try exact ab) only[go_sem,seval,k0,k1,k5,k6,k10,k11,gk,eQ,qY,qX,Hb,Ha,hlt',c1',ldp,CM]|(refine Gv.wp (f112) fun _ _ _ _=>?_)|(apply aj.i<;>intro hc))
    refine⟨_,by omega,k+1,rfl,G.trans aL,F.aO aL,A.aO aL,I.aO aL,hlt,rfl⟩
  ·have hlt':¬(k:Int)<w:=by omega
   repeat'(with_reducible first|simp(disch:=try exact ab) only[go_sem,seval,k0,k1,k5,k6,k10,k11,gk,eQ,qY,qX,Hb,Ha,hlt']|(apply aj.i<;>intro hc))
   exact hk _ _ ⟨by simp(disch:=try exact ab) only[go_sem,seval,k0],by simp(disch:=try exact ab) only[go_sem,seval,k1],by simp(disch:=try exact ab) only[go_sem,seval,k5],by simp(disch:=try exact ab) only[go_sem,seval,k6],by simp(disch:=try exact ab) only[go_sem,seval,gk],by simp(disch:=try exact ab) only[go_sem,seval,eQ]⟩ (by simp(disch:=try exact ab) only[go_sem,seval,qY]) (by simp(disch:=try exact ab) only[go_sem,seval,qX]) G F
theorem R3 (q:Kt tm T n f c)(k10:val tm (.t 10)= .int .i64 i)(k11:val tm (.t 11)= .ptr p 0)(qY:val tm (.t 83)= .int .i64 n)(qX:val tm (.t 84)= .int .i64 i)
  (G:aH h hp) (F:Fm h hp T t n w M) (A:bG hp p x.l) (I:jL hp (.agg x.l) tt) (hpT:p≠T) (VT:∀i,i<n→p≠t i) (hi:i<n) (hf:f<n) (hw:w≤1000) (hn:n≤1000) (ne:i≠f) (nz:tt≠0)
  (bt:Bd 400 tt) (bi:∀k,k<w→Bd 400 (M i k)) (bf:∀k,k<w→Bd 400 (M f k))
  (hk:∀fI hp',Kt fI T n f c→val fI (.t 83)= .int .i64 n→val fI (.t 84)= .int .i64 i→aH h hp'→Fm h hp' T t n w (EQ f i w tt M)→Q .fP ⟨fI,hp'⟩):Wp E2 eI ⟨tm,hp⟩ Q:=by
 obtain⟨k0,k1,k5,k6,gk,eQ⟩:=q;rw[show eI= .seq _ (.block 8 (.loop _)) from rfl];have hi':(i:Int)<n:=by omega
 have uQ:(f:Int)<n:=by omega
 have ne':¬(i:Int)=f:=by omega
 have ldT:=F.top.ld hi;have hT:=F.top.lt;repeat'(with_reducible first|simp(disch:=try exact ab) only[go_sem,seval,k0,k1,k5,k6,k10,k11,gk,eQ,qY,qX,hi',ldT]|(apply aj.i<;>intro hc))
 refine Wp.bW (fun mm s=>∃k:Nat,val s.tm (.t 0)= .sl T 0 n 1∧val s.tm (.t 1)= .int .i64 n∧val s.tm (.t 5)= .int .i64 f∧val s.tm (.t 6)= .int .i64 c∧val s.tm (.t 10)= .int .i64 i∧val s.tm (.t 11)= .ptr p 0∧val s.tm (.t 13)= .int .i64 n∧val s.tm (.t 14)= .int .i64 c∧val s.tm (.t 83)= .int .i64 n∧val s.tm (.t 84)= .int .i64 i∧val s.tm (.t 98)= .int .i64 w∧val s.tm (.t 99)= .int .i64 k∧
  aH h s.hp∧Fm h s.hp T t n w (EQ f i k tt M)∧bG s.hp p x.l∧jL s.hp (.agg x.l) tt∧k≤w∧w-k=mm) (n:=w) ?_ ?_
 ·exact⟨0,by simp(disch:=try exact ab) only[go_sem,seval,k0],by simp(disch:=try exact ab) only[go_sem,seval,k1],by simp(disch:=try exact ab) only[go_sem,seval,k5],by simp(disch:=try exact ab) only[go_sem,seval,k6],by simp(disch:=try exact ab) only[go_sem,seval,k10],by simp(disch:=try exact ab) only[go_sem,seval,k11],by simp(disch:=try exact ab) only[go_sem,seval,gk],by simp(disch:=try exact ab) only[go_sem,seval,eQ],by simp(disch:=try exact ab) only[go_sem,seval,qY],by simp(disch:=try exact ab) only[go_sem,seval,qX],aS,by(simp(disch:=try exact ab) only[go_sem,seval])<;>rfl,G,F.congr fun i hi k hk=>yw,A,I,aJ _,rfl⟩
 ·clear k0 k1 k5 k6 k10 k11 gk eQ qY qX G F A I ldT hT;rintro mm ⟨tm,hp⟩ ⟨k,k0,k1,k5,k6,k10,k11,gk,eQ,qY,qX,Hb,Ha,G,F,A,I,hle,rfl⟩;simp only at k0 k1 k5 k6 k10 k11 gk eQ qY qX Hb Ha G F A I;by_cases hlt:k<w
  ·have hlt':(k:Int)<w:=by omega
   have sf:k+1≤w:=hlt;have ldT:=F.top.ld hi;have ldU:=F.top.ld hf;have hT:=F.top.lt;have oldT:=F.top.old;have R:=F.row i hi;have U:=F.row f hf;have ht:=R.lt;have hu:=U.lt;have oldR:=R.old;have oldU:=U.old;obtain⟨y,Iy,ldy⟩:=R.ld hlt;obtain⟨z,Iz,ldz⟩:=U.ld hlt;rw[yy]at Iy;rw[Mv ne]at Iz;have hp0:=A.lt;have oldp:=A.old;have ldp:=A.U6;have f112:=i112 I;have sg:=Qd (z:=tt.num) (fun e=>nz (jM.1 e))
   generalize max (-1) (min 1 tt.num)=sgv at f112 sg
   repeat'(with_reducible first|simp(disch:=try exact ab) only[go_sem,seval,k0,k1,k5,k6,k10,k11,gk,eQ,qY,qX,Hb,Ha,hlt',ne',hi',uQ,ldT,ldU,ldy,ldz,ldp,oldT,oldR,oldU,oldp,CM,QO,sg]|(refine Gv.wp (f112) fun _ _ _ _=>?_)|(apply aj.i<;>intro hc))
   refine Gp.wp (i115 (I.aO aL) (Iz.aO aL) (bt.mono (by decide)) ((bf k hlt).mono (by decide))) fun v1 h1 a1 b1 u1 I1=>?_
   obtain⟨z1,rfl,o1,o2⟩:=I1.cell;repeat'(with_reducible first|simp(disch:=try exact ab) only[go_sem,seval,k0,k1,k5,k6,k10,k11,gk,eQ,qY,qX,Hb,Ha,hlt',ne',hi',uQ,ldT,ldU,ldy,ldz,ldp,oldT,oldR,oldU,oldp,UL]|(apply aj.i<;>intro hc))
   refine Gp.wp (i164 (Iy.aO aL) I1 ((bi k hlt).mono (by decide)) ((bt.mul (bf k hlt)).mono (by decide))) fun v2 h2 a2 b2 u2 I2=>?_
   obtain⟨z2,rfl,p1,p2⟩:=I2.cell;repeat'(with_reducible first|simp(disch:=try exact ab) only[go_sem,seval,k0,k1,k5,k6,k10,k11,gk,eQ,qY,qX,Hb,Ha,hlt',ne',hi',uQ,ldT,ldU,ldy,ldz,ldp,oldT,oldR,oldU,oldp]|(apply aj.i<;>intro hc))
   refine F.Mq G aL hi hlt I2 rfl fun h3 ch nwi G3 F3=>?_
   repeat'(with_reducible first|simp(disch:=try exact ab) only[go_sem,seval,k0,k1,k5,k6,k10,k11,gk,eQ,qY,qX,Hb,Ha]|(apply aj.i<;>intro hc))
   exact⟨_,by omega,k+1,rfl,G3,F3.congr fun i hi j hj=>yx,A.kQ ch (VT i hi),I.qD ch nwi,hlt,rfl⟩
  ·have hlt':¬(k:Int)<w:=by omega
   obtain rfl:k=w:=by omega
   repeat'(with_reducible first|simp(disch:=try exact ab) only[go_sem,seval,k0,k1,k5,k6,k10,k11,gk,eQ,qY,qX,Hb,Ha,hlt']|(apply aj.i<;>intro hc))
   exact hk _ _ ⟨by simp(disch:=try exact ab) only[go_sem,seval,k0],by simp(disch:=try exact ab) only[go_sem,seval,k1],by simp(disch:=try exact ab) only[go_sem,seval,k5],by simp(disch:=try exact ab) only[go_sem,seval,k6],by simp(disch:=try exact ab) only[go_sem,seval,gk],by simp(disch:=try exact ab) only[go_sem,seval,eQ]⟩ (by simp(disch:=try exact ab) only[go_sem,seval,qY]) (by simp(disch:=try exact ab) only[go_sem,seval,qX]) G F
end
end
end Go.Ae
namespace Go.Ae
open Bg N Go.Proofs Gj
noncomputable section
def eF:au:=eB.r.r.l
def DH (f c i:Nat)(M:Mt):Mt:=fun a j=>if a<i∧a≠f then M a j-M a c*M f j else M a j
section
variable {h h' h0 hp:Hp}{K:AV→Hp→Prop}{tm:T AV}{v va vb vw s:AV}{a b r tt:Rat}{x y:Fc}{p T n z w i j k f u c e:Nat}{t t':Nat→Nat}{M:Mt}{Q:Ex→St→Prop}
theorem yu {a:Nat}:DH f c 0 M a j=M a j:=if_neg (by omega)
theorem qa:DH f c i M i j=M i j:=if_neg (by omega)
theorem Ms:DH f c i M f j=M f j:=if_neg (fun e=>e.2 rfl)
theorem CC {a:Nat}(ha:a<n):red f c M a j=DH f c n M a j:=by
 simp only[red,DH];by_cases c1:a=f
 ·rw[if_pos c1,if_neg (fun e=>e.2 c1)]
 ·rw[if_neg c1,if_pos ⟨ha,c1⟩]
theorem CA {a:Nat}(ne:i≠f)(hj:j<w):DH f c (i+1) M a j=EQ f i w (M i c) (DH f c i M) a j:=by
 simp only[DH,EQ];by_cases c1:a=i
 ·subst c1;rw[if_pos ⟨by omega,ne⟩,if_pos ⟨rfl,hj⟩,if_neg (fun e=>Dw _ e.1),if_neg (fun e=>e.2 rfl)]
 ·by_cases c2:a<i∧a≠f
  ·rw[if_pos (show a<i+1∧a≠f from⟨by omega,c2.2⟩),if_neg (fun e:a=i∧j<w=>c1 e.1),if_pos c2]
  ·rw[if_neg (fun e:a<i+1∧a≠f=>c2 ⟨by omega,e.2⟩),if_neg (fun e:a=i∧j<w=>c1 e.1),if_neg c2]
theorem th {a:Nat}(no:i=f∨M i c=0):DH f c (i+1) M a j=DH f c i M a j:=by
 simp only[DH];by_cases c2:a<i∧a≠f
 ·rw[if_pos c2,if_pos ⟨by omega,c2.2⟩]
 ·rw[if_neg c2];by_cases c1:a=i∧a≠f
  ·obtain⟨rfl,c3⟩:=c1;rw[if_pos ⟨by omega,c3⟩,no.resolve_left c3];grind
  ·rw[if_neg (fun e=>c1 ⟨by omega,e.2⟩)]
theorem OT (q:Kt tm T n f c)(G:aH h hp)(F:Fm h hp T t n w M)(hf:f<n)(hc:c<w)(hw:w≤1000)(hn:n≤1000)(bd:∀i,i<n→∀k,k<w→Bd 400 (M i k))
  (hk:∀fI hp',Kt fI T n f c→aH h hp'→Fm h hp' T t n w (red f c M)→Q .fP ⟨fI,hp'⟩):Wp E2 eR ⟨tm,hp⟩ Q:=by
 obtain⟨k0,k1,k5,k6,gk,eQ⟩:=q;rw[show eR= .seq _ (.block 6 (.loop (.seq _ (.seq _ (.seq (.block 7 (.seq _ (.seq _ eI))) _))))) from rfl];repeat'(with_reducible first|simp(disch:=try exact ab) only[go_sem,seval,k0,k1,k5,k6,gk,eQ]|(apply aj.i<;>intro hc))
 refine Wp.bW (fun mm s=>∃i:Nat,val s.tm (.t 0)= .sl T 0 n 1∧val s.tm (.t 1)= .int .i64 n∧val s.tm (.t 5)= .int .i64 f∧val s.tm (.t 6)= .int .i64 c∧val s.tm (.t 13)= .int .i64 n∧val s.tm (.t 14)= .int .i64 c∧val s.tm (.t 83)= .int .i64 n∧val s.tm (.t 84)= .int .i64 i∧
  aH h s.hp∧Fm h s.hp T t n w (DH f c i M)∧i≤n∧n-i=mm) (n:=n) ?_ ?_
 ·exact⟨0,by simp(disch:=try exact ab) only[go_sem,seval,k0],by simp(disch:=try exact ab) only[go_sem,seval,k1],by simp(disch:=try exact ab) only[go_sem,seval,k5],by simp(disch:=try exact ab) only[go_sem,seval,k6],by simp(disch:=try exact ab) only[go_sem,seval,gk],by simp(disch:=try exact ab) only[go_sem,seval,eQ],aS,by(simp(disch:=try exact ab) only[go_sem,seval])<;>rfl,G,F.congr fun i hi k hk=>yu,aJ _,rfl⟩
 ·clear k0 k1 k5 k6 gk eQ G F;rintro mm ⟨tm,hp⟩ ⟨i,k0,k1,k5,k6,gk,eQ,qY,qX,G,F,hle,rfl⟩;simp only at k0 k1 k5 k6 gk eQ qY qX G F;by_cases hlt:i<n
  ·have hi':(i:Int)<n:=by omega
   have ky:(c:Int)<w:=by omega
   have sf:i+1≤n:=hlt;have ldT:=F.top.ld hlt;have hT:=F.top.lt;have R:=F.row i hlt;have ht:=R.lt;obtain⟨x,Ix,mX⟩:=R.ld hc;rw[qa]at Ix;obtain⟨o1,o2⟩:=Ix.JJ;repeat'(with_reducible first|simp(disch:=try exact ab) only[go_sem,seval,k0,k1,k5,k6,gk,eQ,qY,qX,hi',ky,ldT,mX,o1,o2,Fc.l]|(apply aj.i<;>intro hc))
   by_cases no:i=f∨M i c=0
   ·refine OS (i:=i) (p:=hp.next) (x:=x) (tt:=M i c) (T:=T) (n:=n) (f:=f) (c:=c) ⟨by simp(disch:=try exact ab) only[go_sem,seval,k0],by simp(disch:=try exact ab) only[go_sem,seval,k1],by simp(disch:=try exact ab) only[go_sem,seval,k5],by simp(disch:=try exact ab) only[go_sem,seval,k6],by simp(disch:=try exact ab) only[go_sem,seval,gk],by simp(disch:=try exact ab) only[go_sem,seval,eQ]⟩ aS aS (by simp(disch:=try exact ab) only[go_sem,seval,qY]) (by simp(disch:=try exact ab) only[go_sem,seval,qX]) (G.trans aL) (F.aO aL) (bG.put mJ) (Ix.aO aL) hlt hf hw hn no fun fI hp' q UO UN G' F'=>?_
    obtain⟨k0,k1,k5,k6,gk,eQ⟩:=q;repeat'(with_reducible first|simp(disch:=try exact ab) only[go_sem,seval,k0,k1,k5,k6,gk,eQ,UO,UN]|(apply aj.i<;>intro hc))
    exact⟨_,by omega,i+1,rfl,G',F'.congr fun i hi j hj=>th no,hlt,rfl⟩
   ·have ne:i≠f:=fun e=>no (.inl e)
    have nz:M i c≠0:=fun e=>no (.inr e)
    refine R3 (i:=i) (p:=hp.next) (x:=x) (tt:=M i c) (T:=T) (n:=n) (f:=f) (c:=c) ⟨by simp(disch:=try exact ab) only[go_sem,seval,k0],by simp(disch:=try exact ab) only[go_sem,seval,k1],by simp(disch:=try exact ab) only[go_sem,seval,k5],by simp(disch:=try exact ab) only[go_sem,seval,k6],by simp(disch:=try exact ab) only[go_sem,seval,gk],by simp(disch:=try exact ab) only[go_sem,seval,eQ]⟩ aS aS (by simp(disch:=try exact ab) only[go_sem,seval,qY]) (by simp(disch:=try exact ab) only[go_sem,seval,qX]) (G.trans aL) (F.aO aL) (bG.put mJ) (Ix.aO aL) (by omega) (fun a ha=>by have:=(F.row a ha).lt;omega) hlt hf hw hn ne nz (bd i hlt c hc) (fun k hk=>by rw[qa];exact bd i hlt k hk) (fun k hk=>by rw[Ms];exact bd f hf k hk) fun fI hp' q UO UN G' F'=>?_
    obtain⟨k0,k1,k5,k6,gk,eQ⟩:=q;repeat'(with_reducible first|simp(disch:=try exact ab) only[go_sem,seval,k0,k1,k5,k6,gk,eQ,UO,UN]|(apply aj.i<;>intro hc))
    exact⟨_,by omega,i+1,rfl,G',F'.congr fun i hi j hj=>CA ne hj,hlt,rfl⟩
  ·have hlt':¬(i:Int)<n:=by omega
   obtain rfl:i=n:=by omega
   repeat'(with_reducible first|simp(disch:=try exact ab) only[go_sem,seval,k0,k1,k5,k6,gk,eQ,qY,qX,hlt']|(apply aj.i<;>intro hc))
   exact hk _ _ ⟨by simp(disch:=try exact ab) only[go_sem,seval,k0],by simp(disch:=try exact ab) only[go_sem,seval,k1],by simp(disch:=try exact ab) only[go_sem,seval,k5],by simp(disch:=try exact ab) only[go_sem,seval,k6],by simp(disch:=try exact ab) only[go_sem,seval,gk],by simp(disch:=try exact ab) only[go_sem,seval,eQ]⟩ G (F.congr fun i hi j hj=>CC hi)
theorem OU (q:Kt tm T n c c)(k7:val tm (.t 7)= .int .i64 c)(G:aH h hp)(F:Fm h hp T t n w M)(WA:c≤n)(hc:c<w)(hw:w≤1000)(hn:n≤1000)
  (T3:∀fI hp' a,Kt fI T n c c→val fI (.t 7)= .int .i64 (a:Nat)→vQ (fun i=>decide (M i c≠0)) (n-c) c=some a→aH h hp'→Fm h hp' T t n w M→Q .fP ⟨fI,hp'⟩)
  (hk2:∀fI hp',Kt fI T n c c→vQ (fun i=>decide (M i c≠0)) (n-c) c=none→aH h hp'→Q (.exit 0) ⟨fI,hp'⟩):Wp E2 eF ⟨tm,hp⟩ Q:=by
 obtain⟨k0,k1,k5,k6,gk,eQ⟩:=q;rw[show eF= .block 2 (.loop _) from rfl];repeat'(with_reducible first|simp(disch:=try exact ab) only[go_sem,seval]|(apply aj.i<;>intro hc))
 refine Wp.bW (fun mm s=>∃i:Nat,val s.tm (.t 0)= .sl T 0 n 1∧val s.tm (.t 1)= .int .i64 n∧val s.tm (.t 5)= .int .i64 c∧val s.tm (.t 6)= .int .i64 c∧val s.tm (.t 7)= .int .i64 i∧val s.tm (.t 13)= .int .i64 n∧val s.tm (.t 14)= .int .i64 c∧
  aH h s.hp∧Fm h s.hp T t n w M∧i≤n∧vQ (fun i=>decide (M i c≠0)) (n-i) i=vQ (fun i=>decide (M i c≠0)) (n-c) c∧n-i=mm) (n:=n-c) ?_ ?_
 ·exact⟨c,k0,k1,k5,k6,k7,gk,eQ,G,F,WA,rfl,rfl⟩
 ·clear k0 k1 k5 k6 k7 gk eQ G F;rintro mm ⟨tm,hp⟩ ⟨i,k0,k1,k5,k6,k7,gk,eQ,G,F,hle,rQ,rfl⟩;simp only at k0 k1 k5 k6 k7 gk eQ G F;by_cases hlt:i<n
  ·have hi':(i:Int)<n:=by omega
   have OC:¬(i:Int)=n:=by omega
   have ky:(c:Int)<w:=by omega
   have sf:i+1≤n:=hlt;have ldT:=F.top.ld hlt;have hT:=F.top.lt;have R:=F.row i hlt;have ht:=R.lt;obtain⟨x,Ix,mX⟩:=R.ld hc;have f112:=i112 Ix;by_cases c1:M i c=0
   ·rw[zq (by omega) (decide_eq_false (fun e=>e c1)),show n-i-1=n-(i+1) by omega]at rQ;rw[c1,show(0:Rat).num=0 from rfl,Qf]at f112;repeat'(with_reducible first|simp(disch:=try exact ab) only[go_sem,seval,k0,k1,k5,k6,k7,gk,eQ,hi',OC,ky,ldT,mX,CM]|(refine Gv.wp (f112) fun _ _ _ _=>?_)|(apply aj.i<;>intro hc))
    exact⟨_,by omega,i+1,rfl,G.trans aL,F.aO aL,hlt,rQ,rfl⟩
   ·rw[C3 (by omega) (decide_eq_true c1)]at rQ;have sg:=Qd (z:=(M i c).num) (fun e=>c1 (jM.1 e));generalize max (-1) (min 1 (M i c).num)=sgv at f112 sg
    repeat'(with_reducible first|simp(disch:=try exact ab) only[go_sem,seval,k0,k1,k5,k6,k7,gk,eQ,hi',OC,ky,ldT,mX,CM,sg]|(refine Gv.wp (f112) fun _ _ _ _=>?_)|(apply aj.i<;>intro hc))
    exact T3 _ _ i ⟨by simp(disch:=try exact ab) only[go_sem,seval,k0],by simp(disch:=try exact ab) only[go_sem,seval,k1],by simp(disch:=try exact ab) only[go_sem,seval,k5],by simp(disch:=try exact ab) only[go_sem,seval,k6],by simp(disch:=try exact ab) only[go_sem,seval,gk],by simp(disch:=try exact ab) only[go_sem,seval,eQ]⟩ (by simp(disch:=try exact ab) only[go_sem,seval,k7]) rQ.symm (G.trans aL) (F.aO aL)
  ·obtain rfl:i=n:=by omega
   rw[kA]at rQ;repeat'(with_reducible first|simp(disch:=try exact ab) only[go_sem,seval,k0,k1,k5,k6,k7,gk,eQ]|(apply aj.i<;>intro hc))
   exact hk2 _ _ ⟨by simp(disch:=try exact ab) only[go_sem,seval,k0],by simp(disch:=try exact ab) only[go_sem,seval,k1],by simp(disch:=try exact ab) only[go_sem,seval,k5],by simp(disch:=try exact ab) only[go_sem,seval,k6],by simp(disch:=try exact ab) only[go_sem,seval,gk],by simp(disch:=try exact ab) only[go_sem,seval,eQ]⟩ rQ.symm G
theorem Xa (G:aH h hp)(F:Fm h hp T t n w M)(hn0:0<n)(TW:n≤w)(hw:w≤1000)(hn:n≤1000)(hb:Mb e n w M)(he:eb e n≤7600):
  ac E2 138 [.sl T 0 n 1,.int .i64 n] hp fun v h'=>aH h h'∧∃bb:Bool,v= .bool bb∧((∃E t',el n M n=some E∧bb=true∧Fm h h' T t' n w E)∨(el n M n=none∧bb=false)):=by
 refine ac.fn (fn:=C.a138) rfl rfl rfl ?_;rw[show C.a138.code= .seq _ (.seq _ (.seq _ (.seq _ (.seq (.seq _ (.block 0 (.loop (.seq _ (.seq _ (.seq (.block 1 (.seq _ (.seq _ (.seq eF (.seq _ (.seq _ (.seq eS (.seq eR _)))))))) _)))))) _)))) from rfl,show C.a138.res=[.tmp 4] from rfl];repeat'(with_reducible first|simp(disch:=try exact ab) only[go_sem,seval]|(apply aj.i<;>intro hc))
 refine Wp.bW (fun mm s=>∃(c:Nat) (E:Mt) (t:Nat→Nat),val s.tm (.t 0)= .sl T 0 n 1∧val s.tm (.t 1)= .int .i64 n∧val s.tm (.t 5)= .int .i64 c∧val s.tm (.t 13)= .int .i64 n∧val s.tm (.t 14)= .int .i64 c∧
  aH h s.hp∧Fm h s.hp T t n w E∧el n M c=some E∧c≤n∧n-c=mm) (n:=n) ?_ ?_
 ·exact⟨0,M,t,aS,aS,by(simp(disch:=try exact ab) only[go_sem,seval])<;>rfl,aS,by(simp(disch:=try exact ab) only[go_sem,seval])<;>rfl,G,F,rfl,aJ _,rfl⟩
 ·clear G F;rintro mm ⟨tm,hp⟩ ⟨c,E,t,k0,k1,k5,gk,eQ,G,F,pT,hle,rfl⟩;simp only at k0 k1 k5 gk eQ G F;by_cases hlt:c<n
  ·have ky:(c:Int)<n:=by omega
   have sf:c+1≤n:=hlt;have bE:=Dc hb TW hle pT;have hbE:eb e c≤7600:=aB (xw hle) he;repeat'(with_reducible first|simp(disch:=try exact ab) only[go_sem,seval,k0,k1,k5,gk,eQ,ky]|(apply aj.i<;>intro hc))
   refine OU (T:=T) (n:=n) (c:=c) ⟨by simp(disch:=try exact ab) only[go_sem,seval,k0],by simp(disch:=try exact ab) only[go_sem,seval,k1],by simp(disch:=try exact ab) only[go_sem,seval,k5],by simp(disch:=try exact ab) only[go_sem,seval,k5],by simp(disch:=try exact ab) only[go_sem,seval,gk],by simp(disch:=try exact ab) only[go_sem,seval,eQ]⟩ (by simp(disch:=try exact ab) only[go_sem,seval,k5]) G F hle (by omega) hw hn (fun fI hp' a q k7 rQ G F=>?_) (fun fI hp' q rQ G=>?_)
   ·obtain⟨f1,f2,f3⟩:=qx rQ;have h0:E a c≠0:=of_decide_eq_true f3;have ha:a<n:=by omega
    have hA:(a:Int)<n:=by omega
    have RL:c<w:=by omega
    have Wz:(c:Int)<w:=by omega
    obtain⟨k0,k1,k5,k6,gk,eQ⟩:=q;have ldc:=F.top.ld hlt;have lda:=F.top.ld ha;have oldT:=F.top.old;have hT:=F.top.lt;repeat'(with_reducible first|simp(disch:=try exact ab) only[go_sem,seval,k0,k1,k5,k6,k7,gk,eQ,ky,hA,ldc,lda,oldT]|(apply aj.i<;>intro hc))
    refine F.top.st hlt rfl fun h1 c1 P1=>?_
    repeat'(with_reducible first|simp(disch:=try exact ab) only[go_sem,seval,k0,k1,k5,k6,k7,gk,eQ,ky,hA]|(apply aj.i<;>intro hc))
    refine P1.st ha rfl fun h2 c2 P2=>?_
    have F2:=F.swap hlt ha c1 c2 P2;have G2:=(c1.trans c2).aO G F.kh;generalize (fun i=>if i=c then t a else if i=a then t c else t i)=t2 at F2
    have U7:=F2.top.ld hlt;have hT2:=F2.top.lt;have R2:=F2.row c hlt;have ht2:=R2.lt;obtain⟨x,Ix,mX⟩:=R2.ld RL;rw[rL]at Ix;have bE2:=bE.swp hlt ha
    have bS:Mb (eb e c) n w (Aw c (E a c)⁻¹ (swp c a E)):=by
     have:=bE2.Aw hlt RL (by rw[rL];exact h0);rwa[rL]at this
    have ba:Bd 400 (E a c):=((bE a ha).db RL).bd (by omega);repeat'(with_reducible first|simp(disch:=try exact ab) only[go_sem,seval,k0,k1,k5,k6,k7,gk,eQ,ky,hA,Wz,U7,mX,UM]|(apply aj.i<;>intro hc))
    refine Gp.wp (i245 (Ix.aO aL) (ba.mono (by decide)) h0) fun v1 h3 a1 b1 u1 I1=>?_
    obtain⟨y,rfl,o1,o2⟩:=I1.cell;repeat'(with_reducible first|simp(disch:=try exact ab) only[go_sem,seval,k0,k1,k5,k6,k7,gk,eQ,o1,o2,Fc.l]|(apply aj.i<;>intro hc))
    refine Ko (p:=h2.next+a1) (x:=y) (b:=(E a c)⁻¹) (M:=swp c a E) (t:=t2) (T:=T) (n:=n) (f:=c) (c:=c) (w:=w) (by simp(disch:=try exact ab) only[go_sem,seval,k0]) (by simp(disch:=try exact ab) only[go_sem,seval,k1]) (by simp(disch:=try exact ab) only[go_sem,seval,k5]) (by simp(disch:=try exact ab) only[go_sem,seval,k6]) aS (by simp(disch:=try exact ab) only[go_sem,seval,gk]) (by simp(disch:=try exact ab) only[go_sem,seval,eQ]) (G2.trans aL) (F2.aO aL) (bG.put mJ) (I1.aO aL) (by omega) (fun i hi=>by have:=(F2.row i hi).lt;omega) hlt hw hn (fun k hk=>((bE2 c hlt).db hk).bd (by omega)) ((ba.inv h0).mono (by decide)) fun fI hp' q0 q1 q5 q6 ZG ZF G4 F4=>?_
    repeat'(with_reducible first|simp(disch:=try exact ab) only[go_sem,seval,q0,q1,q5,q6,ZG,ZF]|(apply aj.i<;>intro hc))
    refine OT (T:=T) (n:=n) (f:=c) (c:=c) ⟨by simp(disch:=try exact ab) only[go_sem,seval,q0],by simp(disch:=try exact ab) only[go_sem,seval,q1],by simp(disch:=try exact ab) only[go_sem,seval,q5],by simp(disch:=try exact ab) only[go_sem,seval,q6],by simp(disch:=try exact ab) only[go_sem,seval,ZG],by simp(disch:=try exact ab) only[go_sem,seval,ZF]⟩ G4 F4 hlt RL hw hn (fun i hi k hk=>((bS i hi).db hk).bd (by omega)) fun fI hp' q G5 F5=>?_
    obtain⟨k0,k1,k5,k6,gk,eQ⟩:=q;repeat'(with_reducible first|simp(disch:=try exact ab) only[go_sem,seval,k0,k1,k5,k6,gk,eQ]|(apply aj.i<;>intro hc))
    exact⟨_,by omega,c+1,Jn c c a E,t2,rfl,rfl,G5,F5,Da pT rQ,hlt,rfl⟩
   ·have rP:el n M n=none:=zz (C9 pT rQ) hlt;obtain⟨k0,k1,k5,k6,gk,eQ⟩:=q;have WA:¬(c:Int)=n:=by omega
    repeat'(with_reducible first|simp(disch:=try exact ab) only[go_sem,seval,k0,k1,k5,k6,gk,eQ,WA]|(apply aj.i<;>intro hc))
    exact⟨G,_,rfl,.inr ⟨rP,rfl⟩⟩
  ·have hlt':¬(c:Int)<n:=by omega
   obtain rfl:c=n:=by omega
   repeat'(with_reducible first|simp(disch:=try exact ab) only[go_sem,seval,k0,k1,k5,gk,eQ,hlt']|(apply aj.i<;>intro hc))
   exact⟨G,_,rfl,.inl ⟨E,t,pT,rfl,F⟩⟩
end
end
end Go.Ae
namespace Go.Ae
namespace So
def sw (d:Nat→Nat)(a b k:Nat)(i:Nat):Nat:=if a≤i∧i<a+k then d (b+(i-a))else if b≤i∧i<b+k then d (a+(i-b))else d i
def CF (d:Nat→Nat)(a m b:Nat)(i:Nat):Nat:=if a≤i∧i<a+(b-m)then d (i+(m-a))else if a+(b-m)≤i∧i<b then d (i-(b-m))else d i
structure Pm (d e:Nat→Nat)(a b:Nat):Prop where
 out:∀k,¬(a≤k∧k<b)→e k=d k
 fw:∀k,a≤k→k<b→∃k',a≤k'∧k'<b∧e k=d k'
 bw:∀k,a≤k→k<b→∃k',a≤k'∧k'<b∧d k=e k'
theorem Pm.refl (d:Nat→Nat)(a b:Nat):Pm d d a b:=⟨fun _ _=>rfl,fun k h1 h2=>⟨k,h1,h2,rfl⟩,fun k h1 h2=>⟨k,h1,h2,rfl⟩⟩
theorem Pm.trans {d e f:Nat→Nat}{a b:Nat}(x:Pm d e a b)(y:Pm e f a b):Pm d f a b:=by
 refine⟨fun k hk=>(y.out k hk).trans (x.out k hk),fun k h1 h2=>?_,fun k h1 h2=>?_⟩
 ·obtain⟨k1,p1,p2,p3⟩:=y.fw k h1 h2;obtain⟨k2,q1,q2,q3⟩:=x.fw k1 p1 p2;exact⟨k2,q1,q2,p3.trans q3⟩
 ·obtain⟨k1,p1,p2,p3⟩:=x.bw k h1 h2;obtain⟨k2,q1,q2,q3⟩:=y.bw k1 p1 p2;exact⟨k2,q1,q2,p3.trans q3⟩
theorem Pm.mono {d e:Nat→Nat}{a b a' b':Nat}(x:Pm d e a b)(h1:a'≤a)(h2:b≤b'):Pm d e a' b':=by
 refine⟨fun k hk=>x.out k (by omega),fun k p1 p2=>?_,fun k p1 p2=>?_⟩
 ·by_cases c:a≤k∧k<b
  ·obtain⟨k',q1,q2,q3⟩:=x.fw k c.1 c.2;exact⟨k',by omega,by omega,q3⟩
  ·exact⟨k,p1,p2,x.out k c⟩
 ·by_cases c:a≤k∧k<b
  ·obtain⟨k',q1,q2,q3⟩:=x.bw k c.1 c.2;exact⟨k',by omega,by omega,q3⟩
  ·exact⟨k,p1,p2,(x.out k c).symm⟩
def Sd (L:Nat→Nat→Prop)(d:Nat→Nat)(a b:Nat):Prop:=∀i j,a≤i→i<j→j<b→L (d i) (d j)
theorem Sd.sub {L:Nat→Nat→Prop}{d:Nat→Nat}{a b a' b':Nat}(s:Sd L d a b)(h1:a≤a')(h2:b'≤b):Sd L d a' b':=fun i j p q r=>s i j (by omega) q (by omega)
theorem Sd.congr {L:Nat→Nat→Prop}{d e:Nat→Nat}{a b:Nat}(s:Sd L d a b)(h:∀k,a≤k→k<b→e k=d k):Sd L e a b:=fun i j p q r=>by
 rw[h i p (by omega),h j (by omega) r];exact s i j p q r
section
variable {L:Nat→Nat→Prop}{d e f:Nat→Nat}{a m b mid st en:Nat}
theorem split (tr:∀x y z,L x y→L y z→L x z)(Z6:a≤st)(h1:st≤m)(h2:m≤en)(h3:en≤b)(hs:st+en=mid+m)(sl:Sd L d a m)(sr:Sd L d m b)
  (c1:st=a∨en=b∨L (d (st-1)) (d en)) (c2:st=m∨en=m∨L (d (en-1)) (d st)):
  Sd L (CF d st m en) a st∧Sd L (CF d st m en) st mid∧Sd L (CF d st m en) mid en∧Sd L (CF d st m en) en b∧∀i j,a≤i→i<mid→mid≤j→j<b→L (CF d st m en i) (CF d st m en j):=by
 have v1:∀i,i<st→CF d st m en i=d i:=fun i h=>by unfold CF;rw[if_neg (by omega),if_neg (by omega)]
 have v2:∀i,st≤i→i<mid→CF d st m en i=d (i+(m-st)):=fun i h h'=>by unfold CF;rw[if_pos ⟨h,by omega⟩]
 have v3:∀i,mid≤i→i<en→CF d st m en i=d (i-(en-m)):=fun i h h'=>by unfold CF;rw[if_neg (by omega),if_pos ⟨by omega,h'⟩]
 have v4:∀i,en≤i→CF d st m en i=d i:=fun i h=>by unfold CF;rw[if_neg (by omega),if_neg (by omega)]
 have le_of:∀{x y},x≤y→y<m→a≤x→(x=y∨L (d x) (d y)):=fun{x y} h h' xg=>by
  rcases Aq h with e|e
  ·exact .inl e
  ·exact .inr (sl x y xg e h')
 have le_of':∀{x y},x≤y→y<b→m≤x→(x=y∨L (d x) (d y)):=fun{x y} h h' xg=>by
  rcases Aq h with e|e
  ·exact .inl e
  ·exact .inr (sr x y xg e h')
 refine⟨?_,?_,?_,?_,?_⟩
 ·exact(sl.sub (ae _) h1).congr fun k p q=>v1 k q
 ·intro i j p q r;rw[v2 i p (by omega),v2 j (by omega) r];exact sr _ _ (by omega) (by omega) (by omega)
 ·intro i j p q r;rw[v3 i p (by omega),v3 j (by omega) r];exact sl _ _ (by omega) (by omega) (by omega)
 ·exact(sr.sub h2 (ae _)).congr fun k p q=>v4 k p
 ·intro i j p1 p2 p3 p4;by_cases ci:i<st<;>by_cases cj:j<en
  ·rw[v1 i ci,v3 j p3 cj];exact sl _ _ p1 (by omega) (by omega)
  ·rw[v1 i ci,v4 j (by omega)];have h:=c1.resolve_left (by omega)|>.resolve_left (by omega)
   rcases le_of (x:=i) (y:=st-1) (by omega) (by omega) p1 with e|e
   ·rw[e];rcases le_of' (x:=en) (y:=j) (by omega) p4 h2 with e'|e'
    ·rw[←e'];exact h
    ·exact tr _ _ _ h e'
   ·rcases le_of' (x:=en) (y:=j) (by omega) p4 h2 with e'|e'
    ·rw[←e'];exact tr _ _ _ e h
    ·exact tr _ _ _ e (tr _ _ _ h e')
  ·rw[v2 i (by omega) p2,v3 j p3 cj];have h:=c2.resolve_left (by omega)|>.resolve_left (by omega)
   rcases le_of' (x:=i+(m-st)) (y:=en-1) (by omega) (by omega) (by omega)with e|e
   ·rw[e];rcases le_of (x:=st) (y:=j-(en-m)) (by omega) (by omega) Z6 with e'|e'
    ·rw[←e'];exact h
    ·exact tr _ _ _ h e'
   ·rcases le_of (x:=st) (y:=j-(en-m)) (by omega) (by omega) Z6 with e'|e'
    ·rw[←e'];exact tr _ _ _ e h
    ·exact tr _ _ _ e (tr _ _ _ h e')
  ·rw[v2 i (by omega) p2,v4 j (by omega)];exact sr _ _ (by omega) (by omega) p4
theorem join (s1:Sd L f a mid)(s2:Sd L f mid b)(p1:Pm e f a b)(q1:∀k,a≤k→k<mid→∃k',a≤k'∧k'<mid∧f k=e k')(q2:∀k,mid≤k→k<b→∃k',mid≤k'∧k'<b∧f k=e k')
  (h:∀i j,a≤i→i<mid→mid≤j→j<b→L (e i) (e j)):Sd L f a b:=fun i j p q r=>by
 by_cases ci:j<mid
 ·exact s1 i j p q ci
 ·by_cases cj:mid≤i
  ·exact s2 i j cj q r
  ·obtain⟨k1,a1,a2,a3⟩:=q1 i p (by omega);obtain⟨k2,b1,b2,b3⟩:=q2 j (by omega) r;rw[a3,b3];exact h k1 k2 a1 a2 b1 b2
end
end So
open So Bg
noncomputable section
def Wn (n:Nat)(d:Nat→Nat):List Nat:=(ct n).map d
theorem IF {n:Nat}{d:Nat→Nat}:(Wn n d).length=n:=by unfold Wn;simp
theorem Aj {n:Nat}{d e:Nat→Nat}(h:∀k,k<n→e k=d k):Wn n e=Wn n d:=by
 unfold Wn;exact bJ fun k hk=>h k (List.mem_range.1 hk)
def wJ (d:Nat→Nat)(i x:Nat)(k:Nat):Nat:=if k=i then x else d k
theorem IE {n k:Nat}{d:Nat→Nat}:(Wn n d)[k]?=if k<n then some (d k)else none:=by
 unfold Wn;rw[bK];by_cases c:k<n
 ·rw[eT c,if_pos c];rfl
 ·rw[bO (by simp;omega),if_neg c];rfl
theorem Pu {n i x:Nat}{d:Nat→Nat}(hi:i<n):(Wn n d).set i x=Wn n (wJ d i x):=by
 apply Au;intro k;rw[List.getElem?_set,IE,IE,IF];unfold wJ;by_cases c:i=k
 ·subst c;simp[hi]
 ·have c':¬k=i:=fun e=>c e.symm
  rw[if_neg c,if_neg c']
def Rw (h:Hp)(t n:Nat)(d:Nat→Nat):Prop:=bG h t ((Wn n d).map (wd .i64))
section
variable {h h' hp:Hp}{K:AV→Hp→Prop}{tm:T AV}{t n i x:Nat}{d e:Nat→Nat}{w:AV}
theorem Rw.congr (A:Rw h t n d)(hk:∀k,k<n→e k=d k):Rw h t n e:=by unfold Rw;rw[Aj hk];exact A
theorem Rw.st (A:Rw h t n d)(hi:i<n)(x:Nat):∃h1,(∀K,fb 1 t i (.int .i64 (x:Nat)) (h.get t) h K↔K jC h1)∧ig t h h1∧Rw h1 t n (wJ d i x)∧h1.next=h.next:=by
 refine⟨_,fun K=>bG.vA A (i:=i) (by rw[IF];exact hi) x h K,ig.refl.put,?_,rfl⟩;have:=bG.lt A;unfold Rw;rw[Pu hi];exact bG.put this
end
end
end Go.Ae
namespace Go.Ae
open So Bg
noncomputable section
structure Cmp (n f:Nat)(caps:List AV)(t:Nat)(P:Hp→Prop)(cz:Nat→Nat→Int)(L:Nat→Nat→Prop):Prop where
 st:∀h h',P h→ig t h h'→P h'
 call:∀(h:Hp) (x y:Nat) (K:AV→Hp→Prop),P h→x<n→y<n→(ac E2 f (.int .i64 x:: .int .i64 y::caps) h K↔K (.int .i64 (cz x y)) h)
 lt:∀x y,y<x→(cz x y<0↔L x y)
 gt:∀x y,y<x→(¬L x y↔L y x)
 tr:∀x y z,L x y→L y z→L x z
def ins (e:Nat→Nat)(i j x k:Nat):Nat:=if k<j then e k else if k=j then x else if k≤i then e (k-1)else e k
section
variable {h h' hp:Hp}{K:AV→Hp→Prop}{tm:T AV}{n t f:Nat}{d e:Nat→Nat}{caps:List AV}{P:Hp→Prop}{cz:Nat→Nat→Int}{L:Nat→Nat→Prop}
end
end
end Go.Ae
namespace Go.Ae
open So Bg
noncomputable section
def Gd (L:Nat→Nat→Prop)(e:Nat→Nat)(a b:Nat):Prop:=Sd L e a b∧(∀i,a≤i→i<b→a≤e i∧e i<b)∧∀v,a≤v→v<b→∃i,a≤i∧i<b∧e i=v
def Ch (L:Nat→Nat→Prop)(e:Nat→Nat)(s a n:Nat):Prop:=∀k,a+k*s<n→Gd L e (a+k*s) (min (a+k*s+s) n)
def Dn (L:Nat→Nat→Prop)(e:Nat→Nat)(s a:Nat):Prop:=∀k,k*s+s≤a→Gd L e (k*s) (k*s+s)
section
variable {h h' hp:Hp}{K:AV→Hp→Prop}{tm:T AV}{n t f s a b m q:Nat}{d e e':Nat→Nat}{caps:List AV}{P:Hp→Prop}{cz:Nat→Nat→Int}{L:Nat→Nat→Prop}
theorem Dn.next (D:Dn L e s a)(ha:a=q*s)(g:Gd L e a (a+s)):Dn L e s (a+s):=fun k hk=>by
 by_cases c:k*s+s≤a
 ·exact D k c
 ·have hq:k=q:=by
   rcases mP k q with l|l|l
   ·have:=aM s (show k+1≤q by omega);rw[uR]at this;omega
   ·exact l
   ·have:=aM s (show q+1≤k by omega);rw[uR]at this;by_cases hs:s=0
    ·subst hs;omega
    ·omega
  subst hq;rw[←ha];exact g
theorem Ch.of (D:Dn L e s a)(ha:a=q*s)(hs:0<s)(h1:a≤n)(h2:n<a+s)(g:a<n→Gd L e a n):Ch L e s 0 n:=fun k hk=>by
 rw[Nat.zero_add]at hk⊢;by_cases c:k*s+s≤a
 ·have:=D k c;rwa[show min (k*s+s) n=k*s+s by omega]
 ·have hq:k=q:=by
   rcases mP k q with l|l|l
   ·have:=aM s (show k+1≤q by omega);rw[uR]at this;omega
   ·exact l
   ·have:=aM s (show q+1≤k by omega);rw[uR]at this;omega
  subst hq;rw[←ha]at hk⊢;rw[show min (a+s) n=n by omega];exact g hk
end
end
end Go.Ae
namespace Go.Ae
open So Bg
noncomputable section
def SQ (x:Int):Prop:=x<0∨999999999<x
instance {x:Int}:Decidable (SQ x):=by unfold SQ;infer_instance
section
variable {h h' hp:Hp}{K:AV→Hp→Prop}{tm:T AV}{n t f s a b m q:Nat}{d e e':Nat→Nat}{v:AV}{w:List Int}
theorem jS {t:Nat}{a b:Int}(hA:At h t [.int .i64 a,.int .i64 b])(ht:t<h.next):Gv E2 130 [.sl t 0 2 1] h (.int .i64 (kp a b)):=by
 obtain⟨st,hg⟩:=hA;exact pN hg ht
def O8 (r:Nat→Nat)(x y:Nat):Prop:=r y<r x∨(r x=r y∧x<y)
end
end
end Go.Ae
namespace Go.Ae
open Bg N Go.Proofs Gj So
noncomputable section
def Ts (h:Hp)(T n:Nat)(e:Nat→AV):Prop:=∃st,h.get T=some (.row ((ct n).map e) true st)∧T<h.next∧st≤h.dc
def sR (e:Nat→AV)(j:Nat)(v:AV):Nat→AV:=fun i=>if i=j then v else e i
abbrev Sw (h:Hp)(t w:Nat)(g:Nat→Rat):Prop:=Ts h t w fun k=> .str (aX (g k))
def Fg (h0 h:Hp)(v:AV)(k:Nat)(g:Nat→Rat):Prop:=(v= .aq∧k=0)∨∃u,v= .sl u 0 k 4∧0<k∧Fw h u k g∧h0.next≤u
section
variable {h h' h0 hp:Hp}{K:AV→Hp→Prop}{tm:Ae.T AV}{v va vb vw s:AV}{a b r tt:Rat}{x y:Fc}{p T n z w i j k f u c q:Nat}{t t':Nat→Nat}{M:Mt}{e:Nat→AV}{g:Nat→Rat}{o:Option cP}{l:List (List UInt8)}{rs:List Rat}
theorem Ts.ld (P:Ts h T n e)(hj:j<n):∀h' K,fU false 1 j (h.get T) h' K↔K (e j) h':=by
 obtain⟨st,hg,h1,h2⟩:=P;intro h' K;rw[hg,fU.row,if_pos (by simp;omega),if_neg (by decide),bK,eT hj];exact ax
theorem Ts.old (P:Ts h T n e):∀c0,h.dc≤c0→lR (h.get T) c0=true:=by
 obtain⟨st,hg,h1,h2⟩:=P;intro c0 hc;rw[hg];exact lR.row (aB h2 hc)
theorem Ts.lt (P:Ts h T n e):T<h.next:=by
 obtain⟨st,hg,h1,h2⟩:=P;exact h1
theorem Ts.aO (P:Ts h T n e)(G:aH h h'):Ts h' T n e:=by
 obtain⟨st,hg,h1,h2⟩:=P;exact⟨st,(G.get h1).trans hg,ah h1 G.next,aB h2 G.dc⟩
theorem Ts.kQ (P:Ts h T n e)(ch:ig p h h')(ne:T≠p):Ts h' T n e:=by
 obtain⟨st,hg,h1,h2⟩:=P;exact⟨st,(ch.get T h1 ne).trans hg,ah h1 ch.next,aB h2 ch.dc⟩
theorem Ts.nw (P:Ts h T n e)(hn:0<n)(he:∀m:Nat,e 0≠wd .u64 m):nw h T:=by
 obtain⟨st,hg,h1,h2⟩:=P;obtain⟨n,rfl⟩:∃m,n=m+1:=⟨n-1,by omega⟩
 rw[oU,eH]at hg;exact nw.row hg he
theorem Ts.congr {e':Nat→AV}(P:Ts h T n e)(he:∀k,k<n→e' k=e k):Ts h T n e':=by
 obtain⟨st,hg,h1,h2⟩:=P;refine⟨st,?_,h1,h2⟩;rw[hg];have:(ct n).map e=(ct n).map e':=bJ fun k hk=>(he k (by simpa using hk)).symm
 rw[this]
theorem Ts.st (P:Ts h T n e)(hj:j<n)(hv:v.cells=[v])(h1:v.one=true)(ho:o=h.get T)(hk:∀h',ig T h h'→Ts h' T n (sR e j v)→K jC h'):fb 1 T j v o h K:=by
 obtain⟨st,hg,h3,h2⟩:=P;rw[ho,hg,fb.row,hv];refine⟨rfl,by simp;omega,by simp[h1],hk _ ig.refl.put ⟨_,?_,h3,ae _⟩⟩;rw[yk (by simpa using hj)];have:=vB (n:=n) (j:=j) (e:=e) (e':=sR e j v) hj rfl (fun i hi=>by unfold sR;rw[if_neg hi]);rw[show sR e j v j=v by unfold sR;rw[if_pos rfl]]at this;rw[this];exact Hp.lH
theorem Fw.app {b':Nat}(F:Fw h u w g)(hl:h0.next≤u)(I:jL h (.agg x.l) r)(G:aH h0 h)(Bq:0<w)(hw:w≤100000)(hb:b'≤100)(hq:q=h.next)(hk:∀u' h',aH h0 h'→ig u h h'→Ae.nw h u→Fw h' u' (w+1) (AH g w r)→h.next<u'→K (.sl u' 0 (w+1) 4) h'):
  dK (jm (h.push fun st=> .row x.l true st) 4 b' (.sl u 0 w 4) (.sl q 0 1 4)) K:=by
 have hn:=F.nw Bq;have F0:=F;obtain⟨L,st,hg,h1,h2,h3,h4⟩:=F;subst h3;have O:cO 4 h0 h (.sl u 0 L.length 4) L.length (L.flatMap Fc.l):=⟨ko Fc.mK L,.inr ⟨u,st,rfl,hg,hl,h1,h2⟩⟩
 have hb2:(L.length+1)*b'≤(L.length+1)*100:=aD _ hb;refine cO.Np hq G O x.mK (by decide) (by omega) (by omega) fun v' h' G' O' fr nx ck fs nn=>?_
 obtain⟨hl',⟨e1,_⟩|⟨t',st',e1,hg',_,h1',h2'⟩⟩:=O'
 ·exact absurd e1 nn
 ·subst e1;have ch:ig u h h':=⟨nx,ck,fun t ht ne=>fr t ht fun t'' o' n' e=>by injection e with e;omega⟩
  have hlt:=fs t' 0 (L.length+1) rfl;refine hk t' h' G' ch hn ⟨L++[x],st',by rw[kV];simpa using hg',h1',h2',by simp,fun k hk=>?_⟩ hlt;unfold AH;by_cases c:k=L.length
  ·subst c;rw[if_pos rfl,AC (ae _)];simp only[kA,EN];exact I.qD ch hn
  ·have hk':k<L.length:=by simp at hk;omega
   rw[if_neg c,Cf hk'];exact(h4 k hk').qD ch hn
theorem Fg.app {b':Nat}(F:Fg h0 h v w g)(I:jL h (.agg x.l) r)(G:aH h0 h)(hw:w≤100000)(hb:b'≤100)(hq:q=h.next)(hk:∀v' h',aH h0 h'→Fg h0 h' v' (w+1) (AH g w r)→K v' h'):
  dK (jm (h.push fun st=> .row x.l true st) 4 b' v (.sl q 0 1 4)) K:=by
 rcases F with⟨rfl,rfl⟩|⟨u,rfl,Bq,F,hl⟩
 ·refine cO.Np hq G cO.nil x.mK (by decide) (by omega) (by omega) fun v' h' G' O' fr nx ck fs nn=>?_
  obtain⟨hl',⟨e1,_⟩|⟨t',st',e1,hg',hlo,h1',h2'⟩⟩:=O'
  ·exact absurd e1 nn
  ·subst e1;have ch:aH h h':=⟨h'.next-h.next,h'.dc-h.dc,by omega,by omega,fun t ht=>fr t ht fun t'' o' n' e=>nomatch e⟩
   refine hk _ h' G' (.inr ⟨t',rfl,vh,⟨[x],st',by simpa using hg',h1',h2',rfl,fun k hk=>?_⟩,hlo⟩);obtain rfl:k=0:=by simpa using hk
   exact I.aO ch
 ·exact F.app hl I G Bq hw hb hq fun u' h' G' ch hn F' hlt=>hk _ h' G' (.inr ⟨u',rfl,Nat.succ_pos _,F',by have:=G.next;omega⟩)
theorem Ij (o:jd h v l)(hl:l.length≤1000000)(hs:∀i,i<l.length→(jj l i).length≤1000000):Gv E2 136 [v] h (.int .i64 (ni l)):=by
 refine Gv.of (ac.fn (fn:=C.LJ) rfl rfl rfl ?_);unfold C.LJ;have ln:=o.rz.len;have ad:=o.rz.jn;repeat'(with_reducible first|simp(disch:=try exact ab) only[go_sem,seval,ln]|(apply aj.i<;>intro hc))
 refine Wp.bW (fun mm s=>∃(i:Nat),val s.tm (.t 6)=v∧val s.tm (.t 7)= .int .i64 l.length∧val s.tm (.t 8)= .int .i64 i∧
  aH h s.hp∧i≤l.length∧te (fun i=>fm (jj l i)) (l.length-i) i=ni l∧l.length-i=mm) (n:=l.length) ?_ ?_
 ·exact⟨0,aS,by simp(disch:=try exact ab) only[go_sem,seval,ln],by(simp(disch:=try exact ab) only[go_sem,seval])<;>rfl,aH.refl _,aJ _,rfl,rfl⟩
 ·rintro mm ⟨tm,hp⟩ ⟨i,k6,k7,k8,G,hle,hsc,rfl⟩;simp only at k6 k7 k8 G;by_cases hlt:i<l.length
  ·have hlt':(i:Int)<l.length:=by omega
   have hlt1:i+1≤l.length:=hlt;have ld:=(o.aO G).ld hlt;have f101:=fun h=>i101 (h:=h) (hs i hlt)
   rw[←hsc];by_cases c1:fm (jj l i)=0
   ·rw[c1]at f101;repeat'(with_reducible first|simp(disch:=try exact ab) only[go_sem,seval,k6,k7,k8,ad,hlt',ld]|(refine Gv.wp (f101 _) fun _ _ _ _=>?_)|(apply aj.i<;>intro hc))
    exact⟨_,by omega,i+1,rfl,G.trans aL,hlt1,(pZ (f:=fun i=>fm (jj l i)) (k:=l.length-i) c1 (by omega)).symm,rfl⟩
   ·rw[lG (f:=fun i=>fm (jj l i)) c1 (by omega)];repeat'(with_reducible first|simp(disch:=try exact ab) only[go_sem,seval,k6,k7,k8,ad,hlt',ld,c1]|(refine Gv.wp (f101 _) fun _ _ _ _=>?_)|(apply aj.i<;>intro hc))
    first|exact G.trans aL|exact⟨rfl,G.trans aL⟩
  ·have hlt':¬(i:Int)<l.length:=by omega
   obtain rfl:i=l.length:=by omega
   rw[←hsc,kA];repeat'(with_reducible first|simp(disch:=try exact ab) only[go_sem,seval,k6,k7,k8,hlt']|(apply aj.i<;>intro hc))
   first|exact G|exact⟨rfl,G⟩
theorem Rg {ln:tO .slice v=some (.int .i64 n)}(ad:∀(k:IntKind) (i:Int),0≤i∧i<n→vM 1 v (.int k i)=some (.ptr v.tok (i.toNat*1)))
  (ld:∀i,i<n→∀h' K,fU false 1 i (h.get v.tok) h' K↔K (.str (aX (g i))) h') (ht:v.tok<h.next) (ok:∀i,i<n→oe (g i)=true) (hn:n≤1000000):Gp E2 137 [v] h fun v' h'=>∃u,v'= .sl u 0 n 4∧Fw h' u n g∧h.next≤u:=by
 refine Gp.of (ac.fn (fn:=C.LI) rfl rfl rfl ?_);unfold C.LI;repeat'(with_reducible first|simp(disch:=try exact ab) only[go_sem,seval,ln]|(apply aj.i<;>intro hc))
 refine UW (n:=n) (by simp(disch:=try exact ab) only[go_sem,seval,ln]) (by simp(disch:=try exact ab) only[go_sem,seval,ln]) hn ?_;repeat'(with_reducible first|simp(disch:=try exact ab) only[go_sem,seval,ln]|(apply aj.i<;>intro hc))
 refine Wp.bW (fun m s=>∃(i:Nat) (g':Nat→Rat) (L:List Fc) (c:Nat),val s.tm (.t 9)=v∧val s.tm (.t 10)= .int .i64 n∧val s.tm (.t 11)= .int .i64 i∧val s.tm (.t 3)= .sl h.next 0 n 4∧
  aH h s.hp∧s.hp.get h.next=some (.row ((L++av (n-i) Fc.z).flatMap Fc.l) true c)∧h.next<s.hp.next∧c≤s.hp.dc∧L.length=i∧(∀k (hk:k<L.length),jL s.hp (.agg (L[k]).l) (g k))∧i≤n∧n-i=m) (n:=n) ?_ ?_
 ·exact⟨0,g,[],_,aS,by simp(disch:=try exact ab) only[go_sem,seval,ln],by(simp(disch:=try exact ab) only[go_sem,seval])<;>rfl,aS,(aH.refl _).push,Hp.cu,cN _,ae _,rfl,fun k hk=>absurd hk (fh _),aJ _,rfl⟩
 ·rintro m ⟨tm,hp⟩ ⟨i,g',L,c,h9,h10,h11,h3,hG,hgT,hT,hc,hL,hF,hle,rfl⟩;simp only at h9 h10 h11 h3 hG hgT hT hc hF
  have hls:((L++av (n-i) Fc.z).flatMap Fc.l).length=n*4:=by
   rw[ko Fc.mK,ar,List.length_replicate,hL];congr 1;omega
  by_cases hlt:i<n
  ·have hlt':(i:Int)<n:=by omega
   have hcs:=ld i hlt;have hgv:=hG.get ht;rw[←hgv]at hcs;have hok:=ok i hlt
   have Ka:av (n-i) Fc.z=Fc.z::av (n-(i+1)) Fc.z:=by
    rw[show n-i=n-(i+1)+1 by omega];rfl
   have hcell:nw hp h.next:=by
    rw[Ka]at hgT;cases L with
    |nil=>rw[List.nil_append,fM]at hgT;exact nw.row (l:= .int .i64 0) hgT (fun m e=>by unfold wd at e;cases e)
    |cons y L=>rw[List.cons_append,fM]at hgT;exact nw.row (l:= .int .i64 y.n) hgT (fun m e=>by unfold wd at e;cases e)
   have sf:i*4+4≤((L++av (n-i) Fc.z).flatMap Fc.l).length:=by omega
   have mr:=fun x:Fc=>zr (L:=L) (x:=x) (R:=av (n-(i+1)) Fc.z) (y:=Fc.z)
   rw[←Ka,hL]at mr;have hlt1:i+1≤n:=hlt;generalize (L++av (n-i) Fc.z).flatMap Fc.l=cells at *
   repeat'(with_reducible first|simp(disch:=try exact ab) only[go_sem,seval,h9,h10,h11,h3,hlt',ad,hcs,hlt1]|(apply aj.i<;>intro hc))
   refine Gp.wp (i111 hok) fun v1 k1 a1 b1 u1 I1=>?_
   obtain⟨x,rfl,o1,o2⟩:=I1.cell;have Rs:=mr x;have gu:aH hp (hp.ov k1 u1):=⟨_,_,u1⟩
   have Hy:=hcell.aO gu hT;repeat'(with_reducible first|simp(disch:=try exact ab) only[go_sem,seval,h9,h10,h11,h3,hgT,sf,o1,o2,Fc.l]|(apply aj.i<;>intro hc))
   refine⟨_,by omega,i+1,g',L++[x],_,rfl,aL,congrArg (fun q=>some (cP.row q true _)) Rs,by omega,ae _,by simp[hL],fun k hk=>?_,hlt,rfl⟩;by_cases ck:k<L.length
   ·rw[Cf ck];exact((hF k ck).aO gu).qD ig.refl.put Hy
   ·obtain rfl:k=L.length:=by simp at hk;omega
    rw[AC (ae _)];simp only[kA,EN,hL];exact I1.qD ig.refl.put Hy
  ·have hlt':¬(i:Int)<n:=by omega
   obtain rfl:i=n:=by omega
   repeat'(with_reducible first|simp(disch:=try exact ab) only[go_sem,seval,h9,h10,h11,h3,hlt']|(apply aj.i<;>intro hc))
   rw[kA,List.replicate_zero,List.append_nil]at hgT;exact⟨⟨_,rfl,⟨L,_,hgT,hT,hc,hL,hF⟩,ae _⟩,hG⟩
end
end
end Go.Ae
namespace Go.Ae
open Bg N Go.Proofs Gj So
noncomputable section
def Gm (h0 h:Hp)(v:AV)(i w:Nat)(M:Mt):Prop:=(v= .aq∧i=0)∨∃T t,v= .sl T 0 i 1∧0<i∧Fm h0 h T t i w M
section
variable {h h' h0 h1 hp:Hp}{K:AV→Hp→Prop}{tm:Ae.T AV}{v va vb vw s:AV}{a b r tt:Rat}{x y:Fc}{p T n z w i j k f u c q:Nat}{t t':Nat→Nat}{M:Mt}{e:Nat→AV}{g:Nat→Rat}{o:Option cP}{l:List (List UInt8)}{rs:List Rat}
theorem Ts.Mq (P:Ts h1 T n e)(G:aH h0 h1)(gr:aH h1 h)(hj:j<n)(hv:v.cells=[v])(ho1:v.one=true)(kh:h0.next≤T)(ho:o=h1.get T)(hk:∀h',aH h0 h'→ig T h1 h'→Ts h' T n (sR e j v)→K jC h'):fb 1 T j v o h K:=
 (P.aO gr).st hj hv ho1 (ho.trans (gr.get P.lt).symm) fun h' ch P'=>hk h' (ch.aO (G.trans gr) kh) ((ig.of gr).trans ch) P'
theorem SF (F:Fw h u w g)(hw:w≤1000000)(bd:∀k,k<w→Bd 3999 (g k)):Gp EX 215 [.sl u 0 w 4,.fn 140 []] h fun v _=>∃z:Int,v= .int .i64 z∧(0≤z↔¬∀k,k<w→oe (g k)=true):=by
 refine Gp.of (ac.fn (fn:=C.Ln) rfl rfl rfl ?_);unfold C.Ln;repeat'(with_reducible first|simp(disch:=try exact ab) only[go_sem,seval]|(apply aj.i<;>intro hc))
 refine Wp.bW (fun mm s=>∃(i:Nat),val s.tm (.t 0)= .sl u 0 w 4∧val s.tm (.t 1)= .fn 140 []∧val s.tm (.t 7)= .int .i64 w∧val s.tm (.t 8)= .int .i64 i∧
  aH h s.hp∧i≤w∧(∀k,k<i→oe (g k)=true)∧w-i=mm) (n:=w) ?_ ?_
 ·exact⟨0,aS,aS,aS,by(simp(disch:=try exact ab) only[go_sem,seval])<;>rfl,aH.refl _,aJ _,fun k hk=>absurd hk (fh _),rfl⟩
 ·rintro mm ⟨tm,hp⟩ ⟨i,k0,k1,k7,k8,G,hle,hok,rfl⟩;simp only at k0 k1 k7 k8 G;by_cases hlt:i<w
  ·have hlt':(i:Int)<w:=by omega
   have hlt1:i+1≤w:=hlt;have Fg:=F.aO G;have hu:=Fg.lt;obtain⟨x,Ix,mX⟩:=Fg.ld hlt;have f140:=Un Ix (bd i hlt);by_cases c1:oe (g i)=true
   ·rw[c1]at f140;repeat'(with_reducible first|simp(disch:=try exact ab) only[go_sem,seval,k0,k1,k7,k8,hlt',mX]|(refine Gv.wp (f140) fun _ _ _ _=>?_)|(apply aj.i<;>intro hc))
    refine⟨_,by omega,i+1,rfl,G.trans aL,hlt,fun k hk=>?_,rfl⟩;rcases Nat.lt_or_ge k i with c|c
    ·exact hok k c
    ·rwa[show k=i by omega]
   ·rw[show oe (g i)=false by simpa using c1]at f140;repeat'(with_reducible first|simp(disch:=try exact ab) only[go_sem,seval,k0,k1,k7,k8,hlt',mX]|(refine Gv.wp (f140) fun _ _ _ _=>?_)|(apply aj.i<;>intro hc))
    exact⟨⟨_,rfl,fun _ jR=>c1 (jR i hlt),fun _=>by omega⟩,G.trans aL⟩
  ·have hlt':¬(i:Int)<w:=by omega
   obtain rfl:i=w:=by omega
   repeat'(with_reducible first|simp(disch:=try exact ab) only[go_sem,seval,k0,k1,k7,k8,hlt']|(apply aj.i<;>intro hc))
   exact⟨⟨_,rfl,fun e=>absurd e (by decide),fun e=>absurd hok e⟩,G⟩
theorem M7 (F:Fw h u w g)(hw:w≤1000000)(bd:∀k,k<w→Bd 3999 (g k)){al:Bool}(ha:decide (∀k,k<w→oe (g k)=true)=al):Gv EX 139 [.sl u 0 w 4,.fn 140 []] h (.bool (!al)):=by
 refine Gv.of (ac.fn (fn:=C.a139) rfl rfl rfl ?_);unfold C.a139;repeat'(with_reducible first|simp(disch:=try exact ab) only[go_sem,seval]|(apply aj.i<;>intro hc))
 refine Gp.wp (SF F hw bd) fun v1 h1 a1 b1 u1 ⟨z,hz,hi⟩=>?_
 subst hz
 have e:decide (0≤z)= !al:=by
  rw[←ha,←decide_not];exact decide_eq_decide.2 hi
 repeat'(with_reducible first|simp(disch:=try exact ab) only[go_sem,seval,e]|(apply aj.i<;>intro hc))
 all_goals exact aL
theorem Mu {α:Type}{z:α}:∀n,av n z=(ct n).map fun _=>z
 |0=>rfl
 |n+1=>by rw[vj,Mu n,oU,eH,vk];rfl
theorem SK (F:Fw h u w g)(hw:w≤1000000)(ok:∀k,k<w→oe (g k)=true):Gp EX 141 [.sl u 0 w 4] h fun v h'=>∃q,v= .sl q 0 w 1∧Sw h' q w g∧h.next≤q:=by
 refine Gp.of (ac.fn (fn:=C.a141) rfl rfl rfl ?_);unfold C.a141;repeat'(with_reducible first|simp(disch:=try exact ab) only[go_sem,seval]|(apply aj.i<;>intro hc))
 refine(mU.int rfl (by omega)).2 ?_;rw[Mu];repeat'(with_reducible first|simp(disch:=try exact ab) only[go_sem,seval]|(apply aj.i<;>intro hc))
 refine Wp.bW (fun mm s=>∃(i:Nat),val s.tm (.t 9)= .sl u 0 w 4∧val s.tm (.t 10)= .int .i64 w∧val s.tm (.t 11)= .int .i64 i∧val s.tm (.t 3)= .sl h.next 0 w 1∧
  aH h s.hp∧Ts s.hp h.next w (fun k=>if k<i then .str (aX (g k))else .str [])∧i≤w∧w-i=mm) (n:=w) ?_ ?_
 ·exact⟨0,aS,aS,by(simp(disch:=try exact ab) only[go_sem,seval])<;>rfl,aS,(aH.refl _).push,⟨_,Hp.cu,cN _,ae _⟩,aJ _,rfl⟩
 ·rintro mm ⟨tm,hp⟩ ⟨i,k9,k10,k11,k3,G,P,hle,rfl⟩;simp only at k9 k10 k11 k3 G P;by_cases hlt:i<w
  ·have hlt':(i:Int)<w:=by omega
   have hlt1:i+1≤w:=hlt;have Fg:=F.aO G;have hu:=Fg.lt;have hq:=P.lt;obtain⟨x,Ix,mX⟩:=Fg.ld hlt;obtain⟨o1,o2⟩:=Ix.JJ;obtain⟨b1,l1⟩:=Ol (TF (ok i hlt)) (by decide);repeat'(with_reducible first|simp(disch:=try exact ab) only[go_sem,seval,k9,k10,k11,k3,hlt',mX,o1,o2,Fc.l]|(apply aj.i<;>intro hc))
   refine Gv.wp (Um (Ix.aO aL) b1 l1) fun h1 a1 b1 u1=>?_
   repeat'(with_reducible first|simp(disch:=try exact ab) only[go_sem,seval,k9,k10,k11,k3,hlt']|(apply aj.i<;>intro hc))
   refine P.Mq G aL hlt rfl rfl (ae _) rfl fun h2 G2 ch P2=>?_
   repeat'(with_reducible first|simp(disch:=try exact ab) only[go_sem,seval,k9,k10,k11,k3]|(apply aj.i<;>intro hc))
   refine⟨_,by omega,i+1,rfl,G2,P2.congr fun k hk=>?_,hlt,rfl⟩;simp only[sR];by_cases c:k=i
   ·rw[if_pos c,if_pos (by omega),c]
   ·rw[if_neg c];by_cases c2:k<i
    ·rw[if_pos c2,if_pos (by omega)]
    ·rw[if_neg c2,if_neg (by omega)]
  ·have hlt':¬(i:Int)<w:=by omega
   obtain rfl:i=w:=by omega
   repeat'(with_reducible first|simp(disch:=try exact ab) only[go_sem,seval,k9,k10,k11,k3,hlt']|(apply aj.i<;>intro hc))
   exact⟨⟨_,rfl,P.congr fun k hk=>by rw[if_pos hk],ae _⟩,G⟩
theorem Gm.app {b':Nat}(A:Gm h0 h1 v i w M)(gr:aH h1 h)(G:aH h0 h1)(F:Fw h u w (M i))(hu:h1.next≤u)(hw:0<w)(hi:i≤1000)(hb:b'≤100)(hq:q=h.next)(hk:∀v' h',aH h0 h'→Gm h0 h' v' (i+1) w M→K v' h'):
  dK (jm (h.push fun st=> .row [.sl u 0 w 4] true st) 1 b' v (.sl q 0 1 1)) K:=by
 have hn0:=G.next;have V8:=gr.next;have ET:=F.lt;have hb2:(i+1)*b'≤(i+1)*100:=aD _ hb;rcases A with⟨rfl,rfl⟩|⟨T,t,rfl,OC,A⟩
 ·refine cO.Np hq (G.trans gr) cO.nil rfl (by decide) (by omega) (by omega) fun v' h' G' O' fr nx ck fs nn=>?_
  obtain⟨hl',⟨e1,_⟩|⟨t',st',e1,hg',hlo,h1',h2'⟩⟩:=O'
  ·exact absurd e1 nn
  ·subst e1;have ch:aH h h':=⟨h'.next-h.next,h'.dc-h.dc,by omega,by omega,fun t ht=>fr t ht fun t'' o' n' e=>nomatch e⟩
   have hlt:=fs t' 0 1 rfl;refine hk _ h' G' (.inr ⟨t',fun _=>u,rfl,vh,⟨⟨st',hg',h1',h2'⟩,fun j hj=>?_,fun j hj=>by omega,fun a b ha hb _=>by omega,hlo,fun j hj=>by omega⟩⟩);obtain rfl:j=0:=by omega
   exact F.aO ch
 ·have Ag:=A.aO gr;obtain⟨st,hg,h2,h3⟩:=Ag.top;have O:cO 1 h0 h (.sl T 0 i 1) i ((ct i).map fun j=> .sl (t j) 0 w 4):=⟨by simp,.inr ⟨T,st,rfl,hg,A.kh,h2,h3⟩⟩
  have hnT:=Ag.top.nw OC;have hT1:=A.top.lt;have Ou:∀j,j<i→t j<h1.next:=fun j hj=>(A.row j hj).lt
  refine cO.Np hq (G.trans gr) O rfl (by decide) (by omega) (by omega) fun v' h' G' O' fr nx ck fs nn=>?_
  obtain⟨hl',⟨e1,_⟩|⟨t',st',e1,hg',hlo,h1',h2'⟩⟩:=O'
  ·exact absurd e1 nn
  ·subst e1;have ch:ig T h h':=⟨nx,ck,fun t ht ne=>fr t ht fun t'' o' n' e=>by injection e with e;omega⟩
   have hlt:=fs t' 0 (i+1) rfl
   have eu:∀j,j<i+1→(j<i∧im t i u j=t j)∨(j=i∧im t i u j=u):=fun j hj=>by
    unfold im;by_cases c:j=i
    ·exact .inr ⟨c,if_pos c⟩
    ·exact .inl ⟨by omega,if_neg c⟩
   refine hk _ h' G' (.inr ⟨t',im t i u,rfl,Nat.succ_pos _,⟨⟨st',?_,h1',h2'⟩,fun j hj=>?_,fun j hj=>?_,fun a b ha hb he=>?_,hlo,fun j hj=>?_⟩⟩)
   ·rw[hg',List.range_succ,List.map_append]
    have e1:(ct i).map (fun j=>AV.sl (t j) 0 w 4)=(ct i).map (fun j=>AV.sl (im t i u j) 0 w 4):=bJ fun j hj=>by
     have hj':j<i:=by simpa using hj
     rw[show im t i u j=t j from if_neg (by omega)]
    rw[e1,eH,List.map_nil,show im t i u i=u from if_pos rfl]
   ·rcases eu j hj with⟨hj',e1⟩|⟨rfl,e1⟩
    ·rw[e1];exact(Ag.row j hj').kQ ch (A.ne j hj') hnT
    ·rw[e1];exact F.kQ ch (by omega) hnT
   ·rcases eu j hj with⟨hj',e1⟩|⟨rfl,e1⟩
    ·rw[e1];have:=Ou j hj';omega
    ·rw[e1];omega
   ·rcases eu a ha with⟨Kh,e1⟩|⟨Kh,e1⟩<;>rcases eu b hb with⟨hb',e2⟩|⟨hb',e2⟩<;>rw[e1,e2]at he
    ·exact A.inj a b Kh hb' he
    ·have:=Ou a Kh;omega
    ·have:=Ou b hb';omega
    ·omega
   ·rcases eu j hj with⟨hj',e1⟩|⟨rfl,e1⟩
    ·rw[e1];exact A.low j hj'
    ·rw[e1];omega
end
end
end Go.Ae
namespace Go.Ae
open Bg N Go.Proofs Gj So
noncomputable section
def ya (m:List (List (List UInt8)))(b:List (List UInt8)):Mt:=fun i k=>if k=m.length then wH (jj b i)else wH (jj (ij m i) k)
def UF:au:=C.a37.code.r.r.r.r.l
def UE:au:=C.a37.code.r.r.r.r.r.r.l
def UD:au:=C.a37.code.r.r.r.r.r.r.r.r.r.l
structure Fx (h0 h:Hp)(T:Nat)(t:Nat→Nat)(n i:Nat)(M:Mt):Prop where
 top:Ts h T n fun j=> .sl (t j) 0 (if j<i then n+1 else n) 4
 row:∀j,j<n→Fw h (t j) (if j<i then n+1 else n) (M j)
 ne:∀j,j<n→t j≠T
 inj:∀i j,i<n→j<n→t i=t j→i=j
 kh:h0.next≤T
 low:∀j,j<n→h0.next≤t j
section
variable {h h' h0 h1 hp:Hp}{K:AV→Hp→Prop}{tm:Ae.T AV}{v va vb vw s:AV}{a r tt:Rat}{x y:Fc}{p T n z w i j k f u c q:Nat}{t t':Nat→Nat}{M:Mt}{e:Nat→AV}{g:Nat→Rat}{o:Option cP}{l b:List (List UInt8)}{m:List (List (List UInt8))}{Q:Ex→St→Prop}
theorem HN {n n':Int}{w w':AV}(h1:w.one=true)(h2:w'.one=true):ja [.int .i64 0,.aq,.int .i64 0,.aq] [(0,4,.agg [.int .i64 n,w,.int .i64 n',w'])]=some [.int .i64 n,w,.int .i64 n',w']:=by
 have e1:(AV.agg [.int .i64 n,w,.int .i64 n',w']).cells=[.int .i64 n,w,.int .i64 n',w']:=rfl;rw[jt (by rw[e1];exact⟨rfl,by simp,by simp only[iO,pS,h1,h2,qj,Cj]⟩),oE,e1];rfl
theorem PN {r:Int}:kp 0 r=r:=if_pos rfl
theorem Z8 {r:Int}:kp 2 r=2:=if_neg (by decide)
theorem RX {r:Int}:kp 12 r=12:=if_neg (by decide)
theorem nZ (h:ni l=0):∀i,i<l.length→fm (jj l i)=0:=fun i hi=>td (f:=fun i=>fm (jj l i)) h i (aJ _) (by omega)
theorem Rh (o:jd h v l)(hl:l.length=n)(hn0:0<n)(ht:∀i,i<n→jj l i=aX (g i))(ok:∀i,i<n→oe (g i)=true)(hn:n≤1000000):Gp E2 137 [v] h fun v' h'=>∃u,v'= .sl u 0 n 4∧Fw h' u n g∧h.next≤u:=by
 subst hl;exact Rg (ln:=o.rz.len) o.rz.jn (fun i hi=>by rw[←ht i hi];exact o.ld hi) (o.lt hn0) ok hn
theorem NK (k0:val tm (.t 0)=v)(k1:val tm (.t 1)=vb)(k6:val tm (.t 6)= .int .i64 m.length)(k8:val tm (.t 8)= .aq)(o:je h v m)(G:aH h hp)(hn0:0<m.length)(hn:m.length≤24)
  (EU:∀i,i<m.length→(ij m i).length≤1000000∧∀j,j<(ij m i).length→(jj (ij m i) j).length≤1000000)
  (T3:∀fI hp' v8,val fI (.t 1)=vb→val fI (.t 6)= .int .i64 m.length→val fI (.t 8)=v8→te (iA m) m.length 0=0→aH h hp'→Gm h hp' v8 m.length m.length (ya m b)→Q .fP ⟨fI,hp'⟩)
  (hk2:∀fI hp',val fI (.t 4)= .aq→val fI (.t 5)= .int .i64 (te (iA m) m.length 0)→te (iA m) m.length 0≠0→aH h hp'→Q .ret ⟨fI,hp'⟩):Wp EX UF ⟨tm,hp⟩ Q:=by
 rw[show UF= .seq _ (.block 0 (.loop _)) from rfl];obtain⟨vs,rz⟩:=o.rz;have ln:=rz.len;have ad:=rz.jn;repeat'(with_reducible first|simp(disch:=try exact ab) only[go_sem,seval,k0,k1,k6,k8,ln]|(apply aj.i<;>intro hc))
 refine Wp.bW (fun mm s=>∃(i:Nat) (v8:AV),val s.tm (.t 1)=vb∧val s.tm (.t 6)= .int .i64 m.length∧val s.tm (.t 8)=v8∧val s.tm (.t 30)=v∧val s.tm (.t 31)= .int .i64 m.length∧val s.tm (.t 32)= .int .i64 i∧
  aH h s.hp∧Gm h s.hp v8 i m.length (ya m b)∧i≤m.length∧te (iA m) (m.length-i) i=te (iA m) m.length 0∧m.length-i=mm) (n:=m.length) ?_ ?_
 ·exact⟨0,.aq,by simp(disch:=try exact ab) only[go_sem,seval,k1],by simp(disch:=try exact ab) only[go_sem,seval,k6],by simp(disch:=try exact ab) only[go_sem,seval,k8],by simp(disch:=try exact ab) only[go_sem,seval,k0],aS,by(simp(disch:=try exact ab) only[go_sem,seval])<;>rfl,G,.inl ⟨rfl,rfl⟩,aJ _,rfl,rfl⟩
 ·clear k0 k1 k6 k8 G;rintro mm ⟨tm,hp⟩ ⟨i,v8,k1,k6,k8,Oo,On,Om,G,A,hle,hsc,rfl⟩;simp only at k1 k6 k8 Oo On Om G A;have og:=o.aO G;by_cases hlt:i<m.length
  ·have hlt':(i:Int)<m.length:=by omega
   have hlt1:i+1≤m.length:=hlt;obtain⟨u,ou,ld⟩:=og.ld hlt;have lnu:=ou.rz.len;obtain⟨hl1,hl2⟩:=EU i hlt;have Pa:=fun b e h K=>PT (f:=131) (args:=[.bool b,.int .i64 e]) (h:=h) (h':=h) (v:= .int .i64 (if b=true then e else 0)) (K:=K) fun K=>lP
   have c131t':=fun e h K=>Pa true e h K
   have c131f':=fun e h K=>Pa false e h K
   simp only[if_true,bZ,if_false]at c131t' c131f';by_cases c1:(ij m i).length=m.length
   ·have c1':((ij m i).length:Int)=m.length:=by omega
    have el:iA m i=ni (ij m i):=by unfold iA;rw[if_neg (by omega)]
    have f136:=x2 (Ij ou hl1 hl2);by_cases c2:ni (ij m i)=0
    ·rw[c2]at f136;repeat'(with_reducible first|simp(disch:=try exact ab) only[go_sem,seval,k1,k6,k8,Oo,On,Om,ad,hlt',ld,lnu,c1',c131f',PN]|(refine Gv.wp (f136) fun _ _ _ _=>?_)|(refine Gv.wp (x2 (jS (a:=0) (b:=0) aS mJ)) fun _ _ _ _=>?_)|(apply aj.i<;>intro hc))
     have hz:=nZ c2
     have hv:∀k,k<m.length→jj (ij m i) k=aX (ya m b i k)∧oe (ya m b i k)=true:=fun k hk=>by
      unfold ya;rw[if_neg (by omega)];exact lu (hz k (by omega))
     refine Gp.wp (Ul (Rh (g:=ya m b i) (ou.aO aL) c1 hn0 (fun k hk=>(hv k hk).1) (fun k hk=>(hv k hk).2) (by omega))) fun v1 h1 a1 b1 u1 ⟨y,hy,F1,hyl⟩=>?_
     subst hy;repeat'(with_reducible first|simp(disch:=try exact ab) only[go_sem,seval,k1,k6,k8,Oo,On,Om]|(apply aj.i<;>intro hc))
     refine A.app aL G F1 (aB (aH.next aL) hyl) hn0 (by omega) (by decide) mJ fun v8' h2 G2 A2=>?_
     repeat'(with_reducible first|simp(disch:=try exact ab) only[go_sem,seval,k1,k6,k8,Oo,On,Om]|(apply aj.i<;>intro hc))
     exact⟨_,by omega,i+1,rfl,G2,A2,hlt,(pZ (f:=iA m) (k:=m.length-i) (el.trans c2) (by omega)).symm.trans hsc,rfl⟩
    ·rw[lG (by rw[el];exact c2) (by omega),el]at hsc;repeat'(with_reducible first|simp(disch:=try exact ab) only[go_sem,seval,k1,k6,k8,Oo,On,Om,ad,hlt',ld,lnu,c1',c131f',PN,c2]|(refine Gv.wp (f136) fun _ _ _ _=>?_)|(refine Gv.wp (x2 (jS (a:=0) (b:=ni (ij m i)) aS mJ)) fun _ _ _ _=>?_)|(apply aj.i<;>intro hc))
     exact hk2 _ _ aS (by rw[←hsc];simp(disch:=try exact ab) only[go_sem,seval]) (by rw[←hsc];exact c2) (G.trans aL)
   ·have c1':¬((ij m i).length:Int)=m.length:=by omega
    have el:iA m i=2:=by unfold iA;rw[if_pos c1]
    rw[lG (by rw[el];decide) (by omega),el]at hsc;have f136:=x2 (Ij ou hl1 hl2);repeat'(with_reducible first|simp(disch:=try exact ab) only[go_sem,seval,k1,k6,k8,Oo,On,Om,ad,hlt',ld,lnu,c1',c131t',Z8]|(refine Gv.wp (f136) fun _ _ _ _=>?_)|(refine Gv.wp (x2 (jS (a:=2) (b:=ni (ij m i)) aS mJ)) fun _ _ _ _=>?_)|(apply aj.i<;>intro hc))
    exact hk2 _ _ aS (by rw[←hsc];simp(disch:=try exact ab) only[go_sem,seval]) (by rw[←hsc];decide) (G.trans aL)
  ·have hlt':¬(i:Int)<m.length:=by omega
   obtain rfl:i=m.length:=by omega
   rw[kA]at hsc;repeat'(with_reducible first|simp(disch:=try exact ab) only[go_sem,seval,k1,k6,k8,Oo,On,Om,hlt']|(apply aj.i<;>intro hc))
   exact T3 _ _ v8 (by simp(disch:=try exact ab) only[go_sem,seval,k1]) (by simp(disch:=try exact ab) only[go_sem,seval,k6]) (by simp(disch:=try exact ab) only[go_sem,seval,k8]) hsc.symm G A
theorem Fx.of (F:Fm h0 h T t n n M):Fx h0 h T t n 0 M:=by
 refine⟨?_,fun j hj=>?_,F.ne,F.inj,F.kh,F.low⟩
 ·have P:Ts h T n fun j=> .sl (t j) 0 n 4:=F.top
  exact P.congr fun k hk=>by rw[if_neg (fh _)]
 ·rw[if_neg (fh _)];exact F.row j hj
theorem Fx.done (F:Fx h0 h T t n n M):Fm h0 h T t n (n+1) M:=by
 refine⟨?_,fun j hj=>?_,F.ne,F.inj,F.kh,F.low⟩
 ·exact F.top.congr fun k hk=>by rw[if_pos hk]
 ·have:=F.row j hj;rwa[if_pos hj]at this
theorem Fx.next {u':Nat}{h2 h3:Hp}(F:Fx h0 h T t n i M)(hi:i<n)(gr:aH h h1)(c2:ig (t i) h1 h2)(nwr:nw h1 (t i))(F2:Fw h2 u' (n+1) (M i))(hlt:h1.next<u')(c3:ig T h2 h3)(P3:Ts h3 T n (sR (fun j=> .sl (t j) 0 (if j<i then n+1 else n) 4) i (.sl u' 0 (n+1) 4))):
  Fx h0 h3 T (im t i u') n (i+1) M:=by
 have hg1:=gr.next;have hnT:nw h2 T:=(((F.top.aO gr).kQ c2 (fun e=>F.ne i hi e.symm)).nw (by omega) (fun m e=>by unfold wd at e;cases e))
 have cs:∀j,j<n→(j=i∧im t i u' j=u'∧(if j<i+1 then n+1 else n)=n+1)∨(j≠i∧im t i u' j=t j∧(if j<i+1 then n+1 else n)=(if j<i then n+1 else n)):=fun j hj=>by
  unfold im;by_cases c:j=i
  ·exact .inl ⟨c,if_pos c,if_pos (by omega)⟩
  ·refine .inr ⟨c,if_neg c,?_⟩;by_cases d:j<i
   ·rw[if_pos d,if_pos (by omega)]
   ·rw[if_neg d,if_neg (by omega)]
 have hT:=F.top.lt;have hl:=F.kh;have hlo:=F.low i hi;refine⟨P3.congr fun j hj=>?_,fun j hj=>?_,fun j hj=>?_,fun a b ha hb he=>?_,F.kh,fun j hj=>?_⟩
 ·simp only[sR];rcases cs j hj with⟨c,e1,e2⟩|⟨c,e1,e2⟩
  ·rw[if_pos c,e1,e2]
  ·rw[if_neg c,e1,e2]
 ·rcases cs j hj with⟨c,e1,e2⟩|⟨c,e1,e2⟩
  ·rw[e1,e2,c];exact F2.kQ c3 (by omega) hnT
  ·rw[e1,e2];exact(((F.row j hj).aO gr).kQ c2 (fun e=>c (F.inj j i hj hi e)) nwr).kQ c3 (F.ne j hj) hnT
 ·rcases cs j hj with⟨c,e1,e2⟩|⟨c,e1,e2⟩
  ·rw[e1];omega
  ·rw[e1];exact F.ne j hj
 ·rcases cs a ha with⟨c,e1,_⟩|⟨c,e1,_⟩<;>rcases cs b hb with⟨d,e2,_⟩|⟨d,e2,_⟩<;>rw[e1,e2]at he
  ·omega
  ·have:=(F.row b hb).lt;omega
  ·have:=(F.row a ha).lt;omega
  ·exact F.inj a b ha hb he
 ·rcases cs j hj with⟨c,e1,e2⟩|⟨c,e1,e2⟩
  ·rw[e1];omega
  ·rw[e1];exact F.low j hj
theorem vv {g:Nat→Rat}:AH g k (g k)=g:=by
 funext i
 unfold AH;by_cases c:i=k
 ·rw[if_pos c,c]
 ·rw[if_neg c]
theorem Qg (k1:val tm (.t 1)=vb)(k6:val tm (.t 6)= .int .i64 n)(k8:val tm (.t 8)= .sl T 0 n 1)(G:aH h hp)(F:Fm h hp T t n n M)(ob:jd h vb b)(hb:b.length=n)(hn0:0<n)(hn:n≤1000)(hv:∀i,i<n→jj b i=aX (M i n)∧oe (M i n)=true)
  (hk:∀fI hp' t',val fI (.t 6)= .int .i64 n→val fI (.t 8)= .sl T 0 n 1→aH h hp'→Fm h hp' T t' n (n+1) M→Q .fP ⟨fI,hp'⟩):Wp EX UE ⟨tm,hp⟩ Q:=by
 rw[show UE= .seq _ (.block 2 (.loop _)) from rfl];repeat'(with_reducible first|simp(disch:=try exact ab) only[go_sem,seval,k1,k6,k8]|(apply aj.i<;>intro hc))
 refine Wp.bW (fun mm s=>∃(i:Nat) (t:Nat→Nat),val s.tm (.t 1)=vb∧val s.tm (.t 6)= .int .i64 n∧val s.tm (.t 8)= .sl T 0 n 1∧val s.tm (.t 67)= .int .i64 n∧val s.tm (.t 68)= .int .i64 i∧
  aH h s.hp∧Fx h s.hp T t n i M∧i≤n∧n-i=mm) (n:=n) ?_ ?_
 ·exact⟨0,t,by simp(disch:=try exact ab) only[go_sem,seval,k1],by simp(disch:=try exact ab) only[go_sem,seval,k6],by simp(disch:=try exact ab) only[go_sem,seval,k8],aS,by(simp(disch:=try exact ab) only[go_sem,seval])<;>rfl,G,Fx.of F,aJ _,rfl⟩
 ·clear k1 k6 k8 G F;rintro mm ⟨tm,hp⟩ ⟨i,t,k1,k6,k8,PD,PC,G,F,hle,rfl⟩;simp only at k1 k6 k8 PD PC G F;by_cases hlt:i<n
  ·have hlt':(i:Int)<n:=by omega
   have Wc:i<b.length:=by omega
   have hlt1:i+1≤n:=hlt;have og:=ob.aO G;have adb:=og.rz.jn;rw[hb]at adb;have ldb:=og.ld Wc;rw[(hv i hlt).1]at ldb;have oldb:=og.old (by omega);have OH:=og.lt (by omega);have P:=F.top;have ldT:=P.ld hlt;have oldT:=P.old;have hT:=P.lt;have R:=F.row i hlt;rw[if_neg (Dw i)]at R;simp only[Dw,if_false]at ldT
   repeat'(with_reducible first|simp(disch:=try exact ab) only[go_sem,seval,k1,k6,k8,PD,PC,hlt',adb,ldb,oldb,ldT,oldT]|(apply aj.i<;>intro hc))
   refine Gp.wp (Ul (i111 (hv i hlt).2)) fun v1 h1 a1 b1 u1 I1=>?_
   obtain⟨x,rfl,o1,o2⟩:=I1.cell;have gu:aH hp (hp.ov h1 u1):=⟨_,_,u1⟩
   repeat'(with_reducible first|simp(disch:=try exact ab) only[go_sem,seval,k1,k6,k8,PD,PC,hlt',adb,ldb,oldb,ldT,oldT,o1,o2,Fc.l,HN o1 o2]|(apply aj.i<;>intro hc))
   refine(R.aO gu).app (F.low i hlt) I1 (G.trans gu) hn0 (by omega) (by decide) mJ fun u' h2 G2 ch nwr F2 hlt2=>?_
   rw[vv]at F2;repeat'(with_reducible first|simp(disch:=try exact ab) only[go_sem,seval,k1,k6,k8,PD,PC,hlt']|(apply aj.i<;>intro hc))
   refine((P.aO gu).kQ ch (fun e=>F.ne i hlt e.symm)).st hlt rfl rfl rfl fun h3 c3 P3=>?_
   repeat'(with_reducible first|simp(disch:=try exact ab) only[go_sem,seval,k1,k6,k8,PD,PC]|(apply aj.i<;>intro hc))
   exact⟨_,by omega,i+1,im t i u',rfl,c3.aO G2 F.kh,F.next hlt gu ch nwr F2 hlt2 c3 P3,hlt,rfl⟩
  ·have hlt':¬(i:Int)<n:=by omega
   obtain rfl:i=n:=by omega
   repeat'(with_reducible first|simp(disch:=try exact ab) only[go_sem,seval,k1,k6,k8,PD,PC,hlt']|(apply aj.i<;>intro hc))
   exact hk _ _ t (by simp(disch:=try exact ab) only[go_sem,seval,k6]) (by simp(disch:=try exact ab) only[go_sem,seval,k8]) G F.done
theorem Qi {E:Mt}(k6:val tm (.t 6)= .int .i64 n)(k8:val tm (.t 8)= .sl T 0 n 1)(eQ:val tm (.t 14)= .aq)(F:Fm h hp T t n (n+1) E)(hn0:0<n)(hn:n≤1000)
  (hk:∀fI hp' u,val fI (.t 14)= .sl u 0 n 4→aH hp hp'→Fw hp' u n (fun i=>E i n)→Q .fP ⟨fI,hp'⟩):Wp EX UD ⟨tm,hp⟩ Q:=by
 rw[show UD= .seq _ (.block 4 (.loop _)) from rfl];repeat'(with_reducible first|simp(disch:=try exact ab) only[go_sem,seval,k6,k8,eQ]|(apply aj.i<;>intro hc))
 refine Wp.bW (fun mm s=>∃(i:Nat) (Uu:AV),val s.tm (.t 6)= .int .i64 n∧val s.tm (.t 14)=Uu∧val s.tm (.t 90)= .sl T 0 n 1∧val s.tm (.t 91)= .int .i64 n∧val s.tm (.t 92)= .int .i64 i∧
  aH hp s.hp∧Fg hp s.hp Uu i (fun i=>E i n)∧i≤n∧n-i=mm) (n:=n) ?_ ?_
 ·exact⟨0,.aq,by simp(disch:=try exact ab) only[go_sem,seval,k6],by simp(disch:=try exact ab) only[go_sem,seval,eQ],by simp(disch:=try exact ab) only[go_sem,seval,k8],aS,by(simp(disch:=try exact ab) only[go_sem,seval])<;>rfl,aH.refl _,.inl ⟨rfl,rfl⟩,aJ _,rfl⟩
 ·clear k6 k8 eQ;rintro mm ⟨tm,hq⟩ ⟨i,Uu,k6,eQ,TS,TR,TQ,G,A,hle,rfl⟩;simp only at k6 eQ TS TR TQ G A;have Fq:=F.aO G;by_cases hlt:i<n
  ·have hlt':(i:Int)<n:=by omega
   have hlt1:i+1≤n:=hlt;have TW:(n:Int)<(n+1:Nat):=by omega
   have ldT:=Fq.top.ld hlt;have hT:=Fq.top.lt;have R:=Fq.row i hlt;have ht:=R.lt;obtain⟨x,Ix,mX⟩:=R.ld (cN n);obtain⟨o1,o2⟩:=Ix.JJ;repeat'(with_reducible first|simp(disch:=try exact ab) only[go_sem,seval,k6,eQ,TS,TR,TQ,hlt',TW,ldT,mX,o1,o2,Fc.l,HN o1 o2]|(apply aj.i<;>intro hc))
   refine A.app Ix G (by omega) (by decide) mJ fun v' h' G' A'=>?_
   rw[vv (g:=fun i=>E i n)]at A';repeat'(with_reducible first|simp(disch:=try exact ab) only[go_sem,seval,k6,eQ,TS,TR,TQ]|(apply aj.i<;>intro hc))
   exact⟨_,by omega,i+1,rfl,G',A',hlt,rfl⟩
  ·have hlt':¬(i:Int)<n:=by omega
   obtain rfl:i=n:=by omega
   repeat'(with_reducible first|simp(disch:=try exact ab) only[go_sem,seval,k6,eQ,TS,TR,TQ,hlt']|(apply aj.i<;>intro hc))
   rcases A with⟨_,e⟩|⟨u,rfl,_,A,_⟩
   ·omega
   ·exact hk _ _ u (by simp(disch:=try exact ab) only[go_sem,seval,eQ]) G A
end
end
end Go.Ae
namespace Go.Ae
open Bg N Go.Proofs Gj So
noncomputable section
def Zr (n:Nat)(M:Mt)(v:AV)(h':Hp):Prop:=
 (el n M n=none∧v= .fO [.aq,.int .i64 14])∨
 ∃E,el n M n=some E∧(((¬∀i,i<n→oe (E i n)=true)∧v= .fO [.aq,.int .i64 4])∨((∀i,i<n→oe (E i n)=true)∧∃q,v= .fO [.sl q 0 n 1,.int .i64 0]∧Sw h' q n fun i=>E i n))
section
variable {h h' h0 h1 hp:Hp}{K:AV→Hp→Prop}{tm:Ae.T AV}{v va vb vw s:AV}{a r tt:Rat}{x y:Fc}{p T n z w i j k f u c q e:Nat}{t t':Nat→Nat}{M:Mt}{g:Nat→Rat}{o:Option cP}{l b:List (List UInt8)}{m:List (List (List UInt8))}{Q:Ex→St→Prop}
theorem CN {e:Int}:ac EX 131 [.bool true,.int .i64 e] h K↔K (.int .i64 e) h:=PT fun K=>SL
theorem yA {e:Int}:ac EX 131 [.bool false,.int .i64 e] h K↔K (.int .i64 0) h:=PT fun K=>SM
theorem L7 (hk:k≠m.length):ya m b i k=wH (jj (ij m i) k):=if_neg hk
theorem Fh:ya m b i m.length=wH (jj b i):=if_pos rfl
theorem c37 (o:je h v m)(ob:jd h vb b)(EU:∀i,i<m.length→(ij m i).length≤1000000∧∀j,j<(ij m i).length→(jj (ij m i) j).length≤1000000)(hbl:b.length≤1000000∧∀j,j<b.length→(jj b j).length≤1000000)
  (sD:mR m b=0→∃e,Mb e m.length (m.length+1) (ya m b)∧eb e m.length≤7500):
  Gp EX 37 [v,vb] h fun r h'=>(mR m b≠0∧r= .fO [.aq,.int .i64 (mR m b)])∨(mR m b=0∧Zr m.length (ya m b) r h'):=by
 refine Gp.of (ac.fn (fn:=C.a37) rfl rfl rfl ?_);rw[show C.a37.code= .seq _ (.seq _ (.seq _ (.seq _ (.seq UF (.seq _ (.seq UE (.seq _ (.seq _ (.seq UD _))))))))) from rfl,show C.a37.res=[.tmp 4,.tmp 5] from rfl];obtain⟨vs,rz⟩:=o.rz;have ln:=rz.len;have lnb:=ob.rz.len;by_cases c0:m.length=0
 ·have c0':(m.length:Int)=0:=by omega
  have c1':¬(24:Int)<m.length:=by omega
  have es:mR m b=12:=by unfold mR;rw[if_pos c0]
  repeat'(with_reducible first|simp(disch:=try exact ab) only[go_sem,seval,ln,c0',c1',CN,yA,RX]|(refine Gv.wp (x2 (jS (a:=12) (b:=0) aS mJ)) fun _ _ _ _=>?_)|(apply aj.i<;>intro hc))
  exact⟨.inl ⟨by rw[es];decide,by rw[es]⟩,aL⟩
 have c0':¬(m.length:Int)=0:=by omega
 by_cases c1:24<m.length
 ·have c1':(24:Int)<m.length:=by omega
  have es:mR m b=5:=by unfold mR;rw[if_neg c0,if_pos c1]
  repeat'(with_reducible first|simp(disch:=try exact ab) only[go_sem,seval,ln,c0',c1',CN,yA,PN]|(refine Gv.wp (x2 (jS (a:=0) (b:=5) aS mJ)) fun _ _ _ _=>?_)|(apply aj.i<;>intro hc))
  exact⟨.inl ⟨by rw[es];decide,by rw[es]⟩,aL⟩
 have c1':¬(24:Int)<m.length:=by omega
 repeat'(with_reducible first|simp(disch:=try exact ab) only[go_sem,seval,ln,c0',c1',CN,yA,PN]|(refine Gv.wp (x2 (jS (a:=0) (b:=0) aS mJ)) fun _ _ _ _=>?_)|(apply aj.i<;>intro hc))
 refine NK (v:=v) (vb:=vb) (m:=m) (b:=b) (h:=h) aS aS aS aS o aL (by omega) (by omega) EU (fun Zw hp1 v8 k1 k6 k8 hz G A=>?_) (fun Zw hp1 k4 k5 hz G=>?_)
 ·have e0 :mR m b=if b.length≠m.length then 2 else ni b:=by unfold mR;rw[if_neg c0,if_neg c1,if_neg (fun e=>e hz)]
  rcases A with⟨_,e⟩|⟨T,t,rfl,hn0,A⟩
  ·exact absurd e c0
  have f136:=x2 (Ij (ob.aO G) hbl.1 hbl.2);by_cases c2:b.length=m.length
  ·have uv:(b.length:Int)=m.length:=by omega
   rw[if_neg (fun e=>e c2)]at e0;by_cases c3:ni b=0
   ·rw [c3]at e0 f136
    have hv:∀i,i<m.length→jj b i=aX (ya m b i m.length)∧oe (ya m b i m.length)=true:=fun i hi=>by
     rw[Fh];exact lu (nZ c3 i (by omega))
    obtain⟨e,Z0,RJ⟩:=sD e0;repeat'(with_reducible first|simp(disch:=try exact ab) only[go_sem,seval,k1,k6,k8,lnb,uv,yA,PN]|(refine Gv.wp (f136) fun _ _ _ _=>?_)|(refine Gv.wp (x2 (jS (a:=0) (b:=0) aS mJ)) fun _ _ _ _=>?_)|(apply aj.i<;>intro hc))
    refine Qg (n:=m.length) (vb:=vb) (b:=b) (T:=T) (M:=ya m b) (by simp(disch:=try exact ab) only[go_sem,seval,k1]) (by simp(disch:=try exact ab) only[go_sem,seval,k6]) (by simp(disch:=try exact ab) only[go_sem,seval,k8]) (G.trans aL) (A.aO aL) ob c2 (by omega) (by omega) hv fun tm2 hp2 t2 k6 k8 G2 F2=>?_
    repeat'(with_reducible first|simp(disch:=try exact ab) only[go_sem,seval,k6,k8]|(apply aj.i<;>intro hc))
    refine ac.mono (((Xa G2 F2 (by omega) (by omega) (by omega) (by omega) Z0 (by omega)).ge MT).gq PM) fun v3 h3 ⟨G3,bb,hv3,hor⟩=>?_
    subst hv3;rcases hor with⟨E,t3,pT,rfl,F3⟩|⟨pT,rfl⟩
    ·repeat'(with_reducible first|simp(disch:=try exact ab) only[go_sem,seval,k6,k8]|(apply aj.i<;>intro hc))
     refine Qi (n:=m.length) (T:=T) (by simp(disch:=try exact ab) only[go_sem,seval,k6]) (by simp(disch:=try exact ab) only[go_sem,seval,k8]) aS F3 (by omega) (by omega) fun tm4 hp4 u eQ G4 F4=>?_
     have hE:=Dc Z0 (Nat.le_succ _) (ae _) pT;have bE:∀k,k<m.length→Bd 3999 (E k m.length):=fun k hk=>((hE k hk).db (cN _)).bd (by omega)
     by_cases all:∀i,i<m.length→oe (E i m.length)=true
     ·have f139:=M7 (g:=fun i=>E i m.length) F4 (by omega) bE (decide_eq_true all);repeat'(with_reducible first|simp(disch:=try exact ab) only[go_sem,seval,eQ]|(refine Gv.wp (f139) fun _ _ _ _=>?_)|(apply aj.i<;>intro hc))
      refine Gp.wp (SK (g:=fun i=>E i m.length) (F4.aO aL) (by omega) all) fun v5 h5 a5 b5 u5 ⟨q,hq,S5,_⟩=>?_
      subst hq;repeat'(with_reducible first|simp(disch:=try exact ab) only[go_sem,seval]|(apply aj.i<;>intro hc))
      exact⟨.inr ⟨e0,.inr ⟨E,pT,.inr ⟨all,q,rfl,S5⟩⟩⟩,G3.trans (G4.trans aL)⟩
     ·have f139:=M7 (g:=fun i=>E i m.length) F4 (by omega) bE (decide_eq_false all);repeat'(with_reducible first|simp(disch:=try exact ab) only[go_sem,seval,eQ]|(refine Gv.wp (f139) fun _ _ _ _=>?_)|(apply aj.i<;>intro hc))
      exact⟨.inr ⟨e0,.inr ⟨E,pT,.inl ⟨all,rfl⟩⟩⟩,G3.trans (G4.trans aL)⟩
    ·repeat'(with_reducible first|simp(disch:=try exact ab) only[go_sem,seval,k6,k8]|(apply aj.i<;>intro hc))
     exact⟨.inr ⟨e0,.inl ⟨pT,rfl⟩⟩,G3⟩
   ·repeat'(with_reducible first|simp(disch:=try exact ab) only[go_sem,seval,k1,k6,k8,lnb,uv,yA,PN,c3]|(refine Gv.wp (f136) fun _ _ _ _=>?_)|(refine Gv.wp (x2 (jS (a:=0) (b:=ni b) aS mJ)) fun _ _ _ _=>?_)|(apply aj.i<;>intro hc))
    exact⟨.inl ⟨by rw[e0];exact c3,by rw[e0]⟩,G.trans aL⟩
  ·have uv:¬(b.length:Int)=m.length:=by omega
   rw[if_pos c2]at e0;repeat'(with_reducible first|simp(disch:=try exact ab) only[go_sem,seval,k1,k6,k8,lnb,uv,CN,Z8]|(refine Gv.wp (f136) fun _ _ _ _=>?_)|(refine Gv.wp (x2 (jS (a:=2) (b:=ni b) aS mJ)) fun _ _ _ _=>?_)|(apply aj.i<;>intro hc))
   exact⟨.inl ⟨by rw[e0];decide,by rw[e0]⟩,G.trans aL⟩
 ·have e0:mR m b=te (iA m) m.length 0:=by unfold mR;rw[if_neg c0,if_neg c1,if_pos hz]
  repeat'(with_reducible first|simp(disch:=try exact ab) only[go_sem,seval,k4,k5]|(apply aj.i<;>intro hc))
  exact⟨.inl ⟨by rw[e0];exact hz,by rw[e0]⟩,G⟩
end
end
end Go.Ae
namespace Go.Ae
open So Bg
noncomputable section
def ZA (d:Nat→Nat):Nat→Nat
 |0=>0
 |k+1=>ZA d k+d k
def bs (T S:Nat)(W:Nat→Nat)(k:Nat):Nat:=T*W k/S
def rs (T S:Nat)(W:Nat→Nat)(k:Nat):Nat:=T*W k%S
open Classical in
def ch (e:Nat→Nat)(m k:Nat):Nat:=if ∃i,i<m∧e i=k then 1 else 0
section
variable {h h' hp:Hp}{K:AV→Hp→Prop}{tm:T AV}{n t f s a b c d k m q l T S X:Nat}{W e e':Nat→Nat}{v:AV}{w:List Int}
theorem Gd.inj {r:Nat→Nat}(g:Gd (O8 r) e 0 n){i j:Nat}(hi:i<n)(hj:j<n)(he:e i=e j):i=j:=by
 have ir:∀x,¬O8 r x x:=fun x h=>by unfold O8 at h;omega
 rcases mP i j with c|c|c
 ·have:=g.1 i j (by omega) c hj;rw[he]at this;exact absurd this (ir _)
 ·exact c
 ·have:=g.1 j i (by omega) c hi;rw[he]at this;exact absurd this (ir _)
end
end
end Go.Ae
namespace Go.Ae.Hd
open gM bp C
def kX:T cy:= .nil
section
open Go.Proofs
theorem all:T.Forall aR kX (fun n=>n):=trivial
theorem xh (n:Nat)(a:cy)(h:kX.get n=some a):BT Tryz.prog n=some a:=T.fZ kX (fun n=>n) all n a h
end
end Go.Ae.Hd
namespace Go.Ae
open So Bg N Go.Proofs
noncomputable section
def Rq (h:Hp)(v:AV)(n:Nat)(d:Nat→Nat):Prop:=(v= .aq∧n=0)∨∃a,v= .sl a 0 n 1∧Rw h a n d
section
variable {h h' hp:Hp}{K:AV→Hp→Prop}{tm:T AV}{n t f s a b c d k m q l:Nat}{e e':Nat→Nat}{v va vb:AV}{w la lb:List Nat}
end
end
end Go.Ae
namespace Go.Ae
open So
section
variable {T S n l i j k m:Nat}{W d e r c:Nat→Nat}
def shr (T S:Nat)(W:Nat→Nat)(e:Nat→Nat)(n k:Nat):Nat:=bs T S W k+ch e (T-ZA (bs T S W) n) k
end
end Go.Ae
namespace Go.Ae.He
open gM bp C
def kX:T cy:= .nil
section
open Go.Proofs
theorem all:T.Forall aR kX (fun n=>n):=trivial
theorem xh (n:Nat)(a:cy)(h:kX.get n=some a):BT Tryz.prog n=some a:=T.fZ kX (fun n=>n) all n a h
end
end Go.Ae.He
namespace Go.Ae
open Bg N Go.Proofs Gj So
noncomputable section
def EL:Env:=EX.add He.kX
theorem geL:Ge EX EL:=Ge.add _ _
section
variable {h h' h0 h1 hp:Hp}{K:AV→Hp→Prop}{tm:Ae.T AV}{v va vb vw s:AV}{a r tt:Rat}{x y:Fc}{p n z i j k f c q d N:Nat}{t t':Nat→Nat}{M:Mt}{e D:Nat→Nat}{g A X:Nat→Rat}{o:Option cP}{l l2 b:List (List UInt8)}{m:List (List (List UInt8))}{Q:Ex→St→Prop}{w:List Int}{P:AV→Hp→Prop}
theorem y0 {f:Nat}{args:List AV}{v:AV}(hc:Gv EX f args h v):Gv EL f args h v:=hc.ge fun _ _ _ hk=>hk.ge geL
theorem y2 {f:Nat}{args:List AV}{v:AV}(hc:Gv E2 f args h v):Gv EL f args h v:=y0 (x2 hc)
end
end
end Go.Ae
set_option maxHeartbeats 8000000
namespace Go.Ae
open Bg N Go.Proofs Gj So
noncomputable section
theorem MU {s:List UInt8}{d:Nat}(hd:1≤d)(h:zt s d=true):s.length≤2*d+2∧fm s=0∧Db d (wH s):=by
 unfold zt at h;simp only[bz,decide_eq_true_eq]at h;obtain⟨h1,h2,h3,h4⟩:=h;refine⟨h1,h2,?_⟩;obtain⟨t,_⟩:=lu h2;rw[t,JN,KS]at h3;rw[t,Ks]at h4;exact⟨(jz hd).1 h3,(jz hd).1 h4⟩
section
variable {h h' h0 h1 hp:Hp}{K:AV→Hp→Prop}{tm:Ae.T AV}{v va vb vw vm s vx:AV}{a r tt:Rat}{x y:Fc}{p n z i j k f c q d N S al:Nat}{T:Int}{t t':Nat→Nat}{M E:Mt}{e D W sh:Nat→Nat}{o:Option cP}{Q:Ex→St→Prop}{w:List Int}{b l2:List (List UInt8)}{m:List (List (List UInt8))}{X:Nat→Rat}
theorem Sw.row (S:Sw h q n X):jd h (.sl q 0 n 1) ((ct n).map fun k=>aX (X k)):=by
 obtain⟨st,hg,h1,h2⟩:=S;refine .inl ⟨by simp,.inr ⟨q,true,st,by simp,?_,h1,h2⟩⟩;rw[hg,vk];rfl
end
end
end Go.Ae
namespace Go.Ae.Hf
open gM bp C
def a5:cy:=⟨73,[.tmp 4],(q [o 4 (.mv (.k (.bool false)))]
 (.seq (q [c 10 17 [],y 11 .not 10,v 12 11,g 13 (m 0) 12 false,g 14 (.len .slice (.t 13)) 12 false,gb 15 .gtr (.t 14) (i 30) 12 false,pt 16 12 15,v 17 16,g 18 (m 1) 17 false,g 19 (.len .slice (.t 18)) 17 false,gb 20 .gtr (.t 19) (i 30) 17 false,pt 21 17 20,v 22 21,g 23 (m 0) 22 false,gc 24 32 [.t 23,i 30] 22 false,g 25 (.un .not (.t 24)) 22 false,pt 26 22 25,v 27 26,g 28 (m 1) 27 false,gc 29 33 [.t 28,i 30] 27 false,g 30 (.un .not (.t 29)) 27 false,pt 31 27 30]
 (k 31 (q [c 32 17 [],v 4 32]
 .ret)))
 (q [v 33 0,v 34 1,c 35 34 [.t 33,.t 34],v 5 35]
 (.seq (q [v 36 5,bi 37 .eql 36 0,v 38 37,g 39 (m 0) 38 true,gc 40 35 [.t 39,i 5,i 5,i 6] 38 true,g 41 (.un .not (.t 40)) 38 true,g 42 (m 41) 38 true,g 43 (m 1) 42 false,gc 44 36 [.t 43,i 5,i 6] 42 false,g 45 (.un .not (.t 44)) 42 false,g 46 (.pick (.t 42) (.k (.bool true)) (.t 45)) 38 true,pf 47 38 46]
 (k 47 (q [o 4 (.mv (.k (.bool true)))]
 .ret)))
 (q [v 49 0,v 50 1,c 51 37 [.t 49,.t 50],v 48 51,e 52 48 0,e 53 48 1,v 6 52,v 7 53]
 (.seq (q [v 54 5,bi 55 .neq 54 0]
 (k 55 (q [v 56 6,v 57 7,v 58 5,c 59 38 [.t 56,.t 57,.t 58,(.k (.aq))],v 4 59]
 .ret)))
 (q [v 61 0,v 62 1,c 63 39 [.t 61,.t 62],v 60 63,e 64 60 0,e 65 60 1,v 8 64,v 9 65]
 (q [v 66 6,v 67 7,v 68 9,y 69 .not 68,c 70 20 [.t 69,i 14],v 71 8,c 72 38 [.t 66,.t 67,.t 70,.t 71],v 4 72]
 .ret))))))))⟩
def Ui:cy:=⟨23,[.tmp 4],(q [o 4 (.mv (.k (.bool false)))]
 (.seq (q [v 6 0,ln 7 6,v 8 1,bt 9 .gtr 7 8]
 (k 9 (q [o 4 (.mv (.k (.bool false)))]
 .ret)))
 (.seq (q [vi 5 0]
 (.block 0 (.loop (.seq (q [v 10 5,v 11 0,ln 12 11,bt 13 .lss 10 12]
 (.cond (.t 13) .skip
 (.exit 0)))
 (.seq (.block 1 (q [v 16 0,v 17 5,ix 18 1 16 17,l 19 false 1 18,v 20 1,c 21 33 [.t 19,.t 20],y 22 .not 21]
 (k 22 (q [o 4 (.mv (.k (.bool false)))]
 .ret))))
 (.cx [v 14 5,bi 15 .add 14 1,v 5 15]))))))
 (q [o 4 (.mv (.k (.bool true)))]
 .ret))))⟩
def Uh:cy:=⟨23,[.tmp 4],(q [o 4 (.mv (.k (.bool false)))]
 (.seq (q [v 6 0,ln 7 6,v 8 1,bt 9 .gtr 7 8]
 (k 9 (q [o 4 (.mv (.k (.bool false)))]
 .ret)))
 (.seq (q [vi 5 0]
 (.block 0 (.loop (.seq (q [v 10 5,v 11 0,ln 12 11,bt 13 .lss 10 12]
 (.cond (.t 13) .skip
 (.exit 0)))
 (.seq (.block 1 (q [v 16 0,v 17 5,ix 18 1 16 17,l 19 false 1 18,ls 20 19,v 21 1,bt 22 .gtr 20 21]
 (k 22 (q [o 4 (.mv (.k (.bool false)))]
 .ret))))
 (.cx [v 14 5,bi 15 .add 14 1,v 5 15]))))))
 (q [o 4 (.mv (.k (.bool true)))]
 .ret))))⟩
def Nn:cy:=⟨30,[.tmp 8],(q [o 8 (.mv (.k (.bool false)))]
 (.seq (q [v 9 2,bi 10 .eql 9 0]
 (k 10 (.cx [v 11 3,c 12 142 [.t 11],v 2 12])))
 (.seq (q [v 13 2,bi 14 .neq 13 0]
 (k 14 (q [v 15 0,ln 16 15,bi 17 .eql 16 0,v 18 17,g 19 (m 1) 18 true,g 20 (m 2) 18 true,gb 21 .eql (.t 19) (.t 20) 18 true,pf 22 18 21,v 8 22]
 .ret)))
 (q [v 23 1,bi 24 .eql 23 0,v 25 24,g 26 (m 0) 25 true,g 27 (m 3) 25 true,gc 28 110 [.t 26,.t 27] 25 true,pf 29 25 28,v 8 29]
 .ret))))⟩
def PP:cy:=⟨16,[.tmp 4,.tmp 5],(q [o 4 (.mv (.k (.aq))),o 5 (.mv (.k (.bool false)))]
 (.seq (q [v 6 0,c 7 143 [.t 6],v 8 0,ln 9 8,bt 10 .lss 7 9]
 (k 10 (q [o 4 (.mv (.k (.aq))),o 5 (.mv (.k (.bool false)))]
 .ret)))
 (q [v 11 0,v 12 1,c 13 144 [.t 11,.t 12],e 14 13 0,e 15 13 1,v 4 14,v 5 15]
 .ret)))⟩
def a143:cy:=⟨6,[.tmp 2],(q [vi 2 0]
 (q [v 3 0,c 4 217 [.t 3],ln 5 4,v 2 5]
 .ret))⟩
def EH:cy:=⟨69,[.tmp 4,.tmp 5],(q [o 4 (.mv (.k (.aq))),o 5 (.mv (.k (.bool false)))]
 (q [o 6 (.mv (.k (.aq)))]
 (q [v 13 0,c 14 55 [.t 13],v 7 14]
 (.seq (q [vi 8 0]
 (.block 0 (.loop (.seq (q [v 15 8,v 16 0,ln 17 16,bt 18 .lss 15 17]
 (.cond (.t 18) .skip
 (.exit 0)))
 (.seq (.block 1 (.cm [v 21 6,o 22 (.Az 1 0 [] []),v 23 0,v 24 8,ix 25 1 23 24,w 26 false 1 25 5,o 27 (.app 1 16 (.t 22) (.t 26)),v 28 1,v 29 8,ix 30 1 28 29,w 31 false 1 30 10,o 32 (.Az 1 1 [.str []] [(0,1,(.t 31))]),o 33 (.app 1 16 (.t 27) (.t 32)),o 34 (.cL 1 1 [.aq] [(0,1,(.t 33))]),o 35 (.app 1 24 (.t 21) (.t 34)),v 6 35]))
 (.cx [v 19 8,bi 20 .add 19 1,v 8 20]))))))
 (q [v 37 6,c 38 218 [.t 37],v 36 38,e 39 36 0,e 40 36 1,v 9 39,v 10 40]
 (q [v 41 7,c 42 219 [.t 41],v 11 42]
 (.seq (q [vi 12 0]
 (.block 2 (.loop (.seq (q [v 43 12,v 44 10,ln 45 44,bt 46 .lss 43 45]
 (.cond (.t 46) .skip
 (.exit 2)))
 (.seq (.block 3 (.seq (q [v 49 10,v 50 12,ix 51 1 49 50,l 52 false 1 51,v 53 7,bt 54 .eql 52 53]
 (k 54 (q [o 4 (.mv (.k (.aq))),o 5 (.mv (.k (.bool false)))]
 .ret)))
 (.cm [v 55 11,v 56 10,v 57 12,ix 58 1 56 57,w 59 false 1 58 4,v 60 9,v 61 12,ix 62 1 60 61,w 63 false 1 62 8,v 64 7,ix 65 1 63 64,w 66 false 1 65 11,ix 67 1 55 59,s 1 67 66])))
 (.cx [v 47 12,bi 48 .add 47 1,v 12 48]))))))
 (q [v 68 11,v 4 68,o 5 (.mv (.k (.bool true)))]
 .ret))))))))⟩
def Ll:cy:=⟨11,[.tmp 2],(q [o 2 (.mv (.k (.aq)))]
 (q [v 6 0,c 7 218 [.t 6],v 5 7,e 8 5 0,e 9 5 1,v 3 8,v 4 9]
 (q [v 10 3,v 2 10]
 .ret)))⟩
def a218:cy:=⟨159,[.tmp 2,.tmp 3],(q [o 2 (.mv (.k (.aq))),o 3 (.mv (.k (.aq)))]
 (q [v 13 0,c 14 276 [.t 13],v 0 14]
 (q [o 4 (.mv (.k (.aq)))]
 (.seq (q [vi 5 0]
 (.block 0 (.loop (.seq (q [v 15 5,v 16 0,c 17 55 [.t 16],bt 18 .lss 15 17,v 19 18,g 20 (m 4) 19 true,g 21 (.len .slice (.t 20)) 19 true,g 22 (m 0) 19 true,g 23 (.len .slice (.t 22)) 19 true,gb 24 .lss (.t 21) (.t 23) 19 true,pf 25 19 24]
 (.cond (.t 25) .skip
 (.exit 0)))
 (.seq (.block 1 (q [v 28 4,ln 29 28,v 6 29]
 (.seq (.block 2 (.loop (.seq (q [v 30 6,v 31 0,ln 32 31,bt 33 .lss 30 32,v 34 33,g 35 (m 0) 34 true,g 36 (m 6) 34 true,g 37 (.iG 1 (.t 35) (.t 36)) 34 true,gl 38 false 1 37 34 true,g 39 (m 5) 34 true,g 40 (.iG 1 (.t 38) (.t 39)) 34 true,gl 41 false 1 40 34 true,gc 42 107 [.t 41] 34 true,pf 43 34 42]
 (.cond (.t 43) .skip
 (.exit 2)))
 (.block 3 (.cx [v 44 6,bi 45 .add 44 1,v 6 45])))))
 (.seq (q [v 46 6,v 47 0,ln 48 47,bt 49 .eql 46 48]
 (k 49 (.exit 1)))
 (q [v 50 4,ln 51 50,v 7 51]
 (.seq (.cm [v 52 0,v 53 6,v 54 0,v 55 7,v 56 0,v 57 7,ix 58 1 56 57,w 59 false 1 58 7,v 60 0,v 61 6,ix 62 1 60 61,w 63 false 1 62 11,ix 64 1 52 53,s 1 64 59,ix 65 1 54 55,s 1 65 63])
 (q [v 66 0,v 67 7,ix 68 1 66 67,l 69 false 1 68,v 70 5,ix 71 1 69 70,l 72 false 1 71,c 73 173 [.t 72],v 8 73]
 (.seq (q [vi 9 0]
 (.block 4 (.loop (.seq (q [v 74 9,v 75 0,v 76 7,ix 77 1 75 76,l 78 false 1 77,ln 79 78,bt 80 .lss 74 79]
 (.cond (.t 80) .skip
 (.exit 4)))
 (.seq (.block 5 (.cm [v 83 0,v 84 7,ix 85 1 83 84,w 86 false 1 85 13,v 87 9,v 88 0,v 89 7,ix 90 1 88 89,w 91 false 1 90 8,v 92 9,ix 93 1 91 92,w 94 false 1 93 11,v 95 8,c 96 74 [.t 94,.t 95],ix 97 1 86 87,s 1 97 96]))
 (.cx [v 81 9,bi 82 .add 81 1,v 9 82]))))))
 (.seq (q [vi 10 0]
 (.block 6 (.loop (.seq (q [v 98 10,v 99 0,ln 100 99,bt 101 .lss 98 100]
 (.cond (.t 101) .skip
 (.exit 6)))
 (.seq (.block 7 (q [v 104 0,v 105 10,ix 106 1 104 105,l 107 false 1 106,v 108 5,ix 109 1 107 108,l 110 false 1 109,v 11 110]
 (.seq (q [v 111 10,v 112 7,bt 113 .eql 111 112,v 114 113,g 115 (m 11) 114 false,gc 116 107 [.t 115] 114 false,pt 117 114 116]
 (k 117 (.exit 7)))
 (q [vi 12 0]
 (.block 8 (.loop (.seq (q [v 118 12,v 119 0,v 120 10,ix 121 1 119 120,l 122 false 1 121,ln 123 122,bt 124 .lss 118 123]
 (.cond (.t 124) .skip
 (.exit 8)))
 (.seq (.block 9 (.cm [v 127 0,v 128 10,ix 129 1 127 128,w 130 false 1 129 21,v 131 12,v 132 0,v 133 10,ix 134 1 132 133,w 135 false 1 134 20,v 136 12,ix 137 1 135 136,w 138 false 1 137 20,v 139 11,v 140 0,v 141 7,ix 142 1 140 141,w 143 false 1 142 16,v 144 12,ix 145 1 143 144,w 146 false 1 145 19,c 147 74 [.t 139,.t 146],c 148 73 [.t 138,.t 147],ix 149 1 130 131,s 1 149 148]))
 (.cx [v 125 12,bi 126 .add 125 1,v 12 126])))))))))
 (.cx [v 102 10,bi 103 .add 102 1,v 10 103]))))))
 (.cx [v 150 4,v 151 5,o 152 (.cL 1 1 [.int .i64 0] [(0,1,(.t 151))]),o 153 (.app 1 8 (.t 150) (.t 152)),v 4 153]))))))))))
 (.cx [v 26 5,bi 27 .add 26 1,v 5 27]))))))
 (q [v 154 0,v 155 4,ln 156 155,o 157 (.sl 1 (.t 154) none (some (.t 156))),v 158 4,v 2 157,v 3 158]
 .ret)))))⟩
def Lk:cy:=⟨14,[.tmp 2],(q [o 2 (.mv (.k (.aq)))]
 (q [o 3 (.mv (.k (.aq)))]
 (.seq (q [vi 4 0]
 (.block 0 (.loop (.seq (q [v 5 4,v 6 0,bt 7 .lss 5 6]
 (.cond (.t 7) .skip
 (.exit 0)))
 (.seq (.block 1 (.cx [v 10 3,o 11 (.cL 1 1 [.str []] [(0,1,(.k (.str [48])))]),o 12 (.app 1 16 (.t 10) (.t 11)),v 3 12]))
 (.cx [v 8 4,bi 9 .add 8 1,v 4 9]))))))
 (q [v 13 3,v 2 13]
 .ret))))⟩
def KW:cy:=⟨21,[.tmp 2],(q [o 2 (.mv (.k (.aq)))]
 (q [o 3 (.mv (.k (.aq)))]
 (.seq (q [vi 4 0]
 (.block 0 (.loop (.seq (q [v 5 4,v 6 0,ln 7 6,bt 8 .lss 5 7]
 (.cond (.t 8) .skip
 (.exit 0)))
 (.seq (.block 1 (.cx [v 11 3,o 12 (.cL 1 0 [] []),v 13 0,v 14 4,ix 15 1 13 14,l 16 false 1 15,o 17 (.app 1 16 (.t 12) (.t 16)),o 18 (.cL 1 1 [.aq] [(0,1,(.t 17))]),o 19 (.app 1 24 (.t 11) (.t 18)),v 3 19]))
 (.cx [v 9 4,bi 10 .add 9 1,v 4 10]))))))
 (q [v 20 3,v 2 20]
 .ret))))⟩
def kX:T cy:=(.node (.node (.node (.node (.node .nil none (.node (.node (.node .nil (some a143) .nil) none .nil) none .nil)) none (.node (.node .nil (some PP) .nil) none .nil)) none (.node .nil none (.node .nil none (.node (.node .nil none (.node .nil (some Lk) .nil)) none .nil)))) none (.node (.node (.node (.node .nil (some Uh) .nil) none .nil) none (.node .nil none (.node (.node .nil none (.node .nil (some Ll) .nil)) none .nil))) (some a5) .nil)) none (.node (.node (.node (.node (.node .nil (some Ui) .nil) none (.node (.node (.node .nil (some EH) .nil) none .nil) none .nil)) none .nil) none (.node (.node .nil none (.node (.node (.node (.node .nil (some KW) .nil) none .nil) none .nil) none .nil)) none .nil)) none (.node (.node .nil none (.node .nil none (.node (.node .nil none (.node .nil (some a218) .nil)) none .nil))) none (.node (.node (.node .nil (some Nn) .nil) none .nil) none .nil))))
section
open Go.Proofs
theorem b5:aR 5 a5:=by unfold aR;kernel_rfl
theorem b32:aR 32 Ui:=by unfold aR;kernel_rfl
theorem b33:aR 33 Uh:=by unfold aR;kernel_rfl
theorem b38:aR 38 Nn:=by unfold aR;kernel_rfl
theorem b39:aR 39 PP:=by unfold aR;kernel_rfl
theorem YQ:aR 143 a143:=by unfold aR;kernel_rfl
theorem YP:aR 144 EH:=by unfold aR;kernel_rfl
theorem XU:aR 217 Ll:=by unfold aR;kernel_rfl
theorem XT:aR 218 a218:=by unfold aR;kernel_rfl
theorem XS:aR 219 Lk:=by unfold aR;kernel_rfl
theorem Xj:aR 276 KW:=by unfold aR;kernel_rfl
theorem all:T.Forall aR kX (fun n=>n):=⟨C.no,⟨C.no,⟨C.no,⟨C.no,⟨C.no,trivial,⟨C.no,⟨C.no,⟨C.yes YQ,trivial,trivial⟩,trivial⟩,trivial⟩⟩,⟨C.no,⟨C.yes b39,trivial,trivial⟩,trivial⟩⟩,⟨C.no,trivial,⟨C.no,trivial,⟨C.no,⟨C.no,trivial,⟨C.yes XS,trivial,trivial⟩⟩,trivial⟩⟩⟩⟩,⟨C.yes b5,⟨C.no,⟨C.no,⟨C.yes b33,trivial,trivial⟩,trivial⟩,⟨C.no,trivial,⟨C.no,⟨C.no,trivial,⟨C.yes XU,trivial,trivial⟩⟩,trivial⟩⟩⟩,trivial⟩⟩,⟨C.no,⟨C.no,⟨C.no,⟨C.no,⟨C.yes b32,trivial,trivial⟩,⟨C.no,⟨C.no,⟨C.yes YP,trivial,trivial⟩,trivial⟩,trivial⟩⟩,trivial⟩,⟨C.no,⟨C.no,trivial,⟨C.no,⟨C.no,⟨C.no,⟨C.yes Xj,trivial,trivial⟩,trivial⟩,trivial⟩,trivial⟩⟩,trivial⟩⟩,⟨C.no,⟨C.no,trivial,⟨C.no,trivial,⟨C.no,⟨C.no,trivial,⟨C.yes XT,trivial,trivial⟩⟩,trivial⟩⟩⟩,⟨C.no,⟨C.no,⟨C.yes b38,trivial,trivial⟩,trivial⟩,trivial⟩⟩⟩⟩
theorem xh (n:Nat)(a:cy)(h:kX.get n=some a):BT Tryz.prog n=some a:=T.fZ kX (fun n=>n) all n a h
end
end Go.Ae.Hf
