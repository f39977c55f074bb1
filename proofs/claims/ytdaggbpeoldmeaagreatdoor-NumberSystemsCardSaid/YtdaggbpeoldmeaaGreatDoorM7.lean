/- The reference's whole numbers, from machine integers. -/
import Derived.Test.YtdaggbpeoldmeaaGreatDoorM6
import Derived.Test.YtdaggbpeoldmeaaGreatDoorM5
import Derived.Test.YtdaggbpeoldmeaaGreatDoorM4
import Derived.Shelf.Strings.Builder1
import Derived.Shelf.Strings.Builder2
open Array renaming getElem?_eq_some_iff → cX, length_toList → fN
open Bool renaming and_eq_true → bz, or_eq_true → xN
open Go.RowKit renaming Below → bl
open Iff renaming rfl → ax
open Int renaming lt_irrefl → fY, natAbs_neg → sc, natAbs_natCast → aw, gcd → cG, mul_ne_zero → iP, natAbs_mul → fu, natCast_mul → ce, toNat_natCast → gD
open List renaming map_append → dT, getD → bQ, getElem?_append_left → cB, take → fH, take_left → jh, drop → gJ, drop_drop → eG, drop_left → ii, all_eq_true → bV, length_append → ar, length_cons → ap, take_length → bj, append_nil → iK, length_pos_iff → fV, length_nil → aK, length_take → az, length_drop → bP, getD_cons_zero → de, getElem?_map → bK, getElem?_eq_getElem → aI, getD_eq_getElem?_getD → aW, length_eq_zero_iff → fL, range' → uM, map_cons → eH, drop_zero → eE, take_append_drop → fD, append_assoc → cW, replicate → av, drop_of_length_le → dN
open Nat renaming eq_zero_or_pos → aE, mul_zero → fW, add_zero → aY, le_refl → ae, mul_le_mul_left → aD, mul_one → dF, pow_succ → aV, mul_assoc → aF, mul_add → ay, pow_mul → mH, gcd → eA, mod_lt → bq, div_le_self → jp, zero_add → dd, lt_of_lt_of_le → ah, pow_le_pow_right → aT, mul_pos → eY, le_trans → aB, zero_le → aJ, sub_self → kA, not_lt_zero → fh, lt_or_ge → aQ, pow_add → dm, pow_pos → dp, div_lt_iff_lt_mul → df, mul_comm → aA, mul_mod_mul_right → uJ, mul_le_mul_right → aM, add_mul → bh, min_eq_left → cD, div_eq_of_lt → iS, mod_eq_of_lt → cH, sub_add_cancel → bT, lt_trans → Cc, div_add_mod → cE, mul_lt_mul_of_pos_right → nP, lt_of_le_of_lt → gR
open Option renaming map_eq_some_iff → Cb
open Option.some renaming inj → aa
open Rat renaming num_eq_zero → jM, divInt → bD
set_option linter.unusedVariables false
set_option linter.unusedSimpArgs false
set_option maxRecDepth 100000
set_option maxHeartbeats 1000000
namespace Go.Ae
open Bg N Go.Proofs
noncomputable section
section
variable {h h' hp:Hp}{K:AV→Hp→Prop}{tm:T AV}
theorem d182 {n:Int}(hn: -9223372036854775807≤n∧n≤9223372036854775807):Gp E3 182 [.int .i64 n] h fun v h'=>oS h' v n:=by
 refine Gp.of (ac.fn (fn:=R.a182) rfl rfl rfl ?_);unfold R.a182
 have es:iB (decide (n<0)) n.natAbs=n:=by
  unfold iB;by_cases c:n<0
  ·rw[decide_eq_true c,if_pos rfl];omega
  ·rw[decide_eq_false c,if_neg (by decide)];omega
 repeat'(with_reducible first|simp(disch:=try exact ab) only[go_sem,seval]|(apply aj.i<;>intro hc))
 refine Wp.bW (fun m s=>∃(u k:Nat) (out:List Nat) (z:Int) (v:AV),val s.tm (.t 0)= .int .i64 z∧val s.tm (.t 2)= .ptr h.next 0∧val s.tm (.t 3)=v∧val s.tm (.t 4)= .bool (decide (n<0))∧
  aH (h.push fun st=> .row [.bool false,.aq] true st) s.hp∧cO 1 (h.push fun st=> .row [.bool false,.aq] true st) s.hp v k (out.map (wd .i64))∧out.length=k∧Dg 1000000000 out∧(n<0→z= -(u:Int))∧(¬n<0→z=u)∧u≤n.natAbs∧k≤3∧
  n.natAbs=vl 1000000000 out+1000000000^k*u∧u=m) (n:=n.natAbs) ?_ ?_
 ·exact⟨n.natAbs,0,[],n,.aq,aS,aS,aS,aS,aH.refl _,cO.nil,rfl,Dg.nil,by omega,by omega,by omega,by omega,by simp[vl],rfl⟩
 ·rintro m ⟨tm,hp⟩ ⟨u,k,out,z,v,h0,h2,h3,h4,hG,hO,hlo,dO,hz1,hz2,hu,hku,heq,rfl⟩;simp only at h0 h2 h3 h4 hG hO;have A:bG (h.push fun st=> .row [.bool false,.aq] true st) h.next [.bool false,.aq]:=bG.push;rcases aE u with rfl|hpos
  ·obtain rfl:z=0:=by omega
   have S':=hO.sq hlo;rw[fW,aY]at heq;repeat'(with_reducible first|simp(disch:=try exact ab) only[go_sem,seval,h0,h2,h3,h4]|(apply aj.i<;>intro hc))
   refine Gp.wp (d249 S' dO (by omega)) fun v5 k5 a5 b5 u5 I5=>?_
   rw[←heq,es]at I5;obtain⟨w5,rfl,p5,I5⟩:=I5.ex;obtain⟨st,hg,hst,hlt⟩:=(A.aO hG).aO (⟨_,_,u5⟩:aH hp (hp.ov k5 u5));repeat'(with_reducible first|simp(disch:=try exact ab) only[go_sem,seval,h2,hg,p5]|(apply aj.i<;>intro hc))
   refine⟨I5.jI (by simp(disch:=try exact ab) only[go_sem,seval,bU,hg]),?_⟩;exact aH.put (((aH.push (aH.refl h)).trans hG).ov) (ae _)
  ·have hk3:k<3:=by
    have h1:1000000000^k*1≤1000000000^k*u:=aD _ hpos
    have h2:1000000000^k<1000000000^3:=by
     rw[dF]at h1;have:(1000000000:Nat)^3=1000000000000000000000000000:=by decide
     omega
    exact(Nat.pow_lt_pow_iff_right (by decide)).1 h2
   have zne:¬z=0:=by omega
   have fin:n.natAbs=vl 1000000000 (out++[u%1000000000])+1000000000^(k+1)*(u/1000000000):=by
    have e9:(1000000000:Nat)^(k+1)=1000000000^k*1000000000:=aV _ _
    have e1:1000000000^k*u=1000000000^k*(u%1000000000)+1000000000^k*1000000000*(u/1000000000):=by
     rw[aF,←ay];congr 1;omega
    rw[jv,hlo,e9,heq,e1];omega
   have done:∀v' h',aH (h.push fun st=> .row [.bool false,.aq] true st) h'→cO 1 (h.push fun st=> .row [.bool false,.aq] true st) h' v' (k+1) (out.map (wd .i64)++[.int .i64 (u%1000000000:Nat)])→cO 1 (h.push fun st=> .row [.bool false,.aq] true st) h' v' (k+1) ((out++[u%1000000000]).map (wd .i64)):=fun v' h' _ O'=>by rw[dT];exact O'
   by_cases c:n<0
   ·have ez:=hz1 c;subst ez;have em:(-(u:Int)).tmod 1000000000= -((u%1000000000:Nat):Int):=by rw[Int.neg_tmod];rfl
    have eq:(-(u:Int)).tdiv 1000000000= -((u/1000000000:Nat):Int):=by rw[Int.neg_tdiv];rfl
    by_cases hm:u%1000000000=0
    ·have em0:(-(u:Int)).tmod 1000000000=((u%1000000000:Nat):Int):=by rw[em,hm];rfl
     have hnn:¬((u%1000000000:Nat):Int)<0:=by omega
     repeat'(with_reducible first|simp(disch:=try exact ab) only[go_sem,seval,h0,h2,h3,h4,zne,uA,mC,em0,eq,hnn,jA]|(apply aj.i<;>intro hc))
     refine cO.wp (h0:=h.push fun st=> .row [.bool false,.aq] true st) (b:=8) rfl hG hO rfl (by decide) (by omega) (by omega) fun v' h' G' O'=>?_
     repeat'(with_reducible first|simp(disch:=try exact ab) only[go_sem,seval,h0,h2,h3,h4,uA,mC,eq]|(apply aj.i<;>intro hc))
     exact⟨u/1000000000,by omega,u/1000000000,k+1,out++[u%1000000000],_,v',rfl,rfl,G',done v' h' G' O',by simp[hlo],dO.append (Dg.cons (by omega) Dg.nil),by omega,by omega,by omega,by omega,fin,rfl⟩
    ·have hnn: -((u%1000000000:Nat):Int)<0:=by omega
     have e00:(0:Int)- -((u%1000000000:Nat):Int)=((u%1000000000:Nat):Int):=by omega
     repeat'(with_reducible first|simp(disch:=try exact ab) only[go_sem,seval,h0,h2,h3,h4,zne,uA,mC,em,eq,hnn,e00,jA]|(apply aj.i<;>intro hc))
     refine cO.wp (h0:=h.push fun st=> .row [.bool false,.aq] true st) (b:=8) rfl hG hO rfl (by decide) (by omega) (by omega) fun v' h' G' O'=>?_
     repeat'(with_reducible first|simp(disch:=try exact ab) only[go_sem,seval,h0,h2,h3,h4,uA,mC,eq]|(apply aj.i<;>intro hc))
     exact⟨u/1000000000,by omega,u/1000000000,k+1,out++[u%1000000000],_,v',rfl,rfl,G',done v' h' G' O',by simp[hlo],dO.append (Dg.cons (by omega) Dg.nil),by omega,by omega,by omega,by omega,fin,rfl⟩
   ·have ez:=hz2 c;subst ez;have em:(u:Int)%1000000000=((u%1000000000:Nat):Int):=rfl;have eq:(u:Int)/1000000000=((u/1000000000:Nat):Int):=rfl;have hnn:¬((u%1000000000:Nat):Int)<0:=by omega
    repeat'(with_reducible first|simp(disch:=try exact ab) only[go_sem,seval,h0,h2,h3,h4,zne,em,eq,hnn,jA]|(apply aj.i<;>intro hc))
    refine cO.wp (h0:=h.push fun st=> .row [.bool false,.aq] true st) (b:=8) rfl hG hO rfl (by decide) (by omega) (by omega) fun v' h' G' O'=>?_
    repeat'(with_reducible first|simp(disch:=try exact ab) only[go_sem,seval,h0,h2,h3,h4,eq]|(apply aj.i<;>intro hc))
    exact⟨u/1000000000,by omega,u/1000000000,k+1,out++[u%1000000000],_,v',rfl,rfl,G',done v' h' G' O',by simp[hlo],dO.append (Dg.cons (by omega) Dg.nil),by omega,by omega,by omega,by omega,fin,rfl⟩
end
end
end Go.Ae
namespace Go.Ae
open Bg N Go.Proofs
noncomputable section
theorem wK (z:Int):(47:UInt8)∉bB z:=by
 have h:(47:UInt8)∉bn z.natAbs 1:=Kx (by decide);unfold bB;split
 ·simp only[List.mem_cons,not_or];exact⟨by decide,h⟩
 ·exact h
theorem tW {l:List UInt8}{i:Nat}{c:UInt8}(hi:i<l.length)(h:l.getD i 0=c):c∈l:=by
 have:l.getD i 0=l[i]:=by simp[bQ,hi]
 rw[this]at h;rw[←h];exact List.getElem_mem hi
theorem jV (r:Rat):bR (aX r)=(bB r.num).length:=by
 unfold aX;split
 ·refine sW fun j hj e=>wK r.num (tW hj e)
 ·refine sX (by simp) (fun j hj e=>?_) ?_
  ·refine wK r.num (tW (i:=j) hj ?_);rw[←e];simp only[bQ];rw[cB hj]
  ·simp[bQ]
theorem Cv (z:Int):iB (decide (z<0)) (bm (bn z.natAbs 1))=z:=by
 rw[lM];unfold iB;by_cases c:z<0
 ·rw[decide_eq_true c,if_pos rfl];omega
 ·rw[decide_eq_false c,if_neg (by decide)];omega
section
variable {h h' hp:Hp}{K:AV→Hp→Prop}{tm:T AV}{r:Rat}{z:Int}
theorem zJ {n:Nat}(lz:Lr n z)(hn:n≤10000):Gp E3 207 [.str (bB z)] h fun v h'=>oS h' v z:=by
 have h':z.natAbs<10^(9*n):=by rw[mH];exact lz
 have hl:=iI (j:=9*n) (n:=z.natAbs) (k:=1) h';have:=d207 (h:=h) (neg:=decide (z<0)) (t:=bn z.natAbs 1) (jE _ _) (mB _) (by omega);rw[Cv]at this
 have e:(if decide (z<0)=true then 45::bn z.natAbs 1 else bn z.natAbs 1)=bB z:=by
  unfold bB;by_cases c:z<0
  ·rw[if_pos (decide_eq_true c),if_pos c]
  ·rw[if_neg (by simpa using c),if_neg c]
 rw[e]at this;exact this
theorem d124 (l1:Lr 9000 r.num)(l2:Lr 9000 (r.den:Int)):Gp E3 124 [.str (aX r)] h fun v h'=>∃va vb,v= .fO [va,vb]∧oS h' va r.num∧oS h' vb (r.den:Int):=by
 refine Gp.of (ac.fn (fn:=R.a124) rfl rfl rfl ?_);unfold R.a124;have t1:=iD l1;have t2:=iD l2;have hsl:=jV r;by_cases hd:r.den=1
 ·have et:aX r=bB r.num:=if_pos hd;rw[et]at hsl⊢;have cs:=fun{h:Hp} {K:AV→Hp→Prop}=>zZ (h:=h) (K:=K) (s:=bB r.num) (by omega)
  repeat'(with_reducible first|simp(disch:=try exact ab) only[go_sem,seval,cs,hsl]|(apply aj.i<;>intro hc))
  refine Gp.wp (zJ l1 (by decide)) fun v5 k5 a5 b5 u5 I5=>?_
  obtain⟨w5,rfl,p5,I5⟩:=I5.ex;repeat'(with_reducible first|simp(disch:=try exact ab) only[go_sem,seval,p5]|(apply aj.i<;>intro hc))
  refine Gp.wp (d182 (n:=1) (by omega)) fun v6 k6 a6 b6 u6 I6=>?_
  obtain⟨w6,rfl,p6,I6⟩:=I6.ex;have I5':=I5.aO (⟨_,_,u6⟩:aH _ ((((h.push fun st=> .row [.bool false,.aq] true st).push fun st=> .row [.bool false,.aq] true st).ov k5 u5).ov k6 u6));rw[hd];repeat'(with_reducible first|simp(disch:=try exact ab) only[go_sem,seval,p5,p6]|(apply aj.i<;>intro hc))
  refine⟨⟨_,_,rfl,?_,?_⟩,?_⟩
  ·exact(I5'.jI (by simp(disch:=try exact ab) only[go_sem,seval,bU])).jI (by simp(disch:=try exact ab) only[go_sem,seval,bU])
  ·exact(I6.jI (by simp(disch:=try exact ab) only[go_sem,seval,bU])).jI (by simp(disch:=try exact ab) only[go_sem,seval,bU])
  ·exact aL
 ·have et:aX r=bB r.num++47::bB r.den:=if_neg hd;rw[et]at hsl⊢;have hlen:(bB r.num++47::bB r.den).length=(bB r.num).length+((bB r.den).length+1):=by simp
  have cs:=fun{h:Hp} {K:AV→Hp→Prop}=>zZ (h:=h) (K:=K) (s:=bB r.num++47::bB r.den) (by omega)
  have hne:¬((bB r.num).length:Int)=((bB r.num).length+((bB r.den).length+1):Nat):=by omega
  have k1:fH (bB r.num).length (bB r.num++47::bB r.den)=bB r.num:=jh;have e1:(((bB r.num).length:Int)+1).toNat=(bB r.num).length+1:=by omega
  have k2:gJ ((bB r.num).length+1) (bB r.num++47::bB r.den)=bB r.den:=by
   rw[←eG,ii];rfl
  repeat'(with_reducible first|simp(disch:=try exact ab) only[go_sem,seval,cs,hsl,hne,k1,e1,k2]|(apply aj.i<;>intro hc))
  refine Gp.wp (zJ l1 (by decide)) fun v5 k5 a5 b5 u5 I5=>?_
  obtain⟨w5,rfl,p5,I5⟩:=I5.ex;repeat'(with_reducible first|simp(disch:=try exact ab) only[go_sem,seval,p5,k1,e1,k2]|(apply aj.i<;>intro hc))
  refine Gp.wp (zJ l2 (by decide)) fun v6 k6 a6 b6 u6 I6=>?_
  obtain⟨w6,rfl,p6,I6⟩:=I6.ex;have I5':=I5.aO (⟨_,_,u6⟩:aH _ ((((h.push fun st=> .row [.bool false,.aq] true st).push fun st=> .row [.bool false,.aq] true st).ov k5 u5).ov k6 u6));repeat'(with_reducible first|simp(disch:=try exact ab) only[go_sem,seval,p5,p6]|(apply aj.i<;>intro hc))
  refine⟨⟨_,_,rfl,?_,?_⟩,?_⟩
  ·exact(I5'.jI (by simp(disch:=try exact ab) only[go_sem,seval,bU])).jI (by simp(disch:=try exact ab) only[go_sem,seval,bU])
  ·exact(I6.jI (by simp(disch:=try exact ab) only[go_sem,seval,bU])).jI (by simp(disch:=try exact ab) only[go_sem,seval,bU])
  ·exact aL
end
end
end Go.Ae
namespace Go.Ae
open Bg N Go.Proofs
noncomputable section
section
variable {h h' hp:Hp}{K:AV→Hp→Prop}{tm:T AV}{r:Rat}
theorem d173 (l1:Lr 9000 r.num)(l2:Lr 9000 (r.den:Int))(h0:r≠0):Gv E3 173 [.str (aX r)] h (.str (aX r⁻¹)):=by
 refine Gv.of (ac.fn (fn:=R.a173) rfl rfl rfl ?_);unfold R.a173;have hn:r.num≠0:=by rw[ne_eq,jM];exact h0
 rw[Rat.inv_def];repeat'(with_reducible first|simp(disch:=try exact ab) only[go_sem,seval]|(apply aj.i<;>intro hc))
 refine Gp.wp (d124 l1 l2) fun v5 k5 a5 b5 u5 ⟨va,vb,e5,I5,I6⟩=>?_
 subst e5;obtain⟨w5,rfl,p5,I5⟩:=I5.ex;obtain⟨w6,rfl,p6,I6⟩:=I6.ex;repeat'(with_reducible first|simp(disch:=try exact ab) only[go_sem,seval,p5,p6]|(apply aj.i<;>intro hc))
 refine Gv.wp (d169 (I6.aO aL) (I5.aO aL) (l2.mono (by decide)) (l1.mono (by decide)) hn) fun h7 k7 j7 u7=>?_
 repeat'(with_reducible first|simp(disch:=try exact ab) only[go_sem,seval]|(apply aj.i<;>intro hc))
 exact aL
end
end
end Go.Ae
namespace Go.Ae
open Bg N Go.Proofs
noncomputable section
section
variable {h h' hp:Hp}{K:AV→Hp→Prop}{tm:T AV}{r:Rat}
theorem d185 {a b:Nat}(ha:a≤9223372036854775807)(hb:b≤9223372036854775807):ac E3 185 [.int .i64 a,.int .i64 b] h K↔K (.int .i64 (eA a b:Nat)) h:=by
 refine ac.cZ (ac.fn (fn:=R.Lx) rfl rfl rfl ?_);unfold R.Lx;repeat'(with_reducible first|simp(disch:=try exact ab) only[go_sem,seval]|(apply aj.i<;>intro hc))
 refine Wp.bW (fun m s=>∃x y:Nat,val s.tm (.t 0)= .int .i64 x∧val s.tm (.t 1)= .int .i64 y∧s.hp=h∧eA x y=eA a b∧x≤9223372036854775807∧y≤9223372036854775807∧y=m) (n:=b) ?_ ?_
 ·exact⟨a,b,aS,aS,rfl,rfl,ha,hb,rfl⟩
 ·rintro m ⟨tm,hp⟩ ⟨x,y,h0,h1,rfl,hg,hx,hy,rfl⟩;simp only at h0 h1;rcases aE y with rfl|hp
  ·have e0:((0:Nat):Int)=0:=rfl;repeat'(with_reducible first|simp(disch:=try exact ab) only[go_sem,seval,h0,h1,e0,fY]|(apply aj.i<;>intro hc))
   rw[←hg,Nat.gcd_zero_right]
  ·have hp':(0:Int)<y:=by omega
   have em:(x:Int)%y=((x%y:Nat):Int):=rfl;repeat'(with_reducible first|simp(disch:=try exact ab) only[go_sem,seval,h0,h1,hp',em]|(apply aj.i<;>intro hc))
   have hl:=bq x hp;refine⟨x%y,hl,y,x%y,rfl,rfl,?_,hy,by omega,rfl⟩;rw[←hg,Nat.gcd_comm y,←Nat.gcd_rec,Nat.gcd_comm]
def gw (r:Rat):List UInt8:=if r.den=1 then bn r.num.natAbs 1 else bn r.num.natAbs 1++47::bB r.den
theorem fR (r:Rat):aX r=if r.num<0 then 45::gw r else gw r:=by
 unfold aX gw bB;by_cases h1:r.den=1<;>by_cases h2:r.num<0<;>simp[h1,h2]
theorem IC (r:Rat):gw (-r)=gw r:=by
 unfold gw;rw[show(-r).den=r.den from rfl,show(-r).num= -r.num from rfl,sc]
theorem EC {r:Rat}(h:r.num≠0):(gw r).head?≠some 45∧gw r≠[48]:=by
 have hd:=Eg r.num.natAbs r.num.natAbs rfl (by omega);have hne:=mB r.num.natAbs;have ha:=jE r.num.natAbs 1;match hq:bn r.num.natAbs 1,hne with
 | c ::l,_=>
  rw[hq]at hd ha
  have hc:fJ c=true:=by
   unfold bI at ha;exact(bV.1 ha) c (by simp)
  have h45:c≠45:=by rintro rfl;exact absurd hc (by decide)
  have h48:c≠48:=by simpa using hd
  unfold gw;rw[hq];split
  ·exact⟨by simp[h45],by simp[h48]⟩
  ·exact⟨by simp[h45],by simp[h48]⟩
theorem ta (r:Rat):yo (aX r)=if r.num<0 then -1 else if r.num=0 then 0 else 1:=by
 rw[fR];by_cases h2:r.num<0
 ·rw[if_pos h2,if_pos h2];unfold yo;rw[if_neg (by simp),if_pos (by simp)]
 ·rw[if_neg h2,if_neg h2];by_cases h0:r.num=0
  ·have hr:r=0:=(jM).1 h0;rw[if_pos h0,hr];decide+kernel
  ·rw[if_neg h0];obtain⟨a,b⟩:=EC h0;unfold yo;rw[if_neg b,if_neg a]
theorem d172 (l1:Lr 9000 r.num)(l2:Lr 9000 (r.den:Int)):Gv E3 172 [.str (aX r)] h (.str (aX (-r))):=by
 have t1:=iD l1;have t2:=iD l2
 have hl:(aX r).length≤200000:=by
  unfold aX;split
  ·omega
  ·rw[ar,ap];omega
 have hs:=ta r;refine Gv.of (ac.fn (fn:=R.LA) rfl rfl rfl ?_);unfold R.LA;have cs:=fun{h:Hp} {K:AV→Hp→Prop}=>WW (h:=h) (K:=K) (s:=aX r) (by omega)
 have en:aX (-r)=if -r.num<0 then 45::gw r else gw r:=by rw[fR,IC];rfl
 by_cases h2:r.num<0
 ·rw[if_pos h2]at hs;have e1:(aX r).drop 1=aX (-r):=by rw[en,if_neg (by omega),fR,if_pos h2];rfl
  have hl1:(1:Int)≤(aX r).length:=by rw[fR,if_pos h2,ap];omega
  repeat'(with_reducible first|simp(disch:=try exact ab) only[go_sem,seval,cs,hs,hl1,e1]|(apply aj.i<;>intro hc))
 ·by_cases h0:r.num=0
  ·rw[if_neg h2,if_pos h0]at hs;have e1:aX r=aX (-r):=by rw[en,if_neg (by omega),fR,if_neg h2]
   repeat'(with_reducible first|simp(disch:=try exact ab) only[go_sem,seval,cs,hs]|(apply aj.i<;>intro hc))
   rw[e1]
  ·rw[if_neg h2,if_neg h0]at hs;have e1:[45]++aX r=aX (-r):=by rw[en,if_pos (by omega),fR,if_neg h2];rfl
   repeat'(with_reducible first|simp(disch:=try exact ab) only[go_sem,seval,cs,hs]|(apply aj.i<;>intro hc))
   rw[←e1];rfl
end
end
end Go.Ae
namespace Go.Ae
open Bg N Go.Proofs
noncomputable section
section
variable {h h' hp:Hp}{K:AV→Hp→Prop}{tm:T AV}{r:Rat}
theorem H5 {x:Int}{y:Nat}(k0:val tm (.t 0)= .int .i64 x)(k1:val tm (.t 1)= .int .i64 y)(hx: -4000000000000000000≤x∧x≤4000000000000000000)(hy:0<y)(hy':y≤4000000000000000000):
  Wp E3 (R.Ps.code.post 3) ⟨tm,h⟩ (gy [.tmp 4] fun v h'=>v= .str (aX (bD x y))∧aH h h'):=by
 obtain⟨f1,f2,f3⟩:=uh (p:=x) (q:=y) (by omega);obtain⟨h1,h2⟩:=mA (p:=x) (q:=y) (by omega);obtain⟨r,hr⟩:∃r,r=bD x y:=⟨_,rfl⟩
 rw[←hr]at f1 f2 f3 h1 h2⊢;rw[aw]at f1 f2;have hg:0<eA x.natAbs y:=Nat.gcd_pos_of_pos_right _ hy;have hgy:eA x.natAbs y≤y:=Nat.gcd_le_right _ hy
 have en:x.tdiv (eA x.natAbs y:Nat)=r.num:=by
  obtain⟨a,ha⟩:=Int.gcd_dvd_left x (y:Int)
  have hgi:(cG x (y:Int):Int)≠0:=by
   have:=Int.gcd_pos_of_ne_zero_right x (show(y:Int)≠0 by omega);omega
  have e0:(eA x.natAbs y:Int)=(cG x (y:Int):Int):=rfl
  have e1:x.fdiv (cG x (y:Int):Int)=a:=by
   have:=Int.mul_fdiv_cancel_left a hgi;rwa[←ha]at this
  have e2:x.tdiv (cG x (y:Int):Int)=a:=by
   have:=Int.mul_tdiv_cancel_left a hgi;rwa[←ha]at this
  rw[e0,e2,h1,e1]
 have ed:(y:Int)/(eA x.natAbs y:Nat)=(r.den:Int):=by rw[f2];rfl
 have hnl:r.num.natAbs≤x.natAbs:=by rw[f1];exact jp _ _
 have hdl:r.den≤y:=by rw[f2];exact jp _ _
 have hd0:=den_pos r;have em:max x (0-x)=(x.natAbs:Int):=by omega
 have em2:max r.num (0-r.num)=(r.num.natAbs:Int):=by omega
 have cg:=fun{h:Hp} {K:AV→Hp→Prop}=>d185 (h:=h) (K:=K) (a:=x.natAbs) (b:=y) (by omega) (by omega)
 have c1:=fun{h:Hp} {K:AV→Hp→Prop}=>AJ (h:=h) (K:=K) (n:=r.num.natAbs) (by omega)
 have c2:=fun{h:Hp} {K:AV→Hp→Prop}=>AJ (h:=h) (K:=K) (n:=r.den) (by omega)
 have l1:=iI (j:=19) (n:=r.num.natAbs) (k:=1) (by omega);have l2:=iI (j:=19) (n:=r.den) (k:=1) (by omega);have ezd:bB (r.den:Int)=bn r.den 1:=by unfold bB;rw[if_neg (by omega),aw]
 obtain⟨g,hgg⟩:∃g,g=eA x.natAbs y:=⟨_,rfl⟩
 rw[←hgg]at hg hgy en ed cg;have hgi:¬(g:Int)=0:=by omega
 have wn:IntKind.wrap .i64 r.num=r.num:=wrap_i64 (by omega);have wd':IntKind.wrap .i64 (r.den:Int)=r.den:=wrap_i64 (by omega);have ed2:IntKind.wrap .i64 ((y:Int)/(g:Int))=(r.den:Int):=by rw[ed];exact wd'
 have ed3:(y:Int).tdiv (g:Int)=(r.den:Int):=by rw[←ed];rfl
 have et:aX r=(if r.num<0 then[45]else[])++(bn r.num.natAbs 1++if r.den=1 then[]else 47::bn r.den 1):=by
  unfold aX;rw[ezd];unfold bB;by_cases a1:r.den=1<;>by_cases a2:r.num<0<;>simp[a1,a2]
 clear f1 f2 f3 h1 h2;unfold R.Ps;dsimp only[au.post];have hgp:0<(g:Int):=by omega
 rw[et];by_cases a2:r.num<0<;>by_cases a1:(1:Int)<r.den
 ·have a1':¬r.den=1:=by omega
  repeat'(with_reducible first|simp(disch:=try exact ab) only[go_sem,seval,k0,k1,em,cg,mC,en,ed2,ed3,ed,wn,wd',em2,c1,c2,a2,a1]|(apply aj.i<;>intro hc))
  rw[if_neg a1'];simp
 ·have a1':r.den=1:=by omega
  repeat'(with_reducible first|simp(disch:=try exact ab) only[go_sem,seval,k0,k1,em,cg,mC,en,ed2,ed3,ed,wn,wd',em2,c1,c2,a2,a1]|(apply aj.i<;>intro hc))
  rw[if_pos a1'];simp
 ·have a1':¬r.den=1:=by omega
  repeat'(with_reducible first|simp(disch:=try exact ab) only[go_sem,seval,k0,k1,em,cg,mC,en,ed2,ed3,ed,wn,wd',em2,c1,c2,a2,a1]|(apply aj.i<;>intro hc))
  rw[if_neg a1'];simp
 ·have a1':r.den=1:=by omega
  repeat'(with_reducible first|simp(disch:=try exact ab) only[go_sem,seval,k0,k1,em,cg,mC,en,ed2,ed3,ed,wn,wd',em2,c1,c2,a2,a1]|(apply aj.i<;>intro hc))
  rw[if_pos a1'];simp
theorem WQ {x x0 y0:Int}{y:Nat}(hxy:(x0=x∧y0=(y:Int))∨(x0= -x∧y0= -(y:Int)))(hx: -4000000000000000000≤x∧x≤4000000000000000000)(hy:0<y)(hy':y≤4000000000000000000):Gv E3 99 [.int .i64 x0,.int .i64 y0] h (.str (aX (bD x y))):=by
 refine Gv.of (ac.fn (fn:=R.Ps) rfl rfl rfl ?_);have tail:=fun(tm:T AV) k0 k1=>H5 (h:=h) (tm:=tm) (x:=x) (y:=y) k0 k1 hx hy hy'
 refine Wp.cut 3 rfl ?_;generalize au.post 3 R.Ps.code=rc at tail⊢
 unfold R.Ps;dsimp only[au.pre];have g1:¬x0< -4000000000000000000:=by omega
 have g2:¬4000000000000000000<x0:=by omega
 have g3:¬y0< -4000000000000000000:=by omega
 have g4:¬4000000000000000000<y0:=by omega
 rcases hxy with⟨rfl,rfl⟩|⟨rfl,rfl⟩
 ·have g5:¬(y:Int)<0:=by omega
  repeat'(with_reducible first|simp(disch:=try exact ab) only[go_sem,seval,g1,g2,g3,g4,g5]|(apply aj.i<;>intro hc))
  exact tail _ aS aS
 ·have g5: -(y:Int)<0:=by omega
  have w1:IntKind.wrap .i64 (0- -x)=x:=(wrap_i64 (by omega)).trans (by omega);have w2:IntKind.wrap .i64 (0- -(y:Int))=(y:Int):=(wrap_i64 (by omega)).trans (by omega);repeat'(with_reducible first|simp(disch:=try exact ab) only[go_sem,seval,g1,g2,g3,g4,g5,w1,w2]|(apply aj.i<;>intro hc))
  exact tail _ aS aS
theorem d99 {x:Int}{y:Nat}(hx: -4000000000000000000≤x∧x≤4000000000000000000)(hy:0<y)(hy':y≤4000000000000000000):Gv E3 99 [.int .i64 x,.int .i64 y] h (.str (aX (bD x y))):=WQ (.inl ⟨rfl,rfl⟩) hx hy hy'
end
end
end Go.Ae
set_option exponentiation.threshold 1000
namespace Go.Ae
open Bg N Go.Proofs
noncomputable section
theorem M3 {b:UInt8}(h:fJ b=true):dg (dV b)=b:=by
 unfold fJ at h;have h:=of_decide_eq_true h;apply UInt8.toNat_inj.1;rw[rn];unfold dV;omega
theorem eN {l:List UInt8}(h:cK l=true):l≠[]∧bI l=true∧(l.headD 0≠48∨l=[48]):=by
 unfold cK at h;simp only[bz,xN,decide_eq_true_eq]at h;exact⟨h.1.1,h.1.2,h.2⟩
theorem zb {l:List UInt8}(h1:l≠[])(h2:bI l=true)(h3:l.headD 0≠48∨l=[48]):cK l=true:=by
 unfold cK;simp only[bz,xN,decide_eq_true_eq];exact⟨⟨h1,h2⟩,h3⟩
theorem DX:∀(n:Nat) {l:List UInt8},l.length=n→cK l=true→bn (bm l) 1=l:=by
 intro n
 induction n with
 |zero=>intro l hl h;obtain⟨h1,_⟩:=eN h;exact absurd (List.eq_nil_of_length_eq_zero hl) h1
 | succ n ih=>
  intro l hl h;obtain⟨h1,h2,h3⟩:=eN h
  obtain⟨m,y,rfl⟩:∃m y,l=m++[y]:=by
   rcases List.eq_nil_or_concat l with h'|⟨m,x,h'⟩
   ·exact absurd h' h1
   ·exact⟨m,x,by simpa using h'⟩
  have hy:fJ y=true:=by
   unfold bI at h2;exact(bV.1 h2) y (by simp)
  have hm:bI m=true:=by
   unfold bI at h2⊢;rw[List.all_append,bz]at h2;exact h2.1
  have hv:bm (m++[y])=bm m*10+dV y:=by
   rw[nJ];show bm m*10^1+ks 0 [y]=_;rw[oI,qz];omega
  have hyl:dV y<10:=by unfold dV;unfold fJ at hy;have:=of_decide_eq_true hy;omega
  rw[hv];match m,hm,h3,hl with
  | [],_,_,_=>
   rw[show bm []=0 from rfl,Nat.zero_mul,dd,jb hyl,M3 hy];rfl
  | c ::r,hm,h3,hl=>
   have hc:c≠48:=by
    rcases h3 with h3|h3
    ·simpa using h3
    ·exact absurd (congrArg List.length h3) (by simp)
   have hd:cK (c::r)=true:=zb (by simp) hm (Or.inl (by simpa using hc));have hl':(c::r).length=n:=by simpa using hl
   have e:=ih hl' hd
   have hp:0<bm (c::r):=by
    rcases aE (bm (c::r))with z|z
    ·rw[z,jb (by decide)]at e;have e1:dg 0=c:=by injection e
     have e2:dg 0=48:=by decide+kernel
     exact absurd (e1.symm.trans e2) hc
    ·exact z
   have ed:dg (bm (c::r)*10+dV y)=y:=(H0 (n:=bm (c::r)*10+dV y) (m:=dV y) (by omega)).trans (M3 hy);rw[qy (by omega),show(bm (c::r)*10+dV y)/10=bm (c::r) by omega,e,ed]
theorem lK {l:List UInt8}(h:cK l=true):bn (bm l) 1=l:=DX _ rfl h
theorem nh:∀{t:List UInt8},bR t<t.length→t=t.take (bR t)++47::t.drop (bR t+1):=by
 intro t
 induction t with
 |nil=>intro h;simp at h
 | cons b r ih=>
  intro h;by_cases hb:b=47
  ·subst hb;have:bR (47::r)=0:=by unfold bR;simp
   rw[this];rfl
  ·have e:bR (b::r)=bR r+1:=by
    unfold bR;rw[List.takeWhile_cons_of_pos (by simpa using hb),ap]
   rw[e]at h⊢;have h':=ih (by simpa using h)
   conv=>lhs;rw[h']
   rfl
def iC (s:List UInt8):List UInt8:=if s.head?=some 45 then s.drop 1 else s
def fz (s:List UInt8):List UInt8:=(iC s).take (bR (iC s))
def gT (s:List UInt8):List UInt8:=(iC s).drop (bR (iC s)+1)
def ve (s:List UInt8):Bool:=decide (bR (iC s)<(iC s).length)
def pc (s:List UInt8):Bool:=cK (fz s)&&(!(decide (s.head?=some 45))||decide (fz s≠[48]))&&(!(ve s)||(cK (gT s)&&decide (gT s≠[48])&&decide (gT s≠[49])))
def fm (s:List UInt8):Int:=
 if pc s=false then 1
 else if 600<(fz s).length∨600<(gT s).length then 4
 else if ve s=true∧eA (bm (fz s)) (bm (gT s))≠1 then 1 else 0
def oe (r:Rat):Bool:=decide (r.num.natAbs<10^600∧r.den<10^600)
theorem rR {s:List UInt8}(h:pc s=true):cK (fz s)=true∧(s.head?=some 45→fz s≠[48])∧(ve s=true→cK (gT s)=true∧gT s≠[48]∧gT s≠[49]):=by
 unfold pc at h;simp only[bz,xN,Bool.not_eq_true',decide_eq_true_eq,decide_eq_false_iff_not]at h;obtain⟨⟨a,b⟩,c⟩:=h;refine⟨a,fun e=>?_,fun e=>?_⟩
 ·rcases b with b|b
  ·exact absurd e b
  ·exact b
 ·rcases c with c|c
  ·rw[c]at e;cases e
  ·exact⟨c.1.1,c.1.2,c.2⟩
theorem Df {l:List UInt8}(h:cK l=true)(h0:l≠[48]):bm l≠0:=by
 intro e;have:=lK h;rw[e]at this;exact h0 (this.symm.trans (by decide+kernel))
theorem Kw {l:List UInt8}(h:cK l=true)(h0:l≠[49]):bm l≠1:=by
 intro e;have:=lK h;rw[e]at this;exact h0 (this.symm.trans (by decide+kernel))
theorem Nx (s:List UInt8):s=if s.head?=some 45 then 45::iC s else iC s:=by
 unfold iC;by_cases h:s.head?=some 45
 ·rw[if_pos h,if_pos h];match s,h with
  | c::r,h=>
   have:c=45:=by simpa using h
   rw[this];rfl
 ·rw[if_neg h,if_neg h]
theorem Eb {s:List UInt8}(h:pc s=true)(hg:ve s=true→eA (bm (fz s)) (bm (gT s))=1):
  ∃r:Rat,s=aX r∧r.num.natAbs=bm (fz s)∧r.den=(if ve s=true then bm (gT s)else 1):=by
 obtain⟨h1,h2,h3⟩:=rR h;have en:=lK h1
 have ez:∀{t:List UInt8},s=(if s.head?=some 45 then 45::(fz s++t)else fz s++t)→s=bB (iB (decide (s.head?=some 45)) (bm (fz s)))++t:=by
  intro t e;by_cases c:s.head?=some 45
  ·have h0:=Df h1 (h2 c);rw[if_pos c]at e;rw[decide_eq_true c]
   have:bB (iB true (bm (fz s)))=45::fz s:=by
    rw[show iB true (bm (fz s))= -(bm (fz s):Int) from rfl];unfold bB;rw[if_pos (by omega),sc,aw,en]
   rw[this];exact e
  ·rw[if_neg c]at e;rw[decide_eq_false c]
   have:bB (iB false (bm (fz s)))=fz s:=by
    rw[show iB false (bm (fz s))=(bm (fz s):Int) from rfl];unfold bB;rw[if_neg (by omega),aw,en]
   rw[this];exact e
 have hs:=Nx s
 have ha:(iB (decide (s.head?=some 45)) (bm (fz s))).natAbs=bm (fz s):=by
  unfold iB;split<;>omega
 by_cases c:ve s=true
 ·obtain⟨d1,d2,d3⟩:=h3 c;have hd0:=Df d1 d2;have hd1:=Kw d1 d3;refine⟨⟨iB (decide (s.head?=some 45)) (bm (fz s)),bm (gT s),hd0,?_⟩,?_,ha,by rw[if_pos c]⟩
  ·rw[ha];exact hg c
  ·have sp:=nh (t:=iC s) (by unfold ve at c;exact of_decide_eq_true c);have:iC s=fz s++47::gT s:=sp;rw[this]at hs;have:=ez hs;unfold aX;rw[if_neg hd1]
   have ed:bB ((bm (gT s):Nat):Int)=gT s:=by
    unfold bB;rw[if_neg (by omega),aw,lK d1]
   rw[ed];exact this
 ·refine⟨⟨iB (decide (s.head?=some 45)) (bm (fz s)),1,by decide,Nat.coprime_one_right _⟩,?_,ha,by rw[if_neg c]⟩
  have hk:bR (iC s)=(iC s).length:=by
   have:=jZ (iC s);have:¬bR (iC s)<(iC s).length:=fun e=>c (decide_eq_true e)
   omega
  have:iC s=fz s++[]:=by unfold fz;rw[hk,bj,iK]
  rw[this]at hs;have:=ez hs;rw[iK]at this;unfold aX;rw[if_pos rfl];exact this
theorem zQ {s:List UInt8}(h:fm s=0):∃r:Rat,s=aX r∧oe r=true:=by
 unfold fm at h;by_cases hf:pc s=false
 ·rw[if_pos hf]at h;exact absurd h (by decide)
 ·rw [if_neg hf]at h;have hf:pc s=true:=by simpa using hf
  by_cases hl:600<(fz s).length∨600<(gT s).length
  ·rw[if_pos hl]at h;exact absurd h (by decide)
  ·rw [if_neg hl]at h;by_cases hg:ve s=true∧eA (bm (fz s)) (bm (gT s))≠1
   ·rw[if_pos hg]at h;exact absurd h (by decide)
   ·obtain⟨r,e,e1,e2⟩:=Eb hf (fun b=>Classical.byContradiction fun c=>hg ⟨b,c⟩);obtain⟨h1,h2,h3⟩:=rR hf;refine⟨r,e,decide_eq_true ⟨?_,?_⟩⟩
    ·rw[e1];exact ah (iu (eN h1).2.1) (aT (by decide) (by omega))
    ·rw[e2];split
     ·rename_i hb;exact ah (iu (eN (h3 hb).1).2.1) (aT (by decide) (by omega))
     ·exact Nat.one_lt_pow (by decide) (by decide)
theorem zG (n:Nat)(t:List UInt8):(bn n 1++t).head?≠some 45:=by
 have hne:=mB n;have ha:=jE n 1;match hq:bn n 1,hne with
 | c ::l,_=>
  rw[hq]at ha
  have hc:fJ c=true:=by
   unfold bI at ha;exact(bV.1 ha) c (by simp)
  have h45:c≠45:=by rintro rfl;exact absurd hc (by decide)
  simpa using h45
theorem Ah (r:Rat):(gw r).head?≠some 45:=by
 unfold gw;split
 ·have:=zG r.num.natAbs [];rwa[iK]at this
 ·exact zG _ _
theorem nV (r:Rat):(aX r).head?=some 45↔r.num<0:=by
 rw[fR];by_cases c:r.num<0
 ·rw[if_pos c];simp[c]
 ·rw[if_neg c];exact⟨fun e=>absurd e (Ah r),fun e=>absurd e c⟩
theorem pY (r:Rat):iC (aX r)=gw r:=by
 unfold iC;by_cases c:r.num<0
 ·rw[if_pos ((nV r).2 c),fR,if_pos c];rfl
 ·rw[if_neg (fun e=>c ((nV r).1 e)),fR,if_neg c]
theorem ID (r:Rat):∃q:Rat,gw r=aX q∧q.num=r.num.natAbs∧q.den=r.den:=by
 refine⟨⟨r.num.natAbs,r.den,r.den_nz,by rw[aw];exact r.reduced⟩,?_,rfl,rfl⟩;unfold gw aX bB;simp only[aw];rw[if_neg (show ¬((r.num.natAbs:Nat):Int)<0 by omega)]
theorem nX (r:Rat):bR (gw r)=(bn r.num.natAbs 1).length:=by
 obtain⟨q,e,e1,e2⟩:=ID r;rw[e,jV,e1];unfold bB;rw[if_neg (by omega),aw]
theorem jY (n:Nat):bB (n:Int)=bn n 1:=by unfold bB;rw[if_neg (by omega),aw]
theorem GL (r:Rat):fz (aX r)=bn r.num.natAbs 1:=by
 unfold fz;rw[pY,nX];unfold gw;split
 ·rw[bj]
 ·rw[jh]
theorem H3 (r:Rat):gT (aX r)=if r.den=1 then[]else bn r.den 1:=by
 unfold gT;rw[pY,nX];unfold gw;split
 ·rw[List.drop_eq_nil_of_le (by omega)]
 ·rw[←eG,ii,jY];rfl
theorem KL (r:Rat):ve (aX r)=decide (r.den≠1):=by
 unfold ve;rw[pY,nX];apply decide_eq_decide.2;unfold gw;split
 ·rename_i h;simp[h]
 ·rename_i h;simp[h]
theorem jz {n k:Nat}(hk:1≤k):(bn n 1).length≤k↔n<10^k:=by
 constructor
 ·intro h;have:=iu (jE n 1);rw[lM]at this;exact ah this (aT (by decide) h)
 ·intro h;by_cases c:n=0
  ·subst c;rw[jb (by decide)];show 1≤k
   exact hk
  ·have:=iI (j:=k) (n:=n) (k:=0) h;rw[sH (by omega)]at this;exact this
theorem sG {n:Nat}:(bn n 1).length≤600↔n<10^600:=jz (by decide)
theorem Bi (r:Rat):tP (aX r)= !(oe r):=by
 have hk:=jV r;have hd:=den_pos r
 have e1:mj (aX r)=bB r.num:=by
  unfold mj;rw[hk];unfold aX;split
  ·rw[bj]
  ·rw[jh]
 have e2:oP (aX r)=bn r.den 1:=by
  unfold oP;rw[hk];unfold aX;split
  ·rename_i h;rw[if_pos rfl,h];decide+kernel
  ·rw[if_neg (by simp),←eG,ii,jY];rfl
 have e3:oR (bB r.num)=bn r.num.natAbs 1:=by
  have hz:bB r.num=aX (bD r.num 1):=by
   unfold aX;rw[(fB (p:=r.num)).2,(fB (p:=r.num)).1,if_pos rfl]
  have hs:=ta (bD r.num 1);rw[←hz,(fB (p:=r.num)).1]at hs;unfold oR;rw[hs];unfold bB;by_cases c:r.num<0
  ·rw[if_pos c,if_pos (by decide),if_pos c];rfl
  ·rw[if_neg c,if_neg (by split<;>decide),if_neg c]
 unfold tP;rw[e1,e2,e3];have hn:=sG (n:=r.num.natAbs);have hd:=sG (n:=r.den);unfold oe;by_cases c1:r.num.natAbs<10^600
 ·by_cases c2:r.den<10^600
  ·have a1:=hn.2 c1;have a2:=hd.2 c2;rw[decide_eq_false (by omega),decide_eq_false (by omega),decide_eq_true ⟨c1,c2⟩];rfl
  ·have a2:600<(bn r.den 1).length:=Nat.lt_of_not_le fun e=>c2 (hd.1 e)
   rw[decide_eq_true a2,decide_eq_false (p:=r.num.natAbs<10^600∧r.den<10^600) (fun e=>c2 e.2),Bool.or_true];rfl
 ·have a1:600<(bn r.num.natAbs 1).length:=Nat.lt_of_not_le fun e=>c1 (hn.1 e)
  rw[decide_eq_true a1,decide_eq_false (p:=r.num.natAbs<10^600∧r.den<10^600) (fun e=>c1 e.1),Bool.true_or];rfl
end
end Go.Ae
namespace Go.Ae
open Bg N Go.Proofs
noncomputable section
section
variable {h h' hp:Hp}{K:AV→Hp→Prop}{tm:T AV}{r a b:Rat}
def UC (r:Rat):Bool:=decide (r.num.natAbs<1000000000∧r.den<1000000000)
def qR (r:Rat):AV:=if UC r=true then .fO [.int .i64 r.num,.int .i64 (r.den:Int),.bool true]else .fO [.int .i64 0,.int .i64 0,.bool false]
theorem iZ {r:Rat}(h:¬(r.num.natAbs<1000000000∧r.den<1000000000)):qR r= .fO [.int .i64 0,.int .i64 0,.bool false]:=by
 unfold qR UC;rw[decide_eq_false h,if_neg (by decide)]
theorem iQ {r:Rat}(h:r.num.natAbs<1000000000∧r.den<1000000000):qR r= .fO [.int .i64 r.num,.int .i64 (r.den:Int),.bool true]:=by
 unfold qR UC;rw[decide_eq_true h,if_pos rfl]
theorem su {n:Nat}(l1:Lr n r.num)(l2:Lr n (r.den:Int)):(aX r).length≤18*n+5∧(gw r).length≤18*n+5:=by
 have t1:=iD l1;have t2:=iD l2
 have e:(gw r).length≤(aX r).length:=by
  rw[fR];split
  ·rw[ap];omega
  ·exact ae _
 have:(aX r).length≤18*n+5:=by
  unfold aX;split
  ·omega
  ·rw[ar,ap];omega
 omega
theorem AR (h5:val tm (.t 5)= .str (gw r))(h6:val tm (.t 6)= .bool (decide (r.num<0)))(hl:(gw r).length≤200000):
  Wp E3 (R.a168.code.post 5) ⟨tm,h⟩ (gy [.tmp 2,.tmp 3,.tmp 4] fun v h'=>v=qR r∧h'=h):=by
 have hs:=nX r;have n9:=jz (k:=9) (n:=r.num.natAbs) (by decide);have d9:=jz (k:=9) (n:=r.den) (by decide);rw[show(10:Nat)^9=1000000000 from rfl]at n9 d9;have hv:=lM r.num.natAbs 1;have hvd:=lM r.den 1;have hd0:=den_pos r;have cs:=fun{h:Hp} {K:AV→Hp→Prop}=>zZ (h:=h) (K:=K) (s:=gw r) (by omega)
 have e00:(0:Int).toNat=0:=rfl;unfold R.a168;dsimp only[au.post];by_cases c1:(bn r.num.natAbs 1).length≤9
 ·have hn:=n9.1 c1;have c1':¬(9:Int)<((bn r.num.natAbs 1).length:Int):=by omega
  have cn:=fun{h:Hp} {K:AV→Hp→Prop}=>Je (h:=h) (K:=K) (s:=bn r.num.natAbs 1) (jE _ _) (by omega)
  have wn:r.num<0→IntKind.wrap .i64 (0-(r.num.natAbs:Int))=r.num:=fun e=>by
   rw[show 0-(r.num.natAbs:Int)=r.num by omega];exact wrap_i64 (by omega)
  have wp:¬r.num<0→(r.num.natAbs:Int)=r.num:=fun e=>by omega
  by_cases c2:r.den=1
  ·have ea:gw r=bn r.num.natAbs 1:=if_pos c2;have hq:=iQ (r:=r) ⟨hn,by omega⟩;rw[c2]at hq;rw[ea]at h5 hs cs;have tk:fH (bn r.num.natAbs 1).length (bn r.num.natAbs 1)=bn r.num.natAbs 1:=bj;rw[hq];by_cases c3:r.num<0
   ·have wn:=wn c3;rw[decide_eq_true c3]at h6;repeat'(with_reducible first|simp(disch:=try exact ab) only[go_sem,seval,h5,h6,cs,hs,c1',cn,tk,hv,wn,fY,Int.sub_self]|(apply aj.i<;>intro hc))
   ·have wp:=wp c3;rw[decide_eq_false c3]at h6;repeat'(with_reducible first|simp(disch:=try exact ab) only[go_sem,seval,h5,h6,cs,hs,c1',cn,tk,hv,fY,Int.sub_self]|(apply aj.i<;>intro hc))
    rw[wp]
  ·have ea:gw r=bn r.num.natAbs 1++47::bn r.den 1:=by rw[←jY];exact if_neg c2
   have hlen:(gw r).length=(bn r.num.natAbs 1).length+((bn r.den 1).length+1):=by rw[ea];simp
   have tk:fH (bn r.num.natAbs 1).length (gw r)=bn r.num.natAbs 1:=by rw[ea];exact jh
   have e1:(((bn r.num.natAbs 1).length:Int)+1).toNat=(bn r.num.natAbs 1).length+1:=by omega
   have dk:gJ ((bn r.num.natAbs 1).length+1) (gw r)=bn r.den 1:=by
    rw[ea,←eG,ii];rfl
   by_cases c4:(bn r.den 1).length≤9
   ·have hd:=d9.1 c4;have hq:=iQ (r:=r) ⟨hn,hd⟩;have cd:=fun{h:Hp} {K:AV→Hp→Prop}=>Je (h:=h) (K:=K) (s:=bn r.den 1) (jE _ _) (by omega)
    have c4':¬(10:Int)<(gw r).length-((bn r.num.natAbs 1).length:Int):=by omega
    have c5:((bn r.num.natAbs 1).length:Int)<(gw r).length:=by omega
    rw[hq];by_cases c3:r.num<0
    ·have wn:=wn c3;rw[decide_eq_true c3]at h6;repeat'(with_reducible first|simp(disch:=try exact ab) only[go_sem,seval,h5,h6,cs,hs,c1',cn,tk,hv,wn,e1,dk,cd,hvd,c4',c5]|(apply aj.i<;>intro hc))
    ·have wp:=wp c3;rw[decide_eq_false c3]at h6;repeat'(with_reducible first|simp(disch:=try exact ab) only[go_sem,seval,h5,h6,cs,hs,c1',cn,tk,hv,e1,dk,cd,hvd,c4',c5]|(apply aj.i<;>intro hc))
     rw[wp]
   ·have hq:=iZ (r:=r) (by have:=mt d9.2 c4;omega);have c4':(10:Int)<(gw r).length-((bn r.num.natAbs 1).length:Int):=by omega
    rw[hq];repeat'(with_reducible first|simp(disch:=try exact ab) only[go_sem,seval,h5,h6,cs,hs,c1',c4']|(apply aj.i<;>intro hc))
 ·have hq:=iZ (r:=r) (by have:=mt n9.2 c1;omega);have c1':(9:Int)<((bn r.num.natAbs 1).length:Int):=by omega
  rw[hq];repeat'(with_reducible first|simp(disch:=try exact ab) only[go_sem,seval,h5,h6,cs,hs,c1']|(apply aj.i<;>intro hc))
theorem Jd (l1:Lr 9000 r.num)(l2:Lr 9000 (r.den:Int)):ac E3 168 [.str (aX r)] h K↔K (qR r) h:=by
 obtain⟨t1,t2⟩:=su l1 l2;have tail:=fun tm h5 h6=>AR (h:=h) (tm:=tm) (r:=r) h5 h6 (by omega)
 have n9:=jz (k:=9) (n:=r.num.natAbs) (by decide);have d9:=jz (k:=9) (n:=r.den) (by decide);rw[show(10:Nat)^9=1000000000 from rfl]at n9 d9;refine ac.cZ (ac.fn (fn:=R.a168) rfl rfl rfl ?_);refine Wp.cut 5 rfl ?_;generalize au.post 5 R.a168.code=q at tail⊢
 unfold R.a168;dsimp only[au.pre]
 have hl0:(0:Int)<(aX r).length:=by
  have:=mB r.num.natAbs;have:0<(bn r.num.natAbs 1).length:=fV.2 this
  have:0<(gw r).length:=by
   unfold gw;split
   ·omega
   ·rw[ar];omega
  rw[fR];split
  ·rw[ap];omega
  ·omega
 by_cases c0:20<(aX r).length
 ·have c0':(20:Int)<(aX r).length:=by omega
  have hq:=iZ (r:=r) (fun e=>by
   have a1:=n9.2 e.1;have a2:=d9.2 e.2
   have a3:(gw r).length≤19:=by
    unfold gw;split
    ·omega
    ·rw[ar,ap,jY];omega
   rw[fR]at c0;split at c0
   ·rw[ap]at c0;omega
   ·omega)
  rw[hq];repeat'(with_reducible first|simp(disch:=try exact ab) only[go_sem,seval,c0']|(apply aj.i<;>intro hc))
 ·have c0':¬(20:Int)<(aX r).length:=by omega
  by_cases c3:r.num<0
  ·have et:aX r=45::gw r:=by rw[fR,if_pos c3]
   have e0:((aX r).getD 0 0).toNat=45:=by rw[et];rfl
   have e0':(((aX r).getD 0 0).toNat:Int)=45:=by rw[e0];rfl
   have e1:(aX r).drop 1=gw r:=by rw[et];rfl
   have hl1:(1:Int)≤(aX r).length:=by omega
   repeat'(with_reducible first|simp(disch:=try exact ab) only[go_sem,seval,c0',hl0,e0',e1,hl1]|(apply aj.i<;>intro hc))
   exact tail _ aS (by(simp(disch:=try exact ab) only[go_sem,seval,decide_eq_true c3])<;>rfl)
  ·have et:aX r=gw r:=by rw[fR,if_neg c3]
   have e0':¬(((aX r).getD 0 0).toNat:Int)=45:=by
    intro e;have h1:=(qL (b:=(aX r).getD 0 0) (n:=45) (by decide)).1 e;apply Ah r;rw[←et];match hq:aX r,hl0 with
    |c::l,_=>rw[hq]at h1;simpa using h1
   repeat'(with_reducible first|simp(disch:=try exact ab) only[go_sem,seval,c0',hl0,e0']|(apply aj.i<;>intro hc))
   exact tail _ (by(simp(disch:=try exact ab) only[go_sem,seval])<;>exact congrArg _ et) (by(simp(disch:=try exact ab) only[go_sem,seval,decide_eq_false c3])<;>rfl)
end
end
end Go.Ae
set_option maxHeartbeats 2000000
namespace Go.Ae
open Bg N Go.Proofs
noncomputable section
def Br (n:Nat)(r:Rat):Prop:=Lr n r.num∧Lr n (r.den:Int)
section
variable {n m:Nat}{a b:Rat}
theorem Br.mono (i:Br n a)(hn:n≤m):Br m a:=⟨i.1.mono hn,i.2.mono hn⟩
theorem Br.of {p q:Int}(hq:q≠0)(hp:Lr n p)(hl:Lr n q):Br n (bD p q):=by
 obtain⟨h1,h2⟩:=rk (p:=p) hq;exact⟨hp.le h1,hl.le (by rw[aw];exact h2)⟩
theorem Br.mul (i:Br n a)(j:Br m b):Br (n+m) (a*b):=by
 have h1:=den_pos a;have h2:=den_pos b;rw[FX];exact Br.of (iP (by omega) (by omega)) (i.1.mul j.1) (i.2.mul j.2)
theorem Br.add (i:Br n a)(j:Br m b):Br (n+m+1) (a+b):=by
 have h1:=den_pos a;have h2:=den_pos b;rw[DL];exact Br.of (iP (by omega) (by omega)) ((i.1.mul j.2).add ((j.1.mul i.2).mono (by omega))) ((i.2.mul j.2).mono (by omega))
theorem Br.neg (i:Br n a):Br n (-a):=⟨i.1.neg,i.2⟩
theorem Br.sub (i:Br n a)(j:Br m b):Br (n+m+1) (a-b):=by rw[Rat.sub_eq_add_neg];exact i.add j.neg
theorem Br.inv (i:Br n a)(h0:a≠0):Br n a⁻¹:=by
 rw[Rat.inv_def];exact Br.of (by rw[ne_eq,jM];exact h0) i.2 i.1
end
section
variable {h h' hp:Hp}{K:AV→Hp→Prop}{tm:T AV}{r a b:Rat}
theorem ke {x y:Int}(hx:x.natAbs<1000000000)(hy:y.natAbs<1000000000): -1000000000000000000≤x*y∧x*y≤1000000000000000000:=by
 have h:=fu x y;have:x.natAbs*y.natAbs≤1000000000*1000000000:=Nat.mul_le_mul (by omega) (by omega);omega
theorem Jz (i:Br 2000 a)(j:Br 2000 b)(h0:val tm (.t 0)= .str (aX a))(h1:val tm (.t 1)= .str (aX b)):
  Wp E3 (R.a72.code.post 4) ⟨tm,h⟩ (gy [.tmp 4] fun v h'=>v= .str (aX (a+b))∧aH h h'):=by
 have hd1:=den_pos a;have hd2:=den_pos b;unfold R.a72;dsimp only[au.post];repeat'(with_reducible first|simp(disch:=try exact ab) only[go_sem,seval,h0,h1]|(apply aj.i<;>intro hc))
 refine Gp.wp (d124 (i.1.mono (by decide)) (i.2.mono (by decide))) fun v5 k5 a5 b5 u5 ⟨va,vb,e5,I5,I6⟩=>?_
 subst e5;obtain⟨w5,rfl,p5,I5⟩:=I5.ex;obtain⟨w6,rfl,p6,I6⟩:=I6.ex;repeat'(with_reducible first|simp(disch:=try exact ab) only[go_sem,seval,h0,h1,p5,p6]|(apply aj.i<;>intro hc))
 refine Gp.wp (d124 (j.1.mono (by decide)) (j.2.mono (by decide))) fun v7 k7 a7 b7 u7 ⟨va,vb,e7,I7,I8⟩=>?_
 subst e7;obtain⟨w7,rfl,p7,I7⟩:=I7.ex;obtain⟨w8,rfl,p8,I8⟩:=I8.ex;repeat'(with_reducible first|simp(disch:=try exact ab) only[go_sem,seval,h0,h1,p5,p6,p7,p8]|(apply aj.i<;>intro hc))
 refine Gp.wp (d171 (I5.aO aL) (I8.aO aL) (i.1.mono (by decide)) (j.2.mono (by decide))) fun v9 k9 a9 b9 u9 I9=>?_
 obtain⟨w9,rfl,p9,I9⟩:=I9.ex;repeat'(with_reducible first|simp(disch:=try exact ab) only[go_sem,seval,h0,h1,p5,p6,p7,p8,p9]|(apply aj.i<;>intro hc))
 refine Gp.wp (d171 (I7.aO aL) (I6.aO aL) (j.1.mono (by decide)) (i.2.mono (by decide))) fun v10 k10 a10 b10 u10 I10=>?_
 obtain⟨w10,rfl,p10,I10⟩:=I10.ex;repeat'(with_reducible first|simp(disch:=try exact ab) only[go_sem,seval,h0,h1,p5,p6,p7,p8,p9,p10]|(apply aj.i<;>intro hc))
 refine Gp.wp (d170 (I9.aO aL) I10 ((i.1.mul j.2).mono (by decide)) ((j.1.mul i.2).mono (by decide))) fun v11 k11 a11 b11 u11 I11=>?_
 obtain⟨w11,rfl,p11,I11⟩:=I11.ex;repeat'(with_reducible first|simp(disch:=try exact ab) only[go_sem,seval,h0,h1,p5,p6,p7,p8,p9,p10,p11]|(apply aj.i<;>intro hc))
 refine Gp.wp (d171 (I6.aO aL) (I8.aO aL) (i.2.mono (by decide)) (j.2.mono (by decide))) fun v12 k12 a12 b12 u12 I12=>?_
 obtain⟨w12,rfl,p12,I12⟩:=I12.ex;repeat'(with_reducible first|simp(disch:=try exact ab) only[go_sem,seval,h0,h1,p5,p6,p7,p8,p9,p10,p11,p12]|(apply aj.i<;>intro hc))
 refine Gv.wp (d169 (I11.aO aL) I12 (((i.1.mul j.2).add (j.1.mul i.2)).mono (by decide)) ((i.2.mul j.2).mono (by decide)) (iP (by omega) (by omega))) fun h13 gk VE u13=>?_
 repeat'(with_reducible first|simp(disch:=try exact ab) only[go_sem,seval]|(apply aj.i<;>intro hc))
 refine⟨by rw[DL],?_⟩;exact aL
theorem d72 (i:Br 2000 a)(j:Br 2000 b):Gv E3 72 [.str (aX a),.str (aX b)] h (.str (aX (a+b))):=by
 refine Gv.of (ac.fn (fn:=R.a72) rfl rfl rfl ?_);have hd1:=den_pos a;have hd2:=den_pos b;have slow:=fun tm h0 h1=>Jz (h:=h) (tm:=tm) i j h0 h1
 have cq1:=fun{h:Hp} {K:AV→Hp→Prop}=>Jd (h:=h) (K:=K) (r:=a) (i.1.mono (by decide)) (i.2.mono (by decide))
 have cq2:=fun{h:Hp} {K:AV→Hp→Prop}=>Jd (h:=h) (K:=K) (r:=b) (j.1.mono (by decide)) (j.2.mono (by decide))
 refine Wp.cut 4 rfl ?_;generalize au.post 4 R.a72.code=q at slow⊢
 unfold R.a72;dsimp only[au.pre];by_cases s1:a.num.natAbs<1000000000∧a.den<1000000000
 ·rw[iQ s1]at cq1;by_cases s2:b.num.natAbs<1000000000∧b.den<1000000000
  ·rw[iQ s2]at cq2;have m1:=ke (x:=a.num) (y:=(b.den:Int)) s1.1 (by omega);have m2:=ke (x:=b.num) (y:=(a.den:Int)) s2.1 (by omega);have m3:=ke (x:=(a.den:Int)) (y:=(b.den:Int)) (by omega) (by omega);have m0:0<a.den*b.den:=eY hd1 hd2;have er:=DL a b;rw[←ce]at m3 er;have w1:IntKind.wrap .i64 (a.num*(b.den:Int))=a.num*b.den:=wrap_i64 (by omega)
   have w2:IntKind.wrap .i64 (b.num*(a.den:Int))=b.num*a.den:=wrap_i64 (by omega);have w3:IntKind.wrap .i64 ((a.den:Int)*(b.den:Int))=((a.den*b.den:Nat):Int):=by rw[←ce];exact wrap_i64 (by omega)
   have w4:IntKind.wrap .i64 (a.num*(b.den:Int)+b.num*(a.den:Int))=a.num*b.den+b.num*a.den:=wrap_i64 (by omega);have e3:=d99 (h:=h) (x:=a.num*b.den+b.num*a.den) (y:=a.den*b.den) (by omega) m0 (by omega);rw[←er]at e3;repeat'(with_reducible first|simp(disch:=try exact ab) only[go_sem,seval,cq1,cq2,w1,w2,w3,w4]|(refine Gv.wp (e3) fun _ _ _ _=>?_)|(apply aj.i<;>intro hc))
   exact aL
  ·rw[iZ s2]at cq2;repeat'(with_reducible first|simp(disch:=try exact ab) only[go_sem,seval,cq1,cq2]|(apply aj.i<;>intro hc))
   exact slow _ aS aS
 ·rw[iZ s1]at cq1;by_cases s2:b.num.natAbs<1000000000∧b.den<1000000000
  ·rw[iQ s2]at cq2;repeat'(with_reducible first|simp(disch:=try exact ab) only[go_sem,seval,cq1,cq2]|(apply aj.i<;>intro hc))
   exact slow _ aS aS
  ·rw[iZ s2]at cq2;repeat'(with_reducible first|simp(disch:=try exact ab) only[go_sem,seval,cq1,cq2]|(apply aj.i<;>intro hc))
   exact slow _ aS aS
theorem d73 (i:Br 2000 a)(j:Br 2000 b):Gv E3 73 [.str (aX a),.str (aX b)] h (.str (aX (a-b))):=by
 refine Gv.of (ac.fn (fn:=R.Ub) rfl rfl rfl ?_);unfold R.Ub;rw[Rat.sub_eq_add_neg];repeat'(with_reducible first|simp(disch:=try exact ab) only[go_sem,seval]|(apply aj.i<;>intro hc))
 refine Gv.wp (d172 (j.1.mono (by decide)) (j.2.mono (by decide))) fun h1 k1 j1 u1=>?_
 repeat'(with_reducible first|simp(disch:=try exact ab) only[go_sem,seval]|(apply aj.i<;>intro hc))
 refine Gv.wp (d72 i j.neg) fun h2 k2 j2 u2=>?_
 repeat'(with_reducible first|simp(disch:=try exact ab) only[go_sem,seval]|(apply aj.i<;>intro hc))
 exact aL
theorem Jy (i:Br 2000 a)(j:Br 2000 b)(h0:val tm (.t 0)= .str (aX a))(h1:val tm (.t 1)= .str (aX b)):
  Wp E3 (R.Pt.code.post 4) ⟨tm,h⟩ (gy [.tmp 4] fun v h'=>v= .str (aX (a*b))∧aH h h'):=by
 have hd1:=den_pos a;have hd2:=den_pos b;unfold R.Pt;dsimp only[au.post];repeat'(with_reducible first|simp(disch:=try exact ab) only[go_sem,seval,h0,h1]|(apply aj.i<;>intro hc))
 refine Gp.wp (d124 (i.1.mono (by decide)) (i.2.mono (by decide))) fun v5 k5 a5 b5 u5 ⟨va,vb,e5,I5,I6⟩=>?_
 subst e5;obtain⟨w5,rfl,p5,I5⟩:=I5.ex;obtain⟨w6,rfl,p6,I6⟩:=I6.ex;repeat'(with_reducible first|simp(disch:=try exact ab) only[go_sem,seval,h0,h1,p5,p6]|(apply aj.i<;>intro hc))
 refine Gp.wp (d124 (j.1.mono (by decide)) (j.2.mono (by decide))) fun v7 k7 a7 b7 u7 ⟨va,vb,e7,I7,I8⟩=>?_
 subst e7;obtain⟨w7,rfl,p7,I7⟩:=I7.ex;obtain⟨w8,rfl,p8,I8⟩:=I8.ex;repeat'(with_reducible first|simp(disch:=try exact ab) only[go_sem,seval,h0,h1,p5,p6,p7,p8]|(apply aj.i<;>intro hc))
 refine Gp.wp (d171 (I5.aO aL) (I7.aO aL) (i.1.mono (by decide)) (j.1.mono (by decide))) fun v9 k9 a9 b9 u9 I9=>?_
 obtain⟨w9,rfl,p9,I9⟩:=I9.ex;repeat'(with_reducible first|simp(disch:=try exact ab) only[go_sem,seval,h0,h1,p5,p6,p7,p8,p9]|(apply aj.i<;>intro hc))
 refine Gp.wp (d171 (I6.aO aL) (I8.aO aL) (i.2.mono (by decide)) (j.2.mono (by decide))) fun v12 k12 a12 b12 u12 I12=>?_
 obtain⟨w12,rfl,p12,I12⟩:=I12.ex;repeat'(with_reducible first|simp(disch:=try exact ab) only[go_sem,seval,h0,h1,p5,p6,p7,p8,p9,p12]|(apply aj.i<;>intro hc))
 refine Gv.wp (d169 (I9.aO aL) I12 ((i.1.mul j.1).mono (by decide)) ((i.2.mul j.2).mono (by decide)) (iP (by omega) (by omega))) fun h13 gk VE u13=>?_
 repeat'(with_reducible first|simp(disch:=try exact ab) only[go_sem,seval]|(apply aj.i<;>intro hc))
 refine⟨by rw[FX],?_⟩;exact aL
theorem d74 (i:Br 2000 a)(j:Br 2000 b):Gv E3 74 [.str (aX a),.str (aX b)] h (.str (aX (a*b))):=by
 refine Gv.of (ac.fn (fn:=R.Pt) rfl rfl rfl ?_);have hd1:=den_pos a;have hd2:=den_pos b;have slow:=fun tm h0 h1=>Jy (h:=h) (tm:=tm) i j h0 h1
 have cq1:=fun{h:Hp} {K:AV→Hp→Prop}=>Jd (h:=h) (K:=K) (r:=a) (i.1.mono (by decide)) (i.2.mono (by decide))
 have cq2:=fun{h:Hp} {K:AV→Hp→Prop}=>Jd (h:=h) (K:=K) (r:=b) (j.1.mono (by decide)) (j.2.mono (by decide))
 refine Wp.cut 4 rfl ?_;generalize au.post 4 R.Pt.code=q at slow⊢
 unfold R.Pt;dsimp only[au.pre];by_cases s1:a.num.natAbs<1000000000∧a.den<1000000000
 ·rw[iQ s1]at cq1;by_cases s2:b.num.natAbs<1000000000∧b.den<1000000000
  ·rw[iQ s2]at cq2;have m1:=ke (x:=a.num) (y:=b.num) s1.1 s2.1;have m3:=ke (x:=(a.den:Int)) (y:=(b.den:Int)) (by omega) (by omega);have m0:0<a.den*b.den:=eY hd1 hd2;have er:=FX a b;rw[←ce]at m3 er;have w1:IntKind.wrap .i64 (a.num*b.num)=a.num*b.num:=wrap_i64 (by omega);have w3:IntKind.wrap .i64 ((a.den:Int)*(b.den:Int))=((a.den*b.den:Nat):Int):=by rw[←ce];exact wrap_i64 (by omega)
   have e3:=d99 (h:=h) (x:=a.num*b.num) (y:=a.den*b.den) (by omega) m0 (by omega);rw[←er]at e3;repeat'(with_reducible first|simp(disch:=try exact ab) only[go_sem,seval,cq1,cq2,w1,w3]|(refine Gv.wp (e3) fun _ _ _ _=>?_)|(apply aj.i<;>intro hc))
   exact aL
  ·rw[iZ s2]at cq2;repeat'(with_reducible first|simp(disch:=try exact ab) only[go_sem,seval,cq1,cq2]|(apply aj.i<;>intro hc))
   exact slow _ aS aS
 ·rw[iZ s1]at cq1;by_cases s2:b.num.natAbs<1000000000∧b.den<1000000000
  ·rw[iQ s2]at cq2;repeat'(with_reducible first|simp(disch:=try exact ab) only[go_sem,seval,cq1,cq2]|(apply aj.i<;>intro hc))
   exact slow _ aS aS
  ·rw[iZ s2]at cq2;repeat'(with_reducible first|simp(disch:=try exact ab) only[go_sem,seval,cq1,cq2]|(apply aj.i<;>intro hc))
   exact slow _ aS aS
end
end
end Go.Ae
namespace Go.Ae
open Bg N Go.Proofs
noncomputable section
section
variable {h h' hp:Hp}{K:AV→Hp→Prop}{tm:T AV}{r a b:Rat}
theorem Uz {s:List UInt8}(hs:s.length≤1000000):ac E3 151 [.str s] h K↔K (.bool (bI s)) h:=up MT fun K=>W7 hs
theorem za {s:List UInt8}(h0:s≠[])(h1:s.length=1∨s.headD 0≠48):cK s=bI s:=by
 cases ha:bI s with
 | true=>
  refine zb h0 ha ?_;rcases h1 with h1|h1
  ·match s,h1 with
   | [c],_=>
    by_cases hc:c=48
    ·exact .inr (by rw[hc])
    ·exact .inl (by simpa using hc)
  ·exact .inl h1
 |false=>unfold cK;rw[ha];simp
theorem Hc {s:List UInt8}(h1:1<s.length)(h2:s.headD 0=48):cK s=false:=by
 cases hd:cK s with
 |false=>rfl
 | true=>
  rcases(eN hd).2.2 with e|e
  ·exact absurd h2 e
  ·rw[e]at h1;exact absurd h1 (by decide)
theorem Nz {s:List UInt8}(hs:s.length≤1000000):ac E3 123 [.str s] h K↔K (.bool (cK s)) h:=by
 refine ac.cZ (ac.fn (fn:=R.LP) rfl rfl rfl ?_);unfold R.LP;have cd:=fun{h:Hp} {K:AV→Hp→Prop}=>Uz (h:=h) (K:=K) hs
 by_cases h0:s=[]
 ·subst h0;have e0:cK []=false:=by decide
  rw[e0];repeat'(with_reducible first|simp(disch:=try exact ab) only[go_sem,seval,aK]|(apply aj.i<;>intro hc))
 ·have hl:0<s.length:=fV.2 h0;have hl0:¬(s.length:Int)=0:=by omega
  have eh:s.getD 0 0=s.headD 0:=by cases s<;>rfl
  by_cases h1:1<s.length
  ·have h1':(1:Int)<s.length:=by omega
   have hl':(0:Int)<s.length:=by omega
   have e1:((s.getD 0 0).toNat:Int)=48↔s.getD 0 0=48:=qL (n:=48) (by decide);by_cases h2:s.getD 0 0=48
   ·have h2':=e1.2 h2;rw[Hc h1 (by rw[←eh];exact h2)];repeat'(with_reducible first|simp(disch:=try exact ab) only[go_sem,seval,hl0,h1',hl',h2']|(apply aj.i<;>intro hc))
   ·have h2':=fun e=>h2 (e1.1 e)
    rw[za h0 (.inr (by rw[←eh];exact h2))];repeat'(with_reducible first|simp(disch:=try exact ab) only[go_sem,seval,hl0,h1',hl',h2',cd]|(apply aj.i<;>intro hc))
  ·have h1':¬(1:Int)<s.length:=by omega
   rw[za h0 (.inl (by omega))];repeat'(with_reducible first|simp(disch:=try exact ab) only[go_sem,seval,hl0,h1',cd]|(apply aj.i<;>intro hc))
theorem Si {x y:Int}(l1:Lr 9000 x)(l2:Lr 9000 y):Gp E3 124 [.str (bB x++47::bB y)] h fun v h'=>∃va vb,v= .fO [va,vb]∧oS h' va x∧oS h' vb y:=by
 refine Gp.of (ac.fn (fn:=R.a124) rfl rfl rfl ?_);unfold R.a124;have t1:=iD l1;have t2:=iD l2
 have hsl:bR (bB x++47::bB y)=(bB x).length:=by
  refine sX (by simp) (fun j hj e=>?_) ?_
  ·refine wK x (tW (i:=j) hj ?_);rw[←e];simp only[bQ];rw[cB hj]
  ·simp[bQ]
 have hlen:(bB x++47::bB y).length=(bB x).length+((bB y).length+1):=by simp
 have cs:=fun{h:Hp} {K:AV→Hp→Prop}=>zZ (h:=h) (K:=K) (s:=bB x++47::bB y) (by omega)
 have hne:¬((bB x).length:Int)=((bB x).length+((bB y).length+1):Nat):=by omega
 have k1:fH (bB x).length (bB x++47::bB y)=bB x:=jh;have e1:(((bB x).length:Int)+1).toNat=(bB x).length+1:=by omega
 have k2:gJ ((bB x).length+1) (bB x++47::bB y)=bB y:=by
  rw[←eG,ii];rfl
 repeat'(with_reducible first|simp(disch:=try exact ab) only[go_sem,seval,cs,hsl,hne,k1,e1,k2]|(apply aj.i<;>intro hc))
 refine Gp.wp (zJ l1 (by decide)) fun v5 k5 a5 b5 u5 I5=>?_
 obtain⟨w5,rfl,p5,I5⟩:=I5.ex;repeat'(with_reducible first|simp(disch:=try exact ab) only[go_sem,seval,p5,k1,e1,k2]|(apply aj.i<;>intro hc))
 refine Gp.wp (zJ l2 (by decide)) fun v6 k6 a6 b6 u6 I6=>?_
 obtain⟨w6,rfl,p6,I6⟩:=I6.ex;have I5':=I5.aO (⟨_,_,u6⟩:aH _ ((((h.push fun st=> .row [.bool false,.aq] true st).push fun st=> .row [.bool false,.aq] true st).ov k5 u5).ov k6 u6));repeat'(with_reducible first|simp(disch:=try exact ab) only[go_sem,seval,p5,p6]|(apply aj.i<;>intro hc))
 refine⟨⟨_,_,rfl,?_,?_⟩,?_⟩
 ·exact(I5'.jI (by simp(disch:=try exact ab) only[go_sem,seval,bU])).jI (by simp(disch:=try exact ab) only[go_sem,seval,bU])
 ·exact(I6.jI (by simp(disch:=try exact ab) only[go_sem,seval,bU])).jI (by simp(disch:=try exact ab) only[go_sem,seval,bU])
 ·exact aL
theorem II {l:List UInt8}(hd:cK l=true)(hl:l.length≤600):Lr 67 (bm l:Nat):=by
 unfold Lr;rw[aw];have h1:=iu (eN hd).2.1;have h2:(10:Nat)^l.length≤10^603:=aT (by decide) (by omega);have h3:(10:Nat)^603=1000000000^67:=by rw[show(1000000000:Nat)=10^9 from rfl,←mH]
 omega
theorem JO (s:List UInt8):(fz s).length=bR (iC s):=by
 have:=jZ (iC s);unfold fz;rw[az];omega
theorem Ku (s:List UInt8):(gT s).length=(iC s).length-(bR (iC s)+1):=by
 unfold gT;rw[bP]
theorem Ic {N D t:List UInt8}{k:Nat}{bk:Bool}(h3:val tm (.t 3)= .str t)(h4:val tm (.t 4)= .int .i64 k)(hl:t.length≤1000000)(hk:k≤t.length)(nl:N.length=k)(dl:D.length=t.length-(k+1))
  (k2:gJ (k+1) t=D) (ebrk:bk=decide (k<t.length)) (hsp:bk=true→t=N++47::D) (hdn:cK N=true):
  Wp E3 (au.post 2 (au.post 3 R.IT.code)) ⟨tm,h⟩ (gy [.tmp 2] fun v h'=>(v= .int .i64 (if(true&&true&&(!bk||(cK D&&decide (D≠[48])&&decide (D≠[49]))))=false then 1 else if 600<N.length∨600<D.length then 4 else if bk=true∧eA (bm N) (bm D)≠1 then 1 else 0))∧aH h h'):=by
 have e1:((k:Int)+1).toNat=k+1:=by omega
 have cd:=fun{h:Hp} {K:AV→Hp→Prop}=>Nz (h:=h) (K:=K) (s:=D) (by omega)
 subst ebrk;unfold R.IT;dsimp only[au.post];by_cases hb:k<t.length
 ·have hb' : (k :Int)<t.length:=by omega
  have hb1:(k:Int)+1≤t.length:=by omega
  rw[decide_eq_true hb];cases hdd:cK D with
  | false=>
   rw[hdd]at cd;repeat'(with_reducible first|simp(disch:=try exact ab) only[go_sem,seval,h3,h4,hb',hb1,e1,k2,cd]|(apply aj.i<;>intro hc))
   simp
  | true=>
   rw[hdd]at cd;by_cases g0:D=[48]
   ·rw[g0]at cd;repeat'(with_reducible first|simp(disch:=try exact ab) only[go_sem,seval,h3,h4,hb',hb1,e1,k2,cd,g0]|(apply aj.i<;>intro hc))
    simp
   ·by_cases g1:D=[49]
    ·have g1':¬([49]:List UInt8)=[48]:=by decide
     rw[g1]at g0 cd;repeat'(with_reducible first|simp(disch:=try exact ab) only[go_sem,seval,h3,h4,hb',hb1,e1,k2,cd,g1,g0]|(apply aj.i<;>intro hc))
     simp
    ·have ef :(true&&true&&(!true||(true&&decide (D≠[48])&&decide (D≠[49]))))=true:=by simp[g0,g1]
     rw[ef,if_neg (by decide)];by_cases hL:600<N.length∨600<D.length
     ·rw[if_pos hL];by_cases hLn:600<k
      ·have hLn':(600:Int)<k:=by omega
       repeat'(with_reducible first|simp(disch:=try exact ab) only[go_sem,seval,h3,h4,hb',hb1,e1,k2,cd,g0,g1,hLn']|(apply aj.i<;>intro hc))
      ·have hLn':¬(600:Int)<k:=by omega
       have hLd':(600:Int)<(t.length:Int)-k-1:=by omega
       repeat'(with_reducible first|simp(disch:=try exact ab) only[go_sem,seval,h3,h4,hb',hb1,e1,k2,cd,g0,g1,hLn',hLd']|(apply aj.i<;>intro hc))
     ·rw [if_neg hL];have hLn':¬(600:Int)<k:=by omega
      have hLd':¬(600:Int)<(t.length:Int)-k-1:=by omega
      have lN:=II hdn (by omega);have lD:=II hdd (by omega)
      have et:t=bB (bm N:Nat)++47::bB (bm D:Nat):=by
       rw[jY,jY,lK hdn,lK hdd];exact hsp (decide_eq_true hb)
      have cp:=fun h=>Si (h:=h) (lN.mono (by decide:67≤9000)) (lD.mono (by decide:67≤9000))
      rw[←et]at cp;repeat'(with_reducible first|simp(disch:=try exact ab) only[go_sem,seval,h3,h4,hb',hb1,e1,k2,cd,g0,g1,hLn',hLd']|(apply aj.i<;>intro hc))
      refine Gp.wp (cp _) fun v5 k5 a5 b5 u5 ⟨va,vb,e5,I5,I6⟩=>?_
      subst e5;obtain⟨w5,rfl,p5,I5⟩:=I5.ex;obtain⟨w6,rfl,p6,I6⟩:=I6.ex;obtain⟨l1,S1,D1,N1,V1⟩:=I5.un;obtain⟨l2,S2,D2,N2,V2⟩:=I6.un;have m1:=lN.len N1 V1;have m2:=lD.len N2 V2;repeat'(with_reducible first|simp(disch:=try exact ab) only[go_sem,seval,p5,p6]|(apply aj.i<;>intro hc))
      refine Gp.wp (d125 (S1.aO aL) (S2.aO aL) D1 D2 N1 N2 (by omega) (by omega)) fun v7 k7 a7 b7 u7 ⟨l7,S7,D7,N7,V7⟩=>?_
      rw[V1,V2,aw,aw]at V7;have r7:=S7.rd;have ln7:=r7.len;have ad7:=r7.jn;have e00:(0:Int).toNat=0:=rfl;by_cases hg:eA (bm N) (bm D)=1
      ·have e7:l7=[1]:=tK (B:=1000000000) (by decide) D7 (Dg.cons (by decide) Dg.nil) N7 (by simp[Norm]) (by rw[V7,hg];simp[vl]);subst e7;have ld7:=r7.load 0 (by simp);simp only[de,aY]at ld7;have e1':((1:Nat):Int)=1:=rfl;simp only[ap,aK,dd]at ln7;rw[e1']at ln7 ld7;repeat'(with_reducible first|simp(disch:=try exact ab) only[go_sem,seval,ln7,ad7,e00,ld7,e1']|(apply aj.i<;>intro hc))
       refine⟨by simp[hg],?_⟩;exact aL
      ·by_cases hl7:l7.length=1
       ·obtain⟨d,rfl⟩:∃d,l7=[d]:=by
         match l7,hl7 with
         |[d],_=>exact⟨d,rfl⟩
        have ed:vl 1000000000 [d]=d:=by simp[vl]
        rw[ed]at V7;have ld7:=r7.load 0 (by simp);simp only[de,aY]at ld7;have e1':((1:Nat):Int)=1:=rfl;simp only[ap,aK,dd]at ln7;rw[e1']at ln7;have hd1:¬(d:Int)=1:=by omega
        repeat'(with_reducible first|simp(disch:=try exact ab) only[go_sem,seval,ln7,ad7,e00,ld7,hd1]|(apply aj.i<;>intro hc))
        refine⟨by simp[hg],?_⟩;exact aL
       ·have hl7':¬(l7.length:Int)=1:=by omega
        repeat'(with_reducible first|simp(disch:=try exact ab) only[go_sem,seval,ln7,hl7']|(apply aj.i<;>intro hc))
        refine⟨by simp[hg],?_⟩;exact aL
 ·have hb':¬(k:Int)<t.length:=by omega
  have hkt:k=t.length:=by omega
  rw[decide_eq_false hb];have ef:(true&&true&&(!false||(cK D&&decide (D≠[48])&&decide (D≠[49]))))=true:=by simp
  rw[ef,if_neg (by decide)];by_cases hL:600<N.length∨600<D.length
  ·rw[if_pos hL];have hLn':(600:Int)<k:=by omega
   repeat'(with_reducible first|simp(disch:=try exact ab) only[go_sem,seval,h3,h4,hb',hLn']|(apply aj.i<;>intro hc))
  ·rw[if_neg hL];have hLn':¬(600:Int)<k:=by omega
   have hLd':¬(600:Int)<(t.length:Int)-k-1:=by omega
   repeat'(with_reducible first|simp(disch:=try exact ab) only[go_sem,seval,h3,h4,hb',hLn',hLd']|(apply aj.i<;>intro hc))
   simp
theorem H9 {s:List UInt8}(h0:val tm (.t 0)= .str s)(h3:val tm (.t 3)= .str (iC s))(hl:(iC s).length≤1000000):
  Wp E3 (R.IT.code.post 3) ⟨tm,h⟩ (gy [.tmp 2] fun v h'=>v= .int .i64 (fm s)∧aH h h'):=by
 have hk:=jZ (iC s);have nl:=JO s;have dl:=Ku s;have cs:=fun{h:Hp} {K:AV→Hp→Prop}=>zZ (h:=h) (K:=K) (s:=iC s) (by omega)
 have cn:=fun{h:Hp} {K:AV→Hp→Prop}=>Nz (h:=h) (K:=K) (s:=fz s) (by omega)
 have cd:=fun{h:Hp} {K:AV→Hp→Prop}=>Nz (h:=h) (K:=K) (s:=gT s) (by omega)
 have e1:((bR (iC s):Int)+1).toNat=bR (iC s)+1:=by omega
 have k1:fH (bR (iC s)) (iC s)=fz s:=rfl;have k2:gJ (bR (iC s)+1) (iC s)=gT s:=rfl;have hkk:(bR (iC s):Int)≤(iC s).length:=by omega
 have hsp:ve s=true→iC s=fz s++47::gT s:=fun c=>nh (by unfold ve at c;exact of_decide_eq_true c)
 have ebrk:ve s=decide (bR (iC s)<(iC s).length):=rfl;obtain⟨k,hkd⟩:∃k,k=bR (iC s):=⟨_,rfl⟩
 obtain⟨t,ht⟩:∃t,t=iC s:=⟨_,rfl⟩
 obtain⟨N,hN⟩:∃N,N=fz s:=⟨_,rfl⟩
 obtain⟨D,hD⟩:∃D,D=gT s:=⟨_,rfl⟩
 have ecv:fm s=if pc s=false then 1 else if 600<N.length∨600<D.length then 4 else if ve s=true∧eA (bm N) (bm D)≠1 then 1 else 0:=by rw[hN,hD];rfl
 have efm:pc s=(cK N&&(!(decide (s.head?=some 45))||decide (N≠[48]))&&(!(ve s)||(cK D&&decide (D≠[48])&&decide (D≠[49])))):=by rw[hN,hD];rfl
 rw[←hkd]at cs e1 k1 k2 hkk nl dl hk ebrk;rw[←ht]at cs k1 k2 hkk dl hk h3 hsp ebrk hl;rw[←hN]at k1 cn nl hsp;rw[←hD]at k2 cd dl hsp;have rest:=fun tm h3 h4 hdn=>Ic (h:=h) (tm:=tm) (N:=N) (D:=D) (t:=t) (k:=k) (bk:=ve s) h3 h4 hl hk nl dl k2 ebrk hsp hdn
 refine Wp.cut 2 rfl ?_;generalize au.post 2 (au.post 3 R.IT.code)=rc at rest⊢
 unfold R.IT;dsimp only[au.post,au.pre];rw[ecv,efm];cases hdn:cK N with
 | false=>
  rw[hdn]at cn;repeat'(with_reducible first|simp(disch:=try exact ab) only[go_sem,seval,h0,h3,cs,cn,k1,hkk]|(apply aj.i<;>intro hc))
  simp
 | true=>
  rw[hdn]at cn;have hN0:=(eN hdn).1;have hNl:0<N.length:=fV.2 hN0
  have hs0:s≠[]:=by
   rintro rfl;have:t=[]:=by rw[ht];rfl
   rw[this]at hk;simp at hk;omega
  have hsl:(0:Int)<s.length:=by have:=fV.2 hs0;omega
  have e45:((s.getD 0 0).toNat:Int)=45↔s.head?=some 45:=by
   refine(qL (b:=s.getD 0 0) (n:=45) (by decide)).trans ?_;match s,hs0 with
   | c::l,_=>
    show c=45↔some c=some 45
    simp
  have first:(s.head?=some 45∧N=[48])∨¬(s.head?=some 45∧N=[48]):=Classical.em _;rcases first with⟨f1,f2⟩|f
  ·have f1':=e45.2 f1;rw[f2]at cn;repeat'(with_reducible first|simp(disch:=try exact ab) only[go_sem,seval,h0,h3,cs,cn,k1,hkk,hsl,f1',f2]|(apply aj.i<;>intro hc))
   simp[f1,f2]
  ·have en:(!(decide (s.head?=some 45))||decide (N≠[48]))=true:=by
    by_cases f1:s.head?=some 45
    ·have:N≠[48]:=fun e=>f ⟨f1,e⟩
     simp[this]
    ·simp[f1]
   rw[en];by_cases f1:s.head?=some 45
   ·have f1':=e45.2 f1;have f2:¬N=[48]:=fun e=>f ⟨f1,e⟩
    repeat'(with_reducible first|simp(disch:=try exact ab) only[go_sem,seval,h0,h3,cs,cn,k1,hkk,hsl,f1',f2]|(apply aj.i<;>intro hc))
    exact rest _ (by simp(disch:=try exact ab) only[go_sem,seval,h3]) aS hdn
   ·have f1':=fun e=>f1 (e45.1 e)
    repeat'(with_reducible first|simp(disch:=try exact ab) only[go_sem,seval,h0,h3,cs,cn,k1,hkk,hsl,f1']|(apply aj.i<;>intro hc))
    exact rest _ (by simp(disch:=try exact ab) only[go_sem,seval,h3]) aS hdn
theorem d19 {s:List UInt8}(hl:s.length≤1000000):Gv E3 19 [.str s] h (.int .i64 (fm s)):=by
 have hu:(iC s).length≤1000000:=by
  unfold iC;split
  ·rw[bP];omega
  ·exact hl
 refine Gv.of (ac.fn (fn:=R.IT) rfl rfl rfl ?_);have tail:=fun tm h0 h3=>H9 (h:=h) (tm:=tm) (s:=s) h0 h3 hu
 refine Wp.cut 3 rfl ?_;generalize au.post 3 R.IT.code=rc at tail⊢
 unfold R.IT;dsimp only[au.pre];cases s with
 | nil=>
  repeat'(with_reducible first|simp(disch:=try exact ab) only[go_sem,seval,aK]|(apply aj.i<;>intro hc))
  exact tail _ aS (by(simp(disch:=try exact ab) only[go_sem,seval])<;>rfl)
 | cons c l=>
  have hsl:(0:Int)<((c::l:List UInt8).length:Int):=by simp
  have hsl1:(1:Int)≤((c::l:List UInt8).length:Int):=by rw[ap];omega
  have e45:(((c::l).getD 0 0).toNat:Int)=45↔c=45:=qL (n:=45) (by decide);by_cases f1:c=45
  ·have f1':=e45.2 f1;have eu:iC (c::l)=(c::l).drop 1:=by unfold iC;rw[if_pos (by simpa using f1)]
   repeat'(with_reducible first|simp(disch:=try exact ab) only[go_sem,seval,hsl,hsl1,f1']|(apply aj.i<;>intro hc))
   exact tail _ aS (by(simp(disch:=try exact ab) only[go_sem,seval])<;>rw[eu]<;>rfl)
  ·have f1':=fun e=>f1 (e45.1 e)
   have eu:iC (c::l)=c::l:=by unfold iC;rw[if_neg (by simpa using f1)]
   repeat'(with_reducible first|simp(disch:=try exact ab) only[go_sem,seval,hsl,hsl1,f1']|(apply aj.i<;>intro hc))
   exact tail _ aS (by(simp(disch:=try exact ab) only[go_sem,seval])<;>rw[eu])
end
end
end Go.Ae
namespace Go.Ae
open Bg N Go.Proofs
noncomputable section
def wH (s:List UInt8):Rat:=bD (iB (decide (s.head?=some 45)) (bm (fz s))) ((if ve s=true then bm (gT s)else 1:Nat):Int)
theorem sP (r:Rat):wH (aX r)=r:=by
 unfold wH;rw[GL,H3,KL,lM];have e1:decide ((aX r).head?=some 45)=decide (r.num<0):=decide_eq_decide.2 (nV r)
 have e2:iB (decide (r.num<0)) r.num.natAbs=r.num:=by
  unfold iB;by_cases c:r.num<0
  ·rw[decide_eq_true c,if_pos rfl];omega
  ·rw[decide_eq_false c,if_neg (by decide)];omega
 have e3:(if decide (r.den≠1)=true then bm (if r.den=1 then[]else bn r.den 1)else 1)=r.den:=by
  by_cases c:r.den=1
  ·simp[c]
  ·rw[if_pos (decide_eq_true c),if_neg c,lM]
 rw[e1,e2,e3,Rat.num_divInt_den]
theorem FA {a b:Rat}(h:aX a=aX b):a=b:=by rw[←sP a,h,sP]
theorem lu {s:List UInt8}(h:fm s=0):s=aX (wH s)∧oe (wH s)=true:=by
 obtain⟨r,rfl,hr⟩:=zQ h;rw[sP];exact⟨rfl,hr⟩
theorem QV {r:Rat}(h:oe r=true):Br 67 r:=by
 unfold oe at h;obtain⟨h1,h2⟩:=of_decide_eq_true h;have h3:(10:Nat)^600≤10^603:=aT (by decide) (by decide);have h4:(10:Nat)^603=1000000000^67:=by rw[show(1000000000:Nat)=10^9 from rfl,←mH]
 unfold Br Lr;rw[aw];omega
theorem sT (z:Int):aX (z:Rat)=bB z:=by
 unfold aX;rw[Rat.den_intCast,if_pos rfl,Rat.num_intCast]
theorem qM:aX 0=[48]:=by decide+kernel
section
variable {h h' hp:Hp}{K:AV→Hp→Prop}{tm:T AV}{r a b c d:Rat}
end
end
end Go.Ae
set_option exponentiation.threshold 5000
namespace Go.Ae
open Bg N Go.Proofs
noncomputable section
def zt (s:List UInt8)(n:Nat):Bool:=decide (s.length≤2*n+2)&&(decide (fm s=0)&&(decide ((oR (mj s)).length≤n)&&decide ((oP s).length≤n)))
theorem JN (r:Rat):mj (aX r)=bB r.num:=by
 unfold mj;rw[jV r];unfold aX;split
 ·rw[bj]
 ·rw[jh]
theorem Ks (r:Rat):oP (aX r)=bn r.den 1:=by
 unfold oP;rw[jV r];unfold aX;split
 ·rename_i h;rw[if_pos rfl,h];decide+kernel
 ·rw[if_neg (by simp),←eG,ii,jY];rfl
theorem KS (z:Int):oR (bB z)=bn z.natAbs 1:=by
 have hz:bB z=aX (bD z 1):=by
  unfold aX;rw[(fB (p:=z)).2,(fB (p:=z)).1,if_pos rfl]
 have hs:=ta (bD z 1);rw[←hz,(fB (p:=z)).1]at hs;unfold oR;rw[hs];unfold bB;by_cases c:z<0
 ·rw[if_pos c,if_pos (by decide),if_pos c];rfl
 ·rw[if_neg c,if_neg (by split<;>decide),if_neg c]
end
end Go.Ae
namespace Go.Ae
open Bg N Go.Proofs
noncomputable section
def te (f:Nat→Int):Nat→Nat→Int
 |0,_=>0
 |k+1,i=>if f i≠0 then f i else te f k (i+1)
theorem lG {f:Nat→Int}{k i:Nat}(h:f i≠0)(hk:0<k):te f k i=f i:=by
 cases k with
 |zero=>omega
 |succ k=>rw[te,if_pos h]
theorem pZ {f:Nat→Int}{k i:Nat}(h:f i=0)(hk:0<k):te f k i=te f (k-1) (i+1):=by
 cases k with
 |zero=>omega
 |succ k=>rw[te,if_neg (by simpa using h)];rfl
theorem td {f:Nat→Int}:∀{k i:Nat},te f k i=0→∀j,i≤j→j<i+k→f j=0
 |0,i,_,j,h1,h2=>by omega
 | k +1,i,h,j,h1,h2=>by
  rw[te]at h;by_cases c:f i≠0
  ·rw[if_pos c]at h;exact absurd h c
  ·rw[if_neg c]at h;rcases Nat.eq_or_lt_of_le h1 with e|e
   ·rw[←e];simpa using c
   ·exact td h j e (by omega)
abbrev jj (l:List (List UInt8))(i:Nat):List UInt8:=l.getD i []
abbrev ij (m:List (List (List UInt8)))(i:Nat):List (List UInt8):=m.getD i []
def ni (l:List (List UInt8)):Int:=te (fun i=>fm (jj l i)) l.length 0
def iA (m:List (List (List UInt8)))(i:Nat):Int:=if(ij m i).length≠m.length then 2 else ni (ij m i)
def mR (m:List (List (List UInt8)))(b:List (List UInt8)):Int:=
 if m.length=0 then 12 else if 24<m.length then 5 else if te (iA m) m.length 0≠0 then te (iA m) m.length 0 else if b.length≠m.length then 2 else ni b
def xp (l:List (List UInt8))(n d:Nat):Prop:=l.length≤n∧∀i,i<l.length→zt (jj l i) d=true
def BA (m:List (List (List UInt8)))(r c d:Nat):Prop:=m.length≤r∧∀i,i<m.length→(ij m i).length=(ij m 0).length∧xp (ij m i) c d
open Classical in
instance {l:List (List UInt8)}{n d:Nat}:Decidable (xp l n d):=Classical.propDecidable _
open Classical in
instance {m:List (List (List UInt8))}{r c d:Nat}:Decidable (BA m r c d):=Classical.propDecidable _
section
variable {h h' h0 hp:Hp}{K:AV→Hp→Prop}{tm:T AV}{v va vb w:AV}{s u p q:List UInt8}{e:Int}{n d r c:Nat}{l:List (List UInt8)}{m:List (List (List UInt8))}{b:List (List UInt8)}
theorem jd.rz (o:jd h v l):Rz 1 h v l.length (l.map AV.str):=by
 rcases o with o|⟨rfl,b,o,s,c,rfl⟩
 ·exact o.rz
 ·exact⟨rfl,fun k i hi=>by have:=hi.1;have:=hi.2;simp only[aK]at *;omega,fun e=>absurd rfl e⟩
theorem jd.ld (o:jd h v l){i:Nat}(hi:i<l.length):∀h' K,fU false 1 i (h.get v.tok) h' K↔K (.str (jj l i)) h':=by
 obtain⟨own,st,hg,ht,hst⟩:=o.rz.get (by omega);intro h' K;rw[hg,fU.row,if_pos (by rw[List.length_map];omega),if_neg (by decide),bK,aI hi,jj,aW,aI hi];exact ax
theorem jd.old (o:jd h v l)(hi:0<l.length):∀c0,h.dc≤c0→lR (h.get v.tok) c0=true:=by
 obtain⟨own,st,hg,ht,hst⟩:=o.rz.get (by omega);intro c0 hc;rw[hg];exact lR.row (aB hst hc)
theorem jd.lt (o:jd h v l)(hi:0<l.length):v.tok<h.next:=by
 obtain⟨own,st,hg,ht,hst⟩:=o.rz.get (by omega);exact ht
theorem je.rz (o:je h v m):∃vs,Rz 1 h v m.length vs:=by
 obtain⟨vs,r,_⟩:=o;exact⟨vs,r.rz⟩
theorem je.ld (o:je h v m){i:Nat}(hi:i<m.length):∃u,jd h u (ij m i)∧∀h' K,fU false 1 i (h.get v.tok) h' K↔K u h':=by
 obtain⟨vs,r,e⟩:=o;obtain⟨u,hu,re⟩:=e i hi;obtain⟨own,st,hg,ht,hst⟩:=r.rz.get (by omega);refine⟨u,by rw[ij,aW,aI hi];exact re,fun h' K=>?_⟩;have hl:=r.1;rw[hg,fU.row,if_pos (by omega),if_neg (by decide),hu];exact ax
theorem je.old (o:je h v m)(hi:0<m.length):∀c0,h.dc≤c0→lR (h.get v.tok) c0=true:=by
 obtain⟨vs,r,e⟩:=o;obtain⟨own,st,hg,ht,hst⟩:=r.rz.get (by omega);intro c0 hc;rw[hg];exact lR.row (aB hst hc)
theorem Sh (hn:n≤1000):Gv E3 135 [.str s,.int .i64 n] h (.bool (zt s n)):=by
 refine Gv.of (ac.fn (fn:=R.LL) rfl rfl rfl ?_);unfold R.LL zt;by_cases g1:s.length≤2*n+2
 ·have g1':(s.length:Int)≤2*(n:Int)+2:=by omega
  have hs:s.length≤1000000:=by omega
  rw[decide_eq_true g1];by_cases g2:fm s=0
  ·rw [decide_eq_true g2];by_cases g3:(oR (mj s)).length≤n
   ·have g3':((oR (mj s)).length:Int)≤n:=by omega
    rw[decide_eq_true g3];by_cases g4:(oP s).length≤n
    ·have g4':((oP s).length:Int)≤n:=by omega
     rw[decide_eq_true g4];repeat'(with_reducible first|simp(disch:=try exact ab) only[go_sem,seval,g1',g2,g3',g4',Ev (show s.length≤9223372036854775807 by omega),Ik (show s.length≤9223372036854775807 by omega),Eu (show(mj s).length≤9223372036854775807 from aB (wV s) (by omega))]|(refine Gv.wp (d19 hs) fun _ _ _ _=>?_)|(apply aj.i<;>intro hc))
     exact aL
    ·have g4':¬((oP s).length:Int)≤n:=by omega
     rw[decide_eq_false g4];repeat'(with_reducible first|simp(disch:=try exact ab) only[go_sem,seval,g1',g2,g3',g4',Ev (show s.length≤9223372036854775807 by omega),Ik (show s.length≤9223372036854775807 by omega),Eu (show(mj s).length≤9223372036854775807 from aB (wV s) (by omega))]|(refine Gv.wp (d19 hs) fun _ _ _ _=>?_)|(apply aj.i<;>intro hc))
     exact aL
   ·have g3':¬((oR (mj s)).length:Int)≤n:=by omega
    rw[decide_eq_false g3];repeat'(with_reducible first|simp(disch:=try exact ab) only[go_sem,seval,g1',g2,g3',Ev (show s.length≤9223372036854775807 by omega),Eu (show(mj s).length≤9223372036854775807 from aB (wV s) (by omega))]|(refine Gv.wp (d19 hs) fun _ _ _ _=>?_)|(apply aj.i<;>intro hc))
    exact aL
  ·rw[decide_eq_false g2];repeat'(with_reducible first|simp(disch:=try exact ab) only[go_sem,seval,g1',g2]|(refine Gv.wp (d19 hs) fun _ _ _ _=>?_)|(apply aj.i<;>intro hc))
   exact aL
 ·have g1':¬(s.length:Int)≤2*(n:Int)+2:=by omega
  rw[decide_eq_false g1,Bool.false_and];repeat'(with_reducible first|simp(disch:=try exact ab) only[go_sem,seval,g1']|(apply aj.i<;>intro hc))
theorem ZC (o:jd h v l)(hl:l.length≤1000000)(hs:∀i,i<l.length→(jj l i).length≤1000000):Gv E3 56 [v] h (.int .i64 (ni l)):=by
 refine Gv.of (ac.fn (fn:=R.Uc) rfl rfl rfl ?_);unfold R.Uc;have ln:=o.rz.len;have ad:=o.rz.jn;repeat'(with_reducible first|simp(disch:=try exact ab) only[go_sem,seval]|(apply aj.i<;>intro hc))
 refine Wp.bW (fun mm s=>∃(i:Nat),val s.tm (.t 0)=v∧val s.tm (.t 3)= .int .i64 i∧
  aH h s.hp∧i≤l.length∧te (fun i=>fm (jj l i)) (l.length-i) i=ni l∧l.length-i=mm) (n:=l.length) ?_ ?_
 ·exact⟨0,aS,by(simp(disch:=try exact ab) only[go_sem,seval])<;>rfl,aH.refl _,aJ _,rfl,rfl⟩
 ·rintro mm ⟨tm,hp⟩ ⟨i,k0,k3,G,hle,hsc,rfl⟩;simp only at k0 k3 G;by_cases hlt:i<l.length
  ·have hlt':(i:Int)<l.length:=by omega
   have hlt1:i+1≤l.length:=hlt;have ld:=(o.aO G).ld hlt;have f19:=fun h=>d19 (h:=h) (hs i hlt)
   rw[←hsc];by_cases c1:fm (jj l i)=0
   ·rw[c1]at f19;repeat'(with_reducible first|simp(disch:=try exact ab) only[go_sem,seval,k0,k3,ln,ad,hlt',ld]|(refine Gv.wp (f19 _) fun _ _ _ _=>?_)|(apply aj.i<;>intro hc))
    exact⟨_,by omega,i+1,rfl,G.trans aL,hlt1,(pZ (f:=fun i=>fm (jj l i)) (k:=l.length-i) c1 (by omega)).symm,rfl⟩
   ·rw[lG (f:=fun i=>fm (jj l i)) c1 (by omega)];repeat'(with_reducible first|simp(disch:=try exact ab) only[go_sem,seval,k0,k3,ln,ad,hlt',ld,c1]|(refine Gv.wp (f19 _) fun _ _ _ _=>?_)|(apply aj.i<;>intro hc))
    first|exact G.trans aL|exact⟨rfl,G.trans aL⟩
  ·have hlt':¬(i:Int)<l.length:=by omega
   obtain rfl:i=l.length:=by omega
   rw[←hsc,kA];repeat'(with_reducible first|simp(disch:=try exact ab) only[go_sem,seval,k0,k3,ln,hlt']|(apply aj.i<;>intro hc))
   first|exact G|exact⟨rfl,G⟩
theorem ZE (o:jd h v l)(hn:n≤1000)(hd:d≤1000):Gv E3 36 [v,.int .i64 n,.int .i64 d] h (.bool (decide (xp l n d))):=by
 refine Gv.of (ac.fn (fn:=R.Ue) rfl rfl rfl ?_);unfold R.Ue;have ln:=o.rz.len;have ad:=o.rz.jn;by_cases h1:n<l.length
 ·have h1':(n:Int)<l.length:=by omega
  rw[decide_eq_false (fun e:xp l n d=>by have:=e.1;omega)];repeat'(with_reducible first|simp(disch:=try exact ab) only[go_sem,seval,ln,h1']|(apply aj.i<;>intro hc))
  all_goals exact aL
 have h1':¬(n:Int)<l.length:=by omega
 repeat'(with_reducible first|simp(disch:=try exact ab) only[go_sem,seval,ln,h1']|(apply aj.i<;>intro hc))
 refine Wp.bW (fun mm s=>∃(i:Nat),val s.tm (.t 0)=v∧val s.tm (.t 2)= .int .i64 d∧val s.tm (.t 7)= .int .i64 i∧
  aH h s.hp∧i≤l.length∧(∀j,j<i→zt (jj l j) d=true)∧l.length-i=mm) (n:=l.length) ?_ ?_
 ·exact⟨0,aS,aS,by(simp(disch:=try exact ab) only[go_sem,seval])<;>rfl,aH.refl _,aJ _,fun j hj=>absurd hj (fh _),rfl⟩
 ·rintro mm ⟨tm,hp⟩ ⟨i,k0,k2,k7,G,hle,hok,rfl⟩;simp only at k0 k2 k7 G;by_cases hlt:i<l.length
  ·have hlt':(i:Int)<l.length:=by omega
   have hlt1:i+1≤l.length:=hlt;have ld:=(o.aO G).ld hlt;have f135:=fun h=>Sh (h:=h) (s:=jj l i) hd
   by_cases c1:zt (jj l i) d=true
   ·rw[c1]at f135;repeat'(with_reducible first|simp(disch:=try exact ab) only[go_sem,seval,k0,k2,k7,ln,ad,hlt',ld]|(refine Gv.wp (f135 _) fun _ _ _ _=>?_)|(apply aj.i<;>intro hc))
    refine⟨_,by omega,i+1,rfl,G.trans aL,hlt1,?_,rfl⟩;intro j hj;rcases aQ j i with hj'|hj'
    ·exact hok j hj'
    ·rwa[show j=i by omega]
   ·have c1':zt (jj l i) d=false:=by simpa using c1
    rw[c1']at f135;rw[decide_eq_false (fun e:xp l n d=>c1 (e.2 i hlt))];repeat'(with_reducible first|simp(disch:=try exact ab) only[go_sem,seval,k0,k2,k7,ln,ad,hlt',ld]|(refine Gv.wp (f135 _) fun _ _ _ _=>?_)|(apply aj.i<;>intro hc))
    first|exact G.trans aL|exact⟨rfl,G.trans aL⟩
  ·have hlt':¬(i:Int)<l.length:=by omega
   obtain rfl:i=l.length:=by omega
   rw[decide_eq_true (show xp l n d from⟨by omega,hok⟩)];repeat'(with_reducible first|simp(disch:=try exact ab) only[go_sem,seval,k0,k2,k7,ln,hlt']|(apply aj.i<;>intro hc))
   first|exact G|exact⟨rfl,G⟩
theorem r35 (o:je h v m)(hr:r≤1000)(hc:c≤1000)(hd:d≤1000):Gv E3 35 [v,.int .i64 r,.int .i64 c,.int .i64 d] h (.bool (decide (BA m r c d))):=by
 refine Gv.of (ac.fn (fn:=R.Uf) rfl rfl rfl ?_);unfold R.Uf;obtain⟨vs,rz⟩:=o.rz;have ln:=rz.len;have ad:=rz.jn;by_cases h1:r<m.length
 ·have h1':(r:Int)<m.length:=by omega
  rw[decide_eq_false (fun e:BA m r c d=>by have:=e.1;omega)];repeat'(with_reducible first|simp(disch:=try exact ab) only[go_sem,seval,ln,h1']|(apply aj.i<;>intro hc))
  all_goals exact aL
 have h1':¬(r:Int)<m.length:=by omega
 repeat'(with_reducible first|simp(disch:=try exact ab) only[go_sem,seval,ln,h1']|(apply aj.i<;>intro hc))
 refine Wp.bW (fun mm s=>∃(i:Nat),val s.tm (.t 0)=v∧val s.tm (.t 2)= .int .i64 c∧val s.tm (.t 3)= .int .i64 d∧val s.tm (.t 9)= .int .i64 i∧
  aH h s.hp∧i≤m.length∧(∀j,j<i→(ij m j).length=(ij m 0).length∧xp (ij m j) c d)∧m.length-i=mm) (n:=m.length) ?_ ?_
 ·exact⟨0,aS,aS,aS,by(simp(disch:=try exact ab) only[go_sem,seval])<;>rfl,aH.refl _,aJ _,fun j hj=>absurd hj (fh _),rfl⟩
 ·rintro mm ⟨tm,hp⟩ ⟨i,k0,k2,k3,k9,G,hle,hok,rfl⟩;simp only at k0 k2 k3 k9 G;have og:=o.aO G;by_cases hlt:i<m.length
  ·have hlt':(i:Int)<m.length:=by omega
   have hp0:(0:Int)<m.length:=by omega
   have hlt1:i+1≤m.length:=hlt;obtain⟨u,ou,ld⟩:=og.ld hlt;obtain⟨u0,ou0,ld0⟩:=og.ld (i:=0) (by omega);have old:=og.old (by omega);have lnu:=ou.rz.len;have lnu0:=ou0.rz.len;by_cases c1:(ij m i).length=(ij m 0).length
   ·have c1':((ij m i).length:Int)=(ij m 0).length:=by omega
    have f36:=ZE ou hc hd;by_cases c2:xp (ij m i) c d
    ·rw[decide_eq_true c2]at f36;repeat'(with_reducible first|simp(disch:=try exact ab) only[go_sem,seval,k0,k2,k3,k9,ln,ad,hlt',hp0,ld,ld0,old,lnu,lnu0,c1']|(refine Gv.wp (f36) fun _ _ _ _=>?_)|(apply aj.i<;>intro hc))
     refine⟨_,by omega,i+1,rfl,G.trans aL,hlt1,?_,rfl⟩;intro j hj;rcases aQ j i with hj'|hj'
     ·exact hok j hj'
     ·rw[show j=i by omega];exact⟨c1,c2⟩
    ·rw[decide_eq_false c2]at f36;rw[decide_eq_false (fun e:BA m r c d=>c2 (e.2 i hlt).2)];repeat'(with_reducible first|simp(disch:=try exact ab) only[go_sem,seval,k0,k2,k3,k9,ln,ad,hlt',hp0,ld,ld0,old,lnu,lnu0,c1']|(refine Gv.wp (f36) fun _ _ _ _=>?_)|(apply aj.i<;>intro hc))
     first|exact G.trans aL|exact⟨rfl,G.trans aL⟩
   ·have c1':¬((ij m i).length:Int)=(ij m 0).length:=by omega
    rw[decide_eq_false (fun e:BA m r c d=>c1 (e.2 i hlt).1)];repeat'(with_reducible first|simp(disch:=try exact ab) only[go_sem,seval,k0,k2,k3,k9,ln,ad,hlt',hp0,ld,ld0,old,lnu,lnu0,c1']|(apply aj.i<;>intro hc))
    first|exact G|exact⟨rfl,G⟩
  ·have hlt':¬(i:Int)<m.length:=by omega
   obtain rfl:i=m.length:=by omega
   rw[decide_eq_true (show BA m r c d from⟨by omega,hok⟩)];repeat'(with_reducible first|simp(disch:=try exact ab) only[go_sem,seval,k0,k2,k3,k9,ln,hlt']|(apply aj.i<;>intro hc))
   first|exact G|exact⟨rfl,G⟩
theorem ZD (o:je h v m):Gv E3 55 [v] h (.int .i64 (ij m 0).length):=by
 refine Gv.of (ac.fn (fn:=R.Ud) rfl rfl rfl ?_);unfold R.Ud;obtain⟨vs,rz⟩:=o.rz;have ln:=rz.len;have ad:=rz.jn;by_cases h0:m.length=0
 ·have h0':(m.length:Int)=0:=by omega
  obtain rfl:=fL.1 h0;rw[show(ij ([]:List (List (List UInt8))) 0).length=0 from rfl];repeat'(with_reducible first|simp(disch:=try exact ab) only[go_sem,seval,ln,h0']|(apply aj.i<;>intro hc))
  all_goals exact aL
 ·have h0':¬(m.length:Int)=0:=by omega
  have hp0:(0:Int)<m.length:=by omega
  obtain⟨u0,ou0,ld0⟩:=o.ld (i:=0) (by omega);have lnu0:=ou0.rz.len;repeat'(with_reducible first|simp(disch:=try exact ab) only[go_sem,seval,ln,ad,h0',hp0,ld0,lnu0]|(apply aj.i<;>intro hc))
  all_goals exact aL
theorem r34 (o:je h v m)(ob:jd h vb b)(hm:∀i,i<m.length→∀j,j<(ij m i).length→(jj (ij m i) j).length≤1000000)(hb:∀i,i<b.length→(jj b i).length≤1000000):Gv E3 34 [v,vb] h (.int .i64 (mR m b)):=by
 refine Gv.of (ac.fn (fn:=R.Ug) rfl rfl rfl ?_);unfold R.Ug;obtain⟨vs,rz⟩:=o.rz;have ln:=rz.len;have ad:=rz.jn;have lnb:=ob.rz.len;unfold mR;by_cases h0:m.length=0
 ·have h0':(m.length:Int)=0:=by omega
  rw[if_pos h0];repeat'(with_reducible first|simp(disch:=try exact ab) only[go_sem,seval,ln,h0']|(apply aj.i<;>intro hc))
  all_goals exact aL
 have h0':¬(m.length:Int)=0:=by omega
 rw[if_neg h0];by_cases h1:24<m.length
 ·have h1':(24:Int)<m.length:=by omega
  rw[if_pos h1];repeat'(with_reducible first|simp(disch:=try exact ab) only[go_sem,seval,ln,h0',h1']|(apply aj.i<;>intro hc))
  all_goals exact aL
 have h1':¬(24:Int)<m.length:=by omega
 rw[if_neg h1];repeat'(with_reducible first|simp(disch:=try exact ab) only[go_sem,seval,ln,h0',h1']|(apply aj.i<;>intro hc))
 refine Wp.bW (fun mm s=>∃(i:Nat),val s.tm (.t 0)=v∧val s.tm (.t 1)=vb∧val s.tm (.t 5)= .int .i64 i∧
  aH h s.hp∧i≤m.length∧te (iA m) (m.length-i) i=te (iA m) m.length 0∧m.length-i=mm) (n:=m.length) ?_ ?_
 ·exact⟨0,aS,aS,by(simp(disch:=try exact ab) only[go_sem,seval])<;>rfl,aH.refl _,aJ _,rfl,rfl⟩
 ·rintro mm ⟨tm,hp⟩ ⟨i,k0,k1,k5,G,hle,hsc,rfl⟩;simp only at k0 k1 k5 G;have og:=o.aO G;by_cases hlt:i<m.length
  ·have hlt':(i:Int)<m.length:=by omega
   have hlt1:i+1≤m.length:=hlt;obtain⟨u,ou,ld⟩:=og.ld hlt;have lnu:=ou.rz.len;by_cases c1:(ij m i).length=m.length
   ·have c1':((ij m i).length:Int)=m.length:=by omega
    have el:iA m i=ni (ij m i):=by unfold iA;rw[if_neg (by omega)]
    have f56:=ZC ou (by omega) (hm i hlt);by_cases c2:ni (ij m i)=0
    ·rw[c2]at f56;repeat'(with_reducible first|simp(disch:=try exact ab) only[go_sem,seval,k0,k1,k5,ln,ad,hlt',ld,lnu,c1']|(refine Gv.wp (f56) fun _ _ _ _=>?_)|(apply aj.i<;>intro hc))
     exact⟨_,by omega,i+1,rfl,G.trans aL,hlt1,(pZ (f:=iA m) (k:=m.length-i) (el.trans c2) (by omega)).symm.trans hsc,rfl⟩
    ·rw[lG (by rw[el];exact c2) (by omega),el]at hsc;rw[←hsc,if_pos c2];repeat'(with_reducible first|simp(disch:=try exact ab) only[go_sem,seval,k0,k1,k5,ln,ad,hlt',ld,lnu,c1',c2]|(refine Gv.wp (f56) fun _ _ _ _=>?_)|(apply aj.i<;>intro hc))
     first|exact G.trans aL|exact⟨rfl,G.trans aL⟩
   ·have c1':¬((ij m i).length:Int)=m.length:=by omega
    have el:iA m i=2:=by unfold iA;rw[if_pos c1]
    rw[lG (by rw[el];decide) (by omega),el]at hsc;rw[←hsc,if_pos (by decide)];repeat'(with_reducible first|simp(disch:=try exact ab) only[go_sem,seval,k0,k1,k5,ln,ad,hlt',ld,lnu,c1']|(apply aj.i<;>intro hc))
    first|exact G|exact⟨rfl,G⟩
  ·have hlt':¬(i:Int)<m.length:=by omega
   obtain rfl:i=m.length:=by omega
   rw[kA]at hsc;rw[←hsc,if_neg (by simp[te])];by_cases c3:b.length=m.length
   ·have c3':(b.length:Int)=m.length:=by omega
    rw[if_neg (by omega)];repeat'(with_reducible first|simp(disch:=try exact ab) only[go_sem,seval,k0,k1,k5,ln,lnb,hlt',c3']|(refine Gv.wp (ZC (ob.aO G) (by omega) hb) fun _ _ _ _=>?_)|(apply aj.i<;>intro hc))
    first|exact G.trans aL|exact⟨rfl,G.trans aL⟩
   ·have c3':¬(b.length:Int)=m.length:=by omega
    rw[if_pos c3];repeat'(with_reducible first|simp(disch:=try exact ab) only[go_sem,seval,k0,k1,k5,ln,lnb,hlt',c3']|(apply aj.i<;>intro hc))
    first|exact G|exact⟨rfl,G⟩
end
end
end Go.Ae
set_option maxHeartbeats 4000000
namespace Go.Ae.L
attribute [local go_sem] Oper.semAt_some
open Go.Proofs Go.Ae Go.RowKit Go.Shelf
theorem Ek (b:Nat)(w:World)(h0:w.cell? ⟨b,0,none⟩=some (.pointer (some ⟨b,0,none⟩))):
  Calls Tryz.prog 290 #[.pointer (some ⟨b,0,none⟩)] w fun e w'=>e= .returned (.tuple #[])∧w'=w:=by
 obtain⟨j,hj,_⟩:=Cb.1 (show(Tryz.prog.info? 263).map (·.size)=some 2 by kernel_rfl);go_enter Tryz.func290,Tryz.ntmps290
 go_wp2
 rw[Lib.run_neq_ptr_same w _ (by kernel_rfl) hj];go_wp2
 go_end0
 exact⟨rfl,rfl⟩
theorem BQ (b:Nat)(w:World)(h0:w.cell? ⟨b,0,none⟩=some (.pointer none))(hsh:w.shape? b=some (263,2))(hfz:w.frozen? ⟨b,0,none⟩=false):
  Calls Tryz.prog 290 #[.pointer (some ⟨b,0,none⟩)] w fun e w'=>e= .returned (.tuple #[])∧w'=w.setCell ⟨b,0,none⟩ (.pointer (some ⟨b,0,none⟩)):=by
 obtain⟨j,hj,hjs⟩:=Cb.1 (show(Tryz.prog.info? 263).map (·.size)=some 2 by kernel_rfl);go_enter Tryz.func290,Tryz.ntmps290
 go_wp2
 rw[Lib.run_to_unsafe w ⟨b,0,none⟩ (by kernel_rfl) (by kernel_rfl) hj (by rw[hjs];decide) hsh (Nat.zero_lt_succ 1)];simp only[Result.andThen];rw[Oper.upon_value];go_wp2
 rw[run_callFunc_extern Tryz.func320 (by kernel_rfl) (by kernel_rfl) (by kernel_rfl) (e:=Extern.AbiNoEscape.same) (by kernel_rfl)];rw[Lib.run_noEscape];simp only[Result.andThen];rw[Oper.upon_value];go_wp2
 rw[Lib.run_from_unsafe w ⟨b,0,none⟩ (by kernel_rfl) (by kernel_rfl) hj hsh (by kernel_rfl)];simp only[Result.andThen];rw[Oper.upon_value];go_wp2
 go_end0
 exact⟨rfl,rfl⟩
theorem El (B b:Nat)(bs:List Value)(w:World)(h:Lib.IsBuilder 263 5 B b bs w):
  Calls Tryz.prog 290 #[.pointer (some ⟨b,0,none⟩)] w fun e w'=>e= .returned (.tuple #[])∧(Lib.BuilderAt 263 5 B b (.pointer (some ⟨b,0,none⟩)) bs w'∧Below B w w'):=by
 rcases h with h|h
 ·refine(BQ b w h.cell0 h.shape h.frozen0).mono ?_;rintro e w' ⟨rfl,rfl⟩;exact⟨rfl,h.used _,(Below.refl B w).setCell (p:=⟨b,0,none⟩) h.1 _⟩
 ·refine(Ek b w h.cell0).mono ?_;rintro e w' ⟨rfl,rfl⟩;exact⟨rfl,h,Below.refl B _⟩
theorem writeString (B b:Nat)(bs:List Value)(s:ByteArray)(w:World)(h:Lib.IsBuilder 263 5 B b bs w)(hlen:bs.length+s.size≤140737488355328)(hBw:B≤w.heap.size):
  Calls Tryz.prog 234 #[.pointer (some ⟨b,0,none⟩),.string s] w fun e w'=>e= .returned (.tuple #[.int .i64 s.size,.nilIface])∧(Lib.BuilderAt 263 5 B b (.pointer (some ⟨b,0,none⟩)) (bs++Lib.strCells s) w'∧Below B w w'):=by
 obtain⟨i0,hi,hz0,hz1,hz2⟩:=info_parts (show(Tryz.prog.info? 5).map (fun i=>(i.zero,i.size,i.bytes))=some (some (.int .u8 0),1,1) by kernel_rfl);go_enter Tryz.func234,Tryz.ntmps234
 go_wp2_with (go_at_call 290;refine(El B b bs _ h).mono ?_)
 rintro e w1 ⟨rfl,h1,hb1⟩;obtain⟨hB,v,hbk,hown,hne⟩:=h1;have c0:w1.cell? ⟨b,0,none⟩=some (.pointer (some ⟨b,0,none⟩)):=by rw[Lib.cell_of_heap hbk];rfl
 have c1:w1.cell? ⟨b,1,none⟩=some v:=by rw[Lib.cell_of_heap hbk];rfl
 go_wp2_with (at_builtin;refine Lib.wpList_append_own_string _ rfl _ _ 261 9 rfl B 5 i0 (by kernel_rfl) (by kernel_rfl) hi hz0 hz1 hz2 _ _ _ rfl hown s rfl ?c3 ?c4 ?c5 ?_)
 case c3=>unfold maxLen;omega
 case c4=>omega
 case c5=>have:=hb1.size;omega
 intro v' w2 hown' hgrow _
 have hlt:b<w1.heap.size:=by
  rcases aQ b w1.heap.size with h'|h'
  ·exact h'
  ·simp[Array.getElem?_eq_none h']at hbk
 have hb2:w2.heap[b]?=some (.cells #[.pointer (some ⟨b,0,none⟩),v] 263 (0,0)):=by
  rw[hgrow.block b hlt (fun e=>hne e.symm)];exact hbk
 have d0:w2.cell? ⟨b,0,none⟩=some (.pointer (some ⟨b,0,none⟩)):=by rw[Lib.cell_of_heap hb2];rfl
 have d1:w2.cell? ⟨b,1,none⟩=some v:=by rw[Lib.cell_of_heap hb2];rfl
 have f1:w2.frozen? ⟨b,1,none⟩=false:=Lib.frozen_of_heap hb2 1
 obtain⟨ao,n',cap,rfl⟩:∃ao n' cap,v'= .slice ao n' cap:=by
  rcases hown'.2 with⟨hv,_⟩|⟨g,cap,cur,hv,_⟩
  ·exact⟨_,_,_,hv⟩
  ·exact⟨_,_,_,hv⟩
 go_wp2
 go_ret2
 refine⟨rfl,?_,?_⟩
 ·exact Lib.BuilderAt.put (T:=263) (e:=5) hB hb2 (bs':=bs++Lib.strCells s) (by simpa[Lib.strCells_length]using hown') (by decide)
 ·exact(hb1.grown hgrow (by have:=hb1.size;omega) (fun k hk=>(hown.lt k hk).1)).setCell (p:=⟨b,1,none⟩) hB _
end Go.Ae.L
namespace Go.Ae
open Go.Proofs
section
variable {P:Program}{W0:World}{base nt:Nat}{E:Env}{ρ ρ':dw}{s:St}{a:Act}{w w':World}{h h':Hp}{v:AV}{B:Nat}
def Dl:Nat→Code→Bool
 |0,_=>true
 |n+1,.seq _ r=>Dl n r
 |_+1,_=>false
def BV:Nat→Code→Code
 |0,c=>c
 |n+1,.seq _ r=>BV n r
 |_+1,c=>c
theorem DM (EO:fC P W0 base E){Q:Exit→Act→World→Prop}:∀(k n:Nat) (c:Code) (s s':St),Dl k c=true→exec E n ((fK P nt c).pre k) s=some (.fP,s')→∀ρ a w,mE W0 base nt ρ s a w→
  (∀a' w' ρ',mE W0 base nt ρ' s' a' w'→Ext base ρ s.hp w ρ' s'.hp w'→(BV k c).wp P Q a' w')→c.wp P Q a w:=by
 intro k
 induction k with
 | zero=>
  intro n c s s' _ hr ρ a w S H;cases n with
  |zero=>cases hr
  | succ n=>
   rw[aN]at hr;obtain⟨_,rfl⟩:=ai (show some (Ex.fP,s)=some (Ex.fP,s') from hr);exact H a w ρ S (Ext.refl S.rel)
 | succ k ih=>
  intro n c s s' hp hr ρ a w S H;cases c with
  | seq x y=>
   cases n with
   |zero=>cases hr
   | succ m=>
    rw[aN]at hr;have hr:iF (fK P nt x) ((fK P nt y).pre k) E (exec E m) s=some (.fP,s'):=hr;unfold iF at hr;refine wp_seq ?_;split at hr
    ·rename_i s1 h1;refine wp_mono ((sound EO m).1 x s .fP s1 nt h1 ρ a w S) fun e1 a1 w1 hq=>?_
     obtain⟨q1,ρ1,S1,X1⟩:=hq;cases e1<;>first|exact q1.elim|skip
     exact ih m y s1 s' hp hr ρ1 a1 w1 S1 fun a' w' ρ' S' X'=>H a' w' ρ' S' (X1.trans X')
    ·rename_i hne;exact(hne s' hr).elim
  |_=>exact(Bool.false_ne_true hp).elim
theorem Ed {n:Nat}{args:List AV}(R:bv base ρ h w)(Bl:bl base W0 w)(hok:gP ρ h.next args):
  mE W0 base n ρ { tm:=ie args 0 .nil,hp:=h } { tmps:=(encs ρ args).toArray++Array.replicate (n-(encs ρ args).toArray.size) undef,defers:=[] } w:=by
 refine⟨R,Bl,rfl,by simp;omega,fun t=>?_⟩;simp only[val,rj,aJ,true_and,dd,Nat.sub_zero,Array.getD_eq_getD_getElem?];by_cases ht:t<args.length
 ·rw[if_pos ht,Array.getElem?_append_left (by simpa[bX]using ht)];obtain⟨u,hu⟩:∃u,args[t]?=some u:=⟨args[t],aI ht⟩
  simp only[List.getElem?_toArray,cC,bK,hu,Option.map_some,Option.getD_some];exact⟨trivial,(cQ _ _ _).1 hok u (List.mem_of_getElem? hu)⟩
 ·rw[if_neg ht,Array.getElem?_append_right (by simp[bX];omega),Array.getElem?_replicate];simp only[T.get_nil,Option.getD_none,kM];exact⟨by split<;>rfl,trivial⟩
theorem CJ {ops:Array Oper}{Q:Exit→Act→World→Prop}(MO:rE P E)(n:Nat)(CO:∀m,m<n→mG P W0 base E (exec E m)):
  ∀ (m i r:Nat) (os rest:List Oper) (xs:List aC) (ρ:dw) (s:St) (a:Act) (w:World) (e:Ex) (s':St),m≤n→ops.toList.drop i=os++rest→oT (EJ P nt ops) os xs→mE W0 base nt ρ s a w→
   exec E m (.cx xs) s=some (e,s')→(∀a' w' ρ',mE W0 base nt ρ' s' a' w'→Ext base ρ s.hp w ρ' s'.hp w'→wpOps P ops Q (uM (i+os.length) r) a' w')→wpOps P ops Q (uM i (os.length+r)) a w:=by
 intro m
 induction m with
 |zero=>intro i r os rest xs ρ s a w e s' _ _ _ _ hr _;cases hr
 | succ m ih=>
  intro i r os rest xs ρ s a w e s' hm hdrop hf S hr hQ;rw[aN]at hr;cases hf with
  | nil=>
   obtain⟨rfl,rfl⟩:Ex.fP=e∧s=s':=by
    have:=ai (show some (Ex.fP,s)=some (e,s') from hr);exact this
   simpa using hQ a w ρ S (Ext.refl S.rel)
  | cons hx hrest=>
   rename_i o x os xs
   have ho:ops[i]?=some o:=by
    rw[←Array.getElem?_toList];have:=congrArg (fun l=>l[0]?) hdrop;simpa using this
   have hdrop':ops.toList.drop (i+1)=os++rest:=by
    rw[←eG,hdrop];rfl
   have hr:kc x xs E (exec E m) s=some (e,s'):=hr;have hw:=nU (a:=a) (ρ:=ρ) (tm:=s.tm) hx.qq fun d b _=>(S.tmp d).1
   have elen:(o::os).length+r=(os.length+r)+1:=by simp;omega
   rw[elen,List.range'_succ,wpOps];simp only[ho]
   have hQ':∀a' w' ρ',mE W0 base nt ρ' s' a' w'→Ext base ρ s.hp w ρ' s'.hp w'→wpOps P ops Q (uM (i+1+os.length) r) a' w':=fun a' w' ρ' S' X'=>by
    have:=hQ a' w' ρ' S' X';rwa[ap,show i+(os.length+1)=i+1+os.length by omega]at this
   unfold kc at hr;split at hr
   ·rename_i hwt;rw[hw,hwt];simp only[if_true];unfold kY at hr;split at hr
    ·rename_i v h' hop;obtain⟨_,hc,hop⟩:=hx.real hop;have D:=tz (CO m (by omega)) S.oO MO hc S.HU S.rel hop
     have key:∀u w1,qH base ρ s.hp w v h' u w1→wpOps P ops Q (uM (i+1) (os.length+r)) (a.put o.dst u) w1:=by
      rintro u w1 ⟨ρ1,X,hv,rfl⟩;have S1:=S.put X hv x.dst hx.lt;rw[hx.dst]at S1;rw[hx.dst]at hr;exact ih (i+1) r os rest xs ρ1 _ _ _ e s' (by omega) hdrop' hrest S1 hr fun a' w' ρ' S' X'=>hQ' a' w' ρ' S' (X.trans X')
     exact .inl (kT.wp D key)
    ·cases hr
   ·rename_i hwt;rw[hw,hwt];simp only[Bool.false_eq_true,if_false];have S1:=S.QP x.dst hx.lt;rw[hx.dst]at S1;rw[hx.dst]at hr;exact ih (i+1) r os rest xs ρ _ _ _ e s' (by omega) hdrop' hrest S1 hr hQ'
theorem KG {o:Oper}{f:FuncId}{args:Array Operand}{ats:Array TypeId}(ho:o.op= .call { callee:= .value (.func f),args:=args,argTypes:=ats }):(execOp a.eval o).run P w=(callFunc f (args.map a.eval)).run P w:=by
 unfold execOp;rw[ho];have hf:a.eval (.func f)= .func (.func f) #[] #[]:=rfl;simp only[resolve,hf,Deferred.ofValue,Sem.run_bind,Sem.run_pure,Result.andThen_ok,invoke];simp
theorem tu {ops:Array Oper}{i:Nat}{rest:List Nat}{Q:Exit→Act→World→Prop}{o:Oper}{f:FuncId}{args:Array Operand}{ats:Array TypeId}{K:Ending→World→Prop}(hi:ops[i]?=some o)(hg:o.guard=none)
  (ho:o.op= .call { callee:= .value (.func f),args:=args,argTypes:=ats }) (hc:eD P f=true) (H:Calls P f (args.map a.eval) w K) (hk:∀e w',K e w'→∃u,e= .returned u∧wpOps P ops Q rest (a.put o.dst u) w'):wpOps P ops Q (i::rest) a w:=by
 rw[wpOps];simp only[hi];have hw:Region.wanted o (yielded ops a.tmps)=true:=by unfold Region.wanted;rw[hg]
 rw[hw];simp only[if_true];refine .inl (kT.wp (K:=fun u w'=>wpOps P ops Q rest (a.put o.dst u) w') ?_ fun u w' h=>h);rw[KG ho,nY hc];exact H.mono hk
theorem bv.low (R:bv base ρ h w)(hb:base≤B)(hlow:∀t o,h.get t=some o→o.owned=true→(ρ t).b<B)(Bl:bl B w w'):bv base ρ h w':=by
  refine⟨aB R.size Bl.size,R.lt,?_,?_,?_,R.apart⟩
  · intro t cs own st ht
    have r:=R.row t cs own st ht;refine r.later (cV.refl _ _) (ae _) (R.lt _ _ ht) Bl.size ?_;cases own with
    |true=>exact .inr (Bl.block _ (hlow t _ ht rfl))
    | false => rcases r.wW rfl with c|c
               · exact .inl ⟨c,rfl⟩
               · exact .inr (Bl.block _ (ah c hb))
  · intro t s p st ht
    rw[Bl.block _ (hlow t _ ht rfl)];exact R.iter t s p st ht
  · intro t es st ht
    rw[Bl.block _ (hlow t _ ht rfl)];exact R.map t es st ht
theorem mE.low (S:mE W0 base nt ρ s a w)(hb:base≤B)(hlow:∀t o,s.hp.get t=some o→o.owned=true→(ρ t).b<B)(Bl:bl B w w'):mE W0 base nt ρ s a w':=
 ⟨S.rel.low hb hlow Bl,S.oO.trans (Bl.mono hb),S.defers,S.size,S.tmp⟩
theorem bv.shrink (R:bv base ρ h w)(R':bv base ρ' h' w')(ha:cV h.next ρ ρ')(hg:∀t,t<h.next→h'.get t=h.get t):bv base ρ h w':=by
 have e:∀t o,h.get t=some o→ρ' t=ρ t∧h'.get t=some o:=fun t o ht=>⟨ha t (R.lt t o ht),(hg t (R.lt t o ht)).trans ht⟩
 refine⟨R'.size,R.lt,?_,?_,?_,R.apart⟩
 ·intro t cs own st ht;obtain⟨e1,e2⟩:=e t _ ht;have r:=R.row t cs own st ht;have r':=R'.row t cs own st e2;refine⟨r.one,r.ok,?_,?_,r.wW⟩
  ·have:=r'.cells;rwa[e1,fA ha _ r.ok]at this
  ·intro ho;have:=r'.se ho;rwa[e1]at this
 ·intro t s p st ht;obtain⟨e1,e2⟩:=e t _ ht;have:=R'.iter t s p st e2;rwa[e1]at this
 ·intro t es st ht;obtain⟨e1,e2⟩:=e t _ ht;obtain⟨q1,q2,ms,c,q3,q4⟩:=R.map t es st ht;obtain⟨p1,p2,ms',c',p3,p4⟩:=R'.map t es st e2;rw[e1]at p1 p3;refine⟨p1,q2,ms',c',p3,p4.trans ?_⟩;exact List.map_congr_left fun x hx=>by rw[du ha _ (q2 x hx).2.1,du ha _ (q2 x hx).2.2]
theorem Ab {bs:List Value}(hB:Lib.IsBuilder 263 5 B B bs w)(hk:∀k,B≤k→k<w.heap.size→w'.heap[k]?=w.heap[k]?):Lib.IsBuilder 263 5 B B bs w':=by
 have key:∀p,Lib.BuilderAt 263 5 B B p bs w→Lib.BuilderAt 263 5 B B p bs w':=by
  rintro p ⟨h1,v,hbk,⟨hl,h0|⟨g,cap,cur,hv,hb,hh,r⟩⟩,hne⟩
  ·refine⟨h1,v,(hk _ (ae _) (cX.1 hbk).1).trans hbk,⟨hl,.inl h0⟩,hne⟩
  ·exact⟨h1,v,(hk _ (ae _) (cX.1 hbk).1).trans hbk,⟨hl,.inr ⟨g,cap,cur,hv,hb,(hk _ hb (cX.1 hh).1).trans hh,r⟩⟩,hne⟩
 rcases hB with c|c
 ·exact .inl (key _ c)
 ·exact .inr (key _ c)
end
end Go.Ae
namespace Go.Ae
open Go.Proofs Go.RowKit
noncomputable def L6:Code:=match Tryz.f264.body with|some c=>c|none=> .skip
noncomputable def cl:Code→Code
 | .seq a _=>a
 | .block _ c=>c
 | .loop c=>c
 | .cond _ a _=>a
 |c=>c
noncomputable def cr:Code→Code
 | .seq _ b=>b
 | .cond _ _ b=>b
 |c=>c
noncomputable def jO:Code→Array Oper
 | .region _ ops _=>ops
 |_=> #[]
noncomputable def og (c:Code)(i:Nat):Oper:=match(jO c)[i]? with|some o=>o|none=>{ dst:=none,op:= .assign (.tmp 0),type:=0,pos:= "",after:= #[],guard:=none }
noncomputable def U0:Code:=BV 6 L6
noncomputable def IU:Code:=cl U0
noncomputable def Uk:Code:=cl (cl (cr U0))
noncomputable def EY:Code:=cl (cr (cl (cr U0)))
noncomputable def Uj:Code:=cl (cl (cr (cr U0)))
noncomputable def LB:Code:=cl (cl (cr (cl (cr (cr U0)))))
noncomputable def Ty:Code:=cl (cl LB)
noncomputable def xI:Code:=cl (cl (cr LB))
noncomputable def Pv:Code:=cr (cr LB)
noncomputable def Al:Code:=cl (cr (cr (cr U0)))
theorem Ph:Tryz.f264.body=some L6:=by kernel_rfl
theorem t264:U0= .seq IU (.seq (.seq Uk (.cond (.tmp 54) EY .skip)) (.seq (.seq Uj (.block 2 (.loop (.seq (.seq Ty (.cond (.tmp 60) .skip (.exit 2))) (.seq (.block 3 xI) Pv))))) (.seq Al .ret))):=by kernel_rfl
theorem s15:IU= .region 15 (jO IU) false:=by kernel_rfl
theorem s17:EY= .region 17 (jO EY) false:=by kernel_rfl
theorem s21:xI= .region 21 (jO xI) false:=by kernel_rfl
theorem s22:Al= .region 22 (jO Al) false:=by kernel_rfl
theorem z15:(jO IU).size=1:=by kernel_rfl
theorem z17:(jO EY).size=1:=by kernel_rfl
theorem z21:(jO xI).size=5:=by kernel_rfl
theorem Zt:(jO Al).size=2:=by kernel_rfl
theorem o15:(jO IU)[0]?=some (og IU 0):=by kernel_rfl
theorem o17:(jO EY)[0]?=some (og EY 0):=by kernel_rfl
theorem o21:(jO xI)[4]?=some (og xI 4):=by kernel_rfl
theorem o22:(jO Al)[0]?=some (og Al 0):=by kernel_rfl
theorem p15:(og IU 0).op= .alloc 263:=by kernel_rfl
theorem p17:(og EY 0).op= .call { callee:= .value (.func 234),args:= #[.tmp 10,.const (.string ⟨#[45]⟩)],argTypes:= #[263,9] }:=by kernel_rfl
theorem p21:(og xI 4).op= .call { callee:= .value (.func 234),args:= #[.tmp 10,.tmp 66],argTypes:= #[263,9] }:=by kernel_rfl
theorem p22:(og Al 0).op= .call { callee:= .value (.func 235),args:= #[.tmp 10],argTypes:= #[263] }:=by kernel_rfl
theorem g15:(og IU 0).guard=none:=by kernel_rfl
theorem g17:(og EY 0).guard=none:=by kernel_rfl
theorem g21:(og xI 4).guard=none:=by kernel_rfl
theorem g22:(og Al 0).guard=none:=by kernel_rfl
theorem d15:(og IU 0).dst=some 10:=by kernel_rfl
theorem d17:(og EY 0).dst=some 55:=by kernel_rfl
theorem d21:(og xI 4).dst=some 67:=by kernel_rfl
theorem d22:(og Al 0).dst=some 68:=by kernel_rfl
theorem Bk:fK Tryz.prog 69 Uk= .cx [C.o 54 (C.m 3)]:=by kernel_rfl
theorem IP:fK Tryz.prog 69 Uj= .cx [C.o 56 (C.m 6),C.o 57 (.len .slice (.t 56)),C.o 58 (.bin .sub .none (.t 57) (.k (.int .i64 1))),C.o 11 (C.m 58)]:=by kernel_rfl
theorem k19:fK Tryz.prog 69 Ty= .cx [C.o 59 (C.m 11),C.o 60 (.bin .geq .none (.t 59) (.k (.int .i64 0)))]:=by kernel_rfl
theorem Re:fK Tryz.prog 69 Pv= .cx [C.o 61 (C.m 11),C.o 62 (.bin .sub .none (.t 61) (.k (.int .i64 1))),C.o 11 (C.m 62)]:=by kernel_rfl
theorem Ra:pK Tryz.prog 69 (jO xI) ((jO xI).toList.take 4)=some [C.o 63 (C.m 6),C.o 64 (C.m 11),C.o 65 (.iG 1 (.t 63) (.t 64)),C.o 66 (.load false 1 (.t 65))]:=by kernel_rfl
theorem Q9:pK Tryz.prog 69 (jO Al) ((jO Al).toList.drop 1)=some [C.o 2 (C.m 68)]:=by kernel_rfl
section
variable {W0:World}{base:Nat}{E:Env}{ρT:dw}{hT:Hp}{wT:World}{tb:Nat}{D D':St→Prop}{bs:List UInt8}{a:Act}{w:World}
structure TJ (W0:World)(base:Nat)(ρT:dw)(hT:Hp)(wT:World)(D:St→Prop)(bs:List UInt8)(a:Act)(w:World):Prop where
 ex:∃ρ s,mE W0 base 69 ρ s a w∧D s∧s.hp=hT∧cV hT.next ρT ρ
 eK:pR ρT hT wT w
 bld:Lib.IsBuilder 263 5 wT.heap.size wT.heap.size (Lib.byteCells bs) w
structure TB (base:Nat)(ρT:dw)(hT:Hp)(wT:World)(tb:Nat):Prop where
 size:base≤wT.heap.size
 low:∀t o,hT.get t=some o→o.owned=true→t<hT.next∧(ρT t).b<wT.heap.size
 tok:tb<hT.next∧(ρT tb).b=wT.heap.size∧(ρT tb).o=0
theorem TB.JU (T:TB base ρT hT wT tb){ρ:dw}(ha:cV hT.next ρT ρ):∀t o,hT.get t=some o→o.owned=true→(ρ t).b<wT.heap.size:=fun t o ht ho=>by
 obtain⟨h1,h2⟩:=T.low t o ht ho;rw[ha t h1];exact h2
theorem TB.enc (T:TB base ρT hT wT tb){ρ:dw}(ha:cV hT.next ρT ρ):enc ρ (.ptr tb 0)= .pointer (some ⟨wT.heap.size,0,none⟩):=by
 obtain⟨h1,h2,h3⟩:=T.tok;rw[←ha tb h1]at h2 h3;simp[Ae.enc,h2,h3]
theorem TJ.code (EO:fC Tryz.prog W0 base E)(T:TB base ρT hT wT tb)(J:TJ W0 base ρT hT wT D bs a w){c:Code}(hw:∀s,D s→s.hp=hT→Wp E (fK Tryz.prog 69 c) s fun e s'=>e= .fP∧D' s'∧s'.hp=s.hp):
  c.wp Tryz.prog (fun e a' w'=>e= .normal∧TJ W0 base ρT hT wT D' bs a' w') a w:=by
 obtain⟨⟨ρ,s,S,hD,hh,ha⟩,K,Bd⟩:=J;obtain⟨e,s',⟨n,hn⟩,rfl,hD',hh'⟩:=hw s hD hh;refine wp_mono ((sound EO n).1 c s .fP s' 69 hn ρ a w S) fun e1 a1 w1 hq=>?_
 obtain⟨q1,ρ1,S1,X1⟩:=hq;cases e1<;>first|exact q1.elim|skip
 have hsz:=K.size;have X1a:cV hT.next ρ ρ1:=by rw[←hh];exact X1.agree
 refine⟨rfl,⟨ρ1,s',S1,hD',hh'.trans hh,ha.trans X1a (ae _)⟩,?_,?_⟩
 ·refine⟨X1.eK.os.trans K.os,X1.eK.tape.trans K.tape,X1.eK.output.trans K.output,aB K.size X1.eK.size,fun k hk hn=>?_⟩;refine(X1.eK.block k (ah hk K.size) fun t o ht ho hb=>?_).trans (K.block k hk hn);rw[hh]at ht;obtain⟨h1,h2⟩:=T.low t o ht ho;rw[ha t h1]at hb;exact hn t o ht ho hb
 ·refine Ab Bd fun k hk hlt=>X1.eK.block k hlt fun t o ht ho hb=>?_
  rw[hh]at ht;have:=T.JU ha t o ht ho;omega
theorem TJ.wrote (T:TB base ρT hT wT tb){ρ:dw}{s:St}{w':World}{v:AV}{d:Nat}{bs':List UInt8}(S:mE W0 base 69 ρ s a w)(hh:s.hp=hT)(ha:cV hT.next ρT ρ)(K:pR ρT hT wT w)(hb:Below wT.heap.size w w')
  (hv:∀N,ok ρ N v) (hd:d<69) (hD:D' { tm:=s.tm.set d v,hp:=s.hp }) (Bd:Lib.IsBuilder 263 5 wT.heap.size wT.heap.size (Lib.byteCells bs') w'):TJ W0 base ρT hT wT D' bs' (a.put (some d) (enc ρ v)) w':=by
 have S1:=S.low (w':=w') T.size (by rw[hh];exact T.JU ha) hb;have S2:=S1.put (Ext.refl S1.rel) (hv _) (some d) (fun x e=>by cases e;exact hd);refine⟨⟨ρ,_,S2,hD,hh,ha⟩,?_,Bd⟩;exact⟨hb.os.trans K.os,hb.tape.trans K.tape,hb.output.trans K.output,aB K.size hb.size,fun k hk hn=>(hb.block k hk).trans (K.block k hk hn)⟩
def DS (neg:Bool)(v6:AV)(tb:Nat)(s:St):Prop:=val s.tm (.t 3)= .bool neg∧val s.tm (.t 6)=v6∧val s.tm (.t 10)= .ptr tb 0
theorem Aa (bs x:List UInt8):Lib.byteCells bs++Lib.strCells ⟨x.toArray⟩=Lib.byteCells (bs++x):=by rw[Lib.strCells_eq,Lib.byteCells_append]
theorem NR {neg:Bool}{v6:AV}(T:TB base ρT hT wT tb)(J:TJ W0 base ρT hT wT (DS neg v6 tb) bs a w)(hl:bs.length+1≤140737488355328):
  EY.wp Tryz.prog (fun e a' w'=>e= .normal∧TJ W0 base ρT hT wT (DS neg v6 tb) (bs++[45]) a' w') a w:=by
 obtain⟨⟨ρ,s,S,⟨h3,h6,h10⟩,hh,ha⟩,K,Bd⟩:=J;rw[s17];refine wp_region ?_;rw[z17];show wpOps _ _ _ [0] a w
 have e10:a.eval (.tmp 10)= .pointer (some ⟨wT.heap.size,0,none⟩):=by
  have:=(S.tmp 10).1;rw[h10,T.enc ha]at this;exact this
 refine tu o17 g17 p17 (by kernel_rfl) (K:=fun e w'=>e= .returned (.tuple #[.int .i64 1,.nilIface])∧(Lib.BuilderAt 263 5 wT.heap.size wT.heap.size (.pointer (some ⟨wT.heap.size,0,none⟩)) (Lib.byteCells bs++Lib.strCells ⟨[45].toArray⟩) w'∧Below wT.heap.size w w')) ?_ ?_
 ·have:=L.writeString wT.heap.size wT.heap.size (Lib.byteCells bs) ⟨[45].toArray⟩ w Bd (by rw[Lib.byteCells_length];exact hl) K.size
  have ea:(#[Operand.tmp 10,.const (.string ⟨#[45]⟩)]:Array Operand).map a.eval= #[.pointer (some ⟨wT.heap.size,0,none⟩),.string ⟨[45].toArray⟩]:=by
   simp only[List.map_toArray,eH,List.map_nil,e10];rfl
  rw[ea];exact this
 ·rintro e w' ⟨rfl,hb1,hb2⟩;refine⟨_,rfl,?_⟩;rw[wpOps,d17];rw[Aa]at hb1;have e1:Value.tuple #[.int .i64 1,.nilIface]=enc ρ (.fO [.int .i64 1,.jD]):=by simp[Ae.enc,encs]
  rw[e1];exact⟨rfl,TJ.wrote T S hh ha K hb2 (fun N=>by simp[ok,gP]) (by decide) ⟨(by rw[gO,if_neg (by decide)];exact h3),(by rw[gO,if_neg (by decide)];exact h6),(by rw[gO,if_neg (by decide)];exact h10)⟩ (.inr hb1)⟩
def DI (neg:Bool)(v6:AV)(tb:Nat)(i:Int)(s:St):Prop:=DS neg v6 tb s∧val s.tm (.t 11)= .int .i64 i
theorem NQ {neg:Bool}{tp st:Nat}{X:List (List UInt8)}{k:Nat}(EO:fC Tryz.prog W0 base E)(T:TB base ρT hT wT tb)(hg:hT.get tp=some (.row (X.map AV.str) true st))(hk:k<X.length)(J:TJ W0 base ρT hT wT (DI neg (.sl tp 0 X.length 1) tb k) bs a w)(hl:bs.length+(X.getD k []).length≤140737488355328):
  xI.wp Tryz.prog (fun e a' w'=>e= .normal∧TJ W0 base ρT hT wT (DI neg (.sl tp 0 X.length 1) tb k) (bs++X.getD k []) a' w') a w:=by
 obtain⟨⟨ρ,s,S,⟨⟨h3,h6,h10⟩,h11⟩,hh,ha⟩,K,Bd⟩:=J
 have hw:Wp E (.cx [C.o 63 (C.m 6),C.o 64 (C.m 11),C.o 65 (.iG 1 (.t 63) (.t 64)),C.o 66 (.load false 1 (.t 65))]) s fun e s'=>e= .fP∧DI neg (.sl tp 0 X.length 1) tb k s'∧val s'.tm (.t 66)= .str (X.getD k [])∧s'.hp=s.hp:=by
  have hk':(k:Int)<X.length:=by omega
  have hg':s.hp.get tp=some (.row (X.map AV.str) true st):=by rw[hh];exact hg
  have ek:(X.map AV.str)[k]?=some (.str (X.getD k [])):=by simp[bQ,hk]
  obtain⟨tm,hp⟩:=s;simp only at h3 h6 h10 h11 hg' hh;unfold DI DS;repeat'(with_reducible first|simp(disch:=try exact ab) only[go_sem,seval,h3,h6,h10,h11,hg',ek,hk']|(apply aj.i<;>intro hc))
  rw[if_pos (show k+1≤X.length from hk)];repeat'(with_reducible first|simp(disch:=try exact ab) only[go_sem,seval,h3,h6,h10,h11,hg',ek,hk']|(apply aj.i<;>intro hc))
 obtain⟨e,s1,⟨n,hn⟩,rfl,⟨⟨i3,i6,i10⟩,i11⟩,i66,ih⟩:=hw;rw[s21];refine wp_region ?_;rw[z21,List.range_eq_range'];have hlen:((jO xI).toList.take 4).length=4:=by rw[az,fN,z21];rfl
 have hsp:(jO xI).toList.drop 0=(jO xI).toList.take 4++(jO xI).toList.drop 4:=by rw[eE,fD]
 have key:=CJ (Q:=fun e a' w'=>e= .normal∧TJ W0 base ρT hT wT (DI neg (.sl tp 0 X.length 1) tb k) (bs++X.getD k []) a' w') EO.gF n (fun m hm=>(sound EO m).2) n 0 1 _ _ _ ρ s a w .fP s1 (ae _) hsp (iz Ra) S hn ?_
 ·rw[hlen]at key;exact key
 ·intro a1 w1 ρ1 S1 X1;rw[hlen];show wpOps _ _ _ [4] a1 w1
  have hh1:s1.hp=hT:=ih.trans hh;have X1a:cV hT.next ρ ρ1:=by rw[←hh];exact X1.agree
  have ha1:=ha.trans X1a (ae _)
  have K1:pR ρT hT wT w1:=by
   refine⟨X1.eK.os.trans K.os,X1.eK.tape.trans K.tape,X1.eK.output.trans K.output,aB K.size X1.eK.size,fun k hk hn=>?_⟩;refine(X1.eK.block k (ah hk K.size) fun t o ht ho hb=>?_).trans (K.block k hk hn);rw[hh]at ht;obtain⟨h1,h2⟩:=T.low t o ht ho;rw[ha t h1]at hb;exact hn t o ht ho hb
  have Bd1:Lib.IsBuilder 263 5 wT.heap.size wT.heap.size (Lib.byteCells bs) w1:=by
   refine Ab Bd fun k hk hlt=>X1.eK.block k hlt fun t o ht ho hb=>?_
   rw[hh]at ht;have:=T.JU ha t o ht ho;omega
  have e10:a1.eval (.tmp 10)= .pointer (some ⟨wT.heap.size,0,none⟩):=by
   have:=(S1.tmp 10).1;rw[i10,T.enc ha1]at this;exact this
  have e66:a1.eval (.tmp 66)= .string ⟨(X.getD k []).toArray⟩:=by
   have:=(S1.tmp 66).1;rw[i66]at this;exact this.trans (by simp[Ae.enc])
  refine tu o21 g21 p21 (by kernel_rfl) (K:=fun e w'=>e= .returned (.tuple #[.int .i64 (⟨(X.getD k []).toArray⟩:ByteArray).size,.nilIface])∧(Lib.BuilderAt 263 5 wT.heap.size wT.heap.size (.pointer (some ⟨wT.heap.size,0,none⟩)) (Lib.byteCells bs++Lib.strCells ⟨(X.getD k []).toArray⟩) w'∧Below wT.heap.size w1 w')) ?_ ?_
  ·have:=L.writeString wT.heap.size wT.heap.size (Lib.byteCells bs) ⟨(X.getD k []).toArray⟩ w1 Bd1 (by rw[Lib.byteCells_length,fT];exact hl) K1.size
   have ea:(#[Operand.tmp 10,.tmp 66]:Array Operand).map a1.eval= #[.pointer (some ⟨wT.heap.size,0,none⟩),.string ⟨(X.getD k []).toArray⟩]:=by
    simp only[List.map_toArray,eH,List.map_nil,e10,e66]
   rw[ea];exact this
  ·rintro e w' ⟨rfl,hb1,hb2⟩;refine⟨_,rfl,?_⟩;rw[wpOps,d21];rw[Aa]at hb1;have e1:Value.tuple #[.int .i64 (⟨(X.getD k []).toArray⟩:ByteArray).size,.nilIface]=enc ρ1 (.fO [.int .i64 (⟨(X.getD k []).toArray⟩:ByteArray).size,.jD]):=by simp[Ae.enc,encs]
   rw[e1];exact⟨rfl,TJ.wrote T S1 hh1 ha1 K1 hb2 (fun N=>by simp[ok,gP]) (by decide) ⟨⟨(by rw[gO,if_neg (by decide)];exact i3),(by rw[gO,if_neg (by decide)];exact i6),(by rw[gO,if_neg (by decide)];exact i10)⟩,(by rw[gO,if_neg (by decide)];exact i11)⟩ (.inr hb1)⟩
end
end Go.Ae
namespace Go.Ae
open Go.Proofs Go.RowKit
noncomputable section
section
variable {W0:World}{base:Nat}{E:Env}{ρT:dw}{hT:Hp}{wT:World}{tb:Nat}{D D':St→Prop}{bs:List UInt8}{a:Act}{w:World}
theorem JV {neg:Bool}{tp st:Nat}{X:List (List UInt8)}{pre:List UInt8}(EO:fC Tryz.prog W0 base E)(T:TB base ρT hT wT tb)(hg:hT.get tp=some (.row (X.map AV.str) true st))(hX:X.length≤1000000)
  (hl:pre.length+X.reverse.flatten.length≤1000000) (J:TJ W0 base ρT hT wT (DI neg (.sl tp 0 X.length 1) tb ((X.length:Int)-1)) pre a w):
  (Code.block 2 (.loop (.seq (.seq Ty (.cond (.tmp 60) .skip (.exit 2))) (.seq (.block 3 xI) Pv)))).wp Tryz.prog (fun e a' w'=>e= .normal∧∃i,TJ W0 base ρT hT wT (DI neg (.sl tp 0 X.length 1) tb i) (pre++X.reverse.flatten) a' w') a w:=by
 refine wp_block ?_;refine oW (fun m a w=>m≤X.length∧TJ W0 base ρT hT wT (DI neg (.sl tp 0 X.length 1) tb ((m:Int)-1)) (pre++(X.drop m).reverse.flatten) a w) (n:=X.length) ⟨ae _,by rw[List.drop_length];simpa using J⟩ ?_;rintro m a w ⟨hm,J⟩;refine wp_seq (wp_seq ?_)
 refine wp_mono (TJ.code EO T J (D':=fun s=>DI neg (.sl tp 0 X.length 1) tb ((m:Int)-1) s∧val s.tm (.t 60)= .bool (decide (0≤(m:Int)-1))) (c:=Ty) ?_) fun e1 a1 w1 ⟨he,J1⟩=>?_
 ·rintro⟨tm,hp⟩ ⟨⟨h3,h6,h10⟩,h11⟩ hh;simp only at h3 h6 h10 h11;rw[k19];unfold DI DS;by_cases c:0≤(m:Int)-1
  ·rw[decide_eq_true c];repeat'(with_reducible first|simp(disch:=try exact ab) only[go_sem,seval,h3,h6,h10,h11,c]|(apply aj.i<;>intro hc))
  ·rw[decide_eq_false c];repeat'(with_reducible first|simp(disch:=try exact ab) only[go_sem,seval,h3,h6,h10,h11,c]|(apply aj.i<;>intro hc))
 subst he;show(Code.cond (.tmp 60) .skip (.exit 2)).wp Tryz.prog _ a1 w1
 obtain⟨ρ,s,S,⟨hD,h60⟩,hh,ha⟩:=J1.ex
 have e60:a1.eval (.tmp 60)= .bool (decide (0≤(m:Int)-1)):=by
  have:=(S.tmp 60).1;rw[h60]at this;exact this.trans (by simp[Ae.enc])
 have J1':TJ W0 base ρT hT wT (DI neg (.sl tp 0 X.length 1) tb ((m:Int)-1)) (pre++(X.drop m).reverse.flatten) a1 w1:=⟨⟨ρ,s,S,hD,hh,ha⟩,J1.eK,J1.bld⟩
 by_cases h0:m=0
 ·subst h0;refine wp_cond_false (by rw[e60];rfl) (wp_exit ?_);simp only[Exit.then,Exit.inBlock,if_true];exact⟨trivial,_,J1'⟩
 ·refine wp_cond_true (by rw[e60,decide_eq_true (by omega)]) (wp_skip ?_);show(Code.seq (.block 3 xI) Pv).wp Tryz.prog _ a1 w1
  obtain⟨k,rfl⟩:∃k,m=k+1:=⟨m-1,by omega⟩
  have ek:((k+1:Nat):Int)-1=(k:Int):=by omega
  rw[ek]at J1'
  have hdr:X.drop k=X.getD k []::X.drop (k+1):=by
   rw[List.drop_eq_getElem_cons (by omega)];congr 1;simp[bQ,show k<X.length by omega]
  have hfl:(X.drop k).reverse.flatten=(X.drop (k+1)).reverse.flatten++X.getD k []:=by rw[hdr];simp
  have hsz:(X.drop k).reverse.flatten.length≤X.reverse.flatten.length:=by
   have:X.reverse.flatten=(X.drop k).reverse.flatten++(X.take k).reverse.flatten:=by
    conv=>lhs;rw[←fD k X,List.reverse_append,List.flatten_append]
   rw[this,ar];omega
  refine wp_seq (wp_block ?_);refine wp_mono (NQ EO T hg (by omega) J1' ?_) fun e2 a2 w2 ⟨he,J3⟩=>?_
  ·rw[hfl]at hsz;simp only[ar]at hsz⊢;omega
  subst he;show Pv.wp Tryz.prog _ a2 w2
  refine wp_mono (TJ.code EO T J3 (D':=DI neg (.sl tp 0 X.length 1) tb ((k:Int)-1)) (c:=Pv) ?_) fun e3 a3 w3 ⟨he,J4⟩=>?_
  ·rintro⟨tm,hp⟩ ⟨⟨h3,h6,h10⟩,h11⟩ hh;simp only at h3 h6 h10 h11;rw[Re];unfold DI DS;have hw:IntKind.wrap .i64 ((k:Int)-1)=(k:Int)-1:=wrap_i64 (by omega);repeat'(with_reducible first|simp(disch:=try exact ab) only[go_sem,seval,h3,h6,h10,h11,hw]|(apply aj.i<;>intro hc))
  subst he;show ∃n',n'<k+1∧_
  refine⟨k,by omega,by omega,?_⟩;rw[hfl,←cW];exact J4
theorem JI {ops:Array Oper}{i:Nat}{rest:List Nat}{Q:Exit→Act→World→Prop}{o:Oper}{u:Value}{w':World}(hi:ops[i]?=some o)(hg:o.guard=none)
  (hr:(execOp a.eval o).run Tryz.prog w= .ok (.value u) w') (hk:wpOps Tryz.prog ops Q rest (a.put o.dst u) w'):wpOps Tryz.prog ops Q (i::rest) a w:=by
 rw[wpOps];simp only[hi];have hw:Region.wanted o (yielded ops a.tmps)=true:=by unfold Region.wanted;rw[hg]
 rw[hw];simp only[if_true];refine .inl (kT.wp (K:=fun u w'=>wpOps Tryz.prog ops Q rest (a.put o.dst u) w') ?_ fun u w' h=>h);rw[hr];exact hk
theorem Iw:(execOp a.eval (og IU 0)).run Tryz.prog w= .ok (.value (.pointer (some ⟨w.heap.size,0,none⟩))) (w.alloc (.cells #[.pointer none,.slice none 0 0] 263)):=by
 have hz:ku Tryz.prog 263=some [.py,.aq]:=by kernel_rfl
 obtain⟨i,zv,h1,h2,h3⟩:=mb hz;obtain⟨e1,e2,e3⟩:=iR h3 (fun _=>⟨0,0,0,0⟩) 0
 have hc:zv.cells= #[.pointer none,.slice none 0 0]:=by
  apply Array.toList_inj.1;rw[←e1];simp[Ae.enc,encs]
 unfold execOp;rw[p15];simp[Instr.alloc,zeroValue,typeInfo,h1,h2,newVar,newRow,hc]
theorem NP {neg:Bool}{v6:AV}{i:Int}(EO:fC Tryz.prog W0 base E)(T:TB base ρT hT wT tb)(J:TJ W0 base ρT hT wT (DI neg v6 tb i) bs a w):
  Al.wp Tryz.prog (fun e a' w'=>e= .normal∧∃ρ s,mE W0 base 69 ρ s a' w'∧val s.tm (.t 2)= .str bs∧s.hp=hT∧cV hT.next ρT ρ∧pR ρT hT wT w') a w:=by
 obtain⟨⟨ρ,s,S,⟨⟨h3,h6,h10⟩,h11⟩,hh,ha⟩,K,Bd⟩:=J;rw[s22];refine wp_region ?_;rw[Zt];show wpOps _ _ _ [0,1] a w
 have e10:a.eval (.tmp 10)= .pointer (some ⟨wT.heap.size,0,none⟩):=by
  have:=(S.tmp 10).1;rw[h10,T.enc ha]at this;exact this
 refine tu o22 g22 p22 (by kernel_rfl) (K:=fun e w'=>e= .returned (.string ⟨bs.toArray⟩)∧Below wT.heap.size w w') ?_ ?_
 ·have:=Tryz.Builder_String_any wT.heap.size wT.heap.size bs w Bd K.size;have ea:(#[Operand.tmp 10]:Array Operand).map a.eval= #[.pointer (some ⟨wT.heap.size,0,none⟩)]:=by simp[e10]
  rw[ea];exact this
 ·rintro e w' ⟨rfl,hb2⟩;refine⟨_,rfl,?_⟩;rw[d22];have S1:=S.low (w':=w') T.size (by rw[hh];exact T.JU ha) hb2;have S2:=S1.put (Ext.refl S1.rel) (v:= .str bs) trivial (some 68) (fun x e=>by cases e;decide);have K1:pR ρT hT wT w':=⟨hb2.os.trans K.os,hb2.tape.trans K.tape,hb2.output.trans K.output,aB K.size hb2.size,fun k hk hn=>(hb2.block k hk).trans (K.block k hk hn)⟩
  have e1:Value.string ⟨bs.toArray⟩=enc ρ (.str bs):=by simp[Ae.enc]
  rw[e1]
  have hw:Wp E (.cx [C.o 2 (C.m 68)]) { tm:=put s.tm (some 68) (.str bs),hp:=s.hp } fun e s'=>e= .fP∧val s'.tm (.t 2)= .str bs∧s'.hp=s.hp:=by
   have h68:val (put s.tm (some 68) (.str bs)) (.t 68)= .str bs:=(gO _ _ _ _).trans (if_pos rfl);generalize put s.tm (some 68) (.str bs)=tm at h68
   repeat'(with_reducible first|simp(disch:=try exact ab) only[go_sem,seval,h68]|(apply aj.i<;>intro hc))
  obtain⟨e,s2,⟨n,hn⟩,rfl,i2,ih⟩:=hw;have hsp:(jO Al).toList.drop 1=(jO Al).toList.drop 1++[]:=by simp
  have hlen:((jO Al).toList.drop 1).length=1:=by rw[bP,fN,Zt]
  have key:=CJ (Q:=fun e a' w'=>e= .normal∧∃ρ s,mE W0 base 69 ρ s a' w'∧val s.tm (.t 2)= .str bs∧s.hp=hT∧cV hT.next ρT ρ∧pR ρT hT wT w')
   EO.gF n (fun m hm=>(sound EO m).2) n 1 0 _ _ _ ρ _ _ w' .fP s2 (ae _) hsp (iz Q9) S2 hn ?_
  ·rw[hlen]at key;exact key
  ·intro a1 w1 ρ1 S1' X1;have X1a:cV hT.next ρ ρ1:=by rw[←hh];exact X1.agree
   show _∧_
   refine⟨rfl,ρ1,s2,S1',i2,ih.trans hh,ha.trans X1a (ae _),?_⟩;refine⟨X1.eK.os.trans K1.os,X1.eK.tape.trans K1.tape,X1.eK.output.trans K1.output,aB K1.size X1.eK.size,fun k hk hn=>?_⟩;refine(X1.eK.block k (ah hk K1.size) fun t o ht ho hb=>?_).trans (K1.block k hk hn);rw[hh]at ht;obtain⟨h1,h2⟩:=T.low t o ht ho;rw[ha t h1]at hb;exact hn t o ht ho hb
end
end
end Go.Ae
namespace Go.Ae
open Bg
noncomputable section
theorem Ja {s x y:Nat}(hs:s≤63)(hx:x<18446744073709551616)(hy:y<18446744073709551616):x/2^s<2^(64-s)∧y*2^(64-s)%18446744073709551616=(y%2^s)*2^(64-s)∧y*2^(64-s)%18446744073709551616+x/2^s<18446744073709551616∧(y*2^(64-s)%18446744073709551616+x/2^s)*2^s+x%2^s=x+18446744073709551616*(y%2^s):=by
 have hB:2^s*2^(64-s)=18446744073709551616:=by rw[←dm,Nat.add_sub_cancel' (by omega)]
 have hp:0<2^s:=dp (by decide);have h1:x/2^s<2^(64-s):=by rw[df hp,aA,hB];exact hx
 have h2:y*2^(64-s)%18446744073709551616=(y%2^s)*2^(64-s):=by rw[←hB,uJ]
 refine⟨h1,h2,?_,?_⟩
 ·rw[h2];have:=aM (2^(64-s)) (bq y hp);rw[Nat.succ_mul,hB]at this;exact ah (Nat.add_lt_add_left h1 _) this
 ·rw[h2,bh];have e1:y%2^s*2^(64-s)*2^s=18446744073709551616*(y%2^s):=by rw[←hB];ac_rfl
  have e2:x/2^s*2^s+x%2^s=x:=Nat.div_add_mod' _ _;rw[e1,Nat.add_assoc,e2,Nat.add_comm]
theorem Jb {P B Y A x p w xm ym:Nat}(h:Y*p=A+P*xm)(hw:w*p+xm=x+B*ym):(Y+P*w)*p=A+P*x+P*B*ym:=by
 have e:P*(w*p+xm)=P*(x+B*ym):=by rw[hw]
 rw[ay,ay,←aF,←aF]at e;rw[bh,h];omega
section
variable {h hp:Hp}{K:AV→Hp→Prop}{tm:T AV}
theorem OW {T0 tq s n N M R:Nat}{L out:List Nat}(h9:val tm (.t 9)= .int .i64 s)(h11:val tm (.t 11)= .sl T0 0 (N+1) 1)(h12:val tm (.t 12)= .int .i64 n)(h13:val tm (.t 13)= .sl tq 0 M 1)
  (hG:aH h hp) (hT:h.next≤T0) (hA:bG hp T0 (L.map (wd .u64))) (hL:L.length=N+1) (dL:Dg 18446744073709551616 L) (hn:n≤N) (hN:N≤1000000) (hs:s≤63) (hv:vl 18446744073709551616 L=R*2^s) (hlt:vl 18446744073709551616 L<18446744073709551616^n) (hn0:0<n)
  (hq:bG hp tq (out.map (wd .u64))) (ho:out.length=M) (dq:Dg 18446744073709551616 out) (hM:M≤1000001) (hne:tq≠T0):
  Wp E2 ((C.qF.code.post 8).post 1) ⟨tm,hp⟩ (gy [.tmp 4,.tmp 5] fun v h'=>L5 (vl 18446744073709551616 out) R v h'∧aH h h'):=by
 unfold C.qF;dsimp only[au.post];have hp2:0<2^s:=dp (by decide);obtain⟨ht0,htn⟩:=sn (B:=18446744073709551616) (by decide) hlt
 have hLn:L.getD n 0=0:=by
  have:=rJ (B:=18446744073709551616) (by decide) (k:=0) ht0;simpa[bQ,List.getElem?_drop]using this
 have hL0:L.getD 0 0%2^s=0:=by
  have e:=jw (B:=18446744073709551616) (l:=L) (j:=0) (by omega);rw[eE,hv]at e;have hB:18446744073709551616=2^s*2^(64-s):=by rw[←dm,Nat.add_sub_cancel' (by omega)]
  have e2:(R*2^s)%2^s=(L.getD 0 0+2^s*(2^(64-s)*vl 18446744073709551616 (L.drop 1)))%2^s:=by
   rw[e];congr 2;rw[←aF,←hB]
  rw[Nat.mul_mod_left,Nat.add_mul_mod_self_left]at e2;exact e2.symm
 repeat'(with_reducible first|simp(disch:=try exact ab) only[go_sem,seval,h12]|(apply aj.i<;>intro hc))
 refine Wp.bW (fun m s'=>∃(i:Nat) (Y:List Nat),val s'.tm (.t 9)= .int .i64 s∧val s'.tm (.t 11)= .sl T0 0 (N+1) 1∧val s'.tm (.t 12)= .int .i64 n∧val s'.tm (.t 13)= .sl tq 0 M 1∧val s'.tm (.t 96)= .int .i64 n∧val s'.tm (.t 97)= .int .i64 i∧
  aH h s'.hp∧bG s'.hp T0 (Y.map (wd .u64))∧bG s'.hp tq (out.map (wd .u64))∧Y.length=N+1∧Dg 18446744073709551616 Y∧i≤n∧vl 18446744073709551616 (Y.take i)*2^s=vl 18446744073709551616 (L.take i)+18446744073709551616^i*(L.getD i 0%2^s)∧(∀k,i≤k→Y.getD k 0=L.getD k 0)∧n-i=m) (n:=n) ?_ ?_
 ·exact⟨0,L,by simp(disch:=try exact ab) only[go_sem,seval,h9],by simp(disch:=try exact ab) only[go_sem,seval,h11],by simp(disch:=try exact ab) only[go_sem,seval,h12],by simp(disch:=try exact ab) only[go_sem,seval,h13],aS,by(simp(disch:=try exact ab) only[go_sem,seval])<;>rfl,hG,hA,hq,hL,dL,by omega,by rw[hL0];simp[vl],fun _ _=>rfl,rfl⟩
 ·rintro m ⟨tm,hp⟩ ⟨i,Y,h9,h11,h12,h13,h96,h97,hG,hA,hq,hY,dY,hle,hinv,hsame,rfl⟩;simp only at h9 h11 h12 h13 h96 h97 hG hA hq;have e64:(64:Int)-s=((64-s:Nat):Int):=by omega
  by_cases hi:i<n
  ·have hi':(i:Int)<n:=by omega
   have hx:=Dg.getD (B:=18446744073709551616) (by decide) dY i;have hy:=Dg.getD (B:=18446744073709551616) (by decide) dY (i+1);have TK:=bg (B:=18446744073709551616) (l:=L) (i:=i) (by omega);have tkY:=fun w=>fp (B:=18446744073709551616) (l:=Y) (i:=i) (x:=w) (by omega)
   rw[hsame i (ae _)]at hx;rw[hsame (i+1) (by omega)]at hy;obtain⟨u1,u2,u3,u4⟩:=Ja (x:=L.getD i 0) (y:=L.getD (i+1) 0) hs hx hy;have fin:=Jb hinv u4;have hij:(((i:Int)+1)).toNat=i+1:=by omega
   have hN1:(i:Int)+1<((N+1:Nat):Int):=by omega
   have hN2:(i:Int)+1<(N:Int)+1:=by omega
   have ld1:=hA.U5 (i:=i) (by omega);rw[hsame i (ae _)]at ld1;have st1:=hA.ND (i:=i) (by omega);have hnx:=hA.lt;have sr:=fun q k'=>sK (q:=q) (k':=k') (m:=L.getD i 0) (n:=s) (by omega)
   by_cases hs0:0<s
   ·have hs0':(0:Int)<s:=by omega
    have g1:((Y.set i (L.getD i 0/2^s)).map (wd .u64))[i]?=some (.int .u64 (L.getD i 0/2^s:Nat)):=by
     have:=jx (kd:= .u64) (L:=Y.set i (L.getD i 0/2^s)) (i:=i) (by simp;omega);rwa[Bg.qu (by omega)]at this
    have g2:((Y.set i (L.getD i 0/2^s)).map (wd .u64))[i+1]?=some (.int .u64 (L.getD (i+1) 0:Nat)):=by
     have:=jx (kd:= .u64) (L:=Y.set i (L.getD i 0/2^s)) (i:=i+1) (by simp;omega);rwa[Bg.getD_set_ne (by omega),hsame (i+1) (by omega)]at this
    have hset2:∀r:Nat,fH i ((Y.set i (L.getD i 0/2^s)).map (wd .u64))++ .int .u64 (r:Int)::gJ (i+1) ((Y.set i (L.getD i 0/2^s)).map (wd .u64))=(Y.set i r).map (wd .u64):=fun r=>by
     rw[iX (by simp;omega),List.set_set]
    have slr:=fun q k'=>uy (q:=q) (k':=k') (m:=L.getD (i+1) 0) (n:=64-s) (by omega)
    have hor:=fun q=>Nb (q:=q) (a:=L.getD i 0/2^s) (b:=L.getD (i+1) 0*2^(64-s)%18446744073709551616) u1 u2 u3
    obtain⟨w,hw⟩:∃w,w=L.getD (i+1) 0*2^(64-s)%18446744073709551616+L.getD i 0/2^s:=⟨_,rfl⟩
    rw[←hw]at hor u3 fin;generalize L.getD i 0/2^s=lo at *
    generalize L.getD (i+1) 0*2^(64-s)%18446744073709551616=hi2 at *
    have hb1:i+1≤Y.length:=by omega
    have hb2:i+1+1≤Y.length:=by omega
    repeat'(with_reducible first|simp(disch:=try exact ab) only[go_sem,seval,h9,h11,h12,h13,h96,h97,hi',hij,hN1,hN2,e64,ld1,st1,sr,hs0',g1,g2,hset2,slr,hor,hb1,hb2]|(apply aj.i<;>intro hc))
    refine⟨n-(i+1),by omega,i+1,Y.set i w,rfl,?_,bG.put hnx,?_,by simpa using hY,dY.set _ u3,hi,?_,?_,rfl⟩
    ·exact aH.put (aH.put hG hT) hT
    ·exact(hq.other hne).other hne
    ·rw[tkY,TK,aV];exact fin
    ·intro k hk;rw[Bg.getD_set_ne (by omega)];exact hsame k (by omega)
   ·obtain rfl:s=0:=by omega
    have e0:((0:Nat):Int)=0:=rfl;have w0:L.getD (i+1) 0*2^(64-0)%18446744073709551616=0:=by rw[u2,Nat.pow_zero,Nat.mod_one,Nat.zero_mul]
    rw[w0,dd]at fin u3;rw[e0]at h9 sr;generalize L.getD i 0/2^0=lo at *
    repeat'(with_reducible first|simp(disch:=try exact ab) only[go_sem,seval,h9,h11,h12,h13,h96,h97,hi',hij,hN1,hN2,ld1,st1,sr,fY]|(apply aj.i<;>intro hc))
    refine⟨n-(i+1),by omega,i+1,Y.set i lo,rfl,?_,bG.put hnx,?_,by simpa using hY,dY.set _ u3,hi,?_,?_,rfl⟩
    ·exact aH.put hG hT
    ·exact hq.other hne
    ·rw[tkY,TK,aV];simpa only[Nat.pow_zero,dF]using fin
    ·intro k hk;rw[Bg.getD_set_ne (by omega)];exact hsame k (by omega)
  ·have hi':¬(i:Int)<n:=by omega
   obtain rfl:i=n:=by omega
   rw[hLn,Nat.zero_mod,fW,aY,htn,hv]at hinv;have hYR:=Nat.eq_of_mul_eq_mul_right hp2 hinv;have hS:=hq.sq (n:=M) ho;obtain⟨st,hg,hst,hTn⟩:=hA;have hk2:(0:Int)≤(i:Int)∧(i:Int)≤((N+1:Nat):Int):=by omega
   have sl1:=pn (h:=hp) (t:=T0) (o:=0) (n:=N+1) (z:=1) (sz:=1) (kd:= .i64) hk2;repeat'(with_reducible first|simp(disch:=try exact ab) only[go_sem,seval,h9,h11,h12,h13,h96,h97,hi']|(apply aj.i<;>intro hc))
   refine Gp.wp (zn hS (by omega)) fun v1 k1 a1 b1 u1 S1=>?_
   have S2:Sq .u64 (hp.ov k1 u1) (.sl T0 0 i 1) (Y.take i):=by
    refine .inr ⟨T0,0,true,st,Y,?_,?_,?_,?_,?_,?_⟩
    ·rw[az,cD (by omega)]
    ·rw[Hp.qS hTn];exact hg
    ·rw[az];omega
    ·rw[az,cD (by omega),eE]
    ·rw[Hp.iL];omega
    ·rw[Hp.qT];omega
   have sl2:=pn (h:=hp.ov k1 u1) (t:=T0) (o:=0) (n:=N+1) (z:=1) (sz:=1) (kd:= .i64) hk2;rw[gD]at sl2;repeat'(with_reducible first|simp(disch:=try exact ab) only[go_sem,seval,h9,h11,h12,h13,sl2]|(apply aj.i<;>intro hc))
   refine Gp.wp (zn S2 (by rw[az];omega)) fun v2 k2 a2 b2 u2 S3=>?_
   repeat'(with_reducible first|simp(disch:=try exact ab) only[go_sem,seval]|(apply aj.i<;>intro hc))
   refine⟨⟨v1,v2,_,_,rfl,S1.aO ⟨_,_,u2⟩,S3,dq.trim,(dY.take _).trim,eJ _,eJ _,by rw[fQ],by rw[fQ,hYR]⟩,?_⟩;refine hG.trans ?_;exact aL
end
end
end Go.Ae
namespace Go.Ae
open Bg
noncomputable section
section
variable {h hp:Hp}{K:AV→Hp→Prop}{tm:T AV}
theorem HY {va wv:AV}{a v L0:List Nat}{T0 tq s:Nat}(h0:val tm (.t 0)=va)(h9:val tm (.t 9)= .int .i64 s)(h10:val tm (.t 10)=wv)(h11:val tm (.t 11)= .sl T0 0 (a.length+1) 1)(h12:val tm (.t 12)= .int .i64 v.length)(h13:val tm (.t 13)= .sl tq 0 (a.length-v.length+1) 1)
  (hG:aH h hp) (ha:Sq .u64 hp va a) (hv:Sq .u64 hp wv v) (dv:Dg 18446744073709551616 v) (h2:2≤v.length) (hva:v.length≤a.length) (hN:a.length≤1000000) (hv1:v.getD (v.length-1) 0≠0) (hvv:iE wv<T0) (hT:h.next≤T0) (hTq:T0<tq)
  (hA:bG hp T0 (L0.map (wd .u64))) (hL:L0.length=a.length+1) (dL:Dg 18446744073709551616 L0) (hq:bG hp tq ((av (a.length-v.length+1) 0).map (wd .u64)))
  (hs:s≤63) {b:Nat} (hb:0<b) (hvb:vl 18446744073709551616 v=b*2^s) (hab:vl 18446744073709551616 L0=vl 18446744073709551616 a*2^s) (htop:vl 18446744073709551616 (L0.drop (a.length-v.length+1))<vl 18446744073709551616 v):
  Wp E2 (C.qF.code.post 8) ⟨tm,hp⟩ (gy [.tmp 4,.tmp 5] fun v h'=>L5 (vl 18446744073709551616 a/b) (vl 18446744073709551616 a%b) v h'∧aH h h'):=by
 have hvl:=gI (B:=18446744073709551616) (by decide) dv;have tail:=fun(tm:T AV) (hp:Hp) (L out:List Nat) h9 h11 h12 h13 hG hA hL dL hv hlt hq ho dq=>OW (h:=h) (hp:=hp) (tm:=tm) (T0:=T0) (tq:=tq) (s:=s) (n:=v.length) (N:=a.length) (M:=a.length-v.length+1) (R:=vl 18446744073709551616 a%b) (L:=L) (out:=out) h9 h11 h12 h13 hG hT hA hL dL hva hN hs hv hlt (by omega) hq ho dq (by omega) (by omega)
 refine Wp.cut 1 rfl ?_;generalize au.post 1 (au.post 8 C.qF.code)=r at tail⊢
 unfold C.qF;dsimp only[au.post,au.pre];have la:=ha.rd.len;have w1:(a.length:Int)-v.length=((a.length-v.length:Nat):Int):=by omega
 repeat'(with_reducible first|simp(disch:=try exact ab) only[go_sem,seval,h0,h12,la,w1]|(apply aj.i<;>intro hc))
 refine Wp.bW (fun m s'=>∃(k:Nat) (L out:List Nat),val s'.tm (.t 9)= .int .i64 s∧val s'.tm (.t 10)=wv∧val s'.tm (.t 11)= .sl T0 0 (a.length+1) 1∧val s'.tm (.t 12)= .int .i64 v.length∧val s'.tm (.t 13)= .sl tq 0 (a.length-v.length+1) 1∧val s'.tm (.t 14)= .int .i64 ((k:Int)-1)∧
  aH h s'.hp∧Sq .u64 s'.hp wv v∧bG s'.hp T0 (L.map (wd .u64))∧bG s'.hp tq (out.map (wd .u64))∧L.length=a.length+1∧out.length=a.length-v.length+1∧Dg 18446744073709551616 L∧Dg 18446744073709551616 out∧k≤a.length-v.length+1∧
  (∀i,i<k→L.getD i 0=L0.getD i 0)∧vl 18446744073709551616 (L.drop k)<vl 18446744073709551616 v∧vl 18446744073709551616 (L0.drop k)=vl 18446744073709551616 (out.drop k)*vl 18446744073709551616 v+vl 18446744073709551616 (L.drop k)∧k=m) (n:=a.length-v.length+1) ?_ ?_
 ·refine⟨a.length-v.length+1,L0,av (a.length-v.length+1) 0,by simp(disch:=try exact ab) only[go_sem,seval,h9],by simp(disch:=try exact ab) only[go_sem,seval,h10],by simp(disch:=try exact ab) only[go_sem,seval,h11],by simp(disch:=try exact ab) only[go_sem,seval,h12],by simp(disch:=try exact ab) only[go_sem,seval,h13],?_,hG,hv,hA,hq,hL,by simp,dL,Dg.oV (by decide) _,ae _,fun _ _=>rfl,htop,?_,rfl⟩
  ·simp(disch:=try exact ab) only[go_sem,seval];congr 1;omega
  ·rw[dN (l:=av _ 0) (by simp)];simp[vl]
 ·rintro m ⟨tm,hp⟩ ⟨k,L,out,h9,h10,h11,h12,h13,h14,hG,hv,hA,hq,hL,ho,dL,dq,hk,hlow,hR,hinv,rfl⟩;simp only at h9 h10 h11 h12 h13 h14 hG hv hA hq;rcases aE k with rfl|hpos
  ·have e0:((0:Nat):Int)-1= -1:=rfl;simp only[eE]at hinv hR;rw[hab,hvb,←aF]at hinv;have hp2:0<2^s:=dp (by decide);rw[hvb]at hR
   have key:vl 18446744073709551616 L=vl 18446744073709551616 a%b*2^s∧vl 18446744073709551616 out=vl 18446744073709551616 a/b:=by
    have e:vl 18446744073709551616 a*2^s/(b*2^s)=vl 18446744073709551616 out:=by
     rw[hinv,aF,aA,Nat.mul_add_div (by omega),iS hR,aY]
    have e2:vl 18446744073709551616 a*2^s%(b*2^s)=vl 18446744073709551616 L:=by
     rw[hinv,aF,aA,Nat.mul_add_mod,cH hR]
    rw[Nat.mul_div_mul_right _ _ hp2]at e;rw[uJ]at e2;exact⟨e2.symm,e.symm⟩
   repeat'(with_reducible first|simp(disch:=try exact ab) only[go_sem,seval,h9,h10,h11,h12,h13,h14,e0]|(apply aj.i<;>intro hc))
   rw[←key.2];exact tail _ _ _ _ (by simp(disch:=try exact ab) only[go_sem,seval,h9]) (by simp(disch:=try exact ab) only[go_sem,seval,h11]) (by simp(disch:=try exact ab) only[go_sem,seval,h12]) (by simp(disch:=try exact ab) only[go_sem,seval,h13]) hG hA hL dL key.1 (by rw[←hvb]at hR;omega) hq ho dq
  ·have e1:((k:Int)-1).toNat=k-1:=by omega
   have hp1:(0:Int)≤(k:Int)-1:=by omega
   have hj:(L.take (k-1)).length=k-1:=by rw[az];omega
   have hsp:L=L.take (k-1)++(L.drop (k-1)).take (v.length+1)++L.drop (k-1+(v.length+1)):=by
    rw[cW,←eG,fD,fD]
   have hWl:((L.drop (k-1)).take (v.length+1)).length=v.length+1:=by rw[az,bP];omega
   have hsl:∀h,AN h 1 (.sl T0 0 (a.length+1) 1) (some (.int .i64 ((k:Int)-1))) (some (.int .i64 ((k:Int)-1+v.length+1)))=some (.sl T0 (L.take (k-1)).length (v.length+1) 1,h):=by
    intro h;rw[NJ (by omega)];rw[hj];congr 3<;>omega
   have dk:=jw (B:=18446744073709551616) (l:=L) (j:=k-1) (by omega);have dk0:=jw (B:=18446744073709551616) (l:=L0) (j:=k-1) (by omega);have dko:=fun q=>kC (B:=18446744073709551616) (q:=q) (l:=out) (j:=k-1) (by omega)
   rw[bT hpos]at dk dk0;simp only[bT hpos]at dko;rw[hlow (k-1) (by omega)]at dk;have hljd:=Dg.getD (B:=18446744073709551616) (by decide) dL (k-1);rw[hlow (k-1) (by omega)]at hljd
   have hWlt:vl 18446744073709551616 (L.drop (k-1))<18446744073709551616*vl 18446744073709551616 v:=by
    rw[dk];have:18446744073709551616*(vl 18446744073709551616 (L.drop k)+1)≤18446744073709551616*vl 18446744073709551616 v:=aD _ hR;omega
   have hBn:vl 18446744073709551616 (L.drop (k-1))<18446744073709551616^(v.length+1):=by
    rw[aV,aA];exact Cc hWlt (Nat.mul_lt_mul_of_pos_left hvl (by decide))
   obtain⟨ht0,htn⟩:=sn (B:=18446744073709551616) (by decide) hBn;rw[eG]at ht0;rw[hsp]at hA;have hstep:=vI (B:=18446744073709551616) hinv dk (cE (vl 18446744073709551616 (L.drop (k-1))) (vl 18446744073709551616 v)).symm
   have hqB:vl 18446744073709551616 (L.drop (k-1))/vl 18446744073709551616 v<18446744073709551616:=by
    rw[df (by omega)];exact hWlt
   have hrl:vl 18446744073709551616 (L.drop (k-1))%vl 18446744073709551616 v<vl 18446744073709551616 v:=bq _ (by omega);rw[←htn]at hstep hqB hrl hWlt;obtain⟨W,hW⟩:∃W,W=(L.drop (k-1)).take (v.length+1):=⟨_,rfl⟩
   obtain⟨P,hP⟩:∃P,P=L.take (k-1):=⟨_,rfl⟩
   obtain⟨S,hS⟩:∃S,S=L.drop (k-1+(v.length+1)):=⟨_,rfl⟩
   have dW:Dg 18446744073709551616 W:=by rw[hW];exact(dL.drop _).take _
   have dP:Dg 18446744073709551616 P:=by rw[hP];exact dL.take _
   have dS:Dg 18446744073709551616 S:=by rw[hS];exact dL.drop _
   rw[←hW]at hA hWl hstep hqB hrl hWlt;rw[←hP]at hA hj hsl;rw[←hS]at hA ht0
   have hSl:P.length+(v.length+1)+S.length=a.length+1:=by
    rw[hP,hS,az,bP];omega
   have hPlow:∀i,i<k-1→P.getD i 0=L0.getD i 0:=by
    intro i hi;rw[←hlow i (by omega),hP];simp only[bQ,List.getElem?_take,if_pos hi]
   repeat'(with_reducible first|simp(disch:=try exact ab) only[go_sem,seval,h9,h10,h11,h12,h13,h14,hp1,hsl]|(apply aj.i<;>intro hc))
   refine WT (P:=P) (S:=S) hv (by omega) hA hWl dW dv (by omega) h2 hv1 hWlt fun h' W' c hA' hW' dW' hr=>?_
   have hq':=hq.kQ c (by omega);have hv':=hv.kQ c (by omega);have sw:=hq'.ND (i:=k-1) (by omega);have hnx:=hq'.lt;have ik:IntKind.wrap .i64 ((k:Int)-1-1)=(k:Int)-1-1:=wrap_i64 (by omega);generalize vl 18446744073709551616 W/vl 18446744073709551616 v=q0 at *
   repeat'(with_reducible first|simp(disch:=try exact ab) only[go_sem,seval,h9,h10,h11,h12,h13,h14,hp1,e1,sw,ik]|(apply aj.i<;>intro hc))
   have hdr:vl 18446744073709551616 ((P++W'++S).drop (k-1))=vl 18446744073709551616 W':=by
    rw[cW,List.drop_append_of_le_length (by omega),dN (by omega),List.nil_append,jU,ht0];simp
   refine⟨k-1,by omega,k-1,P++W'++S,out.set (k-1) q0,?_,?_,?_,?_,?_,?_,?_,?_,?_,by omega,?_,?_,?_,rfl⟩
   ·congr 1;omega
   ·exact aH.put (c.aO hG hT) (by omega)
   ·exact hv'.kQ (ig.put (t:=tq) ig.refl) (by omega)
   ·exact hA'.other (by omega)
   ·exact bG.put hnx
   ·simp only[ar];omega
   ·simpa using ho
   ·exact(dP.append dW').append dS
   ·exact dq.set _ hqB
   ·intro i hi;rw[←hPlow i hi];simp only[bQ];rw[cW,cB (by omega)]
   ·rw[hdr,hr];exact hrl
   ·rw[hdr,hr,dk0,dko];exact hstep
end
end
end Go.Ae
namespace Go.Ae
open Bg
noncomputable section
theorem Be {b:List Nat}(db:Dg 18446744073709551616 b)(nb:Norm b)(hb:b≠[]):0<b.getD (b.length-1) 0∧vl 18446744073709551616 b*2^lz (b.getD (b.length-1) 0)<18446744073709551616^b.length∧18446744073709551616^(b.length-1)*9223372036854775808≤vl 18446744073709551616 b*2^lz (b.getD (b.length-1) 0)∧18446744073709551616^(b.length-1)≤vl 18446744073709551616 b:=by
 obtain⟨m,x,rfl⟩:=jN hb;have hx0:=iq.1 nb;have dx:x<18446744073709551616:=db x (by simp);have e:(m++[x]).getD ((m++[x]).length-1) 0=x:=by simp[bQ]
 rw[e];obtain⟨l1,l2,l3,l4⟩:=xc (by omega:0<x) dx
 have hx1:(x+1)*2^lz x≤18446744073709551616:=by
  have h3:bitLen x≤64:=lQ (k:=64) dx;have h4:x<2^bitLen x:=bitLen_le (ae _);have:=aM (2^lz x) h4;rw[←dm,show bitLen x+lz x=64 by unfold lz;omega]at this;exact this
 have hm:=gI (B:=18446744073709551616) (by decide) (db.left);have hlen:(m++[x]).length=m.length+1:=by simp
 rw[hlen,Nat.add_sub_cancel,jv];generalize lz x=s at *
 refine⟨by omega,?_,?_,?_⟩
 ·have h1:(vl 18446744073709551616 m+18446744073709551616^m.length*x)<18446744073709551616^m.length*(x+1):=by rw[ay];omega
  have h2:=nP h1 l4;rw[aF]at h2;have h3:=aD (18446744073709551616^m.length) hx1;rw[aV];exact ah h2 h3
 ·have h1:18446744073709551616^m.length*x≤vl 18446744073709551616 m+18446744073709551616^m.length*x:=Nat.le_add_left _ _;have h2:=aM (2^s) h1;rw[aF]at h2;exact aB (aD _ l2) h2
 ·have:18446744073709551616^m.length*1≤18446744073709551616^m.length*x:=aD _ (by omega);omega
theorem FE {a L0:List Nat}{n s:Nat}{V:Nat}(da:Dg 18446744073709551616 a)(hL:L0.length=a.length+1)(hv:vl 18446744073709551616 L0=vl 18446744073709551616 a*2^s)(hn:1≤n)(hna:n≤a.length)(hs:s≤63)(hV:18446744073709551616^(n-1)*9223372036854775808≤V):vl 18446744073709551616 (L0.drop (a.length-n+1))<V:=by
 have h1:=nd (B:=18446744073709551616) (l:=L0) (a.length-n+1) (by omega);have h2:=gI (B:=18446744073709551616) (by decide) da;have hp2:0<2^s:=dp (by decide);have h3:=nP h2 hp2;rw[←hv,h1]at h3;have e:18446744073709551616^a.length=18446744073709551616^(a.length-n+1)*18446744073709551616^(n-1):=by rw[←dm];congr 1;omega
 rw[e,aF]at h3;have h4:=Nat.lt_of_mul_lt_mul_left (gR (Nat.le_add_left _ _) h3);have h5:2^s≤2^63:=aT (by decide) hs;have h6:=aD (18446744073709551616^(n-1)) h5;exact ah h4 (aB h6 hV)
section
variable {h hp:Hp}{K:AV→Hp→Prop}{tm:T AV}
theorem SD {va vb:AV}{a b:List Nat}(ha:Sq .u64 h va a)(hb:Sq .u64 h vb b)(da:Dg 18446744073709551616 a)(db:Dg 18446744073709551616 b)(na:Norm a)(nb:Norm b)(hla:a.length≤1000000)(hlb:b.length≤1000000)(hb0:b≠[]):
  Gp E2 265 [va,vb] h (L5 (vl 18446744073709551616 a/vl 18446744073709551616 b) (vl 18446744073709551616 a%vl 18446744073709551616 b)):=by
 have cmp:=fun{K:AV→Hp→Prop}=>KK (K:=K) ha hb da db na nb (by omega) (by omega)
 have hbp:=kf (B:=18446744073709551616) (by decide) nb hb0;by_cases hlt:vl 18446744073709551616 a<vl 18446744073709551616 b
 ·refine Gp.of (ac.fn (fn:=C.qF) rfl rfl rfl ?_);unfold C.qF;have hc:jl (vl 18446744073709551616 a) (vl 18446744073709551616 b)<0:=by unfold jl;rw[if_pos hlt];omega
  repeat'(with_reducible first|simp(disch:=try exact ab) only[go_sem,seval,cmp,hc]|(apply aj.i<;>intro hc))
  refine⟨.aq,va,[],a,rfl,Sq.nil,ha,Dg.nil,da,by simp[Norm],na,?_,?_⟩
  ·rw[iS hlt];rfl
  ·rw[cH hlt]
 ·by_cases h1:b.length=1
  ·obtain⟨x,rfl⟩:∃x,b=[x]:=by
    match b,h1 with
    |[x],_=>exact⟨x,rfl⟩
   have e:vl 18446744073709551616 [x]=x:=by simp[vl]
   rw[e]at hlt hbp⊢;exact Ee ha hb da db.head na hbp hla (by omega)
  ·have hl2:2≤b.length:=by
    have:b.length≠0:=by simpa using hb0
    omega
   have hla2:b.length≤a.length:=by
    rcases aQ a.length b.length with c|c
    ·have:=jJ (B:=18446744073709551616) (by decide) da nb c;omega
    ·exact c
   refine Gp.of (ac.fn (fn:=C.qF) rfl rfl rfl ?_);have hc:¬jl (vl 18446744073709551616 a) (vl 18446744073709551616 b)<0:=by unfold jl;rw[if_neg hlt];split<;>omega
   have lb:=hb.rd.len;have h1':¬(b.length:Int)=1:=by omega
   have rb:=hb.rd;have adb:=rb.jn;have ldb:=rb.load (b.length-1) (by omega);have i1:((b.length:Int)-1).toNat=b.length-1:=by omega
   have hxd:=Dg.getD (B:=18446744073709551616) (by decide) db (b.length-1);obtain⟨n1,n2,n3,n4⟩:=Be db nb hb0;obtain⟨ls,_,_,lp⟩:=xc n1 hxd;have c3:=fun{h:Hp} {K:AV→Hp→Prop}=>Sx (h:=h) (K:=K) hxd
   generalize b.getD (b.length-1) 0=x at *
   generalize hsx:lz x=s at *
   refine Wp.cut 8 rfl ?_;have tail:=fun(tm:T AV) (hp:Hp) (v L0:List Nat) (wv:AV) (T0 tq:Nat) h0 h9 h10 h11 h12 h13 hG ha hv dv h2 hva hv1 hvv hT hTq hA hL dL hq hvb hab htop=>HY (h:=h) (hp:=hp) (tm:=tm) (va:=va) (wv:=wv) (a:=a) (v:=v) (L0:=L0) (T0:=T0) (tq:=tq) (s:=s) h0 h9 h10 h11 h12 h13 hG ha hv dv h2 hva hla hv1 hvv hT hTq hA hL dL hq ls hbp hvb hab htop
   generalize au.post 8 C.qF.code=r at tail⊢
   unfold C.qF;dsimp only[au.pre];repeat'(with_reducible first|simp(disch:=try exact ab) only[go_sem,seval,cmp,hc,lb,h1',i1,adb,ldb,c3]|(apply aj.i<;>intro hc))
   refine Gp.wp (Sv hb db hlb ls) fun v1 k1 a1 b1 u1 ⟨l1,t1,e1,A1,ht1,hl1,d1,hv1⟩=>?_
   subst e1;repeat'(with_reducible first|simp(disch:=try exact ab) only[go_sem,seval]|(apply aj.i<;>intro hc))
   refine Gp.wp (zn (A1.sq hl1) (by omega)) fun v2 k2 a2 b2 u2 S2=>?_
   have ha2:=(ha.ov (g:=u1)).ov (g:=u2);repeat'(with_reducible first|simp(disch:=try exact ab) only[go_sem,seval]|(apply aj.i<;>intro hc))
   refine Gp.wp (Sv ha2 da hla ls) fun v3 k3 a3 b3 u3 ⟨L0,T0,e3,A3,hT3,hL0,dL0,hv3⟩=>?_
   subst e3;have S3:=S2.ov (g:=u3);have ha3:=ha2.ov (g:=u3);have hvl:vl 18446744073709551616 (dJ l1)=vl 18446744073709551616 b*2^s:=by rw[fQ,hv1]
   have dtr:Dg 18446744073709551616 (dJ l1):=d1.trim;have ntr:=eJ l1
   have hlen:(dJ l1).length=b.length:=by
    refine Nat.le_antisymm (sF ntr (by rw[hvl];exact n2)) ?_;rcases aQ (dJ l1).length b.length with c|c
    ·have g1:=gI (B:=18446744073709551616) (by decide) dtr;have g2:=aT (n:=18446744073709551616) (by decide) (show(dJ l1).length≤b.length-1 by omega);rw[hvl]at g1;have g3:vl 18446744073709551616 b*1≤vl 18446744073709551616 b*2^s:=aD _ lp;omega
    ·exact c
   have htop:=FE (V:=vl 18446744073709551616 (dJ l1)) da hL0 hv3 (by omega) hla2 ls (by rw[hvl];exact n3);generalize dJ l1=v at *
   have lv:=S3.rd.len;have la:=ha3.rd.len;have tv:=S2.rd.tok (by omega);have w1:(a.length:Int)-v.length+1=((a.length-v.length+1:Nat):Int):=by omega
   have mk:=fun{h:Hp} {K:AV→Hp→Prop}=>mU.int (h:=h) (K:=K) (b:=8) (z:= .int .u64 0) (n:=a.length-v.length+1) rfl (by omega)
   repeat'(with_reducible first|simp(disch:=try exact ab) only[go_sem,seval,lv,la,w1,mk]|(apply aj.i<;>intro hc))
   have hz:(av (a.length-v.length+1) (AV.int .u64 0))=(av (a.length-v.length+1) 0).map (wd .u64):=by rw[List.map_replicate];rfl
   rw[hz]
   have hvt:v.getD (v.length-1) 0≠0:=by
    obtain⟨m,y,rfl⟩:=jN (l:=v) (by rintro rfl;simp at hlen;omega);have:=iq.1 ntr;simpa[bQ]using this
   have gG:aH (((h.ov k1 u1).ov k2 u2).ov k3 u3) ((((h.ov k1 u1).ov k2 u2).ov k3 u3).push fun s=> .row ((av (a.length-v.length+1) 0).map (wd .u64)) true s):=aH.push (aH.refl _);have hnx3:=A3.lt;refine tail _ _ v L0 v2 T0 _ aS aS aS aS aS aS ?_ (ha3.aO gG) (S3.aO gG) dtr (by omega) (by omega) hvt (by omega) ?_ hnx3 (A3.aO gG) hL0 dL0 bG.push hvl hv3 (by rw[hlen];exact htop)
   ·exact aL
   ·rw[Hp.iL,Hp.iL]at hT3;omega
end
end
end Go.Ae
set_option exponentiation.threshold 100000
namespace Go.Ae
open Bg N Go.Proofs
noncomputable section
theorem kO (n:Nat):Lib.decDigits n=bn n 1:=by
 have:=zE n 1 (by omega)
 have hl:1≤(Lib.decDigits n).length:=by
  rw[Lib.decDigits_length];exact Lib.nDigits_pos n
 rw[show 1-(Lib.decDigits n).length=0 by omega]at this;exact this
section
variable {h h' hp:Hp}{K:AV→Hp→Prop}{tm:T AV}{z:Int}
theorem Uv {n:Nat}(hn:n<18446744073709551616):ac E2 299 [.int .u64 (n:Int),.int .i64 10] h K↔K (.str (bn n 1)) h:=by
 rw[ac.fS (p:=L.DN) rfl rfl]
 have:L.DN [.int .u64 (n:Int),.int .i64 10] h=some (.str (Lib.decDigits n),h):=by
  simp only[L.DN];rw[if_pos (by omega),gD]
 rw[this,kO];exact ax
theorem QR {r:Nat}(hr:r<1000000000000000000):(bn r 1).length≤18∧Lib.repeatL [48] (18-(bn r 1).length)++bn r 1=bn r 18:=by
 have h1:=zE r 18 (by omega);rw[kO]at h1;exact⟨(jz (by decide)).2 hr,h1⟩
theorem Sa {v:Nat}(hq:0<v/1000000000000000000):bn v 1=bn (v/1000000000000000000) 1++bn (v%1000000000000000000) 18:=by
 have:=pI 18 (v/1000000000000000000) (v%1000000000000000000) hq (bq _ (by decide));rw[show(10:Nat)^18=1000000000000000000 from rfl,Nat.div_add_mod']at this;exact this
theorem cO.TI {h0 h:Hp}{v:AV}{n b u:Nat}{cs:List AV}{x:AV}{K:AV→Hp→Prop}(hu:u=h.next)(G:aH h0 h)(O:cO 1 h0 h v n cs)(hl:(n+1)*b≤140737488355328)(hl2:n+1≤140737488355328)
  (hk:∀v' h',aH h0 h'→cO 1 h0 h' v' (n+1) (cs++[x])→(∀t,t<h.next→(∀t' o n',v= .sl t' o n' 1→t≠t')→h'.get t=h.get t)→h.next≤h'.next→h.dc≤h'.dc→K v' h'):dK (jm (h.push fun st=> .row [x] true st) 1 b v (.sl u 0 1 1)) K:=by
 subst hu;have hc:cellsOf (h.push fun st=> .row [x] true st) 1 (.sl h.next 0 1 1)=some [x]:=xB Hp.cu rfl;have hn0:=G.next;obtain⟨hlen,⟨rfl,rfl⟩|⟨t,st,rfl,hg,h1,h2,h3⟩⟩:=O
 ·have hcs:cs=[]:=fL.1 (by omega);subst hcs
  have e:jm (h.push fun st=> .row [x] true st) 1 b .aq (.sl h.next 0 1 1)=some (.sl (h.next+1) 0 1 1,(h.push fun st=> .row [x] true st).push fun st=> .row [x] true st):=by
   unfold jm;rw[hc];simp only[uY];rw[if_pos ⟨by omega,by omega,by omega⟩];rfl
  rw[e];refine hk _ _ G.push.push ⟨by simp,.inr ⟨h.next+1,(h.push fun st=> .row [x] true st).dc+1,rfl,Hp.cu,by omega,?_,ae _⟩⟩ (fun t ht _=>?_) ?_ ?_
  ·show h.next+1<h.next+1+1;omega
  ·rw[Hp.cY (by show t≠h.next+1;omega),Hp.cY (by omega)]
  ·show h.next≤h.next+1+1;omega
  ·show h.dc≤h.dc+1+1;omega
 ·have hgt:(h.push fun st=> .row [x] true st).get t=some (.row cs true st):=(Hp.cY (by omega)).trans hg
  have e:jm (h.push fun st=> .row [x] true st) 1 b (.sl t 0 n 1) (.sl h.next 0 1 1)=some (.sl (h.next+1) 0 (n+1) 1,((h.push fun st=> .row [x] true st).put t fun s=> .dead s).push fun st=> .row (cs++[x]) true st):=by
   unfold jm;rw[hc];simp only[uY];rw[hgt];simp only;rw[if_pos ⟨trivial,by omega,hl,hl2⟩];simp only[eE,←hlen,bj];rfl
  rw[e];refine hk _ _ ((G.push.put h1).push) ⟨by simp[hlen,bh],.inr ⟨h.next+1,((h.push fun st=> .row [x] true st).put t fun s=> .dead s).dc+1,rfl,Hp.cu,by omega,?_,ae _⟩⟩ (fun t1 ht1 hne=>?_) ?_ ?_
  ·show h.next+1<h.next+1+1;omega
  ·have:=hne t 0 n rfl;rw[Hp.cY (by show t1≠h.next+1;omega),Hp.eW this,Hp.cY (by omega)]
  ·show h.next≤h.next+1+1;omega
  ·show h.dc≤h.dc+1+1+1;omega
theorem Sq.app {h0 h h':Hp}{v w:AV}{n:Nat}{l:List Nat}{P:List (List UInt8)}(S:Sq .u64 h w l)(O:cO 1 h0 h v n (P.map AV.str))(hn:P=[]→v= .aq)
  (fr:∀t,t<h.next→(∀t' o n',v= .sl t' o n' 1→t≠t')→h'.get t=h.get t) (hnx:h.next≤h'.next) (hck:h.dc≤h'.dc):Sq .u64 h' w l:=by
 rcases S with S|⟨t,o,own,st,L,e,hg,h1,h2,h3,h4⟩
 ·exact .inl S
 ·refine .inr ⟨t,o,own,st,L,e,(fr t h3 fun t' o' n' ev htt=>?_).trans hg,h1,h2,ah h3 hnx,aB h4 hck⟩;subst htt;obtain⟨hlen,⟨ev',_⟩|⟨t6,st6,ev',hg6,_⟩⟩:=O
  ·rw[ev']at ev;cases ev
  ·rw[ev']at ev;injection ev with q1
   subst q1;rw[hg6]at hg;have hr:P.map AV.str=L.map (wd .u64):=by injection (aa hg)
   cases P with
   |nil=>rw[hn rfl]at ev';cases ev'
   | cons p P=>
    cases L with
    |nil=>simp at hr
    |cons y L=>simp[wd]at hr
theorem wX {l:List Nat}(hn:Norm l)(h:vl 18446744073709551616 l=0):l=[]:=by
 rcases Classical.em (l=[])with c|c
 ·exact c
 ·have:=kf (B:=18446744073709551616) (by decide) hn c;omega
theorem FH {t o n:Nat}{s:Int}(iv:gj h (.int .i64 s) (.sl t o n 1) z)(lz:fq 3999 z):
    Wp E2 (S.B7.code.pre 6) { tm:=ie [.agg [.int .i64 s,.sl t o n 1]] 0 .nil,hp:=h } (fun e st=>e= .fP∧aH h st.hp∧val st.tm (.t 3)= .bool (decide (z<0))∧
      ∃(v6:AV) (P:List (List UInt8)),val st.tm (.t 6)=v6∧cO 1 h st.hp v6 P.length (P.map AV.str)∧P≠[]∧P.reverse.flatten=bn z.natAbs 1∧P.length≤P.reverse.flatten.length):=by
  have hD:(bn z.natAbs 1).length≤79980:=by
    refine(jz (by decide)).2 ?_;have h1:(18446744073709551616:Nat)^3999≤(10^20)^3999:=Nat.pow_le_pow_left (by decide) _;have h2:((10:Nat)^20)^3999=10^79980:=by rw[←mH]
    rw[←h2];exact ah lz h1
  have hne:=mB z.natAbs;obtain⟨D,hDd⟩:∃D,D=bn z.natAbs 1:=⟨_,rfl⟩
  have hz0:z.natAbs≠0:=by
    rcases iv with⟨_,e,_⟩|⟨_,_,_,l,_,_,_,_,hb,_,hv⟩
    · cases e
    · rcases hv with⟨_,rfl⟩|⟨_,rfl⟩<;>omega
  unfold S.B7;dsimp only[au.pre];repeat'(with_reducible first|simp(disch:=try exact ab) only[go_sem,seval]|(apply aj.i<;>intro hc))
  refine Gp.wp (vd (iv.aO aL)) fun v k a b u ⟨w',l0,e0,S0,D0,N0,V0,L0⟩=>?_
  subst e0;repeat'(with_reducible first|simp(disch:=try exact ab) only[go_sem,seval]|(apply aj.i<;>intro hc))
  refine Wp.bW (fun m st=>∃(v4 v5 v6:AV) (l:List Nat) (P:List (List UInt8)),val st.tm (.t 3)= .bool (decide (z<0))∧val st.tm (.t 4)=v4∧val st.tm (.t 5)=v5∧val st.tm (.t 6)=v6∧aH h st.hp∧Sq .u64 st.hp v4 l∧Sq .u64 st.hp v5 [1000000000000000000]∧Dg 18446744073709551616 l∧Norm l∧l.length≤10000∧
    cO 1 h st.hp v6 P.length (P.map AV.str)∧(P=[]→v6= .aq)∧P.length≤P.reverse.flatten.length∧bn z.natAbs 1=(if l=[]then[]else bn (vl 18446744073709551616 l) 1)++P.reverse.flatten∧vl 18446744073709551616 l=m) (n:=z.natAbs) ?_ ?_
  · refine⟨w',_,.aq,l0,[],aS,aS,aS,aS,by exact aL,S0.aO aL,(bG.push (cs:=[1000000000000000000].map (wd .u64))).sq rfl,D0,N0,L0,cO.nil,fun _=>rfl,by simp,?_,V0⟩
    have:l0≠[]:=by rintro rfl;rw[jG]at V0;omega
    rw[if_neg this,V0];simp
  · rintro m ⟨tm,hp⟩ ⟨v4,v5,v6,l,P,h3,h4,h5,h6,hG,S4,S5,D4,N4,hl4,O6,hPn,hPl,hD4,rfl⟩
    simp only at h3 h4 h5 h6 hG S4 S5 O6;have ln:=S4.rd.len;by_cases hz:l=[]
    · subst hz
      simp only[aK]at ln;repeat'(with_reducible first|simp(disch:=try exact ab) only[go_sem,seval,h4,ln]|(apply aj.i<;>intro hc))
      refine⟨hG,h3,v6,P,h6,O6,?_,?_,hPl⟩
      · rintro rfl
        rw[if_pos rfl]at hD4;exact hne (by rw[hD4];rfl)
      · rw[hD4,if_pos rfl];rfl
    · have hp':(0:Int)<l.length:=by
        have:l.length≠0:=by simpa using hz
        omega
      rw[if_neg hz]at hD4
      have hPD:P.reverse.flatten.length≤79980:=by
        have:=congrArg List.length hD4;rw[ar]at this;omega
      have hvp:=kf (B:=18446744073709551616) (by decide) N4 hz;repeat'(with_reducible first|simp(disch:=try exact ab) only[go_sem,seval,h4,h5,ln,hp']|(apply aj.i<;>intro hc))
      refine Gp.wp (SD S4 S5 D4 (Dg.cons (by decide) Dg.nil) N4 (by simp[Norm]) (by omega) (by simp) (by simp)) fun v7 k7 a7 b7 u7 ⟨vq,vr,lq,lr,e7,Sq',Sr,Dq,Dr,Nq,Nr,Vq,Vr⟩=>?_
      subst e7;have e18:vl 18446744073709551616 [1000000000000000000]=1000000000000000000:=by simp[vl]
      rw[e18]at Vq Vr;have hr18:=bq (vl 18446744073709551616 l) (show 1000000000000000000>0 by decide);obtain⟨r,hr⟩:∃r,r=vl 18446744073709551616 l%1000000000000000000:=⟨_,rfl⟩
      obtain⟨q,hq⟩:∃q,q=vl 18446744073709551616 l/1000000000000000000:=⟨_,rfl⟩
      have hlt:q<vl 18446744073709551616 l:=by rw[hq];exact Nat.div_lt_self hvp (by decide)
      have hdec:0<q→bn (vl 18446744073709551616 l) 1=bn q 1++bn r 18:=fun e=>by rw[hq,hr];exact Sa (by rw[←hq];exact e)
      have hdec0:q=0→vl 18446744073709551616 l=r:=fun e=>by
        have:=cE (vl 18446744073709551616 l) 1000000000000000000;rw[←hq,←hr,e]at this;omega
      rw[←hr]at Vr hr18;rw[←hq]at Vq;obtain⟨p1,p2⟩:=QR hr18;have lnr:=Sr.rd.len;have lnq:=Sq'.rd.len;have jn:=Sr.rd.jn;have e00:(0:Int).toNat=0:=rfl
      have hql:lq.length≤10000:=by
        refine aB (zu (B:=18446744073709551616) (by decide) Nq ?_) hl4;rw[Vq];exact Cc hlt (gI (by decide) D4)
      have hG7:aH h (hp.ov k7 u7):=hG.ov;have O7:=O6.aO (⟨_,_,u7⟩:aH hp (hp.ov k7 u7));have S57:=S5.aO (⟨_,_,u7⟩:aH hp (hp.ov k7 u7))
      have fin:∀(x:List UInt8) (v':AV) (h':Hp),x≠[]→(0<q→x=bn r 18)→(q=0→x=bn r 1)→aH h h'→cO 1 h h' v' (P.length+1) (P.map AV.str++[AV.str x])→
          (∀t,t<(hp.ov k7 u7).next→(∀t' o n',v6= .sl t' o n' 1→t≠t')→h'.get t=(hp.ov k7 u7).get t)→(hp.ov k7 u7).next≤h'.next→(hp.ov k7 u7).dc≤h'.dc→
          (Sq .u64 h' vq lq∧Sq .u64 h' v5 [1000000000000000000]∧cO 1 h h' v' (P++[x]).length ((P++[x]).map AV.str)∧(P++[x]).length≤(P++[x]).reverse.flatten.length∧bn z.natAbs 1=(if lq=[]then[]else bn (vl 18446744073709551616 lq) 1)++(P++[x]).reverse.flatten):=by
        intro x v' h' hx h1 h2 gh O' fr f1 f2;have hxl:0<x.length:=fV.2 hx;have efl:(P++[x]).reverse.flatten=x++P.reverse.flatten:=by simp
        refine⟨Sq'.app O7 hPn fr f1 f2,S57.app O7 hPn fr f1 f2,?_,?_,?_⟩
        · rw[dT,ar];exact O'
        · rw[efl,ar,ar,ap,aK]
          omega
        · rw[hD4,efl]
          rcases aE q with e|e
          · have:lq=[]:=wX Nq (by rw[Vq,e])
            rw[if_pos this,hdec0 e,h2 e];rfl
          · have:lq≠[]:=by rintro rfl;rw[jG]at Vq;omega
            rw[if_neg this,Vq,hdec e,h1 e,cW]
      have e0:((0:Nat):Int)=0:=rfl;have hlp:=congrArg List.length p2;rw[ar,oH 18 r (by omega)]at hlp;have hne1:=mB r;have c18:(bn r 18)≠[]:=fun e=>by have:=oH 18 r (by omega);rw[e]at this;simp at this
      rcases aE r with hr0|hr0
      · have elr:lr=[]:=wX Nr (by rw[Vr,hr0])
        rw[elr,aK]at lnr;have d48:bn r 1=[48]:=by rw[hr0];decide+kernel
        rw[d48]at p2 hne1 hlp;rcases aE q with hq0|hq0
        · have elq:lq=[]:=wX Nq (by rw[Vq,hq0])
          have lnq':=lnq;rw[elq,aK]at lnq';repeat'(with_reducible first|simp(disch:=try exact ab) only[go_sem,seval,h3,h4,h5,h6,lnr,lnq',e0,fY,jA]|(apply aj.i<;>intro hc))
          refine cO.TI (h0:=h) (b:=16) (by simp only[Hp.iL]) hG7 O7 (by omega) (by omega) fun v' h' G' O' fr f1 f2=>?_
          obtain⟨g1,g2,g3,g4,g5⟩:=fin _ v' h' hne1 (fun e=>absurd e (by omega)) (fun _=>d48.symm) G' O' fr f1 f2;repeat'(with_reducible first|simp(disch:=try exact ab) only[go_sem,seval,h3,h4,h5,h6]|(apply aj.i<;>intro hc))
          exact⟨q,hlt,vq,v5,v',lq,P++[[48]],rfl,rfl,rfl,G',g1,g2,Dq,Nq,hql,g3,by simp,g4,g5,Vq⟩
        · have lnq0:lq.length≠0:=fun e=>by
            have:=fL.1 e;rw[this,jG]at Vq;omega
          have lnq':(0:Int)<lq.length:=by omega
          have p2':Lib.repeatL [48] 17++[48]=bn r 18:=p2
          have hl17:(Lib.repeatL [48] 17).length=17:=by
            have:(Lib.repeatL [48] 17).length+1=18:=hlp;omega
          have cR:=fun{h:Hp} {K:AV→Hp→Prop}=>SE (h:=h) (K:=K) (s:=[48]) (n:=17) (by decide)
          have t17:(17:Int).toNat=17:=rfl;rw[t17]at cR;repeat'(with_reducible first|simp(disch:=try exact ab) only[go_sem,seval,h3,h4,h5,h6,lnr,lnq,lnq',e0,fY,cR,p2',hl17,jA]|(apply aj.i<;>intro hc))
          refine cO.TI (h0:=h) (b:=16) (by simp only[Hp.iL]) hG7 O7 (by omega) (by omega) fun v' h' G' O' fr f1 f2=>?_
          obtain⟨g1,g2,g3,g4,g5⟩:=fin _ v' h' c18 (fun _=>rfl) (fun e=>absurd e (by omega)) G' O' fr f1 f2;repeat'(with_reducible first|simp(disch:=try exact ab) only[go_sem,seval,h3,h4,h5,h6]|(apply aj.i<;>intro hc))
          exact⟨q,hlt,vq,v5,v',lq,P++[bn r 18],rfl,rfl,rfl,G',g1,g2,Dq,Nq,hql,g3,by simp,g4,g5,Vq⟩
      · have elr:lr=[r]:=tK (B:=18446744073709551616) (by decide) Dr (Dg.cons (by omega) Dg.nil) Nr (by simp[Norm];omega) (by rw[Vr];simp[vl])
        have ldr:=Sr.rd.load 0 (by rw[elr];simp);rw[elr,de,aY]at ldr;rw[elr,ap,aK,dd]at lnr;rw[elr,ap,aK,dd]at jn;have e1:((1:Nat):Int)=1:=rfl;rw[e1]at lnr jn;have cF:=fun{h:Hp} {K:AV→Hp→Prop}=>Uv (h:=h) (K:=K) (n:=r) (by omega)
        rcases aE q with hq0|hq0
        · have elq:lq=[]:=wX Nq (by rw[Vq,hq0])
          have lnq':=lnq;rw[elq,aK]at lnq';repeat'(with_reducible first|simp(disch:=try exact ab) only[go_sem,seval,h3,h4,h5,h6,lnr,lnq',jn,e00,ldr,cF,e0,fY,jA]|(apply aj.i<;>intro hc))
          refine cO.TI (h0:=h) (b:=16) (by simp only[Hp.iL]) hG7 O7 (by omega) (by omega) fun v' h' G' O' fr f1 f2=>?_
          obtain⟨g1,g2,g3,g4,g5⟩:=fin _ v' h' hne1 (fun e=>absurd e (by omega)) (fun _=>rfl) G' O' fr f1 f2;repeat'(with_reducible first|simp(disch:=try exact ab) only[go_sem,seval,h3,h4,h5,h6]|(apply aj.i<;>intro hc))
          exact⟨q,hlt,vq,v5,v',lq,P++[bn r 1],rfl,rfl,rfl,G',g1,g2,Dq,Nq,hql,g3,by simp,g4,g5,Vq⟩
        · have lnq0:lq.length≠0:=fun e=>by
            have:=fL.1 e;rw[this,jG]at Vq;omega
          have lnq':(0:Int)<lq.length:=by omega
          have cR:=fun{h:Hp} {K:AV→Hp→Prop}=>SE (h:=h) (K:=K) (s:=[48]) (n:=18-((bn r 1).length:Int)) (by simp only[ap,aK];omega)
          have t17:(18-((bn r 1).length:Int)).toNat=18-(bn r 1).length:=by omega
          rw[t17]at cR;repeat'(with_reducible first|simp(disch:=try exact ab) only[go_sem,seval,h3,h4,h5,h6,lnr,lnq,lnq',jn,e00,ldr,cF,e0,cR,p2,jA]|(apply aj.i<;>intro hc))
          refine cO.TI (h0:=h) (b:=16) (by simp only[Hp.iL]) hG7 O7 (by omega) (by omega) fun v' h' G' O' fr f1 f2=>?_
          obtain⟨g1,g2,g3,g4,g5⟩:=fin _ v' h' c18 (fun _=>rfl) (fun e=>absurd e (by omega)) G' O' fr f1 f2;repeat'(with_reducible first|simp(disch:=try exact ab) only[go_sem,seval,h3,h4,h5,h6]|(apply aj.i<;>intro hc))
          exact⟨q,hlt,vq,v5,v',lq,P++[bn r 18],rfl,rfl,rfl,G',g1,g2,Dq,Nq,hql,g3,by simp,g4,g5,Vq⟩
end
end
end Go.Ae
namespace Go.Ae
structure Gq (E E':Env):Prop where
 fns:∀f a,E.fns f=some a→E'.fns f=some a
 dG:∀f p,E.dG f=some p→∃p',E'.dG f=some p'∧∀args h x,p args h=some x→p' args h=some x
 more:∀f p,E.exts f=none→E.dG f=none→E'.dG f=some p→∀n args h x,call E n f args h=some x→p args h=some x
 exts:∀f,E'.exts f=E.exts f
 gF:∀T n,E'.gF T n=E.gF T n
section
variable {E E':Env}
theorem GA (hm:∀T n,E'.gF T n=E.gF T n){r r':Rec}(hca:∀f args h x,gB E r f args h=some x→gB E' r' f args h=some x){o:gM}{s:St}{x:AV×Hp}(hc:lU o E r s=some x):lU o E' r' s=some x:=by
 cases o<;>try exact hc
 ·exact hca _ _ _ _ hc
 ·simp only[lU,jP]at *;split at hc
  ·exact hca _ _ _ _ hc
  ·cases hc
 ·simp only[lU,qk]at *;split at hc
  ·rw[hm];split at hc
   ·exact hca _ _ _ _ hc
   ·cases hc
  ·cases hc
theorem Jp (hm:∀T n,E'.gF T n=E.gF T n){r r':Rec}(hca:∀f args h x,gB E r f args h=some x→gB E' r' f args h=some x)(hr:∀c s x,r c s=some x→r' c s=some x){c:au}{s:St}{x:Ex×St}(hc:step E r c s=some x):step E' r' c s=some x:=by
 cases c with
 |skip=>exact hc
 |ret=>exact hc
 |exit i=>exact hc
 |bad=>exact hc
 | cx ops=>
  cases ops with
  |nil=>exact hc
  | cons o l=>
   have hc:kc o l E r s=some x:=hc;show kc o l E' r' s=some x
   unfold kc at *;split at hc
   ·unfold kY at *;split at hc
    ·rename_i ho;rw[GA hm hca ho];exact hr _ _ _ hc
    ·cases hc
   ·exact hr _ _ _ hc
 |cm ops=>exact hr _ _ _ hc
 | kq ops i c0 acc=>
  cases ops with
  |nil=>exact hc
  | cons o l=>
   have hc:iY o l i c0 acc E r s=some x:=hc;show iY o l i c0 acc E' r' s=some x
   unfold iY at *;split at hc
   ·split at hc
    ·rename_i ho;rw[GA hm hca ho];simp only;split at hc
     ·rename_i h1;split at hc
      ·exact hr _ _ _ hc
      ·cases hc
     ·cases hc
    ·cases hc
   ·split at hc
    ·exact hr _ _ _ hc
    ·cases hc
 | seq a b=>
  have hc:iF a b E r s=some x:=hc;show iF a b E' r' s=some x
  unfold iF at *;split at hc
  ·rename_i h1;rw[hr _ _ _ h1];exact hr _ _ _ hc
  ·rename_i hne;rw[hr _ _ _ hc];obtain⟨e,s'⟩:=x;cases e with
   |fP=>exact absurd hc (hne _)
   |exit i=>rfl
   |ret=>rfl
 | cond y a b=>
  have hc:gY y a b E r s=some x:=hc;show gY y a b E' r' s=some x
  unfold gY at *;split at hc
  ·exact hr _ _ _ hc
  ·exact hr _ _ _ hc
  ·cases hc
 | block id a=>
  have hc:fk id a E r s=some x:=hc;show fk id a E' r' s=some x
  unfold fk at *;split at hc
  ·rename_i h1;rw[hr _ _ _ h1];exact hc
  ·rename_i hne;rw[hr _ _ _ hc];obtain⟨e,s'⟩:=x;cases e with
   |exit i=>exact absurd hc (hne _ _)
   |fP=>rfl
   |ret=>rfl
 | loop a=>
  have hc:gX a E r s=some x:=hc;show gX a E' r' s=some x
  unfold gX at *;split at hc
  ·rename_i h1;rw[hr _ _ _ h1];exact hr _ _ _ hc
  ·rename_i hne;rw[hr _ _ _ hc];obtain⟨e,s'⟩:=x;cases e with
   |fP=>exact absurd hc (hne _)
   |exit i=>rfl
   |ret=>rfl
theorem zX (g:Gq E E')(n:Nat)(hr:∀c s x,exec E n c s=some x→exec E' n c s=some x){f:Nat}{args:List AV}{h:Hp}{x:AV×Hp}(hc:gB E (exec E n) f args h=some x):gB E' (exec E' n) f args h=some x:=by
 have hc0:call E n f args h=some x:=hc;unfold gB at *;rw[g.exts];split at hc
 ·exact hc
 ·rename_i he;split at hc
  ·rename_i p hp;obtain⟨p',hp',hpp⟩:=g.dG f p hp;rw[hp'];exact hpp _ _ _ hc
  ·rename_i hp;split at hc
   ·cases hc
   ·rename_i fn hf;cases hq:E'.dG f with
    |some p=>exact g.more f p he hp hq n args h x hc0
    | none=>
     rw[g.fns _ _ hf];simp only;cases hx:exec E n fn.code { tm:=ie args 0 .nil,hp:=h }with
     |none=>rw[hx]at hc;cases hc
     |some y=>rw[hx]at hc;rw[hr _ _ _ hx];exact hc
theorem xt (g:Gq E E'):∀(n:Nat) (c:au) (s:St) (x:Ex×St),exec E n c s=some x→exec E' n c s=some x
 |0,_,_,_,h=>by cases h
 | n+1,c,s,x,h=>by
  rw[aN]at *;exact Jp g.gF (fun f args h x=>zX g n (xt g n)) (xt g n) h
theorem dE.gq (g:Gq E E'){f:Nat}{args:List AV}{h h':Hp}{v:AV}(hc:dE E f args h v h'):dE E' f args h v h':=by
 obtain⟨n,hn⟩:=hc;exact⟨n,zX g n (xt g n) hn⟩
theorem ac.gq (g:Gq E E'){f:Nat}{args:List AV}{h:Hp}{K:AV→Hp→Prop}(hc:ac E f args h K):ac E' f args h K:=by
 obtain⟨v,h',h1,h2⟩:=hc;exact⟨v,h',h1.gq g,h2⟩
theorem Zv (g:Gq E E'){f:Nat}{args:List AV}{h h':Hp}{v:AV}{K:AV→Hp→Prop}(hc:∀K,ac E f args h K↔K v h'):ac E' f args h K↔K v h':=
 ac.cZ (((hc _).2 ⟨rfl,rfl⟩).gq g)
theorem Gv.gq (g:Gq E E'){f:Nat}{args:List AV}{h:Hp}{v:AV}(hc:Gv E f args h v):Gv E' f args h v:=hc.ge fun _ _ _ hk=>hk.gq g
theorem Gp.gq (g:Gq E E'){f:Nat}{args:List AV}{h:Hp}{p:AV→Hp→Prop}(hc:Gp E f args h p):Gp E' f args h p:=by
 obtain⟨v,h',h1,h2,h3⟩:=hc;exact⟨v,h',h1.gq g,h2,h3⟩
def Env.pX (E:Env)(f:Nat)(p:Prim):Env:={ E with dG:=fun n=>if n=f then some p else E.dG n }
theorem Gq.pX {f:Nat}{p q:Prim}(hp:E.dG f=some q)(hm:∀args h x,q args h=some x→p args h=some x):Gq E (E.pX f p) where
 fns:=fun _ _ h=>h
 dG:=by
  intro k q' hq;show ∃p',(if k=f then some p else E.dG k)=some p'∧_
  by_cases e:k=f
  ·subst e;rw[hp]at hq;obtain rfl:=aa hq;exact⟨p,if_pos rfl,hm⟩
  ·exact⟨q',(if_neg e).trans hq,fun _ _ _ h=>h⟩
 more:=by
  intro k q' he hk hq n args h x hc;have hq:(if k=f then some p else E.dG k)=some q':=hq;by_cases e:k=f
  ·subst e;rw[hp]at hk;cases hk
  ·rw[if_neg e,hk]at hq;cases hq
 exts:=fun _=>rfl
 gF:=fun _ _=>rfl
section
variable {P:Program}{W0:World}{base:Nat}{f:Nat}
theorem fC.pX {p:Prim}(EO:fC P W0 base E)(hp:∀args h v h',p args h=some (v,h')→bH h h'∧∀ρ w,bl base W0 w→bv base ρ h w→gP ρ h.next args→dQ P base ρ h w (callFunc f (encs ρ args).toArray) v h'):fC P W0 base (E.pX f p) where
 fns:=EO.fns
 exts:=EO.exts
 gF:=EO.gF
 mixed:=EO.mixed
 dG:=by
  intro k q hq args h v h' hv ρ w B R hok;simp only[Env.pX]at hq;split at hq
  ·rename_i e;subst e;obtain rfl:=aa hq;exact(hp args h v h' hv).2 ρ w B R hok
  ·exact EO.dG k q hq args h v h' hv ρ w B R hok
 later:=by
  intro k q args h v h' hq hv;simp only[Env.pX]at hq;split at hq
  ·obtain rfl:=aa hq;exact(hp args h v h' hv).1
  ·exact EO.later k q args h v h' hq hv
end
end
open Go.Proofs Go.RowKit N
noncomputable section
section
variable {W0:World}{base:Nat}{E:Env}{ρ:dw}{s:St}{a:Act}{w:World}{h:Hp}{z:Int}
theorem Jj {neg:Bool}{tp st:Nat}{X:List (List UInt8)}(EO:fC Tryz.prog W0 base E)(S:mE W0 base 69 ρ s a w)(h3:val s.tm (.t 3)= .bool neg)(h6:val s.tm (.t 6)= .sl tp 0 X.length 1)(hg:s.hp.get tp=some (.row (X.map AV.str) true st))
    (hX:X.length≤500000) (hl:X.reverse.flatten.length≤500000):
    U0.wp Tryz.prog (fun e a' w'=>e= .ret∧a'.defers=[]∧a'.tmps.getD 2 undef= .string ⟨((if neg=true then[45]else[])++X.reverse.flatten).toArray⟩∧bv base ρ s.hp w'∧pR ρ s.hp w w') a w:=by
  obtain⟨tb,htb⟩:∃tb,tb=s.hp.next:=⟨_,rfl⟩
  obtain⟨hT,hhT⟩:∃hT,hT=s.hp.push fun st=> .dead st:=⟨_,rfl⟩
  obtain⟨ρT,hρT⟩:∃ρT,ρT=rK ρ s.hp.next ⟨w.heap.size,0,0,0⟩:=⟨_,rfl⟩
  obtain⟨w1,hw1⟩:∃w1,w1=w.alloc (.cells #[.pointer none,.slice none 0 0] 263):=⟨_,rfl⟩
  have hag:cV s.hp.next ρ ρT:=by rw[hρT];exact il _ _ _
  have hsz:w.heap.size≤w1.heap.size:=by rw[hw1];show w.heap.size≤(w.heap.push _).size;simp
  have hbl:∀k,k<w.heap.size→w1.heap[k]?=w.heap[k]?:=fun k hk=>by rw[hw1];exact jQ w _ k hk
  have X1:Ext base ρ s.hp w ρT hT w1:=by
    rw[hhT];exact Ext.nk S.rel _ hag (by rw[hw1];rfl) (by rw[hw1];rfl) (by rw[hw1];rfl) hsz hbl trivial
  have hgp:∀t,hT.get t=if t=s.hp.next then some (.dead (s.hp.dc+1))else s.hp.get t:=fun t=>by rw[hhT,Hp.cM]
  have hnx:hT.next=s.hp.next+1:=by rw[hhT];rfl
  have T:TB base ρT hT w tb:=by
    refine⟨S.rel.size,fun t o ht ho=>?_,?_⟩
    · rw[hgp]at ht
      split at ht
      · obtain rfl:=aa ht;cases ho
      · have h1:=S.rel.lt t o ht
        have h2:=S.rel.hC ht ho;rw[hag t h1,hnx];exact⟨by omega,h2.2⟩
    · rw[htb,hnx,hρT,cb]
      exact⟨by omega,rfl,rfl⟩
  have S1:=S.put X1 (v:= .ptr tb 0) (by show tb<hT.next;rw[htb,hnx];omega) (some 10) (fun x e=>by cases e;decide);rw[T.enc (cV.refl _ _)]at S1;have K1:pR ρT hT w w1:=⟨by rw[hw1];rfl,by rw[hw1];rfl,by rw[hw1];rfl,hsz,fun k hk _=>hbl k hk⟩
  have B1:Lib.IsBuilder 263 5 w.heap.size w.heap.size (Lib.byteCells []) w1:=by
    rw[hw1];exact .inl ⟨ae _,.slice none 0 0,lL w _,World.ownsRow_nil _ _ _ _,by simp[Value.ownBlock]⟩
  have J1:TJ W0 base ρT hT w (DS neg (.sl tp 0 X.length 1) tb) [] (a.put (some 10) (.pointer (some ⟨w.heap.size,0,none⟩))) w1:=
    ⟨⟨ρT,_,S1,⟨(by show val (put s.tm (some 10) _) _=_;rw[show put s.tm (some 10) (.ptr tb 0)=s.tm.set 10 (.ptr tb 0) from rfl,gO,if_neg (by decide)];exact h3),(by show val (put s.tm (some 10) _) _=_;rw[show put s.tm (some 10) (.ptr tb 0)=s.tm.set 10 (.ptr tb 0) from rfl,gO,if_neg (by decide)];exact h6),(by show val (put s.tm (some 10) _) _=_;rw[show put s.tm (some 10) (.ptr tb 0)=s.tm.set 10 (.ptr tb 0) from rfl,gO,if_pos rfl])⟩,rfl,cV.refl _ _⟩,K1,B1⟩
  have hg':hT.get tp=some (.row (X.map AV.str) true st):=by
    rw[hgp,if_neg (by have:=S.rel.lt _ _ hg;omega)];exact hg
  rw[t264];refine wp_seq ?_;rw[s15];refine wp_region ?_;rw[z15];show wpOps _ _ _ [0] a w
  refine JI o15 g15 Iw ?_;rw[wpOps,d15,←hw1];show(Code.seq (.seq Uk (.cond (.tmp 54) EY .skip)) _).wp Tryz.prog _ _ w1
  refine wp_seq (wp_seq ?_);refine wp_mono (TJ.code EO T J1 (D':=fun s=>DS neg (.sl tp 0 X.length 1) tb s∧val s.tm (.t 54)= .bool neg) (c:=Uk) ?_) fun e2 a2 w2 ⟨he,J2⟩=>?_
  · rintro⟨tm,hp⟩ ⟨h3,h6,h10⟩ hh
    simp only at h3 h6 h10;rw[Bk];unfold DS;repeat'(with_reducible first|simp(disch:=try exact ab) only[go_sem,seval,h3,h6,h10]|(apply aj.i<;>intro hc))
  subst he;show(Code.cond (.tmp 54) EY .skip).wp Tryz.prog _ a2 w2
  have rest:∀(a3:Act) (w3:World),TJ W0 base ρT hT w (DS neg (.sl tp 0 X.length 1) tb) (if neg=true then[45]else[]) a3 w3→
      (Code.seq (.seq Uj (.block 2 (.loop (.seq (.seq Ty (.cond (.tmp 60) .skip (.exit 2))) (.seq (.block 3 xI) Pv))))) (.seq Al .ret)).wp Tryz.prog
        (fun e a' w'=>e= .ret∧a'.defers=[]∧a'.tmps.getD 2 undef= .string ⟨((if neg=true then[45]else[])++X.reverse.flatten).toArray⟩∧bv base ρ s.hp w'∧pR ρ s.hp w w') a3 w3:=by
    intro a3 w3 J3;refine wp_seq (wp_seq ?_);refine wp_mono (TJ.code EO T J3 (D':=DI neg (.sl tp 0 X.length 1) tb ((X.length:Int)-1)) (c:=Uj) ?_) fun e4 a4 w4 ⟨he,J4⟩=>?_
    · rintro⟨tm,hp⟩ ⟨h3,h6,h10⟩ hh
      simp only at h3 h6 h10;rw[IP];unfold DI DS;have hw:IntKind.wrap .i64 ((X.length:Int)-1)=(X.length:Int)-1:=wrap_i64 (by omega);repeat'(with_reducible first|simp(disch:=try exact ab) only[go_sem,seval,h3,h6,h10,hw]|(apply aj.i<;>intro hc))
    subst he;show(Code.block 2 _).wp Tryz.prog _ a4 w4
    have hpre:(if neg=true then[45]else[]:List UInt8).length≤1:=by split<;>simp
    refine wp_mono (JV EO T hg' (by omega) (by omega) J4) fun e5 a5 w5 ⟨he,i,J5⟩=>?_
    subst he;show(Code.seq Al .ret).wp Tryz.prog _ a5 w5
    refine wp_seq ?_;refine wp_mono (NP EO T J5) fun e6 a6 w6 ⟨he,ρ6,s6,S6,h2,hh6,ha6,K6⟩=>?_
    subst he;refine wp_ret ⟨rfl,S6.defers,?_,?_,?_⟩
    · have:=(S6.tmp 2).1
      rw[h2]at this;rw[this];simp[Ae.enc]
    · have R6:=S6.rel
      rw[hh6]at R6;refine S.rel.shrink R6 ((hag.trans ha6 (by rw[hnx];omega))) fun t ht=>?_
      rw[hgp,if_neg (by omega)]
    · refine⟨K6.os,K6.tape,K6.output,K6.size,fun k hk hn=>K6.block k hk fun t o ht ho hb=>?_⟩
      rw[hgp]at ht;split at ht
      · obtain rfl:=aa ht;cases ho
      · rw[hag t (S.rel.lt t o ht)]at hb
        exact hn t o ht ho hb
  obtain⟨ρ2,s2,S2,⟨hD2,h54⟩,hh2,ha2⟩:=J2.ex
  have e54:a2.eval (.tmp 54)= .bool neg:=by
    have:=(S2.tmp 54).1;rw[h54]at this;exact this.trans (by simp[Ae.enc])
  have J2':TJ W0 base ρT hT w (DS neg (.sl tp 0 X.length 1) tb) [] a2 w2:=⟨⟨ρ2,s2,S2,hD2,hh2,ha2⟩,J2.eK,J2.bld⟩
  cases neg with
  | true=>
    refine wp_cond_true e54 ?_;refine wp_mono (NR T J2' (by simp)) fun e3 a3 w3 ⟨he,J3⟩=>?_
    subst he;exact rest a3 w3 J3
  | false=>
    refine wp_cond_false e54 (wp_skip ?_);exact rest a2 w2 J2'
theorem kB:fK Tryz.prog 69 L6=S.B7.code:=by kernel_rfl
theorem yf (G:L.kz W0 base){t o n:Nat}{sg:Int}(Bl:Below base W0 w)(R:bv base ρ h w)(iv:gj h (.int .i64 sg) (.sl t o n 1) z)(lz:fq 3999 z)(hok:gP ρ h.next [.agg [.int .i64 sg,.sl t o n 1]]):
  dQ Tryz.prog base ρ h w (callFunc 264 (encs ρ [.agg [.int .i64 sg,.sl t o n 1]]).toArray) (.str (bB z)) h:=by
 have hD:(bn z.natAbs 1).length≤79980:=by
  refine(jz (by decide)).2 ?_;have h1:(18446744073709551616:Nat)^3999≤(10^20)^3999:=Nat.pow_le_pow_left (by decide) _;have h2:((10:Nat)^20)^3999=10^79980:=by rw[←mH]
  rw[←h2];exact ah lz h1
 obtain⟨e,s',⟨m,hm⟩,rfl,hG,h3,v6,X,h6,O6,hX0,hXD,hXl⟩:=FH iv lz;rw[←kB]at hm;obtain⟨hlen,⟨_,hn0⟩|⟨tp,st,rfl,hg,hlt1,hlt2,hlt3⟩⟩:=O6
 ·exact absurd (fL.1 hn0) hX0
 have hXf:X.reverse.flatten.length≤79980:=by rw[hXD];exact hD
 refine dQ.call (by kernel_rfl) ?_;refine calls_of_wp Tryz.func264 Ph ?_;refine DM (OR G) (nt:=69) 6 m L6 _ s' (by kernel_rfl) hm ρ _ w (Ed R Bl hok) fun a' w' ρ' S' X'=>?_
 show U0.wp Tryz.prog _ a' w'
 refine wp_mono (Jj (OR G) S' h3 h6 hg (by omega) (by omega)) fun e a2 w2 ⟨he,hd,h2,R2,K2⟩=>?_
 subst he;refine bodyPost_ret (results_tmp rfl a2.tmps Tryz.prog w2) hd ?_;rw[h2];have X2:Ext base ρ h w ρ' s'.hp w2:=X'.trans ⟨cV.refl _ _,ae _,R2,K2,fun t o ht ho=> .inr ⟨t,o,ht,ho,rfl⟩⟩;refine⟨ρ,?_,trivial,cV.refl _ _,ae _,R.shrink X2.rel X2.agree fun t ht=>hG.get ht,X2.eK,fun t o ht ho=> .inr ⟨t,o,ht,ho,rfl⟩⟩
 have et:(if decide (z<0)=true then[45]else[])++X.reverse.flatten=bB z:=by
  rw[hXD];unfold bB;by_cases c:z<0
  ·rw[decide_eq_true c,if_pos rfl,if_pos c];rfl
  ·rw[decide_eq_false c,if_neg (by decide),if_neg c];rfl
 rw[et];simp[Ae.enc]
end
end
end Go.Ae
namespace Go.Ae
open Bg
noncomputable section
section
variable {h hp:Hp}{K:AV→Hp→Prop}{s w s' w':AV}{x y z:Int}
theorem Gv.gp {E:Env}{f:Nat}{args:List AV}{v:AV}{p:AV→Hp→Prop}(hc:Gv E f args h v)(hp:∀h',aH h h'→p v h'):Gp E f args h p:=by
 obtain⟨h',h1,g⟩:=hc;exact⟨v,h',h1,g,hp h' g⟩
theorem rF.sI (hz: -9223372036854775808≤z∧z≤9223372036854775807):rF h (sI z) z:=⟨_,_,rfl,gj.small hz⟩
theorem GQ {tm:T AV}{p2 p3 p4:Nat}(h2:val tm (.t 2)= .ptr p2 0)(h3:val tm (.t 3)= .ptr p3 0)(h4:val tm (.t 4)= .ptr p4 0)(g2:bG hp p2 [s,w])(g3:bG hp p3 [s',w'])(g4:bG hp p4 [.int .i64 0,.aq])
  (hG:aH h hp) (hn:h.next≤p4) (ix:gj hp s w x) (iy:gj hp s' w' y) (lx:fq 4000 x) (ly:fq 4000 y):
  Wp E2 (C.pP.code.post 2) ⟨tm,hp⟩ (gy [.cell 4 true 2] fun v h'=>rF h' v (x*y)∧aH h h'):=by
 unfold C.pP;dsimp only[au.post];obtain⟨s2,q2,_,t2⟩:=g2;obtain⟨s3,q3,_,t3⟩:=g3;obtain⟨s4,q4,_,t4⟩:=g4;repeat'(with_reducible first|simp(disch:=try exact ab) only[go_sem,seval,h2,h3,h4,q2]|(apply aj.i<;>intro hc))
 refine Gp.wp (vd ix) fun v h1 k1 j1 u1 ⟨w1,l1,e,S1,D1,N1,V1,L1⟩=>?_
 subst e;have iy1:=iy.ov (g:=u1);have m1:=lx.len N1 V1;repeat'(with_reducible first|simp(disch:=try exact ab) only[go_sem,seval,h2,h3,h4,q3]|(apply aj.i<;>intro hc))
 refine Gp.wp (vd iy1) fun v h2' k2 j2 u2 ⟨w2,l2,e,S2,D2,N2,V2,L2⟩=>?_
 subst e;have m2:=ly.len N2 V2;have S1':=S1.ov (g:=u2);have ls:=lx.mul ly;repeat'(with_reducible first|simp(disch:=try exact ab) only[go_sem,seval,h2,h3,h4]|(apply aj.i<;>intro hc))
 refine Gp.wp (WU S1' S2 D1 D2 (by omega) (by omega)) fun v h3' k3 j3 u3 ⟨l,S3,D3,N3,V3⟩=>?_
 have e3:iB (decide (¬decide (x<0)=decide (y<0))) (vl 18446744073709551616 l)=x*y:=Cw (by rw[V3,V1,V2]);have m3:=ls.len N3 (by rw[V3,V1,V2,fu]);repeat'(with_reducible first|simp(disch:=try exact ab) only[go_sem,seval,h2,h3,h4]|(apply aj.i<;>intro hc))
 refine Gp.wp (zY S3 D3 N3 (by omega)) fun v h4' k4 j4 u4 I4=>?_
 obtain⟨a,b,rfl,o1,o2,I4⟩:=I4.ex;rw[e3]at I4;have q4':((((hp.ov h1 u1).ov h2' u2).ov h3' u3).ov h4' u4).get p4=some (.row [.int .i64 0,.aq] true s4):=by simp(disch:=try exact ab) only[go_sem,seval,q4]
 repeat'(with_reducible first|simp(disch:=try exact ab) only[go_sem,seval,h4,q4,o1,o2]|(apply aj.i<;>intro hc))
 refine⟨⟨a,b,rfl,I4.put q4'⟩,?_⟩;exact aL
theorem i195 (ix:gj h s w x)(iy:gj h s' w' y)(lx:fq 4000 x)(ly:fq 4000 y):Gp E2 195 [.agg [s,w],.agg [s',w']] h fun v h'=>rF h' v (x*y):=by
 obtain⟨o1,o2⟩:=ix.one;obtain⟨o3,o4⟩:=iy.one;have A2:bG (((h.push fun st=> .row [s,w] true st).push fun st=> .row [s',w'] true st).push fun st=> .row [.int .i64 0,.aq] true st) h.next [s,w]:=(bG.push.aO (aH.refl _).push.push)
 have A3:bG (((h.push fun st=> .row [s,w] true st).push fun st=> .row [s',w'] true st).push fun st=> .row [.int .i64 0,.aq] true st) (h.next+1) [s',w']:=(bG.push.aO (aH.refl _).push)
 have A4:bG (((h.push fun st=> .row [s,w] true st).push fun st=> .row [s',w'] true st).push fun st=> .row [.int .i64 0,.aq] true st) (h.next+1+1) [.int .i64 0,.aq]:=bG.push;have G:aH h (((h.push fun st=> .row [s,w] true st).push fun st=> .row [s',w'] true st).push fun st=> .row [.int .i64 0,.aq] true st):=(aH.refl h).push.push.push
 have tail:=fun(hp:Hp) (tm:T AV) (p2 p3 p4:Nat) h2 h3 h4 g2 g3 g4 (hG:aH h hp) hn ix iy=>GQ (h:=h) (hp:=hp) (tm:=tm) (p2:=p2) (p3:=p3) (p4:=p4) (s:=s) (w:=w) (s':=s') (w':=w') h2 h3 h4 g2 g3 g4 hG hn ix iy lx ly
 rcases ix.cases with⟨rfl,rfl,hx⟩|⟨n,t,o,rfl,_⟩
 ·rcases iy.cases with⟨rfl,rfl,hy⟩|⟨n,t,o,rfl,_⟩
  ·by_cases hs:x.natAbs*y.natAbs≤9223372036854775807
   ·refine(SI hx hy hs).gp fun h' _=>rF.sI ?_
    have:=fu x y;omega
   ·refine Gp.of (ac.fn (fn:=C.pP) rfl rfl rfl ?_);refine Wp.cut 2 rfl ?_;generalize au.post 2 C.pP.code=r at tail⊢
    unfold C.pP;dsimp only[au.pre];have hxn:x.natAbs<18446744073709551616:=by omega
    have hyn:y.natAbs<18446744073709551616:=by omega
    by_cases h0:x.natAbs*y.natAbs/18446744073709551616=0
    ·have e2:x.natAbs*y.natAbs%18446744073709551616=x.natAbs*y.natAbs:=by omega
     have e3:¬((x.natAbs*y.natAbs:Nat):Int)≤9223372036854775807:=fun e=>hs (Int.ofNat_le.1 e)
     have e0:((0:Nat):Int)=0:=rfl;repeat'(with_reducible first|simp(disch:=try exact ab) only[go_sem,seval,BX,sj,h0,e0,e2,e3]|(apply aj.i<;>intro hc))
     exact tail _ _ _ _ _ aS aS aS A2 A3 A4 G (by omega) (ix.aO G) (iy.aO G)
    ·have h0':¬((x.natAbs*y.natAbs/18446744073709551616:Nat):Int)=0:=by omega
     repeat'(with_reducible first|simp(disch:=try exact ab) only[go_sem,seval,BX,sj,h0']|(apply aj.i<;>intro hc))
     exact tail _ _ _ _ _ aS aS aS A2 A3 A4 G (by omega) (ix.aO G) (iy.aO G)
  ·refine Gp.of (ac.fn (fn:=C.pP) rfl rfl rfl ?_);refine Wp.cut 2 rfl ?_;generalize au.post 2 C.pP.code=r at tail⊢
   unfold C.pP;dsimp only[au.pre];repeat'(with_reducible first|simp(disch:=try exact ab) only[go_sem,seval,o3]|(apply aj.i<;>intro hc))
   exact tail _ _ _ _ _ aS aS aS A2 A3 A4 G (by omega) (ix.aO G) (iy.aO G)
 ·refine Gp.of (ac.fn (fn:=C.pP) rfl rfl rfl ?_);refine Wp.cut 2 rfl ?_;generalize au.post 2 C.pP.code=r at tail⊢
  unfold C.pP;dsimp only[au.pre];repeat'(with_reducible first|simp(disch:=try exact ab) only[go_sem,seval,o1,o3,o4]|(apply aj.i<;>intro hc))
  exact tail _ _ _ _ _ aS aS aS A2 A3 A4 G (by omega) (ix.aO G) (iy.aO G)
def Eo (x y:Int):Int:=if x<y then -1 else if y<x then 1 else 0
theorem i192 (ix:gj h s w x)(iy:gj h s' w' y)(lx:fq 4000 x)(ly:fq 4000 y):Gv E2 192 [.agg [s,w],.agg [s',w']] h (.int .i64 (Eo x y)):=by
 obtain⟨o1,o2⟩:=ix.one;obtain⟨o3,o4⟩:=iy.one;have key:max (-1) (min 1 (x-y))=Eo x y:=by unfold Eo;split<;>(try split)<;>omega
 rcases ix.cases with⟨rfl,rfl,hx⟩|⟨n,t,o,rfl,_⟩
 ·rcases iy.cases with⟨rfl,rfl,hy⟩|⟨n,t,o,rfl,_⟩
  ·exact WZ
  ·refine Gv.of (ac.fn (fn:=C.Ai) rfl rfl rfl ?_);unfold C.Ai;repeat'(with_reducible first|simp(disch:=try exact ab) only[go_sem,seval,o3]|(apply aj.i<;>intro hc))
   refine Gp.wp (i260 (ix.aO aL) (iy.aO aL) lx ly) fun v h1 k1 j1 u1 I1=>?_
   obtain⟨a,b,rfl,p1,p2,I1⟩:=I1.ex;repeat'(with_reducible first|simp(disch:=try exact ab) only[go_sem,seval,key]|(refine Gv.wp (i194 I1) fun _ _ _ _=>?_)|(apply aj.i<;>intro hc))
   exact aL
 ·refine Gv.of (ac.fn (fn:=C.Ai) rfl rfl rfl ?_);unfold C.Ai;repeat'(with_reducible first|simp(disch:=try exact ab) only[go_sem,seval,o1,o3,o4]|(apply aj.i<;>intro hc))
  refine Gp.wp (i260 (ix.aO aL) (iy.aO aL) lx ly) fun v h1 k1 j1 u1 I1=>?_
  obtain⟨a,b,rfl,p1,p2,I1⟩:=I1.ex;repeat'(with_reducible first|simp(disch:=try exact ab) only[go_sem,seval,key]|(refine Gv.wp (i194 I1) fun _ _ _ _=>?_)|(apply aj.i<;>intro hc))
  exact aL
theorem i257 (ix:gj h s w x)(lx:fq 9000 x):Gp E2 257 [.agg [s,w]] h fun v h'=>rF h' v (x.natAbs:Int):=by
 obtain⟨o1,o2⟩:=ix.one;refine Gp.of (ac.fn (fn:=C.K7) rfl rfl rfl ?_);unfold C.K7;by_cases h0:x<0
 ·have hs:∃n,s= .int .i64 n∧n<0:=by
   rcases ix.cases with⟨rfl,rfl,hx⟩|⟨n,t,o,rfl,_,⟨rfl,c⟩|⟨rfl,c⟩⟩
   ·exact⟨_,rfl,h0⟩
   ·omega
   ·exact⟨_,rfl,by omega⟩
  obtain⟨n,rfl,hn⟩:=hs;repeat'(with_reducible first|simp(disch:=try exact ab) only[go_sem,seval,o2,hn]|(apply aj.i<;>intro hc))
  refine Gp.wp (i200 (ix.aO aL) lx) fun v h1 k1 j1 u1 I1=>?_
  obtain⟨a,b,rfl,p1,p2,I1⟩:=I1.ex;rw[show -x=(x.natAbs:Int) by omega]at I1;repeat'(with_reducible first|simp(disch:=try exact ab) only[go_sem,seval,p1,p2]|(apply aj.i<;>intro hc))
  refine⟨⟨a,b,rfl,I1.put (st:=h.dc+1+1) (own:=true) (cs:=[.aq]) ?_⟩,?_⟩
  ·simp(disch:=try exact ab) only[go_sem,seval]
  ·exact aL
 ·have hs:∃n,s= .int .i64 n∧¬n<0:=by
   rcases ix.cases with⟨rfl,rfl,hx⟩|⟨n,t,o,rfl,_,⟨rfl,c⟩|⟨rfl,c⟩⟩
   ·exact⟨_,rfl,h0⟩
   ·exact⟨_,rfl,by omega⟩
   ·omega
  obtain⟨n,rfl,hn⟩:=hs;have e:(x.natAbs:Int)=x:=by omega
  repeat'(with_reducible first|simp(disch:=try exact ab) only[go_sem,seval,o2,hn]|(apply aj.i<;>intro hc))
  refine⟨⟨_,_,rfl,?_⟩,?_⟩
  ·rw[e];exact ix.aO aL
  ·exact aL
end
end
end Go.Ae
namespace Go.Ae
open Bg
noncomputable section
def xf:Option cP→Bool
 |some (.row (.int .i64 _::_) _ _)=>true
 |_=>false
section
variable {h hp:Hp}{K:AV→Hp→Prop}{s w s' w':AV}{x y z:Int}
theorem aG {n:Int}{cs:List AV}{own:Bool}{st:Nat}:xf (some (.row (.int .i64 n::cs) own st))=true:=rfl
theorem DY {p:Nat}(hc:xf (h.get p)=true):∃n cs own st,h.get p=some (.row (.int .i64 n::cs) own st):=by
 cases hq:h.get p with
 |none=>rw[hq]at hc;cases hc
 | some o=>
  rw[hq]at hc;match o,hc with
  | .row (.int .i64 n::cs) own st,_=>exact⟨n,cs,own,st,rfl⟩
theorem Sq.eZ {p:Nat}{v:AV}{l:List Nat}{f:Nat→cP}(i:Sq .u64 h v l)(hc:xf (h.get p)=true):Sq .u64 (h.put p f) v l:=by
 obtain⟨n,cs,own,st,hq⟩:=DY hc;rcases i with i|⟨t,o,own',st',L,e,hg,r1,r2,r3,r4⟩
 ·exact .inl i
 ·refine .inr ⟨t,o,own',st',L,e,(Hp.eW ?_).trans hg,r1,r2,r3,Nat.le_succ_of_le r4⟩;rintro rfl;rw[hq]at hg;cases L with
  |nil=>simp at hg
  |cons a L=>simp[wd]at hg
theorem gj.eZ {p:Nat}{f:Nat→cP}(i:gj h s w z)(hc:xf (h.get p)=true):gj (h.put p f) s w z:=by
 rcases i with i|⟨n,t,o,l,e,hs,r⟩
 ·exact .inl i
 ·exact .inr ⟨n,t,o,l,e,hs.eZ hc,r⟩
theorem rF.pe {v:AV}(i:rF h v z):∃n w,v= .agg [.int .i64 n,w]∧w.one=true∧gj h (.int .i64 n) w z:=by
 obtain⟨s,w,rfl,i⟩:=i;rcases i.cases with⟨rfl,rfl,_⟩|⟨n,t,o,rfl,_,⟨rfl,_⟩|⟨rfl,_⟩⟩
 ·exact⟨_,_,rfl,rfl,i⟩
 ·exact⟨_,_,rfl,rfl,i⟩
 ·exact⟨_,_,rfl,rfl,i⟩
theorem gj.fst (i:gj h s w z):∃n,s= .int .i64 n:=by
 rcases i.cases with⟨rfl,rfl,_⟩|⟨n,t,o,rfl,_,⟨rfl,_⟩|⟨rfl,_⟩⟩<;>exact⟨_,rfl⟩
def DmP (x y:Int)(v:AV)(h':Hp):Prop:=∃va vb,v= .fO [va,vb]∧rF h' va (x.fdiv y)∧rF h' vb (x.fmod y)
theorem FP (hy:0<y):iB (decide (x<0)) (x.natAbs/y.natAbs)=x.tdiv y∧iB (decide (x<0)) (x.natAbs%y.natAbs)=x.tmod y:=by
 obtain⟨m,rfl⟩:∃m:Nat,y=m:=⟨y.toNat,by omega⟩
 rcases Int.lt_or_le x 0 with c|c
 ·obtain⟨n,rfl⟩:∃n:Nat,x= -(n:Int):=⟨(-x).toNat,by omega⟩
  rw[Int.neg_tdiv,Int.neg_tmod,sc,aw,aw];unfold iB;rw[decide_eq_true c,if_pos rfl,if_pos rfl];exact⟨rfl,rfl⟩
 ·obtain⟨n,rfl⟩:∃n:Nat,x=n:=⟨x.toNat,by omega⟩
  rw[aw,aw];unfold iB;rw[decide_eq_false (by omega),if_neg (by decide),if_neg (by decide)];exact⟨rfl,rfl⟩
theorem fq.le {n:Nat}{x y:Int}(h:fq n x)(hl:y.natAbs≤x.natAbs):fq n y:=gR hl h
theorem Kq {tm:T AV}{p2 p3 p4 p5:Nat}{n':Int}(h2:val tm (.t 2)= .ptr p2 0)(h3:val tm (.t 3)= .ptr p3 0)(h4:val tm (.t 4)= .ptr p4 0)(h5:val tm (.t 5)= .ptr p5 0)(g2:bG hp p2 [s,w])(g3:bG hp p3 [.int .i64 n',w'])(g4:bG hp p4 [.int .i64 0,.aq])(g5:bG hp p5 [.int .i64 0,.aq])
  (hG:aH h hp) (hn:h.next≤p4) (h45:p4<p5) (ix:gj hp s w x) (iy:gj hp (.int .i64 n') w' y) (lx:fq 3999 x) (ly:fq 3999 y) (hy:0<y):
  Wp E2 (C.pO.code.post 2) ⟨tm,hp⟩ (gy [.cell 4 true 2,.cell 5 true 2] fun v h'=>DmP x y v h'∧aH h h'):=by
 unfold C.pO;dsimp only[au.post];obtain⟨s2,q2,_,t2⟩:=g2;obtain⟨s3,q3,_,t3⟩:=g3;obtain⟨s4,q4,_,t4⟩:=g4;obtain⟨s5,q5,_,t5⟩:=g5;obtain⟨et,em⟩:=FP (x:=x) hy;repeat'(with_reducible first|simp(disch:=try exact ab) only[go_sem,seval,h2,h3,h4,h5,q2]|(apply aj.i<;>intro hc))
 refine Gp.wp (vd ix) fun v h1 k1 j1 u1 ⟨w1,l1,e,S1,D1,N1,V1,L1⟩=>?_
 subst e;have iy1:=iy.ov (g:=u1);have m1:=lx.len N1 V1;repeat'(with_reducible first|simp(disch:=try exact ab) only[go_sem,seval,h2,h3,h4,h5,q3]|(apply aj.i<;>intro hc))
 refine Gp.wp (vd iy1) fun v h2' k2 j2 u2 ⟨w2,l2,e,S2,D2,N2,V2,L2⟩=>?_
 subst e;have m2:=ly.len N2 V2;have S1':=S1.ov (g:=u2);have iy2:=iy1.ov (g:=u2);have b0:l2≠[]:=by rintro rfl;rw[jG]at V2;omega
 repeat'(with_reducible first|simp(disch:=try exact ab) only[go_sem,seval,h2,h3,h4,h5]|(apply aj.i<;>intro hc))
 refine Gp.wp (SD S1' S2 D1 D2 N1 N2 (by omega) (by omega) b0) fun v h3' k3 j3 u3 ⟨vq,vr,lq,lr,e,Sq',Sr',Dq,Dr,Nq,Nr,Vq,Vr⟩=>?_
 subst e;rw[V1,V2]at Vq Vr;have ql:lq.length≤3999:=sF Nq (by rw[Vq];exact gR (jp _ _) lx);have rl:lr.length≤3999:=sF Nr (by rw[Vr];exact gR (Nat.mod_le _ _) lx);have iy3:=iy2.ov (g:=u3);repeat'(with_reducible first|simp(disch:=try exact ab) only[go_sem,seval,h2,h3,h4,h5]|(apply aj.i<;>intro hc))
 refine Gp.wp (zY Sq' Dq Nq (by omega)) fun v h4' k4 j4 u4 I4=>?_
 obtain⟨a4,b4,rfl,o4,I4⟩:=I4.pe;rw[Vq,et]at I4;have Sr2:=Sr'.ov (g:=u4);have iy4:=iy3.ov (g:=u4);repeat'(with_reducible first|simp(disch:=try exact ab) only[go_sem,seval,h2,h3,h4,h5]|(apply aj.i<;>intro hc))
 refine Gp.wp (zY Sr2 Dr Nr (by omega)) fun v h5' k5 j5 u5 I5=>?_
 obtain⟨a5,b5,rfl,o5,I5⟩:=I5.pe;rw[Vr,em]at I5;have I4':=I4.ov (g:=u5);have iy5:=iy4.ov (g:=u5);have lq':fq 3999 (x.tdiv y):=lx.le (Int.natAbs_tdiv_le_natAbs x y);have lr':fq 3999 (x.tmod y):=lx.le (by rw[Int.natAbs_tmod];exact Nat.mod_le _ _);by_cases hr:x.tmod y<0
 ·obtain⟨f1,f2⟩:=xq hy hr;have hr':max (-1) (min 1 (x.tmod y))<0:=by omega
  repeat'(with_reducible first|simp(disch:=try exact ab) only[go_sem,seval,h2,h3,h4,h5,o4,o5]|(apply aj.i<;>intro hc))
  refine Gv.wp (i194 (I5.aO aL)) fun h6' k6 j6 u6=>?_
  repeat'(with_reducible first|simp(disch:=try exact ab) only[go_sem,seval,h2,h3,h4,h5,o4,o5,hr']|(apply aj.i<;>intro hc))
  refine Gv.wp Ew fun h7' k7 j7 u7=>?_
  repeat'(with_reducible first|simp(disch:=try exact ab) only[go_sem,seval,h2,h3,h4,h5,o4,o5]|(apply aj.i<;>intro hc))
  refine Gp.wp (i260 (I4'.aO aL) (gj.small (by omega)) (lq'.mono (by decide)) ((fq.small (by omega)).mono (by decide))) fun v h8' k8 j8 u8 I8=>?_
  obtain⟨a8,b8,rfl,o8,I8⟩:=I8.pe;rw[←f1]at I8;repeat'(with_reducible first|simp(disch:=try exact ab) only[go_sem,seval,h2,h3,h4,h5,o4,o5,q3]|(apply aj.i<;>intro hc))
  refine Gp.wp (i121 (I5.aO aL) (iy5.aO aL) (lr'.mono (by decide)) (ly.mono (by decide))) fun v h9' k9 j9 u9 I9=>?_
  obtain⟨a9,b9,rfl,o9,I9⟩:=I9.pe;rw[←f2]at I9;have I8':=I8.ov (g:=u9);repeat'(with_reducible first|simp(disch:=try exact ab) only[go_sem,seval,h2,h3,h4,h5,o4,o5,o8,o9,q4,q5]|(apply aj.i<;>intro hc))
  refine⟨⟨_,_,rfl,⟨_,_,rfl,?_⟩,⟨_,_,rfl,?_⟩⟩,?_⟩
  ·exact(((I8'.eZ (by simp(disch:=try exact ab) only[go_sem,seval,aG])).eZ (by simp(disch:=try exact ab) only[go_sem,seval,aG])).eZ (by simp(disch:=try exact ab) only[go_sem,seval,aG,q4])).eZ (by simp(disch:=try exact ab) only[go_sem,seval,aG,q5])
  ·exact(((I9.eZ (by simp(disch:=try exact ab) only[go_sem,seval,aG])).eZ (by simp(disch:=try exact ab) only[go_sem,seval,aG])).eZ (by simp(disch:=try exact ab) only[go_sem,seval,aG,q4])).eZ (by simp(disch:=try exact ab) only[go_sem,seval,aG,q5])
  ·exact aL
 ·obtain⟨f1,f2⟩:=xr hy hr;have hr':¬max (-1) (min 1 (x.tmod y))<0:=by omega
  rw[←f1]at I4';rw[←f2]at I5;rw[←f2]at hr';repeat'(with_reducible first|simp(disch:=try exact ab) only[go_sem,seval,h2,h3,h4,h5,o4,o5]|(apply aj.i<;>intro hc))
  refine Gv.wp (i194 (I5.aO aL)) fun h6' k6 j6 u6=>?_
  repeat'(with_reducible first|simp(disch:=try exact ab) only[go_sem,seval,h2,h3,h4,h5,o4,o5,hr',q4,q5]|(apply aj.i<;>intro hc))
  refine⟨⟨_,_,rfl,⟨_,_,rfl,?_⟩,⟨_,_,rfl,?_⟩⟩,?_⟩
  ·exact((I4'.aO aL).eZ (by simp(disch:=try exact ab) only[go_sem,seval,aG,q4])).eZ (by simp(disch:=try exact ab) only[go_sem,seval,aG,q5])
  ·exact((I5.aO aL).eZ (by simp(disch:=try exact ab) only[go_sem,seval,aG,q4])).eZ (by simp(disch:=try exact ab) only[go_sem,seval,aG,q5])
  ·exact aL
end
end
end Go.Ae
