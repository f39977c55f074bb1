/- The floor of a fraction, and a fraction of two machine integers. -/
import Derived.Test.YtdaggbpeoldmeaaGreatDoorM7
set_option linter.unusedVariables false
set_option linter.unusedSimpArgs false
set_option maxRecDepth 100000
set_option maxHeartbeats 1000000
set_option exponentiation.threshold 9100
namespace Go.Ae
open Bg N Go.Proofs
noncomputable section
def flo (r:Rat):Int:=r.num.fdiv r.den
theorem fdiv_neg_of {n y:Nat} (hy:0<y):(-(n:Int)).fdiv y=if n%y=0 then -((n/y:Nat):Int)else -((n/y+1:Nat):Int):=by
  rw[Int.fdiv_eq_ediv_of_nonneg _ (by omega)]
  have hd:=Nat.div_add_mod n y
  have hl:=Nat.mod_lt n hy
  generalize n/y=q at *
  generalize n%y=r at *
  split
  · rename_i h
    subst h
    have:(-(n:Int))=(-(q:Int))*y:=by rw[←hd];grind
    rw[this,Int.mul_ediv_cancel _ (by omega)]
  · rename_i h
    have:(-(n:Int))=((y-r:Nat):Int)+(-((q+1:Nat):Int))*y:=by
      rw[←hd]
      have e1:((y-r:Nat):Int)=(y:Int)-r:=by omega
      rw[e1];grind
    rw[this,Int.add_mul_ediv_right _ _ (by omega),Int.ediv_eq_zero_of_lt (by omega) (by omega)]
    omega
theorem flo_le {r:Rat}:(flo r).natAbs≤r.num.natAbs+1:=by
  have hd:=den_pos r
  unfold flo
  by_cases h0:0≤r.num
  · obtain⟨n,hn⟩:∃n:Nat,r.num=n:=⟨r.num.toNat,by omega⟩
    rw[hn,Int.fdiv_eq_ediv_of_nonneg _ (by omega)]
    have:((n:Int)/r.den)=((n/r.den:Nat):Int):=rfl
    rw[this]
    have:=Nat.div_le_self n r.den
    generalize n/r.den=q at *
    omega
  · obtain⟨n,hn⟩:∃n:Nat,r.num= -(n:Int):=⟨r.num.natAbs,by omega⟩
    rw[hn,fdiv_neg_of hd]
    have:=Nat.div_le_self n r.den
    generalize n/r.den=q at *
    split<;>omega
theorem flo_int {r:Rat} (h:r.den=1):flo r=r.num:=by
  unfold flo;rw[h];exact Int.fdiv_one _
section
variable {h h' hp:Hp} {K:AV→Hp→Prop} {tm:T AV} {v va vb w:AV} {r a b:Rat} {x y:Int}
theorem psh {t:Nat} {cs:List AV} (ht:t=h.next):AtS (h.push fun s=> .row cs true s) t cs:=by rw[ht];exact AtS.push
theorem d187 (ia:IsR h va x) (ib:IsR h vb y) (lx:Lr 9000 x) (ly:Lr 9000 y) (hy:0<y):Gp E3 187 [va,vb] h fun v h'=>IsR h' v (x.fdiv y):=by
  obtain⟨w1,rfl,o1,i1⟩:=ia.ex
  obtain⟨w2,rfl,o2,i2⟩:=ib.ex
  obtain⟨l1,S1,D1,N1,V1⟩:=i1.un
  obtain⟨l2,S2,D2,N2,V2⟩:=i2.un
  have hl1:=lx.len N1 V1
  have hl2:=ly.len N2 V2
  have hy0:¬y<0:=by omega
  have hb0:l2≠[]:=by
    rintro rfl
    simp[vl]at V2;omega
  obtain⟨n,hn⟩:∃n,n=x.natAbs:=⟨_,rfl⟩
  obtain⟨m,hm⟩:∃m,m=y.natAbs:=⟨_,rfl⟩
  rw[←hn]at V1
  rw[←hm]at V2
  have ey:y=m:=by omega
  have hm0:0<m:=by omega
  refine Gp.of (CallWp.fn (fn:=R.a187) rfl rfl rfl ?_)
  unfold R.a187
  repeat' (with_reducible first|simp(disch:=first|exact okD|fail) only[go_sem,seval,o1,o2]|(apply Spl.i<;>intro hc))
  refine Gp.wp (d208 (S1.grs okG) (S2.grs okG) D1 D2 N1 N2 (by omega) (by omega) hb0) fun v3 k3 a3 b3 u3 ⟨v5,v6,l5,l6,e5,S5,S6,D5,D6,N5,N6,V5,V6⟩=>?_
  subst e5
  rw[V1,V2]at V5 V6
  have ln6:=S6.rd.len
  have hl5:l5.length≤9001:=by
    have h9:vl 1000000000 l5<1000000000^9000:=by
      rw[V5]
      refine Nat.lt_of_le_of_lt (Nat.div_le_self _ _) ?_
      rw[hn];exact lx
    have:=few9 (B:=1000000000) (n:=9000) (by decide) N5 h9
    omega
  by_cases c1:x<0
  · have ex:x= -(n:Int):=by omega
    have ef:=fdiv_neg_of (n:=n) hm0
    by_cases c2:l6=[]
    · have z6:n%m=0:=by rw[←V6,c2];rfl
      have g6:¬(0:Int)<(l6.length:Int):=by rw[c2];simp
      rw[if_pos z6]at ef
      repeat' (with_reducible first|simp(disch:=first|exact okD|fail) only[go_sem,seval,o1,o2,c1,ln6,g6]|(apply Spl.i<;>intro hc))
      refine Gp.wp (d249 (S5.grs okG) D5 (by omega)) fun v4 k4 a4 b4 u4 I4=>?_
      have e4:sgn (decide (x<0)) (vl 1000000000 l5)=x.fdiv y:=by
        rw[V5,decide_eq_true c1,ex,ey,ef];rfl
      first|rw[e4]at I4|(rw[decide_eq_true c1]at e4;rw[e4]at I4)
      obtain⟨w4,rfl,p4,I4⟩:=I4.ex
      repeat' (with_reducible first|simp(disch:=first|exact okD|fail) only[go_sem,seval,p4]|(apply Spl.i<;>intro hc))
      refine⟨I4.putB (by simp(disch:=first|exact okD|fail) only[go_sem,seval,isCellB_row]),?_⟩
      exact okG
    · have z6:¬n%m=0:=by
        rw[←V6];intro e
        have:=norm_pos (B:=1000000000) (by decide) N6 c2
        omega
      have g6:(0:Int)<(l6.length:Int):=by
        have:=List.length_pos_iff.2 c2
        omega
      rw[if_neg z6]at ef
      have D1x:Dg 1000000000 [1]:=by intro x hx;simp at hx;omega
      repeat' (with_reducible first|simp(disch:=first|exact okD|fail) only[go_sem,seval,o1,o2,c1,ln6,g6]|(apply Spl.i<;>intro hc))
      refine Gp.wp (d250 (b:=[1]) (S5.grs okG) (AtS.sq (l:=[1]) (n:=1) (psh okO) rfl) D5 D1x (by omega) (by simp)) fun v7 k7 a7 b7 u7 ⟨l7,S7,D7,hl7,V7⟩=>?_
      repeat' (with_reducible first|simp(disch:=first|exact okD|fail) only[go_sem,seval,o1,o2,c1]|(apply Spl.i<;>intro hc))
      refine Gp.wp (d249 (S7.grs okG) D7 (by omega)) fun v4 k4 a4 b4 u4 I4=>?_
      have e4:sgn (decide (x<0)) (vl 1000000000 l7)=x.fdiv y:=by
        rw[V7,V5,decide_eq_true c1,ex,ey,ef];simp[vl,sgn]
      first|rw[e4]at I4|(rw[decide_eq_true c1]at e4;rw[e4]at I4)
      obtain⟨w4,rfl,p4,I4⟩:=I4.ex
      repeat' (with_reducible first|simp(disch:=first|exact okD|fail) only[go_sem,seval,p4]|(apply Spl.i<;>intro hc))
      refine⟨I4.putB (by simp(disch:=first|exact okD|fail) only[go_sem,seval,isCellB_row]),?_⟩
      exact okG
  · have ex:x=n:=by omega
    repeat' (with_reducible first|simp(disch:=first|exact okD|fail) only[go_sem,seval,o1,o2,c1,ln6]|(apply Spl.i<;>intro hc))
    refine Gp.wp (d249 (S5.grs okG) D5 (by omega)) fun v4 k4 a4 b4 u4 I4=>?_
    have e4:sgn (decide (x<0)) (vl 1000000000 l5)=x.fdiv y:=by
      rw[V5,decide_eq_false c1,ex,ey,Int.fdiv_eq_ediv_of_nonneg _ (by omega)];rfl
    first|rw[e4]at I4|(rw[decide_eq_false c1]at e4;rw[e4]at I4)
    obtain⟨w4,rfl,p4,I4⟩:=I4.ex
    repeat' (with_reducible first|simp(disch:=first|exact okD|fail) only[go_sem,seval,p4]|(apply Spl.i<;>intro hc))
    refine⟨I4.putB (by simp(disch:=first|exact okD|fail) only[go_sem,seval,isCellB_row]),?_⟩
    exact okG
theorem d100 (l1:Lr 9000 r.num) (l2:Lr 9000 (r.den:Int)):Gv E3 100 [.str (txtR r)] h (.str (txtZ (flo r))):=by
  have hd:=den_pos r
  refine Gv.of (CallWp.fn (fn:=R.a100) rfl rfl rfl ?_)
  unfold R.a100
  by_cases c:r.den=1
  · have e:txtR r=txtZ (flo r):=(if_pos c).trans (by rw[flo_int c])
    repeat' (with_reducible first|simp(disch:=first|exact okD|fail) only[go_sem,seval,u94 l1 l2,c]|(apply Spl.i<;>intro hc))
    all_goals rw[e]
  · repeat' (with_reducible first|simp(disch:=first|exact okD|fail) only[go_sem,seval,u94 l1 l2,c]|(apply Spl.i<;>intro hc))
    refine Gp.wp (d124 l1 l2) fun v1 k1 a1 b1 u1 ⟨va,vb,e,I1,I2⟩=>?_
    subst e
    obtain⟨w1,rfl,p1,I1⟩:=I1.ex
    obtain⟨w2,rfl,p2,I2⟩:=I2.ex
    repeat' (with_reducible first|simp(disch:=first|exact okD|fail) only[go_sem,seval,p1,p2]|(apply Spl.i<;>intro hc))
    refine Gp.wp (d187 (I1.grs okG) (I2.grs okG) l1 l2 (by omega)) fun v3 k3 a3 b3 u3 I3=>?_
    repeat' (with_reducible first|simp(disch:=first|exact okD|fail) only[go_sem,seval]|(apply Spl.i<;>intro hc))
    have lf:Lr 9001 (flo r):=by
      have h1:=flo_le (r:=r)
      have h2:(r.num+1).natAbs+(r.num-1).natAbs<1000000000^9001:=by
        have:=l1
        unfold Lr at this
        rw[Nat.pow_succ]
        omega
      unfold Lr
      omega
    refine Gv.wp (d181 I3 (lf.mono (by decide))) fun h4 k4 j4 u4=>?_
    repeat' (with_reducible first|simp(disch:=first|exact okD|fail) only[go_sem,seval]|(apply Spl.i<;>intro hc))
    all_goals exact okG
end
section
variable {h h' hp:Hp} {K:AV→Hp→Prop} {tm:T AV} {v va vb s w:AV} {r a b:Rat} {x y:Int}
def ofT (x y:Int):AV:=if y=0 then .tup [.str [],.int .i64 6]else resT (Rat.divInt x y)
theorem lim_small {n:Nat} {x:Int} (hx:x.natAbs≤9223372036854775807) (hn:1≤n):Lim n x:=by
  have:Lim 1 x:=by unfold Lim;omega
  exact this.mono hn
theorem x95 (hx: -999999999≤x∧x≤999999999) (hy: -999999999≤y∧y≤999999999):Gv EF 95 [.int .i64 x,.int .i64 y] h (ofT x y):=by
  refine Gv.of (CallWp.fn (fn:=C.a95) rfl rfl rfl ?_)
  unfold C.a95 ofT
  by_cases c:y=0
  · rw[if_pos c]
    repeat' (with_reducible first|simp(disch:=first|exact okD|fail) only[go_sem,seval,c]|(apply Spl.i<;>intro hc))
  · rw[if_neg c]
    repeat' (with_reducible first|simp(disch:=first|exact okD|fail) only[go_sem,seval,c]|(refine Gv.wp (f2 c120) fun _ _ _ _=>?_)|(apply Spl.i<;>intro hc))
    refine Gp.wp (fp2 (i119 (IsI.small (by omega)) (IsI.small (by omega)) (lim_small (by omega) (by decide)) (lim_small (by omega) (by decide)) c)) fun v1 k1 a1 b1 u1 I1=>?_
    have hb:Bd 1 (Rat.divInt x y):=Bd.of c (lim_small (by omega) (by decide)) (lim_small (by omega) (by decide))
    obtain⟨c2,c3⟩:=len_of hb (by decide)
    repeat' (with_reducible first|simp(disch:=first|exact okD|fail) only[go_sem,seval]|(apply Spl.i<;>intro hc))
    refine Gv.wp (f0 (x175 I1 c2 c3)) fun h4 k4 j4 u4=>?_
    by_cases d:okR (Rat.divInt x y)=true
    · rw[resT_yes d]
      repeat' (with_reducible first|simp(disch:=first|exact okD|fail) only[go_sem,seval]|(apply Spl.i<;>intro hc))
      exact okG
    · rw[resT_no d]
      repeat' (with_reducible first|simp(disch:=first|exact okD|fail) only[go_sem,seval]|(apply Spl.i<;>intro hc))
      exact okG
def floT (s:List UInt8):AV:=if checkV s=0 then resT (flo (valS s))else .tup [.str [],.int .i64 (checkV s)]
theorem x96 {s:List UInt8} (hs:s.length≤1000000):Gv EF 96 [.str s] h (floT s):=by
  refine Gv.of (CallWp.fn (fn:=C.a96) rfl rfl rfl ?_)
  unfold C.a96 floT
  by_cases c:checkV s=0
  · rw [if_pos c]
    obtain⟨t1,q1⟩:=txtR_valS c
    have i1:=fun h=>fp2 (i111 (h:=h) q1)
    rw[←t1]at i1
    have b1:=Bd_ok q1
    have bf:Bd 111 ((flo (valS s):Int):Rat):=by
      have h1:=flo_le (r:=valS s)
      refine⟨?_,?_⟩
      · rw[Rat.num_intCast]
        have h2:Lim 111 ((valS s).num+1):=b1.1.add (y:=1) (lim_small (by decide) (by decide))
        have h3:Lim 111 ((valS s).num-1):=b1.1.sub (y:=1) (lim_small (by decide) (by decide))
        unfold Lim at *
        omega
      · rw[Rat.den_intCast];exact lim_small (by decide) (by decide)
    obtain⟨c2,c3⟩:=len_of bf (by decide)
    repeat' (with_reducible first|simp(disch:=first|exact okD|fail) only[go_sem,seval,c]|(refine Gv.wp (f2 (i101 hs)) fun _ _ _ _=>?_)|(apply Spl.i<;>intro hc))
    refine Gp.wp (i1 _) fun v1 k1 a1 b1' u1 I1=>?_
    repeat' (with_reducible first|simp(disch:=first|exact okD|fail) only[go_sem,seval]|(apply Spl.i<;>intro hc))
    refine Gp.wp (fp2 (i117 I1 (b1.mono (by decide)))) fun v2 k2 a2 b2 u2 I2=>?_
    obtain⟨s2,w2,rfl,p2,p3,I2⟩:=I2.ex
    repeat' (with_reducible first|simp(disch:=first|exact okD|fail) only[go_sem,seval,p2,p3]|(apply Spl.i<;>intro hc))
    refine Gp.wp (fp2 (i183 I2)) fun v3 k3 a3 b3 u3 I3=>?_
    have e3:Rat.divInt ((valS s).num.fdiv (valS s).den) 1=((flo (valS s):Int):Rat):=Rat.ext (by rw[divInt_one.1,Rat.num_intCast];rfl) (by rw[divInt_one.2,Rat.den_intCast])
    rw[e3]at I3
    repeat' (with_reducible first|simp(disch:=first|exact okD|fail) only[go_sem,seval]|(apply Spl.i<;>intro hc))
    refine Gv.wp (f0 (x175 I3 c2 c3)) fun h4 k4 j4 u4=>?_
    by_cases d:okR ((flo (valS s):Int):Rat)=true
    · rw[resT_yes d]
      repeat' (with_reducible first|simp(disch:=first|exact okD|fail) only[go_sem,seval]|(apply Spl.i<;>intro hc))
      exact okG
    · rw[resT_no d]
      repeat' (with_reducible first|simp(disch:=first|exact okD|fail) only[go_sem,seval]|(apply Spl.i<;>intro hc))
      exact okG
  · rw[if_neg c]
    repeat' (with_reducible first|simp(disch:=first|exact okD|fail) only[go_sem,seval,c]|(refine Gv.wp (f2 (i101 hs)) fun _ _ _ _=>?_)|(apply Spl.i<;>intro hc))
    exact okG
end
end
end Go.Ae
set_option linter.unusedVariables false
set_option linter.unusedSimpArgs false
set_option maxRecDepth 100000
set_option maxHeartbeats 4000000
set_option exponentiation.threshold 5000
namespace Go.Ae
open Bg N Go.Proofs
noncomputable section
def resS (r:Rat):List UInt8:=if okR r=true then txtR r else[]
def resE (r:Rat):Int:=if okR r=true then 0 else 4
theorem resT_eq (r:Rat):resT r= .tup [.str (resS r),.int .i64 (resE r)]:=by
  unfold resT resS resE
  by_cases h:okR r=true
  · rw[if_pos h,if_pos h,if_pos h]
  · rw[if_neg h,if_neg h,if_neg h]
theorem numB_res (r:Rat):numB (resS r) (resE r) 0 (txtR r)=true:=by
  unfold numB resS resE
  rw[largeS_txt]
  cases h:okR r<;>simp
theorem numB_bad {b:Int} {w:List UInt8} (hb:b≠0):numB [] b b w=true:=by
  unfold numB
  simp[hb]
section
variable {h h' hp:Hp} {K:AV→Hp→Prop} {tm:T AV} {v va vb s w:AV} {z z':Int} {a b c r:Rat}
theorem txt_len {n:Nat} {a:Rat} (i:Br n a) (hn:n≤2000):(txtR a).length≤1000000:=by
  have:=(txtR_le (i.mono hn).1 (i.mono hn).2).1
  omega
end
end
end Go.Ae
set_option linter.unusedVariables false
set_option linter.unusedSimpArgs false
set_option maxRecDepth 100000
set_option maxHeartbeats 1000000
set_option exponentiation.threshold 5000
namespace Go.Ae
open Bg N Go.Proofs
noncomputable section
section
variable {h h' hp:Hp} {K:AV→Hp→Prop} {tm:T AV} {v va vb w:AV} {r a b:Rat}
theorem divInt_any {x y:Int} (hy:y≠0) (hx: -999999999≤x∧x≤999999999) (hy': -999999999≤y∧y≤999999999):Gv E3 99 [.int .i64 x,.int .i64 y] h (.str (txtR (Rat.divInt x y))):=by
  by_cases h0:0<y
  · obtain⟨m,rfl⟩:∃m:Nat,y=m:=⟨y.toNat,by omega⟩
    exact d99g (.inl ⟨rfl,rfl⟩) (by omega) (by omega) (by omega)
  · obtain⟨m,rfl⟩:∃m:Nat,y= -(m:Int):=⟨y.natAbs,by omega⟩
    have e:Rat.divInt x (-(m:Int))=Rat.divInt (-x) m:=by
      rw[←divInt_neg2 (p:=x) hy,Int.neg_neg]
    rw[e]
    exact d99g (.inr ⟨by omega,rfl⟩) (by omega) (by omega) (by omega)
theorem law15 {s u:List UInt8} {x y:Int}:Gv EF 15 [.str s,.agg [.int .i64 x,.int .i64 y],.str u] h (.bool true):=by
  refine Gv.of (CallWp.fn (fn:=F.a15) rfl rfl rfl ?_)
  have d17:∀{h:Hp} {K:AV→Hp→Prop},CallWp EF 17 [] h K↔K (.bool true) h:=fun{h K}=>fu2 fun K=>c17
  by_cases g1:(1300:Int)<s.length
  · unfold F.a15
    repeat' (with_reducible first|simp(disch:=first|exact okD|fail) only[go_sem,seval,d17,g1]|(apply Spl.i<;>intro hc))
    all_goals exact okG
  by_cases g2:(1300:Int)<u.length
  · unfold F.a15
    repeat' (with_reducible first|simp(disch:=first|exact okD|fail) only[go_sem,seval,d17,g1,g2]|(apply Spl.i<;>intro hc))
    all_goals exact okG
  by_cases g3:x< -999999999
  · unfold F.a15
    repeat' (with_reducible first|simp(disch:=first|exact okD|fail) only[go_sem,seval,d17,g1,g2,g3]|(apply Spl.i<;>intro hc))
    all_goals exact okG
  by_cases g4:999999999<x
  · unfold F.a15
    repeat' (with_reducible first|simp(disch:=first|exact okD|fail) only[go_sem,seval,d17,g1,g2,g3,g4]|(apply Spl.i<;>intro hc))
    all_goals exact okG
  by_cases g5:y< -999999999
  · unfold F.a15
    repeat' (with_reducible first|simp(disch:=first|exact okD|fail) only[go_sem,seval,d17,g1,g2,g3,g4,g5]|(apply Spl.i<;>intro hc))
    all_goals exact okG
  by_cases g6:999999999<y
  · unfold F.a15
    repeat' (with_reducible first|simp(disch:=first|exact okD|fail) only[go_sem,seval,d17,g1,g2,g3,g4,g5,g6]|(apply Spl.i<;>intro hc))
    all_goals exact okG
  have hu:u.length≤1000000:=by omega
  have r1:=fun h=>x95 (h:=h) (x:=x) (y:=y) (by omega) (by omega)
  have r2:=fun h=>x96 (h:=h) (s:=u) hu
  have n0:∀{h:Hp} {K:AV→Hp→Prop},CallWp EF 81 [.str [],.int .i64 6,.int .i64 6,.str []] h K↔K (.bool true) h:=fun{h K}=>fu3 (h:=h) (K:=K) fun K=>d81 (h:=h) (K:=K) (by decide)
  have m97:=fun h=>x97 (h:=h) (s:=s)
  have m98:=fun h=>x98 (h:=h) (s:=s)
  have num:∀{r:Rat} {hp:Hp} {K:AV→Hp→Prop},(txtR r).length≤9223372036854775806→(CallWp EF 81 [.str (resS r),.int .i64 (resE r),.int .i64 0,.str (txtR r)] hp K↔K (.bool true) hp):=fun{r hp K} hl=>by
    have:=fu3 (h:=hp) (K:=K) fun K=>d81 (h:=hp) (K:=K) (x:=resS r) (e:=resE r) (bad:=0) (w:=txtR r) hl
    rw[numB_res]at this;exact this
  have q1:∀h,Gv EF 100 [.str u] h (.str (txtR ((flo (valS u):Int):Rat)))∨¬checkV u=0:=fun h=>by
    by_cases cu:checkV u=0
    · obtain⟨t1,q1⟩:=txtR_valS cu
      have b1:=(ok_Br q1).mono (m:=9000) (by decide)
      have hd:=d100 (h:=h) b1.1 b1.2
      rw[←t1]at hd
      rw[txtR_int]
      exact .inl (f3 hd)
    · exact .inr cu
  have hl2:checkV u=0→(txtR ((flo (valS u):Int):Rat)).length≤9223372036854775806:=fun cu=>by
    obtain⟨t1,q1⟩:=txtR_valS cu
    have b1:=(ok_Br q1).1
    have h1:=flo_le (r:=valS u)
    have bf:Br 68 ((flo (valS u):Int):Rat):=by
      refine⟨?_,?_⟩
      · rw[Rat.num_intCast]
        have h2:Lr 68 ((valS u).num+1):=b1.add (y:=1) (by unfold Lr;decide)
        have h3:Lr 68 ((valS u).num+ -1):=b1.add (y:= -1) (by unfold Lr;decide)
        unfold Lr at *
        omega
      · rw[Rat.den_intCast];unfold Lr;decide
    exact Nat.le_trans (txt_len bf (by decide)) (by decide)
  have hl1:y≠0→(txtR (Rat.divInt x y)).length≤9223372036854775806:=fun hy=>by
    have sm:∀z:Int,-999999999≤z∧z≤999999999→Lr 1 z:=fun z hz=>by unfold Lr;omega
    exact Nat.le_trans (txt_len (Br.of hy (sm x (by omega)) (sm y (by omega))) (by decide)) (by decide)
  unfold ofT at r1
  unfold floT at r2
  by_cases y0:y=0
  · subst y0
    simp only[eq_self,↓reduceIte]at r1
    by_cases cu:checkV u=0
    · simp only[if_pos cu,resT_eq]at r2
      have r3:=fun h=>(q1 h).resolve_right (fun e=>e cu)
      have n2:=fun{hp:Hp} {K:AV→Hp→Prop}=>num (hp:=hp) (K:=K) (hl2 cu)
      unfold F.a15
      repeat' (with_reducible first|simp(disch:=first|exact okD|fail) only[go_sem,seval,d17,g1,g2,g3,g4,g5,g6,n0,n2,cu]|(refine Gv.wp (r1 _) fun _ _ _ _=>?_)|(refine Gv.wp (r2 _) fun _ _ _ _=>?_)|(refine Gv.wp (m97 _) fun _ _ _ _=>?_)|(refine Gv.wp (m98 _) fun _ _ _ _=>?_)|(refine Gv.wp (f3 (d19 hu)) fun _ _ _ _=>?_)|(refine Gv.wp (r3 _) fun _ _ _ _=>?_)|(apply Spl.i<;>intro hc))
      all_goals exact okG
    · simp only[if_neg cu]at r2
      have n2:∀{h:Hp} {K:AV→Hp→Prop},CallWp EF 81 [.str [],.int .i64 (checkV u),.int .i64 (checkV u),.str []] h K↔K (.bool true) h:=fun{h K}=>by
        have:=fu3 (h:=h) (K:=K) fun K=>d81 (h:=h) (K:=K) (x:=[]) (e:=checkV u) (bad:=checkV u) (w:=[]) (by decide)
        rw[numB_bad cu]at this;exact this
      unfold F.a15
      repeat' (with_reducible first|simp(disch:=first|exact okD|fail) only[go_sem,seval,d17,g1,g2,g3,g4,g5,g6,n0,n2,cu]|(refine Gv.wp (r1 _) fun _ _ _ _=>?_)|(refine Gv.wp (r2 _) fun _ _ _ _=>?_)|(refine Gv.wp (m97 _) fun _ _ _ _=>?_)|(refine Gv.wp (m98 _) fun _ _ _ _=>?_)|(refine Gv.wp (f3 (d19 hu)) fun _ _ _ _=>?_)|(apply Spl.i<;>intro hc))
      all_goals exact okG
  · simp only[if_neg y0,resT_eq]at r1
    have r4:=fun h=>f3 (divInt_any (h:=h) (x:=x) y0 (by omega) (by omega))
    have n1:=fun{hp:Hp} {K:AV→Hp→Prop}=>num (hp:=hp) (K:=K) (hl1 y0)
    by_cases cu:checkV u=0
    · simp only[if_pos cu,resT_eq]at r2
      have r3:=fun h=>(q1 h).resolve_right (fun e=>e cu)
      have n2:=fun{hp:Hp} {K:AV→Hp→Prop}=>num (hp:=hp) (K:=K) (hl2 cu)
      unfold F.a15
      repeat' (with_reducible first|simp(disch:=first|exact okD|fail) only[go_sem,seval,d17,g1,g2,g3,g4,g5,g6,y0,n1,n2,cu]|(refine Gv.wp (r1 _) fun _ _ _ _=>?_)|(refine Gv.wp (r2 _) fun _ _ _ _=>?_)|(refine Gv.wp (m97 _) fun _ _ _ _=>?_)|(refine Gv.wp (m98 _) fun _ _ _ _=>?_)|(refine Gv.wp (f3 (d19 hu)) fun _ _ _ _=>?_)|(refine Gv.wp (r3 _) fun _ _ _ _=>?_)|(refine Gv.wp (r4 _) fun _ _ _ _=>?_)|(apply Spl.i<;>intro hc))
      all_goals exact okG
    · simp only[if_neg cu]at r2
      have n2:∀{h:Hp} {K:AV→Hp→Prop},CallWp EF 81 [.str [],.int .i64 (checkV u),.int .i64 (checkV u),.str []] h K↔K (.bool true) h:=fun{h K}=>by
        have:=fu3 (h:=h) (K:=K) fun K=>d81 (h:=h) (K:=K) (x:=[]) (e:=checkV u) (bad:=checkV u) (w:=[]) (by decide)
        rw[numB_bad cu]at this;exact this
      unfold F.a15
      repeat' (with_reducible first|simp(disch:=first|exact okD|fail) only[go_sem,seval,d17,g1,g2,g3,g4,g5,g6,y0,n1,n2,cu]|(refine Gv.wp (r1 _) fun _ _ _ _=>?_)|(refine Gv.wp (r2 _) fun _ _ _ _=>?_)|(refine Gv.wp (m97 _) fun _ _ _ _=>?_)|(refine Gv.wp (m98 _) fun _ _ _ _=>?_)|(refine Gv.wp (f3 (d19 hu)) fun _ _ _ _=>?_)|(refine Gv.wp (r4 _) fun _ _ _ _=>?_)|(apply Spl.i<;>intro hc))
      all_goals exact okG
end
end
end Go.Ae
