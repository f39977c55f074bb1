/- Whole numbers of any size: their parts, opposite, sum, product. -/
import Derived.Test.YtdaggbpeoldmeaaGreatDoorM5
import Derived.Test.YtdaggbpeoldmeaaGreatDoorM4
import Derived.Test.YtdaggbpeoldmeaaGreatDoorM2
set_option linter.unusedVariables false
set_option linter.unusedSimpArgs false
set_option maxRecDepth 100000
namespace Go.Ae
open Bg
noncomputable section
def IsI (h:Hp) (s w:AV) (z:Int):Prop:=
 (s= .int .i64 z∧w= .nils∧-9223372036854775808≤z∧z≤9223372036854775807)∨
 (∃(n t o:Nat) (l:List Nat),w= .sl t o n 1∧Sq .u64 h w l∧Dg 18446744073709551616 l∧Norm l∧9223372036854775808≤vl 18446744073709551616 l∧l.length≤10000∧((s= .int .i64 1∧z=vl 18446744073709551616 l)∨(s= .int .i64 (-1)∧z= -(vl 18446744073709551616 l:Int))))
def IsV (h:Hp) (v:AV) (z:Int):Prop:=∃s w,v= .agg [s,w]∧IsI h s w z
def Lim (n:Nat) (z:Int):Prop:=z.natAbs<18446744073709551616^n
theorem Lim.add {n:Nat} {x y:Int} (hx:Lim n x) (hy:Lim n y):Lim (n+1) (x+y):=by
 unfold Lim at *
 rw[Nat.pow_succ]
 have:(x+y).natAbs≤x.natAbs+y.natAbs:=Int.natAbs_add_le x y
 omega
theorem Lim.mul {n m:Nat} {x y:Int} (hx:Lim n x) (hy:Lim m y):Lim (n+m) (x*y):=by
 unfold Lim at *
 rw[Nat.pow_add,Int.natAbs_mul]
 rcases Nat.eq_zero_or_pos y.natAbs with h|h
 ·rw[h,Nat.mul_zero];exact Nat.mul_pos (Nat.pow_pos (by decide)) (Nat.pow_pos (by decide))
 ·exact Nat.mul_lt_mul_of_lt_of_lt hx hy
theorem Lim.mono {n m:Nat} {x:Int} (hx:Lim n x) (h:n≤m):Lim m x:=Nat.lt_of_lt_of_le hx (Nat.pow_le_pow_right (by decide) h)
theorem Lim.neg {n:Nat} {x:Int} (hx:Lim n x):Lim n (-x):=by unfold Lim at *;rwa[Int.natAbs_neg]
theorem Lim.sub {n:Nat} {x y:Int} (hx:Lim n x) (hy:Lim n y):Lim (n+1) (x-y):=by rw[Int.sub_eq_add_neg];exact hx.add hy.neg
section
variable {h h':Hp} {K:AV→Hp→Prop} {s w s' w':AV} {x y z:Int}
theorem IsI.grs (i:IsI h s w z) (g:Grs h h'):IsI h' s w z:=by
 rcases i with i|⟨n,t,o,l,e,hs,r⟩
 ·exact .inl i
 ·exact .inr ⟨n,t,o,l,e,hs.grs g,r⟩
theorem IsV.grs {v:AV} (i:IsV h v z) (g:Grs h h'):IsV h' v z:=by
 obtain⟨s,w,e,i⟩:=i
 exact⟨s,w,e,i.grs g⟩
theorem IsI.small {n:Int} (hn: -9223372036854775808≤n∧n≤9223372036854775807):IsI h (.int .i64 n) .nils n:= .inl ⟨rfl,rfl,hn⟩
theorem few_len {l:List Nat} {n:Nat} (hn:Norm l) (h:vl 18446744073709551616 l<18446744073709551616^n):l.length≤n:=by
 rcases Nat.lt_or_ge n l.length with c|c
 ·have h0:l≠[]:=by rintro rfl;simp at c
  obtain⟨m,x,rfl⟩:=snoc_of h0
  have h1:=vl_ge (B:=18446744073709551616) (l:=m) (norm_snoc.1 hn)
  have h2:=Nat.pow_le_pow_right (n:=18446744073709551616) (by decide) (show n≤m.length by simp at c;omega)
  omega
 ·exact c
theorem Lim.len {l:List Nat} {n:Nat} {z:Int} (hz:Lim n z) (hn:Norm l) (h:vl 18446744073709551616 l=z.natAbs):l.length≤n:=few_len hn (by rw[h];exact hz)
theorem Lim.small {n:Int} (h: -9223372036854775808≤n∧n≤9223372036854775807):Lim 1 n:=by unfold Lim;omega
def PartsP (z:Int) (v:AV) (h':Hp):Prop:=∃w' l,v= .tup [.bool (decide (z<0)),w']∧Sq .u64 h' w' l∧Dg 18446744073709551616 l∧Norm l∧vl 18446744073709551616 l=z.natAbs∧l.length≤10000
theorem c202 (hi:IsI h s w z):Gp E2 202 [.agg [s,w]] h (PartsP z):=by
 refine Gp.of (CallWp.fn (fn:=C.a202) rfl rfl rfl ?_)
 unfold C.a202
 rcases hi with⟨rfl,rfl,hz⟩|⟨n,t,o,l,rfl,hs,hd,hn,hb,hl,hv⟩
 ·by_cases h0:z=0
  ·subst h0
   repeat' (with_reducible first|simp(disch:=first|exact okD|fail) only[go_sem,seval]|(apply Spl.i<;>intro hc))
   refine⟨⟨.nils,[],by simp,Sq.nil,Dg.nil,by simp[Norm],rfl,by simp⟩,?_⟩
   exact okG
  ·repeat' (with_reducible first|simp(disch:=first|exact okD|fail) only[go_sem,seval,c262,h0]|(apply Spl.i<;>intro hc))
   refine⟨⟨_,[z.natAbs],rfl,?_,Dg.cons (by omega) Dg.nil,?_,by simp[vl],by simp⟩,?_⟩
   ·exact(AtS.push (cs:=[z.natAbs].map (wd .u64))).sq rfl
   ·simp only[Norm,List.getLast?_singleton,ne_eq,Option.some.injEq];omega
   ·exact okG
 ·rcases hv with⟨rfl,rfl⟩|⟨rfl,rfl⟩
  ·repeat' (with_reducible first|simp(disch:=first|exact okD|fail) only[go_sem,seval]|(apply Spl.i<;>intro hc))
   refine⟨⟨_,l,?_,hs.grs ?_,hd,hn,by simp,hl⟩,?_⟩
   ·simp
   ·exact okG
   ·exact okG
  ·repeat' (with_reducible first|simp(disch:=first|exact okD|fail) only[go_sem,seval]|(apply Spl.i<;>intro hc))
   refine⟨⟨_,l,?_,hs.grs ?_,hd,hn,by simp,hl⟩,?_⟩
   ·have: -(vl 18446744073709551616 l:Int)<0:=by omega
    simp[this];omega
   ·exact okG
   ·exact okG
def sgn (b:Bool) (n:Nat):Int:=if b=true then-(n:Int)else n
theorem c203 {neg:Bool} {w:AV} {l:List Nat} (hs:Sq .u64 h w l) (hd:Dg 18446744073709551616 l) (hn:Norm l) (hl:l.length≤10000):Gp E2 203 [.bool neg,w] h fun v h'=>IsV h' v (sgn neg (vl 18446744073709551616 l)):=by
 refine Gp.of (CallWp.fn (fn:=C.a203) rfl rfl rfl ?_)
 unfold C.a203
 have rd:=hs.rd
 have ln:=rd.len
 match l,hs,hd,hn,hl,rd,ln with
 | [],hs,hd,hn,hl,rd,ln=>
  simp only[List.length_nil]at ln
  repeat' (with_reducible first|simp(disch:=first|exact okD|fail) only[go_sem,seval,ln]|(apply Spl.i<;>intro hc))
  refine⟨⟨_,_,rfl,?_⟩,?_⟩
  ·have:sgn neg (vl 18446744073709551616 [])=0:=by unfold sgn;simp[vl]
   rw[this];exact IsI.small (by omega)
  ·exact okG
 | [x],hs,hd,hn,hl,rd,ln=>
  have hx:=hd.head
  have hx0:x≠0:=fun e=>by subst e;simp[Norm]at hn
  have e:vl 18446744073709551616 [x]=x:=by simp[vl]
  rw[e]
  simp only[List.length_cons,List.length_nil]at ln
  have ad:=rd.adr
  have ld:=rd.load 0 (by simp)
  have htk:=rd.tok (by simp)
  simp only[List.getD_cons_zero,Nat.add_zero]at ld
  have e0:(0:Int).toNat=0:=rfl
  by_cases hle:x≤9223372036854775807
  ·have hle':(x:Int)≤9223372036854775807:=by omega
   cases neg
   ·repeat' (with_reducible first|simp(disch:=first|exact okD|fail) only[go_sem,seval,ln,ad,ld,e0,hle']|(apply Spl.i<;>intro hc))
    refine⟨⟨_,_,rfl,?_⟩,?_⟩
    ·exact IsI.small (by omega)
    ·exact okG
   ·repeat' (with_reducible first|simp(disch:=first|exact okD|fail) only[go_sem,seval,ln,ad,ld,e0,hle']|(apply Spl.i<;>intro hc))
    refine⟨⟨_,_,rfl,?_⟩,?_⟩
    ·exact IsI.small (by omega)
    ·exact okG
  ·have hle':¬(x:Int)≤9223372036854775807:=by omega
   obtain⟨t,o,hw⟩:∃t o,w= .sl t o 1 1:=by
    rcases hs with⟨_,e⟩|⟨t,o,own,st,L,e,_⟩
    ·cases e
    ·exact⟨t,o,e⟩
   subst hw
   cases neg
   ·repeat' (with_reducible first|simp(disch:=first|exact okD|fail) only[go_sem,seval,ln,ad,ld,e0,hle']|(apply Spl.i<;>intro hc))
    refine⟨⟨_,_,rfl,.inr ⟨1,t,o,[x],rfl,hs.grs ?_,hd,hn,by rw[e];omega,by simp,.inl ⟨rfl,by rw[e];rfl⟩⟩⟩,?_⟩
    ·exact okG
    ·exact okG
   ·repeat' (with_reducible first|simp(disch:=first|exact okD|fail) only[go_sem,seval,ln,ad,ld,e0,hle']|(apply Spl.i<;>intro hc))
    refine⟨⟨_,_,rfl,.inr ⟨1,t,o,[x],rfl,hs.grs ?_,hd,hn,by rw[e];omega,by simp,.inr ⟨rfl,by rw[e];rfl⟩⟩⟩,?_⟩
    ·exact okG
    ·exact okG
 | x ::y::r,hs,hd,hn,hl,rd,ln=>
  obtain⟨t,o,hw⟩:∃t o,w= .sl t o (x::y::r).length 1:=by
   rcases hs with⟨_,e⟩|⟨t,o,own,st,L,e,_⟩
   ·cases e
   ·exact⟨t,o,e⟩
  subst hw
  have hbig:9223372036854775808≤vl 18446744073709551616 (x::y::r):=by
   have h0:y::r≠[]:=by simp
   have h1:=norm_pos (B:=18446744073709551616) (l:=y::r) (by decide) (by unfold Norm at hn⊢;rwa[List.getLast?_cons_cons]at hn) h0
   rw[vl_cons]
   omega
  have n0:¬((x::y::r).length:Int)=0:=by simp;omega
  have n1:¬((x::y::r).length:Int)=1:=by simp;omega
  generalize hll:x::y::r=l at *
  cases neg
  ·repeat' (with_reducible first|simp(disch:=first|exact okD|fail) only[go_sem,seval,n0,n1]|(apply Spl.i<;>intro hc))
   refine⟨⟨_,_,rfl,.inr ⟨l.length,t,o,l,rfl,hs.grs ?_,hd,hn,hbig,hl,.inl ⟨rfl,rfl⟩⟩⟩,?_⟩
   ·exact okG
   ·exact okG
  ·repeat' (with_reducible first|simp(disch:=first|exact okD|fail) only[go_sem,seval,n0,n1]|(apply Spl.i<;>intro hc))
   refine⟨⟨_,_,rfl,.inr ⟨l.length,t,o,l,rfl,hs.grs ?_,hd,hn,hbig,hl,.inr ⟨rfl,rfl⟩⟩⟩,?_⟩
   ·exact okG
   ·exact okG
end
end
end Go.Ae
set_option linter.unusedVariables false
set_option linter.unusedSimpArgs false
set_option maxRecDepth 100000
namespace Go.Ae
open Bg
noncomputable section
theorem vl_drop {B j:Nat} {l:List Nat} (h:j<l.length):vl B (l.drop j)=l.getD j 0+B*vl B (l.drop (j+1)):=by
 rw[List.drop_eq_getElem_cons h,vl_cons,getD_eq h]
theorem vl_drop_set {B j q:Nat} {l:List Nat} (h:j<l.length):vl B ((l.set j q).drop j)=q+B*vl B (l.drop (j+1)):=by
 rw[vl_drop (by simpa using h),getD_set h,List.drop_set_of_lt (by omega)]
theorem vl_top0 {B n:Nat} {l:List Nat} (hB:0<B) (h:vl B l<B^n):vl B (l.drop n)=0∧vl B (l.take n)=vl B l:=by
 rcases Nat.lt_or_ge l.length n with c|c
 ·rw[List.drop_of_length_le (by omega),List.take_of_length_le (by omega)];exact⟨rfl,rfl⟩
 ·have e:=vl_split (B:=B) (l:=l) n c
  rcases Nat.eq_zero_or_pos (vl B (l.drop n))with h0|h0
  ·rw[h0,Nat.mul_zero,Nat.add_zero]at e;exact⟨h0,e.symm⟩
  ·have:B^n*1≤B^n*vl B (l.drop n):=Nat.mul_le_mul_left _ h0
   omega
theorem vl_zero_get {B:Nat} (hB:0<B):∀{l:List Nat} {k:Nat},vl B l=0→l.getD k 0=0
 |[],k,_=>by simp
 |x::l,0,h=>by rw[vl_cons]at h;simp;omega
 | x ::l,k+1,h=>by
  rw[vl_cons]at h
  have:vl B l=0:=by
   rcases Nat.eq_zero_or_pos (vl B l)with h0|h0
   ·exact h0
   ·have:=Nat.mul_pos hB h0;omega
  rw[List.getD_cons_succ];exact vl_zero_get hB this
def DivP (q r:Nat) (v:AV) (h':Hp):Prop:=∃vq vr lq lr,v= .tup [vq,vr]∧Sq .u64 h' vq lq∧Sq .u64 h' vr lr∧Dg 18446744073709551616 lq∧Dg 18446744073709551616 lr∧Norm lq∧Norm lr∧vl 18446744073709551616 lq=q∧vl 18446744073709551616 lr=r
theorem short_step {B A Q b r x q r':Nat} (h:A=Q*b+r) (hq:r*B+x=b*q+r'):x+B*A=(q+B*Q)*b+r':=by
 rw[h,Nat.add_mul,Nat.mul_add,Nat.mul_assoc,Nat.mul_comm q b,Nat.mul_comm B r];omega
theorem long_step {B Lj A Q V R W q r:Nat} (h:A=Q*V+R) (hW:W=Lj+B*R) (hq:W=V*q+r):Lj+B*A=(q+B*Q)*V+r:=by
 rw[h,Nat.add_mul,Nat.mul_add,Nat.mul_assoc,Nat.mul_comm q V];omega
section
variable {h hp:Hp} {K:AV→Hp→Prop} {tm:T AV}
theorem div_short {va vb:AV} {a:List Nat} {b0:Nat} (ha:Sq .u64 h va a) (hb:Sq .u64 h vb [b0]) (da:Dg 18446744073709551616 a) (db:b0<18446744073709551616) (na:Norm a) (hb0:0<b0) (hl:a.length≤1000000) (hle:b0≤vl 18446744073709551616 a):
  Gp E2 265 [va,vb] h (DivP (vl 18446744073709551616 a/b0) (vl 18446744073709551616 a%b0)):=by
 refine Gp.of (CallWp.fn (fn:=C.a265) rfl rfl rfl ?_)
 unfold C.a265
 have hv1:vl 18446744073709551616 [b0]=b0:=by simp[vl]
 have cmp:=fun{K:AV→Hp→Prop}=>c205 (K:=K) ha hb da (Dg.cons db Dg.nil) na (by simp only[Norm,List.getLast?_singleton,ne_eq,Option.some.injEq];omega) (by omega) (by simp)
 have hc:¬(cmpN (vl 18446744073709551616 a) (vl 18446744073709551616 [b0])<0):=by rw[hv1];unfold cmpN;split<;>(try split)<;>omega
 have la:=ha.rd.len
 have lb:=hb.rd.len
 have lb':lenK .slice vb=some (.int .i64 1):=lb
 have mk:=fun{h:Hp} {K:AV→Hp→Prop}=>MksK.int (h:=h) (K:=K) (b:=8) (z:= .int .u64 0) (n:=a.length) rfl (by omega)
 have ilen:IntKind.wrap .i64 ((a.length:Int)-1)=(a.length:Int)-1:=wrap_i64 (by omega)
 repeat' (with_reducible first|simp(disch:=first|exact okD|fail) only[go_sem,seval,cmp,hc,la,lb',mk,ilen]|(apply Spl.i<;>intro hc))
 have hz:(List.replicate a.length (AV.int .u64 0))=(List.replicate a.length 0).map (wd .u64):=by rw[List.map_replicate];rfl
 rw[hz]
 refine Wp.loopI (fun m s'=>∃(k rem:Nat) (out:List Nat),val s'.tm (.t 0)=va∧val s'.tm (.t 1)=vb∧val s'.tm (.t 6)= .sl h.next 0 a.length 1∧val s'.tm (.t 7)= .int .u64 rem∧val s'.tm (.t 8)= .int .i64 ((k:Int)-1)∧
  Grs h s'.hp∧AtS s'.hp h.next (out.map (wd .u64))∧out.length=a.length∧Dg 18446744073709551616 out∧rem<b0∧k≤a.length∧vl 18446744073709551616 (a.drop k)=vl 18446744073709551616 (out.drop k)*b0+rem∧k=m) (n:=a.length) ?_ ?_
 ·refine⟨a.length,0,List.replicate a.length 0,by simp(disch:=first|exact okD|fail) only[go_sem,seval],by simp(disch:=first|exact okD|fail) only[go_sem,seval],by simp(disch:=first|exact okD|fail) only[go_sem,seval],by(simp(disch:=first|exact okD|fail) only[go_sem,seval])<;>rfl,by simp(disch:=first|exact okD|fail) only[go_sem,seval],?_,AtS.push,by simp,Dg.zeros (by decide) _,hb0,Nat.le_refl _,?_,rfl⟩
  ·exact okG
  ·rw[List.drop_of_length_le (by simp),List.drop_of_length_le (by simp)];simp[vl]
 ·rintro m ⟨tm,hp⟩ ⟨k,rem,out,h0,h1,h6,h7,h8,hG,hA,hlo,hd,hrem,hk,hinv,rfl⟩
  simp only at h0 h1 h6 h7 h8 hG hA
  rcases Nat.eq_zero_or_pos k with rfl|hpos
  ·have e0:((0:Nat):Int)-1= -1:=rfl
   have hS:=hA.sq (n:=a.length) hlo
   simp only[List.drop_zero]at hinv
   have hq:vl 18446744073709551616 out=vl 18446744073709551616 a/b0:=by rw[hinv,Nat.mul_comm,Nat.mul_add_div hb0,Nat.div_eq_of_lt hrem,Nat.add_zero]
   have hr:rem=vl 18446744073709551616 a%b0:=by rw[hinv,Nat.mul_comm,Nat.mul_add_mod,Nat.mod_eq_of_lt hrem]
   repeat' (with_reducible first|simp(disch:=first|exact okD|fail) only[go_sem,seval,h0,h1,h6,h7,h8,e0]|(apply Spl.i<;>intro hc))
   refine Gp.wp (g268 hS (by omega)) fun v1 k1 a1 b1 u1 S1=>?_
   repeat' (with_reducible first|simp(disch:=first|exact okD|fail) only[go_sem,seval,h7]|(apply Spl.i<;>intro hc))
   have A2:AtS ((hp.ov k1 u1).push fun s=> .row [.int .u64 (rem:Int)] true s) (hp.ov k1 u1).next ([rem].map (wd .u64)):=AtS.push
   have S2:=A2.sq (n:=1) rfl
   have S1':=S1.grs (Grs.push (Grs.refl (hp.ov k1 u1)) (f:=fun s=> .row [.int .u64 (rem:Int)] true s))
   simp only[Hp.next_push,Hp.next_put,Hp.ov_next,Hp.clk_push,Hp.clk_put,Hp.ov_clk]at S2
   refine Gp.wp (g268 S2 (by simp)) fun v2 k2 a2 b2 u2 S3=>?_
   repeat' (with_reducible first|simp(disch:=first|exact okD|fail) only[go_sem,seval]|(apply Spl.i<;>intro hc))
   refine⟨⟨v1,v2,_,_,rfl,S1'.grs ⟨_,_,u2⟩,S3,hd.trim,(Dg.cons (by omega) Dg.nil).trim,norm_trim _,norm_trim _,by rw[vl_trim,hq],by rw[vl_trim];simp[vl,hr]⟩,?_⟩
   refine hG.trans ?_
   exact okG
  ·have e1:((k:Int)-1).toNat=k-1:=by omega
   have hp1:(0:Int)≤(k:Int)-1:=by omega
   have ra:=(ha.grs hG).rd
   have rb:=(hb.grs hG).rd
   have ada:=ra.adr
   have adb:=rb.adr
   have lda:=ra.load (k-1) (by omega)
   have ldb:=rb.load 0 (by simp)
   have ola:=ra.old (by omega)
   have olb:=rb.old (by simp)
   have e00:(0:Int).toNat=0:=rfl
   simp only[List.getD_cons_zero,Nat.add_zero]at ldb
   have sw:=hA.stw' (i:=k-1) (by omega)
   have hnx:=hA.lt
   have had:=Dg.getD (B:=18446744073709551616) (by decide) da (k-1)
   have da1:=vl_drop (B:=18446744073709551616) (l:=a) (j:=k-1) (by omega)
   have da2:=fun q=>vl_drop_set (B:=18446744073709551616) (q:=q) (l:=out) (j:=k-1) (by omega)
   rw[Nat.sub_add_cancel hpos]at da1
   simp only[Nat.sub_add_cancel hpos]at da2
   generalize a.getD (k-1) 0=ak at *
   have c3:=fun{h:Hp} {K:AV→Hp→Prop}=>c300 (h:=h) (K:=K) (hi:=rem) (lo:=ak) (y:=b0) had db hrem
   have hqB:(rem*18446744073709551616+ak)/b0<18446744073709551616:=by
    rw[Nat.div_lt_iff_lt_mul hb0,Nat.mul_comm]
    have:(rem+1)*18446744073709551616≤b0*18446744073709551616:=Nat.mul_le_mul_right _ hrem
    omega
   have hrl:(rem*18446744073709551616+ak)%b0<b0:=Nat.mod_lt _ hb0
   have hdm:=short_step (B:=18446744073709551616) (x:=ak) hinv (Nat.div_add_mod (rem*18446744073709551616+ak) b0).symm
   obtain⟨q0,hq0⟩:∃q0,q0=(rem*18446744073709551616+ak)/b0:=⟨_,rfl⟩
   obtain⟨r0,hr0⟩:∃r0,r0=(rem*18446744073709551616+ak)%b0:=⟨_,rfl⟩
   rw[←hq0]at hqB
   rw[←hr0]at hrl
   rw[←hq0,←hr0]at c3 hdm
   have ik:IntKind.wrap .i64 ((k:Int)-1-1)=(k:Int)-1-1:=wrap_i64 (by omega)
   repeat' (with_reducible first|simp(disch:=first|exact okD|fail) only[go_sem,seval,h0,h1,h6,h7,h8,hp1,e1,e00,ada,adb,lda,ldb,ola,olb,c3,sw,ik]|(apply Spl.i<;>intro hc))
   refine⟨k-1,by omega,k-1,r0,out.set (k-1) q0,rfl,?_,?_,AtS.put hnx,by simpa using hlo,hd.set _ hqB,hrl,by omega,?_,rfl⟩
   ·congr 1;omega
   ·exact Grs.put hG (Nat.le_refl _)
   ·rw[da1,da2];exact hdm
end
end
end Go.Ae
set_option linter.unusedVariables false
set_option linter.unusedSimpArgs false
set_option maxRecDepth 100000
namespace Go.Ae
open Bg
noncomputable section
theorem un_word {s x y:Nat} (hs:s≤63) (hx:x<18446744073709551616) (hy:y<18446744073709551616):x/2^s<2^(64-s)∧y*2^(64-s)%18446744073709551616=(y%2^s)*2^(64-s)∧y*2^(64-s)%18446744073709551616+x/2^s<18446744073709551616∧(y*2^(64-s)%18446744073709551616+x/2^s)*2^s+x%2^s=x+18446744073709551616*(y%2^s):=by
 have hB:2^s*2^(64-s)=18446744073709551616:=by rw[←Nat.pow_add,Nat.add_sub_cancel' (by omega)]
 have hp:0<2^s:=Nat.pow_pos (by decide)
 have h1:x/2^s<2^(64-s):=by rw[Nat.div_lt_iff_lt_mul hp,Nat.mul_comm,hB];exact hx
 have h2:y*2^(64-s)%18446744073709551616=(y%2^s)*2^(64-s):=by rw[←hB,Nat.mul_mod_mul_right]
 refine⟨h1,h2,?_,?_⟩
 ·rw[h2]
  have:=Nat.mul_le_mul_right (2^(64-s)) (Nat.mod_lt y hp)
  rw[Nat.succ_mul,hB]at this
  exact Nat.lt_of_lt_of_le (Nat.add_lt_add_left h1 _) this
 ·rw[h2,Nat.add_mul]
  have e1:y%2^s*2^(64-s)*2^s=18446744073709551616*(y%2^s):=by rw[←hB];ac_rfl
  have e2:x/2^s*2^s+x%2^s=x:=Nat.div_add_mod' _ _
  rw[e1,Nat.add_assoc,e2,Nat.add_comm]
theorem un_step {P B Y A x p w xm ym:Nat} (h:Y*p=A+P*xm) (hw:w*p+xm=x+B*ym):(Y+P*w)*p=A+P*x+P*B*ym:=by
 have e:P*(w*p+xm)=P*(x+B*ym):=by rw[hw]
 rw[Nat.mul_add,Nat.mul_add,←Nat.mul_assoc,←Nat.mul_assoc]at e
 rw[Nat.add_mul,h];omega
section
variable {h hp:Hp} {K:AV→Hp→Prop} {tm:T AV}
theorem div_un {T0 tq s n N M R:Nat} {L out:List Nat} (h9:val tm (.t 9)= .int .i64 s) (h11:val tm (.t 11)= .sl T0 0 (N+1) 1) (h12:val tm (.t 12)= .int .i64 n) (h13:val tm (.t 13)= .sl tq 0 M 1)
  (hG:Grs h hp) (hT:h.next≤T0) (hA:AtS hp T0 (L.map (wd .u64))) (hL:L.length=N+1) (dL:Dg 18446744073709551616 L) (hn:n≤N) (hN:N≤1000000) (hs:s≤63) (hv:vl 18446744073709551616 L=R*2^s) (hlt:vl 18446744073709551616 L<18446744073709551616^n) (hn0:0<n)
  (hq:AtS hp tq (out.map (wd .u64))) (ho:out.length=M) (dq:Dg 18446744073709551616 out) (hM:M≤1000001) (hne:tq≠T0):
  Wp E2 ((C.a265.code.post 8).post 1) ⟨tm,hp⟩ (RetQ [.tmp 4,.tmp 5] fun v h'=>DivP (vl 18446744073709551616 out) R v h'∧Grs h h'):=by
 unfold C.a265
 dsimp only[ACode.post]
 have hp2:0<2^s:=Nat.pow_pos (by decide)
 obtain⟨ht0,htn⟩:=vl_top0 (B:=18446744073709551616) (by decide) hlt
 have hLn:L.getD n 0=0:=by
  have:=vl_zero_get (B:=18446744073709551616) (by decide) (k:=0) ht0
  simpa[List.getD,List.getElem?_drop]using this
 have hL0:L.getD 0 0%2^s=0:=by
  have e:=vl_drop (B:=18446744073709551616) (l:=L) (j:=0) (by omega)
  rw[List.drop_zero,hv]at e
  have hB:18446744073709551616=2^s*2^(64-s):=by rw[←Nat.pow_add,Nat.add_sub_cancel' (by omega)]
  have e2:(R*2^s)%2^s=(L.getD 0 0+2^s*(2^(64-s)*vl 18446744073709551616 (L.drop 1)))%2^s:=by
   rw[e];congr 2
   rw[←Nat.mul_assoc,←hB]
  rw[Nat.mul_mod_left,Nat.add_mul_mod_self_left]at e2
  exact e2.symm
 repeat' (with_reducible first|simp(disch:=first|exact okD|fail) only[go_sem,seval,h12]|(apply Spl.i<;>intro hc))
 refine Wp.loopI (fun m s'=>∃(i:Nat) (Y:List Nat),val s'.tm (.t 9)= .int .i64 s∧val s'.tm (.t 11)= .sl T0 0 (N+1) 1∧val s'.tm (.t 12)= .int .i64 n∧val s'.tm (.t 13)= .sl tq 0 M 1∧val s'.tm (.t 96)= .int .i64 n∧val s'.tm (.t 97)= .int .i64 i∧
  Grs h s'.hp∧AtS s'.hp T0 (Y.map (wd .u64))∧AtS s'.hp tq (out.map (wd .u64))∧Y.length=N+1∧Dg 18446744073709551616 Y∧i≤n∧vl 18446744073709551616 (Y.take i)*2^s=vl 18446744073709551616 (L.take i)+18446744073709551616^i*(L.getD i 0%2^s)∧(∀k,i≤k→Y.getD k 0=L.getD k 0)∧n-i=m) (n:=n) ?_ ?_
 ·exact⟨0,L,by simp(disch:=first|exact okD|fail) only[go_sem,seval,h9],by simp(disch:=first|exact okD|fail) only[go_sem,seval,h11],by simp(disch:=first|exact okD|fail) only[go_sem,seval,h12],by simp(disch:=first|exact okD|fail) only[go_sem,seval,h13],by simp(disch:=first|exact okD|fail) only[go_sem,seval],by(simp(disch:=first|exact okD|fail) only[go_sem,seval])<;>rfl,hG,hA,hq,hL,dL,by omega,by rw[hL0];simp[vl],fun _ _=>rfl,rfl⟩
 ·rintro m ⟨tm,hp⟩ ⟨i,Y,h9,h11,h12,h13,h96,h97,hG,hA,hq,hY,dY,hle,hinv,hsame,rfl⟩
  simp only at h9 h11 h12 h13 h96 h97 hG hA hq
  have e64:(64:Int)-s=((64-s:Nat):Int):=by omega
  by_cases hi:i<n
  ·have hi':(i:Int)<n:=by omega
   have hx:=Dg.getD (B:=18446744073709551616) (by decide) dY i
   have hy:=Dg.getD (B:=18446744073709551616) (by decide) dY (i+1)
   have tkL:=vl_take_succ (B:=18446744073709551616) (l:=L) (i:=i) (by omega)
   have tkY:=fun w=>vl_set_take (B:=18446744073709551616) (l:=Y) (i:=i) (x:=w) (by omega)
   rw[hsame i (Nat.le_refl _)]at hx
   rw[hsame (i+1) (by omega)]at hy
   obtain⟨u1,u2,u3,u4⟩:=un_word (x:=L.getD i 0) (y:=L.getD (i+1) 0) hs hx hy
   have fin:=un_step hinv u4
   have hij:(((i:Int)+1)).toNat=i+1:=by omega
   have hN1:(i:Int)+1<((N+1:Nat):Int):=by omega
   have hN2:(i:Int)+1<(N:Int)+1:=by omega
   have ld1:=hA.ldw' (i:=i) (by omega)
   rw[hsame i (Nat.le_refl _)]at ld1
   have st1:=hA.stw' (i:=i) (by omega)
   have hnx:=hA.lt
   have sr:=fun q k'=>b_shr64 (q:=q) (k':=k') (m:=L.getD i 0) (n:=s) (by omega)
   by_cases hs0:0<s
   ·have hs0':(0:Int)<s:=by omega
    have g1:((Y.set i (L.getD i 0/2^s)).map (wd .u64))[i]?=some (.int .u64 (L.getD i 0/2^s:Nat)):=by
     have:=row_get (kd:= .u64) (L:=Y.set i (L.getD i 0/2^s)) (i:=i) (by simp;omega)
     rwa[Bg.getD_set (by omega)]at this
    have g2:((Y.set i (L.getD i 0/2^s)).map (wd .u64))[i+1]?=some (.int .u64 (L.getD (i+1) 0:Nat)):=by
     have:=row_get (kd:= .u64) (L:=Y.set i (L.getD i 0/2^s)) (i:=i+1) (by simp;omega)
     rwa[Bg.getD_set_ne (by omega),hsame (i+1) (by omega)]at this
    have hset2:∀r:Nat,List.take i ((Y.set i (L.getD i 0/2^s)).map (wd .u64))++ .int .u64 (r:Int)::List.drop (i+1) ((Y.set i (L.getD i 0/2^s)).map (wd .u64))=(Y.set i r).map (wd .u64):=fun r=>by
     rw[set_row (by simp;omega),List.set_set]
    have slr:=fun q k'=>b_shlL (q:=q) (k':=k') (m:=L.getD (i+1) 0) (n:=64-s) (by omega)
    have hor:=fun q=>b_orE (q:=q) (a:=L.getD i 0/2^s) (b:=L.getD (i+1) 0*2^(64-s)%18446744073709551616) u1 u2 u3
    obtain⟨w,hw⟩:∃w,w=L.getD (i+1) 0*2^(64-s)%18446744073709551616+L.getD i 0/2^s:=⟨_,rfl⟩
    rw[←hw]at hor u3 fin
    generalize L.getD i 0/2^s=lo at *
    generalize L.getD (i+1) 0*2^(64-s)%18446744073709551616=hi2 at *
    have hb1:i+1≤Y.length:=by omega
    have hb2:i+1+1≤Y.length:=by omega
    repeat' (with_reducible first|simp(disch:=first|exact okD|fail) only[go_sem,seval,h9,h11,h12,h13,h96,h97,hi',hij,hN1,hN2,e64,ld1,st1,sr,hs0',g1,g2,hset2,slr,hor,hb1,hb2]|(apply Spl.i<;>intro hc))
    refine⟨n-(i+1),by omega,i+1,Y.set i w,rfl,?_,AtS.put hnx,?_,by simpa using hY,dY.set _ u3,hi,?_,?_,rfl⟩
    ·exact Grs.put (Grs.put hG hT) hT
    ·exact(hq.other hne).other hne
    ·rw[tkY,tkL,Nat.pow_succ];exact fin
    ·intro k hk
     rw[Bg.getD_set_ne (by omega)];exact hsame k (by omega)
   ·obtain rfl:s=0:=by omega
    have e0:((0:Nat):Int)=0:=rfl
    have w0:L.getD (i+1) 0*2^(64-0)%18446744073709551616=0:=by rw[u2,Nat.pow_zero,Nat.mod_one,Nat.zero_mul]
    rw[w0,Nat.zero_add]at fin u3
    rw[e0]at h9 sr
    generalize L.getD i 0/2^0=lo at *
    repeat' (with_reducible first|simp(disch:=first|exact okD|fail) only[go_sem,seval,h9,h11,h12,h13,h96,h97,hi',hij,hN1,hN2,ld1,st1,sr,Int.lt_irrefl]|(apply Spl.i<;>intro hc))
    refine⟨n-(i+1),by omega,i+1,Y.set i lo,rfl,?_,AtS.put hnx,?_,by simpa using hY,dY.set _ u3,hi,?_,?_,rfl⟩
    ·exact Grs.put hG hT
    ·exact hq.other hne
    ·rw[tkY,tkL,Nat.pow_succ];simpa only[Nat.pow_zero,Nat.mul_one]using fin
    ·intro k hk
     rw[Bg.getD_set_ne (by omega)];exact hsame k (by omega)
  ·have hi':¬(i:Int)<n:=by omega
   obtain rfl:i=n:=by omega
   rw[hLn,Nat.zero_mod,Nat.mul_zero,Nat.add_zero,htn,hv]at hinv
   have hYR:=Nat.eq_of_mul_eq_mul_right hp2 hinv
   have hS:=hq.sq (n:=M) ho
   obtain⟨st,hg,hst,hTn⟩:=hA
   have hk2:(0:Int)≤(i:Int)∧(i:Int)≤((N+1:Nat):Int):=by omega
   have sl1:=slA_hi (h:=hp) (t:=T0) (o:=0) (n:=N+1) (z:=1) (sz:=1) (kd:= .i64) hk2
   repeat' (with_reducible first|simp(disch:=first|exact okD|fail) only[go_sem,seval,h9,h11,h12,h13,h96,h97,hi']|(apply Spl.i<;>intro hc))
   refine Gp.wp (g268 hS (by omega)) fun v1 k1 a1 b1 u1 S1=>?_
   have S2:Sq .u64 (hp.ov k1 u1) (.sl T0 0 i 1) (Y.take i):=by
    refine .inr ⟨T0,0,true,st,Y,?_,?_,?_,?_,?_,?_⟩
    ·rw[List.length_take,Nat.min_eq_left (by omega)]
    ·rw[Hp.ov_get hTn];exact hg
    ·rw[List.length_take];omega
    ·rw[List.length_take,Nat.min_eq_left (by omega),List.drop_zero]
    ·rw[Hp.ov_next];omega
    ·rw[Hp.ov_clk];omega
   have sl2:=slA_hi (h:=hp.ov k1 u1) (t:=T0) (o:=0) (n:=N+1) (z:=1) (sz:=1) (kd:= .i64) hk2
   rw[Int.toNat_natCast]at sl2
   repeat' (with_reducible first|simp(disch:=first|exact okD|fail) only[go_sem,seval,h9,h11,h12,h13,sl2]|(apply Spl.i<;>intro hc))
   refine Gp.wp (g268 S2 (by rw[List.length_take];omega)) fun v2 k2 a2 b2 u2 S3=>?_
   repeat' (with_reducible first|simp(disch:=first|exact okD|fail) only[go_sem,seval]|(apply Spl.i<;>intro hc))
   refine⟨⟨v1,v2,_,_,rfl,S1.grs ⟨_,_,u2⟩,S3,dq.trim,(dY.take _).trim,norm_trim _,norm_trim _,by rw[vl_trim],by rw[vl_trim,hYR]⟩,?_⟩
   refine hG.trans ?_
   exact okG
end
end
end Go.Ae
set_option linter.unusedVariables false
set_option linter.unusedSimpArgs false
set_option maxRecDepth 100000
namespace Go.Ae
open Bg
noncomputable section
section
variable {h hp:Hp} {K:AV→Hp→Prop} {tm:T AV}
theorem div_main {va wv:AV} {a v L0:List Nat} {T0 tq s:Nat} (h0:val tm (.t 0)=va) (h9:val tm (.t 9)= .int .i64 s) (h10:val tm (.t 10)=wv) (h11:val tm (.t 11)= .sl T0 0 (a.length+1) 1) (h12:val tm (.t 12)= .int .i64 v.length) (h13:val tm (.t 13)= .sl tq 0 (a.length-v.length+1) 1)
  (hG:Grs h hp) (ha:Sq .u64 hp va a) (hv:Sq .u64 hp wv v) (dv:Dg 18446744073709551616 v) (h2:2≤v.length) (hva:v.length≤a.length) (hN:a.length≤1000000) (hv1:v.getD (v.length-1) 0≠0) (hvv:tokOf wv<T0) (hT:h.next≤T0) (hTq:T0<tq)
  (hA:AtS hp T0 (L0.map (wd .u64))) (hL:L0.length=a.length+1) (dL:Dg 18446744073709551616 L0) (hq:AtS hp tq ((List.replicate (a.length-v.length+1) 0).map (wd .u64)))
  (hs:s≤63) {b:Nat} (hb:0<b) (hvb:vl 18446744073709551616 v=b*2^s) (hab:vl 18446744073709551616 L0=vl 18446744073709551616 a*2^s) (htop:vl 18446744073709551616 (L0.drop (a.length-v.length+1))<vl 18446744073709551616 v):
  Wp E2 (C.a265.code.post 8) ⟨tm,hp⟩ (RetQ [.tmp 4,.tmp 5] fun v h'=>DivP (vl 18446744073709551616 a/b) (vl 18446744073709551616 a%b) v h'∧Grs h h'):=by
 have hvl:=vl_lt (B:=18446744073709551616) (by decide) dv
 have tail:=fun(tm:T AV) (hp:Hp) (L out:List Nat) h9 h11 h12 h13 hG hA hL dL hv hlt hq ho dq=>div_un (h:=h) (hp:=hp) (tm:=tm) (T0:=T0) (tq:=tq) (s:=s) (n:=v.length) (N:=a.length) (M:=a.length-v.length+1) (R:=vl 18446744073709551616 a%b) (L:=L) (out:=out) h9 h11 h12 h13 hG hT hA hL dL hva hN hs hv hlt (by omega) hq ho dq (by omega) (by omega)
 refine Wp.cut 1 rfl ?_
 generalize ACode.post 1 (ACode.post 8 C.a265.code)=r at tail⊢
 unfold C.a265
 dsimp only[ACode.post,ACode.pre]
 have la:=ha.rd.len
 have w1:(a.length:Int)-v.length=((a.length-v.length:Nat):Int):=by omega
 repeat' (with_reducible first|simp(disch:=first|exact okD|fail) only[go_sem,seval,h0,h12,la,w1]|(apply Spl.i<;>intro hc))
 refine Wp.loopI (fun m s'=>∃(k:Nat) (L out:List Nat),val s'.tm (.t 9)= .int .i64 s∧val s'.tm (.t 10)=wv∧val s'.tm (.t 11)= .sl T0 0 (a.length+1) 1∧val s'.tm (.t 12)= .int .i64 v.length∧val s'.tm (.t 13)= .sl tq 0 (a.length-v.length+1) 1∧val s'.tm (.t 14)= .int .i64 ((k:Int)-1)∧
  Grs h s'.hp∧Sq .u64 s'.hp wv v∧AtS s'.hp T0 (L.map (wd .u64))∧AtS s'.hp tq (out.map (wd .u64))∧L.length=a.length+1∧out.length=a.length-v.length+1∧Dg 18446744073709551616 L∧Dg 18446744073709551616 out∧k≤a.length-v.length+1∧
  (∀i,i<k→L.getD i 0=L0.getD i 0)∧vl 18446744073709551616 (L.drop k)<vl 18446744073709551616 v∧vl 18446744073709551616 (L0.drop k)=vl 18446744073709551616 (out.drop k)*vl 18446744073709551616 v+vl 18446744073709551616 (L.drop k)∧k=m) (n:=a.length-v.length+1) ?_ ?_
 ·refine⟨a.length-v.length+1,L0,List.replicate (a.length-v.length+1) 0,by simp(disch:=first|exact okD|fail) only[go_sem,seval,h9],by simp(disch:=first|exact okD|fail) only[go_sem,seval,h10],by simp(disch:=first|exact okD|fail) only[go_sem,seval,h11],by simp(disch:=first|exact okD|fail) only[go_sem,seval,h12],by simp(disch:=first|exact okD|fail) only[go_sem,seval,h13],?_,hG,hv,hA,hq,hL,by simp,dL,Dg.zeros (by decide) _,Nat.le_refl _,fun _ _=>rfl,htop,?_,rfl⟩
  ·simp(disch:=first|exact okD|fail) only[go_sem,seval]
   congr 1;omega
  ·rw[List.drop_of_length_le (l:=List.replicate _ 0) (by simp)];simp[vl]
 ·rintro m ⟨tm,hp⟩ ⟨k,L,out,h9,h10,h11,h12,h13,h14,hG,hv,hA,hq,hL,ho,dL,dq,hk,hlow,hR,hinv,rfl⟩
  simp only at h9 h10 h11 h12 h13 h14 hG hv hA hq
  rcases Nat.eq_zero_or_pos k with rfl|hpos
  ·have e0:((0:Nat):Int)-1= -1:=rfl
   simp only[List.drop_zero]at hinv hR
   rw[hab,hvb,←Nat.mul_assoc]at hinv
   have hp2:0<2^s:=Nat.pow_pos (by decide)
   rw[hvb]at hR
   have key:vl 18446744073709551616 L=vl 18446744073709551616 a%b*2^s∧vl 18446744073709551616 out=vl 18446744073709551616 a/b:=by
    have e:vl 18446744073709551616 a*2^s/(b*2^s)=vl 18446744073709551616 out:=by
     rw[hinv,Nat.mul_assoc,Nat.mul_comm,Nat.mul_add_div (by omega),Nat.div_eq_of_lt hR,Nat.add_zero]
    have e2:vl 18446744073709551616 a*2^s%(b*2^s)=vl 18446744073709551616 L:=by
     rw[hinv,Nat.mul_assoc,Nat.mul_comm,Nat.mul_add_mod,Nat.mod_eq_of_lt hR]
    rw[Nat.mul_div_mul_right _ _ hp2]at e
    rw[Nat.mul_mod_mul_right]at e2
    exact⟨e2.symm,e.symm⟩
   repeat' (with_reducible first|simp(disch:=first|exact okD|fail) only[go_sem,seval,h9,h10,h11,h12,h13,h14,e0]|(apply Spl.i<;>intro hc))
   rw[←key.2]
   exact tail _ _ _ _ (by simp(disch:=first|exact okD|fail) only[go_sem,seval,h9]) (by simp(disch:=first|exact okD|fail) only[go_sem,seval,h11]) (by simp(disch:=first|exact okD|fail) only[go_sem,seval,h12]) (by simp(disch:=first|exact okD|fail) only[go_sem,seval,h13]) hG hA hL dL key.1 (by rw[←hvb]at hR;omega) hq ho dq
  ·have e1:((k:Int)-1).toNat=k-1:=by omega
   have hp1:(0:Int)≤(k:Int)-1:=by omega
   have hj:(L.take (k-1)).length=k-1:=by rw[List.length_take];omega
   have hsp:L=L.take (k-1)++(L.drop (k-1)).take (v.length+1)++L.drop (k-1+(v.length+1)):=by
    rw[List.append_assoc,←List.drop_drop,List.take_append_drop,List.take_append_drop]
   have hWl:((L.drop (k-1)).take (v.length+1)).length=v.length+1:=by rw[List.length_take,List.length_drop];omega
   have hsl:∀h,slA h 1 (.sl T0 0 (a.length+1) 1) (some (.int .i64 ((k:Int)-1))) (some (.int .i64 ((k:Int)-1+v.length+1)))=some (.sl T0 (L.take (k-1)).length (v.length+1) 1,h):=by
    intro h
    rw[slA_lh (by omega)]
    rw[hj]
    congr 3<;>omega
   have dk:=vl_drop (B:=18446744073709551616) (l:=L) (j:=k-1) (by omega)
   have dk0:=vl_drop (B:=18446744073709551616) (l:=L0) (j:=k-1) (by omega)
   have dko:=fun q=>vl_drop_set (B:=18446744073709551616) (q:=q) (l:=out) (j:=k-1) (by omega)
   rw[Nat.sub_add_cancel hpos]at dk dk0
   simp only[Nat.sub_add_cancel hpos]at dko
   rw[hlow (k-1) (by omega)]at dk
   have hljd:=Dg.getD (B:=18446744073709551616) (by decide) dL (k-1)
   rw[hlow (k-1) (by omega)]at hljd
   have hWlt:vl 18446744073709551616 (L.drop (k-1))<18446744073709551616*vl 18446744073709551616 v:=by
    rw[dk]
    have:18446744073709551616*(vl 18446744073709551616 (L.drop k)+1)≤18446744073709551616*vl 18446744073709551616 v:=Nat.mul_le_mul_left _ hR
    omega
   have hBn:vl 18446744073709551616 (L.drop (k-1))<18446744073709551616^(v.length+1):=by
    rw[Nat.pow_succ,Nat.mul_comm]
    exact Nat.lt_trans hWlt (Nat.mul_lt_mul_of_pos_left hvl (by decide))
   obtain⟨ht0,htn⟩:=vl_top0 (B:=18446744073709551616) (by decide) hBn
   rw[List.drop_drop]at ht0
   rw[hsp]at hA
   have hstep:=long_step (B:=18446744073709551616) hinv dk (Nat.div_add_mod (vl 18446744073709551616 (L.drop (k-1))) (vl 18446744073709551616 v)).symm
   have hqB:vl 18446744073709551616 (L.drop (k-1))/vl 18446744073709551616 v<18446744073709551616:=by
    rw[Nat.div_lt_iff_lt_mul (by omega)];exact hWlt
   have hrl:vl 18446744073709551616 (L.drop (k-1))%vl 18446744073709551616 v<vl 18446744073709551616 v:=Nat.mod_lt _ (by omega)
   rw[←htn]at hstep hqB hrl hWlt
   obtain⟨W,hW⟩:∃W,W=(L.drop (k-1)).take (v.length+1):=⟨_,rfl⟩
   obtain⟨P,hP⟩:∃P,P=L.take (k-1):=⟨_,rfl⟩
   obtain⟨S,hS⟩:∃S,S=L.drop (k-1+(v.length+1)):=⟨_,rfl⟩
   have dW:Dg 18446744073709551616 W:=by rw[hW];exact(dL.drop _).take _
   have dP:Dg 18446744073709551616 P:=by rw[hP];exact dL.take _
   have dS:Dg 18446744073709551616 S:=by rw[hS];exact dL.drop _
   rw[←hW]at hA hWl hstep hqB hrl hWlt
   rw[←hP]at hA hj hsl
   rw[←hS]at hA ht0
   have hSl:P.length+(v.length+1)+S.length=a.length+1:=by
    rw[hP,hS,List.length_take,List.length_drop];omega
   have hPlow:∀i,i<k-1→P.getD i 0=L0.getD i 0:=by
    intro i hi
    rw[←hlow i (by omega),hP]
    simp only[List.getD,List.getElem?_take,if_pos hi]
   repeat' (with_reducible first|simp(disch:=first|exact okD|fail) only[go_sem,seval,h9,h10,h11,h12,h13,h14,hp1,hsl]|(apply Spl.i<;>intro hc))
   refine c303 (P:=P) (S:=S) hv (by omega) hA hWl dW dv (by omega) h2 hv1 hWlt fun h' W' c hA' hW' dW' hr=>?_
   have hq':=hq.chg c (by omega)
   have hv':=hv.chg c (by omega)
   have sw:=hq'.stw' (i:=k-1) (by omega)
   have hnx:=hq'.lt
   have ik:IntKind.wrap .i64 ((k:Int)-1-1)=(k:Int)-1-1:=wrap_i64 (by omega)
   generalize vl 18446744073709551616 W/vl 18446744073709551616 v=q0 at *
   repeat' (with_reducible first|simp(disch:=first|exact okD|fail) only[go_sem,seval,h9,h10,h11,h12,h13,h14,hp1,e1,sw,ik]|(apply Spl.i<;>intro hc))
   have hdr:vl 18446744073709551616 ((P++W'++S).drop (k-1))=vl 18446744073709551616 W':=by
    rw[List.append_assoc,List.drop_append_of_le_length (by omega),List.drop_of_length_le (by omega),List.nil_append,vl_append,ht0];simp
   refine⟨k-1,by omega,k-1,P++W'++S,out.set (k-1) q0,?_,?_,?_,?_,?_,?_,?_,?_,?_,by omega,?_,?_,?_,rfl⟩
   ·congr 1;omega
   ·exact Grs.put (c.grs hG hT) (by omega)
   ·exact hv'.chg (Chg.put (t:=tq) Chg.refl) (by omega)
   ·exact hA'.other (by omega)
   ·exact AtS.put hnx
   ·simp only[List.length_append];omega
   ·simpa using ho
   ·exact(dP.append dW').append dS
   ·exact dq.set _ hqB
   ·intro i hi
    rw[←hPlow i hi]
    simp only[List.getD]
    rw[List.append_assoc,List.getElem?_append_left (by omega)]
   ·rw[hdr,hr];exact hrl
   ·rw[hdr,hr,dk0,dko];exact hstep
end
end
end Go.Ae
set_option linter.unusedVariables false
set_option linter.unusedSimpArgs false
set_option maxRecDepth 100000
namespace Go.Ae
open Bg
noncomputable section
section
variable {h hp:Hp} {K:AV→Hp→Prop} {s w s' w':AV} {x y z:Int}
theorem IsI.cases (hi:IsI h s w z):(s= .int .i64 z∧w= .nils∧-9223372036854775808≤z∧z≤9223372036854775807)∨(∃n t o,w= .sl t o n 1∧(z≤-9223372036854775808∨9223372036854775808≤z)∧(s= .int .i64 1∧0<z∨s= .int .i64 (-1)∧z<0)):=by
 rcases hi with hi|⟨n,t,o,l,e,_,_,_,hb,_,⟨h1,h2⟩|⟨h1,h2⟩⟩
 ·exact .inl hi
 ·exact .inr ⟨n,t,o,e,by omega,.inl ⟨h1,by omega⟩⟩
 ·exact .inr ⟨n,t,o,e,by omega,.inr ⟨h1,by omega⟩⟩
theorem IsI.one (hi:IsI h s w z):s.one=true∧w.one=true:=by
 rcases hi.cases with⟨rfl,rfl,_⟩|⟨n,t,o,rfl,_,⟨rfl,_⟩|⟨rfl,_⟩⟩<;>exact⟨rfl,rfl⟩
theorem cmp_ge {a b:Nat}:(0:Int)≤cmpN a b↔b≤a:=by unfold cmpN;split<;>(try split)<;>omega
theorem sgn_add {x y:Int} {a:Nat} (ha:a=x.natAbs+y.natAbs) (hc:decide (x<0)=decide (y<0)):sgn (decide (x<0)) a=x+y:=by
 rw[decide_eq_decide]at hc
 unfold sgn
 by_cases h0:x<0
 ·rw[decide_eq_true h0,if_pos rfl];have:=hc.1 h0;omega
 ·rw[decide_eq_false h0,if_neg (by decide)];have:¬y<0:=fun e=>h0 (hc.2 e);omega
theorem sgn_sub {x y:Int} {a:Nat} (ha:a=x.natAbs-y.natAbs) (hle:y.natAbs≤x.natAbs) (hc:¬decide (x<0)=decide (y<0)):sgn (decide (x<0)) a=x+y:=by
 rw[decide_eq_decide]at hc
 unfold sgn
 by_cases h0:x<0
 ·have:¬y<0:=fun e=>hc ⟨fun _=>e,fun _=>h0⟩
  rw[decide_eq_true h0,if_pos rfl];omega
 ·have:y<0:=by
   rcases Int.lt_or_le y 0 with c|c
   ·exact c
   ·exact absurd ⟨fun e=>absurd e h0,fun e=>by omega⟩ hc
  rw[decide_eq_false h0,if_neg (by decide)];omega
theorem sgn_mul {x y:Int} {a:Nat} (ha:a=x.natAbs*y.natAbs):sgn (decide (¬decide (x<0)=decide (y<0))) a=x*y:=by
 have key:((x.natAbs*y.natAbs:Nat):Int)=(x*y).natAbs:=by rw[Int.natAbs_mul]
 unfold sgn
 rw[ha,key]
 by_cases h1:x<0
 ·by_cases h2:y<0
  ·have:0≤x*y:=Int.mul_nonneg_of_nonpos_of_nonpos (by omega) (by omega)
   simp[h1,h2];omega
  ·have:x*y≤0:=Int.mul_nonpos_of_nonpos_of_nonneg (by omega) (by omega)
   simp[h1,h2];omega
 ·by_cases h2:y<0
  ·have:x*y≤0:=Int.mul_nonpos_of_nonneg_of_nonpos (by omega) (by omega)
   simp[h1,h2];omega
  ·have:0≤x*y:=Int.mul_nonneg (by omega) (by omega)
   simp[h1,h2];omega
theorem IsV.ex {v:AV} (i:IsV h v z):∃s w,v= .agg [s,w]∧s.one=true∧w.one=true∧IsI h s w z:=by
 obtain⟨s,w,e,i⟩:=i
 exact⟨s,w,e,i.one.1,i.one.2,i⟩
theorem Sq.put {p st:Nat} {own:Bool} {cs:List AV} {v:AV} {l:List Nat} {f:Nat→AObj} (i:Sq .u64 h v l) (hq:h.get p=some (.row (.int .i64 0::cs) own st)):Sq .u64 (h.put p f) v l:=by
 rcases i with i|⟨t,o,own',st',L,e,hg,r1,r2,r3,r4⟩
 ·exact .inl i
 ·refine .inr ⟨t,o,own',st',L,e,(Hp.put_other ?_).trans hg,r1,r2,r3,Nat.le_succ_of_le r4⟩
  rintro rfl
  rw[hq]at hg
  cases L with
  |nil=>simp at hg
  |cons a L=>simp[wd]at hg
theorem IsI.put {p st:Nat} {own:Bool} {cs:List AV} {f:Nat→AObj} (i:IsI h s w z) (hq:h.get p=some (.row (.int .i64 0::cs) own st)):IsI (h.put p f) s w z:=by
 rcases i with i|⟨n,t,o,l,e,hs,r⟩
 ·exact .inl i
 ·exact .inr ⟨n,t,o,l,e,hs.put hq,r⟩
theorem IsI.ov {h':Hp} {k j:Nat} {g:Grw h h' k j} (i:IsI h s w z):IsI (h.ov h' g) s w z:=i.grs ⟨k,j,g⟩
theorem Sq.ov {h':Hp} {k j:Nat} {g:Grw h h' k j} {kd:IntKind} {v:AV} {l:List Nat} (i:Sq kd h v l):Sq kd (h.ov h' g) v l:=i.grs ⟨k,j,g⟩
theorem add_slow {tm:T AV} {p2 p3 p4:Nat} (h2:val tm (.t 2)= .ptr p2 0) (h3:val tm (.t 3)= .ptr p3 0) (h4:val tm (.t 4)= .ptr p4 0) (g2:AtS hp p2 [s,w]) (g3:AtS hp p3 [s',w']) (g4:AtS hp p4 [.int .i64 0,.nils])
  (hG:Grs h hp) (hn:h.next≤p4) (ix:IsI hp s w x) (iy:IsI hp s' w' y) (lx:Lim 4000 x) (ly:Lim 4000 y):
  Wp E2 (C.a121.code.post 2) ⟨tm,hp⟩ (RetQ [.cell 4 true 2] fun v h'=>IsV h' v (x+y)∧Grs h h'):=by
 unfold C.a121
 dsimp only[ACode.post]
 obtain⟨s2,q2,_,t2⟩:=g2
 obtain⟨s3,q3,_,t3⟩:=g3
 obtain⟨s4,q4,_,t4⟩:=g4
 repeat' (with_reducible first|simp(disch:=first|exact okD|fail) only[go_sem,seval,h2,h3,h4,q2]|(apply Spl.i<;>intro hc))
 refine Gp.wp (c202 ix) fun v h1 k1 j1 u1 ⟨w1,l1,e,S1,D1,N1,V1,L1⟩=>?_
 subst e
 have iy1:=iy.ov (g:=u1)
 have m1:=lx.len N1 V1
 repeat' (with_reducible first|simp(disch:=first|exact okD|fail) only[go_sem,seval,h2,h3,h4,q3]|(apply Spl.i<;>intro hc))
 refine Gp.wp (c202 iy1) fun v h2' k2 j2 u2 ⟨w2,l2,e,S2,D2,N2,V2,L2⟩=>?_
 subst e
 have m2:=ly.len N2 V2
 have S1':=S1.ov (g:=u2)
 have ls:=lx.add ly
 by_cases hc:decide (x<0)=decide (y<0)
 ·repeat' (with_reducible first|simp(disch:=first|exact okD|fail) only[go_sem,seval,h2,h3,h4,hc]|(apply Spl.i<;>intro hc))
  refine Gp.wp (c204 S1' S2 D1 D2 (by omega) (by omega)) fun v h3' k3 j3 u3 ⟨l,S3,D3,N3,V3⟩=>?_
  have e3:sgn (decide (x<0)) (vl 18446744073709551616 l)=x+y:=sgn_add (by omega) hc
  have m3:=ls.len N3 (by rw[V3,V1,V2];rw[decide_eq_decide]at hc;omega)
  rw[hc]at e3
  repeat' (with_reducible first|simp(disch:=first|exact okD|fail) only[go_sem,seval,h2,h3,h4]|(apply Spl.i<;>intro hc))
  refine Gp.wp (c203 S3 D3 N3 (by omega)) fun v h4' k4 j4 u4 I4=>?_
  obtain⟨a,b,rfl,o1,o2,I4⟩:=I4.ex
  rw[e3]at I4
  have q4':((((hp.ov h1 u1).ov h2' u2).ov h3' u3).ov h4' u4).get p4=some (.row [.int .i64 0,.nils] true s4):=by simp(disch:=first|exact okD|fail) only[go_sem,seval,q4]
  repeat' (with_reducible first|simp(disch:=first|exact okD|fail) only[go_sem,seval,h4,q4,o1,o2]|(apply Spl.i<;>intro hc))
  refine⟨⟨a,b,rfl,I4.put q4'⟩,?_⟩
  exact okG
 ·by_cases hle:vl 18446744073709551616 l2≤vl 18446744073709551616 l1
  ·have hle':(0:Int)≤cmpN (vl 18446744073709551616 l1) (vl 18446744073709551616 l2):=cmp_ge.2 hle
   repeat' (with_reducible first|simp(disch:=first|exact okD|fail) only[go_sem,seval,h2,h3,h4,hc,c205 S1' S2 D1 D2 N1 N2 (by omega) (by omega),hle']|(apply Spl.i<;>intro hc))
   refine Gp.wp (c206 S1' S2 D1 D2 ?_ (by omega) hle) fun v h3' k3 j3 u3 ⟨l,S3,D3,N3,V3⟩=>?_
   ·rcases Nat.lt_or_ge l1.length l2.length with c|c
    ·have:=longer (B:=18446744073709551616) (by decide) D1 N2 c;omega
    ·exact c
   have e3:sgn (decide (x<0)) (vl 18446744073709551616 l)=x+y:=sgn_sub (by omega) (by omega) hc
   have m3:=ls.len N3 (by rw[←e3];unfold sgn;split<;>omega)
   repeat' (with_reducible first|simp(disch:=first|exact okD|fail) only[go_sem,seval,h2,h3,h4]|(apply Spl.i<;>intro hc))
   refine Gp.wp (c203 S3 D3 N3 (by omega)) fun v h4' k4 j4 u4 I4=>?_
   obtain⟨a,b,rfl,o1,o2,I4⟩:=I4.ex
   rw[e3]at I4
   have q4':((((hp.ov h1 u1).ov h2' u2).ov h3' u3).ov h4' u4).get p4=some (.row [.int .i64 0,.nils] true s4):=by simp(disch:=first|exact okD|fail) only[go_sem,seval,q4]
   repeat' (with_reducible first|simp(disch:=first|exact okD|fail) only[go_sem,seval,h4,q4,o1,o2]|(apply Spl.i<;>intro hc))
   refine⟨⟨a,b,rfl,I4.put q4'⟩,?_⟩
   exact okG
  ·have hle':¬(0:Int)≤cmpN (vl 18446744073709551616 l1) (vl 18446744073709551616 l2):=fun e=>hle (cmp_ge.1 e)
   repeat' (with_reducible first|simp(disch:=first|exact okD|fail) only[go_sem,seval,h2,h3,h4,hc,c205 S1' S2 D1 D2 N1 N2 (by omega) (by omega),hle']|(apply Spl.i<;>intro hc))
   refine Gp.wp (c206 S2 S1' D2 D1 ?_ (by omega) (by omega)) fun v h3' k3 j3 u3 ⟨l,S3,D3,N3,V3⟩=>?_
   ·rcases Nat.lt_or_ge l2.length l1.length with c|c
    ·have:=longer (B:=18446744073709551616) (by decide) D2 N1 c;omega
    ·exact c
   have e3:sgn (decide (y<0)) (vl 18446744073709551616 l)=x+y:=by
    rw[Int.add_comm];exact sgn_sub (by omega) (by omega) (fun e=>hc e.symm)
   have m3:=ls.len N3 (by rw[←e3];unfold sgn;split<;>omega)
   repeat' (with_reducible first|simp(disch:=first|exact okD|fail) only[go_sem,seval,h2,h3,h4]|(apply Spl.i<;>intro hc))
   refine Gp.wp (c203 S3 D3 N3 (by omega)) fun v h4' k4 j4 u4 I4=>?_
   obtain⟨a,b,rfl,o1,o2,I4⟩:=I4.ex
   rw[e3]at I4
   have q4':((((hp.ov h1 u1).ov h2' u2).ov h3' u3).ov h4' u4).get p4=some (.row [.int .i64 0,.nils] true s4):=by simp(disch:=first|exact okD|fail) only[go_sem,seval,q4]
   repeat' (with_reducible first|simp(disch:=first|exact okD|fail) only[go_sem,seval,h4,q4,o1,o2]|(apply Spl.i<;>intro hc))
   refine⟨⟨a,b,rfl,I4.put q4'⟩,?_⟩
   exact okG
theorem add_wrap {a b:Int} (ha: -9223372036854775808≤a∧a≤9223372036854775807) (hb: -9223372036854775808≤b∧b≤9223372036854775807) (hn:¬(-9223372036854775808≤a+b∧a+b≤9223372036854775807)):
  ¬(decide (a<IntKind.wrap .i64 (a+b))=decide (0<b)):=by
 rw[decide_eq_decide]
 rcases Int.lt_or_le (a+b) (-9223372036854775808)with c|c
 ·have e:IntKind.wrap .i64 (a+b)=a+b+18446744073709551616:=by
   rw[IntKind.wrap_i64];omega
  rw[e];omega
 ·have e:IntKind.wrap .i64 (a+b)=a+b-18446744073709551616:=by
   rw[IntKind.wrap_i64];omega
  rw[e];omega
theorem i121 (ix:IsI h s w x) (iy:IsI h s' w' y) (lx:Lim 4000 x) (ly:Lim 4000 y):Gp E2 121 [.agg [s,w],.agg [s',w']] h fun v h'=>IsV h' v (x+y):=by
 refine Gp.of (CallWp.fn (fn:=C.a121) rfl rfl rfl ?_)
 refine Wp.cut 2 rfl ?_
 obtain⟨o1,o2⟩:=ix.one
 obtain⟨o3,o4⟩:=iy.one
 have tail:=fun(hp:Hp) (tm:T AV) (p2 p3 p4:Nat) h2 h3 h4 g2 g3 g4 (hG:Grs h hp) hn ix iy=>add_slow (h:=h) (hp:=hp) (tm:=tm) (p2:=p2) (p3:=p3) (p4:=p4) (s:=s) (w:=w) (s':=s') (w':=w') h2 h3 h4 g2 g3 g4 hG hn ix iy lx ly
 generalize ACode.post 2 C.a121.code=r at tail⊢
 unfold C.a121
 dsimp only[ACode.pre]
 have A2:AtS (((h.push fun st=> .row [s,w] true st).push fun st=> .row [s',w'] true st).push fun st=> .row [.int .i64 0,.nils] true st) h.next [s,w]:=(AtS.push.grs (Grs.refl _).push.push)
 have A3:AtS (((h.push fun st=> .row [s,w] true st).push fun st=> .row [s',w'] true st).push fun st=> .row [.int .i64 0,.nils] true st) (h.next+1) [s',w']:=(AtS.push.grs (Grs.refl _).push)
 have A4:AtS (((h.push fun st=> .row [s,w] true st).push fun st=> .row [s',w'] true st).push fun st=> .row [.int .i64 0,.nils] true st) (h.next+1+1) [.int .i64 0,.nils]:=AtS.push
 have G:Grs h (((h.push fun st=> .row [s,w] true st).push fun st=> .row [s',w'] true st).push fun st=> .row [.int .i64 0,.nils] true st):=(Grs.refl h).push.push.push
 rcases ix.cases with⟨rfl,rfl,hx⟩|⟨n,t,o,rfl,_⟩
 ·rcases iy.cases with⟨rfl,rfl,hy⟩|⟨n,t,o,rfl,_⟩
  ·by_cases hn: -9223372036854775808≤x+y∧x+y≤9223372036854775807
   ·have e:(decide (x<x+y)=decide (0<y))=True:=by rw[eq_iff_iff,iff_true,decide_eq_decide];omega
    have ew:IntKind.wrap .i64 (x+y)=x+y:=wrap_i64 hn
    repeat' (with_reducible first|simp(disch:=first|exact okD|fail) only[go_sem,seval,e,ew]|(apply Spl.i<;>intro hc))
    refine⟨⟨_,_,rfl,IsI.small hn⟩,?_⟩
    exact okG
   ·have e:=add_wrap hx hy hn
    repeat' (with_reducible first|simp(disch:=first|exact okD|fail) only[go_sem,seval,e]|(apply Spl.i<;>intro hc))
    exact tail _ _ _ _ _ (by simp(disch:=first|exact okD|fail) only[go_sem,seval]) (by simp(disch:=first|exact okD|fail) only[go_sem,seval]) (by simp(disch:=first|exact okD|fail) only[go_sem,seval]) A2 A3 A4 G (by omega) (ix.grs G) (iy.grs G)
  ·repeat' (with_reducible first|simp(disch:=first|exact okD|fail) only[go_sem,seval,o3]|(apply Spl.i<;>intro hc))
   exact tail _ _ _ _ _ (by simp(disch:=first|exact okD|fail) only[go_sem,seval]) (by simp(disch:=first|exact okD|fail) only[go_sem,seval]) (by simp(disch:=first|exact okD|fail) only[go_sem,seval]) A2 A3 A4 G (by omega) (ix.grs G) (iy.grs G)
 ·repeat' (with_reducible first|simp(disch:=first|exact okD|fail) only[go_sem,seval,o1,o3,o4]|(apply Spl.i<;>intro hc))
  exact tail _ _ _ _ _ (by simp(disch:=first|exact okD|fail) only[go_sem,seval]) (by simp(disch:=first|exact okD|fail) only[go_sem,seval]) (by simp(disch:=first|exact okD|fail) only[go_sem,seval]) A2 A3 A4 G (by omega) (ix.grs G) (iy.grs G)
theorem i200 (ix:IsI h s w x) (lx:Lim 9000 x):Gp E2 200 [.agg [s,w]] h fun v h'=>IsV h' v (-x):=by
 refine Gp.of (CallWp.fn (fn:=C.a200) rfl rfl rfl ?_)
 unfold C.a200
 have key:∀{n:Nat} {x:Int},n=x.natAbs→sgn (decide (¬x<0)) n= -x:=fun{n x} hn=>by
  unfold sgn
  by_cases h0:x<0
  ·simp[h0];omega
  ·simp[h0];omega
 rcases ix.cases with⟨rfl,rfl,hx⟩|⟨n,t,o,rfl,_,ho⟩
 ·by_cases hm:x= -9223372036854775808
  ·have hm':(x= -9223372036854775808)=True:=by simp[hm]
   repeat' (with_reducible first|simp(disch:=first|exact okD|fail) only[go_sem,seval,hm']|(apply Spl.i<;>intro hc))
   refine Gp.wp (c202 (ix.grs okG)) fun v h1 k1 j1 u1 ⟨w1,l1,e,S1,D1,N1,V1,L1⟩=>?_
   subst e
   have m1:=lx.len N1 V1
   have e3:sgn (decide (¬x<0)) (vl 18446744073709551616 l1)= -x:=by
    unfold sgn
    by_cases h0:x<0
    ·simp[h0];omega
    ·simp[h0];omega
   repeat' (with_reducible first|simp(disch:=first|exact okD|fail) only[go_sem,seval]|(apply Spl.i<;>intro hc))
   refine Gp.wp (c203 S1 D1 N1 (by omega)) fun v h2 k2 j2 u2 I2=>?_
   obtain⟨a,b,rfl,p1,p2,I2⟩:=I2.ex
   rw[e3]at I2
   repeat' (with_reducible first|simp(disch:=first|exact okD|fail) only[go_sem,seval,p1,p2]|(apply Spl.i<;>intro hc))
   refine⟨⟨a,b,rfl,I2.put (st:=h.clk+1+1) (own:=true) (cs:=[.nils]) ?_⟩,?_⟩
   ·simp(disch:=first|exact okD|fail) only[go_sem,seval]
   ·exact okG
  ·repeat' (with_reducible first|simp(disch:=first|exact okD|fail) only[go_sem,seval,hm]|(apply Spl.i<;>intro hc))
   refine⟨⟨_,_,rfl,IsI.small (by omega)⟩,?_⟩
   exact okG
 ·obtain⟨o1,o2⟩:=ix.one
  repeat' (with_reducible first|simp(disch:=first|exact okD|fail) only[go_sem,seval,o1]|(apply Spl.i<;>intro hc))
  refine Gp.wp (c202 (ix.grs okG)) fun v h1 k1 j1 u1 ⟨w1,l1,e,S1,D1,N1,V1,L1⟩=>?_
  subst e
  have m1:=lx.len N1 V1
  have e3:sgn (decide (¬x<0)) (vl 18446744073709551616 l1)= -x:=by
   unfold sgn
   by_cases h0:x<0
   ·simp[h0];omega
   ·simp[h0];omega
  repeat' (with_reducible first|simp(disch:=first|exact okD|fail) only[go_sem,seval]|(apply Spl.i<;>intro hc))
  refine Gp.wp (c203 S1 D1 N1 (by omega)) fun v h2 k2 j2 u2 I2=>?_
  obtain⟨a,b,rfl,p1,p2,I2⟩:=I2.ex
  rw[e3]at I2
  repeat' (with_reducible first|simp(disch:=first|exact okD|fail) only[go_sem,seval,p1,p2]|(apply Spl.i<;>intro hc))
  refine⟨⟨a,b,rfl,I2.put (st:=h.clk+1+1) (own:=true) (cs:=[.nils]) ?_⟩,?_⟩
  ·simp(disch:=first|exact okD|fail) only[go_sem,seval]
  ·exact okG
theorem i260 (ix:IsI h s w x) (iy:IsI h s' w' y) (lx:Lim 4000 x) (ly:Lim 4000 y):Gp E2 260 [.agg [s,w],.agg [s',w']] h fun v h'=>IsV h' v (x-y):=by
 refine Gp.of (CallWp.fn (fn:=C.a260) rfl rfl rfl ?_)
 unfold C.a260
 obtain⟨o1,o2⟩:=ix.one
 obtain⟨o3,o4⟩:=iy.one
 repeat' (with_reducible first|simp(disch:=first|exact okD|fail) only[go_sem,seval,o1,o2,o3,o4]|(apply Spl.i<;>intro hc))
 refine Gp.wp (i200 (iy.grs okG) (ly.mono (by decide))) fun v h1 k1 j1 u1 I1=>?_
 obtain⟨a,b,rfl,p1,p2,I1⟩:=I1.ex
 repeat' (with_reducible first|simp(disch:=first|exact okD|fail) only[go_sem,seval,p1,p2]|(apply Spl.i<;>intro hc))
 refine Gp.wp (i121 (ix.grs okG) I1 lx ly.neg) fun v h2 k2 j2 u2 I2=>?_
 obtain⟨c,d,rfl,p3,p4,I2⟩:=I2.ex
 rw[←Int.sub_eq_add_neg]at I2
 repeat' (with_reducible first|simp(disch:=first|exact okD|fail) only[go_sem,seval,p3,p4]|(apply Spl.i<;>intro hc))
 refine⟨⟨c,d,rfl,I2.put (st:=h.clk+1+1+1) (own:=true) (cs:=[.nils]) ?_⟩,?_⟩
 ·simp(disch:=first|exact okD|fail) only[go_sem,seval]
 ·exact okG
theorem i194 (ix:IsI h s w x):Gv E2 194 [.agg [s,w]] h (.int .i64 (max (-1) (min 1 x))):=by
 refine Gv.of (CallWp.fn (fn:=C.a194) rfl rfl rfl ?_)
 unfold C.a194
 rcases ix.cases with⟨rfl,rfl,hx⟩|⟨n,t,o,rfl,hb,⟨rfl,h0⟩|⟨rfl,h0⟩⟩
 ·repeat' (with_reducible first|simp(disch:=first|exact okD|fail) only[go_sem,seval]|(apply Spl.i<;>intro hc))
  exact okG
 ·repeat' (with_reducible first|simp(disch:=first|exact okD|fail) only[go_sem,seval]|(apply Spl.i<;>intro hc))
  refine⟨by congr 1;omega,?_⟩
  exact okG
 ·repeat' (with_reducible first|simp(disch:=first|exact okD|fail) only[go_sem,seval]|(apply Spl.i<;>intro hc))
  refine⟨by congr 1;omega,?_⟩
  exact okG
end
end
end Go.Ae
set_option linter.unusedVariables false
set_option linter.unusedSimpArgs false
set_option maxRecDepth 100000
namespace Go.Ae
open Bg
noncomputable section
theorem norm_shift {b:List Nat} (db:Dg 18446744073709551616 b) (nb:Norm b) (hb:b≠[]):0<b.getD (b.length-1) 0∧vl 18446744073709551616 b*2^lz (b.getD (b.length-1) 0)<18446744073709551616^b.length∧18446744073709551616^(b.length-1)*9223372036854775808≤vl 18446744073709551616 b*2^lz (b.getD (b.length-1) 0)∧18446744073709551616^(b.length-1)≤vl 18446744073709551616 b:=by
 obtain⟨m,x,rfl⟩:=snoc_of hb
 have hx0:=norm_snoc.1 nb
 have dx:x<18446744073709551616:=db x (by simp)
 have e:(m++[x]).getD ((m++[x]).length-1) 0=x:=by simp[List.getD]
 rw[e]
 obtain⟨l1,l2,l3,l4⟩:=lz_spec (by omega:0<x) dx
 have hx1:(x+1)*2^lz x≤18446744073709551616:=by
  have h3:bitLen x≤64:=bitLen_lt (k:=64) dx
  have h4:x<2^bitLen x:=bitLen_le (Nat.le_refl _)
  have:=Nat.mul_le_mul_right (2^lz x) h4
  rw[←Nat.pow_add,show bitLen x+lz x=64 by unfold lz;omega]at this
  exact this
 have hm:=vl_lt (B:=18446744073709551616) (by decide) (db.left)
 have hlen:(m++[x]).length=m.length+1:=by simp
 rw[hlen,Nat.add_sub_cancel,vl_snoc]
 generalize lz x=s at *
 refine⟨by omega,?_,?_,?_⟩
 ·have h1:(vl 18446744073709551616 m+18446744073709551616^m.length*x)<18446744073709551616^m.length*(x+1):=by rw[Nat.mul_add];omega
  have h2:=Nat.mul_lt_mul_of_pos_right h1 l4
  rw[Nat.mul_assoc]at h2
  have h3:=Nat.mul_le_mul_left (18446744073709551616^m.length) hx1
  rw[Nat.pow_succ]
  exact Nat.lt_of_lt_of_le h2 h3
 ·have h1:18446744073709551616^m.length*x≤vl 18446744073709551616 m+18446744073709551616^m.length*x:=Nat.le_add_left _ _
  have h2:=Nat.mul_le_mul_right (2^s) h1
  rw[Nat.mul_assoc]at h2
  exact Nat.le_trans (Nat.mul_le_mul_left _ l2) h2
 ·have:18446744073709551616^m.length*1≤18446744073709551616^m.length*x:=Nat.mul_le_mul_left _ (by omega)
  omega
theorem top_part {a L0:List Nat} {n s:Nat} {V:Nat} (da:Dg 18446744073709551616 a) (hL:L0.length=a.length+1) (hv:vl 18446744073709551616 L0=vl 18446744073709551616 a*2^s) (hn:1≤n) (hna:n≤a.length) (hs:s≤63) (hV:18446744073709551616^(n-1)*9223372036854775808≤V):vl 18446744073709551616 (L0.drop (a.length-n+1))<V:=by
 have h1:=vl_split (B:=18446744073709551616) (l:=L0) (a.length-n+1) (by omega)
 have h2:=vl_lt (B:=18446744073709551616) (by decide) da
 have hp2:0<2^s:=Nat.pow_pos (by decide)
 have h3:=Nat.mul_lt_mul_of_pos_right h2 hp2
 rw[←hv,h1]at h3
 have e:18446744073709551616^a.length=18446744073709551616^(a.length-n+1)*18446744073709551616^(n-1):=by rw[←Nat.pow_add];congr 1;omega
 rw[e,Nat.mul_assoc]at h3
 have h4:=Nat.lt_of_mul_lt_mul_left (Nat.lt_of_le_of_lt (Nat.le_add_left _ _) h3)
 have h5:2^s≤2^63:=Nat.pow_le_pow_right (by decide) hs
 have h6:=Nat.mul_le_mul_left (18446744073709551616^(n-1)) h5
 exact Nat.lt_of_lt_of_le h4 (Nat.le_trans h6 hV)
section
variable {h hp:Hp} {K:AV→Hp→Prop} {tm:T AV}
theorem c265 {va vb:AV} {a b:List Nat} (ha:Sq .u64 h va a) (hb:Sq .u64 h vb b) (da:Dg 18446744073709551616 a) (db:Dg 18446744073709551616 b) (na:Norm a) (nb:Norm b) (hla:a.length≤1000000) (hlb:b.length≤1000000) (hb0:b≠[]):
  Gp E2 265 [va,vb] h (DivP (vl 18446744073709551616 a/vl 18446744073709551616 b) (vl 18446744073709551616 a%vl 18446744073709551616 b)):=by
 have cmp:=fun{K:AV→Hp→Prop}=>c205 (K:=K) ha hb da db na nb (by omega) (by omega)
 have hbp:=norm_pos (B:=18446744073709551616) (by decide) nb hb0
 by_cases hlt:vl 18446744073709551616 a<vl 18446744073709551616 b
 ·refine Gp.of (CallWp.fn (fn:=C.a265) rfl rfl rfl ?_)
  unfold C.a265
  have hc:cmpN (vl 18446744073709551616 a) (vl 18446744073709551616 b)<0:=by unfold cmpN;rw[if_pos hlt];omega
  repeat' (with_reducible first|simp(disch:=first|exact okD|fail) only[go_sem,seval,cmp,hc]|(apply Spl.i<;>intro hc))
  refine⟨.nils,va,[],a,rfl,Sq.nil,ha,Dg.nil,da,by simp[Norm],na,?_,?_⟩
  ·rw[Nat.div_eq_of_lt hlt];rfl
  ·rw[Nat.mod_eq_of_lt hlt]
 ·by_cases h1:b.length=1
  ·obtain⟨x,rfl⟩:∃x,b=[x]:=by
    match b,h1 with
    |[x],_=>exact⟨x,rfl⟩
   have e:vl 18446744073709551616 [x]=x:=by simp[vl]
   rw[e]at hlt hbp⊢
   exact div_short ha hb da db.head na hbp hla (by omega)
  ·have hl2:2≤b.length:=by
    have:b.length≠0:=by simpa using hb0
    omega
   have hla2:b.length≤a.length:=by
    rcases Nat.lt_or_ge a.length b.length with c|c
    ·have:=longer (B:=18446744073709551616) (by decide) da nb c;omega
    ·exact c
   refine Gp.of (CallWp.fn (fn:=C.a265) rfl rfl rfl ?_)
   have hc:¬cmpN (vl 18446744073709551616 a) (vl 18446744073709551616 b)<0:=by unfold cmpN;rw[if_neg hlt];split<;>omega
   have lb:=hb.rd.len
   have h1':¬(b.length:Int)=1:=by omega
   have rb:=hb.rd
   have adb:=rb.adr
   have ldb:=rb.load (b.length-1) (by omega)
   have i1:((b.length:Int)-1).toNat=b.length-1:=by omega
   have hxd:=Dg.getD (B:=18446744073709551616) (by decide) db (b.length-1)
   obtain⟨n1,n2,n3,n4⟩:=norm_shift db nb hb0
   obtain⟨ls,_,_,lp⟩:=lz_spec n1 hxd
   have c3:=fun{h:Hp} {K:AV→Hp→Prop}=>c301 (h:=h) (K:=K) hxd
   generalize b.getD (b.length-1) 0=x at *
   generalize hsx:lz x=s at *
   refine Wp.cut 8 rfl ?_
   have tail:=fun(tm:T AV) (hp:Hp) (v L0:List Nat) (wv:AV) (T0 tq:Nat) h0 h9 h10 h11 h12 h13 hG ha hv dv h2 hva hv1 hvv hT hTq hA hL dL hq hvb hab htop=>div_main (h:=h) (hp:=hp) (tm:=tm) (va:=va) (wv:=wv) (a:=a) (v:=v) (L0:=L0) (T0:=T0) (tq:=tq) (s:=s) h0 h9 h10 h11 h12 h13 hG ha hv dv h2 hva hla hv1 hvv hT hTq hA hL dL hq ls hbp hvb hab htop
   generalize ACode.post 8 C.a265.code=r at tail⊢
   unfold C.a265
   dsimp only[ACode.pre]
   repeat' (with_reducible first|simp(disch:=first|exact okD|fail) only[go_sem,seval,cmp,hc,lb,h1',i1,adb,ldb,c3]|(apply Spl.i<;>intro hc))
   refine Gp.wp (c302 hb db hlb ls) fun v1 k1 a1 b1 u1 ⟨l1,t1,e1,A1,ht1,hl1,d1,hv1⟩=>?_
   subst e1
   repeat' (with_reducible first|simp(disch:=first|exact okD|fail) only[go_sem,seval]|(apply Spl.i<;>intro hc))
   refine Gp.wp (g268 (A1.sq hl1) (by omega)) fun v2 k2 a2 b2 u2 S2=>?_
   have ha2:=(ha.ov (g:=u1)).ov (g:=u2)
   repeat' (with_reducible first|simp(disch:=first|exact okD|fail) only[go_sem,seval]|(apply Spl.i<;>intro hc))
   refine Gp.wp (c302 ha2 da hla ls) fun v3 k3 a3 b3 u3 ⟨L0,T0,e3,A3,hT3,hL0,dL0,hv3⟩=>?_
   subst e3
   have S3:=S2.ov (g:=u3)
   have ha3:=ha2.ov (g:=u3)
   have hvl:vl 18446744073709551616 (trimL l1)=vl 18446744073709551616 b*2^s:=by rw[vl_trim,hv1]
   have dtr:Dg 18446744073709551616 (trimL l1):=d1.trim
   have ntr:=norm_trim l1
   have hlen:(trimL l1).length=b.length:=by
    refine Nat.le_antisymm (few_len ntr (by rw[hvl];exact n2)) ?_
    rcases Nat.lt_or_ge (trimL l1).length b.length with c|c
    ·have g1:=vl_lt (B:=18446744073709551616) (by decide) dtr
     have g2:=Nat.pow_le_pow_right (n:=18446744073709551616) (by decide) (show(trimL l1).length≤b.length-1 by omega)
     rw[hvl]at g1
     have g3:vl 18446744073709551616 b*1≤vl 18446744073709551616 b*2^s:=Nat.mul_le_mul_left _ lp
     omega
    ·exact c
   have htop:=top_part (V:=vl 18446744073709551616 (trimL l1)) da hL0 hv3 (by omega) hla2 ls (by rw[hvl];exact n3)
   generalize trimL l1=v at *
   have lv:=S3.rd.len
   have la:=ha3.rd.len
   have tv:=S2.rd.tok (by omega)
   have w1:(a.length:Int)-v.length+1=((a.length-v.length+1:Nat):Int):=by omega
   have mk:=fun{h:Hp} {K:AV→Hp→Prop}=>MksK.int (h:=h) (K:=K) (b:=8) (z:= .int .u64 0) (n:=a.length-v.length+1) rfl (by omega)
   repeat' (with_reducible first|simp(disch:=first|exact okD|fail) only[go_sem,seval,lv,la,w1,mk]|(apply Spl.i<;>intro hc))
   have hz:(List.replicate (a.length-v.length+1) (AV.int .u64 0))=(List.replicate (a.length-v.length+1) 0).map (wd .u64):=by rw[List.map_replicate];rfl
   rw[hz]
   have hvt:v.getD (v.length-1) 0≠0:=by
    obtain⟨m,y,rfl⟩:=snoc_of (l:=v) (by rintro rfl;simp at hlen;omega)
    have:=norm_snoc.1 ntr
    simpa[List.getD]using this
   have gG:Grs (((h.ov k1 u1).ov k2 u2).ov k3 u3) ((((h.ov k1 u1).ov k2 u2).ov k3 u3).push fun s=> .row ((List.replicate (a.length-v.length+1) 0).map (wd .u64)) true s):=Grs.push (Grs.refl _)
   have hnx3:=A3.lt
   refine tail _ _ v L0 v2 T0 _ (by simp(disch:=first|exact okD|fail) only[go_sem,seval]) (by simp(disch:=first|exact okD|fail) only[go_sem,seval]) (by simp(disch:=first|exact okD|fail) only[go_sem,seval]) (by simp(disch:=first|exact okD|fail) only[go_sem,seval]) (by simp(disch:=first|exact okD|fail) only[go_sem,seval]) (by simp(disch:=first|exact okD|fail) only[go_sem,seval]) ?_ (ha3.grs gG) (S3.grs gG) dtr (by omega) (by omega) hvt (by omega) ?_ hnx3 (A3.grs gG) hL0 dL0 AtS.push hvl hv3 (by rw[hlen];exact htop)
   ·exact okG
   ·rw[Hp.ov_next,Hp.ov_next]at hT3;omega
end
end
end Go.Ae
set_option maxRecDepth 100000
namespace Go.Ae.R
open AOp Opd C
def a19:AFn:=⟨96,[.tmp 2],(q [vi 2 0]
 (q [v 8 0,v 3 8]
 (.seq (q [v 9 3,ls 10 9,bi 11 .gtr 10 0,v 12 11,g 13 (m 3) 12 true,g 14 (.idxs (.t 13) (i 0)) 12 true,gb 15 .eql (.t 14) (.k (.int .u8 45)) 12 true,pf 16 12 15]
 (k 16 (.reg [v 17 3,o 18 (.sls (.t 17) (some (i 1)) none),v 3 18])))
 (q [v 19 3,c 20 122 [.t 19],v 4 20]
 (.seq (q [v 21 3,v 22 4,o 23 (.sls (.t 21) none (some (.t 22))),c 24 123 [.t 23],y 25 .not 24,v 26 25,g 27 (m 0) 26 false,g 28 (.idxs (.t 27) (i 0)) 26 false,gb 29 .eql (.t 28) (.k (.int .u8 45)) 26 false,g 30 (m 29) 26 false,g 31 (m 3) 30 true,g 32 (m 4) 30 true,g 33 (.sls (.t 31) none (some (.t 32))) 30 true,gb 34 .eql (.t 33) (.k (.str [48])) 30 true,g 35 (.pick (.t 30) (.t 34) (.k (.bool false))) 26 false,pt 36 26 35]
 (k 36 (q [vi 2 1]
 .ret)))
 (.seq (q [v 37 4,v 38 3,ls 39 38,bt 40 .lss 37 39,v 41 40,g 42 (m 3) 41 true,g 43 (m 4) 41 true,gb 44 .add (.t 43) (i 1) 41 true,g 45 (.sls (.t 42) (some (.t 44)) none) 41 true,gc 46 123 [.t 45] 41 true,g 47 (.un .not (.t 46)) 41 true,g 48 (m 47) 41 true,g 49 (m 3) 48 false,g 50 (m 4) 48 false,gb 51 .add (.t 50) (i 1) 48 false,g 52 (.sls (.t 49) (some (.t 51)) none) 48 false,gb 53 .eql (.t 52) (.k (.str [48])) 48 false,g 54 (.pick (.t 48) (.k (.bool true)) (.t 53)) 41 true,g 55 (m 54) 41 true,g 56 (m 3) 55 false,g 57 (m 4) 55 false,gb 58 .add (.t 57) (i 1) 55 false,g 59 (.sls (.t 56) (some (.t 58)) none) 55 false,gb 60 .eql (.t 59) (.k (.str [49])) 55 false,g 61 (.pick (.t 55) (.k (.bool true)) (.t 60)) 41 true,pf 62 41 61]
 (k 62 (q [vi 2 1]
 .ret)))
 (.seq (q [v 63 4,bi 64 .gtr 63 600,v 65 64,g 66 (m 3) 65 false,g 67 (.len .str (.t 66)) 65 false,g 68 (m 4) 65 false,gb 69 .sub (.t 67) (.t 68) 65 false,gb 70 .sub (.t 69) (i 1) 65 false,gb 71 .gtr (.t 70) (i 600) 65 false,pt 72 65 71]
 (k 72 (q [vi 2 4]
 .ret)))
 (.seq (q [v 73 4,v 74 3,ls 75 74,bt 76 .lss 73 75]
 (k 76 (q [v 78 3,c 79 124 [.t 78],v 77 79,e 80 77 0,e 81 77 1,o 5 (.alloc [.bool false,.nils]),o 6 (.alloc [.bool false,.nils]),s 2 5 80,s 2 6 81]
 (q [fa 82 1 5,l 83 false 1 82,fa 84 1 6,l 85 false 1 84,c 86 125 [.t 83,.t 85],v 7 86]
 (q [v 87 7,ln 88 87,bi 89 .neq 88 1,v 90 89,g 91 (m 7) 90 false,g 92 (.iadr 1 (.t 91) (i 0)) 90 false,gl 93 false 1 92 90 false,gb 94 .neq (.t 93) (i 1) 90 false,pt 95 90 94]
 (k 95 (q [vi 2 1]
 .ret)))))))
 (q [vi 2 0]
 .ret)))))))))⟩
def a21:AFn:=⟨13,[.tmp 2],(q [vi 2 0]
 (.seq (q [v 3 0,b 4 .eql (.t 3) (.k (.str [48]))]
 (k 4 (q [vi 2 0]
 .ret)))
 (.seq (q [v 5 0,ls 6 5,bi 7 .gtr 6 0,v 8 7,g 9 (m 0) 8 true,g 10 (.idxs (.t 9) (i 0)) 8 true,gb 11 .eql (.t 10) (.k (.int .u8 45)) 8 true,pf 12 8 11]
 (k 12 (q [vi 2 (-1)]
 .ret)))
 (q [vi 2 1]
 .ret))))⟩
def a25:AFn:=⟨19,[.tmp 2],(q [vi 2 0]
 (.seq (q [vi 3 0]
 (.block 0 (.loop (.seq (q [v 4 3,v 5 0,ln 6 5,bt 7 .lss 4 6]
 (.cond (.t 7) .skip
 (.exit 0)))
 (.seq (.block 1 (q [v 10 0,v 11 3,ix 12 1 10 11,l 13 false 1 12,bi 14 .neq 13 0]
 (k 14 (q [v 15 0,v 16 3,ix 17 1 15 16,l 18 false 1 17,v 2 18]
 .ret))))
 (.reg [v 8 3,bi 9 .add 8 1,v 3 9]))))))
 (q [vi 2 0]
 .ret)))⟩
def a56:AFn:=⟨19,[.tmp 2],(q [vi 2 0]
 (.seq (q [vi 3 0]
 (.block 0 (.loop (.seq (q [v 5 3,v 6 0,ln 7 6,bt 8 .lss 5 7]
 (.cond (.t 8) .skip
 (.exit 0)))
 (.seq (.block 1 (q [v 11 0,v 12 3,ix 13 1 11 12,l 14 false 1 13,c 15 19 [.t 14],v 4 15]
 (q [v 16 4,bi 17 .neq 16 0]
 (k 17 (q [v 18 4,v 2 18]
 .ret)))))
 (.reg [v 9 3,bi 10 .add 9 1,v 3 10]))))))
 (q [vi 2 0]
 .ret)))⟩
def a72:AFn:=⟨63,[.tmp 4],(q [o 4 (.mv (.k (.str [])))]
 (q [v 16 0,c 17 168 [.t 16],v 15 17,e 18 15 0,e 19 15 1,e 20 15 2,v 5 18,v 6 19,v 7 20]
 (q [v 22 1,c 23 168 [.t 22],v 21 23,e 24 21 0,e 25 21 1,e 26 21 2,v 8 24,v 9 25,v 10 26]
 (.seq (q [v 27 7,v 28 27,g 29 (m 10) 28 true,pf 30 28 29]
 (k 30 (q [v 31 5,v 32 9,bt 33 .mul 31 32,v 34 8,v 35 6,bt 36 .mul 34 35,bt 37 .add 33 36,v 38 6,v 39 9,bt 40 .mul 38 39,c 41 99 [.t 37,.t 40],v 4 41]
 .ret)))
 (q [v 43 0,c 44 124 [.t 43],v 42 44,e 45 42 0,e 46 42 1,o 11 (.alloc [.bool false,.nils]),o 12 (.alloc [.bool false,.nils]),s 2 11 45,s 2 12 46]
 (q [v 48 1,c 49 124 [.t 48],v 47 49,e 50 47 0,e 51 47 1,o 13 (.alloc [.bool false,.nils]),o 14 (.alloc [.bool false,.nils]),s 2 13 50,s 2 14 51]
 (.seq (.dreg [w 52 true 2 11 0,w 53 true 2 14 1,c 54 171 [.t 52,.t 53],w 55 true 2 13 3,w 56 true 2 12 4,c 57 171 [.t 55,.t 56],c 58 170 [.t 54,.t 57],w 59 true 2 12 7,w 60 true 2 14 8,c 61 171 [.t 59,.t 60],c 62 169 [.t 58,.t 61],v 4 62])
 .ret)))))))⟩
def a73:AFn:=⟨9,[.tmp 4],(q [o 4 (.mv (.k (.str [])))]
 (q [v 5 0,v 6 1,c 7 172 [.t 6],c 8 72 [.t 5,.t 7],v 4 8]
 .ret))⟩
def a74:AFn:=⟨55,[.tmp 4],(q [o 4 (.mv (.k (.str [])))]
 (q [v 16 0,c 17 168 [.t 16],v 15 17,e 18 15 0,e 19 15 1,e 20 15 2,v 5 18,v 6 19,v 7 20]
 (q [v 22 1,c 23 168 [.t 22],v 21 23,e 24 21 0,e 25 21 1,e 26 21 2,v 8 24,v 9 25,v 10 26]
 (.seq (q [v 27 7,v 28 27,g 29 (m 10) 28 true,pf 30 28 29]
 (k 30 (q [v 31 5,v 32 8,bt 33 .mul 31 32,v 34 6,v 35 9,bt 36 .mul 34 35,c 37 99 [.t 33,.t 36],v 4 37]
 .ret)))
 (q [v 39 0,c 40 124 [.t 39],v 38 40,e 41 38 0,e 42 38 1,o 11 (.alloc [.bool false,.nils]),o 12 (.alloc [.bool false,.nils]),s 2 11 41,s 2 12 42]
 (q [v 44 1,c 45 124 [.t 44],v 43 45,e 46 43 0,e 47 43 1,o 13 (.alloc [.bool false,.nils]),o 14 (.alloc [.bool false,.nils]),s 2 13 46,s 2 14 47]
 (.seq (.dreg [w 48 true 2 11 0,w 49 true 2 13 1,c 50 171 [.t 48,.t 49],w 51 true 2 12 3,w 52 true 2 14 4,c 53 171 [.t 51,.t 52],c 54 169 [.t 50,.t 53],v 4 54])
 .ret)))))))⟩
def a75:AFn:=⟨9,[.tmp 4],(q [vi 4 0]
 (q [v 5 0,v 6 1,c 7 73 [.t 5,.t 6],c 8 21 [.t 7],v 4 8]
 .ret))⟩
def a76:AFn:=⟨9,[.tmp 4],(q [o 4 (.mv (.k (.str [])))]
 (q [v 5 0,v 6 1,c 7 173 [.t 6],c 8 74 [.t 5,.t 7],v 4 8]
 .ret))⟩
def a81:AFn:=⟨29,[.tmp 8],(q [o 8 (.mv (.k (.bool false)))]
 (.seq (q [v 9 2,bi 10 .eql 9 0]
 (k 10 (.reg [v 11 3,c 12 176 [.t 11],v 2 12])))
 (.seq (q [v 13 2,bi 14 .neq 13 0]
 (k 14 (q [v 15 0,b 16 .eql (.t 15) (.k (.str [])),v 17 16,g 18 (m 1) 17 true,g 19 (m 2) 17 true,gb 20 .eql (.t 18) (.t 19) 17 true,pf 21 17 20,v 8 21]
 .ret)))
 (q [v 22 1,bi 23 .eql 22 0,v 24 23,g 25 (m 0) 24 true,g 26 (m 3) 24 true,gb 27 .eql (.t 25) (.t 26) 24 true,pf 28 24 27,v 8 28]
 .ret))))⟩
def a99:AFn:=⟨61,[.tmp 4],(q [o 4 (.mv (.k (.str [])))]
 (.seq (q [v 7 0,bi 8 .lss 7 (-4000000000000000000),v 9 8,g 10 (m 0) 9 false,gb 11 .gtr (.t 10) (i 4000000000000000000) 9 false,pt 12 9 11,v 13 12,g 14 (m 1) 13 false,gb 15 .lss (.t 14) (i (-4000000000000000000)) 13 false,pt 16 13 15,v 17 16,g 18 (m 1) 17 false,gb 19 .gtr (.t 18) (i 4000000000000000000) 17 false,pt 20 17 19]
 (k 20 (q [v 21 0,c 22 182 [.t 21],v 23 1,c 24 182 [.t 23],c 25 169 [.t 22,.t 24],v 4 25]
 .ret)))
 (.seq (q [v 26 1,bi 27 .lss 26 0]
 (k 27 (.reg [v 28 0,b 29 .sub (i 0) (.t 28),v 30 1,b 31 .sub (i 0) (.t 30),v 0 29,v 1 31])))
 (q [v 32 0,v 33 0,b 34 .sub (i 0) (.t 33),o 35 (.mx [.t 32,.t 34]),v 36 1,c 37 185 [.t 35,.t 36],v 5 37]
 (.seq (.dreg [v 38 0,v 39 5,bt 40 .quo 38 39,v 41 1,v 42 5,bt 43 .quo 41 42,v 0 40,v 1 43])
 (q [o 6 (.mv (.k (.str [])))]
 (.seq (q [v 44 0,bi 45 .lss 44 0]
 (k 45 (.reg [o 6 (.mv (.k (.str [45])))])))
 (q [v 46 6,v 47 0,v 48 0,b 49 .sub (i 0) (.t 48),o 50 (.mx [.t 47,.t 49]),c 51 186 [.t 50,i 1],bt 52 .add 46 51,v 6 52]
 (.seq (q [v 53 1,bi 54 .gtr 53 1]
 (k 54 (.reg [v 55 6,b 56 .add (.t 55) (.k (.str [47])),v 57 1,c 58 186 [.t 57,i 1],bt 59 .add 56 58,v 6 59])))
 (q [v 60 6,v 4 60]
 .ret))))))))))⟩
def a122:AFn:=⟨17,[.tmp 2],(q [vi 2 0]
 (.seq (q [vi 3 0]
 (.block 0 (.loop (.seq (q [v 4 3,v 5 0,ls 6 5,bt 7 .lss 4 6]
 (.cond (.t 7) .skip
 (.exit 0)))
 (.seq (.block 1 (q [v 10 0,v 11 3,o 12 (.idxs (.t 10) (.t 11)),b 13 .eql (.t 12) (.k (.int .u8 47))]
 (k 13 (q [v 14 3,v 2 14]
 .ret))))
 (.reg [v 8 3,bi 9 .add 8 1,v 3 9]))))))
 (q [v 15 0,ls 16 15,v 2 16]
 .ret)))⟩
def a123:AFn:=⟨18,[.tmp 2],(q [o 2 (.mv (.k (.bool false)))]
 (.seq (q [v 3 0,ls 4 3,bi 5 .eql 4 0,v 6 5,g 7 (m 0) 6 false,g 8 (.len .str (.t 7)) 6 false,gb 9 .gtr (.t 8) (i 1) 6 false,g 10 (m 9) 6 false,g 11 (m 0) 10 true,g 12 (.idxs (.t 11) (i 0)) 10 true,gb 13 .eql (.t 12) (.k (.int .u8 48)) 10 true,g 14 (.pick (.t 10) (.t 13) (.k (.bool false))) 6 false,pt 15 6 14]
 (k 15 (q [o 2 (.mv (.k (.bool false)))]
 .ret)))
 (q [v 16 0,c 17 151 [.t 16],v 2 17]
 .ret)))⟩
def a124:AFn:=⟨25,[.cell 2 true 2,.cell 3 true 2],(q [o 2 (.alloc [.bool false,.nils]),o 3 (.alloc [.bool false,.nils])]
 (q [v 6 0,v 4 6]
 (q [v 7 4,c 8 122 [.t 7],v 5 8]
 (.seq (q [v 9 5,v 10 4,ls 11 10,bt 12 .eql 9 11]
 (k 12 (q [v 13 4,c 14 207 [.t 13],c 15 182 [i 1],s 2 2 14,s 2 3 15]
 .ret)))
 (.seq (.dreg [v 16 4,v 17 5,o 18 (.sls (.t 16) none (some (.t 17))),c 19 207 [.t 18],v 20 4,v 21 5,bi 22 .add 21 1,o 23 (.sls (.t 20) (some (.t 22)) none),c 24 207 [.t 23],s 2 2 19,s 2 3 24])
 .ret)))))⟩
def a125:AFn:=⟨19,[.tmp 4],(q [o 4 (.mv (.k (.nils)))]
 (.seq (.block 0 (.loop (.seq (q [v 7 1,ln 8 7,bi 9 .gtr 8 0]
 (.cond (.t 9) .skip
 (.exit 0)))
 (.block 1 (q [v 11 0,v 12 1,c 13 208 [.t 11,.t 12],v 10 13,e 14 10 0,e 15 10 1,v 5 14,v 6 15]
 (.reg [v 16 1,v 17 6,v 0 16,v 1 17]))))))
 (q [v 18 0,v 4 18]
 .ret)))⟩
def a128:AFn:=⟨7,[.tmp 2],(q [o 2 (.mv (.k (.str [])))]
 (q [v 3 0,v 4 0,c 5 122 [.t 4],o 6 (.sls (.t 3) none (some (.t 5))),v 2 6]
 .ret))⟩
def a129:AFn:=⟨14,[.tmp 2],(q [o 2 (.mv (.k (.str [])))]
 (q [v 4 0,c 5 122 [.t 4],v 3 5]
 (.seq (q [v 6 3,v 7 0,ls 8 7,bt 9 .eql 6 8]
 (k 9 (q [o 2 (.mv (.k (.str [49])))]
 .ret)))
 (q [v 10 0,v 11 3,bi 12 .add 11 1,o 13 (.sls (.t 10) (some (.t 12)) none),v 2 13]
 .ret))))⟩
def a168:AFn:=⟨54,[.tmp 2,.tmp 3,.tmp 4],(q [vi 2 0,vi 3 0,o 4 (.mv (.k (.bool false)))]
 (q [v 10 0,v 5 10]
 (.seq (q [v 11 5,ls 12 11,bi 13 .gtr 12 20]
 (k 13 (q [vi 2 0,vi 3 0,o 4 (.mv (.k (.bool false)))]
 .ret)))
 (q [v 14 5,ls 15 14,bi 16 .gtr 15 0,v 17 16,g 18 (m 5) 17 true,g 19 (.idxs (.t 18) (i 0)) 17 true,gb 20 .eql (.t 19) (.k (.int .u8 45)) 17 true,pf 21 17 20,v 6 21]
 (.seq (q [v 22 6]
 (k 22 (.reg [v 23 5,o 24 (.sls (.t 23) (some (i 1)) none),v 5 24])))
 (q [v 25 5,c 26 122 [.t 25],v 7 26]
 (.seq (q [v 27 7,bi 28 .gtr 27 9,v 29 28,g 30 (m 5) 29 false,g 31 (.len .str (.t 30)) 29 false,g 32 (m 7) 29 false,gb 33 .sub (.t 31) (.t 32) 29 false,gb 34 .gtr (.t 33) (i 10) 29 false,pt 35 29 34]
 (k 35 (q [vi 2 0,vi 3 0,o 4 (.mv (.k (.bool false)))]
 .ret)))
 (q [v 36 5,v 37 7,o 38 (.sls (.t 36) none (some (.t 37))),c 39 153 [.t 38],v 8 39,vi 9 1]
 (.seq (q [v 40 7,v 41 5,ls 42 41,bt 43 .lss 40 42]
 (k 43 (.reg [v 44 5,v 45 7,bi 46 .add 45 1,o 47 (.sls (.t 44) (some (.t 46)) none),c 48 153 [.t 47],v 9 48])))
 (.seq (q [v 49 6]
 (k 49 (.reg [v 50 8,b 51 .sub (i 0) (.t 50),v 8 51])))
 (q [v 52 8,v 53 9,v 2 52,v 3 53,o 4 (.mv (.k (.bool true)))]
 .ret)))))))))))⟩
def a169:AFn:=⟨57,[.tmp 4],(q [o 2 (.box (.t 0)),o 3 (.box (.t 1)),o 4 (.mv (.k (.str [])))]
 (.seq (q [fa 11 0 3,l 12 false 1 11]
 (k 12 (.dreg [w 13 true 2 2 0,c 14 248 [.t 13],w 15 true 2 3 2,c 16 248 [.t 15],s 2 2 14,s 2 3 16])))
 (q [fa 17 1 2,l 18 false 1 17,fa 19 1 3,l 20 false 1 19,c 21 125 [.t 18,.t 20],v 5 21]
 (q [fa 23 1 2,l 24 false 1 23,v 25 5,c 26 208 [.t 24,.t 25],v 22 26,e 27 22 0,e 28 22 1,v 6 27,v 7 28]
 (q [fa 30 1 3,l 31 false 1 30,v 32 5,c 33 208 [.t 31,.t 32],v 29 33,e 34 29 0,e 35 29 1,v 8 34,v 9 35]
 (q [fa 36 0 2,l 37 false 1 36,v 38 6,c 39 249 [.t 37,.t 38],c 40 181 [.t 39],v 10 40]
 (.seq (q [v 41 8,ln 42 41,bi 43 .eql 42 1,v 44 43,g 45 (m 8) 44 true,g 46 (.iadr 1 (.t 45) (i 0)) 44 true,gl 47 false 1 46 44 true,gb 48 .eql (.t 47) (i 1) 44 true,pf 49 44 48]
 (k 49 (q [v 50 10,v 4 50]
 .ret)))
 (q [v 51 10,b 52 .add (.t 51) (.k (.str [47])),v 53 8,c 54 249 [(.k (.bool false)),.t 53],c 55 181 [.t 54],bt 56 .add 52 55,v 4 56]
 .ret))))))))⟩
def a170:AFn:=⟨40,[.cell 4 true 2],(q [o 2 (.box (.t 0)),o 3 (.box (.t 1)),o 4 (.alloc [.bool false,.nils])]
 (.seq (q [fa 5 0 2,l 6 false 1 5,fa 7 0 3,l 8 false 1 7,o 9 (.bin .eql .bool (.t 6) (.t 8))]
 (k 9 (.seq (.dreg [fa 10 0 2,w 11 false 1 10 6,fa 12 1 2,w 13 false 1 12 3,fa 14 1 3,w 15 false 1 14 5,c 16 250 [.t 13,.t 15],c 17 249 [.t 11,.t 16],s 2 4 17])
 .ret)))
 (.seq (q [fa 18 1 2,l 19 false 1 18,fa 20 1 3,l 21 false 1 20,c 22 251 [.t 19,.t 21],bi 23 .geq 22 0]
 (k 23 (.seq (.dreg [fa 24 0 2,w 25 false 1 24 6,fa 26 1 2,w 27 false 1 26 3,fa 28 1 3,w 29 false 1 28 5,c 30 252 [.t 27,.t 29],c 31 249 [.t 25,.t 30],s 2 4 31])
 .ret)))
 (.seq (.dreg [fa 32 0 3,w 33 false 1 32 6,fa 34 1 3,w 35 false 1 34 3,fa 36 1 2,w 37 false 1 36 5,c 38 252 [.t 35,.t 37],c 39 249 [.t 33,.t 38],s 2 4 39])
 .ret))))⟩
def a171:AFn:=⟨16,[.cell 4 true 2],(q [o 2 (.box (.t 0)),o 3 (.box (.t 1)),o 4 (.alloc [.bool false,.nils])]
 (.seq (.dreg [fa 5 0 2,w 6 false 1 5 9,fa 7 0 3,w 8 false 1 7 9,o 9 (.bin .neq .bool (.t 6) (.t 8)),fa 10 1 2,w 11 false 1 10 6,fa 12 1 3,w 13 false 1 12 8,c 14 253 [.t 11,.t 13],c 15 249 [.t 9,.t 14],s 2 4 15])
 .ret))⟩
def a172:AFn:=⟨14,[.tmp 2],(q [o 2 (.mv (.k (.str [])))]
 (.seq (q [v 3 0,c 4 21 [.t 3],bi 5 .lss 4 0]
 (k 5 (q [v 6 0,o 7 (.sls (.t 6) (some (i 1)) none),v 2 7]
 .ret)))
 (.seq (q [v 8 0,c 9 21 [.t 8],bi 10 .eql 9 0]
 (k 10 (q [v 11 0,v 2 11]
 .ret)))
 (q [v 12 0,b 13 .add (.k (.str [45])) (.t 12),v 2 13]
 .ret))))⟩
def a173:AFn:=⟨13,[.tmp 2],(q [o 2 (.mv (.k (.str [])))]
 (q [v 6 0,c 7 124 [.t 6],v 5 7,e 8 5 0,e 9 5 1,o 3 (.alloc [.bool false,.nils]),o 4 (.alloc [.bool false,.nils]),s 2 3 8,s 2 4 9]
 (q [l 10 true 2 4,l 11 true 2 3,c 12 169 [.t 10,.t 11],v 2 12]
 .ret)))⟩
def a176:AFn:=⟨14,[.tmp 2],(q [vi 2 0]
 (.seq (q [v 3 0,c 4 128 [.t 3],c 5 214 [.t 4],ls 6 5,bi 7 .gtr 6 600,v 8 7,g 9 (m 0) 8 false,gc 10 129 [.t 9] 8 false,g 11 (.len .str (.t 10)) 8 false,gb 12 .gtr (.t 11) (i 600) 8 false,pt 13 8 12]
 (k 13 (q [vi 2 4]
 .ret)))
 (q [vi 2 0]
 .ret)))⟩
def a181:AFn:=⟨39,[.tmp 2],(q [o 1 (.box (.t 0)),o 2 (.mv (.k (.str [])))]
 (.seq (q [fa 5 1 1,l 6 false 1 5,ln 7 6,bi 8 .eql 7 0]
 (k 8 (q [o 2 (.mv (.k (.str [48])))]
 .ret)))
 (q [fa 9 1 1,l 10 false 1 9,fa 11 1 1,l 12 false 1 11,ln 13 12,bi 14 .sub 13 1,ix 15 1 10 14,l 16 false 1 15,c 17 186 [.t 16,i 1],v 3 17]
 (.seq (q [fa 18 1 1,l 19 false 1 18,ln 20 19,bi 21 .sub 20 2,v 4 21]
 (.block 0 (.loop (.seq (q [v 22 4,bi 23 .geq 22 0]
 (.cond (.t 23) .skip
 (.exit 0)))
 (.seq (.block 1 (.reg [v 26 3,fa 27 1 1,l 28 false 1 27,v 29 4,ix 30 1 28 29,l 31 false 1 30,c 32 186 [.t 31,i 9],bt 33 .add 26 32,v 3 33]))
 (.reg [v 24 4,bi 25 .sub 24 1,v 4 25]))))))
 (.seq (q [fa 34 0 1,l 35 false 1 34]
 (k 35 (q [v 36 3,b 37 .add (.k (.str [45])) (.t 36),v 2 37]
 .ret)))
 (q [v 38 3,v 2 38]
 .ret))))))⟩
def a182:AFn:=⟨25,[.cell 2 true 2],(q [o 2 (.alloc [.bool false,.nils])]
 (q [o 3 (.mv (.k (.nils)))]
 (q [v 6 0,bi 7 .lss 6 0,v 4 7]
 (.seq (.block 0 (.loop (.seq (q [v 8 0,bi 9 .neq 8 0]
 (.cond (.t 9) .skip
 (.exit 0)))
 (.block 1 (q [v 10 0,bi 11 .rem 10 1000000000,v 5 11]
 (.seq (q [v 12 5,bi 13 .lss 12 0]
 (k 13 (.reg [v 14 5,b 15 .sub (i 0) (.t 14),v 5 15])))
 (q [v 16 3,v 17 5,o 18 (.bslice 1 1 [.int .i64 0] [(0,1,(.t 17))]),o 19 (.app 1 8 (.t 16) (.t 18)),v 3 19]
 (.reg [v 20 0,bi 21 .quo 20 1000000000,v 0 21]))))))))
 (q [v 22 4,v 23 3,c 24 249 [.t 22,.t 23],s 2 2 24]
 .ret)))))⟩
def a185:AFn:=⟨12,[.tmp 4],(q [vi 4 0]
 (.seq (.block 0 (.loop (.seq (q [v 5 1,bi 6 .gtr 5 0]
 (.cond (.t 6) .skip
 (.exit 0)))
 (.block 1 (.dreg [v 7 1,v 8 0,v 9 1,bt 10 .rem 8 9,v 0 7,v 1 10])))))
 (q [v 11 0,v 4 11]
 .ret)))⟩
def a207:AFn:=⟨40,[.cell 2 true 2],(q [o 2 (.alloc [.bool false,.nils])]
 (q [v 5 0,ls 6 5,bi 7 .gtr 6 0,v 8 7,g 9 (m 0) 8 true,g 10 (.idxs (.t 9) (i 0)) 8 true,gb 11 .eql (.t 10) (.k (.int .u8 45)) 8 true,pf 12 8 11,v 3 12]
 (.seq (q [v 13 3]
 (k 13 (.reg [v 14 0,o 15 (.sls (.t 14) (some (i 1)) none),v 0 15])))
 (q [o 4 (.mv (.k (.nils)))]
 (.seq (.block 0 (.loop (.seq (q [v 16 0,ls 17 16,bi 18 .gtr 17 9]
 (.cond (.t 18) .skip
 (.exit 0)))
 (.block 1 (q [v 19 4,v 20 0,v 21 0,ls 22 21,bi 23 .sub 22 9,o 24 (.sls (.t 20) (some (.t 23)) none),c 25 153 [.t 24],o 26 (.bslice 1 1 [.int .i64 0] [(0,1,(.t 25))]),o 27 (.app 1 8 (.t 19) (.t 26)),v 4 27]
 (.reg [v 28 0,v 29 0,ls 30 29,bi 31 .sub 30 9,o 32 (.sls (.t 28) none (some (.t 31))),v 0 32]))))))
 (q [v 33 3,v 34 4,v 35 0,c 36 153 [.t 35],o 37 (.bslice 1 1 [.int .i64 0] [(0,1,(.t 36))]),o 38 (.app 1 8 (.t 34) (.t 37)),c 39 249 [.t 33,.t 38],s 2 2 39]
 .ret))))))⟩
def a208:AFn:=⟨206,[.tmp 4,.tmp 5],(q [o 4 (.mv (.k (.nils))),o 5 (.mv (.k (.nils)))]
 (.seq (q [v 24 0,v 25 1,c 26 251 [.t 24,.t 25],bi 27 .lss 26 0]
 (k 27 (q [v 28 0,o 4 (.mv (.k (.nils))),v 5 28]
 .ret)))
 (.seq (q [v 29 1,ln 30 29,bi 31 .eql 30 1]
 (k 31 (q [v 33 0,v 34 1,o 35 (.iadr 1 (.t 34) (i 0)),l 36 false 1 35,c 37 270 [.t 33,.t 36],v 32 37,e 38 32 0,e 39 32 1,v 6 38,v 7 39]
 (q [v 40 6,v 41 7,o 42 (.bslice 1 1 [.int .i64 0] [(0,1,(.t 41))]),c 43 271 [.t 42],v 4 40,v 5 43]
 .ret))))
 (q [v 44 1,v 45 1,ln 46 45,bi 47 .sub 46 1,ix 48 1 44 47,l 49 false 1 48,bi 50 .add 49 1,b 51 .quo (i 1000000000) (.t 50),o 52 (.bslice 1 1 [.int .i64 0] [(0,1,(.t 51))]),v 8 52]
 (q [v 53 1,v 54 8,c 55 253 [.t 53,.t 54],v 9 55]
 (q [v 56 9,ln 57 56,v 10 57]
 (q [o 58 (.bslice 1 0 [] []),v 59 0,v 60 8,c 61 253 [.t 59,.t 60],o 62 (.app 1 8 (.t 58) (.t 61)),v 11 62]
 (.seq (.block 0 (.loop (.seq (q [v 63 11,ln 64 63,v 65 0,ln 66 65,bi 67 .add 66 1,bt 68 .lss 64 67]
 (.cond (.t 68) .skip
 (.exit 0)))
 (.block 1 (.reg [v 69 11,o 70 (.bslice 1 1 [.int .i64 0] [(0,1,(i 0))]),o 71 (.app 1 8 (.t 69) (.t 70)),v 11 71])))))
 (q [v 72 11,ln 73 72,v 74 10,bt 75 .sub 73 74,o 76 (.mks 1 8 [.int .i64 0] (.t 75) (.t 75)),v 12 76]
 (.seq (q [v 77 11,ln 78 77,v 79 10,bt 80 .sub 78 79,bi 81 .sub 80 1,v 13 81]
 (.block 2 (.loop (.seq (q [v 82 13,bi 83 .geq 82 0]
 (.cond (.t 83) .skip
 (.exit 2)))
 (.seq (.block 3 (q [v 86 11,v 87 9,v 88 13,c 89 272 [.t 86,.t 87,.t 88],v 14 89]
 (q [vi 15 0]
 (.seq (q [vi 16 0]
 (.block 4 (.loop (.seq (q [v 90 16,v 91 10,bt 92 .lss 90 91]
 (.cond (.t 92) .skip
 (.exit 4)))
 (.seq (.block 5 (q [v 95 14,v 96 9,v 97 16,ix 98 1 96 97,l 99 false 1 98,bt 100 .mul 95 99,v 101 15,bt 102 .add 100 101,v 17 102]
 (q [v 103 11,v 104 16,v 105 13,bt 106 .add 104 105,ix 107 1 103 106,l 108 false 1 107,v 109 17,bi 110 .rem 109 1000000000,bt 111 .sub 108 110,v 18 111]
 (q [v 112 17,bi 113 .quo 112 1000000000,v 15 113]
 (.seq (q [v 114 18,bi 115 .lss 114 0]
 (k 115 (q [v 116 18,bi 117 .add 116 1000000000,v 18 117]
 (.reg [v 118 15,bi 119 .add 118 1,v 15 119]))))
 (.reg [v 120 11,v 121 16,v 122 13,bt 123 .add 121 122,v 124 18,ix 125 1 120 123,s 1 125 124]))))))
 (.reg [v 93 16,bi 94 .add 93 1,v 16 94]))))))
 (q [v 126 11,v 127 13,v 128 10,bt 129 .add 127 128,v 130 11,v 131 13,v 132 10,bt 133 .add 131 132,ix 134 1 130 133,l 135 false 1 134,v 136 15,bt 137 .sub 135 136,ix 138 1 126 129,s 1 138 137]
 (.seq (q [v 139 11,v 140 13,v 141 10,bt 142 .add 140 141,ix 143 1 139 142,l 144 false 1 143,bi 145 .lss 144 0]
 (k 145 (q [v 146 14,bi 147 .sub 146 1,v 14 147]
 (q [vi 19 0]
 (.seq (q [vi 20 0]
 (.block 6 (.loop (.seq (q [v 148 20,v 149 10,bt 150 .lss 148 149]
 (.cond (.t 150) .skip
 (.exit 6)))
 (.seq (.block 7 (.seq (.dreg [v 153 11,v 154 20,v 155 13,bt 156 .add 154 155,ix 157 1 153 156,w 158 false 1 157 5,v 159 9,v 160 20,ix 161 1 159 160,w 162 false 1 161 9,bt 163 .add 158 162,v 164 19,bt 165 .add 163 164,v 21 165])
 (q [v 166 11,v 167 20,v 168 13,bt 169 .add 167 168,v 170 21,bi 171 .rem 170 1000000000,ix 172 1 166 169,s 1 172 171]
 (.reg [v 173 21,bi 174 .quo 173 1000000000,v 19 174]))))
 (.reg [v 151 20,bi 152 .add 151 1,v 20 152]))))))
 (.reg [v 175 11,v 176 13,v 177 10,bt 178 .add 176 177,v 179 11,v 180 13,v 181 10,bt 182 .add 180 181,ix 183 1 179 182,l 184 false 1 183,v 185 19,bt 186 .add 184 185,ix 187 1 175 178,s 1 187 186]))))))
 (.reg [v 188 12,v 189 13,v 190 14,ix 191 1 188 189,s 1 191 190])))))))
 (.reg [v 84 13,bi 85 .sub 84 1,v 13 85]))))))
 (.seq (.dreg [v 193 11,v 194 10,o 195 (.sl 1 (.t 193) none (some (.t 194))),c 196 271 [.t 195],v 197 8,o 198 (.iadr 1 (.t 197) (i 0)),w 199 false 1 198 6,c 200 270 [.t 196,.t 199],v 192 200,e 201 192 0,e 202 192 1,v 22 201,v 23 202])
 (q [v 203 12,c 204 271 [.t 203],v 205 22,v 4 204,v 5 205]
 .ret))))))))))))⟩
def a214:AFn:=⟨9,[.tmp 2],(q [o 2 (.mv (.k (.str [])))]
 (.seq (q [v 3 0,c 4 21 [.t 3],bi 5 .lss 4 0]
 (k 5 (q [v 6 0,o 7 (.sls (.t 6) (some (i 1)) none),v 2 7]
 .ret)))
 (q [v 8 0,v 2 8]
 .ret)))⟩
def a248:AFn:=⟨9,[.cell 2 true 2],(q [o 1 (.box (.t 0)),o 2 (.alloc [.bool false,.nils])]
 (q [fa 3 0 1,l 4 false 1 3,y 5 .not 4,fa 6 1 1,l 7 false 1 6,c 8 249 [.t 5,.t 7],s 2 2 8]
 .ret))⟩
def a249:AFn:=⟨15,[.cell 4 true 2],(q [o 4 (.alloc [.bool false,.nils])]
 (q [v 5 1,c 6 271 [.t 5],v 1 6]
 (q [v 7 0,v 8 7,g 9 (m 1) 8 true,g 10 (.len .slice (.t 9)) 8 true,gb 11 .gtr (.t 10) (i 0) 8 true,pf 12 8 11,v 13 1,o 14 (.build [.bool false,.nils] [(0,1,(.t 12)),(1,1,(.t 13))]),s 2 4 14]
 .ret)))⟩
def a250:AFn:=⟨42,[.tmp 4],(q [o 4 (.mv (.k (.nils)))]
 (q [o 5 (.mv (.k (.nils)))]
 (q [vi 6 0]
 (.seq (q [vi 7 0]
 (.block 0 (.loop (.seq (q [v 9 7,v 10 0,ln 11 10,bt 12 .lss 9 11,v 13 12,g 14 (m 7) 13 false,g 15 (m 1) 13 false,g 16 (.len .slice (.t 15)) 13 false,gb 17 .lss (.t 14) (.t 16) 13 false,pt 18 13 17,v 19 18,g 20 (m 6) 19 false,gb 21 .gtr (.t 20) (i 0) 19 false,pt 22 19 21]
 (.cond (.t 22) .skip
 (.exit 0)))
 (.seq (.block 1 (q [v 25 0,v 26 7,c 27 296 [.t 25,.t 26],v 28 1,v 29 7,c 30 296 [.t 28,.t 29],bt 31 .add 27 30,v 32 6,bt 33 .add 31 32,v 8 33]
 (q [v 34 5,v 35 8,bi 36 .rem 35 1000000000,o 37 (.bslice 1 1 [.int .i64 0] [(0,1,(.t 36))]),o 38 (.app 1 8 (.t 34) (.t 37)),v 5 38]
 (.reg [v 39 8,bi 40 .quo 39 1000000000,v 6 40]))))
 (.reg [v 23 7,bi 24 .add 23 1,v 7 24]))))))
 (q [v 41 5,v 4 41]
 .ret)))))⟩
def a251:AFn:=⟨41,[.tmp 4],(q [vi 4 0]
 (.seq (q [v 6 0,ln 7 6,v 8 1,ln 9 8,bt 10 .neq 7 9]
 (k 10 (.seq (q [v 11 0,ln 12 11,v 13 1,ln 14 13,bt 15 .lss 12 14]
 (k 15 (q [vi 4 (-1)]
 .ret)))
 (q [vi 4 1]
 .ret))))
 (.seq (q [v 16 0,ln 17 16,bi 18 .sub 17 1,v 5 18]
 (.block 0 (.loop (.seq (q [v 19 5,bi 20 .geq 19 0]
 (.cond (.t 20) .skip
 (.exit 0)))
 (.seq (.block 1 (.seq (.seq (.dreg [v 23 0,v 24 5,ix 25 1 23 24,w 26 false 1 25 3,v 27 1,v 28 5,ix 29 1 27 28,w 30 false 1 29 7,bt 31 .lss 26 30])
 (k 31 (q [vi 4 (-1)]
 .ret)))
 (.seq (.dreg [v 32 0,v 33 5,ix 34 1 32 33,w 35 false 1 34 3,v 36 1,v 37 5,ix 38 1 36 37,w 39 false 1 38 7,bt 40 .gtr 35 39])
 (k 40 (q [vi 4 1]
 .ret)))))
 (.reg [v 21 5,bi 22 .sub 21 1,v 5 22]))))))
 (q [vi 4 0]
 .ret))))⟩
def a252:AFn:=⟨35,[.tmp 4],(q [o 4 (.mv (.k (.nils)))]
 (q [o 5 (.mv (.k (.nils)))]
 (q [vi 6 0]
 (.seq (q [vi 7 0]
 (.block 0 (.loop (.seq (q [v 9 7,v 10 0,ln 11 10,bt 12 .lss 9 11]
 (.cond (.t 12) .skip
 (.exit 0)))
 (.seq (.block 1 (.seq (.dreg [v 15 0,v 16 7,ix 17 1 15 16,w 18 false 1 17 6,v 19 1,v 20 7,c 21 296 [.t 19,.t 20],bt 22 .sub 18 21,v 23 6,bt 24 .sub 22 23,v 8 24])
 (q [vi 6 0]
 (.seq (q [v 25 8,bi 26 .lss 25 0]
 (k 26 (q [v 27 8,bi 28 .add 27 1000000000,v 8 28]
 (.reg [vi 6 1]))))
 (.reg [v 29 5,v 30 8,o 31 (.bslice 1 1 [.int .i64 0] [(0,1,(.t 30))]),o 32 (.app 1 8 (.t 29) (.t 31)),v 5 32])))))
 (.reg [v 13 7,bi 14 .add 13 1,v 7 14]))))))
 (q [v 33 5,c 34 271 [.t 33],v 4 34]
 .ret)))))⟩
def a253:AFn:=⟨72,[.tmp 4],(q [o 4 (.mv (.k (.nils)))]
 (q [v 10 0,ln 11 10,v 12 1,ln 13 12,bt 14 .add 11 13,o 15 (.mks 1 8 [.int .i64 0] (.t 14) (.t 14)),v 5 15]
 (.seq (q [vi 6 0]
 (.block 0 (.loop (.seq (q [v 16 6,v 17 0,ln 18 17,bt 19 .lss 16 18]
 (.cond (.t 19) .skip
 (.exit 0)))
 (.seq (.block 1 (q [vi 7 0]
 (.seq (q [vi 8 0]
 (.block 2 (.loop (.seq (q [v 22 8,v 23 1,ln 24 23,bt 25 .lss 22 24]
 (.cond (.t 25) .skip
 (.exit 2)))
 (.seq (.block 3 (.seq (.dreg [v 28 5,v 29 6,v 30 8,bt 31 .add 29 30,ix 32 1 28 31,w 33 false 1 32 5,v 34 0,v 35 6,ix 36 1 34 35,w 37 false 1 36 9,v 38 1,v 39 8,ix 40 1 38 39,w 41 false 1 40 13,bt 42 .mul 37 41,bt 43 .add 33 42,v 44 7,bt 45 .add 43 44,v 9 45])
 (q [v 46 5,v 47 6,v 48 8,bt 49 .add 47 48,v 50 9,bi 51 .rem 50 1000000000,ix 52 1 46 49,s 1 52 51]
 (.reg [v 53 9,bi 54 .quo 53 1000000000,v 7 54]))))
 (.reg [v 26 8,bi 27 .add 26 1,v 8 27]))))))
 (.reg [v 55 5,v 56 6,v 57 1,ln 58 57,bt 59 .add 56 58,v 60 5,v 61 6,v 62 1,ln 63 62,bt 64 .add 61 63,ix 65 1 60 64,l 66 false 1 65,v 67 7,bt 68 .add 66 67,ix 69 1 55 59,s 1 69 68]))))
 (.reg [v 20 6,bi 21 .add 20 1,v 6 21]))))))
 (q [v 70 5,c 71 271 [.t 70],v 4 71]
 .ret))))⟩
def a270:AFn:=⟨39,[.tmp 4,.tmp 5],(q [o 4 (.mv (.k (.nils))),vi 5 0]
 (q [v 10 0,ln 11 10,o 12 (.mks 1 8 [.int .i64 0] (.t 11) (.t 11)),v 6 12]
 (q [vi 7 0]
 (.seq (q [v 13 0,ln 14 13,bi 15 .sub 14 1,v 8 15]
 (.block 0 (.loop (.seq (q [v 16 8,bi 17 .geq 16 0]
 (.cond (.t 17) .skip
 (.exit 0)))
 (.seq (.block 1 (q [v 20 7,bi 21 .mul 20 1000000000,v 22 0,v 23 8,ix 24 1 22 23,l 25 false 1 24,bt 26 .add 21 25,v 9 26]
 (q [v 27 6,v 28 8,v 29 9,v 30 1,bt 31 .quo 29 30,ix 32 1 27 28,s 1 32 31]
 (.reg [v 33 9,v 34 1,bt 35 .rem 33 34,v 7 35]))))
 (.reg [v 18 8,bi 19 .sub 18 1,v 8 19]))))))
 (q [v 36 6,c 37 271 [.t 36],v 38 7,v 4 37,v 5 38]
 .ret)))))⟩
def a271:AFn:=⟨21,[.tmp 2],(q [o 2 (.mv (.k (.nils)))]
 (.seq (.block 0 (.loop (.seq (q [v 3 0,ln 4 3,bi 5 .gtr 4 0,v 6 5,g 7 (m 0) 6 true,g 8 (m 0) 6 true,g 9 (.len .slice (.t 8)) 6 true,gb 10 .sub (.t 9) (i 1) 6 true,g 11 (.iadr 1 (.t 7) (.t 10)) 6 true,gl 12 false 1 11 6 true,gb 13 .eql (.t 12) (i 0) 6 true,pf 14 6 13]
 (.cond (.t 14) .skip
 (.exit 0)))
 (.block 1 (.reg [v 15 0,v 16 0,ln 17 16,bi 18 .sub 17 1,o 19 (.sl 1 (.t 15) none (some (.t 18))),v 0 19])))))
 (q [v 20 0,v 2 20]
 .ret)))⟩
def a272:AFn:=⟨77,[.tmp 6],(q [vi 6 0]
 (q [v 11 1,ln 12 11,v 7 12]
 (.seq (.dreg [v 13 0,v 14 2,v 15 7,bt 16 .add 14 15,ix 17 1 13 16,w 18 false 1 17 5,bi 19 .mul 18 1000000000,v 20 0,v 21 2,v 22 7,bt 23 .add 21 22,bi 24 .sub 23 1,ix 25 1 20 24,w 26 false 1 25 13,bt 27 .add 19 26,v 8 27])
 (.seq (.dreg [v 28 8,v 29 1,v 30 7,bi 31 .sub 30 1,ix 32 1 29 31,w 33 false 1 32 5,bt 34 .quo 28 33,v 35 8,v 36 1,v 37 7,bi 38 .sub 37 1,ix 39 1 36 38,w 40 false 1 39 12,bt 41 .rem 35 40,v 9 34,v 10 41])
 (.seq (.block 0 (.loop (.seq (.seq (.dreg [v 42 9,bi 43 .geq 42 1000000000,v 44 43,g 45 (m 9) 44 false,g 46 (m 1) 44 false,g 47 (m 7) 44 false,gb 48 .sub (.t 47) (i 2) 44 false,g 49 (.iadr 1 (.t 46) (.t 48)) 44 false,x 50 false 1 49 44 false 8,gb 51 .mul (.t 45) (.t 50) 44 false,g 52 (m 10) 44 false,gb 53 .mul (.t 52) (i 1000000000) 44 false,g 54 (m 0) 44 false,g 55 (m 2) 44 false,g 56 (m 7) 44 false,gb 57 .add (.t 55) (.t 56) 44 false,gb 58 .sub (.t 57) (i 2) 44 false,g 59 (.iadr 1 (.t 54) (.t 58)) 44 false,x 60 false 1 59 44 false 18,gb 61 .add (.t 53) (.t 60) 44 false,gb 62 .gtr (.t 51) (.t 61) 44 false,pt 63 44 62])
 (.cond (.t 63) .skip
 (.exit 0)))
 (.block 1 (q [v 64 9,bi 65 .sub 64 1,v 9 65]
 (q [v 66 10,v 67 1,v 68 7,bi 69 .sub 68 1,ix 70 1 67 69,l 71 false 1 70,bt 72 .add 66 71,v 10 72]
 (q [v 73 10,bi 74 .geq 73 1000000000]
 (k 74 (q [v 75 9,v 6 75]
 .ret)))))))))
 (q [v 76 9,v 6 76]
 .ret))))))⟩
def a296:AFn:=⟨13,[.tmp 4],(q [vi 4 0]
 (.seq (q [v 5 1,v 6 0,ln 7 6,bt 8 .lss 5 7]
 (k 8 (q [v 9 0,v 10 1,ix 11 1 9 10,l 12 false 1 11,v 4 12]
 .ret)))
 (q [vi 4 0]
 .ret)))⟩
def tab:T AFn:=(.node (.node (.node (.node (.node .nil none (.node (.node (.node (.node .nil (some a271) .nil) none .nil) none (.node .nil (some a207) .nil)) none .nil)) none .nil) none (.node (.node (.node .nil none (.node .nil (some a99) .nil)) (some a19) .nil) none (.node (.node (.node .nil (some a75) .nil) none (.node (.node .nil (some a171) .nil) none .nil)) none (.node .nil none (.node .nil (some a123) (.node .nil (some a251) .nil)))))) none (.node (.node (.node (.node (.node (.node .nil (some a129) .nil) none .nil) none .nil) none (.node (.node .nil (some a81) .nil) none .nil)) none (.node (.node (.node .nil (some a73) .nil) none (.node (.node .nil (some a169) .nil) none .nil)) (some a25) (.node .nil none (.node (.node .nil (some a185) .nil) none (.node .nil (some a249) .nil))))) none (.node (.node .nil (some a21) (.node .nil none (.node (.node .nil (some a181) .nil) none .nil))) none (.node (.node .nil none (.node (.node .nil (some a173) .nil) none .nil)) none (.node .nil none (.node .nil (some a125) (.node .nil (some a253) .nil))))))) none (.node (.node (.node (.node (.node (.node (.node .nil (some a128) .nil) none .nil) none .nil) none (.node (.node (.node (.node .nil (some a272) .nil) none .nil) none (.node .nil (some a208) .nil)) none (.node (.node .nil (some a176) .nil) none .nil))) none (.node (.node (.node .nil (some a72) .nil) none (.node (.node (.node .nil (some a296) .nil) (some a168) .nil) none .nil)) none (.node .nil (some a56) (.node .nil none (.node .nil (some a248) .nil))))) none (.node .nil none (.node (.node (.node .nil (some a76) .nil) none (.node (.node .nil (some a172) .nil) none .nil)) none (.node .nil none (.node .nil (some a124) (.node .nil (some a252) .nil)))))) none (.node (.node .nil none (.node (.node (.node .nil (some a74) .nil) none (.node (.node .nil (some a170) .nil) none .nil)) none (.node .nil none (.node .nil (some a122) (.node .nil (some a250) .nil))))) none (.node (.node .nil none (.node (.node .nil none (.node .nil (some a214) .nil)) none (.node (.node .nil (some a182) .nil) none .nil))) none (.node (.node (.node (.node (.node .nil (some a270) .nil) none .nil) none .nil) none .nil) none .nil)))))
section
open Go.Proofs
theorem b19:Chk 19 a19:=by unfold Chk;kernel_rfl
theorem b21:Chk 21 a21:=by unfold Chk;kernel_rfl
theorem b25:Chk 25 a25:=by unfold Chk;kernel_rfl
theorem b56:Chk 56 a56:=by unfold Chk;kernel_rfl
theorem b72:Chk 72 a72:=by unfold Chk;kernel_rfl
theorem b73:Chk 73 a73:=by unfold Chk;kernel_rfl
theorem b74:Chk 74 a74:=by unfold Chk;kernel_rfl
theorem b75:Chk 75 a75:=by unfold Chk;kernel_rfl
theorem b76:Chk 76 a76:=by unfold Chk;kernel_rfl
theorem b81:Chk 81 a81:=by unfold Chk;kernel_rfl
theorem b99:Chk 99 a99:=by unfold Chk;kernel_rfl
theorem b122:Chk 122 a122:=by unfold Chk;kernel_rfl
theorem b123:Chk 123 a123:=by unfold Chk;kernel_rfl
theorem b124:Chk 124 a124:=by unfold Chk;kernel_rfl
theorem b125:Chk 125 a125:=by unfold Chk;kernel_rfl
theorem b128:Chk 128 a128:=by unfold Chk;kernel_rfl
theorem b129:Chk 129 a129:=by unfold Chk;kernel_rfl
theorem b168:Chk 168 a168:=by unfold Chk;kernel_rfl
theorem b169:Chk 169 a169:=by unfold Chk;kernel_rfl
theorem b170:Chk 170 a170:=by unfold Chk;kernel_rfl
theorem b171:Chk 171 a171:=by unfold Chk;kernel_rfl
theorem b172:Chk 172 a172:=by unfold Chk;kernel_rfl
theorem b173:Chk 173 a173:=by unfold Chk;kernel_rfl
theorem b176:Chk 176 a176:=by unfold Chk;kernel_rfl
theorem b181:Chk 181 a181:=by unfold Chk;kernel_rfl
theorem b182:Chk 182 a182:=by unfold Chk;kernel_rfl
theorem b185:Chk 185 a185:=by unfold Chk;kernel_rfl
theorem b207:Chk 207 a207:=by unfold Chk;kernel_rfl
theorem b208:Chk 208 a208:=by unfold Chk;kernel_rfl
theorem b214:Chk 214 a214:=by unfold Chk;kernel_rfl
theorem b248:Chk 248 a248:=by unfold Chk;kernel_rfl
theorem b249:Chk 249 a249:=by unfold Chk;kernel_rfl
theorem b250:Chk 250 a250:=by unfold Chk;kernel_rfl
theorem b251:Chk 251 a251:=by unfold Chk;kernel_rfl
theorem b252:Chk 252 a252:=by unfold Chk;kernel_rfl
theorem b253:Chk 253 a253:=by unfold Chk;kernel_rfl
theorem b270:Chk 270 a270:=by unfold Chk;kernel_rfl
theorem b271:Chk 271 a271:=by unfold Chk;kernel_rfl
theorem b272:Chk 272 a272:=by unfold Chk;kernel_rfl
theorem b296:Chk 296 a296:=by unfold Chk;kernel_rfl
theorem all:T.Forall Chk tab (fun n=>n):=⟨C.no,⟨C.no,⟨C.no,⟨C.no,⟨C.no,trivial,⟨C.no,⟨C.no,⟨C.no,⟨C.yes b271,trivial,trivial⟩,trivial⟩,⟨C.yes b207,trivial,trivial⟩⟩,trivial⟩⟩,trivial⟩,⟨C.no,⟨C.yes b19,⟨C.no,trivial,⟨C.yes b99,trivial,trivial⟩⟩,trivial⟩,⟨C.no,⟨C.no,⟨C.yes b75,trivial,trivial⟩,⟨C.no,⟨C.yes b171,trivial,trivial⟩,trivial⟩⟩,⟨C.no,trivial,⟨C.yes b123,trivial,⟨C.yes b251,trivial,trivial⟩⟩⟩⟩⟩⟩,⟨C.no,⟨C.no,⟨C.no,⟨C.no,⟨C.no,⟨C.yes b129,trivial,trivial⟩,trivial⟩,trivial⟩,⟨C.no,⟨C.yes b81,trivial,trivial⟩,trivial⟩⟩,⟨C.yes b25,⟨C.no,⟨C.yes b73,trivial,trivial⟩,⟨C.no,⟨C.yes b169,trivial,trivial⟩,trivial⟩⟩,⟨C.no,trivial,⟨C.no,⟨C.yes b185,trivial,trivial⟩,⟨C.yes b249,trivial,trivial⟩⟩⟩⟩⟩,⟨C.no,⟨C.yes b21,trivial,⟨C.no,trivial,⟨C.no,⟨C.yes b181,trivial,trivial⟩,trivial⟩⟩⟩,⟨C.no,⟨C.no,trivial,⟨C.no,⟨C.yes b173,trivial,trivial⟩,trivial⟩⟩,⟨C.no,trivial,⟨C.yes b125,trivial,⟨C.yes b253,trivial,trivial⟩⟩⟩⟩⟩⟩⟩,⟨C.no,⟨C.no,⟨C.no,⟨C.no,⟨C.no,⟨C.no,⟨C.yes b128,trivial,trivial⟩,trivial⟩,trivial⟩,⟨C.no,⟨C.no,⟨C.no,⟨C.yes b272,trivial,trivial⟩,trivial⟩,⟨C.yes b208,trivial,trivial⟩⟩,⟨C.no,⟨C.yes b176,trivial,trivial⟩,trivial⟩⟩⟩,⟨C.no,⟨C.no,⟨C.yes b72,trivial,trivial⟩,⟨C.no,⟨C.yes b168,⟨C.yes b296,trivial,trivial⟩,trivial⟩,trivial⟩⟩,⟨C.yes b56,trivial,⟨C.no,trivial,⟨C.yes b248,trivial,trivial⟩⟩⟩⟩⟩,⟨C.no,trivial,⟨C.no,⟨C.no,⟨C.yes b76,trivial,trivial⟩,⟨C.no,⟨C.yes b172,trivial,trivial⟩,trivial⟩⟩,⟨C.no,trivial,⟨C.yes b124,trivial,⟨C.yes b252,trivial,trivial⟩⟩⟩⟩⟩⟩,⟨C.no,⟨C.no,trivial,⟨C.no,⟨C.no,⟨C.yes b74,trivial,trivial⟩,⟨C.no,⟨C.yes b170,trivial,trivial⟩,trivial⟩⟩,⟨C.no,trivial,⟨C.yes b122,trivial,⟨C.yes b250,trivial,trivial⟩⟩⟩⟩⟩,⟨C.no,⟨C.no,trivial,⟨C.no,⟨C.no,trivial,⟨C.yes b214,trivial,trivial⟩⟩,⟨C.no,⟨C.yes b182,trivial,trivial⟩,trivial⟩⟩⟩,⟨C.no,⟨C.no,⟨C.no,⟨C.no,⟨C.yes b270,trivial,trivial⟩,trivial⟩,trivial⟩,trivial⟩,trivial⟩⟩⟩⟩⟩
theorem good (n:Nat) (a:AFn) (h:tab.get n=some a):chk Tryz.prog n=some a:=T.get_forall tab (fun n=>n) all n a h
end
end Go.Ae.R
set_option linter.unusedVariables false
set_option linter.unusedSimpArgs false
set_option maxRecDepth 100000
namespace Go.Ae
open Go.Proofs
noncomputable def E3:Env:=E2.add R.tab
theorem ge3:Ge E2 E3:=Ge.add _ _
theorem gu3 {f:Nat} {args:List AV} {h:Hp} {v:AV} (hc:Gv E2 f args h v):Gv E3 f args h v:=hc.ge fun _ _ _ hk=>hk.ge ge3
section
variable {h:Hp} {K:AV→Hp→Prop}
def okP (x y z:Int):Prop:= -100000≤x∧x≤100000∧-100000≤y∧y≤100000∧-100000≤z∧z≤100000
instance {x y z:Int}:Decidable (okP x y z):=by unfold okP;infer_instance
end
end Go.Ae
set_option linter.unusedVariables false
set_option linter.unusedSimpArgs false
set_option maxRecDepth 100000
namespace Go.Ae
open N Go.Proofs
def slashV (s:List UInt8):Nat:=(s.takeWhile (fun b=>decide (b≠47))).length
theorem slash_le (s:List UInt8):slashV s≤s.length:=(List.takeWhile_sublist _).length_le
theorem slash_at {s:List UInt8} {i:Nat} (hi:i<s.length) (hn:∀j,j<i→s.getD j 0≠47) (h:s.getD i 0=47):slashV s=i:=by
 induction s generalizing i with
 |nil=>simp at hi
 | cons b r ih=>
  unfold slashV at *
  cases i with
  | zero=>
   have hb:b=47:=h
   subst hb;simp
  | succ i=>
   have hb:b≠47:=hn 0 (by omega)
   rw[List.takeWhile_cons_of_pos (by simpa using hb),List.length_cons,ih (i:=i) (by simpa using hi) (fun j hj=>hn (j+1) (by omega)) h]
theorem slash_none {s:List UInt8} (hn:∀j,j<s.length→s.getD j 0≠47):slashV s=s.length:=by
 induction s with
 |nil=>rfl
 | cons b r ih=>
  unfold slashV at *
  have hb:b≠47:=hn 0 (by simp)
  rw[List.takeWhile_cons_of_pos (by simpa using hb),List.length_cons,ih (fun j hj=>hn (j+1) (by simp;omega)),List.length_cons]
def numS (s:List UInt8):List UInt8:=s.take (slashV s)
def denS (s:List UInt8):List UInt8:=if slashV s=s.length then[49]else s.drop (slashV s+1)
def sgnS (s:List UInt8):Int:=if s=[48]then 0 else if s.head?=some 45 then -1 else 1
def absS (s:List UInt8):List UInt8:=if sgnS s<0 then s.drop 1 else s
def largeS (s:List UInt8):Bool:=decide (600<(absS (numS s)).length)||decide (600<(denS s).length)
section
variable {h:Hp} {K:AV→Hp→Prop}
theorem u8_int {b:UInt8} {n:Nat} (hn:n<256):(b.toNat:Int)=n↔b=UInt8.ofNat n:=by
 constructor
 ·intro e
  apply UInt8.toNat_inj.1
  rw[UInt8.toNat_ofNat',Nat.mod_eq_of_lt hn];omega
 ·rintro rfl
  rw[UInt8.toNat_ofNat',Nat.mod_eq_of_lt hn]
theorem c122 {s:List UInt8} (hs:s.length≤9223372036854775807):CallWp E3 122 [.str s] h K↔K (.int .i64 (slashV s)) h:=by
 refine CallWp.iff_of (CallWp.fn (fn:=R.a122) rfl rfl rfl ?_)
 unfold R.a122
 repeat' (with_reducible first|simp(disch:=first|exact okD|fail) only[go_sem,seval]|(apply Spl.i<;>intro hc))
 refine Wp.loopI (fun m st=>∃i:Nat,val st.tm (.t 0)= .str s∧val st.tm (.t 3)= .int .i64 i∧st.hp=h∧i≤s.length∧(∀j,j<i→s.getD j 0≠47)∧s.length-i=m) (n:=s.length) ?_ ?_
 ·refine⟨0,?_⟩
  simp(disch:=first|exact okD|fail) only[go_sem,seval]
  exact⟨by omega,fun j hj=>by omega,by omega⟩
 ·rintro m ⟨tm,hp⟩ ⟨i,h0,h3,rfl,hi,hn,rfl⟩
  simp only at h0 h3
  by_cases hlt:i<s.length
  ·have hlt':(i:Int)<s.length:=by omega
   have e1:((s.getD i 0).toNat:Int)=47↔s.getD i 0=47:=u8_int (n:=47) (by decide)
   by_cases hc:s.getD i 0=47
   ·have hc':=e1.2 hc
    repeat' (with_reducible first|simp(disch:=first|exact okD|fail) only[go_sem,seval,h0,h3]|(apply Spl.i<;>intro hc))
    rw[slash_at hlt hn hc]
   ·have hc':=fun e=>hc (e1.1 e)
    repeat' (with_reducible first|simp(disch:=first|exact okD|fail) only[go_sem,seval,h0,h3]|(apply Spl.i<;>intro hc))
    refine⟨s.length-(i+1),by omega,i+1,?_⟩
    simp(disch:=first|exact okD|fail) only[go_sem,seval,h0,h3]
    refine⟨rfl,by omega,fun j hj=>?_⟩
    rcases Nat.lt_or_ge j i with hj'|hj'
    ·exact hn j hj'
    ·rw[show j=i by omega];exact hc
  ·have hlt':¬(i:Int)<s.length:=by omega
   repeat' (with_reducible first|simp(disch:=first|exact okD|fail) only[go_sem,seval,h0,h3]|(apply Spl.i<;>intro hc))
   rw[slash_none (fun j hj=>hn j (by omega))]
theorem c128 {s:List UInt8} (hs:s.length≤9223372036854775807):CallWp E3 128 [.str s] h K↔K (.str (numS s)) h:=by
 refine CallWp.iff_of (CallWp.fn (fn:=R.a128) rfl rfl rfl ?_)
 unfold R.a128
 have:=slash_le s
 repeat' (with_reducible first|simp(disch:=first|exact okD|fail) only[go_sem,seval,c122]|(apply Spl.i<;>intro hc))
 rfl
theorem c129 {s:List UInt8} (hs:s.length≤9223372036854775807):CallWp E3 129 [.str s] h K↔K (.str (denS s)) h:=by
 refine CallWp.iff_of (CallWp.fn (fn:=R.a129) rfl rfl rfl ?_)
 unfold R.a129
 have:=slash_le s
 unfold denS
 by_cases hc:slashV s=s.length
 ·have hc':(slashV s:Int)=s.length:=by omega
  rw[if_pos hc]
  repeat' (with_reducible first|simp(disch:=first|exact okD|fail) only[go_sem,seval,c122]|(apply Spl.i<;>intro hc))
 ·have hc':¬(slashV s:Int)=s.length:=by omega
  have e1:((slashV s:Int)+1).toNat=slashV s+1:=by omega
  rw[if_neg hc]
  repeat' (with_reducible first|simp(disch:=first|exact okD|fail) only[go_sem,seval,c122,e1]|(apply Spl.i<;>intro hc))
theorem c21 {s:List UInt8} (hs:s.length≤9223372036854775807):CallWp E3 21 [.str s] h K↔K (.int .i64 (sgnS s)) h:=by
 refine CallWp.iff_of (CallWp.fn (fn:=R.a21) rfl rfl rfl ?_)
 unfold R.a21
 unfold sgnS
 by_cases hc:s=[48]
 ·rw[if_pos hc]
  repeat' (with_reducible first|simp(disch:=first|exact okD|fail) only[go_sem,seval]|(apply Spl.i<;>intro hc))
 ·rw [if_neg hc]
  cases s with
  | nil=>
   repeat' (with_reducible first|simp(disch:=first|exact okD|fail) only[go_sem,seval]|(apply Spl.i<;>intro hc))
   simp
  | cons b r=>
   have e1:(b.toNat:Int)=45↔b=45:=u8_int (n:=45) (by decide)
   by_cases hb:b=45
   ·have hb':=e1.2 hb
    rw[if_pos (by rw[hb];rfl)]
    repeat' (with_reducible first|simp(disch:=first|exact okD|fail) only[go_sem,seval,List.getD_cons_zero]|(apply Spl.i<;>intro hc))
   ·have hb':=fun e=>hb (e1.1 e)
    rw[if_neg (by simpa using hb)]
    repeat' (with_reducible first|simp(disch:=first|exact okD|fail) only[go_sem,seval,List.getD_cons_zero]|(apply Spl.i<;>intro hc))
theorem c214 {s:List UInt8} (hs:s.length≤9223372036854775807):CallWp E3 214 [.str s] h K↔K (.str (absS s)) h:=by
 refine CallWp.iff_of (CallWp.fn (fn:=R.a214) rfl rfl rfl ?_)
 unfold R.a214
 unfold absS
 by_cases hc:sgnS s<0
 ·have hl:1≤s.length:=by
   cases s with
   |nil=>simp[sgnS]at hc
   |cons b r=>simp
  rw[if_pos hc]
  repeat' (with_reducible first|simp(disch:=first|exact okD|fail) only[go_sem,seval,c21]|(apply Spl.i<;>intro hc))
 ·rw[if_neg hc]
  repeat' (with_reducible first|simp(disch:=first|exact okD|fail) only[go_sem,seval,c21]|(apply Spl.i<;>intro hc))
theorem num_le (s:List UInt8):(numS s).length≤s.length:=by unfold numS;rw[List.length_take];omega
theorem abs_le (s:List UInt8):(absS s).length≤s.length:=by unfold absS;split<;>simp
theorem den_le (s:List UInt8):(denS s).length≤s.length+1:=by unfold denS;split<;>simp;omega
theorem c176 {s:List UInt8} (hs:s.length≤9223372036854775806):CallWp E3 176 [.str s] h K↔K (.int .i64 (if largeS s then 4 else 0)) h:=by
 refine CallWp.iff_of (CallWp.fn (fn:=R.a176) rfl rfl rfl ?_)
 unfold R.a176
 have h1:=num_le s
 have h2:=abs_le (numS s)
 have h3:=den_le s
 unfold largeS
 by_cases ha:600<(absS (numS s)).length
 ·have ha':(600:Int)<((absS (numS s)).length:Nat):=by omega
  rw[if_pos (by simp[ha])]
  repeat' (with_reducible first|simp(disch:=first|exact okD|fail) only[go_sem,seval,c128,c214,c129]|(apply Spl.i<;>intro hc))
 ·have ha':¬(600:Int)<((absS (numS s)).length:Nat):=by omega
  by_cases hb:600<(denS s).length
  ·have hb':(600:Int)<((denS s).length:Nat):=by omega
   rw[if_pos (by simp[hb])]
   repeat' (with_reducible first|simp(disch:=first|exact okD|fail) only[go_sem,seval,c128,c214,c129]|(apply Spl.i<;>intro hc))
  ·have hb':¬(600:Int)<((denS s).length:Nat):=by omega
   rw[if_neg (by simp[ha,hb])]
   repeat' (with_reducible first|simp(disch:=first|exact okD|fail) only[go_sem,seval,c128,c214,c129]|(apply Spl.i<;>intro hc))
end
end Go.Ae
set_option linter.unusedVariables false
set_option linter.unusedSimpArgs false
namespace Go.Ae
noncomputable section
def AppN (x:Option AObj) (h:Hp):Option (AV×Hp):=
 match x with
 |some (.row (x::_) _ _)=>some (.sl h.next 0 1 1,h.push fun s=> .row [x] true s)
 |_=>none
section
variable {h:Hp} {u t n b st st':Nat} {own:Bool} {x:AV} {cs cs':List AV}
theorem AppN.row:AppN (some (.row (x::cs) own st)) h=some (.sl h.next 0 1 1,h.push fun s=> .row [x] true s):=rfl
end
end
end Go.Ae
set_option linter.unusedVariables false
set_option linter.unusedSimpArgs false
set_option maxRecDepth 100000
namespace Go.Ae
open N Go.Proofs
section
variable {h:Hp} {K:AV→Hp→Prop}
theorem u186 {n k:Nat} (hn:n≤9223372036854775807) (hk:k≤1000):CallWp E3 186 [.int .i64 n,.int .i64 k] h K↔K (.str (decP n k)) h:=up ge3 fun K=>c186 hn hk
theorem u186_1 {n:Nat} (hn:n≤9223372036854775807):CallWp E3 186 [.int .i64 n,.int .i64 1] h K↔K (.str (decP n 1)) h:=u186 (k:=1) hn (by omega)
theorem c271n:CallWp E3 271 [.nils] h K↔K .nils h:=by
 refine CallWp.iff_of (CallWp.fn (fn:=R.a271) rfl rfl rfl ?_)
 unfold R.a271
 repeat' (with_reducible first|simp(disch:=first|exact okD|fail) only[go_sem,seval,Wp.unroll]|(apply Spl.i<;>intro hc))
end
end Go.Ae
set_option linter.unusedVariables false
set_option linter.unusedSimpArgs false
set_option maxRecDepth 100000
namespace Go.Ae
open Bg
noncomputable section
abbrev D9:Nat:=1000000000
theorem OwnZ.sq {kd:IntKind} {h0 h:Hp} {v:AV} {n:Nat} {l:List Nat} (o:OwnZ 1 h0 h v n (l.map (wd kd))) (hl:l.length=n):Sq kd h v l:=by
 obtain⟨_,⟨rfl,rfl⟩|⟨t,st,rfl,hg,h1,h2,h3⟩⟩:=o
 ·have:l=[]:=List.length_eq_zero_iff.1 hl
  subst this;exact Sq.nil
 ·subst hl;exact Sq.all hg h2 h3
section
variable {h:Hp} {K:AV→Hp→Prop}
theorem d271s {t o n st:Nat} {L:List Nat} {own:Bool} (hg:h.get t=some (.row (L.map (wd .i64)) own st)) (hn:o+n≤L.length) (hn63:n≤9223372036854775807):
  CallWp E3 271 [.sl t o n 1] h K↔K (.sl t o (trimL ((L.drop o).take n)).length 1) h:=by
 refine CallWp.iff_of (CallWp.fn (fn:=R.a271) rfl rfl rfl ?_)
 unfold R.a271
 repeat' (with_reducible first|simp(disch:=first|exact okD|fail) only[go_sem,seval]|(apply Spl.i<;>intro hc))
 refine Wp.loopI (fun m s=>∃k:Nat,val s.tm (.t 0)= .sl t o k 1∧s.hp=h∧k≤n∧trimL ((L.drop o).take n)=trimL ((L.drop o).take k)∧k=m) (n:=n) ?_ ?_
 ·exact⟨n,by simp(disch:=first|exact okD|fail) only[go_sem,seval],rfl,Nat.le_refl _,rfl,rfl⟩
 ·rintro m ⟨tm,hp⟩ ⟨k,h0,rfl,hk,heq,rfl⟩
  simp only at h0
  rcases Nat.eq_zero_or_pos k with rfl|hpos
  ·have e0:((0:Nat):Int)=0:=rfl
   repeat' (with_reducible first|simp(disch:=first|exact okD|fail) only[go_sem,seval,h0,e0]|(apply Spl.i<;>intro hc))
   rw[heq];simp[trimL]
  ·have hp':(0:Int)<k:=by omega
   have e1:((k:Int)-1).toNat=k-1:=by omega
   have hx:(L.map (wd .i64))[o+(k-1)]?=some (.int .i64 (L.getD (o+(k-1)) 0:Nat)):=row_get (by omega)
   have hle:o+(k-1)+1≤L.length:=by omega
   have htk:(L.drop o).take k=(L.drop o).take (k-1)++[L.getD (o+(k-1)) 0]:=by
    have:=take_succ (i:=k-1) (l:=L.drop o) (by rw[List.length_drop];omega)
    rw[Nat.sub_add_cancel hpos]at this
    rw[this]
    congr 2
    simp[List.getD]
   by_cases hz:L.getD (o+(k-1)) 0=0
   ·have hz':((L.getD (o+(k-1)) 0:Nat):Int)=0:=by omega
    repeat' (with_reducible first|simp(disch:=first|exact okD|fail) only[go_sem,seval,h0,hp',e1,hg,hx,hle,List.length_map,Nat.mul_one,hz',slA_hi]|(apply Spl.i<;>intro hc))
    refine⟨k-1,by omega,k-1,rfl,by omega,?_,rfl⟩
    rw[heq,htk,hz,trim_snoc0]
   ·have hz':¬((L.getD (o+(k-1)) 0:Nat):Int)=0:=by omega
    repeat' (with_reducible first|simp(disch:=first|exact okD|fail) only[go_sem,seval,h0,hp',e1,hg,hx,hle,List.length_map,Nat.mul_one,hz',slA_hi]|(apply Spl.i<;>intro hc))
    rw[heq,htk,trim_snoc hz,←htk,List.length_take,List.length_drop,Nat.min_eq_left (by omega)]
theorem dg271 {v:AV} {l:List Nat} (hS:Sq .i64 h v l) (hl:l.length≤9223372036854775807):Gp E3 271 [v] h fun v' h'=>Sq .i64 h' v' (trimL l):=by
 rcases hS with⟨rfl,rfl⟩|⟨t,o,own,st,L,rfl,hg,h1,h2,h3,h4⟩
 ·exact Gp.of (c271n.2 ⟨Sq.nil,Grs.refl h⟩)
 ·refine Gp.of ((d271s hg h1 hl).2 ⟨?_,Grs.refl h⟩)
  rw[h2]
  refine .inr ⟨t,o,own,st,L,rfl,hg,?_,?_,h3,h4⟩
  ·have:=trim_len l;omega
  ·conv=>rhs;rw[trim_take l,←h2]
   rw[List.take_take,Nat.min_eq_left (by rw[h2];exact trim_len l),h2]
theorem d296 {v:AV} {l:List Nat} (hS:Sq .i64 h v l) (i:Nat):CallWp E3 296 [v,.int .i64 i] h K↔K (.int .i64 (l.getD i 0:Nat)) h:=by
 refine CallWp.iff_of (CallWp.fn (fn:=R.a296) rfl rfl rfl ?_)
 unfold R.a296
 have rd:=hS.rd
 have ln:=rd.len
 by_cases hi:i<l.length
 ·have hi':(i:Int)<l.length:=by omega
  have ad:=rd.adr
  have ld:=rd.load i hi
  repeat' (with_reducible first|simp(disch:=first|exact okD|fail) only[go_sem,seval,ln,hi',ad,ld]|(apply Spl.i<;>intro hc))
 ·have hi':¬(i:Int)<l.length:=by omega
  have h0:l.getD i 0=0:=by simp[List.getD,List.getElem?_eq_none (Nat.le_of_not_lt hi)]
  repeat' (with_reducible first|simp(disch:=first|exact okD|fail) only[go_sem,seval,ln,hi']|(apply Spl.i<;>intro hc))
  rw[h0];rfl
theorem d251 {va vb:AV} {a b:List Nat} (ha:Sq .i64 h va a) (hb:Sq .i64 h vb b) (da:Dg 1000000000 a) (db:Dg 1000000000 b) (na:Norm a) (nb:Norm b) (hla:a.length≤1000000) (hlb:b.length≤1000000):
  CallWp E3 251 [va,vb] h K↔K (.int .i64 (cmpN (vl 1000000000 a) (vl 1000000000 b))) h:=by
 refine CallWp.iff_of (CallWp.fn (fn:=R.a251) rfl rfl rfl ?_)
 unfold R.a251
 have ra:=ha.rd
 have rb:=hb.rd
 by_cases hl:a.length=b.length
 ·have hl':(a.length:Int)=b.length:=by omega
  have hl2:=ra.len
  have hl3:=rb.len
  rw[←hl]at hl3
  repeat' (with_reducible first|simp(disch:=first|exact okD|fail) only[go_sem,seval,hl2,hl3]|(apply Spl.i<;>intro hc))
  refine Wp.loopI (fun m s=>∃k:Nat,val s.tm (.t 0)=va∧val s.tm (.t 1)=vb∧val s.tm (.t 5)= .int .i64 ((k:Int)-1)∧s.hp=h∧k≤a.length∧a.drop k=b.drop k∧k=m) (n:=a.length) ?_ ?_
  ·exact⟨a.length,by simp(disch:=first|exact okD|fail) only[go_sem,seval],by simp(disch:=first|exact okD|fail) only[go_sem,seval],by simp(disch:=first|exact okD|fail) only[go_sem,seval],rfl,Nat.le_refl _,by rw[List.drop_length,hl,List.drop_length],rfl⟩
  ·rintro m ⟨tm,hp⟩ ⟨k,h0,h1,h5,rfl,hk,heq,rfl⟩
   simp only at h0 h1 h5
   rcases Nat.eq_zero_or_pos k with rfl|hpos
   ·have e0:((0:Nat):Int)-1= -1:=rfl
    repeat' (with_reducible first|simp(disch:=first|exact okD|fail) only[go_sem,seval,h0,h1,h5,e0]|(apply Spl.i<;>intro hc))
    simp only[List.drop_zero]at heq
    subst heq
    simp[cmpN]
   ·have e1:((k:Int)-1).toNat=k-1:=by omega
    have hp1:(0:Int)≤(k:Int)-1:=by omega
    have ola:=ra.old (by omega)
    have olb:=rb.old (by omega)
    have lda:=ra.load (k-1) (by omega)
    have ldb:=rb.load (k-1) (by omega)
    have ada:=ra.adr
    have adb:=rb.adr
    have sda:a.drop (k-1)=a.getD (k-1) 0::a.drop k:=by
     rw[List.drop_eq_getElem_cons (by omega),getD_eq (by omega),Nat.sub_add_cancel hpos]
    have sdb:b.drop (k-1)=b.getD (k-1) 0::b.drop k:=by
     rw[List.drop_eq_getElem_cons (by omega),getD_eq (by omega),Nat.sub_add_cancel hpos]
    have tl:(k-1+1)=k:=by omega
    generalize hxa:a.getD (k-1) 0=xa at *
    generalize hxb:b.getD (k-1) 0=xb at *
    by_cases hlt:xa<xb
    ·have hlt':(xa:Int)<xb:=by omega
     repeat' (with_reducible first|simp(disch:=first|exact okD|fail) only[go_sem,seval,h0,h1,h5,hp1,e1,ada,adb,lda,ldb,ola,olb,hlt']|(apply Spl.i<;>intro hc))
     have:=top_lt (B:=1000000000) (i:=k-1) (by decide) da hl (by omega) (by rw[tl];exact heq) (by rw[hxa,hxb];exact hlt)
     simp[cmpN,this]
    ·have hlt':¬(xa:Int)<xb:=by omega
     by_cases hgt:xb<xa
     ·have hgt':(xb:Int)<xa:=by omega
      repeat' (with_reducible first|simp(disch:=first|exact okD|fail) only[go_sem,seval,h0,h1,h5,hp1,e1,ada,adb,lda,ldb,ola,olb,hlt',hgt']|(apply Spl.i<;>intro hc))
      have:=top_lt (B:=1000000000) (i:=k-1) (by decide) db hl.symm (by omega) (by rw[tl];exact heq.symm) (by rw[hxa,hxb];exact hgt)
      simp[cmpN,this,show ¬vl 1000000000 a<vl 1000000000 b by omega]
     ·have hgt':¬(xb:Int)<xa:=by omega
      repeat' (with_reducible first|simp(disch:=first|exact okD|fail) only[go_sem,seval,h0,h1,h5,hp1,e1,ada,adb,lda,ldb,ola,olb,hlt',hgt']|(apply Spl.i<;>intro hc))
      refine⟨k-1,by omega,k-1,?_,by omega,?_,rfl⟩
      ·congr 1;omega
      ·rw[sda,sdb,heq,show xa=xb by omega]
 ·have hl':¬(a.length:Int)=b.length:=by omega
  have hl2:=ra.len
  have hl3:=rb.len
  by_cases hlt:a.length<b.length
  ·have hlt':(a.length:Int)<b.length:=by omega
   repeat' (with_reducible first|simp(disch:=first|exact okD|fail) only[go_sem,seval,hl2,hl3,hl',hlt']|(apply Spl.i<;>intro hc))
   have:=longer (B:=1000000000) (by decide) da nb hlt
   simp[cmpN,this]
  ·have hlt':¬(a.length:Int)<b.length:=by omega
   repeat' (with_reducible first|simp(disch:=first|exact okD|fail) only[go_sem,seval,hl2,hl3,hl',hlt']|(apply Spl.i<;>intro hc))
   have:=longer (B:=1000000000) (by decide) db na (by omega)
   simp[cmpN,this,show ¬vl 1000000000 a<vl 1000000000 b by omega]
theorem add9_step {P o X Y x y c s:Nat} (h:o+P*c=X+Y) (hs:s=x+y+c):o+P*(s%1000000000)+P*1000000000*(s/1000000000)=X+P*x+(Y+P*y):=by
 have e:P*(s%1000000000)+P*1000000000*(s/1000000000)=P*s:=by
  rw[Nat.mul_assoc,←Nat.mul_add];congr 1;omega
 have e2:P*s=P*x+P*y+P*c:=by rw[hs,Nat.mul_add,Nat.mul_add]
 omega
theorem d250 {va vb:AV} {a b:List Nat} (ha:Sq .i64 h va a) (hb:Sq .i64 h vb b) (da:Dg 1000000000 a) (db:Dg 1000000000 b) (hla:a.length≤1000000) (hlb:b.length≤1000000):
    Gp E3 250 [va,vb] h fun v h'=>∃l,Sq .i64 h' v l∧Dg 1000000000 l∧l.length≤1000001∧vl 1000000000 l=vl 1000000000 a+vl 1000000000 b:=by
  refine Gp.of (CallWp.fn (fn:=R.a250) rfl rfl rfl ?_)
  unfold R.a250
  repeat' (with_reducible first|simp(disch:=first|exact okD|fail) only[go_sem,seval]|(apply Spl.i<;>intro hc))
  refine Wp.loopI (fun m s=>∃(i c:Nat) (out:List Nat) (v:AV),val s.tm (.t 0)=va∧val s.tm (.t 1)=vb∧val s.tm (.t 5)=v∧val s.tm (.t 6)= .int .i64 c∧val s.tm (.t 7)= .int .i64 i∧
    Grs h s.hp∧OwnZ 1 h s.hp v i (out.map (wd .i64))∧out.length=i∧Dg 1000000000 out∧c≤1∧i≤max a.length b.length+1∧(max a.length b.length<i→c=0)∧
    vl 1000000000 out+1000000000^i*c=vl 1000000000 (a.take i)+vl 1000000000 (b.take i)∧2*(max a.length b.length-i)+c=m) (n:=2*max a.length b.length) ?_ ?_
  · exact⟨0,0,[],.nils,by simp(disch:=first|exact okD|fail) only[go_sem,seval],by simp(disch:=first|exact okD|fail) only[go_sem,seval],by simp(disch:=first|exact okD|fail) only[go_sem,seval],by(simp(disch:=first|exact okD|fail) only[go_sem,seval])<;>rfl,by(simp(disch:=first|exact okD|fail) only[go_sem,seval])<;>rfl,Grs.refl _,OwnZ.nil,rfl,Dg.nil,by omega,by omega,by omega,by simp[vl],by omega⟩
  · rintro m ⟨tm,hp⟩ ⟨i,c,out,v,h0,h1,h5,h6,h7,hG,hO,hlo,hd,hc,hile,hend,hinv,rfl⟩
    simp only at h0 h1 h5 h6 h7 hG hO
    have lna:=(ha.grs hG).rd.len
    have lnb:=(hb.grs hG).rd.len
    have dA:=fun{K:AV→Hp→Prop}=>d296 (K:=K) (ha.grs hG) i
    have dB:=fun{K:AV→Hp→Prop}=>d296 (K:=K) (hb.grs hG) i
    have tka:=vl_take_any (B:=1000000000) (l:=a) (i:=i)
    have tkb:=vl_take_any (B:=1000000000) (l:=b) (i:=i)
    have hxd:=Dg.getD (B:=1000000000) (by decide) da i
    have hyd:=Dg.getD (B:=1000000000) (by decide) db i
    have fin:∀s,s=a.getD i 0+b.getD i 0+c→vl 1000000000 (out++[s%1000000000])+1000000000^(i+1)*(s/1000000000)=vl 1000000000 (a.take (i+1))+vl 1000000000 (b.take (i+1)):=by
      intro s hs
      rw[vl_snoc,hlo,tka,tkb,Nat.pow_succ]
      exact add9_step hinv hs
    have hza:a.length≤i→a.getD i 0=0:=fun e=>by simp[List.getD,List.getElem?_eq_none e]
    have hzb:b.length≤i→b.getD i 0=0:=fun e=>by simp[List.getD,List.getElem?_eq_none e]
    generalize a.getD i 0=xi at *
    generalize b.getD i 0=yi at *
    have em:((xi:Int)+yi+c)%1000000000=((xi+yi+c)%1000000000:Nat):=by omega
    have eq:((xi:Int)+yi+c)/1000000000=((xi+yi+c)/1000000000:Nat):=by omega
    have body:(i<a.length∨i<b.length∨0<c)→∀v' h',Grs h h'→OwnZ 1 h h' v' (i+1) (out.map (wd .i64)++[.int .i64 ((xi+yi+c)%1000000000:Nat)])→
        ∃ m',m'<2*(max a.length b.length-i)+c∧∃(i' c':Nat) (out':List Nat) (v'':AV),((i:Int)+1)=i'∧((xi+yi+c)/1000000000:Nat)=c'∧v'=v''∧Grs h h'∧OwnZ 1 h h' v'' i' (out'.map (wd .i64))∧out'.length=i'∧Dg 1000000000 out'∧c'≤1∧i'≤max a.length b.length+1∧(max a.length b.length<i'→c'=0)∧
          vl 1000000000 out'+1000000000^i'*c'=vl 1000000000 (a.take i')+vl 1000000000 (b.take i')∧2*(max a.length b.length-i')+c'=m':=by
      intro hor v' h' G' O'
      have hil:i≤max a.length b.length:=by
        rcases Nat.lt_or_ge (max a.length b.length) i with e|e
        · have:=hend e;omega
        · exact e
      refine⟨_,?_,i+1,(xi+yi+c)/1000000000,out++[(xi+yi+c)%1000000000],v',by omega,rfl,rfl,G',?_,by simp[hlo],hd.append (Dg.cons (Nat.mod_lt _ (by decide)) Dg.nil),by omega,by omega,?_,fin _ rfl,rfl⟩
      · rcases Nat.lt_or_ge i (max a.length b.length)with e|e
        · omega
        · have:=hza (by omega);have:=hzb (by omega)
          omega
      · rw[List.map_append];exact O'
      · intro e
        have:=hza (by omega);have:=hzb (by omega)
        omega
    by_cases g1:i<a.length
    · have g1':(i:Int)<a.length:=by omega
      repeat' (with_reducible first|simp(disch:=first|exact okD|fail) only[go_sem,seval,h0,h1,h5,h6,h7,lna,lnb,g1',dA,dB,em,eq,w_app]|(apply Spl.i<;>intro hc))
      refine OwnZ.wp (h0:=h) (b:=8) rfl hG hO rfl (by decide) (by omega) (by omega) fun v' h' G' O'=>?_
      repeat' (with_reducible first|simp(disch:=first|exact okD|fail) only[go_sem,seval,h0,h1,h5,h6,h7,eq]|(apply Spl.i<;>intro hc))
      obtain⟨m',hm',i',c',out',v'',e1,e2,rfl,r⟩:=body (.inl g1) v' h' G' O'
      subst e2
      exact⟨m',hm',i',_,out',rfl,by rw[e1],r⟩
    · have g1':¬(i:Int)<a.length:=by omega
      by_cases g2:i<b.length
      · have g2':(i:Int)<b.length:=by omega
        repeat' (with_reducible first|simp(disch:=first|exact okD|fail) only[go_sem,seval,h0,h1,h5,h6,h7,lna,lnb,g1',g2',dA,dB,em,eq,w_app]|(apply Spl.i<;>intro hc))
        refine OwnZ.wp (h0:=h) (b:=8) rfl hG hO rfl (by decide) (by omega) (by omega) fun v' h' G' O'=>?_
        repeat' (with_reducible first|simp(disch:=first|exact okD|fail) only[go_sem,seval,h0,h1,h5,h6,h7,eq]|(apply Spl.i<;>intro hc))
        obtain⟨m',hm',i',c',out',v'',e1,e2,rfl,r⟩:=body (.inr (.inl g2)) v' h' G' O'
        subst e2
        exact⟨m',hm',i',_,out',rfl,by rw[e1],r⟩
      · have g2':¬(i:Int)<b.length:=by omega
        by_cases g3:0<c
        · have g3':(0:Int)<c:=by omega
          repeat' (with_reducible first|simp(disch:=first|exact okD|fail) only[go_sem,seval,h0,h1,h5,h6,h7,lna,lnb,g1',g2',g3',dA,dB,em,eq,w_app]|(apply Spl.i<;>intro hc))
          refine OwnZ.wp (h0:=h) (b:=8) rfl hG hO rfl (by decide) (by omega) (by omega) fun v' h' G' O'=>?_
          repeat' (with_reducible first|simp(disch:=first|exact okD|fail) only[go_sem,seval,h0,h1,h5,h6,h7,eq]|(apply Spl.i<;>intro hc))
          obtain⟨m',hm',i',c',out',v'',e1,e2,rfl,r⟩:=body (.inr (.inr g3)) v' h' G' O'
          subst e2
          exact⟨m',hm',i',_,out',rfl,by rw[e1],r⟩
        · have g3':¬(0:Int)<c:=by omega
          repeat' (with_reducible first|simp(disch:=first|exact okD|fail) only[go_sem,seval,h0,h1,h5,h6,h7,lna,lnb,g1',g2',g3']|(apply Spl.i<;>intro hc))
          refine⟨⟨out,hO.sq hlo,hd,by omega,?_⟩,hG⟩
          obtain rfl:c=0:=by omega
          rw[Nat.mul_zero,Nat.add_zero,List.take_of_length_le (by omega),List.take_of_length_le (by omega)]at hinv
          exact hinv
end
end
end Go.Ae
set_option linter.unusedVariables false
set_option linter.unusedSimpArgs false
set_option maxRecDepth 100000
namespace Go.Ae
open Bg
noncomputable section
theorem sub9_step {P o X Y x y bo bo' r:Nat} (h:o+Y=X+P*bo) (hr:r+y+bo=x+1000000000*bo'):o+P*r+(Y+P*y)=X+P*x+P*1000000000*bo':=by
 have e2:P*(r+y+bo)=P*(x+1000000000*bo'):=by rw[hr]
 rw[Nat.mul_add,Nat.mul_add,Nat.mul_add,←Nat.mul_assoc]at e2
 omega
section
variable {h:Hp} {K:AV→Hp→Prop}
theorem d252 {va vb:AV} {a b:List Nat} (ha:Sq .i64 h va a) (hb:Sq .i64 h vb b) (da:Dg 1000000000 a) (db:Dg 1000000000 b) (hla:a.length≤1000000) (hlb:b.length≤a.length) (hv:vl 1000000000 b≤vl 1000000000 a):
  Gp E3 252 [va,vb] h fun v h'=>∃l,Sq .i64 h' v l∧Dg 1000000000 l∧Norm l∧vl 1000000000 l=vl 1000000000 a-vl 1000000000 b:=by
 refine Gp.of (CallWp.fn (fn:=R.a252) rfl rfl rfl ?_)
 unfold R.a252
 repeat' (with_reducible first|simp(disch:=first|exact okD|fail) only[go_sem,seval]|(apply Spl.i<;>intro hc))
 refine Wp.loopI (fun m s=>∃(i bo:Nat) (out:List Nat) (v:AV),val s.tm (.t 0)=va∧val s.tm (.t 1)=vb∧val s.tm (.t 5)=v∧val s.tm (.t 6)= .int .i64 bo∧val s.tm (.t 7)= .int .i64 i∧
  Grs h s.hp∧OwnZ 1 h s.hp v i (out.map (wd .i64))∧out.length=i∧Dg 1000000000 out∧bo≤1∧i≤a.length∧
  vl 1000000000 out+vl 1000000000 (b.take i)=vl 1000000000 (a.take i)+1000000000^i*bo∧a.length-i=m) (n:=a.length) ?_ ?_
 ·exact⟨0,0,[],.nils,by simp(disch:=first|exact okD|fail) only[go_sem,seval],by simp(disch:=first|exact okD|fail) only[go_sem,seval],by simp(disch:=first|exact okD|fail) only[go_sem,seval],by(simp(disch:=first|exact okD|fail) only[go_sem,seval])<;>rfl,by(simp(disch:=first|exact okD|fail) only[go_sem,seval])<;>rfl,Grs.refl _,OwnZ.nil,rfl,Dg.nil,by omega,by omega,by simp[vl],rfl⟩
 ·rintro m ⟨tm,hp⟩ ⟨i,bo,out,v,h0,h1,h5,h6,h7,hG,hO,hlo,hd,hbo,hile,hinv,rfl⟩
  simp only at h0 h1 h5 h6 h7 hG hO
  have ra:=(ha.grs hG).rd
  have lna:=ra.len
  by_cases hlt:i<a.length
  ·have hlt':(i:Int)<a.length:=by omega
   have ada:=ra.adr
   have lda:=ra.load i hlt
   have ola:=ra.old (by omega)
   have dB:=fun{K:AV→Hp→Prop}=>d296 (K:=K) (hb.grs hG) i
   have tka:=vl_take_succ (B:=1000000000) hlt
   have tkb:=vl_take_any (B:=1000000000) (l:=b) (i:=i)
   have hxd:=Dg.getD (B:=1000000000) (by decide) da i
   have hyd:=Dg.getD (B:=1000000000) (by decide) db i
   have fin:∀r bo',r+b.getD i 0+bo=a.getD i 0+1000000000*bo'→vl 1000000000 (out++[r])+vl 1000000000 (b.take (i+1))=vl 1000000000 (a.take (i+1))+1000000000^(i+1)*bo':=by
    intro r bo' hr
    rw[vl_snoc,hlo,tka,tkb,Nat.pow_succ]
    exact sub9_step hinv hr
   generalize a.getD i 0=xi at *
   generalize b.getD i 0=yi at *
   by_cases hn:(xi:Int)-yi-bo<0
   ·have er:(xi:Int)-yi-bo+1000000000=((xi+1000000000-yi-bo:Nat):Int):=by omega
    repeat' (with_reducible first|simp(disch:=first|exact okD|fail) only[go_sem,seval,h0,h1,h5,h6,h7,lna,hlt',ada,lda,ola,dB,hn,er,w_app]|(apply Spl.i<;>intro hc))
    refine OwnZ.wp (h0:=h) (b:=8) rfl hG hO rfl (by decide) (by omega) (by omega) fun v' h' G' O'=>?_
    repeat' (with_reducible first|simp(disch:=first|exact okD|fail) only[go_sem,seval,h0,h1,h5,h6,h7]|(apply Spl.i<;>intro hc))
    refine⟨_,?_,i+1,1,out++[xi+1000000000-yi-bo],rfl,rfl,G',?_,by simp[hlo],hd.append (Dg.cons (by omega) Dg.nil),Nat.le_refl _,hlt,fin _ _ (by omega),rfl⟩
    ·omega
    ·rw[List.map_append];exact O'
   ·have er:(xi:Int)-yi-bo=((xi-yi-bo:Nat):Int):=by omega
    rw[er]at hn
    repeat' (with_reducible first|simp(disch:=first|exact okD|fail) only[go_sem,seval,h0,h1,h5,h6,h7,lna,hlt',ada,lda,ola,dB,er,hn,w_app]|(apply Spl.i<;>intro hc))
    refine OwnZ.wp (h0:=h) (b:=8) rfl hG hO rfl (by decide) (by omega) (by omega) fun v' h' G' O'=>?_
    repeat' (with_reducible first|simp(disch:=first|exact okD|fail) only[go_sem,seval,h0,h1,h5,h6,h7]|(apply Spl.i<;>intro hc))
    refine⟨_,?_,i+1,0,out++[xi-yi-bo],rfl,rfl,G',?_,by simp[hlo],hd.append (Dg.cons (by omega) Dg.nil),by omega,hlt,fin _ _ (by omega),rfl⟩
    ·omega
    ·rw[List.map_append];exact O'
  ·have hlt':¬(i:Int)<a.length:=by omega
   obtain rfl:i=a.length:=by omega
   repeat' (with_reducible first|simp(disch:=first|exact okD|fail) only[go_sem,seval,h0,h1,h5,h6,h7,lna,hlt']|(apply Spl.i<;>intro hc))
   refine Gp.wp (dg271 (hO.sq hlo) (by omega)) fun v' h' k j g hv'=>?_
   repeat' (with_reducible first|simp(disch:=first|exact okD|fail) only[go_sem,seval]|(apply Spl.i<;>intro hc))
   refine⟨⟨_,hv',hd.trim,norm_trim _,?_⟩,hG.ov⟩
   rw[vl_trim]
   rw[List.take_length,List.take_of_length_le hlb]at hinv
   have h1:=vl_lt (B:=1000000000) (by decide) hd
   rw[hlo]at h1
   have:bo=0:=by
    rcases Nat.eq_zero_or_pos bo with h0|h0
    ·exact h0
    ·have:bo=1:=by omega
     subst this;omega
   subst this
   omega
theorem mul9_step {P Q Bj V V' V0 Y x y o c c' r:Nat} (h:V+Q*c=V0+P*(x*Y)) (hQ:Q=P*Bj) (hr:r+1000000000*c'=o+x*y+c) (hV:V'+Q*o=V+Q*r):
  V'+Q*1000000000*c'=V0+P*(x*(Y+Bj*y)):=mul_step h hQ (by omega) hV
theorem d253 {va vb:AV} {a b:List Nat} (ha:Sq .i64 h va a) (hb:Sq .i64 h vb b) (da:Dg 1000000000 a) (db:Dg 1000000000 b) (hla:a.length≤1000000) (hlb:b.length≤1000000):
  Gp E3 253 [va,vb] h fun v h'=>∃l,Sq .i64 h' v l∧Dg 1000000000 l∧Norm l∧vl 1000000000 l=vl 1000000000 a*vl 1000000000 b:=by
 refine Gp.of (CallWp.fn (fn:=R.a253) rfl rfl rfl ?_)
 unfold R.a253
 have la:=ha.rd.len
 have lb:=hb.rd.len
 have mk:=fun{h:Hp} {K:AV→Hp→Prop}=>MksK.int' (h:=h) (K:=K) (b:=8) (z:= .int .i64 0) (m:=(a.length:Int)+b.length) (a.length+b.length) (by omega) rfl (by omega)
 repeat' (with_reducible first|simp(disch:=first|exact okD|fail) only[go_sem,seval,la,lb,mk]|(apply Spl.i<;>intro hc))
 have hz:(List.replicate (a.length+b.length) (AV.int .i64 0))=(List.replicate (a.length+b.length) 0).map (wd .i64):=by rw[List.map_replicate];rfl
 rw[hz]
 refine Wp.loopI (fun m s=>∃(i:Nat) (out:List Nat),val s.tm (.t 0)=va∧val s.tm (.t 1)=vb∧val s.tm (.t 5)= .sl h.next 0 (a.length+b.length) 1∧val s.tm (.t 6)= .int .i64 i∧
  Grs h s.hp∧AtS s.hp h.next (out.map (wd .i64))∧out.length=a.length+b.length∧Dg 1000000000 out∧i≤a.length∧
  vl 1000000000 out=vl 1000000000 (a.take i)*vl 1000000000 b∧(∀k,i+b.length≤k→out.getD k 0=0)∧a.length-i=m) (n:=a.length) ?_ ?_
 ·refine⟨0,List.replicate (a.length+b.length) 0,by simp(disch:=first|exact okD|fail) only[go_sem,seval],by simp(disch:=first|exact okD|fail) only[go_sem,seval],by simp(disch:=first|exact okD|fail) only[go_sem,seval],by(simp(disch:=first|exact okD|fail) only[go_sem,seval])<;>rfl,?_,?_,by simp,Dg.zeros (by decide) _,by omega,by simp[vl,vl_zeros],?_,rfl⟩
  ·exact okG
  ·exact AtS.push
  ·intro k _;simp only[List.getD,List.getElem?_replicate];split<;>rfl
 ·rintro m ⟨tm,hp⟩ ⟨i,out,h0,h1,h5,h6,hG,hAt,hlo,hd,hle,hinv,hzero,rfl⟩
  simp only at h0 h1 h5 h6 hG hAt
  have lna:=(ha.grs hG).rd.len
  by_cases hlt:i<a.length
  ·have hlt':(i:Int)<a.length:=by omega
   have hxd:=Dg.getD (B:=1000000000) (by decide) da i
   have tka:=vl_take_succ (B:=1000000000) hlt
   have hload:=fun(hq:Hp) (g:Grs h hq)=>(ha.grs g).rd.load i hlt
   generalize a.getD i 0=xi at *
   obtain⟨st0,hg0,hs0,hn0⟩:=id hAt
   repeat' (with_reducible first|simp(disch:=first|exact okD|fail) only[go_sem,seval,h0,h1,h5,h6,lna,hlt']|(apply Spl.i<;>intro hc))
   refine Wp.loopI (fun m s=>∃(j c:Nat) (out':List Nat),val s.tm (.t 0)=va∧val s.tm (.t 1)=vb∧val s.tm (.t 5)= .sl h.next 0 (a.length+b.length) 1∧val s.tm (.t 6)= .int .i64 i∧val s.tm (.t 7)= .int .i64 c∧val s.tm (.t 8)= .int .i64 j∧
    Grs h s.hp∧AtS s.hp h.next (out'.map (wd .i64))∧out'.length=a.length+b.length∧Dg 1000000000 out'∧j≤b.length∧c<1000000000∧
    vl 1000000000 out'+1000000000^(i+j)*c=vl 1000000000 out+1000000000^i*(xi*vl 1000000000 (b.take j))∧(∀k,i+b.length≤k→out'.getD k 0=0)∧b.length-j=m) (n:=b.length) ?_ ?_
   ·exact⟨0,0,out,by simp(disch:=first|exact okD|fail) only[go_sem,seval,h0],by simp(disch:=first|exact okD|fail) only[go_sem,seval,h1],by simp(disch:=first|exact okD|fail) only[go_sem,seval,h5],by simp(disch:=first|exact okD|fail) only[go_sem,seval,h6],by(simp(disch:=first|exact okD|fail) only[go_sem,seval])<;>rfl,by(simp(disch:=first|exact okD|fail) only[go_sem,seval])<;>rfl,hG,hAt,hlo,hd,Nat.zero_le _,by decide,by simp[vl],hzero,rfl⟩
   ·rintro m ⟨tm',hq⟩ ⟨j,c,out',k0,k1,k5,k6,k7,k8,hG',hA',hlo',hd',hle',hc,hinv',hzero',rfl⟩
    simp only at k0 k1 k5 k6 k7 k8 hG' hA'
    have lnb:=(hb.grs hG').rd.len
    have hnx:=hA'.lt
    by_cases hlj:j<b.length
    ·have hlj':(j:Int)<b.length:=by omega
     have ra:=(ha.grs hG').rd
     have rb:=(hb.grs hG').rd
     have ada:=ra.adr
     have adb:=rb.adr
     have lda:=hload hq hG'
     have ldb:=rb.load j hlj
     have ola:=ra.old (by omega)
     have olb:=rb.old (by omega)
     have hyd:=Dg.getD (B:=1000000000) (by decide) db j
     have tkb:=vl_take_succ (B:=1000000000) hlj
     generalize b.getD j 0=yj at *
     have hij:(((i:Int)+j)).toNat=i+j:=by omega
     have ld:=hA'.ldw64 (i:=i+j) (by omega)
     have sw:=hA'.stw64 (i:=i+j) (by omega)
     have od:=hA'.old
     have hod:=Dg.getD (B:=1000000000) (by decide) hd' (i+j)
     have hvs:=fun r=>vl_set (B:=1000000000) (l:=out') (i:=i+j) (x:=r) (by omega)
     generalize out'.getD (i+j) 0=oj at *
     have hpp:xi*yj≤999999999*999999999:=Nat.mul_le_mul (by omega) (by omega)
     have hij2:(0:Int)≤(i:Int)+j∧(i:Int)+j<((a.length+b.length:Nat):Int):=by omega
     have hst:∀c' r V',r+1000000000*c'=oj+xi*yj+c→V'+1000000000^(i+j)*oj=vl 1000000000 out'+1000000000^(i+j)*r→V'+1000000000^(i+j)*1000000000*c'=vl 1000000000 out+1000000000^i*(xi*(vl 1000000000 (b.take j)+1000000000^j*yj)):=fun c' r V' hr hV=>mul9_step hinv' (by rw[Nat.pow_add]) hr hV
     have m0:(xi:Int)*yj=((xi*yj:Nat):Int):=(Int.natCast_mul _ _).symm
     generalize xi*yj=pr at *
     have em:((oj:Int)+pr+c)%1000000000=((oj+pr+c)%1000000000:Nat):=by omega
     have eq:((oj:Int)+pr+c)/1000000000=((oj+pr+c)/1000000000:Nat):=by omega
     repeat' (with_reducible first|simp(disch:=first|exact okD|fail) only[go_sem,seval,k0,k1,k5,k6,k7,k8,lnb,hlj',ada,adb,lda,ldb,ola,olb,hij,ld,sw,od,m0,em,eq]|(apply Spl.i<;>intro hc))
     refine⟨_,?_,j+1,(oj+pr+c)/1000000000,out'.set (i+j) ((oj+pr+c)%1000000000),by simp,rfl,Grs.put hG' (Nat.le_refl _),AtS.put hnx,by simpa using hlo',hd'.set _ (Nat.mod_lt _ (by decide)),hlj,by omega,?_,?_,rfl⟩
     ·omega
     ·rw[←Nat.add_assoc,Nat.pow_succ,tkb]
      exact hst _ _ _ (by omega) (hvs _)
     ·intro k hk
      rw[Bg.getD_set_ne (show i+j≠k by omega)];exact hzero' k hk
    ·have hlj':¬(j:Int)<b.length:=by omega
     obtain rfl:j=b.length:=by omega
     have hij:(((i:Int)+b.length)).toNat=i+b.length:=by omega
     have ld:=hA'.ldw64 (i:=i+b.length) (by omega)
     have sw:=hA'.stw64 (i:=i+b.length) (by omega)
     rw[hzero' _ (Nat.le_refl _)]at ld
     have e0:((0:Nat):Int)+c=c:=by omega
     repeat' (with_reducible first|simp(disch:=first|exact okD|fail) only[go_sem,seval,k0,k1,k5,k6,k7,k8,lnb,hlj',hij,ld,sw,e0]|(apply Spl.i<;>intro hc))
     refine⟨_,?_,i+1,out'.set (i+b.length) c,rfl,Grs.put hG' (Nat.le_refl _),AtS.put hnx,by simpa using hlo',hd'.set _ hc,hlt,?_,?_,rfl⟩
     ·omega
     ·have e:=vl_set (B:=1000000000) (l:=out') (i:=i+b.length) (x:=c) (by omega)
      rw[hzero' _ (Nat.le_refl _),Nat.mul_zero,Nat.add_zero]at e
      rw[e,hinv',hinv,tka,List.take_length,Nat.add_mul,Nat.mul_assoc]
     ·intro k hk
      rw[Bg.getD_set_ne (show i+b.length≠k by omega)];exact hzero' k (by omega)
  ·have hlt':¬(i:Int)<a.length:=by omega
   obtain rfl:i=a.length:=by omega
   repeat' (with_reducible first|simp(disch:=first|exact okD|fail) only[go_sem,seval,h0,h1,h5,h6,lna,hlt']|(apply Spl.i<;>intro hc))
   refine Gp.wp (dg271 (hAt.sq hlo) (by omega)) fun v h' k j g hv=>?_
   repeat' (with_reducible first|simp(disch:=first|exact okD|fail) only[go_sem,seval]|(apply Spl.i<;>intro hc))
   refine⟨⟨_,hv,hd.trim,norm_trim _,?_⟩,hG.ov⟩
   rw[vl_trim,hinv,List.take_length]
def Div1P (q r:Nat) (v:AV) (h':Hp):Prop:=∃vq lq,v= .tup [vq,.int .i64 r]∧Sq .i64 h' vq lq∧Dg 1000000000 lq∧Norm lq∧vl 1000000000 lq=q
theorem d270 {va:AV} {a:List Nat} {b0:Nat} (ha:Sq .i64 h va a) (da:Dg 1000000000 a) (db:b0<1000000000) (hb0:0<b0) (hl:a.length≤1000000):
  Gp E3 270 [va,.int .i64 b0] h (Div1P (vl 1000000000 a/b0) (vl 1000000000 a%b0)):=by
 refine Gp.of (CallWp.fn (fn:=R.a270) rfl rfl rfl ?_)
 unfold R.a270
 have la:=ha.rd.len
 have mk:=fun{h:Hp} {K:AV→Hp→Prop}=>MksK.int (h:=h) (K:=K) (b:=8) (z:= .int .i64 0) (n:=a.length) rfl (by omega)
 have ilen:IntKind.wrap .i64 ((a.length:Int)-1)=(a.length:Int)-1:=wrap_i64 (by omega)
 repeat' (with_reducible first|simp(disch:=first|exact okD|fail) only[go_sem,seval,la,mk,ilen]|(apply Spl.i<;>intro hc))
 have hz:(List.replicate a.length (AV.int .i64 0))=(List.replicate a.length 0).map (wd .i64):=by rw[List.map_replicate];rfl
 rw[hz]
 refine Wp.loopI (fun m s'=>∃(k rem:Nat) (out:List Nat),val s'.tm (.t 0)=va∧val s'.tm (.t 1)= .int .i64 b0∧val s'.tm (.t 6)= .sl h.next 0 a.length 1∧val s'.tm (.t 7)= .int .i64 rem∧val s'.tm (.t 8)= .int .i64 ((k:Int)-1)∧
  Grs h s'.hp∧AtS s'.hp h.next (out.map (wd .i64))∧out.length=a.length∧Dg 1000000000 out∧rem<b0∧k≤a.length∧vl 1000000000 (a.drop k)=vl 1000000000 (out.drop k)*b0+rem∧k=m) (n:=a.length) ?_ ?_
 ·refine⟨a.length,0,List.replicate a.length 0,by simp(disch:=first|exact okD|fail) only[go_sem,seval],by simp(disch:=first|exact okD|fail) only[go_sem,seval],by simp(disch:=first|exact okD|fail) only[go_sem,seval],by(simp(disch:=first|exact okD|fail) only[go_sem,seval])<;>rfl,by simp(disch:=first|exact okD|fail) only[go_sem,seval],?_,AtS.push,by simp,Dg.zeros (by decide) _,hb0,Nat.le_refl _,?_,rfl⟩
  ·exact okG
  ·rw[List.drop_of_length_le (by simp),List.drop_of_length_le (by simp)];simp[vl]
 ·rintro m ⟨tm,hp⟩ ⟨k,rem,out,h0,h1,h6,h7,h8,hG,hA,hlo,hd,hrem,hk,hinv,rfl⟩
  simp only at h0 h1 h6 h7 h8 hG hA
  rcases Nat.eq_zero_or_pos k with rfl|hpos
  ·have e0:((0:Nat):Int)-1= -1:=rfl
   have hS:=hA.sq (n:=a.length) hlo
   simp only[List.drop_zero]at hinv
   have hq:vl 1000000000 out=vl 1000000000 a/b0:=by rw[hinv,Nat.mul_comm,Nat.mul_add_div hb0,Nat.div_eq_of_lt hrem,Nat.add_zero]
   have hr:rem=vl 1000000000 a%b0:=by rw[hinv,Nat.mul_comm,Nat.mul_add_mod,Nat.mod_eq_of_lt hrem]
   repeat' (with_reducible first|simp(disch:=first|exact okD|fail) only[go_sem,seval,h0,h1,h6,h7,h8,e0]|(apply Spl.i<;>intro hc))
   refine Gp.wp (dg271 hS (by omega)) fun v1 k1 a1 b1 u1 S1=>?_
   repeat' (with_reducible first|simp(disch:=first|exact okD|fail) only[go_sem,seval,h7]|(apply Spl.i<;>intro hc))
   refine⟨⟨v1,_,by rw[hr],S1,hd.trim,norm_trim _,by rw[vl_trim,hq]⟩,hG.ov⟩
  ·have e1:((k:Int)-1).toNat=k-1:=by omega
   have hp1:(0:Int)≤(k:Int)-1:=by omega
   have ra:=(ha.grs hG).rd
   have ada:=ra.adr
   have lda:=ra.load (k-1) (by omega)
   have ola:=ra.old (by omega)
   have sw:=hA.stw64 (i:=k-1) (by omega)
   have hnx:=hA.lt
   have had:=Dg.getD (B:=1000000000) (by decide) da (k-1)
   have da1:=vl_drop (B:=1000000000) (l:=a) (j:=k-1) (by omega)
   have da2:=fun q=>vl_drop_set (B:=1000000000) (q:=q) (l:=out) (j:=k-1) (by omega)
   rw[Nat.sub_add_cancel hpos]at da1
   simp only[Nat.sub_add_cancel hpos]at da2
   generalize a.getD (k-1) 0=ak at *
   have hqB:(rem*1000000000+ak)/b0<1000000000:=by
    rw[Nat.div_lt_iff_lt_mul hb0,Nat.mul_comm]
    have:(rem+1)*1000000000≤b0*1000000000:=Nat.mul_le_mul_right _ hrem
    omega
   have hrl:(rem*1000000000+ak)%b0<b0:=Nat.mod_lt _ hb0
   have hdm:=short_step (B:=1000000000) (x:=ak) hinv (Nat.div_add_mod (rem*1000000000+ak) b0).symm
   obtain⟨t9,ht9⟩:∃t9,t9=rem*1000000000+ak:=⟨_,rfl⟩
   have e9:(rem:Int)*1000000000+ak=(t9:Nat):=by omega
   rw[←ht9]at hqB hrl hdm
   have eq:(t9:Int)/b0=((t9/b0:Nat):Int):=rfl
   have em:(t9:Int)%b0=((t9%b0:Nat):Int):=rfl
   have hbi:0<(b0:Int):=by omega
   obtain⟨q0,hq0⟩:∃q0,q0=t9/b0:=⟨_,rfl⟩
   obtain⟨r0,hr0⟩:∃r0,r0=t9%b0:=⟨_,rfl⟩
   rw[←hq0]at hqB eq
   rw[←hr0]at hrl em
   rw[←hq0,←hr0]at hdm
   have wq:IntKind.wrap .i64 (q0:Int)=q0:=wrap_i64 (by omega)
   have ik:IntKind.wrap .i64 ((k:Int)-1-1)=(k:Int)-1-1:=wrap_i64 (by omega)
   repeat' (with_reducible first|simp(disch:=first|exact okD|fail) only[go_sem,seval,h0,h1,h6,h7,h8,hp1,e1,ada,lda,ola,sw,e9,eq,em,wq,ik,b_quoP,b_remP]|(apply Spl.i<;>intro hc))
   refine⟨k-1,by omega,k-1,r0,out.set (k-1) q0,rfl,?_,?_,AtS.put hnx,by simpa using hlo,hd.set _ hqB,hrl,by omega,?_,rfl⟩
   ·congr 1;omega
   ·exact Grs.put hG (Nat.le_refl _)
   ·rw[da1,da2];exact hdm
end
end
end Go.Ae
set_option linter.unusedVariables false
set_option linter.unusedSimpArgs false
set_option maxRecDepth 100000
namespace Go.Ae
open Bg
noncomputable section
section
variable {h:Hp} {K:AV→Hp→Prop}
theorem d272 {va vb:AV} {a v:List Nat} {j un um ul v1 v0 Q:Nat} (ha:Sq .i64 h va a) (hv:Sq .i64 h vb v) (h2:2≤v.length) (hj:j+v.length<a.length) (hla:a.length≤1000000) (da:Dg 1000000000 a) (dv:Dg 1000000000 v)
  (gn:a.getD (j+v.length) 0=un) (gm:a.getD (j+v.length-1) 0=um) (gl:a.getD (j+v.length-2) 0=ul) (g1:v.getD (v.length-1) 0=v1) (g0:v.getD (v.length-2) 0=v0) (hv1:0<v1)
  (hU:un*1000000000+um≤v1*1000000000+v0) (hQB:Q<1000000000) (hQU:Q*(v1*1000000000+v0)≤(un*1000000000+um)*1000000000+ul):
  CallWp E3 272 [va,vb,.int .i64 j] h fun v' h'=>∃q:Nat,v'= .int .i64 q∧h'=h∧Q≤q∧q<1000000000∧q*(v1*1000000000+v0)≤(un*1000000000+um)*1000000000+ul:=by
 refine CallWp.fn (fn:=R.a272) rfl rfl rfl ?_
 unfold R.a272
 have ra:=ha.rd
 have rv:=hv.rd
 have lnv:=rv.len
 have ada:=ra.adr
 have adv:=rv.adr
 have oa:=ra.old (by omega)
 have ov:=rv.old (by omega)
 have ldn:=ra.load (j+v.length) (by omega)
 have ldm:=ra.load (j+v.length-1) (by omega)
 have ldl:=ra.load (j+v.length-2) (by omega)
 have ld1:=rv.load (v.length-1) (by omega)
 have ld0:=rv.load (v.length-2) (by omega)
 have hun:=Dg.getD (B:=1000000000) (by decide) da (j+v.length)
 have hum:=Dg.getD (B:=1000000000) (by decide) da (j+v.length-1)
 have hul:=Dg.getD (B:=1000000000) (by decide) da (j+v.length-2)
 have hv1d:=Dg.getD (B:=1000000000) (by decide) dv (v.length-1)
 have hv0d:=Dg.getD (B:=1000000000) (by decide) dv (v.length-2)
 rw[gn]at ldn hun
 rw[gm]at ldm hum
 rw[gl]at ldl hul
 rw[g1]at ld1 hv1d
 rw[g0]at ld0 hv0d
 have i0:((j:Int)+v.length).toNat=j+v.length:=by omega
 have i1:((j:Int)+v.length-1).toNat=j+v.length-1:=by omega
 have i2:((j:Int)+v.length-2).toNat=j+v.length-2:=by omega
 have k1:((v.length:Int)-1).toNat=v.length-1:=by omega
 have k2:((v.length:Int)-2).toNat=v.length-2:=by omega
 have hE:=EsQ.first (b:=1000000000) (v0:=v0) (u:=ul) hv1 hul hQU
 obtain⟨U,hUd⟩:∃U,U=un*1000000000+um:=⟨_,rfl⟩
 rw[←hUd]at hE hU hQU⊢
 have eU:(un:Int)*1000000000+um=(U:Nat):=by omega
 have hUl:U<1000000000000000000:=by omega
 have qle:=Nat.div_le_self U v1
 have rlt:U%v1<v1:=Nat.mod_lt _ hv1
 have hv1i:0<(v1:Int):=by omega
 have eq:(U:Int)/v1=((U/v1:Nat):Int):=rfl
 have em:(U:Int)%v1=((U%v1:Nat):Int):=rfl
 obtain⟨Q0,hQ0⟩:∃Q0,Q0=U/v1:=⟨_,rfl⟩
 obtain⟨R0,hR0⟩:∃R0,R0=U%v1:=⟨_,rfl⟩
 rw[←hQ0]at qle eq hE
 rw[←hR0]at rlt em hE
 have wq:IntKind.wrap .i64 (Q0:Int)=Q0:=wrap_i64 (by omega)
 have w8:IntKind.wrap .i64 ((un:Int)*1000000000)=(un:Int)*1000000000:=wrap_i64 (by omega)
 repeat' (with_reducible first|simp(disch:=first|exact okD|fail) only[go_sem,seval,lnv,ada,adv,oa,ov,ldn,ldm,ld1,i0,i1,k1,w8,eU,eq,em,wq,b_quoP,b_remP]|(apply Spl.i<;>intro hc))
 refine Wp.loopI (fun m s'=>∃q r:Nat,val s'.tm (.t 0)=va∧val s'.tm (.t 1)=vb∧val s'.tm (.t 2)= .int .i64 j∧val s'.tm (.t 7)= .int .i64 v.length∧val s'.tm (.t 9)= .int .i64 q∧val s'.tm (.t 10)= .int .i64 r∧
  s'.hp=h∧EsQ v1 U Q q r∧q≤U∧r<1000000000∧q=m) (n:=Q0) ?_ ?_
 ·exact⟨Q0,R0,by simp(disch:=first|exact okD|fail) only[go_sem,seval],by simp(disch:=first|exact okD|fail) only[go_sem,seval],by simp(disch:=first|exact okD|fail) only[go_sem,seval],by simp(disch:=first|exact okD|fail) only[go_sem,seval],by simp(disch:=first|exact okD|fail) only[go_sem,seval],by simp(disch:=first|exact okD|fail) only[go_sem,seval],rfl,hE,qle,by omega,rfl⟩
 ·rintro m ⟨tm,hp⟩ ⟨q,r,h0,h1,h2',h7,h9,h10,rfl,hE,hqU,hr,rfl⟩
  simp only at h0 h1 h2' h7 h9 h10
  by_cases hqb:(1000000000:Int)≤q
  ·obtain⟨hq1,hEd⟩:=hE.downB hQB (by omega)
   have es:(q:Int)-1=((q-1:Nat):Int):=by omega
   have ea:(r:Int)+v1=((r+v1:Nat):Int):=by omega
   by_cases hrb:(1000000000:Int)≤((r+v1:Nat):Int)
   ·obtain⟨f1,f2⟩:=hEd.great (v0:=v0) (b:=1000000000) (u:=ul) hv0d hU (by omega)
    have f3:=hEd.ok f2
    repeat' (with_reducible first|simp(disch:=first|exact okD|fail) only[go_sem,seval,h0,h1,h2',h7,h9,h10,hqb,es,ea,hrb,adv,ld1,k1]|(apply Spl.i<;>intro hc))
    exact⟨q-1,rfl,hEd.ge,f1,f3⟩
   ·repeat' (with_reducible first|simp(disch:=first|exact okD|fail) only[go_sem,seval,h0,h1,h2',h7,h9,h10,hqb,es,ea,hrb,adv,ld1,k1]|(apply Spl.i<;>intro hc))
    exact⟨q-1,by omega,q-1,r+v1,rfl,rfl,hEd,by omega,by omega,rfl⟩
  ·have hqv:q*v0≤999999999*999999999:=Nat.mul_le_mul (by omega) (by omega)
   have m0:(q:Int)*v0=((q*v0:Nat):Int):=(Int.natCast_mul _ _).symm
   have ok:=hE.ok (b:=1000000000) (v0:=v0) (u:=ul)
   have dn:=hE.down (b:=1000000000) (v0:=v0) (u:=ul) hQU
   generalize q*v0=qv at *
   by_cases hc:(r:Int)*1000000000+ul<qv
   ·obtain⟨hq1,hEd⟩:=dn (by omega)
    have es:(q:Int)-1=((q-1:Nat):Int):=by omega
    have ea:(r:Int)+v1=((r+v1:Nat):Int):=by omega
    by_cases hrb:(1000000000:Int)≤((r+v1:Nat):Int)
    ·obtain⟨f1,f2⟩:=hEd.great (v0:=v0) (b:=1000000000) (u:=ul) hv0d hU (by omega)
     have f3:=hEd.ok f2
     repeat' (with_reducible first|simp(disch:=first|exact okD|fail) only[go_sem,seval,h0,h1,h2',h7,h9,h10,hqb,es,ea,hrb,ada,adv,ld1,ld0,ldl,oa,ov,i2,k1,k2,m0,hc]|(apply Spl.i<;>intro hc))
     exact⟨q-1,rfl,hEd.ge,f1,f3⟩
    ·repeat' (with_reducible first|simp(disch:=first|exact okD|fail) only[go_sem,seval,h0,h1,h2',h7,h9,h10,hqb,es,ea,hrb,ada,adv,ld1,ld0,ldl,oa,ov,i2,k1,k2,m0,hc]|(apply Spl.i<;>intro hc))
     exact⟨q-1,by omega,q-1,r+v1,rfl,rfl,hEd,by omega,by omega,rfl⟩
   ·repeat' (with_reducible first|simp(disch:=first|exact okD|fail) only[go_sem,seval,h0,h1,h2',h7,h9,h10,hqb,ada,adv,ld1,ld0,ldl,oa,ov,i2,k1,k2,m0,hc]|(apply Spl.i<;>intro hc))
    exact⟨q,rfl,hE.ge,by omega,ok (by omega)⟩
end
end
end Go.Ae
set_option linter.unusedVariables false
set_option linter.unusedSimpArgs false
set_option maxRecDepth 100000
namespace Go.Ae
open Bg
noncomputable section
theorem CallWp.imp {E:Env} {f:Nat} {args:List AV} {h:Hp} {P K:AV→Hp→Prop} (hc:CallWp E f args h P) (hk:∀v h',P v h'→K v h'):CallWp E f args h K:=by
 obtain⟨v,h',h1,h2⟩:=hc
 exact⟨v,h',h1,hk v h' h2⟩
def DivR (q r:Nat) (v:AV) (h':Hp):Prop:=∃vq vr lq lr,v= .tup [vq,vr]∧Sq .i64 h' vq lq∧Sq .i64 h' vr lr∧Dg 1000000000 lq∧Dg 1000000000 lr∧Norm lq∧Norm lr∧vl 1000000000 lq=q∧vl 1000000000 lr=r
section
variable {h h' hp:Hp} {K:AV→Hp→Prop} {tm:T AV} {t i:Nat} {P X S:List Nat} {Z:List AV} {c:AV}
theorem AtS.ldx (a:AtS h t ((P++X).map (wd .i64)++Z)) (hi:i<X.length):∀h' K,LoadR false 1 (P.length+i) (h.get t) h' K↔K (.int .i64 (X.getD i 0:Nat)) h':=by
 obtain⟨st,hg,hs,ht⟩:=a
 intro h' K
 have e:=win_at (P:=P) (S:=[]) hi
 rw[List.append_nil]at e
 rw[hg,LoadR.row,if_pos (by simp only[List.length_map,List.length_append];omega),if_neg (by decide),List.getElem?_append_left (by simp only[List.length_map,List.length_append];omega),row_get (by simp only[List.length_append];omega),e]
 exact Iff.rfl
theorem AtS.stx (a:AtS h t ((P++X).map (wd .i64)++Z)) (hi:i<X.length):∀(x:Nat) h' K,StoreR 1 t (P.length+i) (.int .i64 (x:Int)) (h.get t) h' K↔K und (h'.put t fun st=> .row ((P++X.set i x).map (wd .i64)++Z) true st):=by
 obtain⟨st,hg,hs,ht⟩:=a
 intro x h' K
 rw[hg,StoreR.row]
 have e0:=win_set (P:=P) (S:=[]) (x:=x) hi
 rw[List.append_nil,List.append_nil]at e0
 have e:splice ((P++X).map (wd .i64)++Z) (P.length+i) (AV.cells (.int .i64 (x:Int)))=(P++X.set i x).map (wd .i64)++Z:=by
  rw[←e0,←set_row (by simp only[List.length_append];omega)]
  show List.take (P.length+i) ((P++X).map (wd .i64)++Z)++([AV.int .i64 (x:Int)]++List.drop (P.length+i+1) ((P++X).map (wd .i64)++Z))=_
  rw[List.take_append_of_le_length (by simp only[List.length_map,List.length_append];omega),List.drop_append_of_le_length (by simp only[List.length_map,List.length_append];omega)]
  simp
 rw[e]
 constructor
 ·exact fun hk=>hk.2.2.2
 ·exact fun hk=>⟨rfl,by simp only[List.length_map,List.length_append];omega,rfl,hk⟩
theorem AtS.ldt (a:AtS h t ((P++X).map (wd .i64)++(c::Z))):∀h' K,LoadR false 1 (P.length+X.length) (h.get t) h' K↔K c h':=by
 obtain⟨st,hg,hs,ht⟩:=a
 intro h' K
 rw[hg,LoadR.row,if_pos (by simp only[List.length_map,List.length_append,List.length_cons];omega),if_neg (by decide),List.getElem?_append_right (by simp only[List.length_map,List.length_append];omega)]
 simp only[List.length_map,List.length_append,Nat.sub_self,List.getElem?_cons_zero]
 exact Iff.rfl
theorem AtS.stt (a:AtS h t ((P++X).map (wd .i64)++(c::Z))):∀(x:Int) h' K,StoreR 1 t (P.length+X.length) (.int .i64 x) (h.get t) h' K↔K und (h'.put t fun st=> .row ((P++X).map (wd .i64)++(.int .i64 x::Z)) true st):=by
 obtain⟨st,hg,hs,ht⟩:=a
 intro x h' K
 rw[hg,StoreR.row]
 have e:splice ((P++X).map (wd .i64)++(c::Z)) (P.length+X.length) (AV.cells (.int .i64 x))=(P++X).map (wd .i64)++(.int .i64 x::Z):=by
  show List.take (P.length+X.length) ((P++X).map (wd .i64)++(c::Z))++([AV.int .i64 x]++List.drop (P.length+X.length+1) ((P++X).map (wd .i64)++(c::Z)))=_
  have hl:((P++X).map (wd .i64)).length=P.length+X.length:=by simp
  rw[←hl,List.take_left,←List.drop_drop,List.drop_left]
  simp
 rw[e]
 constructor
 ·exact fun hk=>hk.2.2.2
 ·exact fun hk=>⟨rfl,by simp only[List.length_map,List.length_append,List.length_cons];omega,rfl,hk⟩
theorem mac_step {P V X W q v x x' ca ca':Nat} (h:X+q*V=W+P*ca) (hx:x'+(q*v+ca)=x+1000000000*ca'):X+P*x'+q*(V+P*v)=W+P*x+P*1000000000*ca':=by
 have e1:P*(x'+(q*v+ca))=P*(x+1000000000*ca'):=by rw[hx]
 have e3:q*(P*v)=P*(q*v):=by ac_rfl
 rw[Nat.mul_add,Nat.mul_add,Nat.mul_add,←Nat.mul_assoc P 1000000000]at e1
 rw[Nat.mul_add,e3]
 omega
theorem dd_tail {T0 tq n N M Rr f:Nat} {v8:AV} {L out:List Nat} (h8:val tm (.t 8)=v8) (h10:val tm (.t 10)= .int .i64 n) (h11:val tm (.t 11)= .sl T0 0 N 1) (h12:val tm (.t 12)= .sl tq 0 M 1)
  (hG:Grs h hp) (hT:h.next≤T0) (hA:AtS hp T0 (L.map (wd .i64))) (hL:L.length=N) (dL:Dg 1000000000 L) (hn:n≤N) (hN:N≤1000000) (hv:vl 1000000000 L=Rr*f) (hlt:vl 1000000000 L<1000000000^n)
  (hS8:Sq .i64 hp v8 [f]) (hf:0<f) (hfB:f<1000000000) (hq:AtS hp tq (out.map (wd .i64))) (ho:out.length=M) (dq:Dg 1000000000 out) (hM:M≤1000001):
  Wp E3 ((R.a208.code.post 9).post 1) ⟨tm,hp⟩ (RetQ [.tmp 4,.tmp 5] fun v h'=>DivR (vl 1000000000 out) Rr v h'∧Grs h h'):=by
 unfold R.a208
 dsimp only[ACode.post]
 obtain⟨ht0,htn⟩:=vl_top0 (B:=1000000000) (by decide) hlt
 have hk2:(0:Int)≤(n:Int)∧(n:Int)≤(N:Int):=by omega
 have sl1:=slA_hi (h:=hp) (t:=T0) (o:=0) (n:=N) (z:=1) (sz:=1) (kd:= .i64) hk2
 rw[Int.toNat_natCast]at sl1
 obtain⟨st,hg,hst,hTn⟩:=hA
 have S2:Sq .i64 hp (.sl T0 0 n 1) (L.take n):=by
  refine .inr ⟨T0,0,true,st,L,?_,hg,?_,?_,hTn,hst⟩
  ·rw[List.length_take,Nat.min_eq_left (by omega)]
  ·rw[List.length_take];omega
  ·rw[List.length_take,Nat.min_eq_left (by omega),List.drop_zero]
 have tn:=(dL.take n).trim
 have tv:vl 1000000000 (trimL (L.take n))=Rr*f:=by rw[vl_trim,htn,hv]
 repeat' (with_reducible first|simp(disch:=first|exact okD|fail) only[go_sem,seval,h8,h10,h11,h12,sl1]|(apply Spl.i<;>intro hc))
 refine Gp.wp (dg271 S2 (by rw[List.length_take];omega)) fun v1 k1 a1 b1 u1 S1=>?_
 have r8:=(hS8.grs ⟨_,_,u1⟩:Sq .i64 (hp.ov k1 u1) v8 [f]).rd
 have ad8:=r8.adr
 have ld8:=r8.load 0 (by simp)
 have o8:OldR ((hp.ov k1 u1).get (tokOf v8)) hp.clk=true:=by
  rw[Hp.ov_get (hS8.rd.tok (by simp))]
  exact hS8.rd.old (by simp) _ (Nat.le_refl _)
 simp only[List.getD_cons_zero,Nat.add_zero]at ld8
 have e00:(0:Int).toNat=0:=rfl
 repeat' (with_reducible first|simp(disch:=first|exact okD|fail) only[go_sem,seval,h8,h10,h11,h12,ad8,ld8,o8,e00]|(apply Spl.i<;>intro hc))
 have lt:=trim_len (L.take n)
 rw[List.length_take]at lt
 refine Gp.wp (d270 S1 tn hfB hf (by omega)) fun v2 k2 a2 b2 u2 ⟨vq,lq,e2,S3,dlq,nlq,vlq⟩=>?_
 subst e2
 have hq2:=(hq.grs ⟨_,_,u1⟩:AtS (hp.ov k1 u1) tq _)
 have hq3:=(hq2.grs ⟨_,_,u2⟩:AtS ((hp.ov k1 u1).ov k2 u2) tq _)
 repeat' (with_reducible first|simp(disch:=first|exact okD|fail) only[go_sem,seval,h8,h10,h11,h12]|(apply Spl.i<;>intro hc))
 refine Gp.wp (dg271 (hq3.sq ho) (by omega)) fun v3 k3 a3 b3 u3 S4=>?_
 repeat' (with_reducible first|simp(disch:=first|exact okD|fail) only[go_sem,seval]|(apply Spl.i<;>intro hc))
 refine⟨⟨v3,vq,_,_,rfl,S4,S3.grs ⟨_,_,u3⟩,dq.trim,dlq,norm_trim _,nlq,by rw[vl_trim],?_⟩,?_⟩
 ·rw[vlq,tv,Nat.mul_div_cancel _ hf]
 ·refine hG.trans ?_
  exact okG
end
end
end Go.Ae
set_option linter.unusedVariables false
set_option linter.unusedSimpArgs false
set_option maxRecDepth 100000
set_option maxHeartbeats 4000000
namespace Go.Ae
open Bg
noncomputable section
theorem getD_win {L:List Nat} {j n i:Nat} (hi:i<n):((L.drop j).take n).getD i 0=L.getD (j+i) 0:=by
 simp only[List.getD,List.getElem?_take,if_pos hi,List.getElem?_drop]
theorem snoc_win {L:List Nat} {j n:Nat} (h:j+n<L.length):(L.drop j).take (n+1)=(L.drop j).take n++[L.getD (j+n) 0]:=by
 rw[take_succ (by rw[List.length_drop];omega)]
 congr 2
 simp only[List.getD,List.getElem?_drop]
theorem back_fin {P Xf V R Xn c:Nat} (h:Xf+V=R+P) (hR:R<P) (hx:Xn<P) (hn:Xn+P*c=Xf+V):Xn=R∧c=1:=by
 have:c=1:=by
  rcases Nat.lt_or_ge c 1 with h0|h0
  ·obtain rfl:c=0:=by omega
   omega
  ·rcases Nat.lt_or_ge 1 c with h1|h1
   ·have:P*2≤P*c:=Nat.mul_le_mul_left _ h1
    omega
   ·omega
 subst this
 omega
theorem sub_fin {P X0 Xf V W Q q top ca:Nat} (hW:W=X0+P*top) (h:Xf+q*V=X0+P*ca) (hXf:Xf<P) (hV:V<P) (hV0:0<V) (hQ:W/V=Q) (h1:Q≤q) (h2:q≤Q+1):
  (q=Q∧ca=top∧Xf=W%V)∨(q=Q+1∧ca=top+1∧Xf+V=W%V+P):=by
 have hdm:=Nat.div_add_mod W V
 have hml:=Nat.mod_lt W hV0
 rw[hQ]at hdm
 have e:Xf+q*V+P*top=W+P*ca:=by omega
 rcases Nat.lt_or_ge Q q with g|g
 ·obtain rfl:q=Q+1:=by omega
  rw[Nat.add_mul,Nat.one_mul,Nat.mul_comm Q]at e
  have hc:ca=top+1:=by
   rcases Nat.lt_trichotomy ca (top+1)with c|c|c
   ·have:=Nat.mul_le_mul_left P (show ca≤top by omega)
    omega
   ·exact c
   ·have:=Nat.mul_le_mul_left P (show top+2≤ca by omega)
    rw[Nat.mul_add]at this
    omega
  subst hc
  rw[Nat.mul_add,Nat.mul_one]at e
  exact .inr ⟨rfl,rfl,by omega⟩
 ·obtain rfl:q=Q:=by omega
  rw[Nat.mul_comm q]at e
  have hc:ca=top:=by
   rcases Nat.lt_trichotomy ca top with c|c|c
   ·have:=Nat.mul_le_mul_left P (show ca+1≤top by omega)
    rw[Nat.mul_add,Nat.mul_one]at this
    omega
   ·exact c
   ·have:=Nat.mul_le_mul_left P (show top+1≤ca by omega)
    rw[Nat.mul_add,Nat.mul_one]at this
    omega
  subst hc
  exact .inl ⟨rfl,rfl,by omega⟩
theorem Sq.putN {kd:IntKind} {h:Hp} {v:AV} {l:List Nat} {t:Nat} {f:Nat→AObj} (s:Sq kd h v l) (hn:tokOf v≠t):Sq kd (h.put t f) v l:=s.chg (Chg.put (t:=t) Chg.refl) hn
section
variable {h hp:Hp} {K:AV→Hp→Prop} {tm:T AV}
theorem dd_main {wv v8:AV} {a v L0:List Nat} {T0 tq f b:Nat} (h8:val tm (.t 8)=v8) (h9:val tm (.t 9)=wv) (h10:val tm (.t 10)= .int .i64 v.length) (h11:val tm (.t 11)= .sl T0 0 (a.length+1) 1) (h12:val tm (.t 12)= .sl tq 0 (a.length+1-v.length) 1)
    (hG:Grs h hp) (hv:Sq .i64 hp wv v) (hS8:Sq .i64 hp v8 [f]) (dv:Dg 1000000000 v) (h2:2≤v.length) (hva:v.length≤a.length) (hN:a.length≤999999) (hv1:v.getD (v.length-1) 0≠0)
    (n1:tokOf wv≠T0) (n2:tokOf wv≠tq) (n3:tokOf v8≠T0) (n4:tokOf v8≠tq) (n5:tq≠T0) (hT:h.next≤T0) (hTq:h.next≤tq)
    (hA:AtS hp T0 (L0.map (wd .i64))) (hL:L0.length=a.length+1) (dL:Dg 1000000000 L0) (hq:AtS hp tq ((List.replicate (a.length+1-v.length) 0).map (wd .i64)))
    (hf:0<f) (hfB:f<1000000000) (hb:0<b) (hvb:vl 1000000000 v=b*f) (hab:vl 1000000000 L0=vl 1000000000 a*f) (htop:vl 1000000000 (L0.drop (a.length+1-v.length))<vl 1000000000 v):
    Wp E3 (R.a208.code.post 9) ⟨tm,hp⟩ (RetQ [.tmp 4,.tmp 5] fun v h'=>DivR (vl 1000000000 a/b) (vl 1000000000 a%b) v h'∧Grs h h'):=by
  have hvl:=vl_lt (B:=1000000000) (by decide) dv
  have hvp:0<vl 1000000000 v:=by rw[hvb];exact Nat.mul_pos hb hf
  have tail:=fun(tm:T AV) (hp:Hp) (L out:List Nat) h8 h10 h11 h12 hG hA hL dL hv hlt hS8 hq ho dq=>dd_tail (h:=h) (hp:=hp) (tm:=tm) (T0:=T0) (tq:=tq) (n:=v.length) (N:=a.length+1) (M:=a.length+1-v.length) (Rr:=vl 1000000000 a%b) (f:=f) (v8:=v8) (L:=L) (out:=out) h8 h10 h11 h12 hG hT hA hL dL (by omega) (by omega) hv hlt hS8 hf hfB hq ho dq (by omega)
  refine Wp.cut 1 rfl ?_
  generalize ACode.post 1 (ACode.post 9 R.a208.code)=r at tail⊢
  unfold R.a208
  dsimp only[ACode.post,ACode.pre]
  have w1:((a.length+1:Nat):Int)-v.length=((a.length+1-v.length:Nat):Int):=by omega
  have w2:(a.length:Int)+1-v.length=((a.length+1-v.length:Nat):Int):=by omega
  repeat' (with_reducible first|simp(disch:=first|exact okD|fail) only[go_sem,seval,h10,h11,w1,w2]|(apply Spl.i<;>intro hc))
  refine Wp.loopI (fun m s'=>∃(k:Nat) (L out:List Nat),val s'.tm (.t 8)=v8∧val s'.tm (.t 9)=wv∧val s'.tm (.t 10)= .int .i64 v.length∧val s'.tm (.t 11)= .sl T0 0 (a.length+1) 1∧val s'.tm (.t 12)= .sl tq 0 (a.length+1-v.length) 1∧val s'.tm (.t 13)= .int .i64 ((k:Int)-1)∧
    Grs h s'.hp∧Sq .i64 s'.hp wv v∧Sq .i64 s'.hp v8 [f]∧AtS s'.hp T0 (L.map (wd .i64))∧AtS s'.hp tq (out.map (wd .i64))∧L.length=a.length+1∧out.length=a.length+1-v.length∧Dg 1000000000 L∧Dg 1000000000 out∧k≤a.length+1-v.length∧
    (∀i,i<k→L.getD i 0=L0.getD i 0)∧vl 1000000000 (L.drop k)<vl 1000000000 v∧vl 1000000000 (L0.drop k)=vl 1000000000 (out.drop k)*vl 1000000000 v+vl 1000000000 (L.drop k)∧k=m) (n:=a.length+1-v.length) ?_ ?_
  · refine⟨a.length+1-v.length,L0,List.replicate (a.length+1-v.length) 0,by simp(disch:=first|exact okD|fail) only[go_sem,seval,h8],by simp(disch:=first|exact okD|fail) only[go_sem,seval,h9],by simp(disch:=first|exact okD|fail) only[go_sem,seval,h10],by simp(disch:=first|exact okD|fail) only[go_sem,seval,h11],by simp(disch:=first|exact okD|fail) only[go_sem,seval,h12],by simp(disch:=first|exact okD|fail) only[go_sem,seval],hG,hv,hS8,hA,hq,hL,by simp,dL,Dg.zeros (by decide) _,Nat.le_refl _,fun _ _=>rfl,htop,?_,rfl⟩
    rw[List.drop_of_length_le (l:=List.replicate _ 0) (by simp)];simp[vl]
  · rintro m ⟨tm, hp⟩ ⟨k,L,out,h8,h9,h10,h11,h12,h13,hG,hv,hS8,hA,hq,hL,ho,dL,dq,hk,hlow,hR,hinv,rfl⟩
    simp only at h8 h9 h10 h11 h12 h13 hG hv hS8 hA hq
    rcases Nat.eq_zero_or_pos k with rfl|hpos
    · have e0:((0:Nat):Int)-1= -1:=rfl
      simp only[List.drop_zero]at hinv hR
      rw[hab,hvb,←Nat.mul_assoc]at hinv
      rw[hvb]at hR
      have key:vl 1000000000 L=vl 1000000000 a%b*f∧vl 1000000000 out=vl 1000000000 a/b:=by
        have e:vl 1000000000 a*f/(b*f)=vl 1000000000 out:=by
          rw[hinv,Nat.mul_assoc,Nat.mul_comm,Nat.mul_add_div (Nat.mul_pos hb hf),Nat.div_eq_of_lt hR,Nat.add_zero]
        have e2:vl 1000000000 a*f%(b*f)=vl 1000000000 L:=by
          rw[hinv,Nat.mul_assoc,Nat.mul_comm,Nat.mul_add_mod,Nat.mod_eq_of_lt hR]
        rw[Nat.mul_div_mul_right _ _ hf]at e
        rw[Nat.mul_mod_mul_right]at e2
        exact⟨e2.symm,e.symm⟩
      repeat' (with_reducible first|simp(disch:=first|exact okD|fail) only[go_sem,seval,h8,h9,h10,h11,h12,h13,e0]|(apply Spl.i<;>intro hc))
      rw[←key.2]
      exact tail _ _ _ _ (by simp(disch:=first|exact okD|fail) only[go_sem,seval,h8]) (by simp(disch:=first|exact okD|fail) only[go_sem,seval,h10]) (by simp(disch:=first|exact okD|fail) only[go_sem,seval,h11]) (by simp(disch:=first|exact okD|fail) only[go_sem,seval,h12]) hG hA hL dL key.1 (by rw[←hvb]at hR;omega) hS8 hq ho dq
    · have e1 : ((k:Int)-1).toNat=k-1:=by omega
      have hp1:(0:Int)≤(k:Int)-1:=by omega
      have ec:((k-1:Nat):Int)=(k:Int)-1:=by omega
      have hjn:k-1+v.length<L.length:=by omega
      have hj:(L.take (k-1)).length=k-1:=by rw[List.length_take];omega
      have hX0l:((L.drop (k-1)).take v.length).length=v.length:=by rw[List.length_take,List.length_drop];omega
      have hsn:=snoc_win hjn
      have hsp:L=L.take (k-1)++(L.drop (k-1)).take v.length++(L.getD (k-1+v.length) 0::L.drop (k-1+(v.length+1))):=by
        have e:L.getD (k-1+v.length) 0::L.drop (k-1+(v.length+1))=(L.drop (k-1)).drop v.length:=by
          rw[List.drop_drop,List.drop_eq_getElem_cons (i:=k-1+v.length) hjn,getD_eq hjn];rfl
        rw[e,List.append_assoc,List.take_append_drop,List.take_append_drop]
      have dk:=vl_drop (B:=1000000000) (l:=L) (j:=k-1) (by omega)
      have dk0:=vl_drop (B:=1000000000) (l:=L0) (j:=k-1) (by omega)
      have dko:=fun q=>vl_drop_set (B:=1000000000) (q:=q) (l:=out) (j:=k-1) (by omega)
      rw[Nat.sub_add_cancel hpos]at dk dk0
      simp only[Nat.sub_add_cancel hpos]at dko
      rw[hlow (k-1) (by omega)]at dk
      have hljd:=Dg.getD (B:=1000000000) (by decide) dL (k-1)
      rw[hlow (k-1) (by omega)]at hljd
      have hWlt:vl 1000000000 (L.drop (k-1))<1000000000*vl 1000000000 v:=by
        rw[dk]
        have:1000000000*(vl 1000000000 (L.drop k)+1)≤1000000000*vl 1000000000 v:=Nat.mul_le_mul_left _ hR
        omega
      have hBn:vl 1000000000 (L.drop (k-1))<1000000000^(v.length+1):=by
        rw[Nat.pow_succ,Nat.mul_comm]
        exact Nat.lt_trans hWlt (Nat.mul_lt_mul_of_pos_left hvl (by decide))
      obtain⟨ht0,htn⟩:=vl_top0 (B:=1000000000) (by decide) hBn
      rw[List.drop_drop]at ht0
      have hstep:=long_step (B:=1000000000) hinv dk (Nat.div_add_mod (vl 1000000000 (L.drop (k-1))) (vl 1000000000 v)).symm
      rw[←htn]at hstep hWlt
      have hWl:((L.drop (k-1)).take (v.length+1)).length=v.length+1:=by rw[List.length_take,List.length_drop];omega
      have dW:Dg 1000000000 ((L.drop (k-1)).take (v.length+1)):=(dL.drop _).take _
      have tv:=top2 (B:=1000000000) (l:=v) h2
      have tw:=top3 (B:=1000000000) (W:=(L.drop (k-1)).take (v.length+1)) h2 hWl
      have lv:=vl_lt (B:=1000000000) (by decide) (dv.take (v.length-2))
      have lw:=vl_lt (B:=1000000000) (by decide) (dW.take (v.length-2))
      rw[List.length_take,Nat.min_eq_left (by omega)]at lv lw
      rw[getD_win (by omega),getD_win (by omega),getD_win (by omega)]at tw
      have huld:=Dg.getD (B:=1000000000) (by decide) dL (k-1+(v.length-2))
      obtain⟨hQU,hfin,hU,_,hQB⟩:=est_facts (B:=1000000000) (v1:=v.getD (v.length-1) 0) (v0:=v.getD (v.length-2) 0) (U:=L.getD (k-1+v.length) 0*1000000000+L.getD (k-1+(v.length-1)) 0) (u:=L.getD (k-1+(v.length-2)) 0) tv tw lv lw rfl rfl (by omega) (by decide) hWlt
      have hcall:=d272 (h:=hp) (va:= .sl T0 0 (a.length+1) 1) (vb:=wv) (a:=L) (v:=v) (j:=k-1) (hA.sq hL) hv h2 hjn (by omega) dL dv rfl rfl rfl rfl rfl (by omega) (by rw[show k-1+v.length-1=k-1+(v.length-1) by omega];exact hU) hQB (by rw[show k-1+v.length-1=k-1+(v.length-1) by omega,show k-1+v.length-2=k-1+(v.length-2) by omega];exact hQU)
      rw[show k-1+v.length-1=k-1+(v.length-1) by omega,show k-1+v.length-2=k-1+(v.length-2) by omega,ec]at hcall
      have hrow:L.map (wd .i64)=(L.take (k-1)++(L.drop (k-1)).take v.length).map (wd .i64)++(.int .i64 (L.getD (k-1+v.length) 0:Nat)::(L.drop (k-1+(v.length+1))).map (wd .i64)):=by
        conv=>lhs;rw[hsp]
        rw[List.map_append,List.map_cons];rfl
      rw[hrow]at hA
      rw[hsn]at hstep hcall hWlt hfin hQB
      have hdW:=Nat.mod_lt (vl 1000000000 ((L.drop (k-1)).take v.length++[L.getD (k-1+v.length) 0])) hvp
      have dX0:Dg 1000000000 ((L.drop (k-1)).take v.length):=(dL.drop _).take _
      have dP:Dg 1000000000 (L.take (k-1)):=dL.take _
      have dS:Dg 1000000000 (L.drop (k-1+(v.length+1))):=dL.drop _
      have hSl:(L.take (k-1)).length+(v.length+1)+(L.drop (k-1+(v.length+1))).length=a.length+1:=by
        rw[List.length_take,List.length_drop];omega
      have hPlow:∀i,i<k-1→(L.take (k-1)).getD i 0=L0.getD i 0:=by
        intro i hi
        rw[←hlow i (by omega)]
        simp only[List.getD,List.getElem?_take,if_pos hi]
      have hWv:vl 1000000000 ((L.drop (k-1)).take v.length++[L.getD (k-1+v.length) 0])=vl 1000000000 ((L.drop (k-1)).take v.length)+1000000000^v.length*L.getD (k-1+v.length) 0:=by rw[vl_snoc,hX0l]
      obtain⟨P,hP⟩:∃P,P=L.take (k-1):=⟨_,rfl⟩
      obtain⟨X0,hX0⟩:∃X0,X0=(L.drop (k-1)).take v.length:=⟨_,rfl⟩
      obtain⟨S,hS⟩:∃S,S=L.drop (k-1+(v.length+1)):=⟨_,rfl⟩
      obtain⟨top,htp⟩:∃top,top=L.getD (k-1+v.length) 0:=⟨_,rfl⟩
      rw[←hP,←hX0,←hS,←htp]at hA
      rw[←hX0,←htp]at hWv hstep hcall hdW hfin hQB
      rw[←hX0]at dX0 hX0l
      rw[←hP]at dP hj hPlow
      rw[←hS]at dS ht0
      rw[←hP,←hS]at hSl
      obtain⟨W,hWd⟩:∃W,W=vl 1000000000 (X0++[top]):=⟨_,rfl⟩
      rw[←hWd]at hWv hstep hcall hdW hfin hQB
      have htopd:top<1000000000:=by rw[htp];exact Dg.getD (by decide) dL _
      have close:∀(hp':Hp) (Xn:List Nat) (q':Nat),Grs h hp'→Sq .i64 hp' wv v→Sq .i64 hp' v8 [f]→AtS hp' T0 ((P++Xn).map (wd .i64)++(.int .i64 0::S.map (wd .i64)))→AtS hp' tq ((out.set (k-1) q').map (wd .i64))→Xn.length=v.length→Dg 1000000000 Xn→vl 1000000000 Xn=W%vl 1000000000 v→q'=W/vl 1000000000 v→
          ∃ m',m'<k∧∃(k':Nat) (L' out':List Nat),(AV.int .i64 ((k:Int)-1-1)= .int .i64 ((k':Int)-1))∧Grs h hp'∧Sq .i64 hp' wv v∧Sq .i64 hp' v8 [f]∧AtS hp' T0 (L'.map (wd .i64))∧AtS hp' tq (out'.map (wd .i64))∧L'.length=a.length+1∧out'.length=a.length+1-v.length∧Dg 1000000000 L'∧Dg 1000000000 out'∧k'≤a.length+1-v.length∧
            (∀i,i<k'→L'.getD i 0=L0.getD i 0)∧vl 1000000000 (L'.drop k')<vl 1000000000 v∧vl 1000000000 (L0.drop k')=vl 1000000000 (out'.drop k')*vl 1000000000 v+vl 1000000000 (L'.drop k')∧k'=m':=by
        intro hp' Xn q' G' V' S8' A' Q' lX dX vX hq'
        have erow:(P++Xn).map (wd .i64)++(.int .i64 0::S.map (wd .i64))=(P++Xn++(0::S)).map (wd .i64):=by
          rw[List.map_append (l₁:=P++Xn),List.map_cons];rfl
        rw[erow]at A'
        have hdr:vl 1000000000 ((P++Xn++(0::S)).drop (k-1))=vl 1000000000 Xn:=by
          rw[List.append_assoc,List.drop_append_of_le_length (by omega),List.drop_of_length_le (by omega),List.nil_append,vl_append,vl_cons,ht0];simp
        refine⟨k-1,by omega,k-1,P++Xn++(0::S),out.set (k-1) q',by congr 1;omega,G',V',S8',A',Q',?_,by simpa using ho,?_,?_,by omega,?_,?_,?_,rfl⟩
        · simp only[List.length_append,List.length_cons];omega
        · exact(dP.append dX).append (Dg.cons (by decide) dS)
        · exact dq.set _ (by rw[hq'];exact hQB)
        · intro i hi
          rw[←hPlow i hi]
          simp only[List.getD]
          rw[List.append_assoc,List.getElem?_append_left (by omega)]
        · rw[hdr,vX];exact hdW
        · rw[hdr,vX,dk0,dko,hq'];exact hstep
      have hiN:∀i:Nat,i<v.length→(0:Int)≤(i:Int)+((k:Int)-1)∧(i:Int)+((k:Int)-1)<((a.length+1:Nat):Int):=fun i hi=>by omega
      clear hrow hsn hsp tw dk
      repeat' (with_reducible first|simp(disch:=first|exact okD|fail) only[go_sem,seval,h8,h9,h10,h11,h12,h13,hp1]|(apply Spl.i<;>intro hc))
      refine hcall.imp fun v' h' ⟨q,e,e',hq1,hqB,hqle⟩=>?_
      subst e;subst e'
      have hq2:=hfin q hqB hqle
      repeat' (with_reducible first|simp(disch:=first|exact okD|fail) only[go_sem,seval,h8,h9,h10,h11,h12,h13]|(apply Spl.i<;>intro hc))
      refine Wp.loopI (fun m s'=>∃(i ca:Nat) (X:List Nat),val s'.tm (.t 8)=v8∧val s'.tm (.t 9)=wv∧val s'.tm (.t 10)= .int .i64 v.length∧val s'.tm (.t 11)= .sl T0 0 (a.length+1) 1∧val s'.tm (.t 12)= .sl tq 0 (a.length+1-v.length) 1∧val s'.tm (.t 13)= .int .i64 ((k:Int)-1)∧val s'.tm (.t 14)= .int .i64 (q:Nat)∧val s'.tm (.t 15)= .int .i64 (ca:Nat)∧val s'.tm (.t 16)= .int .i64 (i:Nat)∧
        Grs h s'.hp∧Sq .i64 s'.hp wv v∧Sq .i64 s'.hp v8 [f]∧AtS s'.hp tq (out.map (wd .i64))∧AtS s'.hp T0 ((P++X).map (wd .i64)++(.int .i64 (top:Nat)::S.map (wd .i64)))∧X.length=v.length∧Dg 1000000000 X∧ca≤1000000000∧i≤v.length∧
        vl 1000000000 (X.take i)+q*vl 1000000000 (v.take i)=vl 1000000000 (X0.take i)+1000000000^i*ca∧(∀k',i≤k'→X.getD k' 0=X0.getD k' 0)∧v.length-i=m) (n:=v.length) ?_ ?_
      · exact⟨0,0,X0,by simp(disch:=first|exact okD|fail) only[go_sem,seval,h8],by simp(disch:=first|exact okD|fail) only[go_sem,seval,h9],by simp(disch:=first|exact okD|fail) only[go_sem,seval,h10],by simp(disch:=first|exact okD|fail) only[go_sem,seval,h11],by simp(disch:=first|exact okD|fail) only[go_sem,seval,h12],by simp(disch:=first|exact okD|fail) only[go_sem,seval,h13],by simp(disch:=first|exact okD|fail) only[go_sem,seval],by(simp(disch:=first|exact okD|fail) only[go_sem,seval])<;>rfl,by(simp(disch:=first|exact okD|fail) only[go_sem,seval])<;>rfl,hG,hv,hS8,hq,hA,hX0l,dX0,by omega,by omega,by simp[vl],fun _ _=>rfl,rfl⟩
      · rintro m ⟨tm,hp⟩ ⟨i,ca,X,h8,h9,h10,h11,h12,h13,h14,h15,h16,hG,hv,hS8,hq,hA,hX,dX,hca,hle,hinv4,hsame,rfl⟩
        simp only at h8 h9 h10 h11 h12 h13 h14 h15 h16 hG hv hS8 hq hA
        have hnx:=hA.lt
        by_cases hlt:i<v.length
        · have hlt':(i:Int)<v.length:=by omega
          have rv:=hv.rd
          have adv:=rv.adr
          have ldv:=rv.load i hlt
          have ld:=hA.ldx (i:=i) (by omega)
          have sw:=hA.stx (i:=i) (by omega)
          have hs:=hsame i (Nat.le_refl _)
          have tk0:=vl_take_succ (B:=1000000000) (l:=X0) (i:=i) (by omega)
          have tkv:=vl_take_succ (B:=1000000000) hlt
          have hxd:=Dg.getD (B:=1000000000) (by decide) dX i
          have hvd:=Dg.getD (B:=1000000000) (by decide) dv i
          rw[←hs]at tk0
          have tkx:=fun r=>vl_set_take (B:=1000000000) (l:=X) (i:=i) (x:=r) (by omega)
          obtain⟨b1,b2⟩:=hiN i hlt
          have hij:((i:Int)+((k:Int)-1)).toNat=P.length+i:=by omega
          generalize X.getD i 0=xi at *
          generalize v.getD i 0=vi at *
          have hpp:q*vi≤999999999*999999999:=Nat.mul_le_mul (by omega) (by omega)
          have m0:(q:Int)*vi=((q*vi:Nat):Int):=(Int.natCast_mul _ _).symm
          have fin:∀x' ca',x'+(q*vi+ca)=xi+1000000000*ca'→vl 1000000000 ((X.set i x').take (i+1))+q*vl 1000000000 (v.take (i+1))=vl 1000000000 (X0.take (i+1))+1000000000^(i+1)*ca':=by
            intro x' ca' hx
            rw[tkx,tk0,tkv,Nat.pow_succ]
            exact mac_step hinv4 hx
          generalize q*vi=pr at *
          have e17:(pr:Int)+ca=((pr+ca:Nat):Int):=by omega
          have em:((pr+ca:Nat):Int)%1000000000=((pr+ca)%1000000000:Nat):=by omega
          have eq:((pr+ca:Nat):Int)/1000000000=((pr+ca)/1000000000:Nat):=by omega
          by_cases hn:(xi:Int)-((pr+ca)%1000000000:Nat)<0
          · have er:(xi:Int)-((pr+ca)%1000000000:Nat)+1000000000=((xi+1000000000-(pr+ca)%1000000000:Nat):Int):=by omega
            have ec1:(((pr+ca)/1000000000:Nat):Int)+1=(((pr+ca)/1000000000+1:Nat):Int):=by omega
            repeat' (with_reducible first|simp(disch:=first|exact okD|fail) only[go_sem,seval,h8,h9,h10,h11,h12,h13,h14,h15,h16,hlt',adv,ldv,ld,sw,b1,b2,hij,m0,e17,em,eq,hn,er,ec1]|(apply Spl.i<;>intro hc))
            refine⟨v.length-(i+1),by omega,i+1,(pr+ca)/1000000000+1,X.set i (xi+1000000000-(pr+ca)%1000000000),rfl,rfl,Grs.put hG hT,hv.putN n1,hS8.putN n3,hq.other n5,AtS.put hnx,by simpa using hX,dX.set _ (by omega),by omega,hlt,fin _ _ (by omega),?_,rfl⟩
            intro k' hk'
            rw[Bg.getD_set_ne (by omega)];exact hsame k' (by omega)
          · have er:(xi:Int)-((pr+ca)%1000000000:Nat)=((xi-(pr+ca)%1000000000:Nat):Int):=by omega
            rw[er]at hn
            repeat' (with_reducible first|simp(disch:=first|exact okD|fail) only[go_sem,seval,h8,h9,h10,h11,h12,h13,h14,h15,h16,hlt',adv,ldv,ld,sw,b1,b2,hij,m0,e17,em,eq,er,hn]|(apply Spl.i<;>intro hc))
            refine⟨v.length-(i+1),by omega,i+1,(pr+ca)/1000000000,X.set i (xi-(pr+ca)%1000000000),rfl,rfl,Grs.put hG hT,hv.putN n1,hS8.putN n3,hq.other n5,AtS.put hnx,by simpa using hX,dX.set _ (by omega),by omega,hlt,fin _ _ (by omega),?_,rfl⟩
            intro k' hk'
            rw[Bg.getD_set_ne (by omega)];exact hsame k' (by omega)
        · have hlt':¬(i:Int)<v.length:=by omega
          obtain rfl:i=v.length:=by omega
          rw[List.take_length,List.take_of_length_le (by omega:X.length≤v.length),List.take_of_length_le (by omega:X0.length≤v.length)]at hinv4
          have hXl:=vl_lt (B:=1000000000) (by decide) dX
          rw[hX]at hXl
          have htI:((k:Int)-1+v.length).toNat=P.length+X.length:=by omega
          have htN:(0:Int)≤(k:Int)-1+v.length∧(k:Int)-1+v.length<((a.length+1:Nat):Int):=by omega
          obtain⟨b1,b2⟩:=htN
          have ld:=hA.ldt
          have st:=hA.stt
          have sq:=hq.stw64 (i:=k-1) (by omega)
          have hnq:=hq.lt
          have hb1:P.length+X.length+1≤P.length+X.length+(S.length+1):=by omega
          have g1:∀z:Int,((P++X).map (wd .i64)++ .int .i64 z::S.map (wd .i64))[P.length+X.length]?=some (.int .i64 z):=fun z=>by
            rw[List.getElem?_append_right (by simp)];simp
          rcases sub_fin hWv hinv4 hXl hvl hvp rfl hq1 hq2 with⟨hqq,hcc,hXv⟩|⟨hqq,hcc,hXv⟩
          · have ez:(top:Int)-ca=0:=by omega
            subst hqq
            repeat' (with_reducible first|simp(disch:=first|exact okD|fail) only[go_sem,seval,h8,h9,h10,h11,h12,h13,h14,h15,h16,hlt',htI,b1,b2,ld,st,ez,hb1,g1,sq,hp1,e1,Int.lt_irrefl]|(apply Spl.i<;>intro hc))
            refine close _ X _ (Grs.put (Grs.put hG hT) hTq) ((hv.putN n1).putN n2) ((hS8.putN n3).putN n4) ?_ (AtS.put hnq) hX dX hXv rfl
            exact(AtS.put hnx).other (by omega)
          · have ez:(top:Int)-ca= -1:=by omega
            have es:((W/vl 1000000000 v+1:Nat):Int)-1=(W/vl 1000000000 v:Nat):=by omega
            have hwQ:IntKind.wrap .i64 ((W/vl 1000000000 v:Nat):Int)=(W/vl 1000000000 v:Nat):=wrap_i64 ⟨Int.le_trans (by decide) (Int.natCast_nonneg _),Int.le_trans (Int.ofNat_le.2 (Nat.le_of_lt hQB)) (by decide)⟩
            subst hqq
            repeat' (with_reducible first|simp(disch:=first|exact okD|fail) only[go_sem,seval,h8,h9,h10,h11,h12,h13,h14,h15,h16,hlt',htI,b1,b2,ld,st,ez,es,hwQ,hb1,g1]|(apply Spl.i<;>intro hc))
            refine Wp.loopI (fun m s'=>∃(i c:Nat) (Y:List Nat),val s'.tm (.t 8)=v8∧val s'.tm (.t 9)=wv∧val s'.tm (.t 10)= .int .i64 v.length∧val s'.tm (.t 11)= .sl T0 0 (a.length+1) 1∧val s'.tm (.t 12)= .sl tq 0 (a.length+1-v.length) 1∧val s'.tm (.t 13)= .int .i64 ((k:Int)-1)∧val s'.tm (.t 14)= .int .i64 (W/vl 1000000000 v:Nat)∧val s'.tm (.t 19)= .int .i64 (c:Nat)∧val s'.tm (.t 20)= .int .i64 (i:Nat)∧
              Grs h s'.hp∧Sq .i64 s'.hp wv v∧Sq .i64 s'.hp v8 [f]∧AtS s'.hp tq (out.map (wd .i64))∧AtS s'.hp T0 ((P++Y).map (wd .i64)++(.int .i64 (-1)::S.map (wd .i64)))∧Y.length=v.length∧Dg 1000000000 Y∧c≤1∧i≤v.length∧
              vl 1000000000 (Y.take i)+1000000000^i*c=vl 1000000000 (X.take i)+vl 1000000000 (v.take i)∧(∀k',i≤k'→Y.getD k' 0=X.getD k' 0)∧v.length-i=m) (n:=v.length) ?_ ?_
            · exact⟨0,0,X,by simp(disch:=first|exact okD|fail) only[go_sem,seval,h8],by simp(disch:=first|exact okD|fail) only[go_sem,seval,h9],by simp(disch:=first|exact okD|fail) only[go_sem,seval,h10],by simp(disch:=first|exact okD|fail) only[go_sem,seval,h11],by simp(disch:=first|exact okD|fail) only[go_sem,seval,h12],by simp(disch:=first|exact okD|fail) only[go_sem,seval,h13],by simp(disch:=first|exact okD|fail) only[go_sem,seval,es,hwQ],by(simp(disch:=first|exact okD|fail) only[go_sem,seval])<;>rfl,by(simp(disch:=first|exact okD|fail) only[go_sem,seval])<;>rfl,Grs.put hG hT,hv.putN n1,hS8.putN n3,hq.other n5,AtS.put hnx,hX,dX,by omega,by omega,by simp[vl],fun _ _=>rfl,rfl⟩
            · rintro m ⟨tm,hp⟩ ⟨i,c,Y,h8,h9,h10,h11,h12,h13,h14,h19,h20,hG,hv,hS8,hq,hA,hY,dY,hc,hle,hinv6,hsame6,rfl⟩
              simp only at h8 h9 h10 h11 h12 h13 h14 h19 h20 hG hv hS8 hq hA
              have hnx:=hA.lt
              by_cases hlt:i<v.length
              · have hlt':(i:Int)<v.length:=by omega
                have rv:=hv.rd
                have adv:=rv.adr
                have ldv:=rv.load i hlt
                have ov:=rv.old (by omega)
                have od:=hA.old
                have ld:=hA.ldx (i:=i) (by omega)
                have sw:=hA.stx (i:=i) (by omega)
                have hs:=hsame6 i (Nat.le_refl _)
                have tk0:=vl_take_succ (B:=1000000000) (l:=X) (i:=i) (by omega)
                have tkv:=vl_take_succ (B:=1000000000) hlt
                have hxd:=Dg.getD (B:=1000000000) (by decide) dY i
                have hvd:=Dg.getD (B:=1000000000) (by decide) dv i
                rw[←hs]at tk0
                have fin:∀s,s=Y.getD i 0+v.getD i 0+c→vl 1000000000 ((Y.set i (s%1000000000)).take (i+1))+1000000000^(i+1)*(s/1000000000)=vl 1000000000 (X.take (i+1))+vl 1000000000 (v.take (i+1)):=by
                  intro s hs'
                  rw[vl_set_take (by omega),tk0,tkv,Nat.pow_succ]
                  exact add9_step hinv6 hs'
                obtain⟨b1,b2⟩:=hiN i hlt
                have hij:((i:Int)+((k:Int)-1)).toNat=P.length+i:=by omega
                generalize Y.getD i 0=xi at *
                generalize v.getD i 0=vi at *
                have em:((xi:Int)+vi+c)%1000000000=((xi+vi+c)%1000000000:Nat):=by omega
                have eq:((xi:Int)+vi+c)/1000000000=((xi+vi+c)/1000000000:Nat):=by omega
                repeat' (with_reducible first|simp(disch:=first|exact okD|fail) only[go_sem,seval,h8,h9,h10,h11,h12,h13,h14,h19,h20,hlt',adv,ldv,ov,od,ld,sw,b1,b2,hij,em,eq]|(apply Spl.i<;>intro hc))
                refine⟨v.length-(i+1),by omega,i+1,(xi+vi+c)/1000000000,Y.set i ((xi+vi+c)%1000000000),rfl,rfl,Grs.put hG hT,hv.putN n1,hS8.putN n3,hq.other n5,AtS.put hnx,by simpa using hY,dY.set _ (Nat.mod_lt _ (by decide)),by omega,hlt,fin _ rfl,?_,rfl⟩
                intro k' hk'
                rw[Bg.getD_set_ne (by omega)];exact hsame6 k' (by omega)
              · have hlt':¬(i:Int)<v.length:=by omega
                obtain rfl:i=v.length:=by omega
                rw[List.take_length,List.take_of_length_le (by omega:X.length≤v.length),List.take_of_length_le (by omega:Y.length≤v.length)]at hinv6
                have hYl:=vl_lt (B:=1000000000) (by decide) dY
                rw[hY]at hYl
                obtain⟨hYv,hc1⟩:=back_fin hXv (by omega) hYl hinv6
                subst hc1
                have htI:((k:Int)-1+v.length).toNat=P.length+Y.length:=by omega
                have ld:=hA.ldt
                have st:=hA.stt
                have sq:=hq.stw64 (i:=k-1) (by omega)
                have hnq:=hq.lt
                have ez:(-1:Int)+((1:Nat):Int)=0:=by omega
                repeat' (with_reducible first|simp(disch:=first|exact okD|fail) only[go_sem,seval,h8,h9,h10,h11,h12,h13,h14,h19,h20,hlt',htI,b1,b2,ld,st,ez,sq,hp1,e1]|(apply Spl.i<;>intro hc))
                refine close _ Y _ (Grs.put (Grs.put hG hT) hTq) ((hv.putN n1).putN n2) ((hS8.putN n3).putN n4) ?_ (AtS.put hnq) hY dY hYv rfl
                exact(AtS.put hnx).other (by omega)
end
end
end Go.Ae
set_option linter.unusedVariables false
set_option linter.unusedSimpArgs false
set_option maxRecDepth 100000
set_option maxHeartbeats 1000000
namespace Go.Ae
open Bg
noncomputable section
theorem few9 {B:Nat} (hB:1<B) {l:List Nat} {n:Nat} (hn:Norm l) (h:vl B l<B^n):l.length≤n:=by
 rcases Nat.lt_or_ge n l.length with c|c
 ·have h0:l≠[]:=by rintro rfl;simp at c
  obtain⟨m,x,rfl⟩:=snoc_of h0
  have h1:=vl_ge (B:=B) (l:=m) (norm_snoc.1 hn)
  have h2:=Nat.pow_le_pow_right (n:=B) (by omega) (show n≤m.length by simp at c;omega)
  omega
 ·exact c
theorem norm_fac {b:List Nat} {f:Nat} (db:Dg 1000000000 b) (nb:Norm b) (hb:b≠[]) (hf:f=1000000000/(b.getD (b.length-1) 0+1)):0<b.getD (b.length-1) 0∧0<f∧f<1000000000∧vl 1000000000 b*f<1000000000^b.length∧1000000000^(b.length-1)≤vl 1000000000 b:=by
 obtain⟨m,x,rfl⟩:=snoc_of hb
 have hx0:=norm_snoc.1 nb
 have dx:x<1000000000:=db x (by simp)
 have e:(m++[x]).getD ((m++[x]).length-1) 0=x:=by simp[List.getD]
 rw[e]at hf⊢
 have hm:=vl_lt (B:=1000000000) (by decide) (db.left)
 have hlen:(m++[x]).length=m.length+1:=by simp
 have f0:0<f:=by rw[hf];exact Nat.div_pos (by omega) (by omega)
 have f1:f*(x+1)≤1000000000:=by rw[hf];exact Nat.div_mul_le_self _ _
 have f2:f<1000000000:=by
  have:f*2≤f*(x+1):=Nat.mul_le_mul_left _ (by omega)
  omega
 rw[hlen,Nat.add_sub_cancel,vl_snoc]
 refine⟨by omega,f0,f2,?_,?_⟩
 ·have h1:(vl 1000000000 m+1000000000^m.length*x)<1000000000^m.length*(x+1):=by rw[Nat.mul_add];omega
  have h2:=Nat.mul_lt_mul_of_pos_right h1 f0
  rw[Nat.mul_assoc,Nat.mul_comm (x+1)]at h2
  have h3:=Nat.mul_le_mul_left (1000000000^m.length) f1
  rw[Nat.pow_succ]
  exact Nat.lt_of_lt_of_le h2 h3
 ·have:1000000000^m.length*1≤1000000000^m.length*x:=Nat.mul_le_mul_left _ (by omega)
  omega
theorem top_fac {a L0:List Nat} {n f V:Nat} (da:Dg 1000000000 a) (hL:L0.length=a.length+1) (hv:vl 1000000000 L0=vl 1000000000 a*f) (hn:1≤n) (hna:n≤a.length) (hf:0<f) (hV:1000000000^(n-1)*f≤V):vl 1000000000 (L0.drop (a.length+1-n))<V:=by
 have h1:=vl_split (B:=1000000000) (l:=L0) (a.length+1-n) (by omega)
 have h2:=vl_lt (B:=1000000000) (by decide) da
 have h3:=Nat.mul_lt_mul_of_pos_right h2 hf
 rw[←hv,h1]at h3
 have e:1000000000^a.length=1000000000^(a.length+1-n)*1000000000^(n-1):=by rw[←Nat.pow_add];congr 1;omega
 rw[e,Nat.mul_assoc]at h3
 have h4:=Nat.lt_of_mul_lt_mul_left (Nat.lt_of_le_of_lt (Nat.le_add_left _ _) h3)
 exact Nat.lt_of_lt_of_le h4 hV
theorem app_sq {h:Hp} {t st:Nat} {y:AV} {l:List Nat} (hs:Sq .i64 h y l) (h0:l≠[]) (hg:h.get t=some (.row [] true st)) (hl:l.length≤2000000):
  appA h 1 8 (.sl t 0 0 1) y=some (.sl h.next 0 l.length 1,(h.put t fun s=> .dead s).push fun s=> .row (l.map (wd .i64)) true s):=by
 rcases hs with⟨_,e⟩|⟨u,o,own,st',L,rfl,hu,h1,h2,h3,h4⟩
 ·exact absurd e h0
 ·have hc:cellsOf h 1 (.sl u o l.length 1)=some (l.map (wd .i64)):=by
   simp only[cellsOf,hu]
   rw[if_pos ⟨trivial,by rw[List.length_map];omega⟩,Nat.mul_one,←List.map_drop,←List.map_take,h2]
  unfold appA
  rw[hc]
  simp only[lenA]
  have hne:l.length≠0:=by simpa using h0
  obtain⟨m,hm⟩:∃m,l.length=m+1:=⟨l.length-1,by omega⟩
  rw[hm]
  simp only[hg]
  rw[if_pos ⟨trivial,by simp,by omega,by omega⟩]
  simp
section
variable {h:Hp} {K:AV→Hp→Prop}
theorem d208 {va vb:AV} {a b:List Nat} (ha:Sq .i64 h va a) (hb:Sq .i64 h vb b) (da:Dg 1000000000 a) (db:Dg 1000000000 b) (na:Norm a) (nb:Norm b) (hla:a.length≤900000) (hlb:b.length≤900000) (hb0:b≠[]):
  Gp E3 208 [va,vb] h (DivR (vl 1000000000 a/vl 1000000000 b) (vl 1000000000 a%vl 1000000000 b)):=by
 have cmp:=fun{K:AV→Hp→Prop}=>d251 (K:=K) ha hb da db na nb (by omega) (by omega)
 have hbp:=norm_pos (B:=1000000000) (by decide) nb hb0
 by_cases hlt:vl 1000000000 a<vl 1000000000 b
 ·refine Gp.of (CallWp.fn (fn:=R.a208) rfl rfl rfl ?_)
  unfold R.a208
  have hc:cmpN (vl 1000000000 a) (vl 1000000000 b)<0:=by unfold cmpN;rw[if_pos hlt];omega
  repeat' (with_reducible first|simp(disch:=first|exact okD|fail) only[go_sem,seval,cmp,hc]|(apply Spl.i<;>intro hc))
  refine⟨.nils,va,[],a,rfl,Sq.nil,ha,Dg.nil,da,by simp[Norm],na,?_,?_⟩
  ·rw[Nat.div_eq_of_lt hlt];rfl
  ·rw[Nat.mod_eq_of_lt hlt]
 ·have hc :¬cmpN (vl 1000000000 a) (vl 1000000000 b)<0:=by unfold cmpN;rw[if_neg hlt];split<;>omega
  have lb:=hb.rd.len
  by_cases h1:b.length=1
  ·obtain⟨x,rfl⟩:∃x,b=[x]:=by
    match b,h1 with
    |[x],_=>exact⟨x,rfl⟩
   have e:vl 1000000000 [x]=x:=by simp[vl]
   rw[e]at hbp⊢
   have lb':lenK .slice vb=some (.int .i64 1):=lb
   have rb:=hb.rd
   have adb:=rb.adr
   have ldb:=rb.load 0 (by simp)
   simp only[List.getD_cons_zero,Nat.add_zero]at ldb
   have e00:(0:Int).toNat=0:=rfl
   refine Gp.of (CallWp.fn (fn:=R.a208) rfl rfl rfl ?_)
   unfold R.a208
   repeat' (with_reducible first|simp(disch:=first|exact okD|fail) only[go_sem,seval,cmp,hc,lb',adb,ldb,e00]|(apply Spl.i<;>intro hc))
   refine Gp.wp (d270 ha da db.head hbp (by omega)) fun v1 k1 a1 b1 u1 ⟨vq,lq,e1,S1,dlq,nlq,vlq⟩=>?_
   subst e1
   repeat' (with_reducible first|simp(disch:=first|exact okD|fail) only[go_sem,seval]|(apply Spl.i<;>intro hc))
   have hrl:=Nat.mod_lt (vl 1000000000 a) hbp
   have A2:AtS ((h.ov k1 u1).push fun s=> .row [.int .i64 ((vl 1000000000 a%x:Nat):Int)] true s) (h.ov k1 u1).next ([vl 1000000000 a%x].map (wd .i64)):=AtS.push
   have S2:=A2.sq (n:=1) rfl
   have S1':=S1.grs (Grs.push (Grs.refl (h.ov k1 u1)) (f:=fun s=> .row [.int .i64 ((vl 1000000000 a%x:Nat):Int)] true s))
   simp only[Hp.next_push,Hp.next_put,Hp.ov_next,Hp.clk_push,Hp.clk_put,Hp.ov_clk]at S2
   have hx:=db.head
   refine Gp.wp (dg271 S2 (by simp)) fun v2 k2 a2 b2 u2 S3=>?_
   repeat' (with_reducible first|simp(disch:=first|exact okD|fail) only[go_sem,seval]|(apply Spl.i<;>intro hc))
   refine⟨⟨vq,v2,_,_,rfl,S1'.grs ⟨_,_,u2⟩,S3,dlq,(Dg.cons (by omega) Dg.nil).trim,nlq,norm_trim _,vlq,by rw[vl_trim];simp[vl]⟩,?_⟩
   exact okG
  ·have hl2:2≤b.length:=by
    have:b.length≠0:=by simpa using hb0
    omega
   have hla2:b.length≤a.length:=by
    rcases Nat.lt_or_ge a.length b.length with c|c
    ·have:=longer (B:=1000000000) (by decide) da nb c;omega
    ·exact c
   have h1':¬(b.length:Int)=1:=by omega
   have rb:=hb.rd
   have adb:=rb.adr
   have ldb:=rb.load (b.length-1) (by omega)
   have i1:((b.length:Int)-1).toNat=b.length-1:=by omega
   have hxd:=Dg.getD (B:=1000000000) (by decide) db (b.length-1)
   obtain⟨f,hf⟩:∃f,f=1000000000/(b.getD (b.length-1) 0+1):=⟨_,rfl⟩
   obtain⟨m1,m2,m3,m4,m5⟩:=norm_fac db nb hb0 hf
   have ef:(1000000000:Int)/((b.getD (b.length-1) 0:Nat)+1)=(f:Nat):=by rw[hf];rfl
   have ev:vl 1000000000 [f]=f:=by simp[vl]
   have la:=ha.rd.len
   refine Gp.of (CallWp.fn (fn:=R.a208) rfl rfl rfl ?_)
   refine Wp.cut 9 rfl ?_
   have tail:=fun(tm:T AV) (hp:Hp) (v L0:List Nat) (wv v8:AV) (T0 tq:Nat) h8 h9 h10 h11 h12 hG hv hS8 dv h2 hva hv1 n1 n2 n3 n4 n5 hT hTq hA hL dL hq hvb hab htop=>dd_main (h:=h) (hp:=hp) (tm:=tm) (wv:=wv) (v8:=v8) (a:=a) (v:=v) (L0:=L0) (T0:=T0) (tq:=tq) (f:=f) (b:=vl 1000000000 b) h8 h9 h10 h11 h12 hG hv hS8 dv h2 hva (by omega) hv1 n1 n2 n3 n4 n5 hT hTq hA hL dL hq m2 m3 hbp hvb hab htop
   generalize ACode.post 9 R.a208.code=r at tail⊢
   unfold R.a208
   dsimp only[ACode.pre]
   generalize b.getD (b.length-1) 0=x at *
   repeat' (with_reducible first|simp(disch:=first|exact okD|fail) only[go_sem,seval,cmp,hc,lb,h1',i1,adb,ldb,ef,b_quoP]|(apply Spl.i<;>intro hc))
   have G8:Grs h (h.push fun s=> .row [.int .i64 (f:Int)] true s):=Grs.push (Grs.refl h)
   have A8:AtS (h.push fun s=> .row [.int .i64 (f:Int)] true s) h.next ([f].map (wd .i64)):=AtS.push
   have S8:=A8.sq (n:=1) rfl
   refine Gp.wp (d253 (hb.grs G8) S8 db (Dg.cons m3 Dg.nil) (by omega) (by simp)) fun v9 kk k1 j1 u1 ⟨l9,S9,D9,N9,V9⟩=>?_
   rw[ev]at V9
   have ln9:=S9.rd.len
   have hl9:l9.length=b.length:=by
    refine Nat.le_antisymm (few9 (B:=1000000000) (by decide) N9 (by rw[V9];exact m4)) ?_
    rcases Nat.lt_or_ge l9.length b.length with c|c
    ·have g1:=vl_lt (B:=1000000000) (by decide) D9
     have g2:=Nat.pow_le_pow_right (n:=1000000000) (by decide) (show l9.length≤b.length-1 by omega)
     rw[V9]at g1
     have g3:vl 1000000000 b*1≤vl 1000000000 b*f:=Nat.mul_le_mul_left _ m2
     omega
    ·exact c
   have t9:=S9.rd.tok (by omega)
   have S8':=S8.grs ⟨_,_,u1⟩
   obtain⟨H1,hH1⟩:∃H1,H1=(h.push fun s=> .row [.int .i64 (f:Int)] true s).ov kk u1:=⟨_,rfl⟩
   have Gx:Grs (h.push fun s=> .row [.int .i64 (f:Int)] true s) H1:=by rw[hH1];exact(Grs.refl _).ov
   have G1:Grs h H1:=G8.trans Gx
   have hn1:h.next<H1.next:=Nat.lt_of_lt_of_le (Nat.lt_succ_self _) Gx.next
   repeat' (with_reducible first|simp(disch:=first|exact okD|fail) only[go_sem,seval,ln9]|(apply Spl.i<;>intro hc))
   rw[←hH1]at S9 t9⊢
   have S8'':Sq .i64 H1 (.sl h.next 0 1 1) [f]:=by rw[hH1];exact S8'
   have Gp2:Grs H1 (H1.push fun s=> .row [] true s):=Grs.push (Grs.refl _)
   refine Gp.wp (d253 ((ha.grs G1).grs Gp2) (S8''.grs Gp2) da (Dg.cons m3 Dg.nil) (by omega) (by simp)) fun v11 kk2 k2 j2 u2 ⟨l11,S11,D11,N11,V11⟩=>?_
   rw[ev]at V11
   have hap:0<vl 1000000000 a:=by omega
   have hne11:l11≠[]:=by
    rintro rfl
    rw[vl_nil]at V11
    have:=Nat.mul_pos hap m2
    omega
   have hl11:l11.length≤a.length+1:=few9 (B:=1000000000) (by decide) N11 (by
    rw[V11,Nat.pow_succ]
    have g1:=vl_lt (B:=1000000000) (by decide) da
    exact Nat.mul_lt_mul_of_lt_of_lt g1 m3)
   obtain⟨H2,hH2⟩:∃H2,H2=(H1.push fun s=> .row [] true s).ov kk2 u2:=⟨_,rfl⟩
   have G2:Grs H1 H2:=by rw[hH2];exact(Grs.push (Grs.refl _)).ov
   have hg2:H2.get H1.next=some (.row [] true (H1.clk+1)):=by
    rw[hH2,Hp.ov_get (Nat.lt_succ_self _)];exact Hp.push_same
   have hn2:H1.next<H2.next:=by
    have Gy:Grs (H1.push fun s=> .row [] true s) H2:=by rw[hH2];exact(Grs.refl _).ov
    exact Nat.lt_of_lt_of_le (Nat.lt_succ_self _) Gy.next
   rw[←hH2]at S11⊢
   have hnx1:h.next+1+k1=H1.next:=by rw[hH1];exact(u1.next).symm
   rw[hnx1]
   have eap:=app_sq S11 hne11 hg2 (by omega)
   repeat' (with_reducible first|simp(disch:=first|exact okD|fail) only[go_sem,seval,w_app,eap]|(apply Spl.i<;>intro hc))
   have G3:Grs H1 ((H2.put H1.next fun s=> .dead s).push fun s=> .row (l11.map (wd .i64)) true s):=Grs.push (Grs.put G2 (Nat.le_refl _))
   refine Wp.loopI (fun m s'=>∃(z:Nat) (v:AV),val s'.tm (.t 0)=va∧val s'.tm (.t 8)= .sl h.next 0 1 1∧val s'.tm (.t 9)=v9∧val s'.tm (.t 10)= .int .i64 l9.length∧val s'.tm (.t 11)=v∧
    Grs H1 s'.hp∧OwnZ 1 H1 s'.hp v (l11.length+z) ((l11++List.replicate z 0).map (wd .i64))∧l11.length+z≤a.length+1∧a.length+1-(l11.length+z)=m) (n:=a.length+1-l11.length) ?_ ?_
   ·refine⟨0,.sl H2.next 0 l11.length 1,by simp(disch:=first|exact okD|fail) only[go_sem,seval],by simp(disch:=first|exact okD|fail) only[go_sem,seval],by simp(disch:=first|exact okD|fail) only[go_sem,seval],by simp(disch:=first|exact okD|fail) only[go_sem,seval],by simp(disch:=first|exact okD|fail) only[go_sem,seval],G3,⟨by simp,.inr ⟨_,_,rfl,?_,?_,?_,Nat.le_refl _⟩⟩,by omega,rfl⟩
    ·simp only[List.replicate_zero,List.append_nil];exact Hp.push_same
    ·show H1.next≤H2.next;omega
    ·exact Nat.lt_succ_self _
   ·rintro m ⟨tm,hp⟩ ⟨z,v,h0,h8,h9,h10,h11,hG,hO,hz,rfl⟩
    simp only at h0 h8 h9 h10 h11 hG hO
    have lnv:=(hO.sq (by simp)).rd.len
    have hlen:(l11++List.replicate z 0).length=l11.length+z:=by simp
    rw[hlen]at lnv
    by_cases hc1:l11.length+z<a.length+1
    ·have hc1':((l11.length+z:Nat):Int)<(a.length:Int)+1:=by omega
     repeat' (with_reducible first|simp(disch:=first|exact okD|fail) only[go_sem,seval,h0,h8,h9,h10,h11,lnv,la,hc1',w_app]|(apply Spl.i<;>intro hc))
     refine OwnZ.wp (h0:=H1) (b:=8) rfl hG hO rfl (by decide) (by omega) (by omega) fun v' h' G' O'=>?_
     repeat' (with_reducible first|simp(disch:=first|exact okD|fail) only[go_sem,seval,h0,h8,h9,h10,h11]|(apply Spl.i<;>intro hc))
     have e:(l11++List.replicate (z+1) 0).map (wd .i64)=(l11++List.replicate z 0).map (wd .i64)++[.int .i64 0]:=by
      rw[List.replicate_succ',←List.append_assoc,List.map_append];rfl
     refine⟨a.length+1-(l11.length+(z+1)),by omega,z+1,G',?_,by omega,rfl⟩
     rw[e];exact O'
    ·have hzz:l11.length+z=a.length+1:=by omega
     rw[hzz]at hO hlen
     obtain⟨_,⟨_,e0⟩|⟨T0,st0,ev0,hg0,hT0,hTn,hst⟩⟩:=hO
     ·omega
     subst ev0
     have hc2:¬((a.length+1:Nat):Int)<(a.length:Int)+1:=by omega
     have w1:((a.length+1:Nat):Int)-l9.length=((a.length+1-l9.length:Nat):Int):=by omega
     have mk:=fun{h:Hp} {K:AV→Hp→Prop}=>MksK.int (h:=h) (K:=K) (b:=8) (z:= .int .i64 0) (n:=a.length+1-l9.length) rfl (by omega)
     repeat' (with_reducible first|simp(disch:=first|exact okD|fail) only[go_sem,seval,h0,h8,h9,h10,h11,la,hc2,w1,mk]|(apply Spl.i<;>intro hc))
     have hzr:(List.replicate (a.length+1-l9.length) (AV.int .i64 0))=(List.replicate (a.length+1-l9.length) 0).map (wd .i64):=by rw[List.map_replicate];rfl
     rw[hzr]
     obtain⟨L0,hL0⟩:∃L0,L0=l11++List.replicate z 0:=⟨_,rfl⟩
     rw[←hL0]at hg0 hlen
     have vL0:vl 1000000000 L0=vl 1000000000 a*f:=by rw[hL0,vl_append,vl_zeros,Nat.mul_zero,Nat.add_zero,V11]
     have dL0:Dg 1000000000 L0:=by rw[hL0];exact D11.append (Dg.zeros (by decide) _)
     have Gq:Grs hp (hp.push fun s=> .row ((List.replicate (a.length+1-l9.length) 0).map (wd .i64)) true s):=Grs.push (Grs.refl _)
     have hn0:=hG.next
     have htop9:l9.getD (l9.length-1) 0≠0:=by
      obtain⟨m,y,rfl⟩:=snoc_of (l:=l9) (by rintro rfl;simp at hl9;omega)
      have:=norm_snoc.1 N9
      simpa[List.getD]using this
     have A0:AtS hp T0 (L0.map (wd .i64)):=⟨st0,hg0,hst,hTn⟩
     refine tail _ _ l9 L0 v9 (.sl h.next 0 1 1) T0 hp.next (by simp(disch:=first|exact okD|fail) only[go_sem,seval,h8]) (by simp(disch:=first|exact okD|fail) only[go_sem,seval,h9]) (by simp(disch:=first|exact okD|fail) only[go_sem,seval,h10]) (by simp(disch:=first|exact okD|fail) only[go_sem,seval,h11]) (by simp(disch:=first|exact okD|fail) only[go_sem,seval]) ((G1.trans hG).trans Gq) ((S9.grs hG).grs Gq) ((S8''.grs hG).grs Gq) D9 (by omega) (by omega) htop9 (by omega) (by omega) ?_ ?_ (by omega) (by omega) (by omega) (A0.grs Gq) (by omega) dL0 AtS.push V9 vL0 ?_
     ·show h.next≠T0;omega
     ·show h.next≠hp.next;omega
     ·rw[hl9,V9]
      exact top_fac da hlen vL0 (by omega) hla2 m2 (Nat.mul_le_mul_right _ m5)
end
end
end Go.Ae
set_option linter.unusedVariables false
set_option linter.unusedSimpArgs false
set_option maxRecDepth 100000
set_option maxHeartbeats 1000000
namespace Go.Ae
open Bg
noncomputable section
def IsR (h:Hp) (v:AV) (z:Int):Prop:=∃w l,v= .agg [.bool (decide (z<0)),w]∧Sq .i64 h w l∧Dg 1000000000 l∧Norm l∧vl 1000000000 l=z.natAbs
def Lr (n:Nat) (z:Int):Prop:=z.natAbs<1000000000^n
section
variable {h h':Hp} {K:AV→Hp→Prop} {v va vb w:AV} {x y z:Int} {n m:Nat}
theorem IsR.grs (i:IsR h v z) (g:Grs h h'):IsR h' v z:=by
 obtain⟨w,l,e,s,r⟩:=i
 exact⟨w,l,e,s.grs g,r⟩
theorem Sq.one {l:List Nat} (s:Sq .i64 h w l):w.one=true:=by
 rcases s with⟨rfl,_⟩|⟨t,o,own,st,L,rfl,_⟩<;>rfl
theorem Sq.cells {l:List Nat} (s:Sq .i64 h w l):w.cells=[w]:=by
 rcases s with⟨rfl,_⟩|⟨t,o,own,st,L,rfl,_⟩<;>rfl
theorem fillB {b:Bool} (hc:w.cells=[w]) (ho:w.one=true):fillA [.bool false,.nils] [(0,1,.bool b),(1,1,w)]=some [.bool b,w]:=by
 have e1:(AV.bool b).cells=[.bool b]:=rfl
 rw[fillA_cons (by rw[e1];exact⟨rfl,by simp,rfl⟩),fillA_cons (by rw[hc];exact⟨rfl,by rw[e1];simp[splice],by simp only[List.all_cons,List.all_nil,ho,Bool.and_self]⟩),fillA_nil,e1,hc]
 rfl
theorem Lr.len {l:List Nat} (hz:Lr n z) (hn:Norm l) (h:vl 1000000000 l=z.natAbs):l.length≤n:=few9 (B:=1000000000) (by decide) hn (by rw[h];exact hz)
theorem Lr.mono (hx:Lr n x) (h:n≤m):Lr m x:=Nat.lt_of_lt_of_le hx (Nat.pow_le_pow_right (by decide) h)
theorem Lr.le {x y:Int} (h:Lr n x) (hl:y.natAbs≤x.natAbs):Lr n y:=Nat.lt_of_le_of_lt hl h
theorem Lr.neg (hx:Lr n x):Lr n (-x):=by unfold Lr;rwa[Int.natAbs_neg]
theorem Lr.add (hx:Lr n x) (hy:Lr n y):Lr (n+1) (x+y):=by
 unfold Lr at *
 rw[Nat.pow_succ]
 have:(x+y).natAbs≤x.natAbs+y.natAbs:=Int.natAbs_add_le x y
 omega
theorem Lr.mul (hx:Lr n x) (hy:Lr m y):Lr (n+m) (x*y):=by
 unfold Lr at *
 rw[Nat.pow_add,Int.natAbs_mul]
 rcases Nat.eq_zero_or_pos y.natAbs with h|h
 ·rw[h,Nat.mul_zero];exact Nat.mul_pos (Nat.pow_pos (by decide)) (Nat.pow_pos (by decide))
 ·exact Nat.mul_lt_mul_of_lt_of_lt hx hy
theorem d249 {neg:Bool} {l:List Nat} (hs:Sq .i64 h w l) (hd:Dg 1000000000 l) (hl:l.length≤3000000):Gp E3 249 [.bool neg,w] h fun v h'=>IsR h' v (sgn neg (vl 1000000000 l)):=by
 refine Gp.of (CallWp.fn (fn:=R.a249) rfl rfl rfl ?_)
 unfold R.a249
 repeat' (with_reducible first|simp(disch:=first|exact okD|fail) only[go_sem,seval]|(apply Spl.i<;>intro hc))
 refine Gp.wp (dg271 (hs.grs okG) (by omega)) fun v1 k1 a1 b1 u1 S1=>?_
 have hn:=norm_trim l
 have hv:vl 1000000000 (trimL l)=vl 1000000000 l:=vl_trim l
 have dt:Dg 1000000000 (trimL l):=hd.trim
 rw[←hv]
 generalize trimL l=l1 at *
 have ln:=S1.rd.len
 have o1:=S1.one
 have S1':Sq .i64 (((h.push fun st=> .row [.bool false,.nils] true st).ov k1 u1).put h.next fun st=> .row [.bool (decide (sgn neg (vl 1000000000 l1)<0)),v1] true st) v1 l1:=by
  rcases S1 with⟨rfl,rfl⟩|⟨t,o,own,st,L,rfl,hg,r1,r2,r3,r4⟩
  ·exact Sq.nil
  ·refine .inr ⟨t,o,own,st,L,rfl,?_,r1,r2,r3,Nat.le_succ_of_le r4⟩
   by_cases ht:t=h.next
   ·subst ht
    exfalso
    have e:((h.push fun st=> .row [.bool false,.nils] true st).ov k1 u1).get h.next=some (.row [.bool false,.nils] true (h.clk+1)):=by
     rw[Hp.ov_get (Nat.lt_succ_self _)];exact Hp.push_same
    rw[e]at hg
    cases L with
    |nil=>simp at hg
    |cons c L=>simp[wd]at hg
   ·exact(Hp.put_other ht).trans hg
 have oc:=S1.cells
 cases neg with
 | false=>
  have hz:decide (sgn false (vl 1000000000 l1)<0)=false:=decide_eq_false (by unfold sgn;simp)
  rw[hz]at S1'
  repeat' (with_reducible first|simp(disch:=first|exact okD|fail) only[go_sem,seval,ln,fillB (b:=false) oc o1,Option.map_some,o1]|(apply Spl.i<;>intro hc))
  refine⟨⟨v1,l1,by rw[hz],S1',dt,hn,by unfold sgn;simp⟩,?_⟩
  exact okG
 | true=>
  by_cases h0:l1=[]
  ·subst h0
   have hz:decide (sgn true (vl 1000000000 [])<0)=false:=decide_eq_false (by unfold sgn;simp[vl])
   rw[hz]at S1'
   simp only[List.length_nil]at ln
   repeat' (with_reducible first|simp(disch:=first|exact okD|fail) only[go_sem,seval,ln,fillB (b:=false) oc o1,Option.map_some,o1]|(apply Spl.i<;>intro hc))
   refine⟨⟨v1,[],by rw[hz],S1',dt,hn,by unfold sgn;simp[vl]⟩,?_⟩
   exact okG
  ·have hp:=norm_pos (B:=1000000000) (by decide) hn h0
   have hz:decide (sgn true (vl 1000000000 l1)<0)=true:=decide_eq_true (by unfold sgn;simp;omega)
   rw[hz]at S1'
   have hl1:(0:Int)<l1.length:=by
    have:l1.length≠0:=by simpa using h0
    omega
   repeat' (with_reducible first|simp(disch:=first|exact okD|fail) only[go_sem,seval,ln,hl1,fillB (b:=true) oc o1,Option.map_some,o1]|(apply Spl.i<;>intro hc))
   refine⟨⟨v1,l1,by rw[hz],S1',dt,hn,by unfold sgn;simp⟩,?_⟩
   exact okG
end
end
end Go.Ae
set_option linter.unusedVariables false
set_option linter.unusedSimpArgs false
set_option maxRecDepth 100000
set_option maxHeartbeats 1000000
namespace Go.Ae
open Bg
noncomputable section
def isCellB:Option AObj→Bool
 |some (.row (.bool _::_) _ _)=>true
 |_=>false
section
variable {h h':Hp} {K:AV→Hp→Prop} {v va vb w:AV} {x y z:Int} {n m:Nat}
theorem isCellB_row {b:Bool} {cs:List AV} {own:Bool} {st:Nat}:isCellB (some (.row (.bool b::cs) own st))=true:=rfl
theorem isCellB_ex {p:Nat} (hc:isCellB (h.get p)=true):∃b cs own st,h.get p=some (.row (.bool b::cs) own st):=by
 cases hq:h.get p with
 |none=>rw[hq]at hc;cases hc
 | some o=>
  rw[hq]at hc
  match o,hc with
  | .row (.bool b::cs) own st,_=>exact⟨b,cs,own,st,rfl⟩
theorem Sq.putB {p:Nat} {l:List Nat} {f:Nat→AObj} (i:Sq .i64 h v l) (hc:isCellB (h.get p)=true):Sq .i64 (h.put p f) v l:=by
 obtain⟨n,cs,own,st,hq⟩:=isCellB_ex hc
 rcases i with i|⟨t,o,own',st',L,e,hg,r1,r2,r3,r4⟩
 ·exact .inl i
 ·refine .inr ⟨t,o,own',st',L,e,(Hp.put_other ?_).trans hg,r1,r2,r3,Nat.le_succ_of_le r4⟩
  rintro rfl
  rw[hq]at hg
  cases L with
  |nil=>simp at hg
  |cons a L=>simp[wd]at hg
theorem IsR.putB {p:Nat} {f:Nat→AObj} (i:IsR h v z) (hc:isCellB (h.get p)=true):IsR (h.put p f) v z:=by
 obtain⟨w,l,e,s,r⟩:=i
 exact⟨w,l,e,s.putB hc,r⟩
theorem IsR.ex (i:IsR h v z):∃w,v= .agg [.bool (decide (z<0)),w]∧w.one=true∧IsR h (.agg [.bool (decide (z<0)),w]) z:=by
 obtain⟨w,l,rfl,s,r⟩:=i
 exact⟨w,rfl,s.one,w,l,rfl,s,r⟩
theorem IsR.un (i:IsR h (.agg [.bool (decide (z<0)),w]) z):∃l,Sq .i64 h w l∧Dg 1000000000 l∧Norm l∧vl 1000000000 l=z.natAbs:=by
 obtain⟨w',l,e,r⟩:=i
 injection e with e
 injection e with _ e
 injection e with e _
 subst e
 exact⟨l,r⟩
theorem d248 (ia:IsR h va x) (lx:Lr 900000 x):Gp E3 248 [va] h fun v h'=>IsR h' v (-x):=by
 obtain⟨w,rfl,o1,i⟩:=ia.ex
 obtain⟨l,S,D,N,V⟩:=i.un
 have hl:=lx.len N V
 refine Gp.of (CallWp.fn (fn:=R.a248) rfl rfl rfl ?_)
 unfold R.a248
 have e:sgn (!decide (x<0)) (vl 1000000000 l)= -x:=by
  rw[V];unfold sgn
  by_cases h0:x<0
  ·rw[decide_eq_true h0];simp;omega
  ·rw[decide_eq_false h0];simp;omega
 repeat' (with_reducible first|simp(disch:=first|exact okD|fail) only[go_sem,seval,o1]|(apply Spl.i<;>intro hc))
 refine Gp.wp (d249 (S.grs okG) D (by omega)) fun v1 k1 a1 b1 u1 I1=>?_
 have hb:(decide (¬x<0))= !decide (x<0):=by by_cases h0:x<0<;>simp[h0]
 rw[hb,e]at I1
 obtain⟨w1,rfl,p1,I1⟩:=I1.ex
 repeat' (with_reducible first|simp(disch:=first|exact okD|fail) only[go_sem,seval,p1]|(apply Spl.i<;>intro hc))
 refine⟨I1.putB (by simp(disch:=first|exact okD|fail) only[go_sem,seval,isCellB_row]),?_⟩
 exact okG
theorem d171 (ia:IsR h va x) (ib:IsR h vb y) (lx:Lr 400000 x) (ly:Lr 400000 y):Gp E3 171 [va,vb] h fun v h'=>IsR h' v (x*y):=by
 obtain⟨w1,rfl,o1,i1⟩:=ia.ex
 obtain⟨w2,rfl,o2,i2⟩:=ib.ex
 obtain⟨l1,S1,D1,N1,V1⟩:=i1.un
 obtain⟨l2,S2,D2,N2,V2⟩:=i2.un
 have hl1:=lx.len N1 V1
 have hl2:=ly.len N2 V2
 refine Gp.of (CallWp.fn (fn:=R.a171) rfl rfl rfl ?_)
 unfold R.a171
 repeat' (with_reducible first|simp(disch:=first|exact okD|fail) only[go_sem,seval,o1,o2]|(apply Spl.i<;>intro hc))
 refine Gp.wp (d253 (S1.grs okG) (S2.grs okG) D1 D2 (by omega) (by omega)) fun v3 k3 a3 b3 u3 ⟨l3,S3,D3,N3,V3⟩=>?_
 have e3:sgn (decide (¬decide (x<0)=decide (y<0))) (vl 1000000000 l3)=x*y:=sgn_mul (by rw[V3,V1,V2])
 have hl3:=(lx.mul ly).len N3 (by rw[V3,V1,V2,Int.natAbs_mul])
 repeat' (with_reducible first|simp(disch:=first|exact okD|fail) only[go_sem,seval,o1,o2]|(apply Spl.i<;>intro hc))
 refine Gp.wp (d249 S3 D3 (by omega)) fun v4 k4 a4 b4 u4 I4=>?_
 rw[e3]at I4
 obtain⟨w4,rfl,p4,I4⟩:=I4.ex
 repeat' (with_reducible first|simp(disch:=first|exact okD|fail) only[go_sem,seval,p4]|(apply Spl.i<;>intro hc))
 refine⟨I4.putB (by simp(disch:=first|exact okD|fail) only[go_sem,seval,isCellB_row]),?_⟩
 exact okG
theorem d170 (ia:IsR h va x) (ib:IsR h vb y) (lx:Lr 400000 x) (ly:Lr 400000 y):Gp E3 170 [va,vb] h fun v h'=>IsR h' v (x+y):=by
 obtain⟨w1,rfl,o1,i1⟩:=ia.ex
 obtain⟨w2,rfl,o2,i2⟩:=ib.ex
 obtain⟨l1,S1,D1,N1,V1⟩:=i1.un
 obtain⟨l2,S2,D2,N2,V2⟩:=i2.un
 have hl1:=lx.len N1 V1
 have hl2:=ly.len N2 V2
 refine Gp.of (CallWp.fn (fn:=R.a170) rfl rfl rfl ?_)
 unfold R.a170
 by_cases hc:decide (x<0)=decide (y<0)
 ·repeat' (with_reducible first|simp(disch:=first|exact okD|fail) only[go_sem,seval,o1,o2,hc]|(apply Spl.i<;>intro hc))
  refine Gp.wp (d250 (S1.grs okG) (S2.grs okG) D1 D2 (by omega) (by omega)) fun v3 k3 a3 b3 u3 ⟨l3,S3,D3,hl3,V3⟩=>?_
  have e3:sgn (decide (x<0)) (vl 1000000000 l3)=x+y:=sgn_add (by omega) hc
  rw[hc]at e3
  repeat' (with_reducible first|simp(disch:=first|exact okD|fail) only[go_sem,seval,o1,o2]|(apply Spl.i<;>intro hc))
  refine Gp.wp (d249 S3 D3 (by omega)) fun v4 k4 a4 b4 u4 I4=>?_
  rw[e3]at I4
  obtain⟨w4,rfl,p4,I4⟩:=I4.ex
  repeat' (with_reducible first|simp(disch:=first|exact okD|fail) only[go_sem,seval,p4]|(apply Spl.i<;>intro hc))
  refine⟨I4.putB (by simp(disch:=first|exact okD|fail) only[go_sem,seval,isCellB_row]),?_⟩
  exact okG
 ·have cmp:=fun(h':Hp) (g:Grs h h') {K:AV→Hp→Prop}=>d251 (K:=K) (S1.grs g) (S2.grs g) D1 D2 N1 N2 (by omega) (by omega)
  have G:Grs h (((h.push fun st=> .row [.bool (decide (x<0)),w1] true st).push fun st=> .row [.bool (decide (y<0)),w2] true st).push fun st=> .row [.bool false,.nils] true st):=(Grs.refl h).push.push.push
  by_cases hle:vl 1000000000 l2≤vl 1000000000 l1
  ·have hle':(0:Int)≤cmpN (vl 1000000000 l1) (vl 1000000000 l2):=cmp_ge.2 hle
   repeat' (with_reducible first|simp(disch:=first|exact okD|fail) only[go_sem,seval,o1,o2,hc,cmp _ G,hle']|(apply Spl.i<;>intro hc))
   refine Gp.wp (d252 (S1.grs G) (S2.grs G) D1 D2 (by omega) ?_ hle) fun v3 k3 a3 b3 u3 ⟨l3,S3,D3,N3,V3⟩=>?_
   ·rcases Nat.lt_or_ge l1.length l2.length with c|c
    ·have:=longer (B:=1000000000) (by decide) D1 N2 c;omega
    ·exact c
   have e3:sgn (decide (x<0)) (vl 1000000000 l3)=x+y:=sgn_sub (by omega) (by omega) hc
   have hl3:=(lx.add ly).len N3 (by rw[←e3];unfold sgn;split<;>omega)
   repeat' (with_reducible first|simp(disch:=first|exact okD|fail) only[go_sem,seval,o1,o2]|(apply Spl.i<;>intro hc))
   refine Gp.wp (d249 S3 D3 (by omega)) fun v4 k4 a4 b4 u4 I4=>?_
   rw[e3]at I4
   obtain⟨w4,rfl,p4,I4⟩:=I4.ex
   repeat' (with_reducible first|simp(disch:=first|exact okD|fail) only[go_sem,seval,p4]|(apply Spl.i<;>intro hc))
   refine⟨I4.putB (by simp(disch:=first|exact okD|fail) only[go_sem,seval,isCellB_row]),?_⟩
   exact okG
  ·have hle':¬(0:Int)≤cmpN (vl 1000000000 l1) (vl 1000000000 l2):=fun e=>hle (cmp_ge.1 e)
   repeat' (with_reducible first|simp(disch:=first|exact okD|fail) only[go_sem,seval,o1,o2,hc,cmp _ G,hle']|(apply Spl.i<;>intro hc))
   refine Gp.wp (d252 (S2.grs G) (S1.grs G) D2 D1 (by omega) ?_ (by omega)) fun v3 k3 a3 b3 u3 ⟨l3,S3,D3,N3,V3⟩=>?_
   ·rcases Nat.lt_or_ge l2.length l1.length with c|c
    ·have:=longer (B:=1000000000) (by decide) D2 N1 c;omega
    ·exact c
   have e3:sgn (decide (y<0)) (vl 1000000000 l3)=x+y:=by
    rw[Int.add_comm];exact sgn_sub (by omega) (by omega) (fun e=>hc e.symm)
   have hl3:=(lx.add ly).len N3 (by rw[←e3];unfold sgn;split<;>omega)
   repeat' (with_reducible first|simp(disch:=first|exact okD|fail) only[go_sem,seval,o1,o2]|(apply Spl.i<;>intro hc))
   refine Gp.wp (d249 S3 D3 (by omega)) fun v4 k4 a4 b4 u4 I4=>?_
   rw[e3]at I4
   obtain⟨w4,rfl,p4,I4⟩:=I4.ex
   repeat' (with_reducible first|simp(disch:=first|exact okD|fail) only[go_sem,seval,p4]|(apply Spl.i<;>intro hc))
   refine⟨I4.putB (by simp(disch:=first|exact okD|fail) only[go_sem,seval,isCellB_row]),?_⟩
   exact okG
theorem d125 {a b:List Nat} (ha:Sq .i64 h va a) (hb:Sq .i64 h vb b) (da:Dg 1000000000 a) (db:Dg 1000000000 b) (na:Norm a) (nb:Norm b) (hla:a.length≤900000) (hlb:b.length≤900000):
  Gp E3 125 [va,vb] h fun v h'=>∃l,Sq .i64 h' v l∧Dg 1000000000 l∧Norm l∧vl 1000000000 l=Nat.gcd (vl 1000000000 a) (vl 1000000000 b):=by
 refine Gp.of (CallWp.fn (fn:=R.a125) rfl rfl rfl ?_)
 unfold R.a125
 repeat' (with_reducible first|simp(disch:=first|exact okD|fail) only[go_sem,seval]|(apply Spl.i<;>intro hc))
 refine Wp.loopI (fun m s=>∃(v1 v2:AV) (l1 l2:List Nat),val s.tm (.t 0)=v1∧val s.tm (.t 1)=v2∧Grs h s.hp∧Sq .i64 s.hp v1 l1∧Sq .i64 s.hp v2 l2∧Dg 1000000000 l1∧Dg 1000000000 l2∧Norm l1∧Norm l2∧l1.length≤900000∧l2.length≤900000∧
  Nat.gcd (vl 1000000000 l1) (vl 1000000000 l2)=Nat.gcd (vl 1000000000 a) (vl 1000000000 b)∧vl 1000000000 l2=m) (n:=vl 1000000000 b) ?_ ?_
 ·exact⟨va,vb,a,b,by simp(disch:=first|exact okD|fail) only[go_sem,seval],by simp(disch:=first|exact okD|fail) only[go_sem,seval],Grs.refl _,ha,hb,da,db,na,nb,hla,hlb,rfl,rfl⟩
 ·rintro m ⟨tm,hp⟩ ⟨v1,v2,l1,l2,h0,h1,hG,S1,S2,D1,D2,N1,N2,hl1,hl2,hgc,rfl⟩
  simp only at h0 h1 hG S1 S2
  have ln:=S2.rd.len
  by_cases hz:l2=[]
  ·subst hz
   simp only[List.length_nil]at ln
   repeat' (with_reducible first|simp(disch:=first|exact okD|fail) only[go_sem,seval,h0,h1,ln]|(apply Spl.i<;>intro hc))
   refine⟨⟨l1,S1,D1,N1,?_⟩,hG⟩
   rw[←hgc,vl_nil,Nat.gcd_zero_right]
  ·have hp':(0:Int)<l2.length:=by
    have:l2.length≠0:=by simpa using hz
    omega
   repeat' (with_reducible first|simp(disch:=first|exact okD|fail) only[go_sem,seval,h0,h1,ln,hp']|(apply Spl.i<;>intro hc))
   refine Gp.wp (d208 S1 S2 D1 D2 N1 N2 hl1 hl2 hz) fun v3 k3 a3 b3 u3 ⟨vq,vr,lq,lr,e3,Sq',Sr,Dq,Dr,Nq,Nr,Vq,Vr⟩=>?_
   subst e3
   repeat' (with_reducible first|simp(disch:=first|exact okD|fail) only[go_sem,seval,h0,h1]|(apply Spl.i<;>intro hc))
   have hpos:=norm_pos (B:=1000000000) (by decide) N2 hz
   have hrl:=Nat.mod_lt (vl 1000000000 l1) hpos
   refine⟨vl 1000000000 lr,by rw[Vr];exact hrl,v2,vr,l2,lr,rfl,rfl,hG.ov,S2.grs ⟨_,_,u3⟩,Sr,D2,Dr,N2,Nr,hl2,?_,?_,rfl⟩
   ·refine Nat.le_trans (few9 (B:=1000000000) (by decide) Nr ?_) hl2
    rw[Vr]
    exact Nat.lt_trans hrl (vl_lt (by decide) D2)
   ·rw[Vr,←hgc,Nat.gcd_comm (vl 1000000000 l2),←Nat.gcd_rec,Nat.gcd_comm]
end
end
end Go.Ae
set_option linter.unusedVariables false
set_option linter.unusedSimpArgs false
set_option maxRecDepth 100000
namespace Go.Ae
open N Go.Proofs
structure Tk where
 d:List UInt8
 n:Int
 p:Bool
 t:Int
 z:Int
abbrev tkL (d:List UInt8) (n:Int) (p:Bool) (t z:Int):List AV:=[.str d,.int .i64 n,.bool p,.int .i64 t,.int .i64 z]
def Tk.l (k:Tk):List AV:=tkL k.d k.n k.p k.t k.z
theorem Tk.l_len (k:Tk):k.l.length=5:=rfl
abbrev leadW:List UInt8:=[108,101,97,100]
abbrev boulW:List UInt8:=[98,111,117,108,100,101,114]
def leadE (n:Int) (p:Bool) (t z:Int):Int:=if n<0∨64<n∨t<0∨1<t∨z≠0 then 3 else if t=1∧(p=true∨n≠0)then 1 else 0
def boulE (n:Int) (p:Bool) (t z:Int):Int:=if n≠0∨t<0∨99<t∨z<0∨99<z then 3 else if p=true∨(0<t∧(z=0∨t<z))then 1 else 0
def chkE (d:List UInt8) (n:Int) (p:Bool) (t z:Int):Int:=if d=leadW then leadE n p t z else if d=boulW then boulE n p t z else 13
def leadS (n:Int) (p:Bool) (t:Int):List UInt8:=if t=1 then[84,79,80]else if p=true then decP n.toNat 1++[43]else decP n.toNat 1
def attS (c:UInt8) (n:Int):List UInt8:=if n=0 then[45]else c::decP n.toNat 1
def boulS (t z:Int):List UInt8:=attS 84 t++[32]++attS 90 z
def txtS (d:List UInt8) (n:Int) (p:Bool) (t z:Int):List UInt8:=if d=leadW then leadS n p t else boulS t z
section
variable {h:Hp} {K:AV→Hp→Prop}
theorem c131b {b:Bool} {e:Int}:CallWp E2 131 [.bool b,.int .i64 e] h K↔K (.int .i64 (if b=true then e else 0)) h:=by
 refine CallWp.iff_of (CallWp.fn (fn:=C.a131) rfl rfl rfl ?_)
 unfold C.a131
 cases b
 ·repeat' (with_reducible first|simp(disch:=first|exact okD|fail) only[go_sem,seval]|(apply Spl.i<;>intro hc))
 ·repeat' (with_reducible first|simp(disch:=first|exact okD|fail) only[go_sem,seval]|(apply Spl.i<;>intro hc))
theorem c131 {p:Prop} {_:Decidable p} {e:Int}:CallWp E2 131 [.bool (decide p),.int .i64 e] h K↔K (.int .i64 (if p then e else 0)) h:=by
 rw[c131b]
 by_cases hp:p
 ·rw[decide_eq_true hp,if_pos hp,if_pos rfl]
 ·rw[decide_eq_false hp,if_neg hp,if_neg (by decide)]
theorem c131t {e:Int}:CallWp E2 131 [.bool true,.int .i64 e] h K↔K (.int .i64 e) h:=c131b
theorem c131f {e:Int}:CallWp E2 131 [.bool false,.int .i64 e] h K↔K (.int .i64 0) h:=c131b
def first2 (a b:Int):Int:=if a=0 then b else a
theorem c130_2 {t st:Nat} {own:Bool} {a b:Int} (hg:h.get t=some (.row [.int .i64 a,.int .i64 b] own st)) (ht:t<h.next):Gv E2 130 [.sl t 0 2 1] h (.int .i64 (first2 a b)):=by
 refine Gv.of (CallWp.fn (fn:=C.a130) rfl rfl rfl ?_)
 unfold C.a130
 by_cases ha:a=0
 ·by_cases hb:b=0
  ·repeat' (with_reducible first|simp(disch:=first|exact okD|fail) only[go_sem,seval,Wp.unroll,hg,ha,hb]|(apply Spl.i<;>intro hc))
   simp[first2]
  ·repeat' (with_reducible first|simp(disch:=first|exact okD|fail) only[go_sem,seval,Wp.unroll,hg,ha,hb]|(apply Spl.i<;>intro hc))
   simp[first2]
 ·repeat' (with_reducible first|simp(disch:=first|exact okD|fail) only[go_sem,seval,Wp.unroll,hg,ha]|(apply Spl.i<;>intro hc))
  simp[first2,ha]
end
end Go.Ae
set_option linter.unusedVariables false
set_option linter.unusedSimpArgs false
set_option maxRecDepth 100000
namespace Go.Ae
open N Go.Proofs
structure Grew (h h':Hp):Prop where
 next:h.next≤h'.next
 get:∀t,t<h.next→h'.get t=h.get t
theorem Grew.refl (h:Hp):Grew h h:=⟨Nat.le_refl _,fun _ _=>rfl⟩
theorem Grew.trans {a b c:Hp} (x:Grew a b) (y:Grew b c):Grew a c:=⟨Nat.le_trans x.1 y.1,fun t ht=>(y.2 t (Nat.lt_of_lt_of_le ht x.1)).trans (x.2 t ht)⟩
theorem Grew.push (h:Hp) (f:Nat→AObj):Grew h (h.push f):=⟨Nat.le_succ _,fun t ht=>Hp.push_other (by omega)⟩
theorem Grew.put {h0 h:Hp} (g:Grew h0 h) {t:Nat} (f:Nat→AObj) (ht:h0.next≤t):Grew h0 (h.put t f):=⟨g.1,fun u hu=>(Hp.put_other (by omega)).trans (g.2 u hu)⟩
def Own (h0 h:Hp) (v:AV) (cs:List AV):Prop:=
 (v= .nils∧cs=[])∨∃t st,v= .sl t 0 cs.length 1∧h.get t=some (.row cs true st)∧h0.next≤t∧t<h.next
theorem Own.nil (h0 h:Hp):Own h0 h .nils []:= .inl ⟨rfl,rfl⟩
theorem Own.append {h0 h:Hp} {v x:AV} {cs:List AV} {by_:Nat} (G:Grew h0 h) (O:Own h0 h v cs) (hl:(cs.length+1)*by_≤140737488355328) (hl2:cs.length+1≤140737488355328):
  ∃v' h',appA (h.push fun st=> .row [x] true st) 1 by_ v (.sl h.next 0 1 1)=some (v',h')∧Grew h0 h'∧Own h0 h' v' (cs++[x]):=by
 have hc:cellsOf (h.push fun st=> .row [x] true st) 1 (.sl h.next 0 1 1)=some [x]:=by
  simp only[cellsOf,Hp.push_same]
  rw[if_pos ⟨trivial,by simp⟩];rfl
 rcases O with⟨rfl,rfl⟩|⟨t,st,rfl,hg,h1,h2⟩
 ·refine⟨.sl (h.next+1) 0 1 1,(h.push fun st=> .row [x] true st).push fun st=> .row [x] true st,?_,(G.trans (Grew.push h _)).trans (Grew.push _ _),.inr ⟨h.next+1,(h.push fun st=> .row [x] true st).clk+1,rfl,Hp.push_same,?_,?_⟩⟩
  ·unfold appA
   rw[hc]
   simp only[lenA]
   rw[if_pos ⟨by simpa using hl,by omega,by decide⟩]
   rfl
  ·have:=G.1;omega
  ·show h.next+1<h.next+1+1;omega
 ·have hgt:(h.push fun st=> .row [x] true st).get t=some (.row cs true st):=(Hp.push_other (by omega)).trans hg
  refine⟨.sl (h.next+1) 0 (cs.length+1) 1,((h.push fun st=> .row [x] true st).put t fun s=> .dead s).push fun st=> .row (cs++[x]) true st,?_,((G.trans (Grew.push h _)).put _ h1).trans (Grew.push _ _),.inr ⟨h.next+1,((h.push fun st=> .row [x] true st).put t fun s=> .dead s).clk+1,by simp,Hp.push_same,?_,?_⟩⟩
  ·unfold appA
   rw[hc]
   simp only[lenA]
   rw[hgt]
   simp only
   rw[if_pos ⟨trivial,by simp,by simpa using hl,by simpa using hl2⟩]
   simp[Hp.push_next]
  ·have:=G.1;omega
  ·show h.next+1<h.next+1+1;omega
def Bs1 (v:AV) (h:Hp) (K:AV→Hp→Prop):Prop:=v.cells.length=1∧v.cells.all AV.one=true∧K (.sl h.next 0 1 1) (h.push fun st=> .row v.cells true st)
section
variable {E:Env} {s:St} {h:Hp} {K:AV→Hp→Prop}
theorem Bs1.str {l:List UInt8}:Bs1 (.str l) h K↔K (.sl h.next 0 1 1) (h.push fun st=> .row [.str l] true st):=by simp[Bs1,AV.cells,AV.one]
theorem Bs1.int {k:IntKind} {n:Int}:Bs1 (.int k n) h K↔K (.sl h.next 0 1 1) (h.push fun st=> .row [.int k n] true st):=by simp[Bs1,AV.cells,AV.one]
end
section
variable {h:Hp} {K:AV→Hp→Prop}
end
end Go.Ae
