/- The reference's sums and products of numbers, as texts. -/
import Derived.Test.YtdaggbpeoldmeaaGreatDoorM7
import Derived.Test.YtdaggbpeoldmeaaGreatDoorM6
import Derived.Test.YtdaggbpeoldmeaaGreatDoorM5
set_option linter.unusedVariables false
set_option linter.unusedSimpArgs false
set_option maxRecDepth 100000
set_option maxHeartbeats 2000000
namespace Go.Ae
open Bg N Go.Proofs
noncomputable section
def Br (n:Nat) (r:Rat):Prop:=Lr n r.num∧Lr n (r.den:Int)
section
variable {n m:Nat} {a b:Rat}
theorem Br.mono (i:Br n a) (hn:n≤m):Br m a:=⟨i.1.mono hn,i.2.mono hn⟩
theorem Br.of {p q:Int} (hq:q≠0) (hp:Lr n p) (hl:Lr n q):Br n (Rat.divInt p q):=by
 obtain⟨h1,h2⟩:=divInt_le (p:=p) hq
 exact⟨hp.le h1,hl.le (by rw[Int.natAbs_natCast];exact h2)⟩
theorem Br.mul (i:Br n a) (j:Br m b):Br (n+m) (a*b):=by
 have h1:=den_pos a
 have h2:=den_pos b
 rw[rmul]
 exact Br.of (Int.mul_ne_zero (by omega) (by omega)) (i.1.mul j.1) (i.2.mul j.2)
theorem Br.add (i:Br n a) (j:Br m b):Br (n+m+1) (a+b):=by
 have h1:=den_pos a
 have h2:=den_pos b
 rw[radd]
 exact Br.of (Int.mul_ne_zero (by omega) (by omega)) ((i.1.mul j.2).add ((j.1.mul i.2).mono (by omega))) ((i.2.mul j.2).mono (by omega))
theorem Br.neg (i:Br n a):Br n (-a):=⟨i.1.neg,i.2⟩
theorem Br.sub (i:Br n a) (j:Br m b):Br (n+m+1) (a-b):=by rw[Rat.sub_eq_add_neg];exact i.add j.neg
theorem Br.inv (i:Br n a) (h0:a≠0):Br n a⁻¹:=by
 rw[Rat.inv_def]
 exact Br.of (by rw[ne_eq,Rat.num_eq_zero];exact h0) i.2 i.1
end
section
variable {h h' hp:Hp} {K:AV→Hp→Prop} {tm:T AV} {r a b:Rat}
theorem prod_small {x y:Int} (hx:x.natAbs<1000000000) (hy:y.natAbs<1000000000): -1000000000000000000≤x*y∧x*y≤1000000000000000000:=by
 have h:=Int.natAbs_mul x y
 have:x.natAbs*y.natAbs≤1000000000*1000000000:=Nat.mul_le_mul (by omega) (by omega)
 omega
theorem ra_slow (i:Br 2000 a) (j:Br 2000 b) (h0:val tm (.t 0)= .str (txtR a)) (h1:val tm (.t 1)= .str (txtR b)):
  Wp E3 (R.a72.code.post 4) ⟨tm,h⟩ (RetQ [.tmp 4] fun v h'=>v= .str (txtR (a+b))∧Grs h h'):=by
 have hd1:=den_pos a
 have hd2:=den_pos b
 unfold R.a72
 dsimp only[ACode.post]
 repeat' (with_reducible first|simp(disch:=first|exact okD|fail) only[go_sem,seval,h0,h1]|(apply Spl.i<;>intro hc))
 refine Gp.wp (d124 (i.1.mono (by decide)) (i.2.mono (by decide))) fun v5 k5 a5 b5 u5 ⟨va,vb,e5,I5,I6⟩=>?_
 subst e5
 obtain⟨w5,rfl,p5,I5⟩:=I5.ex
 obtain⟨w6,rfl,p6,I6⟩:=I6.ex
 repeat' (with_reducible first|simp(disch:=first|exact okD|fail) only[go_sem,seval,h0,h1,p5,p6]|(apply Spl.i<;>intro hc))
 refine Gp.wp (d124 (j.1.mono (by decide)) (j.2.mono (by decide))) fun v7 k7 a7 b7 u7 ⟨va,vb,e7,I7,I8⟩=>?_
 subst e7
 obtain⟨w7,rfl,p7,I7⟩:=I7.ex
 obtain⟨w8,rfl,p8,I8⟩:=I8.ex
 repeat' (with_reducible first|simp(disch:=first|exact okD|fail) only[go_sem,seval,h0,h1,p5,p6,p7,p8]|(apply Spl.i<;>intro hc))
 refine Gp.wp (d171 (I5.grs okG) (I8.grs okG) (i.1.mono (by decide)) (j.2.mono (by decide))) fun v9 k9 a9 b9 u9 I9=>?_
 obtain⟨w9,rfl,p9,I9⟩:=I9.ex
 repeat' (with_reducible first|simp(disch:=first|exact okD|fail) only[go_sem,seval,h0,h1,p5,p6,p7,p8,p9]|(apply Spl.i<;>intro hc))
 refine Gp.wp (d171 (I7.grs okG) (I6.grs okG) (j.1.mono (by decide)) (i.2.mono (by decide))) fun v10 k10 a10 b10 u10 I10=>?_
 obtain⟨w10,rfl,p10,I10⟩:=I10.ex
 repeat' (with_reducible first|simp(disch:=first|exact okD|fail) only[go_sem,seval,h0,h1,p5,p6,p7,p8,p9,p10]|(apply Spl.i<;>intro hc))
 refine Gp.wp (d170 (I9.grs okG) I10 ((i.1.mul j.2).mono (by decide)) ((j.1.mul i.2).mono (by decide))) fun v11 k11 a11 b11 u11 I11=>?_
 obtain⟨w11,rfl,p11,I11⟩:=I11.ex
 repeat' (with_reducible first|simp(disch:=first|exact okD|fail) only[go_sem,seval,h0,h1,p5,p6,p7,p8,p9,p10,p11]|(apply Spl.i<;>intro hc))
 refine Gp.wp (d171 (I6.grs okG) (I8.grs okG) (i.2.mono (by decide)) (j.2.mono (by decide))) fun v12 k12 a12 b12 u12 I12=>?_
 obtain⟨w12,rfl,p12,I12⟩:=I12.ex
 repeat' (with_reducible first|simp(disch:=first|exact okD|fail) only[go_sem,seval,h0,h1,p5,p6,p7,p8,p9,p10,p11,p12]|(apply Spl.i<;>intro hc))
 refine Gv.wp (d169 (I11.grs okG) I12 (((i.1.mul j.2).add (j.1.mul i.2)).mono (by decide)) ((i.2.mul j.2).mono (by decide)) (Int.mul_ne_zero (by omega) (by omega))) fun h13 k13 j13 u13=>?_
 repeat' (with_reducible first|simp(disch:=first|exact okD|fail) only[go_sem,seval]|(apply Spl.i<;>intro hc))
 refine⟨by rw[radd],?_⟩
 exact okG
theorem d72 (i:Br 2000 a) (j:Br 2000 b):Gv E3 72 [.str (txtR a),.str (txtR b)] h (.str (txtR (a+b))):=by
 refine Gv.of (CallWp.fn (fn:=R.a72) rfl rfl rfl ?_)
 have hd1:=den_pos a
 have hd2:=den_pos b
 have slow:=fun tm h0 h1=>ra_slow (h:=h) (tm:=tm) i j h0 h1
 have cq1:=fun{h:Hp} {K:AV→Hp→Prop}=>u168 (h:=h) (K:=K) (r:=a) (i.1.mono (by decide)) (i.2.mono (by decide))
 have cq2:=fun{h:Hp} {K:AV→Hp→Prop}=>u168 (h:=h) (K:=K) (r:=b) (j.1.mono (by decide)) (j.2.mono (by decide))
 refine Wp.cut 4 rfl ?_
 generalize ACode.post 4 R.a72.code=q at slow⊢
 unfold R.a72
 dsimp only[ACode.pre]
 by_cases s1:a.num.natAbs<1000000000∧a.den<1000000000
 ·rw[quick_yes s1]at cq1
  by_cases s2:b.num.natAbs<1000000000∧b.den<1000000000
  ·rw[quick_yes s2]at cq2
   have m1:=prod_small (x:=a.num) (y:=(b.den:Int)) s1.1 (by omega)
   have m2:=prod_small (x:=b.num) (y:=(a.den:Int)) s2.1 (by omega)
   have m3:=prod_small (x:=(a.den:Int)) (y:=(b.den:Int)) (by omega) (by omega)
   have m0:0<a.den*b.den:=Nat.mul_pos hd1 hd2
   have er:=radd a b
   rw[←Int.natCast_mul]at m3 er
   have w1:IntKind.wrap .i64 (a.num*(b.den:Int))=a.num*b.den:=wrap_i64 (by omega)
   have w2:IntKind.wrap .i64 (b.num*(a.den:Int))=b.num*a.den:=wrap_i64 (by omega)
   have w3:IntKind.wrap .i64 ((a.den:Int)*(b.den:Int))=((a.den*b.den:Nat):Int):=by rw[←Int.natCast_mul];exact wrap_i64 (by omega)
   have w4:IntKind.wrap .i64 (a.num*(b.den:Int)+b.num*(a.den:Int))=a.num*b.den+b.num*a.den:=wrap_i64 (by omega)
   have e3:=d99 (h:=h) (x:=a.num*b.den+b.num*a.den) (y:=a.den*b.den) (by omega) m0 (by omega)
   rw[←er]at e3
   repeat' (with_reducible first|simp(disch:=first|exact okD|fail) only[go_sem,seval,cq1,cq2,w1,w2,w3,w4]|(refine Gv.wp (e3) fun _ _ _ _=>?_)|(apply Spl.i<;>intro hc))
   exact okG
  ·rw[quick_no s2]at cq2
   repeat' (with_reducible first|simp(disch:=first|exact okD|fail) only[go_sem,seval,cq1,cq2]|(apply Spl.i<;>intro hc))
   exact slow _ (by simp(disch:=first|exact okD|fail) only[go_sem,seval]) (by simp(disch:=first|exact okD|fail) only[go_sem,seval])
 ·rw[quick_no s1]at cq1
  by_cases s2:b.num.natAbs<1000000000∧b.den<1000000000
  ·rw[quick_yes s2]at cq2
   repeat' (with_reducible first|simp(disch:=first|exact okD|fail) only[go_sem,seval,cq1,cq2]|(apply Spl.i<;>intro hc))
   exact slow _ (by simp(disch:=first|exact okD|fail) only[go_sem,seval]) (by simp(disch:=first|exact okD|fail) only[go_sem,seval])
  ·rw[quick_no s2]at cq2
   repeat' (with_reducible first|simp(disch:=first|exact okD|fail) only[go_sem,seval,cq1,cq2]|(apply Spl.i<;>intro hc))
   exact slow _ (by simp(disch:=first|exact okD|fail) only[go_sem,seval]) (by simp(disch:=first|exact okD|fail) only[go_sem,seval])
theorem d73 (i:Br 2000 a) (j:Br 2000 b):Gv E3 73 [.str (txtR a),.str (txtR b)] h (.str (txtR (a-b))):=by
 refine Gv.of (CallWp.fn (fn:=R.a73) rfl rfl rfl ?_)
 unfold R.a73
 rw[Rat.sub_eq_add_neg]
 repeat' (with_reducible first|simp(disch:=first|exact okD|fail) only[go_sem,seval]|(apply Spl.i<;>intro hc))
 refine Gv.wp (d172 (j.1.mono (by decide)) (j.2.mono (by decide))) fun h1 k1 j1 u1=>?_
 repeat' (with_reducible first|simp(disch:=first|exact okD|fail) only[go_sem,seval]|(apply Spl.i<;>intro hc))
 refine Gv.wp (d72 i j.neg) fun h2 k2 j2 u2=>?_
 repeat' (with_reducible first|simp(disch:=first|exact okD|fail) only[go_sem,seval]|(apply Spl.i<;>intro hc))
 exact okG
theorem rm_slow (i:Br 2000 a) (j:Br 2000 b) (h0:val tm (.t 0)= .str (txtR a)) (h1:val tm (.t 1)= .str (txtR b)):
  Wp E3 (R.a74.code.post 4) ⟨tm,h⟩ (RetQ [.tmp 4] fun v h'=>v= .str (txtR (a*b))∧Grs h h'):=by
 have hd1:=den_pos a
 have hd2:=den_pos b
 unfold R.a74
 dsimp only[ACode.post]
 repeat' (with_reducible first|simp(disch:=first|exact okD|fail) only[go_sem,seval,h0,h1]|(apply Spl.i<;>intro hc))
 refine Gp.wp (d124 (i.1.mono (by decide)) (i.2.mono (by decide))) fun v5 k5 a5 b5 u5 ⟨va,vb,e5,I5,I6⟩=>?_
 subst e5
 obtain⟨w5,rfl,p5,I5⟩:=I5.ex
 obtain⟨w6,rfl,p6,I6⟩:=I6.ex
 repeat' (with_reducible first|simp(disch:=first|exact okD|fail) only[go_sem,seval,h0,h1,p5,p6]|(apply Spl.i<;>intro hc))
 refine Gp.wp (d124 (j.1.mono (by decide)) (j.2.mono (by decide))) fun v7 k7 a7 b7 u7 ⟨va,vb,e7,I7,I8⟩=>?_
 subst e7
 obtain⟨w7,rfl,p7,I7⟩:=I7.ex
 obtain⟨w8,rfl,p8,I8⟩:=I8.ex
 repeat' (with_reducible first|simp(disch:=first|exact okD|fail) only[go_sem,seval,h0,h1,p5,p6,p7,p8]|(apply Spl.i<;>intro hc))
 refine Gp.wp (d171 (I5.grs okG) (I7.grs okG) (i.1.mono (by decide)) (j.1.mono (by decide))) fun v9 k9 a9 b9 u9 I9=>?_
 obtain⟨w9,rfl,p9,I9⟩:=I9.ex
 repeat' (with_reducible first|simp(disch:=first|exact okD|fail) only[go_sem,seval,h0,h1,p5,p6,p7,p8,p9]|(apply Spl.i<;>intro hc))
 refine Gp.wp (d171 (I6.grs okG) (I8.grs okG) (i.2.mono (by decide)) (j.2.mono (by decide))) fun v12 k12 a12 b12 u12 I12=>?_
 obtain⟨w12,rfl,p12,I12⟩:=I12.ex
 repeat' (with_reducible first|simp(disch:=first|exact okD|fail) only[go_sem,seval,h0,h1,p5,p6,p7,p8,p9,p12]|(apply Spl.i<;>intro hc))
 refine Gv.wp (d169 (I9.grs okG) I12 ((i.1.mul j.1).mono (by decide)) ((i.2.mul j.2).mono (by decide)) (Int.mul_ne_zero (by omega) (by omega))) fun h13 k13 j13 u13=>?_
 repeat' (with_reducible first|simp(disch:=first|exact okD|fail) only[go_sem,seval]|(apply Spl.i<;>intro hc))
 refine⟨by rw[rmul],?_⟩
 exact okG
theorem d74 (i:Br 2000 a) (j:Br 2000 b):Gv E3 74 [.str (txtR a),.str (txtR b)] h (.str (txtR (a*b))):=by
 refine Gv.of (CallWp.fn (fn:=R.a74) rfl rfl rfl ?_)
 have hd1:=den_pos a
 have hd2:=den_pos b
 have slow:=fun tm h0 h1=>rm_slow (h:=h) (tm:=tm) i j h0 h1
 have cq1:=fun{h:Hp} {K:AV→Hp→Prop}=>u168 (h:=h) (K:=K) (r:=a) (i.1.mono (by decide)) (i.2.mono (by decide))
 have cq2:=fun{h:Hp} {K:AV→Hp→Prop}=>u168 (h:=h) (K:=K) (r:=b) (j.1.mono (by decide)) (j.2.mono (by decide))
 refine Wp.cut 4 rfl ?_
 generalize ACode.post 4 R.a74.code=q at slow⊢
 unfold R.a74
 dsimp only[ACode.pre]
 by_cases s1:a.num.natAbs<1000000000∧a.den<1000000000
 ·rw[quick_yes s1]at cq1
  by_cases s2:b.num.natAbs<1000000000∧b.den<1000000000
  ·rw[quick_yes s2]at cq2
   have m1:=prod_small (x:=a.num) (y:=b.num) s1.1 s2.1
   have m3:=prod_small (x:=(a.den:Int)) (y:=(b.den:Int)) (by omega) (by omega)
   have m0:0<a.den*b.den:=Nat.mul_pos hd1 hd2
   have er:=rmul a b
   rw[←Int.natCast_mul]at m3 er
   have w1:IntKind.wrap .i64 (a.num*b.num)=a.num*b.num:=wrap_i64 (by omega)
   have w3:IntKind.wrap .i64 ((a.den:Int)*(b.den:Int))=((a.den*b.den:Nat):Int):=by rw[←Int.natCast_mul];exact wrap_i64 (by omega)
   have e3:=d99 (h:=h) (x:=a.num*b.num) (y:=a.den*b.den) (by omega) m0 (by omega)
   rw[←er]at e3
   repeat' (with_reducible first|simp(disch:=first|exact okD|fail) only[go_sem,seval,cq1,cq2,w1,w3]|(refine Gv.wp (e3) fun _ _ _ _=>?_)|(apply Spl.i<;>intro hc))
   exact okG
  ·rw[quick_no s2]at cq2
   repeat' (with_reducible first|simp(disch:=first|exact okD|fail) only[go_sem,seval,cq1,cq2]|(apply Spl.i<;>intro hc))
   exact slow _ (by simp(disch:=first|exact okD|fail) only[go_sem,seval]) (by simp(disch:=first|exact okD|fail) only[go_sem,seval])
 ·rw[quick_no s1]at cq1
  by_cases s2:b.num.natAbs<1000000000∧b.den<1000000000
  ·rw[quick_yes s2]at cq2
   repeat' (with_reducible first|simp(disch:=first|exact okD|fail) only[go_sem,seval,cq1,cq2]|(apply Spl.i<;>intro hc))
   exact slow _ (by simp(disch:=first|exact okD|fail) only[go_sem,seval]) (by simp(disch:=first|exact okD|fail) only[go_sem,seval])
  ·rw[quick_no s2]at cq2
   repeat' (with_reducible first|simp(disch:=first|exact okD|fail) only[go_sem,seval,cq1,cq2]|(apply Spl.i<;>intro hc))
   exact slow _ (by simp(disch:=first|exact okD|fail) only[go_sem,seval]) (by simp(disch:=first|exact okD|fail) only[go_sem,seval])
theorem d76 (i:Br 2000 a) (j:Br 2000 b) (h0:b≠0):Gv E3 76 [.str (txtR a),.str (txtR b)] h (.str (txtR (a/b))):=by
 refine Gv.of (CallWp.fn (fn:=R.a76) rfl rfl rfl ?_)
 unfold R.a76
 rw[Rat.div_def]
 repeat' (with_reducible first|simp(disch:=first|exact okD|fail) only[go_sem,seval]|(apply Spl.i<;>intro hc))
 refine Gv.wp (d173 (j.1.mono (by decide)) (j.2.mono (by decide)) h0) fun h1 k1 j1 u1=>?_
 repeat' (with_reducible first|simp(disch:=first|exact okD|fail) only[go_sem,seval]|(apply Spl.i<;>intro hc))
 refine Gv.wp (d74 i (j.inv h0)) fun h2 k2 j2 u2=>?_
 repeat' (with_reducible first|simp(disch:=first|exact okD|fail) only[go_sem,seval]|(apply Spl.i<;>intro hc))
 exact okG
def sgR (r:Rat):Int:=if r.num<0 then -1 else if r.num=0 then 0 else 1
theorem d75 (i:Br 2000 a) (j:Br 2000 b):Gv E3 75 [.str (txtR a),.str (txtR b)] h (.int .i64 (sgR (a-b))):=by
 refine Gv.of (CallWp.fn (fn:=R.a75) rfl rfl rfl ?_)
 unfold R.a75
 have hk:=(i.sub j)
 obtain⟨t1,t2⟩:=txtR_le hk.1 hk.2
 have cs:=fun{h:Hp} {K:AV→Hp→Prop}=>c21 (h:=h) (K:=K) (s:=txtR (a-b)) (by omega)
 have hs:sgnS (txtR (a-b))=sgR (a-b):=sgn_txtR _
 repeat' (with_reducible first|simp(disch:=first|exact okD|fail) only[go_sem,seval]|(apply Spl.i<;>intro hc))
 refine Gv.wp (d73 i j) fun h1 k1 j1 u1=>?_
 repeat' (with_reducible first|simp(disch:=first|exact okD|fail) only[go_sem,seval,cs,hs]|(apply Spl.i<;>intro hc))
 exact okG
end
end
end Go.Ae
set_option linter.unusedVariables false
set_option linter.unusedSimpArgs false
set_option maxRecDepth 100000
set_option exponentiation.threshold 1000
set_option maxHeartbeats 2000000
namespace Go.Ae
open Bg N Go.Proofs
noncomputable section
section
variable {h h' hp:Hp} {K:AV→Hp→Prop} {tm:T AV} {r a b:Rat}
theorem u151 {s:List UInt8} (hs:s.length≤1000000):CallWp E3 151 [.str s] h K↔K (.bool (allDig s)) h:=up ge3 fun K=>c151 hs
theorem isDec_of {s:List UInt8} (h0:s≠[]) (h1:s.length=1∨s.headD 0≠48):isDec s=allDig s:=by
 cases ha:allDig s with
 | true=>
  refine isDec_mk h0 ha ?_
  rcases h1 with h1|h1
  ·match s,h1 with
   | [c],_=>
    by_cases hc:c=48
    ·exact .inr (by rw[hc])
    ·exact .inl (by simpa using hc)
  ·exact .inl h1
 |false=>unfold isDec;rw[ha];simp
theorem isDec_no {s:List UInt8} (h1:1<s.length) (h2:s.headD 0=48):isDec s=false:=by
 cases hd:isDec s with
 |false=>rfl
 | true=>
  rcases(isDec_cases hd).2.2 with e|e
  ·exact absurd h2 e
  ·rw[e]at h1;exact absurd h1 (by decide)
theorem u123 {s:List UInt8} (hs:s.length≤1000000):CallWp E3 123 [.str s] h K↔K (.bool (isDec s)) h:=by
 refine CallWp.iff_of (CallWp.fn (fn:=R.a123) rfl rfl rfl ?_)
 unfold R.a123
 have cd:=fun{h:Hp} {K:AV→Hp→Prop}=>u151 (h:=h) (K:=K) hs
 by_cases h0:s=[]
 ·subst h0
  have e0:isDec []=false:=by decide
  rw[e0]
  repeat' (with_reducible first|simp(disch:=first|exact okD|fail) only[go_sem,seval,List.length_nil]|(apply Spl.i<;>intro hc))
 ·have hl:0<s.length:=List.length_pos_iff.2 h0
  have hl0:¬(s.length:Int)=0:=by omega
  have eh:s.getD 0 0=s.headD 0:=by cases s<;>rfl
  by_cases h1:1<s.length
  ·have h1':(1:Int)<s.length:=by omega
   have hl':(0:Int)<s.length:=by omega
   have e1:((s.getD 0 0).toNat:Int)=48↔s.getD 0 0=48:=u8_int (n:=48) (by decide)
   by_cases h2:s.getD 0 0=48
   ·have h2':=e1.2 h2
    rw[isDec_no h1 (by rw[←eh];exact h2)]
    repeat' (with_reducible first|simp(disch:=first|exact okD|fail) only[go_sem,seval,hl0,h1',hl',h2']|(apply Spl.i<;>intro hc))
   ·have h2':=fun e=>h2 (e1.1 e)
    rw[isDec_of h0 (.inr (by rw[←eh];exact h2))]
    repeat' (with_reducible first|simp(disch:=first|exact okD|fail) only[go_sem,seval,hl0,h1',hl',h2',cd]|(apply Spl.i<;>intro hc))
  ·have h1':¬(1:Int)<s.length:=by omega
   rw[isDec_of h0 (.inl (by omega))]
   repeat' (with_reducible first|simp(disch:=first|exact okD|fail) only[go_sem,seval,hl0,h1',cd]|(apply Spl.i<;>intro hc))
theorem d124g {x y:Int} (l1:Lr 9000 x) (l2:Lr 9000 y):Gp E3 124 [.str (txtZ x++47::txtZ y)] h fun v h'=>∃va vb,v= .tup [va,vb]∧IsR h' va x∧IsR h' vb y:=by
 refine Gp.of (CallWp.fn (fn:=R.a124) rfl rfl rfl ?_)
 unfold R.a124
 have t1:=txtZ_len l1
 have t2:=txtZ_len l2
 have hsl:slashV (txtZ x++47::txtZ y)=(txtZ x).length:=by
  refine slash_at (by simp) (fun j hj e=>?_) ?_
  ·refine txtZ_no x (getD_mem (i:=j) hj ?_)
   rw[←e]
   simp only[List.getD]
   rw[List.getElem?_append_left hj]
  ·simp[List.getD]
 have hlen:(txtZ x++47::txtZ y).length=(txtZ x).length+((txtZ y).length+1):=by simp
 have cs:=fun{h:Hp} {K:AV→Hp→Prop}=>c122 (h:=h) (K:=K) (s:=txtZ x++47::txtZ y) (by omega)
 have hne:¬((txtZ x).length:Int)=((txtZ x).length+((txtZ y).length+1):Nat):=by omega
 have k1:List.take (txtZ x).length (txtZ x++47::txtZ y)=txtZ x:=List.take_left
 have e1:(((txtZ x).length:Int)+1).toNat=(txtZ x).length+1:=by omega
 have k2:List.drop ((txtZ x).length+1) (txtZ x++47::txtZ y)=txtZ y:=by
  rw[←List.drop_drop,List.drop_left];rfl
 repeat' (with_reducible first|simp(disch:=first|exact okD|fail) only[go_sem,seval,cs,hsl,hne,k1,e1,k2]|(apply Spl.i<;>intro hc))
 refine Gp.wp (d207z l1 (by decide)) fun v5 k5 a5 b5 u5 I5=>?_
 obtain⟨w5,rfl,p5,I5⟩:=I5.ex
 repeat' (with_reducible first|simp(disch:=first|exact okD|fail) only[go_sem,seval,p5,k1,e1,k2]|(apply Spl.i<;>intro hc))
 refine Gp.wp (d207z l2 (by decide)) fun v6 k6 a6 b6 u6 I6=>?_
 obtain⟨w6,rfl,p6,I6⟩:=I6.ex
 have I5':=I5.grs (⟨_,_,u6⟩:Grs _ ((((h.push fun st=> .row [.bool false,.nils] true st).push fun st=> .row [.bool false,.nils] true st).ov k5 u5).ov k6 u6))
 repeat' (with_reducible first|simp(disch:=first|exact okD|fail) only[go_sem,seval,p5,p6]|(apply Spl.i<;>intro hc))
 refine⟨⟨_,_,rfl,?_,?_⟩,?_⟩
 ·exact(I5'.putB (by simp(disch:=first|exact okD|fail) only[go_sem,seval,isCellB_row])).putB (by simp(disch:=first|exact okD|fail) only[go_sem,seval,isCellB_row])
 ·exact(I6.putB (by simp(disch:=first|exact okD|fail) only[go_sem,seval,isCellB_row])).putB (by simp(disch:=first|exact okD|fail) only[go_sem,seval,isCellB_row])
 ·exact okG
theorem Lr_dec {l:List UInt8} (hd:isDec l=true) (hl:l.length≤600):Lr 67 (decV l:Nat):=by
 unfold Lr
 rw[Int.natAbs_natCast]
 have h1:=decV_lt (isDec_cases hd).2.1
 have h2:(10:Nat)^l.length≤10^603:=Nat.pow_le_pow_right (by decide) (by omega)
 have h3:(10:Nat)^603=1000000000^67:=by rw[show(1000000000:Nat)=10^9 from rfl,←Nat.pow_mul]
 omega
theorem num_len (s:List UInt8):(numU s).length=slashV (unS s):=by
 have:=slash_le (unS s)
 unfold numU;rw[List.length_take];omega
theorem den_len (s:List UInt8):(denU s).length=(unS s).length-(slashV (unS s)+1):=by
 unfold denU;rw[List.length_drop]
theorem chk_rest {N D t:List UInt8} {k:Nat} {bk:Bool} (h3:val tm (.t 3)= .str t) (h4:val tm (.t 4)= .int .i64 k) (hl:t.length≤1000000) (hk:k≤t.length) (nl:N.length=k) (dl:D.length=t.length-(k+1))
  (k2:List.drop (k+1) t=D) (ebrk:bk=decide (k<t.length)) (hsp:bk=true→t=N++47::D) (hdn:isDec N=true):
  Wp E3 (ACode.post 2 (ACode.post 3 R.a19.code)) ⟨tm,h⟩ (RetQ [.tmp 2] fun v h'=>(v= .int .i64 (if(true&&true&&(!bk||(isDec D&&decide (D≠[48])&&decide (D≠[49]))))=false then 1 else if 600<N.length∨600<D.length then 4 else if bk=true∧Nat.gcd (decV N) (decV D)≠1 then 1 else 0))∧Grs h h'):=by
 have e1:((k:Int)+1).toNat=k+1:=by omega
 have cd:=fun{h:Hp} {K:AV→Hp→Prop}=>u123 (h:=h) (K:=K) (s:=D) (by omega)
 subst ebrk
 unfold R.a19
 dsimp only[ACode.post]
 by_cases hb:k<t.length
 ·have hb' : (k :Int)<t.length:=by omega
  have hb1:(k:Int)+1≤t.length:=by omega
  rw[decide_eq_true hb]
  cases hdd:isDec D with
  | false=>
   rw[hdd]at cd
   repeat' (with_reducible first|simp(disch:=first|exact okD|fail) only[go_sem,seval,h3,h4,hb',hb1,e1,k2,cd]|(apply Spl.i<;>intro hc))
   simp
  | true=>
   rw[hdd]at cd
   by_cases g0:D=[48]
   ·rw[g0]at cd
    repeat' (with_reducible first|simp(disch:=first|exact okD|fail) only[go_sem,seval,h3,h4,hb',hb1,e1,k2,cd,g0]|(apply Spl.i<;>intro hc))
    simp
   ·by_cases g1:D=[49]
    ·have g1':¬([49]:List UInt8)=[48]:=by decide
     rw[g1]at g0 cd
     repeat' (with_reducible first|simp(disch:=first|exact okD|fail) only[go_sem,seval,h3,h4,hb',hb1,e1,k2,cd,g1,g0]|(apply Spl.i<;>intro hc))
     simp
    ·have ef :(true&&true&&(!true||(true&&decide (D≠[48])&&decide (D≠[49]))))=true:=by simp[g0,g1]
     rw[ef,if_neg (by decide)]
     by_cases hL:600<N.length∨600<D.length
     ·rw[if_pos hL]
      by_cases hLn:600<k
      ·have hLn':(600:Int)<k:=by omega
       repeat' (with_reducible first|simp(disch:=first|exact okD|fail) only[go_sem,seval,h3,h4,hb',hb1,e1,k2,cd,g0,g1,hLn']|(apply Spl.i<;>intro hc))
      ·have hLn':¬(600:Int)<k:=by omega
       have hLd':(600:Int)<(t.length:Int)-k-1:=by omega
       repeat' (with_reducible first|simp(disch:=first|exact okD|fail) only[go_sem,seval,h3,h4,hb',hb1,e1,k2,cd,g0,g1,hLn',hLd']|(apply Spl.i<;>intro hc))
     ·rw [if_neg hL]
      have hLn':¬(600:Int)<k:=by omega
      have hLd':¬(600:Int)<(t.length:Int)-k-1:=by omega
      have lN:=Lr_dec hdn (by omega)
      have lD:=Lr_dec hdd (by omega)
      have et:t=txtZ (decV N:Nat)++47::txtZ (decV D:Nat):=by
       rw[txtZ_nat,txtZ_nat,isDec_eq hdn,isDec_eq hdd]
       exact hsp (decide_eq_true hb)
      have cp:=fun h=>d124g (h:=h) (lN.mono (by decide:67≤9000)) (lD.mono (by decide:67≤9000))
      rw[←et]at cp
      repeat' (with_reducible first|simp(disch:=first|exact okD|fail) only[go_sem,seval,h3,h4,hb',hb1,e1,k2,cd,g0,g1,hLn',hLd']|(apply Spl.i<;>intro hc))
      refine Gp.wp (cp _) fun v5 k5 a5 b5 u5 ⟨va,vb,e5,I5,I6⟩=>?_
      subst e5
      obtain⟨w5,rfl,p5,I5⟩:=I5.ex
      obtain⟨w6,rfl,p6,I6⟩:=I6.ex
      obtain⟨l1,S1,D1,N1,V1⟩:=I5.un
      obtain⟨l2,S2,D2,N2,V2⟩:=I6.un
      have m1:=lN.len N1 V1
      have m2:=lD.len N2 V2
      repeat' (with_reducible first|simp(disch:=first|exact okD|fail) only[go_sem,seval,p5,p6]|(apply Spl.i<;>intro hc))
      refine Gp.wp (d125 (S1.grs okG) (S2.grs okG) D1 D2 N1 N2 (by omega) (by omega)) fun v7 k7 a7 b7 u7 ⟨l7,S7,D7,N7,V7⟩=>?_
      rw[V1,V2,Int.natAbs_natCast,Int.natAbs_natCast]at V7
      have r7:=S7.rd
      have ln7:=r7.len
      have ad7:=r7.adr
      have e00:(0:Int).toNat=0:=rfl
      by_cases hg:Nat.gcd (decV N) (decV D)=1
      ·have e7:l7=[1]:=norm_inj (B:=1000000000) (by decide) D7 (Dg.cons (by decide) Dg.nil) N7 (by simp[Norm]) (by rw[V7,hg];simp[vl])
       subst e7
       have ld7:=r7.load 0 (by simp)
       simp only[List.getD_cons_zero,Nat.add_zero]at ld7
       have e1':((1:Nat):Int)=1:=rfl
       simp only[List.length_cons,List.length_nil,Nat.zero_add]at ln7
       rw[e1']at ln7 ld7
       repeat' (with_reducible first|simp(disch:=first|exact okD|fail) only[go_sem,seval,ln7,ad7,e00,ld7,e1']|(apply Spl.i<;>intro hc))
       refine⟨by simp[hg],?_⟩
       exact okG
      ·by_cases hl7:l7.length=1
       ·obtain⟨d,rfl⟩:∃d,l7=[d]:=by
         match l7,hl7 with
         |[d],_=>exact⟨d,rfl⟩
        have ed:vl 1000000000 [d]=d:=by simp[vl]
        rw[ed]at V7
        have ld7:=r7.load 0 (by simp)
        simp only[List.getD_cons_zero,Nat.add_zero]at ld7
        have e1':((1:Nat):Int)=1:=rfl
        simp only[List.length_cons,List.length_nil,Nat.zero_add]at ln7
        rw[e1']at ln7
        have hd1:¬(d:Int)=1:=by omega
        repeat' (with_reducible first|simp(disch:=first|exact okD|fail) only[go_sem,seval,ln7,ad7,e00,ld7,hd1]|(apply Spl.i<;>intro hc))
        refine⟨by simp[hg],?_⟩
        exact okG
       ·have hl7':¬(l7.length:Int)=1:=by omega
        repeat' (with_reducible first|simp(disch:=first|exact okD|fail) only[go_sem,seval,ln7,hl7']|(apply Spl.i<;>intro hc))
        refine⟨by simp[hg],?_⟩
        exact okG
 ·have hb':¬(k:Int)<t.length:=by omega
  have hkt:k=t.length:=by omega
  rw[decide_eq_false hb]
  have ef:(true&&true&&(!false||(isDec D&&decide (D≠[48])&&decide (D≠[49]))))=true:=by simp
  rw[ef,if_neg (by decide)]
  by_cases hL:600<N.length∨600<D.length
  ·rw[if_pos hL]
   have hLn':(600:Int)<k:=by omega
   repeat' (with_reducible first|simp(disch:=first|exact okD|fail) only[go_sem,seval,h3,h4,hb',hLn']|(apply Spl.i<;>intro hc))
  ·rw[if_neg hL]
   have hLn':¬(600:Int)<k:=by omega
   have hLd':¬(600:Int)<(t.length:Int)-k-1:=by omega
   repeat' (with_reducible first|simp(disch:=first|exact okD|fail) only[go_sem,seval,h3,h4,hb',hLn',hLd']|(apply Spl.i<;>intro hc))
   simp
theorem chk_tail {s:List UInt8} (h0:val tm (.t 0)= .str s) (h3:val tm (.t 3)= .str (unS s)) (hl:(unS s).length≤1000000):
  Wp E3 (R.a19.code.post 3) ⟨tm,h⟩ (RetQ [.tmp 2] fun v h'=>v= .int .i64 (checkV s)∧Grs h h'):=by
 have hk:=slash_le (unS s)
 have nl:=num_len s
 have dl:=den_len s
 have cs:=fun{h:Hp} {K:AV→Hp→Prop}=>c122 (h:=h) (K:=K) (s:=unS s) (by omega)
 have cn:=fun{h:Hp} {K:AV→Hp→Prop}=>u123 (h:=h) (K:=K) (s:=numU s) (by omega)
 have cd:=fun{h:Hp} {K:AV→Hp→Prop}=>u123 (h:=h) (K:=K) (s:=denU s) (by omega)
 have e1:((slashV (unS s):Int)+1).toNat=slashV (unS s)+1:=by omega
 have k1:List.take (slashV (unS s)) (unS s)=numU s:=rfl
 have k2:List.drop (slashV (unS s)+1) (unS s)=denU s:=rfl
 have hkk:(slashV (unS s):Int)≤(unS s).length:=by omega
 have hsp:brk s=true→unS s=numU s++47::denU s:=fun c=>slash_split (by unfold brk at c;exact of_decide_eq_true c)
 have ebrk:brk s=decide (slashV (unS s)<(unS s).length):=rfl
 obtain⟨k,hkd⟩:∃k,k=slashV (unS s):=⟨_,rfl⟩
 obtain⟨t,ht⟩:∃t,t=unS s:=⟨_,rfl⟩
 obtain⟨N,hN⟩:∃N,N=numU s:=⟨_,rfl⟩
 obtain⟨D,hD⟩:∃D,D=denU s:=⟨_,rfl⟩
 have ecv:checkV s=if formS s=false then 1 else if 600<N.length∨600<D.length then 4 else if brk s=true∧Nat.gcd (decV N) (decV D)≠1 then 1 else 0:=by rw[hN,hD];rfl
 have efm:formS s=(isDec N&&(!(decide (s.head?=some 45))||decide (N≠[48]))&&(!(brk s)||(isDec D&&decide (D≠[48])&&decide (D≠[49])))):=by rw[hN,hD];rfl
 rw[←hkd]at cs e1 k1 k2 hkk nl dl hk ebrk
 rw[←ht]at cs k1 k2 hkk dl hk h3 hsp ebrk hl
 rw[←hN]at k1 cn nl hsp
 rw[←hD]at k2 cd dl hsp
 have rest:=fun tm h3 h4 hdn=>chk_rest (h:=h) (tm:=tm) (N:=N) (D:=D) (t:=t) (k:=k) (bk:=brk s) h3 h4 hl hk nl dl k2 ebrk hsp hdn
 refine Wp.cut 2 rfl ?_
 generalize ACode.post 2 (ACode.post 3 R.a19.code)=rc at rest⊢
 unfold R.a19
 dsimp only[ACode.post,ACode.pre]
 rw[ecv,efm]
 cases hdn:isDec N with
 | false=>
  rw[hdn]at cn
  repeat' (with_reducible first|simp(disch:=first|exact okD|fail) only[go_sem,seval,h0,h3,cs,cn,k1,hkk]|(apply Spl.i<;>intro hc))
  simp
 | true=>
  rw[hdn]at cn
  have hN0:=(isDec_cases hdn).1
  have hNl:0<N.length:=List.length_pos_iff.2 hN0
  have hs0:s≠[]:=by
   rintro rfl
   have:t=[]:=by rw[ht];rfl
   rw[this]at hk
   simp at hk;omega
  have hsl:(0:Int)<s.length:=by have:=List.length_pos_iff.2 hs0;omega
  have e45:((s.getD 0 0).toNat:Int)=45↔s.head?=some 45:=by
   refine(u8_int (b:=s.getD 0 0) (n:=45) (by decide)).trans ?_
   match s,hs0 with
   | c::l,_=>
    show c=45↔some c=some 45
    simp
  have first:(s.head?=some 45∧N=[48])∨¬(s.head?=some 45∧N=[48]):=Classical.em _
  rcases first with⟨f1,f2⟩|f
  ·have f1':=e45.2 f1
   rw[f2]at cn
   repeat' (with_reducible first|simp(disch:=first|exact okD|fail) only[go_sem,seval,h0,h3,cs,cn,k1,hkk,hsl,f1',f2]|(apply Spl.i<;>intro hc))
   simp[f1,f2]
  ·have en:(!(decide (s.head?=some 45))||decide (N≠[48]))=true:=by
    by_cases f1:s.head?=some 45
    ·have:N≠[48]:=fun e=>f ⟨f1,e⟩
     simp[this]
    ·simp[f1]
   rw[en]
   by_cases f1:s.head?=some 45
   ·have f1':=e45.2 f1
    have f2:¬N=[48]:=fun e=>f ⟨f1,e⟩
    repeat' (with_reducible first|simp(disch:=first|exact okD|fail) only[go_sem,seval,h0,h3,cs,cn,k1,hkk,hsl,f1',f2]|(apply Spl.i<;>intro hc))
    exact rest _ (by simp(disch:=first|exact okD|fail) only[go_sem,seval,h3]) (by simp(disch:=first|exact okD|fail) only[go_sem,seval]) hdn
   ·have f1':=fun e=>f1 (e45.1 e)
    repeat' (with_reducible first|simp(disch:=first|exact okD|fail) only[go_sem,seval,h0,h3,cs,cn,k1,hkk,hsl,f1']|(apply Spl.i<;>intro hc))
    exact rest _ (by simp(disch:=first|exact okD|fail) only[go_sem,seval,h3]) (by simp(disch:=first|exact okD|fail) only[go_sem,seval]) hdn
theorem d19 {s:List UInt8} (hl:s.length≤1000000):Gv E3 19 [.str s] h (.int .i64 (checkV s)):=by
 have hu:(unS s).length≤1000000:=by
  unfold unS;split
  ·rw[List.length_drop];omega
  ·exact hl
 refine Gv.of (CallWp.fn (fn:=R.a19) rfl rfl rfl ?_)
 have tail:=fun tm h0 h3=>chk_tail (h:=h) (tm:=tm) (s:=s) h0 h3 hu
 refine Wp.cut 3 rfl ?_
 generalize ACode.post 3 R.a19.code=rc at tail⊢
 unfold R.a19
 dsimp only[ACode.pre]
 cases s with
 | nil=>
  repeat' (with_reducible first|simp(disch:=first|exact okD|fail) only[go_sem,seval,List.length_nil]|(apply Spl.i<;>intro hc))
  exact tail _ (by simp(disch:=first|exact okD|fail) only[go_sem,seval]) (by(simp(disch:=first|exact okD|fail) only[go_sem,seval])<;>rfl)
 | cons c l=>
  have hsl:(0:Int)<((c::l:List UInt8).length:Int):=by simp
  have hsl1:(1:Int)≤((c::l:List UInt8).length:Int):=by rw[List.length_cons];omega
  have e45:(((c::l).getD 0 0).toNat:Int)=45↔c=45:=u8_int (n:=45) (by decide)
  by_cases f1:c=45
  ·have f1':=e45.2 f1
   have eu:unS (c::l)=(c::l).drop 1:=by unfold unS;rw[if_pos (by simpa using f1)]
   repeat' (with_reducible first|simp(disch:=first|exact okD|fail) only[go_sem,seval,hsl,hsl1,f1']|(apply Spl.i<;>intro hc))
   exact tail _ (by simp(disch:=first|exact okD|fail) only[go_sem,seval]) (by(simp(disch:=first|exact okD|fail) only[go_sem,seval])<;>rw[eu]<;>rfl)
  ·have f1':=fun e=>f1 (e45.1 e)
   have eu:unS (c::l)=c::l:=by unfold unS;rw[if_neg (by simpa using f1)]
   repeat' (with_reducible first|simp(disch:=first|exact okD|fail) only[go_sem,seval,hsl,hsl1,f1']|(apply Spl.i<;>intro hc))
   exact tail _ (by simp(disch:=first|exact okD|fail) only[go_sem,seval]) (by(simp(disch:=first|exact okD|fail) only[go_sem,seval])<;>rw[eu])
end
end
end Go.Ae
set_option linter.unusedVariables false
set_option linter.unusedSimpArgs false
set_option maxRecDepth 100000
set_option exponentiation.threshold 1000
set_option maxHeartbeats 2000000
namespace Go.Ae
open Bg N Go.Proofs
noncomputable section
def valS (s:List UInt8):Rat:=Rat.divInt (sgn (decide (s.head?=some 45)) (decV (numU s))) ((if brk s=true then decV (denU s)else 1:Nat):Int)
theorem valS_txt (r:Rat):valS (txtR r)=r:=by
 unfold valS
 rw[numU_txt,denU_txt,brk_txt,decP_val]
 have e1:decide ((txtR r).head?=some 45)=decide (r.num<0):=decide_eq_decide.2 (txtR_head r)
 have e2:sgn (decide (r.num<0)) r.num.natAbs=r.num:=by
  unfold sgn
  by_cases c:r.num<0
  ·rw[decide_eq_true c,if_pos rfl];omega
  ·rw[decide_eq_false c,if_neg (by decide)];omega
 have e3:(if decide (r.den≠1)=true then decV (if r.den=1 then[]else decP r.den 1)else 1)=r.den:=by
  by_cases c:r.den=1
  ·simp[c]
  ·rw[if_pos (decide_eq_true c),if_neg c,decP_val]
 rw[e1,e2,e3,Rat.num_divInt_den]
theorem txtR_valS {s:List UInt8} (h:checkV s=0):s=txtR (valS s)∧okR (valS s)=true:=by
 obtain⟨r,rfl,hr⟩:=checkV_zero h
 rw[valS_txt];exact⟨rfl,hr⟩
theorem ok_Br {r:Rat} (h:okR r=true):Br 67 r:=by
 unfold okR at h
 obtain⟨h1,h2⟩:=of_decide_eq_true h
 have h3:(10:Nat)^600≤10^603:=Nat.pow_le_pow_right (by decide) (by decide)
 have h4:(10:Nat)^603=1000000000^67:=by rw[show(1000000000:Nat)=10^9 from rfl,←Nat.pow_mul]
 unfold Br Lr
 rw[Int.natAbs_natCast]
 omega
theorem txtR_int (z:Int):txtR (z:Rat)=txtZ z:=by
 unfold txtR
 rw[Rat.den_intCast,if_pos rfl,Rat.num_intCast]
theorem sgR_le {a b:Rat}:sgR (a-b)≤0↔a≤b:=by
 have h2:0≤(b-a).num↔0≤b-a:=Rat.num_nonneg
 have h3:(b-a).num= -(a-b).num:=by rw[show b-a= -(a-b) from(Rat.neg_sub a b).symm];rfl
 rw[Rat.le_iff_sub_nonneg,←h2,h3]
 unfold sgR
 by_cases c:(a-b).num<0
 ·rw[if_pos c];omega
 ·rw[if_neg c]
  by_cases d:(a-b).num=0
  ·rw[if_pos d];omega
  ·rw[if_neg d];omega
theorem sgR_neg (a:Rat):sgR (-a)= -sgR a:=by
 unfold sgR
 rw[show(-a).num= -a.num from rfl]
 by_cases c:a.num<0
 ·rw[if_pos c,if_neg (by omega),if_neg (by omega)];rfl
 ·rw[if_neg c]
  by_cases d:a.num=0
  ·rw[if_pos d,if_neg (by omega),if_pos (by omega)];rfl
  ·rw[if_neg d,if_pos (by omega)]
theorem sgR_ge {a b:Rat}:0≤sgR (a-b)↔b≤a:=by
 rw[←sgR_le (a:=b) (b:=a),show b-a= -(a-b) from(Rat.neg_sub a b).symm,sgR_neg];omega
theorem sgR_lt {a b:Rat}:sgR (a-b)<0↔a<b:=by
 rw[←Rat.not_le,←sgR_ge];omega
theorem sgR_gt {a b:Rat}:0<sgR (a-b)↔b<a:=by
 rw[←Rat.not_le,←sgR_le];omega
def chk2 (s u:List UInt8):Int:=if checkV s=0 then checkV u else checkV s
theorem chk2_zero {s u:List UInt8} (h:chk2 s u=0):checkV s=0∧checkV u=0:=by
 unfold chk2 at h
 by_cases c:checkV s=0
 ·rw[if_pos c]at h;exact⟨c,h⟩
 ·rw[if_neg c]at h;exact absurd h c
section
variable {h h' hp:Hp} {K:AV→Hp→Prop} {tm:T AV} {r a b c d:Rat}
theorem d56_2 {t:Nat} {s u:List UInt8} (hA:At h t [.str s,.str u]) (ht:t<h.next) (hs:s.length≤1000000) (hu:u.length≤1000000):Gv E3 56 [.sl t 0 2 1] h (.int .i64 (chk2 s u)):=by
 refine Gv.of (CallWp.fn (fn:=R.a56) rfl rfl rfl ?_)
 unfold R.a56 chk2
 obtain⟨st,hg⟩:=hA
 by_cases c1:checkV s=0
 ·rw[if_pos c1]
  have e1:=d19 (h:=h) hs
  rw[c1]at e1
  by_cases c2:checkV u=0
  ·rw[c2]
   repeat' (with_reducible first|simp(disch:=first|exact okD|fail) only[go_sem,seval,Wp.unroll,hg]|(refine Gv.wp (e1) fun _ _ _ _=>?_)|(apply Spl.i<;>intro hc))
   refine Gv.wp (d19 hu) fun h6 k6 j6 u6=>?_
   repeat' (with_reducible first|simp(disch:=first|exact okD|fail) only[go_sem,seval,Wp.unroll,hg,c2]|(apply Spl.i<;>intro hc))
   exact okG
  ·repeat' (with_reducible first|simp(disch:=first|exact okD|fail) only[go_sem,seval,Wp.unroll,hg]|(refine Gv.wp (e1) fun _ _ _ _=>?_)|(apply Spl.i<;>intro hc))
   refine Gv.wp (d19 hu) fun h6 k6 j6 u6=>?_
   repeat' (with_reducible first|simp(disch:=first|exact okD|fail) only[go_sem,seval,Wp.unroll,hg,c2]|(apply Spl.i<;>intro hc))
   exact okG
 ·rw[if_neg c1]
  repeat' (with_reducible first|simp(disch:=first|exact okD|fail) only[go_sem,seval,Wp.unroll,hg,c1]|(refine Gv.wp (d19 hs) fun _ _ _ _=>?_)|(apply Spl.i<;>intro hc))
  exact okG
end
end
end Go.Ae
set_option linter.unusedVariables false
set_option linter.unusedSimpArgs false
set_option maxRecDepth 100000
set_option maxHeartbeats 1000000
set_option exponentiation.threshold 5000
namespace Go.Ae
open Bg N Go.Proofs
noncomputable section
section
variable {h h' hp:Hp} {K:AV→Hp→Prop} {tm:T AV} {v va s w:AV} {z z':Int} {a:Rat}
theorem wd_inj {kd:IntKind}:∀{L M:List Nat},L.map (wd kd)=M.map (wd kd)→L=M
 |[],[],_=>rfl
 | x::L,y::M,e=>by
  simp only[List.map_cons,List.cons.injEq,wd,AV.int.injEq,true_and]at e
  rw[show x=y by omega,wd_inj e.2]
 |[],_::_,e=>by simp at e
 |_::_,[],e=>by simp at e
theorem Sq.uniq {t o n:Nat} {l l':List Nat} (S:Sq .u64 h (.sl t o n 1) l) (S':Sq .u64 h (.sl t o n 1) l'):l=l':=by
 rcases S with⟨e,_⟩|⟨t1,o1,own1,st1,L1,e1,g1,h1,h2,_⟩
 ·cases e
 ·rcases S' with⟨e,_⟩|⟨t2,o2,own2,st2,L2,e2,g2,h3,h4,_⟩
  ·cases e
  ·injection e1 with q1 q2 q3
   injection e2 with r1 r2 r3
   subst q1;subst q2;subst r1;subst r2
   rw[g1]at g2
   have e:=Option.some.inj g2
   injection e with e
   have:=wd_inj e
   subst this
   rw[←h2,←h4,←q3,←r3]
theorem IsI.uniq (i:IsI h s w z) (j:IsI h s w z'):z=z':=by
 rcases i with⟨rfl,rfl,_⟩|⟨n,t,o,l,rfl,S,_,_,_,_,c⟩
 ·rcases j with⟨e,_,_⟩|⟨_,_,_,_,e,_⟩
  ·injection e
  ·cases e
 ·rcases j with⟨_,e,_⟩|⟨n',t',o',l',e,S',_,_,_,_,c'⟩
  ·cases e
  ·injection e with q1 q2 q3
   subst q1;subst q2;subst q3
   have:=S.uniq S'
   subst this
   rcases c with⟨rfl,rfl⟩|⟨rfl,rfl⟩
   ·rcases c' with⟨_,rfl⟩|⟨e,_⟩
    ·rfl
    ·injection e with _ e;exact absurd e (by decide)
   ·rcases c' with⟨e,_⟩|⟨_,rfl⟩
    ·injection e with _ e;exact absurd e (by decide)
    ·rfl
theorem itoa_txtZ (n:Int):Lib.itoa n=txtZ n:=by
 unfold txtZ
 by_cases c:n<0
 ·obtain⟨u,rfl⟩:∃u:Nat,n= -(u:Int):=⟨n.natAbs,by omega⟩
  rw[if_pos c,Lib.itoa_neg u (by omega),digits_decP,Int.natAbs_neg,Int.natAbs_natCast]
 ·obtain⟨u,rfl⟩:∃u:Nat,n=(u:Int):=⟨n.natAbs,by omega⟩
  rw[if_neg c,Lib.itoa_nonneg u,digits_decP,Int.natAbs_natCast]
def p264f:Prim:=fun args h=>
 open Classical in if hx:∃z:Int,∃s w,args=[.agg [s,w]]∧IsI h s w z∧Lim 3999 z then some (.str (txtZ hx.choose),h)else none
theorem p264f_eq (i:IsI h s w z) (lz:Lim 3999 z):p264f [.agg [s,w]] h=some (.str (txtZ z),h):=by
 have hx:∃z:Int,∃s' w',[AV.agg [s,w]]=[.agg [s',w']]∧IsI h s' w' z∧Lim 3999 z:=⟨z,s,w,rfl,i,lz⟩
 unfold p264f
 rw[dif_pos hx]
 obtain⟨s',w',e,j,_⟩:=hx.choose_spec
 simp only[List.cons.injEq,AV.agg.injEq,and_true]at e
 obtain⟨rfl,rfl⟩:=e
 rw[i.uniq j]
theorem p264f_cases {args:List AV} (hv:p264f args h=some (v,h')):∃z s w,args=[.agg [s,w]]∧IsI h s w z∧Lim 3999 z∧v= .str (txtZ z)∧h'=h:=by
 unfold p264f at hv
 split at hv
 ·rename_i hx
  obtain⟨rfl,rfl⟩:=pair_inj hv
  obtain⟨s,w,e,i,l⟩:=hx.choose_spec
  exact⟨_,s,w,e,i,l,rfl,rfl⟩
 ·cases hv
def EX:Env:=E3.withR 264 p264f
theorem gqX:Gq E3 EX:=by
 refine Gq.withR (q:=p264) rfl fun args h x hx=>?_
 unfold p264 at hx
 split at hx
 ·rename_i n
  split at hx
  ·rename_i hn
   obtain rfl:=Option.some.inj hx
   rw[itoa_txtZ]
   exact p264f_eq (.inl ⟨rfl,rfl,hn⟩) ((Lim.small hn).mono (by decide))
  ·cases hx
 ·cases hx
theorem envX {W0:World} {base:Nat} (G:L.Glob W0 base):EnvOk Tryz.prog W0 base EX:=by
 refine((env2 G).add R.good).withR fun args h v h' hv=>?_
 obtain⟨z,s,w,rfl,i,l,rfl,rfl⟩:=p264f_cases hv
 refine⟨Later.refl _,fun ρ wd B R hok=>?_⟩
 rcases id i with⟨rfl,rfl,hz⟩|⟨n,t,o,li,rfl,_,_,_,_,_,c⟩
 ·have:p264 [.agg [.int .i64 z,.nils]] h'=some (.str (Lib.itoa z),h'):=if_pos hz
  rw[←itoa_txtZ]
  exact(k264 G _ _ _ _ this).2 ρ wd B R
 ·rcases c with⟨rfl,_⟩|⟨rfl,_⟩
  ·exact str_does G B R i l hok
  ·exact str_does G B R i l hok
theorem x3 {f:Nat} {args:List AV} {v:AV} (hc:Gv E3 f args h v):Gv EX f args h v:=hc.gq gqX
theorem x2 {f:Nat} {args:List AV} {v:AV} (hc:Gv E2 f args h v):Gv EX f args h v:=(gu3 hc).gq gqX
theorem xp2 {f:Nat} {args:List AV} {p:AV→Hp→Prop} (hc:Gp E2 f args h p):Gp EX f args h p:=by
 obtain⟨v,h',h1,h2,h3⟩:=hc
 exact⟨v,h',(h1.ge ge3).gq gqX,h2,h3⟩
theorem xu3 {f:Nat} {args:List AV} {h':Hp} {v:AV} (hc:∀K,CallWp E3 f args h K↔K v h'):CallWp EX f args h K↔K v h':=upq gqX hc
theorem xu2 {f:Nat} {args:List AV} {h':Hp} {v:AV} (hc:∀K,CallWp E2 f args h K↔K v h'):CallWp EX f args h K↔K v h':=upq gqX fun K=>up ge3 hc
theorem x264 (i:IsI h s w z) (lz:Lim 3999 z):CallWp EX 264 [.agg [s,w]] h K↔K (.str (txtZ z)) h:=by
 rw[CallWp.prim_iff (p:=p264f) rfl rfl,p264f_eq i lz];exact Iff.rfl
theorem i199 {m:Nat} (ix:IsI h s w z) (lz:Lim m z) (hm:m≤4000):Gp E2 199 [.agg [s,w]] h fun v h'=>∃b:Nat,v= .int .i64 b∧z.natAbs<2^b∧b≤64*m:=by
 obtain⟨o1,o2⟩:=ix.one
 obtain⟨m1,rfl⟩:=ix.fst
 refine Gp.of (CallWp.fn (fn:=C.a199) rfl rfl rfl ?_)
 unfold C.a199
 repeat' (with_reducible first|simp(disch:=first|exact okD|fail) only[go_sem,seval,o1,o2]|(apply Spl.i<;>intro hc))
 refine Gp.wp (c202 (ix.grs okG)) fun v k a b u ⟨w',l,e0,S0,D0,N0,V0,L0⟩=>?_
 subst e0
 have ln:=S0.rd.len
 have ad:=S0.rd.adr
 by_cases hz:l=[]
 ·subst hz
  simp only[List.length_nil]at ln
  have e0:((0:Nat):Int)=0:=rfl
  repeat' (with_reducible first|simp(disch:=first|exact okD|fail) only[go_sem,seval,ln,e0]|(apply Spl.i<;>intro hc))
  rw[vl_nil]at V0
  refine⟨⟨0,rfl,by rw[←V0];decide,Nat.zero_le _⟩,?_⟩
  exact okG
 ·have hlp:=List.length_pos_iff.2 hz
  have hll:=lz.len N0 V0
  have ldt:=S0.rd.load (l.length-1) (by omega)
  have i1:((l.length:Int)-1).toNat=l.length-1:=by omega
  have htd:=Dg.getD (B:=18446744073709551616) (by decide) D0 (l.length-1)
  have hne:¬(l.length:Int)=0:=by omega
  have hb:=bitLen_lt (n:=l.getD (l.length-1) 0) (k:=64) htd
  have c6:=fun{h:Hp} {K:AV→Hp→Prop}=>c266 (h:=h) (K:=K) (x:=l.getD (l.length-1) 0) (by omega)
  have w1:IntKind.wrap .i64 (64*((l.length:Int)-1))=64*((l.length:Int)-1):=wrap_i64 (by omega)
  have w2:IntKind.wrap .i64 (64*((l.length:Int)-1)+(bitLen (l.getD (l.length-1) 0):Nat))=((64*(l.length-1)+bitLen (l.getD (l.length-1) 0):Nat):Int):=by rw[wrap_i64 (by omega)];omega
  repeat' (with_reducible first|simp(disch:=first|exact okD|fail) only[go_sem,seval,ln,ad,ldt,i1,hne,c6,w1,w2]|(apply Spl.i<;>intro hc))
  refine⟨⟨_,rfl,?_,by omega⟩,?_⟩
  ·have hv1:=vl_take_succ (B:=18446744073709551616) (l:=l) (i:=l.length-1) (by omega)
   rw[show l.length-1+1=l.length by omega,List.take_length]at hv1
   have hv2:=vl_lt (B:=18446744073709551616) (by decide) (D0.take (n:=l.length-1))
   rw[List.length_take,Nat.min_eq_left (by omega)]at hv2
   have hb2:=bitLen_le (Nat.le_refl (bitLen (l.getD (l.length-1) 0)))
   have e64:(18446744073709551616:Nat)^(l.length-1)=2^(64*(l.length-1)):=by rw[show(18446744073709551616:Nat)=2^64 from rfl,←Nat.pow_mul]
   rw[←V0,hv1,Nat.pow_add,←e64]
   have:18446744073709551616^(l.length-1)*(l.getD (l.length-1) 0+1)≤18446744073709551616^(l.length-1)*2^bitLen (l.getD (l.length-1) 0):=Nat.mul_le_mul_left _ hb2
   rw[Nat.mul_add,Nat.mul_one]at this
   omega
  ·exact okG
theorem x216 (ix:IsI h s w z) (lz:Lim 3999 z):Gv EX 216 [.agg [s,w]] h (.bool (decide (10^600≤z.natAbs))):=by
 obtain⟨o1,o2⟩:=ix.one
 obtain⟨m1,rfl⟩:=ix.fst
 have hp:(2:Nat)^1800≤10^600:=by decide+kernel
 refine Gv.of (CallWp.fn (fn:=C.a216) rfl rfl rfl ?_)
 unfold C.a216
 repeat' (with_reducible first|simp(disch:=first|exact okD|fail) only[go_sem,seval,o1,o2]|(apply Spl.i<;>intro hc))
 refine Gp.wp (xp2 (i199 (ix.grs okG) lz (by decide))) fun v k a b u ⟨b1,e1,hb,_⟩=>?_
 subst e1
 by_cases c:1800<b1
 ·have c':(1800:Int)<(b1:Int):=by omega
  have cS:=fun{K:AV→Hp→Prop}=>x264 (K:=K) ((ix.grs okG:IsI ((h.push fun t=> .row [.int .i64 m1,w] true t).ov k u) (.int .i64 m1) w z)) lz
  have cU:=fun{h:Hp} {K:AV→Hp→Prop}=>xu2 (h:=h) (K:=K) fun K=>u259 (s:=txtZ z) (h:=h) (K:=K)
  have eu:unS (txtZ z)=decP z.natAbs 1:=by
   have:=unS_txt (z:Rat)
   rw[txtR_int]at this
   rw[this];unfold absR
   rw[Rat.den_intCast,Rat.num_intCast,if_pos rfl]
  rw[eu]at cU
  have hd:=decP_ge (n:=z.natAbs)
  by_cases d:10^600≤z.natAbs
  ·have d':(600:Int)<(decP z.natAbs 1).length:=by
    have:¬(decP z.natAbs 1).length≤600:=fun e=>by have:=hd.1 e;omega
    omega
   rw[decide_eq_true d]
   repeat' (with_reducible first|simp(disch:=first|exact okD|fail) only[go_sem,seval,o1,o2,c',cS,cU,d']|(apply Spl.i<;>intro hc))
   exact okG
  ·have d':¬(600:Int)<(decP z.natAbs 1).length:=by
    have:=hd.2 (by omega)
    omega
   rw[decide_eq_false d]
   repeat' (with_reducible first|simp(disch:=first|exact okD|fail) only[go_sem,seval,o1,o2,c',cS,cU,d']|(apply Spl.i<;>intro hc))
   exact okG
 ·have c':¬(1800:Int)<(b1:Int):=by omega
  have d:¬10^600≤z.natAbs:=by
   have:(2:Nat)^b1≤2^1800:=Nat.pow_le_pow_right (by decide) (by omega)
   omega
  rw[decide_eq_false d]
  repeat' (with_reducible first|simp(disch:=first|exact okD|fail) only[go_sem,seval,o1,o2,c']|(apply Spl.i<;>intro hc))
  exact okG
theorem okR_not {a:Rat}:(decide (10^600≤a.num.natAbs)||decide (10^600≤(a.den:Int).natAbs))= !(okR a):=by
 unfold okR
 rw[Int.natAbs_natCast]
 by_cases c1:a.num.natAbs<10^600
 ·by_cases c2:a.den<10^600
  ·rw[decide_eq_false (by omega),decide_eq_false (by omega),decide_eq_true ⟨c1,c2⟩];rfl
  ·rw[decide_eq_true (p:=10^600≤a.den) (by omega),decide_eq_false (p:=a.num.natAbs<10^600∧a.den<10^600) (fun e=>c2 e.2),Bool.or_true];rfl
 ·rw[decide_eq_true (p:=10^600≤a.num.natAbs) (by omega),decide_eq_false (p:=a.num.natAbs<10^600∧a.den<10^600) (fun e=>c1 e.1),Bool.true_or];rfl
theorem x140 (ia:IsF h va a) (la:Bd 3999 a):Gv EX 140 [va] h (.bool (!(okR a))):=by
 obtain⟨n1,w1,n2,w2,rfl,o1,o2,I1,I2⟩:=ia.ex
 refine Gv.of (CallWp.fn (fn:=C.a140) rfl rfl rfl ?_)
 unfold C.a140
 rw[←okR_not]
 repeat' (with_reducible first|simp(disch:=first|exact okD|fail) only[go_sem,seval,o1,o2]|(apply Spl.i<;>intro hc))
 refine Gv.wp (x216 (I1.grs okG) la.1) fun h1 k1 j1 u1=>?_
 by_cases d:10^600≤a.num.natAbs
 ·rw[decide_eq_true d]
  repeat' (with_reducible first|simp(disch:=first|exact okD|fail) only[go_sem,seval,o1,o2]|(apply Spl.i<;>intro hc))
  refine⟨by simp,?_⟩
  exact okG
 ·rw[decide_eq_false d]
  repeat' (with_reducible first|simp(disch:=first|exact okD|fail) only[go_sem,seval,o1,o2]|(apply Spl.i<;>intro hc))
  refine Gv.wp (x216 (I2.grs okG) la.2) fun h2 k2 j2 u2=>?_
  repeat' (with_reducible first|simp(disch:=first|exact okD|fail) only[go_sem,seval,o1,o2]|(apply Spl.i<;>intro hc))
  refine⟨by simp,?_⟩
  exact okG
theorem x196 (ia:IsF h va a) (la:Bd 3999 a) (hl:(txtR a).length≤1000000):Gv EX 196 [va] h (.str (txtR a)):=by
 obtain⟨n1,w1,n2,w2,e,o1,o2,I1,I2⟩:=id ia.ex
 refine Gv.of (CallWp.fn (fn:=C.a196) rfl rfl rfl ?_)
 unfold C.a196
 subst e
 repeat' (with_reducible first|simp(disch:=first|exact okD|fail) only[go_sem,seval,o1,o2]|(apply Spl.i<;>intro hc))
 refine Gv.wp (x2 (i241 (ia.grs okG))) fun h1 k1 j1 u1=>?_
 have cS:=fun{h':Hp} {K:AV→Hp→Prop} (g:Grs h h')=>x264 (h:=h') (K:=K) (I1.grs g) la.1
 have cT:=fun{h':Hp} {K:AV→Hp→Prop} (g:Grs h h')=>x264 (h:=h') (K:=K) (I2.grs g) la.2
 by_cases d:(a.den:Int)=1
 ·have et:txtR a=txtZ a.num:=if_pos (by omega)
  rw[et]
  have c1:=fun{K:AV→Hp→Prop}=>cS (h':=(h.push fun t=> .row [.int .i64 n1,w1,.int .i64 n2,w2] true t).ov h1 u1) (K:=K) okG
  repeat' (with_reducible first|simp(disch:=first|exact okD|fail) only[go_sem,seval,o1,o2,d,c1]|(apply Spl.i<;>intro hc))
  exact okG
 ·have et:txtR a=txtZ a.num++47::txtZ a.den:=if_neg (by omega)
  rw[et]at hl⊢
  rw[List.length_append,List.length_cons]at hl
  have c1:=fun{K:AV→Hp→Prop}=>cS (h':=(h.push fun t=> .row [.int .i64 n1,w1,.int .i64 n2,w2] true t).ov h1 u1) (K:=K) okG
  have c2:=fun{K:AV→Hp→Prop}=>cT (h':=(h.push fun t=> .row [.int .i64 n1,w1,.int .i64 n2,w2] true t).ov h1 u1) (K:=K) okG
  repeat' (with_reducible first|simp(disch:=first|exact okD|fail) only[go_sem,seval,o1,o2,d,c1,c2]|(apply Spl.i<;>intro hc))
  refine⟨by simp,?_⟩
  exact okG
end
end
end Go.Ae
set_option maxRecDepth 100000
namespace Go.Ae.F
open AOp Opd C
def tab:T AFn:= .nil
section
open Go.Proofs
theorem all:T.Forall Chk tab (fun n=>n):=trivial
theorem good (n:Nat) (a:AFn) (h:tab.get n=some a):chk Tryz.prog n=some a:=T.get_forall tab (fun n=>n) all n a h
end
end Go.Ae.F
set_option linter.unusedVariables false
set_option linter.unusedSimpArgs false
set_option maxRecDepth 100000
set_option maxHeartbeats 1000000
set_option exponentiation.threshold 5000
namespace Go.Ae
open Bg N Go.Proofs
noncomputable section
section
variable {h h' hp:Hp} {K:AV→Hp→Prop} {tm:T AV} {v va vb s w:AV} {z z':Int} {a b c r:Rat}
theorem unS_txtZ (z:Int):unS (txtZ z)=decP z.natAbs 1:=by
 have:=unS_txt (z:Rat)
 rw[txtR_int]at this
 rw[this];unfold absR
 rw[Rat.den_intCast,Rat.num_intCast,if_pos rfl]
theorem head_txtZ (z:Int):decide ((txtZ z).head?=some 45)=decide (z<0):=by
 have:=txtR_head (z:Rat)
 rw[txtR_int,Rat.num_intCast]at this
 exact decide_eq_decide.2 this
theorem i191z (hz:z.natAbs<10^600):Gp E2 191 [.str (txtZ z)] h fun v h'=>IsV h' v z:=by
 have hl:=decP_ge.2 hz
 have:=i191 (h:=h) (s:=txtZ z) (unS_txtZ z) (decP_all _ _) (by omega)
 rw[head_txtZ,sgn_txt]at this
 exact this
theorem i111 (hr:okR r=true):Gp E2 111 [.str (txtR r)] h fun v h'=>IsF h' v r:=by
 have ok:=hr
 unfold okR at ok
 obtain⟨h1,h2⟩:=of_decide_eq_true ok
 obtain⟨b1,b2⟩:=ok_Br hr
 obtain⟨t1,t2⟩:=txtR_le b1 b2
 have hs:=slash_txt r
 refine Gp.of (CallWp.fn (fn:=C.a111) rfl rfl rfl ?_)
 unfold C.a111
 have cc:=fun{h:Hp} {K:AV→Hp→Prop}=>u147 (h:=h) (K:=K) (s:=txtR r) (by omega)
 rw[hs]at cc
 by_cases d:r.den=1
 ·have et:txtR r=txtZ r.num:=if_pos d
  rw[et]at cc⊢
  rw[List.take_length,decide_eq_false (by omega)]at cc
  repeat' (with_reducible first|simp(disch:=first|exact okD|fail) only[go_sem,seval,cc]|(apply Spl.i<;>intro hc))
  refine Gp.wp (i191z h1) fun v1 k1 a1 b1 u1 I1=>?_
  obtain⟨m1,w1,rfl,p1,I1⟩:=I1.ex2
  repeat' (with_reducible first|simp(disch:=first|exact okD|fail) only[go_sem,seval,p1]|(apply Spl.i<;>intro hc))
  refine Gp.wp (i183 I1) fun v2 k2 a2 b2 u2 I2=>?_
  obtain⟨n1,w3,n2,w4,rfl,o1,o2,I3,I4⟩:=I2.ex
  obtain⟨e1,e2⟩:=divInt_one (p:=r.num)
  rw[e1]at I3
  rw[e2]at I4
  repeat' (with_reducible first|simp(disch:=first|exact okD|fail) only[go_sem,seval,o1,o2]|(apply Spl.i<;>intro hc))
  refine⟨⟨_,_,_,_,rfl,?_,?_⟩,?_⟩
  ·exact I3.putI (by simp(disch:=first|exact okD|fail) only[go_sem,seval,isCell_row])
  ·rw[d];exact I4.putI (by simp(disch:=first|exact okD|fail) only[go_sem,seval,isCell_row])
  ·exact okG
 ·have et:txtR r=txtZ r.num++47::txtZ r.den:=if_neg d
  have k1:List.take (txtZ r.num).length (txtR r)=txtZ r.num:=by rw[et];exact List.take_left
  have k2:List.drop ((txtZ r.num).length+1) (txtR r)=txtZ r.den:=by rw[et,←List.drop_drop,List.drop_left];rfl
  rw[k1,k2,decide_eq_true (by rw[et];simp)]at cc
  repeat' (with_reducible first|simp(disch:=first|exact okD|fail) only[go_sem,seval,cc]|(apply Spl.i<;>intro hc))
  refine Gp.wp (i191z h1) fun v1 k1 a1 b1 u1 I1=>?_
  obtain⟨m1,w1,rfl,p1,I1⟩:=I1.ex2
  repeat' (with_reducible first|simp(disch:=first|exact okD|fail) only[go_sem,seval,p1]|(apply Spl.i<;>intro hc))
  refine Gp.wp (i191z (z:=(r.den:Int)) (by rw[Int.natAbs_natCast];exact h2)) fun v2 k2 a2 b2 u2 I2=>?_
  obtain⟨m2,w2,rfl,p2,I2⟩:=I2.ex2
  have I1':=I1.ov (g:=u2)
  have fl:=fill22 (n:=m1) (n':=m2) p1 p2
  repeat' (with_reducible first|simp(disch:=first|exact okD|fail) only[go_sem,seval,p1,p2,fl]|(apply Spl.i<;>intro hc))
  refine⟨⟨_,_,_,_,rfl,?_,?_⟩,?_⟩
  ·exact I1'.putI (by simp(disch:=first|exact okD|fail) only[go_sem,seval,isCell_row])
  ·exact I2.putI (by simp(disch:=first|exact okD|fail) only[go_sem,seval,isCell_row])
  ·exact okG
def resT (r:Rat):AV:=if okR r=true then .tup [.str (txtR r),.int .i64 0]else .tup [.str [],.int .i64 4]
theorem resT_yes (h:okR r=true):resT r= .tup [.str (txtR r),.int .i64 0]:=if_pos h
theorem resT_no (h:¬okR r=true):resT r= .tup [.str [],.int .i64 4]:=if_neg h
theorem x175 (ia:IsF h va a) (la:Bd 3999 a) (hl:(txtR a).length≤1000000):Gv EX 175 [va] h (resT a):=by
 obtain⟨n1,w1,n2,w2,e,o1,o2,I1,I2⟩:=id ia.ex
 refine Gv.of (CallWp.fn (fn:=C.a175) rfl rfl rfl ?_)
 unfold C.a175
 subst e
 repeat' (with_reducible first|simp(disch:=first|exact okD|fail) only[go_sem,seval,o1,o2]|(apply Spl.i<;>intro hc))
 refine Gv.wp (x140 (ia.grs okG) la) fun h1 k1 j1 u1=>?_
 by_cases d:okR a=true
 ·rw[resT_yes d,d]
  repeat' (with_reducible first|simp(disch:=first|exact okD|fail) only[go_sem,seval,o1,o2,Bool.not_true]|(apply Spl.i<;>intro hc))
  refine Gv.wp (x196 ((ia.grs okG):IsF ((h.push fun t=> .row [.int .i64 n1,w1,.int .i64 n2,w2] true t).ov h1 u1) (.agg [.int .i64 n1,w1,.int .i64 n2,w2]) a) la hl) fun h2 k2 j2 u2=>?_
  repeat' (with_reducible first|simp(disch:=first|exact okD|fail) only[go_sem,seval]|(apply Spl.i<;>intro hc))
  exact okG
 ·have d':okR a=false:=by simpa using d
  rw[resT_no d,d']
  repeat' (with_reducible first|simp(disch:=first|exact okD|fail) only[go_sem,seval,o1,o2,Bool.not_false]|(apply Spl.i<;>intro hc))
  exact okG
theorem i136_2 {t:Nat} {s u:List UInt8} (hA:At h t [.str s,.str u]) (ht:t<h.next) (hs:s.length≤1000000) (hu:u.length≤1000000):Gv E2 136 [.sl t 0 2 1] h (.int .i64 (chk2 s u)):=by
 refine Gv.of (CallWp.fn (fn:=C.a136) rfl rfl rfl ?_)
 unfold C.a136 chk2
 obtain⟨st,hg⟩:=hA
 by_cases c1:checkV s=0
 ·rw[if_pos c1]
  have e1:=i101 (h:=h) hs
  rw[c1]at e1
  by_cases c2:checkV u=0
  ·rw[c2]
   repeat' (with_reducible first|simp(disch:=first|exact okD|fail) only[go_sem,seval,Wp.unroll,hg]|(refine Gv.wp (e1) fun _ _ _ _=>?_)|(apply Spl.i<;>intro hc))
   refine Gv.wp (i101 hu) fun h6 k6 j6 u6=>?_
   repeat' (with_reducible first|simp(disch:=first|exact okD|fail) only[go_sem,seval,Wp.unroll,hg,c2]|(apply Spl.i<;>intro hc))
   exact okG
  ·repeat' (with_reducible first|simp(disch:=first|exact okD|fail) only[go_sem,seval,Wp.unroll,hg]|(refine Gv.wp (e1) fun _ _ _ _=>?_)|(apply Spl.i<;>intro hc))
   refine Gv.wp (i101 hu) fun h6 k6 j6 u6=>?_
   repeat' (with_reducible first|simp(disch:=first|exact okD|fail) only[go_sem,seval,Wp.unroll,hg,c2]|(apply Spl.i<;>intro hc))
   exact okG
 ·rw[if_neg c1]
  repeat' (with_reducible first|simp(disch:=first|exact okD|fail) only[go_sem,seval,Wp.unroll,hg,c1]|(refine Gv.wp (i101 hs) fun _ _ _ _=>?_)|(apply Spl.i<;>intro hc))
  exact okG
theorem Bd_ok {r:Rat} (h:okR r=true):Bd 110 r:=by
 unfold okR at h
 obtain⟨h1,h2⟩:=of_decide_eq_true h
 have l2:Lim 110 (r.den:Int):=Lim_dec h2 (by decide)
 have l1:Lim 110 ((r.num.natAbs:Nat):Int):=Lim_dec h1 (by decide)
 exact⟨l1.le (by rw[Int.natAbs_natCast];exact Nat.le_refl _),l2⟩
end
def EF:Env:=EX.add F.tab
theorem geF:Ge EX EF:=Ge.add _ _
section
variable {h h' hp:Hp} {K:AV→Hp→Prop} {tm:T AV} {v va vb s w:AV} {z z':Int} {a b c r:Rat}
theorem f0 {f:Nat} {args:List AV} {v:AV} (hc:Gv EX f args h v):Gv EF f args h v:=hc.ge fun _ _ _ hk=>hk.ge geF
theorem f3 {f:Nat} {args:List AV} {v:AV} (hc:Gv E3 f args h v):Gv EF f args h v:=f0 (x3 hc)
theorem f2 {f:Nat} {args:List AV} {v:AV} (hc:Gv E2 f args h v):Gv EF f args h v:=f0 (x2 hc)
theorem fp2 {f:Nat} {args:List AV} {p:AV→Hp→Prop} (hc:Gp E2 f args h p):Gp EF f args h p:=by
 obtain⟨v,h',h1,h2,h3⟩:=xp2 hc
 exact⟨v,h',h1.ge geF,h2,h3⟩
theorem fu3 {f:Nat} {args:List AV} {h':Hp} {v:AV} (hc:∀K,CallWp E3 f args h K↔K v h'):CallWp EF f args h K↔K v h':=up geF fun K=>xu3 hc
theorem fu2 {f:Nat} {args:List AV} {h':Hp} {v:AV} (hc:∀K,CallWp E2 f args h K↔K v h'):CallWp EF f args h K↔K v h':=up geF fun K=>xu2 hc
theorem len_of {n:Nat} {c:Rat} (hb:Bd n c) (hn:n≤400):Bd 3999 c∧(txtR c).length≤1000000:=by
 refine⟨hb.mono (by omega),?_⟩
 have e:(18446744073709551616:Nat)^400≤1000000000^900:=by decide+kernel
 have h1:Lr 900 c.num:=Nat.lt_of_lt_of_le (hb.mono hn).1 e
 have h2:Lr 900 (c.den:Int):=Nat.lt_of_lt_of_le (hb.mono hn).2 e
 have:=(txtR_le h1 h2).1
 omega
end
end
end Go.Ae
set_option linter.unusedVariables false
set_option linter.unusedSimpArgs false
set_option maxRecDepth 100000
set_option maxHeartbeats 1000000
set_option exponentiation.threshold 5000
namespace Go.Ae
open Bg N Go.Proofs
noncomputable section
structure Fc where
 n:Int
 w:AV
 d:Int
 u:AV
def Fc.l (c:Fc):List AV:=[.int .i64 c.n,c.w,.int .i64 c.d,c.u]
def Fc.z:Fc:=⟨0,.nils,0,.nils⟩
theorem Fc.l_len (c:Fc):c.l.length=4:=rfl
def FrL (h:Hp) (L:List Fc) (l:List Rat):Prop:=L.length=l.length∧∀(i:Nat) (a:i<L.length) (b:i<l.length),IsF h (.agg (L[i]).l) l[i]
def FrS (h:Hp) (v:AV) (l:List Rat):Prop:=∃L,RowS 4 h v l.length (L.flatMap Fc.l)∧FrL h L l
section
variable {h h' h0 hp:Hp} {K:AV→Hp→Prop} {tm:T AV} {v va vb s w:AV} {z:Nat} {a b c r:Rat} {L:List Fc} {l:List Rat} {x:Fc}
theorem IsF.cell (i:IsF h v r):∃c:Fc,v= .agg c.l∧c.w.one=true∧c.u.one=true:=by
 obtain⟨n1,w1,n2,w2,e,o1,o2,_⟩:=i.ex
 exact⟨⟨n1,w1,n2,w2⟩,e,o1,o2⟩
theorem IsF.ones (i:IsF h (.agg x.l) r):x.w.one=true∧x.u.one=true:=by
 obtain⟨n1,w1,n2,w2,e,o1,o2,_⟩:=i.ex
 injection e with e
 unfold Fc.l at e
 injection e with _ e
 injection e with e1 e
 injection e with _ e
 injection e with e2 _
 rw[e1,e2];exact⟨o1,o2⟩
theorem FrL.grs (f:FrL h L l) (g:Grs h h'):FrL h' L l:=⟨f.1,fun i a b=>(f.2 i a b).grs g⟩
theorem FrS.grs (f:FrS h v l) (g:Grs h h'):FrS h' v l:=by
 obtain⟨L,o,i⟩:=f
 exact⟨L,o.grs g,i.grs g⟩
theorem FrL.putI' (f:FrL h L l) {p:Nat} {g:Nat→AObj} (hi:∀{v r},IsF h v r→IsF (h.put p g) v r):FrL (h.put p g) L l:=⟨f.1,fun i a b=>hi (f.2 i a b)⟩
theorem FrL.nil:FrL h [] []:=⟨rfl,fun i a=>absurd a (Nat.not_lt_zero _)⟩
theorem FrL.snoc (f:FrL h L l) (i:IsF h (.agg x.l) r):FrL h (L++[x]) (l++[r]):=by
 refine⟨by simp[f.1],fun k a b=>?_⟩
 have f1:=f.1
 by_cases hk:k<L.length
 ·rw[List.getElem_append_left hk,List.getElem_append_left (by omega)]
  exact f.2 k hk (by omega)
 ·have e:k=L.length:=by simp at a;omega
  subst e
  rw[List.getElem_append_right (Nat.le_refl _),List.getElem_append_right (by omega)]
  simp only[f1,Nat.sub_self,List.getElem_cons_zero]
  exact i
theorem Sq.fr {vo:AV} {q:List Nat} (S:Sq .u64 h w q) (hv:∀t' o n',vo= .sl t' o n' z→isCell (h.get t')=true)
  (fr:∀t,t<h.next→(∀t' o n',vo= .sl t' o n' z→t≠t')→h'.get t=h.get t) (hnx:h.next≤h'.next) (hck:h.clk≤h'.clk):Sq .u64 h' w q:=by
 rcases S with S|⟨t,o,own,st,Q,e,hg,h1,h2,h3,h4⟩
 ·exact .inl S
 ·refine .inr ⟨t,o,own,st,Q,e,(fr t h3 fun t' o' n' ev htt=>?_).trans hg,h1,h2,Nat.lt_of_lt_of_le h3 hnx,Nat.le_trans h4 hck⟩
  subst htt
  obtain⟨n,cs,own',st',hq⟩:=isCell_ex (hv _ _ _ ev)
  rw[hq]at hg
  cases Q with
  |nil=>simp at hg
  |cons a Q=>simp[wd]at hg
theorem IsI.fr {vo s w:AV} {y:Int} (i:IsI h s w y) (hv:∀t' o n',vo= .sl t' o n' z→isCell (h.get t')=true)
  (fr:∀t,t<h.next→(∀t' o n',vo= .sl t' o n' z→t≠t')→h'.get t=h.get t) (hnx:h.next≤h'.next) (hck:h.clk≤h'.clk):IsI h' s w y:=by
 rcases i with i|⟨n,t,o,q,e,hs,r⟩
 ·exact .inl i
 ·exact .inr ⟨n,t,o,q,e,hs.fr hv fr hnx hck,r⟩
theorem IsF.fr {vo:AV} (i:IsF h v r) (hv:∀t' o n',vo= .sl t' o n' z→isCell (h.get t')=true)
  (fr:∀t,t<h.next→(∀t' o n',vo= .sl t' o n' z→t≠t')→h'.get t=h.get t) (hnx:h.next≤h'.next) (hck:h.clk≤h'.clk):IsF h' v r:=by
 obtain⟨s,w,s',w',e,i,j⟩:=i
 exact⟨s,w,s',w',e,i.fr hv fr hnx hck,j.fr hv fr hnx hck⟩
theorem IsF.putI {p:Nat} {f:Nat→AObj} (i:IsF h v r) (hc:isCell (h.get p)=true):IsF (h.put p f) v r:=by
 obtain⟨s,w,s',w',e,i,j⟩:=i
 exact⟨s,w,s',w',e,i.putI hc,j.putI hc⟩
theorem FrL.putI (f:FrL h L l) {p:Nat} {g:Nat→AObj} (hc:isCell (h.get p)=true):FrL (h.put p g) L l:=f.putI' fun i=>i.putI hc
theorem FrL.fr {vo:AV} (f:FrL h L l) (hv:∀t' o n',vo= .sl t' o n' z→isCell (h.get t')=true)
  (fr:∀t,t<h.next→(∀t' o n',vo= .sl t' o n' z→t≠t')→h'.get t=h.get t) (hnx:h.next≤h'.next) (hck:h.clk≤h'.clk):FrL h' L l:=⟨f.1,fun i a b=>(f.2 i a b).fr hv fr hnx hck⟩
theorem AtS.fr {vo:AV} {t:Nat} {cs:List AV} (a:AtS h t cs) (hne:∀t' o n',vo= .sl t' o n' z→t≠t')
  (fr:∀t,t<h.next→(∀t' o n',vo= .sl t' o n' z→t≠t')→h'.get t=h.get t) (hnx:h.next≤h'.next) (hck:h.clk≤h'.clk):AtS h' t cs:=by
 obtain⟨st,g,c,lt⟩:=a
 exact⟨st,(fr t lt hne).trans g,Nat.le_trans c hck,Nat.lt_of_lt_of_le lt hnx⟩
theorem FrS.at (f:FrS h v l) (hl:l≠[]):∃t own st,∃L:List Fc,v= .sl t 0 l.length 4∧h.get t=some (.row (L.flatMap Fc.l) own st)∧t<h.next∧st≤h.clk∧FrL h L l:=by
 obtain⟨L,⟨_,⟨rfl,e⟩|⟨t,own,st,rfl,hg,h1,h2⟩⟩,i⟩:=f
 ·exact absurd (List.length_eq_zero_iff.1 e) hl
 ·exact⟨t,own,st,L,rfl,hg,h1,h2,i⟩
theorem isCell_flat {own:Bool} {st:Nat} (hL:L≠[]):isCell (some (.row (L.flatMap Fc.l) own st))=true:=by
 cases L with
 |nil=>exact absurd rfl hL
 |cons x L=>rfl
theorem OwnZ.isCell {n:Nat} (O:OwnZ 4 h0 h v n (L.flatMap Fc.l)) (hn:L=[]→v= .nils):∀t' o n',v= .sl t' o n' 4→Go.Ae.isCell (h.get t')=true:=by
 intro t' o n' e
 obtain⟨hl,⟨e1,_⟩|⟨t,st,e1,hg,_⟩⟩:=O
 ·rw[e1]at e;cases e
 ·rw[e1]at e
  injection e with e
  subst e
  rw[hg]
  refine isCell_flat fun eL=>?_
  rw[hn eL]at e1;cases e1
theorem OwnZ.wpz {n b u:Nat} {cs xs:List AV} (hu:u=h.next) (G:Grs h0 h) (O:OwnZ z h0 h v n cs) (hx:xs.length=z) (hz:0<z) (hl:(n+1)*b≤140737488355328) (hl2:n+1≤140737488355328)
  (hk:∀v' h',Grs h0 h'→OwnZ z h0 h' v' (n+1) (cs++xs)→(∀t,t<h.next→(∀t' o n',v= .sl t' o n' z→t≠t')→h'.get t=h.get t)→h.next≤h'.next→h.clk≤h'.clk→(∀t' o n',v'= .sl t' o n' z→h.next<t')→v'≠ .nils→K v' h'):Some2 (appA (h.push fun st=> .row xs true st) z b v (.sl u 0 1 z)) K:=by
 subst hu
 have hc:cellsOf (h.push fun st=> .row xs true st) z (.sl h.next 0 1 z)=some xs:=cells_z Hp.push_same hx
 have hn0:=G.next
 obtain⟨hlen,⟨rfl,rfl⟩|⟨t,st,rfl,hg,h1,h2,h3⟩⟩:=O
 ·have hcs:cs=[]:=List.length_eq_zero_iff.1 (by omega)
  subst hcs
  have e:appA (h.push fun st=> .row xs true st) z b .nils (.sl h.next 0 1 z)=some (.sl (h.next+1) 0 1 z,(h.push fun st=> .row xs true st).push fun st=> .row xs true st):=by
   unfold appA
   rw[hc]
   simp only[lenA]
   rw[if_pos ⟨by omega,by omega,by omega⟩]
   rfl
  rw[e]
  refine hk _ _ G.push.push ⟨by simp[hx],.inr ⟨h.next+1,(h.push fun st=> .row xs true st).clk+1,rfl,Hp.push_same,by omega,?_,Nat.le_refl _⟩⟩ (fun t ht _=>?_) ?_ ?_ (fun t' o n' e=>?_) (fun e=>nomatch e)
  ·show h.next+1<h.next+1+1;omega
  ·rw[Hp.push_other (by show t≠h.next+1;omega),Hp.push_other (by omega)]
  ·show h.next≤h.next+1+1;omega
  ·show h.clk≤h.clk+1+1;omega
  ·injection e with e;omega
 ·have hgt:(h.push fun st=> .row xs true st).get t=some (.row cs true st):=(Hp.push_other (by omega)).trans hg
  have e:appA (h.push fun st=> .row xs true st) z b (.sl t 0 n z) (.sl h.next 0 1 z)=some (.sl (h.next+1) 0 (n+1) z,((h.push fun st=> .row xs true st).put t fun s=> .dead s).push fun st=> .row (cs++xs) true st):=by
   unfold appA
   rw[hc]
   simp only[lenA]
   rw[hgt]
   simp only
   rw[if_pos ⟨trivial,by omega,hl,hl2⟩]
   simp only[List.drop_zero,←hlen,List.take_length]
   rfl
  rw[e]
  refine hk _ _ ((G.push.put h1).push) ⟨by simp[hx,hlen,Nat.add_mul],.inr ⟨h.next+1,((h.push fun st=> .row xs true st).put t fun s=> .dead s).clk+1,rfl,Hp.push_same,by omega,?_,Nat.le_refl _⟩⟩ (fun t1 ht1 hne=>?_) ?_ ?_ (fun t' o n' e=>?_) (fun e=>nomatch e)
  ·show h.next+1<h.next+1+1;omega
  ·have:=hne t 0 n rfl
   rw[Hp.push_other (by show t1≠h.next+1;omega),Hp.put_other this,Hp.push_other (by omega)]
  ·show h.next≤h.next+1+1;omega
  ·show h.clk≤h.clk+1+1+1;omega
  ·injection e with e;omega
end
end
end Go.Ae
set_option linter.unusedVariables false
set_option linter.unusedSimpArgs false
set_option maxRecDepth 100000
set_option maxHeartbeats 1000000
set_option exponentiation.threshold 5000
namespace Go.Ae
open Bg N Go.Proofs
noncomputable section
section
variable {h h' hp:Hp} {K:AV→Hp→Prop} {tm:T AV} {v va vb s w:AV} {z z':Int} {a b c r:Rat}
theorem d130_2 {t:Nat} {a b:Int} (hA:At h t [.int .i64 a,.int .i64 b]) (ht:t<h.next):Gv E2 130 [.sl t 0 2 1] h (.int .i64 (first2 a b)):=by
 obtain⟨st,hg⟩:=hA
 exact c130_2 hg ht
theorem cmpR_sgR (a b:Rat):cmpR a b=sgR (a-b):=by
 have e1:cmpR a b<0↔a<b:=by
  rw[Rat.lt_iff];unfold cmpR cmpI;split<;>first|omega|(split<;>omega)
 have e2:cmpR a b≤0↔a≤b:=by
  rw[Rat.le_iff];unfold cmpR cmpI;split<;>first|omega|(split<;>omega)
 have e3:cmpR a b= -1∨cmpR a b=0∨cmpR a b=1:=by unfold cmpR cmpI;split<;>first|omega|(split<;>omega)
 have e4:sgR (a-b)= -1∨sgR (a-b)=0∨sgR (a-b)=1:=by unfold sgR;split<;>first|omega|(split<;>omega)
 have e5:=sgR_lt (a:=a) (b:=b)
 have e6:=sgR_le (a:=a) (b:=b)
 by_cases l1:a<b
 ·have:=e1.2 l1;have:=e5.2 l1;omega
 ·have k1:=mt e1.1 l1;have k2:=mt e5.1 l1
  by_cases l2:a≤b
  ·have:=e2.2 l2;have:=e6.2 l2;omega
  ·have k1:=mt e2.1 l2;have k2:=mt e6.1 l2
   omega
theorem d25_2 {t:Nat} {a b:Int} (hA:At h t [.int .i64 a,.int .i64 b]) (ht:t<h.next):Gv E3 25 [.sl t 0 2 1] h (.int .i64 (if a=0 then b else a)):=by
 refine Gv.of (CallWp.fn (fn:=R.a25) rfl rfl rfl ?_)
 unfold R.a25
 obtain⟨st,hg⟩:=hA
 by_cases ha:a=0<;>by_cases hb:b=0
 all_goals(first|rw[if_pos ha]|rw[if_neg ha])
 all_goals repeat' (with_reducible first|simp(disch:=first|exact okD|fail) only[go_sem,seval,Wp.unroll,hg]|(apply Spl.i<;>intro hc))
 all_goals try subst hb
 all_goals first|rfl|exact okG
def numB (have_:List UInt8) (e bad:Int) (want:List UInt8):Bool:=
 let bad':=if bad=0 then(if largeS want then 4 else 0)else bad
 if bad'≠0 then decide (have_=[])&&decide (e=bad')else decide (e=0)&&decide (have_=want)
theorem d81 {x w:List UInt8} {e bad:Int} (hw:w.length≤9223372036854775806):CallWp E3 81 [.str x,.int .i64 e,.int .i64 bad,.str w] h K↔K (.bool (numB x e bad w)) h:=by
 refine CallWp.iff_of (CallWp.fn (fn:=R.a81) rfl rfl rfl ?_)
 unfold R.a81 numB
 by_cases c1:bad=0
 ·cases c2:largeS w
  ·repeat' (with_reducible first|simp(disch:=first|exact okD|fail) only[go_sem,seval,c1,c2,c176 hw]|(apply Spl.i<;>intro hc))
   all_goals simp_all
  ·repeat' (with_reducible first|simp(disch:=first|exact okD|fail) only[go_sem,seval,c1,c2,c176 hw]|(apply Spl.i<;>intro hc))
   all_goals simp_all
 ·repeat' (with_reducible first|simp(disch:=first|exact okD|fail) only[go_sem,seval,c1]|(apply Spl.i<;>intro hc))
  all_goals simp_all
end
end
end Go.Ae
set_option linter.unusedVariables false
set_option linter.unusedSimpArgs false
set_option maxRecDepth 100000
set_option maxHeartbeats 1000000
namespace Go.Ae
open Bg N Go.Proofs
noncomputable section
def mn (a b:Rat):Rat:=if b<a then b else a
def mx (a b:Rat):Rat:=if a<b then b else a
section
variable {h h' h0 hp:Hp} {K:AV→Hp→Prop} {tm:T AV} {v va vb s w:AV} {z:Nat} {a b c r:Rat} {L:List Fc} {l:List Rat} {x:Fc}
end
end
end Go.Ae
set_option linter.unusedVariables false
set_option linter.unusedSimpArgs false
set_option maxRecDepth 100000
set_option maxHeartbeats 16000000
set_option exponentiation.threshold 5000
namespace Go.Ae
open Bg N Go.Proofs
noncomputable section
section
variable {h h' h0 hp:Hp} {K:AV→Hp→Prop} {tm:T AV} {v va vb s w:AV} {z:Nat} {a b c d r:Rat} {L:List Fc} {l:List Rat} {x:Fc}
theorem OwnZ.lt {z n t o n':Nat} {cs:List AV} (O:OwnZ z h0 h v n cs) (e:v= .sl t o n' z):t<h.next:=by
 obtain⟨_,⟨e1,_⟩|⟨t1,st,e1,_,_,h2,_⟩⟩:=O
 ·rw[e1]at e;cases e
 ·rw[e1]at e;injection e with e;omega
end
end
end Go.Ae
set_option maxRecDepth 100000
namespace Go.Ae.Ha
open AOp Opd C
def tab:T AFn:= .nil
section
open Go.Proofs
theorem all:T.Forall Chk tab (fun n=>n):=trivial
theorem good (n:Nat) (a:AFn) (h:tab.get n=some a):chk Tryz.prog n=some a:=T.get_forall tab (fun n=>n) all n a h
end
end Go.Ae.Ha
set_option linter.unusedVariables false
set_option linter.unusedSimpArgs false
set_option maxRecDepth 100000
set_option maxHeartbeats 2000000
set_option exponentiation.threshold 5000
namespace Go.Ae
open Bg N Go.Proofs
noncomputable section
theorem num_txt (r:Rat):numS (txtR r)=txtZ r.num:=by
 unfold numS
 rw[slash_txt r]
 unfold txtR
 split
 ·rw[List.take_length]
 ·rw[List.take_left]
theorem den_txt (r:Rat):denS (txtR r)=decP r.den 1:=by
 unfold denS
 rw[slash_txt r]
 unfold txtR
 split
 ·rename_i h
  rw[if_pos rfl,h]
  decide+kernel
 ·rw[if_neg (by simp),←List.drop_drop,List.drop_left,txtZ_nat];rfl
theorem abs_txt (z:Int):absS (txtZ z)=decP z.natAbs 1:=by
 have hz:txtZ z=txtR (Rat.divInt z 1):=by
  unfold txtR
  rw[(divInt_one (p:=z)).2,(divInt_one (p:=z)).1,if_pos rfl]
 have hs:=sgn_txtR (Rat.divInt z 1)
 rw[←hz,(divInt_one (p:=z)).1]at hs
 unfold absS
 rw[hs]
 unfold txtZ
 by_cases c:z<0
 ·rw[if_pos c,if_pos (by decide),if_pos c];rfl
 ·rw[if_neg c,if_neg (by split<;>decide),if_neg c]
def EH:Env:=EF.add Ha.tab
theorem geH:Ge EF EH:=Ge.add _ _
section
variable {h h' h0 hp:Hp} {K:AV→Hp→Prop} {tm:T AV} {v va vb w:AV} {a b c d r:Rat} {s u s' u' p q:List UInt8} {e:Int} {n:Nat}
theorem g0 {f:Nat} {args:List AV} {v:AV} (hc:Gv EF f args h v):Gv EH f args h v:=hc.ge fun _ _ _ hk=>hk.ge geH
theorem g3 {f:Nat} {args:List AV} {v:AV} (hc:Gv E3 f args h v):Gv EH f args h v:=g0 (f3 hc)
end
end
end Go.Ae
set_option maxRecDepth 100000
namespace Go.Ae.Hc
open AOp Opd C
def a12:AFn:=⟨50,[.tmp 4],(q [o 4 (.mv (.k (.bool false)))]
 (.seq (q [c 8 17 [],y 9 .not 8,v 10 9,g 11 (m 0) 10 false,gc 12 77 [.t 11,i 70,i 60] 10 false,g 13 (.un .not (.t 12)) 10 false,pt 14 10 13,v 15 14,g 16 (m 1) 15 false,g 17 (.len .str (.t 16)) 15 false,gb 18 .gtr (.t 17) (i 60) 15 false,pt 19 15 18]
 (k 19 (q [c 20 17 [],v 4 20]
 .ret)))
 (q [v 21 0,c 22 78 [.t 21],v 5 22]
 (.seq (q [v 23 0,c 24 79 [.t 23],v 25 5,bt 26 .neq 24 25]
 (k 26 (q [o 4 (.mv (.k (.bool false)))]
 .ret)))
 (q [v 28 0,v 29 1,c 30 80 [.t 28,.t 29],v 27 30,e 31 27 0,e 32 27 1,v 6 31,v 7 32]
 (q [v 33 5,v 34 1,c 35 19 [.t 34],o 36 (.bslice 1 2 [.int .i64 0,.int .i64 0] [(0,1,(.t 33)),(1,1,(.t 35))]),c 37 25 [.t 36],v 5 37]
 (.seq (q [v 38 5,bi 39 .neq 38 0]
 (k 39 (q [v 40 6,v 41 7,v 42 5,c 43 81 [.t 40,.t 41,.t 42,(.k (.str []))],v 4 43]
 .ret)))
 (q [v 44 6,v 45 7,v 46 0,v 47 1,c 48 82 [.t 46,.t 47],c 49 81 [.t 44,.t 45,i 0,.t 48],v 4 49]
 .ret))))))))⟩
def a77:AFn:=⟨36,[.tmp 6],(q [o 6 (.mv (.k (.bool false)))]
 (.seq (q [v 8 0,ln 9 8,v 10 1,bt 11 .gtr 9 10]
 (k 11 (q [o 6 (.mv (.k (.bool false)))]
 .ret)))
 (.seq (q [vi 7 0]
 (.block 0 (.loop (.seq (q [v 12 7,v 13 0,ln 14 13,bt 15 .lss 12 14]
 (.cond (.t 15) .skip
 (.exit 0)))
 (.seq (.block 1 (q [v 18 0,v 19 7,ix 20 2 18 19,fa 21 0 20,l 22 false 1 21,ls 23 22,v 24 2,bt 25 .gtr 23 24,v 26 25,g 27 (m 0) 26 false,g 28 (m 7) 26 false,g 29 (.iadr 2 (.t 27) (.t 28)) 26 false,g 30 (.fadr 1 (.t 29)) 26 false,gl 31 false 1 30 26 false,g 32 (.len .str (.t 31)) 26 false,g 33 (m 2) 26 false,gb 34 .gtr (.t 32) (.t 33) 26 false,pt 35 26 34]
 (k 35 (q [o 6 (.mv (.k (.bool false)))]
 .ret))))
 (.reg [v 16 7,bi 17 .add 16 1,v 7 17]))))))
 (q [o 6 (.mv (.k (.bool true)))]
 .ret))))⟩
def a78:AFn:=⟨53,[.tmp 2],(q [vi 2 0]
 (.seq (q [v 5 0,ln 6 5,bi 7 .eql 6 0]
 (k 7 (q [vi 2 12]
 .ret)))
 (.seq (q [v 8 0,ln 9 8,bi 10 .gtr 9 64]
 (k 10 (q [vi 2 5]
 .ret)))
 (.seq (q [vi 3 0]
 (.block 0 (.loop (.seq (q [v 11 3,v 12 0,ln 13 12,bt 14 .lss 11 13]
 (.cond (.t 14) .skip
 (.exit 0)))
 (.seq (.block 1 (.seq (.dreg [v 17 0,v 18 3,ix 19 2 17 18,fa 20 0 19,w 21 false 1 20 4,v 22 0,v 23 3,ix 24 2 22 23,fa 25 1 24,w 26 false 1 25 9,o 27 (.bslice 1 2 zS [(0,1,(.t 21)),(1,1,(.t 26))]),c 28 56 [.t 27],v 4 28])
 (.seq (.seq (.dreg [v 29 4,bi 30 .eql 29 0,v 31 30,g 32 (m 3) 31 true,gb 33 .gtr (.t 32) (i 0) 31 true,pf 34 31 33,v 35 34,g 36 (m 0) 35 true,g 37 (m 3) 35 true,g 38 (.iadr 2 (.t 36) (.t 37)) 35 true,g 39 (.fadr 0 (.t 38)) 35 true,x 40 false 1 39 35 true 11,g 41 (m 0) 35 true,g 42 (m 3) 35 true,gb 43 .sub (.t 42) (i 1) 35 true,g 44 (.iadr 2 (.t 41) (.t 43)) 35 true,g 45 (.fadr 0 (.t 44)) 35 true,x 46 false 1 45 35 true 17,gc 47 75 [.t 40,.t 46] 35 true,gb 48 .leq (.t 47) (i 0) 35 true,pf 49 35 48])
 (k 49 (.reg [vi 4 11])))
 (q [v 50 4,bi 51 .neq 50 0]
 (k 51 (q [v 52 4,v 2 52]
 .ret))))))
 (.reg [v 15 3,bi 16 .add 15 1,v 3 16]))))))
 (q [vi 2 0]
 .ret)))))⟩
def a79:AFn:=⟨11,[.tmp 2],(q [vi 2 0]
 (q [v 6 0,c 7 174 [.t 6],v 5 7,e 8 5 0,e 9 5 1,v 3 8,v 4 9]
 (q [v 10 4,v 2 10]
 .ret)))⟩
def a82:AFn:=⟨67,[.tmp 4],(q [o 4 (.mv (.k (.str [])))]
 (.seq (q [v 9 1,v 10 0,o 11 (.iadr 2 (.t 10) (i 0)),fa 12 0 11,l 13 false 1 12,c 14 75 [.t 9,.t 13],bi 15 .leq 14 0]
 (k 15 (q [v 16 0,o 17 (.iadr 2 (.t 16) (i 0)),fa 18 1 17,l 19 false 1 18,v 4 19]
 .ret)))
 (.seq (q [vi 5 1]
 (.block 0 (.loop (.seq (q [v 20 5,v 21 0,ln 22 21,bt 23 .lss 20 22]
 (.cond (.t 23) .skip
 (.exit 0)))
 (.seq (.block 1 (.seq (.dreg [v 26 0,v 27 5,bi 28 .sub 27 1,ix 29 2 26 28,w 30 true 2 29 4,v 31 0,v 32 5,ix 33 2 31 32,w 34 true 2 33 11,o 6 (.alloc zS),o 7 (.alloc zS),s 2 6 30,s 2 7 34])
 (q [v 35 1,fa 36 0 7,l 37 false 1 36,c 38 75 [.t 35,.t 37],bi 39 .leq 38 0]
 (k 39 (.seq (.dreg [v 40 1,fa 41 0 6,w 42 false 1 41 2,c 43 73 [.t 40,.t 42],fa 44 0 7,w 45 false 1 44 5,fa 46 0 6,w 47 false 1 46 7,c 48 73 [.t 45,.t 47],c 49 76 [.t 43,.t 48],v 8 49])
 (.seq (.dreg [fa 50 1 6,w 51 false 1 50 8,v 52 8,fa 53 1 7,w 54 false 1 53 4,fa 55 1 6,w 56 false 1 55 6,c 57 73 [.t 54,.t 56],c 58 74 [.t 52,.t 57],c 59 72 [.t 51,.t 58],v 4 59])
 .ret))))))
 (.reg [v 24 5,bi 25 .add 24 1,v 5 25]))))))
 (q [v 60 0,v 61 0,ln 62 61,bi 63 .sub 62 1,ix 64 2 60 63,fa 65 1 64,l 66 false 1 65,v 4 66]
 .ret))))⟩
def tab:T AFn:=(.node (.node (.node (.node (.node .nil none (.node (.node .nil (some a79) .nil) none .nil)) none .nil) none .nil) none (.node .nil none (.node .nil none (.node (.node (.node .nil (some a77) .nil) none .nil) none .nil)))) none (.node (.node .nil none (.node .nil (some a12) .nil)) none (.node (.node (.node .nil none (.node (.node .nil (some a82) .nil) none .nil)) none .nil) none (.node .nil none (.node (.node (.node .nil (some a78) .nil) none .nil) none .nil)))))
section
open Go.Proofs
theorem b12:Chk 12 a12:=by unfold Chk;kernel_rfl
theorem b77:Chk 77 a77:=by unfold Chk;kernel_rfl
theorem b78:Chk 78 a78:=by unfold Chk;kernel_rfl
theorem b79:Chk 79 a79:=by unfold Chk;kernel_rfl
theorem b82:Chk 82 a82:=by unfold Chk;kernel_rfl
theorem all:T.Forall Chk tab (fun n=>n):=⟨C.no,⟨C.no,⟨C.no,⟨C.no,⟨C.no,trivial,⟨C.no,⟨C.yes b79,trivial,trivial⟩,trivial⟩⟩,trivial⟩,trivial⟩,⟨C.no,trivial,⟨C.no,trivial,⟨C.no,⟨C.no,⟨C.yes b77,trivial,trivial⟩,trivial⟩,trivial⟩⟩⟩⟩,⟨C.no,⟨C.no,trivial,⟨C.yes b12,trivial,trivial⟩⟩,⟨C.no,⟨C.no,⟨C.no,trivial,⟨C.no,⟨C.yes b82,trivial,trivial⟩,trivial⟩⟩,trivial⟩,⟨C.no,trivial,⟨C.no,⟨C.no,⟨C.yes b78,trivial,trivial⟩,trivial⟩,trivial⟩⟩⟩⟩⟩
theorem good (n:Nat) (a:AFn) (h:tab.get n=some a):chk Tryz.prog n=some a:=T.get_forall tab (fun n=>n) all n a h
end
end Go.Ae.Hc
set_option linter.unusedVariables false
set_option linter.unusedSimpArgs false
set_option maxRecDepth 100000
set_option maxHeartbeats 4000000
set_option exponentiation.threshold 5000
namespace Go.Ae
open Bg N Go.Proofs
noncomputable section
structure Pt where
 x:List UInt8
 y:List UInt8
def Pt.l (p:Pt):List AV:=[.str p.x,.str p.y]
theorem Pt.l_len (p:Pt):p.l.length=2:=rfl
def pAt (l:List Pt) (i:Nat):Pt:=l.getD i ⟨[],[]⟩
def eAt (l:List Pt) (i:Nat):Int:=if chk2 (pAt l i).x (pAt l i).y≠0 then chk2 (pAt l i).x (pAt l i).y else if 0<i∧valS (pAt l i).x≤valS (pAt l (i-1)).x then 11 else 0
def scanE (f:Nat→Int):Nat→Nat→Int
 |0,_=>0
 |k+1,i=>if f i≠0 then f i else scanE f k (i+1)
def tabE (l:List Pt):Int:=if l.length=0 then 12 else if 64<l.length then 5 else scanE (eAt l) l.length 0
def shortT (l:List Pt):Prop:=l.length≤70∧∀p∈l,p.x.length≤60∧p.y.length≤60
instance {l:List Pt}:Decidable (shortT l):=by unfold shortT;infer_instance
theorem pAt_get {l:List Pt} {i:Nat} (hi:i<l.length):l[i]=pAt l i:=by unfold pAt;rw[List.getD_eq_getElem?_getD,List.getElem?_eq_getElem hi];rfl
theorem eAt_bad {l:List Pt} {i:Nat} (h:chk2 (pAt l i).x (pAt l i).y≠0):eAt l i=chk2 (pAt l i).x (pAt l i).y:=if_pos h
theorem eAt_ord {l:List Pt} {i:Nat} (h:chk2 (pAt l i).x (pAt l i).y=0) (h0:0<i) (h1:valS (pAt l i).x≤valS (pAt l (i-1)).x):eAt l i=11:=by
 unfold eAt;rw[if_neg (by simpa using h),if_pos ⟨h0,h1⟩]
theorem eAt_ok {l:List Pt} {i:Nat} (h:chk2 (pAt l i).x (pAt l i).y=0) (h1:¬(0<i∧valS (pAt l i).x≤valS (pAt l (i-1)).x)):eAt l i=0:=by
 unfold eAt;rw[if_neg (by simpa using h),if_neg h1]
theorem eAt_zero {l:List Pt} {i:Nat} (h:eAt l i=0):checkV (pAt l i).x=0∧checkV (pAt l i).y=0∧(0<i→valS (pAt l (i-1)).x<valS (pAt l i).x):=by
 unfold eAt at h
 by_cases c:chk2 (pAt l i).x (pAt l i).y≠0
 ·rw[if_pos c]at h;exact absurd h c
 ·rw[if_neg c]at h
  obtain⟨z1,z2⟩:=chk2_zero (by simpa using c)
  refine⟨z1,z2,fun h0=>?_⟩
  by_cases g:0<i∧valS (pAt l i).x≤valS (pAt l (i-1)).x
  ·rw[if_pos g]at h;omega
  ·exact Rat.not_le.1 fun e=>g ⟨h0,e⟩
theorem scanE_stop {f:Nat→Int} {k i:Nat} (h:f i≠0) (hk:0<k):scanE f k i=f i:=by
 cases k with
 |zero=>omega
 |succ k=>rw[scanE,if_pos h]
theorem scanE_next {f:Nat→Int} {k i:Nat} (h:f i=0) (hk:0<k):scanE f k i=scanE f (k-1) (i+1):=by
 cases k with
 |zero=>omega
 |succ k=>rw[scanE,if_neg (by simpa using h)];rfl
theorem scanE_zero {f:Nat→Int}:∀{k i:Nat},scanE f k i=0→∀j,i≤j→j<i+k→f j=0
 |0,i,_,j,h1,h2=>by omega
 | k +1,i,h,j,h1,h2=>by
  rw[scanE]at h
  by_cases c:f i≠0
  ·rw[if_pos c]at h;exact absurd h c
  ·rw[if_neg c]at h
   rcases Nat.eq_or_lt_of_le h1 with e|e
   ·rw[←e];simpa using c
   ·exact scanE_zero h j e (by omega)
def EJ:Env:=EF.add Hc.tab
theorem geJ:Ge EF EJ:=Ge.add _ _
section
variable {h h' h0 hp:Hp} {K:AV→Hp→Prop} {tm:T AV} {v va vb w:AV} {a b c d r:Rat} {s u p q:List UInt8} {e:Int} {n:Nat} {l:List Pt}
theorem j0 {f:Nat} {args:List AV} {v:AV} (hc:Gv EF f args h v):Gv EJ f args h v:=hc.ge fun _ _ _ hk=>hk.ge geJ
theorem j3 {f:Nat} {args:List AV} {v:AV} (hc:Gv E3 f args h v):Gv EJ f args h v:=j0 (f3 hc)
theorem ju2 {f:Nat} {args:List AV} {h':Hp} {v:AV} (hc:∀K,CallWp E2 f args h K↔K v h'):CallWp EJ f args h K↔K v h':=up geJ fun K=>fu2 hc
theorem d77 (hS:RowS 2 h v l.length (l.flatMap Pt.l)):Gv EJ 77 [v,.int .i64 70,.int .i64 60] h (.bool (decide (shortT l))):=by
 refine Gv.of (CallWp.fn (fn:=Hc.a77) rfl rfl rfl ?_)
 unfold Hc.a77
 have hls:=hS.1
 have ln:=hS.rz.len
 by_cases h1:70<l.length
 ·have h1':(70:Int)<l.length:=by omega
  rw[decide_eq_false (fun e:shortT l=>by have:=e.1;omega)]
  repeat' (with_reducible first|simp(disch:=first|exact okD|fail) only[go_sem,seval,ln,h1']|(apply Spl.i<;>intro hc))
  all_goals exact okG
 have h1':¬(70:Int)<l.length:=by omega
 repeat' (with_reducible first|simp(disch:=first|exact okD|fail) only[go_sem,seval,ln,h1']|(apply Spl.i<;>intro hc))
 refine Wp.loopI (fun m s=>∃(i:Nat),val s.tm (.t 0)=v∧val s.tm (.t 2)= .int .i64 60∧val s.tm (.t 7)= .int .i64 i∧
  s.hp=h∧i≤l.length∧(∀p∈l.take i,p.x.length≤60∧p.y.length≤60)∧l.length-i=m) (n:=l.length) ?_ ?_
 ·exact⟨0,by simp(disch:=first|exact okD|fail) only[go_sem,seval],by simp(disch:=first|exact okD|fail) only[go_sem,seval],by(simp(disch:=first|exact okD|fail) only[go_sem,seval])<;>rfl,rfl,Nat.zero_le _,by simp,rfl⟩
 ·rintro m ⟨tm,hp⟩ ⟨i,k0,k2,k7,rfl,hle,hok,rfl⟩
  simp only at k0 k2 k7
  have rz:=hS.rz
  by_cases hlt:i<l.length
  ·have hlt':(i:Int)<l.length:=by omega
   have ad:=rz.adr
   obtain⟨own,st,hg,ht,hst⟩:=rz.get (by omega)
   have hx:(l.flatMap Pt.l)[i*2]?=some (.str l[i].x):=flat_get (j:=0) Pt.l_len hlt (by decide)
   have hy:(l.flatMap Pt.l)[i*2+1]?=some (.str l[i].y):=flat_get (j:=1) Pt.l_len hlt (by decide)
   have hlx:i*2+1≤(l.flatMap Pt.l).length:=by omega
   have hly:i*2+1+1≤(l.flatMap Pt.l).length:=by omega
   have htk:l.take (i+1)=l.take i++[l[i]]:=by rw[List.take_add_one];simp[hlt]
   have mem:l[i]∈l:=List.getElem_mem hlt
   generalize l[i]=k at *
   by_cases c1:60<k.x.length
   ·have c1':(60:Int)<k.x.length:=by omega
    rw[decide_eq_false (fun e:shortT l=>by have:=(e.2 k mem).1;omega)]
    repeat' (with_reducible first|simp(disch:=first|exact okD|fail) only[go_sem,seval,k0,k2,k7,ln,ad,hlt',hg,hx,hy,hlx,hly,c1']|(apply Spl.i<;>intro hc))
    all_goals exact okG
   ·have c1':¬(60:Int)<k.x.length:=by omega
    by_cases c2:60<k.y.length
    ·have c2':(60:Int)<k.y.length:=by omega
     rw[decide_eq_false (fun e:shortT l=>by have:=(e.2 k mem).2;omega)]
     repeat' (with_reducible first|simp(disch:=first|exact okD|fail) only[go_sem,seval,k0,k2,k7,ln,ad,hlt',hg,hx,hy,hlx,hly,c1',c2']|(apply Spl.i<;>intro hc))
     all_goals exact okG
    ·have c2':¬(60:Int)<k.y.length:=by omega
     repeat' (with_reducible first|simp(disch:=first|exact okD|fail) only[go_sem,seval,k0,k2,k7,ln,ad,hlt',hg,hx,hy,hlx,hly,c1',c2']|(apply Spl.i<;>intro hc))
     refine⟨_,by omega,i+1,rfl,hlt,?_,rfl⟩
     intro q hq
     rw[htk,List.mem_append]at hq
     rcases hq with hq|hq
     ·exact hok q hq
     ·simp only[List.mem_singleton]at hq;subst hq;omega
  ·have hlt':¬(i:Int)<l.length:=by omega
   obtain rfl:i=l.length:=by omega
   rw[List.take_length]at hok
   rw[decide_eq_true (show shortT l from⟨by omega,hok⟩)]
   repeat' (with_reducible first|simp(disch:=first|exact okD|fail) only[go_sem,seval,k0,k2,k7,ln,hlt']|(apply Spl.i<;>intro hc))
   all_goals exact okG
end
end
end Go.Ae
set_option linter.unusedVariables false
set_option linter.unusedSimpArgs false
set_option maxRecDepth 100000
set_option maxHeartbeats 8000000
set_option exponentiation.threshold 5000
namespace Go.Ae
open Bg N Go.Proofs
noncomputable section
section
variable {h h' h0 hp:Hp} {K:AV→Hp→Prop} {tm:T AV} {v va vb w:AV} {a b c d r:Rat} {s u p q:List UInt8} {e:Int} {n:Nat} {l:List Pt}
def len6 (l:List Pt):Prop:=∀i,(pAt l i).x.length≤60∧(pAt l i).y.length≤60
theorem len6_of (h:shortT l):len6 l:=fun i=>by
 by_cases hi:i<l.length
 ·rw[←pAt_get hi];exact h.2 _ (List.getElem_mem hi)
 ·unfold pAt
  rw[List.getD_eq_getElem?_getD,List.getElem?_eq_none (by omega)]
  exact⟨Nat.zero_le _,Nat.zero_le _⟩
theorem d78 (hS:RowS 2 h v l.length (l.flatMap Pt.l)) (h6:len6 l):Gv EJ 78 [v] h (.int .i64 (tabE l)):=by
 refine Gv.of (CallWp.fn (fn:=Hc.a78) rfl rfl rfl ?_)
 unfold Hc.a78
 have hls:=hS.1
 have ln:=hS.rz.len
 unfold tabE
 by_cases h0:l.length=0
 ·have h0':(l.length:Int)=0:=by omega
  rw[if_pos h0]
  repeat' (with_reducible first|simp(disch:=first|exact okD|fail) only[go_sem,seval,ln,h0']|(apply Spl.i<;>intro hc))
  all_goals exact okG
 have h0':¬(l.length:Int)=0:=by omega
 rw[if_neg h0]
 by_cases h1:64<l.length
 ·have h1':(64:Int)<l.length:=by omega
  rw[if_pos h1]
  repeat' (with_reducible first|simp(disch:=first|exact okD|fail) only[go_sem,seval,ln,h0',h1']|(apply Spl.i<;>intro hc))
  all_goals exact okG
 have h1':¬(64:Int)<l.length:=by omega
 rw[if_neg h1]
 repeat' (with_reducible first|simp(disch:=first|exact okD|fail) only[go_sem,seval,ln,h0',h1']|(apply Spl.i<;>intro hc))
 refine Wp.loopI (fun m s=>∃(i:Nat),val s.tm (.t 0)=v∧val s.tm (.t 3)= .int .i64 i∧
  Grs h s.hp∧i≤l.length∧(∀k,k<i→eAt l k=0)∧scanE (eAt l) (l.length-i) i=scanE (eAt l) l.length 0∧l.length-i=m) (n:=l.length) ?_ ?_
 ·exact⟨0,by simp(disch:=first|exact okD|fail) only[go_sem,seval],by(simp(disch:=first|exact okD|fail) only[go_sem,seval])<;>rfl,Grs.refl _,Nat.zero_le _,fun k hk=>absurd hk (Nat.not_lt_zero _),rfl,rfl⟩
 ·rintro m ⟨tm,hp⟩ ⟨i,k0,k3,hG,hle,hz,hsc,rfl⟩
  simp only at k0 k3 hG
  have rz:=(hS.grs hG).rz
  by_cases hlt:i<l.length
  ·have hlt':(i:Int)<l.length:=by omega
   have hlt1:i+1≤l.length:=hlt
   have ad:=rz.adr
   obtain⟨own,st,hg,ht,hst⟩:=rz.get (by omega)
   have hx:(l.flatMap Pt.l)[i*2]?=some (.str l[i].x):=flat_get (j:=0) Pt.l_len hlt (by decide)
   have hy:(l.flatMap Pt.l)[i*2+1]?=some (.str l[i].y):=flat_get (j:=1) Pt.l_len hlt (by decide)
   have hlx:i*2+1≤(l.flatMap Pt.l).length:=by omega
   have hly:i*2+1+1≤(l.flatMap Pt.l).length:=by omega
   rw[pAt_get hlt]at hx hy
   obtain⟨lx,ly⟩:=h6 i
   have f56:=fun{h:Hp} {t:Nat} hA ht=>j3 (d56_2 (h:=h) (t:=t) (s:=(pAt l i).x) (u:=(pAt l i).y) hA ht (by omega) (by omega))
   rw[←hsc]
   by_cases c1:chk2 (pAt l i).x (pAt l i).y=0
   ·rw [c1]at f56
    by_cases c2:0<i
    ·have c2':(0:Int)<i:=by omega
     have hlt2:i-1<l.length:=by omega
     have et:((i:Int)-1).toNat=i-1:=by omega
     have g1:(0:Int)≤(i:Int)-1:=by omega
     have g2:(i:Int)-1<l.length:=by omega
     have hx':(l.flatMap Pt.l)[(i-1)*2]?=some (.str l[i-1].x):=flat_get (j:=0) Pt.l_len hlt2 (by decide)
     have hlx':(i-1)*2+1≤(l.flatMap Pt.l).length:=by omega
     rw[pAt_get hlt2]at hx'
     obtain⟨z1,_⟩:=chk2_zero c1
     obtain⟨z2,_,_⟩:=eAt_zero (hz (i-1) (by omega))
     obtain⟨t1,o1⟩:=txtR_valS z1
     obtain⟨t2,o2⟩:=txtR_valS z2
     have f75:=fun h=>j3 (d75 (h:=h) ((ok_Br o1).mono (by decide:67≤2000)) ((ok_Br o2).mono (by decide:67≤2000)))
     rw[←t1,←t2]at f75
     by_cases c3:valS (pAt l i).x≤valS (pAt l (i-1)).x
     ·have c3':=sgR_le.2 c3
      rw[scanE_stop (by rw[eAt_ord c1 c2 c3];decide) (by omega),eAt_ord c1 c2 c3]
      repeat' (with_reducible first|simp(disch:=first|exact okD|fail) only[go_sem,seval,k0,k3,ln,ad,hlt',hg,hx,hy,hlx,hly,c2',et,g1,g2,hx',hlx',c3']|(refine Gv.wp (f56 okA okO) fun _ _ _ _=>?_)|(refine Gv.wp (f75 _) fun _ _ _ _=>?_)|(apply Spl.i<;>intro hc))
      all_goals exact hG.trans okG
     ·have c3':¬sgR (valS (pAt l i).x-valS (pAt l (i-1)).x)≤0:=fun e=>c3 (sgR_le.1 e)
      have e0:eAt l i=0:=eAt_ok c1 fun e=>c3 e.2
      repeat' (with_reducible first|simp(disch:=first|exact okD|fail) only[go_sem,seval,k0,k3,ln,ad,hlt',hg,hx,hy,hlx,hly,c2',et,g1,g2,hx',hlx',c3']|(refine Gv.wp (f56 okA okO) fun _ _ _ _=>?_)|(refine Gv.wp (f75 _) fun _ _ _ _=>?_)|(apply Spl.i<;>intro hc))
      refine⟨_,by omega,i+1,rfl,hG.trans okG,hlt1,?_,(scanE_next (k:=l.length-i) e0 (by omega)).symm,rfl⟩
      intro k hk
      rcases Nat.lt_or_ge k i with hk'|hk'
      ·exact hz k hk'
      ·rwa[show k=i by omega]
    ·have c2':¬(0:Int)<i:=by omega
     have e0:eAt l i=0:=eAt_ok c1 fun e=>c2 e.1
     repeat' (with_reducible first|simp(disch:=first|exact okD|fail) only[go_sem,seval,k0,k3,ln,ad,hlt',hg,hx,hy,hlx,hly,c2']|(refine Gv.wp (f56 okA okO) fun _ _ _ _=>?_)|(apply Spl.i<;>intro hc))
     refine⟨_,by omega,i+1,rfl,hG.trans okG,hlt1,?_,(scanE_next (k:=l.length-i) e0 (by omega)).symm,rfl⟩
     intro k hk
     rcases Nat.lt_or_ge k i with hk'|hk'
     ·exact hz k hk'
     ·rwa[show k=i by omega]
   ·rw[scanE_stop (by rw[eAt_bad c1];exact c1) (by omega),eAt_bad c1]
    repeat' (with_reducible first|simp(disch:=first|exact okD|fail) only[go_sem,seval,k0,k3,ln,ad,hlt',hg,hx,hy,hlx,hly,c1]|(refine Gv.wp (f56 okA okO) fun _ _ _ _=>?_)|(apply Spl.i<;>intro hc))
    all_goals exact hG.trans okG
  ·have hlt':¬(i:Int)<l.length:=by omega
   obtain rfl:i=l.length:=by omega
   rw[←hsc,Nat.sub_self]
   repeat' (with_reducible first|simp(disch:=first|exact okD|fail) only[go_sem,seval,k0,k3,ln,hlt']|(apply Spl.i<;>intro hc))
   all_goals exact⟨rfl,hG⟩
end
end
end Go.Ae
set_option linter.unusedVariables false
set_option linter.unusedSimpArgs false
set_option maxRecDepth 100000
set_option maxHeartbeats 16000000
set_option exponentiation.threshold 5000
namespace Go.Ae
open Bg N Go.Proofs
noncomputable section
section
variable {h h' h0 hp:Hp} {K:AV→Hp→Prop} {tm:T AV} {v va vb w:AV} {a b c d r:Rat} {s u p q:List UInt8} {e:Int} {n z:Nat} {l:List Pt}
abbrev X (l:List Pt) (i:Nat):Rat:=valS (pAt l i).x
abbrev Y (l:List Pt) (i:Nat):Rat:=valS (pAt l i).y
def FrP (h:Hp) (M:List Fc) (l:List Pt) (i:Nat):Prop:=M.length=2*i∧∀k,k<i→IsF h (.agg (M.getD (2*k) Fc.z).l) (X l k)∧IsF h (.agg (M.getD (2*k+1) Fc.z).l) (Y l k)
theorem FrP.nil:FrP h [] l 0:=⟨rfl,fun k hk=>absurd hk (Nat.not_lt_zero _)⟩
theorem FrP.grs {M:List Fc} {i:Nat} (f:FrP h M l i) (g:Grs h h'):FrP h' M l i:=⟨f.1,fun k hk=>⟨(f.2 k hk).1.grs g,(f.2 k hk).2.grs g⟩⟩
theorem FrP.fr {M:List Fc} {i:Nat} {vo:AV} (f:FrP h M l i) (hv:∀t' o n',vo= .sl t' o n' z→isCell (h.get t')=true)
  (fr:∀t,t<h.next→(∀t' o n',vo= .sl t' o n' z→t≠t')→h'.get t=h.get t) (hnx:h.next≤h'.next) (hck:h.clk≤h'.clk):FrP h' M l i:=⟨f.1,fun k hk=>⟨(f.2 k hk).1.fr hv fr hnx hck,(f.2 k hk).2.fr hv fr hnx hck⟩⟩
theorem FrP.snoc {M:List Fc} {i:Nat} {x y:Fc} (f:FrP h M l i) (ix:IsF h (.agg x.l) (X l i)) (iy:IsF h (.agg y.l) (Y l i)):FrP h (M++[x,y]) l (i+1):=by
 refine⟨by simp[f.1];omega,fun k hk=>?_⟩
 have f1:=f.1
 rcases Nat.lt_or_ge k i with c|c
 ·have e1:(M++[x,y]).getD (2*k) Fc.z=M.getD (2*k) Fc.z:=by
   simp only[List.getD_eq_getElem?_getD];rw[List.getElem?_append_left (by omega)]
  have e2:(M++[x,y]).getD (2*k+1) Fc.z=M.getD (2*k+1) Fc.z:=by
   simp only[List.getD_eq_getElem?_getD];rw[List.getElem?_append_left (by omega)]
  rw[e1,e2];exact f.2 k c
 ·obtain rfl:k=i:=by omega
  have e1:(M++[x,y]).getD (2*k) Fc.z=x:=by
   simp only[List.getD_eq_getElem?_getD];rw[List.getElem?_append_right (by omega),f1,Nat.sub_self];rfl
  have e2:(M++[x,y]).getD (2*k+1) Fc.z=y:=by
   simp only[List.getD_eq_getElem?_getD];rw[List.getElem?_append_right (by omega),f1,Nat.add_sub_cancel_left];rfl
  rw[e1,e2];exact⟨ix,iy⟩
theorem fr_cells {M:List Fc} {k:Nat} (hk:k<M.length):List.take 4 (List.drop (k*4) (M.flatMap Fc.l))=(M.getD k Fc.z).l:=by
 have e:M.getD k Fc.z=M[k]:=by rw[List.getD_eq_getElem?_getD,List.getElem?_eq_getElem hk];rfl
 rw[e];exact flat_at Fc.l_len hk
theorem fill44 {x y:Fc} (h1:x.w.one=true) (h2:x.u.one=true) (h3:y.w.one=true) (h4:y.u.one=true):
  fillA [.int .i64 0,.nils,.int .i64 0,.nils,.int .i64 0,.nils,.int .i64 0,.nils] [(0,4,.agg [.int .i64 x.n,x.w,.int .i64 x.d,x.u]),(4,4,.agg [.int .i64 y.n,y.w,.int .i64 y.d,y.u])]=some [.int .i64 x.n,x.w,.int .i64 x.d,x.u,.int .i64 y.n,y.w,.int .i64 y.d,y.u]:=by
 have e1:∀x:Fc,(AV.agg [.int .i64 x.n,x.w,.int .i64 x.d,x.u]).cells=[.int .i64 x.n,x.w,.int .i64 x.d,x.u]:=fun _=>rfl
 rw[fillA_cons (by rw[e1];exact⟨rfl,by simp,by simp only[List.all_cons,List.all_nil,h1,h2,one_int,Bool.and_self]⟩),fillA_cons (by rw[e1];exact⟨rfl,by rw[e1];simp[splice],by simp only[List.all_cons,List.all_nil,h3,h4,one_int,Bool.and_self]⟩),fillA_nil,e1,e1]
 rfl
theorem fill8 {x y:Fc} (h1:x.w.one=true) (h2:x.u.one=true) (h3:y.w.one=true) (h4:y.u.one=true):
  fillA [.int .i64 0,.nils,.int .i64 0,.nils,.int .i64 0,.nils,.int .i64 0,.nils] [(0,8,.agg [.int .i64 x.n,x.w,.int .i64 x.d,x.u,.int .i64 y.n,y.w,.int .i64 y.d,y.u])]=some [.int .i64 x.n,x.w,.int .i64 x.d,x.u,.int .i64 y.n,y.w,.int .i64 y.d,y.u]:=by
 have e1:(AV.agg [.int .i64 x.n,x.w,.int .i64 x.d,x.u,.int .i64 y.n,y.w,.int .i64 y.d,y.u]).cells=[.int .i64 x.n,x.w,.int .i64 x.d,x.u,.int .i64 y.n,y.w,.int .i64 y.d,y.u]:=rfl
 rw[fillA_cons (by rw[e1];exact⟨rfl,by simp,by simp only[List.all_cons,List.all_nil,h1,h2,h3,h4,one_int,Bool.and_self]⟩),fillA_nil,e1]
 rfl
def OpenP (l:List Pt) (r:AV) (h:Hp):Prop:=∃v' M,r= .tup [v',.int .i64 (tabE l)]∧(tabE l=0→RowS 8 h v' l.length (M.flatMap Fc.l)∧FrP h M l l.length)
theorem OwnZ.isCell8 {n:Nat} {M:List Fc} {v:AV} {h0 h:Hp} (O:OwnZ 8 h0 h v n (M.flatMap Fc.l)) (hn:M=[]→v= .nils):∀t' o n',v= .sl t' o n' 8→Go.Ae.isCell (h.get t')=true:=by
 intro t' o n' e
 obtain⟨hl,⟨e1,_⟩|⟨t,st,e1,hg,_⟩⟩:=O
 ·rw[e1]at e;cases e
 ·rw[e1]at e
  injection e with e
  subst e
  rw[hg]
  refine isCell_flat fun eL=>?_
  rw[hn eL]at e1;cases e1
theorem OwnZ.wpzP {z n b u:Nat} {cs xs:List AV} {h0 h:Hp} {v:AV} {K:AV→Hp→Prop} {P:Hp→Prop} (hP:P h) (hu:u=h.next) (G:Grs h0 h) (O:OwnZ z h0 h v n cs) (hx:xs.length=z) (hz:0<z) (hl:(n+1)*b≤140737488355328) (hl2:n+1≤140737488355328)
  (hk:∀H,P H→OwnZ z h0 H v n cs→Grs h0 H→∀v' h',Grs h0 h'→OwnZ z h0 h' v' (n+1) (cs++xs)→(∀t,t<H.next→(∀t' o n',v= .sl t' o n' z→t≠t')→h'.get t=H.get t)→H.next≤h'.next→H.clk≤h'.clk→(∀t' o n',v'= .sl t' o n' z→H.next<t')→v'≠ .nils→K v' h'):Some2 (appA (h.push fun st=> .row xs true st) z b v (.sl u 0 1 z)) K:=
 OwnZ.wpz hu G O hx hz hl hl2 fun v' h' a b c d e f g=>hk h hP O G v' h' a b c d e f g
theorem i174 (hS:RowS 2 h v l.length (l.flatMap Pt.l)) (h6:len6 l) (hl:l.length≤1000000):Gp E2 174 [v] h (OpenP l):=by
 refine Gp.of (CallWp.fn (fn:=C.a174) rfl rfl rfl ?_)
 unfold C.a174
 have hls:=hS.1
 have ln:=hS.rz.len
 have tE:tabE l=if l.length=0 then 12 else if 64<l.length then 5 else scanE (eAt l) l.length 0:=rfl
 by_cases h0:l.length=0
 ·have h0':((l.length:Int)=0)=True:=by simp[h0]
  have h1':(64<(l.length:Int))=False:=by simp[h0]
  have q1:first2 12 0=12:=rfl
  rw[if_pos h0]at tE
  repeat' (with_reducible first|simp(disch:=first|exact okD|fail) only[go_sem,seval,ln,h0',h1',c131,q1,c131t,c131f]|(refine Gv.wp (d130_2 (a:=12) (b:=0) okA okO) fun _ _ _ _=>?_)|(apply Spl.i<;>intro hc))
  exact⟨⟨.nils,[],by rw[tE],fun e=>absurd (tE.symm.trans e) (by decide)⟩,okG⟩
 have h0':((l.length:Int)=0)=False:=by simp;exact fun e=>h0 (by simp[e])
 rw[if_neg h0]at tE
 by_cases h1:64<l.length
 ·have h1':(64<(l.length:Int))=True:=by simp;omega
  have q1:first2 0 5=5:=rfl
  rw[if_pos h1]at tE
  repeat' (with_reducible first|simp(disch:=first|exact okD|fail) only[go_sem,seval,ln,h0',h1',c131,q1,c131t,c131f]|(refine Gv.wp (d130_2 (a:=0) (b:=5) okA okO) fun _ _ _ _=>?_)|(apply Spl.i<;>intro hc))
  exact⟨⟨.nils,[],by rw[tE],fun e=>absurd (tE.symm.trans e) (by decide)⟩,okG⟩
 have h1':(64<(l.length:Int))=False:=by simp;omega
 have q1:first2 0 0=0:=rfl
 rw[if_neg h1]at tE
 repeat' (with_reducible first|simp(disch:=first|exact okD|fail) only[go_sem,seval,ln,h0',h1',c131,q1,c131t,c131f]|(refine Gv.wp (d130_2 (a:=0) (b:=0) okA okO) fun _ _ _ _=>?_)|(apply Spl.i<;>intro hc))
 refine Wp.loopI (fun m s=>∃(i:Nat) (v5:AV) (M:List Fc),val s.tm (.t 5)=v5∧val s.tm (.t 23)=v∧val s.tm (.t 24)= .int .i64 l.length∧val s.tm (.t 25)= .int .i64 i∧
  Grs h s.hp∧OwnZ 8 h s.hp v5 i (M.flatMap Fc.l)∧FrP s.hp M l i∧(M=[]→v5= .nils)∧i≤l.length∧(∀k,k<i→eAt l k=0)∧scanE (eAt l) (l.length-i) i=scanE (eAt l) l.length 0∧l.length-i=m) (n:=l.length) ?_ ?_
 ·refine⟨0,.nils,[],by simp(disch:=first|exact okD|fail) only[go_sem,seval],by simp(disch:=first|exact okD|fail) only[go_sem,seval],by simp(disch:=first|exact okD|fail) only[go_sem,seval,ln],by(simp(disch:=first|exact okD|fail) only[go_sem,seval])<;>rfl,?_,OwnZ.nil,FrP.nil,fun _=>rfl,Nat.zero_le _,fun k hk=>absurd hk (Nat.not_lt_zero _),rfl,rfl⟩
  dsimp only
  exact okG
 ·rintro m ⟨tm,hp⟩ ⟨i,v5,M,k5,k23,k24,k25,hG,hO,hF,hnil,hle,hz,hsc,rfl⟩
  simp only at k5 k23 k24 k25 hG hO hF
  have rz:=(hS.grs hG).rz
  by_cases hlt:i<l.length
  ·have hlt':(i:Int)<l.length:=by omega
   have hlt1:i+1≤l.length:=hlt
   have ad:=rz.adr
   obtain⟨own,st,hg,ht,hst⟩:=rz.get (by omega)
   have hle1:i*2+2≤(l.flatMap Pt.l).length:=by omega
   have hel:List.take 2 (List.drop (i*2) (l.flatMap Pt.l))=[.str (pAt l i).x,.str (pAt l i).y]:=by
    rw[flat_at Pt.l_len hlt,pAt_get hlt];rfl
   obtain⟨lx,ly⟩:=h6 i
   have f136:=fun{h:Hp} {t:Nat} hA ht=>i136_2 (h:=h) (t:=t) (s:=(pAt l i).x) (u:=(pAt l i).y) hA ht (by omega) (by omega)
   rw[←hsc]at tE
   by_cases c1:chk2 (pAt l i).x (pAt l i).y=0
   ·rw [c1]at f136
    obtain⟨z1,z2⟩:=chk2_zero c1
    obtain⟨t1,o1⟩:=txtR_valS z1
    obtain⟨t2,o2⟩:=txtR_valS z2
    have i1:=fun h=>i111 (h:=h) o1
    have i2:=fun h=>i111 (h:=h) o2
    rw[←t1]at i1
    rw[←t2]at i2
    repeat' (with_reducible first|simp(disch:=first|exact okD|fail) only[go_sem,seval,k5,k23,k24,k25,ad,hlt',hg,hel,hle1]|(refine Gv.wp (f136 okA okO) fun _ _ _ _=>?_)|(apply Spl.i<;>intro hc))
    refine Gp.wp (i1 _) fun v1 k1 a1 b1 u1 I1=>?_
    obtain⟨x,rfl,ox,ou⟩:=I1.cell
    have ex:x.l=[.int .i64 x.n,x.w,.int .i64 x.d,x.u]:=rfl
    rw[ex]
    repeat' (with_reducible first|simp(disch:=first|exact okD|fail) only[go_sem,seval,ox,ou]|(apply Spl.i<;>intro hc))
    refine Gp.wp (i2 _) fun v2 k2 a2 b2 u2 I2=>?_
    obtain⟨y,rfl,oy,ov⟩:=I2.cell
    have ey:y.l=[.int .i64 y.n,y.w,.int .i64 y.d,y.u]:=rfl
    rw[ey]
    have f44:=fill44 ox ou oy ov
    have f8:=fill8 ox ou oy ov
    by_cases c2:0<i
    ·have c2':(0:Int)<i:=by omega
     obtain⟨hlen,⟨_,e⟩|⟨t5,st5,rfl,hg5,h1',h2',h3'⟩⟩:=id hO
     ·omega
     have et:((i:Int)-1).toNat=i-1:=by omega
     have g1:(0:Int)≤(i:Int)-1:=by omega
     have g2:(i:Int)-1<i:=by omega
     have hcl:(i-1)*8+4≤(M.flatMap Fc.l).length:=by omega
     have hce:List.take 4 (List.drop ((i-1)*8) (M.flatMap Fc.l))=(M.getD (2*(i-1)) Fc.z).l:=by
      rw[←fr_cells (by rw[hF.1];omega)];congr 2;omega
     have Ip:=(hF.2 (i-1) (by omega)).1
     generalize M.getD (2*(i-1)) Fc.z=m at *
     obtain⟨om,on⟩:=Ip.ones
     have em:m.l=[.int .i64 m.n,m.w,.int .i64 m.d,m.u]:=rfl
     rw[em]at hce
     obtain⟨z3,_,_⟩:=eAt_zero (hz (i-1) (by omega))
     obtain⟨t3,o3⟩:=txtR_valS z3
     repeat' (with_reducible first|simp(disch:=first|exact okD|fail) only[go_sem,seval,k5,k23,k24,k25,ox,ou,oy,ov,f44,f8,c2',et,g1,g2,hg5,hcl,hce,om,on]|(apply Spl.i<;>intro hc))
     refine Gv.wp (i161 (a:=X l i) (b:=X l (i-1)) (I1.grs okG) (Ip.grs okG) ((Bd_ok o1).mono (by decide)) ((Bd_ok o3).mono (by decide))) fun h7 k7 j7 u7=>?_
     rw[cmpR_sgR]
     by_cases c3:X l i≤X l (i-1)
     ·have c3':=sgR_le.2 c3
      rw[scanE_stop (by rw[eAt_ord c1 c2 c3];decide) (by omega),eAt_ord c1 c2 c3]at tE
      repeat' (with_reducible first|simp(disch:=first|exact okD|fail) only[go_sem,seval,c3']|(apply Spl.i<;>intro hc))
      exact⟨⟨.nils,[],by rw[tE],fun e=>absurd (tE.symm.trans e) (by decide)⟩,hG.trans okG⟩
     ·have c3':¬sgR (X l i-X l (i-1))≤0:=fun e=>c3 (sgR_le.1 e)
      have e0:eAt l i=0:=eAt_ok c1 fun e=>c3 e.2
      repeat' (with_reducible first|simp(disch:=first|exact okD|fail) only[go_sem,seval,k5,k23,k24,k25,c3',ox,ou,oy,ov,f8]|(apply Spl.i<;>intro hc))
      refine OwnZ.wpzP (P:=fun H=>Grs hp H∧IsF H (.agg x.l) (X l i)∧IsF H (.agg y.l) (Y l i)) (h0:=h) (b:=128) (xs:=[.int .i64 x.n,x.w,.int .i64 x.d,x.u,.int .i64 y.n,y.w,.int .i64 y.d,y.u]) ⟨okG,I1.grs okG,I2.grs okG⟩ okO (hG.trans okG) (hO.grs okG) rfl (by decide) (by omega) (by omega) fun H ⟨GH,J1,J2⟩ OH _ v9 h9 G9 O9 fr nx ck fresh nn=>?_
      have hv:=OwnZ.isCell8 OH hnil
      repeat' (with_reducible first|simp(disch:=first|exact okD|fail) only[go_sem,seval,k23,k24,k25]|(apply Spl.i<;>intro hc))
      refine⟨_,by omega,i+1,v9,M++[x,y],rfl,rfl,G9,?_,((hF.grs GH).fr hv fr nx ck).snoc (J1.fr hv fr nx ck) (J2.fr hv fr nx ck),fun e=>by simp at e,hlt1,?_,(scanE_next (k:=l.length-i) e0 (by omega)).symm.trans hsc,rfl⟩
      ·rw[List.flatMap_append];exact O9
      ·intro k hk
       rcases Nat.lt_or_ge k i with hk'|hk'
       ·exact hz k hk'
       ·rwa[show k=i by omega]
    ·have c2':¬(0:Int)<i:=by omega
     have e0:eAt l i=0:=eAt_ok c1 fun e=>c2 e.1
     repeat' (with_reducible first|simp(disch:=first|exact okD|fail) only[go_sem,seval,k5,k23,k24,k25,ox,ou,oy,ov,f44,f8,c2']|(apply Spl.i<;>intro hc))
     refine OwnZ.wpzP (P:=fun H=>Grs hp H∧IsF H (.agg x.l) (X l i)∧IsF H (.agg y.l) (Y l i)) (h0:=h) (b:=128) (xs:=[.int .i64 x.n,x.w,.int .i64 x.d,x.u,.int .i64 y.n,y.w,.int .i64 y.d,y.u]) ⟨okG,I1.grs okG,I2.grs okG⟩ okO (hG.trans okG) (hO.grs okG) rfl (by decide) (by omega) (by omega) fun H ⟨GH,J1,J2⟩ OH _ v9 h9 G9 O9 fr nx ck fresh nn=>?_
     have hv:=OwnZ.isCell8 OH hnil
     repeat' (with_reducible first|simp(disch:=first|exact okD|fail) only[go_sem,seval,k23,k24,k25]|(apply Spl.i<;>intro hc))
     refine⟨_,by omega,i+1,v9,M++[x,y],rfl,rfl,G9,?_,((hF.grs GH).fr hv fr nx ck).snoc (J1.fr hv fr nx ck) (J2.fr hv fr nx ck),fun e=>by simp at e,hlt1,?_,(scanE_next (k:=l.length-i) e0 (by omega)).symm.trans hsc,rfl⟩
     ·rw[List.flatMap_append];exact O9
     ·intro k hk
      rcases Nat.lt_or_ge k i with hk'|hk'
      ·exact hz k hk'
      ·rwa[show k=i by omega]
   ·rw[scanE_stop (by rw[eAt_bad c1];exact c1) (by omega),eAt_bad c1]at tE
    repeat' (with_reducible first|simp(disch:=first|exact okD|fail) only[go_sem,seval,k5,k23,k24,k25,ad,hlt',hg,hel,hle1,c1]|(refine Gv.wp (f136 okA okO) fun _ _ _ _=>?_)|(apply Spl.i<;>intro hc))
    exact⟨⟨.nils,[],by rw[tE],fun e=>absurd (tE.symm.trans e) c1⟩,hG.trans okG⟩
  ·have hlt':¬(i:Int)<l.length:=by omega
   obtain rfl:i=l.length:=by omega
   rw[←hsc,Nat.sub_self]at tE
   repeat' (with_reducible first|simp(disch:=first|exact okD|fail) only[go_sem,seval,k5,k23,k24,k25,hlt']|(apply Spl.i<;>intro hc))
   exact⟨⟨_,M,by rw[tE];rfl,fun _=>⟨hO.row,hF⟩⟩,hG⟩
end
end
end Go.Ae
set_option linter.unusedVariables false
set_option linter.unusedSimpArgs false
set_option maxRecDepth 100000
set_option maxHeartbeats 2000000
set_option exponentiation.threshold 5000
namespace Go.Ae
open Bg N Go.Proofs
noncomputable section
section
variable {h h' hp:Hp} {K:AV→Hp→Prop} {tm:T AV} {v va vb s w:AV} {a b c r:Rat}
theorem Lim.of {n m:Nat} (hn:n<18446744073709551616^m):Lim m (n:Int):=by unfold Lim;rw[Int.natAbs_natCast];exact hn
theorem AtS.p_at {t:Nat} {cs:List AV} (e:t=h.next):AtS (h.push fun s=> .row cs true s) t cs:=by subst e;exact AtS.push
theorem AtS.p_o {t:Nat} {cs:List AV} {f:Nat→AObj} (a:AtS h t cs):AtS (h.push f) t cs:=a.grs (Grs.refl h).push
theorem AtS.o_v {t:Nat} {cs:List AV} {k j:Nat} {g:Grw h h' k j} (a:AtS h t cs):AtS (h.ov h' g) t cs:=a.grs ⟨_,_,g⟩
theorem okT {p:Prop} (h:p:=by repeat(first|assumption|exact AtS.p_at okO|exact AtS.put okO|refine AtS.p_o ?_|refine AtS.o_v ?_|refine AtS.other ?_ okO)):p:=h
end
end
end Go.Ae
set_option linter.unusedVariables false
set_option linter.unusedSimpArgs false
set_option maxRecDepth 100000
set_option maxHeartbeats 16000000
set_option exponentiation.threshold 5000
namespace Go.Ae
open Bg N Go.Proofs
noncomputable section
def valI (l:List Pt) (x:Rat) (i:Nat):Rat:=if i=0 then Y l 0 else Y l (i-1)+(Y l i-Y l (i-1))*(x-X l (i-1))/(X l i-X l (i-1))
def scanV (l:List Pt) (x:Rat):Nat→Nat→Rat
 |0,_=>Y l (l.length-1)
 |k+1,i=>if x≤X l i then valI l x i else scanV l x k (i+1)
def tabV (l:List Pt) (x:Rat):Rat:=scanV l x l.length 0
theorem scanV_stop {l:List Pt} {x:Rat} {k i:Nat} (h:x≤X l i) (hk:0<k):scanV l x k i=valI l x i:=by
 cases k with
 |zero=>omega
 |succ k=>rw[scanV,if_pos h]
theorem scanV_next {l:List Pt} {x:Rat} {k i:Nat} (h:¬x≤X l i) (hk:0<k):scanV l x k i=scanV l x (k-1) (i+1):=by
 cases k with
 |zero=>omega
 |succ k=>rw[scanV,if_neg h];rfl
theorem small60 {s:List UInt8} (hl:s.length≤60) (hz:checkV s=0):Bd 4 (valS s)∧Br 7 (valS s):=by
 obtain⟨t,_⟩:=txtR_valS hz
 have h1:=num_le s
 have h2:=abs_le (numS s)
 have h3:=den_le s
 have e1:absS (numS s)=decP (valS s).num.natAbs 1:=by
  have:absS (numS (txtR (valS s)))=decP (valS s).num.natAbs 1:=by rw[num_txt,abs_txt]
  rwa[←t]at this
 have e2:denS s=decP (valS s).den 1:=by
  have:denS (txtR (valS s))=_:=den_txt _
  rwa[←t]at this
 rw[e1]at h2
 rw[e2]at h3
 have k1:(valS s).num.natAbs<10^61:=(decP_le (by decide)).1 (by omega)
 have k2:(valS s).den<10^61:=(decP_le (by decide)).1 (by omega)
 have p1:(10:Nat)^61≤18446744073709551616^4:=by decide+kernel
 have p2:(10:Nat)^61≤1000000000^7:=by decide+kernel
 refine⟨⟨Nat.lt_of_lt_of_le k1 p1,?_⟩,⟨Nat.lt_of_lt_of_le k1 p2,?_⟩⟩
 ·unfold Lim;rw[Int.natAbs_natCast];exact Nat.lt_of_lt_of_le k2 p1
 ·unfold Lr;rw[Int.natAbs_natCast];exact Nat.lt_of_lt_of_le k2 p2
section
variable {h h' h0 hp:Hp} {K:AV→Hp→Prop} {tm:T AV} {v va vb w:AV} {a b c d r:Rat} {s u p q:List UInt8} {e:Int} {n z:Nat} {l:List Pt}
theorem jp0 {f:Nat} {args:List AV} {p:AV→Hp→Prop} (hc:Gp EF f args h p):Gp EJ f args h p:=by
 obtain⟨v,h',h1,h2,h3⟩:=hc
 exact⟨v,h',h1.ge geJ,h2,h3⟩
theorem j79 (hS:RowS 2 h v l.length (l.flatMap Pt.l)) (h6:len6 l) (hl:l.length≤1000000):Gv EJ 79 [v] h (.int .i64 (tabE l)):=by
 refine Gv.of (CallWp.fn (fn:=Hc.a79) rfl rfl rfl ?_)
 unfold Hc.a79
 repeat' (with_reducible first|simp(disch:=first|exact okD|fail) only[go_sem,seval]|(apply Spl.i<;>intro hc))
 refine Gp.wp (jp0 (fp2 (i174 hS h6 hl))) fun r k a b u ⟨v',M,er,hM⟩=>?_
 subst er
 repeat' (with_reducible first|simp(disch:=first|exact okD|fail) only[go_sem,seval]|(apply Spl.i<;>intro hc))
 exact okG
theorem x175y (ia:IsF h va a) (la:Bd 400 a) (d:okR a=true):Gv EX 175 [va] h (.tup [.str (txtR a),.int .i64 0]):=by
 obtain⟨w1,w2⟩:=len_of la (by decide)
 have:=x175 ia w1 w2
 rwa[resT_yes d]at this
theorem x175n (ia:IsF h va a) (la:Bd 400 a) (d:¬okR a=true):Gv EX 175 [va] h (.tup [.str [],.int .i64 4]):=by
 obtain⟨w1,w2⟩:=len_of la (by decide)
 have:=x175 ia w1 w2
 rwa[resT_no d]at this
theorem row8 {M:List Fc} {i:Nat} (hi:2*i+1<M.length):List.take 8 (List.drop (i*8) (M.flatMap Fc.l))=(M.getD (2*i) Fc.z).l++(M.getD (2*i+1) Fc.z).l:=by
 rw[←fr_cells (k:=2*i) (by omega),←fr_cells (k:=2*i+1) hi,show(2*i+1)*4=2*i*4+4 by omega,show 2*i*4=i*8 by omega,←List.drop_drop]
 rw[show(8:Nat)=4+4 from rfl,List.take_add]
theorem x80_bad (hS:RowS 2 h v l.length (l.flatMap Pt.l)) (h6:len6 l) (hl:l.length≤1000000) (hs:s.length≤1000000) (he:first2 (tabE l) (checkV s)=e) (h0:e≠0):Gv EX 80 [v,.str s] h (.tup [.str [],.int .i64 e]):=by
 refine Gv.of (CallWp.fn (fn:=C.a80) rfl rfl rfl ?_)
 unfold C.a80
 repeat' (with_reducible first|simp(disch:=first|exact okD|fail) only[go_sem,seval]|(apply Spl.i<;>intro hc))
 refine Gp.wp (xp2 (i174 hS h6 hl)) fun r k a b u ⟨v',M,er,hM⟩=>?_
 subst er
 repeat' (with_reducible first|simp(disch:=first|exact okD|fail) only[go_sem,seval,he,h0]|(refine Gv.wp (x2 (i101 hs)) fun _ _ _ _=>?_)|(refine Gv.wp (x2 (d130_2 (a:=tabE l) (b:=checkV s) okA okO)) fun _ _ _ _=>?_)|(apply Spl.i<;>intro hc))
 exact okG
theorem x80 (hS:RowS 2 h v l.length (l.flatMap Pt.l)) (h6:len6 l) (hl:l.length≤1000000) (hs:s.length≤60) (hE:tabE l=0) (hc:checkV s=0):Gv EX 80 [v,.str s] h (resT (tabV l (valS s))):=by
 refine Gv.of (CallWp.fn (fn:=C.a80) rfl rfl rfl ?_)
 unfold C.a80
 have q0:first2 0 0=0:=rfl
 obtain⟨ts,os⟩:=txtR_valS hc
 have i1:=fun h=>xp2 (i111 (h:=h) os)
 rw[←ts]at i1
 obtain⟨bs,_⟩:=small60 hs hc
 have hz:∀k,k<l.length→eAt l k=0:=fun k hk=>by
  unfold tabE at hE
  by_cases g1:l.length=0
  ·omega
  ·rw[if_neg g1]at hE
   by_cases g2:64<l.length
   ·rw[if_pos g2]at hE;cases hE
   ·rw[if_neg g2]at hE
    exact scanE_zero hE k (Nat.zero_le _) (by omega)
 have hpos:0<l.length:=by
  rcases Nat.eq_zero_or_pos l.length with g|g
  ·unfold tabE at hE;rw[if_pos g]at hE;cases hE
  ·exact g
 have bX:∀k,k<l.length→Bd 4 (X l k)∧Bd 4 (Y l k):=fun k hk=>by
  obtain⟨z1,z2,_⟩:=eAt_zero (hz k hk)
  exact⟨(small60 (h6 k).1 z1).1,(small60 (h6 k).2 z2).1⟩
 have f101:=fun h=>x2 (i101 (h:=h) (s:=s) (by omega))
 rw[hc]at f101
 generalize hxr:valS s=xr at *
 repeat' (with_reducible first|simp(disch:=first|exact okD|fail) only[go_sem,seval]|(apply Spl.i<;>intro hc))
 refine Gp.wp (xp2 (i174 hS h6 hl)) fun r k1 a1 b1 u1 ⟨v',M,er,hM⟩=>?_
 subst er
 obtain⟨hR,hF⟩:=hM hE
 rw[hE]
 repeat' (with_reducible first|simp(disch:=first|exact okD|fail) only[go_sem,seval,q0]|(refine Gv.wp (f101 _) fun _ _ _ _=>?_)|(refine Gv.wp (x2 (d130_2 (a:=0) (b:=0) okA okO)) fun _ _ _ _=>?_)|(apply Spl.i<;>intro hc))
 refine Gp.wp (i1 _) fun v2 k2 a2 b2 u2 I2=>?_
 obtain⟨x,rfl,ox,ou⟩:=I2.cell
 have ex:x.l=[.int .i64 x.n,x.w,.int .i64 x.d,x.u]:=rfl
 rw[ex]at I2⊢
 have ln:=hR.rz.len
 have hG0:Grs h (h.ov k1 u1):=okG
 generalize h.ov k1 u1=hQ at *
 repeat' (with_reducible first|simp(disch:=first|exact okD|fail) only[go_sem,seval,ox,ou,ln]|(apply Spl.i<;>intro hc))
 refine Wp.loopI (fun m s=>∃(i p8:Nat),val s.tm (.t 6)=v'∧val s.tm (.t 8)= .ptr p8 0∧val s.tm (.t 27)=v'∧val s.tm (.t 28)= .int .i64 l.length∧val s.tm (.t 29)= .int .i64 i∧
  Grs hQ s.hp∧AtS s.hp p8 [.int .i64 x.n,x.w,.int .i64 x.d,x.u]∧IsF s.hp (.agg [.int .i64 x.n,x.w,.int .i64 x.d,x.u]) xr∧i≤l.length∧scanV l xr (l.length-i) i=tabV l xr∧l.length-i=m) (n:=l.length) ?_ ?_
 ·refine⟨0,_,by simp(disch:=first|exact okD|fail) only[go_sem,seval],by(simp(disch:=first|exact okD|fail) only[go_sem,seval])<;>rfl,by simp(disch:=first|exact okD|fail) only[go_sem,seval],by simp(disch:=first|exact okD|fail) only[go_sem,seval],by(simp(disch:=first|exact okD|fail) only[go_sem,seval])<;>rfl,?_,okT,?_,Nat.zero_le _,rfl,rfl⟩
  ·dsimp only
   exact okG
  ·dsimp only
   exact(I2.grs okG).putI (by simp(disch:=first|exact okD|fail) only[go_sem,seval,isCell_row])
 ·rintro m ⟨tm,hp⟩ ⟨i,p8,k6,k8,k27,k28,k29,hG,A8,Ix,hle,hsc,rfl⟩
  simp only at k6 k8 k27 k28 k29 hG A8 Ix
  obtain⟨s8,q8,c8,l8⟩:=id A8
  have rz:=(hR.grs hG).rz
  have ad:=rz.adr
  have hls:=hR.1
  obtain⟨own,st,hg,ht,hst⟩:=rz.get (by omega)
  have hFp:=hF.grs hG
  have hMl:=hF.1
  by_cases hlt:i<l.length
  ·have hlt':(i:Int)<l.length:=by omega
   have hlt1:i+1≤l.length:=hlt
   obtain⟨bx,bY⟩:=bX i hlt
   have hr1:=row8 (M:=M) (i:=i) (by omega)
   obtain⟨IX1,IY1⟩:=hFp.2 (i) (by omega)
   have hle1:(i)*8+8≤(M.flatMap Fc.l).length:=by omega
   generalize M.getD (2*(i)) Fc.z=x1 at *
   generalize M.getD (2*(i)+1) Fc.z=y1 at *
   obtain⟨ox1,ou1⟩:=IX1.ones
   obtain⟨oy1,ov1⟩:=IY1.ones
   have hr1:List.take 8 (List.drop ((i)*8) (M.flatMap Fc.l))=[.int .i64 x1.n,x1.w,.int .i64 x1.d,x1.u,.int .i64 y1.n,y1.w,.int .i64 y1.d,y1.u]:=hr1
   have IX1:IsF hp (.agg [.int .i64 x1.n,x1.w,.int .i64 x1.d,x1.u]) (X l (i)):=IX1
   have IY1:IsF hp (.agg [.int .i64 y1.n,y1.w,.int .i64 y1.d,y1.u]) (Y l (i)):=IY1
   repeat' (with_reducible first|simp(disch:=first|exact okD|fail) only[go_sem,seval,k6,k8,k27,k28,k29,ln,ad,hg,q8,hlt',hr1,hle1,ox,ou,ox1,ou1,oy1,ov1]|(apply Spl.i<;>intro hc))
   refine Gv.wp (x2 (i161 (a:=xr) (b:=X l i) (Ix.grs okG) (IX1.grs okG) (bs.mono (by decide)) (bx.mono (by decide)))) fun h3 k3 j3 u3=>?_
   rw[cmpR_sgR]
   by_cases c:xr≤X l i
   ·have c':¬0<sgR (xr-X l i):=fun e=>absurd (sgR_gt.1 e) (Rat.not_lt.2 c)
    rw[←hsc,scanV_stop c (by omega)]
    unfold valI
    by_cases c2:i=0
    ·have c2':(i:Int)=0:=by omega
     rw[if_pos c2]
     have eY:Y l 0=Y l i:=by rw[c2]
     rw[eY]
     repeat' (with_reducible first|simp(disch:=first|exact okD|fail) only[go_sem,seval,k6,k8,k27,k28,k29,ln,ad,hg,q8,c',c2',hr1,hle1,ox1,ou1,oy1,ov1]|(apply Spl.i<;>intro hc))
     by_cases d:okR (Y l i)=true
     ·rw[resT_yes d]
      refine Gv.wp (x175y (IY1.grs okG) (bY.mono (by decide)) d) fun h9 k9 j9 u9=>?_
      repeat' (with_reducible first|simp(disch:=first|exact okD|fail) only[go_sem,seval]|(apply Spl.i<;>intro hc))
      exact hG0.trans (hG.trans okG)
     ·rw[resT_no d]
      refine Gv.wp (x175n (IY1.grs okG) (bY.mono (by decide)) d) fun h9 k9 j9 u9=>?_
      repeat' (with_reducible first|simp(disch:=first|exact okD|fail) only[go_sem,seval]|(apply Spl.i<;>intro hc))
      exact hG0.trans (hG.trans okG)
    ·have c2':¬(i:Int)=0:=by omega
     rw[if_neg c2]
     have et:((i:Int)-1).toNat=i-1:=by omega
     have g1:(0:Int)≤(i:Int)-1:=by omega
     have g2:(i:Int)-1<l.length:=by omega
     obtain⟨bx',bY'⟩:=bX (i-1) (by omega)
     have lt:=(eAt_zero (hz i hlt)).2.2 (by omega)
     have ne:X l i-X l (i-1)≠0:=fun e=>by
      have e':X l i=X l (i-1):=by
       have:=congrArg (fun z=>z+X l (i-1)) e
       simpa[Rat.sub_add_cancel,Rat.zero_add]using this
      exact absurd lt (by rw[show valS (pAt l i).x=valS (pAt l (i-1)).x from e'];exact Rat.lt_irrefl)
     have hr2:=row8 (M:=M) (i:=i-1) (by omega)
     obtain⟨IX2,IY2⟩:=hFp.2 (i-1) (by omega)
     have hle2:(i-1)*8+8≤(M.flatMap Fc.l).length:=by omega
     generalize M.getD (2*(i-1)) Fc.z=x2 at *
     generalize M.getD (2*(i-1)+1) Fc.z=y2 at *
     obtain⟨ox2,ou2⟩:=IX2.ones
     obtain⟨oy2,ov2⟩:=IY2.ones
     have hr2:List.take 8 (List.drop ((i-1)*8) (M.flatMap Fc.l))=[.int .i64 x2.n,x2.w,.int .i64 x2.d,x2.u,.int .i64 y2.n,y2.w,.int .i64 y2.d,y2.u]:=hr2
     have IX2:IsF hp (.agg [.int .i64 x2.n,x2.w,.int .i64 x2.d,x2.u]) (X l (i-1)):=IX2
     have IY2:IsF hp (.agg [.int .i64 y2.n,y2.w,.int .i64 y2.d,y2.u]) (Y l (i-1)):=IY2
     have d1:=bY.add bY'.neg
     rw[←Rat.sub_eq_add_neg]at d1
     have d2:=bs.add bx'.neg
     rw[←Rat.sub_eq_add_neg]at d2
     have d3:=bx.add bx'.neg
     rw[←Rat.sub_eq_add_neg]at d3
     have d4:=d1.mul d2
     have d5:=d4.mul (d3.inv ne)
     rw[←Rat.div_def]at d5
     have d6:=bY'.add d5
     repeat' (with_reducible first|simp(disch:=first|exact okD|fail) only[go_sem,seval,k6,k8,k27,k28,k29,ln,ad,hg,q8,c',c2',et,g1,g2,hr1,hle1,hr2,hle2,ox1,ou1,oy1,ov1,ox2,ou2,oy2,ov2]|(apply Spl.i<;>intro hc))
     refine Gp.wp (xp2 (i164 (IY1.grs okG) (IY2.grs okG) (bY.mono (by decide)) (bY'.mono (by decide)))) fun v4 h4 k4 j4 u4 I4=>?_
     repeat' (with_reducible first|simp(disch:=first|exact okD|fail) only[go_sem,seval,k6,k8,k27,k28,k29,ln,ad,hg,q8]|(apply Spl.i<;>intro hc))
     refine Gp.wp (xp2 (i164 (Ix.grs okG) (IX2.grs okG) (bs.mono (by decide)) (bx'.mono (by decide)))) fun v5 h5 k5 j5 u5 I5=>?_
     repeat' (with_reducible first|simp(disch:=first|exact okD|fail) only[go_sem,seval]|(apply Spl.i<;>intro hc))
     refine Gp.wp (xp2 (i115 (I4.grs okG) I5 (d1.mono (by decide)) (d2.mono (by decide)))) fun v6 h6' k6' j6 u6 I6=>?_
     repeat' (with_reducible first|simp(disch:=first|exact okD|fail) only[go_sem,seval]|(apply Spl.i<;>intro hc))
     refine Gp.wp (xp2 (i164 (IX1.grs okG) (IX2.grs okG) (bx.mono (by decide)) (bx'.mono (by decide)))) fun v7 h7 k7 j7 u7 I7=>?_
     repeat' (with_reducible first|simp(disch:=first|exact okD|fail) only[go_sem,seval]|(apply Spl.i<;>intro hc))
     refine Gp.wp (xp2 (i166 (I6.grs okG) I7 (d4.mono (by decide)) (d3.mono (by decide)) ne)) fun v8 h8' k8' j8 u8 I8=>?_
     repeat' (with_reducible first|simp(disch:=first|exact okD|fail) only[go_sem,seval]|(apply Spl.i<;>intro hc))
     refine Gp.wp (xp2 (i163 (IY2.grs okG) I8 (bY'.mono (by decide)) (d5.mono (by decide)))) fun v10 h10 k10 j10 u10 I10=>?_
     repeat' (with_reducible first|simp(disch:=first|exact okD|fail) only[go_sem,seval]|(apply Spl.i<;>intro hc))
     by_cases d:okR (Y l (i-1)+(Y l i-Y l (i-1))*(xr-X l (i-1))/(X l i-X l (i-1)))=true
     ·rw[resT_yes d]
      refine Gv.wp (x175y I10 (d6.mono (by decide)) d) fun h9 k9 j9 u9=>?_
      repeat' (with_reducible first|simp(disch:=first|exact okD|fail) only[go_sem,seval]|(apply Spl.i<;>intro hc))
      exact hG0.trans (hG.trans okG)
     ·rw[resT_no d]
      refine Gv.wp (x175n I10 (d6.mono (by decide)) d) fun h9 k9 j9 u9=>?_
      repeat' (with_reducible first|simp(disch:=first|exact okD|fail) only[go_sem,seval]|(apply Spl.i<;>intro hc))
      exact hG0.trans (hG.trans okG)
   ·have c':0<sgR (xr-X l i):=sgR_gt.2 (Rat.not_le.1 c)
    repeat' (with_reducible first|simp(disch:=first|exact okD|fail) only[go_sem,seval,k6,k8,k27,k28,k29,ln,ad,hg,q8,c',hr1,hle1,ox1,ou1,oy1,ov1]|(apply Spl.i<;>intro hc))
    exact⟨_,by omega,i+1,rfl,hG.trans okG,okT,Ix.grs okG,hlt1,(scanV_next (k:=l.length-i) c (by omega)).symm.trans hsc,rfl⟩
  ·have hlt':¬(i:Int)<l.length:=by omega
   obtain rfl:i=l.length:=by omega
   rw[←hsc,Nat.sub_self]
   unfold scanV
   have et:((l.length:Int)-1).toNat=l.length-1:=by omega
   have g1:(0:Int)≤(l.length:Int)-1:=by omega
   have g2:(l.length:Int)-1<l.length:=by omega
   obtain⟨bx,bY⟩:=bX (l.length-1) (by omega)
   have hr1:=row8 (M:=M) (i:=l.length-1) (by omega)
   obtain⟨IX1,IY1⟩:=hFp.2 (l.length-1) (by omega)
   have hle1:(l.length-1)*8+8≤(M.flatMap Fc.l).length:=by omega
   generalize M.getD (2*(l.length-1)) Fc.z=x1 at *
   generalize M.getD (2*(l.length-1)+1) Fc.z=y1 at *
   obtain⟨ox1,ou1⟩:=IX1.ones
   obtain⟨oy1,ov1⟩:=IY1.ones
   have hr1:List.take 8 (List.drop ((l.length-1)*8) (M.flatMap Fc.l))=[.int .i64 x1.n,x1.w,.int .i64 x1.d,x1.u,.int .i64 y1.n,y1.w,.int .i64 y1.d,y1.u]:=hr1
   have IX1:IsF hp (.agg [.int .i64 x1.n,x1.w,.int .i64 x1.d,x1.u]) (X l (l.length-1)):=IX1
   have IY1:IsF hp (.agg [.int .i64 y1.n,y1.w,.int .i64 y1.d,y1.u]) (Y l (l.length-1)):=IY1
   have hr4:List.take 4 (List.drop ((l.length-1)*8+4) (M.flatMap Fc.l))=[.int .i64 y1.n,y1.w,.int .i64 y1.d,y1.u]:=by
    have:=congrArg (List.drop 4) hr1
    rw[List.drop_take,List.drop_drop]at this
    exact this
   have hle4:(l.length-1)*8+4+4≤(M.flatMap Fc.l).length:=by omega
   repeat' (with_reducible first|simp(disch:=first|exact okD|fail) only[go_sem,seval,k6,k8,k27,k28,k29,ln,ad,hg,q8,hlt',et,g1,g2,hr4,hle4]|(apply Spl.i<;>intro hc))
   by_cases d:okR (Y l (l.length-1))=true
   ·rw[resT_yes d]
    refine Gv.wp (x175y (IY1.grs okG) (bY.mono (by decide)) d) fun h9 k9 j9 u9=>?_
    repeat' (with_reducible first|simp(disch:=first|exact okD|fail) only[go_sem,seval]|(apply Spl.i<;>intro hc))
    exact hG0.trans (hG.trans okG)
   ·rw[resT_no d]
    refine Gv.wp (x175n (IY1.grs okG) (bY.mono (by decide)) d) fun h9 k9 j9 u9=>?_
    repeat' (with_reducible first|simp(disch:=first|exact okD|fail) only[go_sem,seval]|(apply Spl.i<;>intro hc))
    exact hG0.trans (hG.trans okG)
end
end
end Go.Ae
set_option linter.unusedVariables false
set_option linter.unusedSimpArgs false
set_option maxRecDepth 100000
set_option maxHeartbeats 4000000
set_option exponentiation.threshold 5000
namespace Go.Ae
open Bg N Go.Proofs
noncomputable section
def resS (r:Rat):List UInt8:=if okR r=true then txtR r else[]
def resE (r:Rat):Int:=if okR r=true then 0 else 4
theorem resT_eq (r:Rat):resT r= .tup [.str (resS r),.int .i64 (resE r)]:=by
 unfold resT resS resE
 by_cases h:okR r=true
 ·rw[if_pos h,if_pos h,if_pos h]
 ·rw[if_neg h,if_neg h,if_neg h]
theorem numB_res (r:Rat):numB (resS r) (resE r) 0 (txtR r)=true:=by
 unfold numB resS resE
 rw[largeS_txt]
 cases h:okR r<;>simp
theorem numB_bad {b:Int} {w:List UInt8} (hb:b≠0):numB [] b b w=true:=by
 unfold numB
 simp[hb]
section
variable {h h' hp:Hp} {K:AV→Hp→Prop} {tm:T AV} {v va vb s w:AV} {z z':Int} {a b c r:Rat}
theorem txt_len {n:Nat} {a:Rat} (i:Br n a) (hn:n≤2000):(txtR a).length≤1000000:=by
 have:=(txtR_le (i.mono hn).1 (i.mono hn).2).1
 omega
end
end
end Go.Ae
set_option linter.unusedVariables false
set_option linter.unusedSimpArgs false
set_option maxRecDepth 100000
set_option maxHeartbeats 16000000
set_option exponentiation.threshold 5000
namespace Go.Ae
open Bg N Go.Proofs
noncomputable section
section
variable {h h' h0 hp:Hp} {K:AV→Hp→Prop} {tm:T AV} {v va vb w:AV} {a b c d r:Rat} {s u p q:List UInt8} {e:Int} {n z:Nat} {l:List Pt}
theorem d82 (hS:RowS 2 h v l.length (l.flatMap Pt.l)) (h6:len6 l) (hs:s.length≤60) (hE:tabE l=0) (hc:checkV s=0):Gv EJ 82 [v,.str s] h (.str (txtR (tabV l (valS s)))):=by
 refine Gv.of (CallWp.fn (fn:=Hc.a82) rfl rfl rfl ?_)
 unfold Hc.a82
 obtain⟨ts,os⟩:=txtR_valS hc
 obtain⟨_,bs⟩:=small60 hs hc
 have hls:=hS.1
 have hz:∀k,k<l.length→eAt l k=0:=fun k hk=>by
  unfold tabE at hE
  by_cases g1:l.length=0
  ·omega
  ·rw[if_neg g1]at hE
   by_cases g2:64<l.length
   ·rw[if_pos g2]at hE;cases hE
   ·rw[if_neg g2]at hE
    exact scanE_zero hE k (Nat.zero_le _) (by omega)
 have hpos:0<l.length:=by
  rcases Nat.eq_zero_or_pos l.length with g|g
  ·unfold tabE at hE;rw[if_pos g]at hE;cases hE
  ·exact g
 have hn64:l.length≤64:=by
  rcases Nat.lt_or_ge 64 l.length with g|g
  ·unfold tabE at hE;rw[if_neg (by omega),if_pos g]at hE;cases hE
  ·exact g
 have bX:∀k,k<l.length→Br 7 (X l k)∧Br 7 (Y l k)∧(pAt l k).x=txtR (X l k)∧(pAt l k).y=txtR (Y l k):=fun k hk=>by
  obtain⟨z1,z2,_⟩:=eAt_zero (hz k hk)
  exact⟨(small60 (h6 k).1 z1).2,(small60 (h6 k).2 z2).2,(txtR_valS z1).1,(txtR_valS z2).1⟩
 have rowx:∀k,k<l.length→(l.flatMap Pt.l)[k*2]?=some (.str (txtR (X l k))):=fun k hk=>by
  have:(l.flatMap Pt.l)[k*2]?=some (.str l[k].x):=flat_get (j:=0) Pt.l_len hk (by decide)
  rw[this,pAt_get hk,(bX k hk).2.2.1]
 have rowy:∀k,k<l.length→(l.flatMap Pt.l)[k*2+1]?=some (.str (txtR (Y l k))):=fun k hk=>by
  have:(l.flatMap Pt.l)[k*2+1]?=some (.str l[k].y):=flat_get (j:=1) Pt.l_len hk (by decide)
  rw[this,pAt_get hk,(bX k hk).2.2.2]
 have row2:∀k,k<l.length→List.take 2 (List.drop (k*2) (l.flatMap Pt.l))=[.str (txtR (X l k)),.str (txtR (Y l k))]:=fun k hk=>by
  rw[flat_at Pt.l_len hk,pAt_get hk]
  show[AV.str (pAt l k).x,AV.str (pAt l k).y]=_
  rw[(bX k hk).2.2.1,(bX k hk).2.2.2]
 generalize hxr:valS s=xr at *
 subst ts
 have rz:=hS.rz
 have ln:=rz.len
 have ad:=rz.adr
 obtain⟨own,st,hg,ht,hst⟩:=rz.get (by omega)
 have rx0:=rowx 0 hpos
 have ry0:=rowy 0 hpos
 rw[Nat.zero_mul]at rx0 ry0
 have hn0:(0:Int)<l.length:=by omega
 have hl0:1≤(l.flatMap Pt.l).length:=by omega
 have hl1:1+1≤(l.flatMap Pt.l).length:=by omega
 have tv:tabV l xr=scanV l xr l.length 0:=rfl
 have f0:=fun h=>j3 (d75 (h:=h) (bs.mono (by decide:7≤2000)) ((bX 0 hpos).1.mono (by decide:7≤2000)))
 by_cases c0:xr≤X l 0
 ·have c0':=sgR_le.2 c0
  have:tabV l xr=Y l 0:=by rw[tv,scanV_stop c0 hpos];rfl
  rw[this]
  repeat' (with_reducible first|simp(disch:=first|exact okD|fail) only[go_sem,seval,ad,hg,rx0,ry0,hn0,hl0,hl1,c0']|(refine Gv.wp (f0 _) fun _ _ _ _=>?_)|(apply Spl.i<;>intro hc))
  all_goals exact okG
 have c0':¬sgR (xr-X l 0)≤0:=fun e=>c0 (sgR_le.1 e)
 rw[scanV_next c0 hpos]at tv
 repeat' (with_reducible first|simp(disch:=first|exact okD|fail) only[go_sem,seval,ad,hg,rx0,ry0,hn0,hl0,hl1,c0']|(refine Gv.wp (f0 _) fun _ _ _ _=>?_)|(apply Spl.i<;>intro hc))
 refine Wp.loopI (fun m s=>∃(i:Nat),val s.tm (.t 0)=v∧val s.tm (.t 1)= .str (txtR xr)∧val s.tm (.t 5)= .int .i64 i∧
  Grs h s.hp∧1≤i∧i≤l.length∧scanV l xr (l.length-i) i=tabV l xr∧l.length-i=m) (n:=l.length-1) ?_ ?_
 ·refine⟨1,by simp(disch:=first|exact okD|fail) only[go_sem,seval],by simp(disch:=first|exact okD|fail) only[go_sem,seval],by(simp(disch:=first|exact okD|fail) only[go_sem,seval])<;>rfl,?_,Nat.le_refl _,hpos,tv.symm,rfl⟩
  dsimp only
  exact okG
 ·rintro m ⟨tm,hp⟩ ⟨i,k0,k1,k5,hG,hi1,hle,hsc,rfl⟩
  simp only at k0 k1 k5 hG
  have hg':=(hG.get ht).trans hg
  have ht':=Nat.lt_of_lt_of_le ht hG.next
  have hst':=Nat.le_trans hst hG.clk
  by_cases hlt:i<l.length
  ·have hlt':(i:Int)<l.length:=by omega
   have hlt1:i+1≤l.length:=hlt
   have et:((i:Int)-1).toNat=i-1:=by omega
   have g1:(0:Int)≤(i:Int)-1:=by omega
   have g2:(i:Int)-1<l.length:=by omega
   obtain⟨bx,bY,_⟩:=bX i hlt
   obtain⟨bx',bY',_⟩:=bX (i-1) (by omega)
   have r1:=row2 i hlt
   have r2:=row2 (i-1) (by omega)
   have l1:i*2+2≤(l.flatMap Pt.l).length:=by omega
   have l2:(i-1)*2+2≤(l.flatMap Pt.l).length:=by omega
   have f1:=fun h=>j3 (d75 (h:=h) (bs.mono (by decide:7≤2000)) (bx.mono (by decide:7≤2000)))
   by_cases c:xr≤X l i
   ·have c':=sgR_le.2 c
    have lt:=(eAt_zero (hz i hlt)).2.2 (by omega)
    have ne:X l i-X l (i-1)≠0:=fun e=>by
     have e':X l i=X l (i-1):=by
      have:=congrArg (fun z=>z+X l (i-1)) e
      simpa[Rat.sub_add_cancel,Rat.zero_add]using this
     exact absurd lt (by rw[show valS (pAt l i).x=valS (pAt l (i-1)).x from e'];exact Rat.lt_irrefl)
    have ev:tabV l xr=Y l (i-1)+(xr-X l (i-1))/(X l i-X l (i-1))*(Y l i-Y l (i-1)):=by
     rw[←hsc,scanV_stop c (by omega)]
     unfold valI
     rw[if_neg (by omega),Rat.div_def,Rat.div_def,Rat.mul_assoc,Rat.mul_comm]
    rw[ev]
    have b1:=bs.sub bx'
    have b2:=bx.sub bx'
    have b3:=b1.mul (b2.inv ne)
    rw[←Rat.div_def]at b3
    have b4:=bY.sub bY'
    have b5:=b3.mul b4
    have m1:=fun h=>j3 (d73 (h:=h) (bs.mono (by decide:7≤2000)) (bx'.mono (by decide:7≤2000)))
    have m2:=fun h=>j3 (d73 (h:=h) (bx.mono (by decide:7≤2000)) (bx'.mono (by decide:7≤2000)))
    have m3:=fun h=>j3 (d76 (h:=h) (b1.mono (by decide:_≤2000)) (b2.mono (by decide:_≤2000)) ne)
    have m4:=fun h=>j3 (d73 (h:=h) (bY.mono (by decide:7≤2000)) (bY'.mono (by decide:7≤2000)))
    have m5:=fun h=>j3 (d74 (h:=h) (b3.mono (by decide:_≤2000)) (b4.mono (by decide:_≤2000)))
    have m6:=fun h=>j3 (d72 (h:=h) (bY'.mono (by decide:7≤2000)) (b5.mono (by decide:_≤2000)))
    repeat' (with_reducible first|simp(disch:=first|exact okD|fail) only[go_sem,seval,k0,k1,k5,ln,ad,hg',hlt',et,g1,g2,r1,r2,l1,l2,c']|(refine Gv.wp (f1 _) fun _ _ _ _=>?_)|(refine Gv.wp (m1 _) fun _ _ _ _=>?_)|(refine Gv.wp (m2 _) fun _ _ _ _=>?_)|(refine Gv.wp (m3 _) fun _ _ _ _=>?_)|(refine Gv.wp (m4 _) fun _ _ _ _=>?_)|(refine Gv.wp (m5 _) fun _ _ _ _=>?_)|(refine Gv.wp (m6 _) fun _ _ _ _=>?_)|(apply Spl.i<;>intro hc))
    all_goals exact hG.trans okG
   ·have c':¬sgR (xr-X l i)≤0:=fun e=>c (sgR_le.1 e)
    repeat' (with_reducible first|simp(disch:=first|exact okD|fail) only[go_sem,seval,k0,k1,k5,ln,ad,hg',hlt',et,g1,g2,r1,r2,l1,l2,c']|(refine Gv.wp (f1 _) fun _ _ _ _=>?_)|(apply Spl.i<;>intro hc))
    exact⟨_,by omega,i+1,rfl,hG.trans okG,by omega,hlt1,(scanV_next (k:=l.length-i) c (by omega)).symm.trans hsc,rfl⟩
  ·have hlt':¬(i:Int)<l.length:=by omega
   obtain rfl:i=l.length:=by omega
   have et:((l.length:Int)-1).toNat=l.length-1:=by omega
   have g1:(0:Int)≤(l.length:Int)-1:=by omega
   have g2:(l.length:Int)-1<l.length:=by omega
   have ry:=rowy (l.length-1) (by omega)
   have l1:(l.length-1)*2+1+1≤(l.flatMap Pt.l).length:=by omega
   rw[←hsc,Nat.sub_self]
   unfold scanV
   repeat' (with_reducible first|simp(disch:=first|exact okD|fail) only[go_sem,seval,k0,k1,k5,ln,ad,hg',hlt',et,g1,g2,ry,l1]|(apply Spl.i<;>intro hc))
   all_goals exact hG
theorem brV (h6:len6 l) (hs:s.length≤60) (hE:tabE l=0) (hc:checkV s=0):Br 2000 (tabV l (valS s)):=by
 obtain⟨_,bs⟩:=small60 hs hc
 have hz:∀k,k<l.length→eAt l k=0:=fun k hk=>by
  unfold tabE at hE
  by_cases g1:l.length=0
  ·omega
  ·rw[if_neg g1]at hE
   by_cases g2:64<l.length
   ·rw[if_pos g2]at hE;cases hE
   ·rw[if_neg g2]at hE
    exact scanE_zero hE k (Nat.zero_le _) (by omega)
 have hpos:0<l.length:=by
  rcases Nat.eq_zero_or_pos l.length with g|g
  ·unfold tabE at hE;rw[if_pos g]at hE;cases hE
  ·exact g
 have bX:∀k,k<l.length→Br 7 (X l k)∧Br 7 (Y l k):=fun k hk=>by
  obtain⟨z1,z2,_⟩:=eAt_zero (hz k hk)
  exact⟨(small60 (h6 k).1 z1).2,(small60 (h6 k).2 z2).2⟩
 have key:∀k i,i+k=l.length→Br 2000 (scanV l (valS s) k i):=by
  intro k
  induction k with
  |zero=>intro i _;exact(bX (l.length-1) (by omega)).2.mono (by decide)
  | succ k ih=>
   intro i hi
   rw[scanV]
   by_cases c:valS s≤X l i
   ·rw [if_pos c]
    unfold valI
    by_cases c2:i=0
    ·rw[if_pos c2];exact(bX 0 hpos).2.mono (by decide)
    ·rw [if_neg c2]
     have lt:=(eAt_zero (hz i (by omega))).2.2 (by omega)
     have ne:X l i-X l (i-1)≠0:=fun e=>by
      have e':X l i=X l (i-1):=by
       have:=congrArg (fun z=>z+X l (i-1)) e
       simpa[Rat.sub_add_cancel,Rat.zero_add]using this
      exact absurd lt (by rw[show valS (pAt l i).x=valS (pAt l (i-1)).x from e'];exact Rat.lt_irrefl)
     obtain⟨bx,bY⟩:=bX i (by omega)
     obtain⟨bx',bY'⟩:=bX (i-1) (by omega)
     have b3:=((bY.sub bY').mul (bs.sub bx')).mul ((bx.sub bx').inv ne)
     rw[←Rat.div_def]at b3
     exact(bY'.add b3).mono (by decide)
   ·rw[if_neg c];exact ih (i+1) (by omega)
 exact key l.length 0 (by omega)
theorem law12 (hS:RowS 2 h v l.length (l.flatMap Pt.l)):Gv EJ 12 [v,.str s] h (.bool true):=by
 refine Gv.of (CallWp.fn (fn:=Hc.a12) rfl rfl rfl ?_)
 have d17:∀{h:Hp} {K:AV→Hp→Prop},CallWp EJ 17 [] h K↔K (.bool true) h:=fun{h K}=>ju2 fun K=>c17
 have r77:=d77 hS
 unfold Hc.a12
 by_cases g1:shortT l
 ·rw [decide_eq_true g1]at r77
  by_cases g2:s.length≤60
  ·have g2':¬(60:Int)<s.length:=by omega
   have h6:=len6_of g1
   have hl:l.length≤1000000:=Nat.le_trans g1.1 (by decide)
   have ls:s.length≤1000000:=by omega
   have e25:=fun{h:Hp} {t:Nat} hA ht=>(j3 (d25_2 (h:=h) (t:=t) (a:=tabE l) (b:=checkV s) hA ht):Gv EJ 25 [.sl t 0 2 1] h (.int .i64 (first2 (tabE l) (checkV s))))
   have f19:=fun h=>j3 (d19 (h:=h) ls)
   by_cases c0:first2 (tabE l) (checkV s)=0
   ·have c1:tabE l=0:=by
     unfold first2 at c0
     by_cases c1:tabE l=0
     ·exact c1
     ·rw[if_neg c1]at c0;exact c0
    have c2:checkV s=0:=by
     unfold first2 at c0
     rwa[if_pos c1]at c0
    rw[c0]at e25
    rw[c1]at e25
    rw[c2]at e25 f19
    have b0:=brV h6 g2 c1 c2
    have n80:=fun(h':Hp) (g:Grs h h')=>j0 (f0 (x80 (hS.grs g) h6 hl g2 c1 c2))
    have n82:=fun(h':Hp) (g:Grs h h')=>d82 (hS.grs g) h6 g2 c1 c2
    have n78:=fun(h':Hp) (g:Grs h h')=>d78 (hS.grs g) h6
    have n79:=fun(h':Hp) (g:Grs h h')=>j79 (hS.grs g) h6 hl
    simp only[c1]at n78 n79
    simp only[resT_eq]at n80
    have n81:∀{h:Hp} {K:AV→Hp→Prop},CallWp EJ 81 [.str (resS (tabV l (valS s))),.int .i64 (resE (tabV l (valS s))),.int .i64 0,.str (txtR (tabV l (valS s)))] h K↔K (.bool true) h:=fun{h K}=>by
     have:=up geJ (h:=h) (K:=K) fun K=>fu3 fun K=>d81 (h:=h) (K:=K) (x:=resS (tabV l (valS s))) (e:=resE (tabV l (valS s))) (bad:=0) (w:=txtR (tabV l (valS s))) (Nat.le_trans (txt_len b0 (by decide)) (by decide))
     rw[numB_res]at this;exact this
    repeat' (with_reducible first|simp(disch:=first|exact okD|fail) only[go_sem,seval,d17,g2',n81]|(refine Gv.wp (r77) fun _ _ _ _=>?_)|(refine Gv.wp (n78 _ okG) fun _ _ _ _=>?_)|(refine Gv.wp (n79 _ okG) fun _ _ _ _=>?_)|(refine Gv.wp (n80 _ okG) fun _ _ _ _=>?_)|(refine Gv.wp (f19 _) fun _ _ _ _=>?_)|(refine Gv.wp (e25 okA okO) fun _ _ _ _=>?_)|(refine Gv.wp (n82 _ okG) fun _ _ _ _=>?_)|(apply Spl.i<;>intro hc))
    all_goals exact okG
   ·obtain⟨e,he⟩:∃e,first2 (tabE l) (checkV s)=e:=⟨_,rfl⟩
    rw[he]at c0 e25
    have n80:=fun(h':Hp) (g:Grs h h')=>j0 (f0 (x80_bad (hS.grs g) h6 hl ls he c0))
    have n78:=fun(h':Hp) (g:Grs h h')=>d78 (hS.grs g) h6
    have n79:=fun(h':Hp) (g:Grs h h')=>j79 (hS.grs g) h6 hl
    have n81:∀{h:Hp} {K:AV→Hp→Prop},CallWp EJ 81 [.str [],.int .i64 e,.int .i64 e,.str []] h K↔K (.bool true) h:=fun{h K}=>by
     have:=up geJ (h:=h) (K:=K) fun K=>fu3 fun K=>d81 (h:=h) (K:=K) (x:=[]) (e:=e) (bad:=e) (w:=[]) (by decide)
     rw[numB_bad c0]at this;exact this
    repeat' (with_reducible first|simp(disch:=first|exact okD|fail) only[go_sem,seval,d17,g2',c0,n81]|(refine Gv.wp (r77) fun _ _ _ _=>?_)|(refine Gv.wp (n78 _ okG) fun _ _ _ _=>?_)|(refine Gv.wp (n79 _ okG) fun _ _ _ _=>?_)|(refine Gv.wp (n80 _ okG) fun _ _ _ _=>?_)|(refine Gv.wp (f19 _) fun _ _ _ _=>?_)|(refine Gv.wp (e25 okA okO) fun _ _ _ _=>?_)|(apply Spl.i<;>intro hc))
    all_goals exact okG
  ·have g2':(60:Int)<s.length:=by omega
   repeat' (with_reducible first|simp(disch:=first|exact okD|fail) only[go_sem,seval,d17,g2']|(refine Gv.wp (r77) fun _ _ _ _=>?_)|(apply Spl.i<;>intro hc))
   all_goals exact okG
 ·rw[decide_eq_false g1]at r77
  repeat' (with_reducible first|simp(disch:=first|exact okD|fail) only[go_sem,seval,d17]|(refine Gv.wp (r77) fun _ _ _ _=>?_)|(apply Spl.i<;>intro hc))
  all_goals exact okG
end
end
end Go.Ae
