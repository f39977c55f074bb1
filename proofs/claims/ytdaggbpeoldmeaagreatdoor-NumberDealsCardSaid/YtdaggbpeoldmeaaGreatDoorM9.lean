/- slices.SortStableFunc of the numbers below n: the walk. -/
import Derived.Test.YtdaggbpeoldmeaaGreatDoorM8
import Derived.Test.YtdaggbpeoldmeaaGreatDoorM6
import Derived.Test.YtdaggbpeoldmeaaGreatDoorM5
import Derived.Test.YtdaggbpeoldmeaaGreatDoorM7
open Int renaming toNat_natCast → fm, natCast_mul → bT
open List renaming getElem?_map → bZ, getElem?_eq_getElem → aC, getD_eq_getElem?_getD → aR, getElem_mem → CF, take_add_one → pw, mem_append → dQ, mem_singleton → yd, take_length → bu, range → fg, getElem?_range → im, range_succ_eq_map → Fz, map_cons → fR, map_congr_left → cE, getElem_append_right → AT, getElem_cons_zero → FA, getElem_append_left → CG, replicate → aw, flatMap_cons → iE, map_map → AK
open Nat renaming zero_mul → CA, add_zero → aT, one_mul → vH, zero_le → aE, add_mul → aX, le_refl → ac, le_trans → az, lt_of_lt_of_le → ah, mul_le_mul_left → aD, sub_self → oA, one_pos → vG, lt_succ_self → eQ, not_lt_zero → gz, lt_or_ge → aQ, le_succ → eK, eq_or_lt_of_le → cN, div_add_mod → cD, mul_add → au, mul_comm → ay, mod_lt → aZ, mul_one → dG, lt_trichotomy → iN, mul_le_mul → eH, le_of_lt → yr, mul_le_mul_right → aH
set_option linter.unusedVariables false
set_option linter.unusedSimpArgs false
set_option maxRecDepth 100000
set_option maxHeartbeats 4000000
namespace Go.Ae
open So Bg
noncomputable section
section
variable {h h' hp:Hp}{K:AV→Hp→Prop}{tm:T AV}{n t f s a b m q:Nat}{d e e':Nat→Nat}{caps:List AV}{P:Hp→Prop}{cz:Nat→Nat→Int}{L:Nat→Nat→Prop}
theorem U8 (c:Ch L e s a n)(ha:a<n):Gd L e a (min (a+s) n):=by
 have:=c 0;rw[CA,aT]at this;exact this ha
theorem ch1 (c:Ch L e s a n)(ha:a+s<n):Gd L e (a+s) (min (a+s+s) n):=by
 have:=c 1;rw[vH]at this;exact this ha
theorem T1 (Q:JI n f caps t P cz L)(hn:n≤100000)(k0:val tm (.t 0)= .sl t 0 n 1)(k1:val tm (.t 1)= .int .i64 n)(k2:val tm (.t 2)= .fn f caps)(k6:val tm (.t 6)= .int .i64 20)
  (C0:fT t h hp) (hP:P hp) (A:Rw hp t n e) (Va:Ch L e 20 0 n) (hv:∀k,k<n→e k<n):
  Wp E2 (C.a213.code.post 4) ⟨tm,hp⟩ (eT [] fun _ h'=>fT t h h'∧P h'∧∃e',Rw h' t n e'∧Gd L e' 0 n):=by
 have K8:n≤1000000:=by omega
 unfold C.a213;dsimp only[ap.post];repeat'(with_reducible first|simp(disch:=try exact ab) only[go_sem,seval]|(apply ai.i<;>intro hc))
 refine Wp.bD (fun mm s=>∃(z:Nat) (e:Nat→Nat),val s.tm (.t 0)= .sl t 0 n 1∧val s.tm (.t 1)= .int .i64 n∧val s.tm (.t 2)= .fn f caps∧val s.tm (.t 6)= .int .i64 z∧
  fT t h s.hp∧P s.hp∧Rw s.hp t n e∧Ch L e z 0 n∧(∀k,k<n→e k<n)∧0<z∧z≤200000∧n-z=mm) (n:=n-20) ?_ ?_
 ·exact⟨20,e,k0,k1,k2,k6,C0,hP,A,Va,hv,by omega,by omega,rfl⟩
 ·clear k0 k1 k2 k6 C0 hP A Va hv;rintro mm ⟨tm,hp⟩ ⟨z,e,k0,k1,k2,k6,C0,hP,A,X4,hv,hz,hz2,rfl⟩;simp only at k0 k1 k2 k6 C0 hP A;by_cases c:z<n
  ·have c' :(z:Int)<n:=by omega
   repeat'(with_reducible first|simp(disch:=try exact ab) only[go_sem,seval,k0,k1,k2,k6,c']|(apply ai.i<;>intro hc))
   refine Wp.bD (fun mm s=>∃(a q:Nat) (e:Nat→Nat),val s.tm (.t 0)= .sl t 0 n 1∧val s.tm (.t 1)= .int .i64 n∧val s.tm (.t 2)= .fn f caps∧val s.tm (.t 6)= .int .i64 z∧val s.tm (.t 7)= .int .i64 a∧val s.tm (.t 8)= .int .i64 ((a+2*z:Nat):Int)∧
    fT t h s.hp∧P s.hp∧Rw s.hp t n e∧a=q*(2*z)∧Dn L e (2*z) a∧Ch L e z a n∧(∀k,k<n→e k<n)∧a≤n∧n-a=mm) (n:=n) ?_ ?_
   ·refine⟨0,0,e,by simp(disch:=try exact ab) only[go_sem,seval,k0],by simp(disch:=try exact ab) only[go_sem,seval,k1],by simp(disch:=try exact ab) only[go_sem,seval,k2],by simp(disch:=try exact ab) only[go_sem,seval,k6],by(simp(disch:=try exact ab) only[go_sem,seval])<;>rfl,?_,C0,hP,A,by omega,fun k hk=>by omega,X4,hv,aE _,rfl⟩;simp(disch:=try exact ab) only[go_sem,seval,k6]
    exact congrArg (AV.int .i64) (by omega)
   ·clear k0 k1 k2 k6 C0 hP A X4 hv e;rintro mm ⟨tm,hq⟩ ⟨a,q,e,k0,k1,k2,k6,k7,k8,C0,hP,A,PT,D,ch,hv,PU,rfl⟩;simp only at k0 k1 k2 k6 k7 k8 C0 hP A;have es:(a:Int)+z=((a+z:Nat):Int):=by omega
    by_cases c2:a+2*z≤n
    ·have kq:((a+2*z:Nat):Int)≤n:=by omega
     have g1:=U8 ch (by omega);have g2:=ch1 ch (by omega);rw[show min (a+z) n=a+z by omega]at g1;rw[show min (a+z+z) n=a+2*z by omega]at g2;have e8:((a+2*z:Nat):Int)+2*z=((a+2*z+2*z:Nat):Int):=by omega
     repeat'(with_reducible first|simp(disch:=try exact ab) only[go_sem,seval,k0,k1,k2,k6,k7,k8,kq,es]|(apply ai.i<;>intro hc))
     refine ae.mono (mrg Q K8 (a:=a) (m:=a+z) (b:=a+2*z) (by omega) (by omega) c2 A hP hv g1 g2) fun v h2 ⟨C1,P1,e2,A2,p2,g,hv2⟩=>?_
     repeat'(with_reducible first|simp(disch:=try exact ab) only[go_sem,seval,k0,k1,k2,k6,k7,k8,e8]|(apply ai.i<;>intro hc))
     exact⟨_,by omega,a+2*z,q+1,e2,rfl,rfl,C0.trans C1,P1,A2,by rw[aX q 1,vH];omega,(D.same fun k hk=>p2.out k (by omega)).next PT g,ch.skip.same fun k p q=>p2.out k (by omega),hv2,c2,rfl⟩
    ·have kq:¬((a+2*z:Nat):Int)≤n:=by omega
     have ez:(z:Int)*2=((2*z:Nat):Int):=by omega
     by_cases c3:a+z<n
     ·have c3':((a+z:Nat):Int)<n:=by omega
      have g1:=U8 ch (by omega);have g2:=ch1 ch c3;rw[show min (a+z) n=a+z by omega]at g1;rw[show min (a+z+z) n=n by omega]at g2;repeat'(with_reducible first|simp(disch:=try exact ab) only[go_sem,seval,k0,k1,k2,k6,k7,k8,kq,es,c3']|(apply ai.i<;>intro hc))
      refine ae.mono (mrg Q K8 (a:=a) (m:=a+z) (b:=n) (by omega) c3 (ac _) A hP hv g1 g2) fun v h2 ⟨C1,P1,e2,A2,p2,g,hv2⟩=>?_
      repeat'(with_reducible first|simp(disch:=try exact ab) only[go_sem,seval,k0,k1,k2,k6,k7,k8,ez]|(apply ai.i<;>intro hc))
      exact⟨_,by omega,2*z,e2,rfl,C0.trans C1,P1,A2,Ch.of (D.same fun k hk=>p2.out k (by omega)) PT (by omega) PU (by omega) (fun _=>g),hv2,by omega,by omega,rfl⟩
     ·have c3':¬((a+z:Nat):Int)<n:=by omega
      repeat'(with_reducible first|simp(disch:=try exact ab) only[go_sem,seval,k0,k1,k2,k6,k7,k8,kq,es,c3',ez]|(apply ai.i<;>intro hc))
      exact⟨_,by omega,2*z,e,rfl,C0,hP,A,Ch.of D PT (by omega) PU (by omega) (fun q=>by
       have:=U8 ch q;rwa[show min (a+z) n=n by omega]at this),hv,by omega,by omega,rfl⟩
  ·have c':¬(z:Int)<n:=by omega
   repeat'(with_reducible first|simp(disch:=try exact ab) only[go_sem,seval,k0,k1,k2,k6,c']|(apply ai.i<;>intro hc))
   refine⟨C0,hP,e,A,?_⟩;by_cases c0:0<n
   ·have:=U8 X4 c0;rwa[show min (0+z) n=n by omega]at this
   ·exact⟨fun i j p q r=>by omega,fun i p q=>by omega,fun v p q=>by omega⟩
theorem Yg (Q:JI n f caps t P cz L)(hn:n≤100000)(A:Rw h t n e)(hP:P h)(hid:∀k,k<n→e k=k):
  ae E2 213 [.sl t 0 n 1,.int .i64 n,.fn f caps] h fun _ h'=>fT t h h'∧P h'∧∃e',Rw h' t n e'∧Gd L e' 0 n:=by
 refine ae.fn (fn:=C.a213) rfl rfl rfl ?_;have K8:n≤1000000:=by omega
 have tail:=fun tm hp e k0 k1 k2 k6 C0 hP A Va hv=>T1 (tm:=tm) (hp:=hp) (h:=h) (e:=e) Q hn k0 k1 k2 k6 C0 hP A Va hv
 refine Wp.cut 4 rfl ?_;generalize ap.post 4 C.a213.code=rest at tail⊢
 unfold C.a213;dsimp only[ap.pre];repeat'(with_reducible first|simp(disch:=try exact ab) only[go_sem,seval]|(apply ai.i<;>intro hc))
 refine Wp.bD (fun mm s=>∃(a q:Nat) (e:Nat→Nat),val s.tm (.t 0)= .sl t 0 n 1∧val s.tm (.t 1)= .int .i64 n∧val s.tm (.t 2)= .fn f caps∧val s.tm (.t 6)= .int .i64 20∧val s.tm (.t 7)= .int .i64 a∧val s.tm (.t 8)= .int .i64 ((a:Int)+20)∧
  fT t h s.hp∧P s.hp∧Rw s.hp t n e∧a=q*20∧Dn L e 20 a∧(∀k,a≤k→k<n→e k=k)∧(∀k,k<n→e k<n)∧a≤n∧n-a=mm) (n:=n) ?_ ?_
 ·exact⟨0,0,e,aL,aL,aL,aL,by(simp(disch:=try exact ab) only[go_sem,seval])<;>rfl,by(simp(disch:=try exact ab) only[go_sem,seval])<;>rfl,fT.refl,hP,A,rfl,fun k hk=>by omega,fun k _ hk=>hid k hk,fun k hk=>by rw[hid k hk];exact hk,aE _,rfl⟩
 ·clear A hP hid;rintro mm ⟨tm,hp⟩ ⟨a,q,e,k0,k1,k2,k6,k7,k8,C0,hP,A,PT,D,hid,hv,PU,rfl⟩;simp only at k0 k1 k2 k6 k7 k8 C0 hP A;by_cases c:a+20≤n
  ·have c':(a:Int)+20≤n:=by omega
   have eb:(a:Int)+20=((a+20:Nat):Int):=by omega
   rw[eb]at k8 c';repeat'(with_reducible first|simp(disch:=try exact ab) only[go_sem,seval,k0,k1,k2,k6,k7,k8,c']|(apply ai.i<;>intro hc))
   refine ae.mono (TS Q (a:=a) (b:=a+20) (by omega) c K8 A hP hv (fun i j p q r=>by rw[hid i p (by omega),hid j (by omega) (by omega)];exact q)) fun v h2 ⟨C1,e2,A2,p2,s2⟩=>?_
   have g:=Gd.Nu (fun k p q=>hid k p (by omega)) p2 s2;repeat'(with_reducible first|simp(disch:=try exact ab) only[go_sem,seval,k0,k1,k2,k6,k7,k8]|(apply ai.i<;>intro hc))
   exact⟨_,by omega,a+20,q+1,e2,rfl,rfl,C0.trans C1,Q.st _ _ hP C1,A2,by omega,(D.same fun k hk=>p2.out k (by omega)).next PT g,fun k p q=>by rw[p2.out k (by omega)];exact hid k (by omega) q,p2.val c hv,c,rfl⟩
  ·have c':¬(a:Int)+20≤n:=by omega
   repeat'(with_reducible first|simp(disch:=try exact ab) only[go_sem,seval,k0,k1,k2,k6,k7,k8,c']|(apply ai.i<;>intro hc))
   by_cases c2:a<n
   ·refine ae.mono (TS Q (a:=a) (b:=n) c2 (ac _) K8 A hP hv (fun i j p q r=>by rw[hid i p (by omega),hid j (by omega) r];exact q)) fun v h2 ⟨C1,e2,A2,p2,s2⟩=>?_
    have g:=Gd.Nu (fun k p q=>hid k p q) p2 s2;have ch:=Ch.of (D.same fun k hk=>p2.out k (by omega)) PT (by decide) PU (by omega) (fun _=>g);repeat'(with_reducible first|simp(disch:=try exact ab) only[go_sem,seval]|(apply ai.i<;>intro hc))
    exact tail _ _ e2 (by simp(disch:=try exact ab) only[go_sem,seval,k0]) (by simp(disch:=try exact ab) only[go_sem,seval,k1]) (by simp(disch:=try exact ab) only[go_sem,seval,k2]) (by simp(disch:=try exact ab) only[go_sem,seval,k6]) (C0.trans C1) (Q.st _ _ hP C1) A2 ch (p2.val (ac _) hv)
   ·refine ae.mono (TR K8 (ac _) (by omega) (by omega)) fun v h2 e2=>?_
    subst e2;have ch:Ch L e 20 0 n:=Ch.of D PT (by decide) PU (by omega) (fun q=>absurd q c2);repeat'(with_reducible first|simp(disch:=try exact ab) only[go_sem,seval]|(apply ai.i<;>intro hc))
    exact tail _ _ e (by simp(disch:=try exact ab) only[go_sem,seval,k0]) (by simp(disch:=try exact ab) only[go_sem,seval,k1]) (by simp(disch:=try exact ab) only[go_sem,seval,k2]) (by simp(disch:=try exact ab) only[go_sem,seval,k6]) C0 hP A ch hv
end
end
end Go.Ae
namespace Go.Ae
open So Bg
noncomputable section
def lG (x:Int):Prop:=x<0∨999999999<x
instance {x:Int}:Decidable (lG x):=by unfold lG;infer_instance
def nB (w:List Int):Int:=if w.length=0 then 12 else if 256<w.length then 5 else if ∃x∈w,lG x then 3 else if ∃x∈w,x≠0 then 0 else 6
def OI (T:Int):Int:=if lG T then 3 else 0
theorem qX {w:List Int}(h:nB w=0):0<w.length∧w.length≤256∧(∀x∈w,0≤x∧x≤999999999)∧∃x∈w,x≠0:=by
 unfold nB at h;by_cases c1:w.length=0
 ·rw[if_pos c1]at h;omega
 rw[if_neg c1]at h;by_cases c2:256<w.length
 ·rw[if_pos c2]at h;omega
 rw[if_neg c2]at h;by_cases c3:∃x∈w,lG x
 ·rw[if_pos c3]at h;omega
 rw[if_neg c3]at h;by_cases c4:∃x∈w,x≠0
 ·refine⟨by omega,by omega,fun x hx=>?_,c4⟩;have:¬lG x:=fun b=>c3 ⟨x,hx,b⟩
  unfold lG at this;omega
 ·rw[if_neg c4]at h;omega
section
variable {h h' hp:Hp}{K:AV→Hp→Prop}{tm:T AV}{n t f s a b m q:Nat}{d e e':Nat→Nat}{v:AV}{w:List Int}
theorem iC.Nz (hS:iC 1 h v w.length (w.map (AV.int .i64))){i:Nat}(hi:i<w.length):∀h' K,fB false 1 i (h.get v.tok) h' K↔K (.int .i64 (w.getD i 0)) h':=by
 obtain⟨own,st,hg,ht,hst⟩:=hS.rz.get (by omega);intro h' K;rw[hg,fB.row,if_pos (by rw[List.length_map];omega),if_neg (by decide),bZ,aC hi,aR,aC hi];exact Iff.rfl
theorem iC.KF (hS:iC 1 h v w.length (w.map (AV.int .i64)))(hi:0<w.length):∀c0,h.df≤c0→jS (h.get v.tok) c0=true:=by
 obtain⟨own,st,hg,ht,hst⟩:=hS.rz.get (by omega);intro c0 hc;rw[hg];exact jS.row (az hst hc)
theorem Ya {f:Nat}{p:Int→Prop}{_:∀x,Decidable (p x)}(hS:iC 1 h v w.length (w.map (AV.int .i64)))(hl:w.length≤1000000)
  (hf:∀(h:Hp) (x:Int) (K:AV→Hp→Prop),ae E2 f [.int .i64 x] h K↔K (.bool (decide (p x))) h):
  ae E2 273 [v,.fn f []] h fun r h'=>h'=h∧∃z:Int,r= .int .i64 z∧(0≤z↔∃x∈w,p x):=by
 refine ae.fn (fn:=C.L3) rfl rfl rfl ?_;unfold C.L3;have rz:=hS.rz;have ln:=rz.len;have ad:=rz.iZ;repeat'(with_reducible first|simp(disch:=try exact ab) only[go_sem,seval,ln]|(apply ai.i<;>intro hc))
 refine Wp.bD (fun m s=>∃(i:Nat),val s.tm (.t 0)=v∧val s.tm (.t 1)= .fn f []∧val s.tm (.t 7)= .int .i64 w.length∧val s.tm (.t 8)= .int .i64 i∧
  s.hp=h∧i≤w.length∧(∀x∈w.take i,¬p x)∧w.length-i=m) (n:=w.length) ?_ ?_
 ·exact⟨0,aL,aL,by simp(disch:=try exact ab) only[go_sem,seval,ln],by(simp(disch:=try exact ab) only[go_sem,seval])<;>rfl,rfl,aE _,by simp,rfl⟩
 ·rintro m ⟨tm,hp⟩ ⟨i,k0,k1,k7,k8,rfl,hle,hok,rfl⟩;simp only at k0 k1 k7 k8;by_cases hlt:i<w.length
  ·have hlt':(i:Int)<w.length:=by omega
   have ld:=hS.Nz hlt;have hx:w.getD i 0=w[i]:=by rw[aR,aC hlt];rfl
   have mem:w.getD i 0∈w:=by rw[hx];exact CF hlt
   have htk:w.take (i+1)=w.take i++[w.getD i 0]:=by rw[hx,pw];simp[hlt]
   generalize w.getD i 0=x at *
   by_cases c:p x
   ·have cd:decide (p x)=true:=decide_eq_true c;repeat'(with_reducible first|simp(disch:=try exact ab) only[go_sem,seval,k0,k1,k7,k8,hlt',ad,ld,hf,cd]|(apply ai.i<;>intro hc))
    exact⟨_,rfl,fun _=>⟨x,mem,c⟩,fun _=>by omega⟩
   ·have cd:decide (p x)=false:=decide_eq_false c;repeat'(with_reducible first|simp(disch:=try exact ab) only[go_sem,seval,k0,k1,k7,k8,hlt',ad,ld,hf,cd]|(apply ai.i<;>intro hc))
    refine⟨_,by omega,i+1,rfl,hlt,?_,rfl⟩;intro y hy;rw[htk,dQ]at hy;rcases hy with hy|hy
    ·exact hok y hy
    ·simp only[yd]at hy;subst hy;exact c
  ·have hlt':¬(i:Int)<w.length:=by omega
   obtain rfl:i=w.length:=by omega
   rw[bu]at hok;repeat'(with_reducible first|simp(disch:=try exact ab) only[go_sem,seval,k0,k1,k7,k8,hlt']|(apply ai.i<;>intro hc))
   exact⟨_,rfl,by omega,fun⟨x,hx,c⟩=>absurd c (hok x hx)⟩
theorem T2 {f:Nat}{p:Int→Prop}{_:∀x,Decidable (p x)}(hS:iC 1 h v w.length (w.map (AV.int .i64)))(hl:w.length≤1000000)
  (hf:∀(h:Hp) (x:Int) (K:AV→Hp→Prop),ae E2 f [.int .i64 x] h K↔K (.bool (decide (p x))) h):
  ae E2 210 [v,.fn f []] h K↔K (.bool (decide (∃x∈w,p x))) h:=by
 refine ae.cX (ae.fn (fn:=C.a210) rfl rfl rfl ?_);unfold C.a210;repeat'(with_reducible first|simp(disch:=try exact ab) only[go_sem,seval]|(apply ai.i<;>intro hc))
 refine ae.mono (Ya hS hl hf) fun r h2 ⟨e1,z,e2,q⟩=>?_
 subst e1 e2;by_cases c:∃x∈w,p x
 ·have c':=q.2 c;rw[decide_eq_true c];repeat'(with_reducible first|simp(disch:=try exact ab) only[go_sem,seval,decide_eq_true c']|(apply ai.i<;>intro hc))
 ·have c':¬0≤z:=fun e=>c (q.1 e)
  rw[decide_eq_false c];repeat'(with_reducible first|simp(disch:=try exact ab) only[go_sem,seval,decide_eq_false c']|(apply ai.i<;>intro hc))
theorem Yi {x:Int}:ae E2 211 [.int .i64 x] h K↔K (.bool (decide (lG x))) h:=by
 refine ae.cX (ae.fn (fn:=C.Mp) rfl rfl rfl ?_);unfold C.Mp;unfold lG;by_cases c:x<0
 ·rw[decide_eq_true (show x<0∨999999999<x from .inl c)];repeat'(with_reducible first|simp(disch:=try exact ab) only[go_sem,seval,c,decide_eq_true c]|(apply ai.i<;>intro hc))
 ·have e:(x<0∨999999999<x)=(999999999<x):=by apply propext;omega
  simp only[e];repeat'(with_reducible first|simp(disch:=try exact ab) only[go_sem,seval,c,decide_eq_false c]|(apply ai.i<;>intro hc))
theorem Yh {x:Int}:ae E2 212 [.int .i64 x] h K↔K (.bool (decide (x≠0))) h:=by
 refine ae.cX (ae.fn (fn:=C.a212) rfl rfl rfl ?_);unfold C.a212;repeat'(with_reducible first|simp(disch:=try exact ab) only[go_sem,seval]|(apply ai.i<;>intro hc))
theorem jL {t:Nat}{a b:Int}(hA:At h t [.int .i64 a,.int .i64 b])(ht:t<h.next):Gv E2 130 [.sl t 0 2 1] h (.int .i64 (jZ a b)):=by
 obtain⟨st,hg⟩:=hA;exact pV hg ht
theorem Yv (hS:iC 1 h v w.length (w.map (AV.int .i64)))(hl:w.length≤1000000):Gv E2 132 [v] h (.int .i64 (nB w)):=by
 refine Gv.of (ae.fn (fn:=C.MJ) rfl rfl rfl ?_);unfold C.MJ;have ln:=hS.rz.len;have q1:=fun K=>T2 (K:=K) hS hl (p:=lG) (f:=211) fun h x K=>Yi
 have q2:=fun K=>T2 (K:=K) hS hl (p:=fun x=>x≠0) (f:=212) fun h x K=>Yh
 obtain⟨b1,e1⟩:∃b,decide (∃x∈w,lG x)=b:=⟨_,rfl⟩
 obtain⟨b2,e2⟩:∃b,decide (∃x∈w,x≠0)=b:=⟨_,rfl⟩
 simp only[e1,e2]at q1 q2
 have fin:nW (if w.length=0 then 12 else 0) (if 256<w.length then 5 else 0) (if b1=true then 3 else 0) (if(!b2)=true then 6 else 0)=nB w:=by
  unfold nB nW;by_cases c1:w.length=0
  ·rw[if_pos c1,if_pos c1];rfl
  rw[if_neg c1,if_neg c1,if_pos rfl];by_cases c2:256<w.length
  ·rw[if_pos c2,if_pos c2];rfl
  rw[if_neg c2,if_neg c2,if_pos rfl];by_cases c3:∃x∈w,lG x
  ·rw[decide_eq_true c3]at e1;subst e1;rw[if_pos rfl,if_pos c3];rfl
  rw[decide_eq_false c3]at e1;subst e1;rw[if_neg c3];by_cases c4:∃x∈w,x≠0
  ·rw[decide_eq_true c4]at e2;subst e2;rw[if_pos c4];rfl
  ·rw[decide_eq_false c4]at e2;subst e2;rw[if_neg c4];rfl
 have z1:((w.length:Int)=0)=(w.length=0):=by apply propext;omega
 have z2:((256:Int)<w.length)=(256<w.length):=by apply propext;omega
 rw[←fin];cases b1<;>cases b2
 all_goals repeat'(with_reducible first|simp(disch:=try exact ab) only[go_sem,seval,ln,q1,q2,LM,Of,Jk,z1,z2]|(apply ai.i<;>intro hc))
 all_goals refine(Qn Hp.cu nL).wp fun h2 k j g=>?_
 all_goals repeat'(with_reducible first|simp(disch:=try exact ab) only[go_sem,seval]|(apply ai.i<;>intro hc))
 all_goals first|exact⟨rfl,aS⟩|exact aS
theorem Yt {B R:Nat}{r:Nat→Nat}{x y:Nat}(hB:bv h B [.sl R 0 n 1])(hR:Rw h R n r)(hx:x<n)(hy:y<n)(hn:n≤1000000)(hr:∀k,k<n→r k≤4000000000000000000):
  ae E2 134 [.int .i64 x,.int .i64 y,.ptr B 0] h K↔K (.int .i64 ((r y:Int)-r x)) h:=by
 refine ae.cX (ae.fn (fn:=C.MH) rfl rfl rfl ?_);unfold C.MH;obtain⟨st,hg,h1,h2⟩:=hB;have l1:=hR.ld hx;have l2:=hR.ld hy;have od:=hR.old;have b1:=hr x hx;have b2:=hr y hy;repeat'(with_reducible first|simp(disch:=try exact ab) only[go_sem,seval,hg,l1,l2,od]|(apply ai.i<;>intro hc))
def oh (r:Nat→Nat)(x y:Nat):Prop:=r y<r x∨(r x=r y∧x<y)
theorem Qi {B R:Nat}{r:Nat→Nat}(hn:n≤1000000)(hr:∀k,k<n→r k≤4000000000000000000)(hB:B≠t)(hR:R≠t):
  JI n 134 [.ptr B 0] t (fun h=>bv h B [.sl R 0 n 1]∧Rw h R n r) (fun x y=>(r y:Int)-r x) (oh r) where
 st:=fun h h' ⟨p1,p2⟩ c=>⟨p1.mP c hB,bv.mP p2 c hR⟩
 call:=fun h x y K ⟨p1,p2⟩ hx hy=>Yt p1 p2 hx hy hn hr
 lt:=fun x y hxy=>by unfold oh;omega
 gt:=fun x y hxy=>by unfold oh;omega
 tr:=fun x y z h1 h2=>by unfold oh at *;omega
theorem Yu {caps:List AV}{P:Hp→Prop}{cz:Nat→Nat→Int}{L:Nat→Nat→Prop}(Q:JI n f caps t P cz L)(hn:n≤100000)(A:Rw h t n e)(hP:P h)(hid:∀k,k<n→e k=k):
  ae E2 133 [.sl t 0 n 1,.fn f caps] h fun _ h'=>fT t h h'∧P h'∧∃e',Rw h' t n e'∧Gd L e' 0 n:=by
 refine ae.fn (fn:=C.MI) rfl rfl rfl ?_;unfold C.MI;repeat'(with_reducible first|simp(disch:=try exact ab) only[go_sem,seval]|(apply ai.i<;>intro hc))
 refine ae.mono (Yg Q hn A hP hid) fun v h2 q=>?_
 repeat'(with_reducible first|simp(disch:=try exact ab) only[go_sem,seval]|(apply ai.i<;>intro hc))
 exact q
end
end
end Go.Ae
set_option exponentiation.threshold 20000
namespace Go.Ae
open Bg N Go.Proofs Gj So
noncomputable section
def Ts (h:Hp)(T n:Nat)(e:Nat→AV):Prop:=∃st,h.get T=some (.row ((fg n).map e) true st)∧T<h.next∧st≤h.df
def vt (e:Nat→AV)(j:Nat)(v:AV):Nat→AV:=fun i=>if i=j then v else e i
abbrev Sw (h:Hp)(t w:Nat)(g:Nat→Rat):Prop:=Ts h t w fun k=> .str (bU (g k))
def Fg (h0 h:Hp)(v:AV)(k:Nat)(g:Nat→Rat):Prop:=(v= .av∧k=0)∨∃u,v= .sl u 0 k 4∧0<k∧Fw h u k g∧h0.next≤u
section
variable {h h' h0 hp:Hp}{K:AV→Hp→Prop}{tm:Ae.T AV}{v va vb vw s:AV}{a b r tt:Rat}{x y:Fc}{p T n z w i j k f u c q:Nat}{t t':Nat→Nat}{M:Mt}{e:Nat→AV}{g:Nat→Rat}{o:Option di}{l:List (List UInt8)}{rs:List Rat}
theorem Ts.ld (P:Ts h T n e)(hj:j<n):∀h' K,fB false 1 j (h.get T) h' K↔K (e j) h':=by
 obtain⟨st,hg,h1,h2⟩:=P;intro h' K;rw[hg,fB.row,if_pos (by simp;omega),if_neg (by decide),bZ,im hj];exact Iff.rfl
theorem Ts.old (P:Ts h T n e):∀c0,h.df≤c0→jS (h.get T) c0=true:=by
 obtain⟨st,hg,h1,h2⟩:=P;intro c0 hc;rw[hg];exact jS.row (az h2 hc)
theorem Ts.lt (P:Ts h T n e):T<h.next:=by
 obtain⟨st,hg,h1,h2⟩:=P;exact h1
theorem Ts.aO (P:Ts h T n e)(G:aK h h'):Ts h' T n e:=by
 obtain⟨st,hg,h1,h2⟩:=P;exact⟨st,(G.get h1).trans hg,ah h1 G.next,az h2 G.df⟩
theorem Ts.mP (P:Ts h T n e)(ch:fT p h h')(ne:T≠p):Ts h' T n e:=by
 obtain⟨st,hg,h1,h2⟩:=P;exact⟨st,(ch.get T h1 ne).trans hg,ah h1 ch.next,az h2 ch.df⟩
theorem Ts.nw (P:Ts h T n e)(hn:0<n)(he:∀m:Nat,e 0≠wd .u64 m):nw h T:=by
 obtain⟨st,hg,h1,h2⟩:=P;obtain⟨n,rfl⟩:∃m,n=m+1:=⟨n-1,by omega⟩
 rw[Fz,fR]at hg;exact nw.row hg he
theorem Ts.congr {e':Nat→AV}(P:Ts h T n e)(he:∀k,k<n→e' k=e k):Ts h T n e':=by
 obtain⟨st,hg,h1,h2⟩:=P;refine⟨st,?_,h1,h2⟩;rw[hg];have:(fg n).map e=(fg n).map e':=cE fun k hk=>(he k (by simpa using hk)).symm
 rw[this]
theorem Ts.st (P:Ts h T n e)(hj:j<n)(hv:v.cells=[v])(h1:v.one=true)(ho:o=h.get T)(hk:∀h',fT T h h'→Ts h' T n (vt e j v)→K jO h'):fG 1 T j v o h K:=by
 obtain⟨st,hg,h3,h2⟩:=P;rw[ho,hg,fG.row,hv];refine⟨rfl,by simp;omega,by simp[h1],hk _ fT.refl.put ⟨_,?_,h3,ac _⟩⟩;rw[yE (by simpa using hj)];have:=vQ (n:=n) (j:=j) (e:=e) (e':=vt e j v) hj rfl (fun i hi=>by unfold vt;rw[if_neg hi]);rw[show vt e j v j=v by unfold vt;rw[if_pos rfl]]at this;rw[this];exact Hp.lU
theorem Fw.app {b':Nat}(F:Fw h u w g)(hl:h0.next≤u)(I:kf h (.agg x.l) r)(G:aK h0 h)(HY:0<w)(hw:w≤100000)(hb:b'≤100)(hq:q=h.next)(hk:∀u' h',aK h0 h'→fT u h h'→Ae.nw h u→Fw h' u' (w+1) (AZ g w r)→h.next<u'→K (.sl u' 0 (w+1) 4) h'):
  eW (kr (h.push fun st=> .row x.l true st) 4 b' (.sl u 0 w 4) (.sl q 0 1 4)) K:=by
 have hn:=F.nw HY;have F0:=F;obtain⟨L,st,hg,h1,h2,h3,h4⟩:=F;subst h3;have O:ee 4 h0 h (.sl u 0 L.length 4) L.length (L.flatMap Fc.l):=⟨kG Fc.nf L,.inr ⟨u,st,rfl,hg,hl,h1,h2⟩⟩
 have hb2:(L.length+1)*b'≤(L.length+1)*100:=aD _ hb;refine ee.UD hq G O x.nf (by decide) (by omega) (by omega) fun v' h' G' O' fr nx ck fs nn=>?_
 obtain⟨hl',⟨e1,_⟩|⟨t',st',e1,hg',_,h1',h2'⟩⟩:=O'
 ·exact absurd e1 nn
 ·subst e1;have ch:fT u h h':=⟨nx,ck,fun t ht ne=>fr t ht fun t'' o' n' e=>by injection e with e;omega⟩
  have hlt:=fs t' 0 (L.length+1) rfl;refine hk t' h' G' ch hn ⟨L++[x],st',by rw[List.flatMap_append];simpa using hg',h1',h2',by simp,fun k hk=>?_⟩ hlt;unfold AZ;by_cases c:k=L.length
  ·subst c;rw[if_pos rfl,AT (ac _)];simp only[oA,FA];exact I.qQ ch hn
  ·have hk':k<L.length:=by simp at hk;omega
   rw[if_neg c,CG hk'];exact(h4 k hk').qQ ch hn
theorem Fg.app {b':Nat}(F:Fg h0 h v w g)(I:kf h (.agg x.l) r)(G:aK h0 h)(hw:w≤100000)(hb:b'≤100)(hq:q=h.next)(hk:∀v' h',aK h0 h'→Fg h0 h' v' (w+1) (AZ g w r)→K v' h'):
  eW (kr (h.push fun st=> .row x.l true st) 4 b' v (.sl q 0 1 4)) K:=by
 rcases F with⟨rfl,rfl⟩|⟨u,rfl,HY,F,hl⟩
 ·refine ee.UD hq G ee.nil x.nf (by decide) (by omega) (by omega) fun v' h' G' O' fr nx ck fs nn=>?_
  obtain⟨hl',⟨e1,_⟩|⟨t',st',e1,hg',hlo,h1',h2'⟩⟩:=O'
  ·exact absurd e1 nn
  ·subst e1;have ch:aK h h':=⟨h'.next-h.next,h'.df-h.df,by omega,by omega,fun t ht=>fr t ht fun t'' o' n' e=>nomatch e⟩
   refine hk _ h' G' (.inr ⟨t',rfl,vG,⟨[x],st',by simpa using hg',h1',h2',rfl,fun k hk=>?_⟩,hlo⟩);obtain rfl:k=0:=by simpa using hk
   exact I.aO ch
 ·exact F.app hl I G HY hw hb hq fun u' h' G' ch hn F' hlt=>hk _ h' G' (.inr ⟨u',rfl,Nat.succ_pos _,F',by have:=G.next;omega⟩)
theorem Jj (o:js h v l)(hl:l.length≤1000000)(hs:∀i,i<l.length→(kh l i).length≤1000000):Gv E2 136 [v] h (.int .i64 (nq l)):=by
 refine Gv.of (ae.fn (fn:=C.MF) rfl rfl rfl ?_);unfold C.MF;have ln:=o.rz.len;have ad:=o.rz.iZ;repeat'(with_reducible first|simp(disch:=try exact ab) only[go_sem,seval,ln]|(apply ai.i<;>intro hc))
 refine Wp.bD (fun mm s=>∃(i:Nat),val s.tm (.t 6)=v∧val s.tm (.t 7)= .int .i64 l.length∧val s.tm (.t 8)= .int .i64 i∧
  aK h s.hp∧i≤l.length∧sy (fun i=>fj (kh l i)) (l.length-i) i=nq l∧l.length-i=mm) (n:=l.length) ?_ ?_
 ·exact⟨0,aL,by simp(disch:=try exact ab) only[go_sem,seval,ln],by(simp(disch:=try exact ab) only[go_sem,seval])<;>rfl,aK.refl _,aE _,rfl,rfl⟩
 ·rintro mm ⟨tm,hp⟩ ⟨i,k6,k7,k8,G,hle,hsc,rfl⟩;simp only at k6 k7 k8 G;by_cases hlt:i<l.length
  ·have hlt':(i:Int)<l.length:=by omega
   have hlt1:i+1≤l.length:=hlt;have ld:=(o.aO G).ld hlt;have f101:=fun h=>i101 (h:=h) (hs i hlt)
   rw[←hsc];by_cases c1:fj (kh l i)=0
   ·rw[c1]at f101;repeat'(with_reducible first|simp(disch:=try exact ab) only[go_sem,seval,k6,k7,k8,ad,hlt',ld]|(refine Gv.wp (f101 _) fun _ _ _ _=>?_)|(apply ai.i<;>intro hc))
    exact⟨_,by omega,i+1,rfl,G.trans aS,hlt1,(qn (f:=fun i=>fj (kh l i)) (k:=l.length-i) c1 (by omega)).symm,rfl⟩
   ·rw[lT (f:=fun i=>fj (kh l i)) c1 (by omega)];repeat'(with_reducible first|simp(disch:=try exact ab) only[go_sem,seval,k6,k7,k8,ad,hlt',ld,c1]|(refine Gv.wp (f101 _) fun _ _ _ _=>?_)|(apply ai.i<;>intro hc))
    first|exact G.trans aS|exact⟨rfl,G.trans aS⟩
  ·have hlt':¬(i:Int)<l.length:=by omega
   obtain rfl:i=l.length:=by omega
   rw[←hsc,oA];repeat'(with_reducible first|simp(disch:=try exact ab) only[go_sem,seval,k6,k7,k8,hlt']|(apply ai.i<;>intro hc))
   first|exact G|exact⟨rfl,G⟩
theorem Sx {ln:vA .slice v=some (.int .i64 n)}(ad:∀(k:IntKind) (i:Int),0≤i∧i<n→wi 1 v (.int k i)=some (.ptr v.tok (i.toNat*1)))
  (ld:∀i,i<n→∀h' K,fB false 1 i (h.get v.tok) h' K↔K (.str (bU (g i))) h') (ht:v.tok<h.next) (ok:∀i,i<n→qd (g i)=true) (hn:n≤1000000):Gp E2 137 [v] h fun v' h'=>∃u,v'= .sl u 0 n 4∧Fw h' u n g∧h.next≤u:=by
 refine Gp.of (ae.fn (fn:=C.ME) rfl rfl rfl ?_);unfold C.ME;repeat'(with_reducible first|simp(disch:=try exact ab) only[go_sem,seval,ln]|(apply ai.i<;>intro hc))
 refine VX (n:=n) (by simp(disch:=try exact ab) only[go_sem,seval,ln]) (by simp(disch:=try exact ab) only[go_sem,seval,ln]) hn ?_;repeat'(with_reducible first|simp(disch:=try exact ab) only[go_sem,seval,ln]|(apply ai.i<;>intro hc))
 refine Wp.bD (fun m s=>∃(i:Nat) (g':Nat→Rat) (L:List Fc) (c:Nat),val s.tm (.t 9)=v∧val s.tm (.t 10)= .int .i64 n∧val s.tm (.t 11)= .int .i64 i∧val s.tm (.t 3)= .sl h.next 0 n 4∧
  aK h s.hp∧s.hp.get h.next=some (.row ((L++aw (n-i) Fc.z).flatMap Fc.l) true c)∧h.next<s.hp.next∧c≤s.hp.df∧L.length=i∧(∀k (hk:k<L.length),kf s.hp (.agg (L[k]).l) (g k))∧i≤n∧n-i=m) (n:=n) ?_ ?_
 ·exact⟨0,g,[],_,aL,by simp(disch:=try exact ab) only[go_sem,seval,ln],by(simp(disch:=try exact ab) only[go_sem,seval])<;>rfl,aL,(aK.refl _).push,Hp.cu,eQ _,ac _,rfl,fun k hk=>absurd hk (gz _),aE _,rfl⟩
 ·rintro m ⟨tm,hp⟩ ⟨i,g',L,c,h9,h10,h11,h3,hG,hgT,hT,hc,hL,hF,hle,rfl⟩;simp only at h9 h10 h11 h3 hG hgT hT hc hF
  have hls:((L++aw (n-i) Fc.z).flatMap Fc.l).length=n*4:=by
   rw[kG Fc.nf,List.length_append,List.length_replicate,hL];congr 1;omega
  by_cases hlt:i<n
  ·have hlt':(i:Int)<n:=by omega
   have hcs:=ld i hlt;have hgv:=hG.get ht;rw[←hgv]at hcs;have hok:=ok i hlt
   have K0:aw (n-i) Fc.z=Fc.z::aw (n-(i+1)) Fc.z:=by
    rw[show n-i=n-(i+1)+1 by omega];rfl
   have hcell:nw hp h.next:=by
    rw[K0]at hgT;cases L with
    |nil=>rw[List.nil_append,iE]at hgT;exact nw.row (l:= .int .i64 0) hgT (fun m e=>by unfold wd at e;cases e)
    |cons y L=>rw[List.cons_append,iE]at hgT;exact nw.row (l:= .int .i64 y.n) hgT (fun m e=>by unfold wd at e;cases e)
   have BQ:i*4+4≤((L++aw (n-i) Fc.z).flatMap Fc.l).length:=by omega
   have mK:=fun x:Fc=>zG (L:=L) (x:=x) (R:=aw (n-(i+1)) Fc.z) (y:=Fc.z)
   rw[←K0,hL]at mK;have hlt1:i+1≤n:=hlt;generalize (L++aw (n-i) Fc.z).flatMap Fc.l=cells at *
   repeat'(with_reducible first|simp(disch:=try exact ab) only[go_sem,seval,h9,h10,h11,h3,hlt',ad,hcs,hlt1]|(apply ai.i<;>intro hc))
   refine Gp.wp (i111 hok) fun v1 k1 a1 b1 u1 I1=>?_
   obtain⟨x,rfl,o1,o2⟩:=I1.cell;have SJ:=mK x;have gu:aK hp (hp.ov k1 u1):=⟨_,_,u1⟩
   have Ij:=hcell.aO gu hT;repeat'(with_reducible first|simp(disch:=try exact ab) only[go_sem,seval,h9,h10,h11,h3,hgT,BQ,o1,o2,Fc.l]|(apply ai.i<;>intro hc))
   refine⟨_,by omega,i+1,g',L++[x],_,rfl,aS,congrArg (fun q=>some (di.row q true _)) SJ,by omega,ac _,by simp[hL],fun k hk=>?_,hlt,rfl⟩;by_cases ck:k<L.length
   ·rw[CG ck];exact((hF k ck).aO gu).qQ fT.refl.put Ij
   ·obtain rfl:k=L.length:=by simp at hk;omega
    rw[AT (ac _)];simp only[oA,FA,hL];exact I1.qQ fT.refl.put Ij
  ·have hlt':¬(i:Int)<n:=by omega
   obtain rfl:i=n:=by omega
   repeat'(with_reducible first|simp(disch:=try exact ab) only[go_sem,seval,h9,h10,h11,h3,hlt']|(apply ai.i<;>intro hc))
   rw[oA,List.replicate_zero,List.append_nil]at hgT;exact⟨⟨_,rfl,⟨L,_,hgT,hT,hc,hL,hF⟩,ac _⟩,hG⟩
end
end
end Go.Ae
namespace Go.Ae
open Bg N Go.Proofs Gj So
noncomputable section
def Gm (h0 h:Hp)(v:AV)(i w:Nat)(M:Mt):Prop:=(v= .av∧i=0)∨∃T t,v= .sl T 0 i 1∧0<i∧Fm h0 h T t i w M
section
variable {h h' h0 h1 hp:Hp}{K:AV→Hp→Prop}{tm:Ae.T AV}{v va vb vw s:AV}{a b r tt:Rat}{x y:Fc}{p T n z w i j k f u c q:Nat}{t t':Nat→Nat}{M:Mt}{e:Nat→AV}{g:Nat→Rat}{o:Option di}{l:List (List UInt8)}{rs:List Rat}
theorem Ts.VD (P:Ts h1 T n e)(G:aK h0 h1)(gr:aK h1 h)(hj:j<n)(hv:v.cells=[v])(ho1:v.one=true)(qC:h0.next≤T)(ho:o=h1.get T)(hk:∀h',aK h0 h'→fT T h1 h'→Ts h' T n (vt e j v)→K jO h'):fG 1 T j v o h K:=
 (P.aO gr).st hj hv ho1 (ho.trans (gr.get P.lt).symm) fun h' ch P'=>hk h' (ch.aO (G.trans gr) qC) ((fT.of gr).trans ch) P'
theorem TZ (F:Fw h u w g)(hw:w≤1000000)(bd:∀k,k<w→Bd 3999 (g k)):Gp EX 215 [.sl u 0 w 4,.fn 140 []] h fun v _=>∃z:Int,v= .int .i64 z∧(0≤z↔¬∀k,k<w→qd (g k)=true):=by
 refine Gp.of (ae.fn (fn:=C.Mn) rfl rfl rfl ?_);unfold C.Mn;repeat'(with_reducible first|simp(disch:=try exact ab) only[go_sem,seval]|(apply ai.i<;>intro hc))
 refine Wp.bD (fun mm s=>∃(i:Nat),val s.tm (.t 0)= .sl u 0 w 4∧val s.tm (.t 1)= .fn 140 []∧val s.tm (.t 7)= .int .i64 w∧val s.tm (.t 8)= .int .i64 i∧
  aK h s.hp∧i≤w∧(∀k,k<i→qd (g k)=true)∧w-i=mm) (n:=w) ?_ ?_
 ·exact⟨0,aL,aL,aL,by(simp(disch:=try exact ab) only[go_sem,seval])<;>rfl,aK.refl _,aE _,fun k hk=>absurd hk (gz _),rfl⟩
 ·rintro mm ⟨tm,hp⟩ ⟨i,k0,k1,k7,k8,G,hle,hok,rfl⟩;simp only at k0 k1 k7 k8 G;by_cases hlt:i<w
  ·have hlt':(i:Int)<w:=by omega
   have hlt1:i+1≤w:=hlt;have Fg:=F.aO G;have hu:=Fg.lt;obtain⟨x,Ix,sC⟩:=Fg.ld hlt;have f140:=Vn Ix (bd i hlt);by_cases c1:qd (g i)=true
   ·rw[c1]at f140;repeat'(with_reducible first|simp(disch:=try exact ab) only[go_sem,seval,k0,k1,k7,k8,hlt',sC]|(refine Gv.wp (f140) fun _ _ _ _=>?_)|(apply ai.i<;>intro hc))
    refine⟨_,by omega,i+1,rfl,G.trans aS,hlt,fun k hk=>?_,rfl⟩;rcases aQ k i with c|c
    ·exact hok k c
    ·rwa[show k=i by omega]
   ·rw[show qd (g i)=false by simpa using c1]at f140;repeat'(with_reducible first|simp(disch:=try exact ab) only[go_sem,seval,k0,k1,k7,k8,hlt',sC]|(refine Gv.wp (f140) fun _ _ _ _=>?_)|(apply ai.i<;>intro hc))
    exact⟨⟨_,rfl,fun _ ko=>c1 (ko i hlt),fun _=>by omega⟩,G.trans aS⟩
  ·have hlt':¬(i:Int)<w:=by omega
   obtain rfl:i=w:=by omega
   repeat'(with_reducible first|simp(disch:=try exact ab) only[go_sem,seval,k0,k1,k7,k8,hlt']|(apply ai.i<;>intro hc))
   exact⟨⟨_,rfl,fun e=>absurd e (by decide),fun e=>absurd hok e⟩,G⟩
theorem Oe (F:Fw h u w g)(hw:w≤1000000)(bd:∀k,k<w→Bd 3999 (g k)){al:Bool}(ha:decide (∀k,k<w→qd (g k)=true)=al):Gv EX 139 [.sl u 0 w 4,.fn 140 []] h (.bool (!al)):=by
 refine Gv.of (ae.fn (fn:=C.a139) rfl rfl rfl ?_);unfold C.a139;repeat'(with_reducible first|simp(disch:=try exact ab) only[go_sem,seval]|(apply ai.i<;>intro hc))
 refine Gp.wp (TZ F hw bd) fun v1 h1 a1 b1 u1 ⟨z,hz,hi⟩=>?_
 subst hz
 have e:decide (0≤z)= !al:=by
  rw[←ha,←decide_not];exact decide_eq_decide.2 hi
 repeat'(with_reducible first|simp(disch:=try exact ab) only[go_sem,seval,e]|(apply ai.i<;>intro hc))
 all_goals exact aS
theorem GW {α:Type}{z:α}:∀n,aw n z=(fg n).map fun _=>z
 |0=>rfl
 |n+1=>by rw[List.replicate_succ,GW n,Fz,fR,AK];rfl
theorem T7 (F:Fw h u w g)(hw:w≤1000000)(ok:∀k,k<w→qd (g k)=true):Gp EX 141 [.sl u 0 w 4] h fun v h'=>∃q,v= .sl q 0 w 1∧Sw h' q w g∧h.next≤q:=by
 refine Gp.of (ae.fn (fn:=C.a141) rfl rfl rfl ?_);unfold C.a141;repeat'(with_reducible first|simp(disch:=try exact ab) only[go_sem,seval]|(apply ai.i<;>intro hc))
 refine(lI.int rfl (by omega)).2 ?_;rw[GW];repeat'(with_reducible first|simp(disch:=try exact ab) only[go_sem,seval]|(apply ai.i<;>intro hc))
 refine Wp.bD (fun mm s=>∃(i:Nat),val s.tm (.t 9)= .sl u 0 w 4∧val s.tm (.t 10)= .int .i64 w∧val s.tm (.t 11)= .int .i64 i∧val s.tm (.t 3)= .sl h.next 0 w 1∧
  aK h s.hp∧Ts s.hp h.next w (fun k=>if k<i then .str (bU (g k))else .str [])∧i≤w∧w-i=mm) (n:=w) ?_ ?_
 ·exact⟨0,aL,aL,by(simp(disch:=try exact ab) only[go_sem,seval])<;>rfl,aL,(aK.refl _).push,⟨_,Hp.cu,eQ _,ac _⟩,aE _,rfl⟩
 ·rintro mm ⟨tm,hp⟩ ⟨i,k9,k10,k11,k3,G,P,hle,rfl⟩;simp only at k9 k10 k11 k3 G P;by_cases hlt:i<w
  ·have hlt':(i:Int)<w:=by omega
   have hlt1:i+1≤w:=hlt;have Fg:=F.aO G;have hu:=Fg.lt;have hq:=P.lt;obtain⟨x,Ix,sC⟩:=Fg.ld hlt;obtain⟨o1,o2⟩:=Ix.KD;obtain⟨b1,l1⟩:=Pq (UA (ok i hlt)) (by decide);repeat'(with_reducible first|simp(disch:=try exact ab) only[go_sem,seval,k9,k10,k11,k3,hlt',sC,o1,o2,Fc.l]|(apply ai.i<;>intro hc))
   refine Gv.wp (Vm (Ix.aO aS) b1 l1) fun h1 a1 b1 u1=>?_
   repeat'(with_reducible first|simp(disch:=try exact ab) only[go_sem,seval,k9,k10,k11,k3,hlt']|(apply ai.i<;>intro hc))
   refine P.VD G aS hlt rfl rfl (ac _) rfl fun h2 G2 ch P2=>?_
   repeat'(with_reducible first|simp(disch:=try exact ab) only[go_sem,seval,k9,k10,k11,k3]|(apply ai.i<;>intro hc))
   refine⟨_,by omega,i+1,rfl,G2,P2.congr fun k hk=>?_,hlt,rfl⟩;simp only[vt];by_cases c:k=i
   ·rw[if_pos c,if_pos (by omega),c]
   ·rw[if_neg c];by_cases c2:k<i
    ·rw[if_pos c2,if_pos (by omega)]
    ·rw[if_neg c2,if_neg (by omega)]
  ·have hlt':¬(i:Int)<w:=by omega
   obtain rfl:i=w:=by omega
   repeat'(with_reducible first|simp(disch:=try exact ab) only[go_sem,seval,k9,k10,k11,k3,hlt']|(apply ai.i<;>intro hc))
   exact⟨⟨_,rfl,P.congr fun k hk=>by rw[if_pos hk],ac _⟩,G⟩
theorem Gm.app {b':Nat}(A:Gm h0 h1 v i w M)(gr:aK h1 h)(G:aK h0 h1)(F:Fw h u w (M i))(hu:h1.next≤u)(hw:0<w)(hi:i≤1000)(hb:b'≤100)(hq:q=h.next)(hk:∀v' h',aK h0 h'→Gm h0 h' v' (i+1) w M→K v' h'):
  eW (kr (h.push fun st=> .row [.sl u 0 w 4] true st) 1 b' v (.sl q 0 1 1)) K:=by
 have hn0:=G.next;have hn1:=gr.next;have H0:=F.lt;have hb2:(i+1)*b'≤(i+1)*100:=aD _ hb;rcases A with⟨rfl,rfl⟩|⟨T,t,rfl,QR,A⟩
 ·refine ee.UD hq (G.trans gr) ee.nil rfl (by decide) (by omega) (by omega) fun v' h' G' O' fr nx ck fs nn=>?_
  obtain⟨hl',⟨e1,_⟩|⟨t',st',e1,hg',hlo,h1',h2'⟩⟩:=O'
  ·exact absurd e1 nn
  ·subst e1;have ch:aK h h':=⟨h'.next-h.next,h'.df-h.df,by omega,by omega,fun t ht=>fr t ht fun t'' o' n' e=>nomatch e⟩
   have hlt:=fs t' 0 1 rfl;refine hk _ h' G' (.inr ⟨t',fun _=>u,rfl,vG,⟨⟨st',hg',h1',h2'⟩,fun j hj=>?_,fun j hj=>by omega,fun a b ha hb _=>by omega,hlo,fun j hj=>by omega⟩⟩);obtain rfl:j=0:=by omega
   exact F.aO ch
 ·have Ag:=A.aO gr;obtain⟨st,hg,h2,h3⟩:=Ag.top;have O:ee 1 h0 h (.sl T 0 i 1) i ((fg i).map fun j=> .sl (t j) 0 w 4):=⟨by simp,.inr ⟨T,st,rfl,hg,A.qC,h2,h3⟩⟩
  have hnT:=Ag.top.nw QR;have hT1:=A.top.lt;have WY:∀j,j<i→t j<h1.next:=fun j hj=>(A.row j hj).lt
  refine ee.UD hq (G.trans gr) O rfl (by decide) (by omega) (by omega) fun v' h' G' O' fr nx ck fs nn=>?_
  obtain⟨hl',⟨e1,_⟩|⟨t',st',e1,hg',hlo,h1',h2'⟩⟩:=O'
  ·exact absurd e1 nn
  ·subst e1;have ch:fT T h h':=⟨nx,ck,fun t ht ne=>fr t ht fun t'' o' n' e=>by injection e with e;omega⟩
   have hlt:=fs t' 0 (i+1) rfl
   have eu:∀j,j<i+1→(j<i∧kP t i u j=t j)∨(j=i∧kP t i u j=u):=fun j hj=>by
    unfold kP;by_cases c:j=i
    ·exact .inr ⟨c,if_pos c⟩
    ·exact .inl ⟨by omega,if_neg c⟩
   refine hk _ h' G' (.inr ⟨t',kP t i u,rfl,Nat.succ_pos _,⟨⟨st',?_,h1',h2'⟩,fun j hj=>?_,fun j hj=>?_,fun a b ha hb he=>?_,hlo,fun j hj=>?_⟩⟩)
   ·rw[hg',List.range_succ,List.map_append]
    have e1:(fg i).map (fun j=>AV.sl (t j) 0 w 4)=(fg i).map (fun j=>AV.sl (kP t i u j) 0 w 4):=cE fun j hj=>by
     have hj':j<i:=by simpa using hj
     rw[show kP t i u j=t j from if_neg (by omega)]
    rw[e1,fR,List.map_nil,show kP t i u i=u from if_pos rfl]
   ·rcases eu j hj with⟨hj',e1⟩|⟨rfl,e1⟩
    ·rw[e1];exact(Ag.row j hj').mP ch (A.ne j hj') hnT
    ·rw[e1];exact F.mP ch (by omega) hnT
   ·rcases eu j hj with⟨hj',e1⟩|⟨rfl,e1⟩
    ·rw[e1];have:=WY j hj';omega
    ·rw[e1];omega
   ·rcases eu a ha with⟨XO,e1⟩|⟨XO,e1⟩<;>rcases eu b hb with⟨hb',e2⟩|⟨hb',e2⟩<;>rw[e1,e2]at he
    ·exact A.inj a b XO hb' he
    ·have:=WY a XO;omega
    ·have:=WY b hb';omega
    ·omega
   ·rcases eu j hj with⟨hj',e1⟩|⟨rfl,e1⟩
    ·rw[e1];exact A.low j hj'
    ·rw[e1];omega
end
end
end Go.Ae
namespace Go.Ae
open Bg N Go.Proofs Gj So
noncomputable section
def vM (m:List (List (List UInt8)))(b:List (List UInt8)):Mt:=fun i k=>if k=m.length then tg (kh b i)else tg (kh (jw m i) k)
def VM:ap:=C.a37.code.r.r.r.r.l
def VL:ap:=C.a37.code.r.r.r.r.r.r.l
def VK:ap:=C.a37.code.r.r.r.r.r.r.r.r.r.l
structure Fx (h0 h:Hp)(T:Nat)(t:Nat→Nat)(n i:Nat)(M:Mt):Prop where
 top:Ts h T n fun j=> .sl (t j) 0 (if j<i then n+1 else n) 4
 row:∀j,j<n→Fw h (t j) (if j<i then n+1 else n) (M j)
 ne:∀j,j<n→t j≠T
 inj:∀i j,i<n→j<n→t i=t j→i=j
 qC:h0.next≤T
 low:∀j,j<n→h0.next≤t j
section
variable {h h' h0 h1 hp:Hp}{K:AV→Hp→Prop}{tm:Ae.T AV}{v va vb vw s:AV}{a r tt:Rat}{x y:Fc}{p T n z w i j k f u c q:Nat}{t t':Nat→Nat}{M:Mt}{e:Nat→AV}{g:Nat→Rat}{o:Option di}{l b:List (List UInt8)}{m:List (List (List UInt8))}{Q:Ex→St→Prop}
theorem ID {n n':Int}{w w':AV}(h1:w.one=true)(h2:w'.one=true):ke [.int .i64 0,.av,.int .i64 0,.av] [(0,4,.agg [.int .i64 n,w,.int .i64 n',w'])]=some [.int .i64 n,w,.int .i64 n',w']:=by
 have e1:(AV.agg [.int .i64 n,w,.int .i64 n',w']).cells=[.int .i64 n,w,.int .i64 n',w']:=rfl;rw[jE (by rw[e1];exact⟨rfl,by simp,by simp only[List.all_cons,List.all_nil,h1,h2,qy,Bool.and_self]⟩),oR,e1];rfl
theorem QV {r:Int}:jZ 0 r=r:=if_pos rfl
theorem f2e {r:Int}:jZ 2 r=2:=if_neg (by decide)
theorem Tj {r:Int}:jZ 12 r=12:=if_neg (by decide)
theorem oK (h:nq l=0):∀i,i<l.length→fj (kh l i)=0:=fun i hi=>tG (f:=fun i=>fj (kh l i)) h i (aE _) (by omega)
theorem Sy (o:js h v l)(hl:l.length=n)(hn0:0<n)(ht:∀i,i<n→kh l i=bU (g i))(ok:∀i,i<n→qd (g i)=true)(hn:n≤1000000):Gp E2 137 [v] h fun v' h'=>∃u,v'= .sl u 0 n 4∧Fw h' u n g∧h.next≤u:=by
 subst hl;exact Sx (ln:=o.rz.len) o.rz.iZ (fun i hi=>by rw[←ht i hi];exact o.ld hi) (o.lt hn0) ok hn
theorem OS (k0:val tm (.t 0)=v)(k1:val tm (.t 1)=vb)(k6:val tm (.t 6)= .int .i64 m.length)(k8:val tm (.t 8)= .av)(o:kN h v m)(G:aK h hp)(hn0:0<m.length)(hn:m.length≤24)
  (H8:∀i,i<m.length→(jw m i).length≤1000000∧∀j,j<(jw m i).length→(kh (jw m i) j).length≤1000000)
  (QO:∀fE hp' v8,val fE (.t 1)=vb→val fE (.t 6)= .int .i64 m.length→val fE (.t 8)=v8→sy (iO m) m.length 0=0→aK h hp'→Gm h hp' v8 m.length m.length (vM m b)→Q .fW ⟨fE,hp'⟩)
  (hk2:∀fE hp',val fE (.t 4)= .av→val fE (.t 5)= .int .i64 (sy (iO m) m.length 0)→sy (iO m) m.length 0≠0→aK h hp'→Q .ret ⟨fE,hp'⟩):Wp EX VM ⟨tm,hp⟩ Q:=by
 rw[show VM= .seq _ (.block 0 (.loop _)) from rfl];obtain⟨vs,rz⟩:=o.rz;have ln:=rz.len;have ad:=rz.iZ;repeat'(with_reducible first|simp(disch:=try exact ab) only[go_sem,seval,k0,k1,k6,k8,ln]|(apply ai.i<;>intro hc))
 refine Wp.bD (fun mm s=>∃(i:Nat) (v8:AV),val s.tm (.t 1)=vb∧val s.tm (.t 6)= .int .i64 m.length∧val s.tm (.t 8)=v8∧val s.tm (.t 30)=v∧val s.tm (.t 31)= .int .i64 m.length∧val s.tm (.t 32)= .int .i64 i∧
  aK h s.hp∧Gm h s.hp v8 i m.length (vM m b)∧i≤m.length∧sy (iO m) (m.length-i) i=sy (iO m) m.length 0∧m.length-i=mm) (n:=m.length) ?_ ?_
 ·exact⟨0,.av,by simp(disch:=try exact ab) only[go_sem,seval,k1],by simp(disch:=try exact ab) only[go_sem,seval,k6],by simp(disch:=try exact ab) only[go_sem,seval,k8],by simp(disch:=try exact ab) only[go_sem,seval,k0],aL,by(simp(disch:=try exact ab) only[go_sem,seval])<;>rfl,G,.inl ⟨rfl,rfl⟩,aE _,rfl,rfl⟩
 ·clear k0 k1 k6 k8 G;rintro mm ⟨tm,hp⟩ ⟨i,v8,k1,k6,k8,Pv,Pu,HR,G,A,hle,hsc,rfl⟩;simp only at k1 k6 k8 Pv Pu HR G A;have og:=o.aO G;by_cases hlt:i<m.length
  ·have hlt':(i:Int)<m.length:=by omega
   have hlt1:i+1≤m.length:=hlt;obtain⟨u,ou,ld⟩:=og.ld hlt;have lnu:=ou.rz.len;obtain⟨hl1,hl2⟩:=H8 i hlt;have LM:=fun b e h K=>QZ (f:=131) (args:=[.bool b,.int .i64 e]) (h:=h) (h':=h) (v:= .int .i64 (if b=true then e else 0)) (K:=K) fun K=>mf
   have c131t':=fun e h K=>LM true e h K
   have c131f':=fun e h K=>LM false e h K
   simp only[if_true,Bool.false_eq_true,if_false]at c131t' c131f';by_cases c1:(jw m i).length=m.length
   ·have c1':((jw m i).length:Int)=m.length:=by omega
    have el:iO m i=nq (jw m i):=by unfold iO;rw[if_neg (by omega)]
    have f136:=x2 (Jj ou hl1 hl2);by_cases c2:nq (jw m i)=0
    ·rw[c2]at f136;repeat'(with_reducible first|simp(disch:=try exact ab) only[go_sem,seval,k1,k6,k8,Pv,Pu,HR,ad,hlt',ld,lnu,c1',c131f',QV]|(refine Gv.wp (f136) fun _ _ _ _=>?_)|(refine Gv.wp (x2 (jL (a:=0) (b:=0) aL nL)) fun _ _ _ _=>?_)|(apply ai.i<;>intro hc))
     have hz:=oK c2
     have hv:∀k,k<m.length→kh (jw m i) k=bU (vM m b i k)∧qd (vM m b i k)=true:=fun k hk=>by
      unfold vM;rw[if_neg (by omega)];exact lM (hz k (by omega))
     refine Gp.wp (UC (Sy (g:=vM m b i) (ou.aO aS) c1 hn0 (fun k hk=>(hv k hk).1) (fun k hk=>(hv k hk).2) (by omega))) fun v1 h1 a1 b1 u1 ⟨y,hy,F1,hyl⟩=>?_
     subst hy;repeat'(with_reducible first|simp(disch:=try exact ab) only[go_sem,seval,k1,k6,k8,Pv,Pu,HR]|(apply ai.i<;>intro hc))
     refine A.app aS G F1 (az (aK.next aS) hyl) hn0 (by omega) (by decide) nL fun v8' h2 G2 A2=>?_
     repeat'(with_reducible first|simp(disch:=try exact ab) only[go_sem,seval,k1,k6,k8,Pv,Pu,HR]|(apply ai.i<;>intro hc))
     exact⟨_,by omega,i+1,rfl,G2,A2,hlt,(qn (f:=iO m) (k:=m.length-i) (el.trans c2) (by omega)).symm.trans hsc,rfl⟩
    ·rw[lT (by rw[el];exact c2) (by omega),el]at hsc;repeat'(with_reducible first|simp(disch:=try exact ab) only[go_sem,seval,k1,k6,k8,Pv,Pu,HR,ad,hlt',ld,lnu,c1',c131f',QV,c2]|(refine Gv.wp (f136) fun _ _ _ _=>?_)|(refine Gv.wp (x2 (jL (a:=0) (b:=nq (jw m i)) aL nL)) fun _ _ _ _=>?_)|(apply ai.i<;>intro hc))
     exact hk2 _ _ aL (by rw[←hsc];simp(disch:=try exact ab) only[go_sem,seval]) (by rw[←hsc];exact c2) (G.trans aS)
   ·have c1':¬((jw m i).length:Int)=m.length:=by omega
    have el:iO m i=2:=by unfold iO;rw[if_pos c1]
    rw[lT (by rw[el];decide) (by omega),el]at hsc;have f136:=x2 (Jj ou hl1 hl2);repeat'(with_reducible first|simp(disch:=try exact ab) only[go_sem,seval,k1,k6,k8,Pv,Pu,HR,ad,hlt',ld,lnu,c1',c131t',f2e]|(refine Gv.wp (f136) fun _ _ _ _=>?_)|(refine Gv.wp (x2 (jL (a:=2) (b:=nq (jw m i)) aL nL)) fun _ _ _ _=>?_)|(apply ai.i<;>intro hc))
    exact hk2 _ _ aL (by rw[←hsc];simp(disch:=try exact ab) only[go_sem,seval]) (by rw[←hsc];decide) (G.trans aS)
  ·have hlt':¬(i:Int)<m.length:=by omega
   obtain rfl:i=m.length:=by omega
   rw[oA]at hsc;repeat'(with_reducible first|simp(disch:=try exact ab) only[go_sem,seval,k1,k6,k8,Pv,Pu,HR,hlt']|(apply ai.i<;>intro hc))
   exact QO _ _ v8 (by simp(disch:=try exact ab) only[go_sem,seval,k1]) (by simp(disch:=try exact ab) only[go_sem,seval,k6]) (by simp(disch:=try exact ab) only[go_sem,seval,k8]) hsc.symm G A
theorem Fx.of (F:Fm h0 h T t n n M):Fx h0 h T t n 0 M:=by
 refine⟨?_,fun j hj=>?_,F.ne,F.inj,F.qC,F.low⟩
 ·have P:Ts h T n fun j=> .sl (t j) 0 n 4:=F.top
  exact P.congr fun k hk=>by rw[if_neg (gz _)]
 ·rw[if_neg (gz _)];exact F.row j hj
theorem Fx.done (F:Fx h0 h T t n n M):Fm h0 h T t n (n+1) M:=by
 refine⟨?_,fun j hj=>?_,F.ne,F.inj,F.qC,F.low⟩
 ·exact F.top.congr fun k hk=>by rw[if_pos hk]
 ·have:=F.row j hj;rwa[if_pos hj]at this
theorem Fx.next {u':Nat}{h2 h3:Hp}(F:Fx h0 h T t n i M)(hi:i<n)(gr:aK h h1)(c2:fT (t i) h1 h2)(nwr:nw h1 (t i))(F2:Fw h2 u' (n+1) (M i))(hlt:h1.next<u')(c3:fT T h2 h3)(P3:Ts h3 T n (vt (fun j=> .sl (t j) 0 (if j<i then n+1 else n) 4) i (.sl u' 0 (n+1) 4))):
  Fx h0 h3 T (kP t i u') n (i+1) M:=by
 have hg1:=gr.next;have hnT:nw h2 T:=(((F.top.aO gr).mP c2 (fun e=>F.ne i hi e.symm)).nw (by omega) (fun m e=>by unfold wd at e;cases e))
 have cs:∀j,j<n→(j=i∧kP t i u' j=u'∧(if j<i+1 then n+1 else n)=n+1)∨(j≠i∧kP t i u' j=t j∧(if j<i+1 then n+1 else n)=(if j<i then n+1 else n)):=fun j hj=>by
  unfold kP;by_cases c:j=i
  ·exact .inl ⟨c,if_pos c,if_pos (by omega)⟩
  ·refine .inr ⟨c,if_neg c,?_⟩;by_cases d:j<i
   ·rw[if_pos d,if_pos (by omega)]
   ·rw[if_neg d,if_neg (by omega)]
 have hT:=F.top.lt;have hl:=F.qC;have hlo:=F.low i hi;refine⟨P3.congr fun j hj=>?_,fun j hj=>?_,fun j hj=>?_,fun a b ha hb he=>?_,F.qC,fun j hj=>?_⟩
 ·simp only[vt];rcases cs j hj with⟨c,e1,e2⟩|⟨c,e1,e2⟩
  ·rw[if_pos c,e1,e2]
  ·rw[if_neg c,e1,e2]
 ·rcases cs j hj with⟨c,e1,e2⟩|⟨c,e1,e2⟩
  ·rw[e1,e2,c];exact F2.mP c3 (by omega) hnT
  ·rw[e1,e2];exact(((F.row j hj).aO gr).mP c2 (fun e=>c (F.inj j i hj hi e)) nwr).mP c3 (F.ne j hj) hnT
 ·rcases cs j hj with⟨c,e1,e2⟩|⟨c,e1,e2⟩
  ·rw[e1];omega
  ·rw[e1];exact F.ne j hj
 ·rcases cs a ha with⟨c,e1,_⟩|⟨c,e1,_⟩<;>rcases cs b hb with⟨d,e2,_⟩|⟨d,e2,_⟩<;>rw[e1,e2]at he
  ·omega
  ·have:=(F.row b hb).lt;omega
  ·have:=(F.row a ha).lt;omega
  ·exact F.inj a b ha hb he
 ·rcases cs j hj with⟨c,e1,e2⟩|⟨c,e1,e2⟩
  ·rw[e1];omega
  ·rw[e1];exact F.low j hj
theorem vO {g:Nat→Rat}:AZ g k (g k)=g:=by
 funext i
 unfold AZ;by_cases c:i=k
 ·rw[if_pos c,c]
 ·rw[if_neg c]
theorem Rm (k1:val tm (.t 1)=vb)(k6:val tm (.t 6)= .int .i64 n)(k8:val tm (.t 8)= .sl T 0 n 1)(G:aK h hp)(F:Fm h hp T t n n M)(ob:js h vb b)(hb:b.length=n)(hn0:0<n)(hn:n≤1000)(hv:∀i,i<n→kh b i=bU (M i n)∧qd (M i n)=true)
  (hk:∀fE hp' t',val fE (.t 6)= .int .i64 n→val fE (.t 8)= .sl T 0 n 1→aK h hp'→Fm h hp' T t' n (n+1) M→Q .fW ⟨fE,hp'⟩):Wp EX VL ⟨tm,hp⟩ Q:=by
 rw[show VL= .seq _ (.block 2 (.loop _)) from rfl];repeat'(with_reducible first|simp(disch:=try exact ab) only[go_sem,seval,k1,k6,k8]|(apply ai.i<;>intro hc))
 refine Wp.bD (fun mm s=>∃(i:Nat) (t:Nat→Nat),val s.tm (.t 1)=vb∧val s.tm (.t 6)= .int .i64 n∧val s.tm (.t 8)= .sl T 0 n 1∧val s.tm (.t 67)= .int .i64 n∧val s.tm (.t 68)= .int .i64 i∧
  aK h s.hp∧Fx h s.hp T t n i M∧i≤n∧n-i=mm) (n:=n) ?_ ?_
 ·exact⟨0,t,by simp(disch:=try exact ab) only[go_sem,seval,k1],by simp(disch:=try exact ab) only[go_sem,seval,k6],by simp(disch:=try exact ab) only[go_sem,seval,k8],aL,by(simp(disch:=try exact ab) only[go_sem,seval])<;>rfl,G,Fx.of F,aE _,rfl⟩
 ·clear k1 k6 k8 G F;rintro mm ⟨tm,hp⟩ ⟨i,t,k1,k6,k8,QL,QK,G,F,hle,rfl⟩;simp only at k1 k6 k8 QL QK G F;by_cases hlt:i<n
  ·have hlt':(i:Int)<n:=by omega
   have Xp:i<b.length:=by omega
   have hlt1:i+1≤n:=hlt;have og:=ob.aO G;have adb:=og.rz.iZ;rw[hb]at adb;have ldb:=og.ld Xp;rw[(hv i hlt).1]at ldb;have oldb:=og.old (by omega);have SY:=og.lt (by omega);have P:=F.top;have ldT:=P.ld hlt;have oldT:=P.old;have hT:=P.lt;have R:=F.row i hlt;rw[if_neg (Nat.lt_irrefl i)]at R;simp only[Nat.lt_irrefl,if_false]at ldT
   repeat'(with_reducible first|simp(disch:=try exact ab) only[go_sem,seval,k1,k6,k8,QL,QK,hlt',adb,ldb,oldb,ldT,oldT]|(apply ai.i<;>intro hc))
   refine Gp.wp (UC (i111 (hv i hlt).2)) fun v1 h1 a1 b1 u1 I1=>?_
   obtain⟨x,rfl,o1,o2⟩:=I1.cell;have gu:aK hp (hp.ov h1 u1):=⟨_,_,u1⟩
   repeat'(with_reducible first|simp(disch:=try exact ab) only[go_sem,seval,k1,k6,k8,QL,QK,hlt',adb,ldb,oldb,ldT,oldT,o1,o2,Fc.l,ID o1 o2]|(apply ai.i<;>intro hc))
   refine(R.aO gu).app (F.low i hlt) I1 (G.trans gu) hn0 (by omega) (by decide) nL fun u' h2 G2 ch nwr F2 hlt2=>?_
   rw[vO]at F2;repeat'(with_reducible first|simp(disch:=try exact ab) only[go_sem,seval,k1,k6,k8,QL,QK,hlt']|(apply ai.i<;>intro hc))
   refine((P.aO gu).mP ch (fun e=>F.ne i hlt e.symm)).st hlt rfl rfl rfl fun h3 c3 P3=>?_
   repeat'(with_reducible first|simp(disch:=try exact ab) only[go_sem,seval,k1,k6,k8,QL,QK]|(apply ai.i<;>intro hc))
   exact⟨_,by omega,i+1,kP t i u',rfl,c3.aO G2 F.qC,F.next hlt gu ch nwr F2 hlt2 c3 P3,hlt,rfl⟩
  ·have hlt':¬(i:Int)<n:=by omega
   obtain rfl:i=n:=by omega
   repeat'(with_reducible first|simp(disch:=try exact ab) only[go_sem,seval,k1,k6,k8,QL,QK,hlt']|(apply ai.i<;>intro hc))
   exact hk _ _ t (by simp(disch:=try exact ab) only[go_sem,seval,k6]) (by simp(disch:=try exact ab) only[go_sem,seval,k8]) G F.done
theorem Ro {E:Mt}(k6:val tm (.t 6)= .int .i64 n)(k8:val tm (.t 8)= .sl T 0 n 1)(eA:val tm (.t 14)= .av)(F:Fm h hp T t n (n+1) E)(hn0:0<n)(hn:n≤1000)
  (hk:∀fE hp' u,val fE (.t 14)= .sl u 0 n 4→aK hp hp'→Fw hp' u n (fun i=>E i n)→Q .fW ⟨fE,hp'⟩):Wp EX VK ⟨tm,hp⟩ Q:=by
 rw[show VK= .seq _ (.block 4 (.loop _)) from rfl];repeat'(with_reducible first|simp(disch:=try exact ab) only[go_sem,seval,k6,k8,eA]|(apply ai.i<;>intro hc))
 refine Wp.bD (fun mm s=>∃(i:Nat) (Vv:AV),val s.tm (.t 6)= .int .i64 n∧val s.tm (.t 14)=Vv∧val s.tm (.t 90)= .sl T 0 n 1∧val s.tm (.t 91)= .int .i64 n∧val s.tm (.t 92)= .int .i64 i∧
  aK hp s.hp∧Fg hp s.hp Vv i (fun i=>E i n)∧i≤n∧n-i=mm) (n:=n) ?_ ?_
 ·exact⟨0,.av,by simp(disch:=try exact ab) only[go_sem,seval,k6],by simp(disch:=try exact ab) only[go_sem,seval,eA],by simp(disch:=try exact ab) only[go_sem,seval,k8],aL,by(simp(disch:=try exact ab) only[go_sem,seval])<;>rfl,aK.refl _,.inl ⟨rfl,rfl⟩,aE _,rfl⟩
 ·clear k6 k8 eA;rintro mm ⟨tm,hq⟩ ⟨i,Vv,k6,eA,UK,ND,NB,G,A,hle,rfl⟩;simp only at k6 eA UK ND NB G A;have Fq:=F.aO G;by_cases hlt:i<n
  ·have hlt':(i:Int)<n:=by omega
   have hlt1:i+1≤n:=hlt;have Xd:(n:Int)<(n+1:Nat):=by omega
   have ldT:=Fq.top.ld hlt;have hT:=Fq.top.lt;have R:=Fq.row i hlt;have ht:=R.lt;obtain⟨x,Ix,sC⟩:=R.ld (eQ n);obtain⟨o1,o2⟩:=Ix.KD;repeat'(with_reducible first|simp(disch:=try exact ab) only[go_sem,seval,k6,eA,UK,ND,NB,hlt',Xd,ldT,sC,o1,o2,Fc.l,ID o1 o2]|(apply ai.i<;>intro hc))
   refine A.app Ix G (by omega) (by decide) nL fun v' h' G' A'=>?_
   rw[vO (g:=fun i=>E i n)]at A';repeat'(with_reducible first|simp(disch:=try exact ab) only[go_sem,seval,k6,eA,UK,ND,NB]|(apply ai.i<;>intro hc))
   exact⟨_,by omega,i+1,rfl,G',A',hlt,rfl⟩
  ·have hlt':¬(i:Int)<n:=by omega
   obtain rfl:i=n:=by omega
   repeat'(with_reducible first|simp(disch:=try exact ab) only[go_sem,seval,k6,eA,UK,ND,NB,hlt']|(apply ai.i<;>intro hc))
   rcases A with⟨_,e⟩|⟨u,rfl,_,A,_⟩
   ·omega
   ·exact hk _ _ u (by simp(disch:=try exact ab) only[go_sem,seval,eA]) G A
end
end
end Go.Ae
namespace Go.Ae
open Bg N Go.Proofs Gj So
noncomputable section
def SolP (n:Nat)(M:Mt)(v:AV)(h':Hp):Prop:=
 (el n M n=none∧v= .gk [.av,.int .i64 14])∨
 ∃E,el n M n=some E∧(((¬∀i,i<n→qd (E i n)=true)∧v= .gk [.av,.int .i64 4])∨((∀i,i<n→qd (E i n)=true)∧∃q,v= .gk [.sl q 0 n 1,.int .i64 0]∧Sw h' q n fun i=>E i n))
section
variable {h h' h0 h1 hp:Hp}{K:AV→Hp→Prop}{tm:Ae.T AV}{v va vb vw s:AV}{a r tt:Rat}{x y:Fc}{p T n z w i j k f u c q e:Nat}{t t':Nat→Nat}{M:Mt}{g:Nat→Rat}{o:Option di}{l b:List (List UInt8)}{m:List (List (List UInt8))}{Q:Ex→St→Prop}
theorem Dk {e:Int}:ae EX 131 [.bool true,.int .i64 e] h K↔K (.int .i64 e) h:=QZ fun K=>Of
theorem yM {e:Int}:ae EX 131 [.bool false,.int .i64 e] h K↔K (.int .i64 0) h:=QZ fun K=>Jk
theorem MZ (hk:k≠m.length):vM m b i k=tg (kh (jw m i) k):=if_neg hk
theorem FT:vM m b i m.length=tg (kh b i):=if_pos rfl
theorem c37 (o:kN h v m)(ob:js h vb b)(H8:∀i,i<m.length→(jw m i).length≤1000000∧∀j,j<(jw m i).length→(kh (jw m i) j).length≤1000000)(hbl:b.length≤1000000∧∀j,j<b.length→(kh b j).length≤1000000)
  (sD:nF m b=0→∃e,Mb e m.length (m.length+1) (vM m b)∧eb e m.length≤7500):
  Gp EX 37 [v,vb] h fun r h'=>(nF m b≠0∧r= .gk [.av,.int .i64 (nF m b)])∨(nF m b=0∧SolP m.length (vM m b) r h'):=by
 refine Gp.of (ae.fn (fn:=C.a37) rfl rfl rfl ?_);rw[show C.a37.code= .seq _ (.seq _ (.seq _ (.seq _ (.seq VM (.seq _ (.seq VL (.seq _ (.seq _ (.seq VK _))))))))) from rfl,show C.a37.res=[.tmp 4,.tmp 5] from rfl];obtain⟨vs,rz⟩:=o.rz;have ln:=rz.len;have lnb:=ob.rz.len;by_cases c0:m.length=0
 ·have c0':(m.length:Int)=0:=by omega
  have c1':¬(24:Int)<m.length:=by omega
  have es:nF m b=12:=by unfold nF;rw[if_pos c0]
  repeat'(with_reducible first|simp(disch:=try exact ab) only[go_sem,seval,ln,c0',c1',Dk,yM,Tj]|(refine Gv.wp (x2 (jL (a:=12) (b:=0) aL nL)) fun _ _ _ _=>?_)|(apply ai.i<;>intro hc))
  exact⟨.inl ⟨by rw[es];decide,by rw[es]⟩,aS⟩
 have c0':¬(m.length:Int)=0:=by omega
 by_cases c1:24<m.length
 ·have c1':(24:Int)<m.length:=by omega
  have es:nF m b=5:=by unfold nF;rw[if_neg c0,if_pos c1]
  repeat'(with_reducible first|simp(disch:=try exact ab) only[go_sem,seval,ln,c0',c1',Dk,yM,QV]|(refine Gv.wp (x2 (jL (a:=0) (b:=5) aL nL)) fun _ _ _ _=>?_)|(apply ai.i<;>intro hc))
  exact⟨.inl ⟨by rw[es];decide,by rw[es]⟩,aS⟩
 have c1':¬(24:Int)<m.length:=by omega
 repeat'(with_reducible first|simp(disch:=try exact ab) only[go_sem,seval,ln,c0',c1',Dk,yM,QV]|(refine Gv.wp (x2 (jL (a:=0) (b:=0) aL nL)) fun _ _ _ _=>?_)|(apply ai.i<;>intro hc))
 refine OS (v:=v) (vb:=vb) (m:=m) (b:=b) (h:=h) aL aL aL aL o aS (by omega) (by omega) H8 (fun VC hp1 v8 k1 k6 k8 hz G A=>?_) (fun VC hp1 k4 k5 hz G=>?_)
 ·have e0 :nF m b=if b.length≠m.length then 2 else nq b:=by unfold nF;rw[if_neg c0,if_neg c1,if_neg (fun e=>e hz)]
  rcases A with⟨_,e⟩|⟨T,t,rfl,hn0,A⟩
  ·exact absurd e c0
  have f136:=x2 (Jj (ob.aO G) hbl.1 hbl.2);by_cases c2:b.length=m.length
  ·have kq:(b.length:Int)=m.length:=by omega
   rw[if_neg (fun e=>e c2)]at e0;by_cases c3:nq b=0
   ·rw [c3]at e0 f136
    have hv:∀i,i<m.length→kh b i=bU (vM m b i m.length)∧qd (vM m b i m.length)=true:=fun i hi=>by
     rw[FT];exact lM (oK c3 i (by omega))
    obtain⟨e,PH,heb⟩:=sD e0;repeat'(with_reducible first|simp(disch:=try exact ab) only[go_sem,seval,k1,k6,k8,lnb,kq,yM,QV]|(refine Gv.wp (f136) fun _ _ _ _=>?_)|(refine Gv.wp (x2 (jL (a:=0) (b:=0) aL nL)) fun _ _ _ _=>?_)|(apply ai.i<;>intro hc))
    refine Rm (n:=m.length) (vb:=vb) (b:=b) (T:=T) (M:=vM m b) (by simp(disch:=try exact ab) only[go_sem,seval,k1]) (by simp(disch:=try exact ab) only[go_sem,seval,k6]) (by simp(disch:=try exact ab) only[go_sem,seval,k8]) (G.trans aS) (A.aO aS) ob c2 (by omega) (by omega) hv fun tm2 hp2 t2 k6 k8 G2 F2=>?_
    repeat'(with_reducible first|simp(disch:=try exact ab) only[go_sem,seval,k6,k8]|(apply ai.i<;>intro hc))
    refine ae.mono (((Ys G2 F2 (by omega) (by omega) (by omega) (by omega) PH (by omega)).ge NS).gq Tf) fun v3 h3 ⟨G3,bb,hv3,hor⟩=>?_
    subst hv3;rcases hor with⟨E,t3,DA,rfl,F3⟩|⟨DA,rfl⟩
    ·repeat'(with_reducible first|simp(disch:=try exact ab) only[go_sem,seval,k6,k8]|(apply ai.i<;>intro hc))
     refine Ro (n:=m.length) (T:=T) (by simp(disch:=try exact ab) only[go_sem,seval,k6]) (by simp(disch:=try exact ab) only[go_sem,seval,k8]) aL F3 (by omega) (by omega) fun tm4 hp4 u eA G4 F4=>?_
     have hE:=DJ PH (eK _) (ac _) DA;have bE:∀k,k<m.length→Bd 3999 (E k m.length):=fun k hk=>((hE k hk).db (eQ _)).bd (by omega)
     by_cases all:∀i,i<m.length→qd (E i m.length)=true
     ·have f139:=Oe (g:=fun i=>E i m.length) F4 (by omega) bE (decide_eq_true all);repeat'(with_reducible first|simp(disch:=try exact ab) only[go_sem,seval,eA]|(refine Gv.wp (f139) fun _ _ _ _=>?_)|(apply ai.i<;>intro hc))
      refine Gp.wp (T7 (g:=fun i=>E i m.length) (F4.aO aS) (by omega) all) fun v5 h5 a5 b5 u5 ⟨q,hq,S5,_⟩=>?_
      subst hq;repeat'(with_reducible first|simp(disch:=try exact ab) only[go_sem,seval]|(apply ai.i<;>intro hc))
      exact⟨.inr ⟨e0,.inr ⟨E,DA,.inr ⟨all,q,rfl,S5⟩⟩⟩,G3.trans (G4.trans aS)⟩
     ·have f139:=Oe (g:=fun i=>E i m.length) F4 (by omega) bE (decide_eq_false all);repeat'(with_reducible first|simp(disch:=try exact ab) only[go_sem,seval,eA]|(refine Gv.wp (f139) fun _ _ _ _=>?_)|(apply ai.i<;>intro hc))
      exact⟨.inr ⟨e0,.inr ⟨E,DA,.inl ⟨all,rfl⟩⟩⟩,G3.trans (G4.trans aS)⟩
    ·repeat'(with_reducible first|simp(disch:=try exact ab) only[go_sem,seval,k6,k8]|(apply ai.i<;>intro hc))
     exact⟨.inr ⟨e0,.inl ⟨DA,rfl⟩⟩,G3⟩
   ·repeat'(with_reducible first|simp(disch:=try exact ab) only[go_sem,seval,k1,k6,k8,lnb,kq,yM,QV,c3]|(refine Gv.wp (f136) fun _ _ _ _=>?_)|(refine Gv.wp (x2 (jL (a:=0) (b:=nq b) aL nL)) fun _ _ _ _=>?_)|(apply ai.i<;>intro hc))
    exact⟨.inl ⟨by rw[e0];exact c3,by rw[e0]⟩,G.trans aS⟩
  ·have kq:¬(b.length:Int)=m.length:=by omega
   rw[if_pos c2]at e0;repeat'(with_reducible first|simp(disch:=try exact ab) only[go_sem,seval,k1,k6,k8,lnb,kq,Dk,f2e]|(refine Gv.wp (f136) fun _ _ _ _=>?_)|(refine Gv.wp (x2 (jL (a:=2) (b:=nq b) aL nL)) fun _ _ _ _=>?_)|(apply ai.i<;>intro hc))
   exact⟨.inl ⟨by rw[e0];decide,by rw[e0]⟩,G.trans aS⟩
 ·have e0:nF m b=sy (iO m) m.length 0:=by unfold nF;rw[if_neg c0,if_neg c1,if_pos hz]
  repeat'(with_reducible first|simp(disch:=try exact ab) only[go_sem,seval,k4,k5]|(apply ai.i<;>intro hc))
  exact⟨.inl ⟨by rw[e0];exact hz,by rw[e0]⟩,G⟩
end
end
end Go.Ae
namespace Go.Ae
open So Bg
noncomputable section
def fe (d:Nat→Nat):Nat→Nat
 |0=>0
 |k+1=>fe d k+d k
theorem ri {d e:Nat→Nat}:∀{n:Nat},(∀k,k<n→d k=e k)→fe d n=fe e n
 |0,_=>rfl
 |n+1,h=>by rw[fe,fe,ri fun k hk=>h k (by omega),h n (by omega)]
theorem nG {d:Nat→Nat}{c:Nat}:∀{n:Nat},(∀k,k<n→d k≤c)→fe d n≤n*c
 |0,_=>by simp[fe]
 | n+1,h=>by
  have:=nG (n:=n) fun k hk=>h k (by omega)
  have:=h n (by omega);rw[fe,Nat.succ_mul];omega
theorem qm {d:Nat→Nat}{k:Nat}:∀{n:Nat},k≤n→fe d k≤fe d n
  | 0, h => by obtain rfl:k=0:=by omega
               exact ac _
  | n +1,h=>by
    rcases cN h with e|e
    · rw[e];exact ac _
    · have:=qm (d:=d) (n:=n) (by omega:k≤n)
      rw[fe];omega
theorem sM {d:Nat→Nat}{k n:Nat}(h:k<n):d k≤fe d n:=by
 have h1:=qm (d:=d) (show k+1≤n from h);have h2:fe d (k+1)=fe d k+d k:=rfl;omega
def bs (T S:Nat)(W:Nat→Nat)(k:Nat):Nat:=T*W k/S
def rs (T S:Nat)(W:Nat→Nat)(k:Nat):Nat:=T*W k%S
theorem xj {T S:Nat}{W:Nat→Nat}:∀n,S*fe (bs T S W) n+fe (rs T S W) n=T*fe W n
 |0=>by simp[fe]
 | n+1=>by
  have h1:=xj (T:=T) (S:=S) (W:=W) n;have h2:S*bs T S W n+rs T S W n=T*W n:=cD _ _;rw[fe,fe,fe,au,au];omega
theorem As {T S n:Nat}{W:Nat→Nat}(hS:fe W n=S)(h0:0<S):fe (bs T S W) n≤T:=by
 have h1:=xj (T:=T) (S:=S) (W:=W) n;rw[hS,ay T S]at h1;exact Nat.le_of_mul_le_mul_left (show S*fe (bs T S W) n≤S*T by omega) h0
theorem sQ {T S n:Nat}{W:Nat→Nat}(hS:fe W n=S)(h0:0<S)(hn:0<n):T-fe (bs T S W) n<n:=by
 have h1:=xj (T:=T) (S:=S) (W:=W) n;have h2:=As (T:=T) hS h0
 have h3:fe (rs T S W) n≤n*(S-1):=nG fun k _=>by
  have:rs T S W k<S:=aZ _ h0;omega
 rw[hS,ay T S]at h1;have h4:S*(T-fe (bs T S W) n)≤n*(S-1):=by rw[Nat.mul_sub];omega
 have h5:n*(S-1)<S*n:=by
  rw[Nat.mul_sub,dG,ay S n];have:n≤n*S:=Nat.le_mul_of_pos_right _ h0;omega
 exact Nat.lt_of_mul_lt_mul_left (Nat.lt_of_le_of_lt h4 h5)
open Classical in
def ch (e:Nat→Nat)(m k:Nat):Nat:=if ∃i,i<m∧e i=k then 1 else 0
section
variable {h h' hp:Hp}{K:AV→Hp→Prop}{tm:T AV}{n t f s a b c d k m q l T S X:Nat}{W e e':Nat→Nat}{v:AV}{w:List Int}
theorem DR (k:Nat):ch e 0 k=0:=if_neg fun⟨i,h,_⟩=>by omega
theorem Je (h:e m=k):ch e (m+1) k=1:=if_pos ⟨m,by omega,h⟩
theorem N8 (h:e m≠k):ch e (m+1) k=ch e m k:=by
 have:(∃i,i<m+1∧e i=k)↔∃i,i<m∧e i=k:=by
  constructor
  ·rintro⟨i,h1,h2⟩;rcases cN (show i≤m by omega)with c|c
   ·rw[c]at h2;exact absurd h2 h
   ·exact⟨i,c,h2⟩
  ·rintro⟨i,h1,h2⟩;exact⟨i,by omega,h2⟩
 unfold ch;by_cases c:∃i,i<m∧e i=k
 ·rw[if_pos c,if_pos (this.2 c)]
 ·rw[if_neg c,if_neg fun h=>c (this.1 h)]
theorem Jd (h:∀i,i<m→e i≠k):ch e m k=0:=if_neg fun⟨i,h1,h2⟩=>h i h1 h2
theorem Ob {i:Nat}(h:i<m)(h':e i=k):ch e m k=1:=if_pos ⟨i,h,h'⟩
theorem Gd.inj {r:Nat→Nat}(g:Gd (oh r) e 0 n){i j:Nat}(hi:i<n)(hj:j<n)(he:e i=e j):i=j:=by
 have ir:∀x,¬oh r x x:=fun x h=>by unfold oh at h;omega
 rcases iN i j with c|c|c
 ·have:=g.1 i j (by omega) c hj;rw[he]at this;exact absurd this (ir _)
 ·exact c
 ·have:=g.1 j i (by omega) c hi;rw[he]at this;exact absurd this (ir _)
theorem Yc {B r:Nat→Nat}(hn:n≤1000)(hl:l≤n)(k10:val tm (.t 10)= .sl a 0 n 1)(k12:val tm (.t 12)= .sl d 0 n 1)(fp:val tm (.t 13)= .int .i64 l)
  (G:aK h hp) (ha:h.next≤a) (BS:d≠a) (A:Rw hp a n B) (D:Rw hp d n e) (g:Gd (oh r) e 0 n) (hB:∀k,k<n→B k≤2000000000):
  Wp E2 (C.a24.code.post 10) ⟨tm,hp⟩ (eT [.tmp 4,.tmp 5] fun v' h'=>v'= .gk [.sl a 0 n 1,.int .i64 0]∧aK h h'∧Rw h' a n fun k=>B k+ch e l k):=by
 unfold C.a24;dsimp only[ap.post];have sl1:=nI (h:=hp) (t:=d) (o:=0) (n:=n) (z:=1) (sz:=1) (kd:= .i64) (k:=(l:Int)) (by omega);rw[fm]at sl1;repeat'(with_reducible first|simp(disch:=try exact ab) only[go_sem,seval,k12,fp,sl1]|(apply ai.i<;>intro hc))
 refine Wp.bD (fun mm s=>∃(i:Nat),val s.tm (.t 10)= .sl a 0 n 1∧val s.tm (.t 91)= .sl d 0 l 1∧val s.tm (.t 92)= .int .i64 l∧val s.tm (.t 93)= .int .i64 i∧
  aK h s.hp∧Rw s.hp a n (fun k=>B k+ch e i k)∧Rw s.hp d n e∧i≤l∧l-i=mm) (n:=l) ?_ ?_
 ·exact⟨0,by simp(disch:=try exact ab) only[go_sem,seval,k10],aL,aL,by(simp(disch:=try exact ab) only[go_sem,seval])<;>rfl,G,A.congr fun k _=>by rw[DR];rfl,D,aE _,rfl⟩
 ·clear k10 k12 fp G A D sl1;rintro mm ⟨tm,hp⟩ ⟨i,k10,ND,NB,Wt,G,A,D,QQ,rfl⟩;simp only at k10 ND NB Wt G A D;by_cases c:i<l
  ·have c':(i:Int)<l:=by omega
   have ld:=D.ld (i:=i) (by omega);have UX:=g.2.1 i (by omega) (by omega);have z:ch e i (e i)=0:=Jd fun j h1 h2=>by have:=g.inj (by omega) (by omega) h2;omega
   have FG:∀k,k<n→B k+ch e (i+1) k=iP (fun k=>B k+ch e i k) (e i) (B (e i)+1) k:=fun k _=>by
    unfold iP;by_cases c:k=e i
    ·rw[if_pos c,Je c.symm,c]
    ·rw[if_neg c,N8 fun h=>c h.symm]
   have hb:=hB (e i) UX.2;obtain⟨x,NI⟩:∃x,e i=x:=⟨_,rfl⟩
   rw[NI]at ld UX z FG hb;have la:=A.ld (i:=x) UX.2;simp only[z,aT]at la;obtain⟨h1,s1,C1,A1,n1⟩:=A.st (i:=x) UX.2 (B x+1);have eb:(B x:Int)+1=((B x+1:Nat):Int):=by omega
   have A2:=A1.congr FG;have D2:Rw h1 d n e:=bv.mP D C1 BS;generalize B x=y at *
   repeat'(with_reducible first|simp(disch:=try exact ab) only[go_sem,seval,k10,ND,NB,Wt,c',ld,la,eb,s1]|(apply ai.i<;>intro hc))
   exact⟨_,by omega,i+1,rfl,C1.aO G ha,A2,D2,c,rfl⟩
  ·have c':¬(i:Int)<l:=by omega
   obtain rfl:i=l:=by omega
   repeat'(with_reducible first|simp(disch:=try exact ab) only[go_sem,seval,k10,ND,NB,Wt,c']|(apply ai.i<;>intro hc))
   exact⟨G,A⟩
end
end
end Go.Ae
namespace Go.Ae
open So Bg
noncomputable section
section
variable {h h' hp:Hp}{K:AV→Hp→Prop}{tm:T AV}{n t f s a b c d k m q l T S X:Nat}{W e e':Nat→Nat}{v:AV}{w:List Int}
theorem eT.Sh {rs:List qU}{K K':AV→Hp→Prop}{ex:Ex}{s:St}(hk:∀v h,K v h→K' v h)(q:eT rs K ex s):eT rs K' ex s:=by
 cases ex with
 |exit i=>exact q
 | ret=>
  rw[eT.ret]at q⊢;revert q;generalize eD s rs=r
  cases r with
  |none=>exact id
  |some v=>exact hk v _
 | fW=>
  rw[eT.fW]at q⊢;revert q;generalize eD s rs=r
  cases r with
  |none=>exact id
  |some v=>exact hk v _
def ShP (h:Hp)(n:Nat)(B r:Nat→Nat)(l:Nat)(v:AV)(h':Hp):Prop:=∃a e,v= .gk [.sl a 0 n 1,.int .i64 0]∧Rw h' a n (fun k=>B k+ch e l k)∧Gd (oh r) e 0 n
theorem Yd {B r:Nat→Nat}(hn:n≤1000)(hl:l≤n)(k10:val tm (.t 10)= .sl a 0 n 1)(k11:val tm (.t 11)= .ptr c 0)(k12:val tm (.t 12)= .sl d 0 n 1)(fp:val tm (.t 13)= .int .i64 l)
  (G:aK h hp) (ha:h.next≤a) (hd:h.next≤d) (BS:d≠a) (U4:c≠d) (sD:b≠d) (A:Rw hp a n B) (R:Rw hp b n r) (Cc:bv hp c [.sl b 0 n 1]) (D:Rw hp d n fun k=>k) (hB:∀k,k<n→B k≤2000000000) (hr:∀k,k<n→r k≤4000000000000000000):
  Wp E2 (C.a24.code.post 9) ⟨tm,hp⟩ (eT [.tmp 4,.tmp 5] fun v' h'=>ShP h n B r l v' h'∧aK h h'):=by
 have tail:=fun tm hp e k10 k12 fp G A D g=>(Yc (tm:=tm) (hp:=hp) (h:=h) (e:=e) (a:=a) (d:=d) (B:=B) (r:=r) hn hl k10 k12 fp G ha BS A D g hB)
 rw[show C.a24.code.post 9= .seq _ (C.a24.code.post 10) from rfl];generalize ap.post 10 C.a24.code=rest at tail⊢
 have Q:=Qi (n:=n) (t:=d) (B:=c) (R:=b) (r:=r) (by omega) hr U4 sD;repeat'(with_reducible first|simp(disch:=try exact ab) only[go_sem,seval,k11,k12]|(apply ai.i<;>intro hc))
 refine ae.mono (Yu Q (by omega) D ⟨Cc,R⟩ fun k _=>rfl) fun v1 h2 ⟨C1,P1,e2,D2,g⟩=>?_
 repeat'(with_reducible first|simp(disch:=try exact ab) only[go_sem,seval]|(apply ai.i<;>intro hc))
 exact(tail _ _ e2 (by simp(disch:=try exact ab) only[go_sem,seval,k10]) (by simp(disch:=try exact ab) only[go_sem,seval,k12]) (by simp(disch:=try exact ab) only[go_sem,seval,fp]) (C1.aO G hd) (bv.mP A C1 BS.symm) D2 g).mono fun ex s q=>eT.Sh (fun v h3 ⟨q1,q2,q3⟩=>⟨⟨a,e2,q1,q3,g⟩,q2⟩) q
theorem Ye (hS:iC 1 h v n (w.map (AV.int .i64)))(hwn:w.length=n)(hn:n≤1000)(hn0:0<n)(hw:∀k,k<n→w.getD k 0=(W k:Int)∧W k≤999999999)(hT:T≤999999999)(hW:fe W n=S)(hS0:0<S)
  (k0:val tm (.t 0)= .int .i64 T) (k1:val tm (.t 1)=v) (k7:val tm (.t 7)= .int .i64 S) (k10:val tm (.t 10)= .sl a 0 n 1) (k11:val tm (.t 11)= .ptr c 0) (k12:val tm (.t 12)= .sl d 0 n 1) (fp:val tm (.t 13)= .int .i64 T)
  (G:aK h hp) (ha:h.next≤a) (hb:h.next≤b) (hd:h.next≤d) (BS:d≠a) (U4:c≠d) (sD:b≠d) (hab:a≠b) (hca:c≠a) (hcb:c≠b) (A:Rw hp a n fun _=>0) (R:Rw hp b n fun _=>0) (Cc:bv hp c [.sl b 0 n 1]) (D:Rw hp d n fun _=>0):
  Wp E2 (C.a24.code.post 8) ⟨tm,hp⟩ (eT [.tmp 4,.tmp 5] fun v' h'=>ShP h n (bs T S W) (rs T S W) (T-fe (bs T S W) n) v' h'∧aK h h'):=by
 subst hwn;have hbT:∀k,k<w.length→bs T S W k≤T:=fun k hk=>az (sM hk) (As hW hS0)
 have hrS:∀k,k<w.length→rs T S W k≤4000000000000000000:=fun k hk=>by
  have h1:T*W k≤999999999*999999999:=eH hT (hw k hk).2;have h2:rs T S W k≤T*W k:=Nat.mod_le _ _;omega
 have tail:=fun tm hp k10 k11 k12 fp G A R Cc D=>(Yd (tm:=tm) (hp:=hp) (h:=h) (n:=w.length) (a:=a) (b:=b) (c:=c) (d:=d) (B:=bs T S W) (r:=rs T S W) (l:=T-fe (bs T S W) w.length) hn (yr (sQ hW hS0 hn0)) k10 k11 k12 fp G ha hd BS U4 sD A R Cc D (fun k hk=>by have:=hbT k hk;omega) hrS)
 rw[show C.a24.code.post 8= .seq _ (C.a24.code.post 9) from rfl];generalize ap.post 9 C.a24.code=rest at tail⊢
 have ln:=hS.rz.len;have ad:=hS.rz.iZ;repeat'(with_reducible first|simp(disch:=try exact ab) only[go_sem,seval,k1,ln]|(apply ai.i<;>intro hc))
 refine Wp.bD (fun mm s=>∃(i:Nat),val s.tm (.t 0)= .int .i64 T∧val s.tm (.t 7)= .int .i64 S∧val s.tm (.t 10)= .sl a 0 w.length 1∧val s.tm (.t 11)= .ptr c 0∧val s.tm (.t 12)= .sl d 0 w.length 1∧val s.tm (.t 52)=v∧val s.tm (.t 53)= .int .i64 w.length∧val s.tm (.t 54)= .int .i64 i∧val s.tm (.t 13)= .int .i64 ((T:Int)-fe (bs T S W) i)∧
  aK h s.hp∧Rw s.hp a w.length (fun k=>if k<i then bs T S W k else 0)∧Rw s.hp b w.length (fun k=>if k<i then rs T S W k else 0)∧bv s.hp c [.sl b 0 w.length 1]∧Rw s.hp d w.length (fun k=>if k<i then k else 0)∧i≤w.length∧w.length-i=mm) (n:=w.length) ?_ ?_
 ·refine⟨0,by simp(disch:=try exact ab) only[go_sem,seval,k0],by simp(disch:=try exact ab) only[go_sem,seval,k7],by simp(disch:=try exact ab) only[go_sem,seval,k10],by simp(disch:=try exact ab) only[go_sem,seval,k11],by simp(disch:=try exact ab) only[go_sem,seval,k12],by simp(disch:=try exact ab) only[go_sem,seval,k1],aL,by(simp(disch:=try exact ab) only[go_sem,seval])<;>rfl,?_,G,A.congr fun k _=>by rw[if_neg (by omega)],R.congr fun k _=>by rw[if_neg (by omega)],Cc,D.congr fun k _=>by rw[if_neg (by omega)],aE _,rfl⟩
  simp(disch:=try exact ab) only[go_sem,seval,fp];exact congrArg (AV.int .i64) (by unfold fe;omega)
 ·clear k0 k1 k7 k10 k11 k12 fp G A R Cc D;rintro mm ⟨tm,hp⟩ ⟨i,k0,k7,k10,k11,k12,k52,Wv,Wu,fp,G,A,R,Cc,D,QQ,rfl⟩;simp only at k0 k7 k10 k11 k12 k52 Wv Wu fp G A R Cc D;by_cases c0:i<w.length
  ·have c':(i:Int)<w.length:=by omega
   have hSg:=hS.aO G;have adg:=hSg.rz.iZ;have ld:=iC.Nz hSg c0;have od:=iC.KF hSg (by omega);obtain⟨SD,WS⟩:=hw i c0;rw[SD]at ld;obtain⟨st,QT,hsc,QN⟩:=Cc;have odc:∀c0,hp.df≤c0→jS (hp.get c) c0=true:=fun c0 hc=>by rw[QT];exact jS.row (az hsc hc)
   have oda:=A.old;obtain⟨h1,s1,C1,A1,n1⟩:=A.st c0 (bs T S W i);have odc1:jS (h1.get c) hp.df=true:=by rw[C1.get c QN hca];exact odc _ (ac _)
   have R0:=bv.mP R C1 hab.symm;have D0:=bv.mP D C1 BS;have Cc:bv hp c [.sl b 0 w.length 1]:=⟨st,QT,hsc,QN⟩
   obtain⟨h2,s2,C2,R1,n2⟩:=Rw.st R0 c0 (rs T S W i);have D1:=bv.mP D0 C2 sD.symm;have A2:=bv.mP A1 C2 hab;obtain⟨h3,s3,C3,D2,n3⟩:=Rw.st D1 c0 i;have A3:Rw h3 a _ _:=bv.mP A2 C3 BS.symm;have R3:Rw h3 b _ _:=bv.mP R1 C3 sD;have Cc3:=((Cc.mP C1 hca).mP C2 hcb).mP C3 U4;have la:=A3.ld c0;have e1:iP (fun k=>if k<i then bs T S W k else 0) i (bs T S W i) i=bs T S W i:=if_pos rfl;rw[e1]at la
   have up:∀(f:Nat→Nat) k,k<w.length→(if k<i+1 then f k else 0)=iP (fun k=>if k<i then f k else 0) i (f i) k:=fun f k _=>by
    unfold iP;by_cases q:k=i
    ·rw[if_pos q,if_pos (by omega),q]
    ·rw[if_neg q];show _=(if k<i then f k else 0)
     by_cases q':k<i
     ·rw[if_pos q',if_pos (by omega)]
     ·rw[if_neg q',if_neg (by omega)]
   have A4:=A3.congr (up _);have R4:=R3.congr (up _);have D4:=Rw.congr (e:=fun k=>if k<i+1 then k else 0) D2 (up fun k=>k);have G3:aK h h3:=C3.aO (C2.aO (C1.aO G ha) hb) hd;have NL:fe (bs T S W) (i+1)=fe (bs T S W) i+bs T S W i:=rfl;have hsl:fe (bs T S W) i+bs T S W i≤T:=by rw[←NL];exact az (qm c0) (As hW hS0)
   have hSb:S≤999999999000:=by rw[←hW];exact az (nG fun k hk=>(hw k hk).2) (by omega)
   have hp1:T*W i≤999999999*999999999:=eH hT WS;have em:(T:Int)*(W i:Int)=((T*W i:Nat):Int):=(bT _ _).symm;have eq:((T*W i:Nat):Int)/S=((bs T S W i:Nat):Int):=rfl;have er:((T*W i:Nat):Int)%S=((rs T S W i:Nat):Int):=rfl;have K3:bs T S W i≤T*W i:=Nat.div_le_self _ _;clear A R D A1 A2 A3 R0 R1 R3 D0 D1 D2 Cc up;generalize bs T S W i=bq at *
   generalize rs T S W i=rq at *
   generalize T*W i=p at *
   generalize fe (bs T S W) i=sb at *
   have wq:IntKind.wrap .i64 (bq:Int)=bq:=wrap_i64 (by omega);have S0':0<(S:Int):=by omega
   repeat'(with_reducible first|simp(disch:=try exact ab) only[go_sem,seval,k0,k7,k10,k11,k12,k52,Wv,Wu,fp,c',adg,ld,od,odc,odc1,oda,QT,em,eq,er,wq,s1,s2,s3,la,mQ,ot]|(apply ai.i<;>intro hc))
   refine⟨_,by omega,i+1,rfl,?_,G3,A4,R4,Cc3,D4,c0,rfl⟩;exact congrArg (AV.int .i64) (by rw[NL];omega)
  ·have c':¬(i:Int)<w.length:=by omega
   obtain rfl:i=w.length:=by omega
   have hle:=As (T:=T) hW hS0;repeat'(with_reducible first|simp(disch:=try exact ab) only[go_sem,seval,Wv,Wu,c']|(apply ai.i<;>intro hc))
   refine tail _ _ (by simp(disch:=try exact ab) only[go_sem,seval,k10]) (by simp(disch:=try exact ab) only[go_sem,seval,k11]) (by simp(disch:=try exact ab) only[go_sem,seval,k12]) ?_ G (A.congr fun k hk=>by rw[if_pos hk]) (R.congr fun k hk=>by rw[if_pos hk]) Cc (D.congr fun k hk=>by rw[if_pos hk]);simp(disch:=try exact ab) only[go_sem,seval,fp];exact congrArg (AV.int .i64) (by omega)
end
end
end Go.Ae
namespace Go.Ae
open So Bg
noncomputable section
section
variable {h h' hp:Hp}{K:AV→Hp→Prop}{tm:T AV}{n t f s a b c d k m q l:Nat}{e e':Nat→Nat}{v:AV}{w:List Int}{T:Int}
def wN (w:List Int)(k:Nat):Nat:=(w.getD k 0).toNat
theorem Gk (c:lG T):OI T=3:=if_pos c
theorem J8 (c:¬lG T):OI T=0:=if_neg c
theorem ua {w:List Int}{k:Nat}(hk:k<w.length):w.getD k 0∈w:=by
 rw[aR,aC hk];exact CF hk
theorem Ng (hz:nB w=0):(∀k,k<w.length→w.getD k 0=(wN w k:Int)∧wN w k≤999999999)∧0<fe (wN w) w.length:=by
 obtain⟨h1,h2,h3,x,hx,hx0⟩:=qX hz;refine⟨fun k hk=>?_,?_⟩
 ·have:=h3 _ (ua hk);unfold wN;omega
 ·obtain⟨k,hk,he⟩:=List.getElem_of_mem hx;have hg:w.getD k 0=x:=by rw[aR,aC hk];exact he
  have h4:=sM (d:=wN w) hk;have h5:=h3 x hx;have:0<wN w k:=by unfold wN;rw[hg];omega
  omega
theorem GX {n:Nat}:aw n (AV.int .i64 0)=(Wn n fun _=>0).map (wd .i64):=by
 unfold Wn;rw[List.map_const',List.length_range,List.map_replicate];rfl
theorem c24 (hS:iC 1 h v w.length (w.map (AV.int .i64)))(ht:OI T=0)(hw:nB w=0):
  Gp E2 24 [.int .i64 T,v] h (ShP h w.length (bs T.toNat (fe (wN w) w.length) (wN w)) (rs T.toNat (fe (wN w) w.length) (wN w)) (T.toNat-fe (bs T.toNat (fe (wN w) w.length) (wN w)) w.length)):=by
 refine Gp.of (ae.fn (fn:=C.a24) rfl rfl rfl ?_);obtain⟨n0,n1,n2,_⟩:=qX hw;obtain⟨w1,w2⟩:=Ng hw;have cx:¬lG T:=fun c=>by rw[Gk c]at ht;omega
 unfold lG at cx;obtain⟨M,rfl⟩:∃M:Nat,T=M:=⟨T.toNat,by omega⟩
 rw[fm];have tail:=fun tm hp a b c d=>Ye (tm:=tm) (hp:=hp) (h:=h) (a:=a) (b:=b) (c:=c) (d:=d) (T:=M) (W:=wN w) hS rfl (by omega) n0 w1 (by omega) rfl w2
 refine Wp.cut 8 rfl ?_;generalize ap.post 8 C.a24.code=rest at tail⊢
 unfold C.a24;dsimp only[ap.pre];have c1:¬(M:Int)<0:=by omega
 have c2:¬(999999999:Int)<M:=by omega
 have f0:jZ 0 0=0:=rfl;have ln:=hS.rz.len;repeat'(with_reducible first|simp(disch:=try exact ab) only[go_sem,seval,Jk,c1,c2,f0,hw,ln]|(refine Gv.wp (Yv hS (by omega)) fun _ _ _ _=>?_)|(refine Gv.wp (jL (a:=0) (b:=0) aL nL) fun _ _ _ _=>?_)|(apply ai.i<;>intro hc))
 refine Wp.bD (fun mm s=>∃(i:Nat),val s.tm (.t 0)= .int .i64 M∧val s.tm (.t 1)=v∧val s.tm (.t 32)=v∧val s.tm (.t 33)= .int .i64 w.length∧val s.tm (.t 34)= .int .i64 i∧val s.tm (.t 7)= .int .i64 (fe (wN w) i)∧
  aK h s.hp∧i≤w.length∧w.length-i=mm) (n:=w.length) ?_ ?_
 ·exact⟨0,aL,aL,aL,aL,by(simp(disch:=try exact ab) only[go_sem,seval])<;>rfl,by(simp(disch:=try exact ab) only[go_sem,seval])<;>rfl,by(dsimp only;exact aS),aE _,rfl⟩
 ·rintro mm ⟨tm,hq⟩ ⟨i,k0,k1,HR,Wx,Ww,k7,G,QQ,rfl⟩;simp only at k0 k1 HR Wx Ww k7 G;have hSg:=hS.aO G;by_cases c0:i<w.length
  ·have c':(i:Int)<w.length:=by omega
   have adg:=hSg.rz.iZ;have ld:=iC.Nz hSg c0;obtain⟨SD,WS⟩:=w1 i c0;rw[SD]at ld;have hb:fe (wN w) i≤i*999999999:=nG fun k hk=>(w1 k (by omega)).2
   have es:fe (wN w) (i+1)=fe (wN w) i+wN w i:=rfl
   have NL:fe (wN w) i≤999999999000:=by
    have:=aH 999999999 (show i≤1000 by omega);omega
   generalize wN w i=x at *
   generalize fe (wN w) i=y at *
   repeat'(with_reducible first|simp(disch:=try exact ab) only[go_sem,seval,k0,k1,HR,Wx,Ww,k7,c',adg,ld]|(apply ai.i<;>intro hc))
   refine⟨_,by omega,i+1,rfl,?_,G,c0,rfl⟩;exact congrArg (AV.int .i64) (by rw[es];omega)
  ·have c':¬(i:Int)<w.length:=by omega
   obtain rfl:i=w.length:=by omega
   have lng:=hSg.rz.len;have mk:=fun{h:Hp} {K:AV→Hp→Prop}=>lI.EI (h:=h) (K:=K) (b:=8) (z:= .int .i64 0) (m:=(w.length:Int)) w.length rfl rfl (by omega)
   repeat'(with_reducible first|simp(disch:=try exact ab) only[go_sem,seval,k0,k1,HR,Wx,Ww,k7,c',lng,mk]|(apply ai.i<;>intro hc))
   have hz:=GX (n:=w.length);rw[hz];have p1:∀{h:Hp} {f:Nat→di} {t:Nat} {cs:List AV},bv h t cs→bv (h.push f) t cs:=fun a=>a.aO (aK.refl _).push
   have gn:=G.next;refine tail _ _ hq.next (hq.next+1) (hq.next+1+1) (hq.next+1+1+1) (by simp(disch:=try exact ab) only[go_sem,seval,k0]) (by simp(disch:=try exact ab) only[go_sem,seval,k1]) (by simp(disch:=try exact ab) only[go_sem,seval,k7]) aL aL aL aL ?_ gn (by omega) (by omega) (by omega) (by omega) (by omega) (by omega) (by omega) (by omega) ?_ ?_ ?_ ?_
   ·exact((((G.push).push).push).put (by show h.next≤hq.next+1+1;omega)).push
   ·exact p1 (bv.other (p1 (p1 bv.push)) (by omega))
   ·exact p1 (bv.other (p1 bv.push) (by show hq.next+1≠hq.next+1+1;omega))
   ·exact p1 (bv.put (by show hq.next+1+1<hq.next+1+1+1;omega))
   ·exact bv.push
end
end
end Go.Ae
namespace Go.Ae.Hd
open ij bC C
def nc:T cP:= .nil
section
open Go.Proofs
theorem all:T.Forall bh nc (fun n=>n):=trivial
theorem zA (n:Nat)(a:cP)(h:nc.get n=some a):DQ Tryz.prog n=some a:=T.gS nc (fun n=>n) all n a h
end
end Go.Ae.Hd
namespace Go.Ae
open So Bg N Go.Proofs
noncomputable section
def AR (s:Nat):Nat→Nat
 |0=>s
 |k+1=>48271*AR s k%2147483647
theorem IR {s:Nat}(hs:s≤2147483646):∀k,AR s k≤2147483646
 |0=>hs
 | k+1=>by
  have:AR s (k+1)<2147483647:=aZ _ (by decide);omega
def yn (s n k:Nat):Nat:=k+AR s (k+1)%(n-k)
def rI (s n:Nat):Nat→Nat→Nat
 |0=>fun k=>k
 |k+1=>iP (iP (rI s n k) k (rI s n k (yn s n k))) (yn s n k) (rI s n k k)
theorem B5 {s n k:Nat}(h:k<n):yn s n k<n:=by
 have:AR s (k+1)%(n-k)<n-k:=aZ _ (by omega);unfold yn;omega
theorem IS {s n:Nat}:∀k,k≤n→∀i,i<n→rI s n k i<n
 |0,_,i,hi=>hi
 | k +1,hk,i,hi=>by
  have ih:=IS (s:=s) (n:=n) k (by omega);show iP (iP (rI s n k) k (rI s n k (yn s n k))) (yn s n k) (rI s n k k) i<n
  unfold iP;split
  ·exact ih _ (by omega)
  ·split
   ·exact ih _ (B5 (by omega))
   ·exact ih _ hi
def Rq (h:Hp)(v:AV)(n:Nat)(d:Nat→Nat):Prop:=(v= .av∧n=0)∨∃a,v= .sl a 0 n 1∧Rw h a n d
section
variable {h h' hp:Hp}{K:AV→Hp→Prop}{tm:T AV}{n t f s a b c d k m q l:Nat}{e e':Nat→Nat}{v va vb:AV}{w la lb:List Nat}
theorem c29 (h1:1≤s)(h2:s≤2147483646)(hn:n≤256):Gp E2 29 [.int .i64 s,.int .i64 n] h fun v h'=>∃a,v= .gk [.sl a 0 n 1,.int .i64 0]∧Rw h' a n (rI s n (n-1)):=by
 refine Gp.of (ae.fn (fn:=C.Vi) rfl rfl rfl ?_);unfold C.Vi;have c1:¬(s:Int)<1:=by omega
 have c2:¬(2147483646:Int)<s:=by omega
 have c3:¬(n:Int)<0:=by omega
 have c4:¬(256:Int)<n:=by omega
 have mk:=fun{h:Hp} {K:AV→Hp→Prop}=>lI.EI (h:=h) (K:=K) (b:=8) (z:= .int .i64 0) (m:=(n:Int)) n rfl rfl (by omega)
 repeat'(with_reducible first|simp(disch:=try exact ab) only[go_sem,seval,c1,c2,c3,c4,mk]|(apply ai.i<;>intro hc))
 rw[GX]
 refine Wp.bD (fun mm s'=>∃(i:Nat),val s'.tm (.t 0)= .int .i64 s∧val s'.tm (.t 1)= .int .i64 n∧val s'.tm (.t 6)= .sl h.next 0 n 1∧val s'.tm (.t 28)= .int .i64 n∧val s'.tm (.t 29)= .int .i64 i∧
  aK h s'.hp∧Rw s'.hp h.next n (fun k=>if k<i then k else 0)∧i≤n∧n-i=mm) (n:=n) ?_ ?_
 ·exact⟨0,aL,aL,aL,aL,by(simp(disch:=try exact ab) only[go_sem,seval])<;>rfl,(aK.refl _).push,Rw.congr (bv.push) fun k _=>by rw[if_neg (by omega)],aE _,rfl⟩
 ·rintro mm ⟨tm,hp⟩ ⟨i,k0,k1,k6,NF,NE,G,A,QQ,rfl⟩;simp only at k0 k1 k6 NF NE G A;by_cases c0:i<n
  ·have c':(i:Int)<n:=by omega
   obtain⟨h1,s1,C1,A1,n1⟩:=A.st c0 i
   have A2:=Rw.congr (e:=fun k=>if k<i+1 then k else 0) A1 fun k _=>by
    unfold iP;by_cases q:k=i
    ·rw[if_pos q,if_pos (by omega),q]
    ·rw[if_neg q];show _=(if k<i then k else 0)
     by_cases q':k<i
     ·rw[if_pos q',if_pos (by omega)]
     ·rw[if_neg q',if_neg (by omega)]
   have G1:=C1.aO G (ac _);repeat'(with_reducible first|simp(disch:=try exact ab) only[go_sem,seval,k0,k1,k6,NF,NE,c',s1]|(apply ai.i<;>intro hc))
   exact⟨_,by omega,i+1,rfl,G1,A2,c0,rfl⟩
  ·have c':¬(i:Int)<n:=by omega
   obtain rfl:i=n:=by omega
   repeat'(with_reducible first|simp(disch:=try exact ab) only[go_sem,seval,k0,k1,k6,NF,NE,c']|(apply ai.i<;>intro hc))
   refine Wp.bD (fun mm s'=>∃(j:Nat),val s'.tm (.t 1)= .int .i64 i∧val s'.tm (.t 6)= .sl h.next 0 i 1∧val s'.tm (.t 8)= .int .i64 (AR s j)∧val s'.tm (.t 9)= .int .i64 j∧
    aK h s'.hp∧Rw s'.hp h.next i (rI s i j)∧j≤i-1∧i-1-j=mm) (n:=i-1) ?_ ?_
   ·exact⟨0,by simp(disch:=try exact ab) only[go_sem,seval,k1],by simp(disch:=try exact ab) only[go_sem,seval,k6],by(simp(disch:=try exact ab) only[go_sem,seval,k0])<;>rfl,by(simp(disch:=try exact ab) only[go_sem,seval])<;>rfl,G,A.congr fun k hk=>by rw[if_pos hk];rfl,aE _,rfl⟩
   ·clear k0 k1 k6 NF NE G A c';rintro mm ⟨tm,hp⟩ ⟨j,k1,k6,k8,k9,G,A,hj,rfl⟩;simp only at k1 k6 k8 k9 G A;by_cases c0:j<i-1
    ·have c':(j:Int)<(i:Int)-1:=by omega
     have hs:=IR h2 j;have eS:AR s (j+1)=48271*AR s j%2147483647:=rfl;have eJ:yn s i j=j+AR s (j+1)%(i-j):=rfl;have hJ:=B5 (s:=s) (n:=i) (k:=j) (by omega);have hs1:=IR h2 (j+1);have l1:=A.ld (i:=yn s i j) hJ;have l2:=A.ld (i:=j) (by omega);have od:=A.old;obtain⟨h1,s1,C1,A1,n1⟩:=A.st (i:=j) (by omega) (rI s i j (yn s i j));obtain⟨h2,s2,C2,A2,n2⟩:=A1.st (i:=yn s i j) hJ (rI s i j j)
     have A3:Rw h2 h.next i (rI s i (j+1)):=A2;have em:(48271:Int)*(AR s j:Int)%2147483647=((AR s (j+1):Nat):Int):=by rw[eS];omega
     have en:(i:Int)-j=((i-j:Nat):Int):=by omega
     have er:(AR s (j+1):Int)%((i-j:Nat):Int)=((AR s (j+1)%(i-j):Nat):Int):=rfl;have ej:(j:Int)+((AR s (j+1)%(i-j):Nat):Int)=((yn s i j:Nat):Int):=by rw[eJ];omega
     have hr:AR s (j+1)%(i-j)<i-j:=aZ _ (by omega);have hn0:0<((i-j:Nat):Int):=by omega
     have G1:=C2.aO (C1.aO G (ac _)) (ac _);clear A1 A2 eS eJ;generalize rI s i j (yn s i j)=x1 at *
     generalize rI s i j j=x2 at *
     generalize AR s (j+1)%(i-j)=r at *
     generalize yn s i j=y at *
     repeat'(with_reducible first|simp(disch:=try exact ab) only[go_sem,seval,k1,k6,k8,k9,c',em,en,er,ej,l1,l2,od,s1,s2,ot]|(apply ai.i<;>intro hc))
     exact⟨_,by omega,j+1,rfl,rfl,G1,A3,by omega,rfl⟩
    ·have c':¬(j:Int)<(i:Int)-1:=by omega
     obtain rfl:j=i-1:=by omega
     repeat'(with_reducible first|simp(disch:=try exact ab) only[go_sem,seval,k1,k6,k8,k9,c']|(apply ai.i<;>intro hc))
     exact⟨⟨_,rfl,A⟩,G⟩
end
end
end Go.Ae
namespace Go.Ae
open So
section
variable {T S n l i j k m:Nat}{W d e r c:Nat→Nat}
theorem xk {c d:Nat→Nat}:∀{n:Nat},fe (fun k=>c k+d k) n=fe c n+fe d n
 |0=>rfl
 |n+1=>by rw[fe,fe,fe,xk];omega
theorem tA {c:Nat}{d:Nat→Nat}:∀{n:Nat},fe (fun k=>c*d k) n=c*fe d n
 |0=>by simp[fe]
 |n+1=>by rw[fe,fe,tA,au]
theorem CT {c d:Nat→Nat}:∀{n:Nat},(∀k,k<n→c k≤d k)→fe c n≤fe d n
 |0,_=>ac _
 | n+1,h=>by
  have:=CT (n:=n) fun k hk=>h k (by omega)
  have:=h n (by omega);rw[fe,fe];omega
theorem CU {a:Nat}:∀{n:Nat},fe (fun k=>if a=k then 1 else 0) n=if a<n then 1 else 0
 |0=>rfl
 | n+1=>by
  rw[fe,CU];rcases iN a n with h|h|h
  ·rw[if_pos h,if_neg (by omega),if_pos (by omega)]
  ·rw[if_neg (by omega),if_pos h,if_pos (by omega)]
  ·rw[if_neg (by omega),if_neg (by omega),if_neg (by omega)]
theorem Oa:ch e m k≤1:=by unfold ch;split<;>omega
theorem N6 (h:ch e m k≠0):∃i,i<m∧e i=k:=by
 unfold ch at h;by_cases c:∃i,i<m∧e i=k
 ·exact c
 ·rw[if_neg c]at h;exact absurd rfl h
theorem Cg (g:Gd (oh r) e 0 n):∀{m:Nat},m≤n→fe (ch e m) n=m
 | 0,_=>by
  rw[ri (e:=fun _=>0*0) fun k _=>DR k,tA,CA]
 | m + 1,hm=>by
  have e1:∀k,k<n→ch e (m+1) k=(fun k=>ch e m k+(if e m=k then 1 else 0)) k:=fun k hk=>by
   by_cases c:e m=k
   ·have:ch e m k=0:=Jd fun i hi he=>by
     have:=g.inj (show i<n by omega) (show m<n by omega) (he.trans c.symm);omega
    simp only[Je c,this,if_pos c]
   ·simp only[N8 c,if_neg c,aT]
  rw[ri e1,xk,Cg g (by omega),CU,if_pos (g.2.1 m (aE _) (by omega)).2]
def shr (T S:Nat)(W:Nat→Nat)(e:Nat→Nat)(n k:Nat):Nat:=bs T S W k+ch e (T-fe (bs T S W) n) k
theorem CZ (hS:fe W n=S)(h0:0<S)(hn:0<n)(g:Gd (oh (rs T S W)) e 0 n):fe (shr T S W e n) n=T:=by
 have h1:=As (T:=T) hS h0;have h2:=sQ (T:=T) hS h0 hn;have:fe (shr T S W e n) n=fe (bs T S W) n+fe (ch e (T-fe (bs T S W) n)) n:=xk;rw[this,Cg g (by omega)];omega
theorem OP (hS:fe W n=S)(h0:0<S)(hn:0<n)(g:Gd (oh (rs T S W)) e 0 n)(hk:k<n):shr T S W e n k≤T:=by
 have:=sM (d:=shr T S W e n) hk;rwa[CZ hS h0 hn g]at this
theorem B6:S*bs T S W k+rs T S W k=T*W k:=cD _ _
theorem GU (hS:fe W n=S)(h0:0<S)(hn:0<n)(g:Gd (oh (rs T S W)) e 0 n)(hi:i<T-fe (bs T S W) n):0<rs T S W (e i):=by
 have h2:=sQ (T:=T) hS h0 hn;have PK:i<n:=by omega
 rcases Nat.eq_zero_or_pos (rs T S W (e i))with hz|hz
 ·exfalso
  have hle:∀k,k<n→rs T S W k≤(fun k=>(S-1)*ch e i k) k:=fun k hk=>by
   have hb:rs T S W k<S:=aZ _ h0;obtain⟨j,_,hj,rfl⟩:=g.2.2 k (aE _) hk;rcases aQ j i with c|c
   ·simp only[Ob c rfl,dG];omega
   ·have:rs T S W (e j)=0:=by
     rcases cN c with c|c
     ·rw[←c];exact hz
     ·have:=g.1 i j (aE _) c hj;unfold oh at this;omega
    rw[this];exact aE _
  have h3:=CT hle;rw[tA,Cg g (by omega)]at h3;have h4:=xj (T:=T) (S:=S) (W:=W) n;rw[hS,ay T S]at h4;have h5:S*(T-fe (bs T S W) n)=fe (rs T S W) n:=by rw[Nat.mul_sub];omega
  have h6:S*(i+1)≤S*(T-fe (bs T S W) n):=aD _ hi;have h7:(S-1)*i≤S*i:=aH _ (by omega);rw[au]at h6;omega
 ·exact hz
theorem GA (hS:fe W n=S)(h0:0<S)(hn:0<n)(g:Gd (oh (rs T S W)) e 0 n)(hk:k<n):T*W k<shr T S W e n k*S+S∧shr T S W e n k*S<T*W k+S:=by
 have h1:=B6 (T:=T) (S:=S) (W:=W) (k:=k);have hb:rs T S W k<S:=aZ _ h0;have h2:=Oa (e:=e) (m:=T-fe (bs T S W) n) (k:=k);unfold shr;rw[aX,ay (bs T S W k) S];by_cases c:ch e (T-fe (bs T S W) n) k=0
 ·rw[c,CA];omega
 ·obtain⟨i,hi,he⟩:=N6 c;have h3:=GU hS h0 hn g hi;rw[he]at h3;rw[show ch e (T-fe (bs T S W) n) k=1 by omega,vH];omega
theorem GB (hS:fe W n=S)(h0:0<S)(hn:0<n)(g:Gd (oh (rs T S W)) e 0 n)(hi:i<n)(hk:k<n)(hw:W k<W i):shr T S W e n k≤shr T S W e n i:=by
 have h1:=B6 (T:=T) (S:=S) (W:=W) (k:=k);have h1':=B6 (T:=T) (S:=S) (W:=W) (k:=i);have h2:=Oa (e:=e) (m:=T-fe (bs T S W) n) (k:=k);have hb:bs T S W k≤bs T S W i:=Nat.div_le_div_right (aD _ (yr hw));unfold shr;rcases aQ (bs T S W k) (bs T S W i)with c|c
 ·omega
 ·have e1:bs T S W k=bs T S W i:=by omega
  by_cases c0:ch e (T-fe (bs T S W) n) k=0
  ·omega
  ·obtain⟨j,hj,he⟩:=N6 c0;have hT:0<T:=by omega
   have hlt:T*W k<T*W i:=Nat.mul_lt_mul_of_pos_left hw hT;have hr:rs T S W k<rs T S W i:=by rw[e1]at h1;omega
   obtain⟨j',_,hj',UY⟩:=g.2.2 i (aE _) hi;have h3:=sQ (T:=T) hS h0 hn
   have hjj:j'<j:=by
    rcases iN j' j with x|x|x
    ·exact x
    ·rw[x,he]at UY;rw[UY]at hw;omega
    ·have:=g.1 j j' (aE _) x hj';rw[he,UY]at this;unfold oh at this;omega
   rw[Ob (show j'<T-fe (bs T S W) n by omega) UY];omega
theorem DL {s:Nat}:∀k,k≤n→∀i j,i<n→j<n→rI s n k i=rI s n k j→i=j
 |0,_,i,j,_,_,h=>h
 | k + 1,hk,i,j,hi,hj,h=>by
  have ih:=DL (s:=s) k (by omega);have hJ:=B5 (s:=s) (n:=n) (k:=k) (by omega);have h':iP (iP (rI s n k) k (rI s n k (yn s n k))) (yn s n k) (rI s n k k) i=iP (iP (rI s n k) k (rI s n k (yn s n k))) (yn s n k) (rI s n k k) j:=h;clear h;generalize yn s n k=J at hJ h'
  have cs:∀i,i<n→∃i',i'<n∧iP (iP (rI s n k) k (rI s n k J)) J (rI s n k k) i=rI s n k i'∧((i=J∧i'=k)∨(i≠J∧i=k∧i'=J)∨(i≠J∧i≠k∧i'=i)):=fun i hi=>by
   unfold iP;by_cases c1:i=J
   ·exact⟨k,by omega,if_pos c1,.inl ⟨c1,rfl⟩⟩
   ·by_cases c2:i=k
    ·exact⟨J,hJ,by rw[if_neg c1,if_pos c2],.inr (.inl ⟨c1,c2,rfl⟩)⟩
    ·exact⟨i,hi,by rw[if_neg c1,if_neg c2],.inr (.inr ⟨c1,c2,rfl⟩)⟩
  obtain⟨i',hi',e1,c1⟩:=cs i hi;obtain⟨j',hj',e2,c2⟩:=cs j hj;rw[e1,e2]at h';have:=ih i' j' hi' hj' h';omega
end
end Go.Ae
namespace Go.Ae.He
open ij bC C
def a8:cP:=⟨271,[.tmp 6],(q [o 6 (.mv (.k (.bool false)))]
 (.seq (q [c 24 17 [],y 25 .not 24,v 26 25,g 27 (m 0) 26 false,gb 28 .lss (.t 27) (i 0) 26 false,pt 29 26 28,v 30 29,g 31 (m 0) 30 false,gb 32 .gtr (.t 31) (i 100000) 30 false,pt 33 30 32,v 34 33,g 35 (m 1) 34 false,g 36 (.len .slice (.t 35)) 34 false,gb 37 .gtr (.t 36) (i 12) 34 false,pt 38 34 37,v 39 38,g 40 (m 1) 39 false,gc 41 26 [.t 40] 39 false,gb 42 .neq (.t 41) (i 0) 39 false,pt 43 39 42]
 (k 43 (q [c 44 17 [],v 6 44]
 .ret)))
 (q [vi 7 0]
 (.seq (q [v 45 1,ln 46 45,vi 47 0]
 (.block 0 (.loop (q [bt 48 .lss 47 46]
 (.seq (.cond (.t 48) .skip
 (.exit 0))
 (.seq (.block 1 (q [v 49 47,v 8 49]
 (.seq (q [v 50 1,v 51 8,ix 52 1 50 51,l 53 false 1 52,bi 54 .gtr 53 100000]
 (k 54 (q [o 6 (.mv (.k (.bool true)))]
 .ret)))
 (.cG [v 55 7,v 56 1,v 57 8,ix 58 1 56 57,l 59 false 1 58,bt 60 .add 55 59,v 7 60]))))
 (.cG [bi 61 .add 47 1,v 47 61])))))))
 (q [v 63 0,v 64 1,c 65 24 [.t 63,.t 64],v 62 65,e 66 62 0,e 67 62 1,v 9 66,v 10 67]
 (.seq (q [v 68 10,bi 69 .neq 68 0,v 70 69,g 71 (m 9) 70 false,g 72 (.len .slice (.t 71)) 70 false,g 73 (m 1) 70 false,g 74 (.len .slice (.t 73)) 70 false,gb 75 .neq (.t 72) (.t 74) 70 false,pt 76 70 75]
 (k 76 (q [o 6 (.mv (.k (.bool false)))]
 .ret)))
 (q [v 77 0,v 11 77]
 (.seq (q [v 78 9,ln 79 78,vi 80 0]
 (.block 2 (.loop (q [bt 81 .lss 80 79]
 (.seq (.cond (.t 81) .skip
 (.exit 2))
 (.seq (.block 3 (q [v 82 80,v 12 82]
 (.seq (.seq (.cC [v 83 9,v 84 12,ix 85 1 83 84,w 86 false 1 85 3,bi 87 .lss 86 0,v 88 87,g 89 (m 9) 88 false,g 90 (m 12) 88 false,g 91 (.gR 1 (.t 89) (.t 90)) 88 false,x 92 false 1 91 88 false 9,g 93 (m 0) 88 false,gb 94 .gtr (.t 92) (.t 93) 88 false,pt 95 88 94,v 96 95,g 97 (m 9) 96 false,g 98 (m 12) 96 false,g 99 (.gR 1 (.t 97) (.t 98)) 96 false,x 100 false 1 99 96 false 17,g 101 (m 7) 96 false,gb 102 .mul (.t 100) (.t 101) 96 false,g 103 (m 0) 96 false,g 104 (m 1) 96 false,g 105 (m 12) 96 false,g 106 (.gR 1 (.t 104) (.t 105)) 96 false,x 107 false 1 106 96 false 24,gb 108 .mul (.t 103) (.t 107) 96 false,g 109 (m 7) 96 false,gb 110 .sub (.t 108) (.t 109) 96 false,gb 111 .leq (.t 102) (.t 110) 96 false,pt 112 96 111,v 113 112,g 114 (m 9) 113 false,g 115 (m 12) 113 false,g 116 (.gR 1 (.t 114) (.t 115)) 113 false,x 117 false 1 116 113 false 34,g 118 (m 7) 113 false,gb 119 .mul (.t 117) (.t 118) 113 false,g 120 (m 0) 113 false,g 121 (m 1) 113 false,g 122 (m 12) 113 false,g 123 (.gR 1 (.t 121) (.t 122)) 113 false,x 124 false 1 123 113 false 41,gb 125 .mul (.t 120) (.t 124) 113 false,g 126 (m 7) 113 false,gb 127 .add (.t 125) (.t 126) 113 false,gb 128 .geq (.t 119) (.t 127) 113 false,pt 129 113 128])
 (k 129 (q [o 6 (.mv (.k (.bool false)))]
 .ret)))
 (.seq (q [v 130 9,ln 131 130,vi 132 0]
 (.block 4 (.loop (q [bt 133 .lss 132 131]
 (.seq (.cond (.t 133) .skip
 (.exit 4))
 (.seq (.block 5 (q [v 134 132,v 13 134]
 (.seq (.cC [v 135 1,v 136 12,ix 137 1 135 136,w 138 false 1 137 3,v 139 1,v 140 13,ix 141 1 139 140,w 142 false 1 141 7,bt 143 .gtr 138 142,v 144 143,g 145 (m 9) 144 true,g 146 (m 12) 144 true,g 147 (.gR 1 (.t 145) (.t 146)) 144 true,x 148 false 1 147 144 true 13,g 149 (m 9) 144 true,g 150 (m 13) 144 true,g 151 (.gR 1 (.t 149) (.t 150)) 144 true,x 152 false 1 151 144 true 17,gb 153 .lss (.t 148) (.t 152) 144 true,pf 154 144 153])
 (k 154 (q [o 6 (.mv (.k (.bool false)))]
 .ret)))))
 (.cG [bi 155 .add 132 1,v 132 155])))))))
 (.cG [v 156 11,v 157 9,v 158 12,ix 159 1 157 158,l 160 false 1 159,bt 161 .sub 156 160,v 11 161])))))
 (.cG [bi 162 .add 80 1,v 80 162])))))))
 (q [v 163 0,bi 164 .rem 163 41,v 14 164]
 (q [v 166 0,b 167 .add (i 1) (.t 166),v 168 14,c 169 29 [.t 167,.t 168],v 165 169,e 170 165 0,e 171 165 1,v 15 170,v 16 171]
 (q [v 172 14,o 173 (.tY 1 1 [.bool false] (.t 172) (.t 172)),v 17 173]
 (.seq (q [v 174 11,bi 175 .neq 174 0,v 176 175,g 177 (m 16) 176 false,gb 178 .neq (.t 177) (i 0) 176 false,pt 179 176 178,v 180 179,g 181 (m 15) 180 false,g 182 (.len .slice (.t 181)) 180 false,g 183 (m 14) 180 false,gb 184 .neq (.t 182) (.t 183) 180 false,pt 185 180 184]
 (k 185 (q [o 6 (.mv (.k (.bool false)))]
 .ret)))
 (.seq (q [v 186 15,ln 187 186,vi 188 0]
 (.block 6 (.loop (q [bt 189 .lss 188 187]
 (.seq (.cond (.t 189) .skip
 (.exit 6))
 (.seq (.block 7 (q [ix 190 1 186 188,l 191 false 1 190,v 19 191]
 (.seq (q [v 192 19,bi 193 .lss 192 0,v 194 193,g 195 (m 19) 194 false,g 196 (m 14) 194 false,gb 197 .geq (.t 195) (.t 196) 194 false,pt 198 194 197,v 199 198,g 200 (m 17) 199 false,g 201 (m 19) 199 false,g 202 (.gR 1 (.t 200) (.t 201)) 199 false,gl 203 false 1 202 199 false,pt 204 199 203]
 (k 204 (q [o 6 (.mv (.k (.bool false)))]
 .ret)))
 (.cG [v 205 17,v 206 19,ix 207 1 205 206,n (.store 1 (.t 207) (.k (.bool true)))]))))
 (.cG [bi 208 .add 188 1,v 188 208])))))))
 (.seq (q [v 209 2,ln 210 209,bi 211 .eql 210 0,v 212 211,g 213 (m 2) 212 false,gc 214 35 [.t 213,i 4,i 4,i 3] 212 false,g 215 (.un .not (.t 214)) 212 false,pt 216 212 215,v 217 216,g 218 (m 2) 217 false,gc 219 55 [.t 218] 217 false,g 220 (m 2) 217 false,g 221 (.len .slice (.t 220)) 217 false,gb 222 .neq (.t 219) (.t 221) 217 false,pt 223 217 222]
 (k 223 (q [o 6 (.mv (.k (.bool true)))]
 .ret)))
 (q [v 224 2,v 225 2,ln 226 225,bi 227 .sub 226 1,ix 228 1 224 227,l 229 false 1 228,v 20 229]
 (.seq (q [v 230 2,v 231 20,c 232 34 [.t 230,.t 231],bi 233 .neq 232 0]
 (k 233 (q [o 6 (.mv (.k (.bool true)))]
 .ret)))
 (q [v 235 2,v 236 20,c 237 37 [.t 235,.t 236],v 234 237,e 238 234 0,e 239 234 1,v 21 238,v 22 239]
 (.seq (q [v 240 22,bi 241 .neq 240 0]
 (k 241 (q [v 242 22,bi 243 .eql 242 14,v 6 243]
 .ret)))
 (.seq (q [v 244 21,ln 245 244,v 246 2,ln 247 246,bt 248 .neq 245 247,v 249 248,g 250 (m 21) 249 false,gc 251 56 [.t 250] 249 false,gb 252 .neq (.t 251) (i 0) 249 false,pt 253 249 252]
 (k 253 (q [o 6 (.mv (.k (.bool false)))]
 .ret)))
 (.seq (q [v 254 2,ln 255 254,vi 256 0]
 (.block 8 (.loop (q [bt 257 .lss 256 255]
 (.seq (.cond (.t 257) .skip
 (.exit 8))
 (.seq (.block 9 (q [v 258 256,v 23 258]
 (.seq (.cC [v 259 2,v 260 23,ix 261 1 259 260,w 262 false 1 261 3,v 263 21,c 264 57 [.t 262,.t 263],v 265 20,v 266 23,ix 267 1 265 266,w 268 false 1 267 9,bt 269 .neq 264 268])
 (k 269 (q [o 6 (.mv (.k (.bool false)))]
 .ret)))))
 (.cG [bi 270 .add 256 1,v 256 270])))))))
 (q [o 6 (.mv (.k (.bool true)))]
 .ret)))))))))))))))))))))⟩
def Vc:cP:=⟨25,[.tmp 4],(q [o 4 (.mv (.k (.str [])))]
 (q [o 5 (.mv (.k (.str [48])))]
 (.seq (q [vi 6 0]
 (.block 0 (.loop (.seq (q [v 7 6,v 8 0,ln 9 8,bt 10 .lss 7 9]
 (.cond (.t 10) .skip
 (.exit 0)))
 (.seq (.block 1 (.cC [v 13 5,v 14 0,v 15 6,ix 16 1 14 15,w 17 false 1 16 4,v 18 1,v 19 6,ix 20 1 18 19,w 21 false 1 20 8,c 22 74 [.t 17,.t 21],c 23 72 [.t 13,.t 22],v 5 23]))
 (.cG [v 11 6,bi 12 .add 11 1,v 6 12]))))))
 (q [v 24 5,v 4 24]
 .ret))))⟩
def nc:T cP:=(.node (.node .nil none (.node (.node .nil none (.node .nil none (.node .nil (some Vc) .nil))) none .nil)) none (.node (.node (.node .nil (some a8) .nil) none .nil) none .nil))
section
open Go.Proofs
theorem b8:bh 8 a8:=by unfold bh;kernel_rfl
theorem b57:bh 57 Vc:=by unfold bh;kernel_rfl
theorem all:T.Forall bh nc (fun n=>n):=⟨C.no,⟨C.no,trivial,⟨C.no,⟨C.no,trivial,⟨C.no,trivial,⟨C.yes b57,trivial,trivial⟩⟩⟩,trivial⟩⟩,⟨C.no,⟨C.no,⟨C.yes b8,trivial,trivial⟩,trivial⟩,trivial⟩⟩
theorem zA (n:Nat)(a:cP)(h:nc.get n=some a):DQ Tryz.prog n=some a:=T.gS nc (fun n=>n) all n a h
end
end Go.Ae.He
namespace Go.Ae
open So Bg N Go.Proofs
noncomputable section
section
variable {h h' hp:Hp}{K:AV→Hp→Prop}{tm:T AV}{n t f s a b c d k m q l:Nat}{e e':Nat→Nat}{v va vb:AV}{la lb:List Nat}{w:List Int}
theorem getD_take {w:List Int}{i:Nat}(h:i<w.length):w.take (i+1)=w.take i++[w.getD i 0]:=by
 rw[pw,aR,aC h];rfl
theorem JU (h:w.length=0):nB w=12:=if_pos h
theorem OE (h:256<w.length):nB w=5:=by unfold nB;rw[if_neg (by omega),if_pos h]
theorem Ga (h0:w.length≠0)(h1:¬256<w.length)(h:∃x∈w,lG x):nB w=3:=by unfold nB;rw[if_neg h0,if_neg h1,if_pos h]
theorem F9 (h0:w.length≠0)(h1:¬256<w.length)(h:∀x∈w,0≤x∧x≤999999999):nB w=if fe (wN w) w.length=0 then 6 else 0:=by
 have hb:¬∃x∈w,lG x:=fun⟨x,hx,b⟩=>by have:=h x hx;unfold lG at b;omega
 unfold nB;rw[if_neg h0,if_neg h1,if_neg hb];by_cases c:∃x∈w,x≠0
 ·rw[if_pos c,if_neg];obtain⟨x,hx,hx0⟩:=c;obtain⟨k,hk,he⟩:=List.getElem_of_mem hx;have hg:w.getD k 0=x:=by rw[aR,aC hk];exact he
  have h4:=sM (d:=wN w) hk;have h5:=h x hx;have:0<wN w k:=by unfold wN;rw[hg];omega
  omega
 ·rw [if_neg c,if_pos]
  have:fe (wN w) w.length≤w.length*0:=nG fun k hk=>by
   have h6:w.getD k 0=0:=by
    rcases Decidable.em (w.getD k 0=0)with e|e
    ·exact e
    ·exact absurd ⟨_,ua hk,e⟩ c
   unfold wN;rw[h6];exact ac _
  omega
theorem r26 (hS:iC 1 h v w.length (w.map (AV.int .i64))):Gv E3 26 [v] h (.int .i64 (nB w)):=by
 refine Gv.of (ae.fn (fn:=R.Vj) rfl rfl rfl ?_);unfold R.Vj;have ln:=hS.rz.len;by_cases c1:w.length=0
 ·have c1':(w.length:Int)=0:=by omega
  rw[JU c1];repeat'(with_reducible first|simp(disch:=try exact ab) only[go_sem,seval,ln,c1']|(apply ai.i<;>intro hc))
 have c1':¬(w.length:Int)=0:=by omega
 by_cases c2:256<w.length
 ·have kq:(256:Int)<w.length:=by omega
  rw[OE c2];repeat'(with_reducible first|simp(disch:=try exact ab) only[go_sem,seval,ln,c1',kq]|(apply ai.i<;>intro hc))
 have kq:¬(256:Int)<w.length:=by omega
 repeat'(with_reducible first|simp(disch:=try exact ab) only[go_sem,seval,ln,c1',kq]|(apply ai.i<;>intro hc))
 refine Wp.bD (fun mm s=>∃(i:Nat),val s.tm (.t 0)=v∧val s.tm (.t 4)= .int .i64 i∧val s.tm (.t 3)= .int .i64 (fe (wN w) i)∧
  aK h s.hp∧(∀x∈w.take i,0≤x∧x≤999999999)∧i≤w.length∧w.length-i=mm) (n:=w.length) ?_ ?_
 ·exact⟨0,aL,by(simp(disch:=try exact ab) only[go_sem,seval])<;>rfl,by(simp(disch:=try exact ab) only[go_sem,seval])<;>rfl,aK.refl _,by simp,aE _,rfl⟩
 ·rintro mm ⟨tm,hp⟩ ⟨i,k0,k4,k3,G,hok,hi,rfl⟩;simp only at k0 k4 k3 G;have rz:=(hS.aO G).rz;have ln:=rz.len
  have hlt:∀k,k<i→w.getD k 0=(wN w k:Int)∧wN w k≤999999999:=fun k hk=>by
   have:w.getD k 0∈w.take i:=by
    rw[aR,aC (by omega:k<w.length)];exact List.mem_take_iff_getElem.2 ⟨k,by omega,rfl⟩
   have:=hok _ this;unfold wN;omega
  have hb:fe (wN w) i≤i*999999999:=nG fun k hk=>(hlt k hk).2
  have NL:fe (wN w) i≤999999999000:=by
   have:=aH 999999999 (show i≤1000 by omega);omega
  by_cases c0:i<w.length
  ·have c':(i:Int)<w.length:=by omega
   have adg:=rz.iZ;have ld:=iC.Nz (hS.aO G) c0;have od:=iC.KF (hS.aO G) (by omega);have tk:=getD_take c0;have mem:=ua c0;have es:fe (wN w) (i+1)=fe (wN w) i+wN w i:=rfl;have wn:wN w i=(w.getD i 0).toNat:=rfl;generalize w.getD i 0=x at *
   by_cases b1:x<0
   ·rw[Ga c1 c2 ⟨x,mem,.inl b1⟩];repeat'(with_reducible first|simp(disch:=try exact ab) only[go_sem,seval,k0,k4,k3,ln,c',adg,ld,od,b1]|(apply ai.i<;>intro hc))
    all_goals exact G
   ·by_cases b2:999999999<x
    ·rw[Ga c1 c2 ⟨x,mem,.inr b2⟩];repeat'(with_reducible first|simp(disch:=try exact ab) only[go_sem,seval,k0,k4,k3,ln,c',adg,ld,od,b1,b2]|(apply ai.i<;>intro hc))
     all_goals exact G
    ·repeat'(with_reducible first|simp(disch:=try exact ab) only[go_sem,seval,k0,k4,k3,ln,c',adg,ld,od,b1,b2]|(apply ai.i<;>intro hc))
     refine⟨_,by omega,i+1,rfl,?_,G,?_,c0,rfl⟩
     ·exact congrArg (AV.int .i64) (by rw[es,wn];omega)
     ·intro y hy;rw[tk,dQ]at hy;rcases hy with hy|hy
      ·exact hok y hy
      ·simp only[yd]at hy;subst hy;omega
  ·have c':¬(i:Int)<w.length:=by omega
   obtain rfl:i=w.length:=by omega
   rw[bu]at hok;rw[F9 c1 c2 hok];generalize fe (wN w) w.length=y at *
   by_cases cy:y=0
   ·subst cy;repeat'(with_reducible first|simp(disch:=try exact ab) only[go_sem,seval,k0,k4,k3,ln,c']|(apply ai.i<;>intro hc))
    exact G
   ·have cy':((y:Int)=0)=False:=by simp;omega
    rw[if_neg cy];repeat'(with_reducible first|simp(disch:=try exact ab) only[go_sem,seval,k0,k4,k3,ln,c',cy']|(apply ai.i<;>intro hc))
    exact G
end
end
end Go.Ae
namespace Go.Ae
open Bg N Go.Proofs Gj So
noncomputable section
def EL:Env:=EX.add He.nc
theorem XQ:Ge EX EL:=Ge.add _ _
section
variable {h h' h0 h1 hp:Hp}{K:AV→Hp→Prop}{tm:Ae.T AV}{v va vb vw s:AV}{a r tt:Rat}{x y:Fc}{p n z i j k f c q d N:Nat}{t t':Nat→Nat}{M:Mt}{e D:Nat→Nat}{g A X:Nat→Rat}{o:Option di}{l l2 b:List (List UInt8)}{m:List (List (List UInt8))}{Q:Ex→St→Prop}{w:List Int}{P:AV→Hp→Prop}
theorem y0 {f:Nat}{args:List AV}{v:AV}(hc:Gv EX f args h v):Gv EL f args h v:=hc.ge fun _ _ _ hk=>hk.ge XQ
theorem y3 {f:Nat}{args:List AV}{v:AV}(hc:Gv E3 f args h v):Gv EL f args h v:=y0 (x3 hc)
theorem y2 {f:Nat}{args:List AV}{v:AV}(hc:Gv E2 f args h v):Gv EL f args h v:=y0 (x2 hc)
theorem yp0 {f:Nat}{args:List AV}(hc:Gp EX f args h P):Gp EL f args h P:=by
 obtain⟨v,h',h1,h2,h3⟩:=hc;exact⟨v,h',h1.ge XQ,h2,h3⟩
theorem yp2 {f:Nat}{args:List AV}(hc:Gp E2 f args h P):Gp EL f args h P:=yp0 (UC hc)
theorem Oy {f:Nat→Rat}:∀{n:Nat},(∀k,k<n→Br 68 (f k))→Br (1+69*n) (sm f n)
 |0,_=>⟨by show(0:Int).natAbs<_;decide,by show((1:Nat):Int).natAbs<_;decide⟩
 | n+1,h=>by
  have:=(Oy (n:=n) fun k hk=>h k (by omega)).add (h n (by omega));rw[sm];exact this.mono (by omega)
theorem d57 {u:AV}(ou:js h u l)(ox:js h v l2)(hl:l.length=n)(hl2:l2.length=n)(hv:∀k,k<n→kh l k=bU (A k))(hx:∀k,k<n→kh l2 k=bU (X k))(bA:∀k,k<n→Br 1 (A k))(bX:∀k,k<n→Br 67 (X k))(hn:n≤20):
  Gv EL 57 [u,v] h (.str (bU (sm (fun k=>A k*X k) n))):=by
 subst hl;refine Gv.of (ae.fn (fn:=He.Vc) rfl rfl rfl ?_);unfold He.Vc;have ln:=ou.rz.len;have ad:=ou.rz.iZ;have ad2:=ox.rz.iZ;rw[hl2]at ad2;have z0:bU (sm (fun k=>A k*X k) 0)=[48]:=by show bU 0=_;decide+kernel
 repeat'(with_reducible first|simp(disch:=try exact ab) only[go_sem,seval]|(apply ai.i<;>intro hc))
 refine Wp.bD (fun mm s=>∃(i:Nat),val s.tm (.t 0)=u∧val s.tm (.t 1)=v∧val s.tm (.t 6)= .int .i64 i∧val s.tm (.t 5)= .str (bU (sm (fun k=>A k*X k) i))∧
  aK h s.hp∧i≤l.length∧l.length-i=mm) (n:=l.length) ?_ ?_
 ·exact⟨0,aL,aL,by(simp(disch:=try exact ab) only[go_sem,seval])<;>rfl,by(simp(disch:=try exact ab) only[go_sem,seval])<;>rw[z0],aK.refl _,aE _,rfl⟩
 ·rintro mm ⟨tm,hp⟩ ⟨i,k0,k1,k6,k5,G,hle,rfl⟩;simp only at k0 k1 k6 k5 G;by_cases hlt:i<l.length
  ·have hlt':(i:Int)<l.length:=by omega
   have hlt1:i+1≤l.length:=hlt;have og:=ou.aO G;have xg:=ox.aO G;have ld:=og.ld hlt;have UJ:=xg.ld (show i<l2.length by omega);rw[hv i hlt]at ld;rw[hx i hlt]at UJ;have old:=og.old (by omega);have old2:=xg.old (by omega);have hu:=og.lt (by omega);have hx2:=xg.lt (by omega);have f74:=fun h=>y3 (d74 (h:=h) ((bA i hlt).mono (m:=2000) (by decide)) ((bX i hlt).mono (m:=2000) (by decide)))
   have bs:=Oy (f:=fun k=>A k*X k) (n:=i) fun k hk=>(bA k (by omega)).mul (bX k (by omega))
   have f72:=fun h=>y3 (d72 (h:=h) (bs.mono (m:=2000) (by omega)) (((bA i hlt).mul (bX i hlt)).mono (m:=2000) (by decide)))
   have es:sm (fun k=>A k*X k) i+A i*X i=sm (fun k=>A k*X k) (i+1):=rfl;rw[es]at f72;repeat'(with_reducible first|simp(disch:=try exact ab) only[go_sem,seval,k0,k1,k6,k5,ln,ad,ad2,hlt',ld,UJ,old,old2]|(refine Gv.wp (f74 _) fun _ _ _ _=>?_)|(refine Gv.wp (f72 _) fun _ _ _ _=>?_)|(apply ai.i<;>intro hc))
   exact⟨_,by omega,i+1,rfl,rfl,G.trans aS,hlt,rfl⟩
  ·have hlt':¬(i:Int)<l.length:=by omega
   obtain rfl:i=l.length:=by omega
   repeat'(with_reducible first|simp(disch:=try exact ab) only[go_sem,seval,k0,k1,k6,k5,ln,hlt']|(apply ai.i<;>intro hc))
   first|exact G|exact⟨rfl,G⟩
end
end
end Go.Ae
set_option maxHeartbeats 8000000
namespace Go.Ae
open Bg N Go.Proofs Gj So
noncomputable section
def XZ:ap:=He.a8.code.r.r.r.l
def U7:ap:=He.a8.code.r.r.r.r.r.r.r.l
def TC:ap:=He.a8.code.r.r.r.r.r.r.r.r
def XY:ap:=TC.r.r.r.r.l
def U6:ap:=TC.r.r.r.r.r
def XX:ap:=U6.r.r.r.r.r.r.l
def seen (D:Nat→Nat)(i x:Nat):Bool:=(fg i).any fun j=>D j==x
section
variable {h h' h0 h1 hp:Hp}{K:AV→Hp→Prop}{tm:Ae.T AV}{v va vb vw vm s:AV}{a r tt:Rat}{x y:Fc}{p n z i j k f c q d N B S T:Nat}{t t':Nat→Nat}{M:Mt}{e D W:Nat→Nat}{g A X:Nat→Rat}{o:Option di}{l l2 b:List (List UInt8)}{m:List (List (List UInt8))}{Q:Ex→St→Prop}{w:List Int}{P:AV→Hp→Prop}
theorem Em:seen D (i+1) k=(seen D i k||D i==k):=by
 unfold seen;rw[List.range_succ,List.any_append];simp
theorem GG (hi:∀j,j<i→D j≠D i):seen D i (D i)=false:=by
 unfold seen;rw[List.any_eq_false];intro j hj;simpa using hi j (by simpa using hj)
theorem Sm (k0:val tm (.t 0)= .int .i64 T)(k1:val tm (.t 1)=v)(k2:val tm (.t 2)=vm)(k7:val tm (.t 7)= .int .i64 0)(hS:iC 1 h v w.length (w.map (AV.int .i64)))(hw:∀k,k<w.length→w.getD k 0=(wN w k:Int)∧wN w k≤999999999)(hn:w.length≤12)(G:aK h hp)
  (QO:∀fE hp',val fE (.t 0)= .int .i64 T→val fE (.t 1)=v→val fE (.t 2)=vm→val fE (.t 7)= .int .i64 (fe (wN w) w.length)→(∀k,k<w.length→wN w k≤100000)→aK h hp'→Q .fW ⟨fE,hp'⟩)
  (hk2:∀fE hp',val fE (.t 6)= .bool true→aK h hp'→Q .ret ⟨fE,hp'⟩):Wp EL XZ ⟨tm,hp⟩ Q:=by
 rw[show XZ= .seq _ (.block 0 (.loop _)) from rfl];have ln:=hS.rz.len;repeat'(with_reducible first|simp(disch:=try exact ab) only[go_sem,seval,k0,k1,k2,k7,ln]|(apply ai.i<;>intro hc))
 refine Wp.bD (fun mm s=>∃(i:Nat),val s.tm (.t 0)= .int .i64 T∧val s.tm (.t 1)=v∧val s.tm (.t 2)=vm∧val s.tm (.t 7)= .int .i64 (fe (wN w) i)∧val s.tm (.t 46)= .int .i64 w.length∧val s.tm (.t 47)= .int .i64 i∧
  aK h s.hp∧(∀k,k<i→wN w k≤100000)∧i≤w.length∧w.length-i=mm) (n:=w.length) ?_ ?_
 ·exact⟨0,by simp(disch:=try exact ab) only[go_sem,seval,k0],by simp(disch:=try exact ab) only[go_sem,seval,k1],by simp(disch:=try exact ab) only[go_sem,seval,k2],by(simp(disch:=try exact ab) only[go_sem,seval,k7])<;>rfl,by simp(disch:=try exact ab) only[go_sem,seval,ln],by(simp(disch:=try exact ab) only[go_sem,seval])<;>rfl,G,fun k hk=>absurd hk (gz _),aE _,rfl⟩
 ·clear k0 k1 k2 k7 G;rintro mm ⟨tm,hp⟩ ⟨i,k0,k1,k2,k7,UM,UL,G,hok,hle,rfl⟩;simp only at k0 k1 k2 k7 UM UL G;by_cases hlt:i<w.length
  ·have hlt':(i:Int)<w.length:=by omega
   have hlt1:i+1≤w.length:=hlt;have hSg:=hS.aO G;have adg:=hSg.rz.iZ;have ld:=iC.Nz hSg hlt;obtain⟨SD,WS⟩:=hw i hlt;rw[SD]at ld;have NL:fe (wN w) (i+1)=fe (wN w) i+wN w i:=rfl;have hsb:fe (wN w) i≤i*999999999:=nG fun k hk=>(hw k (by omega)).2
   by_cases c1:100000<wN w i
   ·have c1':(100000:Int)<wN w i:=by omega
    repeat'(with_reducible first|simp(disch:=try exact ab) only[go_sem,seval,k0,k1,k2,k7,UM,UL,hlt',adg,ld,c1']|(apply ai.i<;>intro hc))
    exact hk2 _ _ aL G
   ·have c1':¬(100000:Int)<wN w i:=by omega
    have em:(fe (wN w) i:Int)+(wN w i:Int)=(fe (wN w) (i+1):Nat):=by omega
    generalize fe (wN w) (i+1)=s1 at em NL
    repeat'(with_reducible first|simp(disch:=try exact ab) only[go_sem,seval,k0,k1,k2,k7,UM,UL,hlt',adg,ld,c1',em]|(apply ai.i<;>intro hc))
    refine⟨_,by omega,i+1,?_,rfl,G,fun k hk=>?_,hlt,rfl⟩
    ·rw[show fe (wN w) (i+1)=s1 from NL.symm▸rfl]
    ·rcases aQ k i with c|c
     ·exact hok k c
     ·rw[show k=i by omega];omega
  ·have hlt':¬(i:Int)<w.length:=by omega
   obtain rfl:i=w.length:=by omega
   repeat'(with_reducible first|simp(disch:=try exact ab) only[go_sem,seval,k0,k1,k2,k7,UM,UL,hlt']|(apply ai.i<;>intro hc))
   exact QO _ _ (by simp(disch:=try exact ab) only[go_sem,seval,k0]) (by simp(disch:=try exact ab) only[go_sem,seval,k1]) (by simp(disch:=try exact ab) only[go_sem,seval,k2]) (by simp(disch:=try exact ab) only[go_sem,seval,k7]) hok G
theorem Pr (k2:val tm (.t 2)=vm)(eA:val tm (.t 14)= .int .i64 N)(qE:val tm (.t 15)= .sl d 0 N 1)(ve:val tm (.t 17)= .sl q 0 N 1)(G:aK h hp)(R:Rw hp d N D)(P:Ts hp q N fun _=> .bool false)(hd:d≠q)(hq:h.next≤q)(hN:N≤40)
  (hD:∀i,i<N→D i<N) (inj:∀i j,i<N→j<N→D i=D j→i=j)
  (hk:∀fE hp',val fE (.t 2)=vm→aK h hp'→Q .fW ⟨fE,hp'⟩):Wp EL XY ⟨tm,hp⟩ Q:=by
 rw[show XY= .seq _ (.block 6 (.loop _)) from rfl];repeat'(with_reducible first|simp(disch:=try exact ab) only[go_sem,seval,k2,eA,qE,ve]|(apply ai.i<;>intro hc))
 refine Wp.bD (fun mm s=>∃(i:Nat),val s.tm (.t 2)=vm∧val s.tm (.t 14)= .int .i64 N∧val s.tm (.t 17)= .sl q 0 N 1∧val s.tm (.t 186)= .sl d 0 N 1∧val s.tm (.t 187)= .int .i64 N∧val s.tm (.t 188)= .int .i64 i∧
  aK h s.hp∧Rw s.hp d N D∧Ts s.hp q N (fun k=> .bool (seen D i k))∧i≤N∧N-i=mm) (n:=N) ?_ ?_
 ·exact⟨0,by simp(disch:=try exact ab) only[go_sem,seval,k2],by simp(disch:=try exact ab) only[go_sem,seval,eA],by simp(disch:=try exact ab) only[go_sem,seval,ve],by simp(disch:=try exact ab) only[go_sem,seval,qE],by simp(disch:=try exact ab) only[go_sem,seval,qE],by(simp(disch:=try exact ab) only[go_sem,seval])<;>rfl,G,R,P,aE _,rfl⟩
 ·clear k2 eA qE ve G R P;rintro mm ⟨tm,hp⟩ ⟨i,k2,eA,ve,KU,KT,EE,G,R,P,hle,rfl⟩;simp only at k2 eA ve KU KT EE G R P;by_cases hlt:i<N
  ·have hlt':(i:Int)<N:=by omega
   have hlt1:i+1≤N:=hlt;have ld:=Rw.ld R hlt;have hDi:=hD i hlt;have c1:¬(D i:Int)<0:=by omega
   have c2:¬(N:Int)≤D i:=by omega
   have c3:(D i:Int)<N:=by omega
   have ldq:=P.ld hDi;rw[GG (fun j hj e=>by have:=inj j i (by omega) hlt e;omega)]at ldq;repeat'(with_reducible first|simp(disch:=try exact ab) only[go_sem,seval,k2,eA,ve,KU,KT,EE,hlt',ld,c1,c2,c3,ldq]|(apply ai.i<;>intro hc))
   refine P.st hDi rfl rfl rfl fun h2 ch P2=>?_
   repeat'(with_reducible first|simp(disch:=try exact ab) only[go_sem,seval,k2,eA,ve,KU,KT,EE]|(apply ai.i<;>intro hc))
   refine⟨_,by omega,i+1,rfl,ch.aO G hq,bv.mP R ch hd,P2.congr fun k hk=>?_,hlt,rfl⟩;simp only[vt,Em];by_cases e1:k=D i
   ·rw[if_pos e1,e1];simp
   ·rw[if_neg e1];have:(D i==k)=false:=by simpa using fun e=>e1 e.symm
    rw[this,Bool.or_false]
  ·have hlt':¬(i:Int)<N:=by omega
   obtain rfl:i=N:=by omega
   repeat'(with_reducible first|simp(disch:=try exact ab) only[go_sem,seval,k2,eA,ve,KU,KT,EE,hlt']|(apply ai.i<;>intro hc))
   exact hk _ _ (by simp(disch:=try exact ab) only[go_sem,seval,k2]) G
end
end
end Go.Ae
namespace Go.Ae
open Bg N Go.Proofs Gj So
noncomputable section
def Qg:ap:=U7.r.b.b.r.r.l.b.r.r.l
section
variable {h h' h0 h1 hp:Hp}{K:AV→Hp→Prop}{tm:Ae.T AV}{v va vb vw vm s:AV}{a r tt:Rat}{x y:Fc}{p n z i j k f c q d N S T al:Nat}{t t':Nat→Nat}{M:Mt}{e D W sh:Nat→Nat}{o:Option di}{Q:Ex→St→Prop}{w:List Int}
theorem Pt (k0:val tm (.t 0)= .int .i64 T)(k1:val tm (.t 1)=v)(k2:val tm (.t 2)=vm)(k7:val tm (.t 7)= .int .i64 S)(k9:val tm (.t 9)= .sl al 0 w.length 1)(k11:val tm (.t 11)= .int .i64 d)(k12:val tm (.t 12)= .int .i64 i)(AO:val tm (.t 79)= .int .i64 w.length)(AN:val tm (.t 80)= .int .i64 i)
  (hS:iC 1 h v w.length (w.map (AV.int .i64))) (hw:∀k,k<w.length→w.getD k 0=(W k:Int)) (hn:w.length≤12) (G:aK h hp) (A:Rw hp al w.length sh) (hi:i<w.length)
  (mono:∀i k,i<w.length→k<w.length→W k<W i→sh k≤sh i)
  (hk:∀fE hp',val fE (.t 0)= .int .i64 T→val fE (.t 1)=v→val fE (.t 2)=vm→val fE (.t 7)= .int .i64 S→val fE (.t 9)= .sl al 0 w.length 1→val fE (.t 11)= .int .i64 d→val fE (.t 12)= .int .i64 i→val fE (.t 79)= .int .i64 w.length→val fE (.t 80)= .int .i64 i→aK h hp'→Rw hp' al w.length sh→Q .fW ⟨fE,hp'⟩):Wp EL Qg ⟨tm,hp⟩ Q:=by
 rw[show Qg= .seq _ (.block 4 (.loop _)) from rfl];have hi':(i:Int)<w.length:=by omega
 repeat'(with_reducible first|simp(disch:=try exact ab) only[go_sem,seval,k0,k1,k2,k7,k9,k11,k12,AO,AN]|(apply ai.i<;>intro hc))
 refine Wp.bD (fun mm s=>∃(k:Nat),val s.tm (.t 0)= .int .i64 T∧val s.tm (.t 1)=v∧val s.tm (.t 2)=vm∧val s.tm (.t 7)= .int .i64 S∧val s.tm (.t 9)= .sl al 0 w.length 1∧val s.tm (.t 11)= .int .i64 d∧val s.tm (.t 12)= .int .i64 i∧val s.tm (.t 79)= .int .i64 w.length∧val s.tm (.t 80)= .int .i64 i∧val s.tm (.t 131)= .int .i64 w.length∧val s.tm (.t 132)= .int .i64 k∧
  aK h s.hp∧Rw s.hp al w.length sh∧k≤w.length∧w.length-k=mm) (n:=w.length) ?_ ?_
 ·exact⟨0,by simp(disch:=try exact ab) only[go_sem,seval,k0],by simp(disch:=try exact ab) only[go_sem,seval,k1],by simp(disch:=try exact ab) only[go_sem,seval,k2],by simp(disch:=try exact ab) only[go_sem,seval,k7],by simp(disch:=try exact ab) only[go_sem,seval,k9],by simp(disch:=try exact ab) only[go_sem,seval,k11],by simp(disch:=try exact ab) only[go_sem,seval,k12],by simp(disch:=try exact ab) only[go_sem,seval,AO],by simp(disch:=try exact ab) only[go_sem,seval,AN],aL,by(simp(disch:=try exact ab) only[go_sem,seval])<;>rfl,G,A,aE _,rfl⟩
 ·clear k0 k1 k2 k7 k9 k11 k12 AO AN G A;rintro mm ⟨tm,hp⟩ ⟨k,k0,k1,k2,k7,k9,k11,k12,AO,AN,KW,KV,G,A,hle,rfl⟩;simp only at k0 k1 k2 k7 k9 k11 k12 AO AN KW KV G A;by_cases hlt:k<w.length
  ·have hlt':(k:Int)<w.length:=by omega
   have hlt1:k+1≤w.length:=hlt;have hSg:=hS.aO G;have adg:=hSg.rz.iZ;have ldi:=iC.Nz hSg hi;have ldk:=iC.Nz hSg hlt;rw[hw i hi]at ldi;rw[hw k hlt]at ldk;have oldv:=iC.KF hSg (by omega);have la:=Rw.ld A hi;have lk:=Rw.ld A hlt;have olda:=Rw.old A;by_cases c1:W k<W i
   ·have c1':(W k:Int)<W i:=by omega
    have kq:¬(sh i:Int)<sh k:=by have:=mono i k hi hlt c1;omega
    repeat'(with_reducible first|simp(disch:=try exact ab) only[go_sem,seval,k0,k1,k2,k7,k9,k11,k12,AO,AN,KW,KV,hlt',hi',adg,ldi,ldk,oldv,la,lk,olda,c1',kq]|(apply ai.i<;>intro hc))
    exact⟨_,by omega,k+1,rfl,G,A,hlt,rfl⟩
   ·have c1':¬(W k:Int)<W i:=by omega
    repeat'(with_reducible first|simp(disch:=try exact ab) only[go_sem,seval,k0,k1,k2,k7,k9,k11,k12,AO,AN,KW,KV,hlt',hi',adg,ldi,ldk,oldv,c1']|(apply ai.i<;>intro hc))
    exact⟨_,by omega,k+1,rfl,G,A,hlt,rfl⟩
  ·have hlt':¬(k:Int)<w.length:=by omega
   repeat'(with_reducible first|simp(disch:=try exact ab) only[go_sem,seval,k0,k1,k2,k7,k9,k11,k12,AO,AN,KW,KV,hlt']|(apply ai.i<;>intro hc))
   exact hk _ _ (by simp(disch:=try exact ab) only[go_sem,seval,k0]) (by simp(disch:=try exact ab) only[go_sem,seval,k1]) (by simp(disch:=try exact ab) only[go_sem,seval,k2]) (by simp(disch:=try exact ab) only[go_sem,seval,k7]) (by simp(disch:=try exact ab) only[go_sem,seval,k9]) (by simp(disch:=try exact ab) only[go_sem,seval,k11]) (by simp(disch:=try exact ab) only[go_sem,seval,k12]) (by simp(disch:=try exact ab) only[go_sem,seval,AO]) (by simp(disch:=try exact ab) only[go_sem,seval,AN]) G A
theorem HM (k0:val tm (.t 0)= .int .i64 T)(k1:val tm (.t 1)=v)(k2:val tm (.t 2)=vm)(k7:val tm (.t 7)= .int .i64 S)(k9:val tm (.t 9)= .sl al 0 w.length 1)(k11:val tm (.t 11)= .int .i64 T)
  (hS:iC 1 h v w.length (w.map (AV.int .i64))) (hw:∀k,k<w.length→w.getD k 0=(W k:Int)) (hn:w.length≤12) (G:aK h hp) (A:Rw hp al w.length sh) (hT:T≤100000) (hW:∀k,k<w.length→W k≤100000) (hSb:S≤1200000)
  (le:∀k,k<w.length→sh k≤T) (near:∀k,k<w.length→T*W k<sh k*S+S∧sh k*S<T*W k+S) (mono:∀i k,i<w.length→k<w.length→W k<W i→sh k≤sh i) (sum:fe sh w.length=T)
  (hk:∀fE hp',val fE (.t 0)= .int .i64 T→val fE (.t 2)=vm→val fE (.t 11)= .int .i64 0→aK h hp'→Q .fW ⟨fE,hp'⟩):Wp EL U7 ⟨tm,hp⟩ Q:=by
 rw[show U7= .seq _ (.block 2 (.loop (.seq _ (.seq _ (.seq (.block 3 (.seq _ (.seq _ (.seq Qg _)))) _))))) from rfl];repeat'(with_reducible first|simp(disch:=try exact ab) only[go_sem,seval,k0,k1,k2,k7,k9,k11]|(apply ai.i<;>intro hc))
 refine Wp.bD (fun mm s=>∃(i d:Nat),val s.tm (.t 0)= .int .i64 T∧val s.tm (.t 1)=v∧val s.tm (.t 2)=vm∧val s.tm (.t 7)= .int .i64 S∧val s.tm (.t 9)= .sl al 0 w.length 1∧val s.tm (.t 11)= .int .i64 d∧val s.tm (.t 79)= .int .i64 w.length∧val s.tm (.t 80)= .int .i64 i∧
  aK h s.hp∧Rw s.hp al w.length sh∧d+fe sh i=T∧i≤w.length∧w.length-i=mm) (n:=w.length) ?_ ?_
 ·exact⟨0,T,by simp(disch:=try exact ab) only[go_sem,seval,k0],by simp(disch:=try exact ab) only[go_sem,seval,k1],by simp(disch:=try exact ab) only[go_sem,seval,k2],by simp(disch:=try exact ab) only[go_sem,seval,k7],by simp(disch:=try exact ab) only[go_sem,seval,k9],by simp(disch:=try exact ab) only[go_sem,seval,k11],aL,by(simp(disch:=try exact ab) only[go_sem,seval])<;>rfl,G,A,rfl,aE _,rfl⟩
 ·clear k0 k1 k2 k7 k9 k11 G A;rintro mm ⟨tm,hp⟩ ⟨i,d,k0,k1,k2,k7,k9,k11,AO,AN,G,A,hd,hle,rfl⟩;simp only at k0 k1 k2 k7 k9 k11 AO AN G A;by_cases hlt:i<w.length
  ·have hlt':(i:Int)<w.length:=by omega
   have hlt1:i+1≤w.length:=hlt;have hSg:=hS.aO G;have adg:=hSg.rz.iZ;have ldi:=iC.Nz hSg hlt;rw[hw i hlt]at ldi;have oldv:=iC.KF hSg (by omega);have la:=Rw.ld A hlt;have olda:=Rw.old A;have h1:=le i hlt;obtain⟨h2,h3⟩:=near i hlt;have NL:fe sh (i+1)=fe sh i+sh i:=rfl;have hmon:=qm (d:=sh) hlt1;have p1:sh i*S≤100000*1200000:=eH (by omega) hSb;have p2:T*W i≤100000*100000:=eH hT (hW i hlt)
   have em1:(sh i:Int)*(S:Int)=((sh i*S:Nat):Int):=(bT _ _).symm;have em2:(T:Int)*(W i:Int)=((T*W i:Nat):Int):=(bT _ _).symm;generalize sh i*S=P1 at *
   generalize T*W i=P2 at *
   have c1:¬(sh i:Int)<0:=by omega
   have c2:¬(T:Int)<sh i:=by omega
   have c3:¬(P1:Int)≤(P2:Int)-S:=by omega
   have c4:¬(P2:Int)+S≤(P1:Int):=by omega
   repeat'(with_reducible first|simp(disch:=try exact ab) only[go_sem,seval,k0,k1,k2,k7,k9,k11,AO,AN,hlt',adg,ldi,oldv,la,olda,em1,em2,c1,c2,c3,c4]|(apply ai.i<;>intro hc))
   refine Pt (T:=T) (v:=v) (vm:=vm) (S:=S) (al:=al) (d:=d) (i:=i) (w:=w) (by simp(disch:=try exact ab) only[go_sem,seval,k0]) (by simp(disch:=try exact ab) only[go_sem,seval,k1]) (by simp(disch:=try exact ab) only[go_sem,seval,k2]) (by simp(disch:=try exact ab) only[go_sem,seval,k7]) (by simp(disch:=try exact ab) only[go_sem,seval,k9]) (by simp(disch:=try exact ab) only[go_sem,seval,k11]) aL (by simp(disch:=try exact ab) only[go_sem,seval,AO]) (by simp(disch:=try exact ab) only[go_sem,seval,AN]) hS hw hn G A hlt mono fun fE hp' k0 k1 k2 k7 k9 k11 k12 AO AN G A=>?_
   have la:=Rw.ld A hlt;have e9:(d:Int)-(sh i:Int)=((d-sh i:Nat):Int):=by omega
   repeat'(with_reducible first|simp(disch:=try exact ab) only[go_sem,seval,k0,k1,k2,k7,k9,k11,k12,AO,AN,hlt',la,e9]|(apply ai.i<;>intro hc))
   exact⟨_,by omega,i+1,d-sh i,rfl,rfl,G,A,by omega,hlt,rfl⟩
  ·have hlt':¬(i:Int)<w.length:=by omega
   obtain rfl:i=w.length:=by omega
   obtain rfl:d=0:=by omega
   repeat'(with_reducible first|simp(disch:=try exact ab) only[go_sem,seval,k0,k1,k2,k7,k9,k11,AO,AN,hlt']|(apply ai.i<;>intro hc))
   exact hk _ _ (by simp(disch:=try exact ab) only[go_sem,seval,k0]) (by simp(disch:=try exact ab) only[go_sem,seval,k2]) (by(simp(disch:=try exact ab) only[go_sem,seval,k11])<;>rfl) G
end
end
end Go.Ae
namespace Go.Ae
open Bg N Go.Proofs Gj So
noncomputable section
theorem Ti {s:List UInt8}{d:Nat}(hd:1≤d)(h:zJ s d=true):s.length≤2*d+2∧fj s=0∧Db d (tg s):=by
 unfold zJ at h;simp only[Bool.and_eq_true,decide_eq_true_eq]at h;obtain⟨h1,h2,h3,h4⟩:=h;refine⟨h1,h2,?_⟩;obtain⟨t,_⟩:=lM h2;rw[t,KJ,LU]at h3;rw[t,Lq]at h4;exact⟨(jK hd).1 h3,(jK hd).1 h4⟩
section
variable {h h' h0 h1 hp:Hp}{K:AV→Hp→Prop}{tm:Ae.T AV}{v va vb vw vm s vx:AV}{a r tt:Rat}{x y:Fc}{p n z i j k f c q d N S al:Nat}{T:Int}{t t':Nat→Nat}{M E:Mt}{e D W sh:Nat→Nat}{o:Option di}{Q:Ex→St→Prop}{w:List Int}{b l2:List (List UInt8)}{m:List (List (List UInt8))}{X:Nat→Rat}
theorem Sw.row (S:Sw h q n X):js h (.sl q 0 n 1) ((fg n).map fun k=>bU (X k)):=by
 obtain⟨st,hg,h1,h2⟩:=S;refine .inl ⟨by simp,.inr ⟨q,true,st,by simp,?_,h1,h2⟩⟩;rw[hg,AK];rfl
theorem Eo (hk:k<n):kh ((fg n).map fun k=>bU (X k)) k=bU (X k):=by
 rw[kh,aR,bZ,im hk];rfl
theorem Ps (k2:val tm (.t 2)=vm)(mI:val tm (.t 20)=vb)(ug:val tm (.t 21)=vx)(G:aK h hp)(o:kN h vm m)(ob:js h vb b)(ox:js hp vx l2)(hl2:l2.length=m.length)(hb:b.length=m.length)(hn:m.length≤20)
  (hm:∀i,i<m.length→(jw m i).length=m.length) (hv:∀i,i<m.length→∀k,k<m.length→kh (jw m i) k=bU (vM m b i k)∧Br 1 (vM m b i k)) (hr:∀i,i<m.length→kh b i=bU (vM m b i m.length)) (hx:∀k,k<m.length→kh l2 k=bU (X k)∧Br 67 (X k))
  (sol:∀i,i<m.length→sm (fun k=>vM m b i k*X k) m.length=vM m b i m.length)
  (hk:∀fE hp',aK h hp'→Q .fW ⟨fE,hp'⟩):Wp EL XX ⟨tm,hp⟩ Q:=by
 rw[show XX= .seq _ (.block 8 (.loop _)) from rfl];obtain⟨vs,rz⟩:=o.rz;have ln:=rz.len;have ad:=rz.iZ;have adb:=ob.rz.iZ;rw[hb]at adb;repeat'(with_reducible first|simp(disch:=try exact ab) only[go_sem,seval,k2,mI,ug,ln]|(apply ai.i<;>intro hc))
 refine Wp.bD (fun mm s=>∃(i:Nat),val s.tm (.t 2)=vm∧val s.tm (.t 20)=vb∧val s.tm (.t 21)=vx∧val s.tm (.t 255)= .int .i64 m.length∧val s.tm (.t 256)= .int .i64 i∧
  aK h s.hp∧js s.hp vx l2∧i≤m.length∧m.length-i=mm) (n:=m.length) ?_ ?_
 ·exact⟨0,by simp(disch:=try exact ab) only[go_sem,seval,k2],by simp(disch:=try exact ab) only[go_sem,seval,mI],by simp(disch:=try exact ab) only[go_sem,seval,ug],by simp(disch:=try exact ab) only[go_sem,seval,ln],by(simp(disch:=try exact ab) only[go_sem,seval])<;>rfl,G,ox,aE _,rfl⟩
 ·clear k2 mI ug G ox;rintro mm ⟨tm,hp⟩ ⟨i,k2,mI,ug,Px,Pw,G,ox,hle,rfl⟩;simp only at k2 mI ug Px Pw G ox;by_cases hlt:i<m.length
  ·have hlt':(i:Int)<m.length:=by omega
   have hlt1:i+1≤m.length:=hlt;have og:=o.aO G;have bg:=ob.aO G;obtain⟨u,ou,ld⟩:=og.ld hlt;have oldm:=og.old (by omega);have ldb:=bg.ld (show i<b.length by omega);rw[hr i hlt]at ldb;have oldb:=bg.old (by omega);have SY:=bg.lt (by omega)
   have f57:=d57 (l:=jw m i) (A:=vM m b i) (X:=X) ou ox (hm i hlt) hl2 (fun k hk=>(hv i hlt k hk).1) (fun k hk=>(hx k hk).1) (fun k hk=>(hv i hlt k hk).2) (fun k hk=>(hx k hk).2) hn;rw[sol i hlt]at f57;repeat'(with_reducible first|simp(disch:=try exact ab) only[go_sem,seval,k2,mI,ug,Px,Pw,ad,adb,hlt',ld,ldb,oldm,oldb]|(refine Gv.wp (f57) fun _ _ _ _=>?_)|(apply ai.i<;>intro hc))
   exact⟨_,by omega,i+1,rfl,G.trans aS,ox.aO aS,hlt,rfl⟩
  ·have hlt':¬(i:Int)<m.length:=by omega
   repeat'(with_reducible first|simp(disch:=try exact ab) only[go_sem,seval,k2,mI,ug,Px,Pw,hlt']|(apply ai.i<;>intro hc))
   exact hk _ _ G
end
end
end Go.Ae
namespace Go.Ae
open Bg N Go.Proofs Gj So
noncomputable section
section
variable {h h' h0 h1 hp:Hp}{K:AV→Hp→Prop}{tm:Ae.T AV}{v va vb vw vm s vx:AV}{a r tt:Rat}{x y:Fc}{p n z i j k f c q d N S al:Nat}{T:Int}{t t':Nat→Nat}{M E:Mt}{e D W sh:Nat→Nat}{o:Option di}{Q:Ex→St→Prop}{w:List Int}{b l2:List (List UInt8)}{m:List (List (List UInt8))}{X:Nat→Rat}
theorem Eg (h0:nF m b=0):0<m.length∧m.length≤24∧(∀i,i<m.length→(jw m i).length=m.length∧∀k,k<m.length→fj (kh (jw m i) k)=0)∧b.length=m.length∧∀i,i<m.length→fj (kh b i)=0:=by
 unfold nF at h0;by_cases c0:m.length=0
 ·rw[if_pos c0]at h0;omega
 rw[if_neg c0]at h0;by_cases c1:24<m.length
 ·rw[if_pos c1]at h0;omega
 rw[if_neg c1]at h0;by_cases c2:sy (iO m) m.length 0=0
 ·rw [if_neg (fun e=>e c2)]at h0;by_cases c3:b.length=m.length
  ·rw[if_neg (fun e=>e c3)]at h0;refine⟨by omega,by omega,fun i hi=>?_,c3,fun i hi=>oK h0 i (by omega)⟩;have:=tG c2 i (aE _) (by omega);unfold iO at this;by_cases c4:(jw m i).length=m.length
   ·rw[if_neg (fun e=>e c4)]at this;exact⟨c4,fun k hk=>oK this k (by omega)⟩
   ·rw[if_pos c4]at this;omega
  ·rw[if_pos c3]at h0;omega
 ·rw[if_pos c2]at h0;exact absurd h0 c2
theorem Tn {n:Nat}(h0:0<n)(h:n≤4):eb (3*(n+1)+3) n≤600:=by
 obtain rfl|rfl|rfl|rfl:n=1∨n=2∨n=3∨n=4:=by omega
 all_goals decide
theorem C8 {f:Nat→Int}:∀{k i:Nat},(∀j,i≤j→j<i+k→f j=0)→sy f k i=0
 |0,_,_=>rfl
 | k+1,i,h=>by
  rw[sy,if_neg (fun e=>e (h i (ac _) (by omega)))];exact C8 fun j h1 h2=>h j (by omega) (by omega)
theorem Pf {r:Rat}(h:Db 600 r):qd r=true:=decide_eq_true h
theorem t8b (k2:val tm (.t 2)=vm)(G:aK h hp)(o:kN h vm m):Wp EL U6 ⟨tm,hp⟩ (eT [.tmp 6] fun v' h'=>v'= .bool true∧aK h h'):=by
 rw[show U6= .seq _ (.seq _ (.seq _ (.seq _ (.seq _ (.seq _ (.seq XX _)))))) from rfl];obtain⟨vs,rz⟩:=o.rz;have ln:=rz.len;have ad:=rz.iZ;by_cases c0:m.length=0
 ·have c0':(m.length:Int)=0:=by omega
  repeat'(with_reducible first|simp(disch:=try exact ab) only[go_sem,seval,k2,ln,c0']|(apply ai.i<;>intro hc))
  first|exact G|exact⟨rfl,G⟩
 have c0':¬(m.length:Int)=0:=by omega
 have f35:=fun h' (g:aK h h')=>y3 (r35 (o.aO g) (r:=4) (c:=4) (d:=3) (by decide) (by decide) (by decide))
 by_cases c1:BT m 4 4 3
 ·rw [decide_eq_true c1]at f35;have f55:=fun h' (g:aK h h')=>y3 (r55 (o.aO g))
  by_cases c2:(jw m 0).length=m.length
  ·have kq:((jw m 0).length:Int)=m.length:=by omega
   have hm:∀i,i<m.length→(jw m i).length=m.length:=fun i hi=>((c1.2 i hi).1).trans c2
   have hf:∀i,i<m.length→∀k,k<m.length→(kh (jw m i) k).length≤8∧Db 3 (tg (kh (jw m i) k)):=fun i hi k hk=>by
    obtain⟨l1,_,l3⟩:=Ti (by decide) ((c1.2 i hi).2.2 k (by rw[hm i hi];exact hk));exact⟨l1,l3⟩
   have Xj:m.length≤4:=c1.1;have uj:m.length-1<m.length:=by omega
   have et:((m.length:Int)-1).toNat=m.length-1:=by omega
   have g1:(0:Int)≤(m.length:Int)-1:=by omega
   have g2:(m.length:Int)-1<m.length:=by omega
   obtain⟨b,hb⟩:∃b,jw m (m.length-1)=b:=⟨_,rfl⟩
   have hbl:b.length=m.length:=by rw[←hb];exact hm _ uj
   have hbf:∀k,k<m.length→(kh b k).length≤8∧Db 3 (tg (kh b k)):=fun k hk=>by rw[←hb];exact hf _ uj k hk
   have H8:∀i,i<m.length→(jw m i).length≤1000000∧∀j,j<(jw m i).length→(kh (jw m i) j).length≤1000000:=fun i hi=>by
    rw[hm i hi];exact⟨by omega,fun j hj=>by have:=(hf i hi j hj).1;omega⟩
   have hbb:b.length≤1000000∧∀j,j<b.length→(kh b j).length≤1000000:=by
    rw[hbl];exact⟨by omega,fun j hj=>by have:=(hbf j hj).1;omega⟩
   have sD:Mb (3*(m.length+1)+3) m.length (m.length+1) (vM m b):=fun i hi=>Rb.of (fun k hk=>by
    by_cases ck:k=m.length
    ·subst ck;rw[FT];exact(hbf i hi).2
    ·rw[MZ ck];exact(hf i hi k (by omega)).2) (by decide)
   have heb:=Tn (by omega) Xj
   have two:∀hx,aK h hx→∃u,js hx u b∧∀h' K,fB false 1 (m.length-1) (hx.get vm.tok) h' K↔K u h':=fun hx g=>by
    obtain⟨u,ou,ld⟩:=(o.aO g).ld uj;exact⟨u,by rw[←hb];exact ou,ld⟩
   obtain⟨ub,oub,ldb⟩:=two hp G
   have hvt:vm.tok<hp.next:=by
    obtain⟨own,st,hg,ht,hst⟩:=(o.aO G).choose_spec.1.rz.get c0;exact ht
   repeat'(with_reducible first|simp(disch:=try exact ab) only[go_sem,seval,k2,ln,c0',kq]|(refine Gv.wp (f35 _ (G.trans aS)) fun _ _ _ _=>?_)|(refine Gv.wp (f55 _ (G.trans aS)) fun _ _ _ _=>?_)|(apply ai.i<;>intro hc))
   have f34:=fun h' (g:aK hp h')=>y3 (r34 (o.aO (G.trans g)) (oub.aO g) (fun i hi=>(H8 i hi).2) hbb.2)
   by_cases c3:nF m b=0
   ·rw [c3]at f34;repeat'(with_reducible first|simp(disch:=try exact ab) only[go_sem,seval,k2,ln,ad,et,g1,g2,ldb]|(refine Gv.wp (f34 _ aS) fun _ _ _ _=>?_)|(apply ai.i<;>intro hc))
    refine Gp.wp (yp0 (c37 (o.aO (G.trans aS)) (oub.aO aS) H8 hbb fun _=>⟨_,sD,by omega⟩)) fun v1 h1 a1 b1 u1 hor=>?_
    rcases hor with⟨e,_⟩|⟨_,hor⟩
    ·exact absurd c3 e
    obtain⟨z1,z2,z3,z4,z5⟩:=Eg c3;rcases hor with⟨DA,rfl⟩|⟨E,DA,hor⟩
    ·repeat'(with_reducible first|simp(disch:=try exact ab) only[go_sem,seval,k2]|(apply ai.i<;>intro hc))
     exact G.trans aS
    ·have hE:=DJ sD (eK _) (ac _) DA;have hok:∀i,i<m.length→qd (E i m.length)=true:=fun i hi=>Pf (((hE i hi).db (eQ _)).mono heb)
     rcases hor with⟨e,_⟩|⟨_,q,rfl,S⟩
     ·exact absurd hok e
     have ox:=Sw.row S;have lx:((fg m.length).map fun k=>bU (E k m.length)).length=m.length:=by simp
     have hx:∀k,k<m.length→kh ((fg m.length).map fun k=>bU (E k m.length)) k=bU (E k m.length)∧Br 67 (E k m.length):=fun k hk=>⟨Eo (X:=fun k=>E k m.length) hk,Uz (hok k hk)⟩
     have rx:nq ((fg m.length).map fun k=>bU (E k m.length))=0:=by
      refine C8 fun j _ hj=>?_
      rw[lx]at hj;rw[(hx j (by omega)).1,Cf,if_pos (hok j (by omega))]
     have f56:=fun h' (g:aK _ h')=>y3 (VO (ox.aO g) (by rw[lx];omega) (fun i hi=>by
      rw[lx]at hi;rw[(hx i hi).1];have:=(sK (hx i hi).2.1 (hx i hi).2.2).1;omega))
     rw[rx]at f56;repeat'(with_reducible first|simp(disch:=try exact ab) only[go_sem,seval,k2,ln,lx]|(refine Gv.wp (f56 _ aS) fun _ _ _ _=>?_)|(apply ai.i<;>intro hc))
     refine Ps (vm:=vm) (vb:=ub) (vx:= .sl q 0 m.length 1) (b:=b) (h:=hp) (X:=fun k=>E k m.length) (by simp(disch:=try exact ab) only[go_sem,seval,k2]) aL aL aS (o.aO G) oub (ox.aO aS) lx hbl (by omega) hm (fun i hi k hk=>?_) (fun i hi=>?_) hx (solved DA) fun fE hp' G'=>?_
     ·rw[MZ (by omega)];exact⟨(lM ((z3 i hi).2 k hk)).1,(hf i hi k hk).2.br (by decide)⟩
     ·rw[FT];exact(lM (z5 i hi)).1
     ·repeat'(with_reducible first|simp(disch:=try exact ab) only[go_sem,seval]|(apply ai.i<;>intro hc))
      first|exact G.trans G'|exact⟨rfl,G.trans G'⟩
   ·repeat'(with_reducible first|simp(disch:=try exact ab) only[go_sem,seval,k2,ln,ad,et,g1,g2,ldb,c3]|(refine Gv.wp (f34 _ aS) fun _ _ _ _=>?_)|(apply ai.i<;>intro hc))
    first|exact G.trans aS|exact⟨rfl,G.trans aS⟩
  ·have kq:¬((jw m 0).length:Int)=m.length:=by omega
   repeat'(with_reducible first|simp(disch:=try exact ab) only[go_sem,seval,k2,ln,c0',kq]|(refine Gv.wp (f35 _ (G.trans aS)) fun _ _ _ _=>?_)|(refine Gv.wp (f55 _ (G.trans aS)) fun _ _ _ _=>?_)|(apply ai.i<;>intro hc))
   first|exact G.trans aS|exact⟨rfl,G.trans aS⟩
 ·rw[decide_eq_false c1]at f35;repeat'(with_reducible first|simp(disch:=try exact ab) only[go_sem,seval,k2,ln,c0']|(refine Gv.wp (f35 _ (G.trans aS)) fun _ _ _ _=>?_)|(apply ai.i<;>intro hc))
  first|exact G.trans aS|exact⟨rfl,G.trans aS⟩
theorem t8m {T:Nat}(k0:val tm (.t 0)= .int .i64 T)(k2:val tm (.t 2)=vm)(k11:val tm (.t 11)= .int .i64 0)(hT:T≤100000)(G:aK h hp)(o:kN h vm m):Wp EL TC ⟨tm,hp⟩ (eT [.tmp 6] fun v' h'=>v'= .bool true∧aK h h'):=by
 rw[show TC= .seq _ (.seq _ (.seq _ (.seq _ (.seq XY U6)))) from rfl];obtain⟨N,hN⟩:∃N,T%41=N:=⟨_,rfl⟩
 have hN40:N≤40:=by omega
 have em:(T:Int)%41=(N:Int):=by omega
 have e1:(1:Int)+(T:Int)=((1+T:Nat):Int):=by omega
 repeat'(with_reducible first|simp(disch:=try exact ab) only[go_sem,seval,k0,k2,k11,ot,em,e1]|(apply ai.i<;>intro hc))
 refine Gp.wp (yp2 (c29 (s:=1+T) (n:=N) (by omega) (by omega) (by omega))) fun v1 h1 a1 b1 u1 ⟨a,hv,A⟩=>?_
 subst hv;have ha:=bv.lt A;repeat'(with_reducible first|simp(disch:=try exact ab) only[go_sem,seval,k0,k2,k11]|(apply ai.i<;>intro hc))
 refine(lI.int rfl (by omega)).2 ?_;rw[GW];repeat'(with_reducible first|simp(disch:=try exact ab) only[go_sem,seval,k0,k2,k11]|(apply ai.i<;>intro hc))
 refine Pr (vm:=vm) (N:=N) (d:=a) (q:=hp.next+a1) (D:=rI (1+T) N (N-1)) (h:=h) (by simp(disch:=try exact ab) only[go_sem,seval,k2]) aL aL aL (G.trans aS) (bv.aO A aS) ⟨_,Hp.sO nL,by(show _<_;exact nL),ac _⟩ (by have:a<(hp.ov h1 u1).next:=ha;rw[Hp.iH]at this;omega) (by have:=G.next;omega) hN40 (fun i hi=>IS _ (by omega) i hi) (DL _ (by omega)) fun fE hp' k2 G'=>?_
 exact t8b k2 G' o
theorem Wf (hS:iC 1 h v w.length (w.map (AV.int .i64)))(o:kN h vm m):Gv EL 8 [.int .i64 T,v,vm] h (.bool true):=by
 refine Gv.of (ae.fn (fn:=He.a8) rfl rfl rfl ?_);rw[show He.a8.code= .seq _ (.seq _ (.seq _ (.seq XZ (.seq _ (.seq _ (.seq _ (.seq U7 TC))))))) from rfl,show He.a8.res=[.tmp 6] from rfl];have d17:∀{h:Hp} {K:AV→Hp→Prop},ae EL 17 [] h K↔K (.bool true) h:=fun{h K}=>up XQ fun K=>QZ fun K=>c17
 have ln:=hS.rz.len;by_cases c1:T<0
 ·repeat'(with_reducible first|simp(disch:=try exact ab) only[go_sem,seval,d17,c1]|(apply ai.i<;>intro hc))
  all_goals first|exact aS|exact⟨rfl,aS⟩
 by_cases c2:100000<T
 ·repeat'(with_reducible first|simp(disch:=try exact ab) only[go_sem,seval,d17,c1,c2]|(apply ai.i<;>intro hc))
  all_goals first|exact aS|exact⟨rfl,aS⟩
 by_cases c3:12<w.length
 ·have c3':(12:Int)<w.length:=by omega
  repeat'(with_reducible first|simp(disch:=try exact ab) only[go_sem,seval,d17,c1,c2,ln,c3']|(apply ai.i<;>intro hc))
  all_goals first|exact aS|exact⟨rfl,aS⟩
 have c3':¬(12:Int)<w.length:=by omega
 have f26:=fun h' (g:aK h h')=>y3 (r26 (hS.aO g))
 by_cases c4:nB w=0
 ·rw[c4]at f26;obtain⟨n0,n1,n2,_⟩:=qX c4;obtain⟨w1,w2⟩:=Ng c4;have cx:¬lG T:=by unfold lG;omega
  obtain⟨T,rfl⟩:∃M:Nat,T=M:=⟨T.toNat,by omega⟩
  repeat'(with_reducible first|simp(disch:=try exact ab) only[go_sem,seval,d17,c1,c2,ln,c3']|(refine Gv.wp (f26 _ aS) fun _ _ _ _=>?_)|(apply ai.i<;>intro hc))
  refine Sm (T:=T) (v:=v) (vm:=vm) (w:=w) (h:=h) aL aL aL aL hS w1 (by omega) aS (fun VC hp1 k0 k1 k2 k7 hW G=>?_) (fun VC hp1 k6 G=>?_)
  ·repeat'(with_reducible first|simp(disch:=try exact ab) only[go_sem,seval,k0,k1,k2,k7]|(apply ai.i<;>intro hc))
   refine Gp.wp (yp2 (c24 (T:=(T:Int)) (hS.aO G) (J8 cx) c4)) fun v1 h1 a1 b1 u1 ⟨a,e,hv,A,g⟩=>?_
   subst hv;rw[fm]at A g;obtain⟨S,hSm⟩:∃S,fe (wN w) w.length=S:=⟨_,rfl⟩
   rw[hSm]at A g w2 k7;have hsb:S≤w.length*100000:=by rw[←hSm];exact nG hW
   have hsb2:w.length*100000≤12*100000:=aH _ (by omega);repeat'(with_reducible first|simp(disch:=try exact ab) only[go_sem,seval,k0,k1,k2,k7,ln]|(apply ai.i<;>intro hc))
   refine HM (T:=T) (v:=v) (vm:=vm) (S:=S) (al:=a) (w:=w) (W:=wN w) (sh:=shr T S (wN w) e w.length) (h:=h) (by simp(disch:=try exact ab) only[go_sem,seval,k0]) (by simp(disch:=try exact ab) only[go_sem,seval,k1]) (by simp(disch:=try exact ab) only[go_sem,seval,k2]) (by simp(disch:=try exact ab) only[go_sem,seval,k7]) aL aL hS (fun k hk=>(w1 k hk).1) (by omega) (G.trans aS) A (by omega) hW (by omega) (fun k hk=>OP hSm w2 n0 g hk) (fun k hk=>GA hSm w2 n0 g hk) (fun i k hi hk=>GB hSm w2 n0 g hi hk) (CZ hSm w2 n0 g) fun tm2 hp2 k0 k2 k11 G2=>?_
   exact t8m k0 k2 k11 (by omega) G2 o
  ·repeat'(with_reducible first|simp(disch:=try exact ab) only[go_sem,seval,k6]|(apply ai.i<;>intro hc))
   first|exact G|exact⟨rfl,G⟩
 ·obtain⟨y,hy⟩:∃y,nB w=y:=⟨_,rfl⟩
  simp only[hy]at f26 c4;repeat'(with_reducible first|simp(disch:=try exact ab) only[go_sem,seval,d17,c1,c2,ln,c3',c4]|(refine Gv.wp (f26 _ aS) fun _ _ _ _=>?_)|(apply ai.i<;>intro hc))
  all_goals first|exact aS|exact⟨rfl,aS⟩
end
end
end Go.Ae
