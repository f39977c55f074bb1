/- Tickets: what the program reads. -/
import Derived.Test.YtdaggbpeoldmeaaGreatDoorM6
import Derived.Test.YtdaggbpeoldmeaaGreatDoorM5
import Derived.Test.YtdaggbpeoldmeaaGreatDoorM4
set_option linter.unusedVariables false
set_option linter.unusedSimpArgs false
set_option maxRecDepth 100000
namespace Go.Ae
open N Go.Proofs
def Tk.e (k:Tk):Int:=chkE k.d k.n k.p k.t k.z
def headD (l:List Tk):List UInt8:=match l with|[]=>[]|k::_=>k.d
section
variable {h:Hp} {K:AV→Hp→Prop}
theorem f223 {s:List UInt8} (hs:s.length≤9223372036854775807):CallWp E2 223 [.str s,.str [48,49,50,51,52,53,54,55,56,57]] h K↔K (.str (Lib.trimS s L.tenDigits)) h:=by
 rw[CallWp.prim_iff (p:=L.p223) rfl rfl]
 have:L.p223 [.str s,.str [48,49,50,51,52,53,54,55,56,57]] h=some (.str (Lib.trimS s L.tenDigits),h):=if_pos ⟨rfl,hs⟩
 rw[this];exact Iff.rfl
theorem f224 {s:List UInt8} (hd:allDig s=true) (h0:¬s=[]) (hs:s.length≤18):CallWp E2 224 [.str s] h K↔K (.tup [.int .i64 (decV s),.nili]) h:=by
 rw[CallWp.prim_iff (p:=L.p224) rfl rfl]
 have:L.p224 [.str s] h=some (.tup [.int .i64 (decV s),.nili],h):=by
  simp only[L.p224,if_pos hs,atoi_eq hd h0]
 rw[this];exact Iff.rfl
theorem f189 {s:List UInt8} (hs:s.length≤9223372036854775807):CallWp E2 189 [.str s] h K↔K (.bool (isDec s)) h:=by
 refine CallWp.iff_of (CallWp.fn (fn:=C.a189) rfl rfl rfl ?_)
 unfold C.a189
 cases s with
 | nil=>
  repeat' (with_reducible first|simp(disch:=first|exact okD|fail) only[go_sem,seval,f223,trim_nil]|(apply Spl.i<;>intro hc))
  all_goals simp[isDec]
 | cons b r=>
  have h0:¬(b::r)=[]:=by simp
  have hb:(b.toNat:Int)=48↔b=48:=by
   constructor
   ·intro e;exact UInt8.toNat_inj.1 (by simpa using Int.ofNat.inj e)
   ·rintro rfl;rfl
  repeat' (with_reducible first|simp(disch:=first|exact okD|fail) only[go_sem,seval,f223,trim_nil,Int.toNat_zero,List.getD_cons_zero,hb]|(apply Spl.i<;>intro hc))
  all_goals simp_all [isDec]
theorem f226 {s:List UInt8} (hs:s.length≤9223372036854775807):CallWp E2 226 [.str s] h K↔K (.tup [.int .i64 (intV s).1,.bool (intV s).2]) h:=by
 refine CallWp.iff_of (CallWp.fn (fn:=C.a226) rfl rfl rfl ?_)
 unfold C.a226
 have key:isDec s=true→¬s=[]∧allDig s=true:=by
  unfold isDec;simp only[Bool.and_eq_true,decide_eq_true_eq];exact fun e=>e.1
 cases hd:isDec s with
 | true=>
  obtain⟨h0,h1⟩:=key hd
  repeat' (with_reducible first|simp(disch:=first|exact okD|fail) only[go_sem,seval,f189,hd,f224]|(apply Spl.i<;>intro hc))
  ·simp[intV,hd,show ¬s.length≤9 by omega]
  ·simp[intV,hd,show s.length≤9 by omega]
 | false=>
  repeat' (with_reducible first|simp(disch:=first|exact okD|fail) only[go_sem,seval,f189,hd,f224]|(apply Spl.i<;>intro hc))
  all_goals simp[intV,hd]
theorem c188 {s p:List UInt8}:CallWp E2 188 [.str s,.str p] h K↔K (.tup [.str (Lib.trimPrefix s p),.bool (Lib.hasPrefix s p)]) h:=by
 rw[CallWp.prim_iff (p:=L.p188) rfl rfl];exact Iff.rfl
theorem c147 {s p:List UInt8} (hs:s.length<4294967281):CallWp E2 147 [.str s,.str p] h K↔K (.tup [.str (Lib.cut s p).1,.str (Lib.cut s p).2.1,.bool (Lib.cut s p).2.2]) h:=by
 rw[CallWp.prim_iff (p:=L.p147) rfl rfl]
 have:L.p147 [.str s,.str p] h=some (.tup [.str (Lib.cut s p).1,.str (Lib.cut s p).2.1,.bool (Lib.cut s p).2.2],h):=if_pos hs
 rw[this];exact Iff.rfl
end
end Go.Ae
set_option linter.unusedVariables false
set_option linter.unusedSimpArgs false
set_option maxRecDepth 100000
namespace Go.Ae
open N Go.Proofs
def Tk.s (k:Tk):List UInt8:=txtS k.d k.n k.p k.t k.z
section
variable {h:Hp} {K:AV→Hp→Prop}
end
end Go.Ae
set_option linter.unusedVariables false
set_option linter.unusedSimpArgs false
set_option maxRecDepth 100000
namespace Go.Ae
open N Go.Proofs
theorem index_none {c:UInt8}:∀{s:List UInt8},c∉s→Lib.index s [c]= -1:=by
 intro s h
 rw[Lib.index_one]
 induction s with
 |nil=>rfl
 | cons b l ih=>
  have h1:(b==c)=false:=beq_eq_false_iff_ne.2 (fun e=>h (by rw[e];simp))
  have:=ih (fun e=>h (List.mem_cons_of_mem _ e))
  simp only[Lib.indexByte,h1,this];rfl
theorem index_some {c:UInt8} {b:List UInt8}:∀{a:List UInt8},c∉a→Lib.index (a++c::b) [c]=a.length:=by
 intro a h
 rw[Lib.index_one]
 induction a with
 |nil=>simp[Lib.indexByte]
 | cons x l ih=>
  have h1:(x==c)=false:=beq_eq_false_iff_ne.2 (fun e=>h (by rw[e];simp))
  have:=ih (fun e=>h (List.mem_cons_of_mem _ e))
  have h2:((l.length:Int)== -1)=false:=beq_eq_false_iff_ne.2 (by omega)
  simp only[List.cons_append,Lib.indexByte,h1,this,h2]
  simp
end Go.Ae
set_option linter.unusedVariables false
set_option linter.unusedSimpArgs false
namespace Go.Ae
open N Go.Proofs
theorem cut_noneC {c:UInt8} {s:List UInt8} (h:c∉s):Lib.cut s [c]=(s,[],false):=by
 unfold Lib.cut;rw[index_none h,if_neg (by omega)]
theorem cut_someC {c:UInt8} {a b:List UInt8} (h:c∉a):Lib.cut (a++c::b) [c]=(a,b,true):=by
 unfold Lib.cut
 rw[index_some h,if_pos (by omega)]
 simp
end Go.Ae
set_option maxRecDepth 100000
namespace Go.Ae.T
open AOp Opd C
def tab:T AFn:= .nil
section
open Go.Proofs
theorem all:T.Forall Chk tab (fun n=>n):=trivial
theorem good (n:Nat) (a:AFn) (h:tab.get n=some a):chk Tryz.prog n=some a:=T.get_forall tab (fun n=>n) all n a h
end
end Go.Ae.T
set_option linter.unusedVariables false
set_option linter.unusedSimpArgs false
set_option maxRecDepth 100000
namespace Go.Ae
open N Go.Proofs
noncomputable def E5:Env:=E3.add T.tab
theorem ge5:Ge E2 E5:=ge3.trans (Ge.add _ _)
structure Rz (z:Nat) (h:Hp) (v:AV) (n:Nat) (cs:List AV):Prop where
 len:lenK .slice v=some (.int .i64 n)
 adr:∀(k:IntKind) (i:Int),0≤i∧i<n→iadrK z v (.int k i)=some (.ptr (v.tok) (i.toNat*z))
 get:n≠0→∃own st,h.get v.tok=some (.row cs own st)∧v.tok<h.next∧st≤h.clk
section
variable {h:Hp} {K:AV→Hp→Prop}
theorem u5 {f:Nat} {args:List AV} {h':Hp} {v:AV} (hc:∀K,CallWp E2 f args h K↔K v h'):CallWp E5 f args h K↔K v h':=up ge5 hc
theorem RowS.rz {z:Nat} {v:AV} {n:Nat} {cs:List AV} (s:RowS z h v n cs):Rz z h v n cs:=by
 obtain⟨hlen,⟨rfl,rfl⟩|⟨t,own,st,rfl,hg,ht,hst⟩⟩:=s
 ·exact⟨rfl,fun k i hi=>by omega,fun e=>absurd rfl e⟩
 ·refine⟨rfl,fun k i hi=>?_,fun _=>⟨own,st,hg,ht,hst⟩⟩
  rw[iadrK_sl hi,Nat.zero_add];rfl
end
end Go.Ae
set_option linter.unusedVariables false
set_option linter.unusedSimpArgs false
set_option maxRecDepth 100000
namespace Go.Ae
open N Go.Proofs
section
variable {h:Hp} {K:AV→Hp→Prop}
theorem RowS.ov {h h':Hp} {z k j n:Nat} {g:Grw h h' k j} {v:AV} {cs:List AV} (o:RowS z h v n cs):RowS z (h.ov h' g) v n cs:=o.grs ⟨k,j,g⟩
end
end Go.Ae
set_option linter.unusedVariables false
set_option linter.unusedSimpArgs false
namespace Go.Ae
open N Go.Proofs
theorem dg_nat (n:Nat):(dg n).toNat=48+n%10:=by
 unfold dg
 have h:48+n%10<256:=by omega
 rw[UInt8.toNat_ofNat']
 omega
theorem dig_dg (n:Nat):isDig (dg n)=true:=by
 unfold isDig;rw[dg_nat];simp;omega
theorem dV_dg (n:Nat):dV (dg n)=n%10:=by unfold dV;rw[dg_nat];omega
theorem decP_dig:∀(m n k:Nat),n+k=m→allDig (decP n k)=true:=by
 intro m
 induction m using Nat.strongRecOn with
 | _ m ih=>
  intro n k hm
  by_cases h:n=0∧k=0
  ·rw[h.1,h.2,decP_zero];rfl
  ·rw[decP_step h]
   have:=ih (n/10+(k-1)) (by omega) (n/10) (k-1) rfl
   unfold allDig at *
   rw[List.all_append,this];simp[dig_dg]
theorem decP_all (n k:Nat):allDig (decP n k)=true:=decP_dig _ n k rfl
theorem decF_append (l m:List UInt8) (n:Nat):decF n (l++m)=decF (decF n l) m:=by unfold decF;rw[List.foldl_append]
theorem decP_valA:∀(m n k:Nat),n+k=m→decV (decP n k)=n:=by
 intro m
 induction m using Nat.strongRecOn with
 | _ m ih=>
  intro n k hm
  by_cases h:n=0∧k=0
  ·rw[h.1,h.2,decP_zero];rfl
  ·rw[decP_step h]
   have:=ih (n/10+(k-1)) (by omega) (n/10) (k-1) rfl
   unfold decV at *
   rw[decF_append,this,decF_cons,decF_nil,dV_dg];omega
theorem decP_val (n k:Nat):decV (decP n k)=n:=decP_valA _ n k rfl
theorem decP_len':∀(k n:Nat),n<10^k→(decP n k).length=k
 | 0,n,h=>by
  have:n=0:=by simpa using h
  subst this;rw[decP_zero];rfl
 | k+1,n,h=>by
  rw[decP_step (by omega)]
  have:=decP_len' k (n/10) (by rw[Nat.pow_succ]at h;omega)
  simp[this]
theorem decP_one_small {n:Nat} (h:n<10):decP n 1=[dg n]:=by rw[decP_step (by omega),show n/10=0 by omega,decP_zero];rfl
theorem decP_one_big {n:Nat} (h:10≤n):decP n 1=decP (n/10) 1++[dg n]:=by rw[decP_step (by omega)];rw[show 1-1=0 from rfl,decP_01 (by omega)]
theorem decP_ne (n:Nat):decP n 1≠[]:=by rw[decP_step (by omega)];simp
theorem decP_head:∀(m n:Nat),n=m→0<n→(decP n 1).headD 0≠48:=by
 intro m
 induction m using Nat.strongRecOn with
 | _ m ih=>
  intro n hm hp
  by_cases h:n<10
  ·rw[decP_one_small h]
   simp only[List.headD_cons]
   intro e
   have:=congrArg UInt8.toNat e
   rw[dg_nat]at this
   have h48:(48:UInt8).toNat=48:=rfl
   omega
  ·rw[decP_one_big (by omega)]
   have h1:=ih (n/10) (by omega) (n/10) rfl (by omega)
   have h2:=decP_ne (n/10)
   cases hd:decP (n/10) 1 with
   |nil=>exact absurd hd h2
   |cons x l=>rw[hd]at h1;exact h1
theorem no_dig {l:List UInt8} {c:UInt8} (h:allDig l=true) (hc:isDig c=false):c∉l:=by
 intro hm
 have:=List.all_eq_true.1 h c hm
 rw[hc]at this;cases this
theorem decP_no {n k:Nat} {c:UInt8} (hc:isDig c=false):c∉decP n k:=no_dig (decP_all n k) hc
theorem i32:isDig 32=false:=by decide
end Go.Ae
set_option linter.unusedVariables false
set_option linter.unusedSimpArgs false
set_option maxRecDepth 100000
set_option maxHeartbeats 1000000
namespace Go.Ae
open Bg N Go.Proofs
noncomputable section
theorem dg_mod {n m:Nat} (h:n%10=m%10):dg n=dg m:=by
 have e:(dg n).toNat=(dg m).toNat:=by rw[dg_nat,dg_nat,h]
 exact UInt8.toNat_inj.1 e
theorem decP_split:∀(j q r:Nat),0<q→r<10^j→decP (q*10^j+r) 1=decP q 1++decP r j
 | 0,q,r,hq,hr=>by
  rw[Nat.pow_zero]at hr⊢
  obtain rfl:r=0:=by omega
  rw[decP_zero,Nat.mul_one,Nat.add_zero,List.append_nil]
 | j+1,q,r,hq,hr=>by
  have h10:q*10^(j+1)=q*10^j*10:=by rw[Nat.pow_succ,Nat.mul_assoc]
  have hp:0<q*10^j:=Nat.mul_pos hq (Nat.pow_pos (by decide))
  rw[Nat.pow_succ]at hr
  have hd:(q*10^(j+1)+r)/10=q*10^j+r/10:=by rw[h10];omega
  have hm:dg (q*10^(j+1)+r)=dg r:=dg_mod (by rw[h10];omega)
  rw[decP_step (by omega),hd,show 1-1=0 from rfl,decP_01 (by omega),decP_split j q (r/10) hq (by omega),hm,decP_step (n:=r) (k:=j+1) (by omega),Nat.add_sub_cancel,List.append_assoc]
def txtZ (z:Int):List UInt8:=if z<0 then 45::decP z.natAbs 1 else decP z.natAbs 1
section
variable {h h':Hp} {K:AV→Hp→Prop} {v w:AV} {z:Int}
theorem d181 (i:IsR h v z) (lz:Lr 400000 z):Gv E3 181 [v] h (.str (txtZ z)):=by
 obtain⟨w,rfl,o1,i⟩:=i.ex
 obtain⟨l,S,D,N,V⟩:=i.un
 have hl:=lz.len N V
 refine Gv.of (CallWp.fn (fn:=R.a181) rfl rfl rfl ?_)
 unfold R.a181
 have rd:=(S.grs (Grs.push (Grs.refl h) (f:=fun st=> .row [.bool (decide (z<0)),w] true st))).rd
 have ln:=rd.len
 by_cases h0:l=[]
 ·subst h0
  simp only[List.length_nil]at ln
  rw[vl_nil]at V
  obtain rfl:z=0:=by omega
  repeat' (with_reducible first|simp(disch:=first|exact okD|fail) only[go_sem,seval,o1,ln]|(apply Spl.i<;>intro hc))
  refine⟨by unfold txtZ;rw[if_neg (by omega)];rw[show(0:Int).natAbs=0 from rfl,show decP 0 1=[48] from by decide+kernel],?_⟩
  exact okG
 ·have hl0:l.length≠0:=by simpa using h0
  have hl0':¬(l.length:Int)=0:=by omega
  have ad:=rd.adr
  have ldt:=rd.load (l.length-1) (by omega)
  have i1:((l.length:Int)-1).toNat=l.length-1:=by omega
  have htd:=Dg.getD (B:=1000000000) (by decide) D (l.length-1)
  have htop:0<l.getD (l.length-1) 0:=by
   obtain⟨m,y,rfl⟩:=snoc_of h0
   have:=norm_snoc.1 N
   have e:(m++[y]).getD ((m++[y]).length-1) 0=y:=by simp[List.getD]
   omega
  have hv0:=vl_drop (B:=1000000000) (l:=l) (j:=l.length-1) (by omega)
  rw[show l.length-1+1=l.length by omega,List.drop_length,vl_nil,Nat.mul_zero,Nat.add_zero]at hv0
  have t1:=fun{h:Hp} {K:AV→Hp→Prop}=>u186_1 (h:=h) (K:=K) (n:=l.getD (l.length-1) 0) (by omega)
  repeat' (with_reducible first|simp(disch:=first|exact okD|fail) only[go_sem,seval,o1,ln,hl0',ad,i1,ldt,t1]|(apply Spl.i<;>intro hc))
  refine Wp.loopI (fun m s=>∃k:Nat,val s.tm (.t 1)= .ptr h.next 0∧val s.tm (.t 3)= .str (decP (vl 1000000000 (l.drop k)) 1)∧val s.tm (.t 4)= .int .i64 ((k:Int)-1)∧
   s.hp=(h.push fun st=> .row [.bool (decide (z<0)),w] true st)∧k<l.length∧0<vl 1000000000 (l.drop k)∧(decP (vl 1000000000 (l.drop k)) 1).length≤20+9*(l.length-k)∧k=m) (n:=l.length-1) ?_ ?_
  ·refine⟨l.length-1,by simp(disch:=first|exact okD|fail) only[go_sem,seval],by simp(disch:=first|exact okD|fail) only[go_sem,seval,hv0],?_,rfl,by omega,by omega,?_,rfl⟩
   ·simp(disch:=first|exact okD|fail) only[go_sem,seval]
    congr 1;omega
   ·rw[hv0]
    have:=decP_len (j:=9) (n:=l.getD (l.length-1) 0) (k:=1) (by omega)
    omega
  ·rintro m ⟨tm,hp⟩ ⟨k,k1,k3,k4,rfl,hk,hpos,hlen,rfl⟩
   simp only at k1 k3 k4
   rcases Nat.eq_zero_or_pos k with rfl|hk0
   ·have e0:((0:Nat):Int)-1= -1:=rfl
    rw[List.drop_zero,V]at k3
    rw[List.drop_zero,V]at hlen
    by_cases hz:z<0
    ·have et:txtZ z=45::decP z.natAbs 1:=if_pos hz
     repeat' (with_reducible first|simp(disch:=first|exact okD|fail) only[go_sem,seval,k1,k3,k4,e0,hz]|(apply Spl.i<;>intro hc))
     rw[et]
     refine⟨rfl,?_⟩
     exact okG
    ·have et:txtZ z=decP z.natAbs 1:=if_neg hz
     repeat' (with_reducible first|simp(disch:=first|exact okD|fail) only[go_sem,seval,k1,k3,k4,e0,hz]|(apply Spl.i<;>intro hc))
     rw[et]
     refine⟨rfl,?_⟩
     exact okG
   ·have e1:((k:Int)-1).toNat=k-1:=by omega
    have hp1:(0:Int)≤(k:Int)-1:=by omega
    have ld:=rd.load (k-1) (by omega)
    have hd:=Dg.getD (B:=1000000000) (by decide) D (k-1)
    have hv:=vl_drop (B:=1000000000) (l:=l) (j:=k-1) (by omega)
    rw[Nat.sub_add_cancel hk0]at hv
    have t9:∀{h:Hp} {K:AV→Hp→Prop},CallWp E3 186 [.int .i64 (l.getD (k-1) 0:Nat),.int .i64 9] h K↔K (.str (decP (l.getD (k-1) 0) 9)) h:=fun{h K}=>u186 (h:=h) (K:=K) (n:=l.getD (k-1) 0) (k:=9) (by omega) (by omega)
    have es:=decP_split 9 (vl 1000000000 (l.drop k)) (l.getD (k-1) 0) hpos hd
    rw[show vl 1000000000 (l.drop k)*10^9+l.getD (k-1) 0=vl 1000000000 (l.drop (k-1)) by rw[hv];omega]at es
    have l9:=decP_len' 9 (l.getD (k-1) 0) hd
    repeat' (with_reducible first|simp(disch:=first|exact okD|fail) only[go_sem,seval,k1,k3,k4,e1,hp1,ad,ld,t9]|(apply Spl.i<;>intro hc))
    refine⟨k-1,by omega,k-1,?_,?_,by omega,by omega,?_,rfl⟩
    ·rw[es]
    ·congr 1;omega
    ·rw[es,List.length_append,l9];omega
end
end
end Go.Ae
set_option linter.unusedVariables false
set_option linter.unusedSimpArgs false
set_option maxRecDepth 100000
set_option maxHeartbeats 1000000
namespace Go.Ae
open Bg N Go.Proofs
noncomputable section
theorem decF_acc:∀(l:List UInt8) (n:Nat),decF n l=n*10^l.length+decF 0 l
 |[],n=>by show n=n*10^0+0;simp
 | c::l,n=>by
  show decF (n*10+dV c) l=n*10^(l.length+1)+decF (0*10+dV c) l
  rw[decF_acc l (n*10+dV c),decF_acc l (0*10+dV c),Nat.pow_succ,Nat.add_mul,Nat.zero_mul,Nat.zero_add,Nat.mul_assoc n 10,Nat.mul_comm 10]
  omega
theorem decV_append (a b:List UInt8):decV (a++b)=decV a*10^b.length+decV b:=by
 have e:decF 0 (a++b)=decF (decF 0 a) b:=by unfold decF;rw[List.foldl_append]
 show decF 0 (a++b)=decF 0 a*10^b.length+decF 0 b
 rw[e,decF_acc]
theorem allDig_take {l:List UInt8} (h:allDig l=true) (n:Nat):allDig (l.take n)=true:=by
 unfold allDig at *;rw[List.all_eq_true]at *;exact fun x hx=>h x (List.mem_of_mem_take hx)
theorem allDig_drop {l:List UInt8} (h:allDig l=true) (n:Nat):allDig (l.drop n)=true:=by
 unfold allDig at *;rw[List.all_eq_true]at *;exact fun x hx=>h x (List.mem_of_mem_drop hx)
section
variable {h h':Hp} {K:AV→Hp→Prop} {v w:AV} {z:Int}
theorem u153 {s:List UInt8} (hd:allDig s=true) (hs:s.length≤18):CallWp E3 153 [.str s] h K↔K (.int .i64 (decV s)) h:=up ge3 fun K=>c153 hd hs
theorem parse_digits {tm:T AV} {hp:Hp} {neg:Bool} {t:List UInt8} (h0:val tm (.t 0)= .str t) (h2:val tm (.t 2)= .ptr h.next 0) (h3:val tm (.t 3)= .bool neg) (hA:AtS hp h.next [.bool false,.nils]) (hG:Grs h hp)
  (hd:allDig t=true) (ht:t≠[]) (hl:t.length≤100000):
  Wp E3 (R.a207.code.post 3) ⟨tm,hp⟩ (RetQ [.cell 2 true 2] fun v h'=>IsR h' v (sgn neg (decV t))∧Grs h h'):=by
 unfold R.a207
 dsimp only[ACode.post]
 repeat' (with_reducible first|simp(disch:=first|exact okD|fail) only[go_sem,seval,h0,h2,h3]|(apply Spl.i<;>intro hc))
 refine Wp.loopI (fun m s=>∃(u:List UInt8) (out:List Nat) (v:AV) (n:Nat),val s.tm (.t 0)= .str u∧val s.tm (.t 2)= .ptr h.next 0∧val s.tm (.t 3)= .bool neg∧val s.tm (.t 4)=v∧Grs hp s.hp∧OwnZ 1 hp s.hp v n (out.map (wd .i64))∧out.length=n∧Dg 1000000000 out∧
  allDig u=true∧u≠[]∧u.length+9*n=t.length∧decV t=vl 1000000000 out+1000000000^n*decV u∧u.length=m) (n:=t.length) ?_ ?_
 ·exact⟨t,[],.nils,0,by simp(disch:=first|exact okD|fail) only[go_sem,seval,h0],by simp(disch:=first|exact okD|fail) only[go_sem,seval,h2],by simp(disch:=first|exact okD|fail) only[go_sem,seval,h3],by simp(disch:=first|exact okD|fail) only[go_sem,seval],Grs.refl _,OwnZ.nil,rfl,Dg.nil,hd,ht,by omega,by simp[vl],rfl⟩
 ·rintro m ⟨tm,hq⟩ ⟨u,out,v,n,h0,h2,h3,h4,hG',hO,hlo,dO,hu,hu0,hlen,heq,rfl⟩
  simp only at h0 h2 h3 h4 hG' hO
  by_cases hc:9<u.length
  ·have hc':(9:Int)<u.length:=by omega
   have e1:((u.length:Int)-9).toNat=u.length-9:=by omega
   have hd2:=allDig_drop hu (u.length-9)
   have l2:(u.drop (u.length-9)).length=9:=by rw[List.length_drop];omega
   have c2:=fun{h:Hp} {K:AV→Hp→Prop}=>u153 (h:=h) (K:=K) hd2 (by omega)
   have lt2:=decV_lt hd2
   rw[l2]at lt2
   have ha:decV u=decV (u.take (u.length-9))*10^9+decV (u.drop (u.length-9)):=by
    conv=>lhs;rw[←List.take_append_drop (u.length-9) u,decV_append,l2]
   repeat' (with_reducible first|simp(disch:=first|exact okD|fail) only[go_sem,seval,h0,h2,h3,h4,hc',e1,c2,w_app]|(apply Spl.i<;>intro hc))
   refine OwnZ.wp (h0:=hp) (b:=8) rfl hG' hO rfl (by decide) (by omega) (by omega) fun v' h' G' O'=>?_
   repeat' (with_reducible first|simp(disch:=first|exact okD|fail) only[go_sem,seval,h0,h2,h3,h4,e1]|(apply Spl.i<;>intro hc))
   refine⟨(u.take (u.length-9)).length,by rw[List.length_take];omega,u.take (u.length-9),out++[decV (u.drop (u.length-9))],v',n+1,rfl,rfl,G',?_,by simp[hlo],dO.append (Dg.cons lt2 Dg.nil),allDig_take hu _,?_,?_,?_,rfl⟩
   ·rw[List.map_append];exact O'
   ·intro e
    have:=congrArg List.length e
    rw[List.length_take]at this
    simp only[List.length_nil]at this
    omega
   ·rw[List.length_take];omega
   ·rw[show(10:Nat)^9=1000000000 from rfl]at ha
    have e9:(1000000000:Nat)^(n+1)=1000000000^n*1000000000:=Nat.pow_succ _ _
    rw[heq,ha,vl_snoc,hlo,e9,Nat.mul_add]
    have:1000000000^n*(decV (List.take (u.length-9) u)*1000000000)=1000000000^n*1000000000*decV (List.take (u.length-9) u):=by rw[Nat.mul_comm (decV _),Nat.mul_assoc]
    omega
  ·have hc':¬(9:Int)<u.length:=by omega
   have c1:=fun{h:Hp} {K:AV→Hp→Prop}=>u153 (h:=h) (K:=K) hu (by omega)
   have lt1:=decV_lt hu
   have hpw:(10:Nat)^u.length≤10^9:=Nat.pow_le_pow_right (by decide) (by omega)
   have hdu:decV u<1000000000:=Nat.lt_of_lt_of_le lt1 hpw
   repeat' (with_reducible first|simp(disch:=first|exact okD|fail) only[go_sem,seval,h0,h2,h3,h4,hc',c1,w_app]|(apply Spl.i<;>intro hc))
   refine OwnZ.wp (h0:=hp) (b:=8) rfl hG' hO rfl (by decide) (by omega) (by omega) fun v' h' G' O'=>?_
   have eO:out.map (wd .i64)++[.int .i64 (decV u:Nat)]=(out++[decV u]).map (wd .i64):=by rw[List.map_append];rfl
   rw[eO]at O'
   have S':=O'.sq (by simp[hlo])
   repeat' (with_reducible first|simp(disch:=first|exact okD|fail) only[go_sem,seval,h0,h2,h3,h4]|(apply Spl.i<;>intro hc))
   refine Gp.wp (d249 S' (dO.append (Dg.cons hdu Dg.nil)) (by simp;omega)) fun v5 k5 a5 b5 u5 I5=>?_
   have ev:vl 1000000000 (out++[decV u])=decV t:=by rw[vl_snoc,hlo,heq]
   rw[ev]at I5
   obtain⟨w5,rfl,p5,I5⟩:=I5.ex
   obtain⟨st,hg,hst,hlt⟩:=(hA.grs G').grs (⟨_,_,u5⟩:Grs h' (h'.ov k5 u5))
   repeat' (with_reducible first|simp(disch:=first|exact okD|fail) only[go_sem,seval,h2,hg,p5]|(apply Spl.i<;>intro hc))
   refine⟨I5.putB (by simp(disch:=first|exact okD|fail) only[go_sem,seval,isCellB_row,hg]),?_⟩
   exact Grs.put ((hG.trans G').ov) (Nat.le_refl _)
end
end
end Go.Ae
set_option linter.unusedVariables false
set_option linter.unusedSimpArgs false
set_option maxRecDepth 100000
set_option maxHeartbeats 1000000
namespace Go.Ae
open Bg N Go.Proofs
noncomputable section
section
variable {h h':Hp} {K:AV→Hp→Prop} {v w:AV} {z:Int}
theorem d207 {neg:Bool} {t:List UInt8} (hd:allDig t=true) (ht:t≠[]) (hl:t.length≤100000):Gp E3 207 [.str (if neg=true then 45::t else t)] h fun v h'=>IsR h' v (sgn neg (decV t)):=by
 refine Gp.of (CallWp.fn (fn:=R.a207) rfl rfl rfl ?_)
 have A:AtS (h.push fun st=> .row [.bool false,.nils] true st) h.next [.bool false,.nils]:=AtS.push
 have G:Grs h (h.push fun st=> .row [.bool false,.nils] true st):=Grs.push (Grs.refl h)
 have tail:=fun(tm:T AV) h0 h2 h3=>parse_digits (h:=h) (hp:=h.push fun st=> .row [.bool false,.nils] true st) (tm:=tm) (neg:=neg) (t:=t) h0 h2 h3 A G hd ht hl
 refine Wp.cut 3 rfl ?_
 generalize ACode.post 3 R.a207.code=r at tail⊢
 unfold R.a207
 dsimp only[ACode.pre]
 cases neg with
 | true=>
  rw[if_pos rfl]
  have e0:((45::t:List UInt8).getD 0 0).toNat=45:=rfl
  have hlc:(0:Int)<((45::t:List UInt8).length:Int):=by simp
  repeat' (with_reducible first|simp(disch:=first|exact okD|fail) only[go_sem,seval,hlc,e0]|(apply Spl.i<;>intro hc))
  exact tail _ (by simp(disch:=first|exact okD|fail) only[go_sem,seval]) (by simp(disch:=first|exact okD|fail) only[go_sem,seval]) (by(simp(disch:=first|exact okD|fail) only[go_sem,seval])<;>rfl)
 | false =>
  rw[if_neg (by decide)]
  have hl0:t.length≠0:=by simpa using ht
  have hlc:(0:Int)<t.length:=by omega
  have hne:¬(((t.getD 0 0).toNat:Nat):Int)=45:=by
   match t,ht,hd with
   | c ::r,_,hd=>
    have hc:isDig c=true:=by
     unfold allDig at hd
     exact(List.all_eq_true.1 hd) c (by simp)
    unfold isDig at hc
    have:=of_decide_eq_true hc
    simp only[List.getD_cons_zero]
    omega
  repeat' (with_reducible first|simp(disch:=first|exact okD|fail) only[go_sem,seval,hlc,hne]|(apply Spl.i<;>intro hc))
  exact tail _ (by simp(disch:=first|exact okD|fail) only[go_sem,seval]) (by simp(disch:=first|exact okD|fail) only[go_sem,seval]) (by(simp(disch:=first|exact okD|fail) only[go_sem,seval])<;>rfl)
end
end
end Go.Ae
set_option linter.unusedVariables false
set_option linter.unusedSimpArgs false
namespace Go.Ae.Bg
theorem divInt_num {p q n:Int} {d:Nat} (hq:q≠0) (hd:d≠0) (hc:n.natAbs.Coprime d) (h:p*d=n*q):(Rat.divInt p q).num=n∧(Rat.divInt p q).den=d:=by
 have e:Rat.divInt p q=⟨n,d,hd,hc⟩:=by
  rw[Rat.mk_eq_divInt,Rat.divInt_eq_divInt_iff hq (by omega)]
  exact h
 rw[e];exact⟨rfl,rfl⟩
theorem divInt_gcd {p q:Int} (hq:0<q):(Rat.divInt p q).num=p.fdiv (Int.gcd p q:Int)∧((Rat.divInt p q).den:Int)=q.fdiv (Int.gcd p q:Int):=by
 have hg:0<Int.gcd p q:=Int.gcd_pos_of_ne_zero_right _ (by omega)
 obtain⟨a,ha⟩:=Int.gcd_dvd_left p q
 obtain⟨b,hb⟩:=Int.gcd_dvd_right p q
 have hgi:(Int.gcd p q:Int)≠0:=by omega
 have e1:p.fdiv (Int.gcd p q:Int)=a:=by
  have:=Int.mul_fdiv_cancel_left a hgi
  rwa[←ha]at this
 have e2:q.fdiv (Int.gcd p q:Int)=b:=by
  have:=Int.mul_fdiv_cancel_left b hgi
  rwa[←hb]at this
 have e3:Int.gcd a b=1:=by
  have h1:Int.gcd p q=Int.gcd p q*Int.gcd a b:=by
   have:=Int.gcd_mul_left (Int.gcd p q:Int) a b
   rw[←ha,←hb,Int.natAbs_natCast]at this
   exact this
  exact Nat.eq_of_mul_eq_mul_left hg (by omega)
 have hb0:0<b:=by
  rcases Int.lt_or_le 0 b with c|c
  ·exact c
  ·have:(Int.gcd p q:Int)*b≤0:=Int.mul_nonpos_of_nonneg_of_nonpos (by omega) c
   omega
 obtain⟨d,rfl⟩:∃d:Nat,b=d:=⟨b.toNat,by omega⟩
 obtain⟨h1,h2⟩:=divInt_num (p:=p) (q:=q) (n:=a) (d:=d) (by omega) (by omega) e3 (by
  have h3:p*(d:Int)=(Int.gcd p q:Int)*a*d:=by rw[←ha]
  have h4:a*q=a*((Int.gcd p q:Int)*d):=by rw[←hb]
  rw[h3,h4];ac_rfl)
 rw[h1,h2,e1,e2]
 exact⟨rfl,rfl⟩
theorem divInt_one {p:Int}:(Rat.divInt p 1).num=p∧(Rat.divInt p 1).den=1:=
 divInt_num (p:=p) (q:=1) (n:=p) (d:=1) (by omega) (by omega) (Nat.coprime_one_right _) (by simp)
theorem divInt_neg2 {p q:Int} (hq:q≠0):Rat.divInt (-p) (-q)=Rat.divInt p q:=by
 rw[Rat.divInt_eq_divInt_iff (by omega) hq,Int.neg_mul,Int.mul_neg]
theorem den_pos (r:Rat):0<r.den:=Nat.pos_of_ne_zero r.den_nz
end Go.Ae.Bg
namespace Go.Ae.Bg
theorem divInt_le {p q:Int} (hq:q≠0):(Rat.divInt p q).num.natAbs≤p.natAbs∧(Rat.divInt p q).den≤q.natAbs:=by
 have key:∀{p q:Int},0<q→(Rat.divInt p q).num.natAbs≤p.natAbs∧(Rat.divInt p q).den≤q.natAbs:=by
  intro p q hq
  obtain⟨h1,h2⟩:=divInt_gcd (p:=p) hq
  have hg:0<Int.gcd p q:=Int.gcd_pos_of_ne_zero_right _ (by omega)
  obtain⟨a,ha⟩:=Int.gcd_dvd_left p q
  obtain⟨b,hb⟩:=Int.gcd_dvd_right p q
  have hgi:(Int.gcd p q:Int)≠0:=by omega
  have e1:p.fdiv (Int.gcd p q:Int)=a:=by
   have:=Int.mul_fdiv_cancel_left a hgi
   rwa[←ha]at this
  have e2:q.fdiv (Int.gcd p q:Int)=b:=by
   have:=Int.mul_fdiv_cancel_left b hgi
   rwa[←hb]at this
  have n1:p.natAbs=Int.gcd p q*a.natAbs:=by
   have:=congrArg Int.natAbs ha
   rwa[Int.natAbs_mul,Int.natAbs_natCast]at this
  have n2:q.natAbs=Int.gcd p q*b.natAbs:=by
   have:=congrArg Int.natAbs hb
   rwa[Int.natAbs_mul,Int.natAbs_natCast]at this
  have m1:a.natAbs≤Int.gcd p q*a.natAbs:=Nat.le_mul_of_pos_left _ hg
  have m2:b.natAbs≤Int.gcd p q*b.natAbs:=Nat.le_mul_of_pos_left _ hg
  rw[e1]at h1
  rw[e2]at h2
  rw[h1]
  omega
 by_cases hp:0<q
 ·exact key hp
 ·have:=key (p:= -p) (q:= -q) (by omega)
  rwa[divInt_neg2 hq,Int.natAbs_neg,Int.natAbs_neg]at this
theorem rmul (a b:Rat):a*b=Rat.divInt (a.num*b.num) (a.den*b.den:Int):=by
 conv=>lhs;rw[←Rat.num_divInt_den a,←Rat.num_divInt_den b,Rat.divInt_mul_divInt]
theorem radd (a b:Rat):a+b=Rat.divInt (a.num*b.den+b.num*a.den) (a.den*b.den:Int):=by
 have h1:=den_pos a
 have h2:=den_pos b
 conv=>lhs;rw[←Rat.num_divInt_den a,←Rat.num_divInt_den b,Rat.divInt_add_divInt _ _ (by omega) (by omega)]
theorem radd1 {a b:Rat} (ha:(a.den:Int)=1) (hb:(b.den:Int)=1):(a+b).num=a.num+b.num∧(a+b).den=1:=by
 rw[radd,ha,hb,Int.mul_one,Int.mul_one,Int.mul_one]
 exact divInt_one
end Go.Ae.Bg
namespace Go.Ae.Bg
theorem divInt_abs {p q:Int} (hq:0<q):(Rat.divInt p q).num.natAbs=p.natAbs/Nat.gcd p.natAbs q.natAbs∧(Rat.divInt p q).den=q.natAbs/Nat.gcd p.natAbs q.natAbs∧((Rat.divInt p q).num<0↔p<0):=by
 obtain⟨h1,h2⟩:=divInt_gcd (p:=p) hq
 have hg:0<Int.gcd p q:=Int.gcd_pos_of_ne_zero_right _ (by omega)
 obtain⟨a,ha⟩:=Int.gcd_dvd_left p q
 obtain⟨b,hb⟩:=Int.gcd_dvd_right p q
 have hgi:(Int.gcd p q:Int)≠0:=by omega
 have e1:p.fdiv (Int.gcd p q:Int)=a:=by
  have:=Int.mul_fdiv_cancel_left a hgi
  rwa[←ha]at this
 have e2:q.fdiv (Int.gcd p q:Int)=b:=by
  have:=Int.mul_fdiv_cancel_left b hgi
  rwa[←hb]at this
 have n1:p.natAbs=Int.gcd p q*a.natAbs:=by
  have:=congrArg Int.natAbs ha
  rwa[Int.natAbs_mul,Int.natAbs_natCast]at this
 have n2:q.natAbs=Int.gcd p q*b.natAbs:=by
  have:=congrArg Int.natAbs hb
  rwa[Int.natAbs_mul,Int.natAbs_natCast]at this
 have eg:Nat.gcd p.natAbs q.natAbs=Int.gcd p q:=rfl
 rw[e1]at h1
 rw[e2]at h2
 rw[eg]
 refine⟨?_,?_,?_⟩
 ·rw[h1];conv=>rhs;rw[n1]
  rw[Nat.mul_div_cancel_left _ hg]
 ·have:q.natAbs/Int.gcd p q=b.natAbs:=by
   conv=>lhs;rw[n2]
   rw[Nat.mul_div_cancel_left _ hg]
  omega
 ·rw [h1]
  constructor
  ·intro c
   rw[ha]
   exact Int.mul_neg_of_pos_of_neg (by omega) c
  ·intro c
   rcases Int.lt_or_le a 0 with d|d
   ·exact d
   ·have:0≤(Int.gcd p q:Int)*a:=Int.mul_nonneg (by omega) d
    omega
end Go.Ae.Bg
set_option linter.unusedVariables false
set_option linter.unusedSimpArgs false
set_option maxRecDepth 100000
set_option maxHeartbeats 2000000
namespace Go.Ae
open Bg N Go.Proofs
noncomputable section
def txtR (r:Rat):List UInt8:=if r.den=1 then txtZ r.num else txtZ r.num++47::txtZ r.den
theorem txtZ_len {n:Nat} {z:Int} (h:Lr n z):(txtZ z).length≤9*n+2:=by
 have h':z.natAbs<10^(9*n):=by rw[Nat.pow_mul];exact h
 have:=decP_len (j:=9*n) (n:=z.natAbs) (k:=1) h'
 unfold txtZ
 split
 ·rw[List.length_cons];omega
 ·omega
section
variable {h h' hp:Hp} {K:AV→Hp→Prop} {tm:T AV} {w1 w2:AV} {x y:Int}
theorem frac_pos {p2 p3:Nat} (h2:val tm (.t 2)= .ptr p2 0) (h3:val tm (.t 3)= .ptr p3 0) (g2:AtS hp p2 [.bool (decide (x<0)),w1]) (g3:AtS hp p3 [.bool (decide (y<0)),w2]) (hG:Grs h hp)
  (ix:IsR hp (.agg [.bool (decide (x<0)),w1]) x) (iy:IsR hp (.agg [.bool (decide (y<0)),w2]) y) (lx:Lr 100000 x) (ly:Lr 100000 y) (hy:0<y):
  Wp E3 (R.a169.code.post 2) ⟨tm,hp⟩ (RetQ [.tmp 4] fun v h'=>v= .str (txtR (Rat.divInt x y))∧Grs h h'):=by
 refine Wp.cut 5 rfl ?_
 obtain⟨rc,hrc⟩:∃rc,rc=ACode.post 5 (ACode.post 2 R.a169.code):=⟨_,rfl⟩
 rw[←hrc]
 unfold R.a169
 dsimp only[ACode.post,ACode.pre]
 obtain⟨s2,q2,c2,t2⟩:=g2
 obtain⟨s3,q3,c3,t3⟩:=g3
 obtain⟨l1,S1,D1,N1,V1⟩:=ix.un
 obtain⟨l2,S2,D2,N2,V2⟩:=iy.un
 have m1:=lx.len N1 V1
 have m2:=ly.len N2 V2
 obtain⟨f1,f2,f3⟩:=divInt_abs (p:=x) hy
 have hgp:0<Nat.gcd x.natAbs y.natAbs:=Nat.gcd_pos_of_pos_right _ (by omega)
 repeat' (with_reducible first|simp(disch:=first|exact okD|fail) only[go_sem,seval,h2,h3,q2,q3]|(apply Spl.i<;>intro hc))
 refine Gp.wp (d125 S1 S2 D1 D2 N1 N2 (by omega) (by omega)) fun v5 k5 a5 b5 u5 ⟨l5,S5,D5,N5,V5⟩=>?_
 rw[V1,V2]at V5
 have hl5:l5.length≤100000:=few9 (B:=1000000000) (by decide) N5 (by
  rw[V5]
  exact Nat.lt_of_le_of_lt (Nat.gcd_le_right _ (by omega)) ly)
 have h50:l5≠[]:=by rintro rfl;rw[vl_nil]at V5;omega
 have S1':=(S1.grs ⟨_,_,u5⟩:Sq .i64 (hp.ov k5 u5) w1 l1)
 have S2':=(S2.grs ⟨_,_,u5⟩:Sq .i64 (hp.ov k5 u5) w2 l2)
 repeat' (with_reducible first|simp(disch:=first|exact okD|fail) only[go_sem,seval,h2,h3,q2,q3]|(apply Spl.i<;>intro hc))
 refine Gp.wp (d208 S1' S5 D1 D5 N1 N5 (by omega) (by omega) h50) fun v6 k6 a6 b6 u6 ⟨vq6,vr6,lq6,lr6,e6,Sq6,_,Dq6,_,Nq6,_,Vq6,_⟩=>?_
 subst e6
 rw[V1,V5,←f1]at Vq6
 have S2'':=(S2'.grs ⟨_,_,u6⟩:Sq .i64 ((hp.ov k5 u5).ov k6 u6) w2 l2)
 have S5':=(S5.grs ⟨_,_,u6⟩:Sq .i64 ((hp.ov k5 u5).ov k6 u6) v5 l5)
 repeat' (with_reducible first|simp(disch:=first|exact okD|fail) only[go_sem,seval,h2,h3,q2,q3]|(apply Spl.i<;>intro hc))
 refine Gp.wp (d208 S2'' S5' D2 D5 N2 N5 (by omega) (by omega) h50) fun v8 k8 a8 b8 u8 ⟨vq8,vr8,lq8,lr8,e8,Sq8,_,Dq8,_,Nq8,_,Vq8,_⟩=>?_
 subst e8
 rw[V2,V5,←f2]at Vq8
 have Sq6':=(Sq6.grs ⟨_,_,u8⟩:Sq .i64 (((hp.ov k5 u5).ov k6 u6).ov k8 u8) vq6 lq6)
 obtain⟨r,hr⟩:∃r,r=Rat.divInt x y:=⟨_,rfl⟩
 rw[←hr]at f1 f2 f3 Vq6 Vq8⊢
 have ln:Lr 100000 r.num:=lx.le (by rw[f1];exact Nat.div_le_self _ _)
 have ld:Lr 100000 (r.den:Int):=ly.le (by rw[Int.natAbs_natCast,f2];exact Nat.div_le_self _ _)
 have hq6:lq6.length≤100000:=few9 (B:=1000000000) (by decide) Nq6 (by rw[Vq6];exact ln)
 have hq8:lq8.length≤100000:=few9 (B:=1000000000) (by decide) Nq8 (by rw[Vq8];exact ld)
 have es:sgn (decide (x<0)) (vl 1000000000 lq6)=r.num:=by
  rw[Vq6]
  unfold sgn
  by_cases c:x<0
  ·have:=f3.2 c
   rw[decide_eq_true c,if_pos rfl];omega
  ·have:¬r.num<0:=fun e=>c (f3.1 e)
   rw[decide_eq_false c,if_neg (by decide)];omega
 have tl1:=txtZ_len ln
 have tl2:=txtZ_len ld
 repeat' (with_reducible first|simp(disch:=first|exact okD|fail) only[go_sem,seval,h2,h3,q2,q3]|(apply Spl.i<;>intro hc))
 refine Gp.wp (d249 Sq6' Dq6 (by omega)) fun v9 k9 a9 b9 u9 I9=>?_
 rw[es]at I9
 repeat' (with_reducible first|simp(disch:=first|exact okD|fail) only[go_sem,seval,h2,h3]|(apply Spl.i<;>intro hc))
 refine Gv.wp (d181 I9 (ln.mono (by decide))) fun h10 k10 j10 u10=>?_
 have Sq8':=((Sq8.grs ⟨_,_,u9⟩:Sq .i64 ((((hp.ov k5 u5).ov k6 u6).ov k8 u8).ov k9 u9) vq8 lq8).grs ⟨_,_,u10⟩:Sq .i64 (((((hp.ov k5 u5).ov k6 u6).ov k8 u8).ov k9 u9).ov h10 u10) vq8 lq8)
 have r8:=Sq8'.rd
 have ln8:=r8.len
 have ad8:=r8.adr
 have e00:(0:Int).toNat=0:=rfl
 have slow:∀(tm:T AV),val tm (.t 8)=vq8→val tm (.t 10)= .str (txtZ r.num)→r.den≠1→Wp E3 rc ⟨tm,((((hp.ov k5 u5).ov k6 u6).ov k8 u8).ov k9 u9).ov h10 u10⟩ (RetQ [.tmp 4] fun v h'=>v= .str (txtR r)∧Grs h h'):=by
  intro tm h8 h10' hden
  rw[hrc]
  unfold R.a169
  dsimp only[ACode.post]
  have et:txtR r=txtZ r.num++47::txtZ r.den:=if_neg hden
  have eden:sgn false (vl 1000000000 lq8)=(r.den:Int):=by rw[Vq8];unfold sgn;simp
  repeat' (with_reducible first|simp(disch:=first|exact okD|fail) only[go_sem,seval,h8,h10']|(apply Spl.i<;>intro hc))
  refine Gp.wp (d249 Sq8' Dq8 (by omega)) fun v11 k11 a11 b11 u11 I11=>?_
  rw[eden]at I11
  repeat' (with_reducible first|simp(disch:=first|exact okD|fail) only[go_sem,seval,h8,h10']|(apply Spl.i<;>intro hc))
  refine Gv.wp (d181 I11 (ld.mono (by decide))) fun h12 k12 j12 u12=>?_
  repeat' (with_reducible first|simp(disch:=first|exact okD|fail) only[go_sem,seval]|(apply Spl.i<;>intro hc))
  refine⟨by rw[et];simp,?_⟩
  refine hG.trans ?_
  exact okG
 by_cases hd:r.den=1
 ·have e8:lq8=[1]:=norm_inj (B:=1000000000) (by decide) Dq8 (Dg.cons (by decide) Dg.nil) Nq8 (by simp[Norm]) (by rw[Vq8,hd];simp[vl])
  subst e8
  have ld8:=r8.load 0 (by simp)
  simp only[List.getD_cons_zero,Nat.add_zero]at ld8
  have e1:((1:Nat):Int)=1:=rfl
  simp only[List.length_cons,List.length_nil,Nat.zero_add]at ln8
  rw[e1]at ln8 ld8
  have et:txtR r=txtZ r.num:=if_pos hd
  repeat' (with_reducible first|simp(disch:=first|exact okD|fail) only[go_sem,seval,ln8,ad8,e00,ld8,e1]|(apply Spl.i<;>intro hc))
  refine⟨by rw[et],?_⟩
  refine hG.trans ?_
  exact okG
 ·by_cases hl:lq8.length=1
  ·obtain⟨d,rfl⟩:∃d,lq8=[d]:=by
    match lq8,hl with
    |[d],_=>exact⟨d,rfl⟩
   have ed:d=r.den:=by rw[←Vq8];simp[vl]
   have ld8:=r8.load 0 (by simp)
   simp only[List.getD_cons_zero,Nat.add_zero]at ld8
   have e1:((1:Nat):Int)=1:=rfl
   simp only[List.length_cons,List.length_nil,Nat.zero_add]at ln8
   rw[e1]at ln8
   have hd1:¬(d:Int)=1:=by omega
   repeat' (with_reducible first|simp(disch:=first|exact okD|fail) only[go_sem,seval,ln8,ad8,e00,ld8,hd1]|(apply Spl.i<;>intro hc))
   exact slow _ (by simp(disch:=first|exact okD|fail) only[go_sem,seval]) (by simp(disch:=first|exact okD|fail) only[go_sem,seval]) hd
  ·have hl':¬(lq8.length:Int)=1:=by omega
   repeat' (with_reducible first|simp(disch:=first|exact okD|fail) only[go_sem,seval,ln8,hl']|(apply Spl.i<;>intro hc))
   exact slow _ (by simp(disch:=first|exact okD|fail) only[go_sem,seval]) (by simp(disch:=first|exact okD|fail) only[go_sem,seval]) hd
end
end
end Go.Ae
set_option linter.unusedVariables false
set_option linter.unusedSimpArgs false
set_option maxRecDepth 100000
set_option maxHeartbeats 2000000
namespace Go.Ae
open Bg N Go.Proofs
noncomputable section
section
variable {h h' hp:Hp} {K:AV→Hp→Prop} {va vb:AV} {x y:Int}
theorem d169 (ia:IsR h va x) (ib:IsR h vb y) (lx:Lr 100000 x) (ly:Lr 100000 y) (hy:y≠0):Gv E3 169 [va,vb] h (.str (txtR (Rat.divInt x y))):=by
 obtain⟨w1,rfl,o1,i1⟩:=ia.ex
 obtain⟨w2,rfl,o2,i2⟩:=ib.ex
 refine Gv.of (CallWp.fn (fn:=R.a169) rfl rfl rfl ?_)
 refine Wp.cut 2 rfl ?_
 have G:Grs h ((h.push fun st=> .row [.bool (decide (x<0)),w1] true st).push fun st=> .row [.bool (decide (y<0)),w2] true st):=(Grs.refl h).push.push
 have A2:AtS ((h.push fun st=> .row [.bool (decide (x<0)),w1] true st).push fun st=> .row [.bool (decide (y<0)),w2] true st) h.next [.bool (decide (x<0)),w1]:=(AtS.push.grs (Grs.refl _).push)
 have A3:AtS ((h.push fun st=> .row [.bool (decide (x<0)),w1] true st).push fun st=> .row [.bool (decide (y<0)),w2] true st) (h.next+1) [.bool (decide (y<0)),w2]:=AtS.push
 by_cases hp:0<y
 ·have tail:=fun(hp':Hp) tm p2 p3 h2 h3 g2 g3 hG ix iy=>frac_pos (h:=h) (hp:=hp') (tm:=tm) (x:=x) (y:=y) (w1:=w1) (w2:=w2) (p2:=p2) (p3:=p3) h2 h3 g2 g3 hG ix iy lx ly hp
  generalize ACode.post 2 R.a169.code=r at tail⊢
  unfold R.a169
  dsimp only[ACode.pre]
  have hs:¬y<0:=by omega
  repeat' (with_reducible first|simp(disch:=first|exact okD|fail) only[go_sem,seval,o1,o2,hs]|(apply Spl.i<;>intro hc))
  have hd:decide (y<0)=false:=decide_eq_false hs
  rw[hd]at A2 A3 G i2 tail
  exact tail _ _ h.next (h.next+1) (by simp(disch:=first|exact okD|fail) only[go_sem,seval]) (by simp(disch:=first|exact okD|fail) only[go_sem,seval]) A2 A3 G (i1.grs G) (i2.grs G)
 ·have tail:=fun(hp':Hp) tm p2 p3 (w1 w2:AV) h2 h3 g2 g3 hG ix iy=>frac_pos (h:=h) (hp:=hp') (tm:=tm) (x:= -x) (y:= -y) (w1:=w1) (w2:=w2) (p2:=p2) (p3:=p3) h2 h3 g2 g3 hG ix iy lx.neg ly.neg (by omega)
  rw[divInt_neg2 hy]at tail
  generalize ACode.post 2 R.a169.code=r at tail⊢
  unfold R.a169
  dsimp only[ACode.pre]
  have hs:y<0:=by omega
  have hd:decide (y<0)=true:=decide_eq_true hs
  rw[hd]at A2 A3 G i2
  repeat' (with_reducible first|simp(disch:=first|exact okD|fail) only[go_sem,seval,o1,o2,hd]|(apply Spl.i<;>intro hc))
  refine Gp.wp (d248 (i1.grs G) (lx.mono (by decide))) fun v5 k5 a5 b5 u5 I5=>?_
  obtain⟨w5,rfl,p5,I5⟩:=I5.ex
  repeat' (with_reducible first|simp(disch:=first|exact okD|fail) only[go_sem,seval,o1,o2,p5]|(apply Spl.i<;>intro hc))
  refine Gp.wp (d248 ((i2.grs G).grs okG) (ly.mono (by decide))) fun v6 k6 a6 b6 u6 I6=>?_
  obtain⟨w6,rfl,p6,I6⟩:=I6.ex
  have I5':=I5.grs (⟨_,_,u6⟩:Grs _ ((((h.push fun st=> .row [.bool (decide (x<0)),w1] true st).push fun st=> .row [.bool true,w2] true st).ov k5 u5).ov k6 u6))
  repeat' (with_reducible first|simp(disch:=first|exact okD|fail) only[go_sem,seval,o1,o2,p5,p6]|(apply Spl.i<;>intro hc))
  have G6:Grs ((h.push fun st=> .row [.bool (decide (x<0)),w1] true st).push fun st=> .row [.bool true,w2] true st) ((((h.push fun st=> .row [.bool (decide (x<0)),w1] true st).push fun st=> .row [.bool true,w2] true st).ov k5 u5).ov k6 u6):=by exact okG
  refine tail _ _ h.next (h.next+1) w5 w6 (by simp(disch:=first|exact okD|fail) only[go_sem,seval]) (by simp(disch:=first|exact okD|fail) only[go_sem,seval]) ?_ ?_ ?_ ?_ ?_
  ·exact(AtS.put okO).other (by omega)
  ·exact AtS.put okO
  ·exact Grs.put (Grs.put (G.trans G6) (by omega)) (by omega)
  ·exact(I5'.putB (by simp(disch:=first|exact okD|fail) only[go_sem,seval,isCellB_row])).putB (by simp(disch:=first|exact okD|fail) only[go_sem,seval,isCellB_row])
  ·exact(I6.putB (by simp(disch:=first|exact okD|fail) only[go_sem,seval,isCellB_row])).putB (by simp(disch:=first|exact okD|fail) only[go_sem,seval,isCellB_row])
end
end
end Go.Ae
set_option linter.unusedVariables false
set_option linter.unusedSimpArgs false
set_option maxRecDepth 100000
set_option maxHeartbeats 1000000
namespace Go.Ae
open Bg N Go.Proofs
noncomputable section
section
variable {h h' hp:Hp} {K:AV→Hp→Prop} {tm:T AV}
theorem d182 {n:Int} (hn: -9223372036854775807≤n∧n≤9223372036854775807):Gp E3 182 [.int .i64 n] h fun v h'=>IsR h' v n:=by
 refine Gp.of (CallWp.fn (fn:=R.a182) rfl rfl rfl ?_)
 unfold R.a182
 have es:sgn (decide (n<0)) n.natAbs=n:=by
  unfold sgn
  by_cases c:n<0
  ·rw[decide_eq_true c,if_pos rfl];omega
  ·rw[decide_eq_false c,if_neg (by decide)];omega
 repeat' (with_reducible first|simp(disch:=first|exact okD|fail) only[go_sem,seval]|(apply Spl.i<;>intro hc))
 refine Wp.loopI (fun m s=>∃(u k:Nat) (out:List Nat) (z:Int) (v:AV),val s.tm (.t 0)= .int .i64 z∧val s.tm (.t 2)= .ptr h.next 0∧val s.tm (.t 3)=v∧val s.tm (.t 4)= .bool (decide (n<0))∧
  Grs (h.push fun st=> .row [.bool false,.nils] true st) s.hp∧OwnZ 1 (h.push fun st=> .row [.bool false,.nils] true st) s.hp v k (out.map (wd .i64))∧out.length=k∧Dg 1000000000 out∧(n<0→z= -(u:Int))∧(¬n<0→z=u)∧u≤n.natAbs∧k≤3∧
  n.natAbs=vl 1000000000 out+1000000000^k*u∧u=m) (n:=n.natAbs) ?_ ?_
 ·exact⟨n.natAbs,0,[],n,.nils,by simp(disch:=first|exact okD|fail) only[go_sem,seval],by simp(disch:=first|exact okD|fail) only[go_sem,seval],by simp(disch:=first|exact okD|fail) only[go_sem,seval],by simp(disch:=first|exact okD|fail) only[go_sem,seval],Grs.refl _,OwnZ.nil,rfl,Dg.nil,by omega,by omega,by omega,by omega,by simp[vl],rfl⟩
 ·rintro m ⟨tm,hp⟩ ⟨u,k,out,z,v,h0,h2,h3,h4,hG,hO,hlo,dO,hz1,hz2,hu,hku,heq,rfl⟩
  simp only at h0 h2 h3 h4 hG hO
  have A:AtS (h.push fun st=> .row [.bool false,.nils] true st) h.next [.bool false,.nils]:=AtS.push
  rcases Nat.eq_zero_or_pos u with rfl|hpos
  ·obtain rfl:z=0:=by omega
   have S':=hO.sq hlo
   rw[Nat.mul_zero,Nat.add_zero]at heq
   repeat' (with_reducible first|simp(disch:=first|exact okD|fail) only[go_sem,seval,h0,h2,h3,h4]|(apply Spl.i<;>intro hc))
   refine Gp.wp (d249 S' dO (by omega)) fun v5 k5 a5 b5 u5 I5=>?_
   rw[←heq,es]at I5
   obtain⟨w5,rfl,p5,I5⟩:=I5.ex
   obtain⟨st,hg,hst,hlt⟩:=(A.grs hG).grs (⟨_,_,u5⟩:Grs hp (hp.ov k5 u5))
   repeat' (with_reducible first|simp(disch:=first|exact okD|fail) only[go_sem,seval,h2,hg,p5]|(apply Spl.i<;>intro hc))
   refine⟨I5.putB (by simp(disch:=first|exact okD|fail) only[go_sem,seval,isCellB_row,hg]),?_⟩
   exact Grs.put (((Grs.push (Grs.refl h)).trans hG).ov) (Nat.le_refl _)
  ·have hk3:k<3:=by
    have h1:1000000000^k*1≤1000000000^k*u:=Nat.mul_le_mul_left _ hpos
    have h2:1000000000^k<1000000000^3:=by
     rw[Nat.mul_one]at h1
     have:(1000000000:Nat)^3=1000000000000000000000000000:=by decide
     omega
    exact(Nat.pow_lt_pow_iff_right (by decide)).1 h2
   have zne:¬z=0:=by omega
   have fin:n.natAbs=vl 1000000000 (out++[u%1000000000])+1000000000^(k+1)*(u/1000000000):=by
    have e9:(1000000000:Nat)^(k+1)=1000000000^k*1000000000:=Nat.pow_succ _ _
    have e1:1000000000^k*u=1000000000^k*(u%1000000000)+1000000000^k*1000000000*(u/1000000000):=by
     rw[Nat.mul_assoc,←Nat.mul_add];congr 1;omega
    rw[vl_snoc,hlo,e9,heq,e1];omega
   have done:∀v' h',Grs (h.push fun st=> .row [.bool false,.nils] true st) h'→OwnZ 1 (h.push fun st=> .row [.bool false,.nils] true st) h' v' (k+1) (out.map (wd .i64)++[.int .i64 (u%1000000000:Nat)])→OwnZ 1 (h.push fun st=> .row [.bool false,.nils] true st) h' v' (k+1) ((out++[u%1000000000]).map (wd .i64)):=fun v' h' _ O'=>by rw[List.map_append];exact O'
   by_cases c:n<0
   ·have ez:=hz1 c
    subst ez
    have em:(-(u:Int)).tmod 1000000000= -((u%1000000000:Nat):Int):=by rw[Int.neg_tmod];rfl
    have eq:(-(u:Int)).tdiv 1000000000= -((u/1000000000:Nat):Int):=by rw[Int.neg_tdiv];rfl
    by_cases hm:u%1000000000=0
    ·have em0:(-(u:Int)).tmod 1000000000=((u%1000000000:Nat):Int):=by rw[em,hm];rfl
     have hnn:¬((u%1000000000:Nat):Int)<0:=by omega
     repeat' (with_reducible first|simp(disch:=first|exact okD|fail) only[go_sem,seval,h0,h2,h3,h4,zne,b_rem',b_quo',em0,eq,hnn,w_app]|(apply Spl.i<;>intro hc))
     refine OwnZ.wp (h0:=h.push fun st=> .row [.bool false,.nils] true st) (b:=8) rfl hG hO rfl (by decide) (by omega) (by omega) fun v' h' G' O'=>?_
     repeat' (with_reducible first|simp(disch:=first|exact okD|fail) only[go_sem,seval,h0,h2,h3,h4,b_rem',b_quo',eq]|(apply Spl.i<;>intro hc))
     exact⟨u/1000000000,by omega,u/1000000000,k+1,out++[u%1000000000],_,v',rfl,rfl,G',done v' h' G' O',by simp[hlo],dO.append (Dg.cons (by omega) Dg.nil),by omega,by omega,by omega,by omega,fin,rfl⟩
    ·have hnn: -((u%1000000000:Nat):Int)<0:=by omega
     have e00:(0:Int)- -((u%1000000000:Nat):Int)=((u%1000000000:Nat):Int):=by omega
     repeat' (with_reducible first|simp(disch:=first|exact okD|fail) only[go_sem,seval,h0,h2,h3,h4,zne,b_rem',b_quo',em,eq,hnn,e00,w_app]|(apply Spl.i<;>intro hc))
     refine OwnZ.wp (h0:=h.push fun st=> .row [.bool false,.nils] true st) (b:=8) rfl hG hO rfl (by decide) (by omega) (by omega) fun v' h' G' O'=>?_
     repeat' (with_reducible first|simp(disch:=first|exact okD|fail) only[go_sem,seval,h0,h2,h3,h4,b_rem',b_quo',eq]|(apply Spl.i<;>intro hc))
     exact⟨u/1000000000,by omega,u/1000000000,k+1,out++[u%1000000000],_,v',rfl,rfl,G',done v' h' G' O',by simp[hlo],dO.append (Dg.cons (by omega) Dg.nil),by omega,by omega,by omega,by omega,fin,rfl⟩
   ·have ez:=hz2 c
    subst ez
    have em:(u:Int)%1000000000=((u%1000000000:Nat):Int):=rfl
    have eq:(u:Int)/1000000000=((u/1000000000:Nat):Int):=rfl
    have hnn:¬((u%1000000000:Nat):Int)<0:=by omega
    repeat' (with_reducible first|simp(disch:=first|exact okD|fail) only[go_sem,seval,h0,h2,h3,h4,zne,em,eq,hnn,w_app]|(apply Spl.i<;>intro hc))
    refine OwnZ.wp (h0:=h.push fun st=> .row [.bool false,.nils] true st) (b:=8) rfl hG hO rfl (by decide) (by omega) (by omega) fun v' h' G' O'=>?_
    repeat' (with_reducible first|simp(disch:=first|exact okD|fail) only[go_sem,seval,h0,h2,h3,h4,eq]|(apply Spl.i<;>intro hc))
    exact⟨u/1000000000,by omega,u/1000000000,k+1,out++[u%1000000000],_,v',rfl,rfl,G',done v' h' G' O',by simp[hlo],dO.append (Dg.cons (by omega) Dg.nil),by omega,by omega,by omega,by omega,fin,rfl⟩
end
end
end Go.Ae
set_option linter.unusedVariables false
set_option linter.unusedSimpArgs false
set_option maxRecDepth 100000
set_option maxHeartbeats 1000000
namespace Go.Ae
open Bg N Go.Proofs
noncomputable section
theorem txtZ_no (z:Int):(47:UInt8)∉txtZ z:=by
 have h:(47:UInt8)∉decP z.natAbs 1:=decP_no (by decide)
 unfold txtZ
 split
 ·simp only[List.mem_cons,not_or];exact⟨by decide,h⟩
 ·exact h
theorem getD_mem {l:List UInt8} {i:Nat} {c:UInt8} (hi:i<l.length) (h:l.getD i 0=c):c∈l:=by
 have:l.getD i 0=l[i]:=by simp[List.getD,hi]
 rw[this]at h
 rw[←h];exact List.getElem_mem hi
theorem slash_txt (r:Rat):slashV (txtR r)=(txtZ r.num).length:=by
 unfold txtR
 split
 ·refine slash_none fun j hj e=>txtZ_no r.num (getD_mem hj e)
 ·refine slash_at (by simp) (fun j hj e=>?_) ?_
  ·refine txtZ_no r.num (getD_mem (i:=j) hj ?_)
   rw[←e]
   simp only[List.getD]
   rw[List.getElem?_append_left hj]
  ·simp[List.getD]
theorem sgn_txt (z:Int):sgn (decide (z<0)) (decV (decP z.natAbs 1))=z:=by
 rw[decP_val]
 unfold sgn
 by_cases c:z<0
 ·rw[decide_eq_true c,if_pos rfl];omega
 ·rw[decide_eq_false c,if_neg (by decide)];omega
section
variable {h h' hp:Hp} {K:AV→Hp→Prop} {tm:T AV} {r:Rat} {z:Int}
theorem d207z {n:Nat} (lz:Lr n z) (hn:n≤10000):Gp E3 207 [.str (txtZ z)] h fun v h'=>IsR h' v z:=by
 have h':z.natAbs<10^(9*n):=by rw[Nat.pow_mul];exact lz
 have hl:=decP_len (j:=9*n) (n:=z.natAbs) (k:=1) h'
 have:=d207 (h:=h) (neg:=decide (z<0)) (t:=decP z.natAbs 1) (decP_all _ _) (decP_ne _) (by omega)
 rw[sgn_txt]at this
 have e:(if decide (z<0)=true then 45::decP z.natAbs 1 else decP z.natAbs 1)=txtZ z:=by
  unfold txtZ
  by_cases c:z<0
  ·rw[if_pos (decide_eq_true c),if_pos c]
  ·rw[if_neg (by simpa using c),if_neg c]
 rw[e]at this
 exact this
theorem d124 (l1:Lr 9000 r.num) (l2:Lr 9000 (r.den:Int)):Gp E3 124 [.str (txtR r)] h fun v h'=>∃va vb,v= .tup [va,vb]∧IsR h' va r.num∧IsR h' vb (r.den:Int):=by
 refine Gp.of (CallWp.fn (fn:=R.a124) rfl rfl rfl ?_)
 unfold R.a124
 have t1:=txtZ_len l1
 have t2:=txtZ_len l2
 have hsl:=slash_txt r
 by_cases hd:r.den=1
 ·have et:txtR r=txtZ r.num:=if_pos hd
  rw[et]at hsl⊢
  have cs:=fun{h:Hp} {K:AV→Hp→Prop}=>c122 (h:=h) (K:=K) (s:=txtZ r.num) (by omega)
  repeat' (with_reducible first|simp(disch:=first|exact okD|fail) only[go_sem,seval,cs,hsl]|(apply Spl.i<;>intro hc))
  refine Gp.wp (d207z l1 (by decide)) fun v5 k5 a5 b5 u5 I5=>?_
  obtain⟨w5,rfl,p5,I5⟩:=I5.ex
  repeat' (with_reducible first|simp(disch:=first|exact okD|fail) only[go_sem,seval,p5]|(apply Spl.i<;>intro hc))
  refine Gp.wp (d182 (n:=1) (by omega)) fun v6 k6 a6 b6 u6 I6=>?_
  obtain⟨w6,rfl,p6,I6⟩:=I6.ex
  have I5':=I5.grs (⟨_,_,u6⟩:Grs _ ((((h.push fun st=> .row [.bool false,.nils] true st).push fun st=> .row [.bool false,.nils] true st).ov k5 u5).ov k6 u6))
  rw[hd]
  repeat' (with_reducible first|simp(disch:=first|exact okD|fail) only[go_sem,seval,p5,p6]|(apply Spl.i<;>intro hc))
  refine⟨⟨_,_,rfl,?_,?_⟩,?_⟩
  ·exact(I5'.putB (by simp(disch:=first|exact okD|fail) only[go_sem,seval,isCellB_row])).putB (by simp(disch:=first|exact okD|fail) only[go_sem,seval,isCellB_row])
  ·exact(I6.putB (by simp(disch:=first|exact okD|fail) only[go_sem,seval,isCellB_row])).putB (by simp(disch:=first|exact okD|fail) only[go_sem,seval,isCellB_row])
  ·exact okG
 ·have et:txtR r=txtZ r.num++47::txtZ r.den:=if_neg hd
  rw[et]at hsl⊢
  have hlen:(txtZ r.num++47::txtZ r.den).length=(txtZ r.num).length+((txtZ r.den).length+1):=by simp
  have cs:=fun{h:Hp} {K:AV→Hp→Prop}=>c122 (h:=h) (K:=K) (s:=txtZ r.num++47::txtZ r.den) (by omega)
  have hne:¬((txtZ r.num).length:Int)=((txtZ r.num).length+((txtZ r.den).length+1):Nat):=by omega
  have k1:List.take (txtZ r.num).length (txtZ r.num++47::txtZ r.den)=txtZ r.num:=List.take_left
  have e1:(((txtZ r.num).length:Int)+1).toNat=(txtZ r.num).length+1:=by omega
  have k2:List.drop ((txtZ r.num).length+1) (txtZ r.num++47::txtZ r.den)=txtZ r.den:=by
   rw[←List.drop_drop,List.drop_left];rfl
  repeat' (with_reducible first|simp(disch:=first|exact okD|fail) only[go_sem,seval,cs,hsl,hne,k1,e1,k2]|(apply Spl.i<;>intro hc))
  refine Gp.wp (d207z l1 (by decide)) fun v5 k5 a5 b5 u5 I5=>?_
  obtain⟨w5,rfl,p5,I5⟩:=I5.ex
  repeat' (with_reducible first|simp(disch:=first|exact okD|fail) only[go_sem,seval,p5,k1,e1,k2]|(apply Spl.i<;>intro hc))
  refine Gp.wp (d207z l2 (by decide)) fun v6 k6 a6 b6 u6 I6=>?_
  obtain⟨w6,rfl,p6,I6⟩:=I6.ex
  have I5':=I5.grs (⟨_,_,u6⟩:Grs _ ((((h.push fun st=> .row [.bool false,.nils] true st).push fun st=> .row [.bool false,.nils] true st).ov k5 u5).ov k6 u6))
  repeat' (with_reducible first|simp(disch:=first|exact okD|fail) only[go_sem,seval,p5,p6]|(apply Spl.i<;>intro hc))
  refine⟨⟨_,_,rfl,?_,?_⟩,?_⟩
  ·exact(I5'.putB (by simp(disch:=first|exact okD|fail) only[go_sem,seval,isCellB_row])).putB (by simp(disch:=first|exact okD|fail) only[go_sem,seval,isCellB_row])
  ·exact(I6.putB (by simp(disch:=first|exact okD|fail) only[go_sem,seval,isCellB_row])).putB (by simp(disch:=first|exact okD|fail) only[go_sem,seval,isCellB_row])
  ·exact okG
end
end
end Go.Ae
set_option linter.unusedVariables false
set_option linter.unusedSimpArgs false
set_option maxRecDepth 100000
set_option maxHeartbeats 1000000
namespace Go.Ae
open Bg N Go.Proofs
noncomputable section
section
variable {h h' hp:Hp} {K:AV→Hp→Prop} {tm:T AV} {r:Rat}
theorem d173 (l1:Lr 9000 r.num) (l2:Lr 9000 (r.den:Int)) (h0:r≠0):Gv E3 173 [.str (txtR r)] h (.str (txtR r⁻¹)):=by
 refine Gv.of (CallWp.fn (fn:=R.a173) rfl rfl rfl ?_)
 unfold R.a173
 have hn:r.num≠0:=by rw[ne_eq,Rat.num_eq_zero];exact h0
 rw[Rat.inv_def]
 repeat' (with_reducible first|simp(disch:=first|exact okD|fail) only[go_sem,seval]|(apply Spl.i<;>intro hc))
 refine Gp.wp (d124 l1 l2) fun v5 k5 a5 b5 u5 ⟨va,vb,e5,I5,I6⟩=>?_
 subst e5
 obtain⟨w5,rfl,p5,I5⟩:=I5.ex
 obtain⟨w6,rfl,p6,I6⟩:=I6.ex
 repeat' (with_reducible first|simp(disch:=first|exact okD|fail) only[go_sem,seval,p5,p6]|(apply Spl.i<;>intro hc))
 refine Gv.wp (d169 (I6.grs okG) (I5.grs okG) (l2.mono (by decide)) (l1.mono (by decide)) hn) fun h7 k7 j7 u7=>?_
 repeat' (with_reducible first|simp(disch:=first|exact okD|fail) only[go_sem,seval]|(apply Spl.i<;>intro hc))
 exact okG
end
end
end Go.Ae
set_option linter.unusedVariables false
set_option linter.unusedSimpArgs false
set_option maxRecDepth 100000
set_option maxHeartbeats 1000000
namespace Go.Ae
open Bg N Go.Proofs
noncomputable section
section
variable {h h' hp:Hp} {K:AV→Hp→Prop} {tm:T AV} {r:Rat}
theorem d185 {a b:Nat} (ha:a≤9223372036854775807) (hb:b≤9223372036854775807):CallWp E3 185 [.int .i64 a,.int .i64 b] h K↔K (.int .i64 (Nat.gcd a b:Nat)) h:=by
 refine CallWp.iff_of (CallWp.fn (fn:=R.a185) rfl rfl rfl ?_)
 unfold R.a185
 repeat' (with_reducible first|simp(disch:=first|exact okD|fail) only[go_sem,seval]|(apply Spl.i<;>intro hc))
 refine Wp.loopI (fun m s=>∃x y:Nat,val s.tm (.t 0)= .int .i64 x∧val s.tm (.t 1)= .int .i64 y∧s.hp=h∧Nat.gcd x y=Nat.gcd a b∧x≤9223372036854775807∧y≤9223372036854775807∧y=m) (n:=b) ?_ ?_
 ·exact⟨a,b,by simp(disch:=first|exact okD|fail) only[go_sem,seval],by simp(disch:=first|exact okD|fail) only[go_sem,seval],rfl,rfl,ha,hb,rfl⟩
 ·rintro m ⟨tm,hp⟩ ⟨x,y,h0,h1,rfl,hg,hx,hy,rfl⟩
  simp only at h0 h1
  rcases Nat.eq_zero_or_pos y with rfl|hp
  ·have e0:((0:Nat):Int)=0:=rfl
   repeat' (with_reducible first|simp(disch:=first|exact okD|fail) only[go_sem,seval,h0,h1,e0,Int.lt_irrefl]|(apply Spl.i<;>intro hc))
   rw[←hg,Nat.gcd_zero_right]
  ·have hp':(0:Int)<y:=by omega
   have em:(x:Int)%y=((x%y:Nat):Int):=rfl
   repeat' (with_reducible first|simp(disch:=first|exact okD|fail) only[go_sem,seval,h0,h1,hp',em]|(apply Spl.i<;>intro hc))
   have hl:=Nat.mod_lt x hp
   refine⟨x%y,hl,y,x%y,rfl,rfl,?_,hy,by omega,rfl⟩
   rw[←hg,Nat.gcd_comm y,←Nat.gcd_rec,Nat.gcd_comm]
def absR (r:Rat):List UInt8:=if r.den=1 then decP r.num.natAbs 1 else decP r.num.natAbs 1++47::txtZ r.den
theorem txtR_abs (r:Rat):txtR r=if r.num<0 then 45::absR r else absR r:=by
 unfold txtR absR txtZ
 by_cases h1:r.den=1<;>by_cases h2:r.num<0<;>simp[h1,h2]
theorem absR_neg (r:Rat):absR (-r)=absR r:=by
 unfold absR
 rw[show(-r).den=r.den from rfl,show(-r).num= -r.num from rfl,Int.natAbs_neg]
theorem absR_head {r:Rat} (h:r.num≠0):(absR r).head?≠some 45∧absR r≠[48]:=by
 have hd:=decP_head r.num.natAbs r.num.natAbs rfl (by omega)
 have hne:=decP_ne r.num.natAbs
 have ha:=decP_all r.num.natAbs 1
 match hq:decP r.num.natAbs 1,hne with
 | c ::l,_=>
  rw[hq]at hd ha
  have hc:isDig c=true:=by
   unfold allDig at ha
   exact(List.all_eq_true.1 ha) c (by simp)
  have h45:c≠45:=by rintro rfl;exact absurd hc (by decide)
  have h48:c≠48:=by simpa using hd
  unfold absR
  rw[hq]
  split
  ·exact⟨by simp[h45],by simp[h48]⟩
  ·exact⟨by simp[h45],by simp[h48]⟩
theorem sgn_txtR (r:Rat):sgnS (txtR r)=if r.num<0 then -1 else if r.num=0 then 0 else 1:=by
 rw[txtR_abs]
 by_cases h2:r.num<0
 ·rw[if_pos h2,if_pos h2]
  unfold sgnS
  rw[if_neg (by simp),if_pos (by simp)]
 ·rw[if_neg h2,if_neg h2]
  by_cases h0:r.num=0
  ·have hr:r=0:=(Rat.num_eq_zero).1 h0
   rw[if_pos h0,hr]
   decide+kernel
  ·rw[if_neg h0]
   obtain⟨a,b⟩:=absR_head h0
   unfold sgnS
   rw[if_neg b,if_neg a]
theorem d172 (l1:Lr 9000 r.num) (l2:Lr 9000 (r.den:Int)):Gv E3 172 [.str (txtR r)] h (.str (txtR (-r))):=by
 have t1:=txtZ_len l1
 have t2:=txtZ_len l2
 have hl:(txtR r).length≤200000:=by
  unfold txtR
  split
  ·omega
  ·rw[List.length_append,List.length_cons];omega
 have hs:=sgn_txtR r
 refine Gv.of (CallWp.fn (fn:=R.a172) rfl rfl rfl ?_)
 unfold R.a172
 have cs:=fun{h:Hp} {K:AV→Hp→Prop}=>c21 (h:=h) (K:=K) (s:=txtR r) (by omega)
 have en:txtR (-r)=if -r.num<0 then 45::absR r else absR r:=by rw[txtR_abs,absR_neg];rfl
 by_cases h2:r.num<0
 ·rw[if_pos h2]at hs
  have e1:(txtR r).drop 1=txtR (-r):=by rw[en,if_neg (by omega),txtR_abs,if_pos h2];rfl
  have hl1:(1:Int)≤(txtR r).length:=by rw[txtR_abs,if_pos h2,List.length_cons];omega
  repeat' (with_reducible first|simp(disch:=first|exact okD|fail) only[go_sem,seval,cs,hs,hl1,e1]|(apply Spl.i<;>intro hc))
 ·by_cases h0:r.num=0
  ·rw[if_neg h2,if_pos h0]at hs
   have e1:txtR r=txtR (-r):=by rw[en,if_neg (by omega),txtR_abs,if_neg h2]
   repeat' (with_reducible first|simp(disch:=first|exact okD|fail) only[go_sem,seval,cs,hs]|(apply Spl.i<;>intro hc))
   rw[e1]
  ·rw[if_neg h2,if_neg h0]at hs
   have e1:[45]++txtR r=txtR (-r):=by rw[en,if_pos (by omega),txtR_abs,if_neg h2];rfl
   repeat' (with_reducible first|simp(disch:=first|exact okD|fail) only[go_sem,seval,cs,hs]|(apply Spl.i<;>intro hc))
   rw[←e1];rfl
end
end
end Go.Ae
set_option linter.unusedVariables false
set_option linter.unusedSimpArgs false
set_option maxRecDepth 100000
set_option maxHeartbeats 1000000
namespace Go.Ae
open Bg N Go.Proofs
noncomputable section
section
variable {h h' hp:Hp} {K:AV→Hp→Prop} {tm:T AV} {r:Rat}
theorem d99_tail {x:Int} {y:Nat} (k0:val tm (.t 0)= .int .i64 x) (k1:val tm (.t 1)= .int .i64 y) (hx: -4000000000000000000≤x∧x≤4000000000000000000) (hy:0<y) (hy':y≤4000000000000000000):
  Wp E3 (R.a99.code.post 3) ⟨tm,h⟩ (RetQ [.tmp 4] fun v h'=>v= .str (txtR (Rat.divInt x y))∧Grs h h'):=by
 obtain⟨f1,f2,f3⟩:=divInt_abs (p:=x) (q:=y) (by omega)
 obtain⟨h1,h2⟩:=divInt_gcd (p:=x) (q:=y) (by omega)
 obtain⟨r,hr⟩:∃r,r=Rat.divInt x y:=⟨_,rfl⟩
 rw[←hr]at f1 f2 f3 h1 h2⊢
 rw[Int.natAbs_natCast]at f1 f2
 have hg:0<Nat.gcd x.natAbs y:=Nat.gcd_pos_of_pos_right _ hy
 have hgy:Nat.gcd x.natAbs y≤y:=Nat.gcd_le_right _ hy
 have en:x.tdiv (Nat.gcd x.natAbs y:Nat)=r.num:=by
  obtain⟨a,ha⟩:=Int.gcd_dvd_left x (y:Int)
  have hgi:(Int.gcd x (y:Int):Int)≠0:=by
   have:=Int.gcd_pos_of_ne_zero_right x (show(y:Int)≠0 by omega)
   omega
  have e0:(Nat.gcd x.natAbs y:Int)=(Int.gcd x (y:Int):Int):=rfl
  have e1:x.fdiv (Int.gcd x (y:Int):Int)=a:=by
   have:=Int.mul_fdiv_cancel_left a hgi
   rwa[←ha]at this
  have e2:x.tdiv (Int.gcd x (y:Int):Int)=a:=by
   have:=Int.mul_tdiv_cancel_left a hgi
   rwa[←ha]at this
  rw[e0,e2,h1,e1]
 have ed:(y:Int)/(Nat.gcd x.natAbs y:Nat)=(r.den:Int):=by rw[f2];rfl
 have hnl:r.num.natAbs≤x.natAbs:=by rw[f1];exact Nat.div_le_self _ _
 have hdl:r.den≤y:=by rw[f2];exact Nat.div_le_self _ _
 have hd0:=den_pos r
 have em:max x (0-x)=(x.natAbs:Int):=by omega
 have em2:max r.num (0-r.num)=(r.num.natAbs:Int):=by omega
 have cg:=fun{h:Hp} {K:AV→Hp→Prop}=>d185 (h:=h) (K:=K) (a:=x.natAbs) (b:=y) (by omega) (by omega)
 have c1:=fun{h:Hp} {K:AV→Hp→Prop}=>u186_1 (h:=h) (K:=K) (n:=r.num.natAbs) (by omega)
 have c2:=fun{h:Hp} {K:AV→Hp→Prop}=>u186_1 (h:=h) (K:=K) (n:=r.den) (by omega)
 have l1:=decP_len (j:=19) (n:=r.num.natAbs) (k:=1) (by omega)
 have l2:=decP_len (j:=19) (n:=r.den) (k:=1) (by omega)
 have ezd:txtZ (r.den:Int)=decP r.den 1:=by unfold txtZ;rw[if_neg (by omega),Int.natAbs_natCast]
 obtain⟨g,hgg⟩:∃g,g=Nat.gcd x.natAbs y:=⟨_,rfl⟩
 rw[←hgg]at hg hgy en ed cg
 have hgi:¬(g:Int)=0:=by omega
 have wn:IntKind.wrap .i64 r.num=r.num:=wrap_i64 (by omega)
 have wd':IntKind.wrap .i64 (r.den:Int)=r.den:=wrap_i64 (by omega)
 have ed2:IntKind.wrap .i64 ((y:Int)/(g:Int))=(r.den:Int):=by rw[ed];exact wd'
 have ed3:(y:Int).tdiv (g:Int)=(r.den:Int):=by rw[←ed];rfl
 have et:txtR r=(if r.num<0 then[45]else[])++(decP r.num.natAbs 1++if r.den=1 then[]else 47::decP r.den 1):=by
  unfold txtR
  rw[ezd]
  unfold txtZ
  by_cases a1:r.den=1<;>by_cases a2:r.num<0<;>simp[a1,a2]
 clear f1 f2 f3 h1 h2
 unfold R.a99
 dsimp only[ACode.post]
 have hgp:0<(g:Int):=by omega
 rw[et]
 by_cases a2:r.num<0<;>by_cases a1:(1:Int)<r.den
 ·have a1':¬r.den=1:=by omega
  repeat' (with_reducible first|simp(disch:=first|exact okD|fail) only[go_sem,seval,k0,k1,em,cg,b_quo',en,ed2,ed3,ed,wn,wd',em2,c1,c2,a2,a1]|(apply Spl.i<;>intro hc))
  rw[if_neg a1']
  simp
 ·have a1':r.den=1:=by omega
  repeat' (with_reducible first|simp(disch:=first|exact okD|fail) only[go_sem,seval,k0,k1,em,cg,b_quo',en,ed2,ed3,ed,wn,wd',em2,c1,c2,a2,a1]|(apply Spl.i<;>intro hc))
  rw[if_pos a1']
  simp
 ·have a1':¬r.den=1:=by omega
  repeat' (with_reducible first|simp(disch:=first|exact okD|fail) only[go_sem,seval,k0,k1,em,cg,b_quo',en,ed2,ed3,ed,wn,wd',em2,c1,c2,a2,a1]|(apply Spl.i<;>intro hc))
  rw[if_neg a1']
  simp
 ·have a1':r.den=1:=by omega
  repeat' (with_reducible first|simp(disch:=first|exact okD|fail) only[go_sem,seval,k0,k1,em,cg,b_quo',en,ed2,ed3,ed,wn,wd',em2,c1,c2,a2,a1]|(apply Spl.i<;>intro hc))
  rw[if_pos a1']
  simp
theorem d99g {x x0 y0:Int} {y:Nat} (hxy:(x0=x∧y0=(y:Int))∨(x0= -x∧y0= -(y:Int))) (hx: -4000000000000000000≤x∧x≤4000000000000000000) (hy:0<y) (hy':y≤4000000000000000000):Gv E3 99 [.int .i64 x0,.int .i64 y0] h (.str (txtR (Rat.divInt x y))):=by
 refine Gv.of (CallWp.fn (fn:=R.a99) rfl rfl rfl ?_)
 have tail:=fun(tm:T AV) k0 k1=>d99_tail (h:=h) (tm:=tm) (x:=x) (y:=y) k0 k1 hx hy hy'
 refine Wp.cut 3 rfl ?_
 generalize ACode.post 3 R.a99.code=rc at tail⊢
 unfold R.a99
 dsimp only[ACode.pre]
 have g1:¬x0< -4000000000000000000:=by omega
 have g2:¬4000000000000000000<x0:=by omega
 have g3:¬y0< -4000000000000000000:=by omega
 have g4:¬4000000000000000000<y0:=by omega
 rcases hxy with⟨rfl,rfl⟩|⟨rfl,rfl⟩
 ·have g5:¬(y:Int)<0:=by omega
  repeat' (with_reducible first|simp(disch:=first|exact okD|fail) only[go_sem,seval,g1,g2,g3,g4,g5]|(apply Spl.i<;>intro hc))
  exact tail _ (by simp(disch:=first|exact okD|fail) only[go_sem,seval]) (by simp(disch:=first|exact okD|fail) only[go_sem,seval])
 ·have g5: -(y:Int)<0:=by omega
  have w1:IntKind.wrap .i64 (0- -x)=x:=(wrap_i64 (by omega)).trans (by omega)
  have w2:IntKind.wrap .i64 (0- -(y:Int))=(y:Int):=(wrap_i64 (by omega)).trans (by omega)
  repeat' (with_reducible first|simp(disch:=first|exact okD|fail) only[go_sem,seval,g1,g2,g3,g4,g5,w1,w2]|(apply Spl.i<;>intro hc))
  exact tail _ (by simp(disch:=first|exact okD|fail) only[go_sem,seval]) (by simp(disch:=first|exact okD|fail) only[go_sem,seval])
theorem d99 {x:Int} {y:Nat} (hx: -4000000000000000000≤x∧x≤4000000000000000000) (hy:0<y) (hy':y≤4000000000000000000):Gv E3 99 [.int .i64 x,.int .i64 y] h (.str (txtR (Rat.divInt x y))):=d99g (.inl ⟨rfl,rfl⟩) hx hy hy'
end
end
end Go.Ae
set_option linter.unusedVariables false
set_option linter.unusedSimpArgs false
set_option maxRecDepth 100000
set_option exponentiation.threshold 1000
namespace Go.Ae
open Bg N Go.Proofs
noncomputable section
theorem dg_dV {b:UInt8} (h:isDig b=true):dg (dV b)=b:=by
 unfold isDig at h
 have h:=of_decide_eq_true h
 apply UInt8.toNat_inj.1
 rw[dg_nat];unfold dV;omega
theorem isDec_cases {l:List UInt8} (h:isDec l=true):l≠[]∧allDig l=true∧(l.headD 0≠48∨l=[48]):=by
 unfold isDec at h
 simp only[Bool.and_eq_true,Bool.or_eq_true,decide_eq_true_eq]at h
 exact⟨h.1.1,h.1.2,h.2⟩
theorem isDec_mk {l:List UInt8} (h1:l≠[]) (h2:allDig l=true) (h3:l.headD 0≠48∨l=[48]):isDec l=true:=by
 unfold isDec
 simp only[Bool.and_eq_true,Bool.or_eq_true,decide_eq_true_eq]
 exact⟨⟨h1,h2⟩,h3⟩
theorem isDec_txt:∀(n:Nat) {l:List UInt8},l.length=n→isDec l=true→decP (decV l) 1=l:=by
 intro n
 induction n with
 |zero=>intro l hl h;obtain⟨h1,_⟩:=isDec_cases h;exact absurd (List.eq_nil_of_length_eq_zero hl) h1
 | succ n ih=>
  intro l hl h
  obtain⟨h1,h2,h3⟩:=isDec_cases h
  obtain⟨m,y,rfl⟩:∃m y,l=m++[y]:=by
   rcases List.eq_nil_or_concat l with h'|⟨m,x,h'⟩
   ·exact absurd h' h1
   ·exact⟨m,x,by simpa using h'⟩
  have hy:isDig y=true:=by
   unfold allDig at h2;exact(List.all_eq_true.1 h2) y (by simp)
  have hm:allDig m=true:=by
   unfold allDig at h2⊢;rw[List.all_append,Bool.and_eq_true]at h2;exact h2.1
  have hv:decV (m++[y])=decV m*10+dV y:=by
   rw[decV_append];show decV m*10^1+decF 0 [y]=_;rw[decF_cons,decF_nil];omega
  have hyl:dV y<10:=by unfold dV;unfold isDig at hy;have:=of_decide_eq_true hy;omega
  rw[hv]
  match m,hm,h3,hl with
  | [],_,_,_=>
   rw[show decV []=0 from rfl,Nat.zero_mul,Nat.zero_add,decP_one_small hyl,dg_dV hy];rfl
  | c ::r,hm,h3,hl=>
   have hc:c≠48:=by
    rcases h3 with h3|h3
    ·simpa using h3
    ·exact absurd (congrArg List.length h3) (by simp)
   have hd:isDec (c::r)=true:=isDec_mk (by simp) hm (Or.inl (by simpa using hc))
   have hl':(c::r).length=n:=by simpa using hl
   have e:=ih hl' hd
   have hp:0<decV (c::r):=by
    rcases Nat.eq_zero_or_pos (decV (c::r))with z|z
    ·rw[z,decP_one_small (by decide)]at e
     have e1:dg 0=c:=by injection e
     have e2:dg 0=48:=by decide+kernel
     exact absurd (e1.symm.trans e2) hc
    ·exact z
   have ed:dg (decV (c::r)*10+dV y)=y:=(dg_mod (n:=decV (c::r)*10+dV y) (m:=dV y) (by omega)).trans (dg_dV hy)
   rw[decP_one_big (by omega),show(decV (c::r)*10+dV y)/10=decV (c::r) by omega,e,ed]
theorem isDec_eq {l:List UInt8} (h:isDec l=true):decP (decV l) 1=l:=isDec_txt _ rfl h
theorem slash_split:∀{t:List UInt8},slashV t<t.length→t=t.take (slashV t)++47::t.drop (slashV t+1):=by
 intro t
 induction t with
 |nil=>intro h;simp at h
 | cons b r ih=>
  intro h
  by_cases hb:b=47
  ·subst hb
   have:slashV (47::r)=0:=by unfold slashV;simp
   rw[this];rfl
  ·have e:slashV (b::r)=slashV r+1:=by
    unfold slashV
    rw[List.takeWhile_cons_of_pos (by simpa using hb),List.length_cons]
   rw[e]at h⊢
   have h':=ih (by simpa using h)
   conv=>lhs;rw[h']
   rfl
def unS (s:List UInt8):List UInt8:=if s.head?=some 45 then s.drop 1 else s
def numU (s:List UInt8):List UInt8:=(unS s).take (slashV (unS s))
def denU (s:List UInt8):List UInt8:=(unS s).drop (slashV (unS s)+1)
def brk (s:List UInt8):Bool:=decide (slashV (unS s)<(unS s).length)
def formS (s:List UInt8):Bool:=isDec (numU s)&&(!(decide (s.head?=some 45))||decide (numU s≠[48]))&&(!(brk s)||(isDec (denU s)&&decide (denU s≠[48])&&decide (denU s≠[49])))
def checkV (s:List UInt8):Int:=
 if formS s=false then 1
 else if 600<(numU s).length∨600<(denU s).length then 4
 else if brk s=true∧Nat.gcd (decV (numU s)) (decV (denU s))≠1 then 1 else 0
def okR (r:Rat):Bool:=decide (r.num.natAbs<10^600∧r.den<10^600)
theorem formS_cases {s:List UInt8} (h:formS s=true):isDec (numU s)=true∧(s.head?=some 45→numU s≠[48])∧(brk s=true→isDec (denU s)=true∧denU s≠[48]∧denU s≠[49]):=by
 unfold formS at h
 simp only[Bool.and_eq_true,Bool.or_eq_true,Bool.not_eq_true',decide_eq_true_eq,decide_eq_false_iff_not]at h
 obtain⟨⟨a,b⟩,c⟩:=h
 refine⟨a,fun e=>?_,fun e=>?_⟩
 ·rcases b with b|b
  ·exact absurd e b
  ·exact b
 ·rcases c with c|c
  ·rw[c]at e;cases e
  ·exact⟨c.1.1,c.1.2,c.2⟩
theorem decV_48 {l:List UInt8} (h:isDec l=true) (h0:l≠[48]):decV l≠0:=by
 intro e
 have:=isDec_eq h
 rw[e]at this
 exact h0 (this.symm.trans (by decide+kernel))
theorem decV_49 {l:List UInt8} (h:isDec l=true) (h0:l≠[49]):decV l≠1:=by
 intro e
 have:=isDec_eq h
 rw[e]at this
 exact h0 (this.symm.trans (by decide+kernel))
theorem unS_eq (s:List UInt8):s=if s.head?=some 45 then 45::unS s else unS s:=by
 unfold unS
 by_cases h:s.head?=some 45
 ·rw[if_pos h,if_pos h]
  match s,h with
  | c::r,h=>
   have:c=45:=by simpa using h
   rw[this];rfl
 ·rw[if_neg h,if_neg h]
theorem formS_txt {s:List UInt8} (h:formS s=true) (hg:brk s=true→Nat.gcd (decV (numU s)) (decV (denU s))=1):
  ∃r:Rat,s=txtR r∧r.num.natAbs=decV (numU s)∧r.den=(if brk s=true then decV (denU s)else 1):=by
 obtain⟨h1,h2,h3⟩:=formS_cases h
 have en:=isDec_eq h1
 have ez:∀{t:List UInt8},s=(if s.head?=some 45 then 45::(numU s++t)else numU s++t)→s=txtZ (sgn (decide (s.head?=some 45)) (decV (numU s)))++t:=by
  intro t e
  by_cases c:s.head?=some 45
  ·have h0:=decV_48 h1 (h2 c)
   rw[if_pos c]at e
   rw[decide_eq_true c]
   have:txtZ (sgn true (decV (numU s)))=45::numU s:=by
    rw[show sgn true (decV (numU s))= -(decV (numU s):Int) from rfl]
    unfold txtZ
    rw[if_pos (by omega),Int.natAbs_neg,Int.natAbs_natCast,en]
   rw[this];exact e
  ·rw[if_neg c]at e
   rw[decide_eq_false c]
   have:txtZ (sgn false (decV (numU s)))=numU s:=by
    rw[show sgn false (decV (numU s))=(decV (numU s):Int) from rfl]
    unfold txtZ
    rw[if_neg (by omega),Int.natAbs_natCast,en]
   rw[this];exact e
 have hs:=unS_eq s
 have ha:(sgn (decide (s.head?=some 45)) (decV (numU s))).natAbs=decV (numU s):=by
  unfold sgn;split<;>omega
 by_cases c:brk s=true
 ·obtain⟨d1,d2,d3⟩:=h3 c
  have hd0:=decV_48 d1 d2
  have hd1:=decV_49 d1 d3
  refine⟨⟨sgn (decide (s.head?=some 45)) (decV (numU s)),decV (denU s),hd0,?_⟩,?_,ha,by rw[if_pos c]⟩
  ·rw[ha];exact hg c
  ·have sp:=slash_split (t:=unS s) (by unfold brk at c;exact of_decide_eq_true c)
   have:unS s=numU s++47::denU s:=sp
   rw[this]at hs
   have:=ez hs
   unfold txtR
   rw[if_neg hd1]
   have ed:txtZ ((decV (denU s):Nat):Int)=denU s:=by
    unfold txtZ
    rw[if_neg (by omega),Int.natAbs_natCast,isDec_eq d1]
   rw[ed];exact this
 ·refine⟨⟨sgn (decide (s.head?=some 45)) (decV (numU s)),1,by decide,Nat.coprime_one_right _⟩,?_,ha,by rw[if_neg c]⟩
  have hk:slashV (unS s)=(unS s).length:=by
   have:=slash_le (unS s)
   have:¬slashV (unS s)<(unS s).length:=fun e=>c (decide_eq_true e)
   omega
  have:unS s=numU s++[]:=by unfold numU;rw[hk,List.take_length,List.append_nil]
  rw[this]at hs
  have:=ez hs
  rw[List.append_nil]at this
  unfold txtR
  rw[if_pos rfl];exact this
theorem checkV_zero {s:List UInt8} (h:checkV s=0):∃r:Rat,s=txtR r∧okR r=true:=by
 unfold checkV at h
 by_cases hf:formS s=false
 ·rw[if_pos hf]at h;exact absurd h (by decide)
 ·rw [if_neg hf]at h
  have hf:formS s=true:=by simpa using hf
  by_cases hl:600<(numU s).length∨600<(denU s).length
  ·rw[if_pos hl]at h;exact absurd h (by decide)
  ·rw [if_neg hl]at h
   by_cases hg:brk s=true∧Nat.gcd (decV (numU s)) (decV (denU s))≠1
   ·rw[if_pos hg]at h;exact absurd h (by decide)
   ·obtain⟨r,e,e1,e2⟩:=formS_txt hf (fun b=>Classical.byContradiction fun c=>hg ⟨b,c⟩)
    obtain⟨h1,h2,h3⟩:=formS_cases hf
    refine⟨r,e,decide_eq_true ⟨?_,?_⟩⟩
    ·rw[e1]
     exact Nat.lt_of_lt_of_le (decV_lt (isDec_cases h1).2.1) (Nat.pow_le_pow_right (by decide) (by omega))
    ·rw[e2]
     split
     ·rename_i hb
      exact Nat.lt_of_lt_of_le (decV_lt (isDec_cases (h3 hb).1).2.1) (Nat.pow_le_pow_right (by decide) (by omega))
     ·exact Nat.one_lt_pow (by decide) (by decide)
theorem decP_h45 (n:Nat) (t:List UInt8):(decP n 1++t).head?≠some 45:=by
 have hne:=decP_ne n
 have ha:=decP_all n 1
 match hq:decP n 1,hne with
 | c ::l,_=>
  rw[hq]at ha
  have hc:isDig c=true:=by
   unfold allDig at ha
   exact(List.all_eq_true.1 ha) c (by simp)
  have h45:c≠45:=by rintro rfl;exact absurd hc (by decide)
  simpa using h45
theorem absR_h45 (r:Rat):(absR r).head?≠some 45:=by
 unfold absR
 split
 ·have:=decP_h45 r.num.natAbs []
  rwa[List.append_nil]at this
 ·exact decP_h45 _ _
theorem txtR_head (r:Rat):(txtR r).head?=some 45↔r.num<0:=by
 rw[txtR_abs]
 by_cases c:r.num<0
 ·rw[if_pos c];simp[c]
 ·rw[if_neg c]
  exact⟨fun e=>absurd e (absR_h45 r),fun e=>absurd e c⟩
theorem unS_txt (r:Rat):unS (txtR r)=absR r:=by
 unfold unS
 by_cases c:r.num<0
 ·rw[if_pos ((txtR_head r).2 c),txtR_abs,if_pos c];rfl
 ·rw[if_neg (fun e=>c ((txtR_head r).1 e)),txtR_abs,if_neg c]
theorem absR_abs (r:Rat):∃q:Rat,absR r=txtR q∧q.num=r.num.natAbs∧q.den=r.den:=by
 refine⟨⟨r.num.natAbs,r.den,r.den_nz,by rw[Int.natAbs_natCast];exact r.reduced⟩,?_,rfl,rfl⟩
 unfold absR txtR txtZ
 simp only[Int.natAbs_natCast]
 rw[if_neg (show ¬((r.num.natAbs:Nat):Int)<0 by omega)]
theorem slash_abs (r:Rat):slashV (absR r)=(decP r.num.natAbs 1).length:=by
 obtain⟨q,e,e1,e2⟩:=absR_abs r
 rw[e,slash_txt,e1]
 unfold txtZ
 rw[if_neg (by omega),Int.natAbs_natCast]
theorem txtZ_nat (n:Nat):txtZ (n:Int)=decP n 1:=by unfold txtZ;rw[if_neg (by omega),Int.natAbs_natCast]
theorem numU_txt (r:Rat):numU (txtR r)=decP r.num.natAbs 1:=by
 unfold numU
 rw[unS_txt,slash_abs]
 unfold absR
 split
 ·rw[List.take_length]
 ·rw[List.take_left]
theorem denU_txt (r:Rat):denU (txtR r)=if r.den=1 then[]else decP r.den 1:=by
 unfold denU
 rw[unS_txt,slash_abs]
 unfold absR
 split
 ·rw[List.drop_eq_nil_of_le (by omega)]
 ·rw[←List.drop_drop,List.drop_left,txtZ_nat];rfl
theorem brk_txt (r:Rat):brk (txtR r)=decide (r.den≠1):=by
 unfold brk
 rw[unS_txt,slash_abs]
 apply decide_eq_decide.2
 unfold absR
 split
 ·rename_i h;simp[h]
 ·rename_i h;simp[h]
theorem decP_le {n k:Nat} (hk:1≤k):(decP n 1).length≤k↔n<10^k:=by
 constructor
 ·intro h
  have:=decV_lt (decP_all n 1)
  rw[decP_val]at this
  exact Nat.lt_of_lt_of_le this (Nat.pow_le_pow_right (by decide) h)
 ·intro h
  by_cases c:n=0
  ·subst c
   rw[decP_one_small (by decide)]
   show 1≤k
   exact hk
  ·have:=decP_len (j:=k) (n:=n) (k:=0) h
   rw[decP_01 (by omega)]at this
   exact this
theorem decP_ge {n:Nat}:(decP n 1).length≤600↔n<10^600:=decP_le (by decide)
theorem largeS_txt (r:Rat):largeS (txtR r)= !(okR r):=by
 have hk:=slash_txt r
 have hd:=den_pos r
 have e1:numS (txtR r)=txtZ r.num:=by
  unfold numS
  rw[hk]
  unfold txtR
  split
  ·rw[List.take_length]
  ·rw[List.take_left]
 have e2:denS (txtR r)=decP r.den 1:=by
  unfold denS
  rw[hk]
  unfold txtR
  split
  ·rename_i h
   rw[if_pos rfl,h]
   decide+kernel
  ·rw[if_neg (by simp),←List.drop_drop,List.drop_left,txtZ_nat];rfl
 have e3:absS (txtZ r.num)=decP r.num.natAbs 1:=by
  have hz:txtZ r.num=txtR (Rat.divInt r.num 1):=by
   unfold txtR
   rw[(divInt_one (p:=r.num)).2,(divInt_one (p:=r.num)).1,if_pos rfl]
  have hs:=sgn_txtR (Rat.divInt r.num 1)
  rw[←hz,(divInt_one (p:=r.num)).1]at hs
  unfold absS
  rw[hs]
  unfold txtZ
  by_cases c:r.num<0
  ·rw[if_pos c,if_pos (by decide),if_pos c];rfl
  ·rw[if_neg c,if_neg (by split<;>decide),if_neg c]
 unfold largeS
 rw[e1,e2,e3]
 have hn:=decP_ge (n:=r.num.natAbs)
 have hd:=decP_ge (n:=r.den)
 unfold okR
 by_cases c1:r.num.natAbs<10^600
 ·by_cases c2:r.den<10^600
  ·have a1:=hn.2 c1
   have a2:=hd.2 c2
   rw[decide_eq_false (by omega),decide_eq_false (by omega),decide_eq_true ⟨c1,c2⟩];rfl
  ·have a2:600<(decP r.den 1).length:=Nat.lt_of_not_le fun e=>c2 (hd.1 e)
   rw[decide_eq_true a2,decide_eq_false (p:=r.num.natAbs<10^600∧r.den<10^600) (fun e=>c2 e.2),Bool.or_true];rfl
 ·have a1:600<(decP r.num.natAbs 1).length:=Nat.lt_of_not_le fun e=>c1 (hn.1 e)
  rw[decide_eq_true a1,decide_eq_false (p:=r.num.natAbs<10^600∧r.den<10^600) (fun e=>c1 e.1),Bool.true_or];rfl
end
end Go.Ae
set_option linter.unusedVariables false
set_option linter.unusedSimpArgs false
set_option maxRecDepth 100000
set_option exponentiation.threshold 100000
set_option maxHeartbeats 2000000
namespace Go.Ae
open Bg N Go.Proofs
noncomputable section
theorem digits_decP (n:Nat):Lib.decDigits n=decP n 1:=by
 have:=decP_pad n 1 (by omega)
 have hl:1≤(Lib.decDigits n).length:=by
  rw[Lib.decDigits_length];exact Lib.nDigits_pos n
 rw[show 1-(Lib.decDigits n).length=0 by omega]at this
 exact this
section
variable {h h' hp:Hp} {K:AV→Hp→Prop} {tm:T AV} {z:Int}
theorem u299 {n:Nat} (hn:n<18446744073709551616):CallWp E2 299 [.int .u64 (n:Int),.int .i64 10] h K↔K (.str (decP n 1)) h:=by
 rw[CallWp.prim_iff (p:=L.p299) rfl rfl]
 have:L.p299 [.int .u64 (n:Int),.int .i64 10] h=some (.str (Lib.decDigits n),h):=by
  simp only[L.p299]
  rw[if_pos (by omega),Int.toNat_natCast]
 rw[this,digits_decP];exact Iff.rfl
theorem pad18 {r:Nat} (hr:r<1000000000000000000):(decP r 1).length≤18∧Lib.repeatL [48] (18-(decP r 1).length)++decP r 1=decP r 18:=by
 have h1:=decP_pad r 18 (by omega)
 rw[digits_decP]at h1
 exact⟨(decP_le (by decide)).2 hr,h1⟩
theorem dec18 {v:Nat} (hq:0<v/1000000000000000000):decP v 1=decP (v/1000000000000000000) 1++decP (v%1000000000000000000) 18:=by
 have:=decP_split 18 (v/1000000000000000000) (v%1000000000000000000) hq (Nat.mod_lt _ (by decide))
 rw[show(10:Nat)^18=1000000000000000000 from rfl,Nat.div_add_mod']at this
 exact this
theorem OwnZ.wp2 {h0 h:Hp} {v:AV} {n b u:Nat} {cs:List AV} {x:AV} {K:AV→Hp→Prop} (hu:u=h.next) (G:Grs h0 h) (O:OwnZ 1 h0 h v n cs) (hl:(n+1)*b≤140737488355328) (hl2:n+1≤140737488355328)
  (hk:∀v' h',Grs h0 h'→OwnZ 1 h0 h' v' (n+1) (cs++[x])→(∀t,t<h.next→(∀t' o n',v= .sl t' o n' 1→t≠t')→h'.get t=h.get t)→h.next≤h'.next→h.clk≤h'.clk→K v' h'):Some2 (appA (h.push fun st=> .row [x] true st) 1 b v (.sl u 0 1 1)) K:=by
 subst hu
 have hc:cellsOf (h.push fun st=> .row [x] true st) 1 (.sl h.next 0 1 1)=some [x]:=cells_z Hp.push_same rfl
 have hn0:=G.next
 obtain⟨hlen,⟨rfl,rfl⟩|⟨t,st,rfl,hg,h1,h2,h3⟩⟩:=O
 ·have hcs:cs=[]:=List.length_eq_zero_iff.1 (by omega)
  subst hcs
  have e:appA (h.push fun st=> .row [x] true st) 1 b .nils (.sl h.next 0 1 1)=some (.sl (h.next+1) 0 1 1,(h.push fun st=> .row [x] true st).push fun st=> .row [x] true st):=by
   unfold appA
   rw[hc]
   simp only[lenA]
   rw[if_pos ⟨by omega,by omega,by omega⟩]
   rfl
  rw[e]
  refine hk _ _ G.push.push ⟨by simp,.inr ⟨h.next+1,(h.push fun st=> .row [x] true st).clk+1,rfl,Hp.push_same,by omega,?_,Nat.le_refl _⟩⟩ (fun t ht _=>?_) ?_ ?_
  ·show h.next+1<h.next+1+1;omega
  ·rw[Hp.push_other (by show t≠h.next+1;omega),Hp.push_other (by omega)]
  ·show h.next≤h.next+1+1;omega
  ·show h.clk≤h.clk+1+1;omega
 ·have hgt:(h.push fun st=> .row [x] true st).get t=some (.row cs true st):=(Hp.push_other (by omega)).trans hg
  have e:appA (h.push fun st=> .row [x] true st) 1 b (.sl t 0 n 1) (.sl h.next 0 1 1)=some (.sl (h.next+1) 0 (n+1) 1,((h.push fun st=> .row [x] true st).put t fun s=> .dead s).push fun st=> .row (cs++[x]) true st):=by
   unfold appA
   rw[hc]
   simp only[lenA]
   rw[hgt]
   simp only
   rw[if_pos ⟨trivial,by omega,hl,hl2⟩]
   simp only[List.drop_zero,←hlen,List.take_length]
   rfl
  rw[e]
  refine hk _ _ ((G.push.put h1).push) ⟨by simp[hlen,Nat.add_mul],.inr ⟨h.next+1,((h.push fun st=> .row [x] true st).put t fun s=> .dead s).clk+1,rfl,Hp.push_same,by omega,?_,Nat.le_refl _⟩⟩ (fun t1 ht1 hne=>?_) ?_ ?_
  ·show h.next+1<h.next+1+1;omega
  ·have:=hne t 0 n rfl
   rw[Hp.push_other (by show t1≠h.next+1;omega),Hp.put_other this,Hp.push_other (by omega)]
  ·show h.next≤h.next+1+1;omega
  ·show h.clk≤h.clk+1+1+1;omega
theorem Sq.app {h0 h h':Hp} {v w:AV} {n:Nat} {l:List Nat} {P:List (List UInt8)} (S:Sq .u64 h w l) (O:OwnZ 1 h0 h v n (P.map AV.str)) (hn:P=[]→v= .nils)
  (fr:∀t,t<h.next→(∀t' o n',v= .sl t' o n' 1→t≠t')→h'.get t=h.get t) (hnx:h.next≤h'.next) (hck:h.clk≤h'.clk):Sq .u64 h' w l:=by
 rcases S with S|⟨t,o,own,st,L,e,hg,h1,h2,h3,h4⟩
 ·exact .inl S
 ·refine .inr ⟨t,o,own,st,L,e,(fr t h3 fun t' o' n' ev htt=>?_).trans hg,h1,h2,Nat.lt_of_lt_of_le h3 hnx,Nat.le_trans h4 hck⟩
  subst htt
  obtain⟨hlen,⟨ev',_⟩|⟨t6,st6,ev',hg6,_⟩⟩:=O
  ·rw[ev']at ev;cases ev
  ·rw[ev']at ev
   injection ev with q1
   subst q1
   rw[hg6]at hg
   have hr:P.map AV.str=L.map (wd .u64):=by injection (Option.some.inj hg)
   cases P with
   |nil=>rw[hn rfl]at ev';cases ev'
   | cons p P=>
    cases L with
    |nil=>simp at hr
    |cons y L=>simp[wd]at hr
theorem nil_of {l:List Nat} (hn:Norm l) (h:vl 18446744073709551616 l=0):l=[]:=by
 rcases Classical.em (l=[])with c|c
 ·exact c
 ·have:=norm_pos (B:=18446744073709551616) (by decide) hn c
  omega
theorem str_head {t o n:Nat} {s:Int} (iv:IsI h (.int .i64 s) (.sl t o n 1) z) (lz:Lim 3999 z):
    Wp E2 (S.a264.code.pre 6) { tm:=enterA [.agg [.int .i64 s,.sl t o n 1]] 0 .nil,hp:=h } (fun e st=>e= .nrm∧Grs h st.hp∧val st.tm (.t 3)= .bool (decide (z<0))∧
      ∃(v6:AV) (P:List (List UInt8)),val st.tm (.t 6)=v6∧OwnZ 1 h st.hp v6 P.length (P.map AV.str)∧P≠[]∧P.reverse.flatten=decP z.natAbs 1∧P.length≤P.reverse.flatten.length):=by
  have hD:(decP z.natAbs 1).length≤79980:=by
    refine(decP_le (by decide)).2 ?_
    have h1:(18446744073709551616:Nat)^3999≤(10^20)^3999:=Nat.pow_le_pow_left (by decide) _
    have h2:((10:Nat)^20)^3999=10^79980:=by rw[←Nat.pow_mul]
    rw[←h2]
    exact Nat.lt_of_lt_of_le lz h1
  have hne:=decP_ne z.natAbs
  obtain⟨D,hDd⟩:∃D,D=decP z.natAbs 1:=⟨_,rfl⟩
  have hz0:z.natAbs≠0:=by
    rcases iv with⟨_,e,_⟩|⟨_,_,_,l,_,_,_,_,hb,_,hv⟩
    · cases e
    · rcases hv with⟨_,rfl⟩|⟨_,rfl⟩<;>omega
  unfold S.a264
  dsimp only[ACode.pre]
  repeat' (with_reducible first|simp(disch:=first|exact okD|fail) only[go_sem,seval]|(apply Spl.i<;>intro hc))
  refine Gp.wp (c202 (iv.grs okG)) fun v k a b u ⟨w',l0,e0,S0,D0,N0,V0,L0⟩=>?_
  subst e0
  repeat' (with_reducible first|simp(disch:=first|exact okD|fail) only[go_sem,seval]|(apply Spl.i<;>intro hc))
  refine Wp.loopI (fun m st=>∃(v4 v5 v6:AV) (l:List Nat) (P:List (List UInt8)),val st.tm (.t 3)= .bool (decide (z<0))∧val st.tm (.t 4)=v4∧val st.tm (.t 5)=v5∧val st.tm (.t 6)=v6∧Grs h st.hp∧Sq .u64 st.hp v4 l∧Sq .u64 st.hp v5 [1000000000000000000]∧Dg 18446744073709551616 l∧Norm l∧l.length≤10000∧
    OwnZ 1 h st.hp v6 P.length (P.map AV.str)∧(P=[]→v6= .nils)∧P.length≤P.reverse.flatten.length∧decP z.natAbs 1=(if l=[]then[]else decP (vl 18446744073709551616 l) 1)++P.reverse.flatten∧vl 18446744073709551616 l=m) (n:=z.natAbs) ?_ ?_
  · refine⟨w',_,.nils,l0,[],by simp(disch:=first|exact okD|fail) only[go_sem,seval],by simp(disch:=first|exact okD|fail) only[go_sem,seval],by simp(disch:=first|exact okD|fail) only[go_sem,seval],by simp(disch:=first|exact okD|fail) only[go_sem,seval],by exact okG,S0.grs okG,(AtS.push (cs:=[1000000000000000000].map (wd .u64))).sq rfl,D0,N0,L0,OwnZ.nil,fun _=>rfl,by simp,?_,V0⟩
    have:l0≠[]:=by rintro rfl;rw[vl_nil]at V0;omega
    rw[if_neg this,V0];simp
  · rintro m ⟨tm,hp⟩ ⟨v4,v5,v6,l,P,h3,h4,h5,h6,hG,S4,S5,D4,N4,hl4,O6,hPn,hPl,hD4,rfl⟩
    simp only at h3 h4 h5 h6 hG S4 S5 O6
    have ln:=S4.rd.len
    by_cases hz:l=[]
    · subst hz
      simp only[List.length_nil]at ln
      repeat' (with_reducible first|simp(disch:=first|exact okD|fail) only[go_sem,seval,h4,ln]|(apply Spl.i<;>intro hc))
      refine⟨hG,h3,v6,P,h6,O6,?_,?_,hPl⟩
      · rintro rfl
        rw[if_pos rfl]at hD4
        exact hne (by rw[hD4];rfl)
      · rw[hD4,if_pos rfl];rfl
    · have hp':(0:Int)<l.length:=by
        have:l.length≠0:=by simpa using hz
        omega
      rw[if_neg hz]at hD4
      have hPD:P.reverse.flatten.length≤79980:=by
        have:=congrArg List.length hD4
        rw[List.length_append]at this;omega
      have hvp:=norm_pos (B:=18446744073709551616) (by decide) N4 hz
      repeat' (with_reducible first|simp(disch:=first|exact okD|fail) only[go_sem,seval,h4,h5,ln,hp']|(apply Spl.i<;>intro hc))
      refine Gp.wp (c265 S4 S5 D4 (Dg.cons (by decide) Dg.nil) N4 (by simp[Norm]) (by omega) (by simp) (by simp)) fun v7 k7 a7 b7 u7 ⟨vq,vr,lq,lr,e7,Sq',Sr,Dq,Dr,Nq,Nr,Vq,Vr⟩=>?_
      subst e7
      have e18:vl 18446744073709551616 [1000000000000000000]=1000000000000000000:=by simp[vl]
      rw[e18]at Vq Vr
      have hr18:=Nat.mod_lt (vl 18446744073709551616 l) (show 1000000000000000000>0 by decide)
      obtain⟨r,hr⟩:∃r,r=vl 18446744073709551616 l%1000000000000000000:=⟨_,rfl⟩
      obtain⟨q,hq⟩:∃q,q=vl 18446744073709551616 l/1000000000000000000:=⟨_,rfl⟩
      have hlt:q<vl 18446744073709551616 l:=by rw[hq];exact Nat.div_lt_self hvp (by decide)
      have hdec:0<q→decP (vl 18446744073709551616 l) 1=decP q 1++decP r 18:=fun e=>by rw[hq,hr];exact dec18 (by rw[←hq];exact e)
      have hdec0:q=0→vl 18446744073709551616 l=r:=fun e=>by
        have:=Nat.div_add_mod (vl 18446744073709551616 l) 1000000000000000000
        rw[←hq,←hr,e]at this;omega
      rw[←hr]at Vr hr18
      rw[←hq]at Vq
      obtain⟨p1,p2⟩:=pad18 hr18
      have lnr:=Sr.rd.len
      have lnq:=Sq'.rd.len
      have adr:=Sr.rd.adr
      have e00:(0:Int).toNat=0:=rfl
      have hql:lq.length≤10000:=by
        refine Nat.le_trans (few9 (B:=18446744073709551616) (by decide) Nq ?_) hl4
        rw[Vq];exact Nat.lt_trans hlt (vl_lt (by decide) D4)
      have hG7:Grs h (hp.ov k7 u7):=hG.ov
      have O7:=O6.grs (⟨_,_,u7⟩:Grs hp (hp.ov k7 u7))
      have S57:=S5.grs (⟨_,_,u7⟩:Grs hp (hp.ov k7 u7))
      have fin:∀(x:List UInt8) (v':AV) (h':Hp),x≠[]→(0<q→x=decP r 18)→(q=0→x=decP r 1)→Grs h h'→OwnZ 1 h h' v' (P.length+1) (P.map AV.str++[AV.str x])→
          (∀t,t<(hp.ov k7 u7).next→(∀t' o n',v6= .sl t' o n' 1→t≠t')→h'.get t=(hp.ov k7 u7).get t)→(hp.ov k7 u7).next≤h'.next→(hp.ov k7 u7).clk≤h'.clk→
          (Sq .u64 h' vq lq∧Sq .u64 h' v5 [1000000000000000000]∧OwnZ 1 h h' v' (P++[x]).length ((P++[x]).map AV.str)∧(P++[x]).length≤(P++[x]).reverse.flatten.length∧decP z.natAbs 1=(if lq=[]then[]else decP (vl 18446744073709551616 lq) 1)++(P++[x]).reverse.flatten):=by
        intro x v' h' hx h1 h2 gh O' fr f1 f2
        have hxl:0<x.length:=List.length_pos_iff.2 hx
        have efl:(P++[x]).reverse.flatten=x++P.reverse.flatten:=by simp
        refine⟨Sq'.app O7 hPn fr f1 f2,S57.app O7 hPn fr f1 f2,?_,?_,?_⟩
        · rw[List.map_append,List.length_append];exact O'
        · rw[efl,List.length_append,List.length_append,List.length_cons,List.length_nil]
          omega
        · rw[hD4,efl]
          rcases Nat.eq_zero_or_pos q with e|e
          · have:lq=[]:=nil_of Nq (by rw[Vq,e])
            rw[if_pos this,hdec0 e,h2 e];rfl
          · have:lq≠[]:=by rintro rfl;rw[vl_nil]at Vq;omega
            rw[if_neg this,Vq,hdec e,h1 e,List.append_assoc]
      have e0:((0:Nat):Int)=0:=rfl
      have hlp:=congrArg List.length p2
      rw[List.length_append,decP_len' 18 r (by omega)]at hlp
      have hne1:=decP_ne r
      have c18:(decP r 18)≠[]:=fun e=>by have:=decP_len' 18 r (by omega);rw[e]at this;simp at this
      rcases Nat.eq_zero_or_pos r with hr0|hr0
      · have elr:lr=[]:=nil_of Nr (by rw[Vr,hr0])
        rw[elr,List.length_nil]at lnr
        have d48:decP r 1=[48]:=by rw[hr0];decide+kernel
        rw[d48]at p2 hne1 hlp
        rcases Nat.eq_zero_or_pos q with hq0|hq0
        · have elq:lq=[]:=nil_of Nq (by rw[Vq,hq0])
          have lnq':=lnq
          rw[elq,List.length_nil]at lnq'
          repeat' (with_reducible first|simp(disch:=first|exact okD|fail) only[go_sem,seval,h3,h4,h5,h6,lnr,lnq',e0,Int.lt_irrefl,w_app]|(apply Spl.i<;>intro hc))
          refine OwnZ.wp2 (h0:=h) (b:=16) (by simp only[Hp.ov_next]) hG7 O7 (by omega) (by omega) fun v' h' G' O' fr f1 f2=>?_
          obtain⟨g1,g2,g3,g4,g5⟩:=fin _ v' h' hne1 (fun e=>absurd e (by omega)) (fun _=>d48.symm) G' O' fr f1 f2
          repeat' (with_reducible first|simp(disch:=first|exact okD|fail) only[go_sem,seval,h3,h4,h5,h6]|(apply Spl.i<;>intro hc))
          exact⟨q,hlt,vq,v5,v',lq,P++[[48]],rfl,rfl,rfl,G',g1,g2,Dq,Nq,hql,g3,by simp,g4,g5,Vq⟩
        · have lnq0:lq.length≠0:=fun e=>by
            have:=List.length_eq_zero_iff.1 e
            rw[this,vl_nil]at Vq;omega
          have lnq':(0:Int)<lq.length:=by omega
          have p2':Lib.repeatL [48] 17++[48]=decP r 18:=p2
          have hl17:(Lib.repeatL [48] 17).length=17:=by
            have:(Lib.repeatL [48] 17).length+1=18:=hlp
            omega
          have cR:=fun{h:Hp} {K:AV→Hp→Prop}=>c221 (h:=h) (K:=K) (s:=[48]) (n:=17) (by decide)
          have t17:(17:Int).toNat=17:=rfl
          rw[t17]at cR
          repeat' (with_reducible first|simp(disch:=first|exact okD|fail) only[go_sem,seval,h3,h4,h5,h6,lnr,lnq,lnq',e0,Int.lt_irrefl,cR,p2',hl17,w_app]|(apply Spl.i<;>intro hc))
          refine OwnZ.wp2 (h0:=h) (b:=16) (by simp only[Hp.ov_next]) hG7 O7 (by omega) (by omega) fun v' h' G' O' fr f1 f2=>?_
          obtain⟨g1,g2,g3,g4,g5⟩:=fin _ v' h' c18 (fun _=>rfl) (fun e=>absurd e (by omega)) G' O' fr f1 f2
          repeat' (with_reducible first|simp(disch:=first|exact okD|fail) only[go_sem,seval,h3,h4,h5,h6]|(apply Spl.i<;>intro hc))
          exact⟨q,hlt,vq,v5,v',lq,P++[decP r 18],rfl,rfl,rfl,G',g1,g2,Dq,Nq,hql,g3,by simp,g4,g5,Vq⟩
      · have elr:lr=[r]:=norm_inj (B:=18446744073709551616) (by decide) Dr (Dg.cons (by omega) Dg.nil) Nr (by simp[Norm];omega) (by rw[Vr];simp[vl])
        have ldr:=Sr.rd.load 0 (by rw[elr];simp)
        rw[elr,List.getD_cons_zero,Nat.add_zero]at ldr
        rw[elr,List.length_cons,List.length_nil,Nat.zero_add]at lnr
        rw[elr,List.length_cons,List.length_nil,Nat.zero_add]at adr
        have e1:((1:Nat):Int)=1:=rfl
        rw[e1]at lnr adr
        have cF:=fun{h:Hp} {K:AV→Hp→Prop}=>u299 (h:=h) (K:=K) (n:=r) (by omega)
        rcases Nat.eq_zero_or_pos q with hq0|hq0
        · have elq:lq=[]:=nil_of Nq (by rw[Vq,hq0])
          have lnq':=lnq
          rw[elq,List.length_nil]at lnq'
          repeat' (with_reducible first|simp(disch:=first|exact okD|fail) only[go_sem,seval,h3,h4,h5,h6,lnr,lnq',adr,e00,ldr,cF,e0,Int.lt_irrefl,w_app]|(apply Spl.i<;>intro hc))
          refine OwnZ.wp2 (h0:=h) (b:=16) (by simp only[Hp.ov_next]) hG7 O7 (by omega) (by omega) fun v' h' G' O' fr f1 f2=>?_
          obtain⟨g1,g2,g3,g4,g5⟩:=fin _ v' h' hne1 (fun e=>absurd e (by omega)) (fun _=>rfl) G' O' fr f1 f2
          repeat' (with_reducible first|simp(disch:=first|exact okD|fail) only[go_sem,seval,h3,h4,h5,h6]|(apply Spl.i<;>intro hc))
          exact⟨q,hlt,vq,v5,v',lq,P++[decP r 1],rfl,rfl,rfl,G',g1,g2,Dq,Nq,hql,g3,by simp,g4,g5,Vq⟩
        · have lnq0:lq.length≠0:=fun e=>by
            have:=List.length_eq_zero_iff.1 e
            rw[this,vl_nil]at Vq;omega
          have lnq':(0:Int)<lq.length:=by omega
          have cR:=fun{h:Hp} {K:AV→Hp→Prop}=>c221 (h:=h) (K:=K) (s:=[48]) (n:=18-((decP r 1).length:Int)) (by simp only[List.length_cons,List.length_nil];omega)
          have t17:(18-((decP r 1).length:Int)).toNat=18-(decP r 1).length:=by omega
          rw[t17]at cR
          repeat' (with_reducible first|simp(disch:=first|exact okD|fail) only[go_sem,seval,h3,h4,h5,h6,lnr,lnq,lnq',adr,e00,ldr,cF,e0,cR,p2,w_app]|(apply Spl.i<;>intro hc))
          refine OwnZ.wp2 (h0:=h) (b:=16) (by simp only[Hp.ov_next]) hG7 O7 (by omega) (by omega) fun v' h' G' O' fr f1 f2=>?_
          obtain⟨g1,g2,g3,g4,g5⟩:=fin _ v' h' c18 (fun _=>rfl) (fun e=>absurd e (by omega)) G' O' fr f1 f2
          repeat' (with_reducible first|simp(disch:=first|exact okD|fail) only[go_sem,seval,h3,h4,h5,h6]|(apply Spl.i<;>intro hc))
          exact⟨q,hlt,vq,v5,v',lq,P++[decP r 18],rfl,rfl,rfl,G',g1,g2,Dq,Nq,hql,g3,by simp,g4,g5,Vq⟩
end
end
end Go.Ae
set_option linter.unusedVariables false
set_option linter.unusedSimpArgs false
namespace Go.Ae
structure Gq (E E':Env):Prop where
 fns:∀f a,E.fns f=some a→E'.fns f=some a
 prims:∀f p,E.prims f=some p→∃p',E'.prims f=some p'∧∀args h x,p args h=some x→p' args h=some x
 more:∀f p,E.exts f=none→E.prims f=none→E'.prims f=some p→∀n args h x,call E n f args h=some x→p args h=some x
 exts:∀f,E'.exts f=E.exts f
 meth:∀T n,E'.meth T n=E.meth T n
section
variable {E E':Env}
theorem opA_gq (hm:∀T n,E'.meth T n=E.meth T n) {r r':Rec} (hca:∀f args h x,callA E r f args h=some x→callA E' r' f args h=some x) {o:AOp} {s:St} {x:AV×Hp} (hc:opA o E r s=some x):opA o E' r' s=some x:=by
 cases o<;>try exact hc
 ·exact hca _ _ _ _ hc
 ·simp only[opA,o_callV]at *
  split at hc
  ·exact hca _ _ _ _ hc
  ·cases hc
 ·simp only[opA,o_inv]at *
  split at hc
  ·rw[hm]
   split at hc
   ·exact hca _ _ _ _ hc
   ·cases hc
  ·cases hc
theorem step_gq (hm:∀T n,E'.meth T n=E.meth T n) {r r':Rec} (hca:∀f args h x,callA E r f args h=some x→callA E' r' f args h=some x) (hr:∀c s x,r c s=some x→r' c s=some x) {c:ACode} {s:St} {x:Ex×St} (hc:step E r c s=some x):step E' r' c s=some x:=by
 cases c with
 |skip=>exact hc
 |ret=>exact hc
 |exit i=>exact hc
 |bad=>exact hc
 | reg ops=>
  cases ops with
  |nil=>exact hc
  | cons o l=>
   have hc:s_op o l E r s=some x:=hc
   show s_op o l E' r' s=some x
   unfold s_op at *
   split at hc
   ·unfold s_cont at *
    split at hc
    ·rename_i ho;rw[opA_gq hm hca ho];exact hr _ _ _ hc
    ·cases hc
   ·exact hr _ _ _ hc
 |dreg ops=>exact hr _ _ _ hc
 | drun ops i c0 acc=>
  cases ops with
  |nil=>exact hc
  | cons o l=>
   have hc:s_dop o l i c0 acc E r s=some x:=hc
   show s_dop o l i c0 acc E' r' s=some x
   unfold s_dop at *
   split at hc
   ·split at hc
    ·rename_i ho
     rw[opA_gq hm hca ho]
     simp only
     split at hc
     ·rename_i h1
      split at hc
      ·exact hr _ _ _ hc
      ·cases hc
     ·cases hc
    ·cases hc
   ·split at hc
    ·exact hr _ _ _ hc
    ·cases hc
 | seq a b=>
  have hc:s_seq a b E r s=some x:=hc
  show s_seq a b E' r' s=some x
  unfold s_seq at *
  split at hc
  ·rename_i h1;rw[hr _ _ _ h1];exact hr _ _ _ hc
  ·rename_i hne
   rw[hr _ _ _ hc]
   obtain⟨e,s'⟩:=x
   cases e with
   |nrm=>exact absurd hc (hne _)
   |exit i=>rfl
   |ret=>rfl
 | cond y a b=>
  have hc:s_cond y a b E r s=some x:=hc
  show s_cond y a b E' r' s=some x
  unfold s_cond at *
  split at hc
  ·exact hr _ _ _ hc
  ·exact hr _ _ _ hc
  ·cases hc
 | block id a=>
  have hc:s_block id a E r s=some x:=hc
  show s_block id a E' r' s=some x
  unfold s_block at *
  split at hc
  ·rename_i h1;rw[hr _ _ _ h1];exact hc
  ·rename_i hne
   rw[hr _ _ _ hc]
   obtain⟨e,s'⟩:=x
   cases e with
   |exit i=>exact absurd hc (hne _ _)
   |nrm=>rfl
   |ret=>rfl
 | loop a=>
  have hc:s_loop a E r s=some x:=hc
  show s_loop a E' r' s=some x
  unfold s_loop at *
  split at hc
  ·rename_i h1;rw[hr _ _ _ h1];exact hr _ _ _ hc
  ·rename_i hne
   rw[hr _ _ _ hc]
   obtain⟨e,s'⟩:=x
   cases e with
   |nrm=>exact absurd hc (hne _)
   |exit i=>rfl
   |ret=>rfl
theorem callA_gq (g:Gq E E') (n:Nat) (hr:∀c s x,exec E n c s=some x→exec E' n c s=some x) {f:Nat} {args:List AV} {h:Hp} {x:AV×Hp} (hc:callA E (exec E n) f args h=some x):callA E' (exec E' n) f args h=some x:=by
 have hc0:call E n f args h=some x:=hc
 unfold callA at *
 rw[g.exts]
 split at hc
 ·exact hc
 ·rename_i he
  split at hc
  ·rename_i p hp
   obtain⟨p',hp',hpp⟩:=g.prims f p hp
   rw[hp']
   exact hpp _ _ _ hc
  ·rename_i hp
   split at hc
   ·cases hc
   ·rename_i fn hf
    cases hq:E'.prims f with
    |some p=>exact g.more f p he hp hq n args h x hc0
    | none=>
     rw[g.fns _ _ hf]
     simp only
     cases hx:exec E n fn.code { tm:=enterA args 0 .nil,hp:=h }with
     |none=>rw[hx]at hc;cases hc
     |some y=>rw[hx]at hc;rw[hr _ _ _ hx];exact hc
theorem exec_gq (g:Gq E E'):∀(n:Nat) (c:ACode) (s:St) (x:Ex×St),exec E n c s=some x→exec E' n c s=some x
 |0,_,_,_,h=>by cases h
 | n+1,c,s,x,h=>by
  rw[exec_succ]at *
  exact step_gq g.meth (fun f args h x=>callA_gq g n (exec_gq g n)) (exec_gq g n) h
theorem CallsTo.gq (g:Gq E E') {f:Nat} {args:List AV} {h h':Hp} {v:AV} (hc:CallsTo E f args h v h'):CallsTo E' f args h v h':=by
 obtain⟨n,hn⟩:=hc
 exact⟨n,callA_gq g n (exec_gq g n) hn⟩
theorem CallWp.gq (g:Gq E E') {f:Nat} {args:List AV} {h:Hp} {K:AV→Hp→Prop} (hc:CallWp E f args h K):CallWp E' f args h K:=by
 obtain⟨v,h',h1,h2⟩:=hc
 exact⟨v,h',h1.gq g,h2⟩
theorem upq (g:Gq E E') {f:Nat} {args:List AV} {h h':Hp} {v:AV} {K:AV→Hp→Prop} (hc:∀K,CallWp E f args h K↔K v h'):CallWp E' f args h K↔K v h':=
 CallWp.iff_of (((hc _).2 ⟨rfl,rfl⟩).gq g)
theorem Gv.gq (g:Gq E E') {f:Nat} {args:List AV} {h:Hp} {v:AV} (hc:Gv E f args h v):Gv E' f args h v:=hc.ge fun _ _ _ hk=>hk.gq g
theorem Gp.gq (g:Gq E E') {f:Nat} {args:List AV} {h:Hp} {p:AV→Hp→Prop} (hc:Gp E f args h p):Gp E' f args h p:=by
 obtain⟨v,h',h1,h2,h3⟩:=hc
 exact⟨v,h',h1.gq g,h2,h3⟩
def Env.withR (E:Env) (f:Nat) (p:Prim):Env:={ E with prims:=fun n=>if n=f then some p else E.prims n }
theorem Gq.withR {f:Nat} {p q:Prim} (hp:E.prims f=some q) (hm:∀args h x,q args h=some x→p args h=some x):Gq E (E.withR f p) where
 fns:=fun _ _ h=>h
 prims:=by
  intro k q' hq
  show ∃p',(if k=f then some p else E.prims k)=some p'∧_
  by_cases e:k=f
  ·subst e
   rw[hp]at hq
   obtain rfl:=Option.some.inj hq
   exact⟨p,if_pos rfl,hm⟩
  ·exact⟨q',(if_neg e).trans hq,fun _ _ _ h=>h⟩
 more:=by
  intro k q' he hk hq n args h x hc
  have hq:(if k=f then some p else E.prims k)=some q':=hq
  by_cases e:k=f
  ·subst e;rw[hp]at hk;cases hk
  ·rw[if_neg e,hk]at hq;cases hq
 exts:=fun _=>rfl
 meth:=fun _ _=>rfl
section
variable {P:Program} {W0:World} {base:Nat} {f:Nat}
theorem EnvOk.withR {p:Prim} (EO:EnvOk P W0 base E) (hp:∀args h v h',p args h=some (v,h')→Later h h'∧∀ρ w,Go.RowKit.Below base W0 w→HRel base ρ h w→oks ρ h.next args→Does P base ρ h w (callFunc f (encs ρ args).toArray) v h'):EnvOk P W0 base (E.withR f p) where
 fns:=EO.fns
 exts:=EO.exts
 meth:=EO.meth
 mixed:=EO.mixed
 prims:=by
  intro k q hq args h v h' hv ρ w B R hok
  simp only[Env.withR]at hq
  split at hq
  ·rename_i e
   subst e
   obtain rfl:=Option.some.inj hq
   exact(hp args h v h' hv).2 ρ w B R hok
  ·exact EO.prims k q hq args h v h' hv ρ w B R hok
 later:=by
  intro k q args h v h' hq hv
  simp only[Env.withR]at hq
  split at hq
  ·obtain rfl:=Option.some.inj hq
   exact(hp args h v h' hv).1
  ·exact EO.later k q args h v h' hq hv
end
end
end Go.Ae
set_option linter.unusedVariables false
set_option linter.unusedSimpArgs false
set_option maxRecDepth 100000
set_option exponentiation.threshold 100000
namespace Go.Ae
open Go.Proofs Go.RowKit N
noncomputable section
section
variable {W0:World} {base:Nat} {E:Env} {ρ:Rho} {s:St} {a:Act} {w:World} {h:Hp} {z:Int}
theorem tail_wp {neg:Bool} {tp st:Nat} {X:List (List UInt8)} (EO:EnvOk Tryz.prog W0 base E) (S:Sim W0 base 69 ρ s a w) (h3:val s.tm (.t 3)= .bool neg) (h6:val s.tm (.t 6)= .sl tp 0 X.length 1) (hg:s.hp.get tp=some (.row (X.map AV.str) true st))
    (hX:X.length≤500000) (hl:X.reverse.flatten.length≤500000):
    U0.wp Tryz.prog (fun e a' w'=>e= .ret∧a'.defers=[]∧a'.tmps.getD 2 undef= .string ⟨((if neg=true then[45]else[])++X.reverse.flatten).toArray⟩∧HRel base ρ s.hp w'∧Keep ρ s.hp w w') a w:=by
  obtain⟨tb,htb⟩:∃tb,tb=s.hp.next:=⟨_,rfl⟩
  obtain⟨hT,hhT⟩:∃hT,hT=s.hp.push fun st=> .dead st:=⟨_,rfl⟩
  obtain⟨ρT,hρT⟩:∃ρT,ρT=upd ρ s.hp.next ⟨w.heap.size,0,0,0⟩:=⟨_,rfl⟩
  obtain⟨w1,hw1⟩:∃w1,w1=w.alloc (.cells #[.pointer none,.slice none 0 0] 263):=⟨_,rfl⟩
  have hag:Agree s.hp.next ρ ρT:=by rw[hρT];exact upd_agree _ _ _
  have hsz:w.heap.size≤w1.heap.size:=by rw[hw1];show w.heap.size≤(w.heap.push _).size;simp
  have hbl:∀k,k<w.heap.size→w1.heap[k]?=w.heap[k]?:=fun k hk=>by rw[hw1];exact heap_push_lt w _ k hk
  have X1:Ext base ρ s.hp w ρT hT w1:=by
    rw[hhT]
    exact Ext.pushed S.rel _ hag (by rw[hw1];rfl) (by rw[hw1];rfl) (by rw[hw1];rfl) hsz hbl trivial
  have hgp:∀t,hT.get t=if t=s.hp.next then some (.dead (s.hp.clk+1))else s.hp.get t:=fun t=>by rw[hhT,Hp.get_push]
  have hnx:hT.next=s.hp.next+1:=by rw[hhT];rfl
  have T:TB base ρT hT w tb:=by
    refine⟨S.rel.size,fun t o ht ho=>?_,?_⟩
    · rw[hgp]at ht
      split at ht
      · obtain rfl:=Option.some.inj ht;cases ho
      · have h1:=S.rel.lt t o ht
        have h2:=S.rel.owned_lt ht ho
        rw[hag t h1,hnx]
        exact⟨by omega,h2.2⟩
    · rw[htb,hnx,hρT,upd_same]
      exact⟨by omega,rfl,rfl⟩
  have S1:=S.put X1 (v:= .ptr tb 0) (by show tb<hT.next;rw[htb,hnx];omega) (some 10) (fun x e=>by cases e;decide)
  rw[T.enc (Agree.refl _ _)]at S1
  have K1:Keep ρT hT w w1:=⟨by rw[hw1];rfl,by rw[hw1];rfl,by rw[hw1];rfl,hsz,fun k hk _=>hbl k hk⟩
  have B1:Lib.IsBuilder 263 5 w.heap.size w.heap.size (Lib.byteCells []) w1:=by
    rw[hw1]
    exact .inl ⟨Nat.le_refl _,.slice none 0 0,heap_push w _,World.ownsRow_nil _ _ _ _,by simp[Value.ownBlock]⟩
  have J1:TJ W0 base ρT hT w (DS neg (.sl tp 0 X.length 1) tb) [] (a.put (some 10) (.pointer (some ⟨w.heap.size,0,none⟩))) w1:=
    ⟨⟨ρT,_,S1,⟨(by show val (put s.tm (some 10) _) _=_;rw[show put s.tm (some 10) (.ptr tb 0)=s.tm.set 10 (.ptr tb 0) from rfl,val_set,if_neg (by decide)];exact h3),(by show val (put s.tm (some 10) _) _=_;rw[show put s.tm (some 10) (.ptr tb 0)=s.tm.set 10 (.ptr tb 0) from rfl,val_set,if_neg (by decide)];exact h6),(by show val (put s.tm (some 10) _) _=_;rw[show put s.tm (some 10) (.ptr tb 0)=s.tm.set 10 (.ptr tb 0) from rfl,val_set,if_pos rfl])⟩,rfl,Agree.refl _ _⟩,K1,B1⟩
  have hg':hT.get tp=some (.row (X.map AV.str) true st):=by
    rw[hgp,if_neg (by have:=S.rel.lt _ _ hg;omega)];exact hg
  rw[t264]
  refine wp_seq ?_
  rw[s15]
  refine wp_region ?_
  rw[z15]
  show wpOps _ _ _ [0] a w
  refine ops_val o15 g15 alloc_op ?_
  rw[wpOps,d15,←hw1]
  show(Code.seq (.seq R16 (.cond (.tmp 54) R17 .skip)) _).wp Tryz.prog _ _ w1
  refine wp_seq (wp_seq ?_)
  refine wp_mono (TJ.code EO T J1 (D':=fun s=>DS neg (.sl tp 0 X.length 1) tb s∧val s.tm (.t 54)= .bool neg) (c:=R16) ?_) fun e2 a2 w2 ⟨he,J2⟩=>?_
  · rintro⟨tm,hp⟩ ⟨h3,h6,h10⟩ hh
    simp only at h3 h6 h10
    rw[k16]
    unfold DS
    repeat' (with_reducible first|simp(disch:=first|exact okD|fail) only[go_sem,seval,h3,h6,h10]|(apply Spl.i<;>intro hc))
  subst he
  show(Code.cond (.tmp 54) R17 .skip).wp Tryz.prog _ a2 w2
  have rest:∀(a3:Act) (w3:World),TJ W0 base ρT hT w (DS neg (.sl tp 0 X.length 1) tb) (if neg=true then[45]else[]) a3 w3→
      (Code.seq (.seq R18 (.block 2 (.loop (.seq (.seq R19 (.cond (.tmp 60) .skip (.exit 2))) (.seq (.block 3 R21) R20))))) (.seq R22 .ret)).wp Tryz.prog
        (fun e a' w'=>e= .ret∧a'.defers=[]∧a'.tmps.getD 2 undef= .string ⟨((if neg=true then[45]else[])++X.reverse.flatten).toArray⟩∧HRel base ρ s.hp w'∧Keep ρ s.hp w w') a3 w3:=by
    intro a3 w3 J3
    refine wp_seq (wp_seq ?_)
    refine wp_mono (TJ.code EO T J3 (D':=DI neg (.sl tp 0 X.length 1) tb ((X.length:Int)-1)) (c:=R18) ?_) fun e4 a4 w4 ⟨he,J4⟩=>?_
    · rintro⟨tm,hp⟩ ⟨h3,h6,h10⟩ hh
      simp only at h3 h6 h10
      rw[k18]
      unfold DI DS
      have hw:IntKind.wrap .i64 ((X.length:Int)-1)=(X.length:Int)-1:=wrap_i64 (by omega)
      repeat' (with_reducible first|simp(disch:=first|exact okD|fail) only[go_sem,seval,h3,h6,h10,hw]|(apply Spl.i<;>intro hc))
    subst he
    show(Code.block 2 _).wp Tryz.prog _ a4 w4
    have hpre:(if neg=true then[45]else[]:List UInt8).length≤1:=by split<;>simp
    refine wp_mono (loop_wp EO T hg' (by omega) (by omega) J4) fun e5 a5 w5 ⟨he,i,J5⟩=>?_
    subst he
    show(Code.seq R22 .ret).wp Tryz.prog _ a5 w5
    refine wp_seq ?_
    refine wp_mono (r22_wp EO T J5) fun e6 a6 w6 ⟨he,ρ6,s6,S6,h2,hh6,ha6,K6⟩=>?_
    subst he
    refine wp_ret ⟨rfl,S6.defers,?_,?_,?_⟩
    · have:=(S6.tmp 2).1
      rw[h2]at this
      rw[this];simp[Ae.enc]
    · have R6:=S6.rel
      rw[hh6]at R6
      refine S.rel.shrink R6 ((hag.trans ha6 (by rw[hnx];omega))) fun t ht=>?_
      rw[hgp,if_neg (by omega)]
    · refine⟨K6.os,K6.tape,K6.output,K6.size,fun k hk hn=>K6.block k hk fun t o ht ho hb=>?_⟩
      rw[hgp]at ht
      split at ht
      · obtain rfl:=Option.some.inj ht;cases ho
      · rw[hag t (S.rel.lt t o ht)]at hb
        exact hn t o ht ho hb
  obtain⟨ρ2,s2,S2,⟨hD2,h54⟩,hh2,ha2⟩:=J2.ex
  have e54:a2.eval (.tmp 54)= .bool neg:=by
    have:=(S2.tmp 54).1
    rw[h54]at this
    exact this.trans (by simp[Ae.enc])
  have J2':TJ W0 base ρT hT w (DS neg (.sl tp 0 X.length 1) tb) [] a2 w2:=⟨⟨ρ2,s2,S2,hD2,hh2,ha2⟩,J2.keep,J2.bld⟩
  cases neg with
  | true=>
    refine wp_cond_true e54 ?_
    refine wp_mono (r17_wp T J2' (by simp)) fun e3 a3 w3 ⟨he,J3⟩=>?_
    subst he
    exact rest a3 w3 J3
  | false=>
    refine wp_cond_false e54 (wp_skip ?_)
    exact rest a2 w2 J2'
theorem kB:ccode Tryz.prog 69 B264=S.a264.code:=by kernel_rfl
theorem str_does (G:L.Glob W0 base) {t o n:Nat} {sg:Int} (Bl:Below base W0 w) (R:HRel base ρ h w) (iv:IsI h (.int .i64 sg) (.sl t o n 1) z) (lz:Lim 3999 z) (hok:oks ρ h.next [.agg [.int .i64 sg,.sl t o n 1]]):
  Does Tryz.prog base ρ h w (callFunc 264 (encs ρ [.agg [.int .i64 sg,.sl t o n 1]]).toArray) (.str (txtZ z)) h:=by
 have hD:(decP z.natAbs 1).length≤79980:=by
  refine(decP_le (by decide)).2 ?_
  have h1:(18446744073709551616:Nat)^3999≤(10^20)^3999:=Nat.pow_le_pow_left (by decide) _
  have h2:((10:Nat)^20)^3999=10^79980:=by rw[←Nat.pow_mul]
  rw[←h2]
  exact Nat.lt_of_lt_of_le lz h1
 obtain⟨e,s',⟨m,hm⟩,rfl,hG,h3,v6,X,h6,O6,hX0,hXD,hXl⟩:=str_head iv lz
 rw[←kB]at hm
 obtain⟨hlen,⟨_,hn0⟩|⟨tp,st,rfl,hg,hlt1,hlt2,hlt3⟩⟩:=O6
 ·exact absurd (List.length_eq_zero_iff.1 hn0) hX0
 have hXf:X.reverse.flatten.length≤79980:=by rw[hXD];exact hD
 refine Does.call (by kernel_rfl) ?_
 refine calls_of_wp Tryz.func264 b264 ?_
 refine pre_sound (env2 G) (nt:=69) 6 m B264 _ s' (by kernel_rfl) hm ρ _ w (enter_sim R Bl hok) fun a' w' ρ' S' X'=>?_
 show U0.wp Tryz.prog _ a' w'
 refine wp_mono (tail_wp (env2 G) S' h3 h6 hg (by omega) (by omega)) fun e a2 w2 ⟨he,hd,h2,R2,K2⟩=>?_
 subst he
 refine bodyPost_ret (results_tmp rfl a2.tmps Tryz.prog w2) hd ?_
 rw[h2]
 have X2:Ext base ρ h w ρ' s'.hp w2:=X'.trans ⟨Agree.refl _ _,Nat.le_refl _,R2,K2,fun t o ht ho=> .inr ⟨t,o,ht,ho,rfl⟩⟩
 refine⟨ρ,?_,trivial,Agree.refl _ _,Nat.le_refl _,R.shrink X2.rel X2.agree fun t ht=>hG.get ht,X2.keep,fun t o ht ho=> .inr ⟨t,o,ht,ho,rfl⟩⟩
 have et:(if decide (z<0)=true then[45]else[])++X.reverse.flatten=txtZ z:=by
  rw[hXD];unfold txtZ
  by_cases c:z<0
  ·rw[decide_eq_true c,if_pos rfl,if_pos c];rfl
  ·rw[decide_eq_false c,if_neg (by decide),if_neg c];rfl
 rw[et];simp[Ae.enc]
end
end
end Go.Ae
set_option linter.unusedVariables false
set_option linter.unusedSimpArgs false
set_option maxRecDepth 100000
namespace Go.Ae
open Bg
noncomputable section
section
variable {h hp:Hp} {K:AV→Hp→Prop} {s w s' w':AV} {x y z:Int}
theorem Gv.gp {E:Env} {f:Nat} {args:List AV} {v:AV} {p:AV→Hp→Prop} (hc:Gv E f args h v) (hp:∀h',Grs h h'→p v h'):Gp E f args h p:=by
 obtain⟨h',h1,g⟩:=hc
 exact⟨v,h',h1,g,hp h' g⟩
theorem IsV.sI (hz: -9223372036854775808≤z∧z≤9223372036854775807):IsV h (sI z) z:=⟨_,_,rfl,IsI.small hz⟩
theorem mul_slow {tm:T AV} {p2 p3 p4:Nat} (h2:val tm (.t 2)= .ptr p2 0) (h3:val tm (.t 3)= .ptr p3 0) (h4:val tm (.t 4)= .ptr p4 0) (g2:AtS hp p2 [s,w]) (g3:AtS hp p3 [s',w']) (g4:AtS hp p4 [.int .i64 0,.nils])
  (hG:Grs h hp) (hn:h.next≤p4) (ix:IsI hp s w x) (iy:IsI hp s' w' y) (lx:Lim 4000 x) (ly:Lim 4000 y):
  Wp E2 (C.a195.code.post 2) ⟨tm,hp⟩ (RetQ [.cell 4 true 2] fun v h'=>IsV h' v (x*y)∧Grs h h'):=by
 unfold C.a195
 dsimp only[ACode.post]
 obtain⟨s2,q2,_,t2⟩:=g2
 obtain⟨s3,q3,_,t3⟩:=g3
 obtain⟨s4,q4,_,t4⟩:=g4
 repeat' (with_reducible first|simp(disch:=first|exact okD|fail) only[go_sem,seval,h2,h3,h4,q2]|(apply Spl.i<;>intro hc))
 refine Gp.wp (c202 ix) fun v h1 k1 j1 u1 ⟨w1,l1,e,S1,D1,N1,V1,L1⟩=>?_
 subst e
 have iy1:=iy.ov (g:=u1)
 have m1:=lx.len N1 V1
 repeat' (with_reducible first|simp(disch:=first|exact okD|fail) only[go_sem,seval,h2,h3,h4,q3]|(apply Spl.i<;>intro hc))
 refine Gp.wp (c202 iy1) fun v h2' k2 j2 u2 ⟨w2,l2,e,S2,D2,N2,V2,L2⟩=>?_
 subst e
 have m2:=ly.len N2 V2
 have S1':=S1.ov (g:=u2)
 have ls:=lx.mul ly
 repeat' (with_reducible first|simp(disch:=first|exact okD|fail) only[go_sem,seval,h2,h3,h4]|(apply Spl.i<;>intro hc))
 refine Gp.wp (c263 S1' S2 D1 D2 (by omega) (by omega)) fun v h3' k3 j3 u3 ⟨l,S3,D3,N3,V3⟩=>?_
 have e3:sgn (decide (¬decide (x<0)=decide (y<0))) (vl 18446744073709551616 l)=x*y:=sgn_mul (by rw[V3,V1,V2])
 have m3:=ls.len N3 (by rw[V3,V1,V2,Int.natAbs_mul])
 repeat' (with_reducible first|simp(disch:=first|exact okD|fail) only[go_sem,seval,h2,h3,h4]|(apply Spl.i<;>intro hc))
 refine Gp.wp (c203 S3 D3 N3 (by omega)) fun v h4' k4 j4 u4 I4=>?_
 obtain⟨a,b,rfl,o1,o2,I4⟩:=I4.ex
 rw[e3]at I4
 have q4':((((hp.ov h1 u1).ov h2' u2).ov h3' u3).ov h4' u4).get p4=some (.row [.int .i64 0,.nils] true s4):=by simp(disch:=first|exact okD|fail) only[go_sem,seval,q4]
 repeat' (with_reducible first|simp(disch:=first|exact okD|fail) only[go_sem,seval,h4,q4,o1,o2]|(apply Spl.i<;>intro hc))
 refine⟨⟨a,b,rfl,I4.put q4'⟩,?_⟩
 exact okG
theorem i195 (ix:IsI h s w x) (iy:IsI h s' w' y) (lx:Lim 4000 x) (ly:Lim 4000 y):Gp E2 195 [.agg [s,w],.agg [s',w']] h fun v h'=>IsV h' v (x*y):=by
 obtain⟨o1,o2⟩:=ix.one
 obtain⟨o3,o4⟩:=iy.one
 have A2:AtS (((h.push fun st=> .row [s,w] true st).push fun st=> .row [s',w'] true st).push fun st=> .row [.int .i64 0,.nils] true st) h.next [s,w]:=(AtS.push.grs (Grs.refl _).push.push)
 have A3:AtS (((h.push fun st=> .row [s,w] true st).push fun st=> .row [s',w'] true st).push fun st=> .row [.int .i64 0,.nils] true st) (h.next+1) [s',w']:=(AtS.push.grs (Grs.refl _).push)
 have A4:AtS (((h.push fun st=> .row [s,w] true st).push fun st=> .row [s',w'] true st).push fun st=> .row [.int .i64 0,.nils] true st) (h.next+1+1) [.int .i64 0,.nils]:=AtS.push
 have G:Grs h (((h.push fun st=> .row [s,w] true st).push fun st=> .row [s',w'] true st).push fun st=> .row [.int .i64 0,.nils] true st):=(Grs.refl h).push.push.push
 have tail:=fun(hp:Hp) (tm:T AV) (p2 p3 p4:Nat) h2 h3 h4 g2 g3 g4 (hG:Grs h hp) hn ix iy=>mul_slow (h:=h) (hp:=hp) (tm:=tm) (p2:=p2) (p3:=p3) (p4:=p4) (s:=s) (w:=w) (s':=s') (w':=w') h2 h3 h4 g2 g3 g4 hG hn ix iy lx ly
 rcases ix.cases with⟨rfl,rfl,hx⟩|⟨n,t,o,rfl,_⟩
 ·rcases iy.cases with⟨rfl,rfl,hy⟩|⟨n,t,o,rfl,_⟩
  ·by_cases hs:x.natAbs*y.natAbs≤9223372036854775807
   ·refine(c195 hx hy hs).gp fun h' _=>IsV.sI ?_
    have:=Int.natAbs_mul x y
    omega
   ·refine Gp.of (CallWp.fn (fn:=C.a195) rfl rfl rfl ?_)
    refine Wp.cut 2 rfl ?_
    generalize ACode.post 2 C.a195.code=r at tail⊢
    unfold C.a195
    dsimp only[ACode.pre]
    have hxn:x.natAbs<18446744073709551616:=by omega
    have hyn:y.natAbs<18446744073709551616:=by omega
    by_cases h0:x.natAbs*y.natAbs/18446744073709551616=0
    ·have e2:x.natAbs*y.natAbs%18446744073709551616=x.natAbs*y.natAbs:=by omega
     have e3:¬((x.natAbs*y.natAbs:Nat):Int)≤9223372036854775807:=fun e=>hs (Int.ofNat_le.1 e)
     have e0:((0:Nat):Int)=0:=rfl
     repeat' (with_reducible first|simp(disch:=first|exact okD|fail) only[go_sem,seval,c262,c261,h0,e0,e2,e3]|(apply Spl.i<;>intro hc))
     exact tail _ _ _ _ _ (by simp(disch:=first|exact okD|fail) only[go_sem,seval]) (by simp(disch:=first|exact okD|fail) only[go_sem,seval]) (by simp(disch:=first|exact okD|fail) only[go_sem,seval]) A2 A3 A4 G (by omega) (ix.grs G) (iy.grs G)
    ·have h0':¬((x.natAbs*y.natAbs/18446744073709551616:Nat):Int)=0:=by omega
     repeat' (with_reducible first|simp(disch:=first|exact okD|fail) only[go_sem,seval,c262,c261,h0']|(apply Spl.i<;>intro hc))
     exact tail _ _ _ _ _ (by simp(disch:=first|exact okD|fail) only[go_sem,seval]) (by simp(disch:=first|exact okD|fail) only[go_sem,seval]) (by simp(disch:=first|exact okD|fail) only[go_sem,seval]) A2 A3 A4 G (by omega) (ix.grs G) (iy.grs G)
  ·refine Gp.of (CallWp.fn (fn:=C.a195) rfl rfl rfl ?_)
   refine Wp.cut 2 rfl ?_
   generalize ACode.post 2 C.a195.code=r at tail⊢
   unfold C.a195
   dsimp only[ACode.pre]
   repeat' (with_reducible first|simp(disch:=first|exact okD|fail) only[go_sem,seval,o3]|(apply Spl.i<;>intro hc))
   exact tail _ _ _ _ _ (by simp(disch:=first|exact okD|fail) only[go_sem,seval]) (by simp(disch:=first|exact okD|fail) only[go_sem,seval]) (by simp(disch:=first|exact okD|fail) only[go_sem,seval]) A2 A3 A4 G (by omega) (ix.grs G) (iy.grs G)
 ·refine Gp.of (CallWp.fn (fn:=C.a195) rfl rfl rfl ?_)
  refine Wp.cut 2 rfl ?_
  generalize ACode.post 2 C.a195.code=r at tail⊢
  unfold C.a195
  dsimp only[ACode.pre]
  repeat' (with_reducible first|simp(disch:=first|exact okD|fail) only[go_sem,seval,o1,o3,o4]|(apply Spl.i<;>intro hc))
  exact tail _ _ _ _ _ (by simp(disch:=first|exact okD|fail) only[go_sem,seval]) (by simp(disch:=first|exact okD|fail) only[go_sem,seval]) (by simp(disch:=first|exact okD|fail) only[go_sem,seval]) A2 A3 A4 G (by omega) (ix.grs G) (iy.grs G)
def cmpI (x y:Int):Int:=if x<y then -1 else if y<x then 1 else 0
theorem i192 (ix:IsI h s w x) (iy:IsI h s' w' y) (lx:Lim 4000 x) (ly:Lim 4000 y):Gv E2 192 [.agg [s,w],.agg [s',w']] h (.int .i64 (cmpI x y)):=by
 obtain⟨o1,o2⟩:=ix.one
 obtain⟨o3,o4⟩:=iy.one
 have key:max (-1) (min 1 (x-y))=cmpI x y:=by unfold cmpI;split<;>(try split)<;>omega
 rcases ix.cases with⟨rfl,rfl,hx⟩|⟨n,t,o,rfl,_⟩
 ·rcases iy.cases with⟨rfl,rfl,hy⟩|⟨n,t,o,rfl,_⟩
  ·exact c192
  ·refine Gv.of (CallWp.fn (fn:=C.a192) rfl rfl rfl ?_)
   unfold C.a192
   repeat' (with_reducible first|simp(disch:=first|exact okD|fail) only[go_sem,seval,o3]|(apply Spl.i<;>intro hc))
   refine Gp.wp (i260 (ix.grs okG) (iy.grs okG) lx ly) fun v h1 k1 j1 u1 I1=>?_
   obtain⟨a,b,rfl,p1,p2,I1⟩:=I1.ex
   repeat' (with_reducible first|simp(disch:=first|exact okD|fail) only[go_sem,seval,key]|(refine Gv.wp (i194 I1) fun _ _ _ _=>?_)|(apply Spl.i<;>intro hc))
   exact okG
 ·refine Gv.of (CallWp.fn (fn:=C.a192) rfl rfl rfl ?_)
  unfold C.a192
  repeat' (with_reducible first|simp(disch:=first|exact okD|fail) only[go_sem,seval,o1,o3,o4]|(apply Spl.i<;>intro hc))
  refine Gp.wp (i260 (ix.grs okG) (iy.grs okG) lx ly) fun v h1 k1 j1 u1 I1=>?_
  obtain⟨a,b,rfl,p1,p2,I1⟩:=I1.ex
  repeat' (with_reducible first|simp(disch:=first|exact okD|fail) only[go_sem,seval,key]|(refine Gv.wp (i194 I1) fun _ _ _ _=>?_)|(apply Spl.i<;>intro hc))
  exact okG
theorem i257 (ix:IsI h s w x) (lx:Lim 9000 x):Gp E2 257 [.agg [s,w]] h fun v h'=>IsV h' v (x.natAbs:Int):=by
 obtain⟨o1,o2⟩:=ix.one
 refine Gp.of (CallWp.fn (fn:=C.a257) rfl rfl rfl ?_)
 unfold C.a257
 by_cases h0:x<0
 ·have hs:∃n,s= .int .i64 n∧n<0:=by
   rcases ix.cases with⟨rfl,rfl,hx⟩|⟨n,t,o,rfl,_,⟨rfl,c⟩|⟨rfl,c⟩⟩
   ·exact⟨_,rfl,h0⟩
   ·omega
   ·exact⟨_,rfl,by omega⟩
  obtain⟨n,rfl,hn⟩:=hs
  repeat' (with_reducible first|simp(disch:=first|exact okD|fail) only[go_sem,seval,o2,hn]|(apply Spl.i<;>intro hc))
  refine Gp.wp (i200 (ix.grs okG) lx) fun v h1 k1 j1 u1 I1=>?_
  obtain⟨a,b,rfl,p1,p2,I1⟩:=I1.ex
  rw[show -x=(x.natAbs:Int) by omega]at I1
  repeat' (with_reducible first|simp(disch:=first|exact okD|fail) only[go_sem,seval,p1,p2]|(apply Spl.i<;>intro hc))
  refine⟨⟨a,b,rfl,I1.put (st:=h.clk+1+1) (own:=true) (cs:=[.nils]) ?_⟩,?_⟩
  ·simp(disch:=first|exact okD|fail) only[go_sem,seval]
  ·exact okG
 ·have hs:∃n,s= .int .i64 n∧¬n<0:=by
   rcases ix.cases with⟨rfl,rfl,hx⟩|⟨n,t,o,rfl,_,⟨rfl,c⟩|⟨rfl,c⟩⟩
   ·exact⟨_,rfl,h0⟩
   ·exact⟨_,rfl,by omega⟩
   ·omega
  obtain⟨n,rfl,hn⟩:=hs
  have e:(x.natAbs:Int)=x:=by omega
  repeat' (with_reducible first|simp(disch:=first|exact okD|fail) only[go_sem,seval,o2,hn]|(apply Spl.i<;>intro hc))
  refine⟨⟨_,_,rfl,?_⟩,?_⟩
  ·rw[e];exact ix.grs okG
  ·exact okG
end
end
end Go.Ae
set_option linter.unusedVariables false
set_option linter.unusedSimpArgs false
set_option maxRecDepth 100000
namespace Go.Ae
open Bg
noncomputable section
def isCell:Option AObj→Bool
 |some (.row (.int .i64 _::_) _ _)=>true
 |_=>false
section
variable {h hp:Hp} {K:AV→Hp→Prop} {s w s' w':AV} {x y z:Int}
theorem isCell_row {n:Int} {cs:List AV} {own:Bool} {st:Nat}:isCell (some (.row (.int .i64 n::cs) own st))=true:=rfl
theorem isCell_ex {p:Nat} (hc:isCell (h.get p)=true):∃n cs own st,h.get p=some (.row (.int .i64 n::cs) own st):=by
 cases hq:h.get p with
 |none=>rw[hq]at hc;cases hc
 | some o=>
  rw[hq]at hc
  match o,hc with
  | .row (.int .i64 n::cs) own st,_=>exact⟨n,cs,own,st,rfl⟩
theorem Sq.putI {p:Nat} {v:AV} {l:List Nat} {f:Nat→AObj} (i:Sq .u64 h v l) (hc:isCell (h.get p)=true):Sq .u64 (h.put p f) v l:=by
 obtain⟨n,cs,own,st,hq⟩:=isCell_ex hc
 rcases i with i|⟨t,o,own',st',L,e,hg,r1,r2,r3,r4⟩
 ·exact .inl i
 ·refine .inr ⟨t,o,own',st',L,e,(Hp.put_other ?_).trans hg,r1,r2,r3,Nat.le_succ_of_le r4⟩
  rintro rfl
  rw[hq]at hg
  cases L with
  |nil=>simp at hg
  |cons a L=>simp[wd]at hg
theorem IsI.putI {p:Nat} {f:Nat→AObj} (i:IsI h s w z) (hc:isCell (h.get p)=true):IsI (h.put p f) s w z:=by
 rcases i with i|⟨n,t,o,l,e,hs,r⟩
 ·exact .inl i
 ·exact .inr ⟨n,t,o,l,e,hs.putI hc,r⟩
theorem IsV.ex2 {v:AV} (i:IsV h v z):∃n w,v= .agg [.int .i64 n,w]∧w.one=true∧IsI h (.int .i64 n) w z:=by
 obtain⟨s,w,rfl,i⟩:=i
 rcases i.cases with⟨rfl,rfl,_⟩|⟨n,t,o,rfl,_,⟨rfl,_⟩|⟨rfl,_⟩⟩
 ·exact⟨_,_,rfl,rfl,i⟩
 ·exact⟨_,_,rfl,rfl,i⟩
 ·exact⟨_,_,rfl,rfl,i⟩
theorem IsI.fst (i:IsI h s w z):∃n,s= .int .i64 n:=by
 rcases i.cases with⟨rfl,rfl,_⟩|⟨n,t,o,rfl,_,⟨rfl,_⟩|⟨rfl,_⟩⟩<;>exact⟨_,rfl⟩
def DmP (x y:Int) (v:AV) (h':Hp):Prop:=∃va vb,v= .tup [va,vb]∧IsV h' va (x.fdiv y)∧IsV h' vb (x.fmod y)
theorem sgn_tdiv (hy:0<y):sgn (decide (x<0)) (x.natAbs/y.natAbs)=x.tdiv y∧sgn (decide (x<0)) (x.natAbs%y.natAbs)=x.tmod y:=by
 obtain⟨m,rfl⟩:∃m:Nat,y=m:=⟨y.toNat,by omega⟩
 rcases Int.lt_or_le x 0 with c|c
 ·obtain⟨n,rfl⟩:∃n:Nat,x= -(n:Int):=⟨(-x).toNat,by omega⟩
  rw[Int.neg_tdiv,Int.neg_tmod,Int.natAbs_neg,Int.natAbs_natCast,Int.natAbs_natCast]
  unfold sgn
  rw[decide_eq_true c,if_pos rfl,if_pos rfl]
  exact⟨rfl,rfl⟩
 ·obtain⟨n,rfl⟩:∃n:Nat,x=n:=⟨x.toNat,by omega⟩
  rw[Int.natAbs_natCast,Int.natAbs_natCast]
  unfold sgn
  rw[decide_eq_false (by omega),if_neg (by decide),if_neg (by decide)]
  exact⟨rfl,rfl⟩
theorem Lim.le {n:Nat} {x y:Int} (h:Lim n x) (hl:y.natAbs≤x.natAbs):Lim n y:=Nat.lt_of_le_of_lt hl h
theorem dm_slow {tm:T AV} {p2 p3 p4 p5:Nat} {n':Int} (h2:val tm (.t 2)= .ptr p2 0) (h3:val tm (.t 3)= .ptr p3 0) (h4:val tm (.t 4)= .ptr p4 0) (h5:val tm (.t 5)= .ptr p5 0) (g2:AtS hp p2 [s,w]) (g3:AtS hp p3 [.int .i64 n',w']) (g4:AtS hp p4 [.int .i64 0,.nils]) (g5:AtS hp p5 [.int .i64 0,.nils])
  (hG:Grs h hp) (hn:h.next≤p4) (h45:p4<p5) (ix:IsI hp s w x) (iy:IsI hp (.int .i64 n') w' y) (lx:Lim 3999 x) (ly:Lim 3999 y) (hy:0<y):
  Wp E2 (C.a197.code.post 2) ⟨tm,hp⟩ (RetQ [.cell 4 true 2,.cell 5 true 2] fun v h'=>DmP x y v h'∧Grs h h'):=by
 unfold C.a197
 dsimp only[ACode.post]
 obtain⟨s2,q2,_,t2⟩:=g2
 obtain⟨s3,q3,_,t3⟩:=g3
 obtain⟨s4,q4,_,t4⟩:=g4
 obtain⟨s5,q5,_,t5⟩:=g5
 obtain⟨et,em⟩:=sgn_tdiv (x:=x) hy
 repeat' (with_reducible first|simp(disch:=first|exact okD|fail) only[go_sem,seval,h2,h3,h4,h5,q2]|(apply Spl.i<;>intro hc))
 refine Gp.wp (c202 ix) fun v h1 k1 j1 u1 ⟨w1,l1,e,S1,D1,N1,V1,L1⟩=>?_
 subst e
 have iy1:=iy.ov (g:=u1)
 have m1:=lx.len N1 V1
 repeat' (with_reducible first|simp(disch:=first|exact okD|fail) only[go_sem,seval,h2,h3,h4,h5,q3]|(apply Spl.i<;>intro hc))
 refine Gp.wp (c202 iy1) fun v h2' k2 j2 u2 ⟨w2,l2,e,S2,D2,N2,V2,L2⟩=>?_
 subst e
 have m2:=ly.len N2 V2
 have S1':=S1.ov (g:=u2)
 have iy2:=iy1.ov (g:=u2)
 have b0:l2≠[]:=by rintro rfl;rw[vl_nil]at V2;omega
 repeat' (with_reducible first|simp(disch:=first|exact okD|fail) only[go_sem,seval,h2,h3,h4,h5]|(apply Spl.i<;>intro hc))
 refine Gp.wp (c265 S1' S2 D1 D2 N1 N2 (by omega) (by omega) b0) fun v h3' k3 j3 u3 ⟨vq,vr,lq,lr,e,Sq',Sr',Dq,Dr,Nq,Nr,Vq,Vr⟩=>?_
 subst e
 rw[V1,V2]at Vq Vr
 have ql:lq.length≤3999:=few_len Nq (by rw[Vq];exact Nat.lt_of_le_of_lt (Nat.div_le_self _ _) lx)
 have rl:lr.length≤3999:=few_len Nr (by rw[Vr];exact Nat.lt_of_le_of_lt (Nat.mod_le _ _) lx)
 have iy3:=iy2.ov (g:=u3)
 repeat' (with_reducible first|simp(disch:=first|exact okD|fail) only[go_sem,seval,h2,h3,h4,h5]|(apply Spl.i<;>intro hc))
 refine Gp.wp (c203 Sq' Dq Nq (by omega)) fun v h4' k4 j4 u4 I4=>?_
 obtain⟨a4,b4,rfl,o4,I4⟩:=I4.ex2
 rw[Vq,et]at I4
 have Sr2:=Sr'.ov (g:=u4)
 have iy4:=iy3.ov (g:=u4)
 repeat' (with_reducible first|simp(disch:=first|exact okD|fail) only[go_sem,seval,h2,h3,h4,h5]|(apply Spl.i<;>intro hc))
 refine Gp.wp (c203 Sr2 Dr Nr (by omega)) fun v h5' k5 j5 u5 I5=>?_
 obtain⟨a5,b5,rfl,o5,I5⟩:=I5.ex2
 rw[Vr,em]at I5
 have I4':=I4.ov (g:=u5)
 have iy5:=iy4.ov (g:=u5)
 have lq':Lim 3999 (x.tdiv y):=lx.le (Int.natAbs_tdiv_le_natAbs x y)
 have lr':Lim 3999 (x.tmod y):=lx.le (by rw[Int.natAbs_tmod];exact Nat.mod_le _ _)
 by_cases hr:x.tmod y<0
 ·obtain⟨f1,f2⟩:=fdiv_lt hy hr
  have hr':max (-1) (min 1 (x.tmod y))<0:=by omega
  repeat' (with_reducible first|simp(disch:=first|exact okD|fail) only[go_sem,seval,h2,h3,h4,h5,o4,o5]|(apply Spl.i<;>intro hc))
  refine Gv.wp (i194 (I5.grs okG)) fun h6' k6 j6 u6=>?_
  repeat' (with_reducible first|simp(disch:=first|exact okD|fail) only[go_sem,seval,h2,h3,h4,h5,o4,o5,hr']|(apply Spl.i<;>intro hc))
  refine Gv.wp c120 fun h7' k7 j7 u7=>?_
  repeat' (with_reducible first|simp(disch:=first|exact okD|fail) only[go_sem,seval,h2,h3,h4,h5,o4,o5]|(apply Spl.i<;>intro hc))
  refine Gp.wp (i260 (I4'.grs okG) (IsI.small (by omega)) (lq'.mono (by decide)) ((Lim.small (by omega)).mono (by decide))) fun v h8' k8 j8 u8 I8=>?_
  obtain⟨a8,b8,rfl,o8,I8⟩:=I8.ex2
  rw[←f1]at I8
  repeat' (with_reducible first|simp(disch:=first|exact okD|fail) only[go_sem,seval,h2,h3,h4,h5,o4,o5,q3]|(apply Spl.i<;>intro hc))
  refine Gp.wp (i121 (I5.grs okG) (iy5.grs okG) (lr'.mono (by decide)) (ly.mono (by decide))) fun v h9' k9 j9 u9 I9=>?_
  obtain⟨a9,b9,rfl,o9,I9⟩:=I9.ex2
  rw[←f2]at I9
  have I8':=I8.ov (g:=u9)
  repeat' (with_reducible first|simp(disch:=first|exact okD|fail) only[go_sem,seval,h2,h3,h4,h5,o4,o5,o8,o9,q4,q5]|(apply Spl.i<;>intro hc))
  refine⟨⟨_,_,rfl,⟨_,_,rfl,?_⟩,⟨_,_,rfl,?_⟩⟩,?_⟩
  ·exact(((I8'.putI (by simp(disch:=first|exact okD|fail) only[go_sem,seval,isCell_row])).putI (by simp(disch:=first|exact okD|fail) only[go_sem,seval,isCell_row])).putI (by simp(disch:=first|exact okD|fail) only[go_sem,seval,isCell_row,q4])).putI (by simp(disch:=first|exact okD|fail) only[go_sem,seval,isCell_row,q5])
  ·exact(((I9.putI (by simp(disch:=first|exact okD|fail) only[go_sem,seval,isCell_row])).putI (by simp(disch:=first|exact okD|fail) only[go_sem,seval,isCell_row])).putI (by simp(disch:=first|exact okD|fail) only[go_sem,seval,isCell_row,q4])).putI (by simp(disch:=first|exact okD|fail) only[go_sem,seval,isCell_row,q5])
  ·exact okG
 ·obtain⟨f1,f2⟩:=fdiv_ge hy hr
  have hr':¬max (-1) (min 1 (x.tmod y))<0:=by omega
  rw[←f1]at I4'
  rw[←f2]at I5
  rw[←f2]at hr'
  repeat' (with_reducible first|simp(disch:=first|exact okD|fail) only[go_sem,seval,h2,h3,h4,h5,o4,o5]|(apply Spl.i<;>intro hc))
  refine Gv.wp (i194 (I5.grs okG)) fun h6' k6 j6 u6=>?_
  repeat' (with_reducible first|simp(disch:=first|exact okD|fail) only[go_sem,seval,h2,h3,h4,h5,o4,o5,hr',q4,q5]|(apply Spl.i<;>intro hc))
  refine⟨⟨_,_,rfl,⟨_,_,rfl,?_⟩,⟨_,_,rfl,?_⟩⟩,?_⟩
  ·exact((I4'.grs okG).putI (by simp(disch:=first|exact okD|fail) only[go_sem,seval,isCell_row,q4])).putI (by simp(disch:=first|exact okD|fail) only[go_sem,seval,isCell_row,q5])
  ·exact((I5.grs okG).putI (by simp(disch:=first|exact okD|fail) only[go_sem,seval,isCell_row,q4])).putI (by simp(disch:=first|exact okD|fail) only[go_sem,seval,isCell_row,q5])
  ·exact okG
end
end
end Go.Ae
set_option linter.unusedVariables false
set_option linter.unusedSimpArgs false
set_option maxRecDepth 100000
namespace Go.Ae
open Bg
noncomputable section
section
variable {h hp:Hp} {K:AV→Hp→Prop} {s w s' w':AV} {x y z:Int}
theorem i197 (ix:IsI h s w x) (iy:IsI h s' w' y) (lx:Lim 3999 x) (ly:Lim 3999 y) (hy:0<y):Gp E2 197 [.agg [s,w],.agg [s',w']] h (DmP x y):=by
 obtain⟨o1,o2⟩:=ix.one
 obtain⟨o3,o4⟩:=iy.one
 obtain⟨n',rfl⟩:=iy.fst
 have A2:AtS ((((h.push fun st=> .row [s,w] true st).push fun st=> .row [.int .i64 n',w'] true st).push fun st=> .row [.int .i64 0,.nils] true st).push fun st=> .row [.int .i64 0,.nils] true st) h.next [s,w]:=(AtS.push.grs (Grs.refl _).push.push.push)
 have A3:AtS ((((h.push fun st=> .row [s,w] true st).push fun st=> .row [.int .i64 n',w'] true st).push fun st=> .row [.int .i64 0,.nils] true st).push fun st=> .row [.int .i64 0,.nils] true st) (h.next+1) [.int .i64 n',w']:=(AtS.push.grs (Grs.refl _).push.push)
 have A4:AtS ((((h.push fun st=> .row [s,w] true st).push fun st=> .row [.int .i64 n',w'] true st).push fun st=> .row [.int .i64 0,.nils] true st).push fun st=> .row [.int .i64 0,.nils] true st) (h.next+1+1) [.int .i64 0,.nils]:=(AtS.push.grs (Grs.refl _).push)
 have A5:AtS ((((h.push fun st=> .row [s,w] true st).push fun st=> .row [.int .i64 n',w'] true st).push fun st=> .row [.int .i64 0,.nils] true st).push fun st=> .row [.int .i64 0,.nils] true st) (h.next+1+1+1) [.int .i64 0,.nils]:=AtS.push
 have G:Grs h ((((h.push fun st=> .row [s,w] true st).push fun st=> .row [.int .i64 n',w'] true st).push fun st=> .row [.int .i64 0,.nils] true st).push fun st=> .row [.int .i64 0,.nils] true st):=(Grs.refl h).push.push.push.push
 have tail:=fun(hp:Hp) (tm:T AV) (p2 p3 p4 p5:Nat) h2 h3 h4 h5 g2 g3 g4 g5 (hG:Grs h hp) hn h45 ix iy=>dm_slow (h:=h) (hp:=hp) (tm:=tm) (p2:=p2) (p3:=p3) (p4:=p4) (p5:=p5) (s:=s) (w:=w) (n':=n') (w':=w') h2 h3 h4 h5 g2 g3 g4 g5 hG hn h45 ix iy lx ly hy
 rcases ix.cases with⟨rfl,rfl,hx⟩|⟨n,t,o,rfl,_⟩
 ·rcases iy.cases with⟨e,rfl,hy'⟩|⟨n,t,o,rfl,_⟩
  ·obtain rfl:n'=y:=by injection e
   by_cases hm:x= -9223372036854775808
   ·refine Gp.of (CallWp.fn (fn:=C.a197) rfl rfl rfl ?_)
    refine Wp.cut 2 rfl ?_
    generalize ACode.post 2 C.a197.code=r at tail⊢
    unfold C.a197
    dsimp only[ACode.pre]
    subst hm
    repeat' (with_reducible first|simp(disch:=first|exact okD|fail) only[go_sem,seval]|(apply Spl.i<;>intro hc))
    exact tail _ _ _ _ _ _ (by simp(disch:=first|exact okD|fail) only[go_sem,seval]) (by simp(disch:=first|exact okD|fail) only[go_sem,seval]) (by simp(disch:=first|exact okD|fail) only[go_sem,seval]) (by simp(disch:=first|exact okD|fail) only[go_sem,seval]) A2 A3 A4 A5 G (by omega) (by omega) (ix.grs G) (iy.grs G)
   ·refine(c197 (by omega) (by omega)).gp fun h' _=>⟨_,_,rfl,IsV.sI ?_,IsV.sI ?_⟩
    ·have:=tdiv_le (a:=x) (b:=n') (by omega) hy
     have ht: -n'<x.tmod n'∧x.tmod n'<n':=⟨Int.lt_tmod_of_pos x hy,Int.tmod_lt_of_pos x hy⟩
     by_cases hr:x.tmod n'<0
     ·rw[(fdiv_lt hy hr).1];omega
     ·rw[(fdiv_ge hy hr).1];omega
    ·have:=Int.fmod_nonneg_of_pos x hy
     have:=Int.fmod_lt_of_pos x hy
     omega
  ·refine Gp.of (CallWp.fn (fn:=C.a197) rfl rfl rfl ?_)
   refine Wp.cut 2 rfl ?_
   generalize ACode.post 2 C.a197.code=r at tail⊢
   unfold C.a197
   dsimp only[ACode.pre]
   repeat' (with_reducible first|simp(disch:=first|exact okD|fail) only[go_sem,seval]|(apply Spl.i<;>intro hc))
   exact tail _ _ _ _ _ _ (by simp(disch:=first|exact okD|fail) only[go_sem,seval]) (by simp(disch:=first|exact okD|fail) only[go_sem,seval]) (by simp(disch:=first|exact okD|fail) only[go_sem,seval]) (by simp(disch:=first|exact okD|fail) only[go_sem,seval]) A2 A3 A4 A5 G (by omega) (by omega) (ix.grs G) (iy.grs G)
 ·refine Gp.of (CallWp.fn (fn:=C.a197) rfl rfl rfl ?_)
  refine Wp.cut 2 rfl ?_
  generalize ACode.post 2 C.a197.code=r at tail⊢
  unfold C.a197
  dsimp only[ACode.pre]
  repeat' (with_reducible first|simp(disch:=first|exact okD|fail) only[go_sem,seval,o1,o4]|(apply Spl.i<;>intro hc))
  exact tail _ _ _ _ _ _ (by simp(disch:=first|exact okD|fail) only[go_sem,seval]) (by simp(disch:=first|exact okD|fail) only[go_sem,seval]) (by simp(disch:=first|exact okD|fail) only[go_sem,seval]) (by simp(disch:=first|exact okD|fail) only[go_sem,seval]) A2 A3 A4 A5 G (by omega) (by omega) (ix.grs G) (iy.grs G)
theorem i201 (ix:IsI h s w x) (iy:IsI h s' w' y) (lx:Lim 3999 x) (ly:Lim 3999 y) (hy:0<y):Gp E2 201 [.agg [s,w],.agg [s',w']] h fun v h'=>IsV h' v (x.fdiv y):=by
 obtain⟨o1,o2⟩:=ix.one
 obtain⟨o3,o4⟩:=iy.one
 refine Gp.of (CallWp.fn (fn:=C.a201) rfl rfl rfl ?_)
 unfold C.a201
 have hs':¬max (-1) (min 1 y)<0:=by omega
 repeat' (with_reducible first|simp(disch:=first|exact okD|fail) only[go_sem,seval,o1,o2,o3,o4]|(apply Spl.i<;>intro hc))
 refine Gv.wp (i194 (iy.grs okG)) fun h1 k1 j1 u1=>?_
 repeat' (with_reducible first|simp(disch:=first|exact okD|fail) only[go_sem,seval,hs',o1,o2,o3,o4]|(apply Spl.i<;>intro hc))
 refine Gp.wp (i197 (ix.grs okG) (iy.grs okG) lx ly hy) fun v h2 k2 j2 u2 ⟨va,vb,e,I1,I2⟩=>?_
 subst e
 obtain⟨a1,b1,rfl,p1,I1⟩:=I1.ex2
 obtain⟨a2,b2,rfl,p2,I2⟩:=I2.ex2
 repeat' (with_reducible first|simp(disch:=first|exact okD|fail) only[go_sem,seval,p1,p2]|(apply Spl.i<;>intro hc))
 refine⟨⟨_,_,rfl,?_⟩,?_⟩
 ·exact(I1.grs okG).putI (by simp(disch:=first|exact okD|fail) only[go_sem,seval,isCell_row])
 ·exact okG
theorem i190 (ix:IsI h s w x) (iy:IsI h s' w' y) (lx:Lim 3999 x) (ly:Lim 3999 y):Gp E2 190 [.agg [s,w],.agg [s',w']] h fun v h'=>IsV h' v (Int.gcd x y:Int):=by
 obtain⟨o1,o2⟩:=ix.one
 obtain⟨o3,o4⟩:=iy.one
 obtain⟨n1,rfl⟩:=ix.fst
 obtain⟨n2,rfl⟩:=iy.fst
 refine Gp.of (CallWp.fn (fn:=C.a190) rfl rfl rfl ?_)
 unfold C.a190
 repeat' (with_reducible first|simp(disch:=first|exact okD|fail) only[go_sem,seval,o2,o4]|(apply Spl.i<;>intro hc))
 refine Gp.wp (i257 (ix.grs okG) (lx.mono (by decide))) fun v h1 k1 j1 u1 I1=>?_
 obtain⟨a1,b1,rfl,p1,I1⟩:=I1.ex2
 repeat' (with_reducible first|simp(disch:=first|exact okD|fail) only[go_sem,seval,o2,o4,p1]|(apply Spl.i<;>intro hc))
 refine Gp.wp (i257 (iy.grs okG) (ly.mono (by decide))) fun v h2 k2 j2 u2 I2=>?_
 obtain⟨a2,b2,rfl,p2,I2⟩:=I2.ex2
 have I1':=I1.ov (g:=u2)
 have lx':Lim 3999 (x.natAbs:Int):=lx.le (by omega)
 have ly':Lim 3999 (y.natAbs:Int):=ly.le (by omega)
 repeat' (with_reducible first|simp(disch:=first|exact okD|fail) only[go_sem,seval,o2,o4,p1,p2]|(apply Spl.i<;>intro hc))
 refine Wp.loopI (fun m s'=>∃(a b:Nat) (m1 m2:Int) (w1 w2:AV),val s'.tm (.t 2)= .ptr h.next 0∧val s'.tm (.t 3)= .ptr (h.next+1) 0∧val s'.tm (.t 4)= .ptr (h.next+1+1) 0∧
  AtS s'.hp h.next [.int .i64 m1,w1]∧AtS s'.hp (h.next+1) [.int .i64 m2,w2]∧AtS s'.hp (h.next+1+1) [.int .i64 0,.nils]∧Grs h s'.hp∧IsI s'.hp (.int .i64 m1) w1 a∧IsI s'.hp (.int .i64 m2) w2 b∧Lim 3999 (a:Int)∧Lim 3999 (b:Int)∧Nat.gcd a b=Int.gcd x y∧b=m) (n:=y.natAbs) ?_ ?_
 ·refine⟨x.natAbs,y.natAbs,a1,a2,b1,b2,by simp(disch:=first|exact okD|fail) only[go_sem,seval],by simp(disch:=first|exact okD|fail) only[go_sem,seval],by simp(disch:=first|exact okD|fail) only[go_sem,seval],?_,?_,?_,?_,?_,?_,lx',ly',rfl,rfl⟩
  ·exact(AtS.put okO).other (by omega)
  ·exact AtS.put okO
  ·refine AtS.other (AtS.other ?_ (by omega)) (by omega)
   exact(AtS.push (h:=(h.push fun st=> .row [.int .i64 n1,w] true st).push fun st=> .row [.int .i64 n2,w'] true st)).grs okG
  ·refine Grs.put (Grs.put ?_ (by omega)) (by omega)
   exact okG
  ·exact(I1'.putI (by simp(disch:=first|exact okD|fail) only[go_sem,seval,isCell_row])).putI (by simp(disch:=first|exact okD|fail) only[go_sem,seval,isCell_row])
  ·exact(I2.putI (by simp(disch:=first|exact okD|fail) only[go_sem,seval,isCell_row])).putI (by simp(disch:=first|exact okD|fail) only[go_sem,seval,isCell_row])
 ·rintro m ⟨tm,hp⟩ ⟨a,b,m1,m2,w1,w2,h2,h3,h4,⟨s2,g2,c2,t2⟩,⟨s3,g3,c3,t3⟩,⟨s4,g4,c4,t4⟩,hG,Ia,Ib,la,lb,hg,rfl⟩
  simp only at h2 h3 h4 g2 g3 g4 c2 c3 c4 t2 t3 t4 hG Ia Ib
  obtain⟨_,oa⟩:=Ia.one
  obtain⟨_,ob⟩:=Ib.one
  repeat' (with_reducible first|simp(disch:=first|exact okD|fail) only[go_sem,seval,h2,h3,h4,g3,oa,ob]|(apply Spl.i<;>intro hc))
  refine Gv.wp (i194 Ib) fun h5 k5 j5 u5=>?_
  have Ia5:=Ia.ov (g:=u5)
  have Ib5:=Ib.ov (g:=u5)
  rcases Nat.eq_zero_or_pos b with rfl|hb
  ·have hz:max (-1) (min 1 ((0:Nat):Int))=0:=by omega
   rw[Nat.gcd_zero_right]at hg
   repeat' (with_reducible first|simp(disch:=first|exact okD|fail) only[go_sem,seval,h2,h3,h4,g2,g3,g4,oa,ob,hz]|(apply Spl.i<;>intro hc))
   refine⟨⟨_,_,rfl,?_⟩,?_⟩
   ·rw[←hg]
    exact Ia5.putI (by simp(disch:=first|exact okD|fail) only[go_sem,seval,isCell_row,g4])
   ·refine Grs.put hG.ov (by omega)
  ·have hz:¬max (-1) (min 1 (b:Int))=0:=by omega
   repeat' (with_reducible first|simp(disch:=first|exact okD|fail) only[go_sem,seval,h2,h3,h4,g2,g3,g4,oa,ob,hz]|(apply Spl.i<;>intro hc))
   refine Gp.wp (i197 Ia5 Ib5 la lb (by omega)) fun v h6 k6 j6 u6 ⟨va,vb,e,I6,I7⟩=>?_
   subst e
   obtain⟨a6,b6,rfl,p6,I6⟩:=I6.ex2
   obtain⟨a7,b7,rfl,p7,I7⟩:=I7.ex2
   have Ib6:=Ib5.ov (g:=u6)
   have hmod:(a:Int).fmod b=((a%b:Nat):Int):=by
    rw[Int.fmod_eq_emod_of_nonneg _ (by omega)];rfl
   rw[hmod]at I7
   repeat' (with_reducible first|simp(disch:=first|exact okD|fail) only[go_sem,seval,h2,h3,h4,g2,g3,g4,oa,ob,p6,p7]|(apply Spl.i<;>intro hc))
   refine⟨a%b,Nat.mod_lt _ hb,b,a%b,m2,a7,w2,b7,?_,?_,?_,?_,?_,?_,lb,?_,?_,rfl⟩
   ·exact(AtS.put okO).other (by omega)
   ·exact AtS.put okO
   ·refine AtS.other (AtS.other ?_ (by omega)) (by omega)
    exact AtS.grs (h:=hp) ⟨s4,g4,c4,t4⟩ okG
   ·refine Grs.put (Grs.put (hG.trans ?_) (by omega)) (by omega)
    exact okG
   ·exact((Ib6.grs okG).putI (by simp(disch:=first|exact okD|fail) only[go_sem,seval,isCell_row,g2])).putI (by simp(disch:=first|exact okD|fail) only[go_sem,seval,isCell_row,g3])
   ·exact((I7.grs okG).putI (by simp(disch:=first|exact okD|fail) only[go_sem,seval,isCell_row,g2])).putI (by simp(disch:=first|exact okD|fail) only[go_sem,seval,isCell_row,g3])
   ·exact la.le (by have:=Nat.mod_le a b;omega)
   ·rw[←hg,Nat.gcd_comm b,←Nat.gcd_rec,Nat.gcd_comm]
end
end
end Go.Ae
set_option linter.unusedVariables false
set_option linter.unusedSimpArgs false
set_option maxRecDepth 100000
namespace Go.Ae
open Bg
noncomputable section
def IsF (h:Hp) (v:AV) (r:Rat):Prop:=∃s w s' w',v= .agg [s,w,s',w']∧IsI h s w r.num∧IsI h s' w' r.den
section
variable {h h' hp:Hp} {K:AV→Hp→Prop} {s w s' w':AV} {x y z:Int} {r:Rat} {v:AV}
theorem IsF.grs (i:IsF h v r) (g:Grs h h'):IsF h' v r:=by
 obtain⟨s,w,s',w',e,i,j⟩:=i
 exact⟨s,w,s',w',e,i.grs g,j.grs g⟩
theorem IsF.ex (i:IsF h v r):∃n w n' w',v= .agg [.int .i64 n,w,.int .i64 n',w']∧w.one=true∧w'.one=true∧IsI h (.int .i64 n) w r.num∧IsI h (.int .i64 n') w' r.den:=by
 obtain⟨s,w,s',w',rfl,i,j⟩:=i
 obtain⟨n,rfl⟩:=i.fst
 obtain⟨n',rfl⟩:=j.fst
 exact⟨n,w,n',w',rfl,i.one.2,j.one.2,i,j⟩
theorem fill22 {n n':Int} (h1:w.one=true) (h2:w'.one=true):fillA [.int .i64 0,.nils,.int .i64 0,.nils] [(0,2,.agg [.int .i64 n,w]),(2,2,.agg [.int .i64 n',w'])]=some [.int .i64 n,w,.int .i64 n',w']:=by
 have e1:(AV.agg [.int .i64 n,w]).cells=[.int .i64 n,w]:=rfl
 have e2:(AV.agg [.int .i64 n',w']).cells=[.int .i64 n',w']:=rfl
 rw[fillA_cons (by rw[e1];exact⟨rfl,by simp,by simp only[List.all_cons,List.all_nil,h1,one_int,Bool.and_self]⟩),fillA_cons (by rw[e2];exact⟨rfl,by rw[e1];simp[splice],by simp only[List.all_cons,List.all_nil,h2,one_int,Bool.and_self]⟩),fillA_nil,e1,e2]
 rfl
theorem make_gcd {tm:T AV} {p2 p3 p4:Nat} {n n':Int} (h2:val tm (.t 2)= .ptr p2 0) (h3:val tm (.t 3)= .ptr p3 0) (h4:val tm (.t 4)= .ptr p4 0) (g2:AtS hp p2 [.int .i64 n,w]) (g3:AtS hp p3 [.int .i64 n',w']) (g4:AtS hp p4 [.int .i64 0,.nils,.int .i64 0,.nils])
  (hG:Grs h hp) (hn:h.next≤p4) (ix:IsI hp (.int .i64 n) w x) (iy:IsI hp (.int .i64 n') w' y) (lx:Lim 3999 x) (ly:Lim 3999 y) (hy:0<y):
  Wp E2 ((C.a119.code.post 2).post 1) ⟨tm,hp⟩ (RetQ [.cell 4 true 4] fun v h'=>IsF h' v (Rat.divInt x y)∧Grs h h'):=by
 unfold C.a119
 dsimp only[ACode.post]
 obtain⟨s2,q2,c2,t2⟩:=g2
 obtain⟨s3,q3,c3,t3⟩:=g3
 obtain⟨s4,q4,c4,t4⟩:=g4
 obtain⟨_,o1⟩:=ix.one
 obtain⟨_,o2⟩:=iy.one
 obtain⟨f1,f2⟩:=divInt_gcd (p:=x) hy
 have hg:0<(Int.gcd x y:Int):=by
  have:=Int.gcd_pos_of_ne_zero_right x (show y≠0 by omega)
  omega
 have lg:Lim 3999 (Int.gcd x y:Int):=ly.le (by
  have:=Nat.le_of_dvd (show 0<y.natAbs by omega) (Int.gcd_dvd_natAbs_right x y)
  omega)
 repeat' (with_reducible first|simp(disch:=first|exact okD|fail) only[go_sem,seval,h2,h3,h4,q2,q3,o1,o2]|(apply Spl.i<;>intro hc))
 refine Gp.wp (i190 ix iy lx ly) fun v h1 k1 j1 u1 I1=>?_
 obtain⟨a1,b1,rfl,p1,I1⟩:=I1.ex2
 repeat' (with_reducible first|simp(disch:=first|exact okD|fail) only[go_sem,seval,h2,h3,h4,q2,q3,o1,o2,p1]|(apply Spl.i<;>intro hc))
 refine Gp.wp (i201 ((ix.ov (g:=u1)).grs okG) (I1.grs okG) lx lg hg) fun v h5 k5 j5 u5 I5=>?_
 obtain⟨a5,b5,rfl,p5,I5⟩:=I5.ex2
 repeat' (with_reducible first|simp(disch:=first|exact okD|fail) only[go_sem,seval,h2,h3,h4,q2,q3,o1,o2,p1,p5]|(apply Spl.i<;>intro hc))
 refine Gp.wp (i201 ((iy.ov (g:=u1)).grs okG) (I1.grs okG) ly lg hg) fun v h6 k6 j6 u6 I6=>?_
 obtain⟨a6,b6,rfl,p6,I6⟩:=I6.ex2
 rw[←f1]at I5
 rw[←f2]at I6
 repeat' (with_reducible first|simp(disch:=first|exact okD|fail) only[go_sem,seval,h2,h3,h4,q4,o1,o2,p1,p5,p6,fill22 p5 p6,Option.map_some]|(apply Spl.i<;>intro hc))
 refine⟨⟨_,_,_,_,rfl,?_,?_⟩,?_⟩
 ·exact(I5.ov (g:=u6)).putI (by simp(disch:=first|exact okD|fail) only[go_sem,seval,isCell_row,q4])
 ·exact I6.putI (by simp(disch:=first|exact okD|fail) only[go_sem,seval,isCell_row,q4])
 ·refine Grs.put (hG.trans ?_) hn
  exact okG
theorem make_pos {tm:T AV} {p2 p3 p4:Nat} {n n':Int} (h2:val tm (.t 2)= .ptr p2 0) (h3:val tm (.t 3)= .ptr p3 0) (h4:val tm (.t 4)= .ptr p4 0) (g2:AtS hp p2 [.int .i64 n,w]) (g3:AtS hp p3 [.int .i64 n',w']) (g4:AtS hp p4 [.int .i64 0,.nils,.int .i64 0,.nils])
  (hG:Grs h hp) (hn:h.next≤p4) (ix:IsI hp (.int .i64 n) w x) (iy:IsI hp (.int .i64 n') w' y) (lx:Lim 3999 x) (ly:Lim 3999 y) (hy:0<y):
  Wp E2 (C.a119.code.post 2) ⟨tm,hp⟩ (RetQ [.cell 4 true 4] fun v h'=>IsF h' v (Rat.divInt x y)∧Grs h h'):=by
 have tail:=fun tm h2 h3 h4=>make_gcd (tm:=tm) (p2:=p2) (p3:=p3) (p4:=p4) h2 h3 h4 g2 g3 g4 hG hn ix iy lx ly hy
 refine Wp.cut 1 rfl ?_
 generalize ACode.post 1 (ACode.post 2 C.a119.code)=r at tail⊢
 unfold C.a119
 dsimp only[ACode.post,ACode.pre]
 obtain⟨s2,q2,c2,t2⟩:=g2
 obtain⟨s3,q3,c3,t3⟩:=g3
 obtain⟨s4,q4,c4,t4⟩:=g4
 obtain⟨_,o1⟩:=ix.one
 rcases iy.cases with⟨e,rfl,_⟩|⟨m,t,o,rfl,_⟩
 ·obtain rfl:n'=y:=by injection e
  by_cases h1:n'=1
  ·subst h1
   obtain⟨f1,f2⟩:=divInt_one (p:=x)
   repeat' (with_reducible first|simp(disch:=first|exact okD|fail) only[go_sem,seval,h2,h3,h4,q2,q3,q4,o1,fill22 o1 one_nils,Option.map_some]|(apply Spl.i<;>intro hc))
   refine⟨⟨_,_,_,_,rfl,?_,?_⟩,?_⟩
   ·rw[f1];exact ix.putI (by simp(disch:=first|exact okD|fail) only[go_sem,seval,isCell_row,q4])
   ·rw[f2];exact IsI.small (by omega)
   ·exact Grs.put hG hn
  ·repeat' (with_reducible first|simp(disch:=first|exact okD|fail) only[go_sem,seval,h2,h3,h4,q2,q3,h1]|(apply Spl.i<;>intro hc))
   exact tail _ (by simp(disch:=first|exact okD|fail) only[go_sem,seval,h2]) (by simp(disch:=first|exact okD|fail) only[go_sem,seval,h3]) (by simp(disch:=first|exact okD|fail) only[go_sem,seval,h4])
 ·repeat' (with_reducible first|simp(disch:=first|exact okD|fail) only[go_sem,seval,h2,h3,h4,q2,q3]|(apply Spl.i<;>intro hc))
  exact tail _ (by simp(disch:=first|exact okD|fail) only[go_sem,seval,h2]) (by simp(disch:=first|exact okD|fail) only[go_sem,seval,h3]) (by simp(disch:=first|exact okD|fail) only[go_sem,seval,h4])
theorem i119 (ix:IsI h s w x) (iy:IsI h s' w' y) (lx:Lim 3999 x) (ly:Lim 3999 y) (hy:y≠0):Gp E2 119 [.agg [s,w],.agg [s',w']] h fun v h'=>IsF h' v (Rat.divInt x y):=by
 obtain⟨n,rfl⟩:=ix.fst
 obtain⟨n',rfl⟩:=iy.fst
 obtain⟨_,o1⟩:=ix.one
 obtain⟨_,o2⟩:=iy.one
 refine Gp.of (CallWp.fn (fn:=C.a119) rfl rfl rfl ?_)
 refine Wp.cut 2 rfl ?_
 have G:Grs h (((h.push fun st=> .row [.int .i64 n,w] true st).push fun st=> .row [.int .i64 n',w'] true st).push fun st=> .row [.int .i64 0,.nils,.int .i64 0,.nils] true st):=(Grs.refl h).push.push.push
 have A2:AtS (((h.push fun st=> .row [.int .i64 n,w] true st).push fun st=> .row [.int .i64 n',w'] true st).push fun st=> .row [.int .i64 0,.nils,.int .i64 0,.nils] true st) h.next [.int .i64 n,w]:=(AtS.push.grs (Grs.refl _).push.push)
 have A3:AtS (((h.push fun st=> .row [.int .i64 n,w] true st).push fun st=> .row [.int .i64 n',w'] true st).push fun st=> .row [.int .i64 0,.nils,.int .i64 0,.nils] true st) (h.next+1) [.int .i64 n',w']:=(AtS.push.grs (Grs.refl _).push)
 have A4:AtS (((h.push fun st=> .row [.int .i64 n,w] true st).push fun st=> .row [.int .i64 n',w'] true st).push fun st=> .row [.int .i64 0,.nils,.int .i64 0,.nils] true st) (h.next+1+1) [.int .i64 0,.nils,.int .i64 0,.nils]:=AtS.push
 by_cases hp:0<y
 ·have tail:=fun(hp':Hp) tm p2 p3 p4 (n n':Int) (w w':AV) h2 h3 h4 g2 g3 g4 hG hn ix iy=>make_pos (h:=h) (hp:=hp') (tm:=tm) (p2:=p2) (p3:=p3) (p4:=p4) (n:=n) (n':=n') (w:=w) (w':=w') h2 h3 h4 g2 g3 g4 hG hn ix iy lx ly hp
  generalize ACode.post 2 C.a119.code=r at tail⊢
  unfold C.a119
  dsimp only[ACode.pre]
  have hs:¬max (-1) (min 1 y)<0:=by omega
  repeat' (with_reducible first|simp(disch:=first|exact okD|fail) only[go_sem,seval,o1,o2]|(apply Spl.i<;>intro hc))
  refine Gv.wp (i194 (iy.grs G)) fun h1 k1 j1 u1=>?_
  have G1:Grs _ ((((h.push fun st=> .row [.int .i64 n,w] true st).push fun st=> .row [.int .i64 n',w'] true st).push fun st=> .row [.int .i64 0,.nils,.int .i64 0,.nils] true st).ov h1 u1):=(Grs.refl _).ov
  repeat' (with_reducible first|simp(disch:=first|exact okD|fail) only[go_sem,seval,hs]|(apply Spl.i<;>intro hc))
  exact tail _ _ h.next (h.next+1) (h.next+1+1) n n' w w' (by simp(disch:=first|exact okD|fail) only[go_sem,seval]) (by simp(disch:=first|exact okD|fail) only[go_sem,seval]) (by simp(disch:=first|exact okD|fail) only[go_sem,seval]) (A2.grs G1) (A3.grs G1) (A4.grs G1) (G.trans G1) (by omega) ((ix.grs G).grs G1) ((iy.grs G).grs G1)
 ·have tail:=fun(hp':Hp) tm p2 p3 p4 (n n':Int) (w w':AV) h2 h3 h4 g2 g3 g4 hG hn ix iy=>make_pos (h:=h) (hp:=hp') (tm:=tm) (p2:=p2) (p3:=p3) (p4:=p4) (n:=n) (n':=n') (w:=w) (w':=w') (x:= -x) (y:= -y) h2 h3 h4 g2 g3 g4 hG hn ix iy lx.neg ly.neg (by omega)
  rw[divInt_neg2 hy]at tail
  generalize ACode.post 2 C.a119.code=r at tail⊢
  unfold C.a119
  dsimp only[ACode.pre]
  have hs:max (-1) (min 1 y)<0:=by omega
  repeat' (with_reducible first|simp(disch:=first|exact okD|fail) only[go_sem,seval,o1,o2]|(apply Spl.i<;>intro hc))
  refine Gv.wp (i194 (iy.grs G)) fun h1 k1 j1 u1=>?_
  repeat' (with_reducible first|simp(disch:=first|exact okD|fail) only[go_sem,seval,hs,o1,o2]|(apply Spl.i<;>intro hc))
  refine Gp.wp (i200 ((ix.grs G).grs okG) (lx.mono (by decide))) fun v h5 k5 j5 u5 I5=>?_
  obtain⟨a5,b5,rfl,p5,I5⟩:=I5.ex2
  repeat' (with_reducible first|simp(disch:=first|exact okD|fail) only[go_sem,seval,hs,o1,o2,p5]|(apply Spl.i<;>intro hc))
  refine Gp.wp (i200 ((iy.grs G).grs okG) (ly.mono (by decide))) fun v h6 k6 j6 u6 I6=>?_
  obtain⟨a6,b6,rfl,p6,I6⟩:=I6.ex2
  have I5':=I5.ov (g:=u6)
  have G6:Grs (((h.push fun st=> .row [.int .i64 n,w] true st).push fun st=> .row [.int .i64 n',w'] true st).push fun st=> .row [.int .i64 0,.nils,.int .i64 0,.nils] true st) ((((((h.push fun st=> .row [.int .i64 n,w] true st).push fun st=> .row [.int .i64 n',w'] true st).push fun st=> .row [.int .i64 0,.nils,.int .i64 0,.nils] true st).ov h1 u1).ov h5 u5).ov h6 u6):=by exact okG
  repeat' (with_reducible first|simp(disch:=first|exact okD|fail) only[go_sem,seval,o1,o2,p5,p6]|(apply Spl.i<;>intro hc))
  refine tail _ _ h.next (h.next+1) (h.next+1+1) a5 a6 b5 b6 (by simp(disch:=first|exact okD|fail) only[go_sem,seval]) (by simp(disch:=first|exact okD|fail) only[go_sem,seval]) (by simp(disch:=first|exact okD|fail) only[go_sem,seval]) ?_ ?_ ?_ ?_ (by omega) ?_ ?_
  ·exact(AtS.put okO).other (by omega)
  ·exact AtS.put okO
  ·exact((A4.grs G6).other (by omega)).other (by omega)
  ·exact Grs.put (Grs.put (G.trans G6) (by omega)) (by omega)
  ·exact(I5'.putI (by simp(disch:=first|exact okD|fail) only[go_sem,seval,isCell_row])).putI (by simp(disch:=first|exact okD|fail) only[go_sem,seval,isCell_row])
  ·exact(I6.putI (by simp(disch:=first|exact okD|fail) only[go_sem,seval,isCell_row])).putI (by simp(disch:=first|exact okD|fail) only[go_sem,seval,isCell_row])
end
end
end Go.Ae
set_option linter.unusedVariables false
set_option linter.unusedSimpArgs false
set_option maxRecDepth 100000
namespace Go.Ae
open Bg
noncomputable section
def Bd (n:Nat) (r:Rat):Prop:=Lim n r.num∧Lim n (r.den:Int)
section
variable {h h' hp:Hp} {K:AV→Hp→Prop} {s w s' w':AV} {x y z:Int} {a b r:Rat} {v va vb:AV} {n m:Nat}
theorem Bd.mono (i:Bd n r) (hn:n≤m):Bd m r:=⟨i.1.mono hn,i.2.mono hn⟩
theorem Bd.of {p q:Int} (hq:q≠0) (hp:Lim n p) (hl:Lim n q):Bd n (Rat.divInt p q):=by
 obtain⟨h1,h2⟩:=divInt_le (p:=p) hq
 exact⟨hp.le h1,hl.le (by rw[Int.natAbs_natCast];exact h2)⟩
theorem Bd.mul (i:Bd n a) (j:Bd m b):Bd (n+m) (a*b):=by
 rw[rmul]
 have h1:=den_pos a
 have h2:=den_pos b
 exact Bd.of (Int.mul_ne_zero (by omega) (by omega)) (i.1.mul j.1) (i.2.mul j.2)
theorem Bd.add (i:Bd n a) (j:Bd m b):Bd (n+m+1) (a+b):=by
 rw[radd]
 have h1:=den_pos a
 have h2:=den_pos b
 exact Bd.of (Int.mul_ne_zero (by omega) (by omega)) ((i.1.mul j.2).add ((j.1.mul i.2).mono (by omega))) ((i.2.mul j.2).mono (by omega))
theorem Bd.neg (i:Bd n a):Bd n (-a):=⟨i.1.neg,i.2⟩
theorem Bd.inv (i:Bd n a) (h0:a≠0):Bd n a⁻¹:=by
 rw[Rat.inv_def]
 exact Bd.of (by rw[ne_eq,Rat.num_eq_zero];exact h0) i.2 i.1
theorem i183 (ix:IsI h s w x):Gp E2 183 [.agg [s,w]] h fun v h'=>IsF h' v (Rat.divInt x 1):=by
 obtain⟨n,rfl⟩:=ix.fst
 obtain⟨_,o1⟩:=ix.one
 obtain⟨f1,f2⟩:=divInt_one (p:=x)
 refine Gp.of (CallWp.fn (fn:=C.a183) rfl rfl rfl ?_)
 unfold C.a183
 repeat' (with_reducible first|simp(disch:=first|exact okD|fail) only[go_sem,seval,o1]|(apply Spl.i<;>intro hc))
 refine Gv.wp c120 fun h1 k1 j1 u1=>?_
 repeat' (with_reducible first|simp(disch:=first|exact okD|fail) only[go_sem,seval,o1,fill22 o1 one_nils,Option.map_some]|(apply Spl.i<;>intro hc))
 refine⟨⟨_,_,_,_,rfl,?_,?_⟩,?_⟩
 ·rw[f1];exact(ix.grs okG).putI (by simp(disch:=first|exact okD|fail) only[go_sem,seval,isCell_row])
 ·rw[f2];exact IsI.small (by omega)
 ·exact okG
theorem i115 (ia:IsF h va a) (ib:IsF h vb b) (la:Bd 900 a) (lb:Bd 900 b):Gp E2 115 [va,vb] h fun v h'=>IsF h' v (a*b):=by
 obtain⟨n1,w1,n2,w2,rfl,o1,o2,I1,I2⟩:=ia.ex
 obtain⟨m1,v1,m2,v2,rfl,o3,o4,I3,I4⟩:=ib.ex
 have ha:=den_pos a
 have hb:=den_pos b
 refine Gp.of (CallWp.fn (fn:=C.a115) rfl rfl rfl ?_)
 unfold C.a115
 rw[rmul]
 repeat' (with_reducible first|simp(disch:=first|exact okD|fail) only[go_sem,seval,o1,o2,o3,o4]|(apply Spl.i<;>intro hc))
 refine Gp.wp (i195 (I1.grs okG) (I3.grs okG) (la.1.mono (by decide)) (lb.1.mono (by decide))) fun v h1 k1 j1 u1 I5=>?_
 obtain⟨n5,w5,rfl,o5,I5⟩:=I5.ex2
 repeat' (with_reducible first|simp(disch:=first|exact okD|fail) only[go_sem,seval,o1,o2,o3,o4]|(apply Spl.i<;>intro hc))
 refine Gp.wp (i195 (I2.grs okG) (I4.grs okG) (la.2.mono (by decide)) (lb.2.mono (by decide))) fun v h2 k2 j2 u2 I6=>?_
 obtain⟨n6,w6,rfl,o6,I6⟩:=I6.ex2
 repeat' (with_reducible first|simp(disch:=first|exact okD|fail) only[go_sem,seval,o1,o2,o3,o4]|(apply Spl.i<;>intro hc))
 refine Gp.wp (i119 (I5.ov (g:=u2)) I6 ((la.1.mul lb.1).mono (by decide)) ((la.2.mul lb.2).mono (by decide)) (Int.mul_ne_zero (by omega) (by omega))) fun v h3 k3 j3 u3 I7=>?_
 obtain⟨n7,w7,n8,w8,rfl,o7,o8,I7,I8⟩:=I7.ex
 repeat' (with_reducible first|simp(disch:=first|exact okD|fail) only[go_sem,seval,o7,o8]|(apply Spl.i<;>intro hc))
 refine⟨⟨_,_,_,_,rfl,?_,?_⟩,?_⟩
 ·exact I7.putI (by simp(disch:=first|exact okD|fail) only[go_sem,seval,isCell_row])
 ·exact I8.putI (by simp(disch:=first|exact okD|fail) only[go_sem,seval,isCell_row])
 ·exact okG
theorem i241 (ia:IsF h va a):Gv E2 241 [va] h (.bool (decide ((a.den:Int)=1))):=by
 obtain⟨n1,w1,n2,w2,rfl,o1,o2,I1,I2⟩:=ia.ex
 refine Gv.of (CallWp.fn (fn:=C.a241) rfl rfl rfl ?_)
 unfold C.a241
 rcases I2.cases with⟨e,rfl,_⟩|⟨m,t,o,rfl,hb,_⟩
 ·obtain rfl:n2=a.den:=by injection e
  repeat' (with_reducible first|simp(disch:=first|exact okD|fail) only[go_sem,seval,o1]|(apply Spl.i<;>intro hc))
  exact okG
 ·have h1:((a.den:Int)=1)=False:=by simp only[eq_iff_iff,iff_false];omega
  repeat' (with_reducible first|simp(disch:=first|exact okD|fail) only[go_sem,seval,o1,h1]|(apply Spl.i<;>intro hc))
  exact okG
theorem i163 (ia:IsF h va a) (ib:IsF h vb b) (la:Bd 900 a) (lb:Bd 900 b):Gp E2 163 [va,vb] h fun v h'=>IsF h' v (a+b):=by
  obtain⟨n1,w1,n2,w2,ea,o1,o2,I1,I2⟩:=ia.ex
  obtain⟨m1,v1,m2,v2,eb,o3,o4,I3,I4⟩:=ib.ex
  have ha:=den_pos a
  have hb:=den_pos b
  refine Gp.of (CallWp.fn (fn:=C.a163) rfl rfl rfl ?_)
  have slow:∀(tm:T AV) (hp:Hp) (p2 p3 p4:Nat),val tm (.t 2)= .ptr p2 0→val tm (.t 3)= .ptr p3 0→val tm (.t 4)= .ptr p4 0→AtS hp p2 [.int .i64 n1,w1,.int .i64 n2,w2]→AtS hp p3 [.int .i64 m1,v1,.int .i64 m2,v2]→AtS hp p4 [.int .i64 0,.nils,.int .i64 0,.nils]→Grs h hp→h.next≤p4→
      Wp E2 (C.a163.code.post 2) ⟨tm,hp⟩ (RetQ [.cell 4 true 4] fun v h'=>IsF h' v (a+b)∧Grs h h'):=by
    intro tm hp p2 p3 p4 h2 h3 h4 ⟨s2,q2,c2,t2⟩ ⟨s3,q3,c3,t3⟩ ⟨s4,q4,c4,t4⟩ hG hn
    unfold C.a163
    dsimp only[ACode.post]
    rw[radd]
    repeat' (with_reducible first|simp(disch:=first|exact okD|fail) only[go_sem,seval,h2,h3,h4,q2,q3,o1,o2,o3,o4]|(apply Spl.i<;>intro hc))
    refine Gp.wp (i195 (I1.grs hG) (I4.grs hG) (la.1.mono (by decide)) (lb.2.mono (by decide))) fun v h1 k1 j1 u1 I5=>?_
    obtain⟨n5,w5,rfl,o5,I5⟩:=I5.ex2
    repeat' (with_reducible first|simp(disch:=first|exact okD|fail) only[go_sem,seval,h2,h3,h4,q2,q3,o1,o2,o3,o4]|(apply Spl.i<;>intro hc))
    refine Gp.wp (i195 ((I3.grs hG).grs okG) ((I2.grs hG).grs okG) (lb.1.mono (by decide)) (la.2.mono (by decide))) fun v h5 k5 j5 u5 I6=>?_
    obtain⟨n6,w6,rfl,o6,I6⟩:=I6.ex2
    repeat' (with_reducible first|simp(disch:=first|exact okD|fail) only[go_sem,seval,h2,h3,h4,q2,q3,o1,o2,o3,o4]|(apply Spl.i<;>intro hc))
    refine Gp.wp (i121 (I5.ov (g:=u5)) I6 ((la.1.mul lb.2).mono (by decide)) ((lb.1.mul la.2).mono (by decide))) fun v h6 k6 j6 u6 I7=>?_
    obtain⟨n7,w7,rfl,o7,I7⟩:=I7.ex2
    repeat' (with_reducible first|simp(disch:=first|exact okD|fail) only[go_sem,seval,h2,h3,h4,q2,q3,o1,o2,o3,o4]|(apply Spl.i<;>intro hc))
    refine Gp.wp (i195 ((I2.grs hG).grs okG) ((I4.grs hG).grs okG) (la.2.mono (by decide)) (lb.2.mono (by decide))) fun v h7 k7 j7 u7 I8=>?_
    obtain⟨n8,w8,rfl,o8,I8⟩:=I8.ex2
    repeat' (with_reducible first|simp(disch:=first|exact okD|fail) only[go_sem,seval,h2,h3,h4,q2,q3,o1,o2,o3,o4]|(apply Spl.i<;>intro hc))
    refine Gp.wp (i119 (I7.ov (g:=u7)) I8 (((la.1.mul lb.2).add (lb.1.mul la.2)).mono (by decide)) ((la.2.mul lb.2).mono (by decide)) (Int.mul_ne_zero (by omega) (by omega))) fun v h8 k8 j8 u8 I9=>?_
    obtain⟨n9,w9,n10,w10,rfl,o9,o10,I9,I10⟩:=I9.ex
    repeat' (with_reducible first|simp(disch:=first|exact okD|fail) only[go_sem,seval,h4,q4,o9,o10]|(apply Spl.i<;>intro hc))
    refine⟨⟨_,_,_,_,rfl,?_,?_⟩,?_⟩
    · exact I9.putI (by simp(disch:=first|exact okD|fail) only[go_sem,seval,isCell_row,q4])
    · exact I10.putI (by simp(disch:=first|exact okD|fail) only[go_sem,seval,isCell_row,q4])
    · refine Grs.put (hG.trans ?_) hn
      exact okG
  subst ea;subst eb
  have G:Grs h (((h.push fun st=> .row [.int .i64 n1,w1,.int .i64 n2,w2] true st).push fun st=> .row [.int .i64 m1,v1,.int .i64 m2,v2] true st).push fun st=> .row [.int .i64 0,.nils,.int .i64 0,.nils] true st):=(Grs.refl h).push.push.push
  have A2:AtS (((h.push fun st=> .row [.int .i64 n1,w1,.int .i64 n2,w2] true st).push fun st=> .row [.int .i64 m1,v1,.int .i64 m2,v2] true st).push fun st=> .row [.int .i64 0,.nils,.int .i64 0,.nils] true st) h.next [.int .i64 n1,w1,.int .i64 n2,w2]:=(AtS.push.grs (Grs.refl _).push.push)
  have A3:AtS (((h.push fun st=> .row [.int .i64 n1,w1,.int .i64 n2,w2] true st).push fun st=> .row [.int .i64 m1,v1,.int .i64 m2,v2] true st).push fun st=> .row [.int .i64 0,.nils,.int .i64 0,.nils] true st) (h.next+1) [.int .i64 m1,v1,.int .i64 m2,v2]:=(AtS.push.grs (Grs.refl _).push)
  have A4:AtS (((h.push fun st=> .row [.int .i64 n1,w1,.int .i64 n2,w2] true st).push fun st=> .row [.int .i64 m1,v1,.int .i64 m2,v2] true st).push fun st=> .row [.int .i64 0,.nils,.int .i64 0,.nils] true st) (h.next+1+1) [.int .i64 0,.nils,.int .i64 0,.nils]:=AtS.push
  refine Wp.cut 2 rfl ?_
  generalize ACode.post 2 C.a163.code=r at slow⊢
  unfold C.a163
  dsimp only[ACode.pre]
  repeat' (with_reducible first|simp(disch:=first|exact okD|fail) only[go_sem,seval,o1,o2,o3,o4]|(apply Spl.i<;>intro hc))
  refine Gv.wp (i241 (ia.grs G)) fun h1 k1 j1 u1=>?_
  by_cases g1:(a.den:Int)=1
  · repeat' (with_reducible first|simp(disch:=first|exact okD|fail) only[go_sem,seval,o1,o2,o3,o4,g1]|(apply Spl.i<;>intro hc))
    refine Gv.wp (i241 ((ib.grs G).grs okG)) fun h5 k5 j5 u5=>?_
    by_cases g2:(b.den:Int)=1
    · obtain⟨f1,f2⟩:=radd1 g1 g2
      repeat' (with_reducible first|simp(disch:=first|exact okD|fail) only[go_sem,seval,o1,o2,o3,o4,g2]|(apply Spl.i<;>intro hc))
      refine Gp.wp (i121 ((I1.grs G).grs okG) ((I3.grs G).grs okG) (la.1.mono (by decide)) (lb.1.mono (by decide))) fun v h6 k6 j6 u6 I7=>?_
      obtain⟨n7,w7,rfl,o7,I7⟩:=I7.ex2
      repeat' (with_reducible first|simp(disch:=first|exact okD|fail) only[go_sem,seval,o7]|(apply Spl.i<;>intro hc))
      refine Gp.wp (i183 I7) fun v h7 k7 j7 u7 I8=>?_
      obtain⟨n9,w9,n10,w10,rfl,o9,o10,I9,I10⟩:=I8.ex
      obtain⟨e1,e2⟩:=divInt_one (p:=a.num+b.num)
      rw[e1]at I9
      rw[e2]at I10
      repeat' (with_reducible first|simp(disch:=first|exact okD|fail) only[go_sem,seval,o9,o10]|(apply Spl.i<;>intro hc))
      refine⟨⟨_,_,_,_,rfl,?_,?_⟩,?_⟩
      · rw[f1];exact I9.putI (by simp(disch:=first|exact okD|fail) only[go_sem,seval,isCell_row])
      · rw[f2];exact I10.putI (by simp(disch:=first|exact okD|fail) only[go_sem,seval,isCell_row])
      · exact okG
    · have G5:Grs (((h.push fun st=> .row [.int .i64 n1,w1,.int .i64 n2,w2] true st).push fun st=> .row [.int .i64 m1,v1,.int .i64 m2,v2] true st).push fun st=> .row [.int .i64 0,.nils,.int .i64 0,.nils] true st) (((((h.push fun st=> .row [.int .i64 n1,w1,.int .i64 n2,w2] true st).push fun st=> .row [.int .i64 m1,v1,.int .i64 m2,v2] true st).push fun st=> .row [.int .i64 0,.nils,.int .i64 0,.nils] true st).ov h1 u1).ov h5 u5):=by exact okG
      repeat' (with_reducible first|simp(disch:=first|exact okD|fail) only[go_sem,seval,o1,o2,o3,o4,g2]|(apply Spl.i<;>intro hc))
      exact slow _ _ h.next (h.next+1) (h.next+1+1) (by simp(disch:=first|exact okD|fail) only[go_sem,seval]) (by simp(disch:=first|exact okD|fail) only[go_sem,seval]) (by simp(disch:=first|exact okD|fail) only[go_sem,seval]) (A2.grs G5) (A3.grs G5) (A4.grs G5) (G.trans G5) (by omega)
  · have G5:Grs (((h.push fun st=> .row [.int .i64 n1,w1,.int .i64 n2,w2] true st).push fun st=> .row [.int .i64 m1,v1,.int .i64 m2,v2] true st).push fun st=> .row [.int .i64 0,.nils,.int .i64 0,.nils] true st) ((((h.push fun st=> .row [.int .i64 n1,w1,.int .i64 n2,w2] true st).push fun st=> .row [.int .i64 m1,v1,.int .i64 m2,v2] true st).push fun st=> .row [.int .i64 0,.nils,.int .i64 0,.nils] true st).ov h1 u1):=by exact okG
    repeat' (with_reducible first|simp(disch:=first|exact okD|fail) only[go_sem,seval,o1,o2,o3,o4,g1]|(apply Spl.i<;>intro hc))
    exact slow _ _ h.next (h.next+1) (h.next+1+1) (by simp(disch:=first|exact okD|fail) only[go_sem,seval]) (by simp(disch:=first|exact okD|fail) only[go_sem,seval]) (by simp(disch:=first|exact okD|fail) only[go_sem,seval]) (A2.grs G5) (A3.grs G5) (A4.grs G5) (G.trans G5) (by omega)
end
end
end Go.Ae
set_option linter.unusedVariables false
set_option linter.unusedSimpArgs false
set_option maxRecDepth 100000
namespace Go.Ae
open Bg
noncomputable section
section
variable {h h' hp:Hp} {K:AV→Hp→Prop} {s w s' w':AV} {x y z:Int} {a b r:Rat} {v va vb:AV} {n m:Nat}
theorem i242 (ia:IsF h va a) (la:Bd 4000 a):Gp E2 242 [va] h fun v h'=>IsF h' v (-a):=by
 obtain⟨n1,w1,n2,w2,rfl,o1,o2,I1,I2⟩:=ia.ex
 refine Gp.of (CallWp.fn (fn:=C.a242) rfl rfl rfl ?_)
 unfold C.a242
 repeat' (with_reducible first|simp(disch:=first|exact okD|fail) only[go_sem,seval,o1,o2]|(apply Spl.i<;>intro hc))
 refine Gp.wp (i200 (I1.grs okG) (la.1.mono (by decide))) fun v h1 k1 j1 u1 I5=>?_
 obtain⟨n5,w5,rfl,o5,I5⟩:=I5.ex2
 repeat' (with_reducible first|simp(disch:=first|exact okD|fail) only[go_sem,seval,o1,o2,o5,fill22 o5 o2,Option.map_some]|(apply Spl.i<;>intro hc))
 refine⟨⟨_,_,_,_,rfl,?_,?_⟩,?_⟩
 ·exact I5.putI (by simp(disch:=first|exact okD|fail) only[go_sem,seval,isCell_row])
 ·exact(I2.grs okG).putI (by simp(disch:=first|exact okD|fail) only[go_sem,seval,isCell_row])
 ·exact okG
theorem i164 (ia:IsF h va a) (ib:IsF h vb b) (la:Bd 900 a) (lb:Bd 900 b):Gp E2 164 [va,vb] h fun v h'=>IsF h' v (a-b):=by
 obtain⟨n1,w1,n2,w2,rfl,o1,o2,I1,I2⟩:=ia.ex
 obtain⟨m1,v1,m2,v2,rfl,o3,o4,I3,I4⟩:=ib.ex
 refine Gp.of (CallWp.fn (fn:=C.a164) rfl rfl rfl ?_)
 unfold C.a164
 repeat' (with_reducible first|simp(disch:=first|exact okD|fail) only[go_sem,seval,o1,o2,o3,o4]|(apply Spl.i<;>intro hc))
 refine Gp.wp (i242 (ib.grs okG) (lb.mono (by decide))) fun v h1 k1 j1 u1 I5=>?_
 obtain⟨n5,w5,n6,w6,rfl,o5,o6,_⟩:=I5.ex
 repeat' (with_reducible first|simp(disch:=first|exact okD|fail) only[go_sem,seval,o1,o2,o3,o4,o5,o6]|(apply Spl.i<;>intro hc))
 refine Gp.wp (i163 (ia.grs okG) I5 la lb.neg) fun v h3 k3 j3 u3 I7=>?_
 obtain⟨n7,w7,n8,w8,rfl,o7,o8,I7,I8⟩:=I7.ex
 rw[←Rat.sub_eq_add_neg]at I7 I8
 repeat' (with_reducible first|simp(disch:=first|exact okD|fail) only[go_sem,seval,o7,o8]|(apply Spl.i<;>intro hc))
 refine⟨⟨_,_,_,_,rfl,?_,?_⟩,?_⟩
 ·exact I7.putI (by simp(disch:=first|exact okD|fail) only[go_sem,seval,isCell_row])
 ·exact I8.putI (by simp(disch:=first|exact okD|fail) only[go_sem,seval,isCell_row])
 ·exact okG
theorem i245 (ia:IsF h va a) (la:Bd 3999 a) (h0:a≠0):Gp E2 245 [va] h fun v h'=>IsF h' v a⁻¹:=by
 obtain⟨n1,w1,n2,w2,rfl,o1,o2,I1,I2⟩:=ia.ex
 refine Gp.of (CallWp.fn (fn:=C.a245) rfl rfl rfl ?_)
 unfold C.a245
 rw[Rat.inv_def]
 repeat' (with_reducible first|simp(disch:=first|exact okD|fail) only[go_sem,seval,o1,o2]|(apply Spl.i<;>intro hc))
 refine Gp.wp (i119 (I2.grs okG) (I1.grs okG) la.2 la.1 (by rw[ne_eq,Rat.num_eq_zero];exact h0)) fun v h1 k1 j1 u1 I7=>?_
 obtain⟨n7,w7,n8,w8,rfl,o7,o8,I7,I8⟩:=I7.ex
 repeat' (with_reducible first|simp(disch:=first|exact okD|fail) only[go_sem,seval,o7,o8]|(apply Spl.i<;>intro hc))
 refine⟨⟨_,_,_,_,rfl,?_,?_⟩,?_⟩
 ·exact I7.putI (by simp(disch:=first|exact okD|fail) only[go_sem,seval,isCell_row])
 ·exact I8.putI (by simp(disch:=first|exact okD|fail) only[go_sem,seval,isCell_row])
 ·exact okG
theorem i166 (ia:IsF h va a) (ib:IsF h vb b) (la:Bd 900 a) (lb:Bd 900 b) (h0:b≠0):Gp E2 166 [va,vb] h fun v h'=>IsF h' v (a/b):=by
 obtain⟨n1,w1,n2,w2,rfl,o1,o2,I1,I2⟩:=ia.ex
 obtain⟨m1,v1,m2,v2,rfl,o3,o4,I3,I4⟩:=ib.ex
 refine Gp.of (CallWp.fn (fn:=C.a166) rfl rfl rfl ?_)
 unfold C.a166
 repeat' (with_reducible first|simp(disch:=first|exact okD|fail) only[go_sem,seval,o1,o2,o3,o4]|(apply Spl.i<;>intro hc))
 refine Gp.wp (i245 (ib.grs okG) (lb.mono (by decide)) h0) fun v h1 k1 j1 u1 I5=>?_
 obtain⟨n5,w5,n6,w6,rfl,o5,o6,_⟩:=I5.ex
 repeat' (with_reducible first|simp(disch:=first|exact okD|fail) only[go_sem,seval,o1,o2,o3,o4,o5,o6]|(apply Spl.i<;>intro hc))
 refine Gp.wp (i115 (ia.grs okG) I5 la (lb.inv h0)) fun v h3 k3 j3 u3 I7=>?_
 obtain⟨n7,w7,n8,w8,rfl,o7,o8,I7,I8⟩:=I7.ex
 rw[←Rat.div_def]at I7 I8
 repeat' (with_reducible first|simp(disch:=first|exact okD|fail) only[go_sem,seval,o7,o8]|(apply Spl.i<;>intro hc))
 refine⟨⟨_,_,_,_,rfl,?_,?_⟩,?_⟩
 ·exact I7.putI (by simp(disch:=first|exact okD|fail) only[go_sem,seval,isCell_row])
 ·exact I8.putI (by simp(disch:=first|exact okD|fail) only[go_sem,seval,isCell_row])
 ·exact okG
def cmpR (a b:Rat):Int:=cmpI (a.num*b.den) (b.num*a.den)
theorem i161 (ia:IsF h va a) (ib:IsF h vb b) (la:Bd 1900 a) (lb:Bd 1900 b):Gv E2 161 [va,vb] h (.int .i64 (cmpR a b)):=by
 obtain⟨n1,w1,n2,w2,rfl,o1,o2,I1,I2⟩:=ia.ex
 obtain⟨m1,v1,m2,v2,rfl,o3,o4,I3,I4⟩:=ib.ex
 refine Gv.of (CallWp.fn (fn:=C.a161) rfl rfl rfl ?_)
 unfold C.a161
 repeat' (with_reducible first|simp(disch:=first|exact okD|fail) only[go_sem,seval,o1,o2,o3,o4]|(apply Spl.i<;>intro hc))
 refine Gp.wp (i195 (I1.grs okG) (I4.grs okG) (la.1.mono (by decide)) (lb.2.mono (by decide))) fun v h1 k1 j1 u1 I5=>?_
 obtain⟨n5,w5,rfl,o5,I5⟩:=I5.ex2
 repeat' (with_reducible first|simp(disch:=first|exact okD|fail) only[go_sem,seval,o1,o2,o3,o4]|(apply Spl.i<;>intro hc))
 refine Gp.wp (i195 (I3.grs okG) (I2.grs okG) (lb.1.mono (by decide)) (la.2.mono (by decide))) fun v h5 k5 j5 u5 I6=>?_
 obtain⟨n6,w6,rfl,o6,I6⟩:=I6.ex2
 repeat' (with_reducible first|simp(disch:=first|exact okD|fail) only[go_sem,seval,o1,o2,o3,o4]|(apply Spl.i<;>intro hc))
 refine Gv.wp (i192 (I5.ov (g:=u5)) I6 ((la.1.mul lb.2).mono (by decide)) ((lb.1.mul la.2).mono (by decide))) fun h6 k6 j6 u6=>?_
 have e:cmpI (a.num*b.den) (b.num*a.den)=cmpR a b:=rfl
 repeat' (with_reducible first|simp(disch:=first|exact okD|fail) only[go_sem,seval,e]|(apply Spl.i<;>intro hc))
 exact okG
end
end
end Go.Ae
set_option linter.unusedVariables false
set_option linter.unusedSimpArgs false
set_option maxRecDepth 100000
set_option maxHeartbeats 1000000
set_option exponentiation.threshold 2000
namespace Go.Ae
open Bg N Go.Proofs
noncomputable section
section
variable {h h' hp:Hp} {K:AV→Hp→Prop} {tm:T AV} {v:AV} {z:Int}
theorem pre45 (s:List UInt8):Lib.hasPrefix s [45]=decide (s.head?=some 45):=by
 unfold Lib.hasPrefix
 cases s with
 |nil=>rfl
 | cons c l=>
  by_cases e:c=45
  ·subst e;simp[List.isPrefixOf]
  ·have:¬(45:UInt8)=c:=fun x=>e x.symm
   simp[List.isPrefixOf,e,this]
theorem trim45 (s:List UInt8):Lib.trimPrefix s [45]=unS s:=by
 unfold Lib.trimPrefix unS
 rw[pre45]
 by_cases c:s.head?=some 45
 ·rw[decide_eq_true c,if_pos rfl,if_pos c];rfl
 ·rw[decide_eq_false c,if_neg (by decide),if_neg c]
theorem cut_slash (t:List UInt8):Lib.cut t [47]=(t.take (slashV t),t.drop (slashV t+1),decide (slashV t<t.length)):=by
 by_cases c:slashV t<t.length
 ·have hs:=slash_split c
  have hno:(47:UInt8)∉t.take (slashV t):=by
   intro hm
   have e:t.take (slashV t)=t.takeWhile (fun b=>decide (b≠47)):=by
    unfold slashV
    exact(List.prefix_iff_eq_take.1 (List.takeWhile_prefix _)).symm
   rw[e]at hm
   have:=List.all_eq_true.1 (List.all_takeWhile (p:=fun b:UInt8=>decide (b≠47)) (l:=t)) 47 hm
   simp at this
  rw[decide_eq_true c]
  conv=>lhs;rw[hs]
  exact cut_someC hno
 ·have hk:=slash_le t
  have hno:(47:UInt8)∉t:=by
   intro hm
   have e:t.takeWhile (fun b=>decide (b≠47))=t:=by
    have hp:=List.prefix_iff_eq_take.1 (List.takeWhile_prefix (fun b:UInt8=>decide (b≠47)) (l:=t))
    have:(t.takeWhile (fun b=>decide (b≠47))).length=t.length:=by
     have:slashV t=t.length:=by omega
     exact this
    rw[this,List.take_length]at hp
    exact hp
   rw[←e]at hm
   have:=List.all_eq_true.1 (List.all_takeWhile (p:=fun b:UInt8=>decide (b≠47)) (l:=t)) 47 hm
   simp at this
  have e:slashV t=t.length:=by omega
  rw[decide_eq_false c,cut_noneC hno,e,List.take_length,List.drop_eq_nil_of_le (by omega)]
theorem u258 {s:List UInt8}:CallWp E2 258 [.str s,.str [45]] h K↔K (.bool (decide (s.head?=some 45))) h:=by
 rw[CallWp.prim_iff (p:=L.p258) rfl rfl]
 have:L.p258 [.str s,.str [45]] h=some (.bool (decide (s.head?=some 45)),h):=by rw[←pre45];rfl
 rw[this];exact Iff.rfl
theorem u259 {s:List UInt8}:CallWp E2 259 [.str s,.str [45]] h K↔K (.str (unS s)) h:=by
 rw[CallWp.prim_iff (p:=L.p259) rfl rfl]
 have:L.p259 [.str s,.str [45]] h=some (.str (unS s),h):=by rw[←trim45];rfl
 rw[this];exact Iff.rfl
theorem u188 {s:List UInt8}:CallWp E2 188 [.str s,.str [45]] h K↔K (.tup [.str (unS s),.bool (decide (s.head?=some 45))]) h:=by
 rw[c188,trim45,pre45]
theorem u147 {s:List UInt8} (hs:s.length<4294967281):CallWp E2 147 [.str s,.str [47]] h K↔K (.tup [.str (s.take (slashV s)),.str (s.drop (slashV s+1)),.bool (decide (slashV s<s.length))]) h:=by
 rw[c147 hs,cut_slash]
theorem u224 {s:List UInt8} (hd:allDig s=true) (h0:¬s=[]) (hs:s.length≤18):CallWp E2 224 [.str s] h K↔K (.tup [.int .i64 (decV s),.nili]) h:=by
 rw[CallWp.prim_iff (p:=L.p224) rfl rfl]
 have:L.p224 [.str s] h=some (.tup [.int .i64 (decV s),.nili],h):=by
  simp only[L.p224,if_pos hs,atoi_eq hd h0]
 rw[this];exact Iff.rfl
theorem Lim_dec {n m:Nat} (hn:n<10^m) (hm:m≤2000):Lim 110 (n:Int):=by
 unfold Lim
 rw[Int.natAbs_natCast]
 have h1:(10:Nat)^m≤10^2000:=Nat.pow_le_pow_right (by decide) hm
 have h2:(10:Nat)^2000≤(2^64)^110:=by decide+kernel
 have h3:((2:Nat)^64)=18446744073709551616:=by decide
 rw[h3]at h2
 omega
theorem i191 {s t:List UInt8} (hs:unS s=t) (hd:allDig t=true) (hl:t.length≤2000):Gp E2 191 [.str s] h fun v h'=>IsV h' v (sgn (decide (s.head?=some 45)) (decV t)):=by
 refine Gp.of (CallWp.fn (fn:=C.a191) rfl rfl rfl ?_)
 unfold C.a191
 repeat' (with_reducible first|simp(disch:=first|exact okD|fail) only[go_sem,seval,u258,u259,hs]|(apply Spl.i<;>intro hc))
 refine Wp.loopI (fun m st=>∃(u:List UInt8) (a:Nat) (m1:Int) (w1:AV),val st.tm (.t 0)= .str u∧val st.tm (.t 2)= .ptr h.next 0∧val st.tm (.t 3)= .bool (decide (s.head?=some 45))∧val st.tm (.t 4)= .ptr (h.next+1) 0∧
  AtS st.hp h.next [.int .i64 0,.nils]∧AtS st.hp (h.next+1) [.int .i64 m1,w1]∧Grs h st.hp∧IsI st.hp (.int .i64 m1) w1 (a:Int)∧allDig u=true∧u.length≤t.length∧a<10^(t.length-u.length)∧a*10^u.length+decV u=decV t∧u.length=m) (n:=t.length) ?_ ?_
 ·refine⟨t,0,0,.nils,by simp(disch:=first|exact okD|fail) only[go_sem,seval],by simp(disch:=first|exact okD|fail) only[go_sem,seval],by simp(disch:=first|exact okD|fail) only[go_sem,seval],by simp(disch:=first|exact okD|fail) only[go_sem,seval],?_,?_,?_,?_,hd,Nat.le_refl _,by simp,by simp,rfl⟩
  ·exact(AtS.push.grs (Grs.refl _).push).other (by omega)
  ·exact AtS.put okO
  ·exact okG
  ·exact .inl ⟨rfl,rfl,by omega⟩
 ·rintro m ⟨tm,hp⟩ ⟨u,a,m1,w1,h0,h2,h3,h4,⟨s2,g2,c2,t2⟩,⟨s4,g4,c4,t4⟩,hG,Ia,hu,hul,hla,heq,rfl⟩
  simp only at h0 h2 h3 h4 g2 g4 c2 c4 t2 t4 hG Ia
  obtain⟨_,oa⟩:=Ia.one
  by_cases hz:u=[]
  ·subst hz
   have eL:(([]:List UInt8).length:Int)=0:=rfl
   have ea:a=decV t:=by rw[←heq];show a=a*1+0;omega
   have la0:Lim 110 (a:Int):=Lim_dec hla (by omega)
   rw[ea]at Ia la0
   by_cases hn:s.head?=some 45
   ·rw[decide_eq_true hn]at h3⊢
    repeat' (with_reducible first|simp(disch:=first|exact okD|fail) only[go_sem,seval,h0,h2,h3,h4,g2,g4,oa,eL,Int.lt_irrefl]|(apply Spl.i<;>intro hc))
    refine Gp.wp (i200 Ia (la0.mono (by decide))) fun v5 k5 a5 b5 u5 I5=>?_
    obtain⟨m5,w5,rfl,p5,I5⟩:=I5.ex2
    repeat' (with_reducible first|simp(disch:=first|exact okD|fail) only[go_sem,seval,h0,h2,h3,h4,g2,g4,p5]|(apply Spl.i<;>intro hc))
    refine⟨⟨_,_,rfl,I5.putI (by simp(disch:=first|exact okD|fail) only[go_sem,seval,isCell_row,g2])⟩,?_⟩
    refine Grs.put hG.ov (by omega)
   ·rw[decide_eq_false hn]at h3⊢
    repeat' (with_reducible first|simp(disch:=first|exact okD|fail) only[go_sem,seval,h0,h2,h3,h4,g2,g4,oa,eL,Int.lt_irrefl]|(apply Spl.i<;>intro hc))
    refine⟨⟨_,_,rfl,Ia.putI (by simp(disch:=first|exact okD|fail) only[go_sem,seval,isCell_row,g2])⟩,?_⟩
    refine Grs.put hG (by omega)
  ·have hp':(0:Int)<u.length:=by
    have:=List.length_pos_iff.2 hz
    omega
   obtain⟨n,hn1,hn2,hn3,hn4⟩:∃n:Nat,1≤n∧n≤18∧n≤u.length∧(n:Int)=min 18 (u.length:Int):=by
    have:=List.length_pos_iff.2 hz
    refine⟨min 18 u.length,by omega,by omega,by omega,by omega⟩
   have htk:=allDig_take hu n
   have hdk:=allDig_drop hu n
   have ltk:(u.take n).length=n:=by rw[List.length_take];omega
   have ldk:(u.drop n).length=u.length-n:=by rw[List.length_drop]
   have hne:¬u.take n=[]:=fun e=>by rw[e]at ltk;simp at ltk;omega
   have cA:=fun{h:Hp} {K:AV→Hp→Prop}=>u224 (h:=h) (K:=K) htk hne (by omega)
   have vlt:=decV_lt htk
   rw[ltk]at vlt
   have e18:(10:Nat)^n≤10^18:=Nat.pow_le_pow_right (by decide) hn2
   rw[show(10:Nat)^18=1000000000000000000 from rfl]at e18
   have hp0:0<(10:Nat)^n:=Nat.pow_pos (by decide)
   have hua:decV u=decV (u.take n)*10^(u.length-n)+decV (u.drop n):=by
    conv=>lhs;rw[←List.take_append_drop n u,decV_append,ldk]
   have hnl:(n:Int)≤u.length:=by omega
   have hn0:(0:Int)≤n:=by omega
   have nn:((n:Int)).toNat=n:=Int.toNat_natCast n
   have hsum:(t.length-u.length)+n=t.length-(u.drop n).length:=by rw[ldk];omega
   have hla':a*10^n+decV (u.take n)<10^(t.length-(u.drop n).length):=by
    rw[←hsum,Nat.pow_add]
    have:(a+1)*10^n≤10^(t.length-u.length)*10^n:=Nat.mul_le_mul_right _ hla
    rw[Nat.add_mul]at this
    omega
   have la:Lim 110 (a:Int):=Lim_dec hla (by omega)
   have l10:Lim 1 ((10^n:Nat):Int):=Lim.small (by omega)
   have lv:Lim 1 ((decV (u.take n):Nat):Int):=Lim.small (by omega)
   have la':Lim 110 ((a*10^n+decV (u.take n):Nat):Int):=Lim_dec hla' (by omega)
   have hmin:min 18 (u.length:Int)=n:=hn4.symm
   repeat' (with_reducible first|simp(disch:=first|exact okD|fail) only[go_sem,seval,h0,h2,h3,h4,g2,g4,oa,hp',hmin,nn,hnl,hn0,cA]|(refine Gv.wp (c120) fun _ _ _ _=>?_)|(refine Gv.wp (c198s (a:=10) (k:=n) (by decide) (by omega) (by omega)) fun _ _ _ _=>?_)|(apply Spl.i<;>intro hc))
   refine Gp.wp (i195 (Ia.grs okG) (.inl ⟨rfl,rfl,by omega⟩) (la.mono (by decide)) (l10.mono (by decide))) fun v5 k5 a5 b5 u5 I5=>?_
   obtain⟨m5,w5,rfl,p5,I5⟩:=I5.ex2
   repeat' (with_reducible first|simp(disch:=first|exact okD|fail) only[go_sem,seval,h0,h2,h3,h4,g2,g4,p5,nn,hnl,hn0]|(refine Gv.wp (c120) fun _ _ _ _=>?_)|(apply Spl.i<;>intro hc))
   have l5:Lim 111 ((a:Int)*((10^n:Nat):Int)):=la.mul l10
   refine Gp.wp (i121 (I5.grs okG) (.inl ⟨rfl,rfl,by omega⟩) (l5.mono (by decide)) (lv.mono (by decide))) fun v6 k6 a6 b6 u6 I6=>?_
   obtain⟨m6,w6,rfl,p6,I6⟩:=I6.ex2
   have ez:(a:Int)*((10^n:Nat):Int)+((decV (u.take n):Nat):Int)=((a*10^n+decV (u.take n):Nat):Int):=by rw[Int.natCast_add,Int.natCast_mul]
   rw[ez]at I6
   repeat' (with_reducible first|simp(disch:=first|exact okD|fail) only[go_sem,seval,h0,h2,h3,h4,g2,g4,p6,nn,hnl,hn0]|(apply Spl.i<;>intro hc))
   refine⟨(u.drop n).length,by rw[ldk];omega,u.drop n,a*10^n+decV (u.take n),m6,w6,rfl,?_,?_,?_,?_,hdk,by rw[ldk];omega,hla',?_,rfl⟩
   ·refine AtS.other ?_ (by omega)
    exact AtS.grs (h:=hp) ⟨s2,g2,c2,t2⟩ okG
   ·exact AtS.put okO
   ·refine Grs.put (hG.trans ?_) (by omega)
    exact okG
   ·exact I6.putI (by simp(disch:=first|exact okD|fail) only[go_sem,seval,isCell_row,g4])
   ·rw[ldk,←heq,hua,Nat.add_mul,Nat.mul_assoc,←Nat.pow_add,show n+(u.length-n)=u.length by omega]
    omega
end
end
end Go.Ae
set_option linter.unusedVariables false
set_option linter.unusedSimpArgs false
set_option maxRecDepth 100000
set_option maxHeartbeats 1000000
set_option exponentiation.threshold 2000
namespace Go.Ae
open Bg N Go.Proofs
noncomputable section
section
variable {h h' hp:Hp} {K:AV→Hp→Prop} {tm:T AV} {v:AV} {z:Int}
theorem unS_dig {l:List UInt8} (hd:allDig l=true):unS l=l∧decide (l.head?=some 45)=false:=by
 have:¬l.head?=some 45:=by
  intro e
  match l,e,hd with
  | c ::r,e,hd=>
   have hc:isDig c=true:=by
    unfold allDig at hd;exact(List.all_eq_true.1 hd) c (by simp)
   have:c=45:=by simpa using e
   subst this
   exact absurd hc (by decide)
 exact⟨if_neg this,decide_eq_false this⟩
theorem i191d {t:List UInt8} (hd:allDig t=true) (hl:t.length≤2000):Gp E2 191 [.str t] h fun v h'=>IsV h' v (decV t:Nat):=by
 obtain⟨h1,h2⟩:=unS_dig hd
 have:=i191 (h:=h) (s:=t) h1 hd hl
 rw[h2]at this
 exact this
theorem chk_last {N D:List UInt8} (hd1:isDec N=true) (hd2:isDec D=true) (h5:val tm (.t 5)= .str N) (h6:val tm (.t 6)= .str D) (h7:val tm (.t 7)= .bool true) (hG:Grs h hp) (lN:N.length≤600) (lD:D.length≤600):
  Wp E2 (ACode.post 1 (ACode.post 5 C.a101.code)) ⟨tm,hp⟩ (RetQ [.tmp 2] fun v h'=>v= .int .i64 (if Nat.gcd (decV N) (decV D)≠1 then 1 else 0)∧Grs h h'):=by
 unfold C.a101
 dsimp only[ACode.post]
 have l1:Lim 110 ((decV N:Nat):Int):=Lim_dec (decV_lt (isDec_cases hd1).2.1) (by omega)
 have l2:Lim 110 ((decV D:Nat):Int):=Lim_dec (decV_lt (isDec_cases hd2).2.1) (by omega)
 repeat' (with_reducible first|simp(disch:=first|exact okD|fail) only[go_sem,seval,h5,h6,h7]|(apply Spl.i<;>intro hc))
 refine Gp.wp (i191d (isDec_cases hd1).2.1 (by omega)) fun v1 k1 a1 b1 u1 I1=>?_
 obtain⟨m1,w1,rfl,p1,I1⟩:=I1.ex2
 repeat' (with_reducible first|simp(disch:=first|exact okD|fail) only[go_sem,seval,h5,h6,h7,p1]|(apply Spl.i<;>intro hc))
 refine Gp.wp (i191d (isDec_cases hd2).2.1 (by omega)) fun v2 k2 a2 b2 u2 I2=>?_
 obtain⟨m2,w2,rfl,p2,I2⟩:=I2.ex2
 repeat' (with_reducible first|simp(disch:=first|exact okD|fail) only[go_sem,seval,h5,h6,h7,p1,p2]|(apply Spl.i<;>intro hc))
 refine Gp.wp (i190 (I1.ov (g:=u2)) I2 (l1.mono (by decide)) (l2.mono (by decide))) fun v3 k3 a3 b3 u3 I3=>?_
 obtain⟨m3,w3,rfl,p3,I3⟩:=I3.ex2
 have lg:Lim 111 ((Int.gcd ((decV N:Nat):Int) ((decV D:Nat):Int):Nat):Int):=by
  rcases Nat.eq_zero_or_pos (decV D)with e|e
  ·have:Int.gcd ((decV N:Nat):Int) ((decV D:Nat):Int)=decV N:=by rw[e];exact Nat.gcd_zero_right _
   rw[this];exact l1.mono (by decide)
  ·refine(l2.le (y:=((Int.gcd ((decV N:Nat):Int) ((decV D:Nat):Int):Nat):Int)) ?_).mono (by decide)
   rw[Int.natAbs_natCast,Int.natAbs_natCast]
   exact Nat.gcd_le_right _ e
 have eg:Int.gcd ((decV N:Nat):Int) ((decV D:Nat):Int)=Nat.gcd (decV N) (decV D):=rfl
 rw[eg]at I3 lg
 repeat' (with_reducible first|simp(disch:=first|exact okD|fail) only[go_sem,seval,h5,h6,h7,p3]|(refine Gv.wp (c120) fun _ _ _ _=>?_)|(apply Spl.i<;>intro hc))
 refine Gv.wp (i192 (I3.grs okG) (.inl ⟨rfl,rfl,by omega⟩) (lg.mono (by decide)) ((Lim.small (n:=1) (by omega)).mono (by decide))) fun h4 k4 j4 u4=>?_
 by_cases hc:Nat.gcd (decV N) (decV D)=1
 ·have ec:cmpI ((Nat.gcd (decV N) (decV D):Nat):Int) 1=0:=by rw[hc];rfl
  rw[if_neg (by simpa using hc)]
  repeat' (with_reducible first|simp(disch:=first|exact okD|fail) only[go_sem,seval,h5,h6,h7,ec,c131b]|(apply Spl.i<;>intro hc))
  refine hG.trans ?_
  exact okG
 ·have ec:¬cmpI ((Nat.gcd (decV N) (decV D):Nat):Int) 1=0:=by
   unfold cmpI;split
   ·omega
   ·split
    ·omega
    ·intro _;omega
  rw[if_pos hc]
  repeat' (with_reducible first|simp(disch:=first|exact okD|fail) only[go_sem,seval,h5,h6,h7,ec,c131b]|(apply Spl.i<;>intro hc))
  refine hG.trans ?_
  exact okG
theorem chk_end {N D:List UInt8} {bk f:Bool} (h5:val tm (.t 5)= .str N) (h6:val tm (.t 6)= .str D) (h7:val tm (.t 7)= .bool bk) (h8:val tm (.t 8)= .bool f) (hN:f=true→isDec N=true) (hD:f=true→bk=true→isDec D=true) (lN:N.length≤1000000) (lD:D.length≤1000000):
  Wp E2 (C.a101.code.post 5) ⟨tm,h⟩ (RetQ [.tmp 2] fun v h'=>v= .int .i64 (if f=false then 1 else if 600<N.length∨600<D.length then 4 else if bk=true∧Nat.gcd (decV N) (decV D)≠1 then 1 else 0)∧Grs h h'):=by
 have last:=fun(hp:Hp) tm hd1 hd2 h5 h6 h7 hG a b=>chk_last (h:=h) (hp:=hp) (tm:=tm) (N:=N) (D:=D) hd1 hd2 h5 h6 h7 hG a b
 have f1:∀a,first2 1 a=1:=fun a=>rfl
 have f2:first2 0 4=4:=rfl
 have f3:first2 0 0=0:=rfl
 refine Wp.cut 1 rfl ?_
 obtain⟨rc,hrc⟩:∃rc,rc=ACode.post 1 (ACode.post 5 C.a101.code):=⟨_,rfl⟩
 rw[←hrc]at last⊢
 have fast:∀(hp:Hp) (tm:T AV),val tm (.t 7)= .bool false→Grs h hp→Wp E2 rc ⟨tm,hp⟩ (RetQ [.tmp 2] fun v h'=>v= .int .i64 0∧Grs h h'):=by
  intro hp tm h7 hG
  rw[hrc]
  unfold C.a101
  dsimp only[ACode.post]
  repeat' (with_reducible first|simp(disch:=first|exact okD|fail) only[go_sem,seval,h7,c131b]|(apply Spl.i<;>intro hc))
  exact hG
 unfold C.a101
 dsimp only[ACode.post,ACode.pre]
 cases f with
 | false=>
  rw[if_pos rfl]
  by_cases c1:600<N.length
  ·have c1':(600:Int)<N.length:=by omega
   repeat' (with_reducible first|simp(disch:=first|exact okD|fail) only[go_sem,seval,h5,h6,h7,h8,c1',c131b,f1]|(refine Gv.wp (c130_2 (a:=1) (b:=4) Hp.push_same okO) fun _ _ _ _=>?_)|(apply Spl.i<;>intro hc))
   exact okG
  ·have c1':¬(600:Int)<N.length:=by omega
   by_cases c2:600<D.length
   ·have c2':(600:Int)<D.length:=by omega
    repeat' (with_reducible first|simp(disch:=first|exact okD|fail) only[go_sem,seval,h5,h6,h7,h8,c1',c2',c131b,f1]|(refine Gv.wp (c130_2 (a:=1) (b:=4) Hp.push_same okO) fun _ _ _ _=>?_)|(apply Spl.i<;>intro hc))
    exact okG
   ·have c2':¬(600:Int)<D.length:=by omega
    repeat' (with_reducible first|simp(disch:=first|exact okD|fail) only[go_sem,seval,h5,h6,h7,h8,c1',c2',c131b,f1]|(refine Gv.wp (c130_2 (a:=1) (b:=0) Hp.push_same okO) fun _ _ _ _=>?_)|(apply Spl.i<;>intro hc))
    exact okG
 | true=>
  rw[if_neg (by decide)]
  by_cases c1:600<N.length
  ·have c1':(600:Int)<N.length:=by omega
   rw[if_pos (Or.inl c1)]
   repeat' (with_reducible first|simp(disch:=first|exact okD|fail) only[go_sem,seval,h5,h6,h7,h8,c1',c131b,f2]|(refine Gv.wp (c130_2 (a:=0) (b:=4) Hp.push_same okO) fun _ _ _ _=>?_)|(apply Spl.i<;>intro hc))
   exact okG
  ·have c1':¬(600:Int)<N.length:=by omega
   by_cases c2:600<D.length
   ·have c2':(600:Int)<D.length:=by omega
    rw[if_pos (Or.inr c2)]
    repeat' (with_reducible first|simp(disch:=first|exact okD|fail) only[go_sem,seval,h5,h6,h7,h8,c1',c2',c131b,f2]|(refine Gv.wp (c130_2 (a:=0) (b:=4) Hp.push_same okO) fun _ _ _ _=>?_)|(apply Spl.i<;>intro hc))
    exact okG
   ·have c2':¬(600:Int)<D.length:=by omega
    rw[if_neg (by omega)]
    repeat' (with_reducible first|simp(disch:=first|exact okD|fail) only[go_sem,seval,h5,h6,h7,h8,c1',c2',c131b,f3]|(refine Gv.wp (c130_2 (a:=0) (b:=0) Hp.push_same okO) fun _ _ _ _=>?_)|(apply Spl.i<;>intro hc))
    cases bk with
    | false=>
     rw[if_neg (by simp)]
     exact fast _ _ (by simp(disch:=first|exact okD|fail) only[go_sem,seval,h7]) okG
    | true=>
     have eb:(if(true=true∧Nat.gcd (decV N) (decV D)≠1)then(1:Int)else 0)=if Nat.gcd (decV N) (decV D)≠1 then 1 else 0:=by simp
     rw[eb]
     exact last _ _ (hN rfl) (hD rfl rfl) (by simp(disch:=first|exact okD|fail) only[go_sem,seval,h5]) (by simp(disch:=first|exact okD|fail) only[go_sem,seval,h6]) (by simp(disch:=first|exact okD|fail) only[go_sem,seval,h7]) okG (by omega) (by omega)
theorem i101 {s :List UInt8} (hs:s.length≤1000000):Gv E2 101 [.str s] h (.int .i64 (checkV s)):=by
 refine Gv.of (CallWp.fn (fn:=C.a101) rfl rfl rfl ?_)
 have hu:(unS s).length≤s.length:=by
  unfold unS;split
  ·rw[List.length_drop];omega
  ·exact Nat.le_refl _
 have hk:=slash_le (unS s)
 have lN:(numU s).length≤1000000:=by unfold numU;rw[List.length_take];omega
 have lD:(denU s).length≤1000000:=by unfold denU;rw[List.length_drop];omega
 have tail:=fun tm bk f h5 h6 h7 h8 hN hD=>chk_end (h:=h) (tm:=tm) (N:=numU s) (D:=denU s) (bk:=bk) (f:=f) h5 h6 h7 h8 hN hD lN lD
 have cc:=fun{h:Hp} {K:AV→Hp→Prop}=>u147 (h:=h) (K:=K) (s:=unS s) (by omega)
 have e1:(unS s).take (slashV (unS s))=numU s:=rfl
 have e2:(unS s).drop (slashV (unS s)+1)=denU s:=rfl
 have e3:decide (slashV (unS s)<(unS s).length)=brk s:=rfl
 rw[e1,e2,e3]at cc
 have cn:=fun{h:Hp} {K:AV→Hp→Prop}=>f189 (h:=h) (K:=K) (s:=numU s) (by omega)
 have cd:=fun{h:Hp} {K:AV→Hp→Prop}=>f189 (h:=h) (K:=K) (s:=denU s) (by omega)
 have ecv:checkV s=if formS s=false then 1 else if 600<(numU s).length∨600<(denU s).length then 4 else if brk s=true∧Nat.gcd (decV (numU s)) (decV (denU s))≠1 then 1 else 0:=rfl
 have efm:formS s=(isDec (numU s)&&(!(decide (s.head?=some 45))||decide (numU s≠[48]))&&(!(brk s)||(isDec (denU s)&&decide (denU s≠[48])&&decide (denU s≠[49])))):=rfl
 rw[ecv]
 generalize hng:decide (s.head?=some 45)=ng at efm
 have c8:=fun{h:Hp} {K:AV→Hp→Prop}=>u188 (h:=h) (K:=K) (s:=s)
 rw[hng]at c8
 refine Wp.cut 5 rfl ?_
 generalize ACode.post 5 C.a101.code=rc at tail⊢
 unfold C.a101
 dsimp only[ACode.pre]
 generalize numU s=N at *
 generalize denU s=D at *
 generalize brk s=bk at *
 clear hu hk e1 e2 e3
 have num:∃f1:Bool,f1=(isDec N&&(!ng||decide (N≠[48]))):=⟨_,rfl⟩
 obtain⟨f1,hf1⟩:=num
 have den:∃f2:Bool,f2=(isDec D&&decide (D≠[48])&&decide (D≠[49])):=⟨_,rfl⟩
 obtain⟨f2,hf2⟩:=den
 rw[←hf1,←hf2]at efm
 rw[efm]
 obtain⟨res,hres⟩:∃res:Bool→Int,∀b,res b=(if b=false then 1 else if 600<N.length∨600<D.length then 4 else if bk=true∧Nat.gcd (decV N) (decV D)≠1 then 1 else 0):=⟨fun b=>_,fun b=>rfl⟩
 rw[←hres (f1&&(!bk||f2))]
 have hN1:f1=true→isDec N=true:=fun e=>by rw[hf1]at e;simp only[Bool.and_eq_true]at e;exact e.1
 have hD1:f2=true→isDec D=true:=fun e=>by rw[hf2]at e;simp only[Bool.and_eq_true]at e;exact e.1.1
 have go:∀(tm:T AV),val tm (.t 5)= .str N→val tm (.t 6)= .str D→val tm (.t 7)= .bool bk→val tm (.t 8)= .bool (f1&&(!bk||f2))→Wp E2 rc ⟨tm,h⟩ (RetQ [.tmp 2] fun v' h'=>v'= .int .i64 (res (f1&&(!bk||f2)))∧Grs h h'):=fun tm h5 h6 h7 h8=>by
  rw[hres]
  exact tail tm bk (f1&&(!bk||f2)) h5 h6 h7 h8 (fun e=>hN1 (by simp only[Bool.and_eq_true]at e;exact e.1)) (fun e b=>hD1 (by subst b;simp only[Bool.and_eq_true,Bool.or_eq_true,Bool.not_true,Bool.false_eq_true,false_or]at e;exact e.2))
 cases hdn:isDec N with
 | false=>
  rw[hdn]at cn
  cases bk with
  | false=>
   have g8:(f1&&(!false||f2))=false:=by rw[hf1,hf2];simp[hdn]
   rw[g8]at go⊢
   repeat' (with_reducible first|simp(disch:=first|exact okD|fail) only[go_sem,seval,c8,cc,cn,cd]|(apply Spl.i<;>intro hc))
   exact go _ (by simp(disch:=first|exact okD|fail) only[go_sem,seval]) (by simp(disch:=first|exact okD|fail) only[go_sem,seval]) (by simp(disch:=first|exact okD|fail) only[go_sem,seval]) (by(simp(disch:=first|exact okD|fail) only[go_sem,seval])<;>rfl)
  | true=>
   have g8:(f1&&(!true||f2))=false:=by rw[hf1,hf2];simp[hdn]
   rw[g8]at go⊢
   repeat' (with_reducible first|simp(disch:=first|exact okD|fail) only[go_sem,seval,c8,cc,cn,cd]|(apply Spl.i<;>intro hc))
   exact go _ (by simp(disch:=first|exact okD|fail) only[go_sem,seval]) (by simp(disch:=first|exact okD|fail) only[go_sem,seval]) (by simp(disch:=first|exact okD|fail) only[go_sem,seval]) (by(simp(disch:=first|exact okD|fail) only[go_sem,seval])<;>rfl)
 | true=>
  rw[hdn]at cn
  cases ng with
  | false =>
   cases bk with
   | false=>
    have g8:(f1&&(!false||f2))=true:=by rw[hf1,hf2];simp[hdn]
    rw[g8]at go⊢
    repeat' (with_reducible first|simp(disch:=first|exact okD|fail) only[go_sem,seval,c8,cc,cn,cd]|(apply Spl.i<;>intro hc))
    exact go _ (by simp(disch:=first|exact okD|fail) only[go_sem,seval]) (by simp(disch:=first|exact okD|fail) only[go_sem,seval]) (by simp(disch:=first|exact okD|fail) only[go_sem,seval]) (by(simp(disch:=first|exact okD|fail) only[go_sem,seval])<;>rfl)
   | true=>
    cases hdd:isDec D with
    | false=>
     rw[hdd]at cd
     have g8:(f1&&(!true||f2))=false:=by rw[hf1,hf2];simp[hdn,hdd]
     rw[g8]at go⊢
     repeat' (with_reducible first|simp(disch:=first|exact okD|fail) only[go_sem,seval,c8,cc,cn,cd]|(apply Spl.i<;>intro hc))
     exact go _ (by simp(disch:=first|exact okD|fail) only[go_sem,seval]) (by simp(disch:=first|exact okD|fail) only[go_sem,seval]) (by simp(disch:=first|exact okD|fail) only[go_sem,seval]) (by(simp(disch:=first|exact okD|fail) only[go_sem,seval])<;>rfl)
    | true=>
     rw[hdd]at cd
     by_cases d48:D=[48]
     ·subst d48
      have g8:(f1&&(!true||f2))=false:=by rw[hf1,hf2];simp[hdn,hdd]
      rw[g8]at go⊢
      repeat' (with_reducible first|simp(disch:=first|exact okD|fail) only[go_sem,seval,c8,cc,cn,cd]|(apply Spl.i<;>intro hc))
      exact go _ (by simp(disch:=first|exact okD|fail) only[go_sem,seval]) (by simp(disch:=first|exact okD|fail) only[go_sem,seval]) (by simp(disch:=first|exact okD|fail) only[go_sem,seval]) (by(simp(disch:=first|exact okD|fail) only[go_sem,seval])<;>rfl)
     ·by_cases d49:D=[49]
      ·subst d49
       have g8:(f1&&(!true||f2))=false:=by rw[hf1,hf2];simp[hdn,hdd,d48]
       rw[g8]at go⊢
       repeat' (with_reducible first|simp(disch:=first|exact okD|fail) only[go_sem,seval,c8,cc,cn,cd,d48]|(apply Spl.i<;>intro hc))
       exact go _ (by simp(disch:=first|exact okD|fail) only[go_sem,seval]) (by simp(disch:=first|exact okD|fail) only[go_sem,seval]) (by simp(disch:=first|exact okD|fail) only[go_sem,seval]) (by(simp(disch:=first|exact okD|fail) only[go_sem,seval])<;>rfl)
      ·skip
       have g8:(f1&&(!true||f2))=true:=by rw[hf1,hf2];simp[hdn,hdd,d48,d49]
       rw[g8]at go⊢
       repeat' (with_reducible first|simp(disch:=first|exact okD|fail) only[go_sem,seval,c8,cc,cn,cd,d48,d49]|(apply Spl.i<;>intro hc))
       exact go _ (by simp(disch:=first|exact okD|fail) only[go_sem,seval]) (by simp(disch:=first|exact okD|fail) only[go_sem,seval]) (by simp(disch:=first|exact okD|fail) only[go_sem,seval]) (by(simp(disch:=first|exact okD|fail) only[go_sem,seval])<;>rfl)
  | true=>
   by_cases n48:N=[48]
   ·subst n48
    cases bk with
    | false=>
     have g8:(f1&&(!false||f2))=false:=by rw[hf1,hf2];simp[hdn]
     rw[g8]at go⊢
     repeat' (with_reducible first|simp(disch:=first|exact okD|fail) only[go_sem,seval,c8,cc,cn,cd]|(apply Spl.i<;>intro hc))
     exact go _ (by simp(disch:=first|exact okD|fail) only[go_sem,seval]) (by simp(disch:=first|exact okD|fail) only[go_sem,seval]) (by simp(disch:=first|exact okD|fail) only[go_sem,seval]) (by(simp(disch:=first|exact okD|fail) only[go_sem,seval])<;>rfl)
    | true=>
     have g8:(f1&&(!true||f2))=false:=by rw[hf1,hf2];simp[hdn]
     rw[g8]at go⊢
     repeat' (with_reducible first|simp(disch:=first|exact okD|fail) only[go_sem,seval,c8,cc,cn,cd]|(apply Spl.i<;>intro hc))
     exact go _ (by simp(disch:=first|exact okD|fail) only[go_sem,seval]) (by simp(disch:=first|exact okD|fail) only[go_sem,seval]) (by simp(disch:=first|exact okD|fail) only[go_sem,seval]) (by(simp(disch:=first|exact okD|fail) only[go_sem,seval])<;>rfl)
   ·skip
    cases bk with
    | false=>
     have g8:(f1&&(!false||f2))=true:=by rw[hf1,hf2];simp[hdn,n48]
     rw[g8]at go⊢
     repeat' (with_reducible first|simp(disch:=first|exact okD|fail) only[go_sem,seval,c8,cc,cn,cd,n48]|(apply Spl.i<;>intro hc))
     exact go _ (by simp(disch:=first|exact okD|fail) only[go_sem,seval]) (by simp(disch:=first|exact okD|fail) only[go_sem,seval]) (by simp(disch:=first|exact okD|fail) only[go_sem,seval]) (by(simp(disch:=first|exact okD|fail) only[go_sem,seval])<;>rfl)
    | true=>
     cases hdd:isDec D with
     | false=>
      rw[hdd]at cd
      have g8:(f1&&(!true||f2))=false:=by rw[hf1,hf2];simp[hdn,hdd,n48]
      rw[g8]at go⊢
      repeat' (with_reducible first|simp(disch:=first|exact okD|fail) only[go_sem,seval,c8,cc,cn,cd,n48]|(apply Spl.i<;>intro hc))
      exact go _ (by simp(disch:=first|exact okD|fail) only[go_sem,seval]) (by simp(disch:=first|exact okD|fail) only[go_sem,seval]) (by simp(disch:=first|exact okD|fail) only[go_sem,seval]) (by(simp(disch:=first|exact okD|fail) only[go_sem,seval])<;>rfl)
     | true=>
      rw[hdd]at cd
      by_cases d48:D=[48]
      ·subst d48
       have g8:(f1&&(!true||f2))=false:=by rw[hf1,hf2];simp[hdn,hdd,n48]
       rw[g8]at go⊢
       repeat' (with_reducible first|simp(disch:=first|exact okD|fail) only[go_sem,seval,c8,cc,cn,cd,n48]|(apply Spl.i<;>intro hc))
       exact go _ (by simp(disch:=first|exact okD|fail) only[go_sem,seval]) (by simp(disch:=first|exact okD|fail) only[go_sem,seval]) (by simp(disch:=first|exact okD|fail) only[go_sem,seval]) (by(simp(disch:=first|exact okD|fail) only[go_sem,seval])<;>rfl)
      ·by_cases d49:D=[49]
       ·subst d49
        have g8:(f1&&(!true||f2))=false:=by rw[hf1,hf2];simp[hdn,hdd,d48,n48]
        rw[g8]at go⊢
        repeat' (with_reducible first|simp(disch:=first|exact okD|fail) only[go_sem,seval,c8,cc,cn,cd,d48,n48]|(apply Spl.i<;>intro hc))
        exact go _ (by simp(disch:=first|exact okD|fail) only[go_sem,seval]) (by simp(disch:=first|exact okD|fail) only[go_sem,seval]) (by simp(disch:=first|exact okD|fail) only[go_sem,seval]) (by(simp(disch:=first|exact okD|fail) only[go_sem,seval])<;>rfl)
       ·skip
        have g8:(f1&&(!true||f2))=true:=by rw[hf1,hf2];simp[hdn,hdd,d48,d49,n48]
        rw[g8]at go⊢
        repeat' (with_reducible first|simp(disch:=first|exact okD|fail) only[go_sem,seval,c8,cc,cn,cd,d48,d49,n48]|(apply Spl.i<;>intro hc))
        exact go _ (by simp(disch:=first|exact okD|fail) only[go_sem,seval]) (by simp(disch:=first|exact okD|fail) only[go_sem,seval]) (by simp(disch:=first|exact okD|fail) only[go_sem,seval]) (by(simp(disch:=first|exact okD|fail) only[go_sem,seval])<;>rfl)
end
end
end Go.Ae
set_option linter.unusedVariables false
set_option linter.unusedSimpArgs false
set_option maxRecDepth 100000
set_option maxHeartbeats 1000000
namespace Go.Ae
open Bg N Go.Proofs
noncomputable section
section
variable {h h' hp:Hp} {K:AV→Hp→Prop} {tm:T AV} {r a b:Rat}
def smR (r:Rat):Bool:=decide (r.num.natAbs<1000000000∧r.den<1000000000)
def quickV (r:Rat):AV:=if smR r=true then .tup [.int .i64 r.num,.int .i64 (r.den:Int),.bool true]else .tup [.int .i64 0,.int .i64 0,.bool false]
theorem quick_no {r:Rat} (h:¬(r.num.natAbs<1000000000∧r.den<1000000000)):quickV r= .tup [.int .i64 0,.int .i64 0,.bool false]:=by
 unfold quickV smR;rw[decide_eq_false h,if_neg (by decide)]
theorem quick_yes {r:Rat} (h:r.num.natAbs<1000000000∧r.den<1000000000):quickV r= .tup [.int .i64 r.num,.int .i64 (r.den:Int),.bool true]:=by
 unfold quickV smR;rw[decide_eq_true h,if_pos rfl]
theorem txtR_le {n:Nat} (l1:Lr n r.num) (l2:Lr n (r.den:Int)):(txtR r).length≤18*n+5∧(absR r).length≤18*n+5:=by
 have t1:=txtZ_len l1
 have t2:=txtZ_len l2
 have e:(absR r).length≤(txtR r).length:=by
  rw[txtR_abs];split
  ·rw[List.length_cons];omega
  ·exact Nat.le_refl _
 have:(txtR r).length≤18*n+5:=by
  unfold txtR
  split
  ·omega
  ·rw[List.length_append,List.length_cons];omega
 omega
theorem quick_tail (h5:val tm (.t 5)= .str (absR r)) (h6:val tm (.t 6)= .bool (decide (r.num<0))) (hl:(absR r).length≤200000):
  Wp E3 (R.a168.code.post 5) ⟨tm,h⟩ (RetQ [.tmp 2,.tmp 3,.tmp 4] fun v h'=>v=quickV r∧h'=h):=by
 have hs:=slash_abs r
 have n9:=decP_le (k:=9) (n:=r.num.natAbs) (by decide)
 have d9:=decP_le (k:=9) (n:=r.den) (by decide)
 rw[show(10:Nat)^9=1000000000 from rfl]at n9 d9
 have hv:=decP_val r.num.natAbs 1
 have hvd:=decP_val r.den 1
 have hd0:=den_pos r
 have cs:=fun{h:Hp} {K:AV→Hp→Prop}=>c122 (h:=h) (K:=K) (s:=absR r) (by omega)
 have e00:(0:Int).toNat=0:=rfl
 unfold R.a168
 dsimp only[ACode.post]
 by_cases c1:(decP r.num.natAbs 1).length≤9
 ·have hn:=n9.1 c1
  have c1':¬(9:Int)<((decP r.num.natAbs 1).length:Int):=by omega
  have cn:=fun{h:Hp} {K:AV→Hp→Prop}=>u153 (h:=h) (K:=K) (s:=decP r.num.natAbs 1) (decP_all _ _) (by omega)
  have wn:r.num<0→IntKind.wrap .i64 (0-(r.num.natAbs:Int))=r.num:=fun e=>by
   rw[show 0-(r.num.natAbs:Int)=r.num by omega];exact wrap_i64 (by omega)
  have wp:¬r.num<0→(r.num.natAbs:Int)=r.num:=fun e=>by omega
  by_cases c2:r.den=1
  ·have ea:absR r=decP r.num.natAbs 1:=if_pos c2
   have hq:=quick_yes (r:=r) ⟨hn,by omega⟩
   rw[c2]at hq
   rw[ea]at h5 hs cs
   have tk:List.take (decP r.num.natAbs 1).length (decP r.num.natAbs 1)=decP r.num.natAbs 1:=List.take_length
   rw[hq]
   by_cases c3:r.num<0
   ·have wn:=wn c3
    rw[decide_eq_true c3]at h6
    repeat' (with_reducible first|simp(disch:=first|exact okD|fail) only[go_sem,seval,h5,h6,cs,hs,c1',cn,tk,hv,wn,Int.lt_irrefl,Int.sub_self]|(apply Spl.i<;>intro hc))
   ·have wp:=wp c3
    rw[decide_eq_false c3]at h6
    repeat' (with_reducible first|simp(disch:=first|exact okD|fail) only[go_sem,seval,h5,h6,cs,hs,c1',cn,tk,hv,Int.lt_irrefl,Int.sub_self]|(apply Spl.i<;>intro hc))
    rw[wp]
  ·have ea:absR r=decP r.num.natAbs 1++47::decP r.den 1:=by rw[←txtZ_nat];exact if_neg c2
   have hlen:(absR r).length=(decP r.num.natAbs 1).length+((decP r.den 1).length+1):=by rw[ea];simp
   have tk:List.take (decP r.num.natAbs 1).length (absR r)=decP r.num.natAbs 1:=by rw[ea];exact List.take_left
   have e1:(((decP r.num.natAbs 1).length:Int)+1).toNat=(decP r.num.natAbs 1).length+1:=by omega
   have dk:List.drop ((decP r.num.natAbs 1).length+1) (absR r)=decP r.den 1:=by
    rw[ea,←List.drop_drop,List.drop_left];rfl
   by_cases c4:(decP r.den 1).length≤9
   ·have hd:=d9.1 c4
    have hq:=quick_yes (r:=r) ⟨hn,hd⟩
    have cd:=fun{h:Hp} {K:AV→Hp→Prop}=>u153 (h:=h) (K:=K) (s:=decP r.den 1) (decP_all _ _) (by omega)
    have c4':¬(10:Int)<(absR r).length-((decP r.num.natAbs 1).length:Int):=by omega
    have c5:((decP r.num.natAbs 1).length:Int)<(absR r).length:=by omega
    rw[hq]
    by_cases c3:r.num<0
    ·have wn:=wn c3
     rw[decide_eq_true c3]at h6
     repeat' (with_reducible first|simp(disch:=first|exact okD|fail) only[go_sem,seval,h5,h6,cs,hs,c1',cn,tk,hv,wn,e1,dk,cd,hvd,c4',c5]|(apply Spl.i<;>intro hc))
    ·have wp:=wp c3
     rw[decide_eq_false c3]at h6
     repeat' (with_reducible first|simp(disch:=first|exact okD|fail) only[go_sem,seval,h5,h6,cs,hs,c1',cn,tk,hv,e1,dk,cd,hvd,c4',c5]|(apply Spl.i<;>intro hc))
     rw[wp]
   ·have hq:=quick_no (r:=r) (by have:=mt d9.2 c4;omega)
    have c4':(10:Int)<(absR r).length-((decP r.num.natAbs 1).length:Int):=by omega
    rw[hq]
    repeat' (with_reducible first|simp(disch:=first|exact okD|fail) only[go_sem,seval,h5,h6,cs,hs,c1',c4']|(apply Spl.i<;>intro hc))
 ·have hq:=quick_no (r:=r) (by have:=mt n9.2 c1;omega)
  have c1':(9:Int)<((decP r.num.natAbs 1).length:Int):=by omega
  rw[hq]
  repeat' (with_reducible first|simp(disch:=first|exact okD|fail) only[go_sem,seval,h5,h6,cs,hs,c1']|(apply Spl.i<;>intro hc))
theorem u168 (l1:Lr 9000 r.num) (l2:Lr 9000 (r.den:Int)):CallWp E3 168 [.str (txtR r)] h K↔K (quickV r) h:=by
 obtain⟨t1,t2⟩:=txtR_le l1 l2
 have tail:=fun tm h5 h6=>quick_tail (h:=h) (tm:=tm) (r:=r) h5 h6 (by omega)
 have n9:=decP_le (k:=9) (n:=r.num.natAbs) (by decide)
 have d9:=decP_le (k:=9) (n:=r.den) (by decide)
 rw[show(10:Nat)^9=1000000000 from rfl]at n9 d9
 refine CallWp.iff_of (CallWp.fn (fn:=R.a168) rfl rfl rfl ?_)
 refine Wp.cut 5 rfl ?_
 generalize ACode.post 5 R.a168.code=q at tail⊢
 unfold R.a168
 dsimp only[ACode.pre]
 have hl0:(0:Int)<(txtR r).length:=by
  have:=decP_ne r.num.natAbs
  have:0<(decP r.num.natAbs 1).length:=List.length_pos_iff.2 this
  have:0<(absR r).length:=by
   unfold absR;split
   ·omega
   ·rw[List.length_append];omega
  rw[txtR_abs];split
  ·rw[List.length_cons];omega
  ·omega
 by_cases c0:20<(txtR r).length
 ·have c0':(20:Int)<(txtR r).length:=by omega
  have hq:=quick_no (r:=r) (fun e=>by
   have a1:=n9.2 e.1
   have a2:=d9.2 e.2
   have a3:(absR r).length≤19:=by
    unfold absR;split
    ·omega
    ·rw[List.length_append,List.length_cons,txtZ_nat];omega
   rw[txtR_abs]at c0
   split at c0
   ·rw[List.length_cons]at c0;omega
   ·omega)
  rw[hq]
  repeat' (with_reducible first|simp(disch:=first|exact okD|fail) only[go_sem,seval,c0']|(apply Spl.i<;>intro hc))
 ·have c0':¬(20:Int)<(txtR r).length:=by omega
  by_cases c3:r.num<0
  ·have et:txtR r=45::absR r:=by rw[txtR_abs,if_pos c3]
   have e0:((txtR r).getD 0 0).toNat=45:=by rw[et];rfl
   have e0':(((txtR r).getD 0 0).toNat:Int)=45:=by rw[e0];rfl
   have e1:(txtR r).drop 1=absR r:=by rw[et];rfl
   have hl1:(1:Int)≤(txtR r).length:=by omega
   repeat' (with_reducible first|simp(disch:=first|exact okD|fail) only[go_sem,seval,c0',hl0,e0',e1,hl1]|(apply Spl.i<;>intro hc))
   exact tail _ (by simp(disch:=first|exact okD|fail) only[go_sem,seval]) (by(simp(disch:=first|exact okD|fail) only[go_sem,seval,decide_eq_true c3])<;>rfl)
  ·have et:txtR r=absR r:=by rw[txtR_abs,if_neg c3]
   have e0':¬(((txtR r).getD 0 0).toNat:Int)=45:=by
    intro e
    have h1:=(u8_int (b:=(txtR r).getD 0 0) (n:=45) (by decide)).1 e
    apply absR_h45 r
    rw[←et]
    match hq:txtR r,hl0 with
    |c::l,_=>rw[hq]at h1;simpa using h1
   repeat' (with_reducible first|simp(disch:=first|exact okD|fail) only[go_sem,seval,c0',hl0,e0']|(apply Spl.i<;>intro hc))
   exact tail _ (by(simp(disch:=first|exact okD|fail) only[go_sem,seval])<;>exact congrArg _ et) (by(simp(disch:=first|exact okD|fail) only[go_sem,seval,decide_eq_false c3])<;>rfl)
end
end
end Go.Ae
