/- Decimal notations: plain lists of bytes. -/
import Derived.Lib.ItoaNum
import Derived.Lib.Repeat
import Derived.Test.YtdaggbpeoldmeaaGreatDoorM2
import Derived.Lib.Atoi
import Derived.Test.YtdaggbpeoldmeaaGreatDoorZFB
open Bool renaming and_eq_true → bz
open Go.RowKit renaming Below → bl
open List renaming length_append → ar, length_cons → ap, length_nil → aK, all_cons → iO, all_reverse → vo, all_eq_true → bV, length_map → aU, length_take → az, length_drop → bP, length_replicate → fX
open Nat renaming add_sub_cancel → gS, pow_succ → aV
open Option renaming map_some → cJ
open Option.some renaming inj → aa
set_option linter.unusedVariables false
set_option linter.unusedSimpArgs false
namespace Go.Ae.N
open Go
def dg (n:Nat):UInt8:=UInt8.ofNat (48+n%10)
def bn (n k:Nat):List UInt8:=if n=0∧k=0 then[]else bn (n/10) (k-1)++[dg n]
termination_by n+k
decreasing_by omega
theorem iw:bn 0 0=[]:=by rw[bn,if_pos ⟨rfl,rfl⟩]
theorem eM {n k:Nat}(h:¬(n=0∧k=0)):bn n k=bn (n/10) (k-1)++[dg n]:=by rw[bn,if_neg h]
theorem sH {n:Nat}(h:0<n):bn n 0=bn n 1:=by rw[eM (by omega),eM (n:=n) (k:=1) (by omega)]
theorem iI:∀(j:Nat) {n k:Nat},n<10^j→(bn n k).length≤j+k
 | 0,n,0,h=>by
  have:n=0:=by simpa using h
  subst this;rw[iw];simp
 | 0,n,k+1,h=>by
  have:n=0:=by simpa using h
  subst this;rw[eM (by omega)];have:=iI 0 (n:=0) (k:=k) (by simp);simp only[Nat.zero_div,gS,ar,ap,aK];omega
 | j + 1,n,k,h=>by
  by_cases h0:n=0∧k=0
  ·rw[h0.1,h0.2,iw];simp
  ·rw[eM h0];have h1:n/10<10^j:=by rw[aV]at h;omega
   by_cases hk:k=0
   ·subst hk;have:=iI j (n:=n/10) (k:=0) h1;simp only[Nat.zero_sub,ar,ap,aK];omega
   ·have:=iI j (n:=n/10) (k:=k-1) h1;simp only[ar,ap,aK];omega
theorem uj:∀k:Nat,bn 0 k=Lib.repeatL [48] k
 |0=>by rw[iw];rfl
 | k+1=>by
  rw[eM (by omega),Nat.zero_div,gS,uj k,Lib.repeatL_add];rfl
theorem BM (n:Nat):1≤(Lib.decDigits n).length:=by
 rw[Lib.decDigits];split<;>simp
theorem zE:∀(n k:Nat),1≤k→Lib.repeatL [48] (k-(Lib.decDigits n).length)++Lib.decDigits n=bn n k:=by
 intro n
 induction n using Nat.strongRecOn with
 | _ n ih=>
  intro k hk;rw[eM (by omega)];by_cases hn:n<10
  ·have e1:Lib.decDigits n=[dg n]:=by rw[Lib.decDigits,dif_pos hn,dg,Nat.mod_eq_of_lt hn]
   rw[e1,show n/10=0 by omega,uj];rfl
  ·have e1:Lib.decDigits n=Lib.decDigits (n/10)++[dg n]:=by rw[Lib.decDigits,dif_neg hn,dg]
   rw[e1,ar,←List.append_assoc];congr 1;have hl:=BM (n/10);by_cases h1:k=1
   ·subst h1;rw[sH (by omega),←ih (n/10) (by omega) 1 (by omega)];rw[show 1-((Lib.decDigits (n/10)).length+[dg n].length)=0 by simp];rw[show 1-(Lib.decDigits (n/10)).length=0 by omega]
   ·rw[←ih (n/10) (by omega) (k-1) (by omega)];rw[show k-((Lib.decDigits (n/10)).length+[dg n].length)=k-1-(Lib.decDigits (n/10)).length by simp;omega]
theorem HZ {n:Nat}:List.drop (n%10) (List.take (n%10+1) [48,49,50,51,52,53,54,55,56,57])=[dg n]:=by
 have h:n%10<10:=by omega
 unfold dg;generalize n%10=m at h
 match m,h with
 |0,_|1,_|2,_|3,_|4,_|5,_|6,_|7,_|8,_|9,_=>rfl
end Go.Ae.N
namespace Go.Ae.N
open Go
def fJ (b:UInt8):Bool:=decide (48≤b.toNat∧b.toNat≤57)
def bI (l:List UInt8):Bool:=l.all fJ
def dV (b:UInt8):Nat:=b.toNat-48
def ks (n:Nat)(l:List UInt8):Nat:=l.foldl (fun m b=>m*10+dV b) n
theorem qz {n:Nat}:ks n []=n:=List.foldl_nil
theorem oI {n:Nat}{b:UInt8}{l:List UInt8}:ks n (b::l)=ks (n*10+dV b) l:=List.foldl_cons
abbrev bm (l:List UInt8):Nat:=ks 0 l
def cK (l:List UInt8):Bool:=decide (l≠[])&&bI l&&(decide (l.headD 0≠48)||decide (l=[48]))
theorem BN (l:List UInt8):∀n:Nat,bI l=true→Lib.decFrom n l=some (ks n l):=by
 induction l with
 |nil=>intro n _;rw[qz];rfl
 | cons b l ih=>
  intro n h;simp only[bI,iO,bz]at h;have hb:48≤b.toNat∧b.toNat≤57:=by simpa[fJ]using h.1
  simp only[Lib.decFrom,Lib.digitVal,if_pos hb,oI,dV];exact ih _ h.2
theorem xE {l:List UInt8}(h:bI l=true)(h0:l≠[]):Lib.atoi l=some (bm l:Int):=by
 cases l with
 |nil=>exact absurd rfl h0
 | cons b r=>
  have h':=h;simp only[bI,iO,bz]at h';have hb:48≤b.toNat∧b.toNat≤57:=by simpa[fJ]using h'.1
  have h1:(b==45)=false:=by
   rw[beq_eq_false_iff_ne];rintro rfl;simp at hb
  have h2:(b==43)=false:=by
   rw[beq_eq_false_iff_ne];rintro rfl;simp at hb
  simp only[Lib.atoi,h1,h2,Lib.decNat,List.isEmpty_cons,Bool.false_eq_true,if_false,BN _ _ h,cJ]
theorem Ky (l:List UInt8):∀n j:Nat,bI l=true→n<10^j→ks n l<10^(j+l.length):=by
 induction l with
 |nil=>intro n j _ h;rw[qz];exact h
 | cons b l ih=>
  intro n j h hn;simp only[bI,iO,bz]at h;have hb:48≤b.toNat∧b.toNat≤57:=by simpa[fJ]using h.1
  have:=ih (n*10+dV b) (j+1) h.2 (by unfold dV;rw[aV];omega);rw[oI,ap];rw[show j+(l.length+1)=j+1+l.length by omega];exact this
theorem iu {l:List UInt8}(h:bI l=true):bm l<10^l.length:=by
 have:=Ky l 0 0 h (by simp);simpa using this
theorem Ji (b:UInt8):L.gA.contains b=fJ b:=by
 have key:∀n:Nat,n<256→L.gA.contains (UInt8.ofNat n)=decide (48≤(UInt8.ofNat n).toNat∧(UInt8.ofNat n).toNat≤57):=by decide+kernel
 have:=key b.toNat b.toNat_lt;simpa[fJ]using this
theorem dropWhile_nil {l:List UInt8}{p:UInt8→Bool}:l.dropWhile p=[]↔l.all p=true:=by
 induction l with
 |nil=>simp
 |cons b l ih=>by_cases hb:p b=true<;>simp[List.dropWhile,hb,ih]
theorem lC {l:List UInt8}:Lib.trimS l L.gA=[]↔bI l=true:=by
 have e:(fun b=>L.gA.contains b)=fJ:=funext Ji;unfold Lib.trimS Lib.trimLeftS Lib.trimRightS bI;rw[e,dropWhile_nil,vo];constructor
 ·intro h;rw[bV]at h⊢;by_cases h1:l.reverse.dropWhile fJ=[]
  ·rw[dropWhile_nil,vo,bV]at h1;exact h1
  ·exfalso;have h2:=List.head_dropWhile_not fJ (l:=l.reverse) (by exact h1);rw[h _ (List.head_mem h1)]at h2;cases h2
 ·intro h;have:l.reverse.dropWhile fJ=[]:=by rw[dropWhile_nil,vo];exact h
  rw[this];rfl
def gL (l:List UInt8)(c:Nat):Nat×Bool:=if l.length=c∧bI l=true then(bm l,true)else(0,false)
def mq (l:List UInt8):Nat×Bool:=if cK l=true∧l.length≤9 then(bm l,true)else(0,false)
end Go.Ae.N
set_option maxRecDepth 100000
namespace Go.Ae
open N
noncomputable abbrev E0:Env:=L.En C.fns
section
attribute [local go_sem] not_true_eq_false not_false_eq_true decide_true decide_false Wp.wM Wp.wj Wp.sY Wp.CG Wp.zw Wp.zN Wp.CU Wp.Gz Wp.C2 Wp.zA Wp.zC Wp.Dd Wp.zD uH oK Round IG Du Py.yl CT CS wx.ptr List.all_nil iO zo Mn gO Co yB yC vU uf List.map_cons List.map_nil cJ Option.map_none yv Qq Qp Qn Ql gy.ret gy.fP Ak.iff yc bC.tt bC.tf bC.ft bC.ff bC.jC gg.t gg.f lS.t lS.f dj.t dj.f vV Bool.not_true Bool.not_false Bool.not_not PX dD.t dD.f Fk Cm Mm PW zL Ml zK Mk Mf Mg L9 Cs Cu Ct Fo tQ Mh yY CX vJ yZ Mj HS HR HP Mi HK HJ HI HH HG Fs vS Fp qo Cl tR Fl yd eX.iff dK.iff Nl M8 Nf nN uz Nk Nd Ng Nh Ni Nj Ir Iq Ip It Mo Mp wrap_i64 wrap_u64 wrap_u8 wrap_i32 Mc Md vH vG wb ur vZ wa zR uq zT wg qj yI CP CQ GD qi GI bY.wi bY.wh rG.fn bY.CY dj.Gi dD.Gi bC.Gg bC.Gh dj.pos dj.neg dD.pos dD.neg bC.My bC.MC bC.Mz bC.MD
variable {h:Hp}{K:AV→Hp→Prop}
theorem KJ {s:List UInt8}(hs:s.length≤9223372036854775807):ac E0 223 [.str s,.str [48,49,50,51,52,53,54,55,56,57]] h K↔K (.str (Lib.trimS s L.gA)) h:=by
 rw[ac.fS (p:=L.wR) rfl rfl];have:L.wR [.str s,.str [48,49,50,51,52,53,54,55,56,57]] h=some (.str (Lib.trimS s L.gA),h):=if_pos ⟨rfl,hs⟩;rw[this];exact Iff.rfl
theorem KI {s:List UInt8}(hd:bI s=true)(h0:¬s=[])(hs:s.length≤18):ac E0 224 [.str s] h K↔K (.fO [.int .i64 (bm s),.jD]) h:=by
 rw[ac.fS (p:=L.qe) rfl rfl]
 have:L.qe [.str s] h=some (.fO [.int .i64 (bm s),.jD],h):=by
  simp only[L.qe,if_pos hs,xE hd h0]
 rw[this];exact Iff.rfl
theorem W8 {s:List UInt8}{c:Nat}(hs:s.length≤9223372036854775807)(hc:1≤c∧c≤18):ac E0 148 [.str s,.int .i64 c] h K↔K (.fO [.int .i64 (gL s c).1,.bool (gL s c).2]) h:=by
 refine ac.cZ (ac.fn (fn:=C.a148) rfl rfl rfl ?_);unfold C.a148;by_cases hl:s.length=c
 ·have h0:¬s=[]:=fun e=>by subst e;simp at hl;omega
  have hl':(s.length:Int)=c:=by omega
  repeat'(with_reducible first|simp(disch:=first|assumption|omega|(simp only[ap,aK,ar,aU,az,bP,fX];omega)) only[go_sem,↓reduceIte,Nat.reduceEqDiff,Nat.reduceAdd,Nat.reduceBEq,KJ,KI,lC]|refine dj.kr (fun hc=>?_) (fun hc=>?_)|refine gg.kr (fun hc=>?_) (fun hc=>?_)|refine dD.kr (fun hc=>?_) (fun hc=>?_)|refine dj.dec (fun hc=>?_) (fun hc=>?_)|refine gg.dec (fun hc=>?_) (fun hc=>?_)|refine dD.dec (fun hc=>?_) (fun hc=>?_))
  ·rename_i hc;simp[gL,hc]
  ·rename_i hc;simp[gL,hc,hl]
 ·have hl':¬(s.length:Int)=c:=by omega
  repeat'(with_reducible first|simp(disch:=first|assumption|omega|(simp only[ap,aK,ar,aU,az,bP,fX];omega)) only[go_sem,↓reduceIte,Nat.reduceEqDiff,Nat.reduceAdd,Nat.reduceBEq,KJ,KI,lC]|refine dj.kr (fun hc=>?_) (fun hc=>?_)|refine gg.kr (fun hc=>?_) (fun hc=>?_)|refine dD.kr (fun hc=>?_) (fun hc=>?_)|refine dj.dec (fun hc=>?_) (fun hc=>?_)|refine gg.dec (fun hc=>?_) (fun hc=>?_)|refine dD.dec (fun hc=>?_) (fun hc=>?_))
  simp[gL,hl]
theorem SJ {s:List UInt8}(hs:s.length≤9223372036854775807):ac E0 189 [.str s] h K↔K (.bool (cK s)) h:=by
 refine ac.cZ (ac.fn (fn:=C.EG) rfl rfl rfl ?_);unfold C.EG;cases s with
 | nil=>
  repeat'(with_reducible first|simp(disch:=first|assumption|omega|(simp only[ap,aK,ar,aU,az,bP,fX];omega)) only[go_sem,↓reduceIte,Nat.reduceEqDiff,Nat.reduceAdd,Nat.reduceBEq,KJ,lC]|refine dj.kr (fun hc=>?_) (fun hc=>?_)|refine gg.kr (fun hc=>?_) (fun hc=>?_)|refine dD.kr (fun hc=>?_) (fun hc=>?_)|refine dj.dec (fun hc=>?_) (fun hc=>?_)|refine gg.dec (fun hc=>?_) (fun hc=>?_)|refine dD.dec (fun hc=>?_) (fun hc=>?_))
  all_goals simp[cK]
 | cons b r=>
  have h0:¬(b::r)=[]:=by simp
  have hb:(b.toNat:Int)=48↔b=48:=by
   constructor
   ·intro e;exact UInt8.toNat_inj.1 (by simpa using Int.ofNat.inj e)
   ·rintro rfl;rfl
  repeat'(with_reducible first|simp(disch:=first|assumption|omega|(simp only[ap,aK,ar,aU,az,bP,fX];omega)) only[go_sem,↓reduceIte,Nat.reduceEqDiff,Nat.reduceAdd,Nat.reduceBEq,KJ,lC,Int.toNat_zero,List.getD_cons_zero,hb]|refine dj.kr (fun hc=>?_) (fun hc=>?_)|refine gg.kr (fun hc=>?_) (fun hc=>?_)|refine dD.kr (fun hc=>?_) (fun hc=>?_)|refine dj.dec (fun hc=>?_) (fun hc=>?_)|refine gg.dec (fun hc=>?_) (fun hc=>?_)|refine dD.dec (fun hc=>?_) (fun hc=>?_))
  all_goals simp_all [cK]
theorem WV {s:List UInt8}(hs:s.length≤9223372036854775807):ac E0 226 [.str s] h K↔K (.fO [.int .i64 (mq s).1,.bool (mq s).2]) h:=by
 refine ac.cZ (ac.fn (fn:=C.a226) rfl rfl rfl ?_);unfold C.a226
 have key:cK s=true→¬s=[]∧bI s=true:=by
  unfold cK;simp only[bz,decide_eq_true_eq];exact fun e=>e.1
 cases hd:cK s with
 | true=>
  obtain⟨h0,h1⟩:=key hd
  repeat'(with_reducible first|simp(disch:=first|assumption|omega|(simp only[ap,aK,ar,aU,az,bP,fX];omega)) only[go_sem,↓reduceIte,Nat.reduceEqDiff,Nat.reduceAdd,Nat.reduceBEq,SJ,hd,KI]|refine dj.kr (fun hc=>?_) (fun hc=>?_)|refine gg.kr (fun hc=>?_) (fun hc=>?_)|refine dD.kr (fun hc=>?_) (fun hc=>?_)|refine dj.dec (fun hc=>?_) (fun hc=>?_)|refine gg.dec (fun hc=>?_) (fun hc=>?_)|refine dD.dec (fun hc=>?_) (fun hc=>?_))
  ·simp[mq,hd,show ¬s.length≤9 by omega]
  ·simp[mq,hd,show s.length≤9 by omega]
 | false=>
  repeat'(with_reducible first|simp(disch:=first|assumption|omega|(simp only[ap,aK,ar,aU,az,bP,fX];omega)) only[go_sem,↓reduceIte,Nat.reduceEqDiff,Nat.reduceAdd,Nat.reduceBEq,SJ,hd,KI]|refine dj.kr (fun hc=>?_) (fun hc=>?_)|refine gg.kr (fun hc=>?_) (fun hc=>?_)|refine dD.kr (fun hc=>?_) (fun hc=>?_)|refine dj.dec (fun hc=>?_) (fun hc=>?_)|refine gg.dec (fun hc=>?_) (fun hc=>?_)|refine dD.dec (fun hc=>?_) (fun hc=>?_))
  all_goals simp[mq,hd]
end
end Go.Ae
namespace Go.Ae
mutual
def AV.free:AV→Bool
 | .int _ _| .bool _| .str _| .py| .aq| .kg| .jD| .qW=>true
 | .fn _ cap=>mL cap
 | .qZ _ v=>v.free
 | .agg l=>mL l
 | .fO l=>mL l
 | .ptr _ _| .sl _ _ _ _| .HW _ _ _ _| .map _=>false
def mL:List AV→Bool
 |[]=>true
 |x::l=>x.free&&mL l
end
mutual
theorem nH (ρ ρ':dw):∀(v:AV),v.free=true→enc ρ v=enc ρ' v
 | .int _ _,_| .bool _,_| .str _,_| .py,_| .aq,_| .kg,_| .jD,_| .qW,_=>by simp[enc]
 | .fn f cap,h=>by simp only[AV.free]at h;simp only[enc,oF ρ ρ' cap h]
 | .qZ T v,h=>by simp only[AV.free]at h;simp only[enc,nH ρ ρ' v h]
 | .agg l,h=>by simp only[AV.free]at h;simp only[enc,oF ρ ρ' l h]
 | .fO l,h=>by simp only[AV.free]at h;simp only[enc,oF ρ ρ' l h]
 | .ptr _ _,h| .sl _ _ _ _,h| .HW _ _ _ _,h| .map _,h=>by simp[AV.free]at h
theorem oF (ρ ρ':dw):∀(l:List AV),mL l=true→encs ρ l=encs ρ' l
 |[],_=>by simp[encs]
 | x::l,h=>by
  simp only[mL,bz]at h;simp only[encs,nH ρ ρ' x h.1,oF ρ ρ' l h.2]
end
mutual
theorem wS (ρ:dw)(N:Nat):∀(v:AV),v.free=true→ok ρ N v
 | .int _ _,_| .bool _,_| .str _,_| .py,_| .aq,_| .kg,_| .jD,_| .qW,_=>by simp[ok]
 | .fn f cap,h=>by simp only[AV.free]at h;simp only[ok];exact np ρ N cap h
 | .qZ T v,h=>by simp only[AV.free]at h;simp only[ok];exact wS ρ N v h
 | .agg l,h=>by simp only[AV.free]at h;simp only[ok];exact np ρ N l h
 | .fO l,h=>by simp only[AV.free]at h;simp only[ok];exact np ρ N l h
 | .ptr _ _,h| .sl _ _ _ _,h| .HW _ _ _ _,h| .map _,h=>by simp[AV.free]at h
theorem np (ρ:dw)(N:Nat):∀(l:List AV),mL l=true→gP ρ N l
 |[],_=>by simp[gP]
 | x::l,h=>by
  simp only[mL,bz]at h;simp only[gP];exact⟨wS ρ N x h.1,np ρ N l h.2⟩
end
abbrev Hp.nil:Hp:=⟨0,0,.nil⟩
theorem Hp.get_nil (t:Nat):Hp.nil.get t=none:=T.get_nil t
section
variable {P:Program}{W0:World}{base:Nat}{E:Env}{ρ:dw}{h h1:Hp}{w:World}{v:AV}{args:List AV}{n f:Nat}
theorem bv.nil (hs:base≤w.heap.size):bv base ρ .nil w where
 size:=hs
 lt:=fun t o h=>by rw[Hp.get_nil]at h;cases h
 row:=fun t _ _ _ h=>by rw[Hp.get_nil]at h;cases h
 iter:=fun t _ _ _ h=>by rw[Hp.get_nil]at h;cases h
 map:=fun t _ _ h=>by rw[Hp.get_nil]at h;cases h
 apart:=fun t _ _ _ h=>by rw[Hp.get_nil]at h;cases h
theorem qH.lift {u:Value}{w':World}(R:bv base ρ h w)(hv:v.free=true)(G:qH base ρ .nil w v h1 u w'):qH base ρ h w v h u w':=by
 obtain⟨ρ',X,_,rfl⟩:=G;have B:bl w.heap.size w w':=⟨X.eK.os,X.eK.tape,X.eK.output,X.eK.size,fun k hk=>X.eK.block k hk fun t o ht=>by rw[Hp.get_nil]at ht;cases ht⟩
 exact⟨ρ,Ext.grown R B,wS ρ _ v hv,nH _ _ v hv⟩
theorem lift (EO:fC P W0 base E)(hr:call E n f args .nil=some (v,h1))(ha:mL args=true)(hv:v.free=true)(B:bl base W0 w)(R:bv base ρ h w):
  dQ P base ρ h w (callFunc f (encs ρ args).toArray) v h:=by
 have D:=ut EO hr B (bv.nil (ρ:=ρ) R.size) (np ρ _ args ha);unfold dQ at *;exact D.mono fun u w' G=>qH.lift R hv G
theorem zW (EO:fC P W0 base E)(hc:eD P f=true)(hr:∃n h1,call E n f args .nil=some (v,h1))(ha:mL args=true)(hv:v.free=true)(B:bl base W0 w)(hb:base≤w.heap.size)(ρ:dw):
  Calls P f (encs ρ args).toArray w fun e w'=>e= .returned (enc ρ v)∧bl w.heap.size w w':=by
 obtain⟨n,h1,hr⟩:=hr;have D:=lift EO hr ha hv B (bv.nil (ρ:=ρ) hb);unfold dQ at D;rw[nY hc]at D;refine Calls.mono (show Calls P f (encs ρ args).toArray w _ from D) fun e w' he=>?_
 obtain⟨u,rfl,ρ',X,_,rfl⟩:=he;exact⟨congrArg _ (nH _ _ v hv),⟨X.eK.os,X.eK.tape,X.eK.output,X.eK.size,fun k hk=>X.eK.block k hk fun t o ht=>by rw[Hp.get_nil]at ht;cases ht⟩⟩
def Tz (E:Env)(f:Nat)(p:List AV→Option AV):Prop:=∀args v,p args=some v→mL args=true∧v.free=true∧∃n h1,call E n f args .nil=some (v,h1)
def Env.with (E:Env)(f:Nat)(p:List AV→Option AV):Env:={ E with dG:=fun n=>if n=f then some (fun args h=>match p args with|some v=>some (v,h)|none=>none)else E.dG n }
theorem fC.with {p:List AV→Option AV}(EO:fC P W0 base E)(hp:Tz E f p):fC P W0 base (E.with f p) where
 fns:=EO.fns
 exts:=EO.exts
 gF:=EO.gF
 mixed:=EO.mixed
 dG :=by
  intro k q hq args h v h' hv ρ w B R hok;simp only[Env.with]at hq;split at hq
  ·rename_i e;subst e;obtain rfl:=aa hq;simp only at hv;split at hv
   ·rename_i u hu;obtain⟨rfl,rfl⟩:=ai hv;obtain⟨a1,a2,n,h1,a3⟩:=hp args u hu;exact lift EO a3 a1 a2 B R
   ·cases hv
  ·exact EO.dG k q hq args h v h' hv ρ w B R hok
 later :=by
  intro k q args h v h' hq hv;simp only[Env.with]at hq;split at hq
  ·obtain rfl:=aa hq;simp only at hv;split at hv
   ·obtain⟨rfl,rfl⟩:=ai hv;exact bH.refl _
   ·cases hv
  ·exact EO.later k q args h v h' hq hv
end
end Go.Ae
