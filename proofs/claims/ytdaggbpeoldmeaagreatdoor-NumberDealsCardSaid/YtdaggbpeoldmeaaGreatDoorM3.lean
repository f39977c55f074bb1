/- Decimal notations: plain lists of bytes. -/
import Derived.Lib.ItoaNum
import Derived.Lib.Repeat
import Derived.Test.YtdaggbpeoldmeaaGreatDoorM2
import Derived.Lib.Atoi
import Derived.Test.YtdaggbpeoldmeaaGreatDoorZFB
open Bool renaming and_eq_true → bI
open Go.RowKit renaming Below → bn
open List renaming length_append → ar, length_cons → aq, length_nil → aM, all_cons → jU, all_reverse → vI, all_eq_true → cL, length_map → aV, length_take → aB, length_drop → bN, length_replicate → gB
open Nat renaming add_sub_cancel → ie, pow_succ → aW
open Option renaming map_some → cV
open Option.some renaming inj → aa
set_option linter.unusedVariables false
set_option linter.unusedSimpArgs false
namespace Go.Ae.N
open Go
def dg (n:Nat):UInt8:=UInt8.ofNat (48+n%10)
def bj (n k:Nat):List UInt8:=if n=0∧k=0 then[]else bj (n/10) (k-1)++[dg n]
termination_by n+k
decreasing_by omega
theorem iM:bj 0 0=[]:=by rw[bj,if_pos ⟨rfl,rfl⟩]
theorem fc {n k:Nat}(h:¬(n=0∧k=0)):bj n k=bj (n/10) (k-1)++[dg n]:=by rw[bj,if_neg h]
theorem sV {n:Nat}(h:0<n):bj n 0=bj n 1:=by rw[fc (by omega),fc (n:=n) (k:=1) (by omega)]
theorem iV:∀(j:Nat) {n k:Nat},n<10^j→(bj n k).length≤j+k
 | 0,n,0,h=>by
  have:n=0:=by simpa using h
  subst this;rw[iM];simp
 | 0,n,k+1,h=>by
  have:n=0:=by simpa using h
  subst this;rw[fc (by omega)];have:=iV 0 (n:=0) (k:=k) (by simp);simp only[Nat.zero_div,ie,ar,aq,aM];omega
 | j + 1,n,k,h=>by
  by_cases h0:n=0∧k=0
  ·rw[h0.1,h0.2,iM];simp
  ·rw[fc h0];have h1:n/10<10^j:=by rw[aW]at h;omega
   by_cases hk:k=0
   ·subst hk;have:=iV j (n:=n/10) (k:=0) h1;simp only[Nat.zero_sub,ar,aq,aM];omega
   ·have:=iV j (n:=n/10) (k:=k-1) h1;simp only[ar,aq,aM];omega
theorem uG:∀k:Nat,bj 0 k=Lib.repeatL [48] k
 |0=>by rw[iM];rfl
 | k+1=>by
  rw[fc (by omega),Nat.zero_div,ie,uG k,Lib.repeatL_add];rfl
theorem B7 (n:Nat):1≤(Lib.decDigits n).length:=by
 rw[Lib.decDigits];split<;>simp
theorem zV:∀(n k:Nat),1≤k→Lib.repeatL [48] (k-(Lib.decDigits n).length)++Lib.decDigits n=bj n k:=by
 intro n
 induction n using Nat.strongRecOn with
 | _ n ih=>
  intro k hk;rw[fc (by omega)];by_cases hn:n<10
  ·have e1:Lib.decDigits n=[dg n]:=by rw[Lib.decDigits,dif_pos hn,dg,Nat.mod_eq_of_lt hn]
   rw[e1,show n/10=0 by omega,uG];rfl
  ·have e1:Lib.decDigits n=Lib.decDigits (n/10)++[dg n]:=by rw[Lib.decDigits,dif_neg hn,dg]
   rw[e1,ar,←List.append_assoc];congr 1;have hl:=B7 (n/10);by_cases h1:k=1
   ·subst h1;rw[sV (by omega),←ih (n/10) (by omega) 1 (by omega)];rw[show 1-((Lib.decDigits (n/10)).length+[dg n].length)=0 by simp];rw[show 1-(Lib.decDigits (n/10)).length=0 by omega]
   ·rw[←ih (n/10) (by omega) (k-1) (by omega)];rw[show k-((Lib.decDigits (n/10)).length+[dg n].length)=k-1-(Lib.decDigits (n/10)).length by simp;omega]
theorem IU {n:Nat}:List.drop (n%10) (List.take (n%10+1) [48,49,50,51,52,53,54,55,56,57])=[dg n]:=by
 have h:n%10<10:=by omega
 unfold dg;generalize n%10=m at h
 match m,h with
 |0,_|1,_|2,_|3,_|4,_|5,_|6,_|7,_|8,_|9,_=>rfl
end Go.Ae.N
namespace Go.Ae.N
open Go
def fX (b:UInt8):Bool:=decide (48≤b.toNat∧b.toNat≤57)
def bK (l:List UInt8):Bool:=l.all fX
def dV (b:UInt8):Nat:=b.toNat-48
def kp (n:Nat)(l:List UInt8):Nat:=l.foldl (fun m b=>m*10+dV b) n
theorem oe {n:Nat}:kp n []=n:=List.foldl_nil
theorem mb {n:Nat}{b:UInt8}{l:List UInt8}:kp n (b::l)=kp (n*10+dV b) l:=List.foldl_cons
abbrev bp (l:List UInt8):Nat:=kp 0 l
def cM (l:List UInt8):Bool:=decide (l≠[])&&bK l&&(decide (l.headD 0≠48)||decide (l=[48]))
theorem B8 (l:List UInt8):∀n:Nat,bK l=true→Lib.decFrom n l=some (kp n l):=by
 induction l with
 |nil=>intro n _;rw[oe];rfl
 | cons b l ih=>
  intro n h;simp only[bK,jU,bI]at h;have hb:48≤b.toNat∧b.toNat≤57:=by simpa[fX]using h.1
  simp only[Lib.decFrom,Lib.digitVal,if_pos hb,mb,dV];exact ih _ h.2
theorem xU {l:List UInt8}(h:bK l=true)(h0:l≠[]):Lib.atoi l=some (bp l:Int):=by
 cases l with
 |nil=>exact absurd rfl h0
 | cons b r=>
  have h':=h;simp only[bK,jU,bI]at h';have hb:48≤b.toNat∧b.toNat≤57:=by simpa[fX]using h'.1
  have h1:(b==45)=false:=by
   rw[beq_eq_false_iff_ne];rintro rfl;simp at hb
  have h2:(b==43)=false:=by
   rw[beq_eq_false_iff_ne];rintro rfl;simp at hb
  simp only[Lib.atoi,h1,h2,Lib.decNat,List.isEmpty_cons,Bool.false_eq_true,if_false,B8 _ _ h,cV]
theorem Lv (l:List UInt8):∀n j:Nat,bK l=true→n<10^j→kp n l<10^(j+l.length):=by
 induction l with
 |nil=>intro n j _ h;rw[oe];exact h
 | cons b l ih=>
  intro n j h hn;simp only[bK,jU,bI]at h;have hb:48≤b.toNat∧b.toNat≤57:=by simpa[fX]using h.1
  have:=ih (n*10+dV b) (j+1) h.2 (by unfold dV;rw[aW];omega);rw[mb,aq];rw[show j+(l.length+1)=j+1+l.length by omega];exact this
theorem iK {l:List UInt8}(h:bK l=true):bp l<10^l.length:=by
 have:=Lv l 0 0 h (by simp);simpa using this
theorem J6 (b:UInt8):L.gJ.contains b=fX b:=by
 have key:∀n:Nat,n<256→L.gJ.contains (UInt8.ofNat n)=decide (48≤(UInt8.ofNat n).toNat∧(UInt8.ofNat n).toNat≤57):=by decide+kernel
 have:=key b.toNat b.toNat_lt;simpa[fX]using this
theorem dropWhile_nil {l:List UInt8}{p:UInt8→Bool}:l.dropWhile p=[]↔l.all p=true:=by
 induction l with
 |nil=>simp
 |cons b l ih=>by_cases hb:p b=true<;>simp[List.dropWhile,hb,ih]
theorem lP {l:List UInt8}:Lib.trimS l L.gJ=[]↔bK l=true:=by
 have e:(fun b=>L.gJ.contains b)=fX:=funext J6;unfold Lib.trimS Lib.trimLeftS Lib.trimRightS bK;rw[e,dropWhile_nil,vI];constructor
 ·intro h;rw[cL]at h⊢;by_cases h1:l.reverse.dropWhile fX=[]
  ·rw[dropWhile_nil,vI,cL]at h1;exact h1
  ·exfalso;have h2:=List.head_dropWhile_not fX (l:=l.reverse) (by exact h1);rw[h _ (List.head_mem h1)]at h2;cases h2
 ·intro h;have:l.reverse.dropWhile fX=[]:=by rw[dropWhile_nil,vI];exact h
  rw[this];rfl
def gX (l:List UInt8)(c:Nat):Nat×Bool:=if l.length=c∧bK l=true then(bp l,true)else(0,false)
def mJ (l:List UInt8):Nat×Bool:=if cM l=true∧l.length≤9 then(bp l,true)else(0,false)
end Go.Ae.N
set_option maxRecDepth 100000
namespace Go.Ae
open N
noncomputable abbrev E0:Env:=L.En C.fns
section
attribute [local go_sem] not_true_eq_false not_false_eq_true decide_true decide_false Wp.xl Wp.wK Wp.tD Wp.Da Wp.zL Wp.Ad Wp.Du Wp.Hs Wp.DC Wp.zQ Wp.zR Wp.DM Wp.zT uW oW Round JC DZ QG.yF Dt Ds wR.ptr List.all_nil jU zC Nh hC CN yN yO wy uB List.map_cons List.map_nil cV Option.map_none yL RC RB Ry Ru eT.ret eT.fW AC.iff yx bH.tt bH.tf bH.ft bH.ff bH.jO gE.t gE.f mi.t mi.f dw.t dw.f wz Bool.not_true Bool.not_false Bool.not_not Q4 dI.t dI.f FW CL Nf Q3 Aa Nd zZ Nc M7 M8 M1 CW CY CX FY uh M9 zi Dw wb zj Nb II IG IF Na Iw Iv Iu It Is F6 ww FZ qF CK ui FX yy fu.iff eW.iff Ov Og Om mQ ot Ou Ol On Oo Oq Ot Jq Jp Jo Js Ni Nj wrap_i64 wrap_u64 wrap_u8 wrap_i32 M4 M5 vY vW wG uM wE wF Aj uL Ak wH qy yT Dl Dm Hv qx Hz cm.wJ cm.wI rS.fn cm.Dx dw.Hh dI.Hh bH.Hf bH.Hg dw.pos dw.neg dI.pos dI.neg bH.Nn bH.Nv bH.No bH.Nw
variable {h:Hp}{K:AV→Hp→Prop}
theorem LJ {s:List UInt8}(hs:s.length≤9223372036854775807):ae E0 223 [.str s,.str [48,49,50,51,52,53,54,55,56,57]] h K↔K (.str (Lib.trimS s L.gJ)) h:=by
 rw[ae.gv (p:=L.xr) rfl rfl];have:L.xr [.str s,.str [48,49,50,51,52,53,54,55,56,57]] h=some (.str (Lib.trimS s L.gJ),h):=if_pos ⟨rfl,hs⟩;rw[this];exact Iff.rfl
theorem LI {s:List UInt8}(hd:bK s=true)(h0:¬s=[])(hs:s.length≤18):ae E0 224 [.str s] h K↔K (.gk [.int .i64 (bp s),.jQ]) h:=by
 rw[ae.gv (p:=L.qs) rfl rfl]
 have:L.qs [.str s] h=some (.gk [.int .i64 (bp s),.jQ],h):=by
  simp only[L.qs,if_pos hs,xU hd h0]
 rw[this];exact Iff.rfl
theorem Yq {s:List UInt8}{c:Nat}(hs:s.length≤9223372036854775807)(hc:1≤c∧c≤18):ae E0 148 [.str s,.int .i64 c] h K↔K (.gk [.int .i64 (gX s c).1,.bool (gX s c).2]) h:=by
 refine ae.cX (ae.fn (fn:=C.a148) rfl rfl rfl ?_);unfold C.a148;by_cases hl:s.length=c
 ·have h0:¬s=[]:=fun e=>by subst e;simp at hl;omega
  have hl':(s.length:Int)=c:=by omega
  repeat'(with_reducible first|simp(disch:=first|assumption|omega|(simp only[aq,aM,ar,aV,aB,bN,gB];omega)) only[go_sem,↓reduceIte,Nat.reduceEqDiff,Nat.reduceAdd,Nat.reduceBEq,LJ,LI,lP]|refine dw.kI (fun hc=>?_) (fun hc=>?_)|refine gE.kI (fun hc=>?_) (fun hc=>?_)|refine dI.kI (fun hc=>?_) (fun hc=>?_)|refine dw.dec (fun hc=>?_) (fun hc=>?_)|refine gE.dec (fun hc=>?_) (fun hc=>?_)|refine dI.dec (fun hc=>?_) (fun hc=>?_))
  ·rename_i hc;simp[gX,hc]
  ·rename_i hc;simp[gX,hc,hl]
 ·have hl':¬(s.length:Int)=c:=by omega
  repeat'(with_reducible first|simp(disch:=first|assumption|omega|(simp only[aq,aM,ar,aV,aB,bN,gB];omega)) only[go_sem,↓reduceIte,Nat.reduceEqDiff,Nat.reduceAdd,Nat.reduceBEq,LJ,LI,lP]|refine dw.kI (fun hc=>?_) (fun hc=>?_)|refine gE.kI (fun hc=>?_) (fun hc=>?_)|refine dI.kI (fun hc=>?_) (fun hc=>?_)|refine dw.dec (fun hc=>?_) (fun hc=>?_)|refine gE.dec (fun hc=>?_) (fun hc=>?_)|refine dI.dec (fun hc=>?_) (fun hc=>?_))
  simp[gX,hl]
theorem T6 {s:List UInt8}(hs:s.length≤9223372036854775807):ae E0 189 [.str s] h K↔K (.bool (cM s)) h:=by
 refine ae.cX (ae.fn (fn:=C.Ft) rfl rfl rfl ?_);unfold C.Ft;cases s with
 | nil=>
  repeat'(with_reducible first|simp(disch:=first|assumption|omega|(simp only[aq,aM,ar,aV,aB,bN,gB];omega)) only[go_sem,↓reduceIte,Nat.reduceEqDiff,Nat.reduceAdd,Nat.reduceBEq,LJ,lP]|refine dw.kI (fun hc=>?_) (fun hc=>?_)|refine gE.kI (fun hc=>?_) (fun hc=>?_)|refine dI.kI (fun hc=>?_) (fun hc=>?_)|refine dw.dec (fun hc=>?_) (fun hc=>?_)|refine gE.dec (fun hc=>?_) (fun hc=>?_)|refine dI.dec (fun hc=>?_) (fun hc=>?_))
  all_goals simp[cM]
 | cons b r=>
  have h0:¬(b::r)=[]:=by simp
  have hb:(b.toNat:Int)=48↔b=48:=by
   constructor
   ·intro e;exact UInt8.toNat_inj.1 (by simpa using Int.ofNat.inj e)
   ·rintro rfl;rfl
  repeat'(with_reducible first|simp(disch:=first|assumption|omega|(simp only[aq,aM,ar,aV,aB,bN,gB];omega)) only[go_sem,↓reduceIte,Nat.reduceEqDiff,Nat.reduceAdd,Nat.reduceBEq,LJ,lP,Int.toNat_zero,List.getD_cons_zero,hb]|refine dw.kI (fun hc=>?_) (fun hc=>?_)|refine gE.kI (fun hc=>?_) (fun hc=>?_)|refine dI.kI (fun hc=>?_) (fun hc=>?_)|refine dw.dec (fun hc=>?_) (fun hc=>?_)|refine gE.dec (fun hc=>?_) (fun hc=>?_)|refine dI.dec (fun hc=>?_) (fun hc=>?_))
  all_goals simp_all [cM]
theorem Yf {s:List UInt8}(hs:s.length≤9223372036854775807):ae E0 226 [.str s] h K↔K (.gk [.int .i64 (mJ s).1,.bool (mJ s).2]) h:=by
 refine ae.cX (ae.fn (fn:=C.a226) rfl rfl rfl ?_);unfold C.a226
 have key:cM s=true→¬s=[]∧bK s=true:=by
  unfold cM;simp only[bI,decide_eq_true_eq];exact fun e=>e.1
 cases hd:cM s with
 | true=>
  obtain⟨h0,h1⟩:=key hd
  repeat'(with_reducible first|simp(disch:=first|assumption|omega|(simp only[aq,aM,ar,aV,aB,bN,gB];omega)) only[go_sem,↓reduceIte,Nat.reduceEqDiff,Nat.reduceAdd,Nat.reduceBEq,T6,hd,LI]|refine dw.kI (fun hc=>?_) (fun hc=>?_)|refine gE.kI (fun hc=>?_) (fun hc=>?_)|refine dI.kI (fun hc=>?_) (fun hc=>?_)|refine dw.dec (fun hc=>?_) (fun hc=>?_)|refine gE.dec (fun hc=>?_) (fun hc=>?_)|refine dI.dec (fun hc=>?_) (fun hc=>?_))
  ·simp[mJ,hd,show ¬s.length≤9 by omega]
  ·simp[mJ,hd,show s.length≤9 by omega]
 | false=>
  repeat'(with_reducible first|simp(disch:=first|assumption|omega|(simp only[aq,aM,ar,aV,aB,bN,gB];omega)) only[go_sem,↓reduceIte,Nat.reduceEqDiff,Nat.reduceAdd,Nat.reduceBEq,T6,hd,LI]|refine dw.kI (fun hc=>?_) (fun hc=>?_)|refine gE.kI (fun hc=>?_) (fun hc=>?_)|refine dI.kI (fun hc=>?_) (fun hc=>?_)|refine dw.dec (fun hc=>?_) (fun hc=>?_)|refine gE.dec (fun hc=>?_) (fun hc=>?_)|refine dI.dec (fun hc=>?_) (fun hc=>?_))
  all_goals simp[mJ,hd]
end
end Go.Ae
namespace Go.Ae
mutual
def AV.free:AV→Bool
 | .int _ _| .bool _| .str _| .pG| .av| .kC| .jQ| .rA=>true
 | .fn _ cap=>nh cap
 | .rE _ v=>v.free
 | .agg l=>nh l
 | .gk l=>nh l
 | .ptr _ _| .sl _ _ _ _| .IM _ _ _ _| .map _=>false
def nh:List AV→Bool
 |[]=>true
 |x::l=>x.free&&nh l
end
mutual
theorem nX (ρ ρ':dF):∀(v:AV),v.free=true→enc ρ v=enc ρ' v
 | .int _ _,_| .bool _,_| .str _,_| .pG,_| .av,_| .kC,_| .jQ,_| .rA,_=>by simp[enc]
 | .fn f cap,h=>by simp only[AV.free]at h;simp only[enc,oS ρ ρ' cap h]
 | .rE T v,h=>by simp only[AV.free]at h;simp only[enc,nX ρ ρ' v h]
 | .agg l,h=>by simp only[AV.free]at h;simp only[enc,oS ρ ρ' l h]
 | .gk l,h=>by simp only[AV.free]at h;simp only[enc,oS ρ ρ' l h]
 | .ptr _ _,h| .sl _ _ _ _,h| .IM _ _ _ _,h| .map _,h=>by simp[AV.free]at h
theorem oS (ρ ρ':dF):∀(l:List AV),nh l=true→encs ρ l=encs ρ' l
 |[],_=>by simp[encs]
 | x::l,h=>by
  simp only[nh,bI]at h;simp only[encs,nX ρ ρ' x h.1,oS ρ ρ' l h.2]
end
mutual
theorem xt (ρ:dF)(N:Nat):∀(v:AV),v.free=true→ok ρ N v
 | .int _ _,_| .bool _,_| .str _,_| .pG,_| .av,_| .kC,_| .jQ,_| .rA,_=>by simp[ok]
 | .fn f cap,h=>by simp only[AV.free]at h;simp only[ok];exact nK ρ N cap h
 | .rE T v,h=>by simp only[AV.free]at h;simp only[ok];exact xt ρ N v h
 | .agg l,h=>by simp only[AV.free]at h;simp only[ok];exact nK ρ N l h
 | .gk l,h=>by simp only[AV.free]at h;simp only[ok];exact nK ρ N l h
 | .ptr _ _,h| .sl _ _ _ _,h| .IM _ _ _ _,h| .map _,h=>by simp[AV.free]at h
theorem nK (ρ:dF)(N:Nat):∀(l:List AV),nh l=true→gV ρ N l
 |[],_=>by simp[gV]
 | x::l,h=>by
  simp only[nh,bI]at h;simp only[gV];exact⟨xt ρ N x h.1,nK ρ N l h.2⟩
end
abbrev Hp.nil:Hp:=⟨0,0,.nil⟩
theorem Hp.get_nil (t:Nat):Hp.nil.get t=none:=T.get_nil t
section
variable {P:Program}{W0:World}{base:Nat}{E:Env}{ρ:dF}{h h1:Hp}{w:World}{v:AV}{args:List AV}{n f:Nat}
theorem bz.nil (hs:base≤w.heap.size):bz base ρ .nil w where
 size:=hs
 lt:=fun t o h=>by rw[Hp.get_nil]at h;cases h
 row:=fun t _ _ _ h=>by rw[Hp.get_nil]at h;cases h
 iter:=fun t _ _ _ h=>by rw[Hp.get_nil]at h;cases h
 map:=fun t _ _ h=>by rw[Hp.get_nil]at h;cases h
 apart:=fun t _ _ _ h=>by rw[Hp.get_nil]at h;cases h
theorem sn.lift {u:Value}{w':World}(R:bz base ρ h w)(hv:v.free=true)(G:sn base ρ .nil w v h1 u w'):sn base ρ h w v h u w':=by
 obtain⟨ρ',X,_,rfl⟩:=G;have B:bn w.heap.size w w':=⟨X.fb.os,X.fb.tape,X.fb.output,X.fb.size,fun k hk=>X.fb.block k hk fun t o ht=>by rw[Hp.get_nil]at ht;cases ht⟩
 exact⟨ρ,Ext.grown R B,xt ρ _ v hv,nX _ _ v hv⟩
theorem lift (EO:fO P W0 base E)(hr:call E n f args .nil=some (v,h1))(ha:nh args=true)(hv:v.free=true)(B:bn base W0 w)(R:bz base ρ h w):
  eC P base ρ h w (callFunc f (encs ρ args).toArray) v h:=by
 have D:=uN EO hr B (bz.nil (ρ:=ρ) R.size) (nK ρ _ args ha);unfold eC at *;exact D.mono fun u w' G=>sn.lift R hv G
theorem An (EO:fO P W0 base E)(hc:eV P f=true)(hr:∃n h1,call E n f args .nil=some (v,h1))(ha:nh args=true)(hv:v.free=true)(B:bn base W0 w)(hb:base≤w.heap.size)(ρ:dF):
  Calls P f (encs ρ args).toArray w fun e w'=>e= .returned (enc ρ v)∧bn w.heap.size w w':=by
 obtain⟨n,h1,hr⟩:=hr;have D:=lift EO hr ha hv B (bz.nil (ρ:=ρ) hb);unfold eC at D;rw[oJ hc]at D;refine Calls.mono (show Calls P f (encs ρ args).toArray w _ from D) fun e w' he=>?_
 obtain⟨u,rfl,ρ',X,_,rfl⟩:=he;exact⟨congrArg _ (nX _ _ v hv),⟨X.fb.os,X.fb.tape,X.fb.output,X.fb.size,fun k hk=>X.fb.block k hk fun t o ht=>by rw[Hp.get_nil]at ht;cases ht⟩⟩
def Uv (E:Env)(f:Nat)(p:List AV→Option AV):Prop:=∀args v,p args=some v→nh args=true∧v.free=true∧∃n h1,call E n f args .nil=some (v,h1)
def Env.with (E:Env)(f:Nat)(p:List AV→Option AV):Env:={ E with dK:=fun n=>if n=f then some (fun args h=>match p args with|some v=>some (v,h)|none=>none)else E.dK n }
theorem fO.with {p:List AV→Option AV}(EO:fO P W0 base E)(hp:Uv E f p):fO P W0 base (E.with f p) where
 fns:=EO.fns
 exts:=EO.exts
 gO:=EO.gO
 mixed:=EO.mixed
 dK :=by
  intro k q hq args h v h' hv ρ w B R hok;simp only[Env.with]at hq;split at hq
  ·rename_i e;subst e;obtain rfl:=aa hq;simp only at hv;split at hv
   ·rename_i u hu;obtain⟨rfl,rfl⟩:=aj hv;obtain⟨a1,a2,n,h1,a3⟩:=hp args u hu;exact lift EO a3 a1 a2 B R
   ·cases hv
  ·exact EO.dK k q hq args h v h' hv ρ w B R hok
 later :=by
  intro k q args h v h' hq hv;simp only[Env.with]at hq;split at hq
  ·obtain rfl:=aa hq;simp only at hv;split at hv
   ·obtain⟨rfl,rfl⟩:=aj hv;exact bJ.refl _
   ·cases hv
  ·exact EO.later k q args h v h' hq hv
end
end Go.Ae
