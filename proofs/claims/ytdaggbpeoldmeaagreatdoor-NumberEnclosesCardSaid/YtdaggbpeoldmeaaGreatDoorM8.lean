/- The reference's check of a number's text. -/
import Derived.Test.YtdaggbpeoldmeaaGreatDoorM7
import Derived.Test.YtdaggbpeoldmeaaGreatDoorM6
set_option linter.unusedVariables false
set_option linter.unusedSimpArgs false
set_option maxRecDepth 100000
set_option exponentiation.threshold 1000
set_option maxHeartbeats 2000000
namespace Go.Ae
open Bg N Go.Proofs
noncomputable section
section
variable {h h' hp:Hp} {K:AV→Hp→Prop} {tm:T AV} {r a b:Rat}
theorem u151 {s:List UInt8} (hs:s.length≤1000000):CallWp E3 151 [.str s] h K↔K (.bool (allDig s)) h:=up ge3 fun K=>c151 hs
theorem isDec_of {s:List UInt8} (h0:s≠[]) (h1:s.length=1∨s.headD 0≠48):isDec s=allDig s:=by
 cases ha:allDig s with
 | true=>
  refine isDec_mk h0 ha ?_
  rcases h1 with h1|h1
  ·match s,h1 with
   | [c],_=>
    by_cases hc:c=48
    ·exact .inr (by rw[hc])
    ·exact .inl (by simpa using hc)
  ·exact .inl h1
 |false=>unfold isDec;rw[ha];simp
theorem isDec_no {s:List UInt8} (h1:1<s.length) (h2:s.headD 0=48):isDec s=false:=by
 cases hd:isDec s with
 |false=>rfl
 | true=>
  rcases(isDec_cases hd).2.2 with e|e
  ·exact absurd h2 e
  ·rw[e]at h1;exact absurd h1 (by decide)
theorem u123 {s:List UInt8} (hs:s.length≤1000000):CallWp E3 123 [.str s] h K↔K (.bool (isDec s)) h:=by
 refine CallWp.iff_of (CallWp.fn (fn:=R.a123) rfl rfl rfl ?_)
 unfold R.a123
 have cd:=fun{h:Hp} {K:AV→Hp→Prop}=>u151 (h:=h) (K:=K) hs
 by_cases h0:s=[]
 ·subst h0
  have e0:isDec []=false:=by decide
  rw[e0]
  repeat' (with_reducible first|simp(disch:=first|exact okD|fail) only[go_sem,seval,List.length_nil]|(apply Spl.i<;>intro hc))
 ·have hl:0<s.length:=List.length_pos_iff.2 h0
  have hl0:¬(s.length:Int)=0:=by omega
  have eh:s.getD 0 0=s.headD 0:=by cases s<;>rfl
  by_cases h1:1<s.length
  ·have h1':(1:Int)<s.length:=by omega
   have hl':(0:Int)<s.length:=by omega
   have e1:((s.getD 0 0).toNat:Int)=48↔s.getD 0 0=48:=u8_int (n:=48) (by decide)
   by_cases h2:s.getD 0 0=48
   ·have h2':=e1.2 h2
    rw[isDec_no h1 (by rw[←eh];exact h2)]
    repeat' (with_reducible first|simp(disch:=first|exact okD|fail) only[go_sem,seval,hl0,h1',hl',h2']|(apply Spl.i<;>intro hc))
   ·have h2':=fun e=>h2 (e1.1 e)
    rw[isDec_of h0 (.inr (by rw[←eh];exact h2))]
    repeat' (with_reducible first|simp(disch:=first|exact okD|fail) only[go_sem,seval,hl0,h1',hl',h2',cd]|(apply Spl.i<;>intro hc))
  ·have h1':¬(1:Int)<s.length:=by omega
   rw[isDec_of h0 (.inl (by omega))]
   repeat' (with_reducible first|simp(disch:=first|exact okD|fail) only[go_sem,seval,hl0,h1',cd]|(apply Spl.i<;>intro hc))
theorem d124g {x y:Int} (l1:Lr 9000 x) (l2:Lr 9000 y):Gp E3 124 [.str (txtZ x++47::txtZ y)] h fun v h'=>∃va vb,v= .tup [va,vb]∧IsR h' va x∧IsR h' vb y:=by
 refine Gp.of (CallWp.fn (fn:=R.a124) rfl rfl rfl ?_)
 unfold R.a124
 have t1:=txtZ_len l1
 have t2:=txtZ_len l2
 have hsl:slashV (txtZ x++47::txtZ y)=(txtZ x).length:=by
  refine slash_at (by simp) (fun j hj e=>?_) ?_
  ·refine txtZ_no x (getD_mem (i:=j) hj ?_)
   rw[←e]
   simp only[List.getD]
   rw[List.getElem?_append_left hj]
  ·simp[List.getD]
 have hlen:(txtZ x++47::txtZ y).length=(txtZ x).length+((txtZ y).length+1):=by simp
 have cs:=fun{h:Hp} {K:AV→Hp→Prop}=>c122 (h:=h) (K:=K) (s:=txtZ x++47::txtZ y) (by omega)
 have hne:¬((txtZ x).length:Int)=((txtZ x).length+((txtZ y).length+1):Nat):=by omega
 have k1:List.take (txtZ x).length (txtZ x++47::txtZ y)=txtZ x:=List.take_left
 have e1:(((txtZ x).length:Int)+1).toNat=(txtZ x).length+1:=by omega
 have k2:List.drop ((txtZ x).length+1) (txtZ x++47::txtZ y)=txtZ y:=by
  rw[←List.drop_drop,List.drop_left];rfl
 repeat' (with_reducible first|simp(disch:=first|exact okD|fail) only[go_sem,seval,cs,hsl,hne,k1,e1,k2]|(apply Spl.i<;>intro hc))
 refine Gp.wp (d207z l1 (by decide)) fun v5 k5 a5 b5 u5 I5=>?_
 obtain⟨w5,rfl,p5,I5⟩:=I5.ex
 repeat' (with_reducible first|simp(disch:=first|exact okD|fail) only[go_sem,seval,p5,k1,e1,k2]|(apply Spl.i<;>intro hc))
 refine Gp.wp (d207z l2 (by decide)) fun v6 k6 a6 b6 u6 I6=>?_
 obtain⟨w6,rfl,p6,I6⟩:=I6.ex
 have I5':=I5.grs (⟨_,_,u6⟩:Grs _ ((((h.push fun st=> .row [.bool false,.nils] true st).push fun st=> .row [.bool false,.nils] true st).ov k5 u5).ov k6 u6))
 repeat' (with_reducible first|simp(disch:=first|exact okD|fail) only[go_sem,seval,p5,p6]|(apply Spl.i<;>intro hc))
 refine⟨⟨_,_,rfl,?_,?_⟩,?_⟩
 ·exact(I5'.putB (by simp(disch:=first|exact okD|fail) only[go_sem,seval,isCellB_row])).putB (by simp(disch:=first|exact okD|fail) only[go_sem,seval,isCellB_row])
 ·exact(I6.putB (by simp(disch:=first|exact okD|fail) only[go_sem,seval,isCellB_row])).putB (by simp(disch:=first|exact okD|fail) only[go_sem,seval,isCellB_row])
 ·exact okG
theorem Lr_dec {l:List UInt8} (hd:isDec l=true) (hl:l.length≤600):Lr 67 (decV l:Nat):=by
 unfold Lr
 rw[Int.natAbs_natCast]
 have h1:=decV_lt (isDec_cases hd).2.1
 have h2:(10:Nat)^l.length≤10^603:=Nat.pow_le_pow_right (by decide) (by omega)
 have h3:(10:Nat)^603=1000000000^67:=by rw[show(1000000000:Nat)=10^9 from rfl,←Nat.pow_mul]
 omega
theorem num_len (s:List UInt8):(numU s).length=slashV (unS s):=by
 have:=slash_le (unS s)
 unfold numU;rw[List.length_take];omega
theorem den_len (s:List UInt8):(denU s).length=(unS s).length-(slashV (unS s)+1):=by
 unfold denU;rw[List.length_drop]
theorem chk_rest {N D t:List UInt8} {k:Nat} {bk:Bool} (h3:val tm (.t 3)= .str t) (h4:val tm (.t 4)= .int .i64 k) (hl:t.length≤1000000) (hk:k≤t.length) (nl:N.length=k) (dl:D.length=t.length-(k+1))
  (k2:List.drop (k+1) t=D) (ebrk:bk=decide (k<t.length)) (hsp:bk=true→t=N++47::D) (hdn:isDec N=true):
  Wp E3 (ACode.post 2 (ACode.post 3 R.a19.code)) ⟨tm,h⟩ (RetQ [.tmp 2] fun v h'=>(v= .int .i64 (if(true&&true&&(!bk||(isDec D&&decide (D≠[48])&&decide (D≠[49]))))=false then 1 else if 600<N.length∨600<D.length then 4 else if bk=true∧Nat.gcd (decV N) (decV D)≠1 then 1 else 0))∧Grs h h'):=by
 have e1:((k:Int)+1).toNat=k+1:=by omega
 have cd:=fun{h:Hp} {K:AV→Hp→Prop}=>u123 (h:=h) (K:=K) (s:=D) (by omega)
 subst ebrk
 unfold R.a19
 dsimp only[ACode.post]
 by_cases hb:k<t.length
 ·have hb' : (k :Int)<t.length:=by omega
  have hb1:(k:Int)+1≤t.length:=by omega
  rw[decide_eq_true hb]
  cases hdd:isDec D with
  | false=>
   rw[hdd]at cd
   repeat' (with_reducible first|simp(disch:=first|exact okD|fail) only[go_sem,seval,h3,h4,hb',hb1,e1,k2,cd]|(apply Spl.i<;>intro hc))
   simp
  | true=>
   rw[hdd]at cd
   by_cases g0:D=[48]
   ·rw[g0]at cd
    repeat' (with_reducible first|simp(disch:=first|exact okD|fail) only[go_sem,seval,h3,h4,hb',hb1,e1,k2,cd,g0]|(apply Spl.i<;>intro hc))
    simp
   ·by_cases g1:D=[49]
    ·have g1':¬([49]:List UInt8)=[48]:=by decide
     rw[g1]at g0 cd
     repeat' (with_reducible first|simp(disch:=first|exact okD|fail) only[go_sem,seval,h3,h4,hb',hb1,e1,k2,cd,g1,g0]|(apply Spl.i<;>intro hc))
     simp
    ·have ef :(true&&true&&(!true||(true&&decide (D≠[48])&&decide (D≠[49]))))=true:=by simp[g0,g1]
     rw[ef,if_neg (by decide)]
     by_cases hL:600<N.length∨600<D.length
     ·rw[if_pos hL]
      by_cases hLn:600<k
      ·have hLn':(600:Int)<k:=by omega
       repeat' (with_reducible first|simp(disch:=first|exact okD|fail) only[go_sem,seval,h3,h4,hb',hb1,e1,k2,cd,g0,g1,hLn']|(apply Spl.i<;>intro hc))
      ·have hLn':¬(600:Int)<k:=by omega
       have hLd':(600:Int)<(t.length:Int)-k-1:=by omega
       repeat' (with_reducible first|simp(disch:=first|exact okD|fail) only[go_sem,seval,h3,h4,hb',hb1,e1,k2,cd,g0,g1,hLn',hLd']|(apply Spl.i<;>intro hc))
     ·rw [if_neg hL]
      have hLn':¬(600:Int)<k:=by omega
      have hLd':¬(600:Int)<(t.length:Int)-k-1:=by omega
      have lN:=Lr_dec hdn (by omega)
      have lD:=Lr_dec hdd (by omega)
      have et:t=txtZ (decV N:Nat)++47::txtZ (decV D:Nat):=by
       rw[txtZ_nat,txtZ_nat,isDec_eq hdn,isDec_eq hdd]
       exact hsp (decide_eq_true hb)
      have cp:=fun h=>d124g (h:=h) (lN.mono (by decide:67≤9000)) (lD.mono (by decide:67≤9000))
      rw[←et]at cp
      repeat' (with_reducible first|simp(disch:=first|exact okD|fail) only[go_sem,seval,h3,h4,hb',hb1,e1,k2,cd,g0,g1,hLn',hLd']|(apply Spl.i<;>intro hc))
      refine Gp.wp (cp _) fun v5 k5 a5 b5 u5 ⟨va,vb,e5,I5,I6⟩=>?_
      subst e5
      obtain⟨w5,rfl,p5,I5⟩:=I5.ex
      obtain⟨w6,rfl,p6,I6⟩:=I6.ex
      obtain⟨l1,S1,D1,N1,V1⟩:=I5.un
      obtain⟨l2,S2,D2,N2,V2⟩:=I6.un
      have m1:=lN.len N1 V1
      have m2:=lD.len N2 V2
      repeat' (with_reducible first|simp(disch:=first|exact okD|fail) only[go_sem,seval,p5,p6]|(apply Spl.i<;>intro hc))
      refine Gp.wp (d125 (S1.grs okG) (S2.grs okG) D1 D2 N1 N2 (by omega) (by omega)) fun v7 k7 a7 b7 u7 ⟨l7,S7,D7,N7,V7⟩=>?_
      rw[V1,V2,Int.natAbs_natCast,Int.natAbs_natCast]at V7
      have r7:=S7.rd
      have ln7:=r7.len
      have ad7:=r7.adr
      have e00:(0:Int).toNat=0:=rfl
      by_cases hg:Nat.gcd (decV N) (decV D)=1
      ·have e7:l7=[1]:=norm_inj (B:=1000000000) (by decide) D7 (Dg.cons (by decide) Dg.nil) N7 (by simp[Norm]) (by rw[V7,hg];simp[vl])
       subst e7
       have ld7:=r7.load 0 (by simp)
       simp only[List.getD_cons_zero,Nat.add_zero]at ld7
       have e1':((1:Nat):Int)=1:=rfl
       simp only[List.length_cons,List.length_nil,Nat.zero_add]at ln7
       rw[e1']at ln7 ld7
       repeat' (with_reducible first|simp(disch:=first|exact okD|fail) only[go_sem,seval,ln7,ad7,e00,ld7,e1']|(apply Spl.i<;>intro hc))
       refine⟨by simp[hg],?_⟩
       exact okG
      ·by_cases hl7:l7.length=1
       ·obtain⟨d,rfl⟩:∃d,l7=[d]:=by
         match l7,hl7 with
         |[d],_=>exact⟨d,rfl⟩
        have ed:vl 1000000000 [d]=d:=by simp[vl]
        rw[ed]at V7
        have ld7:=r7.load 0 (by simp)
        simp only[List.getD_cons_zero,Nat.add_zero]at ld7
        have e1':((1:Nat):Int)=1:=rfl
        simp only[List.length_cons,List.length_nil,Nat.zero_add]at ln7
        rw[e1']at ln7
        have hd1:¬(d:Int)=1:=by omega
        repeat' (with_reducible first|simp(disch:=first|exact okD|fail) only[go_sem,seval,ln7,ad7,e00,ld7,hd1]|(apply Spl.i<;>intro hc))
        refine⟨by simp[hg],?_⟩
        exact okG
       ·have hl7':¬(l7.length:Int)=1:=by omega
        repeat' (with_reducible first|simp(disch:=first|exact okD|fail) only[go_sem,seval,ln7,hl7']|(apply Spl.i<;>intro hc))
        refine⟨by simp[hg],?_⟩
        exact okG
 ·have hb':¬(k:Int)<t.length:=by omega
  have hkt:k=t.length:=by omega
  rw[decide_eq_false hb]
  have ef:(true&&true&&(!false||(isDec D&&decide (D≠[48])&&decide (D≠[49]))))=true:=by simp
  rw[ef,if_neg (by decide)]
  by_cases hL:600<N.length∨600<D.length
  ·rw[if_pos hL]
   have hLn':(600:Int)<k:=by omega
   repeat' (with_reducible first|simp(disch:=first|exact okD|fail) only[go_sem,seval,h3,h4,hb',hLn']|(apply Spl.i<;>intro hc))
  ·rw[if_neg hL]
   have hLn':¬(600:Int)<k:=by omega
   have hLd':¬(600:Int)<(t.length:Int)-k-1:=by omega
   repeat' (with_reducible first|simp(disch:=first|exact okD|fail) only[go_sem,seval,h3,h4,hb',hLn',hLd']|(apply Spl.i<;>intro hc))
   simp
theorem chk_tail {s:List UInt8} (h0:val tm (.t 0)= .str s) (h3:val tm (.t 3)= .str (unS s)) (hl:(unS s).length≤1000000):
  Wp E3 (R.a19.code.post 3) ⟨tm,h⟩ (RetQ [.tmp 2] fun v h'=>v= .int .i64 (checkV s)∧Grs h h'):=by
 have hk:=slash_le (unS s)
 have nl:=num_len s
 have dl:=den_len s
 have cs:=fun{h:Hp} {K:AV→Hp→Prop}=>c122 (h:=h) (K:=K) (s:=unS s) (by omega)
 have cn:=fun{h:Hp} {K:AV→Hp→Prop}=>u123 (h:=h) (K:=K) (s:=numU s) (by omega)
 have cd:=fun{h:Hp} {K:AV→Hp→Prop}=>u123 (h:=h) (K:=K) (s:=denU s) (by omega)
 have e1:((slashV (unS s):Int)+1).toNat=slashV (unS s)+1:=by omega
 have k1:List.take (slashV (unS s)) (unS s)=numU s:=rfl
 have k2:List.drop (slashV (unS s)+1) (unS s)=denU s:=rfl
 have hkk:(slashV (unS s):Int)≤(unS s).length:=by omega
 have hsp:brk s=true→unS s=numU s++47::denU s:=fun c=>slash_split (by unfold brk at c;exact of_decide_eq_true c)
 have ebrk:brk s=decide (slashV (unS s)<(unS s).length):=rfl
 obtain⟨k,hkd⟩:∃k,k=slashV (unS s):=⟨_,rfl⟩
 obtain⟨t,ht⟩:∃t,t=unS s:=⟨_,rfl⟩
 obtain⟨N,hN⟩:∃N,N=numU s:=⟨_,rfl⟩
 obtain⟨D,hD⟩:∃D,D=denU s:=⟨_,rfl⟩
 have ecv:checkV s=if formS s=false then 1 else if 600<N.length∨600<D.length then 4 else if brk s=true∧Nat.gcd (decV N) (decV D)≠1 then 1 else 0:=by rw[hN,hD];rfl
 have efm:formS s=(isDec N&&(!(decide (s.head?=some 45))||decide (N≠[48]))&&(!(brk s)||(isDec D&&decide (D≠[48])&&decide (D≠[49])))):=by rw[hN,hD];rfl
 rw[←hkd]at cs e1 k1 k2 hkk nl dl hk ebrk
 rw[←ht]at cs k1 k2 hkk dl hk h3 hsp ebrk hl
 rw[←hN]at k1 cn nl hsp
 rw[←hD]at k2 cd dl hsp
 have rest:=fun tm h3 h4 hdn=>chk_rest (h:=h) (tm:=tm) (N:=N) (D:=D) (t:=t) (k:=k) (bk:=brk s) h3 h4 hl hk nl dl k2 ebrk hsp hdn
 refine Wp.cut 2 rfl ?_
 generalize ACode.post 2 (ACode.post 3 R.a19.code)=rc at rest⊢
 unfold R.a19
 dsimp only[ACode.post,ACode.pre]
 rw[ecv,efm]
 cases hdn:isDec N with
 | false=>
  rw[hdn]at cn
  repeat' (with_reducible first|simp(disch:=first|exact okD|fail) only[go_sem,seval,h0,h3,cs,cn,k1,hkk]|(apply Spl.i<;>intro hc))
  simp
 | true=>
  rw[hdn]at cn
  have hN0:=(isDec_cases hdn).1
  have hNl:0<N.length:=List.length_pos_iff.2 hN0
  have hs0:s≠[]:=by
   rintro rfl
   have:t=[]:=by rw[ht];rfl
   rw[this]at hk
   simp at hk;omega
  have hsl:(0:Int)<s.length:=by have:=List.length_pos_iff.2 hs0;omega
  have e45:((s.getD 0 0).toNat:Int)=45↔s.head?=some 45:=by
   refine(u8_int (b:=s.getD 0 0) (n:=45) (by decide)).trans ?_
   match s,hs0 with
   | c::l,_=>
    show c=45↔some c=some 45
    simp
  have first:(s.head?=some 45∧N=[48])∨¬(s.head?=some 45∧N=[48]):=Classical.em _
  rcases first with⟨f1,f2⟩|f
  ·have f1':=e45.2 f1
   rw[f2]at cn
   repeat' (with_reducible first|simp(disch:=first|exact okD|fail) only[go_sem,seval,h0,h3,cs,cn,k1,hkk,hsl,f1',f2]|(apply Spl.i<;>intro hc))
   simp[f1,f2]
  ·have en:(!(decide (s.head?=some 45))||decide (N≠[48]))=true:=by
    by_cases f1:s.head?=some 45
    ·have:N≠[48]:=fun e=>f ⟨f1,e⟩
     simp[this]
    ·simp[f1]
   rw[en]
   by_cases f1:s.head?=some 45
   ·have f1':=e45.2 f1
    have f2:¬N=[48]:=fun e=>f ⟨f1,e⟩
    repeat' (with_reducible first|simp(disch:=first|exact okD|fail) only[go_sem,seval,h0,h3,cs,cn,k1,hkk,hsl,f1',f2]|(apply Spl.i<;>intro hc))
    exact rest _ (by simp(disch:=first|exact okD|fail) only[go_sem,seval,h3]) (by simp(disch:=first|exact okD|fail) only[go_sem,seval]) hdn
   ·have f1':=fun e=>f1 (e45.1 e)
    repeat' (with_reducible first|simp(disch:=first|exact okD|fail) only[go_sem,seval,h0,h3,cs,cn,k1,hkk,hsl,f1']|(apply Spl.i<;>intro hc))
    exact rest _ (by simp(disch:=first|exact okD|fail) only[go_sem,seval,h3]) (by simp(disch:=first|exact okD|fail) only[go_sem,seval]) hdn
theorem d19 {s:List UInt8} (hl:s.length≤1000000):Gv E3 19 [.str s] h (.int .i64 (checkV s)):=by
 have hu:(unS s).length≤1000000:=by
  unfold unS;split
  ·rw[List.length_drop];omega
  ·exact hl
 refine Gv.of (CallWp.fn (fn:=R.a19) rfl rfl rfl ?_)
 have tail:=fun tm h0 h3=>chk_tail (h:=h) (tm:=tm) (s:=s) h0 h3 hu
 refine Wp.cut 3 rfl ?_
 generalize ACode.post 3 R.a19.code=rc at tail⊢
 unfold R.a19
 dsimp only[ACode.pre]
 cases s with
 | nil=>
  repeat' (with_reducible first|simp(disch:=first|exact okD|fail) only[go_sem,seval,List.length_nil]|(apply Spl.i<;>intro hc))
  exact tail _ (by simp(disch:=first|exact okD|fail) only[go_sem,seval]) (by(simp(disch:=first|exact okD|fail) only[go_sem,seval])<;>rfl)
 | cons c l=>
  have hsl:(0:Int)<((c::l:List UInt8).length:Int):=by simp
  have hsl1:(1:Int)≤((c::l:List UInt8).length:Int):=by rw[List.length_cons];omega
  have e45:(((c::l).getD 0 0).toNat:Int)=45↔c=45:=u8_int (n:=45) (by decide)
  by_cases f1:c=45
  ·have f1':=e45.2 f1
   have eu:unS (c::l)=(c::l).drop 1:=by unfold unS;rw[if_pos (by simpa using f1)]
   repeat' (with_reducible first|simp(disch:=first|exact okD|fail) only[go_sem,seval,hsl,hsl1,f1']|(apply Spl.i<;>intro hc))
   exact tail _ (by simp(disch:=first|exact okD|fail) only[go_sem,seval]) (by(simp(disch:=first|exact okD|fail) only[go_sem,seval])<;>rw[eu]<;>rfl)
  ·have f1':=fun e=>f1 (e45.1 e)
   have eu:unS (c::l)=c::l:=by unfold unS;rw[if_neg (by simpa using f1)]
   repeat' (with_reducible first|simp(disch:=first|exact okD|fail) only[go_sem,seval,hsl,hsl1,f1']|(apply Spl.i<;>intro hc))
   exact tail _ (by simp(disch:=first|exact okD|fail) only[go_sem,seval]) (by(simp(disch:=first|exact okD|fail) only[go_sem,seval])<;>rw[eu])
end
end
end Go.Ae
set_option linter.unusedVariables false
set_option linter.unusedSimpArgs false
set_option maxRecDepth 100000
set_option exponentiation.threshold 1000
set_option maxHeartbeats 2000000
namespace Go.Ae
open Bg N Go.Proofs
noncomputable section
def valS (s:List UInt8):Rat:=Rat.divInt (sgn (decide (s.head?=some 45)) (decV (numU s))) ((if brk s=true then decV (denU s)else 1:Nat):Int)
theorem valS_txt (r:Rat):valS (txtR r)=r:=by
 unfold valS
 rw[numU_txt,denU_txt,brk_txt,decP_val]
 have e1:decide ((txtR r).head?=some 45)=decide (r.num<0):=decide_eq_decide.2 (txtR_head r)
 have e2:sgn (decide (r.num<0)) r.num.natAbs=r.num:=by
  unfold sgn
  by_cases c:r.num<0
  ·rw[decide_eq_true c,if_pos rfl];omega
  ·rw[decide_eq_false c,if_neg (by decide)];omega
 have e3:(if decide (r.den≠1)=true then decV (if r.den=1 then[]else decP r.den 1)else 1)=r.den:=by
  by_cases c:r.den=1
  ·simp[c]
  ·rw[if_pos (decide_eq_true c),if_neg c,decP_val]
 rw[e1,e2,e3,Rat.num_divInt_den]
theorem txtR_valS {s:List UInt8} (h:checkV s=0):s=txtR (valS s)∧okR (valS s)=true:=by
 obtain⟨r,rfl,hr⟩:=checkV_zero h
 rw[valS_txt];exact⟨rfl,hr⟩
theorem ok_Br {r:Rat} (h:okR r=true):Br 67 r:=by
 unfold okR at h
 obtain⟨h1,h2⟩:=of_decide_eq_true h
 have h3:(10:Nat)^600≤10^603:=Nat.pow_le_pow_right (by decide) (by decide)
 have h4:(10:Nat)^603=1000000000^67:=by rw[show(1000000000:Nat)=10^9 from rfl,←Nat.pow_mul]
 unfold Br Lr
 rw[Int.natAbs_natCast]
 omega
theorem txtR_int (z:Int):txtR (z:Rat)=txtZ z:=by
 unfold txtR
 rw[Rat.den_intCast,if_pos rfl,Rat.num_intCast]
theorem txtR_zero:txtR 0=[48]:=by decide+kernel
theorem sgR_le {a b:Rat}:sgR (a-b)≤0↔a≤b:=by
 have h2:0≤(b-a).num↔0≤b-a:=Rat.num_nonneg
 have h3:(b-a).num= -(a-b).num:=by rw[show b-a= -(a-b) from(Rat.neg_sub a b).symm];rfl
 rw[Rat.le_iff_sub_nonneg,←h2,h3]
 unfold sgR
 by_cases c:(a-b).num<0
 ·rw[if_pos c];omega
 ·rw[if_neg c]
  by_cases d:(a-b).num=0
  ·rw[if_pos d];omega
  ·rw[if_neg d];omega
theorem sgR_neg (a:Rat):sgR (-a)= -sgR a:=by
 unfold sgR
 rw[show(-a).num= -a.num from rfl]
 by_cases c:a.num<0
 ·rw[if_pos c,if_neg (by omega),if_neg (by omega)];rfl
 ·rw[if_neg c]
  by_cases d:a.num=0
  ·rw[if_pos d,if_neg (by omega),if_pos (by omega)];rfl
  ·rw[if_neg d,if_pos (by omega)]
theorem sgR_ge {a b:Rat}:0≤sgR (a-b)↔b≤a:=by
 rw[←sgR_le (a:=b) (b:=a),show b-a= -(a-b) from(Rat.neg_sub a b).symm,sgR_neg];omega
theorem sgR_lt {a b:Rat}:sgR (a-b)<0↔a<b:=by
 rw[←Rat.not_le,←sgR_ge];omega
theorem sgR_gt {a b:Rat}:0<sgR (a-b)↔b<a:=by
 rw[←Rat.not_le,←sgR_le];omega
def chk2 (s u:List UInt8):Int:=if checkV s=0 then checkV u else checkV s
theorem chk2_zero {s u:List UInt8} (h:chk2 s u=0):checkV s=0∧checkV u=0:=by
 unfold chk2 at h
 by_cases c:checkV s=0
 ·rw[if_pos c]at h;exact⟨c,h⟩
 ·rw[if_neg c]at h;exact absurd h c
def spanV (s u:List UInt8):Int:=if chk2 s u=0 then(if 0<sgR (valS s-valS u)then 11 else 0)else chk2 s u
section
variable {h h' hp:Hp} {K:AV→Hp→Prop} {tm:T AV} {r a b c d:Rat}
theorem d56_2 {t:Nat} {s u:List UInt8} (hA:At h t [.str s,.str u]) (ht:t<h.next) (hs:s.length≤1000000) (hu:u.length≤1000000):Gv E3 56 [.sl t 0 2 1] h (.int .i64 (chk2 s u)):=by
 refine Gv.of (CallWp.fn (fn:=R.a56) rfl rfl rfl ?_)
 unfold R.a56 chk2
 obtain⟨st,hg⟩:=hA
 by_cases c1:checkV s=0
 ·rw[if_pos c1]
  have e1:=d19 (h:=h) hs
  rw[c1]at e1
  by_cases c2:checkV u=0
  ·rw[c2]
   repeat' (with_reducible first|simp(disch:=first|exact okD|fail) only[go_sem,seval,Wp.unroll,hg]|(refine Gv.wp (e1) fun _ _ _ _=>?_)|(apply Spl.i<;>intro hc))
   refine Gv.wp (d19 hu) fun h6 k6 j6 u6=>?_
   repeat' (with_reducible first|simp(disch:=first|exact okD|fail) only[go_sem,seval,Wp.unroll,hg,c2]|(apply Spl.i<;>intro hc))
   exact okG
  ·repeat' (with_reducible first|simp(disch:=first|exact okD|fail) only[go_sem,seval,Wp.unroll,hg]|(refine Gv.wp (e1) fun _ _ _ _=>?_)|(apply Spl.i<;>intro hc))
   refine Gv.wp (d19 hu) fun h6 k6 j6 u6=>?_
   repeat' (with_reducible first|simp(disch:=first|exact okD|fail) only[go_sem,seval,Wp.unroll,hg,c2]|(apply Spl.i<;>intro hc))
   exact okG
 ·rw[if_neg c1]
  repeat' (with_reducible first|simp(disch:=first|exact okD|fail) only[go_sem,seval,Wp.unroll,hg,c1]|(refine Gv.wp (d19 hs) fun _ _ _ _=>?_)|(apply Spl.i<;>intro hc))
  exact okG
theorem d59 {s u:List UInt8} (hs:s.length≤1000000) (hu:u.length≤1000000):Gv E3 59 [.agg [.str s,.str u]] h (.int .i64 (spanV s u)):=by
 refine Gv.of (CallWp.fn (fn:=R.a59) rfl rfl rfl ?_)
 unfold R.a59 spanV
 by_cases c1:chk2 s u=0
 ·obtain⟨z1,z2⟩:=chk2_zero c1
  obtain⟨t1,o1⟩:=txtR_valS z1
  obtain⟨t2,o2⟩:=txtR_valS z2
  have e3:=fun h=>d75 (h:=h) ((ok_Br o1).mono (by decide:67≤2000)) ((ok_Br o2).mono (by decide:67≤2000))
  rw[←t1,←t2]at e3
  rw[if_pos c1]
  by_cases c2:0<sgR (valS s-valS u)
  ·rw[if_pos c2]
   repeat' (with_reducible first|simp(disch:=first|exact okD|fail) only[go_sem,seval,c1,c2]|(refine Gv.wp (d56_2 (s:=s) (u:=u) okA okO hs hu) fun _ _ _ _=>?_)|(refine Gv.wp (e3 _) fun _ _ _ _=>?_)|(apply Spl.i<;>intro hc))
   exact okG
  ·rw[if_neg c2]
   repeat' (with_reducible first|simp(disch:=first|exact okD|fail) only[go_sem,seval,c1,c2]|(refine Gv.wp (d56_2 (s:=s) (u:=u) okA okO hs hu) fun _ _ _ _=>?_)|(refine Gv.wp (e3 _) fun _ _ _ _=>?_)|(apply Spl.i<;>intro hc))
   exact okG
 ·rw[if_neg c1]
  repeat' (with_reducible first|simp(disch:=first|exact okD|fail) only[go_sem,seval,c1]|(refine Gv.wp (d56_2 (s:=s) (u:=u) okA okO hs hu) fun _ _ _ _=>?_)|(apply Spl.i<;>intro hc))
  exact okG
theorem d68 (i:Br 2000 a) (j:Br 2000 b) (k:Br 2000 c):Gv E3 68 [.agg [.str (txtR a),.str (txtR b)],.str (txtR c)] h (.bool (decide (a≤c∧c≤b))):=by
 refine Gv.of (CallWp.fn (fn:=R.a68) rfl rfl rfl ?_)
 unfold R.a68
 have h1:=sgR_le (a:=a) (b:=c)
 have h2:=sgR_le (a:=c) (b:=b)
 by_cases c1:a≤c
 ·have c1':=h1.2 c1
  by_cases c2:c≤b
  ·have c2':=h2.2 c2
   rw[decide_eq_true ⟨c1,c2⟩]
   repeat' (with_reducible first|simp(disch:=first|exact okD|fail) only[go_sem,seval,c1',c2']|(refine Gv.wp (d75 i k) fun _ _ _ _=>?_)|(refine Gv.wp (d75 k j) fun _ _ _ _=>?_)|(apply Spl.i<;>intro hc))
   exact okG
  ·have c2':¬sgR (c-b)≤0:=fun e=>c2 (h2.1 e)
   rw[decide_eq_false (p:=a≤c∧c≤b) (fun e=>c2 e.2)]
   repeat' (with_reducible first|simp(disch:=first|exact okD|fail) only[go_sem,seval,c1',c2']|(refine Gv.wp (d75 i k) fun _ _ _ _=>?_)|(refine Gv.wp (d75 k j) fun _ _ _ _=>?_)|(apply Spl.i<;>intro hc))
   exact okG
 ·have c1':¬sgR (a-c)≤0:=fun e=>c1 (h1.1 e)
  rw[decide_eq_false (p:=a≤c∧c≤b) (fun e=>c1 e.1)]
  repeat' (with_reducible first|simp(disch:=first|exact okD|fail) only[go_sem,seval,c1']|(refine Gv.wp (d75 i k) fun _ _ _ _=>?_)|(apply Spl.i<;>intro hc))
  exact okG
end
end
end Go.Ae
set_option linter.unusedVariables false
set_option linter.unusedSimpArgs false
set_option maxRecDepth 100000
set_option maxHeartbeats 1000000
set_option exponentiation.threshold 5000
namespace Go.Ae
open Bg N Go.Proofs
noncomputable section
section
variable {h h' hp:Hp} {K:AV→Hp→Prop} {tm:T AV} {v va s w:AV} {z z':Int} {a:Rat}
theorem wd_inj {kd:IntKind}:∀{L M:List Nat},L.map (wd kd)=M.map (wd kd)→L=M
 |[],[],_=>rfl
 | x::L,y::M,e=>by
  simp only[List.map_cons,List.cons.injEq,wd,AV.int.injEq,true_and]at e
  rw[show x=y by omega,wd_inj e.2]
 |[],_::_,e=>by simp at e
 |_::_,[],e=>by simp at e
theorem Sq.uniq {t o n:Nat} {l l':List Nat} (S:Sq .u64 h (.sl t o n 1) l) (S':Sq .u64 h (.sl t o n 1) l'):l=l':=by
 rcases S with⟨e,_⟩|⟨t1,o1,own1,st1,L1,e1,g1,h1,h2,_⟩
 ·cases e
 ·rcases S' with⟨e,_⟩|⟨t2,o2,own2,st2,L2,e2,g2,h3,h4,_⟩
  ·cases e
  ·injection e1 with q1 q2 q3
   injection e2 with r1 r2 r3
   subst q1;subst q2;subst r1;subst r2
   rw[g1]at g2
   have e:=Option.some.inj g2
   injection e with e
   have:=wd_inj e
   subst this
   rw[←h2,←h4,←q3,←r3]
theorem IsI.uniq (i:IsI h s w z) (j:IsI h s w z'):z=z':=by
 rcases i with⟨rfl,rfl,_⟩|⟨n,t,o,l,rfl,S,_,_,_,_,c⟩
 ·rcases j with⟨e,_,_⟩|⟨_,_,_,_,e,_⟩
  ·injection e
  ·cases e
 ·rcases j with⟨_,e,_⟩|⟨n',t',o',l',e,S',_,_,_,_,c'⟩
  ·cases e
  ·injection e with q1 q2 q3
   subst q1;subst q2;subst q3
   have:=S.uniq S'
   subst this
   rcases c with⟨rfl,rfl⟩|⟨rfl,rfl⟩
   ·rcases c' with⟨_,rfl⟩|⟨e,_⟩
    ·rfl
    ·injection e with _ e;exact absurd e (by decide)
   ·rcases c' with⟨e,_⟩|⟨_,rfl⟩
    ·injection e with _ e;exact absurd e (by decide)
    ·rfl
theorem itoa_txtZ (n:Int):Lib.itoa n=txtZ n:=by
 unfold txtZ
 by_cases c:n<0
 ·obtain⟨u,rfl⟩:∃u:Nat,n= -(u:Int):=⟨n.natAbs,by omega⟩
  rw[if_pos c,Lib.itoa_neg u (by omega),digits_decP,Int.natAbs_neg,Int.natAbs_natCast]
 ·obtain⟨u,rfl⟩:∃u:Nat,n=(u:Int):=⟨n.natAbs,by omega⟩
  rw[if_neg c,Lib.itoa_nonneg u,digits_decP,Int.natAbs_natCast]
def p264f:Prim:=fun args h=>
 open Classical in if hx:∃z:Int,∃s w,args=[.agg [s,w]]∧IsI h s w z∧Lim 3999 z then some (.str (txtZ hx.choose),h)else none
theorem p264f_eq (i:IsI h s w z) (lz:Lim 3999 z):p264f [.agg [s,w]] h=some (.str (txtZ z),h):=by
 have hx:∃z:Int,∃s' w',[AV.agg [s,w]]=[.agg [s',w']]∧IsI h s' w' z∧Lim 3999 z:=⟨z,s,w,rfl,i,lz⟩
 unfold p264f
 rw[dif_pos hx]
 obtain⟨s',w',e,j,_⟩:=hx.choose_spec
 simp only[List.cons.injEq,AV.agg.injEq,and_true]at e
 obtain⟨rfl,rfl⟩:=e
 rw[i.uniq j]
theorem p264f_cases {args:List AV} (hv:p264f args h=some (v,h')):∃z s w,args=[.agg [s,w]]∧IsI h s w z∧Lim 3999 z∧v= .str (txtZ z)∧h'=h:=by
 unfold p264f at hv
 split at hv
 ·rename_i hx
  obtain⟨rfl,rfl⟩:=pair_inj hv
  obtain⟨s,w,e,i,l⟩:=hx.choose_spec
  exact⟨_,s,w,e,i,l,rfl,rfl⟩
 ·cases hv
def EX:Env:=E3.withR 264 p264f
theorem gqX:Gq E3 EX:=by
 refine Gq.withR (q:=p264) rfl fun args h x hx=>?_
 unfold p264 at hx
 split at hx
 ·rename_i n
  split at hx
  ·rename_i hn
   obtain rfl:=Option.some.inj hx
   rw[itoa_txtZ]
   exact p264f_eq (.inl ⟨rfl,rfl,hn⟩) ((Lim.small hn).mono (by decide))
  ·cases hx
 ·cases hx
theorem envX {W0:World} {base:Nat} (G:L.Glob W0 base):EnvOk Tryz.prog W0 base EX:=by
 refine((env2 G).add R.good).withR fun args h v h' hv=>?_
 obtain⟨z,s,w,rfl,i,l,rfl,rfl⟩:=p264f_cases hv
 refine⟨Later.refl _,fun ρ wd B R hok=>?_⟩
 rcases id i with⟨rfl,rfl,hz⟩|⟨n,t,o,li,rfl,_,_,_,_,_,c⟩
 ·have:p264 [.agg [.int .i64 z,.nils]] h'=some (.str (Lib.itoa z),h'):=if_pos hz
  rw[←itoa_txtZ]
  exact(k264 G _ _ _ _ this).2 ρ wd B R
 ·rcases c with⟨rfl,_⟩|⟨rfl,_⟩
  ·exact str_does G B R i l hok
  ·exact str_does G B R i l hok
theorem x3 {f:Nat} {args:List AV} {v:AV} (hc:Gv E3 f args h v):Gv EX f args h v:=hc.gq gqX
theorem x2 {f:Nat} {args:List AV} {v:AV} (hc:Gv E2 f args h v):Gv EX f args h v:=(gu3 hc).gq gqX
theorem xp2 {f:Nat} {args:List AV} {p:AV→Hp→Prop} (hc:Gp E2 f args h p):Gp EX f args h p:=by
 obtain⟨v,h',h1,h2,h3⟩:=hc
 exact⟨v,h',(h1.ge ge3).gq gqX,h2,h3⟩
theorem xu2 {f:Nat} {args:List AV} {h':Hp} {v:AV} (hc:∀K,CallWp E2 f args h K↔K v h'):CallWp EX f args h K↔K v h':=upq gqX fun K=>up ge3 hc
theorem x264 (i:IsI h s w z) (lz:Lim 3999 z):CallWp EX 264 [.agg [s,w]] h K↔K (.str (txtZ z)) h:=by
 rw[CallWp.prim_iff (p:=p264f) rfl rfl,p264f_eq i lz];exact Iff.rfl
theorem i199 {m:Nat} (ix:IsI h s w z) (lz:Lim m z) (hm:m≤4000):Gp E2 199 [.agg [s,w]] h fun v h'=>∃b:Nat,v= .int .i64 b∧z.natAbs<2^b∧b≤64*m:=by
 obtain⟨o1,o2⟩:=ix.one
 obtain⟨m1,rfl⟩:=ix.fst
 refine Gp.of (CallWp.fn (fn:=C.a199) rfl rfl rfl ?_)
 unfold C.a199
 repeat' (with_reducible first|simp(disch:=first|exact okD|fail) only[go_sem,seval,o1,o2]|(apply Spl.i<;>intro hc))
 refine Gp.wp (c202 (ix.grs okG)) fun v k a b u ⟨w',l,e0,S0,D0,N0,V0,L0⟩=>?_
 subst e0
 have ln:=S0.rd.len
 have ad:=S0.rd.adr
 by_cases hz:l=[]
 ·subst hz
  simp only[List.length_nil]at ln
  have e0:((0:Nat):Int)=0:=rfl
  repeat' (with_reducible first|simp(disch:=first|exact okD|fail) only[go_sem,seval,ln,e0]|(apply Spl.i<;>intro hc))
  rw[vl_nil]at V0
  refine⟨⟨0,rfl,by rw[←V0];decide,Nat.zero_le _⟩,?_⟩
  exact okG
 ·have hlp:=List.length_pos_iff.2 hz
  have hll:=lz.len N0 V0
  have ldt:=S0.rd.load (l.length-1) (by omega)
  have i1:((l.length:Int)-1).toNat=l.length-1:=by omega
  have htd:=Dg.getD (B:=18446744073709551616) (by decide) D0 (l.length-1)
  have hne:¬(l.length:Int)=0:=by omega
  have hb:=bitLen_lt (n:=l.getD (l.length-1) 0) (k:=64) htd
  have c6:=fun{h:Hp} {K:AV→Hp→Prop}=>c266 (h:=h) (K:=K) (x:=l.getD (l.length-1) 0) (by omega)
  have w1:IntKind.wrap .i64 (64*((l.length:Int)-1))=64*((l.length:Int)-1):=wrap_i64 (by omega)
  have w2:IntKind.wrap .i64 (64*((l.length:Int)-1)+(bitLen (l.getD (l.length-1) 0):Nat))=((64*(l.length-1)+bitLen (l.getD (l.length-1) 0):Nat):Int):=by rw[wrap_i64 (by omega)];omega
  repeat' (with_reducible first|simp(disch:=first|exact okD|fail) only[go_sem,seval,ln,ad,ldt,i1,hne,c6,w1,w2]|(apply Spl.i<;>intro hc))
  refine⟨⟨_,rfl,?_,by omega⟩,?_⟩
  ·have hv1:=vl_take_succ (B:=18446744073709551616) (l:=l) (i:=l.length-1) (by omega)
   rw[show l.length-1+1=l.length by omega,List.take_length]at hv1
   have hv2:=vl_lt (B:=18446744073709551616) (by decide) (D0.take (n:=l.length-1))
   rw[List.length_take,Nat.min_eq_left (by omega)]at hv2
   have hb2:=bitLen_le (Nat.le_refl (bitLen (l.getD (l.length-1) 0)))
   have e64:(18446744073709551616:Nat)^(l.length-1)=2^(64*(l.length-1)):=by rw[show(18446744073709551616:Nat)=2^64 from rfl,←Nat.pow_mul]
   rw[←V0,hv1,Nat.pow_add,←e64]
   have:18446744073709551616^(l.length-1)*(l.getD (l.length-1) 0+1)≤18446744073709551616^(l.length-1)*2^bitLen (l.getD (l.length-1) 0):=Nat.mul_le_mul_left _ hb2
   rw[Nat.mul_add,Nat.mul_one]at this
   omega
  ·exact okG
theorem x216 (ix:IsI h s w z) (lz:Lim 3999 z):Gv EX 216 [.agg [s,w]] h (.bool (decide (10^600≤z.natAbs))):=by
 obtain⟨o1,o2⟩:=ix.one
 obtain⟨m1,rfl⟩:=ix.fst
 have hp:(2:Nat)^1800≤10^600:=by decide+kernel
 refine Gv.of (CallWp.fn (fn:=C.a216) rfl rfl rfl ?_)
 unfold C.a216
 repeat' (with_reducible first|simp(disch:=first|exact okD|fail) only[go_sem,seval,o1,o2]|(apply Spl.i<;>intro hc))
 refine Gp.wp (xp2 (i199 (ix.grs okG) lz (by decide))) fun v k a b u ⟨b1,e1,hb,_⟩=>?_
 subst e1
 by_cases c:1800<b1
 ·have c':(1800:Int)<(b1:Int):=by omega
  have cS:=fun{K:AV→Hp→Prop}=>x264 (K:=K) ((ix.grs okG:IsI ((h.push fun t=> .row [.int .i64 m1,w] true t).ov k u) (.int .i64 m1) w z)) lz
  have cU:=fun{h:Hp} {K:AV→Hp→Prop}=>xu2 (h:=h) (K:=K) fun K=>u259 (s:=txtZ z) (h:=h) (K:=K)
  have eu:unS (txtZ z)=decP z.natAbs 1:=by
   have:=unS_txt (z:Rat)
   rw[txtR_int]at this
   rw[this];unfold absR
   rw[Rat.den_intCast,Rat.num_intCast,if_pos rfl]
  rw[eu]at cU
  have hd:=decP_ge (n:=z.natAbs)
  by_cases d:10^600≤z.natAbs
  ·have d':(600:Int)<(decP z.natAbs 1).length:=by
    have:¬(decP z.natAbs 1).length≤600:=fun e=>by have:=hd.1 e;omega
    omega
   rw[decide_eq_true d]
   repeat' (with_reducible first|simp(disch:=first|exact okD|fail) only[go_sem,seval,o1,o2,c',cS,cU,d']|(apply Spl.i<;>intro hc))
   exact okG
  ·have d':¬(600:Int)<(decP z.natAbs 1).length:=by
    have:=hd.2 (by omega)
    omega
   rw[decide_eq_false d]
   repeat' (with_reducible first|simp(disch:=first|exact okD|fail) only[go_sem,seval,o1,o2,c',cS,cU,d']|(apply Spl.i<;>intro hc))
   exact okG
 ·have c':¬(1800:Int)<(b1:Int):=by omega
  have d:¬10^600≤z.natAbs:=by
   have:(2:Nat)^b1≤2^1800:=Nat.pow_le_pow_right (by decide) (by omega)
   omega
  rw[decide_eq_false d]
  repeat' (with_reducible first|simp(disch:=first|exact okD|fail) only[go_sem,seval,o1,o2,c']|(apply Spl.i<;>intro hc))
  exact okG
theorem okR_not {a:Rat}:(decide (10^600≤a.num.natAbs)||decide (10^600≤(a.den:Int).natAbs))= !(okR a):=by
 unfold okR
 rw[Int.natAbs_natCast]
 by_cases c1:a.num.natAbs<10^600
 ·by_cases c2:a.den<10^600
  ·rw[decide_eq_false (by omega),decide_eq_false (by omega),decide_eq_true ⟨c1,c2⟩];rfl
  ·rw[decide_eq_true (p:=10^600≤a.den) (by omega),decide_eq_false (p:=a.num.natAbs<10^600∧a.den<10^600) (fun e=>c2 e.2),Bool.or_true];rfl
 ·rw[decide_eq_true (p:=10^600≤a.num.natAbs) (by omega),decide_eq_false (p:=a.num.natAbs<10^600∧a.den<10^600) (fun e=>c1 e.1),Bool.true_or];rfl
theorem x140 (ia:IsF h va a) (la:Bd 3999 a):Gv EX 140 [va] h (.bool (!(okR a))):=by
 obtain⟨n1,w1,n2,w2,rfl,o1,o2,I1,I2⟩:=ia.ex
 refine Gv.of (CallWp.fn (fn:=C.a140) rfl rfl rfl ?_)
 unfold C.a140
 rw[←okR_not]
 repeat' (with_reducible first|simp(disch:=first|exact okD|fail) only[go_sem,seval,o1,o2]|(apply Spl.i<;>intro hc))
 refine Gv.wp (x216 (I1.grs okG) la.1) fun h1 k1 j1 u1=>?_
 by_cases d:10^600≤a.num.natAbs
 ·rw[decide_eq_true d]
  repeat' (with_reducible first|simp(disch:=first|exact okD|fail) only[go_sem,seval,o1,o2]|(apply Spl.i<;>intro hc))
  refine⟨by simp,?_⟩
  exact okG
 ·rw[decide_eq_false d]
  repeat' (with_reducible first|simp(disch:=first|exact okD|fail) only[go_sem,seval,o1,o2]|(apply Spl.i<;>intro hc))
  refine Gv.wp (x216 (I2.grs okG) la.2) fun h2 k2 j2 u2=>?_
  repeat' (with_reducible first|simp(disch:=first|exact okD|fail) only[go_sem,seval,o1,o2]|(apply Spl.i<;>intro hc))
  refine⟨by simp,?_⟩
  exact okG
theorem x196 (ia:IsF h va a) (la:Bd 3999 a) (hl:(txtR a).length≤1000000):Gv EX 196 [va] h (.str (txtR a)):=by
 obtain⟨n1,w1,n2,w2,e,o1,o2,I1,I2⟩:=id ia.ex
 refine Gv.of (CallWp.fn (fn:=C.a196) rfl rfl rfl ?_)
 unfold C.a196
 subst e
 repeat' (with_reducible first|simp(disch:=first|exact okD|fail) only[go_sem,seval,o1,o2]|(apply Spl.i<;>intro hc))
 refine Gv.wp (x2 (i241 (ia.grs okG))) fun h1 k1 j1 u1=>?_
 have cS:=fun{h':Hp} {K:AV→Hp→Prop} (g:Grs h h')=>x264 (h:=h') (K:=K) (I1.grs g) la.1
 have cT:=fun{h':Hp} {K:AV→Hp→Prop} (g:Grs h h')=>x264 (h:=h') (K:=K) (I2.grs g) la.2
 by_cases d:(a.den:Int)=1
 ·have et:txtR a=txtZ a.num:=if_pos (by omega)
  rw[et]
  have c1:=fun{K:AV→Hp→Prop}=>cS (h':=(h.push fun t=> .row [.int .i64 n1,w1,.int .i64 n2,w2] true t).ov h1 u1) (K:=K) okG
  repeat' (with_reducible first|simp(disch:=first|exact okD|fail) only[go_sem,seval,o1,o2,d,c1]|(apply Spl.i<;>intro hc))
  exact okG
 ·have et:txtR a=txtZ a.num++47::txtZ a.den:=if_neg (by omega)
  rw[et]at hl⊢
  rw[List.length_append,List.length_cons]at hl
  have c1:=fun{K:AV→Hp→Prop}=>cS (h':=(h.push fun t=> .row [.int .i64 n1,w1,.int .i64 n2,w2] true t).ov h1 u1) (K:=K) okG
  have c2:=fun{K:AV→Hp→Prop}=>cT (h':=(h.push fun t=> .row [.int .i64 n1,w1,.int .i64 n2,w2] true t).ov h1 u1) (K:=K) okG
  repeat' (with_reducible first|simp(disch:=first|exact okD|fail) only[go_sem,seval,o1,o2,d,c1,c2]|(apply Spl.i<;>intro hc))
  refine⟨by simp,?_⟩
  exact okG
end
end
end Go.Ae
set_option maxRecDepth 100000
namespace Go.Ae.F
open AOp Opd C
def tab:T AFn:= .nil
section
open Go.Proofs
theorem all:T.Forall Chk tab (fun n=>n):=trivial
theorem good (n:Nat) (a:AFn) (h:tab.get n=some a):chk Tryz.prog n=some a:=T.get_forall tab (fun n=>n) all n a h
end
end Go.Ae.F
set_option linter.unusedVariables false
set_option linter.unusedSimpArgs false
set_option maxRecDepth 100000
set_option maxHeartbeats 1000000
set_option exponentiation.threshold 5000
namespace Go.Ae
open Bg N Go.Proofs
noncomputable section
section
variable {h h' hp:Hp} {K:AV→Hp→Prop} {tm:T AV} {v va vb s w:AV} {z z':Int} {a b c r:Rat}
theorem unS_txtZ (z:Int):unS (txtZ z)=decP z.natAbs 1:=by
 have:=unS_txt (z:Rat)
 rw[txtR_int]at this
 rw[this];unfold absR
 rw[Rat.den_intCast,Rat.num_intCast,if_pos rfl]
theorem head_txtZ (z:Int):decide ((txtZ z).head?=some 45)=decide (z<0):=by
 have:=txtR_head (z:Rat)
 rw[txtR_int,Rat.num_intCast]at this
 exact decide_eq_decide.2 this
theorem i191z (hz:z.natAbs<10^600):Gp E2 191 [.str (txtZ z)] h fun v h'=>IsV h' v z:=by
 have hl:=decP_ge.2 hz
 have:=i191 (h:=h) (s:=txtZ z) (unS_txtZ z) (decP_all _ _) (by omega)
 rw[head_txtZ,sgn_txt]at this
 exact this
theorem i111 (hr:okR r=true):Gp E2 111 [.str (txtR r)] h fun v h'=>IsF h' v r:=by
 have ok:=hr
 unfold okR at ok
 obtain⟨h1,h2⟩:=of_decide_eq_true ok
 obtain⟨b1,b2⟩:=ok_Br hr
 obtain⟨t1,t2⟩:=txtR_le b1 b2
 have hs:=slash_txt r
 refine Gp.of (CallWp.fn (fn:=C.a111) rfl rfl rfl ?_)
 unfold C.a111
 have cc:=fun{h:Hp} {K:AV→Hp→Prop}=>u147 (h:=h) (K:=K) (s:=txtR r) (by omega)
 rw[hs]at cc
 by_cases d:r.den=1
 ·have et:txtR r=txtZ r.num:=if_pos d
  rw[et]at cc⊢
  rw[List.take_length,decide_eq_false (by omega)]at cc
  repeat' (with_reducible first|simp(disch:=first|exact okD|fail) only[go_sem,seval,cc]|(apply Spl.i<;>intro hc))
  refine Gp.wp (i191z h1) fun v1 k1 a1 b1 u1 I1=>?_
  obtain⟨m1,w1,rfl,p1,I1⟩:=I1.ex2
  repeat' (with_reducible first|simp(disch:=first|exact okD|fail) only[go_sem,seval,p1]|(apply Spl.i<;>intro hc))
  refine Gp.wp (i183 I1) fun v2 k2 a2 b2 u2 I2=>?_
  obtain⟨n1,w3,n2,w4,rfl,o1,o2,I3,I4⟩:=I2.ex
  obtain⟨e1,e2⟩:=divInt_one (p:=r.num)
  rw[e1]at I3
  rw[e2]at I4
  repeat' (with_reducible first|simp(disch:=first|exact okD|fail) only[go_sem,seval,o1,o2]|(apply Spl.i<;>intro hc))
  refine⟨⟨_,_,_,_,rfl,?_,?_⟩,?_⟩
  ·exact I3.putI (by simp(disch:=first|exact okD|fail) only[go_sem,seval,isCell_row])
  ·rw[d];exact I4.putI (by simp(disch:=first|exact okD|fail) only[go_sem,seval,isCell_row])
  ·exact okG
 ·have et:txtR r=txtZ r.num++47::txtZ r.den:=if_neg d
  have k1:List.take (txtZ r.num).length (txtR r)=txtZ r.num:=by rw[et];exact List.take_left
  have k2:List.drop ((txtZ r.num).length+1) (txtR r)=txtZ r.den:=by rw[et,←List.drop_drop,List.drop_left];rfl
  rw[k1,k2,decide_eq_true (by rw[et];simp)]at cc
  repeat' (with_reducible first|simp(disch:=first|exact okD|fail) only[go_sem,seval,cc]|(apply Spl.i<;>intro hc))
  refine Gp.wp (i191z h1) fun v1 k1 a1 b1 u1 I1=>?_
  obtain⟨m1,w1,rfl,p1,I1⟩:=I1.ex2
  repeat' (with_reducible first|simp(disch:=first|exact okD|fail) only[go_sem,seval,p1]|(apply Spl.i<;>intro hc))
  refine Gp.wp (i191z (z:=(r.den:Int)) (by rw[Int.natAbs_natCast];exact h2)) fun v2 k2 a2 b2 u2 I2=>?_
  obtain⟨m2,w2,rfl,p2,I2⟩:=I2.ex2
  have I1':=I1.ov (g:=u2)
  have fl:=fill22 (n:=m1) (n':=m2) p1 p2
  repeat' (with_reducible first|simp(disch:=first|exact okD|fail) only[go_sem,seval,p1,p2,fl]|(apply Spl.i<;>intro hc))
  refine⟨⟨_,_,_,_,rfl,?_,?_⟩,?_⟩
  ·exact I1'.putI (by simp(disch:=first|exact okD|fail) only[go_sem,seval,isCell_row])
  ·exact I2.putI (by simp(disch:=first|exact okD|fail) only[go_sem,seval,isCell_row])
  ·exact okG
theorem i136_2 {t:Nat} {s u:List UInt8} (hA:At h t [.str s,.str u]) (ht:t<h.next) (hs:s.length≤1000000) (hu:u.length≤1000000):Gv E2 136 [.sl t 0 2 1] h (.int .i64 (chk2 s u)):=by
 refine Gv.of (CallWp.fn (fn:=C.a136) rfl rfl rfl ?_)
 unfold C.a136 chk2
 obtain⟨st,hg⟩:=hA
 by_cases c1:checkV s=0
 ·rw[if_pos c1]
  have e1:=i101 (h:=h) hs
  rw[c1]at e1
  by_cases c2:checkV u=0
  ·rw[c2]
   repeat' (with_reducible first|simp(disch:=first|exact okD|fail) only[go_sem,seval,Wp.unroll,hg]|(refine Gv.wp (e1) fun _ _ _ _=>?_)|(apply Spl.i<;>intro hc))
   refine Gv.wp (i101 hu) fun h6 k6 j6 u6=>?_
   repeat' (with_reducible first|simp(disch:=first|exact okD|fail) only[go_sem,seval,Wp.unroll,hg,c2]|(apply Spl.i<;>intro hc))
   exact okG
  ·repeat' (with_reducible first|simp(disch:=first|exact okD|fail) only[go_sem,seval,Wp.unroll,hg]|(refine Gv.wp (e1) fun _ _ _ _=>?_)|(apply Spl.i<;>intro hc))
   refine Gv.wp (i101 hu) fun h6 k6 j6 u6=>?_
   repeat' (with_reducible first|simp(disch:=first|exact okD|fail) only[go_sem,seval,Wp.unroll,hg,c2]|(apply Spl.i<;>intro hc))
   exact okG
 ·rw[if_neg c1]
  repeat' (with_reducible first|simp(disch:=first|exact okD|fail) only[go_sem,seval,Wp.unroll,hg,c1]|(refine Gv.wp (i101 hs) fun _ _ _ _=>?_)|(apply Spl.i<;>intro hc))
  exact okG
theorem Bd_ok {r:Rat} (h:okR r=true):Bd 110 r:=by
 unfold okR at h
 obtain⟨h1,h2⟩:=of_decide_eq_true h
 have l2:Lim 110 (r.den:Int):=Lim_dec h2 (by decide)
 have l1:Lim 110 ((r.num.natAbs:Nat):Int):=Lim_dec h1 (by decide)
 exact⟨l1.le (by rw[Int.natAbs_natCast];exact Nat.le_refl _),l2⟩
end
def EF:Env:=EX.add F.tab
theorem geF:Ge EX EF:=Ge.add _ _
section
variable {h h' hp:Hp} {K:AV→Hp→Prop} {tm:T AV} {v va vb s w:AV} {z z':Int} {a b c r:Rat}
theorem f0 {f:Nat} {args:List AV} {v:AV} (hc:Gv EX f args h v):Gv EF f args h v:=hc.ge fun _ _ _ hk=>hk.ge geF
theorem f3 {f:Nat} {args:List AV} {v:AV} (hc:Gv E3 f args h v):Gv EF f args h v:=f0 (x3 hc)
theorem f2 {f:Nat} {args:List AV} {v:AV} (hc:Gv E2 f args h v):Gv EF f args h v:=f0 (x2 hc)
theorem fu2 {f:Nat} {args:List AV} {h':Hp} {v:AV} (hc:∀K,CallWp E2 f args h K↔K v h'):CallWp EF f args h K↔K v h':=up geF fun K=>xu2 hc
theorem len_of {n:Nat} {c:Rat} (hb:Bd n c) (hn:n≤400):Bd 3999 c∧(txtR c).length≤1000000:=by
 refine⟨hb.mono (by omega),?_⟩
 have e:(18446744073709551616:Nat)^400≤1000000000^900:=by decide+kernel
 have h1:Lr 900 c.num:=Nat.lt_of_lt_of_le (hb.mono hn).1 e
 have h2:Lr 900 (c.den:Int):=Nat.lt_of_lt_of_le (hb.mono hn).2 e
 have:=(txtR_le h1 h2).1
 omega
end
end
end Go.Ae
set_option linter.unusedVariables false
set_option linter.unusedSimpArgs false
set_option maxRecDepth 100000
set_option maxHeartbeats 1000000
set_option exponentiation.threshold 5000
namespace Go.Ae
open Bg N Go.Proofs
noncomputable section
structure Fc where
 n:Int
 w:AV
 d:Int
 u:AV
def Fc.l (c:Fc):List AV:=[.int .i64 c.n,c.w,.int .i64 c.d,c.u]
def Fc.z:Fc:=⟨0,.nils,0,.nils⟩
theorem Fc.l_len (c:Fc):c.l.length=4:=rfl
def FrL (h:Hp) (L:List Fc) (l:List Rat):Prop:=L.length=l.length∧∀(i:Nat) (a:i<L.length) (b:i<l.length),IsF h (.agg (L[i]).l) l[i]
def FrS (h:Hp) (v:AV) (l:List Rat):Prop:=∃L,RowS 4 h v l.length (L.flatMap Fc.l)∧FrL h L l
section
variable {h h' h0 hp:Hp} {K:AV→Hp→Prop} {tm:T AV} {v va vb s w:AV} {z:Nat} {a b c r:Rat} {L:List Fc} {l:List Rat} {x:Fc}
theorem IsF.cell (i:IsF h v r):∃c:Fc,v= .agg c.l∧c.w.one=true∧c.u.one=true:=by
 obtain⟨n1,w1,n2,w2,e,o1,o2,_⟩:=i.ex
 exact⟨⟨n1,w1,n2,w2⟩,e,o1,o2⟩
theorem IsF.ones (i:IsF h (.agg x.l) r):x.w.one=true∧x.u.one=true:=by
 obtain⟨n1,w1,n2,w2,e,o1,o2,_⟩:=i.ex
 injection e with e
 unfold Fc.l at e
 injection e with _ e
 injection e with e1 e
 injection e with _ e
 injection e with e2 _
 rw[e1,e2];exact⟨o1,o2⟩
theorem FrL.grs (f:FrL h L l) (g:Grs h h'):FrL h' L l:=⟨f.1,fun i a b=>(f.2 i a b).grs g⟩
theorem FrS.grs (f:FrS h v l) (g:Grs h h'):FrS h' v l:=by
 obtain⟨L,o,i⟩:=f
 exact⟨L,o.grs g,i.grs g⟩
theorem FrL.putI' (f:FrL h L l) {p:Nat} {g:Nat→AObj} (hi:∀{v r},IsF h v r→IsF (h.put p g) v r):FrL (h.put p g) L l:=⟨f.1,fun i a b=>hi (f.2 i a b)⟩
theorem FrL.nil:FrL h [] []:=⟨rfl,fun i a=>absurd a (Nat.not_lt_zero _)⟩
theorem FrL.snoc (f:FrL h L l) (i:IsF h (.agg x.l) r):FrL h (L++[x]) (l++[r]):=by
 refine⟨by simp[f.1],fun k a b=>?_⟩
 have f1:=f.1
 by_cases hk:k<L.length
 ·rw[List.getElem_append_left hk,List.getElem_append_left (by omega)]
  exact f.2 k hk (by omega)
 ·have e:k=L.length:=by simp at a;omega
  subst e
  rw[List.getElem_append_right (Nat.le_refl _),List.getElem_append_right (by omega)]
  simp only[f1,Nat.sub_self,List.getElem_cons_zero]
  exact i
theorem Sq.fr {vo:AV} {q:List Nat} (S:Sq .u64 h w q) (hv:∀t' o n',vo= .sl t' o n' z→isCell (h.get t')=true)
  (fr:∀t,t<h.next→(∀t' o n',vo= .sl t' o n' z→t≠t')→h'.get t=h.get t) (hnx:h.next≤h'.next) (hck:h.clk≤h'.clk):Sq .u64 h' w q:=by
 rcases S with S|⟨t,o,own,st,Q,e,hg,h1,h2,h3,h4⟩
 ·exact .inl S
 ·refine .inr ⟨t,o,own,st,Q,e,(fr t h3 fun t' o' n' ev htt=>?_).trans hg,h1,h2,Nat.lt_of_lt_of_le h3 hnx,Nat.le_trans h4 hck⟩
  subst htt
  obtain⟨n,cs,own',st',hq⟩:=isCell_ex (hv _ _ _ ev)
  rw[hq]at hg
  cases Q with
  |nil=>simp at hg
  |cons a Q=>simp[wd]at hg
theorem IsI.fr {vo s w:AV} {y:Int} (i:IsI h s w y) (hv:∀t' o n',vo= .sl t' o n' z→isCell (h.get t')=true)
  (fr:∀t,t<h.next→(∀t' o n',vo= .sl t' o n' z→t≠t')→h'.get t=h.get t) (hnx:h.next≤h'.next) (hck:h.clk≤h'.clk):IsI h' s w y:=by
 rcases i with i|⟨n,t,o,q,e,hs,r⟩
 ·exact .inl i
 ·exact .inr ⟨n,t,o,q,e,hs.fr hv fr hnx hck,r⟩
theorem IsF.fr {vo:AV} (i:IsF h v r) (hv:∀t' o n',vo= .sl t' o n' z→isCell (h.get t')=true)
  (fr:∀t,t<h.next→(∀t' o n',vo= .sl t' o n' z→t≠t')→h'.get t=h.get t) (hnx:h.next≤h'.next) (hck:h.clk≤h'.clk):IsF h' v r:=by
 obtain⟨s,w,s',w',e,i,j⟩:=i
 exact⟨s,w,s',w',e,i.fr hv fr hnx hck,j.fr hv fr hnx hck⟩
theorem IsF.putI {p:Nat} {f:Nat→AObj} (i:IsF h v r) (hc:isCell (h.get p)=true):IsF (h.put p f) v r:=by
 obtain⟨s,w,s',w',e,i,j⟩:=i
 exact⟨s,w,s',w',e,i.putI hc,j.putI hc⟩
theorem FrL.putI (f:FrL h L l) {p:Nat} {g:Nat→AObj} (hc:isCell (h.get p)=true):FrL (h.put p g) L l:=f.putI' fun i=>i.putI hc
theorem FrL.fr {vo:AV} (f:FrL h L l) (hv:∀t' o n',vo= .sl t' o n' z→isCell (h.get t')=true)
  (fr:∀t,t<h.next→(∀t' o n',vo= .sl t' o n' z→t≠t')→h'.get t=h.get t) (hnx:h.next≤h'.next) (hck:h.clk≤h'.clk):FrL h' L l:=⟨f.1,fun i a b=>(f.2 i a b).fr hv fr hnx hck⟩
theorem AtS.fr {vo:AV} {t:Nat} {cs:List AV} (a:AtS h t cs) (hne:∀t' o n',vo= .sl t' o n' z→t≠t')
  (fr:∀t,t<h.next→(∀t' o n',vo= .sl t' o n' z→t≠t')→h'.get t=h.get t) (hnx:h.next≤h'.next) (hck:h.clk≤h'.clk):AtS h' t cs:=by
 obtain⟨st,g,c,lt⟩:=a
 exact⟨st,(fr t lt hne).trans g,Nat.le_trans c hck,Nat.lt_of_lt_of_le lt hnx⟩
theorem FrS.at (f:FrS h v l) (hl:l≠[]):∃t own st,∃L:List Fc,v= .sl t 0 l.length 4∧h.get t=some (.row (L.flatMap Fc.l) own st)∧t<h.next∧st≤h.clk∧FrL h L l:=by
 obtain⟨L,⟨_,⟨rfl,e⟩|⟨t,own,st,rfl,hg,h1,h2⟩⟩,i⟩:=f
 ·exact absurd (List.length_eq_zero_iff.1 e) hl
 ·exact⟨t,own,st,L,rfl,hg,h1,h2,i⟩
theorem isCell_flat {own:Bool} {st:Nat} (hL:L≠[]):isCell (some (.row (L.flatMap Fc.l) own st))=true:=by
 cases L with
 |nil=>exact absurd rfl hL
 |cons x L=>rfl
theorem OwnZ.isCell {n:Nat} (O:OwnZ 4 h0 h v n (L.flatMap Fc.l)) (hn:L=[]→v= .nils):∀t' o n',v= .sl t' o n' 4→Go.Ae.isCell (h.get t')=true:=by
 intro t' o n' e
 obtain⟨hl,⟨e1,_⟩|⟨t,st,e1,hg,_⟩⟩:=O
 ·rw[e1]at e;cases e
 ·rw[e1]at e
  injection e with e
  subst e
  rw[hg]
  refine isCell_flat fun eL=>?_
  rw[hn eL]at e1;cases e1
theorem OwnZ.wpz {n b u:Nat} {cs xs:List AV} (hu:u=h.next) (G:Grs h0 h) (O:OwnZ z h0 h v n cs) (hx:xs.length=z) (hz:0<z) (hl:(n+1)*b≤140737488355328) (hl2:n+1≤140737488355328)
  (hk:∀v' h',Grs h0 h'→OwnZ z h0 h' v' (n+1) (cs++xs)→(∀t,t<h.next→(∀t' o n',v= .sl t' o n' z→t≠t')→h'.get t=h.get t)→h.next≤h'.next→h.clk≤h'.clk→(∀t' o n',v'= .sl t' o n' z→h.next<t')→v'≠ .nils→K v' h'):Some2 (appA (h.push fun st=> .row xs true st) z b v (.sl u 0 1 z)) K:=by
 subst hu
 have hc:cellsOf (h.push fun st=> .row xs true st) z (.sl h.next 0 1 z)=some xs:=cells_z Hp.push_same hx
 have hn0:=G.next
 obtain⟨hlen,⟨rfl,rfl⟩|⟨t,st,rfl,hg,h1,h2,h3⟩⟩:=O
 ·have hcs:cs=[]:=List.length_eq_zero_iff.1 (by omega)
  subst hcs
  have e:appA (h.push fun st=> .row xs true st) z b .nils (.sl h.next 0 1 z)=some (.sl (h.next+1) 0 1 z,(h.push fun st=> .row xs true st).push fun st=> .row xs true st):=by
   unfold appA
   rw[hc]
   simp only[lenA]
   rw[if_pos ⟨by omega,by omega,by omega⟩]
   rfl
  rw[e]
  refine hk _ _ G.push.push ⟨by simp[hx],.inr ⟨h.next+1,(h.push fun st=> .row xs true st).clk+1,rfl,Hp.push_same,by omega,?_,Nat.le_refl _⟩⟩ (fun t ht _=>?_) ?_ ?_ (fun t' o n' e=>?_) (fun e=>nomatch e)
  ·show h.next+1<h.next+1+1;omega
  ·rw[Hp.push_other (by show t≠h.next+1;omega),Hp.push_other (by omega)]
  ·show h.next≤h.next+1+1;omega
  ·show h.clk≤h.clk+1+1;omega
  ·injection e with e;omega
 ·have hgt:(h.push fun st=> .row xs true st).get t=some (.row cs true st):=(Hp.push_other (by omega)).trans hg
  have e:appA (h.push fun st=> .row xs true st) z b (.sl t 0 n z) (.sl h.next 0 1 z)=some (.sl (h.next+1) 0 (n+1) z,((h.push fun st=> .row xs true st).put t fun s=> .dead s).push fun st=> .row (cs++xs) true st):=by
   unfold appA
   rw[hc]
   simp only[lenA]
   rw[hgt]
   simp only
   rw[if_pos ⟨trivial,by omega,hl,hl2⟩]
   simp only[List.drop_zero,←hlen,List.take_length]
   rfl
  rw[e]
  refine hk _ _ ((G.push.put h1).push) ⟨by simp[hx,hlen,Nat.add_mul],.inr ⟨h.next+1,((h.push fun st=> .row xs true st).put t fun s=> .dead s).clk+1,rfl,Hp.push_same,by omega,?_,Nat.le_refl _⟩⟩ (fun t1 ht1 hne=>?_) ?_ ?_ (fun t' o n' e=>?_) (fun e=>nomatch e)
  ·show h.next+1<h.next+1+1;omega
  ·have:=hne t 0 n rfl
   rw[Hp.push_other (by show t1≠h.next+1;omega),Hp.put_other this,Hp.push_other (by omega)]
  ·show h.next≤h.next+1+1;omega
  ·show h.clk≤h.clk+1+1+1;omega
  ·injection e with e;omega
theorem rep_z (n:Nat):rep n [.int .i64 0,.nils,.int .i64 0,.nils]=(List.replicate n Fc.z).flatMap Fc.l:=by
 induction n with
 |zero=>rfl
 |succ n ih=>rw[rep,ih,List.replicate_succ,List.flatMap_cons];rfl
theorem mks4 {E:Env} {x y:Opd} {n:Nat} {st:St} (hx:val st.tm x= .int .i64 n) (hy:val st.tm y= .int .i64 n) (hn:n≤1000000)
  (hk:K (.sl st.hp.next 0 n 4) (st.hp.push fun s=> .row ((List.replicate n Fc.z).flatMap Fc.l) true s)):OpWp E (.mks 4 64 [.int .i64 0,.nils,.int .i64 0,.nils] x y) st K:=by
 rw[w_mks]
 simp only[o_mks,hx,hy]
 rw[if_pos ⟨by omega,Int.le_refl _,by omega,by omega,rfl,by decide,rfl⟩,rep_z,Int.toNat_natCast]
 exact hk
theorem flat_set {R:List Fc} {y:Fc}:splice ((L++y::R).flatMap Fc.l) (L.length*4) x.l=((L++[x])++R).flatMap Fc.l:=by
 have e1:(L.flatMap Fc.l).length=L.length*4:=flat_len Fc.l_len L
 unfold splice
 rw[List.flatMap_append,List.flatMap_cons,←e1,List.take_left,←List.drop_drop,List.drop_left,List.flatMap_append,List.flatMap_append,Fc.l_len x,←Fc.l_len y,List.drop_left]
 simp
theorem i137 {t:Nat} {rs:List Rat} (hA:At h t (rs.map fun r=> .str (txtR r))) (ht:t<h.next) (ok:∀r∈rs,okR r=true) (hn:rs.length≤1000000):Gp E2 137 [.sl t 0 rs.length 1] h fun v h'=>FrS h' v rs∧h.next≤v.tok:=by
 refine Gp.of (CallWp.fn (fn:=C.a137) rfl rfl rfl ?_)
 unfold C.a137
 obtain⟨sa,hga⟩:=hA
 repeat' (with_reducible first|simp(disch:=first|exact okD|fail) only[go_sem,seval]|(apply Spl.i<;>intro hc))
 refine mks4 (n:=rs.length) (by simp(disch:=first|exact okD|fail) only[go_sem,seval]) (by simp(disch:=first|exact okD|fail) only[go_sem,seval]) hn ?_
 repeat' (with_reducible first|simp(disch:=first|exact okD|fail) only[go_sem,seval]|(apply Spl.i<;>intro hc))
 refine Wp.loopI (fun m s=>∃(i:Nat) (L:List Fc) (c:Nat),val s.tm (.t 9)= .sl t 0 rs.length 1∧val s.tm (.t 10)= .int .i64 rs.length∧val s.tm (.t 11)= .int .i64 i∧val s.tm (.t 3)= .sl h.next 0 rs.length 4∧
  Grs h s.hp∧s.hp.get h.next=some (.row ((L++List.replicate (rs.length-i) Fc.z).flatMap Fc.l) true c)∧h.next<s.hp.next∧c≤s.hp.clk∧L.length=i∧FrL s.hp L (rs.take i)∧i≤rs.length∧rs.length-i=m) (n:=rs.length) ?_ ?_
 ·exact⟨0,[],_,by simp(disch:=first|exact okD|fail) only[go_sem,seval],by simp(disch:=first|exact okD|fail) only[go_sem,seval],by(simp(disch:=first|exact okD|fail) only[go_sem,seval])<;>rfl,by simp(disch:=first|exact okD|fail) only[go_sem,seval],(Grs.refl _).push,Hp.push_same,Nat.lt_succ_self _,Nat.le_refl _,rfl,FrL.nil,Nat.zero_le _,rfl⟩
 ·rintro m ⟨tm,hp⟩ ⟨i,L,c,h9,h10,h11,h3,hG,hgT,hT,hc,hL,hF,hle,rfl⟩
  simp only at h9 h10 h11 h3 hG hgT hT hc hF
  have hgp:=(hG.get ht).trans hga
  have hls:((L++List.replicate (rs.length-i) Fc.z).flatMap Fc.l).length=rs.length*4:=by
   rw[flat_len Fc.l_len,List.length_append,List.length_replicate,hL];congr 1;omega
  by_cases hlt:i<rs.length
  ·have hlt':(i:Int)<rs.length:=by omega
   have hcs:(rs.map fun r=>AV.str (txtR r))[i]?=some (.str (txtR rs[i])):=by
    rw[List.getElem?_map,List.getElem?_eq_getElem hlt];rfl
   have htk:rs.take (i+1)=rs.take i++[rs[i]]:=by rw[List.take_add_one];simp[hlt]
   have hok:=ok rs[i] (List.getElem_mem hlt)
   have hrep:List.replicate (rs.length-i) Fc.z=Fc.z::List.replicate (rs.length-(i+1)) Fc.z:=by
    rw[show rs.length-i=rs.length-(i+1)+1 by omega];rfl
   have hcell:isCell (hp.get h.next)=true:=by
    rw[hgT];exact isCell_flat (by rw[hrep];simp)
   have hle1:i*4+4≤((L++List.replicate (rs.length-i) Fc.z).flatMap Fc.l).length:=by omega
   have hset:=fun x:Fc=>flat_set (L:=L) (x:=x) (R:=List.replicate (rs.length-(i+1)) Fc.z) (y:=Fc.z)
   rw[←hrep,hL]at hset
   have hlt1:i+1≤rs.length:=hlt
   generalize rs[i]=r at *
   generalize (L++List.replicate (rs.length-i) Fc.z).flatMap Fc.l=cells at *
   repeat' (with_reducible first|simp(disch:=first|exact okD|fail) only[go_sem,seval,h9,h10,h11,h3,hlt',hgp,hcs,hlt1]|(apply Spl.i<;>intro hc))
   refine Gp.wp (i111 hok) fun v1 k1 a1 b1 u1 I1=>?_
   obtain⟨x,rfl,o1,o2⟩:=I1.cell
   have hset':=hset x
   have gu:Grs hp (hp.ov k1 u1):=⟨_,_,u1⟩
   have hcell':isCell ((hp.ov k1 u1).get h.next)=true:=by rw[gu.get hT];exact hcell
   repeat' (with_reducible first|simp(disch:=first|exact okD|fail) only[go_sem,seval,h9,h10,h11,h3,hgT,hle1,o1,o2,Fc.l]|(apply Spl.i<;>intro hc))
   refine⟨_,by omega,i+1,L++[x],_,rfl,okG,congrArg (fun q=>some (AObj.row q true _)) hset',by omega,Nat.le_refl _,by simp[hL],?_,hlt,rfl⟩
   rw[htk]
   exact((hF.grs gu).putI hcell').snoc (I1.putI hcell')
  ·have hlt':¬(i:Int)<rs.length:=by omega
   obtain rfl:i=rs.length:=by omega
   repeat' (with_reducible first|simp(disch:=first|exact okD|fail) only[go_sem,seval,h9,h10,h11,h3,hlt']|(apply Spl.i<;>intro hc))
   rw[Nat.sub_self,List.replicate_zero,List.append_nil]at hgT
   rw[List.take_length]at hF
   exact⟨⟨⟨L,⟨by rw[flat_len Fc.l_len,hL],.inr ⟨_,_,_,rfl,hgT,hT,hc⟩⟩,hF⟩,Nat.le_refl _⟩,hG⟩
end
end
end Go.Ae
set_option linter.unusedVariables false
set_option linter.unusedSimpArgs false
set_option maxRecDepth 100000
set_option maxHeartbeats 1000000
set_option exponentiation.threshold 5000
namespace Go.Ae
open Bg N Go.Proofs
noncomputable section
section
variable {h h' hp:Hp} {K:AV→Hp→Prop} {tm:T AV} {v va vb s w:AV} {z z':Int} {a b c r:Rat}
theorem d130_2 {t:Nat} {a b:Int} (hA:At h t [.int .i64 a,.int .i64 b]) (ht:t<h.next):Gv E2 130 [.sl t 0 2 1] h (.int .i64 (first2 a b)):=by
 obtain⟨st,hg⟩:=hA
 exact c130_2 hg ht
theorem cmpR_sgR (a b:Rat):cmpR a b=sgR (a-b):=by
 have e1:cmpR a b<0↔a<b:=by
  rw[Rat.lt_iff];unfold cmpR cmpI;split<;>first|omega|(split<;>omega)
 have e2:cmpR a b≤0↔a≤b:=by
  rw[Rat.le_iff];unfold cmpR cmpI;split<;>first|omega|(split<;>omega)
 have e3:cmpR a b= -1∨cmpR a b=0∨cmpR a b=1:=by unfold cmpR cmpI;split<;>first|omega|(split<;>omega)
 have e4:sgR (a-b)= -1∨sgR (a-b)=0∨sgR (a-b)=1:=by unfold sgR;split<;>first|omega|(split<;>omega)
 have e5:=sgR_lt (a:=a) (b:=b)
 have e6:=sgR_le (a:=a) (b:=b)
 by_cases l1:a<b
 ·have:=e1.2 l1;have:=e5.2 l1;omega
 ·have k1:=mt e1.1 l1;have k2:=mt e5.1 l1
  by_cases l2:a≤b
  ·have:=e2.2 l2;have:=e6.2 l2;omega
  ·have k1:=mt e2.1 l2;have k2:=mt e6.1 l2
   omega
end
end
end Go.Ae
set_option linter.unusedVariables false
set_option linter.unusedSimpArgs false
set_option maxRecDepth 100000
set_option maxHeartbeats 1000000
namespace Go.Ae
open Bg N Go.Proofs
noncomputable section
def mn (a b:Rat):Rat:=if b<a then b else a
def mx (a b:Rat):Rat:=if a<b then b else a
theorem cmpR_lt {a b:Rat}:cmpR a b<0↔a<b:=by rw[cmpR_sgR];exact sgR_lt
theorem cmpR_gt {a b:Rat}:0<cmpR a b↔b<a:=by rw[cmpR_sgR];exact sgR_gt
section
variable {h h' h0 hp:Hp} {K:AV→Hp→Prop} {tm:T AV} {v va vb s w:AV} {z:Nat} {a b c r:Rat} {L:List Fc} {l:List Rat} {x:Fc}
theorem i243 {t n st:Nat} {own:Bool} {x:Fc} {L:List Fc} {a:Rat} {l:List Rat} (hn:n=l.length+1) (hn2:n≤1000000) (hg:h.get t=some (.row ((x::L).flatMap Fc.l) own st)) (ht:t<h.next) (hs:st≤h.clk) (hF:FrL h (x::L) (a::l)) (hb:∀r∈a::l,Bd 1900 r):
  Gp E2 243 [.sl t 0 n 4,.fn 161 []] h fun v h'=>IsF h' v (l.foldl mn a):=by
 refine Gp.of (CallWp.fn (fn:=C.a243) rfl rfl rfl ?_)
 unfold C.a243
 have hL:L.length=l.length:=by simpa using hF.1
 have Ia:IsF h (.agg x.l) a:=hF.2 0 (by simp) (by simp)
 obtain⟨ox,ou⟩:=Ia.ones
 have hlen:((x::L).flatMap Fc.l).length=n*4:=by rw[flat_len Fc.l_len,List.length_cons,hL,hn]
 have hat:=fun(i:Nat) (hi:i<(x::L).length)=>flat_at Fc.l_len hi
 have e0:List.take 4 ((x::L).flatMap Fc.l)=x.l:=hat 0 (Nat.succ_pos _)
 have h4:4≤((x::L).flatMap Fc.l).length:=by omega
 have hn1:¬(n:Int)<1:=by omega
 have hn0:(0:Int)<n:=by omega
 have hIs:=fun(i:Nat) (hi:i<(x::L).length) (hi':i<(a::l).length)=>hF.2 i hi hi'
 generalize (x::L).flatMap Fc.l=cells at *
 have ex:x.l=[.int .i64 x.n,x.w,.int .i64 x.d,x.u]:=rfl
 repeat' (with_reducible first|simp(disch:=first|exact okD|fail) only[go_sem,seval,hg,h4,e0,ex,ox,ou,hn1,hn0]|(apply Spl.i<;>intro hc))
 refine Wp.loopI (fun k s=>∃(i:Nat) (y:Fc) (m:Rat),val s.tm (.t 0)= .sl t 0 n 4∧val s.tm (.t 1)= .fn 161 []∧val s.tm (.t 4)= .ptr h.next 0∧val s.tm (.t 5)= .ptr (h.next+1) 0∧val s.tm (.t 6)= .int .i64 ((i:Int)+1)∧
  AtS s.hp h.next [.int .i64 0,.nils,.int .i64 0,.nils]∧AtS s.hp (h.next+1) y.l∧Grs h s.hp∧IsF s.hp (.agg y.l) m∧Bd 1900 m∧(l.drop i).foldl mn m=l.foldl mn a∧i≤l.length∧l.length-i=k) (n:=l.length) ?_ ?_
 ·refine⟨0,x,a,by simp(disch:=first|exact okD|fail) only[go_sem,seval],by simp(disch:=first|exact okD|fail) only[go_sem,seval],by simp(disch:=first|exact okD|fail) only[go_sem,seval],by simp(disch:=first|exact okD|fail) only[go_sem,seval],by(simp(disch:=first|exact okD|fail) only[go_sem,seval])<;>rfl,?_,?_,?_,?_,hb a (by simp),rfl,Nat.zero_le _,rfl⟩
  ·exact(AtS.push.grs (Grs.refl _).push).other (by omega)
  ·exact AtS.put okO
  ·exact okG
  ·exact(Ia.grs okG).putI (by simp(disch:=first|exact okD|fail) only[go_sem,seval,isCell_row])
 ·rintro k ⟨tm,hp⟩ ⟨i,y,m,h0,h1,h4',h5,h6,⟨s4,q4,c4,t4⟩,A5,hG,Im,bm,hfold,hle,rfl⟩
  simp only at h0 h1 h4' h5 h6 q4 c4 t4 A5 hG Im
  obtain⟨oy,ov⟩:=Im.ones
  have ey:y.l=[.int .i64 y.n,y.w,.int .i64 y.d,y.u]:=rfl
  have hgp:=(hG.get ht).trans hg
  have htp:t<hp.next:=Nat.lt_of_lt_of_le ht hG.next
  have hsp:st≤hp.clk:=Nat.le_trans hs hG.clk
  by_cases hlt:i<l.length
  ·have hlt':(i:Int)+1<n:=by omega
   have hi0:(0:Int)≤(i:Int)+1:=by omega
   have et:((i:Int)+1).toNat=i+1:=by omega
   have hz:=hat (i+1) (by simp;omega)
   have Iz:=(hIs (i+1) (by simp;omega) (by simp;omega)).grs hG
   simp only[List.getElem_cons_succ]at hz Iz
   have bz:=hb l[i] (by simp)
   have hdr:l.drop i=l[i]::l.drop (i+1):=List.drop_eq_getElem_cons hlt
   rw[hdr,List.foldl_cons]at hfold
   have hle1:(i+1)*4+4≤cells.length:=by omega
   have hlt1:i+1≤l.length:=hlt
   generalize L[i]=z at *
   generalize l[i]=b at *
   obtain⟨oz,op⟩:=Iz.ones
   have ez:z.l=[.int .i64 z.n,z.w,.int .i64 z.d,z.u]:=rfl
   obtain⟨s5,q5,c5,t5⟩:=id A5
   rw[ey]at q5
   rw[ez]at hz
   repeat' (with_reducible first|simp(disch:=first|exact okD|fail) only[go_sem,seval,h0,h1,h5,h6,hgp,q5,hz,hlt',hi0,et,hle1,oz,op,oy,ov]|(apply Spl.i<;>intro hc))
   refine Gv.wp (i161 (a:=b) (b:=m) ?_ ?_ bz bm) fun h9 k9 j9 g9=>?_
   ·exact Iz
   ·exact Im
   by_cases c:b<m
   ·have c':cmpR b m<0:=cmpR_lt.2 c
    rw[show mn m b=b from if_pos c]at hfold
    repeat' (with_reducible first|simp(disch:=first|exact okD|fail) only[go_sem,seval,h0,h1,h5,h6,hgp,q5,hz,hlt',hi0,et,hle1,oz,op,oy,ov,c']|(apply Spl.i<;>intro hc))
    have G9:Grs hp (hp.ov h9 g9):=⟨_,_,g9⟩
    have A4:AtS hp h.next [.int .i64 0,.nils,.int .i64 0,.nils]:=⟨s4,q4,c4,t4⟩
    refine⟨_,by omega,i+1,z,b,h4',rfl,(A4.grs G9).other (by omega),AtS.put okO,Grs.put (hG.trans G9) (by omega),?_,bz,hfold,hlt1,rfl⟩
    exact(Iz.grs G9).putI (by rw[Hp.ov_get t5,q5];rfl)
   ·have c':¬cmpR b m<0:=fun e=>c (cmpR_lt.1 e)
    rw[show mn m b=m from if_neg c]at hfold
    repeat' (with_reducible first|simp(disch:=first|exact okD|fail) only[go_sem,seval,h0,h1,h5,h6,hgp,q5,hz,hlt',hi0,et,hle1,oz,op,oy,ov,c']|(apply Spl.i<;>intro hc))
    have G9:Grs hp (hp.ov h9 g9):=⟨_,_,g9⟩
    have A4:AtS hp h.next [.int .i64 0,.nils,.int .i64 0,.nils]:=⟨s4,q4,c4,t4⟩
    exact⟨_,by omega,i+1,y,m,h4',rfl,A4.grs G9,A5.grs G9,hG.trans G9,Im.grs G9,bm,hfold,hlt1,rfl⟩
  ·have hlt':¬(i:Int)+1<n:=by omega
   have hd:l.drop i=[]:=List.drop_eq_nil_of_le (by omega)
   rw[hd,List.foldl_nil]at hfold
   obtain⟨s5,q5,c5,t5⟩:=id A5
   rw[ey]at q5
   repeat' (with_reducible first|simp(disch:=first|exact okD|fail) only[go_sem,seval,h0,h1,h4',h5,h6,q4,q5,hlt',oy,ov]|(apply Spl.i<;>intro hc))
   rw[←hfold]
   exact⟨Im.putI (by simp(disch:=first|exact okD|fail) only[go_sem,seval,isCell_row,q4]),Grs.put hG (by omega)⟩
theorem i244 {t n st:Nat} {own:Bool} {x:Fc} {L:List Fc} {a:Rat} {l:List Rat} (hn:n=l.length+1) (hn2:n≤1000000) (hg:h.get t=some (.row ((x::L).flatMap Fc.l) own st)) (ht:t<h.next) (hs:st≤h.clk) (hF:FrL h (x::L) (a::l)) (hb:∀r∈a::l,Bd 1900 r):
  Gp E2 244 [.sl t 0 n 4,.fn 161 []] h fun v h'=>IsF h' v (l.foldl mx a):=by
 refine Gp.of (CallWp.fn (fn:=C.a244) rfl rfl rfl ?_)
 unfold C.a244
 have hL:L.length=l.length:=by simpa using hF.1
 have Ia:IsF h (.agg x.l) a:=hF.2 0 (by simp) (by simp)
 obtain⟨ox,ou⟩:=Ia.ones
 have hlen:((x::L).flatMap Fc.l).length=n*4:=by rw[flat_len Fc.l_len,List.length_cons,hL,hn]
 have hat:=fun(i:Nat) (hi:i<(x::L).length)=>flat_at Fc.l_len hi
 have e0:List.take 4 ((x::L).flatMap Fc.l)=x.l:=hat 0 (Nat.succ_pos _)
 have h4:4≤((x::L).flatMap Fc.l).length:=by omega
 have hn1:¬(n:Int)<1:=by omega
 have hn0:(0:Int)<n:=by omega
 have hIs:=fun(i:Nat) (hi:i<(x::L).length) (hi':i<(a::l).length)=>hF.2 i hi hi'
 generalize (x::L).flatMap Fc.l=cells at *
 have ex:x.l=[.int .i64 x.n,x.w,.int .i64 x.d,x.u]:=rfl
 repeat' (with_reducible first|simp(disch:=first|exact okD|fail) only[go_sem,seval,hg,h4,e0,ex,ox,ou,hn1,hn0]|(apply Spl.i<;>intro hc))
 refine Wp.loopI (fun k s=>∃(i:Nat) (y:Fc) (m:Rat),val s.tm (.t 0)= .sl t 0 n 4∧val s.tm (.t 1)= .fn 161 []∧val s.tm (.t 4)= .ptr h.next 0∧val s.tm (.t 5)= .ptr (h.next+1) 0∧val s.tm (.t 6)= .int .i64 ((i:Int)+1)∧
  AtS s.hp h.next [.int .i64 0,.nils,.int .i64 0,.nils]∧AtS s.hp (h.next+1) y.l∧Grs h s.hp∧IsF s.hp (.agg y.l) m∧Bd 1900 m∧(l.drop i).foldl mx m=l.foldl mx a∧i≤l.length∧l.length-i=k) (n:=l.length) ?_ ?_
 ·refine⟨0,x,a,by simp(disch:=first|exact okD|fail) only[go_sem,seval],by simp(disch:=first|exact okD|fail) only[go_sem,seval],by simp(disch:=first|exact okD|fail) only[go_sem,seval],by simp(disch:=first|exact okD|fail) only[go_sem,seval],by(simp(disch:=first|exact okD|fail) only[go_sem,seval])<;>rfl,?_,?_,?_,?_,hb a (by simp),rfl,Nat.zero_le _,rfl⟩
  ·exact(AtS.push.grs (Grs.refl _).push).other (by omega)
  ·exact AtS.put okO
  ·exact okG
  ·exact(Ia.grs okG).putI (by simp(disch:=first|exact okD|fail) only[go_sem,seval,isCell_row])
 ·rintro k ⟨tm,hp⟩ ⟨i,y,m,h0,h1,h4',h5,h6,⟨s4,q4,c4,t4⟩,A5,hG,Im,bm,hfold,hle,rfl⟩
  simp only at h0 h1 h4' h5 h6 q4 c4 t4 A5 hG Im
  obtain⟨oy,ov⟩:=Im.ones
  have ey:y.l=[.int .i64 y.n,y.w,.int .i64 y.d,y.u]:=rfl
  have hgp:=(hG.get ht).trans hg
  have htp:t<hp.next:=Nat.lt_of_lt_of_le ht hG.next
  have hsp:st≤hp.clk:=Nat.le_trans hs hG.clk
  by_cases hlt:i<l.length
  ·have hlt':(i:Int)+1<n:=by omega
   have hi0:(0:Int)≤(i:Int)+1:=by omega
   have et:((i:Int)+1).toNat=i+1:=by omega
   have hz:=hat (i+1) (by simp;omega)
   have Iz:=(hIs (i+1) (by simp;omega) (by simp;omega)).grs hG
   simp only[List.getElem_cons_succ]at hz Iz
   have bz:=hb l[i] (by simp)
   have hdr:l.drop i=l[i]::l.drop (i+1):=List.drop_eq_getElem_cons hlt
   rw[hdr,List.foldl_cons]at hfold
   have hle1:(i+1)*4+4≤cells.length:=by omega
   have hlt1:i+1≤l.length:=hlt
   generalize L[i]=z at *
   generalize l[i]=b at *
   obtain⟨oz,op⟩:=Iz.ones
   have ez:z.l=[.int .i64 z.n,z.w,.int .i64 z.d,z.u]:=rfl
   obtain⟨s5,q5,c5,t5⟩:=id A5
   rw[ey]at q5
   rw[ez]at hz
   repeat' (with_reducible first|simp(disch:=first|exact okD|fail) only[go_sem,seval,h0,h1,h5,h6,hgp,q5,hz,hlt',hi0,et,hle1,oz,op,oy,ov]|(apply Spl.i<;>intro hc))
   refine Gv.wp (i161 (a:=b) (b:=m) ?_ ?_ bz bm) fun h9 k9 j9 g9=>?_
   ·exact Iz
   ·exact Im
   by_cases c:m<b
   ·have c':0<cmpR b m:=cmpR_gt.2 c
    rw[show mx m b=b from if_pos c]at hfold
    repeat' (with_reducible first|simp(disch:=first|exact okD|fail) only[go_sem,seval,h0,h1,h5,h6,hgp,q5,hz,hlt',hi0,et,hle1,oz,op,oy,ov,c']|(apply Spl.i<;>intro hc))
    have G9:Grs hp (hp.ov h9 g9):=⟨_,_,g9⟩
    have A4:AtS hp h.next [.int .i64 0,.nils,.int .i64 0,.nils]:=⟨s4,q4,c4,t4⟩
    refine⟨_,by omega,i+1,z,b,h4',rfl,(A4.grs G9).other (by omega),AtS.put okO,Grs.put (hG.trans G9) (by omega),?_,bz,hfold,hlt1,rfl⟩
    exact(Iz.grs G9).putI (by rw[Hp.ov_get t5,q5];rfl)
   ·have c':¬0<cmpR b m:=fun e=>c (cmpR_gt.1 e)
    rw[show mx m b=m from if_neg c]at hfold
    repeat' (with_reducible first|simp(disch:=first|exact okD|fail) only[go_sem,seval,h0,h1,h5,h6,hgp,q5,hz,hlt',hi0,et,hle1,oz,op,oy,ov,c']|(apply Spl.i<;>intro hc))
    have G9:Grs hp (hp.ov h9 g9):=⟨_,_,g9⟩
    have A4:AtS hp h.next [.int .i64 0,.nils,.int .i64 0,.nils]:=⟨s4,q4,c4,t4⟩
    exact⟨_,by omega,i+1,y,m,h4',rfl,A4.grs G9,A5.grs G9,hG.trans G9,Im.grs G9,bm,hfold,hlt1,rfl⟩
  ·have hlt':¬(i:Int)+1<n:=by omega
   have hd:l.drop i=[]:=List.drop_eq_nil_of_le (by omega)
   rw[hd,List.foldl_nil]at hfold
   obtain⟨s5,q5,c5,t5⟩:=id A5
   rw[ey]at q5
   repeat' (with_reducible first|simp(disch:=first|exact okD|fail) only[go_sem,seval,h0,h1,h4',h5,h6,q4,q5,hlt',oy,ov]|(apply Spl.i<;>intro hc))
   rw[←hfold]
   exact⟨Im.putI (by simp(disch:=first|exact okD|fail) only[go_sem,seval,isCell_row,q4]),Grs.put hG (by omega)⟩
end
end
end Go.Ae
set_option linter.unusedVariables false
set_option linter.unusedSimpArgs false
set_option maxRecDepth 100000
set_option maxHeartbeats 16000000
set_option exponentiation.threshold 5000
namespace Go.Ae
open Bg N Go.Proofs
noncomputable section
def spT (a b:Rat):AV:=if okR a=true∧okR b=true then .tup [.agg [.str (txtR a),.str (txtR b)],.int .i64 0]else .tup [.agg [.str [],.str []],.int .i64 4]
theorem spT_yes {a b:Rat} (h:okR a=true) (h':okR b=true):spT a b= .tup [.agg [.str (txtR a),.str (txtR b)],.int .i64 0]:=if_pos ⟨h,h'⟩
theorem spT_no {a b:Rat} (h:¬(okR a=true∧okR b=true)):spT a b= .tup [.agg [.str [],.str []],.int .i64 4]:=if_neg h
section
variable {h h' h0 hp:Hp} {K:AV→Hp→Prop} {tm:T AV} {v va vb s w:AV} {z:Nat} {a b c d r:Rat} {L:List Fc} {l:List Rat} {x:Fc}
theorem x114 (ia:IsF h va a) (ib:IsF h vb b) (la:Bd 3999 a) (lb:Bd 3999 b) (ha:(txtR a).length≤1000000) (hb:(txtR b).length≤1000000):Gv EX 114 [va,vb] h (spT a b):=by
 obtain⟨x,ea,ox,ou⟩:=ia.cell
 obtain⟨y,eb,oy,ov⟩:=ib.cell
 subst ea;subst eb
 have ex:x.l=[.int .i64 x.n,x.w,.int .i64 x.d,x.u]:=rfl
 have ey:y.l=[.int .i64 y.n,y.w,.int .i64 y.d,y.u]:=rfl
 rw[ex]at ia⊢
 rw[ey]at ib⊢
 refine Gv.of (CallWp.fn (fn:=C.a114) rfl rfl rfl ?_)
 unfold C.a114
 repeat' (with_reducible first|simp(disch:=first|exact okD|fail) only[go_sem,seval,ox,ou,oy,ov]|(apply Spl.i<;>intro hc))
 refine Gv.wp (x140 (ia.grs okG) la) fun h1 k1 j1 u1=>?_
 by_cases c1:okR a=true
 ·rw[c1]
  repeat' (with_reducible first|simp(disch:=first|exact okD|fail) only[go_sem,seval,ox,ou,oy,ov,Bool.not_true]|(apply Spl.i<;>intro hc))
  refine Gv.wp (x140 (ib.grs okG) lb) fun h2 k2 j2 u2=>?_
  by_cases c2:okR b=true
  ·rw[c2,spT_yes c1 c2]
   repeat' (with_reducible first|simp(disch:=first|exact okD|fail) only[go_sem,seval,ox,ou,oy,ov,Bool.not_true]|(apply Spl.i<;>intro hc))
   refine Gv.wp (x196 (ia.grs okG) la ha) fun h3 k3 j3 u3=>?_
   repeat' (with_reducible first|simp(disch:=first|exact okD|fail) only[go_sem,seval,ox,ou,oy,ov]|(apply Spl.i<;>intro hc))
   refine Gv.wp (x196 (ib.grs okG) lb hb) fun h4 k4 j4 u4=>?_
   repeat' (with_reducible first|simp(disch:=first|exact okD|fail) only[go_sem,seval]|(apply Spl.i<;>intro hc))
   exact okG
  ·have c2':okR b=false:=by simpa using c2
   rw[c2',spT_no fun e=>c2 e.2]
   repeat' (with_reducible first|simp(disch:=first|exact okD|fail) only[go_sem,seval,ox,ou,oy,ov,Bool.not_false]|(apply Spl.i<;>intro hc))
   exact okG
 ·have c1':okR a=false:=by simpa using c1
  rw[c1',spT_no fun e=>c1 e.1]
  repeat' (with_reducible first|simp(disch:=first|exact okD|fail) only[go_sem,seval,ox,ou,oy,ov,Bool.not_false]|(apply Spl.i<;>intro hc))
  exact okG
theorem i137_2 {t:Nat} (hA:At h t [.str (txtR a),.str (txtR b)]) (ht:t<h.next) (oa:okR a=true) (ob:okR b=true):Gp E2 137 [.sl t 0 2 1] h fun v h'=>FrS h' v [a,b]∧h.next≤v.tok:=
 i137 (rs:=[a,b]) hA ht (fun r hr=>by simp at hr;rcases hr with rfl|rfl<;>assumption) (by simp)
def mn4 (a b c d:Rat):Rat:=mn (mn (mn a b) c) d
def mx4 (a b c d:Rat):Rat:=mx (mx (mx a b) c) d
theorem mn4_eq:[b,c,d].foldl mn a=mn4 a b c d:=rfl
theorem mx4_eq:[b,c,d].foldl mx a=mx4 a b c d:=rfl
theorem mn_p {P:Rat→Prop} (ha:P a) (hb:P b):P (mn a b):=by unfold mn;split<;>assumption
theorem mx_p {P:Rat→Prop} (ha:P a) (hb:P b):P (mx a b):=by unfold mx;split<;>assumption
theorem mn4_p {P:Rat→Prop} (ha:P a) (hb:P b) (hc:P c) (hd:P d):P (mn4 a b c d):=mn_p (mn_p (mn_p ha hb) hc) hd
theorem mx4_p {P:Rat→Prop} (ha:P a) (hb:P b) (hc:P c) (hd:P d):P (mx4 a b c d):=mx_p (mx_p (mx_p ha hb) hc) hd
def resL (op:Rat→Rat→Rat) (X Y:List Rat) (i:Nat):List Rat:=(X.take i).flatMap fun x=>Y.map (op x)
theorem resL_step {op:Rat→Rat→Rat} {X Y:List Rat} {i:Nat} (hi:i<X.length):resL op X Y i++Y.map (op X[i])=resL op X Y (i+1):=by
 unfold resL
 rw[List.take_add_one,List.flatMap_append,List.getElem?_eq_getElem hi]
 simp
theorem OwnZ.lt {z n t o n':Nat} {cs:List AV} (O:OwnZ z h0 h v n cs) (e:v= .sl t o n' z):t<h.next:=by
 obtain⟨_,⟨e1,_⟩|⟨t1,st,e1,_,_,h2,_⟩⟩:=O
 ·rw[e1]at e;cases e
 ·rw[e1]at e;injection e with e;omega
theorem fill4 {n n':Int} {w w':AV} (h1:w.one=true) (h2:w'.one=true):fillA [.int .i64 0,.nils,.int .i64 0,.nils] [(0,4,.agg [.int .i64 n,w,.int .i64 n',w'])]=some [.int .i64 n,w,.int .i64 n',w']:=by
 have e1:(AV.agg [.int .i64 n,w,.int .i64 n',w']).cells=[.int .i64 n,w,.int .i64 n',w']:=rfl
 rw[fillA_cons (by rw[e1];exact⟨rfl,by simp,by simp only[List.all_cons,List.all_nil,h1,h2,one_int,Bool.and_self]⟩),fillA_nil,e1]
 rfl
theorem x165_end {hB:Hp} {tm:T AV} {hp:Hp} {v8:AV} {M:List Fc} {s6:Nat} (h6:val tm (.t 6)= .ptr (h.next+2) 0) (h8:val tm (.t 8)=v8) (q6:hp.get (h.next+2)=some (.row [.str [],.str []] true s6)) (lt6:h.next+2<hp.next) (hG:Grs h hp)
  (hO:OwnZ 4 hB hp v8 (2*2) (M.flatMap Fc.l)) (hF:FrL hp M [a,b,c,d]) (ba:Bd 400 a) (bb:Bd 400 b) (bc:Bd 400 c) (bd:Bd 400 d):
  Wp EX (C.a165.code.post 3) ⟨tm,hp⟩ (RetQ [.cell 6 true 2,.tmp 7] fun v h'=>v=spT (mn4 a b c d) (mx4 a b c d)∧Grs h h'):=by
 unfold C.a165
 dsimp only[ACode.post]
 obtain⟨hlen,⟨_,e⟩|⟨t,st,rfl,hg,h1',h2',h3'⟩⟩:=hO
 ·exact absurd e (by decide)
 obtain⟨x0,M,rfl⟩:∃x0 M',M=x0::M':=by
  cases M with
  |nil=>exact absurd hF.1 (by simp)
  |cons x0 M'=>exact⟨_,_,rfl⟩
 have hb:∀r∈a::[b,c,d],Bd 1900 r:=fun r hr=>by
  simp only[List.mem_cons,List.not_mem_nil,or_false]at hr
  rcases hr with rfl|rfl|rfl|rfl
  ·exact ba.mono (by decide)
  ·exact bb.mono (by decide)
  ·exact bc.mono (by decide)
  ·exact bd.mono (by decide)
 obtain⟨lm,ll⟩:=len_of (mn4_p (P:=Bd 400) ba bb bc bd) (by decide)
 obtain⟨hm,hl⟩:=len_of (mx4_p (P:=Bd 400) ba bb bc bd) (by decide)
 have A:=fun h=>i243 (h:=h) (t:=t) (n:=4) (own:=true) (st:=st) (x:=x0) (L:=M) (a:=a) (l:=[b,c,d]) rfl (by decide)
 have B:=fun h=>i244 (h:=h) (t:=t) (n:=4) (own:=true) (st:=st) (x:=x0) (L:=M) (a:=a) (l:=[b,c,d]) rfl (by decide)
 rw[mn4_eq]at A
 rw[mx4_eq]at B
 generalize mn4 a b c d=lo at *
 generalize mx4 a b c d=hi at *
 repeat' (with_reducible first|simp(disch:=first|exact okD|fail) only[go_sem,seval,h6,h8]|(apply Spl.i<;>intro hc))
 refine Gp.wp (xp2 (A _ hg h2' h3' hF hb)) fun v5 h5 k5 j5 g5 I5=>?_
 have G5:Grs hp (hp.ov h5 g5):=⟨_,_,g5⟩
 repeat' (with_reducible first|simp(disch:=first|exact okD|fail) only[go_sem,seval,h6,h8]|(apply Spl.i<;>intro hc))
 refine Gp.wp (xp2 (B _ ((G5.get h2').trans hg) (Nat.lt_of_lt_of_le h2' G5.next) (Nat.le_trans h3' G5.clk) (hF.grs G5) hb)) fun v6 h6' k6 j6 g6 I6=>?_
 have cx:=x114 (h:=(hp.ov h5 g5).ov h6' g6) (I5.grs ⟨_,_,g6⟩) I6 lm hm ll hl
 by_cases hk:okR lo=true∧okR hi=true
 ·rw[spT_yes hk.1 hk.2]at cx⊢
  repeat' (with_reducible first|simp(disch:=first|exact okD|fail) only[go_sem,seval,h6,h8,q6]|(refine Gv.wp (cx) fun _ _ _ _=>?_)|(apply Spl.i<;>intro hc))
  exact Grs.put (t:=h.next+2) (hG.trans okG) (by omega)
 ·rw[spT_no hk]at cx⊢
  repeat' (with_reducible first|simp(disch:=first|exact okD|fail) only[go_sem,seval,h6,h8,q6]|(refine Gv.wp (cx) fun _ _ _ _=>?_)|(apply Spl.i<;>intro hc))
  exact Grs.put (t:=h.next+2) (hG.trans okG) (by omega)
theorem x165 {f:Nat} {op:Rat→Rat→Rat} (oa:okR a=true) (ob:okR b=true) (oc:okR c=true) (od:okR d=true)
  (hop:∀x∈[a,b],∀y∈[c,d],∀{h va vb},IsF h va x→IsF h vb y→Gp EX f [va,vb] h fun v h'=>IsF h' v (op x y)) (hbd:∀x∈[a,b],∀y∈[c,d],Bd 400 (op x y)):
  Gv EX 165 [.agg [.str (txtR a),.str (txtR b)],.agg [.str (txtR c),.str (txtR d)],.fn f []] h (spT (mn4 (op a c) (op a d) (op b c) (op b d)) (mx4 (op a c) (op a d) (op b c) (op b d))):=by
 refine Gv.of (CallWp.fn (fn:=C.a165) rfl rfl rfl ?_)
 have fin:=fun hB tm hp v8 M s6 h6 h8 q6 n6 hG hO hF=>x165_end (h:=h) (hB:=hB) (tm:=tm) (hp:=hp) (v8:=v8) (M:=M) (s6:=s6) h6 h8 q6 n6 hG hO hF (hbd a (by simp) c (by simp)) (hbd a (by simp) d (by simp)) (hbd b (by simp) c (by simp)) (hbd b (by simp) d (by simp))
 refine Wp.cut 3 rfl ?_
 generalize ACode.post 3 C.a165.code=rest at fin⊢
 unfold C.a165
 dsimp only[ACode.pre]
 repeat' (with_reducible first|simp(disch:=first|exact okD|fail) only[go_sem,seval]|(apply Spl.i<;>intro hc))
 refine Gp.wp (xp2 (i137_2 (a:=a) (b:=b) okA okO oa ob)) fun v1 h1 k1 j1 g1 ⟨F1,_⟩=>?_
 obtain⟨t1,own1,st1,L1,rfl,q1,l1,c1,F1⟩:=F1.at (by simp)
 obtain⟨s4,q4⟩:At (Hp.ov _ h1 g1) (h.next+1) [.str (txtR c),.str (txtR d)]:=okA
 obtain⟨s6,q6⟩:At (Hp.ov _ h1 g1) (h.next+2) [.str [],.str []]:=okA
 have G1:Grs h (Hp.ov _ h1 g1):=okG
 have n1:h.next+3<(Hp.ov _ h1 g1).next:=okO
 have hL1:L1.length=2:=F1.1
 have hl1:(L1.flatMap Fc.l).length=8:=by rw[flat_len Fc.l_len,hL1]
 have ht1:=fun(i:Nat) (hi:i<L1.length)=>flat_at Fc.l_len hi
 generalize Hp.ov _ h1 g1=hB at *
 repeat' (with_reducible first|simp(disch:=first|exact okD|fail) only[go_sem,seval]|(apply Spl.i<;>intro hc))
 refine Wp.loopI (fun k s=>∃(i:Nat) (v8:AV) (M:List Fc),val s.tm (.t 2)= .fn f []∧val s.tm (.t 4)= .ptr (h.next+1) 0∧val s.tm (.t 6)= .ptr (h.next+2) 0∧val s.tm (.t 8)=v8∧val s.tm (.t 18)= .sl t1 0 2 4∧val s.tm (.t 19)= .int .i64 2∧val s.tm (.t 20)= .int .i64 i∧
  Grs hB s.hp∧OwnZ 4 hB s.hp v8 (i*2) (M.flatMap Fc.l)∧FrL s.hp M (resL op [a,b] [c,d] i)∧(M=[]→v8= .nils)∧i≤2∧2-i=k) (n:=2) ?_ ?_
 ·exact⟨0,.nils,[],by simp(disch:=first|exact okD|fail) only[go_sem,seval],by simp(disch:=first|exact okD|fail) only[go_sem,seval],by simp(disch:=first|exact okD|fail) only[go_sem,seval],by simp(disch:=first|exact okD|fail) only[go_sem,seval],by simp(disch:=first|exact okD|fail) only[go_sem,seval],by simp(disch:=first|exact okD|fail) only[go_sem,seval],by(simp(disch:=first|exact okD|fail) only[go_sem,seval])<;>rfl,Grs.refl _,OwnZ.nil,FrL.nil,fun _=>rfl,Nat.zero_le _,rfl⟩
 ·rintro k ⟨tm,hp⟩ ⟨i,v8,M,h2,h4,h6,h8,h18,h19,h20,hG,hO,hF,hnil,hle,rfl⟩
  simp only at h2 h4 h6 h8 h18 h19 h20 hG hO hF
  have q1':=(hG.get l1).trans q1
  have q4':=(hG.get (show h.next+1<hB.next by omega)).trans q4
  have hnx:=hG.next
  by_cases hlt:i<2
  ·have hlt':(i:Int)<2:=by omega
   have hle1:i*4+4≤(L1.flatMap Fc.l).length:=by omega
   have hz:=ht1 i (by omega)
   have Ix:=F1.2 i (by omega) hlt
   generalize L1.flatMap Fc.l=cells at *
   obtain⟨x,hx⟩:∃x,x=L1[i]'(by omega):=⟨_,rfl⟩
   rw[←hx]at hz Ix
   have ex:x.l=[.int .i64 x.n,x.w,.int .i64 x.d,x.u]:=rfl
   rw[ex]at hz
   obtain⟨ox,ou⟩:=Ix.ones
   repeat' (with_reducible first|simp(disch:=first|exact okD|fail) only[go_sem,seval,h2,h4,h6,h8,h18,h19,h20,q1',q4',hlt',hle1,hz,ox,ou]|(apply Spl.i<;>intro hc))
   refine Gp.wp (xp2 (i137_2 (a:=c) (b:=d) okA okO oc od)) fun v2 h3 k3 j3 g3 ⟨F2,ft⟩=>?_
   obtain⟨t2,own2,st2,L2,rfl,q2,l2,c2,F2⟩:=F2.at (by simp)
   have ft':hp.next<t2:=Nat.lt_of_lt_of_le okO ft
   obtain⟨s10,q10⟩:At (Hp.ov _ h3 g3) hp.next x.l:=by rw[ex];exact okA
   have G3:Grs hp (Hp.ov _ h3 g3):=okG
   have n3:hp.next<(Hp.ov _ h3 g3).next:=okO
   have hL2:L2.length=2:=F2.1
   have hl2:(L2.flatMap Fc.l).length=8:=by rw[flat_len Fc.l_len,hL2]
   have ht2:=fun(j:Nat) (hj:j<L2.length)=>flat_at Fc.l_len hj
   generalize Hp.ov _ h3 g3=hC at *
   generalize hcells:L2.flatMap Fc.l=cells2 at *
   have mx:[a,b][i]∈[a,b]:=List.getElem_mem hlt
   have hres:=resL_step (op:=op) (X:=[a,b]) (Y:=[c,d]) (i:=i) hlt
   generalize [a,b][i]=xr at *
   repeat' (with_reducible first|simp(disch:=first|exact okD|fail) only[go_sem,seval,h8]|(apply Spl.i<;>intro hc))
   refine Wp.loopI (fun k s=>∃(j:Nat) (v8:AV) (M:List Fc),val s.tm (.t 2)= .fn f []∧val s.tm (.t 4)= .ptr (h.next+1) 0∧val s.tm (.t 6)= .ptr (h.next+2) 0∧val s.tm (.t 8)=v8∧val s.tm (.t 10)= .ptr hp.next 0∧val s.tm (.t 18)= .sl t1 0 2 4∧val s.tm (.t 19)= .int .i64 2∧val s.tm (.t 20)= .int .i64 i∧
    val s.tm (.t 29)= .sl t2 0 2 4∧val s.tm (.t 30)= .int .i64 2∧val s.tm (.t 31)= .int .i64 j∧Grs hB s.hp∧hC.next≤s.hp.next∧s.hp.get hp.next=some (.row x.l true s10)∧s.hp.get t2=some (.row cells2 own2 st2)∧FrL s.hp L2 [c,d]∧
    OwnZ 4 hB s.hp v8 (i*2+j) (M.flatMap Fc.l)∧FrL s.hp M (resL op [a,b] [c,d] i++([c,d].take j).map (op xr))∧(M=[]→v8= .nils)∧(∀t' o n',v8= .sl t' o n' 4→t'≠hp.next∧t'≠t2)∧j≤2∧2-j=k) (n:=2) ?_ ?_
   ·refine⟨0,v8,M,by simp(disch:=first|exact okD|fail) only[go_sem,seval,h2],by simp(disch:=first|exact okD|fail) only[go_sem,seval,h4],by simp(disch:=first|exact okD|fail) only[go_sem,seval,h6],by simp(disch:=first|exact okD|fail) only[go_sem,seval,h8],by simp(disch:=first|exact okD|fail) only[go_sem,seval],by simp(disch:=first|exact okD|fail) only[go_sem,seval,h18],by simp(disch:=first|exact okD|fail) only[go_sem,seval,h19],by simp(disch:=first|exact okD|fail) only[go_sem,seval,h20],by simp(disch:=first|exact okD|fail) only[go_sem,seval],by simp(disch:=first|exact okD|fail) only[go_sem,seval],by(simp(disch:=first|exact okD|fail) only[go_sem,seval])<;>rfl,hG.trans G3,Nat.le_refl _,q10,q2,F2,hO.grs G3,by simpa using hF.grs G3,hnil,?_,Nat.zero_le _,rfl⟩
    intro t' o n' e
    have:=hO.lt e
    omega
   ·clear h2 h4 h6 h8 h18 h19 h20 hO hF hnil
    rintro k ⟨tm,hq⟩ ⟨j,v8,M,h2,h4,h6,h8,h10,h18,h19,h20,h29,h30,h31,hG',hN,p10,p2,hF2,hO,hF,hnil,hne,hle',rfl⟩
    simp only at h2 h4 h6 h8 h10 h18 h19 h20 h29 h30 h31 hG' hN p10 p2 hF2 hO hF
    rw[ex]at p10
    by_cases hj:j<2
    ·have hj':(j:Int)<2:=by omega
     have hle2:j*4+4≤cells2.length:=by omega
     have hy:=ht2 j (by omega)
     have Iy:=hF2.2 j (by omega) hj
     have my:[c,d][j]∈[c,d]:=List.getElem_mem hj
     have htk:[c,d].take (j+1)=[c,d].take j++[[c,d][j]]:=by rw[List.take_add_one];simp[hj]
     obtain⟨y,hy0⟩:∃y,y=L2[j]'(by omega):=⟨_,rfl⟩
     rw[←hy0]at hy Iy
     generalize [c,d][j]=yr at *
     have ey:y.l=[.int .i64 y.n,y.w,.int .i64 y.d,y.u]:=rfl
     rw[ey]at hy
     obtain⟨oy,ov⟩:=Iy.ones
     repeat' (with_reducible first|simp(disch:=first|exact okD|fail) only[go_sem,seval,h2,h4,h6,h8,h10,h18,h19,h20,h29,h30,h31,p10,p2,hj',hle2,hy,ox,ou,oy,ov]|(apply Spl.i<;>intro hc))
     refine Gp.wp (hop xr mx yr my ((Ix.grs hG').grs okG) (Iy.grs okG)) fun v5 h5 k5 j5 g5 I5=>?_
     obtain⟨r,rfl,o5,u5⟩:=I5.cell
     have er:r.l=[.int .i64 r.n,r.w,.int .i64 r.d,r.u]:=rfl
     rw[er]
     have Gq:Grs hq (Hp.ov _ h5 g5):=okG
     generalize Hp.ov _ h5 g5=hr at *
     repeat' (with_reducible first|simp(disch:=first|exact okD|fail) only[go_sem,seval,h2,h4,h6,h8,h10,h18,h19,h20,h29,h30,h31,o5,u5,fill4 o5 u5]|(apply Spl.i<;>intro hc))
     have O':=hO.grs Gq
     refine OwnZ.wpz (b:=64) (xs:=[.int .i64 r.n,r.w,.int .i64 r.d,r.u]) rfl (hG'.trans Gq) O' rfl (by decide) (by omega) (by omega) fun v9 h9 G9 O9 fr nx ck fresh nn=>?_
     have hv:=OwnZ.isCell O' hnil
     have gn:=Gq.next
     repeat' (with_reducible first|simp(disch:=first|exact okD|fail) only[go_sem,seval,h2,h4,h6,h8,h10,h18,h19,h20,h29,h30,h31]|(apply Spl.i<;>intro hc))
     refine⟨_,by omega,j+1,v9,M++[r],rfl,rfl,G9,by omega,?_,?_,?_,?_,?_,?_,?_,by omega,rfl⟩
     ·exact(fr _ (by omega) fun t' o n' e=>(hne t' o n' e).1.symm).trans ((Gq.get (by omega)).trans p10)
     ·exact(fr _ (by omega) fun t' o n' e=>(hne t' o n' e).2.symm).trans ((Gq.get (by omega)).trans p2)
     ·exact(hF2.grs Gq).fr hv fr nx ck
     ·rw[List.flatMap_append];exact O9
     ·rw[htk,List.map_append,←List.append_assoc]
      exact((hF.grs Gq).fr hv fr nx ck).snoc (I5.fr hv fr nx ck)
     ·intro e;simp at e
     ·intro t' o n' e
      have:=fresh t' o n' e
      omega
    ·obtain rfl:j=2:=by omega
     have hj':¬(((2:Nat):Int)<2):=by decide
     repeat' (with_reducible first|simp(disch:=first|exact okD|fail) only[go_sem,seval,h2,h4,h6,h8,h10,h18,h19,h20,h29,h30,h31,hj']|(apply Spl.i<;>intro hc))
     have e2:i*2+2=(i+1)*2:=by omega
     rw[e2]at hO
     rw[show[c,d].take 2=[c,d] from rfl,hres]at hF
     exact⟨_,by omega,i+1,v8,M,rfl,rfl,hG',hO,hF,hnil,by omega,rfl⟩
  ·obtain rfl:i=2:=by omega
   have hlt':¬(((2:Nat):Int)<2):=by decide
   rw[show resL op [a,b] [c,d] 2=[op a c,op a d,op b c,op b d] from rfl]at hF
   have q6':=(hG.get (show h.next+2<hB.next by omega)).trans q6
   have G':=G1.trans hG
   repeat' (with_reducible first|simp(disch:=first|exact okD|fail) only[go_sem,seval,h2,h4,h6,h8,h18,h19,h20,hlt']|(apply Spl.i<;>intro hc))
   exact fin hB _ _ v8 M s6 (by simp(disch:=first|exact okD|fail) only[go_sem,seval,h6]) (by simp(disch:=first|exact okD|fail) only[go_sem,seval,h8]) q6' (Nat.lt_of_lt_of_le (show h.next+2<hB.next by omega) hG.next) G' hO hF
end
end
end Go.Ae
set_option linter.unusedVariables false
set_option linter.unusedSimpArgs false
set_option maxRecDepth 100000
set_option maxHeartbeats 2000000
set_option exponentiation.threshold 5000
namespace Go.Ae
open Bg N Go.Proofs
noncomputable section
def spA (a b:Rat):List UInt8:=if okR a=true∧okR b=true then txtR a else[]
def spB (a b:Rat):List UInt8:=if okR a=true∧okR b=true then txtR b else[]
def spE (a b:Rat):Int:=if okR a=true∧okR b=true then 0 else 4
abbrev spn (s u:List UInt8):AV:= .agg [.str s,.str u]
abbrev spr (p q:List UInt8) (e:Int):AV:= .tup [.agg [.str p,.str q],.int .i64 e]
theorem spT_eq (a b:Rat):spT a b=spr (spA a b) (spB a b) (spE a b):=by
 unfold spT spA spB spE
 by_cases h:okR a=true∧okR b=true
 ·simp only[if_pos h]
 ·simp only[if_neg h]
theorem sgR_max (a:Rat):max (-1) (min 1 a.num)=sgR a:=by
 unfold sgR;split
 ·omega
 ·split<;>omega
theorem sgR_le0 {a:Rat}:sgR a≤0↔a≤0:=by
 have:=sgR_le (a:=a) (b:=0)
 rwa[Rat.sub_eq_add_neg,Rat.neg_zero,Rat.add_zero]at this
theorem sgR_ge0 {a:Rat}:0≤sgR a↔0≤a:=by
 have:=sgR_ge (a:=a) (b:=0)
 rwa[Rat.sub_eq_add_neg,Rat.neg_zero,Rat.add_zero]at this
theorem spanV_zero {s u:List UInt8} (h:spanV s u=0):checkV s=0∧checkV u=0∧valS s≤valS u:=by
 unfold spanV at h
 by_cases c:chk2 s u=0
 ·rw[if_pos c]at h
  obtain⟨z1,z2⟩:=chk2_zero c
  refine⟨z1,z2,?_⟩
  by_cases g:0<sgR (valS s-valS u)
  ·rw[if_pos g]at h;omega
  ·exact sgR_le.1 (by omega)
 ·rw[if_neg c]at h;exact absurd h c
section
variable {h h' h0 hp:Hp} {K:AV→Hp→Prop} {tm:T AV} {v va vb w:AV} {z:Nat} {a b c d r:Rat} {l:List Rat} {s u s' u' p q:List UInt8} {e:Int}
theorem i60 (hs:s.length≤1000000) (hu:u.length≤1000000):Gv E2 60 [spn s u] h (.int .i64 (spanV s u)):=by
 refine Gv.of (CallWp.fn (fn:=C.a60) rfl rfl rfl ?_)
 unfold C.a60 spanV
 by_cases c1:chk2 s u=0
 ·rw[if_pos c1]
  obtain⟨z1,z2⟩:=chk2_zero c1
  obtain⟨t1,q1⟩:=txtR_valS z1
  obtain⟨t2,q2⟩:=txtR_valS z2
  have i1:=fun h=>i111 (h:=h) q1
  have i2:=fun h=>i111 (h:=h) q2
  rw[←t1]at i1
  rw[←t2]at i2
  repeat' (with_reducible first|simp(disch:=first|exact okD|fail) only[go_sem,seval,c1]|(refine Gv.wp (i136_2 (s:=s) (u:=u) okA okO hs hu) fun _ _ _ _=>?_)|(apply Spl.i<;>intro hc))
  refine Gp.wp (i1 _) fun v1 k1 a1 b1 u1 I1=>?_
  repeat' (with_reducible first|simp(disch:=first|exact okD|fail) only[go_sem,seval]|(apply Spl.i<;>intro hc))
  refine Gp.wp (i2 _) fun v2 k2 a2 b2 u2 I2=>?_
  repeat' (with_reducible first|simp(disch:=first|exact okD|fail) only[go_sem,seval]|(apply Spl.i<;>intro hc))
  refine Gv.wp (i161 (I1.grs ⟨_,_,u2⟩) I2 ((Bd_ok q1).mono (by decide)) ((Bd_ok q2).mono (by decide))) fun h4 k4 j4 u4=>?_
  rw[cmpR_sgR]
  by_cases c2:0<sgR (valS s-valS u)
  ·rw[if_pos c2]
   repeat' (with_reducible first|simp(disch:=first|exact okD|fail) only[go_sem,seval,c2,c131,c131t]|(apply Spl.i<;>intro hc))
   exact okG
  ·rw[if_neg c2]
   repeat' (with_reducible first|simp(disch:=first|exact okD|fail) only[go_sem,seval,c2,c131,c131f]|(apply Spl.i<;>intro hc))
   exact okG
 ·rw[if_neg c1]
  repeat' (with_reducible first|simp(disch:=first|exact okD|fail) only[go_sem,seval,c1]|(refine Gv.wp (i136_2 (s:=s) (u:=u) okA okO hs hu) fun _ _ _ _=>?_)|(apply Spl.i<;>intro hc))
  exact okG
theorem x162 {f:Nat} (hs:s.length≤1000000) (hu:u.length≤1000000) (hs':s'.length≤1000000) (hu':u'.length≤1000000) (h1:spanV s u=0) (h2:spanV s' u'=0)
  (hc:∀h,Gv EX 165 [spn s u,spn s' u',.fn f []] h (spr p q e)):Gv EX 162 [spn s u,spn s' u',.fn f []] h (spr p q e):=by
 refine Gv.of (CallWp.fn (fn:=C.a162) rfl rfl rfl ?_)
 unfold C.a162
 have q0:first2 0 0=0:=rfl
 have j1:=fun h=>x2 (i60 (h:=h) hs hu)
 have j2:=fun h=>x2 (i60 (h:=h) hs' hu')
 rw[h1]at j1
 rw[h2]at j2
 repeat' (with_reducible first|simp(disch:=first|exact okD|fail) only[go_sem,seval,q0]|(refine Gv.wp (j1 _) fun _ _ _ _=>?_)|(refine Gv.wp (j2 _) fun _ _ _ _=>?_)|(refine Gv.wp (x2 (d130_2 (a:=0) (b:=0) okA okO)) fun _ _ _ _=>?_)|(refine Gv.wp (hc _) fun _ _ _ _=>?_)|(apply Spl.i<;>intro hc))
 exact okG
theorem x61 (hc:∀h,Gv EX 162 [spn s u,spn s' u',.fn 163 []] h (spr p q e)):Gv EX 61 [spn s u,spn s' u'] h (spr p q e):=by
 refine Gv.of (CallWp.fn (fn:=R.a61) rfl rfl rfl ?_)
 unfold R.a61
 repeat' (with_reducible first|simp(disch:=first|exact okD|fail) only[go_sem,seval]|(refine Gv.wp (hc _) fun _ _ _ _=>?_)|(apply Spl.i<;>intro hc))
 exact okG
theorem x62 (hc:∀h,Gv EX 162 [spn s u,spn s' u',.fn 164 []] h (spr p q e)):Gv EX 62 [spn s u,spn s' u'] h (spr p q e):=by
 refine Gv.of (CallWp.fn (fn:=R.a62) rfl rfl rfl ?_)
 unfold R.a62
 repeat' (with_reducible first|simp(disch:=first|exact okD|fail) only[go_sem,seval]|(refine Gv.wp (hc _) fun _ _ _ _=>?_)|(apply Spl.i<;>intro hc))
 exact okG
theorem x63 (hc:∀h,Gv EX 162 [spn s u,spn s' u',.fn 115 []] h (spr p q e)):Gv EX 63 [spn s u,spn s' u'] h (spr p q e):=by
 refine Gv.of (CallWp.fn (fn:=C.a63) rfl rfl rfl ?_)
 unfold C.a63
 repeat' (with_reducible first|simp(disch:=first|exact okD|fail) only[go_sem,seval]|(refine Gv.wp (hc _) fun _ _ _ _=>?_)|(apply Spl.i<;>intro hc))
 exact okG
theorem x64 (hs:s.length≤1000000) (hu:u.length≤1000000) (hs':s'.length≤1000000) (hu':u'.length≤1000000) (h1:spanV s u=0) (h2:spanV s' u'=0)
  (hz:(valS s'≤0∧0≤valS u')→p=[]∧q=[]∧e=6)
  (hc:¬(valS s'≤0∧0≤valS u')→∀h,Gv EX 165 [spn s u,spn s' u',.fn 166 []] h (spr p q e)):Gv EX 64 [spn s u,spn s' u'] h (spr p q e):=by
 refine Gv.of (CallWp.fn (fn:=C.a64) rfl rfl rfl ?_)
 unfold C.a64
 have q0:first2 0 0=0:=rfl
 have j1:=fun h=>x2 (i60 (h:=h) hs hu)
 have j2:=fun h=>x2 (i60 (h:=h) hs' hu')
 rw[h1]at j1
 rw[h2]at j2
 obtain⟨z1,z2,_⟩:=spanV_zero h2
 obtain⟨t1,o1⟩:=txtR_valS z1
 obtain⟨t2,o2⟩:=txtR_valS z2
 have i1:=fun h=>xp2 (i111 (h:=h) o1)
 have i2:=fun h=>xp2 (i111 (h:=h) o2)
 rw[←t1]at i1
 rw[←t2]at i2
 repeat' (with_reducible first|simp(disch:=first|exact okD|fail) only[go_sem,seval,q0]|(refine Gv.wp (j1 _) fun _ _ _ _=>?_)|(refine Gv.wp (j2 _) fun _ _ _ _=>?_)|(refine Gv.wp (x2 (d130_2 (a:=0) (b:=0) okA okO)) fun _ _ _ _=>?_)|(apply Spl.i<;>intro hc))
 refine Gp.wp (i1 _) fun v1 k1 a1 b1 u1 I1=>?_
 repeat' (with_reducible first|simp(disch:=first|exact okD|fail) only[go_sem,seval]|(apply Spl.i<;>intro hc))
 refine Gv.wp (x2 (i112 I1)) fun h2 k2 j2 u2=>?_
 rw[sgR_max]
 by_cases c1:valS s'≤0
 ·have c1':=sgR_le0.2 c1
  repeat' (with_reducible first|simp(disch:=first|exact okD|fail) only[go_sem,seval,c1']|(apply Spl.i<;>intro hc))
  refine Gp.wp (i2 _) fun v3 k3 a3 b3 u3 I3=>?_
  repeat' (with_reducible first|simp(disch:=first|exact okD|fail) only[go_sem,seval]|(apply Spl.i<;>intro hc))
  refine Gv.wp (x2 (i112 I3)) fun h4 k4 j4 u4=>?_
  rw[sgR_max]
  by_cases c2:0≤valS u'
  ·have c2':=sgR_ge0.2 c2
   obtain⟨rfl,rfl,rfl⟩:=hz ⟨c1,c2⟩
   repeat' (with_reducible first|simp(disch:=first|exact okD|fail) only[go_sem,seval,c2']|(apply Spl.i<;>intro hc))
   exact okG
  ·have c2':¬0≤sgR (valS u'):=fun h=>c2 (sgR_ge0.1 h)
   have hq:=hc (fun h=>c2 h.2)
   repeat' (with_reducible first|simp(disch:=first|exact okD|fail) only[go_sem,seval,c2']|(refine Gv.wp (hq _) fun _ _ _ _=>?_)|(apply Spl.i<;>intro hc))
   exact okG
 ·have c1':¬sgR (valS s')≤0:=fun h=>c1 (sgR_le0.1 h)
  have hq:=hc (fun h=>c1 h.1)
  repeat' (with_reducible first|simp(disch:=first|exact okD|fail) only[go_sem,seval,c1']|(refine Gv.wp (hq _) fun _ _ _ _=>?_)|(apply Spl.i<;>intro hc))
  exact okG
end
end
end Go.Ae
set_option linter.unusedVariables false
set_option linter.unusedSimpArgs false
set_option maxRecDepth 100000
set_option maxHeartbeats 2000000
set_option exponentiation.threshold 5000
namespace Go.Ae
open Bg N Go.Proofs
noncomputable section
theorem mn_l {a b:Rat} (h:a≤b):mn a b=a:=if_neg (Rat.not_lt.2 h)
theorem mn_r {a b:Rat} (h:b≤a):mn a b=b:=by
 unfold mn;split
 ·rfl
 ·next g=>exact Rat.le_antisymm (Rat.not_lt.1 g) h
theorem mx_l {a b:Rat} (h:b≤a):mx a b=a:=if_neg (Rat.not_lt.2 h)
theorem mx_r {a b:Rat} (h:a≤b):mx a b=b:=by
 unfold mx;split
 ·rfl
 ·next g=>exact Rat.le_antisymm h (Rat.not_lt.1 g)
theorem mx_le {a b c:Rat} (h:a≤c) (h':b≤c):mx a b≤c:=mx_p (P:=fun x=>x≤c) h h'
theorem add_le' {a b c d:Rat} (h:a≤b) (h':c≤d):a+c≤b+d:=Rat.le_trans (Rat.add_le_add_right.2 h) (Rat.add_le_add_left.2 h')
theorem sub_le' {a b c d:Rat} (h:a≤b) (h':c≤d):a-d≤b-c:=by
 rw[Rat.sub_eq_add_neg,Rat.sub_eq_add_neg]
 exact add_le' h (Rat.neg_le_neg h')
theorem mn4_add {a b c d:Rat} (h:a≤b) (h':c≤d):mn4 (a+c) (a+d) (b+c) (b+d)=a+c:=by
 unfold mn4
 rw[mn_l (add_le' Rat.le_refl h'),mn_l (add_le' h Rat.le_refl),mn_l (add_le' h h')]
theorem mx4_add {a b c d:Rat} (h:a≤b) (h':c≤d):mx4 (a+c) (a+d) (b+c) (b+d)=b+d:=by
 unfold mx4
 exact mx_r (mx_le (mx_le (add_le' h h') (add_le' h Rat.le_refl)) (add_le' Rat.le_refl h'))
theorem mn4_sub {a b c d:Rat} (h:a≤b) (h':c≤d):mn4 (a-c) (a-d) (b-c) (b-d)=a-d:=by
 unfold mn4
 rw[mn_r (sub_le' Rat.le_refl h'),mn_l (sub_le' h h'),mn_l (sub_le' h Rat.le_refl)]
theorem mx4_sub {a b c d:Rat} (h:a≤b) (h':c≤d):mx4 (a-c) (a-d) (b-c) (b-d)=b-c:=by
 unfold mx4
 rw[mx_r (mx_le (sub_le' h Rat.le_refl) (sub_le' h h')),mx_l (sub_le' Rat.le_refl h')]
section
variable {h h' h0 hp:Hp} {K:AV→Hp→Prop} {tm:T AV} {v va vb w:AV} {z:Nat} {a b c d r:Rat} {l:List Rat} {s u s' u' p q:List UInt8} {e:Int}
variable {x y a' b':Rat}
theorem AtS.at_push {t:Nat} {cs:List AV} (e:t=h.next):AtS (h.push fun s=> .row cs true s) t cs:=by subst e;exact AtS.push
end
end
end Go.Ae
set_option linter.unusedVariables false
namespace Go.Ae
section
variable {a b c d x y p q:Rat}
theorem mn_a:mn a b≤a:=by unfold mn;split<;>first|exact Rat.le_refl|(next g=>exact Rat.le_of_lt g)
theorem mn_b:mn a b≤b:=by unfold mn;split<;>first|exact Rat.le_refl|(next g=>exact Rat.not_lt.1 g)
theorem mx_a:a≤mx a b:=by unfold mx;split<;>first|exact Rat.le_refl|(next g=>exact Rat.le_of_lt g)
theorem mx_b:b≤mx a b:=by unfold mx;split<;>first|exact Rat.le_refl|(next g=>exact Rat.not_lt.1 g)
theorem mn4_le:mn4 a b c d≤a∧mn4 a b c d≤b∧mn4 a b c d≤c∧mn4 a b c d≤d:=by
 unfold mn4
 refine⟨Rat.le_trans mn_a (Rat.le_trans mn_a mn_a),Rat.le_trans mn_a (Rat.le_trans mn_a mn_b),Rat.le_trans mn_a mn_b,mn_b⟩
theorem mx4_ge:a≤mx4 a b c d∧b≤mx4 a b c d∧c≤mx4 a b c d∧d≤mx4 a b c d:=by
 unfold mx4
 refine⟨Rat.le_trans mx_a (Rat.le_trans mx_a mx_a),Rat.le_trans mx_b (Rat.le_trans mx_a mx_a),Rat.le_trans mx_b mx_a,mx_b⟩
theorem mul_cases (y:Rat) (h1:a≤x) (h2:x≤b):(a*y≤x*y∨b*y≤x*y)∧(x*y≤a*y∨x*y≤b*y):=by
 by_cases hy:0≤y
 ·exact⟨.inl (Rat.mul_le_mul_of_nonneg_right h1 hy),.inr (Rat.mul_le_mul_of_nonneg_right h2 hy)⟩
 ·have hy':0≤-y:=by grind
  have k1:=Rat.mul_le_mul_of_nonneg_right h1 hy'
  have k2:=Rat.mul_le_mul_of_nonneg_right h2 hy'
  exact⟨.inr (by grind),.inl (by grind)⟩
theorem corner (h1:a≤x) (h2:x≤b) (h3:c≤y) (h4:y≤d):(a*c≤x*y∨a*d≤x*y∨b*c≤x*y∨b*d≤x*y)∧(x*y≤a*c∨x*y≤a*d∨x*y≤b*c∨x*y≤b*d):=by
 have k1:=mul_cases y h1 h2
 have k2:=mul_cases a h3 h4
 have k3:=mul_cases b h3 h4
 have e1:=Rat.mul_comm a c
 have e2:=Rat.mul_comm a d
 have e3:=Rat.mul_comm b c
 have e4:=Rat.mul_comm b d
 have e5:=Rat.mul_comm a y
 have e6:=Rat.mul_comm b y
 rw[←e1,←e2,←e5]at k2
 rw[←e3,←e4,←e6]at k3
 obtain⟨k1,k1'⟩:=k1
 obtain⟨k2,k2'⟩:=k2
 obtain⟨k3,k3'⟩:=k3
 constructor
 ·rcases k1 with k1|k1
  ·rcases k2 with k2|k2
   ·exact .inl (Rat.le_trans k2 k1)
   ·exact .inr (.inl (Rat.le_trans k2 k1))
  ·rcases k3 with k3|k3
   ·exact .inr (.inr (.inl (Rat.le_trans k3 k1)))
   ·exact .inr (.inr (.inr (Rat.le_trans k3 k1)))
 ·rcases k1' with k1|k1
  ·rcases k2' with k2|k2
   ·exact .inl (Rat.le_trans k1 k2)
   ·exact .inr (.inl (Rat.le_trans k1 k2))
  ·rcases k3' with k3|k3
   ·exact .inr (.inr (.inl (Rat.le_trans k1 k3)))
   ·exact .inr (.inr (.inr (Rat.le_trans k1 k3)))
theorem prod_in (h1:a≤x) (h2:x≤b) (h3:c≤y) (h4:y≤d):mn4 (a*c) (a*d) (b*c) (b*d)≤x*y∧x*y≤mx4 (a*c) (a*d) (b*c) (b*d):=by
 obtain⟨k,k'⟩:=corner h1 h2 h3 h4
 obtain⟨m1,m2,m3,m4⟩:=mn4_le (a:=a*c) (b:=a*d) (c:=b*c) (d:=b*d)
 obtain⟨n1,n2,n3,n4⟩:=mx4_ge (a:=a*c) (b:=a*d) (c:=b*c) (d:=b*d)
 constructor
 ·rcases k with k|k|k|k
  ·exact Rat.le_trans m1 k
  ·exact Rat.le_trans m2 k
  ·exact Rat.le_trans m3 k
  ·exact Rat.le_trans m4 k
 ·rcases k' with k|k|k|k
  ·exact Rat.le_trans k n1
  ·exact Rat.le_trans k n2
  ·exact Rat.le_trans k n3
  ·exact Rat.le_trans k n4
theorem inv_le (h:x≤y) (hs:0<x*y):y⁻¹≤x⁻¹:=by
 have x0:x≠0:=fun e=>by rw[e,Rat.zero_mul]at hs;exact absurd hs (Rat.lt_irrefl)
 have y0:y≠0:=fun e=>by rw[e,Rat.mul_zero]at hs;exact absurd hs (Rat.lt_irrefl)
 have hi:0<(x*y)⁻¹:=Rat.inv_pos.2 hs
 have k:=Rat.mul_le_mul_of_nonneg_right h (Rat.le_of_lt hi)
 have e1:x*(x*y)⁻¹=y⁻¹:=by rw[Rat.inv_mul_rev,Rat.mul_comm y⁻¹,←Rat.mul_assoc,Rat.mul_inv_cancel x x0,Rat.one_mul]
 have e2:y*(x*y)⁻¹=x⁻¹:=by rw[Rat.inv_mul_rev,←Rat.mul_assoc,Rat.mul_inv_cancel y y0,Rat.one_mul]
 rwa[e1,e2]at k
theorem quot_in (h1:a≤x) (h2:x≤b) (h3:c≤y) (h4:y≤d) (h0:¬(c≤0∧0≤d)):mn4 (a/c) (a/d) (b/c) (b/d)≤x/y∧x/y≤mx4 (a/c) (a/d) (b/c) (b/d):=by
 have same:0<c*y∧0<y*d:=by
  by_cases hc:0<c
  ·have hy:0<y:=by grind
   exact⟨Rat.mul_pos hc hy,Rat.mul_pos hy (by grind)⟩
  ·have hd:d<0:=Rat.not_le.1 fun e=>h0 ⟨Rat.not_lt.1 hc,e⟩
   have hy:y<0:=by grind
   have hc':c<0:=by grind
   have k1:=Rat.mul_pos (show 0< -c by grind) (show 0< -y by grind)
   have k2:=Rat.mul_pos (show 0< -y by grind) (show 0< -d by grind)
   exact⟨by grind,by grind⟩
 have i1:=inv_le h3 same.1
 have i2:=inv_le h4 same.2
 rw[Rat.div_def,Rat.div_def,Rat.div_def,Rat.div_def,Rat.div_def]
 obtain⟨k,k'⟩:=corner h1 h2 i2 i1
 obtain⟨m1,m2,m3,m4⟩:=mn4_le (a:=a*c⁻¹) (b:=a*d⁻¹) (c:=b*c⁻¹) (d:=b*d⁻¹)
 obtain⟨n1,n2,n3,n4⟩:=mx4_ge (a:=a*c⁻¹) (b:=a*d⁻¹) (c:=b*c⁻¹) (d:=b*d⁻¹)
 constructor
 ·rcases k with k|k|k|k
  ·exact Rat.le_trans m2 k
  ·exact Rat.le_trans m1 k
  ·exact Rat.le_trans m4 k
  ·exact Rat.le_trans m3 k
 ·rcases k' with k|k|k|k
  ·exact Rat.le_trans k n2
  ·exact Rat.le_trans k n1
  ·exact Rat.le_trans k n4
  ·exact Rat.le_trans k n3
theorem in_between (h:a≤b) (h0:0≤p) (h1:p≤1):a≤a+p*(b-a)∧a+p*(b-a)≤b:=by
 have k1:=Rat.mul_nonneg h0 (show 0≤b-a by grind)
 have k2:=Rat.mul_nonneg (show 0≤1-p by grind) (show 0≤b-a by grind)
 exact⟨by grind,by grind⟩
end
end Go.Ae
set_option maxRecDepth 100000
namespace Go.Ae.Ha
open AOp Opd C
def a11:AFn:=⟨205,[.tmp 6],(q [o 3 (.box (.t 0)),o 4 (.box (.t 1)),o 5 (.box (.t 2)),o 6 (.mv (.k (.bool false)))]
 (.seq (q [c 25 17 [],y 26 .not 25,v 27 26,gl 28 true 2 3 27 false,gc 29 70 [.t 28,i 6] 27 false,g 30 (.un .not (.t 29)) 27 false,pt 31 27 30,v 32 31,gl 33 true 2 4 32 false,gc 34 70 [.t 33,i 6] 32 false,g 35 (.un .not (.t 34)) 32 false,pt 36 32 35]
 (k 36 (q [c 37 17 [],v 6 37]
 .ret)))
 (.seq (.dreg [w 38 true 2 3 0,fa 39 0 5,w 40 false 1 39 2,c 41 71 [.t 38,.t 40],w 42 true 2 4 4,fa 43 1 5,w 44 false 1 43 6,c 45 71 [.t 42,.t 44],v 7 41,v 8 45])
 (q [l 47 true 2 3,l 48 true 2 4,c 49 61 [.t 47,.t 48],v 46 49,e 50 46 0,e 51 46 1,o 9 (.alloc zS),s 2 9 50,v 10 51]
 (q [l 53 true 2 3,l 54 true 2 4,c 55 62 [.t 53,.t 54],v 52 55,e 56 52 0,e 57 52 1,o 11 (.alloc zS),s 2 11 56,v 12 57]
 (q [l 59 true 2 3,l 60 true 2 4,c 61 63 [.t 59,.t 60],v 58 61,e 62 58 0,e 63 58 1,o 13 (.alloc zS),s 2 13 62,v 14 63]
 (.seq (q [v 64 10,v 65 12,bt 66 .add 64 65,v 67 14,bt 68 .add 66 67,bi 69 .neq 68 0,v 70 69,gl 71 true 2 9 70 false,gc 72 59 [.t 71] 70 false,gb 73 .neq (.t 72) (i 0) 70 false,pt 74 70 73,v 75 74,gl 76 true 2 11 75 false,gc 77 59 [.t 76] 75 false,gb 78 .neq (.t 77) (i 0) 75 false,pt 79 75 78,v 80 79,gl 81 true 2 13 80 false,gc 82 59 [.t 81] 80 false,gb 83 .neq (.t 82) (i 0) 80 false,pt 84 80 83]
 (k 84 (q [o 6 (.mv (.k (.bool false)))]
 .ret)))
 (.seq (.seq (.dreg [w 85 true 2 9 3,v 86 7,v 87 8,c 88 72 [.t 86,.t 87],c 89 68 [.t 85,.t 88],y 90 .not 89,v 91 90,x 92 true 2 11 91 false 10,g 93 (m 7) 91 false,g 94 (m 8) 91 false,gc 95 73 [.t 93,.t 94] 91 false,gc 96 68 [.t 92,.t 95] 91 false,g 97 (.un .not (.t 96)) 91 false,pt 98 91 97,v 99 98,x 100 true 2 13 99 false 18,g 101 (m 7) 99 false,g 102 (m 8) 99 false,gc 103 74 [.t 101,.t 102] 99 false,gc 104 68 [.t 100,.t 103] 99 false,g 105 (.un .not (.t 104)) 99 false,pt 106 99 105])
 (k 106 (q [o 6 (.mv (.k (.bool false)))]
 .ret)))
 (q [vi 15 0]
 (.seq (q [fa 107 0 3,l 108 false 1 107,fa 109 1 3,l 110 false 1 109,o 111 (.bslice 1 2 zS [(0,1,(.t 108)),(1,1,(.t 110))]),ln 112 111,vi 113 0]
 (.block 0 (.loop (q [bt 114 .lss 113 112]
 (.seq (.cond (.t 114) .skip
 (.exit 0))
 (.seq (.block 1 (q [ix 115 1 111 113,l 116 false 1 115,v 17 116]
 (q [fa 117 0 4,l 118 false 1 117,fa 119 1 4,l 120 false 1 119,o 121 (.bslice 1 2 zS [(0,1,(.t 118)),(1,1,(.t 120))]),ln 122 121,vi 123 0]
 (.block 2 (.loop (q [bt 124 .lss 123 122]
 (.seq (.cond (.t 124) .skip
 (.exit 2))
 (.seq (.block 3 (q [ix 125 1 121 123,l 126 false 1 125,v 19 126]
 (.seq (.seq (.dreg [v 127 17,v 128 19,c 129 74 [.t 127,.t 128],fa 130 0 13,w 131 false 1 130 4,bt 132 .eql 129 131])
 (k 132 (.reg [v 133 15,bi 134 .or 133 1,v 15 134])))
 (.seq (.dreg [v 135 17,v 136 19,c 137 74 [.t 135,.t 136],fa 138 1 13,w 139 false 1 138 4,bt 140 .eql 137 139])
 (k 140 (.reg [v 141 15,bi 142 .or 141 2,v 15 142]))))))
 (.reg [bi 143 .add 123 1,v 123 143])))))))))
 (.reg [bi 144 .add 113 1,v 113 144])))))))
 (q [v 145 7,v 146 7,o 147 (.build zS [(0,1,(.t 145)),(1,1,(.t 146))]),o 20 (.alloc zS),s 2 20 147]
 (q [l 149 true 2 20,l 150 true 2 4,c 151 63 [.t 149,.t 150],v 148 151,e 152 148 0,e 153 148 1,o 21 (.alloc zS),s 2 21 152,v 22 153]
 (.seq (q [v 154 22,bi 155 .neq 154 0,v 156 155,gl 157 true 2 21 156 false,gc 158 59 [.t 157] 156 false,gb 159 .neq (.t 158) (i 0) 156 false,pt 160 156 159,v 161 160,g 162 (m 15) 161 false,gb 163 .neq (.t 162) (i 3) 161 false,pt 164 161 163,v 165 164,g 166 (.fadr 0 (.t 21)) 165 false,gl 167 false 1 166 165 false,g 168 (.fadr 0 (.t 13)) 165 false,gl 169 false 1 168 165 false,gc 170 75 [.t 167,.t 169] 165 false,gb 171 .lss (.t 170) (i 0) 165 false,pt 172 165 171,v 173 172,g 174 (.fadr 1 (.t 21)) 173 false,gl 175 false 1 174 173 false,g 176 (.fadr 1 (.t 13)) 173 false,gl 177 false 1 176 173 false,gc 178 75 [.t 175,.t 177] 173 false,gb 179 .gtr (.t 178) (i 0) 173 false,pt 180 173 179]
 (k 180 (q [o 6 (.mv (.k (.bool false)))]
 .ret)))
 (q [l 182 true 2 3,l 183 true 2 4,c 184 64 [.t 182,.t 183],v 181 184,e 185 181 0,e 186 181 1,o 23 (.alloc zS),s 2 23 185,v 24 186]
 (.seq (q [l 187 true 2 4,c 188 68 [.t 187,(.k (.str [48]))]]
 (k 188 (q [v 189 24,bi 190 .eql 189 6,v 6 190]
 .ret)))
 (.seq (.dreg [v 191 24,bi 192 .eql 191 0,v 193 192,x 194 true 2 23 193 true 3,gc 195 59 [.t 194] 193 true,gb 196 .eql (.t 195) (i 0) 193 true,pf 197 193 196,v 198 197,x 199 true 2 23 198 true 11,g 200 (m 7) 198 true,g 201 (m 8) 198 true,gc 202 76 [.t 200,.t 201] 198 true,gc 203 68 [.t 199,.t 202] 198 true,pf 204 198 203,v 6 204])
 .ret))))))))))))))))⟩
def a70:AFn:=⟨20,[.tmp 4],(q [o 2 (.box (.t 0)),o 4 (.mv (.k (.bool false)))]
 (q [fa 5 0 2,l 6 false 1 5,v 7 1,c 8 135 [.t 6,.t 7],v 9 8,g 10 (.fadr 1 (.t 2)) 9 true,gl 11 false 1 10 9 true,g 12 (m 1) 9 true,gc 13 135 [.t 11,.t 12] 9 true,pf 14 9 13,v 15 14,gl 16 true 2 2 15 true,gc 17 59 [.t 16] 15 true,gb 18 .eql (.t 17) (i 0) 15 true,pf 19 15 18,v 4 19]
 .ret))⟩
def a71:AFn:=⟨17,[.tmp 4],(q [o 2 (.box (.t 0)),o 4 (.mv (.k (.str [])))]
 (.seq (.dreg [fa 5 0 2,w 6 false 1 5 10,v 7 1,o 8 (.cvi .i64 (.t 7)),c 9 99 [.t 8,i 255],fa 10 1 2,w 11 false 1 10 6,fa 12 0 2,w 13 false 1 12 8,c 14 73 [.t 11,.t 13],c 15 74 [.t 9,.t 14],c 16 72 [.t 6,.t 15],v 4 16])
 .ret))⟩
def tab:T AFn:=(.node (.node (.node (.node .nil none (.node (.node (.node .nil (some a71) .nil) none .nil) none .nil)) none (.node .nil (some a11) .nil)) none .nil) none (.node .nil none (.node .nil none (.node (.node (.node (.node .nil (some a70) .nil) none .nil) none .nil) none .nil))))
section
open Go.Proofs
theorem b11:Chk 11 a11:=by unfold Chk;kernel_rfl
theorem b70:Chk 70 a70:=by unfold Chk;kernel_rfl
theorem b71:Chk 71 a71:=by unfold Chk;kernel_rfl
theorem all:T.Forall Chk tab (fun n=>n):=⟨C.no,⟨C.no,⟨C.no,⟨C.no,trivial,⟨C.no,⟨C.no,⟨C.yes b71,trivial,trivial⟩,trivial⟩,trivial⟩⟩,⟨C.yes b11,trivial,trivial⟩⟩,trivial⟩,⟨C.no,trivial,⟨C.no,trivial,⟨C.no,⟨C.no,⟨C.no,⟨C.yes b70,trivial,trivial⟩,trivial⟩,trivial⟩,trivial⟩⟩⟩⟩
theorem good (n:Nat) (a:AFn) (h:tab.get n=some a):chk Tryz.prog n=some a:=T.get_forall tab (fun n=>n) all n a h
end
end Go.Ae.Ha
set_option linter.unusedVariables false
set_option linter.unusedSimpArgs false
set_option maxRecDepth 100000
set_option maxHeartbeats 2000000
set_option exponentiation.threshold 5000
namespace Go.Ae
open Bg N Go.Proofs
noncomputable section
def fewB (s:List UInt8) (n:Nat):Bool:=decide (s.length≤2*n+2)&&(decide (checkV s=0)&&(decide ((absS (numS s)).length≤n)&&decide ((denS s).length≤n)))
theorem num_txt (r:Rat):numS (txtR r)=txtZ r.num:=by
 unfold numS
 rw[slash_txt r]
 unfold txtR
 split
 ·rw[List.take_length]
 ·rw[List.take_left]
theorem den_txt (r:Rat):denS (txtR r)=decP r.den 1:=by
 unfold denS
 rw[slash_txt r]
 unfold txtR
 split
 ·rename_i h
  rw[if_pos rfl,h]
  decide+kernel
 ·rw[if_neg (by simp),←List.drop_drop,List.drop_left,txtZ_nat];rfl
theorem abs_txt (z:Int):absS (txtZ z)=decP z.natAbs 1:=by
 have hz:txtZ z=txtR (Rat.divInt z 1):=by
  unfold txtR
  rw[(divInt_one (p:=z)).2,(divInt_one (p:=z)).1,if_pos rfl]
 have hs:=sgn_txtR (Rat.divInt z 1)
 rw[←hz,(divInt_one (p:=z)).1]at hs
 unfold absS
 rw[hs]
 unfold txtZ
 by_cases c:z<0
 ·rw[if_pos c,if_pos (by decide),if_pos c];rfl
 ·rw[if_neg c,if_neg (by split<;>decide),if_neg c]
def Few (r:Rat):Prop:=r.num.natAbs<10^6∧r.den<10^6
theorem few_of {s:List UInt8} (h:fewB s 6=true):s.length≤14∧checkV s=0∧Few (valS s):=by
 unfold fewB at h
 simp only[Bool.and_eq_true,decide_eq_true_eq]at h
 obtain⟨h1,h2,h3,h4⟩:=h
 refine⟨h1,h2,?_⟩
 obtain⟨t,_⟩:=txtR_valS h2
 rw[t,num_txt,abs_txt]at h3
 rw[t,den_txt]at h4
 exact⟨(decP_le (by decide)).1 h3,(decP_le (by decide)).1 h4⟩
def EH:Env:=EF.add Ha.tab
theorem geH:Ge EF EH:=Ge.add _ _
section
variable {h h' h0 hp:Hp} {K:AV→Hp→Prop} {tm:T AV} {v va vb w:AV} {a b c d r:Rat} {s u s' u' p q:List UInt8} {e:Int} {n:Nat}
theorem g0 {f:Nat} {args:List AV} {v:AV} (hc:Gv EF f args h v):Gv EH f args h v:=hc.ge fun _ _ _ hk=>hk.ge geH
theorem g3 {f:Nat} {args:List AV} {v:AV} (hc:Gv E3 f args h v):Gv EH f args h v:=g0 (f3 hc)
theorem gu2' {f:Nat} {args:List AV} {h':Hp} {v:AV} (hc:∀K,CallWp E2 f args h K↔K v h'):CallWp EH f args h K↔K v h':=up geH fun K=>fu2 hc
theorem d135 (hs:s.length≤1000000):Gv E3 135 [.str s,.int .i64 6] h (.bool (fewB s 6)):=by
 refine Gv.of (CallWp.fn (fn:=R.a135) rfl rfl rfl ?_)
 unfold R.a135 fewB
 by_cases g1:s.length≤14
 ·have g1':(s.length:Int)≤14:=by omega
  rw[decide_eq_true (show s.length≤2*6+2 from g1)]
  by_cases g2:checkV s=0
  ·rw [decide_eq_true g2]
   by_cases g3:(absS (numS s)).length≤6
   ·have g3':((absS (numS s)).length:Int)≤6:=by omega
    rw[decide_eq_true g3]
    by_cases g4:(denS s).length≤6
    ·have g4':((denS s).length:Int)≤6:=by omega
     rw[decide_eq_true g4]
     repeat' (with_reducible first|simp(disch:=first|exact okD|fail) only[go_sem,seval,g1',g2,g3',g4',c128 (show s.length≤9223372036854775807 by omega),c129 (show s.length≤9223372036854775807 by omega),c214 (show(numS s).length≤9223372036854775807 from Nat.le_trans (num_le s) (by omega))]|(refine Gv.wp (d19 hs) fun _ _ _ _=>?_)|(apply Spl.i<;>intro hc))
     exact okG
    ·have g4':¬((denS s).length:Int)≤6:=by omega
     rw[decide_eq_false g4]
     repeat' (with_reducible first|simp(disch:=first|exact okD|fail) only[go_sem,seval,g1',g2,g3',g4',c128 (show s.length≤9223372036854775807 by omega),c129 (show s.length≤9223372036854775807 by omega),c214 (show(numS s).length≤9223372036854775807 from Nat.le_trans (num_le s) (by omega))]|(refine Gv.wp (d19 hs) fun _ _ _ _=>?_)|(apply Spl.i<;>intro hc))
     exact okG
   ·have g3':¬((absS (numS s)).length:Int)≤6:=by omega
    rw[decide_eq_false g3]
    repeat' (with_reducible first|simp(disch:=first|exact okD|fail) only[go_sem,seval,g1',g2,g3',c128 (show s.length≤9223372036854775807 by omega),c214 (show(numS s).length≤9223372036854775807 from Nat.le_trans (num_le s) (by omega))]|(refine Gv.wp (d19 hs) fun _ _ _ _=>?_)|(apply Spl.i<;>intro hc))
    exact okG
  ·rw[decide_eq_false g2]
   repeat' (with_reducible first|simp(disch:=first|exact okD|fail) only[go_sem,seval,g1',g2]|(refine Gv.wp (d19 hs) fun _ _ _ _=>?_)|(apply Spl.i<;>intro hc))
   exact okG
 ·have g1':¬(s.length:Int)≤14:=by omega
  rw[decide_eq_false (show ¬s.length≤2*6+2 from g1),Bool.false_and]
  repeat' (with_reducible first|simp(disch:=first|exact okD|fail) only[go_sem,seval,g1']|(apply Spl.i<;>intro hc))
theorem d135_long (hs:¬s.length≤14):Gv E3 135 [.str s,.int .i64 6] h (.bool false):=by
 refine Gv.of (CallWp.fn (fn:=R.a135) rfl rfl rfl ?_)
 unfold R.a135
 have g1':¬(s.length:Int)≤14:=by omega
 repeat' (with_reducible first|simp(disch:=first|exact okD|fail) only[go_sem,seval,g1']|(apply Spl.i<;>intro hc))
theorem few_l6 (h:fewB s 6=true):s.length≤14:=(few_of h).1
theorem d70_yes (h1:fewB s 6=true) (h2:fewB u 6=true) (h3:spanV s u=0):Gv EH 70 [spn s u,.int .i64 6] h (.bool true):=by
 refine Gv.of (CallWp.fn (fn:=Ha.a70) rfl rfl rfl ?_)
 unfold Ha.a70
 have l1:=few_l6 h1
 have l2:=few_l6 h2
 have c1:=fun h=>g3 (d135 (h:=h) (s:=s) (by omega))
 have c2:=fun h=>g3 (d135 (h:=h) (s:=u) (by omega))
 have c3:=fun h=>g3 (d59 (h:=h) (s:=s) (u:=u) (by omega) (by omega))
 rw[h1]at c1
 rw[h2]at c2
 rw[h3]at c3
 repeat' (with_reducible first|simp(disch:=first|exact okD|fail) only[go_sem,seval]|(refine Gv.wp (c1 _) fun _ _ _ _=>?_)|(refine Gv.wp (c2 _) fun _ _ _ _=>?_)|(refine Gv.wp (c3 _) fun _ _ _ _=>?_)|(apply Spl.i<;>intro hc))
 exact okG
theorem d70_no (hn:¬(fewB s 6=true∧fewB u 6=true∧spanV s u=0)):Gv EH 70 [spn s u,.int .i64 6] h (.bool false):=by
 refine Gv.of (CallWp.fn (fn:=Ha.a70) rfl rfl rfl ?_)
 unfold Ha.a70
 have no:∀{s:List UInt8} (h1:¬fewB s 6=true) h,Gv EH 135 [.str s,.int .i64 6] h (.bool false):=fun{s} h1 h=>by
  by_cases l:s.length≤14
  ·have:=g3 (d135 (h:=h) (s:=s) (by omega))
   rwa[show fewB s 6=false by simpa using h1]at this
  ·exact g3 (d135_long l)
 by_cases h1:fewB s 6=true
 ·have l1:=few_l6 h1
  have c1:=fun h=>g3 (d135 (h:=h) (s:=s) (by omega))
  rw[h1]at c1
  by_cases h2:fewB u 6=true
  ·have l2:=few_l6 h2
   have c2:=fun h=>g3 (d135 (h:=h) (s:=u) (by omega))
   rw[h2]at c2
   have c3:=fun h=>g3 (d59 (h:=h) (s:=s) (u:=u) (by omega) (by omega))
   have h3:¬spanV s u=0:=fun e=>hn ⟨h1,h2,e⟩
   repeat' (with_reducible first|simp(disch:=first|exact okD|fail) only[go_sem,seval,h3]|(refine Gv.wp (c1 _) fun _ _ _ _=>?_)|(refine Gv.wp (c2 _) fun _ _ _ _=>?_)|(refine Gv.wp (c3 _) fun _ _ _ _=>?_)|(apply Spl.i<;>intro hc))
   exact okG
  ·repeat' (with_reducible first|simp(disch:=first|exact okD|fail) only[go_sem,seval]|(refine Gv.wp (c1 _) fun _ _ _ _=>?_)|(refine Gv.wp (no h2 _) fun _ _ _ _=>?_)|(apply Spl.i<;>intro hc))
   exact okG
 ·repeat' (with_reducible first|simp(disch:=first|exact okD|fail) only[go_sem,seval]|(refine Gv.wp (no h1 _) fun _ _ _ _=>?_)|(apply Spl.i<;>intro hc))
  exact okG
def inS (a b:Rat) (p:Int):Rat:=a+Rat.divInt p 255*(b-a)
theorem d71 {p:Int} (hp:0≤p∧p≤255) (i:Br 67 a) (j:Br 67 b):Gv EH 71 [spn (txtR a) (txtR b),.int .u8 p] h (.str (txtR (inS a b p))):=by
 refine Gv.of (CallWp.fn (fn:=Ha.a71) rfl rfl rfl ?_)
 unfold Ha.a71 inS
 have c1:=fun h=>g3 (d99 (h:=h) (x:=p) (y:=255) (by omega) (by omega) (by omega))
 have bp:Br 67 (Rat.divInt p 255):=by
  obtain⟨h1,h2⟩:=divInt_le (p:=p) (q:=255) (by decide)
  refine⟨?_,?_⟩
  ·exact Nat.lt_of_le_of_lt h1 (Nat.lt_of_le_of_lt (show p.natAbs≤255 by omega) (by decide))
  ·exact Nat.lt_of_le_of_lt (by rw[Int.natAbs_natCast];exact h2) (by decide)
 have w1:IntKind.wrap .i64 p=p:=wrap_i64 (by omega)
 have bs:=j.sub i
 have bm:=bp.mul bs
 have c2:=fun h=>g3 (d73 (h:=h) (j.mono (by decide:67≤2000)) (i.mono (by decide:67≤2000)))
 have c3:=fun h=>g3 (d74 (h:=h) (bp.mono (by decide:67≤2000)) (bs.mono (by decide:_≤2000)))
 have c4:=fun h=>g3 (d72 (h:=h) (i.mono (by decide:67≤2000)) (bm.mono (by decide:_≤2000)))
 generalize Rat.divInt p 255=t at *
 repeat' (with_reducible first|simp(disch:=first|exact okD|fail) only[go_sem,seval,w1]|(refine Gv.wp (c1 _) fun _ _ _ _=>?_)|(refine Gv.wp (c2 _) fun _ _ _ _=>?_)|(refine Gv.wp (c3 _) fun _ _ _ _=>?_)|(refine Gv.wp (c4 _) fun _ _ _ _=>?_)|(apply Spl.i<;>intro hc))
 exact okG
theorem Few.br (h:Few r):Br 1 r:=by
 refine⟨?_,?_⟩
 ·exact Nat.lt_of_lt_of_le h.1 (by decide)
 ·show((r.den:Int)).natAbs<_
  rw[Int.natAbs_natCast];exact Nat.lt_of_lt_of_le h.2 (by decide)
theorem ok_of_br {n:Nat} (h:Br n r) (hn:n≤60):okR r=true:=by
 unfold okR
 have e:(1000000000:Nat)^60≤10^600:=by decide+kernel
 have h':=h.mono hn
 have h2:(r.den:Int).natAbs<1000000000^60:=h'.2
 rw[Int.natAbs_natCast]at h2
 exact decide_eq_true ⟨Nat.lt_of_lt_of_le h'.1 e,Nat.lt_of_lt_of_le h2 e⟩
theorem part_in {p:Int} (hp:0≤p∧p≤255):0≤Rat.divInt p 255∧Rat.divInt p 255≤1:=by
 have e:Rat.divInt p 255*255=(p:Rat):=by
  rw[Rat.divInt_eq_div];exact Rat.div_mul_cancel (by decide)
 have e0:(0:Rat)≤(p:Rat):=by exact_mod_cast hp.1
 have e1:(p:Rat)≤255:=by exact_mod_cast hp.2
 constructor<;>grind
theorem inS_in {p:Int} (hp:0≤p∧p≤255) (hab:a≤b):a≤inS a b p∧inS a b p≤b:=by
 unfold inS
 obtain⟨q1,q2⟩:=part_in hp
 exact in_between hab q1 q2
theorem inS_br {p:Int} (hp:0≤p∧p≤255) (i:Br 1 a) (j:Br 1 b):Br 6 (inS a b p):=by
 have bp:Br 1 (Rat.divInt p 255):=by
  obtain⟨h1,h2⟩:=divInt_le (p:=p) (q:=255) (by decide)
  refine⟨?_,?_⟩
  ·exact Nat.lt_of_le_of_lt h1 (Nat.lt_of_le_of_lt (show p.natAbs≤255 by omega) (by decide))
  ·exact Nat.lt_of_le_of_lt (by rw[Int.natAbs_natCast];exact h2) (by decide)
 exact(i.add (bp.mul (j.sub i))).mono (by decide)
end
end
end Go.Ae
set_option linter.unusedVariables false
set_option linter.unusedSimpArgs false
set_option maxRecDepth 100000
set_option maxHeartbeats 4000000
set_option exponentiation.threshold 5000
namespace Go.Ae
open Bg N Go.Proofs
noncomputable section
section
variable {h h' hp:Hp} {K:AV→Hp→Prop} {tm:T AV} {v va vb s w:AV} {z z':Int} {a b c r:Rat}
theorem txt_len {n:Nat} {a:Rat} (i:Br n a) (hn:n≤2000):(txtR a).length≤1000000:=by
 have:=(txtR_le (i.mono hn).1 (i.mono hn).2).1
 omega
end
end
end Go.Ae
set_option linter.unusedVariables false
set_option linter.unusedSimpArgs false
set_option maxRecDepth 100000
set_option maxHeartbeats 8000000
set_option exponentiation.threshold 5000
namespace Go.Ae
open Bg N Go.Proofs
noncomputable section
section
variable {h h' h0 hp:Hp} {K:AV→Hp→Prop} {tm:T AV} {v va vb w:AV} {a b c d r:Rat} {s u s' u' p q:List UInt8} {e:Int}
theorem two_mem {P:Rat→Prop} (ha:P a) (hb:P b):∀x∈[a,b],P x:=fun x hx=>by
 simp only[List.mem_cons,List.not_mem_nil,or_false]at hx
 rcases hx with rfl|rfl<;>assumption
theorem x165s (h1:spanV s u=0) (h2:spanV s' u'=0):Gv EX 165 [spn s u,spn s' u',.fn 163 []] h (spr (spA (valS s+valS s') (valS u+valS u')) (spB (valS s+valS s') (valS u+valS u')) (spE (valS s+valS s') (valS u+valS u'))):=by
 obtain⟨z1,z2,l1⟩:=spanV_zero h1
 obtain⟨z3,z4,l2⟩:=spanV_zero h2
 obtain⟨t1,o1⟩:=txtR_valS z1
 obtain⟨t2,o2⟩:=txtR_valS z2
 obtain⟨t3,o3⟩:=txtR_valS z3
 obtain⟨t4,o4⟩:=txtR_valS z4
 have B:=two_mem (P:=Bd 110) (Bd_ok o1) (Bd_ok o2)
 have D:=two_mem (P:=Bd 110) (Bd_ok o3) (Bd_ok o4)
 have:=x165 (h:=h) (f:=163) (op:=fun x y=>x+y) o1 o2 o3 o4 (fun x hx y hy {h va vb} i j=>xp2 (i163 i j ((B x hx).mono (by decide)) ((D y hy).mono (by decide)))) (fun x hx y hy=>((B x hx).add (D y hy)).mono (by decide))
 rwa[mn4_add l1 l2,mx4_add l1 l2,spT_eq,←t1,←t2,←t3,←t4]at this
theorem x165d (h1:spanV s u=0) (h2:spanV s' u'=0):Gv EX 165 [spn s u,spn s' u',.fn 164 []] h (spr (spA (valS s-valS u') (valS u-valS s')) (spB (valS s-valS u') (valS u-valS s')) (spE (valS s-valS u') (valS u-valS s'))):=by
 obtain⟨z1,z2,l1⟩:=spanV_zero h1
 obtain⟨z3,z4,l2⟩:=spanV_zero h2
 obtain⟨t1,o1⟩:=txtR_valS z1
 obtain⟨t2,o2⟩:=txtR_valS z2
 obtain⟨t3,o3⟩:=txtR_valS z3
 obtain⟨t4,o4⟩:=txtR_valS z4
 have B:=two_mem (P:=Bd 110) (Bd_ok o1) (Bd_ok o2)
 have D:=two_mem (P:=Bd 110) (Bd_ok o3) (Bd_ok o4)
 have:=x165 (h:=h) (f:=164) (op:=fun x y=>x-y) o1 o2 o3 o4 (fun x hx y hy {h va vb} i j=>xp2 (i164 i j ((B x hx).mono (by decide)) ((D y hy).mono (by decide)))) (fun x hx y hy=>by
  show Bd 400 (x-y)
  rw[Rat.sub_eq_add_neg];exact((B x hx).add (D y hy).neg).mono (by decide))
 rwa[mn4_sub l1 l2,mx4_sub l1 l2,spT_eq,←t1,←t2,←t3,←t4]at this
theorem x165m (h1:spanV s u=0) (h2:spanV s' u'=0) {lo hi:Rat} (e1:mn4 (valS s*valS s') (valS s*valS u') (valS u*valS s') (valS u*valS u')=lo) (e2:mx4 (valS s*valS s') (valS s*valS u') (valS u*valS s') (valS u*valS u')=hi):
  Gv EX 165 [spn s u,spn s' u',.fn 115 []] h (spr (spA lo hi) (spB lo hi) (spE lo hi)):=by
 obtain⟨z1,z2,l1⟩:=spanV_zero h1
 obtain⟨z3,z4,l2⟩:=spanV_zero h2
 obtain⟨t1,o1⟩:=txtR_valS z1
 obtain⟨t2,o2⟩:=txtR_valS z2
 obtain⟨t3,o3⟩:=txtR_valS z3
 obtain⟨t4,o4⟩:=txtR_valS z4
 have B:=two_mem (P:=Bd 110) (Bd_ok o1) (Bd_ok o2)
 have D:=two_mem (P:=Bd 110) (Bd_ok o3) (Bd_ok o4)
 have:=x165 (h:=h) (f:=115) (op:=fun x y=>x*y) o1 o2 o3 o4 (fun x hx y hy {h va vb} i j=>xp2 (i115 i j ((B x hx).mono (by decide)) ((D y hy).mono (by decide)))) (fun x hx y hy=>((B x hx).mul (D y hy)).mono (by decide))
 rwa[e1,e2,spT_eq,←t1,←t2,←t3,←t4]at this
theorem x165q (h1:spanV s u=0) (h2:spanV s' u'=0) (c0:valS s'≠0) (d0:valS u'≠0) {lo hi:Rat} (e1:mn4 (valS s/valS s') (valS s/valS u') (valS u/valS s') (valS u/valS u')=lo) (e2:mx4 (valS s/valS s') (valS s/valS u') (valS u/valS s') (valS u/valS u')=hi):
  Gv EX 165 [spn s u,spn s' u',.fn 166 []] h (spr (spA lo hi) (spB lo hi) (spE lo hi)):=by
 obtain⟨z1,z2,l1⟩:=spanV_zero h1
 obtain⟨z3,z4,l2⟩:=spanV_zero h2
 obtain⟨t1,o1⟩:=txtR_valS z1
 obtain⟨t2,o2⟩:=txtR_valS z2
 obtain⟨t3,o3⟩:=txtR_valS z3
 obtain⟨t4,o4⟩:=txtR_valS z4
 have B:=two_mem (P:=Bd 110) (Bd_ok o1) (Bd_ok o2)
 have D:=two_mem (P:=Bd 110) (Bd_ok o3) (Bd_ok o4)
 have Z:=two_mem (P:=fun x:Rat=>x≠0) c0 d0
 have:=x165 (h:=h) (f:=166) (op:=fun x y=>x/y) o1 o2 o3 o4 (fun x hx y hy {h va vb} i j=>xp2 (i166 i j ((B x hx).mono (by decide)) ((D y hy).mono (by decide)) (Z y hy))) (fun x hx y hy=>by
  show Bd 400 (x/y)
  rw[Rat.div_def];exact((B x hx).mul ((D y hy).inv (Z y hy))).mono (by decide))
 rwa[e1,e2,spT_eq,←t1,←t2,←t3,←t4]at this
end
end
end Go.Ae
set_option linter.unusedVariables false
set_option linter.unusedSimpArgs false
set_option maxRecDepth 100000
set_option maxHeartbeats 16000000
set_option exponentiation.threshold 5000
namespace Go.Ae
open Bg N Go.Proofs
noncomputable section
section
variable {h h' h0 hp:Hp} {K:AV→Hp→Prop} {tm:T AV} {v va vb w:AV} {a b c d r x y:Rat} {s u s' u' p q:List UInt8} {e:Int} {n t:Nat} {cs:List AV}
theorem AtS.push_o {f:Nat→AObj} (a:AtS h t cs):AtS (h.push f) t cs:=a.grs (Grs.refl h).push
theorem AtS.ov {k j:Nat} {g:Grw h h' k j} (a:AtS h t cs):AtS (h.ov h' g) t cs:=a.grs ⟨_,_,g⟩
theorem okS {p:Prop} (h:p:=by repeat(first|assumption|exact AtS.at_push okO|exact AtS.put okO|refine AtS.push_o ?_|refine AtS.ov ?_|refine AtS.other ?_ okO)):p:=h
theorem spA_ok {lo hi:Rat} (h1:okR lo=true) (h2:okR hi=true):spr (spA lo hi) (spB lo hi) (spE lo hi)=spr (txtR lo) (txtR hi) 0:=by
 unfold spA spB spE
 rw[if_pos ⟨h1,h2⟩,if_pos ⟨h1,h2⟩,if_pos ⟨h1,h2⟩]
theorem spanV_txt {lo hi:Rat} (h1:okR lo=true) (h2:okR hi=true) (hl:lo≤hi):spanV (txtR lo) (txtR hi)=0:=by
 unfold spanV chk2
 rw[checkV_txt,checkV_txt,if_pos h1,if_pos h2,if_pos rfl,if_pos rfl,valS_txt,valS_txt]
 have:=sgR_le.2 hl
 rw[if_neg (by omega)]
def eV (p q:Bool):Int:=(if p then 1 else 0)+(if q then 2 else 0)
theorem or1 {p q:Bool}:binA .or .none (.int .i64 (eV p q)) (.int .i64 1)=some (.int .i64 (eV true q)):=by cases p<;>cases q<;>rfl
theorem or2 {p q:Bool}:binA .or .none (.int .i64 (eV p q)) (.int .i64 2)=some (.int .i64 (eV p true)):=by cases p<;>cases q<;>rfl
theorem eV3:eV true true=3:=rfl
theorem ends_met:mn4 a b c d∈[a,b,c,d]∧mx4 a b c d∈[a,b,c,d]:=⟨mn4_p (P:=fun x=>x∈[a,b,c,d]) (by simp) (by simp) (by simp) (by simp),mx4_p (P:=fun x=>x∈[a,b,c,d]) (by simp) (by simp) (by simp) (by simp)⟩
theorem txt_le {n:Nat} {a:Rat} (i:Br n a) (hn:n≤60):(txtR a).length≤1000000:=txt_len i (by omega)
theorem q59 {n:Nat} {lo hi:Rat} (i:Br n lo) (j:Br n hi) (hn:n≤60) (l:lo≤hi):Gv EH 59 [spn (txtR lo) (txtR hi)] h (.int .i64 0):=by
 have:=g3 (d59 (h:=h) (txt_le i hn) (txt_le j hn))
 rwa[spanV_txt (ok_of_br i hn) (ok_of_br j hn) l]at this
theorem q68 {n:Nat} {lo hi t:Rat} (i:Br n lo) (j:Br n hi) (k:Br n t) (hn:n≤60) (h1:lo≤t) (h2:t≤hi):Gv EH 68 [spn (txtR lo) (txtR hi),.str (txtR t)] h (.bool true):=by
 have:=g3 (d68 (h:=h) (i.mono (by omega:n≤2000)) (j.mono (by omega:n≤2000)) (k.mono (by omega:n≤2000)))
 rwa[decide_eq_true ⟨h1,h2⟩]at this
theorem l11_end {X Y L H L' H' QL QH XY:List UInt8} {g1 g2 qe:Int} {zb:Bool} {p3 p4 p13:Nat} (hG:Grs h hp) (k3:val tm (.t 3)= .ptr p3 0) (k4:val tm (.t 4)= .ptr p4 0) (k7:val tm (.t 7)= .str X) (k8:val tm (.t 8)= .str Y) (k13:val tm (.t 13)= .ptr p13 0) (k15:val tm (.t 15)= .int .i64 3)
  (A3:AtS hp p3 [.str s,.str u]) (A4:AtS hp p4 [.str s',.str u']) (A13:AtS hp p13 [.str L,.str H])
  (r5:∀h,Gv EH 63 [spn X X,spn s' u'] h (spr L' H' 0)) (q5:∀h,Gv EH 59 [spn L' H'] h (.int .i64 0)) (m5:∀h,Gv EH 75 [.str L',.str L] h (.int .i64 g1)) (m6:∀h,Gv EH 75 [.str H',.str H] h (.int .i64 g2)) (n1:¬g1<0) (n2:¬0<g2)
  (r4:∀h,Gv EH 64 [spn s u,spn s' u'] h (spr QL QH qe)) (z4:∀h,Gv EH 68 [spn s' u',.str [48]] h (.bool zb)) (ze:qe=if zb=true then 6 else 0)
  (q4:zb=false→∀h,Gv EH 59 [spn QL QH] h (.int .i64 0)) (m7:zb=false→∀h,Gv EH 76 [.str X,.str Y] h (.str XY)) (q6:zb=false→∀h,Gv EH 68 [spn QL QH,.str XY] h (.bool true)):
  Wp EH (ACode.post 1 (ACode.post 9 Ha.a11.code)) ⟨tm,hp⟩ (RetQ [.tmp 6] fun v h'=>v= .bool true∧Grs h h'):=by
 unfold Ha.a11
 dsimp only[ACode.post]
 obtain⟨s3,g3',c3,l3⟩:=A3
 obtain⟨s4,g4',c4,l4⟩:=A4
 obtain⟨s13,g13',c13,l13⟩:=A13
 cases zb
 ·rw[if_neg (by decide)]at ze
  subst ze
  have q4:=q4 rfl
  have m7:=m7 rfl
  have q6:=q6 rfl
  repeat' (with_reducible first|simp(disch:=first|exact okD|fail) only[go_sem,seval,k3,k4,k7,k8,k13,k15,g3',g4',g13',n1,n2]|(refine Gv.wp (r5 _) fun _ _ _ _=>?_)|(refine Gv.wp (q5 _) fun _ _ _ _=>?_)|(refine Gv.wp (m5 _) fun _ _ _ _=>?_)|(refine Gv.wp (m6 _) fun _ _ _ _=>?_)|(refine Gv.wp (r4 _) fun _ _ _ _=>?_)|(refine Gv.wp (z4 _) fun _ _ _ _=>?_)|(refine Gv.wp (q4 _) fun _ _ _ _=>?_)|(refine Gv.wp (m7 _) fun _ _ _ _=>?_)|(refine Gv.wp (q6 _) fun _ _ _ _=>?_)|(apply Spl.i<;>intro hc))
  refine hG.trans ?_
  exact okG
 ·rw[if_pos rfl]at ze
  subst ze
  repeat' (with_reducible first|simp(disch:=first|exact okD|fail) only[go_sem,seval,k3,k4,k7,k8,k13,k15,g3',g4',g13',n1,n2]|(refine Gv.wp (r5 _) fun _ _ _ _=>?_)|(refine Gv.wp (q5 _) fun _ _ _ _=>?_)|(refine Gv.wp (m5 _) fun _ _ _ _=>?_)|(refine Gv.wp (m6 _) fun _ _ _ _=>?_)|(refine Gv.wp (r4 _) fun _ _ _ _=>?_)|(refine Gv.wp (z4 _) fun _ _ _ _=>?_)|(apply Spl.i<;>intro hc))
  refine hG.trans ?_
  exact okG
theorem l11_loop {X Y L H:List UInt8} {p3 p4:Nat} (hG:Grs h hp) (k3:val tm (.t 3)= .ptr p3 0) (k4:val tm (.t 4)= .ptr p4 0) (k7:val tm (.t 7)= .str X) (k8:val tm (.t 8)= .str Y) (k15:val tm (.t 15)= .int .i64 0)
  (A3:AtS hp p3 [.str s,.str u]) (A4:AtS hp p4 [.str s',.str u']) (A13:∃p13,val tm (.t 13)= .ptr p13 0∧AtS hp p13 [.str L,.str H])
  {T:List (List UInt8)} (hT:T.length=4) (m:∀(i j:Nat) (hi:i<2) (hj:j<2) h,Gv EH 74 [.str ([s,u][i]),.str ([s',u'][j])] h (.str (T[i*2+j]'(by omega)))) (mL:L∈T) (mH:H∈T)
  (fin:∀tm hp p13,Grs h hp→val tm (.t 3)= .ptr p3 0→val tm (.t 4)= .ptr p4 0→val tm (.t 7)= .str X→val tm (.t 8)= .str Y→val tm (.t 13)= .ptr p13 0→val tm (.t 15)= .int .i64 3→
   AtS hp p3 [.str s,.str u]→AtS hp p4 [.str s',.str u']→AtS hp p13 [.str L,.str H]→Wp EH (ACode.post 1 (ACode.post 9 Ha.a11.code)) ⟨tm,hp⟩ (RetQ [.tmp 6] fun v h'=>v= .bool true∧Grs h h')):
  Wp EH (ACode.post 9 Ha.a11.code) ⟨tm,hp⟩ (RetQ [.tmp 6] fun v h'=>v= .bool true∧Grs h h'):=by
 refine Wp.cut 1 rfl ?_
 generalize ACode.post 1 (ACode.post 9 Ha.a11.code)=rest at fin⊢
 unfold Ha.a11
 dsimp only[ACode.post,ACode.pre]
 obtain⟨p13,k13,A13⟩:=A13
 obtain⟨s3,g3',c3,l3⟩:=id A3
 repeat' (with_reducible first|simp(disch:=first|exact okD|fail) only[go_sem,seval,k3,g3']|(apply Spl.i<;>intro hc))
 refine Wp.loopI (fun k st=>∃(i:Nat),val st.tm (.t 3)= .ptr p3 0∧val st.tm (.t 4)= .ptr p4 0∧val st.tm (.t 7)= .str X∧val st.tm (.t 8)= .str Y∧val st.tm (.t 13)= .ptr p13 0∧val st.tm (.t 15)= .int .i64 (eV (decide (L∈T.take (i*2))) (decide (H∈T.take (i*2))))∧
  val st.tm (.t 111)= .sl hp.next 0 2 1∧val st.tm (.t 112)= .int .i64 2∧val st.tm (.t 113)= .int .i64 i∧AtS st.hp p3 [.str s,.str u]∧AtS st.hp p4 [.str s',.str u']∧AtS st.hp p13 [.str L,.str H]∧AtS st.hp hp.next [.str s,.str u]∧Grs h st.hp∧i≤2∧2-i=k) (n:=2) ?_ ?_
 ·refine⟨0,by simp(disch:=first|exact okD|fail) only[go_sem,seval,k3],by simp(disch:=first|exact okD|fail) only[go_sem,seval,k4],by simp(disch:=first|exact okD|fail) only[go_sem,seval,k7],by simp(disch:=first|exact okD|fail) only[go_sem,seval,k8],by simp(disch:=first|exact okD|fail) only[go_sem,seval,k13],by(simp(disch:=first|exact okD|fail) only[go_sem,seval,k15])<;>rfl,by simp(disch:=first|exact okD|fail) only[go_sem,seval],by simp(disch:=first|exact okD|fail) only[go_sem,seval],by(simp(disch:=first|exact okD|fail) only[go_sem,seval])<;>rfl,okS,okS,okS,okS,hG.trans okG,Nat.zero_le _,rfl⟩
 ·rintro k ⟨tm,hq⟩ ⟨i,k3,k4,k7,k8,k13,k15,k111,k112,k113,A3,A4,A13,A111,hG,hle,rfl⟩
  simp only at k3 k4 k7 k8 k13 k15 k111 k112 k113 A3 A4 A13 A111 hG
  by_cases hi:i<2
  ·have hi':(i:Int)<2:=by omega
   have e1:([.str s,.str u]:List AV)[i]?=some (.str [s,u][i]):=by
    rcases(show i=0∨i=1 by omega)with rfl|rfl<;>rfl
   obtain⟨s4,g4',c4,l4⟩:=id A4
   obtain⟨s5,g5',c5,l5⟩:=id A111
   have hle1:i+1≤2:=hi
   obtain⟨P,hP⟩:∃P,P=[s,u][i]:=⟨_,rfl⟩
   have m:∀(j:Nat) (hj:j<2) h,Gv EH 74 [.str P,.str ([s',u'][j])] h (.str (T[i*2+j]'(by omega))):=fun j hj h=>by rw[hP];exact m i j hi hj h
   rw[←hP]at e1
   clear hP
   repeat' (with_reducible first|simp(disch:=first|exact okD|fail) only[go_sem,seval,k3,k4,k7,k8,k13,k15,k111,k112,k113,hi',g4',g5',e1,hle1]|(apply Spl.i<;>intro hc))
   refine Wp.loopI (fun k st=>∃(j:Nat),val st.tm (.t 3)= .ptr p3 0∧val st.tm (.t 4)= .ptr p4 0∧val st.tm (.t 7)= .str X∧val st.tm (.t 8)= .str Y∧val st.tm (.t 13)= .ptr p13 0∧val st.tm (.t 15)= .int .i64 (eV (decide (L∈T.take (i*2+j))) (decide (H∈T.take (i*2+j))))∧
    val st.tm (.t 17)= .str P∧val st.tm (.t 111)= .sl hp.next 0 2 1∧val st.tm (.t 112)= .int .i64 2∧val st.tm (.t 113)= .int .i64 i∧val st.tm (.t 121)= .sl hq.next 0 2 1∧val st.tm (.t 122)= .int .i64 2∧val st.tm (.t 123)= .int .i64 j∧
    AtS st.hp p3 [.str s,.str u]∧AtS st.hp p4 [.str s',.str u']∧AtS st.hp p13 [.str L,.str H]∧AtS st.hp hp.next [.str s,.str u]∧AtS st.hp hq.next [.str s',.str u']∧Grs h st.hp∧j≤2∧2-j=k) (n:=2) ?_ ?_
   ·refine⟨0,by simp(disch:=first|exact okD|fail) only[go_sem,seval,k3],by simp(disch:=first|exact okD|fail) only[go_sem,seval,k4],by simp(disch:=first|exact okD|fail) only[go_sem,seval,k7],by simp(disch:=first|exact okD|fail) only[go_sem,seval,k8],by simp(disch:=first|exact okD|fail) only[go_sem,seval,k13],by simp(disch:=first|exact okD|fail) only[go_sem,seval,k15],by simp(disch:=first|exact okD|fail) only[go_sem,seval],by simp(disch:=first|exact okD|fail) only[go_sem,seval,k111],by simp(disch:=first|exact okD|fail) only[go_sem,seval,k112],by simp(disch:=first|exact okD|fail) only[go_sem,seval,k113],by simp(disch:=first|exact okD|fail) only[go_sem,seval],by simp(disch:=first|exact okD|fail) only[go_sem,seval],by(simp(disch:=first|exact okD|fail) only[go_sem,seval])<;>rfl,okS,okS,okS,okS,okS,hG.trans okG,Nat.zero_le _,rfl⟩
   ·clear k3 k4 k7 k8 k13 k15 k111 k112 k113
    rintro k ⟨tm,hr⟩ ⟨j,k3,k4,k7,k8,k13,k15,k17,k111,k112,k113,k121,k122,k123,A3,A4,A13,A111,A121,hG',hle',rfl⟩
    simp only at k3 k4 k7 k8 k13 k15 k17 k111 k112 k113 k121 k122 k123 A3 A4 A13 A111 A121 hG'
    by_cases hj:j<2
    ·have hj':(j:Int)<2:=by omega
     have e2:([.str s',.str u']:List AV)[j]?=some (.str [s',u'][j]):=by
      rcases(show j=0∨j=1 by omega)with rfl|rfl<;>rfl
     obtain⟨s13,g13',c13,l13⟩:=id A13
     obtain⟨s12,g12',c12,l12⟩:=id A121
     have hle2:j+1≤2:=hj
     have mj:=m j hj
     have htk:T.take (i*2+(j+1))=T.take (i*2+j)++[T[i*2+j]'(by omega)]:=by
      rw[←Nat.add_assoc,List.take_add_one,List.getElem?_eq_getElem (by omega)];rfl
     generalize T[i*2+j]'(by omega)=Tk at *
     generalize [s',u'][j]=Q at *
     have eL:decide (L∈T.take (i*2+(j+1)))=(decide (L∈T.take (i*2+j))||decide (Tk=L)):=by
      rw[htk];simp[List.mem_append,eq_comm]
     have eH:decide (H∈T.take (i*2+(j+1)))=(decide (H∈T.take (i*2+j))||decide (Tk=H)):=by
      rw[htk];simp[List.mem_append,eq_comm]
     generalize decide (L∈T.take (i*2+j))=bL at *
     generalize decide (H∈T.take (i*2+j))=bH at *
     by_cases d1:Tk=L
     ·by_cases d2:Tk=H
      ·repeat' (with_reducible first|simp(disch:=first|exact okD|fail) only[go_sem,seval,k3,k4,k7,k8,k13,k15,k17,k111,k112,k113,k121,k122,k123,hj',g13',g12',e2,hle2,or1,or2,decide_eq_true d1,decide_eq_true d2]|(refine Gv.wp (mj _) fun _ _ _ _=>?_)|(apply Spl.i<;>intro hc))
       exact⟨_,by omega,j+1,by rw[eL,eH,decide_eq_true d1,decide_eq_true d2];simp only[Bool.or_true,Bool.or_false],rfl,okS,okS,okS,okS,okS,hG'.trans okG,hle2,rfl⟩
      ·repeat' (with_reducible first|simp(disch:=first|exact okD|fail) only[go_sem,seval,k3,k4,k7,k8,k13,k15,k17,k111,k112,k113,k121,k122,k123,hj',g13',g12',e2,hle2,or1,or2,decide_eq_true d1,decide_eq_false d2]|(refine Gv.wp (mj _) fun _ _ _ _=>?_)|(apply Spl.i<;>intro hc))
       exact⟨_,by omega,j+1,by rw[eL,eH,decide_eq_true d1,decide_eq_false d2];simp only[Bool.or_true,Bool.or_false],rfl,okS,okS,okS,okS,okS,hG'.trans okG,hle2,rfl⟩
     ·by_cases d2:Tk=H
      ·repeat' (with_reducible first|simp(disch:=first|exact okD|fail) only[go_sem,seval,k3,k4,k7,k8,k13,k15,k17,k111,k112,k113,k121,k122,k123,hj',g13',g12',e2,hle2,or1,or2,decide_eq_false d1,decide_eq_true d2]|(refine Gv.wp (mj _) fun _ _ _ _=>?_)|(apply Spl.i<;>intro hc))
       exact⟨_,by omega,j+1,by rw[eL,eH,decide_eq_false d1,decide_eq_true d2];simp only[Bool.or_true,Bool.or_false],rfl,okS,okS,okS,okS,okS,hG'.trans okG,hle2,rfl⟩
      ·repeat' (with_reducible first|simp(disch:=first|exact okD|fail) only[go_sem,seval,k3,k4,k7,k8,k13,k15,k17,k111,k112,k113,k121,k122,k123,hj',g13',g12',e2,hle2,or1,or2,decide_eq_false d1,decide_eq_false d2]|(refine Gv.wp (mj _) fun _ _ _ _=>?_)|(apply Spl.i<;>intro hc))
       exact⟨_,by omega,j+1,by rw[eL,eH,decide_eq_false d1,decide_eq_false d2];simp only[Bool.or_true,Bool.or_false],rfl,okS,okS,okS,okS,okS,hG'.trans okG,hle2,rfl⟩
    ·obtain rfl:j=2:=by omega
     have hj':¬(((2:Nat):Int)<2):=by decide
     rw[show i*2+2=(i+1)*2 by omega]at k15
     repeat' (with_reducible first|simp(disch:=first|exact okD|fail) only[go_sem,seval,k3,k4,k7,k8,k13,k15,k17,k111,k112,k113,k121,k122,k123,hj']|(apply Spl.i<;>intro hc))
     exact⟨_,by omega,i+1,rfl,rfl,A3,A4,A13,A111,hG',hle1,rfl⟩
  ·obtain rfl:i=2:=by omega
   have hi':¬(((2:Nat):Int)<2):=by decide
   have eT:T.take (2*2)=T:=List.take_of_length_le (by omega)
   rw[eT,decide_eq_true mL,decide_eq_true mH,eV3]at k15
   repeat' (with_reducible first|simp(disch:=first|exact okD|fail) only[go_sem,seval,k111,k112,k113,hi']|(apply Spl.i<;>intro hc))
   exact fin _ _ p13 hG (by simp(disch:=first|exact okD|fail) only[go_sem,seval,k3]) (by simp(disch:=first|exact okD|fail) only[go_sem,seval,k4]) (by simp(disch:=first|exact okD|fail) only[go_sem,seval,k7]) (by simp(disch:=first|exact okD|fail) only[go_sem,seval,k8]) (by simp(disch:=first|exact okD|fail) only[go_sem,seval,k13]) (by simp(disch:=first|exact okD|fail) only[go_sem,seval,k15]) A3 A4 A13
theorem law11 {pa pb:Int} (ha:0≤pa∧pa≤255) (hb:0≤pb∧pb≤255):Gv EH 11 [spn s u,spn s' u',.agg [.int .u8 pa,.int .u8 pb]] h (.bool true):=by
 refine Gv.of (CallWp.fn (fn:=Ha.a11) rfl rfl rfl ?_)
 have d17:∀{h:Hp} {K:AV→Hp→Prop},CallWp EH 17 [] h K↔K (.bool true) h:=fun{h K}=>gu2' fun K=>c17
 by_cases g1:fewB s 6=true∧fewB u 6=true∧spanV s u=0
 ·by_cases g2:fewB s' 6=true∧fewB u' 6=true∧spanV s' u'=0
  ·obtain⟨f1,f2,c1⟩:=g1
   obtain⟨f3',f4,c2⟩:=g2
   have w1:=fun h=>d70_yes (h:=h) f1 f2 c1
   have w2:=fun h=>d70_yes (h:=h) f3' f4 c2
   obtain⟨n1,_,k1⟩:=few_of f1
   obtain⟨n2,_,k2⟩:=few_of f2
   obtain⟨n3,_,k3⟩:=few_of f3'
   obtain⟨n4,_,k4⟩:=few_of f4
   obtain⟨z1,z2,l1⟩:=spanV_zero c1
   obtain⟨z3,z4,l2⟩:=spanV_zero c2
   obtain⟨t1,o1⟩:=txtR_valS z1
   obtain⟨t2,o2⟩:=txtR_valS z2
   obtain⟨t3,o3⟩:=txtR_valS z3
   obtain⟨t4,o4⟩:=txtR_valS z4
   have b1:=k1.br
   have b2:=k2.br
   have b3:=k3.br
   have b4:=k4.br
   have hs:s.length≤1000000:=by omega
   have hu:u.length≤1000000:=by omega
   have hs':s'.length≤1000000:=by omega
   have hu':u'.length≤1000000:=by omega
   have r1:=fun h=>g0 (f0 (x61 (h:=h) fun h=>x162 hs hu hs' hu' c1 c2 fun h=>x165s (h:=h) c1 c2))
   have r2:=fun h=>g0 (f0 (x62 (h:=h) fun h=>x162 hs hu hs' hu' c1 c2 fun h=>x165d (h:=h) c1 c2))
   have r3:=fun h=>g0 (f0 (x63 (h:=h) fun h=>x162 hs hu hs' hu' c1 c2 fun h=>x165m (h:=h) c1 c2 rfl rfl))
   have r4z:=fun(q:valS s'≤0∧0≤valS u') h=>g0 (f0 (x64 (h:=h) (p:=[]) (q:=[]) (e:=6) hs hu hs' hu' c1 c2 (fun _=>⟨rfl,rfl,rfl⟩) (fun n=>absurd q n)))
   have r4:=fun(q:¬(valS s'≤0∧0≤valS u')) (y1:valS s'≠0) (y2:valS u'≠0) h=>g0 (f0 (x64 (h:=h) hs hu hs' hu' c1 c2 (fun n=>absurd n q) (fun _ h=>x165q (h:=h) c1 c2 y1 y2 rfl rfl)))
   have m1:=fun h=>d71 (h:=h) ha (b1.mono (by decide)) (b2.mono (by decide))
   have m2:=fun h=>d71 (h:=h) hb (b3.mono (by decide)) (b4.mono (by decide))
   have P11:Br 2 (valS s*valS s'):=b1.mul b3
   have P12:Br 2 (valS s*valS u'):=b1.mul b4
   have P21:Br 2 (valS u*valS s'):=b2.mul b3
   have P22:Br 2 (valS u*valS u'):=b2.mul b4
   have p11:=fun h=>g3 (d74 (h:=h) (b1.mono (by decide:1≤2000)) (b3.mono (by decide:1≤2000)))
   have p12:=fun h=>g3 (d74 (h:=h) (b1.mono (by decide:1≤2000)) (b4.mono (by decide:1≤2000)))
   have p21:=fun h=>g3 (d74 (h:=h) (b2.mono (by decide:1≤2000)) (b3.mono (by decide:1≤2000)))
   have p22:=fun h=>g3 (d74 (h:=h) (b2.mono (by decide:1≤2000)) (b4.mono (by decide:1≤2000)))
   rw[←t1,←t2]at m1
   rw[←t3,←t4]at m2
   rw[←t1,←t3]at p11
   rw[←t1,←t4]at p12
   rw[←t2,←t3]at p21
   rw[←t2,←t4]at p22
   obtain⟨x1,x2⟩:=inS_in ha l1
   obtain⟨y1,y2⟩:=inS_in hb l2
   have bx:=inS_br ha b1 b2
   have bY:=inS_br hb b3 b4
   generalize inS (valS s) (valS u) pa=x at *
   generalize inS (valS s') (valS u') pb=y at *
   have X1:=ok_of_br (b1.add b3) (by decide)
   have X2:=ok_of_br (b2.add b4) (by decide)
   have Y1:=ok_of_br (b1.sub b4) (by decide)
   have Y2:=ok_of_br (b2.sub b3) (by decide)
   have B1:=mn4_p (P:=Br 2) P11 P12 P21 P22
   have B2:=mx4_p (P:=Br 2) P11 P12 P21 P22
   have q1:=fun h=>q59 (h:=h) (b1.add b3) (b2.add b4) (by decide) (add_le' l1 l2)
   have q2:=fun h=>q59 (h:=h) (b1.sub b4) (b2.sub b3) (by decide) (sub_le' l1 l2)
   obtain⟨i1,i2⟩:=prod_in x1 x2 y1 y2
   have q3:=fun h=>q59 (h:=h) B1 B2 (by decide) (Rat.le_trans i1 i2)
   obtain⟨e1,e2⟩:=ends_met (a:=valS s*valS s') (b:=valS s*valS u') (c:=valS u*valS s') (d:=valS u*valS u')
   have X11:Br 7 (x*valS s'):=bx.mul b3
   have X12:Br 7 (x*valS u'):=bx.mul b4
   have D1:=mn4_p (P:=Br 7) X11 X12 X11 X12
   have D2:=mx4_p (P:=Br 7) X11 X12 X11 X12
   have w11:=prod_in x1 x2 Rat.le_refl l2
   have w12:=prod_in x1 x2 l2 Rat.le_refl
   have j1:=mn4_p (P:=fun z=>mn4 (valS s*valS s') (valS s*valS u') (valS u*valS s') (valS u*valS u')≤z) w11.1 w12.1 w11.1 w12.1
   have j2:=mx4_p (P:=fun z=>z≤mx4 (valS s*valS s') (valS s*valS u') (valS u*valS s') (valS u*valS u')) w11.2 w12.2 w11.2 w12.2
   have cx:spanV (txtR x) (txtR x)=0:=spanV_txt (ok_of_br bx (by decide)) (ok_of_br bx (by decide)) Rat.le_refl
   have lx:(txtR x).length≤1000000:=txt_le bx (by decide)
   have r5:=fun h=>g0 (f0 (x63 (h:=h) fun h=>x162 lx lx hs' hu' cx c2 fun h=>x165m (h:=h) cx c2 rfl rfl))
   simp only[valS_txt]at r5
   have v5:=mn4_le (a:=x*valS s') (b:=x*valS u') (c:=x*valS s') (d:=x*valS u')
   have v6:=mx4_ge (a:=x*valS s') (b:=x*valS u') (c:=x*valS s') (d:=x*valS u')
   have q5:=fun h=>q59 (h:=h) D1 D2 (by decide) (Rat.le_trans v5.1 v6.1)
   have s1:=fun h=>g3 (d75 (h:=h) (D1.mono (by decide:7≤2000)) (B1.mono (by decide:2≤2000)))
   have s2:=fun h=>g3 (d75 (h:=h) (D2.mono (by decide:7≤2000)) (B2.mono (by decide:2≤2000)))
   have h1:=fun h=>q68 (h:=h) ((b1.add b3).mono (by decide:_≤60)) ((b2.add b4).mono (by decide)) ((bx.add bY).mono (by decide)) (by decide) (add_le' x1 y1) (add_le' x2 y2)
   have h2:=fun h=>q68 (h:=h) ((b1.sub b4).mono (by decide:_≤60)) ((b2.sub b3).mono (by decide)) ((bx.sub bY).mono (by decide)) (by decide) (sub_le' x1 y2) (sub_le' x2 y1)
   have h3:=fun h=>q68 (h:=h) (B1.mono (by decide:2≤60)) (B2.mono (by decide)) ((bx.mul bY).mono (by decide)) (by decide) i1 i2
   have a1:=fun h=>g3 (d72 (h:=h) (bx.mono (by decide:6≤2000)) (bY.mono (by decide:6≤2000)))
   have a2:=fun h=>g3 (d73 (h:=h) (bx.mono (by decide:6≤2000)) (bY.mono (by decide:6≤2000)))
   have a3:=fun h=>g3 (d74 (h:=h) (bx.mono (by decide:6≤2000)) (bY.mono (by decide:6≤2000)))
   have z0:Br 2000 (0:Rat):=(show Br 1 0 from by unfold Br Lr;decide).mono (by decide)
   have hz:=fun h=>g3 (d68 (h:=h) (b3.mono (by decide:1≤2000)) (b4.mono (by decide:1≤2000)) z0)
   rw[txtR_zero,←t3,←t4]at hz
   simp only[spA_ok X1 X2]at r1
   simp only[spA_ok Y1 Y2]at r2
   simp only[spA_ok (ok_of_br B1 (by decide)) (ok_of_br B2 (by decide))]at r3
   simp only[spA_ok (ok_of_br D1 (by decide)) (ok_of_br D2 (by decide))]at r5
   have quot:¬(valS s'≤0∧0≤valS u')→∃QL QH XY,(∀h,Gv EH 64 [spn s u,spn s' u'] h (spr QL QH 0))∧(∀h,Gv EH 59 [spn QL QH] h (.int .i64 0))∧(∀h,Gv EH 76 [.str (txtR x),.str (txtR y)] h (.str XY))∧(∀h,Gv EH 68 [spn QL QH,.str XY] h (.bool true)):=fun c3=>by
    have n3:valS s'≠0:=fun e=>c3 ⟨by rw[e];exact Rat.le_refl,Rat.le_trans (by rw[e];exact Rat.le_refl) l2⟩
    have n4:valS u'≠0:=fun e=>c3 ⟨Rat.le_trans l2 (by rw[e];exact Rat.le_refl),by rw[e];exact Rat.le_refl⟩
    have ny:y≠0:=fun e=>c3 ⟨Rat.le_trans y1 (by rw[e];exact Rat.le_refl),Rat.le_trans (by rw[e];exact Rat.le_refl) y2⟩
    have Q1:Br 2 (valS s/valS s'):=by rw[Rat.div_def];exact b1.mul (b3.inv n3)
    have Q2:Br 2 (valS s/valS u'):=by rw[Rat.div_def];exact b1.mul (b4.inv n4)
    have Q3:Br 2 (valS u/valS s'):=by rw[Rat.div_def];exact b2.mul (b3.inv n3)
    have Q4:Br 2 (valS u/valS u'):=by rw[Rat.div_def];exact b2.mul (b4.inv n4)
    have QX:Br 12 (x/y):=by rw[Rat.div_def];exact bx.mul (bY.inv ny)
    have E1:=mn4_p (P:=Br 2) Q1 Q2 Q3 Q4
    have E2:=mx4_p (P:=Br 2) Q1 Q2 Q3 Q4
    obtain⟨k1,k2⟩:=quot_in x1 x2 y1 y2 c3
    have rr:=fun h=>r4 c3 n3 n4 h
    simp only[spA_ok (ok_of_br E1 (by decide)) (ok_of_br E2 (by decide))]at rr
    exact⟨_,_,_,rr,fun h=>q59 E1 E2 (by decide) (Rat.le_trans k1 k2),fun h=>g3 (d76 (bx.mono (by decide)) (bY.mono (by decide)) ny),fun h=>q68 (E1.mono (by decide:2≤60)) (E2.mono (by decide)) (QX.mono (by decide)) (by decide) k1 k2⟩
   have jn1:¬sgR (mn4 (x*valS s') (x*valS u') (x*valS s') (x*valS u')-mn4 (valS s*valS s') (valS s*valS u') (valS u*valS s') (valS u*valS u'))<0:=fun e=>absurd (sgR_lt.1 e) (Rat.not_lt.2 j1)
   have jn2:¬0<sgR (mx4 (x*valS s') (x*valS u') (x*valS s') (x*valS u')-mx4 (valS s*valS s') (valS s*valS u') (valS u*valS s') (valS u*valS u')):=fun e=>absurd (sgR_gt.1 e) (Rat.not_lt.2 j2)
   have fin:∃(QL QH XY:List UInt8) (qe:Int) (zb:Bool),(∀h,Gv EH 64 [spn s u,spn s' u'] h (spr QL QH qe))∧(∀h,Gv EH 68 [spn s' u',.str [48]] h (.bool zb))∧(qe=if zb=true then 6 else 0)∧(zb=false→∀h,Gv EH 59 [spn QL QH] h (.int .i64 0))∧(zb=false→∀h,Gv EH 76 [.str (txtR x),.str (txtR y)] h (.str XY))∧(zb=false→∀h,Gv EH 68 [spn QL QH,.str XY] h (.bool true)):=by
    by_cases c3:valS s'≤0∧0≤valS u'
    ·rw[decide_eq_true c3]at hz
     exact⟨[],[],[],6,true,r4z c3,hz,rfl,fun e=>(nomatch e),fun e=>(nomatch e),fun e=>(nomatch e)⟩
    ·rw[decide_eq_false c3]at hz
     obtain⟨QL,QH,XY,k1,k2,k3,k4⟩:=quot c3
     exact⟨QL,QH,XY,0,false,k1,hz,rfl,fun _=>k2,fun _=>k3,fun _=>k4⟩
   obtain⟨QL,QH,XY,qe,zb,f64,f68,fe,f59,f76,f68'⟩:=fin
   have T:∀(i j:Nat) (hi:i<2) (hj:j<2) h,Gv EH 74 [.str ([s,u][i]),.str ([s',u'][j])] h (.str ([txtR (valS s*valS s'),txtR (valS s*valS u'),txtR (valS u*valS s'),txtR (valS u*valS u')][i*2+j]'(by simp;omega))):=by
    intro i j hi hj h
    rcases(show i=0∨i=1 by omega)with rfl|rfl<;>rcases(show j=0∨j=1 by omega)with rfl|rfl
    ·exact p11 h
    ·exact p12 h
    ·exact p21 h
    ·exact p22 h
   have e1':=List.mem_map_of_mem (f:=txtR) e1
   have e2':=List.mem_map_of_mem (f:=txtR) e2
   simp only[List.map_cons,List.map_nil]at e1' e2'
   generalize mn4 (x*valS s') (x*valS u') (x*valS s') (x*valS u')=lo' at *
   generalize mx4 (x*valS s') (x*valS u') (x*valS s') (x*valS u')=hi' at *
   generalize mn4 (valS s*valS s') (valS s*valS u') (valS u*valS s') (valS u*valS u')=lo at *
   generalize mx4 (valS s*valS s') (valS s*valS u') (valS u*valS s') (valS u*valS u')=hi at *
   have tail:=fun tm hp hG k3 k4 k7 k8 k15 A3 A4 A13=>l11_loop (h:=h) (tm:=tm) (hp:=hp) (s:=s) (u:=u) (s':=s') (u':=u') (X:=txtR x) (Y:=txtR y) (L:=txtR lo) (H:=txtR hi) (p3:=h.next) (p4:=h.next+1) hG k3 k4 k7 k8 k15 A3 A4 A13 rfl T e1' e2'
    (fun tm hp p13 hG k3 k4 k7 k8 k13 k15 A3 A4 A13=>l11_end hG k3 k4 k7 k8 k13 k15 A3 A4 A13 r5 q5 s1 s2 jn1 jn2 f64 f68 fe f59 f76 f68')
   clear T e1' e2' f64 f68 fe f59 f76 f68' r5 q5 s1 s2 jn1 jn2 quot r4 r4z
   refine Wp.cut 9 rfl ?_
   generalize ACode.post 9 Ha.a11.code=rest at tail⊢
   unfold Ha.a11
   dsimp only[ACode.pre]
   repeat' (with_reducible first|simp(disch:=first|exact okD|fail) only[go_sem,seval,d17]|(refine Gv.wp (w1 _) fun _ _ _ _=>?_)|(refine Gv.wp (w2 _) fun _ _ _ _=>?_)|(refine Gv.wp (m1 _) fun _ _ _ _=>?_)|(refine Gv.wp (m2 _) fun _ _ _ _=>?_)|(refine Gv.wp (r1 _) fun _ _ _ _=>?_)|(refine Gv.wp (r2 _) fun _ _ _ _=>?_)|(refine Gv.wp (r3 _) fun _ _ _ _=>?_)|(refine Gv.wp (q1 _) fun _ _ _ _=>?_)|(refine Gv.wp (q2 _) fun _ _ _ _=>?_)|(refine Gv.wp (q3 _) fun _ _ _ _=>?_)|(refine Gv.wp (a1 _) fun _ _ _ _=>?_)|(refine Gv.wp (a2 _) fun _ _ _ _=>?_)|(refine Gv.wp (a3 _) fun _ _ _ _=>?_)|(refine Gv.wp (h1 _) fun _ _ _ _=>?_)|(refine Gv.wp (h2 _) fun _ _ _ _=>?_)|(refine Gv.wp (h3 _) fun _ _ _ _=>?_)|(apply Spl.i<;>intro hc))
   refine tail _ _ okG (by simp(disch:=first|exact okD|fail) only[go_sem,seval]) (by simp(disch:=first|exact okD|fail) only[go_sem,seval]) (by simp(disch:=first|exact okD|fail) only[go_sem,seval]) (by simp(disch:=first|exact okD|fail) only[go_sem,seval]) (by simp(disch:=first|exact okD|fail) only[go_sem,seval]) okS okS ?_
   simp(disch:=first|exact okD|fail) only[go_sem,seval]
   exact okS
  ·have w1:=fun h=>d70_yes (h:=h) g1.1 g1.2.1 g1.2.2
   have w2:=fun h=>d70_no (h:=h) g2
   unfold Ha.a11
   repeat' (with_reducible first|simp(disch:=first|exact okD|fail) only[go_sem,seval,d17]|(refine Gv.wp (w1 _) fun _ _ _ _=>?_)|(refine Gv.wp (w2 _) fun _ _ _ _=>?_)|(apply Spl.i<;>intro hc))
   all_goals exact okG
 ·have w1:=fun h=>d70_no (h:=h) g1
  unfold Ha.a11
  repeat' (with_reducible first|simp(disch:=first|exact okD|fail) only[go_sem,seval,d17]|(refine Gv.wp (w1 _) fun _ _ _ _=>?_)|(apply Spl.i<;>intro hc))
  all_goals exact okG
end
end
end Go.Ae
