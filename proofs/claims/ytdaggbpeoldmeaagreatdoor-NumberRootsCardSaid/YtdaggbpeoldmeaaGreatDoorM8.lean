/- The reference's check of a number's text. -/
import Derived.Test.YtdaggbpeoldmeaaGreatDoorM7
import Derived.Test.YtdaggbpeoldmeaaGreatDoorM6
set_option linter.unusedVariables false
set_option linter.unusedSimpArgs false
set_option maxRecDepth 100000
set_option exponentiation.threshold 1000
set_option maxHeartbeats 2000000
namespace Go.Ae
open Bg N Go.Proofs
noncomputable section
section
variable {h h' hp:Hp} {K:AV→Hp→Prop} {tm:T AV} {r a b:Rat}
theorem u151 {s:List UInt8} (hs:s.length≤1000000):CallWp E3 151 [.str s] h K↔K (.bool (allDig s)) h:=up ge3 fun K=>c151 hs
theorem isDec_of {s:List UInt8} (h0:s≠[]) (h1:s.length=1∨s.headD 0≠48):isDec s=allDig s:=by
 cases ha:allDig s with
 | true=>
  refine isDec_mk h0 ha ?_
  rcases h1 with h1|h1
  ·match s,h1 with
   | [c],_=>
    by_cases hc:c=48
    ·exact .inr (by rw[hc])
    ·exact .inl (by simpa using hc)
  ·exact .inl h1
 |false=>unfold isDec;rw[ha];simp
theorem isDec_no {s:List UInt8} (h1:1<s.length) (h2:s.headD 0=48):isDec s=false:=by
 cases hd:isDec s with
 |false=>rfl
 | true=>
  rcases(isDec_cases hd).2.2 with e|e
  ·exact absurd h2 e
  ·rw[e]at h1;exact absurd h1 (by decide)
theorem u123 {s:List UInt8} (hs:s.length≤1000000):CallWp E3 123 [.str s] h K↔K (.bool (isDec s)) h:=by
 refine CallWp.iff_of (CallWp.fn (fn:=R.a123) rfl rfl rfl ?_)
 unfold R.a123
 have cd:=fun{h:Hp} {K:AV→Hp→Prop}=>u151 (h:=h) (K:=K) hs
 by_cases h0:s=[]
 ·subst h0
  have e0:isDec []=false:=by decide
  rw[e0]
  repeat' (with_reducible first|simp(disch:=first|exact okD|fail) only[go_sem,seval,List.length_nil]|(apply Spl.i<;>intro hc))
 ·have hl:0<s.length:=List.length_pos_iff.2 h0
  have hl0:¬(s.length:Int)=0:=by omega
  have eh:s.getD 0 0=s.headD 0:=by cases s<;>rfl
  by_cases h1:1<s.length
  ·have h1':(1:Int)<s.length:=by omega
   have hl':(0:Int)<s.length:=by omega
   have e1:((s.getD 0 0).toNat:Int)=48↔s.getD 0 0=48:=u8_int (n:=48) (by decide)
   by_cases h2:s.getD 0 0=48
   ·have h2':=e1.2 h2
    rw[isDec_no h1 (by rw[←eh];exact h2)]
    repeat' (with_reducible first|simp(disch:=first|exact okD|fail) only[go_sem,seval,hl0,h1',hl',h2']|(apply Spl.i<;>intro hc))
   ·have h2':=fun e=>h2 (e1.1 e)
    rw[isDec_of h0 (.inr (by rw[←eh];exact h2))]
    repeat' (with_reducible first|simp(disch:=first|exact okD|fail) only[go_sem,seval,hl0,h1',hl',h2',cd]|(apply Spl.i<;>intro hc))
  ·have h1':¬(1:Int)<s.length:=by omega
   rw[isDec_of h0 (.inl (by omega))]
   repeat' (with_reducible first|simp(disch:=first|exact okD|fail) only[go_sem,seval,hl0,h1',cd]|(apply Spl.i<;>intro hc))
theorem d124g {x y:Int} (l1:Lr 9000 x) (l2:Lr 9000 y):Gp E3 124 [.str (txtZ x++47::txtZ y)] h fun v h'=>∃va vb,v= .tup [va,vb]∧IsR h' va x∧IsR h' vb y:=by
 refine Gp.of (CallWp.fn (fn:=R.a124) rfl rfl rfl ?_)
 unfold R.a124
 have t1:=txtZ_len l1
 have t2:=txtZ_len l2
 have hsl:slashV (txtZ x++47::txtZ y)=(txtZ x).length:=by
  refine slash_at (by simp) (fun j hj e=>?_) ?_
  ·refine txtZ_no x (getD_mem (i:=j) hj ?_)
   rw[←e]
   simp only[List.getD]
   rw[List.getElem?_append_left hj]
  ·simp[List.getD]
 have hlen:(txtZ x++47::txtZ y).length=(txtZ x).length+((txtZ y).length+1):=by simp
 have cs:=fun{h:Hp} {K:AV→Hp→Prop}=>c122 (h:=h) (K:=K) (s:=txtZ x++47::txtZ y) (by omega)
 have hne:¬((txtZ x).length:Int)=((txtZ x).length+((txtZ y).length+1):Nat):=by omega
 have k1:List.take (txtZ x).length (txtZ x++47::txtZ y)=txtZ x:=List.take_left
 have e1:(((txtZ x).length:Int)+1).toNat=(txtZ x).length+1:=by omega
 have k2:List.drop ((txtZ x).length+1) (txtZ x++47::txtZ y)=txtZ y:=by
  rw[←List.drop_drop,List.drop_left];rfl
 repeat' (with_reducible first|simp(disch:=first|exact okD|fail) only[go_sem,seval,cs,hsl,hne,k1,e1,k2]|(apply Spl.i<;>intro hc))
 refine Gp.wp (d207z l1 (by decide)) fun v5 k5 a5 b5 u5 I5=>?_
 obtain⟨w5,rfl,p5,I5⟩:=I5.ex
 repeat' (with_reducible first|simp(disch:=first|exact okD|fail) only[go_sem,seval,p5,k1,e1,k2]|(apply Spl.i<;>intro hc))
 refine Gp.wp (d207z l2 (by decide)) fun v6 k6 a6 b6 u6 I6=>?_
 obtain⟨w6,rfl,p6,I6⟩:=I6.ex
 have I5':=I5.grs (⟨_,_,u6⟩:Grs _ ((((h.push fun st=> .row [.bool false,.nils] true st).push fun st=> .row [.bool false,.nils] true st).ov k5 u5).ov k6 u6))
 repeat' (with_reducible first|simp(disch:=first|exact okD|fail) only[go_sem,seval,p5,p6]|(apply Spl.i<;>intro hc))
 refine⟨⟨_,_,rfl,?_,?_⟩,?_⟩
 ·exact(I5'.putB (by simp(disch:=first|exact okD|fail) only[go_sem,seval,isCellB_row])).putB (by simp(disch:=first|exact okD|fail) only[go_sem,seval,isCellB_row])
 ·exact(I6.putB (by simp(disch:=first|exact okD|fail) only[go_sem,seval,isCellB_row])).putB (by simp(disch:=first|exact okD|fail) only[go_sem,seval,isCellB_row])
 ·exact okG
theorem Lr_dec {l:List UInt8} (hd:isDec l=true) (hl:l.length≤600):Lr 67 (decV l:Nat):=by
 unfold Lr
 rw[Int.natAbs_natCast]
 have h1:=decV_lt (isDec_cases hd).2.1
 have h2:(10:Nat)^l.length≤10^603:=Nat.pow_le_pow_right (by decide) (by omega)
 have h3:(10:Nat)^603=1000000000^67:=by rw[show(1000000000:Nat)=10^9 from rfl,←Nat.pow_mul]
 omega
theorem num_len (s:List UInt8):(numU s).length=slashV (unS s):=by
 have:=slash_le (unS s)
 unfold numU;rw[List.length_take];omega
theorem den_len (s:List UInt8):(denU s).length=(unS s).length-(slashV (unS s)+1):=by
 unfold denU;rw[List.length_drop]
theorem chk_rest {N D t:List UInt8} {k:Nat} {bk:Bool} (h3:val tm (.t 3)= .str t) (h4:val tm (.t 4)= .int .i64 k) (hl:t.length≤1000000) (hk:k≤t.length) (nl:N.length=k) (dl:D.length=t.length-(k+1))
  (k2:List.drop (k+1) t=D) (ebrk:bk=decide (k<t.length)) (hsp:bk=true→t=N++47::D) (hdn:isDec N=true):
  Wp E3 (ACode.post 2 (ACode.post 3 R.a19.code)) ⟨tm,h⟩ (RetQ [.tmp 2] fun v h'=>(v= .int .i64 (if(true&&true&&(!bk||(isDec D&&decide (D≠[48])&&decide (D≠[49]))))=false then 1 else if 600<N.length∨600<D.length then 4 else if bk=true∧Nat.gcd (decV N) (decV D)≠1 then 1 else 0))∧Grs h h'):=by
 have e1:((k:Int)+1).toNat=k+1:=by omega
 have cd:=fun{h:Hp} {K:AV→Hp→Prop}=>u123 (h:=h) (K:=K) (s:=D) (by omega)
 subst ebrk
 unfold R.a19
 dsimp only[ACode.post]
 by_cases hb:k<t.length
 ·have hb' : (k :Int)<t.length:=by omega
  have hb1:(k:Int)+1≤t.length:=by omega
  rw[decide_eq_true hb]
  cases hdd:isDec D with
  | false=>
   rw[hdd]at cd
   repeat' (with_reducible first|simp(disch:=first|exact okD|fail) only[go_sem,seval,h3,h4,hb',hb1,e1,k2,cd]|(apply Spl.i<;>intro hc))
   simp
  | true=>
   rw[hdd]at cd
   by_cases g0:D=[48]
   ·rw[g0]at cd
    repeat' (with_reducible first|simp(disch:=first|exact okD|fail) only[go_sem,seval,h3,h4,hb',hb1,e1,k2,cd,g0]|(apply Spl.i<;>intro hc))
    simp
   ·by_cases g1:D=[49]
    ·have g1':¬([49]:List UInt8)=[48]:=by decide
     rw[g1]at g0 cd
     repeat' (with_reducible first|simp(disch:=first|exact okD|fail) only[go_sem,seval,h3,h4,hb',hb1,e1,k2,cd,g1,g0]|(apply Spl.i<;>intro hc))
     simp
    ·have ef :(true&&true&&(!true||(true&&decide (D≠[48])&&decide (D≠[49]))))=true:=by simp[g0,g1]
     rw[ef,if_neg (by decide)]
     by_cases hL:600<N.length∨600<D.length
     ·rw[if_pos hL]
      by_cases hLn:600<k
      ·have hLn':(600:Int)<k:=by omega
       repeat' (with_reducible first|simp(disch:=first|exact okD|fail) only[go_sem,seval,h3,h4,hb',hb1,e1,k2,cd,g0,g1,hLn']|(apply Spl.i<;>intro hc))
      ·have hLn':¬(600:Int)<k:=by omega
       have hLd':(600:Int)<(t.length:Int)-k-1:=by omega
       repeat' (with_reducible first|simp(disch:=first|exact okD|fail) only[go_sem,seval,h3,h4,hb',hb1,e1,k2,cd,g0,g1,hLn',hLd']|(apply Spl.i<;>intro hc))
     ·rw [if_neg hL]
      have hLn':¬(600:Int)<k:=by omega
      have hLd':¬(600:Int)<(t.length:Int)-k-1:=by omega
      have lN:=Lr_dec hdn (by omega)
      have lD:=Lr_dec hdd (by omega)
      have et:t=txtZ (decV N:Nat)++47::txtZ (decV D:Nat):=by
       rw[txtZ_nat,txtZ_nat,isDec_eq hdn,isDec_eq hdd]
       exact hsp (decide_eq_true hb)
      have cp:=fun h=>d124g (h:=h) (lN.mono (by decide:67≤9000)) (lD.mono (by decide:67≤9000))
      rw[←et]at cp
      repeat' (with_reducible first|simp(disch:=first|exact okD|fail) only[go_sem,seval,h3,h4,hb',hb1,e1,k2,cd,g0,g1,hLn',hLd']|(apply Spl.i<;>intro hc))
      refine Gp.wp (cp _) fun v5 k5 a5 b5 u5 ⟨va,vb,e5,I5,I6⟩=>?_
      subst e5
      obtain⟨w5,rfl,p5,I5⟩:=I5.ex
      obtain⟨w6,rfl,p6,I6⟩:=I6.ex
      obtain⟨l1,S1,D1,N1,V1⟩:=I5.un
      obtain⟨l2,S2,D2,N2,V2⟩:=I6.un
      have m1:=lN.len N1 V1
      have m2:=lD.len N2 V2
      repeat' (with_reducible first|simp(disch:=first|exact okD|fail) only[go_sem,seval,p5,p6]|(apply Spl.i<;>intro hc))
      refine Gp.wp (d125 (S1.grs okG) (S2.grs okG) D1 D2 N1 N2 (by omega) (by omega)) fun v7 k7 a7 b7 u7 ⟨l7,S7,D7,N7,V7⟩=>?_
      rw[V1,V2,Int.natAbs_natCast,Int.natAbs_natCast]at V7
      have r7:=S7.rd
      have ln7:=r7.len
      have ad7:=r7.adr
      have e00:(0:Int).toNat=0:=rfl
      by_cases hg:Nat.gcd (decV N) (decV D)=1
      ·have e7:l7=[1]:=norm_inj (B:=1000000000) (by decide) D7 (Dg.cons (by decide) Dg.nil) N7 (by simp[Norm]) (by rw[V7,hg];simp[vl])
       subst e7
       have ld7:=r7.load 0 (by simp)
       simp only[List.getD_cons_zero,Nat.add_zero]at ld7
       have e1':((1:Nat):Int)=1:=rfl
       simp only[List.length_cons,List.length_nil,Nat.zero_add]at ln7
       rw[e1']at ln7 ld7
       repeat' (with_reducible first|simp(disch:=first|exact okD|fail) only[go_sem,seval,ln7,ad7,e00,ld7,e1']|(apply Spl.i<;>intro hc))
       refine⟨by simp[hg],?_⟩
       exact okG
      ·by_cases hl7:l7.length=1
       ·obtain⟨d,rfl⟩:∃d,l7=[d]:=by
         match l7,hl7 with
         |[d],_=>exact⟨d,rfl⟩
        have ed:vl 1000000000 [d]=d:=by simp[vl]
        rw[ed]at V7
        have ld7:=r7.load 0 (by simp)
        simp only[List.getD_cons_zero,Nat.add_zero]at ld7
        have e1':((1:Nat):Int)=1:=rfl
        simp only[List.length_cons,List.length_nil,Nat.zero_add]at ln7
        rw[e1']at ln7
        have hd1:¬(d:Int)=1:=by omega
        repeat' (with_reducible first|simp(disch:=first|exact okD|fail) only[go_sem,seval,ln7,ad7,e00,ld7,hd1]|(apply Spl.i<;>intro hc))
        refine⟨by simp[hg],?_⟩
        exact okG
       ·have hl7':¬(l7.length:Int)=1:=by omega
        repeat' (with_reducible first|simp(disch:=first|exact okD|fail) only[go_sem,seval,ln7,hl7']|(apply Spl.i<;>intro hc))
        refine⟨by simp[hg],?_⟩
        exact okG
 ·have hb':¬(k:Int)<t.length:=by omega
  have hkt:k=t.length:=by omega
  rw[decide_eq_false hb]
  have ef:(true&&true&&(!false||(isDec D&&decide (D≠[48])&&decide (D≠[49]))))=true:=by simp
  rw[ef,if_neg (by decide)]
  by_cases hL:600<N.length∨600<D.length
  ·rw[if_pos hL]
   have hLn':(600:Int)<k:=by omega
   repeat' (with_reducible first|simp(disch:=first|exact okD|fail) only[go_sem,seval,h3,h4,hb',hLn']|(apply Spl.i<;>intro hc))
  ·rw[if_neg hL]
   have hLn':¬(600:Int)<k:=by omega
   have hLd':¬(600:Int)<(t.length:Int)-k-1:=by omega
   repeat' (with_reducible first|simp(disch:=first|exact okD|fail) only[go_sem,seval,h3,h4,hb',hLn',hLd']|(apply Spl.i<;>intro hc))
   simp
theorem chk_tail {s:List UInt8} (h0:val tm (.t 0)= .str s) (h3:val tm (.t 3)= .str (unS s)) (hl:(unS s).length≤1000000):
  Wp E3 (R.a19.code.post 3) ⟨tm,h⟩ (RetQ [.tmp 2] fun v h'=>v= .int .i64 (checkV s)∧Grs h h'):=by
 have hk:=slash_le (unS s)
 have nl:=num_len s
 have dl:=den_len s
 have cs:=fun{h:Hp} {K:AV→Hp→Prop}=>c122 (h:=h) (K:=K) (s:=unS s) (by omega)
 have cn:=fun{h:Hp} {K:AV→Hp→Prop}=>u123 (h:=h) (K:=K) (s:=numU s) (by omega)
 have cd:=fun{h:Hp} {K:AV→Hp→Prop}=>u123 (h:=h) (K:=K) (s:=denU s) (by omega)
 have e1:((slashV (unS s):Int)+1).toNat=slashV (unS s)+1:=by omega
 have k1:List.take (slashV (unS s)) (unS s)=numU s:=rfl
 have k2:List.drop (slashV (unS s)+1) (unS s)=denU s:=rfl
 have hkk:(slashV (unS s):Int)≤(unS s).length:=by omega
 have hsp:brk s=true→unS s=numU s++47::denU s:=fun c=>slash_split (by unfold brk at c;exact of_decide_eq_true c)
 have ebrk:brk s=decide (slashV (unS s)<(unS s).length):=rfl
 obtain⟨k,hkd⟩:∃k,k=slashV (unS s):=⟨_,rfl⟩
 obtain⟨t,ht⟩:∃t,t=unS s:=⟨_,rfl⟩
 obtain⟨N,hN⟩:∃N,N=numU s:=⟨_,rfl⟩
 obtain⟨D,hD⟩:∃D,D=denU s:=⟨_,rfl⟩
 have ecv:checkV s=if formS s=false then 1 else if 600<N.length∨600<D.length then 4 else if brk s=true∧Nat.gcd (decV N) (decV D)≠1 then 1 else 0:=by rw[hN,hD];rfl
 have efm:formS s=(isDec N&&(!(decide (s.head?=some 45))||decide (N≠[48]))&&(!(brk s)||(isDec D&&decide (D≠[48])&&decide (D≠[49])))):=by rw[hN,hD];rfl
 rw[←hkd]at cs e1 k1 k2 hkk nl dl hk ebrk
 rw[←ht]at cs k1 k2 hkk dl hk h3 hsp ebrk hl
 rw[←hN]at k1 cn nl hsp
 rw[←hD]at k2 cd dl hsp
 have rest:=fun tm h3 h4 hdn=>chk_rest (h:=h) (tm:=tm) (N:=N) (D:=D) (t:=t) (k:=k) (bk:=brk s) h3 h4 hl hk nl dl k2 ebrk hsp hdn
 refine Wp.cut 2 rfl ?_
 generalize ACode.post 2 (ACode.post 3 R.a19.code)=rc at rest⊢
 unfold R.a19
 dsimp only[ACode.post,ACode.pre]
 rw[ecv,efm]
 cases hdn:isDec N with
 | false=>
  rw[hdn]at cn
  repeat' (with_reducible first|simp(disch:=first|exact okD|fail) only[go_sem,seval,h0,h3,cs,cn,k1,hkk]|(apply Spl.i<;>intro hc))
  simp
 | true=>
  rw[hdn]at cn
  have hN0:=(isDec_cases hdn).1
  have hNl:0<N.length:=List.length_pos_iff.2 hN0
  have hs0:s≠[]:=by
   rintro rfl
   have:t=[]:=by rw[ht];rfl
   rw[this]at hk
   simp at hk;omega
  have hsl:(0:Int)<s.length:=by have:=List.length_pos_iff.2 hs0;omega
  have e45:((s.getD 0 0).toNat:Int)=45↔s.head?=some 45:=by
   refine(u8_int (b:=s.getD 0 0) (n:=45) (by decide)).trans ?_
   match s,hs0 with
   | c::l,_=>
    show c=45↔some c=some 45
    simp
  have first:(s.head?=some 45∧N=[48])∨¬(s.head?=some 45∧N=[48]):=Classical.em _
  rcases first with⟨f1,f2⟩|f
  ·have f1':=e45.2 f1
   rw[f2]at cn
   repeat' (with_reducible first|simp(disch:=first|exact okD|fail) only[go_sem,seval,h0,h3,cs,cn,k1,hkk,hsl,f1',f2]|(apply Spl.i<;>intro hc))
   simp[f1,f2]
  ·have en:(!(decide (s.head?=some 45))||decide (N≠[48]))=true:=by
    by_cases f1:s.head?=some 45
    ·have:N≠[48]:=fun e=>f ⟨f1,e⟩
     simp[this]
    ·simp[f1]
   rw[en]
   by_cases f1:s.head?=some 45
   ·have f1':=e45.2 f1
    have f2:¬N=[48]:=fun e=>f ⟨f1,e⟩
    repeat' (with_reducible first|simp(disch:=first|exact okD|fail) only[go_sem,seval,h0,h3,cs,cn,k1,hkk,hsl,f1',f2]|(apply Spl.i<;>intro hc))
    exact rest _ (by simp(disch:=first|exact okD|fail) only[go_sem,seval,h3]) (by simp(disch:=first|exact okD|fail) only[go_sem,seval]) hdn
   ·have f1':=fun e=>f1 (e45.1 e)
    repeat' (with_reducible first|simp(disch:=first|exact okD|fail) only[go_sem,seval,h0,h3,cs,cn,k1,hkk,hsl,f1']|(apply Spl.i<;>intro hc))
    exact rest _ (by simp(disch:=first|exact okD|fail) only[go_sem,seval,h3]) (by simp(disch:=first|exact okD|fail) only[go_sem,seval]) hdn
theorem d19 {s:List UInt8} (hl:s.length≤1000000):Gv E3 19 [.str s] h (.int .i64 (checkV s)):=by
 have hu:(unS s).length≤1000000:=by
  unfold unS;split
  ·rw[List.length_drop];omega
  ·exact hl
 refine Gv.of (CallWp.fn (fn:=R.a19) rfl rfl rfl ?_)
 have tail:=fun tm h0 h3=>chk_tail (h:=h) (tm:=tm) (s:=s) h0 h3 hu
 refine Wp.cut 3 rfl ?_
 generalize ACode.post 3 R.a19.code=rc at tail⊢
 unfold R.a19
 dsimp only[ACode.pre]
 cases s with
 | nil=>
  repeat' (with_reducible first|simp(disch:=first|exact okD|fail) only[go_sem,seval,List.length_nil]|(apply Spl.i<;>intro hc))
  exact tail _ (by simp(disch:=first|exact okD|fail) only[go_sem,seval]) (by(simp(disch:=first|exact okD|fail) only[go_sem,seval])<;>rfl)
 | cons c l=>
  have hsl:(0:Int)<((c::l:List UInt8).length:Int):=by simp
  have hsl1:(1:Int)≤((c::l:List UInt8).length:Int):=by rw[List.length_cons];omega
  have e45:(((c::l).getD 0 0).toNat:Int)=45↔c=45:=u8_int (n:=45) (by decide)
  by_cases f1:c=45
  ·have f1':=e45.2 f1
   have eu:unS (c::l)=(c::l).drop 1:=by unfold unS;rw[if_pos (by simpa using f1)]
   repeat' (with_reducible first|simp(disch:=first|exact okD|fail) only[go_sem,seval,hsl,hsl1,f1']|(apply Spl.i<;>intro hc))
   exact tail _ (by simp(disch:=first|exact okD|fail) only[go_sem,seval]) (by(simp(disch:=first|exact okD|fail) only[go_sem,seval])<;>rw[eu]<;>rfl)
  ·have f1':=fun e=>f1 (e45.1 e)
   have eu:unS (c::l)=c::l:=by unfold unS;rw[if_neg (by simpa using f1)]
   repeat' (with_reducible first|simp(disch:=first|exact okD|fail) only[go_sem,seval,hsl,hsl1,f1']|(apply Spl.i<;>intro hc))
   exact tail _ (by simp(disch:=first|exact okD|fail) only[go_sem,seval]) (by(simp(disch:=first|exact okD|fail) only[go_sem,seval])<;>rw[eu])
end
end
end Go.Ae
set_option linter.unusedVariables false
set_option linter.unusedSimpArgs false
set_option maxRecDepth 100000
set_option exponentiation.threshold 1000
set_option maxHeartbeats 2000000
namespace Go.Ae
open Bg N Go.Proofs
noncomputable section
def valS (s:List UInt8):Rat:=Rat.divInt (sgn (decide (s.head?=some 45)) (decV (numU s))) ((if brk s=true then decV (denU s)else 1:Nat):Int)
theorem valS_txt (r:Rat):valS (txtR r)=r:=by
 unfold valS
 rw[numU_txt,denU_txt,brk_txt,decP_val]
 have e1:decide ((txtR r).head?=some 45)=decide (r.num<0):=decide_eq_decide.2 (txtR_head r)
 have e2:sgn (decide (r.num<0)) r.num.natAbs=r.num:=by
  unfold sgn
  by_cases c:r.num<0
  ·rw[decide_eq_true c,if_pos rfl];omega
  ·rw[decide_eq_false c,if_neg (by decide)];omega
 have e3:(if decide (r.den≠1)=true then decV (if r.den=1 then[]else decP r.den 1)else 1)=r.den:=by
  by_cases c:r.den=1
  ·simp[c]
  ·rw[if_pos (decide_eq_true c),if_neg c,decP_val]
 rw[e1,e2,e3,Rat.num_divInt_den]
theorem txtR_inj {a b:Rat} (h:txtR a=txtR b):a=b:=by rw[←valS_txt a,h,valS_txt]
theorem txtR_valS {s:List UInt8} (h:checkV s=0):s=txtR (valS s)∧okR (valS s)=true:=by
 obtain⟨r,rfl,hr⟩:=checkV_zero h
 rw[valS_txt];exact⟨rfl,hr⟩
theorem ok_Br {r:Rat} (h:okR r=true):Br 67 r:=by
 unfold okR at h
 obtain⟨h1,h2⟩:=of_decide_eq_true h
 have h3:(10:Nat)^600≤10^603:=Nat.pow_le_pow_right (by decide) (by decide)
 have h4:(10:Nat)^603=1000000000^67:=by rw[show(1000000000:Nat)=10^9 from rfl,←Nat.pow_mul]
 unfold Br Lr
 rw[Int.natAbs_natCast]
 omega
theorem txtR_int (z:Int):txtR (z:Rat)=txtZ z:=by
 unfold txtR
 rw[Rat.den_intCast,if_pos rfl,Rat.num_intCast]
theorem sgR_le {a b:Rat}:sgR (a-b)≤0↔a≤b:=by
 have h2:0≤(b-a).num↔0≤b-a:=Rat.num_nonneg
 have h3:(b-a).num= -(a-b).num:=by rw[show b-a= -(a-b) from(Rat.neg_sub a b).symm];rfl
 rw[Rat.le_iff_sub_nonneg,←h2,h3]
 unfold sgR
 by_cases c:(a-b).num<0
 ·rw[if_pos c];omega
 ·rw[if_neg c]
  by_cases d:(a-b).num=0
  ·rw[if_pos d];omega
  ·rw[if_neg d];omega
theorem sgR_neg (a:Rat):sgR (-a)= -sgR a:=by
 unfold sgR
 rw[show(-a).num= -a.num from rfl]
 by_cases c:a.num<0
 ·rw[if_pos c,if_neg (by omega),if_neg (by omega)];rfl
 ·rw[if_neg c]
  by_cases d:a.num=0
  ·rw[if_pos d,if_neg (by omega),if_pos (by omega)];rfl
  ·rw[if_neg d,if_pos (by omega)]
theorem sgR_ge {a b:Rat}:0≤sgR (a-b)↔b≤a:=by
 rw[←sgR_le (a:=b) (b:=a),show b-a= -(a-b) from(Rat.neg_sub a b).symm,sgR_neg];omega
theorem sgR_gt {a b:Rat}:0<sgR (a-b)↔b<a:=by
 rw[←Rat.not_le,←sgR_le];omega
section
variable {h h' hp:Hp} {K:AV→Hp→Prop} {tm:T AV} {r a b c d:Rat}
theorem u94 (l1:Lr 9000 r.num) (l2:Lr 9000 (r.den:Int)):CallWp E3 94 [.str (txtR r)] h K↔K (.bool (decide (r.den=1))) h:=by
 obtain⟨t1,t2⟩:=txtR_le l1 l2
 refine CallWp.iff_of (CallWp.fn (fn:=R.a94) rfl rfl rfl ?_)
 unfold R.a94
 have cs:=fun{h:Hp} {K:AV→Hp→Prop}=>c122 (h:=h) (K:=K) (s:=txtR r) (by omega)
 have hs:=slash_txt r
 by_cases hd:r.den=1
 ·have et:((txtZ r.num).length:Int)=(txtR r).length:=by unfold txtR;rw[if_pos hd]
  rw[decide_eq_true hd]
  repeat' (with_reducible first|simp(disch:=first|exact okD|fail) only[go_sem,seval,cs,hs,et]|(apply Spl.i<;>intro hc))
 ·have et:¬((txtZ r.num).length:Int)=(txtR r).length:=by unfold txtR;rw[if_neg hd];simp;omega
  rw[decide_eq_false hd]
  repeat' (with_reducible first|simp(disch:=first|exact okD|fail) only[go_sem,seval,cs,hs,et]|(apply Spl.i<;>intro hc))
end
end
end Go.Ae
set_option linter.unusedVariables false
set_option linter.unusedSimpArgs false
set_option maxRecDepth 100000
set_option maxHeartbeats 1000000
set_option exponentiation.threshold 5000
namespace Go.Ae
open Bg N Go.Proofs
noncomputable section
section
variable {h h' hp:Hp} {K:AV→Hp→Prop} {tm:T AV} {v va s w:AV} {z z':Int} {a:Rat}
theorem wd_inj {kd:IntKind}:∀{L M:List Nat},L.map (wd kd)=M.map (wd kd)→L=M
 |[],[],_=>rfl
 | x::L,y::M,e=>by
  simp only[List.map_cons,List.cons.injEq,wd,AV.int.injEq,true_and]at e
  rw[show x=y by omega,wd_inj e.2]
 |[],_::_,e=>by simp at e
 |_::_,[],e=>by simp at e
theorem Sq.uniq {t o n:Nat} {l l':List Nat} (S:Sq .u64 h (.sl t o n 1) l) (S':Sq .u64 h (.sl t o n 1) l'):l=l':=by
 rcases S with⟨e,_⟩|⟨t1,o1,own1,st1,L1,e1,g1,h1,h2,_⟩
 ·cases e
 ·rcases S' with⟨e,_⟩|⟨t2,o2,own2,st2,L2,e2,g2,h3,h4,_⟩
  ·cases e
  ·injection e1 with q1 q2 q3
   injection e2 with r1 r2 r3
   subst q1;subst q2;subst r1;subst r2
   rw[g1]at g2
   have e:=Option.some.inj g2
   injection e with e
   have:=wd_inj e
   subst this
   rw[←h2,←h4,←q3,←r3]
theorem IsI.uniq (i:IsI h s w z) (j:IsI h s w z'):z=z':=by
 rcases i with⟨rfl,rfl,_⟩|⟨n,t,o,l,rfl,S,_,_,_,_,c⟩
 ·rcases j with⟨e,_,_⟩|⟨_,_,_,_,e,_⟩
  ·injection e
  ·cases e
 ·rcases j with⟨_,e,_⟩|⟨n',t',o',l',e,S',_,_,_,_,c'⟩
  ·cases e
  ·injection e with q1 q2 q3
   subst q1;subst q2;subst q3
   have:=S.uniq S'
   subst this
   rcases c with⟨rfl,rfl⟩|⟨rfl,rfl⟩
   ·rcases c' with⟨_,rfl⟩|⟨e,_⟩
    ·rfl
    ·injection e with _ e;exact absurd e (by decide)
   ·rcases c' with⟨e,_⟩|⟨_,rfl⟩
    ·injection e with _ e;exact absurd e (by decide)
    ·rfl
theorem itoa_txtZ (n:Int):Lib.itoa n=txtZ n:=by
 unfold txtZ
 by_cases c:n<0
 ·obtain⟨u,rfl⟩:∃u:Nat,n= -(u:Int):=⟨n.natAbs,by omega⟩
  rw[if_pos c,Lib.itoa_neg u (by omega),digits_decP,Int.natAbs_neg,Int.natAbs_natCast]
 ·obtain⟨u,rfl⟩:∃u:Nat,n=(u:Int):=⟨n.natAbs,by omega⟩
  rw[if_neg c,Lib.itoa_nonneg u,digits_decP,Int.natAbs_natCast]
def p264f:Prim:=fun args h=>
 open Classical in if hx:∃z:Int,∃s w,args=[.agg [s,w]]∧IsI h s w z∧Lim 3999 z then some (.str (txtZ hx.choose),h)else none
theorem p264f_eq (i:IsI h s w z) (lz:Lim 3999 z):p264f [.agg [s,w]] h=some (.str (txtZ z),h):=by
 have hx:∃z:Int,∃s' w',[AV.agg [s,w]]=[.agg [s',w']]∧IsI h s' w' z∧Lim 3999 z:=⟨z,s,w,rfl,i,lz⟩
 unfold p264f
 rw[dif_pos hx]
 obtain⟨s',w',e,j,_⟩:=hx.choose_spec
 simp only[List.cons.injEq,AV.agg.injEq,and_true]at e
 obtain⟨rfl,rfl⟩:=e
 rw[i.uniq j]
theorem p264f_cases {args:List AV} (hv:p264f args h=some (v,h')):∃z s w,args=[.agg [s,w]]∧IsI h s w z∧Lim 3999 z∧v= .str (txtZ z)∧h'=h:=by
 unfold p264f at hv
 split at hv
 ·rename_i hx
  obtain⟨rfl,rfl⟩:=pair_inj hv
  obtain⟨s,w,e,i,l⟩:=hx.choose_spec
  exact⟨_,s,w,e,i,l,rfl,rfl⟩
 ·cases hv
def EX:Env:=E3.withR 264 p264f
theorem gqX:Gq E3 EX:=by
 refine Gq.withR (q:=p264) rfl fun args h x hx=>?_
 unfold p264 at hx
 split at hx
 ·rename_i n
  split at hx
  ·rename_i hn
   obtain rfl:=Option.some.inj hx
   rw[itoa_txtZ]
   exact p264f_eq (.inl ⟨rfl,rfl,hn⟩) ((Lim.small hn).mono (by decide))
  ·cases hx
 ·cases hx
theorem envX {W0:World} {base:Nat} (G:L.Glob W0 base):EnvOk Tryz.prog W0 base EX:=by
 refine((env2 G).add R.good).withR fun args h v h' hv=>?_
 obtain⟨z,s,w,rfl,i,l,rfl,rfl⟩:=p264f_cases hv
 refine⟨Later.refl _,fun ρ wd B R hok=>?_⟩
 rcases id i with⟨rfl,rfl,hz⟩|⟨n,t,o,li,rfl,_,_,_,_,_,c⟩
 ·have:p264 [.agg [.int .i64 z,.nils]] h'=some (.str (Lib.itoa z),h'):=if_pos hz
  rw[←itoa_txtZ]
  exact(k264 G _ _ _ _ this).2 ρ wd B R
 ·rcases c with⟨rfl,_⟩|⟨rfl,_⟩
  ·exact str_does G B R i l hok
  ·exact str_does G B R i l hok
theorem x3 {f:Nat} {args:List AV} {v:AV} (hc:Gv E3 f args h v):Gv EX f args h v:=hc.gq gqX
theorem x2 {f:Nat} {args:List AV} {v:AV} (hc:Gv E2 f args h v):Gv EX f args h v:=(gu3 hc).gq gqX
theorem xp2 {f:Nat} {args:List AV} {p:AV→Hp→Prop} (hc:Gp E2 f args h p):Gp EX f args h p:=by
 obtain⟨v,h',h1,h2,h3⟩:=hc
 exact⟨v,h',(h1.ge ge3).gq gqX,h2,h3⟩
theorem xu3 {f:Nat} {args:List AV} {h':Hp} {v:AV} (hc:∀K,CallWp E3 f args h K↔K v h'):CallWp EX f args h K↔K v h':=upq gqX hc
theorem xu2 {f:Nat} {args:List AV} {h':Hp} {v:AV} (hc:∀K,CallWp E2 f args h K↔K v h'):CallWp EX f args h K↔K v h':=upq gqX fun K=>up ge3 hc
theorem x264 (i:IsI h s w z) (lz:Lim 3999 z):CallWp EX 264 [.agg [s,w]] h K↔K (.str (txtZ z)) h:=by
 rw[CallWp.prim_iff (p:=p264f) rfl rfl,p264f_eq i lz];exact Iff.rfl
theorem i199 {m:Nat} (ix:IsI h s w z) (lz:Lim m z) (hm:m≤4000):Gp E2 199 [.agg [s,w]] h fun v h'=>∃b:Nat,v= .int .i64 b∧z.natAbs<2^b∧b≤64*m:=by
 obtain⟨o1,o2⟩:=ix.one
 obtain⟨m1,rfl⟩:=ix.fst
 refine Gp.of (CallWp.fn (fn:=C.a199) rfl rfl rfl ?_)
 unfold C.a199
 repeat' (with_reducible first|simp(disch:=first|exact okD|fail) only[go_sem,seval,o1,o2]|(apply Spl.i<;>intro hc))
 refine Gp.wp (c202 (ix.grs okG)) fun v k a b u ⟨w',l,e0,S0,D0,N0,V0,L0⟩=>?_
 subst e0
 have ln:=S0.rd.len
 have ad:=S0.rd.adr
 by_cases hz:l=[]
 ·subst hz
  simp only[List.length_nil]at ln
  have e0:((0:Nat):Int)=0:=rfl
  repeat' (with_reducible first|simp(disch:=first|exact okD|fail) only[go_sem,seval,ln,e0]|(apply Spl.i<;>intro hc))
  rw[vl_nil]at V0
  refine⟨⟨0,rfl,by rw[←V0];decide,Nat.zero_le _⟩,?_⟩
  exact okG
 ·have hlp:=List.length_pos_iff.2 hz
  have hll:=lz.len N0 V0
  have ldt:=S0.rd.load (l.length-1) (by omega)
  have i1:((l.length:Int)-1).toNat=l.length-1:=by omega
  have htd:=Dg.getD (B:=18446744073709551616) (by decide) D0 (l.length-1)
  have hne:¬(l.length:Int)=0:=by omega
  have hb:=bitLen_lt (n:=l.getD (l.length-1) 0) (k:=64) htd
  have c6:=fun{h:Hp} {K:AV→Hp→Prop}=>c266 (h:=h) (K:=K) (x:=l.getD (l.length-1) 0) (by omega)
  have w1:IntKind.wrap .i64 (64*((l.length:Int)-1))=64*((l.length:Int)-1):=wrap_i64 (by omega)
  have w2:IntKind.wrap .i64 (64*((l.length:Int)-1)+(bitLen (l.getD (l.length-1) 0):Nat))=((64*(l.length-1)+bitLen (l.getD (l.length-1) 0):Nat):Int):=by rw[wrap_i64 (by omega)];omega
  repeat' (with_reducible first|simp(disch:=first|exact okD|fail) only[go_sem,seval,ln,ad,ldt,i1,hne,c6,w1,w2]|(apply Spl.i<;>intro hc))
  refine⟨⟨_,rfl,?_,by omega⟩,?_⟩
  ·have hv1:=vl_take_succ (B:=18446744073709551616) (l:=l) (i:=l.length-1) (by omega)
   rw[show l.length-1+1=l.length by omega,List.take_length]at hv1
   have hv2:=vl_lt (B:=18446744073709551616) (by decide) (D0.take (n:=l.length-1))
   rw[List.length_take,Nat.min_eq_left (by omega)]at hv2
   have hb2:=bitLen_le (Nat.le_refl (bitLen (l.getD (l.length-1) 0)))
   have e64:(18446744073709551616:Nat)^(l.length-1)=2^(64*(l.length-1)):=by rw[show(18446744073709551616:Nat)=2^64 from rfl,←Nat.pow_mul]
   rw[←V0,hv1,Nat.pow_add,←e64]
   have:18446744073709551616^(l.length-1)*(l.getD (l.length-1) 0+1)≤18446744073709551616^(l.length-1)*2^bitLen (l.getD (l.length-1) 0):=Nat.mul_le_mul_left _ hb2
   rw[Nat.mul_add,Nat.mul_one]at this
   omega
  ·exact okG
theorem x216 (ix:IsI h s w z) (lz:Lim 3999 z):Gv EX 216 [.agg [s,w]] h (.bool (decide (10^600≤z.natAbs))):=by
 obtain⟨o1,o2⟩:=ix.one
 obtain⟨m1,rfl⟩:=ix.fst
 have hp:(2:Nat)^1800≤10^600:=by decide+kernel
 refine Gv.of (CallWp.fn (fn:=C.a216) rfl rfl rfl ?_)
 unfold C.a216
 repeat' (with_reducible first|simp(disch:=first|exact okD|fail) only[go_sem,seval,o1,o2]|(apply Spl.i<;>intro hc))
 refine Gp.wp (xp2 (i199 (ix.grs okG) lz (by decide))) fun v k a b u ⟨b1,e1,hb,_⟩=>?_
 subst e1
 by_cases c:1800<b1
 ·have c':(1800:Int)<(b1:Int):=by omega
  have cS:=fun{K:AV→Hp→Prop}=>x264 (K:=K) ((ix.grs okG:IsI ((h.push fun t=> .row [.int .i64 m1,w] true t).ov k u) (.int .i64 m1) w z)) lz
  have cU:=fun{h:Hp} {K:AV→Hp→Prop}=>xu2 (h:=h) (K:=K) fun K=>u259 (s:=txtZ z) (h:=h) (K:=K)
  have eu:unS (txtZ z)=decP z.natAbs 1:=by
   have:=unS_txt (z:Rat)
   rw[txtR_int]at this
   rw[this];unfold absR
   rw[Rat.den_intCast,Rat.num_intCast,if_pos rfl]
  rw[eu]at cU
  have hd:=decP_ge (n:=z.natAbs)
  by_cases d:10^600≤z.natAbs
  ·have d':(600:Int)<(decP z.natAbs 1).length:=by
    have:¬(decP z.natAbs 1).length≤600:=fun e=>by have:=hd.1 e;omega
    omega
   rw[decide_eq_true d]
   repeat' (with_reducible first|simp(disch:=first|exact okD|fail) only[go_sem,seval,o1,o2,c',cS,cU,d']|(apply Spl.i<;>intro hc))
   exact okG
  ·have d':¬(600:Int)<(decP z.natAbs 1).length:=by
    have:=hd.2 (by omega)
    omega
   rw[decide_eq_false d]
   repeat' (with_reducible first|simp(disch:=first|exact okD|fail) only[go_sem,seval,o1,o2,c',cS,cU,d']|(apply Spl.i<;>intro hc))
   exact okG
 ·have c':¬(1800:Int)<(b1:Int):=by omega
  have d:¬10^600≤z.natAbs:=by
   have:(2:Nat)^b1≤2^1800:=Nat.pow_le_pow_right (by decide) (by omega)
   omega
  rw[decide_eq_false d]
  repeat' (with_reducible first|simp(disch:=first|exact okD|fail) only[go_sem,seval,o1,o2,c']|(apply Spl.i<;>intro hc))
  exact okG
theorem okR_not {a:Rat}:(decide (10^600≤a.num.natAbs)||decide (10^600≤(a.den:Int).natAbs))= !(okR a):=by
 unfold okR
 rw[Int.natAbs_natCast]
 by_cases c1:a.num.natAbs<10^600
 ·by_cases c2:a.den<10^600
  ·rw[decide_eq_false (by omega),decide_eq_false (by omega),decide_eq_true ⟨c1,c2⟩];rfl
  ·rw[decide_eq_true (p:=10^600≤a.den) (by omega),decide_eq_false (p:=a.num.natAbs<10^600∧a.den<10^600) (fun e=>c2 e.2),Bool.or_true];rfl
 ·rw[decide_eq_true (p:=10^600≤a.num.natAbs) (by omega),decide_eq_false (p:=a.num.natAbs<10^600∧a.den<10^600) (fun e=>c1 e.1),Bool.true_or];rfl
theorem x140 (ia:IsF h va a) (la:Bd 3999 a):Gv EX 140 [va] h (.bool (!(okR a))):=by
 obtain⟨n1,w1,n2,w2,rfl,o1,o2,I1,I2⟩:=ia.ex
 refine Gv.of (CallWp.fn (fn:=C.a140) rfl rfl rfl ?_)
 unfold C.a140
 rw[←okR_not]
 repeat' (with_reducible first|simp(disch:=first|exact okD|fail) only[go_sem,seval,o1,o2]|(apply Spl.i<;>intro hc))
 refine Gv.wp (x216 (I1.grs okG) la.1) fun h1 k1 j1 u1=>?_
 by_cases d:10^600≤a.num.natAbs
 ·rw[decide_eq_true d]
  repeat' (with_reducible first|simp(disch:=first|exact okD|fail) only[go_sem,seval,o1,o2]|(apply Spl.i<;>intro hc))
  refine⟨by simp,?_⟩
  exact okG
 ·rw[decide_eq_false d]
  repeat' (with_reducible first|simp(disch:=first|exact okD|fail) only[go_sem,seval,o1,o2]|(apply Spl.i<;>intro hc))
  refine Gv.wp (x216 (I2.grs okG) la.2) fun h2 k2 j2 u2=>?_
  repeat' (with_reducible first|simp(disch:=first|exact okD|fail) only[go_sem,seval,o1,o2]|(apply Spl.i<;>intro hc))
  refine⟨by simp,?_⟩
  exact okG
theorem x196 (ia:IsF h va a) (la:Bd 3999 a) (hl:(txtR a).length≤1000000):Gv EX 196 [va] h (.str (txtR a)):=by
 obtain⟨n1,w1,n2,w2,e,o1,o2,I1,I2⟩:=id ia.ex
 refine Gv.of (CallWp.fn (fn:=C.a196) rfl rfl rfl ?_)
 unfold C.a196
 subst e
 repeat' (with_reducible first|simp(disch:=first|exact okD|fail) only[go_sem,seval,o1,o2]|(apply Spl.i<;>intro hc))
 refine Gv.wp (x2 (i241 (ia.grs okG))) fun h1 k1 j1 u1=>?_
 have cS:=fun{h':Hp} {K:AV→Hp→Prop} (g:Grs h h')=>x264 (h:=h') (K:=K) (I1.grs g) la.1
 have cT:=fun{h':Hp} {K:AV→Hp→Prop} (g:Grs h h')=>x264 (h:=h') (K:=K) (I2.grs g) la.2
 by_cases d:(a.den:Int)=1
 ·have et:txtR a=txtZ a.num:=if_pos (by omega)
  rw[et]
  have c1:=fun{K:AV→Hp→Prop}=>cS (h':=(h.push fun t=> .row [.int .i64 n1,w1,.int .i64 n2,w2] true t).ov h1 u1) (K:=K) okG
  repeat' (with_reducible first|simp(disch:=first|exact okD|fail) only[go_sem,seval,o1,o2,d,c1]|(apply Spl.i<;>intro hc))
  exact okG
 ·have et:txtR a=txtZ a.num++47::txtZ a.den:=if_neg (by omega)
  rw[et]at hl⊢
  rw[List.length_append,List.length_cons]at hl
  have c1:=fun{K:AV→Hp→Prop}=>cS (h':=(h.push fun t=> .row [.int .i64 n1,w1,.int .i64 n2,w2] true t).ov h1 u1) (K:=K) okG
  have c2:=fun{K:AV→Hp→Prop}=>cT (h':=(h.push fun t=> .row [.int .i64 n1,w1,.int .i64 n2,w2] true t).ov h1 u1) (K:=K) okG
  repeat' (with_reducible first|simp(disch:=first|exact okD|fail) only[go_sem,seval,o1,o2,d,c1,c2]|(apply Spl.i<;>intro hc))
  refine⟨by simp,?_⟩
  exact okG
end
end
end Go.Ae
set_option linter.unusedVariables false
set_option linter.unusedSimpArgs false
set_option maxRecDepth 100000
set_option maxHeartbeats 2000000
set_option exponentiation.threshold 5000
namespace Go.Ae
open Bg N Go.Proofs
noncomputable section
section
variable {h h' hp:Hp} {K:AV→Hp→Prop} {tm:T AV} {v va vb s w:AV} {a b c r:Rat}
theorem Lim.of {n m:Nat} (hn:n<18446744073709551616^m):Lim m (n:Int):=by unfold Lim;rw[Int.natAbs_natCast];exact hn
theorem Lim.nat {m x y:Nat} (hy:Lim m (y:Int)) (hx:x≤y):Lim m (x:Int):=hy.le (by rw[Int.natAbs_natCast,Int.natAbs_natCast];exact hx)
theorem AtS.p_at {t:Nat} {cs:List AV} (e:t=h.next):AtS (h.push fun s=> .row cs true s) t cs:=by subst e;exact AtS.push
theorem AtS.p_o {t:Nat} {cs:List AV} {f:Nat→AObj} (a:AtS h t cs):AtS (h.push f) t cs:=a.grs (Grs.refl h).push
theorem AtS.o_v {t:Nat} {cs:List AV} {k j:Nat} {g:Grw h h' k j} (a:AtS h t cs):AtS (h.ov h' g) t cs:=a.grs ⟨_,_,g⟩
theorem okT {p:Prop} (h:p:=by repeat(first|assumption|exact AtS.p_at okO|exact AtS.put okO|refine AtS.p_o ?_|refine AtS.o_v ?_|refine AtS.other ?_ okO)):p:=h
theorem i198 {a k:Nat} (ix:IsI h s w (a:Int)) (ha:1≤a) (hl:Lim 900 ((a^k:Nat):Int)) (hl1:Lim 900 (a:Int)) (hk:k≤1000000):Gp E2 198 [.agg [s,w],.int .i64 k] h fun v h'=>IsV h' v ((a^k:Nat):Int):=by
 obtain⟨n0,rfl⟩:=ix.fst
 obtain⟨_,o0⟩:=ix.one
 refine Gp.of (CallWp.fn (fn:=C.a198) rfl rfl rfl ?_)
 unfold C.a198
 obtain⟨r,hr⟩:∃r,r=a^k:=⟨_,rfl⟩
 rw[←hr]at hl⊢
 repeat' (with_reducible first|simp(disch:=first|exact okD|fail) only[go_sem,seval,o0]|(apply Spl.i<;>intro hc))
 refine Gv.wp c120 fun h1 k1 j1 u1=>?_
 repeat' (with_reducible first|simp(disch:=first|exact okD|fail) only[go_sem,seval,o0]|(apply Spl.i<;>intro hc))
 refine Wp.loopI (fun m st=>∃(x y k':Nat) (t5:Nat) (n2:Int) (w2:AV) (n5:Int) (w5:AV),val st.tm (.t 1)= .int .i64 k'∧val st.tm (.t 2)= .ptr h.next 0∧val st.tm (.t 4)= .ptr (h.next+1) 0∧val st.tm (.t 5)= .ptr t5 0∧
  AtS st.hp h.next [.int .i64 n2,w2]∧AtS st.hp (h.next+1) [.int .i64 0,.nils]∧AtS st.hp t5 [.int .i64 n5,w5]∧Grs h st.hp∧IsI st.hp (.int .i64 n2) w2 (x:Int)∧IsI st.hp (.int .i64 n5) w5 (y:Int)∧
  h.next+1<t5∧y*x^k'=r∧1≤y∧1≤x∧Lim 900 (x:Int)∧k'≤1000000∧k'=m) (n:=k) ?_ ?_
 ·refine⟨a,1,k,_,n0,w,1,.nils,by simp(disch:=first|exact okD|fail) only[go_sem,seval],by simp(disch:=first|exact okD|fail) only[go_sem,seval],by simp(disch:=first|exact okD|fail) only[go_sem,seval],by(simp(disch:=first|exact okD|fail) only[go_sem,seval])<;>rfl,okT,okT,okT,okG,(ix.grs okG).putI (by simp(disch:=first|exact okD|fail) only[go_sem,seval,isCell_row]),IsI.small (by omega),by omega,by rw[hr,Nat.one_mul],Nat.le_refl _,ha,hl1,hk,rfl⟩
 ·rintro m ⟨tm,hp⟩ ⟨x,y,k',t5,n2,w2,n5,w5,h1',h2,h4,h5,A2,A4,A5,G,Ix,Iy,lt5,heq,hy,hx,lx,hk2,rfl⟩
  simp only at h1' h2 h4 h5 A2 A4 A5 G Ix Iy
  obtain⟨s2,q2,c2,t2⟩:=id A2
  obtain⟨s4,q4,c4,t4⟩:=id A4
  obtain⟨s5,q5,c5,t5'⟩:=id A5
  obtain⟨_,o2⟩:=Ix.one
  obtain⟨_,o5⟩:=Iy.one
  have n25:h.next≠t5:=by omega
  have n45:h.next+1≠t5:=by omega
  have hge:h.next≤t5:=by omega
  have b3:x^k'≤y*x^k':=Nat.le_mul_of_pos_left _ hy
  have b4:y≤y*x^k':=Nat.le_mul_of_pos_right _ (Nat.pow_pos (by omega))
  rw[heq]at b3 b4
  have ly:Lim 900 (y:Int):=hl.nat b4
  rcases Nat.eq_zero_or_pos k' with rfl|hp0
  ·have e1:((0:Nat):Int)=0:=rfl
   have hyv:r=y:=by rw[←heq];simp
   rw[hyv]
   repeat' (with_reducible first|simp(disch:=first|exact okD|fail) only[go_sem,seval,h1',h2,h4,h5,q2,q4,q5,e1,o5]|(apply Spl.i<;>intro hc))
   refine⟨⟨_,_,rfl,Iy.putI (by simp(disch:=first|exact okD|fail) only[go_sem,seval,isCell_row,q4])⟩,Grs.put G (by omega)⟩
  ·have b1:y*x≤y*x^k':=Nat.mul_le_mul_left y (Nat.le_self_pow (by omega) x)
   rw[heq]at b1
   have b2:2≤k'→x*x≤x^k':=fun e=>by
    have:=Nat.pow_le_pow_right hx e
    rwa[Nat.pow_two]at this
   have p2:x^k'=(x*x)^(k'/2)*x^(k'%2):=by
    rw[←Nat.pow_two,←Nat.pow_mul,←Nat.pow_add,Nat.div_add_mod]
   have x2:1≤x*x:=Nat.mul_pos hx hx
   have yx1:1≤y*x:=Nat.mul_pos hy hx
   have ex:((x:Int)*x)=((x*x:Nat):Int):=(Int.natCast_mul _ _).symm
   have eyx:((y:Int)*x)=((y*x:Nat):Int):=(Int.natCast_mul _ _).symm
   have dv:k'/2<k':=by omega
   have dv2:k'/2≤1000000:=by omega
   rcases Nat.mod_two_eq_zero_or_one k' with hm|hm
   ·have k1':1<(k':Int):=by omega
    have lxx:Lim 900 ((x*x:Nat):Int):=hl.nat (Nat.le_trans (b2 (by omega)) b3)
    rw[hm,Nat.pow_zero,Nat.mul_one]at p2
    rw[p2]at heq
    repeat' (with_reducible first|simp(disch:=first|exact okD|fail) only[go_sem,seval,h1',h2,h4,h5,q2,q4,q5,b_and1,b_shr1,hm,k1',o2,o5]|(apply Spl.i<;>intro hc))
    refine Gp.wp (i195 Ix Ix (lx.mono (by decide)) (lx.mono (by decide))) fun v6 k6 a6 b6 u6 I6=>?_
    obtain⟨n6,w6,rfl,o6,I6⟩:=I6.ex2
    rw[ex]at I6
    generalize x*x=xx at *
    have G6:Grs hp (hp.ov k6 u6):=⟨_,_,u6⟩
    repeat' (with_reducible first|simp(disch:=first|exact okD|fail) only[go_sem,seval,h1',h2,h4,h5,q2,q4,q5,b_and1,b_shr1,hm,k1',o6]|(apply Spl.i<;>intro hc))
    exact⟨_,dv,xx,y,k'/2,t5,n6,w6,n5,w5,rfl,rfl,AtS.put okO,(A4.grs G6).other (by omega),(A5.grs G6).other (by omega),Grs.put (G.trans G6) (by omega),I6.putI (by rw[Hp.ov_get t2,q2];rfl),(Iy.grs G6).putI (by rw[Hp.ov_get t2,q2];rfl),lt5,heq,hy,x2,lxx,dv2,rfl⟩
   ·rw[hm,Nat.pow_one]at p2
    have lyx:Lim 900 ((y*x:Nat):Int):=hl.nat b1
    have heq1:y*x*(x*x)^(k'/2)=r:=by rw[←heq,p2,Nat.mul_assoc,Nat.mul_comm x]
    by_cases k1':1<(k':Int)
    ·have lxx:Lim 900 ((x*x:Nat):Int):=hl.nat (Nat.le_trans (b2 (by omega)) b3)
     repeat' (with_reducible first|simp(disch:=first|exact okD|fail) only[go_sem,seval,h1',h2,h4,h5,q2,q4,q5,b_and1,b_shr1,hm,k1',o2,o5]|(apply Spl.i<;>intro hc))
     refine Gp.wp (i195 Iy Ix (ly.mono (by decide)) (lx.mono (by decide))) fun v6 k6 a6 b6 u6 I6=>?_
     obtain⟨n6,w6,rfl,o6,I6⟩:=I6.ex2
     rw[eyx]at I6
     have G6:Grs hp (hp.ov k6 u6):=⟨_,_,u6⟩
     repeat' (with_reducible first|simp(disch:=first|exact okD|fail) only[go_sem,seval,h1',h2,h4,h5,q2,q4,q5,b_and1,b_shr1,hm,k1',o2,o5,o6]|(apply Spl.i<;>intro hc))
     have Ix1:=(Ix.grs G6).putI (p:=t5) (f:=fun st=> .row [.int .i64 n6,w6] true st) (by rw[Hp.ov_get t5',q5];rfl)
     have I61:=I6.putI (p:=t5) (f:=fun st=> .row [.int .i64 n6,w6] true st) (by rw[Hp.ov_get t5',q5];rfl)
     have A21:=(A2.grs G6).other (f:=fun st=> .row [.int .i64 n6,w6] true st) n25
     have A41:=(A4.grs G6).other (f:=fun st=> .row [.int .i64 n6,w6] true st) n45
     have A51:AtS ((hp.ov k6 u6).put t5 fun st=> .row [.int .i64 n6,w6] true st) t5 [.int .i64 n6,w6]:=AtS.put okO
     have G61:=Grs.put (f:=fun st=> .row [.int .i64 n6,w6] true st) (G.trans G6) hge
     generalize (hp.ov k6 u6).put t5 (fun st=> .row [.int .i64 n6,w6] true st)=hs at *
     refine Gp.wp (i195 Ix1 Ix1 (lx.mono (by decide)) (lx.mono (by decide))) fun v7 k7 a7 b7 u7 I7=>?_
     obtain⟨n7,w7,rfl,o7,I7⟩:=I7.ex2
     rw[ex]at I7
     have G7:Grs hs (hs.ov k7 u7):=⟨_,_,u7⟩
     obtain⟨s21,q21,c21,t21⟩:=id A21
     generalize x*x=xx at *
     generalize y*x=yx at *
     repeat' (with_reducible first|simp(disch:=first|exact okD|fail) only[go_sem,seval,h1',h2,h4,h5,q21,b_and1,b_shr1,hm,k1',o7]|(apply Spl.i<;>intro hc))
     exact⟨_,dv,xx,yx,k'/2,t5,n7,w7,n6,w6,rfl,rfl,AtS.put okO,(A41.grs G7).other (by omega),(A51.grs G7).other (by omega),Grs.put (G61.trans G7) (by omega),I7.putI (by rw[Hp.ov_get t21,q21];rfl),(I61.grs G7).putI (by rw[Hp.ov_get t21,q21];rfl),lt5,heq1,yx1,x2,lxx,dv2,rfl⟩
    ·have k1e:k'/2=0:=by omega
     have heq2:y*x*x^(k'/2)=r:=by rw[←heq1,k1e,Nat.pow_zero,Nat.pow_zero]
     repeat' (with_reducible first|simp(disch:=first|exact okD|fail) only[go_sem,seval,h1',h2,h4,h5,q2,q4,q5,b_and1,b_shr1,hm,k1',o2,o5]|(apply Spl.i<;>intro hc))
     refine Gp.wp (i195 Iy Ix (ly.mono (by decide)) (lx.mono (by decide))) fun v6 k6 a6 b6 u6 I6=>?_
     obtain⟨n6,w6,rfl,o6,I6⟩:=I6.ex2
     rw[eyx]at I6
     have G6:Grs hp (hp.ov k6 u6):=⟨_,_,u6⟩
     generalize y*x=yx at *
     repeat' (with_reducible first|simp(disch:=first|exact okD|fail) only[go_sem,seval,h1',h2,h4,h5,q2,q4,q5,b_and1,b_shr1,hm,k1',o2,o5,o6]|(apply Spl.i<;>intro hc))
     exact⟨_,dv,x,yx,k'/2,t5,n2,w2,n6,w6,rfl,rfl,(A2.grs G6).other n25,(A4.grs G6).other n45,AtS.put okO,Grs.put (G.trans G6) hge,(Ix.grs G6).putI (by rw[Hp.ov_get t5',q5];rfl),I6.putI (by rw[Hp.ov_get t5',q5];rfl),lt5,heq2,yx1,hx,lx,dv2,rfl⟩
theorem with_heap {E:Env} {f:Nat} {args:List AV} {H:Hp} {P:Hp→Prop} (hP:P H) (hk:∀h,P h→CallWp E f args h K):CallWp E f args H K:=hk H hP
theorem pow_lim {k m:Nat} (hk:k<64*m):Lim m ((2^k:Nat):Int):=by
 refine Lim.of ?_
 rw[show(18446744073709551616:Nat)=2^64 from rfl,←Nat.pow_mul]
 exact Nat.pow_lt_pow_right (by decide) hk
theorem i118 {n:Nat} (ix:IsI h s w (n:Int)) (ln:Lim 800 (n:Int)):Gp E2 118 [.agg [s,w]] h fun v h'=>IsV h' v (isq n:Nat):=by
 obtain⟨n0,rfl⟩:=ix.fst
 obtain⟨_,o0⟩:=ix.one
 refine Gp.of (CallWp.fn (fn:=C.a118) rfl rfl rfl ?_)
 unfold C.a118
 repeat' (with_reducible first|simp(disch:=first|exact okD|fail) only[go_sem,seval,o0]|(apply Spl.i<;>intro hc))
 refine Gv.wp (i194 (ix.grs okG)) fun h1 k1 j1 u1=>?_
 rcases Nat.eq_zero_or_pos n with rfl|hp
 ·have e0:max (-1) (min 1 (((0:Nat):Int)))=0:=rfl
  have ei:isq 0=0:=rfl
  repeat' (with_reducible first|simp(disch:=first|exact okD|fail) only[go_sem,seval,o0,e0]|(apply Spl.i<;>intro hc))
  rw[ei]
  refine⟨⟨_,_,rfl,(ix.grs okG).putI (by simp(disch:=first|exact okD|fail) only[go_sem,seval,isCell_row])⟩,?_⟩
  exact okG
 have e1:max (-1) (min 1 (n:Int))=1:=by omega
 repeat' (with_reducible first|simp(disch:=first|exact okD|fail) only[go_sem,seval,o0,e1]|(apply Spl.i<;>intro hc))
 refine Gv.wp c120 fun h2 k2 j2 u2=>?_
 repeat' (with_reducible first|simp(disch:=first|exact okD|fail) only[go_sem,seval,o0]|(apply Spl.i<;>intro hc))
 refine Gp.wp (i199 (ix.grs okG) ln (by decide)) fun v3 h3 k3 j3 u3 ⟨b,eb,hb,lb⟩=>?_
 subst eb
 rw[Int.natAbs_natCast]at hb
 have e2:((b:Int)+1)/2=((b+1)/2:Nat):=by omega
 have hb1:(b:Int)≤51200:=by omega
 have hx0:n<(2^((b+1)/2)+1)*(2^((b+1)/2)+1):=by
  have h2:2^b≤2^((b+1)/2+(b+1)/2):=Nat.pow_le_pow_right (by decide) (by omega)
  rw[Nat.pow_add]at h2
  have:=Nat.mul_le_mul (show 2^((b+1)/2)≤2^((b+1)/2)+1 by omega) (show 2^((b+1)/2)≤2^((b+1)/2)+1 by omega)
  omega
 have hx1:1≤2^((b+1)/2):=Nat.one_le_two_pow
 have hxl:Lim 401 ((2^((b+1)/2):Nat):Int):=pow_lim (by omega)
 generalize hk:(b+1)/2=k at *
 repeat' (with_reducible first|simp(disch:=first|exact okD|fail) only[go_sem,seval,e2,hb1]|(apply Spl.i<;>intro hc))
 refine Gp.wp (i198 (a:=2) (k:=k) (IsI.small (by omega)) (by decide) (hxl.mono (by decide)) ((Lim.small (n:=2) (by omega)).mono (by decide)) (by omega)) fun v4 h4 k4 j4 u4 I4=>?_
 obtain⟨n4,w4,rfl,o4,I4⟩:=I4.ex2
 generalize 2^k=x0 at *
 repeat' (with_reducible first|simp(disch:=first|exact okD|fail) only[go_sem,seval,o4]|(apply Spl.i<;>intro hc))
 refine Wp.loopI (fun m st=>∃(x t3:Nat) (n3:Int) (w3:AV),val st.tm (.t 1)= .ptr h.next 0∧val st.tm (.t 2)= .ptr (h.next+1) 0∧val st.tm (.t 3)= .ptr t3 0∧
  AtS st.hp h.next [.int .i64 n0,w]∧AtS st.hp (h.next+1) [.int .i64 0,.nils]∧AtS st.hp t3 [.int .i64 n3,w3]∧Grs h st.hp∧IsI st.hp (.int .i64 n3) w3 (x:Int)∧h.next+1<t3∧1≤x∧x≤x0∧n<(x+1)*(x+1)∧x=m) (n:=x0) ?_ ?_
 ·exact⟨x0,_,n4,w4,by simp(disch:=first|exact okD|fail) only[go_sem,seval],by simp(disch:=first|exact okD|fail) only[go_sem,seval],by(simp(disch:=first|exact okD|fail) only[go_sem,seval])<;>rfl,okT,okT,okT,okG,(I4.grs okG).putI (by simp(disch:=first|exact okD|fail) only[go_sem,seval,isCell_row]),by omega,hx1,Nat.le_refl _,hx0,rfl⟩
 ·rintro m ⟨tm,hp'⟩ ⟨x,t3,n3,w3,h1',h2',h3',A1,A2,A3,G,Ix,lt3,x1,x2,hx,rfl⟩
  simp only at h1' h2' h3' A1 A2 A3 G Ix
  obtain⟨s1,q1,c1,t1⟩:=id A1
  obtain⟨s2,q2,c2,t2⟩:=id A2
  obtain⟨s3,q3,c3,t3'⟩:=id A3
  obtain⟨_,o3⟩:=Ix.one
  have lx:Lim 401 (x:Int):=hxl.nat x2
  have ln':Lim 3999 (n:Int):=ln.mono (by decide)
  have d1:n/x≤n:=Nat.div_le_self n x
  have hw:=newton_ge x1 hx
  have he:=newton_end x1 hx
  have ed:(n:Int).fdiv x=((n/x:Nat):Int):=by rw[Int.fdiv_eq_ediv_of_nonneg _ (by omega)];rfl
  have ed2:((x:Int)+(n/x:Nat)).fdiv 2=(((x+n/x)/2:Nat):Int):=by rw[Int.fdiv_eq_ediv_of_nonneg _ (by decide)];omega
  have ldv:Lim 800 ((n/x:Nat):Int):=ln.le (by rw[Int.natAbs_natCast,Int.natAbs_natCast];exact d1)
  repeat' (with_reducible first|simp(disch:=first|exact okD|fail) only[go_sem,seval,h1',h2',h3',q1,q2,q3,o0,o3]|(apply Spl.i<;>intro hc))
  refine Gp.wp (i197 (ix.grs okG) Ix ln' (lx.mono (by decide)) (by omega)) fun v5 h5 k5 j5 u5 ⟨va,vb,e5,I5,I5'⟩=>?_
  subst e5
  obtain⟨n5,w5,rfl,o5,I5⟩:=I5.ex2
  obtain⟨n6,w6,rfl,o6,I5'⟩:=I5'.ex2
  rw[ed]at I5
  repeat' (with_reducible first|simp(disch:=first|exact okD|fail) only[go_sem,seval,h1',h2',h3',q1,q2,q3,o0,o3,o5,o6]|(apply Spl.i<;>intro hc))
  refine Gp.wp (i121 (Ix.grs okG) (I5.grs okG) (lx.mono (by decide)) (ldv.mono (by decide))) fun v7 h7 k7 j7 u7 I7=>?_
  obtain⟨n7,w7,rfl,o7,I7⟩:=I7.ex2
  repeat' (with_reducible first|simp(disch:=first|exact okD|fail) only[go_sem,seval,h1',h2',h3',q1,q2,q3,o0,o3,o5,o6,o7]|(apply Spl.i<;>intro hc))
  refine Gv.wp c120 fun h8 k8 j8 u8=>?_
  repeat' (with_reducible first|simp(disch:=first|exact okD|fail) only[go_sem,seval,h1',h2',h3',q1,q2,q3,o0,o3,o5,o6,o7]|(apply Spl.i<;>intro hc))
  refine Gp.wp (i197 (I7.grs okG) (IsI.small (n:=2) (by omega)) ((lx.mono (by decide:401≤3000)).add (ldv.mono (by decide))|>.mono (by decide)) ((Lim.small (n:=2) (by omega)).mono (by decide)) (by decide)) fun v9 h9 k9 j9 u9 ⟨va,vb,e9,I9,I9'⟩=>?_
  subst e9
  obtain⟨n9,w9,rfl,o9,I9⟩:=I9.ex2
  obtain⟨n10,w10,rfl,o10,I9'⟩:=I9'.ex2
  rw[ed2]at I9
  repeat' (with_reducible first|simp(disch:=first|exact okD|fail) only[go_sem,seval,h1',h2',h3',q1,q2,q3,o0,o3,o5,o6,o7,o9,o10]|(apply Spl.i<;>intro hc))
  have h6:hp'.next≤hp'.next+k5+1+1+k7+k8+k9:=by omega
  refine with_heap (P:=fun H=>Grs hp' H∧IsI H (.int .i64 n9) w9 (((x+n/x)/2:Nat):Int)∧AtS H (hp'.next+k5+1+1+k7+k8+k9) [.int .i64 n9,w9]) ⟨okG,I9.grs okG,okT⟩ fun H ⟨GH,IH,AH⟩=>?_
  have IxH:=Ix.grs GH
  have A1H:=A1.grs GH
  have A2H:=A2.grs GH
  have A3H:=A3.grs GH
  obtain⟨sa,qa,ca,ta⟩:=id AH
  obtain⟨sb,qb,cb,tb⟩:=id A2H
  obtain⟨sc,qc,cc,tc⟩:=id A3H
  have ly:Lim 3999 (((x+n/x)/2:Nat):Int):=(Lim.add (lx.mono (by decide:401≤3000)) (ldv.mono (by decide))).mono (by decide)|>.nat (y:=x+n/x) (Nat.div_le_self _ _)
  generalize hp'.next+k5+1+1+k7+k8+k9=t6 at *
  have y0:(x+n/x)/2=0→n<1:=fun e=>by rw[e]at hw;simpa using hw
  generalize (x+n/x)/2=y at *
  clear q1 q2 q3 I9 I9' I7 I5 I5' ed ed2
  refine Gv.wp (i192 IH IxH (ly.mono (by decide)) (lx.mono (by decide))) fun h11 k11 j11 u11=>?_
  have G11:Grs H (H.ov h11 u11):=⟨_,_,u11⟩
  by_cases c:y<x
  ·have c':¬(0:Int)≤cmpI y x:=by unfold cmpI;rw[if_pos (by omega)];decide
   have n13:h.next≠t3:=by omega
   have n23:h.next+1≠t3:=by omega
   repeat' (with_reducible first|simp(disch:=first|exact okD|fail) only[go_sem,seval,h1',h2',h3',qa,qb,qc,c',o9]|(apply Spl.i<;>intro hc))
   exact⟨_,c,y,t3,n9,w9,rfl,(A1H.grs G11).other n13,(A2H.grs G11).other n23,AtS.put okO,Grs.put ((G.trans GH).trans G11) (by omega),(IH.grs G11).putI (by rw[Hp.ov_get tc,qc];rfl),lt3,by omega,by omega,hw,rfl⟩
  ·have c':(0:Int)≤cmpI y x:=by unfold cmpI;rw[if_neg (by omega)];split<;>decide
   rw[←he (by omega)]
   repeat' (with_reducible first|simp(disch:=first|exact okD|fail) only[go_sem,seval,h1',h2',h3',qa,qb,qc,c',o3]|(apply Spl.i<;>intro hc))
   exact⟨⟨_,_,rfl,(IxH.grs G11).putI (by rw[Hp.ov_get tb,qb];rfl)⟩,Grs.put ((G.trans GH).trans G11) (by omega)⟩
end
end
end Go.Ae
set_option maxRecDepth 100000
namespace Go.Ae.F
open AOp Opd C
def tab:T AFn:= .nil
section
open Go.Proofs
theorem all:T.Forall Chk tab (fun n=>n):=trivial
theorem good (n:Nat) (a:AFn) (h:tab.get n=some a):chk Tryz.prog n=some a:=T.get_forall tab (fun n=>n) all n a h
end
end Go.Ae.F
set_option linter.unusedVariables false
set_option linter.unusedSimpArgs false
set_option maxRecDepth 100000
set_option maxHeartbeats 1000000
set_option exponentiation.threshold 5000
namespace Go.Ae
open Bg N Go.Proofs
noncomputable section
section
variable {h h' hp:Hp} {K:AV→Hp→Prop} {tm:T AV} {v va vb s w:AV} {z z':Int} {a b c r:Rat}
theorem unS_txtZ (z:Int):unS (txtZ z)=decP z.natAbs 1:=by
 have:=unS_txt (z:Rat)
 rw[txtR_int]at this
 rw[this];unfold absR
 rw[Rat.den_intCast,Rat.num_intCast,if_pos rfl]
theorem head_txtZ (z:Int):decide ((txtZ z).head?=some 45)=decide (z<0):=by
 have:=txtR_head (z:Rat)
 rw[txtR_int,Rat.num_intCast]at this
 exact decide_eq_decide.2 this
theorem i191z (hz:z.natAbs<10^600):Gp E2 191 [.str (txtZ z)] h fun v h'=>IsV h' v z:=by
 have hl:=decP_ge.2 hz
 have:=i191 (h:=h) (s:=txtZ z) (unS_txtZ z) (decP_all _ _) (by omega)
 rw[head_txtZ,sgn_txt]at this
 exact this
theorem i111 (hr:okR r=true):Gp E2 111 [.str (txtR r)] h fun v h'=>IsF h' v r:=by
 have ok:=hr
 unfold okR at ok
 obtain⟨h1,h2⟩:=of_decide_eq_true ok
 obtain⟨b1,b2⟩:=ok_Br hr
 obtain⟨t1,t2⟩:=txtR_le b1 b2
 have hs:=slash_txt r
 refine Gp.of (CallWp.fn (fn:=C.a111) rfl rfl rfl ?_)
 unfold C.a111
 have cc:=fun{h:Hp} {K:AV→Hp→Prop}=>u147 (h:=h) (K:=K) (s:=txtR r) (by omega)
 rw[hs]at cc
 by_cases d:r.den=1
 ·have et:txtR r=txtZ r.num:=if_pos d
  rw[et]at cc⊢
  rw[List.take_length,decide_eq_false (by omega)]at cc
  repeat' (with_reducible first|simp(disch:=first|exact okD|fail) only[go_sem,seval,cc]|(apply Spl.i<;>intro hc))
  refine Gp.wp (i191z h1) fun v1 k1 a1 b1 u1 I1=>?_
  obtain⟨m1,w1,rfl,p1,I1⟩:=I1.ex2
  repeat' (with_reducible first|simp(disch:=first|exact okD|fail) only[go_sem,seval,p1]|(apply Spl.i<;>intro hc))
  refine Gp.wp (i183 I1) fun v2 k2 a2 b2 u2 I2=>?_
  obtain⟨n1,w3,n2,w4,rfl,o1,o2,I3,I4⟩:=I2.ex
  obtain⟨e1,e2⟩:=divInt_one (p:=r.num)
  rw[e1]at I3
  rw[e2]at I4
  repeat' (with_reducible first|simp(disch:=first|exact okD|fail) only[go_sem,seval,o1,o2]|(apply Spl.i<;>intro hc))
  refine⟨⟨_,_,_,_,rfl,?_,?_⟩,?_⟩
  ·exact I3.putI (by simp(disch:=first|exact okD|fail) only[go_sem,seval,isCell_row])
  ·rw[d];exact I4.putI (by simp(disch:=first|exact okD|fail) only[go_sem,seval,isCell_row])
  ·exact okG
 ·have et:txtR r=txtZ r.num++47::txtZ r.den:=if_neg d
  have k1:List.take (txtZ r.num).length (txtR r)=txtZ r.num:=by rw[et];exact List.take_left
  have k2:List.drop ((txtZ r.num).length+1) (txtR r)=txtZ r.den:=by rw[et,←List.drop_drop,List.drop_left];rfl
  rw[k1,k2,decide_eq_true (by rw[et];simp)]at cc
  repeat' (with_reducible first|simp(disch:=first|exact okD|fail) only[go_sem,seval,cc]|(apply Spl.i<;>intro hc))
  refine Gp.wp (i191z h1) fun v1 k1 a1 b1 u1 I1=>?_
  obtain⟨m1,w1,rfl,p1,I1⟩:=I1.ex2
  repeat' (with_reducible first|simp(disch:=first|exact okD|fail) only[go_sem,seval,p1]|(apply Spl.i<;>intro hc))
  refine Gp.wp (i191z (z:=(r.den:Int)) (by rw[Int.natAbs_natCast];exact h2)) fun v2 k2 a2 b2 u2 I2=>?_
  obtain⟨m2,w2,rfl,p2,I2⟩:=I2.ex2
  have I1':=I1.ov (g:=u2)
  have fl:=fill22 (n:=m1) (n':=m2) p1 p2
  repeat' (with_reducible first|simp(disch:=first|exact okD|fail) only[go_sem,seval,p1,p2,fl]|(apply Spl.i<;>intro hc))
  refine⟨⟨_,_,_,_,rfl,?_,?_⟩,?_⟩
  ·exact I1'.putI (by simp(disch:=first|exact okD|fail) only[go_sem,seval,isCell_row])
  ·exact I2.putI (by simp(disch:=first|exact okD|fail) only[go_sem,seval,isCell_row])
  ·exact okG
theorem Bd_ok {r:Rat} (h:okR r=true):Bd 110 r:=by
 unfold okR at h
 obtain⟨h1,h2⟩:=of_decide_eq_true h
 have l2:Lim 110 (r.den:Int):=Lim_dec h2 (by decide)
 have l1:Lim 110 ((r.num.natAbs:Nat):Int):=Lim_dec h1 (by decide)
 exact⟨l1.le (by rw[Int.natAbs_natCast];exact Nat.le_refl _),l2⟩
end
def EF:Env:=EX.add F.tab
theorem geF:Ge EX EF:=Ge.add _ _
section
variable {h h' hp:Hp} {K:AV→Hp→Prop} {tm:T AV} {v va vb s w:AV} {z z':Int} {a b c r:Rat}
theorem f0 {f:Nat} {args:List AV} {v:AV} (hc:Gv EX f args h v):Gv EF f args h v:=hc.ge fun _ _ _ hk=>hk.ge geF
theorem f3 {f:Nat} {args:List AV} {v:AV} (hc:Gv E3 f args h v):Gv EF f args h v:=f0 (x3 hc)
theorem f2 {f:Nat} {args:List AV} {v:AV} (hc:Gv E2 f args h v):Gv EF f args h v:=f0 (x2 hc)
theorem fu3 {f:Nat} {args:List AV} {h':Hp} {v:AV} (hc:∀K,CallWp E3 f args h K↔K v h'):CallWp EF f args h K↔K v h':=up geF fun K=>xu3 hc
theorem fu2 {f:Nat} {args:List AV} {h':Hp} {v:AV} (hc:∀K,CallWp E2 f args h K↔K v h'):CallWp EF f args h K↔K v h':=up geF fun K=>xu2 hc
theorem len_of {n:Nat} {c:Rat} (hb:Bd n c) (hn:n≤400):Bd 3999 c∧(txtR c).length≤1000000:=by
 refine⟨hb.mono (by omega),?_⟩
 have e:(18446744073709551616:Nat)^400≤1000000000^900:=by decide+kernel
 have h1:Lr 900 c.num:=Nat.lt_of_lt_of_le (hb.mono hn).1 e
 have h2:Lr 900 (c.den:Int):=Nat.lt_of_lt_of_le (hb.mono hn).2 e
 have:=(txtR_le h1 h2).1
 omega
end
end
end Go.Ae
set_option linter.unusedVariables false
set_option linter.unusedSimpArgs false
set_option maxRecDepth 100000
set_option maxHeartbeats 1000000
set_option exponentiation.threshold 5000
namespace Go.Ae
open Bg N Go.Proofs
noncomputable section
structure Fc where
 n:Int
 w:AV
 d:Int
 u:AV
def Fc.l (c:Fc):List AV:=[.int .i64 c.n,c.w,.int .i64 c.d,c.u]
def Fc.z:Fc:=⟨0,.nils,0,.nils⟩
def FrL (h:Hp) (L:List Fc) (l:List Rat):Prop:=L.length=l.length∧∀(i:Nat) (a:i<L.length) (b:i<l.length),IsF h (.agg (L[i]).l) l[i]
def FrS (h:Hp) (v:AV) (l:List Rat):Prop:=∃L,RowS 4 h v l.length (L.flatMap Fc.l)∧FrL h L l
section
variable {h h' h0 hp:Hp} {K:AV→Hp→Prop} {tm:T AV} {v va vb s w:AV} {z:Nat} {a b c r:Rat} {L:List Fc} {l:List Rat} {x:Fc}
theorem IsF.cell (i:IsF h v r):∃c:Fc,v= .agg c.l∧c.w.one=true∧c.u.one=true:=by
 obtain⟨n1,w1,n2,w2,e,o1,o2,_⟩:=i.ex
 exact⟨⟨n1,w1,n2,w2⟩,e,o1,o2⟩
theorem FrL.grs (f:FrL h L l) (g:Grs h h'):FrL h' L l:=⟨f.1,fun i a b=>(f.2 i a b).grs g⟩
theorem FrS.grs (f:FrS h v l) (g:Grs h h'):FrS h' v l:=by
 obtain⟨L,o,i⟩:=f
 exact⟨L,o.grs g,i.grs g⟩
theorem FrL.putI' (f:FrL h L l) {p:Nat} {g:Nat→AObj} (hi:∀{v r},IsF h v r→IsF (h.put p g) v r):FrL (h.put p g) L l:=⟨f.1,fun i a b=>hi (f.2 i a b)⟩
theorem FrL.nil:FrL h [] []:=⟨rfl,fun i a=>absurd a (Nat.not_lt_zero _)⟩
theorem Sq.fr {vo:AV} {q:List Nat} (S:Sq .u64 h w q) (hv:∀t' o n',vo= .sl t' o n' z→isCell (h.get t')=true)
  (fr:∀t,t<h.next→(∀t' o n',vo= .sl t' o n' z→t≠t')→h'.get t=h.get t) (hnx:h.next≤h'.next) (hck:h.clk≤h'.clk):Sq .u64 h' w q:=by
 rcases S with S|⟨t,o,own,st,Q,e,hg,h1,h2,h3,h4⟩
 ·exact .inl S
 ·refine .inr ⟨t,o,own,st,Q,e,(fr t h3 fun t' o' n' ev htt=>?_).trans hg,h1,h2,Nat.lt_of_lt_of_le h3 hnx,Nat.le_trans h4 hck⟩
  subst htt
  obtain⟨n,cs,own',st',hq⟩:=isCell_ex (hv _ _ _ ev)
  rw[hq]at hg
  cases Q with
  |nil=>simp at hg
  |cons a Q=>simp[wd]at hg
theorem IsI.fr {vo s w:AV} {y:Int} (i:IsI h s w y) (hv:∀t' o n',vo= .sl t' o n' z→isCell (h.get t')=true)
  (fr:∀t,t<h.next→(∀t' o n',vo= .sl t' o n' z→t≠t')→h'.get t=h.get t) (hnx:h.next≤h'.next) (hck:h.clk≤h'.clk):IsI h' s w y:=by
 rcases i with i|⟨n,t,o,q,e,hs,r⟩
 ·exact .inl i
 ·exact .inr ⟨n,t,o,q,e,hs.fr hv fr hnx hck,r⟩
theorem IsF.fr {vo:AV} (i:IsF h v r) (hv:∀t' o n',vo= .sl t' o n' z→isCell (h.get t')=true)
  (fr:∀t,t<h.next→(∀t' o n',vo= .sl t' o n' z→t≠t')→h'.get t=h.get t) (hnx:h.next≤h'.next) (hck:h.clk≤h'.clk):IsF h' v r:=by
 obtain⟨s,w,s',w',e,i,j⟩:=i
 exact⟨s,w,s',w',e,i.fr hv fr hnx hck,j.fr hv fr hnx hck⟩
theorem IsF.putI {p:Nat} {f:Nat→AObj} (i:IsF h v r) (hc:isCell (h.get p)=true):IsF (h.put p f) v r:=by
 obtain⟨s,w,s',w',e,i,j⟩:=i
 exact⟨s,w,s',w',e,i.putI hc,j.putI hc⟩
theorem FrL.putI (f:FrL h L l) {p:Nat} {g:Nat→AObj} (hc:isCell (h.get p)=true):FrL (h.put p g) L l:=f.putI' fun i=>i.putI hc
theorem FrL.fr {vo:AV} (f:FrL h L l) (hv:∀t' o n',vo= .sl t' o n' z→isCell (h.get t')=true)
  (fr:∀t,t<h.next→(∀t' o n',vo= .sl t' o n' z→t≠t')→h'.get t=h.get t) (hnx:h.next≤h'.next) (hck:h.clk≤h'.clk):FrL h' L l:=⟨f.1,fun i a b=>(f.2 i a b).fr hv fr hnx hck⟩
theorem AtS.fr {vo:AV} {t:Nat} {cs:List AV} (a:AtS h t cs) (hne:∀t' o n',vo= .sl t' o n' z→t≠t')
  (fr:∀t,t<h.next→(∀t' o n',vo= .sl t' o n' z→t≠t')→h'.get t=h.get t) (hnx:h.next≤h'.next) (hck:h.clk≤h'.clk):AtS h' t cs:=by
 obtain⟨st,g,c,lt⟩:=a
 exact⟨st,(fr t lt hne).trans g,Nat.le_trans c hck,Nat.lt_of_lt_of_le lt hnx⟩
theorem FrS.at (f:FrS h v l) (hl:l≠[]):∃t own st,∃L:List Fc,v= .sl t 0 l.length 4∧h.get t=some (.row (L.flatMap Fc.l) own st)∧t<h.next∧st≤h.clk∧FrL h L l:=by
 obtain⟨L,⟨_,⟨rfl,e⟩|⟨t,own,st,rfl,hg,h1,h2⟩⟩,i⟩:=f
 ·exact absurd (List.length_eq_zero_iff.1 e) hl
 ·exact⟨t,own,st,L,rfl,hg,h1,h2,i⟩
theorem isCell_flat {own:Bool} {st:Nat} (hL:L≠[]):isCell (some (.row (L.flatMap Fc.l) own st))=true:=by
 cases L with
 |nil=>exact absurd rfl hL
 |cons x L=>rfl
theorem OwnZ.isCell {n:Nat} (O:OwnZ 4 h0 h v n (L.flatMap Fc.l)) (hn:L=[]→v= .nils):∀t' o n',v= .sl t' o n' 4→Go.Ae.isCell (h.get t')=true:=by
 intro t' o n' e
 obtain⟨hl,⟨e1,_⟩|⟨t,st,e1,hg,_⟩⟩:=O
 ·rw[e1]at e;cases e
 ·rw[e1]at e
  injection e with e
  subst e
  rw[hg]
  refine isCell_flat fun eL=>?_
  rw[hn eL]at e1;cases e1
end
end
end Go.Ae
set_option linter.unusedVariables false
set_option linter.unusedSimpArgs false
set_option maxRecDepth 100000
set_option maxHeartbeats 1000000
namespace Go.Ae
open Bg N Go.Proofs
noncomputable section
def mn (a b:Rat):Rat:=if b<a then b else a
def mx (a b:Rat):Rat:=if a<b then b else a
section
variable {h h' h0 hp:Hp} {K:AV→Hp→Prop} {tm:T AV} {v va vb s w:AV} {z:Nat} {a b c r:Rat} {L:List Fc} {l:List Rat} {x:Fc}
end
end
end Go.Ae
set_option linter.unusedVariables false
set_option linter.unusedSimpArgs false
set_option maxRecDepth 100000
set_option maxHeartbeats 16000000
set_option exponentiation.threshold 5000
namespace Go.Ae
open Bg N Go.Proofs
noncomputable section
def spT (a b:Rat):AV:=if okR a=true∧okR b=true then .tup [.agg [.str (txtR a),.str (txtR b)],.int .i64 0]else .tup [.agg [.str [],.str []],.int .i64 4]
theorem spT_yes {a b:Rat} (h:okR a=true) (h':okR b=true):spT a b= .tup [.agg [.str (txtR a),.str (txtR b)],.int .i64 0]:=if_pos ⟨h,h'⟩
theorem spT_no {a b:Rat} (h:¬(okR a=true∧okR b=true)):spT a b= .tup [.agg [.str [],.str []],.int .i64 4]:=if_neg h
section
variable {h h' h0 hp:Hp} {K:AV→Hp→Prop} {tm:T AV} {v va vb s w:AV} {z:Nat} {a b c d r:Rat} {L:List Fc} {l:List Rat} {x:Fc}
theorem x114 (ia:IsF h va a) (ib:IsF h vb b) (la:Bd 3999 a) (lb:Bd 3999 b) (ha:(txtR a).length≤1000000) (hb:(txtR b).length≤1000000):Gv EX 114 [va,vb] h (spT a b):=by
 obtain⟨x,ea,ox,ou⟩:=ia.cell
 obtain⟨y,eb,oy,ov⟩:=ib.cell
 subst ea;subst eb
 have ex:x.l=[.int .i64 x.n,x.w,.int .i64 x.d,x.u]:=rfl
 have ey:y.l=[.int .i64 y.n,y.w,.int .i64 y.d,y.u]:=rfl
 rw[ex]at ia⊢
 rw[ey]at ib⊢
 refine Gv.of (CallWp.fn (fn:=C.a114) rfl rfl rfl ?_)
 unfold C.a114
 repeat' (with_reducible first|simp(disch:=first|exact okD|fail) only[go_sem,seval,ox,ou,oy,ov]|(apply Spl.i<;>intro hc))
 refine Gv.wp (x140 (ia.grs okG) la) fun h1 k1 j1 u1=>?_
 by_cases c1:okR a=true
 ·rw[c1]
  repeat' (with_reducible first|simp(disch:=first|exact okD|fail) only[go_sem,seval,ox,ou,oy,ov,Bool.not_true]|(apply Spl.i<;>intro hc))
  refine Gv.wp (x140 (ib.grs okG) lb) fun h2 k2 j2 u2=>?_
  by_cases c2:okR b=true
  ·rw[c2,spT_yes c1 c2]
   repeat' (with_reducible first|simp(disch:=first|exact okD|fail) only[go_sem,seval,ox,ou,oy,ov,Bool.not_true]|(apply Spl.i<;>intro hc))
   refine Gv.wp (x196 (ia.grs okG) la ha) fun h3 k3 j3 u3=>?_
   repeat' (with_reducible first|simp(disch:=first|exact okD|fail) only[go_sem,seval,ox,ou,oy,ov]|(apply Spl.i<;>intro hc))
   refine Gv.wp (x196 (ib.grs okG) lb hb) fun h4 k4 j4 u4=>?_
   repeat' (with_reducible first|simp(disch:=first|exact okD|fail) only[go_sem,seval]|(apply Spl.i<;>intro hc))
   exact okG
  ·have c2':okR b=false:=by simpa using c2
   rw[c2',spT_no fun e=>c2 e.2]
   repeat' (with_reducible first|simp(disch:=first|exact okD|fail) only[go_sem,seval,ox,ou,oy,ov,Bool.not_false]|(apply Spl.i<;>intro hc))
   exact okG
 ·have c1':okR a=false:=by simpa using c1
  rw[c1',spT_no fun e=>c1 e.1]
  repeat' (with_reducible first|simp(disch:=first|exact okD|fail) only[go_sem,seval,ox,ou,oy,ov,Bool.not_false]|(apply Spl.i<;>intro hc))
  exact okG
theorem OwnZ.lt {z n t o n':Nat} {cs:List AV} (O:OwnZ z h0 h v n cs) (e:v= .sl t o n' z):t<h.next:=by
 obtain⟨_,⟨e1,_⟩|⟨t1,st,e1,_,_,h2,_⟩⟩:=O
 ·rw[e1]at e;cases e
 ·rw[e1]at e;injection e with e;omega
end
end
end Go.Ae
set_option linter.unusedVariables false
set_option linter.unusedSimpArgs false
set_option maxRecDepth 100000
set_option maxHeartbeats 2000000
set_option exponentiation.threshold 5000
namespace Go.Ae
open Bg N Go.Proofs
noncomputable section
def spA (a b:Rat):List UInt8:=if okR a=true∧okR b=true then txtR a else[]
def spB (a b:Rat):List UInt8:=if okR a=true∧okR b=true then txtR b else[]
def spE (a b:Rat):Int:=if okR a=true∧okR b=true then 0 else 4
abbrev spn (s u:List UInt8):AV:= .agg [.str s,.str u]
abbrev spr (p q:List UInt8) (e:Int):AV:= .tup [.agg [.str p,.str q],.int .i64 e]
theorem spT_eq (a b:Rat):spT a b=spr (spA a b) (spB a b) (spE a b):=by
 unfold spT spA spB spE
 by_cases h:okR a=true∧okR b=true
 ·simp only[if_pos h]
 ·simp only[if_neg h]
theorem sgR_max (a:Rat):max (-1) (min 1 a.num)=sgR a:=by
 unfold sgR;split
 ·omega
 ·split<;>omega
theorem sgR_ge0 {a:Rat}:0≤sgR a↔0≤a:=by
 have:=sgR_ge (a:=a) (b:=0)
 rwa[Rat.sub_eq_add_neg,Rat.neg_zero,Rat.add_zero]at this
section
variable {h h' h0 hp:Hp} {K:AV→Hp→Prop} {tm:T AV} {v va vb w:AV} {z:Nat} {a b c d r:Rat} {l:List Rat} {s u s' u' p q:List UInt8} {e:Int}
end
end
end Go.Ae
set_option linter.unusedVariables false
set_option linter.unusedSimpArgs false
set_option maxRecDepth 100000
set_option maxHeartbeats 4000000
set_option exponentiation.threshold 5000
namespace Go.Ae
open Bg N Go.Proofs
noncomputable section
def sqB (a:Rat):Bool:=decide (isq a.num.natAbs*isq a.num.natAbs=a.num.natAbs)&&decide (isq a.den*isq a.den=a.den)
def rt (a:Rat):Rat:=Rat.divInt (isq a.num.natAbs:Nat) (isq a.den:Nat)
theorem isq_pos {n:Nat} (h:0<n):0<isq n:=by
 have:=(isq_spec n).2
 rcases Nat.eq_zero_or_pos (isq n)with e|e
 ·rw[e]at this;omega
 ·exact e
theorem isq_le (n:Nat):isq n≤n:=Nat.le_trans (Nat.le_mul_self _) (isq_spec n).1
theorem sqB_of {a:Rat} (h:sqB a=true):isq a.num.natAbs*isq a.num.natAbs=a.num.natAbs∧isq a.den*isq a.den=a.den:=by
 unfold sqB at h
 simpa using h
theorem rt_parts {a:Rat} (h:sqB a=true):(rt a).num=isq a.num.natAbs∧(rt a).den=isq a.den:=by
 obtain⟨h1,h2⟩:=sqB_of h
 have hd:=isq_pos a.den_pos
 refine divInt_num (by omega) (by omega) ?_ rfl
 have hr:=a.reduced
 rw[←h1,←h2]at hr
 rw[Int.natAbs_natCast]
 exact(Nat.Coprime.coprime_mul_left (Nat.Coprime.coprime_mul_left_right hr))
section
variable {h h' hp:Hp} {K:AV→Hp→Prop} {tm:T AV} {v va vb w:AV} {a b c r:Rat} {s u p q:List UInt8} {e:Int}
theorem IsF.int {z:Int} (hz: -9223372036854775808≤z∧z≤9223372036854775807):IsF h (.agg [.int .i64 z,.nils,.int .i64 1,.nils]) (z:Rat):=
 ⟨_,_,_,_,rfl,by rw[Rat.num_intCast];exact IsI.small hz,by rw[Rat.den_intCast];exact IsI.small (by omega)⟩
theorem cmpI_eq {x y:Nat}:(cmpI (x:Int) (y:Int)=0)=(x=y):=by
 unfold cmpI
 rw[eq_iff_iff]
 split
 ·omega
 ·split<;>omega
theorem i113 (ia:IsF h va a) (h0:0≤a.num) (la:Bd 400 a):Gp E2 113 [va] h fun v h'=>∃x:Fc,v= .tup [.agg x.l,.bool (sqB a)]∧x.w.one=true∧x.u.one=true∧(sqB a=true→IsF h' (.agg x.l) (rt a)):=by
 obtain⟨n1,w1,n2,w2,ea,o1,o2,I1,I2⟩:=id ia.ex
 obtain⟨l1,l2⟩:=la
 have rp:=rt_parts (a:=a)
 unfold sqB at rp⊢
 obtain⟨d,hd⟩:∃d:Nat,a.den=d:=⟨_,rfl⟩
 obtain⟨m,hm⟩:∃m:Nat,a.num=m:=⟨a.num.natAbs,by omega⟩
 have hs:¬max (-1) (min 1 a.num)<0:=by omega
 rw[hd]at I2 l2 rp⊢
 rw[hm]at I1 l1
 rw[show a.num.natAbs=m by omega]at rp⊢
 have lm:=l1.nat (isq_le m)
 have ld:=l2.nat (isq_le d)
 have em:((isq m:Int)*(isq m))=((isq m*isq m:Nat):Int):=(Int.natCast_mul _ _).symm
 have ed:((isq d:Int)*(isq d))=((isq d*isq d:Nat):Int):=(Int.natCast_mul _ _).symm
 have cm:=cmpI_eq (x:=isq m*isq m) (y:=m)
 have cd:=cmpI_eq (x:=isq d*isq d) (y:=d)
 have lmm:Lim 800 ((isq m*isq m:Nat):Int):=by rw[←em];exact lm.mul lm
 have ldd:Lim 800 ((isq d*isq d:Nat):Int):=by rw[←ed];exact ld.mul ld
 subst ea
 refine Gp.of (CallWp.fn (fn:=C.a113) rfl rfl rfl ?_)
 unfold C.a113
 repeat' (with_reducible first|simp(disch:=first|exact okD|fail) only[go_sem,seval,o1,o2]|(apply Spl.i<;>intro hc))
 refine Gv.wp (i112 (ia.grs okG)) fun h1 k1 j1 u1=>?_
 repeat' (with_reducible first|simp(disch:=first|exact okD|fail) only[go_sem,seval,hs,o1,o2]|(apply Spl.i<;>intro hc))
 refine Gp.wp (i118 (n:=m) (I1.grs okG) (l1.mono (by decide))) fun v2 h2 k2 j2 u2 I3=>?_
 obtain⟨m1,w3,rfl,p1,I3⟩:=I3.ex2
 repeat' (with_reducible first|simp(disch:=first|exact okD|fail) only[go_sem,seval,o1,o2,p1]|(apply Spl.i<;>intro hc))
 refine Gp.wp (i118 (n:=d) (I2.grs okG) (l2.mono (by decide))) fun v3 h3 k3 j3 u3 I4=>?_
 obtain⟨m2,w4,rfl,p2,I4⟩:=I4.ex2
 have fl:=fill22 (n:=m1) (n':=m2) p1 p2
 repeat' (with_reducible first|simp(disch:=first|exact okD|fail) only[go_sem,seval,o1,o2,p1,p2,fl]|(apply Spl.i<;>intro hc))
 refine Gp.wp (i195 (I3.grs okG) (I3.grs okG) (lm.mono (by decide)) (lm.mono (by decide))) fun v5 h5 k5 j5 u5 I5=>?_
 obtain⟨m5,w5,rfl,p5,I5⟩:=I5.ex2
 rw[em]at I5
 repeat' (with_reducible first|simp(disch:=first|exact okD|fail) only[go_sem,seval,o1,o2,p1,p2,p5,fl]|(apply Spl.i<;>intro hc))
 refine Gv.wp (i192 I5 (I1.grs okG) (lmm.mono (by decide)) (l1.mono (by decide))) fun h6 k6 j6 u6=>?_
 by_cases c1:isq m*isq m=m
 ·rw[decide_eq_true c1]at rp⊢
  have cm':cmpI ((isq m*isq m:Nat):Int) (m:Int)=0:=cm.mpr c1
  repeat' (with_reducible first|simp(disch:=first|exact okD|fail) only[go_sem,seval,o1,o2,p1,p2,p5,fl,cm']|(apply Spl.i<;>intro hc))
  refine Gp.wp (i195 (I4.grs okG) (I4.grs okG) (ld.mono (by decide)) (ld.mono (by decide))) fun v7 h7 k7 j7 u7 I7=>?_
  obtain⟨m7,w7,rfl,p7,I7⟩:=I7.ex2
  rw[ed]at I7
  repeat' (with_reducible first|simp(disch:=first|exact okD|fail) only[go_sem,seval,o1,o2,p1,p2,p5,p7,fl]|(apply Spl.i<;>intro hc))
  refine Gv.wp (i192 I7 (I2.grs okG) (ldd.mono (by decide)) (l2.mono (by decide))) fun h8 k8 j8 u8=>?_
  by_cases c2:isq d*isq d=d
  ·rw[decide_eq_true c2]at rp⊢
   have cd':cmpI ((isq d*isq d:Nat):Int) (d:Int)=0:=cd.mpr c2
   obtain⟨r1,r2⟩:=rp rfl
   repeat' (with_reducible first|simp(disch:=first|exact okD|fail) only[go_sem,seval,o1,o2,p1,p2,p5,p7,fl,cd']|(apply Spl.i<;>intro hc))
   refine⟨⟨⟨m1,w3,m2,w4⟩,rfl,p1,p2,fun _=>⟨_,_,_,_,rfl,?_,?_⟩⟩,?_⟩
   ·rw[r1];exact(I3.grs okG).putI (by simp(disch:=first|exact okD|fail) only[go_sem,seval,isCell_row])
   ·rw[r2];exact(I4.grs okG).putI (by simp(disch:=first|exact okD|fail) only[go_sem,seval,isCell_row])
   ·exact okG
  ·rw[decide_eq_false c2]at rp⊢
   have cd':¬cmpI ((isq d*isq d:Nat):Int) (d:Int)=0:=fun e=>c2 (cd.mp e)
   repeat' (with_reducible first|simp(disch:=first|exact okD|fail) only[go_sem,seval,o1,o2,p1,p2,p5,p7,fl,cd']|(apply Spl.i<;>intro hc))
   refine⟨⟨⟨m1,w3,m2,w4⟩,rfl,p1,p2,fun e=>(nomatch e)⟩,?_⟩
   exact okG
 ·rw[decide_eq_false c1]at rp⊢
  have cm':¬cmpI ((isq m*isq m:Nat):Int) (m:Int)=0:=fun e=>c1 (cm.mp e)
  repeat' (with_reducible first|simp(disch:=first|exact okD|fail) only[go_sem,seval,o1,o2,p1,p2,p5,fl,cm']|(apply Spl.i<;>intro hc))
  refine⟨⟨⟨m1,w3,m2,w4⟩,rfl,p1,p2,fun e=>?_⟩,?_⟩
  ·rw[Bool.false_and]at e;cases e
  ·exact okG
end
end
end Go.Ae
set_option linter.unusedVariables false
set_option linter.unusedSimpArgs false
set_option maxRecDepth 100000
set_option maxHeartbeats 2000000
set_option exponentiation.threshold 5000
namespace Go.Ae
open Bg N Go.Proofs
noncomputable section
section
variable {h h' h0 hp:Hp} {K:AV→Hp→Prop} {tm:T AV} {v va vb w:AV} {z:Nat} {a b c d r:Rat} {l:List Rat} {s u s' u' p q:List UInt8} {e:Int}
variable {x y a' b':Rat}
theorem b_p2s {a b c d:List UInt8}:binA .eql (.plain [(0,.str),(1,.str)]) (.agg [.str a,.str b]) (.agg [.str c,.str d])=some (.bool (decide (a=c∧b=d))):=by
 simp only[binA,eqA,eqPlain,eqLs,List.getElem?_cons_zero,List.getElem?_cons_succ,eqLeaf]
 cases h1:(a==c)<;>cases h2:(b==d)<;>simp_all
theorem d142_2 {t:Nat} {a b:List UInt8} (ha:a.length≤9223372036854775806) (hb:b.length≤9223372036854775806) (hA:At h t [.str a,.str b]) (ht:t<h.next):Gv E3 142 [.sl t 0 2 1] h (.int .i64 (if largeS a||largeS b then 4 else 0)):=by
 refine Gv.of (CallWp.fn (fn:=R.a142) rfl rfl rfl ?_)
 unfold R.a142
 obtain⟨st,hg⟩:=hA
 cases la:largeS a<;>cases lb:largeS b
 all_goals simp only[Bool.or_true,Bool.true_or,Bool.or_false,if_true,if_false,Bool.false_eq_true]
 all_goals repeat' (with_reducible first|simp(disch:=first|exact okD|fail) only[go_sem,seval,Wp.unroll,hg,c176 ha,c176 hb,la,lb]|(apply Spl.i<;>intro hc))
 all_goals exact okG
theorem d126 {a b:List UInt8} (ha:a.length≤9223372036854775806) (hb:b.length≤9223372036854775806):Gv E3 126 [.agg [.str a,.str b]] h (.int .i64 (if largeS a||largeS b then 4 else 0)):=by
 refine Gv.of (CallWp.fn (fn:=R.a126) rfl rfl rfl ?_)
 unfold R.a126
 repeat' (with_reducible first|simp(disch:=first|exact okD|fail) only[go_sem,seval]|(refine Gv.wp (d142_2 (a:=a) (b:=b) ha hb okA okO) fun _ _ _ _=>?_)|(apply Spl.i<;>intro hc))
 exact okG
def spansC (a b:List UInt8) (e bad:Int) (c d:List UInt8):Bool:=
 if bad≠0 then decide (a=[]∧b=[]∧e=bad)
 else if largeS c||largeS d then decide (a=[]∧b=[]∧e=4)
 else decide (e=0∧a=c∧b=d)
theorem d22s {a b c d:List UInt8} {e bad:Int} (hc:c.length≤9223372036854775806) (hd:d.length≤9223372036854775806):Gv E3 22 [.agg [.str a,.str b],.int .i64 e,.int .i64 bad,.agg [.str c,.str d]] h (.bool (spansC a b e bad c d)):=by
 refine Gv.of (CallWp.fn (fn:=R.a22) rfl rfl rfl ?_)
 unfold R.a22
 unfold spansC
 by_cases hb:bad=0
 ·rw[if_neg (by simpa using hb)]
  cases hl:(largeS c||largeS d)
  ·rw[if_neg (by simp)]
   repeat' (with_reducible first|simp(disch:=first|exact okD|fail) only[go_sem,seval,b_p2s,hl]|(refine Gv.wp (d126 hc hd) fun _ _ _ _=>?_)|(apply Spl.i<;>intro hc))
   all_goals refine⟨?_,by exact okG⟩
   all_goals first|(congr 1;symm;exact decide_eq_false (fun e=>hc ⟨e.1,e.2.1⟩))|(congr 1;symm;exact decide_eq_false (fun e=>hc e.1))|(congr 1;simp[hc])
  ·rw[if_pos rfl]
   repeat' (with_reducible first|simp(disch:=first|exact okD|fail) only[go_sem,seval,b_p2s,hl]|(refine Gv.wp (d126 hc hd) fun _ _ _ _=>?_)|(apply Spl.i<;>intro hc))
   all_goals refine⟨?_,by exact okG⟩
   all_goals first|(congr 1;symm;exact decide_eq_false (fun e=>hc ⟨e.1,e.2.1⟩))|(congr 1;symm;exact decide_eq_false (fun e=>hc e.1))|(congr 1;simp[hc])
 ·rw[if_pos hb]
  repeat' (with_reducible first|simp(disch:=first|exact okD|fail) only[go_sem,seval,b_p2s]|(apply Spl.i<;>intro hc))
  all_goals refine⟨?_,by exact okG⟩
  all_goals first|(congr 1;symm;exact decide_eq_false (fun e=>hc ⟨e.1,e.2.1⟩))|(congr 1;symm;exact decide_eq_false (fun e=>hc e.1))|(congr 1;simp[hc])
theorem spansC_res (a b:Rat):spansC (spA a b) (spB a b) (spE a b) 0 (txtR a) (txtR b)=true:=by
 unfold spansC spA spB spE
 rw[largeS_txt,largeS_txt]
 cases h1:okR a<;>cases h2:okR b<;>simp
theorem spansC_bad {e:Int} {c d:List UInt8} (he:e≠0):spansC [] [] e e c d=true:=by
 unfold spansC
 simp[he]
end
end
end Go.Ae
set_option linter.unusedVariables false
set_option linter.unusedSimpArgs false
set_option maxRecDepth 100000
set_option maxHeartbeats 4000000
set_option exponentiation.threshold 5000
namespace Go.Ae
open Bg N Go.Proofs
noncomputable section
section
variable {h h' hp:Hp} {K:AV→Hp→Prop} {tm:T AV} {v va vb s w:AV} {z z':Int} {a b c r:Rat}
theorem txt_len {n:Nat} {a:Rat} (i:Br n a) (hn:n≤2000):(txtR a).length≤1000000:=by
 have:=(txtR_le (i.mono hn).1 (i.mono hn).2).1
 omega
end
end
end Go.Ae
set_option linter.unusedVariables false
set_option linter.unusedSimpArgs false
set_option maxRecDepth 100000
set_option maxHeartbeats 8000000
set_option exponentiation.threshold 5000
namespace Go.Ae
open Bg N Go.Proofs
noncomputable section
section
variable {h h' h0 hp:Hp} {K:AV→Hp→Prop} {tm:T AV} {v va vb w:AV} {a b c d r:Rat} {s u s' u' p q:List UInt8} {e:Int}
theorem txt_len' {n:Nat} {a:Rat} (i:Br n a) (hn:n≤2000):(txtR a).length≤9223372036854775806:=Nat.le_trans (txt_len i hn) (by decide)
theorem d22_res {lo hi:Rat} (i:Br 2000 lo) (j:Br 2000 hi):Gv EF 22 [spn (spA lo hi) (spB lo hi),.int .i64 (spE lo hi),.int .i64 0,spn (txtR lo) (txtR hi)] h (.bool true):=by
 have:=f3 (d22s (h:=h) (a:=spA lo hi) (b:=spB lo hi) (e:=spE lo hi) (bad:=0) (c:=txtR lo) (d:=txtR hi) (txt_len' i (by decide)) (txt_len' j (by decide)))
 rwa[spansC_res]at this
theorem d22_bad (he:e≠0) (hs:s.length≤1000000) (hu:u.length≤1000000):Gv EF 22 [spn [] [],.int .i64 e,.int .i64 e,spn s u] h (.bool true):=by
 have:=f3 (d22s (h:=h) (a:=[]) (b:=[]) (e:=e) (bad:=e) (c:=s) (d:=u) (by omega) (by omega))
 rwa[spansC_bad he]at this
end
end
end Go.Ae
set_option linter.unusedVariables false
set_option linter.unusedSimpArgs false
set_option maxRecDepth 100000
set_option maxHeartbeats 1000000
set_option exponentiation.threshold 9100
namespace Go.Ae
open Bg N Go.Proofs
noncomputable section
def flo (r:Rat):Int:=r.num.fdiv r.den
theorem fdiv_neg_of {n y:Nat} (hy:0<y):(-(n:Int)).fdiv y=if n%y=0 then -((n/y:Nat):Int)else -((n/y+1:Nat):Int):=by
 rw[Int.fdiv_eq_ediv_of_nonneg _ (by omega)]
 have hd:=Nat.div_add_mod n y
 have hl:=Nat.mod_lt n hy
 generalize n/y=q at *
 generalize n%y=r at *
 split
 ·rename_i h
  subst h
  have:(-(n:Int))=(-(q:Int))*y:=by rw[←hd];grind
  rw[this,Int.mul_ediv_cancel _ (by omega)]
 ·rename_i h
  have:(-(n:Int))=((y-r:Nat):Int)+(-((q+1:Nat):Int))*y:=by
   rw[←hd]
   have e1:((y-r:Nat):Int)=(y:Int)-r:=by omega
   rw[e1];grind
  rw[this,Int.add_mul_ediv_right _ _ (by omega),Int.ediv_eq_zero_of_lt (by omega) (by omega)]
  omega
theorem flo_le {r:Rat}:(flo r).natAbs≤r.num.natAbs+1:=by
 have hd:=den_pos r
 unfold flo
 by_cases h0:0≤r.num
 ·obtain⟨n,hn⟩:∃n:Nat,r.num=n:=⟨r.num.toNat,by omega⟩
  rw[hn,Int.fdiv_eq_ediv_of_nonneg _ (by omega)]
  have:((n:Int)/r.den)=((n/r.den:Nat):Int):=rfl
  rw[this]
  have:=Nat.div_le_self n r.den
  generalize n/r.den=q at *
  omega
 ·obtain⟨n,hn⟩:∃n:Nat,r.num= -(n:Int):=⟨r.num.natAbs,by omega⟩
  rw[hn,fdiv_neg_of hd]
  have:=Nat.div_le_self n r.den
  generalize n/r.den=q at *
  split<;>omega
theorem flo_int {r:Rat} (h:r.den=1):flo r=r.num:=by
 unfold flo;rw[h];exact Int.fdiv_one _
section
variable {h h' hp:Hp} {K:AV→Hp→Prop} {tm:T AV} {v va vb w:AV} {r a b:Rat} {x y:Int}
theorem psh {t:Nat} {cs:List AV} (ht:t=h.next):AtS (h.push fun s=> .row cs true s) t cs:=by rw[ht];exact AtS.push
theorem d187 (ia:IsR h va x) (ib:IsR h vb y) (lx:Lr 9000 x) (ly:Lr 9000 y) (hy:0<y):Gp E3 187 [va,vb] h fun v h'=>IsR h' v (x.fdiv y):=by
 obtain⟨w1,rfl,o1,i1⟩:=ia.ex
 obtain⟨w2,rfl,o2,i2⟩:=ib.ex
 obtain⟨l1,S1,D1,N1,V1⟩:=i1.un
 obtain⟨l2,S2,D2,N2,V2⟩:=i2.un
 have hl1:=lx.len N1 V1
 have hl2:=ly.len N2 V2
 have hy0:¬y<0:=by omega
 have hb0:l2≠[]:=by
  rintro rfl
  simp[vl]at V2;omega
 obtain⟨n,hn⟩:∃n,n=x.natAbs:=⟨_,rfl⟩
 obtain⟨m,hm⟩:∃m,m=y.natAbs:=⟨_,rfl⟩
 rw[←hn]at V1
 rw[←hm]at V2
 have ey:y=m:=by omega
 have hm0:0<m:=by omega
 refine Gp.of (CallWp.fn (fn:=R.a187) rfl rfl rfl ?_)
 unfold R.a187
 repeat' (with_reducible first|simp(disch:=first|exact okD|fail) only[go_sem,seval,o1,o2]|(apply Spl.i<;>intro hc))
 refine Gp.wp (d208 (S1.grs okG) (S2.grs okG) D1 D2 N1 N2 (by omega) (by omega) hb0) fun v3 k3 a3 b3 u3 ⟨v5,v6,l5,l6,e5,S5,S6,D5,D6,N5,N6,V5,V6⟩=>?_
 subst e5
 rw[V1,V2]at V5 V6
 have ln6:=S6.rd.len
 have hl5:l5.length≤9001:=by
  have h9:vl 1000000000 l5<1000000000^9000:=by
   rw[V5]
   refine Nat.lt_of_le_of_lt (Nat.div_le_self _ _) ?_
   rw[hn];exact lx
  have:=few9 (B:=1000000000) (n:=9000) (by decide) N5 h9
  omega
 by_cases c1:x<0
 ·have ex:x= -(n:Int):=by omega
  have ef:=fdiv_neg_of (n:=n) hm0
  by_cases c2:l6=[]
  ·have z6:n%m=0:=by rw[←V6,c2];rfl
   have g6:¬(0:Int)<(l6.length:Int):=by rw[c2];simp
   rw[if_pos z6]at ef
   repeat' (with_reducible first|simp(disch:=first|exact okD|fail) only[go_sem,seval,o1,o2,c1,ln6,g6]|(apply Spl.i<;>intro hc))
   refine Gp.wp (d249 (S5.grs okG) D5 (by omega)) fun v4 k4 a4 b4 u4 I4=>?_
   have e4:sgn (decide (x<0)) (vl 1000000000 l5)=x.fdiv y:=by
    rw[V5,decide_eq_true c1,ex,ey,ef];rfl
   first|rw[e4]at I4|(rw[decide_eq_true c1]at e4;rw[e4]at I4)
   obtain⟨w4,rfl,p4,I4⟩:=I4.ex
   repeat' (with_reducible first|simp(disch:=first|exact okD|fail) only[go_sem,seval,p4]|(apply Spl.i<;>intro hc))
   refine⟨I4.putB (by simp(disch:=first|exact okD|fail) only[go_sem,seval,isCellB_row]),?_⟩
   exact okG
  ·have z6:¬n%m=0:=by
    rw[←V6];intro e
    have:=norm_pos (B:=1000000000) (by decide) N6 c2
    omega
   have g6:(0:Int)<(l6.length:Int):=by
    have:=List.length_pos_iff.2 c2
    omega
   rw[if_neg z6]at ef
   have D1x:Dg 1000000000 [1]:=by intro x hx;simp at hx;omega
   repeat' (with_reducible first|simp(disch:=first|exact okD|fail) only[go_sem,seval,o1,o2,c1,ln6,g6]|(apply Spl.i<;>intro hc))
   refine Gp.wp (d250 (b:=[1]) (S5.grs okG) (AtS.sq (l:=[1]) (n:=1) (psh okO) rfl) D5 D1x (by omega) (by simp)) fun v7 k7 a7 b7 u7 ⟨l7,S7,D7,hl7,V7⟩=>?_
   repeat' (with_reducible first|simp(disch:=first|exact okD|fail) only[go_sem,seval,o1,o2,c1]|(apply Spl.i<;>intro hc))
   refine Gp.wp (d249 (S7.grs okG) D7 (by omega)) fun v4 k4 a4 b4 u4 I4=>?_
   have e4:sgn (decide (x<0)) (vl 1000000000 l7)=x.fdiv y:=by
    rw[V7,V5,decide_eq_true c1,ex,ey,ef];simp[vl,sgn]
   first|rw[e4]at I4|(rw[decide_eq_true c1]at e4;rw[e4]at I4)
   obtain⟨w4,rfl,p4,I4⟩:=I4.ex
   repeat' (with_reducible first|simp(disch:=first|exact okD|fail) only[go_sem,seval,p4]|(apply Spl.i<;>intro hc))
   refine⟨I4.putB (by simp(disch:=first|exact okD|fail) only[go_sem,seval,isCellB_row]),?_⟩
   exact okG
 ·have ex:x=n:=by omega
  repeat' (with_reducible first|simp(disch:=first|exact okD|fail) only[go_sem,seval,o1,o2,c1,ln6]|(apply Spl.i<;>intro hc))
  refine Gp.wp (d249 (S5.grs okG) D5 (by omega)) fun v4 k4 a4 b4 u4 I4=>?_
  have e4:sgn (decide (x<0)) (vl 1000000000 l5)=x.fdiv y:=by
   rw[V5,decide_eq_false c1,ex,ey,Int.fdiv_eq_ediv_of_nonneg _ (by omega)];rfl
  first|rw[e4]at I4|(rw[decide_eq_false c1]at e4;rw[e4]at I4)
  obtain⟨w4,rfl,p4,I4⟩:=I4.ex
  repeat' (with_reducible first|simp(disch:=first|exact okD|fail) only[go_sem,seval,p4]|(apply Spl.i<;>intro hc))
  refine⟨I4.putB (by simp(disch:=first|exact okD|fail) only[go_sem,seval,isCellB_row]),?_⟩
  exact okG
theorem d100 (l1:Lr 9000 r.num) (l2:Lr 9000 (r.den:Int)):Gv E3 100 [.str (txtR r)] h (.str (txtZ (flo r))):=by
 have hd:=den_pos r
 refine Gv.of (CallWp.fn (fn:=R.a100) rfl rfl rfl ?_)
 unfold R.a100
 by_cases c:r.den=1
 ·have e:txtR r=txtZ (flo r):=(if_pos c).trans (by rw[flo_int c])
  repeat' (with_reducible first|simp(disch:=first|exact okD|fail) only[go_sem,seval,u94 l1 l2,c]|(apply Spl.i<;>intro hc))
  all_goals rw[e]
 ·repeat' (with_reducible first|simp(disch:=first|exact okD|fail) only[go_sem,seval,u94 l1 l2,c]|(apply Spl.i<;>intro hc))
  refine Gp.wp (d124 l1 l2) fun v1 k1 a1 b1 u1 ⟨va,vb,e,I1,I2⟩=>?_
  subst e
  obtain⟨w1,rfl,p1,I1⟩:=I1.ex
  obtain⟨w2,rfl,p2,I2⟩:=I2.ex
  repeat' (with_reducible first|simp(disch:=first|exact okD|fail) only[go_sem,seval,p1,p2]|(apply Spl.i<;>intro hc))
  refine Gp.wp (d187 (I1.grs okG) (I2.grs okG) l1 l2 (by omega)) fun v3 k3 a3 b3 u3 I3=>?_
  repeat' (with_reducible first|simp(disch:=first|exact okD|fail) only[go_sem,seval]|(apply Spl.i<;>intro hc))
  have lf:Lr 9001 (flo r):=by
   have h1:=flo_le (r:=r)
   have h2:(r.num+1).natAbs+(r.num-1).natAbs<1000000000^9001:=by
    have:=l1
    unfold Lr at this
    rw[Nat.pow_succ]
    omega
   unfold Lr
   omega
  refine Gv.wp (d181 I3 (lf.mono (by decide))) fun h4 k4 j4 u4=>?_
  repeat' (with_reducible first|simp(disch:=first|exact okD|fail) only[go_sem,seval]|(apply Spl.i<;>intro hc))
  all_goals exact okG
end
section
variable {h h' hp:Hp} {K:AV→Hp→Prop} {tm:T AV} {v va vb s w:AV} {r a b:Rat} {x y:Int}
end
end
end Go.Ae
set_option maxRecDepth 100000
namespace Go.Ae.Hb
open AOp Opd C
def a3:AFn:=⟨39,[.tmp 2],(q [o 2 (.mv (.k (.bool false)))]
 (.seq (q [c 6 17 [],y 7 .not 6,v 8 7,g 9 (m 0) 8 false,g 10 (.len .str (.t 9)) 8 false,gb 11 .gtr (.t 10) (i 60) 8 false,pt 12 8 11]
 (k 12 (q [c 13 17 [],v 2 13]
 .ret)))
 (q [v 15 0,c 16 18 [.t 15],v 14 16,e 17 14 0,e 18 14 1,o 3 (.alloc zS),s 2 3 17,v 4 18]
 (q [v 19 0,c 20 19 [.t 19],v 5 20]
 (.seq (q [v 21 5,bi 22 .eql 21 0]
 (k 22 (.reg [v 23 0,c 24 21 [.t 23],bi 25 .lss 24 0,c 26 20 [.t 25,i 3],v 5 26])))
 (.seq (q [v 27 5,bi 28 .neq 27 0]
 (k 28 (q [l 29 true 2 3,v 30 4,v 31 5,o 32 (.build zS []),c 33 22 [.t 29,.t 30,.t 31,.t 32],v 2 33]
 .ret)))
 (.seq (.dreg [w 34 true 2 3 3,v 35 4,v 36 0,c 37 23 [.t 36],c 38 22 [.t 34,.t 35,i 0,.t 37],v 2 38])
 .ret)))))))⟩
def a23:AFn:=⟨34,[.cell 2 true 2],(q [o 2 (.alloc zS)]
 (q [v 7 0,c 8 128 [.t 7],c 9 127 [.t 8],v 10 0,c 11 129 [.t 10],c 12 127 [.t 11],v 3 9,v 4 12]
 (q [v 13 3,v 14 4,c 15 76 [.t 13,.t 14],v 5 15]
 (.seq (q [v 16 5,v 17 5,c 18 74 [.t 16,.t 17],v 19 0,bt 20 .eql 18 19]
 (k 20 (q [v 21 5,v 22 5,o 23 (.build zS [(0,1,(.t 21)),(1,1,(.t 22))]),s 2 2 23]
 .ret)))
 (q [v 24 0,c 25 74 [.t 24,(.k (.str [49,48,48,48,48,48,48]))],c 26 100 [.t 25],c 27 127 [.t 26],v 6 27]
 (q [v 28 6,c 29 76 [.t 28,(.k (.str [49,48,48,48]))],v 30 6,c 31 72 [.t 30,(.k (.str [49]))],c 32 76 [.t 31,(.k (.str [49,48,48,48]))],o 33 (.build zS [(0,1,(.t 29)),(1,1,(.t 32))]),s 2 2 33]
 .ret))))))⟩
def a127:AFn:=⟨33,[.tmp 2],(q [o 2 (.mv (.k (.str [])))]
 (q [o 3 (.mv (.k (.str [48]))),o 4 (.mv (.k (.str [49])))]
 (.seq (.block 0 (.loop (.seq (q [v 6 4,v 7 4,c 8 74 [.t 6,.t 7],v 9 0,c 10 75 [.t 8,.t 9],bi 11 .leq 10 0]
 (.cond (.t 11) .skip
 (.exit 0)))
 (.block 1 (.reg [v 12 4,c 13 74 [.t 12,(.k (.str [50]))],v 4 13])))))
 (.seq (.block 2 (.loop (.seq (q [v 14 4,v 15 3,c 16 73 [.t 14,.t 15],c 17 75 [.t 16,(.k (.str [49]))],bi 18 .gtr 17 0]
 (.cond (.t 18) .skip
 (.exit 2)))
 (.block 3 (q [v 19 3,v 20 4,c 21 72 [.t 19,.t 20],c 22 209 [.t 21],c 23 100 [.t 22],v 5 23]
 (q [v 24 5,v 25 5,c 26 74 [.t 24,.t 25],v 27 0,c 28 75 [.t 26,.t 27],bi 29 .leq 28 0]
 (.cond (.t 29) (.reg [v 30 5,v 3 30])
 (.reg [v 31 5,v 4 31]))))))))
 (q [v 32 3,v 2 32]
 .ret)))))⟩
def a209:AFn:=⟨5,[.tmp 2],(q [o 2 (.mv (.k (.str [])))]
 (q [v 3 0,c 4 74 [.t 3,(.k (.str [49,47,50]))],v 2 4]
 .ret))⟩
def tab:T AFn:=(.node (.node (.node (.node (.node (.node (.node (.node .nil (some a127) .nil) none .nil) none .nil) none .nil) none (.node .nil (some a23) .nil)) (some a3) .nil) none (.node (.node (.node .nil none (.node (.node .nil none (.node .nil (some a209) .nil)) none .nil)) none .nil) none .nil)) none .nil)
section
open Go.Proofs
theorem b3:Chk 3 a3:=by unfold Chk;kernel_rfl
theorem b23:Chk 23 a23:=by unfold Chk;kernel_rfl
theorem b127:Chk 127 a127:=by unfold Chk;kernel_rfl
theorem b209:Chk 209 a209:=by unfold Chk;kernel_rfl
theorem all:T.Forall Chk tab (fun n=>n):=⟨C.no,⟨C.no,⟨C.yes b3,⟨C.no,⟨C.no,⟨C.no,⟨C.no,⟨C.yes b127,trivial,trivial⟩,trivial⟩,trivial⟩,trivial⟩,⟨C.yes b23,trivial,trivial⟩⟩,trivial⟩,⟨C.no,⟨C.no,⟨C.no,trivial,⟨C.no,⟨C.no,trivial,⟨C.yes b209,trivial,trivial⟩⟩,trivial⟩⟩,trivial⟩,trivial⟩⟩,trivial⟩
theorem good (n:Nat) (a:AFn) (h:tab.get n=some a):chk Tryz.prog n=some a:=T.get_forall tab (fun n=>n) all n a h
end
end Go.Ae.Hb
set_option linter.unusedVariables false
set_option linter.unusedSimpArgs false
set_option maxRecDepth 100000
set_option maxHeartbeats 4000000
set_option exponentiation.threshold 9100
namespace Go.Ae
open Bg N Go.Proofs
noncomputable section
def TN (n:Nat):List UInt8:=txtR (((n:Nat):Int):Rat)
theorem TN0:TN 0=[48]:=by unfold TN;decide+kernel
theorem TN1:TN 1=[49]:=by unfold TN;decide+kernel
theorem TN2:TN 2=[50]:=by unfold TN;decide+kernel
theorem TNk:TN 1000=[49,48,48,48]:=by unfold TN;decide+kernel
theorem TNm:TN 1000000=[49,48,48,48,48,48,48]:=by unfold TN;decide+kernel
theorem Thalf:txtR (Rat.divInt 1 2)=[49,47,50]:=by decide+kernel
theorem flo_divInt {p:Int} {q:Nat} (hq:0<q):flo (Rat.divInt p q)=p/q:=by
 obtain⟨f1,f2⟩:=divInt_gcd (p:=p) (q:=(q:Int)) (by omega)
 have hg:0<(Int.gcd p q:Int):=by
  have:=Int.gcd_pos_of_ne_zero_right p (show(q:Int)≠0 by omega)
  omega
 obtain⟨p',hp⟩:=Int.gcd_dvd_left (a:=p) (b:=(q:Int))
 obtain⟨q',hq'⟩:=Int.gcd_dvd_right (a:=p) (b:=(q:Int))
 unfold flo
 rw[f1,f2]
 generalize (Int.gcd p q:Int)=g at *
 have q0:0≤q':=by
  rcases Int.lt_or_le q' 0 with l|l
  ·have:=Int.mul_neg_of_pos_of_neg hg l;omega
  ·exact l
 rw[Int.fdiv_eq_ediv_of_nonneg _ (Int.le_of_lt hg),Int.fdiv_eq_ediv_of_nonneg _ (Int.le_of_lt hg),hq',hp,Int.mul_ediv_cancel_left _ (by omega),Int.mul_ediv_cancel_left _ (by omega),Int.fdiv_eq_ediv_of_nonneg _ q0,Int.mul_ediv_mul_of_pos _ _ hg]
theorem flo_half (n:Nat):flo ((((n:Nat):Int):Rat)*Rat.divInt 1 2)=((n/2:Nat):Int):=by
 have e:(((n:Nat):Int):Rat)*Rat.divInt 1 2=Rat.divInt (n:Int) ((2:Nat):Int):=by
  rw[Rat.divInt_eq_div,Rat.divInt_eq_div,Rat.div_def,Rat.div_def,←Rat.mul_assoc]
  have:((1:Int):Rat)=1:=rfl
  rw[this,Rat.mul_one];rfl
 rw[e,flo_divInt (by decide)];rfl
theorem sgN_le {m n:Nat}:sgR ((((m:Nat):Int):Rat)-(((n:Nat):Int):Rat))≤0↔m≤n:=by
 rw[sgR_le,Rat.intCast_le_intCast];omega
theorem sgN_gt {m n:Nat}:0<sgR ((((m:Nat):Int):Rat)-(((n:Nat):Int):Rat))↔n<m:=by
 rw[sgR_gt,Rat.intCast_lt_intCast];omega
def EI:Env:=EF.add Hb.tab
theorem geI:Ge EF EI:=Ge.add _ _
section
variable {h h' hp:Hp} {K:AV→Hp→Prop} {tm:T AV} {v va vb w:AV} {a b c r:Rat} {s u p q:List UInt8} {e:Int} {n m k:Nat}
theorem y0 {f:Nat} {args:List AV} {v:AV} (hc:Gv EF f args h v):Gv EI f args h v:=hc.ge fun _ _ _ hk=>hk.ge geI
theorem y3 {f:Nat} {args:List AV} {v:AV} (hc:Gv E3 f args h v):Gv EI f args h v:=y0 (f3 hc)
theorem yu3 {f:Nat} {args:List AV} {h':Hp} {v:AV} (hc:∀K,CallWp E3 f args h K↔K v h'):CallWp EI f args h K↔K v h':=up geI fun K=>fu3 hc
theorem yu2 {f:Nat} {args:List AV} {h':Hp} {v:AV} (hc:∀K,CallWp E2 f args h K↔K v h'):CallWp EI f args h K↔K v h':=up geI fun K=>fu2 hc
theorem Lr.nat {x y:Nat} (hy:Lr m (y:Int)) (hx:x≤y):Lr m (x:Int):=hy.le (by rw[Int.natAbs_natCast,Int.natAbs_natCast];exact hx)
theorem Lr.dbl (hy:Lr m (n:Int)):Lr (m+1) ((2*n+2:Nat):Int):=by
 unfold Lr at *
 rw[Int.natAbs_natCast]at *
 rw[Nat.pow_succ]
 omega
theorem Br.nat (hn:Lr m (n:Int)) (hm:1≤m):Br m (((n:Nat):Int):Rat):=by
 refine⟨by rw[Rat.num_intCast];exact hn,?_⟩
 rw[Rat.den_intCast]
 show(((1:Nat):Int)).natAbs<1000000000^m
 have:=Nat.pow_le_pow_right (n:=1000000000) (by decide) hm
 omega
theorem n74 (hm:Lr 900 (m:Int)) (hn:Lr 900 (n:Int)):Gv EI 74 [.str (TN m),.str (TN n)] h (.str (TN (m*n))):=by
 have:=y3 (d74 (h:=h) ((Br.nat hm (by decide)).mono (by decide:900≤2000)) ((Br.nat hn (by decide)).mono (by decide:900≤2000)))
 rwa[←Rat.intCast_mul,←Int.natCast_mul]at this
theorem n72 (hm:Lr 900 (m:Int)) (hn:Lr 900 (n:Int)):Gv EI 72 [.str (TN m),.str (TN n)] h (.str (TN (m+n))):=by
 have:=y3 (d72 (h:=h) ((Br.nat hm (by decide)).mono (by decide:900≤2000)) ((Br.nat hn (by decide)).mono (by decide:900≤2000)))
 rwa[←Rat.intCast_add,←Int.natCast_add]at this
theorem n73 (hm:Lr 900 (m:Int)) (hn:Lr 900 (n:Int)) (hmn:n≤m):Gv EI 73 [.str (TN m),.str (TN n)] h (.str (TN (m-n))):=by
 have:=y3 (d73 (h:=h) ((Br.nat hm (by decide)).mono (by decide:900≤2000)) ((Br.nat hn (by decide)).mono (by decide:900≤2000)))
 rwa[←Rat.intCast_sub,←Int.natCast_sub hmn]at this
theorem n75 (hm:Lr 1900 (m:Int)) (hn:Lr 1900 (n:Int)):Gv EI 75 [.str (TN m),.str (TN n)] h (.int .i64 (sgR ((((m:Nat):Int):Rat)-(((n:Nat):Int):Rat)))):=
 y3 (d75 (h:=h) ((Br.nat hm (by decide)).mono (by decide:1900≤2000)) ((Br.nat hn (by decide)).mono (by decide:1900≤2000)))
theorem n209 (hn:Lr 900 (n:Int)):Gv EI 209 [.str (TN n)] h (.str (txtR ((((n:Nat):Int):Rat)*Rat.divInt 1 2))):=by
 refine Gv.of (CallWp.fn (fn:=Hb.a209) rfl rfl rfl ?_)
 unfold Hb.a209
 have b2:Br 1 (Rat.divInt 1 2):=by unfold Br Lr;decide
 have:=fun h=>y3 (d74 (h:=h) ((Br.nat hn (by decide)).mono (by decide:900≤2000)) (b2.mono (by decide:1≤2000)))
 rw[Thalf]at this
 unfold TN
 repeat' (with_reducible first|simp(disch:=first|exact okD|fail) only[go_sem,seval]|(refine Gv.wp (this _) fun _ _ _ _=>?_)|(apply Spl.i<;>intro hc))
 exact okG
theorem n100 (hn:Lr 900 (n:Int)):Gv EI 100 [.str (txtR ((((n:Nat):Int):Rat)*Rat.divInt 1 2))] h (.str (TN (n/2))):=by
 have b2:Br 1 (Rat.divInt 1 2):=by unfold Br Lr;decide
 have hb:=((Br.nat hn (by decide)).mul b2).mono (by decide:_≤9000)
 have:=y3 (d100 (h:=h) hb.1 hb.2)
 rwa[flo_half,←txtR_int]at this
theorem d127_b {n lo0 hi0:Nat} (hG:Grs h hp) (ln:Lr 200 (n:Int)) (k0:val tm (.t 0)= .str (TN n)) (k3:val tm (.t 3)= .str (TN lo0)) (k4:val tm (.t 4)= .str (TN hi0)) (h1:lo0*lo0≤n) (h2:n<hi0*hi0) (h3:hi0≤2*n+2) (h4:lo0<hi0):
  Wp EI (Hb.a127.code.post 3) ⟨tm,hp⟩ (RetQ [.tmp 2] fun v h'=>v= .str (TN (isq n))∧Grs h h'):=by
 have lh:=ln.dbl
 unfold Hb.a127
 dsimp only[ACode.post]
 repeat' (with_reducible first|simp(disch:=first|exact okD|fail) only[go_sem,seval]|(apply Spl.i<;>intro hc))
 refine Wp.loopI (fun k st=>∃lo hi:Nat,val st.tm (.t 0)= .str (TN n)∧val st.tm (.t 3)= .str (TN lo)∧val st.tm (.t 4)= .str (TN hi)∧Grs h st.hp∧lo*lo≤n∧n<hi*hi∧hi≤2*n+2∧lo<hi∧hi-lo=k) (n:=hi0-lo0) ?_ ?_
 ·exact⟨lo0,hi0,k0,k3,k4,hG,h1,h2,h3,h4,rfl⟩
 ·clear k0 k3 k4 h1 h2 h3 h4 hG
  rintro k ⟨tm,hq⟩ ⟨lo,hi,k0,k3,k4,hG,h1,h2,h3,h4,rfl⟩
  simp only at k0 k3 k4 hG
  have lhi:Lr 201 (hi:Int):=lh.nat h3
  have llo:Lr 201 (lo:Int):=lhi.nat (by omega)
  have ldf:Lr 201 ((hi-lo:Nat):Int):=lhi.nat (by omega)
  have lsm:Lr 202 ((lo+hi:Nat):Int):=by rw[Int.natCast_add];exact llo.add lhi
  have lmd:Lr 201 (((lo+hi)/2:Nat):Int):=lhi.nat (by omega)
  have lmm:Lr 402 (((lo+hi)/2*((lo+hi)/2):Nat):Int):=by rw[Int.natCast_mul];exact lmd.mul lmd
  have l1:Lr 1 ((1:Nat):Int):=by unfold Lr;decide
  have c73:=fun h=>n73 (h:=h) (lhi.mono (by decide)) (llo.mono (by decide)) (Nat.le_of_lt h4)
  have c75:=fun h=>n75 (h:=h) (ldf.mono (by decide)) (l1.mono (by decide))
  rw[TN1]at c75
  have g1:=sgN_gt (m:=hi-lo) (n:=1)
  generalize sgR ((((hi-lo:Nat):Int):Rat)-(((1:Nat):Int):Rat))=d at *
  by_cases c:1<hi-lo
  ·have c':=g1.2 c
   have c72:=fun h=>n72 (h:=h) (llo.mono (by decide)) (lhi.mono (by decide))
   have c209:=fun h=>n209 (h:=h) (lsm.mono (by decide))
   have c100:=fun h=>n100 (h:=h) (lsm.mono (by decide))
   have c74:=fun h=>n74 (h:=h) (lmd.mono (by decide)) (lmd.mono (by decide))
   have c75':=fun h=>n75 (h:=h) (lmm.mono (by decide)) (ln.mono (by decide))
   have g2:=sgN_le (m:=(lo+hi)/2*((lo+hi)/2)) (n:=n)
   generalize sgR (((((lo+hi)/2*((lo+hi)/2):Nat):Int):Rat)-(((n:Nat):Int):Rat))=d' at *
   have m1:lo<(lo+hi)/2:=by omega
   have m2:(lo+hi)/2<hi:=by omega
   generalize txtR ((((lo+hi:Nat):Int):Rat)*Rat.divInt 1 2)=X at *
   generalize (lo+hi)/2=md at *
   by_cases c2:md*md≤n
   ·have c2':=g2.2 c2
    repeat' (with_reducible first|simp(disch:=first|exact okD|fail) only[go_sem,seval,k0,k3,k4,c',c2']|(refine Gv.wp (c73 _) fun _ _ _ _=>?_)|(refine Gv.wp (c75 _) fun _ _ _ _=>?_)|(refine Gv.wp (c72 _) fun _ _ _ _=>?_)|(refine Gv.wp (c209 _) fun _ _ _ _=>?_)|(refine Gv.wp (c100 _) fun _ _ _ _=>?_)|(refine Gv.wp (c74 _) fun _ _ _ _=>?_)|(refine Gv.wp (c75' _) fun _ _ _ _=>?_)|(apply Spl.i<;>intro hc))
    exact⟨_,by omega,md,hi,rfl,rfl,hG.trans okG,c2,h2,h3,m2,rfl⟩
   ·have c2':¬d'≤0:=fun e=>c2 (g2.1 e)
    repeat' (with_reducible first|simp(disch:=first|exact okD|fail) only[go_sem,seval,k0,k3,k4,c',c2']|(refine Gv.wp (c73 _) fun _ _ _ _=>?_)|(refine Gv.wp (c75 _) fun _ _ _ _=>?_)|(refine Gv.wp (c72 _) fun _ _ _ _=>?_)|(refine Gv.wp (c209 _) fun _ _ _ _=>?_)|(refine Gv.wp (c100 _) fun _ _ _ _=>?_)|(refine Gv.wp (c74 _) fun _ _ _ _=>?_)|(refine Gv.wp (c75' _) fun _ _ _ _=>?_)|(apply Spl.i<;>intro hc))
    exact⟨_,by omega,lo,md,rfl,rfl,hG.trans okG,h1,by omega,by omega,m1,rfl⟩
  ·have c':¬0<d:=fun e=>c (g1.1 e)
   have e:lo=isq n:=isq_eq h1 (by rw[show lo+1=hi by omega];exact h2)
   repeat' (with_reducible first|simp(disch:=first|exact okD|fail) only[go_sem,seval,k0,k3,k4,c']|(refine Gv.wp (c73 _) fun _ _ _ _=>?_)|(refine Gv.wp (c75 _) fun _ _ _ _=>?_)|(apply Spl.i<;>intro hc))
   rw[←e]
   exact⟨rfl,hG.trans okG⟩
theorem d127 {n:Nat} (ln:Lr 200 (n:Int)):Gv EI 127 [.str (TN n)] h (.str (TN (isq n))):=by
 refine Gv.of (CallWp.fn (fn:=Hb.a127) rfl rfl rfl ?_)
 have lh:=ln.dbl
 have tail:=fun tm hp hi hG k0 k3 k4 h2 h3 h4=>d127_b (h:=h) (tm:=tm) (hp:=hp) (n:=n) (lo0:=0) (hi0:=hi) hG ln k0 k3 k4 (Nat.zero_le _) h2 h3 h4
 rw[TN0]at tail
 refine Wp.cut 3 rfl ?_
 generalize ACode.post 3 Hb.a127.code=rest at tail⊢
 unfold Hb.a127
 dsimp only[ACode.pre]
 have l2:Lr 1 ((2:Nat):Int):=by unfold Lr;decide
 repeat' (with_reducible first|simp(disch:=first|exact okD|fail) only[go_sem,seval]|(apply Spl.i<;>intro hc))
 refine Wp.loopI (fun k st=>∃hi:Nat,val st.tm (.t 0)= .str (TN n)∧val st.tm (.t 3)= .str [48]∧val st.tm (.t 4)= .str (TN hi)∧Grs h st.hp∧1≤hi∧hi≤2*n+2∧2*n+2-hi=k) (n:=2*n+1) ?_ ?_
 ·exact⟨1,by simp(disch:=first|exact okD|fail) only[go_sem,seval],by simp(disch:=first|exact okD|fail) only[go_sem,seval],by simp(disch:=first|exact okD|fail) only[go_sem,seval,TN1],Grs.refl _,Nat.le_refl _,by omega,by omega⟩
 ·rintro k ⟨tm,hq⟩ ⟨hi,k0,k3,k4,hG,h1,h3,rfl⟩
  simp only at k0 k3 k4 hG
  have lhi:Lr 201 (hi:Int):=lh.nat h3
  have lhh:Lr 402 ((hi*hi:Nat):Int):=by rw[Int.natCast_mul];exact lhi.mul lhi
  have c74:=fun h=>n74 (h:=h) (lhi.mono (by decide)) (lhi.mono (by decide))
  have c75:=fun h=>n75 (h:=h) (lhh.mono (by decide)) (ln.mono (by decide))
  have g1:=sgN_le (m:=hi*hi) (n:=n)
  have hh:hi≤hi*hi:=Nat.le_mul_self _
  generalize sgR ((((hi*hi:Nat):Int):Rat)-(((n:Nat):Int):Rat))=d at *
  by_cases c:hi*hi≤n
  ·have c':=g1.2 c
   have c74':=fun h=>n74 (h:=h) (lhi.mono (by decide)) (l2.mono (by decide))
   rw[TN2]at c74'
   repeat' (with_reducible first|simp(disch:=first|exact okD|fail) only[go_sem,seval,k0,k3,k4,c']|(refine Gv.wp (c74 _) fun _ _ _ _=>?_)|(refine Gv.wp (c75 _) fun _ _ _ _=>?_)|(refine Gv.wp (c74' _) fun _ _ _ _=>?_)|(apply Spl.i<;>intro hc))
   exact⟨_,by omega,hi*2,rfl,hG.trans okG,by omega,by omega,rfl⟩
  ·have c':¬d≤0:=fun e=>c (g1.1 e)
   repeat' (with_reducible first|simp(disch:=first|exact okD|fail) only[go_sem,seval,k0,k3,k4,c']|(refine Gv.wp (c74 _) fun _ _ _ _=>?_)|(refine Gv.wp (c75 _) fun _ _ _ _=>?_)|(apply Spl.i<;>intro hc))
   exact tail _ _ hi (hG.trans okG) (by simp(disch:=first|exact okD|fail) only[go_sem,seval,k0]) (by simp(disch:=first|exact okD|fail) only[go_sem,seval,k3]) (by simp(disch:=first|exact okD|fail) only[go_sem,seval,k4]) (by omega) h3 h1
end
end
end Go.Ae
set_option maxRecDepth 100000
namespace Go.Ae.Ha
open AOp Opd C
def tab:T AFn:= .nil
section
open Go.Proofs
theorem all:T.Forall Chk tab (fun n=>n):=trivial
theorem good (n:Nat) (a:AFn) (h:tab.get n=some a):chk Tryz.prog n=some a:=T.get_forall tab (fun n=>n) all n a h
end
end Go.Ae.Ha
set_option linter.unusedVariables false
set_option linter.unusedSimpArgs false
set_option maxRecDepth 100000
set_option maxHeartbeats 2000000
set_option exponentiation.threshold 5000
namespace Go.Ae
open Bg N Go.Proofs
noncomputable section
theorem num_txt (r:Rat):numS (txtR r)=txtZ r.num:=by
 unfold numS
 rw[slash_txt r]
 unfold txtR
 split
 ·rw[List.take_length]
 ·rw[List.take_left]
theorem den_txt (r:Rat):denS (txtR r)=decP r.den 1:=by
 unfold denS
 rw[slash_txt r]
 unfold txtR
 split
 ·rename_i h
  rw[if_pos rfl,h]
  decide+kernel
 ·rw[if_neg (by simp),←List.drop_drop,List.drop_left,txtZ_nat];rfl
def Few (r:Rat):Prop:=r.num.natAbs<10^6∧r.den<10^6
def EH:Env:=EF.add Ha.tab
theorem geH:Ge EF EH:=Ge.add _ _
section
variable {h h' h0 hp:Hp} {K:AV→Hp→Prop} {tm:T AV} {v va vb w:AV} {a b c d r:Rat} {s u s' u' p q:List UInt8} {e:Int} {n:Nat}
theorem g0 {f:Nat} {args:List AV} {v:AV} (hc:Gv EF f args h v):Gv EH f args h v:=hc.ge fun _ _ _ hk=>hk.ge geH
theorem g3 {f:Nat} {args:List AV} {v:AV} (hc:Gv E3 f args h v):Gv EH f args h v:=g0 (f3 hc)
theorem Few.br (h:Few r):Br 1 r:=by
 refine⟨?_,?_⟩
 ·exact Nat.lt_of_lt_of_le h.1 (by decide)
 ·show((r.den:Int)).natAbs<_
  rw[Int.natAbs_natCast];exact Nat.lt_of_lt_of_le h.2 (by decide)
end
end
end Go.Ae
set_option linter.unusedVariables false
set_option linter.unusedSimpArgs false
set_option maxRecDepth 100000
set_option maxHeartbeats 8000000
set_option exponentiation.threshold 9100
namespace Go.Ae
open Bg N Go.Proofs
noncomputable section
def kn (a:Rat):Nat:=isq (flo (a*((1000000:Int):Rat))).natAbs
def klo (a:Rat):Rat:=Rat.divInt (kn a:Nat) 1000
def khi (a:Rat):Rat:=Rat.divInt ((kn a+1:Nat):Int) 1000
section
variable {h h' hp:Hp} {K:AV→Hp→Prop} {tm:T AV} {v va vb w:AV} {a b c r:Rat} {s u p q:List UInt8} {e:Int} {n m k:Nat}
theorem x18_bad (hs:s.length≤1000000) (hz:checkV s≠0):Gv EX 18 [.str s] h (spr [] [] (checkV s)):=by
 refine Gv.of (CallWp.fn (fn:=C.a18) rfl rfl rfl ?_)
 unfold C.a18
 repeat' (with_reducible first|simp(disch:=first|exact okD|fail) only[go_sem,seval,hz]|(refine Gv.wp (x2 (i101 hs)) fun _ _ _ _=>?_)|(apply Spl.i<;>intro hc))
 exact okG
theorem x18_neg (hs:s.length≤1000000) (hz:checkV s=0) (hn:valS s<0):Gv EX 18 [.str s] h (spr [] [] 3):=by
 refine Gv.of (CallWp.fn (fn:=C.a18) rfl rfl rfl ?_)
 unfold C.a18
 obtain⟨t1,o1⟩:=txtR_valS hz
 have i1:=fun h=>xp2 (i111 (h:=h) o1)
 rw[←t1]at i1
 have sg:=sgR_ge0 (a:=valS s)
 have sg':sgR (valS s)<0:=by
  rcases Int.lt_or_le (sgR (valS s)) 0 with l|l
  ·exact l
  ·exact absurd (sg.1 l) (Rat.not_le.2 hn)
 repeat' (with_reducible first|simp(disch:=first|exact okD|fail) only[go_sem,seval,hz]|(refine Gv.wp (x2 (i101 hs)) fun _ _ _ _=>?_)|(apply Spl.i<;>intro hc))
 refine Gp.wp (i1 _) fun v1 k1 a1 b1 u1 I1=>?_
 obtain⟨x,rfl,p1,p2⟩:=I1.cell
 have ex:x.l=[.int .i64 x.n,x.w,.int .i64 x.d,x.u]:=rfl
 rw[ex]at I1⊢
 repeat' (with_reducible first|simp(disch:=first|exact okD|fail) only[go_sem,seval,p1,p2]|(apply Spl.i<;>intro hc))
 refine Gv.wp (x2 (i112 (I1.grs okG))) fun h2 k2 j2 u2=>?_
 rw[sgR_max]
 repeat' (with_reducible first|simp(disch:=first|exact okD|fail) only[go_sem,seval,sg']|(apply Spl.i<;>intro hc))
 exact okG
theorem x18 {lo hi:Rat} (hs:s.length≤1000000) (hz:checkV s=0) (hn:0≤valS s) (H1:sqB (valS s)=true→lo=rt (valS s)∧hi=rt (valS s)) (H2:sqB (valS s)=false→lo=klo (valS s)∧hi=khi (valS s)):
  Gv EX 18 [.str s] h (spr (spA lo hi) (spB lo hi) (spE lo hi)):=by
 refine Gv.of (CallWp.fn (fn:=C.a18) rfl rfl rfl ?_)
 unfold C.a18
 obtain⟨t1,o1⟩:=txtR_valS hz
 have i1:=fun h=>xp2 (i111 (h:=h) o1)
 have bd:=Bd_ok o1
 rw[←t1]at i1
 have sg':¬sgR (valS s)<0:=by
  have:=sgR_ge0.2 hn;omega
 generalize valS s=a at *
 have n0:0≤a.num:=by rwa[Rat.num_nonneg]
 repeat' (with_reducible first|simp(disch:=first|exact okD|fail) only[go_sem,seval,hz]|(refine Gv.wp (x2 (i101 hs)) fun _ _ _ _=>?_)|(apply Spl.i<;>intro hc))
 refine Gp.wp (i1 _) fun v1 k1 a1 b1 u1 I1=>?_
 obtain⟨x,rfl,p1,p2⟩:=I1.cell
 have ex:x.l=[.int .i64 x.n,x.w,.int .i64 x.d,x.u]:=rfl
 rw[ex]at I1⊢
 repeat' (with_reducible first|simp(disch:=first|exact okD|fail) only[go_sem,seval,p1,p2]|(apply Spl.i<;>intro hc))
 refine Gv.wp (x2 (i112 (I1.grs okG))) fun h2 k2 j2 u2=>?_
 rw[sgR_max]
 repeat' (with_reducible first|simp(disch:=first|exact okD|fail) only[go_sem,seval,sg',p1,p2]|(apply Spl.i<;>intro hc))
 refine Gp.wp (xp2 (i113 (I1.grs okG) n0 (bd.mono (by decide)))) fun v3 h3 k3 j3 u3 ⟨y,ey,q1,q2,I3⟩=>?_
 subst ey
 have ey:y.l=[.int .i64 y.n,y.w,.int .i64 y.d,y.u]:=rfl
 rw[ey]at I3⊢
 by_cases c:sqB a=true
 ·obtain⟨rfl,rfl⟩:=H1 c
  have I3:=I3 c
  have br:Bd 110 (rt a):=by
   obtain⟨r1,r2⟩:=rt_parts c
   refine⟨?_,?_⟩
   ·rw[r1];exact bd.1.le (by rw[Int.natAbs_natCast];exact isq_le _)
   ·rw[r2];exact bd.2.nat (isq_le _)
  obtain⟨l1,l2⟩:=len_of br (by decide)
  rw[c]
  repeat' (with_reducible first|simp(disch:=first|exact okD|fail) only[go_sem,seval,q1,q2]|(apply Spl.i<;>intro hc))
  refine Gv.wp (x114 (I3.grs okG) (I3.grs okG) l1 l1 l2 l2) fun h5 k5 j5 u5=>?_
  rw[spT_eq]
  repeat' (with_reducible first|simp(disch:=first|exact okD|fail) only[go_sem,seval]|(apply Spl.i<;>intro hc))
  exact okG
 ·have c':sqB a=false:=by simpa using c
  obtain⟨rfl,rfl⟩:=H2 c'
  rw[c']
  repeat' (with_reducible first|simp(disch:=first|exact okD|fail) only[go_sem,seval,p1,p2,q1,q2]|(apply Spl.i<;>intro hc))
  have b6:Bd 1 (((1000000:Int)):Rat):=by unfold Bd Lim;decide
  have bm:=bd.mul b6
  have nm:0≤(a*((1000000:Int):Rat)):=Rat.mul_nonneg hn (by decide)
  obtain⟨fn,hf⟩:∃fn:Nat,flo (a*((1000000:Int):Rat))=fn:=⟨(flo (a*((1000000:Int):Rat))).natAbs,by
   have:=Rat.num_nonneg.2 nm
   have:0≤flo (a*((1000000:Int):Rat)):=by unfold flo;rw[Int.fdiv_eq_ediv_of_nonneg _ (by omega)];exact Int.ediv_nonneg this (by omega)
   omega⟩
  have ek:kn a=isq fn:=by unfold kn;rw[hf,Int.natAbs_natCast]
  have lf:Lim 112 (fn:Int):=by
   have l2:Lim 112 (((a*((1000000:Int):Rat)).num.natAbs+1:Nat):Int):=by
    have:=(bm.1:Lim 111 _)
    unfold Lim at this⊢
    rw[Int.natAbs_natCast,Nat.pow_succ]
    have hp:0<18446744073709551616^111:=Nat.pow_pos (by decide)
    omega
   refine l2.nat ?_
   have:=flo_le (r:=a*((1000000:Int):Rat))
   rw[hf,Int.natAbs_natCast]at this
   exact this
  have lk:Lim 112 ((isq fn:Nat):Int):=lf.nat (isq_le _)
  have lk1:Lim 113 ((isq fn+1:Nat):Int):=by rw[Int.natCast_add];exact lk.add ((Lim.small (by omega)).mono (by decide))
  have l1000:Lim 1 (1000:Int):=Lim.small (by omega)
  unfold klo khi
  rw[ek]
  refine Gv.wp (x2 c116) fun h4 k4 j4 u4=>?_
  repeat' (with_reducible first|simp(disch:=first|exact okD|fail) only[go_sem,seval,p1,p2,q1,q2]|(apply Spl.i<;>intro hc))
  refine Gp.wp (xp2 (i115 (I1.grs okG) (IsF.int (z:=1000000) (by omega)) (bd.mono (by decide)) (b6.mono (by decide)))) fun v5 h5 k5 j5 u5 I5=>?_
  obtain⟨z,rfl,z1,z2⟩:=I5.cell
  have ez:z.l=[.int .i64 z.n,z.w,.int .i64 z.d,z.u]:=rfl
  rw[ez]at I5⊢
  repeat' (with_reducible first|simp(disch:=first|exact okD|fail) only[go_sem,seval,p1,p2,q1,q2,z1,z2]|(apply Spl.i<;>intro hc))
  refine Gp.wp (xp2 (i117 I5 (bm.mono (by decide)))) fun v6 h6 k6 j6 u6 I6=>?_
  rw[show(a*((1000000:Int):Rat)).num.fdiv (a*((1000000:Int):Rat)).den=fn from hf]at I6
  obtain⟨n6,w6,rfl,o6,I6⟩:=I6.ex2
  repeat' (with_reducible first|simp(disch:=first|exact okD|fail) only[go_sem,seval,o6]|(apply Spl.i<;>intro hc))
  refine Gp.wp (xp2 (i118 (n:=fn) I6 (lf.mono (by decide)))) fun v7 h7 k7 j7 u7 I7=>?_
  obtain⟨n7,w7,rfl,o7,I7⟩:=I7.ex2
  generalize isq fn=kk at *
  repeat' (with_reducible first|simp(disch:=first|exact okD|fail) only[go_sem,seval,o7]|(refine Gv.wp (x2 c120) fun _ _ _ _=>?_)|(apply Spl.i<;>intro hc))
  refine Gp.wp (xp2 (i119 (I7.grs okG) (IsI.small (n:=1000) (by omega)) (lk.mono (by decide)) (l1000.mono (by decide)) (by decide))) fun v8 h8 k8 j8 u8 I8=>?_
  obtain⟨y8,rfl,y1,y2⟩:=I8.cell
  have e8:y8.l=[.int .i64 y8.n,y8.w,.int .i64 y8.d,y8.u]:=rfl
  rw[e8]at I8⊢
  repeat' (with_reducible first|simp(disch:=first|exact okD|fail) only[go_sem,seval,o7,y1,y2]|(refine Gv.wp (x2 c120) fun _ _ _ _=>?_)|(apply Spl.i<;>intro hc))
  refine Gp.wp (xp2 (i121 (I7.grs okG) (IsI.small (n:=1) (by omega)) (lk.mono (by decide)) ((Lim.small (n:=1) (by omega)).mono (by decide)))) fun v9 h9 k9 j9 u9 I9=>?_
  rw[show((kk:Nat):Int)+1=((kk+1:Nat):Int) from rfl]at I9
  obtain⟨n9,w9,rfl,o9,I9⟩:=I9.ex2
  repeat' (with_reducible first|simp(disch:=first|exact okD|fail) only[go_sem,seval,o9,y1,y2]|(refine Gv.wp (x2 c120) fun _ _ _ _=>?_)|(apply Spl.i<;>intro hc))
  refine Gp.wp (xp2 (i119 (I9.grs okG) (IsI.small (n:=1000) (by omega)) (lk1.mono (by decide)) (l1000.mono (by decide)) (by decide))) fun v10 h10 k10 j10 u10 I10=>?_
  obtain⟨y10,rfl,y3,y4⟩:=I10.cell
  have e10:y10.l=[.int .i64 y10.n,y10.w,.int .i64 y10.d,y10.u]:=rfl
  rw[e10]at I10⊢
  have B8:Bd 113 (Rat.divInt ((kk:Nat):Int) 1000):=Bd.of (by decide) (lk.mono (by decide)) (l1000.mono (by decide))
  have B10:Bd 113 (Rat.divInt ((kk+1:Nat):Int) 1000):=Bd.of (by decide) lk1 (l1000.mono (by decide))
  obtain⟨r1,r2⟩:=len_of B8 (by decide)
  obtain⟨r3,r4⟩:=len_of B10 (by decide)
  repeat' (with_reducible first|simp(disch:=first|exact okD|fail) only[go_sem,seval,y1,y2,y3,y4]|(apply Spl.i<;>intro hc))
  refine Gv.wp (x114 (I8.grs okG) (I10.grs okG) r1 r3 r2 r4) fun h11 k11 j11 u11=>?_
  rw[spT_eq]
  repeat' (with_reducible first|simp(disch:=first|exact okD|fail) only[go_sem,seval]|(apply Spl.i<;>intro hc))
  exact okG
end
end
end Go.Ae
set_option linter.unusedVariables false
set_option linter.unusedSimpArgs false
set_option maxRecDepth 100000
set_option maxHeartbeats 8000000
set_option exponentiation.threshold 9100
namespace Go.Ae
open Bg N Go.Proofs
noncomputable section
theorem rt_sq {a:Rat} (h0:0≤a.num):rt a*rt a=a↔sqB a=true:=by
 have hd:=isq_pos a.den_pos
 have e:rt a*rt a=Rat.divInt ((isq a.num.natAbs*isq a.num.natAbs:Nat):Int) ((isq a.den*isq a.den:Nat):Int):=by
  unfold rt
  rw[Rat.divInt_mul_divInt,Int.natCast_mul,Int.natCast_mul]
 have h1:=(isq_spec a.num.natAbs).1
 have h2:=(isq_spec a.den).1
 have hc:=a.reduced
 have hp:=a.den_pos
 have hdd:0<isq a.den*isq a.den:=Nat.mul_pos hd hd
 rw[e]
 unfold sqB
 rw[Bool.and_eq_true,decide_eq_true_eq,decide_eq_true_eq]
 constructor
 ·intro h
  have hx:((isq a.num.natAbs*isq a.num.natAbs:Nat):Int)*a.den=a.num*((isq a.den*isq a.den:Nat):Int):=by
   have:=h.trans (Rat.num_divInt_den a).symm
   rwa[Rat.divInt_eq_divInt_iff (by omega) (by omega)]at this
  have hx':isq a.num.natAbs*isq a.num.natAbs*a.den=a.num.natAbs*(isq a.den*isq a.den):=by
   have e1:a.num=(a.num.natAbs:Int):=by omega
   rw[e1]at hx
   rw[←Int.natCast_mul,←Int.natCast_mul]at hx
   rw[Int.natAbs_natCast]at hx
   exact Int.ofNat.inj hx
  have dv:a.den∣isq a.den*isq a.den:=by
   have:a.den∣a.num.natAbs*(isq a.den*isq a.den):=⟨_,by rw[←hx',Nat.mul_comm]⟩
   exact hc.symm.dvd_of_dvd_mul_left this
  have ed:isq a.den*isq a.den=a.den:=Nat.le_antisymm h2 (Nat.le_of_dvd hdd dv)
  refine⟨?_,ed⟩
  rw[ed]at hx'
  exact Nat.eq_of_mul_eq_mul_right hp hx'
 ·rintro⟨e1,e2⟩
  rw[e1,e2,show((a.num.natAbs:Nat):Int)=a.num by omega]
  exact Rat.num_divInt_den a
section
variable {h h' hp:Hp} {K:AV→Hp→Prop} {tm:T AV} {v va vb w:AV} {a b c r:Rat} {s u p q:List UInt8} {e:Int} {n m k:Nat}
theorem n76 (hm:Lr 900 (m:Int)) (hn:Lr 900 (n:Int)) (h0:n≠0):Gv EI 76 [.str (TN m),.str (TN n)] h (.str (txtR (Rat.divInt (m:Int) (n:Int)))):=by
 have:=y3 (d76 (h:=h) ((Br.nat hm (by decide)).mono (by decide:900≤2000)) ((Br.nat hn (by decide)).mono (by decide:900≤2000)) (by
  intro e
  have:((n:Int):Rat)=((0:Int):Rat):=e
  rw[Rat.intCast_inj]at this
  omega))
 rwa[←Rat.divInt_eq_div]at this
theorem d20t {b:Bool} {e:Int}:CallWp E3 20 [.bool b,.int .i64 e] h K↔K (.int .i64 (if b=true then e else 0)) h:=by
 refine CallWp.iff_of (CallWp.fn (fn:=R.a20) rfl rfl rfl ?_)
 unfold R.a20
 cases b
 ·repeat' (with_reducible first|simp(disch:=first|exact okD|fail) only[go_sem,seval]|(apply Spl.i<;>intro hc))
 ·repeat' (with_reducible first|simp(disch:=first|exact okD|fail) only[go_sem,seval]|(apply Spl.i<;>intro hc))
structure Rb (a:Rat) (m d f:Nat):Prop where
 num:a.num=m
 den:a.den=d
 ff:flo (a*((1000000:Int):Rat))=f
 lm:Lr 67 (m:Int)
 ld:Lr 67 (d:Int)
 lf:Lr 70 (f:Int)
 dp:0<d
theorem Rb.of {a:Rat} (ok:okR a=true) (h0:0≤a):∃m d f,Rb a m d f:=by
 obtain⟨b1,b2⟩:=ok_Br ok
 have hn:0≤a.num:=Rat.num_nonneg.2 h0
 have nm:0≤(a*((1000000:Int):Rat)):=Rat.mul_nonneg h0 (by decide)
 have b6:Br 1 (((1000000:Int)):Rat):=by unfold Br Lr;decide
 have bm:Br 68 (a*((1000000:Int):Rat)):=(ok_Br ok).mul b6
 have fp:0≤flo (a*((1000000:Int):Rat)):=by
  have:=Rat.num_nonneg.2 nm
  unfold flo;rw[Int.fdiv_eq_ediv_of_nonneg _ (by omega)];exact Int.ediv_nonneg this (by omega)
 refine⟨a.num.natAbs,a.den,(flo (a*((1000000:Int):Rat))).natAbs,by omega,rfl,by omega,b1.le (by omega),b2,?_,a.den_pos⟩
 have h1:=flo_le (r:=a*((1000000:Int):Rat))
 have h2:Lr 68 (a*((1000000:Int):Rat)).num:=bm.1
 unfold Lr at h2⊢
 rw[Int.natAbs_natCast]
 have hp:0<1000000000^68:=Nat.pow_pos (by decide)
 have:(1000000000:Nat)^70=1000000000^68*1000000000*1000000000:=by rw[←Nat.pow_succ,←Nat.pow_succ]
 omega
theorem Rb.kn {m d f:Nat} (R:Rb a m d f):kn a=isq f:=by unfold Go.Ae.kn;rw[R.ff,Int.natAbs_natCast]
theorem d23 {m d f:Nat} (hz:checkV s=0) (h0:0≤valS s) (R:Rb (valS s) m d f) {lo hi:Rat} (H1:sqB (valS s)=true→lo=rt (valS s)∧hi=rt (valS s)) (H2:sqB (valS s)=false→lo=klo (valS s)∧hi=khi (valS s)):
  Gv EI 23 [.str s] h (spn (txtR lo) (txtR hi)):=by
 obtain⟨t1,o1⟩:=txtR_valS hz
 have br:=ok_Br o1
 have hl:s.length≤1000000:=by rw[t1];exact txt_len br (by decide)
 have e1:numS s=TN m:=by rw[t1,num_txt,R.num];unfold TN;rw[txtR_int]
 have e2:denS s=TN d:=by rw[t1,den_txt,R.den];unfold TN;rw[txtR_int,txtZ_nat]
 have lm':=R.lm.nat (isq_le m)
 have ld':=R.ld.nat (isq_le d)
 have lf':=R.lf.nat (isq_le f)
 have c128':∀{h:Hp} {K:AV→Hp→Prop},CallWp EI 128 [.str s] h K↔K (.str (TN m)) h:=fun{h K}=>by rw[←e1];exact yu3 fun K=>c128 (by omega)
 have c129':∀{h:Hp} {K:AV→Hp→Prop},CallWp EI 129 [.str s] h K↔K (.str (TN d)) h:=fun{h K}=>by rw[←e2];exact yu3 fun K=>c129 (by omega)
 have r1:=fun h=>d127 (h:=h) (R.lm.mono (by decide:67≤200))
 have r2:=fun h=>d127 (h:=h) (R.ld.mono (by decide:67≤200))
 have r3:=fun h=>n76 (h:=h) (lm'.mono (by decide:67≤900)) (ld'.mono (by decide:67≤900)) (by have:=isq_pos R.dp;omega)
 have ert:Rat.divInt (isq m:Nat) (isq d:Nat)=rt (valS s):=by unfold rt;rw[R.num,R.den,Int.natAbs_natCast]
 rw[ert]at r3
 have brt:Br 67 (rt (valS s)):=by rw[←ert];exact Br.of (by have:=isq_pos R.dp;omega) lm' ld'
 have r4:=fun h=>y3 (d74 (h:=h) (brt.mono (by decide:67≤2000)) (brt.mono (by decide:67≤2000)))
 have sq:=rt_sq (a:=valS s) (by rw[R.num];omega)
 refine Gv.of (CallWp.fn (fn:=Hb.a23) rfl rfl rfl ?_)
 unfold Hb.a23
 by_cases c:sqB (valS s)=true
 ·obtain⟨rfl,rfl⟩:=H1 c
  have eq:txtR (rt (valS s)*rt (valS s))=s:=by rw[sq.2 c,←t1]
  rw[eq]at r4
  repeat' (with_reducible first|simp(disch:=first|exact okD|fail) only[go_sem,seval,c128',c129']|(refine Gv.wp (r1 _) fun _ _ _ _=>?_)|(refine Gv.wp (r2 _) fun _ _ _ _=>?_)|(refine Gv.wp (r3 _) fun _ _ _ _=>?_)|(refine Gv.wp (r4 _) fun _ _ _ _=>?_)|(apply Spl.i<;>intro hc))
  exact okG
 ·have c':sqB (valS s)=false:=by simpa using c
  obtain⟨rfl,rfl⟩:=H2 c'
  have ne:¬txtR (rt (valS s)*rt (valS s))=s:=fun e=>c (sq.1 (txtR_inj (e.trans t1)))
  have b6:Br 1 (((1000000:Int)):Rat):=by unfold Br Lr;decide
  have r5:=fun h=>y3 (d74 (h:=h) (br.mono (by decide:67≤2000)) (b6.mono (by decide:1≤2000)))
  have em:txtR (((1000000:Int)):Rat)=[49,48,48,48,48,48,48]:=TNm
  rw[em,←t1]at r5
  have bm:=(br.mul b6).mono (by decide:_≤9000)
  have r6:=fun h=>y3 (d100 (h:=h) bm.1 bm.2)
  rw[R.ff,←txtR_int]at r6
  have r7:=fun h=>d127 (h:=h) (R.lf.mono (by decide:70≤200))
  have l1000:Lr 1 ((1000:Nat):Int):=by unfold Lr;decide
  have l1:Lr 1 ((1:Nat):Int):=by unfold Lr;decide
  have r8:=fun h=>n76 (h:=h) (lf'.mono (by decide:70≤900)) (l1000.mono (by decide:1≤900)) (by decide)
  have r9:=fun h=>n72 (h:=h) (lf'.mono (by decide:70≤900)) (l1.mono (by decide:1≤900))
  have lf1:Lr 71 ((isq f+1:Nat):Int):=by rw[Int.natCast_add];exact lf'.add (l1.mono (by decide))
  have r10:=fun h=>n76 (h:=h) (lf1.mono (by decide:71≤900)) (l1000.mono (by decide:1≤900)) (by decide)
  rw[TNk]at r8 r10
  rw[TN1]at r9
  have ek:kn (valS s)=isq f:=R.kn
  have g1:Rat.divInt ((isq f:Nat):Int) ((1000:Nat):Int)=klo (valS s):=by unfold klo;rw[ek];rfl
  have g2:Rat.divInt ((isq f+1:Nat):Int) ((1000:Nat):Int)=khi (valS s):=by unfold khi;rw[ek];rfl
  rw[g1]at r8
  rw[g2]at r10
  have r6':∀h,Gv EI 100 [.str (txtR (valS s*((1000000:Int):Rat)))] h (.str (TN f)):=r6
  generalize klo (valS s)=lo at *
  generalize khi (valS s)=hi at *
  generalize txtR (valS s*((1000000:Int):Rat))=X at *
  repeat' (with_reducible first|simp(disch:=first|exact okD|fail) only[go_sem,seval,c128',c129',ne]|(refine Gv.wp (r1 _) fun _ _ _ _=>?_)|(refine Gv.wp (r2 _) fun _ _ _ _=>?_)|(refine Gv.wp (r3 _) fun _ _ _ _=>?_)|(refine Gv.wp (r4 _) fun _ _ _ _=>?_)|(refine Gv.wp (r5 _) fun _ _ _ _=>?_)|(refine Gv.wp (r6' _) fun _ _ _ _=>?_)|(refine Gv.wp (r7 _) fun _ _ _ _=>?_)|(refine Gv.wp (r8 _) fun _ _ _ _=>?_)|(refine Gv.wp (r9 _) fun _ _ _ _=>?_)|(refine Gv.wp (r10 _) fun _ _ _ _=>?_)|(apply Spl.i<;>intro hc))
  exact okG
theorem law3:Gv EI 3 [.str s] h (.bool true):=by
 refine Gv.of (CallWp.fn (fn:=Hb.a3) rfl rfl rfl ?_)
 have d17:∀{h:Hp} {K:AV→Hp→Prop},CallWp EI 17 [] h K↔K (.bool true) h:=fun{h K}=>yu2 fun K=>c17
 have d20':∀{b:Bool} {e:Int} {h:Hp} {K:AV→Hp→Prop},CallWp EI 20 [.bool b,.int .i64 e] h K↔K (.int .i64 (if b=true then e else 0)) h:=fun{b e h K}=>yu3 fun K=>d20t
 by_cases g1:s.length≤60
 ·have g1':¬(60:Int)<s.length:=by omega
  have hs:s.length≤1000000:=by omega
  unfold Hb.a3
  by_cases c1:checkV s=0
  ·obtain ⟨t1,o1⟩:=txtR_valS c1
   have d21':∀{h:Hp} {K:AV→Hp→Prop},CallWp EI 21 [.str s] h K↔K (.int .i64 (sgR (valS s))) h:=fun{h K}=>by
    have:sgnS s=sgR (valS s):=by
     rw[show sgnS s=sgnS (txtR (valS s)) from by rw[←t1],sgn_txtR];rfl
    rw[←this];exact yu3 fun K=>u21 (by omega)
   by_cases c2:0≤valS s
   ·have sg:¬sgR (valS s)<0:=by
     have:=sgR_ge0.2 c2;omega
    obtain⟨m,d,f,R⟩:=Rb.of o1 c2
    obtain⟨lo,hi,H1,H2,bl,bh⟩:∃lo hi:Rat,(sqB (valS s)=true→lo=rt (valS s)∧hi=rt (valS s))∧(sqB (valS s)=false→lo=klo (valS s)∧hi=khi (valS s))∧Br 2000 lo∧Br 2000 hi:=by
     by_cases c3:sqB (valS s)=true
     ·have brt:Br 67 (rt (valS s)):=by
       obtain⟨r1,r2⟩:=rt_parts c3
       obtain⟨b1,b2⟩:=ok_Br o1
       refine⟨?_,?_⟩
       ·rw[r1];exact b1.le (by rw[Int.natAbs_natCast];exact isq_le _)
       ·rw[r2];exact b2.nat (isq_le _)
      exact⟨_,_,fun _=>⟨rfl,rfl⟩,fun e=>absurd c3 (by rw[e];decide),brt.mono (by decide),brt.mono (by decide)⟩
     ·have l1000:Lr 1 (1000:Int):=by unfold Lr;decide
      have l1:Lr 1 ((1:Nat):Int):=by unfold Lr;decide
      have lf':=R.lf.nat (isq_le f)
      have lf1:Lr 71 ((isq f+1:Nat):Int):=by rw[Int.natCast_add];exact lf'.add (l1.mono (by decide))
      refine⟨_,_,fun e=>absurd e c3,fun _=>⟨rfl,rfl⟩,?_,?_⟩
      ·unfold klo;rw[R.kn];exact(Br.of (by decide) (lf'.mono (by decide:70≤71)) (l1000.mono (by decide))).mono (by decide)
      ·unfold khi;rw[R.kn];exact(Br.of (by decide) lf1 (l1000.mono (by decide))).mono (by decide)
    have r1:=fun h=>y0 (f0 (x18 (h:=h) hs c1 c2 H1 H2))
    have r2:=fun h=>d23 (h:=h) c1 c2 R H1 H2
    have r3:=fun h=>y0 (d22_res (h:=h) bl bh)
    repeat' (with_reducible first|simp(disch:=first|exact okD|fail) only[go_sem,seval,d17,g1',c1,d20',d21',sg]|(refine Gv.wp (r1 _) fun _ _ _ _=>?_)|(refine Gv.wp (y3 (d19 hs)) fun _ _ _ _=>?_)|(refine Gv.wp (r2 _) fun _ _ _ _=>?_)|(refine Gv.wp (r3 _) fun _ _ _ _=>?_)|(apply Spl.i<;>intro hc))
    all_goals exact okG
   ·have hn:=Rat.not_le.1 c2
    have sg:sgR (valS s)<0:=by
     rcases Int.lt_or_le (sgR (valS s)) 0 with l|l
     ·exact l
     ·exact absurd (sgR_ge0.1 l) c2
    have r1:=fun h=>y0 (f0 (x18_neg (h:=h) hs c1 hn))
    have r3:=fun h=>y0 (d22_bad (h:=h) (e:=3) (s:=[]) (u:=[]) (by decide) (by simp) (by simp))
    repeat' (with_reducible first|simp(disch:=first|exact okD|fail) only[go_sem,seval,d17,g1',c1,d20',d21',sg]|(refine Gv.wp (r1 _) fun _ _ _ _=>?_)|(refine Gv.wp (y3 (d19 hs)) fun _ _ _ _=>?_)|(refine Gv.wp (r3 _) fun _ _ _ _=>?_)|(apply Spl.i<;>intro hc))
    all_goals exact okG
  ·have r1:=fun h=>y0 (f0 (x18_bad (h:=h) hs c1))
   have r3:=fun h=>y0 (d22_bad (h:=h) (e:=checkV s) (s:=[]) (u:=[]) c1 (by simp) (by simp))
   repeat' (with_reducible first|simp(disch:=first|exact okD|fail) only[go_sem,seval,d17,g1',c1]|(refine Gv.wp (r1 _) fun _ _ _ _=>?_)|(refine Gv.wp (y3 (d19 hs)) fun _ _ _ _=>?_)|(refine Gv.wp (r3 _) fun _ _ _ _=>?_)|(apply Spl.i<;>intro hc))
   all_goals exact okG
 ·have g1':(60:Int)<s.length:=by omega
  unfold Hb.a3
  repeat' (with_reducible first|simp(disch:=first|exact okD|fail) only[go_sem,seval,d17,g1']|(apply Spl.i<;>intro hc))
end
end
end Go.Ae
