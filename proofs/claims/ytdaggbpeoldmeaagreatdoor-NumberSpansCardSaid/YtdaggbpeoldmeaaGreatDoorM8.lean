/- The reference's check of a number's text. -/
import Derived.Test.YtdaggbpeoldmeaaGreatDoorM7
import Derived.Test.YtdaggbpeoldmeaaGreatDoorM6
set_option linter.unusedVariables false
set_option linter.unusedSimpArgs false
set_option maxRecDepth 100000
set_option exponentiation.threshold 1000
set_option maxHeartbeats 2000000
namespace Go.Ae
open Bg N Go.Proofs
noncomputable section
section
variable {h h' hp:Hp} {K:AV→Hp→Prop} {tm:T AV} {r a b:Rat}
theorem u151 {s:List UInt8} (hs:s.length≤1000000):CallWp E3 151 [.str s] h K↔K (.bool (allDig s)) h:=up ge3 fun K=>c151 hs
theorem isDec_of {s:List UInt8} (h0:s≠[]) (h1:s.length=1∨s.headD 0≠48):isDec s=allDig s:=by
 cases ha:allDig s with
 | true=>
  refine isDec_mk h0 ha ?_
  rcases h1 with h1|h1
  ·match s,h1 with
   | [c],_=>
    by_cases hc:c=48
    ·exact .inr (by rw[hc])
    ·exact .inl (by simpa using hc)
  ·exact .inl h1
 |false=>unfold isDec;rw[ha];simp
theorem isDec_no {s:List UInt8} (h1:1<s.length) (h2:s.headD 0=48):isDec s=false:=by
 cases hd:isDec s with
 |false=>rfl
 | true=>
  rcases(isDec_cases hd).2.2 with e|e
  ·exact absurd h2 e
  ·rw[e]at h1;exact absurd h1 (by decide)
theorem u123 {s:List UInt8} (hs:s.length≤1000000):CallWp E3 123 [.str s] h K↔K (.bool (isDec s)) h:=by
 refine CallWp.iff_of (CallWp.fn (fn:=R.a123) rfl rfl rfl ?_)
 unfold R.a123
 have cd:=fun{h:Hp} {K:AV→Hp→Prop}=>u151 (h:=h) (K:=K) hs
 by_cases h0:s=[]
 ·subst h0
  have e0:isDec []=false:=by decide
  rw[e0]
  repeat' (with_reducible first|simp(disch:=first|exact okD|fail) only[go_sem,seval,List.length_nil]|(apply Spl.i<;>intro hc))
 ·have hl:0<s.length:=List.length_pos_iff.2 h0
  have hl0:¬(s.length:Int)=0:=by omega
  have eh:s.getD 0 0=s.headD 0:=by cases s<;>rfl
  by_cases h1:1<s.length
  ·have h1':(1:Int)<s.length:=by omega
   have hl':(0:Int)<s.length:=by omega
   have e1:((s.getD 0 0).toNat:Int)=48↔s.getD 0 0=48:=u8_int (n:=48) (by decide)
   by_cases h2:s.getD 0 0=48
   ·have h2':=e1.2 h2
    rw[isDec_no h1 (by rw[←eh];exact h2)]
    repeat' (with_reducible first|simp(disch:=first|exact okD|fail) only[go_sem,seval,hl0,h1',hl',h2']|(apply Spl.i<;>intro hc))
   ·have h2':=fun e=>h2 (e1.1 e)
    rw[isDec_of h0 (.inr (by rw[←eh];exact h2))]
    repeat' (with_reducible first|simp(disch:=first|exact okD|fail) only[go_sem,seval,hl0,h1',hl',h2',cd]|(apply Spl.i<;>intro hc))
  ·have h1':¬(1:Int)<s.length:=by omega
   rw[isDec_of h0 (.inl (by omega))]
   repeat' (with_reducible first|simp(disch:=first|exact okD|fail) only[go_sem,seval,hl0,h1',cd]|(apply Spl.i<;>intro hc))
theorem d124g {x y:Int} (l1:Lr 9000 x) (l2:Lr 9000 y):Gp E3 124 [.str (txtZ x++47::txtZ y)] h fun v h'=>∃va vb,v= .tup [va,vb]∧IsR h' va x∧IsR h' vb y:=by
 refine Gp.of (CallWp.fn (fn:=R.a124) rfl rfl rfl ?_)
 unfold R.a124
 have t1:=txtZ_len l1
 have t2:=txtZ_len l2
 have hsl:slashV (txtZ x++47::txtZ y)=(txtZ x).length:=by
  refine slash_at (by simp) (fun j hj e=>?_) ?_
  ·refine txtZ_no x (getD_mem (i:=j) hj ?_)
   rw[←e]
   simp only[List.getD]
   rw[List.getElem?_append_left hj]
  ·simp[List.getD]
 have hlen:(txtZ x++47::txtZ y).length=(txtZ x).length+((txtZ y).length+1):=by simp
 have cs:=fun{h:Hp} {K:AV→Hp→Prop}=>c122 (h:=h) (K:=K) (s:=txtZ x++47::txtZ y) (by omega)
 have hne:¬((txtZ x).length:Int)=((txtZ x).length+((txtZ y).length+1):Nat):=by omega
 have k1:List.take (txtZ x).length (txtZ x++47::txtZ y)=txtZ x:=List.take_left
 have e1:(((txtZ x).length:Int)+1).toNat=(txtZ x).length+1:=by omega
 have k2:List.drop ((txtZ x).length+1) (txtZ x++47::txtZ y)=txtZ y:=by
  rw[←List.drop_drop,List.drop_left];rfl
 repeat' (with_reducible first|simp(disch:=first|exact okD|fail) only[go_sem,seval,cs,hsl,hne,k1,e1,k2]|(apply Spl.i<;>intro hc))
 refine Gp.wp (d207z l1 (by decide)) fun v5 k5 a5 b5 u5 I5=>?_
 obtain⟨w5,rfl,p5,I5⟩:=I5.ex
 repeat' (with_reducible first|simp(disch:=first|exact okD|fail) only[go_sem,seval,p5,k1,e1,k2]|(apply Spl.i<;>intro hc))
 refine Gp.wp (d207z l2 (by decide)) fun v6 k6 a6 b6 u6 I6=>?_
 obtain⟨w6,rfl,p6,I6⟩:=I6.ex
 have I5':=I5.grs (⟨_,_,u6⟩:Grs _ ((((h.push fun st=> .row [.bool false,.nils] true st).push fun st=> .row [.bool false,.nils] true st).ov k5 u5).ov k6 u6))
 repeat' (with_reducible first|simp(disch:=first|exact okD|fail) only[go_sem,seval,p5,p6]|(apply Spl.i<;>intro hc))
 refine⟨⟨_,_,rfl,?_,?_⟩,?_⟩
 ·exact(I5'.putB (by simp(disch:=first|exact okD|fail) only[go_sem,seval,isCellB_row])).putB (by simp(disch:=first|exact okD|fail) only[go_sem,seval,isCellB_row])
 ·exact(I6.putB (by simp(disch:=first|exact okD|fail) only[go_sem,seval,isCellB_row])).putB (by simp(disch:=first|exact okD|fail) only[go_sem,seval,isCellB_row])
 ·exact okG
theorem Lr_dec {l:List UInt8} (hd:isDec l=true) (hl:l.length≤600):Lr 67 (decV l:Nat):=by
 unfold Lr
 rw[Int.natAbs_natCast]
 have h1:=decV_lt (isDec_cases hd).2.1
 have h2:(10:Nat)^l.length≤10^603:=Nat.pow_le_pow_right (by decide) (by omega)
 have h3:(10:Nat)^603=1000000000^67:=by rw[show(1000000000:Nat)=10^9 from rfl,←Nat.pow_mul]
 omega
theorem num_len (s:List UInt8):(numU s).length=slashV (unS s):=by
 have:=slash_le (unS s)
 unfold numU;rw[List.length_take];omega
theorem den_len (s:List UInt8):(denU s).length=(unS s).length-(slashV (unS s)+1):=by
 unfold denU;rw[List.length_drop]
theorem chk_rest {N D t:List UInt8} {k:Nat} {bk:Bool} (h3:val tm (.t 3)= .str t) (h4:val tm (.t 4)= .int .i64 k) (hl:t.length≤1000000) (hk:k≤t.length) (nl:N.length=k) (dl:D.length=t.length-(k+1))
  (k2:List.drop (k+1) t=D) (ebrk:bk=decide (k<t.length)) (hsp:bk=true→t=N++47::D) (hdn:isDec N=true):
  Wp E3 (ACode.post 2 (ACode.post 3 R.a19.code)) ⟨tm,h⟩ (RetQ [.tmp 2] fun v h'=>(v= .int .i64 (if(true&&true&&(!bk||(isDec D&&decide (D≠[48])&&decide (D≠[49]))))=false then 1 else if 600<N.length∨600<D.length then 4 else if bk=true∧Nat.gcd (decV N) (decV D)≠1 then 1 else 0))∧Grs h h'):=by
 have e1:((k:Int)+1).toNat=k+1:=by omega
 have cd:=fun{h:Hp} {K:AV→Hp→Prop}=>u123 (h:=h) (K:=K) (s:=D) (by omega)
 subst ebrk
 unfold R.a19
 dsimp only[ACode.post]
 by_cases hb:k<t.length
 ·have hb' : (k :Int)<t.length:=by omega
  have hb1:(k:Int)+1≤t.length:=by omega
  rw[decide_eq_true hb]
  cases hdd:isDec D with
  | false=>
   rw[hdd]at cd
   repeat' (with_reducible first|simp(disch:=first|exact okD|fail) only[go_sem,seval,h3,h4,hb',hb1,e1,k2,cd]|(apply Spl.i<;>intro hc))
   simp
  | true=>
   rw[hdd]at cd
   by_cases g0:D=[48]
   ·rw[g0]at cd
    repeat' (with_reducible first|simp(disch:=first|exact okD|fail) only[go_sem,seval,h3,h4,hb',hb1,e1,k2,cd,g0]|(apply Spl.i<;>intro hc))
    simp
   ·by_cases g1:D=[49]
    ·have g1':¬([49]:List UInt8)=[48]:=by decide
     rw[g1]at g0 cd
     repeat' (with_reducible first|simp(disch:=first|exact okD|fail) only[go_sem,seval,h3,h4,hb',hb1,e1,k2,cd,g1,g0]|(apply Spl.i<;>intro hc))
     simp
    ·have ef :(true&&true&&(!true||(true&&decide (D≠[48])&&decide (D≠[49]))))=true:=by simp[g0,g1]
     rw[ef,if_neg (by decide)]
     by_cases hL:600<N.length∨600<D.length
     ·rw[if_pos hL]
      by_cases hLn:600<k
      ·have hLn':(600:Int)<k:=by omega
       repeat' (with_reducible first|simp(disch:=first|exact okD|fail) only[go_sem,seval,h3,h4,hb',hb1,e1,k2,cd,g0,g1,hLn']|(apply Spl.i<;>intro hc))
      ·have hLn':¬(600:Int)<k:=by omega
       have hLd':(600:Int)<(t.length:Int)-k-1:=by omega
       repeat' (with_reducible first|simp(disch:=first|exact okD|fail) only[go_sem,seval,h3,h4,hb',hb1,e1,k2,cd,g0,g1,hLn',hLd']|(apply Spl.i<;>intro hc))
     ·rw [if_neg hL]
      have hLn':¬(600:Int)<k:=by omega
      have hLd':¬(600:Int)<(t.length:Int)-k-1:=by omega
      have lN:=Lr_dec hdn (by omega)
      have lD:=Lr_dec hdd (by omega)
      have et:t=txtZ (decV N:Nat)++47::txtZ (decV D:Nat):=by
       rw[txtZ_nat,txtZ_nat,isDec_eq hdn,isDec_eq hdd]
       exact hsp (decide_eq_true hb)
      have cp:=fun h=>d124g (h:=h) (lN.mono (by decide:67≤9000)) (lD.mono (by decide:67≤9000))
      rw[←et]at cp
      repeat' (with_reducible first|simp(disch:=first|exact okD|fail) only[go_sem,seval,h3,h4,hb',hb1,e1,k2,cd,g0,g1,hLn',hLd']|(apply Spl.i<;>intro hc))
      refine Gp.wp (cp _) fun v5 k5 a5 b5 u5 ⟨va,vb,e5,I5,I6⟩=>?_
      subst e5
      obtain⟨w5,rfl,p5,I5⟩:=I5.ex
      obtain⟨w6,rfl,p6,I6⟩:=I6.ex
      obtain⟨l1,S1,D1,N1,V1⟩:=I5.un
      obtain⟨l2,S2,D2,N2,V2⟩:=I6.un
      have m1:=lN.len N1 V1
      have m2:=lD.len N2 V2
      repeat' (with_reducible first|simp(disch:=first|exact okD|fail) only[go_sem,seval,p5,p6]|(apply Spl.i<;>intro hc))
      refine Gp.wp (d125 (S1.grs okG) (S2.grs okG) D1 D2 N1 N2 (by omega) (by omega)) fun v7 k7 a7 b7 u7 ⟨l7,S7,D7,N7,V7⟩=>?_
      rw[V1,V2,Int.natAbs_natCast,Int.natAbs_natCast]at V7
      have r7:=S7.rd
      have ln7:=r7.len
      have ad7:=r7.adr
      have e00:(0:Int).toNat=0:=rfl
      by_cases hg:Nat.gcd (decV N) (decV D)=1
      ·have e7:l7=[1]:=norm_inj (B:=1000000000) (by decide) D7 (Dg.cons (by decide) Dg.nil) N7 (by simp[Norm]) (by rw[V7,hg];simp[vl])
       subst e7
       have ld7:=r7.load 0 (by simp)
       simp only[List.getD_cons_zero,Nat.add_zero]at ld7
       have e1':((1:Nat):Int)=1:=rfl
       simp only[List.length_cons,List.length_nil,Nat.zero_add]at ln7
       rw[e1']at ln7 ld7
       repeat' (with_reducible first|simp(disch:=first|exact okD|fail) only[go_sem,seval,ln7,ad7,e00,ld7,e1']|(apply Spl.i<;>intro hc))
       refine⟨by simp[hg],?_⟩
       exact okG
      ·by_cases hl7:l7.length=1
       ·obtain⟨d,rfl⟩:∃d,l7=[d]:=by
         match l7,hl7 with
         |[d],_=>exact⟨d,rfl⟩
        have ed:vl 1000000000 [d]=d:=by simp[vl]
        rw[ed]at V7
        have ld7:=r7.load 0 (by simp)
        simp only[List.getD_cons_zero,Nat.add_zero]at ld7
        have e1':((1:Nat):Int)=1:=rfl
        simp only[List.length_cons,List.length_nil,Nat.zero_add]at ln7
        rw[e1']at ln7
        have hd1:¬(d:Int)=1:=by omega
        repeat' (with_reducible first|simp(disch:=first|exact okD|fail) only[go_sem,seval,ln7,ad7,e00,ld7,hd1]|(apply Spl.i<;>intro hc))
        refine⟨by simp[hg],?_⟩
        exact okG
       ·have hl7':¬(l7.length:Int)=1:=by omega
        repeat' (with_reducible first|simp(disch:=first|exact okD|fail) only[go_sem,seval,ln7,hl7']|(apply Spl.i<;>intro hc))
        refine⟨by simp[hg],?_⟩
        exact okG
 ·have hb':¬(k:Int)<t.length:=by omega
  have hkt:k=t.length:=by omega
  rw[decide_eq_false hb]
  have ef:(true&&true&&(!false||(isDec D&&decide (D≠[48])&&decide (D≠[49]))))=true:=by simp
  rw[ef,if_neg (by decide)]
  by_cases hL:600<N.length∨600<D.length
  ·rw[if_pos hL]
   have hLn':(600:Int)<k:=by omega
   repeat' (with_reducible first|simp(disch:=first|exact okD|fail) only[go_sem,seval,h3,h4,hb',hLn']|(apply Spl.i<;>intro hc))
  ·rw[if_neg hL]
   have hLn':¬(600:Int)<k:=by omega
   have hLd':¬(600:Int)<(t.length:Int)-k-1:=by omega
   repeat' (with_reducible first|simp(disch:=first|exact okD|fail) only[go_sem,seval,h3,h4,hb',hLn',hLd']|(apply Spl.i<;>intro hc))
   simp
theorem chk_tail {s:List UInt8} (h0:val tm (.t 0)= .str s) (h3:val tm (.t 3)= .str (unS s)) (hl:(unS s).length≤1000000):
  Wp E3 (R.a19.code.post 3) ⟨tm,h⟩ (RetQ [.tmp 2] fun v h'=>v= .int .i64 (checkV s)∧Grs h h'):=by
 have hk:=slash_le (unS s)
 have nl:=num_len s
 have dl:=den_len s
 have cs:=fun{h:Hp} {K:AV→Hp→Prop}=>c122 (h:=h) (K:=K) (s:=unS s) (by omega)
 have cn:=fun{h:Hp} {K:AV→Hp→Prop}=>u123 (h:=h) (K:=K) (s:=numU s) (by omega)
 have cd:=fun{h:Hp} {K:AV→Hp→Prop}=>u123 (h:=h) (K:=K) (s:=denU s) (by omega)
 have e1:((slashV (unS s):Int)+1).toNat=slashV (unS s)+1:=by omega
 have k1:List.take (slashV (unS s)) (unS s)=numU s:=rfl
 have k2:List.drop (slashV (unS s)+1) (unS s)=denU s:=rfl
 have hkk:(slashV (unS s):Int)≤(unS s).length:=by omega
 have hsp:brk s=true→unS s=numU s++47::denU s:=fun c=>slash_split (by unfold brk at c;exact of_decide_eq_true c)
 have ebrk:brk s=decide (slashV (unS s)<(unS s).length):=rfl
 obtain⟨k,hkd⟩:∃k,k=slashV (unS s):=⟨_,rfl⟩
 obtain⟨t,ht⟩:∃t,t=unS s:=⟨_,rfl⟩
 obtain⟨N,hN⟩:∃N,N=numU s:=⟨_,rfl⟩
 obtain⟨D,hD⟩:∃D,D=denU s:=⟨_,rfl⟩
 have ecv:checkV s=if formS s=false then 1 else if 600<N.length∨600<D.length then 4 else if brk s=true∧Nat.gcd (decV N) (decV D)≠1 then 1 else 0:=by rw[hN,hD];rfl
 have efm:formS s=(isDec N&&(!(decide (s.head?=some 45))||decide (N≠[48]))&&(!(brk s)||(isDec D&&decide (D≠[48])&&decide (D≠[49])))):=by rw[hN,hD];rfl
 rw[←hkd]at cs e1 k1 k2 hkk nl dl hk ebrk
 rw[←ht]at cs k1 k2 hkk dl hk h3 hsp ebrk hl
 rw[←hN]at k1 cn nl hsp
 rw[←hD]at k2 cd dl hsp
 have rest:=fun tm h3 h4 hdn=>chk_rest (h:=h) (tm:=tm) (N:=N) (D:=D) (t:=t) (k:=k) (bk:=brk s) h3 h4 hl hk nl dl k2 ebrk hsp hdn
 refine Wp.cut 2 rfl ?_
 generalize ACode.post 2 (ACode.post 3 R.a19.code)=rc at rest⊢
 unfold R.a19
 dsimp only[ACode.post,ACode.pre]
 rw[ecv,efm]
 cases hdn:isDec N with
 | false=>
  rw[hdn]at cn
  repeat' (with_reducible first|simp(disch:=first|exact okD|fail) only[go_sem,seval,h0,h3,cs,cn,k1,hkk]|(apply Spl.i<;>intro hc))
  simp
 | true=>
  rw[hdn]at cn
  have hN0:=(isDec_cases hdn).1
  have hNl:0<N.length:=List.length_pos_iff.2 hN0
  have hs0:s≠[]:=by
   rintro rfl
   have:t=[]:=by rw[ht];rfl
   rw[this]at hk
   simp at hk;omega
  have hsl:(0:Int)<s.length:=by have:=List.length_pos_iff.2 hs0;omega
  have e45:((s.getD 0 0).toNat:Int)=45↔s.head?=some 45:=by
   refine(u8_int (b:=s.getD 0 0) (n:=45) (by decide)).trans ?_
   match s,hs0 with
   | c::l,_=>
    show c=45↔some c=some 45
    simp
  have first:(s.head?=some 45∧N=[48])∨¬(s.head?=some 45∧N=[48]):=Classical.em _
  rcases first with⟨f1,f2⟩|f
  ·have f1':=e45.2 f1
   rw[f2]at cn
   repeat' (with_reducible first|simp(disch:=first|exact okD|fail) only[go_sem,seval,h0,h3,cs,cn,k1,hkk,hsl,f1',f2]|(apply Spl.i<;>intro hc))
   simp[f1,f2]
  ·have en:(!(decide (s.head?=some 45))||decide (N≠[48]))=true:=by
    by_cases f1:s.head?=some 45
    ·have:N≠[48]:=fun e=>f ⟨f1,e⟩
     simp[this]
    ·simp[f1]
   rw[en]
   by_cases f1:s.head?=some 45
   ·have f1':=e45.2 f1
    have f2:¬N=[48]:=fun e=>f ⟨f1,e⟩
    repeat' (with_reducible first|simp(disch:=first|exact okD|fail) only[go_sem,seval,h0,h3,cs,cn,k1,hkk,hsl,f1',f2]|(apply Spl.i<;>intro hc))
    exact rest _ (by simp(disch:=first|exact okD|fail) only[go_sem,seval,h3]) (by simp(disch:=first|exact okD|fail) only[go_sem,seval]) hdn
   ·have f1':=fun e=>f1 (e45.1 e)
    repeat' (with_reducible first|simp(disch:=first|exact okD|fail) only[go_sem,seval,h0,h3,cs,cn,k1,hkk,hsl,f1']|(apply Spl.i<;>intro hc))
    exact rest _ (by simp(disch:=first|exact okD|fail) only[go_sem,seval,h3]) (by simp(disch:=first|exact okD|fail) only[go_sem,seval]) hdn
theorem d19 {s:List UInt8} (hl:s.length≤1000000):Gv E3 19 [.str s] h (.int .i64 (checkV s)):=by
 have hu:(unS s).length≤1000000:=by
  unfold unS;split
  ·rw[List.length_drop];omega
  ·exact hl
 refine Gv.of (CallWp.fn (fn:=R.a19) rfl rfl rfl ?_)
 have tail:=fun tm h0 h3=>chk_tail (h:=h) (tm:=tm) (s:=s) h0 h3 hu
 refine Wp.cut 3 rfl ?_
 generalize ACode.post 3 R.a19.code=rc at tail⊢
 unfold R.a19
 dsimp only[ACode.pre]
 cases s with
 | nil=>
  repeat' (with_reducible first|simp(disch:=first|exact okD|fail) only[go_sem,seval,List.length_nil]|(apply Spl.i<;>intro hc))
  exact tail _ (by simp(disch:=first|exact okD|fail) only[go_sem,seval]) (by(simp(disch:=first|exact okD|fail) only[go_sem,seval])<;>rfl)
 | cons c l=>
  have hsl:(0:Int)<((c::l:List UInt8).length:Int):=by simp
  have hsl1:(1:Int)≤((c::l:List UInt8).length:Int):=by rw[List.length_cons];omega
  have e45:(((c::l).getD 0 0).toNat:Int)=45↔c=45:=u8_int (n:=45) (by decide)
  by_cases f1:c=45
  ·have f1':=e45.2 f1
   have eu:unS (c::l)=(c::l).drop 1:=by unfold unS;rw[if_pos (by simpa using f1)]
   repeat' (with_reducible first|simp(disch:=first|exact okD|fail) only[go_sem,seval,hsl,hsl1,f1']|(apply Spl.i<;>intro hc))
   exact tail _ (by simp(disch:=first|exact okD|fail) only[go_sem,seval]) (by(simp(disch:=first|exact okD|fail) only[go_sem,seval])<;>rw[eu]<;>rfl)
  ·have f1':=fun e=>f1 (e45.1 e)
   have eu:unS (c::l)=c::l:=by unfold unS;rw[if_neg (by simpa using f1)]
   repeat' (with_reducible first|simp(disch:=first|exact okD|fail) only[go_sem,seval,hsl,hsl1,f1']|(apply Spl.i<;>intro hc))
   exact tail _ (by simp(disch:=first|exact okD|fail) only[go_sem,seval]) (by(simp(disch:=first|exact okD|fail) only[go_sem,seval])<;>rw[eu])
end
end
end Go.Ae
set_option linter.unusedVariables false
set_option linter.unusedSimpArgs false
set_option maxRecDepth 100000
set_option exponentiation.threshold 1000
set_option maxHeartbeats 2000000
namespace Go.Ae
open Bg N Go.Proofs
noncomputable section
def valS (s:List UInt8):Rat:=Rat.divInt (sgn (decide (s.head?=some 45)) (decV (numU s))) ((if brk s=true then decV (denU s)else 1:Nat):Int)
theorem valS_txt (r:Rat):valS (txtR r)=r:=by
 unfold valS
 rw[numU_txt,denU_txt,brk_txt,decP_val]
 have e1:decide ((txtR r).head?=some 45)=decide (r.num<0):=decide_eq_decide.2 (txtR_head r)
 have e2:sgn (decide (r.num<0)) r.num.natAbs=r.num:=by
  unfold sgn
  by_cases c:r.num<0
  ·rw[decide_eq_true c,if_pos rfl];omega
  ·rw[decide_eq_false c,if_neg (by decide)];omega
 have e3:(if decide (r.den≠1)=true then decV (if r.den=1 then[]else decP r.den 1)else 1)=r.den:=by
  by_cases c:r.den=1
  ·simp[c]
  ·rw[if_pos (decide_eq_true c),if_neg c,decP_val]
 rw[e1,e2,e3,Rat.num_divInt_den]
theorem txtR_valS {s:List UInt8} (h:checkV s=0):s=txtR (valS s)∧okR (valS s)=true:=by
 obtain⟨r,rfl,hr⟩:=checkV_zero h
 rw[valS_txt];exact⟨rfl,hr⟩
theorem ok_Br {r:Rat} (h:okR r=true):Br 67 r:=by
 unfold okR at h
 obtain⟨h1,h2⟩:=of_decide_eq_true h
 have h3:(10:Nat)^600≤10^603:=Nat.pow_le_pow_right (by decide) (by decide)
 have h4:(10:Nat)^603=1000000000^67:=by rw[show(1000000000:Nat)=10^9 from rfl,←Nat.pow_mul]
 unfold Br Lr
 rw[Int.natAbs_natCast]
 omega
theorem txtR_int (z:Int):txtR (z:Rat)=txtZ z:=by
 unfold txtR
 rw[Rat.den_intCast,if_pos rfl,Rat.num_intCast]
theorem txtR_zero:txtR 0=[48]:=by decide+kernel
theorem sgR_le {a b:Rat}:sgR (a-b)≤0↔a≤b:=by
 have h2:0≤(b-a).num↔0≤b-a:=Rat.num_nonneg
 have h3:(b-a).num= -(a-b).num:=by rw[show b-a= -(a-b) from(Rat.neg_sub a b).symm];rfl
 rw[Rat.le_iff_sub_nonneg,←h2,h3]
 unfold sgR
 by_cases c:(a-b).num<0
 ·rw[if_pos c];omega
 ·rw[if_neg c]
  by_cases d:(a-b).num=0
  ·rw[if_pos d];omega
  ·rw[if_neg d];omega
theorem sgR_neg (a:Rat):sgR (-a)= -sgR a:=by
 unfold sgR
 rw[show(-a).num= -a.num from rfl]
 by_cases c:a.num<0
 ·rw[if_pos c,if_neg (by omega),if_neg (by omega)];rfl
 ·rw[if_neg c]
  by_cases d:a.num=0
  ·rw[if_pos d,if_neg (by omega),if_pos (by omega)];rfl
  ·rw[if_neg d,if_pos (by omega)]
theorem sgR_ge {a b:Rat}:0≤sgR (a-b)↔b≤a:=by
 rw[←sgR_le (a:=b) (b:=a),show b-a= -(a-b) from(Rat.neg_sub a b).symm,sgR_neg];omega
theorem sgR_lt {a b:Rat}:sgR (a-b)<0↔a<b:=by
 rw[←Rat.not_le,←sgR_ge];omega
theorem sgR_gt {a b:Rat}:0<sgR (a-b)↔b<a:=by
 rw[←Rat.not_le,←sgR_le];omega
def chk2 (s u:List UInt8):Int:=if checkV s=0 then checkV u else checkV s
theorem chk2_zero {s u:List UInt8} (h:chk2 s u=0):checkV s=0∧checkV u=0:=by
 unfold chk2 at h
 by_cases c:checkV s=0
 ·rw[if_pos c]at h;exact⟨c,h⟩
 ·rw[if_neg c]at h;exact absurd h c
def spanV (s u:List UInt8):Int:=if chk2 s u=0 then(if 0<sgR (valS s-valS u)then 11 else 0)else chk2 s u
section
variable {h h' hp:Hp} {K:AV→Hp→Prop} {tm:T AV} {r a b c d:Rat}
theorem d56_2 {t:Nat} {s u:List UInt8} (hA:At h t [.str s,.str u]) (ht:t<h.next) (hs:s.length≤1000000) (hu:u.length≤1000000):Gv E3 56 [.sl t 0 2 1] h (.int .i64 (chk2 s u)):=by
 refine Gv.of (CallWp.fn (fn:=R.a56) rfl rfl rfl ?_)
 unfold R.a56 chk2
 obtain⟨st,hg⟩:=hA
 by_cases c1:checkV s=0
 ·rw[if_pos c1]
  have e1:=d19 (h:=h) hs
  rw[c1]at e1
  by_cases c2:checkV u=0
  ·rw[c2]
   repeat' (with_reducible first|simp(disch:=first|exact okD|fail) only[go_sem,seval,Wp.unroll,hg]|(refine Gv.wp (e1) fun _ _ _ _=>?_)|(apply Spl.i<;>intro hc))
   refine Gv.wp (d19 hu) fun h6 k6 j6 u6=>?_
   repeat' (with_reducible first|simp(disch:=first|exact okD|fail) only[go_sem,seval,Wp.unroll,hg,c2]|(apply Spl.i<;>intro hc))
   exact okG
  ·repeat' (with_reducible first|simp(disch:=first|exact okD|fail) only[go_sem,seval,Wp.unroll,hg]|(refine Gv.wp (e1) fun _ _ _ _=>?_)|(apply Spl.i<;>intro hc))
   refine Gv.wp (d19 hu) fun h6 k6 j6 u6=>?_
   repeat' (with_reducible first|simp(disch:=first|exact okD|fail) only[go_sem,seval,Wp.unroll,hg,c2]|(apply Spl.i<;>intro hc))
   exact okG
 ·rw[if_neg c1]
  repeat' (with_reducible first|simp(disch:=first|exact okD|fail) only[go_sem,seval,Wp.unroll,hg,c1]|(refine Gv.wp (d19 hs) fun _ _ _ _=>?_)|(apply Spl.i<;>intro hc))
  exact okG
theorem d59 {s u:List UInt8} (hs:s.length≤1000000) (hu:u.length≤1000000):Gv E3 59 [.agg [.str s,.str u]] h (.int .i64 (spanV s u)):=by
 refine Gv.of (CallWp.fn (fn:=R.a59) rfl rfl rfl ?_)
 unfold R.a59 spanV
 by_cases c1:chk2 s u=0
 ·obtain⟨z1,z2⟩:=chk2_zero c1
  obtain⟨t1,o1⟩:=txtR_valS z1
  obtain⟨t2,o2⟩:=txtR_valS z2
  have e3:=fun h=>d75 (h:=h) ((ok_Br o1).mono (by decide:67≤2000)) ((ok_Br o2).mono (by decide:67≤2000))
  rw[←t1,←t2]at e3
  rw[if_pos c1]
  by_cases c2:0<sgR (valS s-valS u)
  ·rw[if_pos c2]
   repeat' (with_reducible first|simp(disch:=first|exact okD|fail) only[go_sem,seval,c1,c2]|(refine Gv.wp (d56_2 (s:=s) (u:=u) okA okO hs hu) fun _ _ _ _=>?_)|(refine Gv.wp (e3 _) fun _ _ _ _=>?_)|(apply Spl.i<;>intro hc))
   exact okG
  ·rw[if_neg c2]
   repeat' (with_reducible first|simp(disch:=first|exact okD|fail) only[go_sem,seval,c1,c2]|(refine Gv.wp (d56_2 (s:=s) (u:=u) okA okO hs hu) fun _ _ _ _=>?_)|(refine Gv.wp (e3 _) fun _ _ _ _=>?_)|(apply Spl.i<;>intro hc))
   exact okG
 ·rw[if_neg c1]
  repeat' (with_reducible first|simp(disch:=first|exact okD|fail) only[go_sem,seval,c1]|(refine Gv.wp (d56_2 (s:=s) (u:=u) okA okO hs hu) fun _ _ _ _=>?_)|(apply Spl.i<;>intro hc))
  exact okG
theorem d68 (i:Br 2000 a) (j:Br 2000 b) (k:Br 2000 c):Gv E3 68 [.agg [.str (txtR a),.str (txtR b)],.str (txtR c)] h (.bool (decide (a≤c∧c≤b))):=by
 refine Gv.of (CallWp.fn (fn:=R.a68) rfl rfl rfl ?_)
 unfold R.a68
 have h1:=sgR_le (a:=a) (b:=c)
 have h2:=sgR_le (a:=c) (b:=b)
 by_cases c1:a≤c
 ·have c1':=h1.2 c1
  by_cases c2:c≤b
  ·have c2':=h2.2 c2
   rw[decide_eq_true ⟨c1,c2⟩]
   repeat' (with_reducible first|simp(disch:=first|exact okD|fail) only[go_sem,seval,c1',c2']|(refine Gv.wp (d75 i k) fun _ _ _ _=>?_)|(refine Gv.wp (d75 k j) fun _ _ _ _=>?_)|(apply Spl.i<;>intro hc))
   exact okG
  ·have c2':¬sgR (c-b)≤0:=fun e=>c2 (h2.1 e)
   rw[decide_eq_false (p:=a≤c∧c≤b) (fun e=>c2 e.2)]
   repeat' (with_reducible first|simp(disch:=first|exact okD|fail) only[go_sem,seval,c1',c2']|(refine Gv.wp (d75 i k) fun _ _ _ _=>?_)|(refine Gv.wp (d75 k j) fun _ _ _ _=>?_)|(apply Spl.i<;>intro hc))
   exact okG
 ·have c1':¬sgR (a-c)≤0:=fun e=>c1 (h1.1 e)
  rw[decide_eq_false (p:=a≤c∧c≤b) (fun e=>c1 e.1)]
  repeat' (with_reducible first|simp(disch:=first|exact okD|fail) only[go_sem,seval,c1']|(refine Gv.wp (d75 i k) fun _ _ _ _=>?_)|(apply Spl.i<;>intro hc))
  exact okG
end
end
end Go.Ae
set_option linter.unusedVariables false
set_option linter.unusedSimpArgs false
set_option maxRecDepth 100000
set_option maxHeartbeats 1000000
set_option exponentiation.threshold 5000
namespace Go.Ae
open Bg N Go.Proofs
noncomputable section
section
variable {h h' hp:Hp} {K:AV→Hp→Prop} {tm:T AV} {v va s w:AV} {z z':Int} {a:Rat}
theorem wd_inj {kd:IntKind}:∀{L M:List Nat},L.map (wd kd)=M.map (wd kd)→L=M
 |[],[],_=>rfl
 | x::L,y::M,e=>by
  simp only[List.map_cons,List.cons.injEq,wd,AV.int.injEq,true_and]at e
  rw[show x=y by omega,wd_inj e.2]
 |[],_::_,e=>by simp at e
 |_::_,[],e=>by simp at e
theorem Sq.uniq {t o n:Nat} {l l':List Nat} (S:Sq .u64 h (.sl t o n 1) l) (S':Sq .u64 h (.sl t o n 1) l'):l=l':=by
 rcases S with⟨e,_⟩|⟨t1,o1,own1,st1,L1,e1,g1,h1,h2,_⟩
 ·cases e
 ·rcases S' with⟨e,_⟩|⟨t2,o2,own2,st2,L2,e2,g2,h3,h4,_⟩
  ·cases e
  ·injection e1 with q1 q2 q3
   injection e2 with r1 r2 r3
   subst q1;subst q2;subst r1;subst r2
   rw[g1]at g2
   have e:=Option.some.inj g2
   injection e with e
   have:=wd_inj e
   subst this
   rw[←h2,←h4,←q3,←r3]
theorem IsI.uniq (i:IsI h s w z) (j:IsI h s w z'):z=z':=by
 rcases i with⟨rfl,rfl,_⟩|⟨n,t,o,l,rfl,S,_,_,_,_,c⟩
 ·rcases j with⟨e,_,_⟩|⟨_,_,_,_,e,_⟩
  ·injection e
  ·cases e
 ·rcases j with⟨_,e,_⟩|⟨n',t',o',l',e,S',_,_,_,_,c'⟩
  ·cases e
  ·injection e with q1 q2 q3
   subst q1;subst q2;subst q3
   have:=S.uniq S'
   subst this
   rcases c with⟨rfl,rfl⟩|⟨rfl,rfl⟩
   ·rcases c' with⟨_,rfl⟩|⟨e,_⟩
    ·rfl
    ·injection e with _ e;exact absurd e (by decide)
   ·rcases c' with⟨e,_⟩|⟨_,rfl⟩
    ·injection e with _ e;exact absurd e (by decide)
    ·rfl
theorem itoa_txtZ (n:Int):Lib.itoa n=txtZ n:=by
 unfold txtZ
 by_cases c:n<0
 ·obtain⟨u,rfl⟩:∃u:Nat,n= -(u:Int):=⟨n.natAbs,by omega⟩
  rw[if_pos c,Lib.itoa_neg u (by omega),digits_decP,Int.natAbs_neg,Int.natAbs_natCast]
 ·obtain⟨u,rfl⟩:∃u:Nat,n=(u:Int):=⟨n.natAbs,by omega⟩
  rw[if_neg c,Lib.itoa_nonneg u,digits_decP,Int.natAbs_natCast]
def p264f:Prim:=fun args h=>
 open Classical in if hx:∃z:Int,∃s w,args=[.agg [s,w]]∧IsI h s w z∧Lim 3999 z then some (.str (txtZ hx.choose),h)else none
theorem p264f_eq (i:IsI h s w z) (lz:Lim 3999 z):p264f [.agg [s,w]] h=some (.str (txtZ z),h):=by
 have hx:∃z:Int,∃s' w',[AV.agg [s,w]]=[.agg [s',w']]∧IsI h s' w' z∧Lim 3999 z:=⟨z,s,w,rfl,i,lz⟩
 unfold p264f
 rw[dif_pos hx]
 obtain⟨s',w',e,j,_⟩:=hx.choose_spec
 simp only[List.cons.injEq,AV.agg.injEq,and_true]at e
 obtain⟨rfl,rfl⟩:=e
 rw[i.uniq j]
theorem p264f_cases {args:List AV} (hv:p264f args h=some (v,h')):∃z s w,args=[.agg [s,w]]∧IsI h s w z∧Lim 3999 z∧v= .str (txtZ z)∧h'=h:=by
 unfold p264f at hv
 split at hv
 ·rename_i hx
  obtain⟨rfl,rfl⟩:=pair_inj hv
  obtain⟨s,w,e,i,l⟩:=hx.choose_spec
  exact⟨_,s,w,e,i,l,rfl,rfl⟩
 ·cases hv
def EX:Env:=E3.withR 264 p264f
theorem gqX:Gq E3 EX:=by
 refine Gq.withR (q:=p264) rfl fun args h x hx=>?_
 unfold p264 at hx
 split at hx
 ·rename_i n
  split at hx
  ·rename_i hn
   obtain rfl:=Option.some.inj hx
   rw[itoa_txtZ]
   exact p264f_eq (.inl ⟨rfl,rfl,hn⟩) ((Lim.small hn).mono (by decide))
  ·cases hx
 ·cases hx
theorem envX {W0:World} {base:Nat} (G:L.Glob W0 base):EnvOk Tryz.prog W0 base EX:=by
 refine((env2 G).add R.good).withR fun args h v h' hv=>?_
 obtain⟨z,s,w,rfl,i,l,rfl,rfl⟩:=p264f_cases hv
 refine⟨Later.refl _,fun ρ wd B R hok=>?_⟩
 rcases id i with⟨rfl,rfl,hz⟩|⟨n,t,o,li,rfl,_,_,_,_,_,c⟩
 ·have:p264 [.agg [.int .i64 z,.nils]] h'=some (.str (Lib.itoa z),h'):=if_pos hz
  rw[←itoa_txtZ]
  exact(k264 G _ _ _ _ this).2 ρ wd B R
 ·rcases c with⟨rfl,_⟩|⟨rfl,_⟩
  ·exact str_does G B R i l hok
  ·exact str_does G B R i l hok
theorem x3 {f:Nat} {args:List AV} {v:AV} (hc:Gv E3 f args h v):Gv EX f args h v:=hc.gq gqX
theorem x2 {f:Nat} {args:List AV} {v:AV} (hc:Gv E2 f args h v):Gv EX f args h v:=(gu3 hc).gq gqX
theorem xp2 {f:Nat} {args:List AV} {p:AV→Hp→Prop} (hc:Gp E2 f args h p):Gp EX f args h p:=by
 obtain⟨v,h',h1,h2,h3⟩:=hc
 exact⟨v,h',(h1.ge ge3).gq gqX,h2,h3⟩
theorem xu2 {f:Nat} {args:List AV} {h':Hp} {v:AV} (hc:∀K,CallWp E2 f args h K↔K v h'):CallWp EX f args h K↔K v h':=upq gqX fun K=>up ge3 hc
theorem x264 (i:IsI h s w z) (lz:Lim 3999 z):CallWp EX 264 [.agg [s,w]] h K↔K (.str (txtZ z)) h:=by
 rw[CallWp.prim_iff (p:=p264f) rfl rfl,p264f_eq i lz];exact Iff.rfl
theorem i199 {m:Nat} (ix:IsI h s w z) (lz:Lim m z) (hm:m≤4000):Gp E2 199 [.agg [s,w]] h fun v h'=>∃b:Nat,v= .int .i64 b∧z.natAbs<2^b∧b≤64*m:=by
 obtain⟨o1,o2⟩:=ix.one
 obtain⟨m1,rfl⟩:=ix.fst
 refine Gp.of (CallWp.fn (fn:=C.a199) rfl rfl rfl ?_)
 unfold C.a199
 repeat' (with_reducible first|simp(disch:=first|exact okD|fail) only[go_sem,seval,o1,o2]|(apply Spl.i<;>intro hc))
 refine Gp.wp (c202 (ix.grs okG)) fun v k a b u ⟨w',l,e0,S0,D0,N0,V0,L0⟩=>?_
 subst e0
 have ln:=S0.rd.len
 have ad:=S0.rd.adr
 by_cases hz:l=[]
 ·subst hz
  simp only[List.length_nil]at ln
  have e0:((0:Nat):Int)=0:=rfl
  repeat' (with_reducible first|simp(disch:=first|exact okD|fail) only[go_sem,seval,ln,e0]|(apply Spl.i<;>intro hc))
  rw[vl_nil]at V0
  refine⟨⟨0,rfl,by rw[←V0];decide,Nat.zero_le _⟩,?_⟩
  exact okG
 ·have hlp:=List.length_pos_iff.2 hz
  have hll:=lz.len N0 V0
  have ldt:=S0.rd.load (l.length-1) (by omega)
  have i1:((l.length:Int)-1).toNat=l.length-1:=by omega
  have htd:=Dg.getD (B:=18446744073709551616) (by decide) D0 (l.length-1)
  have hne:¬(l.length:Int)=0:=by omega
  have hb:=bitLen_lt (n:=l.getD (l.length-1) 0) (k:=64) htd
  have c6:=fun{h:Hp} {K:AV→Hp→Prop}=>c266 (h:=h) (K:=K) (x:=l.getD (l.length-1) 0) (by omega)
  have w1:IntKind.wrap .i64 (64*((l.length:Int)-1))=64*((l.length:Int)-1):=wrap_i64 (by omega)
  have w2:IntKind.wrap .i64 (64*((l.length:Int)-1)+(bitLen (l.getD (l.length-1) 0):Nat))=((64*(l.length-1)+bitLen (l.getD (l.length-1) 0):Nat):Int):=by rw[wrap_i64 (by omega)];omega
  repeat' (with_reducible first|simp(disch:=first|exact okD|fail) only[go_sem,seval,ln,ad,ldt,i1,hne,c6,w1,w2]|(apply Spl.i<;>intro hc))
  refine⟨⟨_,rfl,?_,by omega⟩,?_⟩
  ·have hv1:=vl_take_succ (B:=18446744073709551616) (l:=l) (i:=l.length-1) (by omega)
   rw[show l.length-1+1=l.length by omega,List.take_length]at hv1
   have hv2:=vl_lt (B:=18446744073709551616) (by decide) (D0.take (n:=l.length-1))
   rw[List.length_take,Nat.min_eq_left (by omega)]at hv2
   have hb2:=bitLen_le (Nat.le_refl (bitLen (l.getD (l.length-1) 0)))
   have e64:(18446744073709551616:Nat)^(l.length-1)=2^(64*(l.length-1)):=by rw[show(18446744073709551616:Nat)=2^64 from rfl,←Nat.pow_mul]
   rw[←V0,hv1,Nat.pow_add,←e64]
   have:18446744073709551616^(l.length-1)*(l.getD (l.length-1) 0+1)≤18446744073709551616^(l.length-1)*2^bitLen (l.getD (l.length-1) 0):=Nat.mul_le_mul_left _ hb2
   rw[Nat.mul_add,Nat.mul_one]at this
   omega
  ·exact okG
theorem x216 (ix:IsI h s w z) (lz:Lim 3999 z):Gv EX 216 [.agg [s,w]] h (.bool (decide (10^600≤z.natAbs))):=by
 obtain⟨o1,o2⟩:=ix.one
 obtain⟨m1,rfl⟩:=ix.fst
 have hp:(2:Nat)^1800≤10^600:=by decide+kernel
 refine Gv.of (CallWp.fn (fn:=C.a216) rfl rfl rfl ?_)
 unfold C.a216
 repeat' (with_reducible first|simp(disch:=first|exact okD|fail) only[go_sem,seval,o1,o2]|(apply Spl.i<;>intro hc))
 refine Gp.wp (xp2 (i199 (ix.grs okG) lz (by decide))) fun v k a b u ⟨b1,e1,hb,_⟩=>?_
 subst e1
 by_cases c:1800<b1
 ·have c':(1800:Int)<(b1:Int):=by omega
  have cS:=fun{K:AV→Hp→Prop}=>x264 (K:=K) ((ix.grs okG:IsI ((h.push fun t=> .row [.int .i64 m1,w] true t).ov k u) (.int .i64 m1) w z)) lz
  have cU:=fun{h:Hp} {K:AV→Hp→Prop}=>xu2 (h:=h) (K:=K) fun K=>u259 (s:=txtZ z) (h:=h) (K:=K)
  have eu:unS (txtZ z)=decP z.natAbs 1:=by
   have:=unS_txt (z:Rat)
   rw[txtR_int]at this
   rw[this];unfold absR
   rw[Rat.den_intCast,Rat.num_intCast,if_pos rfl]
  rw[eu]at cU
  have hd:=decP_ge (n:=z.natAbs)
  by_cases d:10^600≤z.natAbs
  ·have d':(600:Int)<(decP z.natAbs 1).length:=by
    have:¬(decP z.natAbs 1).length≤600:=fun e=>by have:=hd.1 e;omega
    omega
   rw[decide_eq_true d]
   repeat' (with_reducible first|simp(disch:=first|exact okD|fail) only[go_sem,seval,o1,o2,c',cS,cU,d']|(apply Spl.i<;>intro hc))
   exact okG
  ·have d':¬(600:Int)<(decP z.natAbs 1).length:=by
    have:=hd.2 (by omega)
    omega
   rw[decide_eq_false d]
   repeat' (with_reducible first|simp(disch:=first|exact okD|fail) only[go_sem,seval,o1,o2,c',cS,cU,d']|(apply Spl.i<;>intro hc))
   exact okG
 ·have c':¬(1800:Int)<(b1:Int):=by omega
  have d:¬10^600≤z.natAbs:=by
   have:(2:Nat)^b1≤2^1800:=Nat.pow_le_pow_right (by decide) (by omega)
   omega
  rw[decide_eq_false d]
  repeat' (with_reducible first|simp(disch:=first|exact okD|fail) only[go_sem,seval,o1,o2,c']|(apply Spl.i<;>intro hc))
  exact okG
theorem okR_not {a:Rat}:(decide (10^600≤a.num.natAbs)||decide (10^600≤(a.den:Int).natAbs))= !(okR a):=by
 unfold okR
 rw[Int.natAbs_natCast]
 by_cases c1:a.num.natAbs<10^600
 ·by_cases c2:a.den<10^600
  ·rw[decide_eq_false (by omega),decide_eq_false (by omega),decide_eq_true ⟨c1,c2⟩];rfl
  ·rw[decide_eq_true (p:=10^600≤a.den) (by omega),decide_eq_false (p:=a.num.natAbs<10^600∧a.den<10^600) (fun e=>c2 e.2),Bool.or_true];rfl
 ·rw[decide_eq_true (p:=10^600≤a.num.natAbs) (by omega),decide_eq_false (p:=a.num.natAbs<10^600∧a.den<10^600) (fun e=>c1 e.1),Bool.true_or];rfl
theorem x140 (ia:IsF h va a) (la:Bd 3999 a):Gv EX 140 [va] h (.bool (!(okR a))):=by
 obtain⟨n1,w1,n2,w2,rfl,o1,o2,I1,I2⟩:=ia.ex
 refine Gv.of (CallWp.fn (fn:=C.a140) rfl rfl rfl ?_)
 unfold C.a140
 rw[←okR_not]
 repeat' (with_reducible first|simp(disch:=first|exact okD|fail) only[go_sem,seval,o1,o2]|(apply Spl.i<;>intro hc))
 refine Gv.wp (x216 (I1.grs okG) la.1) fun h1 k1 j1 u1=>?_
 by_cases d:10^600≤a.num.natAbs
 ·rw[decide_eq_true d]
  repeat' (with_reducible first|simp(disch:=first|exact okD|fail) only[go_sem,seval,o1,o2]|(apply Spl.i<;>intro hc))
  refine⟨by simp,?_⟩
  exact okG
 ·rw[decide_eq_false d]
  repeat' (with_reducible first|simp(disch:=first|exact okD|fail) only[go_sem,seval,o1,o2]|(apply Spl.i<;>intro hc))
  refine Gv.wp (x216 (I2.grs okG) la.2) fun h2 k2 j2 u2=>?_
  repeat' (with_reducible first|simp(disch:=first|exact okD|fail) only[go_sem,seval,o1,o2]|(apply Spl.i<;>intro hc))
  refine⟨by simp,?_⟩
  exact okG
theorem x196 (ia:IsF h va a) (la:Bd 3999 a) (hl:(txtR a).length≤1000000):Gv EX 196 [va] h (.str (txtR a)):=by
 obtain⟨n1,w1,n2,w2,e,o1,o2,I1,I2⟩:=id ia.ex
 refine Gv.of (CallWp.fn (fn:=C.a196) rfl rfl rfl ?_)
 unfold C.a196
 subst e
 repeat' (with_reducible first|simp(disch:=first|exact okD|fail) only[go_sem,seval,o1,o2]|(apply Spl.i<;>intro hc))
 refine Gv.wp (x2 (i241 (ia.grs okG))) fun h1 k1 j1 u1=>?_
 have cS:=fun{h':Hp} {K:AV→Hp→Prop} (g:Grs h h')=>x264 (h:=h') (K:=K) (I1.grs g) la.1
 have cT:=fun{h':Hp} {K:AV→Hp→Prop} (g:Grs h h')=>x264 (h:=h') (K:=K) (I2.grs g) la.2
 by_cases d:(a.den:Int)=1
 ·have et:txtR a=txtZ a.num:=if_pos (by omega)
  rw[et]
  have c1:=fun{K:AV→Hp→Prop}=>cS (h':=(h.push fun t=> .row [.int .i64 n1,w1,.int .i64 n2,w2] true t).ov h1 u1) (K:=K) okG
  repeat' (with_reducible first|simp(disch:=first|exact okD|fail) only[go_sem,seval,o1,o2,d,c1]|(apply Spl.i<;>intro hc))
  exact okG
 ·have et:txtR a=txtZ a.num++47::txtZ a.den:=if_neg (by omega)
  rw[et]at hl⊢
  rw[List.length_append,List.length_cons]at hl
  have c1:=fun{K:AV→Hp→Prop}=>cS (h':=(h.push fun t=> .row [.int .i64 n1,w1,.int .i64 n2,w2] true t).ov h1 u1) (K:=K) okG
  have c2:=fun{K:AV→Hp→Prop}=>cT (h':=(h.push fun t=> .row [.int .i64 n1,w1,.int .i64 n2,w2] true t).ov h1 u1) (K:=K) okG
  repeat' (with_reducible first|simp(disch:=first|exact okD|fail) only[go_sem,seval,o1,o2,d,c1,c2]|(apply Spl.i<;>intro hc))
  refine⟨by simp,?_⟩
  exact okG
end
end
end Go.Ae
set_option maxRecDepth 100000
namespace Go.Ae.F
open AOp Opd C
def a10:AFn:=⟨125,[.tmp 4],(.seq (.reg [o 2 (.box (.t 0)),o 3 (.box (.t 1)),o 4 (.mv (.k (.bool false)))])
 (.seq (.seq (.reg [c 14 17 [],y 15 .not 14,v 16 15,g 17 (.load true 2 (.t 2)) 16 false,g 18 (.callF 58 [.t 17]) 16 false,pt 19 16 18,v 20 19,g 21 (.load true 2 (.t 3)) 20 false,g 22 (.callF 58 [.t 21]) 20 false,pt 23 20 22])
 (.cond (.t 23) (.seq (.reg [c 24 17 [],v 4 24])
 .ret)
 .skip))
 (.seq (.dreg [⟨(some 25),.load true 2 (.t 2),none,(some 0)⟩,c 26 59 [.t 25],⟨(some 27),.load true 2 (.t 3),none,(some 2)⟩,c 28 59 [.t 27],o 29 (.bslice 1 2 [.int .i64 0,.int .i64 0] [(0,1,(.t 26)),(1,1,(.t 28))]),c 30 25 [.t 29],v 5 30])
 (.seq (.seq (.dreg [⟨(some 31),.load true 2 (.t 2),none,(some 0)⟩,c 32 60 [.t 31],⟨(some 33),.load true 2 (.t 2),none,(some 2)⟩,c 34 59 [.t 33],bt 35 .neq 32 34])
 (.cond (.t 35) (.seq (.reg [o 4 (.mv (.k (.bool false)))])
 .ret)
 .skip))
 (.seq (.reg [l 37 true 2 2,l 38 true 2 3,c 39 61 [.t 37,.t 38],v 36 39,e 40 36 0,e 41 36 1,o 6 (.alloc [.str [],.str []]),s 2 6 40,v 7 41])
 (.seq (.reg [l 43 true 2 2,l 44 true 2 3,c 45 62 [.t 43,.t 44],v 42 45,e 46 42 0,e 47 42 1,o 8 (.alloc [.str [],.str []]),s 2 8 46,v 9 47])
 (.seq (.reg [l 49 true 2 2,l 50 true 2 3,c 51 63 [.t 49,.t 50],v 48 51,e 52 48 0,e 53 48 1,o 10 (.alloc [.str [],.str []]),s 2 10 52,v 11 53])
 (.seq (.reg [l 55 true 2 2,l 56 true 2 3,c 57 64 [.t 55,.t 56],v 54 57,e 58 54 0,e 59 54 1,o 12 (.alloc [.str [],.str []]),s 2 12 58,v 13 59])
 (.seq (.seq (.reg [v 60 5,bi 61 .neq 60 0])
 (.cond (.t 61) (.seq (.reg [l 62 true 2 6,v 63 7,v 64 5,l 65 true 2 2,c 66 22 [.t 62,.t 63,.t 64,.t 65],v 67 66,g 68 (.load true 2 (.t 8)) 67 true,g 69 (m 9) 67 true,g 70 (m 5) 67 true,g 71 (.load true 2 (.t 2)) 67 true,g 72 (.callF 22 [.t 68,.t 69,.t 70,.t 71]) 67 true,pf 73 67 72,v 74 73,g 75 (.load true 2 (.t 10)) 74 true,g 76 (m 11) 74 true,g 77 (m 5) 74 true,g 78 (.load true 2 (.t 2)) 74 true,g 79 (.callF 22 [.t 75,.t 76,.t 77,.t 78]) 74 true,pf 80 74 79,v 81 80,g 82 (.load true 2 (.t 12)) 81 true,g 83 (m 13) 81 true,g 84 (m 5) 81 true,g 85 (.load true 2 (.t 2)) 81 true,g 86 (.callF 22 [.t 82,.t 83,.t 84,.t 85]) 81 true,pf 87 81 86,v 4 87])
 .ret)
 .skip))
 (.seq (.seq (.dreg [⟨(some 88),.load true 2 (.t 6),none,(some 4)⟩,v 89 7,⟨(some 90),.load true 2 (.t 2),none,(some 2)⟩,⟨(some 91),.load true 2 (.t 3),none,(some 3)⟩,c 92 65 [.t 90,.t 91],c 93 22 [.t 88,.t 89,i 0,.t 92],y 94 .not 93,v 95 94,⟨(some 96),.load true 2 (.t 8),(some (95,false)),(some 12)⟩,g 97 (m 9) 95 false,⟨(some 98),.load true 2 (.t 2),(some (95,false)),(some 10)⟩,⟨(some 99),.load true 2 (.t 3),(some (95,false)),(some 11)⟩,g 100 (.callF 66 [.t 98,.t 99]) 95 false,g 101 (.callF 22 [.t 96,.t 97,i 0,.t 100]) 95 false,g 102 (.un .not (.t 101)) 95 false,pt 103 95 102,v 104 103,⟨(some 105),.load true 2 (.t 10),(some (104,false)),(some 21)⟩,g 106 (m 11) 104 false,⟨(some 107),.load true 2 (.t 2),(some (104,false)),(some 19)⟩,⟨(some 108),.load true 2 (.t 3),(some (104,false)),(some 20)⟩,g 109 (.callF 67 [.t 107,.t 108]) 104 false,g 110 (.callF 22 [.t 105,.t 106,i 0,.t 109]) 104 false,g 111 (.un .not (.t 110)) 104 false,pt 112 104 111])
 (.cond (.t 112) (.seq (.reg [o 4 (.mv (.k (.bool false)))])
 .ret)
 .skip))
 (.seq (.seq (.reg [l 113 true 2 3,c 114 68 [.t 113,(.k (.str [48]))]])
 (.cond (.t 114) (.seq (.reg [l 115 true 2 12,v 116 13,l 117 true 2 2,c 118 22 [.t 115,.t 116,i 6,.t 117],v 4 118])
 .ret)
 .skip))
 (.seq (.dreg [⟨(some 119),.load true 2 (.t 12),none,(some 4)⟩,v 120 13,⟨(some 121),.load true 2 (.t 2),none,(some 2)⟩,⟨(some 122),.load true 2 (.t 3),none,(some 3)⟩,c 123 69 [.t 121,.t 122],c 124 22 [.t 119,.t 120,i 0,.t 123],v 4 124])
 .ret))))))))))))⟩
def a58:AFn:=⟨13,[.tmp 2],(.seq (.reg [o 1 (.box (.t 0)),o 2 (.mv (.k (.bool false)))])
 (.seq (.reg [fa 3 0 1,l 4 false 1 3,ls 5 4,bi 6 .gtr 5 60,v 7 6,g 8 (.fadr 1 (.t 1)) 7 false,g 9 (.load false 1 (.t 8)) 7 false,g 10 (.len .str (.t 9)) 7 false,g 11 (.bin .gtr .none (.t 10) (i 60)) 7 false,pt 12 7 11,v 2 12])
 .ret))⟩
def a65:AFn:=⟨16,[.cell 4 true 2],(.seq (.reg [o 2 (.box (.t 0)),o 3 (.box (.t 1)),o 4 (.alloc [.str [],.str []])])
 (.seq (.dreg [fa 5 0 2,⟨(some 6),.load false 1 (.t 5),none,(some 1)⟩,fa 7 0 3,⟨(some 8),.load false 1 (.t 7),none,(some 3)⟩,c 9 72 [.t 6,.t 8],fa 10 1 2,⟨(some 11),.load false 1 (.t 10),none,(some 6)⟩,fa 12 1 3,⟨(some 13),.load false 1 (.t 12),none,(some 8)⟩,c 14 72 [.t 11,.t 13],o 15 (.build [.str [],.str []] [(0,1,(.t 9)),(1,1,(.t 14))]),s 2 4 15])
 .ret))⟩
def a66:AFn:=⟨16,[.cell 4 true 2],(.seq (.reg [o 2 (.box (.t 0)),o 3 (.box (.t 1)),o 4 (.alloc [.str [],.str []])])
 (.seq (.dreg [fa 5 0 2,⟨(some 6),.load false 1 (.t 5),none,(some 1)⟩,fa 7 1 3,⟨(some 8),.load false 1 (.t 7),none,(some 3)⟩,c 9 73 [.t 6,.t 8],fa 10 1 2,⟨(some 11),.load false 1 (.t 10),none,(some 6)⟩,fa 12 0 3,⟨(some 13),.load false 1 (.t 12),none,(some 8)⟩,c 14 73 [.t 11,.t 13],o 15 (.build [.str [],.str []] [(0,1,(.t 9)),(1,1,(.t 14))]),s 2 4 15])
 .ret))⟩
def a67:AFn:=⟨27,[.cell 4 true 2],(.seq (.reg [o 2 (.box (.t 0)),o 3 (.box (.t 1)),o 4 (.alloc [.str [],.str []])])
 (.seq (.dreg [fa 5 0 2,⟨(some 6),.load false 1 (.t 5),none,(some 1)⟩,fa 7 0 3,⟨(some 8),.load false 1 (.t 7),none,(some 3)⟩,c 9 74 [.t 6,.t 8],fa 10 0 2,⟨(some 11),.load false 1 (.t 10),none,(some 6)⟩,fa 12 1 3,⟨(some 13),.load false 1 (.t 12),none,(some 8)⟩,c 14 74 [.t 11,.t 13],fa 15 1 2,⟨(some 16),.load false 1 (.t 15),none,(some 11)⟩,fa 17 0 3,⟨(some 18),.load false 1 (.t 17),none,(some 13)⟩,c 19 74 [.t 16,.t 18],fa 20 1 2,⟨(some 21),.load false 1 (.t 20),none,(some 16)⟩,fa 22 1 3,⟨(some 23),.load false 1 (.t 22),none,(some 18)⟩,c 24 74 [.t 21,.t 23],o 25 (.bslice 1 4 [.str [],.str [],.str [],.str []] [(0,1,(.t 9)),(1,1,(.t 14)),(2,1,(.t 19)),(3,1,(.t 24))]),c 26 167 [.t 25],s 2 4 26])
 .ret))⟩
def a69:AFn:=⟨27,[.cell 4 true 2],(.seq (.reg [o 2 (.box (.t 0)),o 3 (.box (.t 1)),o 4 (.alloc [.str [],.str []])])
 (.seq (.dreg [fa 5 0 2,⟨(some 6),.load false 1 (.t 5),none,(some 1)⟩,fa 7 0 3,⟨(some 8),.load false 1 (.t 7),none,(some 3)⟩,c 9 76 [.t 6,.t 8],fa 10 0 2,⟨(some 11),.load false 1 (.t 10),none,(some 6)⟩,fa 12 1 3,⟨(some 13),.load false 1 (.t 12),none,(some 8)⟩,c 14 76 [.t 11,.t 13],fa 15 1 2,⟨(some 16),.load false 1 (.t 15),none,(some 11)⟩,fa 17 0 3,⟨(some 18),.load false 1 (.t 17),none,(some 13)⟩,c 19 76 [.t 16,.t 18],fa 20 1 2,⟨(some 21),.load false 1 (.t 20),none,(some 16)⟩,fa 22 1 3,⟨(some 23),.load false 1 (.t 22),none,(some 18)⟩,c 24 76 [.t 21,.t 23],o 25 (.bslice 1 4 [.str [],.str [],.str [],.str []] [(0,1,(.t 9)),(1,1,(.t 14)),(2,1,(.t 19)),(3,1,(.t 24))]),c 26 167 [.t 25],s 2 4 26])
 .ret))⟩
def a167:AFn:=⟨35,[.cell 2 true 2],(.seq (.reg [o 2 (.alloc [.str [],.str []])])
 (.seq (.dreg [v 5 0,o 6 (.iadr 1 (.t 5) (i 0)),⟨(some 7),.load false 1 (.t 6),none,(some 2)⟩,v 8 0,o 9 (.iadr 1 (.t 8) (i 0)),⟨(some 10),.load false 1 (.t 9),none,(some 5)⟩,o 11 (.build [.str [],.str []] [(0,1,(.t 7)),(1,1,(.t 10))]),o 3 (.alloc [.str [],.str []]),s 2 3 11])
 (.seq (.seq (.reg [vi 4 1])
 (.block 0 (.loop (.seq (.seq (.reg [v 12 4,v 13 0,ln 14 13,bt 15 .lss 12 14])
 (.cond (.t 15) .skip
 (.exit 0)))
 (.seq (.block 1 (.dreg [fa 18 0 3,⟨(some 19),.load false 1 (.t 18),none,(some 1)⟩,v 20 0,v 21 4,ix 22 1 20 21,⟨(some 23),.load false 1 (.t 22),none,(some 5)⟩,c 24 246 [.t 19,.t 23],fa 25 1 3,⟨(some 26),.load false 1 (.t 25),none,(some 8)⟩,v 27 0,v 28 4,ix 29 1 27 28,⟨(some 30),.load false 1 (.t 29),none,(some 12)⟩,c 31 247 [.t 26,.t 30],fa 32 0 3,s 1 32 24,fa 33 1 3,s 1 33 31]))
 (.reg [v 16 4,bi 17 .add 16 1,v 4 17]))))))
 (.seq (.reg [l 34 true 2 3,s 2 2 34])
 .ret))))⟩
def a246:AFn:=⟨11,[.tmp 4],(.seq (.reg [o 4 (.mv (.k (.str [])))])
 (.seq (.seq (.reg [v 5 0,v 6 1,c 7 75 [.t 5,.t 6],bi 8 .leq 7 0])
 (.cond (.t 8) (.seq (.reg [v 9 0,v 4 9])
 .ret)
 .skip))
 (.seq (.reg [v 10 1,v 4 10])
 .ret)))⟩
def a247:AFn:=⟨11,[.tmp 4],(.seq (.reg [o 4 (.mv (.k (.str [])))])
 (.seq (.seq (.reg [v 5 0,v 6 1,c 7 75 [.t 5,.t 6],bi 8 .geq 7 0])
 (.cond (.t 8) (.seq (.reg [v 9 0,v 4 9])
 .ret)
 .skip))
 (.seq (.reg [v 10 1,v 4 10])
 .ret)))⟩
def tab:T AFn:=(.node (.node (.node (.node .nil none (.node (.node .nil none (.node (.node .nil (some a167) .nil) none .nil)) none (.node .nil none (.node .nil none (.node .nil (some a247) .nil))))) none (.node (.node (.node (.node .nil (some a67) .nil) none .nil) none .nil) none .nil)) none (.node (.node (.node (.node (.node .nil (some a65) .nil) none .nil) none .nil) none .nil) none (.node (.node (.node (.node .nil (some a69) .nil) none .nil) none .nil) none .nil))) none (.node .nil none (.node (.node (.node (.node (.node .nil (some a66) .nil) none .nil) none .nil) (some a10) (.node .nil none (.node .nil (some a58) .nil))) none (.node (.node .nil none (.node .nil none (.node .nil none (.node .nil (some a246) .nil)))) none .nil))))
section
open Go.Proofs
theorem b10:Chk 10 a10:=by unfold Chk;kernel_rfl
theorem b58:Chk 58 a58:=by unfold Chk;kernel_rfl
theorem b65:Chk 65 a65:=by unfold Chk;kernel_rfl
theorem b66:Chk 66 a66:=by unfold Chk;kernel_rfl
theorem b67:Chk 67 a67:=by unfold Chk;kernel_rfl
theorem b69:Chk 69 a69:=by unfold Chk;kernel_rfl
theorem b167:Chk 167 a167:=by unfold Chk;kernel_rfl
theorem b246:Chk 246 a246:=by unfold Chk;kernel_rfl
theorem b247:Chk 247 a247:=by unfold Chk;kernel_rfl
theorem all:T.Forall Chk tab (fun n=>n):=⟨C.no,⟨C.no,⟨C.no,⟨C.no,trivial,⟨C.no,⟨C.no,trivial,⟨C.no,⟨C.yes b167,trivial,trivial⟩,trivial⟩⟩,⟨C.no,trivial,⟨C.no,trivial,⟨C.yes b247,trivial,trivial⟩⟩⟩⟩⟩,⟨C.no,⟨C.no,⟨C.no,⟨C.yes b67,trivial,trivial⟩,trivial⟩,trivial⟩,trivial⟩⟩,⟨C.no,⟨C.no,⟨C.no,⟨C.no,⟨C.yes b65,trivial,trivial⟩,trivial⟩,trivial⟩,trivial⟩,⟨C.no,⟨C.no,⟨C.no,⟨C.yes b69,trivial,trivial⟩,trivial⟩,trivial⟩,trivial⟩⟩⟩,⟨C.no,trivial,⟨C.no,⟨C.yes b10,⟨C.no,⟨C.no,⟨C.yes b66,trivial,trivial⟩,trivial⟩,trivial⟩,⟨C.no,trivial,⟨C.yes b58,trivial,trivial⟩⟩⟩,⟨C.no,⟨C.no,trivial,⟨C.no,trivial,⟨C.no,trivial,⟨C.yes b246,trivial,trivial⟩⟩⟩⟩,trivial⟩⟩⟩⟩
theorem good (n:Nat) (a:AFn) (h:tab.get n=some a):chk Tryz.prog n=some a:=T.get_forall tab (fun n=>n) all n a h
end
end Go.Ae.F
set_option linter.unusedVariables false
set_option linter.unusedSimpArgs false
set_option maxRecDepth 100000
set_option maxHeartbeats 1000000
set_option exponentiation.threshold 5000
namespace Go.Ae
open Bg N Go.Proofs
noncomputable section
section
variable {h h' hp:Hp} {K:AV→Hp→Prop} {tm:T AV} {v va vb s w:AV} {z z':Int} {a b c r:Rat}
theorem unS_txtZ (z:Int):unS (txtZ z)=decP z.natAbs 1:=by
 have:=unS_txt (z:Rat)
 rw[txtR_int]at this
 rw[this];unfold absR
 rw[Rat.den_intCast,Rat.num_intCast,if_pos rfl]
theorem head_txtZ (z:Int):decide ((txtZ z).head?=some 45)=decide (z<0):=by
 have:=txtR_head (z:Rat)
 rw[txtR_int,Rat.num_intCast]at this
 exact decide_eq_decide.2 this
theorem i191z (hz:z.natAbs<10^600):Gp E2 191 [.str (txtZ z)] h fun v h'=>IsV h' v z:=by
 have hl:=decP_ge.2 hz
 have:=i191 (h:=h) (s:=txtZ z) (unS_txtZ z) (decP_all _ _) (by omega)
 rw[head_txtZ,sgn_txt]at this
 exact this
theorem i111 (hr:okR r=true):Gp E2 111 [.str (txtR r)] h fun v h'=>IsF h' v r:=by
 have ok:=hr
 unfold okR at ok
 obtain⟨h1,h2⟩:=of_decide_eq_true ok
 obtain⟨b1,b2⟩:=ok_Br hr
 obtain⟨t1,t2⟩:=txtR_le b1 b2
 have hs:=slash_txt r
 refine Gp.of (CallWp.fn (fn:=C.a111) rfl rfl rfl ?_)
 unfold C.a111
 have cc:=fun{h:Hp} {K:AV→Hp→Prop}=>u147 (h:=h) (K:=K) (s:=txtR r) (by omega)
 rw[hs]at cc
 by_cases d:r.den=1
 ·have et:txtR r=txtZ r.num:=if_pos d
  rw[et]at cc⊢
  rw[List.take_length,decide_eq_false (by omega)]at cc
  repeat' (with_reducible first|simp(disch:=first|exact okD|fail) only[go_sem,seval,cc]|(apply Spl.i<;>intro hc))
  refine Gp.wp (i191z h1) fun v1 k1 a1 b1 u1 I1=>?_
  obtain⟨m1,w1,rfl,p1,I1⟩:=I1.ex2
  repeat' (with_reducible first|simp(disch:=first|exact okD|fail) only[go_sem,seval,p1]|(apply Spl.i<;>intro hc))
  refine Gp.wp (i183 I1) fun v2 k2 a2 b2 u2 I2=>?_
  obtain⟨n1,w3,n2,w4,rfl,o1,o2,I3,I4⟩:=I2.ex
  obtain⟨e1,e2⟩:=divInt_one (p:=r.num)
  rw[e1]at I3
  rw[e2]at I4
  repeat' (with_reducible first|simp(disch:=first|exact okD|fail) only[go_sem,seval,o1,o2]|(apply Spl.i<;>intro hc))
  refine⟨⟨_,_,_,_,rfl,?_,?_⟩,?_⟩
  ·exact I3.putI (by simp(disch:=first|exact okD|fail) only[go_sem,seval,isCell_row])
  ·rw[d];exact I4.putI (by simp(disch:=first|exact okD|fail) only[go_sem,seval,isCell_row])
  ·exact okG
 ·have et:txtR r=txtZ r.num++47::txtZ r.den:=if_neg d
  have k1:List.take (txtZ r.num).length (txtR r)=txtZ r.num:=by rw[et];exact List.take_left
  have k2:List.drop ((txtZ r.num).length+1) (txtR r)=txtZ r.den:=by rw[et,←List.drop_drop,List.drop_left];rfl
  rw[k1,k2,decide_eq_true (by rw[et];simp)]at cc
  repeat' (with_reducible first|simp(disch:=first|exact okD|fail) only[go_sem,seval,cc]|(apply Spl.i<;>intro hc))
  refine Gp.wp (i191z h1) fun v1 k1 a1 b1 u1 I1=>?_
  obtain⟨m1,w1,rfl,p1,I1⟩:=I1.ex2
  repeat' (with_reducible first|simp(disch:=first|exact okD|fail) only[go_sem,seval,p1]|(apply Spl.i<;>intro hc))
  refine Gp.wp (i191z (z:=(r.den:Int)) (by rw[Int.natAbs_natCast];exact h2)) fun v2 k2 a2 b2 u2 I2=>?_
  obtain⟨m2,w2,rfl,p2,I2⟩:=I2.ex2
  have I1':=I1.ov (g:=u2)
  have fl:=fill22 (n:=m1) (n':=m2) p1 p2
  repeat' (with_reducible first|simp(disch:=first|exact okD|fail) only[go_sem,seval,p1,p2,fl]|(apply Spl.i<;>intro hc))
  refine⟨⟨_,_,_,_,rfl,?_,?_⟩,?_⟩
  ·exact I1'.putI (by simp(disch:=first|exact okD|fail) only[go_sem,seval,isCell_row])
  ·exact I2.putI (by simp(disch:=first|exact okD|fail) only[go_sem,seval,isCell_row])
  ·exact okG
theorem i136_2 {t:Nat} {s u:List UInt8} (hA:At h t [.str s,.str u]) (ht:t<h.next) (hs:s.length≤1000000) (hu:u.length≤1000000):Gv E2 136 [.sl t 0 2 1] h (.int .i64 (chk2 s u)):=by
 refine Gv.of (CallWp.fn (fn:=C.a136) rfl rfl rfl ?_)
 unfold C.a136 chk2
 obtain⟨st,hg⟩:=hA
 by_cases c1:checkV s=0
 ·rw[if_pos c1]
  have e1:=i101 (h:=h) hs
  rw[c1]at e1
  by_cases c2:checkV u=0
  ·rw[c2]
   repeat' (with_reducible first|simp(disch:=first|exact okD|fail) only[go_sem,seval,Wp.unroll,hg]|(refine Gv.wp (e1) fun _ _ _ _=>?_)|(apply Spl.i<;>intro hc))
   refine Gv.wp (i101 hu) fun h6 k6 j6 u6=>?_
   repeat' (with_reducible first|simp(disch:=first|exact okD|fail) only[go_sem,seval,Wp.unroll,hg,c2]|(apply Spl.i<;>intro hc))
   exact okG
  ·repeat' (with_reducible first|simp(disch:=first|exact okD|fail) only[go_sem,seval,Wp.unroll,hg]|(refine Gv.wp (e1) fun _ _ _ _=>?_)|(apply Spl.i<;>intro hc))
   refine Gv.wp (i101 hu) fun h6 k6 j6 u6=>?_
   repeat' (with_reducible first|simp(disch:=first|exact okD|fail) only[go_sem,seval,Wp.unroll,hg,c2]|(apply Spl.i<;>intro hc))
   exact okG
 ·rw[if_neg c1]
  repeat' (with_reducible first|simp(disch:=first|exact okD|fail) only[go_sem,seval,Wp.unroll,hg,c1]|(refine Gv.wp (i101 hs) fun _ _ _ _=>?_)|(apply Spl.i<;>intro hc))
  exact okG
theorem Bd_ok {r:Rat} (h:okR r=true):Bd 110 r:=by
 unfold okR at h
 obtain⟨h1,h2⟩:=of_decide_eq_true h
 have l2:Lim 110 (r.den:Int):=Lim_dec h2 (by decide)
 have l1:Lim 110 ((r.num.natAbs:Nat):Int):=Lim_dec h1 (by decide)
 exact⟨l1.le (by rw[Int.natAbs_natCast];exact Nat.le_refl _),l2⟩
end
def EF:Env:=EX.add F.tab
theorem geF:Ge EX EF:=Ge.add _ _
section
variable {h h' hp:Hp} {K:AV→Hp→Prop} {tm:T AV} {v va vb s w:AV} {z z':Int} {a b c r:Rat}
theorem f0 {f:Nat} {args:List AV} {v:AV} (hc:Gv EX f args h v):Gv EF f args h v:=hc.ge fun _ _ _ hk=>hk.ge geF
theorem f3 {f:Nat} {args:List AV} {v:AV} (hc:Gv E3 f args h v):Gv EF f args h v:=f0 (x3 hc)
theorem f2 {f:Nat} {args:List AV} {v:AV} (hc:Gv E2 f args h v):Gv EF f args h v:=f0 (x2 hc)
theorem fu2 {f:Nat} {args:List AV} {h':Hp} {v:AV} (hc:∀K,CallWp E2 f args h K↔K v h'):CallWp EF f args h K↔K v h':=up geF fun K=>xu2 hc
theorem len_of {n:Nat} {c:Rat} (hb:Bd n c) (hn:n≤400):Bd 3999 c∧(txtR c).length≤1000000:=by
 refine⟨hb.mono (by omega),?_⟩
 have e:(18446744073709551616:Nat)^400≤1000000000^900:=by decide+kernel
 have h1:Lr 900 c.num:=Nat.lt_of_lt_of_le (hb.mono hn).1 e
 have h2:Lr 900 (c.den:Int):=Nat.lt_of_lt_of_le (hb.mono hn).2 e
 have:=(txtR_le h1 h2).1
 omega
end
end
end Go.Ae
set_option linter.unusedVariables false
set_option linter.unusedSimpArgs false
set_option maxRecDepth 100000
set_option maxHeartbeats 1000000
set_option exponentiation.threshold 5000
namespace Go.Ae
open Bg N Go.Proofs
noncomputable section
structure Fc where
 n:Int
 w:AV
 d:Int
 u:AV
def Fc.l (c:Fc):List AV:=[.int .i64 c.n,c.w,.int .i64 c.d,c.u]
def Fc.z:Fc:=⟨0,.nils,0,.nils⟩
theorem Fc.l_len (c:Fc):c.l.length=4:=rfl
def FrL (h:Hp) (L:List Fc) (l:List Rat):Prop:=L.length=l.length∧∀(i:Nat) (a:i<L.length) (b:i<l.length),IsF h (.agg (L[i]).l) l[i]
def FrS (h:Hp) (v:AV) (l:List Rat):Prop:=∃L,RowS 4 h v l.length (L.flatMap Fc.l)∧FrL h L l
section
variable {h h' h0 hp:Hp} {K:AV→Hp→Prop} {tm:T AV} {v va vb s w:AV} {z:Nat} {a b c r:Rat} {L:List Fc} {l:List Rat} {x:Fc}
theorem IsF.cell (i:IsF h v r):∃c:Fc,v= .agg c.l∧c.w.one=true∧c.u.one=true:=by
 obtain⟨n1,w1,n2,w2,e,o1,o2,_⟩:=i.ex
 exact⟨⟨n1,w1,n2,w2⟩,e,o1,o2⟩
theorem IsF.ones (i:IsF h (.agg x.l) r):x.w.one=true∧x.u.one=true:=by
 obtain⟨n1,w1,n2,w2,e,o1,o2,_⟩:=i.ex
 injection e with e
 unfold Fc.l at e
 injection e with _ e
 injection e with e1 e
 injection e with _ e
 injection e with e2 _
 rw[e1,e2];exact⟨o1,o2⟩
theorem FrL.grs (f:FrL h L l) (g:Grs h h'):FrL h' L l:=⟨f.1,fun i a b=>(f.2 i a b).grs g⟩
theorem FrL.putI' (f:FrL h L l) {p:Nat} {g:Nat→AObj} (hi:∀{v r},IsF h v r→IsF (h.put p g) v r):FrL (h.put p g) L l:=⟨f.1,fun i a b=>hi (f.2 i a b)⟩
theorem FrL.nil:FrL h [] []:=⟨rfl,fun i a=>absurd a (Nat.not_lt_zero _)⟩
theorem FrL.snoc (f:FrL h L l) (i:IsF h (.agg x.l) r):FrL h (L++[x]) (l++[r]):=by
 refine⟨by simp[f.1],fun k a b=>?_⟩
 have f1:=f.1
 by_cases hk:k<L.length
 ·rw[List.getElem_append_left hk,List.getElem_append_left (by omega)]
  exact f.2 k hk (by omega)
 ·have e:k=L.length:=by simp at a;omega
  subst e
  rw[List.getElem_append_right (Nat.le_refl _),List.getElem_append_right (by omega)]
  simp only[f1,Nat.sub_self,List.getElem_cons_zero]
  exact i
theorem Sq.fr {vo:AV} {q:List Nat} (S:Sq .u64 h w q) (hv:∀t' o n',vo= .sl t' o n' z→isCell (h.get t')=true)
  (fr:∀t,t<h.next→(∀t' o n',vo= .sl t' o n' z→t≠t')→h'.get t=h.get t) (hnx:h.next≤h'.next) (hck:h.clk≤h'.clk):Sq .u64 h' w q:=by
 rcases S with S|⟨t,o,own,st,Q,e,hg,h1,h2,h3,h4⟩
 ·exact .inl S
 ·refine .inr ⟨t,o,own,st,Q,e,(fr t h3 fun t' o' n' ev htt=>?_).trans hg,h1,h2,Nat.lt_of_lt_of_le h3 hnx,Nat.le_trans h4 hck⟩
  subst htt
  obtain⟨n,cs,own',st',hq⟩:=isCell_ex (hv _ _ _ ev)
  rw[hq]at hg
  cases Q with
  |nil=>simp at hg
  |cons a Q=>simp[wd]at hg
theorem IsI.fr {vo s w:AV} {y:Int} (i:IsI h s w y) (hv:∀t' o n',vo= .sl t' o n' z→isCell (h.get t')=true)
  (fr:∀t,t<h.next→(∀t' o n',vo= .sl t' o n' z→t≠t')→h'.get t=h.get t) (hnx:h.next≤h'.next) (hck:h.clk≤h'.clk):IsI h' s w y:=by
 rcases i with i|⟨n,t,o,q,e,hs,r⟩
 ·exact .inl i
 ·exact .inr ⟨n,t,o,q,e,hs.fr hv fr hnx hck,r⟩
theorem IsF.fr {vo:AV} (i:IsF h v r) (hv:∀t' o n',vo= .sl t' o n' z→isCell (h.get t')=true)
  (fr:∀t,t<h.next→(∀t' o n',vo= .sl t' o n' z→t≠t')→h'.get t=h.get t) (hnx:h.next≤h'.next) (hck:h.clk≤h'.clk):IsF h' v r:=by
 obtain⟨s,w,s',w',e,i,j⟩:=i
 exact⟨s,w,s',w',e,i.fr hv fr hnx hck,j.fr hv fr hnx hck⟩
theorem IsF.putI {p:Nat} {f:Nat→AObj} (i:IsF h v r) (hc:isCell (h.get p)=true):IsF (h.put p f) v r:=by
 obtain⟨s,w,s',w',e,i,j⟩:=i
 exact⟨s,w,s',w',e,i.putI hc,j.putI hc⟩
theorem FrL.putI (f:FrL h L l) {p:Nat} {g:Nat→AObj} (hc:isCell (h.get p)=true):FrL (h.put p g) L l:=f.putI' fun i=>i.putI hc
theorem FrL.fr {vo:AV} (f:FrL h L l) (hv:∀t' o n',vo= .sl t' o n' z→isCell (h.get t')=true)
  (fr:∀t,t<h.next→(∀t' o n',vo= .sl t' o n' z→t≠t')→h'.get t=h.get t) (hnx:h.next≤h'.next) (hck:h.clk≤h'.clk):FrL h' L l:=⟨f.1,fun i a b=>(f.2 i a b).fr hv fr hnx hck⟩
theorem FrS.at (f:FrS h v l) (hl:l≠[]):∃t own st,∃L:List Fc,v= .sl t 0 l.length 4∧h.get t=some (.row (L.flatMap Fc.l) own st)∧t<h.next∧st≤h.clk∧FrL h L l:=by
 obtain⟨L,⟨_,⟨rfl,e⟩|⟨t,own,st,rfl,hg,h1,h2⟩⟩,i⟩:=f
 ·exact absurd (List.length_eq_zero_iff.1 e) hl
 ·exact⟨t,own,st,L,rfl,hg,h1,h2,i⟩
theorem isCell_flat {own:Bool} {st:Nat} (hL:L≠[]):isCell (some (.row (L.flatMap Fc.l) own st))=true:=by
 cases L with
 |nil=>exact absurd rfl hL
 |cons x L=>rfl
theorem OwnZ.isCell {n:Nat} (O:OwnZ 4 h0 h v n (L.flatMap Fc.l)) (hn:L=[]→v= .nils):∀t' o n',v= .sl t' o n' 4→Go.Ae.isCell (h.get t')=true:=by
 intro t' o n' e
 obtain⟨hl,⟨e1,_⟩|⟨t,st,e1,hg,_⟩⟩:=O
 ·rw[e1]at e;cases e
 ·rw[e1]at e
  injection e with e
  subst e
  rw[hg]
  refine isCell_flat fun eL=>?_
  rw[hn eL]at e1;cases e1
theorem OwnZ.wpz {n b u:Nat} {cs xs:List AV} (hu:u=h.next) (G:Grs h0 h) (O:OwnZ z h0 h v n cs) (hx:xs.length=z) (hz:0<z) (hl:(n+1)*b≤140737488355328) (hl2:n+1≤140737488355328)
  (hk:∀v' h',Grs h0 h'→OwnZ z h0 h' v' (n+1) (cs++xs)→(∀t,t<h.next→(∀t' o n',v= .sl t' o n' z→t≠t')→h'.get t=h.get t)→h.next≤h'.next→h.clk≤h'.clk→(∀t' o n',v'= .sl t' o n' z→h.next<t')→v'≠ .nils→K v' h'):Some2 (appA (h.push fun st=> .row xs true st) z b v (.sl u 0 1 z)) K:=by
 subst hu
 have hc:cellsOf (h.push fun st=> .row xs true st) z (.sl h.next 0 1 z)=some xs:=cells_z Hp.push_same hx
 have hn0:=G.next
 obtain⟨hlen,⟨rfl,rfl⟩|⟨t,st,rfl,hg,h1,h2,h3⟩⟩:=O
 ·have hcs:cs=[]:=List.length_eq_zero_iff.1 (by omega)
  subst hcs
  have e:appA (h.push fun st=> .row xs true st) z b .nils (.sl h.next 0 1 z)=some (.sl (h.next+1) 0 1 z,(h.push fun st=> .row xs true st).push fun st=> .row xs true st):=by
   unfold appA
   rw[hc]
   simp only[lenA]
   rw[if_pos ⟨by omega,by omega,by omega⟩]
   rfl
  rw[e]
  refine hk _ _ G.push.push ⟨by simp[hx],.inr ⟨h.next+1,(h.push fun st=> .row xs true st).clk+1,rfl,Hp.push_same,by omega,?_,Nat.le_refl _⟩⟩ (fun t ht _=>?_) ?_ ?_ (fun t' o n' e=>?_) (fun e=>nomatch e)
  ·show h.next+1<h.next+1+1;omega
  ·rw[Hp.push_other (by show t≠h.next+1;omega),Hp.push_other (by omega)]
  ·show h.next≤h.next+1+1;omega
  ·show h.clk≤h.clk+1+1;omega
  ·injection e with e;omega
 ·have hgt:(h.push fun st=> .row xs true st).get t=some (.row cs true st):=(Hp.push_other (by omega)).trans hg
  have e:appA (h.push fun st=> .row xs true st) z b (.sl t 0 n z) (.sl h.next 0 1 z)=some (.sl (h.next+1) 0 (n+1) z,((h.push fun st=> .row xs true st).put t fun s=> .dead s).push fun st=> .row (cs++xs) true st):=by
   unfold appA
   rw[hc]
   simp only[lenA]
   rw[hgt]
   simp only
   rw[if_pos ⟨trivial,by omega,hl,hl2⟩]
   simp only[List.drop_zero,←hlen,List.take_length]
   rfl
  rw[e]
  refine hk _ _ ((G.push.put h1).push) ⟨by simp[hx,hlen,Nat.add_mul],.inr ⟨h.next+1,((h.push fun st=> .row xs true st).put t fun s=> .dead s).clk+1,rfl,Hp.push_same,by omega,?_,Nat.le_refl _⟩⟩ (fun t1 ht1 hne=>?_) ?_ ?_ (fun t' o n' e=>?_) (fun e=>nomatch e)
  ·show h.next+1<h.next+1+1;omega
  ·have:=hne t 0 n rfl
   rw[Hp.push_other (by show t1≠h.next+1;omega),Hp.put_other this,Hp.push_other (by omega)]
  ·show h.next≤h.next+1+1;omega
  ·show h.clk≤h.clk+1+1+1;omega
  ·injection e with e;omega
theorem rep_z (n:Nat):rep n [.int .i64 0,.nils,.int .i64 0,.nils]=(List.replicate n Fc.z).flatMap Fc.l:=by
 induction n with
 |zero=>rfl
 |succ n ih=>rw[rep,ih,List.replicate_succ,List.flatMap_cons];rfl
theorem mks4 {E:Env} {x y:Opd} {n:Nat} {st:St} (hx:val st.tm x= .int .i64 n) (hy:val st.tm y= .int .i64 n) (hn:n≤1000000)
  (hk:K (.sl st.hp.next 0 n 4) (st.hp.push fun s=> .row ((List.replicate n Fc.z).flatMap Fc.l) true s)):OpWp E (.mks 4 64 [.int .i64 0,.nils,.int .i64 0,.nils] x y) st K:=by
 rw[w_mks]
 simp only[o_mks,hx,hy]
 rw[if_pos ⟨by omega,Int.le_refl _,by omega,by omega,rfl,by decide,rfl⟩,rep_z,Int.toNat_natCast]
 exact hk
theorem flat_set {R:List Fc} {y:Fc}:splice ((L++y::R).flatMap Fc.l) (L.length*4) x.l=((L++[x])++R).flatMap Fc.l:=by
 have e1:(L.flatMap Fc.l).length=L.length*4:=flat_len Fc.l_len L
 unfold splice
 rw[List.flatMap_append,List.flatMap_cons,←e1,List.take_left,←List.drop_drop,List.drop_left,List.flatMap_append,List.flatMap_append,Fc.l_len x,←Fc.l_len y,List.drop_left]
 simp
theorem i137 {t:Nat} {rs:List Rat} (hA:At h t (rs.map fun r=> .str (txtR r))) (ht:t<h.next) (ok:∀r∈rs,okR r=true) (hn:rs.length≤1000000):Gp E2 137 [.sl t 0 rs.length 1] h fun v h'=>FrS h' v rs∧h.next≤v.tok:=by
 refine Gp.of (CallWp.fn (fn:=C.a137) rfl rfl rfl ?_)
 unfold C.a137
 obtain⟨sa,hga⟩:=hA
 repeat' (with_reducible first|simp(disch:=first|exact okD|fail) only[go_sem,seval]|(apply Spl.i<;>intro hc))
 refine mks4 (n:=rs.length) (by simp(disch:=first|exact okD|fail) only[go_sem,seval]) (by simp(disch:=first|exact okD|fail) only[go_sem,seval]) hn ?_
 repeat' (with_reducible first|simp(disch:=first|exact okD|fail) only[go_sem,seval]|(apply Spl.i<;>intro hc))
 refine Wp.loopI (fun m s=>∃(i:Nat) (L:List Fc) (c:Nat),val s.tm (.t 9)= .sl t 0 rs.length 1∧val s.tm (.t 10)= .int .i64 rs.length∧val s.tm (.t 11)= .int .i64 i∧val s.tm (.t 3)= .sl h.next 0 rs.length 4∧
  Grs h s.hp∧s.hp.get h.next=some (.row ((L++List.replicate (rs.length-i) Fc.z).flatMap Fc.l) true c)∧h.next<s.hp.next∧c≤s.hp.clk∧L.length=i∧FrL s.hp L (rs.take i)∧i≤rs.length∧rs.length-i=m) (n:=rs.length) ?_ ?_
 ·exact⟨0,[],_,by simp(disch:=first|exact okD|fail) only[go_sem,seval],by simp(disch:=first|exact okD|fail) only[go_sem,seval],by(simp(disch:=first|exact okD|fail) only[go_sem,seval])<;>rfl,by simp(disch:=first|exact okD|fail) only[go_sem,seval],(Grs.refl _).push,Hp.push_same,Nat.lt_succ_self _,Nat.le_refl _,rfl,FrL.nil,Nat.zero_le _,rfl⟩
 ·rintro m ⟨tm,hp⟩ ⟨i,L,c,h9,h10,h11,h3,hG,hgT,hT,hc,hL,hF,hle,rfl⟩
  simp only at h9 h10 h11 h3 hG hgT hT hc hF
  have hgp:=(hG.get ht).trans hga
  have hls:((L++List.replicate (rs.length-i) Fc.z).flatMap Fc.l).length=rs.length*4:=by
   rw[flat_len Fc.l_len,List.length_append,List.length_replicate,hL];congr 1;omega
  by_cases hlt:i<rs.length
  ·have hlt':(i:Int)<rs.length:=by omega
   have hcs:(rs.map fun r=>AV.str (txtR r))[i]?=some (.str (txtR rs[i])):=by
    rw[List.getElem?_map,List.getElem?_eq_getElem hlt];rfl
   have htk:rs.take (i+1)=rs.take i++[rs[i]]:=by rw[List.take_add_one];simp[hlt]
   have hok:=ok rs[i] (List.getElem_mem hlt)
   have hrep:List.replicate (rs.length-i) Fc.z=Fc.z::List.replicate (rs.length-(i+1)) Fc.z:=by
    rw[show rs.length-i=rs.length-(i+1)+1 by omega];rfl
   have hcell:isCell (hp.get h.next)=true:=by
    rw[hgT];exact isCell_flat (by rw[hrep];simp)
   have hle1:i*4+4≤((L++List.replicate (rs.length-i) Fc.z).flatMap Fc.l).length:=by omega
   have hset:=fun x:Fc=>flat_set (L:=L) (x:=x) (R:=List.replicate (rs.length-(i+1)) Fc.z) (y:=Fc.z)
   rw[←hrep,hL]at hset
   have hlt1:i+1≤rs.length:=hlt
   generalize rs[i]=r at *
   generalize (L++List.replicate (rs.length-i) Fc.z).flatMap Fc.l=cells at *
   repeat' (with_reducible first|simp(disch:=first|exact okD|fail) only[go_sem,seval,h9,h10,h11,h3,hlt',hgp,hcs,hlt1]|(apply Spl.i<;>intro hc))
   refine Gp.wp (i111 hok) fun v1 k1 a1 b1 u1 I1=>?_
   obtain⟨x,rfl,o1,o2⟩:=I1.cell
   have hset':=hset x
   have gu:Grs hp (hp.ov k1 u1):=⟨_,_,u1⟩
   have hcell':isCell ((hp.ov k1 u1).get h.next)=true:=by rw[gu.get hT];exact hcell
   repeat' (with_reducible first|simp(disch:=first|exact okD|fail) only[go_sem,seval,h9,h10,h11,h3,hgT,hle1,o1,o2,Fc.l]|(apply Spl.i<;>intro hc))
   refine⟨_,by omega,i+1,L++[x],_,rfl,okG,congrArg (fun q=>some (AObj.row q true _)) hset',by omega,Nat.le_refl _,by simp[hL],?_,hlt,rfl⟩
   rw[htk]
   exact((hF.grs gu).putI hcell').snoc (I1.putI hcell')
  ·have hlt':¬(i:Int)<rs.length:=by omega
   obtain rfl:i=rs.length:=by omega
   repeat' (with_reducible first|simp(disch:=first|exact okD|fail) only[go_sem,seval,h9,h10,h11,h3,hlt']|(apply Spl.i<;>intro hc))
   rw[Nat.sub_self,List.replicate_zero,List.append_nil]at hgT
   rw[List.take_length]at hF
   exact⟨⟨⟨L,⟨by rw[flat_len Fc.l_len,hL],.inr ⟨_,_,_,rfl,hgT,hT,hc⟩⟩,hF⟩,Nat.le_refl _⟩,hG⟩
end
end
end Go.Ae
set_option linter.unusedVariables false
set_option linter.unusedSimpArgs false
set_option maxRecDepth 100000
set_option maxHeartbeats 1000000
set_option exponentiation.threshold 5000
namespace Go.Ae
open Bg N Go.Proofs
noncomputable section
section
variable {h h' hp:Hp} {K:AV→Hp→Prop} {tm:T AV} {v va vb s w:AV} {z z':Int} {a b c r:Rat}
theorem d130_2 {t:Nat} {a b:Int} (hA:At h t [.int .i64 a,.int .i64 b]) (ht:t<h.next):Gv E2 130 [.sl t 0 2 1] h (.int .i64 (first2 a b)):=by
 obtain⟨st,hg⟩:=hA
 exact c130_2 hg ht
theorem cmpR_sgR (a b:Rat):cmpR a b=sgR (a-b):=by
 have e1:cmpR a b<0↔a<b:=by
  rw[Rat.lt_iff];unfold cmpR cmpI;split<;>first|omega|(split<;>omega)
 have e2:cmpR a b≤0↔a≤b:=by
  rw[Rat.le_iff];unfold cmpR cmpI;split<;>first|omega|(split<;>omega)
 have e3:cmpR a b= -1∨cmpR a b=0∨cmpR a b=1:=by unfold cmpR cmpI;split<;>first|omega|(split<;>omega)
 have e4:sgR (a-b)= -1∨sgR (a-b)=0∨sgR (a-b)=1:=by unfold sgR;split<;>first|omega|(split<;>omega)
 have e5:=sgR_lt (a:=a) (b:=b)
 have e6:=sgR_le (a:=a) (b:=b)
 by_cases l1:a<b
 ·have:=e1.2 l1;have:=e5.2 l1;omega
 ·have k1:=mt e1.1 l1;have k2:=mt e5.1 l1
  by_cases l2:a≤b
  ·have:=e2.2 l2;have:=e6.2 l2;omega
  ·have k1:=mt e2.1 l2;have k2:=mt e6.1 l2
   omega
theorem d25_2 {t:Nat} {a b:Int} (hA:At h t [.int .i64 a,.int .i64 b]) (ht:t<h.next):Gv E3 25 [.sl t 0 2 1] h (.int .i64 (if a=0 then b else a)):=by
 refine Gv.of (CallWp.fn (fn:=R.a25) rfl rfl rfl ?_)
 unfold R.a25
 obtain⟨st,hg⟩:=hA
 by_cases ha:a=0<;>by_cases hb:b=0
 all_goals(first|rw[if_pos ha]|rw[if_neg ha])
 all_goals repeat' (with_reducible first|simp(disch:=first|exact okD|fail) only[go_sem,seval,Wp.unroll,hg]|(apply Spl.i<;>intro hc))
 all_goals try subst hb
 all_goals first|rfl|exact okG
end
end
end Go.Ae
set_option linter.unusedVariables false
set_option linter.unusedSimpArgs false
set_option maxRecDepth 100000
set_option maxHeartbeats 1000000
namespace Go.Ae
open Bg N Go.Proofs
noncomputable section
def mn (a b:Rat):Rat:=if b<a then b else a
def mx (a b:Rat):Rat:=if a<b then b else a
theorem cmpR_lt {a b:Rat}:cmpR a b<0↔a<b:=by rw[cmpR_sgR];exact sgR_lt
theorem cmpR_gt {a b:Rat}:0<cmpR a b↔b<a:=by rw[cmpR_sgR];exact sgR_gt
section
variable {h h' h0 hp:Hp} {K:AV→Hp→Prop} {tm:T AV} {v va vb s w:AV} {z:Nat} {a b c r:Rat} {L:List Fc} {l:List Rat} {x:Fc}
theorem i243 {t n st:Nat} {own:Bool} {x:Fc} {L:List Fc} {a:Rat} {l:List Rat} (hn:n=l.length+1) (hn2:n≤1000000) (hg:h.get t=some (.row ((x::L).flatMap Fc.l) own st)) (ht:t<h.next) (hs:st≤h.clk) (hF:FrL h (x::L) (a::l)) (hb:∀r∈a::l,Bd 1900 r):
  Gp E2 243 [.sl t 0 n 4,.fn 161 []] h fun v h'=>IsF h' v (l.foldl mn a):=by
 refine Gp.of (CallWp.fn (fn:=C.a243) rfl rfl rfl ?_)
 unfold C.a243
 have hL:L.length=l.length:=by simpa using hF.1
 have Ia:IsF h (.agg x.l) a:=hF.2 0 (by simp) (by simp)
 obtain⟨ox,ou⟩:=Ia.ones
 have hlen:((x::L).flatMap Fc.l).length=n*4:=by rw[flat_len Fc.l_len,List.length_cons,hL,hn]
 have hat:=fun(i:Nat) (hi:i<(x::L).length)=>flat_at Fc.l_len hi
 have e0:List.take 4 ((x::L).flatMap Fc.l)=x.l:=hat 0 (Nat.succ_pos _)
 have h4:4≤((x::L).flatMap Fc.l).length:=by omega
 have hn1:¬(n:Int)<1:=by omega
 have hn0:(0:Int)<n:=by omega
 have hIs:=fun(i:Nat) (hi:i<(x::L).length) (hi':i<(a::l).length)=>hF.2 i hi hi'
 generalize (x::L).flatMap Fc.l=cells at *
 have ex:x.l=[.int .i64 x.n,x.w,.int .i64 x.d,x.u]:=rfl
 repeat' (with_reducible first|simp(disch:=first|exact okD|fail) only[go_sem,seval,hg,h4,e0,ex,ox,ou,hn1,hn0]|(apply Spl.i<;>intro hc))
 refine Wp.loopI (fun k s=>∃(i:Nat) (y:Fc) (m:Rat),val s.tm (.t 0)= .sl t 0 n 4∧val s.tm (.t 1)= .fn 161 []∧val s.tm (.t 4)= .ptr h.next 0∧val s.tm (.t 5)= .ptr (h.next+1) 0∧val s.tm (.t 6)= .int .i64 ((i:Int)+1)∧
  AtS s.hp h.next [.int .i64 0,.nils,.int .i64 0,.nils]∧AtS s.hp (h.next+1) y.l∧Grs h s.hp∧IsF s.hp (.agg y.l) m∧Bd 1900 m∧(l.drop i).foldl mn m=l.foldl mn a∧i≤l.length∧l.length-i=k) (n:=l.length) ?_ ?_
 ·refine⟨0,x,a,by simp(disch:=first|exact okD|fail) only[go_sem,seval],by simp(disch:=first|exact okD|fail) only[go_sem,seval],by simp(disch:=first|exact okD|fail) only[go_sem,seval],by simp(disch:=first|exact okD|fail) only[go_sem,seval],by(simp(disch:=first|exact okD|fail) only[go_sem,seval])<;>rfl,?_,?_,?_,?_,hb a (by simp),rfl,Nat.zero_le _,rfl⟩
  ·exact(AtS.push.grs (Grs.refl _).push).other (by omega)
  ·exact AtS.put okO
  ·exact okG
  ·exact(Ia.grs okG).putI (by simp(disch:=first|exact okD|fail) only[go_sem,seval,isCell_row])
 ·rintro k ⟨tm,hp⟩ ⟨i,y,m,h0,h1,h4',h5,h6,⟨s4,q4,c4,t4⟩,A5,hG,Im,bm,hfold,hle,rfl⟩
  simp only at h0 h1 h4' h5 h6 q4 c4 t4 A5 hG Im
  obtain⟨oy,ov⟩:=Im.ones
  have ey:y.l=[.int .i64 y.n,y.w,.int .i64 y.d,y.u]:=rfl
  have hgp:=(hG.get ht).trans hg
  have htp:t<hp.next:=Nat.lt_of_lt_of_le ht hG.next
  have hsp:st≤hp.clk:=Nat.le_trans hs hG.clk
  by_cases hlt:i<l.length
  ·have hlt':(i:Int)+1<n:=by omega
   have hi0:(0:Int)≤(i:Int)+1:=by omega
   have et:((i:Int)+1).toNat=i+1:=by omega
   have hz:=hat (i+1) (by simp;omega)
   have Iz:=(hIs (i+1) (by simp;omega) (by simp;omega)).grs hG
   simp only[List.getElem_cons_succ]at hz Iz
   have bz:=hb l[i] (by simp)
   have hdr:l.drop i=l[i]::l.drop (i+1):=List.drop_eq_getElem_cons hlt
   rw[hdr,List.foldl_cons]at hfold
   have hle1:(i+1)*4+4≤cells.length:=by omega
   have hlt1:i+1≤l.length:=hlt
   generalize L[i]=z at *
   generalize l[i]=b at *
   obtain⟨oz,op⟩:=Iz.ones
   have ez:z.l=[.int .i64 z.n,z.w,.int .i64 z.d,z.u]:=rfl
   obtain⟨s5,q5,c5,t5⟩:=id A5
   rw[ey]at q5
   rw[ez]at hz
   repeat' (with_reducible first|simp(disch:=first|exact okD|fail) only[go_sem,seval,h0,h1,h5,h6,hgp,q5,hz,hlt',hi0,et,hle1,oz,op,oy,ov]|(apply Spl.i<;>intro hc))
   refine Gv.wp (i161 (a:=b) (b:=m) ?_ ?_ bz bm) fun h9 k9 j9 g9=>?_
   ·exact Iz
   ·exact Im
   by_cases c:b<m
   ·have c':cmpR b m<0:=cmpR_lt.2 c
    rw[show mn m b=b from if_pos c]at hfold
    repeat' (with_reducible first|simp(disch:=first|exact okD|fail) only[go_sem,seval,h0,h1,h5,h6,hgp,q5,hz,hlt',hi0,et,hle1,oz,op,oy,ov,c']|(apply Spl.i<;>intro hc))
    have G9:Grs hp (hp.ov h9 g9):=⟨_,_,g9⟩
    have A4:AtS hp h.next [.int .i64 0,.nils,.int .i64 0,.nils]:=⟨s4,q4,c4,t4⟩
    refine⟨_,by omega,i+1,z,b,h4',rfl,(A4.grs G9).other (by omega),AtS.put okO,Grs.put (hG.trans G9) (by omega),?_,bz,hfold,hlt1,rfl⟩
    exact(Iz.grs G9).putI (by rw[Hp.ov_get t5,q5];rfl)
   ·have c':¬cmpR b m<0:=fun e=>c (cmpR_lt.1 e)
    rw[show mn m b=m from if_neg c]at hfold
    repeat' (with_reducible first|simp(disch:=first|exact okD|fail) only[go_sem,seval,h0,h1,h5,h6,hgp,q5,hz,hlt',hi0,et,hle1,oz,op,oy,ov,c']|(apply Spl.i<;>intro hc))
    have G9:Grs hp (hp.ov h9 g9):=⟨_,_,g9⟩
    have A4:AtS hp h.next [.int .i64 0,.nils,.int .i64 0,.nils]:=⟨s4,q4,c4,t4⟩
    exact⟨_,by omega,i+1,y,m,h4',rfl,A4.grs G9,A5.grs G9,hG.trans G9,Im.grs G9,bm,hfold,hlt1,rfl⟩
  ·have hlt':¬(i:Int)+1<n:=by omega
   have hd:l.drop i=[]:=List.drop_eq_nil_of_le (by omega)
   rw[hd,List.foldl_nil]at hfold
   obtain⟨s5,q5,c5,t5⟩:=id A5
   rw[ey]at q5
   repeat' (with_reducible first|simp(disch:=first|exact okD|fail) only[go_sem,seval,h0,h1,h4',h5,h6,q4,q5,hlt',oy,ov]|(apply Spl.i<;>intro hc))
   rw[←hfold]
   exact⟨Im.putI (by simp(disch:=first|exact okD|fail) only[go_sem,seval,isCell_row,q4]),Grs.put hG (by omega)⟩
theorem i244 {t n st:Nat} {own:Bool} {x:Fc} {L:List Fc} {a:Rat} {l:List Rat} (hn:n=l.length+1) (hn2:n≤1000000) (hg:h.get t=some (.row ((x::L).flatMap Fc.l) own st)) (ht:t<h.next) (hs:st≤h.clk) (hF:FrL h (x::L) (a::l)) (hb:∀r∈a::l,Bd 1900 r):
  Gp E2 244 [.sl t 0 n 4,.fn 161 []] h fun v h'=>IsF h' v (l.foldl mx a):=by
 refine Gp.of (CallWp.fn (fn:=C.a244) rfl rfl rfl ?_)
 unfold C.a244
 have hL:L.length=l.length:=by simpa using hF.1
 have Ia:IsF h (.agg x.l) a:=hF.2 0 (by simp) (by simp)
 obtain⟨ox,ou⟩:=Ia.ones
 have hlen:((x::L).flatMap Fc.l).length=n*4:=by rw[flat_len Fc.l_len,List.length_cons,hL,hn]
 have hat:=fun(i:Nat) (hi:i<(x::L).length)=>flat_at Fc.l_len hi
 have e0:List.take 4 ((x::L).flatMap Fc.l)=x.l:=hat 0 (Nat.succ_pos _)
 have h4:4≤((x::L).flatMap Fc.l).length:=by omega
 have hn1:¬(n:Int)<1:=by omega
 have hn0:(0:Int)<n:=by omega
 have hIs:=fun(i:Nat) (hi:i<(x::L).length) (hi':i<(a::l).length)=>hF.2 i hi hi'
 generalize (x::L).flatMap Fc.l=cells at *
 have ex:x.l=[.int .i64 x.n,x.w,.int .i64 x.d,x.u]:=rfl
 repeat' (with_reducible first|simp(disch:=first|exact okD|fail) only[go_sem,seval,hg,h4,e0,ex,ox,ou,hn1,hn0]|(apply Spl.i<;>intro hc))
 refine Wp.loopI (fun k s=>∃(i:Nat) (y:Fc) (m:Rat),val s.tm (.t 0)= .sl t 0 n 4∧val s.tm (.t 1)= .fn 161 []∧val s.tm (.t 4)= .ptr h.next 0∧val s.tm (.t 5)= .ptr (h.next+1) 0∧val s.tm (.t 6)= .int .i64 ((i:Int)+1)∧
  AtS s.hp h.next [.int .i64 0,.nils,.int .i64 0,.nils]∧AtS s.hp (h.next+1) y.l∧Grs h s.hp∧IsF s.hp (.agg y.l) m∧Bd 1900 m∧(l.drop i).foldl mx m=l.foldl mx a∧i≤l.length∧l.length-i=k) (n:=l.length) ?_ ?_
 ·refine⟨0,x,a,by simp(disch:=first|exact okD|fail) only[go_sem,seval],by simp(disch:=first|exact okD|fail) only[go_sem,seval],by simp(disch:=first|exact okD|fail) only[go_sem,seval],by simp(disch:=first|exact okD|fail) only[go_sem,seval],by(simp(disch:=first|exact okD|fail) only[go_sem,seval])<;>rfl,?_,?_,?_,?_,hb a (by simp),rfl,Nat.zero_le _,rfl⟩
  ·exact(AtS.push.grs (Grs.refl _).push).other (by omega)
  ·exact AtS.put okO
  ·exact okG
  ·exact(Ia.grs okG).putI (by simp(disch:=first|exact okD|fail) only[go_sem,seval,isCell_row])
 ·rintro k ⟨tm,hp⟩ ⟨i,y,m,h0,h1,h4',h5,h6,⟨s4,q4,c4,t4⟩,A5,hG,Im,bm,hfold,hle,rfl⟩
  simp only at h0 h1 h4' h5 h6 q4 c4 t4 A5 hG Im
  obtain⟨oy,ov⟩:=Im.ones
  have ey:y.l=[.int .i64 y.n,y.w,.int .i64 y.d,y.u]:=rfl
  have hgp:=(hG.get ht).trans hg
  have htp:t<hp.next:=Nat.lt_of_lt_of_le ht hG.next
  have hsp:st≤hp.clk:=Nat.le_trans hs hG.clk
  by_cases hlt:i<l.length
  ·have hlt':(i:Int)+1<n:=by omega
   have hi0:(0:Int)≤(i:Int)+1:=by omega
   have et:((i:Int)+1).toNat=i+1:=by omega
   have hz:=hat (i+1) (by simp;omega)
   have Iz:=(hIs (i+1) (by simp;omega) (by simp;omega)).grs hG
   simp only[List.getElem_cons_succ]at hz Iz
   have bz:=hb l[i] (by simp)
   have hdr:l.drop i=l[i]::l.drop (i+1):=List.drop_eq_getElem_cons hlt
   rw[hdr,List.foldl_cons]at hfold
   have hle1:(i+1)*4+4≤cells.length:=by omega
   have hlt1:i+1≤l.length:=hlt
   generalize L[i]=z at *
   generalize l[i]=b at *
   obtain⟨oz,op⟩:=Iz.ones
   have ez:z.l=[.int .i64 z.n,z.w,.int .i64 z.d,z.u]:=rfl
   obtain⟨s5,q5,c5,t5⟩:=id A5
   rw[ey]at q5
   rw[ez]at hz
   repeat' (with_reducible first|simp(disch:=first|exact okD|fail) only[go_sem,seval,h0,h1,h5,h6,hgp,q5,hz,hlt',hi0,et,hle1,oz,op,oy,ov]|(apply Spl.i<;>intro hc))
   refine Gv.wp (i161 (a:=b) (b:=m) ?_ ?_ bz bm) fun h9 k9 j9 g9=>?_
   ·exact Iz
   ·exact Im
   by_cases c:m<b
   ·have c':0<cmpR b m:=cmpR_gt.2 c
    rw[show mx m b=b from if_pos c]at hfold
    repeat' (with_reducible first|simp(disch:=first|exact okD|fail) only[go_sem,seval,h0,h1,h5,h6,hgp,q5,hz,hlt',hi0,et,hle1,oz,op,oy,ov,c']|(apply Spl.i<;>intro hc))
    have G9:Grs hp (hp.ov h9 g9):=⟨_,_,g9⟩
    have A4:AtS hp h.next [.int .i64 0,.nils,.int .i64 0,.nils]:=⟨s4,q4,c4,t4⟩
    refine⟨_,by omega,i+1,z,b,h4',rfl,(A4.grs G9).other (by omega),AtS.put okO,Grs.put (hG.trans G9) (by omega),?_,bz,hfold,hlt1,rfl⟩
    exact(Iz.grs G9).putI (by rw[Hp.ov_get t5,q5];rfl)
   ·have c':¬0<cmpR b m:=fun e=>c (cmpR_gt.1 e)
    rw[show mx m b=m from if_neg c]at hfold
    repeat' (with_reducible first|simp(disch:=first|exact okD|fail) only[go_sem,seval,h0,h1,h5,h6,hgp,q5,hz,hlt',hi0,et,hle1,oz,op,oy,ov,c']|(apply Spl.i<;>intro hc))
    have G9:Grs hp (hp.ov h9 g9):=⟨_,_,g9⟩
    have A4:AtS hp h.next [.int .i64 0,.nils,.int .i64 0,.nils]:=⟨s4,q4,c4,t4⟩
    exact⟨_,by omega,i+1,y,m,h4',rfl,A4.grs G9,A5.grs G9,hG.trans G9,Im.grs G9,bm,hfold,hlt1,rfl⟩
  ·have hlt':¬(i:Int)+1<n:=by omega
   have hd:l.drop i=[]:=List.drop_eq_nil_of_le (by omega)
   rw[hd,List.foldl_nil]at hfold
   obtain⟨s5,q5,c5,t5⟩:=id A5
   rw[ey]at q5
   repeat' (with_reducible first|simp(disch:=first|exact okD|fail) only[go_sem,seval,h0,h1,h4',h5,h6,q4,q5,hlt',oy,ov]|(apply Spl.i<;>intro hc))
   rw[←hfold]
   exact⟨Im.putI (by simp(disch:=first|exact okD|fail) only[go_sem,seval,isCell_row,q4]),Grs.put hG (by omega)⟩
end
end
end Go.Ae
set_option linter.unusedVariables false
set_option linter.unusedSimpArgs false
set_option maxRecDepth 100000
set_option maxHeartbeats 16000000
set_option exponentiation.threshold 5000
namespace Go.Ae
open Bg N Go.Proofs
noncomputable section
def spT (a b:Rat):AV:=if okR a=true∧okR b=true then .tup [.agg [.str (txtR a),.str (txtR b)],.int .i64 0]else .tup [.agg [.str [],.str []],.int .i64 4]
theorem spT_yes {a b:Rat} (h:okR a=true) (h':okR b=true):spT a b= .tup [.agg [.str (txtR a),.str (txtR b)],.int .i64 0]:=if_pos ⟨h,h'⟩
theorem spT_no {a b:Rat} (h:¬(okR a=true∧okR b=true)):spT a b= .tup [.agg [.str [],.str []],.int .i64 4]:=if_neg h
section
variable {h h' h0 hp:Hp} {K:AV→Hp→Prop} {tm:T AV} {v va vb s w:AV} {z:Nat} {a b c d r:Rat} {L:List Fc} {l:List Rat} {x:Fc}
theorem x114 (ia:IsF h va a) (ib:IsF h vb b) (la:Bd 3999 a) (lb:Bd 3999 b) (ha:(txtR a).length≤1000000) (hb:(txtR b).length≤1000000):Gv EX 114 [va,vb] h (spT a b):=by
 obtain⟨x,ea,ox,ou⟩:=ia.cell
 obtain⟨y,eb,oy,ov⟩:=ib.cell
 subst ea;subst eb
 have ex:x.l=[.int .i64 x.n,x.w,.int .i64 x.d,x.u]:=rfl
 have ey:y.l=[.int .i64 y.n,y.w,.int .i64 y.d,y.u]:=rfl
 rw[ex]at ia⊢
 rw[ey]at ib⊢
 refine Gv.of (CallWp.fn (fn:=C.a114) rfl rfl rfl ?_)
 unfold C.a114
 repeat' (with_reducible first|simp(disch:=first|exact okD|fail) only[go_sem,seval,ox,ou,oy,ov]|(apply Spl.i<;>intro hc))
 refine Gv.wp (x140 (ia.grs okG) la) fun h1 k1 j1 u1=>?_
 by_cases c1:okR a=true
 ·rw[c1]
  repeat' (with_reducible first|simp(disch:=first|exact okD|fail) only[go_sem,seval,ox,ou,oy,ov,Bool.not_true]|(apply Spl.i<;>intro hc))
  refine Gv.wp (x140 (ib.grs okG) lb) fun h2 k2 j2 u2=>?_
  by_cases c2:okR b=true
  ·rw[c2,spT_yes c1 c2]
   repeat' (with_reducible first|simp(disch:=first|exact okD|fail) only[go_sem,seval,ox,ou,oy,ov,Bool.not_true]|(apply Spl.i<;>intro hc))
   refine Gv.wp (x196 (ia.grs okG) la ha) fun h3 k3 j3 u3=>?_
   repeat' (with_reducible first|simp(disch:=first|exact okD|fail) only[go_sem,seval,ox,ou,oy,ov]|(apply Spl.i<;>intro hc))
   refine Gv.wp (x196 (ib.grs okG) lb hb) fun h4 k4 j4 u4=>?_
   repeat' (with_reducible first|simp(disch:=first|exact okD|fail) only[go_sem,seval]|(apply Spl.i<;>intro hc))
   exact okG
  ·have c2':okR b=false:=by simpa using c2
   rw[c2',spT_no fun e=>c2 e.2]
   repeat' (with_reducible first|simp(disch:=first|exact okD|fail) only[go_sem,seval,ox,ou,oy,ov,Bool.not_false]|(apply Spl.i<;>intro hc))
   exact okG
 ·have c1':okR a=false:=by simpa using c1
  rw[c1',spT_no fun e=>c1 e.1]
  repeat' (with_reducible first|simp(disch:=first|exact okD|fail) only[go_sem,seval,ox,ou,oy,ov,Bool.not_false]|(apply Spl.i<;>intro hc))
  exact okG
theorem i137_2 {t:Nat} (hA:At h t [.str (txtR a),.str (txtR b)]) (ht:t<h.next) (oa:okR a=true) (ob:okR b=true):Gp E2 137 [.sl t 0 2 1] h fun v h'=>FrS h' v [a,b]∧h.next≤v.tok:=
 i137 (rs:=[a,b]) hA ht (fun r hr=>by simp at hr;rcases hr with rfl|rfl<;>assumption) (by simp)
def mn4 (a b c d:Rat):Rat:=mn (mn (mn a b) c) d
def mx4 (a b c d:Rat):Rat:=mx (mx (mx a b) c) d
theorem mn4_eq:[b,c,d].foldl mn a=mn4 a b c d:=rfl
theorem mx4_eq:[b,c,d].foldl mx a=mx4 a b c d:=rfl
theorem mn_p {P:Rat→Prop} (ha:P a) (hb:P b):P (mn a b):=by unfold mn;split<;>assumption
theorem mx_p {P:Rat→Prop} (ha:P a) (hb:P b):P (mx a b):=by unfold mx;split<;>assumption
theorem mn4_p {P:Rat→Prop} (ha:P a) (hb:P b) (hc:P c) (hd:P d):P (mn4 a b c d):=mn_p (mn_p (mn_p ha hb) hc) hd
theorem mx4_p {P:Rat→Prop} (ha:P a) (hb:P b) (hc:P c) (hd:P d):P (mx4 a b c d):=mx_p (mx_p (mx_p ha hb) hc) hd
def resL (op:Rat→Rat→Rat) (X Y:List Rat) (i:Nat):List Rat:=(X.take i).flatMap fun x=>Y.map (op x)
theorem resL_step {op:Rat→Rat→Rat} {X Y:List Rat} {i:Nat} (hi:i<X.length):resL op X Y i++Y.map (op X[i])=resL op X Y (i+1):=by
 unfold resL
 rw[List.take_add_one,List.flatMap_append,List.getElem?_eq_getElem hi]
 simp
theorem OwnZ.lt {z n t o n':Nat} {cs:List AV} (O:OwnZ z h0 h v n cs) (e:v= .sl t o n' z):t<h.next:=by
 obtain⟨_,⟨e1,_⟩|⟨t1,st,e1,_,_,h2,_⟩⟩:=O
 ·rw[e1]at e;cases e
 ·rw[e1]at e;injection e with e;omega
theorem fill4 {n n':Int} {w w':AV} (h1:w.one=true) (h2:w'.one=true):fillA [.int .i64 0,.nils,.int .i64 0,.nils] [(0,4,.agg [.int .i64 n,w,.int .i64 n',w'])]=some [.int .i64 n,w,.int .i64 n',w']:=by
 have e1:(AV.agg [.int .i64 n,w,.int .i64 n',w']).cells=[.int .i64 n,w,.int .i64 n',w']:=rfl
 rw[fillA_cons (by rw[e1];exact⟨rfl,by simp,by simp only[List.all_cons,List.all_nil,h1,h2,one_int,Bool.and_self]⟩),fillA_nil,e1]
 rfl
theorem x165_end {hB:Hp} {tm:T AV} {hp:Hp} {v8:AV} {M:List Fc} {s6:Nat} (h6:val tm (.t 6)= .ptr (h.next+2) 0) (h8:val tm (.t 8)=v8) (q6:hp.get (h.next+2)=some (.row [.str [],.str []] true s6)) (lt6:h.next+2<hp.next) (hG:Grs h hp)
  (hO:OwnZ 4 hB hp v8 (2*2) (M.flatMap Fc.l)) (hF:FrL hp M [a,b,c,d]) (ba:Bd 400 a) (bb:Bd 400 b) (bc:Bd 400 c) (bd:Bd 400 d):
  Wp EX (C.a165.code.post 3) ⟨tm,hp⟩ (RetQ [.cell 6 true 2,.tmp 7] fun v h'=>v=spT (mn4 a b c d) (mx4 a b c d)∧Grs h h'):=by
 unfold C.a165
 dsimp only[ACode.post]
 obtain⟨hlen,⟨_,e⟩|⟨t,st,rfl,hg,h1',h2',h3'⟩⟩:=hO
 ·exact absurd e (by decide)
 obtain⟨x0,M,rfl⟩:∃x0 M',M=x0::M':=by
  cases M with
  |nil=>exact absurd hF.1 (by simp)
  |cons x0 M'=>exact⟨_,_,rfl⟩
 have hb:∀r∈a::[b,c,d],Bd 1900 r:=fun r hr=>by
  simp only[List.mem_cons,List.not_mem_nil,or_false]at hr
  rcases hr with rfl|rfl|rfl|rfl
  ·exact ba.mono (by decide)
  ·exact bb.mono (by decide)
  ·exact bc.mono (by decide)
  ·exact bd.mono (by decide)
 obtain⟨lm,ll⟩:=len_of (mn4_p (P:=Bd 400) ba bb bc bd) (by decide)
 obtain⟨hm,hl⟩:=len_of (mx4_p (P:=Bd 400) ba bb bc bd) (by decide)
 have A:=fun h=>i243 (h:=h) (t:=t) (n:=4) (own:=true) (st:=st) (x:=x0) (L:=M) (a:=a) (l:=[b,c,d]) rfl (by decide)
 have B:=fun h=>i244 (h:=h) (t:=t) (n:=4) (own:=true) (st:=st) (x:=x0) (L:=M) (a:=a) (l:=[b,c,d]) rfl (by decide)
 rw[mn4_eq]at A
 rw[mx4_eq]at B
 generalize mn4 a b c d=lo at *
 generalize mx4 a b c d=hi at *
 repeat' (with_reducible first|simp(disch:=first|exact okD|fail) only[go_sem,seval,h6,h8]|(apply Spl.i<;>intro hc))
 refine Gp.wp (xp2 (A _ hg h2' h3' hF hb)) fun v5 h5 k5 j5 g5 I5=>?_
 have G5:Grs hp (hp.ov h5 g5):=⟨_,_,g5⟩
 repeat' (with_reducible first|simp(disch:=first|exact okD|fail) only[go_sem,seval,h6,h8]|(apply Spl.i<;>intro hc))
 refine Gp.wp (xp2 (B _ ((G5.get h2').trans hg) (Nat.lt_of_lt_of_le h2' G5.next) (Nat.le_trans h3' G5.clk) (hF.grs G5) hb)) fun v6 h6' k6 j6 g6 I6=>?_
 have cx:=x114 (h:=(hp.ov h5 g5).ov h6' g6) (I5.grs ⟨_,_,g6⟩) I6 lm hm ll hl
 by_cases hk:okR lo=true∧okR hi=true
 ·rw[spT_yes hk.1 hk.2]at cx⊢
  repeat' (with_reducible first|simp(disch:=first|exact okD|fail) only[go_sem,seval,h6,h8,q6]|(refine Gv.wp (cx) fun _ _ _ _=>?_)|(apply Spl.i<;>intro hc))
  exact Grs.put (t:=h.next+2) (hG.trans okG) (by omega)
 ·rw[spT_no hk]at cx⊢
  repeat' (with_reducible first|simp(disch:=first|exact okD|fail) only[go_sem,seval,h6,h8,q6]|(refine Gv.wp (cx) fun _ _ _ _=>?_)|(apply Spl.i<;>intro hc))
  exact Grs.put (t:=h.next+2) (hG.trans okG) (by omega)
theorem x165 {f:Nat} {op:Rat→Rat→Rat} (oa:okR a=true) (ob:okR b=true) (oc:okR c=true) (od:okR d=true)
  (hop:∀x∈[a,b],∀y∈[c,d],∀{h va vb},IsF h va x→IsF h vb y→Gp EX f [va,vb] h fun v h'=>IsF h' v (op x y)) (hbd:∀x∈[a,b],∀y∈[c,d],Bd 400 (op x y)):
  Gv EX 165 [.agg [.str (txtR a),.str (txtR b)],.agg [.str (txtR c),.str (txtR d)],.fn f []] h (spT (mn4 (op a c) (op a d) (op b c) (op b d)) (mx4 (op a c) (op a d) (op b c) (op b d))):=by
 refine Gv.of (CallWp.fn (fn:=C.a165) rfl rfl rfl ?_)
 have fin:=fun hB tm hp v8 M s6 h6 h8 q6 n6 hG hO hF=>x165_end (h:=h) (hB:=hB) (tm:=tm) (hp:=hp) (v8:=v8) (M:=M) (s6:=s6) h6 h8 q6 n6 hG hO hF (hbd a (by simp) c (by simp)) (hbd a (by simp) d (by simp)) (hbd b (by simp) c (by simp)) (hbd b (by simp) d (by simp))
 refine Wp.cut 3 rfl ?_
 generalize ACode.post 3 C.a165.code=rest at fin⊢
 unfold C.a165
 dsimp only[ACode.pre]
 repeat' (with_reducible first|simp(disch:=first|exact okD|fail) only[go_sem,seval]|(apply Spl.i<;>intro hc))
 refine Gp.wp (xp2 (i137_2 (a:=a) (b:=b) okA okO oa ob)) fun v1 h1 k1 j1 g1 ⟨F1,_⟩=>?_
 obtain⟨t1,own1,st1,L1,rfl,q1,l1,c1,F1⟩:=F1.at (by simp)
 obtain⟨s4,q4⟩:At (Hp.ov _ h1 g1) (h.next+1) [.str (txtR c),.str (txtR d)]:=okA
 obtain⟨s6,q6⟩:At (Hp.ov _ h1 g1) (h.next+2) [.str [],.str []]:=okA
 have G1:Grs h (Hp.ov _ h1 g1):=okG
 have n1:h.next+3<(Hp.ov _ h1 g1).next:=okO
 have hL1:L1.length=2:=F1.1
 have hl1:(L1.flatMap Fc.l).length=8:=by rw[flat_len Fc.l_len,hL1]
 have ht1:=fun(i:Nat) (hi:i<L1.length)=>flat_at Fc.l_len hi
 generalize Hp.ov _ h1 g1=hB at *
 repeat' (with_reducible first|simp(disch:=first|exact okD|fail) only[go_sem,seval]|(apply Spl.i<;>intro hc))
 refine Wp.loopI (fun k s=>∃(i:Nat) (v8:AV) (M:List Fc),val s.tm (.t 2)= .fn f []∧val s.tm (.t 4)= .ptr (h.next+1) 0∧val s.tm (.t 6)= .ptr (h.next+2) 0∧val s.tm (.t 8)=v8∧val s.tm (.t 18)= .sl t1 0 2 4∧val s.tm (.t 19)= .int .i64 2∧val s.tm (.t 20)= .int .i64 i∧
  Grs hB s.hp∧OwnZ 4 hB s.hp v8 (i*2) (M.flatMap Fc.l)∧FrL s.hp M (resL op [a,b] [c,d] i)∧(M=[]→v8= .nils)∧i≤2∧2-i=k) (n:=2) ?_ ?_
 ·exact⟨0,.nils,[],by simp(disch:=first|exact okD|fail) only[go_sem,seval],by simp(disch:=first|exact okD|fail) only[go_sem,seval],by simp(disch:=first|exact okD|fail) only[go_sem,seval],by simp(disch:=first|exact okD|fail) only[go_sem,seval],by simp(disch:=first|exact okD|fail) only[go_sem,seval],by simp(disch:=first|exact okD|fail) only[go_sem,seval],by(simp(disch:=first|exact okD|fail) only[go_sem,seval])<;>rfl,Grs.refl _,OwnZ.nil,FrL.nil,fun _=>rfl,Nat.zero_le _,rfl⟩
 ·rintro k ⟨tm,hp⟩ ⟨i,v8,M,h2,h4,h6,h8,h18,h19,h20,hG,hO,hF,hnil,hle,rfl⟩
  simp only at h2 h4 h6 h8 h18 h19 h20 hG hO hF
  have q1':=(hG.get l1).trans q1
  have q4':=(hG.get (show h.next+1<hB.next by omega)).trans q4
  have hnx:=hG.next
  by_cases hlt:i<2
  ·have hlt':(i:Int)<2:=by omega
   have hle1:i*4+4≤(L1.flatMap Fc.l).length:=by omega
   have hz:=ht1 i (by omega)
   have Ix:=F1.2 i (by omega) hlt
   generalize L1.flatMap Fc.l=cells at *
   obtain⟨x,hx⟩:∃x,x=L1[i]'(by omega):=⟨_,rfl⟩
   rw[←hx]at hz Ix
   have ex:x.l=[.int .i64 x.n,x.w,.int .i64 x.d,x.u]:=rfl
   rw[ex]at hz
   obtain⟨ox,ou⟩:=Ix.ones
   repeat' (with_reducible first|simp(disch:=first|exact okD|fail) only[go_sem,seval,h2,h4,h6,h8,h18,h19,h20,q1',q4',hlt',hle1,hz,ox,ou]|(apply Spl.i<;>intro hc))
   refine Gp.wp (xp2 (i137_2 (a:=c) (b:=d) okA okO oc od)) fun v2 h3 k3 j3 g3 ⟨F2,ft⟩=>?_
   obtain⟨t2,own2,st2,L2,rfl,q2,l2,c2,F2⟩:=F2.at (by simp)
   have ft':hp.next<t2:=Nat.lt_of_lt_of_le okO ft
   obtain⟨s10,q10⟩:At (Hp.ov _ h3 g3) hp.next x.l:=by rw[ex];exact okA
   have G3:Grs hp (Hp.ov _ h3 g3):=okG
   have n3:hp.next<(Hp.ov _ h3 g3).next:=okO
   have hL2:L2.length=2:=F2.1
   have hl2:(L2.flatMap Fc.l).length=8:=by rw[flat_len Fc.l_len,hL2]
   have ht2:=fun(j:Nat) (hj:j<L2.length)=>flat_at Fc.l_len hj
   generalize Hp.ov _ h3 g3=hC at *
   generalize hcells:L2.flatMap Fc.l=cells2 at *
   have mx:[a,b][i]∈[a,b]:=List.getElem_mem hlt
   have hres:=resL_step (op:=op) (X:=[a,b]) (Y:=[c,d]) (i:=i) hlt
   generalize [a,b][i]=xr at *
   repeat' (with_reducible first|simp(disch:=first|exact okD|fail) only[go_sem,seval,h8]|(apply Spl.i<;>intro hc))
   refine Wp.loopI (fun k s=>∃(j:Nat) (v8:AV) (M:List Fc),val s.tm (.t 2)= .fn f []∧val s.tm (.t 4)= .ptr (h.next+1) 0∧val s.tm (.t 6)= .ptr (h.next+2) 0∧val s.tm (.t 8)=v8∧val s.tm (.t 10)= .ptr hp.next 0∧val s.tm (.t 18)= .sl t1 0 2 4∧val s.tm (.t 19)= .int .i64 2∧val s.tm (.t 20)= .int .i64 i∧
    val s.tm (.t 29)= .sl t2 0 2 4∧val s.tm (.t 30)= .int .i64 2∧val s.tm (.t 31)= .int .i64 j∧Grs hB s.hp∧hC.next≤s.hp.next∧s.hp.get hp.next=some (.row x.l true s10)∧s.hp.get t2=some (.row cells2 own2 st2)∧FrL s.hp L2 [c,d]∧
    OwnZ 4 hB s.hp v8 (i*2+j) (M.flatMap Fc.l)∧FrL s.hp M (resL op [a,b] [c,d] i++([c,d].take j).map (op xr))∧(M=[]→v8= .nils)∧(∀t' o n',v8= .sl t' o n' 4→t'≠hp.next∧t'≠t2)∧j≤2∧2-j=k) (n:=2) ?_ ?_
   ·refine⟨0,v8,M,by simp(disch:=first|exact okD|fail) only[go_sem,seval,h2],by simp(disch:=first|exact okD|fail) only[go_sem,seval,h4],by simp(disch:=first|exact okD|fail) only[go_sem,seval,h6],by simp(disch:=first|exact okD|fail) only[go_sem,seval,h8],by simp(disch:=first|exact okD|fail) only[go_sem,seval],by simp(disch:=first|exact okD|fail) only[go_sem,seval,h18],by simp(disch:=first|exact okD|fail) only[go_sem,seval,h19],by simp(disch:=first|exact okD|fail) only[go_sem,seval,h20],by simp(disch:=first|exact okD|fail) only[go_sem,seval],by simp(disch:=first|exact okD|fail) only[go_sem,seval],by(simp(disch:=first|exact okD|fail) only[go_sem,seval])<;>rfl,hG.trans G3,Nat.le_refl _,q10,q2,F2,hO.grs G3,by simpa using hF.grs G3,hnil,?_,Nat.zero_le _,rfl⟩
    intro t' o n' e
    have:=hO.lt e
    omega
   ·clear h2 h4 h6 h8 h18 h19 h20 hO hF hnil
    rintro k ⟨tm,hq⟩ ⟨j,v8,M,h2,h4,h6,h8,h10,h18,h19,h20,h29,h30,h31,hG',hN,p10,p2,hF2,hO,hF,hnil,hne,hle',rfl⟩
    simp only at h2 h4 h6 h8 h10 h18 h19 h20 h29 h30 h31 hG' hN p10 p2 hF2 hO hF
    rw[ex]at p10
    by_cases hj:j<2
    ·have hj':(j:Int)<2:=by omega
     have hle2:j*4+4≤cells2.length:=by omega
     have hy:=ht2 j (by omega)
     have Iy:=hF2.2 j (by omega) hj
     have my:[c,d][j]∈[c,d]:=List.getElem_mem hj
     have htk:[c,d].take (j+1)=[c,d].take j++[[c,d][j]]:=by rw[List.take_add_one];simp[hj]
     obtain⟨y,hy0⟩:∃y,y=L2[j]'(by omega):=⟨_,rfl⟩
     rw[←hy0]at hy Iy
     generalize [c,d][j]=yr at *
     have ey:y.l=[.int .i64 y.n,y.w,.int .i64 y.d,y.u]:=rfl
     rw[ey]at hy
     obtain⟨oy,ov⟩:=Iy.ones
     repeat' (with_reducible first|simp(disch:=first|exact okD|fail) only[go_sem,seval,h2,h4,h6,h8,h10,h18,h19,h20,h29,h30,h31,p10,p2,hj',hle2,hy,ox,ou,oy,ov]|(apply Spl.i<;>intro hc))
     refine Gp.wp (hop xr mx yr my ((Ix.grs hG').grs okG) (Iy.grs okG)) fun v5 h5 k5 j5 g5 I5=>?_
     obtain⟨r,rfl,o5,u5⟩:=I5.cell
     have er:r.l=[.int .i64 r.n,r.w,.int .i64 r.d,r.u]:=rfl
     rw[er]
     have Gq:Grs hq (Hp.ov _ h5 g5):=okG
     generalize Hp.ov _ h5 g5=hr at *
     repeat' (with_reducible first|simp(disch:=first|exact okD|fail) only[go_sem,seval,h2,h4,h6,h8,h10,h18,h19,h20,h29,h30,h31,o5,u5,fill4 o5 u5]|(apply Spl.i<;>intro hc))
     have O':=hO.grs Gq
     refine OwnZ.wpz (b:=64) (xs:=[.int .i64 r.n,r.w,.int .i64 r.d,r.u]) rfl (hG'.trans Gq) O' rfl (by decide) (by omega) (by omega) fun v9 h9 G9 O9 fr nx ck fresh nn=>?_
     have hv:=OwnZ.isCell O' hnil
     have gn:=Gq.next
     repeat' (with_reducible first|simp(disch:=first|exact okD|fail) only[go_sem,seval,h2,h4,h6,h8,h10,h18,h19,h20,h29,h30,h31]|(apply Spl.i<;>intro hc))
     refine⟨_,by omega,j+1,v9,M++[r],rfl,rfl,G9,by omega,?_,?_,?_,?_,?_,?_,?_,by omega,rfl⟩
     ·exact(fr _ (by omega) fun t' o n' e=>(hne t' o n' e).1.symm).trans ((Gq.get (by omega)).trans p10)
     ·exact(fr _ (by omega) fun t' o n' e=>(hne t' o n' e).2.symm).trans ((Gq.get (by omega)).trans p2)
     ·exact(hF2.grs Gq).fr hv fr nx ck
     ·rw[List.flatMap_append];exact O9
     ·rw[htk,List.map_append,←List.append_assoc]
      exact((hF.grs Gq).fr hv fr nx ck).snoc (I5.fr hv fr nx ck)
     ·intro e;simp at e
     ·intro t' o n' e
      have:=fresh t' o n' e
      omega
    ·obtain rfl:j=2:=by omega
     have hj':¬(((2:Nat):Int)<2):=by decide
     repeat' (with_reducible first|simp(disch:=first|exact okD|fail) only[go_sem,seval,h2,h4,h6,h8,h10,h18,h19,h20,h29,h30,h31,hj']|(apply Spl.i<;>intro hc))
     have e2:i*2+2=(i+1)*2:=by omega
     rw[e2]at hO
     rw[show[c,d].take 2=[c,d] from rfl,hres]at hF
     exact⟨_,by omega,i+1,v8,M,rfl,rfl,hG',hO,hF,hnil,by omega,rfl⟩
  ·obtain rfl:i=2:=by omega
   have hlt':¬(((2:Nat):Int)<2):=by decide
   rw[show resL op [a,b] [c,d] 2=[op a c,op a d,op b c,op b d] from rfl]at hF
   have q6':=(hG.get (show h.next+2<hB.next by omega)).trans q6
   have G':=G1.trans hG
   repeat' (with_reducible first|simp(disch:=first|exact okD|fail) only[go_sem,seval,h2,h4,h6,h8,h18,h19,h20,hlt']|(apply Spl.i<;>intro hc))
   exact fin hB _ _ v8 M s6 (by simp(disch:=first|exact okD|fail) only[go_sem,seval,h6]) (by simp(disch:=first|exact okD|fail) only[go_sem,seval,h8]) q6' (Nat.lt_of_lt_of_le (show h.next+2<hB.next by omega) hG.next) G' hO hF
end
end
end Go.Ae
set_option linter.unusedVariables false
set_option linter.unusedSimpArgs false
set_option maxRecDepth 100000
set_option maxHeartbeats 2000000
set_option exponentiation.threshold 5000
namespace Go.Ae
open Bg N Go.Proofs
noncomputable section
def spA (a b:Rat):List UInt8:=if okR a=true∧okR b=true then txtR a else[]
def spB (a b:Rat):List UInt8:=if okR a=true∧okR b=true then txtR b else[]
def spE (a b:Rat):Int:=if okR a=true∧okR b=true then 0 else 4
abbrev spn (s u:List UInt8):AV:= .agg [.str s,.str u]
abbrev spr (p q:List UInt8) (e:Int):AV:= .tup [.agg [.str p,.str q],.int .i64 e]
theorem spT_eq (a b:Rat):spT a b=spr (spA a b) (spB a b) (spE a b):=by
 unfold spT spA spB spE
 by_cases h:okR a=true∧okR b=true
 ·simp only[if_pos h]
 ·simp only[if_neg h]
theorem sgR_max (a:Rat):max (-1) (min 1 a.num)=sgR a:=by
 unfold sgR;split
 ·omega
 ·split<;>omega
theorem sgR_le0 {a:Rat}:sgR a≤0↔a≤0:=by
 have:=sgR_le (a:=a) (b:=0)
 rwa[Rat.sub_eq_add_neg,Rat.neg_zero,Rat.add_zero]at this
theorem sgR_ge0 {a:Rat}:0≤sgR a↔0≤a:=by
 have:=sgR_ge (a:=a) (b:=0)
 rwa[Rat.sub_eq_add_neg,Rat.neg_zero,Rat.add_zero]at this
theorem spanV_zero {s u:List UInt8} (h:spanV s u=0):checkV s=0∧checkV u=0∧valS s≤valS u:=by
 unfold spanV at h
 by_cases c:chk2 s u=0
 ·rw[if_pos c]at h
  obtain⟨z1,z2⟩:=chk2_zero c
  refine⟨z1,z2,?_⟩
  by_cases g:0<sgR (valS s-valS u)
  ·rw[if_pos g]at h;omega
  ·exact sgR_le.1 (by omega)
 ·rw[if_neg c]at h;exact absurd h c
section
variable {h h' h0 hp:Hp} {K:AV→Hp→Prop} {tm:T AV} {v va vb w:AV} {z:Nat} {a b c d r:Rat} {l:List Rat} {s u s' u' p q:List UInt8} {e:Int}
theorem i60 (hs:s.length≤1000000) (hu:u.length≤1000000):Gv E2 60 [spn s u] h (.int .i64 (spanV s u)):=by
 refine Gv.of (CallWp.fn (fn:=C.a60) rfl rfl rfl ?_)
 unfold C.a60 spanV
 by_cases c1:chk2 s u=0
 ·rw[if_pos c1]
  obtain⟨z1,z2⟩:=chk2_zero c1
  obtain⟨t1,q1⟩:=txtR_valS z1
  obtain⟨t2,q2⟩:=txtR_valS z2
  have i1:=fun h=>i111 (h:=h) q1
  have i2:=fun h=>i111 (h:=h) q2
  rw[←t1]at i1
  rw[←t2]at i2
  repeat' (with_reducible first|simp(disch:=first|exact okD|fail) only[go_sem,seval,c1]|(refine Gv.wp (i136_2 (s:=s) (u:=u) okA okO hs hu) fun _ _ _ _=>?_)|(apply Spl.i<;>intro hc))
  refine Gp.wp (i1 _) fun v1 k1 a1 b1 u1 I1=>?_
  repeat' (with_reducible first|simp(disch:=first|exact okD|fail) only[go_sem,seval]|(apply Spl.i<;>intro hc))
  refine Gp.wp (i2 _) fun v2 k2 a2 b2 u2 I2=>?_
  repeat' (with_reducible first|simp(disch:=first|exact okD|fail) only[go_sem,seval]|(apply Spl.i<;>intro hc))
  refine Gv.wp (i161 (I1.grs ⟨_,_,u2⟩) I2 ((Bd_ok q1).mono (by decide)) ((Bd_ok q2).mono (by decide))) fun h4 k4 j4 u4=>?_
  rw[cmpR_sgR]
  by_cases c2:0<sgR (valS s-valS u)
  ·rw[if_pos c2]
   repeat' (with_reducible first|simp(disch:=first|exact okD|fail) only[go_sem,seval,c2,c131,c131t]|(apply Spl.i<;>intro hc))
   exact okG
  ·rw[if_neg c2]
   repeat' (with_reducible first|simp(disch:=first|exact okD|fail) only[go_sem,seval,c2,c131,c131f]|(apply Spl.i<;>intro hc))
   exact okG
 ·rw[if_neg c1]
  repeat' (with_reducible first|simp(disch:=first|exact okD|fail) only[go_sem,seval,c1]|(refine Gv.wp (i136_2 (s:=s) (u:=u) okA okO hs hu) fun _ _ _ _=>?_)|(apply Spl.i<;>intro hc))
  exact okG
theorem x162_bad {f:Nat} (hs:s.length≤1000000) (hu:u.length≤1000000) (hs':s'.length≤1000000) (hu':u'.length≤1000000) (he:first2 (spanV s u) (spanV s' u')=e) (h0:e≠0):
  Gv EX 162 [spn s u,spn s' u',.fn f []] h (spr [] [] e):=by
 refine Gv.of (CallWp.fn (fn:=C.a162) rfl rfl rfl ?_)
 unfold C.a162
 repeat' (with_reducible first|simp(disch:=first|exact okD|fail) only[go_sem,seval,he,h0]|(refine Gv.wp (x2 (i60 hs hu)) fun _ _ _ _=>?_)|(refine Gv.wp (x2 (i60 hs' hu')) fun _ _ _ _=>?_)|(refine Gv.wp (x2 (d130_2 (a:=spanV s u) (b:=spanV s' u') okA okO)) fun _ _ _ _=>?_)|(apply Spl.i<;>intro hc))
 exact okG
theorem x162 {f:Nat} (hs:s.length≤1000000) (hu:u.length≤1000000) (hs':s'.length≤1000000) (hu':u'.length≤1000000) (h1:spanV s u=0) (h2:spanV s' u'=0)
  (hc:∀h,Gv EX 165 [spn s u,spn s' u',.fn f []] h (spr p q e)):Gv EX 162 [spn s u,spn s' u',.fn f []] h (spr p q e):=by
 refine Gv.of (CallWp.fn (fn:=C.a162) rfl rfl rfl ?_)
 unfold C.a162
 have q0:first2 0 0=0:=rfl
 have j1:=fun h=>x2 (i60 (h:=h) hs hu)
 have j2:=fun h=>x2 (i60 (h:=h) hs' hu')
 rw[h1]at j1
 rw[h2]at j2
 repeat' (with_reducible first|simp(disch:=first|exact okD|fail) only[go_sem,seval,q0]|(refine Gv.wp (j1 _) fun _ _ _ _=>?_)|(refine Gv.wp (j2 _) fun _ _ _ _=>?_)|(refine Gv.wp (x2 (d130_2 (a:=0) (b:=0) okA okO)) fun _ _ _ _=>?_)|(refine Gv.wp (hc _) fun _ _ _ _=>?_)|(apply Spl.i<;>intro hc))
 exact okG
theorem x61 (hc:∀h,Gv EX 162 [spn s u,spn s' u',.fn 163 []] h (spr p q e)):Gv EX 61 [spn s u,spn s' u'] h (spr p q e):=by
 refine Gv.of (CallWp.fn (fn:=R.a61) rfl rfl rfl ?_)
 unfold R.a61
 repeat' (with_reducible first|simp(disch:=first|exact okD|fail) only[go_sem,seval]|(refine Gv.wp (hc _) fun _ _ _ _=>?_)|(apply Spl.i<;>intro hc))
 exact okG
theorem x62 (hc:∀h,Gv EX 162 [spn s u,spn s' u',.fn 164 []] h (spr p q e)):Gv EX 62 [spn s u,spn s' u'] h (spr p q e):=by
 refine Gv.of (CallWp.fn (fn:=R.a62) rfl rfl rfl ?_)
 unfold R.a62
 repeat' (with_reducible first|simp(disch:=first|exact okD|fail) only[go_sem,seval]|(refine Gv.wp (hc _) fun _ _ _ _=>?_)|(apply Spl.i<;>intro hc))
 exact okG
theorem x63 (hc:∀h,Gv EX 162 [spn s u,spn s' u',.fn 115 []] h (spr p q e)):Gv EX 63 [spn s u,spn s' u'] h (spr p q e):=by
 refine Gv.of (CallWp.fn (fn:=C.a63) rfl rfl rfl ?_)
 unfold C.a63
 repeat' (with_reducible first|simp(disch:=first|exact okD|fail) only[go_sem,seval]|(refine Gv.wp (hc _) fun _ _ _ _=>?_)|(apply Spl.i<;>intro hc))
 exact okG
theorem x64_bad (hs:s.length≤1000000) (hu:u.length≤1000000) (hs':s'.length≤1000000) (hu':u'.length≤1000000) (he:first2 (spanV s u) (spanV s' u')=e) (h0:e≠0):
  Gv EX 64 [spn s u,spn s' u'] h (spr [] [] e):=by
 refine Gv.of (CallWp.fn (fn:=C.a64) rfl rfl rfl ?_)
 unfold C.a64
 repeat' (with_reducible first|simp(disch:=first|exact okD|fail) only[go_sem,seval,he,h0]|(refine Gv.wp (x2 (i60 hs hu)) fun _ _ _ _=>?_)|(refine Gv.wp (x2 (i60 hs' hu')) fun _ _ _ _=>?_)|(refine Gv.wp (x2 (d130_2 (a:=spanV s u) (b:=spanV s' u') okA okO)) fun _ _ _ _=>?_)|(apply Spl.i<;>intro hc))
 exact okG
theorem x64 (hs:s.length≤1000000) (hu:u.length≤1000000) (hs':s'.length≤1000000) (hu':u'.length≤1000000) (h1:spanV s u=0) (h2:spanV s' u'=0)
  (hz:(valS s'≤0∧0≤valS u')→p=[]∧q=[]∧e=6)
  (hc:¬(valS s'≤0∧0≤valS u')→∀h,Gv EX 165 [spn s u,spn s' u',.fn 166 []] h (spr p q e)):Gv EX 64 [spn s u,spn s' u'] h (spr p q e):=by
 refine Gv.of (CallWp.fn (fn:=C.a64) rfl rfl rfl ?_)
 unfold C.a64
 have q0:first2 0 0=0:=rfl
 have j1:=fun h=>x2 (i60 (h:=h) hs hu)
 have j2:=fun h=>x2 (i60 (h:=h) hs' hu')
 rw[h1]at j1
 rw[h2]at j2
 obtain⟨z1,z2,_⟩:=spanV_zero h2
 obtain⟨t1,o1⟩:=txtR_valS z1
 obtain⟨t2,o2⟩:=txtR_valS z2
 have i1:=fun h=>xp2 (i111 (h:=h) o1)
 have i2:=fun h=>xp2 (i111 (h:=h) o2)
 rw[←t1]at i1
 rw[←t2]at i2
 repeat' (with_reducible first|simp(disch:=first|exact okD|fail) only[go_sem,seval,q0]|(refine Gv.wp (j1 _) fun _ _ _ _=>?_)|(refine Gv.wp (j2 _) fun _ _ _ _=>?_)|(refine Gv.wp (x2 (d130_2 (a:=0) (b:=0) okA okO)) fun _ _ _ _=>?_)|(apply Spl.i<;>intro hc))
 refine Gp.wp (i1 _) fun v1 k1 a1 b1 u1 I1=>?_
 repeat' (with_reducible first|simp(disch:=first|exact okD|fail) only[go_sem,seval]|(apply Spl.i<;>intro hc))
 refine Gv.wp (x2 (i112 I1)) fun h2 k2 j2 u2=>?_
 rw[sgR_max]
 by_cases c1:valS s'≤0
 ·have c1':=sgR_le0.2 c1
  repeat' (with_reducible first|simp(disch:=first|exact okD|fail) only[go_sem,seval,c1']|(apply Spl.i<;>intro hc))
  refine Gp.wp (i2 _) fun v3 k3 a3 b3 u3 I3=>?_
  repeat' (with_reducible first|simp(disch:=first|exact okD|fail) only[go_sem,seval]|(apply Spl.i<;>intro hc))
  refine Gv.wp (x2 (i112 I3)) fun h4 k4 j4 u4=>?_
  rw[sgR_max]
  by_cases c2:0≤valS u'
  ·have c2':=sgR_ge0.2 c2
   obtain⟨rfl,rfl,rfl⟩:=hz ⟨c1,c2⟩
   repeat' (with_reducible first|simp(disch:=first|exact okD|fail) only[go_sem,seval,c2']|(apply Spl.i<;>intro hc))
   exact okG
  ·have c2':¬0≤sgR (valS u'):=fun h=>c2 (sgR_ge0.1 h)
   have hq:=hc (fun h=>c2 h.2)
   repeat' (with_reducible first|simp(disch:=first|exact okD|fail) only[go_sem,seval,c2']|(refine Gv.wp (hq _) fun _ _ _ _=>?_)|(apply Spl.i<;>intro hc))
   exact okG
 ·have c1':¬sgR (valS s')≤0:=fun h=>c1 (sgR_le0.1 h)
  have hq:=hc (fun h=>c1 h.1)
  repeat' (with_reducible first|simp(disch:=first|exact okD|fail) only[go_sem,seval,c1']|(refine Gv.wp (hq _) fun _ _ _ _=>?_)|(apply Spl.i<;>intro hc))
  exact okG
end
end
end Go.Ae
set_option linter.unusedVariables false
set_option linter.unusedSimpArgs false
set_option maxRecDepth 100000
set_option maxHeartbeats 2000000
set_option exponentiation.threshold 5000
namespace Go.Ae
open Bg N Go.Proofs
noncomputable section
theorem mn_l {a b:Rat} (h:a≤b):mn a b=a:=if_neg (Rat.not_lt.2 h)
theorem mn_r {a b:Rat} (h:b≤a):mn a b=b:=by
 unfold mn;split
 ·rfl
 ·next g=>exact Rat.le_antisymm (Rat.not_lt.1 g) h
theorem mx_l {a b:Rat} (h:b≤a):mx a b=a:=if_neg (Rat.not_lt.2 h)
theorem mx_r {a b:Rat} (h:a≤b):mx a b=b:=by
 unfold mx;split
 ·rfl
 ·next g=>exact Rat.le_antisymm h (Rat.not_lt.1 g)
theorem mx_le {a b c:Rat} (h:a≤c) (h':b≤c):mx a b≤c:=mx_p (P:=fun x=>x≤c) h h'
theorem add_le' {a b c d:Rat} (h:a≤b) (h':c≤d):a+c≤b+d:=Rat.le_trans (Rat.add_le_add_right.2 h) (Rat.add_le_add_left.2 h')
theorem sub_le' {a b c d:Rat} (h:a≤b) (h':c≤d):a-d≤b-c:=by
 rw[Rat.sub_eq_add_neg,Rat.sub_eq_add_neg]
 exact add_le' h (Rat.neg_le_neg h')
theorem mn4_add {a b c d:Rat} (h:a≤b) (h':c≤d):mn4 (a+c) (a+d) (b+c) (b+d)=a+c:=by
 unfold mn4
 rw[mn_l (add_le' Rat.le_refl h'),mn_l (add_le' h Rat.le_refl),mn_l (add_le' h h')]
theorem mx4_add {a b c d:Rat} (h:a≤b) (h':c≤d):mx4 (a+c) (a+d) (b+c) (b+d)=b+d:=by
 unfold mx4
 exact mx_r (mx_le (mx_le (add_le' h h') (add_le' h Rat.le_refl)) (add_le' Rat.le_refl h'))
theorem mn4_sub {a b c d:Rat} (h:a≤b) (h':c≤d):mn4 (a-c) (a-d) (b-c) (b-d)=a-d:=by
 unfold mn4
 rw[mn_r (sub_le' Rat.le_refl h'),mn_l (sub_le' h h'),mn_l (sub_le' h Rat.le_refl)]
theorem mx4_sub {a b c d:Rat} (h:a≤b) (h':c≤d):mx4 (a-c) (a-d) (b-c) (b-d)=b-c:=by
 unfold mx4
 rw[mx_r (mx_le (sub_le' h Rat.le_refl) (sub_le' h h')),mx_l (sub_le' Rat.le_refl h')]
section
variable {h h' h0 hp:Hp} {K:AV→Hp→Prop} {tm:T AV} {v va vb w:AV} {z:Nat} {a b c d r:Rat} {l:List Rat} {s u s' u' p q:List UInt8} {e:Int}
variable {x y a' b':Rat}
theorem d246 (i:Br 2000 a) (j:Br 2000 b):Gv EF 246 [.str (txtR a),.str (txtR b)] h (.str (txtR (mn a b))):=by
 refine Gv.of (CallWp.fn (fn:=F.a246) rfl rfl rfl ?_)
 unfold F.a246
 by_cases c:a≤b
 ·have c':sgR (a-b)≤0:=sgR_le.2 c
  rw[mn_l c]
  repeat' (with_reducible first|simp(disch:=first|exact okD|fail) only[go_sem,seval,c']|(refine Gv.wp (f3 (d75 i j)) fun _ _ _ _=>?_)|(apply Spl.i<;>intro hc))
  exact okG
 ·have c':¬sgR (a-b)≤0:=fun e=>c (sgR_le.1 e)
  rw[mn_r (Rat.le_of_lt (Rat.not_le.1 c))]
  repeat' (with_reducible first|simp(disch:=first|exact okD|fail) only[go_sem,seval,c']|(refine Gv.wp (f3 (d75 i j)) fun _ _ _ _=>?_)|(apply Spl.i<;>intro hc))
  exact okG
theorem d247 (i:Br 2000 a) (j:Br 2000 b):Gv EF 247 [.str (txtR a),.str (txtR b)] h (.str (txtR (mx a b))):=by
 refine Gv.of (CallWp.fn (fn:=F.a247) rfl rfl rfl ?_)
 unfold F.a247
 by_cases c:b≤a
 ·have c':0≤sgR (a-b):=sgR_ge.2 c
  rw[mx_l c]
  repeat' (with_reducible first|simp(disch:=first|exact okD|fail) only[go_sem,seval,c']|(refine Gv.wp (f3 (d75 i j)) fun _ _ _ _=>?_)|(apply Spl.i<;>intro hc))
  exact okG
 ·have c':¬0≤sgR (a-b):=fun e=>c (sgR_ge.1 e)
  rw[mx_r (Rat.le_of_lt (Rat.not_le.1 c))]
  repeat' (with_reducible first|simp(disch:=first|exact okD|fail) only[go_sem,seval,c']|(refine Gv.wp (f3 (d75 i j)) fun _ _ _ _=>?_)|(apply Spl.i<;>intro hc))
  exact okG
theorem d167 {t:Nat} (hA:AtS h t [.str (txtR a),.str (txtR b),.str (txtR c),.str (txtR d)]) (i:Br 2000 a) (j:Br 2000 b) (k:Br 2000 c) (l:Br 2000 d):
  Gv EF 167 [.sl t 0 4 1] h (spn (txtR (mn4 a b c d)) (txtR (mx4 a b c d))):=by
 refine Gv.of (CallWp.fn (fn:=F.a167) rfl rfl rfl ?_)
 unfold F.a167
 obtain⟨st,hg,hs,ht⟩:=hA
 have i1:=mn_p (P:=Br 2000) i j
 have i2:=mn_p (P:=Br 2000) i1 k
 have j1:=mx_p (P:=Br 2000) i j
 have j2:=mx_p (P:=Br 2000) j1 k
 unfold mn4 mx4
 repeat' (with_reducible first|simp(disch:=first|exact okD|fail) only[go_sem,seval,Wp.unroll,hg]|(refine Gv.wp (d246 i j) fun _ _ _ _=>?_)|(refine Gv.wp (d246 i1 k) fun _ _ _ _=>?_)|(refine Gv.wp (d246 i2 l) fun _ _ _ _=>?_)|(refine Gv.wp (d247 i j) fun _ _ _ _=>?_)|(refine Gv.wp (d247 j1 k) fun _ _ _ _=>?_)|(refine Gv.wp (d247 j2 l) fun _ _ _ _=>?_)|(apply Spl.i<;>intro hc))
 exact okG
theorem AtS.at_push {t:Nat} {cs:List AV} (e:t=h.next):AtS (h.push fun s=> .row cs true s) t cs:=by subst e;exact AtS.push
theorem d65 (i:Br 2000 a) (j:Br 2000 b) (k:Br 2000 c) (l:Br 2000 d):Gv EF 65 [spn (txtR a) (txtR b),spn (txtR c) (txtR d)] h (spn (txtR (a+c)) (txtR (b+d))):=by
 refine Gv.of (CallWp.fn (fn:=F.a65) rfl rfl rfl ?_)
 unfold F.a65
 repeat' (with_reducible first|simp(disch:=first|exact okD|fail) only[go_sem,seval]|(refine Gv.wp (f3 (d72 i k)) fun _ _ _ _=>?_)|(refine Gv.wp (f3 (d72 j l)) fun _ _ _ _=>?_)|(apply Spl.i<;>intro hc))
 exact okG
theorem d66 (i:Br 2000 a) (j:Br 2000 b) (k:Br 2000 c) (l:Br 2000 d):Gv EF 66 [spn (txtR a) (txtR b),spn (txtR c) (txtR d)] h (spn (txtR (a-d)) (txtR (b-c))):=by
 refine Gv.of (CallWp.fn (fn:=F.a66) rfl rfl rfl ?_)
 unfold F.a66
 repeat' (with_reducible first|simp(disch:=first|exact okD|fail) only[go_sem,seval]|(refine Gv.wp (f3 (d73 i l)) fun _ _ _ _=>?_)|(refine Gv.wp (f3 (d73 j k)) fun _ _ _ _=>?_)|(apply Spl.i<;>intro hc))
 exact okG
theorem d67 (i:Br 67 a) (j:Br 67 b) (k:Br 67 c) (l:Br 67 d):Gv EF 67 [spn (txtR a) (txtR b),spn (txtR c) (txtR d)] h (spn (txtR (mn4 (a*c) (a*d) (b*c) (b*d))) (txtR (mx4 (a*c) (a*d) (b*c) (b*d)))):=by
 refine Gv.of (CallWp.fn (fn:=F.a67) rfl rfl rfl ?_)
 unfold F.a67
 have i':=i.mono (by decide:67≤2000)
 have j':=j.mono (by decide:67≤2000)
 have k':=k.mono (by decide:67≤2000)
 have l':=l.mono (by decide:67≤2000)
 have b0:Br 2000 (a*c):=by exact(i.mul k).mono (by decide)
 have b1:Br 2000 (a*d):=by exact(i.mul l).mono (by decide)
 have b2:Br 2000 (b*c):=by exact(j.mul k).mono (by decide)
 have b3:Br 2000 (b*d):=by exact(j.mul l).mono (by decide)
 repeat' (with_reducible first|simp(disch:=first|exact okD|fail) only[go_sem,seval]|(refine Gv.wp (f3 (d74 i' k')) fun _ _ _ _=>?_)|(refine Gv.wp (f3 (d74 i' l')) fun _ _ _ _=>?_)|(refine Gv.wp (f3 (d74 j' k')) fun _ _ _ _=>?_)|(refine Gv.wp (f3 (d74 j' l')) fun _ _ _ _=>?_)|(apply Spl.i<;>intro hc))
 refine Gv.wp (d167 (AtS.at_push okO) b0 b1 b2 b3) fun h9 k9 j9 g9=>?_
 repeat' (with_reducible first|simp(disch:=first|exact okD|fail) only[go_sem,seval]|(apply Spl.i<;>intro hc))
 exact okG
theorem d69 (i:Br 67 a) (j:Br 67 b) (k:Br 67 c) (l:Br 67 d) (c0:c≠0) (d0:d≠0):Gv EF 69 [spn (txtR a) (txtR b),spn (txtR c) (txtR d)] h (spn (txtR (mn4 (a/c) (a/d) (b/c) (b/d))) (txtR (mx4 (a/c) (a/d) (b/c) (b/d)))):=by
 refine Gv.of (CallWp.fn (fn:=F.a69) rfl rfl rfl ?_)
 unfold F.a69
 have i':=i.mono (by decide:67≤2000)
 have j':=j.mono (by decide:67≤2000)
 have k':=k.mono (by decide:67≤2000)
 have l':=l.mono (by decide:67≤2000)
 have b0:Br 2000 (a/c):=by rw[Rat.div_def];exact(i.mul (k.inv c0)).mono (by decide)
 have b1:Br 2000 (a/d):=by rw[Rat.div_def];exact(i.mul (l.inv d0)).mono (by decide)
 have b2:Br 2000 (b/c):=by rw[Rat.div_def];exact(j.mul (k.inv c0)).mono (by decide)
 have b3:Br 2000 (b/d):=by rw[Rat.div_def];exact(j.mul (l.inv d0)).mono (by decide)
 repeat' (with_reducible first|simp(disch:=first|exact okD|fail) only[go_sem,seval]|(refine Gv.wp (f3 (d76 i' k' c0)) fun _ _ _ _=>?_)|(refine Gv.wp (f3 (d76 i' l' d0)) fun _ _ _ _=>?_)|(refine Gv.wp (f3 (d76 j' k' c0)) fun _ _ _ _=>?_)|(refine Gv.wp (f3 (d76 j' l' d0)) fun _ _ _ _=>?_)|(apply Spl.i<;>intro hc))
 refine Gv.wp (d167 (AtS.at_push okO) b0 b1 b2 b3) fun h9 k9 j9 g9=>?_
 repeat' (with_reducible first|simp(disch:=first|exact okD|fail) only[go_sem,seval]|(apply Spl.i<;>intro hc))
 exact okG
theorem b_p2s {a b c d:List UInt8}:binA .eql (.plain [(0,.str),(1,.str)]) (.agg [.str a,.str b]) (.agg [.str c,.str d])=some (.bool (decide (a=c∧b=d))):=by
 simp only[binA,eqA,eqPlain,eqLs,List.getElem?_cons_zero,List.getElem?_cons_succ,eqLeaf]
 cases h1:(a==c)<;>cases h2:(b==d)<;>simp_all
theorem d142_2 {t:Nat} {a b:List UInt8} (ha:a.length≤9223372036854775806) (hb:b.length≤9223372036854775806) (hA:At h t [.str a,.str b]) (ht:t<h.next):Gv E3 142 [.sl t 0 2 1] h (.int .i64 (if largeS a||largeS b then 4 else 0)):=by
 refine Gv.of (CallWp.fn (fn:=R.a142) rfl rfl rfl ?_)
 unfold R.a142
 obtain⟨st,hg⟩:=hA
 cases la:largeS a<;>cases lb:largeS b
 all_goals simp only[Bool.or_true,Bool.true_or,Bool.or_false,if_true,if_false,Bool.false_eq_true]
 all_goals repeat' (with_reducible first|simp(disch:=first|exact okD|fail) only[go_sem,seval,Wp.unroll,hg,c176 ha,c176 hb,la,lb]|(apply Spl.i<;>intro hc))
 all_goals exact okG
theorem d126 {a b:List UInt8} (ha:a.length≤9223372036854775806) (hb:b.length≤9223372036854775806):Gv E3 126 [.agg [.str a,.str b]] h (.int .i64 (if largeS a||largeS b then 4 else 0)):=by
 refine Gv.of (CallWp.fn (fn:=R.a126) rfl rfl rfl ?_)
 unfold R.a126
 repeat' (with_reducible first|simp(disch:=first|exact okD|fail) only[go_sem,seval]|(refine Gv.wp (d142_2 (a:=a) (b:=b) ha hb okA okO) fun _ _ _ _=>?_)|(apply Spl.i<;>intro hc))
 exact okG
def spansC (a b:List UInt8) (e bad:Int) (c d:List UInt8):Bool:=
 if bad≠0 then decide (a=[]∧b=[]∧e=bad)
 else if largeS c||largeS d then decide (a=[]∧b=[]∧e=4)
 else decide (e=0∧a=c∧b=d)
theorem d22s {a b c d:List UInt8} {e bad:Int} (hc:c.length≤9223372036854775806) (hd:d.length≤9223372036854775806):Gv E3 22 [.agg [.str a,.str b],.int .i64 e,.int .i64 bad,.agg [.str c,.str d]] h (.bool (spansC a b e bad c d)):=by
 refine Gv.of (CallWp.fn (fn:=R.a22) rfl rfl rfl ?_)
 unfold R.a22
 unfold spansC
 by_cases hb:bad=0
 ·rw[if_neg (by simpa using hb)]
  cases hl:(largeS c||largeS d)
  ·rw[if_neg (by simp)]
   repeat' (with_reducible first|simp(disch:=first|exact okD|fail) only[go_sem,seval,b_p2s,hl]|(refine Gv.wp (d126 hc hd) fun _ _ _ _=>?_)|(apply Spl.i<;>intro hc))
   all_goals refine⟨?_,by exact okG⟩
   all_goals first|(congr 1;symm;exact decide_eq_false (fun e=>hc ⟨e.1,e.2.1⟩))|(congr 1;symm;exact decide_eq_false (fun e=>hc e.1))|(congr 1;simp[hc])
  ·rw[if_pos rfl]
   repeat' (with_reducible first|simp(disch:=first|exact okD|fail) only[go_sem,seval,b_p2s,hl]|(refine Gv.wp (d126 hc hd) fun _ _ _ _=>?_)|(apply Spl.i<;>intro hc))
   all_goals refine⟨?_,by exact okG⟩
   all_goals first|(congr 1;symm;exact decide_eq_false (fun e=>hc ⟨e.1,e.2.1⟩))|(congr 1;symm;exact decide_eq_false (fun e=>hc e.1))|(congr 1;simp[hc])
 ·rw[if_pos hb]
  repeat' (with_reducible first|simp(disch:=first|exact okD|fail) only[go_sem,seval,b_p2s]|(apply Spl.i<;>intro hc))
  all_goals refine⟨?_,by exact okG⟩
  all_goals first|(congr 1;symm;exact decide_eq_false (fun e=>hc ⟨e.1,e.2.1⟩))|(congr 1;symm;exact decide_eq_false (fun e=>hc e.1))|(congr 1;simp[hc])
theorem spansC_res (a b:Rat):spansC (spA a b) (spB a b) (spE a b) 0 (txtR a) (txtR b)=true:=by
 unfold spansC spA spB spE
 rw[largeS_txt,largeS_txt]
 cases h1:okR a<;>cases h2:okR b<;>simp
theorem spansC_bad {e:Int} {c d:List UInt8} (he:e≠0):spansC [] [] e e c d=true:=by
 unfold spansC
 simp[he]
end
end
end Go.Ae
set_option linter.unusedVariables false
set_option linter.unusedSimpArgs false
set_option maxRecDepth 100000
set_option maxHeartbeats 4000000
set_option exponentiation.threshold 5000
namespace Go.Ae
open Bg N Go.Proofs
noncomputable section
section
variable {h h' hp:Hp} {K:AV→Hp→Prop} {tm:T AV} {v va vb s w:AV} {z z':Int} {a b c r:Rat}
theorem txt_len {n:Nat} {a:Rat} (i:Br n a) (hn:n≤2000):(txtR a).length≤1000000:=by
 have:=(txtR_le (i.mono hn).1 (i.mono hn).2).1
 omega
end
end
end Go.Ae
set_option linter.unusedVariables false
set_option linter.unusedSimpArgs false
set_option maxRecDepth 100000
set_option maxHeartbeats 8000000
set_option exponentiation.threshold 5000
namespace Go.Ae
open Bg N Go.Proofs
noncomputable section
section
variable {h h' h0 hp:Hp} {K:AV→Hp→Prop} {tm:T AV} {v va vb w:AV} {a b c d r:Rat} {s u s' u' p q:List UInt8} {e:Int}
theorem d58:Gv EF 58 [spn s u] h (.bool (decide (60<s.length∨60<u.length))):=by
 refine Gv.of (CallWp.fn (fn:=F.a58) rfl rfl rfl ?_)
 unfold F.a58
 by_cases g1:60<s.length
 ·have g1':(60:Int)<s.length:=by omega
  rw[decide_eq_true (Or.inl g1)]
  repeat' (with_reducible first|simp(disch:=first|exact okD|fail) only[go_sem,seval,g1']|(apply Spl.i<;>intro hc))
  exact okG
 ·have g1':¬(60:Int)<s.length:=by omega
  by_cases g2:60<u.length
  ·have g2':(60:Int)<u.length:=by omega
   rw[decide_eq_true (Or.inr g2)]
   repeat' (with_reducible first|simp(disch:=first|exact okD|fail) only[go_sem,seval,g1',g2']|(apply Spl.i<;>intro hc))
   exact okG
  ·have g2':¬(60:Int)<u.length:=by omega
   rw[decide_eq_false (by omega)]
   repeat' (with_reducible first|simp(disch:=first|exact okD|fail) only[go_sem,seval,g1',g2']|(apply Spl.i<;>intro hc))
   exact okG
theorem two_mem {P:Rat→Prop} (ha:P a) (hb:P b):∀x∈[a,b],P x:=fun x hx=>by
 simp only[List.mem_cons,List.not_mem_nil,or_false]at hx
 rcases hx with rfl|rfl<;>assumption
theorem x165s (h1:spanV s u=0) (h2:spanV s' u'=0):Gv EX 165 [spn s u,spn s' u',.fn 163 []] h (spr (spA (valS s+valS s') (valS u+valS u')) (spB (valS s+valS s') (valS u+valS u')) (spE (valS s+valS s') (valS u+valS u'))):=by
 obtain⟨z1,z2,l1⟩:=spanV_zero h1
 obtain⟨z3,z4,l2⟩:=spanV_zero h2
 obtain⟨t1,o1⟩:=txtR_valS z1
 obtain⟨t2,o2⟩:=txtR_valS z2
 obtain⟨t3,o3⟩:=txtR_valS z3
 obtain⟨t4,o4⟩:=txtR_valS z4
 have B:=two_mem (P:=Bd 110) (Bd_ok o1) (Bd_ok o2)
 have D:=two_mem (P:=Bd 110) (Bd_ok o3) (Bd_ok o4)
 have:=x165 (h:=h) (f:=163) (op:=fun x y=>x+y) o1 o2 o3 o4 (fun x hx y hy {h va vb} i j=>xp2 (i163 i j ((B x hx).mono (by decide)) ((D y hy).mono (by decide)))) (fun x hx y hy=>((B x hx).add (D y hy)).mono (by decide))
 rwa[mn4_add l1 l2,mx4_add l1 l2,spT_eq,←t1,←t2,←t3,←t4]at this
theorem x165d (h1:spanV s u=0) (h2:spanV s' u'=0):Gv EX 165 [spn s u,spn s' u',.fn 164 []] h (spr (spA (valS s-valS u') (valS u-valS s')) (spB (valS s-valS u') (valS u-valS s')) (spE (valS s-valS u') (valS u-valS s'))):=by
 obtain⟨z1,z2,l1⟩:=spanV_zero h1
 obtain⟨z3,z4,l2⟩:=spanV_zero h2
 obtain⟨t1,o1⟩:=txtR_valS z1
 obtain⟨t2,o2⟩:=txtR_valS z2
 obtain⟨t3,o3⟩:=txtR_valS z3
 obtain⟨t4,o4⟩:=txtR_valS z4
 have B:=two_mem (P:=Bd 110) (Bd_ok o1) (Bd_ok o2)
 have D:=two_mem (P:=Bd 110) (Bd_ok o3) (Bd_ok o4)
 have:=x165 (h:=h) (f:=164) (op:=fun x y=>x-y) o1 o2 o3 o4 (fun x hx y hy {h va vb} i j=>xp2 (i164 i j ((B x hx).mono (by decide)) ((D y hy).mono (by decide)))) (fun x hx y hy=>by
  show Bd 400 (x-y)
  rw[Rat.sub_eq_add_neg];exact((B x hx).add (D y hy).neg).mono (by decide))
 rwa[mn4_sub l1 l2,mx4_sub l1 l2,spT_eq,←t1,←t2,←t3,←t4]at this
theorem x165m (h1:spanV s u=0) (h2:spanV s' u'=0) {lo hi:Rat} (e1:mn4 (valS s*valS s') (valS s*valS u') (valS u*valS s') (valS u*valS u')=lo) (e2:mx4 (valS s*valS s') (valS s*valS u') (valS u*valS s') (valS u*valS u')=hi):
  Gv EX 165 [spn s u,spn s' u',.fn 115 []] h (spr (spA lo hi) (spB lo hi) (spE lo hi)):=by
 obtain⟨z1,z2,l1⟩:=spanV_zero h1
 obtain⟨z3,z4,l2⟩:=spanV_zero h2
 obtain⟨t1,o1⟩:=txtR_valS z1
 obtain⟨t2,o2⟩:=txtR_valS z2
 obtain⟨t3,o3⟩:=txtR_valS z3
 obtain⟨t4,o4⟩:=txtR_valS z4
 have B:=two_mem (P:=Bd 110) (Bd_ok o1) (Bd_ok o2)
 have D:=two_mem (P:=Bd 110) (Bd_ok o3) (Bd_ok o4)
 have:=x165 (h:=h) (f:=115) (op:=fun x y=>x*y) o1 o2 o3 o4 (fun x hx y hy {h va vb} i j=>xp2 (i115 i j ((B x hx).mono (by decide)) ((D y hy).mono (by decide)))) (fun x hx y hy=>((B x hx).mul (D y hy)).mono (by decide))
 rwa[e1,e2,spT_eq,←t1,←t2,←t3,←t4]at this
theorem x165q (h1:spanV s u=0) (h2:spanV s' u'=0) (c0:valS s'≠0) (d0:valS u'≠0) {lo hi:Rat} (e1:mn4 (valS s/valS s') (valS s/valS u') (valS u/valS s') (valS u/valS u')=lo) (e2:mx4 (valS s/valS s') (valS s/valS u') (valS u/valS s') (valS u/valS u')=hi):
  Gv EX 165 [spn s u,spn s' u',.fn 166 []] h (spr (spA lo hi) (spB lo hi) (spE lo hi)):=by
 obtain⟨z1,z2,l1⟩:=spanV_zero h1
 obtain⟨z3,z4,l2⟩:=spanV_zero h2
 obtain⟨t1,o1⟩:=txtR_valS z1
 obtain⟨t2,o2⟩:=txtR_valS z2
 obtain⟨t3,o3⟩:=txtR_valS z3
 obtain⟨t4,o4⟩:=txtR_valS z4
 have B:=two_mem (P:=Bd 110) (Bd_ok o1) (Bd_ok o2)
 have D:=two_mem (P:=Bd 110) (Bd_ok o3) (Bd_ok o4)
 have Z:=two_mem (P:=fun x:Rat=>x≠0) c0 d0
 have:=x165 (h:=h) (f:=166) (op:=fun x y=>x/y) o1 o2 o3 o4 (fun x hx y hy {h va vb} i j=>xp2 (i166 i j ((B x hx).mono (by decide)) ((D y hy).mono (by decide)) (Z y hy))) (fun x hx y hy=>by
  show Bd 400 (x/y)
  rw[Rat.div_def];exact((B x hx).mul ((D y hy).inv (Z y hy))).mono (by decide))
 rwa[e1,e2,spT_eq,←t1,←t2,←t3,←t4]at this
theorem txt_len' {n:Nat} {a:Rat} (i:Br n a) (hn:n≤2000):(txtR a).length≤9223372036854775806:=Nat.le_trans (txt_len i hn) (by decide)
theorem d22_res {lo hi:Rat} (i:Br 2000 lo) (j:Br 2000 hi):Gv EF 22 [spn (spA lo hi) (spB lo hi),.int .i64 (spE lo hi),.int .i64 0,spn (txtR lo) (txtR hi)] h (.bool true):=by
 have:=f3 (d22s (h:=h) (a:=spA lo hi) (b:=spB lo hi) (e:=spE lo hi) (bad:=0) (c:=txtR lo) (d:=txtR hi) (txt_len' i (by decide)) (txt_len' j (by decide)))
 rwa[spansC_res]at this
theorem d22_bad (he:e≠0) (hs:s.length≤1000000) (hu:u.length≤1000000):Gv EF 22 [spn [] [],.int .i64 e,.int .i64 e,spn s u] h (.bool true):=by
 have:=f3 (d22s (h:=h) (a:=[]) (b:=[]) (e:=e) (bad:=e) (c:=s) (d:=u) (by omega) (by omega))
 rwa[spansC_bad he]at this
theorem law10:Gv EF 10 [spn s u,spn s' u'] h (.bool true):=by
 refine Gv.of (CallWp.fn (fn:=F.a10) rfl rfl rfl ?_)
 have d17:∀{h:Hp} {K:AV→Hp→Prop},CallWp EF 17 [] h K↔K (.bool true) h:=fun{h K}=>fu2 fun K=>c17
 by_cases g1:60<s.length∨60<u.length
 ·have w1:=fun h=>d58 (h:=h) (s:=s) (u:=u)
  rw[decide_eq_true g1]at w1
  unfold F.a10
  repeat' (with_reducible first|simp(disch:=first|exact okD|fail) only[go_sem,seval,d17]|(refine Gv.wp (w1 _) fun _ _ _ _=>?_)|(apply Spl.i<;>intro hc))
  all_goals exact okG
 have w1:=fun h=>d58 (h:=h) (s:=s) (u:=u)
 rw[decide_eq_false g1]at w1
 by_cases g2:60<s'.length∨60<u'.length
 ·have w2:=fun h=>d58 (h:=h) (s:=s') (u:=u')
  rw[decide_eq_true g2]at w2
  unfold F.a10
  repeat' (with_reducible first|simp(disch:=first|exact okD|fail) only[go_sem,seval,d17]|(refine Gv.wp (w1 _) fun _ _ _ _=>?_)|(refine Gv.wp (w2 _) fun _ _ _ _=>?_)|(apply Spl.i<;>intro hc))
  all_goals exact okG
 have w2:=fun h=>d58 (h:=h) (s:=s') (u:=u')
 rw[decide_eq_false g2]at w2
 have hs:s.length≤1000000:=by omega
 have hu:u.length≤1000000:=by omega
 have hs':s'.length≤1000000:=by omega
 have hu':u'.length≤1000000:=by omega
 have n1:=fun h=>f3 (d59 (h:=h) hs hu)
 have n2:=fun h=>f3 (d59 (h:=h) hs' hu')
 have n3:=fun h=>f2 (i60 (h:=h) hs hu)
 have e25:=fun{h:Hp} {t:Nat} hA ht=>(f3 (d25_2 (h:=h) (t:=t) (a:=spanV s u) (b:=spanV s' u') hA ht):Gv EF 25 [.sl t 0 2 1] h (.int .i64 (first2 (spanV s u) (spanV s' u'))))
 by_cases c0:first2 (spanV s u) (spanV s' u')=0
 ·have c1:spanV s u=0:=by
   unfold first2 at c0
   by_cases c1:spanV s u=0
   ·exact c1
   ·rw[if_neg c1]at c0;exact c0
  have c2:spanV s' u'=0:=by
   unfold first2 at c0
   rwa[if_pos c1]at c0
  rw[c0]at e25
  rw[c1]at n1 n3 e25
  rw[c2]at n2 e25
  obtain⟨z1,z2,l1⟩:=spanV_zero c1
  obtain⟨z3,z4,l2⟩:=spanV_zero c2
  obtain⟨t1,o1⟩:=txtR_valS z1
  obtain⟨t2,o2⟩:=txtR_valS z2
  obtain⟨t3,o3⟩:=txtR_valS z3
  obtain⟨t4,o4⟩:=txtR_valS z4
  have b1:=ok_Br o1
  have b2:=ok_Br o2
  have b3:=ok_Br o3
  have b4:=ok_Br o4
  have b1':=b1.mono (m:=2000) (by decide)
  have b2':=b2.mono (m:=2000) (by decide)
  have b3':=b3.mono (m:=2000) (by decide)
  have b4':=b4.mono (m:=2000) (by decide)
  have r1:=fun h=>f0 (x61 (h:=h) fun h=>x162 hs hu hs' hu' c1 c2 fun h=>x165s (h:=h) c1 c2)
  have r2:=fun h=>f0 (x62 (h:=h) fun h=>x162 hs hu hs' hu' c1 c2 fun h=>x165d (h:=h) c1 c2)
  have r3:=fun h=>f0 (x63 (h:=h) fun h=>x162 hs hu hs' hu' c1 c2 fun h=>x165m (h:=h) c1 c2 rfl rfl)
  have m1:=fun h=>d65 (h:=h) b1' b2' b3' b4'
  have m2:=fun h=>d66 (h:=h) b1' b2' b3' b4'
  have m3:=fun h=>d67 (h:=h) b1 b2 b3 b4
  rw[←t1,←t2,←t3,←t4]at m1 m2 m3
  have k1:=fun h=>d22_res (h:=h) ((b1.add b3).mono (by decide:_≤2000)) ((b2.add b4).mono (by decide:_≤2000))
  have k2:=fun h=>d22_res (h:=h) ((b1.sub b4).mono (by decide:_≤2000)) ((b2.sub b3).mono (by decide:_≤2000))
  have M1:Br 2000 (valS s*valS s'):=(b1.mul b3).mono (by decide)
  have M2:Br 2000 (valS s*valS u'):=(b1.mul b4).mono (by decide)
  have M3:Br 2000 (valS u*valS s'):=(b2.mul b3).mono (by decide)
  have M4:Br 2000 (valS u*valS u'):=(b2.mul b4).mono (by decide)
  have k3:=fun h=>d22_res (h:=h) (mn4_p (P:=Br 2000) M1 M2 M3 M4) (mx4_p (P:=Br 2000) M1 M2 M3 M4)
  have e0:Br 2000 (0:Rat):=(show Br 1 0 from by unfold Br Lr;decide).mono (by decide)
  have m4:=fun h=>f3 (d68 (h:=h) b3' b4' e0)
  rw[txtR_zero,←t3,←t4]at m4
  generalize mn4 (valS s*valS s') (valS s*valS u') (valS u*valS s') (valS u*valS u')=lo at *
  generalize mx4 (valS s*valS s') (valS s*valS u') (valS u*valS s') (valS u*valS u')=hi at *
  by_cases c3:valS s'≤0∧0≤valS u'
  ·rw[decide_eq_true c3]at m4
   have r4:=fun h=>f0 (x64 (h:=h) (p:=[]) (q:=[]) (e:=6) hs hu hs' hu' c1 c2 (fun _=>⟨rfl,rfl,rfl⟩) (fun n=>absurd c3 n))
   have k4:=fun h=>d22_bad (h:=h) (e:=6) (by decide) hs hu
   unfold F.a10
   repeat' (with_reducible first|simp(disch:=first|exact okD|fail) only[go_sem,seval,d17]|(refine Gv.wp (w1 _) fun _ _ _ _=>?_)|(refine Gv.wp (w2 _) fun _ _ _ _=>?_)|(refine Gv.wp (n1 _) fun _ _ _ _=>?_)|(refine Gv.wp (n2 _) fun _ _ _ _=>?_)|(refine Gv.wp (n3 _) fun _ _ _ _=>?_)|(refine Gv.wp (e25 okA okO) fun _ _ _ _=>?_)|(refine Gv.wp (r1 _) fun _ _ _ _=>?_)|(refine Gv.wp (r2 _) fun _ _ _ _=>?_)|(refine Gv.wp (r3 _) fun _ _ _ _=>?_)|(refine Gv.wp (r4 _) fun _ _ _ _=>?_)|(refine Gv.wp (m1 _) fun _ _ _ _=>?_)|(refine Gv.wp (m2 _) fun _ _ _ _=>?_)|(refine Gv.wp (m3 _) fun _ _ _ _=>?_)|(refine Gv.wp (m4 _) fun _ _ _ _=>?_)|(refine Gv.wp (k1 _) fun _ _ _ _=>?_)|(refine Gv.wp (k2 _) fun _ _ _ _=>?_)|(refine Gv.wp (k3 _) fun _ _ _ _=>?_)|(refine Gv.wp (k4 _) fun _ _ _ _=>?_)|(apply Spl.i<;>intro hc))
   all_goals exact okG
  ·rw[decide_eq_false c3]at m4
   have y1:valS s'≠0:=fun e=>c3 ⟨by rw[e];exact Rat.le_refl,Rat.le_trans (by rw[e];exact Rat.le_refl) l2⟩
   have y2:valS u'≠0:=fun e=>c3 ⟨Rat.le_trans l2 (by rw[e];exact Rat.le_refl),by rw[e];exact Rat.le_refl⟩
   have r4:=fun h=>f0 (x64 (h:=h) hs hu hs' hu' c1 c2 (fun n=>absurd n c3) (fun _ h=>x165q (h:=h) c1 c2 y1 y2 rfl rfl))
   have m5:=fun h=>d69 (h:=h) b1 b2 b3 b4 y1 y2
   rw[←t1,←t2,←t3,←t4]at m5
   have Q1:Br 2000 (valS s/valS s'):=by rw[Rat.div_def];exact(b1.mul (b3.inv y1)).mono (by decide)
   have Q2:Br 2000 (valS s/valS u'):=by rw[Rat.div_def];exact(b1.mul (b4.inv y2)).mono (by decide)
   have Q3:Br 2000 (valS u/valS s'):=by rw[Rat.div_def];exact(b2.mul (b3.inv y1)).mono (by decide)
   have Q4:Br 2000 (valS u/valS u'):=by rw[Rat.div_def];exact(b2.mul (b4.inv y2)).mono (by decide)
   have k4:=fun h=>d22_res (h:=h) (mn4_p (P:=Br 2000) Q1 Q2 Q3 Q4) (mx4_p (P:=Br 2000) Q1 Q2 Q3 Q4)
   generalize mn4 (valS s/valS s') (valS s/valS u') (valS u/valS s') (valS u/valS u')=lo' at *
   generalize mx4 (valS s/valS s') (valS s/valS u') (valS u/valS s') (valS u/valS u')=hi' at *
   unfold F.a10
   repeat' (with_reducible first|simp(disch:=first|exact okD|fail) only[go_sem,seval,d17]|(refine Gv.wp (w1 _) fun _ _ _ _=>?_)|(refine Gv.wp (w2 _) fun _ _ _ _=>?_)|(refine Gv.wp (n1 _) fun _ _ _ _=>?_)|(refine Gv.wp (n2 _) fun _ _ _ _=>?_)|(refine Gv.wp (n3 _) fun _ _ _ _=>?_)|(refine Gv.wp (e25 okA okO) fun _ _ _ _=>?_)|(refine Gv.wp (r1 _) fun _ _ _ _=>?_)|(refine Gv.wp (r2 _) fun _ _ _ _=>?_)|(refine Gv.wp (r3 _) fun _ _ _ _=>?_)|(refine Gv.wp (r4 _) fun _ _ _ _=>?_)|(refine Gv.wp (m1 _) fun _ _ _ _=>?_)|(refine Gv.wp (m2 _) fun _ _ _ _=>?_)|(refine Gv.wp (m3 _) fun _ _ _ _=>?_)|(refine Gv.wp (m4 _) fun _ _ _ _=>?_)|(refine Gv.wp (m5 _) fun _ _ _ _=>?_)|(refine Gv.wp (k1 _) fun _ _ _ _=>?_)|(refine Gv.wp (k2 _) fun _ _ _ _=>?_)|(refine Gv.wp (k3 _) fun _ _ _ _=>?_)|(refine Gv.wp (k4 _) fun _ _ _ _=>?_)|(apply Spl.i<;>intro hc))
   all_goals exact okG
 ·obtain⟨e,he⟩:∃e,first2 (spanV s u) (spanV s' u')=e:=⟨_,rfl⟩
  rw[he]at c0 e25
  have r1:=fun h=>f0 (x61 (h:=h) fun h=>x162_bad hs hu hs' hu' he c0)
  have r2:=fun h=>f0 (x62 (h:=h) fun h=>x162_bad hs hu hs' hu' he c0)
  have r3:=fun h=>f0 (x63 (h:=h) fun h=>x162_bad hs hu hs' hu' he c0)
  have r4:=fun h=>f0 (x64_bad (h:=h) hs hu hs' hu' he c0)
  have k1:=fun h=>d22_bad (h:=h) c0 hs hu
  unfold F.a10
  repeat' (with_reducible first|simp(disch:=first|exact okD|fail) only[go_sem,seval,d17,c0]|(refine Gv.wp (w1 _) fun _ _ _ _=>?_)|(refine Gv.wp (w2 _) fun _ _ _ _=>?_)|(refine Gv.wp (n1 _) fun _ _ _ _=>?_)|(refine Gv.wp (n2 _) fun _ _ _ _=>?_)|(refine Gv.wp (n3 _) fun _ _ _ _=>?_)|(refine Gv.wp (e25 okA okO) fun _ _ _ _=>?_)|(refine Gv.wp (r1 _) fun _ _ _ _=>?_)|(refine Gv.wp (r2 _) fun _ _ _ _=>?_)|(refine Gv.wp (r3 _) fun _ _ _ _=>?_)|(refine Gv.wp (r4 _) fun _ _ _ _=>?_)|(refine Gv.wp (k1 _) fun _ _ _ _=>?_)|(apply Spl.i<;>intro hc))
  all_goals exact okG
end
end
end Go.Ae
