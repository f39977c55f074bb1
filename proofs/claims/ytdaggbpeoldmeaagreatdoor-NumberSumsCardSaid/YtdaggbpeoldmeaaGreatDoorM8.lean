/- The reference's check of a number's text. -/
import Derived.Test.YtdaggbpeoldmeaaGreatDoorM7
import Derived.Test.YtdaggbpeoldmeaaGreatDoorM6
set_option linter.unusedVariables false
set_option linter.unusedSimpArgs false
set_option maxRecDepth 100000
set_option exponentiation.threshold 1000
set_option maxHeartbeats 2000000
namespace Go.Ae
open Bg N Go.Proofs
noncomputable section
section
variable {h h' hp:Hp} {K:AV→Hp→Prop} {tm:T AV} {r a b:Rat}
theorem u151 {s:List UInt8} (hs:s.length≤1000000):CallWp E3 151 [.str s] h K↔K (.bool (allDig s)) h:=up ge3 fun K=>c151 hs
theorem isDec_of {s:List UInt8} (h0:s≠[]) (h1:s.length=1∨s.headD 0≠48):isDec s=allDig s:=by
  cases ha:allDig s with
  | true=>
    refine isDec_mk h0 ha ?_
    rcases h1 with h1|h1
    · match s,h1 with
      | [c],_=>
        by_cases hc:c=48
        · exact .inr (by rw[hc])
        · exact .inl (by simpa using hc)
    · exact .inl h1
  |false=>unfold isDec;rw[ha];simp
theorem isDec_no {s:List UInt8} (h1:1<s.length) (h2:s.headD 0=48):isDec s=false:=by
  cases hd:isDec s with
  |false=>rfl
  | true=>
    rcases(isDec_cases hd).2.2 with e|e
    · exact absurd h2 e
    · rw[e]at h1;exact absurd h1 (by decide)
theorem u123 {s:List UInt8} (hs:s.length≤1000000):CallWp E3 123 [.str s] h K↔K (.bool (isDec s)) h:=by
  refine CallWp.iff_of (CallWp.fn (fn:=R.a123) rfl rfl rfl ?_)
  unfold R.a123
  have cd:=fun{h:Hp} {K:AV→Hp→Prop}=>u151 (h:=h) (K:=K) hs
  by_cases h0:s=[]
  · subst h0
    have e0:isDec []=false:=by decide
    rw[e0]
    repeat' (with_reducible first|simp(disch:=first|exact okD|fail) only[go_sem,seval,List.length_nil]|(apply Spl.i<;>intro hc))
  · have hl:0<s.length:=List.length_pos_iff.2 h0
    have hl0:¬(s.length:Int)=0:=by omega
    have eh:s.getD 0 0=s.headD 0:=by cases s<;>rfl
    by_cases h1:1<s.length
    · have h1':(1:Int)<s.length:=by omega
      have hl':(0:Int)<s.length:=by omega
      have e1:((s.getD 0 0).toNat:Int)=48↔s.getD 0 0=48:=u8_int (n:=48) (by decide)
      by_cases h2:s.getD 0 0=48
      · have h2':=e1.2 h2
        rw[isDec_no h1 (by rw[←eh];exact h2)]
        repeat' (with_reducible first|simp(disch:=first|exact okD|fail) only[go_sem,seval,hl0,h1',hl',h2']|(apply Spl.i<;>intro hc))
      · have h2':=fun e=>h2 (e1.1 e)
        rw[isDec_of h0 (.inr (by rw[←eh];exact h2))]
        repeat' (with_reducible first|simp(disch:=first|exact okD|fail) only[go_sem,seval,hl0,h1',hl',h2',cd]|(apply Spl.i<;>intro hc))
    · have h1':¬(1:Int)<s.length:=by omega
      rw[isDec_of h0 (.inl (by omega))]
      repeat' (with_reducible first|simp(disch:=first|exact okD|fail) only[go_sem,seval,hl0,h1',cd]|(apply Spl.i<;>intro hc))
theorem d124g {x y:Int} (l1:Lr 9000 x) (l2:Lr 9000 y):Gp E3 124 [.str (txtZ x++47::txtZ y)] h fun v h'=>∃va vb,v= .tup [va,vb]∧IsR h' va x∧IsR h' vb y:=by
  refine Gp.of (CallWp.fn (fn:=R.a124) rfl rfl rfl ?_)
  unfold R.a124
  have t1:=txtZ_len l1
  have t2:=txtZ_len l2
  have hsl:slashV (txtZ x++47::txtZ y)=(txtZ x).length:=by
    refine slash_at (by simp) (fun j hj e=>?_) ?_
    · refine txtZ_no x (getD_mem (i:=j) hj ?_)
      rw[←e]
      simp only[List.getD]
      rw[List.getElem?_append_left hj]
    · simp[List.getD]
  have hlen:(txtZ x++47::txtZ y).length=(txtZ x).length+((txtZ y).length+1):=by simp
  have cs:=fun{h:Hp} {K:AV→Hp→Prop}=>c122 (h:=h) (K:=K) (s:=txtZ x++47::txtZ y) (by omega)
  have hne:¬((txtZ x).length:Int)=((txtZ x).length+((txtZ y).length+1):Nat):=by omega
  have k1:List.take (txtZ x).length (txtZ x++47::txtZ y)=txtZ x:=List.take_left
  have e1:(((txtZ x).length:Int)+1).toNat=(txtZ x).length+1:=by omega
  have k2:List.drop ((txtZ x).length+1) (txtZ x++47::txtZ y)=txtZ y:=by
    rw[←List.drop_drop,List.drop_left];rfl
  repeat' (with_reducible first|simp(disch:=first|exact okD|fail) only[go_sem,seval,cs,hsl,hne,k1,e1,k2]|(apply Spl.i<;>intro hc))
  refine Gp.wp (d207z l1 (by decide)) fun v5 k5 a5 b5 u5 I5=>?_
  obtain⟨w5,rfl,p5,I5⟩:=I5.ex
  repeat' (with_reducible first|simp(disch:=first|exact okD|fail) only[go_sem,seval,p5,k1,e1,k2]|(apply Spl.i<;>intro hc))
  refine Gp.wp (d207z l2 (by decide)) fun v6 k6 a6 b6 u6 I6=>?_
  obtain⟨w6,rfl,p6,I6⟩:=I6.ex
  have I5':=I5.grs (⟨_,_,u6⟩:Grs _ ((((h.push fun st=> .row [.bool false,.nils] true st).push fun st=> .row [.bool false,.nils] true st).ov k5 u5).ov k6 u6))
  repeat' (with_reducible first|simp(disch:=first|exact okD|fail) only[go_sem,seval,p5,p6]|(apply Spl.i<;>intro hc))
  refine⟨⟨_,_,rfl,?_,?_⟩,?_⟩
  · exact(I5'.putB (by simp(disch:=first|exact okD|fail) only[go_sem,seval,isCellB_row])).putB (by simp(disch:=first|exact okD|fail) only[go_sem,seval,isCellB_row])
  · exact(I6.putB (by simp(disch:=first|exact okD|fail) only[go_sem,seval,isCellB_row])).putB (by simp(disch:=first|exact okD|fail) only[go_sem,seval,isCellB_row])
  · exact okG
theorem Lr_dec {l:List UInt8} (hd:isDec l=true) (hl:l.length≤600):Lr 67 (decV l:Nat):=by
  unfold Lr
  rw[Int.natAbs_natCast]
  have h1:=decV_lt (isDec_cases hd).2.1
  have h2:(10:Nat)^l.length≤10^603:=Nat.pow_le_pow_right (by decide) (by omega)
  have h3:(10:Nat)^603=1000000000^67:=by rw[show(1000000000:Nat)=10^9 from rfl,←Nat.pow_mul]
  omega
theorem num_len (s:List UInt8):(numU s).length=slashV (unS s):=by
  have:=slash_le (unS s)
  unfold numU;rw[List.length_take];omega
theorem den_len (s:List UInt8):(denU s).length=(unS s).length-(slashV (unS s)+1):=by
  unfold denU;rw[List.length_drop]
theorem chk_rest {N D t:List UInt8} {k:Nat} {bk:Bool} (h3:val tm (.t 3)= .str t) (h4:val tm (.t 4)= .int .i64 k) (hl:t.length≤1000000) (hk:k≤t.length) (nl:N.length=k) (dl:D.length=t.length-(k+1))
    (k2:List.drop (k+1) t=D) (ebrk:bk=decide (k<t.length)) (hsp:bk=true→t=N++47::D) (hdn:isDec N=true):
    Wp E3 (ACode.post 2 (ACode.post 3 R.a19.code)) ⟨tm,h⟩ (RetQ [.tmp 2] fun v h'=>(v= .int .i64 (if(true&&true&&(!bk||(isDec D&&decide (D≠[48])&&decide (D≠[49]))))=false then 1 else if 600<N.length∨600<D.length then 4 else if bk=true∧Nat.gcd (decV N) (decV D)≠1 then 1 else 0))∧Grs h h'):=by
  have e1:((k:Int)+1).toNat=k+1:=by omega
  have cd:=fun{h:Hp} {K:AV→Hp→Prop}=>u123 (h:=h) (K:=K) (s:=D) (by omega)
  subst ebrk
  unfold R.a19
  dsimp only[ACode.post]
  by_cases hb:k<t.length
  · have hb':(k:Int)<t.length:=by omega
    have hb1:(k:Int)+1≤t.length:=by omega
    rw[decide_eq_true hb]
    cases hdd:isDec D with
    | false=>
      rw[hdd]at cd
      repeat' (with_reducible first|simp(disch:=first|exact okD|fail) only[go_sem,seval,h3,h4,hb',hb1,e1,k2,cd]|(apply Spl.i<;>intro hc))
      simp
    | true=>
      rw[hdd]at cd
      by_cases g0:D=[48]
      · rw[g0]at cd
        repeat' (with_reducible first|simp(disch:=first|exact okD|fail) only[go_sem,seval,h3,h4,hb',hb1,e1,k2,cd,g0]|(apply Spl.i<;>intro hc))
        simp
      · by_cases g1:D=[49]
        · have g1':¬([49]:List UInt8)=[48]:=by decide
          rw[g1]at g0 cd
          repeat' (with_reducible first|simp(disch:=first|exact okD|fail) only[go_sem,seval,h3,h4,hb',hb1,e1,k2,cd,g1,g0]|(apply Spl.i<;>intro hc))
          simp
        · have ef :(true&&true&&(!true||(true&&decide (D≠[48])&&decide (D≠[49]))))=true:=by simp[g0,g1]
          rw[ef,if_neg (by decide)]
          by_cases hL:600<N.length∨600<D.length
          · rw[if_pos hL]
            by_cases hLn:600<k
            · have hLn':(600:Int)<k:=by omega
              repeat' (with_reducible first|simp(disch:=first|exact okD|fail) only[go_sem,seval,h3,h4,hb',hb1,e1,k2,cd,g0,g1,hLn']|(apply Spl.i<;>intro hc))
            · have hLn':¬(600:Int)<k:=by omega
              have hLd':(600:Int)<(t.length:Int)-k-1:=by omega
              repeat' (with_reducible first|simp(disch:=first|exact okD|fail) only[go_sem,seval,h3,h4,hb',hb1,e1,k2,cd,g0,g1,hLn',hLd']|(apply Spl.i<;>intro hc))
          · rw [if_neg hL]
            have hLn':¬(600:Int)<k:=by omega
            have hLd':¬(600:Int)<(t.length:Int)-k-1:=by omega
            have lN:=Lr_dec hdn (by omega)
            have lD:=Lr_dec hdd (by omega)
            have et:t=txtZ (decV N:Nat)++47::txtZ (decV D:Nat):=by
              rw[txtZ_nat,txtZ_nat,isDec_eq hdn,isDec_eq hdd]
              exact hsp (decide_eq_true hb)
            have cp:=fun h=>d124g (h:=h) (lN.mono (by decide:67≤9000)) (lD.mono (by decide:67≤9000))
            rw[←et]at cp
            repeat' (with_reducible first|simp(disch:=first|exact okD|fail) only[go_sem,seval,h3,h4,hb',hb1,e1,k2,cd,g0,g1,hLn',hLd']|(apply Spl.i<;>intro hc))
            refine Gp.wp (cp _) fun v5 k5 a5 b5 u5 ⟨va,vb,e5,I5,I6⟩=>?_
            subst e5
            obtain⟨w5,rfl,p5,I5⟩:=I5.ex
            obtain⟨w6,rfl,p6,I6⟩:=I6.ex
            obtain⟨l1,S1,D1,N1,V1⟩:=I5.un
            obtain⟨l2,S2,D2,N2,V2⟩:=I6.un
            have m1:=lN.len N1 V1
            have m2:=lD.len N2 V2
            repeat' (with_reducible first|simp(disch:=first|exact okD|fail) only[go_sem,seval,p5,p6]|(apply Spl.i<;>intro hc))
            refine Gp.wp (d125 (S1.grs okG) (S2.grs okG) D1 D2 N1 N2 (by omega) (by omega)) fun v7 k7 a7 b7 u7 ⟨l7,S7,D7,N7,V7⟩=>?_
            rw[V1,V2,Int.natAbs_natCast,Int.natAbs_natCast]at V7
            have r7:=S7.rd
            have ln7:=r7.len
            have ad7:=r7.adr
            have e00:(0:Int).toNat=0:=rfl
            by_cases hg:Nat.gcd (decV N) (decV D)=1
            · have e7:l7=[1]:=norm_inj (B:=1000000000) (by decide) D7 (Dg.cons (by decide) Dg.nil) N7 (by simp[Norm]) (by rw[V7,hg];simp[vl])
              subst e7
              have ld7:=r7.load 0 (by simp)
              simp only[List.getD_cons_zero,Nat.add_zero]at ld7
              have e1':((1:Nat):Int)=1:=rfl
              simp only[List.length_cons,List.length_nil,Nat.zero_add]at ln7
              rw[e1']at ln7 ld7
              repeat' (with_reducible first|simp(disch:=first|exact okD|fail) only[go_sem,seval,ln7,ad7,e00,ld7,e1']|(apply Spl.i<;>intro hc))
              refine⟨by simp[hg],?_⟩
              exact okG
            · by_cases hl7:l7.length=1
              · obtain⟨d,rfl⟩:∃d,l7=[d]:=by
                  match l7,hl7 with
                  |[d],_=>exact⟨d,rfl⟩
                have ed:vl 1000000000 [d]=d:=by simp[vl]
                rw[ed]at V7
                have ld7:=r7.load 0 (by simp)
                simp only[List.getD_cons_zero,Nat.add_zero]at ld7
                have e1':((1:Nat):Int)=1:=rfl
                simp only[List.length_cons,List.length_nil,Nat.zero_add]at ln7
                rw[e1']at ln7
                have hd1:¬(d:Int)=1:=by omega
                repeat' (with_reducible first|simp(disch:=first|exact okD|fail) only[go_sem,seval,ln7,ad7,e00,ld7,hd1]|(apply Spl.i<;>intro hc))
                refine⟨by simp[hg],?_⟩
                exact okG
              · have hl7':¬(l7.length:Int)=1:=by omega
                repeat' (with_reducible first|simp(disch:=first|exact okD|fail) only[go_sem,seval,ln7,hl7']|(apply Spl.i<;>intro hc))
                refine⟨by simp[hg],?_⟩
                exact okG
  · have hb':¬(k:Int)<t.length:=by omega
    have hkt:k=t.length:=by omega
    rw[decide_eq_false hb]
    have ef:(true&&true&&(!false||(isDec D&&decide (D≠[48])&&decide (D≠[49]))))=true:=by simp
    rw[ef,if_neg (by decide)]
    by_cases hL:600<N.length∨600<D.length
    · rw[if_pos hL]
      have hLn':(600:Int)<k:=by omega
      repeat' (with_reducible first|simp(disch:=first|exact okD|fail) only[go_sem,seval,h3,h4,hb',hLn']|(apply Spl.i<;>intro hc))
    · rw[if_neg hL]
      have hLn':¬(600:Int)<k:=by omega
      have hLd':¬(600:Int)<(t.length:Int)-k-1:=by omega
      repeat' (with_reducible first|simp(disch:=first|exact okD|fail) only[go_sem,seval,h3,h4,hb',hLn',hLd']|(apply Spl.i<;>intro hc))
      simp
theorem chk_tail {s:List UInt8} (h0:val tm (.t 0)= .str s) (h3:val tm (.t 3)= .str (unS s)) (hl:(unS s).length≤1000000):
    Wp E3 (R.a19.code.post 3) ⟨tm,h⟩ (RetQ [.tmp 2] fun v h'=>v= .int .i64 (checkV s)∧Grs h h'):=by
  have hk:=slash_le (unS s)
  have nl:=num_len s
  have dl:=den_len s
  have cs:=fun{h:Hp} {K:AV→Hp→Prop}=>c122 (h:=h) (K:=K) (s:=unS s) (by omega)
  have cn:=fun{h:Hp} {K:AV→Hp→Prop}=>u123 (h:=h) (K:=K) (s:=numU s) (by omega)
  have cd:=fun{h:Hp} {K:AV→Hp→Prop}=>u123 (h:=h) (K:=K) (s:=denU s) (by omega)
  have e1:((slashV (unS s):Int)+1).toNat=slashV (unS s)+1:=by omega
  have k1:List.take (slashV (unS s)) (unS s)=numU s:=rfl
  have k2:List.drop (slashV (unS s)+1) (unS s)=denU s:=rfl
  have hkk:(slashV (unS s):Int)≤(unS s).length:=by omega
  have hsp:brk s=true→unS s=numU s++47::denU s:=fun c=>slash_split (by unfold brk at c;exact of_decide_eq_true c)
  have ebrk:brk s=decide (slashV (unS s)<(unS s).length):=rfl
  obtain⟨k,hkd⟩:∃k,k=slashV (unS s):=⟨_,rfl⟩
  obtain⟨t,ht⟩:∃t,t=unS s:=⟨_,rfl⟩
  obtain⟨N,hN⟩:∃N,N=numU s:=⟨_,rfl⟩
  obtain⟨D,hD⟩:∃D,D=denU s:=⟨_,rfl⟩
  have ecv:checkV s=if formS s=false then 1 else if 600<N.length∨600<D.length then 4 else if brk s=true∧Nat.gcd (decV N) (decV D)≠1 then 1 else 0:=by rw[hN,hD];rfl
  have efm:formS s=(isDec N&&(!(decide (s.head?=some 45))||decide (N≠[48]))&&(!(brk s)||(isDec D&&decide (D≠[48])&&decide (D≠[49])))):=by rw[hN,hD];rfl
  rw[←hkd]at cs e1 k1 k2 hkk nl dl hk ebrk
  rw[←ht]at cs k1 k2 hkk dl hk h3 hsp ebrk hl
  rw[←hN]at k1 cn nl hsp
  rw[←hD]at k2 cd dl hsp
  have rest:=fun tm h3 h4 hdn=>chk_rest (h:=h) (tm:=tm) (N:=N) (D:=D) (t:=t) (k:=k) (bk:=brk s) h3 h4 hl hk nl dl k2 ebrk hsp hdn
  refine Wp.cut 2 rfl ?_
  generalize ACode.post 2 (ACode.post 3 R.a19.code)=rc at rest⊢
  unfold R.a19
  dsimp only[ACode.post,ACode.pre]
  rw[ecv,efm]
  cases hdn:isDec N with
  | false=>
    rw[hdn]at cn
    repeat' (with_reducible first|simp(disch:=first|exact okD|fail) only[go_sem,seval,h0,h3,cs,cn,k1,hkk]|(apply Spl.i<;>intro hc))
    simp
  | true=>
    rw[hdn]at cn
    have hN0:=(isDec_cases hdn).1
    have hNl:0<N.length:=List.length_pos_iff.2 hN0
    have hs0:s≠[]:=by
      rintro rfl
      have:t=[]:=by rw[ht];rfl
      rw[this]at hk
      simp at hk;omega
    have hsl:(0:Int)<s.length:=by have:=List.length_pos_iff.2 hs0;omega
    have e45:((s.getD 0 0).toNat:Int)=45↔s.head?=some 45:=by
      refine(u8_int (b:=s.getD 0 0) (n:=45) (by decide)).trans ?_
      match s,hs0 with
      | c::l,_=>
        show c=45↔some c=some 45
        simp
    have first:(s.head?=some 45∧N=[48])∨¬(s.head?=some 45∧N=[48]):=Classical.em _
    rcases first with⟨f1,f2⟩|f
    · have f1':=e45.2 f1
      rw[f2]at cn
      repeat' (with_reducible first|simp(disch:=first|exact okD|fail) only[go_sem,seval,h0,h3,cs,cn,k1,hkk,hsl,f1',f2]|(apply Spl.i<;>intro hc))
      simp[f1,f2]
    · have en:(!(decide (s.head?=some 45))||decide (N≠[48]))=true:=by
        by_cases f1:s.head?=some 45
        · have:N≠[48]:=fun e=>f ⟨f1,e⟩
          simp[this]
        · simp[f1]
      rw[en]
      by_cases f1:s.head?=some 45
      · have f1':=e45.2 f1
        have f2:¬N=[48]:=fun e=>f ⟨f1,e⟩
        repeat' (with_reducible first|simp(disch:=first|exact okD|fail) only[go_sem,seval,h0,h3,cs,cn,k1,hkk,hsl,f1',f2]|(apply Spl.i<;>intro hc))
        exact rest _ (by simp(disch:=first|exact okD|fail) only[go_sem,seval,h3]) (by simp(disch:=first|exact okD|fail) only[go_sem,seval]) hdn
      · have f1':=fun e=>f1 (e45.1 e)
        repeat' (with_reducible first|simp(disch:=first|exact okD|fail) only[go_sem,seval,h0,h3,cs,cn,k1,hkk,hsl,f1']|(apply Spl.i<;>intro hc))
        exact rest _ (by simp(disch:=first|exact okD|fail) only[go_sem,seval,h3]) (by simp(disch:=first|exact okD|fail) only[go_sem,seval]) hdn
theorem d19 {s:List UInt8} (hl:s.length≤1000000):Gv E3 19 [.str s] h (.int .i64 (checkV s)):=by
  have hu:(unS s).length≤1000000:=by
    unfold unS;split
    · rw[List.length_drop];omega
    · exact hl
  refine Gv.of (CallWp.fn (fn:=R.a19) rfl rfl rfl ?_)
  have tail:=fun tm h0 h3=>chk_tail (h:=h) (tm:=tm) (s:=s) h0 h3 hu
  refine Wp.cut 3 rfl ?_
  generalize ACode.post 3 R.a19.code=rc at tail⊢
  unfold R.a19
  dsimp only[ACode.pre]
  cases s with
  | nil=>
    repeat' (with_reducible first|simp(disch:=first|exact okD|fail) only[go_sem,seval,List.length_nil]|(apply Spl.i<;>intro hc))
    exact tail _ (by simp(disch:=first|exact okD|fail) only[go_sem,seval]) (by(simp(disch:=first|exact okD|fail) only[go_sem,seval])<;>rfl)
  | cons c l=>
    have hsl:(0:Int)<((c::l:List UInt8).length:Int):=by simp
    have hsl1:(1:Int)≤((c::l:List UInt8).length:Int):=by rw[List.length_cons];omega
    have e45:(((c::l).getD 0 0).toNat:Int)=45↔c=45:=u8_int (n:=45) (by decide)
    by_cases f1:c=45
    · have f1':=e45.2 f1
      have eu:unS (c::l)=(c::l).drop 1:=by unfold unS;rw[if_pos (by simpa using f1)]
      repeat' (with_reducible first|simp(disch:=first|exact okD|fail) only[go_sem,seval,hsl,hsl1,f1']|(apply Spl.i<;>intro hc))
      exact tail _ (by simp(disch:=first|exact okD|fail) only[go_sem,seval]) (by(simp(disch:=first|exact okD|fail) only[go_sem,seval])<;>rw[eu]<;>rfl)
    · have f1':=fun e=>f1 (e45.1 e)
      have eu:unS (c::l)=c::l:=by unfold unS;rw[if_neg (by simpa using f1)]
      repeat' (with_reducible first|simp(disch:=first|exact okD|fail) only[go_sem,seval,hsl,hsl1,f1']|(apply Spl.i<;>intro hc))
      exact tail _ (by simp(disch:=first|exact okD|fail) only[go_sem,seval]) (by(simp(disch:=first|exact okD|fail) only[go_sem,seval])<;>rw[eu])
end
end
end Go.Ae
set_option linter.unusedVariables false
set_option linter.unusedSimpArgs false
set_option maxRecDepth 100000
set_option exponentiation.threshold 1000
set_option maxHeartbeats 2000000
namespace Go.Ae
open Bg N Go.Proofs
noncomputable section
def valS (s:List UInt8):Rat:=Rat.divInt (sgn (decide (s.head?=some 45)) (decV (numU s))) ((if brk s=true then decV (denU s)else 1:Nat):Int)
theorem valS_txt (r:Rat):valS (txtR r)=r:=by
  unfold valS
  rw[numU_txt,denU_txt,brk_txt,decP_val]
  have e1:decide ((txtR r).head?=some 45)=decide (r.num<0):=decide_eq_decide.2 (txtR_head r)
  have e2:sgn (decide (r.num<0)) r.num.natAbs=r.num:=by
    unfold sgn
    by_cases c:r.num<0
    · rw[decide_eq_true c,if_pos rfl];omega
    · rw[decide_eq_false c,if_neg (by decide)];omega
  have e3:(if decide (r.den≠1)=true then decV (if r.den=1 then[]else decP r.den 1)else 1)=r.den:=by
    by_cases c:r.den=1
    · simp[c]
    · rw[if_pos (decide_eq_true c),if_neg c,decP_val]
  rw[e1,e2,e3,Rat.num_divInt_den]
theorem txtR_inj {a b:Rat} (h:txtR a=txtR b):a=b:=by rw[←valS_txt a,h,valS_txt]
theorem txtR_valS {s:List UInt8} (h:checkV s=0):s=txtR (valS s)∧okR (valS s)=true:=by
  obtain⟨r,rfl,hr⟩:=checkV_zero h
  rw[valS_txt];exact⟨rfl,hr⟩
theorem ok_Br {r:Rat} (h:okR r=true):Br 67 r:=by
  unfold okR at h
  obtain⟨h1,h2⟩:=of_decide_eq_true h
  have h3:(10:Nat)^600≤10^603:=Nat.pow_le_pow_right (by decide) (by decide)
  have h4:(10:Nat)^603=1000000000^67:=by rw[show(1000000000:Nat)=10^9 from rfl,←Nat.pow_mul]
  unfold Br Lr
  rw[Int.natAbs_natCast]
  omega
theorem txtR_int (z:Int):txtR (z:Rat)=txtZ z:=by
  unfold txtR
  rw[Rat.den_intCast,if_pos rfl,Rat.num_intCast]
theorem txtR_zero:txtR 0=[48]:=by decide+kernel
theorem sgR_le {a b:Rat}:sgR (a-b)≤0↔a≤b:=by
  have h2:0≤(b-a).num↔0≤b-a:=Rat.num_nonneg
  have h3:(b-a).num= -(a-b).num:=by rw[show b-a= -(a-b) from(Rat.neg_sub a b).symm];rfl
  rw[Rat.le_iff_sub_nonneg,←h2,h3]
  unfold sgR
  by_cases c:(a-b).num<0
  · rw[if_pos c];omega
  · rw[if_neg c]
    by_cases d:(a-b).num=0
    · rw[if_pos d];omega
    · rw[if_neg d];omega
theorem sgR_neg (a:Rat):sgR (-a)= -sgR a:=by
  unfold sgR
  rw[show(-a).num= -a.num from rfl]
  by_cases c:a.num<0
  · rw[if_pos c,if_neg (by omega),if_neg (by omega)];rfl
  · rw[if_neg c]
    by_cases d:a.num=0
    · rw[if_pos d,if_neg (by omega),if_pos (by omega)];rfl
    · rw[if_neg d,if_pos (by omega)]
theorem sgR_ge {a b:Rat}:0≤sgR (a-b)↔b≤a:=by
  rw[←sgR_le (a:=b) (b:=a),show b-a= -(a-b) from(Rat.neg_sub a b).symm,sgR_neg];omega
theorem sgR_lt {a b:Rat}:sgR (a-b)<0↔a<b:=by
  rw[←Rat.not_le,←sgR_ge];omega
def chk2 (s u:List UInt8):Int:=if checkV s=0 then checkV u else checkV s
theorem chk2_zero {s u:List UInt8} (h:chk2 s u=0):checkV s=0∧checkV u=0:=by
  unfold chk2 at h
  by_cases c:checkV s=0
  · rw[if_pos c]at h;exact⟨c,h⟩
  · rw[if_neg c]at h;exact absurd h c
section
variable {h h' hp:Hp} {K:AV→Hp→Prop} {tm:T AV} {r a b c d:Rat}
end
end
end Go.Ae
set_option linter.unusedVariables false
set_option linter.unusedSimpArgs false
set_option maxRecDepth 100000
set_option maxHeartbeats 1000000
set_option exponentiation.threshold 5000
namespace Go.Ae
open Bg N Go.Proofs
noncomputable section
section
variable {h h' hp:Hp} {K:AV→Hp→Prop} {tm:T AV} {v va s w:AV} {z z':Int} {a:Rat}
theorem wd_inj {kd:IntKind}:∀{L M:List Nat},L.map (wd kd)=M.map (wd kd)→L=M
  |[],[],_=>rfl
  | x::L,y::M,e=>by
    simp only[List.map_cons,List.cons.injEq,wd,AV.int.injEq,true_and]at e
    rw[show x=y by omega,wd_inj e.2]
  |[],_::_,e=>by simp at e
  |_::_,[],e=>by simp at e
theorem Sq.uniq {t o n:Nat} {l l':List Nat} (S:Sq .u64 h (.sl t o n 1) l) (S':Sq .u64 h (.sl t o n 1) l'):l=l':=by
  rcases S with⟨e,_⟩|⟨t1,o1,own1,st1,L1,e1,g1,h1,h2,_⟩
  · cases e
  · rcases S' with⟨e,_⟩|⟨t2,o2,own2,st2,L2,e2,g2,h3,h4,_⟩
    · cases e
    · injection e1 with q1 q2 q3
      injection e2 with r1 r2 r3
      subst q1;subst q2;subst r1;subst r2
      rw[g1]at g2
      have e:=Option.some.inj g2
      injection e with e
      have:=wd_inj e
      subst this
      rw[←h2,←h4,←q3,←r3]
theorem IsI.uniq (i:IsI h s w z) (j:IsI h s w z'):z=z':=by
  rcases i with⟨rfl,rfl,_⟩|⟨n,t,o,l,rfl,S,_,_,_,_,c⟩
  · rcases j with⟨e,_,_⟩|⟨_,_,_,_,e,_⟩
    · injection e
    · cases e
  · rcases j with⟨_,e,_⟩|⟨n',t',o',l',e,S',_,_,_,_,c'⟩
    · cases e
    · injection e with q1 q2 q3
      subst q1;subst q2;subst q3
      have:=S.uniq S'
      subst this
      rcases c with⟨rfl,rfl⟩|⟨rfl,rfl⟩
      · rcases c' with⟨_,rfl⟩|⟨e,_⟩
        · rfl
        · injection e with _ e;exact absurd e (by decide)
      · rcases c' with⟨e,_⟩|⟨_,rfl⟩
        · injection e with _ e;exact absurd e (by decide)
        · rfl
theorem itoa_txtZ (n:Int):Lib.itoa n=txtZ n:=by
  unfold txtZ
  by_cases c:n<0
  · obtain⟨u,rfl⟩:∃u:Nat,n= -(u:Int):=⟨n.natAbs,by omega⟩
    rw[if_pos c,Lib.itoa_neg u (by omega),digits_decP,Int.natAbs_neg,Int.natAbs_natCast]
  · obtain⟨u,rfl⟩:∃u:Nat,n=(u:Int):=⟨n.natAbs,by omega⟩
    rw[if_neg c,Lib.itoa_nonneg u,digits_decP,Int.natAbs_natCast]
def p264f:Prim:=fun args h=>
  open Classical in if hx:∃z:Int,∃s w,args=[.agg [s,w]]∧IsI h s w z∧Lim 3999 z then some (.str (txtZ hx.choose),h)else none
theorem p264f_eq (i:IsI h s w z) (lz:Lim 3999 z):p264f [.agg [s,w]] h=some (.str (txtZ z),h):=by
  have hx:∃z:Int,∃s' w',[AV.agg [s,w]]=[.agg [s',w']]∧IsI h s' w' z∧Lim 3999 z:=⟨z,s,w,rfl,i,lz⟩
  unfold p264f
  rw[dif_pos hx]
  obtain⟨s',w',e,j,_⟩:=hx.choose_spec
  simp only[List.cons.injEq,AV.agg.injEq,and_true]at e
  obtain⟨rfl,rfl⟩:=e
  rw[i.uniq j]
theorem p264f_cases {args:List AV} (hv:p264f args h=some (v,h')):∃z s w,args=[.agg [s,w]]∧IsI h s w z∧Lim 3999 z∧v= .str (txtZ z)∧h'=h:=by
  unfold p264f at hv
  split at hv
  · rename_i hx
    obtain⟨rfl,rfl⟩:=pair_inj hv
    obtain⟨s,w,e,i,l⟩:=hx.choose_spec
    exact⟨_,s,w,e,i,l,rfl,rfl⟩
  · cases hv
def EX:Env:=E3.withR 264 p264f
theorem gqX:Gq E3 EX:=by
  refine Gq.withR (q:=p264) rfl fun args h x hx=>?_
  unfold p264 at hx
  split at hx
  · rename_i n
    split at hx
    · rename_i hn
      obtain rfl:=Option.some.inj hx
      rw[itoa_txtZ]
      exact p264f_eq (.inl ⟨rfl,rfl,hn⟩) ((Lim.small hn).mono (by decide))
    · cases hx
  · cases hx
theorem envX {W0:World} {base:Nat} (G:L.Glob W0 base):EnvOk Tryz.prog W0 base EX:=by
  refine((env2 G).add R.good).withR fun args h v h' hv=>?_
  obtain⟨z,s,w,rfl,i,l,rfl,rfl⟩:=p264f_cases hv
  refine⟨Later.refl _,fun ρ wd B R hok=>?_⟩
  rcases id i with⟨rfl,rfl,hz⟩|⟨n,t,o,li,rfl,_,_,_,_,_,c⟩
  · have:p264 [.agg [.int .i64 z,.nils]] h'=some (.str (Lib.itoa z),h'):=if_pos hz
    rw[←itoa_txtZ]
    exact(k264 G _ _ _ _ this).2 ρ wd B R
  · rcases c with⟨rfl,_⟩|⟨rfl,_⟩
    · exact str_does G B R i l hok
    · exact str_does G B R i l hok
theorem x3 {f:Nat} {args:List AV} {v:AV} (hc:Gv E3 f args h v):Gv EX f args h v:=hc.gq gqX
theorem x2 {f:Nat} {args:List AV} {v:AV} (hc:Gv E2 f args h v):Gv EX f args h v:=(gu3 hc).gq gqX
theorem xp2 {f:Nat} {args:List AV} {p:AV→Hp→Prop} (hc:Gp E2 f args h p):Gp EX f args h p:=by
  obtain⟨v,h',h1,h2,h3⟩:=hc
  exact⟨v,h',(h1.ge ge3).gq gqX,h2,h3⟩
theorem xu3 {f:Nat} {args:List AV} {h':Hp} {v:AV} (hc:∀K,CallWp E3 f args h K↔K v h'):CallWp EX f args h K↔K v h':=upq gqX hc
theorem xu2 {f:Nat} {args:List AV} {h':Hp} {v:AV} (hc:∀K,CallWp E2 f args h K↔K v h'):CallWp EX f args h K↔K v h':=upq gqX fun K=>up ge3 hc
theorem x264 (i:IsI h s w z) (lz:Lim 3999 z):CallWp EX 264 [.agg [s,w]] h K↔K (.str (txtZ z)) h:=by
  rw[CallWp.prim_iff (p:=p264f) rfl rfl,p264f_eq i lz];exact Iff.rfl
theorem i199 (ix:IsI h s w z) (lz:Lim 4000 z):Gp E2 199 [.agg [s,w]] h fun v h'=>∃b:Nat,v= .int .i64 b∧z.natAbs<2^b:=by
  obtain⟨o1,o2⟩:=ix.one
  obtain⟨m1,rfl⟩:=ix.fst
  refine Gp.of (CallWp.fn (fn:=C.a199) rfl rfl rfl ?_)
  unfold C.a199
  repeat' (with_reducible first|simp(disch:=first|exact okD|fail) only[go_sem,seval,o1,o2]|(apply Spl.i<;>intro hc))
  refine Gp.wp (c202 (ix.grs okG)) fun v k a b u ⟨w',l,e0,S0,D0,N0,V0,L0⟩=>?_
  subst e0
  have ln:=S0.rd.len
  have ad:=S0.rd.adr
  by_cases hz:l=[]
  · subst hz
    simp only[List.length_nil]at ln
    have e0:((0:Nat):Int)=0:=rfl
    repeat' (with_reducible first|simp(disch:=first|exact okD|fail) only[go_sem,seval,ln,e0]|(apply Spl.i<;>intro hc))
    rw[vl_nil]at V0
    refine⟨⟨0,rfl,by rw[←V0];decide⟩,?_⟩
    exact okG
  · have hlp:=List.length_pos_iff.2 hz
    have hll:=lz.len N0 V0
    have ldt:=S0.rd.load (l.length-1) (by omega)
    have i1:((l.length:Int)-1).toNat=l.length-1:=by omega
    have htd:=Dg.getD (B:=18446744073709551616) (by decide) D0 (l.length-1)
    have hne:¬(l.length:Int)=0:=by omega
    have hb:=bitLen_lt (n:=l.getD (l.length-1) 0) (k:=64) htd
    have c6:=fun{h:Hp} {K:AV→Hp→Prop}=>c266 (h:=h) (K:=K) (x:=l.getD (l.length-1) 0) (by omega)
    have w1:IntKind.wrap .i64 (64*((l.length:Int)-1))=64*((l.length:Int)-1):=wrap_i64 (by omega)
    have w2:IntKind.wrap .i64 (64*((l.length:Int)-1)+(bitLen (l.getD (l.length-1) 0):Nat))=((64*(l.length-1)+bitLen (l.getD (l.length-1) 0):Nat):Int):=by rw[wrap_i64 (by omega)];omega
    repeat' (with_reducible first|simp(disch:=first|exact okD|fail) only[go_sem,seval,ln,ad,ldt,i1,hne,c6,w1,w2]|(apply Spl.i<;>intro hc))
    refine⟨⟨_,rfl,?_⟩,?_⟩
    · have hv1:=vl_take_succ (B:=18446744073709551616) (l:=l) (i:=l.length-1) (by omega)
      rw[show l.length-1+1=l.length by omega,List.take_length]at hv1
      have hv2:=vl_lt (B:=18446744073709551616) (by decide) (D0.take (n:=l.length-1))
      rw[List.length_take,Nat.min_eq_left (by omega)]at hv2
      have hb2:=bitLen_le (Nat.le_refl (bitLen (l.getD (l.length-1) 0)))
      have e64:(18446744073709551616:Nat)^(l.length-1)=2^(64*(l.length-1)):=by rw[show(18446744073709551616:Nat)=2^64 from rfl,←Nat.pow_mul]
      rw[←V0,hv1,Nat.pow_add,←e64]
      have:18446744073709551616^(l.length-1)*(l.getD (l.length-1) 0+1)≤18446744073709551616^(l.length-1)*2^bitLen (l.getD (l.length-1) 0):=Nat.mul_le_mul_left _ hb2
      rw[Nat.mul_add,Nat.mul_one]at this
      omega
    · exact okG
theorem x216 (ix:IsI h s w z) (lz:Lim 3999 z):Gv EX 216 [.agg [s,w]] h (.bool (decide (10^600≤z.natAbs))):=by
  obtain⟨o1,o2⟩:=ix.one
  obtain⟨m1,rfl⟩:=ix.fst
  have hp:(2:Nat)^1800≤10^600:=by decide+kernel
  refine Gv.of (CallWp.fn (fn:=C.a216) rfl rfl rfl ?_)
  unfold C.a216
  repeat' (with_reducible first|simp(disch:=first|exact okD|fail) only[go_sem,seval,o1,o2]|(apply Spl.i<;>intro hc))
  refine Gp.wp (xp2 (i199 (ix.grs okG) (lz.mono (by decide)))) fun v k a b u ⟨b1,e1,hb⟩=>?_
  subst e1
  by_cases c:1800<b1
  · have c':(1800:Int)<(b1:Int):=by omega
    have cS:=fun{K:AV→Hp→Prop}=>x264 (K:=K) ((ix.grs okG:IsI ((h.push fun t=> .row [.int .i64 m1,w] true t).ov k u) (.int .i64 m1) w z)) lz
    have cU:=fun{h:Hp} {K:AV→Hp→Prop}=>xu2 (h:=h) (K:=K) fun K=>u259 (s:=txtZ z) (h:=h) (K:=K)
    have eu:unS (txtZ z)=decP z.natAbs 1:=by
      have:=unS_txt (z:Rat)
      rw[txtR_int]at this
      rw[this];unfold absR
      rw[Rat.den_intCast,Rat.num_intCast,if_pos rfl]
    rw[eu]at cU
    have hd:=decP_ge (n:=z.natAbs)
    by_cases d:10^600≤z.natAbs
    · have d':(600:Int)<(decP z.natAbs 1).length:=by
        have:¬(decP z.natAbs 1).length≤600:=fun e=>by have:=hd.1 e;omega
        omega
      rw[decide_eq_true d]
      repeat' (with_reducible first|simp(disch:=first|exact okD|fail) only[go_sem,seval,o1,o2,c',cS,cU,d']|(apply Spl.i<;>intro hc))
      exact okG
    · have d':¬(600:Int)<(decP z.natAbs 1).length:=by
        have:=hd.2 (by omega)
        omega
      rw[decide_eq_false d]
      repeat' (with_reducible first|simp(disch:=first|exact okD|fail) only[go_sem,seval,o1,o2,c',cS,cU,d']|(apply Spl.i<;>intro hc))
      exact okG
  · have c':¬(1800:Int)<(b1:Int):=by omega
    have d:¬10^600≤z.natAbs:=by
      have:(2:Nat)^b1≤2^1800:=Nat.pow_le_pow_right (by decide) (by omega)
      omega
    rw[decide_eq_false d]
    repeat' (with_reducible first|simp(disch:=first|exact okD|fail) only[go_sem,seval,o1,o2,c']|(apply Spl.i<;>intro hc))
    exact okG
theorem okR_not {a:Rat}:(decide (10^600≤a.num.natAbs)||decide (10^600≤(a.den:Int).natAbs))= !(okR a):=by
  unfold okR
  rw[Int.natAbs_natCast]
  by_cases c1:a.num.natAbs<10^600
  · by_cases c2:a.den<10^600
    · rw[decide_eq_false (by omega),decide_eq_false (by omega),decide_eq_true ⟨c1,c2⟩];rfl
    · rw[decide_eq_true (p:=10^600≤a.den) (by omega),decide_eq_false (p:=a.num.natAbs<10^600∧a.den<10^600) (fun e=>c2 e.2),Bool.or_true];rfl
  · rw[decide_eq_true (p:=10^600≤a.num.natAbs) (by omega),decide_eq_false (p:=a.num.natAbs<10^600∧a.den<10^600) (fun e=>c1 e.1),Bool.true_or];rfl
theorem x140 (ia:IsF h va a) (la:Bd 3999 a):Gv EX 140 [va] h (.bool (!(okR a))):=by
  obtain⟨n1,w1,n2,w2,rfl,o1,o2,I1,I2⟩:=ia.ex
  refine Gv.of (CallWp.fn (fn:=C.a140) rfl rfl rfl ?_)
  unfold C.a140
  rw[←okR_not]
  repeat' (with_reducible first|simp(disch:=first|exact okD|fail) only[go_sem,seval,o1,o2]|(apply Spl.i<;>intro hc))
  refine Gv.wp (x216 (I1.grs okG) la.1) fun h1 k1 j1 u1=>?_
  by_cases d:10^600≤a.num.natAbs
  · rw[decide_eq_true d]
    repeat' (with_reducible first|simp(disch:=first|exact okD|fail) only[go_sem,seval,o1,o2]|(apply Spl.i<;>intro hc))
    refine⟨by simp,?_⟩
    exact okG
  · rw[decide_eq_false d]
    repeat' (with_reducible first|simp(disch:=first|exact okD|fail) only[go_sem,seval,o1,o2]|(apply Spl.i<;>intro hc))
    refine Gv.wp (x216 (I2.grs okG) la.2) fun h2 k2 j2 u2=>?_
    repeat' (with_reducible first|simp(disch:=first|exact okD|fail) only[go_sem,seval,o1,o2]|(apply Spl.i<;>intro hc))
    refine⟨by simp,?_⟩
    exact okG
theorem x196 (ia:IsF h va a) (la:Bd 3999 a) (hl:(txtR a).length≤1000000):Gv EX 196 [va] h (.str (txtR a)):=by
  obtain⟨n1,w1,n2,w2,e,o1,o2,I1,I2⟩:=id ia.ex
  refine Gv.of (CallWp.fn (fn:=C.a196) rfl rfl rfl ?_)
  unfold C.a196
  subst e
  repeat' (with_reducible first|simp(disch:=first|exact okD|fail) only[go_sem,seval,o1,o2]|(apply Spl.i<;>intro hc))
  refine Gv.wp (x2 (i241 (ia.grs okG))) fun h1 k1 j1 u1=>?_
  have cS:=fun{h':Hp} {K:AV→Hp→Prop} (g:Grs h h')=>x264 (h:=h') (K:=K) (I1.grs g) la.1
  have cT:=fun{h':Hp} {K:AV→Hp→Prop} (g:Grs h h')=>x264 (h:=h') (K:=K) (I2.grs g) la.2
  by_cases d:(a.den:Int)=1
  · have et:txtR a=txtZ a.num:=if_pos (by omega)
    rw[et]
    have c1:=fun{K:AV→Hp→Prop}=>cS (h':=(h.push fun t=> .row [.int .i64 n1,w1,.int .i64 n2,w2] true t).ov h1 u1) (K:=K) okG
    repeat' (with_reducible first|simp(disch:=first|exact okD|fail) only[go_sem,seval,o1,o2,d,c1]|(apply Spl.i<;>intro hc))
    exact okG
  · have et:txtR a=txtZ a.num++47::txtZ a.den:=if_neg (by omega)
    rw[et]at hl⊢
    rw[List.length_append,List.length_cons]at hl
    have c1:=fun{K:AV→Hp→Prop}=>cS (h':=(h.push fun t=> .row [.int .i64 n1,w1,.int .i64 n2,w2] true t).ov h1 u1) (K:=K) okG
    have c2:=fun{K:AV→Hp→Prop}=>cT (h':=(h.push fun t=> .row [.int .i64 n1,w1,.int .i64 n2,w2] true t).ov h1 u1) (K:=K) okG
    repeat' (with_reducible first|simp(disch:=first|exact okD|fail) only[go_sem,seval,o1,o2,d,c1,c2]|(apply Spl.i<;>intro hc))
    refine⟨by simp,?_⟩
    exact okG
end
end
end Go.Ae
set_option maxRecDepth 100000
namespace Go.Ae.F
open AOp Opd C
def a16:AFn:=⟨145,[.tmp 4],(.seq (.reg [o 4 (.mv (.k (.bool false)))])
 (.seq (.seq (.reg [c 16 17 [],y 17 .not 16,v 18 17,g 19 (m 0) 18 false,g 20 (.len .str (.t 19)) 18 false,g 21 (.bin .gtr .none (.t 20) (i 1300)) 18 false,pt 22 18 21,v 23 22,g 24 (m 1) 23 false,g 25 (.len .str (.t 24)) 23 false,g 26 (.bin .gtr .none (.t 25) (i 1300)) 23 false,pt 27 23 26])
 (.cond (.t 27) (.seq (.reg [c 28 17 [],v 4 28])
 .ret)
 .skip))
 (.seq (.reg [v 29 0,c 30 19 [.t 29],v 31 1,c 32 19 [.t 31],o 33 (.bslice 1 2 [.int .i64 0,.int .i64 0] [(0,1,(.t 30)),(1,1,(.t 32))]),c 34 25 [.t 33],v 5 34])
 (.seq (.seq (.reg [v 35 0,c 36 101 [.t 35],v 37 0,c 38 19 [.t 37],bt 39 .neq 36 38])
 (.cond (.t 39) (.seq (.reg [o 4 (.mv (.k (.bool false)))])
 .ret)
 .skip))
 (.seq (.reg [v 41 0,v 42 1,c 43 102 [.t 41,.t 42],v 40 43,e 44 40 0,e 45 40 1,v 6 44,v 7 45])
 (.seq (.reg [v 47 0,v 48 1,c 49 103 [.t 47,.t 48],v 46 49,e 50 46 0,e 51 46 1,v 8 50,v 9 51])
 (.seq (.reg [v 53 0,v 54 1,c 55 104 [.t 53,.t 54],v 52 55,e 56 52 0,e 57 52 1,v 10 56,v 11 57])
 (.seq (.reg [v 59 0,v 60 1,c 61 105 [.t 59,.t 60],v 58 61,e 62 58 0,e 63 58 1,v 12 62,v 13 63])
 (.seq (.reg [v 65 0,v 66 1,c 67 106 [.t 65,.t 66],v 64 67,e 68 64 0,e 69 64 1,v 14 68,v 15 69])
 (.seq (.seq (.reg [v 70 5,bi 71 .neq 70 0])
 (.cond (.t 71) (.seq (.reg [v 72 6,v 73 7,v 74 5,c 75 81 [.t 72,.t 73,.t 74,(.k (.str []))],v 76 75,g 77 (m 8) 76 true,g 78 (m 9) 76 true,g 79 (m 5) 76 true,g 80 (.callF 81 [.t 77,.t 78,.t 79,(.k (.str []))]) 76 true,pf 81 76 80,v 82 81,g 83 (m 10) 82 true,g 84 (m 11) 82 true,g 85 (m 5) 82 true,g 86 (.callF 81 [.t 83,.t 84,.t 85,(.k (.str []))]) 82 true,pf 87 82 86,v 88 87,g 89 (m 12) 88 true,g 90 (m 13) 88 true,g 91 (m 5) 88 true,g 92 (.callF 81 [.t 89,.t 90,.t 91,(.k (.str []))]) 88 true,pf 93 88 92,v 94 93,g 95 (m 14) 94 true,g 96 (m 15) 94 true,g 97 (m 5) 94 true,g 98 (.callF 45 [.t 95,.t 96,.t 97,i 0]) 94 true,pf 99 94 98,v 4 99])
 .ret)
 .skip))
 (.seq (.seq (.reg [v 100 6,v 101 7,v 102 0,v 103 1,c 104 72 [.t 102,.t 103],c 105 81 [.t 100,.t 101,i 0,.t 104],y 106 .not 105,v 107 106,g 108 (m 8) 107 false,g 109 (m 9) 107 false,g 110 (m 0) 107 false,g 111 (m 1) 107 false,g 112 (.callF 73 [.t 110,.t 111]) 107 false,g 113 (.callF 81 [.t 108,.t 109,i 0,.t 112]) 107 false,g 114 (.un .not (.t 113)) 107 false,pt 115 107 114,v 116 115,g 117 (m 10) 116 false,g 118 (m 11) 116 false,g 119 (m 0) 116 false,g 120 (m 1) 116 false,g 121 (.callF 74 [.t 119,.t 120]) 116 false,g 122 (.callF 81 [.t 117,.t 118,i 0,.t 121]) 116 false,g 123 (.un .not (.t 122)) 116 false,pt 124 116 123,v 125 124,g 126 (m 14) 125 false,g 127 (m 15) 125 false,g 128 (m 0) 125 false,g 129 (m 1) 125 false,g 130 (.callF 75 [.t 128,.t 129]) 125 false,g 131 (.callF 45 [.t 126,.t 127,i 0,.t 130]) 125 false,g 132 (.un .not (.t 131)) 125 false,pt 133 125 132])
 (.cond (.t 133) (.seq (.reg [o 4 (.mv (.k (.bool false)))])
 .ret)
 .skip))
 (.seq (.seq (.reg [v 134 1,c 135 107 [.t 134]])
 (.cond (.t 135) (.seq (.reg [v 136 12,v 137 13,c 138 81 [.t 136,.t 137,i 6,(.k (.str []))],v 4 138])
 .ret)
 .skip))
 (.seq (.reg [v 139 12,v 140 13,v 141 0,v 142 1,c 143 76 [.t 141,.t 142],c 144 81 [.t 139,.t 140,i 0,.t 143],v 4 144])
 .ret)))))))))))))⟩
def a102:AFn:=⟨11,[.tmp 4,.tmp 5],(.seq (.reg [o 4 (.mv (.k (.str []))),vi 5 0])
 (.seq (.reg [v 6 0,v 7 1,c 8 193 [.t 6,.t 7,(.k (.fn 163 []))],e 9 8 0,e 10 8 1,v 4 9,v 5 10])
 .ret))⟩
def a103:AFn:=⟨11,[.tmp 4,.tmp 5],(.seq (.reg [o 4 (.mv (.k (.str []))),vi 5 0])
 (.seq (.reg [v 6 0,v 7 1,c 8 193 [.t 6,.t 7,(.k (.fn 164 []))],e 9 8 0,e 10 8 1,v 4 9,v 5 10])
 .ret))⟩
def a104:AFn:=⟨11,[.tmp 4,.tmp 5],(.seq (.reg [o 4 (.mv (.k (.str []))),vi 5 0])
 (.seq (.reg [v 6 0,v 7 1,c 8 193 [.t 6,.t 7,(.k (.fn 115 []))],e 9 8 0,e 10 8 1,v 4 9,v 5 10])
 .ret))⟩
def a105:AFn:=⟨24,[.tmp 4,.tmp 5],(.seq (.reg [o 4 (.mv (.k (.str []))),vi 5 0])
 (.seq (.seq (.reg [v 7 0,v 8 1,o 9 (.bslice 1 2 [.str [],.str []] [(0,1,(.t 7)),(1,1,(.t 8))]),c 10 136 [.t 9],v 11 1,b 12 .eql (.t 11) (.k (.str [48])),c 13 131 [.t 12,i 6],o 14 (.bslice 1 2 [.int .i64 0,.int .i64 0] [(0,1,(.t 10)),(1,1,(.t 13))]),c 15 130 [.t 14],v 6 15])
 (.seq (.reg [v 16 6,bi 17 .neq 16 0])
 (.cond (.t 17) (.seq (.reg [v 18 6,o 4 (.mv (.k (.str []))),v 5 18])
 .ret)
 .skip)))
 (.seq (.reg [v 19 0,v 20 1,c 21 193 [.t 19,.t 20,(.k (.fn 166 []))],e 22 21 0,e 23 21 1,v 4 22,v 5 23])
 .ret)))⟩
def a106:AFn:=⟨19,[.tmp 4,.tmp 5],(.seq (.reg [vi 4 0,vi 5 0])
 (.seq (.seq (.reg [v 7 0,v 8 1,o 9 (.bslice 1 2 [.str [],.str []] [(0,1,(.t 7)),(1,1,(.t 8))]),c 10 136 [.t 9],v 6 10])
 (.seq (.reg [v 11 6,bi 12 .neq 11 0])
 (.cond (.t 12) (.seq (.reg [v 13 6,vi 4 0,v 5 13])
 .ret)
 .skip)))
 (.seq (.reg [v 14 0,c 15 111 [.t 14],v 16 1,c 17 111 [.t 16],c 18 161 [.t 15,.t 17],v 4 18,vi 5 0])
 .ret)))⟩
def a193:AFn:=⟨25,[.tmp 6,.tmp 7],(.seq (.reg [o 6 (.mv (.k (.str []))),vi 7 0])
 (.seq (.seq (.reg [v 9 0,v 10 1,o 11 (.bslice 1 2 [.str [],.str []] [(0,1,(.t 9)),(1,1,(.t 10))]),c 12 136 [.t 11],v 8 12])
 (.seq (.reg [v 13 8,bi 14 .neq 13 0])
 (.cond (.t 14) (.seq (.reg [v 15 8,o 6 (.mv (.k (.str []))),v 7 15])
 .ret)
 .skip)))
 (.seq (.reg [v 16 2,v 17 0,c 18 111 [.t 17],v 19 1,c 20 111 [.t 19],o 21 (.callV (.t 16) [.t 18,.t 20]),c 22 175 [.t 21],e 23 22 0,e 24 22 1,v 6 23,v 7 24])
 .ret)))⟩
def tab:T AFn:=(.node (.node (.node (.node .nil none (.node (.node .nil none (.node .nil (some a103) .nil)) none .nil)) none .nil) none (.node (.node (.node (.node (.node .nil none (.node .nil (some a193) .nil)) none .nil) none .nil) none (.node (.node .nil none (.node .nil (some a105) .nil)) none .nil)) none .nil)) none (.node (.node (.node (.node .nil (some a16) .nil) none (.node (.node .nil none (.node .nil (some a104) .nil)) none .nil)) none .nil) none (.node (.node .nil none (.node (.node .nil none (.node .nil (some a106) .nil)) none .nil)) none (.node (.node (.node .nil none (.node .nil (some a102) .nil)) none .nil) none .nil))))
section
open Go.Proofs
theorem b16:Chk 16 a16:=by unfold Chk;kernel_rfl
theorem b102:Chk 102 a102:=by unfold Chk;kernel_rfl
theorem b103:Chk 103 a103:=by unfold Chk;kernel_rfl
theorem b104:Chk 104 a104:=by unfold Chk;kernel_rfl
theorem b105:Chk 105 a105:=by unfold Chk;kernel_rfl
theorem b106:Chk 106 a106:=by unfold Chk;kernel_rfl
theorem b193:Chk 193 a193:=by unfold Chk;kernel_rfl
theorem all:T.Forall Chk tab (fun n=>n):=⟨C.no,⟨C.no,⟨C.no,⟨C.no,trivial,⟨C.no,⟨C.no,trivial,⟨C.yes b103,trivial,trivial⟩⟩,trivial⟩⟩,trivial⟩,⟨C.no,⟨C.no,⟨C.no,⟨C.no,⟨C.no,trivial,⟨C.yes b193,trivial,trivial⟩⟩,trivial⟩,trivial⟩,⟨C.no,⟨C.no,trivial,⟨C.yes b105,trivial,trivial⟩⟩,trivial⟩⟩,trivial⟩⟩,⟨C.no,⟨C.no,⟨C.no,⟨C.yes b16,trivial,trivial⟩,⟨C.no,⟨C.no,trivial,⟨C.yes b104,trivial,trivial⟩⟩,trivial⟩⟩,trivial⟩,⟨C.no,⟨C.no,trivial,⟨C.no,⟨C.no,trivial,⟨C.yes b106,trivial,trivial⟩⟩,trivial⟩⟩,⟨C.no,⟨C.no,⟨C.no,trivial,⟨C.yes b102,trivial,trivial⟩⟩,trivial⟩,trivial⟩⟩⟩⟩
theorem good (n:Nat) (a:AFn) (h:tab.get n=some a):chk Tryz.prog n=some a:=T.get_forall tab (fun n=>n) all n a h
end
end Go.Ae.F
set_option linter.unusedVariables false
set_option linter.unusedSimpArgs false
set_option maxRecDepth 100000
set_option maxHeartbeats 1000000
set_option exponentiation.threshold 5000
namespace Go.Ae
open Bg N Go.Proofs
noncomputable section
section
variable {h h' hp:Hp} {K:AV→Hp→Prop} {tm:T AV} {v va vb s w:AV} {z z':Int} {a b c r:Rat}
theorem unS_txtZ (z:Int):unS (txtZ z)=decP z.natAbs 1:=by
  have:=unS_txt (z:Rat)
  rw[txtR_int]at this
  rw[this];unfold absR
  rw[Rat.den_intCast,Rat.num_intCast,if_pos rfl]
theorem head_txtZ (z:Int):decide ((txtZ z).head?=some 45)=decide (z<0):=by
  have:=txtR_head (z:Rat)
  rw[txtR_int,Rat.num_intCast]at this
  exact decide_eq_decide.2 this
theorem i191z (hz:z.natAbs<10^600):Gp E2 191 [.str (txtZ z)] h fun v h'=>IsV h' v z:=by
  have hl:=decP_ge.2 hz
  have:=i191 (h:=h) (s:=txtZ z) (unS_txtZ z) (decP_all _ _) (by omega)
  rw[head_txtZ,sgn_txt]at this
  exact this
theorem i111 (hr:okR r=true):Gp E2 111 [.str (txtR r)] h fun v h'=>IsF h' v r:=by
  have ok:=hr
  unfold okR at ok
  obtain⟨h1,h2⟩:=of_decide_eq_true ok
  obtain⟨b1,b2⟩:=ok_Br hr
  obtain⟨t1,t2⟩:=txtR_le b1 b2
  have hs:=slash_txt r
  refine Gp.of (CallWp.fn (fn:=C.a111) rfl rfl rfl ?_)
  unfold C.a111
  have cc:=fun{h:Hp} {K:AV→Hp→Prop}=>u147 (h:=h) (K:=K) (s:=txtR r) (by omega)
  rw[hs]at cc
  by_cases d:r.den=1
  · have et:txtR r=txtZ r.num:=if_pos d
    rw[et]at cc⊢
    rw[List.take_length,decide_eq_false (by omega)]at cc
    repeat' (with_reducible first|simp(disch:=first|exact okD|fail) only[go_sem,seval,cc]|(apply Spl.i<;>intro hc))
    refine Gp.wp (i191z h1) fun v1 k1 a1 b1 u1 I1=>?_
    obtain⟨m1,w1,rfl,p1,I1⟩:=I1.ex2
    repeat' (with_reducible first|simp(disch:=first|exact okD|fail) only[go_sem,seval,p1]|(apply Spl.i<;>intro hc))
    refine Gp.wp (i183 I1) fun v2 k2 a2 b2 u2 I2=>?_
    obtain⟨n1,w3,n2,w4,rfl,o1,o2,I3,I4⟩:=I2.ex
    obtain⟨e1,e2⟩:=divInt_one (p:=r.num)
    rw[e1]at I3
    rw[e2]at I4
    repeat' (with_reducible first|simp(disch:=first|exact okD|fail) only[go_sem,seval,o1,o2]|(apply Spl.i<;>intro hc))
    refine⟨⟨_,_,_,_,rfl,?_,?_⟩,?_⟩
    · exact I3.putI (by simp(disch:=first|exact okD|fail) only[go_sem,seval,isCell_row])
    · rw[d];exact I4.putI (by simp(disch:=first|exact okD|fail) only[go_sem,seval,isCell_row])
    · exact okG
  · have et:txtR r=txtZ r.num++47::txtZ r.den:=if_neg d
    have k1:List.take (txtZ r.num).length (txtR r)=txtZ r.num:=by rw[et];exact List.take_left
    have k2:List.drop ((txtZ r.num).length+1) (txtR r)=txtZ r.den:=by rw[et,←List.drop_drop,List.drop_left];rfl
    rw[k1,k2,decide_eq_true (by rw[et];simp)]at cc
    repeat' (with_reducible first|simp(disch:=first|exact okD|fail) only[go_sem,seval,cc]|(apply Spl.i<;>intro hc))
    refine Gp.wp (i191z h1) fun v1 k1 a1 b1 u1 I1=>?_
    obtain⟨m1,w1,rfl,p1,I1⟩:=I1.ex2
    repeat' (with_reducible first|simp(disch:=first|exact okD|fail) only[go_sem,seval,p1]|(apply Spl.i<;>intro hc))
    refine Gp.wp (i191z (z:=(r.den:Int)) (by rw[Int.natAbs_natCast];exact h2)) fun v2 k2 a2 b2 u2 I2=>?_
    obtain⟨m2,w2,rfl,p2,I2⟩:=I2.ex2
    have I1':=I1.ov (g:=u2)
    have fl:=fill22 (n:=m1) (n':=m2) p1 p2
    repeat' (with_reducible first|simp(disch:=first|exact okD|fail) only[go_sem,seval,p1,p2,fl]|(apply Spl.i<;>intro hc))
    refine⟨⟨_,_,_,_,rfl,?_,?_⟩,?_⟩
    · exact I1'.putI (by simp(disch:=first|exact okD|fail) only[go_sem,seval,isCell_row])
    · exact I2.putI (by simp(disch:=first|exact okD|fail) only[go_sem,seval,isCell_row])
    · exact okG
def resT (r:Rat):AV:=if okR r=true then .tup [.str (txtR r),.int .i64 0]else .tup [.str [],.int .i64 4]
theorem resT_yes (h:okR r=true):resT r= .tup [.str (txtR r),.int .i64 0]:=if_pos h
theorem resT_no (h:¬okR r=true):resT r= .tup [.str [],.int .i64 4]:=if_neg h
theorem x175 (ia:IsF h va a) (la:Bd 3999 a) (hl:(txtR a).length≤1000000):Gv EX 175 [va] h (resT a):=by
  obtain⟨n1,w1,n2,w2,e,o1,o2,I1,I2⟩:=id ia.ex
  refine Gv.of (CallWp.fn (fn:=C.a175) rfl rfl rfl ?_)
  unfold C.a175
  subst e
  repeat' (with_reducible first|simp(disch:=first|exact okD|fail) only[go_sem,seval,o1,o2]|(apply Spl.i<;>intro hc))
  refine Gv.wp (x140 (ia.grs okG) la) fun h1 k1 j1 u1=>?_
  by_cases d:okR a=true
  · rw[resT_yes d,d]
    repeat' (with_reducible first|simp(disch:=first|exact okD|fail) only[go_sem,seval,o1,o2,Bool.not_true]|(apply Spl.i<;>intro hc))
    refine Gv.wp (x196 ((ia.grs okG):IsF ((h.push fun t=> .row [.int .i64 n1,w1,.int .i64 n2,w2] true t).ov h1 u1) (.agg [.int .i64 n1,w1,.int .i64 n2,w2]) a) la hl) fun h2 k2 j2 u2=>?_
    repeat' (with_reducible first|simp(disch:=first|exact okD|fail) only[go_sem,seval]|(apply Spl.i<;>intro hc))
    exact okG
  · have d':okR a=false:=by simpa using d
    rw[resT_no d,d']
    repeat' (with_reducible first|simp(disch:=first|exact okD|fail) only[go_sem,seval,o1,o2,Bool.not_false]|(apply Spl.i<;>intro hc))
    exact okG
theorem i136_2 {t:Nat} {s u:List UInt8} (hA:At h t [.str s,.str u]) (ht:t<h.next) (hs:s.length≤1000000) (hu:u.length≤1000000):Gv E2 136 [.sl t 0 2 1] h (.int .i64 (chk2 s u)):=by
  refine Gv.of (CallWp.fn (fn:=C.a136) rfl rfl rfl ?_)
  unfold C.a136 chk2
  obtain⟨st,hg⟩:=hA
  by_cases c1:checkV s=0
  · rw[if_pos c1]
    have e1:=i101 (h:=h) hs
    rw[c1]at e1
    by_cases c2:checkV u=0
    · rw[c2]
      repeat' (with_reducible first|simp(disch:=first|exact okD|fail) only[go_sem,seval,Wp.unroll,hg]|(refine Gv.wp (e1) fun _ _ _ _=>?_)|(apply Spl.i<;>intro hc))
      refine Gv.wp (i101 hu) fun h6 k6 j6 u6=>?_
      repeat' (with_reducible first|simp(disch:=first|exact okD|fail) only[go_sem,seval,Wp.unroll,hg,c2]|(apply Spl.i<;>intro hc))
      exact okG
    · repeat' (with_reducible first|simp(disch:=first|exact okD|fail) only[go_sem,seval,Wp.unroll,hg]|(refine Gv.wp (e1) fun _ _ _ _=>?_)|(apply Spl.i<;>intro hc))
      refine Gv.wp (i101 hu) fun h6 k6 j6 u6=>?_
      repeat' (with_reducible first|simp(disch:=first|exact okD|fail) only[go_sem,seval,Wp.unroll,hg,c2]|(apply Spl.i<;>intro hc))
      exact okG
  · rw[if_neg c1]
    repeat' (with_reducible first|simp(disch:=first|exact okD|fail) only[go_sem,seval,Wp.unroll,hg,c1]|(refine Gv.wp (i101 hs) fun _ _ _ _=>?_)|(apply Spl.i<;>intro hc))
    exact okG
theorem Bd_ok {r:Rat} (h:okR r=true):Bd 110 r:=by
  unfold okR at h
  obtain⟨h1,h2⟩:=of_decide_eq_true h
  have l2:Lim 110 (r.den:Int):=Lim_dec h2 (by decide)
  have l1:Lim 110 ((r.num.natAbs:Nat):Int):=Lim_dec h1 (by decide)
  exact⟨l1.le (by rw[Int.natAbs_natCast];exact Nat.le_refl _),l2⟩
def opT (s u:List UInt8) (c:Rat):AV:=if chk2 s u=0 then resT c else .tup [.str [],.int .i64 (chk2 s u)]
end
def EF:Env:=EX.add F.tab
theorem geF:Ge EX EF:=Ge.add _ _
section
variable {h h' hp:Hp} {K:AV→Hp→Prop} {tm:T AV} {v va vb s w:AV} {z z':Int} {a b c r:Rat}
theorem f0 {f:Nat} {args:List AV} {v:AV} (hc:Gv EX f args h v):Gv EF f args h v:=hc.ge fun _ _ _ hk=>hk.ge geF
theorem f3 {f:Nat} {args:List AV} {v:AV} (hc:Gv E3 f args h v):Gv EF f args h v:=f0 (x3 hc)
theorem f2 {f:Nat} {args:List AV} {v:AV} (hc:Gv E2 f args h v):Gv EF f args h v:=f0 (x2 hc)
theorem fp2 {f:Nat} {args:List AV} {p:AV→Hp→Prop} (hc:Gp E2 f args h p):Gp EF f args h p:=by
  obtain⟨v,h',h1,h2,h3⟩:=xp2 hc
  exact⟨v,h',h1.ge geF,h2,h3⟩
theorem fu3 {f:Nat} {args:List AV} {h':Hp} {v:AV} (hc:∀K,CallWp E3 f args h K↔K v h'):CallWp EF f args h K↔K v h':=up geF fun K=>xu3 hc
theorem fu2 {f:Nat} {args:List AV} {h':Hp} {v:AV} (hc:∀K,CallWp E2 f args h K↔K v h'):CallWp EF f args h K↔K v h':=up geF fun K=>xu2 hc
theorem x193 {s u:List UInt8} {f:Nat} {c:Rat} (hs:s.length≤1000000) (hu:u.length≤1000000) (hc:chk2 s u=0→Bd 3999 c∧(txtR c).length≤1000000)
    (hop:chk2 s u=0→∀{h va vb},IsF h va (valS s)→IsF h vb (valS u)→Gp EF f [va,vb] h fun v h'=>IsF h' v c):Gv EF 193 [.str s,.str u,.fn f []] h (opT s u c):=by
  refine Gv.of (CallWp.fn (fn:=F.a193) rfl rfl rfl ?_)
  unfold F.a193 opT
  by_cases c1:chk2 s u=0
  · rw[if_pos c1]
    obtain⟨z1,z2⟩:=chk2_zero c1
    obtain⟨t1,q1⟩:=txtR_valS z1
    obtain⟨t2,q2⟩:=txtR_valS z2
    obtain⟨c2,c3⟩:=hc c1
    have i1:=fun h=>fp2 (i111 (h:=h) q1)
    have i2:=fun h=>fp2 (i111 (h:=h) q2)
    rw[←t1]at i1
    rw[←t2]at i2
    repeat' (with_reducible first|simp(disch:=first|exact okD|fail) only[go_sem,seval,c1]|(refine Gv.wp (f2 (i136_2 (s:=s) (u:=u) okA okO hs hu)) fun _ _ _ _=>?_)|(apply Spl.i<;>intro hc))
    refine Gp.wp (i1 _) fun v1 k1 a1 b1 u1 I1=>?_
    repeat' (with_reducible first|simp(disch:=first|exact okD|fail) only[go_sem,seval]|(apply Spl.i<;>intro hc))
    refine Gp.wp (i2 _) fun v2 k2 a2 b2 u2 I2=>?_
    repeat' (with_reducible first|simp(disch:=first|exact okD|fail) only[go_sem,seval]|(apply Spl.i<;>intro hc))
    refine Gp.wp (hop c1 (I1.grs ⟨_,_,u2⟩) I2) fun v3 k3 a3 b3 u3 I3=>?_
    repeat' (with_reducible first|simp(disch:=first|exact okD|fail) only[go_sem,seval]|(apply Spl.i<;>intro hc))
    refine Gv.wp (f0 (x175 I3 c2 c3)) fun h4 k4 j4 u4=>?_
    by_cases d:okR c=true
    · rw[resT_yes d]
      repeat' (with_reducible first|simp(disch:=first|exact okD|fail) only[go_sem,seval]|(apply Spl.i<;>intro hc))
      exact okG
    · rw[resT_no d]
      repeat' (with_reducible first|simp(disch:=first|exact okD|fail) only[go_sem,seval]|(apply Spl.i<;>intro hc))
      exact okG
  · rw[if_neg c1]
    repeat' (with_reducible first|simp(disch:=first|exact okD|fail) only[go_sem,seval,c1]|(refine Gv.wp (f2 (i136_2 (s:=s) (u:=u) okA okO hs hu)) fun _ _ _ _=>?_)|(apply Spl.i<;>intro hc))
    exact okG
theorem len_of {n:Nat} {c:Rat} (hb:Bd n c) (hn:n≤400):Bd 3999 c∧(txtR c).length≤1000000:=by
  refine⟨hb.mono (by omega),?_⟩
  have e:(18446744073709551616:Nat)^400≤1000000000^900:=by decide+kernel
  have h1:Lr 900 c.num:=Nat.lt_of_lt_of_le (hb.mono hn).1 e
  have h2:Lr 900 (c.den:Int):=Nat.lt_of_lt_of_le (hb.mono hn).2 e
  have:=(txtR_le h1 h2).1
  omega
theorem x102 {s u:List UInt8} (hs:s.length≤1000000) (hu:u.length≤1000000):Gv EF 102 [.str s,.str u] h (opT s u (valS s+valS u)):=by
  refine Gv.of (CallWp.fn (fn:=F.a102) rfl rfl rfl ?_)
  unfold F.a102
  have cx:=fun h=>x193 (h:=h) (s:=s) (u:=u) (f:=163) (c:=valS s+valS u) hs hu (fun e=>by
    obtain⟨z1,z2⟩:=chk2_zero e
    exact len_of ((Bd_ok (txtR_valS z1).2).add (Bd_ok (txtR_valS z2).2)) (by decide)) (fun e {h va vb} i j=>by
    obtain⟨z1,z2⟩:=chk2_zero e
    exact fp2 (i163 i j ((Bd_ok (txtR_valS z1).2).mono (by decide)) ((Bd_ok (txtR_valS z2).2).mono (by decide))))
  unfold opT at cx⊢
  by_cases c1:chk2 s u=0
  · simp only[if_pos c1]at cx⊢
    by_cases d:okR (valS s+valS u)=true
    · simp only[resT_yes d]at cx⊢
      repeat' (with_reducible first|simp(disch:=first|exact okD|fail) only[go_sem,seval]|(refine Gv.wp (cx _) fun _ _ _ _=>?_)|(apply Spl.i<;>intro hc))
      exact okG
    · simp only[resT_no d]at cx⊢
      repeat' (with_reducible first|simp(disch:=first|exact okD|fail) only[go_sem,seval]|(refine Gv.wp (cx _) fun _ _ _ _=>?_)|(apply Spl.i<;>intro hc))
      exact okG
  · simp only[if_neg c1]at cx⊢
    repeat' (with_reducible first|simp(disch:=first|exact okD|fail) only[go_sem,seval]|(refine Gv.wp (cx _) fun _ _ _ _=>?_)|(apply Spl.i<;>intro hc))
    exact okG
theorem x103 {s u:List UInt8} (hs:s.length≤1000000) (hu:u.length≤1000000):Gv EF 103 [.str s,.str u] h (opT s u (valS s-valS u)):=by
  refine Gv.of (CallWp.fn (fn:=F.a103) rfl rfl rfl ?_)
  unfold F.a103
  have cx:=fun h=>x193 (h:=h) (s:=s) (u:=u) (f:=164) (c:=valS s-valS u) hs hu (fun e=>by
    obtain⟨z1,z2⟩:=chk2_zero e
    exact len_of (n:=110+110+1) (by rw[Rat.sub_eq_add_neg];exact(Bd_ok (txtR_valS z1).2).add (Bd_ok (txtR_valS z2).2).neg) (by decide)) (fun e {h va vb} i j=>by
    obtain⟨z1,z2⟩:=chk2_zero e
    exact fp2 (i164 i j ((Bd_ok (txtR_valS z1).2).mono (by decide)) ((Bd_ok (txtR_valS z2).2).mono (by decide))))
  unfold opT at cx⊢
  by_cases c1:chk2 s u=0
  · simp only[if_pos c1]at cx⊢
    by_cases d:okR (valS s-valS u)=true
    · simp only[resT_yes d]at cx⊢
      repeat' (with_reducible first|simp(disch:=first|exact okD|fail) only[go_sem,seval]|(refine Gv.wp (cx _) fun _ _ _ _=>?_)|(apply Spl.i<;>intro hc))
      exact okG
    · simp only[resT_no d]at cx⊢
      repeat' (with_reducible first|simp(disch:=first|exact okD|fail) only[go_sem,seval]|(refine Gv.wp (cx _) fun _ _ _ _=>?_)|(apply Spl.i<;>intro hc))
      exact okG
  · simp only[if_neg c1]at cx⊢
    repeat' (with_reducible first|simp(disch:=first|exact okD|fail) only[go_sem,seval]|(refine Gv.wp (cx _) fun _ _ _ _=>?_)|(apply Spl.i<;>intro hc))
    exact okG
theorem x104 {s u:List UInt8} (hs:s.length≤1000000) (hu:u.length≤1000000):Gv EF 104 [.str s,.str u] h (opT s u (valS s*valS u)):=by
  refine Gv.of (CallWp.fn (fn:=F.a104) rfl rfl rfl ?_)
  unfold F.a104
  have cx:=fun h=>x193 (h:=h) (s:=s) (u:=u) (f:=115) (c:=valS s*valS u) hs hu (fun e=>by
    obtain⟨z1,z2⟩:=chk2_zero e
    exact len_of ((Bd_ok (txtR_valS z1).2).mul (Bd_ok (txtR_valS z2).2)) (by decide)) (fun e {h va vb} i j=>by
    obtain⟨z1,z2⟩:=chk2_zero e
    exact fp2 (i115 i j ((Bd_ok (txtR_valS z1).2).mono (by decide)) ((Bd_ok (txtR_valS z2).2).mono (by decide))))
  unfold opT at cx⊢
  by_cases c1:chk2 s u=0
  · simp only[if_pos c1]at cx⊢
    by_cases d:okR (valS s*valS u)=true
    · simp only[resT_yes d]at cx⊢
      repeat' (with_reducible first|simp(disch:=first|exact okD|fail) only[go_sem,seval]|(refine Gv.wp (cx _) fun _ _ _ _=>?_)|(apply Spl.i<;>intro hc))
      exact okG
    · simp only[resT_no d]at cx⊢
      repeat' (with_reducible first|simp(disch:=first|exact okD|fail) only[go_sem,seval]|(refine Gv.wp (cx _) fun _ _ _ _=>?_)|(apply Spl.i<;>intro hc))
      exact okG
  · simp only[if_neg c1]at cx⊢
    repeat' (with_reducible first|simp(disch:=first|exact okD|fail) only[go_sem,seval]|(refine Gv.wp (cx _) fun _ _ _ _=>?_)|(apply Spl.i<;>intro hc))
    exact okG
end
end
end Go.Ae
set_option linter.unusedVariables false
set_option linter.unusedSimpArgs false
set_option maxRecDepth 100000
set_option maxHeartbeats 1000000
set_option exponentiation.threshold 5000
namespace Go.Ae
open Bg N Go.Proofs
noncomputable section
section
variable {h h' hp:Hp} {K:AV→Hp→Prop} {tm:T AV} {v va vb s w:AV} {z z':Int} {a b c r:Rat}
theorem valS_48 {u:List UInt8} (hz:checkV u=0):valS u=0↔u=[48]:=by
  obtain⟨t,q⟩:=txtR_valS hz
  constructor
  · intro e;rw[t,e,txtR_zero]
  · intro e
    have:txtR (valS u)=txtR 0:=by rw[←t,txtR_zero,e]
    exact txtR_inj this
theorem d130_2 {t:Nat} {a b:Int} (hA:At h t [.int .i64 a,.int .i64 b]) (ht:t<h.next):Gv E2 130 [.sl t 0 2 1] h (.int .i64 (first2 a b)):=by
  obtain⟨st,hg⟩:=hA
  exact c130_2 hg ht
def divT (s u:List UInt8):AV:=if chk2 s u=0 then(if u=[48]then .tup [.str [],.int .i64 6]else resT (valS s/valS u))else .tup [.str [],.int .i64 (chk2 s u)]
theorem x105 {s u:List UInt8} (hs:s.length≤1000000) (hu:u.length≤1000000):Gv EF 105 [.str s,.str u] h (divT s u):=by
  refine Gv.of (CallWp.fn (fn:=F.a105) rfl rfl rfl ?_)
  unfold F.a105
  have d131:∀{b:Bool} {e:Int} {h:Hp} {K:AV→Hp→Prop},CallWp EF 131 [.bool b,.int .i64 e] h K↔K (.int .i64 (if b=true then e else 0)) h:=fun{b e h K}=>fu2 fun K=>c131b
  have q1:first2 0 6=6:=rfl
  have q2:first2 0 0=0:=rfl
  by_cases c1:chk2 s u=0
  · by_cases c2:u=[48]
    · unfold divT
      rw[if_pos c1,if_pos c2]
      repeat' (with_reducible first|simp(disch:=first|exact okD|fail) only[go_sem,seval,c1,d131,q1,decide_eq_true c2]|(refine Gv.wp (f2 (i136_2 (s:=s) (u:=u) okA okO hs hu)) fun _ _ _ _=>?_)|(refine Gv.wp (f2 (d130_2 (a:=0) (b:=6) okA okO)) fun _ _ _ _=>?_)|(apply Spl.i<;>intro hc))
      exact okG
    · have cx:=fun h=>x193 (h:=h) (s:=s) (u:=u) (f:=166) (c:=valS s/valS u) hs hu (fun e=>by
        obtain⟨z1,z2⟩:=chk2_zero e
        have h0:valS u≠0:=fun h=>c2 ((valS_48 z2).1 h)
        exact len_of (n:=220) (by rw[Rat.div_def];exact(Bd_ok (txtR_valS z1).2).mul ((Bd_ok (txtR_valS z2).2).inv h0)) (by decide)) (fun e {h va vb} i j=>by
        obtain⟨z1,z2⟩:=chk2_zero e
        have h0:valS u≠0:=fun h=>c2 ((valS_48 z2).1 h)
        exact fp2 (i166 i j ((Bd_ok (txtR_valS z1).2).mono (by decide)) ((Bd_ok (txtR_valS z2).2).mono (by decide)) h0))
      unfold opT at cx
      unfold divT
      rw[if_pos c1,if_neg c2]
      simp only[if_pos c1]at cx
      by_cases d:okR (valS s/valS u)=true
      · simp only[resT_yes d]at cx⊢
        repeat' (with_reducible first|simp(disch:=first|exact okD|fail) only[go_sem,seval,c1,d131,q2,decide_eq_false c2]|(refine Gv.wp (f2 (i136_2 (s:=s) (u:=u) okA okO hs hu)) fun _ _ _ _=>?_)|(refine Gv.wp (f2 (d130_2 (a:=0) (b:=0) okA okO)) fun _ _ _ _=>?_)|(refine Gv.wp (cx _) fun _ _ _ _=>?_)|(apply Spl.i<;>intro hc))
        exact okG
      · simp only[resT_no d]at cx⊢
        repeat' (with_reducible first|simp(disch:=first|exact okD|fail) only[go_sem,seval,c1,d131,q2,decide_eq_false c2]|(refine Gv.wp (f2 (i136_2 (s:=s) (u:=u) okA okO hs hu)) fun _ _ _ _=>?_)|(refine Gv.wp (f2 (d130_2 (a:=0) (b:=0) okA okO)) fun _ _ _ _=>?_)|(refine Gv.wp (cx _) fun _ _ _ _=>?_)|(apply Spl.i<;>intro hc))
        exact okG
  · unfold divT
    rw[if_neg c1]
    have q3:∀b,first2 (chk2 s u) b=chk2 s u:=fun b=>if_neg c1
    by_cases c2:u=[48]
    · repeat' (with_reducible first|simp(disch:=first|exact okD|fail) only[go_sem,seval,c1,d131,q3,decide_eq_true c2]|(refine Gv.wp (f2 (i136_2 (s:=s) (u:=u) okA okO hs hu)) fun _ _ _ _=>?_)|(refine Gv.wp (f2 (d130_2 (a:=chk2 s u) (b:=6) okA okO)) fun _ _ _ _=>?_)|(apply Spl.i<;>intro hc))
      exact okG
    · repeat' (with_reducible first|simp(disch:=first|exact okD|fail) only[go_sem,seval,c1,d131,q3,decide_eq_false c2]|(refine Gv.wp (f2 (i136_2 (s:=s) (u:=u) okA okO hs hu)) fun _ _ _ _=>?_)|(refine Gv.wp (f2 (d130_2 (a:=chk2 s u) (b:=0) okA okO)) fun _ _ _ _=>?_)|(apply Spl.i<;>intro hc))
      exact okG
theorem cmpR_sgR (a b:Rat):cmpR a b=sgR (a-b):=by
  have e1:cmpR a b<0↔a<b:=by
    rw[Rat.lt_iff];unfold cmpR cmpI;split<;>first|omega|(split<;>omega)
  have e2:cmpR a b≤0↔a≤b:=by
    rw[Rat.le_iff];unfold cmpR cmpI;split<;>first|omega|(split<;>omega)
  have e3:cmpR a b= -1∨cmpR a b=0∨cmpR a b=1:=by unfold cmpR cmpI;split<;>first|omega|(split<;>omega)
  have e4:sgR (a-b)= -1∨sgR (a-b)=0∨sgR (a-b)=1:=by unfold sgR;split<;>first|omega|(split<;>omega)
  have e5:=sgR_lt (a:=a) (b:=b)
  have e6:=sgR_le (a:=a) (b:=b)
  by_cases l1:a<b
  · have:=e1.2 l1;have:=e5.2 l1;omega
  · have k1:=mt e1.1 l1;have k2:=mt e5.1 l1
    by_cases l2:a≤b
    · have:=e2.2 l2;have:=e6.2 l2;omega
    · have k1:=mt e2.1 l2;have k2:=mt e6.1 l2
      omega
def ordT (s u:List UInt8):AV:=if chk2 s u=0 then .tup [.int .i64 (sgR (valS s-valS u)),.int .i64 0]else .tup [.int .i64 0,.int .i64 (chk2 s u)]
theorem x106 {s u:List UInt8} (hs:s.length≤1000000) (hu:u.length≤1000000):Gv EF 106 [.str s,.str u] h (ordT s u):=by
  refine Gv.of (CallWp.fn (fn:=F.a106) rfl rfl rfl ?_)
  unfold F.a106 ordT
  by_cases c1:chk2 s u=0
  · rw[if_pos c1]
    obtain⟨z1,z2⟩:=chk2_zero c1
    obtain⟨t1,q1⟩:=txtR_valS z1
    obtain⟨t2,q2⟩:=txtR_valS z2
    have i1:=fun h=>fp2 (i111 (h:=h) q1)
    have i2:=fun h=>fp2 (i111 (h:=h) q2)
    rw[←t1]at i1
    rw[←t2]at i2
    repeat' (with_reducible first|simp(disch:=first|exact okD|fail) only[go_sem,seval,c1]|(refine Gv.wp (f2 (i136_2 (s:=s) (u:=u) okA okO hs hu)) fun _ _ _ _=>?_)|(apply Spl.i<;>intro hc))
    refine Gp.wp (i1 _) fun v1 k1 a1 b1 u1 I1=>?_
    repeat' (with_reducible first|simp(disch:=first|exact okD|fail) only[go_sem,seval]|(apply Spl.i<;>intro hc))
    refine Gp.wp (i2 _) fun v2 k2 a2 b2 u2 I2=>?_
    repeat' (with_reducible first|simp(disch:=first|exact okD|fail) only[go_sem,seval]|(apply Spl.i<;>intro hc))
    refine Gv.wp (f2 (i161 (I1.grs ⟨_,_,u2⟩) I2 ((Bd_ok q1).mono (by decide)) ((Bd_ok q2).mono (by decide)))) fun h4 k4 j4 u4=>?_
    rw[cmpR_sgR]
    repeat' (with_reducible first|simp(disch:=first|exact okD|fail) only[go_sem,seval]|(apply Spl.i<;>intro hc))
    exact okG
  · rw[if_neg c1]
    repeat' (with_reducible first|simp(disch:=first|exact okD|fail) only[go_sem,seval,c1]|(refine Gv.wp (f2 (i136_2 (s:=s) (u:=u) okA okO hs hu)) fun _ _ _ _=>?_)|(apply Spl.i<;>intro hc))
    exact okG
theorem d25_2 {t:Nat} {a b:Int} (hA:At h t [.int .i64 a,.int .i64 b]) (ht:t<h.next):Gv E3 25 [.sl t 0 2 1] h (.int .i64 (if a=0 then b else a)):=by
  refine Gv.of (CallWp.fn (fn:=R.a25) rfl rfl rfl ?_)
  unfold R.a25
  obtain⟨st,hg⟩:=hA
  by_cases ha:a=0<;>by_cases hb:b=0
  all_goals(first|rw[if_pos ha]|rw[if_neg ha])
  all_goals repeat' (with_reducible first|simp(disch:=first|exact okD|fail) only[go_sem,seval,Wp.unroll,hg]|(apply Spl.i<;>intro hc))
  all_goals try subst hb
  all_goals first|rfl|exact okG
def numB (have_:List UInt8) (e bad:Int) (want:List UInt8):Bool:=
  let bad':=if bad=0 then(if largeS want then 4 else 0)else bad
  if bad'≠0 then decide (have_=[])&&decide (e=bad')else decide (e=0)&&decide (have_=want)
theorem d81 {x w:List UInt8} {e bad:Int} (hw:w.length≤9223372036854775806):CallWp E3 81 [.str x,.int .i64 e,.int .i64 bad,.str w] h K↔K (.bool (numB x e bad w)) h:=by
  refine CallWp.iff_of (CallWp.fn (fn:=R.a81) rfl rfl rfl ?_)
  unfold R.a81 numB
  by_cases c1:bad=0
  · cases c2:largeS w
    · repeat' (with_reducible first|simp(disch:=first|exact okD|fail) only[go_sem,seval,c1,c2,c176 hw]|(apply Spl.i<;>intro hc))
      all_goals simp_all
    · repeat' (with_reducible first|simp(disch:=first|exact okD|fail) only[go_sem,seval,c1,c2,c176 hw]|(apply Spl.i<;>intro hc))
      all_goals simp_all
  · repeat' (with_reducible first|simp(disch:=first|exact okD|fail) only[go_sem,seval,c1]|(apply Spl.i<;>intro hc))
    all_goals simp_all
theorem d107 {x:List UInt8}:CallWp E3 107 [.str x] h K↔K (.bool (decide (x=[48]))) h:=by
  refine CallWp.iff_of (CallWp.fn (fn:=R.a107) rfl rfl rfl ?_)
  unfold R.a107
  repeat' (with_reducible first|simp(disch:=first|exact okD|fail) only[go_sem,seval]|(apply Spl.i<;>intro hc))
end
end
end Go.Ae
set_option linter.unusedVariables false
set_option linter.unusedSimpArgs false
set_option maxRecDepth 100000
set_option maxHeartbeats 4000000
set_option exponentiation.threshold 5000
namespace Go.Ae
open Bg N Go.Proofs
noncomputable section
def resS (r:Rat):List UInt8:=if okR r=true then txtR r else[]
def resE (r:Rat):Int:=if okR r=true then 0 else 4
theorem resT_eq (r:Rat):resT r= .tup [.str (resS r),.int .i64 (resE r)]:=by
  unfold resT resS resE
  by_cases h:okR r=true
  · rw[if_pos h,if_pos h,if_pos h]
  · rw[if_neg h,if_neg h,if_neg h]
theorem numB_res (r:Rat):numB (resS r) (resE r) 0 (txtR r)=true:=by
  unfold numB resS resE
  rw[largeS_txt]
  cases h:okR r<;>simp
theorem numB_bad {b:Int} {w:List UInt8} (hb:b≠0):numB [] b b w=true:=by
  unfold numB
  simp[hb]
section
variable {h h' hp:Hp} {K:AV→Hp→Prop} {tm:T AV} {v va vb s w:AV} {z z':Int} {a b c r:Rat}
theorem txt_len {n:Nat} {a:Rat} (i:Br n a) (hn:n≤2000):(txtR a).length≤1000000:=by
  have:=(txtR_le (i.mono hn).1 (i.mono hn).2).1
  omega
theorem law16 {s u:List UInt8}:Gv EF 16 [.str s,.str u] h (.bool true):=by
  refine Gv.of (CallWp.fn (fn:=F.a16) rfl rfl rfl ?_)
  have d17:∀{h:Hp} {K:AV→Hp→Prop},CallWp EF 17 [] h K↔K (.bool true) h:=fun{h K}=>fu2 fun K=>c17
  by_cases g1:s.length≤1300
  · by_cases g2:u.length≤1300
    · have g1':¬(1300:Int)<s.length:=by omega
      have g2':¬(1300:Int)<u.length:=by omega
      have hs:s.length≤1000000:=by omega
      have hu:u.length≤1000000:=by omega
      have eB:(if checkV s=0 then checkV u else checkV s)=chk2 s u:=rfl
      by_cases c1:chk2 s u=0
      · obtain⟨z1,z2⟩:=chk2_zero c1
        obtain⟨t1,q1⟩:=txtR_valS z1
        obtain⟨t2,q2⟩:=txtR_valS z2
        have b1:Br 67 (valS s):=ok_Br q1
        have b2:Br 67 (valS u):=ok_Br q2
        have b1':=b1.mono (m:=2000) (by decide)
        have b2':=b2.mono (m:=2000) (by decide)
        have r1:=fun h=>x102 (h:=h) hs hu
        have r2:=fun h=>x103 (h:=h) hs hu
        have r3:=fun h=>x104 (h:=h) hs hu
        have r4:=fun h=>x105 (h:=h) hs hu
        have r5:=fun h=>x106 (h:=h) hs hu
        unfold opT at r1 r2 r3
        unfold divT at r4
        unfold ordT at r5
        simp only[if_pos c1,resT_eq]at r1 r2 r3 r4 r5
        have m1:=fun h=>f3 (d72 (h:=h) b1' b2')
        have m2:=fun h=>f3 (d73 (h:=h) b1' b2')
        have m3:=fun h=>f3 (d74 (h:=h) b1' b2')
        have m5:=fun h=>f3 (d75 (h:=h) b1' b2')
        simp only[←t1,←t2]at m1 m2 m3 m5
        have n1:∀{h:Hp} {K:AV→Hp→Prop},CallWp EF 81 [.str (resS (valS s+valS u)),.int .i64 (resE (valS s+valS u)),.int .i64 0,.str (txtR (valS s+valS u))] h K↔K (.bool true) h:=fun{h K}=>by
          have:=fu3 (h:=h) (K:=K) fun K=>d81 (h:=h) (K:=K) (x:=resS (valS s+valS u)) (e:=resE (valS s+valS u)) (bad:=0) (w:=txtR (valS s+valS u)) (Nat.le_trans (txt_len (b1.add b2) (by decide)) (by decide))
          rw[numB_res]at this;exact this
        have n2:∀{h:Hp} {K:AV→Hp→Prop},CallWp EF 81 [.str (resS (valS s-valS u)),.int .i64 (resE (valS s-valS u)),.int .i64 0,.str (txtR (valS s-valS u))] h K↔K (.bool true) h:=fun{h K}=>by
          have:=fu3 (h:=h) (K:=K) fun K=>d81 (h:=h) (K:=K) (x:=resS (valS s-valS u)) (e:=resE (valS s-valS u)) (bad:=0) (w:=txtR (valS s-valS u)) (Nat.le_trans (txt_len (b1.sub b2) (by decide)) (by decide))
          rw[numB_res]at this;exact this
        have n3:∀{h:Hp} {K:AV→Hp→Prop},CallWp EF 81 [.str (resS (valS s*valS u)),.int .i64 (resE (valS s*valS u)),.int .i64 0,.str (txtR (valS s*valS u))] h K↔K (.bool true) h:=fun{h K}=>by
          have:=fu3 (h:=h) (K:=K) fun K=>d81 (h:=h) (K:=K) (x:=resS (valS s*valS u)) (e:=resE (valS s*valS u)) (bad:=0) (w:=txtR (valS s*valS u)) (Nat.le_trans (txt_len (b1.mul b2) (by decide)) (by decide))
          rw[numB_res]at this;exact this
        have n45:∀{h:Hp} {K:AV→Hp→Prop},CallWp EF 45 [.int .i64 (sgR (valS s-valS u)),.int .i64 0,.int .i64 0,.int .i64 (sgR (valS s-valS u))] h K↔K (.bool true) h:=fun{h K}=>by
          have:=fu2 (h:=h) (K:=K) fun K=>c45 (h:=h) (K:=K) (s:=sgR (valS s-valS u)) (e:=0) (b:=0) (w:=sgR (valS s-valS u))
          rw[if_pos rfl,decide_eq_true ⟨rfl,rfl⟩]at this;exact this
        have d107':∀{h:Hp} {K:AV→Hp→Prop},CallWp EF 107 [.str u] h K↔K (.bool (decide (u=[48]))) h:=fun{h K}=>fu3 fun K=>d107
        unfold F.a16
        by_cases c2:u=[48]
        · simp only[if_pos c2]at r4
          have n4:∀{h:Hp} {K:AV→Hp→Prop},CallWp EF 81 [.str [],.int .i64 6,.int .i64 6,.str []] h K↔K (.bool true) h:=fun{h K}=>fu3 (h:=h) (K:=K) fun K=>d81 (h:=h) (K:=K) (by decide)
          repeat' (with_reducible first|simp(disch:=first|exact okD|fail) only[go_sem,seval,d17,g1',g2',c1,z1,z2,n1,n2,n3,n45,n4,d107',decide_eq_true c2]|(refine Gv.wp (f3 (d19 hs)) fun _ _ _ _=>?_)|(refine Gv.wp (f3 (d19 hu)) fun _ _ _ _=>?_)|(refine Gv.wp (f3 (d25_2 (a:=0) (b:=0) okA okO)) fun _ _ _ _=>?_)|(refine Gv.wp (f2 (i101 hs)) fun _ _ _ _=>?_)|(refine Gv.wp (r1 _) fun _ _ _ _=>?_)|(refine Gv.wp (r2 _) fun _ _ _ _=>?_)|(refine Gv.wp (r3 _) fun _ _ _ _=>?_)|(refine Gv.wp (r4 _) fun _ _ _ _=>?_)|(refine Gv.wp (r5 _) fun _ _ _ _=>?_)|(refine Gv.wp (m1 _) fun _ _ _ _=>?_)|(refine Gv.wp (m2 _) fun _ _ _ _=>?_)|(refine Gv.wp (m3 _) fun _ _ _ _=>?_)|(refine Gv.wp (m5 _) fun _ _ _ _=>?_)|(apply Spl.i<;>intro hc))
          exact okG
        · simp only[if_neg c2]at r4
          have h0:valS u≠0:=fun h=>c2 ((valS_48 z2).1 h)
          have m4:=fun h=>f3 (d76 (h:=h) b1' b2' h0)
          simp only[←t1,←t2]at m4
          have n4:∀{h:Hp} {K:AV→Hp→Prop},CallWp EF 81 [.str (resS (valS s/valS u)),.int .i64 (resE (valS s/valS u)),.int .i64 0,.str (txtR (valS s/valS u))] h K↔K (.bool true) h:=fun{h K}=>by
            have:=fu3 (h:=h) (K:=K) fun K=>d81 (h:=h) (K:=K) (x:=resS (valS s/valS u)) (e:=resE (valS s/valS u)) (bad:=0) (w:=txtR (valS s/valS u)) (Nat.le_trans (txt_len (n:=134) (by rw[Rat.div_def];exact b1.mul (b2.inv h0)) (by decide)) (by decide))
            rw[numB_res]at this;exact this
          repeat' (with_reducible first|simp(disch:=first|exact okD|fail) only[go_sem,seval,d17,g1',g2',c1,z1,z2,n1,n2,n3,n45,n4,d107',decide_eq_false c2]|(refine Gv.wp (f3 (d19 hs)) fun _ _ _ _=>?_)|(refine Gv.wp (f3 (d19 hu)) fun _ _ _ _=>?_)|(refine Gv.wp (f3 (d25_2 (a:=0) (b:=0) okA okO)) fun _ _ _ _=>?_)|(refine Gv.wp (f2 (i101 hs)) fun _ _ _ _=>?_)|(refine Gv.wp (r1 _) fun _ _ _ _=>?_)|(refine Gv.wp (r2 _) fun _ _ _ _=>?_)|(refine Gv.wp (r3 _) fun _ _ _ _=>?_)|(refine Gv.wp (r4 _) fun _ _ _ _=>?_)|(refine Gv.wp (r5 _) fun _ _ _ _=>?_)|(refine Gv.wp (m1 _) fun _ _ _ _=>?_)|(refine Gv.wp (m2 _) fun _ _ _ _=>?_)|(refine Gv.wp (m3 _) fun _ _ _ _=>?_)|(refine Gv.wp (m4 _) fun _ _ _ _=>?_)|(refine Gv.wp (m5 _) fun _ _ _ _=>?_)|(apply Spl.i<;>intro hc))
          exact okG
      · have r1:=fun h=>x102 (h:=h) hs hu
        have r2:=fun h=>x103 (h:=h) hs hu
        have r3:=fun h=>x104 (h:=h) hs hu
        have r4:=fun h=>x105 (h:=h) hs hu
        have r5:=fun h=>x106 (h:=h) hs hu
        unfold opT at r1 r2 r3
        unfold divT at r4
        unfold ordT at r5
        simp only[if_neg c1]at r1 r2 r3 r4 r5
        have e25:=fun{h:Hp} {t:Nat} hA ht=>d25_2 (h:=h) (t:=t) (a:=checkV s) (b:=checkV u) hA ht
        rw[eB]at e25
        have n1:∀{h:Hp} {K:AV→Hp→Prop},CallWp EF 81 [.str [],.int .i64 (chk2 s u),.int .i64 (chk2 s u),.str []] h K↔K (.bool true) h:=fun{h K}=>by
          have:=fu3 (h:=h) (K:=K) fun K=>d81 (h:=h) (K:=K) (x:=[]) (e:=chk2 s u) (bad:=chk2 s u) (w:=[]) (by decide)
          rw[numB_bad c1]at this;exact this
        have n45:∀{h:Hp} {K:AV→Hp→Prop},CallWp EF 45 [.int .i64 0,.int .i64 (chk2 s u),.int .i64 (chk2 s u),.int .i64 0] h K↔K (.bool true) h:=fun{h K}=>by
          have:=fu2 (h:=h) (K:=K) fun K=>c45 (h:=h) (K:=K) (s:=0) (e:=chk2 s u) (b:=chk2 s u) (w:=0)
          rw[if_neg c1,decide_eq_true ⟨rfl,rfl⟩]at this;exact this
        unfold F.a16
        repeat' (with_reducible first|simp(disch:=first|exact okD|fail) only[go_sem,seval,d17,g1',g2',c1,n1,n45]|(refine Gv.wp (f3 (d19 hs)) fun _ _ _ _=>?_)|(refine Gv.wp (f3 (d19 hu)) fun _ _ _ _=>?_)|(refine Gv.wp (f3 (e25 okA okO)) fun _ _ _ _=>?_)|(refine Gv.wp (f2 (i101 hs)) fun _ _ _ _=>?_)|(refine Gv.wp (r1 _) fun _ _ _ _=>?_)|(refine Gv.wp (r2 _) fun _ _ _ _=>?_)|(refine Gv.wp (r3 _) fun _ _ _ _=>?_)|(refine Gv.wp (r4 _) fun _ _ _ _=>?_)|(refine Gv.wp (r5 _) fun _ _ _ _=>?_)|(apply Spl.i<;>intro hc))
        exact okG
    · have g1':¬(1300:Int)<s.length:=by omega
      have g2':(1300:Int)<u.length:=by omega
      unfold F.a16
      repeat' (with_reducible first|simp(disch:=first|exact okD|fail) only[go_sem,seval,d17,g1',g2']|(apply Spl.i<;>intro hc))
  · have g1':(1300:Int)<s.length:=by omega
    unfold F.a16
    repeat' (with_reducible first|simp(disch:=first|exact okD|fail) only[go_sem,seval,d17,g1']|(apply Spl.i<;>intro hc))
end
end
end Go.Ae
