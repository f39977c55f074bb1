/- The reference's Shares: floors and rests; the whole. -/
import Derived.Test.YtdaggbpeoldmeaaGreatDoorM5
set_option linter.unusedVariables false
set_option linter.unusedSimpArgs false
set_option maxRecDepth 100000
set_option maxHeartbeats 4000000
namespace Go.Ae
open So Bg N Go.Proofs
noncomputable section
section
variable {h h0 h' hp:Hp} {K:AV→Hp→Prop} {tm:T AV} {n t f s a b c k m q l i j T S:Nat} {e e' W:Nat→Nat} {v va vb:AV} {w:List Int}
theorem OwnZ.wpzS {z n b u:Nat} {cs xs:List AV} (hu:u=h.next) (G:Grs h0 h) (O:OwnZ z h0 h v n cs) (hx:xs.length=z) (hz:0<z) (hl:(n+1)*b≤140737488355328) (hl2:n+1≤140737488355328)
  (hk:∀v' h',Grs h0 h'→OwnZ z h0 h' v' (n+1) (cs++xs)→(∀t,t<h.next→(∀t' o n',v= .sl t' o n' z→t≠t')→h'.get t=h.get t)→h.next≤h'.next→h.clk≤h'.clk→(∀t' o n',v'= .sl t' o n' z→h.next<t')→v'≠ .nils→K v' h'):Some2 (appA (h.push fun st=> .row xs true st) z b v (.sl u 0 1 z)) K:=by
 subst hu
 have hc:cellsOf (h.push fun st=> .row xs true st) z (.sl h.next 0 1 z)=some xs:=cells_z Hp.push_same hx
 have hn0:=G.next
 obtain⟨hlen,⟨rfl,rfl⟩|⟨t,st,rfl,hg,h1,h2,h3⟩⟩:=O
 ·have hcs:cs=[]:=List.length_eq_zero_iff.1 (by omega)
  subst hcs
  have e:appA (h.push fun st=> .row xs true st) z b .nils (.sl h.next 0 1 z)=some (.sl (h.next+1) 0 1 z,(h.push fun st=> .row xs true st).push fun st=> .row xs true st):=by
   unfold appA
   rw[hc]
   simp only[lenA]
   rw[if_pos ⟨by omega,by omega,by omega⟩]
   rfl
  rw[e]
  refine hk _ _ G.push.push ⟨by simp[hx],.inr ⟨h.next+1,(h.push fun st=> .row xs true st).clk+1,rfl,Hp.push_same,by omega,?_,Nat.le_refl _⟩⟩ (fun t ht _=>?_) ?_ ?_ (fun t' o n' e=>?_) (fun e=>nomatch e)
  ·show h.next+1<h.next+1+1;omega
  ·rw[Hp.push_other (by show t≠h.next+1;omega),Hp.push_other (by omega)]
  ·show h.next≤h.next+1+1;omega
  ·show h.clk≤h.clk+1+1;omega
  ·injection e with e;omega
 ·have hgt:(h.push fun st=> .row xs true st).get t=some (.row cs true st):=(Hp.push_other (by omega)).trans hg
  have e:appA (h.push fun st=> .row xs true st) z b (.sl t 0 n z) (.sl h.next 0 1 z)=some (.sl (h.next+1) 0 (n+1) z,((h.push fun st=> .row xs true st).put t fun s=> .dead s).push fun st=> .row (cs++xs) true st):=by
   unfold appA
   rw[hc]
   simp only[lenA]
   rw[hgt]
   simp only
   rw[if_pos ⟨trivial,by omega,hl,hl2⟩]
   simp only[List.drop_zero,←hlen,List.take_length]
   rfl
  rw[e]
  refine hk _ _ ((G.push.put h1).push) ⟨by simp[hx,hlen,Nat.add_mul],.inr ⟨h.next+1,((h.push fun st=> .row xs true st).put t fun s=> .dead s).clk+1,rfl,Hp.push_same,by omega,?_,Nat.le_refl _⟩⟩ (fun t1 ht1 hne=>?_) ?_ ?_ (fun t' o n' e=>?_) (fun e=>nomatch e)
  ·show h.next+1<h.next+1+1;omega
  ·have:=hne t 0 n rfl
   rw[Hp.push_other (by show t1≠h.next+1;omega),Hp.put_other this,Hp.push_other (by omega)]
  ·show h.next≤h.next+1+1;omega
  ·show h.clk≤h.clk+1+1+1;omega
  ·injection e with e;omega
theorem OwnZ.keep {z m:Nat} {v w:AV} {cs:List AV} (O:OwnZ z h0 h w m cs) (ne:∀t o n t' o' n',w= .sl t o n z→v= .sl t' o' n' z→t≠t')
  (fr:∀t,t<h.next→(∀t' o n',v= .sl t' o n' z→t≠t')→h'.get t=h.get t) (nx:h.next≤h'.next) (ck:h.clk≤h'.clk):OwnZ z h0 h' w m cs:=by
 obtain⟨hl,⟨rfl,rfl⟩|⟨t,st,rfl,hg,h1,h2,h3⟩⟩:=O
 ·exact⟨hl,.inl ⟨rfl,rfl⟩⟩
 ·exact⟨hl,.inr ⟨t,st,rfl,(fr t h2 fun t' o n' e=>ne _ _ _ _ _ _ rfl e).trans hg,h1,Nat.lt_of_lt_of_le h2 nx,Nat.le_trans h3 ck⟩⟩
theorem OwnZ.ltS {z m t o n:Nat} {cs:List AV} (O:OwnZ z h0 h (.sl t o n z) m cs):t<h.next:=by
 obtain⟨hl,⟨e,_⟩|⟨t',st,e,hg,h1,h2,h3⟩⟩:=O
 ·cases e
 ·injection e with e;omega
theorem d28b (hS:RowS 1 h v n (w.map (AV.int .i64))) (hwn:w.length=n) (hn:n≤1000) (hn0:0<n) (hw:∀k,k<n→w.getD k 0=(W k:Int)∧W k≤999999999) (hT:T≤999999999) (hW:smn W n=S) (hS0:0<S) (g:Gd (cmpS (rs T S W)) e 0 n)
  (k0:val tm (.t 0)= .int .i64 T) (k1:val tm (.t 1)=v) (k5:val tm (.t 5)= .int .i64 S) (k7:val tm (.t 7)= .nils) (k8:val tm (.t 8)= .nils) (k9:val tm (.t 9)= .int .i64 T) (G:Grs h hp):
  Wp ED (Hd.a28.code.post 5) ⟨tm,hp⟩ (RetQ [.tmp 4] fun v' h'=>(∃a,v'= .sl a 0 n 1∧Rw h' a n fun k=>bs T S W k+ch e (T-smn (bs T S W) n) k)∧Grs h h'):=by
 subst hwn
 have hbT:∀k,k<w.length→bs T S W k≤T:=fun k hk=>Nat.le_trans (smn_one hk) (bs_le hW hS0)
 have hrS:∀k,k<w.length→rs T S W k≤4000000000000000000:=fun k hk=>by
  have h1:T*W k≤999999999*999999999:=Nat.mul_le_mul hT (hw k hk).2
  have h2:rs T S W k≤T*W k:=Nat.mod_le _ _
  omega
 have tail:=fun tm hp a b k1 k7 k8 k9 G ha hb hab A R=>(d28c (tm:=tm) (hp:=hp) (h:=h) (n:=w.length) (a:=a) (b:=b) (B:=bs T S W) (r:=rs T S W) (l:=T-smn (bs T S W) w.length) hn (Nat.le_of_lt (left_lt hW hS0 hn0)) hn0 hS k1 k7 k8 k9 G ha hb hab A R g (fun k hk=>by have:=hbT k hk;omega) hrS)
 rw[show Hd.a28.code.post 5= .seq _ (Hd.a28.code.post 6) from rfl]
 generalize ACode.post 6 Hd.a28.code=rest at tail⊢
 have ln:=hS.rz.len
 repeat' (with_reducible first|simp(disch:=first|exact okD|fail) only[go_sem,seval]|(apply Spl.i<;>intro hc))
 refine Wp.loopI (fun mm s=>∃(i:Nat) (v7 v8:AV),val s.tm (.t 0)= .int .i64 T∧val s.tm (.t 1)=v∧val s.tm (.t 5)= .int .i64 S∧val s.tm (.t 10)= .int .i64 i∧val s.tm (.t 9)= .int .i64 ((T:Int)-smn (bs T S W) i)∧val s.tm (.t 7)=v7∧val s.tm (.t 8)=v8∧
  Grs h s.hp∧OwnZ 1 h s.hp v7 i ((Wn i (bs T S W)).map (wd .i64))∧OwnZ 1 h s.hp v8 i ((Wn i (rs T S W)).map (wd .i64))∧(∀t o n t' o' n',v8= .sl t o n 1→v7= .sl t' o' n' 1→t≠t')∧i≤w.length∧w.length-i=mm) (n:=w.length) ?_ ?_
 ·refine⟨0,.nils,.nils,by simp(disch:=first|exact okD|fail) only[go_sem,seval,k0],by simp(disch:=first|exact okD|fail) only[go_sem,seval,k1],by simp(disch:=first|exact okD|fail) only[go_sem,seval,k5],by(simp(disch:=first|exact okD|fail) only[go_sem,seval])<;>rfl,?_,by simp(disch:=first|exact okD|fail) only[go_sem,seval,k7],by simp(disch:=first|exact okD|fail) only[go_sem,seval,k8],G,OwnZ.nil,OwnZ.nil,fun _ _ _ _ _ _ e=>(nomatch e),Nat.zero_le _,rfl⟩
  simp(disch:=first|exact okD|fail) only[go_sem,seval,k9]
  exact congrArg (AV.int .i64) (by unfold smn;omega)
 ·clear k0 k1 k5 k7 k8 k9 G
  rintro mm ⟨tm,hp⟩ ⟨i,v7,v8,k0,k1,k5,k10,k9,k7,k8,G,O7,O8,ne,hil,rfl⟩
  simp only at k0 k1 k5 k10 k9 k7 k8 G O7 O8
  by_cases c0:i<w.length
  ·have c':(i:Int)<w.length:=by omega
   have hSg:=hS.grs G
   have adg:=hSg.rz.adr
   have ld:=RowS.ldI hSg c0
   obtain⟨hwi,hwb⟩:=hw i c0
   rw[hwi]at ld
   have W7:Wn (i+1) (bs T S W)=Wn i (bs T S W)++[bs T S W i]:=Wn_succ
   have W8:Wn (i+1) (rs T S W)=Wn i (rs T S W)++[rs T S W i]:=Wn_succ
   have hsm:smn (bs T S W) (i+1)=smn (bs T S W) i+bs T S W i:=rfl
   have hsl:smn (bs T S W) i+bs T S W i≤T:=by rw[←hsm];exact Nat.le_trans (smn_mono c0) (bs_le hW hS0)
   have hSb:S≤999999999000:=by rw[←hW];exact Nat.le_trans (smn_le fun k hk=>(hw k hk).2) (by omega)
   have hp1:T*W i≤999999999*999999999:=Nat.mul_le_mul hT hwb
   have em:(T:Int)*(W i:Int)=((T*W i:Nat):Int):=(Int.natCast_mul _ _).symm
   have eq:((T*W i:Nat):Int)/S=((bs T S W i:Nat):Int):=rfl
   have er:((T*W i:Nat):Int)%S=((rs T S W i:Nat):Int):=rfl
   have hq1:bs T S W i≤T*W i:=Nat.div_le_self _ _
   have wq:IntKind.wrap .i64 (bs T S W i:Int)=bs T S W i:=wrap_i64 (by omega)
   have S0':0<(S:Int):=by omega
   repeat' (with_reducible first|simp(disch:=first|exact okD|fail) only[go_sem,seval,k0,k1,k5,k10,k9,k7,k8,ln,c',adg,ld,em,eq,wq,b_quoP]|(apply Spl.i<;>intro hc))
   refine OwnZ.wpzS (h0:=h) (b:=8) okO G O7 rfl (by decide) (by omega) (by omega) fun v7' h1 G1 O7' fr1 nx1 ck1 fs1 _=>?_
   have O8':=O8.keep (fun t o n t' o' n' e1 e2=>ne t o n t' o' n' e1 e2) fr1 nx1 ck1
   have hSg1:=hS.grs G1
   have adg1:=hSg1.rz.adr
   have ld1:=RowS.ldI hSg1 c0
   rw[hwi]at ld1
   repeat' (with_reducible first|simp(disch:=first|exact okD|fail) only[go_sem,seval,k0,k1,k5,k10,k9,k7,k8,adg1,ld1,em,er,b_remP]|(apply Spl.i<;>intro hc))
   refine OwnZ.wpzS (h0:=h) (b:=8) okO G1 O8' rfl (by decide) (by omega) (by omega) fun v8' h2 G2 O8'' fr2 nx2 ck2 fs2 _=>?_
   have O7'':=O7'.keep (fun t o n t' o' n' e1 e2=>by
    have:=fs1 t o n e1
    subst e2
    have:=OwnZ.ltS O8
    omega) fr2 nx2 ck2
   have ne':∀t o n t' o' n',v8'= .sl t o n 1→v7'= .sl t' o' n' 1→t≠t':=fun t o n t' o' n' e1 e2=>by
    have:=fs2 t o n e1
    subst e2
    have:=OwnZ.ltS O7'
    omega
   have O7s:OwnZ 1 h h2 v7' (i+1) ((Wn (i+1) (bs T S W)).map (wd .i64)):=by rw[W7,List.map_append];exact O7''
   have O8s:OwnZ 1 h h2 v8' (i+1) ((Wn (i+1) (rs T S W)).map (wd .i64)):=by rw[W8,List.map_append];exact O8''
   rcases own_rw O7s rfl with⟨_,e0⟩|⟨a,rfl,A,ha⟩
   ·omega
   have la:=A.ld (i:=i) (by omega)
   repeat' (with_reducible first|simp(disch:=first|exact okD|fail) only[go_sem,seval,k0,k1,k5,k10,k9,k7,k8,la]|(apply Spl.i<;>intro hc))
   refine⟨_,by omega,i+1,.sl a 0 (i+1) 1,v8',rfl,?_,rfl,rfl,G2,O7s,O8s,ne',c0,rfl⟩
   exact congrArg (AV.int .i64) (by rw[hsm];omega)
  ·have c':¬(i:Int)<w.length:=by omega
   obtain rfl:i=w.length:=by omega
   have hle:=bs_le (T:=T) hW hS0
   rcases own_rw O7 rfl with⟨_,e0⟩|⟨a,rfl,A,ha⟩
   ·omega
   rcases own_rw O8 rfl with⟨_,e0⟩|⟨b,rfl,R,hb⟩
   ·omega
   repeat' (with_reducible first|simp(disch:=first|exact okD|fail) only[go_sem,seval,k1,k10,ln,c']|(apply Spl.i<;>intro hc))
   refine(tail _ _ a b (by simp(disch:=first|exact okD|fail) only[go_sem,seval,k1]) (by simp(disch:=first|exact okD|fail) only[go_sem,seval,k7]) (by simp(disch:=first|exact okD|fail) only[go_sem,seval,k8]) ?_ G ha hb (fun e=>ne _ _ _ _ _ _ rfl rfl e.symm) A R).mono fun ex s q=>RetQ.mono' (fun v h3 ⟨⟨q1,q2⟩,q3⟩=>⟨⟨a,q1,q2⟩,q3⟩) q
   simp(disch:=first|exact okD|fail) only[go_sem,seval,k9]
   exact congrArg (AV.int .i64) (by omega)
theorem d28 {T:Int} (hS:RowS 1 h v w.length (w.map (AV.int .i64))) (ht:tErr T=0) (hw:wErr w=0) (g:Gd (cmpS (rs T.toNat (smn (wN w) w.length) (wN w))) e 0 w.length):
  Gp ED 28 [.int .i64 T,v] h fun v' h'=>∃a,v'= .sl a 0 w.length 1∧Rw h' a w.length fun k=>bs T.toNat (smn (wN w) w.length) (wN w) k+ch e (T.toNat-smn (bs T.toNat (smn (wN w) w.length) (wN w)) w.length) k:=by
 refine Gp.of (CallWp.fn (fn:=Hd.a28) rfl rfl rfl ?_)
 obtain⟨n0,n1,n2,_⟩:=wErr_zero hw
 obtain⟨w1,w2⟩:=wN_ok hw
 have cx:¬badW T:=fun c=>by rw[tErr_yes c]at ht;omega
 unfold badW at cx
 obtain⟨M,rfl⟩:∃M:Nat,T=M:=⟨T.toNat,by omega⟩
 rw[Int.toNat_natCast]at g⊢
 have tail:=fun tm hp=>d28b (tm:=tm) (hp:=hp) (h:=h) (T:=M) (W:=wN w) hS rfl (by omega) n0 w1 (by omega) rfl w2 g
 refine Wp.cut 5 rfl ?_
 generalize ACode.post 5 Hd.a28.code=rest at tail⊢
 unfold Hd.a28
 dsimp only[ACode.pre]
 have ln:=hS.rz.len
 repeat' (with_reducible first|simp(disch:=first|exact okD|fail) only[go_sem,seval]|(apply Spl.i<;>intro hc))
 refine Wp.loopI (fun mm s=>∃(i:Nat),val s.tm (.t 0)= .int .i64 M∧val s.tm (.t 1)=v∧val s.tm (.t 6)= .int .i64 i∧val s.tm (.t 5)= .int .i64 (smn (wN w) i)∧
  Grs h s.hp∧i≤w.length∧w.length-i=mm) (n:=w.length) ?_ ?_
 ·exact⟨0,by simp(disch:=first|exact okD|fail) only[go_sem,seval],by simp(disch:=first|exact okD|fail) only[go_sem,seval],by(simp(disch:=first|exact okD|fail) only[go_sem,seval])<;>rfl,by(simp(disch:=first|exact okD|fail) only[go_sem,seval])<;>rfl,Grs.refl _,Nat.zero_le _,rfl⟩
 ·rintro mm ⟨tm,hq⟩ ⟨i,k0,k1,k6,k5,G,hil,rfl⟩
  simp only at k0 k1 k6 k5 G
  have hSg:=hS.grs G
  by_cases c0:i<w.length
  ·have c':(i:Int)<w.length:=by omega
   have adg:=hSg.rz.adr
   have ld:=RowS.ldI hSg c0
   obtain⟨hwi,hwb⟩:=w1 i c0
   rw[hwi]at ld
   have hb:smn (wN w) i≤i*999999999:=smn_le fun k hk=>(w1 k (by omega)).2
   have es:smn (wN w) (i+1)=smn (wN w) i+wN w i:=rfl
   have hsm:smn (wN w) i≤999999999000:=by
    have:=Nat.mul_le_mul_right 999999999 (show i≤1000 by omega)
    omega
   generalize wN w i=x at *
   generalize smn (wN w) i=y at *
   repeat' (with_reducible first|simp(disch:=first|exact okD|fail) only[go_sem,seval,k0,k1,k6,k5,ln,c',adg,ld]|(apply Spl.i<;>intro hc))
   refine⟨_,by omega,i+1,rfl,?_,G,c0,rfl⟩
   exact congrArg (AV.int .i64) (by rw[es];omega)
  ·have c':¬(i:Int)<w.length:=by omega
   obtain rfl:i=w.length:=by omega
   repeat' (with_reducible first|simp(disch:=first|exact okD|fail) only[go_sem,seval,k0,k1,k6,k5,ln,c']|(apply Spl.i<;>intro hc))
   exact tail _ _ (by simp(disch:=first|exact okD|fail) only[go_sem,seval,k0]) (by simp(disch:=first|exact okD|fail) only[go_sem,seval,k1]) (by simp(disch:=first|exact okD|fail) only[go_sem,seval,k5]) (by simp(disch:=first|exact okD|fail) only[go_sem,seval]) (by simp(disch:=first|exact okD|fail) only[go_sem,seval]) (by simp(disch:=first|exact okD|fail) only[go_sem,seval]) G
end
end
end Go.Ae
set_option linter.unusedVariables false
set_option linter.unusedSimpArgs false
set_option maxRecDepth 100000
set_option maxHeartbeats 4000000
namespace Go.Ae
open So Bg N Go.Proofs
noncomputable section
section
variable {h h0 h' hp:Hp} {K:AV→Hp→Prop} {tm:T AV} {p:Nat} {v:AV} {w:List Int} {s n T:Int}
theorem drE_zero (he:drE s n=0):1≤s∧s≤2147483646∧0≤n∧n≤256:=by
 unfold drE at he
 by_cases c:s<1∨2147483646<s∨n<0∨256<n
 ·rw[if_pos c]at he;omega
 ·omega
theorem drE_or:drE s n=0∨drE s n=3:=by unfold drE;by_cases c:s<1∨2147483646<s∨n<0∨256<n<;>simp[c]
theorem d27z {va vb:AV} {la:List Nat} (ha:Sq .i64 h va la) (hb:Sq .i64 h vb la) (hla:la.length≤1000000):Gv ED 27 [va,.int .i64 0,.int .i64 0,vb] h (.bool true):=by
 have:=d27 (x:=0) (y:=0) ha hb hla hla
 simpa using this
theorem d27e {y:Int} (hy:y≠0):Gv ED 27 [.nils,.int .i64 y,.int .i64 y,.nils] h (.bool true):=by
 have:=d27 (x:=y) (y:=y) (h:=h) Sq.nil Sq.nil (Nat.zero_le _) (Nat.zero_le _)
 simpa[hy]using this
theorem d25s {t:Nat} {a b:Int} (hA:At h t [.int .i64 a,.int .i64 b]) (ht:t<h.next):Gv E3 25 [.sl t 0 2 1] h (.int .i64 (if a=0 then b else a)):=by
 refine Gv.of (CallWp.fn (fn:=R.a25) rfl rfl rfl ?_)
 unfold R.a25
 obtain⟨st,hg⟩:=hA
 by_cases ha:a=0<;>by_cases hb:b=0
 all_goals(first|rw[if_pos ha]|rw[if_neg ha])
 all_goals repeat' (with_reducible first|simp(disch:=first|exact okD|fail) only[go_sem,seval,Wp.unroll,hg]|(apply Spl.i<;>intro hc))
 all_goals try subst hb
 all_goals first|rfl|exact okG
theorem d20u {b:Bool} {e:Int}:CallWp E3 20 [.bool b,.int .i64 e] h K↔K (.int .i64 (if b=true then e else 0)) h:=by
 refine CallWp.iff_of (CallWp.fn (fn:=R.a20) rfl rfl rfl ?_)
 unfold R.a20
 cases b
 ·repeat' (with_reducible first|simp(disch:=first|exact okD|fail) only[go_sem,seval]|(apply Spl.i<;>intro hc))
 ·repeat' (with_reducible first|simp(disch:=first|exact okD|fail) only[go_sem,seval]|(apply Spl.i<;>intro hc))
theorem t4 (k5:val tm (.t 5)= .ptr p 0) (hA:AtS hp p [.int .i64 s,.int .i64 n]) (G:Grs h hp):Wp ED (Hd.a4.code.post 5) ⟨tm,hp⟩ (RetQ [.tmp 6] fun v' h'=>v'= .bool true∧Grs h h'):=by
 obtain⟨st,hg,hs,hnx⟩:=hA
 unfold Hd.a4
 dsimp only[ACode.post]
 rcases drE_or (s:=s) (n:=n)with he|he
 ·obtain⟨s1,s2,n1,n2⟩:=drE_zero he
  obtain⟨S,rfl⟩:∃S:Nat,s=S:=⟨s.toNat,by omega⟩
  obtain⟨N,rfl⟩:∃N:Nat,n=N:=⟨n.toNat,by omega⟩
  have f30:=fun h=>r30 (h:=h) (s:=(S:Int)) (n:=(N:Int))
  rw[he]at f30
  repeat' (with_reducible first|simp(disch:=first|exact okD|fail) only[go_sem,seval,k5,hg]|(apply Spl.i<;>intro hc))
  refine(pD2 (c29 (s:=S) (n:=N) (by omega) (by omega) (by omega))).wp fun v h2 k j g ⟨a,e,A⟩=>?_
  subst e
  repeat' (with_reducible first|simp(disch:=first|exact okD|fail) only[go_sem,seval,k5,hg]|(refine Gv.wp (f30 _) fun _ _ _ _=>?_)|(apply Spl.i<;>intro hc))
  refine(d31 (s:=S) (n:=N) (by omega) (by omega) (by omega)).wp fun v h3 k3 j3 g3 B=>?_
  have lw:(Wn N (drD S N (N-1))).length≤1000000:=by rw[Wn_len];omega
  repeat' (with_reducible first|simp(disch:=first|exact okD|fail) only[go_sem,seval,k5]|(refine Gv.wp (d27z ((A.sq).grs okG) B.sq lw) fun _ _ _ _=>?_)|(apply Spl.i<;>intro hc))
  exact G.trans okG
 ·have f30:=fun h=>r30 (h:=h) (s:=s) (n:=n)
  rw[he]at f30
  repeat' (with_reducible first|simp(disch:=first|exact okD|fail) only[go_sem,seval,k5,hg]|(refine Gv.wp (f30 _) fun _ _ _ _=>?_)|(refine Gv.wp (gD2 (c29e he)) fun _ _ _ _=>?_)|(refine Gv.wp (d27e (by decide)) fun _ _ _ _=>?_)|(apply Spl.i<;>intro hc))
  exact G.trans okG
theorem law4 (hS:RowS 1 h v w.length (w.map (AV.int .i64))):Gv ED 4 [.int .i64 T,v,.agg [.int .i64 s,.int .i64 n]] h (.bool true):=by
 refine Gv.of (CallWp.fn (fn:=Hd.a4) rfl rfl rfl ?_)
 have d17:∀{h:Hp} {K:AV→Hp→Prop},CallWp ED 17 [] h K↔K (.bool true) h:=fun{h K}=>up ge2D fun K=>c17
 have ln:=hS.rz.len
 by_cases g1:260<w.length
 ·have g1':(260:Int)<w.length:=by omega
  unfold Hd.a4
  repeat' (with_reducible first|simp(disch:=first|exact okD|fail) only[go_sem,seval,d17,ln,g1']|(apply Spl.i<;>intro hc))
  all_goals exact okG
 have g1':¬(260:Int)<w.length:=by omega
 have tail:=fun tm hp p k5 hA G=>(t4 (tm:=tm) (hp:=hp) (h:=h) (p:=p) (s:=s) (n:=n) k5 hA G)
 refine Wp.cut 5 rfl ?_
 generalize ACode.post 5 Hd.a4.code=rest at tail⊢
 unfold Hd.a4
 dsimp only[ACode.pre]
 have d20t:∀{e:Int} {h:Hp} {K:AV→Hp→Prop},CallWp ED 20 [.bool true,.int .i64 e] h K↔K (.int .i64 e) h:=fun{e h K}=>up geD fun K=>d20u
 have d20f:∀{e:Int} {h:Hp} {K:AV→Hp→Prop},CallWp ED 20 [.bool false,.int .i64 e] h K↔K (.int .i64 0) h:=fun{e h K}=>up geD fun K=>d20u
 have e25:=fun{h:Hp} {t:Nat} {a:Int} hA ht=>(gD3 (d25s (h:=h) (t:=t) (a:=a) (b:=wErr w) hA ht):Gv ED 25 [.sl t 0 2 1] h (.int .i64 (first2 a (wErr w))))
 by_cases cT:badW T
 ·have cx:=cT
  unfold badW at cx
  have q:first2 3 (wErr w)=3:=rfl
  have f24:=fun h' (G:Grs h h')=>gD2 (c24e (T:=T) (hS.grs G) (by omega) (by rw[tErr_yes cT,q];decide))
  rw[tErr_yes cT,q]at f24
  have e25':=fun{h:Hp} {t:Nat} hA ht=>e25 (h:=h) (t:=t) (a:=3) hA ht
  simp only[q]at e25'
  by_cases c1:T<0
  ·repeat' (with_reducible first|simp(disch:=first|exact okD|fail) only[go_sem,seval,d17,ln,g1',c1,d20t]|(refine Gv.wp (f24 _ okG) fun _ _ _ _=>?_)|(refine Gv.wp (gD3 (r26 (hS.grs okG))) fun _ _ _ _=>?_)|(refine Gv.wp (e25' okA okO) fun _ _ _ _=>?_)|(refine Gv.wp (d27e (by decide)) fun _ _ _ _=>?_)|(apply Spl.i<;>intro hc))
   exact tail _ _ h.next (by simp(disch:=first|exact okD|fail) only[go_sem,seval]) ((AtS.push (h:=h)).grs okG) okG
  ·have c2:999999999<T:=by omega
   repeat' (with_reducible first|simp(disch:=first|exact okD|fail) only[go_sem,seval,d17,ln,g1',c1,c2,d20t]|(refine Gv.wp (f24 _ okG) fun _ _ _ _=>?_)|(refine Gv.wp (gD3 (r26 (hS.grs okG))) fun _ _ _ _=>?_)|(refine Gv.wp (e25' okA okO) fun _ _ _ _=>?_)|(refine Gv.wp (d27e (by decide)) fun _ _ _ _=>?_)|(apply Spl.i<;>intro hc))
   exact tail _ _ h.next (by simp(disch:=first|exact okD|fail) only[go_sem,seval]) ((AtS.push (h:=h)).grs okG) okG
 have cx:=cT
 unfold badW at cx
 have c1:¬T<0:=by omega
 have c2:¬999999999<T:=by omega
 have e25':=fun{h:Hp} {t:Nat} hA ht=>e25 (h:=h) (t:=t) (a:=0) hA ht
 have q:first2 0 (wErr w)=wErr w:=rfl
 simp only[q]at e25'
 by_cases cW:wErr w=0
 ·have f26:=fun h' (G:Grs h h')=>gD3 (r26 (hS.grs G))
  simp only[cW]at f26 e25'
  repeat' (with_reducible first|simp(disch:=first|exact okD|fail) only[go_sem,seval,d17,ln,g1']|(apply Spl.i<;>intro hc))
  refine(pD2 (c24 (T:=T) (hS.grs okG) (tErr_no cT) cW)).wp fun x h2 k j g ⟨a,e,ex,A,gd⟩=>?_
  subst ex
  repeat' (with_reducible first|simp(disch:=first|exact okD|fail) only[go_sem,seval,c1,c2,d20f]|(refine Gv.wp (f26 _ okG) fun _ _ _ _=>?_)|(refine Gv.wp (e25' okA okO) fun _ _ _ _=>?_)|(apply Spl.i<;>intro hc))
  refine(d28 (T:=T) (hS.grs okG) (tErr_no cT) cW gd).wp fun x h3 k3 j3 g3 ⟨b,ex,B⟩=>?_
  subst ex
  have lw:(Wn w.length fun k=>bs T.toNat (smn (wN w) w.length) (wN w) k+ch e (T.toNat-smn (bs T.toNat (smn (wN w) w.length) (wN w)) w.length) k).length≤1000000:=by rw[Wn_len];omega
  repeat' (with_reducible first|simp(disch:=first|exact okD|fail) only[go_sem,seval,c1]|(refine Gv.wp (d27z ((A.sq).grs okG) B.sq lw) fun _ _ _ _=>?_)|(apply Spl.i<;>intro hc))
  exact tail _ _ h.next (by simp(disch:=first|exact okD|fail) only[go_sem,seval]) ((AtS.push (h:=h)).grs okG) okG
 ·have f24:=fun h' (G:Grs h h')=>gD2 (c24e (T:=T) (hS.grs G) (by omega) (by rw[tErr_no cT,q];exact cW))
  rw[tErr_no cT,q]at f24
  have f26:=fun h' (G:Grs h h')=>gD3 (r26 (hS.grs G))
  obtain⟨y,hy⟩:∃y,wErr w=y:=⟨_,rfl⟩
  simp only[hy]at f24 f26 e25' cW
  have cW':(y=0)=False:=by simp[cW]
  repeat' (with_reducible first|simp(disch:=first|exact okD|fail) only[go_sem,seval,d17,ln,g1',c1,c2,cW,cW',d20f]|(refine Gv.wp (f24 _ okG) fun _ _ _ _=>?_)|(refine Gv.wp (f26 _ okG) fun _ _ _ _=>?_)|(refine Gv.wp (e25' okA okO) fun _ _ _ _=>?_)|(refine Gv.wp (d27e cW) fun _ _ _ _=>?_)|(apply Spl.i<;>intro hc))
  exact tail _ _ h.next (by simp(disch:=first|exact okD|fail) only[go_sem,seval]) ((AtS.push (h:=h)).grs okG) okG
end
end
end Go.Ae
