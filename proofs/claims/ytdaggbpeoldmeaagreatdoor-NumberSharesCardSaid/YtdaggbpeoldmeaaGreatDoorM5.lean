/-
  What the rows of chapter 1 have in common: a start at which the listed variables read as their initialisers lay them.
-/
import Derived.Test.YtdaggbpeoldmeaaGreatDoorCards
import Derived.Test.YtdaggbpeoldmeaaGreatDoorTie
import Derived.Test.YtdaggbpeoldmeaaGreatDoorZKR3
import Derived.WalkKit
import Derived.ProofKit
import Derived.OpenShut
import Derived.LaidSub
import Derived.MakeChecks
import Derived.ChangeMaps5
import Derived.Deep.DeepHandedRow
import Derived.Deep.DeepWitnessRowRef
import Derived.Deep.DeepLaidRun
import Derived.Lib.LaidTab
import Derived.Test.YtdaggbpeoldmeaaGreatDoorM4
import Derived.WideKeyArgs
import Derived.Deep.Slices
import Derived.Lib.Mul64
import Derived.Test.YtdaggbpeoldmeaaGreatDoorM2
set_option linter.unusedVariables false
set_option maxRecDepth 100000
namespace Go.Proofs.YtdaggbpeoldmeaaGreatDoor.laws
open Go.ChangeShapes Go.WideShapes Go.ChangeAt Go.RowKit Go.Ae
open Go.ChangeMaps (open_string shut_string)
section
variable {H:Type} {enc:TypeId×Value→H} {P:Program}
theorem post_below {f:Func} {s:ChangeSpec} {apart fresh handsOn again:Bool} {W W':World} {args:Array Value} {v:Value} {ds gs:List (DataW H)} {before pa pv:List MemPlace}
  (hW:DataW.Whole enc P f.params.toList s.vars apart W args.toList ds gs before)
  (hres:∀(b:Nat) (sp:Nat→Bool) (hd:Bool),DataW.TrodAll enc P W' b sp hd f.resultTypes.toList (v.resultList f.resultTypes.size) (s.fn H (ds++gs)).results [])
  (hargs:∀sp:Nat→Bool,(∀p∈before,sp p.block=true)→DataW.TrodAll enc P W' 0 sp true f.params.toList args.toList (s.fn H (ds++gs)).args pa)
  (hvars:∀sp:Nat→Bool,(∀p∈before,sp p.block=true)→DataW.TrodVars enc P W' sp s.vars (s.fn H (ds++gs)).vars pv)
  (hps:before=pa++pv) (hB:Below W.heap.size W W')
  (hok:∀(j:Nat) (t:TypeId) (r:Value),f.resultTypes[j]?=some t→(v.resultList f.resultTypes.size)[j]?=some r→Value.okWide P W' .any 0 t r):
  s.post enc P f apart fresh handsOn again W args v W':=by
 have hold:∀p∈before,(fun b=>decide (b<W.heap.size)) p.block=true:=fun p hp=>by simpa using hW.lt p hp
 have hlt:=hW.lt
 refine⟨ds,gs,before,[],pa,pv,hW,hres _ _ _,hargs _ hold,hvars _ hold,World.keptBut_mono (fun p hp=>⟨hp,?_⟩) (hB.frame (· ∈before)),fun _=>?_⟩
 ·rw[hps,List.mem_append]at hp
  exact Or.inr hp
 ·obtain⟨_,_,_,_,_,hz,hn⟩:=hW
  refine⟨hok,_,_,([]++pa)++pv,⟨[]++pa,pv,trodAll_append (hargs _ (fun _ _=>rfl)) (hres _ _ _),hvars _ (fun _ _=>rfl),rfl,?_,?_⟩,?_⟩
  ·intro b off hp
   have hp':MemPlace.cell b off∈before:=by rw[hps];simpa using hp
   have hb:b<W.heap.size:=hlt _ hp'
   have e:W'.frozen? ⟨b,off,none⟩=W.frozen? ⟨b,off,none⟩:=by
    simp only[World.frozen?,hB.block b hb]
   rw[e]
   exact hz b off hp'
  ·intro ha
   have:=hn ha
   rw[hps]at this
   simpa using this
  ·intro p hp _
   rw[hps]
   simpa using hp
end
theorem own:ownKnob Tryz.prog.godebug=none:=by kernel_rfl
theorem gPow:Tryz.prog.globalNamed "internal/strconv.uint64pow10" =some 5:=by kernel_rfl
theorem gPowType:(Tryz.prog.globals[5]?).map (·.type)=some 343:=by kernel_rfl
theorem cells343:Tryz.prog.cellsOf 343=20:=by kernel_rfl
theorem cells278:Tryz.prog.cellsOf 278=1:=by kernel_rfl
theorem glob {W:World} {l:List (String×DataW Unit)} (hL:laidMetH Tryz.prog l W) (hl:(l.filter fun x=>x.1== "internal/strconv.uint64pow10")=[("internal/strconv.uint64pow10",Lib.tabData .u64 Lib.pow10Tab)]) (hO:W.ShapedOpen Tryz.prog):L.Glob W W.heap.size:=by
 have h1:=laidMetH.filter (fun x=>x.1== "internal/strconv.uint64pow10") hL
 rw[hl,MakeChecks.laidMetH_plain _ _ _ (by kernel_rfl)]at h1
 obtain⟨m,hm⟩:=Tryz.laysM145.s1_3 W hO
 have hm':W.cell? ⟨0,0,none⟩=some (.int .i64 m):=hm
 refine⟨Nat.le_refl _,Lib.tabBelow_of_tabIs (Lib.tabIs_of_head gPow gPowType Tryz.underlying343 Tryz.underlying278 cells278 cells343 h1),?_,m,hm'⟩
 rcases Nat.eq_zero_or_pos W.heap.size with h0|h0
 ·simp[World.cell?,Array.getElem?_eq_none (show W.heap.size≤0 by omega)]at hm'
 ·exact h0
def leaf:DataW Unit→List Value
 | .lit (.int k n)=>[.int k n]
 |_=>[]
def row:DataW Unit→List Value
 | .agg l=>l.flatMap leaf
 |d=>leaf d
def tab:DataW Unit→List Value
 | .agg l=>l.flatMap row
 |d=>leaf d
noncomputable def low:Nat:=(World.holding Tryz.prog default ⟨#[], #[],[]⟩).heap.size
def putG (h:Array Obj) (g:Nat) (cs:Array Value):Array Obj:=h.modify g fun
 | .cells _ t frozen=> .cells cs t frozen
 |o=>o
noncomputable def laidWorld (os:Os):World:=
 let w0:=World.holding Tryz.prog os ⟨#[.cells #[.string ⟨#[105,110,118,97,108,105,100,32,115,121,110,116,97,120]⟩] 353,.cells #[.string ⟨#[118,97,108,117,101,32,111,117,116,32,111,102,32,114,97,110,103,101]⟩] 353], #[],[]⟩
 let h1:=putG w0.heap 8 (tab Rows.laid_math_bits_deBruijn32tab).toArray
 let h2:=putG h1 9 (tab Rows.laid_math_bits_deBruijn64tab).toArray
 let h3:=putG h2 5 (tab Rows.laid_internal_strconv_uint64pow10).toArray
 let h4:=putG h3 7 (tab Rows.laid_unicode_utf8_acceptRanges).toArray
 let h5:=putG h4 6 (tab Rows.laid_unicode_utf8_first).toArray
 let h6:=putG h5 3 #[.iface 351 (.pointer (some ⟨low,0,none⟩))]
 let h7:=putG h6 4 #[.iface 351 (.pointer (some ⟨low+1,0,none⟩))]
 { w0 with heap:=h7 }
end Go.Proofs.YtdaggbpeoldmeaaGreatDoor.laws
set_option linter.unusedVariables false
set_option linter.unusedSimpArgs false
namespace Go.Ae
noncomputable section
def AV.tok:AV→Nat
 | .sl t _ _ _=>t
 |_=>0
def OwnZ (z:Nat) (h0 h:Hp) (v:AV) (n:Nat) (cs:List AV):Prop:=
 cs.length=n*z∧((v= .nils∧n=0)∨∃t st,v= .sl t 0 n z∧h.get t=some (.row cs true st)∧h0.next≤t∧t<h.next∧st≤h.clk)
def RowS (z:Nat) (h:Hp) (v:AV) (n:Nat) (cs:List AV):Prop:=
 cs.length=n*z∧((v= .nils∧n=0)∨∃t own st,v= .sl t 0 n z∧h.get t=some (.row cs own st)∧t<h.next∧st≤h.clk)
section
variable {h0 h h':Hp} {v:AV} {z n b u st:Nat} {cs xs:List AV} {own:Bool} {K:AV→Hp→Prop}
theorem OwnZ.nil:OwnZ z h0 h .nils 0 []:=⟨by simp,.inl ⟨rfl,rfl⟩⟩
theorem OwnZ.grs (o:OwnZ z h0 h v n cs) (g:Grs h h'):OwnZ z h0 h' v n cs:=by
 obtain⟨hl,o|⟨t,st,e,hg,h1,h2,h3⟩⟩:=o
 ·exact⟨hl,.inl o⟩
 ·exact⟨hl,.inr ⟨t,st,e,(g.get h2).trans hg,h1,Nat.lt_of_lt_of_le h2 g.next,Nat.le_trans h3 g.clk⟩⟩
theorem RowS.grs (o:RowS z h v n cs) (g:Grs h h'):RowS z h' v n cs:=by
 obtain⟨hl,o|⟨t,own,st,e,hg,h2,h3⟩⟩:=o
 ·exact⟨hl,.inl o⟩
 ·exact⟨hl,.inr ⟨t,own,st,e,(g.get h2).trans hg,Nat.lt_of_lt_of_le h2 g.next,Nat.le_trans h3 g.clk⟩⟩
theorem OwnZ.row (o:OwnZ z h0 h v n cs):RowS z h v n cs:=by
 obtain⟨hl,o|⟨t,st,e,hg,h1,h2,h3⟩⟩:=o
 ·exact⟨hl,.inl o⟩
 ·exact⟨hl,.inr ⟨t,true,st,e,hg,h2,h3⟩⟩
theorem cells_z (hu:h.get u=some (.row xs own st)) (hx:xs.length=z):cellsOf h z (.sl u 0 1 z)=some xs:=by
 simp only[cellsOf,hu]
 rw[if_pos ⟨trivial,by omega⟩,←hx]
 simp
theorem OwnZ.app (G:Grs h0 h) (O:OwnZ z h0 h v n cs) (hx:xs.length=z) (hz:0<z) (hl:(n+1)*b≤140737488355328) (hl2:n+1≤140737488355328):
  ∃v' h',appA (h.push fun st=> .row xs true st) z b v (.sl h.next 0 1 z)=some (v',h')∧Grs h0 h'∧OwnZ z h0 h' v' (n+1) (cs++xs):=by
 have hc:cellsOf (h.push fun st=> .row xs true st) z (.sl h.next 0 1 z)=some xs:=cells_z Hp.push_same hx
 have hn0:=G.next
 obtain⟨hlen,⟨rfl,rfl⟩|⟨t,st,rfl,hg,h1,h2,h3⟩⟩:=O
 ·have hcs:cs=[]:=List.length_eq_zero_iff.1 (by omega)
  subst hcs
  refine⟨.sl (h.next+1) 0 1 z,(h.push fun st=> .row xs true st).push fun st=> .row xs true st,?_,G.push.push,by simp[hx],.inr ⟨h.next+1,(h.push fun st=> .row xs true st).clk+1,rfl,Hp.push_same,by omega,?_,Nat.le_refl _⟩⟩
  ·unfold appA
   rw[hc]
   simp only[lenA]
   rw[if_pos ⟨by omega,by omega,hz⟩]
   rfl
  ·show h.next+1<h.next+1+1;omega
 ·have hgt:(h.push fun st=> .row xs true st).get t=some (.row cs true st):=(Hp.push_other (by omega)).trans hg
  refine⟨.sl (h.next+1) 0 (n+1) z,((h.push fun st=> .row xs true st).put t fun s=> .dead s).push fun st=> .row (cs++xs) true st,?_,(G.push.put h1).push,by simp[hx,hlen,Nat.add_mul],.inr ⟨h.next+1,((h.push fun st=> .row xs true st).put t fun s=> .dead s).clk+1,rfl,Hp.push_same,by omega,?_,Nat.le_refl _⟩⟩
  ·unfold appA
   rw[hc]
   simp only[lenA]
   rw[hgt]
   simp only
   rw[if_pos ⟨trivial,by omega,hl,hl2⟩]
   simp only[List.drop_zero,←hlen,List.take_length]
   rfl
  ·show h.next+1<h.next+1+1;omega
theorem OwnZ.wp (hu:u=h.next) (G:Grs h0 h) (O:OwnZ z h0 h v n cs) (hx:xs.length=z) (hz:0<z) (hl:(n+1)*b≤140737488355328) (hl2:n+1≤140737488355328)
  (hk:∀v' h',Grs h0 h'→OwnZ z h0 h' v' (n+1) (cs++xs)→K v' h'):Some2 (appA (h.push fun st=> .row xs true st) z b v (.sl u 0 1 z)) K:=by
 subst hu
 obtain⟨v',h',e,G',O'⟩:=O.app G hx hz hl hl2
 rw[e];exact hk v' h' G' O'
end
def ACode.post:Nat→ACode→ACode
 |0,c=>c
 |n+1,.seq _ r=>r.post n
 |_+1,c=>c
def ACode.pre:Nat→ACode→ACode
 |0,_=> .skip
 |n+1,.seq a r=> .seq a (r.pre n)
 |_+1,c=>c
def ACode.parts:Nat→ACode→Bool
 |0,_=>true
 |n+1,.seq _ r=>r.parts n
 |_+1,_=>false
theorem Wp.cut {E:Env} {Q:Ex→St→Prop}:∀(n:Nat) {c:ACode} {s:St},c.parts n=true→Wp E (c.pre n) s (After E (c.post n) Q)→Wp E c s Q
 |0,c,s,_,h=>Wp.skip_iff.1 h
 | n +1,c,s,hp,h=>by
  cases c with
  | seq a r=>
   have h:=Wp.seq_iff.1 (show Wp E (.seq a (r.pre n)) s (After E (r.post n) Q) from h)
   refine Wp.seq (h.mono fun e s' hq=>?_)
   cases e with
   |nrm=>exact Wp.cut n hp hq
   |exit i=>exact hq
   |ret=>exact hq
  |_=>cases hp
section
variable {α:Type} {f:α→List AV} {k:Nat}
theorem flat_len (hf:∀x,(f x).length=k):∀l:List α,(l.flatMap f).length=l.length*k
 |[]=>by simp
 |x::l=>by rw[List.flatMap_cons,List.length_append,hf,flat_len hf l,List.length_cons,Nat.add_mul];omega
theorem flat_drop (hf:∀x,(f x).length=k):∀(l:List α) (i:Nat),(l.flatMap f).drop (i*k)=(l.drop i).flatMap f
 |[],i=>by simp
 |x::l,0=>by simp
 | x::l,i+1=>by
  rw[List.flatMap_cons,List.drop_succ_cons,←flat_drop hf l i,show(i+1)*k=(f x).length+i*k by rw[hf,Nat.add_mul];omega,List.drop_append]
  simp
theorem flat_at (hf:∀x,(f x).length=k) {l:List α} {i:Nat} (hi:i<l.length):((l.flatMap f).drop (i*k)).take k=f l[i]:=by
 rw[flat_drop hf,List.drop_eq_getElem_cons hi,List.flatMap_cons,←hf l[i],List.take_append]
 simp
theorem flat_get (hf:∀x,(f x).length=k) {l:List α} {i j:Nat} (hi:i<l.length) (hj:j<k):(l.flatMap f)[i*k+j]?=(f l[i])[j]?:=by
 rw[←flat_at hf hi,List.getElem?_take,if_pos hj,List.getElem?_drop]
end
def MupdF (t:Nat) (x:Option (List (AV×AV))) (h:Hp) (K:AV→Hp→Prop):Prop:=
 match x with
 |some es=>K und (h.put t fun s=> .amap es s)
 |none=>False
def MupdR (k:List UInt8) (t:Nat) (v:AV) (x:Option AObj) (h:Hp) (K:AV→Hp→Prop):Prop:=
 match x with
 |some (.amap es _)=>MupdF t (updA k v es) h K
 |_=>False
def MupdK (m k v:AV) (h:Hp) (K:AV→Hp→Prop):Prop:=
 match m,k with
 | .map t,.str k=>MupdR k t v (h.get t) h K
 |_,_=>False
def LkpF (z:AV) (ok:Bool) (x:Option (Option AV)) (h:Hp) (K:AV→Hp→Prop):Prop:=
 match x with
 |some (some v)=>K (if ok then .tup [v,.bool true]else v) h
 |some none=>K (if ok then .tup [z,.bool false]else z) h
 |none=>False
def LkpR (k:List UInt8) (z:AV) (ok:Bool) (x:Option AObj) (h:Hp) (K:AV→Hp→Prop):Prop:=
 match x with
 |some (.amap es _)=>LkpF z ok (findA k es) h K
 |_=>False
def LkpK (m k:AV) (z:AV) (ok:Bool) (h:Hp) (K:AV→Hp→Prop):Prop:=
 match m,k with
 | .map t,.str k=>LkpR k z ok (h.get t) h K
 |_,_=>False
section
variable {E:Env} {s:St} {h:Hp} {K:AV→Hp→Prop} {t st:Nat} {k:List UInt8} {v z x y w:AV} {ok:Bool} {es:List (AV×AV)}
theorem w_mupd' {a b c:Opd}:OpWp E (.mupd a b c) s K↔MupdK (val s.tm a) (val s.tm b) (val s.tm c) s.hp K:=by
 rw[w_mupd]
 simp only[o_mupd,MupdK]
 cases val s.tm a<;>try exact Iff.rfl
 cases val s.tm b<;>try exact Iff.rfl
 rename_i t k
 simp only[MupdR]
 cases s.hp.get t with
 |none=>exact Iff.rfl
 | some o=>
  cases o with
  | amap es st=>
   simp only[MupdF]
   cases updA k (val s.tm c) es<;>exact Iff.rfl
  |_=>exact Iff.rfl
theorem w_lkp' {a b:Opd}:OpWp E (.lkp a b z ok) s K↔LkpK (val s.tm a) (val s.tm b) z ok s.hp K:=by
 rw[w_lkp]
 simp only[o_lkp,LkpK]
 cases val s.tm a<;>try exact Iff.rfl
 cases val s.tm b<;>try exact Iff.rfl
 rename_i t k
 simp only[LkpR]
 cases s.hp.get t with
 |none=>exact Iff.rfl
 | some o=>
  cases o with
  | amap es st=>
   simp only[LkpF]
   cases findA k es with
   |none=>exact Iff.rfl
   |some r=>cases r<;>exact Iff.rfl
  |_=>exact Iff.rfl
theorem MupdK.r:MupdK (.map t) (.str k) v h K↔MupdR k t v (h.get t) h K:=Iff.rfl
theorem MupdR.row:MupdR k t v (some (.amap es st)) h K↔MupdF t (updA k v es) h K:=Iff.rfl
theorem MupdF.som:MupdF t (some es) h K↔K und (h.put t fun s=> .amap es s):=Iff.rfl
theorem LkpK.r:LkpK (.map t) (.str k) z ok h K↔LkpR k z ok (h.get t) h K:=Iff.rfl
theorem LkpR.row:LkpR k z ok (some (.amap es st)) h K↔LkpF z ok (findA k es) h K:=Iff.rfl
theorem LkpF.tt:LkpF z true (some (some v)) h K↔K (.tup [v,.bool true]) h:=Iff.rfl
theorem LkpF.tf:LkpF z true (some none) h K↔K (.tup [z,.bool false]) h:=Iff.rfl
theorem LkpF.ft:LkpF z false (some (some v)) h K↔K v h:=Iff.rfl
theorem LkpF.ff:LkpF z false (some none) h K↔K z h:=Iff.rfl
theorem one_nilf:AV.nilf.one=true:=rfl
theorem one_nili:AV.nili.one=true:=rfl
theorem one_nilp:AV.nilp.one=true:=rfl
theorem one_map:(AV.map t).one=true:=rfl
theorem cells_map:(AV.map t).cells=[.map t]:=rfl
theorem cells_nilf:AV.nilf.cells=[.nilf]:=rfl
attribute [go_sem] w_app one_nilf one_nili one_nilp one_map cells_map cells_nilf w_mkmap w_mupd' w_lkp' MupdK.r MupdR.row MupdF.som LkpK.r LkpR.row LkpF.tt LkpF.tf LkpF.ft LkpF.ff
end
end
end Go.Ae
set_option linter.unusedVariables false
set_option maxRecDepth 100000
namespace Go.Ae
theorem calls_heap {P:Program} {W:World} {E:Env} {ρ:Rho} {h:Hp} {v:AV} {args:List AV} {f:Nat} (EO:EnvOk P W W.heap.size E) (hc:canEnter P f=true) (hr:Gv E f args h v)
  (R:HRel W.heap.size ρ h W) (hok:oks ρ h.next args) (hv:v.free=true):
  Calls P f (encs ρ args).toArray W fun e w'=>e= .returned (enc ρ v)∧Go.RowKit.Below W.heap.size W w':=by
 obtain⟨h',⟨n,hn⟩,_⟩:=hr
 have D:=call_sound EO hn (Go.RowKit.Below.refl _ _) R hok
 unfold Does at D
 rw[run_enter hc]at D
 refine Calls.mono (show Calls P f (encs ρ args).toArray W _ from D) fun e w' he=>?_
 obtain⟨u,rfl,ρ',X,_,rfl⟩:=he
 exact⟨congrArg _ (enc_free _ _ v hv),X.keep.below R⟩
theorem HRel.arg {W:World} {ρ:Rho} {cs:List AV} (h1:∀v∈cs,v.one=true) (h2:oks ρ 1 cs) (hr:W.rangeAt (ρ 0).b (ρ 0).o (encs ρ cs)) (hb:(ρ 0).b<W.heap.size):
  HRel W.heap.size ρ (Hp.nil.push fun s=> .row cs false s) W:=
 (HRel.nil (Nat.le_refl _)).pushed _ (Agree.refl _ _) (Nat.le_refl _) (fun _ _=>rfl) ⟨⟨h1,h2,hr,nofun,fun _=> .inr hb⟩,nofun⟩
theorem range_cells {α:Type} {W:World} {ρ:Rho} {f:α→List AV} {z b o base:Nat} (hz:0<z) (hf:∀x,(f x).length=z) {l:List α}
  (hx:∀i (hi:i<l.length),W.cells? base ((⟨b,o,none⟩:Addr).add (i*z)) z=some (encs ρ (f l[i]))):W.rangeAt b o (encs ρ (l.flatMap f)):=by
 intro j v hj
 rw[encs_map,List.getElem?_map]at hj
 have hlen:=flat_len hf l
 have hjl:j<l.length*z:=by
  rcases Nat.lt_or_ge j (l.length*z)with c|c
  ·exact c
  ·rw[List.getElem?_eq_none (by rw[hlen];exact c)]at hj;cases hj
 have hi:j/z<l.length:=(Nat.div_lt_iff_lt_mul hz).2 hjl
 have hr:j%z<z:=Nat.mod_lt _ hz
 have e:j=j/z*z+j%z:=by rw[Nat.mul_comm];exact(Nat.div_add_mod j z).symm
 obtain⟨_,hlc,hc⟩:=World.cells?_some (hx (j/z) hi)
 have:=hc (j%z) hr
 rw[Addr.add_mid,Addr.add_mid,Nat.add_assoc,←e]at this
 rw[this,encs_map,List.getElem?_map,←flat_get hf hi hr,←e]
 exact hj
end Go.Ae
namespace Go.Proofs.YtdaggbpeoldmeaaGreatDoor.laws
open Go.ChangeShapes Go.WideShapes Go.ChangeAt Go.RowKit Go.Ae
theorem arg_slice {P:Program} {W:World} {base:Nat} {t e:TypeId} {v:Value} (ht:P.underlying t=some (.slice e)) (hv:Value.okWide P W .any base t v):
  v= .slice none 0 0∨∃b o len cap,v= .slice (some ⟨b,o,none⟩) len cap∧len≤cap∧b<W.heap.size:=by
 unfold Value.okWide at hv
 rw[ht]at hv
 unfold Cell.okWide Cell.ok at hv
 rw[ht]at hv
 cases v<;>simp only at hv<;>try(exact hv.elim)
 rename_i a len cap
 cases a with
 | none=>
  left
  cases len<;>cases cap<;>first|rfl|exact hv.elim
 | some a=>
  obtain⟨b,o,sp⟩:=a
  right
  obtain⟨h1,_,h2⟩:=hv
  obtain⟨_,h3,row,cells,h4,_⟩:=h2
  simp only at h3
  subst h3
  refine⟨b,o,len,cap,rfl,h1,?_⟩
  rcases Nat.lt_or_ge b W.heap.size with c|c
  ·exact c
  ·simp[World.shape?,Array.getElem?_eq_none c]at h4
section
variable {H:Type} {enc:TypeId×Value→H} {P:Program}
theorem trodAll_stays (hl:laidOutB P=true) {W W':World} {sp:Nat→Bool} (hb:Below W.heap.size W W'):∀{ts:List TypeId} {vs:List Value} {ds:List (DataW H)} {ps:List MemPlace},
  (∀t∈ts,P.readableRec t=true∧t<P.types.size)→DataW.TrodAll enc P W 0 (fun _=>true) true ts vs ds ps→(∀x∈ps,x.block<W.heap.size)→(∀x∈ps,sp x.block=true)→DataW.TrodAll enc P W' 0 sp true ts vs ds ps
 |[],[],[],_,_,h,_,_=>h
 | t ::_,_::_,_::_,_,hT,⟨p,q,h1,h2,e⟩,hlt,hs=>
  ⟨p,q,WideElems.Trod_stays hl (hT t (List.mem_cons.2 (Or.inl rfl))).1 (hT t (List.mem_cons.2 (Or.inl rfl))).2 h1 (fun x hx=>hb.same (hlt x (by rw[e];exact List.mem_append_left _ hx))) (fun x hx=>hs x (by rw[e];exact List.mem_append_left _ hx)),
   trodAll_stays hl hb (fun t ht=>hT t (List.mem_cons.2 (Or.inr ht))) h2 (fun x hx=>hlt x (by rw[e];exact List.mem_append_right _ hx)) (fun x hx=>hs x (by rw[e];exact List.mem_append_right _ hx)),e⟩
end
end Go.Proofs.YtdaggbpeoldmeaaGreatDoor.laws
set_option linter.unusedVariables false
set_option linter.unusedSimpArgs false
set_option maxRecDepth 100000
namespace Go.Ae
open N Go.Proofs
section
variable {h:Hp} {K:AV→Hp→Prop}
theorem c17:CallWp E2 17 [] h K↔K (.bool true) h:=by
 rw[CallWp.prim_iff (p:=fun args h=>match pAwake args with|some v=>some (v,h)|none=>none) rfl rfl];exact Iff.rfl
end
end Go.Ae
set_option linter.unusedVariables false
set_option linter.unusedSimpArgs false
set_option maxRecDepth 100000
namespace Go.Ae
open Go.Proofs
section
variable {h:Hp} {K:AV→Hp→Prop}
theorem b_shr {q:EqK} {k k':IntKind} {m n:Int} (hn:0≤n):binA .shr q (.int k m) (.int k' n)=some (.int k (m.fdiv (2^min n.toNat k.bits))):=by
 simp only[binA,intA];rw[if_neg (by omega)]
theorem b_shrL {q:EqK} {k k':IntKind} {m n:Nat} (hn:n≤k.bits):binA .shr q (.int k m) (.int k' n)=some (.int k ((m/2^n:Nat):Int)):=by
 rw[b_shr (by omega),Int.toNat_natCast,Nat.min_eq_left hn]
 congr 2
 rw[show((2:Int)^n)=((2^n:Nat):Int) by rw[Int.natCast_pow];rfl,Int.fdiv_eq_ediv_of_nonneg _ (Int.natCast_nonneg _)]
 exact(Int.natCast_ediv m (2^n)).symm
end
end Go.Ae
set_option linter.unusedVariables false
set_option linter.unusedSimpArgs false
namespace Go.Ae.Bg
def Dg (B:Nat) (l:List Nat):Prop:=∀x∈l,x<B
variable {B:Nat} {l m:List Nat} {x i:Nat}
theorem getD_eq {l:List Nat} (hi:i<l.length):l.getD i 0=l[i]:=by simp[List.getD,hi]
theorem getD_set_ne {l:List Nat} {j:Nat} (h:i≠j):(l.set i x).getD j 0=l.getD j 0:=by simp[List.getD,List.getElem?_set_ne h]
theorem Dg.nil:Dg B []:=by simp[Dg]
theorem Dg.cons (h:x<B) (hl:Dg B l):Dg B (x::l):=by
 intro y hy;rcases List.mem_cons.1 hy with rfl|hy
 ·exact h
 ·exact hl y hy
theorem Dg.head (h:Dg B (x::l)):x<B:=h x (by simp)
theorem Dg.tail (h:Dg B (x::l)):Dg B l:=fun y hy=>h y (List.mem_cons_of_mem _ hy)
theorem Dg.append (h:Dg B l) (k:Dg B m):Dg B (l++m):=fun y hy=>(List.mem_append.1 hy).elim (h y) (k y)
theorem Dg.left (h:Dg B (l++m)):Dg B l:=fun y hy=>h y (List.mem_append_left _ hy)
theorem Dg.right (h:Dg B (l++m)):Dg B m:=fun y hy=>h y (List.mem_append_right _ hy)
theorem Dg.take (h:Dg B l) (n:Nat):Dg B (l.take n):=fun y hy=>h y (List.mem_of_mem_take hy)
theorem Dg.drop (h:Dg B l) (n:Nat):Dg B (l.drop n):=fun y hy=>h y (List.mem_of_mem_drop hy)
theorem Dg.set (h:Dg B l) (n:Nat) (hx:x<B):Dg B (l.set n x):=by
 intro y hy
 rcases List.mem_or_eq_of_mem_set hy with hy|rfl
 ·exact h y hy
 ·exact hx
theorem Dg.getD (hB:0<B) (h:Dg B l) (i:Nat):l.getD i 0<B:=by
 rcases Nat.lt_or_ge i l.length with hi|hi
 ·rw[getD_eq hi];exact h _ (List.getElem_mem hi)
 ·have:l.getD i 0=0:=by simp[List.getD,List.getElem?_eq_none hi]
  omega
end Go.Ae.Bg
set_option linter.unusedVariables false
set_option linter.unusedSimpArgs false
set_option maxRecDepth 100000
namespace Go.Ae
open Bg
noncomputable section
def wd (kd:IntKind) (n:Nat):AV:= .int kd n
def tokOf:AV→Nat
 | .sl t _ _ _=>t
 |_=>0
def offOf:AV→Nat
 | .sl _ o _ _=>o
 |_=>0
def Sq (kd:IntKind) (h:Hp) (v:AV) (l:List Nat):Prop:=
 (v= .nils∧l=[])∨∃(t o:Nat) (own:Bool) (st:Nat) (L:List Nat),v= .sl t o l.length 1∧h.get t=some (.row (L.map (wd kd)) own st)∧o+l.length≤L.length∧(L.drop o).take l.length=l∧t<h.next∧st≤h.clk
structure Rd (kd:IntKind) (h:Hp) (v:AV) (l:List Nat):Prop where
 len:lenK .slice v=some (.int .i64 l.length)
 adr:∀(k:IntKind) (i:Int),0≤i∧i<l.length→iadrK 1 v (.int k i)=some (.ptr (tokOf v) (offOf v+i.toNat))
 tok:l.length≠0→tokOf v<h.next
 load:∀i,i<l.length→∀h' K,LoadR false 1 (offOf v+i) (h.get (tokOf v)) h' K↔K (.int kd (l.getD i 0:Nat)) h'
 old:l.length≠0→∀c0,h.clk≤c0→OldR (h.get (tokOf v)) c0=true
section
variable {kd:IntKind} {h h':Hp} {v:AV} {l L:List Nat} {i x t o n st:Nat} {own:Bool} {K:AV→Hp→Prop}
theorem Sq.grs (s:Sq kd h v l) (g:Grs h h'):Sq kd h' v l:=by
 rcases s with s|⟨t,o,own,st,L,e,hg,h1,h2,h3,h4⟩
 ·exact .inl s
 ·exact .inr ⟨t,o,own,st,L,e,(g.get h3).trans hg,h1,h2,Nat.lt_of_lt_of_le h3 g.next,Nat.le_trans h4 g.clk⟩
theorem Sq.nil:Sq kd h .nils []:= .inl ⟨rfl,rfl⟩
theorem Sq.all (hg:h.get t=some (.row (l.map (wd kd)) own st)) (ht:t<h.next) (hs:st≤h.clk):Sq kd h (.sl t 0 l.length 1) l:=
 .inr ⟨t,0,own,st,l,rfl,hg,by simp,by simp,ht,hs⟩
theorem row_get (hi:i<L.length):(L.map (wd kd))[i]?=some (.int kd (L.getD i 0:Nat)):=by
 rw[List.getElem?_map,List.getElem?_eq_getElem hi,getD_eq hi];rfl
theorem set_row (hi:i<L.length):List.take i (L.map (wd kd))++ .int kd (x:Int)::List.drop (i+1) (L.map (wd kd))=(L.set i x).map (wd kd):=by
 rw[List.map_set,List.set_eq_take_append_cons_drop,if_pos (by simpa using hi)];rfl
theorem win_get (h1:o+l.length≤L.length) (h2:(L.drop o).take l.length=l) (hi:i<l.length):L.getD (o+i) 0=l.getD i 0:=by
 conv=>rhs;rw[←h2]
 simp only[List.getD,List.getElem?_take,if_pos hi,List.getElem?_drop]
theorem Sq.rd (s:Sq kd h v l):Rd kd h v l:=by
 rcases s with⟨rfl,rfl⟩|⟨t,o,own,st,L,rfl,hg,h1,h2,h3,h4⟩
 ·refine⟨rfl,fun k i hi=>?_,fun e=>absurd rfl e,fun i hi=>?_,fun e=>absurd rfl e⟩
  ·simp only[List.length_nil]at hi;omega
  ·simp only[List.length_nil]at hi;omega
 ·refine⟨rfl,fun k i hi=>?_,fun _=>h3,fun i hi h' K=>?_,fun _ c0 hc=>?_⟩
  ·rw[iadrK_sl hi];simp only[tokOf,offOf,Nat.mul_one]
  ·simp only[tokOf,offOf,hg,LoadR.row]
   rw[if_pos (by rw[List.length_map];omega),if_neg (by decide),row_get (by omega),win_get h1 h2 hi]
   exact Iff.rfl
  ·simp only[tokOf,hg];exact OldR.row (Nat.le_trans h4 hc)
theorem Sq.take (s:Sq kd h v l) (n:Nat) (hn:n≤l.length):∀{v'},(v'= .nils∧v= .nils∨v'= .sl (tokOf v) (offOf v) n 1∧v≠ .nils)→Sq kd h v' (l.take n):=by
 intro v' hv
 rcases s with⟨rfl,rfl⟩|⟨t,o,own,st,L,rfl,hg,h1,h2,h3,h4⟩
 ·rcases hv with⟨rfl,_⟩|⟨_,e⟩
  ·simpa using Sq.nil
  ·exact absurd rfl e
 ·rcases hv with⟨_,e⟩|⟨rfl,_⟩
  ·cases e
  ·refine .inr ⟨t,o,own,st,L,?_,hg,?_,?_,h3,h4⟩
   ·simp only[tokOf,offOf,List.length_take,Nat.min_eq_left hn]
   ·rw[List.length_take];omega
   ·rw[List.length_take,Nat.min_eq_left hn]
    conv=>rhs;rw[←h2]
    rw[List.take_take,Nat.min_eq_left hn]
def AtS (h:Hp) (t:Nat) (cs:List AV):Prop:=∃st,h.get t=some (.row cs true st)∧st≤h.clk∧t<h.next
theorem AtS.put {cs:List AV} (ht:t<h.next):AtS (h.put t fun s=> .row cs true s) t cs:=⟨_,Hp.put_same,Nat.le_refl _,ht⟩
theorem AtS.push {cs:List AV}:AtS (h.push fun s=> .row cs true s) h.next cs:=⟨_,Hp.push_same,Nat.le_refl _,Nat.lt_succ_self _⟩
theorem AtS.sq (a:AtS h t (l.map (wd kd))) {n:Nat} (hn:l.length=n):Sq kd h (.sl t 0 n 1) l:=by
 obtain⟨st,hg,hs,ht⟩:=a
 subst hn
 exact Sq.all hg ht hs
theorem AtS.other {cs:List AV} {u:Nat} {f:Nat→AObj} (a:AtS h t cs) (hu:t≠u):AtS (h.put u f) t cs:=by
 obtain⟨st,hg,hs,ht⟩:=a
 exact⟨st,(Hp.put_other hu).trans hg,Nat.le_succ_of_le hs,ht⟩
theorem AtS.grs {cs:List AV} (a:AtS h t cs) (g:Grs h h'):AtS h' t cs:=by
 obtain⟨st,hg,hs,ht⟩:=a
 exact⟨st,(g.get ht).trans hg,Nat.le_trans hs g.clk,Nat.lt_of_lt_of_le ht g.next⟩
def MksK (b:Nat) (z l c:AV) (h:Hp) (K:AV→Hp→Prop):Prop:=
 match l,c with
 | .int .i64 l,.int .i64 c=>0≤l∧l≤c∧c*b≤281474976710656∧c≤281474976710656∧z.one=true∧K (.sl h.next 0 l.toNat 1) (h.push fun s=> .row (rep l.toNat [z]) true s)
 |_,_=>False
theorem rep_one (z:AV):∀n:Nat,rep n [z]=List.replicate n z
 |0=>rfl
 |n+1=>by rw[rep,rep_one z n,List.replicate_succ];rfl
theorem w_mks1 {E:Env} {s:St} {b:Nat} {z:AV} {x y:Opd}:OpWp E (.mks 1 b [z] x y) s K↔MksK b z (val s.tm x) (val s.tm y) s.hp K:=by
 rw[w_mks]
 simp only[o_mks,MksK]
 cases val s.tm x<;>try exact Iff.rfl
 rename_i k l
 cases k<;>try exact Iff.rfl
 cases val s.tm y<;>try exact Iff.rfl
 rename_i k' c
 cases k'<;>try exact Iff.rfl
 simp only
 split
 ·rename_i hc
  obtain⟨a1,a2,a3,a4,a5,a6,a7⟩:=hc
  have a7':z.one=true:=by simpa using a7
  simp only[Some2,a1,a2,a3,a4,a7',true_and]
 ·rename_i hc
  simp only[Some2,false_iff]
  rintro⟨a1,a2,a3,a4,a5,_⟩
  exact hc ⟨a1,a2,a3,a4,rfl,by decide,by simpa using a5⟩
theorem MksK.int {b:Nat} {z:AV} {n:Nat} (hz:z.one=true) (hn:n≤281474976710656∧n*b≤281474976710656):MksK b z (.int .i64 n) (.int .i64 n) h K↔K (.sl h.next 0 n 1) (h.push fun s=> .row (List.replicate n z) true s):=by
 have:((n:Int))*b≤281474976710656:=by have:=hn.2;rw[←Int.natCast_mul];exact Int.ofNat_le.2 this
 have h1:(0:Int)≤n:=by omega
 have h2:(n:Int)≤281474976710656:=by omega
 simp only[MksK,hz,rep_one,Int.toNat_natCast,this,h1,h2,Int.le_refl,true_and]
theorem MksK.int' {b:Nat} {z:AV} {m:Int} (n:Nat) (hm:m=n) (hz:z.one=true) (hn:n≤281474976710656∧n*b≤281474976710656):MksK b z (.int .i64 m) (.int .i64 m) h K↔K (.sl h.next 0 n 1) (h.push fun s=> .row (List.replicate n z) true s):=by
 subst hm;exact MksK.int hz hn
theorem slA_hi {t o n z sz:Nat} {kd:IntKind} {k:Int} (hk:0≤k∧k≤n):slA h sz (.sl t o n z) none (some (.int kd k))=some (.sl t o k.toNat z,h):=by
 have:((0:Nat):Int)≤k∧k≤(n:Int):=by omega
 simp only[slA,bound,if_pos this,if_true]
theorem Some2.som {v:AV}:Some2 (some (v,h)) K↔K v h:=Iff.rfl
attribute [go_sem] w_mks1 w_sl Some2.som
end
section
variable {h:Hp} {K:AV→Hp→Prop}
end
end
end Go.Ae
set_option linter.unusedVariables false
set_option linter.unusedSimpArgs false
namespace Go.Ae.Bg
structure Est (b v1 v0 U u q r:Nat):Prop where
 rest:U=q*v1+r
 ge:(U*b+u)/(v1*b+v0)≤q
variable {b v1 v0 U u q r:Nat}
theorem Est.done (e:Est b v1 v0 U u q r) (hv:0<v1*b+v0) (h:q*v0≤b*r+u):q=(U*b+u)/(v1*b+v0):=by
 refine Nat.le_antisymm ?_ e.ge
 rw[Nat.le_div_iff_mul_le hv]
 have e1:q*(v1*b+v0)=q*v1*b+q*v0:=by rw[Nat.mul_add,Nat.mul_assoc]
 have e2:U*b=q*v1*b+r*b:=by rw[e.rest,Nat.add_mul]
 have e3:b*r=r*b:=Nat.mul_comm _ _
 omega
theorem Est.first (hv1:0<v1) (hb:0<b) (hu:u<b):Est b v1 v0 U u (U/v1) (U%v1):=by
 refine⟨by rw[Nat.mul_comm];exact(Nat.div_add_mod U v1).symm,?_⟩
 have hv:0<v1*b+v0:=by have:=Nat.mul_pos hv1 hb;omega
 have h1:(U*b+u)/(v1*b+v0)≤(U*b+u)/(v1*b):=Nat.div_le_div_left (by omega) (Nat.mul_pos hv1 hb)
 have h2:(U*b+u)/(v1*b)=U/v1:=by
  rw[Nat.mul_comm v1 b,←Nat.div_div_eq_div_mul]
  congr 1
  rw[Nat.mul_comm,Nat.mul_add_div hb,Nat.div_eq_of_lt hu,Nat.add_zero]
 omega
end Go.Ae.Bg
set_option linter.unusedVariables false
set_option linter.unusedSimpArgs false
set_option maxRecDepth 100000
namespace Go.Ae
open Bg
noncomputable section
structure Chg (t:Nat) (h h':Hp):Prop where
 next:h.next≤h'.next
 clk:h.clk≤h'.clk
 get:∀u,u<h.next→u≠t→h'.get u=h.get u
section
variable {h h' h'':Hp} {t u i x:Nat} {kd:IntKind} {v:AV} {l P W S:List Nat} {cs:List AV}
theorem Chg.refl:Chg t h h:=⟨Nat.le_refl _,Nat.le_refl _,fun _ _ _=>rfl⟩
theorem Chg.trans (a:Chg t h h') (b:Chg t h' h''):Chg t h h'':=⟨Nat.le_trans a.next b.next,Nat.le_trans a.clk b.clk,fun u hu hn=>(b.get u (Nat.lt_of_lt_of_le hu a.next) hn).trans (a.get u hu hn)⟩
theorem Chg.put {f:Nat→AObj} (a:Chg t h h'):Chg t h (h'.put t f):=⟨a.next,Nat.le_succ_of_le a.clk,fun u hu hn=>(Hp.put_other hn).trans (a.get u hu hn)⟩
theorem Chg.of (g:Grs h h'):Chg t h h':=⟨g.next,g.clk,fun u hu _=>g.get hu⟩
theorem Chg.grs (a:Chg t h' h'') (g:Grs h h') (ht:h.next≤t):Grs h h'':=by
 have h1:=g.next;have h2:=g.clk;have h3:=a.next;have h4:=a.clk
 exact⟨h''.next-h.next,h''.clk-h.clk,by omega,by omega,fun u hu=>(a.get u (by omega) (by omega)).trans (g.get hu)⟩
theorem Sq.chg (s:Sq kd h v l) (c:Chg t h h') (hn:tokOf v≠t):Sq kd h' v l:=by
 rcases s with s|⟨u,o,own,st,L,rfl,hg,h1,h2,h3,h4⟩
 ·exact .inl s
 ·exact .inr ⟨u,o,own,st,L,rfl,(c.get u h3 hn).trans hg,h1,h2,Nat.lt_of_lt_of_le h3 c.next,Nat.le_trans h4 c.clk⟩
theorem AtS.chg (a:AtS h u cs) (c:Chg t h h') (hn:u≠t):AtS h' u cs:=by
 obtain⟨st,hg,hs,ht⟩:=a
 exact⟨st,(c.get u ht hn).trans hg,Nat.le_trans hs c.clk,Nat.lt_of_lt_of_le ht c.next⟩
theorem AtS.ldw64 (a:AtS h t (W.map (wd .i64))) (hi:i<W.length):∀h' K,LoadR false 1 i (h.get t) h' K↔K (.int .i64 (W.getD i 0:Nat)) h':=by
 obtain⟨st,hg,hs,ht⟩:=a
 intro h' K
 rw[hg,LoadR.row,if_pos (by simp only[List.length_map];omega),if_neg (by decide),row_get hi]
 exact Iff.rfl
theorem AtS.stw64 (a:AtS h t (W.map (wd .i64))) (hi:i<W.length):∀(x:Nat) h' K,StoreR 1 t i (.int .i64 (x:Int)) (h.get t) h' K↔K und (h'.put t fun st=> .row ((W.set i x).map (wd .i64)) true st):=by
 obtain⟨st,hg,hs,ht⟩:=a
 intro x h' K
 rw[hg,StoreR.row]
 have e:splice (W.map (wd .i64)) i (AV.cells (.int .i64 (x:Int)))=(W.set i x).map (wd .i64):=by
  rw[←set_row hi]
  rfl
 rw[e]
 constructor
 ·exact fun hk=>hk.2.2.2
 ·exact fun hk=>⟨rfl,by simp only[List.length_map];omega,rfl,hk⟩
theorem AtS.old (a:AtS h t cs):∀c0,h.clk≤c0→OldR (h.get t) c0=true:=by
 obtain⟨st,hg,hs,ht⟩:=a
 intro c0 hc
 rw[hg];exact OldR.row (Nat.le_trans hs hc)
theorem AtS.lt (a:AtS h t cs):t<h.next:=a.choose_spec.2.2
end
section
variable {h:Hp} {K:AV→Hp→Prop}
end
end
end Go.Ae
set_option linter.unusedVariables false
namespace Go.Ae
namespace So
def sw (d:Nat→Nat) (a b k:Nat) (i:Nat):Nat:=if a≤i∧i<a+k then d (b+(i-a))else if b≤i∧i<b+k then d (a+(i-b))else d i
def rot (d:Nat→Nat) (a m b:Nat) (i:Nat):Nat:=if a≤i∧i<a+(b-m)then d (i+(m-a))else if a+(b-m)≤i∧i<b then d (i-(b-m))else d i
theorem rot_step1 {d:Nat→Nat} {m i j:Nat} (hi:i≤m) (h:j<i) (k:Nat):rot (sw d (m-i) m j) (m-(i-j)) m (m+j) k=rot d (m-i) m (m+j) k:=by
 unfold rot sw
 repeat' split
 all_goals first|omega|(congr 1;omega)
theorem rot_step2 {d:Nat→Nat} {m i j:Nat} (hi:i≤m) (h:i<j) (k:Nat):rot (sw d (m-i) (m+j-i) i) (m-i) m (m+(j-i)) k=rot d (m-i) m (m+j) k:=by
 unfold rot sw
 repeat' split
 all_goals first|omega|(congr 1;omega)
theorem rot_end {d:Nat→Nat} {m i:Nat} (hi:i≤m) (k:Nat):sw d (m-i) m i k=rot d (m-i) m (m+i) k:=by
 unfold rot sw
 repeat' split
 all_goals first|omega|(congr 1;omega)|rfl
structure Pm (d e:Nat→Nat) (a b:Nat):Prop where
 out:∀k,¬(a≤k∧k<b)→e k=d k
 fw:∀k,a≤k→k<b→∃k',a≤k'∧k'<b∧e k=d k'
 bw:∀k,a≤k→k<b→∃k',a≤k'∧k'<b∧d k=e k'
theorem Pm.refl (d:Nat→Nat) (a b:Nat):Pm d d a b:=⟨fun _ _=>rfl,fun k h1 h2=>⟨k,h1,h2,rfl⟩,fun k h1 h2=>⟨k,h1,h2,rfl⟩⟩
theorem Pm.trans {d e f:Nat→Nat} {a b:Nat} (x:Pm d e a b) (y:Pm e f a b):Pm d f a b:=by
 refine⟨fun k hk=>(y.out k hk).trans (x.out k hk),fun k h1 h2=>?_,fun k h1 h2=>?_⟩
 ·obtain⟨k1,p1,p2,p3⟩:=y.fw k h1 h2
  obtain⟨k2,q1,q2,q3⟩:=x.fw k1 p1 p2
  exact⟨k2,q1,q2,p3.trans q3⟩
 ·obtain⟨k1,p1,p2,p3⟩:=x.bw k h1 h2
  obtain⟨k2,q1,q2,q3⟩:=y.bw k1 p1 p2
  exact⟨k2,q1,q2,p3.trans q3⟩
theorem Pm.mono {d e:Nat→Nat} {a b a' b':Nat} (x:Pm d e a b) (h1:a'≤a) (h2:b≤b'):Pm d e a' b':=by
 refine⟨fun k hk=>x.out k (by omega),fun k p1 p2=>?_,fun k p1 p2=>?_⟩
 ·by_cases c:a≤k∧k<b
  ·obtain⟨k',q1,q2,q3⟩:=x.fw k c.1 c.2
   exact⟨k',by omega,by omega,q3⟩
  ·exact⟨k,p1,p2,x.out k c⟩
 ·by_cases c:a≤k∧k<b
  ·obtain⟨k',q1,q2,q3⟩:=x.bw k c.1 c.2
   exact⟨k',by omega,by omega,q3⟩
  ·exact⟨k,p1,p2,(x.out k c).symm⟩
theorem rot_pm {d:Nat→Nat} {a m b:Nat} (h1:a≤m) (h2:m≤b):Pm d (rot d a m b) a b:=by
 refine⟨fun k hk=>?_,fun k p1 p2=>?_,fun k p1 p2=>?_⟩
 ·unfold rot;rw[if_neg (by omega),if_neg (by omega)]
 ·unfold rot
  by_cases c:k<a+(b-m)
  ·rw[if_pos ⟨p1,c⟩];exact⟨_,by omega,by omega,rfl⟩
  ·rw[if_neg (by omega),if_pos ⟨by omega,p2⟩];exact⟨_,by omega,by omega,rfl⟩
 ·by_cases c:k<m
  ·refine⟨k+(b-m),by omega,by omega,?_⟩
   unfold rot
   rw[if_neg (by omega),if_pos ⟨by omega,by omega⟩];congr 1;omega
  ·refine⟨k-(m-a),by omega,by omega,?_⟩
   unfold rot
   rw[if_pos ⟨by omega,by omega⟩];congr 1;omega
def Sd (L:Nat→Nat→Prop) (d:Nat→Nat) (a b:Nat):Prop:=∀i j,a≤i→i<j→j<b→L (d i) (d j)
theorem Sd.sub {L:Nat→Nat→Prop} {d:Nat→Nat} {a b a' b':Nat} (s:Sd L d a b) (h1:a≤a') (h2:b'≤b):Sd L d a' b':=fun i j p q r=>s i j (by omega) q (by omega)
theorem Sd.congr {L:Nat→Nat→Prop} {d e:Nat→Nat} {a b:Nat} (s:Sd L d a b) (h:∀k,a≤k→k<b→e k=d k):Sd L e a b:=fun i j p q r=>by
 rw[h i p (by omega),h j (by omega) r];exact s i j p q r
section
variable {L:Nat→Nat→Prop} {d e f:Nat→Nat} {a m b mid st en:Nat}
theorem split (tr:∀x y z,L x y→L y z→L x z) (ham:a≤st) (h1:st≤m) (h2:m≤en) (h3:en≤b) (hs:st+en=mid+m) (sl:Sd L d a m) (sr:Sd L d m b)
  (c1:st=a∨en=b∨L (d (st-1)) (d en)) (c2:st=m∨en=m∨L (d (en-1)) (d st)):
  Sd L (rot d st m en) a st∧Sd L (rot d st m en) st mid∧Sd L (rot d st m en) mid en∧Sd L (rot d st m en) en b∧∀i j,a≤i→i<mid→mid≤j→j<b→L (rot d st m en i) (rot d st m en j):=by
 have v1:∀i,i<st→rot d st m en i=d i:=fun i h=>by unfold rot;rw[if_neg (by omega),if_neg (by omega)]
 have v2:∀i,st≤i→i<mid→rot d st m en i=d (i+(m-st)):=fun i h h'=>by unfold rot;rw[if_pos ⟨h,by omega⟩]
 have v3:∀i,mid≤i→i<en→rot d st m en i=d (i-(en-m)):=fun i h h'=>by unfold rot;rw[if_neg (by omega),if_pos ⟨by omega,h'⟩]
 have v4:∀i,en≤i→rot d st m en i=d i:=fun i h=>by unfold rot;rw[if_neg (by omega),if_neg (by omega)]
 have le_of:∀{x y},x≤y→y<m→a≤x→(x=y∨L (d x) (d y)):=fun{x y} h h' h''=>by
  rcases Nat.eq_or_lt_of_le h with e|e
  ·exact .inl e
  ·exact .inr (sl x y h'' e h')
 have le_of':∀{x y},x≤y→y<b→m≤x→(x=y∨L (d x) (d y)):=fun{x y} h h' h''=>by
  rcases Nat.eq_or_lt_of_le h with e|e
  ·exact .inl e
  ·exact .inr (sr x y h'' e h')
 refine⟨?_,?_,?_,?_,?_⟩
 ·exact(sl.sub (Nat.le_refl _) h1).congr fun k p q=>v1 k q
 ·intro i j p q r
  rw[v2 i p (by omega),v2 j (by omega) r]
  exact sr _ _ (by omega) (by omega) (by omega)
 ·intro i j p q r
  rw[v3 i p (by omega),v3 j (by omega) r]
  exact sl _ _ (by omega) (by omega) (by omega)
 ·exact(sr.sub h2 (Nat.le_refl _)).congr fun k p q=>v4 k p
 ·intro i j p1 p2 p3 p4
  by_cases ci:i<st<;>by_cases cj:j<en
  ·rw[v1 i ci,v3 j p3 cj];exact sl _ _ p1 (by omega) (by omega)
  ·rw[v1 i ci,v4 j (by omega)]
   have h:=c1.resolve_left (by omega)|>.resolve_left (by omega)
   rcases le_of (x:=i) (y:=st-1) (by omega) (by omega) p1 with e|e
   ·rw[e]
    rcases le_of' (x:=en) (y:=j) (by omega) p4 h2 with e'|e'
    ·rw[←e'];exact h
    ·exact tr _ _ _ h e'
   ·rcases le_of' (x:=en) (y:=j) (by omega) p4 h2 with e'|e'
    ·rw[←e'];exact tr _ _ _ e h
    ·exact tr _ _ _ e (tr _ _ _ h e')
  ·rw[v2 i (by omega) p2,v3 j p3 cj]
   have h:=c2.resolve_left (by omega)|>.resolve_left (by omega)
   rcases le_of' (x:=i+(m-st)) (y:=en-1) (by omega) (by omega) (by omega)with e|e
   ·rw[e]
    rcases le_of (x:=st) (y:=j-(en-m)) (by omega) (by omega) ham with e'|e'
    ·rw[←e'];exact h
    ·exact tr _ _ _ h e'
   ·rcases le_of (x:=st) (y:=j-(en-m)) (by omega) (by omega) ham with e'|e'
    ·rw[←e'];exact tr _ _ _ e h
    ·exact tr _ _ _ e (tr _ _ _ h e')
  ·rw[v2 i (by omega) p2,v4 j (by omega)];exact sr _ _ (by omega) (by omega) p4
theorem join (s1:Sd L f a mid) (s2:Sd L f mid b) (p1:Pm e f a b) (q1:∀k,a≤k→k<mid→∃k',a≤k'∧k'<mid∧f k=e k') (q2:∀k,mid≤k→k<b→∃k',mid≤k'∧k'<b∧f k=e k')
  (h:∀i j,a≤i→i<mid→mid≤j→j<b→L (e i) (e j)):Sd L f a b:=fun i j p q r=>by
 by_cases ci:j<mid
 ·exact s1 i j p q ci
 ·by_cases cj:mid≤i
  ·exact s2 i j cj q r
  ·obtain⟨k1,a1,a2,a3⟩:=q1 i p (by omega)
   obtain⟨k2,b1,b2,b3⟩:=q2 j (by omega) r
   rw[a3,b3];exact h k1 k2 a1 a2 b1 b2
end
end So
end Go.Ae
set_option linter.unusedVariables false
set_option linter.unusedSimpArgs false
set_option maxRecDepth 100000
set_option maxHeartbeats 2000000
namespace Go.Ae
open So Bg
noncomputable section
def Wn (n:Nat) (d:Nat→Nat):List Nat:=(List.range n).map d
theorem Wn_len {n:Nat} {d:Nat→Nat}:(Wn n d).length=n:=by unfold Wn;simp
theorem Wn_get {n i:Nat} {d:Nat→Nat} (hi:i<n):(Wn n d).getD i 0=d i:=by
 unfold Wn;rw[List.getD_eq_getElem?_getD,List.getElem?_map,List.getElem?_range hi];rfl
theorem Wn_congr {n:Nat} {d e:Nat→Nat} (h:∀k,k<n→e k=d k):Wn n e=Wn n d:=by
 unfold Wn
 exact List.map_congr_left fun k hk=>h k (List.mem_range.1 hk)
def updF (d:Nat→Nat) (i x:Nat) (k:Nat):Nat:=if k=i then x else d k
theorem Wn_opt {n k:Nat} {d:Nat→Nat}:(Wn n d)[k]?=if k<n then some (d k)else none:=by
 unfold Wn
 rw[List.getElem?_map]
 by_cases c:k<n
 ·rw[List.getElem?_range c,if_pos c];rfl
 ·rw[List.getElem?_eq_none (by simp;omega),if_neg c];rfl
theorem Wn_set {n i x:Nat} {d:Nat→Nat} (hi:i<n):(Wn n d).set i x=Wn n (updF d i x):=by
 apply List.ext_getElem?
 intro k
 rw[List.getElem?_set,Wn_opt,Wn_opt,Wn_len]
 unfold updF
 by_cases c:i=k
 ·subst c;simp[hi]
 ·have c':¬k=i:=fun e=>c e.symm
  rw[if_neg c,if_neg c']
def Rw (h:Hp) (t n:Nat) (d:Nat→Nat):Prop:=AtS h t ((Wn n d).map (wd .i64))
section
variable {h h' hp:Hp} {K:AV→Hp→Prop} {tm:T AV} {t n i x:Nat} {d e:Nat→Nat} {w:AV}
theorem Rw.congr (A:Rw h t n d) (hk:∀k,k<n→e k=d k):Rw h t n e:=by unfold Rw;rw[Wn_congr hk];exact A
theorem Rw.ld (A:Rw h t n d) (hi:i<n):∀h' K,LoadR false 1 i (h.get t) h' K↔K (.int .i64 (d i:Nat)) h':=by
 have:=AtS.ldw64 A (i:=i) (by rw[Wn_len];exact hi)
 rwa[Wn_get hi]at this
theorem Rw.st (A:Rw h t n d) (hi:i<n) (x:Nat):∃h1,(∀K,StoreR 1 t i (.int .i64 (x:Nat)) (h.get t) h K↔K und h1)∧Chg t h h1∧Rw h1 t n (updF d i x)∧h1.next=h.next:=by
 refine⟨_,fun K=>AtS.stw64 A (i:=i) (by rw[Wn_len];exact hi) x h K,Chg.refl.put,?_,rfl⟩
 have:=AtS.lt A
 unfold Rw
 rw[Wn_set hi]
 exact AtS.put this
theorem Rw.old (A:Rw h t n d):∀c0,h.clk≤c0→OldR (h.get t) c0=true:=AtS.old A
theorem c326 {a b k:Nat} (A:Rw h t n d) (ha:a+k≤n) (hb:b+k≤n) (hd:a+k≤b∨b+k≤a) (hn:n≤1000000):
  CallWp E2 326 [.sl t 0 n 1,.int .i64 a,.int .i64 b,.int .i64 k,w] h fun _ h'=>Chg t h h'∧Rw h' t n (sw d a b k):=by
 refine CallWp.fn (fn:=C.a326) rfl rfl rfl ?_
 unfold C.a326
 repeat' (with_reducible first|simp(disch:=first|exact okD|fail) only[go_sem,seval]|(apply Spl.i<;>intro hc))
 refine Wp.loopI (fun m s=>∃(i:Nat),val s.tm (.t 0)= .sl t 0 n 1∧val s.tm (.t 1)= .int .i64 a∧val s.tm (.t 2)= .int .i64 b∧val s.tm (.t 3)= .int .i64 k∧val s.tm (.t 10)= .int .i64 i∧
  Chg t h s.hp∧Rw s.hp t n (sw d a b i)∧i≤k∧k-i=m) (n:=k) ?_ ?_
 ·exact⟨0,by simp(disch:=first|exact okD|fail) only[go_sem,seval],by simp(disch:=first|exact okD|fail) only[go_sem,seval],by simp(disch:=first|exact okD|fail) only[go_sem,seval],by simp(disch:=first|exact okD|fail) only[go_sem,seval],by(simp(disch:=first|exact okD|fail) only[go_sem,seval])<;>rfl,Chg.refl,A.congr fun j _=>by unfold sw;rw[if_neg (by omega),if_neg (by omega)],Nat.zero_le _,rfl⟩
 ·rintro m ⟨tm,hp⟩ ⟨i,k0,k1,k2,k3,k10,C,A,hle,rfl⟩
  simp only at k0 k1 k2 k3 k10 C A
  by_cases hlt:i<k
  ·have hlt':(i:Int)<k:=by omega
   have ea:((a:Int)+i).toNat=a+i:=by omega
   have eb:((b:Int)+i).toNat=b+i:=by omega
   have l1:=A.ld (i:=b+i) (by omega)
   have l2:=A.ld (i:=a+i) (by omega)
   have od:=A.old
   have lt:=AtS.lt A
   obtain⟨h1,s1,C1,A1,n1⟩:=A.st (i:=a+i) (by omega) (sw d a b i (b+i))
   obtain⟨h2,s2,C2,A2,n2⟩:=A1.st (i:=b+i) (by omega) (sw d a b i (a+i))
   have ga:(0:Int)≤(a:Int)+i∧(a:Int)+i<n:=by omega
   have gb:(0:Int)≤(b:Int)+i∧(b:Int)+i<n:=by omega
   have key:∀j,j<n→sw d a b (i+1) j=updF (updF (sw d a b i) (a+i) (sw d a b i (b+i))) (b+i) (sw d a b i (a+i)) j:=fun j _=>by
    unfold updF sw
    repeat' split
    all_goals first|omega|(congr 1;omega)
   have A3:=A2.congr key
   clear key A2
   generalize sw d a b i (b+i)=vb at *
   generalize sw d a b i (a+i)=va at *
   repeat' (with_reducible first|simp(disch:=first|exact okD|fail) only[go_sem,seval,k0,k1,k2,k3,k10,hlt',ea,eb,l1,l2,od,s1,s2]|(apply Spl.i<;>intro hc))
   exact⟨_,by omega,i+1,rfl,C.trans (C1.trans C2),A3,hlt,rfl⟩
  ·have hlt':¬(i:Int)<k:=by omega
   obtain rfl:i=k:=by omega
   repeat' (with_reducible first|simp(disch:=first|exact okD|fail) only[go_sem,seval,k0,k1,k2,k3,k10,hlt']|(apply Spl.i<;>intro hc))
   exact⟨C,A⟩
theorem c304 {a m b:Nat} (A:Rw h t n d) (ha:a<m) (hm:m<b) (hb:b≤n) (hn:n≤1000000):
  CallWp E2 304 [.sl t 0 n 1,.int .i64 a,.int .i64 m,.int .i64 b,w] h fun _ h'=>Chg t h h'∧Rw h' t n (rot d a m b):=by
 refine CallWp.fn (fn:=C.a304) rfl rfl rfl ?_
 unfold C.a304
 have e1:(m:Int)-a=((m-a:Nat):Int):=by omega
 have e2:(b:Int)-m=((b-m:Nat):Int):=by omega
 repeat' (with_reducible first|simp(disch:=first|exact okD|fail) only[go_sem,seval,e1,e2]|(apply Spl.i<;>intro hc))
 refine Wp.loopI (fun k s=>∃(i j:Nat) (c:Nat→Nat),val s.tm (.t 0)= .sl t 0 n 1∧val s.tm (.t 2)= .int .i64 m∧val s.tm (.t 4)=w∧val s.tm (.t 10)= .int .i64 i∧val s.tm (.t 11)= .int .i64 j∧
  Chg t h s.hp∧Rw s.hp t n c∧0<i∧0<j∧i≤m∧m+j≤n∧(∀k,rot c (m-i) m (m+j) k=rot d a m b k)∧i+j=k) (n:=m-a+(b-m)) ?_ ?_
 ·refine⟨m-a,b-m,d,by simp(disch:=first|exact okD|fail) only[go_sem,seval],by simp(disch:=first|exact okD|fail) only[go_sem,seval],by simp(disch:=first|exact okD|fail) only[go_sem,seval],by simp(disch:=first|exact okD|fail) only[go_sem,seval],by simp(disch:=first|exact okD|fail) only[go_sem,seval],Chg.refl,A,by omega,by omega,by omega,by omega,fun k=>?_,rfl⟩
  rw[show m-(m-a)=a by omega,show m+(b-m)=b by omega]
 ·rintro k ⟨tm,hp⟩ ⟨i,j,c,k0,k2,k4,k10,k11,C,A,hi,hj,him,hjn,heq,rfl⟩
  simp only at k0 k2 k4 k10 k11 C A
  have f1:(m:Int)-i=((m-i:Nat):Int):=by omega
  have f2:(m:Int)+j-i=((m+j-i:Nat):Int)∨(m:Int)+j<i:=by omega
  rcases Nat.lt_trichotomy i j with c1|c1|c1
  ·have g1:¬(i:Int)=j:=by omega
   have g2:¬(j:Int)<i:=by omega
   have f3:(m:Int)+j-i=((m+j-i:Nat):Int):=by omega
   have f4:(j:Int)-i=((j-i:Nat):Int):=by omega
   repeat' (with_reducible first|simp(disch:=first|exact okD|fail) only[go_sem,seval,k0,k2,k4,k10,k11,g1,g2,f1,f3]|(apply Spl.i<;>intro hc))
   refine CallWp.mono (c326 (k:=i) A (by omega) (by omega) (by omega) hn) fun v h1 ⟨C1,A1⟩=>?_
   repeat' (with_reducible first|simp(disch:=first|exact okD|fail) only[go_sem,seval,k0,k2,k4,k10,k11,f4]|(apply Spl.i<;>intro hc))
   exact⟨_,by omega,i,j-i,_,rfl,rfl,C.trans C1,A1,hi,by omega,him,by omega,fun k=>(rot_step2 him c1 k).trans (heq k),rfl⟩
  ·subst c1
   have g1:(i:Int)=i:=rfl
   repeat' (with_reducible first|simp(disch:=first|exact okD|fail) only[go_sem,seval,k0,k2,k4,k10,k11,f1]|(apply Spl.i<;>intro hc))
   refine CallWp.mono (c326 (k:=i) A (by omega) (by omega) (by omega) hn) fun v h1 ⟨C1,A1⟩=>?_
   repeat' (with_reducible first|simp(disch:=first|exact okD|fail) only[go_sem,seval]|(apply Spl.i<;>intro hc))
   exact⟨C.trans C1,A1.congr fun k _=>(heq k).symm.trans (rot_end him k).symm⟩
  ·have g1:¬(i:Int)=j:=by omega
   have g2:(j:Int)<i:=by omega
   have f4:(i:Int)-j=((i-j:Nat):Int):=by omega
   repeat' (with_reducible first|simp(disch:=first|exact okD|fail) only[go_sem,seval,k0,k2,k4,k10,k11,g1,g2,f1]|(apply Spl.i<;>intro hc))
   refine CallWp.mono (c326 (k:=j) A (by omega) (by omega) (by omega) hn) fun v h1 ⟨C1,A1⟩=>?_
   repeat' (with_reducible first|simp(disch:=first|exact okD|fail) only[go_sem,seval,k0,k2,k4,k10,k11,f4]|(apply Spl.i<;>intro hc))
   exact⟨_,by omega,i-j,j,_,rfl,rfl,C.trans C1,A1,by omega,hj,by omega,hjn,fun k=>(rot_step1 him c1 k).trans (heq k),rfl⟩
end
end
end Go.Ae
set_option linter.unusedVariables false
set_option linter.unusedSimpArgs false
set_option maxRecDepth 100000
set_option maxHeartbeats 4000000
namespace Go.Ae
open So Bg
noncomputable section
structure Cmp (n f:Nat) (caps:List AV) (t:Nat) (P:Hp→Prop) (cz:Nat→Nat→Int) (L:Nat→Nat→Prop):Prop where
 st:∀h h',P h→Chg t h h'→P h'
 call:∀(h:Hp) (x y:Nat) (K:AV→Hp→Prop),P h→x<n→y<n→(CallWp E2 f (.int .i64 x:: .int .i64 y::caps) h K↔K (.int .i64 (cz x y)) h)
 lt:∀x y,y<x→(cz x y<0↔L x y)
 gt:∀x y,y<x→(¬L x y↔L y x)
 tr:∀x y z,L x y→L y z→L x z
def ins (e:Nat→Nat) (i j x k:Nat):Nat:=if k<j then e k else if k=j then x else if k≤i then e (k-1)else e k
theorem ins_swap {e:Nat→Nat} {i j x:Nat} (hj:0<j) (hi:j≤i) (k:Nat):ins e i (j-1) x k=updF (updF (ins e i j x) j (e (j-1))) (j-1) x k:=by
 unfold updF
 by_cases c1:k=j-1
 ·rw[if_pos c1];unfold ins;rw[if_neg (by omega),if_pos c1]
 ·rw[if_neg c1]
  by_cases c2:k=j
  ·rw[if_pos c2];unfold ins;rw[if_neg (by omega),if_neg c1,if_pos (by omega),c2]
  ·rw[if_neg c2];unfold ins
   by_cases c3:k<j
   ·rw[if_pos (by omega),if_pos c3]
   ·rw[if_neg (by omega),if_neg c1,if_neg c3,if_neg c2]
section
variable {h h' hp:Hp} {K:AV→Hp→Prop} {tm:T AV} {n t f:Nat} {d e:Nat→Nat} {caps:List AV} {P:Hp→Prop} {cz:Nat→Nat→Int} {L:Nat→Nat→Prop}
theorem c274 (Q : Cmp n f caps t P cz L) {a b:Nat} (hab:a<b) (hb:b≤n) (hn:n≤1000000) (A:Rw h t n d) (hP:P h) (hv:∀k,k<n→d k<n) (asc:∀i j,a≤i→i<j→j<b→d i<d j):
  CallWp E2 274 [.sl t 0 n 1,.int .i64 a,.int .i64 b,.fn f caps] h fun _ h'=>Chg t h h'∧∃e,Rw h' t n e∧Pm d e a b∧Sd L e a b:=by
 refine CallWp.fn (fn:=C.a274) rfl rfl rfl ?_
 unfold C.a274
 repeat' (with_reducible first|simp(disch:=first|exact okD|fail) only[go_sem,seval]|(apply Spl.i<;>intro hc))
 refine Wp.loopI (fun m s=>∃(i:Nat) (e:Nat→Nat),val s.tm (.t 0)= .sl t 0 n 1∧val s.tm (.t 1)= .int .i64 a∧val s.tm (.t 2)= .int .i64 b∧val s.tm (.t 3)= .fn f caps∧val s.tm (.t 8)= .int .i64 i∧
  Chg t h s.hp∧P s.hp∧Rw s.hp t n e∧Pm d e a i∧Sd L e a i∧a<i∧i≤b∧b-i=m) (n:=b-(a+1)) ?_ ?_
 ·exact⟨a+1,d,by simp(disch:=first|exact okD|fail) only[go_sem,seval],by simp(disch:=first|exact okD|fail) only[go_sem,seval],by simp(disch:=first|exact okD|fail) only[go_sem,seval],by simp(disch:=first|exact okD|fail) only[go_sem,seval],by(simp(disch:=first|exact okD|fail) only[go_sem,seval])<;>rfl,Chg.refl,hP,A,Pm.refl _ _ _,fun i j p q r=>by omega,by omega,hab,rfl⟩
 ·rintro m ⟨tm, hp⟩ ⟨i,e,k0,k1,k2,k3,k8,C,hp',A,pm,sd,hai,hib,rfl⟩
  simp only at k0 k1 k2 k3 k8 C hp' A
  by_cases hlt:i<b
  ·have hlt' : (i:Int)<b:=by omega
   have ei:e i=d i:=pm.out i (by omega)
   have hx:e i<n:=by rw[ei];exact hv i (by omega)
   have below:∀k,a≤k→k<i→e k<e i:=fun k p q=>by
    obtain⟨k',p1,p2,p3⟩:=pm.fw k p q
    rw[p3,ei];exact asc k' i p1 p2 hlt
   obtain⟨x,hxe⟩:∃x,e i=x:=⟨_,rfl⟩
   rw[hxe]at hx below
   repeat' (with_reducible first|simp(disch:=first|exact okD|fail) only[go_sem,seval,k0,k1,k2,k3,k8,hlt']|(apply Spl.i<;>intro hc))
   refine Wp.loopI (fun m s=>∃(j:Nat),val s.tm (.t 0)= .sl t 0 n 1∧val s.tm (.t 1)= .int .i64 a∧val s.tm (.t 2)= .int .i64 b∧val s.tm (.t 3)= .fn f caps∧val s.tm (.t 8)= .int .i64 i∧val s.tm (.t 9)= .int .i64 j∧
    Chg t h s.hp∧P s.hp∧Rw s.hp t n (ins e i j x)∧a≤j∧j≤i∧(∀k,j≤k→k<i→L x (e k))∧j=m) (n:=i) ?_ ?_
   ·exact⟨i,by simp(disch:=first|exact okD|fail) only[go_sem,seval,k0],by simp(disch:=first|exact okD|fail) only[go_sem,seval,k1],by simp(disch:=first|exact okD|fail) only[go_sem,seval,k2],by simp(disch:=first|exact okD|fail) only[go_sem,seval,k3],by simp(disch:=first|exact okD|fail) only[go_sem,seval,k8],by simp(disch:=first|exact okD|fail) only[go_sem,seval,k8],C,hp',A.congr fun k _=>by
     unfold ins
     repeat' split
     all_goals first|rfl|omega|(rename_i h1;rw[h1,hxe]),by omega,Nat.le_refl _,fun k p q=>by omega,rfl⟩
   ·clear k0 k1 k2 k3 k8 C hp' A
    rintro m ⟨tm,hq⟩ ⟨j,k0,k1,k2,k3,k8,k9,C,hp',A,haj,hji,hl,rfl⟩
    simp only at k0 k1 k2 k3 k8 k9 C hp' A
    have gj:ins e i j x j=x:=by unfold ins;rw[if_neg (by omega),if_pos rfl]
    by_cases c1:a<j
    ·have c1':(a:Int)<j:=by omega
     have gp:ins e i j x (j-1)=e (j-1):=by unfold ins;rw[if_pos (by omega)]
     have bl:=below (j-1) (by omega) (by omega)
     have vn:e (j-1)<n:=by omega
     have l1:=A.ld (i:=j) (by omega)
     have l2:=A.ld (i:=j-1) (by omega)
     rw[gj]at l1
     rw[gp]at l2
     have od:=A.old
     have lt:=AtS.lt A
     have ej:((j:Int)-1).toNat=j-1:=by omega
     have cc:=fun K=>Q.call hq x (e (j-1)) K hp' hx vn
     have cl:=Q.lt x (e (j-1)) bl
     by_cases c2:L x (e (j-1))
     ·have c2':=cl.2 c2
      obtain⟨h1,s1,C1,A1,n1⟩:=A.st (i:=j) (by omega) (e (j-1))
      obtain⟨h2,s2,C2,A2,n2⟩:=A1.st (i:=j-1) (by omega) x
      have A3:=A2.congr fun k _=>ins_swap (e:=e) (x:=x) (i:=i) (j:=j) (by omega) hji k
      repeat' (with_reducible first|simp(disch:=first|exact okD|fail) only[go_sem,seval,k0,k1,k2,k3,k8,k9,c1',l1,l2,od,ej,cc,c2',s1,s2]|(apply Spl.i<;>intro hc))
      refine⟨_,by omega,j-1,?_,C.trans (C1.trans C2),Q.st _ _ hp' (C1.trans C2),A3,by omega,by omega,fun k p q=>?_,rfl⟩
      ·congr 1;omega
      ·rcases Nat.eq_or_lt_of_le p with e'|e'
       ·rw[←e'];exact c2
       ·exact hl k (by omega) q
     ·have c2':¬cz x (e (j-1))<0:=fun q=>c2 (cl.1 q)
      have hlow:∀k,a≤k→k<j→L (e k) x:=fun k p q=>by
       have g:=(Q.gt x (e (j-1)) bl).1 c2
       rcases Nat.eq_or_lt_of_le (show k≤j-1 by omega)with e'|e'
       ·rw[e'];exact g
       ·exact Q.tr _ _ _ (sd k (j-1) p e' (by omega)) g
      repeat' (with_reducible first|simp(disch:=first|exact okD|fail) only[go_sem,seval,k0,k1,k2,k3,k8,k9,c1',l1,l2,od,ej,cc,c2']|(apply Spl.i<;>intro hc))
      refine⟨_,by omega,i+1,_,rfl,C,hp',A,?_,?_,by omega,hlt,rfl⟩
      ·refine pm.mono (Nat.le_refl _) (by omega:i≤i+1)|>.trans ⟨fun k hk=>?_,fun k p q=>?_,fun k p q=>?_⟩
       ·unfold ins
        by_cases c3:k<j
        ·rw[if_pos c3]
        ·rw[if_neg c3,if_neg (by omega),if_neg (by omega)]
       ·unfold ins
        by_cases c3:k<j
        ·rw[if_pos c3];exact⟨k,p,q,rfl⟩
        ·by_cases c4:k=j
         ·rw[if_neg c3,if_pos c4];exact⟨i,by omega,by omega,hxe.symm⟩
         ·rw[if_neg c3,if_neg c4,if_pos (by omega)];exact⟨k-1,by omega,by omega,rfl⟩
       ·by_cases c3:k<j
        ·exact⟨k,p,q,by unfold ins;rw[if_pos c3]⟩
        ·by_cases c4:k=i
         ·exact⟨j,haj,by omega,by rw[gj,c4,hxe]⟩
         ·exact⟨k+1,by omega,by omega,by unfold ins;rw[if_neg (by omega),if_neg (by omega),if_pos (by omega)];rfl⟩
      ·intro p q h1 h2 h3
       have vp:∀k,k<j→ins e i j x k=e k:=fun k c=>by unfold ins;rw[if_pos c]
       have vq:∀k,j<k→k≤i→ins e i j x k=e (k-1):=fun k c c'=>by unfold ins;rw[if_neg (by omega),if_neg (by omega),if_pos c']
       have lx:∀k,a≤k→k<j→L (e k) x:=fun k p1 p2=>hlow k p1 p2
       by_cases cp:p<j<;>by_cases cq:q<j
       ·rw[vp p cp,vp q cq];exact sd p q h1 h2 (by omega)
       ·rw[vp p cp]
        by_cases c4:q=j
        ·rw[c4,gj];exact lx p h1 cp
        ·rw[vq q (by omega) (by omega)]
         exact Q.tr _ _ _ (lx p h1 cp) (hl (q-1) (by omega) (by omega))
       ·omega
       ·by_cases c4:p=j
        ·rw[c4,gj,vq q (by omega) (by omega)];exact hl (q-1) (by omega) (by omega)
        ·rw[vq p (by omega) (by omega),vq q (by omega) (by omega)];exact sd (p-1) (q-1) (by omega) (by omega) (by omega)
    ·have c1':¬(a:Int)<j:=by omega
     have hlow:∀k,a≤k→k<j→L (e k) x:=fun k p q=>by omega
     repeat' (with_reducible first|simp(disch:=first|exact okD|fail) only[go_sem,seval,k0,k1,k2,k3,k8,k9,c1']|(apply Spl.i<;>intro hc))
     refine⟨_,by omega,i+1,_,rfl,C,hp',A,?_,?_,by omega,hlt,rfl⟩
     ·refine pm.mono (Nat.le_refl _) (by omega:i≤i+1)|>.trans ⟨fun k hk=>?_,fun k p q=>?_,fun k p q=>?_⟩
      ·unfold ins
       by_cases c3:k<j
       ·rw[if_pos c3]
       ·rw[if_neg c3,if_neg (by omega),if_neg (by omega)]
      ·unfold ins
       by_cases c3:k<j
       ·rw[if_pos c3];exact⟨k,p,q,rfl⟩
       ·by_cases c4:k=j
        ·rw[if_neg c3,if_pos c4];exact⟨i,by omega,by omega,hxe.symm⟩
        ·rw[if_neg c3,if_neg c4,if_pos (by omega)];exact⟨k-1,by omega,by omega,rfl⟩
      ·by_cases c3:k<j
       ·exact⟨k,p,q,by unfold ins;rw[if_pos c3]⟩
       ·by_cases c4:k=i
        ·exact⟨j,haj,by omega,by rw[gj,c4,hxe]⟩
        ·exact⟨k+1,by omega,by omega,by unfold ins;rw[if_neg (by omega),if_neg (by omega),if_pos (by omega)];rfl⟩
     ·intro p q h1 h2 h3
      have vp:∀k,k<j→ins e i j x k=e k:=fun k c=>by unfold ins;rw[if_pos c]
      have vq:∀k,j<k→k≤i→ins e i j x k=e (k-1):=fun k c c'=>by unfold ins;rw[if_neg (by omega),if_neg (by omega),if_pos c']
      have lx:∀k,a≤k→k<j→L (e k) x:=fun k p1 p2=>hlow k p1 p2
      by_cases cp:p<j<;>by_cases cq:q<j
      ·rw[vp p cp,vp q cq];exact sd p q h1 h2 (by omega)
      ·rw[vp p cp]
       by_cases c4:q=j
       ·rw[c4,gj];exact lx p h1 cp
       ·rw[vq q (by omega) (by omega)]
        exact Q.tr _ _ _ (lx p h1 cp) (hl (q-1) (by omega) (by omega))
      ·omega
      ·by_cases c4:p=j
       ·rw[c4,gj,vq q (by omega) (by omega)];exact hl (q-1) (by omega) (by omega)
       ·rw[vq p (by omega) (by omega),vq q (by omega) (by omega)];exact sd (p-1) (q-1) (by omega) (by omega) (by omega)
  ·have hlt':¬(i:Int)<b:=by omega
   obtain rfl:i=b:=by omega
   repeat' (with_reducible first|simp(disch:=first|exact okD|fail) only[go_sem,seval,k0,k1,k2,k3,k8,hlt']|(apply Spl.i<;>intro hc))
   exact⟨C,e,A,pm,sd⟩
end
end
end Go.Ae
set_option linter.unusedVariables false
set_option linter.unusedSimpArgs false
set_option maxRecDepth 100000
set_option maxHeartbeats 4000000
namespace Go.Ae
open So Bg
noncomputable section
theorem b_mid {q:EqK} {i j:Nat}:binA .shr q (.int .u64 ((i:Int)+j)) (.int .u64 1)=some (.int .u64 (((i+j)/2:Nat):Int)):=by
 rw[←Int.natCast_add];exact b_shrL (n:=1) (by decide)
section
variable {h h' hp:Hp} {K:AV→Hp→Prop} {tm:T AV} {n t f:Nat} {d e:Nat→Nat} {caps:List AV} {P:Hp→Prop} {cz:Nat→Nat→Int} {L:Nat→Nat→Prop}
theorem rot_up {a k:Nat} (hk:a≤k) (j:Nat):rot d a (a+1) (k+2) j=updF (updF (rot d a (a+1) (k+1)) k (d (k+1))) (k+1) (d a) j:=by
 unfold updF
 by_cases c1:j=k+1
 ·rw[if_pos c1];unfold rot;rw[if_neg (by omega),if_pos (by omega)];congr 1;omega
 ·rw[if_neg c1]
  by_cases c2:j=k
  ·rw[if_pos c2];unfold rot;rw[if_pos (by omega)];congr 1;omega
  ·rw[if_neg c2];unfold rot
   by_cases c3:a≤j∧j<k
   ·rw[if_pos (by omega),if_pos (by omega)]
   ·rw[if_neg (by omega),if_neg (by omega),if_neg (by omega),if_neg (by omega)]
theorem rot_dn {m k:Nat} (hk:k≤m) (h0:0<k) (j:Nat):rot d (k-1) m (m+1) j=updF (updF (rot d k m (m+1)) k (d (k-1))) (k-1) (d m) j:=by
 unfold updF
 by_cases c1:j=k-1
 ·rw[if_pos c1];unfold rot;rw[if_pos (by omega)];congr 1;omega
 ·rw[if_neg c1]
  by_cases c2:j=k
  ·rw[if_pos c2];unfold rot;rw[if_neg (by omega),if_pos (by omega)];congr 1;omega
  ·rw[if_neg c2];unfold rot
   by_cases c3:k<j∧j<m+1
   ·rw[if_neg (by omega),if_pos (by omega),if_neg (by omega),if_pos (by omega)]
   ·rw[if_neg (by omega),if_neg (by omega),if_neg (by omega),if_neg (by omega)]
theorem sd_one {a b i:Nat} (tr:∀x y z,L x y→L y z→L x z) (hi:a+1≤i) (hb:i≤b) (sr:Sd L d (a+1) b) (lo:∀k,a+1≤k→k<i→L (d k) (d a)) (hi':∀k,i≤k→k<b→L (d a) (d k)):Sd L (rot d a (a+1) i) a b:=by
 have v1:∀k,a≤k→k<i-1→rot d a (a+1) i k=d (k+1):=fun k p q=>by unfold rot;rw[if_pos (by omega)];congr 1;omega
 have v2:rot d a (a+1) i (i-1)=d a:=by unfold rot;rw[if_neg (by omega),if_pos (by omega)];congr 1;omega
 have v3:∀k,i≤k→rot d a (a+1) i k=d k:=fun k p=>by unfold rot;rw[if_neg (by omega),if_neg (by omega)]
 intro p q h1 h2 h3
 by_cases c1:p<i-1
 ·rw[v1 p h1 c1]
  by_cases c2:q<i-1
  ·rw[v1 q (by omega) c2];exact sr _ _ (by omega) (by omega) (by omega)
  ·by_cases c3:q=i-1
   ·rw[c3,v2];exact lo _ (by omega) (by omega)
   ·rw[v3 q (by omega)];exact sr _ _ (by omega) (by omega) h3
 ·by_cases c2:p=i-1
  ·rw[c2,v2,v3 q (by omega)];exact hi' q (by omega) h3
  ·rw[v3 p (by omega),v3 q (by omega)];exact sr _ _ (by omega) h2 h3
theorem sd_two {a m i:Nat} (tr:∀x y z,L x y→L y z→L x z) (hi:a≤i) (hm:i≤m) (sl:Sd L d a m) (lo:∀k,a≤k→k<i→L (d k) (d m)) (hi':∀k,i≤k→k<m→L (d m) (d k)):Sd L (rot d i m (m+1)) a (m+1):=by
 have v1:∀k,k<i→rot d i m (m+1) k=d k:=fun k p=>by unfold rot;rw[if_neg (by omega),if_neg (by omega)]
 have v2:rot d i m (m+1) i=d m:=by unfold rot;rw[if_pos (by omega)];congr 1;omega
 have v3:∀k,i<k→k<m+1→rot d i m (m+1) k=d (k-1):=fun k p q=>by unfold rot;rw[if_neg (by omega),if_pos (by omega)];congr 1;omega
 intro p q h1 h2 h3
 by_cases c1:p<i
 ·rw[v1 p c1]
  by_cases c2:q<i
  ·rw[v1 q c2];exact sl _ _ h1 h2 (by omega)
  ·by_cases c3:q=i
   ·rw[c3,v2];exact lo _ h1 c1
   ·rw[v3 q (by omega) h3];exact sl _ _ h1 (by omega) (by omega)
 ·by_cases c2:p=i
  ·rw[c2,v2,v3 q (by omega) h3];exact hi' _ (by omega) (by omega)
  ·rw[v3 p (by omega) (by omega),v3 q (by omega) h3];exact sl _ _ (by omega) (by omega) (by omega)
theorem sm1 (Q:Cmp n f caps t P cz L) {a b:Nat} (hab:a+1≤b) (hb:b≤n) (hn:n≤1000000) (A:Rw h t n d) (hP:P h) (hv:∀k,k<n→d k<n) (sr:Sd L d (a+1) b) (cross:∀j,a+1≤j→j<b→d a<d j):
  CallWp E2 275 [.sl t 0 n 1,.int .i64 a,.int .i64 ((a+1:Nat):Int),.int .i64 b,.fn f caps] h fun _ h'=>Chg t h h'∧∃e,Rw h' t n e∧Pm d e a b∧Sd L e a b:=by
 refine CallWp.fn (fn:=C.a275) rfl rfl rfl ?_
 unfold C.a275
 have e1:((a+1:Nat):Int)-a=1:=by omega
 repeat' (with_reducible first|simp(disch:=first|exact okD|fail) only[go_sem,seval,e1]|(apply Spl.i<;>intro hc))
 refine Wp.loopI (fun m s=>∃(i j:Nat),val s.tm (.t 0)= .sl t 0 n 1∧val s.tm (.t 1)= .int .i64 a∧val s.tm (.t 4)= .fn f caps∧val s.tm (.t 10)= .int .i64 i∧val s.tm (.t 11)= .int .i64 j∧
  Chg t h s.hp∧P s.hp∧Rw s.hp t n d∧a+1≤i∧i≤j∧j≤b∧(∀k,a+1≤k→k<i→L (d k) (d a))∧(∀k,j≤k→k<b→L (d a) (d k))∧j-i=m) (n:=b-(a+1)) ?_ ?_
 ·exact⟨a+1,b,by simp(disch:=first|exact okD|fail) only[go_sem,seval],by simp(disch:=first|exact okD|fail) only[go_sem,seval],by simp(disch:=first|exact okD|fail) only[go_sem,seval],by simp(disch:=first|exact okD|fail) only[go_sem,seval],by simp(disch:=first|exact okD|fail) only[go_sem,seval],Chg.refl,hP,A,Nat.le_refl _,hab,Nat.le_refl _,fun k p q=>by omega,fun k p q=>by omega,rfl⟩
 ·rintro m ⟨tm,hp⟩ ⟨i,j,k0,k1,k4,k10,k11,C,hp',A,hai,hij,hjb,lo,hi,rfl⟩
  simp only at k0 k1 k4 k10 k11 C hp' A
  have od:=A.old
  have lt:=AtS.lt A
  by_cases c:i<j
  ·have c':(i:Int)<j:=by omega
   have m1:i≤(i+j)/2:=by omega
   have m2:(i+j)/2<j:=by omega
   have bm:=b_mid (q:= .none) (i:=i) (j:=j)
   generalize (i+j)/2=g at *
   have l1:=A.ld (i:=g) (by omega)
   have l2:=A.ld (i:=a) (by omega)
   have cc:=fun K=>Q.call hp (d g) (d a) K hp' (hv g (by omega)) (hv a (by omega))
   have cr:=cross g (by omega) (by omega)
   have cl:=Q.lt (d g) (d a) cr
   by_cases c2:L (d g) (d a)
   ·have c2':=cl.2 c2
    repeat' (with_reducible first|simp(disch:=first|exact okD|fail) only[go_sem,seval,k0,k1,k4,k10,k11,c',bm,l1,l2,od,cc,c2']|(apply Spl.i<;>intro hc))
    refine⟨_,?_,g+1,j,rfl,rfl,C,hp',A,by omega,by omega,hjb,fun k p q=>?_,hi,rfl⟩
    ·omega
    ·rcases Nat.eq_or_lt_of_le (show k≤g by omega)with e'|e'
     ·rw[e'];exact c2
     ·exact Q.tr _ _ _ (sr k g p e' (by omega)) c2
   ·have c2':¬cz (d g) (d a)<0:=fun q=>c2 (cl.1 q)
    have gt:=(Q.gt (d g) (d a) cr).1 c2
    repeat' (with_reducible first|simp(disch:=first|exact okD|fail) only[go_sem,seval,k0,k1,k4,k10,k11,c',bm,l1,l2,od,cc,c2']|(apply Spl.i<;>intro hc))
    refine⟨_,?_,i,g,rfl,rfl,C,hp',A,hai,m1,by omega,lo,fun k p q=>?_,rfl⟩
    ·omega
    ·rcases Nat.eq_or_lt_of_le p with e'|e'
     ·rw[←e'];exact gt
     ·exact Q.tr _ _ _ gt (sr g k (by omega) e' q)
  ·have c':¬(i:Int)<j:=by omega
   obtain rfl:i=j:=by omega
   have fin:=sd_one Q.tr hai hjb sr lo hi
   repeat' (with_reducible first|simp(disch:=first|exact okD|fail) only[go_sem,seval,k0,k1,k4,k10,k11,c']|(apply Spl.i<;>intro hc))
   refine Wp.loopI (fun m s=>∃(k:Nat),val s.tm (.t 0)= .sl t 0 n 1∧val s.tm (.t 10)= .int .i64 i∧val s.tm (.t 13)= .int .i64 k∧
    Chg t h s.hp∧Rw s.hp t n (rot d a (a+1) (k+1))∧a≤k∧k+1≤i∧i-k=m) (n:=i-a) ?_ ?_
   ·exact⟨a,by simp(disch:=first|exact okD|fail) only[go_sem,seval,k0],by simp(disch:=first|exact okD|fail) only[go_sem,seval,k10],by simp(disch:=first|exact okD|fail) only[go_sem,seval,k1],C,A.congr fun k _=>by
     unfold rot
     repeat' split
     all_goals first|rfl|omega|(congr 1;omega),Nat.le_refl _,hai,rfl⟩
   ·clear k0 k1 k4 k10 k11 C hp' A od lt
    rintro m ⟨tm,hq⟩ ⟨k,k0,k10,k13,C,A,hak,hki,rfl⟩
    simp only at k0 k10 k13 C A
    have od:=A.old
    have lt:=AtS.lt A
    by_cases c3:k+1<i
    ·have c3':(k:Int)<(i:Int)-1:=by omega
     have g1:rot d a (a+1) (k+1) (k+1)=d (k+1):=by unfold rot;rw[if_neg (by omega),if_neg (by omega)]
     have g2:rot d a (a+1) (k+1) k=d a:=by unfold rot;rw[if_neg (by omega),if_pos (by omega)];congr 1;omega
     have l1:=A.ld (i:=k+1) (by omega)
     have l2:=A.ld (i:=k) (by omega)
     rw[g1]at l1
     rw[g2]at l2
     have ek:((k:Int)+1).toNat=k+1:=by omega
     obtain⟨h1,s1,C1,A1,n1⟩:=A.st (i:=k) (by omega) (d (k+1))
     obtain⟨h2,s2,C2,A2,n2⟩:=A1.st (i:=k+1) (by omega) (d a)
     have A3:=A2.congr fun j _=>rot_up (d:=d) hak j
     repeat' (with_reducible first|simp(disch:=first|exact okD|fail) only[go_sem,seval,k0,k10,k13,c3',l1,l2,od,ek,s1,s2]|(apply Spl.i<;>intro hc))
     exact⟨_,by omega,k+1,rfl,C.trans (C1.trans C2),A3,by omega,c3,rfl⟩
    ·have c3':¬(k:Int)<(i:Int)-1:=by omega
     have ek:k+1=i:=by omega
     rw[ek]at A
     repeat' (with_reducible first|simp(disch:=first|exact okD|fail) only[go_sem,seval,k0,k10,k13,c3']|(apply Spl.i<;>intro hc))
     exact⟨C,_,A,(rot_pm (by omega) hai).mono (Nat.le_refl _) hjb,fin⟩
end
end
end Go.Ae
set_option linter.unusedVariables false
set_option linter.unusedSimpArgs false
set_option maxRecDepth 100000
set_option maxHeartbeats 4000000
namespace Go.Ae
open So Bg
noncomputable section
section
variable {h h' hp:Hp} {K:AV→Hp→Prop} {tm:T AV} {n t f:Nat} {d e:Nat→Nat} {caps:List AV} {P:Hp→Prop} {cz:Nat→Nat→Int} {L:Nat→Nat→Prop}
theorem sm2 (Q:Cmp n f caps t P cz L) {a m:Nat} (ham:a+1<m) (hb:m+1≤n) (hn:n≤1000000) (A:Rw h t n d) (hP:P h) (hv:∀k,k<n→d k<n) (sl:Sd L d a m) (cross:∀i,a≤i→i<m→d i<d m):
  CallWp E2 275 [.sl t 0 n 1,.int .i64 a,.int .i64 m,.int .i64 ((m+1:Nat):Int),.fn f caps] h fun _ h'=>Chg t h h'∧∃e,Rw h' t n e∧Pm d e a (m+1)∧Sd L e a (m+1):=by
 refine CallWp.fn (fn:=C.a275) rfl rfl rfl ?_
 unfold C.a275
 have e1:¬(m:Int)-a=1:=by omega
 have e2:((m+1:Nat):Int)-m=1:=by omega
 repeat' (with_reducible first|simp(disch:=first|exact okD|fail) only[go_sem,seval,e1,e2]|(apply Spl.i<;>intro hc))
 refine Wp.loopI (fun mm s=>∃(i j:Nat),val s.tm (.t 0)= .sl t 0 n 1∧val s.tm (.t 2)= .int .i64 m∧val s.tm (.t 4)= .fn f caps∧val s.tm (.t 14)= .int .i64 i∧val s.tm (.t 15)= .int .i64 j∧
  Chg t h s.hp∧P s.hp∧Rw s.hp t n d∧a≤i∧i≤j∧j≤m∧(∀k,a≤k→k<i→L (d k) (d m))∧(∀k,j≤k→k<m→L (d m) (d k))∧j-i=mm) (n:=m-a) ?_ ?_
 ·exact⟨a,m,by simp(disch:=first|exact okD|fail) only[go_sem,seval],by simp(disch:=first|exact okD|fail) only[go_sem,seval],by simp(disch:=first|exact okD|fail) only[go_sem,seval],by simp(disch:=first|exact okD|fail) only[go_sem,seval],by simp(disch:=first|exact okD|fail) only[go_sem,seval],Chg.refl,hP,A,Nat.le_refl _,by omega,Nat.le_refl _,fun k p q=>by omega,fun k p q=>by omega,rfl⟩
 ·rintro mm ⟨tm,hp⟩ ⟨i,j,k0,k2,k4,k14,k15,C,hp',A,hai,hij,hjm,lo,hi,rfl⟩
  simp only at k0 k2 k4 k14 k15 C hp' A
  have od:=A.old
  have lt:=AtS.lt A
  by_cases c:i<j
  ·have c':(i:Int)<j:=by omega
   have m1:i≤(i+j)/2:=by omega
   have m2:(i+j)/2<j:=by omega
   have bm:=b_mid (q:= .none) (i:=i) (j:=j)
   generalize (i+j)/2=g at *
   have l1:=A.ld (i:=g) (by omega)
   have l2:=A.ld (i:=m) (by omega)
   have cc:=fun K=>Q.call hp (d m) (d g) K hp' (hv m (by omega)) (hv g (by omega))
   have cr:=cross g (by omega) (by omega)
   have cl:=Q.lt (d m) (d g) cr
   by_cases c2:L (d m) (d g)
   ·have c2':=cl.2 c2
    repeat' (with_reducible first|simp(disch:=first|exact okD|fail) only[go_sem,seval,k0,k2,k4,k14,k15,c',bm,l1,l2,od,cc,c2']|(apply Spl.i<;>intro hc))
    refine⟨_,?_,i,g,rfl,rfl,C,hp',A,hai,m1,by omega,lo,fun k p q=>?_,rfl⟩
    ·omega
    ·rcases Nat.eq_or_lt_of_le p with e'|e'
     ·rw[←e'];exact c2
     ·exact Q.tr _ _ _ c2 (sl g k (by omega) e' q)
   ·have c2':¬cz (d m) (d g)<0:=fun q=>c2 (cl.1 q)
    have gt:=(Q.gt (d m) (d g) cr).1 c2
    repeat' (with_reducible first|simp(disch:=first|exact okD|fail) only[go_sem,seval,k0,k2,k4,k14,k15,c',bm,l1,l2,od,cc,c2']|(apply Spl.i<;>intro hc))
    refine⟨_,?_,g+1,j,rfl,rfl,C,hp',A,by omega,by omega,hjm,fun k p q=>?_,hi,rfl⟩
    ·omega
    ·rcases Nat.eq_or_lt_of_le (show k≤g by omega)with e'|e'
     ·rw[e'];exact gt
     ·exact Q.tr _ _ _ (sl k g p e' (by omega)) gt
  ·have c':¬(i:Int)<j:=by omega
   obtain rfl:i=j:=by omega
   have fin:=sd_two Q.tr hai hjm sl lo hi
   repeat' (with_reducible first|simp(disch:=first|exact okD|fail) only[go_sem,seval,k0,k2,k4,k14,k15,c']|(apply Spl.i<;>intro hc))
   refine Wp.loopI (fun mm s=>∃(k:Nat),val s.tm (.t 0)= .sl t 0 n 1∧val s.tm (.t 14)= .int .i64 i∧val s.tm (.t 17)= .int .i64 k∧
    Chg t h s.hp∧Rw s.hp t n (rot d k m (m+1))∧i≤k∧k≤m∧k-i=mm) (n:=m-i) ?_ ?_
   ·exact⟨m,by simp(disch:=first|exact okD|fail) only[go_sem,seval,k0],by simp(disch:=first|exact okD|fail) only[go_sem,seval,k14],by simp(disch:=first|exact okD|fail) only[go_sem,seval,k2],C,A.congr fun k _=>by
     unfold rot
     repeat' split
     all_goals first|rfl|omega|(congr 1;omega),hjm,Nat.le_refl _,rfl⟩
   ·clear k0 k2 k4 k14 k15 C hp' A od lt
    rintro mm ⟨tm,hq⟩ ⟨k,k0,k14,k17,C,A,hik,hkm,rfl⟩
    simp only at k0 k14 k17 C A
    have od:=A.old
    have lt:=AtS.lt A
    by_cases c3:i<k
    ·have c3':(i:Int)<(k:Int):=by omega
     have g1:rot d k m (m+1) (k-1)=d (k-1):=by unfold rot;rw[if_neg (by omega),if_neg (by omega)]
     have g2:rot d k m (m+1) k=d m:=by unfold rot;rw[if_pos (by omega)];congr 1;omega
     have l1:=A.ld (i:=k-1) (by omega)
     have l2:=A.ld (i:=k) (by omega)
     rw[g1]at l1
     rw[g2]at l2
     have ek:((k:Int)-1).toNat=k-1:=by omega
     obtain⟨h1,s1,C1,A1,n1⟩:=A.st (i:=k) (by omega) (d (k-1))
     obtain⟨h2,s2,C2,A2,n2⟩:=A1.st (i:=k-1) (by omega) (d m)
     have A3:=A2.congr fun j _=>rot_dn (d:=d) hkm (by omega) j
     repeat' (with_reducible first|simp(disch:=first|exact okD|fail) only[go_sem,seval,k0,k14,k17,c3',l1,l2,od,ek,s1,s2]|(apply Spl.i<;>intro hc))
     refine⟨_,?_,k-1,?_,C.trans (C1.trans C2),A3,by omega,by omega,rfl⟩
     ·omega
     ·congr 1;omega
    ·have c3':¬(i:Int)<(k:Int):=by omega
     obtain rfl:k=i:=by omega
     repeat' (with_reducible first|simp(disch:=first|exact okD|fail) only[go_sem,seval,k0,k14,k17,c3']|(apply Spl.i<;>intro hc))
     exact⟨C,_,A,(rot_pm hjm (by omega)).mono hai (Nat.le_refl _),fin⟩
def MrgP (t n:Nat) (L:Nat→Nat→Prop) (d:Nat→Nat) (a b:Nat) (h:Hp) (_:AV) (h':Hp):Prop:=Chg t h h'∧∃e,Rw h' t n e∧Pm d e a b∧Sd L e a b
def MrgI (P:Hp→Prop) (f:Nat) (caps:List AV) (t n:Nat) (L:Nat→Nat→Prop) (N:Nat):Prop:=∀(a m b:Nat) (d:Nat→Nat) (h:Hp),b-a<N→a<m→m<b→b≤n→Rw h t n d→P h→(∀k,k<n→d k<n)→Sd L d a m→Sd L d m b→(∀i j,a≤i→i<m→m≤j→j<b→d i<d j)→
 CallWp E2 275 [.sl t 0 n 1,.int .i64 a,.int .i64 m,.int .i64 b,.fn f caps] h (MrgP t n L d a b h)
theorem sm3c {a mid en b:Nat} {e f1:Nat→Nat} (IH:MrgI P f caps t n L (b-a)) (hn:n≤1000000) (hb:b≤n) (h1:a<mid) (h2:mid≤en) (h3:en≤b) (k0:val tm (.t 0)= .sl t 0 n 1) (k3:val tm (.t 3)= .int .i64 b) (k4:val tm (.t 4)= .fn f caps) (k18:val tm (.t 18)= .int .i64 mid) (k24:val tm (.t 24)= .int .i64 en)
  (C0:Chg t h hp) (hP:P hp) (A:Rw hp t n f1) (hv:∀k,k<n→f1 k<n) (pd:Pm d e a b) (pm:Pm e f1 a mid) (s1:Sd L f1 a mid) (s2:Sd L e mid en) (s3:Sd L e en b) (cross:∀i j,mid≤i→i<en→en≤j→j<b→e i<e j) (cl:∀i j,a≤i→i<mid→mid≤j→j<b→L (e i) (e j)):
  Wp E2 (C.a275.code.post 11) ⟨tm,hp⟩ (RetQ [] (MrgP t n L d a b h)):=by
 unfold C.a275
 dsimp only[ACode.post]
 have hmb:mid≤b:=by omega
 have same:∀k,mid≤k→k<b→f1 k=e k:=fun k p q=>pm.out k (by omega)
 by_cases c:mid<en∧en<b
 ·have c1:(mid:Int)<en:=by omega
  have c2:(en:Int)<b:=by omega
  repeat' (with_reducible first|simp(disch:=first|exact okD|fail) only[go_sem,seval,k0,k3,k4,k18,k24,c1,c2]|(apply Spl.i<;>intro hc))
  refine CallWp.mono (IH mid en b f1 hp (by omega) c.1 c.2 hb A hP hv (s2.congr fun k p q=>same k p (by omega)) (s3.congr fun k p q=>same k (by omega) q) (fun i j p q r s=>by rw[same i p (by omega),same j (by omega) s];exact cross i j p q r s)) fun v h2' ⟨C2,g,A2,p2,sg⟩=>?_
  repeat' (with_reducible first|simp(disch:=first|exact okD|fail) only[go_sem,seval]|(apply Spl.i<;>intro hc))
  have pall:=(pm.mono (Nat.le_refl _) hmb).trans (p2.mono (Nat.le_of_lt h1) (Nat.le_refl _))
  refine⟨C0.trans C2,g,A2,pd.trans pall,join (mid:=mid) (e:=e) (s1.congr fun k p q=>p2.out k (by omega)) sg pall (fun k p q=>?_) (fun k p q=>?_) cl⟩
  ·rw[p2.out k (by omega)];exact pm.fw k p q
  ·obtain⟨k',a1,a2,a3⟩:=p2.fw k p q
   exact⟨k',a1,a2,by rw[a3,same k' a1 a2]⟩
 ·have pall:=pm.mono (Nat.le_refl _) hmb
  have sfin:Sd L f1 mid b:=by
   by_cases c3:mid<en
   ·have:en=b:=by omega
    subst this
    exact s2.congr fun k p q=>same k p q
   ·have:mid=en:=by omega
    subst this
    exact s3.congr fun k p q=>same k p q
  have fin:MrgP t n L d a b h (.tup []) hp:=⟨C0,f1,A,pd.trans pall,join (mid:=mid) (e:=e) s1 sfin pall pm.fw (fun k p q=>⟨k,p,q,same k p q⟩) cl⟩
  by_cases c1:mid<en
  ·have c1':(mid:Int)<en:=by omega
   have c2':¬(en:Int)<b:=by omega
   repeat' (with_reducible first|simp(disch:=first|exact okD|fail) only[go_sem,seval,k0,k3,k4,k18,k24,c1',c2']|(apply Spl.i<;>intro hc))
   exact fin
  ·have c1':¬(mid:Int)<en:=by omega
   repeat' (with_reducible first|simp(disch:=first|exact okD|fail) only[go_sem,seval,k0,k3,k4,k18,k24,c1']|(apply Spl.i<;>intro hc))
   exact fin
end
end
end Go.Ae
set_option linter.unusedVariables false
set_option linter.unusedSimpArgs false
set_option maxRecDepth 100000
set_option maxHeartbeats 4000000
namespace Go.Ae
open So Bg
noncomputable section
section
variable {h h' hp:Hp} {K:AV→Hp→Prop} {tm:T AV} {n t f:Nat} {d e:Nat→Nat} {caps:List AV} {P:Hp→Prop} {cz:Nat→Nat→Int} {L:Nat→Nat→Prop}
theorem So.Pm.val {d e:Nat→Nat} {a b:Nat} (p:Pm d e a b) (hb:b≤n) (hv:∀k,k<n→d k<n):∀k,k<n→e k<n:=fun k hk=>by
 by_cases c:a≤k∧k<b
 ·obtain⟨k',q1,q2,q3⟩:=p.fw k c.1 c.2
  rw[q3];exact hv k' (by omega)
 ·rw[p.out k c];exact hv k hk
theorem sm3b {a m st mid en b:Nat} {e:Nat→Nat} (hst:∀h h',P h→Chg t h h'→P h') (IH:MrgI P f caps t n L (b-a)) (hn:n≤1000000) (hb:b≤n) (h0:a≤st) (h1:st≤mid) (h1':a<mid) (h2:mid≤en) (h3:en≤b) (h4:mid<b) (k0:val tm (.t 0)= .sl t 0 n 1) (k1:val tm (.t 1)= .int .i64 a) (k3:val tm (.t 3)= .int .i64 b) (k4:val tm (.t 4)= .fn f caps) (k18:val tm (.t 18)= .int .i64 mid) (k20:val tm (.t 20)= .int .i64 st) (k24:val tm (.t 24)= .int .i64 en)
  (C0:Chg t h hp) (hP:P hp) (A:Rw hp t n e) (hv:∀k,k<n→e k<n) (pd:Pm d e a b) (s0:Sd L e a st) (s1:Sd L e st mid) (s2:Sd L e mid en) (s3:Sd L e en b) (cr1:∀i j,a≤i→i<st→st≤j→j<mid→e i<e j) (cr2:∀i j,mid≤i→i<en→en≤j→j<b→e i<e j) (cl:∀i j,a≤i→i<mid→mid≤j→j<b→L (e i) (e j)):
  Wp E2 (C.a275.code.post 10) ⟨tm,hp⟩ (RetQ [] (MrgP t n L d a b h)):=by
 have tail:=fun tm hp f1 k0 k3 k4 k18 k24 C0 hP A hv pm s1=>sm3c (tm:=tm) (hp:=hp) (f1:=f1) (e:=e) (d:=d) (h:=h) IH hn hb h1' h2 h3 k0 k3 k4 k18 k24 C0 hP A hv pd pm s1 s2 s3 cr2 cl
 refine Wp.cut 1 rfl ?_
 rw[show ACode.post 1 (ACode.post 10 C.a275.code)=ACode.post 11 C.a275.code from rfl]
 generalize ACode.post 11 C.a275.code=rest at tail⊢
 unfold C.a275
 dsimp only[ACode.post,ACode.pre]
 by_cases c:a<st∧st<mid
 ·have c1:(a:Int)<st:=by omega
  have c2:(st:Int)<mid:=by omega
  repeat' (with_reducible first|simp(disch:=first|exact okD|fail) only[go_sem,seval,k0,k1,k3,k4,k18,k20,k24,c1,c2]|(apply Spl.i<;>intro hc))
  refine CallWp.mono (IH a st mid e hp (by omega) c.1 c.2 (by omega) A hP hv s0 s1 cr1) fun v h2' ⟨C2,g,A2,p2,sg⟩=>?_
  repeat' (with_reducible first|simp(disch:=first|exact okD|fail) only[go_sem,seval]|(apply Spl.i<;>intro hc))
  exact tail _ _ g (by simp(disch:=first|exact okD|fail) only[go_sem,seval,k0]) (by simp(disch:=first|exact okD|fail) only[go_sem,seval,k3]) (by simp(disch:=first|exact okD|fail) only[go_sem,seval,k4]) (by simp(disch:=first|exact okD|fail) only[go_sem,seval,k18]) (by simp(disch:=first|exact okD|fail) only[go_sem,seval,k24]) (C0.trans C2) (hst _ _ hP C2) A2 (p2.val (by omega) hv) p2 sg
 ·have sa:Sd L e a mid:=by
   by_cases c3:a<st
   ·have:st=mid:=by omega
    subst this;exact s0
   ·have:st=a:=by omega
    subst this;exact s1
  by_cases c1:a<st
  ·have c1':(a:Int)<st:=by omega
   have c2':¬(st:Int)<mid:=by omega
   repeat' (with_reducible first|simp(disch:=first|exact okD|fail) only[go_sem,seval,k0,k1,k3,k4,k18,k20,k24,c1',c2']|(apply Spl.i<;>intro hc))
   exact tail _ _ e (by simp(disch:=first|exact okD|fail) only[go_sem,seval,k0]) (by simp(disch:=first|exact okD|fail) only[go_sem,seval,k3]) (by simp(disch:=first|exact okD|fail) only[go_sem,seval,k4]) (by simp(disch:=first|exact okD|fail) only[go_sem,seval,k18]) (by simp(disch:=first|exact okD|fail) only[go_sem,seval,k24]) C0 hP A hv (Pm.refl _ _ _) sa
  ·have c1':¬(a:Int)<st:=by omega
   repeat' (with_reducible first|simp(disch:=first|exact okD|fail) only[go_sem,seval,k0,k1,k3,k4,k18,k20,k24,c1']|(apply Spl.i<;>intro hc))
   exact tail _ _ e (by simp(disch:=first|exact okD|fail) only[go_sem,seval,k0]) (by simp(disch:=first|exact okD|fail) only[go_sem,seval,k3]) (by simp(disch:=first|exact okD|fail) only[go_sem,seval,k4]) (by simp(disch:=first|exact okD|fail) only[go_sem,seval,k18]) (by simp(disch:=first|exact okD|fail) only[go_sem,seval,k24]) C0 hP A hv (Pm.refl _ _ _) sa
theorem sm3a {a m st mid en b:Nat} (hst:∀h h',P h→Chg t h h'→P h') (IH:MrgI P f caps t n L (b-a)) (tr:∀x y z,L x y→L y z→L x z) (hn:n≤1000000) (hb:b≤n) (h0:a≤st) (g1:st≤m) (g2:m≤en) (hs:st+en=mid+m) (h1:st≤mid) (h1':a<mid) (h2:mid≤en) (h3:en≤b) (h4:mid<b) (k0:val tm (.t 0)= .sl t 0 n 1) (k1:val tm (.t 1)= .int .i64 a) (k2:val tm (.t 2)= .int .i64 m) (k3:val tm (.t 3)= .int .i64 b) (k4:val tm (.t 4)= .fn f caps) (k18:val tm (.t 18)= .int .i64 mid) (k20:val tm (.t 20)= .int .i64 st) (k24:val tm (.t 24)= .int .i64 en)
  (C0:Chg t h hp) (hP:P hp) (A:Rw hp t n d) (hv:∀k,k<n→d k<n) (sl:Sd L d a m) (sr:Sd L d m b) (cross:∀i j,a≤i→i<m→m≤j→j<b→d i<d j)
  (c1:st=a∨en=b∨L (d (st-1)) (d en)) (c2:st=m∨en=m∨L (d (en-1)) (d st)):
  Wp E2 (C.a275.code.post 9) ⟨tm,hp⟩ (RetQ [] (MrgP t n L d a b h)):=by
 obtain⟨p0,p1,p2,p3,p4⟩:=split tr h0 g1 g2 h3 hs sl sr c1 c2
 have pm:Pm d (rot d st m en) a b:=(rot_pm g1 g2).mono h0 h3
 have v1:∀i,i<st→rot d st m en i=d i:=fun i h=>by unfold rot;rw[if_neg (by omega),if_neg (by omega)]
 have v2:∀i,st≤i→i<mid→rot d st m en i=d (i+(m-st)):=fun i h h'=>by unfold rot;rw[if_pos ⟨h,by omega⟩]
 have v3:∀i,mid≤i→i<en→rot d st m en i=d (i-(en-m)):=fun i h h'=>by unfold rot;rw[if_neg (by omega),if_pos ⟨by omega,h'⟩]
 have v4:∀i,en≤i→rot d st m en i=d i:=fun i h=>by unfold rot;rw[if_neg (by omega),if_neg (by omega)]
 have cr1:∀i j,a≤i→i<st→st≤j→j<mid→rot d st m en i<rot d st m en j:=fun i j q1 q2 q3 q4=>by
  rw[v1 i q2,v2 j q3 q4];exact cross _ _ q1 (by omega) (by omega) (by omega)
 have cr2:∀i j,mid≤i→i<en→en≤j→j<b→rot d st m en i<rot d st m en j:=fun i j q1 q2 q3 q4=>by
  rw[v3 i q1 q2,v4 j q3];exact cross _ _ (by omega) (by omega) (by omega) q4
 have tail:=fun tm hp k0 k1 k3 k4 k18 k20 k24 C0 hP A=>sm3b (m:=m) (tm:=tm) (hp:=hp) (d:=d) (e:=rot d st m en) (h:=h) hst IH hn hb h0 h1 h1' h2 h3 h4 k0 k1 k3 k4 k18 k20 k24 C0 hP A (pm.val hb hv) pm p0 p1 p2 p3 cr1 cr2 p4
 refine Wp.cut 1 rfl ?_
 rw[show ACode.post 1 (ACode.post 9 C.a275.code)=ACode.post 10 C.a275.code from rfl]
 generalize ACode.post 10 C.a275.code=rest at tail⊢
 unfold C.a275
 dsimp only[ACode.post,ACode.pre]
 by_cases c:st<m∧m<en
 ·have d1:(st:Int)<m:=by omega
  have d2:(m:Int)<en:=by omega
  repeat' (with_reducible first|simp(disch:=first|exact okD|fail) only[go_sem,seval,k0,k1,k2,k3,k4,k18,k20,k24,d1,d2]|(apply Spl.i<;>intro hc))
  refine CallWp.mono (c304 A c.1 c.2 (by omega) hn) fun v h2' ⟨C2,A2⟩=>?_
  repeat' (with_reducible first|simp(disch:=first|exact okD|fail) only[go_sem,seval]|(apply Spl.i<;>intro hc))
  exact tail _ _ (by simp(disch:=first|exact okD|fail) only[go_sem,seval,k0]) (by simp(disch:=first|exact okD|fail) only[go_sem,seval,k1]) (by simp(disch:=first|exact okD|fail) only[go_sem,seval,k3]) (by simp(disch:=first|exact okD|fail) only[go_sem,seval,k4]) (by simp(disch:=first|exact okD|fail) only[go_sem,seval,k18]) (by simp(disch:=first|exact okD|fail) only[go_sem,seval,k20]) (by simp(disch:=first|exact okD|fail) only[go_sem,seval,k24]) (C0.trans C2) (hst _ _ hP C2) A2
 ·have A':Rw hp t n (rot d st m en):=A.congr fun k _=>by
   unfold rot
   by_cases c3:st<m
   ·have:en=m:=by omega
    subst this
    rw[if_neg (by omega)]
    split
    ·congr 1;omega
    ·rfl
   ·have:st=m:=by omega
    subst this
    split
    ·congr 1;omega
    ·rw[if_neg (by omega)]
  by_cases c1:st<m
  ·have d1:(st:Int)<m:=by omega
   have d2:¬(m:Int)<en:=by omega
   repeat' (with_reducible first|simp(disch:=first|exact okD|fail) only[go_sem,seval,k0,k1,k2,k3,k4,k18,k20,k24,d1,d2]|(apply Spl.i<;>intro hc))
   exact tail _ _ (by simp(disch:=first|exact okD|fail) only[go_sem,seval,k0]) (by simp(disch:=first|exact okD|fail) only[go_sem,seval,k1]) (by simp(disch:=first|exact okD|fail) only[go_sem,seval,k3]) (by simp(disch:=first|exact okD|fail) only[go_sem,seval,k4]) (by simp(disch:=first|exact okD|fail) only[go_sem,seval,k18]) (by simp(disch:=first|exact okD|fail) only[go_sem,seval,k20]) (by simp(disch:=first|exact okD|fail) only[go_sem,seval,k24]) C0 hP A'
  ·have d1:¬(st:Int)<m:=by omega
   repeat' (with_reducible first|simp(disch:=first|exact okD|fail) only[go_sem,seval,k0,k1,k2,k3,k4,k18,k20,k24,d1]|(apply Spl.i<;>intro hc))
   exact tail _ _ (by simp(disch:=first|exact okD|fail) only[go_sem,seval,k0]) (by simp(disch:=first|exact okD|fail) only[go_sem,seval,k1]) (by simp(disch:=first|exact okD|fail) only[go_sem,seval,k3]) (by simp(disch:=first|exact okD|fail) only[go_sem,seval,k4]) (by simp(disch:=first|exact okD|fail) only[go_sem,seval,k18]) (by simp(disch:=first|exact okD|fail) only[go_sem,seval,k20]) (by simp(disch:=first|exact okD|fail) only[go_sem,seval,k24]) C0 hP A'
theorem sm3l (Q:Cmp n f caps t P cz L) {a m b mid s0 r0:Nat} (IH:MrgI P f caps t n L (b-a)) (h1:a+1<m) (h2:m+1<b) (hb:b≤n) (hn:n≤1000000) (hm1:a<mid) (hm2:mid<b) (hsa:a≤s0) (hsr:s0≤r0) (hrm:r0≤m) (hrmid:r0≤mid) (hsb:mid+m≤b+s0) (hcase:(s0=a∧r0=m)∨(s0+b=mid+m∧r0=mid))
  (k0:val tm (.t 0)= .sl t 0 n 1) (k1:val tm (.t 1)= .int .i64 a) (k2:val tm (.t 2)= .int .i64 m) (k3:val tm (.t 3)= .int .i64 b) (k4:val tm (.t 4)= .fn f caps) (k18:val tm (.t 18)= .int .i64 mid) (k19:val tm (.t 19)= .int .i64 ((mid:Int)+m)) (k20:val tm (.t 20)= .int .i64 s0) (k21:val tm (.t 21)= .int .i64 r0) (k22:val tm (.t 22)= .int .i64 ((mid:Int)+m-1))
  (A:Rw h t n d) (hP:P h) (hv:∀k,k<n→d k<n) (sl:Sd L d a m) (sr:Sd L d m b) (cross:∀i j,a≤i→i<m→m≤j→j<b→d i<d j):
  Wp E2 (C.a275.code.post 7) ⟨tm,h⟩ (RetQ [] (MrgP t n L d a b h)):=by
 have tail:=fun tm hp st en g1 g2 hs h1 h2 h3 k0 k1 k2 k3 k4 k18 k20 k24 C0 hP A c1 c2 h0=>sm3a (tm:=tm) (hp:=hp) (d:=d) (h:=h) (st:=st) (en:=en) (mid:=mid) Q.st IH Q.tr hn hb h0 g1 g2 hs h1 hm1 h2 h3 hm2 k0 k1 k2 k3 k4 k18 k20 k24 C0 hP A hv sl sr cross c1 c2
 refine Wp.cut 2 rfl ?_
 rw[show ACode.post 2 (ACode.post 7 C.a275.code)=ACode.post 9 C.a275.code from rfl]
 generalize ACode.post 9 C.a275.code=rest at tail⊢
 unfold C.a275
 dsimp only[ACode.post,ACode.pre]
 repeat' (with_reducible first|simp(disch:=first|exact okD|fail) only[go_sem,seval]|(apply Spl.i<;>intro hc))
 refine Wp.loopI (fun mm s=>∃(i j:Nat),val s.tm (.t 0)= .sl t 0 n 1∧val s.tm (.t 1)= .int .i64 a∧val s.tm (.t 2)= .int .i64 m∧val s.tm (.t 3)= .int .i64 b∧val s.tm (.t 4)= .fn f caps∧val s.tm (.t 18)= .int .i64 mid∧val s.tm (.t 19)= .int .i64 ((mid:Int)+m)∧val s.tm (.t 22)= .int .i64 ((mid:Int)+m-1)∧val s.tm (.t 20)= .int .i64 i∧val s.tm (.t 21)= .int .i64 j∧
  Chg t h s.hp∧P s.hp∧Rw s.hp t n d∧s0≤i∧i≤j∧j≤r0∧(∀c,s0≤c→c<i→L (d c) (d (mid+m-1-c)))∧(∀c,j≤c→c<r0→L (d (mid+m-1-c)) (d c))∧j-i=mm) (n:=r0-s0) ?_ ?_
 ·exact⟨s0,r0,k0,k1,k2,k3,k4,k18,k19,k22,k20,k21,Chg.refl,hP,A,Nat.le_refl _,hsr,Nat.le_refl _,fun k p q=>by omega,fun k p q=>by omega,rfl⟩
 ·clear k0 k1 k2 k3 k4 k18 k19 k20 k21 k22 A hP
  rintro mm ⟨tm,hp⟩ ⟨i,j,k0,k1,k2,k3,k4,k18,k19,k22,k20,k21,C0,hp',A,hsi,hij,hjr,lo,hi,rfl⟩
  simp only at k0 k1 k2 k3 k4 k18 k19 k22 k20 k21 C0 hp' A
  have od:=A.old
  have lt:=AtS.lt A
  by_cases c:i<j
  ·have c':(i:Int)<j:=by omega
   have m1:i≤(i+j)/2:=by omega
   have m2:(i+j)/2<j:=by omega
   have bm:=b_mid (q:= .none) (i:=i) (j:=j)
   generalize (i+j)/2=g at *
   have eg:((mid:Int)+m-1-g).toNat=mid+m-1-g:=by omega
   have q1:m≤mid+m-1-g:=by omega
   have q2:mid+m-1-g<b:=by omega
   have q3:(0:Int)≤(mid:Int)+m-1-g∧(mid:Int)+m-1-g<n:=by omega
   have l1:=A.ld (i:=mid+m-1-g) (by omega)
   have l2:=A.ld (i:=g) (by omega)
   have cc:=fun K=>Q.call hp (d (mid+m-1-g)) (d g) K hp' (hv _ (by omega)) (hv g (by omega))
   have cr:=cross g (mid+m-1-g) (by omega) (by omega) q1 q2
   have cl:=Q.lt (d (mid+m-1-g)) (d g) cr
   by_cases c2:L (d (mid+m-1-g)) (d g)
   ·have c2':=cl.2 c2
    have hi':∀c,g≤c→c<r0→L (d (mid+m-1-c)) (d c):=fun k p q=>by
     rcases Nat.eq_or_lt_of_le p with e'|e'
     ·rw[←e'];exact c2
     ·exact Q.tr _ _ _ (sr _ _ (by omega) (show mid+m-1-k<mid+m-1-g by omega) q2) (Q.tr _ _ _ c2 (sl g k (by omega) e' (by omega)))
    generalize d (mid+m-1-g)=dp at *
    repeat' (with_reducible first|simp(disch:=first|exact okD|fail) only[go_sem,seval,k0,k1,k2,k3,k4,k18,k19,k22,k20,k21,c',bm,eg,l1,l2,od,cc,c2']|(apply Spl.i<;>intro hc))
    refine⟨_,?_,i,g,rfl,rfl,C0,hp',A,hsi,m1,by omega,lo,hi',rfl⟩
    omega
   ·have c2':¬cz (d (mid+m-1-g)) (d g)<0:=fun q=>c2 (cl.1 q)
    have gt:=(Q.gt (d (mid+m-1-g)) (d g) cr).1 c2
    have lo':∀c,s0≤c→c<g+1→L (d c) (d (mid+m-1-c)):=fun k p q=>by
     rcases Nat.eq_or_lt_of_le (show k≤g by omega)with e'|e'
     ·rw[e'];exact gt
     ·exact Q.tr _ _ _ (sl k g (by omega) e' (by omega)) (Q.tr _ _ _ gt (sr _ _ q1 (show mid+m-1-g<mid+m-1-k by omega) (by omega)))
    generalize d (mid+m-1-g)=dp at *
    repeat' (with_reducible first|simp(disch:=first|exact okD|fail) only[go_sem,seval,k0,k1,k2,k3,k4,k18,k19,k22,k20,k21,c',bm,eg,l1,l2,od,cc,c2']|(apply Spl.i<;>intro hc))
    refine⟨_,?_,g+1,j,rfl,rfl,C0,hp',A,by omega,by omega,hjr,lo',hi,rfl⟩
    omega
  ·have c':¬(i:Int)<j:=by omega
   obtain rfl:i=j:=by omega
   have en:(mid:Int)+m-i=((mid+m-i:Nat):Int):=by omega
   have f1:i=a∨mid+m-i=b∨L (d (i-1)) (d (mid+m-i)):=by
    by_cases c3:i=s0
    ·rcases hcase with⟨e1,_⟩|⟨e1,_⟩
     ·exact .inl (by omega)
     ·exact .inr (.inl (by omega))
    ·refine .inr (.inr ?_)
     have:=lo (i-1) (by omega) (by omega)
     rwa[show mid+m-1-(i-1)=mid+m-i by omega]at this
   have f2:i=m∨mid+m-i=m∨L (d (mid+m-i-1)) (d i):=by
    by_cases c3:i=r0
    ·rcases hcase with⟨_,e1⟩|⟨_,e1⟩
     ·exact .inl (by omega)
     ·exact .inr (.inl (by omega))
    ·refine .inr (.inr ?_)
     have:=hi i (Nat.le_refl _) (by omega)
     rwa[show mid+m-1-i=mid+m-i-1 by omega]at this
   repeat' (with_reducible first|simp(disch:=first|exact okD|fail) only[go_sem,seval,k0,k1,k2,k3,k4,k18,k19,k22,k20,k21,c',en]|(apply Spl.i<;>intro hc))
   exact tail _ _ i (mid+m-i) (by omega) (by omega) (by omega) (by omega) (by omega) (by omega) (by simp(disch:=first|exact okD|fail) only[go_sem,seval,k0]) (by simp(disch:=first|exact okD|fail) only[go_sem,seval,k1]) (by simp(disch:=first|exact okD|fail) only[go_sem,seval,k2]) (by simp(disch:=first|exact okD|fail) only[go_sem,seval,k3]) (by simp(disch:=first|exact okD|fail) only[go_sem,seval,k4]) (by simp(disch:=first|exact okD|fail) only[go_sem,seval,k18]) (by simp(disch:=first|exact okD|fail) only[go_sem,seval,k20]) (by simp(disch:=first|exact okD|fail) only[go_sem,seval]) C0 hp' A f1 f2 (by omega)
theorem sm3 (Q:Cmp n f caps t P cz L) {a m b:Nat} (IH:MrgI P f caps t n L (b-a)) (h1:a+1<m) (h2:m+1<b) (hb:b≤n) (hn:n≤1000000) (A:Rw h t n d) (hP:P h) (hv:∀k,k<n→d k<n) (sl:Sd L d a m) (sr:Sd L d m b) (cross:∀i j,a≤i→i<m→m≤j→j<b→d i<d j):
  CallWp E2 275 [.sl t 0 n 1,.int .i64 a,.int .i64 m,.int .i64 b,.fn f caps] h (MrgP t n L d a b h):=by
 refine CallWp.fn (fn:=C.a275) rfl rfl rfl ?_
 have e1:¬(m:Int)-a=1:=by omega
 have e2:¬(b:Int)-m=1:=by omega
 have bm:=b_mid (q:= .none) (i:=a) (j:=b)
 obtain⟨mid,hmid⟩:∃mid,(a+b)/2=mid:=⟨_,rfl⟩
 rw[hmid]at bm
 have hm1:a<mid:=by omega
 have hm2:mid<b:=by omega
 have q1:2*mid+1≥a+b:=by omega
 have q2:2*mid≤a+b:=by omega
 have tail:=fun tm s0 r0 hsa hsr hrm hrmid hsb hcase k0 k1 k2 k3 k4 k18 k19 k20 k21 k22=>sm3l (tm:=tm) (h:=h) (d:=d) (s0:=s0) (r0:=r0) (mid:=mid) Q IH h1 h2 hb hn hm1 hm2 hsa hsr hrm hrmid hsb hcase k0 k1 k2 k3 k4 k18 k19 k20 k21 k22 A hP hv sl sr cross
 refine Wp.cut 7 rfl ?_
 generalize ACode.post 7 C.a275.code=rest at tail⊢
 unfold C.a275
 dsimp only[ACode.pre]
 by_cases c:mid<m
 ·have c':(mid:Int)<m:=by omega
  have es:(mid:Int)+m-b=((mid+m-b:Nat):Int):=by omega
  repeat' (with_reducible first|simp(disch:=first|exact okD|fail) only[go_sem,seval,e1,e2,bm,c',es]|(apply Spl.i<;>intro hc))
  exact tail _ (mid+m-b) mid (by omega) (by omega) (by omega) (by omega) (by omega) (.inr ⟨by omega,rfl⟩) (by simp(disch:=first|exact okD|fail) only[go_sem,seval]) (by simp(disch:=first|exact okD|fail) only[go_sem,seval]) (by simp(disch:=first|exact okD|fail) only[go_sem,seval]) (by simp(disch:=first|exact okD|fail) only[go_sem,seval]) (by simp(disch:=first|exact okD|fail) only[go_sem,seval]) (by simp(disch:=first|exact okD|fail) only[go_sem,seval]) (by simp(disch:=first|exact okD|fail) only[go_sem,seval]) (by simp(disch:=first|exact okD|fail) only[go_sem,seval]) (by simp(disch:=first|exact okD|fail) only[go_sem,seval]) (by simp(disch:=first|exact okD|fail) only[go_sem,seval])
 ·have c':¬(mid:Int)<m:=by omega
  repeat' (with_reducible first|simp(disch:=first|exact okD|fail) only[go_sem,seval,e1,e2,bm,c']|(apply Spl.i<;>intro hc))
  exact tail _ a m (by omega) (by omega) (by omega) (by omega) (by omega) (.inl ⟨rfl,rfl⟩) (by simp(disch:=first|exact okD|fail) only[go_sem,seval]) (by simp(disch:=first|exact okD|fail) only[go_sem,seval]) (by simp(disch:=first|exact okD|fail) only[go_sem,seval]) (by simp(disch:=first|exact okD|fail) only[go_sem,seval]) (by simp(disch:=first|exact okD|fail) only[go_sem,seval]) (by simp(disch:=first|exact okD|fail) only[go_sem,seval]) (by simp(disch:=first|exact okD|fail) only[go_sem,seval]) (by simp(disch:=first|exact okD|fail) only[go_sem,seval]) (by simp(disch:=first|exact okD|fail) only[go_sem,seval]) (by simp(disch:=first|exact okD|fail) only[go_sem,seval])
theorem c275 (Q:Cmp n f caps t P cz L) (hn:n≤1000000):∀N,MrgI P f caps t n L N
 |0=>fun a m b d h h0=>absurd h0 (Nat.not_lt_zero _)
 | N + 1=>fun a m b d h h0 ham hmb hb A hP hv sl sr cross=>by
  by_cases c1:m=a+1
  ·subst c1
   exact sm1 Q (Nat.le_of_lt hmb) hb hn A hP hv sr (fun j p q=>cross a j (Nat.le_refl _) (by omega) p q)
  ·by_cases c2:b=m+1
   ·subst c2
    exact sm2 Q (by omega) hb hn A hP hv sl (fun i p q=>cross i m p q (Nat.le_refl _) (by omega))
   ·refine sm3 Q (fun a' m' b' d' h' q=>c275 Q hn N a' m' b' d' h' (by omega)) (by omega) (by omega) hb hn A hP hv sl sr cross
end
end
end Go.Ae
set_option linter.unusedVariables false
set_option linter.unusedSimpArgs false
set_option maxRecDepth 100000
set_option maxHeartbeats 4000000
namespace Go.Ae
open So Bg
noncomputable section
def Gd (L:Nat→Nat→Prop) (e:Nat→Nat) (a b:Nat):Prop:=Sd L e a b∧(∀i,a≤i→i<b→a≤e i∧e i<b)∧∀v,a≤v→v<b→∃i,a≤i∧i<b∧e i=v
def Ch (L:Nat→Nat→Prop) (e:Nat→Nat) (s a n:Nat):Prop:=∀k,a+k*s<n→Gd L e (a+k*s) (min (a+k*s+s) n)
def Dn (L:Nat→Nat→Prop) (e:Nat→Nat) (s a:Nat):Prop:=∀k,k*s+s≤a→Gd L e (k*s) (k*s+s)
section
variable {h h' hp:Hp} {K:AV→Hp→Prop} {tm:T AV} {n t f s a b m q:Nat} {d e e':Nat→Nat} {caps:List AV} {P:Hp→Prop} {cz:Nat→Nat→Int} {L:Nat→Nat→Prop}
theorem Gd.same (g:Gd L e a b) (h:∀k,a≤k→k<b→e' k=e k):Gd L e' a b:=by
 obtain⟨g1,g2,g3⟩:=g
 refine⟨g1.congr h,fun i p q=>by rw[h i p q];exact g2 i p q,fun v p q=>?_⟩
 obtain⟨i,a1,a2,a3⟩:=g3 v p q
 exact⟨i,a1,a2,by rw[h i a1 a2];exact a3⟩
theorem Gd.merge (g1:Gd L e a m) (g2:Gd L e m b) (h1:a≤m) (h2:m≤b) (p:Pm e e' a b) (s:Sd L e' a b):Gd L e' a b:=by
 have val:∀i,a≤i→i<b→a≤e i∧e i<b:=fun i p q=>by
  by_cases c:i<m
  ·have:=g1.2.1 i p c;omega
  ·have:=g2.2.1 i (by omega) q;omega
 refine⟨s,fun i q1 q2=>?_,fun v q1 q2=>?_⟩
 ·obtain⟨k',a1,a2,a3⟩:=p.fw i q1 q2
  rw[a3];exact val k' a1 a2
 ·obtain⟨i,a1,a2,a3⟩:∃i,a≤i∧i<b∧e i=v:=by
   by_cases c:v<m
   ·obtain⟨i,a1,a2,a3⟩:=g1.2.2 v q1 c;exact⟨i,a1,by omega,a3⟩
   ·obtain⟨i,a1,a2,a3⟩:=g2.2.2 v (by omega) q2;exact⟨i,by omega,a2,a3⟩
  obtain⟨k',b1,b2,b3⟩:=p.bw i a1 a2
  exact⟨k',b1,b2,b3.symm.trans a3⟩
theorem Gd.of_id (h:∀k,a≤k→k<b→e k=k) (p:Pm e e' a b) (s:Sd L e' a b):Gd L e' a b:=by
 refine⟨s,fun i q1 q2=>?_,fun v q1 q2=>?_⟩
 ·obtain⟨k',a1,a2,a3⟩:=p.fw i q1 q2
  rw[a3,h k' a1 a2];exact⟨a1,a2⟩
 ·obtain⟨k',b1,b2,b3⟩:=p.bw v q1 q2
  exact⟨k',b1,b2,b3.symm.trans (h v q1 q2)⟩
theorem Dn.same (D:Dn L e s a) (h:∀k,k<a→e' k=e k):Dn L e' s a:=fun k hk=>(D k hk).same fun j p q=>h j (by omega)
theorem Dn.next (D:Dn L e s a) (ha:a=q*s) (g:Gd L e a (a+s)):Dn L e s (a+s):=fun k hk=>by
 by_cases c:k*s+s≤a
 ·exact D k c
 ·have hq:k=q:=by
   rcases Nat.lt_trichotomy k q with l|l|l
   ·have:=Nat.mul_le_mul_right s (show k+1≤q by omega)
    rw[Nat.succ_mul]at this;omega
   ·exact l
   ·have:=Nat.mul_le_mul_right s (show q+1≤k by omega)
    rw[Nat.succ_mul]at this
    by_cases hs:s=0
    ·subst hs;omega
    ·omega
  subst hq
  rw[←ha];exact g
theorem Ch.skip (c:Ch L e s a n):Ch L e s (a+2*s) n:=fun k hk=>by
 have:=c (k+2)
 rw[show a+(k+2)*s=a+2*s+k*s by rw[Nat.add_mul];omega]at this
 exact this hk
theorem Ch.same (c:Ch L e s a n) (h:∀k,a≤k→k<n→e' k=e k):Ch L e' s a n:=fun k hk=>(c k hk).same fun j p q=>h j (by omega) (by omega)
theorem Ch.of (D:Dn L e s a) (ha:a=q*s) (hs:0<s) (h1:a≤n) (h2:n<a+s) (g:a<n→Gd L e a n):Ch L e s 0 n:=fun k hk=>by
 rw[Nat.zero_add]at hk⊢
 by_cases c:k*s+s≤a
 ·have:=D k c
  rwa[show min (k*s+s) n=k*s+s by omega]
 ·have hq:k=q:=by
   rcases Nat.lt_trichotomy k q with l|l|l
   ·have:=Nat.mul_le_mul_right s (show k+1≤q by omega)
    rw[Nat.succ_mul]at this;omega
   ·exact l
   ·have:=Nat.mul_le_mul_right s (show q+1≤k by omega)
    rw[Nat.succ_mul]at this;omega
  subst hq
  rw[←ha]at hk⊢
  rw[show min (a+s) n=n by omega];exact g hk
theorem c274e (hn:n≤1000000) (hb:b≤n) (hab:b≤a) (ha:a≤1000000):CallWp E2 274 [.sl t 0 n 1,.int .i64 a,.int .i64 b,.fn f caps] h fun _ h'=>h'=h:=by
 refine CallWp.fn (fn:=C.a274) rfl rfl rfl ?_
 unfold C.a274
 repeat' (with_reducible first|simp(disch:=first|exact okD|fail) only[go_sem,seval]|(apply Spl.i<;>intro hc))
 refine Wp.loopI (fun m s=>val s.tm (.t 8)= .int .i64 ((a+1:Nat):Int)∧val s.tm (.t 2)= .int .i64 b∧s.hp=h) (n:=0) ?_ ?_
 ·exact⟨by(simp(disch:=first|exact okD|fail) only[go_sem,seval])<;>rfl,by simp(disch:=first|exact okD|fail) only[go_sem,seval],rfl⟩
 ·rintro m ⟨tm,hp⟩ ⟨k8,k2,rfl⟩
  simp only at k8 k2
  have c:¬(((a+1:Nat):Int)<b):=by omega
  repeat' (with_reducible first|simp(disch:=first|exact okD|fail) only[go_sem,seval,k8,k2,c]|(apply Spl.i<;>intro hc))
theorem mrg (Q:Cmp n f caps t P cz L) (hn:n≤1000000) (h1:a<m) (h2:m<b) (hb:b≤n) (A:Rw h t n e) (hP:P h) (hv:∀k,k<n→e k<n) (g1:Gd L e a m) (g2:Gd L e m b):
  CallWp E2 275 [.sl t 0 n 1,.int .i64 a,.int .i64 m,.int .i64 b,.fn f caps] h fun _ h'=>Chg t h h'∧P h'∧∃e',Rw h' t n e'∧Pm e e' a b∧Gd L e' a b∧∀k,k<n→e' k<n:=by
 refine CallWp.mono (c275 Q hn (b-a+1) a m b e h (by omega) h1 h2 hb A hP hv g1.1 g2.1 fun i j p q r s=>?_) fun v h' ⟨C1,e',A',p,sd⟩=>⟨C1,Q.st _ _ hP C1,e',A',p,Gd.merge g1 g2 (by omega) (by omega) p sd,p.val hb hv⟩
 have:=g1.2.1 i p q
 have:=g2.2.1 j r s
 omega
end
end
end Go.Ae
set_option linter.unusedVariables false
set_option linter.unusedSimpArgs false
set_option maxRecDepth 100000
set_option maxHeartbeats 4000000
namespace Go.Ae
open So Bg
noncomputable section
section
variable {h h' hp:Hp} {K:AV→Hp→Prop} {tm:T AV} {n t f s a b m q:Nat} {d e e':Nat→Nat} {caps:List AV} {P:Hp→Prop} {cz:Nat→Nat→Int} {L:Nat→Nat→Prop}
theorem ch0 (c:Ch L e s a n) (ha:a<n):Gd L e a (min (a+s) n):=by
 have:=c 0
 rw[Nat.zero_mul,Nat.add_zero]at this
 exact this ha
theorem ch1 (c:Ch L e s a n) (ha:a+s<n):Gd L e (a+s) (min (a+s+s) n):=by
 have:=c 1
 rw[Nat.one_mul]at this
 exact this ha
theorem c213b (Q:Cmp n f caps t P cz L) (hn:n≤100000) (k0:val tm (.t 0)= .sl t 0 n 1) (k1:val tm (.t 1)= .int .i64 n) (k2:val tm (.t 2)= .fn f caps) (k6:val tm (.t 6)= .int .i64 20)
  (C0:Chg t h hp) (hP:P hp) (A:Rw hp t n e) (c20:Ch L e 20 0 n) (hv:∀k,k<n→e k<n):
  Wp E2 (C.a213.code.post 4) ⟨tm,hp⟩ (RetQ [] fun _ h'=>Chg t h h'∧P h'∧∃e',Rw h' t n e'∧Gd L e' 0 n):=by
 have hn':n≤1000000:=by omega
 unfold C.a213
 dsimp only[ACode.post]
 repeat' (with_reducible first|simp(disch:=first|exact okD|fail) only[go_sem,seval]|(apply Spl.i<;>intro hc))
 refine Wp.loopI (fun mm s=>∃(z:Nat) (e:Nat→Nat),val s.tm (.t 0)= .sl t 0 n 1∧val s.tm (.t 1)= .int .i64 n∧val s.tm (.t 2)= .fn f caps∧val s.tm (.t 6)= .int .i64 z∧
  Chg t h s.hp∧P s.hp∧Rw s.hp t n e∧Ch L e z 0 n∧(∀k,k<n→e k<n)∧0<z∧z≤200000∧n-z=mm) (n:=n-20) ?_ ?_
 ·exact⟨20,e,k0,k1,k2,k6,C0,hP,A,c20,hv,by omega,by omega,rfl⟩
 ·clear k0 k1 k2 k6 C0 hP A c20 hv
  rintro mm ⟨tm,hp⟩ ⟨z,e,k0,k1,k2,k6,C0,hP,A,cz',hv,hz,hz2,rfl⟩
  simp only at k0 k1 k2 k6 C0 hP A
  by_cases c:z<n
  ·have c' :(z:Int)<n:=by omega
   repeat' (with_reducible first|simp(disch:=first|exact okD|fail) only[go_sem,seval,k0,k1,k2,k6,c']|(apply Spl.i<;>intro hc))
   refine Wp.loopI (fun mm s=>∃(a q:Nat) (e:Nat→Nat),val s.tm (.t 0)= .sl t 0 n 1∧val s.tm (.t 1)= .int .i64 n∧val s.tm (.t 2)= .fn f caps∧val s.tm (.t 6)= .int .i64 z∧val s.tm (.t 7)= .int .i64 a∧val s.tm (.t 8)= .int .i64 ((a+2*z:Nat):Int)∧
    Chg t h s.hp∧P s.hp∧Rw s.hp t n e∧a=q*(2*z)∧Dn L e (2*z) a∧Ch L e z a n∧(∀k,k<n→e k<n)∧a≤n∧n-a=mm) (n:=n) ?_ ?_
   ·refine⟨0,0,e,by simp(disch:=first|exact okD|fail) only[go_sem,seval,k0],by simp(disch:=first|exact okD|fail) only[go_sem,seval,k1],by simp(disch:=first|exact okD|fail) only[go_sem,seval,k2],by simp(disch:=first|exact okD|fail) only[go_sem,seval,k6],by(simp(disch:=first|exact okD|fail) only[go_sem,seval])<;>rfl,?_,C0,hP,A,by omega,fun k hk=>by omega,cz',hv,Nat.zero_le _,rfl⟩
    simp(disch:=first|exact okD|fail) only[go_sem,seval,k6]
    exact congrArg (AV.int .i64) (by omega)
   ·clear k0 k1 k2 k6 C0 hP A cz' hv e
    rintro mm ⟨tm,hq⟩ ⟨a,q,e,k0,k1,k2,k6,k7,k8,C0,hP,A,haq,D,ch,hv,han,rfl⟩
    simp only at k0 k1 k2 k6 k7 k8 C0 hP A
    have es:(a:Int)+z=((a+z:Nat):Int):=by omega
    by_cases c2:a+2*z≤n
    ·have c2':((a+2*z:Nat):Int)≤n:=by omega
     have g1:=ch0 ch (by omega)
     have g2:=ch1 ch (by omega)
     rw[show min (a+z) n=a+z by omega]at g1
     rw[show min (a+z+z) n=a+2*z by omega]at g2
     have e8:((a+2*z:Nat):Int)+2*z=((a+2*z+2*z:Nat):Int):=by omega
     repeat' (with_reducible first|simp(disch:=first|exact okD|fail) only[go_sem,seval,k0,k1,k2,k6,k7,k8,c2',es]|(apply Spl.i<;>intro hc))
     refine CallWp.mono (mrg Q hn' (a:=a) (m:=a+z) (b:=a+2*z) (by omega) (by omega) c2 A hP hv g1 g2) fun v h2 ⟨C1,P1,e2,A2,p2,g,hv2⟩=>?_
     repeat' (with_reducible first|simp(disch:=first|exact okD|fail) only[go_sem,seval,k0,k1,k2,k6,k7,k8,e8]|(apply Spl.i<;>intro hc))
     exact⟨_,by omega,a+2*z,q+1,e2,rfl,rfl,C0.trans C1,P1,A2,by rw[Nat.add_mul q 1,Nat.one_mul];omega,(D.same fun k hk=>p2.out k (by omega)).next haq g,ch.skip.same fun k p q=>p2.out k (by omega),hv2,c2,rfl⟩
    ·have c2':¬((a+2*z:Nat):Int)≤n:=by omega
     have ez:(z:Int)*2=((2*z:Nat):Int):=by omega
     by_cases c3:a+z<n
     ·have c3':((a+z:Nat):Int)<n:=by omega
      have g1:=ch0 ch (by omega)
      have g2:=ch1 ch c3
      rw[show min (a+z) n=a+z by omega]at g1
      rw[show min (a+z+z) n=n by omega]at g2
      repeat' (with_reducible first|simp(disch:=first|exact okD|fail) only[go_sem,seval,k0,k1,k2,k6,k7,k8,c2',es,c3']|(apply Spl.i<;>intro hc))
      refine CallWp.mono (mrg Q hn' (a:=a) (m:=a+z) (b:=n) (by omega) c3 (Nat.le_refl _) A hP hv g1 g2) fun v h2 ⟨C1,P1,e2,A2,p2,g,hv2⟩=>?_
      repeat' (with_reducible first|simp(disch:=first|exact okD|fail) only[go_sem,seval,k0,k1,k2,k6,k7,k8,ez]|(apply Spl.i<;>intro hc))
      exact⟨_,by omega,2*z,e2,rfl,C0.trans C1,P1,A2,Ch.of (D.same fun k hk=>p2.out k (by omega)) haq (by omega) han (by omega) (fun _=>g),hv2,by omega,by omega,rfl⟩
     ·have c3':¬((a+z:Nat):Int)<n:=by omega
      repeat' (with_reducible first|simp(disch:=first|exact okD|fail) only[go_sem,seval,k0,k1,k2,k6,k7,k8,c2',es,c3',ez]|(apply Spl.i<;>intro hc))
      exact⟨_,by omega,2*z,e,rfl,C0,hP,A,Ch.of D haq (by omega) han (by omega) (fun q=>by
       have:=ch0 ch q
       rwa[show min (a+z) n=n by omega]at this),hv,by omega,by omega,rfl⟩
  ·have c':¬(z:Int)<n:=by omega
   repeat' (with_reducible first|simp(disch:=first|exact okD|fail) only[go_sem,seval,k0,k1,k2,k6,c']|(apply Spl.i<;>intro hc))
   refine⟨C0,hP,e,A,?_⟩
   by_cases c0:0<n
   ·have:=ch0 cz' c0
    rwa[show min (0+z) n=n by omega]at this
   ·exact⟨fun i j p q r=>by omega,fun i p q=>by omega,fun v p q=>by omega⟩
theorem c213 (Q:Cmp n f caps t P cz L) (hn:n≤100000) (A:Rw h t n e) (hP:P h) (hid:∀k,k<n→e k=k):
  CallWp E2 213 [.sl t 0 n 1,.int .i64 n,.fn f caps] h fun _ h'=>Chg t h h'∧P h'∧∃e',Rw h' t n e'∧Gd L e' 0 n:=by
 refine CallWp.fn (fn:=C.a213) rfl rfl rfl ?_
 have hn':n≤1000000:=by omega
 have tail:=fun tm hp e k0 k1 k2 k6 C0 hP A c20 hv=>c213b (tm:=tm) (hp:=hp) (h:=h) (e:=e) Q hn k0 k1 k2 k6 C0 hP A c20 hv
 refine Wp.cut 4 rfl ?_
 generalize ACode.post 4 C.a213.code=rest at tail⊢
 unfold C.a213
 dsimp only[ACode.pre]
 repeat' (with_reducible first|simp(disch:=first|exact okD|fail) only[go_sem,seval]|(apply Spl.i<;>intro hc))
 refine Wp.loopI (fun mm s=>∃(a q:Nat) (e:Nat→Nat),val s.tm (.t 0)= .sl t 0 n 1∧val s.tm (.t 1)= .int .i64 n∧val s.tm (.t 2)= .fn f caps∧val s.tm (.t 6)= .int .i64 20∧val s.tm (.t 7)= .int .i64 a∧val s.tm (.t 8)= .int .i64 ((a:Int)+20)∧
  Chg t h s.hp∧P s.hp∧Rw s.hp t n e∧a=q*20∧Dn L e 20 a∧(∀k,a≤k→k<n→e k=k)∧(∀k,k<n→e k<n)∧a≤n∧n-a=mm) (n:=n) ?_ ?_
 ·exact⟨0,0,e,by simp(disch:=first|exact okD|fail) only[go_sem,seval],by simp(disch:=first|exact okD|fail) only[go_sem,seval],by simp(disch:=first|exact okD|fail) only[go_sem,seval],by simp(disch:=first|exact okD|fail) only[go_sem,seval],by(simp(disch:=first|exact okD|fail) only[go_sem,seval])<;>rfl,by(simp(disch:=first|exact okD|fail) only[go_sem,seval])<;>rfl,Chg.refl,hP,A,rfl,fun k hk=>by omega,fun k _ hk=>hid k hk,fun k hk=>by rw[hid k hk];exact hk,Nat.zero_le _,rfl⟩
 ·clear A hP hid
  rintro mm ⟨tm,hp⟩ ⟨a,q,e,k0,k1,k2,k6,k7,k8,C0,hP,A,haq,D,hid,hv,han,rfl⟩
  simp only at k0 k1 k2 k6 k7 k8 C0 hP A
  by_cases c:a+20≤n
  ·have c':(a:Int)+20≤n:=by omega
   have eb:(a:Int)+20=((a+20:Nat):Int):=by omega
   rw[eb]at k8 c'
   repeat' (with_reducible first|simp(disch:=first|exact okD|fail) only[go_sem,seval,k0,k1,k2,k6,k7,k8,c']|(apply Spl.i<;>intro hc))
   refine CallWp.mono (c274 Q (a:=a) (b:=a+20) (by omega) c hn' A hP hv (fun i j p q r=>by rw[hid i p (by omega),hid j (by omega) (by omega)];exact q)) fun v h2 ⟨C1,e2,A2,p2,s2⟩=>?_
   have g:=Gd.of_id (fun k p q=>hid k p (by omega)) p2 s2
   repeat' (with_reducible first|simp(disch:=first|exact okD|fail) only[go_sem,seval,k0,k1,k2,k6,k7,k8]|(apply Spl.i<;>intro hc))
   exact⟨_,by omega,a+20,q+1,e2,rfl,rfl,C0.trans C1,Q.st _ _ hP C1,A2,by omega,(D.same fun k hk=>p2.out k (by omega)).next haq g,fun k p q=>by rw[p2.out k (by omega)];exact hid k (by omega) q,p2.val c hv,c,rfl⟩
  ·have c':¬(a:Int)+20≤n:=by omega
   repeat' (with_reducible first|simp(disch:=first|exact okD|fail) only[go_sem,seval,k0,k1,k2,k6,k7,k8,c']|(apply Spl.i<;>intro hc))
   by_cases c2:a<n
   ·refine CallWp.mono (c274 Q (a:=a) (b:=n) c2 (Nat.le_refl _) hn' A hP hv (fun i j p q r=>by rw[hid i p (by omega),hid j (by omega) r];exact q)) fun v h2 ⟨C1,e2,A2,p2,s2⟩=>?_
    have g:=Gd.of_id (fun k p q=>hid k p q) p2 s2
    have ch:=Ch.of (D.same fun k hk=>p2.out k (by omega)) haq (by decide) han (by omega) (fun _=>g)
    repeat' (with_reducible first|simp(disch:=first|exact okD|fail) only[go_sem,seval]|(apply Spl.i<;>intro hc))
    exact tail _ _ e2 (by simp(disch:=first|exact okD|fail) only[go_sem,seval,k0]) (by simp(disch:=first|exact okD|fail) only[go_sem,seval,k1]) (by simp(disch:=first|exact okD|fail) only[go_sem,seval,k2]) (by simp(disch:=first|exact okD|fail) only[go_sem,seval,k6]) (C0.trans C1) (Q.st _ _ hP C1) A2 ch (p2.val (Nat.le_refl _) hv)
   ·refine CallWp.mono (c274e hn' (Nat.le_refl _) (by omega) (by omega)) fun v h2 e2=>?_
    subst e2
    have ch:Ch L e 20 0 n:=Ch.of D haq (by decide) han (by omega) (fun q=>absurd q c2)
    repeat' (with_reducible first|simp(disch:=first|exact okD|fail) only[go_sem,seval]|(apply Spl.i<;>intro hc))
    exact tail _ _ e (by simp(disch:=first|exact okD|fail) only[go_sem,seval,k0]) (by simp(disch:=first|exact okD|fail) only[go_sem,seval,k1]) (by simp(disch:=first|exact okD|fail) only[go_sem,seval,k2]) (by simp(disch:=first|exact okD|fail) only[go_sem,seval,k6]) C0 hP A ch hv
end
end
end Go.Ae
set_option linter.unusedVariables false
set_option linter.unusedSimpArgs false
set_option maxRecDepth 100000
namespace Go.Ae
open N Go.Proofs
structure Tk where
 d:List UInt8
 n:Int
 p:Bool
 t:Int
 z:Int
abbrev tkL (d:List UInt8) (n:Int) (p:Bool) (t z:Int):List AV:=[.str d,.int .i64 n,.bool p,.int .i64 t,.int .i64 z]
def Tk.l (k:Tk):List AV:=tkL k.d k.n k.p k.t k.z
abbrev leadW:List UInt8:=[108,101,97,100]
abbrev boulW:List UInt8:=[98,111,117,108,100,101,114]
def leadE (n:Int) (p:Bool) (t z:Int):Int:=if n<0∨64<n∨t<0∨1<t∨z≠0 then 3 else if t=1∧(p=true∨n≠0)then 1 else 0
def boulE (n:Int) (p:Bool) (t z:Int):Int:=if n≠0∨t<0∨99<t∨z<0∨99<z then 3 else if p=true∨(0<t∧(z=0∨t<z))then 1 else 0
def chkE (d:List UInt8) (n:Int) (p:Bool) (t z:Int):Int:=if d=leadW then leadE n p t z else if d=boulW then boulE n p t z else 13
def leadS (n:Int) (p:Bool) (t:Int):List UInt8:=if t=1 then[84,79,80]else if p=true then decP n.toNat 1++[43]else decP n.toNat 1
def attS (c:UInt8) (n:Int):List UInt8:=if n=0 then[45]else c::decP n.toNat 1
def boulS (t z:Int):List UInt8:=attS 84 t++[32]++attS 90 z
def txtS (d:List UInt8) (n:Int) (p:Bool) (t z:Int):List UInt8:=if d=leadW then leadS n p t else boulS t z
section
variable {h:Hp} {K:AV→Hp→Prop}
theorem c131b {b:Bool} {e:Int}:CallWp E2 131 [.bool b,.int .i64 e] h K↔K (.int .i64 (if b=true then e else 0)) h:=by
 refine CallWp.iff_of (CallWp.fn (fn:=C.a131) rfl rfl rfl ?_)
 unfold C.a131
 cases b
 ·repeat' (with_reducible first|simp(disch:=first|exact okD|fail) only[go_sem,seval]|(apply Spl.i<;>intro hc))
 ·repeat' (with_reducible first|simp(disch:=first|exact okD|fail) only[go_sem,seval]|(apply Spl.i<;>intro hc))
theorem c131 {p:Prop} {_:Decidable p} {e:Int}:CallWp E2 131 [.bool (decide p),.int .i64 e] h K↔K (.int .i64 (if p then e else 0)) h:=by
 rw[c131b]
 by_cases hp:p
 ·rw[decide_eq_true hp,if_pos hp,if_pos rfl]
 ·rw[decide_eq_false hp,if_neg hp,if_neg (by decide)]
theorem c131t {e:Int}:CallWp E2 131 [.bool true,.int .i64 e] h K↔K (.int .i64 e) h:=c131b
theorem c131f {e:Int}:CallWp E2 131 [.bool false,.int .i64 e] h K↔K (.int .i64 0) h:=c131b
def first2 (a b:Int):Int:=if a=0 then b else a
def first4 (a b c d:Int):Int:=if a=0 then(if b=0 then(if c=0 then d else c)else b)else a
theorem c130_2 {t st:Nat} {own:Bool} {a b:Int} (hg:h.get t=some (.row [.int .i64 a,.int .i64 b] own st)) (ht:t<h.next):Gv E2 130 [.sl t 0 2 1] h (.int .i64 (first2 a b)):=by
 refine Gv.of (CallWp.fn (fn:=C.a130) rfl rfl rfl ?_)
 unfold C.a130
 by_cases ha:a=0
 ·by_cases hb:b=0
  ·repeat' (with_reducible first|simp(disch:=first|exact okD|fail) only[go_sem,seval,Wp.unroll,hg,ha,hb]|(apply Spl.i<;>intro hc))
   simp[first2]
  ·repeat' (with_reducible first|simp(disch:=first|exact okD|fail) only[go_sem,seval,Wp.unroll,hg,ha,hb]|(apply Spl.i<;>intro hc))
   simp[first2]
 ·repeat' (with_reducible first|simp(disch:=first|exact okD|fail) only[go_sem,seval,Wp.unroll,hg,ha]|(apply Spl.i<;>intro hc))
  simp[first2,ha]
theorem c130_4 {t st:Nat} {own:Bool} {a b c d:Int} (hg:h.get t=some (.row [.int .i64 a,.int .i64 b,.int .i64 c,.int .i64 d] own st)) (ht:t<h.next):Gv E2 130 [.sl t 0 4 1] h (.int .i64 (first4 a b c d)):=by
 refine Gv.of (CallWp.fn (fn:=C.a130) rfl rfl rfl ?_)
 unfold C.a130
 by_cases ha:a=0
 ·by_cases hb:b=0
  ·by_cases hc:c=0
   ·by_cases hd:d=0
    ·repeat' (with_reducible first|simp(disch:=first|exact okD|fail) only[go_sem,seval,Wp.unroll,hg,ha,hb,hc,hd]|(apply Spl.i<;>intro hc))
     simp[first4]
    ·repeat' (with_reducible first|simp(disch:=first|exact okD|fail) only[go_sem,seval,Wp.unroll,hg,ha,hb,hc,hd]|(apply Spl.i<;>intro hc))
     simp[first4]
   ·repeat' (with_reducible first|simp(disch:=first|exact okD|fail) only[go_sem,seval,Wp.unroll,hg,ha,hb,hc]|(apply Spl.i<;>intro hc))
    simp[first4,hc]
  ·repeat' (with_reducible first|simp(disch:=first|exact okD|fail) only[go_sem,seval,Wp.unroll,hg,ha,hb]|(apply Spl.i<;>intro hc))
   simp[first4,hb]
 ·repeat' (with_reducible first|simp(disch:=first|exact okD|fail) only[go_sem,seval,Wp.unroll,hg,ha]|(apply Spl.i<;>intro hc))
  simp[first4,ha]
end
end Go.Ae
set_option linter.unusedVariables false
set_option linter.unusedSimpArgs false
set_option maxRecDepth 100000
namespace Go.Ae
open N Go.Proofs
structure Grew (h h':Hp):Prop where
 next:h.next≤h'.next
 get:∀t,t<h.next→h'.get t=h.get t
theorem Grew.refl (h:Hp):Grew h h:=⟨Nat.le_refl _,fun _ _=>rfl⟩
theorem Grew.trans {a b c:Hp} (x:Grew a b) (y:Grew b c):Grew a c:=⟨Nat.le_trans x.1 y.1,fun t ht=>(y.2 t (Nat.lt_of_lt_of_le ht x.1)).trans (x.2 t ht)⟩
theorem Grew.push (h:Hp) (f:Nat→AObj):Grew h (h.push f):=⟨Nat.le_succ _,fun t ht=>Hp.push_other (by omega)⟩
theorem Grew.put {h0 h:Hp} (g:Grew h0 h) {t:Nat} (f:Nat→AObj) (ht:h0.next≤t):Grew h0 (h.put t f):=⟨g.1,fun u hu=>(Hp.put_other (by omega)).trans (g.2 u hu)⟩
def Own (h0 h:Hp) (v:AV) (cs:List AV):Prop:=
 (v= .nils∧cs=[])∨∃t st,v= .sl t 0 cs.length 1∧h.get t=some (.row cs true st)∧h0.next≤t∧t<h.next
theorem Own.nil (h0 h:Hp):Own h0 h .nils []:= .inl ⟨rfl,rfl⟩
theorem Own.append {h0 h:Hp} {v x:AV} {cs:List AV} {by_:Nat} (G:Grew h0 h) (O:Own h0 h v cs) (hl:(cs.length+1)*by_≤140737488355328) (hl2:cs.length+1≤140737488355328):
  ∃v' h',appA (h.push fun st=> .row [x] true st) 1 by_ v (.sl h.next 0 1 1)=some (v',h')∧Grew h0 h'∧Own h0 h' v' (cs++[x]):=by
 have hc:cellsOf (h.push fun st=> .row [x] true st) 1 (.sl h.next 0 1 1)=some [x]:=by
  simp only[cellsOf,Hp.push_same]
  rw[if_pos ⟨trivial,by simp⟩];rfl
 rcases O with⟨rfl,rfl⟩|⟨t,st,rfl,hg,h1,h2⟩
 ·refine⟨.sl (h.next+1) 0 1 1,(h.push fun st=> .row [x] true st).push fun st=> .row [x] true st,?_,(G.trans (Grew.push h _)).trans (Grew.push _ _),.inr ⟨h.next+1,(h.push fun st=> .row [x] true st).clk+1,rfl,Hp.push_same,?_,?_⟩⟩
  ·unfold appA
   rw[hc]
   simp only[lenA]
   rw[if_pos ⟨by simpa using hl,by omega,by decide⟩]
   rfl
  ·have:=G.1;omega
  ·show h.next+1<h.next+1+1;omega
 ·have hgt:(h.push fun st=> .row [x] true st).get t=some (.row cs true st):=(Hp.push_other (by omega)).trans hg
  refine⟨.sl (h.next+1) 0 (cs.length+1) 1,((h.push fun st=> .row [x] true st).put t fun s=> .dead s).push fun st=> .row (cs++[x]) true st,?_,((G.trans (Grew.push h _)).put _ h1).trans (Grew.push _ _),.inr ⟨h.next+1,((h.push fun st=> .row [x] true st).put t fun s=> .dead s).clk+1,by simp,Hp.push_same,?_,?_⟩⟩
  ·unfold appA
   rw[hc]
   simp only[lenA]
   rw[hgt]
   simp only
   rw[if_pos ⟨trivial,by simp,by simpa using hl,by simpa using hl2⟩]
   simp[Hp.push_next]
  ·have:=G.1;omega
  ·show h.next+1<h.next+1+1;omega
def Bs1 (v:AV) (h:Hp) (K:AV→Hp→Prop):Prop:=v.cells.length=1∧v.cells.all AV.one=true∧K (.sl h.next 0 1 1) (h.push fun st=> .row v.cells true st)
section
variable {E:Env} {s:St} {h:Hp} {K:AV→Hp→Prop}
theorem Bs1.str {l:List UInt8}:Bs1 (.str l) h K↔K (.sl h.next 0 1 1) (h.push fun st=> .row [.str l] true st):=by simp[Bs1,AV.cells,AV.one]
theorem Bs1.int {k:IntKind} {n:Int}:Bs1 (.int k n) h K↔K (.sl h.next 0 1 1) (h.push fun st=> .row [.int k n] true st):=by simp[Bs1,AV.cells,AV.one]
end
section
variable {h:Hp} {K:AV→Hp→Prop}
end
end Go.Ae
set_option linter.unusedVariables false
set_option linter.unusedSimpArgs false
set_option maxRecDepth 100000
namespace Go.Ae
open N Go.Proofs
def Tk.e (k:Tk):Int:=chkE k.d k.n k.p k.t k.z
def headD (l:List Tk):List UInt8:=match l with|[]=>[]|k::_=>k.d
section
variable {h:Hp} {K:AV→Hp→Prop}
theorem f223 {s:List UInt8} (hs:s.length≤9223372036854775807):CallWp E2 223 [.str s,.str [48,49,50,51,52,53,54,55,56,57]] h K↔K (.str (Lib.trimS s L.tenDigits)) h:=by
 rw[CallWp.prim_iff (p:=L.p223) rfl rfl]
 have:L.p223 [.str s,.str [48,49,50,51,52,53,54,55,56,57]] h=some (.str (Lib.trimS s L.tenDigits),h):=if_pos ⟨rfl,hs⟩
 rw[this];exact Iff.rfl
theorem f224 {s:List UInt8} (hd:allDig s=true) (h0:¬s=[]) (hs:s.length≤18):CallWp E2 224 [.str s] h K↔K (.tup [.int .i64 (decV s),.nili]) h:=by
 rw[CallWp.prim_iff (p:=L.p224) rfl rfl]
 have:L.p224 [.str s] h=some (.tup [.int .i64 (decV s),.nili],h):=by
  simp only[L.p224,if_pos hs,atoi_eq hd h0]
 rw[this];exact Iff.rfl
theorem f189 {s:List UInt8} (hs:s.length≤9223372036854775807):CallWp E2 189 [.str s] h K↔K (.bool (isDec s)) h:=by
 refine CallWp.iff_of (CallWp.fn (fn:=C.a189) rfl rfl rfl ?_)
 unfold C.a189
 cases s with
 | nil=>
  repeat' (with_reducible first|simp(disch:=first|exact okD|fail) only[go_sem,seval,f223,trim_nil]|(apply Spl.i<;>intro hc))
  all_goals simp[isDec]
 | cons b r=>
  have h0:¬(b::r)=[]:=by simp
  have hb:(b.toNat:Int)=48↔b=48:=by
   constructor
   ·intro e;exact UInt8.toNat_inj.1 (by simpa using Int.ofNat.inj e)
   ·rintro rfl;rfl
  repeat' (with_reducible first|simp(disch:=first|exact okD|fail) only[go_sem,seval,f223,trim_nil,Int.toNat_zero,List.getD_cons_zero,hb]|(apply Spl.i<;>intro hc))
  all_goals simp_all [isDec]
theorem f226 {s:List UInt8} (hs:s.length≤9223372036854775807):CallWp E2 226 [.str s] h K↔K (.tup [.int .i64 (intV s).1,.bool (intV s).2]) h:=by
 refine CallWp.iff_of (CallWp.fn (fn:=C.a226) rfl rfl rfl ?_)
 unfold C.a226
 have key:isDec s=true→¬s=[]∧allDig s=true:=by
  unfold isDec;simp only[Bool.and_eq_true,decide_eq_true_eq];exact fun e=>e.1
 cases hd:isDec s with
 | true=>
  obtain⟨h0,h1⟩:=key hd
  repeat' (with_reducible first|simp(disch:=first|exact okD|fail) only[go_sem,seval,f189,hd,f224]|(apply Spl.i<;>intro hc))
  ·simp[intV,hd,show ¬s.length≤9 by omega]
  ·simp[intV,hd,show s.length≤9 by omega]
 | false=>
  repeat' (with_reducible first|simp(disch:=first|exact okD|fail) only[go_sem,seval,f189,hd,f224]|(apply Spl.i<;>intro hc))
  all_goals simp[intV,hd]
end
end Go.Ae
set_option linter.unusedVariables false
set_option linter.unusedSimpArgs false
set_option maxRecDepth 100000
namespace Go.Ae
open N Go.Proofs
def Tk.s (k:Tk):List UInt8:=txtS k.d k.n k.p k.t k.z
section
variable {h:Hp} {K:AV→Hp→Prop}
end
end Go.Ae
set_option maxRecDepth 100000
namespace Go.Ae.R
open AOp Opd C
def a20:AFn:=⟨7,[.tmp 4],(q [vi 4 0]
 (.seq (q [v 5 0]
 (k 5 (q [v 6 1,v 4 6]
 .ret)))
 (q [vi 4 0]
 .ret)))⟩
def a25:AFn:=⟨19,[.tmp 2],(q [vi 2 0]
 (.seq (q [vi 3 0]
 (.block 0 (.loop (.seq (q [v 4 3,v 5 0,ln 6 5,bt 7 .lss 4 6]
 (.cond (.t 7) .skip
 (.exit 0)))
 (.seq (.block 1 (q [v 10 0,v 11 3,ix 12 1 10 11,l 13 false 1 12,bi 14 .neq 13 0]
 (k 14 (q [v 15 0,v 16 3,ix 17 1 15 16,l 18 false 1 17,v 2 18]
 .ret))))
 (.reg [v 8 3,bi 9 .add 8 1,v 3 9]))))))
 (q [vi 2 0]
 .ret)))⟩
def a26:AFn:=⟨37,[.tmp 2],(q [vi 2 0]
 (.seq (q [v 5 0,ln 6 5,bi 7 .eql 6 0]
 (k 7 (q [vi 2 12]
 .ret)))
 (.seq (q [v 8 0,ln 9 8,bi 10 .gtr 9 256]
 (k 10 (q [vi 2 5]
 .ret)))
 (q [vi 3 0]
 (.seq (q [vi 4 0]
 (.block 0 (.loop (.seq (q [v 11 4,v 12 0,ln 13 12,bt 14 .lss 11 13]
 (.cond (.t 14) .skip
 (.exit 0)))
 (.seq (.block 1 (.seq (q [v 17 0,v 18 4,ix 19 1 17 18,l 20 false 1 19,bi 21 .lss 20 0,v 22 21,g 23 (m 0) 22 false,g 24 (m 4) 22 false,g 25 (.iadr 1 (.t 23) (.t 24)) 22 false,gl 26 false 1 25 22 false,gb 27 .gtr (.t 26) (i 999999999) 22 false,pt 28 22 27]
 (k 28 (q [vi 2 3]
 .ret)))
 (.reg [v 29 3,v 30 0,v 31 4,ix 32 1 30 31,l 33 false 1 32,bt 34 .add 29 33,v 3 34])))
 (.reg [v 15 4,bi 16 .add 15 1,v 4 16]))))))
 (.seq (q [v 35 3,bi 36 .eql 35 0]
 (k 36 (q [vi 2 6]
 .ret)))
 (q [vi 2 0]
 .ret)))))))⟩
def tab:T AFn:=(.node (.node .nil none (.node (.node .nil none (.node .nil (some a25) .nil)) none .nil)) none (.node (.node .nil none (.node (.node .nil (some a20) .nil) none .nil)) none (.node (.node .nil none (.node .nil (some a26) .nil)) none .nil)))
section
open Go.Proofs
theorem b20:Chk 20 a20:=by unfold Chk;kernel_rfl
theorem b25:Chk 25 a25:=by unfold Chk;kernel_rfl
theorem b26:Chk 26 a26:=by unfold Chk;kernel_rfl
theorem all:T.Forall Chk tab (fun n=>n):=⟨C.no,⟨C.no,trivial,⟨C.no,⟨C.no,trivial,⟨C.yes b25,trivial,trivial⟩⟩,trivial⟩⟩,⟨C.no,⟨C.no,trivial,⟨C.no,⟨C.yes b20,trivial,trivial⟩,trivial⟩⟩,⟨C.no,⟨C.no,trivial,⟨C.yes b26,trivial,trivial⟩⟩,trivial⟩⟩⟩
theorem good (n:Nat) (a:AFn) (h:tab.get n=some a):chk Tryz.prog n=some a:=T.get_forall tab (fun n=>n) all n a h
end
end Go.Ae.R
set_option linter.unusedVariables false
set_option linter.unusedSimpArgs false
set_option maxRecDepth 100000
namespace Go.Ae
open Go.Proofs
noncomputable def E3:Env:=E2.add R.tab
theorem ge3:Ge E2 E3:=Ge.add _ _
section
variable {h:Hp} {K:AV→Hp→Prop}
def okP (x y z:Int):Prop:= -100000≤x∧x≤100000∧-100000≤y∧y≤100000∧-100000≤z∧z≤100000
instance {x y z:Int}:Decidable (okP x y z):=by unfold okP;infer_instance
end
end Go.Ae
set_option maxRecDepth 100000
namespace Go.Ae.T
open AOp Opd C
def tab:T AFn:= .nil
section
open Go.Proofs
theorem all:T.Forall Chk tab (fun n=>n):=trivial
theorem good (n:Nat) (a:AFn) (h:tab.get n=some a):chk Tryz.prog n=some a:=T.get_forall tab (fun n=>n) all n a h
end
end Go.Ae.T
set_option linter.unusedVariables false
set_option linter.unusedSimpArgs false
set_option maxRecDepth 100000
namespace Go.Ae
open N Go.Proofs
structure Rz (z:Nat) (h:Hp) (v:AV) (n:Nat) (cs:List AV):Prop where
 len:lenK .slice v=some (.int .i64 n)
 adr:∀(k:IntKind) (i:Int),0≤i∧i<n→iadrK z v (.int k i)=some (.ptr (v.tok) (i.toNat*z))
 get:n≠0→∃own st,h.get v.tok=some (.row cs own st)∧v.tok<h.next∧st≤h.clk
section
variable {h:Hp} {K:AV→Hp→Prop}
theorem RowS.rz {z:Nat} {v:AV} {n:Nat} {cs:List AV} (s:RowS z h v n cs):Rz z h v n cs:=by
 obtain⟨hlen,⟨rfl,rfl⟩|⟨t,own,st,rfl,hg,ht,hst⟩⟩:=s
 ·exact⟨rfl,fun k i hi=>by omega,fun e=>absurd rfl e⟩
 ·refine⟨rfl,fun k i hi=>?_,fun _=>⟨own,st,hg,ht,hst⟩⟩
  rw[iadrK_sl hi,Nat.zero_add];rfl
end
end Go.Ae
set_option linter.unusedVariables false
set_option linter.unusedSimpArgs false
set_option maxRecDepth 100000
set_option maxHeartbeats 4000000
namespace Go.Ae
open So Bg
noncomputable section
def badW (x:Int):Prop:=x<0∨999999999<x
instance {x:Int}:Decidable (badW x):=by unfold badW;infer_instance
def wErr (w:List Int):Int:=if w.length=0 then 12 else if 256<w.length then 5 else if ∃x∈w,badW x then 3 else if ∃x∈w,x≠0 then 0 else 6
def tErr (T:Int):Int:=if badW T then 3 else 0
theorem wErr_zero {w:List Int} (h:wErr w=0):0<w.length∧w.length≤256∧(∀x∈w,0≤x∧x≤999999999)∧∃x∈w,x≠0:=by
 unfold wErr at h
 by_cases c1:w.length=0
 ·rw[if_pos c1]at h;omega
 rw[if_neg c1]at h
 by_cases c2:256<w.length
 ·rw[if_pos c2]at h;omega
 rw[if_neg c2]at h
 by_cases c3:∃x∈w,badW x
 ·rw[if_pos c3]at h;omega
 rw[if_neg c3]at h
 by_cases c4:∃x∈w,x≠0
 ·refine⟨by omega,by omega,fun x hx=>?_,c4⟩
  have:¬badW x:=fun b=>c3 ⟨x,hx,b⟩
  unfold badW at this;omega
 ·rw[if_neg c4]at h;omega
section
variable {h h' hp:Hp} {K:AV→Hp→Prop} {tm:T AV} {n t f s a b m q:Nat} {d e e':Nat→Nat} {v:AV} {w:List Int}
theorem RowS.ldI (hS:RowS 1 h v w.length (w.map (AV.int .i64))) {i:Nat} (hi:i<w.length):∀h' K,LoadR false 1 i (h.get v.tok) h' K↔K (.int .i64 (w.getD i 0)) h':=by
 obtain⟨own,st,hg,ht,hst⟩:=hS.rz.get (by omega)
 intro h' K
 rw[hg,LoadR.row,if_pos (by rw[List.length_map];omega),if_neg (by decide),List.getElem?_map,List.getElem?_eq_getElem hi,List.getD_eq_getElem?_getD,List.getElem?_eq_getElem hi]
 exact Iff.rfl
theorem RowS.oldI (hS:RowS 1 h v w.length (w.map (AV.int .i64))) (hi:0<w.length):∀c0,h.clk≤c0→OldR (h.get v.tok) c0=true:=by
 obtain⟨own,st,hg,ht,hst⟩:=hS.rz.get (by omega)
 intro c0 hc
 rw[hg];exact OldR.row (Nat.le_trans hst hc)
theorem c273 {f:Nat} {p:Int→Prop} {_:∀x,Decidable (p x)} (hS:RowS 1 h v w.length (w.map (AV.int .i64))) (hl:w.length≤1000000)
  (hf:∀(h:Hp) (x:Int) (K:AV→Hp→Prop),CallWp E2 f [.int .i64 x] h K↔K (.bool (decide (p x))) h):
  CallWp E2 273 [v,.fn f []] h fun r h'=>h'=h∧∃z:Int,r= .int .i64 z∧(0≤z↔∃x∈w,p x):=by
 refine CallWp.fn (fn:=C.a273) rfl rfl rfl ?_
 unfold C.a273
 have rz:=hS.rz
 have ln:=rz.len
 have ad:=rz.adr
 repeat' (with_reducible first|simp(disch:=first|exact okD|fail) only[go_sem,seval,ln]|(apply Spl.i<;>intro hc))
 refine Wp.loopI (fun m s=>∃(i:Nat),val s.tm (.t 0)=v∧val s.tm (.t 1)= .fn f []∧val s.tm (.t 7)= .int .i64 w.length∧val s.tm (.t 8)= .int .i64 i∧
  s.hp=h∧i≤w.length∧(∀x∈w.take i,¬p x)∧w.length-i=m) (n:=w.length) ?_ ?_
 ·exact⟨0,by simp(disch:=first|exact okD|fail) only[go_sem,seval],by simp(disch:=first|exact okD|fail) only[go_sem,seval],by simp(disch:=first|exact okD|fail) only[go_sem,seval,ln],by(simp(disch:=first|exact okD|fail) only[go_sem,seval])<;>rfl,rfl,Nat.zero_le _,by simp,rfl⟩
 ·rintro m ⟨tm,hp⟩ ⟨i,k0,k1,k7,k8,rfl,hle,hok,rfl⟩
  simp only at k0 k1 k7 k8
  by_cases hlt:i<w.length
  ·have hlt':(i:Int)<w.length:=by omega
   have ld:=hS.ldI hlt
   have hx:w.getD i 0=w[i]:=by rw[List.getD_eq_getElem?_getD,List.getElem?_eq_getElem hlt];rfl
   have mem:w.getD i 0∈w:=by rw[hx];exact List.getElem_mem hlt
   have htk:w.take (i+1)=w.take i++[w.getD i 0]:=by rw[hx,List.take_add_one];simp[hlt]
   generalize w.getD i 0=x at *
   by_cases c:p x
   ·have cd:decide (p x)=true:=decide_eq_true c
    repeat' (with_reducible first|simp(disch:=first|exact okD|fail) only[go_sem,seval,k0,k1,k7,k8,hlt',ad,ld,hf,cd]|(apply Spl.i<;>intro hc))
    exact⟨_,rfl,fun _=>⟨x,mem,c⟩,fun _=>by omega⟩
   ·have cd:decide (p x)=false:=decide_eq_false c
    repeat' (with_reducible first|simp(disch:=first|exact okD|fail) only[go_sem,seval,k0,k1,k7,k8,hlt',ad,ld,hf,cd]|(apply Spl.i<;>intro hc))
    refine⟨_,by omega,i+1,rfl,hlt,?_,rfl⟩
    intro y hy
    rw[htk,List.mem_append]at hy
    rcases hy with hy|hy
    ·exact hok y hy
    ·simp only[List.mem_singleton]at hy;subst hy;exact c
  ·have hlt':¬(i:Int)<w.length:=by omega
   obtain rfl:i=w.length:=by omega
   rw[List.take_length]at hok
   repeat' (with_reducible first|simp(disch:=first|exact okD|fail) only[go_sem,seval,k0,k1,k7,k8,hlt']|(apply Spl.i<;>intro hc))
   exact⟨_,rfl,by omega,fun⟨x,hx,c⟩=>absurd c (hok x hx)⟩
theorem c210 {f:Nat} {p:Int→Prop} {_:∀x,Decidable (p x)} (hS:RowS 1 h v w.length (w.map (AV.int .i64))) (hl:w.length≤1000000)
  (hf:∀(h:Hp) (x:Int) (K:AV→Hp→Prop),CallWp E2 f [.int .i64 x] h K↔K (.bool (decide (p x))) h):
  CallWp E2 210 [v,.fn f []] h K↔K (.bool (decide (∃x∈w,p x))) h:=by
 refine CallWp.iff_of (CallWp.fn (fn:=C.a210) rfl rfl rfl ?_)
 unfold C.a210
 repeat' (with_reducible first|simp(disch:=first|exact okD|fail) only[go_sem,seval]|(apply Spl.i<;>intro hc))
 refine CallWp.mono (c273 hS hl hf) fun r h2 ⟨e1,z,e2,q⟩=>?_
 subst e1 e2
 by_cases c:∃x∈w,p x
 ·have c':=q.2 c
  rw[decide_eq_true c]
  repeat' (with_reducible first|simp(disch:=first|exact okD|fail) only[go_sem,seval,decide_eq_true c']|(apply Spl.i<;>intro hc))
 ·have c':¬0≤z:=fun e=>c (q.1 e)
  rw[decide_eq_false c]
  repeat' (with_reducible first|simp(disch:=first|exact okD|fail) only[go_sem,seval,decide_eq_false c']|(apply Spl.i<;>intro hc))
theorem c211 {x:Int}:CallWp E2 211 [.int .i64 x] h K↔K (.bool (decide (badW x))) h:=by
 refine CallWp.iff_of (CallWp.fn (fn:=C.a211) rfl rfl rfl ?_)
 unfold C.a211
 unfold badW
 by_cases c:x<0
 ·rw[decide_eq_true (show x<0∨999999999<x from .inl c)]
  repeat' (with_reducible first|simp(disch:=first|exact okD|fail) only[go_sem,seval,c,decide_eq_true c]|(apply Spl.i<;>intro hc))
 ·have e:(x<0∨999999999<x)=(999999999<x):=by apply propext;omega
  simp only[e]
  repeat' (with_reducible first|simp(disch:=first|exact okD|fail) only[go_sem,seval,c,decide_eq_false c]|(apply Spl.i<;>intro hc))
theorem c212 {x:Int}:CallWp E2 212 [.int .i64 x] h K↔K (.bool (decide (x≠0))) h:=by
 refine CallWp.iff_of (CallWp.fn (fn:=C.a212) rfl rfl rfl ?_)
 unfold C.a212
 repeat' (with_reducible first|simp(disch:=first|exact okD|fail) only[go_sem,seval]|(apply Spl.i<;>intro hc))
theorem c130_2' {t:Nat} {a b:Int} (hA:At h t [.int .i64 a,.int .i64 b]) (ht:t<h.next):Gv E2 130 [.sl t 0 2 1] h (.int .i64 (first2 a b)):=by
 obtain⟨st,hg⟩:=hA
 exact c130_2 hg ht
theorem c132 (hS:RowS 1 h v w.length (w.map (AV.int .i64))) (hl:w.length≤1000000):Gv E2 132 [v] h (.int .i64 (wErr w)):=by
 refine Gv.of (CallWp.fn (fn:=C.a132) rfl rfl rfl ?_)
 unfold C.a132
 have ln:=hS.rz.len
 have q1:=fun K=>c210 (K:=K) hS hl (p:=badW) (f:=211) fun h x K=>c211
 have q2:=fun K=>c210 (K:=K) hS hl (p:=fun x=>x≠0) (f:=212) fun h x K=>c212
 obtain⟨b1,e1⟩:∃b,decide (∃x∈w,badW x)=b:=⟨_,rfl⟩
 obtain⟨b2,e2⟩:∃b,decide (∃x∈w,x≠0)=b:=⟨_,rfl⟩
 simp only[e1,e2]at q1 q2
 have fin:first4 (if w.length=0 then 12 else 0) (if 256<w.length then 5 else 0) (if b1=true then 3 else 0) (if(!b2)=true then 6 else 0)=wErr w:=by
  unfold wErr first4
  by_cases c1:w.length=0
  ·rw[if_pos c1,if_pos c1];rfl
  rw[if_neg c1,if_neg c1,if_pos rfl]
  by_cases c2:256<w.length
  ·rw[if_pos c2,if_pos c2];rfl
  rw[if_neg c2,if_neg c2,if_pos rfl]
  by_cases c3:∃x∈w,badW x
  ·rw[decide_eq_true c3]at e1;subst e1;rw[if_pos rfl,if_pos c3];rfl
  rw[decide_eq_false c3]at e1;subst e1
  rw[if_neg c3]
  by_cases c4:∃x∈w,x≠0
  ·rw[decide_eq_true c4]at e2;subst e2;rw[if_pos c4];rfl
  ·rw[decide_eq_false c4]at e2;subst e2;rw[if_neg c4];rfl
 have z1:((w.length:Int)=0)=(w.length=0):=by apply propext;omega
 have z2:((256:Int)<w.length)=(256<w.length):=by apply propext;omega
 rw[←fin]
 cases b1<;>cases b2
 all_goals repeat' (with_reducible first|simp(disch:=first|exact okD|fail) only[go_sem,seval,ln,q1,q2,c131,c131t,c131f,z1,z2]|(apply Spl.i<;>intro hc))
 all_goals refine(c130_4 Hp.push_same okO).wp fun h2 k j g=>?_
 all_goals repeat' (with_reducible first|simp(disch:=first|exact okD|fail) only[go_sem,seval]|(apply Spl.i<;>intro hc))
 all_goals first|exact⟨rfl,okG⟩|exact okG
theorem c134 {B R:Nat} {r:Nat→Nat} {x y:Nat} (hB:AtS h B [.sl R 0 n 1]) (hR:Rw h R n r) (hx:x<n) (hy:y<n) (hn:n≤1000000) (hr:∀k,k<n→r k≤4000000000000000000):
  CallWp E2 134 [.int .i64 x,.int .i64 y,.ptr B 0] h K↔K (.int .i64 ((r y:Int)-r x)) h:=by
 refine CallWp.iff_of (CallWp.fn (fn:=C.a134) rfl rfl rfl ?_)
 unfold C.a134
 obtain⟨st,hg,h1,h2⟩:=hB
 have l1:=hR.ld hx
 have l2:=hR.ld hy
 have od:=hR.old
 have b1:=hr x hx
 have b2:=hr y hy
 repeat' (with_reducible first|simp(disch:=first|exact okD|fail) only[go_sem,seval,hg,l1,l2,od]|(apply Spl.i<;>intro hc))
def cmpS (r:Nat→Nat) (x y:Nat):Prop:=r y<r x∨(r x=r y∧x<y)
theorem cmp134 {B R:Nat} {r:Nat→Nat} (hn:n≤1000000) (hr:∀k,k<n→r k≤4000000000000000000) (hB:B≠t) (hR:R≠t):
  Cmp n 134 [.ptr B 0] t (fun h=>AtS h B [.sl R 0 n 1]∧Rw h R n r) (fun x y=>(r y:Int)-r x) (cmpS r) where
 st:=fun h h' ⟨p1,p2⟩ c=>⟨p1.chg c hB,AtS.chg p2 c hR⟩
 call:=fun h x y K ⟨p1,p2⟩ hx hy=>c134 p1 p2 hx hy hn hr
 lt:=fun x y hxy=>by unfold cmpS;omega
 gt:=fun x y hxy=>by unfold cmpS;omega
 tr:=fun x y z h1 h2=>by unfold cmpS at *;omega
theorem c133 {caps:List AV} {P:Hp→Prop} {cz:Nat→Nat→Int} {L:Nat→Nat→Prop} (Q:Cmp n f caps t P cz L) (hn:n≤100000) (A:Rw h t n e) (hP:P h) (hid:∀k,k<n→e k=k):
  CallWp E2 133 [.sl t 0 n 1,.fn f caps] h fun _ h'=>Chg t h h'∧P h'∧∃e',Rw h' t n e'∧Gd L e' 0 n:=by
 refine CallWp.fn (fn:=C.a133) rfl rfl rfl ?_
 unfold C.a133
 repeat' (with_reducible first|simp(disch:=first|exact okD|fail) only[go_sem,seval]|(apply Spl.i<;>intro hc))
 refine CallWp.mono (c213 Q hn A hP hid) fun v h2 q=>?_
 repeat' (with_reducible first|simp(disch:=first|exact okD|fail) only[go_sem,seval]|(apply Spl.i<;>intro hc))
 exact q
end
end
end Go.Ae
set_option linter.unusedVariables false
set_option linter.unusedSimpArgs false
set_option maxRecDepth 100000
set_option maxHeartbeats 4000000
namespace Go.Ae
open So Bg
noncomputable section
def smn (d:Nat→Nat):Nat→Nat
 |0=>0
 |k+1=>smn d k+d k
theorem smn_le {d:Nat→Nat} {c:Nat}:∀{n:Nat},(∀k,k<n→d k≤c)→smn d n≤n*c
 |0,_=>by simp[smn]
 | n+1,h=>by
  have:=smn_le (n:=n) fun k hk=>h k (by omega)
  have:=h n (by omega)
  rw[smn,Nat.succ_mul];omega
theorem smn_mono {d:Nat→Nat} {k:Nat}:∀{n:Nat},k≤n→smn d k≤smn d n
  | 0, h => by obtain rfl:k=0:=by omega
               exact Nat.le_refl _
  | n +1,h=>by
    rcases Nat.eq_or_lt_of_le h with e|e
    · rw[e];exact Nat.le_refl _
    · have:=smn_mono (d:=d) (n:=n) (by omega:k≤n)
      rw[smn];omega
theorem smn_one {d:Nat→Nat} {k n:Nat} (h:k<n):d k≤smn d n:=by
 have h1:=smn_mono (d:=d) (show k+1≤n from h)
 have h2:smn d (k+1)=smn d k+d k:=rfl
 omega
def bs (T S:Nat) (W:Nat→Nat) (k:Nat):Nat:=T*W k/S
def rs (T S:Nat) (W:Nat→Nat) (k:Nat):Nat:=T*W k%S
theorem smn_bs {T S:Nat} {W:Nat→Nat}:∀n,S*smn (bs T S W) n+smn (rs T S W) n=T*smn W n
 |0=>by simp[smn]
 | n+1=>by
  have h1:=smn_bs (T:=T) (S:=S) (W:=W) n
  have h2:S*bs T S W n+rs T S W n=T*W n:=Nat.div_add_mod _ _
  rw[smn,smn,smn,Nat.mul_add,Nat.mul_add]
  omega
theorem bs_le {T S n:Nat} {W:Nat→Nat} (hS:smn W n=S) (h0:0<S):smn (bs T S W) n≤T:=by
 have h1:=smn_bs (T:=T) (S:=S) (W:=W) n
 rw[hS,Nat.mul_comm T S]at h1
 exact Nat.le_of_mul_le_mul_left (show S*smn (bs T S W) n≤S*T by omega) h0
theorem left_lt {T S n:Nat} {W:Nat→Nat} (hS:smn W n=S) (h0:0<S) (hn:0<n):T-smn (bs T S W) n<n:=by
 have h1:=smn_bs (T:=T) (S:=S) (W:=W) n
 have h2:=bs_le (T:=T) hS h0
 have h3:smn (rs T S W) n≤n*(S-1):=smn_le fun k _=>by
  have:rs T S W k<S:=Nat.mod_lt _ h0
  omega
 rw[hS,Nat.mul_comm T S]at h1
 have h4:S*(T-smn (bs T S W) n)≤n*(S-1):=by rw[Nat.mul_sub];omega
 have h5:n*(S-1)<S*n:=by
  rw[Nat.mul_sub,Nat.mul_one,Nat.mul_comm S n]
  have:n≤n*S:=Nat.le_mul_of_pos_right _ h0
  omega
 exact Nat.lt_of_mul_lt_mul_left (Nat.lt_of_le_of_lt h4 h5)
open Classical in
def ch (e:Nat→Nat) (m k:Nat):Nat:=if ∃i,i<m∧e i=k then 1 else 0
section
variable {h h' hp:Hp} {K:AV→Hp→Prop} {tm:T AV} {n t f s a b c d k m q l T S X:Nat} {W e e':Nat→Nat} {v:AV} {w:List Int}
theorem ch_zero (k:Nat):ch e 0 k=0:=if_neg fun⟨i,h,_⟩=>by omega
theorem ch_one (h:e m=k):ch e (m+1) k=1:=if_pos ⟨m,by omega,h⟩
theorem ch_ne (h:e m≠k):ch e (m+1) k=ch e m k:=by
 have:(∃i,i<m+1∧e i=k)↔∃i,i<m∧e i=k:=by
  constructor
  ·rintro⟨i,h1,h2⟩
   rcases Nat.eq_or_lt_of_le (show i≤m by omega)with c|c
   ·rw[c]at h2;exact absurd h2 h
   ·exact⟨i,c,h2⟩
  ·rintro⟨i,h1,h2⟩
   exact⟨i,by omega,h2⟩
 unfold ch
 by_cases c:∃i,i<m∧e i=k
 ·rw[if_pos c,if_pos (this.2 c)]
 ·rw[if_neg c,if_neg fun h=>c (this.1 h)]
theorem ch_out (h:∀i,i<m→e i≠k):ch e m k=0:=if_neg fun⟨i,h1,h2⟩=>h i h1 h2
theorem Gd.inj {r:Nat→Nat} (g:Gd (cmpS r) e 0 n) {i j:Nat} (hi:i<n) (hj:j<n) (he:e i=e j):i=j:=by
 have ir:∀x,¬cmpS r x x:=fun x h=>by unfold cmpS at h;omega
 rcases Nat.lt_trichotomy i j with c|c|c
 ·have:=g.1 i j (by omega) c hj
  rw[he]at this;exact absurd this (ir _)
 ·exact c
 ·have:=g.1 j i (by omega) c hi
  rw[he]at this;exact absurd this (ir _)
theorem c24d {B r:Nat→Nat} (hn:n≤1000) (hl:l≤n) (k10:val tm (.t 10)= .sl a 0 n 1) (k12:val tm (.t 12)= .sl d 0 n 1) (k13:val tm (.t 13)= .int .i64 l)
  (G:Grs h hp) (ha:h.next≤a) (had:d≠a) (A:Rw hp a n B) (D:Rw hp d n e) (g:Gd (cmpS r) e 0 n) (hB:∀k,k<n→B k≤2000000000):
  Wp E2 (C.a24.code.post 10) ⟨tm,hp⟩ (RetQ [.tmp 4,.tmp 5] fun v' h'=>v'= .tup [.sl a 0 n 1,.int .i64 0]∧Grs h h'∧Rw h' a n fun k=>B k+ch e l k):=by
 unfold C.a24
 dsimp only[ACode.post]
 have sl1:=slA_hi (h:=hp) (t:=d) (o:=0) (n:=n) (z:=1) (sz:=1) (kd:= .i64) (k:=(l:Int)) (by omega)
 rw[Int.toNat_natCast]at sl1
 repeat' (with_reducible first|simp(disch:=first|exact okD|fail) only[go_sem,seval,k12,k13,sl1]|(apply Spl.i<;>intro hc))
 refine Wp.loopI (fun mm s=>∃(i:Nat),val s.tm (.t 10)= .sl a 0 n 1∧val s.tm (.t 91)= .sl d 0 l 1∧val s.tm (.t 92)= .int .i64 l∧val s.tm (.t 93)= .int .i64 i∧
  Grs h s.hp∧Rw s.hp a n (fun k=>B k+ch e i k)∧Rw s.hp d n e∧i≤l∧l-i=mm) (n:=l) ?_ ?_
 ·exact⟨0,by simp(disch:=first|exact okD|fail) only[go_sem,seval,k10],by simp(disch:=first|exact okD|fail) only[go_sem,seval],by simp(disch:=first|exact okD|fail) only[go_sem,seval],by(simp(disch:=first|exact okD|fail) only[go_sem,seval])<;>rfl,G,A.congr fun k _=>by rw[ch_zero];rfl,D,Nat.zero_le _,rfl⟩
 ·clear k10 k12 k13 G A D sl1
  rintro mm ⟨tm,hp⟩ ⟨i,k10,k91,k92,k93,G,A,D,hil,rfl⟩
  simp only at k10 k91 k92 k93 G A D
  by_cases c:i<l
  ·have c':(i:Int)<l:=by omega
   have ld:=D.ld (i:=i) (by omega)
   have hei:=g.2.1 i (by omega) (by omega)
   have z:ch e i (e i)=0:=ch_out fun j h1 h2=>by have:=g.inj (by omega) (by omega) h2;omega
   have hup:∀k,k<n→B k+ch e (i+1) k=updF (fun k=>B k+ch e i k) (e i) (B (e i)+1) k:=fun k _=>by
    unfold updF
    by_cases c:k=e i
    ·rw[if_pos c,ch_one c.symm,c]
    ·rw[if_neg c,ch_ne fun h=>c h.symm]
   have hb:=hB (e i) hei.2
   obtain⟨x,hxe⟩:∃x,e i=x:=⟨_,rfl⟩
   rw[hxe]at ld hei z hup hb
   have la:=A.ld (i:=x) hei.2
   simp only[z,Nat.add_zero]at la
   obtain⟨h1,s1,C1,A1,n1⟩:=A.st (i:=x) hei.2 (B x+1)
   have eb:(B x:Int)+1=((B x+1:Nat):Int):=by omega
   have A2:=A1.congr hup
   have D2:Rw h1 d n e:=AtS.chg D C1 had
   generalize B x=y at *
   repeat' (with_reducible first|simp(disch:=first|exact okD|fail) only[go_sem,seval,k10,k91,k92,k93,c',ld,la,eb,s1]|(apply Spl.i<;>intro hc))
   exact⟨_,by omega,i+1,rfl,C1.grs G ha,A2,D2,c,rfl⟩
  ·have c':¬(i:Int)<l:=by omega
   obtain rfl:i=l:=by omega
   repeat' (with_reducible first|simp(disch:=first|exact okD|fail) only[go_sem,seval,k10,k91,k92,k93,c']|(apply Spl.i<;>intro hc))
   exact⟨G,A⟩
end
end
end Go.Ae
set_option linter.unusedVariables false
set_option linter.unusedSimpArgs false
set_option maxRecDepth 100000
set_option maxHeartbeats 4000000
namespace Go.Ae
open So Bg
noncomputable section
section
variable {h h' hp:Hp} {K:AV→Hp→Prop} {tm:T AV} {n t f s a b c d k m q l T S X:Nat} {W e e':Nat→Nat} {v:AV} {w:List Int}
theorem RetQ.mono' {rs:List ARes} {K K':AV→Hp→Prop} {ex:Ex} {s:St} (hk:∀v h,K v h→K' v h) (q:RetQ rs K ex s):RetQ rs K' ex s:=by
 cases ex with
 |exit i=>exact q
 | ret=>
  rw[RetQ.ret]at q⊢
  revert q
  generalize resultA s rs=r
  cases r with
  |none=>exact id
  |some v=>exact hk v _
 | nrm=>
  rw[RetQ.nrm]at q⊢
  revert q
  generalize resultA s rs=r
  cases r with
  |none=>exact id
  |some v=>exact hk v _
def ShP (h:Hp) (n:Nat) (B r:Nat→Nat) (l:Nat) (v:AV) (h':Hp):Prop:=∃a e,v= .tup [.sl a 0 n 1,.int .i64 0]∧Rw h' a n (fun k=>B k+ch e l k)∧Gd (cmpS r) e 0 n
theorem c24c {B r:Nat→Nat} (hn:n≤1000) (hl:l≤n) (k10:val tm (.t 10)= .sl a 0 n 1) (k11:val tm (.t 11)= .ptr c 0) (k12:val tm (.t 12)= .sl d 0 n 1) (k13:val tm (.t 13)= .int .i64 l)
  (G:Grs h hp) (ha:h.next≤a) (hd:h.next≤d) (had:d≠a) (hac:c≠d) (hbd:b≠d) (A:Rw hp a n B) (R:Rw hp b n r) (Cc:AtS hp c [.sl b 0 n 1]) (D:Rw hp d n fun k=>k) (hB:∀k,k<n→B k≤2000000000) (hr:∀k,k<n→r k≤4000000000000000000):
  Wp E2 (C.a24.code.post 9) ⟨tm,hp⟩ (RetQ [.tmp 4,.tmp 5] fun v' h'=>ShP h n B r l v' h'∧Grs h h'):=by
 have tail:=fun tm hp e k10 k12 k13 G A D g=>(c24d (tm:=tm) (hp:=hp) (h:=h) (e:=e) (a:=a) (d:=d) (B:=B) (r:=r) hn hl k10 k12 k13 G ha had A D g hB)
 rw[show C.a24.code.post 9= .seq _ (C.a24.code.post 10) from rfl]
 generalize ACode.post 10 C.a24.code=rest at tail⊢
 have Q:=cmp134 (n:=n) (t:=d) (B:=c) (R:=b) (r:=r) (by omega) hr hac hbd
 repeat' (with_reducible first|simp(disch:=first|exact okD|fail) only[go_sem,seval,k11,k12]|(apply Spl.i<;>intro hc))
 refine CallWp.mono (c133 Q (by omega) D ⟨Cc,R⟩ fun k _=>rfl) fun v1 h2 ⟨C1,P1,e2,D2,g⟩=>?_
 repeat' (with_reducible first|simp(disch:=first|exact okD|fail) only[go_sem,seval]|(apply Spl.i<;>intro hc))
 exact(tail _ _ e2 (by simp(disch:=first|exact okD|fail) only[go_sem,seval,k10]) (by simp(disch:=first|exact okD|fail) only[go_sem,seval,k12]) (by simp(disch:=first|exact okD|fail) only[go_sem,seval,k13]) (C1.grs G hd) (AtS.chg A C1 had.symm) D2 g).mono fun ex s q=>RetQ.mono' (fun v h3 ⟨q1,q2,q3⟩=>⟨⟨a,e2,q1,q3,g⟩,q2⟩) q
theorem c24b (hS:RowS 1 h v n (w.map (AV.int .i64))) (hwn:w.length=n) (hn:n≤1000) (hn0:0<n) (hw:∀k,k<n→w.getD k 0=(W k:Int)∧W k≤999999999) (hT:T≤999999999) (hW:smn W n=S) (hS0:0<S)
  (k0:val tm (.t 0)= .int .i64 T) (k1:val tm (.t 1)=v) (k7:val tm (.t 7)= .int .i64 S) (k10:val tm (.t 10)= .sl a 0 n 1) (k11:val tm (.t 11)= .ptr c 0) (k12:val tm (.t 12)= .sl d 0 n 1) (k13:val tm (.t 13)= .int .i64 T)
  (G:Grs h hp) (ha:h.next≤a) (hb:h.next≤b) (hd:h.next≤d) (had:d≠a) (hac:c≠d) (hbd:b≠d) (hab:a≠b) (hca:c≠a) (hcb:c≠b) (A:Rw hp a n fun _=>0) (R:Rw hp b n fun _=>0) (Cc:AtS hp c [.sl b 0 n 1]) (D:Rw hp d n fun _=>0):
  Wp E2 (C.a24.code.post 8) ⟨tm,hp⟩ (RetQ [.tmp 4,.tmp 5] fun v' h'=>ShP h n (bs T S W) (rs T S W) (T-smn (bs T S W) n) v' h'∧Grs h h'):=by
 subst hwn
 have hbT:∀k,k<w.length→bs T S W k≤T:=fun k hk=>Nat.le_trans (smn_one hk) (bs_le hW hS0)
 have hrS:∀k,k<w.length→rs T S W k≤4000000000000000000:=fun k hk=>by
  have h1:T*W k≤999999999*999999999:=Nat.mul_le_mul hT (hw k hk).2
  have h2:rs T S W k≤T*W k:=Nat.mod_le _ _
  omega
 have tail:=fun tm hp k10 k11 k12 k13 G A R Cc D=>(c24c (tm:=tm) (hp:=hp) (h:=h) (n:=w.length) (a:=a) (b:=b) (c:=c) (d:=d) (B:=bs T S W) (r:=rs T S W) (l:=T-smn (bs T S W) w.length) hn (Nat.le_of_lt (left_lt hW hS0 hn0)) k10 k11 k12 k13 G ha hd had hac hbd A R Cc D (fun k hk=>by have:=hbT k hk;omega) hrS)
 rw[show C.a24.code.post 8= .seq _ (C.a24.code.post 9) from rfl]
 generalize ACode.post 9 C.a24.code=rest at tail⊢
 have ln:=hS.rz.len
 have ad:=hS.rz.adr
 repeat' (with_reducible first|simp(disch:=first|exact okD|fail) only[go_sem,seval,k1,ln]|(apply Spl.i<;>intro hc))
 refine Wp.loopI (fun mm s=>∃(i:Nat),val s.tm (.t 0)= .int .i64 T∧val s.tm (.t 7)= .int .i64 S∧val s.tm (.t 10)= .sl a 0 w.length 1∧val s.tm (.t 11)= .ptr c 0∧val s.tm (.t 12)= .sl d 0 w.length 1∧val s.tm (.t 52)=v∧val s.tm (.t 53)= .int .i64 w.length∧val s.tm (.t 54)= .int .i64 i∧val s.tm (.t 13)= .int .i64 ((T:Int)-smn (bs T S W) i)∧
  Grs h s.hp∧Rw s.hp a w.length (fun k=>if k<i then bs T S W k else 0)∧Rw s.hp b w.length (fun k=>if k<i then rs T S W k else 0)∧AtS s.hp c [.sl b 0 w.length 1]∧Rw s.hp d w.length (fun k=>if k<i then k else 0)∧i≤w.length∧w.length-i=mm) (n:=w.length) ?_ ?_
 ·refine⟨0,by simp(disch:=first|exact okD|fail) only[go_sem,seval,k0],by simp(disch:=first|exact okD|fail) only[go_sem,seval,k7],by simp(disch:=first|exact okD|fail) only[go_sem,seval,k10],by simp(disch:=first|exact okD|fail) only[go_sem,seval,k11],by simp(disch:=first|exact okD|fail) only[go_sem,seval,k12],by simp(disch:=first|exact okD|fail) only[go_sem,seval,k1],by simp(disch:=first|exact okD|fail) only[go_sem,seval],by(simp(disch:=first|exact okD|fail) only[go_sem,seval])<;>rfl,?_,G,A.congr fun k _=>by rw[if_neg (by omega)],R.congr fun k _=>by rw[if_neg (by omega)],Cc,D.congr fun k _=>by rw[if_neg (by omega)],Nat.zero_le _,rfl⟩
  simp(disch:=first|exact okD|fail) only[go_sem,seval,k13]
  exact congrArg (AV.int .i64) (by unfold smn;omega)
 ·clear k0 k1 k7 k10 k11 k12 k13 G A R Cc D
  rintro mm ⟨tm,hp⟩ ⟨i,k0,k7,k10,k11,k12,k52,k53,k54,k13,G,A,R,Cc,D,hil,rfl⟩
  simp only at k0 k7 k10 k11 k12 k52 k53 k54 k13 G A R Cc D
  by_cases c0:i<w.length
  ·have c':(i:Int)<w.length:=by omega
   have hSg:=hS.grs G
   have adg:=hSg.rz.adr
   have ld:=RowS.ldI hSg c0
   have od:=RowS.oldI hSg (by omega)
   obtain⟨hwi,hwb⟩:=hw i c0
   rw[hwi]at ld
   obtain⟨st,hgc,hsc,hnc⟩:=Cc
   have odc:∀c0,hp.clk≤c0→OldR (hp.get c) c0=true:=fun c0 hc=>by rw[hgc];exact OldR.row (Nat.le_trans hsc hc)
   have oda:=A.old
   obtain⟨h1,s1,C1,A1,n1⟩:=A.st c0 (bs T S W i)
   have odc1:OldR (h1.get c) hp.clk=true:=by rw[C1.get c hnc hca];exact odc _ (Nat.le_refl _)
   have R0:=AtS.chg R C1 hab.symm
   have D0:=AtS.chg D C1 had
   have Cc:AtS hp c [.sl b 0 w.length 1]:=⟨st,hgc,hsc,hnc⟩
   obtain⟨h2,s2,C2,R1,n2⟩:=Rw.st R0 c0 (rs T S W i)
   have D1:=AtS.chg D0 C2 hbd.symm
   have A2:=AtS.chg A1 C2 hab
   obtain⟨h3,s3,C3,D2,n3⟩:=Rw.st D1 c0 i
   have A3:Rw h3 a _ _:=AtS.chg A2 C3 had.symm
   have R3:Rw h3 b _ _:=AtS.chg R1 C3 hbd
   have Cc3:=((Cc.chg C1 hca).chg C2 hcb).chg C3 hac
   have la:=A3.ld c0
   have e1:updF (fun k=>if k<i then bs T S W k else 0) i (bs T S W i) i=bs T S W i:=if_pos rfl
   rw[e1]at la
   have up:∀(f:Nat→Nat) k,k<w.length→(if k<i+1 then f k else 0)=updF (fun k=>if k<i then f k else 0) i (f i) k:=fun f k _=>by
    unfold updF
    by_cases q:k=i
    ·rw[if_pos q,if_pos (by omega),q]
    ·rw[if_neg q]
     show _=(if k<i then f k else 0)
     by_cases q':k<i
     ·rw[if_pos q',if_pos (by omega)]
     ·rw[if_neg q',if_neg (by omega)]
   have A4:=A3.congr (up _)
   have R4:=R3.congr (up _)
   have D4:=Rw.congr (e:=fun k=>if k<i+1 then k else 0) D2 (up fun k=>k)
   have G3:Grs h h3:=C3.grs (C2.grs (C1.grs G ha) hb) hd
   have hsm:smn (bs T S W) (i+1)=smn (bs T S W) i+bs T S W i:=rfl
   have hsl:smn (bs T S W) i+bs T S W i≤T:=by rw[←hsm];exact Nat.le_trans (smn_mono c0) (bs_le hW hS0)
   have hSb:S≤999999999000:=by rw[←hW];exact Nat.le_trans (smn_le fun k hk=>(hw k hk).2) (by omega)
   have hp1:T*W i≤999999999*999999999:=Nat.mul_le_mul hT hwb
   have em:(T:Int)*(W i:Int)=((T*W i:Nat):Int):=(Int.natCast_mul _ _).symm
   have eq:((T*W i:Nat):Int)/S=((bs T S W i:Nat):Int):=rfl
   have er:((T*W i:Nat):Int)%S=((rs T S W i:Nat):Int):=rfl
   have hq1:bs T S W i≤T*W i:=Nat.div_le_self _ _
   clear A R D A1 A2 A3 R0 R1 R3 D0 D1 D2 Cc up
   generalize bs T S W i=bq at *
   generalize rs T S W i=rq at *
   generalize T*W i=p at *
   generalize smn (bs T S W) i=sb at *
   have wq:IntKind.wrap .i64 (bq:Int)=bq:=wrap_i64 (by omega)
   have S0':0<(S:Int):=by omega
   repeat' (with_reducible first|simp(disch:=first|exact okD|fail) only[go_sem,seval,k0,k7,k10,k11,k12,k52,k53,k54,k13,c',adg,ld,od,odc,odc1,oda,hgc,em,eq,er,wq,s1,s2,s3,la,b_quoP,b_remP]|(apply Spl.i<;>intro hc))
   refine⟨_,by omega,i+1,rfl,?_,G3,A4,R4,Cc3,D4,c0,rfl⟩
   exact congrArg (AV.int .i64) (by rw[hsm];omega)
  ·have c':¬(i:Int)<w.length:=by omega
   obtain rfl:i=w.length:=by omega
   have hle:=bs_le (T:=T) hW hS0
   repeat' (with_reducible first|simp(disch:=first|exact okD|fail) only[go_sem,seval,k53,k54,c']|(apply Spl.i<;>intro hc))
   refine tail _ _ (by simp(disch:=first|exact okD|fail) only[go_sem,seval,k10]) (by simp(disch:=first|exact okD|fail) only[go_sem,seval,k11]) (by simp(disch:=first|exact okD|fail) only[go_sem,seval,k12]) ?_ G (A.congr fun k hk=>by rw[if_pos hk]) (R.congr fun k hk=>by rw[if_pos hk]) Cc (D.congr fun k hk=>by rw[if_pos hk])
   simp(disch:=first|exact okD|fail) only[go_sem,seval,k13]
   exact congrArg (AV.int .i64) (by omega)
end
end
end Go.Ae
set_option linter.unusedVariables false
set_option linter.unusedSimpArgs false
set_option maxRecDepth 100000
set_option maxHeartbeats 4000000
namespace Go.Ae
open So Bg
noncomputable section
section
variable {h h' hp:Hp} {K:AV→Hp→Prop} {tm:T AV} {n t f s a b c d k m q l:Nat} {e e':Nat→Nat} {v:AV} {w:List Int} {T:Int}
def wN (w:List Int) (k:Nat):Nat:=(w.getD k 0).toNat
theorem tErr_yes (c:badW T):tErr T=3:=if_pos c
theorem tErr_no (c:¬badW T):tErr T=0:=if_neg c
theorem mem_getD {w:List Int} {k:Nat} (hk:k<w.length):w.getD k 0∈w:=by
 rw[List.getD_eq_getElem?_getD,List.getElem?_eq_getElem hk];exact List.getElem_mem hk
theorem wN_ok (hz:wErr w=0):(∀k,k<w.length→w.getD k 0=(wN w k:Int)∧wN w k≤999999999)∧0<smn (wN w) w.length:=by
 obtain⟨h1,h2,h3,x,hx,hx0⟩:=wErr_zero hz
 refine⟨fun k hk=>?_,?_⟩
 ·have:=h3 _ (mem_getD hk)
  unfold wN;omega
 ·obtain⟨k,hk,he⟩:=List.getElem_of_mem hx
  have hg:w.getD k 0=x:=by rw[List.getD_eq_getElem?_getD,List.getElem?_eq_getElem hk];exact he
  have h4:=smn_one (d:=wN w) hk
  have h5:=h3 x hx
  have:0<wN w k:=by unfold wN;rw[hg];omega
  omega
theorem rep_Wn {n:Nat}:List.replicate n (AV.int .i64 0)=(Wn n fun _=>0).map (wd .i64):=by
 unfold Wn;rw[List.map_const',List.length_range,List.map_replicate];rfl
theorem c24e (hS:RowS 1 h v w.length (w.map (AV.int .i64))) (hl:w.length≤1000) (he:first2 (tErr T) (wErr w)≠0):Gv E2 24 [.int .i64 T,v] h (.tup [.nils,.int .i64 (first2 (tErr T) (wErr w))]):=by
 refine Gv.of (CallWp.fn (fn:=C.a24) rfl rfl rfl ?_)
 unfold C.a24
 have he':(first2 (tErr T) (wErr w)=0)=False:=by simp[he]
 by_cases c:badW T
 ·have cx:=c
  unfold badW at cx
  rw[tErr_yes c]at he'⊢
  by_cases c1:T<0
  ·repeat' (with_reducible first|simp(disch:=first|exact okD|fail) only[go_sem,seval,c131t,c1,he']|(refine Gv.wp (c132 hS (by omega)) fun _ _ _ _=>?_)|(refine Gv.wp (c130_2' (a:=3) (b:=wErr w) okA okO) fun _ _ _ _=>?_)|(apply Spl.i<;>intro hc))
   all_goals exact okG
  ·have c2:999999999<T:=by omega
   repeat' (with_reducible first|simp(disch:=first|exact okD|fail) only[go_sem,seval,c131t,c1,c2,he']|(refine Gv.wp (c132 hS (by omega)) fun _ _ _ _=>?_)|(refine Gv.wp (c130_2' (a:=3) (b:=wErr w) okA okO) fun _ _ _ _=>?_)|(apply Spl.i<;>intro hc))
   all_goals exact okG
 ·have cx:=c
  unfold badW at cx
  have c1:¬T<0:=by omega
  have c2:¬999999999<T:=by omega
  rw[tErr_no c]at he'⊢
  repeat' (with_reducible first|simp(disch:=first|exact okD|fail) only[go_sem,seval,c131f,c1,c2,he']|(refine Gv.wp (c132 hS (by omega)) fun _ _ _ _=>?_)|(refine Gv.wp (c130_2' (a:=0) (b:=wErr w) okA okO) fun _ _ _ _=>?_)|(apply Spl.i<;>intro hc))
  all_goals exact okG
theorem c24 (hS:RowS 1 h v w.length (w.map (AV.int .i64))) (ht:tErr T=0) (hw:wErr w=0):
  Gp E2 24 [.int .i64 T,v] h (ShP h w.length (bs T.toNat (smn (wN w) w.length) (wN w)) (rs T.toNat (smn (wN w) w.length) (wN w)) (T.toNat-smn (bs T.toNat (smn (wN w) w.length) (wN w)) w.length)):=by
 refine Gp.of (CallWp.fn (fn:=C.a24) rfl rfl rfl ?_)
 obtain⟨n0,n1,n2,_⟩:=wErr_zero hw
 obtain⟨w1,w2⟩:=wN_ok hw
 have cx:¬badW T:=fun c=>by rw[tErr_yes c]at ht;omega
 unfold badW at cx
 obtain⟨M,rfl⟩:∃M:Nat,T=M:=⟨T.toNat,by omega⟩
 rw[Int.toNat_natCast]
 have tail:=fun tm hp a b c d=>c24b (tm:=tm) (hp:=hp) (h:=h) (a:=a) (b:=b) (c:=c) (d:=d) (T:=M) (W:=wN w) hS rfl (by omega) n0 w1 (by omega) rfl w2
 refine Wp.cut 8 rfl ?_
 generalize ACode.post 8 C.a24.code=rest at tail⊢
 unfold C.a24
 dsimp only[ACode.pre]
 have c1:¬(M:Int)<0:=by omega
 have c2:¬(999999999:Int)<M:=by omega
 have f0:first2 0 0=0:=rfl
 have ln:=hS.rz.len
 repeat' (with_reducible first|simp(disch:=first|exact okD|fail) only[go_sem,seval,c131f,c1,c2,f0,hw,ln]|(refine Gv.wp (c132 hS (by omega)) fun _ _ _ _=>?_)|(refine Gv.wp (c130_2' (a:=0) (b:=0) okA okO) fun _ _ _ _=>?_)|(apply Spl.i<;>intro hc))
 refine Wp.loopI (fun mm s=>∃(i:Nat),val s.tm (.t 0)= .int .i64 M∧val s.tm (.t 1)=v∧val s.tm (.t 32)=v∧val s.tm (.t 33)= .int .i64 w.length∧val s.tm (.t 34)= .int .i64 i∧val s.tm (.t 7)= .int .i64 (smn (wN w) i)∧
  Grs h s.hp∧i≤w.length∧w.length-i=mm) (n:=w.length) ?_ ?_
 ·exact⟨0,by simp(disch:=first|exact okD|fail) only[go_sem,seval],by simp(disch:=first|exact okD|fail) only[go_sem,seval],by simp(disch:=first|exact okD|fail) only[go_sem,seval],by simp(disch:=first|exact okD|fail) only[go_sem,seval],by(simp(disch:=first|exact okD|fail) only[go_sem,seval])<;>rfl,by(simp(disch:=first|exact okD|fail) only[go_sem,seval])<;>rfl,by(dsimp only;exact okG),Nat.zero_le _,rfl⟩
 ·rintro mm ⟨tm,hq⟩ ⟨i,k0,k1,k32,k33,k34,k7,G,hil,rfl⟩
  simp only at k0 k1 k32 k33 k34 k7 G
  have hSg:=hS.grs G
  by_cases c0:i<w.length
  ·have c':(i:Int)<w.length:=by omega
   have adg:=hSg.rz.adr
   have ld:=RowS.ldI hSg c0
   obtain⟨hwi,hwb⟩:=w1 i c0
   rw[hwi]at ld
   have hb:smn (wN w) i≤i*999999999:=smn_le fun k hk=>(w1 k (by omega)).2
   have es:smn (wN w) (i+1)=smn (wN w) i+wN w i:=rfl
   have hsm:smn (wN w) i≤999999999000:=by
    have:=Nat.mul_le_mul_right 999999999 (show i≤1000 by omega)
    omega
   generalize wN w i=x at *
   generalize smn (wN w) i=y at *
   repeat' (with_reducible first|simp(disch:=first|exact okD|fail) only[go_sem,seval,k0,k1,k32,k33,k34,k7,c',adg,ld]|(apply Spl.i<;>intro hc))
   refine⟨_,by omega,i+1,rfl,?_,G,c0,rfl⟩
   exact congrArg (AV.int .i64) (by rw[es];omega)
  ·have c':¬(i:Int)<w.length:=by omega
   obtain rfl:i=w.length:=by omega
   have lng:=hSg.rz.len
   have mk:=fun{h:Hp} {K:AV→Hp→Prop}=>MksK.int' (h:=h) (K:=K) (b:=8) (z:= .int .i64 0) (m:=(w.length:Int)) w.length rfl rfl (by omega)
   repeat' (with_reducible first|simp(disch:=first|exact okD|fail) only[go_sem,seval,k0,k1,k32,k33,k34,k7,c',lng,mk]|(apply Spl.i<;>intro hc))
   have hz:=rep_Wn (n:=w.length)
   rw[hz]
   have p1:∀{h:Hp} {f:Nat→AObj} {t:Nat} {cs:List AV},AtS h t cs→AtS (h.push f) t cs:=fun a=>a.grs (Grs.refl _).push
   have gn:=G.next
   refine tail _ _ hq.next (hq.next+1) (hq.next+1+1) (hq.next+1+1+1) (by simp(disch:=first|exact okD|fail) only[go_sem,seval,k0]) (by simp(disch:=first|exact okD|fail) only[go_sem,seval,k1]) (by simp(disch:=first|exact okD|fail) only[go_sem,seval,k7]) (by simp(disch:=first|exact okD|fail) only[go_sem,seval]) (by simp(disch:=first|exact okD|fail) only[go_sem,seval]) (by simp(disch:=first|exact okD|fail) only[go_sem,seval]) (by simp(disch:=first|exact okD|fail) only[go_sem,seval]) ?_ gn (by omega) (by omega) (by omega) (by omega) (by omega) (by omega) (by omega) (by omega) ?_ ?_ ?_ ?_
   ·exact((((G.push).push).push).put (by show h.next≤hq.next+1+1;omega)).push
   ·exact p1 (AtS.other (p1 (p1 AtS.push)) (by omega))
   ·exact p1 (AtS.other (p1 AtS.push) (by show hq.next+1≠hq.next+1+1;omega))
   ·exact p1 (AtS.put (by show hq.next+1+1<hq.next+1+1+1;omega))
   ·exact AtS.push
end
end
end Go.Ae
set_option maxRecDepth 100000
namespace Go.Ae.Hd
open AOp Opd C
def a4:AFn:=⟨86,[.tmp 6],(q [o 5 (.box (.t 2)),o 6 (.mv (.k (.bool false)))]
 (.seq (q [c 12 17 [],y 13 .not 12,v 14 13,g 15 (m 1) 14 false,g 16 (.len .slice (.t 15)) 14 false,gb 17 .gtr (.t 16) (i 260) 14 false,pt 18 14 17]
 (k 18 (q [c 19 17 [],v 6 19]
 .ret)))
 (q [v 21 0,v 22 1,c 23 24 [.t 21,.t 22],v 20 23,e 24 20 0,e 25 20 1,v 7 24,v 8 25]
 (q [v 26 0,bi 27 .lss 26 0,v 28 27,g 29 (m 0) 28 false,gb 30 .gtr (.t 29) (i 999999999) 28 false,pt 31 28 30,c 32 20 [.t 31,i 3],v 33 1,c 34 26 [.t 33],o 35 (.bslice 1 2 [.int .i64 0,.int .i64 0] [(0,1,(.t 32)),(1,1,(.t 34))]),c 36 25 [.t 35],v 9 36]
 (.seq (q [v 37 9,bi 38 .neq 37 0,v 39 38,g 40 (m 7) 39 true,g 41 (m 8) 39 true,g 42 (m 9) 39 true,gc 43 27 [.t 40,.t 41,.t 42,(.k (.nils))] 39 true,g 44 (.un .not (.t 43)) 39 true,pf 45 39 44,v 46 45,g 47 (m 9) 46 false,gb 48 .eql (.t 47) (i 0) 46 false,g 49 (m 48) 46 false,g 50 (m 7) 49 true,g 51 (m 8) 49 true,g 52 (m 0) 49 true,g 53 (m 1) 49 true,gc 54 28 [.t 52,.t 53] 49 true,gc 55 27 [.t 50,.t 51,i 0,.t 54] 49 true,g 56 (.un .not (.t 55)) 49 true,g 57 (.pick (.t 49) (.t 56) (.k (.bool false))) 46 false,pt 58 46 57]
 (k 58 (q [o 6 (.mv (.k (.bool false)))]
 .ret)))
 (q [o 60 (.iadrA 1 2 (.t 5) (i 0)),l 61 false 1 60,o 62 (.iadrA 1 2 (.t 5) (i 1)),l 63 false 1 62,c 64 29 [.t 61,.t 63],v 59 64,e 65 59 0,e 66 59 1,v 10 65,v 11 66]
 (q [o 67 (.iadrA 1 2 (.t 5) (i 0)),l 68 false 1 67,o 69 (.iadrA 1 2 (.t 5) (i 1)),l 70 false 1 69,c 71 30 [.t 68,.t 70],v 9 71]
 (.seq (q [v 72 9,bi 73 .neq 72 0]
 (k 73 (q [v 74 10,v 75 11,v 76 9,c 77 27 [.t 74,.t 75,.t 76,(.k (.nils))],v 6 77]
 .ret)))
 (q [v 78 10,v 79 11,o 80 (.iadrA 1 2 (.t 5) (i 0)),l 81 false 1 80,o 82 (.iadrA 1 2 (.t 5) (i 1)),l 83 false 1 82,c 84 31 [.t 81,.t 83],c 85 27 [.t 78,.t 79,i 0,.t 84],v 6 85]
 .ret)))))))))⟩
def a27:AFn:=⟨26,[.tmp 8],(q [o 8 (.mv (.k (.bool false)))]
 (.seq (q [v 9 2,bi 10 .neq 9 0]
 (k 10 (q [v 11 0,ln 12 11,bi 13 .eql 12 0,v 14 13,g 15 (m 1) 14 true,g 16 (m 2) 14 true,gb 17 .eql (.t 15) (.t 16) 14 true,pf 18 14 17,v 8 18]
 .ret)))
 (q [v 19 1,bi 20 .eql 19 0,v 21 20,g 22 (m 0) 21 true,g 23 (m 3) 21 true,gc 24 109 [.t 22,.t 23] 21 true,pf 25 21 24,v 8 25]
 .ret)))⟩
def a28:AFn:=⟨90,[.tmp 4],(q [o 4 (.mv (.k (.nils)))]
 (q [vi 5 0]
 (.seq (q [vi 6 0]
 (.block 0 (.loop (.seq (q [v 13 6,v 14 1,ln 15 14,bt 16 .lss 13 15]
 (.cond (.t 16) .skip
 (.exit 0)))
 (.seq (.block 1 (.reg [v 19 5,v 20 1,v 21 6,ix 22 1 20 21,l 23 false 1 22,bt 24 .add 19 23,v 5 24]))
 (.reg [v 17 6,bi 18 .add 17 1,v 6 18]))))))
 (q [o 7 (.mv (.k (.nils))),o 8 (.mv (.k (.nils)))]
 (q [v 25 0,v 9 25]
 (.seq (q [vi 10 0]
 (.block 2 (.loop (.seq (q [v 26 10,v 27 1,ln 28 27,bt 29 .lss 26 28]
 (.cond (.t 29) .skip
 (.exit 2)))
 (.seq (.block 3 (q [v 32 7,v 33 0,v 34 1,v 35 10,ix 36 1 34 35,l 37 false 1 36,bt 38 .mul 33 37,v 39 5,bt 40 .quo 38 39,o 41 (.bslice 1 1 [.int .i64 0] [(0,1,(.t 40))]),o 42 (.app 1 8 (.t 32) (.t 41)),v 7 42]
 (q [v 43 8,v 44 0,v 45 1,v 46 10,ix 47 1 45 46,l 48 false 1 47,bt 49 .mul 44 48,v 50 5,bt 51 .rem 49 50,o 52 (.bslice 1 1 [.int .i64 0] [(0,1,(.t 51))]),o 53 (.app 1 8 (.t 43) (.t 52)),v 8 53]
 (.reg [v 54 9,v 55 7,v 56 10,ix 57 1 55 56,l 58 false 1 57,bt 59 .sub 54 58,v 9 59]))))
 (.reg [v 30 10,bi 31 .add 30 1,v 10 31]))))))
 (.seq (.block 4 (.loop (.seq (q [v 60 9,bi 61 .gtr 60 0]
 (.cond (.t 61) .skip
 (.exit 4)))
 (.seq (.block 5 (q [vi 11 0]
 (.seq (q [vi 12 1]
 (.block 6 (.loop (.seq (q [v 64 12,v 65 1,ln 66 65,bt 67 .lss 64 66]
 (.cond (.t 67) .skip
 (.exit 6)))
 (.seq (.block 7 (.seq (.dreg [v 70 8,v 71 12,ix 72 1 70 71,w 73 false 1 72 3,v 74 8,v 75 11,ix 76 1 74 75,w 77 false 1 76 7,bt 78 .gtr 73 77])
 (k 78 (.reg [v 79 12,v 11 79]))))
 (.reg [v 68 12,bi 69 .add 68 1,v 12 69]))))))
 (q [v 80 7,v 81 11,ix 82 1 80 81,l 83 false 1 82,bi 84 .add 83 1,ix 85 1 80 81,s 1 85 84]
 (.reg [v 86 8,v 87 11,ix 88 1 86 87,n (.store 1 (.t 88) (i (-1)))])))))
 (.reg [v 62 9,bi 63 .sub 62 1,v 9 63])))))
 (q [v 89 7,v 4 89]
 .ret))))))))⟩
def a30:AFn:=⟨19,[.tmp 4],(q [vi 4 0]
 (.seq (q [v 5 0,bi 6 .lss 5 1,v 7 6,g 8 (m 0) 7 false,gb 9 .gtr (.t 8) (i 2147483646) 7 false,pt 10 7 9,v 11 10,g 12 (m 1) 11 false,gb 13 .lss (.t 12) (i 0) 11 false,pt 14 11 13,v 15 14,g 16 (m 1) 15 false,gb 17 .gtr (.t 16) (i 256) 15 false,pt 18 15 17]
 (k 18 (q [vi 4 3]
 .ret)))
 (q [vi 4 0]
 .ret)))⟩
def a31:AFn:=⟨49,[.tmp 4],(q [o 4 (.mv (.k (.nils)))]
 (q [o 5 (.mv (.k (.nils)))]
 (.seq (q [vi 6 0]
 (.block 0 (.loop (.seq (q [v 9 6,v 10 1,bt 11 .lss 9 10]
 (.cond (.t 11) .skip
 (.exit 0)))
 (.seq (.block 1 (.reg [v 14 5,v 15 6,o 16 (.bslice 1 1 [.int .i64 0] [(0,1,(.t 15))]),o 17 (.app 1 8 (.t 14) (.t 16)),v 5 17]))
 (.reg [v 12 6,bi 13 .add 12 1,v 6 13]))))))
 (.seq (q [vi 7 0]
 (.block 2 (.loop (.seq (q [v 18 7,bi 19 .add 18 1,v 20 1,bt 21 .lss 19 20]
 (.cond (.t 21) .skip
 (.exit 2)))
 (.seq (.block 3 (q [v 24 0,b 25 .mul (i 48271) (.t 24),bi 26 .rem 25 2147483647,v 0 26]
 (q [v 27 7,v 28 0,v 29 1,v 30 7,bt 31 .sub 29 30,bt 32 .rem 28 31,bt 33 .add 27 32,v 8 33]
 (.dreg [v 34 5,v 35 7,v 36 5,v 37 8,v 38 5,v 39 8,ix 40 1 38 39,w 41 false 1 40 7,v 42 5,v 43 7,ix 44 1 42 43,w 45 false 1 44 11,ix 46 1 34 35,s 1 46 41,ix 47 1 36 37,s 1 47 45]))))
 (.reg [v 22 7,bi 23 .add 22 1,v 7 23]))))))
 (q [v 48 5,v 4 48]
 .ret)))))⟩
def tab:T AFn:=(.node (.node (.node (.node (.node (.node .nil (some a31) .nil) none .nil) none .nil) none (.node .nil none (.node .nil (some a27) .nil))) none .nil) none (.node (.node .nil (some a4) (.node .nil none (.node .nil (some a28) .nil))) none (.node .nil none (.node .nil none (.node .nil (some a30) .nil)))))
section
open Go.Proofs
theorem b4:Chk 4 a4:=by unfold Chk;kernel_rfl
theorem b27:Chk 27 a27:=by unfold Chk;kernel_rfl
theorem b28:Chk 28 a28:=by unfold Chk;kernel_rfl
theorem b30:Chk 30 a30:=by unfold Chk;kernel_rfl
theorem b31:Chk 31 a31:=by unfold Chk;kernel_rfl
theorem all:T.Forall Chk tab (fun n=>n):=⟨C.no,⟨C.no,⟨C.no,⟨C.no,⟨C.no,⟨C.yes b31,trivial,trivial⟩,trivial⟩,trivial⟩,⟨C.no,trivial,⟨C.yes b27,trivial,trivial⟩⟩⟩,trivial⟩,⟨C.no,⟨C.yes b4,trivial,⟨C.no,trivial,⟨C.yes b28,trivial,trivial⟩⟩⟩,⟨C.no,trivial,⟨C.no,trivial,⟨C.yes b30,trivial,trivial⟩⟩⟩⟩⟩
theorem good (n:Nat) (a:AFn) (h:tab.get n=some a):chk Tryz.prog n=some a:=T.get_forall tab (fun n=>n) all n a h
end
end Go.Ae.Hd
set_option linter.unusedVariables false
set_option linter.unusedSimpArgs false
namespace Go.Ae
noncomputable section
def AppN (x:Option AObj) (h:Hp):Option (AV×Hp):=
 match x with
 |some (.row (x::_) _ _)=>some (.sl h.next 0 1 1,h.push fun s=> .row [x] true s)
 |_=>none
section
variable {h:Hp} {u t n b st st':Nat} {own:Bool} {x:AV} {cs cs':List AV}
theorem AppN.row:AppN (some (.row (x::cs) own st)) h=some (.sl h.next 0 1 1,h.push fun s=> .row [x] true s):=rfl
end
end
end Go.Ae
set_option linter.unusedVariables false
set_option linter.unusedSimpArgs false
set_option maxRecDepth 100000
namespace Go.Ae
open Bg
noncomputable section
theorem OwnZ.sq {kd:IntKind} {h0 h:Hp} {v:AV} {n:Nat} {l:List Nat} (o:OwnZ 1 h0 h v n (l.map (wd kd))) (hl:l.length=n):Sq kd h v l:=by
 obtain⟨_,⟨rfl,rfl⟩|⟨t,st,rfl,hg,h1,h2,h3⟩⟩:=o
 ·have:l=[]:=List.length_eq_zero_iff.1 hl
  subst this;exact Sq.nil
 ·subst hl;exact Sq.all hg h2 h3
section
variable {h:Hp} {K:AV→Hp→Prop}
end
end
end Go.Ae
set_option linter.unusedVariables false
set_option linter.unusedSimpArgs false
set_option maxRecDepth 100000
set_option maxHeartbeats 4000000
namespace Go.Ae
open So Bg N Go.Proofs
noncomputable section
def drS (s:Nat):Nat→Nat
 |0=>s
 |k+1=>48271*drS s k%2147483647
theorem drS_le {s:Nat} (hs:s≤2147483646):∀k,drS s k≤2147483646
 |0=>hs
 | k+1=>by
  have:drS s (k+1)<2147483647:=Nat.mod_lt _ (by decide)
  omega
def drJ (s n k:Nat):Nat:=k+drS s (k+1)%(n-k)
def drD (s n:Nat):Nat→Nat→Nat
 |0=>fun k=>k
 |k+1=>updF (updF (drD s n k) k (drD s n k (drJ s n k))) (drJ s n k) (drD s n k k)
theorem drJ_lt {s n k:Nat} (h:k<n):drJ s n k<n:=by
 have:drS s (k+1)%(n-k)<n-k:=Nat.mod_lt _ (by omega)
 unfold drJ;omega
def drE (s n:Int):Int:=if s<1∨2147483646<s∨n<0∨256<n then 3 else 0
def Rq (h:Hp) (v:AV) (n:Nat) (d:Nat→Nat):Prop:=(v= .nils∧n=0)∨∃a,v= .sl a 0 n 1∧Rw h a n d
section
variable {h h' hp:Hp} {K:AV→Hp→Prop} {tm:T AV} {n t f s a b c d k m q l:Nat} {e e':Nat→Nat} {v va vb:AV} {w la lb:List Nat}
theorem Rw.sq (A:Rw h t n e):Sq .i64 h (.sl t 0 n 1) (Wn n e):=by
 obtain⟨st,hg,h1,h2⟩:=A
 have:=Sq.all (l:=Wn n e) hg h2 h1
 rwa[Wn_len]at this
theorem Rq.sq (A:Rq h v n e):Sq .i64 h v (Wn n e):=by
 rcases A with⟨rfl,rfl⟩|⟨a,rfl,A⟩
 ·exact Sq.nil
 ·exact A.sq
theorem c29e {s n:Int} (he:drE s n=3):Gv E2 29 [.int .i64 s,.int .i64 n] h (.tup [.nils,.int .i64 3]):=by
 refine Gv.of (CallWp.fn (fn:=C.a29) rfl rfl rfl ?_)
 unfold C.a29
 have hx:s<1∨2147483646<s∨n<0∨256<n:=by
  unfold drE at he
  by_cases c:s<1∨2147483646<s∨n<0∨256<n
  ·exact c
  ·rw[if_neg c]at he;omega
 by_cases c1:s<1
 ·repeat' (with_reducible first|simp(disch:=first|exact okD|fail) only[go_sem,seval,c1]|(apply Spl.i<;>intro hc))
 by_cases c2:2147483646<s
 ·repeat' (with_reducible first|simp(disch:=first|exact okD|fail) only[go_sem,seval,c1,c2]|(apply Spl.i<;>intro hc))
 by_cases c3:n<0
 ·repeat' (with_reducible first|simp(disch:=first|exact okD|fail) only[go_sem,seval,c1,c2,c3]|(apply Spl.i<;>intro hc))
 have c4:256<n:=by omega
 repeat' (with_reducible first|simp(disch:=first|exact okD|fail) only[go_sem,seval,c1,c2,c3,c4]|(apply Spl.i<;>intro hc))
theorem c29 (h1:1≤s) (h2:s≤2147483646) (hn:n≤256):Gp E2 29 [.int .i64 s,.int .i64 n] h fun v h'=>∃a,v= .tup [.sl a 0 n 1,.int .i64 0]∧Rw h' a n (drD s n (n-1)):=by
 refine Gp.of (CallWp.fn (fn:=C.a29) rfl rfl rfl ?_)
 unfold C.a29
 have c1:¬(s:Int)<1:=by omega
 have c2:¬(2147483646:Int)<s:=by omega
 have c3:¬(n:Int)<0:=by omega
 have c4:¬(256:Int)<n:=by omega
 have mk:=fun{h:Hp} {K:AV→Hp→Prop}=>MksK.int' (h:=h) (K:=K) (b:=8) (z:= .int .i64 0) (m:=(n:Int)) n rfl rfl (by omega)
 repeat' (with_reducible first|simp(disch:=first|exact okD|fail) only[go_sem,seval,c1,c2,c3,c4,mk]|(apply Spl.i<;>intro hc))
 rw[rep_Wn]
 refine Wp.loopI (fun mm s'=>∃(i:Nat),val s'.tm (.t 0)= .int .i64 s∧val s'.tm (.t 1)= .int .i64 n∧val s'.tm (.t 6)= .sl h.next 0 n 1∧val s'.tm (.t 28)= .int .i64 n∧val s'.tm (.t 29)= .int .i64 i∧
  Grs h s'.hp∧Rw s'.hp h.next n (fun k=>if k<i then k else 0)∧i≤n∧n-i=mm) (n:=n) ?_ ?_
 ·exact⟨0,by simp(disch:=first|exact okD|fail) only[go_sem,seval],by simp(disch:=first|exact okD|fail) only[go_sem,seval],by simp(disch:=first|exact okD|fail) only[go_sem,seval],by simp(disch:=first|exact okD|fail) only[go_sem,seval],by(simp(disch:=first|exact okD|fail) only[go_sem,seval])<;>rfl,(Grs.refl _).push,Rw.congr (AtS.push) fun k _=>by rw[if_neg (by omega)],Nat.zero_le _,rfl⟩
 ·rintro mm ⟨tm,hp⟩ ⟨i,k0,k1,k6,k28,k29,G,A,hil,rfl⟩
  simp only at k0 k1 k6 k28 k29 G A
  by_cases c0:i<n
  ·have c':(i:Int)<n:=by omega
   obtain⟨h1,s1,C1,A1,n1⟩:=A.st c0 i
   have A2:=Rw.congr (e:=fun k=>if k<i+1 then k else 0) A1 fun k _=>by
    unfold updF
    by_cases q:k=i
    ·rw[if_pos q,if_pos (by omega),q]
    ·rw[if_neg q]
     show _=(if k<i then k else 0)
     by_cases q':k<i
     ·rw[if_pos q',if_pos (by omega)]
     ·rw[if_neg q',if_neg (by omega)]
   have G1:=C1.grs G (Nat.le_refl _)
   repeat' (with_reducible first|simp(disch:=first|exact okD|fail) only[go_sem,seval,k0,k1,k6,k28,k29,c',s1]|(apply Spl.i<;>intro hc))
   exact⟨_,by omega,i+1,rfl,G1,A2,c0,rfl⟩
  ·have c':¬(i:Int)<n:=by omega
   obtain rfl:i=n:=by omega
   repeat' (with_reducible first|simp(disch:=first|exact okD|fail) only[go_sem,seval,k0,k1,k6,k28,k29,c']|(apply Spl.i<;>intro hc))
   refine Wp.loopI (fun mm s'=>∃(j:Nat),val s'.tm (.t 1)= .int .i64 i∧val s'.tm (.t 6)= .sl h.next 0 i 1∧val s'.tm (.t 8)= .int .i64 (drS s j)∧val s'.tm (.t 9)= .int .i64 j∧
    Grs h s'.hp∧Rw s'.hp h.next i (drD s i j)∧j≤i-1∧i-1-j=mm) (n:=i-1) ?_ ?_
   ·exact⟨0,by simp(disch:=first|exact okD|fail) only[go_sem,seval,k1],by simp(disch:=first|exact okD|fail) only[go_sem,seval,k6],by(simp(disch:=first|exact okD|fail) only[go_sem,seval,k0])<;>rfl,by(simp(disch:=first|exact okD|fail) only[go_sem,seval])<;>rfl,G,A.congr fun k hk=>by rw[if_pos hk];rfl,Nat.zero_le _,rfl⟩
   ·clear k0 k1 k6 k28 k29 G A c'
    rintro mm ⟨tm,hp⟩ ⟨j,k1,k6,k8,k9,G,A,hj,rfl⟩
    simp only at k1 k6 k8 k9 G A
    by_cases c0:j<i-1
    ·have c':(j:Int)<(i:Int)-1:=by omega
     have hs:=drS_le h2 j
     have eS:drS s (j+1)=48271*drS s j%2147483647:=rfl
     have eJ:drJ s i j=j+drS s (j+1)%(i-j):=rfl
     have hJ:=drJ_lt (s:=s) (n:=i) (k:=j) (by omega)
     have hs1:=drS_le h2 (j+1)
     have l1:=A.ld (i:=drJ s i j) hJ
     have l2:=A.ld (i:=j) (by omega)
     have od:=A.old
     obtain⟨h1,s1,C1,A1,n1⟩:=A.st (i:=j) (by omega) (drD s i j (drJ s i j))
     obtain⟨h2,s2,C2,A2,n2⟩:=A1.st (i:=drJ s i j) hJ (drD s i j j)
     have A3:Rw h2 h.next i (drD s i (j+1)):=A2
     have em:(48271:Int)*(drS s j:Int)%2147483647=((drS s (j+1):Nat):Int):=by rw[eS];omega
     have en:(i:Int)-j=((i-j:Nat):Int):=by omega
     have er:(drS s (j+1):Int)%((i-j:Nat):Int)=((drS s (j+1)%(i-j):Nat):Int):=rfl
     have ej:(j:Int)+((drS s (j+1)%(i-j):Nat):Int)=((drJ s i j:Nat):Int):=by rw[eJ];omega
     have hr:drS s (j+1)%(i-j)<i-j:=Nat.mod_lt _ (by omega)
     have hn0:0<((i-j:Nat):Int):=by omega
     have G1:=C2.grs (C1.grs G (Nat.le_refl _)) (Nat.le_refl _)
     clear A1 A2 eS eJ
     generalize drD s i j (drJ s i j)=x1 at *
     generalize drD s i j j=x2 at *
     generalize drS s (j+1)%(i-j)=r at *
     generalize drJ s i j=y at *
     repeat' (with_reducible first|simp(disch:=first|exact okD|fail) only[go_sem,seval,k1,k6,k8,k9,c',em,en,er,ej,l1,l2,od,s1,s2,b_remP]|(apply Spl.i<;>intro hc))
     exact⟨_,by omega,j+1,rfl,rfl,G1,A3,by omega,rfl⟩
    ·have c':¬(j:Int)<(i:Int)-1:=by omega
     obtain rfl:j=i-1:=by omega
     repeat' (with_reducible first|simp(disch:=first|exact okD|fail) only[go_sem,seval,k1,k6,k8,k9,c']|(apply Spl.i<;>intro hc))
     exact⟨⟨_,rfl,A⟩,G⟩
theorem c109 (ha:Sq .i64 h va la) (hb:Sq .i64 h vb lb) (hla:la.length≤1000000) (hlb:lb.length≤1000000):Gv E2 109 [va,vb] h (.bool (decide (la=lb))):=by
 refine Gv.of (CallWp.fn (fn:=C.a109) rfl rfl rfl ?_)
 unfold C.a109
 have na:=ha.rd.len
 have nb:=hb.rd.len
 by_cases c:la.length=lb.length
 ·have cl:((la.length:Int)=lb.length)=True:=by simp[c]
  repeat' (with_reducible first|simp(disch:=first|exact okD|fail) only[go_sem,seval,na,nb,cl]|(apply Spl.i<;>intro hc))
  refine Wp.loopI (fun mm s=>∃(i:Nat),val s.tm (.t 0)=va∧val s.tm (.t 1)=vb∧val s.tm (.t 5)= .int .i64 i∧
   Grs h s.hp∧la.take i=lb.take i∧i≤la.length∧la.length-i=mm) (n:=la.length) ?_ ?_
  ·exact⟨0,by simp(disch:=first|exact okD|fail) only[go_sem,seval],by simp(disch:=first|exact okD|fail) only[go_sem,seval],by(simp(disch:=first|exact okD|fail) only[go_sem,seval])<;>rfl,Grs.refl _,by simp,Nat.zero_le _,rfl⟩
  ·rintro mm ⟨tm,hp⟩ ⟨i,k0,k1,k5,G,ht,hi,rfl⟩
   simp only at k0 k1 k5 G
   have ra:=(ha.grs G).rd
   have rb:=(hb.grs G).rd
   have na:=ra.len
   by_cases c0:i<la.length
   ·have c':(i:Int)<la.length:=by omega
    have aa:=ra.adr
    have ab:=rb.adr
    have da:=ra.load i c0
    have db:=rb.load i (by omega)
    have oa:=ra.old (by omega)
    have ob:=rb.old (by omega)
    have gb:(0:Int)≤i∧(i:Int)<lb.length:=by omega
    have ta:la.take (i+1)=la.take i++[la.getD i 0]:=by rw[List.take_add_one,List.getD_eq_getElem?_getD,List.getElem?_eq_getElem c0];rfl
    have tb:lb.take (i+1)=lb.take i++[lb.getD i 0]:=by rw[List.take_add_one,List.getD_eq_getElem?_getD,List.getElem?_eq_getElem (by omega:i<lb.length)];rfl
    have hne:la.getD i 0≠lb.getD i 0→la≠lb:=fun h e=>h (by rw[e])
    generalize la.getD i 0=x at *
    generalize lb.getD i 0=y at *
    by_cases cx:x=y
    ·subst cx
     repeat' (with_reducible first|simp(disch:=first|exact okD|fail) only[go_sem,seval,k0,k1,k5,na,c',aa,ab,da,db,oa,ob,gb]|(apply Spl.i<;>intro hc))
     exact⟨_,by omega,i+1,rfl,G,by rw[ta,tb,ht],c0,rfl⟩
    ·have cx':((x:Int)=y)=False:=by simp;omega
     rw[decide_eq_false (hne cx)]
     repeat' (with_reducible first|simp(disch:=first|exact okD|fail) only[go_sem,seval,k0,k1,k5,na,c',aa,ab,da,db,oa,ob,gb,cx']|(apply Spl.i<;>intro hc))
     exact G
   ·have c':¬(i:Int)<la.length:=by omega
    obtain rfl:i=la.length:=by omega
    rw[List.take_length]at ht
    have ht':la=lb:=by rw[ht,c,List.take_length]
    rw[decide_eq_true ht']
    repeat' (with_reducible first|simp(disch:=first|exact okD|fail) only[go_sem,seval,k0,k1,k5,na,c']|(apply Spl.i<;>intro hc))
    exact G
 ·have cl:((la.length:Int)=lb.length)=False:=by simp;omega
  rw[decide_eq_false (fun e=>c (by rw[e]))]
  repeat' (with_reducible first|simp(disch:=first|exact okD|fail) only[go_sem,seval,na,nb,cl]|(apply Spl.i<;>intro hc))
end
end
end Go.Ae
set_option linter.unusedVariables false
set_option linter.unusedSimpArgs false
set_option maxRecDepth 100000
set_option maxHeartbeats 4000000
namespace Go.Ae
open So Bg N Go.Proofs
noncomputable section
def ED:Env:=E3.add Hd.tab
theorem geD:Ge E3 ED:=Ge.add _ _
theorem ge2D:Ge E2 ED:=ge3.trans geD
section
variable {h h' hp:Hp} {K:AV→Hp→Prop} {tm:T AV} {n t f s a b c d k m q l:Nat} {e e':Nat→Nat} {v va vb:AV} {la lb:List Nat} {w:List Int}
theorem gD2 {f:Nat} {args:List AV} {v:AV} (hc:Gv E2 f args h v):Gv ED f args h v:=hc.ge fun _ _ _ hk=>hk.ge ge2D
theorem gD3 {f:Nat} {args:List AV} {v:AV} (hc:Gv E3 f args h v):Gv ED f args h v:=hc.ge fun _ _ _ hk=>hk.ge geD
theorem pD2 {f:Nat} {args:List AV} {p:AV→Hp→Prop} (hc:Gp E2 f args h p):Gp ED f args h p:=by
 obtain⟨v,h',h1,h2,h3⟩:=hc
 exact⟨v,h',h1.ge ge2D,h2,h3⟩
theorem getD_take {w:List Int} {i:Nat} (h:i<w.length):w.take (i+1)=w.take i++[w.getD i 0]:=by
 rw[List.take_add_one,List.getD_eq_getElem?_getD,List.getElem?_eq_getElem h];rfl
theorem wErr_12 (h:w.length=0):wErr w=12:=if_pos h
theorem wErr_5 (h:256<w.length):wErr w=5:=by unfold wErr;rw[if_neg (by omega),if_pos h]
theorem wErr_3 (h0:w.length≠0) (h1:¬256<w.length) (h:∃x∈w,badW x):wErr w=3:=by unfold wErr;rw[if_neg h0,if_neg h1,if_pos h]
theorem wErr_end (h0:w.length≠0) (h1:¬256<w.length) (h:∀x∈w,0≤x∧x≤999999999):wErr w=if smn (wN w) w.length=0 then 6 else 0:=by
 have hb:¬∃x∈w,badW x:=fun⟨x,hx,b⟩=>by have:=h x hx;unfold badW at b;omega
 unfold wErr
 rw[if_neg h0,if_neg h1,if_neg hb]
 by_cases c:∃x∈w,x≠0
 ·rw[if_pos c,if_neg]
  obtain⟨x,hx,hx0⟩:=c
  obtain⟨k,hk,he⟩:=List.getElem_of_mem hx
  have hg:w.getD k 0=x:=by rw[List.getD_eq_getElem?_getD,List.getElem?_eq_getElem hk];exact he
  have h4:=smn_one (d:=wN w) hk
  have h5:=h x hx
  have:0<wN w k:=by unfold wN;rw[hg];omega
  omega
 ·rw [if_neg c,if_pos]
  have:smn (wN w) w.length≤w.length*0:=smn_le fun k hk=>by
   have h6:w.getD k 0=0:=by
    rcases Decidable.em (w.getD k 0=0)with e|e
    ·exact e
    ·exact absurd ⟨_,mem_getD hk,e⟩ c
   unfold wN;rw[h6];exact Nat.le_refl _
  omega
theorem r26 (hS:RowS 1 h v w.length (w.map (AV.int .i64))):Gv E3 26 [v] h (.int .i64 (wErr w)):=by
 refine Gv.of (CallWp.fn (fn:=R.a26) rfl rfl rfl ?_)
 unfold R.a26
 have ln:=hS.rz.len
 by_cases c1:w.length=0
 ·have c1':(w.length:Int)=0:=by omega
  rw[wErr_12 c1]
  repeat' (with_reducible first|simp(disch:=first|exact okD|fail) only[go_sem,seval,ln,c1']|(apply Spl.i<;>intro hc))
 have c1':¬(w.length:Int)=0:=by omega
 by_cases c2:256<w.length
 ·have c2':(256:Int)<w.length:=by omega
  rw[wErr_5 c2]
  repeat' (with_reducible first|simp(disch:=first|exact okD|fail) only[go_sem,seval,ln,c1',c2']|(apply Spl.i<;>intro hc))
 have c2':¬(256:Int)<w.length:=by omega
 repeat' (with_reducible first|simp(disch:=first|exact okD|fail) only[go_sem,seval,ln,c1',c2']|(apply Spl.i<;>intro hc))
 refine Wp.loopI (fun mm s=>∃(i:Nat),val s.tm (.t 0)=v∧val s.tm (.t 4)= .int .i64 i∧val s.tm (.t 3)= .int .i64 (smn (wN w) i)∧
  Grs h s.hp∧(∀x∈w.take i,0≤x∧x≤999999999)∧i≤w.length∧w.length-i=mm) (n:=w.length) ?_ ?_
 ·exact⟨0,by simp(disch:=first|exact okD|fail) only[go_sem,seval],by(simp(disch:=first|exact okD|fail) only[go_sem,seval])<;>rfl,by(simp(disch:=first|exact okD|fail) only[go_sem,seval])<;>rfl,Grs.refl _,by simp,Nat.zero_le _,rfl⟩
 ·rintro mm ⟨tm,hp⟩ ⟨i,k0,k4,k3,G,hok,hi,rfl⟩
  simp only at k0 k4 k3 G
  have rz:=(hS.grs G).rz
  have ln:=rz.len
  have hlt:∀k,k<i→w.getD k 0=(wN w k:Int)∧wN w k≤999999999:=fun k hk=>by
   have:w.getD k 0∈w.take i:=by
    rw[List.getD_eq_getElem?_getD,List.getElem?_eq_getElem (by omega:k<w.length)]
    exact List.mem_take_iff_getElem.2 ⟨k,by omega,rfl⟩
   have:=hok _ this
   unfold wN;omega
  have hb:smn (wN w) i≤i*999999999:=smn_le fun k hk=>(hlt k hk).2
  have hsm:smn (wN w) i≤999999999000:=by
   have:=Nat.mul_le_mul_right 999999999 (show i≤1000 by omega)
   omega
  by_cases c0:i<w.length
  ·have c':(i:Int)<w.length:=by omega
   have adg:=rz.adr
   have ld:=RowS.ldI (hS.grs G) c0
   have od:=RowS.oldI (hS.grs G) (by omega)
   have tk:=getD_take c0
   have mem:=mem_getD c0
   have es:smn (wN w) (i+1)=smn (wN w) i+wN w i:=rfl
   have wn:wN w i=(w.getD i 0).toNat:=rfl
   generalize w.getD i 0=x at *
   by_cases b1:x<0
   ·rw[wErr_3 c1 c2 ⟨x,mem,.inl b1⟩]
    repeat' (with_reducible first|simp(disch:=first|exact okD|fail) only[go_sem,seval,k0,k4,k3,ln,c',adg,ld,od,b1]|(apply Spl.i<;>intro hc))
    all_goals exact G
   ·by_cases b2:999999999<x
    ·rw[wErr_3 c1 c2 ⟨x,mem,.inr b2⟩]
     repeat' (with_reducible first|simp(disch:=first|exact okD|fail) only[go_sem,seval,k0,k4,k3,ln,c',adg,ld,od,b1,b2]|(apply Spl.i<;>intro hc))
     all_goals exact G
    ·repeat' (with_reducible first|simp(disch:=first|exact okD|fail) only[go_sem,seval,k0,k4,k3,ln,c',adg,ld,od,b1,b2]|(apply Spl.i<;>intro hc))
     refine⟨_,by omega,i+1,rfl,?_,G,?_,c0,rfl⟩
     ·exact congrArg (AV.int .i64) (by rw[es,wn];omega)
     ·intro y hy
      rw[tk,List.mem_append]at hy
      rcases hy with hy|hy
      ·exact hok y hy
      ·simp only[List.mem_singleton]at hy;subst hy;omega
  ·have c':¬(i:Int)<w.length:=by omega
   obtain rfl:i=w.length:=by omega
   rw[List.take_length]at hok
   rw[wErr_end c1 c2 hok]
   generalize smn (wN w) w.length=y at *
   by_cases cy:y=0
   ·subst cy
    repeat' (with_reducible first|simp(disch:=first|exact okD|fail) only[go_sem,seval,k0,k4,k3,ln,c']|(apply Spl.i<;>intro hc))
    exact G
   ·have cy':((y:Int)=0)=False:=by simp;omega
    rw[if_neg cy]
    repeat' (with_reducible first|simp(disch:=first|exact okD|fail) only[go_sem,seval,k0,k4,k3,ln,c',cy']|(apply Spl.i<;>intro hc))
    exact G
theorem r30 {s n:Int}:Gv ED 30 [.int .i64 s,.int .i64 n] h (.int .i64 (drE s n)):=by
 refine Gv.of (CallWp.fn (fn:=Hd.a30) rfl rfl rfl ?_)
 unfold Hd.a30
 unfold drE
 by_cases c1:s<1
 ·rw[if_pos (.inl c1)]
  repeat' (with_reducible first|simp(disch:=first|exact okD|fail) only[go_sem,seval,c1]|(apply Spl.i<;>intro hc))
 by_cases c2:2147483646<s
 ·rw[if_pos (.inr (.inl c2))]
  repeat' (with_reducible first|simp(disch:=first|exact okD|fail) only[go_sem,seval,c1,c2]|(apply Spl.i<;>intro hc))
 by_cases c3:n<0
 ·rw[if_pos (.inr (.inr (.inl c3)))]
  repeat' (with_reducible first|simp(disch:=first|exact okD|fail) only[go_sem,seval,c1,c2,c3]|(apply Spl.i<;>intro hc))
 by_cases c4:256<n
 ·rw[if_pos (.inr (.inr (.inr c4)))]
  repeat' (with_reducible first|simp(disch:=first|exact okD|fail) only[go_sem,seval,c1,c2,c3,c4]|(apply Spl.i<;>intro hc))
 rw[if_neg (by omega)]
 repeat' (with_reducible first|simp(disch:=first|exact okD|fail) only[go_sem,seval,c1,c2,c3,c4]|(apply Spl.i<;>intro hc))
theorem own_rw {h0:Hp} {z:List Nat} (O:OwnZ 1 h0 h v n (z.map (wd .i64))) (hz:z=Wn n e):(v= .nils∧n=0)∨∃a,v= .sl a 0 n 1∧Rw h a n e∧h0.next≤a:=by
 subst hz
 obtain⟨_,⟨rfl,rfl⟩|⟨t,st,rfl,hg,h1,h2,h3⟩⟩:=O
 ·exact .inl ⟨rfl,rfl⟩
 ·exact .inr ⟨t,rfl,⟨st,hg,h3,h2⟩,h1⟩
theorem Wn_succ {n:Nat} {e:Nat→Nat}:Wn (n+1) e=Wn n e++[e n]:=by
 unfold Wn;rw[List.range_succ,List.map_append];rfl
theorem d31 (h1:1≤s) (h2:s≤2147483646) (hn:n≤256):Gp ED 31 [.int .i64 s,.int .i64 n] h fun v h'=>Rq h' v n (drD s n (n-1)):=by
 refine Gp.of (CallWp.fn (fn:=Hd.a31) rfl rfl rfl ?_)
 unfold Hd.a31
 repeat' (with_reducible first|simp(disch:=first|exact okD|fail) only[go_sem,seval]|(apply Spl.i<;>intro hc))
 refine Wp.loopI (fun mm s'=>∃(i:Nat) (v:AV),val s'.tm (.t 0)= .int .i64 s∧val s'.tm (.t 1)= .int .i64 n∧val s'.tm (.t 6)= .int .i64 i∧val s'.tm (.t 5)=v∧
  Grs h s'.hp∧OwnZ 1 h s'.hp v i ((Wn i fun k=>k).map (wd .i64))∧i≤n∧n-i=mm) (n:=n) ?_ ?_
 ·exact⟨0,.nils,by simp(disch:=first|exact okD|fail) only[go_sem,seval],by simp(disch:=first|exact okD|fail) only[go_sem,seval],by(simp(disch:=first|exact okD|fail) only[go_sem,seval])<;>rfl,by simp(disch:=first|exact okD|fail) only[go_sem,seval],Grs.refl _,OwnZ.nil,Nat.zero_le _,rfl⟩
 ·rintro mm ⟨tm,hp⟩ ⟨i,v,k0,k1,k6,k5,G,O,hi,rfl⟩
  simp only at k0 k1 k6 k5 G O
  by_cases c0:i<n
  ·have c':(i:Int)<n:=by omega
   repeat' (with_reducible first|simp(disch:=first|exact okD|fail) only[go_sem,seval,k0,k1,k6,k5,c']|(apply Spl.i<;>intro hc))
   refine OwnZ.wp (h0:=h) (b:=8) okO G O rfl (by decide) (by omega) (by omega) fun v' h' G' O'=>?_
   simp(disch:=first|exact okD|fail) only[go_sem,seval,k0,k1,k6]
   exact⟨_,by omega,i+1,v',rfl,rfl,G',by rw[Wn_succ,List.map_append];exact O',c0,rfl⟩
  ·have c':¬(i:Int)<n:=by omega
   obtain rfl:i=n:=by omega
   repeat' (with_reducible first|simp(disch:=first|exact okD|fail) only[go_sem,seval,k0,k1,k6,k5,c']|(apply Spl.i<;>intro hc))
   rcases own_rw O rfl with⟨rfl,rfl⟩|⟨a,rfl,A,ha⟩
   ·refine Wp.loopI (fun mm s'=>val s'.tm (.t 1)= .int .i64 0∧val s'.tm (.t 5)= .nils∧val s'.tm (.t 7)= .int .i64 0∧Grs h s'.hp) (n:=0) ?_ ?_
    ·exact⟨by simp(disch:=first|exact okD|fail) only[go_sem,seval,k1],by simp(disch:=first|exact okD|fail) only[go_sem,seval,k5],by simp(disch:=first|exact okD|fail) only[go_sem,seval],G⟩
    ·rintro mm ⟨tm,hp⟩ ⟨k1,k5,k7,G⟩
     simp only at k1 k5 k7 G
     repeat' (with_reducible first|simp(disch:=first|exact okD|fail) only[go_sem,seval,k1,k5,k7]|(apply Spl.i<;>intro hc))
     exact⟨.inl ⟨rfl,rfl⟩,G⟩
   ·refine Wp.loopI (fun mm s'=>∃(j:Nat),val s'.tm (.t 1)= .int .i64 i∧val s'.tm (.t 5)= .sl a 0 i 1∧val s'.tm (.t 0)= .int .i64 (drS s j)∧val s'.tm (.t 7)= .int .i64 j∧
     Grs h s'.hp∧Rw s'.hp a i (drD s i j)∧j≤i-1∧i-1-j=mm) (n:=i-1) ?_ ?_
    ·exact⟨0,by simp(disch:=first|exact okD|fail) only[go_sem,seval,k1],by simp(disch:=first|exact okD|fail) only[go_sem,seval,k5],by(simp(disch:=first|exact okD|fail) only[go_sem,seval,k0])<;>rfl,by(simp(disch:=first|exact okD|fail) only[go_sem,seval])<;>rfl,G,A,Nat.zero_le _,rfl⟩
    ·clear k0 k1 k6 k5 G A c' O
     rintro mm ⟨tm,hp⟩ ⟨j,k1,k6,k8,k9,G,A,hj,rfl⟩
     simp only at k1 k6 k8 k9 G A
     by_cases c0:j<i-1
     ·have c':(j:Int)+1<(i:Int):=by omega
      have hs:=drS_le h2 j
      have eS:drS s (j+1)=48271*drS s j%2147483647:=rfl
      have eJ:drJ s i j=j+drS s (j+1)%(i-j):=rfl
      have hJ:=drJ_lt (s:=s) (n:=i) (k:=j) (by omega)
      have hs1:=drS_le h2 (j+1)
      have l1:=A.ld (i:=drJ s i j) hJ
      have l2:=A.ld (i:=j) (by omega)
      have od:=A.old
      obtain⟨h1,s1,C1,A1,n1⟩:=A.st (i:=j) (by omega) (drD s i j (drJ s i j))
      obtain⟨h2,s2,C2,A2,n2⟩:=A1.st (i:=drJ s i j) hJ (drD s i j j)
      have A3:Rw h2 a i (drD s i (j+1)):=A2
      have em:(48271:Int)*(drS s j:Int)%2147483647=((drS s (j+1):Nat):Int):=by rw[eS];omega
      have en:(i:Int)-j=((i-j:Nat):Int):=by omega
      have er:(drS s (j+1):Int)%((i-j:Nat):Int)=((drS s (j+1)%(i-j):Nat):Int):=rfl
      have ej:(j:Int)+((drS s (j+1)%(i-j):Nat):Int)=((drJ s i j:Nat):Int):=by rw[eJ];omega
      have hr:drS s (j+1)%(i-j)<i-j:=Nat.mod_lt _ (by omega)
      have hn0:0<((i-j:Nat):Int):=by omega
      have G1:=C2.grs (C1.grs G ha) ha
      clear A1 A2 eS eJ
      generalize drD s i j (drJ s i j)=x1 at *
      generalize drD s i j j=x2 at *
      generalize drS s (j+1)%(i-j)=r at *
      generalize drJ s i j=y at *
      repeat' (with_reducible first|simp(disch:=first|exact okD|fail) only[go_sem,seval,k1,k6,k8,k9,c',em,en,er,ej,l1,l2,od,s1,s2,b_remP]|(apply Spl.i<;>intro hc))
      exact⟨_,by omega,j+1,rfl,rfl,G1,A3,by omega,rfl⟩
     ·have c':¬(j:Int)+1<(i:Int):=by omega
      obtain rfl:j=i-1:=by omega
      repeat' (with_reducible first|simp(disch:=first|exact okD|fail) only[go_sem,seval,k1,k6,k8,k9,c']|(apply Spl.i<;>intro hc))
      exact⟨.inr ⟨_,rfl,A⟩,G⟩
theorem d27 {x y:Int} (ha:Sq .i64 h va la) (hb:Sq .i64 h vb lb) (hla:la.length≤1000000) (hlb:lb.length≤1000000):
  Gv ED 27 [va,.int .i64 x,.int .i64 y,vb] h (.bool (if y≠0 then decide (x=y∧la=[])else decide (x=0∧la=lb))):=by
 refine Gv.of (CallWp.fn (fn:=Hd.a27) rfl rfl rfl ?_)
 unfold Hd.a27
 have na:=ha.rd.len
 by_cases cy:y=0
 ·subst cy
  rw[if_neg (by decide)]
  by_cases cx:x=0
  ·subst cx
   have e1:((0:Int)=0∧la=lb)=(la=lb):=by simp
   simp only[e1]
   repeat' (with_reducible first|simp(disch:=first|exact okD|fail) only[go_sem,seval,na]|(refine Gv.wp (gD2 (c109 (ha.grs okG) (hb.grs okG) hla hlb)) fun _ _ _ _=>?_)|(apply Spl.i<;>intro hc))
   all_goals exact okG
  ·rw[decide_eq_false (by rintro⟨e,_⟩;exact cx e)]
   repeat' (with_reducible first|simp(disch:=first|exact okD|fail) only[go_sem,seval,na,cx]|(refine Gv.wp (gD2 (c109 (ha.grs okG) (hb.grs okG) hla hlb)) fun _ _ _ _=>?_)|(apply Spl.i<;>intro hc))
   all_goals exact okG
 ·rw[if_pos cy]
  by_cases c:la=[]
  ·subst c
   have e1:(x=y∧([]:List Nat)=[])=(x=y):=by simp
   simp only[e1]
   repeat' (with_reducible first|simp(disch:=first|exact okD|fail) only[go_sem,seval,na,cy]|(apply Spl.i<;>intro hc))
   all_goals exact okG
  ·have hl:((la.length:Int)=0)=False:=by simp[c]
   rw[decide_eq_false (by rintro⟨_,e⟩;exact c e)]
   repeat' (with_reducible first|simp(disch:=first|exact okD|fail) only[go_sem,seval,na,cy,hl]|(apply Spl.i<;>intro hc))
   all_goals exact okG
end
end
end Go.Ae
set_option linter.unusedVariables false
set_option linter.unusedSimpArgs false
set_option maxRecDepth 100000
set_option maxHeartbeats 4000000
namespace Go.Ae
open So Bg N Go.Proofs
noncomputable section
def Wi (n:Nat) (d:Nat→Int):List AV:=(List.range n).map fun k=> .int .i64 (d k)
def updI (d:Nat→Int) (i:Nat) (x:Int) (k:Nat):Int:=if k=i then x else d k
def Ri (h:Hp) (t n:Nat) (d:Nat→Int):Prop:=AtS h t (Wi n d)
theorem Wi_len {n:Nat} {d:Nat→Int}:(Wi n d).length=n:=by unfold Wi;simp
theorem Wi_opt {n k:Nat} {d:Nat→Int} (hk:k<n):(Wi n d)[k]?=some (.int .i64 (d k)):=by
 unfold Wi;rw[List.getElem?_map,List.getElem?_range hk];rfl
theorem Wi_congr {n:Nat} {d e:Nat→Int} (h:∀k,k<n→e k=d k):Wi n e=Wi n d:=by
 unfold Wi
 exact List.map_congr_left fun k hk=>by rw[h k (List.mem_range.1 hk)]
theorem Wi_of {n:Nat} {d:Nat→Nat}:(Wn n d).map (wd .i64)=Wi n fun k=>d k:=by
 unfold Wn Wi;rw[List.map_map];rfl
theorem Wi_set {n i:Nat} {x:Int} {d:Nat→Int} (hi:i<n):splice (Wi n d) i [.int .i64 x]=Wi n (updI d i x):=by
 apply List.ext_getElem?
 intro k
 rw[splice_def]
 have hl:(Wi n d).length=n:=Wi_len
 by_cases c:k<n
 ·rw[Wi_opt c]
  unfold updI
  rcases Nat.lt_trichotomy k i with q|q|q
  ·rw[if_neg (by omega),List.getElem?_append_left (by rw[List.length_take];omega),List.getElem?_take,if_pos q,Wi_opt c]
  ·subst q
   rw[if_pos rfl,List.getElem?_append_right (by rw[List.length_take];omega),List.length_take,hl,Nat.min_eq_left (by omega),Nat.sub_self];rfl
  ·rw[if_neg (by omega),List.getElem?_append_right (by rw[List.length_take];omega),List.length_take,hl,Nat.min_eq_left (by omega),List.getElem?_append_right (by simp;omega),List.getElem?_drop]
   simp only[List.length_cons,List.length_nil]
   rw[show i+(0+1)+(k-i-(0+1))=k by omega,Wi_opt c]
 ·have r1:(Wi n (updI d i x))[k]?=none:=List.getElem?_eq_none (by rw[Wi_len];omega)
  rw[r1]
  exact List.getElem?_eq_none (by simp only[List.length_append,List.length_take,List.length_drop,List.length_cons,List.length_nil,hl];omega)
section
variable {h h' hp:Hp} {K:AV→Hp→Prop} {tm:T AV} {n t f s a b c k m q l i j:Nat} {e e':Nat→Nat} {d d':Nat→Int} {v va vb:AV} {w:List Int}
theorem Ri.congr (A:Ri h t n d) (hk:∀k,k<n→d' k=d k):Ri h t n d':=by unfold Ri;rw[Wi_congr hk];exact A
theorem Ri.ld (A:Ri h t n d) (hi:i<n):∀h' K,LoadR false 1 i (h.get t) h' K↔K (.int .i64 (d i)) h':=by
 obtain⟨st,hg,hs,ht⟩:=A
 intro h' K
 rw[hg,LoadR.row,if_pos (by rw[Wi_len];omega),if_neg (by decide),Wi_opt hi]
 exact Iff.rfl
theorem Ri.st (A:Ri h t n d) (hi:i<n) (x:Int):∃h1,(∀K,StoreR 1 t i (.int .i64 x) (h.get t) h K↔K und h1)∧Chg t h h1∧Ri h1 t n (updI d i x)∧h1.next=h.next:=by
 have lt:=AtS.lt A
 obtain⟨st,hg,hs,ht⟩:=A
 refine⟨_,fun K=>?_,Chg.refl.put,AtS.put lt,rfl⟩
 rw[hg,StoreR.row,show AV.cells (.int .i64 x)=[.int .i64 x] from rfl,Wi_set hi]
 constructor
 ·exact fun hk=>hk.2.2.2
 ·exact fun hk=>⟨rfl,by rw[Wi_len];omega,rfl,hk⟩
theorem Ri.old (A:Ri h t n d):∀c0,h.clk≤c0→OldR (h.get t) c0=true:=AtS.old A
theorem Rw.ri (A:Rw h t n e):Ri h t n fun k=>e k:=by
 unfold Rw at A;rw[Wi_of]at A;exact A
open Classical in
def ri (r e:Nat→Nat) (m k:Nat):Int:=if ∃i,i<m∧e i=k then -1 else(r k:Int)
theorem ri_in {r:Nat→Nat} (h:∃i,i<m∧e i=k):ri r e m k= -1:=if_pos h
theorem ri_out {r:Nat→Nat} (h:¬∃i,i<m∧e i=k):ri r e m k=r k:=if_neg h
theorem ri_zero {r:Nat→Nat}:ri r e 0 k=r k:=if_neg fun⟨i,h,_⟩=>by omega
theorem ri_step {r:Nat→Nat}:ri r e (m+1) k=updI (ri r e m) (e m) (-1) k:=by
 unfold updI
 by_cases c:k=e m
 ·rw[if_pos c,ri_in ⟨m,by omega,c.symm⟩]
 ·rw[if_neg c]
  by_cases g:∃i,i<m∧e i=k
  ·obtain⟨i,h1,h2⟩:=g
   rw[ri_in ⟨i,by omega,h2⟩,ri_in ⟨i,h1,h2⟩]
  ·rw[ri_out g,ri_out]
   rintro⟨i,h1,h2⟩
   by_cases h3:i=m
   ·rw[h3]at h2;exact c h2.symm
   ·exact g ⟨i,by omega,h2⟩
theorem pick {r:Nat→Nat} (g:Gd (cmpS r) e 0 n) (hm:m<n) (hj:j<n) (hg:∀k,k<n→ri r e m k<ri r e m j∨ri r e m k=ri r e m j∧j≤k):j=e m:=by
 have hp:=(g.2.1 m (by omega) hm).2
 have h1:ri r e m (e m)=r (e m):=ri_out fun⟨i,h1,h2⟩=>by have:=g.inj (by omega) hm h2;omega
 obtain⟨i,i1,i2,i3⟩:=g.2.2 j (by omega) hj
 have h2:¬∃i,i<m∧e i=j:=fun h=>by
  have:=hg (e m) hp
  rw[ri_in h,h1]at this
  omega
 have h3:¬i<m:=fun h=>h2 ⟨i,h,i3⟩
 by_cases h4:i=m
 ·rw[←h4,i3]
 ·have h5:=g.1 m i (by omega) (by omega) i2
  have h6:=hg (e m) hp
  rw[ri_out h2,h1]at h6
  rw[i3]at h5
  unfold cmpS at h5
  omega
theorem d28c {B r:Nat→Nat} (hn:n≤1000) (hl:l≤n) (hn0:0<n) (hS:RowS 1 h v n (w.map (AV.int .i64))) (k1:val tm (.t 1)=v) (k7:val tm (.t 7)= .sl a 0 n 1) (k8:val tm (.t 8)= .sl b 0 n 1) (k9:val tm (.t 9)= .int .i64 l)
  (G:Grs h hp) (ha:h.next≤a) (hb:h.next≤b) (hab:a≠b) (A:Rw hp a n B) (R:Rw hp b n r) (g:Gd (cmpS r) e 0 n) (hB:∀k,k<n→B k≤2000000000) (hr:∀k,k<n→r k≤4000000000000000000):
  Wp ED (Hd.a28.code.post 6) ⟨tm,hp⟩ (RetQ [.tmp 4] fun v' h'=>(v'= .sl a 0 n 1∧Rw h' a n fun k=>B k+ch e l k)∧Grs h h'):=by
 unfold Hd.a28
 dsimp only[ACode.post]
 have ln:=hS.rz.len
 repeat' (with_reducible first|simp(disch:=first|exact okD|fail) only[go_sem,seval]|(apply Spl.i<;>intro hc))
 refine Wp.loopI (fun mm s=>∃(m:Nat),val s.tm (.t 1)=v∧val s.tm (.t 7)= .sl a 0 n 1∧val s.tm (.t 8)= .sl b 0 n 1∧val s.tm (.t 9)= .int .i64 ((l-m:Nat):Int)∧
  Grs h s.hp∧Rw s.hp a n (fun k=>B k+ch e m k)∧Ri s.hp b n (ri r e m)∧m≤l∧l-m=mm) (n:=l) ?_ ?_
 ·exact⟨0,k1,k7,k8,k9,G,A.congr fun k _=>by rw[ch_zero];rfl,R.ri.congr fun k _=>ri_zero,Nat.zero_le _,rfl⟩
 ·clear k1 k7 k8 k9 G A R
  rintro mm ⟨tm,hp⟩ ⟨m,k1,k7,k8,k9,G,A,R,hml,rfl⟩
  simp only at k1 k7 k8 k9 G A R
  by_cases c:m<l
  ·have c' :(0:Int)<((l-m:Nat):Int):=by omega
   repeat' (with_reducible first|simp(disch:=first|exact okD|fail) only[go_sem,seval,k1,k7,k8,k9,c']|(apply Spl.i<;>intro hc))
   refine Wp.loopI (fun mm s=>∃(j i:Nat),val s.tm (.t 1)=v∧val s.tm (.t 7)= .sl a 0 n 1∧val s.tm (.t 8)= .sl b 0 n 1∧val s.tm (.t 9)= .int .i64 ((l-m:Nat):Int)∧val s.tm (.t 11)= .int .i64 j∧val s.tm (.t 12)= .int .i64 i∧
    s.hp=hp∧j<i∧i≤n∧(∀k,k<i→ri r e m k<ri r e m j∨ri r e m k=ri r e m j∧j≤k)∧n-i=mm) (n:=n-1) ?_ ?_
   ·exact⟨0,1,by simp(disch:=first|exact okD|fail) only[go_sem,seval,k1],by simp(disch:=first|exact okD|fail) only[go_sem,seval,k7],by simp(disch:=first|exact okD|fail) only[go_sem,seval,k8],by simp(disch:=first|exact okD|fail) only[go_sem,seval,k9],by(simp(disch:=first|exact okD|fail) only[go_sem,seval])<;>rfl,by(simp(disch:=first|exact okD|fail) only[go_sem,seval])<;>rfl,rfl,by omega,by omega,fun k hk=> .inr ⟨by rw[show k=0 by omega],by omega⟩,rfl⟩
   ·clear k1 k7 k8 k9
    rintro mm ⟨tm,hq⟩ ⟨j,i,k1,k7,k8,k9,k11,k12,eh,hji,hin,hg,rfl⟩
    simp only at k1 k7 k8 k9 k11 k12 eh
    subst eh
    by_cases c0:i<n
    ·have c0':(i:Int)<n:=by omega
     have li:=R.ld c0
     have lj:=R.ld (i:=j) (by omega)
     have od:=R.old
     have gi:=fun k (hk:k<i+1) (h:k≠i)=>hg k (by omega)
     by_cases cg:ri r e m j<ri r e m i
     ·have hnew:∀k,k<i+1→ri r e m k<ri r e m i∨ri r e m k=ri r e m i∧i≤k:=fun k hk=>by
       by_cases h:k=i
       ·subst h;exact .inr ⟨rfl,Nat.le_refl _⟩
       ·have:=gi k hk h;left;omega
      have keep:=hnew
      clear hg gi
      obtain⟨x,hx⟩:∃x,ri r e m i=x:=⟨_,rfl⟩
      obtain⟨y,hy⟩:∃y,ri r e m j=y:=⟨_,rfl⟩
      rw[hx]at li cg
      rw[hy]at lj cg
      repeat' (with_reducible first|simp(disch:=first|exact okD|fail) only[go_sem,seval,ln,k1,k7,k8,k9,k11,k12,c0',li,lj,od,cg]|(apply Spl.i<;>intro hc))
      exact⟨_,by omega,i,i+1,rfl,rfl,by omega,c0,keep,rfl⟩
     ·have hnew:∀k,k<i+1→ri r e m k<ri r e m j∨ri r e m k=ri r e m j∧j≤k:=fun k hk=>by
       by_cases h:k=i
       ·subst h;omega
       ·exact gi k hk h
      have keep:=hnew
      clear hg gi
      obtain⟨x,hx⟩:∃x,ri r e m i=x:=⟨_,rfl⟩
      obtain⟨y,hy⟩:∃y,ri r e m j=y:=⟨_,rfl⟩
      rw[hx]at li cg
      rw[hy]at lj cg
      repeat' (with_reducible first|simp(disch:=first|exact okD|fail) only[go_sem,seval,ln,k1,k7,k8,k9,k11,k12,c0',li,lj,od,cg]|(apply Spl.i<;>intro hc))
      exact⟨_,by omega,j,i+1,rfl,rfl,by omega,c0,keep,rfl⟩
    ·have c0':¬(i:Int)<n:=by omega
     obtain rfl:i=n:=by omega
     have hjm:=pick g (by omega) hji hg
     subst hjm
     have hm1:m<i:=by omega
     have z:ch e m (e m)=0:=ch_out fun j h1 h2=>by have:=g.inj (by omega) hm1 h2;omega
     have hup:∀k,k<i→B k+ch e (m+1) k=updF (fun k=>B k+ch e m k) (e m) (B (e m)+1) k:=fun k _=>by
      unfold updF
      by_cases c:k=e m
      ·rw[if_pos c,ch_one c.symm,c]
      ·rw[if_neg c,ch_ne fun h=>c h.symm]
     have hb1:=hB (e m) hji
     have la:=A.ld (i:=e m) hji
     have ola:=A.old
     simp only[z,Nat.add_zero]at la
     obtain⟨h1,s1,C1,A1,n1⟩:=A.st (i:=e m) hji (B (e m)+1)
     have R1:Ri h1 b i (ri r e m):=AtS.chg R C1 hab.symm
     obtain⟨h2,s2,C2,R2,n2⟩:=R1.st (i:=e m) hji (-1)
     have A2:=(Rw.congr (e:=fun k=>B k+ch e (m+1) k) A1 hup)
     have A3:Rw h2 a i fun k=>B k+ch e (m+1) k:=AtS.chg A2 C2 hab
     have R3:=R2.congr (d':=ri r e (m+1)) fun k _=>ri_step
     have eb:(B (e m):Int)+1=((B (e m)+1:Nat):Int):=by omega
     have G1:=C2.grs (C1.grs G ha) hb
     clear A1 A2 R1 R2 hup z hg R A hB
     generalize B (e m)=y at *
     generalize e m=x at *
     repeat' (with_reducible first|simp(disch:=first|exact okD|fail) only[go_sem,seval,ln,k1,k7,k8,k9,k11,k12,c0',la,ola,eb,s1,s2]|(apply Spl.i<;>intro hc))
     refine⟨_,by omega,m+1,?_,G1,A3,R3,c,rfl⟩
     exact congrArg (AV.int .i64) (by omega)
  ·obtain rfl:m=l:=by omega
   have c':¬(0:Int)<((m-m:Nat):Int):=by omega
   repeat' (with_reducible first|simp(disch:=first|exact okD|fail) only[go_sem,seval,k1,k7,k8,k9,c']|(apply Spl.i<;>intro hc))
   exact⟨A,G⟩
end
end
end Go.Ae
