/-
  What the rows of chapter 1 have in common: a start at which the listed variables read as their initialisers lay them.
-/
import Derived.Test.YtdaggbpeoldmeaaGreatDoorCards
import Derived.Test.YtdaggbpeoldmeaaGreatDoorTie
import Derived.Test.YtdaggbpeoldmeaaGreatDoorZKR3
import Derived.WalkKit
import Derived.ProofKit
import Derived.OpenShut
import Derived.LaidSub
import Derived.MakeChecks
import Derived.ChangeMaps5
import Derived.Deep.DeepHandedRow
import Derived.Deep.DeepWitnessRowRef
import Derived.Deep.DeepLaidRun
import Derived.Lib.LaidTab
import Derived.Test.YtdaggbpeoldmeaaGreatDoorM4
import Derived.WideKeyArgs
import Derived.Deep.Slices
import Derived.Shelf.Strings.Builder1
import Derived.Shelf.Strings.Builder2
import Derived.Lib.Mul64
set_option linter.unusedVariables false
set_option maxRecDepth 100000
namespace Go.Proofs.YtdaggbpeoldmeaaGreatDoor.laws
open Go.ChangeShapes Go.WideShapes Go.ChangeAt Go.RowKit Go.Ae
open Go.ChangeMaps (open_string shut_string)
section
variable {H:Type} {enc:TypeId×Value→H} {P:Program}
theorem post_below {f:Func} {s:ChangeSpec} {apart fresh handsOn again:Bool} {W W':World} {args:Array Value} {v:Value} {ds gs:List (DataW H)} {before pa pv:List MemPlace}
  (hW:DataW.Whole enc P f.params.toList s.vars apart W args.toList ds gs before)
  (hres:∀(b:Nat) (sp:Nat→Bool) (hd:Bool),DataW.TrodAll enc P W' b sp hd f.resultTypes.toList (v.resultList f.resultTypes.size) (s.fn H (ds++gs)).results [])
  (hargs:∀sp:Nat→Bool,(∀p∈before,sp p.block=true)→DataW.TrodAll enc P W' 0 sp true f.params.toList args.toList (s.fn H (ds++gs)).args pa)
  (hvars:∀sp:Nat→Bool,(∀p∈before,sp p.block=true)→DataW.TrodVars enc P W' sp s.vars (s.fn H (ds++gs)).vars pv)
  (hps:before=pa++pv) (hB:Below W.heap.size W W')
  (hok:∀(j:Nat) (t:TypeId) (r:Value),f.resultTypes[j]?=some t→(v.resultList f.resultTypes.size)[j]?=some r→Value.okWide P W' .any 0 t r):
  s.post enc P f apart fresh handsOn again W args v W':=by
 have hold:∀p∈before,(fun b=>decide (b<W.heap.size)) p.block=true:=fun p hp=>by simpa using hW.lt p hp
 have hlt:=hW.lt
 refine⟨ds,gs,before,[],pa,pv,hW,hres _ _ _,hargs _ hold,hvars _ hold,World.keptBut_mono (fun p hp=>⟨hp,?_⟩) (hB.frame (· ∈before)),fun _=>?_⟩
 ·rw[hps,List.mem_append]at hp
  exact Or.inr hp
 ·obtain⟨_,_,_,_,_,hz,hn⟩:=hW
  refine⟨hok,_,_,([]++pa)++pv,⟨[]++pa,pv,trodAll_append (hargs _ (fun _ _=>rfl)) (hres _ _ _),hvars _ (fun _ _=>rfl),rfl,?_,?_⟩,?_⟩
  ·intro b off hp
   have hp':MemPlace.cell b off∈before:=by rw[hps];simpa using hp
   have hb:b<W.heap.size:=hlt _ hp'
   have e:W'.frozen? ⟨b,off,none⟩=W.frozen? ⟨b,off,none⟩:=by
    simp only[World.frozen?,hB.block b hb]
   rw[e]
   exact hz b off hp'
  ·intro ha
   have:=hn ha
   rw[hps]at this
   simpa using this
  ·intro p hp _
   rw[hps]
   simpa using hp
end
theorem own:ownKnob Tryz.prog.godebug=none:=by kernel_rfl
theorem gPow:Tryz.prog.globalNamed "internal/strconv.uint64pow10" =some 5:=by kernel_rfl
theorem gPowType:(Tryz.prog.globals[5]?).map (·.type)=some 343:=by kernel_rfl
theorem cells343:Tryz.prog.cellsOf 343=20:=by kernel_rfl
theorem cells278:Tryz.prog.cellsOf 278=1:=by kernel_rfl
theorem glob {W:World} {l:List (String×DataW Unit)} (hL:laidMetH Tryz.prog l W) (hl:(l.filter fun x=>x.1== "internal/strconv.uint64pow10")=[("internal/strconv.uint64pow10",Lib.tabData .u64 Lib.pow10Tab)]) (hO:W.ShapedOpen Tryz.prog):L.Glob W W.heap.size:=by
 have h1:=laidMetH.filter (fun x=>x.1== "internal/strconv.uint64pow10") hL
 rw[hl,MakeChecks.laidMetH_plain _ _ _ (by kernel_rfl)]at h1
 obtain⟨m,hm⟩:=Tryz.laysM145.s1_3 W hO
 have hm':W.cell? ⟨0,0,none⟩=some (.int .i64 m):=hm
 refine⟨Nat.le_refl _,Lib.tabBelow_of_tabIs (Lib.tabIs_of_head gPow gPowType Tryz.underlying343 Tryz.underlying278 cells278 cells343 h1),?_,m,hm'⟩
 rcases Nat.eq_zero_or_pos W.heap.size with h0|h0
 ·simp[World.cell?,Array.getElem?_eq_none (show W.heap.size≤0 by omega)]at hm'
 ·exact h0
def leaf:DataW Unit→List Value
 | .lit (.int k n)=>[.int k n]
 |_=>[]
def row:DataW Unit→List Value
 | .agg l=>l.flatMap leaf
 |d=>leaf d
def tab:DataW Unit→List Value
 | .agg l=>l.flatMap row
 |d=>leaf d
noncomputable def low:Nat:=(World.holding Tryz.prog default ⟨#[], #[],[]⟩).heap.size
def putG (h:Array Obj) (g:Nat) (cs:Array Value):Array Obj:=h.modify g fun
 | .cells _ t frozen=> .cells cs t frozen
 |o=>o
noncomputable def laidWorld (os:Os):World:=
 let w0:=World.holding Tryz.prog os ⟨#[.cells #[.string ⟨#[105,110,118,97,108,105,100,32,115,121,110,116,97,120]⟩] 353,.cells #[.string ⟨#[118,97,108,117,101,32,111,117,116,32,111,102,32,114,97,110,103,101]⟩] 353], #[],[]⟩
 let h1:=putG w0.heap 8 (tab Rows.laid_math_bits_deBruijn32tab).toArray
 let h2:=putG h1 9 (tab Rows.laid_math_bits_deBruijn64tab).toArray
 let h3:=putG h2 5 (tab Rows.laid_internal_strconv_uint64pow10).toArray
 let h4:=putG h3 7 (tab Rows.laid_unicode_utf8_acceptRanges).toArray
 let h5:=putG h4 6 (tab Rows.laid_unicode_utf8_first).toArray
 let h6:=putG h5 3 #[.iface 351 (.pointer (some ⟨low,0,none⟩))]
 let h7:=putG h6 4 #[.iface 351 (.pointer (some ⟨low+1,0,none⟩))]
 { w0 with heap:=h7 }
end Go.Proofs.YtdaggbpeoldmeaaGreatDoor.laws
set_option linter.unusedVariables false
set_option linter.unusedSimpArgs false
namespace Go.Ae
noncomputable section
def AV.tok:AV→Nat
 | .sl t _ _ _=>t
 |_=>0
def OwnZ (z:Nat) (h0 h:Hp) (v:AV) (n:Nat) (cs:List AV):Prop:=
 cs.length=n*z∧((v= .nils∧n=0)∨∃t st,v= .sl t 0 n z∧h.get t=some (.row cs true st)∧h0.next≤t∧t<h.next∧st≤h.clk)
def RowS (z:Nat) (h:Hp) (v:AV) (n:Nat) (cs:List AV):Prop:=
 cs.length=n*z∧((v= .nils∧n=0)∨∃t own st,v= .sl t 0 n z∧h.get t=some (.row cs own st)∧t<h.next∧st≤h.clk)
section
variable {h0 h h':Hp} {v:AV} {z n b u st:Nat} {cs xs:List AV} {own:Bool} {K:AV→Hp→Prop}
theorem OwnZ.nil:OwnZ z h0 h .nils 0 []:=⟨by simp,.inl ⟨rfl,rfl⟩⟩
theorem OwnZ.grs (o:OwnZ z h0 h v n cs) (g:Grs h h'):OwnZ z h0 h' v n cs:=by
 obtain⟨hl,o|⟨t,st,e,hg,h1,h2,h3⟩⟩:=o
 ·exact⟨hl,.inl o⟩
 ·exact⟨hl,.inr ⟨t,st,e,(g.get h2).trans hg,h1,Nat.lt_of_lt_of_le h2 g.next,Nat.le_trans h3 g.clk⟩⟩
theorem RowS.grs (o:RowS z h v n cs) (g:Grs h h'):RowS z h' v n cs:=by
 obtain⟨hl,o|⟨t,own,st,e,hg,h2,h3⟩⟩:=o
 ·exact⟨hl,.inl o⟩
 ·exact⟨hl,.inr ⟨t,own,st,e,(g.get h2).trans hg,Nat.lt_of_lt_of_le h2 g.next,Nat.le_trans h3 g.clk⟩⟩
theorem OwnZ.row (o:OwnZ z h0 h v n cs):RowS z h v n cs:=by
 obtain⟨hl,o|⟨t,st,e,hg,h1,h2,h3⟩⟩:=o
 ·exact⟨hl,.inl o⟩
 ·exact⟨hl,.inr ⟨t,true,st,e,hg,h2,h3⟩⟩
theorem cells_z (hu:h.get u=some (.row xs own st)) (hx:xs.length=z):cellsOf h z (.sl u 0 1 z)=some xs:=by
 simp only[cellsOf,hu]
 rw[if_pos ⟨trivial,by omega⟩,←hx]
 simp
theorem OwnZ.app (G:Grs h0 h) (O:OwnZ z h0 h v n cs) (hx:xs.length=z) (hz:0<z) (hl:(n+1)*b≤140737488355328) (hl2:n+1≤140737488355328):
  ∃v' h',appA (h.push fun st=> .row xs true st) z b v (.sl h.next 0 1 z)=some (v',h')∧Grs h0 h'∧OwnZ z h0 h' v' (n+1) (cs++xs):=by
 have hc:cellsOf (h.push fun st=> .row xs true st) z (.sl h.next 0 1 z)=some xs:=cells_z Hp.push_same hx
 have hn0:=G.next
 obtain⟨hlen,⟨rfl,rfl⟩|⟨t,st,rfl,hg,h1,h2,h3⟩⟩:=O
 ·have hcs:cs=[]:=List.length_eq_zero_iff.1 (by omega)
  subst hcs
  refine⟨.sl (h.next+1) 0 1 z,(h.push fun st=> .row xs true st).push fun st=> .row xs true st,?_,G.push.push,by simp[hx],.inr ⟨h.next+1,(h.push fun st=> .row xs true st).clk+1,rfl,Hp.push_same,by omega,?_,Nat.le_refl _⟩⟩
  ·unfold appA
   rw[hc]
   simp only[lenA]
   rw[if_pos ⟨by omega,by omega,hz⟩]
   rfl
  ·show h.next+1<h.next+1+1;omega
 ·have hgt:(h.push fun st=> .row xs true st).get t=some (.row cs true st):=(Hp.push_other (by omega)).trans hg
  refine⟨.sl (h.next+1) 0 (n+1) z,((h.push fun st=> .row xs true st).put t fun s=> .dead s).push fun st=> .row (cs++xs) true st,?_,(G.push.put h1).push,by simp[hx,hlen,Nat.add_mul],.inr ⟨h.next+1,((h.push fun st=> .row xs true st).put t fun s=> .dead s).clk+1,rfl,Hp.push_same,by omega,?_,Nat.le_refl _⟩⟩
  ·unfold appA
   rw[hc]
   simp only[lenA]
   rw[hgt]
   simp only
   rw[if_pos ⟨trivial,by omega,hl,hl2⟩]
   simp only[List.drop_zero,←hlen,List.take_length]
   rfl
  ·show h.next+1<h.next+1+1;omega
theorem OwnZ.wp (hu:u=h.next) (G:Grs h0 h) (O:OwnZ z h0 h v n cs) (hx:xs.length=z) (hz:0<z) (hl:(n+1)*b≤140737488355328) (hl2:n+1≤140737488355328)
  (hk:∀v' h',Grs h0 h'→OwnZ z h0 h' v' (n+1) (cs++xs)→K v' h'):Some2 (appA (h.push fun st=> .row xs true st) z b v (.sl u 0 1 z)) K:=by
 subst hu
 obtain⟨v',h',e,G',O'⟩:=O.app G hx hz hl hl2
 rw[e];exact hk v' h' G' O'
end
def ACode.post:Nat→ACode→ACode
 |0,c=>c
 |n+1,.seq _ r=>r.post n
 |_+1,c=>c
def ACode.pre:Nat→ACode→ACode
 |0,_=> .skip
 |n+1,.seq a r=> .seq a (r.pre n)
 |_+1,c=>c
def ACode.parts:Nat→ACode→Bool
 |0,_=>true
 |n+1,.seq _ r=>r.parts n
 |_+1,_=>false
theorem Wp.cut {E:Env} {Q:Ex→St→Prop}:∀(n:Nat) {c:ACode} {s:St},c.parts n=true→Wp E (c.pre n) s (After E (c.post n) Q)→Wp E c s Q
 |0,c,s,_,h=>Wp.skip_iff.1 h
 | n +1,c,s,hp,h=>by
  cases c with
  | seq a r=>
   have h:=Wp.seq_iff.1 (show Wp E (.seq a (r.pre n)) s (After E (r.post n) Q) from h)
   refine Wp.seq (h.mono fun e s' hq=>?_)
   cases e with
   |nrm=>exact Wp.cut n hp hq
   |exit i=>exact hq
   |ret=>exact hq
  |_=>cases hp
section
variable {α:Type} {f:α→List AV} {k:Nat}
theorem flat_len (hf:∀x,(f x).length=k):∀l:List α,(l.flatMap f).length=l.length*k
 |[]=>by simp
 |x::l=>by rw[List.flatMap_cons,List.length_append,hf,flat_len hf l,List.length_cons,Nat.add_mul];omega
theorem flat_drop (hf:∀x,(f x).length=k):∀(l:List α) (i:Nat),(l.flatMap f).drop (i*k)=(l.drop i).flatMap f
 |[],i=>by simp
 |x::l,0=>by simp
 | x::l,i+1=>by
  rw[List.flatMap_cons,List.drop_succ_cons,←flat_drop hf l i,show(i+1)*k=(f x).length+i*k by rw[hf,Nat.add_mul];omega,List.drop_append]
  simp
theorem flat_at (hf:∀x,(f x).length=k) {l:List α} {i:Nat} (hi:i<l.length):((l.flatMap f).drop (i*k)).take k=f l[i]:=by
 rw[flat_drop hf,List.drop_eq_getElem_cons hi,List.flatMap_cons,←hf l[i],List.take_append]
 simp
theorem flat_get (hf:∀x,(f x).length=k) {l:List α} {i j:Nat} (hi:i<l.length) (hj:j<k):(l.flatMap f)[i*k+j]?=(f l[i])[j]?:=by
 rw[←flat_at hf hi,List.getElem?_take,if_pos hj,List.getElem?_drop]
end
def MupdF (t:Nat) (x:Option (List (AV×AV))) (h:Hp) (K:AV→Hp→Prop):Prop:=
 match x with
 |some es=>K und (h.put t fun s=> .amap es s)
 |none=>False
def MupdR (k:List UInt8) (t:Nat) (v:AV) (x:Option AObj) (h:Hp) (K:AV→Hp→Prop):Prop:=
 match x with
 |some (.amap es _)=>MupdF t (updA k v es) h K
 |_=>False
def MupdK (m k v:AV) (h:Hp) (K:AV→Hp→Prop):Prop:=
 match m,k with
 | .map t,.str k=>MupdR k t v (h.get t) h K
 |_,_=>False
def LkpF (z:AV) (ok:Bool) (x:Option (Option AV)) (h:Hp) (K:AV→Hp→Prop):Prop:=
 match x with
 |some (some v)=>K (if ok then .tup [v,.bool true]else v) h
 |some none=>K (if ok then .tup [z,.bool false]else z) h
 |none=>False
def LkpR (k:List UInt8) (z:AV) (ok:Bool) (x:Option AObj) (h:Hp) (K:AV→Hp→Prop):Prop:=
 match x with
 |some (.amap es _)=>LkpF z ok (findA k es) h K
 |_=>False
def LkpK (m k:AV) (z:AV) (ok:Bool) (h:Hp) (K:AV→Hp→Prop):Prop:=
 match m,k with
 | .map t,.str k=>LkpR k z ok (h.get t) h K
 |_,_=>False
section
variable {E:Env} {s:St} {h:Hp} {K:AV→Hp→Prop} {t st:Nat} {k:List UInt8} {v z x y w:AV} {ok:Bool} {es:List (AV×AV)}
theorem w_mupd' {a b c:Opd}:OpWp E (.mupd a b c) s K↔MupdK (val s.tm a) (val s.tm b) (val s.tm c) s.hp K:=by
 rw[w_mupd]
 simp only[o_mupd,MupdK]
 cases val s.tm a<;>try exact Iff.rfl
 cases val s.tm b<;>try exact Iff.rfl
 rename_i t k
 simp only[MupdR]
 cases s.hp.get t with
 |none=>exact Iff.rfl
 | some o=>
  cases o with
  | amap es st=>
   simp only[MupdF]
   cases updA k (val s.tm c) es<;>exact Iff.rfl
  |_=>exact Iff.rfl
theorem w_lkp' {a b:Opd}:OpWp E (.lkp a b z ok) s K↔LkpK (val s.tm a) (val s.tm b) z ok s.hp K:=by
 rw[w_lkp]
 simp only[o_lkp,LkpK]
 cases val s.tm a<;>try exact Iff.rfl
 cases val s.tm b<;>try exact Iff.rfl
 rename_i t k
 simp only[LkpR]
 cases s.hp.get t with
 |none=>exact Iff.rfl
 | some o=>
  cases o with
  | amap es st=>
   simp only[LkpF]
   cases findA k es with
   |none=>exact Iff.rfl
   |some r=>cases r<;>exact Iff.rfl
  |_=>exact Iff.rfl
theorem MupdK.r:MupdK (.map t) (.str k) v h K↔MupdR k t v (h.get t) h K:=Iff.rfl
theorem MupdR.row:MupdR k t v (some (.amap es st)) h K↔MupdF t (updA k v es) h K:=Iff.rfl
theorem MupdF.som:MupdF t (some es) h K↔K und (h.put t fun s=> .amap es s):=Iff.rfl
theorem LkpK.r:LkpK (.map t) (.str k) z ok h K↔LkpR k z ok (h.get t) h K:=Iff.rfl
theorem LkpR.row:LkpR k z ok (some (.amap es st)) h K↔LkpF z ok (findA k es) h K:=Iff.rfl
theorem LkpF.tt:LkpF z true (some (some v)) h K↔K (.tup [v,.bool true]) h:=Iff.rfl
theorem LkpF.tf:LkpF z true (some none) h K↔K (.tup [z,.bool false]) h:=Iff.rfl
theorem LkpF.ft:LkpF z false (some (some v)) h K↔K v h:=Iff.rfl
theorem LkpF.ff:LkpF z false (some none) h K↔K z h:=Iff.rfl
theorem one_nilf:AV.nilf.one=true:=rfl
theorem one_nili:AV.nili.one=true:=rfl
theorem one_nilp:AV.nilp.one=true:=rfl
theorem one_map:(AV.map t).one=true:=rfl
theorem cells_map:(AV.map t).cells=[.map t]:=rfl
theorem cells_nilf:AV.nilf.cells=[.nilf]:=rfl
attribute [go_sem] w_app one_nilf one_nili one_nilp one_map cells_map cells_nilf w_mkmap w_mupd' w_lkp' MupdK.r MupdR.row MupdF.som LkpK.r LkpR.row LkpF.tt LkpF.tf LkpF.ft LkpF.ff
end
end
end Go.Ae
set_option linter.unusedVariables false
set_option maxRecDepth 100000
namespace Go.Ae
theorem calls_heap {P:Program} {W:World} {E:Env} {ρ:Rho} {h:Hp} {v:AV} {args:List AV} {f:Nat} (EO:EnvOk P W W.heap.size E) (hc:canEnter P f=true) (hr:Gv E f args h v)
  (R:HRel W.heap.size ρ h W) (hok:oks ρ h.next args) (hv:v.free=true):
  Calls P f (encs ρ args).toArray W fun e w'=>e= .returned (enc ρ v)∧Go.RowKit.Below W.heap.size W w':=by
 obtain⟨h',⟨n,hn⟩,_⟩:=hr
 have D:=call_sound EO hn (Go.RowKit.Below.refl _ _) R hok
 unfold Does at D
 rw[run_enter hc]at D
 refine Calls.mono (show Calls P f (encs ρ args).toArray W _ from D) fun e w' he=>?_
 obtain⟨u,rfl,ρ',X,_,rfl⟩:=he
 exact⟨congrArg _ (enc_free _ _ v hv),X.keep.below R⟩
theorem HRel.arg {W:World} {ρ:Rho} {cs:List AV} (h1:∀v∈cs,v.one=true) (h2:oks ρ 1 cs) (hr:W.rangeAt (ρ 0).b (ρ 0).o (encs ρ cs)) (hb:(ρ 0).b<W.heap.size):
  HRel W.heap.size ρ (Hp.nil.push fun s=> .row cs false s) W:=
 (HRel.nil (Nat.le_refl _)).pushed _ (Agree.refl _ _) (Nat.le_refl _) (fun _ _=>rfl) ⟨⟨h1,h2,hr,nofun,fun _=> .inr hb⟩,nofun⟩
theorem range_cells {α:Type} {W:World} {ρ:Rho} {f:α→List AV} {z b o base:Nat} (hz:0<z) (hf:∀x,(f x).length=z) {l:List α}
  (hx:∀i (hi:i<l.length),W.cells? base ((⟨b,o,none⟩:Addr).add (i*z)) z=some (encs ρ (f l[i]))):W.rangeAt b o (encs ρ (l.flatMap f)):=by
 intro j v hj
 rw[encs_map,List.getElem?_map]at hj
 have hlen:=flat_len hf l
 have hjl:j<l.length*z:=by
  rcases Nat.lt_or_ge j (l.length*z)with c|c
  ·exact c
  ·rw[List.getElem?_eq_none (by rw[hlen];exact c)]at hj;cases hj
 have hi:j/z<l.length:=(Nat.div_lt_iff_lt_mul hz).2 hjl
 have hr:j%z<z:=Nat.mod_lt _ hz
 have e:j=j/z*z+j%z:=by rw[Nat.mul_comm];exact(Nat.div_add_mod j z).symm
 obtain⟨_,hlc,hc⟩:=World.cells?_some (hx (j/z) hi)
 have:=hc (j%z) hr
 rw[Addr.add_mid,Addr.add_mid,Nat.add_assoc,←e]at this
 rw[this,encs_map,List.getElem?_map,←flat_get hf hi hr,←e]
 exact hj
end Go.Ae
namespace Go.Proofs.YtdaggbpeoldmeaaGreatDoor.laws
open Go.ChangeShapes Go.WideShapes Go.ChangeAt Go.RowKit Go.Ae
theorem arg_slice {P:Program} {W:World} {base:Nat} {t e:TypeId} {v:Value} (ht:P.underlying t=some (.slice e)) (hv:Value.okWide P W .any base t v):
  v= .slice none 0 0∨∃b o len cap,v= .slice (some ⟨b,o,none⟩) len cap∧len≤cap∧b<W.heap.size:=by
 unfold Value.okWide at hv
 rw[ht]at hv
 unfold Cell.okWide Cell.ok at hv
 rw[ht]at hv
 cases v<;>simp only at hv<;>try(exact hv.elim)
 rename_i a len cap
 cases a with
 | none=>
  left
  cases len<;>cases cap<;>first|rfl|exact hv.elim
 | some a=>
  obtain⟨b,o,sp⟩:=a
  right
  obtain⟨h1,_,h2⟩:=hv
  obtain⟨_,h3,row,cells,h4,_⟩:=h2
  simp only at h3
  subst h3
  refine⟨b,o,len,cap,rfl,h1,?_⟩
  rcases Nat.lt_or_ge b W.heap.size with c|c
  ·exact c
  ·simp[World.shape?,Array.getElem?_eq_none c]at h4
section
variable {H:Type} {enc:TypeId×Value→H} {P:Program}
theorem trodAll_stays (hl:laidOutB P=true) {W W':World} {sp:Nat→Bool} (hb:Below W.heap.size W W'):∀{ts:List TypeId} {vs:List Value} {ds:List (DataW H)} {ps:List MemPlace},
  (∀t∈ts,P.readableRec t=true∧t<P.types.size)→DataW.TrodAll enc P W 0 (fun _=>true) true ts vs ds ps→(∀x∈ps,x.block<W.heap.size)→(∀x∈ps,sp x.block=true)→DataW.TrodAll enc P W' 0 sp true ts vs ds ps
 |[],[],[],_,_,h,_,_=>h
 | t ::_,_::_,_::_,_,hT,⟨p,q,h1,h2,e⟩,hlt,hs=>
  ⟨p,q,WideElems.Trod_stays hl (hT t (List.mem_cons.2 (Or.inl rfl))).1 (hT t (List.mem_cons.2 (Or.inl rfl))).2 h1 (fun x hx=>hb.same (hlt x (by rw[e];exact List.mem_append_left _ hx))) (fun x hx=>hs x (by rw[e];exact List.mem_append_left _ hx)),
   trodAll_stays hl hb (fun t ht=>hT t (List.mem_cons.2 (Or.inr ht))) h2 (fun x hx=>hlt x (by rw[e];exact List.mem_append_right _ hx)) (fun x hx=>hs x (by rw[e];exact List.mem_append_right _ hx)),e⟩
end
end Go.Proofs.YtdaggbpeoldmeaaGreatDoor.laws
set_option linter.unusedVariables false
set_option linter.unusedSimpArgs false
set_option maxRecDepth 100000
set_option maxHeartbeats 4000000
namespace Go.Ae.L
attribute [local go_sem] Oper.semAt_some
open Go.Proofs Go.Ae Go.RowKit Go.Shelf
theorem copy_used (b:Nat) (w:World) (h0:w.cell? ⟨b,0,none⟩=some (.pointer (some ⟨b,0,none⟩))):
  Calls Tryz.prog 290 #[.pointer (some ⟨b,0,none⟩)] w fun e w'=>e= .returned (.tuple #[])∧w'=w:=by
 obtain⟨j,hj,_⟩:=Option.map_eq_some_iff.1 (show(Tryz.prog.info? 263).map (·.size)=some 2 by kernel_rfl)
 go_enter Tryz.func290,Tryz.ntmps290
 go_wp2
 rw[Lib.run_neq_ptr_same w _ (by kernel_rfl) hj]
 go_wp2
 go_end0
 exact⟨rfl,rfl⟩
theorem copy_fresh (b:Nat) (w:World) (h0:w.cell? ⟨b,0,none⟩=some (.pointer none)) (hsh:w.shape? b=some (263,2)) (hfz:w.frozen? ⟨b,0,none⟩=false):
  Calls Tryz.prog 290 #[.pointer (some ⟨b,0,none⟩)] w fun e w'=>e= .returned (.tuple #[])∧w'=w.setCell ⟨b,0,none⟩ (.pointer (some ⟨b,0,none⟩)):=by
 obtain⟨j,hj,hjs⟩:=Option.map_eq_some_iff.1 (show(Tryz.prog.info? 263).map (·.size)=some 2 by kernel_rfl)
 go_enter Tryz.func290,Tryz.ntmps290
 go_wp2
 rw[Lib.run_to_unsafe w ⟨b,0,none⟩ (by kernel_rfl) (by kernel_rfl) hj (by rw[hjs];decide) hsh (Nat.zero_lt_succ 1)]
 simp only[Result.andThen]
 rw[Oper.upon_value]
 go_wp2
 rw[run_callFunc_extern Tryz.func320 (by kernel_rfl) (by kernel_rfl) (by kernel_rfl) (e:=Extern.AbiNoEscape.same) (by kernel_rfl)]
 rw[Lib.run_noEscape]
 simp only[Result.andThen]
 rw[Oper.upon_value]
 go_wp2
 rw[Lib.run_from_unsafe w ⟨b,0,none⟩ (by kernel_rfl) (by kernel_rfl) hj hsh (by kernel_rfl)]
 simp only[Result.andThen]
 rw[Oper.upon_value]
 go_wp2
 go_end0
 exact⟨rfl,rfl⟩
theorem copyCheck (B b:Nat) (bs:List Value) (w:World) (h:Lib.IsBuilder 263 5 B b bs w):
  Calls Tryz.prog 290 #[.pointer (some ⟨b,0,none⟩)] w fun e w'=>e= .returned (.tuple #[])∧(Lib.BuilderAt 263 5 B b (.pointer (some ⟨b,0,none⟩)) bs w'∧Below B w w'):=by
 rcases h with h|h
 ·refine(copy_fresh b w h.cell0 h.shape h.frozen0).mono ?_
  rintro e w' ⟨rfl,rfl⟩
  exact⟨rfl,h.used _,(Below.refl B w).setCell (p:=⟨b,0,none⟩) h.1 _⟩
 ·refine(copy_used b w h.cell0).mono ?_
  rintro e w' ⟨rfl,rfl⟩
  exact⟨rfl,h,Below.refl B _⟩
theorem writeString (B b:Nat) (bs:List Value) (s:ByteArray) (w:World) (h:Lib.IsBuilder 263 5 B b bs w) (hlen:bs.length+s.size≤140737488355328) (hBw:B≤w.heap.size):
  Calls Tryz.prog 234 #[.pointer (some ⟨b,0,none⟩),.string s] w fun e w'=>e= .returned (.tuple #[.int .i64 s.size,.nilIface])∧(Lib.BuilderAt 263 5 B b (.pointer (some ⟨b,0,none⟩)) (bs++Lib.strCells s) w'∧Below B w w'):=by
 obtain⟨i0,hi,hz0,hz1,hz2⟩:=info_parts (show(Tryz.prog.info? 5).map (fun i=>(i.zero,i.size,i.bytes))=some (some (.int .u8 0),1,1) by kernel_rfl)
 go_enter Tryz.func234,Tryz.ntmps234
 go_wp2_with (go_at_call 290;refine(copyCheck B b bs _ h).mono ?_)
 rintro e w1 ⟨rfl,h1,hb1⟩
 obtain⟨hB,v,hbk,hown,hne⟩:=h1
 have c0:w1.cell? ⟨b,0,none⟩=some (.pointer (some ⟨b,0,none⟩)):=by rw[Lib.cell_of_heap hbk];rfl
 have c1:w1.cell? ⟨b,1,none⟩=some v:=by rw[Lib.cell_of_heap hbk];rfl
 go_wp2_with (at_builtin;refine Lib.wpList_append_own_string _ rfl _ _ 261 9 rfl B 5 i0 (by kernel_rfl) (by kernel_rfl) hi hz0 hz1 hz2 _ _ _ rfl hown s rfl ?c3 ?c4 ?c5 ?_)
 case c3=>unfold maxLen;omega
 case c4=>omega
 case c5=>have:=hb1.size;omega
 intro v' w2 hown' hgrow _
 have hlt:b<w1.heap.size:=by
  rcases Nat.lt_or_ge b w1.heap.size with h'|h'
  ·exact h'
  ·simp[Array.getElem?_eq_none h']at hbk
 have hb2:w2.heap[b]?=some (.cells #[.pointer (some ⟨b,0,none⟩),v] 263 (0,0)):=by
  rw[hgrow.block b hlt (fun e=>hne e.symm)]
  exact hbk
 have d0:w2.cell? ⟨b,0,none⟩=some (.pointer (some ⟨b,0,none⟩)):=by rw[Lib.cell_of_heap hb2];rfl
 have d1:w2.cell? ⟨b,1,none⟩=some v:=by rw[Lib.cell_of_heap hb2];rfl
 have f1:w2.frozen? ⟨b,1,none⟩=false:=Lib.frozen_of_heap hb2 1
 obtain⟨ao,n',cap,rfl⟩:∃ao n' cap,v'= .slice ao n' cap:=by
  rcases hown'.2 with⟨hv,_⟩|⟨g,cap,cur,hv,_⟩
  ·exact⟨_,_,_,hv⟩
  ·exact⟨_,_,_,hv⟩
 go_wp2
 go_ret2
 refine⟨rfl,?_,?_⟩
 ·exact Lib.BuilderAt.put (T:=263) (e:=5) hB hb2 (bs':=bs++Lib.strCells s) (by simpa[Lib.strCells_length]using hown') (by decide)
 ·exact(hb1.grown hgrow (by have:=hb1.size;omega) (fun k hk=>(hown.lt k hk).1)).setCell (p:=⟨b,1,none⟩) hB _
end Go.Ae.L
set_option linter.unusedVariables false
set_option linter.unusedSimpArgs false
set_option maxRecDepth 100000
namespace Go.Ae
open Go.Proofs
section
variable {P:Program} {W0:World} {base nt:Nat} {E:Env} {ρ ρ':Rho} {s:St} {a:Act} {w w':World} {h h':Hp} {v:AV} {B:Nat}
def cdparts:Nat→Code→Bool
 |0,_=>true
 |n+1,.seq _ r=>cdparts n r
 |_+1,_=>false
def cdpost:Nat→Code→Code
 |0,c=>c
 |n+1,.seq _ r=>cdpost n r
 |_+1,c=>c
theorem pre_sound (EO:EnvOk P W0 base E) {Q:Exit→Act→World→Prop}:∀(k n:Nat) (c:Code) (s s':St),cdparts k c=true→exec E n ((ccode P nt c).pre k) s=some (.nrm,s')→∀ρ a w,Sim W0 base nt ρ s a w→
  (∀a' w' ρ',Sim W0 base nt ρ' s' a' w'→Ext base ρ s.hp w ρ' s'.hp w'→(cdpost k c).wp P Q a' w')→c.wp P Q a w:=by
 intro k
 induction k with
 | zero=>
  intro n c s s' _ hr ρ a w S H
  cases n with
  |zero=>cases hr
  | succ n=>
   rw[exec_succ]at hr
   obtain⟨_,rfl⟩:=pair_inj (show some (Ex.nrm,s)=some (Ex.nrm,s') from hr)
   exact H a w ρ S (Ext.refl S.rel)
 | succ k ih=>
  intro n c s s' hp hr ρ a w S H
  cases c with
  | seq x y=>
   cases n with
   |zero=>cases hr
   | succ m=>
    rw[exec_succ]at hr
    have hr:s_seq (ccode P nt x) ((ccode P nt y).pre k) E (exec E m) s=some (.nrm,s'):=hr
    unfold s_seq at hr
    refine wp_seq ?_
    split at hr
    ·rename_i s1 h1
     refine wp_mono ((sound EO m).1 x s .nrm s1 nt h1 ρ a w S) fun e1 a1 w1 hq=>?_
     obtain⟨q1,ρ1,S1,X1⟩:=hq
     cases e1<;>first|exact q1.elim|skip
     exact ih m y s1 s' hp hr ρ1 a1 w1 S1 fun a' w' ρ' S' X'=>H a' w' ρ' S' (X1.trans X')
    ·rename_i hne
     exact(hne s' hr).elim
  |_=>exact(Bool.false_ne_true hp).elim
theorem enter_sim {n:Nat} {args:List AV} (R:HRel base ρ h w) (Bl:Go.RowKit.Below base W0 w) (hok:oks ρ h.next args):
  Sim W0 base n ρ { tm:=enterA args 0 .nil,hp:=h } { tmps:=(encs ρ args).toArray++Array.replicate (n-(encs ρ args).toArray.size) undef,defers:=[] } w:=by
 refine⟨R,Bl,rfl,by simp;omega,fun t=>?_⟩
 simp only[val,get_enter,Nat.zero_le,true_and,Nat.zero_add,Nat.sub_zero,Array.getD_eq_getD_getElem?]
 by_cases ht:t<args.length
 ·rw[if_pos ht,Array.getElem?_append_left (by simpa[encs_length]using ht)]
  obtain⟨u,hu⟩:∃u,args[t]?=some u:=⟨args[t],List.getElem?_eq_getElem ht⟩
  simp only[List.getElem?_toArray,encs_map,List.getElem?_map,hu,Option.map_some,Option.getD_some]
  exact⟨trivial,(oks_iff _ _ _).1 hok u (List.mem_of_getElem? hu)⟩
 ·rw[if_neg ht,Array.getElem?_append_right (by simp[encs_length];omega),Array.getElem?_replicate]
  simp only[T.get_nil,Option.getD_none,enc_und]
  exact⟨by split<;>rfl,trivial⟩
theorem reg_pre {ops:Array Oper} {Q:Exit→Act→World→Prop} (MO:MethOk P E) (n:Nat) (CO:∀m,m<n→CallsOk P W0 base E (exec E m)):
  ∀ (m i r:Nat) (os rest:List Oper) (xs:List AOper) (ρ:Rho) (s:St) (a:Act) (w:World) (e:Ex) (s':St),m≤n→ops.toList.drop i=os++rest→All2 (COp P nt ops) os xs→Sim W0 base nt ρ s a w→
   exec E m (.reg xs) s=some (e,s')→(∀a' w' ρ',Sim W0 base nt ρ' s' a' w'→Ext base ρ s.hp w ρ' s'.hp w'→wpOps P ops Q (List.range' (i+os.length) r) a' w')→wpOps P ops Q (List.range' i (os.length+r)) a w:=by
 intro m
 induction m with
 |zero=>intro i r os rest xs ρ s a w e s' _ _ _ _ hr _;cases hr
 | succ m ih =>
  intro i r os rest xs ρ s a w e s' hm hdrop hf S hr hQ
  rw[exec_succ]at hr
  cases hf with
  | nil=>
   obtain⟨rfl,rfl⟩:Ex.nrm=e∧s=s':=by
    have:=pair_inj (show some (Ex.nrm,s)=some (e,s') from hr);exact this
   simpa using hQ a w ρ S (Ext.refl S.rel)
  | cons hx hrest=>
   rename_i o x os xs
   have ho:ops[i]?=some o:=by
    rw[←Array.getElem?_toList]
    have:=congrArg (fun l=>l[0]?) hdrop
    simpa using this
   have hdrop':ops.toList.drop (i+1)=os++rest:=by
    rw[←List.drop_drop,hdrop];rfl
   have hr:s_op x xs E (exec E m) s=some (e,s'):=hr
   have hw:=wanted_eq (a:=a) (ρ:=ρ) (tm:=s.tm) hx.grd fun d b _=>(S.tmp d).1
   have elen:(o::os).length+r=(os.length+r)+1:=by simp;omega
   rw[elen,List.range'_succ,wpOps]
   simp only[ho]
   have hQ':∀a' w' ρ',Sim W0 base nt ρ' s' a' w'→Ext base ρ s.hp w ρ' s'.hp w'→wpOps P ops Q (List.range' (i+1+os.length) r) a' w':=fun a' w' ρ' S' X'=>by
    have:=hQ a' w' ρ' S' X'
    rwa[List.length_cons,show i+(os.length+1)=i+1+os.length by omega]at this
   unfold s_op at hr
   split at hr
   ·rename_i hwt
    rw[hw,hwt]
    simp only[if_true]
    unfold s_cont at hr
    split at hr
    ·rename_i v h' hop
     rcases hx.op with hc|hbad
     ·have D:=op_sound (CO m (by omega)) S.glob MO hc S.evals S.rel hop
      have key:∀u w1,Gives base ρ s.hp w v h' u w1→wpOps P ops Q (List.range' (i+1) (os.length+r)) (a.put o.dst u) w1:=by
       rintro u w1 ⟨ρ1,X,hv,rfl⟩
       have S1:=S.put X hv x.dst hx.lt
       rw[hx.dst]at S1
       rw[hx.dst]at hr
       exact ih (i+1) r os rest xs ρ1 _ _ _ e s' (by omega) hdrop' hrest S1 hr fun a' w' ρ' S' X'=>hQ' a' w' ρ' S' (X.trans X')
      exact .inl (Takes.wp D key)
     ·rw[hbad]at hop;cases hop
    ·cases hr
   ·rename_i hwt
    rw[hw,hwt]
    simp only[Bool.false_eq_true,if_false]
    have S1:=S.put0 x.dst hx.lt
    rw[hx.dst]at S1
    rw[hx.dst]at hr
    exact ih (i+1) r os rest xs ρ _ _ _ e s' (by omega) hdrop' hrest S1 hr hQ'
theorem call_op {o:Oper} {f:FuncId} {args:Array Operand} {ats:Array TypeId} (ho:o.op= .call { callee:= .value (.func f),args:=args,argTypes:=ats }):(execOp a.eval o).run P w=(callFunc f (args.map a.eval)).run P w:=by
 unfold execOp;rw[ho]
 have hf:a.eval (.func f)= .func (.func f) #[] #[]:=rfl
 simp only[resolve,hf,Deferred.ofValue,Sem.run_bind,Sem.run_pure,Result.andThen_ok,invoke]
 simp
theorem ops_call {ops:Array Oper} {i:Nat} {rest:List Nat} {Q:Exit→Act→World→Prop} {o:Oper} {f:FuncId} {args:Array Operand} {ats:Array TypeId} {K:Ending→World→Prop} (hi:ops[i]?=some o) (hg:o.guard=none)
  (ho:o.op= .call { callee:= .value (.func f),args:=args,argTypes:=ats }) (hc:canEnter P f=true) (H:Calls P f (args.map a.eval) w K) (hk:∀e w',K e w'→∃u,e= .returned u∧wpOps P ops Q rest (a.put o.dst u) w'):wpOps P ops Q (i::rest) a w:=by
 rw[wpOps]
 simp only[hi]
 have hw:Region.wanted o (yielded ops a.tmps)=true:=by unfold Region.wanted;rw[hg]
 rw[hw]
 simp only[if_true]
 refine .inl (Takes.wp (K:=fun u w'=>wpOps P ops Q rest (a.put o.dst u) w') ?_ fun u w' h=>h)
 rw[call_op ho,run_enter hc]
 exact H.mono hk
theorem HRel.low (R:HRel base ρ h w) (hb:base≤B) (hlow:∀t o,h.get t=some o→o.owned=true→(ρ t).b<B) (Bl:Go.RowKit.Below B w w'):HRel base ρ h w':=by
  refine⟨Nat.le_trans R.size Bl.size,R.lt,?_,?_,?_,R.apart⟩
  · intro t cs own st ht
    have r:=R.row t cs own st ht
    refine r.later (Agree.refl _ _) (Nat.le_refl _) (R.lt _ _ ht) Bl.size ?_
    cases own with
    |true=>exact .inr (Bl.block _ (hlow t _ ht rfl))
    | false => rcases r.not1 rfl with c|c
               · exact .inl ⟨c,rfl⟩
               · exact .inr (Bl.block _ (Nat.lt_of_lt_of_le c hb))
  · intro t s p st ht
    rw[Bl.block _ (hlow t _ ht rfl)];exact R.iter t s p st ht
  · intro t es st ht
    rw[Bl.block _ (hlow t _ ht rfl)];exact R.map t es st ht
theorem Sim.low (S:Sim W0 base nt ρ s a w) (hb:base≤B) (hlow:∀t o,s.hp.get t=some o→o.owned=true→(ρ t).b<B) (Bl:Go.RowKit.Below B w w'):Sim W0 base nt ρ s a w':=
 ⟨S.rel.low hb hlow Bl,S.glob.trans (Bl.mono hb),S.defers,S.size,S.tmp⟩
theorem HRel.shrink (R:HRel base ρ h w) (R':HRel base ρ' h' w') (ha:Agree h.next ρ ρ') (hg:∀t,t<h.next→h'.get t=h.get t):HRel base ρ h w':=by
 have e:∀t o,h.get t=some o→ρ' t=ρ t∧h'.get t=some o:=fun t o ht=>⟨ha t (R.lt t o ht),(hg t (R.lt t o ht)).trans ht⟩
 refine⟨R'.size,R.lt,?_,?_,?_,R.apart⟩
 ·intro t cs own st ht
  obtain⟨e1,e2⟩:=e t _ ht
  have r:=R.row t cs own st ht
  have r':=R'.row t cs own st e2
  refine⟨r.one,r.ok,?_,?_,r.not1⟩
  ·have:=r'.cells
   rwa[e1,encs_agree ha _ r.ok]at this
  ·intro ho
   have:=r'.own1 ho
   rwa[e1]at this
 ·intro t s p st ht
  obtain⟨e1,e2⟩:=e t _ ht
  have:=R'.iter t s p st e2
  rwa[e1]at this
 ·intro t es st ht
  obtain⟨e1,e2⟩:=e t _ ht
  obtain⟨q1,q2,ms,c,q3,q4⟩:=R.map t es st ht
  obtain⟨p1,p2,ms',c',p3,p4⟩:=R'.map t es st e2
  rw[e1]at p1 p3
  refine⟨p1,q2,ms',c',p3,p4.trans ?_⟩
  exact List.map_congr_left fun x hx=>by rw[enc_agree ha _ (q2 x hx).2.1,enc_agree ha _ (q2 x hx).2.2]
theorem bld_keep {bs:List Value} (hB:Lib.IsBuilder 263 5 B B bs w) (hk:∀k,B≤k→k<w.heap.size→w'.heap[k]?=w.heap[k]?):Lib.IsBuilder 263 5 B B bs w':=by
 have key:∀p,Lib.BuilderAt 263 5 B B p bs w→Lib.BuilderAt 263 5 B B p bs w':=by
  rintro p ⟨h1,v,hbk,⟨hl,h0|⟨g,cap,cur,hv,hb,hh,r⟩⟩,hne⟩
  ·refine⟨h1,v,(hk _ (Nat.le_refl _) (Array.getElem?_eq_some_iff.1 hbk).1).trans hbk,⟨hl,.inl h0⟩,hne⟩
  ·exact⟨h1,v,(hk _ (Nat.le_refl _) (Array.getElem?_eq_some_iff.1 hbk).1).trans hbk,⟨hl,.inr ⟨g,cap,cur,hv,hb,(hk _ hb (Array.getElem?_eq_some_iff.1 hh).1).trans hh,r⟩⟩,hne⟩
 rcases hB with c|c
 ·exact .inl (key _ c)
 ·exact .inr (key _ c)
end
end Go.Ae
set_option linter.unusedVariables false
set_option linter.unusedSimpArgs false
set_option maxRecDepth 100000
namespace Go.Ae
open Go.Proofs Go.RowKit
noncomputable def B264:Code:=match Tryz.f264.body with|some c=>c|none=> .skip
noncomputable def cl:Code→Code
 | .seq a _=>a
 | .block _ c=>c
 | .loop c=>c
 | .cond _ a _=>a
 |c=>c
noncomputable def cr:Code→Code
 | .seq _ b=>b
 | .cond _ _ b=>b
 |c=>c
noncomputable def rops:Code→Array Oper
 | .region _ ops _=>ops
 |_=> #[]
noncomputable def og (c:Code) (i:Nat):Oper:=match(rops c)[i]? with|some o=>o|none=>{ dst:=none,op:= .assign (.tmp 0),type:=0,pos:= "",after:= #[],guard:=none }
noncomputable def U0:Code:=cdpost 6 B264
noncomputable def R15:Code:=cl U0
noncomputable def R16:Code:=cl (cl (cr U0))
noncomputable def R17:Code:=cl (cr (cl (cr U0)))
noncomputable def R18:Code:=cl (cl (cr (cr U0)))
noncomputable def LB:Code:=cl (cl (cr (cl (cr (cr U0)))))
noncomputable def R19:Code:=cl (cl LB)
noncomputable def R21:Code:=cl (cl (cr LB))
noncomputable def R20:Code:=cr (cr LB)
noncomputable def R22:Code:=cl (cr (cr (cr U0)))
theorem b264:Tryz.f264.body=some B264:=by kernel_rfl
theorem t264:U0= .seq R15 (.seq (.seq R16 (.cond (.tmp 54) R17 .skip)) (.seq (.seq R18 (.block 2 (.loop (.seq (.seq R19 (.cond (.tmp 60) .skip (.exit 2))) (.seq (.block 3 R21) R20))))) (.seq R22 .ret))):=by kernel_rfl
theorem s15:R15= .region 15 (rops R15) false:=by kernel_rfl
theorem s17:R17= .region 17 (rops R17) false:=by kernel_rfl
theorem s21:R21= .region 21 (rops R21) false:=by kernel_rfl
theorem s22:R22= .region 22 (rops R22) false:=by kernel_rfl
theorem z15:(rops R15).size=1:=by kernel_rfl
theorem z17:(rops R17).size=1:=by kernel_rfl
theorem z21:(rops R21).size=5:=by kernel_rfl
theorem z22:(rops R22).size=2:=by kernel_rfl
theorem o15:(rops R15)[0]?=some (og R15 0):=by kernel_rfl
theorem o17:(rops R17)[0]?=some (og R17 0):=by kernel_rfl
theorem o21:(rops R21)[4]?=some (og R21 4):=by kernel_rfl
theorem o22:(rops R22)[0]?=some (og R22 0):=by kernel_rfl
theorem p15:(og R15 0).op= .alloc 263:=by kernel_rfl
theorem p17:(og R17 0).op= .call { callee:= .value (.func 234),args:= #[.tmp 10,.const (.string ⟨#[45]⟩)],argTypes:= #[263,9] }:=by kernel_rfl
theorem p21:(og R21 4).op= .call { callee:= .value (.func 234),args:= #[.tmp 10,.tmp 66],argTypes:= #[263,9] }:=by kernel_rfl
theorem p22:(og R22 0).op= .call { callee:= .value (.func 235),args:= #[.tmp 10],argTypes:= #[263] }:=by kernel_rfl
theorem g15:(og R15 0).guard=none:=by kernel_rfl
theorem g17:(og R17 0).guard=none:=by kernel_rfl
theorem g21:(og R21 4).guard=none:=by kernel_rfl
theorem g22:(og R22 0).guard=none:=by kernel_rfl
theorem d15:(og R15 0).dst=some 10:=by kernel_rfl
theorem d17:(og R17 0).dst=some 55:=by kernel_rfl
theorem d21:(og R21 4).dst=some 67:=by kernel_rfl
theorem d22:(og R22 0).dst=some 68:=by kernel_rfl
theorem k16:ccode Tryz.prog 69 R16= .reg [C.o 54 (C.m 3)]:=by kernel_rfl
theorem k18:ccode Tryz.prog 69 R18= .reg [C.o 56 (C.m 6),C.o 57 (.len .slice (.t 56)),C.o 58 (.bin .sub .none (.t 57) (.k (.int .i64 1))),C.o 11 (C.m 58)]:=by kernel_rfl
theorem k19:ccode Tryz.prog 69 R19= .reg [C.o 59 (C.m 11),C.o 60 (.bin .geq .none (.t 59) (.k (.int .i64 0)))]:=by kernel_rfl
theorem k20:ccode Tryz.prog 69 R20= .reg [C.o 61 (C.m 11),C.o 62 (.bin .sub .none (.t 61) (.k (.int .i64 1))),C.o 11 (C.m 62)]:=by kernel_rfl
theorem k21:copers Tryz.prog 69 (rops R21) ((rops R21).toList.take 4)=some [C.o 63 (C.m 6),C.o 64 (C.m 11),C.o 65 (.iadr 1 (.t 63) (.t 64)),C.o 66 (.load false 1 (.t 65))]:=by kernel_rfl
theorem k22:copers Tryz.prog 69 (rops R22) ((rops R22).toList.drop 1)=some [C.o 2 (C.m 68)]:=by kernel_rfl
section
variable {W0:World} {base:Nat} {E:Env} {ρT:Rho} {hT:Hp} {wT:World} {tb:Nat} {D D':St→Prop} {bs:List UInt8} {a:Act} {w:World}
structure TJ (W0:World) (base:Nat) (ρT:Rho) (hT:Hp) (wT:World) (D:St→Prop) (bs:List UInt8) (a:Act) (w:World):Prop where
 ex:∃ρ s,Sim W0 base 69 ρ s a w∧D s∧s.hp=hT∧Agree hT.next ρT ρ
 keep:Keep ρT hT wT w
 bld:Lib.IsBuilder 263 5 wT.heap.size wT.heap.size (Lib.byteCells bs) w
structure TB (base:Nat) (ρT:Rho) (hT:Hp) (wT:World) (tb:Nat):Prop where
 size:base≤wT.heap.size
 low:∀t o,hT.get t=some o→o.owned=true→t<hT.next∧(ρT t).b<wT.heap.size
 tok:tb<hT.next∧(ρT tb).b=wT.heap.size∧(ρT tb).o=0
theorem TB.low' (T:TB base ρT hT wT tb) {ρ:Rho} (ha:Agree hT.next ρT ρ):∀t o,hT.get t=some o→o.owned=true→(ρ t).b<wT.heap.size:=fun t o ht ho=>by
 obtain⟨h1,h2⟩:=T.low t o ht ho
 rw[ha t h1];exact h2
theorem TB.enc (T:TB base ρT hT wT tb) {ρ:Rho} (ha:Agree hT.next ρT ρ):enc ρ (.ptr tb 0)= .pointer (some ⟨wT.heap.size,0,none⟩):=by
 obtain⟨h1,h2,h3⟩:=T.tok
 rw[←ha tb h1]at h2 h3
 simp[Ae.enc,h2,h3]
theorem TJ.code (EO:EnvOk Tryz.prog W0 base E) (T:TB base ρT hT wT tb) (J:TJ W0 base ρT hT wT D bs a w) {c:Code} (hw:∀s,D s→s.hp=hT→Wp E (ccode Tryz.prog 69 c) s fun e s'=>e= .nrm∧D' s'∧s'.hp=s.hp):
  c.wp Tryz.prog (fun e a' w'=>e= .normal∧TJ W0 base ρT hT wT D' bs a' w') a w:=by
 obtain⟨⟨ρ,s,S,hD,hh,ha⟩,K,Bd⟩:=J
 obtain⟨e,s',⟨n,hn⟩,rfl,hD',hh'⟩:=hw s hD hh
 refine wp_mono ((sound EO n).1 c s .nrm s' 69 hn ρ a w S) fun e1 a1 w1 hq=>?_
 obtain⟨q1,ρ1,S1,X1⟩:=hq
 cases e1<;>first|exact q1.elim|skip
 have hsz:=K.size
 have X1a:Agree hT.next ρ ρ1:=by rw[←hh];exact X1.agree
 refine⟨rfl,⟨ρ1,s',S1,hD',hh'.trans hh,ha.trans X1a (Nat.le_refl _)⟩,?_,?_⟩
 ·refine⟨X1.keep.os.trans K.os,X1.keep.tape.trans K.tape,X1.keep.output.trans K.output,Nat.le_trans K.size X1.keep.size,fun k hk hn=>?_⟩
  refine(X1.keep.block k (Nat.lt_of_lt_of_le hk K.size) fun t o ht ho hb=>?_).trans (K.block k hk hn)
  rw[hh]at ht
  obtain⟨h1,h2⟩:=T.low t o ht ho
  rw[ha t h1]at hb
  exact hn t o ht ho hb
 ·refine bld_keep Bd fun k hk hlt=>X1.keep.block k hlt fun t o ht ho hb=>?_
  rw[hh]at ht
  have:=T.low' ha t o ht ho
  omega
theorem TJ.wrote (T:TB base ρT hT wT tb) {ρ:Rho} {s:St} {w':World} {v:AV} {d:Nat} {bs':List UInt8} (S:Sim W0 base 69 ρ s a w) (hh:s.hp=hT) (ha:Agree hT.next ρT ρ) (K:Keep ρT hT wT w) (hb:Below wT.heap.size w w')
  (hv:∀N,ok ρ N v) (hd:d<69) (hD:D' { tm:=s.tm.set d v,hp:=s.hp }) (Bd:Lib.IsBuilder 263 5 wT.heap.size wT.heap.size (Lib.byteCells bs') w'):TJ W0 base ρT hT wT D' bs' (a.put (some d) (enc ρ v)) w':=by
 have S1:=S.low (w':=w') T.size (by rw[hh];exact T.low' ha) hb
 have S2:=S1.put (Ext.refl S1.rel) (hv _) (some d) (fun x e=>by cases e;exact hd)
 refine⟨⟨ρ,_,S2,hD,hh,ha⟩,?_,Bd⟩
 exact⟨hb.os.trans K.os,hb.tape.trans K.tape,hb.output.trans K.output,Nat.le_trans K.size hb.size,fun k hk hn=>(hb.block k hk).trans (K.block k hk hn)⟩
def DS (neg:Bool) (v6:AV) (tb:Nat) (s:St):Prop:=val s.tm (.t 3)= .bool neg∧val s.tm (.t 6)=v6∧val s.tm (.t 10)= .ptr tb 0
theorem byte_str (bs x:List UInt8):Lib.byteCells bs++Lib.strCells ⟨x.toArray⟩=Lib.byteCells (bs++x):=by rw[Lib.strCells_eq,Lib.byteCells_append]
theorem r17_wp {neg:Bool} {v6:AV} (T:TB base ρT hT wT tb) (J:TJ W0 base ρT hT wT (DS neg v6 tb) bs a w) (hl:bs.length+1≤140737488355328):
  R17.wp Tryz.prog (fun e a' w'=>e= .normal∧TJ W0 base ρT hT wT (DS neg v6 tb) (bs++[45]) a' w') a w:=by
 obtain⟨⟨ρ,s,S,⟨h3,h6,h10⟩,hh,ha⟩,K,Bd⟩:=J
 rw[s17]
 refine wp_region ?_
 rw[z17]
 show wpOps _ _ _ [0] a w
 have e10:a.eval (.tmp 10)= .pointer (some ⟨wT.heap.size,0,none⟩):=by
  have:=(S.tmp 10).1
  rw[h10,T.enc ha]at this
  exact this
 refine ops_call o17 g17 p17 (by kernel_rfl) (K:=fun e w'=>e= .returned (.tuple #[.int .i64 1,.nilIface])∧(Lib.BuilderAt 263 5 wT.heap.size wT.heap.size (.pointer (some ⟨wT.heap.size,0,none⟩)) (Lib.byteCells bs++Lib.strCells ⟨[45].toArray⟩) w'∧Below wT.heap.size w w')) ?_ ?_
 ·have:=L.writeString wT.heap.size wT.heap.size (Lib.byteCells bs) ⟨[45].toArray⟩ w Bd (by rw[Lib.byteCells_length];exact hl) K.size
  have ea:(#[Operand.tmp 10,.const (.string ⟨#[45]⟩)]:Array Operand).map a.eval= #[.pointer (some ⟨wT.heap.size,0,none⟩),.string ⟨[45].toArray⟩]:=by
   simp only[List.map_toArray,List.map_cons,List.map_nil,e10];rfl
  rw[ea];exact this
 ·rintro e w' ⟨rfl,hb1,hb2⟩
  refine⟨_,rfl,?_⟩
  rw[wpOps,d17]
  rw[byte_str]at hb1
  have e1:Value.tuple #[.int .i64 1,.nilIface]=enc ρ (.tup [.int .i64 1,.nili]):=by simp[Ae.enc,encs]
  rw[e1]
  exact⟨rfl,TJ.wrote T S hh ha K hb2 (fun N=>by simp[ok,oks]) (by decide) ⟨(by rw[val_set,if_neg (by decide)];exact h3),(by rw[val_set,if_neg (by decide)];exact h6),(by rw[val_set,if_neg (by decide)];exact h10)⟩ (.inr hb1)⟩
def DI (neg:Bool) (v6:AV) (tb:Nat) (i:Int) (s:St):Prop:=DS neg v6 tb s∧val s.tm (.t 11)= .int .i64 i
theorem r21_wp {neg:Bool} {tp st:Nat} {X:List (List UInt8)} {k:Nat} (EO:EnvOk Tryz.prog W0 base E) (T:TB base ρT hT wT tb) (hg:hT.get tp=some (.row (X.map AV.str) true st)) (hk:k<X.length) (J:TJ W0 base ρT hT wT (DI neg (.sl tp 0 X.length 1) tb k) bs a w) (hl:bs.length+(X.getD k []).length≤140737488355328):
  R21.wp Tryz.prog (fun e a' w'=>e= .normal∧TJ W0 base ρT hT wT (DI neg (.sl tp 0 X.length 1) tb k) (bs++X.getD k []) a' w') a w:=by
 obtain⟨⟨ρ,s,S,⟨⟨h3,h6,h10⟩,h11⟩,hh,ha⟩,K,Bd⟩:=J
 have hw:Wp E (.reg [C.o 63 (C.m 6),C.o 64 (C.m 11),C.o 65 (.iadr 1 (.t 63) (.t 64)),C.o 66 (.load false 1 (.t 65))]) s fun e s'=>e= .nrm∧DI neg (.sl tp 0 X.length 1) tb k s'∧val s'.tm (.t 66)= .str (X.getD k [])∧s'.hp=s.hp:=by
  have hk':(k:Int)<X.length:=by omega
  have hg':s.hp.get tp=some (.row (X.map AV.str) true st):=by rw[hh];exact hg
  have ek:(X.map AV.str)[k]?=some (.str (X.getD k [])):=by simp[List.getD,hk]
  obtain⟨tm,hp⟩:=s
  simp only at h3 h6 h10 h11 hg' hh
  unfold DI DS
  repeat' (with_reducible first|simp(disch:=first|exact okD|fail) only[go_sem,seval,h3,h6,h10,h11,hg',ek,hk']|(apply Spl.i<;>intro hc))
  rw[if_pos (show k+1≤X.length from hk)]
  repeat' (with_reducible first|simp(disch:=first|exact okD|fail) only[go_sem,seval,h3,h6,h10,h11,hg',ek,hk']|(apply Spl.i<;>intro hc))
 obtain⟨e,s1,⟨n,hn⟩,rfl,⟨⟨i3,i6,i10⟩,i11⟩,i66,ih⟩:=hw
 rw[s21]
 refine wp_region ?_
 rw[z21,List.range_eq_range']
 have hlen:((rops R21).toList.take 4).length=4:=by rw[List.length_take,Array.length_toList,z21];rfl
 have hsp:(rops R21).toList.drop 0=(rops R21).toList.take 4++(rops R21).toList.drop 4:=by rw[List.drop_zero,List.take_append_drop]
 have key:=reg_pre (Q:=fun e a' w'=>e= .normal∧TJ W0 base ρT hT wT (DI neg (.sl tp 0 X.length 1) tb k) (bs++X.getD k []) a' w') EO.meth n (fun m hm=>(sound EO m).2) n 0 1 _ _ _ ρ s a w .nrm s1 (Nat.le_refl _) hsp (copers_sound k21) S hn ?_
 ·rw[hlen]at key;exact key
 ·intro a1 w1 ρ1 S1 X1
  rw[hlen]
  show wpOps _ _ _ [4] a1 w1
  have hh1:s1.hp=hT:=ih.trans hh
  have X1a:Agree hT.next ρ ρ1:=by rw[←hh];exact X1.agree
  have ha1:=ha.trans X1a (Nat.le_refl _)
  have K1:Keep ρT hT wT w1:=by
   refine⟨X1.keep.os.trans K.os,X1.keep.tape.trans K.tape,X1.keep.output.trans K.output,Nat.le_trans K.size X1.keep.size,fun k hk hn=>?_⟩
   refine(X1.keep.block k (Nat.lt_of_lt_of_le hk K.size) fun t o ht ho hb=>?_).trans (K.block k hk hn)
   rw[hh]at ht
   obtain⟨h1,h2⟩:=T.low t o ht ho
   rw[ha t h1]at hb
   exact hn t o ht ho hb
  have Bd1:Lib.IsBuilder 263 5 wT.heap.size wT.heap.size (Lib.byteCells bs) w1:=by
   refine bld_keep Bd fun k hk hlt=>X1.keep.block k hlt fun t o ht ho hb=>?_
   rw[hh]at ht
   have:=T.low' ha t o ht ho
   omega
  have e10:a1.eval (.tmp 10)= .pointer (some ⟨wT.heap.size,0,none⟩):=by
   have:=(S1.tmp 10).1
   rw[i10,T.enc ha1]at this
   exact this
  have e66:a1.eval (.tmp 66)= .string ⟨(X.getD k []).toArray⟩:=by
   have:=(S1.tmp 66).1
   rw[i66]at this
   exact this.trans (by simp[Ae.enc])
  refine ops_call o21 g21 p21 (by kernel_rfl) (K:=fun e w'=>e= .returned (.tuple #[.int .i64 (⟨(X.getD k []).toArray⟩:ByteArray).size,.nilIface])∧(Lib.BuilderAt 263 5 wT.heap.size wT.heap.size (.pointer (some ⟨wT.heap.size,0,none⟩)) (Lib.byteCells bs++Lib.strCells ⟨(X.getD k []).toArray⟩) w'∧Below wT.heap.size w1 w')) ?_ ?_
  ·have:=L.writeString wT.heap.size wT.heap.size (Lib.byteCells bs) ⟨(X.getD k []).toArray⟩ w1 Bd1 (by rw[Lib.byteCells_length,ba_size];exact hl) K1.size
   have ea:(#[Operand.tmp 10,.tmp 66]:Array Operand).map a1.eval= #[.pointer (some ⟨wT.heap.size,0,none⟩),.string ⟨(X.getD k []).toArray⟩]:=by
    simp only[List.map_toArray,List.map_cons,List.map_nil,e10,e66]
   rw[ea];exact this
  ·rintro e w' ⟨rfl,hb1,hb2⟩
   refine⟨_,rfl,?_⟩
   rw[wpOps,d21]
   rw[byte_str]at hb1
   have e1:Value.tuple #[.int .i64 (⟨(X.getD k []).toArray⟩:ByteArray).size,.nilIface]=enc ρ1 (.tup [.int .i64 (⟨(X.getD k []).toArray⟩:ByteArray).size,.nili]):=by simp[Ae.enc,encs]
   rw[e1]
   exact⟨rfl,TJ.wrote T S1 hh1 ha1 K1 hb2 (fun N=>by simp[ok,oks]) (by decide) ⟨⟨(by rw[val_set,if_neg (by decide)];exact i3),(by rw[val_set,if_neg (by decide)];exact i6),(by rw[val_set,if_neg (by decide)];exact i10)⟩,(by rw[val_set,if_neg (by decide)];exact i11)⟩ (.inr hb1)⟩
end
end Go.Ae
set_option linter.unusedVariables false
set_option linter.unusedSimpArgs false
set_option maxRecDepth 100000
namespace Go.Ae
open Go.Proofs Go.RowKit
noncomputable section
section
variable {W0:World} {base:Nat} {E:Env} {ρT:Rho} {hT:Hp} {wT:World} {tb:Nat} {D D':St→Prop} {bs:List UInt8} {a:Act} {w:World}
theorem loop_wp {neg:Bool} {tp st:Nat} {X:List (List UInt8)} {pre:List UInt8} (EO:EnvOk Tryz.prog W0 base E) (T:TB base ρT hT wT tb) (hg:hT.get tp=some (.row (X.map AV.str) true st)) (hX:X.length≤1000000)
  (hl:pre.length+X.reverse.flatten.length≤1000000) (J:TJ W0 base ρT hT wT (DI neg (.sl tp 0 X.length 1) tb ((X.length:Int)-1)) pre a w):
  (Code.block 2 (.loop (.seq (.seq R19 (.cond (.tmp 60) .skip (.exit 2))) (.seq (.block 3 R21) R20)))).wp Tryz.prog (fun e a' w'=>e= .normal∧∃i,TJ W0 base ρT hT wT (DI neg (.sl tp 0 X.length 1) tb i) (pre++X.reverse.flatten) a' w') a w:=by
 refine wp_block ?_
 refine wp_loop_count (fun m a w=>m≤X.length∧TJ W0 base ρT hT wT (DI neg (.sl tp 0 X.length 1) tb ((m:Int)-1)) (pre++(X.drop m).reverse.flatten) a w) (n:=X.length) ⟨Nat.le_refl _,by rw[List.drop_length];simpa using J⟩ ?_
 rintro m a w ⟨hm,J⟩
 refine wp_seq (wp_seq ?_)
 refine wp_mono (TJ.code EO T J (D':=fun s=>DI neg (.sl tp 0 X.length 1) tb ((m:Int)-1) s∧val s.tm (.t 60)= .bool (decide (0≤(m:Int)-1))) (c:=R19) ?_) fun e1 a1 w1 ⟨he,J1⟩=>?_
 ·rintro⟨tm,hp⟩ ⟨⟨h3,h6,h10⟩,h11⟩ hh
  simp only at h3 h6 h10 h11
  rw[k19]
  unfold DI DS
  by_cases c:0≤(m:Int)-1
  ·rw[decide_eq_true c]
   repeat' (with_reducible first|simp(disch:=first|exact okD|fail) only[go_sem,seval,h3,h6,h10,h11,c]|(apply Spl.i<;>intro hc))
  ·rw[decide_eq_false c]
   repeat' (with_reducible first|simp(disch:=first|exact okD|fail) only[go_sem,seval,h3,h6,h10,h11,c]|(apply Spl.i<;>intro hc))
 subst he
 show(Code.cond (.tmp 60) .skip (.exit 2)).wp Tryz.prog _ a1 w1
 obtain⟨ρ,s,S,⟨hD,h60⟩,hh,ha⟩:=J1.ex
 have e60:a1.eval (.tmp 60)= .bool (decide (0≤(m:Int)-1)):=by
  have:=(S.tmp 60).1
  rw[h60]at this
  exact this.trans (by simp[Ae.enc])
 have J1':TJ W0 base ρT hT wT (DI neg (.sl tp 0 X.length 1) tb ((m:Int)-1)) (pre++(X.drop m).reverse.flatten) a1 w1:=⟨⟨ρ,s,S,hD,hh,ha⟩,J1.keep,J1.bld⟩
 by_cases h0:m=0
 ·subst h0
  refine wp_cond_false (by rw[e60];rfl) (wp_exit ?_)
  simp only[Exit.then,Exit.inBlock,if_true]
  exact⟨trivial,_,J1'⟩
 ·refine wp_cond_true (by rw[e60,decide_eq_true (by omega)]) (wp_skip ?_)
  show(Code.seq (.block 3 R21) R20).wp Tryz.prog _ a1 w1
  obtain⟨k,rfl⟩:∃k,m=k+1:=⟨m-1,by omega⟩
  have ek:((k+1:Nat):Int)-1=(k:Int):=by omega
  rw[ek]at J1'
  have hdr:X.drop k=X.getD k []::X.drop (k+1):=by
   rw[List.drop_eq_getElem_cons (by omega)]
   congr 1
   simp[List.getD,show k<X.length by omega]
  have hfl:(X.drop k).reverse.flatten=(X.drop (k+1)).reverse.flatten++X.getD k []:=by rw[hdr];simp
  have hsz:(X.drop k).reverse.flatten.length≤X.reverse.flatten.length:=by
   have:X.reverse.flatten=(X.drop k).reverse.flatten++(X.take k).reverse.flatten:=by
    conv=>lhs;rw[←List.take_append_drop k X,List.reverse_append,List.flatten_append]
   rw[this,List.length_append];omega
  refine wp_seq (wp_block ?_)
  refine wp_mono (r21_wp EO T hg (by omega) J1' ?_) fun e2 a2 w2 ⟨he,J3⟩=>?_
  ·rw[hfl]at hsz
   simp only[List.length_append]at hsz⊢
   omega
  subst he
  show R20.wp Tryz.prog _ a2 w2
  refine wp_mono (TJ.code EO T J3 (D':=DI neg (.sl tp 0 X.length 1) tb ((k:Int)-1)) (c:=R20) ?_) fun e3 a3 w3 ⟨he,J4⟩=>?_
  ·rintro⟨tm,hp⟩ ⟨⟨h3,h6,h10⟩,h11⟩ hh
   simp only at h3 h6 h10 h11
   rw[k20]
   unfold DI DS
   have hw:IntKind.wrap .i64 ((k:Int)-1)=(k:Int)-1:=wrap_i64 (by omega)
   repeat' (with_reducible first|simp(disch:=first|exact okD|fail) only[go_sem,seval,h3,h6,h10,h11,hw]|(apply Spl.i<;>intro hc))
  subst he
  show ∃n',n'<k+1∧_
  refine⟨k,by omega,by omega,?_⟩
  rw[hfl,←List.append_assoc]
  exact J4
theorem ops_val {ops:Array Oper} {i:Nat} {rest:List Nat} {Q:Exit→Act→World→Prop} {o:Oper} {u:Value} {w':World} (hi:ops[i]?=some o) (hg:o.guard=none)
  (hr:(execOp a.eval o).run Tryz.prog w= .ok (.value u) w') (hk:wpOps Tryz.prog ops Q rest (a.put o.dst u) w'):wpOps Tryz.prog ops Q (i::rest) a w:=by
 rw[wpOps]
 simp only[hi]
 have hw:Region.wanted o (yielded ops a.tmps)=true:=by unfold Region.wanted;rw[hg]
 rw[hw]
 simp only[if_true]
 refine .inl (Takes.wp (K:=fun u w'=>wpOps Tryz.prog ops Q rest (a.put o.dst u) w') ?_ fun u w' h=>h)
 rw[hr]
 exact hk
theorem alloc_op:(execOp a.eval (og R15 0)).run Tryz.prog w= .ok (.value (.pointer (some ⟨w.heap.size,0,none⟩))) (w.alloc (.cells #[.pointer none,.slice none 0 0] 263)):=by
 have hz:czero Tryz.prog 263=some [.nilp,.nils]:=by kernel_rfl
 obtain⟨i,zv,h1,h2,h3⟩:=zero_of hz
 obtain⟨e1,e2,e3⟩:=cvals_enc h3 (fun _=>⟨0,0,0,0⟩) 0
 have hc:zv.cells= #[.pointer none,.slice none 0 0]:=by
  apply Array.toList_inj.1
  rw[←e1];simp[Ae.enc,encs]
 unfold execOp
 rw[p15]
 simp[Instr.alloc,zeroValue,typeInfo,h1,h2,newVar,newRow,hc]
theorem r22_wp {neg:Bool} {v6:AV} {i:Int} (EO:EnvOk Tryz.prog W0 base E) (T:TB base ρT hT wT tb) (J:TJ W0 base ρT hT wT (DI neg v6 tb i) bs a w):
  R22.wp Tryz.prog (fun e a' w'=>e= .normal∧∃ρ s,Sim W0 base 69 ρ s a' w'∧val s.tm (.t 2)= .str bs∧s.hp=hT∧Agree hT.next ρT ρ∧Keep ρT hT wT w') a w:=by
 obtain⟨⟨ρ,s,S,⟨⟨h3,h6,h10⟩,h11⟩,hh,ha⟩,K,Bd⟩:=J
 rw[s22]
 refine wp_region ?_
 rw[z22]
 show wpOps _ _ _ [0,1] a w
 have e10:a.eval (.tmp 10)= .pointer (some ⟨wT.heap.size,0,none⟩):=by
  have:=(S.tmp 10).1
  rw[h10,T.enc ha]at this
  exact this
 refine ops_call o22 g22 p22 (by kernel_rfl) (K:=fun e w'=>e= .returned (.string ⟨bs.toArray⟩)∧Below wT.heap.size w w') ?_ ?_
 ·have:=Tryz.Builder_String_any wT.heap.size wT.heap.size bs w Bd K.size
  have ea:(#[Operand.tmp 10]:Array Operand).map a.eval= #[.pointer (some ⟨wT.heap.size,0,none⟩)]:=by simp[e10]
  rw[ea];exact this
 ·rintro e w' ⟨rfl,hb2⟩
  refine⟨_,rfl,?_⟩
  rw[d22]
  have S1:=S.low (w':=w') T.size (by rw[hh];exact T.low' ha) hb2
  have S2:=S1.put (Ext.refl S1.rel) (v:= .str bs) trivial (some 68) (fun x e=>by cases e;decide)
  have K1:Keep ρT hT wT w':=⟨hb2.os.trans K.os,hb2.tape.trans K.tape,hb2.output.trans K.output,Nat.le_trans K.size hb2.size,fun k hk hn=>(hb2.block k hk).trans (K.block k hk hn)⟩
  have e1:Value.string ⟨bs.toArray⟩=enc ρ (.str bs):=by simp[Ae.enc]
  rw[e1]
  have hw:Wp E (.reg [C.o 2 (C.m 68)]) { tm:=put s.tm (some 68) (.str bs),hp:=s.hp } fun e s'=>e= .nrm∧val s'.tm (.t 2)= .str bs∧s'.hp=s.hp:=by
   have h68:val (put s.tm (some 68) (.str bs)) (.t 68)= .str bs:=(val_set _ _ _ _).trans (if_pos rfl)
   generalize put s.tm (some 68) (.str bs)=tm at h68
   repeat' (with_reducible first|simp(disch:=first|exact okD|fail) only[go_sem,seval,h68]|(apply Spl.i<;>intro hc))
  obtain⟨e,s2,⟨n,hn⟩,rfl,i2,ih⟩:=hw
  have hsp:(rops R22).toList.drop 1=(rops R22).toList.drop 1++[]:=by simp
  have hlen:((rops R22).toList.drop 1).length=1:=by rw[List.length_drop,Array.length_toList,z22]
  have key:=reg_pre (Q:=fun e a' w'=>e= .normal∧∃ρ s,Sim W0 base 69 ρ s a' w'∧val s.tm (.t 2)= .str bs∧s.hp=hT∧Agree hT.next ρT ρ∧Keep ρT hT wT w')
   EO.meth n (fun m hm=>(sound EO m).2) n 1 0 _ _ _ ρ _ _ w' .nrm s2 (Nat.le_refl _) hsp (copers_sound k22) S2 hn ?_
  ·rw[hlen]at key;exact key
  ·intro a1 w1 ρ1 S1' X1
   have X1a:Agree hT.next ρ ρ1:=by rw[←hh];exact X1.agree
   show _∧_
   refine⟨rfl,ρ1,s2,S1',i2,ih.trans hh,ha.trans X1a (Nat.le_refl _),?_⟩
   refine⟨X1.keep.os.trans K1.os,X1.keep.tape.trans K1.tape,X1.keep.output.trans K1.output,Nat.le_trans K1.size X1.keep.size,fun k hk hn=>?_⟩
   refine(X1.keep.block k (Nat.lt_of_lt_of_le hk K1.size) fun t o ht ho hb=>?_).trans (K1.block k hk hn)
   rw[hh]at ht
   obtain⟨h1,h2⟩:=T.low t o ht ho
   rw[ha t h1]at hb
   exact hn t o ht ho hb
end
end
end Go.Ae
set_option linter.unusedVariables false
set_option linter.unusedSimpArgs false
set_option maxRecDepth 100000
namespace Go.Ae
open N Go.Proofs
section
variable {h:Hp} {K:AV→Hp→Prop}
theorem c221 {s:List UInt8} {n:Int} (hn:0≤n∧n≤9223372036854775807∧s.length*n.toNat≤140737488355328):CallWp E2 221 [.str s,.int .i64 n] h K↔K (.str (Lib.repeatL s n.toNat)) h:=by
 rw[CallWp.prim_iff (p:=L.p221) rfl rfl]
 have:L.p221 [.str s,.int .i64 n] h=some (.str (Lib.repeatL s n.toNat),h):=if_pos hn
 rw[this];exact Iff.rfl
theorem c17:CallWp E2 17 [] h K↔K (.bool true) h:=by
 rw[CallWp.prim_iff (p:=fun args h=>match pAwake args with|some v=>some (v,h)|none=>none) rfl rfl];exact Iff.rfl
theorem c186 {n k:Nat} (hn:n≤9223372036854775807) (hk:k≤1000):CallWp E2 186 [.int .i64 n,.int .i64 k] h K↔K (.str (decP n k)) h:=by
 refine CallWp.iff_of (CallWp.fn (fn:=C.a186) rfl rfl rfl ?_)
 have hlen:(decP n k).length≤19+k:=decP_len 19 (by omega)
 unfold C.a186
 simp(disch:=first|exact okD|fail) only[go_sem,seval]
 refine Wp.loopI (fun m s=>∃(n':Nat) (l:List UInt8),val s.tm (.t 0)= .int .i64 n'∧val s.tm (.t 1)= .int .i64 k∧val s.tm (.t 5)= .str l∧s.hp=h∧n'≤n∧decP n' (k-l.length)++l=decP n k∧m=n'+(k-l.length)) (n:=n+k) ?_ ?_
 ·exact⟨n,[],by simp(disch:=first|exact okD|fail) only[go_sem,seval],by simp(disch:=first|exact okD|fail) only[go_sem,seval],by simp(disch:=first|exact okD|fail) only[go_sem,seval],rfl,Nat.le_refl _,by simp,by simp⟩
 ·rintro m ⟨tm,hp⟩ ⟨n',l,h0,h1,h5,rfl,hle,heq,rfl⟩
  simp only at h0 h1 h5
  have hl:l.length≤(decP n k).length:=by rw[←heq,List.length_append];omega
  have hs:List.drop ((n':Int)%10).toNat (List.take ((n':Int)%10+1).toNat [48,49,50,51,52,53,54,55,56,57])=[dg n']:=by
   rw[show((n':Int)%10).toNat=n'%10 by omega,show((n':Int)%10+1).toNat=n'%10+1 by omega];exact dg_slice
  have hdiv:(n':Int)/10=(n'/10:Nat):=by omega
  have hbad:¬(n'=0∧k-l.length=0)→decP (n'/10) (k-(dg n'::l).length)++dg n'::l=decP n k:=fun hne=>by
   rw[←heq,decP_step hne,List.append_assoc,List.length_cons,Nat.sub_sub];rfl
  repeat' (with_reducible first|simp(disch:=first|exact okD|fail) only[go_sem,seval,h0,h1,h5,hs,List.cons_append,List.nil_append]|(apply Spl.i<;>intro hc))
  ·refine⟨_,?_,n'/10,dg n'::l,?_,rfl,?_,hbad (by omega),rfl⟩
   ·simp only[List.length_cons];omega
   ·rw[hdiv]
   ·omega
  ·refine⟨_,?_,n'/10,dg n'::l,?_,rfl,?_,hbad (by omega),rfl⟩
   ·simp only[List.length_cons];omega
   ·rw[hdiv]
   ·omega
  ·rw[←heq,show n'=0 by omega,show k-l.length=0 by omega,decP_zero]
   rfl
theorem dig_of {b:UInt8}:isDig b=decide (¬((b.toNat:Int)<48)∧¬(57<(b.toNat:Int))):=by
 unfold isDig;congr 1;rw[eq_iff_iff];omega
theorem c151 {s:List UInt8} (hs:s.length≤1000000):CallWp E2 151 [.str s] h K↔K (.bool (allDig s)) h:=by
 refine CallWp.iff_of (CallWp.fn (fn:=C.a151) rfl rfl rfl ?_)
 unfold C.a151
 simp(disch:=first|exact okD|fail) only[go_sem,seval]
 refine Wp.loopI (fun m st=>∃i:Nat,val st.tm (.t 0)= .str s∧val st.tm (.t 3)= .int .i64 i∧st.hp=h∧i≤s.length∧allDig (s.take i)=true∧m=s.length-i) (n:=s.length) ?_ ?_
 ·exact⟨0,by simp(disch:=first|exact okD|fail) only[go_sem,seval],by(simp(disch:=first|exact okD|fail) only[go_sem,seval])<;>rfl,rfl,Nat.zero_le _,rfl,rfl⟩
 ·rintro m ⟨tm,hp⟩ ⟨i,h0,h3,rfl,hi,had,rfl⟩
  simp only at h0 h3
  by_cases hlt:i<s.length
  ·have hlt':(i:Int)<s.length:=by omega
   have htk:s.take (i+1)=s.take i++[s.getD i 0]:=by
    rw[List.take_add_one,List.getElem?_eq_getElem hlt,List.getD_eq_getElem?_getD,List.getElem?_eq_getElem hlt];rfl
   have had':allDig (s.take (i+1))=isDig (s.getD i 0):=by
    unfold allDig at *;rw[htk,List.all_append,had];simp
   have hno:isDig (s.getD i 0)=false→allDig s=false:=fun e=>by
    rw[←had']at e
    cases ha:allDig s with
    |false=>rfl
    | true=>
     unfold allDig at *
     rw[List.all_eq_true]at ha
     rw[List.all_eq_false]at e
     obtain⟨x,hx,hx'⟩:=e
     exact absurd (ha x (List.mem_of_mem_take hx)) hx'
   rw[dig_of]at hno had'
   repeat' (with_reducible first|simp(disch:=first|exact okD|fail) only[go_sem,seval,h0,h3,Int.toNat_natCast]|(apply Spl.i<;>intro hc))
   ·rw[hno (by simp_all)]
   ·rw[hno (by simp_all)]
   ·refine⟨_,?_,i+1,rfl,by omega,?_,rfl⟩
    ·omega
    ·rw[had'];simp_all
  ·have hlt':¬(i:Int)<s.length:=by omega
   repeat' (with_reducible first|simp(disch:=first|exact okD|fail) only[go_sem,seval,h0,h3]|(apply Spl.i<;>intro hc))
   rw[List.take_of_length_le (by omega)]at had
   rw[had]
theorem c153 {s:List UInt8} (hd:allDig s=true) (hs:s.length≤18):CallWp E2 153 [.str s] h K↔K (.int .i64 (decV s)) h:=by
 refine CallWp.iff_of (CallWp.fn (fn:=C.a153) rfl rfl rfl ?_)
 unfold C.a153
 simp(disch:=first|exact okD|fail) only[go_sem,seval]
 refine Wp.loopI (fun m st=>∃i:Nat,val st.tm (.t 0)= .str s∧val st.tm (.t 4)= .int .i64 i∧val st.tm (.t 3)= .int .i64 (decV (s.take i))∧st.hp=h∧i≤s.length∧m=s.length-i) (n:=s.length) ?_ ?_
 ·exact⟨0,by simp(disch:=first|exact okD|fail) only[go_sem,seval],by(simp(disch:=first|exact okD|fail) only[go_sem,seval])<;>rfl,by(simp(disch:=first|exact okD|fail) only[go_sem,seval])<;>rfl,rfl,Nat.zero_le _,rfl⟩
 ·rintro m ⟨tm,hp⟩ ⟨i,h0,h4,h3,rfl,hi,rfl⟩
  simp only at h0 h3 h4
  by_cases hlt:i<s.length
  ·have hlt':(i:Int)<s.length:=by omega
   have htk:s.take (i+1)=s.take i++[s.getD i 0]:=by
    rw[List.take_add_one,List.getElem?_eq_getElem hlt,List.getD_eq_getElem?_getD,List.getElem?_eq_getElem hlt];rfl
   have hdi:48≤(s.getD i 0).toNat∧(s.getD i 0).toNat≤57:=by
    have:isDig (s.getD i 0)=true:=by
     unfold allDig at hd;rw[List.all_eq_true]at hd
     rw[List.getD_eq_getElem?_getD,List.getElem?_eq_getElem hlt]
     exact hd _ (List.getElem_mem hlt)
    simpa[isDig]using this
   have hv:decV (s.take (i+1))=decV (s.take i)*10+((s.getD i 0).toNat-48):=by
    unfold decV decF;rw[htk,List.foldl_append];rfl
   have hb:decV (s.take i)<10^17:=by
    have h1:=decV_lt (l:=s.take i) (by unfold allDig at *;rw[List.all_eq_true]at *;exact fun x hx=>hd x (List.mem_of_mem_take hx))
    exact Nat.lt_of_lt_of_le h1 (Nat.pow_le_pow_right (by decide) (by rw[List.length_take];omega))
   repeat' (with_reducible first|simp(disch:=first|exact okD|fail) only[go_sem,seval,h0,h3,h4,Int.toNat_natCast]|(apply Spl.i<;>intro hc))
   refine⟨_,?_,i+1,rfl,?_,by omega,rfl⟩
   ·omega
   ·rw[hv]
    congr 1;omega
  ·have hlt':¬(i:Int)<s.length:=by omega
   repeat' (with_reducible first|simp(disch:=first|exact okD|fail) only[go_sem,seval,h0,h3,h4]|(apply Spl.i<;>intro hc))
   rw[List.take_of_length_le (by omega)]
end
end Go.Ae
set_option linter.unusedVariables false
set_option linter.unusedSimpArgs false
set_option maxRecDepth 100000
namespace Go.Ae
open Go.Proofs
def bitLen (n:Nat):Nat:=if n=0 then 0 else Nat.log2 n+1
theorem bitLen_shift {n k:Nat} (h:2^k≤n):bitLen n=k+bitLen (n/2^k):=by
 have hp:0<2^k:=Nat.pow_pos (by decide)
 have h1:n≠0:=by omega
 have h2:n/2^k≠0:=by
  have:=Nat.div_pos h hp;omega
 unfold bitLen
 rw[if_neg h1,if_neg h2]
 have:Nat.log2 n=k+Nat.log2 (n/2^k):=by
  have e1:=(Nat.le_log2 h2 (k:=Nat.log2 (n/2^k))).1 (Nat.le_refl _)
  have e2:=Nat.lt_log2_self (n:=n/2^k)
  have e3:2^(k+Nat.log2 (n/2^k))≤n:=by
   rw[Nat.pow_add,Nat.mul_comm];exact(Nat.le_div_iff_mul_le hp).1 e1
  have e4:n<2^(k+Nat.log2 (n/2^k)+1):=by
   rw[Nat.add_assoc,Nat.pow_add,Nat.mul_comm];exact(Nat.div_lt_iff_lt_mul hp).1 e2
  have e5:=(Nat.le_log2 h1).2 e3
  have e6:=(Nat.log2_lt h1).2 e4
  omega
 omega
theorem bitLen_lt {n k:Nat} (h:n<2^k):bitLen n≤k:=by
 unfold bitLen
 split
 ·omega
 ·have:=(Nat.log2_lt ‹_›).2 h;omega
theorem bitLen_le {n k:Nat} (h:bitLen n≤k):n<2^k:=by
 unfold bitLen at h
 split at h
 ·have:0<2^k:=Nat.pow_pos (by decide);omega
 ·exact(Nat.log2_lt ‹_›).1 (by omega)
section
variable {h:Hp} {K:AV→Hp→Prop}
abbrev sI (n:Int):AV:= .agg [.int .i64 n,.nils]
theorem b_shr {q:EqK} {k k':IntKind} {m n:Int} (hn:0≤n):binA .shr q (.int k m) (.int k' n)=some (.int k (m.fdiv (2^min n.toNat k.bits))):=by
 simp only[binA,intA];rw[if_neg (by omega)]
theorem b_shrL {q:EqK} {k k':IntKind} {m n:Nat} (hn:n≤k.bits):binA .shr q (.int k m) (.int k' n)=some (.int k ((m/2^n:Nat):Int)):=by
 rw[b_shr (by omega),Int.toNat_natCast,Nat.min_eq_left hn]
 congr 2
 rw[show((2:Int)^n)=((2^n:Nat):Int) by rw[Int.natCast_pow];rfl,Int.fdiv_eq_ediv_of_nonneg _ (Int.natCast_nonneg _)]
 exact(Int.natCast_ediv m (2^n)).symm
theorem wrap_min0:IntKind.wrap .i64 9223372036854775808= -9223372036854775808:=by decide
theorem wrap_min:IntKind.wrap .i64 (- -9223372036854775808)= -9223372036854775808:=by decide
theorem wrap_min':IntKind.wrap .u64 (-9223372036854775808)=9223372036854775808:=by decide
theorem c262 {n:Int} (hn: -9223372036854775808≤n∧n≤9223372036854775807):CallWp E2 262 [.int .i64 n] h K↔K (.int .u64 (n.natAbs:Int)) h:=by
 refine CallWp.iff_of (CallWp.fn (fn:=C.a262) rfl rfl rfl ?_)
 unfold C.a262
 by_cases h1:n= -9223372036854775808
 ·subst h1
  repeat' (with_reducible first|simp(disch:=first|exact okD|fail) only[go_sem,seval,wrap_min,wrap_min0,wrap_min']|(apply Spl.i<;>intro hc))
  first|done|simp
 ·have e1:n<0→-n=(n.natAbs:Int):=by omega
  have e2:¬n<0→n=(n.natAbs:Int):=by omega
  repeat' (with_reducible first|simp(disch:=first|exact okD|fail) only[go_sem,seval]|(apply Spl.i<;>intro hc))
  ·rw[e1 hc]
  ·rw[←e2 hc]
theorem c120 {n:Int}:Gv E2 120 [.int .i64 n] h (sI n):=by
 refine Gv.of (CallWp.fn (fn:=C.a120) rfl rfl rfl ?_)
 unfold C.a120
 repeat' (with_reducible first|simp(disch:=first|exact okD|fail) only[go_sem,seval]|(apply Spl.i<;>intro hc))
 exact okG
theorem c192 {a b:Int}:Gv E2 192 [sI a,sI b] h (.int .i64 (if a<b then -1 else if b<a then 1 else 0)):=by
 refine Gv.of (CallWp.fn (fn:=C.a192) rfl rfl rfl ?_)
 unfold C.a192
 repeat' (with_reducible first|simp(disch:=first|exact okD|fail) only[go_sem,seval]|(apply Spl.i<;>intro hc))
 all_goals first|rw[if_pos (by assumption)]|rw[if_neg (by assumption),if_pos (by assumption)]|rw[if_neg (by assumption),if_neg (by assumption)]
 all_goals exact okG
theorem b_quo' {q:EqK} {k:IntKind} {m n:Int} (hn:¬n=0):binA .quo q (.int k m) (.int k n)=some (.int k (k.wrap (m.tdiv n))):=b_quo hn
theorem b_rem' {q:EqK} {k:IntKind} {m n:Int} (hn:¬n=0):binA .rem q (.int k m) (.int k n)=some (.int k (m.tmod n)):=b_rem hn
theorem tdiv_le {a b:Int} (ha: -9223372036854775808<a∧a≤9223372036854775807) (hb:0<b): -9223372036854775807≤a.tdiv b∧a.tdiv b≤9223372036854775807:=by
 have h1:=Int.natAbs_tdiv_le_natAbs a b
 omega
theorem fdiv_lt {a b:Int} (hb:0<b) (hm:a.tmod b<0):a.fdiv b=a.tdiv b-1∧a.fmod b=a.tmod b+b:=by
 have e1:=Int.tmod_add_mul_tdiv a b
 have e2:=Int.fmod_add_mul_fdiv a b
 have e3:=Int.fmod_nonneg_of_pos a hb
 have e4:=Int.fmod_lt_of_pos a hb
 have e5: -b<a.tmod b:=Int.lt_tmod_of_pos a hb
 have key:a.fdiv b=a.tdiv b-1:=by
  have h1:b*(a.tdiv b-1)+(a.tmod b+b)=a:=by rw[Int.mul_sub];omega
  have h2:b*(a.tdiv b-1-a.fdiv b)=a.fmod b-(a.tmod b+b):=by rw[Int.mul_sub];omega
  rcases Int.lt_trichotomy (a.tdiv b-1-a.fdiv b) 0 with h|h|h
  ·have:=Int.mul_le_mul_of_nonneg_left (show a.tdiv b-1-a.fdiv b≤-1 by omega) (show 0≤b by omega);omega
  ·omega
  ·have:=Int.mul_le_mul_of_nonneg_left (show 1≤a.tdiv b-1-a.fdiv b by omega) (show 0≤b by omega);omega
 refine⟨key,?_⟩
 rw[key,Int.mul_sub]at e2;omega
theorem fdiv_ge {a b:Int} (hb:0<b) (hm:¬a.tmod b<0):a.fdiv b=a.tdiv b∧a.fmod b=a.tmod b:=by
 have e1:=Int.tmod_add_mul_tdiv a b
 have e2:=Int.fmod_add_mul_fdiv a b
 have e3:=Int.fmod_nonneg_of_pos a hb
 have e4:=Int.fmod_lt_of_pos a hb
 have e5:a.tmod b<b:=Int.tmod_lt_of_pos a hb
 have key:a.fdiv b=a.tdiv b:=by
  have h2:b*(a.tdiv b-a.fdiv b)=a.fmod b-a.tmod b:=by rw[Int.mul_sub];omega
  rcases Int.lt_trichotomy (a.tdiv b-a.fdiv b) 0 with h|h|h
  ·have:=Int.mul_le_mul_of_nonneg_left (show a.tdiv b-a.fdiv b≤-1 by omega) (show 0≤b by omega);omega
  ·omega
  ·have:=Int.mul_le_mul_of_nonneg_left (show 1≤a.tdiv b-a.fdiv b by omega) (show 0≤b by omega);omega
 refine⟨key,?_⟩
 rw[key]at e2;omega
theorem c197 {a b:Int} (ha: -9223372036854775808<a∧a≤9223372036854775807) (hb:0<b∧b≤9223372036854775807):Gv E2 197 [sI a,sI b] h (.tup [sI (a.fdiv b),sI (a.fmod b)]):=by
 refine Gv.of (CallWp.fn (fn:=C.a197) rfl rfl rfl ?_)
 unfold C.a197
 have hb0:¬b=0:=by omega
 have hm:¬a= -9223372036854775808:=by omega
 have hd:=tdiv_le ha hb.1
 have ht: -b<a.tmod b∧a.tmod b<b:=⟨Int.lt_tmod_of_pos a hb.1,Int.tmod_lt_of_pos a hb.1⟩
 repeat' (with_reducible first|simp(disch:=first|exact okD|fail) only[go_sem,seval,b_quo',b_rem']|(apply Spl.i<;>intro hc))
 ·obtain⟨e1,e2⟩:=fdiv_lt hb.1 hc
  rw[e1,e2]
  exact okG
 ·obtain⟨e1,e2⟩:=fdiv_ge hb.1 hc
  rw[e1,e2]
  exact okG
theorem b_andK {q:EqK} {k:IntKind} {m n:Int}:binA .and q (.int k m) (.int k n)=some (.int k (k.wrap (BitVec.ofInt k.bits m&&&BitVec.ofInt k.bits n).toNat)):=by
 simp[binA,intA,intA1,sameK_eq,bitsA]
theorem b_mask32 {q:EqK} {a:Nat} (ha:a<18446744073709551616):binA .and q (.int .u64 a) (.int .u64 4294967295)=some (.int .u64 ((a%4294967296:Nat):Int)):=by
 rw[b_andK]
 congr 2
 have e:(BitVec.ofInt 64 (a:Int)&&&BitVec.ofInt 64 4294967295).toNat=a%4294967296:=by
  rw[BitVec.toNat_and]
  simp only[BitVec.toNat_ofInt]
  have e1:((a:Int)%(2^64:Nat)).toNat=a:=by omega
  rw[e1]
  exact Nat.and_two_pow_sub_one_eq_mod a 32
 show IntKind.wrap .u64 (((BitVec.ofInt 64 (a:Int)&&&BitVec.ofInt 64 4294967295).toNat:Nat):Int)=_
 rw[e,wrap_u64 (by omega)]
theorem b_and1 {q:EqK} {a:Nat} (ha:a<9223372036854775808):binA .and q (.int .i64 a) (.int .i64 1)=some (.int .i64 ((a%2:Nat):Int)):=by
 rw[b_andK]
 congr 2
 have e:(BitVec.ofInt 64 (a:Int)&&&BitVec.ofInt 64 1).toNat=a%2:=by
  rw[BitVec.toNat_and]
  simp only[BitVec.toNat_ofInt]
  have e1:((a:Int)%(2^64:Nat)).toNat=a:=by omega
  rw[e1]
  exact Nat.and_two_pow_sub_one_eq_mod a 1
 show IntKind.wrap .i64 (((BitVec.ofInt 64 (a:Int)&&&BitVec.ofInt 64 1).toNat:Nat):Int)=_
 rw[e,wrap_i64 (by omega)]
theorem b_shr32 {q:EqK} {a:Nat}:binA .shr q (.int .u64 a) (.int .u64 32)=some (.int .u64 ((a/4294967296:Nat):Int)):=b_shrL (n:=32) (by decide)
theorem c261 {x y:Nat} (hx:x<18446744073709551616) (hy:y<18446744073709551616):CallWp E2 261 [.int .u64 x,.int .u64 y] h K↔K (.tup [.int .u64 ((x*y/18446744073709551616:Nat):Int),.int .u64 ((x*y%18446744073709551616:Nat):Int)]) h:=by
 refine CallWp.iff_of (CallWp.fn (fn:=C.a261) rfl rfl rfl ?_)
 obtain⟨bd,bt,bw,hhi⟩:=Lib.mul64_hi x y hx hy
 have ba:=Lib.half_mul_le (a:=x/4294967296) (b:=y/4294967296) (by omega) (by omega)
 have bb:=Lib.half_mul_le (a:=x/4294967296) (b:=y%4294967296) (by omega) (by omega)
 have bc:=Lib.half_mul_le (a:=x%4294967296) (b:=y/4294967296) (by omega) (by omega)
 unfold C.a261
 have m0:∀a b:Nat,(a:Int)*(b:Int)=((a*b:Nat):Int):=fun a b=>(Int.natCast_mul a b).symm
 have a0:∀a b:Nat,(a:Int)+(b:Int)=((a+b:Nat):Int):=fun a b=>(Int.natCast_add a b).symm
 have w0:∀a:Nat,a<18446744073709551616→IntKind.wrap .u64 (a:Int)=(a:Int):=fun a ha=>wrap_u64 (by omega)
 have w1:IntKind.wrap .u64 ((x*y:Nat):Int)=((x*y%18446744073709551616:Nat):Int):=by rw[IntKind.wrap_u64];omega
 simp(disch:=first|assumption|omega|fail) only[go_sem,↓reduceIte,Nat.reduceEqDiff,b_mask32,b_shr32,m0,a0,w0,w1]
 rw[hhi]
 try exact⟨rfl,trivial⟩
def len8tab:List UInt8:=[0,1,2,2,3,3,3,3,4,4,4,4,4,4,4,4,5,5,5,5,5,5,5,5,5,5,5,5,5,5,5,5,6,6,6,6,6,6,6,6,6,6,6,6,6,6,6,6,6,6,6,6,6,6,6,6,6,6,6,6,6,6,6,6,7,7,7,7,7,7,7,7,7,7,7,7,7,7,7,7,7,7,7,7,7,7,7,7,7,7,7,7,7,7,7,7,7,7,7,7,7,7,7,7,7,7,7,7,7,7,7,7,7,7,7,7,7,7,7,7,7,7,7,7,7,7,7,7,8,8,8,8,8,8,8,8,8,8,8,8,8,8,8,8,8,8,8,8,8,8,8,8,8,8,8,8,8,8,8,8,8,8,8,8,8,8,8,8,8,8,8,8,8,8,8,8,8,8,8,8,8,8,8,8,8,8,8,8,8,8,8,8,8,8,8,8,8,8,8,8,8,8,8,8,8,8,8,8,8,8,8,8,8,8,8,8,8,8,8,8,8,8,8,8,8,8,8,8,8,8,8,8,8,8,8,8,8,8,8,8,8,8,8,8,8,8,8,8,8,8,8,8,8,8,8,8]
theorem len8:∀i:Nat,i<256→((len8tab.getD i 0).toNat)=bitLen i:=by decide+kernel
theorem idx8 {x:Nat} (hx:x<256):idxK (.str [0,1,2,2,3,3,3,3,4,4,4,4,4,4,4,4,5,5,5,5,5,5,5,5,5,5,5,5,5,5,5,5,6,6,6,6,6,6,6,6,6,6,6,6,6,6,6,6,6,6,6,6,6,6,6,6,6,6,6,6,6,6,6,6,7,7,7,7,7,7,7,7,7,7,7,7,7,7,7,7,7,7,7,7,7,7,7,7,7,7,7,7,7,7,7,7,7,7,7,7,7,7,7,7,7,7,7,7,7,7,7,7,7,7,7,7,7,7,7,7,7,7,7,7,7,7,7,7,8,8,8,8,8,8,8,8,8,8,8,8,8,8,8,8,8,8,8,8,8,8,8,8,8,8,8,8,8,8,8,8,8,8,8,8,8,8,8,8,8,8,8,8,8,8,8,8,8,8,8,8,8,8,8,8,8,8,8,8,8,8,8,8,8,8,8,8,8,8,8,8,8,8,8,8,8,8,8,8,8,8,8,8,8,8,8,8,8,8,8,8,8,8,8,8,8,8,8,8,8,8,8,8,8,8,8,8,8,8,8,8,8,8,8,8,8,8,8,8,8,8,8,8,8,8,8,8]) (.int .u8 x)=some (.int .u8 (bitLen x:Nat)):=by
 show idxK (.str len8tab) (.int .u8 x)=_
 rw[idxK_str ⟨by omega,by rw[show len8tab.length=256 from rfl];omega⟩,Int.toNat_natCast,len8 x hx]
theorem b_shr16 {q:EqK} {a:Nat}:binA .shr q (.int .u64 a) (.int .u64 16)=some (.int .u64 ((a/65536:Nat):Int)):=b_shrL (n:=16) (by decide)
theorem b_shr8 {q:EqK} {a:Nat}:binA .shr q (.int .u64 a) (.int .u64 8)=some (.int .u64 ((a/256:Nat):Int)):=b_shrL (n:=8) (by decide)
theorem c266 {x:Nat} (hx:x<18446744073709551616):CallWp E2 266 [.int .u64 x] h K↔K (.int .i64 (bitLen x:Nat)) h:=by
 refine CallWp.iff_of (CallWp.fn (fn:=C.a266) rfl rfl rfl ?_)
 unfold C.a266
 have s32:4294967296≤x→bitLen x=32+bitLen (x/4294967296):=fun e=>bitLen_shift (k:=32) e
 have s16:∀y,65536≤y→bitLen y=16+bitLen (y/65536):=fun y e=>bitLen_shift (k:=16) e
 have s8:∀y,256≤y→bitLen y=8+bitLen (y/256):=fun y e=>bitLen_shift (k:=8) e
 have b8:∀y,y<256→bitLen y≤8:=fun y e=>bitLen_lt (k:=8) e
 have l32:x/4294967296<4294967296:=by omega
 by_cases g32:4294967296≤((x:Nat):Int)
 ·have e32:=s32 (by omega)
  by_cases g16:65536≤((x/4294967296:Nat):Int)
  ·have e16:=s16 (x/4294967296) (by omega)
   by_cases g8:256≤((x/4294967296/65536:Nat):Int)
   ·have e8:=s8 (x/4294967296/65536) (by omega)
    have:=b8 (x/4294967296/65536/256) (by omega)
    simp(disch:=first|exact okD|fail) only[go_sem,seval,b_shr32,b_shr16,b_shr8,idx8]
    all_goals(congr 1;omega)
   ·skip
    have:=b8 (x/4294967296/65536) (by omega)
    simp(disch:=first|exact okD|fail) only[go_sem,seval,b_shr32,b_shr16,b_shr8,idx8]
    all_goals(congr 1;omega)
  ·skip
   by_cases g8:256≤((x/4294967296:Nat):Int)
   ·have e8:=s8 (x/4294967296) (by omega)
    have:=b8 (x/4294967296/256) (by omega)
    simp(disch:=first|exact okD|fail) only[go_sem,seval,b_shr32,b_shr16,b_shr8,idx8]
    all_goals(congr 1;omega)
   ·skip
    have:=b8 (x/4294967296) (by omega)
    simp(disch:=first|exact okD|fail) only[go_sem,seval,b_shr32,b_shr16,b_shr8,idx8]
    all_goals(congr 1;omega)
 ·skip
  by_cases g16:65536≤((x:Nat):Int)
  ·have e16:=s16 (x) (by omega)
   by_cases g8:256≤((x/65536:Nat):Int)
   ·have e8:=s8 (x/65536) (by omega)
    have:=b8 (x/65536/256) (by omega)
    simp(disch:=first|exact okD|fail) only[go_sem,seval,b_shr32,b_shr16,b_shr8,idx8]
    all_goals(congr 1;omega)
   ·skip
    have:=b8 (x/65536) (by omega)
    simp(disch:=first|exact okD|fail) only[go_sem,seval,b_shr32,b_shr16,b_shr8,idx8]
    all_goals(congr 1;omega)
  ·skip
   by_cases g8:256≤((x:Nat):Int)
   ·have e8:=s8 (x) (by omega)
    have:=b8 (x/256) (by omega)
    simp(disch:=first|exact okD|fail) only[go_sem,seval,b_shr32,b_shr16,b_shr8,idx8]
    all_goals(congr 1;omega)
   ·skip
    have:=b8 (x) (by omega)
    simp(disch:=first|exact okD|fail) only[go_sem,seval,b_shr32,b_shr16,b_shr8,idx8]
    all_goals(congr 1;omega)
end
end Go.Ae
set_option linter.unusedVariables false
set_option linter.unusedSimpArgs false
namespace Go.Ae.Bg
def vl (B:Nat):List Nat→Nat
 |[]=>0
 |x::l=>x+B*vl B l
def Dg (B:Nat) (l:List Nat):Prop:=∀x∈l,x<B
def Norm (l:List Nat):Prop:=l.getLast?≠some 0
def trimL:List Nat→List Nat
 |[]=>[]
 |x::l=>if x=0∧trimL l=[]then[]else x::trimL l
variable {B:Nat} {l m:List Nat} {x i:Nat}
theorem vl_nil:vl B []=0:=rfl
theorem vl_cons:vl B (x::l)=x+B*vl B l:=rfl
theorem vl_append:∀l:List Nat,vl B (l++m)=vl B l+B^l.length*vl B m
 |[]=>by simp[vl]
 | x::l=>by
  rw[List.cons_append,vl_cons,vl_append l,vl_cons,List.length_cons,Nat.pow_succ,Nat.mul_add,←Nat.mul_assoc,Nat.mul_comm B (B^l.length)];omega
theorem vl_snoc:vl B (l++[x])=vl B l+B^l.length*x:=by rw[vl_append];simp[vl]
theorem getD_eq {l:List Nat} (hi:i<l.length):l.getD i 0=l[i]:=by simp[List.getD,hi]
theorem take_succ {l:List Nat} (hi:i<l.length):l.take (i+1)=l.take i++[l.getD i 0]:=by
 rw[List.take_add_one,getD_eq hi];simp[hi]
theorem vl_take_succ (hi:i<l.length):vl B (l.take (i+1))=vl B (l.take i)+B^i*l.getD i 0:=by
 rw[take_succ hi,vl_snoc,List.length_take,Nat.min_eq_left (by omega)]
theorem vl_take_any:vl B (l.take (i+1))=vl B (l.take i)+B^i*l.getD i 0:=by
 rcases Nat.lt_or_ge i l.length with h|h
 ·exact vl_take_succ h
 ·rw[List.take_of_length_le (by omega),List.take_of_length_le h]
  have:l.getD i 0=0:=by simp[List.getD,List.getElem?_eq_none h]
  rw[this];simp
theorem take_set {l:List Nat}:(l.set i x).take i=l.take i:=by
 rw[List.take_set_of_le (Nat.le_refl _)]
theorem getD_set {l:List Nat} (hi:i<l.length):(l.set i x).getD i 0=x:=by simp[List.getD,hi]
theorem getD_set_ne {l:List Nat} {j:Nat} (h:i≠j):(l.set i x).getD j 0=l.getD j 0:=by simp[List.getD,List.getElem?_set_ne h]
theorem vl_set_take (hi:i<l.length):vl B ((l.set i x).take (i+1))=vl B (l.take i)+B^i*x:=by
 rw[vl_take_succ (by simpa using hi),take_set,getD_set hi]
theorem Dg.nil:Dg B []:=by simp[Dg]
theorem Dg.cons (h:x<B) (hl:Dg B l):Dg B (x::l):=by
 intro y hy;rcases List.mem_cons.1 hy with rfl|hy
 ·exact h
 ·exact hl y hy
theorem Dg.head (h:Dg B (x::l)):x<B:=h x (by simp)
theorem Dg.tail (h:Dg B (x::l)):Dg B l:=fun y hy=>h y (List.mem_cons_of_mem _ hy)
theorem Dg.append (h:Dg B l) (k:Dg B m):Dg B (l++m):=fun y hy=>(List.mem_append.1 hy).elim (h y) (k y)
theorem Dg.left (h:Dg B (l++m)):Dg B l:=fun y hy=>h y (List.mem_append_left _ hy)
theorem Dg.right (h:Dg B (l++m)):Dg B m:=fun y hy=>h y (List.mem_append_right _ hy)
theorem Dg.take (h:Dg B l) (n:Nat):Dg B (l.take n):=fun y hy=>h y (List.mem_of_mem_take hy)
theorem Dg.drop (h:Dg B l) (n:Nat):Dg B (l.drop n):=fun y hy=>h y (List.mem_of_mem_drop hy)
theorem Dg.set (h:Dg B l) (n:Nat) (hx:x<B):Dg B (l.set n x):=by
 intro y hy
 rcases List.mem_or_eq_of_mem_set hy with hy|rfl
 ·exact h y hy
 ·exact hx
theorem Dg.zeros (hB:0<B) (n:Nat):Dg B (List.replicate n 0):=by
 intro y hy;rw[List.mem_replicate]at hy;omega
theorem Dg.getD (hB:0<B) (h:Dg B l) (i:Nat):l.getD i 0<B:=by
 rcases Nat.lt_or_ge i l.length with hi|hi
 ·rw[getD_eq hi];exact h _ (List.getElem_mem hi)
 ·have:l.getD i 0=0:=by simp[List.getD,List.getElem?_eq_none hi]
  omega
theorem vl_lt (hB:0<B):∀{l:List Nat},Dg B l→vl B l<B^l.length
 |[],_=>by simp[vl]
 | x::l,h=>by
  have h1:=vl_lt hB h.tail
  have h2:=h.head
  have h3:B*(vl B l+1)≤B*B^l.length:=Nat.mul_le_mul_left _ h1
  rw[vl_cons,List.length_cons,Nat.pow_succ,Nat.mul_comm (B^l.length)]
  rw[Nat.mul_add]at h3;omega
theorem vl_zeros:∀n:Nat,vl B (List.replicate n 0)=0
 |0=>rfl
 |n+1=>by rw[List.replicate_succ,vl_cons,vl_zeros n];simp
theorem vl_inj (hB:0<B):∀{l m:List Nat},Dg B l→Dg B m→l.length=m.length→vl B l=vl B m→l=m
 |[],[],_,_,_,_=>rfl
 |[],_::_,_,_,h,_=>by simp at h
 |_::_,[],_,_,h,_=>by simp at h
 | x ::l,y::m,hl,hm,h,hv=>by
  rw[vl_cons,vl_cons]at hv
  have h1:=hl.head;have h2:=hm.head
  have e:x=y:=by
   have a:(x+B*vl B l)%B=x:=by rw[Nat.add_mul_mod_self_left];exact Nat.mod_eq_of_lt h1
   have b:(y+B*vl B m)%B=y:=by rw[Nat.add_mul_mod_self_left];exact Nat.mod_eq_of_lt h2
   rw[←a,←b,hv]
  subst e
  have:vl B l=vl B m:=Nat.eq_of_mul_eq_mul_left hB (by omega)
  rw[vl_inj hB hl.tail hm.tail (by simpa using h) this]
theorem vl_trim:∀l:List Nat,vl B (trimL l)=vl B l
 |[]=>rfl
 | x ::l=>by
  unfold trimL
  split
  ·rename_i h
   have:=vl_trim l
   rw[h.2]at this
   rw[vl_cons,←this,h.1,vl_nil];simp
  ·rw[vl_cons,vl_cons,vl_trim l]
theorem Dg.trim:∀{l:List Nat},Dg B l→Dg B (trimL l)
 |[],h=>h
 | x::l,h=>by
  unfold trimL
  split
  ·exact Dg.nil
  ·exact Dg.cons h.head (Dg.trim h.tail)
theorem norm_trim:∀l:List Nat,Norm (trimL l)
 |[]=>by simp[trimL,Norm]
 | x ::l=>by
  have ih:=norm_trim l
  unfold trimL
  split
  ·simp[Norm]
  ·rename_i h
   unfold Norm at *
   cases ht:trimL l with
   |nil=>simp only[List.getLast?_singleton,ne_eq,Option.some.injEq];intro e;exact h ⟨e,ht⟩
   |cons y r=>rw[ht]at ih;rw[List.getLast?_cons_cons];exact ih
theorem trim_take:∀l:List Nat,trimL l=l.take (trimL l).length
 |[]=>rfl
 | x::l=>by
  unfold trimL
  split
  ·rfl
  ·rw[List.length_cons,List.take_succ_cons,←trim_take l]
theorem trim_len (l:List Nat):(trimL l).length≤l.length:=by rw[trim_take l,List.length_take];omega
theorem trim_snoc0:∀l:List Nat,trimL (l++[0])=trimL l
 |[]=>rfl
 |x::l=>by rw[List.cons_append,trimL,trimL,trim_snoc0 l]
theorem trim_snoc:∀{l:List Nat},x≠0→trimL (l++[x])=l++[x]
 |[],h=>by simp[trimL,h]
 |y::l,h=>by rw[List.cons_append,trimL,trim_snoc h,if_neg (by simp)]
theorem snoc_of (h:l≠[]):∃m x,l=m++[x]:=by
 rcases List.eq_nil_or_concat l with h'|⟨m,x,h'⟩
 ·exact absurd h' h
 ·exact⟨m,x,by simpa using h'⟩
theorem norm_snoc:Norm (l++[x])↔x≠0:=by simp[Norm]
theorem vl_ge (hx:x≠0):B^l.length≤vl B (l++[x]):=by
 rw[vl_snoc]
 have:B^l.length*1≤B^l.length*x:=Nat.mul_le_mul_left _ (by omega)
 omega
theorem norm_pos (hB:0<B) (hn:Norm l) (h0:l≠[]):0<vl B l:=by
 obtain⟨m,x,rfl⟩:=snoc_of h0
 have:=vl_ge (B:=B) (l:=m) (norm_snoc.1 hn)
 have:=Nat.pow_pos (n:=m.length) hB
 omega
theorem longer (hB:1<B) (hl:Dg B l) (hn:Norm m) (h:l.length<m.length):vl B l<vl B m:=by
 have h0:m≠[]:=by rintro rfl;simp at h
 obtain⟨k,x,rfl⟩:=snoc_of h0
 have h1:=vl_ge (B:=B) (l:=k) (norm_snoc.1 hn)
 have h2:=vl_lt (B:=B) (by omega) hl
 have h3:=Nat.pow_le_pow_right (n:=B) (by omega) (show l.length≤k.length by simp at h;omega)
 omega
theorem norm_len (hB:1<B) (hl:Dg B l) (hm:Dg B m) (kl:Norm l) (km:Norm m) (h:vl B l=vl B m):l.length=m.length:=by
 rcases Nat.lt_trichotomy l.length m.length with c|c|c
 ·have:=longer hB hl km c;omega
 ·exact c
 ·have:=longer hB hm kl c;omega
theorem norm_inj (hB:1<B) (hl:Dg B l) (hm:Dg B m) (kl:Norm l) (km:Norm m) (h:vl B l=vl B m):l=m:=
 vl_inj (by omega) hl hm (norm_len hB hl hm kl km h) h
theorem vl_split (n:Nat) (hn:n≤l.length):vl B l=vl B (l.take n)+B^n*vl B (l.drop n):=by
 conv=>lhs;rw[←List.take_append_drop n l,vl_append,List.length_take,Nat.min_eq_left hn]
theorem top_lt {a b:List Nat} (hB:0<B) (ha:Dg B a) (hl:a.length=b.length) (hi:i<a.length) (hs:a.drop (i+1)=b.drop (i+1)) (h:a.getD i 0<b.getD i 0):vl B a<vl B b:=by
 rw[vl_split (B:=B) (l:=a) (i+1) (by omega),vl_split (B:=B) (l:=b) (i+1) (by omega),hs,vl_take_succ hi,vl_take_succ (by omega)]
 have h1:=vl_lt hB (ha.take i)
 rw[List.length_take,Nat.min_eq_left (by omega)]at h1
 have h2:B^i*(a.getD i 0+1)≤B^i*b.getD i 0:=Nat.mul_le_mul_left _ h
 rw[Nat.mul_add]at h2;omega
theorem vl_set:∀{l:List Nat} {i:Nat},i<l.length→vl B (l.set i x)+B^i*l.getD i 0=vl B l+B^i*x
 |[],_,h=>by simp at h
 |y::l,0,_=>by simp[vl_cons];omega
 | y::l,i+1,h=>by
  have ih:=vl_set (l:=l) (i:=i) (by simpa using h)
  have e:B*(vl B (l.set i x)+B^i*l.getD i 0)=B*(vl B l+B^i*x):=by rw[ih]
  rw[Nat.mul_add,Nat.mul_add]at e
  have e2:∀z,B^(i+1)*z=B*(B^i*z):=fun z=>by rw[Nat.pow_succ,Nat.mul_comm (B^i) B,Nat.mul_assoc]
  simp only[List.set_cons_succ,vl_cons,List.getD_cons_succ]
  rw[e2,e2];omega
end Go.Ae.Bg
set_option linter.unusedVariables false
set_option linter.unusedSimpArgs false
set_option maxRecDepth 100000
namespace Go.Ae
open Bg
noncomputable section
def wd (kd:IntKind) (n:Nat):AV:= .int kd n
def tokOf:AV→Nat
 | .sl t _ _ _=>t
 |_=>0
def offOf:AV→Nat
 | .sl _ o _ _=>o
 |_=>0
def Sq (kd:IntKind) (h:Hp) (v:AV) (l:List Nat):Prop:=
 (v= .nils∧l=[])∨∃(t o:Nat) (own:Bool) (st:Nat) (L:List Nat),v= .sl t o l.length 1∧h.get t=some (.row (L.map (wd kd)) own st)∧o+l.length≤L.length∧(L.drop o).take l.length=l∧t<h.next∧st≤h.clk
structure Rd (kd:IntKind) (h:Hp) (v:AV) (l:List Nat):Prop where
 len:lenK .slice v=some (.int .i64 l.length)
 adr:∀(k:IntKind) (i:Int),0≤i∧i<l.length→iadrK 1 v (.int k i)=some (.ptr (tokOf v) (offOf v+i.toNat))
 tok:l.length≠0→tokOf v<h.next
 load:∀i,i<l.length→∀h' K,LoadR false 1 (offOf v+i) (h.get (tokOf v)) h' K↔K (.int kd (l.getD i 0:Nat)) h'
 old:l.length≠0→∀c0,h.clk≤c0→OldR (h.get (tokOf v)) c0=true
section
variable {kd:IntKind} {h h':Hp} {v:AV} {l L:List Nat} {i x t o n st:Nat} {own:Bool} {K:AV→Hp→Prop}
theorem Sq.grs (s:Sq kd h v l) (g:Grs h h'):Sq kd h' v l:=by
 rcases s with s|⟨t,o,own,st,L,e,hg,h1,h2,h3,h4⟩
 ·exact .inl s
 ·exact .inr ⟨t,o,own,st,L,e,(g.get h3).trans hg,h1,h2,Nat.lt_of_lt_of_le h3 g.next,Nat.le_trans h4 g.clk⟩
theorem Sq.nil:Sq kd h .nils []:= .inl ⟨rfl,rfl⟩
theorem Sq.all (hg:h.get t=some (.row (l.map (wd kd)) own st)) (ht:t<h.next) (hs:st≤h.clk):Sq kd h (.sl t 0 l.length 1) l:=
 .inr ⟨t,0,own,st,l,rfl,hg,by simp,by simp,ht,hs⟩
theorem row_get (hi:i<L.length):(L.map (wd kd))[i]?=some (.int kd (L.getD i 0:Nat)):=by
 rw[List.getElem?_map,List.getElem?_eq_getElem hi,getD_eq hi];rfl
theorem set_row (hi:i<L.length):List.take i (L.map (wd kd))++ .int kd (x:Int)::List.drop (i+1) (L.map (wd kd))=(L.set i x).map (wd kd):=by
 rw[List.map_set,List.set_eq_take_append_cons_drop,if_pos (by simpa using hi)];rfl
theorem win_get (h1:o+l.length≤L.length) (h2:(L.drop o).take l.length=l) (hi:i<l.length):L.getD (o+i) 0=l.getD i 0:=by
 conv=>rhs;rw[←h2]
 simp only[List.getD,List.getElem?_take,if_pos hi,List.getElem?_drop]
theorem Sq.rd (s:Sq kd h v l):Rd kd h v l:=by
 rcases s with⟨rfl,rfl⟩|⟨t,o,own,st,L,rfl,hg,h1,h2,h3,h4⟩
 ·refine⟨rfl,fun k i hi=>?_,fun e=>absurd rfl e,fun i hi=>?_,fun e=>absurd rfl e⟩
  ·simp only[List.length_nil]at hi;omega
  ·simp only[List.length_nil]at hi;omega
 ·refine⟨rfl,fun k i hi=>?_,fun _=>h3,fun i hi h' K=>?_,fun _ c0 hc=>?_⟩
  ·rw[iadrK_sl hi];simp only[tokOf,offOf,Nat.mul_one]
  ·simp only[tokOf,offOf,hg,LoadR.row]
   rw[if_pos (by rw[List.length_map];omega),if_neg (by decide),row_get (by omega),win_get h1 h2 hi]
   exact Iff.rfl
  ·simp only[tokOf,hg];exact OldR.row (Nat.le_trans h4 hc)
theorem Sq.take (s:Sq kd h v l) (n:Nat) (hn:n≤l.length):∀{v'},(v'= .nils∧v= .nils∨v'= .sl (tokOf v) (offOf v) n 1∧v≠ .nils)→Sq kd h v' (l.take n):=by
 intro v' hv
 rcases s with⟨rfl,rfl⟩|⟨t,o,own,st,L,rfl,hg,h1,h2,h3,h4⟩
 ·rcases hv with⟨rfl,_⟩|⟨_,e⟩
  ·simpa using Sq.nil
  ·exact absurd rfl e
 ·rcases hv with⟨_,e⟩|⟨rfl,_⟩
  ·cases e
  ·refine .inr ⟨t,o,own,st,L,?_,hg,?_,?_,h3,h4⟩
   ·simp only[tokOf,offOf,List.length_take,Nat.min_eq_left hn]
   ·rw[List.length_take];omega
   ·rw[List.length_take,Nat.min_eq_left hn]
    conv=>rhs;rw[←h2]
    rw[List.take_take,Nat.min_eq_left hn]
def AtS (h:Hp) (t:Nat) (cs:List AV):Prop:=∃st,h.get t=some (.row cs true st)∧st≤h.clk∧t<h.next
theorem AtS.put {cs:List AV} (ht:t<h.next):AtS (h.put t fun s=> .row cs true s) t cs:=⟨_,Hp.put_same,Nat.le_refl _,ht⟩
theorem AtS.push {cs:List AV}:AtS (h.push fun s=> .row cs true s) h.next cs:=⟨_,Hp.push_same,Nat.le_refl _,Nat.lt_succ_self _⟩
theorem AtS.sq (a:AtS h t (l.map (wd kd))) {n:Nat} (hn:l.length=n):Sq kd h (.sl t 0 n 1) l:=by
 obtain⟨st,hg,hs,ht⟩:=a
 subst hn
 exact Sq.all hg ht hs
theorem AtS.other {cs:List AV} {u:Nat} {f:Nat→AObj} (a:AtS h t cs) (hu:t≠u):AtS (h.put u f) t cs:=by
 obtain⟨st,hg,hs,ht⟩:=a
 exact⟨st,(Hp.put_other hu).trans hg,Nat.le_succ_of_le hs,ht⟩
theorem AtS.grs {cs:List AV} (a:AtS h t cs) (g:Grs h h'):AtS h' t cs:=by
 obtain⟨st,hg,hs,ht⟩:=a
 exact⟨st,(g.get ht).trans hg,Nat.le_trans hs g.clk,Nat.lt_of_lt_of_le ht g.next⟩
def MksK (b:Nat) (z l c:AV) (h:Hp) (K:AV→Hp→Prop):Prop:=
 match l,c with
 | .int .i64 l,.int .i64 c=>0≤l∧l≤c∧c*b≤281474976710656∧c≤281474976710656∧z.one=true∧K (.sl h.next 0 l.toNat 1) (h.push fun s=> .row (rep l.toNat [z]) true s)
 |_,_=>False
theorem rep_one (z:AV):∀n:Nat,rep n [z]=List.replicate n z
 |0=>rfl
 |n+1=>by rw[rep,rep_one z n,List.replicate_succ];rfl
theorem w_mks1 {E:Env} {s:St} {b:Nat} {z:AV} {x y:Opd}:OpWp E (.mks 1 b [z] x y) s K↔MksK b z (val s.tm x) (val s.tm y) s.hp K:=by
 rw[w_mks]
 simp only[o_mks,MksK]
 cases val s.tm x<;>try exact Iff.rfl
 rename_i k l
 cases k<;>try exact Iff.rfl
 cases val s.tm y<;>try exact Iff.rfl
 rename_i k' c
 cases k'<;>try exact Iff.rfl
 simp only
 split
 ·rename_i hc
  obtain⟨a1,a2,a3,a4,a5,a6,a7⟩:=hc
  have a7':z.one=true:=by simpa using a7
  simp only[Some2,a1,a2,a3,a4,a7',true_and]
 ·rename_i hc
  simp only[Some2,false_iff]
  rintro⟨a1,a2,a3,a4,a5,_⟩
  exact hc ⟨a1,a2,a3,a4,rfl,by decide,by simpa using a5⟩
theorem MksK.int {b:Nat} {z:AV} {n:Nat} (hz:z.one=true) (hn:n≤281474976710656∧n*b≤281474976710656):MksK b z (.int .i64 n) (.int .i64 n) h K↔K (.sl h.next 0 n 1) (h.push fun s=> .row (List.replicate n z) true s):=by
 have:((n:Int))*b≤281474976710656:=by have:=hn.2;rw[←Int.natCast_mul];exact Int.ofNat_le.2 this
 have h1:(0:Int)≤n:=by omega
 have h2:(n:Int)≤281474976710656:=by omega
 simp only[MksK,hz,rep_one,Int.toNat_natCast,this,h1,h2,Int.le_refl,true_and]
theorem MksK.int' {b:Nat} {z:AV} {m:Int} (n:Nat) (hm:m=n) (hz:z.one=true) (hn:n≤281474976710656∧n*b≤281474976710656):MksK b z (.int .i64 m) (.int .i64 m) h K↔K (.sl h.next 0 n 1) (h.push fun s=> .row (List.replicate n z) true s):=by
 subst hm;exact MksK.int hz hn
theorem slA_hi {t o n z sz:Nat} {kd:IntKind} {k:Int} (hk:0≤k∧k≤n):slA h sz (.sl t o n z) none (some (.int kd k))=some (.sl t o k.toNat z,h):=by
 have:((0:Nat):Int)≤k∧k≤(n:Int):=by omega
 simp only[slA,bound,if_pos this,if_true]
theorem slA_nil {sz:Nat} {kd:IntKind}:slA h sz .nils none (some (.int kd 0))=some (.nils,h):=by
 simp[slA,bound]
theorem slA_lh {t o n:Nat} {k1 k2:IntKind} {i j:Int} (hk:0≤i∧i<j∧j≤(n:Int)):slA h 1 (.sl t o n 1) (some (.int k1 i)) (some (.int k2 j))=some (.sl t (o+i.toNat) (j.toNat-i.toNat) 1,h):=by
 have h1:((0:Nat):Int)≤j∧j≤(n:Int):=by omega
 have h2:((0:Nat):Int)≤i∧i≤((j.toNat:Nat):Int):=by omega
 simp only[slA,bound,if_pos h1,if_pos h2,Nat.mul_one]
 by_cases h0:i.toNat=0
 ·rw[if_pos h0,h0,Nat.add_zero,Nat.sub_zero]
 ·rw[if_neg h0,if_neg (by simp),if_pos (by omega)]
theorem Some2.som {v:AV}:Some2 (some (v,h)) K↔K v h:=Iff.rfl
attribute [go_sem] w_mks1 w_sl Some2.som
end
section
variable {h:Hp} {K:AV→Hp→Prop}
theorem c267 {x y c:Nat} (hc:c≤1):CallWp E2 267 [.int .u64 x,.int .u64 y,.int .u64 c] h K↔K (.tup [.int .u64 ((x+y+c)%18446744073709551616:Nat),.int .u64 ((x+y+c)/18446744073709551616:Nat)]) h:=by
 refine CallWp.iff_of (CallWp.ext (p:=L.x267) rfl (v:= .tup [.int .u64 ((x+y+c)%18446744073709551616:Nat),.int .u64 ((x+y+c)/18446744073709551616:Nat)]) ?_ ⟨rfl,rfl⟩)
 show(match Nat.ble c 1 with|true=>_|false=>_)=_
 rw[Nat.ble_eq_true_of_le hc]
 simp only[lit_eq]
 rfl
theorem c267_0 {x y:Nat}:CallWp E2 267 [.int .u64 x,.int .u64 y,.int .u64 0] h K↔K (.tup [.int .u64 ((x+y)%18446744073709551616:Nat),.int .u64 ((x+y)/18446744073709551616:Nat)]) h:=c267 (c:=0) (by omega)
theorem c269 {x y c:Nat} (hc:c≤1):CallWp E2 269 [.int .u64 x,.int .u64 y,.int .u64 c] h K↔K (.tup [.int .u64 ((x+18446744073709551616-y-c)%18446744073709551616:Nat),.int .u64 ((if x<y+c then 1 else 0:Nat):Nat)]) h:=by
 refine CallWp.iff_of (CallWp.ext (p:=L.x269) rfl (v:= .tup [.int .u64 ((x+18446744073709551616-y-c)%18446744073709551616:Nat),.int .u64 ((if x<y+c then 1 else 0:Nat):Nat)]) ?_ ⟨rfl,rfl⟩)
 show(match Nat.ble c 1 with|true=>_|false=>_)=_
 rw[Nat.ble_eq_true_of_le hc]
 simp only[lit_eq]
 congr 3
 by_cases hb:x<y+c
 ·rw[if_pos hb,show Nat.blt x (Nat.add y c)=true from by simpa[Nat.blt_eq]using hb];rfl
 ·rw[if_neg hb,show Nat.blt x (Nat.add y c)=false from by
   cases hh:Nat.blt x (Nat.add y c)with
   |false=>rfl
   |true=>exact absurd (by simpa[Nat.blt_eq]using hh) hb];rfl
theorem c268n:CallWp E2 268 [.nils] h K↔K .nils h:=by
 refine CallWp.iff_of (CallWp.fn (fn:=C.a268) rfl rfl rfl ?_)
 unfold C.a268
 repeat' (with_reducible first|simp(disch:=first|exact okD|fail) only[go_sem,seval,Wp.unroll,slA_nil]|(apply Spl.i<;>intro hc))
theorem c268s {t o n st:Nat} {L:List Nat} {own:Bool} (hg:h.get t=some (.row (L.map (wd .u64)) own st)) (hn:o+n≤L.length) (hn63:n≤9223372036854775807):
  CallWp E2 268 [.sl t o n 1] h K↔K (.sl t o (trimL ((L.drop o).take n)).length 1) h:=by
 refine CallWp.iff_of (CallWp.fn (fn:=C.a268) rfl rfl rfl ?_)
 unfold C.a268
 repeat' (with_reducible first|simp(disch:=first|exact okD|fail) only[go_sem,seval]|(apply Spl.i<;>intro hc))
 refine Wp.loopI (fun m s=>∃k:Nat,val s.tm (.t 0)= .sl t o n 1∧val s.tm (.t 3)= .int .i64 k∧s.hp=h∧k≤n∧trimL ((L.drop o).take n)=trimL ((L.drop o).take k)∧k=m) (n:=n) ?_ ?_
 ·exact⟨n,by simp(disch:=first|exact okD|fail) only[go_sem,seval],by simp(disch:=first|exact okD|fail) only[go_sem,seval],rfl,Nat.le_refl _,rfl,rfl⟩
 ·rintro m ⟨tm,hp⟩ ⟨k,h0,h3,rfl,hk,heq,rfl⟩
  simp only at h0 h3
  rcases Nat.eq_zero_or_pos k with rfl|hpos
  ·have e0:((0:Nat):Int).toNat=0:=rfl
   repeat' (with_reducible first|simp(disch:=first|exact okD|fail) only[go_sem,seval,h0,h3,slA_hi,e0]|(apply Spl.i<;>intro hc))
   rw[heq];simp[trimL]
  ·have hp':(0:Int)<k:=by omega
   have e1:((k:Int)-1).toNat=k-1:=by omega
   have hx:(L.map (wd .u64))[o+(k-1)]?=some (.int .u64 (L.getD (o+(k-1)) 0:Nat)):=row_get (by omega)
   have hle:o+(k-1)+1≤L.length:=by omega
   have htk:(L.drop o).take k=(L.drop o).take (k-1)++[L.getD (o+(k-1)) 0]:=by
    have:=take_succ (i:=k-1) (l:=L.drop o) (by rw[List.length_drop];omega)
    rw[Nat.sub_add_cancel hpos]at this
    rw[this]
    congr 2
    simp[List.getD]
   by_cases hz:L.getD (o+(k-1)) 0=0
   ·have hz':((L.getD (o+(k-1)) 0:Nat):Int)=0:=by omega
    repeat' (with_reducible first|simp(disch:=first|exact okD|fail) only[go_sem,seval,h0,h3,hp',e1,hg,hx,hle,List.length_map,Nat.mul_one,hz']|(apply Spl.i<;>intro hc))
    refine⟨k-1,by omega,k-1,?_,by omega,?_,rfl⟩
    ·congr 1;omega
    ·rw[heq,htk,hz,trim_snoc0]
   ·have hz':¬((L.getD (o+(k-1)) 0:Nat):Int)=0:=by omega
    repeat' (with_reducible first|simp(disch:=first|exact okD|fail) only[go_sem,seval,h0,h3,hp',e1,hg,hx,hle,List.length_map,Nat.mul_one,hz',slA_hi]|(apply Spl.i<;>intro hc))
    rw[heq,htk,trim_snoc hz,←htk,List.length_take,List.length_drop,Nat.min_eq_left (by omega)]
theorem g268 {v:AV} {l:List Nat} (hS:Sq .u64 h v l) (hl:l.length≤9223372036854775807):Gp E2 268 [v] h fun v' h'=>Sq .u64 h' v' (trimL l):=by
 rcases hS with⟨rfl,rfl⟩|⟨t,o,own,st,L,rfl,hg,h1,h2,h3,h4⟩
 ·exact Gp.of (c268n.2 ⟨Sq.nil,Grs.refl h⟩)
 ·refine Gp.of ((c268s hg h1 hl).2 ⟨?_,Grs.refl h⟩)
  rw[h2]
  refine .inr ⟨t,o,own,st,L,rfl,hg,?_,?_,h3,h4⟩
  ·have:=trim_len l;omega
  ·conv=>rhs;rw[trim_take l,←h2]
   rw[List.take_take,Nat.min_eq_left (by rw[h2];exact trim_len l),h2]
end
end
end Go.Ae
set_option linter.unusedVariables false
set_option linter.unusedSimpArgs false
set_option maxRecDepth 100000
namespace Go.Ae
open Bg
noncomputable section
def cmpN (a b:Nat):Int:=if a<b then -1 else if b<a then 1 else 0
section
variable {h:Hp} {K:AV→Hp→Prop}
theorem c205 {va vb:AV} {a b:List Nat} (ha:Sq .u64 h va a) (hb:Sq .u64 h vb b) (da:Dg 18446744073709551616 a) (db:Dg 18446744073709551616 b) (na:Norm a) (nb:Norm b) (hla:a.length≤9223372036854775807) (hlb:b.length≤9223372036854775807):
  CallWp E2 205 [va,vb] h K↔K (.int .i64 (cmpN (vl 18446744073709551616 a) (vl 18446744073709551616 b))) h:=by
 refine CallWp.iff_of (CallWp.fn (fn:=C.a205) rfl rfl rfl ?_)
 unfold C.a205
 have ra:=ha.rd
 have rb:=hb.rd
 by_cases hl:a.length=b.length
 ·have hl':(a.length:Int)=b.length:=by omega
  have hl2:=ra.len
  have hl3:=rb.len
  rw[←hl]at hl3
  repeat' (with_reducible first|simp(disch:=first|exact okD|fail) only[go_sem,seval,hl2,hl3]|(apply Spl.i<;>intro hc))
  refine Wp.loopI (fun m s=>∃k:Nat,val s.tm (.t 0)=va∧val s.tm (.t 1)=vb∧val s.tm (.t 5)= .int .i64 ((k:Int)-1)∧s.hp=h∧k≤a.length∧a.drop k=b.drop k∧k=m) (n:=a.length) ?_ ?_
  ·exact⟨a.length,by simp(disch:=first|exact okD|fail) only[go_sem,seval],by simp(disch:=first|exact okD|fail) only[go_sem,seval],by simp(disch:=first|exact okD|fail) only[go_sem,seval],rfl,Nat.le_refl _,by rw[List.drop_length,hl,List.drop_length],rfl⟩
  ·rintro m ⟨tm,hp⟩ ⟨k,h0,h1,h5,rfl,hk,heq,rfl⟩
   simp only at h0 h1 h5
   rcases Nat.eq_zero_or_pos k with rfl|hpos
   ·have e0:((0:Nat):Int)-1= -1:=rfl
    repeat' (with_reducible first|simp(disch:=first|exact okD|fail) only[go_sem,seval,h0,h1,h5,e0]|(apply Spl.i<;>intro hc))
    simp only[List.drop_zero]at heq
    subst heq
    simp[cmpN]
   ·have e1:((k:Int)-1).toNat=k-1:=by omega
    have hp1:(0:Int)≤(k:Int)-1:=by omega
    have ola:=ra.old (by omega)
    have olb:=rb.old (by omega)
    have lda:=ra.load (k-1) (by omega)
    have ldb:=rb.load (k-1) (by omega)
    have ada:=ra.adr
    have adb:=rb.adr
    have sda:a.drop (k-1)=a.getD (k-1) 0::a.drop k:=by
     rw[List.drop_eq_getElem_cons (by omega),getD_eq (by omega),Nat.sub_add_cancel hpos]
    have sdb:b.drop (k-1)=b.getD (k-1) 0::b.drop k:=by
     rw[List.drop_eq_getElem_cons (by omega),getD_eq (by omega),Nat.sub_add_cancel hpos]
    have tl:(k-1+1)=k:=by omega
    generalize hxa:a.getD (k-1) 0=xa at *
    generalize hxb:b.getD (k-1) 0=xb at *
    by_cases hx:xa=xb
    ·have hx':(xa:Int)=xb:=by omega
     repeat' (with_reducible first|simp(disch:=first|exact okD|fail) only[go_sem,seval,h0,h1,h5,hp1,e1,ada,adb,lda,ldb,ola,olb,hx']|(apply Spl.i<;>intro hc))
     refine⟨k-1,by omega,k-1,?_,by omega,?_,rfl⟩
     ·congr 1;omega
     ·rw[sda,sdb,heq,hx]
    ·have hx':¬(xa:Int)=xb:=by omega
     by_cases hlt:xa<xb
     ·have hlt':(xa:Int)<xb:=by omega
      repeat' (with_reducible first|simp(disch:=first|exact okD|fail) only[go_sem,seval,h0,h1,h5,hp1,e1,ada,adb,lda,ldb,ola,olb,hx',hlt']|(apply Spl.i<;>intro hc))
      have:=top_lt (B:=18446744073709551616) (i:=k-1) (by decide) da hl (by omega) (by rw[tl];exact heq) (by rw[hxa,hxb];exact hlt)
      simp[cmpN,this]
     ·have hlt':¬(xa:Int)<xb:=by omega
      repeat' (with_reducible first|simp(disch:=first|exact okD|fail) only[go_sem,seval,h0,h1,h5,hp1,e1,ada,adb,lda,ldb,ola,olb,hx',hlt']|(apply Spl.i<;>intro hc))
      have:=top_lt (B:=18446744073709551616) (i:=k-1) (by decide) db hl.symm (by omega) (by rw[tl];exact heq.symm) (by rw[hxa,hxb];omega)
      simp[cmpN,this,show ¬vl 18446744073709551616 a<vl 18446744073709551616 b by omega]
 ·have hl':¬(a.length:Int)=b.length:=by omega
  have hl2:=ra.len
  have hl3:=rb.len
  by_cases hlt:a.length<b.length
  ·have hlt':(a.length:Int)<b.length:=by omega
   repeat' (with_reducible first|simp(disch:=first|exact okD|fail) only[go_sem,seval,hl2,hl3,hl',hlt']|(apply Spl.i<;>intro hc))
   have:=longer (B:=18446744073709551616) (by decide) da nb hlt
   simp[cmpN,this]
  ·have hlt':¬(a.length:Int)<b.length:=by omega
   repeat' (with_reducible first|simp(disch:=first|exact okD|fail) only[go_sem,seval,hl2,hl3,hl',hlt']|(apply Spl.i<;>intro hc))
   have:=longer (B:=18446744073709551616) (by decide) db na (by omega)
   simp[cmpN,this,show ¬vl 18446744073709551616 a<vl 18446744073709551616 b by omega]
theorem add_step {P B o X Y x y c s:Nat} (h:o+P*c=X+Y) (hs:s=x+y+c):o+P*(s%B)+P*B*(s/B)=X+P*x+(Y+P*y):=by
 have e:P*(s%B)+P*B*(s/B)=P*s:=by
  rw[Nat.mul_assoc,←Nat.mul_add];congr 1;have:=Nat.div_add_mod s B;omega
 have e2:P*s=P*x+P*y+P*c:=by rw[hs,Nat.mul_add,Nat.mul_add]
 omega
theorem add_tail {x y:List Nat} {vx vy:AV} {tm:T AV} (hx:Sq .u64 h vx x) (hy:Sq .u64 h vy y) (dx:Dg 18446744073709551616 x) (dy:Dg 18446744073709551616 y) (hl:y.length≤x.length) (hlx:x.length≤1000000)
  (h0:val tm (.t 0)=vx) (h1:val tm (.t 1)=vy):
  Wp E2 (C.a204.code.post 2) ⟨tm,h⟩ (RetQ [.tmp 4] fun v h'=>(∃l,Sq .u64 h' v l∧Dg 18446744073709551616 l∧Norm l∧vl 18446744073709551616 l=vl 18446744073709551616 x+vl 18446744073709551616 y)∧Grs h h'):=by
 unfold C.a204
 dsimp only[ACode.post]
 have lx:=hx.rd.len
 have mk:=fun{h:Hp} {K:AV→Hp→Prop}=>MksK.int' (h:=h) (K:=K) (b:=8) (z:= .int .u64 0) (m:=(x.length:Int)+1) (x.length+1) rfl rfl (by omega)
 repeat' (with_reducible first|simp(disch:=first|exact okD|fail) only[go_sem,seval,h0,h1,lx,mk]|(apply Spl.i<;>intro hc))
 have hz:(List.replicate (x.length+1) (AV.int .u64 0))=(List.replicate (x.length+1) 0).map (wd .u64):=by rw[List.map_replicate];rfl
 rw[hz]
 refine Wp.loopI (fun m s=>∃(i c:Nat) (out:List Nat),val s.tm (.t 0)=vx∧val s.tm (.t 1)=vy∧val s.tm (.t 5)= .sl h.next 0 (x.length+1) 1∧val s.tm (.t 6)= .int .u64 c∧val s.tm (.t 21)= .int .i64 x.length∧val s.tm (.t 22)= .int .i64 i∧
  Grs h s.hp∧AtS s.hp h.next (out.map (wd .u64))∧out.length=x.length+1∧Dg 18446744073709551616 out∧c≤1∧i≤x.length∧
  vl 18446744073709551616 (out.take i)+18446744073709551616^i*c=vl 18446744073709551616 (x.take i)+vl 18446744073709551616 (y.take i)∧m=x.length-i) (n:=x.length) ?_ ?_
 ·refine⟨0,0,List.replicate (x.length+1) 0,by simp(disch:=first|exact okD|fail) only[go_sem,seval,h0],by simp(disch:=first|exact okD|fail) only[go_sem,seval,h1],by simp(disch:=first|exact okD|fail) only[go_sem,seval],by(simp(disch:=first|exact okD|fail) only[go_sem,seval])<;>rfl,by simp(disch:=first|exact okD|fail) only[go_sem,seval],by(simp(disch:=first|exact okD|fail) only[go_sem,seval])<;>rfl,?_,?_,by simp,Dg.zeros (by decide) _,by omega,by omega,by simp[vl],rfl⟩
  ·exact okG
  ·exact AtS.push
 ·rintro m ⟨tm,hp⟩ ⟨i,c,out,h0,h1,h5,h6,h21,h22,hG,⟨st,hgo,hso,hnx⟩,hlo,hd,hc,hle,hinv,rfl⟩
  simp only at h0 h1 h5 h6 h21 h22 hG hgo hnx
  have rx:=(hx.grs hG).rd
  have ry:=(hy.grs hG).rd
  by_cases hlt:i<x.length
  ·have hlt':(i:Int)<x.length:=by omega
   have hbd:i+1≤out.length:=by omega
   have adx:=rx.adr
   have ady:=ry.adr
   have ldx:=rx.load i hlt
   have ly:=ry.len
   have hset:∀r:Nat,List.take i (out.map (wd .u64))++ .int .u64 (r:Int)::List.drop (i+1) (out.map (wd .u64))=(out.set i r).map (wd .u64):=fun r=>set_row (by omega)
   have tkx:=vl_take_succ (B:=18446744073709551616) hlt
   have hxd:=Dg.getD (B:=18446744073709551616) (by decide) dx i
   have hyd:=Dg.getD (B:=18446744073709551616) (by decide) dy i
   have tky:=vl_take_any (B:=18446744073709551616) (l:=y) (i:=i)
   have fin:∀s,s=x.getD i 0+y.getD i 0+c→vl 18446744073709551616 ((out.set i (s%18446744073709551616)).take (i+1))+18446744073709551616^(i+1)*(s/18446744073709551616)=vl 18446744073709551616 (x.take (i+1))+vl 18446744073709551616 (y.take (i+1)):=by
    intro s hs
    rw[vl_set_take (by omega),tkx,tky,Nat.pow_succ]
    exact add_step hinv hs
   by_cases hly:i<y.length
   ·have hly':(i:Int)<y.length:=by omega
    have ldy:=ry.load i hly
    generalize x.getD i 0=xi at *
    generalize y.getD i 0=yi at *
    repeat' (with_reducible first|simp(disch:=first|exact okD|fail) only[go_sem,seval,h0,h1,h5,h6,h21,h22,hlt',hly',adx,ady,ldx,ldy,ly,c267,hgo,hbd,List.length_map,hset,Nat.mul_one]|(apply Spl.i<;>intro hc))
    refine⟨_,?_,i+1,(xi+yi+c)/18446744073709551616,out.set i ((xi+yi+c)%18446744073709551616),by simp,rfl,?_,?_,?_,?_,?_,?_,?_,rfl⟩
    ·omega
    ·exact Grs.put hG (Nat.le_refl _)
    ·exact AtS.put hnx
    ·simpa using hlo
    ·exact hd.set _ (Nat.mod_lt _ (by decide))
    ·omega
    ·exact hlt
    ·exact fin _ rfl
   ·have hly':¬(i:Int)<y.length:=by omega
    have hy0:y.getD i 0=0:=by simp[List.getD,List.getElem?_eq_none (Nat.le_of_not_lt hly)]
    rw[hy0]at fin
    generalize x.getD i 0=xi at *
    have c267':=fun{h:Hp} {K:AV→Hp→Prop}=>c267 (h:=h) (K:=K) (x:=xi) (y:=0) (c:=c) hc
    rw[Int.natCast_zero]at c267'
    repeat' (with_reducible first|simp(disch:=first|exact okD|fail) only[go_sem,seval,h0,h1,h5,h6,h21,h22,hlt',hly',adx,ady,ldx,ly,c267',hgo,hbd,List.length_map,hset,Nat.mul_one]|(apply Spl.i<;>intro hc))
    refine⟨_,?_,i+1,(xi+0+c)/18446744073709551616,out.set i ((xi+0+c)%18446744073709551616),by simp,rfl,?_,?_,?_,?_,?_,?_,?_,rfl⟩
    ·omega
    ·exact Grs.put hG (Nat.le_refl _)
    ·exact AtS.put hnx
    ·simpa using hlo
    ·exact hd.set _ (Nat.mod_lt _ (by decide))
    ·omega
    ·exact hlt
    ·exact fin _ rfl
  ·have hlt':¬(i:Int)<x.length:=by omega
   obtain rfl:i=x.length:=by omega
   have hbd:x.length+1≤out.length:=by omega
   have hset:List.take x.length (out.map (wd .u64))++ .int .u64 (c:Int)::List.drop (x.length+1) (out.map (wd .u64))=(out.set x.length c).map (wd .u64):=set_row (by omega)
   have lx:=rx.len
   repeat' (with_reducible first|simp(disch:=first|exact okD|fail) only[go_sem,seval,h0,h1,h5,h6,h21,h22,hlt',lx,hgo,hbd,List.length_map,hset,Nat.mul_one]|(apply Spl.i<;>intro hc))
   have hS:=(AtS.put (cs:=(out.set x.length c).map (wd .u64)) hnx).sq (n:=x.length+1) (by simp[hlo])
   refine Gp.wp (g268 hS (by simp;omega)) fun v h' k j g hv=>?_
   repeat' (with_reducible first|simp(disch:=first|exact okD|fail) only[go_sem,seval]|(apply Spl.i<;>intro hc))
   refine⟨⟨_,hv,(hd.set _ (by omega)).trim,norm_trim _,?_⟩,?_⟩
   ·rw[vl_trim]
    have e:=vl_set_take (B:=18446744073709551616) (l:=out) (i:=x.length) (x:=c) (by omega)
    rw[List.take_of_length_le (by simp;omega)]at e
    rw[e,hinv,List.take_length,List.take_of_length_le hl]
   ·exact Grs.ov (Grs.put hG (Nat.le_refl _))
theorem c204 {va vb:AV} {a b:List Nat} (ha:Sq .u64 h va a) (hb:Sq .u64 h vb b) (da:Dg 18446744073709551616 a) (db:Dg 18446744073709551616 b) (hla:a.length≤1000000) (hlb:b.length≤1000000):
  Gp E2 204 [va,vb] h fun v h'=>∃l,Sq .u64 h' v l∧Dg 18446744073709551616 l∧Norm l∧vl 18446744073709551616 l=vl 18446744073709551616 a+vl 18446744073709551616 b:=by
 refine Gp.of (CallWp.fn (fn:=C.a204) rfl rfl rfl ?_)
 have la:=ha.rd.len
 have lb:=hb.rd.len
 refine Wp.cut 2 rfl ?_
 by_cases hl:a.length<b.length
 ·have hl':(a.length:Int)<b.length:=by omega
  have tail:=fun tm h0 h1=>add_tail (tm:=tm) hb ha db da (by omega) hlb h0 h1
  generalize ACode.post 2 C.a204.code=r at tail⊢
  unfold C.a204
  dsimp only[ACode.pre]
  repeat' (with_reducible first|simp(disch:=first|exact okD|fail) only[go_sem,seval,la,lb,hl']|(apply Spl.i<;>intro hc))
  rw[Nat.add_comm]
  exact tail _ (by simp(disch:=first|exact okD|fail) only[go_sem,seval]) (by simp(disch:=first|exact okD|fail) only[go_sem,seval])
 ·have hl':¬(a.length:Int)<b.length:=by omega
  have tail:=fun tm h0 h1=>add_tail (tm:=tm) ha hb da db (by omega) hla h0 h1
  generalize ACode.post 2 C.a204.code=r at tail⊢
  unfold C.a204
  dsimp only[ACode.pre]
  repeat' (with_reducible first|simp(disch:=first|exact okD|fail) only[go_sem,seval,la,lb,hl']|(apply Spl.i<;>intro hc))
  exact tail _ (by simp(disch:=first|exact okD|fail) only[go_sem,seval]) (by simp(disch:=first|exact okD|fail) only[go_sem,seval])
theorem sub_step {P B o X Y x y b r:Nat} (h:o+Y=X+P*b) (hx:x<B) (hy:y<B) (hb:b≤1) (hr:r=(x+B-y-b)%B):
  o+P*r+(Y+P*y)=X+P*x+P*B*(if x<y+b then 1 else 0):=by
 have e:r+y+b=x+B*(if x<y+b then 1 else 0):=by
  split
  ·rw[Nat.mod_eq_of_lt (by omega)]at hr;omega
  ·have:x+B-y-b=(x-y-b)+B:=by omega
   rw[this,Nat.add_mod_right,Nat.mod_eq_of_lt (by omega)]at hr;omega
 have e2:P*r+P*y+P*b=P*x+P*B*(if x<y+b then 1 else 0):=by
  rw[Nat.mul_assoc,←Nat.mul_add,←Nat.mul_add,←Nat.mul_add,e]
 omega
theorem c206 {vx vy:AV} {x y:List Nat} (hx:Sq .u64 h vx x) (hy:Sq .u64 h vy y) (dx:Dg 18446744073709551616 x) (dy:Dg 18446744073709551616 y) (hl:y.length≤x.length) (hlx:x.length≤1000000) (hv:vl 18446744073709551616 y≤vl 18446744073709551616 x):
  Gp E2 206 [vx,vy] h fun v h'=>∃l,Sq .u64 h' v l∧Dg 18446744073709551616 l∧Norm l∧vl 18446744073709551616 l=vl 18446744073709551616 x-vl 18446744073709551616 y:=by
 refine Gp.of (CallWp.fn (fn:=C.a206) rfl rfl rfl ?_)
 unfold C.a206
 have lx:=hx.rd.len
 have mk:=fun{h:Hp} {K:AV→Hp→Prop}=>MksK.int (h:=h) (K:=K) (b:=8) (z:= .int .u64 0) (n:=x.length) rfl (by omega)
 repeat' (with_reducible first|simp(disch:=first|exact okD|fail) only[go_sem,seval,lx,mk]|(apply Spl.i<;>intro hc))
 have hz:(List.replicate x.length (AV.int .u64 0))=(List.replicate x.length 0).map (wd .u64):=by rw[List.map_replicate];rfl
 rw[hz]
 refine Wp.loopI (fun m s=>∃(i c:Nat) (out:List Nat),val s.tm (.t 0)=vx∧val s.tm (.t 1)=vy∧val s.tm (.t 5)= .sl h.next 0 x.length 1∧val s.tm (.t 6)= .int .u64 c∧val s.tm (.t 13)= .int .i64 x.length∧val s.tm (.t 14)= .int .i64 i∧
  Grs h s.hp∧AtS s.hp h.next (out.map (wd .u64))∧out.length=x.length∧Dg 18446744073709551616 out∧c≤1∧i≤x.length∧
  vl 18446744073709551616 (out.take i)+vl 18446744073709551616 (y.take i)=vl 18446744073709551616 (x.take i)+18446744073709551616^i*c∧m=x.length-i) (n:=x.length) ?_ ?_
 ·refine⟨0,0,List.replicate x.length 0,by simp(disch:=first|exact okD|fail) only[go_sem,seval],by simp(disch:=first|exact okD|fail) only[go_sem,seval],by simp(disch:=first|exact okD|fail) only[go_sem,seval],by(simp(disch:=first|exact okD|fail) only[go_sem,seval])<;>rfl,by simp(disch:=first|exact okD|fail) only[go_sem,seval],by(simp(disch:=first|exact okD|fail) only[go_sem,seval])<;>rfl,?_,?_,by simp,Dg.zeros (by decide) _,by omega,by omega,by simp[vl],rfl⟩
  ·exact okG
  ·exact AtS.push
 ·rintro m ⟨tm,hp⟩ ⟨i,c,out,h0,h1,h5,h6,h13,h14,hG,⟨st,hgo,hso,hnx⟩,hlo,hd,hc,hle,hinv,rfl⟩
  simp only at h0 h1 h5 h6 h13 h14 hG hgo hnx
  have rx:=(hx.grs hG).rd
  have ry:=(hy.grs hG).rd
  by_cases hlt:i<x.length
  ·have hlt':(i:Int)<x.length:=by omega
   have hbd:i+1≤out.length:=by omega
   have adx:=rx.adr
   have ady:=ry.adr
   have ldx:=rx.load i hlt
   have ly:=ry.len
   have hset:∀r:Nat,List.take i (out.map (wd .u64))++ .int .u64 (r:Int)::List.drop (i+1) (out.map (wd .u64))=(out.set i r).map (wd .u64):=fun r=>set_row (by omega)
   have tkx:=vl_take_succ (B:=18446744073709551616) hlt
   have hxd:=Dg.getD (B:=18446744073709551616) (by decide) dx i
   have hyd:=Dg.getD (B:=18446744073709551616) (by decide) dy i
   have tky:=vl_take_any (B:=18446744073709551616) (l:=y) (i:=i)
   have fin:∀r,r=(x.getD i 0+18446744073709551616-y.getD i 0-c)%18446744073709551616→vl 18446744073709551616 ((out.set i r).take (i+1))+vl 18446744073709551616 (y.take (i+1))=vl 18446744073709551616 (x.take (i+1))+18446744073709551616^(i+1)*(if x.getD i 0<y.getD i 0+c then 1 else 0):=by
    intro s hs
    rw[vl_set_take (by omega),tkx,tky,Nat.pow_succ]
    exact sub_step hinv hxd hyd hc hs
   by_cases hly:i<y.length
   ·have hly':(i:Int)<y.length:=by omega
    have ldy:=ry.load i hly
    generalize x.getD i 0=xi at *
    generalize y.getD i 0=yi at *
    repeat' (with_reducible first|simp(disch:=first|exact okD|fail) only[go_sem,seval,h0,h1,h5,h6,h13,h14,hlt',hly',adx,ady,ldx,ldy,ly,c269,hgo,hbd,hset]|(apply Spl.i<;>intro hc))
    refine⟨_,?_,i+1,(if xi<yi+c then 1 else 0),out.set i ((xi+18446744073709551616-yi-c)%18446744073709551616),by simp,rfl,?_,?_,?_,?_,?_,?_,?_,rfl⟩
    ·omega
    ·exact Grs.put hG (Nat.le_refl _)
    ·exact AtS.put hnx
    ·simpa using hlo
    ·exact hd.set _ (Nat.mod_lt _ (by decide))
    ·split<;>omega
    ·exact hlt
    ·exact fin _ rfl
   ·have hly':¬(i:Int)<y.length:=by omega
    have hy0:y.getD i 0=0:=by simp[List.getD,List.getElem?_eq_none (Nat.le_of_not_lt hly)]
    rw[hy0]at fin
    generalize x.getD i 0=xi at *
    have c269':=fun{h:Hp} {K:AV→Hp→Prop}=>c269 (h:=h) (K:=K) (x:=xi) (y:=0) (c:=c) hc
    rw[Int.natCast_zero]at c269'
    repeat' (with_reducible first|simp(disch:=first|exact okD|fail) only[go_sem,seval,h0,h1,h5,h6,h13,h14,hlt',hly',adx,ady,ldx,ly,c269',hgo,hbd,hset]|(apply Spl.i<;>intro hc))
    refine⟨_,?_,i+1,(if xi<0+c then 1 else 0),out.set i ((xi+18446744073709551616-0-c)%18446744073709551616),by simp,rfl,?_,?_,?_,?_,?_,?_,?_,rfl⟩
    ·omega
    ·exact Grs.put hG (Nat.le_refl _)
    ·exact AtS.put hnx
    ·simpa using hlo
    ·exact hd.set _ (Nat.mod_lt _ (by decide))
    ·split<;>omega
    ·exact hlt
    ·exact fin _ rfl
  ·have hlt':¬(i:Int)<x.length:=by omega
   obtain rfl:i=x.length:=by omega
   repeat' (with_reducible first|simp(disch:=first|exact okD|fail) only[go_sem,seval,h0,h1,h5,h6,h13,h14,hlt']|(apply Spl.i<;>intro hc))
   have hS:Sq .u64 hp (.sl h.next 0 x.length 1) out:=AtS.sq ⟨st,hgo,hso,hnx⟩ hlo
   refine Gp.wp (g268 hS (by omega)) fun v h' k j g hv=>?_
   repeat' (with_reducible first|simp(disch:=first|exact okD|fail) only[go_sem,seval]|(apply Spl.i<;>intro hc))
   refine⟨⟨_,hv,hd.trim,norm_trim _,?_⟩,?_⟩
   ·rw [vl_trim]
    rw[List.take_length,List.take_of_length_le hl,List.take_of_length_le (by omega)]at hinv
    have h1:=vl_lt (B:=18446744073709551616) (by decide) hd
    rw[hlo]at h1
    have:c=0:=by
     rcases Nat.eq_zero_or_pos c with h0|h0
     ·exact h0
     ·have:c=1:=by omega
      subst this;omega
    subst this
    omega
   ·exact Grs.ov hG
end
end
end Go.Ae
set_option linter.unusedVariables false
set_option linter.unusedSimpArgs false
set_option maxRecDepth 100000
namespace Go.Ae
open Bg
noncomputable section
theorem mul_step {P Q Bj B V V' V0 Y x y o c c' r:Nat} (h:V+Q*c=V0+P*(x*Y)) (hQ:Q=P*Bj) (hr:r+B*c'=x*y+o+c) (hV:V'+Q*o=V+Q*r):
  V'+Q*B*c'=V0+P*(x*(Y+Bj*y)):=by
 have e1:Q*(r+B*c')=Q*(x*y+o+c):=by rw[hr]
 rw[Nat.mul_add,Nat.mul_add,Nat.mul_add,←Nat.mul_assoc]at e1
 have e2:P*(x*(Y+Bj*y))=P*(x*Y)+Q*(x*y):=by
  rw[hQ,Nat.mul_add,Nat.mul_add];congr 1;ac_rfl
 omega
theorem mul_carry {p o c:Nat} (hp:p≤18446744073709551615*18446744073709551615) (ho:o<18446744073709551616) (hc:c<18446744073709551616):
  (p/18446744073709551616+(p%18446744073709551616+o)/18446744073709551616)+((p%18446744073709551616+o)%18446744073709551616+c)/18446744073709551616<18446744073709551616∧((p%18446744073709551616+o)%18446744073709551616+c)%18446744073709551616+18446744073709551616*((p/18446744073709551616+(p%18446744073709551616+o)/18446744073709551616)+((p%18446744073709551616+o)%18446744073709551616+c)/18446744073709551616)=p+o+c:=by
 omega
section
variable {h:Hp} {K:AV→Hp→Prop}
theorem c263 {va vb:AV} {a b:List Nat} (ha:Sq .u64 h va a) (hb:Sq .u64 h vb b) (da:Dg 18446744073709551616 a) (db:Dg 18446744073709551616 b) (hla:a.length≤1000000) (hlb:b.length≤1000000):
  Gp E2 263 [va,vb] h fun v h'=>∃l,Sq .u64 h' v l∧Dg 18446744073709551616 l∧Norm l∧vl 18446744073709551616 l=vl 18446744073709551616 a*vl 18446744073709551616 b:=by
 refine Gp.of (CallWp.fn (fn:=C.a263) rfl rfl rfl ?_)
 unfold C.a263
 have la:=ha.rd.len
 have lb:=hb.rd.len
 have mk:=fun{h:Hp} {K:AV→Hp→Prop}=>MksK.int' (h:=h) (K:=K) (b:=8) (z:= .int .u64 0) (m:=(a.length:Int)+b.length) (a.length+b.length) (by omega) rfl (by omega)
 repeat' (with_reducible first|simp(disch:=first|exact okD|fail) only[go_sem,seval,la,lb,mk]|(apply Spl.i<;>intro hc))
 have hz:(List.replicate (a.length+b.length) (AV.int .u64 0))=(List.replicate (a.length+b.length) 0).map (wd .u64):=by rw[List.map_replicate];rfl
 rw[hz]
 refine Wp.loopI (fun m s=>∃(i:Nat) (out:List Nat),val s.tm (.t 1)=vb∧val s.tm (.t 5)= .sl h.next 0 (a.length+b.length) 1∧val s.tm (.t 20)=va∧val s.tm (.t 21)= .int .i64 a.length∧val s.tm (.t 22)= .int .i64 i∧
  Grs h s.hp∧AtS s.hp h.next (out.map (wd .u64))∧out.length=a.length+b.length∧Dg 18446744073709551616 out∧i≤a.length∧
  vl 18446744073709551616 out=vl 18446744073709551616 (a.take i)*vl 18446744073709551616 b∧(∀k,i+b.length≤k→out.getD k 0=0)∧m=a.length-i) (n:=a.length) ?_ ?_
 ·refine⟨0,List.replicate (a.length+b.length) 0,by simp(disch:=first|exact okD|fail) only[go_sem,seval],by simp(disch:=first|exact okD|fail) only[go_sem,seval],by simp(disch:=first|exact okD|fail) only[go_sem,seval],by simp(disch:=first|exact okD|fail) only[go_sem,seval],by(simp(disch:=first|exact okD|fail) only[go_sem,seval])<;>rfl,?_,?_,by simp,Dg.zeros (by decide) _,by omega,by simp[vl,vl_zeros],?_,rfl⟩
  ·exact okG
  ·exact AtS.push
  ·intro k _;simp only[List.getD,List.getElem?_replicate];split<;>rfl
 ·rintro m ⟨tm,hp⟩ ⟨i,out,h1,h5,h20,h21,h22,hG,hAt,hlo,hd,hle,hinv,hzero,rfl⟩
  simp only at h1 h5 h20 h21 h22 hG hAt
  by_cases hlt:i<a.length
  ·have hlt':(i:Int)<a.length:=by omega
   have ra:=(ha.grs hG).rd
   have ada:=ra.adr
   have lda:=ra.load i hlt
   have lb:=(hb.grs hG).rd.len
   have hxd:=Dg.getD (B:=18446744073709551616) (by decide) da i
   have tka:=vl_take_succ (B:=18446744073709551616) hlt
   generalize a.getD i 0=xi at *
   obtain⟨st0,hg0,hs0,hn0⟩:=id hAt
   repeat' (with_reducible first|simp(disch:=first|exact okD|fail) only[go_sem,seval,h1,h5,h20,h21,h22,hlt',ada,lda,lb]|(apply Spl.i<;>intro hc))
   refine Wp.loopI (fun m s=>∃(j c:Nat) (out':List Nat),val s.tm (.t 1)=vb∧val s.tm (.t 5)= .sl h.next 0 (a.length+b.length) 1∧val s.tm (.t 20)=va∧val s.tm (.t 21)= .int .i64 a.length∧val s.tm (.t 22)= .int .i64 i∧
    val s.tm (.t 6)= .int .i64 i∧val s.tm (.t 7)= .int .u64 xi∧val s.tm (.t 8)= .int .u64 c∧val s.tm (.t 27)=vb∧val s.tm (.t 28)= .int .i64 b.length∧val s.tm (.t 29)= .int .i64 j∧
    Grs h s.hp∧AtS s.hp h.next (out'.map (wd .u64))∧out'.length=a.length+b.length∧Dg 18446744073709551616 out'∧j≤b.length∧c<18446744073709551616∧
    vl 18446744073709551616 out'+18446744073709551616^(i+j)*c=vl 18446744073709551616 out+18446744073709551616^i*(xi*vl 18446744073709551616 (b.take j))∧(∀k,i+b.length≤k→out'.getD k 0=0)∧m=b.length-j) (n:=b.length) ?_ ?_
   ·exact⟨0,0,out,by simp(disch:=first|exact okD|fail) only[go_sem,seval,h1],by simp(disch:=first|exact okD|fail) only[go_sem,seval,h5],by simp(disch:=first|exact okD|fail) only[go_sem,seval,h20],by simp(disch:=first|exact okD|fail) only[go_sem,seval,h21],by simp(disch:=first|exact okD|fail) only[go_sem,seval,h22],by simp(disch:=first|exact okD|fail) only[go_sem,seval],by simp(disch:=first|exact okD|fail) only[go_sem,seval],by(simp(disch:=first|exact okD|fail) only[go_sem,seval])<;>rfl,by simp(disch:=first|exact okD|fail) only[go_sem,seval],by simp(disch:=first|exact okD|fail) only[go_sem,seval],by(simp(disch:=first|exact okD|fail) only[go_sem,seval])<;>rfl,hG,hAt,hlo,hd,Nat.zero_le _,by decide,by simp[vl],hzero,rfl⟩
   ·rintro m ⟨tm',hq⟩ ⟨j,c,out',k1,k5,k20,k21,k22,k6,k7,k8,k27,k28,k29,hG',⟨st,hgo,hso,hnx⟩,hlo',hd',hle',hc,hinv',hzero',rfl⟩
    simp only at k1 k5 k20 k21 k22 k6 k7 k8 k27 k28 k29 hG' hgo hso hnx
    by_cases hlj:j<b.length
    ·have hlj':(j:Int)<b.length:=by omega
     have rb:=(hb.grs hG').rd
     have adb:=rb.adr
     have ldb:=rb.load j hlj
     have hyd:=Dg.getD (B:=18446744073709551616) (by decide) db j
     have tkb:=vl_take_succ (B:=18446744073709551616) hlj
     generalize b.getD j 0=yj at *
     have hij:(((i:Int)+j)).toNat=i+j:=by omega
     have hbd:i+j+1≤out'.length:=by omega
     have hld:(out'.map (wd .u64))[i+j]?=some (.int .u64 (out'.getD (i+j) 0:Nat)):=row_get (by omega)
     have hset:∀r:Nat,List.take (i+j) (out'.map (wd .u64))++ .int .u64 (r:Int)::List.drop (i+j+1) (out'.map (wd .u64))=(out'.set (i+j) r).map (wd .u64):=fun r=>set_row (by omega)
     have hod:=Dg.getD (B:=18446744073709551616) (by decide) hd' (i+j)
     have hvs:=fun r=>vl_set (B:=18446744073709551616) (l:=out') (i:=i+j) (x:=r) (by omega)
     generalize hoj:out'.getD (i+j) 0=oj at *
     have hpp:xi*yj≤18446744073709551615*18446744073709551615:=Nat.mul_le_mul (by omega) (by omega)
     obtain⟨c1,c2⟩:=mul_carry hpp hod hc
     have w1:IntKind.wrap .u64 (((xi*yj/18446744073709551616:Nat):Int)+((xi*yj%18446744073709551616+oj)/18446744073709551616:Nat))=((xi*yj/18446744073709551616+(xi*yj%18446744073709551616+oj)/18446744073709551616:Nat):Int):=by
      rw[←Int.natCast_add,wrap_u64 (by omega)]
     have w2:IntKind.wrap .u64 (((xi*yj/18446744073709551616+(xi*yj%18446744073709551616+oj)/18446744073709551616:Nat):Int)+(((xi*yj%18446744073709551616+oj)%18446744073709551616+c)/18446744073709551616:Nat))=(((xi*yj/18446744073709551616+(xi*yj%18446744073709551616+oj)/18446744073709551616)+((xi*yj%18446744073709551616+oj)%18446744073709551616+c)/18446744073709551616:Nat):Int):=by
      rw[←Int.natCast_add,wrap_u64 (by omega)]
     repeat' (with_reducible first|simp(disch:=first|exact okD|fail) only[go_sem,seval,k1,k5,k20,k21,k22,k6,k7,k8,k27,k28,k29,hlj',adb,ldb,c261,c267_0,hij,hgo,hbd,hld,hset,w1,w2]|(apply Spl.i<;>intro hc))
     refine⟨_,?_,j+1,(xi*yj/18446744073709551616+(xi*yj%18446744073709551616+oj)/18446744073709551616)+((xi*yj%18446744073709551616+oj)%18446744073709551616+c)/18446744073709551616,out'.set (i+j) (((xi*yj%18446744073709551616+oj)%18446744073709551616+c)%18446744073709551616),by simp,rfl,?_,?_,?_,?_,hlj,c1,?_,?_,rfl⟩
     ·omega
     ·exact Grs.put hG' (Nat.le_refl _)
     ·exact AtS.put hnx
     ·simpa using hlo'
     ·exact hd'.set _ (Nat.mod_lt _ (by decide))
     ·rw[←Nat.add_assoc,Nat.pow_succ,tkb]
      exact mul_step hinv' (by rw[Nat.pow_add]) c2 (hvs _)
     ·intro k hk
      rw[Bg.getD_set_ne (show i+j≠k by omega)];exact hzero' k hk
    ·have hlj':¬(j:Int)<b.length:=by omega
     obtain rfl:j=b.length:=by omega
     have lb:=(hb.grs hG').rd.len
     have hij:(((i:Int)+b.length)).toNat=i+b.length:=by omega
     have hbd:i+b.length+1≤out'.length:=by omega
     have hset:List.take (i+b.length) (out'.map (wd .u64))++ .int .u64 (c:Int)::List.drop (i+b.length+1) (out'.map (wd .u64))=(out'.set (i+b.length) c).map (wd .u64):=set_row (by omega)
     repeat' (with_reducible first|simp(disch:=first|exact okD|fail) only[go_sem,seval,k1,k5,k20,k21,k22,k6,k7,k8,k27,k28,k29,hlj',lb,hij,hgo,hbd,hset]|(apply Spl.i<;>intro hc))
     refine⟨_,?_,i+1,out'.set (i+b.length) c,rfl,?_,?_,?_,?_,hlt,?_,?_,rfl⟩
     ·omega
     ·exact Grs.put hG' (Nat.le_refl _)
     ·exact AtS.put hnx
     ·simpa using hlo'
     ·exact hd'.set _ hc
     ·have e:=vl_set (B:=18446744073709551616) (l:=out') (i:=i+b.length) (x:=c) (by omega)
      rw[hzero' _ (Nat.le_refl _),Nat.mul_zero,Nat.add_zero]at e
      rw[e,hinv',hinv,tka,List.take_length,Nat.add_mul,Nat.mul_assoc]
     ·intro k hk
      rw[Bg.getD_set_ne (show i+b.length≠k by omega)];exact hzero' k (by omega)
  ·have hlt':¬(i:Int)<a.length:=by omega
   obtain rfl:i=a.length:=by omega
   repeat' (with_reducible first|simp(disch:=first|exact okD|fail) only[go_sem,seval,h1,h5,h20,h21,h22,hlt']|(apply Spl.i<;>intro hc))
   refine Gp.wp (g268 (hAt.sq hlo) (by omega)) fun v h' k j g hv=>?_
   repeat' (with_reducible first|simp(disch:=first|exact okD|fail) only[go_sem,seval]|(apply Spl.i<;>intro hc))
   refine⟨⟨_,hv,hd.trim,norm_trim _,?_⟩,?_⟩
   ·rw[vl_trim,hinv,List.take_length]
   ·exact Grs.ov hG
end
end
end Go.Ae
set_option linter.unusedVariables false
set_option linter.unusedSimpArgs false
namespace Go.Ae.Bg
structure Est (b v1 v0 U u q r:Nat):Prop where
 rest:U=q*v1+r
 ge:(U*b+u)/(v1*b+v0)≤q
variable {b v1 v0 U u q r:Nat}
theorem Est.done (e:Est b v1 v0 U u q r) (hv:0<v1*b+v0) (h:q*v0≤b*r+u):q=(U*b+u)/(v1*b+v0):=by
 refine Nat.le_antisymm ?_ e.ge
 rw[Nat.le_div_iff_mul_le hv]
 have e1:q*(v1*b+v0)=q*v1*b+q*v0:=by rw[Nat.mul_add,Nat.mul_assoc]
 have e2:U*b=q*v1*b+r*b:=by rw[e.rest,Nat.add_mul]
 have e3:b*r=r*b:=Nat.mul_comm _ _
 omega
theorem Est.down (e:Est b v1 v0 U u q r) (hv:0<v1*b+v0) (h:b*r+u<q*v0):1≤q∧Est b v1 v0 U u (q-1) (r+v1):=by
 have hq:1≤q:=by
  rcases Nat.eq_zero_or_pos q with h0|h0
  ·subst h0;simp at h
  ·exact h0
 obtain⟨p,rfl⟩:∃p,q=p+1:=⟨q-1,by omega⟩
 refine⟨hq,?_,?_⟩
 ·have:=e.rest;rw[Nat.add_mul]at this;rw[Nat.add_sub_cancel];omega
 ·rw[Nat.add_sub_cancel]
  have:(U*b+u)/(v1*b+v0)<p+1:=by
   rw[Nat.div_lt_iff_lt_mul hv]
   have e1:(p+1)*(v1*b+v0)=(p+1)*v1*b+(p+1)*v0:=by rw[Nat.mul_add,Nat.mul_assoc]
   have e2:U*b=(p+1)*v1*b+r*b:=by rw[e.rest,Nat.add_mul]
   have e3:b*r=r*b:=Nat.mul_comm _ _
   omega
  omega
theorem Est.down' (e:Est b v1 v0 U u q r) (hb:0<b) (hQ:(U*b+u)/(v1*b+v0)<b) (hq:b≤q):1≤q∧Est b v1 v0 U u (q-1) (r+v1):=by
 obtain⟨p,rfl⟩:∃p,q=p+1:=⟨q-1,by omega⟩
 refine⟨by omega,?_,by omega⟩
 have:=e.rest;rw[Nat.add_mul]at this;rw[Nat.add_sub_cancel];omega
theorem Est.first (hv1:0<v1) (hb:0<b) (hu:u<b):Est b v1 v0 U u (U/v1) (U%v1):=by
 refine⟨by rw[Nat.mul_comm];exact(Nat.div_add_mod U v1).symm,?_⟩
 have hv:0<v1*b+v0:=by have:=Nat.mul_pos hv1 hb;omega
 have h1:(U*b+u)/(v1*b+v0)≤(U*b+u)/(v1*b):=Nat.div_le_div_left (by omega) (Nat.mul_pos hv1 hb)
 have h2:(U*b+u)/(v1*b)=U/v1:=by
  rw[Nat.mul_comm v1 b,←Nat.div_div_eq_div_mul]
  congr 1
  rw[Nat.mul_comm,Nat.mul_add_div hb,Nat.div_eq_of_lt hu,Nat.add_zero]
 omega
theorem Est.great (e:Est b v1 v0 U u q r) (hv0:v0<b) (hU:U<v1*b+v0) (hr:b≤r):q<b∧q*v0≤b*r+u:=by
 have hq:q<b:=by
  rcases Nat.lt_or_ge q b with c|c
  ·exact c
  ·have h1:b*v1≤q*v1:=Nat.mul_le_mul_right _ c
   have:=e.rest
   rw[Nat.mul_comm v1 b]at hU
   omega
 refine⟨hq,?_⟩
 have h1:q*v0≤b*b:=Nat.mul_le_mul (by omega) (by omega)
 have h2:b*b≤b*r:=Nat.mul_le_mul_left _ hr
 omega
theorem quo_lt (hb:0<b) (hu:u<b) (hU:U<v1*b+v0):(U*b+u)/(v1*b+v0)<b:=by
 rw[Nat.div_lt_iff_lt_mul (by omega),Nat.mul_comm b]
 have:(U+1)*b≤(v1*b+v0)*b:=Nat.mul_le_mul_right _ (by omega)
 rw[Nat.add_mul]at this;omega
end Go.Ae.Bg
set_option linter.unusedVariables false
set_option linter.unusedSimpArgs false
set_option maxRecDepth 100000
namespace Go.Ae
open Bg
noncomputable section
theorem two_cast (n:Nat):((2:Int)^n)=((2^n:Nat):Int):=by rw[Int.natCast_pow];rfl
theorem b_shlL {q:EqK} {k':IntKind} {m n:Nat} (hn:n≤64):binA .shl q (.int .u64 m) (.int k' n)=some (.int .u64 ((m*2^n%18446744073709551616:Nat):Int)):=by
 have hb:IntKind.bits .u64=64:=rfl
 simp only[binA,intA]
 rw[if_neg (by omega),Int.toNat_natCast,hb,Nat.min_eq_left hn,two_cast,←Int.natCast_mul,IntKind.wrap_u64]
 congr 2
theorem b_shr64 {q:EqK} {k':IntKind} {m n:Nat} (hn:n≤64):binA .shr q (.int .u64 m) (.int k' n)=some (.int .u64 ((m/2^n:Nat):Int)):=b_shrL (k:= .u64) hn
theorem b_orK {q:EqK} {k:IntKind} {m n:Int}:binA .or q (.int k m) (.int k n)=some (.int k (k.wrap (BitVec.ofInt k.bits m|||BitVec.ofInt k.bits n).toNat)):=by
 simp[binA,intA,intA1,sameK_eq,bitsA]
theorem b_orD {q:EqK} {a b c n:Nat} (ha:a=c*2^n) (hb:b<2^n) (hs:a+b<18446744073709551616):binA .or q (.int .u64 a) (.int .u64 b)=some (.int .u64 ((a+b:Nat):Int)):=by
 rw[b_orK]
 congr 2
 have e:(BitVec.ofInt 64 (a:Int)|||BitVec.ofInt 64 b).toNat=a+b:=by
  rw[BitVec.toNat_or]
  simp only[BitVec.toNat_ofInt]
  have e1:((a:Int)%(2^64:Nat)).toNat=a:=by omega
  have e2:((b:Int)%(2^64:Nat)).toNat=b:=by omega
  rw[e1,e2,ha,←Nat.shiftLeft_eq,←Nat.shiftLeft_add_eq_or_of_lt hb]
 show IntKind.wrap .u64 (((BitVec.ofInt 64 (a:Int)|||BitVec.ofInt 64 b).toNat:Nat):Int)=_
 rw[e,wrap_u64 (by omega)]
def lz (x:Nat):Nat:=64-bitLen x
theorem bitLen_ge {x:Nat} (h:0<x):2^(bitLen x-1)≤x∧1≤bitLen x:=by
 unfold bitLen
 rw[if_neg (by omega)]
 exact⟨(Nat.le_log2 (by omega)).1 (by omega),by omega⟩
theorem lz_spec {x:Nat} (h0:0<x) (hx:x<18446744073709551616):lz x≤63∧9223372036854775808≤x*2^lz x∧x*2^lz x<18446744073709551616∧0<2^lz x:=by
 obtain⟨h1,h2⟩:=bitLen_ge h0
 have h3:bitLen x≤64:=bitLen_lt (k:=64) hx
 have h4:x<2^bitLen x:=bitLen_le (Nat.le_refl _)
 have hp:0<2^lz x:=Nat.pow_pos (by decide)
 unfold lz at *
 refine⟨by omega,?_,?_,hp⟩
 ·have:=Nat.mul_le_mul_right (2^(64-bitLen x)) h1
  rw[←Nat.pow_add,show bitLen x-1+(64-bitLen x)=63 by omega]at this
  exact this
 ·have:=Nat.mul_lt_mul_of_pos_right h4 hp
  rw[←Nat.pow_add,show bitLen x+(64-bitLen x)=64 by omega]at this
  exact this
theorem div_two {U b u1 u0 Y:Nat} (hY:0<Y):((U*b+u1)*b+u0)/Y=(U*b+u1)/Y*b+((U*b+u1)%Y*b+u0)/Y∧((U*b+u1)*b+u0)%Y=((U*b+u1)%Y*b+u0)%Y:=by
 have e:(U*b+u1)*b+u0=Y*((U*b+u1)/Y*b)+((U*b+u1)%Y*b+u0):=by
  have:=Nat.div_add_mod (U*b+u1) Y
  conv=>lhs;rw[←this]
  rw[Nat.add_mul,Nat.mul_assoc];omega
 refine⟨?_,?_⟩
 ·conv=>lhs;rw[e,Nat.mul_add_div hY]
 ·conv=>lhs;rw[e,Nat.mul_add_mod]
theorem shl_two {hi lo s:Nat} (hs:s≤64):(hi*2^s+lo/2^(64-s))*18446744073709551616+lo*2^s%18446744073709551616=(hi*18446744073709551616+lo)*2^s:=by
 have hB:2^(64-s)*2^s=18446744073709551616:=by rw[←Nat.pow_add,Nat.sub_add_cancel hs]
 have h1:lo/2^(64-s)=lo*2^s/18446744073709551616:=by
  rw[←hB,Nat.mul_div_mul_right _ _ (Nat.pow_pos (by decide))]
 have h3:hi*2^s*18446744073709551616=hi*18446744073709551616*2^s:=by ac_rfl
 rw[h1,Nat.add_mul,Nat.add_mul,h3,Nat.add_assoc,Nat.div_add_mod']
theorem split_N {U u:Nat}:U*18446744073709551616+u=(U*4294967296+u/4294967296)*4294967296+u%4294967296:=by omega
theorem cast_q {a b:Nat}:((a*4294967296+b:Nat):Int)=(a:Int)*4294967296+b:=by omega
theorem w_rem {R u q Y rem:Nat} (h:q*Y+rem=R*4294967296+u) (hr:rem<18446744073709551616):
  IntKind.wrap .u64 (IntKind.wrap .u64 (IntKind.wrap .u64 ((R:Int)*4294967296)+u)-IntKind.wrap .u64 ((q:Int)*Y))=(rem:Nat):=by
 rw[←Int.natCast_mul]
 generalize q*Y=X at *
 simp only[IntKind.wrap_u64]
 omega
theorem w_sub {U q v r:Nat} (h:q*v+r=U) (hU:U<18446744073709551616):IntKind.wrap .u64 ((U:Int)-IntKind.wrap .u64 ((q:Int)*v))=(r:Nat):=by
 rw[←Int.natCast_mul]
 generalize q*v=X at *
 simp only[IntKind.wrap_u64]
 omega
section
variable {h:Hp} {K:AV→Hp→Prop}
theorem c301 {x:Nat} (hx:x<18446744073709551616):CallWp E2 301 [.int .u64 x] h K↔K (.int .i64 (lz x:Nat)) h:=by
 refine CallWp.iff_of (CallWp.fn (fn:=C.a301) rfl rfl rfl ?_)
 unfold C.a301
 have h3:bitLen x≤64:=bitLen_lt (k:=64) hx
 have e:(64:Int)-(bitLen x:Nat)=(lz x:Nat):=by unfold lz;omega
 repeat' (with_reducible first|simp(disch:=first|exact okD|fail) only[go_sem,seval,c266,e]|(apply Spl.i<;>intro hc))
theorem div_t3 {tm:T AV} {q1 q0 R u0 Y s rm:Nat} (h2:val tm (.t 2)= .int .u64 Y) (h8:val tm (.t 8)= .int .u64 s) (h14:val tm (.t 14)= .int .u64 u0) (h15:val tm (.t 15)= .int .u64 q1) (h17:val tm (.t 17)= .int .u64 R) (h18:val tm (.t 18)= .int .u64 q0)
  (hs:s≤63) (hq1:q1<4294967296) (hq0:q0<4294967296) (hrm:q0*Y+rm=R*4294967296+u0) (hr:rm<18446744073709551616):
  Wp E2 ((C.a300.code.post 15).post 4) ⟨tm,h⟩ (RetQ [.tmp 6,.tmp 7] fun v h'=>v= .tup [.int .u64 ((q1:Int)*4294967296+q0),.int .u64 (rm/2^s:Nat)]∧h'=h):=by
 unfold C.a300
 dsimp only[ACode.post]
 have e2:=w_rem hrm hr
 repeat' (with_reducible first|simp(disch:=first|exact okD|fail) only[go_sem,seval,h2,h8,h14,h15,h17,h18,e2,b_shr64]|(apply Spl.i<;>intro hc))
theorem est_go {v1 v0 Y U u Q R':Nat} (hv1:0<v1) (hY:Y=v1*4294967296+v0) (hu:u<4294967296) (hU:U<Y) (hm:R'<Y) (hd:Q*Y+R'=U*4294967296+u):
  Est 4294967296 v1 v0 U u (U/v1) (U%v1)∧Q<4294967296∧(U*4294967296+u)/(v1*4294967296+v0)=Q:=by
 have e:(U*4294967296+u)/(v1*4294967296+v0)=Q:=by
  rw[←hY,←hd,Nat.mul_comm,Nat.mul_add_div (by omega),Nat.div_eq_of_lt hm,Nat.add_zero]
 refine⟨Est.first hv1 (by decide) hu,?_,e⟩
 rw[←e];exact quo_lt (by decide) hu (by omega)
theorem div_t2 {tm:T AV} {q1 q0 U R u1 u0 Y s rm v1 v0:Nat} (h2:val tm (.t 2)= .int .u64 Y) (h8:val tm (.t 8)= .int .u64 s) (h9:val tm (.t 9)= .int .u64 v1) (h10:val tm (.t 10)= .int .u64 v0) (h11:val tm (.t 11)= .int .u64 U) (h13:val tm (.t 13)= .int .u64 u1) (h14:val tm (.t 14)= .int .u64 u0) (h15:val tm (.t 15)= .int .u64 q1)
  (hs:s≤63) (hv1:0<v1) (hv1':v1<4294967296) (hv0:v0<4294967296) (hY:Y=v1*4294967296+v0) (hu0:u0<4294967296) (hql:q1<4294967296) (hRl:R<Y) (hdm:q1*Y+R=U*4294967296+u1) (hrm:rm<Y) (hdm2:q0*Y+rm=R*4294967296+u0):
  Wp E2 (C.a300.code.post 15) ⟨tm,h⟩ (RetQ [.tmp 6,.tmp 7] fun v h'=>v= .tup [.int .u64 ((q1:Int)*4294967296+q0),.int .u64 (rm/2^s:Nat)]∧h'=h):=by
 obtain⟨hE,hq0l,hqd⟩:=est_go hv1 hY hu0 hRl hrm hdm2
 have tail:=fun tm hh2 hh8 hh14 hh15 hh17 hh18=>div_t3 (h:=h) (tm:=tm) (q1:=q1) (q0:=q0) (R:=R) (u0:=u0) (Y:=Y) (s:=s) (rm:=rm) hh2 hh8 hh14 hh15 hh17 hh18 hs hql hq0l hdm2 (by omega)
 refine Wp.cut 4 rfl ?_
 generalize ACode.post 4 (ACode.post 15 C.a300.code)=r at tail⊢
 unfold C.a300
 dsimp only[ACode.post,ACode.pre]
 have e1:=w_rem hdm (by omega)
 have e4:=w_sub (U:=R) (q:=R/v1) (v:=v1) (r:=R%v1) (by rw[Nat.mul_comm];exact Nat.div_add_mod _ _) (by omega)
 have e5:=Nat.div_le_self R v1
 have e6:R%v1<v1:=Nat.mod_lt _ hv1
 have hv1z:0<(v1:Int):=by omega
 have e3:((R:Int)/v1)=((R/v1:Nat):Int):=rfl
 obtain⟨Q0,hQ0⟩:∃Q0,Q0=R/v1:=⟨_,rfl⟩
 obtain⟨R0,hR0⟩:∃R0,R0=R%v1:=⟨_,rfl⟩
 rw[←hQ0]at e3 e4 e5 hE
 rw[←hR0]at e4 e6 hE
 have e7:IntKind.wrap .u64 (Q0:Int)=Q0:=wrap_u64 (by omega)
 repeat' (with_reducible first|simp(disch:=first|exact okD|fail) only[go_sem,seval,h2,h8,h9,h10,h11,h13,h14,h15,e1,e3,e4,e7,b_quoP]|(apply Spl.i<;>intro hc))
 refine Wp.loopI (fun m s'=>∃q r':Nat,val s'.tm (.t 2)= .int .u64 Y∧val s'.tm (.t 8)= .int .u64 s∧val s'.tm (.t 9)= .int .u64 v1∧val s'.tm (.t 10)= .int .u64 v0∧val s'.tm (.t 14)= .int .u64 u0∧val s'.tm (.t 15)= .int .u64 q1∧val s'.tm (.t 17)= .int .u64 R∧val s'.tm (.t 18)= .int .u64 q∧val s'.tm (.t 16)= .int .u64 r'∧
  s'.hp=h∧Est 4294967296 v1 v0 R u0 q r'∧q<18446744073709551616∧r'<4294967296∧q=m) (n:=Q0) ?_ ?_
 ·exact⟨Q0,R0,by simp(disch:=first|exact okD|fail) only[go_sem,seval,h2],by simp(disch:=first|exact okD|fail) only[go_sem,seval,h8],by simp(disch:=first|exact okD|fail) only[go_sem,seval,h9],by simp(disch:=first|exact okD|fail) only[go_sem,seval,h10],by simp(disch:=first|exact okD|fail) only[go_sem,seval,h14],by simp(disch:=first|exact okD|fail) only[go_sem,seval,h15],by simp(disch:=first|exact okD|fail) only[go_sem,seval],by simp(disch:=first|exact okD|fail) only[go_sem,seval],by simp(disch:=first|exact okD|fail) only[go_sem,seval],rfl,hE,by omega,by omega,rfl⟩
 ·rintro m ⟨tm',hp⟩ ⟨q,r',k2,k8,k9,k10,k14,k15,k17,k18,k16,rfl,hEst,hqB,hr',rfl⟩
  simp only at k2 k8 k9 k10 k14 k15 k17 k18 k16
  have w2:IntKind.wrap .u64 (IntKind.wrap .u64 (4294967296*(r':Int))+u0)=((4294967296*r'+u0:Nat):Int):=by
   simp only[IntKind.wrap_u64];omega
  have sa:IntKind.wrap .u64 ((r':Int)+v1)=((r'+v1:Nat):Int):=by simp only[IntKind.wrap_u64];omega
  have sw:1≤q→IntKind.wrap .u64 ((q:Int)-1)=((q-1:Nat):Int):=fun e=>by simp only[IntKind.wrap_u64];omega
  by_cases hqb:(4294967296:Int)≤q
  ·obtain⟨h1q,hEd⟩:=hEst.down' (by omega) (by omega) (by omega)
   by_cases hrb:(4294967296:Int)≤((r'+v1:Nat):Int)
   ·have hgreat:=hEd.great hv0 (by omega) (by omega)
    have hdone:q-1=q0:=(hEd.done (by omega) hgreat.2).trans hqd
    repeat' (with_reducible first|simp(disch:=first|exact okD|fail) only[go_sem,seval,k2,k8,k9,k10,k14,k15,k17,k18,k16,hqb,sw h1q,sa,hrb]|(apply Spl.i<;>intro hc))
    rw[hdone]
    exact tail _ (by simp(disch:=first|exact okD|fail) only[go_sem,seval,k2]) (by simp(disch:=first|exact okD|fail) only[go_sem,seval,k8]) (by simp(disch:=first|exact okD|fail) only[go_sem,seval,k14]) (by simp(disch:=first|exact okD|fail) only[go_sem,seval,k15]) (by simp(disch:=first|exact okD|fail) only[go_sem,seval,k17]) (by simp(disch:=first|exact okD|fail) only[go_sem,seval])
   ·repeat' (with_reducible first|simp(disch:=first|exact okD|fail) only[go_sem,seval,k2,k8,k9,k10,k14,k15,k17,k18,k16,hqb,sw h1q,sa,hrb]|(apply Spl.i<;>intro hc))
    exact⟨q-1,by omega,q-1,r'+v1,rfl,rfl,hEd,by omega,by omega,rfl⟩
  ·have w1:IntKind.wrap .u64 ((q:Int)*v0)=((q*v0:Nat):Int):=by
    have:q*v0≤4294967295*4294967295:=Nat.mul_le_mul (by omega) (by omega)
    rw[←Int.natCast_mul,wrap_u64 ⟨Int.natCast_nonneg _,by omega⟩]
   by_cases hc:((4294967296*r'+u0:Nat):Int)<((q*v0:Nat):Int)
   ·obtain⟨h1q,hEd⟩:=hEst.down (by omega) (Int.ofNat_lt.1 hc)
    by_cases hrb:(4294967296:Int)≤((r'+v1:Nat):Int)
    ·have hgreat:=hEd.great hv0 (by omega) (by omega)
     have hdone:q-1=q0:=(hEd.done (by omega) hgreat.2).trans hqd
     repeat' (with_reducible first|simp(disch:=first|exact okD|fail) only[go_sem,seval,k2,k8,k9,k10,k14,k15,k17,k18,k16,hqb,w1,w2,hc,sw h1q,sa,hrb]|(apply Spl.i<;>intro hc))
     rw[hdone]
     exact tail _ (by simp(disch:=first|exact okD|fail) only[go_sem,seval,k2]) (by simp(disch:=first|exact okD|fail) only[go_sem,seval,k8]) (by simp(disch:=first|exact okD|fail) only[go_sem,seval,k14]) (by simp(disch:=first|exact okD|fail) only[go_sem,seval,k15]) (by simp(disch:=first|exact okD|fail) only[go_sem,seval,k17]) (by simp(disch:=first|exact okD|fail) only[go_sem,seval])
    ·repeat' (with_reducible first|simp(disch:=first|exact okD|fail) only[go_sem,seval,k2,k8,k9,k10,k14,k15,k17,k18,k16,hqb,w1,w2,hc,sw h1q,sa,hrb]|(apply Spl.i<;>intro hc))
     exact⟨q-1,by omega,q-1,r'+v1,rfl,rfl,hEd,by omega,by omega,rfl⟩
   ·have hdone:q=q0:=(hEst.done (by omega) (by have:=Int.not_lt.1 hc;exact Int.ofNat_le.1 this)).trans hqd
    repeat' (with_reducible first|simp(disch:=first|exact okD|fail) only[go_sem,seval,k2,k8,k9,k10,k14,k15,k17,k18,k16,hqb,w1,w2,hc]|(apply Spl.i<;>intro hc))
    rw[hdone]at k18
    exact tail _ (by simp(disch:=first|exact okD|fail) only[go_sem,seval,k2]) (by simp(disch:=first|exact okD|fail) only[go_sem,seval,k8]) (by simp(disch:=first|exact okD|fail) only[go_sem,seval,k14]) (by simp(disch:=first|exact okD|fail) only[go_sem,seval,k15]) (by simp(disch:=first|exact okD|fail) only[go_sem,seval,k17]) (by simp(disch:=first|exact okD|fail) only[go_sem,seval,k18])
theorem div_t1 {y hi lo s hs2 lh u Y v1 v0 u1 u0 U q1 R q0 rm:Nat} (hpos:0<hi) (hy:y<18446744073709551616) (hh:hi<y) (hs:s≤63)
  (cl:lz y=s) (b1:y*2^s%18446744073709551616=Y) (b2:hi*2^s%18446744073709551616=hs2) (b3:lo*2^s%18446744073709551616=u) (b4:lo/2^(64-s)=lh)
  (hor:∀q,binA .or q (.int .u64 hs2) (.int .u64 lh)=some (.int .u64 (U:Nat)))
  (m1:Y/4294967296=v1) (m2:Y%4294967296=v0) (m3:u/4294967296=u1) (m4:u%4294967296=u0) (hYB:Y<18446744073709551616) (huB:u<18446744073709551616) (hv1:0<v1) (hUY:U<Y)
  (hRl:R<Y) (hdm:q1*Y+R=U*4294967296+u1) (hrm:rm<Y) (hdm2:q0*Y+rm=R*4294967296+u0):
  CallWp E2 300 [.int .u64 hi,.int .u64 lo,.int .u64 y] h fun v h'=>v= .tup [.int .u64 ((q1:Int)*4294967296+q0),.int .u64 (rm/2^s:Nat)]∧h'=h:=by
 refine CallWp.fn (fn:=C.a300) rfl rfl rfl ?_
 have y0:¬(y:Int)=0:=by omega
 have y1:¬(y:Int)≤hi:=by omega
 have hYp:Y=v1*4294967296+v0:=by omega
 have hv1':v1<4294967296:=by omega
 have hv0:v0<4294967296:=by omega
 have hu1:u1<4294967296:=by omega
 have hu0:u0<4294967296:=by omega
 obtain⟨hE,hq1l,hqd⟩:=est_go hv1 hYp hu1 hUY hRl hdm
 have tail:=fun tm hh2 hh8 hh9 hh10 hh11 hh13 hh14 hh15=>div_t2 (h:=h) (tm:=tm) (q1:=q1) (q0:=q0) (R:=R) (rm:=rm) (U:=U) (u1:=u1) (u0:=u0) (Y:=Y) (s:=s) (v1:=v1) (v0:=v0) hh2 hh8 hh9 hh10 hh11 hh13 hh14 hh15 hs hv1 hv1' hv0 hYp hu0 hq1l hRl hdm hrm hdm2
 have cl':∀{h:Hp} {K:AV→Hp→Prop},CallWp E2 301 [.int .u64 y] h K↔K (.int .i64 s) h:=fun{h K}=>by rw[c301 hy,cl]
 have cw:IntKind.wrap .u64 (s:Int)=s:=wrap_u64 (by omega)
 have s1:=fun q k'=>b_shlL (q:=q) (k':=k') (m:=y) (n:=s) (by omega)
 have s2:=fun q k'=>b_shlL (q:=q) (k':=k') (m:=hi) (n:=s) (by omega)
 have s3:=fun q k'=>b_shlL (q:=q) (k':=k') (m:=lo) (n:=s) (by omega)
 have s4:=fun q k'=>b_shr64 (q:=q) (k':=k') (m:=lo) (n:=64-s) (by omega)
 rw[b1]at s1;rw[b2]at s2;rw[b3]at s3;rw[b4]at s4
 have n1:=fun q=>b_mask32 (q:=q) (a:=Y) (by omega)
 have n2:=fun q=>b_mask32 (q:=q) (a:=u) (by omega)
 have n3:=fun q=>b_shr32 (q:=q) (a:=Y)
 have n4:=fun q=>b_shr32 (q:=q) (a:=u)
 rw[m2]at n1;rw[m4]at n2;rw[m1]at n3;rw[m3]at n4
 have e64:(64:Int)-s=((64-s:Nat):Int):=by omega
 have e4:=w_sub (U:=U) (q:=U/v1) (v:=v1) (r:=U%v1) (by rw[Nat.mul_comm];exact Nat.div_add_mod _ _) (by omega)
 have e5:=Nat.div_le_self U v1
 have e6:U%v1<v1:=Nat.mod_lt _ hv1
 have hv1z:0<(v1:Int):=by omega
 have e3:((U:Int)/v1)=((U/v1:Nat):Int):=rfl
 obtain⟨Q0,hQ0⟩:∃Q0,Q0=U/v1:=⟨_,rfl⟩
 obtain⟨R0,hR0⟩:∃R0,R0=U%v1:=⟨_,rfl⟩
 rw[←hQ0]at e3 e4 e5 hE
 rw[←hR0]at e4 e6 hE
 have e7:IntKind.wrap .u64 (Q0:Int)=Q0:=wrap_u64 (by omega)
 have hi0:¬(hi:Int)=0:=by omega
 clear b1 b2 b3 b4 m1 m2 m3 m4
 refine Wp.cut 15 rfl ?_
 generalize ACode.post 15 C.a300.code=r at tail⊢
 unfold C.a300
 dsimp only[ACode.pre]
 repeat' (with_reducible first|simp(disch:=first|exact okD|fail) only[go_sem,seval,y0,y1,hi0,cl',cw,s1,s2,s3,e64,s4,hor,n1,n2,n3,n4,e3,e4,e7,b_quoP]|(apply Spl.i<;>intro hc))
 refine Wp.loopI (fun m s'=>∃q r':Nat,val s'.tm (.t 2)= .int .u64 Y∧val s'.tm (.t 8)= .int .u64 s∧val s'.tm (.t 9)= .int .u64 v1∧val s'.tm (.t 10)= .int .u64 v0∧val s'.tm (.t 11)= .int .u64 U∧val s'.tm (.t 13)= .int .u64 u1∧val s'.tm (.t 14)= .int .u64 u0∧val s'.tm (.t 15)= .int .u64 q∧val s'.tm (.t 16)= .int .u64 r'∧
  s'.hp=h∧Est 4294967296 v1 v0 U u1 q r'∧q<18446744073709551616∧r'<4294967296∧q=m) (n:=Q0) ?_ ?_
 ·exact⟨Q0,R0,by simp(disch:=first|exact okD|fail) only[go_sem,seval],by simp(disch:=first|exact okD|fail) only[go_sem,seval],by simp(disch:=first|exact okD|fail) only[go_sem,seval],by simp(disch:=first|exact okD|fail) only[go_sem,seval],by simp(disch:=first|exact okD|fail) only[go_sem,seval],by simp(disch:=first|exact okD|fail) only[go_sem,seval],by simp(disch:=first|exact okD|fail) only[go_sem,seval],by simp(disch:=first|exact okD|fail) only[go_sem,seval],by simp(disch:=first|exact okD|fail) only[go_sem,seval],rfl,hE,by omega,by omega,rfl⟩
 ·rintro m ⟨tm',hp⟩ ⟨q,r',k2,k8,k9,k10,k11,k13,k14,k15,k16,rfl,hEst,hqB,hr',rfl⟩
  simp only at k2 k8 k9 k10 k11 k13 k14 k15 k16
  have w2:IntKind.wrap .u64 (IntKind.wrap .u64 (4294967296*(r':Int))+u1)=((4294967296*r'+u1:Nat):Int):=by
   simp only[IntKind.wrap_u64];omega
  have sa:IntKind.wrap .u64 ((r':Int)+v1)=((r'+v1:Nat):Int):=by simp only[IntKind.wrap_u64];omega
  have sw:1≤q→IntKind.wrap .u64 ((q:Int)-1)=((q-1:Nat):Int):=fun e=>by simp only[IntKind.wrap_u64];omega
  by_cases hqb:(4294967296:Int)≤q
  ·obtain⟨h1q,hEd⟩:=hEst.down' (by omega) (by omega) (by omega)
   by_cases hrb:(4294967296:Int)≤((r'+v1:Nat):Int)
   ·have hgreat:=hEd.great hv0 (by omega) (by omega)
    have hdone:q-1=q1:=(hEd.done (by omega) hgreat.2).trans hqd
    repeat' (with_reducible first|simp(disch:=first|exact okD|fail) only[go_sem,seval,k2,k8,k9,k10,k11,k13,k14,k15,k16,hqb,sw h1q,sa,hrb]|(apply Spl.i<;>intro hc))
    rw[hdone]
    exact tail _ (by simp(disch:=first|exact okD|fail) only[go_sem,seval,k2]) (by simp(disch:=first|exact okD|fail) only[go_sem,seval,k8]) (by simp(disch:=first|exact okD|fail) only[go_sem,seval,k9]) (by simp(disch:=first|exact okD|fail) only[go_sem,seval,k10]) (by simp(disch:=first|exact okD|fail) only[go_sem,seval,k11]) (by simp(disch:=first|exact okD|fail) only[go_sem,seval,k13]) (by simp(disch:=first|exact okD|fail) only[go_sem,seval,k14]) (by simp(disch:=first|exact okD|fail) only[go_sem,seval])
   ·repeat' (with_reducible first|simp(disch:=first|exact okD|fail) only[go_sem,seval,k2,k8,k9,k10,k11,k13,k14,k15,k16,hqb,sw h1q,sa,hrb]|(apply Spl.i<;>intro hc))
    exact⟨q-1,by omega,q-1,r'+v1,rfl,rfl,hEd,by omega,by omega,rfl⟩
  ·have w1:IntKind.wrap .u64 ((q:Int)*v0)=((q*v0:Nat):Int):=by
    have:q*v0≤4294967295*4294967295:=Nat.mul_le_mul (by omega) (by omega)
    rw[←Int.natCast_mul,wrap_u64 ⟨Int.natCast_nonneg _,by omega⟩]
   by_cases hc:((4294967296*r'+u1:Nat):Int)<((q*v0:Nat):Int)
   ·obtain⟨h1q,hEd⟩:=hEst.down (by omega) (Int.ofNat_lt.1 hc)
    by_cases hrb:(4294967296:Int)≤((r'+v1:Nat):Int)
    ·have hgreat:=hEd.great hv0 (by omega) (by omega)
     have hdone:q-1=q1:=(hEd.done (by omega) hgreat.2).trans hqd
     repeat' (with_reducible first|simp(disch:=first|exact okD|fail) only[go_sem,seval,k2,k8,k9,k10,k11,k13,k14,k15,k16,hqb,w1,w2,hc,sw h1q,sa,hrb]|(apply Spl.i<;>intro hc))
     rw[hdone]
     exact tail _ (by simp(disch:=first|exact okD|fail) only[go_sem,seval,k2]) (by simp(disch:=first|exact okD|fail) only[go_sem,seval,k8]) (by simp(disch:=first|exact okD|fail) only[go_sem,seval,k9]) (by simp(disch:=first|exact okD|fail) only[go_sem,seval,k10]) (by simp(disch:=first|exact okD|fail) only[go_sem,seval,k11]) (by simp(disch:=first|exact okD|fail) only[go_sem,seval,k13]) (by simp(disch:=first|exact okD|fail) only[go_sem,seval,k14]) (by simp(disch:=first|exact okD|fail) only[go_sem,seval])
    ·repeat' (with_reducible first|simp(disch:=first|exact okD|fail) only[go_sem,seval,k2,k8,k9,k10,k11,k13,k14,k15,k16,hqb,w1,w2,hc,sw h1q,sa,hrb]|(apply Spl.i<;>intro hc))
     exact⟨q-1,by omega,q-1,r'+v1,rfl,rfl,hEd,by omega,by omega,rfl⟩
   ·have hdone:q=q1:=(hEst.done (by omega) (by have:=Int.not_lt.1 hc;exact Int.ofNat_le.1 this)).trans hqd
    repeat' (with_reducible first|simp(disch:=first|exact okD|fail) only[go_sem,seval,k2,k8,k9,k10,k11,k13,k14,k15,k16,hqb,w1,w2,hc]|(apply Spl.i<;>intro hc))
    rw[hdone]at k15
    exact tail _ (by simp(disch:=first|exact okD|fail) only[go_sem,seval,k2]) (by simp(disch:=first|exact okD|fail) only[go_sem,seval,k8]) (by simp(disch:=first|exact okD|fail) only[go_sem,seval,k9]) (by simp(disch:=first|exact okD|fail) only[go_sem,seval,k10]) (by simp(disch:=first|exact okD|fail) only[go_sem,seval,k11]) (by simp(disch:=first|exact okD|fail) only[go_sem,seval,k13]) (by simp(disch:=first|exact okD|fail) only[go_sem,seval,k14]) (by simp(disch:=first|exact okD|fail) only[go_sem,seval,k15])
theorem c300 {hi lo y:Nat} (hlo:lo<18446744073709551616) (hy:y<18446744073709551616) (hh:hi<y):CallWp E2 300 [.int .u64 hi,.int .u64 lo,.int .u64 y] h K↔K (.tup [.int .u64 ((hi*18446744073709551616+lo)/y:Nat),.int .u64 ((hi*18446744073709551616+lo)%y:Nat)]) h:=by
 rcases Nat.eq_zero_or_pos hi with rfl|hpos
 ·refine CallWp.iff_of (CallWp.fn (fn:=C.a300) rfl rfl rfl ?_)
  unfold C.a300
  have y0:¬(y:Int)=0:=by omega
  have e0:((0:Nat):Int)=0:=rfl
  have y1':¬(y:Int)≤0:=by omega
  have hy0:0<(y:Int):=by omega
  have e3:((lo:Int)/y)=((lo/y:Nat):Int):=rfl
  have e4:((lo:Int)%y)=((lo%y:Nat):Int):=rfl
  have e5:=Nat.div_le_self lo y
  have e7:IntKind.wrap .u64 ((lo/y:Nat):Int)=((lo/y:Nat):Int):=wrap_u64 ⟨Int.natCast_nonneg _,by omega⟩
  rw[Nat.zero_mul,Nat.zero_add]
  repeat' (with_reducible first|simp(disch:=first|exact okD|fail) only[go_sem,seval,e0,y0,y1',b_quoP,b_remP,e3,e4,e7]|(apply Spl.i<;>intro hc))
 ·obtain⟨hs,hge,hlt,hp⟩:=lz_spec (x:=y) (by omega) hy
  have hsh:=shl_two (hi:=hi) (lo:=lo) (s:=lz y) (by omega)
  have hpB:2^(64-lz y)*2^lz y=18446744073709551616:=by rw[←Nat.pow_add,Nat.sub_add_cancel (by omega)]
  have hhp:(hi+1)*2^lz y≤y*2^lz y:=Nat.mul_le_mul_right _ hh
  rw[Nat.add_mul,Nat.one_mul]at hhp
  have hlp:lo/2^(64-lz y)<2^lz y:=by
   rw[Nat.div_lt_iff_lt_mul (Nat.pow_pos (by decide)),Nat.mul_comm,hpB];exact hlo
  have hb:hi*2^lz y+lo/2^(64-lz y)<18446744073709551616:=Nat.lt_of_lt_of_le (Nat.add_lt_add_left hlp _) (Nat.le_trans hhp (Nat.le_of_lt hlt))
  have hor:=fun q=>b_orD (q:=q) (a:=hi*2^lz y) (b:=lo/2^(64-lz y)) (c:=hi) (n:=lz y) rfl hlp hb
  have hq:(hi*18446744073709551616+lo)/y=(hi*18446744073709551616+lo)*2^lz y/(y*2^lz y):=(Nat.mul_div_mul_right _ _ hp).symm
  have hr:(hi*18446744073709551616+lo)%y=(hi*18446744073709551616+lo)*2^lz y%(y*2^lz y)/2^lz y:=by
   rw[Nat.mul_mod_mul_right,Nat.mul_div_cancel _ hp]
  rw[hq,hr,←hsh]
  have hul:lo*2^lz y%18446744073709551616<18446744073709551616:=Nat.mod_lt _ (by decide)
  obtain⟨U,hU⟩:∃U,U=hi*2^lz y+lo/2^(64-lz y):=⟨_,rfl⟩
  obtain⟨u,hu⟩:∃u,u=lo*2^lz y%18446744073709551616:=⟨_,rfl⟩
  obtain⟨Y,hY⟩:∃Y,Y=y*2^lz y:=⟨_,rfl⟩
  have hUY:U<Y:=by rw[hU,hY];exact Nat.lt_of_lt_of_le (Nat.add_lt_add_left hlp _) hhp
  have hY63:9223372036854775808≤Y:=by rw[hY];exact hge
  have hYB:Y<18446744073709551616:=by rw[hY];exact hlt
  have hv1:0<Y/4294967296:=Nat.div_pos (Nat.le_trans (by decide) hY63) (by decide)
  rw[←hU]at hor
  rw[←hU,←hu,←hY]
  rw[←hu]at hul
  have hY0:0<Y:=Nat.lt_of_lt_of_le (by decide) hY63
  rw[split_N (U:=U) (u:=u)]
  obtain⟨d1,d2⟩:=div_two (U:=U) (b:=4294967296) (u1:=u/4294967296) (u0:=u%4294967296) hY0
  rw[d1,d2]
  have hdm:=Nat.div_add_mod (U*4294967296+u/4294967296) Y
  rw[Nat.mul_comm]at hdm
  have hRl:(U*4294967296+u/4294967296)%Y<Y:=Nat.mod_lt _ hY0
  obtain⟨q1,hq1⟩:∃q1,q1=(U*4294967296+u/4294967296)/Y:=⟨_,rfl⟩
  obtain⟨R,hR⟩:∃R,R=(U*4294967296+u/4294967296)%Y:=⟨_,rfl⟩
  rw[←hq1,←hR]at hdm
  rw[←hR]at hRl
  rw[←hq1,←hR]
  have hdm2:=Nat.div_add_mod (R*4294967296+u%4294967296) Y
  rw[Nat.mul_comm]at hdm2
  have hrm:(R*4294967296+u%4294967296)%Y<Y:=Nat.mod_lt _ hY0
  obtain⟨q0,hq0⟩:∃q0,q0=(R*4294967296+u%4294967296)/Y:=⟨_,rfl⟩
  obtain⟨rm,hrm'⟩:∃rm,rm=(R*4294967296+u%4294967296)%Y:=⟨_,rfl⟩
  rw[←hq0,←hrm']at hdm2
  rw[←hrm']at hrm
  rw[←hq0,←hrm']
  rw[cast_q]
  exact CallWp.iff_of (div_t1 (Y:=Y) (hs2:=hi*2^lz y) (lh:=lo/2^(64-lz y)) (u:=u) (U:=U) (v1:=Y/4294967296) (v0:=Y%4294967296) (u1:=u/4294967296) (u0:=u%4294967296) hpos hy hh hs rfl (by rw[←hY];exact Nat.mod_eq_of_lt hYB) (Nat.mod_eq_of_lt (Nat.lt_of_le_of_lt (Nat.le_add_right _ _) hb)) hu.symm rfl hor rfl rfl rfl rfl hYB hul hv1 hUY hRl hdm hrm hdm2)
end
end
end Go.Ae
set_option linter.unusedVariables false
set_option linter.unusedSimpArgs false
set_option maxRecDepth 100000
namespace Go.Ae
open Bg
noncomputable section
structure Chg (t:Nat) (h h':Hp):Prop where
 next:h.next≤h'.next
 clk:h.clk≤h'.clk
 get:∀u,u<h.next→u≠t→h'.get u=h.get u
section
variable {h h' h'':Hp} {t u i x:Nat} {kd:IntKind} {v:AV} {l P W S:List Nat} {cs:List AV}
theorem Chg.refl:Chg t h h:=⟨Nat.le_refl _,Nat.le_refl _,fun _ _ _=>rfl⟩
theorem Chg.trans (a:Chg t h h') (b:Chg t h' h''):Chg t h h'':=⟨Nat.le_trans a.next b.next,Nat.le_trans a.clk b.clk,fun u hu hn=>(b.get u (Nat.lt_of_lt_of_le hu a.next) hn).trans (a.get u hu hn)⟩
theorem Chg.put {f:Nat→AObj} (a:Chg t h h'):Chg t h (h'.put t f):=⟨a.next,Nat.le_succ_of_le a.clk,fun u hu hn=>(Hp.put_other hn).trans (a.get u hu hn)⟩
theorem Chg.of (g:Grs h h'):Chg t h h':=⟨g.next,g.clk,fun u hu _=>g.get hu⟩
theorem Chg.grs (a:Chg t h' h'') (g:Grs h h') (ht:h.next≤t):Grs h h'':=by
 have h1:=g.next;have h2:=g.clk;have h3:=a.next;have h4:=a.clk
 exact⟨h''.next-h.next,h''.clk-h.clk,by omega,by omega,fun u hu=>(a.get u (by omega) (by omega)).trans (g.get hu)⟩
theorem Sq.chg (s:Sq kd h v l) (c:Chg t h h') (hn:tokOf v≠t):Sq kd h' v l:=by
 rcases s with s|⟨u,o,own,st,L,rfl,hg,h1,h2,h3,h4⟩
 ·exact .inl s
 ·exact .inr ⟨u,o,own,st,L,rfl,(c.get u h3 hn).trans hg,h1,h2,Nat.lt_of_lt_of_le h3 c.next,Nat.le_trans h4 c.clk⟩
theorem AtS.chg (a:AtS h u cs) (c:Chg t h h') (hn:u≠t):AtS h' u cs:=by
 obtain⟨st,hg,hs,ht⟩:=a
 exact⟨st,(c.get u ht hn).trans hg,Nat.le_trans hs c.clk,Nat.lt_of_lt_of_le ht c.next⟩
theorem win_at (hi:i<W.length):(P++W++S).getD (P.length+i) 0=W.getD i 0:=by
 simp only[List.getD]
 rw[List.append_assoc,List.getElem?_append_right (by omega),Nat.add_sub_cancel_left,List.getElem?_append_left hi]
theorem win_set (hi:i<W.length):(P++W++S).set (P.length+i) x=P++W.set i x++S:=by
 rw[List.append_assoc,List.set_append_right _ _ (by omega),Nat.add_sub_cancel_left,List.set_append_left _ _ hi,List.append_assoc]
theorem AtS.ldw (a:AtS h t ((P++W++S).map (wd .u64))) (hi:i<W.length):∀h' K,LoadR false 1 (P.length+i) (h.get t) h' K↔K (.int .u64 (W.getD i 0:Nat)) h':=by
 obtain⟨st,hg,hs,ht⟩:=a
 intro h' K
 rw[hg,LoadR.row,if_pos (by simp only[List.length_map,List.length_append];omega),if_neg (by decide),row_get (by simp only[List.length_append];omega),win_at hi]
 exact Iff.rfl
theorem AtS.stw (a:AtS h t ((P++W++S).map (wd .u64))) (hi:i<W.length):∀(x:Nat) h' K,StoreR 1 t (P.length+i) (.int .u64 (x:Int)) (h.get t) h' K↔K und (h'.put t fun st=> .row ((P++W.set i x++S).map (wd .u64)) true st):=by
 obtain⟨st,hg,hs,ht⟩:=a
 intro x h' K
 rw[hg,StoreR.row]
 have e:splice ((P++W++S).map (wd .u64)) (P.length+i) (AV.cells (.int .u64 (x:Int)))=(P++W.set i x++S).map (wd .u64):=by
  rw[←win_set hi,←set_row (by simp only[List.length_append];omega)]
  rfl
 rw[e]
 constructor
 ·exact fun hk=>hk.2.2.2
 ·exact fun hk=>⟨rfl,by simp only[List.length_map,List.length_append];omega,rfl,hk⟩
theorem AtS.ldw' (a:AtS h t (W.map (wd .u64))) (hi:i<W.length):∀h' K,LoadR false 1 i (h.get t) h' K↔K (.int .u64 (W.getD i 0:Nat)) h':=by
 have:=AtS.ldw (P:=[]) (W:=W) (S:=[]) (i:=i) (by simpa using a) hi
 simpa using this
theorem AtS.stw' (a:AtS h t (W.map (wd .u64))) (hi:i<W.length):∀(x:Nat) h' K,StoreR 1 t i (.int .u64 (x:Int)) (h.get t) h' K↔K und (h'.put t fun st=> .row ((W.set i x).map (wd .u64)) true st):=by
 have:=AtS.stw (P:=[]) (W:=W) (S:=[]) (i:=i) (by simpa using a) hi
 simpa using this
theorem AtS.ldw64 (a:AtS h t (W.map (wd .i64))) (hi:i<W.length):∀h' K,LoadR false 1 i (h.get t) h' K↔K (.int .i64 (W.getD i 0:Nat)) h':=by
 obtain⟨st,hg,hs,ht⟩:=a
 intro h' K
 rw[hg,LoadR.row,if_pos (by simp only[List.length_map];omega),if_neg (by decide),row_get hi]
 exact Iff.rfl
theorem AtS.stw64 (a:AtS h t (W.map (wd .i64))) (hi:i<W.length):∀(x:Nat) h' K,StoreR 1 t i (.int .i64 (x:Int)) (h.get t) h' K↔K und (h'.put t fun st=> .row ((W.set i x).map (wd .i64)) true st):=by
 obtain⟨st,hg,hs,ht⟩:=a
 intro x h' K
 rw[hg,StoreR.row]
 have e:splice (W.map (wd .i64)) i (AV.cells (.int .i64 (x:Int)))=(W.set i x).map (wd .i64):=by
  rw[←set_row hi]
  rfl
 rw[e]
 constructor
 ·exact fun hk=>hk.2.2.2
 ·exact fun hk=>⟨rfl,by simp only[List.length_map];omega,rfl,hk⟩
theorem AtS.old (a:AtS h t cs):∀c0,h.clk≤c0→OldR (h.get t) c0=true:=by
 obtain⟨st,hg,hs,ht⟩:=a
 intro c0 hc
 rw[hg];exact OldR.row (Nat.le_trans hs hc)
theorem AtS.lt (a:AtS h t cs):t<h.next:=a.choose_spec.2.2
end
theorem b_orE {q:EqK} {a b c n:Nat} (ha:a<2^n) (hb:b=c*2^n) (hs:b+a<18446744073709551616):binA .or q (.int .u64 a) (.int .u64 b)=some (.int .u64 ((b+a:Nat):Int)):=by
 rw[←b_orD (q:=q) hb ha hs,b_orK,b_orK,BitVec.or_comm]
theorem shl_one {x s:Nat} (hs:s≤64) (hx:x<18446744073709551616):x*2^s%18446744073709551616=(x%2^(64-s))*2^s∧x*2^s%18446744073709551616+2^s≤18446744073709551616∧x/2^(64-s)<2^s∧x*2^s%18446744073709551616+18446744073709551616*(x/2^(64-s))=x*2^s:=by
 have hB:2^(64-s)*2^s=18446744073709551616:=by rw[←Nat.pow_add,Nat.sub_add_cancel hs]
 have hp:0<2^(64-s):=Nat.pow_pos (by decide)
 have e1:x*2^s%18446744073709551616=(x%2^(64-s))*2^s:=by rw[←hB,Nat.mul_mod_mul_right]
 refine⟨e1,?_,?_,?_⟩
 ·rw[e1,←hB]
  have:=Nat.mul_le_mul_right (2^s) (Nat.mod_lt x hp)
  rwa[Nat.succ_mul]at this
 ·rw[Nat.div_lt_iff_lt_mul hp,Nat.mul_comm,hB];exact hx
 ·have h1:x/2^(64-s)=x*2^s/18446744073709551616:=by
   rw[←hB,Nat.mul_div_mul_right _ _ (Nat.pow_pos (by decide))]
  rw[h1];exact Nat.mod_add_div _ _
theorem shl_step {P B V X lo hi x p:Nat} (hV:V=X*p) (h:lo+B*hi=x*p):V+P*lo+P*B*hi=(X+P*x)*p:=by
 rw[hV,Nat.add_mul,Nat.mul_assoc P x,←h,Nat.mul_add,Nat.mul_assoc,Nat.add_assoc]
section
variable {h:Hp} {K:AV→Hp→Prop}
theorem c302 {va:AV} {x:List Nat} {s:Nat} (hx:Sq .u64 h va x) (dx:Dg 18446744073709551616 x) (hl:x.length≤1000000) (hs:s≤63):
  Gp E2 302 [va,.int .i64 s] h fun v h'=>∃l t,v= .sl t 0 (x.length+1) 1∧AtS h' t (l.map (wd .u64))∧h.next≤t∧l.length=x.length+1∧Dg 18446744073709551616 l∧vl 18446744073709551616 l=vl 18446744073709551616 x*2^s:=by
 refine Gp.of (CallWp.fn (fn:=C.a302) rfl rfl rfl ?_)
 unfold C.a302
 have lx:=hx.rd.len
 have mk:=fun{h:Hp} {K:AV→Hp→Prop}=>MksK.int' (h:=h) (K:=K) (b:=8) (z:= .int .u64 0) (m:=(x.length:Int)+1) (x.length+1) rfl rfl (by omega)
 repeat' (with_reducible first|simp(disch:=first|exact okD|fail) only[go_sem,seval,lx,mk]|(apply Spl.i<;>intro hc))
 have hz:(List.replicate (x.length+1) (AV.int .u64 0))=(List.replicate (x.length+1) 0).map (wd .u64):=by rw[List.map_replicate];rfl
 rw[hz]
 refine Wp.loopI (fun m s'=>∃(i:Nat) (out:List Nat),val s'.tm (.t 1)= .int .i64 s∧val s'.tm (.t 5)= .sl h.next 0 (x.length+1) 1∧val s'.tm (.t 12)=va∧val s'.tm (.t 13)= .int .i64 x.length∧val s'.tm (.t 14)= .int .i64 i∧
  Grs h s'.hp∧AtS s'.hp h.next (out.map (wd .u64))∧out.length=x.length+1∧Dg 18446744073709551616 out∧i≤x.length∧vl 18446744073709551616 out=vl 18446744073709551616 (x.take i)*2^s∧(∀k,i<k→out.getD k 0=0)∧out.getD i 0<2^s∧x.length-i=m) (n:=x.length) ?_ ?_
 ·refine⟨0,List.replicate (x.length+1) 0,by simp(disch:=first|exact okD|fail) only[go_sem,seval],by simp(disch:=first|exact okD|fail) only[go_sem,seval],by simp(disch:=first|exact okD|fail) only[go_sem,seval],by simp(disch:=first|exact okD|fail) only[go_sem,seval],by(simp(disch:=first|exact okD|fail) only[go_sem,seval])<;>rfl,?_,?_,by simp,Dg.zeros (by decide) _,by omega,by simp[vl,vl_zeros],?_,?_,rfl⟩
  ·exact okG
  ·exact AtS.push
  ·intro k _;simp only[List.getD,List.getElem?_replicate];split<;>rfl
  ·simp only[List.getD,List.getElem?_replicate];rw[if_pos (by omega)];exact Nat.pow_pos (by decide)
 ·rintro m ⟨tm,hp⟩ ⟨i,out,h1,h5,h12,h13,h14,hG,⟨st,hgo,hso,hnx⟩,hlo,hd,hle,hinv,hzero,hlast,rfl⟩
  simp only at h1 h5 h12 h13 h14 hG hgo hso hnx
  by_cases hlt:i<x.length
  ·have hlt':(i:Int)<x.length:=by omega
   have rx:=(hx.grs hG).rd
   have adx:=rx.adr
   have ldx:=rx.load i hlt
   have hxd:=Dg.getD (B:=18446744073709551616) (by decide) dx i
   have tkx:=vl_take_succ (B:=18446744073709551616) hlt
   have hbd:i+1≤out.length:=by omega
   have hbd2:i+1+1≤out.length:=by omega
   have hld:(out.map (wd .u64))[i]?=some (.int .u64 (out.getD i 0:Nat)):=row_get (by omega)
   have hset:∀r:Nat,List.take i (out.map (wd .u64))++ .int .u64 (r:Int)::List.drop (i+1) (out.map (wd .u64))=(out.set i r).map (wd .u64):=fun r=>set_row (by omega)
   have hset2:∀r r':Nat,List.take (i+1) ((out.set i r).map (wd .u64))++ .int .u64 (r':Int)::List.drop (i+1+1) ((out.set i r).map (wd .u64))=((out.set i r).set (i+1) r').map (wd .u64):=fun r r'=>set_row (by simp;omega)
   have hij:(((i:Int)+1)).toNat=i+1:=by omega
   have h64:(64:Int)-s=((64-s:Nat):Int):=by omega
   have hy0:=hzero (i+1) (by omega)
   generalize x.getD i 0=xi at *
   have hvs:=fun r=>vl_set (B:=18446744073709551616) (l:=out) (i:=i) (x:=r) (by omega)
   have hvs2:=fun r r'=>vl_set (B:=18446744073709551616) (l:=out.set i r) (i:=i+1) (x:=r') (by simp;omega)
   have hg2:∀r,(out.set i r).getD (i+1) 0=0:=fun r=>by rw[Bg.getD_set_ne (by omega),hy0]
   obtain⟨o1,o2,o3,o4⟩:=shl_one (x:=xi) (s:=s) (by omega) hxd
   have sl1:=fun q k'=>b_shlL (q:=q) (k':=k') (m:=xi) (n:=s) (by omega)
   have sr1:=fun q k'=>b_shr64 (q:=q) (k':=k') (m:=xi) (n:=64-s) (by omega)
   generalize hoi:out.getD i 0=oi at *
   have hor:=fun q=>b_orE (q:=q) (a:=oi) (b:=xi*2^s%18446744073709551616) hlast o1 (Nat.lt_of_lt_of_le (Nat.add_lt_add_left hlast _) o2)
   have hlB:xi*2^s%18446744073709551616+oi<18446744073709551616:=Nat.lt_of_lt_of_le (Nat.add_lt_add_left hlast _) o2
   obtain⟨low,hlow⟩:∃low,low=xi*2^s%18446744073709551616:=⟨_,rfl⟩
   obtain⟨high,hhigh⟩:∃high,high=xi/2^(64-s):=⟨_,rfl⟩
   rw[←hlow]at hor sl1 o4 hlB
   rw[←hhigh]at sr1 o3 o4
   have fin:vl 18446744073709551616 ((out.set i (low+oi)).set (i+1) high)=vl 18446744073709551616 (x.take (i+1))*2^s:=by
    have e1:=hvs (low+oi)
    have e2:=hvs2 (low+oi) high
    rw[hg2,Nat.mul_zero,Nat.add_zero]at e2
    rw[Nat.mul_add]at e1
    rw[e2,tkx,←shl_step hinv o4,Nat.pow_succ]
    omega
   clear hlow hhigh o1 o2 o4
   by_cases hs0:0<s
   ·have hs0':(0:Int)<s:=by omega
    have hh:high<18446744073709551616:=Nat.lt_of_lt_of_le o3 (show 2^s≤2^64 from Nat.pow_le_pow_right (by decide) (by omega))
    repeat' (with_reducible first|simp(disch:=first|exact okD|fail) only[go_sem,seval,h1,h5,h12,h13,h14,hlt',adx,ldx,hgo,hld,hbd,hbd2,hset,hset2,hij,h64,sl1,sr1,hor,hs0']|(apply Spl.i<;>intro hc))
    refine⟨_,?_,i+1,(out.set i (low+oi)).set (i+1) high,rfl,?_,?_,?_,?_,hlt,fin,?_,?_,rfl⟩
    ·omega
    ·exact okG
    ·exact AtS.put hnx
    ·simpa using hlo
    ·exact(hd.set _ hlB).set _ hh
    ·intro k hk
     rw[Bg.getD_set_ne (by omega),Bg.getD_set_ne (by omega)];exact hzero k (by omega)
    ·rw[Bg.getD_set (by simp;omega)];exact o3
   ·obtain rfl:s=0:=by omega
    have hs0':¬(0:Int)<((0:Nat):Int):=by omega
    have h00:high=0:=by rw[Nat.pow_zero]at o3;omega
    have hsame:(out.set i (low+oi)).set (i+1) high=out.set i (low+oi):=by
     rw[h00]
     apply List.ext_getElem?
     intro k
     rw[List.getElem?_set]
     split
     ·rename_i hk
      subst hk
      rw[if_pos (by simp;omega),List.getElem?_set_ne (by omega),List.getElem?_eq_getElem (by omega)]
      rw[←hy0,getD_eq (by omega)]
     ·rfl
    rw[hsame]at fin
    have e0:((0:Nat):Int)=0:=rfl
    rw[e0]at h1
    have sl1':=fun q k'=>sl1 q k'
    simp only[e0]at sl1'
    repeat' (with_reducible first|simp(disch:=first|exact okD|fail) only[go_sem,seval,h1,h5,h12,h13,h14,hlt',adx,ldx,hgo,hld,hbd,hbd2,hset,hset2,hij,sl1',hor,Int.lt_irrefl]|(apply Spl.i<;>intro hc))
    refine⟨_,?_,i+1,out.set i (low+oi),rfl,?_,?_,?_,?_,hlt,by simpa using fin,?_,?_,rfl⟩
    ·omega
    ·exact okG
    ·exact AtS.put hnx
    ·simpa using hlo
    ·exact hd.set _ hlB
    ·intro k hk
     rw[Bg.getD_set_ne (by omega)];exact hzero k (by omega)
    ·rw[Bg.getD_set_ne (by omega),hy0];decide
  ·have hlt':¬(i:Int)<x.length:=by omega
   obtain rfl:i=x.length:=by omega
   repeat' (with_reducible first|simp(disch:=first|exact okD|fail) only[go_sem,seval,h1,h5,h12,h13,h14,hlt']|(apply Spl.i<;>intro hc))
   refine⟨⟨out,h.next,rfl,⟨st,hgo,hso,hnx⟩,Nat.le_refl _,hlo,hd,?_⟩,hG⟩
   rw[hinv,List.take_length]
end
end
end Go.Ae
set_option linter.unusedVariables false
set_option linter.unusedSimpArgs false
namespace Go.Ae.Bg
structure EsQ (v1 U Q q r:Nat):Prop where
 rest:U=q*v1+r
 ge:Q≤q
variable {b B v1 v0 U u Q q r:Nat}
theorem EsQ.down (e:EsQ v1 U Q q r) (hQ:Q*(v1*b+v0)≤U*b+u) (h:b*r+u<q*v0):1≤q∧EsQ v1 U Q (q-1) (r+v1):=by
 have hq:1≤q:=by
  rcases Nat.eq_zero_or_pos q with h0|h0
  ·subst h0;simp at h
  ·exact h0
 have e1:q*(v1*b+v0)=q*v1*b+q*v0:=by rw[Nat.mul_add,Nat.mul_assoc]
 have e2:U*b=q*v1*b+r*b:=by rw[e.rest,Nat.add_mul]
 have e3:b*r=r*b:=Nat.mul_comm _ _
 have e4:Q*(v1*b+v0)<q*(v1*b+v0):=by omega
 have e5:=Nat.lt_of_mul_lt_mul_right e4
 obtain⟨p,rfl⟩:∃p,q=p+1:=⟨q-1,by omega⟩
 refine⟨hq,?_,by omega⟩
 have:=e.rest;rw[Nat.add_mul]at this;rw[Nat.add_sub_cancel];omega
theorem EsQ.ok (e:EsQ v1 U Q q r) (h:q*v0≤b*r+u):q*(v1*b+v0)≤U*b+u:=by
 have e1:q*(v1*b+v0)=q*v1*b+q*v0:=by rw[Nat.mul_add,Nat.mul_assoc]
 have e2:U*b=q*v1*b+r*b:=by rw[e.rest,Nat.add_mul]
 have e3:b*r=r*b:=Nat.mul_comm _ _
 omega
theorem EsQ.first (hv1:0<v1) (hu:u<b) (hQ:Q*(v1*b+v0)≤U*b+u):EsQ v1 U Q (U/v1) (U%v1):=by
 refine⟨by rw[Nat.mul_comm];exact(Nat.div_add_mod U v1).symm,?_⟩
 rw[Nat.le_div_iff_mul_le hv1]
 have e1:Q*(v1*b+v0)=Q*v1*b+Q*v0:=by rw[Nat.mul_add,Nat.mul_assoc]
 have e2:(Q*v1)*b<(U+1)*b:=by rw[Nat.add_mul];omega
 have:=Nat.lt_of_mul_lt_mul_right e2
 omega
theorem est_facts {p v W vlow wlow V2 U3:Nat} (hv:v=vlow+p*V2) (hW:W=wlow+p*U3) (hvl:vlow<p) (hwl:wlow<p) (hV2:V2=v1*B+v0) (hU3:U3=U*B+u) (hv1:0<v1) (hB:0<B) (hlt:W<B*v):
  W/v*V2≤U3∧(∀q,q<B→q*V2≤U3→q≤W/v+1)∧U≤V2∧0<v∧W/v<B:=by
 have hV:B≤V2:=by
  have:=Nat.mul_le_mul_right B hv1
  omega
 have hpV:p*B≤p*V2:=Nat.mul_le_mul_left _ hV
 have hpB:0<p*B:=Nat.mul_pos (by omega) hB
 have hvp:0<v:=by omega
 refine⟨?_,?_,?_,hvp,?_⟩
 ·have h1:W/v*v≤W:=Nat.div_mul_le_self W v
  have h2:W/v*(p*V2)≤W/v*v:=Nat.mul_le_mul_left _ (by omega)
  have h3:W/v*(p*V2)=p*(W/v*V2):=by ac_rfl
  have h4:p*(W/v*V2)<p*(U3+1):=by rw[Nat.mul_add];omega
  have:=Nat.lt_of_mul_lt_mul_left h4
  omega
 ·intro q hq hle
  have h1:q*vlow≤B*vlow:=Nat.mul_le_mul_right _ (by omega)
  have h2:B*vlow<B*p:=Nat.mul_lt_mul_of_pos_left hvl hB
  have h3:B*p=p*B:=Nat.mul_comm _ _
  have h4:p*(q*V2)≤p*U3:=Nat.mul_le_mul_left _ hle
  have h5:q*v=q*vlow+p*(q*V2):=by rw[hv,Nat.mul_add];congr 1;ac_rfl
  have h6:=Nat.div_add_mod W v
  have h7:=Nat.mod_lt W hvp
  have h8:q*v<(W/v+2)*v:=by
   rw[Nat.add_mul,Nat.mul_comm (W/v)];omega
  have:=Nat.lt_of_mul_lt_mul_right h8
  omega
 ·have h1:p*(U*B)≤p*U3:=Nat.mul_le_mul_left _ (by omega)
  have h2:B*vlow<B*p:=Nat.mul_lt_mul_of_pos_left hvl hB
  have h3:B*v=B*vlow+B*(p*V2):=by rw[hv,Nat.mul_add]
  have h4:p*(U*B)=(p*B)*U:=by ac_rfl
  have h5:B*(p*V2)=(p*B)*V2:=by ac_rfl
  have h6:(p*B)*U<(p*B)*(V2+1):=by rw[Nat.mul_add,Nat.mul_one,Nat.mul_comm p B];rw[Nat.mul_comm p B]at h4 h5;omega
  have:=Nat.lt_of_mul_lt_mul_left h6
  omega
 ·rw[Nat.div_lt_iff_lt_mul hvp];exact hlt
theorem top2 {l:List Nat} (h:2≤l.length):vl B l=vl B (l.take (l.length-2))+B^(l.length-2)*(l.getD (l.length-1) 0*B+l.getD (l.length-2) 0):=by
 have h1:=vl_take_succ (B:=B) (l:=l) (i:=l.length-2) (by omega)
 have h2:=vl_take_succ (B:=B) (l:=l) (i:=l.length-1) (by omega)
 rw[show l.length-2+1=l.length-1 by omega]at h1
 rw[show l.length-1+1=l.length by omega,List.take_length]at h2
 rw[h2,h1,Nat.mul_add,show B^(l.length-1)=B^(l.length-2)*B by rw[←Nat.pow_succ];congr 1;omega]
 have:B^(l.length-2)*B*l.getD (l.length-1) 0=B^(l.length-2)*(l.getD (l.length-1) 0*B):=by ac_rfl
 omega
theorem top3 {W:List Nat} {n:Nat} (hn:2≤n) (hW:W.length=n+1):vl B W=vl B (W.take (n-2))+B^(n-2)*((W.getD n 0*B+W.getD (n-1) 0)*B+W.getD (n-2) 0):=by
 have h1:=vl_take_succ (B:=B) (l:=W) (i:=n-2) (by omega)
 have h2:=vl_take_succ (B:=B) (l:=W) (i:=n-1) (by omega)
 have h3:=vl_take_succ (B:=B) (l:=W) (i:=n) (by omega)
 rw[show n-2+1=n-1 by omega]at h1
 rw[show n-1+1=n by omega]at h2
 rw[←hW,List.take_length]at h3
 rw[h3,h2,h1,Nat.mul_add]
 have e1:B^(n-1)=B^(n-2)*B:=by rw[←Nat.pow_succ];congr 1;omega
 have e2:B^n=B^(n-2)*B*B:=by rw[←Nat.pow_succ,←Nat.pow_succ];congr 1;omega
 rw[e1,e2]
 have:B^(n-2)*B*B*W.getD n 0+B^(n-2)*B*W.getD (n-1) 0=B^(n-2)*((W.getD n 0*B+W.getD (n-1) 0)*B):=by
  rw[Nat.add_mul,Nat.mul_add]
  congr 1<;>ac_rfl
 omega
end Go.Ae.Bg
namespace Go.Ae.Bg
variable {b B v1 v0 U u Q q r:Nat}
theorem EsQ.downB (e:EsQ v1 U Q q r) (hQ:Q<b) (hq:b≤q):1≤q∧EsQ v1 U Q (q-1) (r+v1):=by
 obtain⟨p,rfl⟩:∃p,q=p+1:=⟨q-1,by omega⟩
 refine⟨by omega,?_,by omega⟩
 have:=e.rest;rw[Nat.add_mul]at this;rw[Nat.add_sub_cancel];omega
theorem EsQ.great (e:EsQ v1 U Q q r) (hv0:v0<b) (hU:U≤v1*b+v0) (hr:b≤r):q<b∧q*v0≤b*r+u:=by
 have hq:q<b:=by
  rcases Nat.lt_or_ge q b with c|c
  ·exact c
  ·have h1:b*v1≤q*v1:=Nat.mul_le_mul_right _ c
   have:=e.rest
   rw[Nat.mul_comm v1 b]at hU
   omega
 refine⟨hq,?_⟩
 have h1:q*v0≤b*b:=Nat.mul_le_mul (by omega) (by omega)
 have h2:b*b≤b*r:=Nat.mul_le_mul_left _ hr
 omega
end Go.Ae.Bg
set_option linter.unusedVariables false
set_option linter.unusedSimpArgs false
set_option maxRecDepth 100000
namespace Go.Ae
open Bg
noncomputable section
theorem sub_dig {B x y b:Nat} (hx:x<B) (hy:y<B) (hb:b≤1):(x+B-y-b)%B+y+b=x+B*(if x<y+b then 1 else 0):=by
 split
 ·rw[Nat.mod_eq_of_lt (by omega)];omega
 ·have:x+B-y-b=(x-y-b)+B:=by omega
  rw[this,Nat.add_mod_right,Nat.mod_eq_of_lt (by omega)];omega
theorem ms_carry {p c:Nat} (hp:p≤18446744073709551615*18446744073709551615) (hc:c<18446744073709551616):
  p/18446744073709551616+(p%18446744073709551616+c)/18446744073709551616<18446744073709551616∧(p%18446744073709551616+c)%18446744073709551616+18446744073709551616*(p/18446744073709551616+(p%18446744073709551616+c)/18446744073709551616)=p+c:=by omega
theorem ms_step {P B X q V W bo ca r l x v bo' ca':Nat} (h:X+q*V=W+P*(bo+ca)) (hr:r+l+bo=x+B*bo') (hl:l+B*ca'=q*v+ca):
  X+P*r+q*(V+P*v)=W+P*x+P*B*(bo'+ca'):=by
 have e1:P*(r+l+bo)=P*(x+B*bo'):=by rw[hr]
 have e2:P*(l+B*ca')=P*(q*v+ca):=by rw[hl]
 have e3:q*(P*v)=P*(q*v):=by ac_rfl
 rw[Nat.mul_add,Nat.mul_add,Nat.mul_add,←Nat.mul_assoc]at e1
 rw[Nat.mul_add,Nat.mul_add,←Nat.mul_assoc]at e2
 rw[Nat.mul_add,Nat.mul_add,e3]
 rw[Nat.mul_add]at h
 omega
section
variable {h hp:Hp} {K:AV→Hp→Prop} {tm:T AV} {t:Nat} {wv:AV} {v P S:List Nat}
theorem step_add {X0:List Nat} {Q R:Nat} (h0:val tm (.t 0)= .sl t P.length (v.length+1) 1) (h1:val tm (.t 1)=wv) (h5:val tm (.t 5)= .int .i64 v.length) (h6:val tm (.t 6)= .int .u64 ((Q+1:Nat):Int))
  (c:Chg t h hp) (hv:Sq .u64 h wv v) (hne:tokOf wv≠t) (hA:AtS hp t ((P++X0++S).map (wd .u64))) (hX:X0.length=v.length+1) (dX:Dg 18446744073709551616 X0) (dv:Dg 18446744073709551616 v) (hl:v.length≤1000000) (hQ:Q+1<18446744073709551616)
  (heq:vl 18446744073709551616 X0+vl 18446744073709551616 v=R+18446744073709551616^(v.length+1)) (hR:R<18446744073709551616^(v.length+1))
  (hk:∀h' W',Chg t h h'→AtS h' t ((P++W'++S).map (wd .u64))→W'.length=v.length+1→Dg 18446744073709551616 W'→vl 18446744073709551616 W'=R→K (.int .u64 (Q:Nat)) h'):
  Wp E2 (((C.a303.code.post 5).post 1).post 4) ⟨tm,hp⟩ (RetQ [.tmp 4] K):=by
 unfold C.a303
 dsimp only[ACode.post]
 repeat' (with_reducible first|simp(disch:=first|exact okD|fail) only[go_sem,seval,h5]|(apply Spl.i<;>intro hc))
 refine Wp.loopI (fun m s'=>∃(i cc:Nat) (X:List Nat),val s'.tm (.t 0)= .sl t P.length (v.length+1) 1∧val s'.tm (.t 1)=wv∧val s'.tm (.t 5)= .int .i64 v.length∧val s'.tm (.t 6)= .int .u64 ((Q+1:Nat):Int)∧val s'.tm (.t 17)= .int .u64 cc∧val s'.tm (.t 156)= .int .i64 v.length∧val s'.tm (.t 157)= .int .i64 i∧
  Chg t h s'.hp∧AtS s'.hp t ((P++X++S).map (wd .u64))∧X.length=v.length+1∧Dg 18446744073709551616 X∧cc≤1∧i≤v.length∧vl 18446744073709551616 (X.take i)+18446744073709551616^i*cc=vl 18446744073709551616 (X0.take i)+vl 18446744073709551616 (v.take i)∧(∀k,i≤k→X.getD k 0=X0.getD k 0)∧v.length-i=m) (n:=v.length) ?_ ?_
 ·exact⟨0,0,X0,by simp(disch:=first|exact okD|fail) only[go_sem,seval,h0],by simp(disch:=first|exact okD|fail) only[go_sem,seval,h1],by simp(disch:=first|exact okD|fail) only[go_sem,seval,h5],by simp(disch:=first|exact okD|fail) only[go_sem,seval,h6],by(simp(disch:=first|exact okD|fail) only[go_sem,seval])<;>rfl,by simp(disch:=first|exact okD|fail) only[go_sem,seval],by(simp(disch:=first|exact okD|fail) only[go_sem,seval])<;>rfl,c,hA,hX,dX,by omega,by omega,by simp[vl],fun _ _=>rfl,rfl⟩
 ·rintro m ⟨tm,hp⟩ ⟨i,cc,X,h0,h1,h5,h6,h17,h156,h157,c,hA,hX,dX,hcc,hle,hinv,hsame,rfl⟩
  simp only at h0 h1 h5 h6 h17 h156 h157 c hA
  by_cases hlt:i<v.length
  ·have hlt':(i:Int)<v.length:=by omega
   have rv:=(hv.chg c hne).rd
   have adv:=rv.adr
   have ldv:=rv.load i hlt
   have ov:=rv.old (by omega)
   have ld:=hA.ldw (i:=i) (by omega)
   have sw:=hA.stw (i:=i) (by omega)
   have od:=hA.old
   have hnx:=hA.lt
   have hs:=hsame i (Nat.le_refl _)
   have tk0:=vl_take_succ (B:=18446744073709551616) (l:=X0) (i:=i) (by omega)
   have tkv:=vl_take_succ (B:=18446744073709551616) hlt
   have hxd:=Dg.getD (B:=18446744073709551616) (by decide) dX i
   have hvd:=Dg.getD (B:=18446744073709551616) (by decide) dv i
   rw[←hs]at tk0
   have fin:∀s,s=X.getD i 0+v.getD i 0+cc→vl 18446744073709551616 ((X.set i (s%18446744073709551616)).take (i+1))+18446744073709551616^(i+1)*(s/18446744073709551616)=vl 18446744073709551616 (X0.take (i+1))+vl 18446744073709551616 (v.take (i+1)):=by
    intro s hs'
    rw[vl_set_take (by omega),tk0,tkv,Nat.pow_succ]
    exact add_step hinv hs'
   generalize X.getD i 0=xi at *
   generalize v.getD i 0=vi at *
   repeat' (with_reducible first|simp(disch:=first|exact okD|fail) only[go_sem,seval,h0,h1,h5,h6,h17,h156,h157,hlt',adv,ldv,ov,ld,sw,od,c267]|(apply Spl.i<;>intro hc))
   refine⟨_,?_,i+1,(xi+vi+cc)/18446744073709551616,X.set i ((xi+vi+cc)%18446744073709551616),by simp,rfl,c.put,AtS.put hnx,by simpa using hX,dX.set _ (Nat.mod_lt _ (by decide)),by omega,hlt,fin _ rfl,?_,rfl⟩
   ·omega
   ·intro k hk
    rw[Bg.getD_set_ne (by omega)];exact hsame k (by omega)
  ·have hlt':¬(i:Int)<v.length:=by omega
   obtain rfl:i=v.length:=by omega
   have ld:=hA.ldw (i:=v.length) (by omega)
   have sw:=hA.stw (i:=v.length) (by omega)
   have hnx:=hA.lt
   have hs:=hsame v.length (Nat.le_refl _)
   have tk0:=vl_take_succ (B:=18446744073709551616) (l:=X0) (i:=v.length) (by omega)
   have hxd:=Dg.getD (B:=18446744073709551616) (by decide) dX v.length
   rw[←hs,←hX,List.take_of_length_le (by omega)]at tk0
   have fin:=vl_set_take (B:=18446744073709551616) (l:=X) (i:=v.length) (x:=(X.getD v.length 0+cc)%18446744073709551616) (by omega)
   rw[←hX,List.take_of_length_le (by simp)]at fin
   have dfin:=dX.set v.length (x:=(X.getD v.length 0+cc)%18446744073709551616) (Nat.mod_lt _ (by decide))
   have hlfin:=vl_lt (B:=18446744073709551616) (by decide) dfin
   rw[List.length_set,hX]at hlfin
   generalize X.getD v.length 0=xn at *
   have hw:IntKind.wrap .u64 ((xn:Int)+cc)=((xn+cc)%18446744073709551616:Nat):=by simp only[IntKind.wrap_u64];omega
   have hq:IntKind.wrap .u64 (((Q+1:Nat):Int)-1)=Q:=by simp only[IntKind.wrap_u64];omega
   repeat' (with_reducible first|simp(disch:=first|exact okD|fail) only[go_sem,seval,h0,h1,h5,h6,h17,h156,h157,hlt',ld,sw,hw,hq]|(apply Spl.i<;>intro hc))
   refine hk _ _ c.put (AtS.put hnx) (by simpa using hX) dfin ?_
   rw[List.take_length]at hinv
   have e1:18446744073709551616^v.length*((xn+cc)%18446744073709551616)+18446744073709551616^(v.length+1)*((xn+cc)/18446744073709551616)=18446744073709551616^v.length*xn+18446744073709551616^v.length*cc:=by
    rw[Nat.pow_succ,Nat.mul_assoc,←Nat.mul_add,←Nat.mul_add]
    congr 1
    omega
   have hd:(xn+cc)/18446744073709551616≤1:=by omega
   generalize (xn+cc)/18446744073709551616=d at *
   generalize (xn+cc)%18446744073709551616=e at *
   generalize 18446744073709551616^v.length=p at *
   rcases Nat.eq_zero_or_pos d with h0|h0
   ·subst h0;omega
   ·obtain rfl:d=1:=by omega
    omega
theorem step_ms {W:List Nat} {q Q:Nat} (h0:val tm (.t 0)= .sl t P.length (v.length+1) 1) (h1:val tm (.t 1)=wv) (h5:val tm (.t 5)= .int .i64 v.length) (h6:val tm (.t 6)= .int .u64 (q:Nat))
  (c:Chg t h hp) (hv:Sq .u64 h wv v) (hne:tokOf wv≠t) (hA:AtS hp t ((P++W++S).map (wd .u64))) (hW:W.length=v.length+1) (dW:Dg 18446744073709551616 W) (dv:Dg 18446744073709551616 v) (hl:v.length≤1000000) (hq:q<18446744073709551616) (hv0:0<vl 18446744073709551616 v)
  (hQ:vl 18446744073709551616 W/vl 18446744073709551616 v=Q) (hQ1:Q≤q) (hQ2:q≤Q+1)
  (hk:∀h' W',Chg t h h'→AtS h' t ((P++W'++S).map (wd .u64))→W'.length=v.length+1→Dg 18446744073709551616 W'→vl 18446744073709551616 W'=vl 18446744073709551616 W%vl 18446744073709551616 v→K (.int .u64 (Q:Nat)) h'):
  Wp E2 ((C.a303.code.post 5).post 1) ⟨tm,hp⟩ (RetQ [.tmp 4] K):=by
 have tail:=fun(tm:T AV) (hp:Hp) X0 h0 h1 h5 h6 c hA hX dX hQ heq hR=>step_add (h:=h) (hp:=hp) (K:=K) (tm:=tm) (t:=t) (wv:=wv) (v:=v) (P:=P) (S:=S) (X0:=X0) (Q:=Q) (R:=vl 18446744073709551616 W%vl 18446744073709551616 v) h0 h1 h5 h6 c hv hne hA hX dX dv hl hQ heq hR hk
 refine Wp.cut 4 rfl ?_
 generalize ACode.post 4 (ACode.post 1 (ACode.post 5 C.a303.code))=r at tail⊢
 unfold C.a303
 dsimp only[ACode.post,ACode.pre]
 repeat' (with_reducible first|simp(disch:=first|exact okD|fail) only[go_sem,seval,h5]|(apply Spl.i<;>intro hc))
 refine Wp.loopI (fun m s'=>∃(i bo ca:Nat) (X:List Nat),val s'.tm (.t 0)= .sl t P.length (v.length+1) 1∧val s'.tm (.t 1)=wv∧val s'.tm (.t 5)= .int .i64 v.length∧val s'.tm (.t 6)= .int .u64 (q:Nat)∧val s'.tm (.t 11)= .int .u64 bo∧val s'.tm (.t 12)= .int .u64 ca∧val s'.tm (.t 104)= .int .i64 v.length∧val s'.tm (.t 105)= .int .i64 i∧
  Chg t h s'.hp∧AtS s'.hp t ((P++X++S).map (wd .u64))∧X.length=v.length+1∧Dg 18446744073709551616 X∧bo≤1∧ca<18446744073709551616∧i≤v.length∧vl 18446744073709551616 (X.take i)+q*vl 18446744073709551616 (v.take i)=vl 18446744073709551616 (W.take i)+18446744073709551616^i*(bo+ca)∧(∀k,i≤k→X.getD k 0=W.getD k 0)∧v.length-i=m) (n:=v.length) ?_ ?_
 ·exact⟨0,0,0,W,by simp(disch:=first|exact okD|fail) only[go_sem,seval,h0],by simp(disch:=first|exact okD|fail) only[go_sem,seval,h1],by simp(disch:=first|exact okD|fail) only[go_sem,seval,h5],by simp(disch:=first|exact okD|fail) only[go_sem,seval,h6],by(simp(disch:=first|exact okD|fail) only[go_sem,seval])<;>rfl,by(simp(disch:=first|exact okD|fail) only[go_sem,seval])<;>rfl,by simp(disch:=first|exact okD|fail) only[go_sem,seval],by(simp(disch:=first|exact okD|fail) only[go_sem,seval])<;>rfl,c,hA,hW,dW,by omega,by omega,by omega,by simp[vl],fun _ _=>rfl,rfl⟩
 ·rintro m ⟨tm,hp⟩ ⟨i,bo,ca,X,h0,h1,h5,h6,h11,h12,h104,h105,c,hA,hX,dX,hbo,hca,hle,hinv,hsame,rfl⟩
  simp only at h0 h1 h5 h6 h11 h12 h104 h105 c hA
  by_cases hlt:i<v.length
  ·have hlt':(i:Int)<v.length:=by omega
   have rv:=(hv.chg c hne).rd
   have adv:=rv.adr
   have ldv:=rv.load i hlt
   have ld:=hA.ldw (i:=i) (by omega)
   have sw:=hA.stw (i:=i) (by omega)
   have hnx:=hA.lt
   have hs:=hsame i (Nat.le_refl _)
   have tk0:=vl_take_succ (B:=18446744073709551616) (l:=W) (i:=i) (by omega)
   have tkv:=vl_take_succ (B:=18446744073709551616) hlt
   have hxd:=Dg.getD (B:=18446744073709551616) (by decide) dX i
   have hvd:=Dg.getD (B:=18446744073709551616) (by decide) dv i
   rw[←hs]at tk0
   have tkx:=fun r=>vl_set_take (B:=18446744073709551616) (l:=X) (i:=i) (x:=r) (by omega)
   generalize X.getD i 0=xi at *
   generalize v.getD i 0=vi at *
   have hpp:q*vi≤18446744073709551615*18446744073709551615:=Nat.mul_le_mul (by omega) (by omega)
   obtain⟨c1,c2⟩:=ms_carry hpp hca
   have w1:IntKind.wrap .u64 (((q*vi/18446744073709551616:Nat):Int)+((q*vi%18446744073709551616+ca)/18446744073709551616:Nat))=((q*vi/18446744073709551616+(q*vi%18446744073709551616+ca)/18446744073709551616:Nat):Int):=by
    rw[←Int.natCast_add,wrap_u64 (by omega)]
   have sd:=sub_dig (B:=18446744073709551616) (x:=xi) (y:=(q*vi%18446744073709551616+ca)%18446744073709551616) (b:=bo) hxd (Nat.mod_lt _ (by decide)) hbo
   have fin:=ms_step hinv sd c2
   repeat' (with_reducible first|simp(disch:=first|exact okD|fail) only[go_sem,seval,h0,h1,h5,h6,h11,h12,h104,h105,hlt',adv,ldv,c261,c267_0,c269,w1,ld,sw]|(apply Spl.i<;>intro hc))
   refine⟨_,?_,i+1,(if xi<(q*vi%18446744073709551616+ca)%18446744073709551616+bo then 1 else 0),q*vi/18446744073709551616+(q*vi%18446744073709551616+ca)/18446744073709551616,X.set i ((xi+18446744073709551616-(q*vi%18446744073709551616+ca)%18446744073709551616-bo)%18446744073709551616),by simp,by simp,rfl,c.put,AtS.put hnx,by simpa using hX,dX.set _ (Nat.mod_lt _ (by decide)),?_,c1,hlt,?_,?_,rfl⟩
   ·omega
   ·split<;>omega
   ·rw[tkx,tk0,tkv,Nat.pow_succ]
    exact fin
   ·intro k hk
    rw[Bg.getD_set_ne (by omega)];exact hsame k (by omega)
  ·have hlt':¬(i:Int)<v.length:=by omega
   obtain rfl:i=v.length:=by omega
   have ld:=hA.ldw (i:=v.length) (by omega)
   have sw:=hA.stw (i:=v.length) (by omega)
   have hnx:=hA.lt
   have hs:=hsame v.length (Nat.le_refl _)
   have tk0:=vl_take_succ (B:=18446744073709551616) (l:=W) (i:=v.length) (by omega)
   have hxd:=Dg.getD (B:=18446744073709551616) (by decide) dX v.length
   rw[←hs,←hW,List.take_of_length_le (by omega)]at tk0
   have fin:=vl_set_take (B:=18446744073709551616) (l:=X) (i:=v.length) (x:=(X.getD v.length 0+18446744073709551616-ca-bo)%18446744073709551616) (by omega)
   rw[←hX,List.take_of_length_le (by simp)]at fin
   have dfin:=dX.set v.length (x:=(X.getD v.length 0+18446744073709551616-ca-bo)%18446744073709551616) (Nat.mod_lt _ (by decide))
   have hlfin:=vl_lt (B:=18446744073709551616) (by decide) dfin
   rw[List.length_set,hX]at hlfin
   have sd:=sub_dig (B:=18446744073709551616) (x:=X.getD v.length 0) (y:=ca) (b:=bo) hxd hca hbo
   have hvl:=vl_lt (B:=18446744073709551616) (by decide) dv
   generalize X.getD v.length 0=xn at *
   rw[List.take_length]at hinv
   have hp1:18446744073709551616^(v.length+1)=18446744073709551616^v.length*18446744073709551616:=Nat.pow_succ _ _
   have key:vl 18446744073709551616 (X.set v.length ((xn+18446744073709551616-ca-bo)%18446744073709551616))+q*vl 18446744073709551616 v=vl 18446744073709551616 W+18446744073709551616^(v.length+1)*(if xn<ca+bo then 1 else 0):=by
    have e1:18446744073709551616^v.length*((xn+18446744073709551616-ca-bo)%18446744073709551616+ca+bo)=18446744073709551616^v.length*(xn+18446744073709551616*(if xn<ca+bo then 1 else 0)):=by rw[sd]
    rw[Nat.mul_add,Nat.mul_add,Nat.mul_add,←Nat.mul_assoc,←hp1]at e1
    rw[Nat.mul_add]at hinv
    rw[fin,tk0]
    omega
   have hdm:=Nat.div_add_mod (vl 18446744073709551616 W) (vl 18446744073709551616 v)
   have hml:=Nat.mod_lt (vl 18446744073709551616 W) hv0
   rw[hQ]at hdm
   have e0:((0:Nat):Int)=0:=rfl
   have e1:((1:Nat):Int)=1:=rfl
   by_cases hb:xn<ca+bo
   ·rw [if_pos hb,Nat.mul_one]at key
    have hqQ:q=Q+1:=by
     rcases Nat.lt_or_ge Q q with g|g
     ·omega
     ·obtain rfl:q=Q:=by omega
      rw[Nat.mul_comm]at hdm
      omega
    subst hqQ
    rw[Nat.add_mul,Nat.one_mul,Nat.mul_comm Q]at key
    repeat' (with_reducible first|simp(disch:=first|exact okD|fail) only[go_sem,seval,h0,h1,h5,h6,h11,h12,h104,h105,hlt',c269,ld,sw,hb,e1]|(apply Spl.i<;>intro hc))
    exact tail _ _ _ (by simp(disch:=first|exact okD|fail) only[go_sem,seval,h0]) (by simp(disch:=first|exact okD|fail) only[go_sem,seval,h1]) (by simp(disch:=first|exact okD|fail) only[go_sem,seval,h5]) (by simp(disch:=first|exact okD|fail) only[go_sem,seval,h6]) c.put (AtS.put hnx) (by simpa using hX) dfin hq (by omega) (by omega)
   ·rw [if_neg hb,Nat.mul_zero,Nat.add_zero]at key
    have hqQ:q=Q:=by
     rcases Nat.lt_or_ge Q q with g|g
     ·have h3:(Q+1)*vl 18446744073709551616 v≤q*vl 18446744073709551616 v:=Nat.mul_le_mul_right _ g
      rw[Nat.add_mul,Nat.one_mul,Nat.mul_comm Q]at h3
      omega
     ·omega
    subst hqQ
    rw[Nat.mul_comm]at hdm
    repeat' (with_reducible first|simp(disch:=first|exact okD|fail) only[go_sem,seval,h0,h1,h5,h6,h11,h12,h104,h105,hlt',c269,ld,sw,hb,e0]|(apply Spl.i<;>intro hc))
    exact hk _ _ c.put (AtS.put hnx) (by simpa using hX) dfin (by omega)
theorem step_est {W:List Nat} {q Q rh cf v1 v0 ul U:Nat} (h0:val tm (.t 0)= .sl t P.length (v.length+1) 1) (h1:val tm (.t 1)=wv) (h5:val tm (.t 5)= .int .i64 v.length) (h6:val tm (.t 6)= .int .u64 (q:Nat)) (h7:val tm (.t 7)= .int .u64 (rh:Nat)) (h8:val tm (.t 8)= .int .u64 (cf:Nat))
  (c:Chg t h hp) (hv:Sq .u64 h wv v) (hne:tokOf wv≠t) (hA:AtS hp t ((P++W++S).map (wd .u64))) (hW:W.length=v.length+1) (dW:Dg 18446744073709551616 W) (dv:Dg 18446744073709551616 v) (hl:v.length≤1000000) (h2:2≤v.length) (hv0:0<vl 18446744073709551616 v)
  (hQ:vl 18446744073709551616 W/vl 18446744073709551616 v=Q) (g1:v.getD (v.length-1) 0=v1) (g0:v.getD (v.length-2) 0=v0) (gl:W.getD (v.length-2) 0=ul)
  (hQU:Q*(v1*18446744073709551616+v0)≤U*18446744073709551616+ul) (hfin:∀q,q<18446744073709551616→q*(v1*18446744073709551616+v0)≤U*18446744073709551616+ul→q≤Q+1)
  (hE:EsQ v1 U Q q (rh+18446744073709551616*cf)) (hq:q<18446744073709551616) (hrh:rh<18446744073709551616) (hcf:cf≤1)
  (hk:∀h' W',Chg t h h'→AtS h' t ((P++W'++S).map (wd .u64))→W'.length=v.length+1→Dg 18446744073709551616 W'→vl 18446744073709551616 W'=vl 18446744073709551616 W%vl 18446744073709551616 v→K (.int .u64 (Q:Nat)) h'):
  Wp E2 (C.a303.code.post 5) ⟨tm,hp⟩ (RetQ [.tmp 4] K):=by
 have tail:=fun(tm:T AV) q h0 h1 h5 h6 (hq:q<18446744073709551616) hE hok=>step_ms (h:=h) (hp:=hp) (K:=K) (tm:=tm) (t:=t) (wv:=wv) (v:=v) (P:=P) (S:=S) (W:=W) (q:=q) (Q:=Q) h0 h1 h5 h6 c hv hne hA hW dW dv hl hq hv0 hQ hE (hfin q hq hok) hk
 refine Wp.cut 1 rfl ?_
 generalize ACode.post 1 (ACode.post 5 C.a303.code)=r at tail⊢
 unfold C.a303
 dsimp only[ACode.post,ACode.pre]
 have rv:=(hv.chg c hne).rd
 have adv:=rv.adr
 have ldv1:=rv.load (v.length-1) (by omega)
 have ldv0:=rv.load (v.length-2) (by omega)
 have ld:=hA.ldw (i:=v.length-2) (by omega)
 have i1:((v.length:Int)-1).toNat=v.length-1:=by omega
 have i2:((v.length:Int)-2).toNat=v.length-2:=by omega
 have hv1d:=Dg.getD (B:=18446744073709551616) (by decide) dv (v.length-1)
 have hv0d:=Dg.getD (B:=18446744073709551616) (by decide) dv (v.length-2)
 have huld:=Dg.getD (B:=18446744073709551616) (by decide) dW (v.length-2)
 rw[g1]at ldv1 hv1d
 rw[g0]at ldv0 hv0d
 rw[gl]at ld huld
 repeat' (with_reducible first|simp(disch:=first|exact okD|fail) only[go_sem,seval]|(apply Spl.i<;>intro hc))
 refine Wp.loopI (fun m s'=>∃(q rh cf:Nat),val s'.tm (.t 0)= .sl t P.length (v.length+1) 1∧val s'.tm (.t 1)=wv∧val s'.tm (.t 5)= .int .i64 v.length∧val s'.tm (.t 6)= .int .u64 (q:Nat)∧val s'.tm (.t 7)= .int .u64 (rh:Nat)∧val s'.tm (.t 8)= .int .u64 (cf:Nat)∧
  s'.hp=hp∧EsQ v1 U Q q (rh+18446744073709551616*cf)∧q<18446744073709551616∧rh<18446744073709551616∧cf≤1∧q=m) (n:=q) ?_ ?_
 ·exact⟨q,rh,cf,by simp(disch:=first|exact okD|fail) only[go_sem,seval,h0],by simp(disch:=first|exact okD|fail) only[go_sem,seval,h1],by simp(disch:=first|exact okD|fail) only[go_sem,seval,h5],by simp(disch:=first|exact okD|fail) only[go_sem,seval,h6],by simp(disch:=first|exact okD|fail) only[go_sem,seval,h7],by simp(disch:=first|exact okD|fail) only[go_sem,seval,h8],rfl,hE,hq,hrh,hcf,rfl⟩
 ·rintro m ⟨tm,hp⟩ ⟨q,rh,cf,h0,h1,h5,h6,h7,h8,rfl,hE,hq,hrh,hcf,rfl⟩
  simp only at h0 h1 h5 h6 h7 h8
  have hpp:q*v0≤18446744073709551615*18446744073709551615:=Nat.mul_le_mul (by omega) (by omega)
  have e0:((0:Nat):Int)=0:=rfl
  have e1:((1:Nat):Int)=1:=rfl
  rcases Nat.eq_zero_or_pos cf with rfl|hcf'
  ·rw [Nat.mul_zero,Nat.add_zero]at hE
   by_cases hok:q*v0≤18446744073709551616*rh+ul
   ·have hok':=hE.ok hok
    by_cases c1:q*v0/18446744073709551616<rh
    ·have c1':((q*v0/18446744073709551616:Nat):Int)<rh:=Int.ofNat_lt.2 c1
     repeat' (with_reducible first|simp(disch:=first|exact okD|fail) only[go_sem,seval,h0,h1,h5,h6,h7,h8,e0,i1,i2,adv,ldv0,c261,c1']|(apply Spl.i<;>intro hc))
     exact tail _ q (by simp(disch:=first|exact okD|fail) only[go_sem,seval,h0]) (by simp(disch:=first|exact okD|fail) only[go_sem,seval,h1]) (by simp(disch:=first|exact okD|fail) only[go_sem,seval,h5]) (by simp(disch:=first|exact okD|fail) only[go_sem,seval,h6]) hq hE.ge hok'
    ·have c1':¬((q*v0/18446744073709551616:Nat):Int)<rh:=fun e=>c1 (Int.ofNat_lt.1 e)
     have c2:q*v0/18446744073709551616=rh:=by omega
     have c3':((q*v0%18446744073709551616:Nat):Int)≤ul:=Int.ofNat_le.2 (by omega)
     repeat' (with_reducible first|simp(disch:=first|exact okD|fail) only[go_sem,seval,h0,h1,h5,h6,h7,h8,e0,i1,i2,adv,ldv0,ld,c261,c1',c2,c3',Int.lt_irrefl]|(apply Spl.i<;>intro hc))
     exact tail _ q (by simp(disch:=first|exact okD|fail) only[go_sem,seval,h0]) (by simp(disch:=first|exact okD|fail) only[go_sem,seval,h1]) (by simp(disch:=first|exact okD|fail) only[go_sem,seval,h5]) (by simp(disch:=first|exact okD|fail) only[go_sem,seval,h6]) hq hE.ge hok'
   ·obtain⟨hq1,hE'⟩:=hE.down hQU (by omega)
    have hE'':EsQ v1 U Q (q-1) ((rh+v1)%18446744073709551616+18446744073709551616*((rh+v1)/18446744073709551616)):=by rwa[Nat.mod_add_div]
    have hqw:IntKind.wrap .u64 ((q:Int)-1)=((q-1:Nat):Int):=by simp only[IntKind.wrap_u64];omega
    have c1':¬((q*v0/18446744073709551616:Nat):Int)<rh:=fun e=>by have:=Int.ofNat_lt.1 e;omega
    by_cases c2:q*v0/18446744073709551616=rh
    ·have c3':¬((q*v0%18446744073709551616:Nat):Int)≤ul:=fun e=>by have:=Int.ofNat_le.1 e;omega
     repeat' (with_reducible first|simp(disch:=first|exact okD|fail) only[go_sem,seval,h0,h1,h5,h6,h7,h8,e0,i1,i2,adv,ldv0,ldv1,ld,c261,c267_0,c1',c2,c3',hqw,Int.lt_irrefl]|(apply Spl.i<;>intro hc))
     exact⟨q-1,by omega,q-1,_,_,rfl,rfl,rfl,hE'',by omega,Nat.mod_lt _ (by decide),by omega,rfl⟩
    ·have c2':¬((q*v0/18446744073709551616:Nat):Int)=rh:=fun e=>c2 (Int.ofNat.inj e)
     repeat' (with_reducible first|simp(disch:=first|exact okD|fail) only[go_sem,seval,h0,h1,h5,h6,h7,h8,e0,i1,i2,adv,ldv0,ldv1,ld,c261,c267_0,c1',c2',hqw]|(apply Spl.i<;>intro hc))
     exact⟨q-1,by omega,q-1,_,_,rfl,rfl,rfl,hE'',by omega,Nat.mod_lt _ (by decide),by omega,rfl⟩
  ·obtain rfl:cf=1:=by omega
   have hok':=hE.ok (b:=18446744073709551616) (v0:=v0) (u:=ul) (Nat.le_trans hpp (Nat.le_trans (Nat.le_trans (show 18446744073709551615*18446744073709551615≤18446744073709551616*18446744073709551616 by decide) (Nat.mul_le_mul_left _ (Nat.le_add_left _ _))) (Nat.le_add_right _ _)))
   repeat' (with_reducible first|simp(disch:=first|exact okD|fail) only[go_sem,seval,h0,h1,h5,h6,h7,h8,e1]|(apply Spl.i<;>intro hc))
   exact tail _ q (by simp(disch:=first|exact okD|fail) only[go_sem,seval,h0]) (by simp(disch:=first|exact okD|fail) only[go_sem,seval,h1]) (by simp(disch:=first|exact okD|fail) only[go_sem,seval,h5]) (by simp(disch:=first|exact okD|fail) only[go_sem,seval,h6]) hq hE.ge hok'
theorem c303 {W:List Nat} (hv:Sq .u64 h wv v) (hne:tokOf wv≠t) (hA:AtS h t ((P++W++S).map (wd .u64))) (hW:W.length=v.length+1) (dW:Dg 18446744073709551616 W) (dv:Dg 18446744073709551616 v) (hl:v.length≤1000000) (h2:2≤v.length)
  (hv1:v.getD (v.length-1) 0≠0) (hlt:vl 18446744073709551616 W<18446744073709551616*vl 18446744073709551616 v)
  (hk:∀h' W',Chg t h h'→AtS h' t ((P++W'++S).map (wd .u64))→W'.length=v.length+1→Dg 18446744073709551616 W'→vl 18446744073709551616 W'=vl 18446744073709551616 W%vl 18446744073709551616 v→K (.int .u64 (vl 18446744073709551616 W/vl 18446744073709551616 v:Nat)) h'):
  CallWp E2 303 [.sl t P.length (v.length+1) 1,wv] h K:=by
 refine CallWp.fn (fn:=C.a303) rfl rfl rfl ?_
 have tv:=top2 (B:=18446744073709551616) (l:=v) h2
 have tw:=top3 (B:=18446744073709551616) (W:=W) h2 hW
 have lv:=vl_lt (B:=18446744073709551616) (by decide) (dv.take (v.length-2))
 have lw:=vl_lt (B:=18446744073709551616) (by decide) (dW.take (v.length-2))
 rw[List.length_take,Nat.min_eq_left (by omega)]at lv lw
 have hv1d:=Dg.getD (B:=18446744073709551616) (by decide) dv (v.length-1)
 have hv0d:=Dg.getD (B:=18446744073709551616) (by decide) dv (v.length-2)
 have hund:=Dg.getD (B:=18446744073709551616) (by decide) dW v.length
 have humd:=Dg.getD (B:=18446744073709551616) (by decide) dW (v.length-1)
 have huld:=Dg.getD (B:=18446744073709551616) (by decide) dW (v.length-2)
 have rv:=hv.rd
 have adv:=rv.adr
 have lenv:=rv.len
 have ldv1:=rv.load (v.length-1) (by omega)
 have ov:=rv.old (by omega)
 have ldn:=hA.ldw (i:=v.length) (by omega)
 have ldm:=hA.ldw (i:=v.length-1) (by omega)
 have od:=hA.old
 obtain⟨v1,g1⟩:∃v1,v.getD (v.length-1) 0=v1:=⟨_,rfl⟩
 obtain⟨v0,g0⟩:∃v0,v.getD (v.length-2) 0=v0:=⟨_,rfl⟩
 obtain⟨un,gn⟩:∃un,W.getD v.length 0=un:=⟨_,rfl⟩
 obtain⟨um,gm⟩:∃um,W.getD (v.length-1) 0=um:=⟨_,rfl⟩
 obtain⟨ul,gl⟩:∃ul,W.getD (v.length-2) 0=ul:=⟨_,rfl⟩
 rw[g1]at hv1d ldv1 tv hv1
 rw[g0]at hv0d tv
 rw[gn]at hund ldn tw
 rw[gm]at humd ldm tw
 rw[gl]at huld tw
 obtain⟨hQU,hfin,hU,hv0,hQB⟩:=est_facts (B:=18446744073709551616) (v1:=v1) (v0:=v0) (U:=un*18446744073709551616+um) (u:=ul) tv tw lv lw rfl rfl (by omega) (by decide) hlt
 have i1:((v.length:Int)-1).toNat=v.length-1:=by omega
 have tail:=fun(tm:T AV) q rh cf h0 h1 h5 h6 h7 h8 hE hq hrh hcf=>step_est (h:=h) (hp:=h) (K:=K) (tm:=tm) (t:=t) (wv:=wv) (v:=v) (P:=P) (S:=S) (W:=W) (q:=q) (rh:=rh) (cf:=cf) h0 h1 h5 h6 h7 h8 Chg.refl hv hne hA hW dW dv hl h2 hv0 rfl g1 g0 gl hQU hfin hE hq hrh hcf hk
 refine Wp.cut 5 rfl ?_
 generalize ACode.post 5 C.a303.code=r at tail⊢
 unfold C.a303
 dsimp only[ACode.pre]
 by_cases hge:v1≤un
 ·have hge':(v1:Int)≤un:=by omega
  have hun:un=v1:=by omega
  have hE:EsQ v1 (un*18446744073709551616+um) (vl 18446744073709551616 W/vl 18446744073709551616 v) 18446744073709551615 ((um+v1)%18446744073709551616+18446744073709551616*((um+v1)/18446744073709551616)):=by
   refine⟨?_,by omega⟩
   rw[Nat.mod_add_div,hun];omega
  repeat' (with_reducible first|simp(disch:=first|exact okD|fail) only[go_sem,seval,lenv,i1,adv,ldv1,ldn,ldm,ov,od,hge',c267_0]|(apply Spl.i<;>intro hc))
  exact tail _ 18446744073709551615 _ _ (by simp(disch:=first|exact okD|fail) only[go_sem,seval]) (by simp(disch:=first|exact okD|fail) only[go_sem,seval]) (by simp(disch:=first|exact okD|fail) only[go_sem,seval]) (by(simp(disch:=first|exact okD|fail) only[go_sem,seval])<;>rfl) (by simp(disch:=first|exact okD|fail) only[go_sem,seval]) (by simp(disch:=first|exact okD|fail) only[go_sem,seval]) hE (by decide) (Nat.mod_lt _ (by decide)) (by omega)
 ·have hge':¬(v1:Int)≤un:=by omega
  have hE:=EsQ.first (b:=18446744073709551616) (v0:=v0) (u:=ul) (by omega:0<v1) huld hQU
  have hqq:(un*18446744073709551616+um)/v1<18446744073709551616:=by
   rw[Nat.div_lt_iff_lt_mul (by omega),Nat.mul_comm]
   have:(un+1)*18446744073709551616≤v1*18446744073709551616:=Nat.mul_le_mul_right _ (by omega)
   omega
  have hmm:(un*18446744073709551616+um)%v1<18446744073709551616:=Nat.lt_trans (Nat.mod_lt _ (by omega)) hv1d
  have c3:=fun{h:Hp} {K:AV→Hp→Prop}=>c300 (h:=h) (K:=K) (hi:=un) (lo:=um) (y:=v1) humd hv1d (by omega)
  obtain⟨q0,hq0⟩:∃q0,q0=(un*18446744073709551616+um)/v1:=⟨_,rfl⟩
  obtain⟨r0,hr0⟩:∃r0,r0=(un*18446744073709551616+um)%v1:=⟨_,rfl⟩
  rw[←hq0,←hr0]at hE
  rw[←hq0]at hqq
  rw[←hr0]at hmm
  rw[←hq0,←hr0]at c3
  repeat' (with_reducible first|simp(disch:=first|exact okD|fail) only[go_sem,seval,lenv,i1,adv,ldv1,ldn,ldm,ov,od,hge',c3]|(apply Spl.i<;>intro hc))
  exact tail _ q0 r0 0 (by simp(disch:=first|exact okD|fail) only[go_sem,seval]) (by simp(disch:=first|exact okD|fail) only[go_sem,seval]) (by simp(disch:=first|exact okD|fail) only[go_sem,seval]) (by simp(disch:=first|exact okD|fail) only[go_sem,seval]) (by simp(disch:=first|exact okD|fail) only[go_sem,seval]) (by(simp(disch:=first|exact okD|fail) only[go_sem,seval])<;>rfl) (by rw[Nat.mul_zero,Nat.add_zero];exact hE) hqq hmm (by omega)
end
end
end Go.Ae
set_option linter.unusedVariables false
set_option linter.unusedSimpArgs false
set_option maxRecDepth 100000
namespace Go.Ae
open Go.Proofs
section
variable {h:Hp} {K:AV→Hp→Prop}
theorem c195 {a b:Int} (ha: -9223372036854775808≤a∧a≤9223372036854775807) (hb: -9223372036854775808≤b∧b≤9223372036854775807) (hab:a.natAbs*b.natAbs≤9223372036854775807):Gv E2 195 [sI a,sI b] h (sI (a*b)):=by
 refine Gv.of (CallWp.fn (fn:=C.a195) rfl rfl rfl ?_)
 unfold C.a195
 have e1:a.natAbs*b.natAbs/18446744073709551616=0:=Nat.div_eq_of_lt (by omega)
 have e2:a.natAbs*b.natAbs%18446744073709551616=a.natAbs*b.natAbs:=Nat.mod_eq_of_lt (by omega)
 have e3:(((a.natAbs*b.natAbs:Nat):Int)≤9223372036854775807):=Int.ofNat_le.2 hab
 have e5:(0:Int)≤((a.natAbs*b.natAbs:Nat):Int):=Int.natCast_nonneg _
 have e6:((0:Nat):Int)=0:=rfl
 by_cases h1:a<0<;>by_cases h2:b<0
 ·have d1:decide (a<0)=true:=decide_eq_true h1
  have d2:decide (b<0)=true:=decide_eq_true h2
  have e4:((a.natAbs*b.natAbs:Nat):Int)=a*b:=by
   rw[Int.natCast_mul,show(a.natAbs:Int)= -a by omega,show(b.natAbs:Int)= -b by omega,Int.neg_mul_neg]
  repeat' (with_reducible first|simp(disch:=first|exact okD|fail) only[go_sem,seval,c262,c261,e1,e2,d1,d2,e6]|(apply Spl.i<;>intro hc))
  rw[e4]
  exact okG
 ·have d1:decide (a<0)=true:=decide_eq_true h1
  have d2:decide (b<0)=false:=decide_eq_false h2
  have e4: -((a.natAbs*b.natAbs:Nat):Int)=a*b:=by
   rw[Int.natCast_mul,show(a.natAbs:Int)= -a by omega,show(b.natAbs:Int)=b by omega,Int.neg_mul,Int.neg_neg]
  repeat' (with_reducible first|simp(disch:=first|exact okD|fail) only[go_sem,seval,c262,c261,e1,e2,d1,d2,e6]|(apply Spl.i<;>intro hc))
  rw[e4]
  exact okG
 ·have d1:decide (a<0)=false:=decide_eq_false h1
  have d2:decide (b<0)=true:=decide_eq_true h2
  have e4: -((a.natAbs*b.natAbs:Nat):Int)=a*b:=by
   rw[Int.natCast_mul,show(a.natAbs:Int)=a by omega,show(b.natAbs:Int)= -b by omega,Int.mul_neg,Int.neg_neg]
  repeat' (with_reducible first|simp(disch:=first|exact okD|fail) only[go_sem,seval,c262,c261,e1,e2,d1,d2,e6]|(apply Spl.i<;>intro hc))
  rw[e4]
  exact okG
 ·have d1:decide (a<0)=false:=decide_eq_false h1
  have d2:decide (b<0)=false:=decide_eq_false h2
  have e4:((a.natAbs*b.natAbs:Nat):Int)=a*b:=by
   rw[Int.natCast_mul,show(a.natAbs:Int)=a by omega,show(b.natAbs:Int)=b by omega]
  repeat' (with_reducible first|simp(disch:=first|exact okD|fail) only[go_sem,seval,c262,c261,e1,e2,d1,d2,e6]|(apply Spl.i<;>intro hc))
  rw[e4]
  exact okG
theorem m195 {a b:Nat} (hab:a*b≤9223372036854775807) (ha:a≤9223372036854775807) (hb:b≤9223372036854775807):Gv E2 195 [sI a,sI b] h (sI (a*b:Nat)):=by
 rw[Int.natCast_mul]
 exact c195 (by omega) (by omega) (by rw[Int.natAbs_natCast,Int.natAbs_natCast];exact hab)
theorem b_shr1 {q:EqK} {a:Nat}:binA .shr q (.int .i64 a) (.int .u64 1)=some (.int .i64 ((a/2:Nat):Int)):=b_shrL (n:=1) (by decide)
theorem c198s {a k:Nat} (ha:1≤a) (hk:a^k≤9223372036854775807) (hk':k≤1000000):Gv E2 198 [sI a,.int .i64 k] h (sI (a^k:Nat)):=by
 refine Gv.of (CallWp.fn (fn:=C.a198) rfl rfl rfl ?_)
 unfold C.a198
 repeat' (with_reducible first|simp(disch:=first|exact okD|fail) only[go_sem,seval]|(refine Gv.wp (c120) fun _ _ _ _=>?_)|(apply Spl.i<;>intro hc))
 refine Wp.loopI (fun m s=>∃x y k':Nat,val s.tm (.t 1)= .int .i64 k'∧val s.tm (.t 2)= .ptr h.next 0∧val s.tm (.t 4)= .ptr (h.next+1) 0∧∃t5,val s.tm (.t 5)= .ptr t5 0∧At s.hp t5 [.int .i64 y,.nils]∧At s.hp h.next [.int .i64 x,.nils]∧At s.hp (h.next+1) [.int .i64 0,.nils]∧
  (h.next+1<t5∧t5<s.hp.next∧y*x^k'=a^k∧1≤y∧1≤x∧k'≤1000000∧k'=m)∧Grs h s.hp) (n:=k) ?_ ?_
 ·refine⟨a,1,k,?_⟩
  simp(disch:=first|exact okD|fail) only[go_sem,seval]
  refine⟨⟨by omega,by omega,by omega,ha,hk'⟩,?_⟩
  exact okG
 ·rintro m ⟨tm,hp⟩ ⟨x,y,k',h1,h2,h4,t5,h5,⟨s5,g5⟩,⟨s0,g0⟩,⟨s1,g1⟩,⟨n1,n2,heq,hy,hx,hk2,rfl⟩,G⟩
  simp only at h1 h2 h4 h5 g5 g0 g1 n2 G
  have A5:At hp t5 [.int .i64 y,.nils]:=⟨_,g5⟩
  have A0:At hp h.next [.int .i64 x,.nils]:=⟨_,g0⟩
  have A1:At hp (h.next+1) [.int .i64 0,.nils]:=⟨_,g1⟩
  rcases Nat.eq_zero_or_pos k' with rfl|hp0
  ·have e1:((0:Nat):Int)=0:=rfl
   have hyv:y=a^k:=by rw[←heq];simp
   repeat' (with_reducible first|simp(disch:=first|exact okD|fail) only[go_sem,seval,h1,h2,h4,h5,g5,g0,g1]|(apply Spl.i<;>intro hc))
   subst hyv
   exact okG
  ·have bx:x≤x^k':=Nat.le_self_pow (by omega) x
   have by_:y*x^k'≤9223372036854775807:=by omega
   have b1:y*x≤y*x^k':=Nat.mul_le_mul_left y bx
   have b2:2≤k'→x*x≤x^k':=fun e=>by
    have:=Nat.pow_le_pow_right hx e
    rwa[Nat.pow_two]at this
   have b3:x^k'≤y*x^k':=Nat.le_mul_of_pos_left _ hy
   have b4:y≤y*x^k':=Nat.le_mul_of_pos_right _ (by omega)
   have b5:2≤k'→x*x≤9223372036854775807:=fun e=>by have:=b2 e;omega
   have p2:x^k'=(x*x)^(k'/2)*x^(k'%2):=by
    rw[←Nat.pow_two,←Nat.pow_mul,←Nat.pow_add,Nat.div_add_mod]
   have x2:1≤x*x:=Nat.mul_pos hx hx
   rcases Nat.mod_two_eq_zero_or_one k' with hm|hm
   ·have k1:1<(k':Int):=by omega
    repeat' (with_reducible first|simp(disch:=first|exact okD|fail) only[go_sem,seval,h1,h2,h4,h5,g5,g0,g1,b_and1,b_shr1,hm]|(refine Gv.wp (m195 (b5 (by omega)) (by omega) (by omega)) fun _ _ _ _=>?_)|(apply Spl.i<;>intro hc))
    refine⟨k'/2,by omega,x*x,y,k'/2,?_⟩
    simp(disch:=first|exact okD|fail) only[go_sem,seval,h1,h2,h4,h5,A5,A0,A1]
    rw[hm,Nat.pow_zero,Nat.mul_one]at p2
    refine⟨⟨n1,by omega,by rw[←p2,heq],hy,x2,by omega⟩,?_⟩
    exact okG
   ·by_cases k1:1<(k':Int)
    ·repeat' (with_reducible first|simp(disch:=first|exact okD|fail) only[go_sem,seval,h1,h2,h4,h5,g5,g0,g1,b_and1,b_shr1,hm]|(refine Gv.wp (m195 (show y*x≤_ by omega) (by omega) (by omega)) fun _ _ _ _=>?_)|(refine Gv.wp (m195 (b5 (by omega)) (by omega) (by omega)) fun _ _ _ _=>?_)|(apply Spl.i<;>intro hc))
     refine⟨k'/2,by omega,x*x,y*x,k'/2,?_⟩
     simp(disch:=first|exact okD|fail) only[go_sem,seval,h1,h2,h4,h5,A5,A0,A1]
     rw[hm,Nat.pow_one]at p2
     refine⟨⟨n1,by omega,by rw[←heq,p2,Nat.mul_assoc,Nat.mul_comm x],Nat.mul_pos hy hx,x2,by omega⟩,?_⟩
     exact okG
    ·repeat' (with_reducible first|simp(disch:=first|exact okD|fail) only[go_sem,seval,h1,h2,h4,h5,g5,g0,g1,b_and1,b_shr1,hm]|(refine Gv.wp (m195 (show y*x≤_ by omega) (by omega) (by omega)) fun _ _ _ _=>?_)|(apply Spl.i<;>intro hc))
     refine⟨k'/2,by omega,x,y*x,k'/2,?_⟩
     simp(disch:=first|exact okD|fail) only[go_sem,seval,h1,h2,h4,h5,A5,A0,A1]
     have k1':k'=1:=by omega
     refine⟨⟨n1,by omega,by rw[←heq,k1'];simp,Nat.mul_pos hy hx,hx,by omega⟩,?_⟩
     exact okG
end
end Go.Ae
