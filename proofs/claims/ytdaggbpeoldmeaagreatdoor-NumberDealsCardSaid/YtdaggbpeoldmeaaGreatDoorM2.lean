/- The abstract evaluator: what holds behind a run, as rewriting. -/
import Derived.Test.YtdaggbpeoldmeaaGreatDoorM1
import Derived.IntWalk
import Derived.Scope
import Derived.Deep.Draws
import Derived.Sort.Grow
import Derived.Test.YtdaggbpeoldmeaaGreatDoorProg
import Derived.Test.YtdaggbpeoldmeaaGreatDoorShelf
import Derived.Lib.AppendIntMem
import Derived.Shelf.Strings.SlTrimAscii
open Array renaming getD_eq_getD_getElem? → cO, getElem?_toList → gI, getElem?_eq_getElem → cY, getElem?_eq_some_iff → dd, getElem?_replicate → AW, getElem?_append_left → yv
open Bool renaming false_eq_true → cB, eq_iff_iff → mZ, not_true → ny, and_eq_true → bI, false_or → qc
open Go.RowKit renaming Below → bn
open Go.RowKit.Below renaming refl → fH
open Iff renaming rfl → aA
open List renaming range' → vd, length_cons → aq, getElem?_eq_getElem → aC, getD_eq_getElem?_getD → aR, getElem?_eq_none → cb, length_nil → aM, map_cons → fR, all_eq_true → cL, getElem?_cons_zero → eN, getElem?_cons_succ → dD, map_congr_left → cE, getElem?_eq_some_iff → bB, getElem?_take → iD, getElem?_append_left → cH, mem_of_getElem? → eX, mem_map → kc, mem_filter → ye, mem_append → dQ, getElem?_map → bZ, map_map → AK, length_map → aV
open Nat renaming eq_of_beq_eq_true → qg, lt_of_lt_of_le → ah, le_refl → ac, lt_or_ge → aQ, zero_add → dN, add_zero → aT, add_assoc → dm, le_succ → eK, le_trans → az, zero_le → aE, lt_trichotomy → iN, beq → bG, blt → gL, ble → wW, blt_eq → jx, le_of_ble_eq_true → jg, strongRecOn → ta, add → mu
open Option renaming getD_none → uY, getD_some → fU, map_some → cV
open Option.some renaming inj → aa, injEq → bY
set_option linter.unusedVariables false
set_option linter.unusedSimpArgs false
namespace Go.Ae
section
variable {E:Env}{s:St}{tm:T AV}{h h':Hp}{v:AV}{Q:Ex→St→Prop}{K:AV→Hp→Prop}{a b c:ap}{r:List aF}{d:Option Nat}{o:ij}
theorem Fe {n m f:Nat}{args:List AV}{x y:AV×Hp}(h1:gK E (exec E n) f args h=some x)(h2:gK E (exec E m) f args h=some y):x=y:=
 aa ((kL (gY (Nat.le_max_left n m)) h1).symm.trans (kL (gY (Nat.le_max_right n m)) h2))
theorem ae.det {f:Nat}{args:List AV}(hc:dJ E f args h v h'):ae E f args h K↔K v h':=by
 constructor
 ·rintro⟨v1,h1,⟨n,hn⟩,hk⟩;obtain⟨m,hm⟩:=hc;obtain⟨rfl,rfl⟩:=aj ((congrArg some (Fe hn hm)));exact hk
 ·exact fun hk=>⟨v,h',hc,hk⟩
theorem Wp.tD:Wp E .skip s Q↔Q .fW s:=by
 constructor
 ·rintro⟨e,s',⟨n,hn⟩,hq⟩;cases n with
  |zero=>cases hn
  | succ n=>
   rw[aN]at hn;obtain⟨rfl,rfl⟩:=aj (show some (Ex.fW,s)=some (e,s') from hn);exact hq
 ·exact Wp.skip
theorem Wp.Da:Wp E .ret s Q↔Q .ret s:=by
 constructor
 ·rintro⟨e,s',⟨n,hn⟩,hq⟩;cases n with
  |zero=>cases hn
  | succ n=>
   rw[aN]at hn;obtain⟨rfl,rfl⟩:=aj (show some (Ex.ret,s)=some (e,s') from hn);exact hq
 ·exact Wp.ret
theorem Wp.zL {id:Nat}:Wp E (.exit id) s Q↔Q (.exit id) s:=by
 constructor
 ·rintro⟨e,s',⟨n,hn⟩,hq⟩;cases n with
  |zero=>cases hn
  | succ n=>
   rw[aN]at hn;obtain⟨rfl,rfl⟩:=aj (show some (Ex.exit id,s)=some (e,s') from hn);exact hq
 ·exact Wp.exit
theorem Wp.xl:Wp E (.seq a b) s Q↔Wp E a s (uW E b Q):=by
 constructor
 ·rintro⟨e,s',⟨n,hn⟩,hq⟩;cases n with
  |zero=>cases hn
  | succ n=>
   rw[aN]at hn;have hn:iT a b E (exec E n) s=some (e,s'):=hn;unfold iT at hn;split at hn
   ·rename_i s1 h1;exact⟨.fW,s1,⟨n,h1⟩,e,s',⟨n,hn⟩,hq⟩
   ·rename_i hne;refine⟨e,s',⟨n,hn⟩,?_⟩;cases e with
    |fW=>exact absurd hn (hne _)
    |exit i=>exact hq
    |ret=>exact hq
 ·exact Wp.seq
theorem Wp.wK {id:Nat}:Wp E (.block id a) s Q↔Wp E a s (oW id Q):=by
 constructor
 ·rintro⟨e,s',⟨n,hn⟩,hq⟩;cases n with
  |zero=>cases hn
  | succ n=>
   rw[aN]at hn;have hn:fF id a E (exec E n) s=some (e,s'):=hn;unfold fF at hn;split at hn
   ·rename_i i s1 h1;refine⟨.exit i,s1,⟨n,h1⟩,?_⟩;simp only[oW];split at hn
    ·rename_i hi;obtain⟨rfl,rfl⟩:=aj hn;rw[if_pos (qg hi)];exact hq
    ·rename_i hi;obtain⟨rfl,rfl⟩:=aj hn;rw[if_neg (fun e=>by subst e;simp at hi)];exact hq
   ·rename_i hne;refine⟨e,s',⟨n,hn⟩,?_⟩;cases e with
    |fW=>exact hq
    |exit i=>exact absurd hn (hne _ _)
    |ret=>exact hq
 ·exact Wp.block
def dw (E:Env)(v:AV)(a b:ap)(s:St)(Q:Ex→St→Prop):Prop:=
 match v with
 | .bool true=>Wp E a s Q
 | .bool false=>Wp E b s Q
 |_=>False
theorem dw.t:dw E (.bool true) a b s Q↔Wp E a s Q:=aA
theorem dw.f:dw E (.bool false) a b s Q↔Wp E b s Q:=aA
theorem dw.split {c:Bool}(h1:c=true→Wp E a s Q)(h2:c=false→Wp E b s Q):dw E (.bool c) a b s Q:=by
 cases c with
 |true=>exact h1 rfl
 |false=>exact h2 rfl
theorem dw.dec {p:Prop}{_:Decidable p}(h1:p→Wp E a s Q)(h2:¬p→Wp E b s Q):dw E (.bool (decide p)) a b s Q:=
 dw.split (fun e=>h1 (of_decide_eq_true e)) (fun e=>h2 (of_decide_eq_false e))
theorem dw.pos {p:Prop}{_:Decidable p}(hp:p):dw E (.bool (decide p)) a b s Q↔Wp E a s Q:=by rw[decide_eq_true hp];exact aA
theorem dw.neg {p:Prop}{_:Decidable p}(hp:¬p):dw E (.bool (decide p)) a b s Q↔Wp E b s Q:=by rw[decide_eq_false hp];exact aA
theorem Wp.Ad {x:bC}:Wp E (.cond x a b) s Q↔dw E (val s.tm x) a b s Q:=by
 constructor
 ·rintro⟨e,s',⟨n,hn⟩,hq⟩;cases n with
  |zero=>cases hn
  | succ n=>
   rw[aN]at hn;have hn:iq x a b E (exec E n) s=some (e,s'):=hn;unfold iq at hn;split at hn
   ·rename_i hx;rw[hx];exact⟨e,s',⟨n,hn⟩,hq⟩
   ·rename_i hx;rw[hx];exact⟨e,s',⟨n,hn⟩,hq⟩
   ·cases hn
 ·unfold dw;split
  ·rename_i hx;exact fun hw=>Wp.cond true hx (fun _=>hw) nofun
  ·rename_i hx;exact fun hw=>Wp.cond false hx nofun (fun _=>hw)
  ·exact False.elim
theorem Wp.lA:Wp E (.loop c) s Q↔Wp E c s (uW E (.loop c) Q):=by
 constructor
 ·rintro⟨e,s',⟨n,hn⟩,hq⟩;cases n with
  |zero=>cases hn
  | succ n=>
   rw[aN]at hn;have hn:io c E (exec E n) s=some (e,s'):=hn;unfold io at hn;split at hn
   ·rename_i s1 h1;exact⟨.fW,s1,⟨n,h1⟩,e,s',⟨n,hn⟩,hq⟩
   ·rename_i hne;refine⟨e,s',⟨n,hn⟩,?_⟩;cases e with
    |fW=>exact absurd hn (hne _)
    |exit i=>exact hq
    |ret=>exact hq
 ·rintro⟨e,s1,h1,h2⟩;cases e with
  |fW=>obtain⟨e2,s2,h3,h4⟩:=h2;exact⟨e2,s2,dR.loop h1 h3,h4⟩
  |exit i=>exact⟨_,s1,dR.qD h1 (by simp),h2⟩
  |ret=>exact⟨_,s1,dR.qD h1 (by simp),h2⟩
def Round (I:St→Prop)(Q:Ex→St→Prop):Ex→St→Prop
 | .fW,s=>I s
 |e,s=>Q e s
theorem Wp.bD (I:Nat→St→Prop){n:Nat}(h0:I n s)(round:∀n s,I n s→Wp E c s (Round (fun s'=>∃m,m<n∧I m s') Q)):Wp E (.loop c) s Q:=by
 refine Wp.loop I h0 fun n s hI=>(round n s hI).mono ?_
 intro e s' hq;cases e<;>exact hq
def JC (E:Env)(d:Option Nat)(r:List aF)(tm:T AV)(Q:Ex→St→Prop)(v:AV)(h:Hp):Prop:=Wp E (.cG r) { tm:=put tm d v,hp:=h } Q
theorem Wp.Du:Wp E (.cG []) s Q↔Q .fW s:=by
 constructor
 ·rintro⟨e,s',⟨n,hn⟩,hq⟩;cases n with
  |zero=>cases hn
  | succ n=>
   rw[aN]at hn;obtain⟨rfl,rfl⟩:=aj (show some (Ex.fW,s)=some (e,s') from hn);exact hq
 ·exact Wp.nil
theorem Wp.Hs {st:Option Nat}:Wp E (.cG (⟨d,o,none,st⟩::r)) s Q↔cm E o s (JC E d r s.tm Q):=by
 constructor
 ·rintro⟨e,s',⟨n,hn⟩,hq⟩;cases n with
  |zero=>cases hn
  | succ n=>
   rw[aN]at hn;have hn:kx ⟨d,o,none,st⟩ r E (exec E n) s=some (e,s'):=hn;unfold kx at hn;simp only[wanted]at hn;unfold lB at hn;split at hn
   ·rename_i v h' ho;exact⟨v,h',⟨n,ho⟩,e,s',⟨n,hn⟩,hq⟩
   ·cases hn
 ·exact fun hw=>Wp.op rfl hw
def gE (E:Env)(w:Bool)(o:ij)(d:Option Nat)(r:List aF)(s:St)(Q:Ex→St→Prop):Prop:=
 match w with
 |true=>cm E o s (JC E d r s.tm Q)
 |false=>Wp E (.cG r) { tm:=put s.tm d jO,hp:=s.hp } Q
theorem gE.t:gE E true o d r s Q↔cm E o s (JC E d r s.tm Q):=aA
theorem gE.f:gE E false o d r s Q↔Wp E (.cG r) { tm:=put s.tm d jO,hp:=s.hp } Q:=aA
theorem Wp.DC {g:Nat×Bool}{st:Option Nat}:Wp E (.cG (⟨d,o,some g,st⟩::r)) s Q↔gE E (wanted s.tm (some g)) o d r s Q:=by
 constructor
 ·rintro⟨e,s',⟨n,hn⟩,hq⟩;cases n with
  |zero=>cases hn
  | succ n=>
   rw[aN]at hn;have hn:kx ⟨d,o,some g,st⟩ r E (exec E n) s=some (e,s'):=hn;unfold kx at hn;simp only at hn;split at hn
   ·rename_i hw;rw[hw];unfold lB at hn;split at hn
    ·rename_i v h' ho;exact⟨v,h',⟨n,ho⟩,e,s',⟨n,hn⟩,hq⟩
    ·cases hn
   ·rename_i hw;rw[hw];exact⟨e,s',⟨n,hn⟩,hq⟩
 ·cases hw:wanted s.tm (some g)with
  |true=>exact fun h=>Wp.op hw h
  |false=>exact fun h=>Wp.Pg hw h
theorem AY (tm:T AV)(n:Nat)(b:Bool):wanted tm (some (n,b))=match val tm (.t n)with| .bool c=>c==b|_=>false:=by
 simp only[wanted,val];cases hg:tm.get n with
 |none=>simp[jO]
 |some v=>cases v<;>simp
theorem Wp.zQ {ops:List aF}:Wp E (.cC ops) s Q↔Wp E (.kH ops 0 s.hp.df []) s Q:=by
 constructor
 ·rintro⟨e,s',⟨n,hn⟩,hq⟩;cases n with
  |zero=>cases hn
  | succ n=>
   rw[aN]at hn;exact⟨e,s',⟨n,hn⟩,hq⟩
 ·exact Wp.cC
theorem Wp.zR {i c0:Nat}{acc:List (Nat×Nat)}:Wp E (.kH [] i c0 acc) s Q↔Q .fW s:=by
 constructor
 ·rintro⟨e,s',⟨n,hn⟩,hq⟩;cases n with
  |zero=>cases hn
  | succ n=>
   rw[aN]at hn;obtain⟨rfl,rfl⟩:=aj (show some (Ex.fW,s)=some (e,s') from hn);exact hq
 ·exact Wp.XW
def DZ (E:Env)(d:Option Nat)(r:List aF)(i c0:Nat)(acc:List (Nat×Nat))(tm:T AV)(Q:Ex→St→Prop)(v:AV)(h:Hp):Prop:=
 acc.all (fresh h c0 i)=true∧Wp E (.kH r (i+1) c0 acc) { tm:=put tm d v,hp:=h } Q
def QG (E:Env)(acc:Option (List (Nat×Nat)))(d:Option Nat)(o:ij)(r:List aF)(i c0:Nat)(s:St)(Q:Ex→St→Prop):Prop:=
 match acc with
 |some acc=>cm E o s (DZ E d r i c0 acc s.tm Q)
 |none=>False
theorem QG.yF {acc:List (Nat×Nat)}{i c0:Nat}:QG E (some acc) d o r i c0 s Q↔cm E o s (DZ E d r i c0 acc s.tm Q):=aA
theorem Wp.DM {st:Option Nat}{i c0:Nat}{acc:List (Nat×Nat)}:Wp E (.kH (⟨d,o,none,st⟩::r) i c0 acc) s Q↔QG E (nM s ⟨d,o,none,st⟩ acc) d o r i c0 s Q:=by
 constructor
 ·rintro ⟨e,s',⟨n,hn⟩,hq⟩;cases n with
  |zero=>cases hn
  | succ n=>
   rw[aN]at hn;have hn:jk ⟨d,o,none,st⟩ r i c0 acc E (exec E n) s=some (e,s'):=hn;unfold jk at hn;simp only[wanted]at hn;split at hn
   ·rename_i v h' ho;split at hn
    ·rename_i acc' ha;rw[ha];split at hn
     ·rename_i hf;exact⟨v,h',⟨n,ho⟩,hf,e,s',⟨n,hn⟩,hq⟩
     ·cases hn
    ·cases hn
   ·cases hn
 ·cases ha:nM s ⟨d,o,none,st⟩ acc with
  |none=>exact False.elim
  |some acc'=>exact fun hw=>Wp.dop rfl ha hw
def mi (E:Env)(w:Bool)(acc:List (Nat×Nat))(acc':Option (List (Nat×Nat)))(d:Option Nat)(o:ij)(r:List aF)(i c0:Nat)(s:St)(Q:Ex→St→Prop):Prop:=
 match w with
 |true=>QG E acc' d o r i c0 s Q
 |false=>acc.all (fresh s.hp c0 i)=true∧Wp E (.kH r (i+1) c0 acc) { tm:=put s.tm d jO,hp:=s.hp } Q
theorem mi.t {acc:List (Nat×Nat)}{acc':Option (List (Nat×Nat))}{i c0:Nat}:mi E true acc acc' d o r i c0 s Q↔QG E acc' d o r i c0 s Q:=aA
theorem mi.f {acc:List (Nat×Nat)}{acc':Option (List (Nat×Nat))}{i c0:Nat}:mi E false acc acc' d o r i c0 s Q↔acc.all (fresh s.hp c0 i)=true∧Wp E (.kH r (i+1) c0 acc) { tm:=put s.tm d jO,hp:=s.hp } Q:=aA
theorem Wp.zT {g:Nat×Bool}{st:Option Nat}{i c0:Nat}{acc:List (Nat×Nat)}:Wp E (.kH (⟨d,o,some g,st⟩::r) i c0 acc) s Q↔mi E (wanted s.tm (some g)) acc (nM s ⟨d,o,some g,st⟩ acc) d o r i c0 s Q:=by
 constructor
 ·rintro ⟨e,s',⟨n,hn⟩,hq⟩;cases n with
  |zero=>cases hn
  | succ n=>
   rw[aN]at hn;have hn:jk ⟨d,o,some g,st⟩ r i c0 acc E (exec E n) s=some (e,s'):=hn;unfold jk at hn;simp only at hn;split at hn
   ·rename_i hw;rw[hw];split at hn
    ·rename_i v h' ho;split at hn
     ·rename_i acc' ha;rw[ha];split at hn
      ·rename_i hf;exact⟨v,h',⟨n,ho⟩,hf,e,s',⟨n,hn⟩,hq⟩
      ·cases hn
     ·cases hn
    ·cases hn
   ·rename_i hw;rw[hw];split at hn
    ·rename_i hf;exact⟨hf,e,s',⟨n,hn⟩,hq⟩
    ·cases hn
 ·cases hw:wanted s.tm (some g)with
  | true=>
   cases ha:nM s ⟨d,o,some g,st⟩ acc with
   |none=>exact False.elim
   |some acc'=>exact fun h=>Wp.dop hw ha h
  |false=>exact fun h=>Wp.Tw hw h.1 h.2
theorem Dt {g:Option (Nat×Bool)}{acc:List (Nat×Nat)}:nM s ⟨d,o,g,none⟩ acc=some acc:=rfl
def wR (v:AV)(u:Nat)(acc:List (Nat×Nat)):Option (List (Nat×Nat)):=
 match v with
 | .ptr t _=>some ((t,u)::acc)
 |_=>none
theorem wR.ptr {t p u:Nat}{acc:List (Nat×Nat)}:wR (.ptr t p) u acc=some ((t,u)::acc):=rfl
theorem Ds {g:Option (Nat×Bool)}{u:Nat}{acc:List (Nat×Nat)}{ag:Bool}{n:Nat}{x:bC}:nM s ⟨d,.load ag n x,g,some u⟩ acc=wR (val s.tm x) u acc:=by
 unfold nM reads wR;simp only;cases val s.tm x<;>rfl
theorem zC {t u c0 i:Nat}:fresh h c0 i (t,u)=(if u=i then old h c0 t else true):=by
 unfold fresh;rw[LN];by_cases hu:u=i<;>simp[hu]
def fu (x:Option AV)(h:Hp)(K:AV→Hp→Prop):Prop:=
 match x with
 |some v=>K v h
 |none=>False
theorem fu.iff:fu (some v) h K↔K v h:=aA
theorem eW.iff:eW (some (v,h)) K↔K v h:=aA
theorem cm.bV (hn:o.calls=false):cm E o s K↔eW (mS o (val s.tm) s.hp) K:=by
 constructor
 ·rintro⟨v,h',⟨n,K8⟩,hk⟩;have:nd o E (exec E n) s=mS o (val s.tm) s.hp:=by cases o<;>first|(simp[ij.calls]at hn;done)|rfl
  rw[this]at K8;rw[K8];exact hk
 ·exact cm.plain hn
theorem cm.wJ {f:Nat}{args:List bC}:cm E (.mc f args) s K↔ae E f (args.map (val s.tm)) s.hp K:=aA
def rS (E:Env)(x:AV)(args:List AV)(h:Hp)(K:AV→Hp→Prop):Prop:=
 match x with
 | .fn f cap=>ae E f (args++cap) h K
 |_=>False
theorem rS.fn {f:Nat}{cap args:List AV}:rS E (.fn f cap) args h K↔ae E f (args++cap) h K:=aA
theorem cm.wI {x:bC}{args:List bC}:cm E (.hZ x args) s K↔rS E (val s.tm x) (args.map (val s.tm)) s.hp K:=by
 constructor
 ·rintro⟨v,h',⟨n,hn⟩,hk⟩;simp only[nd,kj]at hn;split at hn
  ·rename_i f cap hx;rw[hx];exact⟨v,h',⟨n,hn⟩,hk⟩
  ·cases hn
 ·unfold rS;split
  ·rename_i hx;exact cm.hZ hx
  ·exact False.elim
def qT (E:Env)(x:AV)(name:String)(args:List AV)(h:Hp)(K:AV→Hp→Prop):Prop:=
 match x with
 | .rE T u=>match E.gO T name with
  |some f=>ae E f (u::args) h K
  |none=>False
 |_=>False
theorem qT.rE {T f:Nat}{u:AV}{name:String}{args:List AV}(hm:E.gO T name=some f):qT E (.rE T u) name args h K↔ae E f (u::args) h K:=by
 simp only[qT,hm]
theorem cm.Dx {x:bC}{name:String}{args:List bC}:cm E (.inv x name args) s K↔qT E (val s.tm x) name (args.map (val s.tm)) s.hp K:=by
 constructor
 ·rintro⟨v,h',⟨n,hn⟩,hk⟩;simp only[nd,qz]at hn;split at hn
  ·rename_i T u hx;rw[hx];split at hn
   ·rename_i f hm;exact(qT.rE hm).2 ⟨v,h',⟨n,hn⟩,hk⟩
   ·cases hn
  ·cases hn
 ·unfold qT;split
  ·rename_i hx;split
   ·rename_i hm;exact cm.inv hx hm
   ·exact False.elim
  ·exact False.elim
def AC (v:Option AV)(h:Hp)(K:AV→Hp→Prop):Prop:=
 match v with
 |some v=>K v h
 |none=>False
theorem AC.iff:AC (some v) h K↔K v h:=aA
theorem eT.ret {rs:List qU}:eT rs K .ret s↔AC (eD s rs) s.hp K:=by simp only[eT,AC];cases eD s rs<;>exact aA
theorem eT.fW {rs:List qU}:eT rs K .fW s↔AC (eD s rs) s.hp K:=by simp only[eT,AC];cases eD s rs<;>exact aA
theorem ae.gv {f:Nat}{p:Prim}{args:List AV}(he:E.exts f=none)(hp:E.dK f=some p):ae E f args h K↔eW (p args h) K:=by
 constructor
 ·rintro⟨v,h',⟨n,hn⟩,hk⟩;unfold call gK at hn;simp only[he,hp]at hn;rw[hn];exact hk
 ·exact ae.Pc he hp
end
section
variable {P:Program}{W0:World}{base nt:Nat}{ρ ρ':dF}{h h':Hp}{w w':World}{s s':St}{a a':Act}{v:AV}
structure mU (W0:World)(base nt:Nat)(ρ:dF)(s:St)(a:Act)(w:World):Prop where
 rel:bz base ρ s.hp w
 pc:bn base W0 w
 defers:a.defers=[]
 size:nt≤a.tmps.size
 tmp:∀t,a.tmps.getD t undef=enc ρ (val s.tm (.t t))∧ok ρ s.hp.next (val s.tm (.t t))
theorem pS {x:Operand}{y:bC}(hx:cv x=some y):(∃t,x= .tmp t∧y= .t t)∨(∀(a:Act) (ρ:dF) (N:Nat) (tm:T AV),a.eval x=enc ρ (val tm y)∧ok ρ N (val tm y)∧(∀t,x≠ .tmp t)∧∀t,y≠ .t t):=by
 cases x with
 |tmp t=>simp only[cv,bY]at hx;exact .inl ⟨t,rfl,hx.symm⟩
 | const c=>
  simp only[cv]at hx;split at hx
  ·rename_i b hb;obtain rfl:=aa hx;refine .inr fun a ρ N tm=>⟨?_,(qN hb ρ N).2,nofun,nofun⟩
   exact(qN hb ρ N).1.symm
  ·cases hx
 |global g=>simp[cv]at hx
 | func f=>
  simp only[cv,bY]at hx;subst hx;exact .inr fun a ρ N tm=>⟨by simp[Act.eval,val,enc,encs],by simp[val,ok,gV],nofun,nofun⟩
theorem mU.IK (S:mU W0 base nt ρ s a w):eG ρ s.hp.next a.eval s.tm:=fun x y hx=>by
 rcases pS hx with⟨t,rfl,rfl⟩|hh
 ·exact S.tmp t
 ·exact⟨(hh a ρ s.hp.next s.tm).1,(hh a ρ s.hp.next s.tm).2.1⟩
theorem hC (tm:T AV)(d:Nat)(v:AV)(t:Nat):val (tm.set d v) (.t t)=if t=d then v else val tm (.t t):=by
 simp only[val,T.qH];split<;>rfl
theorem ur (a:Act)(dst:Option Tmp)(v:Value)(hd:∀d,dst=some d→d<a.tmps.size)(t:Nat):(a.put dst v).tmps.getD t undef=if dst=some t then v else a.tmps.getD t undef:=by
 cases dst with
 |none=>simp[Act.put]
 | some d=>
  have:=hd d rfl;simp only[Act.put,cO,Array.getElem?_setIfInBounds];by_cases h:d=t
  ·subst h;simp[this]
  ·simp[h]
theorem tI (a:Act)(dst:Option Tmp)(v:Value):(a.put dst v).tmps.size=a.tmps.size:=by cases dst<;>simp[Act.put]
theorem put_defers (a:Act)(dst:Option Tmp)(v:Value):(a.put dst v).defers=a.defers:=by cases dst<;>rfl
theorem xe (tm:T AV)(dst:Option Nat)(v:AV)(t:Nat):val (put tm dst v) (.t t)=if dst=some t then v else val tm (.t t):=by
 cases dst with
 |none=>simp[put]
 |some d=>simp only[put,hC,bY];by_cases h:t=d<;>simp[h,eq_comm]
theorem mU.put (S:mU W0 base nt ρ s a w)(X:Ext base ρ s.hp w ρ' h' w')(hv:ok ρ' h'.next v)(dst:Option Nat)(hd:∀d,dst=some d→d<nt):mU W0 base nt ρ' { tm:=put s.tm dst v,hp:=h' } (a.put dst (enc ρ' v)) w':=by
 refine⟨X.rel,S.pc.trans (X.fb.below S.rel),by rw[put_defers];exact S.defers,by rw[tI];exact S.size,fun t=>?_⟩;rw[ur _ _ _ fun d nA=>ah (hd d nA) S.size];simp only[xe];split
 ·exact⟨rfl,hv⟩
 ·obtain⟨h1,h2⟩:=S.tmp t;exact⟨h1.trans (dE X.agree _ h2).symm,fL X.agree X.next _ h2⟩
theorem mU.R8 (S:mU W0 base nt ρ s a w)(dst:Option Nat)(hd:∀d,dst=some d→d<nt):mU W0 base nt ρ { tm:=Ae.put s.tm dst jO,hp:=s.hp } (a.put dst undef) w:=by
 have:=S.put (Ext.refl S.rel) (v:=jO) trivial dst hd;rwa[kY]at this
def Lz (ops:Array Oper)(g:Option (Nat×Bool)):Option (Option (Nat×Bool)):=
 match g with
 |none=>some none
 | some (j,b)=>match(ops[j]?).bind (·.dst)with
  |some d=>some (some (d,b))
  |none=>none
theorem oG {ops:Array Oper}{o:Oper}{g:Option (Nat×Bool)}{tm:T AV}(hg:Lz ops o.guard=some g)(hs:∀d b,g=some (d,b)→a.tmps.getD d undef=enc ρ (val tm (.t d))):
  Region.wanted o (yielded ops a.tmps)=wanted tm g:=by
 unfold Region.wanted;unfold Lz at hg;split at hg
 ·rename_i hn;rw[hn];obtain rfl:=aa hg;rfl
 ·rename_i j b hn;split at hg
  ·rename_i d hd;obtain rfl:=aa hg;rw[hn];have e:=hs d b rfl;simp only[yielded,hd,Option.bind_some,wanted];rw[cO]at e;simp only[val]at e;cases ht:tm.get d with
   | none=>
    rw[ht]at e;simp only[uY,kY]at e;cases ha:a.tmps[d]? with
    |none=>rfl
    |some u=>rw[ha]at e;simp only[fU]at e;subst e;rfl
   | some v=>
    rw[ht]at e;simp only[fU]at e;cases ha:a.tmps[d]? with
    | none=>
     rw[ha]at e;simp only[uY]at e;cases v<;>simp[enc,undef]at e<;>rfl
    | some u=>
     rw[ha]at e;simp only[fU]at e;subst e;cases v<;>simp only[enc]<;>first|rfl|(rename_i c;cases b<;>cases c<;>rfl)
  ·cases hg
structure Ox (P:Program)(nt:Nat)(ops:Array Oper)(o:Oper)(x:aF):Prop where
 op:iF P o=some x.op∨x.op= .bad
 dst:x.dst=o.dst
 lt:∀d,x.dst=some d→d<nt
 qf:Lz ops o.guard=some x.qf
def Ow (W0:World)(base nt:Nat)(ρ:dF)(h:Hp)(w:World)(e:Ex)(s':St):Exit→Act→World→Prop:=fun e' a' w'=>
 (match e,e' with| .fW,.normal=>True| .exit i,.exit j=>i=j| .ret,.ret=>True|_,_=>False)∧∃ρ',mU W0 base nt ρ' s' a' w'∧Ext base ρ h w ρ' s'.hp w'
theorem Ow.trans {h0:Hp}{w0:World}{ρ0:dF}{e:Ex}{e':Exit}(X:Ext base ρ0 h0 w0 ρ h w)(hq:Ow W0 base nt ρ h w e s' e' a' w'):Ow W0 base nt ρ0 h0 w0 e s' e' a' w':=by
 obtain⟨h1,ρ',h2,h3⟩:=hq;exact⟨h1,ρ',h2,X.trans h3⟩
inductive rT {α β:Type}(R:α→β→Prop):List α→List β→Prop
 |nil:rT R [] []
 |cons {a:α} {b:β} {asx:List α} {bs:List β}:R a b→rT R asx bs→rT R (a::asx) (b::bs)
theorem Df {E:Env}:∀(m:Nat) (xs:List aF) (s:St) (e:Ex) (s':St),exec E m (.cG xs) s=some (e,s')→e= .fW
 |0,_,_,_,_,hr=>by cases hr
 | m+1,[],s,e,s',hr=>by
  rw[aN]at hr;exact(aj (show some (Ex.fW,s)=some (e,s') from hr)).1.symm
 | m +1,x::xs,s,e,s',hr=>by
  rw[aN]at hr;have hr:kx x xs E (exec E m) s=some (e,s'):=hr;unfold kx lB at hr;repeat' split at hr
  all_goals first
   |(cases hr;done)
   |exact Df m _ _ _ _ hr
theorem Et {E:Env}{ops:Array Oper}{Q:Exit→Act→World→Prop}(MO:rR P E)(n:Nat)(CO:∀m,m<n→mX P W0 base E (exec E m)):
  ∀ (m i:Nat) (os:List Oper) (xs:List aF) (ρ:dF) (s:St) (a:Act) (w:World) (e:Ex) (s':St),m≤n→ops.toList.drop i=os→rT (Ox P nt ops) os xs→mU W0 base nt ρ s a w→
   exec E m (.cG xs) s=some (e,s')→(∀a' w' ρ',mU W0 base nt ρ' s' a' w'→Ext base ρ s.hp w ρ' s'.hp w'→Q .normal a' w')→wpOps P ops Q (vd i os.length) a w:=by
 intro m
 induction m with
 |zero=>intro i os xs ρ s a w e s' _ _ _ _ hr _;cases hr
 | succ m ih =>
  intro i os xs ρ s a w e s' hm hdrop hf S hr hQ;rw[aN]at hr;cases hf with
  | nil=>
   obtain⟨rfl,rfl⟩:Ex.fW=e∧s=s':=by
    have:=aj (show some (Ex.fW,s)=some (e,s') from hr);exact this
   exact hQ a w ρ S (Ext.refl S.rel)
  | cons hx hrest=>
   rename_i o x os xs
   have ho:ops[i]?=some o:=by
    rw[←gI];have:=congrArg (fun l=>l[0]?) hdrop;simpa using this
   have hdrop':ops.toList.drop (i+1)=os:=by
    rw[←List.drop_drop,hdrop];rfl
   have hr:kx x xs E (exec E m) s=some (e,s'):=hr;have hw:=oG (a:=a) (ρ:=ρ) (tm:=s.tm) hx.qf fun d b _=>(S.tmp d).1
   simp only[aq,List.range'_succ];rw[wpOps];simp only[ho];unfold kx at hr;split at hr
   ·rename_i hwt;rw[hw,hwt];simp only[if_true];unfold lB at hr;split at hr
    ·rename_i v h' hop;rcases hx.op with hc|hbad
     ·have D:=tL (CO m (by omega)) S.pc MO hc S.IK S.rel hop
      have key:∀u w1,sn base ρ s.hp w v h' u w1→wpOps P ops Q (vd (i+1) os.length) (a.put o.dst u) w1:=by
       rintro u w1 ⟨ρ1,X,hv,rfl⟩;have S1:=S.put X hv x.dst hx.lt;rw[hx.dst]at S1;rw[hx.dst]at hr;exact ih (i+1) os xs ρ1 _ _ _ e s' (by omega) hdrop' hrest S1 hr fun a' w' ρ' S' X'=>hQ a' w' ρ' S' (X.trans X')
      exact .inl (mh.wp D key)
     ·rw[hbad]at hop;cases hop
    ·cases hr
   ·rename_i hwt;rw[hw,hwt];simp only[cB,if_false];have S1:=S.R8 x.dst hx.lt;rw[hx.dst]at S1;rw[hx.dst]at hr;exact ih (i+1) os xs ρ _ _ _ e s' (by omega) hdrop' hrest S1 hr hQ
end
section
variable {E:Env}{s:St}{tm:T AV}{h h':Hp}{v x y:AV}{Q:Ex→St→Prop}{K:AV→Hp→Prop}{a b c:ap}{r:List aF}{d:Option Nat}{o:ij}{k:IntKind}{m n i j:Int}
theorem Nh:val tm (.k v)=v:=rfl
theorem CN {t:Nat}:val (.nil:T AV) (.t t)=jO:=rfl
theorem yN {t:Nat}:put tm (some t) v=tm.set t v:=rfl
theorem yO:put tm none v=tm:=rfl
theorem wy {t:Nat}:iA [] t tm=tm:=rfl
theorem uB {t:Nat}{l:List AV}:iA (v::l) t tm=iA l (t+1) (tm.set t v):=rfl
theorem yL {t:Nat}:nJ s (.tmp t)=some (val s.tm (.t t)):=rfl
theorem RB {t:Nat}:eD s [.tmp t]=some (val s.tm (.t t)):=rfl
theorem RC:eD s []=some (.gk []):=rfl
theorem Ry {t t':Nat}:eD s [.tmp t,.tmp t']=some (.gk [val s.tm (.t t),val s.tm (.t t')]):=rfl
theorem Ru {t t' t'':Nat}:eD s [.tmp t,.tmp t',.tmp t'']=some (.gk [val s.tm (.t t),val s.tm (.t t'),val s.tm (.t t'')]):=rfl
def bH (v:AV)(b:Bool):Bool:=
 match v with
 | .bool c=>c==b
 |_=>false
theorem yx {t:Nat}{b:Bool}:wanted tm (some (t,b))=bH (val tm (.t t)) b:=by rw[AY];rfl
theorem bH.tt:bH (.bool true) true=true:=rfl
theorem bH.tf:bH (.bool true) false=false:=rfl
theorem bH.ft:bH (.bool false) true=false:=rfl
theorem bH.ff:bH (.bool false) false=true:=rfl
theorem bH.jO {b:Bool}:bH (.gk []) b=false:=rfl
theorem bH.Nn {p:Prop}{_:Decidable p}(hp:p):bH (.bool (decide p)) true=true:=by simp[bH,hp]
theorem bH.Nv {p:Prop}{_:Decidable p}(hp:¬p):bH (.bool (decide p)) true=false:=by simp[bH,hp]
theorem bH.No {p:Prop}{_:Decidable p}(hp:p):bH (.bool (decide p)) false=false:=by simp[bH,hp]
theorem bH.Nw {p:Prop}{_:Decidable p}(hp:¬p):bH (.bool (decide p)) false=true:=by simp[bH,hp]
theorem gE.dec {p:Prop}{_:Decidable p}{b:Bool}(h1:p→gE E (bH (.bool true) b) o d r s Q)(h2:¬p→gE E (bH (.bool false) b) o d r s Q):gE E (bH (.bool (decide p)) b) o d r s Q:=by
 by_cases hp:p
 ·rw[decide_eq_true hp];exact h1 hp
 ·rw[decide_eq_false hp];exact h2 hp
theorem mi.dec {p:Prop}{_:Decidable p}{b:Bool}{acc:List (Nat×Nat)}{acc':Option (List (Nat×Nat))}{i c0:Nat}(h1:p→mi E (bH (.bool true) b) acc acc' d o r i c0 s Q)(h2:¬p→mi E (bH (.bool false) b) acc acc' d o r i c0 s Q):mi E (bH (.bool (decide p)) b) acc acc' d o r i c0 s Q:=by
 by_cases hp:p
 ·rw[decide_eq_true hp];exact h1 hp
 ·rw[decide_eq_false hp];exact h2 hp
theorem dw.kI {p:Prop}{_:Decidable p}(h1:¬p→Wp E a s Q)(h2:p→Wp E b s Q):dw E (.bool (decide (¬p))) a b s Q:=by
 by_cases hp:p
 ·rw[decide_eq_false (fun e=>e hp)];exact h2 hp
 ·rw[decide_eq_true hp];exact h1 hp
theorem gE.kI {p:Prop}{_:Decidable p}{b:Bool}(h1:¬p→gE E (bH (.bool true) b) o d r s Q)(h2:p→gE E (bH (.bool false) b) o d r s Q):gE E (bH (.bool (decide (¬p))) b) o d r s Q:=by
 by_cases hp:p
 ·rw[decide_eq_false (fun e=>e hp)];exact h2 hp
 ·rw[decide_eq_true hp];exact h1 hp
theorem wz {p:Prop}{_:Decidable p}:(!decide p)=decide (¬p):=by by_cases hp:p<;>simp[hp]
theorem Q4 {z:bC}:cm E (.mv z) s K↔K (val s.tm z) s.hp:=cm.bV rfl
def dI (v a b:AV)(h:Hp)(K:AV→Hp→Prop):Prop:=
 match v with
 | .bool true=>K a h
 | .bool false=>K b h
 |_=>False
theorem dI.t:dI (.bool true) x y h K↔K x h:=aA
theorem dI.f:dI (.bool false) x y h K↔K y h:=aA
theorem dI.pos {p:Prop}{_:Decidable p}(hp:p):dI (.bool (decide p)) x y h K↔K x h:=by rw[decide_eq_true hp];exact aA
theorem dI.neg {p:Prop}{_:Decidable p}(hp:¬p):dI (.bool (decide p)) x y h K↔K y h:=by rw[decide_eq_false hp];exact aA
theorem dI.dec {p:Prop}{_:Decidable p}(h1:p→K x h)(h2:¬p→K y h):dI (.bool (decide p)) x y h K:=by
 by_cases hp:p
 ·rw[decide_eq_true hp];exact h1 hp
 ·rw[decide_eq_false hp];exact h2 hp
theorem dI.kI {p:Prop}{_:Decidable p}(h1:¬p→K x h)(h2:p→K y h):dI (.bool (decide (¬p))) x y h K:=by
 by_cases hp:p
 ·rw[decide_eq_false (fun e=>e hp)];exact h2 hp
 ·rw[decide_eq_true hp];exact h1 hp
theorem bH.Hf {p:Prop}{_:Decidable p}(hp:p):bH (.bool (decide (¬p))) true=false:=by simp[bH,hp]
theorem bH.Hg {p:Prop}{_:Decidable p}(hp:p):bH (.bool (decide (¬p))) false=true:=by simp[bH,hp]
theorem dI.Hh {p:Prop}{_:Decidable p}(hp:p):dI (.bool (decide (¬p))) x y h K↔K y h:=by rw[decide_eq_false (fun e=>e hp)];exact aA
theorem dw.Hh {p:Prop}{_:Decidable p}(hp:p):dw E (.bool (decide (¬p))) a b s Q↔Wp E b s Q:=by rw[decide_eq_false (fun e=>e hp)];exact aA
theorem FW {z u w:bC}:cm E (.pick z u w) s K↔dI (val s.tm z) (val s.tm u) (val s.tm w) s.hp K:=by
 rw[cm.bV rfl];simp only[mS,pA,dI];cases val s.tm z<;>try exact aA
 rename_i b;cases b<;>exact aA
theorem CL {z:List AV}:cm E (.alloc z) s K↔K (.ptr s.hp.next 0) (s.hp.push fun t=> .row z true t):=cm.bV rfl
theorem Q6 {z:bC}:cm E (.box z) s K↔eW (tU z (val s.tm) s.hp) K:=cm.bV rfl
theorem JT {z:List AV}{ps:List (Nat×Nat×bC)}:cm E (.build z ps) s K↔eW (kT z ps (val s.tm) s.hp) K:=cm.bV rfl
theorem F8 {sz l:Nat}{z:List AV}{ps:List (Nat×Nat×bC)}:cm E (.dU sz l z ps) s K↔eW (kz sz l z ps (val s.tm) s.hp) K:=cm.bV rfl
theorem Nf {q:mW}{z u:bC}{op:BinOp}:cm E (.bin op q z u) s K↔fu (dM op q (val s.tm z) (val s.tm u)) s.hp K:=by
 rw[cm.bV rfl];simp only[mS,tV,fu];cases dM op q (val s.tm z) (val s.tm u)<;>exact aA
theorem Q3 {z:bC}{op:UnOp}:cm E (.un op z) s K↔fu (OG op (val s.tm z)) s.hp K:=by
 rw[cm.bV rfl];simp only[mS,Bx,fu];cases OG op (val s.tm z)<;>exact aA
def Qh (k:IntKind):AV→Option AV
 | .int _ n=>some (.int k (k.wrap n))
 |_=>none
theorem Aa {k':IntKind}:Qh k (.int k' n)=some (.int k (k.wrap n)):=rfl
theorem Nd {z:bC}:cm E (.sW k z) s K↔fu (Qh k (val s.tm z)) s.hp K:=by
 rw[cm.bV rfl];simp only[mS,tT,fu];cases val s.tm z<;>simp[Qh,gW,eW]
def TG:AV→Option AV
 | .str s=>some (.str s)
 |_=>none
theorem zZ {l:List UInt8}:TG (.str l)=some (.str l):=rfl
theorem Nc {z:bC}:cm E (.QW z) s K↔fu (TG (val s.tm z)) s.hp K:=by
 rw[cm.bV rfl];simp only[mS,tS,fu];cases val s.tm z<;>exact aA
theorem M7 {t:Nat}{z:bC}:cm E (.FD t z) s K↔K (.rE t (val s.tm z)) s.hp:=cm.bV rfl
theorem M8 {f:Nat}{cs:List bC}:cm E (.Pk f cs) s K↔K (.fn f (cs.map (val s.tm))) s.hp:=cm.bV rfl
theorem M6 {sz by_:Nat}{z:List AV}{l u:bC}:cm E (.tY sz by_ z l u) s K↔eW (rZ sz by_ z l u (val s.tm) s.hp) K:=cm.bV rfl
theorem Vo {sz:Nat}{z:bC}{lo hi:Option bC}:cm E (.sl sz z lo hi) s K↔eW (El s.hp sz (val s.tm z) (lo.map (val s.tm)) (hi.map (val s.tm))) K:=cm.bV rfl
theorem jM {sz by_:Nat}{z u:bC}:cm E (.app sz by_ z u) s K↔eW (kr s.hp sz by_ (val s.tm z) (val s.tm u)) K:=cm.bV rfl
theorem JS:cm E .vV s K↔K (.map s.hp.next) (s.hp.push fun t=> .kM [] t):=cm.bV rfl
theorem OA {z u w:bC}:cm E (.zd z u w) s K↔eW (pB z u w (val s.tm) s.hp) K:=cm.bV rfl
theorem Q5 {z u:bC}{w:AV}{ok:Bool}:cm E (.Pp z u w ok) s K↔eW (tO z u w ok (val s.tm) s.hp) K:=cm.bV rfl
def yH (x:AV)(lo hi:Option AV):Option AV:=
 match x with
 | .str s=>Bc s lo hi
 |_=>none
theorem M1 {z:bC}{lo hi:Option bC}:cm E (.rW z lo hi) s K↔fu (yH (val s.tm z) (lo.map (val s.tm)) (hi.map (val s.tm))) s.hp K:=by
 rw[cm.bV rfl];simp only[mS,tN,fu];cases hz:val s.tm z<;>try exact aA
 rename_i l;simp only[yH];cases Bc l (lo.map (val s.tm)) (hi.map (val s.tm))<;>exact aA
theorem CW {l:List UInt8}(h0:0≤i∧i≤l.length):yH (.str l) (some (.int k i)) none=some (.str (l.drop i.toNat)):=by
 simp only[yH,Bc,bound];rw[if_pos (by omega),List.take_of_length_le (ac _)]
theorem CY {l:List UInt8}(h0:0≤i∧i≤l.length):yH (.str l) none (some (.int k i))=some (.str (l.take i.toNat)):=by
 simp only[yH,Bc,bound];rw[if_pos (by omega)];simp
theorem CX {l:List UInt8}{k':IntKind}(h0:0≤i∧i≤j∧j≤l.length):yH (.str l) (some (.int k i)) (some (.int k' j))=some (.str ((l.take j.toNat).drop i.toNat)):=by
 simp only[yH,Bc,bound];rw[if_pos (by omega)];simp only;rw[if_pos (by omega)]
def HW (x y:AV):Option AV:=
 match x,y with
 | .str s,.int _ i=>if 0≤i∧i<s.length then some (.int .u8 ((s.getD i.toNat 0).toNat:Int))else none
 |_,_=>none
theorem uh {l:List UInt8}(h0:0≤i∧i<l.length):HW (.str l) (.int k i)=some (.int .u8 ((l.getD i.toNat 0).toNat:Int)):=if_pos h0
theorem FY {z u:bC}:cm E (.idxs z u) s K↔fu (HW (val s.tm z) (val s.tm u)) s.hp K:=by
 rw[cm.bV rfl];simp only[mS,pD,fu];cases hz:val s.tm z<;>try exact aA
 rename_i l;cases hu:val s.tm u<;>try exact aA
 rename_i k i;simp only[HW];by_cases h1:0≤i
 ·rw[if_pos h1];by_cases h2:i<l.length
  ·rw[if_pos ⟨h1,h2⟩];obtain⟨b,hb⟩:∃b,l[i.toNat]?=some b:=⟨l[i.toNat],aC (by omega)⟩
   rw[hb,aR,hb];exact aA
  ·rw[if_neg (fun e=>h2 e.2),cb (by omega)];exact aA
 ·rw[if_neg h1,if_neg (fun e=>h1 e.1)];exact aA
def vA (q:JF)(x:AV):Option AV:=
 match q,x with
 | .str,.str s=>some (.int .i64 s.length)
 | .slice,.sl _ _ n _=>some (.int .i64 n)
 | .slice,.av=>some (.int .i64 0)
 | .slice,.IM .. =>some (.int .i64 0)
 | .arr n,_=>some (.int .i64 n)
 |_,_=>none
theorem zi {l:List UInt8}:vA .str (.str l)=some (.int .i64 l.length):=rfl
theorem Dw {t p l z:Nat}:vA .slice (.sl t p l z)=some (.int .i64 l):=rfl
theorem wb:vA .slice .av=some (.int .i64 0):=rfl
theorem zj {l:Nat}:vA (.arr l) x=some (.int .i64 l):=by cases x<;>rfl
theorem M9 {q:JF}{z:bC}:cm E (.len q z) s K↔fu (vA q (val s.tm z)) s.hp K:=by
 rw[cm.bV rfl];simp only[mS,tP,fu];cases q<;>cases val s.tm z<;>exact aA
def IJ (x:AV)(i:Nat):Option AV:=
 match x with
 | .gk l=>l[i]?
 |_=>none
theorem II {l:List AV}:IJ (.gk (x::l)) 0=some x:=rfl
theorem IG {l:List AV}:IJ (.gk (x::y::l)) 1=some y:=rfl
theorem IF {l:List AV}:IJ (.gk (x::y::v::l)) 2=some v:=rfl
theorem Nb {z:bC}{t:Nat}:cm E (.ext z t) s K↔fu (IJ (val s.tm z) t) s.hp K:=by
 rw[cm.bV rfl];simp only[mS,tR,fu];cases hz:val s.tm z<;>try exact aA
 rename_i l;simp only[IJ];cases l[t]?<;>exact aA
def xG (ag:Bool)(off l:Nat)(x:AV):Option AV:=
 match x with
 | .agg cs=>if off+l≤cs.length then(if ag then some (.agg ((cs.drop off).take l))else cs[off]?)else none
 |_=>none
theorem Na {ag:Bool}{off l:Nat}{z:bC}:cm E (.yl ag off l z) s K↔fu (xG ag off l (val s.tm z)) s.hp K:=by
 rw[cm.bV rfl];simp only[mS,tQ,fu];cases hz:val s.tm z<;>try exact aA
 rename_i cs;simp only[xG];split
 ·split
  ·exact aA
  ·cases cs[off]?<;>exact aA
 ·exact aA
theorem nV {cs:List AV}{off:Nat}(hc:cs[off]?=some v):xG false off 1 (.agg cs)=some v:=by
 have hl:off<cs.length:=by
  rcases aQ off cs.length with h|h
  ·exact h
  ·rw[cb h]at hc;cases hc
 simp only[xG,if_pos (show off+1≤cs.length by omega),hc,cB,if_false]
theorem Iw {l:List AV}:xG false 0 1 (.agg (x::l))=some x:=nV rfl
theorem Iv {z:AV}{l:List AV}:xG false 1 1 (.agg (z::x::l))=some x:=nV rfl
theorem Iu {z u:AV}{l:List AV}:xG false 2 1 (.agg (z::u::x::l))=some x:=nV rfl
theorem It {z u w:AV}{l:List AV}:xG false 3 1 (.agg (z::u::w::x::l))=some x:=nV rfl
theorem Is {z u w w':AV}{l:List AV}:xG false 4 1 (.agg (z::u::w::w'::x::l))=some x:=nV rfl
def NT (off:Nat)(x:AV):Option AV:=
 match x with
 | .ptr t p=>some (.ptr t (p+off))
 |_=>none
theorem ww {t p off:Nat}:NT off (.ptr t p)=some (.ptr t (p+off)):=rfl
theorem F6 {off:Nat}{z:bC}:cm E (.jy off z) s K↔fu (NT off (val s.tm z)) s.hp K:=by
 rw[cm.bV rfl];simp only[mS,pF,fu];cases val s.tm z<;>exact aA
def wi (sz:Nat)(x y:AV):Option AV:=
 match x,y with
 | .sl t p n _,.int _ i=>if 0≤i∧i<(n:Int)then some (.ptr t (p+i.toNat*sz))else none
 |_,_=>none
theorem qF {sz t p l z:Nat}(h0:0≤i∧i<(l:Int)):wi sz (.sl t p l z) (.int k i)=some (.ptr t (p+i.toNat*sz)):=if_pos h0
theorem FZ {sz:Nat}{z u:bC}:cm E (.gR sz z u) s K↔fu (wi sz (val s.tm z) (val s.tm u)) s.hp K:=by
 rw[cm.bV rfl];simp only[mS,pE,fu];cases hz:val s.tm z<;>try exact aA
 cases hu:val s.tm u<;>try exact aA
 simp only[wi];split<;>exact aA
def BG (sz l:Nat)(x y:AV):Option AV:=
 match x,y with
 | .ptr t p,.int _ i=>if 0≤i∧i<(l:Int)then some (.ptr t (p+i.toNat*sz))else none
 |_,_=>none
theorem ui {sz t p l:Nat}(h0:0≤i∧i<(l:Int)):BG sz l (.ptr t p) (.int k i)=some (.ptr t (p+i.toNat*sz)):=if_pos h0
theorem CK {sz l:Nat}{z u:bC}:cm E (.wj sz l z u) s K↔fu (BG sz l (val s.tm z) (val s.tm u)) s.hp K:=by
 rw[cm.bV rfl];simp only[mS,mF,fu];cases hz:val s.tm z<;>try exact aA
 cases hu:val s.tm u<;>try exact aA
 simp only[BG];split<;>exact aA
def nk (ag:Bool)(l:Nat)(x:AV)(h:Hp)(K:AV→Hp→Prop):Prop:=
 match x with
 | .ptr t p=>match h.get t with
  |some (.row cs _ _)=>fu (if p+l≤cs.length then(if ag then some (.agg ((cs.drop p).take l))else cs[p]?)else none) h K
  |_=>False
 |_=>False
theorem FX {ag:Bool}{l:Nat}{z:bC}:cm E (.load ag l z) s K↔nk ag l (val s.tm z) s.hp K:=by
 rw[cm.bV rfl];simp only[mS,pC,nk];cases hz:val s.tm z<;>try exact aA
 rename_i t p;simp only;cases hg:s.hp.get t<;>try exact aA
 rename_i ob;cases ob<;>try exact aA
 rename_i cs own st;simp only;split
 ·split
  ·exact aA
  ·cases cs[p]?<;>exact aA
 ·exact aA
theorem nk.one {t p st:Nat}{cs:List AV}{own:Bool}(hg:h.get t=some (.row cs own st))(hc:cs[p]?=some v):nk false 1 (.ptr t p) h K↔K v h:=by
 have hl:p<cs.length:=by
  rcases aQ p cs.length with h|h
  ·exact h
  ·rw[cb h]at hc;cases hc
 simp only[nk,hg,if_pos (show p+1≤cs.length by omega),hc,cB,if_false];exact aA
theorem nk.agg {t p l st:Nat}{cs:List AV}{own:Bool}(hg:h.get t=some (.row cs own st))(hc:p+l≤cs.length):nk true l (.ptr t p) h K↔K (.agg ((cs.drop p).take l)) h:=by
 simp only[nk,hg,if_pos hc,if_true];exact aA
def mT (l:Nat)(x y:AV)(h:Hp)(K:AV→Hp→Prop):Prop:=
 match x with
 | .ptr t p=>match h.get t with
  |some (.row cs true _)=>y.cells.length=l∧p+l≤cs.length∧y.cells.all AV.one=true∧K jO (h.put t fun st=> .row (eE cs p y.cells) true st)
  |_=>False
 |_=>False
theorem yy {l:Nat}{z u:bC}:cm E (.store l z u) s K↔mT l (val s.tm z) (val s.tm u) s.hp K:=by
 rw[cm.bV rfl];simp only[mS,oL,mT];cases hz:val s.tm z<;>try exact aA
 rename_i t p;simp only;cases hg:s.hp.get t<;>try exact aA
 rename_i ob;cases ob<;>try exact aA
 rename_i cs own st;cases own<;>try exact aA
 simp only;split
 ·rename_i hc;simp only[hc,true_and];exact aA
 ·rename_i hc;simp only[eW,false_iff];exact fun e=>hc ⟨e.1,e.2.1,e.2.2.1⟩
theorem tz:∀{cs:List AV} {p:Nat},p<cs.length→eE cs p [v]=cs.set p v
 |[],p,h=>absurd h (Nat.not_lt_zero _)
 |c::cs,0,h=>by simp[eE]
 | c::cs,p+1,h=>by
  have:=tz (cs:=cs) (p:=p) (Nat.lt_of_succ_lt_succ h);simp only[eE,aq,aM,dN]at this⊢;simp only[List.take_succ_cons,List.cons_append,List.set_cons_succ,←this];rw[show p+1+1=(p+1)+1 from rfl,List.drop_succ_cons]
theorem mT.one {t p st:Nat}{cs:List AV}(hg:h.get t=some (.row cs true st))(hp:p<cs.length)(hy:y.cells=[y])(ho:y.one=true):
  mT 1 (.ptr t p) y h K↔K jO (h.put t fun st=> .row (cs.set p y) true st):=by
 simp only[mT,hg,hy];rw[tz hp];simp[ho,show p+1≤cs.length by omega]
theorem Hp.QH {f:Nat→di}:(h.push f).next=h.next+1:=rfl
theorem Hp.cu {f:Nat→di}:(h.push f).get h.next=some (f (h.df+1)):=by rw[Hp.dh,if_pos rfl]
theorem Hp.lU {t:Nat}{f:Nat→di}:(h.put t f).get t=some (f (h.df+1)):=by rw[Hp.iY,if_pos rfl]
theorem Hp.du {t:Nat}{f:Nat→di}(ht:t≠h.next):(h.push f).get t=h.get t:=by rw[Hp.dh,if_neg ht]
theorem Hp.fq {t u:Nat}{f:Nat→di}(ht:t≠u):(h.put u f).get t=h.get t:=by rw[Hp.iY,if_neg ht]
theorem Ov {q:mW}:dM .add q (.int k m) (.int k n)=some (.int k (k.wrap (m+n))):=by simp[dM,nr,kD,fK,DW,gW]
theorem Og {q:mW}:dM .sub q (.int k m) (.int k n)=some (.int k (k.wrap (m-n))):=by simp[dM,nr,kD,fK,sL,gW]
theorem Om {q:mW}:dM .mul q (.int k m) (.int k n)=some (.int k (k.wrap (m*n))):=by simp[dM,nr,kD,fK,Dv,gW]
theorem Oi {q:mW}(hn:n≠0):dM .quo q (.int k m) (.int k n)=some (.int k (k.wrap (m.tdiv n))):=by
 have:(n==0)=false:=beq_eq_false_iff_ne.2 hn;simp[dM,nr,kD,fK,Dh,gW,mM,this]
theorem mQ {q:mW}(hn:0≤m∧0<n):dM .quo q (.int k m) (.int k n)=some (.int k (k.wrap (m/n))):=by
 rw[Oi (by omega),Int.tdiv_eq_ediv_of_nonneg hn.1]
theorem Oh {q:mW}(hn:n≠0):dM .rem q (.int k m) (.int k n)=some (.int k (m.tmod n)):=by
 have:(n==0)=false:=beq_eq_false_iff_ne.2 hn;simp[dM,nr,kD,fK,Dd,xA,mM,this]
theorem ot {q:mW}(hn:0≤m∧0<n):dM .rem q (.int k m) (.int k n)=some (.int k (m%n)):=by
 rw[Oh (by omega),Int.tmod_eq_emod_of_nonneg hn.1]
theorem Ou {q:mW}:dM .eql q (.int k m) (.int k n)=some (.bool (decide (m=n))):=by
 simp only[dM,nr,kD,fK,mM,decide_true];by_cases hc:m=n<;>simp[hc]
theorem Ol {q:mW}:dM .neq q (.int k m) (.int k n)=some (.bool (decide (¬m=n))):=by
 simp only[dM,nr,kD,fK,mM,decide_true];by_cases hc:m=n<;>simp[hc]
theorem On {q:mW}:dM .lss q (.int k m) (.int k n)=some (.bool (decide (m<n))):=by simp[dM,nr,kD,fK,nP]
theorem Oo {q:mW}:dM .leq q (.int k m) (.int k n)=some (.bool (decide (m≤n))):=by simp[dM,nr,kD,fK,xC]
theorem Oq {q:mW}:dM .gtr q (.int k m) (.int k n)=some (.bool (decide (n<m))):=by simp[dM,nr,kD,fK,nP]
theorem Ot {q:mW}:dM .geq q (.int k m) (.int k n)=some (.bool (decide (n≤m))):=by simp[dM,nr,kD,fK,xC]
theorem Jq {q:mW}{l l':List UInt8}(hl:(l.length:Int)+l'.length≤9223372036854775807):dM .add q (.str l) (.str l')=some (.str (l++l')):=by
 have hm:IntKind.i64.max=9223372036854775807:=rfl;simp only[dM,Ei];rw[if_neg (by rw[hm];omega)]
theorem Jp {q:mW}{l l':List UInt8}:dM .eql q (.str l) (.str l')=some (.bool (decide (l=l'))):=by
 simp only[dM,Ei];congr 2;rw[mZ];simp
theorem Jo {q:mW}{l l':List UInt8}:dM .neq q (.str l) (.str l')=some (.bool (decide (¬l=l'))):=by
 simp only[dM,Ei];congr 2;rw[mZ];simp
theorem Js:dM .eql .iface .jQ .jQ=some (.bool true):=rfl
theorem Ni {b:Bool}:OG .not (.bool b)=some (.bool (!b)):=rfl
theorem Nj:OG .neg (.int k n)=some (.int k (k.wrap (-n))):=by simp[OG,sL,gW]
theorem wrap_i64 (hn: -9223372036854775808≤n∧n≤9223372036854775807):IntKind.wrap .i64 n=n:=IntWalk.i64_in n hn
theorem wrap_u64 (hn:0≤n∧n≤18446744073709551615):IntKind.wrap .u64 n=n:=IntWalk.u64_in n hn
theorem wrap_u8 (hn:0≤n∧n≤255):IntKind.wrap .u8 n=n:=IntWalk.u8_in n hn
theorem wrap_i32 (hn: -2147483648≤n∧n≤2147483647):IntKind.wrap .i32 n=n:=IntWalk.i32_in n hn
theorem Vp {xs:List bC}:cm E (.mx xs) s K↔eW (yY xs (val s.tm) s.hp) K:=cm.bV rfl
theorem Vs {xs:List bC}:cm E (.mn xs) s K↔eW (yZ xs (val s.tm) s.hp) K:=cm.bV rfl
theorem M4 {z u:bC}:cm E (.mx [z,u]) s K↔fu (uc (val s.tm z) (val s.tm u)) s.hp K:=by
 rw[Vp];simp only[yY,fR,List.map_nil,qK];cases uc (val s.tm z) (val s.tm u)<;>exact aA
theorem M5 {z u:bC}:cm E (.mn [z,u]) s K↔fu (tZ (val s.tm z) (val s.tm u)) s.hp K:=by
 rw[Vs];simp only[yZ,fR,List.map_nil,qK];cases tZ (val s.tm z) (val s.tm u)<;>exact aA
theorem vY:uc (.int k m) (.int k n)=some (.int k (max m n)):=by
 simp only[uc,nP];by_cases hc:m<n
 ·simp[hc,show max m n=n by omega]
 ·simp[hc,show max m n=m by omega]
theorem vW:tZ (.int k m) (.int k n)=some (.int k (min m n)):=by
 simp only[tZ,nP];by_cases hc:n<m
 ·simp[hc,show min m n=n by omega]
 ·simp[hc,show min m n=m by omega]
theorem ae.cX {f:Nat}{args:List AV}(hc:ae E f args h fun v' xE=>v'=v∧xE=h'):ae E f args h K↔K v h':=by
 obtain⟨v',xE,hc,rfl,rfl⟩:=hc;exact ae.det hc
theorem wG:(AV.int k n).cells=[.int k n]:=rfl
theorem uM {b:Bool}:(AV.bool b).cells=[.bool b]:=rfl
theorem wE {l:List UInt8}:(AV.str l).cells=[.str l]:=rfl
theorem wF {t p:Nat}:(AV.ptr t p).cells=[.ptr t p]:=rfl
theorem Aj {t p l z:Nat}:(AV.sl t p l z).cells=[.sl t p l z]:=rfl
theorem uL:AV.av.cells=[.av]:=rfl
theorem Ak {f:Nat}{l:List AV}:(AV.fn f l).cells=[.fn f l]:=rfl
theorem wH {l:List AV}:(AV.agg l).cells=l:=rfl
theorem qy:(AV.int k n).one=true:=rfl
theorem yT {b:Bool}:(AV.bool b).one=true:=rfl
theorem Dl {l:List UInt8}:(AV.str l).one=true:=rfl
theorem Dm {t p:Nat}:(AV.ptr t p).one=true:=rfl
theorem Hv {t p l z:Nat}:(AV.sl t p l z).one=true:=rfl
theorem qx:AV.av.one=true:=rfl
theorem Hz {f:Nat}{l:List AV}:(AV.fn f l).one=true:=rfl
end
def ij.pure:ij→Bool
 | .mv _| .pick .. | .build .. | .zc _| .bin .. | .un .. | .sW .. | .QW _| .FD .. | .Pk .. | .rW .. | .jy .. | .yl .. | .gR .. | .wj .. | .idxs .. | .ext .. | .len .. | .mx _| .mn _| .sl _ _ none _=>true
 |_=>false
theorem yP {a:ij}(ha:a.pure=true){ρ:bC→AV}{h h':Hp}{v:AV}(hr:mS a ρ h=some (v,h')):h'=h∧∀g,mS a ρ g=some (v,g):=by
 cases a
 case sl sz x lo hi=>
  cases lo with
  |some _=>simp[ij.pure]at ha
  | none=>
   simp only[mS]at hr⊢;unfold HA El at hr⊢;simp only[bound,Option.map_none]at hr⊢;repeat' split at hr
   all_goals first
    |(cases hr;done)
    |(obtain⟨rfl,rfl⟩:=aj hr;refine⟨rfl,fun g=>?_⟩;simp_all;done)
    |(rename_i h1 h2;simp_all;done)
    |(simp_all;done)
 all_goals(simp only[ij.pure,cB]at ha;try simp only[mS]at hr⊢)
 all_goals
  first
  |unfold HB at hr⊢|unfold pA at hr⊢|unfold kT at hr⊢|unfold oM at hr⊢|unfold tV at hr⊢
  |unfold Bx at hr⊢|unfold tT at hr⊢|unfold tS at hr⊢|unfold za at hr⊢|unfold zb at hr⊢|unfold tN at hr⊢|unfold pF at hr⊢|unfold tQ at hr⊢|unfold pE at hr⊢
  |unfold mF at hr⊢|unfold pD at hr⊢|unfold tR at hr⊢|unfold tP at hr⊢|unfold yY at hr⊢|unfold yZ at hr⊢
  repeat' split at hr
  all_goals first
   |(cases hr;done)
   |(obtain⟨rfl,rfl⟩:=aj hr;refine⟨rfl,fun g=>?_⟩;simp_all;done)
def aF.cls (x:aF):Nat:=
 match x.op with
 | .alloc _=>1
 | .load .. =>match x.lQ with
  |some _=>0
  |none=>2
 | o=>match o.pure with
  |true=>0
  |false=>2
theorem zh {agg:Bool}{n:Nat}{x:bC}{s:St}{h':Hp}{v:AV}{t:Nat}(hr:mS (.load agg n x) (val s.tm) s.hp=some (v,h'))(ht:reads s (.load agg n x)=some t):
    h'=s.hp∧∀g,g.get t=s.hp.get t→mS (.load agg n x) (val s.tm) g=some (v,g):=by
  simp only[mS]at hr⊢;simp only[reads]at ht;unfold pC at hr⊢;repeat' split at hr
  all_goals first
    |(cases hr;done)
    | (obtain⟨rfl,rfl⟩:=aj hr
       refine⟨rfl,fun g hg=>?_⟩;rename_i hv _ _ _ _ _ _ _ _ _;simp_all;done)
    | (obtain⟨rfl,rfl⟩:=aj hr
       refine⟨rfl,fun g hg=>?_⟩;simp_all;done)
structure Tr (E:Env)(N i:Nat)(xs:List aF)(c0:Nat)(ss:Nat→St)(vs:Nat→AV):Prop where
 step:∀j x,xs[j]?=some x→
  (wanted (ss (i+j)).tm x.qf=true∧(∃m,m<N∧nd x.op E (exec E m) (ss (i+j))=some (vs (i+j),(ss (i+j+1)).hp))∧(ss (i+j+1)).tm=put (ss (i+j)).tm x.dst (vs (i+j))∧
   (∀u,x.lQ=some u→∃t,reads (ss (i+j)) x.op=some t∧(i+j≤u→u<i+xs.length→old (ss (u+1)).hp c0 t=true)))∨
  (wanted (ss (i+j)).tm x.qf=false∧vs (i+j)=jO∧(ss (i+j+1)).hp=(ss (i+j)).hp∧(ss (i+j+1)).tm=put (ss (i+j)).tm x.dst jO)
theorem Aw {h:Hp}{c0 i:Nat}{acc:List (Nat×Nat)}(ha:acc.all (fresh h c0 i)=true){t:Nat}(ht:(t,i)∈acc):old h c0 t=true:=by
 have:=cL.1 ha _ ht;simpa[fresh]using this
theorem pO {E:Env}:∀(m:Nat) (xs:List aF) (i c0:Nat) (acc:List (Nat×Nat)) (s:St) (e:Ex) (s':St),exec E m (.kH xs i c0 acc) s=some (e,s')→
  e= .fW∧∃ss vs,ss i=s∧ss (i+xs.length)=s'∧Tr E m i xs c0 ss vs∧∀t u,(t,u)∈acc→i≤u→u<i+xs.length→old (ss (u+1)).hp c0 t=true
 |0,_,_,_,_,_,_,_,hr=>by cases hr
 | m+1,[],i,c0,acc,s,e,s',hr=>by
  rw[aN]at hr;obtain⟨rfl,rfl⟩:=aj (show some (Ex.fW,s)=some (e,s') from hr);exact⟨rfl,fun _=>s,fun _=>jO,rfl,rfl,⟨by simp⟩,fun t u _ h1 h2=>by simp at h2;omega⟩
 | m + 1, x :: xs,i,c0,acc,s,e,s',hr=>by
  rw[aN]at hr;have hr:jk x xs i c0 acc E (exec E m) s=some (e,s'):=hr;unfold jk at hr;split at hr
  ·rename_i hw;split at hr
   ·rename_i v h hop;split at hr
    ·rename_i acc' sc;split at hr
     ·rename_i ko;obtain⟨he,ss,vs,h1,h2,h3,h4⟩:=pO m xs (i+1) c0 acc' _ e s' hr
      have W4:∀y∈acc,y∈acc':=by
       unfold nM at sc;split at sc
       ·obtain rfl:=aa sc;exact fun y hy=>hy
       ·split at sc
        ·obtain rfl:=aa sc;exact fun y hy=> .tail _ hy
        ·cases sc
      have hold:∀t u,(t,u)∈acc'→i≤u→u<i+(x::xs).length→old (if u+1≤i then s else ss (u+1)).hp c0 t=true:=by
       intro t u hm hiu H0;rw[if_neg (by omega)];by_cases hu:u=i
       ·subst hu;rw[h1];exact Aw ko hm
       ·exact h4 t u hm (by omega) (by simp only[aq]at H0;omega)
      refine⟨he,fun k=>if k≤i then s else ss k,fun k=>if k=i then v else vs k,by simp,?_,⟨?_⟩,?_⟩
      ·simp only[aq];rw[if_neg (by omega),←h2];congr 1;omega
      ·intro j y hy;cases j with
       | zero=>
        simp only[eN,bY]at hy;subst hy;simp only[aT,ac,if_true,show ¬i+1≤i by omega,if_false,h1];refine .inl ⟨hw,⟨m,by omega,hop⟩,trivial,fun u hu=>?_⟩;unfold nM at sc;rw[hu]at sc;simp only at sc;split at sc
        ·rename_i t ht;obtain rfl:=aa sc;exact⟨t,ht,fun a b=>hold t u (.head _) a b⟩
        ·cases sc
       | succ j=>
        simp only[dD]at hy;have:=h3.step j y hy;have e1:i+(j+1)=i+1+j:=by omega
        rw[e1,if_neg (by omega),if_neg (by omega),if_neg (by omega)];rcases this with⟨a1,⟨m',a2,a2'⟩,a3,a4⟩|a
        ·refine .inl ⟨a1,⟨m',by omega,a2'⟩,a3,fun u hu=>?_⟩;obtain⟨t,b1,b2⟩:=a4 u hu;refine⟨t,b1,fun c d=>?_⟩;rw[if_neg (by omega)];exact b2 c (by simp only[aq]at d;omega)
        ·exact .inr a
      ·intro t u hm a b;exact hold t u (W4 _ hm) a b
     ·cases hr
    ·cases hr
   ·cases hr
  ·rename_i hw;split at hr
   ·rename_i ko;obtain⟨he,ss,vs,h1,h2,h3,h4⟩:=pO m xs (i+1) c0 acc _ e s' hr
    have hold:∀t u,(t,u)∈acc→i≤u→u<i+(x::xs).length→old (if u+1≤i then s else ss (u+1)).hp c0 t=true:=by
     intro t u hm hiu H0;rw[if_neg (by omega)];by_cases hu:u=i
     ·subst hu;rw[h1];exact Aw ko hm
     ·exact h4 t u hm (by omega) (by simp only[aq]at H0;omega)
    refine⟨he,fun k=>if k≤i then s else ss k,fun k=>if k=i then jO else vs k,by simp,?_,⟨?_⟩,hold⟩
    ·simp only[aq];rw[if_neg (by omega),←h2];congr 1;omega
    ·intro j y hy;cases j with
     | zero=>
      simp only[eN,bY]at hy;subst hy;simp only[aT,ac,if_true,show ¬i+1≤i by omega,if_false,h1];exact .inr ⟨hw,trivial,trivial,trivial⟩
     | succ j=>
      simp only[dD]at hy;have:=h3.step j y hy;have e1:i+(j+1)=i+1+j:=by omega
      rw[e1,if_neg (by omega),if_neg (by omega),if_neg (by omega)];rcases this with⟨a1,⟨m',a2,a2'⟩,a3,a4⟩|a
      ·refine .inl ⟨a1,⟨m',by omega,a2'⟩,a3,fun u hu=>?_⟩;obtain⟨t,b1,b2⟩:=a4 u hu;refine⟨t,b1,fun c d=>?_⟩;rw[if_neg (by omega)];exact b2 c (by simp only[aq]at d;omega)
      ·exact .inr a
   ·cases hr
structure Stat (P:Program)(nt:Nat)(ops:Array Oper)(asx:List aF)(anc:Nat→Nat→Prop)(names:Nat→List Nat):Prop where
 size:asx.length=ops.size
 TH:∀(k:Nat) (o:Oper) (x:aF),ops[k]?=some o→asx[k]?=some x→Ox P nt ops o x
 back:∀(k:Nat) (o:Oper),ops[k]?=some o→∀e∈o.after,Region.binds .any e=true→e.on<k
 xV:∀(S:Nat→Prop),(∀j,S j→∀i,anc j i→S i)→∀(k:Nat) (o:Oper),ops[k]?=some o→(∀e∈o.after,Region.binds .any e=true→S e.on)→∀i,anc k i→S i
 chain:∀(j k:Nat) (x y:aF),j<k→asx[j]?=some x→asx[k]?=some y→x.cls=2→y.cls=2→anc k j
 Jv:∀(j k:Nat) (x y:aF),j<k→asx[j]?=some x→asx[k]?=some y→x.cls=1→y.cls≠1→anc k j
 Qx:∀(j i k:Nat) (x z y:aF),j<i→i<k→asx[j]?=some x→asx[i]?=some z→asx[k]?=some y→x.cls=2→z.cls=1→y.cls=0→anc k j
 slot:∀(j k:Nat) (x y:aF),j<k→asx[j]?=some x→asx[k]?=some y→¬anc k j→(∀d,x.dst=some d→d∉names k)∧(∀d,y.dst=some d→d∉names j)
 uniq:∀(j k:Nat) (x y:aF) (d:Nat),asx[j]?=some x→asx[k]?=some y→x.dst=some d→y.dst=some d→j=k
 nms:∀(k:Nat) (o:Oper) (x:aF),ops[k]?=some o→asx[k]?=some x→(∀t,.tmp t∈o.op.operands→t∈names k)∧(∀t,.t t∈x.op.Bw→t∈names k)∧(∀d b,x.qf=some (d,b)→d∈names k)
 Ue:∀(k:Nat) (x:aF),asx[k]?=some x→x.cls=1→x.qf=none∧names k=[]
 lQ:∀(k:Nat) (x:aF) (u:Nat),asx[k]?=some x→x.cls=0→x.lQ=some u→k≤u∧u<asx.length∧∀(j:Nat) (y:aF),asx[j]?=some y→k<j→y.cls=2→¬anc j k→j≤u
theorem wD {P:Program}{o:Oper}{a:ij}(h:iF P o=some a):∀cs b,o.op≠ .select cs b:=by
 intro cs b e;unfold iF at h;rw[e]at h;simp at h
theorem Ce (x:aF):x.cls=0∨x.cls=1∨x.cls=2:=by
 unfold aF.cls;repeat' split
 all_goals simp
theorem sX {x:aF}(h:x.cls=1):∃z,x.op= .alloc z:=by
 unfold aF.cls at h;repeat' split at h
 all_goals first|exact⟨_,by assumption⟩|cases h
theorem Af {x:aF}(h:x.cls=0):x.op.calls=false∧(x.op.pure=true∨∃a n y u,x.op= .load a n y∧x.lQ=some u):=by
 obtain⟨dst,op,qf,lQ⟩:=x;cases op
 case load a n y=>
  cases lQ with
  |none=>simp[aF.cls]at h
  |some u=>exact⟨rfl,.inr ⟨a,n,y,u,rfl,rfl⟩⟩
 case sl sz y lo hi=>
  cases lo with
  |none=>exact⟨rfl,.inl rfl⟩
  |some l=>simp[aF.cls,ij.pure]at h
 all_goals first
  |exact⟨rfl,.inl rfl⟩
  |(simp[aF.cls,ij.pure]at h;done)
def NA (P:Program)(o:Option ij):Prop:=∀z,o=some (.alloc z)→∃e,kJ P e=some z
theorem kW {P:Program}{α:Type}{x:Option α}{f:α→Option ij}(h:∀y,x=some y→NA P (f y)):NA P (x.bind f):=fun a e=>by
 obtain⟨y,hx,hy⟩:=bind_some e;exact h y hx a hy
theorem kU {P:Program}{a:ij}(h:∀z,a≠ .alloc z):NA P (some a):=fun z e=>absurd (aa e) (h z)
theorem kV {P:Program}:NA P none:=nofun
theorem Sf {P:Program}{o:Oper}:NA P (iF P o):=by
 obtain⟨dst,op,ty,pos,af,gd⟩:=o;cases op
 case alloc e=>
  intro z hz;simp only[iF]at hz;obtain⟨y,hy,hz⟩:=bind_some hz;simp only[bY,ij.alloc.injEq]at hz;subst hz;exact⟨e,hy⟩
 case call c=>
  obtain⟨callee,args,ats⟩:=c;cases callee
  case value f=>cases f<;>simp only[iF]<;>repeat'(first|exact kV|exact kU (fun _=>nofun)|(apply kW;intro _ _)|split)
  case invoke x n=>simp only[iF]<;>repeat'(first|exact kV|exact kU (fun _=>nofun)|(apply kW;intro _ _)|split)
  case builtin b=>cases b<;>simp only[iF]<;>repeat'(first|exact kV|exact kU (fun _=>nofun)|(apply kW;intro _ _)|split)
 case makeFunc f first cs=>cases f<;>simp only[iF]<;>repeat'(first|exact kV|exact kU (fun _=>nofun)|(apply kW;intro _ _)|split)
 case makeMap t r=>cases r<;>simp only[iF]<;>repeat'(first|exact kV|exact kU (fun _=>nofun)|(apply kW;intro _ _)|split)
 case slice t x lo hi m=>cases m<;>simp only[iF]<;>repeat'(first|exact kV|exact kU (fun _=>nofun)|(apply kW;intro _ _)|split)
 case next x b=>cases b<;>simp only[iF]<;>repeat'(first|exact kV|exact kU (fun _=>nofun)|(apply kW;intro _ _)|split)
 all_goals simp only[iF]<;>repeat'(first|exact kV|exact kU (fun _=>nofun)|(apply kW;intro _ _)|split)
theorem xW {P:Program}{o:Oper}{z:List AV}(h:iF P o=some (.alloc z)):∃vs:List Value,∀(ρ:dF) (N:Nat),encs ρ z=vs∧gV ρ N z∧∀v∈z,v.one=true:=by
 obtain⟨e,he⟩:=Sf z h;obtain⟨i,zv,h1,h2,h3⟩:=mw he;exact⟨_,fun ρ N=>jd h3 ρ N⟩
section
variable {P:Program}{base nt N:Nat}{E:Env}{ops:Array Oper}{asx:List aF}{anc:Nat→Nat→Prop}{names:Nat→List Nat}{ss:Nat→St}{vs:Nat→AV}{ρ0 ρ ρ':dF}{a0 a:Act}{w0 w w':World}
variable {c0:Nat}
theorem Tr.at (T:Tr E N 0 asx c0 ss vs){k:Nat}{x:aF}(hx:asx[k]?=some x):
  (wanted (ss k).tm x.qf=true∧(∃m,m<N∧nd x.op E (exec E m) (ss k)=some (vs k,(ss (k+1)).hp))∧(ss (k+1)).tm=put (ss k).tm x.dst (vs k)∧
   (∀u,x.lQ=some u→∃t,reads (ss k) x.op=some t∧(k≤u→u<asx.length→old (ss (u+1)).hp c0 t=true)))∨
  (wanted (ss k).tm x.qf=false∧vs k=jO∧(ss (k+1)).hp=(ss k).hp∧(ss (k+1)).tm=put (ss k).tm x.dst (vs k)):=by
 have:=T.step k x hx;simp only[dN]at this;rcases this with h|⟨h1,h2,h3,h4⟩
 ·exact .inl h
 ·exact .inr ⟨h1,h2,h3,by rw[h2];exact h4⟩
theorem Tr.tm (T:Tr E N 0 asx c0 ss vs){k:Nat}{x:aF}(hx:asx[k]?=some x):(ss (k+1)).tm=put (ss k).tm x.dst (vs k):=by
 rcases T.at hx with h|h
 ·exact h.2.2.1
 ·exact h.2.2.2
theorem rG {k:Nat}(h:k<asx.length):∃x,asx[k]?=some x:=⟨asx[k],aC h⟩
theorem Tr.later (PL:gD E)(T:Tr E N 0 asx c0 ss vs)(j:Nat):∀d,j+d≤asx.length→bJ (ss j).hp (ss (j+d)).hp
 |0,_=>bJ.refl _
 | d+1,h=>by
  refine(T.later PL j d (by omega)).trans ?_;obtain⟨x,hx⟩:=rG (asx:=asx) (k:=j+d) (by omega);rcases T.at hx with⟨_,⟨m,_,ho⟩,_⟩|⟨_,_,he,_⟩
  ·exact rr PL (uy PL m) ho
  ·rw[←dm,he];exact bJ.refl _
theorem Tr.BB (PL:gD E)(T:Tr E N 0 asx c0 ss vs){j k:Nat}(h:j≤k)(hk:k≤asx.length):bJ (ss j).hp (ss k).hp:=by
 have:=T.later PL j (k-j) (by omega);rwa[show j+(k-j)=k by omega]at this
theorem Tr.same (T:Tr E N 0 asx c0 ss vs){d:Nat}{j:Nat}:∀k,j≤k→k≤asx.length→(∀i x,j≤i→i<k→asx[i]?=some x→x.dst≠some d)→val (ss k).tm (.t d)=val (ss j).tm (.t d)
 |0,h,_,_=>by rw[show j=0 by omega]
 | k +1,h,hk,hn=>by
  by_cases e:j=k+1
  ·rw[e]
  ·obtain⟨x,hx⟩:=rG (asx:=asx) (k:=k) (by omega);rw[T.tm hx,xe,if_neg (hn k x (by omega) (by omega) hx)];exact T.same k (by omega) (by omega) (fun i x h1 h2=>hn i x h1 (by omega))
theorem Tr.wrote (ST:Stat P nt ops asx anc names)(T:Tr E N 0 asx c0 ss vs){d j k:Nat}{x:aF}(hx:asx[j]?=some x)(hd:x.dst=some d)(h:j<k)(hk:k≤asx.length):val (ss k).tm (.t d)=vs j:=by
 rw[T.same (j:=j+1) k (by omega) hk (fun i y h1 h2 hy e=>by have:=ST.uniq i j y x d hy hx e hd;omega),T.tm hx,xe,if_pos hd]
theorem Tr.still (T:Tr E N 0 asx c0 ss vs){k:Nat}{x:aF}(hx:asx[k]?=some x)(hc:x.cls=0):(ss (k+1)).hp=(ss k).hp:=by
 rcases T.at hx with⟨_,⟨m,_,ho⟩,_,hs⟩|⟨_,_,he,_⟩
 ·obtain⟨h1,h2⟩:=Af hc;have:nd x.op E (exec E m) (ss k)=mS x.op (val (ss k).tm) (ss k).hp:=by cases hh:x.op<;>rw[hh]at h1<;>first|(simp[ij.calls]at h1;done)|rfl
  rw[this]at ho;rcases h2 with h2|⟨ag,n,y,u,h3,h4⟩
  ·exact(yP h2 ho).1
  ·obtain⟨t,ht,_⟩:=hs u h4;rw[h3]at ho ht;exact(zh ho ht).1
 ·exact he
theorem Tr.born (T:Tr E N 0 asx c0 ss vs){k:Nat}{x:aF}{z:List AV}(hx:asx[k]?=some x)(hz:x.op= .alloc z):(wanted (ss k).tm x.qf=true∧vs k= .ptr (ss k).hp.next 0∧(ss (k+1)).hp=(ss k).hp.push fun s=> .row z true s)∨(wanted (ss k).tm x.qf=false∧vs k=jO∧(ss (k+1)).hp=(ss k).hp):=by
 rcases T.at hx with⟨h1,⟨m,_,ho⟩,_⟩|⟨h1,h2,he,_⟩
 ·rw[hz]at ho;have ho:qA z (val (ss k).tm) (ss k).hp=some (vs k,(ss (k+1)).hp):=ho;unfold qA at ho;obtain⟨e1,e2⟩:=aj ho;exact .inl ⟨h1,e1.symm,e2.symm⟩
 ·exact .inr ⟨h1,h2,he⟩
end
section
variable {P:Program}{base nt N:Nat}{E:Env}{ops:Array Oper}{asx:List aF}{anc:Nat→Nat→Prop}{names:Nat→List Nat}{ss:Nat→St}{vs:Nat→AV}{ρ0 ρ ρ':dF}{a0 a:Act}{W0 w0 w w':World}{h:Hp}
variable {c0:Nat}
theorem bz.pop {o:Nat→di}(R':bz base ρ' (h.push o) w')(R:bz base ρ h w)(ha:cW h.next ρ ρ'):bz base ρ h w':=by
 have g:∀t ob,h.get t=some ob→(h.push o).get t=some ob∧ρ' t=ρ t:=fun t ob ht=>by
  have:=R.lt t ob ht;exact⟨by rw[Hp.dh,if_neg (by omega)];exact ht,ha t this⟩
 refine⟨R'.size,R.lt,?_,?_,?_,?_⟩
 ·intro t cs own st ht;obtain⟨h1,h2⟩:=g t _ ht;have r:=R.row t cs own st ht;have r':=R'.row t cs own st h1;refine⟨r.one,r.ok,?_,?_,?_⟩
  ·have:=r'.cells;rw[h2,fN ha _ r.ok]at this;exact this
  ·have:=r'.sA;rw[h2]at this;exact this
  ·have:=r'.xv;rw[h2]at this;exact this
 ·intro t s p st ht;obtain⟨h1,h2⟩:=g t _ ht;have:=R'.iter t s p st h1;rwa[h2]at this
 ·intro t es st ht;obtain⟨h1,h2⟩:=g t _ ht;obtain⟨q1,q2,q3⟩:=R.map t es st ht;obtain⟨r1,r2,ms,c,r3,r4⟩:=R'.map t es st h1;rw[h2]at r1 r3;exact⟨r1,q2,ms,c,r3,r4.trans (cE fun e he=>by rw[dE ha _ (q2 e he).2.1,dE ha _ (q2 e he).2.2])⟩
 ·intro t t' ob yV ht kE p p' hne;obtain⟨h1,h2⟩:=g t _ ht;obtain⟨h3,h4⟩:=g t' _ kE;have:=R'.apart t t' ob yV h1 h3 p p' hne;rwa[h2,h4]at this
theorem bz.Uf (R:bz base ρ h w)(cs:List AV)(b o:Nat)(h1:∀v∈cs,v.one=true)(h2:gV ρ h.next cs)(hb:base≤b∧b<w.heap.size)(hc:w.rangeAt b o (encs ρ cs))(PB:w.there b o cs.length)
  (hne:∀t ob,h.get t=some ob→ob.owned=true→(ρ t).b≠b):bz base (sJ ρ h.next ⟨b,o,0,0⟩) (h.push fun s=> .row cs true s) w:=by
 have ha:cW h.next ρ (sJ ρ h.next ⟨b,o,0,0⟩):=iG _ _ _;have hold:∀t ob,h.get t=some ob→t<h.next∧sJ ρ h.next ⟨b,o,0,0⟩ t=ρ t:=fun t ob ht=>⟨R.lt t ob ht,ha t (R.lt t ob ht)⟩
 refine⟨R.size,?_,?_,?_,?_,?_⟩
 ·intro t ob ht;rw[Hp.dh]at ht;show t<h.next+1
  split at ht
  ·omega
  ·have:=R.lt t ob ht;omega
 ·intro t vD own st ht;rw[Hp.dh]at ht;split at ht
  ·rename_i e;subst e;obtain⟨rfl,rfl,rfl⟩:vD=cs∧own=true∧st=h.df+1:=by simpa[eq_comm]using ht
   refine⟨h1,iI ha (eK _) _ h2,?_,?_,by simp⟩
   ·rw[ct,fN ha _ h2];exact hc
   ·intro _;rw[ct];exact⟨hb.1,hb.2,PB,fun j hj=>by simp at hj⟩
  ·have r:=R.row t vD own st ht
   exact r.later ha (eK _) (R.lt _ _ ht) (ac _) (by cases own with
    |true=>exact .inr rfl
    |false=>exact .inr rfl)
 ·intro t s p st ht;rw[Hp.dh]at ht;split at ht
  ·cases ht
  ·rw[(hold t _ ht).2];exact R.iter t s p st ht
 ·intro t es st ht;rw[Hp.dh]at ht;split at ht
  ·cases ht
  ·obtain⟨r1,r2,ms,c,r3,r4⟩:=R.map t es st ht;rw[(hold t _ ht).2]
   exact⟨r1,fun e he=>⟨(r2 e he).1,fL ha (eK _) _ (r2 e he).2.1,fL ha (eK _) _ (r2 e he).2.2⟩,ms,c,r3,
    r4.trans (cE fun e he=>by rw[dE ha _ (r2 e he).2.1,dE ha _ (r2 e he).2.2])⟩
 ·intro t t' ob yV ht kE p p' PG;rw[Hp.dh]at ht kE;split at ht<;>split at kE
  ·omega
  ·rename_i e _;subst e;rw[ct,(hold t' _ kE).2];exact fun e=>hne t' yV kE p' e.symm
  ·rename_i _ e;subst e;rw[ct,(hold t _ ht).2];exact hne t ob ht p
  ·rw[(hold t _ ht).2,(hold t' _ kE).2];exact R.apart t t' ob yV ht kE p p' PG
structure Ux (base:Nat)(asx:List aF)(ss:Nat→St)(w0:World)(f:Nat)(ρ:dF)(a:Act)(w:World)(pl:Nat→Nat×Nat)(k:Nat)(x:aF)(z:List AV):Prop where
 slot:∀d,x.dst=some d→a.tmps.getD d undef= .pointer (some ⟨(pl k).1,(pl k).2,none⟩)
 cells:w.rangeAt (pl k).1 (pl k).2 (encs ρ z)
 there:w.there (pl k).1 (pl k).2 z.length
 lo:w0.heap.size≤(pl k).1
 lt:(pl k).1<w.heap.size
 apart:∀t ob,(ss f).hp.get t=some ob→ob.owned=true→(ρ t).b≠(pl k).1
structure jF (P:Program)(base nt:Nat)(ops:Array Oper)(asx:List aF)(anc:Nat→Nat→Prop)(ss:Nat→St)(vs:Nat→AV)(ρ0:dF)(a0:Act)(w0:World)(S:Nat→Prop)(f:Nat)(ρ:dF)(a:Act)(w:World)(pl:Nat→Nat×Nat):Prop where
 Th:f≤asx.length
 xV:∀j,S j→∀i,anc j i→S i
 chain:∀(k:Nat) (x:aF),asx[k]?=some x→x.cls=2→(S k↔k<f)
 alloc:∀(k:Nat) (x:aF),asx[k]?=some x→x.cls=1→k<f→S k
 ext:Ext base ρ0 (ss 0).hp w0 ρ (ss f).hp w
 defers:a.defers=[]
 size:nt≤a.tmps.size
 done:∀(k:Nat) (x:aF),asx[k]?=some x→S k→(x.cls≠1∨k<f)→ok ρ (ss f).hp.next (vs k)∧∀d,x.dst=some d→a.tmps.getD d undef=enc ρ (vs k)
 early:∀(k:Nat) (x:aF) (z:List AV),asx[k]?=some x→S k→x.op= .alloc z→f≤k→Ux base asx ss w0 f ρ a w pl k x z
 R9:∀(k k':Nat) (x x':aF),asx[k]?=some x→asx[k']?=some x'→S k→S k'→x.cls=1→x'.cls=1→f≤k→f≤k'→k≠k'→(pl k).1≠(pl k').1
 qY:∀d,(∀(k:Nat) (x:aF),asx[k]?=some x→x.dst=some d→¬S k)→a.tmps.getD d undef=a0.tmps.getD d undef
variable {S:Nat→Prop}{f:Nat}{pl:Nat→Nat×Nat}
theorem jF.advance (ST:Stat P nt ops asx anc names)(T:Tr E N 0 asx c0 ss vs)(CP:∀(k:Nat) (x:aF) (z:List AV),asx[k]?=some x→x.op= .alloc z→∃vs:List Value,∀(ρ:dF) (N:Nat),encs ρ z=vs∧gV ρ N z∧∀v∈z,v.one=true)
  (D:jF P base nt ops asx anc ss vs ρ0 a0 w0 S f ρ a w pl) (HY:base≤w0.heap.size) {x:aF} (hx:asx[f]?=some x) (h2:x.cls≠2) (h1:x.cls=1→S f):
  ∃ρ',jF P base nt ops asx anc ss vs ρ0 a0 w0 S (f+1) ρ' a w pl:=by
 have hlt:f<asx.length:=(bB.1 hx).1
 have Ii:∀(k:Nat) (y:aF),asx[k]?=some y→y.cls=2→(S k↔k<f+1):=fun k y hy hc=>by
  rw[D.chain k y hy hc];constructor
  ·omega
  ·intro hk;rcases aQ k f with c|c
   ·exact c
   ·obtain rfl:k=f:=by omega
    rw[hx]at hy;obtain rfl:=aa hy;exact absurd hc h2
 have Il:∀(k:Nat) (y:aF),asx[k]?=some y→y.cls=1→k<f+1→S k:=fun k y hy hc hk=>by
  rcases aQ k f with c|c
  ·exact D.alloc k y hy hc c
  ·obtain rfl:k=f:=by omega
   rw[hx]at hy;obtain rfl:=aa hy;exact h1 hc
 have stay:(ss (f+1)).hp=(ss f).hp→x.cls=0→∃ρ',jF P base nt ops asx anc ss vs ρ0 a0 w0 S (f+1) ρ' a w pl:=by
  intro he hc0;refine⟨ρ,by omega,D.xV,Ii,Il,by rw[he];exact D.ext,D.defers,D.size,?_,?_,?_,D.qY⟩
  ·intro k y hy hS hk;rw[he];refine D.done k y hy hS ?_;rcases hk with c|c
   ·exact .inl c
   ·rcases aQ k f with c'|c'
    ·exact .inr c'
    ·obtain rfl:k=f:=by omega
     rw[hx]at hy;obtain rfl:=aa hy;exact .inl (by omega)
  ·intro k y z hy hS hz hk;have:=D.early k y z hy hS hz (by omega);exact⟨this.slot,this.cells,this.there,this.lo,this.lt,by rw[he];exact this.apart⟩
  ·intro k k' y y' hy hy' hS FJ hc qe hk hk' hne;exact D.R9 k k' y y' hy hy' hS FJ hc qe (by omega) (by omega) hne
 rcases Ce x with c|c|c
 ·exact stay (T.still hx c) c
 ·obtain⟨z,hz⟩:=sX c;have hwt:wanted (ss f).tm x.qf=true:=by rw[(ST.Ue f x hx c).1];rfl
  rcases T.born hx hz with⟨_,hv,he⟩|⟨hn,_⟩
  ·obtain⟨vz,NJ⟩:=CP f x z hx hz;have ea:=D.early f x z hx (h1 c) hz (ac _);have ha:cW (ss f).hp.next ρ (sJ ρ (ss f).hp.next ⟨(pl f).1,(pl f).2,0,0⟩):=iG _ _ _;have R:=D.ext.rel.Uf z (pl f).1 (pl f).2 (NJ ρ 0).2.2 (NJ ρ _).2.1 ⟨az HY ea.lo,ea.lt⟩ ea.cells ea.there ea.apart;have hnx:(ss (f+1)).hp.next=(ss f).hp.next+1:=by rw[he];rfl
   refine⟨_,by omega,D.xV,Ii,Il,⟨D.ext.agree.trans ha D.ext.next,by rw[hnx];have:=D.ext.next;omega,by rw[he];exact R,D.ext.fb,?_⟩,D.defers,D.size,?_,?_,?_,D.qY⟩
   ·intro t ob ht ho;rw[he,Hp.dh]at ht;split at ht
    ·rename_i e;subst e;rw[ct];exact .inl ea.lo
    ·rw[ha t (D.ext.rel.lt t ob ht)];exact D.ext.fresh t ob ht ho
   ·intro k y hy hS hk;by_cases hkf:k=f
    ·subst hkf;rw[hx]at hy;obtain rfl:=aa hy;rw[hv];refine⟨by simp only[ok];omega,fun d hd=>?_⟩;rw[ea.slot d hd];simp[enc,ct]
    ·obtain⟨d1,d2⟩:=D.done k y hy hS (by rcases hk with c|c;exact .inl c;exact .inr (by omega));exact⟨fL ha (by omega) _ d1,fun d hd=>by rw[dE ha _ d1];exact d2 d hd⟩
   ·intro k y z' hy hS zn hk;have q:=D.early k y z' hy hS zn (by omega);obtain⟨vz',SE⟩:=CP k y z' hy zn;refine⟨q.slot,by rw[(SE _ 0).1,←(SE ρ 0).1];exact q.cells,q.there,q.lo,q.lt,?_⟩;intro t ob ht ho;rw[he,Hp.dh]at ht;split at ht
    ·rename_i e;subst e;rw[ct];have qe:y.cls=1:=by unfold aF.cls;rw[zn]
     exact D.R9 f k x y hx hy (h1 c) hS c qe (ac _) (by omega) (by omega)
    ·rw[ha t (D.ext.rel.lt t ob ht)];exact q.apart t ob ht ho
   ·intro k k' y y' hy hy' hS FJ hc qe hk hk' hne;exact D.R9 k k' y y' hy hy' hS FJ hc qe (by omega) (by omega) hne
  ·rw[hwt]at hn;cases hn
 ·exact absurd c h2
theorem jF.Rh (ST:Stat P nt ops asx anc names)(T:Tr E N 0 asx c0 ss vs)(S0:mU W0 base nt ρ0 (ss 0) a0 w0)(D:jF P base nt ops asx anc ss vs ρ0 a0 w0 S f ρ a w pl){i:Nat}{x:aF}(hx:asx[i]?=some x)(hn:¬S i)
  (ha:∀j,anc i j→S j) (hal:∀(k:Nat) (y:aF),asx[k]?=some y→y.cls=1→k<i→k<f) {d:Nat} (hd:d∈names i):
  a.tmps.getD d undef=enc ρ (val (ss i).tm (.t d))∧ok ρ (ss f).hp.next (val (ss i).tm (.t d)):=by
 have hlt:i<asx.length:=(bB.1 hx).1
 have jO:(∀(k:Nat) (y:aF),asx[k]?=some y→y.dst=some d→¬S k)→(∀(k:Nat) (y:aF),0≤k→k<i→asx[k]?=some y→y.dst≠some d)→a.tmps.getD d undef=enc ρ (val (ss i).tm (.t d))∧ok ρ (ss f).hp.next (val (ss i).tm (.t d)):=by
  intro h1 h2;obtain⟨q1,q2⟩:=S0.tmp d;rw[D.qY d h1,T.same i (aE _) (by omega) h2,q1];exact⟨(dE D.ext.agree _ q2).symm,fL D.ext.agree D.ext.next _ q2⟩
 by_cases hw:∃(k:Nat) (y:aF),asx[k]?=some y∧y.dst=some d
 ·obtain⟨k,y,hy,vf⟩:=hw;rcases iN k i with c|c|c
  ·have PV:anc i k:=Classical.byContradiction fun hna=>(ST.slot k i y x c hy hx hna).1 d vf hd
   have hSk:=ha k PV
   obtain⟨d1,d2⟩:=D.done k y hy hSk (by
    by_cases hc:y.cls=1
    ·exact .inr (hal k y hy hc c)
    ·exact .inl hc)
   rw[T.wrote ST hy vf c (by omega)];exact⟨d2 d vf,d1⟩
  ·subst c;refine jO (fun k' y' hy' nA FJ=>?_) (fun k' y' _ hk' hy' nA=>?_)
   ·have:=ST.uniq k' k y' y d hy' hy nA vf;subst this;exact hn FJ
   ·have:=ST.uniq k' k y' y d hy' hy nA vf;omega
  ·have hSk:¬S k:=fun hS=>by
    have PV:anc k i:=Classical.byContradiction fun hna=>(ST.slot i k x y c hx hy hna).2 d vf hd
    exact hn (D.xV k hS i PV)
   refine jO (fun k' y' hy' nA FJ=>?_) (fun k' y' _ hk' hy' nA=>?_)
   ·have:=ST.uniq k' k y' y d hy' hy nA vf;subst this;exact hSk FJ
   ·have:=ST.uniq k' k y' y d hy' hy nA vf;omega
 ·exact jO (fun k y hy nA=>absurd ⟨k,y,hy,nA⟩ hw) (fun k y _ _ hy nA=>absurd ⟨k,y,hy,nA⟩ hw)
theorem ws (g:Nat→AV):∀(l:List Nat) (t:Ae.T AV) (k:Nat),(l.foldl (fun t d=>t.set d (g d)) t).get k=if k∈l then some (g k)else t.get k
 |[],t,k=>by simp
 | d ::l,t,k=>by
  rw[List.foldl_cons,ws g l,Ae.T.qH];by_cases h:k∈l
  ·simp[h]
  ·by_cases h':k=d
   ·simp[h']
   ·simp[h,h']
noncomputable def slotsOf (names:List Nat)(tm:Ae.T AV):Ae.T AV:=names.foldl (fun t d=>t.set d (val tm (.t d))) .nil
theorem zM {names:List Nat}{tm:Ae.T AV}{n:Nat}(hs:∀d∈names,a.tmps.getD d undef=enc ρ (val tm (.t d))∧ok ρ n (val tm (.t d))):
  ∃(ev:Operand→Value) (fE:Ae.T AV),eG ρ n ev fE∧(∀x,(∀t,x= .tmp t→t∈names)→a.eval x=ev x)∧∀y,(∀t,y= .t t→t∈names)→val tm y=val fE y:=by
 have hv:∀t,val (slotsOf names tm) (.t t)=if t∈names then val tm (.t t)else jO:=by
  intro t;show((slotsOf names tm).get t).getD jO=_
  unfold slotsOf;rw[ws];split<;>rfl
 refine⟨fun x=>match cv x with|some y=>enc ρ (val (slotsOf names tm) y)|none=>a.eval x,slotsOf names tm,?_,?_,?_⟩
 ·intro x y hx;refine⟨by simp only[hx],?_⟩;rcases pS hx with⟨t,rfl,rfl⟩|hh
  ·rw[hv];split
   ·exact(hs t (by assumption)).2
   ·trivial
  ·exact(hh a ρ n _).2.1
 ·intro x hx;show a.eval x=match cv x with|some y=>_|none=>_
  cases hc:cv x with
  |none=>rfl
  | some y=>
   rcases pS hc with⟨t,rfl,rfl⟩|hh
   ·simp only[hv,if_pos (hx t rfl)];exact(hs t (hx t rfl)).1
   ·exact(hh a ρ n _).1
 ·intro y hy;cases y with
  |t t=>rw[hv,if_pos (hy t rfl)]
  |k v=>rfl
theorem jF.exec (ST:Stat P nt ops asx anc names)(CP:∀(k:Nat) (x:aF) (z:List AV),asx[k]?=some x→x.op= .alloc z→∃vs:List Value,∀(ρ:dF) (N:Nat),encs ρ z=vs∧gV ρ N z∧∀v∈z,v.one=true)
  (D:jF P base nt ops asx anc ss vs ρ0 a0 w0 S f ρ a w pl) {i:Nat} {x:aF} (hx:asx[i]?=some x) (hn:¬S i)
  (ha:∀j,anc i j→S j) (hlt:∀d,x.dst=some d→d<nt) {f':Nat} (hf:(x.cls=0∧f'=f)∨(x.cls=2∧f=i∧f'=i+1)) {h':Hp} (hh:(ss f').hp=h') (X:Ext base ρ (ss f).hp w ρ' h' w') (hv:ok ρ' h'.next (vs i)):
  jF P base nt ops asx anc ss vs ρ0 a0 w0 (fun j=>S j∨j=i) f' ρ' (a.put x.dst (enc ρ' (vs i))) w' pl:=by
 subst hh;have hi:i<asx.length:=(bB.1 hx).1;have KY:∀y,asx[i]?=some y→y=x:=fun y hy=>by rw[hx]at hy;exact(aa hy).symm
 have hff:f≤f':=by rcases hf with⟨_,c⟩|⟨_,c,d⟩<;>omega
 have hc1:x.cls≠1:=by rcases hf with⟨c,_⟩|⟨c,_⟩<;>omega
 have ns:∀t,(a.put x.dst (enc ρ' (vs i))).tmps.getD t undef=if x.dst=some t then enc ρ' (vs i)else a.tmps.getD t undef:=fun t=>ur _ _ _ (fun d hd=>ah (hlt d hd) D.size) t
 refine⟨?_,?_,?_,?_,D.ext.trans X,by rw[put_defers];exact D.defers,by rw[tI];exact D.size,?_,?_,?_,?_⟩
 ·rcases hf with⟨_,rfl⟩|⟨_,_,rfl⟩
  ·exact D.Th
  ·omega
 ·intro j hj k hk;rcases hj with hj|rfl
  ·exact .inl (D.xV j hj k hk)
  ·exact .inl (ha k hk)
 ·intro k y hy hc;by_cases pp:k=i
  ·subst pp;obtain rfl:=KY y hy;rcases hf with⟨c,_⟩|⟨_,rfl,rfl⟩
   ·omega
   ·simp
  ·rw[show(S k∨k=i)↔S k by simp[pp],D.chain k y hy hc];rcases hf with⟨_,rfl⟩|⟨_,rfl,rfl⟩
   ·exact aA
   ·omega
 ·intro k y hy hc hk;by_cases pp:k=i
  ·exact .inr pp
  ·refine .inl (D.alloc k y hy hc ?_);rcases hf with⟨_,rfl⟩|⟨_,rfl,rfl⟩<;>omega
 ·intro k y hy hS hk;by_cases pp:k=i
  ·subst pp;obtain rfl:=KY y hy;exact⟨hv,fun d hd=>by rw[ns,if_pos hd]⟩
  ·have hSk:S k:=hS.resolve_right pp
   obtain⟨d1,d2⟩:=D.done k y hy hSk (by
    rcases hk with c|c
    ·exact .inl c
    ·rcases hf with⟨_,rfl⟩|⟨_,rfl,rfl⟩
     ·exact .inr c
     ·exact .inr (by omega))
   refine⟨fL X.agree X.next _ d1,fun d hd=>?_⟩;rw[ns,if_neg (fun e=>pp (ST.uniq k i y x d hy hx hd e)),dE X.agree _ d1];exact d2 d hd
 ·intro k y z hy hS hz hk;have wm:y.cls=1:=by unfold aF.cls;rw[hz]
  have pp:k≠i:=fun e=>by subst e;obtain rfl:=KY y hy;exact hc1 wm
  have q:=D.early k y z hy (hS.resolve_right pp) hz (by omega);obtain⟨vz,NJ⟩:=CP k y z hy hz;have hb:w'.heap[(pl k).1]?=w.heap[(pl k).1]?:=X.fb.block _ q.lt q.apart;refine⟨fun d hd=>?_,?_,mA hb q.there,q.lo,ah q.lt X.fb.size,?_⟩
  ·rw[ns,if_neg (fun e=>pp (ST.uniq k i y x d hy hx hd e))];exact q.slot d hd
  ·rw[(NJ ρ' 0).1,←(NJ ρ 0).1];exact mD hb q.cells
  ·intro t ob ht ho e;rcases X.fresh t ob ht ho with c|⟨t0,o0,c1,c2,c3⟩
   ·rw[e]at c;have:=q.lt;omega
   ·exact q.apart t0 o0 c1 c2 (c3.trans e)
 ·intro k k' y y' hy hy' hS FJ hc qe hk hk' hne;have pp:k≠i:=fun e=>by subst e;obtain rfl:=KY y hy;exact hc1 hc
  have zq:k'≠i:=fun e=>by subst e;obtain rfl:=KY y' hy';exact hc1 qe
  exact D.R9 k k' y y' hy hy' (hS.resolve_right pp) (FJ.resolve_right zq) hc qe (by omega) (by omega) hne
 ·intro d hd;rw[ns,if_neg (fun e=>hd i x hx e (.inr rfl))];exact D.qY d fun k y hy vf hS=>hd k y hy vf (.inl hS)
theorem jF.LS (ST:Stat P nt ops asx anc names)(CP:∀(k:Nat) (x:aF) (z:List AV),asx[k]?=some x→x.op= .alloc z→∃vs:List Value,∀(ρ:dF) (N:Nat),encs ρ z=vs∧gV ρ N z∧∀v∈z,v.one=true)
  (D:jF P base nt ops asx anc ss vs ρ0 a0 w0 S f ρ a w pl) {i:Nat} {x:aF} {z:List AV} (hx:asx[i]?=some x) (hz:x.op= .alloc z) (hn:¬S i)
  (ha:∀j,anc i j→S j) (hlt:∀d,x.dst=some d→d<nt) (X:Ext base ρ (ss f).hp w ρ' ((ss f).hp.push fun s=> .row z true s) w'):
  jF P base nt ops asx anc ss vs ρ0 a0 w0 (fun j=>S j∨j=i) f ρ (a.put x.dst (enc ρ' (.ptr (ss f).hp.next 0))) w' (fun k=>if k=i then((ρ' (ss f).hp.next).b,(ρ' (ss f).hp.next).o)else pl k):=by
 have hi:i<asx.length:=(bB.1 hx).1;have hc:x.cls=1:=by unfold aF.cls;rw[hz]
 have KY:∀y,asx[i]?=some y→y=x:=fun y hy=>by rw[hx]at hy;exact(aa hy).symm
 have ns:∀t,(a.put x.dst (enc ρ' (.ptr (ss f).hp.next 0))).tmps.getD t undef=if x.dst=some t then enc ρ' (.ptr (ss f).hp.next 0)else a.tmps.getD t undef:=fun t=>ur _ _ _ (fun d hd=>ah (hlt d hd) D.size) t
 have hR:bz base ρ (ss f).hp w':=X.rel.pop D.ext.rel X.agree;have XE:((ss f).hp.push fun s=> .row z true s).get (ss f).hp.next=some (.row z true ((ss f).hp.df+1)):=by rw[Hp.dh,if_pos rfl]
 have r:=X.rel.row _ z true _ XE;obtain⟨q1,q2,q3,q4⟩:=r.sA rfl
 have hold:∀t ob,(ss f).hp.get t=some ob→((ss f).hp.push fun s=> .row z true s).get t=some ob∧ρ' t=ρ t∧t≠(ss f).hp.next:=fun t ob ht=>by
  have:=D.ext.rel.lt t ob ht;exact⟨by rw[Hp.dh,if_neg (by omega)];exact ht,X.agree t this,by omega⟩
 have U1:∀t ob,(ss f).hp.get t=some ob→ob.owned=true→(ρ t).b≠(ρ' (ss f).hp.next).b:=fun t ob ht ho=>by
  obtain⟨g1,g2,g3⟩:=hold t ob ht;have:=X.rel.apart t _ ob _ g1 XE ho rfl g3;rwa[g2]at this
 have hnew:w.heap.size≤(ρ' (ss f).hp.next).b:=by
  rcases X.fresh _ _ XE rfl with c|⟨t0,o0,c1,c2,c3⟩
  ·exact c
  ·exact absurd c3 (U1 t0 o0 c1 c2)
 have X':=D.ext.trans X;refine⟨D.Th,?_,?_,?_,⟨D.ext.agree,D.ext.next,hR,X'.fb,D.ext.fresh⟩,by rw[put_defers];exact D.defers,by rw[tI];exact D.size,?_,?_,?_,?_⟩
 ·intro j hj k hk;rcases hj with hj|rfl
  ·exact .inl (D.xV j hj k hk)
  ·exact .inl (ha k hk)
 ·intro k y hy wm;have pp:k≠i:=fun e=>by subst e;obtain rfl:=KY y hy;omega
  rw[show(S k∨k=i)↔S k by simp[pp],D.chain k y hy wm]
 ·intro k y hy wm hk;exact .inl (D.alloc k y hy wm hk)
 ·intro k y hy hS hk
  have pp:k≠i:=fun e=>by
   subst e;obtain rfl:=KY y hy;rcases hk with c|c
   ·exact c hc
   ·exact hn (D.alloc _ _ hy hc c)
  obtain⟨d1,d2⟩:=D.done k y hy (hS.resolve_right pp) hk;exact⟨d1,fun d hd=>by rw[ns,if_neg (fun e=>pp (ST.uniq k i y x d hy hx hd e))];exact d2 d hd⟩
 ·intro k y z' hy hS zn hk;by_cases pp:k=i
  ·subst pp;obtain rfl:=KY y hy;obtain rfl:z=z':=by rw[hz]at zn;exact ij.alloc.inj zn
   obtain⟨vz,NJ⟩:=CP k y z hy hz;refine⟨fun d hd=>by rw[ns,if_pos hd,if_pos rfl];simp[enc],?_,?_,?_,?_,?_⟩<;>rw[if_pos rfl]
   ·rw[(NJ ρ 0).1,←(NJ ρ' 0).1];exact r.cells
   ·exact q3
   ·exact az D.ext.fb.size hnew
   ·exact q2
   ·exact U1
  ·have q:=D.early k y z' hy (hS.resolve_right pp) zn hk;have hb:w'.heap[(pl k).1]?=w.heap[(pl k).1]?:=X.fb.block _ q.lt q.apart;refine⟨fun d hd=>?_,?_,?_,?_,?_,?_⟩<;>rw[if_neg pp]
   ·rw[ns,if_neg (fun e=>pp (ST.uniq k i y x d hy hx hd e))];exact q.slot d hd
   ·exact mD hb q.cells
   ·exact mA hb q.there
   ·exact q.lo
   ·exact ah q.lt X.fb.size
   ·exact q.apart
 ·intro k k' y y' hy hy' hS FJ wm Sz hk hk' hne
  have lt:∀(j:Nat) (u:aF),asx[j]?=some u→u.cls=1→S j→f≤j→(pl j).1<w.heap.size:=fun j u hu huc hj hfj=>by
   obtain⟨zz,WP⟩:=sX huc;exact(D.early j u zz hu hj WP hfj).lt
  by_cases pp:k=i
  ·by_cases zq:k'=i
   ·omega
   ·simp only[if_pos pp,if_neg zq];have:=lt k' y' hy' Sz (FJ.resolve_right zq) hk';omega
  ·by_cases zq:k'=i
   ·simp only[if_neg pp,if_pos zq];have:=lt k y hy wm (hS.resolve_right pp) hk;omega
   ·simp only[if_neg pp,if_neg zq];exact D.R9 k k' y y' hy hy' (hS.resolve_right pp) (FJ.resolve_right zq) wm Sz hk hk' hne
 ·intro d hd;rw[ns,if_neg (fun e=>hd i x hx e (.inr rfl))];exact D.qY d fun k y hy vf hS=>hd k y hy vf (.inl hS)
end
section
variable {P:Program}{base nt N:Nat}{E:Env}{ops:Array Oper}{asx:List aF}{anc:Nat→Nat→Prop}{names:Nat→List Nat}{ss:Nat→St}{vs:Nat→AV}{ρ0 ρ ρ':dF}{a0 a:Act}{W0 w0 w w':World}{h:Hp}
variable {c0:Nat}{S:Nat→Prop}{f:Nat}{pl:Nat→Nat×Nat}{Q:Exit→Act→World→Prop}
theorem Stat.closed (ST:Stat P nt ops asx anc names)(T:Tr E N 0 asx c0 ss vs){k:Nat}{x:aF}{z:List AV}(hx:asx[k]?=some x)(hz:x.op= .alloc z):∃vs:List Value,∀(ρ:dF) (N:Nat),encs ρ z=vs∧gV ρ N z∧∀v∈z,v.one=true:=by
 have hlt:k<ops.size:=by rw[←ST.size];exact(bB.1 hx).1
 rcases(ST.TH k ops[k] x (cY hlt) hx).op with c|c
 ·rw[hz]at c;exact xW c
 ·rw[hz]at c;cases c
theorem jF.uS (ST:Stat P nt ops asx anc names)(T:Tr E N 0 asx c0 ss vs)(HY:base≤w0.heap.size):∀(d f:Nat) (ρ:dF),jF P base nt ops asx anc ss vs ρ0 a0 w0 S f ρ a w pl→
  (∀(k:Nat) (x:aF),f≤k→k<f+d→asx[k]?=some x→x.cls≠2∧(x.cls=1→S k))→f+d≤asx.length→∃ρ',jF P base nt ops asx anc ss vs ρ0 a0 w0 S (f+d) ρ' a w pl
 |0,f,ρ,D,_,_=>⟨ρ,D⟩
 | d+1,f,ρ,D,hh,hl=>by
  obtain⟨x,hx⟩:=rG (asx:=asx) (k:=f) (by omega);obtain⟨h1,h2⟩:=hh f x (ac _) (by omega) hx;obtain⟨ρ1,D1⟩:=D.advance ST T (fun k x z hx hz=>ST.closed T hx hz) HY hx h1 h2;have:=jF.uS ST T HY d (f+1) ρ1 D1 (fun k y a b hy=>hh k y (by omega) (by omega) hy) (by omega);rwa[show f+(d+1)=f+1+d by omega]
theorem jF.finish (ST:Stat P nt ops asx anc names)(T:Tr E N 0 asx c0 ss vs)(S0:mU W0 base nt ρ0 (ss 0) a0 w0)(D:jF P base nt ops asx anc ss vs ρ0 a0 w0 S f ρ a w pl)(ko:∀k,k<asx.length→S k):
  ∃ρ',mU W0 base nt ρ' (ss asx.length) a w∧Ext base ρ0 (ss 0).hp w0 ρ' (ss asx.length).hp w:=by
 obtain⟨ρ',D'⟩:=D.uS ST T S0.rel.size (asx.length-f) f ρ (fun k x h1 h2 hx=>by
  have hk:k<asx.length:=(bB.1 hx).1;refine⟨fun c=>?_,fun _=>ko k hk⟩;have:=(D.chain k x hx c).1 (ko k hk);omega) (by have:=D.Th;omega)
 have hf:=D.Th;rw[show f+(asx.length-f)=asx.length by omega]at D';refine⟨ρ',⟨D'.ext.rel,S0.pc.trans (D'.ext.fb.below S0.rel),D'.defers,D'.size,fun t=>?_⟩,D'.ext⟩;by_cases hw:∃(k:Nat) (y:aF),asx[k]?=some y∧y.dst=some t
 ·obtain⟨k,y,hy,vf⟩:=hw;have hk:k<asx.length:=(bB.1 hy).1;obtain⟨d1,d2⟩:=D'.done k y hy (ko k hk) (.inr hk);rw[T.wrote ST hy vf hk (ac _)];exact⟨d2 t vf,d1⟩
 ·obtain⟨q1,q2⟩:=S0.tmp t;rw[D'.qY t (fun k y hy nA=>absurd ⟨k,y,hy,nA⟩ hw),T.same asx.length (aE _) (ac _) (fun k y _ _ hy nA=>hw ⟨k,y,hy,nA⟩),q1];exact⟨(dE D'.ext.agree _ q2).symm,fL D'.ext.agree D'.ext.next _ q2⟩
theorem jF.before (ST:Stat P nt ops asx anc names)(T:Tr E N 0 asx c0 ss vs)(HY:base≤w0.heap.size){i:Nat}{x:aF}(hx:asx[i]?=some x)(hc:x.cls=0)(ha:∀j,anc i j→S j):∀(d f:Nat) (ρ:dF),i-f=d→jF P base nt ops asx anc ss vs ρ0 a0 w0 S f ρ a w pl→
  ∃g ρ',jF P base nt ops asx anc ss vs ρ0 a0 w0 S g ρ' a w pl∧∀(k:Nat) (y:aF),asx[k]?=some y→y.cls=1→k<i→k<g
 |0,f,ρ,hd,D=>⟨f,ρ,D,fun k y _ _ hk=>by omega⟩
 | d + 1,f,ρ,hd,D=>by
  by_cases hex:∃(k:Nat) (y:aF),asx[k]?=some y∧y.cls=1∧k<i∧f≤k
  ·obtain⟨k,y,hy,wm,pp,PQ⟩:=hex;have hi:i<asx.length:=(bB.1 hx).1;obtain⟨z,hz⟩:=rG (asx:=asx) (k:=f) (by omega)
   have h2:z.cls≠2:=fun c=>by
    have hfk':f≠k:=fun e=>by subst e;rw[hz]at hy;obtain rfl:=aa hy;omega
    have:=(D.chain f z hz c).1 (ha f (ST.Qx f k i z y x (by omega) pp hz hy hx c wm hc));omega
   have h1:z.cls=1→S f:=fun c=>ha f (ST.Jv f i z x (by omega) hz hx c (by omega))
   obtain⟨ρ1,D1⟩:=D.advance ST T (fun k x z hx hz=>ST.closed T hx hz) HY hz h2 h1;exact jF.before ST T HY hx hc ha d (f+1) ρ1 (by omega) D1
  ·exact⟨f,ρ,D,fun k y hy wm hk=>by
    rcases aQ k f with c|c
    ·exact c
    ·exact absurd ⟨k,y,hy,wm,hk,c⟩ hex⟩
theorem Tr.kept (PL:gD E)(T:Tr E N 0 asx c0 ss vs)(hwf:WF (ss 0).hp){t:Nat}{o:di}{p:Nat}(hp:(ss p).hp.get t=some o):∀d,p+d≤asx.length→(∀(k:Nat) (x:aF),p≤k→k<p+d→asx[k]?=some x→x.cls≠2)→(ss (p+d)).hp.get t=some o
 |0,_,_=>hp
 | d + 1,hl,hn=>by
  have ih:=T.kept PL hwf hp d (by omega) (fun k x a b hx=>hn k x a (by omega) hx);obtain⟨x,hx⟩:=rG (asx:=asx) (k:=p+d) (by omega);rcases Ce x with c|c|c
  ·rw[←dm,T.still hx c];exact ih
  ·obtain⟨z,hz⟩:=sX c;rcases T.born hx hz with⟨_,_,he⟩|⟨_,_,he⟩
   ·rw[←dm,he,Hp.dh,if_neg]
    ·exact ih
    ·have:=(T.BB PL (aE (p+d)) (by omega)).wf hwf t o ih;omega
   ·rw[←dm,he];exact ih
  ·exact absurd c (hn _ x (by omega) (by omega) hx)
theorem Fk (ST:Stat P nt ops asx anc names)(PL:gD E)(MO:rR P E)(CO:∀m,m<N→mX P W0 base E (exec E m))(T:Tr E N 0 asx (ss 0).hp.df ss vs)(S0:mU W0 base nt ρ0 (ss 0) a0 w0)
    (HQ:∀a' w' ρ',mU W0 base nt ρ' (ss asx.length) a' w'→Ext base ρ0 (ss 0).hp w0 ρ' (ss asx.length).hp w'→Q .normal a' w'):
    ∀ (fuel:Nat) (listed:Array Bool) (S:Nat→Prop) (f:Nat) (ρ:dF) (a:Act) (w:World) (pl:Nat→Nat×Nat),listed.size=ops.size→(∀k,S k↔listed.getD k false=true)→listed.toList.countP (fun b=> !b)≤fuel→
      jF P base nt ops asx anc ss vs ρ0 a0 w0 S f ρ a w pl→wpAny P .any ops Q fuel listed a w:=by
  intro fuel
  have fin:∀(listed:Array Bool) (S:Nat→Prop) (f:Nat) (ρ:dF) (a:Act) (w:World) (pl:Nat→Nat×Nat),listed.size=ops.size→(∀k,S k↔listed.getD k false=true)→jF P base nt ops asx anc ss vs ρ0 a0 w0 S f ρ a w pl→
      Region.ready .any ops listed=[]→Q .normal a w:=by
    intro listed S f ρ a w pl hsz hS D hr
    have ko:∀n k,k<n→k<asx.length→S k:=by
      intro n
      induction n with
      |zero=>intro k hk;omega
      | succ n ih=>
        intro k hk hkl;refine Classical.byContradiction fun hn=>?_
        have hlt:k<ops.size:=by rw[←ST.size];exact hkl
        have:k∈Region.ready .any ops listed:=by
          rw[mem_ready];refine⟨?_,ops[k],cY hlt,fun e he hb=>?_⟩
          · have h1:listed.getD k false≠true:=fun h=>hn ((hS k).2 h)
            simp only[cO,cY (show k<listed.size by omega),fU]at h1⊢;simpa using h1
          · have hb:=ST.back k ops[k] (cY hlt) e he hb
            exact(hS _).1 (ih e.on (by omega) (by omega))
        rw[hr]at this;cases this
    obtain⟨ρ',h1,h2⟩:=D.finish ST T S0 (fun k hk=>ko asx.length k hk hk);exact HQ a w ρ' h1 h2
  induction fuel with
  | zero=>
    intro listed S f ρ a w pl hsz hS hcnt D
    have hr:Region.ready .any ops listed=[]:=by
      cases hh:Region.ready .any ops listed with
      |nil=>rfl
      | cons i l=>
        have:i∈Region.ready .any ops listed:=by rw[hh];exact .head _
        obtain⟨h0,o,ho,_⟩:=mem_ready.1 this;have hlt:i<listed.size:=by rw[hsz];exact(dd.1 ho).1
        simp only[cO,cY hlt,fU]at h0;have hm:listed[i]∈listed.toList:=by simp
        have:=List.countP_eq_zero.1 (Nat.le_zero.1 hcnt) _ hm;simp[h0]at this
    exact⟨hr,fin listed S f ρ a w pl hsz hS D hr⟩
  | succ fuel ih=>
    intro listed S f ρ a w pl hsz hS hcnt D;refine⟨fin listed S f ρ a w pl hsz hS D,fun i hi=>?_⟩;obtain⟨h0,o,ho,Ih⟩:=mem_ready.1 hi;have hio:i<ops.size:=(dd.1 ho).1;have QQ:i<asx.length:=by rw[ST.size];exact hio
    obtain⟨x,hx⟩:=rG (asx:=asx) QQ;have C:=ST.TH i o x ho hx;have hlt:=C.lt
    have hnS:¬S i:=fun h=>by
      have:=(hS i).1 h;simp only[cO,cY (show i<listed.size by omega),fU]at this h0;rw[h0]at this;cases this
    have ha:∀j,anc i j→S j:=ST.xV S D.xV i o ho (fun e he hb=>(hS _).2 (Ih e he hb))
    have next:∀(f:Nat) (ρ:dF) (a:Act) (w:World) (pl:Nat→Nat×Nat),jF P base nt ops asx anc ss vs ρ0 a0 w0 (fun j=>S j∨j=i) f ρ a w pl→wpAny P .any ops Q fuel (listed.setIfInBounds i true) a w:=by
      intro f ρ a w pl D';refine ih _ _ f ρ a w pl (by simp[hsz]) (fun k=>?_) ?_ D'
      · by_cases hk:k=i
        · subst hk
          simp[show k<listed.size by omega]
        · rw[getD_set_ne false (Ne.symm hk),←hS];simp[hk]
      · have hb:listed[i]'(by omega)=false:=by
          simpa only[cO,cY (show i<listed.size by omega),fU]using h0
        rw[Array.toList_setIfInBounds,List.countP_set (by simp;omega)];have h1:listed.toList[i]'(by simp;omega)=false:=by simpa using hb
        simp only[h1,Bool.not_false,if_true,ny,cB,if_false];omega
    obtain⟨nm1,nm2,nm3⟩:=ST.nms i o x ho hx
    have sel:∀f ρ,jF P base nt ops asx anc ss vs ρ0 a0 w0 S f ρ a w pl→(∀(k:Nat) (y:aF),asx[k]?=some y→y.cls=1→k<i→k<f)→∀d∈names i,a.tmps.getD d undef=enc ρ (val (ss i).tm (.t d))∧ok ρ (ss f).hp.next (val (ss i).tm (.t d)):=
      fun f ρ D hal d hd=>D.Rh ST T S0 hx hnS ha hal hd
    have run:∀(f:Nat) (ρ:dF) (f':Nat),jF P base nt ops asx anc ss vs ρ0 a0 w0 S f ρ a w pl→(∀(k:Nat) (y:aF),asx[k]?=some y→y.cls=1→k<i→k<f)→((x.cls=0∧f'=f)∨(x.cls=2∧f=i∧f'=i+1))→
        (wanted (ss i).tm x.qf=true→∀m,m<N→nd x.op E (exec E m) (ss i)=some (vs i,(ss (i+1)).hp)→∀fE,(∀y∈x.op.Bw,val (ss i).tm y=val fE y)→nd x.op E (exec E m) { tm:=fE,hp:=(ss f).hp }=some (vs i,(ss f').hp))→
        (wanted (ss i).tm x.qf=false→(ss f').hp=(ss f).hp)→wpOp P ops Q i (wpAny P .any ops Q fuel (listed.setIfInBounds i true)) a w:=by
      intro f ρ f' D hal hf hop WV;have hs:=sel f ρ D hal;have hw:=oG (a:=a) (ρ:=ρ) (tm:=(ss i).tm) C.qf fun d b e=>(hs d (nm3 d b e)).1
      unfold wpOp;simp only[ho];rcases T.at hx with⟨hwt,⟨m,hm,hr⟩,_,_⟩|⟨hwt,hv,he,_⟩
      · rw[hw,hwt]
        simp only[if_true];rcases C.op with hc|hbad
        · obtain⟨ev,fE,E1,E2,E3⟩:=zM (a:=a) (names:=names i) (n:=(ss f).hp.next) hs
          have hr':=hop hwt m hm hr fE (fun y hy=>E3 y (fun t e=>nm2 t (e▸hy)));have Dz:=tL (s:={ tm:=fE,hp:=(ss f).hp }) (CO m hm) (S0.pc.trans (D.ext.fb.below S0.rel)) MO hc E1 D.ext.rel hr';rw[←execOp_congr o (wD hc) (fun y hy=>E2 y (fun t e=>nm1 t (e▸hy)))]at Dz;refine .inl (mh.wp Dz ?_);rintro u w1 ⟨ρ1,X,hok,rfl⟩;rw[←C.dst]
          exact next _ _ _ _ _ (D.exec ST (fun k x z hx hz=>ST.closed T hx hz) hx hnS ha hlt hf rfl X hok)
        · rw[hbad]at hr;cases hr
      · rw[hw,hwt]
        simp only[cB,if_false];have X:Ext base ρ (ss f).hp w ρ (ss f').hp w:=by rw[WV hwt];exact Ext.refl D.ext.rel
        have:=D.exec ST (fun k x z hx hz=>ST.closed T hx hz) hx hnS ha hlt hf rfl X (by rw[hv];trivial);rw[hv,kY,C.dst]at this;exact next _ _ _ _ _ this
    rcases Ce x with hc|hc|hc
    ·
      obtain⟨g,ρg,Dg,hal⟩:=D.before ST T S0.rel.size hx hc ha _ f ρ rfl;refine run g ρg g Dg hal (.inl ⟨hc,rfl⟩) ?_ (fun _=>rfl);intro hwd m hm hr fE WZ;obtain⟨h1,h2⟩:=Af hc;have hpl:∀s,nd x.op E (exec E m) s=mS x.op (val s.tm) s.hp:=by intro s;cases hh:x.op<;>rw[hh]at h1<;>first|(simp[ij.calls]at h1;done)|rfl
      rw[hpl]at hr⊢;rw[←wO (ss g).hp WZ];rcases h2 with h2|⟨ag,n,y,u,h3,h4⟩
      · exact(yP h2 hr).2 _
      · obtain⟨s1,s2,s3⟩:=ST.lQ i x u hx hc h4
        rcases T.at hx with⟨_,_,_,hst⟩|⟨hwt,hv,he,_⟩
        · obtain⟨t,ht,hold⟩:=hst u h4
          have hold:=hold s1 s2;rw[h3]at hr ht⊢;refine(zh hr ht).2 _ ?_
          have at_:∀p,p≤u+1→(ss p).hp.get t=(ss 0).hp.get t∧∃o,(ss 0).hp.get t=some o:=fun p hp=>by
            have:=bJ.old (T.BB PL (aE p) (by omega)) (T.BB PL hp (by omega)) hold;exact⟨this.1,this.2.2⟩
          rw[(at_ i (by omega)).1];by_cases hgu:g≤u+1
          · exact(at_ g hgu).1
          · obtain⟨e1,ob,e2⟩:=at_ (u+1) (ac _)
            rw[e2]at e1⊢
            have:=T.kept PL S0.rel.lt e1 (g-(u+1)) (by have:=Dg.Th;omega) (fun k z QO hk2 hz c=>by
              have hSk:=(Dg.chain k z hz c).2 (by omega);have:=s3 k z hz (by omega) c (fun PU=>hnS (Dg.xV k hSk i PU));omega)
            rwa[show u+1+(g-(u+1))=g by omega]at this
        · rw[hwd]at hwt;cases hwt
    ·
      obtain⟨z,hz⟩:=sX hc;obtain⟨hg,UP⟩:=ST.Ue i x hx hc;have hwt:wanted (ss i).tm x.qf=true:=by rw[hg];rfl
      have hw:Region.wanted o (yielded ops a.tmps)=true:=by
        rw[oG (a:=a) (ρ:=ρ) (tm:=(ss i).tm) C.qf (fun d b e=>by rw[hg]at e;cases e)];exact hwt
      unfold wpOp;simp only[ho,hw,if_true]
      have SW:iF P o=some (.alloc z):=by
        rcases C.op with c|c
        · rw[c,hz]
        · rw[hz]at c;cases c
      obtain⟨ev,fE,E1,E2,E3⟩:=zM (a:=a) (ρ:=ρ) (tm:=(ss i).tm) (names:=[]) (n:=(ss f).hp.next) (by simp);have Y:=(wC (h:=(ss f).hp) (w:=w) (base:=base) SW rfl E1 D.ext.rel (v:= .ptr (ss f).hp.next 0) (h':=(ss f).hp.push fun s=> .row z true s) rfl).Tv
      have sc:∀y∈o.op.operands,a.eval y=ev y:=fun y hy=>E2 y (fun t e=>by
        have:=nm1 t (e▸hy);rwa[UP]at this)
      rw[←execOp_congr o (wD SW) sc]at Y;refine .inl (mh.wp Y ?_);rintro u w1 ⟨ρ1,X,hok,rfl⟩;rw[←C.dst];exact next _ _ _ _ _ (D.LS ST (fun k x z hx hz=>ST.closed T hx hz) hx hz hnS ha hlt X)
    ·
      have hfi:f≤i:=by
        rcases aQ i f with c|c
        · exact absurd ((D.chain i x hx hc).2 c) hnS
        · exact c
      obtain⟨ρi,Di⟩:=D.uS ST T S0.rel.size (i-f) f ρ (fun k y h1 h2 hy=>by
        refine⟨fun c=>?_,fun c=>ha k (ST.Jv k i y x (by omega) hy hx c (by omega))⟩;have:=(D.chain k y hy c).1 (ha k (ST.chain k i y x (by omega) hy hx c hc));omega) (by omega)
      rw[show f+(i-f)=i by omega]at Di;refine run i ρi (i+1) Di (fun k y _ _ hk=>hk) (.inr ⟨hc,rfl,rfl⟩) ?_ ?_
      · intro hwd m hm hr fE WZ
        rw[←EA (s:=ss i) (s':={ tm:=fE,hp:=(ss i).hp }) rfl WZ];exact hr
      · intro hwt
        rcases T.at hx with⟨SC,_⟩|⟨_,_,he,_⟩
        · rw[hwt]at SC;cases SC
        · exact he
end
def LR (e:Edge):Bool:=Region.binds .any e
def mN (o:Oper):List Nat:=(o.after.toList.filter LR).map (·.on)
def rB (ms:List Nat)(es:List Nat):Nat:=es.foldl (fun a j=>a|||(2^j|||ms.getD j 0)) 0
def jm:List Oper→List Nat→List Nat
 |[],ms=>ms
 |o::r,ms=>jm r (ms++[rB ms (mN o)])
structure uX where
 i:Nat
 cls:Nat
 dst:Option Nat
 names:List Nat
 mask:Nat
 lQ:Option Nat
def Rf:Operand→Option Nat
 | .tmp t=>some t
 |_=>none
def ON:bC→Option Nat
 | .t t=>some t
 |_=>none
def mG (o:Oper)(x:aF):List Nat:=
 o.op.operands.toList.filterMap Rf++(x.op.Bw.filterMap ON++match x.qf with|some (d,_)=>[d]|none=>[])
def infos:Nat→List Oper→List aF→List Nat→List uX
 |i,o::os,x::xs,m::ms=>⟨i,x.cls,x.dst,mG o x,m,x.lQ⟩::infos (i+1) os xs ms
 |_,_,_,_=>[]
def hasB (m j:Nat):Bool:=bG (Nat.land (Nat.shiftRight m j) 1) 1
def ED (d:Option Nat)(l:List Nat):Bool:=
 match d with
 |some d=>l.any (bG d)
 |none=>false
def Nl (a b:Option Nat):Bool:=
 match a,b with
 |some a,some b=>bG a b
 |_,_=>false
def yQ (al:List Nat)(x y:uX):Bool:=
 (hasB y.mask x.i||(!(bG x.cls 2&&bG y.cls 2)&& !(bG x.cls 1&& !bG y.cls 1)&& !ED x.dst y.names&& !ED y.dst x.names&&
  !(bG x.cls 2&&bG y.cls 0&&al.any fun i=>gL x.i i&&gL i y.i)&&
  (match x.lQ with
   |some u=> !(bG x.cls 0&&bG y.cls 2)||wW y.i u
   |none=>true)))&& !Nl x.dst y.dst
def xq (al:List Nat):List uX→Bool
 |[]=>true
 |x::l=>l.all (yQ al x)&&xq al l
def Pe (n:Nat)(x:uX):Bool:=
 (match x.lQ with|some u=>wW x.i u&&gL u n|none=>true)&&(!bG x.cls 1||x.names.isEmpty)
def DU:Nat→List Oper→Bool
 |_,[]=>true
 |i,o::os=>(mN o).all (fun j=>gL j i)&&DU (i+1) os
def OL (i m:Nat)(ch:List (Nat×Nat)):Nat:=ch.foldl (fun a p=>if !hasB m p.1&& !hasB p.2 i&&gL a p.1 then p.1 else a) i
def pU:Nat→List aF→List Nat→List (Nat×Nat)
 | i,x::xs,m::ms=>
  match x.op with
  | .load .. | .alloc _=>pU (i+1) xs ms
  | o=>match o.pure with
   |true=>pU (i+1) xs ms
   |false=>(i,m)::pU (i+1) xs ms
 |_,_,_=>[]
def tu (ch:List (Nat×Nat)):Nat→List aF→List Nat→List aF
 |i,x::xs,m::ms=>(match x.op with| .load .. =>{ x with lQ:=some (OL i m ch) }|_=>x)::tu ch (i+1) xs ms
 |_,xs,_=>xs
def IZ (P:Program)(nt:Nat)(ops:Array Oper)(o:Oper):Option aF:=
 match Lz ops o.guard with
 | some g=>match(match o.dst with|some d=>gL d nt|none=>true)with
  |true=>some ⟨o.dst,match iF P o with|some a=>a|none=> .bad,g,none⟩
  |false=>none
 |none=>none
def pR (P:Program)(nt:Nat)(ops:Array Oper):List Oper→Option (List aF)
 |[]=>some []
 | o ::r=>match IZ P nt ops o with
  | some x=>match pR P nt ops r with
   |some xs=>some (x::xs)
   |none=>none
  |none=>none
def IQ (ops:List Oper)(xs:List aF)(ms:List Nat):Bool:=
 match infos 0 ops xs ms with
 |is=>xq ((is.filter fun x=>bG x.cls 1).map (·.i)) is&&(is.all (Pe xs.length)&&DU 0 ops)&&xs.all fun x=> !bG x.cls 1||x.qf.isNone
def fY (P:Program)(nt:Nat):Code→ap
 | .skip=> .skip
 | .label _=> .skip
 | .scope c=> .seq .skip (fY P nt c)
 | .region _ ops false=>match pR P nt ops ops.toList with
  |some xs=> .cG xs
  |none=> .bad
 | .region _ ops true=>match pR P nt ops ops.toList with
  | some xs=>match jm ops.toList []with
   | ms=>match tu (pU 0 xs ms) 0 xs ms with
    | ys=>match IQ ops.toList ys ms with
     |true=> .cC ys
     |false=> .bad
  |none=> .bad
 | .seq a b=> .seq (fY P nt a) (fY P nt b)
 | .cond x a b=>match cv x with
  |some y=> .cond y (fY P nt a) (fY P nt b)
  |none=> .bad
 | .block id c=> .block id (fY P nt c)
 | .loop c=> .loop (fY P nt c)
 | .exit id=> .exit id
 | .ret=> .ret
 |_=> .bad
theorem DB (m j:Nat):hasB m j=m.testBit j:=by
 unfold hasB Nat.testBit;show bG ((m>>>j)&&&1) 1=(1&&&(m>>>j) !=0)
 rw[Nat.and_comm]
 have:1&&&(m>>>j)=0∨1&&&(m>>>j)=1:=by
  rw[Nat.one_and_eq_mod_two];omega
 rcases this with h|h<;>rw[h]<;>rfl
theorem ue (ms:List Nat)(i:Nat):∀(es:List Nat) (a:Nat),(es.foldl (fun a j=>a|||(2^j|||ms.getD j 0)) a).testBit i=true↔a.testBit i=true∨∃j∈es,j=i∨(ms.getD j 0).testBit i=true
 |[],a=>by simp
 | j ::es,a=>by
  rw[List.foldl_cons,ue ms i es];simp only[Nat.testBit_or,Nat.testBit_two_pow,Bool.or_eq_true,decide_eq_true_eq,List.mem_cons];constructor
  ·rintro((h|h|h)|⟨k,hk,h⟩)
   ·exact .inl h
   ·exact .inr ⟨j,.inl rfl,.inl h⟩
   ·exact .inr ⟨j,.inl rfl,.inr h⟩
   ·exact .inr ⟨k,.inr hk,h⟩
  ·rintro(h|⟨k,(rfl|hk),h⟩)
   ·exact .inl (.inl h)
   ·exact .inl (.inr h)
   ·exact .inr ⟨k,hk,h⟩
theorem ud:∀(os:List Oper) (ms:List Nat),(jm os ms).length=ms.length+os.length∧(∀k,k<ms.length→(jm os ms)[k]?=ms[k]?)∧
  ∀k o,os[k]?=some o→(jm os ms)[ms.length+k]?=some (rB ((jm os ms).take (ms.length+k)) (mN o))
 |[],ms=>by simp[jm]
 | o ::os,ms=>by
  obtain⟨h1,h2,h3⟩:=ud os (ms++[rB ms (mN o)]);simp only[List.length_append,aq,aM,dN]at h1 h2 h3
  have SI:(jm os (ms++[rB ms (mN o)])).take ms.length=ms:=by
   apply List.ext_getElem?;intro k;rw[iD];split
   ·rename_i hk;rw[h2 k (by omega),cH hk]
   ·rename_i hk;rw[cb (by omega)]
  refine⟨by simp only[jm,h1,aq];omega,fun k hk=>?_,fun k o' ho=>?_⟩
  ·simp only[jm];rw[h2 k (by omega),cH hk]
  ·simp only[jm];cases k with
   | zero=>
    simp only[eN,bY]at ho;subst ho;rw[aT,SI,h2 _ (by omega),List.getElem?_append_right (ac _)];simp
   | succ k=>
    simp only[dD]at ho;have:=h3 k o' ho;rwa[show ms.length+1+k=ms.length+(k+1) by omega]at this
theorem wh:∀(i:Nat) (os:List Oper) (xs:List aF) (ms:List Nat) (k:Nat) (o:Oper) (x:aF) (m:Nat),os[k]?=some o→xs[k]?=some x→ms[k]?=some m→(infos i os xs ms)[k]?=some ⟨i+k,x.cls,x.dst,mG o x,m,x.lQ⟩
 | i,o::os,x::xs,m::ms,0,o',x',m',h1,h2,h3=>by
  simp only[eN,bY]at h1 h2 h3;subst h1;subst h2;subst h3;rfl
 | i,o::os,x::xs,m::ms,k+1,o',x',m',h1,h2,h3=>by
  simp only[dD]at h1 h2 h3;simp only[infos,dD];rw[wh (i+1) os xs ms k o' x' m' h1 h2 h3,show i+1+k=i+(k+1) by omega]
 |_,[],_,_,_,_,_,_,h,_,_=>by simp at h
 |_,_::_,[],_,_,_,_,_,_,h,_=>by simp at h
 |_,_::_,_::_,[],_,_,_,_,_,_,h=>by simp at h
theorem vR {al:List Nat}:∀(l:List uX),xq al l=true→∀(j k:Nat) (x y:uX),j<k→l[j]?=some x→l[k]?=some y→yQ al x y=true
 |[],_,_,_,_,_,_,h,_=>by simp at h
 | z ::l,hp,j,k,x,y,FI,hx,hy=>by
  simp only[xq,bI]at hp;cases k with
  |zero=>omega
  | succ k=>
   simp only[dD]at hy;cases j with
   | zero=>
    simp only[eN,bY]at hx;subst hx;exact cL.1 hp.1 y (eX hy)
   | succ j=>
    simp only[dD]at hx;exact vR l hp.2 j k x y (by omega) hx hy
theorem Av:∀(i:Nat) (os:List Oper),DU i os=true→∀k o,os[k]?=some o→∀j∈mN o,j<i+k
 |_,[],_,_,_,h,_,_=>by simp at h
 | i,z::os,hb,k,o,ho,j,hj=>by
  simp only[DU,bI]at hb;cases k with
  | zero=>
   simp only[eN,bY]at ho;subst ho;have:=cL.1 hb.1 j hj;simpa[jx]using this
  | succ k=>
   simp only[dD]at ho;have:=Av (i+1) os hb.2 k o ho j hj;omega
theorem zf {d:Nat}{l:List Nat}(h:ED (some d) l=false):d∉l:=by
 intro hm;have:ED (some d) l=true:=List.any_eq_true.2 ⟨d,hm,by simp⟩;rw[h]at this;cases this
theorem lY (n:Nat):bG n n=true:=by simp
theorem rT.length {α β:Type}{R:α→β→Prop}{asx:List α}{bs:List β}(h:rT R asx bs):bs.length=asx.length:=by
 induction h with
 |nil=>rfl
 |cons _ _ ih=>simp[ih]
theorem rT.get {α β:Type}{R:α→β→Prop}{asx:List α}{bs:List β}(h:rT R asx bs):∀(k:Nat) (a:α) (b:β),asx[k]?=some a→bs[k]?=some b→R a b:=by
 induction h with
 |nil=>intro k a b h;simp at h
 | cons r _ ih=>
  intro k a b h1 h2;cases k with
  |zero=>simp only[eN,bY]at h1 h2;subst h1;subst h2;exact r
  |succ k=>exact ih k a b (by simpa using h1) (by simpa using h2)
def qB (is:List uX)(k:Nat):List Nat:=
 match is[k]? with
 |some r=>r.names
 |none=>[]
theorem Kg {P:Program}{nt:Nat}{ops:Array Oper}{ys:List aF}{ms:List Nat}(hc:rT (Ox P nt ops) ops.toList ys)(hm:ms=jm ops.toList [])(hd:IQ ops.toList ys ms=true):
    Stat P nt ops ys (fun k j=>hasB (ms.getD k 0) j=true) (qB (infos 0 ops.toList ys ms)):=by
  unfold IQ at hd;simp only[bI]at hd;obtain⟨⟨hp,nT,Ta⟩,XD⟩:=hd;have hlen:ys.length=ops.size:=by rw[hc.length];simp
  obtain⟨m1,m2,m3⟩:=ud ops.toList [];rw[←hm]at m1 m2 m3
  have at_:∀(k:Nat) (y:aF),ys[k]?=some y→∃o m,ops[k]?=some o∧ms[k]?=some m∧(infos 0 ops.toList ys ms)[k]?=some ⟨k,y.cls,y.dst,mG o y,m,y.lQ⟩:=by
    intro k y hy;have hk:k<ys.length:=(bB.1 hy).1;have ho:ops[k]?=some ops[k]:=cY (by omega);have H8:k<ms.length:=by rw[m1];simp;omega
    have:=wh 0 ops.toList ys ms k ops[k] y ms[k] (by rw[gI];exact ho) hy (aC H8);rw[dN]at this;exact⟨_,_,ho,aC H8,this⟩
  have pr:∀(j k:Nat) (x y:aF),j<k→ys[j]?=some x→ys[k]?=some y→∃ox oy mx my,ops[j]?=some ox∧ops[k]?=some oy∧ms[j]?=some mx∧ms[k]?=some my∧
      yQ (((infos 0 ops.toList ys ms).filter fun x=>bG x.cls 1).map (·.i)) ⟨j,x.cls,x.dst,mG ox x,mx,x.lQ⟩ ⟨k,y.cls,y.dst,mG oy y,my,y.lQ⟩=true:=by
    intro j k x y FI hx hy;obtain⟨ox,mx,a1,a2,a3⟩:=at_ j x hx;obtain⟨oy,my,b1,b2,b3⟩:=at_ k y hy;exact⟨ox,oy,mx,my,a1,b1,a2,b2,vR _ hp j k _ _ FI a3 b3⟩
  have nm:∀(k:Nat) (o:Oper) (y:aF),ops[k]?=some o→ys[k]?=some y→qB (infos 0 ops.toList ys ms) k=mG o y:=by
    intro k o y ho hy;obtain⟨o',m,a1,a2,a3⟩:=at_ k y hy;rw[ho]at a1;obtain rfl:=aa a1;unfold qB;rw[a3]
  have loose:∀(j k:Nat) (x y:aF),j<k→ys[j]?=some x→ys[k]?=some y→¬hasB (ms.getD k 0) j=true→
      ¬(x.cls=2∧y.cls=2)∧¬(x.cls=1∧y.cls≠1)∧ED x.dst (qB (infos 0 ops.toList ys ms) k)=false∧ED y.dst (qB (infos 0 ops.toList ys ms) j)=false∧
      (x.cls=2→y.cls=0→∀i z,ys[i]?=some z→z.cls=1→j<i→i<k→False)∧(∀u,x.lQ=some u→x.cls=0→y.cls=2→k≤u):=by
    intro j k x y FI hx hy hn;obtain⟨ox,oy,mx,my,a1,b1,a2,b2,hh⟩:=pr j k x y FI hx hy;have e:ms.getD k 0=my:=by simp[aR,b2]
    rw[e]at hn;have hn:hasB my j=false:=by cases h:hasB my j<;>simp_all
    rw[nm k oy y b1 hy,nm j ox x a1 hx];unfold yQ at hh;simp only[hn,qc,bI,Bool.not_eq_true']at hh;obtain⟨⟨⟨⟨⟨⟨h1,h2⟩,h3⟩,h4⟩,h5⟩,h6⟩,h7⟩:=hh;refine⟨fun c=>?_,fun c=>?_,h3,h4,fun c d i z hz FF EM UU=>?_,fun u hu c d=>?_⟩
    · rw[c.1,c.2]at h1;simp at h1
    · have h2':(bG x.cls 1&& !bG y.cls 1)=false:=h2
      rw[c.1]at h2';simp only[lY,Bool.true_and,Bool.not_eq_false']at h2';exact c.2 (qg h2')
    · rw[c,d]at h5
      obtain⟨oz,mz,z1,z2,z3⟩:=at_ i z hz;have PK:i∈((infos 0 ops.toList ys ms).filter fun x=>bG x.cls 1).map (·.i):=kc.2 ⟨_,ye.2 ⟨eX z3,by simp[FF]⟩,rfl⟩;have:(((infos 0 ops.toList ys ms).filter fun x=>bG x.cls 1).map (·.i)).any (fun i=>gL j i&&gL i k)=true:=List.any_eq_true.2 ⟨i,PK,by simp[jx,EM,UU]⟩;rw[this]at h5;simp at h5
    · rw[hu]at h6
      simp only[c,d,lY,Bool.and_self,ny,qc]at h6;exact jg h6
  refine⟨hlen,fun k o x ho hx=>hc.get k o x (by rw[gI];exact ho) hx,?_,?_,?_,?_,?_,?_,?_,?_,?_,?_⟩
  · intro k o ho e he hb
    have:=Av 0 ops.toList Ta k o (by rw[gI];exact ho) e.on (kc.2 ⟨e,ye.2 ⟨by simpa using he,hb⟩,rfl⟩);omega
  · intro S hS k o ho Ih i hi
    have H7:ops.toList[k]?=some o:=by rw[gI];exact ho
    have hmk:=m3 k o H7;simp only[aM,dN]at hmk;rw[show ms.getD k 0=rB (ms.take k) (mN o) by simp[aR,hmk],DB]at hi;unfold rB at hi;rw[ue]at hi;rcases hi with hi|⟨j,hj,EM⟩
    · simp at hi
    · obtain⟨e,he,rfl⟩:=kc.1 hj
      obtain⟨he1,he2⟩:=ye.1 he;have hSe:S e.on:=Ih e (by simpa using he1) he2;rcases EM with rfl|EM
      · exact hSe
      · refine hS e.on hSe i ?_
        rw[DB];by_cases hlt:e.on<k
        · simp only[aR,iD,if_pos hlt]at EM
          simpa[aR]using EM
        · simp[aR,iD,hlt]at EM
  · intro j k x y FI hx hy JK wm
    exact Classical.byContradiction fun hn=>(loose j k x y FI hx hy hn).1 ⟨JK,wm⟩
  · intro j k x y FI hx hy JK wm
    exact Classical.byContradiction fun hn=>(loose j k x y FI hx hy hn).2.1 ⟨JK,wm⟩
  · intro j i k x z y EM UU hx hz hy JK FF wm
    exact Classical.byContradiction fun hn=>(loose j k x y (by omega) hx hy hn).2.2.2.2.1 JK wm i z hz FF EM UU
  · intro j k x y FI hx hy hn
    obtain⟨_,_,h3,h4,_,_⟩:=loose j k x y FI hx hy hn;exact⟨fun d hd=>zf (by rw[←hd];exact h3),fun d hd=>zf (by rw[←hd];exact h4)⟩
  · have key:∀(j k:Nat) (x y:aF) (d:Nat),j<k→ys[j]?=some x→ys[k]?=some y→x.dst=some d→y.dst=some d→False:=by
      intro j k x y d FI hx hy hd nA;obtain⟨ox,oy,mx,my,a1,b1,a2,b2,hh⟩:=pr j k x y FI hx hy;unfold yQ at hh;simp only[bI,hd,nA,Nl,lY,ny]at hh;exact absurd hh.2 (by simp)
    intro j k x y d hx hy hd nA;rcases iN j k with c|c|c
    · exact(key j k x y d c hx hy hd nA).elim
    · exact c
    · exact(key k j y x d c hy hx nA hd).elim
  · intro k o x ho hx
    rw[nm k o x ho hx];unfold mG;refine⟨fun t ht=>?_,fun t ht=>?_,fun d b hd=>?_⟩
    · exact dQ.2 (.inl (List.mem_filterMap.2 ⟨.tmp t,by simpa using ht,rfl⟩))
    · exact dQ.2 (.inr (dQ.2 (.inl (List.mem_filterMap.2 ⟨.t t,ht,rfl⟩))))
    · rw[hd];exact dQ.2 (.inr (dQ.2 (.inr (.head _))))
  · intro k x hx JK
    obtain⟨o,m,a1,a2,a3⟩:=at_ k x hx;have h1:=cL.1 XD x (eX hx);have h2:=cL.1 nT _ (eX a3);simp only[JK,lY,ny,qc]at h1;unfold Pe at h2;simp only[JK,lY,ny,qc,bI]at h2;rw[nm k o x a1 hx];exact⟨by simpa using h1,by simpa using h2.2⟩
  · intro k x u hx JK hu
    obtain⟨o,m,a1,a2,a3⟩:=at_ k x hx;have h2:=cL.1 nT _ (eX a3);unfold Pe at h2;simp only[hu,bI]at h2;refine⟨jg h2.1.1,by simpa[jx]using h2.1.2,fun j y hy hkj wm hn=>?_⟩;exact(loose k j x y hkj hx hy hn).2.2.2.2.2 u hu JK wm
def Ca (P:Program):List ResultVar→Option (List qU)
 |[]=>some []
 | .tmp t::r=>match Ca P r with
  |some l=>some (.tmp t::l)
  |none=>none
 | .cell ad t::r=>match pe P t,pu P t,Ca P r with
  |some a,some n,some l=>some (.cell ad a (if a then n else 1)::l)
  |_,_,_=>none
def U9 (P:Program)(fn:Func)(c:Code):Option cP:=
 match Ca P fn.results.toList with
 |some rs=>some ⟨fn.ntmps,rs,fY P fn.ntmps c⟩
 |none=>none
section
variable {P:Program}{W0:World}{base nt:Nat}{E:Env}{ρ ρ':dF}{h h':Hp}{w w':World}{s s':St}{a a':Act}{v:AV}
theorem Ac {ops:Array Oper}{o:Oper}{x:aF}(h:IZ P nt ops o=some x):Ox P nt ops o x:=by
 unfold IZ at h;split at h
 ·rename_i g hg;split at h
  ·rename_i hd;obtain rfl:=aa h;refine⟨?_,rfl,fun d nA=>?_,hg⟩
   ·cases iF P o with
    |none=>exact .inr rfl
    |some a=>exact .inl rfl
   ·have nA:o.dst=some d:=nA;rw[nA]at hd;simpa[jx]using hd
  ·cases h
 ·cases h
theorem jq {ops:Array Oper}:∀{os:List Oper} {xs:List aF},pR P nt ops os=some xs→rT (Ox P nt ops) os xs
 |[],xs,h=>by obtain rfl:=aa h;exact .nil
 | o ::os,xs,h=>by
  unfold pR at h;split at h
  ·rename_i x hx;split at h
   ·rename_i ys AP;obtain rfl:=aa h;exact .cons (Ac hx) (jq AP)
   ·cases h
  ·cases h
theorem yC {ops:Array Oper}{ch:List (Nat×Nat)}{os:List Oper}{xs:List aF}(h:rT (Ox P nt ops) os xs):∀(i:Nat) (ms:List Nat),rT (Ox P nt ops) os (tu ch i xs ms):=by
 induction h with
 |nil=>intro i ms;cases ms<;>exact .nil
 | cons r rs ih=>
  rename_i o x os xs;intro i ms;cases ms with
  |nil=>exact .cons r rs
  | cons m ms=>
   simp only[tu];refine .cons ?_ (ih (i+1) ms);split
   ·exact⟨r.op,r.dst,r.lt,r.qf⟩
   ·exact r
def GV (tmps:Array Value):ResultVar→Sem Value
 | .tmp t=>pure (tmps.getD t undef)
 | .cell a t=>do loadVar t (←asAddr (tmps.getD a undef))
theorem Bi (fn:Func)(tmps:Array Value):results fn tmps=(do let vs ←fn.results.mapM (GV tmps);pure (if h:vs.size=1 then vs[0]else .tuple vs)):=by
 unfold results;congr
theorem lC (S:mU W0 base nt ρ s a w):∀(rv:List ResultVar) (rs:List qU) (vs:List AV),Ca P rv=some rs→qo s rs=some vs→
  (rv.mapM (GV a.tmps)).run P w= .ok (encs ρ vs) w∧gV ρ s.hp.next vs
 | [],rs,vs,hc,hr=>by
  obtain rfl:=aa hc;obtain rfl:=aa hr;exact⟨by simp[encs],trivial⟩
 | .tmp t::rv,rs,vs,hc,hr=>by
  simp only[Ca]at hc;split at hc
  ·rename_i l hl;obtain rfl:=aa hc;simp only[qo,nJ]at hr;split at hr
   ·rename_i v Vt hv EJ;obtain rfl:=aa hr;obtain rfl:=aa hv;obtain⟨i1,i2⟩:=lC S rv l Vt hl EJ;obtain⟨t1,t2⟩:=S.tmp t;refine⟨?_,t2,i2⟩;rw[List.mapM_cons];simp only[Sem.run_bind,GV,Sem.run_pure,Result.andThen_ok,i1,encs];rw[t1];rfl
   ·cases hr
  ·cases hc
 | .cell ad t::rv,rs,vs,hc,hr=>by
  simp only[Ca]at hc;split at hc
  ·rename_i ag n l hag hn hl;obtain rfl:=aa hc;simp only[qo]at hr;split at hr
   ·rename_i v Vt hv EJ;obtain rfl:=aa hr;obtain⟨i1,i2⟩:=lC S rv l Vt hl EJ;obtain⟨t1,t2⟩:=S.tmp ad;have hvv:(s.tm.get ad).getD jO=val s.tm (.t ad):=rfl;simp only[nJ,hvv]at hv;split at hv
    ·rename_i b o hb;rw[hb]at t1;split at hv
     ·rename_i cs own st hg;by_cases hlen:o+(if ag then n else 1)≤cs.length
      ·rw[if_pos hlen]at hv;obtain⟨h1,h2⟩:=po S.rel hag hn hg hlen (v:=v) (by cases ag<;>simpa using hv);refine⟨?_,h2,i2⟩;rw[List.mapM_cons];simp only[Sem.run_bind,GV,Sem.run_pure,Result.andThen_ok,i1,encs,t1,enc,asAddr,h1]
      ·rw[if_neg hlen]at hv;cases hv
     ·cases hv
    ·cases hv
   ·cases hr
  ·cases hc
theorem xo (S:mU W0 base nt ρ s a w){fn:Func}{rs:List qU}(hc:Ca P fn.results.toList=some rs)(hr:eD s rs=some v):(results fn a.tmps).run P w= .ok (enc ρ v) w∧ok ρ s.hp.next v:=by
 unfold eD at hr;rw[Bi]
 have key:∀vs,qo s rs=some vs→(fn.results.mapM (GV a.tmps)).run P w= .ok (encs ρ vs).toArray w∧gV ρ s.hp.next vs:=by
  intro vs EJ;obtain⟨h1,h2⟩:=lC S _ _ _ hc EJ;refine⟨?_,h2⟩;rw[Array.mapM_eq_mapM_toList,map_eq_pure_bind];simp only[Sem.run_bind,h1,Result.andThen_ok,Sem.run_pure]
 split at hr
 ·rename_i u hu;obtain rfl:=aa hr;obtain⟨h1,h2⟩:=key _ hu;refine⟨?_,h2.1⟩;simp only[Sem.run_bind];rw[h1];simp[encs]
 ·rename_i vs hne EJ;obtain rfl:=aa hr;obtain⟨h1,h2⟩:=key _ EJ;refine⟨?_,h2⟩;simp only[Sem.run_bind];rw[h1];simp only[Result.andThen_ok,Sem.run_pure,List.size_toArray,ce];split
  ·rename_i hl;obtain⟨u,rfl⟩:=List.length_eq_one_iff.1 hl;exact absurd rfl (hne u)
  ·simp[enc]
 ·cases hr
def JG (P:Program)(E:Env):Prop:=∀f afn,E.fns f=some afn→∃fn c,P.funcs[f]?=some fn∧(fn.name== "runtime.NumGoroutine")=false∧fn.body=some c∧U9 P fn c=some afn
def DX (P:Program)(W0:World)(base:Nat)(E:Env):Prop:=∀f p,E.dK f=some p→∀args h v h',p args h=some (v,h')→∀ρ w,bn base W0 w→bz base ρ h w→gV ρ h.next args→eC P base ρ h w (callFunc f (encs ρ args).toArray) v h'
def JH (P:Program)(W0:World)(base:Nat)(E:Env):Prop:=∀f e,E.exts f=some e→∀args v,e args=some v→∀ρ h w,bn base W0 w→bz base ρ h w→gV ρ h.next args→eC P base ρ h w (callFunc f (encs ρ args).toArray) v h
structure fO (P:Program)(W0:World)(base:Nat)(E:Env):Prop where
 fns:JG P E
 dK:DX P W0 base E
 exts:JH P W0 base E
 gO:rR P E
 later:gD E
 mixed:P.follows .mixedOrders=true
def yb (P:Program)(W0:World)(base:Nat)(E:Env)(n:Nat):Prop:=∀(c:Code) (s:St) (e:Ex) (s':St) (nt:Nat),exec E n (fY P nt c) s=some (e,s')→∀ρ a w,mU W0 base nt ρ s a w→c.wp P (Ow W0 base nt ρ s.hp w e s') a w
theorem mU.drew (S:mU W0 base nt ρ s a w)(d:Nat):mU W0 base nt ρ s a { w with drawn:=d }:=⟨S.rel.drawn d,S.pc.trans ⟨rfl,rfl,rfl,ac _,fun _ _=>rfl⟩,S.defers,S.size,S.tmp⟩
theorem pi {c:Code}{Q:Exit→Act→World→Prop}(J:Nat→Act→World→Prop){n:Nat}(h0:J n a w)(round:∀n a w,J n a w→c.wp P (Exit.then (fun a' w'=>∃n',n'<n∧J n' a' w') Q) a w):(Code.loop c).wp P Q a w:=by
 intro b k cs
 have key:∀n a w,J n a w→∃e a' w',Q e a' w'∧Arrives P (lone (b.at a (.code c:: .inLoop c::k)) cs w) b k cs e a' w':=by
  intro n
  induction n using ta with
  | _ n ih=>
   intro a w hI;obtain⟨e,a₁,w₁,hq,zw⟩:=round n a w hI b (.inLoop c::k) cs;cases e with
   | normal=>
    obtain⟨n',hlt,hI₁⟩:=hq;obtain⟨e₂,a₂,w₂,hq₂,harr₂⟩:=ih n' hlt a₁ w₁ hI₁;exact⟨e₂,a₂,w₂,hq₂,.of_steps (Steps.trans zw (.one step_inLoop)) harr₂⟩
   |exit id=>exact⟨_,a₁,w₁,hq,.pass (x:= .inLoop c) rfl (fun _ _=> .inl (by simp)) zw⟩
   |goto l=>exact⟨_,a₁,w₁,hq,.pass (x:= .inLoop c) rfl (fun _ _=> .inl (by simp)) zw⟩
   |ret=>exact⟨_,a₁,w₁,hq,.pass (x:= .inLoop c) rfl (fun _ _=> .inl (by simp)) zw⟩
   |panic ch=>exact⟨_,a₁,w₁,hq,.pass (x:= .inLoop c) rfl (fun _ _=> .inl (by simp)) zw⟩
   |outgrown=>exact⟨_,a₁,w₁,hq,.pass (x:= .inLoop c) rfl (fun _ _=> .inl (by simp)) zw⟩
 obtain⟨e,a',w',hq,zw⟩:=key _ a w h0;exact⟨e,a',w',hq,.of_steps (.one step_loop) zw⟩
theorem Cd (EO:fO P W0 base E)(n:Nat)(IH:∀m,m<n→yb P W0 base E m)(CO:∀m,m<n→mX P W0 base E (exec E m)):yb P W0 base E n:=by
 intro c s e s' nt hr ρ a w S;cases n with
 |zero=>cases hr
 | succ m=>
  have hI:=IH m (by omega);rw[aN]at hr;cases c
  case skip=>
   obtain⟨rfl,rfl⟩:=aj (show some (Ex.fW,s)=some (e,s') from hr);exact wp_skip ⟨trivial,ρ,S,Ext.refl S.rel⟩
  case label l=>
   obtain⟨rfl,rfl⟩:=aj (show some (Ex.fW,s)=some (e,s') from hr);exact wp_label ⟨trivial,ρ,S,Ext.refl S.rel⟩
  case exit id=>
   obtain⟨rfl,rfl⟩:=aj (show some (Ex.exit id,s)=some (e,s') from hr);exact wp_exit ⟨rfl,ρ,S,Ext.refl S.rel⟩
  case ret=>
   obtain⟨rfl,rfl⟩:=aj (show some (Ex.ret,s)=some (e,s') from hr);exact wp_ret ⟨trivial,ρ,S,Ext.refl S.rel⟩
  case seq x y=>
   have hr:iT (fY P nt x) (fY P nt y) E (exec E m) s=some (e,s'):=hr;unfold iT at hr;refine wp_seq ?_;split at hr
   ·rename_i s1 h1;refine wp_mono (hI x s .fW s1 nt h1 ρ a w S) fun e1 a1 w1 hq=>?_
    obtain⟨q1,ρ1,S1,X1⟩:=hq;cases e1<;>first|exact q1.elim|skip
    exact wp_mono (hI y s1 e s' nt hr ρ1 a1 w1 S1) fun e2 a2 w2 SL=>Ow.trans X1 SL
   ·rename_i hne;refine wp_mono (hI x s e s' nt hr ρ a w S) fun e1 a1 w1 hq=>?_
    cases e1<;>first|exact hq|skip
    exfalso;obtain⟨q1,_⟩:=hq;cases e<;>first|exact q1.elim|skip
    exact hne s' hr
  case scope c=>
   have hr:iT .skip (fY P nt c) E (exec E m) s=some (e,s'):=hr;unfold iT at hr;cases m with
   |zero=>cases hr
   | succ k=>
    have h1:exec E (k+1) .skip s=some (.fW,s):=by rw[aN];rfl
    rw[h1]at hr;refine wp_scope_straight (wp_mono (hI c s e s' nt hr ρ a w S) fun e1 a1 w1 hq=>?_);cases e1<;>first|exact hq|(obtain⟨q1,_⟩:=hq;cases e<;>exact q1.elim)
  case cond x c1 c2=>
   simp only[fY]at hr;split at hr
   ·rename_i y hy;have hr:iq y (fY P nt c1) (fY P nt c2) E (exec E m) s=some (e,s'):=hr;unfold iq at hr;obtain⟨e1,_⟩:=S.IK _ _ hy;split at hr
    ·rename_i g;exact wp_cond_true (by rw[e1,g];simp[enc]) (hI c1 s e s' nt hr ρ a w S)
    ·rename_i g;exact wp_cond_false (by rw[e1,g];simp[enc]) (hI c2 s e s' nt hr ρ a w S)
    ·cases hr
   ·cases hr
  case block id c=>
   have hr:fF id (fY P nt c) E (exec E m) s=some (e,s'):=hr;unfold fF at hr;refine wp_block ?_;split at hr
   ·rename_i i s1 h1;split at hr
    ·rename_i hid;obtain⟨rfl,rfl⟩:=aj hr;obtain rfl:=qg hid;refine wp_mono (hI c s _ _ nt h1 ρ a w S) fun e1 a1 w1 hq=>?_
     obtain⟨q1,q2⟩:=hq;cases e1<;>first|exact q1.elim|skip
     simp only at q1;subst q1;simp only[Exit.inBlock,if_true];exact⟨trivial,q2⟩
    ·rename_i hid;obtain⟨rfl,rfl⟩:=aj hr;refine wp_mono (hI c s _ _ nt h1 ρ a w S) fun e1 a1 w1 hq=>?_
     obtain⟨q1,q2⟩:=hq;cases e1<;>first|exact q1.elim|skip
     simp only at q1;subst q1;have:¬i=id:=fun e=>by subst e;simp at hid
     simp only[Exit.inBlock,if_neg this];exact⟨rfl,q2⟩
   ·rename_i hne;refine wp_mono (hI c s e s' nt hr ρ a w S) fun e1 a1 w1 hq=>?_
    cases e1<;>first|exact hq|skip
    exfalso;obtain⟨q1,_⟩:=hq;cases e<;>first|exact q1.elim|skip
    exact hne _ s' hr
  case region id ops draw=>
   cases draw with
   | false=>
    simp only[fY]at hr;split at hr
    ·rename_i xs WR;have hr:exec E (m+1) (.cG xs) s=some (e,s'):=by rw[aN];exact hr
     have Xe:=Df _ _ _ _ _ hr;subst Xe;have:=Et (Q:=Ow W0 base nt ρ s.hp w .fW s') EO.gO (m+1) CO (m+1) 0 ops.toList xs ρ s a w .fW s' (ac _) (by simp) (jq WR) S hr (fun a' w' ρ' S' X'=>⟨trivial,ρ',S',X'⟩);refine wp_region ?_;rw[List.range_eq_range'];simpa using this
    ·cases hr
   | true=>
    simp only[fY]at hr;split at hr
    ·rename_i xs WR;split at hr
     ·rename_i hd;have hr:exec E m (.kH (tu (pU 0 xs (jm ops.toList [])) 0 xs (jm ops.toList [])) 0 s.hp.df []) s=some (e,s'):=hr;obtain⟨rfl,ss,vs,t1,t2,T,_⟩:=pO m _ _ _ _ _ _ _ hr;have ST:=Kg (yC (jq WR) 0 (jm ops.toList [])) rfl hd;refine wp_region_any EO.mixed ?_;subst t1;have hlen:=ST.size;have S1:=S.drew (w.drawn+1)
      have HQ:∀a' w' ρ',mU W0 base nt ρ' (ss (tu (pU 0 xs (jm ops.toList [])) 0 xs (jm ops.toList [])).length) a' w'→Ext base ρ (ss 0).hp { w with drawn:=w.drawn+1 } ρ' (ss (tu (pU 0 xs (jm ops.toList [])) 0 xs (jm ops.toList [])).length).hp w'→Ow W0 base nt ρ (ss 0).hp w .fW s' .normal a' w':=by
       intro a' w' ρ' S' X';rw[dN]at t2;rw[t2]at S' X';exact⟨trivial,ρ',S',(Ext.drawn S.rel _).trans X'⟩
      refine Fk ST EO.later EO.gO (fun k hk=>CO k (by omega)) T S1 HQ ops.size _ (fun _=>False) 0 ρ a _ (fun _=>(0,0)) (by simp) (fun k=>?_) ?_ ?_
      ·simp only[cO,AW,false_iff];split<;>simp
      ·refine az List.countP_le_length ?_;simp
      ·exact⟨aE _,fun j hj=>hj.elim,fun k x hx hc=>by simp,fun k x hx hc hk=>by omega,Ext.refl S1.rel,S.defers,S.size,fun k x hx hS=>hS.elim,fun k x z hx hS=>hS.elim,fun k k' x x' hx PA hS=>hS.elim,fun d hd=>rfl⟩
     ·cases hr
    ·cases hr
  case loop c=>
   refine pi (fun k a1 w1=>k≤m+1∧∃s1 ρ1,exec E k (.loop (fY P nt c)) s1=some (e,s')∧mU W0 base nt ρ1 s1 a1 w1∧Ext base ρ s.hp w ρ1 s1.hp w1) (n:=m+1) ⟨ac _,s,ρ,by rw[aN];exact hr,S,Ext.refl S.rel⟩ ?_;rintro k a1 w1 ⟨hk,s1,ρ1,BK,S1,X1⟩;cases k with
   |zero=>cases BK
   | succ k=>
    rw[aN]at BK;have BK:io (fY P nt c) E (exec E k) s1=some (e,s'):=BK;unfold io at BK;split at BK
    ·rename_i s2 h2;refine wp_mono (IH k (by omega) c s1 .fW s2 nt h2 ρ1 a1 w1 S1) fun e1 a2 w2 hq=>?_
     obtain⟨q1,ρ2,S2,X2⟩:=hq;cases e1<;>first|exact q1.elim|skip
     exact⟨k,by omega,by omega,s2,ρ2,BK,S2,X1.trans X2⟩
    ·rename_i hne;refine wp_mono (IH k (by omega) c s1 e s' nt BK ρ1 a1 w1 S1) fun e1 a2 w2 hq=>?_
     have hq':=Ow.trans X1 hq;cases e1<;>first|exact hq'|skip
     exfalso;obtain⟨q1,_⟩:=hq;cases e<;>first|exact q1.elim|skip
     exact hne s' BK
  all_goals cases hr
theorem rH:∀(args:List AV) (i:Nat) (t:T AV) (k:Nat),(iA args i t).get k=if i≤k∧k<i+args.length then args[k-i]? else t.get k
 |[],i,t,k=>by simp[iA];omega
 | v ::r,i,t,k=>by
  rw[show iA (v::r) i t=iA r (i+1) (t.set i v) from rfl,rH r (i+1) (t.set i v) k,T.qH];simp only[aq];by_cases h1:k=i
  ·subst h1;rw[if_neg (by omega),if_pos rfl,if_pos (by omega)];simp
  ·by_cases h2:i+1≤k∧k<i+1+r.length
   ·rw[if_pos h2,if_pos (by omega),show k-i=(k-(i+1))+1 by omega];rfl
   ·rw[if_neg h2,if_neg h1,if_neg (by omega)]
theorem Am (EO:fO P W0 base E)(n:Nat)(CD:yb P W0 base E n):mX P W0 base E (exec E n):=by
 intro f args h v h' hr ρ w B R hok;unfold gK at hr;split at hr
 ·rename_i e he;split at hr
  ·rename_i u hu;obtain⟨rfl,rfl⟩:=aj hr;exact EO.exts f e he args u hu ρ h w B R hok
  ·cases hr
 ·split at hr
  ·rename_i p hp;exact EO.dK f p hp args h v h' hr ρ w B R hok
  ·split at hr
   ·cases hr
   ·rename_i afn XN;obtain⟨fn,c,hf,UP,hb,La⟩:=EO.fns f afn XN;unfold U9 at La;split at La
    ·rename_i rs hrs;obtain rfl:=aa La
     have S:mU W0 base fn.ntmps ρ { tm:=iA args 0 .nil,hp:=h } { tmps:=(encs ρ args).toArray++Array.replicate (fn.ntmps-(encs ρ args).toArray.size) undef,defers:=[] } w:=by
      refine⟨R,B,rfl,by simp;omega,fun t=>?_⟩;simp only[val,rH,aE,true_and,dN,Nat.sub_zero,cO];by_cases ht:t<args.length
      ·rw[if_pos ht,yv (by simpa[ce]using ht)];obtain⟨u,hu⟩:∃u,args[t]?=some u:=⟨args[t],aC ht⟩
       simp only[List.getElem?_toArray,cQ,bZ,hu,cV,fU];exact⟨trivial,(cZ _ _ _).1 hok u (eX hu)⟩
      ·rw[if_neg ht,Array.getElem?_append_right (by simp[ce];omega),AW];simp only[T.get_nil,uY,kY];exact⟨by split<;>rfl,trivial⟩
     have run:(callFunc f (encs ρ args).toArray).run P w= .ok (.enter f (encs ρ args).toArray) w:=by
      have Xh:¬fn.name= "runtime.NumGoroutine" :=fun e=>by rw[e]at UP;exact absurd UP (by decide)
      simp[callFunc,run_program,hf,Xh,hb]
     unfold eC;rw[run]
     have fin:∀(e:Ex) (s:St),(∀i,e≠ .exit i)→exec E n (fY P fn.ntmps c) { tm:=iA args 0 .nil,hp:=h }=some (e,s)→eD s rs=some v→s.hp=h'→mh P (sn base ρ h w v h') (.ok (.enter f (encs ρ args).toArray) w):=by
      rintro e s hne hx BJ rfl;refine calls_of_wp hf hb (wp_mono (CD c _ e s fn.ntmps hx ρ _ w S) fun e1 a1 w1 hq=>?_);obtain⟨q1,ρ1,S1,X1⟩:=hq;obtain⟨r1,r2⟩:=xo S1 hrs BJ;cases e1<;>cases e<;>first|exact q1.elim|exact⟨S1.defers,_,r1,_,rfl,ρ1,X1,r2,rfl⟩|exact absurd rfl (hne _)
     split at hr
     ·cases hr
     ·rename_i e s hne hx;split at hr
      ·rename_i u hu;obtain⟨rfl,rfl⟩:=aj hr;exact fin e s (fun i hi=>hne i hi) hx hu rfl
      ·cases hr
     ·cases hr
    ·cases La
theorem sound (EO:fO P W0 base E):∀n,yb P W0 base E n∧mX P W0 base E (exec E n):=by
 intro n
 induction n using ta with
 | _ n ih=>
  have h1:=Cd EO n (fun m hm=>(ih m hm).1) (fun m hm=>(ih m hm).2);exact⟨h1,Am EO n h1⟩
theorem uN (EO:fO P W0 base E){n f:Nat}{args:List AV}(hr:call E n f args h=some (v,h'))(B:bn base W0 w)(R:bz base ρ h w)(hok:gV ρ h.next args):eC P base ρ h w (callFunc f (encs ρ args).toArray) v h':=
 (sound EO n).2 f args h v h' hr ρ w B R hok
end
section
variable {P:Program}{W0:World}{base:Nat}{ρ:dF}{h h':Hp}{w w':World}{v:AV}{f:FuncId}{args:Array Value}
theorem Ext.grown (R:bz base ρ h w)(B:bn w.heap.size w w'):Ext base ρ h w ρ h w':=by
  refine⟨cW.refl _ _,ac _,⟨az R.size B.size,R.lt,?_,?_,?_,R.apart⟩,⟨B.os,B.tape,B.output,B.size,fun k hk _=>B.block k hk⟩,fun t o ht ho=> .inr ⟨t,o,ht,ho,rfl⟩⟩
  · intro t cs own st ht
    have r:=R.row t cs own st ht;refine r.later (cW.refl _ _) (ac _) (R.lt _ _ ht) B.size ?_;cases own with
    |true=>exact .inr (B.block _ (r.sA rfl).2.1)
    | false => rcases r.xv rfl with c|c
               · exact .inl ⟨c,rfl⟩
               · exact .inr (B.block _ (ah c R.size))
  · intro t s p st ht
    rw[B.block _ (R.iw ht rfl).2];exact R.iter t s p st ht
  · intro t es st ht
    rw[B.block _ (R.iw ht rfl).2];exact R.map t es st ht
def eV (P:Program)(f:FuncId):Bool:=
 match P.funcs[f]? with
 |some fn=>fn.body.isSome&& !(fn.name== "runtime.NumGoroutine")
 |none=>false
theorem oJ (hc:eV P f=true)(args:Array Value)(w:World):(callFunc f args).run P w= .ok (.enter f args) w:=by
 unfold eV at hc;split at hc
 ·rename_i fn hf;simp only[bI,Bool.not_eq_true']at hc
  obtain⟨c,hb⟩:∃c,fn.body=some c:=by cases hh:fn.body with
   |none=>rw[hh]at hc;simp at hc
   |some c=>exact⟨c,rfl⟩
  have hn:¬fn.name= "runtime.NumGoroutine" :=fun e=>by rw[e]at hc;exact absurd hc.2 (by decide)
  simp[callFunc,run_program,hf,hn,hb]
 ·cases hc
theorem eC.call (hc:eV P f=true)(H:Calls P f args w fun e w'=>∃ρ',e= .returned (enc ρ' v)∧ok ρ' h'.next v∧Ext base ρ h w ρ' h' w'):eC P base ρ h w (callFunc f args) v h':=by
 unfold eC;rw[oJ hc];exact H.mono fun e w' ⟨ρ',h1,h2,h3⟩=>⟨_,h1,ρ',h3,h2,rfl⟩
theorem eC.grown (hc:eV P f=true)(R:bz base ρ h w)(hv:ok ρ h.next v)(H:Calls P f args w fun e w'=>e= .returned (enc ρ v)∧bn w.heap.size w w'):eC P base ρ h w (callFunc f args) v h:=
 eC.call hc (H.mono fun e w' ⟨h1,h2⟩=>⟨ρ,h1,hv,Ext.grown R h2⟩)
theorem lj (w:World)(n:Nat):bn w.heap.size w (w.drewN n):=⟨rfl,rfl,rfl,ac _,fun _ _=>rfl⟩
theorem below_grow (w:World)(n:Nat)(os:Array Obj):bn w.heap.size w (Go.Sort.grow (w.drewN n) os):=by
 refine⟨rfl,rfl,rfl,?_,fun k hk=>?_⟩
 ·show w.heap.size≤(w.heap++os).size
  simp
 ·show(w.heap++os)[k]?=_
  rw[yv hk]
end
end Go.Ae
set_option maxRecDepth 100000
namespace Go.Ae.L
open Go.Proofs Go.Ae
structure kR (W0:World)(base:Nat):Prop where
 size:base≤W0.heap.size
 pow10:Lib.TabBelow Tryz.prog base W0 "internal/strconv.uint64pow10" .u64 Lib.pow10Tab
 maxlen:0<base∧∃m,W0.cell? ⟨0,0,none⟩=some (.int .i64 m)
section
variable {W0:World}{base:Nat}{ρ:dF}{h h':Hp}{w w':World}{v:AV}{args:List AV}
theorem kR.ml (G:kR W0 base)(B:bn base W0 w):∃m,w.cell? ⟨0,0,none⟩=some (.int .i64 m):=by
 obtain⟨h1,m,h2⟩:=G.maxlen;exact⟨m,(rM (B.block 0 h1)).trans h2⟩
def Bv (args:List AV)(h:Hp):Option (AV×Hp):=
 match args with
 |[.str s,.str sep]=>if s.length<4294967281 then some (.gk [.str (Lib.cut s sep).1,.str (Lib.cut s sep).2.1,.bool (Lib.cut s sep).2.2],h)else none
 |_=>none
theorem B4:eV Tryz.prog 147=true:=by kernel_rfl
theorem WM (G:kR W0 base)(hp:Bv args h=some (v,h'))(B:bn base W0 w)(R:bz base ρ h w):eC Tryz.prog base ρ h w (callFunc 147 (encs ρ args).toArray) v h':=by
 unfold Bv at hp;split at hp
 ·rename_i s sep;split at hp
  ·rename_i hs;obtain⟨rfl,rfl⟩:=aj hp;obtain⟨m,hm⟩:=G.ml B;refine eC.grown B4 R (by simp[ok,gV]) ?_;refine(Tryz.strings_Cut ⟨s.toArray⟩ ⟨sep.toArray⟩ m w (by rw[gw];exact hs) hm).mono ?_;rintro e w' ⟨rfl,n,rfl⟩;exact⟨by simp[enc,encs],lj w n⟩
  ·cases hp
 ·cases hp
def Bs (args:List AV)(h:Hp):Option (AV×Hp):=
 match args with
 |[.str s,.str sep]=>some (.bool (Lib.hasPrefix s sep),h)
 |_=>none
theorem BV:eV Tryz.prog 258=true:=by kernel_rfl
theorem WD (hp:Bs args h=some (v,h'))(R:bz base ρ h w):eC Tryz.prog base ρ h w (callFunc 258 (encs ρ args).toArray) v h':=by
 unfold Bs at hp;split at hp
 ·rename_i s sep;obtain⟨rfl,rfl⟩:=aj hp;refine eC.grown BV R (by simp[ok,gV]) ?_;refine(Tryz.strings_HasPrefix ⟨s.toArray⟩ ⟨sep.toArray⟩ w).mono ?_;rintro e w' ⟨rfl,rfl⟩;exact⟨by simp[enc,encs],fH _ _⟩
 ·cases hp
def Bq (args:List AV)(h:Hp):Option (AV×Hp):=
 match args with
 |[.str s,.str sep]=>some (.str (Lib.trimPrefix s sep),h)
 |_=>none
theorem BU:eV Tryz.prog 259=true:=by kernel_rfl
theorem WC (hp:Bq args h=some (v,h'))(R:bz base ρ h w):eC Tryz.prog base ρ h w (callFunc 259 (encs ρ args).toArray) v h':=by
 unfold Bq at hp;split at hp
 ·rename_i s sep;obtain⟨rfl,rfl⟩:=aj hp;refine eC.grown BU R (by simp[ok,gV]) ?_;refine(Tryz.strings_TrimPrefix ⟨s.toArray⟩ ⟨sep.toArray⟩ w).mono ?_;rintro e w' ⟨rfl,rfl⟩;exact⟨by simp[enc,encs],fH _ _⟩
 ·cases hp
def Ez (args:List AV)(h:Hp):Option (AV×Hp):=
 match args with
 |[.str s,.str sep]=>some (.gk [.str (Lib.trimPrefix s sep),.bool (Lib.hasPrefix s sep)],h)
 |_=>none
theorem B2:eV Tryz.prog 188=true:=by kernel_rfl
theorem EE (hp:Ez args h=some (v,h'))(R:bz base ρ h w):eC Tryz.prog base ρ h w (callFunc 188 (encs ρ args).toArray) v h':=by
 unfold Ez at hp;split at hp
 ·rename_i s sep;obtain⟨rfl,rfl⟩:=aj hp;refine eC.grown B2 R (by simp[ok,gV]) ?_;refine(Tryz.strings_CutPrefix ⟨s.toArray⟩ ⟨sep.toArray⟩ w).mono ?_;rintro e w' ⟨rfl,rfl⟩;exact⟨by simp[enc,encs],fH _ _⟩
 ·cases hp
def Hl (args:List AV)(h:Hp):Option (AV×Hp):=
 match args with
 |[.str s,.str sep]=>if s.length<9223372036854775807 then some (.gk [.str (Lib.trimSuffix s sep),.bool (Lib.hasSuffix s sep)],h)else none
 |_=>none
theorem BW:eV Tryz.prog 239=true:=by kernel_rfl
theorem WE (hp:Hl args h=some (v,h'))(R:bz base ρ h w):eC Tryz.prog base ρ h w (callFunc 239 (encs ρ args).toArray) v h':=by
 unfold Hl at hp;split at hp
 ·rename_i s sep;split at hp
  ·rename_i hs;obtain⟨rfl,rfl⟩:=aj hp;refine eC.grown BW R (by simp[ok,gV]) ?_;refine(Tryz.strings_CutSuffix ⟨s.toArray⟩ ⟨sep.toArray⟩ w (by rw[gw];omega)).mono ?_;rintro e w' ⟨rfl,rfl⟩;exact⟨by simp[enc,encs],fH _ _⟩
  ·cases hp
 ·cases hp
def Bt (args:List AV)(h:Hp):Option (AV×Hp):=
 match args with
 |[.str s,.int .i64 n]=>if 0≤n∧n≤9223372036854775807∧s.length*n.toNat≤140737488355328 then some (.str (Lib.repeatL s n.toNat),h)else none
 |_=>none
theorem BZ:eV Tryz.prog 221=true:=by kernel_rfl
theorem WI (hp:Bt args h=some (v,h'))(R:bz base ρ h w):eC Tryz.prog base ρ h w (callFunc 221 (encs ρ args).toArray) v h':=by
 unfold Bt at hp;split at hp
 ·rename_i s n;split at hp
  ·rename_i hs;obtain⟨h1,h2,h3⟩:=hs;obtain⟨m,rfl⟩:∃m:Nat,n=m:=⟨n.toNat,by omega⟩
   obtain⟨rfl,rfl⟩:=aj hp;refine eC.grown BZ R (by simp[ok,gV]) ?_;refine(Tryz.strings_Repeat ⟨s.toArray⟩ m w (by omega) (by rw[gw];simpa using h3)).mono ?_;rintro e w' ⟨rfl,hB⟩;exact⟨by simp[enc,encs],hB⟩
  ·cases hp
 ·cases hp
def qs (args:List AV)(h:Hp):Option (AV×Hp):=
  match args with
  | [.str s]=>if s.length≤18 then match Lib.atoi s with
      |some n=>some (.gk [.int .i64 n,.jQ],h)
      |none=>none
    else none
  |_=>none
theorem BX:eV Tryz.prog 224=true:=by kernel_rfl
theorem WG (hp:qs args h=some (v,h'))(R:bz base ρ h w):eC Tryz.prog base ρ h w (callFunc 224 (encs ρ args).toArray) v h':=by
 unfold qs at hp;split at hp
 ·rename_i s;split at hp
  ·rename_i hs;split at hp
   ·rename_i n hn;obtain⟨rfl,rfl⟩:=aj hp;refine eC.grown BX R (by simp[ok,gV]) ?_;refine(Tryz.strconv_Atoi ⟨s.toArray⟩ n (by rw[gw];exact hs) hn w).mono ?_;rintro e w' ⟨rfl,t,rfl⟩;exact⟨by simp[enc,encs],⟨rfl,rfl,rfl,by rw[Lib.bytesWorld_size];omega,fun k hk=>Lib.bytesWorld_at_old w 5 t k hk⟩⟩
   ·cases hp
  ·cases hp
 ·cases hp
noncomputable def Hm (args:List AV)(h:Hp):Option (AV×Hp):=
  match args with
  |[.str s,.str sep]=>if s.length<4294967281∧1≤sep.length∧(Lib.splitB ⟨sep.toArray⟩ 0 (Lib.countB ⟨s.toArray⟩ ⟨sep.toArray⟩) ⟨s.toArray⟩).length=Lib.countB ⟨s.toArray⟩ ⟨sep.toArray⟩+1 then
      some (.sl h.next 0 (Lib.countB ⟨s.toArray⟩ ⟨sep.toArray⟩+1) 1,h.push fun st=> .row ((Lib.splitB ⟨sep.toArray⟩ 0 (Lib.countB ⟨s.toArray⟩ ⟨sep.toArray⟩) ⟨s.toArray⟩).map fun b:ByteArray=>AV.str b.data.toList) true st)else none
  |_=>none
theorem B3:eV Tryz.prog 157=true:=by kernel_rfl
theorem WK (G:kR W0 base)(hp:Hm args h=some (v,h'))(B:bn base W0 w)(R:bz base ρ h w):eC Tryz.prog base ρ h w (callFunc 157 (encs ρ args).toArray) v h':=by
 unfold Hm at hp;split at hp
 ·rename_i s sep;split at hp
  ·rename_i hs;obtain⟨h1,h2,h3⟩:=hs;obtain⟨rfl,rfl⟩:=aj hp;obtain⟨m,hm⟩:=G.ml B;refine eC.call B3 ?_;refine(Tryz.strings_Split ⟨s.toArray⟩ ⟨sep.toArray⟩ m w (by rw[gw];exact h1) hm (by rw[gw];exact h2)).mono ?_;rintro e w' ⟨rfl,rfl⟩
   have X:=Ext.newRow R ((Lib.splitB ⟨sep.toArray⟩ 0 (Lib.countB ⟨s.toArray⟩ ⟨sep.toArray⟩) ⟨s.toArray⟩).map fun b:ByteArray=>AV.str b.data.toList) 9 [] (Lib.countB ⟨s.toArray⟩ ⟨sep.toArray⟩+1) 1 (by simp[AV.one]) ((cZ _ _ _).2 (by simp[ok])) (by simp[h3]) w.drawn
   refine⟨_,(congrArg _ (th ρ h.next w.heap.size (Lib.countB ⟨s.toArray⟩ ⟨sep.toArray⟩+1) 1 (Lib.countB ⟨s.toArray⟩ ⟨sep.toArray⟩+1) 1)).symm,?_,?_⟩
   ·simp only[ok,ct,Hp.push];exact⟨by omega,trivial,by omega,by simp,by simp⟩
   ·have e1:(encs ρ ((Lib.splitB ⟨sep.toArray⟩ 0 (Lib.countB ⟨s.toArray⟩ ⟨sep.toArray⟩) ⟨s.toArray⟩).map fun b:ByteArray=>AV.str b.data.toList)++[]).toArray=((Lib.splitB ⟨sep.toArray⟩ 0 (Lib.countB ⟨s.toArray⟩ ⟨sep.toArray⟩) ⟨s.toArray⟩).map Value.string).toArray:=by
     rw[List.append_nil,cQ,AK];congr 1
     try exact cE fun b _=>by simp[enc]
    rw[e1]at X;exact X
  ·cases hp
 ·cases hp
def gJ:List UInt8:=[48,49,50,51,52,53,54,55,56,57]
def xr (args:List AV)(h:Hp):Option (AV×Hp):=
 match args with
 |[.str s,.str cs]=>if cs=gJ∧s.length≤9223372036854775807 then some (.str (Lib.trimS s gJ),h)else none
 |_=>none
theorem BY:eV Tryz.prog 223=true:=by kernel_rfl
theorem WH (hp:xr args h=some (v,h'))(R:bz base ρ h w):eC Tryz.prog base ρ h w (callFunc 223 (encs ρ args).toArray) v h':=by
 unfold xr at hp;split at hp
 ·rename_i s cs;split at hp
  ·rename_i hs;obtain⟨rfl,hs⟩:=hs;obtain⟨rfl,rfl⟩:=aj hp;refine eC.grown BY R (by simp[ok,gV]) ?_;refine(Go.Proofs.Any.strings_Trim_laid Tryz.lays160 (by kernel_rfl) ⟨s.toArray⟩ ⟨gJ.toArray⟩ w (by rw[gw];exact hs) (by decide) (Go.Proofs.ascii_of_all (by decide))).mono ?_;rintro e w' ⟨rfl,hB⟩;exact⟨by simp[enc,encs],hB⟩
  ·cases hp
 ·cases hp
def Bu (args:List AV)(h:Hp):Option (AV×Hp):=
 match args with
 |[.int .i64 n]=>if -9223372036854775808≤n∧n≤9223372036854775807 then some (.str (Lib.itoa n),h)else none
 |_=>none
theorem B0:eV Tryz.prog 220=true:=by kernel_rfl
theorem WJ (G:kR W0 base)(hp:Bu args h=some (v,h'))(B:bn base W0 w)(R:bz base ρ h w):eC Tryz.prog base ρ h w (callFunc 220 (encs ρ args).toArray) v h':=by
 unfold Bu at hp;split at hp
 ·rename_i n;split at hp
  ·rename_i hs;obtain⟨rfl,rfl⟩:=aj hp;refine eC.grown B0 R (by simp[ok,gV]) ?_;refine(Tryz.strconv_Itoa n hs.1 hs.2 w (G.pow10 w B)).mono ?_;rintro e w' ⟨rfl,k,os,rfl⟩;exact⟨by simp[enc,encs],below_grow w k os⟩
  ·cases hp
 ·cases hp
def CS:List AV→Option (List (List UInt8))
 |[]=>some []
 | .str s::r=>match CS r with
  |some l=>some (s::l)
  |none=>none
 |_=>none
theorem tj:∀{cs:List AV} {l:List (List UInt8)},CS cs=some l→cs=l.map .str
 |[],l,h=>by obtain rfl:=aa h;rfl
 | .str s::r,l,h=>by
  simp only[CS]at h;split at h
  ·rename_i l' hl;obtain rfl:=aa h;rw[tj hl];rfl
  ·cases h
 | .int _ _::_,_,h| .bool _::_,_,h| .ptr _ _::_,_,h| .pG::_,_,h| .sl _ _ _ _::_,_,h| .av::_,_,h| .IM _ _ _ _::_,_,h| .fn _ _::_,_,h| .kC::_,_,h| .rE _ _::_,_,h| .jQ::_,_,h| .map _::_,_,h| .rA::_,_,h| .agg _::_,_,h| .gk _::_,_,h=>by cases h
noncomputable def Hn (args:List AV)(h:Hp):Option (AV×Hp):=
 match args with
 |[.av,.str sep]=>some (.str [],h)
 | [.sl t o n z,.str sep]=>match n with
  |0=>some (.str [],h)
  | n +1=>match cellsOf h 1 (.sl t o (n+1) z)with
   | some cs=>match CS cs with
    |some l=>if l.length≤140737488355328∧(Lib.join l sep).length≤140737488355328 then some (.str (Lib.join l sep),h)else none
    |none=>none
   |none=>none
 |_=>none
theorem xM:eV Tryz.prog 155=true:=by kernel_rfl
theorem WL (hp:Hn args h=some (v,h'))(R:bz base ρ h w)(hok:gV ρ h.next args):eC Tryz.prog base ρ h w (callFunc 155 (encs ρ args).toArray) v h':=by
 unfold Hn at hp;split at hp
 ·rename_i sep;obtain⟨rfl,rfl⟩:=aj hp;refine eC.grown xM R (by simp[ok,gV]) ?_;refine(Tryz.strings_Join_none none 0 ⟨sep.toArray⟩ w).mono ?_;rintro e w' ⟨rfl,rfl⟩;exact⟨by simp[enc,encs],fH _ _⟩
 ·rename_i t o n z sep;obtain⟨⟨k1,k2,k3,k4,k5⟩,_⟩:=hok;split at hp
  ·obtain⟨rfl,rfl⟩:=aj hp;refine eC.grown xM R (by simp[ok,gV]) ?_;refine(Tryz.strings_Join_none _ _ ⟨sep.toArray⟩ w).mono ?_;rintro e w' ⟨rfl,rfl⟩;exact⟨by simp[enc,encs],fH _ _⟩
  ·rename_i n;split at hp
   ·rename_i cs hcs;split at hp
    ·rename_i l hl;split at hp
     ·rename_i hlen;obtain⟨rfl,rfl⟩:=aj hp;simp only[cellsOf]at hcs;split at hcs
      ·rename_i row own st ht;split at hcs
       ·rename_i hz;obtain rfl:=aa hcs;obtain⟨r1,_⟩:=qq (o:=o) (n:=(n+1)*1) R ht
        have Xq:l.length=n+1:=by
         have:=congrArg List.length (tj hl);simp only[List.length_take,List.length_drop,aV]at this;omega
        have hcell:∀(j:Nat) x,(l.map fun s=>(⟨s.toArray⟩:ByteArray))[j]?=some x→w.cell? ⟨(ρ t).b,(ρ t).o+o+j,none⟩=some (.string x):=by
         intro j x hx;refine r1 j (.string x) ?_;rw[tj hl,cQ,AK,bZ];rw[bZ]at hx;cases hj:l[j]? with
         |none=>rw[hj]at hx;cases hx
         |some s=>rw[hj]at hx;simp only[cV,bY]at hx;subst hx;simp[enc]
        have hbk:(ρ t).b<w.heap.size:=by
         rcases aQ (ρ t).b w.heap.size with c|c
         ·exact c
         ·obtain⟨s,hs⟩:∃s,l[0]?=some s:=⟨l[0],aC (by omega)⟩
          have:=hcell 0 ⟨s.toArray⟩ (by simp[hs]);simp[World.cell?,Array.getElem?_eq_none c]at this
        have hj:(l.map fun s=>(⟨s.toArray⟩:ByteArray)).map (·.data.toList)=l:=by
         rw[AK];refine(cE (g:=id) fun s _=>?_).trans (List.map_id l);simp
        refine eC.grown xM R (by simp[ok,gV]) ?_;have H:=Tryz.strings_Join (ρ t).b ((ρ t).o+o) ((ρ t).c-o/z) (l.map fun s=>(⟨s.toArray⟩:ByteArray)) ⟨sep.toArray⟩ w hcell hbk (by simp;omega) (by simp;omega) (by rw[hj];exact hlen.2);rw[hj,aV,Xq]at H;refine Calls.mono (R:=fun e w'=>e= .returned (.string ⟨(Lib.join l sep).toArray⟩)∧bn w.heap.size w w') (by simpa[encs,enc]using H) ?_
        rintro e w' ⟨rfl,hB⟩;exact⟨by simp[enc,encs],hB⟩
       ·cases hcs
      ·cases hcs
     ·cases hp
    ·cases hp
   ·cases hp
 ·cases hp
theorem RH (x y:Int)(c:Bool)(w:World):(callFunc 267 #[.int .u64 x,.int .u64 y,.int .u64 (match c with|true=>1|false=>0)]).run Tryz.prog w=
  .ok (.value (Extern.MathBitsCarry.pair ((x.toNat+y.toNat+(match c with|true=>1|false=>0))%Extern.MathBitsCarry.m64) ((x.toNat+y.toNat+(match c with|true=>1|false=>0))/Extern.MathBitsCarry.m64))) w:=by
 cases c<;>kernel_rfl
theorem RG (x y:Int)(c:Bool)(w:World):(callFunc 269 #[.int .u64 x,.int .u64 y,.int .u64 (match c with|true=>1|false=>0)]).run Tryz.prog w=
  .ok (.value (Extern.MathBitsCarry.pair ((x.toNat+Extern.MathBitsCarry.m64-y.toNat-(match c with|true=>1|false=>0))%Extern.MathBitsCarry.m64) (if x.toNat<y.toNat+(match c with|true=>1|false=>0)then 1 else 0))) w:=by
 cases c<;>kernel_rfl
noncomputable def JP (args:List AV):Option AV:=
 match args with
 | [.int .u64 (.ofNat x),.int .u64 (.ofNat y),.int .u64 (.ofNat c)]=>match wW c 1 with
  |true=>lit (Nat.mod (mu (mu x y) c) 18446744073709551616) fun a=>lit (Nat.div (mu (mu x y) c) 18446744073709551616) fun b=>some (.gk [.int .u64 (.ofNat a),.int .u64 (.ofNat b)])
  |false=>none
 |_=>none
noncomputable def JO (args:List AV):Option AV:=
 match args with
 | [.int .u64 (.ofNat x),.int .u64 (.ofNat y),.int .u64 (.ofNat c)]=>match wW c 1 with
  |true=>lit (Nat.mod (Nat.sub (Nat.sub (mu x 18446744073709551616) y) c) 18446744073709551616) fun a=>some (.gk [.int .u64 (.ofNat a),.int .u64 (match gL x (mu y c)with|true=>1|false=>0)])
  |false=>none
 |_=>none
theorem WB (hp:JP args=some v)(R:bz base ρ h w):eC Tryz.prog base ρ h w (callFunc 267 (encs ρ args).toArray) v h:=by
 unfold JP at hp;split at hp
 ·rename_i x y c;split at hp
  ·rename_i hc;rw[pH,pH]at hp;obtain rfl:=aa hp;have qe:c=0∨c=1:=by have:=jg hc;omega
   unfold eC;rcases qe with rfl|rfl
   ·have:=RH (Int.ofNat x) (Int.ofNat y) false w;simp only[encs,enc];rw[show(callFunc 267 [Value.int .u64 (.ofNat x),.int .u64 (.ofNat y),.int .u64 (.ofNat 0)].toArray).run Tryz.prog w=_ from this];exact⟨ρ,Ext.refl R,by simp[ok,gV],by simp only[enc,encs];rfl⟩
   ·have:=RH (Int.ofNat x) (Int.ofNat y) true w;simp only[encs,enc];rw[show(callFunc 267 [Value.int .u64 (.ofNat x),.int .u64 (.ofNat y),.int .u64 (.ofNat 1)].toArray).run Tryz.prog w=_ from this];exact⟨ρ,Ext.refl R,by simp[ok,gV],by simp only[enc,encs];rfl⟩
  ·cases hp
 ·cases hp
theorem WA (hp:JO args=some v)(R:bz base ρ h w):eC Tryz.prog base ρ h w (callFunc 269 (encs ρ args).toArray) v h:=by
  unfold JO at hp;split at hp
  · rename_i x y c
    split at hp
    · rename_i hc
      rw[pH]at hp;obtain rfl:=aa hp;have qe:c=0∨c=1:=by have:=jg hc;omega
      unfold eC;rcases qe with rfl|rfl
      · have:=RG (Int.ofNat x) (Int.ofNat y) false w
        simp only[encs,enc];rw[show(callFunc 269 [Value.int .u64 (.ofNat x),.int .u64 (.ofNat y),.int .u64 (.ofNat 0)].toArray).run Tryz.prog w=_ from this];refine⟨ρ,Ext.refl R,by simp[ok,gV],?_⟩;simp only[enc,encs];cases hb:gL x (mu y 0)with
        | true=>
          have hlt:x<y+0:=by simpa[jx]using hb
          have:(Int.ofNat x).toNat<(Int.ofNat y).toNat+(match false with|true=>1|false=>0):=hlt;rw[if_pos this];rfl
        | false=>
          have hlt : ¬ x < y + 0 := fun h => by have h2:gL x (mu y 0)=true:=by simpa[jx]using h
                                                rw[h2]at hb;cases hb
          have:¬(Int.ofNat x).toNat<(Int.ofNat y).toNat+(match false with|true=>1|false=>0):=hlt;rw[if_neg this];rfl
      · have:=RG (Int.ofNat x) (Int.ofNat y) true w
        simp only[encs,enc];rw[show(callFunc 269 [Value.int .u64 (.ofNat x),.int .u64 (.ofNat y),.int .u64 (.ofNat 1)].toArray).run Tryz.prog w=_ from this];refine⟨ρ,Ext.refl R,by simp[ok,gV],?_⟩;simp only[enc,encs];cases hb:gL x (mu y 1)with
        | true=>
          have hlt:x<y+1:=by simpa[jx]using hb
          have:(Int.ofNat x).toNat<(Int.ofNat y).toNat+(match true with|true=>1|false=>0):=hlt;rw[if_pos this];rfl
        | false=>
          have hlt : ¬ x < y + 1 := fun h => by have h2:gL x (mu y 1)=true:=by simpa[jx]using h
                                                rw[h2]at hb;cases hb
          have:¬(Int.ofNat x).toNat<(Int.ofNat y).toNat+(match true with|true=>1|false=>0):=hlt;rw[if_neg this];rfl
    · cases hp
  · cases hp
theorem m112 (v:Value)(w:World):(method (Tryz.prog.types.size+Made.depth) 148 v "Sign").run Tryz.prog w= .ok (112,v) w:=by kernel_rfl
theorem V6 (v:Value)(w:World):(method (Tryz.prog.types.size+Made.depth) 148 v "Inv").run Tryz.prog w= .ok (245,v) w:=by kernel_rfl
theorem m115 (v:Value)(w:World):(method (Tryz.prog.types.size+Made.depth) 148 v "Mul").run Tryz.prog w= .ok (115,v) w:=by kernel_rfl
theorem V8 (v:Value)(w:World):(method (Tryz.prog.types.size+Made.depth) 148 v "Sub").run Tryz.prog w= .ok (164,v) w:=by kernel_rfl
theorem mixed:Tryz.prog.follows .mixedOrders=true:=by kernel_rfl
end
end Go.Ae.L
namespace Go.Ae.L
open Go.Proofs Go.Ae
noncomputable def tJ (n:Nat):Option Prim:=
 if n=147 then some Bv else if n=157 then some Hm else if n=220 then some Bu else if n=221 then some Bt else if n=155 then some Hn else if n=224 then some qs
 else if n=258 then some Bs else if n=259 then some Bq else if n=188 then some Ez else if n=239 then some Hl else if n=223 then some xr else none
noncomputable def IE (n:Nat):Option (List AV→Option AV):=if n=267 then some JP else if n=269 then some JO else none
def nO (T:Nat)(s:String):Option Nat:=
 if T=148 then if s= "Sign" then some 112 else if s= "Inv" then some 245 else if s= "Mul" then some 115 else if s= "Sub" then some 164 else none else none
noncomputable def En (fns:Nat→Option cP):Env:={ fns:=fns,dK:=tJ,exts:=IE,gO:=nO }
section
variable {W0:World}{base:Nat}{fns:Nat→Option cP}
theorem Hb (G:kR W0 base):DX Tryz.prog W0 base (En fns):=by
 intro f p hf args h v h' hp ρ w B R hok;have hf:tJ f=some p:=hf;unfold tJ at hf;by_cases B4:f=147
 ·subst B4;rw[if_pos rfl]at hf;obtain rfl:=aa hf;exact WM G hp B R
 rw[if_neg B4]at hf;by_cases B3:f=157
 ·subst B3;rw[if_pos rfl]at hf;obtain rfl:=aa hf;exact WK G hp B R
 rw[if_neg B3]at hf;by_cases B0:f=220
 ·subst B0;rw[if_pos rfl]at hf;obtain rfl:=aa hf;exact WJ G hp B R
 rw[if_neg B0]at hf;by_cases BZ:f=221
 ·subst BZ;rw[if_pos rfl]at hf;obtain rfl:=aa hf;exact WI hp R
 rw[if_neg BZ]at hf;by_cases xM:f=155
 ·subst xM;rw[if_pos rfl]at hf;obtain rfl:=aa hf;exact WL hp R hok
 rw[if_neg xM]at hf;by_cases BX:f=224
 ·subst BX;rw[if_pos rfl]at hf;obtain rfl:=aa hf;exact WG hp R
 rw[if_neg BX]at hf;by_cases BV:f=258
 ·subst BV;rw[if_pos rfl]at hf;obtain rfl:=aa hf;exact WD hp R
 rw[if_neg BV]at hf;by_cases BU:f=259
 ·subst BU;rw[if_pos rfl]at hf;obtain rfl:=aa hf;exact WC hp R
 rw[if_neg BU]at hf;by_cases B2:f=188
 ·subst B2;rw[if_pos rfl]at hf;obtain rfl:=aa hf;exact EE hp R
 rw[if_neg B2]at hf;by_cases BW:f=239
 ·subst BW;rw[if_pos rfl]at hf;obtain rfl:=aa hf;exact WE hp R
 rw[if_neg BW]at hf;by_cases BY:f=223
 ·subst BY;rw[if_pos rfl]at hf;obtain rfl:=aa hf;exact WH hp R
 rw[if_neg BY]at hf;cases hf
theorem Li:JH Tryz.prog W0 base (En fns):=by
 intro f e hf args v hp ρ h w B R hok;have hf:IE f=some e:=hf;unfold IE at hf;by_cases Tt:f=267
 ·subst Tt;rw[if_pos rfl]at hf;obtain rfl:=aa hf;exact WB hp R
 rw[if_neg Tt]at hf;by_cases Tq:f=269
 ·subst Tq;rw[if_pos rfl]at hf;obtain rfl:=aa hf;exact WA hp R
 rw[if_neg Tq]at hf;cases hf
theorem KM:rR Tryz.prog (En fns):=by
 intro T name f hf v w;have hf:nO T name=some f:=hf;unfold nO at hf;by_cases hT:T=148
 ·subst hT;rw[if_pos rfl]at hf;by_cases e1:name= "Sign"
  ·subst e1;rw[if_pos rfl]at hf;obtain rfl:=aa hf;exact m112 v w
  rw[if_neg e1]at hf;by_cases e2:name= "Inv"
  ·subst e2;rw[if_pos rfl]at hf;obtain rfl:=aa hf;exact V6 v w
  rw[if_neg e2]at hf;by_cases e3:name= "Mul"
  ·subst e3;rw[if_pos rfl]at hf;obtain rfl:=aa hf;exact m115 v w
  rw[if_neg e3]at hf;by_cases e4:name= "Sub"
  ·subst e4;rw[if_pos rfl]at hf;obtain rfl:=aa hf;exact V8 v w
  rw[if_neg e4]at hf;cases hf
 ·rw[if_neg hT]at hf;cases hf
theorem Ws {args:List AV}{h h':Hp}{v:AV}(hp:Bv args h=some (v,h')):bJ h h':=by
 unfold Bv at hp;repeat' split at hp
 all_goals first
  |(cases hp;done)
  |(obtain⟨rfl,rfl⟩:=aj hp;exact bJ.refl _)
  |(obtain⟨rfl,rfl⟩:=aj hp;exact bJ.push _ _ rfl)
theorem Wq {args:List AV}{h h':Hp}{v:AV}(hp:Hm args h=some (v,h')):bJ h h':=by
 unfold Hm at hp;repeat' split at hp
 all_goals first
  |(cases hp;done)
  |(obtain⟨rfl,rfl⟩:=aj hp;exact bJ.refl _)
  |(obtain⟨rfl,rfl⟩:=aj hp;exact bJ.push _ _ rfl)
theorem Wm {args:List AV}{h h':Hp}{v:AV}(hp:Bu args h=some (v,h')):bJ h h':=by
 unfold Bu at hp;repeat' split at hp
 all_goals first
  |(cases hp;done)
  |(obtain⟨rfl,rfl⟩:=aj hp;exact bJ.refl _)
  |(obtain⟨rfl,rfl⟩:=aj hp;exact bJ.push _ _ rfl)
theorem Wl {args:List AV}{h h':Hp}{v:AV}(hp:Bt args h=some (v,h')):bJ h h':=by
 unfold Bt at hp;repeat' split at hp
 all_goals first
  |(cases hp;done)
  |(obtain⟨rfl,rfl⟩:=aj hp;exact bJ.refl _)
  |(obtain⟨rfl,rfl⟩:=aj hp;exact bJ.push _ _ rfl)
theorem Wr {args:List AV}{h h':Hp}{v:AV}(hp:Hn args h=some (v,h')):bJ h h':=by
 unfold Hn at hp;repeat' split at hp
 all_goals first
  |(cases hp;done)
  |(obtain⟨rfl,rfl⟩:=aj hp;exact bJ.refl _)
  |(obtain⟨rfl,rfl⟩:=aj hp;exact bJ.push _ _ rfl)
theorem Wj {args:List AV}{h h':Hp}{v:AV}(hp:qs args h=some (v,h')):bJ h h':=by
 unfold qs at hp;repeat' split at hp
 all_goals first
  |(cases hp;done)
  |(obtain⟨rfl,rfl⟩:=aj hp;exact bJ.refl _)
  |(obtain⟨rfl,rfl⟩:=aj hp;exact bJ.push _ _ rfl)
theorem Wh {args:List AV}{h h':Hp}{v:AV}(hp:Bs args h=some (v,h')):bJ h h':=by
 unfold Bs at hp;repeat' split at hp
 all_goals first
  |(cases hp;done)
  |(obtain⟨rfl,rfl⟩:=aj hp;exact bJ.refl _)
  |(obtain⟨rfl,rfl⟩:=aj hp;exact bJ.push _ _ rfl)
theorem Wg {args:List AV}{h h':Hp}{v:AV}(hp:Bq args h=some (v,h')):bJ h h':=by
 unfold Bq at hp;repeat' split at hp
 all_goals first
  |(cases hp;done)
  |(obtain⟨rfl,rfl⟩:=aj hp;exact bJ.refl _)
  |(obtain⟨rfl,rfl⟩:=aj hp;exact bJ.push _ _ rfl)
theorem Wo {args:List AV}{h h':Hp}{v:AV}(hp:Ez args h=some (v,h')):bJ h h':=by
 unfold Ez at hp;repeat' split at hp
 all_goals first
  |(cases hp;done)
  |(obtain⟨rfl,rfl⟩:=aj hp;exact bJ.refl _)
  |(obtain⟨rfl,rfl⟩:=aj hp;exact bJ.push _ _ rfl)
theorem Wi {args:List AV}{h h':Hp}{v:AV}(hp:Hl args h=some (v,h')):bJ h h':=by
 unfold Hl at hp;repeat' split at hp
 all_goals first
  |(cases hp;done)
  |(obtain⟨rfl,rfl⟩:=aj hp;exact bJ.refl _)
  |(obtain⟨rfl,rfl⟩:=aj hp;exact bJ.push _ _ rfl)
theorem Wk {args:List AV}{h h':Hp}{v:AV}(hp:xr args h=some (v,h')):bJ h h':=by
 unfold xr at hp;repeat' split at hp
 all_goals first
  |(cases hp;done)
  |(obtain⟨rfl,rfl⟩:=aj hp;exact bJ.refl _)
  |(obtain⟨rfl,rfl⟩:=aj hp;exact bJ.push _ _ rfl)
theorem HK:gD (En fns):=by
 intro f p args h v h' hf hp;have hf:tJ f=some p:=hf;unfold tJ at hf;by_cases B4:f=147
 ·subst B4;rw[if_pos rfl]at hf;obtain rfl:=aa hf;exact Ws hp
 rw[if_neg B4]at hf;by_cases B3:f=157
 ·subst B3;rw[if_pos rfl]at hf;obtain rfl:=aa hf;exact Wq hp
 rw[if_neg B3]at hf;by_cases B0:f=220
 ·subst B0;rw[if_pos rfl]at hf;obtain rfl:=aa hf;exact Wm hp
 rw[if_neg B0]at hf;by_cases BZ:f=221
 ·subst BZ;rw[if_pos rfl]at hf;obtain rfl:=aa hf;exact Wl hp
 rw[if_neg BZ]at hf;by_cases xM:f=155
 ·subst xM;rw[if_pos rfl]at hf;obtain rfl:=aa hf;exact Wr hp
 rw[if_neg xM]at hf;by_cases BX:f=224
 ·subst BX;rw[if_pos rfl]at hf;obtain rfl:=aa hf;exact Wj hp
 rw[if_neg BX]at hf;by_cases BV:f=258
 ·subst BV;rw[if_pos rfl]at hf;obtain rfl:=aa hf;exact Wh hp
 rw[if_neg BV]at hf;by_cases BU:f=259
 ·subst BU;rw[if_pos rfl]at hf;obtain rfl:=aa hf;exact Wg hp
 rw[if_neg BU]at hf;by_cases B2:f=188
 ·subst B2;rw[if_pos rfl]at hf;obtain rfl:=aa hf;exact Wo hp
 rw[if_neg B2]at hf;by_cases BW:f=239
 ·subst BW;rw[if_pos rfl]at hf;obtain rfl:=aa hf;exact Wi hp
 rw[if_neg BW]at hf;by_cases BY:f=223
 ·subst BY;rw[if_pos rfl]at hf;obtain rfl:=aa hf;exact Wk hp
 rw[if_neg BY]at hf;cases hf
theorem xL (G:kR W0 base)(F:JG Tryz.prog (En fns)):fO Tryz.prog W0 base (En fns):=⟨F,Hb G,Li,KM,HK,mixed⟩
end
end Go.Ae.L
namespace Go.Ae.C
abbrev o (d:Nat)(x:ij):aF:=⟨some d,x,none,none⟩
abbrev n (x:ij):aF:=⟨none,x,none,none⟩
abbrev g (d:Nat)(x:ij)(c:Nat)(b:Bool):aF:=⟨some d,x,some (c,b),none⟩
abbrev m (t:Nat):ij:= .mv (.t t)
abbrev i (z:Int):bC:= .k (.int .i64 z)
abbrev u (z:Int):bC:= .k (.int .u64 z)
abbrev v (d t:Nat):aF:=o d (.mv (.t t))
abbrev e (d t k:Nat):aF:=o d (.ext (.t t) k)
abbrev c (d f:Nat)(l:List bC):aF:=o d (.mc f l)
abbrev b (d:Nat)(x:BinOp)(p q:bC):aF:=o d (.bin x .none p q)
abbrev bt (d:Nat)(x:BinOp)(p q:Nat):aF:=o d (.bin x .none (.t p) (.t q))
abbrev bi (d:Nat)(x:BinOp)(p:Nat)(z:Int):aF:=o d (.bin x .none (.t p) (i z))
abbrev y (d:Nat)(x:UnOp)(t:Nat):aF:=o d (.un x (.t t))
abbrev l (d:Nat)(w:Bool)(k t:Nat):aF:=o d (.load w k (.t t))
abbrev s (k p t:Nat):aF:=n (.store k (.t p) (.t t))
abbrev ix (d k p q:Nat):aF:=o d (.gR k (.t p) (.t q))
abbrev fa (d k p:Nat):aF:=o d (.jy k (.t p))
abbrev ln (d t:Nat):aF:=o d (.len .slice (.t t))
abbrev ls (d t:Nat):aF:=o d (.len .str (.t t))
abbrev vi (d:Nat)(z:Int):aF:=o d (.mv (i z))
abbrev pt (d p q:Nat):aF:=o d (.pick (.t p) (.k (.bool true)) (.t q))
abbrev pf (d p q:Nat):aF:=o d (.pick (.t p) (.t q) (.k (.bool false)))
abbrev zF:List AV:=[.int .i64 0,.av,.int .i64 0,.av]
abbrev zI:List AV:=[.int .i64 0,.av]
abbrev zS:List AV:=[.str [],.str []]
abbrev w (d:Nat)(a:Bool)(k t j:Nat):aF:=⟨some d,.load a k (.t t),none,some j⟩
abbrev x (d:Nat)(a:Bool)(k t c:Nat)(b:Bool)(j:Nat):aF:=⟨some d,.load a k (.t t),some (c,b),some j⟩
abbrev gl (d:Nat)(a:Bool)(k t c:Nat)(b:Bool):aF:=g d (.load a k (.t t)) c b
abbrev gc (d f:Nat)(l:List bC)(c:Nat)(b:Bool):aF:=g d (.mc f l) c b
abbrev gb (d:Nat)(x:BinOp)(p q:bC)(c:Nat)(b:Bool):aF:=g d (.bin x .none p q) c b
abbrev q (l:List aF)(b:ap):ap:= .seq (.cG l) b
abbrev k (t:Nat)(a:ap):ap:= .cond (.t t) a .skip
end Go.Ae.C
