/- The abstract evaluator: what holds behind a run: regions whose order is drawn. -/
import Derived.Test.YtdaggbpeoldmeaaGreatDoorM1
import Derived.IntWalk
import Derived.Scope
import Derived.Deep.Draws
import Derived.Sort.Grow
import Derived.Test.YtdaggbpeoldmeaaGreatDoorProg
import Derived.Test.YtdaggbpeoldmeaaGreatDoorShelf
import Derived.Lib.AppendIntMem
import Derived.Shelf.Strings.SlTrimAscii
open Array renaming getD_eq_getD_getElem? → cI, getElem?_toList → fc, getElem?_eq_getElem → bM, getElem?_eq_some_iff → cX, getElem?_replicate → AE, getElem?_append_left → xZ
open Bool renaming false_eq_true → bZ, eq_iff_iff → mI, not_true → jW, and_eq_true → bz, false_or → lm
open Go.RowKit renaming Below → bl
open Go.RowKit.Below renaming refl → fo
open Iff renaming rfl → ax
open List renaming range' → uM, length_cons → ap, getElem?_eq_getElem → aI, getD_eq_getElem?_getD → aW, getElem?_eq_none → bO, length_nil → aK, map_cons → eH, all_eq_true → bV, getElem?_cons_zero → ei, getElem?_cons_succ → dr, map_congr_left → bJ, getElem?_eq_some_iff → aZ, getElem?_take → gi, getElem?_append_left → cB, mem_of_getElem? → dh, any_eq_true → vn, mem_map → iV, mem_filter → pj, mem_append → dR, getElem?_map → bK, map_map → vk, length_map → aU
open Nat renaming le_max_left → sM, le_max_right → rI, lt_of_lt_of_le → ah, le_refl → ae, lt_or_ge → aQ, zero_add → dd, add_zero → aY, add_assoc → dz, le_succ → ee, le_trans → aB, zero_le → aJ, lt_trichotomy → mP, lt_succ_self → cN, beq → bu, blt → gV, ble → pU, blt_eq → ji, le_of_ble_eq_true → iU, strongRecOn → sL, add → ma
open Option renaming getD_none → uI, getD_some → fF, map_some → cJ
open Option.some renaming inj → aa, injEq → cq
set_option linter.unusedVariables false
set_option linter.unusedSimpArgs false
namespace Go.Ae
section
variable {E:Env}{s s' s1:St}{e:Ex}{h h':Hp}{v:AV}{Q Q':Ex→St→Prop}{K:AV→Hp→Prop}
theorem Wp.cm {ops:List aC}(hw:Wp E (.kq ops 0 s.hp.dc []) s Q):Wp E (.cm ops) s Q:=by
 obtain⟨e,s',⟨n,hn⟩,h2⟩:=hw;exact⟨e,s',⟨n+1,by rw[aN];exact hn⟩,h2⟩
theorem Wp.WP {i c0:Nat}{acc:List (Nat×Nat)}(hq:Q .fP s):Wp E (.kq [] i c0 acc) s Q:=⟨.fP,s,⟨1,by rw[aN];rfl⟩,hq⟩
theorem Wp.dop {o:aC}{r:List aC}{i c0:Nat}{acc acc':List (Nat×Nat)}(hw:wanted s.tm o.qq=true)(rP:nr s o acc=some acc')
  (ho:bY E o.op s fun v h=>acc'.all (fresh h c0 i)=true∧Wp E (.kq r (i+1) c0 acc') { tm:=put s.tm o.dst v,hp:=h } Q):Wp E (.kq (o::r) i c0 acc) s Q:=by
 obtain⟨v,h',⟨n,hn⟩,hf,e,s',⟨m,hm⟩,h3⟩:=ho;refine⟨e,s',⟨max n m+1,?_⟩,h3⟩;rw[aN];show iY o r i c0 acc E (exec E (max n m)) s=_
 unfold iY;rw[hw,qh (gN (sM n m)) hn];simp only[rP,hf];exact gN (rI n m) _ _ _ hm
theorem Wp.R9 {o:aC}{r:List aC}{i c0:Nat}{acc:List (Nat×Nat)}(hw:wanted s.tm o.qq=false)(hf:acc.all (fresh s.hp c0 i)=true)
  (ho:Wp E (.kq r (i+1) c0 acc) { tm:=put s.tm o.dst jC,hp:=s.hp } Q):Wp E (.kq (o::r) i c0 acc) s Q:=by
 obtain⟨e,s',⟨m,hm⟩,h3⟩:=ho;refine⟨e,s',⟨m+1,?_⟩,h3⟩;rw[aN];show iY o r i c0 acc E (exec E m) s=_
 unfold iY;rw[hw,hf];exact hm
def PR (h:Hp):Prop:=∀t o,h.get t=some o→o.st≤h.dc
theorem PR.push {o:Nat→cP}(hc:PR h)(ho:(o (h.dc+1)).st=h.dc+1):PR (h.push o):=by
 intro t ob ht;rw[Hp.cM]at ht;show ob.st≤h.dc+1
 split at ht
 ·obtain rfl:=aa ht;omega
 ·have:=hc t ob ht;omega
theorem PR.put {t:Nat}{o:Nat→cP}(hc:PR h)(ho:(o (h.dc+1)).st=h.dc+1):PR (h.put t o):=by
 intro t' ob ht;rw[Hp.iM]at ht;show ob.st≤h.dc+1
 split at ht
 ·obtain rfl:=aa ht;omega
 ·have:=hc t' ob ht;omega
end
section
variable {E:Env}{s:St}{tm:T AV}{h h':Hp}{v:AV}{Q:Ex→St→Prop}{K:AV→Hp→Prop}{a b c:au}{r:List aC}{d:Option Nat}{o:gM}
theorem Et {n m f:Nat}{args:List AV}{x y:AV×Hp}(h1:gB E (exec E n) f args h=some x)(h2:gB E (exec E m) f args h=some y):x=y:=
 aa ((kw (gN (sM n m)) h1).symm.trans (kw (gN (rI n m)) h2))
theorem ac.det {f:Nat}{args:List AV}(hc:dE E f args h v h'):ac E f args h K↔K v h':=by
 constructor
 ·rintro⟨v1,h1,⟨n,hn⟩,hk⟩;obtain⟨m,hm⟩:=hc;obtain⟨rfl,rfl⟩:=ai ((congrArg some (Et hn hm)));exact hk
 ·exact fun hk=>⟨v,h',hc,hk⟩
theorem Wp.sY:Wp E .skip s Q↔Q .fP s:=by
 constructor
 ·rintro⟨e,s',⟨n,hn⟩,hq⟩;cases n with
  |zero=>cases hn
  | succ n=>
   rw[aN]at hn;obtain⟨rfl,rfl⟩:=ai (show some (Ex.fP,s)=some (e,s') from hn);exact hq
 ·exact Wp.skip
theorem Wp.CG:Wp E .ret s Q↔Q .ret s:=by
 constructor
 ·rintro⟨e,s',⟨n,hn⟩,hq⟩;cases n with
  |zero=>cases hn
  | succ n=>
   rw[aN]at hn;obtain⟨rfl,rfl⟩:=ai (show some (Ex.ret,s)=some (e,s') from hn);exact hq
 ·exact Wp.ret
theorem Wp.zw {id:Nat}:Wp E (.exit id) s Q↔Q (.exit id) s:=by
 constructor
 ·rintro⟨e,s',⟨n,hn⟩,hq⟩;cases n with
  |zero=>cases hn
  | succ n=>
   rw[aN]at hn;obtain⟨rfl,rfl⟩:=ai (show some (Ex.exit id,s)=some (e,s') from hn);exact hq
 ·exact Wp.exit
theorem Wp.wM:Wp E (.seq a b) s Q↔Wp E a s (uH E b Q):=by
 constructor
 ·rintro⟨e,s',⟨n,hn⟩,hq⟩;cases n with
  |zero=>cases hn
  | succ n=>
   rw[aN]at hn;have hn:iF a b E (exec E n) s=some (e,s'):=hn;unfold iF at hn;split at hn
   ·rename_i s1 h1;exact⟨.fP,s1,⟨n,h1⟩,e,s',⟨n,hn⟩,hq⟩
   ·rename_i hne;refine⟨e,s',⟨n,hn⟩,?_⟩;cases e with
    |fP=>exact absurd hn (hne _)
    |exit i=>exact hq
    |ret=>exact hq
 ·exact Wp.seq
theorem Wp.wj {id:Nat}:Wp E (.block id a) s Q↔Wp E a s (oK id Q):=by
 constructor
 ·rintro⟨e,s',⟨n,hn⟩,hq⟩;cases n with
  |zero=>cases hn
  | succ n=>
   rw[aN]at hn;have hn:fk id a E (exec E n) s=some (e,s'):=hn;unfold fk at hn;split at hn
   ·rename_i i s1 h1;refine⟨.exit i,s1,⟨n,h1⟩,?_⟩;simp only[oK];split at hn
    ·rename_i hi;obtain⟨rfl,rfl⟩:=ai hn;rw[if_pos (Nat.eq_of_beq_eq_true hi)];exact hq
    ·rename_i hi;obtain⟨rfl,rfl⟩:=ai hn;rw[if_neg (fun e=>by subst e;simp at hi)];exact hq
   ·rename_i hne;refine⟨e,s',⟨n,hn⟩,?_⟩;cases e with
    |fP=>exact hq
    |exit i=>exact absurd hn (hne _ _)
    |ret=>exact hq
 ·exact Wp.block
def dj (E:Env)(v:AV)(a b:au)(s:St)(Q:Ex→St→Prop):Prop:=
 match v with
 | .bool true=>Wp E a s Q
 | .bool false=>Wp E b s Q
 |_=>False
theorem dj.t:dj E (.bool true) a b s Q↔Wp E a s Q:=ax
theorem dj.f:dj E (.bool false) a b s Q↔Wp E b s Q:=ax
theorem dj.split {c:Bool}(h1:c=true→Wp E a s Q)(h2:c=false→Wp E b s Q):dj E (.bool c) a b s Q:=by
 cases c with
 |true=>exact h1 rfl
 |false=>exact h2 rfl
theorem dj.dec {p:Prop}{_:Decidable p}(h1:p→Wp E a s Q)(h2:¬p→Wp E b s Q):dj E (.bool (decide p)) a b s Q:=
 dj.split (fun e=>h1 (of_decide_eq_true e)) (fun e=>h2 (of_decide_eq_false e))
theorem dj.pos {p:Prop}{_:Decidable p}(hp:p):dj E (.bool (decide p)) a b s Q↔Wp E a s Q:=by rw[decide_eq_true hp];exact ax
theorem dj.neg {p:Prop}{_:Decidable p}(hp:¬p):dj E (.bool (decide p)) a b s Q↔Wp E b s Q:=by rw[decide_eq_false hp];exact ax
theorem Wp.zN {x:bp}:Wp E (.cond x a b) s Q↔dj E (val s.tm x) a b s Q:=by
 constructor
 ·rintro⟨e,s',⟨n,hn⟩,hq⟩;cases n with
  |zero=>cases hn
  | succ n=>
   rw[aN]at hn;have hn:gY x a b E (exec E n) s=some (e,s'):=hn;unfold gY at hn;split at hn
   ·rename_i hx;rw[hx];exact⟨e,s',⟨n,hn⟩,hq⟩
   ·rename_i hx;rw[hx];exact⟨e,s',⟨n,hn⟩,hq⟩
   ·cases hn
 ·unfold dj;split
  ·rename_i hx;exact fun hw=>Wp.cond true hx (fun _=>hw) nofun
  ·rename_i hx;exact fun hw=>Wp.cond false hx nofun (fun _=>hw)
  ·exact False.elim
theorem Wp.sS:Wp E (.loop c) s Q↔Wp E c s (uH E (.loop c) Q):=by
 constructor
 ·rintro⟨e,s',⟨n,hn⟩,hq⟩;cases n with
  |zero=>cases hn
  | succ n=>
   rw[aN]at hn;have hn:gX c E (exec E n) s=some (e,s'):=hn;unfold gX at hn;split at hn
   ·rename_i s1 h1;exact⟨.fP,s1,⟨n,h1⟩,e,s',⟨n,hn⟩,hq⟩
   ·rename_i hne;refine⟨e,s',⟨n,hn⟩,?_⟩;cases e with
    |fP=>exact absurd hn (hne _)
    |exit i=>exact hq
    |ret=>exact hq
 ·rintro⟨e,s1,h1,h2⟩;cases e with
  |fP=>obtain⟨e2,s2,h3,h4⟩:=h2;exact⟨e2,s2,dI.loop h1 h3,h4⟩
  |exit i=>exact⟨_,s1,dI.qn h1 (by simp),h2⟩
  |ret=>exact⟨_,s1,dI.qn h1 (by simp),h2⟩
def Round (I:St→Prop)(Q:Ex→St→Prop):Ex→St→Prop
 | .fP,s=>I s
 |e,s=>Q e s
theorem Wp.bW (I:Nat→St→Prop){n:Nat}(h0:I n s)(round:∀n s,I n s→Wp E c s (Round (fun s'=>∃m,m<n∧I m s') Q)):Wp E (.loop c) s Q:=by
 refine Wp.loop I h0 fun n s hI=>(round n s hI).mono ?_
 intro e s' hq;cases e<;>exact hq
def IG (E:Env)(d:Option Nat)(r:List aC)(tm:T AV)(Q:Ex→St→Prop)(v:AV)(h:Hp):Prop:=Wp E (.cx r) { tm:=put tm d v,hp:=h } Q
theorem Wp.CU:Wp E (.cx []) s Q↔Q .fP s:=by
 constructor
 ·rintro⟨e,s',⟨n,hn⟩,hq⟩;cases n with
  |zero=>cases hn
  | succ n=>
   rw[aN]at hn;obtain⟨rfl,rfl⟩:=ai (show some (Ex.fP,s)=some (e,s') from hn);exact hq
 ·exact Wp.nil
theorem Wp.Gz {st:Option Nat}:Wp E (.cx (⟨d,o,none,st⟩::r)) s Q↔bY E o s (IG E d r s.tm Q):=by
 constructor
 ·rintro⟨e,s',⟨n,hn⟩,hq⟩;cases n with
  |zero=>cases hn
  | succ n=>
   rw[aN]at hn;have hn:kc ⟨d,o,none,st⟩ r E (exec E n) s=some (e,s'):=hn;unfold kc at hn;simp only[wanted]at hn;unfold kY at hn;split at hn
   ·rename_i v h' ho;exact⟨v,h',⟨n,ho⟩,e,s',⟨n,hn⟩,hq⟩
   ·cases hn
 ·exact fun hw=>Wp.op rfl hw
def gg (E:Env)(w:Bool)(o:gM)(d:Option Nat)(r:List aC)(s:St)(Q:Ex→St→Prop):Prop:=
 match w with
 |true=>bY E o s (IG E d r s.tm Q)
 |false=>Wp E (.cx r) { tm:=put s.tm d jC,hp:=s.hp } Q
theorem gg.t:gg E true o d r s Q↔bY E o s (IG E d r s.tm Q):=ax
theorem gg.f:gg E false o d r s Q↔Wp E (.cx r) { tm:=put s.tm d jC,hp:=s.hp } Q:=ax
theorem Wp.C2 {g:Nat×Bool}{st:Option Nat}:Wp E (.cx (⟨d,o,some g,st⟩::r)) s Q↔gg E (wanted s.tm (some g)) o d r s Q:=by
 constructor
 ·rintro⟨e,s',⟨n,hn⟩,hq⟩;cases n with
  |zero=>cases hn
  | succ n=>
   rw[aN]at hn;have hn:kc ⟨d,o,some g,st⟩ r E (exec E n) s=some (e,s'):=hn;unfold kc at hn;simp only at hn;split at hn
   ·rename_i hw;rw[hw];unfold kY at hn;split at hn
    ·rename_i v h' ho;exact⟨v,h',⟨n,ho⟩,e,s',⟨n,hn⟩,hq⟩
    ·cases hn
   ·rename_i hw;rw[hw];exact⟨e,s',⟨n,hn⟩,hq⟩
 ·cases hw:wanted s.tm (some g)with
  |true=>exact fun h=>Wp.op hw h
  |false=>exact fun h=>Wp.Oc hw h
theorem AG (tm:T AV)(n:Nat)(b:Bool):wanted tm (some (n,b))=match val tm (.t n)with| .bool c=>c==b|_=>false:=by
 simp only[wanted,val];cases hg:tm.get n with
 |none=>simp[jC]
 |some v=>cases v<;>simp
theorem Wp.zA {ops:List aC}:Wp E (.cm ops) s Q↔Wp E (.kq ops 0 s.hp.dc []) s Q:=by
 constructor
 ·rintro⟨e,s',⟨n,hn⟩,hq⟩;cases n with
  |zero=>cases hn
  | succ n=>
   rw[aN]at hn;exact⟨e,s',⟨n,hn⟩,hq⟩
 ·exact Wp.cm
theorem Wp.zC {i c0:Nat}{acc:List (Nat×Nat)}:Wp E (.kq [] i c0 acc) s Q↔Q .fP s:=by
 constructor
 ·rintro⟨e,s',⟨n,hn⟩,hq⟩;cases n with
  |zero=>cases hn
  | succ n=>
   rw[aN]at hn;obtain⟨rfl,rfl⟩:=ai (show some (Ex.fP,s)=some (e,s') from hn);exact hq
 ·exact Wp.WP
def Du (E:Env)(d:Option Nat)(r:List aC)(i c0:Nat)(acc:List (Nat×Nat))(tm:T AV)(Q:Ex→St→Prop)(v:AV)(h:Hp):Prop:=
 acc.all (fresh h c0 i)=true∧Wp E (.kq r (i+1) c0 acc) { tm:=put tm d v,hp:=h } Q
def Py (E:Env)(acc:Option (List (Nat×Nat)))(d:Option Nat)(o:gM)(r:List aC)(i c0:Nat)(s:St)(Q:Ex→St→Prop):Prop:=
 match acc with
 |some acc=>bY E o s (Du E d r i c0 acc s.tm Q)
 |none=>False
theorem Py.yl {acc:List (Nat×Nat)}{i c0:Nat}:Py E (some acc) d o r i c0 s Q↔bY E o s (Du E d r i c0 acc s.tm Q):=ax
theorem Wp.Dd {st:Option Nat}{i c0:Nat}{acc:List (Nat×Nat)}:Wp E (.kq (⟨d,o,none,st⟩::r) i c0 acc) s Q↔Py E (nr s ⟨d,o,none,st⟩ acc) d o r i c0 s Q:=by
 constructor
 ·rintro ⟨e,s',⟨n,hn⟩,hq⟩;cases n with
  |zero=>cases hn
  | succ n=>
   rw[aN]at hn;have hn:iY ⟨d,o,none,st⟩ r i c0 acc E (exec E n) s=some (e,s'):=hn;unfold iY at hn;simp only[wanted]at hn;split at hn
   ·rename_i v h' ho;split at hn
    ·rename_i acc' ha;rw[ha];split at hn
     ·rename_i hf;exact⟨v,h',⟨n,ho⟩,hf,e,s',⟨n,hn⟩,hq⟩
     ·cases hn
    ·cases hn
   ·cases hn
 ·cases ha:nr s ⟨d,o,none,st⟩ acc with
  |none=>exact False.elim
  |some acc'=>exact fun hw=>Wp.dop rfl ha hw
def lS (E:Env)(w:Bool)(acc:List (Nat×Nat))(acc':Option (List (Nat×Nat)))(d:Option Nat)(o:gM)(r:List aC)(i c0:Nat)(s:St)(Q:Ex→St→Prop):Prop:=
 match w with
 |true=>Py E acc' d o r i c0 s Q
 |false=>acc.all (fresh s.hp c0 i)=true∧Wp E (.kq r (i+1) c0 acc) { tm:=put s.tm d jC,hp:=s.hp } Q
theorem lS.t {acc:List (Nat×Nat)}{acc':Option (List (Nat×Nat))}{i c0:Nat}:lS E true acc acc' d o r i c0 s Q↔Py E acc' d o r i c0 s Q:=ax
theorem lS.f {acc:List (Nat×Nat)}{acc':Option (List (Nat×Nat))}{i c0:Nat}:lS E false acc acc' d o r i c0 s Q↔acc.all (fresh s.hp c0 i)=true∧Wp E (.kq r (i+1) c0 acc) { tm:=put s.tm d jC,hp:=s.hp } Q:=ax
theorem Wp.zD {g:Nat×Bool}{st:Option Nat}{i c0:Nat}{acc:List (Nat×Nat)}:Wp E (.kq (⟨d,o,some g,st⟩::r) i c0 acc) s Q↔lS E (wanted s.tm (some g)) acc (nr s ⟨d,o,some g,st⟩ acc) d o r i c0 s Q:=by
 constructor
 ·rintro ⟨e,s',⟨n,hn⟩,hq⟩;cases n with
  |zero=>cases hn
  | succ n=>
   rw[aN]at hn;have hn:iY ⟨d,o,some g,st⟩ r i c0 acc E (exec E n) s=some (e,s'):=hn;unfold iY at hn;simp only at hn;split at hn
   ·rename_i hw;rw[hw];split at hn
    ·rename_i v h' ho;split at hn
     ·rename_i acc' ha;rw[ha];split at hn
      ·rename_i hf;exact⟨v,h',⟨n,ho⟩,hf,e,s',⟨n,hn⟩,hq⟩
      ·cases hn
     ·cases hn
    ·cases hn
   ·rename_i hw;rw[hw];split at hn
    ·rename_i hf;exact⟨hf,e,s',⟨n,hn⟩,hq⟩
    ·cases hn
 ·cases hw:wanted s.tm (some g)with
  | true=>
   cases ha:nr s ⟨d,o,some g,st⟩ acc with
   |none=>exact False.elim
   |some acc'=>exact fun h=>Wp.dop hw ha h
  |false=>exact fun h=>Wp.R9 hw h.1 h.2
theorem CT {g:Option (Nat×Bool)}{acc:List (Nat×Nat)}:nr s ⟨d,o,g,none⟩ acc=some acc:=rfl
def wx (v:AV)(u:Nat)(acc:List (Nat×Nat)):Option (List (Nat×Nat)):=
 match v with
 | .ptr t _=>some ((t,u)::acc)
 |_=>none
theorem wx.ptr {t p u:Nat}{acc:List (Nat×Nat)}:wx (.ptr t p) u acc=some ((t,u)::acc):=rfl
theorem CS {g:Option (Nat×Bool)}{u:Nat}{acc:List (Nat×Nat)}{ag:Bool}{n:Nat}{x:bp}:nr s ⟨d,.load ag n x,g,some u⟩ acc=wx (val s.tm x) u acc:=by
 unfold nr reads wx;simp only;cases val s.tm x<;>rfl
theorem zo {t u c0 i:Nat}:fresh h c0 i (t,u)=(if u=i then old h c0 t else true):=by
 unfold fresh;rw[KM];by_cases hu:u=i<;>simp[hu]
def eX (x:Option AV)(h:Hp)(K:AV→Hp→Prop):Prop:=
 match x with
 |some v=>K v h
 |none=>False
theorem eX.iff:eX (some v) h K↔K v h:=ax
theorem dK.iff:dK (some (v,h)) K↔K v h:=ax
theorem bY.bN (hn:o.calls=false):bY E o s K↔dK (lV o (val s.tm) s.hp) K:=by
 constructor
 ·rintro⟨v,h',⟨n,ZY⟩,hk⟩;have:lU o E (exec E n) s=lV o (val s.tm) s.hp:=by cases o<;>first|(simp[gM.calls]at hn;done)|rfl
  rw[this]at ZY;rw[ZY];exact hk
 ·exact bY.plain hn
theorem bY.wi {f:Nat}{args:List bp}:bY E (.lO f args) s K↔ac E f (args.map (val s.tm)) s.hp K:=ax
def rG (E:Env)(x:AV)(args:List AV)(h:Hp)(K:AV→Hp→Prop):Prop:=
 match x with
 | .fn f cap=>ac E f (args++cap) h K
 |_=>False
theorem rG.fn {f:Nat}{cap args:List AV}:rG E (.fn f cap) args h K↔ac E f (args++cap) h K:=ax
theorem bY.wh {x:bp}{args:List bp}:bY E (.gQ x args) s K↔rG E (val s.tm x) (args.map (val s.tm)) s.hp K:=by
 constructor
 ·rintro⟨v,h',⟨n,hn⟩,hk⟩;simp only[lU,jP]at hn;split at hn
  ·rename_i f cap hx;rw[hx];exact⟨v,h',⟨n,hn⟩,hk⟩
  ·cases hn
 ·unfold rG;split
  ·rename_i hx;exact bY.gQ hx
  ·exact False.elim
def qG (E:Env)(x:AV)(name:String)(args:List AV)(h:Hp)(K:AV→Hp→Prop):Prop:=
 match x with
 | .qZ T u=>match E.gF T name with
  |some f=>ac E f (u::args) h K
  |none=>False
 |_=>False
theorem qG.qZ {T f:Nat}{u:AV}{name:String}{args:List AV}(hm:E.gF T name=some f):qG E (.qZ T u) name args h K↔ac E f (u::args) h K:=by
 simp only[qG,hm]
theorem bY.CY {x:bp}{name:String}{args:List bp}:bY E (.inv x name args) s K↔qG E (val s.tm x) name (args.map (val s.tm)) s.hp K:=by
 constructor
 ·rintro⟨v,h',⟨n,hn⟩,hk⟩;simp only[lU,qk]at hn;split at hn
  ·rename_i T u hx;rw[hx];split at hn
   ·rename_i f hm;exact(qG.qZ hm).2 ⟨v,h',⟨n,hn⟩,hk⟩
   ·cases hn
  ·cases hn
 ·unfold qG;split
  ·rename_i hx;split
   ·rename_i hm;exact bY.inv hx hm
   ·exact False.elim
  ·exact False.elim
def Ak (v:Option AV)(h:Hp)(K:AV→Hp→Prop):Prop:=
 match v with
 |some v=>K v h
 |none=>False
theorem Ak.iff:Ak (some v) h K↔K v h:=ax
theorem gy.ret {rs:List rH}:gy rs K .ret s↔Ak (eC s rs) s.hp K:=by simp only[gy,Ak];cases eC s rs<;>exact ax
theorem gy.fP {rs:List rH}:gy rs K .fP s↔Ak (eC s rs) s.hp K:=by simp only[gy,Ak];cases eC s rs<;>exact ax
theorem ac.fS {f:Nat}{p:Prim}{args:List AV}(he:E.exts f=none)(hp:E.dG f=some p):ac E f args h K↔dK (p args h) K:=by
 constructor
 ·rintro⟨v,h',⟨n,hn⟩,hk⟩;unfold call gB at hn;simp only[he,hp]at hn;rw[hn];exact hk
 ·exact ac.NZ he hp
end
section
variable {P:Program}{W0:World}{base nt:Nat}{ρ ρ':dw}{h h':Hp}{w w':World}{s s':St}{a a':Act}{v:AV}
structure mE (W0:World)(base nt:Nat)(ρ:dw)(s:St)(a:Act)(w:World):Prop where
 rel:bv base ρ s.hp w
 oO:bl base W0 w
 defers:a.defers=[]
 size:nt≤a.tmps.size
 tmp:∀t,a.tmps.getD t undef=enc ρ (val s.tm (.t t))∧ok ρ s.hp.next (val s.tm (.t t))
theorem pL {x:Operand}{y:bp}(hx:cv x=some y):(∃t,x= .tmp t∧y= .t t)∨(∀(a:Act) (ρ:dw) (N:Nat) (tm:T AV),a.eval x=enc ρ (val tm y)∧ok ρ N (val tm y)∧(∀t,x≠ .tmp t)∧∀t,y≠ .t t):=by
 cases x with
 |tmp t=>simp only[cv,cq]at hx;exact .inl ⟨t,rfl,hx.symm⟩
 | const c=>
  simp only[cv]at hx;split at hx
  ·rename_i b hb;obtain rfl:=aa hx;refine .inr fun a ρ N tm=>⟨?_,(qA hb ρ N).2,nofun,nofun⟩
   exact(qA hb ρ N).1.symm
  ·cases hx
 |global g=>simp[cv]at hx
 | func f=>
  simp only[cv,cq]at hx;subst hx;exact .inr fun a ρ N tm=>⟨by simp[Act.eval,val,enc,encs],by simp[val,ok,gP],nofun,nofun⟩
theorem mE.HU (S:mE W0 base nt ρ s a w):dZ ρ s.hp.next a.eval s.tm:=fun x y hx=>by
 rcases pL hx with⟨t,rfl,rfl⟩|hh
 ·exact S.tmp t
 ·exact⟨(hh a ρ s.hp.next s.tm).1,(hh a ρ s.hp.next s.tm).2.1⟩
theorem gO (tm:T AV)(d:Nat)(v:AV)(t:Nat):val (tm.set d v) (.t t)=if t=d then v else val tm (.t t):=by
 simp only[val,T.qs];split<;>rfl
theorem tV (a:Act)(dst:Option Tmp)(v:Value)(hd:∀d,dst=some d→d<a.tmps.size)(t:Nat):(a.put dst v).tmps.getD t undef=if dst=some t then v else a.tmps.getD t undef:=by
 cases dst with
 |none=>simp[Act.put]
 | some d=>
  have:=hd d rfl;simp only[Act.put,cI,Array.getElem?_setIfInBounds];by_cases h:d=t
  ·subst h;simp[this]
  ·simp[h]
theorem ti (a:Act)(dst:Option Tmp)(v:Value):(a.put dst v).tmps.size=a.tmps.size:=by cases dst<;>simp[Act.put]
theorem put_defers (a:Act)(dst:Option Tmp)(v:Value):(a.put dst v).defers=a.defers:=by cases dst<;>rfl
theorem wG (tm:T AV)(dst:Option Nat)(v:AV)(t:Nat):val (put tm dst v) (.t t)=if dst=some t then v else val tm (.t t):=by
 cases dst with
 |none=>simp[put]
 |some d=>simp only[put,gO,cq];by_cases h:t=d<;>simp[h,eq_comm]
theorem mE.put (S:mE W0 base nt ρ s a w)(X:Ext base ρ s.hp w ρ' h' w')(hv:ok ρ' h'.next v)(dst:Option Nat)(hd:∀d,dst=some d→d<nt):mE W0 base nt ρ' { tm:=put s.tm dst v,hp:=h' } (a.put dst (enc ρ' v)) w':=by
 refine⟨X.rel,S.oO.trans (X.eK.below S.rel),by rw[put_defers];exact S.defers,by rw[ti];exact S.size,fun t=>?_⟩;rw[tV _ _ _ fun d mZ=>ah (hd d mZ) S.size];simp only[wG];split
 ·exact⟨rfl,hv⟩
 ·obtain⟨h1,h2⟩:=S.tmp t;exact⟨h1.trans (du X.agree _ h2).symm,fy X.agree X.next _ h2⟩
theorem mE.QP (S:mE W0 base nt ρ s a w)(dst:Option Nat)(hd:∀d,dst=some d→d<nt):mE W0 base nt ρ { tm:=Ae.put s.tm dst jC,hp:=s.hp } (a.put dst undef) w:=by
 have:=S.put (Ext.refl S.rel) (v:=jC) trivial dst hd;rwa[kM]at this
def KC (ops:Array Oper)(g:Option (Nat×Bool)):Option (Option (Nat×Bool)):=
 match g with
 |none=>some none
 | some (j,b)=>match(ops[j]?).bind (·.dst)with
  |some d=>some (some (d,b))
  |none=>none
theorem nU {ops:Array Oper}{o:Oper}{g:Option (Nat×Bool)}{tm:T AV}(hg:KC ops o.guard=some g)(hs:∀d b,g=some (d,b)→a.tmps.getD d undef=enc ρ (val tm (.t d))):
  Region.wanted o (yielded ops a.tmps)=wanted tm g:=by
 unfold Region.wanted;unfold KC at hg;split at hg
 ·rename_i hn;rw[hn];obtain rfl:=aa hg;rfl
 ·rename_i j b hn;split at hg
  ·rename_i d hd;obtain rfl:=aa hg;rw[hn];have e:=hs d b rfl;simp only[yielded,hd,Option.bind_some,wanted];rw[cI]at e;simp only[val]at e;cases ht:tm.get d with
   | none=>
    rw[ht]at e;simp only[uI,kM]at e;cases ha:a.tmps[d]? with
    |none=>rfl
    |some u=>rw[ha]at e;simp only[fF]at e;subst e;rfl
   | some v=>
    rw[ht]at e;simp only[fF]at e;cases ha:a.tmps[d]? with
    | none=>
     rw[ha]at e;simp only[uI]at e;cases v<;>simp[enc,undef]at e<;>rfl
    | some u=>
     rw[ha]at e;simp only[fF]at e;subst e;cases v<;>simp only[enc]<;>first|rfl|(rename_i c;cases b<;>cases c<;>rfl)
  ·cases hg
structure EJ (P:Program)(nt:Nat)(ops:Array Oper)(o:Oper)(x:aC):Prop where
 op:gE P o=some x.op∨x.op= .bad∨∃sz n z ps,gE P o=some (.cL sz n z ps)∧x.op= .Az sz n z ps
 dst:x.dst=o.dst
 lt:∀d,x.dst=some d→d<nt
 qq:KC ops o.guard=some x.qq
theorem HE {sz n:Nat}{z:List AV}{ps:List (Nat×Nat×bp)}{ρ:bp→AV}{h:Hp}{r:AV×Hp}(hr:nq sz n z ps ρ h=some r):hZ sz n z ps ρ h=some r:=by
 unfold nq at hr;unfold hZ;split at hr
 ·split at hr
  ·rename_i hc;rw[if_pos ⟨hc.1,hc.2.1⟩];exact hr
  ·cases hr
 ·cases hr
theorem EJ.real {ops:Array Oper}{o:Oper}{x:aC}(C:EJ P nt ops o x){E:Env}{rec:Rec}{s:St}{r:AV×Hp}(hr:lU x.op E rec s=some r):∃a,gE P o=some a∧lU a E rec s=some r:=by
 rcases C.op with hc|Kg|⟨sz,n,z,ps,hc,hf⟩
 ·exact⟨_,hc,hr⟩
 ·rw[Kg]at hr;cases hr
 ·rw[hf]at hr;exact⟨_,hc,HE hr⟩
def L3 (W0:World)(base nt:Nat)(ρ:dw)(h:Hp)(w:World)(e:Ex)(s':St):Exit→Act→World→Prop:=fun e' a' w'=>
 (match e,e' with| .fP,.normal=>True| .exit i,.exit j=>i=j| .ret,.ret=>True|_,_=>False)∧∃ρ',mE W0 base nt ρ' s' a' w'∧Ext base ρ h w ρ' s'.hp w'
theorem L3.trans {h0:Hp}{w0:World}{ρ0:dw}{e:Ex}{e':Exit}(X:Ext base ρ0 h0 w0 ρ h w)(hq:L3 W0 base nt ρ h w e s' e' a' w'):L3 W0 base nt ρ0 h0 w0 e s' e' a' w':=by
 obtain⟨h1,ρ',h2,h3⟩:=hq;exact⟨h1,ρ',h2,X.trans h3⟩
inductive oT {α β:Type}(R:α→β→Prop):List α→List β→Prop
 |nil:oT R [] []
 |cons {a:α} {b:β} {asx:List α} {bs:List β}:R a b→oT R asx bs→oT R (a::asx) (b::bs)
theorem CK {E:Env}:∀(m:Nat) (xs:List aC) (s:St) (e:Ex) (s':St),exec E m (.cx xs) s=some (e,s')→e= .fP
 |0,_,_,_,_,hr=>by cases hr
 | m+1,[],s,e,s',hr=>by
  rw[aN]at hr;exact(ai (show some (Ex.fP,s)=some (e,s') from hr)).1.symm
 | m +1,x::xs,s,e,s',hr=>by
  rw[aN]at hr;have hr:kc x xs E (exec E m) s=some (e,s'):=hr;unfold kc kY at hr;repeat' split at hr
  all_goals first
   |(cases hr;done)
   |exact CK m _ _ _ _ hr
theorem DK {E:Env}{ops:Array Oper}{Q:Exit→Act→World→Prop}(MO:rE P E)(n:Nat)(CO:∀m,m<n→mG P W0 base E (exec E m)):
  ∀ (m i:Nat) (os:List Oper) (xs:List aC) (ρ:dw) (s:St) (a:Act) (w:World) (e:Ex) (s':St),m≤n→ops.toList.drop i=os→oT (EJ P nt ops) os xs→mE W0 base nt ρ s a w→
   exec E m (.cx xs) s=some (e,s')→(∀a' w' ρ',mE W0 base nt ρ' s' a' w'→Ext base ρ s.hp w ρ' s'.hp w'→Q .normal a' w')→wpOps P ops Q (uM i os.length) a w:=by
 intro m
 induction m with
 |zero=>intro i os xs ρ s a w e s' _ _ _ _ hr _;cases hr
 | succ m ih=>
  intro i os xs ρ s a w e s' hm hdrop hf S hr hQ;rw[aN]at hr;cases hf with
  | nil=>
   obtain⟨rfl,rfl⟩:Ex.fP=e∧s=s':=by
    have:=ai (show some (Ex.fP,s)=some (e,s') from hr);exact this
   exact hQ a w ρ S (Ext.refl S.rel)
  | cons hx hrest=>
   rename_i o x os xs
   have ho:ops[i]?=some o:=by
    rw[←fc];have:=congrArg (fun l=>l[0]?) hdrop;simpa using this
   have hdrop':ops.toList.drop (i+1)=os:=by
    rw[←List.drop_drop,hdrop];rfl
   have hr:kc x xs E (exec E m) s=some (e,s'):=hr;have hw:=nU (a:=a) (ρ:=ρ) (tm:=s.tm) hx.qq fun d b _=>(S.tmp d).1
   simp only[ap,List.range'_succ];rw[wpOps];simp only[ho];unfold kc at hr;split at hr
   ·rename_i hwt;rw[hw,hwt];simp only[if_true];unfold kY at hr;split at hr
    ·rename_i v h' hop;obtain⟨_,hc,hop⟩:=hx.real hop;have D:=tz (CO m (by omega)) S.oO MO hc S.HU S.rel hop
     have key:∀u w1,qH base ρ s.hp w v h' u w1→wpOps P ops Q (uM (i+1) os.length) (a.put o.dst u) w1:=by
      rintro u w1 ⟨ρ1,X,hv,rfl⟩;have S1:=S.put X hv x.dst hx.lt;rw[hx.dst]at S1;rw[hx.dst]at hr;exact ih (i+1) os xs ρ1 _ _ _ e s' (by omega) hdrop' hrest S1 hr fun a' w' ρ' S' X'=>hQ a' w' ρ' S' (X.trans X')
     exact .inl (kT.wp D key)
    ·cases hr
   ·rename_i hwt;rw[hw,hwt];simp only[bZ,if_false];have S1:=S.QP x.dst hx.lt;rw[hx.dst]at S1;rw[hx.dst]at hr;exact ih (i+1) os xs ρ _ _ _ e s' (by omega) hdrop' hrest S1 hr hQ
end
section
variable {E:Env}{s:St}{tm:T AV}{h h':Hp}{v x y:AV}{Q:Ex→St→Prop}{K:AV→Hp→Prop}{a b c:au}{r:List aC}{d:Option Nat}{o:gM}{k:IntKind}{m n i j:Int}
theorem Mn:val tm (.k v)=v:=rfl
theorem Co {t:Nat}:val (.nil:T AV) (.t t)=jC:=rfl
theorem yB {t:Nat}:put tm (some t) v=tm.set t v:=rfl
theorem yC:put tm none v=tm:=rfl
theorem vU {t:Nat}:ie [] t tm=tm:=rfl
theorem uf {t:Nat}{l:List AV}:ie (v::l) t tm=ie l (t+1) (tm.set t v):=rfl
theorem yv {t:Nat}:nj s (.tmp t)=some (val s.tm (.t t)):=rfl
theorem Qp {t:Nat}:eC s [.tmp t]=some (val s.tm (.t t)):=rfl
theorem Qq:eC s []=some (.fO []):=rfl
theorem Qn {t t':Nat}:eC s [.tmp t,.tmp t']=some (.fO [val s.tm (.t t),val s.tm (.t t')]):=rfl
theorem Ql {t t' t'':Nat}:eC s [.tmp t,.tmp t',.tmp t'']=some (.fO [val s.tm (.t t),val s.tm (.t t'),val s.tm (.t t'')]):=rfl
def bC (v:AV)(b:Bool):Bool:=
 match v with
 | .bool c=>c==b
 |_=>false
theorem yc {t:Nat}{b:Bool}:wanted tm (some (t,b))=bC (val tm (.t t)) b:=by rw[AG];rfl
theorem bC.tt:bC (.bool true) true=true:=rfl
theorem bC.tf:bC (.bool true) false=false:=rfl
theorem bC.ft:bC (.bool false) true=false:=rfl
theorem bC.ff:bC (.bool false) false=true:=rfl
theorem bC.jC {b:Bool}:bC (.fO []) b=false:=rfl
theorem bC.My {p:Prop}{_:Decidable p}(hp:p):bC (.bool (decide p)) true=true:=by simp[bC,hp]
theorem bC.MC {p:Prop}{_:Decidable p}(hp:¬p):bC (.bool (decide p)) true=false:=by simp[bC,hp]
theorem bC.Mz {p:Prop}{_:Decidable p}(hp:p):bC (.bool (decide p)) false=false:=by simp[bC,hp]
theorem bC.MD {p:Prop}{_:Decidable p}(hp:¬p):bC (.bool (decide p)) false=true:=by simp[bC,hp]
theorem gg.dec {p:Prop}{_:Decidable p}{b:Bool}(h1:p→gg E (bC (.bool true) b) o d r s Q)(h2:¬p→gg E (bC (.bool false) b) o d r s Q):gg E (bC (.bool (decide p)) b) o d r s Q:=by
 by_cases hp:p
 ·rw[decide_eq_true hp];exact h1 hp
 ·rw[decide_eq_false hp];exact h2 hp
theorem lS.dec {p:Prop}{_:Decidable p}{b:Bool}{acc:List (Nat×Nat)}{acc':Option (List (Nat×Nat))}{i c0:Nat}(h1:p→lS E (bC (.bool true) b) acc acc' d o r i c0 s Q)(h2:¬p→lS E (bC (.bool false) b) acc acc' d o r i c0 s Q):lS E (bC (.bool (decide p)) b) acc acc' d o r i c0 s Q:=by
 by_cases hp:p
 ·rw[decide_eq_true hp];exact h1 hp
 ·rw[decide_eq_false hp];exact h2 hp
theorem dj.kr {p:Prop}{_:Decidable p}(h1:¬p→Wp E a s Q)(h2:p→Wp E b s Q):dj E (.bool (decide (¬p))) a b s Q:=by
 by_cases hp:p
 ·rw[decide_eq_false (fun e=>e hp)];exact h2 hp
 ·rw[decide_eq_true hp];exact h1 hp
theorem gg.kr {p:Prop}{_:Decidable p}{b:Bool}(h1:¬p→gg E (bC (.bool true) b) o d r s Q)(h2:p→gg E (bC (.bool false) b) o d r s Q):gg E (bC (.bool (decide (¬p))) b) o d r s Q:=by
 by_cases hp:p
 ·rw[decide_eq_false (fun e=>e hp)];exact h2 hp
 ·rw[decide_eq_true hp];exact h1 hp
theorem vV {p:Prop}{_:Decidable p}:(!decide p)=decide (¬p):=by by_cases hp:p<;>simp[hp]
theorem PX {z:bp}:bY E (.mv z) s K↔K (val s.tm z) s.hp:=bY.bN rfl
def dD (v a b:AV)(h:Hp)(K:AV→Hp→Prop):Prop:=
 match v with
 | .bool true=>K a h
 | .bool false=>K b h
 |_=>False
theorem dD.t:dD (.bool true) x y h K↔K x h:=ax
theorem dD.f:dD (.bool false) x y h K↔K y h:=ax
theorem dD.pos {p:Prop}{_:Decidable p}(hp:p):dD (.bool (decide p)) x y h K↔K x h:=by rw[decide_eq_true hp];exact ax
theorem dD.neg {p:Prop}{_:Decidable p}(hp:¬p):dD (.bool (decide p)) x y h K↔K y h:=by rw[decide_eq_false hp];exact ax
theorem dD.dec {p:Prop}{_:Decidable p}(h1:p→K x h)(h2:¬p→K y h):dD (.bool (decide p)) x y h K:=by
 by_cases hp:p
 ·rw[decide_eq_true hp];exact h1 hp
 ·rw[decide_eq_false hp];exact h2 hp
theorem dD.kr {p:Prop}{_:Decidable p}(h1:¬p→K x h)(h2:p→K y h):dD (.bool (decide (¬p))) x y h K:=by
 by_cases hp:p
 ·rw[decide_eq_false (fun e=>e hp)];exact h2 hp
 ·rw[decide_eq_true hp];exact h1 hp
theorem bC.Gg {p:Prop}{_:Decidable p}(hp:p):bC (.bool (decide (¬p))) true=false:=by simp[bC,hp]
theorem bC.Gh {p:Prop}{_:Decidable p}(hp:p):bC (.bool (decide (¬p))) false=true:=by simp[bC,hp]
theorem dD.Gi {p:Prop}{_:Decidable p}(hp:p):dD (.bool (decide (¬p))) x y h K↔K y h:=by rw[decide_eq_false (fun e=>e hp)];exact ax
theorem dj.Gi {p:Prop}{_:Decidable p}(hp:p):dj E (.bool (decide (¬p))) a b s Q↔Wp E b s Q:=by rw[decide_eq_false (fun e=>e hp)];exact ax
theorem Fk {z u w:bp}:bY E (.pick z u w) s K↔dD (val s.tm z) (val s.tm u) (val s.tm w) s.hp K:=by
 rw[bY.bN rfl];simp only[lV,po,dD];cases val s.tm z<;>try exact ax
 rename_i b;cases b<;>exact ax
theorem Cm {z:List AV}:bY E (.alloc z) s K↔K (.ptr s.hp.next 0) (s.hp.push fun t=> .row z true t):=bY.bN rfl
theorem P0 {z:bp}:bY E (.box z) s K↔dK (tI z (val s.tm) s.hp) K:=bY.bN rfl
theorem I0 {z:List AV}{ps:List (Nat×Nat×bp)}:bY E (.build z ps) s K↔dK (kD z ps (val s.tm) s.hp) K:=bY.bN rfl
theorem PZ {sz l:Nat}{z:List AV}{ps:List (Nat×Nat×bp)}:bY E (.Az sz l z ps) s K↔dK (nq sz l z ps (val s.tm) s.hp) K:=bY.bN rfl
theorem Fu {sz l:Nat}{z:List AV}{ps:List (Nat×Nat×bp)}:bY E (.cL sz l z ps) s K↔dK (hZ sz l z ps (val s.tm) s.hp) K:=bY.bN rfl
theorem Mm {q:mO}{z u:bp}{op:BinOp}:bY E (.bin op q z u) s K↔eX (dH op q (val s.tm z) (val s.tm u)) s.hp K:=by
 rw[bY.bN rfl];simp only[lV,tJ,eX];cases dH op q (val s.tm z) (val s.tm u)<;>exact ax
theorem PW {z:bp}{op:UnOp}:bY E (.un op z) s K↔eX (Ny op (val s.tm z)) s.hp K:=by
 rw[bY.bN rfl];simp only[lV,Bb,eX];cases Ny op (val s.tm z)<;>exact ax
def O5 (k:IntKind):AV→Option AV
 | .int _ n=>some (.int k (k.wrap n))
 |_=>none
theorem zL {k':IntKind}:O5 k (.int k' n)=some (.int k (k.wrap n)):=rfl
theorem Ml {z:bp}:bY E (.sJ k z) s K↔eX (O5 k (val s.tm z)) s.hp K:=by
 rw[bY.bN rfl];simp only[lV,tH,eX];cases val s.tm z<;>simp[O5,gK,dK]
def Sk:AV→Option AV
 | .str s=>some (.str s)
 |_=>none
theorem zK {l:List UInt8}:Sk (.str l)=some (.str l):=rfl
theorem Mk {z:bp}:bY E (.PO z) s K↔eX (Sk (val s.tm z)) s.hp K:=by
 rw[bY.bN rfl];simp only[lV,tG,eX];cases val s.tm z<;>exact ax
theorem Mf {t:Nat}{z:bp}:bY E (.ER t z) s K↔K (.qZ t (val s.tm z)) s.hp:=bY.bN rfl
theorem Mg {f:Nat}{cs:List bp}:bY E (.Og f cs) s K↔K (.fn f (cs.map (val s.tm))) s.hp:=bY.bN rfl
theorem Me {sz by_:Nat}{z:List AV}{l u:bp}:bY E (.uN sz by_ z l u) s K↔dK (rO sz by_ z l u (val s.tm) s.hp) K:=bY.bN rfl
theorem Uo {sz:Nat}{z:bp}{lo hi:Option bp}:bY E (.sl sz z lo hi) s K↔dK (AN s.hp sz (val s.tm z) (lo.map (val s.tm)) (hi.map (val s.tm))) K:=bY.bN rfl
theorem jA {sz by_:Nat}{z u:bp}:bY E (.app sz by_ z u) s K↔dK (jm s.hp sz by_ (val s.tm z) (val s.tm u)) K:=bY.bN rfl
theorem IZ:bY E .vF s K↔K (.map s.hp.next) (s.hp.push fun t=> .kx [] t):=bY.bN rfl
theorem Ns {z u w:bp}:bY E (.yS z u w) s K↔dK (pp z u w (val s.tm) s.hp) K:=bY.bN rfl
theorem PY {z u:bp}{w:AV}{ok:Bool}:bY E (.Ok z u w ok) s K↔dK (tC z u w ok (val s.tm) s.hp) K:=bY.bN rfl
def yn (x:AV)(lo hi:Option AV):Option AV:=
 match x with
 | .str s=>AM s lo hi
 |_=>none
theorem L9 {z:bp}{lo hi:Option bp}:bY E (.qO z lo hi) s K↔eX (yn (val s.tm z) (lo.map (val s.tm)) (hi.map (val s.tm))) s.hp K:=by
 rw[bY.bN rfl];simp only[lV,tB,eX];cases hz:val s.tm z<;>try exact ax
 rename_i l;simp only[yn];cases AM l (lo.map (val s.tm)) (hi.map (val s.tm))<;>exact ax
theorem Cs {l:List UInt8}(h0:0≤i∧i≤l.length):yn (.str l) (some (.int k i)) none=some (.str (l.drop i.toNat)):=by
 simp only[yn,AM,bound];rw[if_pos (by omega),List.take_of_length_le (ae _)]
theorem Cu {l:List UInt8}(h0:0≤i∧i≤l.length):yn (.str l) none (some (.int k i))=some (.str (l.take i.toNat)):=by
 simp only[yn,AM,bound];rw[if_pos (by omega)];simp
theorem Ct {l:List UInt8}{k':IntKind}(h0:0≤i∧i≤j∧j≤l.length):yn (.str l) (some (.int k i)) (some (.int k' j))=some (.str ((l.take j.toNat).drop i.toNat)):=by
 simp only[yn,AM,bound];rw[if_pos (by omega)];simp only;rw[if_pos (by omega)]
def Hh (x y:AV):Option AV:=
 match x,y with
 | .str s,.int _ i=>if 0≤i∧i<s.length then some (.int .u8 ((s.getD i.toNat 0).toNat:Int))else none
 |_,_=>none
theorem tQ {l:List UInt8}(h0:0≤i∧i<l.length):Hh (.str l) (.int k i)=some (.int .u8 ((l.getD i.toNat 0).toNat:Int)):=if_pos h0
theorem Fo {z u:bp}:bY E (.idxs z u) s K↔eX (Hh (val s.tm z) (val s.tm u)) s.hp K:=by
 rw[bY.bN rfl];simp only[lV,pu,eX];cases hz:val s.tm z<;>try exact ax
 rename_i l;cases hu:val s.tm u<;>try exact ax
 rename_i k i;simp only[Hh];by_cases h1:0≤i
 ·rw[if_pos h1];by_cases h2:i<l.length
  ·rw[if_pos ⟨h1,h2⟩];obtain⟨b,hb⟩:∃b,l[i.toNat]?=some b:=⟨l[i.toNat],aI (by omega)⟩
   rw[hb,aW,hb];exact ax
  ·rw[if_neg (fun e=>h2 e.2),bO (by omega)];exact ax
 ·rw[if_neg h1,if_neg (fun e=>h1 e.1)];exact ax
def tO (q:IK)(x:AV):Option AV:=
 match q,x with
 | .str,.str s=>some (.int .i64 s.length)
 | .slice,.sl _ _ n _=>some (.int .i64 n)
 | .slice,.aq=>some (.int .i64 0)
 | .slice,.HW .. =>some (.int .i64 0)
 | .arr n,_=>some (.int .i64 n)
 |_,_=>none
theorem yY {l:List UInt8}:tO .str (.str l)=some (.int .i64 l.length):=rfl
theorem CX {t p l z:Nat}:tO .slice (.sl t p l z)=some (.int .i64 l):=rfl
theorem vJ:tO .slice .aq=some (.int .i64 0):=rfl
theorem yZ {l:Nat}:tO (.arr l) x=some (.int .i64 l):=by cases x<;>rfl
theorem Mh {q:IK}{z:bp}:bY E (.len q z) s K↔eX (tO q (val s.tm z)) s.hp K:=by
 rw[bY.bN rfl];simp only[lV,tD,eX];cases q<;>cases val s.tm z<;>exact ax
def HT (x:AV)(i:Nat):Option AV:=
 match x with
 | .fO l=>l[i]?
 |_=>none
theorem HS {l:List AV}:HT (.fO (x::l)) 0=some x:=rfl
theorem HR {l:List AV}:HT (.fO (x::y::l)) 1=some y:=rfl
theorem HP {l:List AV}:HT (.fO (x::y::v::l)) 2=some v:=rfl
theorem Mj {z:bp}{t:Nat}:bY E (.ext z t) s K↔eX (HT (val s.tm z) t) s.hp K:=by
 rw[bY.bN rfl];simp only[lV,tF,eX];cases hz:val s.tm z<;>try exact ax
 rename_i l;simp only[HT];cases l[t]?<;>exact ax
def xo (ag:Bool)(off l:Nat)(x:AV):Option AV:=
 match x with
 | .agg cs=>if off+l≤cs.length then(if ag then some (.agg ((cs.drop off).take l))else cs[off]?)else none
 |_=>none
theorem Mi {ag:Bool}{off l:Nat}{z:bp}:bY E (.xT ag off l z) s K↔eX (xo ag off l (val s.tm z)) s.hp K:=by
 rw[bY.bN rfl];simp only[lV,tE,eX];cases hz:val s.tm z<;>try exact ax
 rename_i cs;simp only[xo];split
 ·split
  ·exact ax
  ·cases cs[off]?<;>exact ax
 ·exact ax
theorem nG {cs:List AV}{off:Nat}(hc:cs[off]?=some v):xo false off 1 (.agg cs)=some v:=by
 have hl:off<cs.length:=by
  rcases aQ off cs.length with h|h
  ·exact h
  ·rw[bO h]at hc;cases hc
 simp only[xo,if_pos (show off+1≤cs.length by omega),hc,bZ,if_false]
theorem HK {l:List AV}:xo false 0 1 (.agg (x::l))=some x:=nG rfl
theorem HJ {z:AV}{l:List AV}:xo false 1 1 (.agg (z::x::l))=some x:=nG rfl
theorem HI {z u:AV}{l:List AV}:xo false 2 1 (.agg (z::u::x::l))=some x:=nG rfl
theorem HH {z u w:AV}{l:List AV}:xo false 3 1 (.agg (z::u::w::x::l))=some x:=nG rfl
theorem HG {z u w w':AV}{l:List AV}:xo false 4 1 (.agg (z::u::w::w'::x::l))=some x:=nG rfl
def MV (off:Nat)(x:AV):Option AV:=
 match x with
 | .ptr t p=>some (.ptr t (p+off))
 |_=>none
theorem vS {t p off:Nat}:MV off (.ptr t p)=some (.ptr t (p+off)):=rfl
theorem Fs {off:Nat}{z:bp}:bY E (.jk off z) s K↔eX (MV off (val s.tm z)) s.hp K:=by
 rw[bY.bN rfl];simp only[lV,px,eX];cases val s.tm z<;>exact ax
def vM (sz:Nat)(x y:AV):Option AV:=
 match x,y with
 | .sl t p n _,.int _ i=>if 0≤i∧i<(n:Int)then some (.ptr t (p+i.toNat*sz))else none
 |_,_=>none
theorem qo {sz t p l z:Nat}(h0:0≤i∧i<(l:Int)):vM sz (.sl t p l z) (.int k i)=some (.ptr t (p+i.toNat*sz)):=if_pos h0
theorem Fp {sz:Nat}{z u:bp}:bY E (.iG sz z u) s K↔eX (vM sz (val s.tm z) (val s.tm u)) s.hp K:=by
 rw[bY.bN rfl];simp only[lV,pw,eX];cases hz:val s.tm z<;>try exact ax
 cases hu:val s.tm u<;>try exact ax
 simp only[vM];split<;>exact ax
def Bp (sz l:Nat)(x y:AV):Option AV:=
 match x,y with
 | .ptr t p,.int _ i=>if 0≤i∧i<(l:Int)then some (.ptr t (p+i.toNat*sz))else none
 |_,_=>none
theorem tR {sz t p l:Nat}(h0:0≤i∧i<(l:Int)):Bp sz l (.ptr t p) (.int k i)=some (.ptr t (p+i.toNat*sz)):=if_pos h0
theorem Cl {sz l:Nat}{z u:bp}:bY E (.vN sz l z u) s K↔eX (Bp sz l (val s.tm z) (val s.tm u)) s.hp K:=by
 rw[bY.bN rfl];simp only[lV,mi,eX];cases hz:val s.tm z<;>try exact ax
 cases hu:val s.tm u<;>try exact ax
 simp only[Bp];split<;>exact ax
def mN (ag:Bool)(l:Nat)(x:AV)(h:Hp)(K:AV→Hp→Prop):Prop:=
 match x with
 | .ptr t p=>match h.get t with
  |some (.row cs _ _)=>eX (if p+l≤cs.length then(if ag then some (.agg ((cs.drop p).take l))else cs[p]?)else none) h K
  |_=>False
 |_=>False
theorem Fl {ag:Bool}{l:Nat}{z:bp}:bY E (.load ag l z) s K↔mN ag l (val s.tm z) s.hp K:=by
 rw[bY.bN rfl];simp only[lV,pq,mN];cases hz:val s.tm z<;>try exact ax
 rename_i t p;simp only;cases hg:s.hp.get t<;>try exact ax
 rename_i ob;cases ob<;>try exact ax
 rename_i cs own st;simp only;split
 ·split
  ·exact ax
  ·cases cs[p]?<;>exact ax
 ·exact ax
theorem mN.one {t p st:Nat}{cs:List AV}{own:Bool}(hg:h.get t=some (.row cs own st))(hc:cs[p]?=some v):mN false 1 (.ptr t p) h K↔K v h:=by
 have hl:p<cs.length:=by
  rcases aQ p cs.length with h|h
  ·exact h
  ·rw[bO h]at hc;cases hc
 simp only[mN,hg,if_pos (show p+1≤cs.length by omega),hc,bZ,if_false];exact ax
theorem mN.agg {t p l st:Nat}{cs:List AV}{own:Bool}(hg:h.get t=some (.row cs own st))(hc:p+l≤cs.length):mN true l (.ptr t p) h K↔K (.agg ((cs.drop p).take l)) h:=by
 simp only[mN,hg,if_pos hc,if_true];exact ax
def mD (l:Nat)(x y:AV)(h:Hp)(K:AV→Hp→Prop):Prop:=
 match x with
 | .ptr t p=>match h.get t with
  |some (.row cs true _)=>y.cells.length=l∧p+l≤cs.length∧y.cells.all AV.one=true∧K jC (h.put t fun st=> .row (dU cs p y.cells) true st)
  |_=>False
 |_=>False
theorem yd {l:Nat}{z u:bp}:bY E (.store l z u) s K↔mD l (val s.tm z) (val s.tm u) s.hp K:=by
 rw[bY.bN rfl];simp only[lV,oh,mD];cases hz:val s.tm z<;>try exact ax
 rename_i t p;simp only;cases hg:s.hp.get t<;>try exact ax
 rename_i ob;cases ob<;>try exact ax
 rename_i cs own st;cases own<;>try exact ax
 simp only;split
 ·rename_i hc;simp only[hc,true_and];exact ax
 ·rename_i hc;simp only[dK,false_iff];exact fun e=>hc ⟨e.1,e.2.1,e.2.2.1⟩
theorem sV:∀{cs:List AV} {p:Nat},p<cs.length→dU cs p [v]=cs.set p v
 |[],p,h=>absurd h (Nat.not_lt_zero _)
 |c::cs,0,h=>by simp[dU]
 | c::cs,p+1,h=>by
  have:=sV (cs:=cs) (p:=p) (Nat.lt_of_succ_lt_succ h);simp only[dU,ap,aK,dd]at this⊢;simp only[List.take_succ_cons,List.cons_append,List.set_cons_succ,←this];rw[show p+1+1=(p+1)+1 from rfl,List.drop_succ_cons]
theorem mD.one {t p st:Nat}{cs:List AV}(hg:h.get t=some (.row cs true st))(hp:p<cs.length)(hy:y.cells=[y])(ho:y.one=true):
  mD 1 (.ptr t p) y h K↔K jC (h.put t fun st=> .row (cs.set p y) true st):=by
 simp only[mD,hg,hy];rw[sV hp];simp[ho,show p+1≤cs.length by omega]
theorem Hp.Pz {f:Nat→cP}:(h.push f).next=h.next+1:=rfl
theorem Hp.cu {f:Nat→cP}:(h.push f).get h.next=some (f (h.dc+1)):=by rw[Hp.cM,if_pos rfl]
theorem Hp.lH {t:Nat}{f:Nat→cP}:(h.put t f).get t=some (f (h.dc+1)):=by rw[Hp.iM,if_pos rfl]
theorem Hp.cY {t:Nat}{f:Nat→cP}(ht:t≠h.next):(h.push f).get t=h.get t:=by rw[Hp.cM,if_neg ht]
theorem Hp.eW {t u:Nat}{f:Nat→cP}(ht:t≠u):(h.put u f).get t=h.get t:=by rw[Hp.iM,if_neg ht]
theorem Nl {q:mO}:dH .add q (.int k m) (.int k n)=some (.int k (k.wrap (m+n))):=by simp[dH,mS,ki,fx,Dp,gK]
theorem M8 {q:mO}:dH .sub q (.int k m) (.int k n)=some (.int k (k.wrap (m-n))):=by simp[dH,mS,ki,fx,sx,gK]
theorem Nf {q:mO}:dH .mul q (.int k m) (.int k n)=some (.int k (k.wrap (m*n))):=by simp[dH,mS,ki,fx,CW,gK]
theorem Na {q:mO}(hn:n≠0):dH .quo q (.int k m) (.int k n)=some (.int k (k.wrap (m.tdiv n))):=by
 have:(n==0)=false:=beq_eq_false_iff_ne.2 hn;simp[dH,mS,ki,fx,CL,gK,mw,this]
theorem nN {q:mO}(hn:0≤m∧0<n):dH .quo q (.int k m) (.int k n)=some (.int k (k.wrap (m/n))):=by
 rw[Na (by omega),Int.tdiv_eq_ediv_of_nonneg hn.1]
theorem M9 {q:mO}(hn:n≠0):dH .rem q (.int k m) (.int k n)=some (.int k (m.tmod n)):=by
 have:(n==0)=false:=beq_eq_false_iff_ne.2 hn;simp[dH,mS,ki,fx,CI,xd,mw,this]
theorem uz {q:mO}(hn:0≤m∧0<n):dH .rem q (.int k m) (.int k n)=some (.int k (m%n)):=by
 rw[M9 (by omega),Int.tmod_eq_emod_of_nonneg hn.1]
theorem Nk {q:mO}:dH .eql q (.int k m) (.int k n)=some (.bool (decide (m=n))):=by
 simp only[dH,mS,ki,fx,mw,decide_true];by_cases hc:m=n<;>simp[hc]
theorem Nd {q:mO}:dH .neq q (.int k m) (.int k n)=some (.bool (decide (¬m=n))):=by
 simp only[dH,mS,ki,fx,mw,decide_true];by_cases hc:m=n<;>simp[hc]
theorem Ng {q:mO}:dH .lss q (.int k m) (.int k n)=some (.bool (decide (m<n))):=by simp[dH,mS,ki,fx,ny]
theorem Nh {q:mO}:dH .leq q (.int k m) (.int k n)=some (.bool (decide (m≤n))):=by simp[dH,mS,ki,fx,xe]
theorem Ni {q:mO}:dH .gtr q (.int k m) (.int k n)=some (.bool (decide (n<m))):=by simp[dH,mS,ki,fx,ny]
theorem Nj {q:mO}:dH .geq q (.int k m) (.int k n)=some (.bool (decide (n≤m))):=by simp[dH,mS,ki,fx,xe]
theorem Ir {q:mO}{l l':List UInt8}(hl:(l.length:Int)+l'.length≤9223372036854775807):dH .add q (.str l) (.str l')=some (.str (l++l')):=by
 have hm:IntKind.i64.max=9223372036854775807:=rfl;simp only[dH,DE];rw[if_neg (by rw[hm];omega)]
theorem Iq {q:mO}{l l':List UInt8}:dH .eql q (.str l) (.str l')=some (.bool (decide (l=l'))):=by
 simp only[dH,DE];congr 2;rw[mI];simp
theorem Ip {q:mO}{l l':List UInt8}:dH .neq q (.str l) (.str l')=some (.bool (decide (¬l=l'))):=by
 simp only[dH,DE];congr 2;rw[mI];simp
theorem It:dH .eql .iface .jD .jD=some (.bool true):=rfl
theorem Mo {b:Bool}:Ny .not (.bool b)=some (.bool (!b)):=rfl
theorem Mp:Ny .neg (.int k n)=some (.int k (k.wrap (-n))):=by simp[Ny,sx,gK]
theorem wrap_i64 (hn: -9223372036854775808≤n∧n≤9223372036854775807):IntKind.wrap .i64 n=n:=IntWalk.i64_in n hn
theorem wrap_u64 (hn:0≤n∧n≤18446744073709551615):IntKind.wrap .u64 n=n:=IntWalk.u64_in n hn
theorem wrap_u8 (hn:0≤n∧n≤255):IntKind.wrap .u8 n=n:=IntWalk.u8_in n hn
theorem wrap_i32 (hn: -2147483648≤n∧n≤2147483647):IntKind.wrap .i32 n=n:=IntWalk.i32_in n hn
theorem Up {xs:List bp}:bY E (.mx xs) s K↔dK (yN xs (val s.tm) s.hp) K:=bY.bN rfl
theorem Uq {xs:List bp}:bY E (.mn xs) s K↔dK (yO xs (val s.tm) s.hp) K:=bY.bN rfl
theorem Mc {z u:bp}:bY E (.mx [z,u]) s K↔eX (tM (val s.tm z) (val s.tm u)) s.hp K:=by
 rw[Up];simp only[yN,eH,List.map_nil,qw];cases tM (val s.tm z) (val s.tm u)<;>exact ax
theorem Md {z u:bp}:bY E (.mn [z,u]) s K↔eX (tL (val s.tm z) (val s.tm u)) s.hp K:=by
 rw[Uq];simp only[yO,eH,List.map_nil,qw];cases tL (val s.tm z) (val s.tm u)<;>exact ax
theorem vH:tM (.int k m) (.int k n)=some (.int k (max m n)):=by
 simp only[tM,ny];by_cases hc:m<n
 ·simp[hc,show max m n=n by omega]
 ·simp[hc,show max m n=m by omega]
theorem vG:tL (.int k m) (.int k n)=some (.int k (min m n)):=by
 simp only[tL,ny];by_cases hc:n<m
 ·simp[hc,show min m n=n by omega]
 ·simp[hc,show min m n=m by omega]
theorem ac.cZ {f:Nat}{args:List AV}(hc:ac E f args h fun v' xg=>v'=v∧xg=h'):ac E f args h K↔K v h':=by
 obtain⟨v',xg,hc,rfl,rfl⟩:=hc;exact ac.det hc
theorem wb:(AV.int k n).cells=[.int k n]:=rfl
theorem ur {b:Bool}:(AV.bool b).cells=[.bool b]:=rfl
theorem vZ {l:List UInt8}:(AV.str l).cells=[.str l]:=rfl
theorem wa {t p:Nat}:(AV.ptr t p).cells=[.ptr t p]:=rfl
theorem zR {t p l z:Nat}:(AV.sl t p l z).cells=[.sl t p l z]:=rfl
theorem uq:AV.aq.cells=[.aq]:=rfl
theorem zT {f:Nat}{l:List AV}:(AV.fn f l).cells=[.fn f l]:=rfl
theorem wg {l:List AV}:(AV.agg l).cells=l:=rfl
theorem qj:(AV.int k n).one=true:=rfl
theorem yI {b:Bool}:(AV.bool b).one=true:=rfl
theorem CP {l:List UInt8}:(AV.str l).one=true:=rfl
theorem CQ {t p:Nat}:(AV.ptr t p).one=true:=rfl
theorem GD {t p l z:Nat}:(AV.sl t p l z).one=true:=rfl
theorem qi:AV.aq.one=true:=rfl
theorem GI {f:Nat}{l:List AV}:(AV.fn f l).one=true:=rfl
end
def gM.pure:gM→Bool
 | .mv _| .pick .. | .build .. | .yR _| .bin .. | .un .. | .sJ .. | .PO _| .ER .. | .Og .. | .qO .. | .jk .. | .xT .. | .iG .. | .vN .. | .idxs .. | .ext .. | .len .. | .mx _| .mn _| .sl _ _ none _=>true
 |_=>false
theorem yD {a:gM}(ha:a.pure=true){ρ:bp→AV}{h h':Hp}{v:AV}(hr:lV a ρ h=some (v,h')):h'=h∧∀g,lV a ρ g=some (v,g):=by
 cases a
 case sl sz x lo hi=>
  cases lo with
  |some _=>simp[gM.pure]at ha
  | none=>
   simp only[lV]at hr⊢;unfold GJ AN at hr⊢;simp only[bound,Option.map_none]at hr⊢;repeat' split at hr
   all_goals first
    |(cases hr;done)
    |(obtain⟨rfl,rfl⟩:=ai hr;refine⟨rfl,fun g=>?_⟩;simp_all;done)
    |(rename_i h1 h2;simp_all;done)
    |(simp_all;done)
 all_goals(simp only[gM.pure,bZ]at ha;try simp only[lV]at hr⊢)
 all_goals
  first
  |unfold GK at hr⊢|unfold po at hr⊢|unfold kD at hr⊢|unfold ol at hr⊢|unfold tJ at hr⊢
  |unfold Bb at hr⊢|unfold tH at hr⊢|unfold tG at hr⊢|unfold yP at hr⊢|unfold yQ at hr⊢|unfold tB at hr⊢|unfold px at hr⊢|unfold tE at hr⊢|unfold pw at hr⊢
  |unfold mi at hr⊢|unfold pu at hr⊢|unfold tF at hr⊢|unfold tD at hr⊢|unfold yN at hr⊢|unfold yO at hr⊢
  repeat' split at hr
  all_goals first
   |(cases hr;done)
   |(obtain⟨rfl,rfl⟩:=ai hr;refine⟨rfl,fun g=>?_⟩;simp_all;done)
def aC.cls (x:aC):Nat:=
 match x.op with
 | .alloc _=>1
 | .Az .. =>1
 | .load .. =>match x.lE with
  |some _=>0
  |none=>2
 | o=>match o.pure with
  |true=>0
  |false=>2
theorem yX {agg:Bool}{n:Nat}{x:bp}{s:St}{h':Hp}{v:AV}{t:Nat}(hr:lV (.load agg n x) (val s.tm) s.hp=some (v,h'))(ht:reads s (.load agg n x)=some t):
    h'=s.hp∧∀g,g.get t=s.hp.get t→lV (.load agg n x) (val s.tm) g=some (v,g):=by
  simp only[lV]at hr⊢;simp only[reads]at ht;unfold pq at hr⊢;repeat' split at hr
  all_goals first
    |(cases hr;done)
    | (obtain⟨rfl,rfl⟩:=ai hr
       refine⟨rfl,fun g hg=>?_⟩;rename_i hv _ _ _ _ _ _ _ _ _;simp_all;done)
    | (obtain⟨rfl,rfl⟩:=ai hr
       refine⟨rfl,fun g hg=>?_⟩;simp_all;done)
structure Tr (E:Env)(N i:Nat)(xs:List aC)(c0:Nat)(ss:Nat→St)(vs:Nat→AV):Prop where
 step:∀j x,xs[j]?=some x→
  (wanted (ss (i+j)).tm x.qq=true∧(∃m,m<N∧lU x.op E (exec E m) (ss (i+j))=some (vs (i+j),(ss (i+j+1)).hp))∧(ss (i+j+1)).tm=put (ss (i+j)).tm x.dst (vs (i+j))∧
   (∀u,x.lE=some u→∃t,reads (ss (i+j)) x.op=some t∧(i+j≤u→u<i+xs.length→old (ss (u+1)).hp c0 t=true)))∨
  (wanted (ss (i+j)).tm x.qq=false∧vs (i+j)=jC∧(ss (i+j+1)).hp=(ss (i+j)).hp∧(ss (i+j+1)).tm=put (ss (i+j)).tm x.dst jC)
theorem Ac {h:Hp}{c0 i:Nat}{acc:List (Nat×Nat)}(ha:acc.all (fresh h c0 i)=true){t:Nat}(ht:(t,i)∈acc):old h c0 t=true:=by
 have:=bV.1 ha _ ht;simpa[fresh]using this
theorem pH {E:Env}:∀(m:Nat) (xs:List aC) (i c0:Nat) (acc:List (Nat×Nat)) (s:St) (e:Ex) (s':St),exec E m (.kq xs i c0 acc) s=some (e,s')→
  e= .fP∧∃ss vs,ss i=s∧ss (i+xs.length)=s'∧Tr E m i xs c0 ss vs∧∀t u,(t,u)∈acc→i≤u→u<i+xs.length→old (ss (u+1)).hp c0 t=true
 |0,_,_,_,_,_,_,_,hr=>by cases hr
 | m+1,[],i,c0,acc,s,e,s',hr=>by
  rw[aN]at hr;obtain⟨rfl,rfl⟩:=ai (show some (Ex.fP,s)=some (e,s') from hr);exact⟨rfl,fun _=>s,fun _=>jC,rfl,rfl,⟨by simp⟩,fun t u _ h1 h2=>by simp at h2;omega⟩
 | m + 1, x :: xs,i,c0,acc,s,e,s',hr=>by
  rw[aN]at hr;have hr:iY x xs i c0 acc E (exec E m) s=some (e,s'):=hr;unfold iY at hr;split at hr
  ·rename_i hw;split at hr
   ·rename_i v h hop;split at hr
    ·rename_i acc' rP;split at hr
     ·rename_i jR;obtain⟨he,ss,vs,h1,h2,h3,h4⟩:=pH m xs (i+1) c0 acc' _ e s' hr
      have VP:∀y∈acc,y∈acc':=by
       unfold nr at rP;split at rP
       ·obtain rfl:=aa rP;exact fun y hy=>hy
       ·split at rP
        ·obtain rfl:=aa rP;exact fun y hy=> .tail _ hy
        ·cases rP
      have hold:∀t u,(t,u)∈acc'→i≤u→u<i+(x::xs).length→old (if u+1≤i then s else ss (u+1)).hp c0 t=true:=by
       intro t u hm hiu ET;rw[if_neg (by omega)];by_cases hu:u=i
       ·subst hu;rw[h1];exact Ac jR hm
       ·exact h4 t u hm (by omega) (by simp only[ap]at ET;omega)
      refine⟨he,fun k=>if k≤i then s else ss k,fun k=>if k=i then v else vs k,by simp,?_,⟨?_⟩,?_⟩
      ·simp only[ap];rw[if_neg (by omega),←h2];congr 1;omega
      ·intro j y hy;cases j with
       | zero=>
        simp only[ei,cq]at hy;subst hy;simp only[aY,ae,if_true,show ¬i+1≤i by omega,if_false,h1];refine .inl ⟨hw,⟨m,by omega,hop⟩,trivial,fun u hu=>?_⟩;unfold nr at rP;rw[hu]at rP;simp only at rP;split at rP
        ·rename_i t ht;obtain rfl:=aa rP;exact⟨t,ht,fun a b=>hold t u (.head _) a b⟩
        ·cases rP
       | succ j=>
        simp only[dr]at hy;have:=h3.step j y hy;have e1:i+(j+1)=i+1+j:=by omega
        rw[e1,if_neg (by omega),if_neg (by omega),if_neg (by omega)];rcases this with⟨a1,⟨m',a2,Zq⟩,a3,a4⟩|a
        ·refine .inl ⟨a1,⟨m',by omega,Zq⟩,a3,fun u hu=>?_⟩;obtain⟨t,b1,b2⟩:=a4 u hu;refine⟨t,b1,fun c d=>?_⟩;rw[if_neg (by omega)];exact b2 c (by simp only[ap]at d;omega)
        ·exact .inr a
      ·intro t u hm a b;exact hold t u (VP _ hm) a b
     ·cases hr
    ·cases hr
   ·cases hr
  ·rename_i hw;split at hr
   ·rename_i jR;obtain⟨he,ss,vs,h1,h2,h3,h4⟩:=pH m xs (i+1) c0 acc _ e s' hr
    have hold:∀t u,(t,u)∈acc→i≤u→u<i+(x::xs).length→old (if u+1≤i then s else ss (u+1)).hp c0 t=true:=by
     intro t u hm hiu ET;rw[if_neg (by omega)];by_cases hu:u=i
     ·subst hu;rw[h1];exact Ac jR hm
     ·exact h4 t u hm (by omega) (by simp only[ap]at ET;omega)
    refine⟨he,fun k=>if k≤i then s else ss k,fun k=>if k=i then jC else vs k,by simp,?_,⟨?_⟩,hold⟩
    ·simp only[ap];rw[if_neg (by omega),←h2];congr 1;omega
    ·intro j y hy;cases j with
     | zero=>
      simp only[ei,cq]at hy;subst hy;simp only[aY,ae,if_true,show ¬i+1≤i by omega,if_false,h1];exact .inr ⟨hw,trivial,trivial,trivial⟩
     | succ j=>
      simp only[dr]at hy;have:=h3.step j y hy;have e1:i+(j+1)=i+1+j:=by omega
      rw[e1,if_neg (by omega),if_neg (by omega),if_neg (by omega)];rcases this with⟨a1,⟨m',a2,Zq⟩,a3,a4⟩|a
      ·refine .inl ⟨a1,⟨m',by omega,Zq⟩,a3,fun u hu=>?_⟩;obtain⟨t,b1,b2⟩:=a4 u hu;refine⟨t,b1,fun c d=>?_⟩;rw[if_neg (by omega)];exact b2 c (by simp only[ap]at d;omega)
      ·exact .inr a
   ·cases hr
structure Stat (P:Program)(nt:Nat)(ops:Array Oper)(asx:List aC)(anc:Nat→Nat→Prop)(names:Nat→List Nat):Prop where
 size:asx.length=ops.size
 Sl:∀(k:Nat) (o:Oper) (x:aC),ops[k]?=some o→asx[k]?=some x→EJ P nt ops o x
 back:∀(k:Nat) (o:Oper),ops[k]?=some o→∀e∈o.after,Region.binds .any e=true→e.on<k
 vf:∀(S:Nat→Prop),(∀j,S j→∀i,anc j i→S i)→∀(k:Nat) (o:Oper),ops[k]?=some o→(∀e∈o.after,Region.binds .any e=true→S e.on)→∀i,anc k i→S i
 chain:∀(j k:Nat) (x y:aC),j<k→asx[j]?=some x→asx[k]?=some y→x.cls=2→y.cls=2→anc k j
 Po:∀(j k:Nat) (x y:aC),j<k→asx[j]?=some x→asx[k]?=some y→x.cls=1→y.cls=2→anc k j
 Pp:∀(j l k:Nat) (x z y:aC),j≤l→asx[j]?=some x→asx[l]?=some z→asx[k]?=some y→x.cls=1→z.cls=1→y.cls=0→anc k l→anc k j
 Pn:∀(j i k:Nat) (x z y:aC),j<i→asx[j]?=some x→asx[i]?=some z→asx[k]?=some y→x.cls=2→z.cls=1→y.cls=0→anc k i→anc k j
 Pk:∀(j k:Nat) (x y:aC) (sz n:Nat) (z:List AV) (ps:List (Nat×Nat×bp)),asx[j]?=some x→asx[k]?=some y→x.cls=1→y.op= .Az sz n z ps→¬anc k j
 slot:∀(j k:Nat) (x y:aC),j<k→asx[j]?=some x→asx[k]?=some y→¬anc k j→(∀d,x.dst=some d→d∉names k)∧(∀d,y.dst=some d→d∉names j)
 uniq:∀(j k:Nat) (x y:aC) (d:Nat),asx[j]?=some x→asx[k]?=some y→x.dst=some d→y.dst=some d→j=k
 nms:∀(k:Nat) (o:Oper) (x:aC),ops[k]?=some o→asx[k]?=some x→(∀t,.tmp t∈o.op.operands→t∈names k)∧(∀t,.t t∈x.op.Ba→t∈names k)∧(∀d b,x.qq=some (d,b)→d∈names k)
 SV:∀(k:Nat) (x:aC),asx[k]?=some x→x.cls=1→x.qq=none∧∀z,x.op= .alloc z→names k=[]
 lE:∀(k:Nat) (x:aC) (u:Nat),asx[k]?=some x→x.cls=0→x.lE=some u→k≤u∧u<asx.length∧∀(j:Nat) (y:aC),asx[j]?=some y→k<j→y.cls=2→¬anc j k→j≤u
theorem rq {P:Program}{o:Oper}{a:gM}(h:gE P o=some a):∀cs b,o.op≠ .select cs b:=by
 intro cs b e;unfold gE at h;rw[e]at h;simp at h
theorem BS (x:aC):x.cls=0∨x.cls=1∨x.cls=2:=by
 unfold aC.cls;repeat' split
 all_goals simp
theorem Dj {x:aC}(h:x.cls=1):(∃z,x.op= .alloc z)∨∃sz n z ps,x.op= .Az sz n z ps:=by
 unfold aC.cls at h;repeat' split at h
 all_goals first|exact .inl ⟨_,by assumption⟩|exact .inr ⟨_,_,_,_,by assumption⟩|cases h
def AV.Bf (v:AV)(t:Nat):AV:=
 match v with
 | .ptr _ o=> .ptr t o
 | .sl _ o n z=> .sl t o n z
 |v=>v
def AV.new (v:AV)(t:Nat):Prop:=v= .ptr t 0∨∃n z,v= .sl t 0 n z
theorem GO {v:AV}{t:Nat}(hv:v.new t):v.Bf t=v:=by
 rcases hv with rfl|⟨n,z,rfl⟩<;>rfl
theorem CV {v:AV}{t:Nat}(hv:v.new t)(ρ:dw)(t':Nat):enc ρ (v.Bf t')=enc (fun _=>ρ t') v:=by
 rcases hv with rfl|⟨n,z,rfl⟩<;>simp[AV.Bf,enc]
theorem Oe {v:AV}{t:Nat}(hv:v.new t){ρ:dw}{t' N:Nat}(h:ok ρ N (v.Bf t')){N':Nat}(hN:t<N'):ok (fun _=>ρ t') N' v:=by
 rcases hv with rfl|⟨n,z,rfl⟩
 ·simp only[ok];exact hN
 ·simp only[AV.Bf,ok]at h⊢;exact⟨hN,h.2⟩
theorem JP {v:AV}{t:Nat}(hv:v.new t){ρ:dw}{t' N:Nat}(h:ok (fun _=>ρ t') (t+1) v)(hN:t'<N):ok ρ N (v.Bf t'):=by
 rcases hv with rfl|⟨n,z,rfl⟩
 ·simp only[AV.Bf,ok];exact hN
 ·simp only[AV.Bf,ok]at h⊢;exact⟨hN,h.2⟩
theorem yW {cs:List AV}(h:cs.all AV.lone=true)(ρ ρ':dw)(N:Nat):encs ρ cs=encs ρ' cs∧gP ρ N cs∧∀v∈cs,v.one=true:=by
 have h:=bV.1 h;refine⟨?_,?_,fun v hv=>?_⟩
 ·rw[cC,cC]
  exact bJ fun v hv=>by
   have:=h v hv;cases v<;>first|(simp[AV.lone]at this;done)|simp[enc]
 ·rw[cQ];intro v hv;have:=h v hv;cases v<;>first|(simp[AV.lone]at this;done)|simp[ok]
 ·have:=h v hv;cases v<;>first|(simp[AV.lone]at this;done)|rfl
theorem zO {x:aC}(h:x.cls=0):x.op.calls=false∧(x.op.pure=true∨∃a n y u,x.op= .load a n y∧x.lE=some u):=by
 obtain⟨dst,op,qq,lE⟩:=x;cases op
 case load a n y=>
  cases lE with
  |none=>simp[aC.cls]at h
  |some u=>exact⟨rfl,.inr ⟨a,n,y,u,rfl,rfl⟩⟩
 case sl sz y lo hi=>
  cases lo with
  |none=>exact⟨rfl,.inl rfl⟩
  |some l=>simp[aC.cls,gM.pure]at h
 all_goals first
  |exact⟨rfl,.inl rfl⟩
  |(simp[aC.cls,gM.pure]at h;done)
def NA (P:Program)(o:Option gM):Prop:=∀z,o=some (.alloc z)→∃e,ku P e=some z
theorem kK {P:Program}{α:Type}{x:Option α}{f:α→Option gM}(h:∀y,x=some y→NA P (f y)):NA P (x.bind f):=fun a e=>by
 obtain⟨y,hx,hy⟩:=bind_some e;exact h y hx a hy
theorem kH {P:Program}{a:gM}(h:∀z,a≠ .alloc z):NA P (some a):=fun z e=>absurd (aa e) (h z)
theorem kJ {P:Program}:NA P none:=nofun
theorem QZ {P:Program}{o:Oper}:NA P (gE P o):=by
 obtain⟨dst,op,ty,pos,af,gd⟩:=o;cases op
 case alloc e=>
  intro z hz;simp only[gE]at hz;obtain⟨y,hy,hz⟩:=bind_some hz;simp only[cq,gM.alloc.injEq]at hz;subst hz;exact⟨e,hy⟩
 case call c=>
  obtain⟨callee,args,ats⟩:=c;cases callee
  case value f=>cases f<;>simp only[gE]<;>repeat'(first|exact kJ|exact kH (fun _=>nofun)|(apply kK;intro _ _)|split)
  case invoke x n=>simp only[gE]<;>repeat'(first|exact kJ|exact kH (fun _=>nofun)|(apply kK;intro _ _)|split)
  case builtin b=>cases b<;>simp only[gE]<;>repeat'(first|exact kJ|exact kH (fun _=>nofun)|(apply kK;intro _ _)|split)
 case makeFunc f first cs=>cases f<;>simp only[gE]<;>repeat'(first|exact kJ|exact kH (fun _=>nofun)|(apply kK;intro _ _)|split)
 case makeMap t r=>cases r<;>simp only[gE]<;>repeat'(first|exact kJ|exact kH (fun _=>nofun)|(apply kK;intro _ _)|split)
 case slice t x lo hi m=>cases m<;>simp only[gE]<;>repeat'(first|exact kJ|exact kH (fun _=>nofun)|(apply kK;intro _ _)|split)
 case next x b=>cases b<;>simp only[gE]<;>repeat'(first|exact kJ|exact kH (fun _=>nofun)|(apply kK;intro _ _)|split)
 all_goals simp only[gE]<;>repeat'(first|exact kJ|exact kH (fun _=>nofun)|(apply kK;intro _ _)|split)
def NF (o:Option gM):Prop:=∀sz n z ps,¬o=some (.Az sz n z ps)
theorem kG {α:Type}{x:Option α}{f:α→Option gM}(h:∀y,x=some y→NF (f y)):NF (x.bind f):=fun sz n z ps e=>by
 obtain⟨y,hx,hy⟩:=bind_some e;exact h y hx sz n z ps hy
theorem kE {a:gM}(h:∀sz n z ps,a≠ .Az sz n z ps):NF (some a):=fun sz n z ps e=>absurd (aa e) (h sz n z ps)
theorem kF:NF none:=nofun
theorem QX {P:Program}{o:Oper}:NF (gE P o):=by
 obtain⟨dst,op,ty,pos,af,gd⟩:=o;cases op
 case call c=>
  obtain⟨callee,args,ats⟩:=c;cases callee
  case value f=>cases f<;>simp only[gE]<;>repeat'(first|exact kF|exact kE (fun _ _ _ _=>nofun)|(apply kG;intro _ _)|split)
  case invoke x n=>simp only[gE]<;>repeat'(first|exact kF|exact kE (fun _ _ _ _=>nofun)|(apply kG;intro _ _)|split)
  case builtin b=>cases b<;>simp only[gE]<;>repeat'(first|exact kF|exact kE (fun _ _ _ _=>nofun)|(apply kG;intro _ _)|split)
 case makeFunc f first cs=>cases f<;>simp only[gE]<;>repeat'(first|exact kF|exact kE (fun _ _ _ _=>nofun)|(apply kG;intro _ _)|split)
 case makeMap t r=>cases r<;>simp only[gE]<;>repeat'(first|exact kF|exact kE (fun _ _ _ _=>nofun)|(apply kG;intro _ _)|split)
 case slice t x lo hi m=>cases m<;>simp only[gE]<;>repeat'(first|exact kF|exact kE (fun _ _ _ _=>nofun)|(apply kG;intro _ _)|split)
 case next x b=>cases b<;>simp only[gE]<;>repeat'(first|exact kF|exact kE (fun _ _ _ _=>nofun)|(apply kG;intro _ _)|split)
 all_goals simp only[gE]<;>repeat'(first|exact kF|exact kE (fun _ _ _ _=>nofun)|(apply kG;intro _ _)|split)
theorem xF {P:Program}{o:Oper}{z:List AV}(h:gE P o=some (.alloc z)):∃vs:List Value,∀(ρ:dw) (N:Nat),encs ρ z=vs∧gP ρ N z∧∀v∈z,v.one=true:=by
 obtain⟨e,he⟩:=QZ z h;obtain⟨i,zv,h1,h2,h3⟩:=mb he;exact⟨_,fun ρ N=>iR h3 ρ N⟩
section
variable {P:Program}{base nt N:Nat}{E:Env}{ops:Array Oper}{asx:List aC}{anc:Nat→Nat→Prop}{names:Nat→List Nat}{ss:Nat→St}{vs:Nat→AV}{ρ0 ρ ρ':dw}{a0 a:Act}{w0 w w':World}
variable {c0:Nat}
theorem Tr.at (T:Tr E N 0 asx c0 ss vs){k:Nat}{x:aC}(hx:asx[k]?=some x):
  (wanted (ss k).tm x.qq=true∧(∃m,m<N∧lU x.op E (exec E m) (ss k)=some (vs k,(ss (k+1)).hp))∧(ss (k+1)).tm=put (ss k).tm x.dst (vs k)∧
   (∀u,x.lE=some u→∃t,reads (ss k) x.op=some t∧(k≤u→u<asx.length→old (ss (u+1)).hp c0 t=true)))∨
  (wanted (ss k).tm x.qq=false∧vs k=jC∧(ss (k+1)).hp=(ss k).hp∧(ss (k+1)).tm=put (ss k).tm x.dst (vs k)):=by
 have:=T.step k x hx;simp only[dd]at this;rcases this with h|⟨h1,h2,h3,h4⟩
 ·exact .inl h
 ·exact .inr ⟨h1,h2,h3,by rw[h2];exact h4⟩
theorem Tr.tm (T:Tr E N 0 asx c0 ss vs){k:Nat}{x:aC}(hx:asx[k]?=some x):(ss (k+1)).tm=put (ss k).tm x.dst (vs k):=by
 rcases T.at hx with h|h
 ·exact h.2.2.1
 ·exact h.2.2.2
theorem ri {k:Nat}(h:k<asx.length):∃x,asx[k]?=some x:=⟨asx[k],aI h⟩
theorem Tr.later (PL:ga E)(T:Tr E N 0 asx c0 ss vs)(j:Nat):∀d,j+d≤asx.length→bH (ss j).hp (ss (j+d)).hp
 |0,_=>bH.refl _
 | d+1,h=>by
  refine(T.later PL j d (by omega)).trans ?_;obtain⟨x,hx⟩:=ri (asx:=asx) (k:=j+d) (by omega);rcases T.at hx with⟨_,⟨m,_,ho⟩,_⟩|⟨_,_,he,_⟩
  ·exact qU PL (ub PL m) ho
  ·rw[←dz,he];exact bH.refl _
theorem Tr.Bh (PL:ga E)(T:Tr E N 0 asx c0 ss vs){j k:Nat}(h:j≤k)(hk:k≤asx.length):bH (ss j).hp (ss k).hp:=by
 have:=T.later PL j (k-j) (by omega);rwa[show j+(k-j)=k by omega]at this
theorem Tr.same (T:Tr E N 0 asx c0 ss vs){d:Nat}{j:Nat}:∀k,j≤k→k≤asx.length→(∀i x,j≤i→i<k→asx[i]?=some x→x.dst≠some d)→val (ss k).tm (.t d)=val (ss j).tm (.t d)
 |0,h,_,_=>by rw[show j=0 by omega]
 | k +1,h,hk,hn=>by
  by_cases e:j=k+1
  ·rw[e]
  ·obtain⟨x,hx⟩:=ri (asx:=asx) (k:=k) (by omega);rw[T.tm hx,wG,if_neg (hn k x (by omega) (by omega) hx)];exact T.same k (by omega) (by omega) (fun i x h1 h2=>hn i x h1 (by omega))
theorem Tr.wrote (ST:Stat P nt ops asx anc names)(T:Tr E N 0 asx c0 ss vs){d j k:Nat}{x:aC}(hx:asx[j]?=some x)(hd:x.dst=some d)(h:j<k)(hk:k≤asx.length):val (ss k).tm (.t d)=vs j:=by
 rw[T.same (j:=j+1) k (by omega) hk (fun i y h1 h2 hy e=>by have:=ST.uniq i j y x d hy hx e hd;omega),T.tm hx,wG,if_pos hd]
theorem Tr.still (T:Tr E N 0 asx c0 ss vs){k:Nat}{x:aC}(hx:asx[k]?=some x)(hc:x.cls=0):(ss (k+1)).hp=(ss k).hp:=by
 rcases T.at hx with⟨_,⟨m,_,ho⟩,_,hs⟩|⟨_,_,he,_⟩
 ·obtain⟨h1,h2⟩:=zO hc;have:lU x.op E (exec E m) (ss k)=lV x.op (val (ss k).tm) (ss k).hp:=by cases hh:x.op<;>rw[hh]at h1<;>first|(simp[gM.calls]at h1;done)|rfl
  rw[this]at ho;rcases h2 with h2|⟨ag,n,y,u,h3,h4⟩
  ·exact(yD h2 ho).1
  ·obtain⟨t,ht,_⟩:=hs u h4;rw[h3]at ho ht;exact(yX ho ht).1
 ·exact he
structure vg (ss:Nat→St)(vs:Nat→AV)(k:Nat)(cs:List AV):Prop where
 hp:(ss (k+1)).hp=(ss k).hp.push fun s=> .row cs true s
 val:(vs k).new (ss k).hp.next
 same:∀(ρ ρ':dw) (N:Nat),encs ρ cs=encs ρ' cs∧gP ρ N cs∧∀v∈cs,v.one=true
theorem Tr.born (ST:Stat P nt ops asx anc names)(T:Tr E N 0 asx c0 ss vs){k:Nat}{x:aC}(hx:asx[k]?=some x)(hc:x.cls=1):∃cs,vg ss vs k cs:=by
 have hwt:wanted (ss k).tm x.qq=true:=by rw[(ST.SV k x hx hc).1];rfl
 rcases T.at hx with⟨_,⟨m,_,ho⟩,_⟩|⟨hn,_⟩
 ·rcases Dj hc with⟨z,hz⟩|⟨sz,n,z,ps,hz⟩
  ·rw[hz]at ho;have ho:om z (Ae.val (ss k).tm) (ss k).hp=some (vs k,(ss (k+1)).hp):=ho;unfold om at ho;obtain⟨e1,e2⟩:=ai ho;have hlt:k<ops.size:=by rw[←ST.size];exact(aZ.1 hx).1
   have PI:∃vs:List Value,∀(ρ:dw) (N:Nat),encs ρ z=vs∧gP ρ N z∧∀v∈z,v.one=true:=by
    rcases(ST.Sl k ops[k] x (bM hlt) hx).op with c|c|⟨_,_,_,_,_,c⟩
    ·rw[hz]at c;exact xF c
    ·rw[hz]at c;cases c
    ·rw[hz]at c;cases c
   obtain⟨vz,VH⟩:=PI;exact⟨z,e2.symm,.inl e1.symm,fun ρ ρ' N=>⟨(VH ρ N).1.trans (VH ρ' N).1.symm,(VH ρ N).2⟩⟩
  ·rw [hz]at ho;have ho:nq sz n z ps (Ae.val (ss k).tm) (ss k).hp=some (vs k,(ss (k+1)).hp):=ho;unfold nq at ho;split at ho
   ·rename_i cs hcs;split at ho
    ·rename_i Hz;obtain⟨e1,e2⟩:=ai ho;exact⟨cs,e2.symm,.inr ⟨n,sz,e1.symm⟩,fun ρ ρ' N=>yW Hz.2.2 ρ ρ' N⟩
    ·cases ho
   ·cases ho
 ·rw[hwt]at hn;cases hn
theorem Stat.Iv (ST:Stat P nt ops asx anc names):∀(n k:Nat),k<n→k<asx.length→∀i,anc k i→i<k
 |0,k,h,_,_,_=>by omega
 | n+1,k,h,hk,i,hi=>by
  have hlt:k<ops.size:=by rw[←ST.size];exact hk
  refine ST.vf (fun j=>j<k) (fun j hj i xS=>?_) k ops[k] (bM hlt) (fun e he hb=>ST.back k ops[k] (bM hlt) e he hb) i hi;have:=ST.Iv n j (by omega) (by omega) i xS;omega
end
section
variable {P:Program}{base nt N:Nat}{E:Env}{ops:Array Oper}{asx:List aC}{anc:Nat→Nat→Prop}{names:Nat→List Nat}{ss:Nat→St}{vs:Nat→AV}{ρ0 ρ ρ':dw}{a0 a:Act}{W0 w0 w w':World}{h:Hp}
variable {c0:Nat}
theorem bv.pop {o:Nat→cP}(R':bv base ρ' (h.push o) w')(R:bv base ρ h w)(ha:cV h.next ρ ρ'):bv base ρ h w':=by
 have g:∀t ob,h.get t=some ob→(h.push o).get t=some ob∧ρ' t=ρ t:=fun t ob ht=>by
  have:=R.lt t ob ht;exact⟨by rw[Hp.cM,if_neg (by omega)];exact ht,ha t this⟩
 refine⟨R'.size,R.lt,?_,?_,?_,?_⟩
 ·intro t cs own st ht;obtain⟨h1,h2⟩:=g t _ ht;have r:=R.row t cs own st ht;have r':=R'.row t cs own st h1;refine⟨r.one,r.ok,?_,?_,?_⟩
  ·have:=r'.cells;rw[h2,fA ha _ r.ok]at this;exact this
  ·have:=r'.se;rw[h2]at this;exact this
  ·have:=r'.wW;rw[h2]at this;exact this
 ·intro t s p st ht;obtain⟨h1,h2⟩:=g t _ ht;have:=R'.iter t s p st h1;rwa[h2]at this
 ·intro t es st ht;obtain⟨h1,h2⟩:=g t _ ht;obtain⟨q1,q2,q3⟩:=R.map t es st ht;obtain⟨r1,r2,ms,c,r3,r4⟩:=R'.map t es st h1;rw[h2]at r1 r3;exact⟨r1,q2,ms,c,r3,r4.trans (bJ fun e he=>by rw[du ha _ (q2 e he).2.1,du ha _ (q2 e he).2.2])⟩
 ·intro t t' ob yK ht kj p p' hne;obtain⟨h1,h2⟩:=g t _ ht;obtain⟨h3,h4⟩:=g t' _ kj;have:=R'.apart t t' ob yK h1 h3 p p' hne;rwa[h2,h4]at this
theorem bv.SW (R:bv base ρ h w)(cs:List AV)(p:Place)(h1:∀v∈cs,v.one=true)(h2:gP ρ h.next cs)(hb:base≤p.b∧p.b<w.heap.size)(hc:w.rangeAt p.b p.o (encs ρ cs))(Ov:w.there p.b p.o cs.length)(IQ:w.there p.b p.o (p.c*p.sz))
  (hne:∀t ob,h.get t=some ob→ob.owned=true→(ρ t).b≠p.b):bv base (rK ρ h.next p) (h.push fun s=> .row cs true s) w:=by
 have ha:cV h.next ρ (rK ρ h.next p):=il _ _ _;have hold:∀t ob,h.get t=some ob→t<h.next∧rK ρ h.next p t=ρ t:=fun t ob ht=>⟨R.lt t ob ht,ha t (R.lt t ob ht)⟩
 refine⟨R.size,?_,?_,?_,?_,?_⟩
 ·intro t ob ht;rw[Hp.cM]at ht;show t<h.next+1
  split at ht
  ·omega
  ·have:=R.lt t ob ht;omega
 ·intro t vY own st ht;rw[Hp.cM]at ht;split at ht
  ·rename_i e;subst e;obtain⟨rfl,rfl,rfl⟩:vY=cs∧own=true∧st=h.dc+1:=by simpa[eq_comm]using ht
   refine⟨h1,io ha (ee _) _ h2,?_,?_,by simp⟩
   ·rw[cb,fA ha _ h2];exact hc
   ·intro _;rw[cb];exact⟨hb.1,hb.2,Ov,IQ⟩
  ·have r:=R.row t vY own st ht
   exact r.later ha (ee _) (R.lt _ _ ht) (ae _) (by cases own with
    |true=>exact .inr rfl
    |false=>exact .inr rfl)
 ·intro t s q st ht;rw[Hp.cM]at ht;split at ht
  ·cases ht
  ·rw[(hold t _ ht).2];exact R.iter t s q st ht
 ·intro t es st ht;rw[Hp.cM]at ht;split at ht
  ·cases ht
  ·obtain⟨r1,r2,ms,c,r3,r4⟩:=R.map t es st ht;rw[(hold t _ ht).2]
   exact⟨r1,fun e he=>⟨(r2 e he).1,fy ha (ee _) _ (r2 e he).2.1,fy ha (ee _) _ (r2 e he).2.2⟩,ms,c,r3,
    r4.trans (bJ fun e he=>by rw[du ha _ (r2 e he).2.1,du ha _ (r2 e he).2.2])⟩
 ·intro t t' ob yK ht kj q q' OA;rw[Hp.cM]at ht kj;split at ht<;>split at kj
  ·omega
  ·rename_i e _;subst e;rw[cb,(hold t' _ kj).2];exact fun e=>hne t' yK kj q' e.symm
  ·rename_i _ e;subst e;rw[cb,(hold t _ ht).2];exact hne t ob ht q
  ·rw[(hold t _ ht).2,(hold t' _ kj).2];exact R.apart t t' ob yK ht kj q q' OA
structure TD (base:Nat)(asx:List aC)(ss:Nat→St)(vs:Nat→AV)(w0:World)(f:Nat)(ρ:dw)(a:Act)(w:World)(pl:Nat→Place)(k:Nat)(x:aC)(z:List AV):Prop where
 slot:∀d,x.dst=some d→a.tmps.getD d undef=enc (fun _=>pl k) (vs k)
 QU:ok (fun _=>pl k) ((ss k).hp.next+1) (vs k)
 cells:w.rangeAt (pl k).b (pl k).o (encs ρ z)
 there:w.there (pl k).b (pl k).o z.length
 room:w.there (pl k).b (pl k).o ((pl k).c*(pl k).sz)
 lo:w0.heap.size≤(pl k).b
 lt:(pl k).b<w.heap.size
 apart:∀t ob,(ss f).hp.get t=some ob→ob.owned=true→(ρ t).b≠(pl k).b
structure ju (P:Program)(base nt:Nat)(ops:Array Oper)(asx:List aC)(anc:Nat→Nat→Prop)(ss:Nat→St)(vs:Nat→AV)(ρ0:dw)(a0:Act)(w0:World)(cz:Nat→List AV)(S:Nat→Prop)(f:Nat)(ρ:dw)(a:Act)(w:World)(pl:Nat→Place):Prop where
 RW:f≤asx.length
 vf:∀j,S j→∀i,anc j i→S i
 chain:∀(k:Nat) (x:aC),asx[k]?=some x→x.cls=2→(S k↔k<f)
 alloc:∀(k:Nat) (x:aC),asx[k]?=some x→x.cls=1→k<f→S k
 ext:Ext base ρ0 (ss 0).hp w0 ρ (ss f).hp w
 defers:a.defers=[]
 size:nt≤a.tmps.size
 done:∀(k:Nat) (x:aC),asx[k]?=some x→S k→(x.cls≠1∨k<f)→ok ρ (ss f).hp.next (vs k)∧∀d,x.dst=some d→a.tmps.getD d undef=enc ρ (vs k)
 early:∀(k:Nat) (x:aC),asx[k]?=some x→S k→x.cls=1→f≤k→TD base asx ss vs w0 f ρ a w pl k x (cz k)
 QQ:∀(k k':Nat) (x x':aC),asx[k]?=some x→asx[k']?=some x'→S k→S k'→x.cls=1→x'.cls=1→f≤k→f≤k'→k≠k'→(pl k).b≠(pl k').b
 qK:∀d,(∀(k:Nat) (x:aC),asx[k]?=some x→x.dst=some d→¬S k)→a.tmps.getD d undef=a0.tmps.getD d undef
variable {S:Nat→Prop}{f:Nat}{pl:Nat→Place}{cz:Nat→List AV}
theorem ju.advance (ST:Stat P nt ops asx anc names)(T:Tr E N 0 asx c0 ss vs)(CB:∀(k:Nat) (x:aC),asx[k]?=some x→x.cls=1→vg ss vs k (cz k))
  (D:ju P base nt ops asx anc ss vs ρ0 a0 w0 cz S f ρ a w pl) (Bq:base≤w0.heap.size) {x:aC} (hx:asx[f]?=some x) (h2:x.cls≠2) (h1:x.cls=1→S f):
  ∃ρ',ju P base nt ops asx anc ss vs ρ0 a0 w0 cz S (f+1) ρ' a w pl:=by
 have hlt:f<asx.length:=(aZ.1 hx).1
 have Hx:∀(k:Nat) (y:aC),asx[k]?=some y→y.cls=2→(S k↔k<f+1):=fun k y hy hc=>by
  rw[D.chain k y hy hc];constructor
  ·omega
  ·intro hk;rcases aQ k f with c|c
   ·exact c
   ·obtain rfl:k=f:=by omega
    rw[hx]at hy;obtain rfl:=aa hy;exact absurd hc h2
 have HB:∀(k:Nat) (y:aC),asx[k]?=some y→y.cls=1→k<f+1→S k:=fun k y hy hc hk=>by
  rcases aQ k f with c|c
  ·exact D.alloc k y hy hc c
  ·obtain rfl:k=f:=by omega
   rw[hx]at hy;obtain rfl:=aa hy;exact h1 hc
 have stay:(ss (f+1)).hp=(ss f).hp→x.cls=0→∃ρ',ju P base nt ops asx anc ss vs ρ0 a0 w0 cz S (f+1) ρ' a w pl:=by
  intro he hc0;refine⟨ρ,by omega,D.vf,Hx,HB,by rw[he];exact D.ext,D.defers,D.size,?_,?_,?_,D.qK⟩
  ·intro k y hy hS hk;rw[he];refine D.done k y hy hS ?_;rcases hk with c|c
   ·exact .inl c
   ·rcases aQ k f with c'|c'
    ·exact .inr c'
    ·obtain rfl:k=f:=by omega
     rw[hx]at hy;obtain rfl:=aa hy;exact .inl (by omega)
  ·intro k y hy hS mY hk;have:=D.early k y hy hS mY (by omega);exact⟨this.slot,this.QU,this.cells,this.there,this.room,this.lo,this.lt,by rw[he];exact this.apart⟩
  ·intro k k' y y' hy hy' hS EW hc ky hk hk' hne;exact D.QQ k k' y y' hy hy' hS EW hc ky (by omega) (by omega) hne
 rcases BS x with c|c|c
 ·exact stay (T.still hx c) c
 ·obtain⟨he,hv,PI⟩:=CB f x hx c;have ea:=D.early f x hx (h1 c) c (ae _);have ha:cV (ss f).hp.next ρ (rK ρ (ss f).hp.next (pl f)):=il _ _ _;have R:=D.ext.rel.SW (cz f) (pl f) (PI ρ ρ 0).2.2 (PI ρ ρ _).2.1 ⟨aB Bq ea.lo,ea.lt⟩ ea.cells ea.there ea.room ea.apart;have hnx:(ss (f+1)).hp.next=(ss f).hp.next+1:=by rw[he];rfl
  refine⟨_,by omega,D.vf,Hx,HB,⟨D.ext.agree.trans ha D.ext.next,by rw[hnx];have:=D.ext.next;omega,by rw[he];exact R,D.ext.eK,?_⟩,D.defers,D.size,?_,?_,?_,D.qK⟩
  ·intro t ob ht ho;rw[he,Hp.cM]at ht;split at ht
   ·rename_i e;subst e;rw[cb];exact .inl ea.lo
   ·rw[ha t (D.ext.rel.lt t ob ht)];exact D.ext.fresh t ob ht ho
  ·intro k y hy hS hk;by_cases hkf:k=f
   ·subst hkf;rw[hx]at hy;obtain rfl:=aa hy;have e1:=CV hv (rK ρ (ss k).hp.next (pl k)) (ss k).hp.next;have o1:=JP hv (ρ:=rK ρ (ss k).hp.next (pl k)) (t':=(ss k).hp.next) (N:=(ss (k+1)).hp.next) (by rw[cb];exact ea.QU) (by omega);rw[GO hv]at e1 o1;rw[cb]at e1;exact⟨o1,fun d hd=>by rw[ea.slot d hd,e1]⟩
   ·obtain⟨d1,d2⟩:=D.done k y hy hS (by rcases hk with c|c;exact .inl c;exact .inr (by omega));exact⟨fy ha (by omega) _ d1,fun d hd=>by rw[du ha _ d1];exact d2 d hd⟩
  ·intro k y hy hS mY hk;have q:=D.early k y hy hS mY (by omega);refine⟨q.slot,q.QU,by rw[((CB k y hy mY).same _ ρ 0).1];exact q.cells,q.there,q.room,q.lo,q.lt,?_⟩;intro t ob ht ho;rw[he,Hp.cM]at ht;split at ht
   ·rename_i e;subst e;rw[cb];exact D.QQ f k x y hx hy (h1 c) hS c mY (ae _) (by omega) (by omega)
   ·rw[ha t (D.ext.rel.lt t ob ht)];exact q.apart t ob ht ho
  ·intro k k' y y' hy hy' hS EW hc ky hk hk' hne;exact D.QQ k k' y y' hy hy' hS EW hc ky (by omega) (by omega) hne
 ·exact absurd c h2
theorem ju.Qb (ST:Stat P nt ops asx anc names)(T:Tr E N 0 asx c0 ss vs)(S0:mE W0 base nt ρ0 (ss 0) a0 w0)(D:ju P base nt ops asx anc ss vs ρ0 a0 w0 cz S f ρ a w pl){i:Nat}{x:aC}(hx:asx[i]?=some x)(hn:¬S i)
  (ha:∀j,anc i j→S j) (hal:∀(k:Nat) (y:aC),asx[k]?=some y→y.cls=1→anc i k→k<f) {d:Nat} (hd:d∈names i):
  a.tmps.getD d undef=enc ρ (val (ss i).tm (.t d))∧ok ρ (ss f).hp.next (val (ss i).tm (.t d)):=by
 have hlt:i<asx.length:=(aZ.1 hx).1
 have jC:(∀(k:Nat) (y:aC),asx[k]?=some y→y.dst=some d→¬S k)→(∀(k:Nat) (y:aC),0≤k→k<i→asx[k]?=some y→y.dst≠some d)→a.tmps.getD d undef=enc ρ (val (ss i).tm (.t d))∧ok ρ (ss f).hp.next (val (ss i).tm (.t d)):=by
  intro h1 h2;obtain⟨q1,q2⟩:=S0.tmp d;rw[D.qK d h1,T.same i (aJ _) (by omega) h2,q1];exact⟨(du D.ext.agree _ q2).symm,fy D.ext.agree D.ext.next _ q2⟩
 by_cases hw:∃(k:Nat) (y:aC),asx[k]?=some y∧y.dst=some d
 ·obtain⟨k,y,hy,uO⟩:=hw;rcases mP k i with c|c|c
  ·have PJ:anc i k:=Classical.byContradiction fun hna=>(ST.slot k i y x c hy hx hna).1 d uO hd
   have hSk:=ha k PJ
   obtain⟨d1,d2⟩:=D.done k y hy hSk (by
    by_cases hc:y.cls=1
    ·exact .inr (hal k y hy hc PJ)
    ·exact .inl hc)
   rw[T.wrote ST hy uO c (by omega)];exact⟨d2 d uO,d1⟩
  ·subst c;refine jC (fun k' y' hy' mZ EW=>?_) (fun k' y' _ hk' hy' mZ=>?_)
   ·have:=ST.uniq k' k y' y d hy' hy mZ uO;subst this;exact hn EW
   ·have:=ST.uniq k' k y' y d hy' hy mZ uO;omega
  ·have hSk:¬S k:=fun hS=>by
    have PJ:anc k i:=Classical.byContradiction fun hna=>(ST.slot i k x y c hx hy hna).2 d uO hd
    exact hn (D.vf k hS i PJ)
   refine jC (fun k' y' hy' mZ EW=>?_) (fun k' y' _ hk' hy' mZ=>?_)
   ·have:=ST.uniq k' k y' y d hy' hy mZ uO;subst this;exact hSk EW
   ·have:=ST.uniq k' k y' y d hy' hy mZ uO;omega
 ·exact jC (fun k y hy mZ=>absurd ⟨k,y,hy,mZ⟩ hw) (fun k y _ _ hy mZ=>absurd ⟨k,y,hy,mZ⟩ hw)
theorem vP (g:Nat→AV):∀(l:List Nat) (t:Ae.T AV) (k:Nat),(l.foldl (fun t d=>t.set d (g d)) t).get k=if k∈l then some (g k)else t.get k
 |[],t,k=>by simp
 | d ::l,t,k=>by
  rw[List.foldl_cons,vP g l,Ae.T.qs];by_cases h:k∈l
  ·simp[h]
  ·by_cases h':k=d
   ·simp[h']
   ·simp[h,h']
noncomputable def slotsOf (names:List Nat)(tm:Ae.T AV):Ae.T AV:=names.foldl (fun t d=>t.set d (val tm (.t d))) .nil
theorem uc {names:List Nat}{tm:Ae.T AV}{n:Nat}(hs:∀d∈names,a.tmps.getD d undef=enc ρ (val tm (.t d))∧ok ρ n (val tm (.t d))):
  ∃(ev:Operand→Value) (fI:Ae.T AV),dZ ρ n ev fI∧(∀x,(∀t,x= .tmp t→t∈names)→a.eval x=ev x)∧∀y,(∀t,y= .t t→t∈names)→val tm y=val fI y:=by
 have hv:∀t,val (slotsOf names tm) (.t t)=if t∈names then val tm (.t t)else jC:=by
  intro t;show((slotsOf names tm).get t).getD jC=_
  unfold slotsOf;rw[vP];split<;>rfl
 refine⟨fun x=>match cv x with|some y=>enc ρ (val (slotsOf names tm) y)|none=>a.eval x,slotsOf names tm,?_,?_,?_⟩
 ·intro x y hx;refine⟨by simp only[hx],?_⟩;rcases pL hx with⟨t,rfl,rfl⟩|hh
  ·rw[hv];split
   ·exact(hs t (by assumption)).2
   ·trivial
  ·exact(hh a ρ n _).2.1
 ·intro x hx;show a.eval x=match cv x with|some y=>_|none=>_
  cases hc:cv x with
  |none=>rfl
  | some y=>
   rcases pL hc with⟨t,rfl,rfl⟩|hh
   ·simp only[hv,if_pos (hx t rfl)];exact(hs t (hx t rfl)).1
   ·exact(hh a ρ n _).1
 ·intro y hy;cases y with
  |t t=>rw[hv,if_pos (hy t rfl)]
  |k v=>rfl
theorem ju.exec (ST:Stat P nt ops asx anc names)(CB:∀(k:Nat) (x:aC),asx[k]?=some x→x.cls=1→vg ss vs k (cz k))
  (D:ju P base nt ops asx anc ss vs ρ0 a0 w0 cz S f ρ a w pl) {i:Nat} {x:aC} (hx:asx[i]?=some x) (hn:¬S i)
  (ha:∀j,anc i j→S j) (hlt:∀d,x.dst=some d→d<nt) {f':Nat} (hf:(x.cls=0∧f'=f)∨(x.cls=2∧f=i∧f'=i+1)) {h':Hp} (hh:(ss f').hp=h') (X:Ext base ρ (ss f).hp w ρ' h' w') (hv:ok ρ' h'.next (vs i)):
  ju P base nt ops asx anc ss vs ρ0 a0 w0 cz (fun j=>S j∨j=i) f' ρ' (a.put x.dst (enc ρ' (vs i))) w' pl:=by
 subst hh;have hi:i<asx.length:=(aZ.1 hx).1;have J7:∀y,asx[i]?=some y→y=x:=fun y hy=>by rw[hx]at hy;exact(aa hy).symm
 have hff:f≤f':=by rcases hf with⟨_,c⟩|⟨_,c,d⟩<;>omega
 have hc1:x.cls≠1:=by rcases hf with⟨c,_⟩|⟨c,_⟩<;>omega
 have mT:∀t,(a.put x.dst (enc ρ' (vs i))).tmps.getD t undef=if x.dst=some t then enc ρ' (vs i)else a.tmps.getD t undef:=fun t=>tV _ _ _ (fun d hd=>ah (hlt d hd) D.size) t
 refine⟨?_,?_,?_,?_,D.ext.trans X,by rw[put_defers];exact D.defers,by rw[ti];exact D.size,?_,?_,?_,?_⟩
 ·rcases hf with⟨_,rfl⟩|⟨_,_,rfl⟩
  ·exact D.RW
  ·omega
 ·intro j hj k hk;rcases hj with hj|rfl
  ·exact .inl (D.vf j hj k hk)
  ·exact .inl (ha k hk)
 ·intro k y hy hc;by_cases nE:k=i
  ·subst nE;obtain rfl:=J7 y hy;rcases hf with⟨c,_⟩|⟨_,rfl,rfl⟩
   ·omega
   ·simp
  ·rw[show(S k∨k=i)↔S k by simp[nE],D.chain k y hy hc];rcases hf with⟨_,rfl⟩|⟨_,rfl,rfl⟩
   ·exact ax
   ·omega
 ·intro k y hy hc hk;by_cases nE:k=i
  ·exact .inr nE
  ·refine .inl (D.alloc k y hy hc ?_);rcases hf with⟨_,rfl⟩|⟨_,rfl,rfl⟩<;>omega
 ·intro k y hy hS hk;by_cases nE:k=i
  ·subst nE;obtain rfl:=J7 y hy;exact⟨hv,fun d hd=>by rw[mT,if_pos hd]⟩
  ·have hSk:S k:=hS.resolve_right nE
   obtain⟨d1,d2⟩:=D.done k y hy hSk (by
    rcases hk with c|c
    ·exact .inl c
    ·rcases hf with⟨_,rfl⟩|⟨_,rfl,rfl⟩
     ·exact .inr c
     ·exact .inr (by omega))
   refine⟨fy X.agree X.next _ d1,fun d hd=>?_⟩;rw[mT,if_neg (fun e=>nE (ST.uniq k i y x d hy hx hd e)),du X.agree _ d1];exact d2 d hd
 ·intro k y hy hS mY hk;have nE:k≠i:=fun e=>by subst e;obtain rfl:=J7 y hy;exact hc1 mY
  have q:=D.early k y hy (hS.resolve_right nE) mY (by omega);have hb:w'.heap[(pl k).b]?=w.heap[(pl k).b]?:=X.eK.block _ q.lt q.apart;refine⟨fun d hd=>?_,q.QU,?_,jr hb q.there,jr hb q.room,q.lo,ah q.lt X.eK.size,?_⟩
  ·rw[mT,if_neg (fun e=>nE (ST.uniq k i y x d hy hx hd e))];exact q.slot d hd
  ·rw[((CB k y hy mY).same ρ' ρ 0).1];exact mh hb q.cells
  ·intro t ob ht ho e;rcases X.fresh t ob ht ho with c|⟨t0,o0,c1,c2,c3⟩
   ·rw[e]at c;have:=q.lt;omega
   ·exact q.apart t0 o0 c1 c2 (c3.trans e)
 ·intro k k' y y' hy hy' hS EW hc ky hk hk' hne;have nE:k≠i:=fun e=>by subst e;obtain rfl:=J7 y hy;exact hc1 hc
  have zf:k'≠i:=fun e=>by subst e;obtain rfl:=J7 y' hy';exact hc1 ky
  exact D.QQ k k' y y' hy hy' (hS.resolve_right nE) (EW.resolve_right zf) hc ky (by omega) (by omega) hne
 ·intro d hd;rw[mT,if_neg (fun e=>hd i x hx e (.inr rfl))];exact D.qK d fun k y hy uO hS=>hd k y hy uO (.inl hS)
theorem ju.KR (ST:Stat P nt ops asx anc names)(CB:∀(k:Nat) (x:aC),asx[k]?=some x→x.cls=1→vg ss vs k (cz k))
  (D:ju P base nt ops asx anc ss vs ρ0 a0 w0 cz S f ρ a w pl) {i:Nat} {x:aC} (hx:asx[i]?=some x) (hc:x.cls=1) (hn:¬S i)
  (ha:∀j,anc i j→S j) (hlt:∀d,x.dst=some d→d<nt) (X:Ext base ρ (ss f).hp w ρ' ((ss f).hp.push fun s=> .row (cz i) true s) w') (hok:ok ρ' ((ss f).hp.next+1) ((vs i).Bf (ss f).hp.next)):
  ju P base nt ops asx anc ss vs ρ0 a0 w0 cz (fun j=>S j∨j=i) f ρ (a.put x.dst (enc ρ' ((vs i).Bf (ss f).hp.next))) w' (fun k=>if k=i then ρ' (ss f).hp.next else pl k):=by
 have hi:i<asx.length:=(aZ.1 hx).1;have J7:∀y,asx[i]?=some y→y=x:=fun y hy=>by rw[hx]at hy;exact(aa hy).symm
 have mT:∀t,(a.put x.dst (enc ρ' ((vs i).Bf (ss f).hp.next))).tmps.getD t undef=if x.dst=some t then enc ρ' ((vs i).Bf (ss f).hp.next)else a.tmps.getD t undef:=fun t=>tV _ _ _ (fun d hd=>ah (hlt d hd) D.size) t
 have hR:bv base ρ (ss f).hp w':=X.rel.pop D.ext.rel X.agree;have Wu:((ss f).hp.push fun s=> .row (cz i) true s).get (ss f).hp.next=some (.row (cz i) true ((ss f).hp.dc+1)):=by rw[Hp.cM,if_pos rfl]
 have r:=X.rel.row _ (cz i) true _ Wu;obtain⟨q1,q2,q3,q4⟩:=r.se rfl
 have hold:∀t ob,(ss f).hp.get t=some ob→((ss f).hp.push fun s=> .row (cz i) true s).get t=some ob∧ρ' t=ρ t∧t≠(ss f).hp.next:=fun t ob ht=>by
  have:=D.ext.rel.lt t ob ht;exact⟨by rw[Hp.cM,if_neg (by omega)];exact ht,X.agree t this,by omega⟩
 have T7:∀t ob,(ss f).hp.get t=some ob→ob.owned=true→(ρ t).b≠(ρ' (ss f).hp.next).b:=fun t ob ht ho=>by
  obtain⟨g1,g2,g3⟩:=hold t ob ht;have:=X.rel.apart t _ ob _ g1 Wu ho rfl g3;rwa[g2]at this
 have hnew:w.heap.size≤(ρ' (ss f).hp.next).b:=by
  rcases X.fresh _ _ Wu rfl with c|⟨t0,o0,c1,c2,c3⟩
  ·exact c
  ·exact absurd c3 (T7 t0 o0 c1 c2)
 have X':=D.ext.trans X;refine⟨D.RW,?_,?_,?_,⟨D.ext.agree,D.ext.next,hR,X'.eK,D.ext.fresh⟩,by rw[put_defers];exact D.defers,by rw[ti];exact D.size,?_,?_,?_,?_⟩
 ·intro j hj k hk;rcases hj with hj|rfl
  ·exact .inl (D.vf j hj k hk)
  ·exact .inl (ha k hk)
 ·intro k y hy mY;have nE:k≠i:=fun e=>by subst e;obtain rfl:=J7 y hy;omega
  rw[show(S k∨k=i)↔S k by simp[nE],D.chain k y hy mY]
 ·intro k y hy mY hk;exact .inl (D.alloc k y hy mY hk)
 ·intro k y hy hS hk
  have nE:k≠i:=fun e=>by
   subst e;obtain rfl:=J7 y hy;rcases hk with c|c
   ·exact c hc
   ·exact hn (D.alloc _ _ hy hc c)
  obtain⟨d1,d2⟩:=D.done k y hy (hS.resolve_right nE) hk;exact⟨d1,fun d hd=>by rw[mT,if_neg (fun e=>nE (ST.uniq k i y x d hy hx hd e))];exact d2 d hd⟩
 ·intro k y hy hS mY hk;by_cases nE:k=i
  ·subst nE;obtain rfl:=J7 y hy;obtain⟨_,hv,PI⟩:=CB k y hy mY;refine⟨fun d hd=>by rw[mT,if_pos hd,if_pos rfl,CV hv],?_,?_,?_,?_,?_,?_,?_⟩<;>rw[if_pos rfl]
   ·exact Oe hv hok (cN _)
   ·rw[(PI ρ ρ' 0).1];exact r.cells
   ·exact q3
   ·exact q4
   ·exact aB D.ext.eK.size hnew
   ·exact q2
   ·exact T7
  ·have q:=D.early k y hy (hS.resolve_right nE) mY hk;have hb:w'.heap[(pl k).b]?=w.heap[(pl k).b]?:=X.eK.block _ q.lt q.apart;refine⟨fun d hd=>?_,?_,?_,?_,?_,?_,?_,?_⟩<;>rw[if_neg nE]
   ·rw[mT,if_neg (fun e=>nE (ST.uniq k i y x d hy hx hd e))];exact q.slot d hd
   ·exact q.QU
   ·exact mh hb q.cells
   ·exact jr hb q.there
   ·exact jr hb q.room
   ·exact q.lo
   ·exact ah q.lt X.eK.size
   ·exact q.apart
 ·intro k k' y y' hy hy' hS EW mY Ri hk hk' hne;have lt:∀(j:Nat) (u:aC),asx[j]?=some u→u.cls=1→S j→f≤j→(pl j).b<w.heap.size:=fun j u hu huc hj hfj=>(D.early j u hu hj huc hfj).lt
  by_cases nE:k=i
  ·by_cases zf:k'=i
   ·omega
   ·simp only[if_pos nE,if_neg zf];have:=lt k' y' hy' Ri (EW.resolve_right zf) hk';omega
  ·by_cases zf:k'=i
   ·simp only[if_neg nE,if_pos zf];have:=lt k y hy mY (hS.resolve_right nE) hk;omega
   ·simp only[if_neg nE,if_neg zf];exact D.QQ k k' y y' hy hy' (hS.resolve_right nE) (EW.resolve_right zf) mY Ri hk hk' hne
 ·intro d hd;rw[mT,if_neg (fun e=>hd i x hx e (.inr rfl))];exact D.qK d fun k y hy uO hS=>hd k y hy uO (.inl hS)
end
section
variable {P:Program}{base nt N:Nat}{E:Env}{ops:Array Oper}{asx:List aC}{anc:Nat→Nat→Prop}{names:Nat→List Nat}{ss:Nat→St}{vs:Nat→AV}{ρ0 ρ ρ':dw}{a0 a:Act}{W0 w0 w w':World}{h:Hp}
variable {c0:Nat}{S:Nat→Prop}{f:Nat}{pl:Nat→Place}{cz:Nat→List AV}{Q:Exit→Act→World→Prop}
theorem ju.uC (ST:Stat P nt ops asx anc names)(T:Tr E N 0 asx c0 ss vs)(CB:∀(k:Nat) (x:aC),asx[k]?=some x→x.cls=1→vg ss vs k (cz k))(Bq:base≤w0.heap.size):∀(d f:Nat) (ρ:dw),ju P base nt ops asx anc ss vs ρ0 a0 w0 cz S f ρ a w pl→
  (∀(k:Nat) (x:aC),f≤k→k<f+d→asx[k]?=some x→x.cls≠2∧(x.cls=1→S k))→f+d≤asx.length→∃ρ',ju P base nt ops asx anc ss vs ρ0 a0 w0 cz S (f+d) ρ' a w pl
 |0,f,ρ,D,_,_=>⟨ρ,D⟩
 | d+1,f,ρ,D,hh,hl=>by
  obtain⟨x,hx⟩:=ri (asx:=asx) (k:=f) (by omega);obtain⟨h1,h2⟩:=hh f x (ae _) (by omega) hx;obtain⟨ρ1,D1⟩:=D.advance ST T CB Bq hx h1 h2;have:=ju.uC ST T CB Bq d (f+1) ρ1 D1 (fun k y a b hy=>hh k y (by omega) (by omega) hy) (by omega);rwa[show f+(d+1)=f+1+d by omega]
theorem ju.finish (ST:Stat P nt ops asx anc names)(T:Tr E N 0 asx c0 ss vs)(CB:∀(k:Nat) (x:aC),asx[k]?=some x→x.cls=1→vg ss vs k (cz k))(S0:mE W0 base nt ρ0 (ss 0) a0 w0)(D:ju P base nt ops asx anc ss vs ρ0 a0 w0 cz S f ρ a w pl)(jR:∀k,k<asx.length→S k):
  ∃ρ',mE W0 base nt ρ' (ss asx.length) a w∧Ext base ρ0 (ss 0).hp w0 ρ' (ss asx.length).hp w:=by
 obtain⟨ρ',D'⟩:=D.uC ST T CB S0.rel.size (asx.length-f) f ρ (fun k x h1 h2 hx=>by
  have hk:k<asx.length:=(aZ.1 hx).1;refine⟨fun c=>?_,fun _=>jR k hk⟩;have:=(D.chain k x hx c).1 (jR k hk);omega) (by have:=D.RW;omega)
 have hf:=D.RW;rw[show f+(asx.length-f)=asx.length by omega]at D';refine⟨ρ',⟨D'.ext.rel,S0.oO.trans (D'.ext.eK.below S0.rel),D'.defers,D'.size,fun t=>?_⟩,D'.ext⟩;by_cases hw:∃(k:Nat) (y:aC),asx[k]?=some y∧y.dst=some t
 ·obtain⟨k,y,hy,uO⟩:=hw;have hk:k<asx.length:=(aZ.1 hy).1;obtain⟨d1,d2⟩:=D'.done k y hy (jR k hk) (.inr hk);rw[T.wrote ST hy uO hk (ae _)];exact⟨d2 t uO,d1⟩
 ·obtain⟨q1,q2⟩:=S0.tmp t;rw[D'.qK t (fun k y hy mZ=>absurd ⟨k,y,hy,mZ⟩ hw),T.same asx.length (aJ _) (ae _) (fun k y _ _ hy mZ=>hw ⟨k,y,hy,mZ⟩),q1];exact⟨(du D'.ext.agree _ q2).symm,fy D'.ext.agree D'.ext.next _ q2⟩
theorem ju.before (ST:Stat P nt ops asx anc names)(T:Tr E N 0 asx c0 ss vs)(CB:∀(k:Nat) (x:aC),asx[k]?=some x→x.cls=1→vg ss vs k (cz k))(Bq:base≤w0.heap.size){i:Nat}{x:aC}(hx:asx[i]?=some x)(hc:x.cls=0)(ha:∀j,anc i j→S j):∀(d f:Nat) (ρ:dw),asx.length-f=d→ju P base nt ops asx anc ss vs ρ0 a0 w0 cz S f ρ a w pl→
    ∃g ρ',ju P base nt ops asx anc ss vs ρ0 a0 w0 cz S g ρ' a w pl∧∀(k:Nat) (y:aC),asx[k]?=some y→y.cls=1→anc i k→k<g
  |0,f,ρ,hd,D=>⟨f,ρ,D,fun k y hy _ _=>by
      have:k<asx.length:=(aZ.1 hy).1;omega⟩
  | d + 1,f,ρ,hd,D=>by
    by_cases hex:∃(k:Nat) (y:aC),asx[k]?=some y∧y.cls=1∧anc i k∧f≤k
    · obtain⟨k,y,hy,mY,nE,PH⟩:=hex
      have hk:k<asx.length:=(aZ.1 hy).1;obtain⟨z,hz⟩:=ri (asx:=asx) (k:=f) (by omega)
      have h2:z.cls≠2:=fun c=>by
        have hfk':f≠k:=fun e=>by subst e;rw[hz]at hy;obtain rfl:=aa hy;omega
        have:=(D.chain f z hz c).1 (ha f (ST.Pn f k i z y x (by omega) hz hy hx c mY hc nE));omega
      have h1:z.cls=1→S f:=fun c=>ha f (ST.Pp f k i z y x PH hz hy hx c mY hc nE)
      obtain⟨ρ1,D1⟩:=D.advance ST T CB Bq hz h2 h1;exact ju.before ST T CB Bq hx hc ha d (f+1) ρ1 (by omega) D1
    · exact⟨f,ρ,D,fun k y hy mY hk=>by
        rcases aQ k f with c|c
        · exact c
        · exact absurd ⟨k,y,hy,mY,hk,c⟩ hex⟩
theorem Tr.kept (CB:∀(k:Nat) (x:aC),asx[k]?=some x→x.cls=1→vg ss vs k (cz k))(PL:ga E)(T:Tr E N 0 asx c0 ss vs)(ZP:WF (ss 0).hp){t:Nat}{o:cP}{p:Nat}(hp:(ss p).hp.get t=some o):∀d,p+d≤asx.length→(∀(k:Nat) (x:aC),p≤k→k<p+d→asx[k]?=some x→x.cls≠2)→(ss (p+d)).hp.get t=some o
 |0,_,_=>hp
 | d +1,hl,hn=>by
  have ih:=T.kept CB PL ZP hp d (by omega) (fun k x a b hx=>hn k x a (by omega) hx);obtain⟨x,hx⟩:=ri (asx:=asx) (k:=p+d) (by omega);rcases BS x with c|c|c
  ·rw[←dz,T.still hx c];exact ih
  ·have he:=(CB _ x hx c).hp;rw[←dz,he,Hp.cM,if_neg]
   ·exact ih
   ·have:=(T.Bh PL (aJ (p+d)) (by omega)).wf ZP t o ih;omega
  ·exact absurd c (hn _ x (by omega) (by omega) hx)
theorem EB (ST:Stat P nt ops asx anc names)(CB:∀(k:Nat) (x:aC),asx[k]?=some x→x.cls=1→vg ss vs k (cz k))(PL:ga E)(MO:rE P E)(CO:∀m,m<N→mG P W0 base E (exec E m))(T:Tr E N 0 asx (ss 0).hp.dc ss vs)(S0:mE W0 base nt ρ0 (ss 0) a0 w0)
    (HQ:∀a' w' ρ',mE W0 base nt ρ' (ss asx.length) a' w'→Ext base ρ0 (ss 0).hp w0 ρ' (ss asx.length).hp w'→Q .normal a' w'):
    ∀ (fuel:Nat) (listed:Array Bool) (S:Nat→Prop) (f:Nat) (ρ:dw) (a:Act) (w:World) (pl:Nat→Place),listed.size=ops.size→(∀k,S k↔listed.getD k false=true)→listed.toList.countP (fun b=> !b)≤fuel→
      ju P base nt ops asx anc ss vs ρ0 a0 w0 cz S f ρ a w pl→wpAny P .any ops Q fuel listed a w:=by
  intro fuel
  have fin:∀(listed:Array Bool) (S:Nat→Prop) (f:Nat) (ρ:dw) (a:Act) (w:World) (pl:Nat→Place),listed.size=ops.size→(∀k,S k↔listed.getD k false=true)→ju P base nt ops asx anc ss vs ρ0 a0 w0 cz S f ρ a w pl→
      Region.ready .any ops listed=[]→Q .normal a w:=by
    intro listed S f ρ a w pl hsz hS D hr
    have jR:∀n k,k<n→k<asx.length→S k:=by
      intro n
      induction n with
      |zero=>intro k hk;omega
      | succ n ih=>
        intro k hk TZ;refine Classical.byContradiction fun hn=>?_
        have hlt:k<ops.size:=by rw[←ST.size];exact TZ
        have:k∈Region.ready .any ops listed:=by
          rw[mem_ready];refine⟨?_,ops[k],bM hlt,fun e he hb=>?_⟩
          · have h1:listed.getD k false≠true:=fun h=>hn ((hS k).2 h)
            simp only[cI,bM (show k<listed.size by omega),fF]at h1⊢;simpa using h1
          · have hb:=ST.back k ops[k] (bM hlt) e he hb
            exact(hS _).1 (ih e.on (by omega) (by omega))
        rw[hr]at this;cases this
    obtain⟨ρ',h1,h2⟩:=D.finish ST T CB S0 (fun k hk=>jR asx.length k hk hk);exact HQ a w ρ' h1 h2
  induction fuel with
  | zero=>
    intro listed S f ρ a w pl hsz hS hcnt D
    have hr:Region.ready .any ops listed=[]:=by
      cases hh:Region.ready .any ops listed with
      |nil=>rfl
      | cons i l=>
        have:i∈Region.ready .any ops listed:=by rw[hh];exact .head _
        obtain⟨h0,o,ho,_⟩:=mem_ready.1 this;have hlt:i<listed.size:=by rw[hsz];exact(cX.1 ho).1
        simp only[cI,bM hlt,fF]at h0;have hm:listed[i]∈listed.toList:=by simp
        have:=List.countP_eq_zero.1 (Nat.le_zero.1 hcnt) _ hm;simp[h0]at this
    exact⟨hr,fin listed S f ρ a w pl hsz hS D hr⟩
  | succ fuel ih=>
    intro listed S f ρ a w pl hsz hS hcnt D;refine⟨fin listed S f ρ a w pl hsz hS D,fun i hi=>?_⟩;obtain⟨h0,o,ho,Hv⟩:=mem_ready.1 hi;have hio:i<ops.size:=(cX.1 ho).1;have Wi:i<asx.length:=by rw[ST.size];exact hio
    obtain⟨x,hx⟩:=ri (asx:=asx) Wi;have C:=ST.Sl i o x ho hx;have hlt:=C.lt
    have hnS:¬S i:=fun h=>by
      have:=(hS i).1 h;simp only[cI,bM (show i<listed.size by omega),fF]at this h0;rw[h0]at this;cases this
    have ha:∀j,anc i j→S j:=ST.vf S D.vf i o ho (fun e he hb=>(hS _).2 (Hv e he hb))
    have next:∀(f:Nat) (ρ:dw) (a:Act) (w:World) (pl:Nat→Place),ju P base nt ops asx anc ss vs ρ0 a0 w0 cz (fun j=>S j∨j=i) f ρ a w pl→wpAny P .any ops Q fuel (listed.setIfInBounds i true) a w:=by
      intro f ρ a w pl D';refine ih _ _ f ρ a w pl (by simp[hsz]) (fun k=>?_) ?_ D'
      · by_cases hk:k=i
        · subst hk
          simp[show k<listed.size by omega]
        · rw[getD_set_ne false (Ne.symm hk),←hS];simp[hk]
      · have hb:listed[i]'(by omega)=false:=by
          simpa only[cI,bM (show i<listed.size by omega),fF]using h0
        rw[Array.toList_setIfInBounds,List.countP_set (by simp;omega)];have h1:listed.toList[i]'(by simp;omega)=false:=by simpa using hb
        simp only[h1,Bool.not_false,if_true,jW,bZ,if_false];omega
    obtain⟨UV,ZI,nm3⟩:=ST.nms i o x ho hx
    have sel:∀f ρ,ju P base nt ops asx anc ss vs ρ0 a0 w0 cz S f ρ a w pl→(∀(k:Nat) (y:aC),asx[k]?=some y→y.cls=1→anc i k→k<f)→∀d∈names i,a.tmps.getD d undef=enc ρ (val (ss i).tm (.t d))∧ok ρ (ss f).hp.next (val (ss i).tm (.t d)):=
      fun f ρ D hal d hd=>D.Qb ST T S0 hx hnS ha hal hd
    have run:∀(f:Nat) (ρ:dw) (f':Nat),ju P base nt ops asx anc ss vs ρ0 a0 w0 cz S f ρ a w pl→(∀(k:Nat) (y:aC),asx[k]?=some y→y.cls=1→anc i k→k<f)→((x.cls=0∧f'=f)∨(x.cls=2∧f=i∧f'=i+1))→
        (wanted (ss i).tm x.qq=true→∀m,m<N→lU x.op E (exec E m) (ss i)=some (vs i,(ss (i+1)).hp)→∀fI,(∀y∈x.op.Ba,val (ss i).tm y=val fI y)→lU x.op E (exec E m) { tm:=fI,hp:=(ss f).hp }=some (vs i,(ss f').hp))→
        (wanted (ss i).tm x.qq=false→(ss f').hp=(ss f).hp)→wpOp P ops Q i (wpAny P .any ops Q fuel (listed.setIfInBounds i true)) a w:=by
      intro f ρ f' D hal hf hop VK;have hs:=sel f ρ D hal;have hw:=nU (a:=a) (ρ:=ρ) (tm:=(ss i).tm) C.qq fun d b e=>(hs d (nm3 d b e)).1
      unfold wpOp;simp only[ho];rcases T.at hx with⟨hwt,⟨m,hm,hr⟩,_,_⟩|⟨hwt,hv,he,_⟩
      · rw[hw,hwt]
        simp only[if_true];obtain⟨ev,fI,E1,E2,E3⟩:=uc (a:=a) (names:=names i) (n:=(ss f).hp.next) hs;have hr':=hop hwt m hm hr fI (fun y hy=>E3 y (fun t e=>ZI t (e▸hy)));obtain⟨_,hc,hr'⟩:=C.real hr';have Dz:=tz (s:={ tm:=fI,hp:=(ss f).hp }) (CO m hm) (S0.oO.trans (D.ext.eK.below S0.rel)) MO hc E1 D.ext.rel hr';rw[←execOp_congr o (rq hc) (fun y hy=>E2 y (fun t e=>UV t (e▸hy)))]at Dz
        refine .inl (kT.wp Dz ?_);rintro u w1 ⟨ρ1,X,hok,rfl⟩;rw[←C.dst];exact next _ _ _ _ _ (D.exec ST CB hx hnS ha hlt hf rfl X hok)
      · rw[hw,hwt]
        simp only[bZ,if_false];have X:Ext base ρ (ss f).hp w ρ (ss f').hp w:=by rw[VK hwt];exact Ext.refl D.ext.rel
        have:=D.exec ST CB hx hnS ha hlt hf rfl X (by rw[hv];trivial);rw[hv,kM,C.dst]at this;exact next _ _ _ _ _ this
    rcases BS x with hc|hc|hc
    ·
      obtain⟨g,ρg,Dg,hal⟩:=D.before ST T CB S0.rel.size hx hc ha _ f ρ rfl;refine run g ρg g Dg hal (.inl ⟨hc,rfl⟩) ?_ (fun _=>rfl);intro ZQ m hm hr fI VN;obtain⟨h1,h2⟩:=zO hc;have hpl:∀s,lU x.op E (exec E m) s=lV x.op (val s.tm) s.hp:=by intro s;cases hh:x.op<;>rw[hh]at h1<;>first|(simp[gM.calls]at h1;done)|rfl
      rw[hpl]at hr⊢;rw[←ws (ss g).hp VN];rcases h2 with h2|⟨ag,n,y,u,h3,h4⟩
      · exact(yD h2 hr).2 _
      · obtain⟨s1,s2,s3⟩:=ST.lE i x u hx hc h4
        rcases T.at hx with⟨_,_,_,hst⟩|⟨hwt,hv,he,_⟩
        · obtain⟨t,ht,hold⟩:=hst u h4
          have hold:=hold s1 s2;rw[h3]at hr ht⊢;refine(yX hr ht).2 _ ?_
          have at_:∀p,p≤u+1→(ss p).hp.get t=(ss 0).hp.get t∧∃o,(ss 0).hp.get t=some o:=fun p hp=>by
            have:=bH.old (T.Bh PL (aJ p) (by omega)) (T.Bh PL hp (by omega)) hold;exact⟨this.1,this.2.2⟩
          rw[(at_ i (by omega)).1];by_cases hgu:g≤u+1
          · exact(at_ g hgu).1
          · obtain⟨e1,ob,e2⟩:=at_ (u+1) (ae _)
            rw[e2]at e1⊢
            have:=T.kept CB PL S0.rel.lt e1 (g-(u+1)) (by have:=Dg.RW;omega) (fun k z T3 hk2 hz c=>by
              have hSk:=(Dg.chain k z hz c).2 (by omega);have:=s3 k z hz (by omega) c (fun WD=>hnS (Dg.vf k hSk i WD));omega)
            rwa[show u+1+(g-(u+1))=g by omega]at this
        · rw[ZQ]at hwt;cases hwt
    ·
      obtain⟨hg,TX⟩:=ST.SV i x hx hc;have hB:=CB i x hx hc;have hwt:wanted (ss i).tm x.qq=true:=by rw[hg];rfl
      have hw:Region.wanted o (yielded ops a.tmps)=true:=by
        rw[nU (a:=a) (ρ:=ρ) (tm:=(ss i).tm) C.qq (fun d b e=>by rw[hg]at e;cases e)];exact hwt
      unfold wpOp;simp only[ho,hw,if_true]
      have fin2:∀u w1,qH base ρ (ss f).hp w ((vs i).Bf (ss f).hp.next) ((ss f).hp.push fun s=> .row (cz i) true s) u w1→wpAny P .any ops Q fuel (listed.setIfInBounds i true) (a.put o.dst u) w1:=by
        rintro u w1 ⟨ρ1,X,hok,rfl⟩;rw[←C.dst];exact next _ _ _ _ _ (D.KR ST CB hx hc hnS ha hlt X hok)
      rcases Dj hc with⟨z,hz⟩|⟨sz,n,z,ps,hz⟩
      · have Hw:gE P o=some (.alloc z):=by
          rcases C.op with c|c|⟨_,_,_,_,_,c⟩
          · rw[c,hz]
          · rw[hz]at c;cases c
          · rw[hz]at c;cases c
        have Z5:vs i= .ptr (ss i).hp.next 0∧cz i=z:=by
          rcases T.at hx with⟨_,⟨m,_,hr⟩,_⟩|⟨hn,_⟩
          · rw[hz]at hr
            obtain⟨e1,e2⟩:=ai (show om z (val (ss i).tm) (ss i).hp=some (vs i,(ss (i+1)).hp) from hr);refine⟨e1.symm,?_⟩;have e3:=hB.hp;rw[←e2]at e3;have:=congrArg (fun h=>h.get (ss i).hp.next) e3;simp only[Hp.cM,if_true]at this;injection this with this
            injection this with this
            exact this.symm
          · rw[hwt]at hn;cases hn
        obtain⟨ev,fI,E1,E2,E3⟩:=uc (a:=a) (ρ:=ρ) (tm:=(ss i).tm) (names:=[]) (n:=(ss f).hp.next) (by simp);have Y:=(rp (h:=(ss f).hp) (w:=w) (base:=base) Hw rfl E1 D.ext.rel (v:= .ptr (ss f).hp.next 0) (h':=(ss f).hp.push fun s=> .row z true s) rfl).OV
        have rP:∀y∈o.op.operands,a.eval y=ev y:=fun y hy=>E2 y (fun t e=>by
          have:=UV t (e▸hy);rwa[TX z hz]at this)
        rw[←execOp_congr o (rq Hw) rP]at Y;have e4:(vs i).Bf (ss f).hp.next= .ptr (ss f).hp.next 0:=by rw[Z5.1];rfl
        rw[e4,Z5.2]at fin2;exact .inl (kT.wp Y fin2)
      · have Hw:gE P o=some (.cL sz n z ps):=by
          rcases C.op with c|c|⟨_,_,_,_,c,c'⟩
          · rw[hz]at c;exact absurd c (QX _ _ _ _)
          · rw[hz]at c;cases c
          · rw[hz]at c';cases c';exact c
        have hs:=sel f ρ D (fun k y hy mY WD=>absurd WD (ST.Pk k i y x sz n z ps hy hx mY hz));obtain⟨ev,fI,E1,E2,E3⟩:=uc (a:=a) (names:=names i) (n:=(ss f).hp.next) hs
        have hr':lV (.cL sz n z ps) (val fI) (ss f).hp=some ((vs i).Bf (ss f).hp.next,(ss f).hp.push fun s=> .row (cz i) true s):=by
          rcases T.at hx with⟨_,⟨m,_,hr⟩,_⟩|⟨hn,_⟩
          · rw [hz]at hr
            have hr:nq sz n z ps (val (ss i).tm) (ss i).hp=some (vs i,(ss (i+1)).hp):=hr;have hmp:(ps.map fun p=>(p.1,p.2.1,val (ss i).tm p.2.2))=ps.map fun p=>(p.1,p.2.1,val fI p.2.2):=oC fun y hy=>E3 y (fun t e=>ZI t (e▸(by rw[hz];exact hy)))
            show hZ sz n z ps (val fI) (ss f).hp=_
            unfold hZ;unfold nq at hr;rw[hmp]at hr;split at hr
            · rename_i cs hcs
              split at hr
              · rename_i Hz
                obtain⟨e1,e2⟩:=ai hr;rw[if_pos ⟨Hz.1,Hz.2.1⟩];have e3:=hB.hp;rw[←e2]at e3;have:=congrArg (fun h=>h.get (ss i).hp.next) e3;simp only[Hp.cM,if_true]at this;injection this with this
                injection this with this
                rw[←e1,this];rfl
              · cases hr
            · cases hr
          · rw[hwt]at hn;cases hn
        have Y:=(rp (h:=(ss f).hp) (w:=w) (base:=base) Hw rfl E1 D.ext.rel hr').OV;rw[←execOp_congr o (rq Hw) (fun y hy=>E2 y (fun t e=>UV t (e▸hy)))]at Y;exact .inl (kT.wp Y fin2)
    ·
      have Z3:f≤i:=by
        rcases aQ i f with c|c
        · exact absurd ((D.chain i x hx hc).2 c) hnS
        · exact c
      obtain⟨ρi,Di⟩:=D.uC ST T CB S0.rel.size (i-f) f ρ (fun k y h1 h2 hy=>by
        refine⟨fun c=>?_,fun c=>ha k (ST.Po k i y x (by omega) hy hx c hc)⟩;have:=(D.chain k y hy c).1 (ha k (ST.chain k i y x (by omega) hy hx c hc));omega) (by omega)
      rw[show f+(i-f)=i by omega]at Di;refine run i ρi (i+1) Di (fun k y _ _ hk=>ST.Iv (i+1) i (cN _) Wi k hk) (.inr ⟨hc,rfl,rfl⟩) ?_ ?_
      · intro ZQ m hm hr fI VN
        rw[←DQ (s:=ss i) (s':={ tm:=fI,hp:=(ss i).hp }) rfl VN];exact hr
      · intro hwt
        rcases T.at hx with⟨Rl,_⟩|⟨_,_,he,_⟩
        · rw[hwt]at Rl;cases Rl
        · exact he
end
def KQ (e:Edge):Bool:=Region.binds .any e
def kN (o:Oper):List Nat:=(o.after.toList.filter KQ).map (·.on)
def nv (ms:List Nat)(es:List Nat):Nat:=es.foldl (fun a j=>a|||(2^j|||ms.getD j 0)) 0
def jK:List Oper→List Nat→List Nat
 |[],ms=>ms
 |o::r,ms=>jK r (ms++[nv ms (kN o)])
structure rW where
 i:Nat
 cls:Nat
 dst:Option Nat
 names:List Nat
 mask:Nat
 lE:Option Nat
 fl:Bool
def Oq:gM→Bool
 | .Az .. =>true
 |_=>false
def P9:Operand→Option Nat
 | .tmp t=>some t
 |_=>none
def NI:bp→Option Nat
 | .t t=>some t
 |_=>none
def mo (o:Oper)(x:aC):List Nat:=
 o.op.operands.toList.filterMap P9++(x.op.Ba.filterMap NI++match x.qq with|some (d,_)=>[d]|none=>[])
def infos:Nat→List Oper→List aC→List Nat→List rW
 |i,o::os,x::xs,m::ms=>⟨i,x.cls,x.dst,mo o x,m,x.lE,Oq x.op⟩::infos (i+1) os xs ms
 |_,_,_,_=>[]
def hasB (m j:Nat):Bool:=bu (Nat.land (Nat.shiftRight m j) 1) 1
def DV (d:Option Nat)(l:List Nat):Bool:=
 match d with
 |some d=>l.any (bu d)
 |none=>false
def Mr (a b:Option Nat):Bool:=
 match a,b with
 |some a,some b=>bu a b
 |_,_=>false
def yE (al:List Nat)(x y:rW):Bool:=
 (hasB y.mask x.i||(!(bu x.cls 2&&bu y.cls 2)&& !(bu x.cls 1&&bu y.cls 2)&& !DV x.dst y.names&& !DV y.dst x.names&&
  !(bu x.cls 2&&bu y.cls 0&&al.any fun i=>gV x.i i&&hasB y.mask i)&&
  !(bu x.cls 1&&bu y.cls 0&&al.any fun i=>pU x.i i&&hasB y.mask i)&&
  (match x.lE with
   |some u=> !(bu x.cls 0&&bu y.cls 2)||pU y.i u
   |none=>true)))&& !Mr x.dst y.dst
def wQ (al:List Nat):List rW→Bool
 |[]=>true
 |x::l=>l.all (yE al x)&&wQ al l
def Ob (n:Nat)(x:rW):Bool:=
 (match x.lE with|some u=>pU x.i u&&gV u n|none=>true)&&(!bu x.cls 1||x.fl||x.names.isEmpty)
def RV (al:List Nat)(x:rW):Bool:= !x.fl||al.all fun i=> !hasB x.mask i
def Dm:Nat→List Oper→Bool
 |_,[]=>true
 |i,o::os=>(kN o).all (fun j=>gV j i)&&Dm (i+1) os
def NG (i m:Nat)(ch:List (Nat×Nat)):Nat:=ch.foldl (fun a p=>if !hasB m p.1&& !hasB p.2 i&&gV a p.1 then p.1 else a) i
def rr:Nat→List aC→List Nat→List (Nat×Nat)
 | i,x::xs,m::ms=>
  match x.op with
  | .load .. | .alloc _| .Az .. =>rr (i+1) xs ms
  | o=>match o.pure with
   |true=>rr (i+1) xs ms
   |false=>(i,m)::rr (i+1) xs ms
 |_,_,_=>[]
def yg (ch:List (Nat×Nat)):Nat→List aC→List Nat→List aC
 |i,x::xs,m::ms=>(match x.op with| .load .. =>{ x with lE:=some (NG i m ch) }|_=>x)::yg ch (i+1) xs ms
 |_,xs,_=>xs
def H7 (P:Program)(nt:Nat)(ops:Array Oper)(o:Oper):Option aC:=
 match KC ops o.guard with
 | some g=>match(match o.dst with|some d=>gV d nt|none=>true)with
  |true=>some ⟨o.dst,match gE P o with|some a=>a|none=> .bad,g,none⟩
  |false=>none
 |none=>none
def pK (P:Program)(nt:Nat)(ops:Array Oper):List Oper→Option (List aC)
 |[]=>some []
 | o ::r=>match H7 P nt ops o with
  | some x=>match pK P nt ops r with
   |some xs=>some (x::xs)
   |none=>none
  |none=>none
def zB (ops:List Oper)(xs:List aC)(ms:List Nat):Bool:=
 match infos 0 ops xs ms with
 |is=>wQ ((is.filter fun x=>bu x.cls 1).map (·.i)) is&&(is.all (Ob xs.length)&&(is.all (RV ((is.filter fun x=>bu x.cls 1).map (·.i)))&&Dm 0 ops))&&xs.all fun x=> !bu x.cls 1||x.qq.isNone
def xl (ch:List (Nat×Nat)):Nat→List aC→List Nat→List aC
 | i,x::xs,m::ms=>(match x.op with
  | .cL sz n z ps=>match ch.any fun p=> !bu p.1 i&& !hasB m p.1&& !hasB p.2 i with
   |true=>{ x with op:= .Az sz n z ps }
   |false=>x
  |_=>x)::xl ch (i+1) xs ms
 |_,xs,_=>xs
def fK (P:Program)(nt:Nat):Code→au
 | .skip=> .skip
 | .label _=> .skip
 | .scope c=> .seq .skip (fK P nt c)
 | .region _ ops false=>match pK P nt ops ops.toList with
  |some xs=> .cx xs
  |none=> .bad
 | .region _ ops true=>match pK P nt ops ops.toList with
  | some xs =>match jK ops.toList []with
   | ms => match yg (rr 0 xs ms) 0 xs ms with
    | ys => match zB ops.toList ys ms with
     |true=> .cm ys
     | false=>match xl (rr 0 xs ms) 0 xs ms with
      | fs=>match yg (rr 0 fs ms) 0 fs ms with
       | zs=>match zB ops.toList zs ms with
        |true=> .cm zs
        |false=> .bad
  |none=> .bad
 | .seq a b=> .seq (fK P nt a) (fK P nt b)
 | .cond x a b=>match cv x with
  |some y=> .cond y (fK P nt a) (fK P nt b)
  |none=> .bad
 | .block id c=> .block id (fK P nt c)
 | .loop c=> .loop (fK P nt c)
 | .exit id=> .exit id
 | .ret=> .ret
 |_=> .bad
theorem sE (m j:Nat):hasB m j=m.testBit j:=by
 unfold hasB Nat.testBit;show bu ((m>>>j)&&&1) 1=(1&&&(m>>>j) !=0)
 rw[Nat.and_comm]
 have:1&&&(m>>>j)=0∨1&&&(m>>>j)=1:=by
  rw[Nat.one_and_eq_mod_two];omega
 rcases this with h|h<;>rw[h]<;>rfl
theorem pz (ms:List Nat)(i:Nat):∀(es:List Nat) (a:Nat),(es.foldl (fun a j=>a|||(2^j|||ms.getD j 0)) a).testBit i=true↔a.testBit i=true∨∃j∈es,j=i∨(ms.getD j 0).testBit i=true
 |[],a=>by simp
 | j ::es,a=>by
  rw[List.foldl_cons,pz ms i es];simp only[Nat.testBit_or,Nat.testBit_two_pow,Bool.or_eq_true,decide_eq_true_eq,List.mem_cons];constructor
  ·rintro((h|h|h)|⟨k,hk,h⟩)
   ·exact .inl h
   ·exact .inr ⟨j,.inl rfl,.inl h⟩
   ·exact .inr ⟨j,.inl rfl,.inr h⟩
   ·exact .inr ⟨k,.inr hk,h⟩
  ·rintro(h|⟨k,(rfl|hk),h⟩)
   ·exact .inl (.inl h)
   ·exact .inl (.inr h)
   ·exact .inr ⟨k,hk,h⟩
theorem tN:∀(os:List Oper) (ms:List Nat),(jK os ms).length=ms.length+os.length∧(∀k,k<ms.length→(jK os ms)[k]?=ms[k]?)∧
  ∀k o,os[k]?=some o→(jK os ms)[ms.length+k]?=some (nv ((jK os ms).take (ms.length+k)) (kN o))
 |[],ms=>by simp[jK]
 | o ::os,ms=>by
  obtain⟨h1,h2,h3⟩:=tN os (ms++[nv ms (kN o)]);simp only[List.length_append,ap,aK,dd]at h1 h2 h3
  have Rp:(jK os (ms++[nv ms (kN o)])).take ms.length=ms:=by
   apply List.ext_getElem?;intro k;rw[gi];split
   ·rename_i hk;rw[h2 k (by omega),cB hk]
   ·rename_i hk;rw[bO (by omega)]
  refine⟨by simp only[jK,h1,ap];omega,fun k hk=>?_,fun k o' ho=>?_⟩
  ·simp only[jK];rw[h2 k (by omega),cB hk]
  ·simp only[jK];cases k with
   | zero=>
    simp only[ei,cq]at ho;subst ho;rw[aY,Rp,h2 _ (by omega),List.getElem?_append_right (ae _)];simp
   | succ k=>
    simp only[dr]at ho;have:=h3 k o' ho;rwa[show ms.length+1+k=ms.length+(k+1) by omega]at this
theorem vL:∀(i:Nat) (os:List Oper) (xs:List aC) (ms:List Nat) (k:Nat) (o:Oper) (x:aC) (m:Nat),os[k]?=some o→xs[k]?=some x→ms[k]?=some m→(infos i os xs ms)[k]?=some ⟨i+k,x.cls,x.dst,mo o x,m,x.lE,Oq x.op⟩
 | i,o::os,x::xs,m::ms,0,o',x',m',h1,h2,h3=>by
  simp only[ei,cq]at h1 h2 h3;subst h1;subst h2;subst h3;rfl
 | i,o::os,x::xs,m::ms,k+1,o',x',m',h1,h2,h3=>by
  simp only[dr]at h1 h2 h3;simp only[infos,dr];rw[vL (i+1) os xs ms k o' x' m' h1 h2 h3,show i+1+k=i+(k+1) by omega]
 |_,[],_,_,_,_,_,_,h,_,_=>by simp at h
 |_,_::_,[],_,_,_,_,_,_,h,_=>by simp at h
 |_,_::_,_::_,[],_,_,_,_,_,_,h=>by simp at h
theorem vC {al:List Nat}:∀(l:List rW),wQ al l=true→∀(j k:Nat) (x y:rW),j<k→l[j]?=some x→l[k]?=some y→yE al x y=true
 |[],_,_,_,_,_,_,h,_=>by simp at h
 | z ::l,hp,j,k,x,y,vO,hx,hy=>by
  simp only[wQ,bz]at hp;cases k with
  |zero=>omega
  | succ k=>
   simp only[dr]at hy;cases j with
   | zero=>
    simp only[ei,cq]at hx;subst hx;exact bV.1 hp.1 y (dh hy)
   | succ j=>
    simp only[dr]at hx;exact vC l hp.2 j k x y (by omega) hx hy
theorem uw:∀(i:Nat) (os:List Oper),Dm i os=true→∀k o,os[k]?=some o→∀j∈kN o,j<i+k
 |_,[],_,_,_,h,_,_=>by simp at h
 | i,z::os,hb,k,o,ho,j,hj=>by
  simp only[Dm,bz]at hb;cases k with
  | zero=>
   simp only[ei,cq]at ho;subst ho;have:=bV.1 hb.1 j hj;simpa[ji]using this
  | succ k=>
   simp only[dr]at ho;have:=uw (i+1) os hb.2 k o ho j hj;omega
theorem yU {d:Nat}{l:List Nat}(h:DV (some d) l=false):d∉l:=by
 intro hm;have:DV (some d) l=true:=vn.2 ⟨d,hm,by simp⟩;rw[h]at this;cases this
theorem ow (n:Nat):bu n n=true:=by simp
theorem oT.length {α β:Type}{R:α→β→Prop}{asx:List α}{bs:List β}(h:oT R asx bs):bs.length=asx.length:=by
 induction h with
 |nil=>rfl
 |cons _ _ ih=>simp[ih]
theorem oT.get {α β:Type}{R:α→β→Prop}{asx:List α}{bs:List β}(h:oT R asx bs):∀(k:Nat) (a:α) (b:β),asx[k]?=some a→bs[k]?=some b→R a b:=by
 induction h with
 |nil=>intro k a b h;simp at h
 | cons r _ ih=>
  intro k a b h1 h2;cases k with
  |zero=>simp only[ei,cq]at h1 h2;subst h1;subst h2;exact r
  |succ k=>exact ih k a b (by simpa using h1) (by simpa using h2)
def qm (is:List rW)(k:Nat):List Nat:=
 match is[k]? with
 |some r=>r.names
 |none=>[]
theorem Jr {P:Program}{nt:Nat}{ops:Array Oper}{ys:List aC}{ms:List Nat}(hc:oT (EJ P nt ops) ops.toList ys)(hm:ms=jK ops.toList [])(hd:zB ops.toList ys ms=true):
    Stat P nt ops ys (fun k j=>hasB (ms.getD k 0) j=true) (qm (infos 0 ops.toList ys ms)):=by
  unfold zB at hd;simp only[bz]at hd;obtain⟨⟨hp,nD,Ww,MR⟩,Wt⟩:=hd;have hlen:ys.length=ops.size:=by rw[hc.length];simp
  obtain⟨m1,m2,m3⟩:=tN ops.toList [];rw[←hm]at m1 m2 m3
  have at_:∀(k:Nat) (y:aC),ys[k]?=some y→∃o m,ops[k]?=some o∧ms[k]?=some m∧(infos 0 ops.toList ys ms)[k]?=some ⟨k,y.cls,y.dst,mo o y,m,y.lE,Oq y.op⟩:=by
    intro k y hy;have hk:k<ys.length:=(aZ.1 hy).1;have ho:ops[k]?=some ops[k]:=bM (by omega);have EU:k<ms.length:=by rw[m1];simp;omega
    have:=vL 0 ops.toList ys ms k ops[k] y ms[k] (by rw[fc];exact ho) hy (aI EU);rw[dd]at this;exact⟨_,_,ho,aI EU,this⟩
  have pr:∀(j k:Nat) (x y:aC),j<k→ys[j]?=some x→ys[k]?=some y→∃ox oy mx my,ops[j]?=some ox∧ops[k]?=some oy∧ms[j]?=some mx∧ms[k]?=some my∧
      yE (((infos 0 ops.toList ys ms).filter fun x=>bu x.cls 1).map (·.i)) ⟨j,x.cls,x.dst,mo ox x,mx,x.lE,Oq x.op⟩ ⟨k,y.cls,y.dst,mo oy y,my,y.lE,Oq y.op⟩=true:=by
    intro j k x y vO hx hy;obtain⟨ox,mx,a1,a2,a3⟩:=at_ j x hx;obtain⟨oy,my,b1,b2,b3⟩:=at_ k y hy;exact⟨ox,oy,mx,my,a1,b1,a2,b2,vC _ hp j k _ _ vO a3 b3⟩
  have nm:∀(k:Nat) (o:Oper) (y:aC),ops[k]?=some o→ys[k]?=some y→qm (infos 0 ops.toList ys ms) k=mo o y:=by
    intro k o y ho hy;obtain⟨o',m,a1,a2,a3⟩:=at_ k y hy;rw[ho]at a1;obtain rfl:=aa a1;unfold qm;rw[a3]
  have loose:∀(j k:Nat) (x y:aC),j<k→ys[j]?=some x→ys[k]?=some y→¬hasB (ms.getD k 0) j=true→
      ¬(x.cls=2∧y.cls=2)∧¬(x.cls=1∧y.cls=2)∧DV x.dst (qm (infos 0 ops.toList ys ms) k)=false∧DV y.dst (qm (infos 0 ops.toList ys ms) j)=false∧
      (x.cls=2→y.cls=0→∀i z,ys[i]?=some z→z.cls=1→j<i→hasB (ms.getD k 0) i=true→False)∧(x.cls=1→y.cls=0→∀i z,ys[i]?=some z→z.cls=1→j≤i→hasB (ms.getD k 0) i=true→False)∧(∀u,x.lE=some u→x.cls=0→y.cls=2→k≤u):=by
    intro j k x y vO hx hy hn;obtain⟨ox,oy,mx,my,a1,b1,a2,b2,hh⟩:=pr j k x y vO hx hy;have e:ms.getD k 0=my:=by simp[aW,b2]
    rw[e]at hn;have hn:hasB my j=false:=by cases h:hasB my j<;>simp_all
    rw[nm k oy y b1 hy,nm j ox x a1 hx];unfold yE at hh;simp only[hn,lm,bz,Bool.not_eq_true']at hh;obtain⟨⟨⟨⟨⟨⟨⟨h1,h2⟩,h3⟩,h4⟩,h5⟩,WG⟩,h6⟩,h7⟩:=hh;have e':my=ms.getD k 0:=e.symm
    have alin:∀i z,ys[i]?=some z→z.cls=1→i∈((infos 0 ops.toList ys ms).filter fun x=>bu x.cls 1).map (·.i):=fun i z hz xQ=>by
      obtain⟨oz,mz,z1,z2,z3⟩:=at_ i z hz;exact iV.2 ⟨_,pj.2 ⟨dh z3,by simp[xQ]⟩,rfl⟩
    refine⟨fun c=>?_,fun c=>?_,h3,h4,fun c d i z hz xQ xS Wj=>?_,fun c d i z hz xQ xS Wj=>?_,fun u hu c d=>?_⟩
    · rw[c.1,c.2]at h1;simp at h1
    · rw[c.1,c.2]at h2;simp at h2
    · rw[c,d]at h5
      have:(((infos 0 ops.toList ys ms).filter fun x=>bu x.cls 1).map (·.i)).any (fun i=>gV j i&&hasB my i)=true:=vn.2 ⟨i,alin i z hz xQ,by rw[e',Wj];simp[ji,xS]⟩;rw[this]at h5;simp at h5
    · rw[c,d]at WG
      have:(((infos 0 ops.toList ys ms).filter fun x=>bu x.cls 1).map (·.i)).any (fun i=>pU j i&&hasB my i)=true:=vn.2 ⟨i,alin i z hz xQ,by rw[e',Wj,Nat.ble_eq_true_of_le xS];rfl⟩;rw[this]at WG;simp at WG
    · rw[hu]at h6
      simp only[c,d,ow,Bool.and_self,jW,lm]at h6;exact iU h6
  have anclt:∀(k i:Nat) (y:aC),ys[k]?=some y→hasB (ms.getD k 0) i=true→i<k:=by
    have key:∀(n k:Nat),k<n→k<ys.length→∀i,hasB (ms.getD k 0) i=true→i<k:=by
      intro n
      induction n with
      |zero=>intro k h;omega
      | succ n ih=>
        intro k hkn hk i hi;have ho:ops[k]?=some ops[k]:=bM (by omega);have C1:ops.toList[k]?=some ops[k]:=by rw[fc];exact ho
        have RC:=m3 k _ C1;simp only[aK,dd]at RC;rw[show ms.getD k 0=nv (ms.take k) (kN ops[k]) by simp[aW,RC],sE]at hi;unfold nv at hi;rw[pz]at hi;rcases hi with hi|⟨j,hj,xS⟩
        · simp at hi
        · have vO:=uw 0 ops.toList MR k _ C1 j hj
          rw[dd]at vO;rcases xS with rfl|xS
          · exact vO
          · simp only[aW,gi,if_pos vO]at xS
            have:=ih j (by omega) (by omega) i (by rw[sE];simpa[aW]using xS);omega
    intro k i y hy hi;exact key (k+1) k (cN _) (aZ.1 hy).1 i hi
  refine⟨hlen,fun k o x ho hx=>hc.get k o x (by rw[fc];exact ho) hx,?_,?_,?_,?_,?_,?_,?_,?_,?_,?_,?_,?_⟩
  · intro k o ho e he hb
    have:=uw 0 ops.toList MR k o (by rw[fc];exact ho) e.on (iV.2 ⟨e,pj.2 ⟨by simpa using he,hb⟩,rfl⟩);omega
  · intro S hS k o ho Hv i hi
    have C1:ops.toList[k]?=some o:=by rw[fc];exact ho
    have RC:=m3 k o C1;simp only[aK,dd]at RC;rw[show ms.getD k 0=nv (ms.take k) (kN o) by simp[aW,RC],sE]at hi;unfold nv at hi;rw[pz]at hi;rcases hi with hi|⟨j,hj,xS⟩
    · simp at hi
    · obtain⟨e,he,rfl⟩:=iV.1 hj
      obtain⟨he1,Z4⟩:=pj.1 he;have hSe:S e.on:=Hv e (by simpa using he1) Z4;rcases xS with rfl|xS
      · exact hSe
      · refine hS e.on hSe i ?_
        rw[sE];by_cases hlt:e.on<k
        · simp only[aW,gi,if_pos hlt]at xS
          simpa[aW]using xS
        · simp[aW,gi,hlt]at xS
  · intro j k x y vO hx hy CZ mY
    exact Classical.byContradiction fun hn=>(loose j k x y vO hx hy hn).1 ⟨CZ,mY⟩
  · intro j k x y vO hx hy CZ mY
    exact Classical.byContradiction fun hn=>(loose j k x y vO hx hy hn).2.1 ⟨CZ,mY⟩
  · intro j l k x z y PF hx hz hy CZ xQ mY TZ
    by_cases vO:j<k
    · exact Classical.byContradiction fun hn=>(loose j k x y vO hx hy hn).2.2.2.2.2.1 CZ mY l z hz xQ PF TZ
    · have:=anclt k l y hy TZ;omega
  · intro j i k x z y xS hx hz hy CZ xQ mY nE
    by_cases vO:j<k
    · exact Classical.byContradiction fun hn=>(loose j k x y vO hx hy hn).2.2.2.2.1 CZ mY i z hz xQ xS nE
    · have:=anclt k i y hy nE;omega
  · intro j k x y sz n z ps hx hy CZ hyf T2
    obtain⟨oy,my,b1,b2,b3⟩:=at_ k y hy;obtain⟨ox,mx,a1,a2,a3⟩:=at_ j x hx;have h1:=bV.1 Ww _ (dh b3);unfold RV at h1;simp only[hyf,Oq,jW,lm]at h1;have h2:=bV.1 h1 j (iV.2 ⟨_,pj.2 ⟨dh a3,by simp[CZ]⟩,rfl⟩);have e:ms.getD k 0=my:=by simp[aW,b2]
    rw[e]at T2;rw[T2]at h2;simp at h2
  · intro j k x y vO hx hy hn
    obtain⟨_,_,h3,h4,_,_,_⟩:=loose j k x y vO hx hy hn;exact⟨fun d hd=>yU (by rw[←hd];exact h3),fun d hd=>yU (by rw[←hd];exact h4)⟩
  · have key:∀(j k:Nat) (x y:aC) (d:Nat),j<k→ys[j]?=some x→ys[k]?=some y→x.dst=some d→y.dst=some d→False:=by
      intro j k x y d vO hx hy hd mZ;obtain⟨ox,oy,mx,my,a1,b1,a2,b2,hh⟩:=pr j k x y vO hx hy;unfold yE at hh;simp only[bz,hd,mZ,Mr,ow,jW]at hh;exact absurd hh.2 (by simp)
    intro j k x y d hx hy hd mZ;rcases mP j k with c|c|c
    · exact(key j k x y d c hx hy hd mZ).elim
    · exact c
    · exact(key k j y x d c hy hx mZ hd).elim
  · intro k o x ho hx
    rw[nm k o x ho hx];unfold mo;refine⟨fun t ht=>?_,fun t ht=>?_,fun d b hd=>?_⟩
    · exact dR.2 (.inl (List.mem_filterMap.2 ⟨.tmp t,by simpa using ht,rfl⟩))
    · exact dR.2 (.inr (dR.2 (.inl (List.mem_filterMap.2 ⟨.t t,ht,rfl⟩))))
    · rw[hd];exact dR.2 (.inr (dR.2 (.inr (.head _))))
  · intro k x hx CZ
    obtain⟨o,m,a1,a2,a3⟩:=at_ k x hx;have h1:=bV.1 Wt x (dh hx);have h2:=bV.1 nD _ (dh a3);simp only[CZ,ow,jW,lm]at h1;unfold Ob at h2;simp only[CZ,ow,jW,lm,bz]at h2;rw[nm k o x a1 hx];refine⟨by simpa using h1,fun z hz=>?_⟩;have h3:=h2.2;rw[hz]at h3;simpa[Oq]using h3
  · intro k x u hx CZ hu
    obtain⟨o,m,a1,a2,a3⟩:=at_ k x hx;have h2:=bV.1 nD _ (dh a3);unfold Ob at h2;simp only[hu,bz]at h2;refine⟨iU h2.1.1,by simpa[ji]using h2.1.2,fun j y hy T2 mY hn=>?_⟩;exact(loose k j x y T2 hx hy hn).2.2.2.2.2.2 u hu CZ mY
def BP (P:Program):List ResultVar→Option (List rH)
 |[]=>some []
 | .tmp t::r=>match BP P r with
  |some l=>some (.tmp t::l)
  |none=>none
 | .cell ad t::r=>match oQ P t,pg P t,BP P r with
  |some a,some n,some l=>some (.cell ad a (if a then n else 1)::l)
  |_,_,_=>none
def T9 (P:Program)(fn:Func)(c:Code):Option cy:=
 match BP P fn.results.toList with
 |some rs=>some ⟨fn.ntmps,rs,fK P fn.ntmps c⟩
 |none=>none
section
variable {P:Program}{W0:World}{base nt:Nat}{E:Env}{ρ ρ':dw}{h h':Hp}{w w':World}{s s':St}{a a':Act}{v:AV}
theorem zM {ops:Array Oper}{o:Oper}{x:aC}(h:H7 P nt ops o=some x):EJ P nt ops o x:=by
 unfold H7 at h;split at h
 ·rename_i g hg;split at h
  ·rename_i hd;obtain rfl:=aa h;refine⟨?_,rfl,fun d mZ=>?_,hg⟩
   ·cases gE P o with
    |none=>exact .inr (.inl rfl)
    |some a=>exact .inl rfl
   ·have mZ:o.dst=some d:=mZ;rw[mZ]at hd;simpa[ji]using hd
  ·cases h
 ·cases h
theorem iz {ops:Array Oper}:∀{os:List Oper} {xs:List aC},pK P nt ops os=some xs→oT (EJ P nt ops) os xs
 |[],xs,h=>by obtain rfl:=aa h;exact .nil
 | o ::os,xs,h=>by
  unfold pK at h;split at h
  ·rename_i x hx;split at h
   ·rename_i ys Ax;obtain rfl:=aa h;exact .cons (zM hx) (iz Ax)
   ·cases h
  ·cases h
theorem xk {ops:Array Oper}{ch:List (Nat×Nat)}{os:List Oper}{xs:List aC}(h:oT (EJ P nt ops) os xs):∀(i:Nat) (ms:List Nat),oT (EJ P nt ops) os (xl ch i xs ms):=by
 induction h with
 |nil=>intro i ms;cases ms<;>exact .nil
 | cons r rs ih=>
  rename_i o x os xs;intro i ms;cases ms with
  |nil=>exact .cons r rs
  | cons m ms=>
   simp only[xl];refine .cons ?_ (ih (i+1) ms);split
   ·rename_i hx;split
    ·refine⟨.inr (.inr ?_),r.dst,r.lt,r.qq⟩;rcases r.op with c|c|⟨_,_,_,_,_,c⟩
     ·exact⟨_,_,_,_,c.trans (congrArg some hx),rfl⟩
     ·rw[hx]at c;cases c
     ·rw[hx]at c;cases c
    ·exact r
   ·exact r
theorem rM {ops:Array Oper}{ch:List (Nat×Nat)}{os:List Oper}{xs:List aC}(h:oT (EJ P nt ops) os xs):∀(i:Nat) (ms:List Nat),oT (EJ P nt ops) os (yg ch i xs ms):=by
 induction h with
 |nil=>intro i ms;cases ms<;>exact .nil
 | cons r rs ih=>
  rename_i o x os xs;intro i ms;cases ms with
  |nil=>exact .cons r rs
  | cons m ms=>
   simp only[yg];refine .cons ?_ (ih (i+1) ms);split
   ·exact⟨r.op,r.dst,r.lt,r.qq⟩
   ·exact r
def FY (tmps:Array Value):ResultVar→Sem Value
 | .tmp t=>pure (tmps.getD t undef)
 | .cell a t=>do loadVar t (←asAddr (tmps.getD a undef))
theorem AQ (fn:Func)(tmps:Array Value):results fn tmps=(do let vs ←fn.results.mapM (FY tmps);pure (if h:vs.size=1 then vs[0]else .tuple vs)):=by
 unfold results;congr
theorem kZ (S:mE W0 base nt ρ s a w):∀(rv:List ResultVar) (rs:List rH) (vs:List AV),BP P rv=some rs→qb s rs=some vs→
  (rv.mapM (FY a.tmps)).run P w= .ok (encs ρ vs) w∧gP ρ s.hp.next vs
 | [],rs,vs,hc,hr=>by
  obtain rfl:=aa hc;obtain rfl:=aa hr;exact⟨by simp[encs],trivial⟩
 | .tmp t::rv,rs,vs,hc,hr=>by
  simp only[BP]at hc;split at hc
  ·rename_i l hl;obtain rfl:=aa hc;simp only[qb,nj]at hr;split at hr
   ·rename_i v Ur hv DZ;obtain rfl:=aa hr;obtain rfl:=aa hv;obtain⟨i1,i2⟩:=kZ S rv l Ur hl DZ;obtain⟨t1,t2⟩:=S.tmp t;refine⟨?_,t2,i2⟩;rw[List.mapM_cons];simp only[Sem.run_bind,FY,Sem.run_pure,Result.andThen_ok,i1,encs];rw[t1];rfl
   ·cases hr
  ·cases hc
 | .cell ad t::rv,rs,vs,hc,hr=>by
  simp only[BP]at hc;split at hc
  ·rename_i ag n l hag hn hl;obtain rfl:=aa hc;simp only[qb]at hr;split at hr
   ·rename_i v Ur hv DZ;obtain rfl:=aa hr;obtain⟨i1,i2⟩:=kZ S rv l Ur hl DZ;obtain⟨t1,t2⟩:=S.tmp ad;have hvv:(s.tm.get ad).getD jC=val s.tm (.t ad):=rfl;simp only[nj,hvv]at hv;split at hv
    ·rename_i b o hb;rw[hb]at t1;split at hv
     ·rename_i cs own st hg;by_cases hlen:o+(if ag then n else 1)≤cs.length
      ·rw[if_pos hlen]at hv;obtain⟨h1,h2⟩:=pb S.rel hag hn hg hlen (v:=v) (by cases ag<;>simpa using hv)
       refine⟨?_,h2,i2⟩;rw[List.mapM_cons];simp only[Sem.run_bind,FY,Sem.run_pure,Result.andThen_ok,i1,encs,t1,enc,asAddr,h1]
      ·rw[if_neg hlen]at hv;cases hv
     ·cases hv
    ·cases hv
   ·cases hr
  ·cases hc
theorem wN (S:mE W0 base nt ρ s a w){fn:Func}{rs:List rH}(hc:BP P fn.results.toList=some rs)(hr:eC s rs=some v):(results fn a.tmps).run P w= .ok (enc ρ v) w∧ok ρ s.hp.next v:=by
 unfold eC at hr;rw[AQ]
 have key:∀vs,qb s rs=some vs→(fn.results.mapM (FY a.tmps)).run P w= .ok (encs ρ vs).toArray w∧gP ρ s.hp.next vs:=by
  intro vs DZ;obtain⟨h1,h2⟩:=kZ S _ _ _ hc DZ;refine⟨?_,h2⟩;rw[Array.mapM_eq_mapM_toList,map_eq_pure_bind];simp only[Sem.run_bind,h1,Result.andThen_ok,Sem.run_pure]
 split at hr
 ·rename_i u hu;obtain rfl:=aa hr;obtain⟨h1,h2⟩:=key _ hu;refine⟨?_,h2.1⟩;simp only[Sem.run_bind];rw[h1];simp[encs]
 ·rename_i vs hne DZ;obtain rfl:=aa hr;obtain⟨h1,h2⟩:=key _ DZ;refine⟨?_,h2⟩;simp only[Sem.run_bind];rw[h1];simp only[Result.andThen_ok,Sem.run_pure,List.size_toArray,bX];split
  ·rename_i hl;obtain⟨u,rfl⟩:=List.length_eq_one_iff.1 hl;exact absurd rfl (hne u)
  ·simp[enc]
 ·cases hr
def IL (P:Program)(E:Env):Prop:=∀f afn,E.fns f=some afn→∃fn c,P.funcs[f]?=some fn∧(fn.name== "runtime.NumGoroutine")=false∧fn.body=some c∧T9 P fn c=some afn
def Ds (P:Program)(W0:World)(base:Nat)(E:Env):Prop:=∀f p,E.dG f=some p→∀args h v h',p args h=some (v,h')→∀ρ w,bl base W0 w→bv base ρ h w→gP ρ h.next args→dQ P base ρ h w (callFunc f (encs ρ args).toArray) v h'
def IM (P:Program)(W0:World)(base:Nat)(E:Env):Prop:=∀f e,E.exts f=some e→∀args v,e args=some v→∀ρ h w,bl base W0 w→bv base ρ h w→gP ρ h.next args→dQ P base ρ h w (callFunc f (encs ρ args).toArray) v h
structure fC (P:Program)(W0:World)(base:Nat)(E:Env):Prop where
 fns:IL P E
 dG:Ds P W0 base E
 exts:IM P W0 base E
 gF:rE P E
 later:ga E
 mixed:P.follows .mixedOrders=true
def xK (P:Program)(W0:World)(base:Nat)(E:Env)(n:Nat):Prop:=∀(c:Code) (s:St) (e:Ex) (s':St) (nt:Nat),exec E n (fK P nt c) s=some (e,s')→∀ρ a w,mE W0 base nt ρ s a w→c.wp P (L3 W0 base nt ρ s.hp w e s') a w
theorem mE.drew (S:mE W0 base nt ρ s a w)(d:Nat):mE W0 base nt ρ s a { w with drawn:=d }:=⟨S.rel.drawn d,S.oO.trans ⟨rfl,rfl,rfl,ae _,fun _ _=>rfl⟩,S.defers,S.size,S.tmp⟩
theorem oW {c:Code}{Q:Exit→Act→World→Prop}(J:Nat→Act→World→Prop){n:Nat}(h0:J n a w)(round:∀n a w,J n a w→c.wp P (Exit.then (fun a' w'=>∃n',n'<n∧J n' a' w') Q) a w):(Code.loop c).wp P Q a w:=by
 intro b k cs
 have key:∀n a w,J n a w→∃e a' w',Q e a' w'∧Arrives P (lone (b.at a (.code c:: .inLoop c::k)) cs w) b k cs e a' w':=by
  intro n
  induction n using sL with
  | _ n ih=>
   intro a w hI;obtain⟨e,a₁,w₁,hq,zk⟩:=round n a w hI b (.inLoop c::k) cs;cases e with
   | normal=>
    obtain⟨n',hlt,hI₁⟩:=hq;obtain⟨e₂,a₂,w₂,hq₂,harr₂⟩:=ih n' hlt a₁ w₁ hI₁;exact⟨e₂,a₂,w₂,hq₂,.of_steps (Steps.trans zk (.one step_inLoop)) harr₂⟩
   |exit id=>exact⟨_,a₁,w₁,hq,.pass (x:= .inLoop c) rfl (fun _ _=> .inl (by simp)) zk⟩
   |goto l=>exact⟨_,a₁,w₁,hq,.pass (x:= .inLoop c) rfl (fun _ _=> .inl (by simp)) zk⟩
   |ret=>exact⟨_,a₁,w₁,hq,.pass (x:= .inLoop c) rfl (fun _ _=> .inl (by simp)) zk⟩
   |panic ch=>exact⟨_,a₁,w₁,hq,.pass (x:= .inLoop c) rfl (fun _ _=> .inl (by simp)) zk⟩
   |outgrown=>exact⟨_,a₁,w₁,hq,.pass (x:= .inLoop c) rfl (fun _ _=> .inl (by simp)) zk⟩
 obtain⟨e,a',w',hq,zk⟩:=key _ a w h0;exact⟨e,a',w',hq,.of_steps (.one step_loop) zk⟩
theorem BR (EO:fC P W0 base E)(n:Nat)(IH:∀m,m<n→xK P W0 base E m)(CO:∀m,m<n→mG P W0 base E (exec E m)):xK P W0 base E n:=by
 intro c s e s' nt hr ρ a w S;cases n with
 |zero=>cases hr
 | succ m=>
  have hI:=IH m (by omega);rw[aN]at hr;cases c
  case skip=>
   obtain⟨rfl,rfl⟩:=ai (show some (Ex.fP,s)=some (e,s') from hr);exact wp_skip ⟨trivial,ρ,S,Ext.refl S.rel⟩
  case label l=>
   obtain⟨rfl,rfl⟩:=ai (show some (Ex.fP,s)=some (e,s') from hr);exact wp_label ⟨trivial,ρ,S,Ext.refl S.rel⟩
  case exit id=>
   obtain⟨rfl,rfl⟩:=ai (show some (Ex.exit id,s)=some (e,s') from hr);exact wp_exit ⟨rfl,ρ,S,Ext.refl S.rel⟩
  case ret=>
   obtain⟨rfl,rfl⟩:=ai (show some (Ex.ret,s)=some (e,s') from hr);exact wp_ret ⟨trivial,ρ,S,Ext.refl S.rel⟩
  case seq x y=>
   have hr:iF (fK P nt x) (fK P nt y) E (exec E m) s=some (e,s'):=hr;unfold iF at hr;refine wp_seq ?_;split at hr
   ·rename_i s1 h1;refine wp_mono (hI x s .fP s1 nt h1 ρ a w S) fun e1 a1 w1 hq=>?_
    obtain⟨q1,ρ1,S1,X1⟩:=hq;cases e1<;>first|exact q1.elim|skip
    exact wp_mono (hI y s1 e s' nt hr ρ1 a1 w1 S1) fun e2 a2 w2 Ru=>L3.trans X1 Ru
   ·rename_i hne;refine wp_mono (hI x s e s' nt hr ρ a w S) fun e1 a1 w1 hq=>?_
    cases e1<;>first|exact hq|skip
    exfalso;obtain⟨q1,_⟩:=hq;cases e<;>first|exact q1.elim|skip
    exact hne s' hr
  case scope c=>
   have hr:iF .skip (fK P nt c) E (exec E m) s=some (e,s'):=hr;unfold iF at hr;cases m with
   |zero=>cases hr
   | succ k=>
    have h1:exec E (k+1) .skip s=some (.fP,s):=by rw[aN];rfl
    rw[h1]at hr;refine wp_scope_straight (wp_mono (hI c s e s' nt hr ρ a w S) fun e1 a1 w1 hq=>?_);cases e1<;>first|exact hq|(obtain⟨q1,_⟩:=hq;cases e<;>exact q1.elim)
  case cond x c1 c2=>
   simp only[fK]at hr;split at hr
   ·rename_i y hy;have hr:gY y (fK P nt c1) (fK P nt c2) E (exec E m) s=some (e,s'):=hr;unfold gY at hr;obtain⟨e1,_⟩:=S.HU _ _ hy;split at hr
    ·rename_i g;exact wp_cond_true (by rw[e1,g];simp[enc]) (hI c1 s e s' nt hr ρ a w S)
    ·rename_i g;exact wp_cond_false (by rw[e1,g];simp[enc]) (hI c2 s e s' nt hr ρ a w S)
    ·cases hr
   ·cases hr
  case block id c=>
   have hr:fk id (fK P nt c) E (exec E m) s=some (e,s'):=hr;unfold fk at hr;refine wp_block ?_;split at hr
   ·rename_i i s1 h1;split at hr
    ·rename_i hid;obtain⟨rfl,rfl⟩:=ai hr;obtain rfl:=Nat.eq_of_beq_eq_true hid;refine wp_mono (hI c s _ _ nt h1 ρ a w S) fun e1 a1 w1 hq=>?_
     obtain⟨q1,q2⟩:=hq;cases e1<;>first|exact q1.elim|skip
     simp only at q1;subst q1;simp only[Exit.inBlock,if_true];exact⟨trivial,q2⟩
    ·rename_i hid;obtain⟨rfl,rfl⟩:=ai hr;refine wp_mono (hI c s _ _ nt h1 ρ a w S) fun e1 a1 w1 hq=>?_
     obtain⟨q1,q2⟩:=hq;cases e1<;>first|exact q1.elim|skip
     simp only at q1;subst q1;have:¬i=id:=fun e=>by subst e;simp at hid
     simp only[Exit.inBlock,if_neg this];exact⟨rfl,q2⟩
   ·rename_i hne;refine wp_mono (hI c s e s' nt hr ρ a w S) fun e1 a1 w1 hq=>?_
    cases e1<;>first|exact hq|skip
    exfalso;obtain⟨q1,_⟩:=hq;cases e<;>first|exact q1.elim|skip
    exact hne _ s' hr
  case region id ops draw=>
   cases draw with
   | false=>
    simp only[fK]at hr;split at hr
    ·rename_i xs TT;have hr:exec E (m+1) (.cx xs) s=some (e,s'):=by rw[aN];exact hr
     have VX:=CK _ _ _ _ _ hr;subst VX;have:=DK (Q:=L3 W0 base nt ρ s.hp w .fP s') EO.gF (m+1) CO (m+1) 0 ops.toList xs ρ s a w .fP s' (ae _) (by simp) (iz TT) S hr (fun a' w' ρ' S' X'=>⟨trivial,ρ',S',X'⟩);refine wp_region ?_;rw[List.range_eq_range'];simpa using this
    ·cases hr
   | true=>
    simp only[fK]at hr;split at hr
    ·rename_i xs TT
     have draw:∀zs:List aC,oT (EJ P nt ops) ops.toList zs→zB ops.toList zs (jK ops.toList [])=true→exec E (m+1) (.cm zs) s=some (e,s')→(Code.region id ops true).wp P (L3 W0 base nt ρ s.hp w e s') a w:=by
      intro zs hzs hd hr;have hr:exec E m (.kq zs 0 s.hp.dc []) s=some (e,s'):=by rw[aN]at hr;exact hr
      obtain⟨rfl,ss,vs,t1,t2,T,_⟩:=pH m _ _ _ _ _ _ _ hr;have ST:=Jr hzs rfl hd;refine wp_region_any EO.mixed ?_;subst t1;have hlen:=ST.size;have S1:=S.drew (w.drawn+1)
      have HQ:∀a' w' ρ',mE W0 base nt ρ' (ss zs.length) a' w'→Ext base ρ (ss 0).hp { w with drawn:=w.drawn+1 } ρ' (ss zs.length).hp w'→L3 W0 base nt ρ (ss 0).hp w .fP s' .normal a' w':=by
       intro a' w' ρ' S' X';rw[dd]at t2;rw[t2]at S' X';exact⟨trivial,ρ',S',(Ext.drawn S.rel _).trans X'⟩
      have hB:∀k,∃cs,∀x,zs[k]?=some x→x.cls=1→vg ss vs k cs:=fun k=>by
       by_cases c:∃x,zs[k]?=some x∧x.cls=1
       ·obtain⟨x,hx,hc⟩:=c;obtain⟨cs,hcs⟩:=T.born ST hx hc;exact⟨cs,fun _ _ _=>hcs⟩
       ·exact⟨[],fun x hx hc=>absurd ⟨x,hx,hc⟩ c⟩
      refine EB (cz:=fun k=>(hB k).choose) ST (fun k x hx hc=>(hB k).choose_spec x hx hc) EO.later EO.gF (fun k hk=>CO k (by omega)) T S1 HQ ops.size _ (fun _=>False) 0 ρ a _ (fun _=>⟨0,0,0,0⟩) (by simp) (fun k=>?_) ?_ ?_
      ·simp only[cI,AE,false_iff];split<;>simp
      ·refine aB List.countP_le_length ?_;simp
      ·exact⟨aJ _,fun j hj=>hj.elim,fun k x hx hc=>by simp,fun k x hx hc hk=>by omega,Ext.refl S1.rel,S.defers,S.size,fun k x hx hS=>hS.elim,fun k x hx hS=>hS.elim,fun k k' x x' hx Ot hS=>hS.elim,fun d hd=>rfl⟩
     split at hr
     ·rename_i hd;exact draw _ (rM (iz TT) 0 (jK ops.toList [])) hd (by rw[aN];exact hr)
     ·split at hr
      ·rename_i hd;exact draw _ (rM (xk (iz TT) 0 (jK ops.toList [])) 0 (jK ops.toList [])) hd (by rw[aN];exact hr)
      ·cases hr
    ·cases hr
  case loop c=>
   refine oW (fun k a1 w1=>k≤m+1∧∃s1 ρ1,exec E k (.loop (fK P nt c)) s1=some (e,s')∧mE W0 base nt ρ1 s1 a1 w1∧Ext base ρ s.hp w ρ1 s1.hp w1) (n:=m+1) ⟨ae _,s,ρ,by rw[aN];exact hr,S,Ext.refl S.rel⟩ ?_;rintro k a1 w1 ⟨hk,s1,ρ1,Bv,S1,X1⟩;cases k with
   |zero=>cases Bv
   | succ k=>
    rw[aN]at Bv;have Bv:gX (fK P nt c) E (exec E k) s1=some (e,s'):=Bv;unfold gX at Bv;split at Bv
    ·rename_i s2 h2;refine wp_mono (IH k (by omega) c s1 .fP s2 nt h2 ρ1 a1 w1 S1) fun e1 a2 w2 hq=>?_
     obtain⟨q1,ρ2,S2,X2⟩:=hq;cases e1<;>first|exact q1.elim|skip
     exact⟨k,by omega,by omega,s2,ρ2,Bv,S2,X1.trans X2⟩
    ·rename_i hne;refine wp_mono (IH k (by omega) c s1 e s' nt Bv ρ1 a1 w1 S1) fun e1 a2 w2 hq=>?_
     have hq':=L3.trans X1 hq;cases e1<;>first|exact hq'|skip
     exfalso;obtain⟨q1,_⟩:=hq;cases e<;>first|exact q1.elim|skip
     exact hne s' Bv
  all_goals cases hr
theorem rj:∀(args:List AV) (i:Nat) (t:T AV) (k:Nat),(ie args i t).get k=if i≤k∧k<i+args.length then args[k-i]? else t.get k
 |[],i,t,k=>by simp[ie];omega
 | v ::r,i,t,k=>by
  rw[show ie (v::r) i t=ie r (i+1) (t.set i v) from rfl,rj r (i+1) (t.set i v) k,T.qs];simp only[ap];by_cases h1:k=i
  ·subst h1;rw[if_neg (by omega),if_pos rfl,if_pos (by omega)];simp
  ·by_cases h2:i+1≤k∧k<i+1+r.length
   ·rw[if_pos h2,if_pos (by omega),show k-i=(k-(i+1))+1 by omega];rfl
   ·rw[if_neg h2,if_neg h1,if_neg (by omega)]
theorem zV (EO:fC P W0 base E)(n:Nat)(CD:xK P W0 base E n):mG P W0 base E (exec E n):=by
 intro f args h v h' hr ρ w B R hok;unfold gB at hr;split at hr
 ·rename_i e he;split at hr
  ·rename_i u hu;obtain⟨rfl,rfl⟩:=ai hr;exact EO.exts f e he args u hu ρ h w B R hok
  ·cases hr
 ·split at hr
  ·rename_i p hp;exact EO.dG f p hp args h v h' hr ρ w B R hok
  ·split at hr
   ·cases hr
   ·rename_i afn WE;obtain⟨fn,c,hf,TX,hb,Kf⟩:=EO.fns f afn WE;unfold T9 at Kf;split at Kf
    ·rename_i rs hrs;obtain rfl:=aa Kf
     have S:mE W0 base fn.ntmps ρ { tm:=ie args 0 .nil,hp:=h } { tmps:=(encs ρ args).toArray++Array.replicate (fn.ntmps-(encs ρ args).toArray.size) undef,defers:=[] } w:=by
      refine⟨R,B,rfl,by simp;omega,fun t=>?_⟩;simp only[val,rj,aJ,true_and,dd,Nat.sub_zero,cI];by_cases ht:t<args.length
      ·rw[if_pos ht,xZ (by simpa[bX]using ht)];obtain⟨u,hu⟩:∃u,args[t]?=some u:=⟨args[t],aI ht⟩
       simp only[List.getElem?_toArray,cC,bK,hu,cJ,fF];exact⟨trivial,(cQ _ _ _).1 hok u (dh hu)⟩
      ·rw[if_neg ht,Array.getElem?_append_right (by simp[bX];omega),AE];simp only[T.get_nil,uI,kM];exact⟨by split<;>rfl,trivial⟩
     have run:(callFunc f (encs ρ args).toArray).run P w= .ok (.enter f (encs ρ args).toArray) w:=by
      have VZ:¬fn.name= "runtime.NumGoroutine" :=fun e=>by rw[e]at TX;exact absurd TX (by decide)
      simp[callFunc,run_program,hf,VZ,hb]
     unfold dQ;rw[run]
     have fin:∀(e:Ex) (s:St),(∀i,e≠ .exit i)→exec E n (fK P fn.ntmps c) { tm:=ie args 0 .nil,hp:=h }=some (e,s)→eC s rs=some v→s.hp=h'→kT P (qH base ρ h w v h') (.ok (.enter f (encs ρ args).toArray) w):=by
      rintro e s hne hx Bu rfl;refine calls_of_wp hf hb (wp_mono (CD c _ e s fn.ntmps hx ρ _ w S) fun e1 a1 w1 hq=>?_);obtain⟨q1,ρ1,S1,X1⟩:=hq;obtain⟨r1,r2⟩:=wN S1 hrs Bu;cases e1<;>cases e<;>first|exact q1.elim|exact⟨S1.defers,_,r1,_,rfl,ρ1,X1,r2,rfl⟩|exact absurd rfl (hne _)
     split at hr
     ·cases hr
     ·rename_i e s hne hx;split at hr
      ·rename_i u hu;obtain⟨rfl,rfl⟩:=ai hr;exact fin e s (fun i hi=>hne i hi) hx hu rfl
      ·cases hr
     ·cases hr
    ·cases Kf
theorem sound (EO:fC P W0 base E):∀n,xK P W0 base E n∧mG P W0 base E (exec E n):=by
 intro n
 induction n using sL with
 | _ n ih=>
  have h1:=BR EO n (fun m hm=>(ih m hm).1) (fun m hm=>(ih m hm).2);exact⟨h1,zV EO n h1⟩
theorem ut (EO:fC P W0 base E){n f:Nat}{args:List AV}(hr:call E n f args h=some (v,h'))(B:bl base W0 w)(R:bv base ρ h w)(hok:gP ρ h.next args):dQ P base ρ h w (callFunc f (encs ρ args).toArray) v h':=
 (sound EO n).2 f args h v h' hr ρ w B R hok
end
section
variable {P:Program}{W0:World}{base:Nat}{ρ:dw}{h h':Hp}{w w':World}{v:AV}{f:FuncId}{args:Array Value}
theorem Ext.grown (R:bv base ρ h w)(B:bl w.heap.size w w'):Ext base ρ h w ρ h w':=by
  refine⟨cV.refl _ _,ae _,⟨aB R.size B.size,R.lt,?_,?_,?_,R.apart⟩,⟨B.os,B.tape,B.output,B.size,fun k hk _=>B.block k hk⟩,fun t o ht ho=> .inr ⟨t,o,ht,ho,rfl⟩⟩
  · intro t cs own st ht
    have r:=R.row t cs own st ht;refine r.later (cV.refl _ _) (ae _) (R.lt _ _ ht) B.size ?_;cases own with
    |true=>exact .inr (B.block _ (r.se rfl).2.1)
    | false => rcases r.wW rfl with c|c
               · exact .inl ⟨c,rfl⟩
               · exact .inr (B.block _ (ah c R.size))
  · intro t s p st ht
    rw[B.block _ (R.hC ht rfl).2];exact R.iter t s p st ht
  · intro t es st ht
    rw[B.block _ (R.hC ht rfl).2];exact R.map t es st ht
def eD (P:Program)(f:FuncId):Bool:=
 match P.funcs[f]? with
 |some fn=>fn.body.isSome&& !(fn.name== "runtime.NumGoroutine")
 |none=>false
theorem nY (hc:eD P f=true)(args:Array Value)(w:World):(callFunc f args).run P w= .ok (.enter f args) w:=by
 unfold eD at hc;split at hc
 ·rename_i fn hf;simp only[bz,Bool.not_eq_true']at hc
  obtain⟨c,hb⟩:∃c,fn.body=some c:=by cases hh:fn.body with
   |none=>rw[hh]at hc;simp at hc
   |some c=>exact⟨c,rfl⟩
  have hn:¬fn.name= "runtime.NumGoroutine" :=fun e=>by rw[e]at hc;exact absurd hc.2 (by decide)
  simp[callFunc,run_program,hf,hn,hb]
 ·cases hc
theorem dQ.call (hc:eD P f=true)(H:Calls P f args w fun e w'=>∃ρ',e= .returned (enc ρ' v)∧ok ρ' h'.next v∧Ext base ρ h w ρ' h' w'):dQ P base ρ h w (callFunc f args) v h':=by
 unfold dQ;rw[nY hc];exact H.mono fun e w' ⟨ρ',h1,h2,h3⟩=>⟨_,h1,ρ',h3,h2,rfl⟩
theorem dQ.grown (hc:eD P f=true)(R:bv base ρ h w)(hv:ok ρ h.next v)(H:Calls P f args w fun e w'=>e= .returned (enc ρ v)∧bl w.heap.size w w'):dQ P base ρ h w (callFunc f args) v h:=
 dQ.call hc (H.mono fun e w' ⟨h1,h2⟩=>⟨ρ,h1,hv,Ext.grown R h2⟩)
theorem kR (w:World)(n:Nat):bl w.heap.size w (w.drewN n):=⟨rfl,rfl,rfl,ae _,fun _ _=>rfl⟩
theorem below_grow (w:World)(n:Nat)(os:Array Obj):bl w.heap.size w (Go.Sort.grow (w.drewN n) os):=by
 refine⟨rfl,rfl,rfl,?_,fun k hk=>?_⟩
 ·show w.heap.size≤(w.heap++os).size
  simp
 ·show(w.heap++os)[k]?=_
  rw[xZ hk]
end
end Go.Ae
set_option maxRecDepth 100000
namespace Go.Ae.L
open Go.Proofs Go.Ae
structure kz (W0:World)(base:Nat):Prop where
 size:base≤W0.heap.size
 pow10:Lib.TabBelow Tryz.prog base W0 "internal/strconv.uint64pow10" .u64 Lib.pow10Tab
 maxlen:0<base∧∃m,W0.cell? ⟨0,0,none⟩=some (.int .i64 m)
section
variable {W0:World}{base:Nat}{ρ:dw}{h h':Hp}{w w':World}{v:AV}{args:List AV}
theorem kz.ml (G:kz W0 base)(B:bl base W0 w):∃m,w.cell? ⟨0,0,none⟩=some (.int .i64 m):=by
 obtain⟨h1,m,h2⟩:=G.maxlen;exact⟨m,(rA (B.block 0 h1)).trans h2⟩
def A6 (args:List AV)(h:Hp):Option (AV×Hp):=
 match args with
 |[.str s,.str sep]=>if s.length<4294967281 then some (.fO [.str (Lib.cut s sep).1,.str (Lib.cut s sep).2.1,.bool (Lib.cut s sep).2.2],h)else none
 |_=>none
theorem BK:eD Tryz.prog 147=true:=by kernel_rfl
theorem VD (G:kz W0 base)(hp:A6 args h=some (v,h'))(B:bl base W0 w)(R:bv base ρ h w):dQ Tryz.prog base ρ h w (callFunc 147 (encs ρ args).toArray) v h':=by
 unfold A6 at hp;split at hp
 ·rename_i s sep;split at hp
  ·rename_i hs;obtain⟨rfl,rfl⟩:=ai hp;obtain⟨m,hm⟩:=G.ml B;refine dQ.grown BK R (by simp[ok,gP]) ?_;refine(Tryz.strings_Cut ⟨s.toArray⟩ ⟨sep.toArray⟩ m w (by rw[fT];exact hs) hm).mono ?_;rintro e w' ⟨rfl,n,rfl⟩;exact⟨by simp[enc,encs],kR w n⟩
  ·cases hp
 ·cases hp
def AX (args:List AV)(h:Hp):Option (AV×Hp):=
 match args with
 |[.str s,.str sep]=>some (.bool (Lib.hasPrefix s sep),h)
 |_=>none
theorem BC:eD Tryz.prog 258=true:=by kernel_rfl
theorem Vu (hp:AX args h=some (v,h'))(R:bv base ρ h w):dQ Tryz.prog base ρ h w (callFunc 258 (encs ρ args).toArray) v h':=by
 unfold AX at hp;split at hp
 ·rename_i s sep;obtain⟨rfl,rfl⟩:=ai hp;refine dQ.grown BC R (by simp[ok,gP]) ?_;refine(Tryz.strings_HasPrefix ⟨s.toArray⟩ ⟨sep.toArray⟩ w).mono ?_;rintro e w' ⟨rfl,rfl⟩;exact⟨by simp[enc,encs],fo _ _⟩
 ·cases hp
def AW (args:List AV)(h:Hp):Option (AV×Hp):=
 match args with
 |[.str s,.str sep]=>some (.str (Lib.trimPrefix s sep),h)
 |_=>none
theorem BB:eD Tryz.prog 259=true:=by kernel_rfl
theorem Vt (hp:AW args h=some (v,h'))(R:bv base ρ h w):dQ Tryz.prog base ρ h w (callFunc 259 (encs ρ args).toArray) v h':=by
 unfold AW at hp;split at hp
 ·rename_i s sep;obtain⟨rfl,rfl⟩:=ai hp;refine dQ.grown BB R (by simp[ok,gP]) ?_;refine(Tryz.strings_TrimPrefix ⟨s.toArray⟩ ⟨sep.toArray⟩ w).mono ?_;rintro e w' ⟨rfl,rfl⟩;exact⟨by simp[enc,encs],fo _ _⟩
 ·cases hp
def DP (args:List AV)(h:Hp):Option (AV×Hp):=
 match args with
 |[.str s,.str sep]=>some (.fO [.str (Lib.trimPrefix s sep),.bool (Lib.hasPrefix s sep)],h)
 |_=>none
theorem BI:eD Tryz.prog 188=true:=by kernel_rfl
theorem VA (hp:DP args h=some (v,h'))(R:bv base ρ h w):dQ Tryz.prog base ρ h w (callFunc 188 (encs ρ args).toArray) v h':=by
 unfold DP at hp;split at hp
 ·rename_i s sep;obtain⟨rfl,rfl⟩:=ai hp;refine dQ.grown BI R (by simp[ok,gP]) ?_;refine(Tryz.strings_CutPrefix ⟨s.toArray⟩ ⟨sep.toArray⟩ w).mono ?_;rintro e w' ⟨rfl,rfl⟩;exact⟨by simp[enc,encs],fo _ _⟩
 ·cases hp
def Gr (args:List AV)(h:Hp):Option (AV×Hp):=
 match args with
 |[.str s,.str sep]=>if s.length<9223372036854775807 then some (.fO [.str (Lib.trimSuffix s sep),.bool (Lib.hasSuffix s sep)],h)else none
 |_=>none
theorem BD:eD Tryz.prog 239=true:=by kernel_rfl
theorem Vv (hp:Gr args h=some (v,h'))(R:bv base ρ h w):dQ Tryz.prog base ρ h w (callFunc 239 (encs ρ args).toArray) v h':=by
 unfold Gr at hp;split at hp
 ·rename_i s sep;split at hp
  ·rename_i hs;obtain⟨rfl,rfl⟩:=ai hp;refine dQ.grown BD R (by simp[ok,gP]) ?_;refine(Tryz.strings_CutSuffix ⟨s.toArray⟩ ⟨sep.toArray⟩ w (by rw[fT];omega)).mono ?_;rintro e w' ⟨rfl,rfl⟩;exact⟨by simp[enc,encs],fo _ _⟩
  ·cases hp
 ·cases hp
def AY (args:List AV)(h:Hp):Option (AV×Hp):=
 match args with
 |[.str s,.int .i64 n]=>if 0≤n∧n≤9223372036854775807∧s.length*n.toNat≤140737488355328 then some (.str (Lib.repeatL s n.toNat),h)else none
 |_=>none
theorem BG:eD Tryz.prog 221=true:=by kernel_rfl
theorem Vy (hp:AY args h=some (v,h'))(R:bv base ρ h w):dQ Tryz.prog base ρ h w (callFunc 221 (encs ρ args).toArray) v h':=by
 unfold AY at hp;split at hp
 ·rename_i s n;split at hp
  ·rename_i hs;obtain⟨h1,h2,h3⟩:=hs;obtain⟨m,rfl⟩:∃m:Nat,n=m:=⟨n.toNat,by omega⟩
   obtain⟨rfl,rfl⟩:=ai hp;refine dQ.grown BG R (by simp[ok,gP]) ?_;refine(Tryz.strings_Repeat ⟨s.toArray⟩ m w (by omega) (by rw[fT];simpa using h3)).mono ?_;rintro e w' ⟨rfl,hB⟩;exact⟨by simp[enc,encs],hB⟩
  ·cases hp
 ·cases hp
def qe (args:List AV)(h:Hp):Option (AV×Hp):=
  match args with
  | [.str s]=>if s.length≤18 then match Lib.atoi s with
      |some n=>some (.fO [.int .i64 n,.jD],h)
      |none=>none
    else none
  |_=>none
theorem BE:eD Tryz.prog 224=true:=by kernel_rfl
theorem Vw (hp:qe args h=some (v,h'))(R:bv base ρ h w):dQ Tryz.prog base ρ h w (callFunc 224 (encs ρ args).toArray) v h':=by
 unfold qe at hp;split at hp
 ·rename_i s;split at hp
  ·rename_i hs;split at hp
   ·rename_i n hn;obtain⟨rfl,rfl⟩:=ai hp;refine dQ.grown BE R (by simp[ok,gP]) ?_;refine(Tryz.strconv_Atoi ⟨s.toArray⟩ n (by rw[fT];exact hs) hn w).mono ?_;rintro e w' ⟨rfl,t,rfl⟩;exact⟨by simp[enc,encs],⟨rfl,rfl,rfl,by rw[Lib.bytesWorld_size];omega,fun k hk=>Lib.bytesWorld_at_old w 5 t k hk⟩⟩
   ·cases hp
  ·cases hp
 ·cases hp
noncomputable def Gs (args:List AV)(h:Hp):Option (AV×Hp):=
  match args with
  |[.str s,.str sep]=>if s.length<4294967281∧1≤sep.length∧(Lib.splitB ⟨sep.toArray⟩ 0 (Lib.countB ⟨s.toArray⟩ ⟨sep.toArray⟩) ⟨s.toArray⟩).length=Lib.countB ⟨s.toArray⟩ ⟨sep.toArray⟩+1 then
      some (.sl h.next 0 (Lib.countB ⟨s.toArray⟩ ⟨sep.toArray⟩+1) 1,h.push fun st=> .row ((Lib.splitB ⟨sep.toArray⟩ 0 (Lib.countB ⟨s.toArray⟩ ⟨sep.toArray⟩) ⟨s.toArray⟩).map fun b:ByteArray=>AV.str b.data.toList) true st)else none
  |_=>none
theorem BJ:eD Tryz.prog 157=true:=by kernel_rfl
theorem VB (G:kz W0 base)(hp:Gs args h=some (v,h'))(B:bl base W0 w)(R:bv base ρ h w):dQ Tryz.prog base ρ h w (callFunc 157 (encs ρ args).toArray) v h':=by
 unfold Gs at hp;split at hp
 ·rename_i s sep;split at hp
  ·rename_i hs;obtain⟨h1,h2,h3⟩:=hs;obtain⟨rfl,rfl⟩:=ai hp;obtain⟨m,hm⟩:=G.ml B;refine dQ.call BJ ?_;refine(Tryz.strings_Split ⟨s.toArray⟩ ⟨sep.toArray⟩ m w (by rw[fT];exact h1) hm (by rw[fT];exact h2)).mono ?_;rintro e w' ⟨rfl,rfl⟩
   have X:=Ext.newRow R ((Lib.splitB ⟨sep.toArray⟩ 0 (Lib.countB ⟨s.toArray⟩ ⟨sep.toArray⟩) ⟨s.toArray⟩).map fun b:ByteArray=>AV.str b.data.toList) 9 [] (Lib.countB ⟨s.toArray⟩ ⟨sep.toArray⟩+1) 1 (by simp[AV.one]) ((cQ _ _ _).2 (by simp[ok])) (by simp[h3]) w.drawn
   refine⟨_,(congrArg _ (sQ ρ h.next w.heap.size (Lib.countB ⟨s.toArray⟩ ⟨sep.toArray⟩+1) 1 (Lib.countB ⟨s.toArray⟩ ⟨sep.toArray⟩+1) 1)).symm,?_,?_⟩
   ·simp only[ok,cb,Hp.push];exact⟨by omega,trivial,by omega,by simp,by simp⟩
   ·have e1:(encs ρ ((Lib.splitB ⟨sep.toArray⟩ 0 (Lib.countB ⟨s.toArray⟩ ⟨sep.toArray⟩) ⟨s.toArray⟩).map fun b:ByteArray=>AV.str b.data.toList)++[]).toArray=((Lib.splitB ⟨sep.toArray⟩ 0 (Lib.countB ⟨s.toArray⟩ ⟨sep.toArray⟩) ⟨s.toArray⟩).map Value.string).toArray:=by
     rw[List.append_nil,cC,vk];congr 1
     try exact bJ fun b _=>by simp[enc]
    rw[e1]at X;exact X
  ·cases hp
 ·cases hp
def gA:List UInt8:=[48,49,50,51,52,53,54,55,56,57]
def wR (args:List AV)(h:Hp):Option (AV×Hp):=
 match args with
 |[.str s,.str cs]=>if cs=gA∧s.length≤9223372036854775807 then some (.str (Lib.trimS s gA),h)else none
 |_=>none
theorem BF:eD Tryz.prog 223=true:=by kernel_rfl
theorem Vx (hp:wR args h=some (v,h'))(R:bv base ρ h w):dQ Tryz.prog base ρ h w (callFunc 223 (encs ρ args).toArray) v h':=by
 unfold wR at hp;split at hp
 ·rename_i s cs;split at hp
  ·rename_i hs;obtain⟨rfl,hs⟩:=hs;obtain⟨rfl,rfl⟩:=ai hp;refine dQ.grown BF R (by simp[ok,gP]) ?_;refine(Go.Proofs.Any.strings_Trim_laid Tryz.lays160 (by kernel_rfl) ⟨s.toArray⟩ ⟨gA.toArray⟩ w (by rw[fT];exact hs) (by decide) (Go.Proofs.ascii_of_all (by decide))).mono ?_;rintro e w' ⟨rfl,hB⟩;exact⟨by simp[enc,encs],hB⟩
  ·cases hp
 ·cases hp
def AZ (args:List AV)(h:Hp):Option (AV×Hp):=
 match args with
 |[.int .i64 n]=>if -9223372036854775808≤n∧n≤9223372036854775807 then some (.str (Lib.itoa n),h)else none
 |_=>none
theorem BH:eD Tryz.prog 220=true:=by kernel_rfl
theorem Vz (G:kz W0 base)(hp:AZ args h=some (v,h'))(B:bl base W0 w)(R:bv base ρ h w):dQ Tryz.prog base ρ h w (callFunc 220 (encs ρ args).toArray) v h':=by
 unfold AZ at hp;split at hp
 ·rename_i n;split at hp
  ·rename_i hs;obtain⟨rfl,rfl⟩:=ai hp;refine dQ.grown BH R (by simp[ok,gP]) ?_;refine(Tryz.strconv_Itoa n hs.1 hs.2 w (G.pow10 w B)).mono ?_;rintro e w' ⟨rfl,k,os,rfl⟩;exact⟨by simp[enc,encs],below_grow w k os⟩
  ·cases hp
 ·cases hp
def Cr:List AV→Option (List (List UInt8))
 |[]=>some []
 | .str s::r=>match Cr r with
  |some l=>some (s::l)
  |none=>none
 |_=>none
theorem sU:∀{cs:List AV} {l:List (List UInt8)},Cr cs=some l→cs=l.map .str
 |[],l,h=>by obtain rfl:=aa h;rfl
 | .str s::r,l,h=>by
  simp only[Cr]at h;split at h
  ·rename_i l' hl;obtain rfl:=aa h;rw[sU hl];rfl
  ·cases h
 | .int _ _::_,_,h| .bool _::_,_,h| .ptr _ _::_,_,h| .py::_,_,h| .sl _ _ _ _::_,_,h| .aq::_,_,h| .HW _ _ _ _::_,_,h| .fn _ _::_,_,h| .kg::_,_,h| .qZ _ _::_,_,h| .jD::_,_,h| .map _::_,_,h| .qW::_,_,h| .agg _::_,_,h| .fO _::_,_,h=>by cases h
noncomputable def Gt (args:List AV)(h:Hp):Option (AV×Hp):=
 match args with
 |[.aq,.str sep]=>some (.str [],h)
 | [.sl t o n z,.str sep]=>match n with
  |0=>some (.str [],h)
  | n +1=>match cellsOf h 1 (.sl t o (n+1) z)with
   | some cs=>match Cr cs with
    |some l=>if l.length≤140737488355328∧(Lib.join l sep).length≤140737488355328 then some (.str (Lib.join l sep),h)else none
    |none=>none
   |none=>none
 |_=>none
theorem xx:eD Tryz.prog 155=true:=by kernel_rfl
theorem VC (hp:Gt args h=some (v,h'))(R:bv base ρ h w)(hok:gP ρ h.next args):dQ Tryz.prog base ρ h w (callFunc 155 (encs ρ args).toArray) v h':=by
 unfold Gt at hp;split at hp
 ·rename_i sep;obtain⟨rfl,rfl⟩:=ai hp;refine dQ.grown xx R (by simp[ok,gP]) ?_;refine(Tryz.strings_Join_none none 0 ⟨sep.toArray⟩ w).mono ?_;rintro e w' ⟨rfl,rfl⟩;exact⟨by simp[enc,encs],fo _ _⟩
 ·rename_i t o n z sep;obtain⟨⟨k1,k2,k3,k4,k5⟩,_⟩:=hok;split at hp
  ·obtain⟨rfl,rfl⟩:=ai hp;refine dQ.grown xx R (by simp[ok,gP]) ?_;refine(Tryz.strings_Join_none _ _ ⟨sep.toArray⟩ w).mono ?_;rintro e w' ⟨rfl,rfl⟩;exact⟨by simp[enc,encs],fo _ _⟩
  ·rename_i n;split at hp
   ·rename_i cs hcs;split at hp
    ·rename_i l hl;split at hp
     ·rename_i hlen;obtain⟨rfl,rfl⟩:=ai hp;simp only[cellsOf]at hcs;split at hcs
      ·rename_i row own st ht;split at hcs
       ·rename_i hz;obtain rfl:=aa hcs;obtain⟨r1,_⟩:=qd (o:=o) (n:=(n+1)*1) R ht
        have Wd:l.length=n+1:=by
         have:=congrArg List.length (sU hl);simp only[List.length_take,List.length_drop,aU]at this;omega
        have hcell:∀(j:Nat) x,(l.map fun s=>(⟨s.toArray⟩:ByteArray))[j]?=some x→w.cell? ⟨(ρ t).b,(ρ t).o+o+j,none⟩=some (.string x):=by
         intro j x hx;refine r1 j (.string x) ?_;rw[sU hl,cC,vk,bK];rw[bK]at hx;cases hj:l[j]? with
         |none=>rw[hj]at hx;cases hx
         |some s=>rw[hj]at hx;simp only[cJ,cq]at hx;subst hx;simp[enc]
        have hbk:(ρ t).b<w.heap.size:=by
         rcases aQ (ρ t).b w.heap.size with c|c
         ·exact c
         ·obtain⟨s,hs⟩:∃s,l[0]?=some s:=⟨l[0],aI (by omega)⟩
          have:=hcell 0 ⟨s.toArray⟩ (by simp[hs]);simp[World.cell?,Array.getElem?_eq_none c]at this
        have hj:(l.map fun s=>(⟨s.toArray⟩:ByteArray)).map (·.data.toList)=l:=by
         rw[vk];refine(bJ (g:=id) fun s _=>?_).trans (List.map_id l);simp
        refine dQ.grown xx R (by simp[ok,gP]) ?_;have H:=Tryz.strings_Join (ρ t).b ((ρ t).o+o) ((ρ t).c-o/z) (l.map fun s=>(⟨s.toArray⟩:ByteArray)) ⟨sep.toArray⟩ w hcell hbk (by simp;omega) (by simp;omega) (by rw[hj];exact hlen.2);rw[hj,aU,Wd]at H;refine Calls.mono (R:=fun e w'=>e= .returned (.string ⟨(Lib.join l sep).toArray⟩)∧bl w.heap.size w w') (by simpa[encs,enc]using H) ?_
        rintro e w' ⟨rfl,hB⟩;exact⟨by simp[enc,encs],hB⟩
       ·cases hcs
      ·cases hcs
     ·cases hp
    ·cases hp
   ·cases hp
 ·cases hp
theorem Qv (x y:Int)(c:Bool)(w:World):(callFunc 267 #[.int .u64 x,.int .u64 y,.int .u64 (match c with|true=>1|false=>0)]).run Tryz.prog w=
  .ok (.value (Extern.MathBitsCarry.pair ((x.toNat+y.toNat+(match c with|true=>1|false=>0))%Extern.MathBitsCarry.m64) ((x.toNat+y.toNat+(match c with|true=>1|false=>0))/Extern.MathBitsCarry.m64))) w:=by
 cases c<;>kernel_rfl
theorem Qu (x y:Int)(c:Bool)(w:World):(callFunc 269 #[.int .u64 x,.int .u64 y,.int .u64 (match c with|true=>1|false=>0)]).run Tryz.prog w=
  .ok (.value (Extern.MathBitsCarry.pair ((x.toNat+Extern.MathBitsCarry.m64-y.toNat-(match c with|true=>1|false=>0))%Extern.MathBitsCarry.m64) (if x.toNat<y.toNat+(match c with|true=>1|false=>0)then 1 else 0))) w:=by
 cases c<;>kernel_rfl
noncomputable def IW (args:List AV):Option AV:=
 match args with
 | [.int .u64 (.ofNat x),.int .u64 (.ofNat y),.int .u64 (.ofNat c)]=>match pU c 1 with
  |true=>lit (Nat.mod (ma (ma x y) c) 18446744073709551616) fun a=>lit (Nat.div (ma (ma x y) c) 18446744073709551616) fun b=>some (.fO [.int .u64 (.ofNat a),.int .u64 (.ofNat b)])
  |false=>none
 |_=>none
noncomputable def IV (args:List AV):Option AV:=
 match args with
 | [.int .u64 (.ofNat x),.int .u64 (.ofNat y),.int .u64 (.ofNat c)]=>match pU c 1 with
  |true=>lit (Nat.mod (Nat.sub (Nat.sub (ma x 18446744073709551616) y) c) 18446744073709551616) fun a=>some (.fO [.int .u64 (.ofNat a),.int .u64 (match gV x (ma y c)with|true=>1|false=>0)])
  |false=>none
 |_=>none
theorem Vs (hp:IW args=some v)(R:bv base ρ h w):dQ Tryz.prog base ρ h w (callFunc 267 (encs ρ args).toArray) v h:=by
 unfold IW at hp;split at hp
 ·rename_i x y c;split at hp
  ·rename_i hc;rw[pA,pA]at hp;obtain rfl:=aa hp;have ky:c=0∨c=1:=by have:=iU hc;omega
   unfold dQ;rcases ky with rfl|rfl
   ·have:=Qv (Int.ofNat x) (Int.ofNat y) false w;simp only[encs,enc];rw[show(callFunc 267 [Value.int .u64 (.ofNat x),.int .u64 (.ofNat y),.int .u64 (.ofNat 0)].toArray).run Tryz.prog w=_ from this];exact⟨ρ,Ext.refl R,by simp[ok,gP],by simp only[enc,encs];rfl⟩
   ·have:=Qv (Int.ofNat x) (Int.ofNat y) true w;simp only[encs,enc];rw[show(callFunc 267 [Value.int .u64 (.ofNat x),.int .u64 (.ofNat y),.int .u64 (.ofNat 1)].toArray).run Tryz.prog w=_ from this];exact⟨ρ,Ext.refl R,by simp[ok,gP],by simp only[enc,encs];rfl⟩
  ·cases hp
 ·cases hp
theorem Vp (hp:IV args=some v)(R:bv base ρ h w):dQ Tryz.prog base ρ h w (callFunc 269 (encs ρ args).toArray) v h:=by
  unfold IV at hp;split at hp
  · rename_i x y c
    split at hp
    · rename_i hc
      rw[pA]at hp;obtain rfl:=aa hp;have ky:c=0∨c=1:=by have:=iU hc;omega
      unfold dQ;rcases ky with rfl|rfl
      · have:=Qu (Int.ofNat x) (Int.ofNat y) false w
        simp only[encs,enc];rw[show(callFunc 269 [Value.int .u64 (.ofNat x),.int .u64 (.ofNat y),.int .u64 (.ofNat 0)].toArray).run Tryz.prog w=_ from this];refine⟨ρ,Ext.refl R,by simp[ok,gP],?_⟩;simp only[enc,encs];cases hb:gV x (ma y 0)with
        | true=>
          have hlt:x<y+0:=by simpa[ji]using hb
          have:(Int.ofNat x).toNat<(Int.ofNat y).toNat+(match false with|true=>1|false=>0):=hlt;rw[if_pos this];rfl
        | false=>
          have hlt : ¬ x < y + 0 := fun h => by have h2:gV x (ma y 0)=true:=by simpa[ji]using h
                                                rw[h2]at hb;cases hb
          have:¬(Int.ofNat x).toNat<(Int.ofNat y).toNat+(match false with|true=>1|false=>0):=hlt;rw[if_neg this];rfl
      · have:=Qu (Int.ofNat x) (Int.ofNat y) true w
        simp only[encs,enc];rw[show(callFunc 269 [Value.int .u64 (.ofNat x),.int .u64 (.ofNat y),.int .u64 (.ofNat 1)].toArray).run Tryz.prog w=_ from this];refine⟨ρ,Ext.refl R,by simp[ok,gP],?_⟩;simp only[enc,encs];cases hb:gV x (ma y 1)with
        | true=>
          have hlt:x<y+1:=by simpa[ji]using hb
          have:(Int.ofNat x).toNat<(Int.ofNat y).toNat+(match true with|true=>1|false=>0):=hlt;rw[if_pos this];rfl
        | false=>
          have hlt : ¬ x < y + 1 := fun h => by have h2:gV x (ma y 1)=true:=by simpa[ji]using h
                                                rw[h2]at hb;cases hb
          have:¬(Int.ofNat x).toNat<(Int.ofNat y).toNat+(match true with|true=>1|false=>0):=hlt;rw[if_neg this];rfl
    · cases hp
  · cases hp
theorem m112 (v:Value)(w:World):(method (Tryz.prog.types.size+Made.depth) 148 v "Sign").run Tryz.prog w= .ok (112,v) w:=by kernel_rfl
theorem U1 (v:Value)(w:World):(method (Tryz.prog.types.size+Made.depth) 148 v "Inv").run Tryz.prog w= .ok (245,v) w:=by kernel_rfl
theorem m115 (v:Value)(w:World):(method (Tryz.prog.types.size+Made.depth) 148 v "Mul").run Tryz.prog w= .ok (115,v) w:=by kernel_rfl
theorem U2 (v:Value)(w:World):(method (Tryz.prog.types.size+Made.depth) 148 v "Sub").run Tryz.prog w= .ok (164,v) w:=by kernel_rfl
theorem mixed:Tryz.prog.follows .mixedOrders=true:=by kernel_rfl
end
end Go.Ae.L
namespace Go.Ae.L
open Go.Proofs Go.Ae
noncomputable def tj (n:Nat):Option Prim:=
 if n=147 then some A6 else if n=157 then some Gs else if n=220 then some AZ else if n=221 then some AY else if n=155 then some Gt else if n=224 then some qe
 else if n=258 then some AX else if n=259 then some AW else if n=188 then some DP else if n=239 then some Gr else if n=223 then some wR else none
noncomputable def HO (n:Nat):Option (List AV→Option AV):=if n=267 then some IW else if n=269 then some IV else none
def nu (T:Nat)(s:String):Option Nat:=
 if T=148 then if s= "Sign" then some 112 else if s= "Inv" then some 245 else if s= "Mul" then some 115 else if s= "Sub" then some 164 else none else none
noncomputable def En (fns:Nat→Option cy):Env:={ fns:=fns,dG:=tj,exts:=HO,gF:=nu }
section
variable {W0:World}{base:Nat}{fns:Nat→Option cy}
theorem Gc (G:kz W0 base):Ds Tryz.prog W0 base (En fns):=by
 intro f p hf args h v h' hp ρ w B R hok;have hf:tj f=some p:=hf;unfold tj at hf;by_cases BK:f=147
 ·subst BK;rw[if_pos rfl]at hf;obtain rfl:=aa hf;exact VD G hp B R
 rw[if_neg BK]at hf;by_cases BJ:f=157
 ·subst BJ;rw[if_pos rfl]at hf;obtain rfl:=aa hf;exact VB G hp B R
 rw[if_neg BJ]at hf;by_cases BH:f=220
 ·subst BH;rw[if_pos rfl]at hf;obtain rfl:=aa hf;exact Vz G hp B R
 rw[if_neg BH]at hf;by_cases BG:f=221
 ·subst BG;rw[if_pos rfl]at hf;obtain rfl:=aa hf;exact Vy hp R
 rw[if_neg BG]at hf;by_cases xx:f=155
 ·subst xx;rw[if_pos rfl]at hf;obtain rfl:=aa hf;exact VC hp R hok
 rw[if_neg xx]at hf;by_cases BE:f=224
 ·subst BE;rw[if_pos rfl]at hf;obtain rfl:=aa hf;exact Vw hp R
 rw[if_neg BE]at hf;by_cases BC:f=258
 ·subst BC;rw[if_pos rfl]at hf;obtain rfl:=aa hf;exact Vu hp R
 rw[if_neg BC]at hf;by_cases BB:f=259
 ·subst BB;rw[if_pos rfl]at hf;obtain rfl:=aa hf;exact Vt hp R
 rw[if_neg BB]at hf;by_cases BI:f=188
 ·subst BI;rw[if_pos rfl]at hf;obtain rfl:=aa hf;exact VA hp R
 rw[if_neg BI]at hf;by_cases BD:f=239
 ·subst BD;rw[if_pos rfl]at hf;obtain rfl:=aa hf;exact Vv hp R
 rw[if_neg BD]at hf;by_cases BF:f=223
 ·subst BF;rw[if_pos rfl]at hf;obtain rfl:=aa hf;exact Vx hp R
 rw[if_neg BF]at hf;cases hf
theorem Km:IM Tryz.prog W0 base (En fns):=by
 intro f e hf args v hp ρ h w B R hok;have hf:HO f=some e:=hf;unfold HO at hf;by_cases R5:f=267
 ·subst R5;rw[if_pos rfl]at hf;obtain rfl:=aa hf;exact Vs hp R
 rw[if_neg R5]at hf;by_cases R4:f=269
 ·subst R4;rw[if_pos rfl]at hf;obtain rfl:=aa hf;exact Vp hp R
 rw[if_neg R4]at hf;cases hf
theorem JR:rE Tryz.prog (En fns):=by
 intro T name f hf v w;have hf:nu T name=some f:=hf;unfold nu at hf;by_cases hT:T=148
 ·subst hT;rw[if_pos rfl]at hf;by_cases e1:name= "Sign"
  ·subst e1;rw[if_pos rfl]at hf;obtain rfl:=aa hf;exact m112 v w
  rw[if_neg e1]at hf;by_cases e2:name= "Inv"
  ·subst e2;rw[if_pos rfl]at hf;obtain rfl:=aa hf;exact U1 v w
  rw[if_neg e2]at hf;by_cases e3:name= "Mul"
  ·subst e3;rw[if_pos rfl]at hf;obtain rfl:=aa hf;exact m115 v w
  rw[if_neg e3]at hf;by_cases e4:name= "Sub"
  ·subst e4;rw[if_pos rfl]at hf;obtain rfl:=aa hf;exact U2 v w
  rw[if_neg e4]at hf;cases hf
 ·rw[if_neg hT]at hf;cases hf
theorem Vk {args:List AV}{h h':Hp}{v:AV}(hp:A6 args h=some (v,h')):bH h h':=by
 unfold A6 at hp;repeat' split at hp
 all_goals first
  |(cases hp;done)
  |(obtain⟨rfl,rfl⟩:=ai hp;exact bH.refl _)
  |(obtain⟨rfl,rfl⟩:=ai hp;exact bH.push _ _ rfl)
theorem Vi {args:List AV}{h h':Hp}{v:AV}(hp:Gs args h=some (v,h')):bH h h':=by
 unfold Gs at hp;repeat' split at hp
 all_goals first
  |(cases hp;done)
  |(obtain⟨rfl,rfl⟩:=ai hp;exact bH.refl _)
  |(obtain⟨rfl,rfl⟩:=ai hp;exact bH.push _ _ rfl)
theorem Vg {args:List AV}{h h':Hp}{v:AV}(hp:AZ args h=some (v,h')):bH h h':=by
 unfold AZ at hp;repeat' split at hp
 all_goals first
  |(cases hp;done)
  |(obtain⟨rfl,rfl⟩:=ai hp;exact bH.refl _)
  |(obtain⟨rfl,rfl⟩:=ai hp;exact bH.push _ _ rfl)
theorem Vf {args:List AV}{h h':Hp}{v:AV}(hp:AY args h=some (v,h')):bH h h':=by
 unfold AY at hp;repeat' split at hp
 all_goals first
  |(cases hp;done)
  |(obtain⟨rfl,rfl⟩:=ai hp;exact bH.refl _)
  |(obtain⟨rfl,rfl⟩:=ai hp;exact bH.push _ _ rfl)
theorem Vj {args:List AV}{h h':Hp}{v:AV}(hp:Gt args h=some (v,h')):bH h h':=by
 unfold Gt at hp;repeat' split at hp
 all_goals first
  |(cases hp;done)
  |(obtain⟨rfl,rfl⟩:=ai hp;exact bH.refl _)
  |(obtain⟨rfl,rfl⟩:=ai hp;exact bH.push _ _ rfl)
theorem Vd {args:List AV}{h h':Hp}{v:AV}(hp:qe args h=some (v,h')):bH h h':=by
 unfold qe at hp;repeat' split at hp
 all_goals first
  |(cases hp;done)
  |(obtain⟨rfl,rfl⟩:=ai hp;exact bH.refl _)
  |(obtain⟨rfl,rfl⟩:=ai hp;exact bH.push _ _ rfl)
theorem Vb {args:List AV}{h h':Hp}{v:AV}(hp:AX args h=some (v,h')):bH h h':=by
 unfold AX at hp;repeat' split at hp
 all_goals first
  |(cases hp;done)
  |(obtain⟨rfl,rfl⟩:=ai hp;exact bH.refl _)
  |(obtain⟨rfl,rfl⟩:=ai hp;exact bH.push _ _ rfl)
theorem Va {args:List AV}{h h':Hp}{v:AV}(hp:AW args h=some (v,h')):bH h h':=by
 unfold AW at hp;repeat' split at hp
 all_goals first
  |(cases hp;done)
  |(obtain⟨rfl,rfl⟩:=ai hp;exact bH.refl _)
  |(obtain⟨rfl,rfl⟩:=ai hp;exact bH.push _ _ rfl)
theorem Vh {args:List AV}{h h':Hp}{v:AV}(hp:DP args h=some (v,h')):bH h h':=by
 unfold DP at hp;repeat' split at hp
 all_goals first
  |(cases hp;done)
  |(obtain⟨rfl,rfl⟩:=ai hp;exact bH.refl _)
  |(obtain⟨rfl,rfl⟩:=ai hp;exact bH.push _ _ rfl)
theorem Vc {args:List AV}{h h':Hp}{v:AV}(hp:Gr args h=some (v,h')):bH h h':=by
 unfold Gr at hp;repeat' split at hp
 all_goals first
  |(cases hp;done)
  |(obtain⟨rfl,rfl⟩:=ai hp;exact bH.refl _)
  |(obtain⟨rfl,rfl⟩:=ai hp;exact bH.push _ _ rfl)
theorem Ve {args:List AV}{h h':Hp}{v:AV}(hp:wR args h=some (v,h')):bH h h':=by
 unfold wR at hp;repeat' split at hp
 all_goals first
  |(cases hp;done)
  |(obtain⟨rfl,rfl⟩:=ai hp;exact bH.refl _)
  |(obtain⟨rfl,rfl⟩:=ai hp;exact bH.push _ _ rfl)
theorem GX:ga (En fns):=by
 intro f p args h v h' hf hp;have hf:tj f=some p:=hf;unfold tj at hf;by_cases BK:f=147
 ·subst BK;rw[if_pos rfl]at hf;obtain rfl:=aa hf;exact Vk hp
 rw[if_neg BK]at hf;by_cases BJ:f=157
 ·subst BJ;rw[if_pos rfl]at hf;obtain rfl:=aa hf;exact Vi hp
 rw[if_neg BJ]at hf;by_cases BH:f=220
 ·subst BH;rw[if_pos rfl]at hf;obtain rfl:=aa hf;exact Vg hp
 rw[if_neg BH]at hf;by_cases BG:f=221
 ·subst BG;rw[if_pos rfl]at hf;obtain rfl:=aa hf;exact Vf hp
 rw[if_neg BG]at hf;by_cases xx:f=155
 ·subst xx;rw[if_pos rfl]at hf;obtain rfl:=aa hf;exact Vj hp
 rw[if_neg xx]at hf;by_cases BE:f=224
 ·subst BE;rw[if_pos rfl]at hf;obtain rfl:=aa hf;exact Vd hp
 rw[if_neg BE]at hf;by_cases BC:f=258
 ·subst BC;rw[if_pos rfl]at hf;obtain rfl:=aa hf;exact Vb hp
 rw[if_neg BC]at hf;by_cases BB:f=259
 ·subst BB;rw[if_pos rfl]at hf;obtain rfl:=aa hf;exact Va hp
 rw[if_neg BB]at hf;by_cases BI:f=188
 ·subst BI;rw[if_pos rfl]at hf;obtain rfl:=aa hf;exact Vh hp
 rw[if_neg BI]at hf;by_cases BD:f=239
 ·subst BD;rw[if_pos rfl]at hf;obtain rfl:=aa hf;exact Vc hp
 rw[if_neg BD]at hf;by_cases BF:f=223
 ·subst BF;rw[if_pos rfl]at hf;obtain rfl:=aa hf;exact Ve hp
 rw[if_neg BF]at hf;cases hf
theorem xv (G:kz W0 base)(F:IL Tryz.prog (En fns)):fC Tryz.prog W0 base (En fns):=⟨F,Gc G,Km,JR,GX,mixed⟩
end
end Go.Ae.L
namespace Go.Ae.C
abbrev o (d:Nat)(x:gM):aC:=⟨some d,x,none,none⟩
abbrev n (x:gM):aC:=⟨none,x,none,none⟩
abbrev g (d:Nat)(x:gM)(c:Nat)(b:Bool):aC:=⟨some d,x,some (c,b),none⟩
abbrev m (t:Nat):gM:= .mv (.t t)
abbrev i (z:Int):bp:= .k (.int .i64 z)
abbrev u (z:Int):bp:= .k (.int .u64 z)
abbrev v (d t:Nat):aC:=o d (.mv (.t t))
abbrev e (d t k:Nat):aC:=o d (.ext (.t t) k)
abbrev c (d f:Nat)(l:List bp):aC:=o d (.lO f l)
abbrev b (d:Nat)(x:BinOp)(p q:bp):aC:=o d (.bin x .none p q)
abbrev bt (d:Nat)(x:BinOp)(p q:Nat):aC:=o d (.bin x .none (.t p) (.t q))
abbrev bi (d:Nat)(x:BinOp)(p:Nat)(z:Int):aC:=o d (.bin x .none (.t p) (i z))
abbrev y (d:Nat)(x:UnOp)(t:Nat):aC:=o d (.un x (.t t))
abbrev l (d:Nat)(w:Bool)(k t:Nat):aC:=o d (.load w k (.t t))
abbrev s (k p t:Nat):aC:=n (.store k (.t p) (.t t))
abbrev ix (d k p q:Nat):aC:=o d (.iG k (.t p) (.t q))
abbrev fa (d k p:Nat):aC:=o d (.jk k (.t p))
abbrev ln (d t:Nat):aC:=o d (.len .slice (.t t))
abbrev ls (d t:Nat):aC:=o d (.len .str (.t t))
abbrev vi (d:Nat)(z:Int):aC:=o d (.mv (i z))
abbrev pt (d p q:Nat):aC:=o d (.pick (.t p) (.k (.bool true)) (.t q))
abbrev pf (d p q:Nat):aC:=o d (.pick (.t p) (.t q) (.k (.bool false)))
abbrev zF:List AV:=[.int .i64 0,.aq,.int .i64 0,.aq]
abbrev zI:List AV:=[.int .i64 0,.aq]
abbrev zS:List AV:=[.str [],.str []]
abbrev w (d:Nat)(a:Bool)(k t j:Nat):aC:=⟨some d,.load a k (.t t),none,some j⟩
abbrev x (d:Nat)(a:Bool)(k t c:Nat)(b:Bool)(j:Nat):aC:=⟨some d,.load a k (.t t),some (c,b),some j⟩
abbrev gl (d:Nat)(a:Bool)(k t c:Nat)(b:Bool):aC:=g d (.load a k (.t t)) c b
abbrev gc (d f:Nat)(l:List bp)(c:Nat)(b:Bool):aC:=g d (.lO f l) c b
abbrev gb (d:Nat)(x:BinOp)(p q:bp)(c:Nat)(b:Bool):aC:=g d (.bin x .none p q) c b
abbrev q (l:List aC)(b:au):au:= .seq (.cx l) b
abbrev k (t:Nat)(a:au):au:= .cond (.t t) a .skip
end Go.Ae.C
