/- The abstract evaluator: what holds behind a run, as rewriting. -/
import Derived.Test.YtdaggbpeoldmeaaGreatDoorM1
import Derived.IntWalk
import Derived.Scope
import Derived.Deep.Draws
import Derived.Sort.Grow
import Derived.Test.YtdaggbpeoldmeaaGreatDoorProg
import Derived.Test.YtdaggbpeoldmeaaGreatDoorShelf
import Derived.Lib.AppendIntMem
import Derived.Shelf.Strings.SlTrimAscii
set_option linter.unusedVariables false
set_option linter.unusedSimpArgs false
namespace Go.Ae
section
variable {E:Env} {s:St} {tm:T AV} {h h':Hp} {v:AV} {Q:Ex→St→Prop} {K:AV→Hp→Prop} {a b c:ACode} {r:List AOper} {d:Option Nat} {o:AOp}
theorem callA_det {n m f:Nat} {args:List AV} {x y:AV×Hp} (h1:callA E (exec E n) f args h=some x) (h2:callA E (exec E m) f args h=some y):x=y:=
 Option.some.inj ((callA_mono (exec_mono (Nat.le_max_left n m)) h1).symm.trans (callA_mono (exec_mono (Nat.le_max_right n m)) h2))
theorem CallWp.det {f:Nat} {args:List AV} (hc:CallsTo E f args h v h'):CallWp E f args h K↔K v h':=by
 constructor
 ·rintro⟨v1,h1,⟨n,hn⟩,hk⟩
  obtain⟨m,hm⟩:=hc
  obtain⟨rfl,rfl⟩:=pair_inj ((congrArg some (callA_det hn hm)))
  exact hk
 ·exact fun hk=>⟨v,h',hc,hk⟩
theorem Wp.skip_iff:Wp E .skip s Q↔Q .nrm s:=by
 constructor
 ·rintro⟨e,s',⟨n,hn⟩,hq⟩
  cases n with
  |zero=>cases hn
  | succ n=>
   rw[exec_succ]at hn
   obtain⟨rfl,rfl⟩:=pair_inj (show some (Ex.nrm,s)=some (e,s') from hn)
   exact hq
 ·exact Wp.skip
theorem Wp.ret_iff:Wp E .ret s Q↔Q .ret s:=by
 constructor
 ·rintro⟨e,s',⟨n,hn⟩,hq⟩
  cases n with
  |zero=>cases hn
  | succ n=>
   rw[exec_succ]at hn
   obtain⟨rfl,rfl⟩:=pair_inj (show some (Ex.ret,s)=some (e,s') from hn)
   exact hq
 ·exact Wp.ret
theorem Wp.exit_iff {id:Nat}:Wp E (.exit id) s Q↔Q (.exit id) s:=by
 constructor
 ·rintro⟨e,s',⟨n,hn⟩,hq⟩
  cases n with
  |zero=>cases hn
  | succ n=>
   rw[exec_succ]at hn
   obtain⟨rfl,rfl⟩:=pair_inj (show some (Ex.exit id,s)=some (e,s') from hn)
   exact hq
 ·exact Wp.exit
theorem Wp.seq_iff:Wp E (.seq a b) s Q↔Wp E a s (After E b Q):=by
 constructor
 ·rintro⟨e,s',⟨n,hn⟩,hq⟩
  cases n with
  |zero=>cases hn
  | succ n=>
   rw[exec_succ]at hn
   have hn:s_seq a b E (exec E n) s=some (e,s'):=hn
   unfold s_seq at hn
   split at hn
   ·rename_i s1 h1
    exact⟨.nrm,s1,⟨n,h1⟩,e,s',⟨n,hn⟩,hq⟩
   ·rename_i hne
    refine⟨e,s',⟨n,hn⟩,?_⟩
    cases e with
    |nrm=>exact absurd hn (hne _)
    |exit i=>exact hq
    |ret=>exact hq
 ·exact Wp.seq
theorem Wp.block_iff {id:Nat}:Wp E (.block id a) s Q↔Wp E a s (InBlock id Q):=by
 constructor
 ·rintro⟨e,s',⟨n,hn⟩,hq⟩
  cases n with
  |zero=>cases hn
  | succ n=>
   rw[exec_succ]at hn
   have hn:s_block id a E (exec E n) s=some (e,s'):=hn
   unfold s_block at hn
   split at hn
   ·rename_i i s1 h1
    refine⟨.exit i,s1,⟨n,h1⟩,?_⟩
    simp only[InBlock]
    split at hn
    ·rename_i hi
     obtain⟨rfl,rfl⟩:=pair_inj hn
     rw[if_pos (Nat.eq_of_beq_eq_true hi)];exact hq
    ·rename_i hi
     obtain⟨rfl,rfl⟩:=pair_inj hn
     rw[if_neg (fun e=>by subst e;simp at hi)];exact hq
   ·rename_i hne
    refine⟨e,s',⟨n,hn⟩,?_⟩
    cases e with
    |nrm=>exact hq
    |exit i=>exact absurd hn (hne _ _)
    |ret=>exact hq
 ·exact Wp.block
def CondK (E:Env) (v:AV) (a b:ACode) (s:St) (Q:Ex→St→Prop):Prop:=
 match v with
 | .bool true=>Wp E a s Q
 | .bool false=>Wp E b s Q
 |_=>False
theorem CondK.t:CondK E (.bool true) a b s Q↔Wp E a s Q:=Iff.rfl
theorem CondK.f:CondK E (.bool false) a b s Q↔Wp E b s Q:=Iff.rfl
theorem CondK.split {c:Bool} (h1:c=true→Wp E a s Q) (h2:c=false→Wp E b s Q):CondK E (.bool c) a b s Q:=by
 cases c with
 |true=>exact h1 rfl
 |false=>exact h2 rfl
theorem CondK.dec {p:Prop} {_:Decidable p} (h1:p→Wp E a s Q) (h2:¬p→Wp E b s Q):CondK E (.bool (decide p)) a b s Q:=
 CondK.split (fun e=>h1 (of_decide_eq_true e)) (fun e=>h2 (of_decide_eq_false e))
theorem CondK.pos {p:Prop} {_:Decidable p} (hp:p):CondK E (.bool (decide p)) a b s Q↔Wp E a s Q:=by rw[decide_eq_true hp];exact Iff.rfl
theorem CondK.neg {p:Prop} {_:Decidable p} (hp:¬p):CondK E (.bool (decide p)) a b s Q↔Wp E b s Q:=by rw[decide_eq_false hp];exact Iff.rfl
theorem Wp.cond_iff {x:Opd}:Wp E (.cond x a b) s Q↔CondK E (val s.tm x) a b s Q:=by
 constructor
 ·rintro⟨e,s',⟨n,hn⟩,hq⟩
  cases n with
  |zero=>cases hn
  | succ n=>
   rw[exec_succ]at hn
   have hn:s_cond x a b E (exec E n) s=some (e,s'):=hn
   unfold s_cond at hn
   split at hn
   ·rename_i hx;rw[hx];exact⟨e,s',⟨n,hn⟩,hq⟩
   ·rename_i hx;rw[hx];exact⟨e,s',⟨n,hn⟩,hq⟩
   ·cases hn
 ·unfold CondK
  split
  ·rename_i hx;exact fun hw=>Wp.cond true hx (fun _=>hw) nofun
  ·rename_i hx;exact fun hw=>Wp.cond false hx nofun (fun _=>hw)
  ·exact False.elim
theorem Wp.unroll:Wp E (.loop c) s Q↔Wp E c s (After E (.loop c) Q):=by
 constructor
 ·rintro⟨e,s',⟨n,hn⟩,hq⟩
  cases n with
  |zero=>cases hn
  | succ n=>
   rw[exec_succ]at hn
   have hn:s_loop c E (exec E n) s=some (e,s'):=hn
   unfold s_loop at hn
   split at hn
   ·rename_i s1 h1
    exact⟨.nrm,s1,⟨n,h1⟩,e,s',⟨n,hn⟩,hq⟩
   ·rename_i hne
    refine⟨e,s',⟨n,hn⟩,?_⟩
    cases e with
    |nrm=>exact absurd hn (hne _)
    |exit i=>exact hq
    |ret=>exact hq
 ·rintro⟨e,s1,h1,h2⟩
  cases e with
  |nrm=>obtain⟨e2,s2,h3,h4⟩:=h2;exact⟨e2,s2,Runs.loop h1 h3,h4⟩
  |exit i=>exact⟨_,s1,Runs.loop_out h1 (by simp),h2⟩
  |ret=>exact⟨_,s1,Runs.loop_out h1 (by simp),h2⟩
def Round (I:St→Prop) (Q:Ex→St→Prop):Ex→St→Prop
 | .nrm,s=>I s
 |e,s=>Q e s
theorem Wp.loopI (I:Nat→St→Prop) {n:Nat} (h0:I n s) (round:∀n s,I n s→Wp E c s (Round (fun s'=>∃m,m<n∧I m s') Q)):Wp E (.loop c) s Q:=by
 refine Wp.loop I h0 fun n s hI=>(round n s hI).mono ?_
 intro e s' hq
 cases e<;>exact hq
def Then (E:Env) (d:Option Nat) (r:List AOper) (tm:T AV) (Q:Ex→St→Prop) (v:AV) (h:Hp):Prop:=Wp E (.reg r) { tm:=put tm d v,hp:=h } Q
theorem Wp.nil_iff:Wp E (.reg []) s Q↔Q .nrm s:=by
 constructor
 ·rintro⟨e,s',⟨n,hn⟩,hq⟩
  cases n with
  |zero=>cases hn
  | succ n=>
   rw[exec_succ]at hn
   obtain⟨rfl,rfl⟩:=pair_inj (show some (Ex.nrm,s)=some (e,s') from hn)
   exact hq
 ·exact Wp.nil
theorem Wp.op_iff {st:Option Nat}:Wp E (.reg (⟨d,o,none,st⟩::r)) s Q↔OpWp E o s (Then E d r s.tm Q):=by
 constructor
 ·rintro⟨e,s',⟨n,hn⟩,hq⟩
  cases n with
  |zero=>cases hn
  | succ n=>
   rw[exec_succ]at hn
   have hn:s_op ⟨d,o,none,st⟩ r E (exec E n) s=some (e,s'):=hn
   unfold s_op at hn
   simp only[wanted]at hn
   unfold s_cont at hn
   split at hn
   ·rename_i v h' ho
    exact⟨v,h',⟨n,ho⟩,e,s',⟨n,hn⟩,hq⟩
   ·cases hn
 ·exact fun hw=>Wp.op rfl hw
def GrdK (E:Env) (w:Bool) (o:AOp) (d:Option Nat) (r:List AOper) (s:St) (Q:Ex→St→Prop):Prop:=
 match w with
 |true=>OpWp E o s (Then E d r s.tm Q)
 |false=>Wp E (.reg r) { tm:=put s.tm d und,hp:=s.hp } Q
theorem GrdK.t:GrdK E true o d r s Q↔OpWp E o s (Then E d r s.tm Q):=Iff.rfl
theorem GrdK.f:GrdK E false o d r s Q↔Wp E (.reg r) { tm:=put s.tm d und,hp:=s.hp } Q:=Iff.rfl
theorem Wp.grd_iff {g:Nat×Bool} {st:Option Nat}:Wp E (.reg (⟨d,o,some g,st⟩::r)) s Q↔GrdK E (wanted s.tm (some g)) o d r s Q:=by
 constructor
 ·rintro⟨e,s',⟨n,hn⟩,hq⟩
  cases n with
  |zero=>cases hn
  | succ n=>
   rw[exec_succ]at hn
   have hn:s_op ⟨d,o,some g,st⟩ r E (exec E n) s=some (e,s'):=hn
   unfold s_op at hn
   simp only at hn
   split at hn
   ·rename_i hw
    rw[hw]
    unfold s_cont at hn
    split at hn
    ·rename_i v h' ho
     exact⟨v,h',⟨n,ho⟩,e,s',⟨n,hn⟩,hq⟩
    ·cases hn
   ·rename_i hw
    rw[hw]
    exact⟨e,s',⟨n,hn⟩,hq⟩
 ·cases hw:wanted s.tm (some g)with
  |true=>exact fun h=>Wp.op hw h
  |false=>exact fun h=>Wp.noop hw h
theorem wanted_val (tm:T AV) (n:Nat) (b:Bool):wanted tm (some (n,b))=match val tm (.t n)with| .bool c=>c==b|_=>false:=by
 simp only[wanted,val]
 cases hg:tm.get n with
 |none=>simp[und]
 |some v=>cases v<;>simp
theorem Wp.dreg_iff {ops:List AOper}:Wp E (.dreg ops) s Q↔Wp E (.drun ops 0 s.hp.clk []) s Q:=by
 constructor
 ·rintro⟨e,s',⟨n,hn⟩,hq⟩
  cases n with
  |zero=>cases hn
  | succ n=>
   rw[exec_succ]at hn
   exact⟨e,s',⟨n,hn⟩,hq⟩
 ·exact Wp.dreg
theorem Wp.dnil_iff {i c0:Nat} {acc:List (Nat×Nat)}:Wp E (.drun [] i c0 acc) s Q↔Q .nrm s:=by
 constructor
 ·rintro⟨e,s',⟨n,hn⟩,hq⟩
  cases n with
  |zero=>cases hn
  | succ n=>
   rw[exec_succ]at hn
   obtain⟨rfl,rfl⟩:=pair_inj (show some (Ex.nrm,s)=some (e,s') from hn)
   exact hq
 ·exact Wp.dnil
def DThen (E:Env) (d:Option Nat) (r:List AOper) (i c0:Nat) (acc:List (Nat×Nat)) (tm:T AV) (Q:Ex→St→Prop) (v:AV) (h:Hp):Prop:=
 acc.all (fresh h c0 i)=true∧Wp E (.drun r (i+1) c0 acc) { tm:=put tm d v,hp:=h } Q
def DOp (E:Env) (acc:Option (List (Nat×Nat))) (d:Option Nat) (o:AOp) (r:List AOper) (i c0:Nat) (s:St) (Q:Ex→St→Prop):Prop:=
 match acc with
 |some acc=>OpWp E o s (DThen E d r i c0 acc s.tm Q)
 |none=>False
theorem DOp.some_iff {acc:List (Nat×Nat)} {i c0:Nat}:DOp E (some acc) d o r i c0 s Q↔OpWp E o s (DThen E d r i c0 acc s.tm Q):=Iff.rfl
theorem Wp.dop_iff {st:Option Nat} {i c0:Nat} {acc:List (Nat×Nat)}:Wp E (.drun (⟨d,o,none,st⟩::r) i c0 acc) s Q↔DOp E (noted s ⟨d,o,none,st⟩ acc) d o r i c0 s Q:=by
 constructor
 ·rintro ⟨e,s',⟨n,hn⟩,hq⟩
  cases n with
  |zero=>cases hn
  | succ n=>
   rw[exec_succ]at hn
   have hn:s_dop ⟨d,o,none,st⟩ r i c0 acc E (exec E n) s=some (e,s'):=hn
   unfold s_dop at hn
   simp only[wanted]at hn
   split at hn
   ·rename_i v h' ho
    split at hn
    ·rename_i acc' ha
     rw[ha]
     split at hn
     ·rename_i hf
      exact⟨v,h',⟨n,ho⟩,hf,e,s',⟨n,hn⟩,hq⟩
     ·cases hn
    ·cases hn
   ·cases hn
 ·cases ha:noted s ⟨d,o,none,st⟩ acc with
  |none=>exact False.elim
  |some acc'=>exact fun hw=>Wp.dop rfl ha hw
def DGrd (E:Env) (w:Bool) (acc:List (Nat×Nat)) (acc':Option (List (Nat×Nat))) (d:Option Nat) (o:AOp) (r:List AOper) (i c0:Nat) (s:St) (Q:Ex→St→Prop):Prop:=
 match w with
 |true=>DOp E acc' d o r i c0 s Q
 |false=>acc.all (fresh s.hp c0 i)=true∧Wp E (.drun r (i+1) c0 acc) { tm:=put s.tm d und,hp:=s.hp } Q
theorem DGrd.t {acc:List (Nat×Nat)} {acc':Option (List (Nat×Nat))} {i c0:Nat}:DGrd E true acc acc' d o r i c0 s Q↔DOp E acc' d o r i c0 s Q:=Iff.rfl
theorem DGrd.f {acc:List (Nat×Nat)} {acc':Option (List (Nat×Nat))} {i c0:Nat}:DGrd E false acc acc' d o r i c0 s Q↔acc.all (fresh s.hp c0 i)=true∧Wp E (.drun r (i+1) c0 acc) { tm:=put s.tm d und,hp:=s.hp } Q:=Iff.rfl
theorem Wp.dgrd_iff {g:Nat×Bool} {st:Option Nat} {i c0:Nat} {acc:List (Nat×Nat)}:Wp E (.drun (⟨d,o,some g,st⟩::r) i c0 acc) s Q↔DGrd E (wanted s.tm (some g)) acc (noted s ⟨d,o,some g,st⟩ acc) d o r i c0 s Q:=by
 constructor
 ·rintro ⟨e,s',⟨n,hn⟩,hq⟩
  cases n with
  |zero=>cases hn
  | succ n=>
   rw[exec_succ]at hn
   have hn:s_dop ⟨d,o,some g,st⟩ r i c0 acc E (exec E n) s=some (e,s'):=hn
   unfold s_dop at hn
   simp only at hn
   split at hn
   ·rename_i hw
    rw[hw]
    split at hn
    ·rename_i v h' ho
     split at hn
     ·rename_i acc' ha
      rw[ha]
      split at hn
      ·rename_i hf
       exact⟨v,h',⟨n,ho⟩,hf,e,s',⟨n,hn⟩,hq⟩
      ·cases hn
     ·cases hn
    ·cases hn
   ·rename_i hw
    rw[hw]
    split at hn
    ·rename_i hf
     exact⟨hf,e,s',⟨n,hn⟩,hq⟩
    ·cases hn
 ·cases hw:wanted s.tm (some g)with
  | true=>
   cases ha:noted s ⟨d,o,some g,st⟩ acc with
   |none=>exact False.elim
   |some acc'=>exact fun h=>Wp.dop hw ha h
  |false=>exact fun h=>Wp.dnoop hw h.1 h.2
theorem noted_n {g:Option (Nat×Bool)} {acc:List (Nat×Nat)}:noted s ⟨d,o,g,none⟩ acc=some acc:=rfl
def NoteK (v:AV) (u:Nat) (acc:List (Nat×Nat)):Option (List (Nat×Nat)):=
 match v with
 | .ptr t _=>some ((t,u)::acc)
 |_=>none
theorem NoteK.ptr {t p u:Nat} {acc:List (Nat×Nat)}:NoteK (.ptr t p) u acc=some ((t,u)::acc):=rfl
theorem noted_s {g:Option (Nat×Bool)} {u:Nat} {acc:List (Nat×Nat)} {ag:Bool} {n:Nat} {x:Opd}:noted s ⟨d,.load ag n x,g,some u⟩ acc=NoteK (val s.tm x) u acc:=by
 unfold noted reads NoteK
 simp only
 cases val s.tm x<;>rfl
theorem fresh_eq {t u c0 i:Nat}:fresh h c0 i (t,u)=(if u=i then old h c0 t else true):=by
 unfold fresh
 rw[beq_dec]
 by_cases hu:u=i<;>simp[hu]
def Some1 (x:Option AV) (h:Hp) (K:AV→Hp→Prop):Prop:=
 match x with
 |some v=>K v h
 |none=>False
theorem Some1.iff:Some1 (some v) h K↔K v h:=Iff.rfl
theorem Some2.iff:Some2 (some (v,h)) K↔K v h:=Iff.rfl
theorem OpWp.plain_iff (hn:o.calls=false):OpWp E o s K↔Some2 (aop o (val s.tm) s.hp) K:=by
 constructor
 ·rintro⟨v,h',⟨n,hn'⟩,hk⟩
  have:opA o E (exec E n) s=aop o (val s.tm) s.hp:=by cases o<;>first|(simp[AOp.calls]at hn;done)|rfl
  rw[this]at hn'
  rw[hn'];exact hk
 ·exact OpWp.plain hn
theorem OpWp.callF_iff {f:Nat} {args:List Opd}:OpWp E (.callF f args) s K↔CallWp E f (args.map (val s.tm)) s.hp K:=Iff.rfl
def CallVK (E:Env) (x:AV) (args:List AV) (h:Hp) (K:AV→Hp→Prop):Prop:=
 match x with
 | .fn f cap=>CallWp E f (args++cap) h K
 |_=>False
theorem CallVK.fn {f:Nat} {cap args:List AV}:CallVK E (.fn f cap) args h K↔CallWp E f (args++cap) h K:=Iff.rfl
theorem OpWp.callV_iff {x:Opd} {args:List Opd}:OpWp E (.callV x args) s K↔CallVK E (val s.tm x) (args.map (val s.tm)) s.hp K:=by
 constructor
 ·rintro⟨v,h',⟨n,hn⟩,hk⟩
  simp only[opA,o_callV]at hn
  split at hn
  ·rename_i f cap hx
   rw[hx]
   exact⟨v,h',⟨n,hn⟩,hk⟩
  ·cases hn
 ·unfold CallVK
  split
  ·rename_i hx;exact OpWp.callV hx
  ·exact False.elim
def InvK (E:Env) (x:AV) (name:String) (args:List AV) (h:Hp) (K:AV→Hp→Prop):Prop:=
 match x with
 | .ifc T u=>match E.meth T name with
  |some f=>CallWp E f (u::args) h K
  |none=>False
 |_=>False
theorem InvK.ifc {T f:Nat} {u:AV} {name:String} {args:List AV} (hm:E.meth T name=some f):InvK E (.ifc T u) name args h K↔CallWp E f (u::args) h K:=by
 simp only[InvK,hm]
theorem OpWp.inv_iff {x:Opd} {name:String} {args:List Opd}:OpWp E (.inv x name args) s K↔InvK E (val s.tm x) name (args.map (val s.tm)) s.hp K:=by
 constructor
 ·rintro⟨v,h',⟨n,hn⟩,hk⟩
  simp only[opA,o_inv]at hn
  split at hn
  ·rename_i T u hx
   rw[hx]
   split at hn
   ·rename_i f hm
    exact(InvK.ifc hm).2 ⟨v,h',⟨n,hn⟩,hk⟩
   ·cases hn
  ·cases hn
 ·unfold InvK
  split
  ·rename_i hx
   split
   ·rename_i hm;exact OpWp.inv hx hm
   ·exact False.elim
  ·exact False.elim
def ResK (v:Option AV) (h:Hp) (K:AV→Hp→Prop):Prop:=
 match v with
 |some v=>K v h
 |none=>False
theorem ResK.iff:ResK (some v) h K↔K v h:=Iff.rfl
theorem RetQ.ret {rs:List ARes}:RetQ rs K .ret s↔ResK (resultA s rs) s.hp K:=by simp only[RetQ,ResK];cases resultA s rs<;>exact Iff.rfl
theorem RetQ.nrm {rs:List ARes}:RetQ rs K .nrm s↔ResK (resultA s rs) s.hp K:=by simp only[RetQ,ResK];cases resultA s rs<;>exact Iff.rfl
theorem CallWp.prim_iff {f:Nat} {p:Prim} {args:List AV} (he:E.exts f=none) (hp:E.prims f=some p):CallWp E f args h K↔Some2 (p args h) K:=by
 constructor
 ·rintro⟨v,h',⟨n,hn⟩,hk⟩
  unfold call callA at hn
  simp only[he,hp]at hn
  rw[hn];exact hk
 ·exact CallWp.prim he hp
end
end Go.Ae
set_option linter.unusedVariables false
set_option linter.unusedSimpArgs false
namespace Go.Ae
section
variable {P:Program} {W0:World} {base nt:Nat} {ρ ρ':Rho} {h h':Hp} {w w':World} {s s':St} {a a':Act} {v:AV}
structure Sim (W0:World) (base nt:Nat) (ρ:Rho) (s:St) (a:Act) (w:World):Prop where
 rel:HRel base ρ s.hp w
 glob:Go.RowKit.Below base W0 w
 defers:a.defers=[]
 size:nt≤a.tmps.size
 tmp:∀t,a.tmps.getD t undef=enc ρ (val s.tm (.t t))∧ok ρ s.hp.next (val s.tm (.t t))
theorem copd_cases {x:Operand} {y:Opd} (hx:copd x=some y):(∃t,x= .tmp t∧y= .t t)∨(∀(a:Act) (ρ:Rho) (N:Nat) (tm:T AV),a.eval x=enc ρ (val tm y)∧ok ρ N (val tm y)∧(∀t,x≠ .tmp t)∧∀t,y≠ .t t):=by
 cases x with
 |tmp t=>simp only[copd,Option.some.injEq]at hx;exact .inl ⟨t,rfl,hx.symm⟩
 | const c=>
  simp only[copd]at hx
  split at hx
  ·rename_i b hb
   obtain rfl:=Option.some.inj hx
   refine .inr fun a ρ N tm=>⟨?_,(cval_enc hb ρ N).2,nofun,nofun⟩
   exact(cval_enc hb ρ N).1.symm
  ·cases hx
 |global g=>simp[copd]at hx
 | func f=>
  simp only[copd,Option.some.injEq]at hx
  subst hx
  exact .inr fun a ρ N tm=>⟨by simp[Act.eval,val,enc,encs],by simp[val,ok,oks],nofun,nofun⟩
theorem Sim.evals (S:Sim W0 base nt ρ s a w):Evals ρ s.hp.next a.eval s.tm:=fun x y hx=>by
 rcases copd_cases hx with⟨t,rfl,rfl⟩|hh
 ·exact S.tmp t
 ·exact⟨(hh a ρ s.hp.next s.tm).1,(hh a ρ s.hp.next s.tm).2.1⟩
theorem val_set (tm:T AV) (d:Nat) (v:AV) (t:Nat):val (tm.set d v) (.t t)=if t=d then v else val tm (.t t):=by
 simp only[val,T.get_set];split<;>rfl
theorem getD_put (a:Act) (dst:Option Tmp) (v:Value) (hd:∀d,dst=some d→d<a.tmps.size) (t:Nat):(a.put dst v).tmps.getD t undef=if dst=some t then v else a.tmps.getD t undef:=by
 cases dst with
 |none=>simp[Act.put]
 | some d=>
  have:=hd d rfl
  simp only[Act.put,Array.getD_eq_getD_getElem?,Array.getElem?_setIfInBounds]
  by_cases h:d=t
  ·subst h;simp[this]
  ·simp[h]
theorem put_size (a:Act) (dst:Option Tmp) (v:Value):(a.put dst v).tmps.size=a.tmps.size:=by cases dst<;>simp[Act.put]
theorem put_defers (a:Act) (dst:Option Tmp) (v:Value):(a.put dst v).defers=a.defers:=by cases dst<;>rfl
theorem val_put (tm:T AV) (dst:Option Nat) (v:AV) (t:Nat):val (put tm dst v) (.t t)=if dst=some t then v else val tm (.t t):=by
 cases dst with
 |none=>simp[put]
 |some d=>simp only[put,val_set,Option.some.injEq];by_cases h:t=d<;>simp[h,eq_comm]
theorem Sim.put (S:Sim W0 base nt ρ s a w) (X:Ext base ρ s.hp w ρ' h' w') (hv:ok ρ' h'.next v) (dst:Option Nat) (hd:∀d,dst=some d→d<nt):Sim W0 base nt ρ' { tm:=put s.tm dst v,hp:=h' } (a.put dst (enc ρ' v)) w':=by
 refine⟨X.rel,S.glob.trans (X.keep.below S.rel),by rw[put_defers];exact S.defers,by rw[put_size];exact S.size,fun t=>?_⟩
 rw[getD_put _ _ _ fun d hd'=>Nat.lt_of_lt_of_le (hd d hd') S.size]
 simp only[val_put]
 split
 ·exact⟨rfl,hv⟩
 ·obtain⟨h1,h2⟩:=S.tmp t
  exact⟨h1.trans (enc_agree X.agree _ h2).symm,ok_agree X.agree X.next _ h2⟩
theorem Sim.put0 (S:Sim W0 base nt ρ s a w) (dst:Option Nat) (hd:∀d,dst=some d→d<nt):Sim W0 base nt ρ { tm:=Ae.put s.tm dst und,hp:=s.hp } (a.put dst undef) w:=by
 have:=S.put (Ext.refl S.rel) (v:=und) trivial dst hd
 rwa[enc_und]at this
def cgrd (ops:Array Oper) (g:Option (Nat×Bool)):Option (Option (Nat×Bool)):=
 match g with
 |none=>some none
 | some (j,b)=>match(ops[j]?).bind (·.dst)with
  |some d=>some (some (d,b))
  |none=>none
theorem wanted_eq {ops:Array Oper} {o:Oper} {g:Option (Nat×Bool)} {tm:T AV} (hg:cgrd ops o.guard=some g) (hs:∀d b,g=some (d,b)→a.tmps.getD d undef=enc ρ (val tm (.t d))):
  Region.wanted o (yielded ops a.tmps)=wanted tm g:=by
 unfold Region.wanted
 unfold cgrd at hg
 split at hg
 ·rename_i hn;rw[hn];obtain rfl:=Option.some.inj hg;rfl
 ·rename_i j b hn
  split at hg
  ·rename_i d hd
   obtain rfl:=Option.some.inj hg
   rw[hn]
   have e:=hs d b rfl
   simp only[yielded,hd,Option.bind_some,wanted]
   rw[Array.getD_eq_getD_getElem?]at e
   simp only[val]at e
   cases ht:tm.get d with
   | none=>
    rw[ht]at e
    simp only[Option.getD_none,enc_und]at e
    cases ha:a.tmps[d]? with
    |none=>rfl
    |some u=>rw[ha]at e;simp only[Option.getD_some]at e;subst e;rfl
   | some v=>
    rw[ht]at e
    simp only[Option.getD_some]at e
    cases ha:a.tmps[d]? with
    | none=>
     rw[ha]at e
     simp only[Option.getD_none]at e
     cases v<;>simp[enc,undef]at e<;>rfl
    | some u=>
     rw[ha]at e
     simp only[Option.getD_some]at e
     subst e
     cases v<;>simp only[enc]<;>first|rfl|(rename_i c;cases b<;>cases c<;>rfl)
  ·cases hg
structure COp (P:Program) (nt:Nat) (ops:Array Oper) (o:Oper) (x:AOper):Prop where
 op:cop P o=some x.op∨x.op= .bad
 dst:x.dst=o.dst
 lt:∀d,x.dst=some d→d<nt
 grd:cgrd ops o.guard=some x.grd
def QOf (W0:World) (base nt:Nat) (ρ:Rho) (h:Hp) (w:World) (e:Ex) (s':St):Exit→Act→World→Prop:=fun e' a' w'=>
 (match e,e' with| .nrm,.normal=>True| .exit i,.exit j=>i=j| .ret,.ret=>True|_,_=>False)∧∃ρ',Sim W0 base nt ρ' s' a' w'∧Ext base ρ h w ρ' s'.hp w'
theorem QOf.trans {h0:Hp} {w0:World} {ρ0:Rho} {e:Ex} {e':Exit} (X:Ext base ρ0 h0 w0 ρ h w) (hq:QOf W0 base nt ρ h w e s' e' a' w'):QOf W0 base nt ρ0 h0 w0 e s' e' a' w':=by
 obtain⟨h1,ρ',h2,h3⟩:=hq
 exact⟨h1,ρ',h2,X.trans h3⟩
inductive All2 {α β:Type} (R:α→β→Prop):List α→List β→Prop
 |nil:All2 R [] []
 |cons {a:α} {b:β} {asx:List α} {bs:List β}:R a b→All2 R asx bs→All2 R (a::asx) (b::bs)
theorem reg_nrm {E:Env}:∀(m:Nat) (xs:List AOper) (s:St) (e:Ex) (s':St),exec E m (.reg xs) s=some (e,s')→e= .nrm
 |0,_,_,_,_,hr=>by cases hr
 | m+1,[],s,e,s',hr=>by
  rw[exec_succ]at hr
  exact(pair_inj (show some (Ex.nrm,s)=some (e,s') from hr)).1.symm
 | m +1,x::xs,s,e,s',hr=>by
  rw[exec_succ]at hr
  have hr:s_op x xs E (exec E m) s=some (e,s'):=hr
  unfold s_op s_cont at hr
  repeat' split at hr
  all_goals first
   |(cases hr;done)
   |exact reg_nrm m _ _ _ _ hr
theorem reg_sound {E:Env} {ops:Array Oper} {Q:Exit→Act→World→Prop} (MO:MethOk P E) (n:Nat) (CO:∀m,m<n→CallsOk P W0 base E (exec E m)):
  ∀ (m i:Nat) (os:List Oper) (xs:List AOper) (ρ:Rho) (s:St) (a:Act) (w:World) (e:Ex) (s':St),m≤n→ops.toList.drop i=os→All2 (COp P nt ops) os xs→Sim W0 base nt ρ s a w→
   exec E m (.reg xs) s=some (e,s')→(∀a' w' ρ',Sim W0 base nt ρ' s' a' w'→Ext base ρ s.hp w ρ' s'.hp w'→Q .normal a' w')→wpOps P ops Q (List.range' i os.length) a w:=by
 intro m
 induction m with
 |zero=>intro i os xs ρ s a w e s' _ _ _ _ hr _;cases hr
 | succ m ih =>
  intro i os xs ρ s a w e s' hm hdrop hf S hr hQ
  rw[exec_succ]at hr
  cases hf with
  | nil=>
   obtain⟨rfl,rfl⟩:Ex.nrm=e∧s=s':=by
    have:=pair_inj (show some (Ex.nrm,s)=some (e,s') from hr);exact this
   exact hQ a w ρ S (Ext.refl S.rel)
  | cons hx hrest=>
   rename_i o x os xs
   have ho:ops[i]?=some o:=by
    rw[←Array.getElem?_toList]
    have:=congrArg (fun l=>l[0]?) hdrop
    simpa using this
   have hdrop':ops.toList.drop (i+1)=os:=by
    rw[←List.drop_drop,hdrop];rfl
   have hr:s_op x xs E (exec E m) s=some (e,s'):=hr
   have hw:=wanted_eq (a:=a) (ρ:=ρ) (tm:=s.tm) hx.grd fun d b _=>(S.tmp d).1
   simp only[List.length_cons,List.range'_succ]
   rw[wpOps]
   simp only[ho]
   unfold s_op at hr
   split at hr
   ·rename_i hwt
    rw[hw,hwt]
    simp only[if_true]
    unfold s_cont at hr
    split at hr
    ·rename_i v h' hop
     rcases hx.op with hc|hbad
     ·have D:=op_sound (CO m (by omega)) S.glob MO hc S.evals S.rel hop
      have key:∀u w1,Gives base ρ s.hp w v h' u w1→wpOps P ops Q (List.range' (i+1) os.length) (a.put o.dst u) w1:=by
       rintro u w1 ⟨ρ1,X,hv,rfl⟩
       have S1:=S.put X hv x.dst hx.lt
       rw[hx.dst]at S1
       rw[hx.dst]at hr
       exact ih (i+1) os xs ρ1 _ _ _ e s' (by omega) hdrop' hrest S1 hr fun a' w' ρ' S' X'=>hQ a' w' ρ' S' (X.trans X')
      exact .inl (Takes.wp D key)
     ·rw[hbad]at hop;cases hop
    ·cases hr
   ·rename_i hwt
    rw[hw,hwt]
    simp only[Bool.false_eq_true,if_false]
    have S1:=S.put0 x.dst hx.lt
    rw[hx.dst]at S1
    rw[hx.dst]at hr
    exact ih (i+1) os xs ρ _ _ _ e s' (by omega) hdrop' hrest S1 hr hQ
end
end Go.Ae
set_option linter.unusedVariables false
set_option linter.unusedSimpArgs false
namespace Go.Ae
section
variable {E:Env} {s:St} {tm:T AV} {h h':Hp} {v x y:AV} {Q:Ex→St→Prop} {K:AV→Hp→Prop} {a b c:ACode} {r:List AOper} {d:Option Nat} {o:AOp} {k:IntKind} {m n i j:Int}
theorem val_k:val tm (.k v)=v:=rfl
theorem val_nil {t:Nat}:val (.nil:T AV) (.t t)=und:=rfl
theorem put_some {t:Nat}:put tm (some t) v=tm.set t v:=rfl
theorem put_none:put tm none v=tm:=rfl
theorem enter_nil {t:Nat}:enterA [] t tm=tm:=rfl
theorem enter_cons {t:Nat} {l:List AV}:enterA (v::l) t tm=enterA l (t+1) (tm.set t v):=rfl
theorem resA_tmp {t:Nat}:resA s (.tmp t)=some (val s.tm (.t t)):=rfl
theorem res1 {t:Nat}:resultA s [.tmp t]=some (val s.tm (.t t)):=rfl
theorem res0:resultA s []=some (.tup []):=rfl
theorem res2 {t t':Nat}:resultA s [.tmp t,.tmp t']=some (.tup [val s.tm (.t t),val s.tm (.t t')]):=rfl
theorem res3 {t t' t'':Nat}:resultA s [.tmp t,.tmp t',.tmp t'']=some (.tup [val s.tm (.t t),val s.tm (.t t'),val s.tm (.t t'')]):=rfl
def WantK (v:AV) (b:Bool):Bool:=
 match v with
 | .bool c=>c==b
 |_=>false
theorem wanted_k {t:Nat} {b:Bool}:wanted tm (some (t,b))=WantK (val tm (.t t)) b:=by rw[wanted_val];rfl
theorem WantK.tt:WantK (.bool true) true=true:=rfl
theorem WantK.tf:WantK (.bool true) false=false:=rfl
theorem WantK.ft:WantK (.bool false) true=false:=rfl
theorem WantK.ff:WantK (.bool false) false=true:=rfl
theorem WantK.und {b:Bool}:WantK (.tup []) b=false:=rfl
theorem WantK.pos_t {p:Prop} {_:Decidable p} (hp:p):WantK (.bool (decide p)) true=true:=by simp[WantK,hp]
theorem WantK.neg_t {p:Prop} {_:Decidable p} (hp:¬p):WantK (.bool (decide p)) true=false:=by simp[WantK,hp]
theorem WantK.pos_f {p:Prop} {_:Decidable p} (hp:p):WantK (.bool (decide p)) false=false:=by simp[WantK,hp]
theorem WantK.neg_f {p:Prop} {_:Decidable p} (hp:¬p):WantK (.bool (decide p)) false=true:=by simp[WantK,hp]
theorem GrdK.dec {p:Prop} {_:Decidable p} {b:Bool} (h1:p→GrdK E (WantK (.bool true) b) o d r s Q) (h2:¬p→GrdK E (WantK (.bool false) b) o d r s Q):GrdK E (WantK (.bool (decide p)) b) o d r s Q:=by
 by_cases hp:p
 ·rw[decide_eq_true hp];exact h1 hp
 ·rw[decide_eq_false hp];exact h2 hp
theorem DGrd.dec {p:Prop} {_:Decidable p} {b:Bool} {acc:List (Nat×Nat)} {acc':Option (List (Nat×Nat))} {i c0:Nat} (h1:p→DGrd E (WantK (.bool true) b) acc acc' d o r i c0 s Q) (h2:¬p→DGrd E (WantK (.bool false) b) acc acc' d o r i c0 s Q):DGrd E (WantK (.bool (decide p)) b) acc acc' d o r i c0 s Q:=by
 by_cases hp:p
 ·rw[decide_eq_true hp];exact h1 hp
 ·rw[decide_eq_false hp];exact h2 hp
theorem CondK.decN {p:Prop} {_:Decidable p} (h1:¬p→Wp E a s Q) (h2:p→Wp E b s Q):CondK E (.bool (decide (¬p))) a b s Q:=by
 by_cases hp:p
 ·rw[decide_eq_false (fun e=>e hp)];exact h2 hp
 ·rw[decide_eq_true hp];exact h1 hp
theorem GrdK.decN {p:Prop} {_:Decidable p} {b:Bool} (h1:¬p→GrdK E (WantK (.bool true) b) o d r s Q) (h2:p→GrdK E (WantK (.bool false) b) o d r s Q):GrdK E (WantK (.bool (decide (¬p))) b) o d r s Q:=by
 by_cases hp:p
 ·rw[decide_eq_false (fun e=>e hp)];exact h2 hp
 ·rw[decide_eq_true hp];exact h1 hp
theorem decide_nn {p:Prop} {_:Decidable p}:(!decide p)=decide (¬p):=by by_cases hp:p<;>simp[hp]
theorem w_mv {z:Opd}:OpWp E (.mv z) s K↔K (val s.tm z) s.hp:=OpWp.plain_iff rfl
def PickK (v a b:AV) (h:Hp) (K:AV→Hp→Prop):Prop:=
 match v with
 | .bool true=>K a h
 | .bool false=>K b h
 |_=>False
theorem PickK.t:PickK (.bool true) x y h K↔K x h:=Iff.rfl
theorem PickK.f:PickK (.bool false) x y h K↔K y h:=Iff.rfl
theorem PickK.pos {p:Prop} {_:Decidable p} (hp:p):PickK (.bool (decide p)) x y h K↔K x h:=by rw[decide_eq_true hp];exact Iff.rfl
theorem PickK.neg {p:Prop} {_:Decidable p} (hp:¬p):PickK (.bool (decide p)) x y h K↔K y h:=by rw[decide_eq_false hp];exact Iff.rfl
theorem PickK.dec {p:Prop} {_:Decidable p} (h1:p→K x h) (h2:¬p→K y h):PickK (.bool (decide p)) x y h K:=by
 by_cases hp:p
 ·rw[decide_eq_true hp];exact h1 hp
 ·rw[decide_eq_false hp];exact h2 hp
theorem PickK.decN {p:Prop} {_:Decidable p} (h1:¬p→K x h) (h2:p→K y h):PickK (.bool (decide (¬p))) x y h K:=by
 by_cases hp:p
 ·rw[decide_eq_false (fun e=>e hp)];exact h2 hp
 ·rw[decide_eq_true hp];exact h1 hp
theorem WantK.posN_t {p:Prop} {_:Decidable p} (hp:p):WantK (.bool (decide (¬p))) true=false:=by simp[WantK,hp]
theorem WantK.posN_f {p:Prop} {_:Decidable p} (hp:p):WantK (.bool (decide (¬p))) false=true:=by simp[WantK,hp]
theorem PickK.posN {p:Prop} {_:Decidable p} (hp:p):PickK (.bool (decide (¬p))) x y h K↔K y h:=by rw[decide_eq_false (fun e=>e hp)];exact Iff.rfl
theorem CondK.posN {p:Prop} {_:Decidable p} (hp:p):CondK E (.bool (decide (¬p))) a b s Q↔Wp E b s Q:=by rw[decide_eq_false (fun e=>e hp)];exact Iff.rfl
theorem w_pick {z u w:Opd}:OpWp E (.pick z u w) s K↔PickK (val s.tm z) (val s.tm u) (val s.tm w) s.hp K:=by
 rw[OpWp.plain_iff rfl]
 simp only[aop,o_pick,PickK]
 cases val s.tm z<;>try exact Iff.rfl
 rename_i b;cases b<;>exact Iff.rfl
theorem w_alloc {z:List AV}:OpWp E (.alloc z) s K↔K (.ptr s.hp.next 0) (s.hp.push fun t=> .row z true t):=OpWp.plain_iff rfl
theorem w_box {z:Opd}:OpWp E (.box z) s K↔Some2 (o_box z (val s.tm) s.hp) K:=OpWp.plain_iff rfl
theorem w_build {z:List AV} {ps:List (Nat×Nat×Opd)}:OpWp E (.build z ps) s K↔Some2 (o_build z ps (val s.tm) s.hp) K:=OpWp.plain_iff rfl
theorem w_bslice {sz l:Nat} {z:List AV} {ps:List (Nat×Nat×Opd)}:OpWp E (.bslice sz l z ps) s K↔Some2 (o_bslice sz l z ps (val s.tm) s.hp) K:=OpWp.plain_iff rfl
theorem w_bin {q:EqK} {z u:Opd} {op:BinOp}:OpWp E (.bin op q z u) s K↔Some1 (binA op q (val s.tm z) (val s.tm u)) s.hp K:=by
 rw[OpWp.plain_iff rfl]
 simp only[aop,o_bin,Some1]
 cases binA op q (val s.tm z) (val s.tm u)<;>exact Iff.rfl
theorem w_un {z:Opd} {op:UnOp}:OpWp E (.un op z) s K↔Some1 (unA op (val s.tm z)) s.hp K:=by
 rw[OpWp.plain_iff rfl]
 simp only[aop,o_un,Some1]
 cases unA op (val s.tm z)<;>exact Iff.rfl
def cviA (k:IntKind):AV→Option AV
 | .int _ n=>some (.int k (k.wrap n))
 |_=>none
theorem cviA_int {k':IntKind}:cviA k (.int k' n)=some (.int k (k.wrap n)):=rfl
theorem w_cvi {z:Opd}:OpWp E (.cvi k z) s K↔Some1 (cviA k (val s.tm z)) s.hp K:=by
 rw[OpWp.plain_iff rfl]
 simp only[aop,o_cvi,Some1]
 cases val s.tm z<;>simp[cviA,mkInt_eq,Some2]
def cvsA:AV→Option AV
 | .str s=>some (.str s)
 |_=>none
theorem cvsA_str {l:List UInt8}:cvsA (.str l)=some (.str l):=rfl
theorem w_cvs {z:Opd}:OpWp E (.cvs z) s K↔Some1 (cvsA (val s.tm z)) s.hp K:=by
 rw[OpWp.plain_iff rfl]
 simp only[aop,o_cvs,Some1]
 cases val s.tm z<;>exact Iff.rfl
theorem w_mkI {t:Nat} {z:Opd}:OpWp E (.mkI t z) s K↔K (.ifc t (val s.tm z)) s.hp:=OpWp.plain_iff rfl
theorem w_mkF {f:Nat} {cs:List Opd}:OpWp E (.mkF f cs) s K↔K (.fn f (cs.map (val s.tm))) s.hp:=OpWp.plain_iff rfl
theorem w_mks {sz by_:Nat} {z:List AV} {l u:Opd}:OpWp E (.mks sz by_ z l u) s K↔Some2 (o_mks sz by_ z l u (val s.tm) s.hp) K:=OpWp.plain_iff rfl
theorem w_sl {sz:Nat} {z:Opd} {lo hi:Option Opd}:OpWp E (.sl sz z lo hi) s K↔Some2 (slA s.hp sz (val s.tm z) (lo.map (val s.tm)) (hi.map (val s.tm))) K:=OpWp.plain_iff rfl
theorem w_app {sz by_:Nat} {z u:Opd}:OpWp E (.app sz by_ z u) s K↔Some2 (appA s.hp sz by_ (val s.tm z) (val s.tm u)) K:=OpWp.plain_iff rfl
theorem w_mkmap:OpWp E .mkmap s K↔K (.map s.hp.next) (s.hp.push fun t=> .amap [] t):=OpWp.plain_iff rfl
theorem w_mupd {z u w:Opd}:OpWp E (.mupd z u w) s K↔Some2 (o_mupd z u w (val s.tm) s.hp) K:=OpWp.plain_iff rfl
theorem w_lkp {z u:Opd} {w:AV} {ok:Bool}:OpWp E (.lkp z u w ok) s K↔Some2 (o_lkp z u w ok (val s.tm) s.hp) K:=OpWp.plain_iff rfl
def slsK (x:AV) (lo hi:Option AV):Option AV:=
 match x with
 | .str s=>slsA s lo hi
 |_=>none
theorem w_sls {z:Opd} {lo hi:Option Opd}:OpWp E (.sls z lo hi) s K↔Some1 (slsK (val s.tm z) (lo.map (val s.tm)) (hi.map (val s.tm))) s.hp K:=by
 rw[OpWp.plain_iff rfl]
 simp only[aop,o_sls,Some1]
 cases hz:val s.tm z<;>try exact Iff.rfl
 rename_i l
 simp only[slsK]
 cases slsA l (lo.map (val s.tm)) (hi.map (val s.tm))<;>exact Iff.rfl
theorem slsK_lo {l:List UInt8} (h0:0≤i∧i≤l.length):slsK (.str l) (some (.int k i)) none=some (.str (l.drop i.toNat)):=by
 simp only[slsK,slsA,bound]
 rw[if_pos (by omega),List.take_of_length_le (Nat.le_refl _)]
theorem slsK_hi {l:List UInt8} (h0:0≤i∧i≤l.length):slsK (.str l) none (some (.int k i))=some (.str (l.take i.toNat)):=by
 simp only[slsK,slsA,bound]
 rw[if_pos (by omega)]
 simp
theorem slsK_lh {l:List UInt8} {k':IntKind} (h0:0≤i∧i≤j∧j≤l.length):slsK (.str l) (some (.int k i)) (some (.int k' j))=some (.str ((l.take j.toNat).drop i.toNat)):=by
 simp only[slsK,slsA,bound]
 rw[if_pos (by omega)]
 simp only
 rw[if_pos (by omega)]
def idxK (x y:AV):Option AV:=
 match x,y with
 | .str s,.int _ i=>if 0≤i∧i<s.length then some (.int .u8 ((s.getD i.toNat 0).toNat:Int))else none
 |_,_=>none
theorem idxK_str {l:List UInt8} (h0:0≤i∧i<l.length):idxK (.str l) (.int k i)=some (.int .u8 ((l.getD i.toNat 0).toNat:Int)):=if_pos h0
theorem w_idxs {z u:Opd}:OpWp E (.idxs z u) s K↔Some1 (idxK (val s.tm z) (val s.tm u)) s.hp K:=by
 rw[OpWp.plain_iff rfl]
 simp only[aop,o_idxs,Some1]
 cases hz:val s.tm z<;>try exact Iff.rfl
 rename_i l
 cases hu:val s.tm u<;>try exact Iff.rfl
 rename_i k i
 simp only[idxK]
 by_cases h1:0≤i
 ·rw[if_pos h1]
  by_cases h2:i<l.length
  ·rw[if_pos ⟨h1,h2⟩]
   obtain⟨b,hb⟩:∃b,l[i.toNat]?=some b:=⟨l[i.toNat],List.getElem?_eq_getElem (by omega)⟩
   rw[hb,List.getD_eq_getElem?_getD,hb];exact Iff.rfl
  ·rw[if_neg (fun e=>h2 e.2),List.getElem?_eq_none (by omega)];exact Iff.rfl
 ·rw[if_neg h1,if_neg (fun e=>h1 e.1)];exact Iff.rfl
def lenK (q:LenK) (x:AV):Option AV:=
 match q,x with
 | .str,.str s=>some (.int .i64 s.length)
 | .slice,.sl _ _ n _=>some (.int .i64 n)
 | .slice,.nils=>some (.int .i64 0)
 | .slice,.esl .. =>some (.int .i64 0)
 | .arr n,_=>some (.int .i64 n)
 |_,_=>none
theorem lenK_str {l:List UInt8}:lenK .str (.str l)=some (.int .i64 l.length):=rfl
theorem lenK_sl {t p l z:Nat}:lenK .slice (.sl t p l z)=some (.int .i64 l):=rfl
theorem lenK_nils:lenK .slice .nils=some (.int .i64 0):=rfl
theorem lenK_arr {l:Nat}:lenK (.arr l) x=some (.int .i64 l):=by cases x<;>rfl
theorem w_len {q:LenK} {z:Opd}:OpWp E (.len q z) s K↔Some1 (lenK q (val s.tm z)) s.hp K:=by
 rw[OpWp.plain_iff rfl]
 simp only[aop,o_len,Some1]
 cases q<;>cases val s.tm z<;>exact Iff.rfl
def extK (x:AV) (i:Nat):Option AV:=
 match x with
 | .tup l=>l[i]?
 |_=>none
theorem extK_0 {l:List AV}:extK (.tup (x::l)) 0=some x:=rfl
theorem extK_1 {l:List AV}:extK (.tup (x::y::l)) 1=some y:=rfl
theorem extK_2 {l:List AV}:extK (.tup (x::y::v::l)) 2=some v:=rfl
theorem w_ext {z:Opd} {t:Nat}:OpWp E (.ext z t) s K↔Some1 (extK (val s.tm z) t) s.hp K:=by
 rw[OpWp.plain_iff rfl]
 simp only[aop,o_ext,Some1]
 cases hz:val s.tm z<;>try exact Iff.rfl
 rename_i l
 simp only[extK]
 cases l[t]?<;>exact Iff.rfl
def fldK (ag:Bool) (off l:Nat) (x:AV):Option AV:=
 match x with
 | .agg cs=>if off+l≤cs.length then(if ag then some (.agg ((cs.drop off).take l))else cs[off]?)else none
 |_=>none
theorem w_fld {ag:Bool} {off l:Nat} {z:Opd}:OpWp E (.fld ag off l z) s K↔Some1 (fldK ag off l (val s.tm z)) s.hp K:=by
 rw[OpWp.plain_iff rfl]
 simp only[aop,o_fld,Some1]
 cases hz:val s.tm z<;>try exact Iff.rfl
 rename_i cs
 simp only[fldK]
 split
 ·split
  ·exact Iff.rfl
  ·cases cs[off]?<;>exact Iff.rfl
 ·exact Iff.rfl
theorem fldK_one {cs:List AV} {off:Nat} (hc:cs[off]?=some v):fldK false off 1 (.agg cs)=some v:=by
 have hl:off<cs.length:=by
  rcases Nat.lt_or_ge off cs.length with h|h
  ·exact h
  ·rw[List.getElem?_eq_none h]at hc;cases hc
 simp only[fldK,if_pos (show off+1≤cs.length by omega),hc,Bool.false_eq_true,if_false]
theorem fldK_0 {l:List AV}:fldK false 0 1 (.agg (x::l))=some x:=fldK_one rfl
theorem fldK_1 {z:AV} {l:List AV}:fldK false 1 1 (.agg (z::x::l))=some x:=fldK_one rfl
theorem fldK_2 {z u:AV} {l:List AV}:fldK false 2 1 (.agg (z::u::x::l))=some x:=fldK_one rfl
theorem fldK_3 {z u w:AV} {l:List AV}:fldK false 3 1 (.agg (z::u::w::x::l))=some x:=fldK_one rfl
theorem fldK_4 {z u w w':AV} {l:List AV}:fldK false 4 1 (.agg (z::u::w::w'::x::l))=some x:=fldK_one rfl
def fadrK (off:Nat) (x:AV):Option AV:=
 match x with
 | .ptr t p=>some (.ptr t (p+off))
 |_=>none
theorem fadrK_ptr {t p off:Nat}:fadrK off (.ptr t p)=some (.ptr t (p+off)):=rfl
theorem w_fadr {off:Nat} {z:Opd}:OpWp E (.fadr off z) s K↔Some1 (fadrK off (val s.tm z)) s.hp K:=by
 rw[OpWp.plain_iff rfl]
 simp only[aop,o_fadr,Some1]
 cases val s.tm z<;>exact Iff.rfl
def iadrK (sz:Nat) (x y:AV):Option AV:=
 match x,y with
 | .sl t p n _,.int _ i=>if 0≤i∧i<(n:Int)then some (.ptr t (p+i.toNat*sz))else none
 |_,_=>none
theorem iadrK_sl {sz t p l z:Nat} (h0:0≤i∧i<(l:Int)):iadrK sz (.sl t p l z) (.int k i)=some (.ptr t (p+i.toNat*sz)):=if_pos h0
theorem w_iadr {sz:Nat} {z u:Opd}:OpWp E (.iadr sz z u) s K↔Some1 (iadrK sz (val s.tm z) (val s.tm u)) s.hp K:=by
 rw[OpWp.plain_iff rfl]
 simp only[aop,o_iadr,Some1]
 cases hz:val s.tm z<;>try exact Iff.rfl
 cases hu:val s.tm u<;>try exact Iff.rfl
 simp only[iadrK]
 split<;>exact Iff.rfl
def iadrAK (sz l:Nat) (x y:AV):Option AV:=
 match x,y with
 | .ptr t p,.int _ i=>if 0≤i∧i<(l:Int)then some (.ptr t (p+i.toNat*sz))else none
 |_,_=>none
theorem iadrAK_ptr {sz t p l:Nat} (h0:0≤i∧i<(l:Int)):iadrAK sz l (.ptr t p) (.int k i)=some (.ptr t (p+i.toNat*sz)):=if_pos h0
theorem w_iadrA {sz l:Nat} {z u:Opd}:OpWp E (.iadrA sz l z u) s K↔Some1 (iadrAK sz l (val s.tm z) (val s.tm u)) s.hp K:=by
 rw[OpWp.plain_iff rfl]
 simp only[aop,o_iadrA,Some1]
 cases hz:val s.tm z<;>try exact Iff.rfl
 cases hu:val s.tm u<;>try exact Iff.rfl
 simp only[iadrAK]
 split<;>exact Iff.rfl
def LoadK (ag:Bool) (l:Nat) (x:AV) (h:Hp) (K:AV→Hp→Prop):Prop:=
 match x with
 | .ptr t p=>match h.get t with
  |some (.row cs _ _)=>Some1 (if p+l≤cs.length then(if ag then some (.agg ((cs.drop p).take l))else cs[p]?)else none) h K
  |_=>False
 |_=>False
theorem w_load {ag:Bool} {l:Nat} {z:Opd}:OpWp E (.load ag l z) s K↔LoadK ag l (val s.tm z) s.hp K:=by
 rw[OpWp.plain_iff rfl]
 simp only[aop,o_load,LoadK]
 cases hz:val s.tm z<;>try exact Iff.rfl
 rename_i t p
 simp only
 cases hg:s.hp.get t<;>try exact Iff.rfl
 rename_i ob
 cases ob<;>try exact Iff.rfl
 rename_i cs own st
 simp only
 split
 ·split
  ·exact Iff.rfl
  ·cases cs[p]?<;>exact Iff.rfl
 ·exact Iff.rfl
theorem LoadK.one {t p st:Nat} {cs:List AV} {own:Bool} (hg:h.get t=some (.row cs own st)) (hc:cs[p]?=some v):LoadK false 1 (.ptr t p) h K↔K v h:=by
 have hl:p<cs.length:=by
  rcases Nat.lt_or_ge p cs.length with h|h
  ·exact h
  ·rw[List.getElem?_eq_none h]at hc;cases hc
 simp only[LoadK,hg,if_pos (show p+1≤cs.length by omega),hc,Bool.false_eq_true,if_false];exact Iff.rfl
theorem LoadK.agg {t p l st:Nat} {cs:List AV} {own:Bool} (hg:h.get t=some (.row cs own st)) (hc:p+l≤cs.length):LoadK true l (.ptr t p) h K↔K (.agg ((cs.drop p).take l)) h:=by
 simp only[LoadK,hg,if_pos hc,if_true];exact Iff.rfl
def StoreK (l:Nat) (x y:AV) (h:Hp) (K:AV→Hp→Prop):Prop:=
 match x with
 | .ptr t p=>match h.get t with
  |some (.row cs true _)=>y.cells.length=l∧p+l≤cs.length∧y.cells.all AV.one=true∧K und (h.put t fun st=> .row (splice cs p y.cells) true st)
  |_=>False
 |_=>False
theorem w_storeK {l:Nat} {z u:Opd}:OpWp E (.store l z u) s K↔StoreK l (val s.tm z) (val s.tm u) s.hp K:=by
 rw[OpWp.plain_iff rfl]
 simp only[aop,o_store,StoreK]
 cases hz:val s.tm z<;>try exact Iff.rfl
 rename_i t p
 simp only
 cases hg:s.hp.get t<;>try exact Iff.rfl
 rename_i ob
 cases ob<;>try exact Iff.rfl
 rename_i cs own st
 cases own<;>try exact Iff.rfl
 simp only
 split
 ·rename_i hc;simp only[hc,true_and];exact Iff.rfl
 ·rename_i hc
  simp only[Some2,false_iff]
  exact fun e=>hc ⟨e.1,e.2.1,e.2.2.1⟩
theorem splice_one:∀{cs:List AV} {p:Nat},p<cs.length→splice cs p [v]=cs.set p v
 |[],p,h=>absurd h (Nat.not_lt_zero _)
 |c::cs,0,h=>by simp[splice]
 | c::cs,p+1,h=>by
  have:=splice_one (cs:=cs) (p:=p) (Nat.lt_of_succ_lt_succ h)
  simp only[splice,List.length_cons,List.length_nil,Nat.zero_add]at this⊢
  simp only[List.take_succ_cons,List.cons_append,List.set_cons_succ,←this]
  rw[show p+1+1=(p+1)+1 from rfl,List.drop_succ_cons]
theorem StoreK.one {t p st:Nat} {cs:List AV} (hg:h.get t=some (.row cs true st)) (hp:p<cs.length) (hy:y.cells=[y]) (ho:y.one=true):
  StoreK 1 (.ptr t p) y h K↔K und (h.put t fun st=> .row (cs.set p y) true st):=by
 simp only[StoreK,hg,hy]
 rw[splice_one hp]
 simp[ho,show p+1≤cs.length by omega]
theorem Hp.push_next {f:Nat→AObj}:(h.push f).next=h.next+1:=rfl
theorem Hp.push_same {f:Nat→AObj}:(h.push f).get h.next=some (f (h.clk+1)):=by rw[Hp.get_push,if_pos rfl]
theorem Hp.put_same {t:Nat} {f:Nat→AObj}:(h.put t f).get t=some (f (h.clk+1)):=by rw[Hp.get_put,if_pos rfl]
theorem Hp.push_other {t:Nat} {f:Nat→AObj} (ht:t≠h.next):(h.push f).get t=h.get t:=by rw[Hp.get_push,if_neg ht]
theorem Hp.put_other {t u:Nat} {f:Nat→AObj} (ht:t≠u):(h.put u f).get t=h.get t:=by rw[Hp.get_put,if_neg ht]
theorem b_add {q:EqK}:binA .add q (.int k m) (.int k n)=some (.int k (k.wrap (m+n))):=by simp[binA,intA,intA1,sameK_eq,addI_eq,mkInt_eq]
theorem b_sub {q:EqK}:binA .sub q (.int k m) (.int k n)=some (.int k (k.wrap (m-n))):=by simp[binA,intA,intA1,sameK_eq,subI_eq,mkInt_eq]
theorem b_mul {q:EqK}:binA .mul q (.int k m) (.int k n)=some (.int k (k.wrap (m*n))):=by simp[binA,intA,intA1,sameK_eq,mulI_eq,mkInt_eq]
theorem b_quo {q:EqK} (hn:n≠0):binA .quo q (.int k m) (.int k n)=some (.int k (k.wrap (m.tdiv n))):=by
 have:(n==0)=false:=beq_eq_false_iff_ne.2 hn
 simp[binA,intA,intA1,sameK_eq,quoI_eq,mkInt_eq,eqI_eq,this]
theorem b_quoP {q:EqK} (hn:0≤m∧0<n):binA .quo q (.int k m) (.int k n)=some (.int k (k.wrap (m/n))):=by
 rw[b_quo (by omega),Int.tdiv_eq_ediv_of_nonneg hn.1]
theorem b_rem {q:EqK} (hn:n≠0):binA .rem q (.int k m) (.int k n)=some (.int k (m.tmod n)):=by
 have:(n==0)=false:=beq_eq_false_iff_ne.2 hn
 simp[binA,intA,intA1,sameK_eq,remI_eq,litI_eq,eqI_eq,this]
theorem b_remP {q:EqK} (hn:0≤m∧0<n):binA .rem q (.int k m) (.int k n)=some (.int k (m%n)):=by
 rw[b_rem (by omega),Int.tmod_eq_emod_of_nonneg hn.1]
theorem b_eql {q:EqK}:binA .eql q (.int k m) (.int k n)=some (.bool (decide (m=n))):=by
 simp only[binA,intA,intA1,sameK_eq,eqI_eq,decide_true]
 by_cases hc:m=n<;>simp[hc]
theorem b_neq {q:EqK}:binA .neq q (.int k m) (.int k n)=some (.bool (decide (¬m=n))):=by
 simp only[binA,intA,intA1,sameK_eq,eqI_eq,decide_true]
 by_cases hc:m=n<;>simp[hc]
theorem b_lss {q:EqK}:binA .lss q (.int k m) (.int k n)=some (.bool (decide (m<n))):=by simp[binA,intA,intA1,sameK_eq,ltI_eq]
theorem b_leq {q:EqK}:binA .leq q (.int k m) (.int k n)=some (.bool (decide (m≤n))):=by simp[binA,intA,intA1,sameK_eq,leI_eq]
theorem b_gtr {q:EqK}:binA .gtr q (.int k m) (.int k n)=some (.bool (decide (n<m))):=by simp[binA,intA,intA1,sameK_eq,ltI_eq]
theorem b_geq {q:EqK}:binA .geq q (.int k m) (.int k n)=some (.bool (decide (n≤m))):=by simp[binA,intA,intA1,sameK_eq,leI_eq]
theorem b_sadd {q:EqK} {l l':List UInt8} (hl:(l.length:Int)+l'.length≤9223372036854775807):binA .add q (.str l) (.str l')=some (.str (l++l')):=by
 have hm:IntKind.i64.max=9223372036854775807:=rfl
 simp only[binA,strA]
 rw[if_neg (by rw[hm];omega)]
theorem b_seql {q:EqK} {l l':List UInt8}:binA .eql q (.str l) (.str l')=some (.bool (decide (l=l'))):=by
 simp only[binA,strA];congr 2;rw[Bool.eq_iff_iff];simp
theorem b_sneq {q:EqK} {l l':List UInt8}:binA .neq q (.str l) (.str l')=some (.bool (decide (¬l=l'))):=by
 simp only[binA,strA];congr 2;rw[Bool.eq_iff_iff];simp
theorem b_inil:binA .eql .iface .nili .nili=some (.bool true):=rfl
theorem u_not {b:Bool}:unA .not (.bool b)=some (.bool (!b)):=rfl
theorem u_neg:unA .neg (.int k n)=some (.int k (k.wrap (-n))):=by simp[unA,subI_eq,mkInt_eq]
theorem wrap_i64 (hn: -9223372036854775808≤n∧n≤9223372036854775807):IntKind.wrap .i64 n=n:=IntWalk.i64_in n hn
theorem wrap_u64 (hn:0≤n∧n≤18446744073709551615):IntKind.wrap .u64 n=n:=IntWalk.u64_in n hn
theorem wrap_u8 (hn:0≤n∧n≤255):IntKind.wrap .u8 n=n:=IntWalk.u8_in n hn
theorem wrap_i32 (hn: -2147483648≤n∧n≤2147483647):IntKind.wrap .i32 n=n:=IntWalk.i32_in n hn
theorem w_mx {xs:List Opd}:OpWp E (.mx xs) s K↔Some2 (o_mx xs (val s.tm) s.hp) K:=OpWp.plain_iff rfl
theorem w_mn {xs:List Opd}:OpWp E (.mn xs) s K↔Some2 (o_mn xs (val s.tm) s.hp) K:=OpWp.plain_iff rfl
theorem w_mx2 {z u:Opd}:OpWp E (.mx [z,u]) s K↔Some1 (max2A (val s.tm z) (val s.tm u)) s.hp K:=by
 rw[w_mx]
 simp only[o_mx,List.map_cons,List.map_nil,foldA]
 cases max2A (val s.tm z) (val s.tm u)<;>exact Iff.rfl
theorem w_mn2 {z u:Opd}:OpWp E (.mn [z,u]) s K↔Some1 (min2A (val s.tm z) (val s.tm u)) s.hp K:=by
 rw[w_mn]
 simp only[o_mn,List.map_cons,List.map_nil,foldA]
 cases min2A (val s.tm z) (val s.tm u)<;>exact Iff.rfl
theorem max2A_int:max2A (.int k m) (.int k n)=some (.int k (max m n)):=by
 simp only[max2A,ltI_eq]
 by_cases hc:m<n
 ·simp[hc,show max m n=n by omega]
 ·simp[hc,show max m n=m by omega]
theorem min2A_int:min2A (.int k m) (.int k n)=some (.int k (min m n)):=by
 simp only[min2A,ltI_eq]
 by_cases hc:n<m
 ·simp[hc,show min m n=n by omega]
 ·simp[hc,show min m n=m by omega]
theorem CallWp.iff_of {f:Nat} {args:List AV} (hc:CallWp E f args h fun v' h''=>v'=v∧h''=h'):CallWp E f args h K↔K v h':=by
 obtain⟨v',h'',hc,rfl,rfl⟩:=hc
 exact CallWp.det hc
theorem cells_int:(AV.int k n).cells=[.int k n]:=rfl
theorem cells_bool {b:Bool}:(AV.bool b).cells=[.bool b]:=rfl
theorem cells_str {l:List UInt8}:(AV.str l).cells=[.str l]:=rfl
theorem cells_ptr {t p:Nat}:(AV.ptr t p).cells=[.ptr t p]:=rfl
theorem cells_sl {t p l z:Nat}:(AV.sl t p l z).cells=[.sl t p l z]:=rfl
theorem cells_nils:AV.nils.cells=[.nils]:=rfl
theorem cells_fn {f:Nat} {l:List AV}:(AV.fn f l).cells=[.fn f l]:=rfl
theorem cells_agg {l:List AV}:(AV.agg l).cells=l:=rfl
theorem one_int:(AV.int k n).one=true:=rfl
theorem one_bool {b:Bool}:(AV.bool b).one=true:=rfl
theorem one_str {l:List UInt8}:(AV.str l).one=true:=rfl
theorem one_ptr {t p:Nat}:(AV.ptr t p).one=true:=rfl
theorem one_sl {t p l z:Nat}:(AV.sl t p l z).one=true:=rfl
theorem one_nils:AV.nils.one=true:=rfl
theorem one_fn {f:Nat} {l:List AV}:(AV.fn f l).one=true:=rfl
end
end Go.Ae
set_option linter.unusedVariables false
set_option linter.unusedSimpArgs false
namespace Go.Ae
def AOp.pure:AOp→Bool
 | .mv _| .pick .. | .build .. | .nilck _| .bin .. | .un .. | .cvi .. | .cvs _| .mkI .. | .mkF .. | .sls .. | .fadr .. | .fld .. | .iadr .. | .iadrA .. | .idxs .. | .ext .. | .len .. | .mx _| .mn _| .sl _ _ none _=>true
 |_=>false
theorem pure_any {a:AOp} (ha:a.pure=true) {ρ:Opd→AV} {h h':Hp} {v:AV} (hr:aop a ρ h=some (v,h')):h'=h∧∀g,aop a ρ g=some (v,g):=by
 cases a
 case sl sz x lo hi=>
  cases lo with
  |some _=>simp[AOp.pure]at ha
  | none=>
   simp only[aop]at hr⊢
   unfold o_sl slA at hr⊢
   simp only[bound,Option.map_none]at hr⊢
   repeat' split at hr
   all_goals first
    |(cases hr;done)
    |(obtain⟨rfl,rfl⟩:=pair_inj hr;refine⟨rfl,fun g=>?_⟩;simp_all;done)
    |(rename_i h1 h2;simp_all;done)
    |(simp_all;done)
 all_goals(simp only[AOp.pure,Bool.false_eq_true]at ha;try simp only[aop]at hr⊢)
 all_goals
  first
  |unfold o_mv at hr⊢|unfold o_pick at hr⊢|unfold o_build at hr⊢|unfold o_nilck at hr⊢|unfold o_bin at hr⊢
  |unfold o_un at hr⊢|unfold o_cvi at hr⊢|unfold o_cvs at hr⊢|unfold o_mkI at hr⊢|unfold o_mkF at hr⊢|unfold o_sls at hr⊢|unfold o_fadr at hr⊢|unfold o_fld at hr⊢|unfold o_iadr at hr⊢
  |unfold o_iadrA at hr⊢|unfold o_idxs at hr⊢|unfold o_ext at hr⊢|unfold o_len at hr⊢|unfold o_mx at hr⊢|unfold o_mn at hr⊢
  repeat' split at hr
  all_goals first
   |(cases hr;done)
   |(obtain⟨rfl,rfl⟩:=pair_inj hr;refine⟨rfl,fun g=>?_⟩;simp_all;done)
def AOper.cls (x:AOper):Nat:=
 match x.op with
 | .alloc _=>1
 | .load .. =>match x.stab with
  |some _=>0
  |none=>2
 | o=>match o.pure with
  |true=>0
  |false=>2
theorem load_any {agg:Bool} {n:Nat} {x:Opd} {s:St} {h':Hp} {v:AV} {t:Nat} (hr:aop (.load agg n x) (val s.tm) s.hp=some (v,h')) (ht:reads s (.load agg n x)=some t):
    h'=s.hp∧∀g,g.get t=s.hp.get t→aop (.load agg n x) (val s.tm) g=some (v,g):=by
  simp only[aop]at hr⊢
  simp only[reads]at ht
  unfold o_load at hr⊢
  repeat' split at hr
  all_goals first
    |(cases hr;done)
    | (obtain⟨rfl,rfl⟩:=pair_inj hr
       refine⟨rfl,fun g hg=>?_⟩
       rename_i hv _ _ _ _ _ _ _ _ _;simp_all;done)
    | (obtain⟨rfl,rfl⟩:=pair_inj hr
       refine⟨rfl,fun g hg=>?_⟩
       simp_all;done)
structure Tr (E:Env) (N i:Nat) (xs:List AOper) (c0:Nat) (ss:Nat→St) (vs:Nat→AV):Prop where
 step:∀j x,xs[j]?=some x→
  (wanted (ss (i+j)).tm x.grd=true∧(∃m,m<N∧opA x.op E (exec E m) (ss (i+j))=some (vs (i+j),(ss (i+j+1)).hp))∧(ss (i+j+1)).tm=put (ss (i+j)).tm x.dst (vs (i+j))∧
   (∀u,x.stab=some u→∃t,reads (ss (i+j)) x.op=some t∧(i+j≤u→u<i+xs.length→old (ss (u+1)).hp c0 t=true)))∨
  (wanted (ss (i+j)).tm x.grd=false∧vs (i+j)=und∧(ss (i+j+1)).hp=(ss (i+j)).hp∧(ss (i+j+1)).tm=put (ss (i+j)).tm x.dst und)
theorem all_spec {h:Hp} {c0 i:Nat} {acc:List (Nat×Nat)} (ha:acc.all (fresh h c0 i)=true) {t:Nat} (ht:(t,i)∈acc):old h c0 t=true:=by
 have:=List.all_eq_true.1 ha _ ht
 simpa[fresh]using this
theorem drun_trace {E:Env}:∀(m:Nat) (xs:List AOper) (i c0:Nat) (acc:List (Nat×Nat)) (s:St) (e:Ex) (s':St),exec E m (.drun xs i c0 acc) s=some (e,s')→
  e= .nrm∧∃ss vs,ss i=s∧ss (i+xs.length)=s'∧Tr E m i xs c0 ss vs∧∀t u,(t,u)∈acc→i≤u→u<i+xs.length→old (ss (u+1)).hp c0 t=true
 |0,_,_,_,_,_,_,_,hr=>by cases hr
 | m+1,[],i,c0,acc,s,e,s',hr=>by
  rw[exec_succ]at hr
  obtain⟨rfl,rfl⟩:=pair_inj (show some (Ex.nrm,s)=some (e,s') from hr)
  exact⟨rfl,fun _=>s,fun _=>und,rfl,rfl,⟨by simp⟩,fun t u _ h1 h2=>by simp at h2;omega⟩
 | m + 1, x :: xs,i,c0,acc,s,e,s',hr=>by
  rw[exec_succ]at hr
  have hr:s_dop x xs i c0 acc E (exec E m) s=some (e,s'):=hr
  unfold s_dop at hr
  split at hr
  ·rename_i hw
   split at hr
   ·rename_i v h hop
    split at hr
    ·rename_i acc' hno
     split at hr
     ·rename_i hall
      obtain⟨he,ss,vs,h1,h2,h3,h4⟩:=drun_trace m xs (i+1) c0 acc' _ e s' hr
      have hsub:∀y∈acc,y∈acc':=by
       unfold noted at hno
       split at hno
       ·obtain rfl:=Option.some.inj hno;exact fun y hy=>hy
       ·split at hno
        ·obtain rfl:=Option.some.inj hno;exact fun y hy=> .tail _ hy
        ·cases hno
      have hold:∀t u,(t,u)∈acc'→i≤u→u<i+(x::xs).length→old (if u+1≤i then s else ss (u+1)).hp c0 t=true:=by
       intro t u hm hiu hul
       rw[if_neg (by omega)]
       by_cases hu:u=i
       ·subst hu;rw[h1];exact all_spec hall hm
       ·exact h4 t u hm (by omega) (by simp only[List.length_cons]at hul;omega)
      refine⟨he,fun k=>if k≤i then s else ss k,fun k=>if k=i then v else vs k,by simp,?_,⟨?_⟩,?_⟩
      ·simp only[List.length_cons];rw[if_neg (by omega),←h2];congr 1;omega
      ·intro j y hy
       cases j with
       | zero=>
        simp only[List.getElem?_cons_zero,Option.some.injEq]at hy
        subst hy
        simp only[Nat.add_zero,Nat.le_refl,if_true,show ¬i+1≤i by omega,if_false,h1]
        refine .inl ⟨hw,⟨m,by omega,hop⟩,trivial,fun u hu=>?_⟩
        unfold noted at hno
        rw[hu]at hno
        simp only at hno
        split at hno
        ·rename_i t ht
         obtain rfl:=Option.some.inj hno
         exact⟨t,ht,fun a b=>hold t u (.head _) a b⟩
        ·cases hno
       | succ j=>
        simp only[List.getElem?_cons_succ]at hy
        have:=h3.step j y hy
        have e1:i+(j+1)=i+1+j:=by omega
        rw[e1,if_neg (by omega),if_neg (by omega),if_neg (by omega)]
        rcases this with⟨a1,⟨m',a2,a2'⟩,a3,a4⟩|a
        ·refine .inl ⟨a1,⟨m',by omega,a2'⟩,a3,fun u hu=>?_⟩
         obtain⟨t,b1,b2⟩:=a4 u hu
         refine⟨t,b1,fun c d=>?_⟩
         rw[if_neg (by omega)]
         exact b2 c (by simp only[List.length_cons]at d;omega)
        ·exact .inr a
      ·intro t u hm a b
       exact hold t u (hsub _ hm) a b
     ·cases hr
    ·cases hr
   ·cases hr
  ·rename_i hw
   split at hr
   ·rename_i hall
    obtain⟨he,ss,vs,h1,h2,h3,h4⟩:=drun_trace m xs (i+1) c0 acc _ e s' hr
    have hold:∀t u,(t,u)∈acc→i≤u→u<i+(x::xs).length→old (if u+1≤i then s else ss (u+1)).hp c0 t=true:=by
     intro t u hm hiu hul
     rw[if_neg (by omega)]
     by_cases hu:u=i
     ·subst hu;rw[h1];exact all_spec hall hm
     ·exact h4 t u hm (by omega) (by simp only[List.length_cons]at hul;omega)
    refine⟨he,fun k=>if k≤i then s else ss k,fun k=>if k=i then und else vs k,by simp,?_,⟨?_⟩,hold⟩
    ·simp only[List.length_cons];rw[if_neg (by omega),←h2];congr 1;omega
    ·intro j y hy
     cases j with
     | zero=>
      simp only[List.getElem?_cons_zero,Option.some.injEq]at hy
      subst hy
      simp only[Nat.add_zero,Nat.le_refl,if_true,show ¬i+1≤i by omega,if_false,h1]
      exact .inr ⟨hw,trivial,trivial,trivial⟩
     | succ j=>
      simp only[List.getElem?_cons_succ]at hy
      have:=h3.step j y hy
      have e1:i+(j+1)=i+1+j:=by omega
      rw[e1,if_neg (by omega),if_neg (by omega),if_neg (by omega)]
      rcases this with⟨a1,⟨m',a2,a2'⟩,a3,a4⟩|a
      ·refine .inl ⟨a1,⟨m',by omega,a2'⟩,a3,fun u hu=>?_⟩
       obtain⟨t,b1,b2⟩:=a4 u hu
       refine⟨t,b1,fun c d=>?_⟩
       rw[if_neg (by omega)]
       exact b2 c (by simp only[List.length_cons]at d;omega)
      ·exact .inr a
   ·cases hr
end Go.Ae
set_option linter.unusedVariables false
set_option linter.unusedSimpArgs false
namespace Go.Ae
structure Stat (P:Program) (nt:Nat) (ops:Array Oper) (asx:List AOper) (anc:Nat→Nat→Prop) (names:Nat→List Nat):Prop where
 size:asx.length=ops.size
 cops:∀(k:Nat) (o:Oper) (x:AOper),ops[k]?=some o→asx[k]?=some x→COp P nt ops o x
 back:∀(k:Nat) (o:Oper),ops[k]?=some o→∀e∈o.after,Region.binds .any e=true→e.on<k
 ancs:∀(S:Nat→Prop),(∀j,S j→∀i,anc j i→S i)→∀(k:Nat) (o:Oper),ops[k]?=some o→(∀e∈o.after,Region.binds .any e=true→S e.on)→∀i,anc k i→S i
 chain:∀(j k:Nat) (x y:AOper),j<k→asx[j]?=some x→asx[k]?=some y→x.cls=2→y.cls=2→anc k j
 alloc1:∀(j k:Nat) (x y:AOper),j<k→asx[j]?=some x→asx[k]?=some y→x.cls=1→y.cls≠1→anc k j
 alloc2:∀(j i k:Nat) (x z y:AOper),j<i→i<k→asx[j]?=some x→asx[i]?=some z→asx[k]?=some y→x.cls=2→z.cls=1→y.cls=0→anc k j
 slot:∀(j k:Nat) (x y:AOper),j<k→asx[j]?=some x→asx[k]?=some y→¬anc k j→(∀d,x.dst=some d→d∉names k)∧(∀d,y.dst=some d→d∉names j)
 uniq:∀(j k:Nat) (x y:AOper) (d:Nat),asx[j]?=some x→asx[k]?=some y→x.dst=some d→y.dst=some d→j=k
 nms:∀(k:Nat) (o:Oper) (x:AOper),ops[k]?=some o→asx[k]?=some x→(∀t,.tmp t∈o.op.operands→t∈names k)∧(∀t,.t t∈x.op.opds→t∈names k)∧(∀d b,x.grd=some (d,b)→d∈names k)
 agrd:∀(k:Nat) (x:AOper),asx[k]?=some x→x.cls=1→x.grd=none∧names k=[]
 stab:∀(k:Nat) (x:AOper) (u:Nat),asx[k]?=some x→x.cls=0→x.stab=some u→k≤u∧u<asx.length∧∀(j:Nat) (y:AOper),asx[j]?=some y→k<j→y.cls=2→¬anc j k→j≤u
theorem cop_nosel {P:Program} {o:Oper} {a:AOp} (h:cop P o=some a):∀cs b,o.op≠ .select cs b:=by
 intro cs b e
 unfold cop at h
 rw[e]at h
 simp at h
theorem cls_le (x:AOper):x.cls=0∨x.cls=1∨x.cls=2:=by
 unfold AOper.cls;repeat' split
 all_goals simp
theorem cls_one {x:AOper} (h:x.cls=1):∃z,x.op= .alloc z:=by
 unfold AOper.cls at h
 repeat' split at h
 all_goals first|exact⟨_,by assumption⟩|cases h
theorem cls_zero {x:AOper} (h:x.cls=0):x.op.calls=false∧(x.op.pure=true∨∃a n y u,x.op= .load a n y∧x.stab=some u):=by
 obtain⟨dst,op,grd,stab⟩:=x
 cases op
 case load a n y=>
  cases stab with
  |none=>simp[AOper.cls]at h
  |some u=>exact⟨rfl,.inr ⟨a,n,y,u,rfl,rfl⟩⟩
 case sl sz y lo hi=>
  cases lo with
  |none=>exact⟨rfl,.inl rfl⟩
  |some l=>simp[AOper.cls,AOp.pure]at h
 all_goals first
  |exact⟨rfl,.inl rfl⟩
  |(simp[AOper.cls,AOp.pure]at h;done)
def NA (P:Program) (o:Option AOp):Prop:=∀z,o=some (.alloc z)→∃e,czero P e=some z
theorem na_bind {P:Program} {α:Type} {x:Option α} {f:α→Option AOp} (h:∀y,x=some y→NA P (f y)):NA P (x.bind f):=fun a e=>by
 obtain⟨y,hx,hy⟩:=bind_some e
 exact h y hx a hy
theorem na_some {P:Program} {a:AOp} (h:∀z,a≠ .alloc z):NA P (some a):=fun z e=>absurd (Option.some.inj e) (h z)
theorem na_none {P:Program}:NA P none:=nofun
theorem na_op {P:Program} {o:Oper}:NA P (cop P o):=by
 obtain⟨dst,op,ty,pos,af,gd⟩:=o
 cases op
 case alloc e=>
  intro z hz
  simp only[cop]at hz
  obtain⟨y,hy,hz⟩:=bind_some hz
  simp only[Option.some.injEq,AOp.alloc.injEq]at hz
  subst hz;exact⟨e,hy⟩
 case call c=>
  obtain⟨callee,args,ats⟩:=c
  cases callee
  case value f=>cases f<;>simp only[cop]<;>repeat' (first|exact na_none|exact na_some (fun _=>nofun)|(apply na_bind;intro _ _)|split)
  case invoke x n=>simp only[cop]<;>repeat' (first|exact na_none|exact na_some (fun _=>nofun)|(apply na_bind;intro _ _)|split)
  case builtin b=>cases b<;>simp only[cop]<;>repeat' (first|exact na_none|exact na_some (fun _=>nofun)|(apply na_bind;intro _ _)|split)
 case makeFunc f first cs=>cases f<;>simp only[cop]<;>repeat' (first|exact na_none|exact na_some (fun _=>nofun)|(apply na_bind;intro _ _)|split)
 case makeMap t r=>cases r<;>simp only[cop]<;>repeat' (first|exact na_none|exact na_some (fun _=>nofun)|(apply na_bind;intro _ _)|split)
 case slice t x lo hi m=>cases m<;>simp only[cop]<;>repeat' (first|exact na_none|exact na_some (fun _=>nofun)|(apply na_bind;intro _ _)|split)
 case next x b=>cases b<;>simp only[cop]<;>repeat' (first|exact na_none|exact na_some (fun _=>nofun)|(apply na_bind;intro _ _)|split)
 all_goals simp only[cop]<;>repeat' (first|exact na_none|exact na_some (fun _=>nofun)|(apply na_bind;intro _ _)|split)
theorem alloc_closed {P:Program} {o:Oper} {z:List AV} (h:cop P o=some (.alloc z)):∃vs:List Value,∀(ρ:Rho) (N:Nat),encs ρ z=vs∧oks ρ N z∧∀v∈z,v.one=true:=by
 obtain⟨e,he⟩:=na_op z h
 obtain⟨i,zv,h1,h2,h3⟩:=zero_of he
 exact⟨_,fun ρ N=>cvals_enc h3 ρ N⟩
section
variable {P:Program} {base nt N:Nat} {E:Env} {ops:Array Oper} {asx:List AOper} {anc:Nat→Nat→Prop} {names:Nat→List Nat} {ss:Nat→St} {vs:Nat→AV} {ρ0 ρ ρ':Rho} {a0 a:Act} {w0 w w':World}
variable {c0:Nat}
theorem Tr.at (T:Tr E N 0 asx c0 ss vs) {k:Nat} {x:AOper} (hx:asx[k]?=some x):
  (wanted (ss k).tm x.grd=true∧(∃m,m<N∧opA x.op E (exec E m) (ss k)=some (vs k,(ss (k+1)).hp))∧(ss (k+1)).tm=put (ss k).tm x.dst (vs k)∧
   (∀u,x.stab=some u→∃t,reads (ss k) x.op=some t∧(k≤u→u<asx.length→old (ss (u+1)).hp c0 t=true)))∨
  (wanted (ss k).tm x.grd=false∧vs k=und∧(ss (k+1)).hp=(ss k).hp∧(ss (k+1)).tm=put (ss k).tm x.dst (vs k)):=by
 have:=T.step k x hx
 simp only[Nat.zero_add]at this
 rcases this with h|⟨h1,h2,h3,h4⟩
 ·exact .inl h
 ·exact .inr ⟨h1,h2,h3,by rw[h2];exact h4⟩
theorem Tr.tm (T:Tr E N 0 asx c0 ss vs) {k:Nat} {x:AOper} (hx:asx[k]?=some x):(ss (k+1)).tm=put (ss k).tm x.dst (vs k):=by
 rcases T.at hx with h|h
 ·exact h.2.2.1
 ·exact h.2.2.2
theorem get_lt {k:Nat} (h:k<asx.length):∃x,asx[k]?=some x:=⟨asx[k],List.getElem?_eq_getElem h⟩
theorem Tr.later (PL:PrimsLater E) (T:Tr E N 0 asx c0 ss vs) (j:Nat):∀d,j+d≤asx.length→Later (ss j).hp (ss (j+d)).hp
 |0,_=>Later.refl _
 | d+1,h=>by
  refine(T.later PL j d (by omega)).trans ?_
  obtain⟨x,hx⟩:=get_lt (asx:=asx) (k:=j+d) (by omega)
  rcases T.at hx with⟨_,⟨m,_,ho⟩,_⟩|⟨_,_,he,_⟩
  ·exact opA_later PL (exec_later PL m) ho
  ·rw[←Nat.add_assoc,he];exact Later.refl _
theorem Tr.later' (PL:PrimsLater E) (T:Tr E N 0 asx c0 ss vs) {j k:Nat} (h:j≤k) (hk:k≤asx.length):Later (ss j).hp (ss k).hp:=by
 have:=T.later PL j (k-j) (by omega)
 rwa[show j+(k-j)=k by omega]at this
theorem Tr.same (T:Tr E N 0 asx c0 ss vs) {d:Nat} {j:Nat}:∀k,j≤k→k≤asx.length→(∀i x,j≤i→i<k→asx[i]?=some x→x.dst≠some d)→val (ss k).tm (.t d)=val (ss j).tm (.t d)
 |0,h,_,_=>by rw[show j=0 by omega]
 | k +1,h,hk,hn=>by
  by_cases e:j=k+1
  ·rw[e]
  ·obtain⟨x,hx⟩:=get_lt (asx:=asx) (k:=k) (by omega)
   rw[T.tm hx,val_put,if_neg (hn k x (by omega) (by omega) hx)]
   exact T.same k (by omega) (by omega) (fun i x h1 h2=>hn i x h1 (by omega))
theorem Tr.wrote (ST:Stat P nt ops asx anc names) (T:Tr E N 0 asx c0 ss vs) {d j k:Nat} {x:AOper} (hx:asx[j]?=some x) (hd:x.dst=some d) (h:j<k) (hk:k≤asx.length):val (ss k).tm (.t d)=vs j:=by
 rw[T.same (j:=j+1) k (by omega) hk (fun i y h1 h2 hy e=>by have:=ST.uniq i j y x d hy hx e hd;omega),T.tm hx,val_put,if_pos hd]
theorem Tr.still (T:Tr E N 0 asx c0 ss vs) {k:Nat} {x:AOper} (hx:asx[k]?=some x) (hc:x.cls=0):(ss (k+1)).hp=(ss k).hp:=by
 rcases T.at hx with⟨_,⟨m,_,ho⟩,_,hs⟩|⟨_,_,he,_⟩
 ·obtain⟨h1,h2⟩:=cls_zero hc
  have:opA x.op E (exec E m) (ss k)=aop x.op (val (ss k).tm) (ss k).hp:=by cases hh:x.op<;>rw[hh]at h1<;>first|(simp[AOp.calls]at h1;done)|rfl
  rw[this]at ho
  rcases h2 with h2|⟨ag,n,y,u,h3,h4⟩
  ·exact(pure_any h2 ho).1
  ·obtain⟨t,ht,_⟩:=hs u h4
   rw[h3]at ho ht
   exact(load_any ho ht).1
 ·exact he
theorem Tr.born (T:Tr E N 0 asx c0 ss vs) {k:Nat} {x:AOper} {z:List AV} (hx:asx[k]?=some x) (hz:x.op= .alloc z):(wanted (ss k).tm x.grd=true∧vs k= .ptr (ss k).hp.next 0∧(ss (k+1)).hp=(ss k).hp.push fun s=> .row z true s)∨(wanted (ss k).tm x.grd=false∧vs k=und∧(ss (k+1)).hp=(ss k).hp):=by
 rcases T.at hx with⟨h1,⟨m,_,ho⟩,_⟩|⟨h1,h2,he,_⟩
 ·rw[hz]at ho
  have ho:o_alloc z (val (ss k).tm) (ss k).hp=some (vs k,(ss (k+1)).hp):=ho
  unfold o_alloc at ho
  obtain⟨e1,e2⟩:=pair_inj ho
  exact .inl ⟨h1,e1.symm,e2.symm⟩
 ·exact .inr ⟨h1,h2,he⟩
end
end Go.Ae
set_option linter.unusedVariables false
set_option linter.unusedSimpArgs false
namespace Go.Ae
section
variable {P:Program} {base nt N:Nat} {E:Env} {ops:Array Oper} {asx:List AOper} {anc:Nat→Nat→Prop} {names:Nat→List Nat} {ss:Nat→St} {vs:Nat→AV} {ρ0 ρ ρ':Rho} {a0 a:Act} {W0 w0 w w':World} {h:Hp}
variable {c0:Nat}
theorem HRel.pop {o:Nat→AObj} (R':HRel base ρ' (h.push o) w') (R:HRel base ρ h w) (ha:Agree h.next ρ ρ'):HRel base ρ h w':=by
 have g:∀t ob,h.get t=some ob→(h.push o).get t=some ob∧ρ' t=ρ t:=fun t ob ht=>by
  have:=R.lt t ob ht
  exact⟨by rw[Hp.get_push,if_neg (by omega)];exact ht,ha t this⟩
 refine⟨R'.size,R.lt,?_,?_,?_,?_⟩
 ·intro t cs own st ht
  obtain⟨h1,h2⟩:=g t _ ht
  have r:=R.row t cs own st ht
  have r':=R'.row t cs own st h1
  refine⟨r.one,r.ok,?_,?_,?_⟩
  ·have:=r'.cells;rw[h2,encs_agree ha _ r.ok]at this;exact this
  ·have:=r'.own1;rw[h2]at this;exact this
  ·have:=r'.not1;rw[h2]at this;exact this
 ·intro t s p st ht
  obtain⟨h1,h2⟩:=g t _ ht
  have:=R'.iter t s p st h1;rwa[h2]at this
 ·intro t es st ht
  obtain⟨h1,h2⟩:=g t _ ht
  obtain⟨q1,q2,q3⟩:=R.map t es st ht
  obtain⟨r1,r2,ms,c,r3,r4⟩:=R'.map t es st h1
  rw[h2]at r1 r3
  exact⟨r1,q2,ms,c,r3,r4.trans (List.map_congr_left fun e he=>by rw[enc_agree ha _ (q2 e he).2.1,enc_agree ha _ (q2 e he).2.2])⟩
 ·intro t t' ob ob' ht ht' p p' hne
  obtain⟨h1,h2⟩:=g t _ ht
  obtain⟨h3,h4⟩:=g t' _ ht'
  have:=R'.apart t t' ob ob' h1 h3 p p' hne
  rwa[h2,h4]at this
theorem HRel.adopt (R:HRel base ρ h w) (cs:List AV) (b o:Nat) (h1:∀v∈cs,v.one=true) (h2:oks ρ h.next cs) (hb:base≤b∧b<w.heap.size) (hc:w.rangeAt b o (encs ρ cs)) (hth:w.there b o cs.length)
  (hne:∀t ob,h.get t=some ob→ob.owned=true→(ρ t).b≠b):HRel base (upd ρ h.next ⟨b,o,0,0⟩) (h.push fun s=> .row cs true s) w:=by
 have ha:Agree h.next ρ (upd ρ h.next ⟨b,o,0,0⟩):=upd_agree _ _ _
 have hold:∀t ob,h.get t=some ob→t<h.next∧upd ρ h.next ⟨b,o,0,0⟩ t=ρ t:=fun t ob ht=>⟨R.lt t ob ht,ha t (R.lt t ob ht)⟩
 refine⟨R.size,?_,?_,?_,?_,?_⟩
 ·intro t ob ht
  rw[Hp.get_push]at ht
  show t<h.next+1
  split at ht
  ·omega
  ·have:=R.lt t ob ht;omega
 ·intro t cs' own st ht
  rw[Hp.get_push]at ht
  split at ht
  ·rename_i e;subst e
   obtain⟨rfl,rfl,rfl⟩:cs'=cs∧own=true∧st=h.clk+1:=by simpa[eq_comm]using ht
   refine⟨h1,oks_agree ha (Nat.le_succ _) _ h2,?_,?_,by simp⟩
   ·rw[upd_same,encs_agree ha _ h2];exact hc
   ·intro _;rw[upd_same];exact⟨hb.1,hb.2,hth,fun j hj=>by simp at hj⟩
  ·have r:=R.row t cs' own st ht
   exact r.later ha (Nat.le_succ _) (R.lt _ _ ht) (Nat.le_refl _) (by cases own with
    |true=>exact .inr rfl
    |false=>exact .inr rfl)
 ·intro t s p st ht
  rw[Hp.get_push]at ht
  split at ht
  ·cases ht
  ·rw[(hold t _ ht).2];exact R.iter t s p st ht
 ·intro t es st ht
  rw[Hp.get_push]at ht
  split at ht
  ·cases ht
  ·obtain⟨r1,r2,ms,c,r3,r4⟩:=R.map t es st ht
   rw[(hold t _ ht).2]
   exact⟨r1,fun e he=>⟨(r2 e he).1,ok_agree ha (Nat.le_succ _) _ (r2 e he).2.1,ok_agree ha (Nat.le_succ _) _ (r2 e he).2.2⟩,ms,c,r3,
    r4.trans (List.map_congr_left fun e he=>by rw[enc_agree ha _ (r2 e he).2.1,enc_agree ha _ (r2 e he).2.2])⟩
 ·intro t t' ob ob' ht ht' p p' hneq
  rw[Hp.get_push]at ht ht'
  split at ht<;>split at ht'
  ·omega
  ·rename_i e _;subst e
   rw[upd_same,(hold t' _ ht').2];exact fun e=>hne t' ob' ht' p' e.symm
  ·rename_i _ e;subst e
   rw[upd_same,(hold t _ ht).2];exact hne t ob ht p
  ·rw[(hold t _ ht).2,(hold t' _ ht').2];exact R.apart t t' ob ob' ht ht' p p' hneq
structure Early (base:Nat) (asx:List AOper) (ss:Nat→St) (w0:World) (f:Nat) (ρ:Rho) (a:Act) (w:World) (pl:Nat→Nat×Nat) (k:Nat) (x:AOper) (z:List AV):Prop where
 slot:∀d,x.dst=some d→a.tmps.getD d undef= .pointer (some ⟨(pl k).1,(pl k).2,none⟩)
 cells:w.rangeAt (pl k).1 (pl k).2 (encs ρ z)
 there:w.there (pl k).1 (pl k).2 z.length
 lo:w0.heap.size≤(pl k).1
 lt:(pl k).1<w.heap.size
 apart:∀t ob,(ss f).hp.get t=some ob→ob.owned=true→(ρ t).b≠(pl k).1
structure DInv (P:Program) (base nt:Nat) (ops:Array Oper) (asx:List AOper) (anc:Nat→Nat→Prop) (ss:Nat→St) (vs:Nat→AV) (ρ0:Rho) (a0:Act) (w0:World) (S:Nat→Prop) (f:Nat) (ρ:Rho) (a:Act) (w:World) (pl:Nat→Nat×Nat):Prop where
 fle:f≤asx.length
 ancs:∀j,S j→∀i,anc j i→S i
 chain:∀(k:Nat) (x:AOper),asx[k]?=some x→x.cls=2→(S k↔k<f)
 alloc:∀(k:Nat) (x:AOper),asx[k]?=some x→x.cls=1→k<f→S k
 ext:Ext base ρ0 (ss 0).hp w0 ρ (ss f).hp w
 defers:a.defers=[]
 size:nt≤a.tmps.size
 done:∀(k:Nat) (x:AOper),asx[k]?=some x→S k→(x.cls≠1∨k<f)→ok ρ (ss f).hp.next (vs k)∧∀d,x.dst=some d→a.tmps.getD d undef=enc ρ (vs k)
 early:∀(k:Nat) (x:AOper) (z:List AV),asx[k]?=some x→S k→x.op= .alloc z→f≤k→Early base asx ss w0 f ρ a w pl k x z
 pls:∀(k k':Nat) (x x':AOper),asx[k]?=some x→asx[k']?=some x'→S k→S k'→x.cls=1→x'.cls=1→f≤k→f≤k'→k≠k'→(pl k).1≠(pl k').1
 undone:∀d,(∀(k:Nat) (x:AOper),asx[k]?=some x→x.dst=some d→¬S k)→a.tmps.getD d undef=a0.tmps.getD d undef
variable {S:Nat→Prop} {f:Nat} {pl:Nat→Nat×Nat}
theorem DInv.advance (ST:Stat P nt ops asx anc names) (T:Tr E N 0 asx c0 ss vs) (CP:∀(k:Nat) (x:AOper) (z:List AV),asx[k]?=some x→x.op= .alloc z→∃vs:List Value,∀(ρ:Rho) (N:Nat),encs ρ z=vs∧oks ρ N z∧∀v∈z,v.one=true)
  (D:DInv P base nt ops asx anc ss vs ρ0 a0 w0 S f ρ a w pl) (hw0:base≤w0.heap.size) {x:AOper} (hx:asx[f]?=some x) (h2:x.cls≠2) (h1:x.cls=1→S f):
  ∃ρ',DInv P base nt ops asx anc ss vs ρ0 a0 w0 S (f+1) ρ' a w pl:=by
 have hlt:f<asx.length:=(List.getElem?_eq_some_iff.1 hx).1
 have hchain:∀(k:Nat) (y:AOper),asx[k]?=some y→y.cls=2→(S k↔k<f+1):=fun k y hy hc=>by
  rw[D.chain k y hy hc]
  constructor
  ·omega
  ·intro hk
   rcases Nat.lt_or_ge k f with c|c
   ·exact c
   ·obtain rfl:k=f:=by omega
    rw[hx]at hy;obtain rfl:=Option.some.inj hy;exact absurd hc h2
 have halloc:∀(k:Nat) (y:AOper),asx[k]?=some y→y.cls=1→k<f+1→S k:=fun k y hy hc hk=>by
  rcases Nat.lt_or_ge k f with c|c
  ·exact D.alloc k y hy hc c
  ·obtain rfl:k=f:=by omega
   rw[hx]at hy;obtain rfl:=Option.some.inj hy;exact h1 hc
 have stay:(ss (f+1)).hp=(ss f).hp→x.cls=0→∃ρ',DInv P base nt ops asx anc ss vs ρ0 a0 w0 S (f+1) ρ' a w pl:=by
  intro he hc0
  refine⟨ρ,by omega,D.ancs,hchain,halloc,by rw[he];exact D.ext,D.defers,D.size,?_,?_,?_,D.undone⟩
  ·intro k y hy hS hk
   rw[he]
   refine D.done k y hy hS ?_
   rcases hk with c|c
   ·exact .inl c
   ·rcases Nat.lt_or_ge k f with c'|c'
    ·exact .inr c'
    ·obtain rfl:k=f:=by omega
     rw[hx]at hy;obtain rfl:=Option.some.inj hy;exact .inl (by omega)
  ·intro k y z hy hS hz hk
   have:=D.early k y z hy hS hz (by omega)
   exact⟨this.slot,this.cells,this.there,this.lo,this.lt,by rw[he];exact this.apart⟩
  ·intro k k' y y' hy hy' hS hS' hc hc' hk hk' hne
   exact D.pls k k' y y' hy hy' hS hS' hc hc' (by omega) (by omega) hne
 rcases cls_le x with c|c|c
 ·exact stay (T.still hx c) c
 ·obtain⟨z,hz⟩:=cls_one c
  have hwt:wanted (ss f).tm x.grd=true:=by rw[(ST.agrd f x hx c).1];rfl
  rcases T.born hx hz with⟨_,hv,he⟩|⟨hn,_⟩
  ·obtain⟨vz,hvz⟩:=CP f x z hx hz
   have ea:=D.early f x z hx (h1 c) hz (Nat.le_refl _)
   have ha:Agree (ss f).hp.next ρ (upd ρ (ss f).hp.next ⟨(pl f).1,(pl f).2,0,0⟩):=upd_agree _ _ _
   have R:=D.ext.rel.adopt z (pl f).1 (pl f).2 (hvz ρ 0).2.2 (hvz ρ _).2.1 ⟨Nat.le_trans hw0 ea.lo,ea.lt⟩ ea.cells ea.there ea.apart
   have hnx:(ss (f+1)).hp.next=(ss f).hp.next+1:=by rw[he];rfl
   refine⟨_,by omega,D.ancs,hchain,halloc,⟨D.ext.agree.trans ha D.ext.next,by rw[hnx];have:=D.ext.next;omega,by rw[he];exact R,D.ext.keep,?_⟩,D.defers,D.size,?_,?_,?_,D.undone⟩
   ·intro t ob ht ho
    rw[he,Hp.get_push]at ht
    split at ht
    ·rename_i e;subst e;rw[upd_same];exact .inl ea.lo
    ·rw[ha t (D.ext.rel.lt t ob ht)];exact D.ext.fresh t ob ht ho
   ·intro k y hy hS hk
    by_cases hkf:k=f
    ·subst hkf
     rw[hx]at hy;obtain rfl:=Option.some.inj hy
     rw[hv]
     refine⟨by simp only[ok];omega,fun d hd=>?_⟩
     rw[ea.slot d hd];simp[enc,upd_same]
    ·obtain⟨d1,d2⟩:=D.done k y hy hS (by rcases hk with c|c;exact .inl c;exact .inr (by omega))
     exact⟨ok_agree ha (by omega) _ d1,fun d hd=>by rw[enc_agree ha _ d1];exact d2 d hd⟩
   ·intro k y z' hy hS hz' hk
    have q:=D.early k y z' hy hS hz' (by omega)
    obtain⟨vz',hvz'⟩:=CP k y z' hy hz'
    refine⟨q.slot,by rw[(hvz' _ 0).1,←(hvz' ρ 0).1];exact q.cells,q.there,q.lo,q.lt,?_⟩
    intro t ob ht ho
    rw[he,Hp.get_push]at ht
    split at ht
    ·rename_i e;subst e;rw[upd_same]
     have hc':y.cls=1:=by unfold AOper.cls;rw[hz']
     exact D.pls f k x y hx hy (h1 c) hS c hc' (Nat.le_refl _) (by omega) (by omega)
    ·rw[ha t (D.ext.rel.lt t ob ht)];exact q.apart t ob ht ho
   ·intro k k' y y' hy hy' hS hS' hc hc' hk hk' hne
    exact D.pls k k' y y' hy hy' hS hS' hc hc' (by omega) (by omega) hne
  ·rw[hwt]at hn;cases hn
 ·exact absurd c h2
theorem DInv.slots (ST:Stat P nt ops asx anc names) (T:Tr E N 0 asx c0 ss vs) (S0:Sim W0 base nt ρ0 (ss 0) a0 w0) (D:DInv P base nt ops asx anc ss vs ρ0 a0 w0 S f ρ a w pl) {i:Nat} {x:AOper} (hx:asx[i]?=some x) (hn:¬S i)
  (ha:∀j,anc i j→S j) (hal:∀(k:Nat) (y:AOper),asx[k]?=some y→y.cls=1→k<i→k<f) {d:Nat} (hd:d∈names i):
  a.tmps.getD d undef=enc ρ (val (ss i).tm (.t d))∧ok ρ (ss f).hp.next (val (ss i).tm (.t d)):=by
 have hlt:i<asx.length:=(List.getElem?_eq_some_iff.1 hx).1
 have und:(∀(k:Nat) (y:AOper),asx[k]?=some y→y.dst=some d→¬S k)→(∀(k:Nat) (y:AOper),0≤k→k<i→asx[k]?=some y→y.dst≠some d)→a.tmps.getD d undef=enc ρ (val (ss i).tm (.t d))∧ok ρ (ss f).hp.next (val (ss i).tm (.t d)):=by
  intro h1 h2
  obtain⟨q1,q2⟩:=S0.tmp d
  rw[D.undone d h1,T.same i (Nat.zero_le _) (by omega) h2,q1]
  exact⟨(enc_agree D.ext.agree _ q2).symm,ok_agree D.ext.agree D.ext.next _ q2⟩
 by_cases hw:∃(k:Nat) (y:AOper),asx[k]?=some y∧y.dst=some d
 ·obtain⟨k,y,hy,hyd⟩:=hw
  rcases Nat.lt_trichotomy k i with c|c|c
  ·have hak:anc i k:=Classical.byContradiction fun hna=>(ST.slot k i y x c hy hx hna).1 d hyd hd
   have hSk:=ha k hak
   obtain⟨d1,d2⟩:=D.done k y hy hSk (by
    by_cases hc:y.cls=1
    ·exact .inr (hal k y hy hc c)
    ·exact .inl hc)
   rw[T.wrote ST hy hyd c (by omega)]
   exact⟨d2 d hyd,d1⟩
  ·subst c
   refine und (fun k' y' hy' hd' hS'=>?_) (fun k' y' _ hk' hy' hd'=>?_)
   ·have:=ST.uniq k' k y' y d hy' hy hd' hyd;subst this;exact hn hS'
   ·have:=ST.uniq k' k y' y d hy' hy hd' hyd;omega
  ·have hSk:¬S k:=fun hS=>by
    have hak:anc k i:=Classical.byContradiction fun hna=>(ST.slot i k x y c hx hy hna).2 d hyd hd
    exact hn (D.ancs k hS i hak)
   refine und (fun k' y' hy' hd' hS'=>?_) (fun k' y' _ hk' hy' hd'=>?_)
   ·have:=ST.uniq k' k y' y d hy' hy hd' hyd;subst this;exact hSk hS'
   ·have:=ST.uniq k' k y' y d hy' hy hd' hyd;omega
 ·exact und (fun k y hy hd'=>absurd ⟨k,y,hy,hd'⟩ hw) (fun k y _ _ hy hd'=>absurd ⟨k,y,hy,hd'⟩ hw)
theorem get_foldl (g:Nat→AV):∀(l:List Nat) (t:Ae.T AV) (k:Nat),(l.foldl (fun t d=>t.set d (g d)) t).get k=if k∈l then some (g k)else t.get k
 |[],t,k=>by simp
 | d ::l,t,k=>by
  rw[List.foldl_cons,get_foldl g l,Ae.T.get_set]
  by_cases h:k∈l
  ·simp[h]
  ·by_cases h':k=d
   ·simp[h']
   ·simp[h,h']
noncomputable def slotsOf (names:List Nat) (tm:Ae.T AV):Ae.T AV:=names.foldl (fun t d=>t.set d (val tm (.t d))) .nil
theorem evals_of {names:List Nat} {tm:Ae.T AV} {n:Nat} (hs:∀d∈names,a.tmps.getD d undef=enc ρ (val tm (.t d))∧ok ρ n (val tm (.t d))):
  ∃(ev:Operand→Value) (tm':Ae.T AV),Evals ρ n ev tm'∧(∀x,(∀t,x= .tmp t→t∈names)→a.eval x=ev x)∧∀y,(∀t,y= .t t→t∈names)→val tm y=val tm' y:=by
 have hv:∀t,val (slotsOf names tm) (.t t)=if t∈names then val tm (.t t)else und:=by
  intro t
  show((slotsOf names tm).get t).getD und=_
  unfold slotsOf
  rw[get_foldl]
  split<;>rfl
 refine⟨fun x=>match copd x with|some y=>enc ρ (val (slotsOf names tm) y)|none=>a.eval x,slotsOf names tm,?_,?_,?_⟩
 ·intro x y hx
  refine⟨by simp only[hx],?_⟩
  rcases copd_cases hx with⟨t,rfl,rfl⟩|hh
  ·rw[hv]
   split
   ·exact(hs t (by assumption)).2
   ·trivial
  ·exact(hh a ρ n _).2.1
 ·intro x hx
  show a.eval x=match copd x with|some y=>_|none=>_
  cases hc:copd x with
  |none=>rfl
  | some y=>
   rcases copd_cases hc with⟨t,rfl,rfl⟩|hh
   ·simp only[hv,if_pos (hx t rfl)]
    exact(hs t (hx t rfl)).1
   ·exact(hh a ρ n _).1
 ·intro y hy
  cases y with
  |t t=>rw[hv,if_pos (hy t rfl)]
  |k v=>rfl
theorem DInv.exec (ST:Stat P nt ops asx anc names) (CP:∀(k:Nat) (x:AOper) (z:List AV),asx[k]?=some x→x.op= .alloc z→∃vs:List Value,∀(ρ:Rho) (N:Nat),encs ρ z=vs∧oks ρ N z∧∀v∈z,v.one=true)
  (D:DInv P base nt ops asx anc ss vs ρ0 a0 w0 S f ρ a w pl) {i:Nat} {x:AOper} (hx:asx[i]?=some x) (hn:¬S i)
  (ha:∀j,anc i j→S j) (hlt:∀d,x.dst=some d→d<nt) {f':Nat} (hf:(x.cls=0∧f'=f)∨(x.cls=2∧f=i∧f'=i+1)) {h':Hp} (hh:(ss f').hp=h') (X:Ext base ρ (ss f).hp w ρ' h' w') (hv:ok ρ' h'.next (vs i)):
  DInv P base nt ops asx anc ss vs ρ0 a0 w0 (fun j=>S j∨j=i) f' ρ' (a.put x.dst (enc ρ' (vs i))) w' pl:=by
 subst hh
 have hi:i<asx.length:=(List.getElem?_eq_some_iff.1 hx).1
 have hxx:∀y,asx[i]?=some y→y=x:=fun y hy=>by rw[hx]at hy;exact(Option.some.inj hy).symm
 have hff:f≤f':=by rcases hf with⟨_,c⟩|⟨_,c,d⟩<;>omega
 have hc1:x.cls≠1:=by rcases hf with⟨c,_⟩|⟨c,_⟩<;>omega
 have hget:∀t,(a.put x.dst (enc ρ' (vs i))).tmps.getD t undef=if x.dst=some t then enc ρ' (vs i)else a.tmps.getD t undef:=fun t=>getD_put _ _ _ (fun d hd=>Nat.lt_of_lt_of_le (hlt d hd) D.size) t
 refine⟨?_,?_,?_,?_,D.ext.trans X,by rw[put_defers];exact D.defers,by rw[put_size];exact D.size,?_,?_,?_,?_⟩
 ·rcases hf with⟨_,rfl⟩|⟨_,_,rfl⟩
  ·exact D.fle
  ·omega
 ·intro j hj k hk
  rcases hj with hj|rfl
  ·exact .inl (D.ancs j hj k hk)
  ·exact .inl (ha k hk)
 ·intro k y hy hc
  by_cases hki:k=i
  ·subst hki
   obtain rfl:=hxx y hy
   rcases hf with⟨c,_⟩|⟨_,rfl,rfl⟩
   ·omega
   ·simp
  ·rw[show(S k∨k=i)↔S k by simp[hki],D.chain k y hy hc]
   rcases hf with⟨_,rfl⟩|⟨_,rfl,rfl⟩
   ·exact Iff.rfl
   ·omega
 ·intro k y hy hc hk
  by_cases hki:k=i
  ·exact .inr hki
  ·refine .inl (D.alloc k y hy hc ?_)
   rcases hf with⟨_,rfl⟩|⟨_,rfl,rfl⟩<;>omega
 ·intro k y hy hS hk
  by_cases hki:k=i
  ·subst hki
   obtain rfl:=hxx y hy
   exact⟨hv,fun d hd=>by rw[hget,if_pos hd]⟩
  ·have hSk:S k:=hS.resolve_right hki
   obtain⟨d1,d2⟩:=D.done k y hy hSk (by
    rcases hk with c|c
    ·exact .inl c
    ·rcases hf with⟨_,rfl⟩|⟨_,rfl,rfl⟩
     ·exact .inr c
     ·exact .inr (by omega))
   refine⟨ok_agree X.agree X.next _ d1,fun d hd=>?_⟩
   rw[hget,if_neg (fun e=>hki (ST.uniq k i y x d hy hx hd e)),enc_agree X.agree _ d1]
   exact d2 d hd
 ·intro k y z hy hS hz hk
  have hyc:y.cls=1:=by unfold AOper.cls;rw[hz]
  have hki:k≠i:=fun e=>by subst e;obtain rfl:=hxx y hy;exact hc1 hyc
  have q:=D.early k y z hy (hS.resolve_right hki) hz (by omega)
  obtain⟨vz,hvz⟩:=CP k y z hy hz
  have hb:w'.heap[(pl k).1]?=w.heap[(pl k).1]?:=X.keep.block _ q.lt q.apart
  refine⟨fun d hd=>?_,?_,there_heap hb q.there,q.lo,Nat.lt_of_lt_of_le q.lt X.keep.size,?_⟩
  ·rw[hget,if_neg (fun e=>hki (ST.uniq k i y x d hy hx hd e))];exact q.slot d hd
  ·rw[(hvz ρ' 0).1,←(hvz ρ 0).1];exact rangeAt_heap hb q.cells
  ·intro t ob ht ho e
   rcases X.fresh t ob ht ho with c|⟨t0,o0,c1,c2,c3⟩
   ·rw[e]at c;have:=q.lt;omega
   ·exact q.apart t0 o0 c1 c2 (c3.trans e)
 ·intro k k' y y' hy hy' hS hS' hc hc' hk hk' hne
  have hki:k≠i:=fun e=>by subst e;obtain rfl:=hxx y hy;exact hc1 hc
  have hki':k'≠i:=fun e=>by subst e;obtain rfl:=hxx y' hy';exact hc1 hc'
  exact D.pls k k' y y' hy hy' (hS.resolve_right hki) (hS'.resolve_right hki') hc hc' (by omega) (by omega) hne
 ·intro d hd
  rw[hget,if_neg (fun e=>hd i x hx e (.inr rfl))]
  exact D.undone d fun k y hy hyd hS=>hd k y hy hyd (.inl hS)
theorem DInv.alloced (ST:Stat P nt ops asx anc names) (CP:∀(k:Nat) (x:AOper) (z:List AV),asx[k]?=some x→x.op= .alloc z→∃vs:List Value,∀(ρ:Rho) (N:Nat),encs ρ z=vs∧oks ρ N z∧∀v∈z,v.one=true)
  (D:DInv P base nt ops asx anc ss vs ρ0 a0 w0 S f ρ a w pl) {i:Nat} {x:AOper} {z:List AV} (hx:asx[i]?=some x) (hz:x.op= .alloc z) (hn:¬S i)
  (ha:∀j,anc i j→S j) (hlt:∀d,x.dst=some d→d<nt) (X:Ext base ρ (ss f).hp w ρ' ((ss f).hp.push fun s=> .row z true s) w'):
  DInv P base nt ops asx anc ss vs ρ0 a0 w0 (fun j=>S j∨j=i) f ρ (a.put x.dst (enc ρ' (.ptr (ss f).hp.next 0))) w' (fun k=>if k=i then((ρ' (ss f).hp.next).b,(ρ' (ss f).hp.next).o)else pl k):=by
 have hi:i<asx.length:=(List.getElem?_eq_some_iff.1 hx).1
 have hc:x.cls=1:=by unfold AOper.cls;rw[hz]
 have hxx:∀y,asx[i]?=some y→y=x:=fun y hy=>by rw[hx]at hy;exact(Option.some.inj hy).symm
 have hget:∀t,(a.put x.dst (enc ρ' (.ptr (ss f).hp.next 0))).tmps.getD t undef=if x.dst=some t then enc ρ' (.ptr (ss f).hp.next 0)else a.tmps.getD t undef:=fun t=>getD_put _ _ _ (fun d hd=>Nat.lt_of_lt_of_le (hlt d hd) D.size) t
 have hR:HRel base ρ (ss f).hp w':=X.rel.pop D.ext.rel X.agree
 have hgn:((ss f).hp.push fun s=> .row z true s).get (ss f).hp.next=some (.row z true ((ss f).hp.clk+1)):=by rw[Hp.get_push,if_pos rfl]
 have r:=X.rel.row _ z true _ hgn
 obtain⟨q1,q2,q3,q4⟩:=r.own1 rfl
 have hold:∀t ob,(ss f).hp.get t=some ob→((ss f).hp.push fun s=> .row z true s).get t=some ob∧ρ' t=ρ t∧t≠(ss f).hp.next:=fun t ob ht=>by
  have:=D.ext.rel.lt t ob ht
  exact⟨by rw[Hp.get_push,if_neg (by omega)];exact ht,X.agree t this,by omega⟩
 have hap:∀t ob,(ss f).hp.get t=some ob→ob.owned=true→(ρ t).b≠(ρ' (ss f).hp.next).b:=fun t ob ht ho=>by
  obtain⟨g1,g2,g3⟩:=hold t ob ht
  have:=X.rel.apart t _ ob _ g1 hgn ho rfl g3
  rwa[g2]at this
 have hnew:w.heap.size≤(ρ' (ss f).hp.next).b:=by
  rcases X.fresh _ _ hgn rfl with c|⟨t0,o0,c1,c2,c3⟩
  ·exact c
  ·exact absurd c3 (hap t0 o0 c1 c2)
 have X':=D.ext.trans X
 refine⟨D.fle,?_,?_,?_,⟨D.ext.agree,D.ext.next,hR,X'.keep,D.ext.fresh⟩,by rw[put_defers];exact D.defers,by rw[put_size];exact D.size,?_,?_,?_,?_⟩
 ·intro j hj k hk
  rcases hj with hj|rfl
  ·exact .inl (D.ancs j hj k hk)
  ·exact .inl (ha k hk)
 ·intro k y hy hyc
  have hki:k≠i:=fun e=>by subst e;obtain rfl:=hxx y hy;omega
  rw[show(S k∨k=i)↔S k by simp[hki],D.chain k y hy hyc]
 ·intro k y hy hyc hk
  exact .inl (D.alloc k y hy hyc hk)
 ·intro k y hy hS hk
  have hki:k≠i:=fun e=>by
   subst e;obtain rfl:=hxx y hy
   rcases hk with c|c
   ·exact c hc
   ·exact hn (D.alloc _ _ hy hc c)
  obtain⟨d1,d2⟩:=D.done k y hy (hS.resolve_right hki) hk
  exact⟨d1,fun d hd=>by rw[hget,if_neg (fun e=>hki (ST.uniq k i y x d hy hx hd e))];exact d2 d hd⟩
 ·intro k y z' hy hS hz' hk
  by_cases hki:k=i
  ·subst hki
   obtain rfl:=hxx y hy
   obtain rfl:z=z':=by rw[hz]at hz';exact AOp.alloc.inj hz'
   obtain⟨vz,hvz⟩:=CP k y z hy hz
   refine⟨fun d hd=>by rw[hget,if_pos hd,if_pos rfl];simp[enc],?_,?_,?_,?_,?_⟩<;>rw[if_pos rfl]
   ·rw[(hvz ρ 0).1,←(hvz ρ' 0).1];exact r.cells
   ·exact q3
   ·exact Nat.le_trans D.ext.keep.size hnew
   ·exact q2
   ·exact hap
  ·have q:=D.early k y z' hy (hS.resolve_right hki) hz' hk
   have hb:w'.heap[(pl k).1]?=w.heap[(pl k).1]?:=X.keep.block _ q.lt q.apart
   refine⟨fun d hd=>?_,?_,?_,?_,?_,?_⟩<;>rw[if_neg hki]
   ·rw[hget,if_neg (fun e=>hki (ST.uniq k i y x d hy hx hd e))];exact q.slot d hd
   ·exact rangeAt_heap hb q.cells
   ·exact there_heap hb q.there
   ·exact q.lo
   ·exact Nat.lt_of_lt_of_le q.lt X.keep.size
   ·exact q.apart
 ·intro k k' y y' hy hy' hS hS' hyc hyc' hk hk' hne
  have lt:∀(j:Nat) (u:AOper),asx[j]?=some u→u.cls=1→S j→f≤j→(pl j).1<w.heap.size:=fun j u hu huc hj hfj=>by
   obtain⟨zz,hzz⟩:=cls_one huc
   exact(D.early j u zz hu hj hzz hfj).lt
  by_cases hki:k=i
  ·by_cases hki':k'=i
   ·omega
   ·simp only[if_pos hki,if_neg hki']
    have:=lt k' y' hy' hyc' (hS'.resolve_right hki') hk'
    omega
  ·by_cases hki':k'=i
   ·simp only[if_neg hki,if_pos hki']
    have:=lt k y hy hyc (hS.resolve_right hki) hk
    omega
   ·simp only[if_neg hki,if_neg hki']
    exact D.pls k k' y y' hy hy' (hS.resolve_right hki) (hS'.resolve_right hki') hyc hyc' hk hk' hne
 ·intro d hd
  rw[hget,if_neg (fun e=>hd i x hx e (.inr rfl))]
  exact D.undone d fun k y hy hyd hS=>hd k y hy hyd (.inl hS)
end
end Go.Ae
set_option linter.unusedVariables false
set_option linter.unusedSimpArgs false
namespace Go.Ae
section
variable {P:Program} {base nt N:Nat} {E:Env} {ops:Array Oper} {asx:List AOper} {anc:Nat→Nat→Prop} {names:Nat→List Nat} {ss:Nat→St} {vs:Nat→AV} {ρ0 ρ ρ':Rho} {a0 a:Act} {W0 w0 w w':World} {h:Hp}
variable {c0:Nat} {S:Nat→Prop} {f:Nat} {pl:Nat→Nat×Nat} {Q:Exit→Act→World→Prop}
theorem Stat.closed (ST:Stat P nt ops asx anc names) (T:Tr E N 0 asx c0 ss vs) {k:Nat} {x:AOper} {z:List AV} (hx:asx[k]?=some x) (hz:x.op= .alloc z):∃vs:List Value,∀(ρ:Rho) (N:Nat),encs ρ z=vs∧oks ρ N z∧∀v∈z,v.one=true:=by
 have hlt:k<ops.size:=by rw[←ST.size];exact(List.getElem?_eq_some_iff.1 hx).1
 rcases(ST.cops k ops[k] x (Array.getElem?_eq_getElem hlt) hx).op with c|c
 ·rw[hz]at c;exact alloc_closed c
 ·rw[hz]at c;cases c
theorem DInv.advances (ST:Stat P nt ops asx anc names) (T:Tr E N 0 asx c0 ss vs) (hw0:base≤w0.heap.size):∀(d f:Nat) (ρ:Rho),DInv P base nt ops asx anc ss vs ρ0 a0 w0 S f ρ a w pl→
  (∀(k:Nat) (x:AOper),f≤k→k<f+d→asx[k]?=some x→x.cls≠2∧(x.cls=1→S k))→f+d≤asx.length→∃ρ',DInv P base nt ops asx anc ss vs ρ0 a0 w0 S (f+d) ρ' a w pl
 |0,f,ρ,D,_,_=>⟨ρ,D⟩
 | d+1,f,ρ,D,hh,hl=>by
  obtain⟨x,hx⟩:=get_lt (asx:=asx) (k:=f) (by omega)
  obtain⟨h1,h2⟩:=hh f x (Nat.le_refl _) (by omega) hx
  obtain⟨ρ1,D1⟩:=D.advance ST T (fun k x z hx hz=>ST.closed T hx hz) hw0 hx h1 h2
  have:=DInv.advances ST T hw0 d (f+1) ρ1 D1 (fun k y a b hy=>hh k y (by omega) (by omega) hy) (by omega)
  rwa[show f+(d+1)=f+1+d by omega]
theorem DInv.finish (ST:Stat P nt ops asx anc names) (T:Tr E N 0 asx c0 ss vs) (S0:Sim W0 base nt ρ0 (ss 0) a0 w0) (D:DInv P base nt ops asx anc ss vs ρ0 a0 w0 S f ρ a w pl) (hall:∀k,k<asx.length→S k):
  ∃ρ',Sim W0 base nt ρ' (ss asx.length) a w∧Ext base ρ0 (ss 0).hp w0 ρ' (ss asx.length).hp w:=by
 obtain⟨ρ',D'⟩:=D.advances ST T S0.rel.size (asx.length-f) f ρ (fun k x h1 h2 hx=>by
  have hk:k<asx.length:=(List.getElem?_eq_some_iff.1 hx).1
  refine⟨fun c=>?_,fun _=>hall k hk⟩
  have:=(D.chain k x hx c).1 (hall k hk);omega) (by have:=D.fle;omega)
 have hf:=D.fle
 rw[show f+(asx.length-f)=asx.length by omega]at D'
 refine⟨ρ',⟨D'.ext.rel,S0.glob.trans (D'.ext.keep.below S0.rel),D'.defers,D'.size,fun t=>?_⟩,D'.ext⟩
 by_cases hw:∃(k:Nat) (y:AOper),asx[k]?=some y∧y.dst=some t
 ·obtain⟨k,y,hy,hyd⟩:=hw
  have hk:k<asx.length:=(List.getElem?_eq_some_iff.1 hy).1
  obtain⟨d1,d2⟩:=D'.done k y hy (hall k hk) (.inr hk)
  rw[T.wrote ST hy hyd hk (Nat.le_refl _)]
  exact⟨d2 t hyd,d1⟩
 ·obtain⟨q1,q2⟩:=S0.tmp t
  rw[D'.undone t (fun k y hy hd'=>absurd ⟨k,y,hy,hd'⟩ hw),T.same asx.length (Nat.zero_le _) (Nat.le_refl _) (fun k y _ _ hy hd'=>hw ⟨k,y,hy,hd'⟩),q1]
  exact⟨(enc_agree D'.ext.agree _ q2).symm,ok_agree D'.ext.agree D'.ext.next _ q2⟩
theorem DInv.before (ST:Stat P nt ops asx anc names) (T:Tr E N 0 asx c0 ss vs) (hw0:base≤w0.heap.size) {i:Nat} {x:AOper} (hx:asx[i]?=some x) (hc:x.cls=0) (ha:∀j,anc i j→S j):∀(d f:Nat) (ρ:Rho),i-f=d→DInv P base nt ops asx anc ss vs ρ0 a0 w0 S f ρ a w pl→
  ∃g ρ',DInv P base nt ops asx anc ss vs ρ0 a0 w0 S g ρ' a w pl∧∀(k:Nat) (y:AOper),asx[k]?=some y→y.cls=1→k<i→k<g
 |0,f,ρ,hd,D=>⟨f,ρ,D,fun k y _ _ hk=>by omega⟩
 | d + 1,f,ρ,hd,D=>by
  by_cases hex:∃(k:Nat) (y:AOper),asx[k]?=some y∧y.cls=1∧k<i∧f≤k
  ·obtain⟨k,y,hy,hyc,hki,hfk⟩:=hex
   have hi:i<asx.length:=(List.getElem?_eq_some_iff.1 hx).1
   obtain⟨z,hz⟩:=get_lt (asx:=asx) (k:=f) (by omega)
   have h2:z.cls≠2:=fun c=>by
    have hfk':f≠k:=fun e=>by subst e;rw[hz]at hy;obtain rfl:=Option.some.inj hy;omega
    have:=(D.chain f z hz c).1 (ha f (ST.alloc2 f k i z y x (by omega) hki hz hy hx c hyc hc))
    omega
   have h1:z.cls=1→S f:=fun c=>ha f (ST.alloc1 f i z x (by omega) hz hx c (by omega))
   obtain⟨ρ1,D1⟩:=D.advance ST T (fun k x z hx hz=>ST.closed T hx hz) hw0 hz h2 h1
   exact DInv.before ST T hw0 hx hc ha d (f+1) ρ1 (by omega) D1
  ·exact⟨f,ρ,D,fun k y hy hyc hk=>by
    rcases Nat.lt_or_ge k f with c|c
    ·exact c
    ·exact absurd ⟨k,y,hy,hyc,hk,c⟩ hex⟩
theorem Tr.kept (PL:PrimsLater E) (T:Tr E N 0 asx c0 ss vs) (hwf:WF (ss 0).hp) {t:Nat} {o:AObj} {p:Nat} (hp:(ss p).hp.get t=some o):∀d,p+d≤asx.length→(∀(k:Nat) (x:AOper),p≤k→k<p+d→asx[k]?=some x→x.cls≠2)→(ss (p+d)).hp.get t=some o
 |0,_,_=>hp
 | d + 1,hl,hn=>by
  have ih:=T.kept PL hwf hp d (by omega) (fun k x a b hx=>hn k x a (by omega) hx)
  obtain⟨x,hx⟩:=get_lt (asx:=asx) (k:=p+d) (by omega)
  rcases cls_le x with c|c|c
  ·rw[←Nat.add_assoc,T.still hx c];exact ih
  ·obtain⟨z,hz⟩:=cls_one c
   rcases T.born hx hz with⟨_,_,he⟩|⟨_,_,he⟩
   ·rw[←Nat.add_assoc,he,Hp.get_push,if_neg]
    ·exact ih
    ·have:=(T.later' PL (Nat.zero_le (p+d)) (by omega)).wf hwf t o ih;omega
   ·rw[←Nat.add_assoc,he];exact ih
  ·exact absurd c (hn _ x (by omega) (by omega) hx)
theorem any_sound (ST:Stat P nt ops asx anc names) (PL:PrimsLater E) (MO:MethOk P E) (CO:∀m,m<N→CallsOk P W0 base E (exec E m)) (T:Tr E N 0 asx (ss 0).hp.clk ss vs) (S0:Sim W0 base nt ρ0 (ss 0) a0 w0)
    (HQ:∀a' w' ρ',Sim W0 base nt ρ' (ss asx.length) a' w'→Ext base ρ0 (ss 0).hp w0 ρ' (ss asx.length).hp w'→Q .normal a' w'):
    ∀ (fuel:Nat) (listed:Array Bool) (S:Nat→Prop) (f:Nat) (ρ:Rho) (a:Act) (w:World) (pl:Nat→Nat×Nat),listed.size=ops.size→(∀k,S k↔listed.getD k false=true)→listed.toList.countP (fun b=> !b)≤fuel→
      DInv P base nt ops asx anc ss vs ρ0 a0 w0 S f ρ a w pl→wpAny P .any ops Q fuel listed a w:=by
  intro fuel
  have fin:∀(listed:Array Bool) (S:Nat→Prop) (f:Nat) (ρ:Rho) (a:Act) (w:World) (pl:Nat→Nat×Nat),listed.size=ops.size→(∀k,S k↔listed.getD k false=true)→DInv P base nt ops asx anc ss vs ρ0 a0 w0 S f ρ a w pl→
      Region.ready .any ops listed=[]→Q .normal a w:=by
    intro listed S f ρ a w pl hsz hS D hr
    have hall:∀n k,k<n→k<asx.length→S k:=by
      intro n
      induction n with
      |zero=>intro k hk;omega
      | succ n ih=>
        intro k hk hkl
        refine Classical.byContradiction fun hn=>?_
        have hlt:k<ops.size:=by rw[←ST.size];exact hkl
        have:k∈Region.ready .any ops listed:=by
          rw[mem_ready]
          refine⟨?_,ops[k],Array.getElem?_eq_getElem hlt,fun e he hb=>?_⟩
          · have h1:listed.getD k false≠true:=fun h=>hn ((hS k).2 h)
            simp only[Array.getD_eq_getD_getElem?,Array.getElem?_eq_getElem (show k<listed.size by omega),Option.getD_some]at h1⊢
            simpa using h1
          · have hb:=ST.back k ops[k] (Array.getElem?_eq_getElem hlt) e he hb
            exact(hS _).1 (ih e.on (by omega) (by omega))
        rw[hr]at this;cases this
    obtain⟨ρ',h1,h2⟩:=D.finish ST T S0 (fun k hk=>hall asx.length k hk hk)
    exact HQ a w ρ' h1 h2
  induction fuel with
  | zero=>
    intro listed S f ρ a w pl hsz hS hcnt D
    have hr:Region.ready .any ops listed=[]:=by
      cases hh:Region.ready .any ops listed with
      |nil=>rfl
      | cons i l=>
        have:i∈Region.ready .any ops listed:=by rw[hh];exact .head _
        obtain⟨h0,o,ho,_⟩:=mem_ready.1 this
        have hlt:i<listed.size:=by rw[hsz];exact(Array.getElem?_eq_some_iff.1 ho).1
        simp only[Array.getD_eq_getD_getElem?,Array.getElem?_eq_getElem hlt,Option.getD_some]at h0
        have hm:listed[i]∈listed.toList:=by simp
        have:=List.countP_eq_zero.1 (Nat.le_zero.1 hcnt) _ hm
        simp[h0]at this
    exact⟨hr,fin listed S f ρ a w pl hsz hS D hr⟩
  | succ fuel ih=>
    intro listed S f ρ a w pl hsz hS hcnt D
    refine⟨fin listed S f ρ a w pl hsz hS D,fun i hi=>?_⟩
    obtain⟨h0,o,ho,hedge⟩:=mem_ready.1 hi
    have hio:i<ops.size:=(Array.getElem?_eq_some_iff.1 ho).1
    have hil:i<asx.length:=by rw[ST.size];exact hio
    obtain⟨x,hx⟩:=get_lt (asx:=asx) hil
    have C:=ST.cops i o x ho hx
    have hlt:=C.lt
    have hnS:¬S i:=fun h=>by
      have:=(hS i).1 h
      simp only[Array.getD_eq_getD_getElem?,Array.getElem?_eq_getElem (show i<listed.size by omega),Option.getD_some]at this h0
      rw[h0]at this;cases this
    have ha:∀j,anc i j→S j:=ST.ancs S D.ancs i o ho (fun e he hb=>(hS _).2 (hedge e he hb))
    have next:∀(f:Nat) (ρ:Rho) (a:Act) (w:World) (pl:Nat→Nat×Nat),DInv P base nt ops asx anc ss vs ρ0 a0 w0 (fun j=>S j∨j=i) f ρ a w pl→wpAny P .any ops Q fuel (listed.setIfInBounds i true) a w:=by
      intro f ρ a w pl D'
      refine ih _ _ f ρ a w pl (by simp[hsz]) (fun k=>?_) ?_ D'
      · by_cases hk:k=i
        · subst hk
          simp[show k<listed.size by omega]
        · rw[getD_set_ne false (Ne.symm hk),←hS];simp[hk]
      · have hb:listed[i]'(by omega)=false:=by
          simpa only[Array.getD_eq_getD_getElem?,Array.getElem?_eq_getElem (show i<listed.size by omega),Option.getD_some]using h0
        rw[Array.toList_setIfInBounds,List.countP_set (by simp;omega)]
        have h1:listed.toList[i]'(by simp;omega)=false:=by simpa using hb
        simp only[h1,Bool.not_false,if_true,Bool.not_true,Bool.false_eq_true,if_false]
        omega
    obtain⟨nm1,nm2,nm3⟩:=ST.nms i o x ho hx
    have sel:∀f ρ,DInv P base nt ops asx anc ss vs ρ0 a0 w0 S f ρ a w pl→(∀(k:Nat) (y:AOper),asx[k]?=some y→y.cls=1→k<i→k<f)→∀d∈names i,a.tmps.getD d undef=enc ρ (val (ss i).tm (.t d))∧ok ρ (ss f).hp.next (val (ss i).tm (.t d)):=
      fun f ρ D hal d hd=>D.slots ST T S0 hx hnS ha hal hd
    have run:∀(f:Nat) (ρ:Rho) (f':Nat),DInv P base nt ops asx anc ss vs ρ0 a0 w0 S f ρ a w pl→(∀(k:Nat) (y:AOper),asx[k]?=some y→y.cls=1→k<i→k<f)→((x.cls=0∧f'=f)∨(x.cls=2∧f=i∧f'=i+1))→
        (wanted (ss i).tm x.grd=true→∀m,m<N→opA x.op E (exec E m) (ss i)=some (vs i,(ss (i+1)).hp)→∀tm',(∀y∈x.op.opds,val (ss i).tm y=val tm' y)→opA x.op E (exec E m) { tm:=tm',hp:=(ss f).hp }=some (vs i,(ss f').hp))→
        (wanted (ss i).tm x.grd=false→(ss f').hp=(ss f).hp)→wpOp P ops Q i (wpAny P .any ops Q fuel (listed.setIfInBounds i true)) a w:=by
      intro f ρ f' D hal hf hop hunw
      have hs:=sel f ρ D hal
      have hw:=wanted_eq (a:=a) (ρ:=ρ) (tm:=(ss i).tm) C.grd fun d b e=>(hs d (nm3 d b e)).1
      unfold wpOp
      simp only[ho]
      rcases T.at hx with⟨hwt,⟨m,hm,hr⟩,_,_⟩|⟨hwt,hv,he,_⟩
      · rw[hw,hwt]
        simp only[if_true]
        rcases C.op with hc|hbad
        · obtain⟨ev,tm',E1,E2,E3⟩:=evals_of (a:=a) (names:=names i) (n:=(ss f).hp.next) hs
          have hr':=hop hwt m hm hr tm' (fun y hy=>E3 y (fun t e=>nm2 t (e▸hy)))
          have Dz:=op_sound (s:={ tm:=tm',hp:=(ss f).hp }) (CO m hm) (S0.glob.trans (D.ext.keep.below S0.rel)) MO hc E1 D.ext.rel hr'
          rw[←execOp_congr o (cop_nosel hc) (fun y hy=>E2 y (fun t e=>nm1 t (e▸hy)))]at Dz
          refine .inl (Takes.wp Dz ?_)
          rintro u w1 ⟨ρ1,X,hok,rfl⟩
          rw[←C.dst]
          exact next _ _ _ _ _ (D.exec ST (fun k x z hx hz=>ST.closed T hx hz) hx hnS ha hlt hf rfl X hok)
        · rw[hbad]at hr;cases hr
      · rw[hw,hwt]
        simp only[Bool.false_eq_true,if_false]
        have X:Ext base ρ (ss f).hp w ρ (ss f').hp w:=by rw[hunw hwt];exact Ext.refl D.ext.rel
        have:=D.exec ST (fun k x z hx hz=>ST.closed T hx hz) hx hnS ha hlt hf rfl X (by rw[hv];trivial)
        rw[hv,enc_und,C.dst]at this
        exact next _ _ _ _ _ this
    rcases cls_le x with hc|hc|hc
    ·
      obtain⟨g,ρg,Dg,hal⟩:=D.before ST T S0.rel.size hx hc ha _ f ρ rfl
      refine run g ρg g Dg hal (.inl ⟨hc,rfl⟩) ?_ (fun _=>rfl)
      intro hwd m hm hr tm' htm
      obtain⟨h1,h2⟩:=cls_zero hc
      have hpl:∀s,opA x.op E (exec E m) s=aop x.op (val s.tm) s.hp:=by intro s;cases hh:x.op<;>rw[hh]at h1<;>first|(simp[AOp.calls]at h1;done)|rfl
      rw[hpl]at hr⊢
      rw[←aop_congr (ss g).hp htm]
      rcases h2 with h2|⟨ag,n,y,u,h3,h4⟩
      · exact(pure_any h2 hr).2 _
      · obtain⟨s1,s2,s3⟩:=ST.stab i x u hx hc h4
        rcases T.at hx with⟨_,_,_,hst⟩|⟨hwt,hv,he,_⟩
        · obtain⟨t,ht,hold⟩:=hst u h4
          have hold:=hold s1 s2
          rw[h3]at hr ht⊢
          refine(load_any hr ht).2 _ ?_
          have at_:∀p,p≤u+1→(ss p).hp.get t=(ss 0).hp.get t∧∃o,(ss 0).hp.get t=some o:=fun p hp=>by
            have:=Later.old (T.later' PL (Nat.zero_le p) (by omega)) (T.later' PL hp (by omega)) hold
            exact⟨this.1,this.2.2⟩
          rw[(at_ i (by omega)).1]
          by_cases hgu:g≤u+1
          · exact(at_ g hgu).1
          · obtain⟨e1,ob,e2⟩:=at_ (u+1) (Nat.le_refl _)
            rw[e2]at e1⊢
            have:=T.kept PL S0.rel.lt e1 (g-(u+1)) (by have:=Dg.fle;omega) (fun k z hk1 hk2 hz c=>by
              have hSk:=(Dg.chain k z hz c).2 (by omega)
              have:=s3 k z hz (by omega) c (fun han=>hnS (Dg.ancs k hSk i han))
              omega)
            rwa[show u+1+(g-(u+1))=g by omega]at this
        · rw[hwd]at hwt;cases hwt
    ·
      obtain⟨z,hz⟩:=cls_one hc
      obtain⟨hg,hnm⟩:=ST.agrd i x hx hc
      have hwt:wanted (ss i).tm x.grd=true:=by rw[hg];rfl
      have hw:Region.wanted o (yielded ops a.tmps)=true:=by
        rw[wanted_eq (a:=a) (ρ:=ρ) (tm:=(ss i).tm) C.grd (fun d b e=>by rw[hg]at e;cases e)];exact hwt
      unfold wpOp
      simp only[ho,hw,if_true]
      have hcop:cop P o=some (.alloc z):=by
        rcases C.op with c|c
        · rw[c,hz]
        · rw[hz]at c;cases c
      obtain⟨ev,tm',E1,E2,E3⟩:=evals_of (a:=a) (ρ:=ρ) (tm:=(ss i).tm) (names:=[]) (n:=(ss f).hp.next) (by simp)
      have Y:=(cop_sound (h:=(ss f).hp) (w:=w) (base:=base) hcop rfl E1 D.ext.rel (v:= .ptr (ss f).hp.next 0) (h':=(ss f).hp.push fun s=> .row z true s) rfl).does
      have hno:∀y∈o.op.operands,a.eval y=ev y:=fun y hy=>E2 y (fun t e=>by
        have:=nm1 t (e▸hy)
        rwa[hnm]at this)
      rw[←execOp_congr o (cop_nosel hcop) hno]at Y
      refine .inl (Takes.wp Y ?_)
      rintro u w1 ⟨ρ1,X,hok,rfl⟩
      rw[←C.dst]
      exact next _ _ _ _ _ (D.alloced ST (fun k x z hx hz=>ST.closed T hx hz) hx hz hnS ha hlt X)
    ·
      have hfi:f≤i:=by
        rcases Nat.lt_or_ge i f with c|c
        · exact absurd ((D.chain i x hx hc).2 c) hnS
        · exact c
      obtain⟨ρi,Di⟩:=D.advances ST T S0.rel.size (i-f) f ρ (fun k y h1 h2 hy=>by
        refine⟨fun c=>?_,fun c=>ha k (ST.alloc1 k i y x (by omega) hy hx c (by omega))⟩
        have:=(D.chain k y hy c).1 (ha k (ST.chain k i y x (by omega) hy hx c hc))
        omega) (by omega)
      rw[show f+(i-f)=i by omega]at Di
      refine run i ρi (i+1) Di (fun k y _ _ hk=>hk) (.inr ⟨hc,rfl,rfl⟩) ?_ ?_
      · intro hwd m hm hr tm' htm
        rw[←opA_congr (s:=ss i) (s':={ tm:=tm',hp:=(ss i).hp }) rfl htm]
        exact hr
      · intro hwt
        rcases T.at hx with⟨hwt',_⟩|⟨_,_,he,_⟩
        · rw[hwt]at hwt';cases hwt'
        · exact he
end
end Go.Ae
set_option linter.unusedVariables false
set_option linter.unusedSimpArgs false
namespace Go.Ae
def alwaysE (e:Edge):Bool:=Region.binds .any e
def edgesOf (o:Oper):List Nat:=(o.after.toList.filter alwaysE).map (·.on)
def maskOf (ms:List Nat) (es:List Nat):Nat:=es.foldl (fun a j=>a|||(2^j|||ms.getD j 0)) 0
def masks:List Oper→List Nat→List Nat
 |[],ms=>ms
 |o::r,ms=>masks r (ms++[maskOf ms (edgesOf o)])
structure AInfo where
 i:Nat
 cls:Nat
 dst:Option Nat
 names:List Nat
 mask:Nat
 stab:Option Nat
def tmpOf:Operand→Option Nat
 | .tmp t=>some t
 |_=>none
def slotOf:Opd→Option Nat
 | .t t=>some t
 |_=>none
def namesOf (o:Oper) (x:AOper):List Nat:=
 o.op.operands.toList.filterMap tmpOf++(x.op.opds.filterMap slotOf++match x.grd with|some (d,_)=>[d]|none=>[])
def infos:Nat→List Oper→List AOper→List Nat→List AInfo
 |i,o::os,x::xs,m::ms=>⟨i,x.cls,x.dst,namesOf o x,m,x.stab⟩::infos (i+1) os xs ms
 |_,_,_,_=>[]
def hasB (m j:Nat):Bool:=Nat.beq (Nat.land (Nat.shiftRight m j) 1) 1
def memB (d:Option Nat) (l:List Nat):Bool:=
 match d with
 |some d=>l.any (Nat.beq d)
 |none=>false
def sameB (a b:Option Nat):Bool:=
 match a,b with
 |some a,some b=>Nat.beq a b
 |_,_=>false
def pairB (al:List Nat) (x y:AInfo):Bool:=
 (hasB y.mask x.i||(!(Nat.beq x.cls 2&&Nat.beq y.cls 2)&& !(Nat.beq x.cls 1&& !Nat.beq y.cls 1)&& !memB x.dst y.names&& !memB y.dst x.names&&
  !(Nat.beq x.cls 2&&Nat.beq y.cls 0&&al.any fun i=>Nat.blt x.i i&&Nat.blt i y.i)&&
  (match x.stab with
   |some u=> !(Nat.beq x.cls 0&&Nat.beq y.cls 2)||Nat.ble y.i u
   |none=>true)))&& !sameB x.dst y.dst
def pairsB (al:List Nat):List AInfo→Bool
 |[]=>true
 |x::l=>l.all (pairB al x)&&pairsB al l
def oneB (n:Nat) (x:AInfo):Bool:=
 (match x.stab with|some u=>Nat.ble x.i u&&Nat.blt u n|none=>true)&&(!Nat.beq x.cls 1||x.names.isEmpty)
def backB:Nat→List Oper→Bool
 |_,[]=>true
 |i,o::os=>(edgesOf o).all (fun j=>Nat.blt j i)&&backB (i+1) os
def stabOf (i m:Nat) (ch:List (Nat×Nat)):Nat:=ch.foldl (fun a p=>if !hasB m p.1&& !hasB p.2 i&&Nat.blt a p.1 then p.1 else a) i
def chains:Nat→List AOper→List Nat→List (Nat×Nat)
 | i,x::xs,m::ms=>
  match x.op with
  | .load .. | .alloc _=>chains (i+1) xs ms
  | o=>match o.pure with
   |true=>chains (i+1) xs ms
   |false=>(i,m)::chains (i+1) xs ms
 |_,_,_=>[]
def stabs (ch:List (Nat×Nat)):Nat→List AOper→List Nat→List AOper
 |i,x::xs,m::ms=>(match x.op with| .load .. =>{ x with stab:=some (stabOf i m ch) }|_=>x)::stabs ch (i+1) xs ms
 |_,xs,_=>xs
def coper (P:Program) (nt:Nat) (ops:Array Oper) (o:Oper):Option AOper:=
 match cgrd ops o.guard with
 | some g=>match(match o.dst with|some d=>Nat.blt d nt|none=>true)with
  |true=>some ⟨o.dst,match cop P o with|some a=>a|none=> .bad,g,none⟩
  |false=>none
 |none=>none
def copers (P:Program) (nt:Nat) (ops:Array Oper):List Oper→Option (List AOper)
 |[]=>some []
 | o ::r=>match coper P nt ops o with
  | some x=>match copers P nt ops r with
   |some xs=>some (x::xs)
   |none=>none
  |none=>none
def drawB (ops:List Oper) (xs:List AOper) (ms:List Nat):Bool:=
 match infos 0 ops xs ms with
 |is=>pairsB ((is.filter fun x=>Nat.beq x.cls 1).map (·.i)) is&&(is.all (oneB xs.length)&&backB 0 ops)&&xs.all fun x=> !Nat.beq x.cls 1||x.grd.isNone
def ccode (P:Program) (nt:Nat):Code→ACode
 | .skip=> .skip
 | .label _=> .skip
 | .scope c=> .seq .skip (ccode P nt c)
 | .region _ ops false=>match copers P nt ops ops.toList with
  |some xs=> .reg xs
  |none=> .bad
 | .region _ ops true=>match copers P nt ops ops.toList with
  | some xs=>match masks ops.toList []with
   | ms=>match stabs (chains 0 xs ms) 0 xs ms with
    | ys=>match drawB ops.toList ys ms with
     |true=> .dreg ys
     |false=> .bad
  |none=> .bad
 | .seq a b=> .seq (ccode P nt a) (ccode P nt b)
 | .cond x a b=>match copd x with
  |some y=> .cond y (ccode P nt a) (ccode P nt b)
  |none=> .bad
 | .block id c=> .block id (ccode P nt c)
 | .loop c=> .loop (ccode P nt c)
 | .exit id=> .exit id
 | .ret=> .ret
 |_=> .bad
theorem hasB_eq (m j:Nat):hasB m j=m.testBit j:=by
 unfold hasB Nat.testBit
 show Nat.beq ((m>>>j)&&&1) 1=(1&&&(m>>>j) !=0)
 rw[Nat.and_comm]
 have:1&&&(m>>>j)=0∨1&&&(m>>>j)=1:=by
  rw[Nat.one_and_eq_mod_two];omega
 rcases this with h|h<;>rw[h]<;>rfl
theorem maskOf_bit (ms:List Nat) (i:Nat):∀(es:List Nat) (a:Nat),(es.foldl (fun a j=>a|||(2^j|||ms.getD j 0)) a).testBit i=true↔a.testBit i=true∨∃j∈es,j=i∨(ms.getD j 0).testBit i=true
 |[],a=>by simp
 | j ::es,a=>by
  rw[List.foldl_cons,maskOf_bit ms i es]
  simp only[Nat.testBit_or,Nat.testBit_two_pow,Bool.or_eq_true,decide_eq_true_eq,List.mem_cons]
  constructor
  ·rintro((h|h|h)|⟨k,hk,h⟩)
   ·exact .inl h
   ·exact .inr ⟨j,.inl rfl,.inl h⟩
   ·exact .inr ⟨j,.inl rfl,.inr h⟩
   ·exact .inr ⟨k,.inr hk,h⟩
  ·rintro(h|⟨k,(rfl|hk),h⟩)
   ·exact .inl (.inl h)
   ·exact .inl (.inr h)
   ·exact .inr ⟨k,hk,h⟩
theorem masks_spec:∀(os:List Oper) (ms:List Nat),(masks os ms).length=ms.length+os.length∧(∀k,k<ms.length→(masks os ms)[k]?=ms[k]?)∧
  ∀k o,os[k]?=some o→(masks os ms)[ms.length+k]?=some (maskOf ((masks os ms).take (ms.length+k)) (edgesOf o))
 |[],ms=>by simp[masks]
 | o ::os,ms=>by
  obtain⟨h1,h2,h3⟩:=masks_spec os (ms++[maskOf ms (edgesOf o)])
  simp only[List.length_append,List.length_cons,List.length_nil,Nat.zero_add]at h1 h2 h3
  have htake:(masks os (ms++[maskOf ms (edgesOf o)])).take ms.length=ms:=by
   apply List.ext_getElem?
   intro k
   rw[List.getElem?_take]
   split
   ·rename_i hk
    rw[h2 k (by omega),List.getElem?_append_left hk]
   ·rename_i hk
    rw[List.getElem?_eq_none (by omega)]
  refine⟨by simp only[masks,h1,List.length_cons];omega,fun k hk=>?_,fun k o' ho=>?_⟩
  ·simp only[masks]
   rw[h2 k (by omega),List.getElem?_append_left hk]
  ·simp only[masks]
   cases k with
   | zero=>
    simp only[List.getElem?_cons_zero,Option.some.injEq]at ho
    subst ho
    rw[Nat.add_zero,htake,h2 _ (by omega),List.getElem?_append_right (Nat.le_refl _)]
    simp
   | succ k=>
    simp only[List.getElem?_cons_succ]at ho
    have:=h3 k o' ho
    rwa[show ms.length+1+k=ms.length+(k+1) by omega]at this
theorem infos_get:∀(i:Nat) (os:List Oper) (xs:List AOper) (ms:List Nat) (k:Nat) (o:Oper) (x:AOper) (m:Nat),os[k]?=some o→xs[k]?=some x→ms[k]?=some m→(infos i os xs ms)[k]?=some ⟨i+k,x.cls,x.dst,namesOf o x,m,x.stab⟩
 | i,o::os,x::xs,m::ms,0,o',x',m',h1,h2,h3=>by
  simp only[List.getElem?_cons_zero,Option.some.injEq]at h1 h2 h3
  subst h1;subst h2;subst h3;rfl
 | i,o::os,x::xs,m::ms,k+1,o',x',m',h1,h2,h3=>by
  simp only[List.getElem?_cons_succ]at h1 h2 h3
  simp only[infos,List.getElem?_cons_succ]
  rw[infos_get (i+1) os xs ms k o' x' m' h1 h2 h3,show i+1+k=i+(k+1) by omega]
 |_,[],_,_,_,_,_,_,h,_,_=>by simp at h
 |_,_::_,[],_,_,_,_,_,_,h,_=>by simp at h
 |_,_::_,_::_,[],_,_,_,_,_,_,h=>by simp at h
theorem pairs_get {al:List Nat}:∀(l:List AInfo),pairsB al l=true→∀(j k:Nat) (x y:AInfo),j<k→l[j]?=some x→l[k]?=some y→pairB al x y=true
 |[],_,_,_,_,_,_,h,_=>by simp at h
 | z ::l,hp,j,k,x,y,hjk,hx,hy=>by
  simp only[pairsB,Bool.and_eq_true]at hp
  cases k with
  |zero=>omega
  | succ k=>
   simp only[List.getElem?_cons_succ]at hy
   cases j with
   | zero=>
    simp only[List.getElem?_cons_zero,Option.some.injEq]at hx
    subst hx
    exact List.all_eq_true.1 hp.1 y (List.mem_of_getElem? hy)
   | succ j=>
    simp only[List.getElem?_cons_succ]at hx
    exact pairs_get l hp.2 j k x y (by omega) hx hy
theorem back_get:∀(i:Nat) (os:List Oper),backB i os=true→∀k o,os[k]?=some o→∀j∈edgesOf o,j<i+k
 |_,[],_,_,_,h,_,_=>by simp at h
 | i,z::os,hb,k,o,ho,j,hj=>by
  simp only[backB,Bool.and_eq_true]at hb
  cases k with
  | zero=>
   simp only[List.getElem?_cons_zero,Option.some.injEq]at ho
   subst ho
   have:=List.all_eq_true.1 hb.1 j hj
   simpa[Nat.blt_eq]using this
  | succ k=>
   simp only[List.getElem?_cons_succ]at ho
   have:=back_get (i+1) os hb.2 k o ho j hj
   omega
theorem memB_not {d:Nat} {l:List Nat} (h:memB (some d) l=false):d∉l:=by
 intro hm
 have:memB (some d) l=true:=List.any_eq_true.2 ⟨d,hm,by simp⟩
 rw[h]at this;cases this
end Go.Ae
set_option linter.unusedVariables false
set_option linter.unusedSimpArgs false
namespace Go.Ae
theorem nbeq_self (n:Nat):Nat.beq n n=true:=by simp
theorem All2.length {α β:Type} {R:α→β→Prop} {asx:List α} {bs:List β} (h:All2 R asx bs):bs.length=asx.length:=by
 induction h with
 |nil=>rfl
 |cons _ _ ih=>simp[ih]
theorem All2.get {α β:Type} {R:α→β→Prop} {asx:List α} {bs:List β} (h:All2 R asx bs):∀(k:Nat) (a:α) (b:β),asx[k]?=some a→bs[k]?=some b→R a b:=by
 induction h with
 |nil=>intro k a b h;simp at h
 | cons r _ ih=>
  intro k a b h1 h2
  cases k with
  |zero=>simp only[List.getElem?_cons_zero,Option.some.injEq]at h1 h2;subst h1;subst h2;exact r
  |succ k=>exact ih k a b (by simpa using h1) (by simpa using h2)
def namesAt (is:List AInfo) (k:Nat):List Nat:=
 match is[k]? with
 |some r=>r.names
 |none=>[]
theorem stat_of {P:Program} {nt:Nat} {ops:Array Oper} {ys:List AOper} {ms:List Nat} (hc:All2 (COp P nt ops) ops.toList ys) (hm:ms=masks ops.toList []) (hd:drawB ops.toList ys ms=true):
    Stat P nt ops ys (fun k j=>hasB (ms.getD k 0) j=true) (namesAt (infos 0 ops.toList ys ms)):=by
  unfold drawB at hd
  simp only[Bool.and_eq_true]at hd
  obtain⟨⟨hp,hone,hback⟩,hgrd⟩:=hd
  have hlen:ys.length=ops.size:=by rw[hc.length];simp
  obtain⟨m1,m2,m3⟩:=masks_spec ops.toList []
  rw[←hm]at m1 m2 m3
  have at_:∀(k:Nat) (y:AOper),ys[k]?=some y→∃o m,ops[k]?=some o∧ms[k]?=some m∧(infos 0 ops.toList ys ms)[k]?=some ⟨k,y.cls,y.dst,namesOf o y,m,y.stab⟩:=by
    intro k y hy
    have hk:k<ys.length:=(List.getElem?_eq_some_iff.1 hy).1
    have ho:ops[k]?=some ops[k]:=Array.getElem?_eq_getElem (by omega)
    have hml:k<ms.length:=by rw[m1];simp;omega
    have:=infos_get 0 ops.toList ys ms k ops[k] y ms[k] (by rw[Array.getElem?_toList];exact ho) hy (List.getElem?_eq_getElem hml)
    rw[Nat.zero_add]at this
    exact⟨_,_,ho,List.getElem?_eq_getElem hml,this⟩
  have pr:∀(j k:Nat) (x y:AOper),j<k→ys[j]?=some x→ys[k]?=some y→∃ox oy mx my,ops[j]?=some ox∧ops[k]?=some oy∧ms[j]?=some mx∧ms[k]?=some my∧
      pairB (((infos 0 ops.toList ys ms).filter fun x=>Nat.beq x.cls 1).map (·.i)) ⟨j,x.cls,x.dst,namesOf ox x,mx,x.stab⟩ ⟨k,y.cls,y.dst,namesOf oy y,my,y.stab⟩=true:=by
    intro j k x y hjk hx hy
    obtain⟨ox,mx,a1,a2,a3⟩:=at_ j x hx
    obtain⟨oy,my,b1,b2,b3⟩:=at_ k y hy
    exact⟨ox,oy,mx,my,a1,b1,a2,b2,pairs_get _ hp j k _ _ hjk a3 b3⟩
  have nm:∀(k:Nat) (o:Oper) (y:AOper),ops[k]?=some o→ys[k]?=some y→namesAt (infos 0 ops.toList ys ms) k=namesOf o y:=by
    intro k o y ho hy
    obtain⟨o',m,a1,a2,a3⟩:=at_ k y hy
    rw[ho]at a1;obtain rfl:=Option.some.inj a1
    unfold namesAt;rw[a3]
  have loose:∀(j k:Nat) (x y:AOper),j<k→ys[j]?=some x→ys[k]?=some y→¬hasB (ms.getD k 0) j=true→
      ¬(x.cls=2∧y.cls=2)∧¬(x.cls=1∧y.cls≠1)∧memB x.dst (namesAt (infos 0 ops.toList ys ms) k)=false∧memB y.dst (namesAt (infos 0 ops.toList ys ms) j)=false∧
      (x.cls=2→y.cls=0→∀i z,ys[i]?=some z→z.cls=1→j<i→i<k→False)∧(∀u,x.stab=some u→x.cls=0→y.cls=2→k≤u):=by
    intro j k x y hjk hx hy hn
    obtain⟨ox,oy,mx,my,a1,b1,a2,b2,hh⟩:=pr j k x y hjk hx hy
    have e:ms.getD k 0=my:=by simp[List.getD_eq_getElem?_getD,b2]
    rw[e]at hn
    have hn:hasB my j=false:=by cases h:hasB my j<;>simp_all
    rw[nm k oy y b1 hy,nm j ox x a1 hx]
    unfold pairB at hh
    simp only[hn,Bool.false_or,Bool.and_eq_true,Bool.not_eq_true']at hh
    obtain⟨⟨⟨⟨⟨⟨h1,h2⟩,h3⟩,h4⟩,h5⟩,h6⟩,h7⟩:=hh
    refine⟨fun c=>?_,fun c=>?_,h3,h4,fun c d i z hz hzc hji hik=>?_,fun u hu c d=>?_⟩
    · rw[c.1,c.2]at h1;simp at h1
    · have h2':(Nat.beq x.cls 1&& !Nat.beq y.cls 1)=false:=h2
      rw[c.1]at h2'
      simp only[nbeq_self,Bool.true_and,Bool.not_eq_false']at h2'
      exact c.2 (Nat.eq_of_beq_eq_true h2')
    · rw[c,d]at h5
      obtain⟨oz,mz,z1,z2,z3⟩:=at_ i z hz
      have hin:i∈((infos 0 ops.toList ys ms).filter fun x=>Nat.beq x.cls 1).map (·.i):=List.mem_map.2 ⟨_,List.mem_filter.2 ⟨List.mem_of_getElem? z3,by simp[hzc]⟩,rfl⟩
      have:(((infos 0 ops.toList ys ms).filter fun x=>Nat.beq x.cls 1).map (·.i)).any (fun i=>Nat.blt j i&&Nat.blt i k)=true:=List.any_eq_true.2 ⟨i,hin,by simp[Nat.blt_eq,hji,hik]⟩
      rw[this]at h5;simp at h5
    · rw[hu]at h6
      simp only[c,d,nbeq_self,Bool.and_self,Bool.not_true,Bool.false_or]at h6
      exact Nat.le_of_ble_eq_true h6
  refine⟨hlen,fun k o x ho hx=>hc.get k o x (by rw[Array.getElem?_toList];exact ho) hx,?_,?_,?_,?_,?_,?_,?_,?_,?_,?_⟩
  · intro k o ho e he hb
    have:=back_get 0 ops.toList hback k o (by rw[Array.getElem?_toList];exact ho) e.on (List.mem_map.2 ⟨e,List.mem_filter.2 ⟨by simpa using he,hb⟩,rfl⟩)
    omega
  · intro S hS k o ho hedge i hi
    have ho':ops.toList[k]?=some o:=by rw[Array.getElem?_toList];exact ho
    have hmk:=m3 k o ho'
    simp only[List.length_nil,Nat.zero_add]at hmk
    rw[show ms.getD k 0=maskOf (ms.take k) (edgesOf o) by simp[List.getD_eq_getElem?_getD,hmk],hasB_eq]at hi
    unfold maskOf at hi
    rw[maskOf_bit]at hi
    rcases hi with hi|⟨j,hj,hji⟩
    · simp at hi
    · obtain⟨e,he,rfl⟩:=List.mem_map.1 hj
      obtain⟨he1,he2⟩:=List.mem_filter.1 he
      have hSe:S e.on:=hedge e (by simpa using he1) he2
      rcases hji with rfl|hji
      · exact hSe
      · refine hS e.on hSe i ?_
        rw[hasB_eq]
        by_cases hlt:e.on<k
        · simp only[List.getD_eq_getElem?_getD,List.getElem?_take,if_pos hlt]at hji
          simpa[List.getD_eq_getElem?_getD]using hji
        · simp[List.getD_eq_getElem?_getD,List.getElem?_take,hlt]at hji
  · intro j k x y hjk hx hy hxc hyc
    exact Classical.byContradiction fun hn=>(loose j k x y hjk hx hy hn).1 ⟨hxc,hyc⟩
  · intro j k x y hjk hx hy hxc hyc
    exact Classical.byContradiction fun hn=>(loose j k x y hjk hx hy hn).2.1 ⟨hxc,hyc⟩
  · intro j i k x z y hji hik hx hz hy hxc hzc hyc
    exact Classical.byContradiction fun hn=>(loose j k x y (by omega) hx hy hn).2.2.2.2.1 hxc hyc i z hz hzc hji hik
  · intro j k x y hjk hx hy hn
    obtain⟨_,_,h3,h4,_,_⟩:=loose j k x y hjk hx hy hn
    exact⟨fun d hd=>memB_not (by rw[←hd];exact h3),fun d hd=>memB_not (by rw[←hd];exact h4)⟩
  · have key:∀(j k:Nat) (x y:AOper) (d:Nat),j<k→ys[j]?=some x→ys[k]?=some y→x.dst=some d→y.dst=some d→False:=by
      intro j k x y d hjk hx hy hd hd'
      obtain⟨ox,oy,mx,my,a1,b1,a2,b2,hh⟩:=pr j k x y hjk hx hy
      unfold pairB at hh
      simp only[Bool.and_eq_true,hd,hd',sameB,nbeq_self,Bool.not_true]at hh
      exact absurd hh.2 (by simp)
    intro j k x y d hx hy hd hd'
    rcases Nat.lt_trichotomy j k with c|c|c
    · exact(key j k x y d c hx hy hd hd').elim
    · exact c
    · exact(key k j y x d c hy hx hd' hd).elim
  · intro k o x ho hx
    rw[nm k o x ho hx]
    unfold namesOf
    refine⟨fun t ht=>?_,fun t ht=>?_,fun d b hd=>?_⟩
    · exact List.mem_append.2 (.inl (List.mem_filterMap.2 ⟨.tmp t,by simpa using ht,rfl⟩))
    · exact List.mem_append.2 (.inr (List.mem_append.2 (.inl (List.mem_filterMap.2 ⟨.t t,ht,rfl⟩))))
    · rw[hd];exact List.mem_append.2 (.inr (List.mem_append.2 (.inr (.head _))))
  · intro k x hx hxc
    obtain⟨o,m,a1,a2,a3⟩:=at_ k x hx
    have h1:=List.all_eq_true.1 hgrd x (List.mem_of_getElem? hx)
    have h2:=List.all_eq_true.1 hone _ (List.mem_of_getElem? a3)
    simp only[hxc,nbeq_self,Bool.not_true,Bool.false_or]at h1
    unfold oneB at h2
    simp only[hxc,nbeq_self,Bool.not_true,Bool.false_or,Bool.and_eq_true]at h2
    rw[nm k o x a1 hx]
    exact⟨by simpa using h1,by simpa using h2.2⟩
  · intro k x u hx hxc hu
    obtain⟨o,m,a1,a2,a3⟩:=at_ k x hx
    have h2:=List.all_eq_true.1 hone _ (List.mem_of_getElem? a3)
    unfold oneB at h2
    simp only[hu,Bool.and_eq_true]at h2
    refine⟨Nat.le_of_ble_eq_true h2.1.1,by simpa[Nat.blt_eq]using h2.1.2,fun j y hy hkj hyc hn=>?_⟩
    exact(loose k j x y hkj hx hy hn).2.2.2.2.2 u hu hxc hyc
end Go.Ae
set_option linter.unusedVariables false
set_option linter.unusedSimpArgs false
namespace Go.Ae
def cres (P:Program):List ResultVar→Option (List ARes)
 |[]=>some []
 | .tmp t::r=>match cres P r with
  |some l=>some (.tmp t::l)
  |none=>none
 | .cell ad t::r=>match cagg P t,csz P t,cres P r with
  |some a,some n,some l=>some (.cell ad a (if a then n else 1)::l)
  |_,_,_=>none
def cfn (P:Program) (fn:Func) (c:Code):Option AFn:=
 match cres P fn.results.toList with
 |some rs=>some ⟨fn.ntmps,rs,ccode P fn.ntmps c⟩
 |none=>none
section
variable {P:Program} {W0:World} {base nt:Nat} {E:Env} {ρ ρ':Rho} {h h':Hp} {w w':World} {s s':St} {a a':Act} {v:AV}
theorem coper_sound {ops:Array Oper} {o:Oper} {x:AOper} (h:coper P nt ops o=some x):COp P nt ops o x:=by
 unfold coper at h
 split at h
 ·rename_i g hg
  split at h
  ·rename_i hd
   obtain rfl:=Option.some.inj h
   refine⟨?_,rfl,fun d hd'=>?_,hg⟩
   ·cases cop P o with
    |none=>exact .inr rfl
    |some a=>exact .inl rfl
   ·have hd':o.dst=some d:=hd'
    rw[hd']at hd
    simpa[Nat.blt_eq]using hd
  ·cases h
 ·cases h
theorem copers_sound {ops:Array Oper}:∀{os:List Oper} {xs:List AOper},copers P nt ops os=some xs→All2 (COp P nt ops) os xs
 |[],xs,h=>by obtain rfl:=Option.some.inj h;exact .nil
 | o ::os,xs,h=>by
  unfold copers at h
  split at h
  ·rename_i x hx
   split at h
   ·rename_i ys hys
    obtain rfl:=Option.some.inj h
    exact .cons (coper_sound hx) (copers_sound hys)
   ·cases h
  ·cases h
theorem stabs_sound {ops:Array Oper} {ch:List (Nat×Nat)} {os:List Oper} {xs:List AOper} (h:All2 (COp P nt ops) os xs):∀(i:Nat) (ms:List Nat),All2 (COp P nt ops) os (stabs ch i xs ms):=by
 induction h with
 |nil=>intro i ms;cases ms<;>exact .nil
 | cons r rs ih=>
  rename_i o x os xs
  intro i ms
  cases ms with
  |nil=>exact .cons r rs
  | cons m ms=>
   simp only[stabs]
   refine .cons ?_ (ih (i+1) ms)
   split
   ·exact⟨r.op,r.dst,r.lt,r.grd⟩
   ·exact r
def resV (tmps:Array Value):ResultVar→Sem Value
 | .tmp t=>pure (tmps.getD t undef)
 | .cell a t=>do loadVar t (←asAddr (tmps.getD a undef))
theorem results_eq (fn:Func) (tmps:Array Value):results fn tmps=(do let vs ←fn.results.mapM (resV tmps);pure (if h:vs.size=1 then vs[0]else .tuple vs)):=by
 unfold results
 congr
theorem results_sound (S:Sim W0 base nt ρ s a w):∀(rv:List ResultVar) (rs:List ARes) (vs:List AV),cres P rv=some rs→ressA s rs=some vs→
  (rv.mapM (resV a.tmps)).run P w= .ok (encs ρ vs) w∧oks ρ s.hp.next vs
 | [],rs,vs,hc,hr=>by
  obtain rfl:=Option.some.inj hc
  obtain rfl:=Option.some.inj hr
  exact⟨by simp[encs],trivial⟩
 | .tmp t::rv,rs,vs,hc,hr=>by
  simp only[cres]at hc
  split at hc
  ·rename_i l hl
   obtain rfl:=Option.some.inj hc
   simp only[ressA,resA]at hr
   split at hr
   ·rename_i v vs' hv hvs
    obtain rfl:=Option.some.inj hr
    obtain rfl:=Option.some.inj hv
    obtain⟨i1,i2⟩:=results_sound S rv l vs' hl hvs
    obtain⟨t1,t2⟩:=S.tmp t
    refine⟨?_,t2,i2⟩
    rw[List.mapM_cons]
    simp only[Sem.run_bind,resV,Sem.run_pure,Result.andThen_ok,i1,encs]
    rw[t1];rfl
   ·cases hr
  ·cases hc
 | .cell ad t::rv,rs,vs,hc,hr=>by
  simp only[cres]at hc
  split at hc
  ·rename_i ag n l hag hn hl
   obtain rfl:=Option.some.inj hc
   simp only[ressA]at hr
   split at hr
   ·rename_i v vs' hv hvs
    obtain rfl:=Option.some.inj hr
    obtain⟨i1,i2⟩:=results_sound S rv l vs' hl hvs
    obtain⟨t1,t2⟩:=S.tmp ad
    have hvv:(s.tm.get ad).getD und=val s.tm (.t ad):=rfl
    simp only[resA,hvv]at hv
    split at hv
    ·rename_i b o hb
     rw[hb]at t1
     split at hv
     ·rename_i cs own st hg
      by_cases hlen:o+(if ag then n else 1)≤cs.length
      ·rw[if_pos hlen]at hv
       obtain⟨h1,h2⟩:=loadVar_sound S.rel hag hn hg hlen (v:=v) (by cases ag<;>simpa using hv)
       refine⟨?_,h2,i2⟩
       rw[List.mapM_cons]
       simp only[Sem.run_bind,resV,Sem.run_pure,Result.andThen_ok,i1,encs,t1,enc,asAddr,h1]
      ·rw[if_neg hlen]at hv;cases hv
     ·cases hv
    ·cases hv
   ·cases hr
  ·cases hc
theorem result_sound (S:Sim W0 base nt ρ s a w) {fn:Func} {rs:List ARes} (hc:cres P fn.results.toList=some rs) (hr:resultA s rs=some v):(results fn a.tmps).run P w= .ok (enc ρ v) w∧ok ρ s.hp.next v:=by
 unfold resultA at hr
 rw[results_eq]
 have key:∀vs,ressA s rs=some vs→(fn.results.mapM (resV a.tmps)).run P w= .ok (encs ρ vs).toArray w∧oks ρ s.hp.next vs:=by
  intro vs hvs
  obtain⟨h1,h2⟩:=results_sound S _ _ _ hc hvs
  refine⟨?_,h2⟩
  rw[Array.mapM_eq_mapM_toList,map_eq_pure_bind]
  simp only[Sem.run_bind,h1,Result.andThen_ok,Sem.run_pure]
 split at hr
 ·rename_i u hu
  obtain rfl:=Option.some.inj hr
  obtain⟨h1,h2⟩:=key _ hu
  refine⟨?_,h2.1⟩
  simp only[Sem.run_bind]
  rw[h1]
  simp[encs]
 ·rename_i vs hne hvs
  obtain rfl:=Option.some.inj hr
  obtain⟨h1,h2⟩:=key _ hvs
  refine⟨?_,h2⟩
  simp only[Sem.run_bind]
  rw[h1]
  simp only[Result.andThen_ok,Sem.run_pure,List.size_toArray,encs_length]
  split
  ·rename_i hl
   obtain⟨u,rfl⟩:=List.length_eq_one_iff.1 hl
   exact absurd rfl (hne u)
  ·simp[enc]
 ·cases hr
def FnsOk (P:Program) (E:Env):Prop:=∀f afn,E.fns f=some afn→∃fn c,P.funcs[f]?=some fn∧(fn.name== "runtime.NumGoroutine")=false∧fn.body=some c∧cfn P fn c=some afn
def PrimsOk (P:Program) (W0:World) (base:Nat) (E:Env):Prop:=∀f p,E.prims f=some p→∀args h v h',p args h=some (v,h')→∀ρ w,Go.RowKit.Below base W0 w→HRel base ρ h w→oks ρ h.next args→Does P base ρ h w (callFunc f (encs ρ args).toArray) v h'
def ExtsOk (P:Program) (W0:World) (base:Nat) (E:Env):Prop:=∀f e,E.exts f=some e→∀args v,e args=some v→∀ρ h w,Go.RowKit.Below base W0 w→HRel base ρ h w→oks ρ h.next args→Does P base ρ h w (callFunc f (encs ρ args).toArray) v h
structure EnvOk (P:Program) (W0:World) (base:Nat) (E:Env):Prop where
 fns:FnsOk P E
 prims:PrimsOk P W0 base E
 exts:ExtsOk P W0 base E
 meth:MethOk P E
 later:PrimsLater E
 mixed:P.follows .mixedOrders=true
def CodeOk (P:Program) (W0:World) (base:Nat) (E:Env) (n:Nat):Prop:=∀(c:Code) (s:St) (e:Ex) (s':St) (nt:Nat),exec E n (ccode P nt c) s=some (e,s')→∀ρ a w,Sim W0 base nt ρ s a w→c.wp P (QOf W0 base nt ρ s.hp w e s') a w
theorem Sim.drew (S:Sim W0 base nt ρ s a w) (d:Nat):Sim W0 base nt ρ s a { w with drawn:=d }:=⟨S.rel.drawn d,S.glob.trans ⟨rfl,rfl,rfl,Nat.le_refl _,fun _ _=>rfl⟩,S.defers,S.size,S.tmp⟩
theorem wp_loop_count {c:Code} {Q:Exit→Act→World→Prop} (J:Nat→Act→World→Prop) {n:Nat} (h0:J n a w) (round:∀n a w,J n a w→c.wp P (Exit.then (fun a' w'=>∃n',n'<n∧J n' a' w') Q) a w):(Code.loop c).wp P Q a w:=by
 intro b k cs
 have key:∀n a w,J n a w→∃e a' w',Q e a' w'∧Arrives P (lone (b.at a (.code c:: .inLoop c::k)) cs w) b k cs e a' w':=by
  intro n
  induction n using Nat.strongRecOn with
  | _ n ih=>
   intro a w hI
   obtain⟨e,a₁,w₁,hq,harr⟩:=round n a w hI b (.inLoop c::k) cs
   cases e with
   | normal=>
    obtain⟨n',hlt,hI₁⟩:=hq
    obtain⟨e₂,a₂,w₂,hq₂,harr₂⟩:=ih n' hlt a₁ w₁ hI₁
    exact⟨e₂,a₂,w₂,hq₂,.of_steps (Steps.trans harr (.one step_inLoop)) harr₂⟩
   |exit id=>exact⟨_,a₁,w₁,hq,.pass (x:= .inLoop c) rfl (fun _ _=> .inl (by simp)) harr⟩
   |goto l=>exact⟨_,a₁,w₁,hq,.pass (x:= .inLoop c) rfl (fun _ _=> .inl (by simp)) harr⟩
   |ret=>exact⟨_,a₁,w₁,hq,.pass (x:= .inLoop c) rfl (fun _ _=> .inl (by simp)) harr⟩
   |panic ch=>exact⟨_,a₁,w₁,hq,.pass (x:= .inLoop c) rfl (fun _ _=> .inl (by simp)) harr⟩
   |outgrown=>exact⟨_,a₁,w₁,hq,.pass (x:= .inLoop c) rfl (fun _ _=> .inl (by simp)) harr⟩
 obtain⟨e,a',w',hq,harr⟩:=key _ a w h0
 exact⟨e,a',w',hq,.of_steps (.one step_loop) harr⟩
theorem code_sound (EO:EnvOk P W0 base E) (n:Nat) (IH:∀m,m<n→CodeOk P W0 base E m) (CO:∀m,m<n→CallsOk P W0 base E (exec E m)):CodeOk P W0 base E n:=by
 intro c s e s' nt hr ρ a w S
 cases n with
 |zero=>cases hr
 | succ m=>
  have hI:=IH m (by omega)
  rw[exec_succ]at hr
  cases c
  case skip=>
   obtain⟨rfl,rfl⟩:=pair_inj (show some (Ex.nrm,s)=some (e,s') from hr)
   exact wp_skip ⟨trivial,ρ,S,Ext.refl S.rel⟩
  case label l=>
   obtain⟨rfl,rfl⟩:=pair_inj (show some (Ex.nrm,s)=some (e,s') from hr)
   exact wp_label ⟨trivial,ρ,S,Ext.refl S.rel⟩
  case exit id=>
   obtain⟨rfl,rfl⟩:=pair_inj (show some (Ex.exit id,s)=some (e,s') from hr)
   exact wp_exit ⟨rfl,ρ,S,Ext.refl S.rel⟩
  case ret=>
   obtain⟨rfl,rfl⟩:=pair_inj (show some (Ex.ret,s)=some (e,s') from hr)
   exact wp_ret ⟨trivial,ρ,S,Ext.refl S.rel⟩
  case seq x y=>
   have hr:s_seq (ccode P nt x) (ccode P nt y) E (exec E m) s=some (e,s'):=hr
   unfold s_seq at hr
   refine wp_seq ?_
   split at hr
   ·rename_i s1 h1
    refine wp_mono (hI x s .nrm s1 nt h1 ρ a w S) fun e1 a1 w1 hq=>?_
    obtain⟨q1,ρ1,S1,X1⟩:=hq
    cases e1<;>first|exact q1.elim|skip
    exact wp_mono (hI y s1 e s' nt hr ρ1 a1 w1 S1) fun e2 a2 w2 hq2=>QOf.trans X1 hq2
   ·rename_i hne
    refine wp_mono (hI x s e s' nt hr ρ a w S) fun e1 a1 w1 hq=>?_
    cases e1<;>first|exact hq|skip
    exfalso
    obtain⟨q1,_⟩:=hq
    cases e<;>first|exact q1.elim|skip
    exact hne s' hr
  case scope c=>
   have hr:s_seq .skip (ccode P nt c) E (exec E m) s=some (e,s'):=hr
   unfold s_seq at hr
   cases m with
   |zero=>cases hr
   | succ k=>
    have h1:exec E (k+1) .skip s=some (.nrm,s):=by rw[exec_succ];rfl
    rw[h1]at hr
    refine wp_scope_straight (wp_mono (hI c s e s' nt hr ρ a w S) fun e1 a1 w1 hq=>?_)
    cases e1<;>first|exact hq|(obtain⟨q1,_⟩:=hq;cases e<;>exact q1.elim)
  case cond x c1 c2=>
   simp only[ccode]at hr
   split at hr
   ·rename_i y hy
    have hr:s_cond y (ccode P nt c1) (ccode P nt c2) E (exec E m) s=some (e,s'):=hr
    unfold s_cond at hr
    obtain⟨e1,_⟩:=S.evals _ _ hy
    split at hr
    ·rename_i g;exact wp_cond_true (by rw[e1,g];simp[enc]) (hI c1 s e s' nt hr ρ a w S)
    ·rename_i g;exact wp_cond_false (by rw[e1,g];simp[enc]) (hI c2 s e s' nt hr ρ a w S)
    ·cases hr
   ·cases hr
  case block id c=>
   have hr:s_block id (ccode P nt c) E (exec E m) s=some (e,s'):=hr
   unfold s_block at hr
   refine wp_block ?_
   split at hr
   ·rename_i i s1 h1
    split at hr
    ·rename_i hid
     obtain⟨rfl,rfl⟩:=pair_inj hr
     obtain rfl:=Nat.eq_of_beq_eq_true hid
     refine wp_mono (hI c s _ _ nt h1 ρ a w S) fun e1 a1 w1 hq=>?_
     obtain⟨q1,q2⟩:=hq
     cases e1<;>first|exact q1.elim|skip
     simp only at q1
     subst q1
     simp only[Exit.inBlock,if_true]
     exact⟨trivial,q2⟩
    ·rename_i hid
     obtain⟨rfl,rfl⟩:=pair_inj hr
     refine wp_mono (hI c s _ _ nt h1 ρ a w S) fun e1 a1 w1 hq=>?_
     obtain⟨q1,q2⟩:=hq
     cases e1<;>first|exact q1.elim|skip
     simp only at q1
     subst q1
     have:¬i=id:=fun e=>by subst e;simp at hid
     simp only[Exit.inBlock,if_neg this]
     exact⟨rfl,q2⟩
   ·rename_i hne
    refine wp_mono (hI c s e s' nt hr ρ a w S) fun e1 a1 w1 hq=>?_
    cases e1<;>first|exact hq|skip
    exfalso
    obtain⟨q1,_⟩:=hq
    cases e<;>first|exact q1.elim|skip
    exact hne _ s' hr
  case region id ops draw=>
   cases draw with
   | false=>
    simp only[ccode]at hr
    split at hr
    ·rename_i xs hxs
     have hr:exec E (m+1) (.reg xs) s=some (e,s'):=by rw[exec_succ];exact hr
     have hnrm:=reg_nrm _ _ _ _ _ hr
     subst hnrm
     have:=reg_sound (Q:=QOf W0 base nt ρ s.hp w .nrm s') EO.meth (m+1) CO (m+1) 0 ops.toList xs ρ s a w .nrm s' (Nat.le_refl _) (by simp) (copers_sound hxs) S hr (fun a' w' ρ' S' X'=>⟨trivial,ρ',S',X'⟩)
     refine wp_region ?_
     rw[List.range_eq_range']
     simpa using this
    ·cases hr
   | true=>
    simp only[ccode]at hr
    split at hr
    ·rename_i xs hxs
     split at hr
     ·rename_i hd
      have hr:exec E m (.drun (stabs (chains 0 xs (masks ops.toList [])) 0 xs (masks ops.toList [])) 0 s.hp.clk []) s=some (e,s'):=hr
      obtain⟨rfl,ss,vs,t1,t2,T,_⟩:=drun_trace m _ _ _ _ _ _ _ hr
      have ST:=stat_of (stabs_sound (copers_sound hxs) 0 (masks ops.toList [])) rfl hd
      refine wp_region_any EO.mixed ?_
      subst t1
      have hlen:=ST.size
      have S1:=S.drew (w.drawn+1)
      have HQ:∀a' w' ρ',Sim W0 base nt ρ' (ss (stabs (chains 0 xs (masks ops.toList [])) 0 xs (masks ops.toList [])).length) a' w'→Ext base ρ (ss 0).hp { w with drawn:=w.drawn+1 } ρ' (ss (stabs (chains 0 xs (masks ops.toList [])) 0 xs (masks ops.toList [])).length).hp w'→QOf W0 base nt ρ (ss 0).hp w .nrm s' .normal a' w':=by
       intro a' w' ρ' S' X'
       rw[Nat.zero_add]at t2
       rw[t2]at S' X'
       exact⟨trivial,ρ',S',(Ext.drawn S.rel _).trans X'⟩
      refine any_sound ST EO.later EO.meth (fun k hk=>CO k (by omega)) T S1 HQ ops.size _ (fun _=>False) 0 ρ a _ (fun _=>(0,0)) (by simp) (fun k=>?_) ?_ ?_
      ·simp only[Array.getD_eq_getD_getElem?,Array.getElem?_replicate,false_iff]
       split<;>simp
      ·refine Nat.le_trans List.countP_le_length ?_
       simp
      ·exact⟨Nat.zero_le _,fun j hj=>hj.elim,fun k x hx hc=>by simp,fun k x hx hc hk=>by omega,Ext.refl S1.rel,S.defers,S.size,fun k x hx hS=>hS.elim,fun k x z hx hS=>hS.elim,fun k k' x x' hx hx' hS=>hS.elim,fun d hd=>rfl⟩
     ·cases hr
    ·cases hr
  case loop c=>
   refine wp_loop_count (fun k a1 w1=>k≤m+1∧∃s1 ρ1,exec E k (.loop (ccode P nt c)) s1=some (e,s')∧Sim W0 base nt ρ1 s1 a1 w1∧Ext base ρ s.hp w ρ1 s1.hp w1) (n:=m+1) ⟨Nat.le_refl _,s,ρ,by rw[exec_succ];exact hr,S,Ext.refl S.rel⟩ ?_
   rintro k a1 w1 ⟨hk,s1,ρ1,hr1,S1,X1⟩
   cases k with
   |zero=>cases hr1
   | succ k=>
    rw[exec_succ]at hr1
    have hr1:s_loop (ccode P nt c) E (exec E k) s1=some (e,s'):=hr1
    unfold s_loop at hr1
    split at hr1
    ·rename_i s2 h2
     refine wp_mono (IH k (by omega) c s1 .nrm s2 nt h2 ρ1 a1 w1 S1) fun e1 a2 w2 hq=>?_
     obtain⟨q1,ρ2,S2,X2⟩:=hq
     cases e1<;>first|exact q1.elim|skip
     exact⟨k,by omega,by omega,s2,ρ2,hr1,S2,X1.trans X2⟩
    ·rename_i hne
     refine wp_mono (IH k (by omega) c s1 e s' nt hr1 ρ1 a1 w1 S1) fun e1 a2 w2 hq=>?_
     have hq':=QOf.trans X1 hq
     cases e1<;>first|exact hq'|skip
     exfalso
     obtain⟨q1,_⟩:=hq
     cases e<;>first|exact q1.elim|skip
     exact hne s' hr1
  all_goals cases hr
theorem get_enter:∀(args:List AV) (i:Nat) (t:T AV) (k:Nat),(enterA args i t).get k=if i≤k∧k<i+args.length then args[k-i]? else t.get k
 |[],i,t,k=>by simp[enterA];omega
 | v ::r,i,t,k=>by
  rw[show enterA (v::r) i t=enterA r (i+1) (t.set i v) from rfl,get_enter r (i+1) (t.set i v) k,T.get_set]
  simp only[List.length_cons]
  by_cases h1:k=i
  ·subst h1
   rw[if_neg (by omega),if_pos rfl,if_pos (by omega)];simp
  ·by_cases h2:i+1≤k∧k<i+1+r.length
   ·rw[if_pos h2,if_pos (by omega),show k-i=(k-(i+1))+1 by omega];rfl
   ·rw[if_neg h2,if_neg h1,if_neg (by omega)]
theorem calls_sound (EO:EnvOk P W0 base E) (n:Nat) (CD:CodeOk P W0 base E n):CallsOk P W0 base E (exec E n):=by
 intro f args h v h' hr ρ w B R hok
 unfold callA at hr
 split at hr
 ·rename_i e he
  split at hr
  ·rename_i u hu
   obtain⟨rfl,rfl⟩:=pair_inj hr
   exact EO.exts f e he args u hu ρ h w B R hok
  ·cases hr
 ·split at hr
  ·rename_i p hp
   exact EO.prims f p hp args h v h' hr ρ w B R hok
  ·split at hr
   ·cases hr
   ·rename_i afn hafn
    obtain⟨fn,c,hf,hnm,hb,hcf⟩:=EO.fns f afn hafn
    unfold cfn at hcf
    split at hcf
    ·rename_i rs hrs
     obtain rfl:=Option.some.inj hcf
     have S:Sim W0 base fn.ntmps ρ { tm:=enterA args 0 .nil,hp:=h } { tmps:=(encs ρ args).toArray++Array.replicate (fn.ntmps-(encs ρ args).toArray.size) undef,defers:=[] } w:=by
      refine⟨R,B,rfl,by simp;omega,fun t=>?_⟩
      simp only[val,get_enter,Nat.zero_le,true_and,Nat.zero_add,Nat.sub_zero,Array.getD_eq_getD_getElem?]
      by_cases ht:t<args.length
      ·rw[if_pos ht,Array.getElem?_append_left (by simpa[encs_length]using ht)]
       obtain⟨u,hu⟩:∃u,args[t]?=some u:=⟨args[t],List.getElem?_eq_getElem ht⟩
       simp only[List.getElem?_toArray,encs_map,List.getElem?_map,hu,Option.map_some,Option.getD_some]
       exact⟨trivial,(oks_iff _ _ _).1 hok u (List.mem_of_getElem? hu)⟩
      ·rw[if_neg ht,Array.getElem?_append_right (by simp[encs_length];omega),Array.getElem?_replicate]
       simp only[T.get_nil,Option.getD_none,enc_und]
       exact⟨by split<;>rfl,trivial⟩
     have run:(callFunc f (encs ρ args).toArray).run P w= .ok (.enter f (encs ρ args).toArray) w:=by
      have hnm':¬fn.name= "runtime.NumGoroutine" :=fun e=>by rw[e]at hnm;exact absurd hnm (by decide)
      simp[callFunc,run_program,hf,hnm',hb]
     unfold Does
     rw[run]
     have fin:∀(e:Ex) (s:St),(∀i,e≠ .exit i)→exec E n (ccode P fn.ntmps c) { tm:=enterA args 0 .nil,hp:=h }=some (e,s)→resultA s rs=some v→s.hp=h'→Takes P (Gives base ρ h w v h') (.ok (.enter f (encs ρ args).toArray) w):=by
      rintro e s hne hx hres rfl
      refine calls_of_wp hf hb (wp_mono (CD c _ e s fn.ntmps hx ρ _ w S) fun e1 a1 w1 hq=>?_)
      obtain⟨q1,ρ1,S1,X1⟩:=hq
      obtain⟨r1,r2⟩:=result_sound S1 hrs hres
      cases e1<;>cases e<;>first|exact q1.elim|exact⟨S1.defers,_,r1,_,rfl,ρ1,X1,r2,rfl⟩|exact absurd rfl (hne _)
     split at hr
     ·cases hr
     ·rename_i e s hne hx
      split at hr
      ·rename_i u hu
       obtain⟨rfl,rfl⟩:=pair_inj hr
       exact fin e s (fun i hi=>hne i hi) hx hu rfl
      ·cases hr
     ·cases hr
    ·cases hcf
theorem sound (EO:EnvOk P W0 base E):∀n,CodeOk P W0 base E n∧CallsOk P W0 base E (exec E n):=by
 intro n
 induction n using Nat.strongRecOn with
 | _ n ih=>
  have h1:=code_sound EO n (fun m hm=>(ih m hm).1) (fun m hm=>(ih m hm).2)
  exact⟨h1,calls_sound EO n h1⟩
theorem call_sound (EO:EnvOk P W0 base E) {n f:Nat} {args:List AV} (hr:call E n f args h=some (v,h')) (B:Go.RowKit.Below base W0 w) (R:HRel base ρ h w) (hok:oks ρ h.next args):Does P base ρ h w (callFunc f (encs ρ args).toArray) v h':=
 (sound EO n).2 f args h v h' hr ρ w B R hok
end
end Go.Ae
set_option linter.unusedVariables false
set_option linter.unusedSimpArgs false
namespace Go.Ae
section
variable {P:Program} {W0:World} {base:Nat} {ρ:Rho} {h h':Hp} {w w':World} {v:AV} {f:FuncId} {args:Array Value}
theorem Ext.grown (R:HRel base ρ h w) (B:Go.RowKit.Below w.heap.size w w'):Ext base ρ h w ρ h w':=by
  refine⟨Agree.refl _ _,Nat.le_refl _,⟨Nat.le_trans R.size B.size,R.lt,?_,?_,?_,R.apart⟩,⟨B.os,B.tape,B.output,B.size,fun k hk _=>B.block k hk⟩,fun t o ht ho=> .inr ⟨t,o,ht,ho,rfl⟩⟩
  · intro t cs own st ht
    have r:=R.row t cs own st ht
    refine r.later (Agree.refl _ _) (Nat.le_refl _) (R.lt _ _ ht) B.size ?_
    cases own with
    |true=>exact .inr (B.block _ (r.own1 rfl).2.1)
    | false => rcases r.not1 rfl with c|c
               · exact .inl ⟨c,rfl⟩
               · exact .inr (B.block _ (Nat.lt_of_lt_of_le c R.size))
  · intro t s p st ht
    rw[B.block _ (R.owned_lt ht rfl).2];exact R.iter t s p st ht
  · intro t es st ht
    rw[B.block _ (R.owned_lt ht rfl).2];exact R.map t es st ht
def canEnter (P:Program) (f:FuncId):Bool:=
 match P.funcs[f]? with
 |some fn=>fn.body.isSome&& !(fn.name== "runtime.NumGoroutine")
 |none=>false
theorem run_enter (hc:canEnter P f=true) (args:Array Value) (w:World):(callFunc f args).run P w= .ok (.enter f args) w:=by
 unfold canEnter at hc
 split at hc
 ·rename_i fn hf
  simp only[Bool.and_eq_true,Bool.not_eq_true']at hc
  obtain⟨c,hb⟩:∃c,fn.body=some c:=by cases hh:fn.body with
   |none=>rw[hh]at hc;simp at hc
   |some c=>exact⟨c,rfl⟩
  have hn:¬fn.name= "runtime.NumGoroutine" :=fun e=>by rw[e]at hc;exact absurd hc.2 (by decide)
  simp[callFunc,run_program,hf,hn,hb]
 ·cases hc
theorem Does.call (hc:canEnter P f=true) (H:Calls P f args w fun e w'=>∃ρ',e= .returned (enc ρ' v)∧ok ρ' h'.next v∧Ext base ρ h w ρ' h' w'):Does P base ρ h w (callFunc f args) v h':=by
 unfold Does
 rw[run_enter hc]
 exact H.mono fun e w' ⟨ρ',h1,h2,h3⟩=>⟨_,h1,ρ',h3,h2,rfl⟩
theorem Does.grown (hc:canEnter P f=true) (R:HRel base ρ h w) (hv:ok ρ h.next v) (H:Calls P f args w fun e w'=>e= .returned (enc ρ v)∧Go.RowKit.Below w.heap.size w w'):Does P base ρ h w (callFunc f args) v h:=
 Does.call hc (H.mono fun e w' ⟨h1,h2⟩=>⟨ρ,h1,hv,Ext.grown R h2⟩)
theorem below_drewN (w:World) (n:Nat):Go.RowKit.Below w.heap.size w (w.drewN n):=⟨rfl,rfl,rfl,Nat.le_refl _,fun _ _=>rfl⟩
theorem below_grow (w:World) (n:Nat) (os:Array Obj):Go.RowKit.Below w.heap.size w (Go.Sort.grow (w.drewN n) os):=by
 refine⟨rfl,rfl,rfl,?_,fun k hk=>?_⟩
 ·show w.heap.size≤(w.heap++os).size
  simp
 ·show(w.heap++os)[k]?=_
  rw[Array.getElem?_append_left hk]
end
end Go.Ae
set_option linter.unusedVariables false
set_option linter.unusedSimpArgs false
set_option maxRecDepth 100000
namespace Go.Ae.L
open Go.Proofs Go.Ae
structure Glob (W0:World) (base:Nat):Prop where
 size:base≤W0.heap.size
 pow10:Lib.TabBelow Tryz.prog base W0 "internal/strconv.uint64pow10" .u64 Lib.pow10Tab
 maxlen:0<base∧∃m,W0.cell? ⟨0,0,none⟩=some (.int .i64 m)
section
variable {W0:World} {base:Nat} {ρ:Rho} {h h':Hp} {w w':World} {v:AV} {args:List AV}
theorem Glob.ml (G:Glob W0 base) (B:Go.RowKit.Below base W0 w):∃m,w.cell? ⟨0,0,none⟩=some (.int .i64 m):=by
 obtain⟨h1,m,h2⟩:=G.maxlen
 exact⟨m,(cell_heap (B.block 0 h1)).trans h2⟩
def p147 (args:List AV) (h:Hp):Option (AV×Hp):=
 match args with
 |[.str s,.str sep]=>if s.length<4294967281 then some (.tup [.str (Lib.cut s sep).1,.str (Lib.cut s sep).2.1,.bool (Lib.cut s sep).2.2],h)else none
 |_=>none
theorem e147:canEnter Tryz.prog 147=true:=by kernel_rfl
theorem k147 (G:Glob W0 base) (hp:p147 args h=some (v,h')) (B:Go.RowKit.Below base W0 w) (R:HRel base ρ h w):Does Tryz.prog base ρ h w (callFunc 147 (encs ρ args).toArray) v h':=by
 unfold p147 at hp
 split at hp
 ·rename_i s sep
  split at hp
  ·rename_i hs
   obtain⟨rfl,rfl⟩:=pair_inj hp
   obtain⟨m,hm⟩:=G.ml B
   refine Does.grown e147 R (by simp[ok,oks]) ?_
   refine(Tryz.strings_Cut ⟨s.toArray⟩ ⟨sep.toArray⟩ m w (by rw[ba_size];exact hs) hm).mono ?_
   rintro e w' ⟨rfl,n,rfl⟩
   exact⟨by simp[enc,encs],below_drewN w n⟩
  ·cases hp
 ·cases hp
def p258 (args:List AV) (h:Hp):Option (AV×Hp):=
 match args with
 |[.str s,.str sep]=>some (.bool (Lib.hasPrefix s sep),h)
 |_=>none
theorem e258:canEnter Tryz.prog 258=true:=by kernel_rfl
theorem k258 (hp:p258 args h=some (v,h')) (R:HRel base ρ h w):Does Tryz.prog base ρ h w (callFunc 258 (encs ρ args).toArray) v h':=by
 unfold p258 at hp
 split at hp
 ·rename_i s sep
  obtain⟨rfl,rfl⟩:=pair_inj hp
  refine Does.grown e258 R (by simp[ok,oks]) ?_
  refine(Tryz.strings_HasPrefix ⟨s.toArray⟩ ⟨sep.toArray⟩ w).mono ?_
  rintro e w' ⟨rfl,rfl⟩
  exact⟨by simp[enc,encs],Go.RowKit.Below.refl _ _⟩
 ·cases hp
def p259 (args:List AV) (h:Hp):Option (AV×Hp):=
 match args with
 |[.str s,.str sep]=>some (.str (Lib.trimPrefix s sep),h)
 |_=>none
theorem e259:canEnter Tryz.prog 259=true:=by kernel_rfl
theorem k259 (hp:p259 args h=some (v,h')) (R:HRel base ρ h w):Does Tryz.prog base ρ h w (callFunc 259 (encs ρ args).toArray) v h':=by
 unfold p259 at hp
 split at hp
 ·rename_i s sep
  obtain⟨rfl,rfl⟩:=pair_inj hp
  refine Does.grown e259 R (by simp[ok,oks]) ?_
  refine(Tryz.strings_TrimPrefix ⟨s.toArray⟩ ⟨sep.toArray⟩ w).mono ?_
  rintro e w' ⟨rfl,rfl⟩
  exact⟨by simp[enc,encs],Go.RowKit.Below.refl _ _⟩
 ·cases hp
def p188 (args:List AV) (h:Hp):Option (AV×Hp):=
 match args with
 |[.str s,.str sep]=>some (.tup [.str (Lib.trimPrefix s sep),.bool (Lib.hasPrefix s sep)],h)
 |_=>none
theorem e188:canEnter Tryz.prog 188=true:=by kernel_rfl
theorem k188 (hp:p188 args h=some (v,h')) (R:HRel base ρ h w):Does Tryz.prog base ρ h w (callFunc 188 (encs ρ args).toArray) v h':=by
 unfold p188 at hp
 split at hp
 ·rename_i s sep
  obtain⟨rfl,rfl⟩:=pair_inj hp
  refine Does.grown e188 R (by simp[ok,oks]) ?_
  refine(Tryz.strings_CutPrefix ⟨s.toArray⟩ ⟨sep.toArray⟩ w).mono ?_
  rintro e w' ⟨rfl,rfl⟩
  exact⟨by simp[enc,encs],Go.RowKit.Below.refl _ _⟩
 ·cases hp
def p239 (args:List AV) (h:Hp):Option (AV×Hp):=
 match args with
 |[.str s,.str sep]=>if s.length<9223372036854775807 then some (.tup [.str (Lib.trimSuffix s sep),.bool (Lib.hasSuffix s sep)],h)else none
 |_=>none
theorem e239:canEnter Tryz.prog 239=true:=by kernel_rfl
theorem k239 (hp:p239 args h=some (v,h')) (R:HRel base ρ h w):Does Tryz.prog base ρ h w (callFunc 239 (encs ρ args).toArray) v h':=by
 unfold p239 at hp
 split at hp
 ·rename_i s sep
  split at hp
  ·rename_i hs
   obtain⟨rfl,rfl⟩:=pair_inj hp
   refine Does.grown e239 R (by simp[ok,oks]) ?_
   refine(Tryz.strings_CutSuffix ⟨s.toArray⟩ ⟨sep.toArray⟩ w (by rw[ba_size];omega)).mono ?_
   rintro e w' ⟨rfl,rfl⟩
   exact⟨by simp[enc,encs],Go.RowKit.Below.refl _ _⟩
  ·cases hp
 ·cases hp
def p221 (args:List AV) (h:Hp):Option (AV×Hp):=
 match args with
 |[.str s,.int .i64 n]=>if 0≤n∧n≤9223372036854775807∧s.length*n.toNat≤140737488355328 then some (.str (Lib.repeatL s n.toNat),h)else none
 |_=>none
theorem e221:canEnter Tryz.prog 221=true:=by kernel_rfl
theorem k221 (hp:p221 args h=some (v,h')) (R:HRel base ρ h w):Does Tryz.prog base ρ h w (callFunc 221 (encs ρ args).toArray) v h':=by
 unfold p221 at hp
 split at hp
 ·rename_i s n
  split at hp
  ·rename_i hs
   obtain⟨h1,h2,h3⟩:=hs
   obtain⟨m,rfl⟩:∃m:Nat,n=m:=⟨n.toNat,by omega⟩
   obtain⟨rfl,rfl⟩:=pair_inj hp
   refine Does.grown e221 R (by simp[ok,oks]) ?_
   refine(Tryz.strings_Repeat ⟨s.toArray⟩ m w (by omega) (by rw[ba_size];simpa using h3)).mono ?_
   rintro e w' ⟨rfl,hB⟩
   exact⟨by simp[enc,encs],hB⟩
  ·cases hp
 ·cases hp
def p224 (args:List AV) (h:Hp):Option (AV×Hp):=
  match args with
  | [.str s]=>if s.length≤18 then match Lib.atoi s with
      |some n=>some (.tup [.int .i64 n,.nili],h)
      |none=>none
    else none
  |_=>none
theorem e224:canEnter Tryz.prog 224=true:=by kernel_rfl
theorem k224 (hp:p224 args h=some (v,h')) (R:HRel base ρ h w):Does Tryz.prog base ρ h w (callFunc 224 (encs ρ args).toArray) v h':=by
 unfold p224 at hp
 split at hp
 ·rename_i s
  split at hp
  ·rename_i hs
   split at hp
   ·rename_i n hn
    obtain⟨rfl,rfl⟩:=pair_inj hp
    refine Does.grown e224 R (by simp[ok,oks]) ?_
    refine(Tryz.strconv_Atoi ⟨s.toArray⟩ n (by rw[ba_size];exact hs) hn w).mono ?_
    rintro e w' ⟨rfl,t,rfl⟩
    exact⟨by simp[enc,encs],⟨rfl,rfl,rfl,by rw[Lib.bytesWorld_size];omega,fun k hk=>Lib.bytesWorld_at_old w 5 t k hk⟩⟩
   ·cases hp
  ·cases hp
 ·cases hp
noncomputable def p157 (args:List AV) (h:Hp):Option (AV×Hp):=
  match args with
  |[.str s,.str sep]=>if s.length<4294967281∧1≤sep.length∧(Lib.splitB ⟨sep.toArray⟩ 0 (Lib.countB ⟨s.toArray⟩ ⟨sep.toArray⟩) ⟨s.toArray⟩).length=Lib.countB ⟨s.toArray⟩ ⟨sep.toArray⟩+1 then
      some (.sl h.next 0 (Lib.countB ⟨s.toArray⟩ ⟨sep.toArray⟩+1) 1,h.push fun st=> .row ((Lib.splitB ⟨sep.toArray⟩ 0 (Lib.countB ⟨s.toArray⟩ ⟨sep.toArray⟩) ⟨s.toArray⟩).map fun b:ByteArray=>AV.str b.data.toList) true st)else none
  |_=>none
theorem e157:canEnter Tryz.prog 157=true:=by kernel_rfl
theorem k157 (G:Glob W0 base) (hp:p157 args h=some (v,h')) (B:Go.RowKit.Below base W0 w) (R:HRel base ρ h w):Does Tryz.prog base ρ h w (callFunc 157 (encs ρ args).toArray) v h':=by
 unfold p157 at hp
 split at hp
 ·rename_i s sep
  split at hp
  ·rename_i hs
   obtain⟨h1,h2,h3⟩:=hs
   obtain⟨rfl,rfl⟩:=pair_inj hp
   obtain⟨m,hm⟩:=G.ml B
   refine Does.call e157 ?_
   refine(Tryz.strings_Split ⟨s.toArray⟩ ⟨sep.toArray⟩ m w (by rw[ba_size];exact h1) hm (by rw[ba_size];exact h2)).mono ?_
   rintro e w' ⟨rfl,rfl⟩
   have X:=Ext.newRow R ((Lib.splitB ⟨sep.toArray⟩ 0 (Lib.countB ⟨s.toArray⟩ ⟨sep.toArray⟩) ⟨s.toArray⟩).map fun b:ByteArray=>AV.str b.data.toList) 9 [] (Lib.countB ⟨s.toArray⟩ ⟨sep.toArray⟩+1) 1 (by simp[AV.one]) ((oks_iff _ _ _).2 (by simp[ok])) (by simp[h3]) w.drawn
   refine⟨_,(congrArg _ (upd_sl ρ h.next w.heap.size (Lib.countB ⟨s.toArray⟩ ⟨sep.toArray⟩+1) 1 (Lib.countB ⟨s.toArray⟩ ⟨sep.toArray⟩+1) 1)).symm,?_,?_⟩
   ·simp only[ok,upd_same,Hp.push]
    exact⟨by omega,trivial,by omega,by simp,by simp⟩
   ·have e1:(encs ρ ((Lib.splitB ⟨sep.toArray⟩ 0 (Lib.countB ⟨s.toArray⟩ ⟨sep.toArray⟩) ⟨s.toArray⟩).map fun b:ByteArray=>AV.str b.data.toList)++[]).toArray=((Lib.splitB ⟨sep.toArray⟩ 0 (Lib.countB ⟨s.toArray⟩ ⟨sep.toArray⟩) ⟨s.toArray⟩).map Value.string).toArray:=by
     rw[List.append_nil,encs_map,List.map_map]
     congr 1
     try exact List.map_congr_left fun b _=>by simp[enc]
    rw[e1]at X
    exact X
  ·cases hp
 ·cases hp
def tenDigits:List UInt8:=[48,49,50,51,52,53,54,55,56,57]
def p223 (args:List AV) (h:Hp):Option (AV×Hp):=
 match args with
 |[.str s,.str cs]=>if cs=tenDigits∧s.length≤9223372036854775807 then some (.str (Lib.trimS s tenDigits),h)else none
 |_=>none
theorem e223:canEnter Tryz.prog 223=true:=by kernel_rfl
theorem k223 (hp:p223 args h=some (v,h')) (R:HRel base ρ h w):Does Tryz.prog base ρ h w (callFunc 223 (encs ρ args).toArray) v h':=by
 unfold p223 at hp
 split at hp
 ·rename_i s cs
  split at hp
  ·rename_i hs
   obtain⟨rfl,hs⟩:=hs
   obtain⟨rfl,rfl⟩:=pair_inj hp
   refine Does.grown e223 R (by simp[ok,oks]) ?_
   refine(Go.Proofs.Any.strings_Trim_laid Tryz.lays160 (by kernel_rfl) ⟨s.toArray⟩ ⟨tenDigits.toArray⟩ w (by rw[ba_size];exact hs) (by decide) (Go.Proofs.ascii_of_all (by decide))).mono ?_
   rintro e w' ⟨rfl,hB⟩
   exact⟨by simp[enc,encs],hB⟩
  ·cases hp
 ·cases hp
def p220 (args:List AV) (h:Hp):Option (AV×Hp):=
 match args with
 |[.int .i64 n]=>if -9223372036854775808≤n∧n≤9223372036854775807 then some (.str (Lib.itoa n),h)else none
 |_=>none
theorem e220:canEnter Tryz.prog 220=true:=by kernel_rfl
theorem k220 (G:Glob W0 base) (hp:p220 args h=some (v,h')) (B:Go.RowKit.Below base W0 w) (R:HRel base ρ h w):Does Tryz.prog base ρ h w (callFunc 220 (encs ρ args).toArray) v h':=by
 unfold p220 at hp
 split at hp
 ·rename_i n
  split at hp
  ·rename_i hs
   obtain⟨rfl,rfl⟩:=pair_inj hp
   refine Does.grown e220 R (by simp[ok,oks]) ?_
   refine(Tryz.strconv_Itoa n hs.1 hs.2 w (G.pow10 w B)).mono ?_
   rintro e w' ⟨rfl,k,os,rfl⟩
   exact⟨by simp[enc,encs],below_grow w k os⟩
  ·cases hp
 ·cases hp
def strsA:List AV→Option (List (List UInt8))
 |[]=>some []
 | .str s::r=>match strsA r with
  |some l=>some (s::l)
  |none=>none
 |_=>none
theorem strsA_eq:∀{cs:List AV} {l:List (List UInt8)},strsA cs=some l→cs=l.map .str
 |[],l,h=>by obtain rfl:=Option.some.inj h;rfl
 | .str s::r,l,h=>by
  simp only[strsA]at h
  split at h
  ·rename_i l' hl
   obtain rfl:=Option.some.inj h
   rw[strsA_eq hl];rfl
  ·cases h
 | .int _ _::_,_,h| .bool _::_,_,h| .ptr _ _::_,_,h| .nilp::_,_,h| .sl _ _ _ _::_,_,h| .nils::_,_,h| .esl _ _ _ _::_,_,h| .fn _ _::_,_,h| .nilf::_,_,h| .ifc _ _::_,_,h| .nili::_,_,h| .map _::_,_,h| .nilm::_,_,h| .agg _::_,_,h| .tup _::_,_,h=>by cases h
noncomputable def p155 (args:List AV) (h:Hp):Option (AV×Hp):=
 match args with
 |[.nils,.str sep]=>some (.str [],h)
 | [.sl t o n z,.str sep]=>match n with
  |0=>some (.str [],h)
  | n +1=>match cellsOf h 1 (.sl t o (n+1) z)with
   | some cs=>match strsA cs with
    |some l=>if l.length≤140737488355328∧(Lib.join l sep).length≤140737488355328 then some (.str (Lib.join l sep),h)else none
    |none=>none
   |none=>none
 |_=>none
theorem e155:canEnter Tryz.prog 155=true:=by kernel_rfl
theorem k155 (hp:p155 args h=some (v,h')) (R:HRel base ρ h w) (hok:oks ρ h.next args):Does Tryz.prog base ρ h w (callFunc 155 (encs ρ args).toArray) v h':=by
 unfold p155 at hp
 split at hp
 ·rename_i sep
  obtain⟨rfl,rfl⟩:=pair_inj hp
  refine Does.grown e155 R (by simp[ok,oks]) ?_
  refine(Tryz.strings_Join_none none 0 ⟨sep.toArray⟩ w).mono ?_
  rintro e w' ⟨rfl,rfl⟩
  exact⟨by simp[enc,encs],Go.RowKit.Below.refl _ _⟩
 ·rename_i t o n z sep
  obtain⟨⟨k1,k2,k3,k4,k5⟩,_⟩:=hok
  split at hp
  ·obtain⟨rfl,rfl⟩:=pair_inj hp
   refine Does.grown e155 R (by simp[ok,oks]) ?_
   refine(Tryz.strings_Join_none _ _ ⟨sep.toArray⟩ w).mono ?_
   rintro e w' ⟨rfl,rfl⟩
   exact⟨by simp[enc,encs],Go.RowKit.Below.refl _ _⟩
  ·rename_i n
   split at hp
   ·rename_i cs hcs
    split at hp
    ·rename_i l hl
     split at hp
     ·rename_i hlen
      obtain⟨rfl,rfl⟩:=pair_inj hp
      simp only[cellsOf]at hcs
      split at hcs
      ·rename_i row own st ht
       split at hcs
       ·rename_i hz
        obtain rfl:=Option.some.inj hcs
        obtain⟨r1,_⟩:=range_at (o:=o) (n:=(n+1)*1) R ht
        have hll:l.length=n+1:=by
         have:=congrArg List.length (strsA_eq hl)
         simp only[List.length_take,List.length_drop,List.length_map]at this
         omega
        have hcell:∀(j:Nat) x,(l.map fun s=>(⟨s.toArray⟩:ByteArray))[j]?=some x→w.cell? ⟨(ρ t).b,(ρ t).o+o+j,none⟩=some (.string x):=by
         intro j x hx
         refine r1 j (.string x) ?_
         rw[strsA_eq hl,encs_map,List.map_map,List.getElem?_map]
         rw[List.getElem?_map]at hx
         cases hj:l[j]? with
         |none=>rw[hj]at hx;cases hx
         |some s=>rw[hj]at hx;simp only[Option.map_some,Option.some.injEq]at hx;subst hx;simp[enc]
        have hbk:(ρ t).b<w.heap.size:=by
         rcases Nat.lt_or_ge (ρ t).b w.heap.size with c|c
         ·exact c
         ·obtain⟨s,hs⟩:∃s,l[0]?=some s:=⟨l[0],List.getElem?_eq_getElem (by omega)⟩
          have:=hcell 0 ⟨s.toArray⟩ (by simp[hs])
          simp[World.cell?,Array.getElem?_eq_none c]at this
        have hj:(l.map fun s=>(⟨s.toArray⟩:ByteArray)).map (·.data.toList)=l:=by
         rw[List.map_map]
         refine(List.map_congr_left (g:=id) fun s _=>?_).trans (List.map_id l)
         simp
        refine Does.grown e155 R (by simp[ok,oks]) ?_
        have H:=Tryz.strings_Join (ρ t).b ((ρ t).o+o) ((ρ t).c-o/z) (l.map fun s=>(⟨s.toArray⟩:ByteArray)) ⟨sep.toArray⟩ w hcell hbk (by simp;omega) (by simp;omega) (by rw[hj];exact hlen.2)
        rw[hj,List.length_map,hll]at H
        refine Calls.mono (R:=fun e w'=>e= .returned (.string ⟨(Lib.join l sep).toArray⟩)∧Go.RowKit.Below w.heap.size w w') (by simpa[encs,enc]using H) ?_
        rintro e w' ⟨rfl,hB⟩
        exact⟨by simp[enc,encs],hB⟩
       ·cases hcs
      ·cases hcs
     ·cases hp
    ·cases hp
   ·cases hp
 ·cases hp
theorem r267 (x y:Int) (c:Bool) (w:World):(callFunc 267 #[.int .u64 x,.int .u64 y,.int .u64 (match c with|true=>1|false=>0)]).run Tryz.prog w=
  .ok (.value (Extern.MathBitsCarry.pair ((x.toNat+y.toNat+(match c with|true=>1|false=>0))%Extern.MathBitsCarry.m64) ((x.toNat+y.toNat+(match c with|true=>1|false=>0))/Extern.MathBitsCarry.m64))) w:=by
 cases c<;>kernel_rfl
theorem r269 (x y:Int) (c:Bool) (w:World):(callFunc 269 #[.int .u64 x,.int .u64 y,.int .u64 (match c with|true=>1|false=>0)]).run Tryz.prog w=
  .ok (.value (Extern.MathBitsCarry.pair ((x.toNat+Extern.MathBitsCarry.m64-y.toNat-(match c with|true=>1|false=>0))%Extern.MathBitsCarry.m64) (if x.toNat<y.toNat+(match c with|true=>1|false=>0)then 1 else 0))) w:=by
 cases c<;>kernel_rfl
noncomputable def x267 (args:List AV):Option AV:=
 match args with
 | [.int .u64 (.ofNat x),.int .u64 (.ofNat y),.int .u64 (.ofNat c)]=>match Nat.ble c 1 with
  |true=>lit (Nat.mod (Nat.add (Nat.add x y) c) 18446744073709551616) fun a=>lit (Nat.div (Nat.add (Nat.add x y) c) 18446744073709551616) fun b=>some (.tup [.int .u64 (.ofNat a),.int .u64 (.ofNat b)])
  |false=>none
 |_=>none
noncomputable def x269 (args:List AV):Option AV:=
 match args with
 | [.int .u64 (.ofNat x),.int .u64 (.ofNat y),.int .u64 (.ofNat c)]=>match Nat.ble c 1 with
  |true=>lit (Nat.mod (Nat.sub (Nat.sub (Nat.add x 18446744073709551616) y) c) 18446744073709551616) fun a=>some (.tup [.int .u64 (.ofNat a),.int .u64 (match Nat.blt x (Nat.add y c)with|true=>1|false=>0)])
  |false=>none
 |_=>none
theorem k267 (hp:x267 args=some v) (R:HRel base ρ h w):Does Tryz.prog base ρ h w (callFunc 267 (encs ρ args).toArray) v h:=by
 unfold x267 at hp
 split at hp
 ·rename_i x y c
  split at hp
  ·rename_i hc
   rw[lit_eq,lit_eq]at hp
   obtain rfl:=Option.some.inj hp
   have hc':c=0∨c=1:=by have:=Nat.le_of_ble_eq_true hc;omega
   unfold Does
   rcases hc' with rfl|rfl
   ·have:=r267 (Int.ofNat x) (Int.ofNat y) false w
    simp only[encs,enc]
    rw[show(callFunc 267 [Value.int .u64 (.ofNat x),.int .u64 (.ofNat y),.int .u64 (.ofNat 0)].toArray).run Tryz.prog w=_ from this]
    exact⟨ρ,Ext.refl R,by simp[ok,oks],by simp only[enc,encs];rfl⟩
   ·have:=r267 (Int.ofNat x) (Int.ofNat y) true w
    simp only[encs,enc]
    rw[show(callFunc 267 [Value.int .u64 (.ofNat x),.int .u64 (.ofNat y),.int .u64 (.ofNat 1)].toArray).run Tryz.prog w=_ from this]
    exact⟨ρ,Ext.refl R,by simp[ok,oks],by simp only[enc,encs];rfl⟩
  ·cases hp
 ·cases hp
theorem k269 (hp:x269 args=some v) (R:HRel base ρ h w):Does Tryz.prog base ρ h w (callFunc 269 (encs ρ args).toArray) v h:=by
  unfold x269 at hp
  split at hp
  · rename_i x y c
    split at hp
    · rename_i hc
      rw[lit_eq]at hp
      obtain rfl:=Option.some.inj hp
      have hc':c=0∨c=1:=by have:=Nat.le_of_ble_eq_true hc;omega
      unfold Does
      rcases hc' with rfl|rfl
      · have:=r269 (Int.ofNat x) (Int.ofNat y) false w
        simp only[encs,enc]
        rw[show(callFunc 269 [Value.int .u64 (.ofNat x),.int .u64 (.ofNat y),.int .u64 (.ofNat 0)].toArray).run Tryz.prog w=_ from this]
        refine⟨ρ,Ext.refl R,by simp[ok,oks],?_⟩
        simp only[enc,encs]
        cases hb:Nat.blt x (Nat.add y 0)with
        | true=>
          have hlt:x<y+0:=by simpa[Nat.blt_eq]using hb
          have:(Int.ofNat x).toNat<(Int.ofNat y).toNat+(match false with|true=>1|false=>0):=hlt
          rw[if_pos this];rfl
        | false=>
          have hlt : ¬ x < y + 0 := fun h => by have h2:Nat.blt x (Nat.add y 0)=true:=by simpa[Nat.blt_eq]using h
                                                rw[h2]at hb;cases hb
          have:¬(Int.ofNat x).toNat<(Int.ofNat y).toNat+(match false with|true=>1|false=>0):=hlt
          rw[if_neg this];rfl
      · have:=r269 (Int.ofNat x) (Int.ofNat y) true w
        simp only[encs,enc]
        rw[show(callFunc 269 [Value.int .u64 (.ofNat x),.int .u64 (.ofNat y),.int .u64 (.ofNat 1)].toArray).run Tryz.prog w=_ from this]
        refine⟨ρ,Ext.refl R,by simp[ok,oks],?_⟩
        simp only[enc,encs]
        cases hb:Nat.blt x (Nat.add y 1)with
        | true=>
          have hlt:x<y+1:=by simpa[Nat.blt_eq]using hb
          have:(Int.ofNat x).toNat<(Int.ofNat y).toNat+(match true with|true=>1|false=>0):=hlt
          rw[if_pos this];rfl
        | false=>
          have hlt : ¬ x < y + 1 := fun h => by have h2:Nat.blt x (Nat.add y 1)=true:=by simpa[Nat.blt_eq]using h
                                                rw[h2]at hb;cases hb
          have:¬(Int.ofNat x).toNat<(Int.ofNat y).toNat+(match true with|true=>1|false=>0):=hlt
          rw[if_neg this];rfl
    · cases hp
  · cases hp
theorem m112 (v:Value) (w:World):(method (Tryz.prog.types.size+Made.depth) 148 v "Sign").run Tryz.prog w= .ok (112,v) w:=by kernel_rfl
theorem m245 (v:Value) (w:World):(method (Tryz.prog.types.size+Made.depth) 148 v "Inv").run Tryz.prog w= .ok (245,v) w:=by kernel_rfl
theorem m115 (v:Value) (w:World):(method (Tryz.prog.types.size+Made.depth) 148 v "Mul").run Tryz.prog w= .ok (115,v) w:=by kernel_rfl
theorem m164 (v:Value) (w:World):(method (Tryz.prog.types.size+Made.depth) 148 v "Sub").run Tryz.prog w= .ok (164,v) w:=by kernel_rfl
theorem mixed:Tryz.prog.follows .mixedOrders=true:=by kernel_rfl
end
end Go.Ae.L
set_option linter.unusedVariables false
set_option linter.unusedSimpArgs false
set_option maxRecDepth 100000
namespace Go.Ae.L
open Go.Proofs Go.Ae
noncomputable def primsE (n:Nat):Option Prim:=
 if n=147 then some p147 else if n=157 then some p157 else if n=220 then some p220 else if n=221 then some p221 else if n=155 then some p155 else if n=224 then some p224
 else if n=258 then some p258 else if n=259 then some p259 else if n=188 then some p188 else if n=239 then some p239 else if n=223 then some p223 else none
noncomputable def extsE (n:Nat):Option (List AV→Option AV):=if n=267 then some x267 else if n=269 then some x269 else none
def methE (T:Nat) (s:String):Option Nat:=
 if T=148 then if s= "Sign" then some 112 else if s= "Inv" then some 245 else if s= "Mul" then some 115 else if s= "Sub" then some 164 else none else none
noncomputable def En (fns:Nat→Option AFn):Env:={ fns:=fns,prims:=primsE,exts:=extsE,meth:=methE }
section
variable {W0:World} {base:Nat} {fns:Nat→Option AFn}
theorem prims_ok (G:Glob W0 base):PrimsOk Tryz.prog W0 base (En fns):=by
 intro f p hf args h v h' hp ρ w B R hok
 have hf:primsE f=some p:=hf
 unfold primsE at hf
 by_cases e147:f=147
 ·subst e147;rw[if_pos rfl]at hf;obtain rfl:=Option.some.inj hf;exact k147 G hp B R
 rw[if_neg e147]at hf
 by_cases e157:f=157
 ·subst e157;rw[if_pos rfl]at hf;obtain rfl:=Option.some.inj hf;exact k157 G hp B R
 rw[if_neg e157]at hf
 by_cases e220:f=220
 ·subst e220;rw[if_pos rfl]at hf;obtain rfl:=Option.some.inj hf;exact k220 G hp B R
 rw[if_neg e220]at hf
 by_cases e221:f=221
 ·subst e221;rw[if_pos rfl]at hf;obtain rfl:=Option.some.inj hf;exact k221 hp R
 rw[if_neg e221]at hf
 by_cases e155:f=155
 ·subst e155;rw[if_pos rfl]at hf;obtain rfl:=Option.some.inj hf;exact k155 hp R hok
 rw[if_neg e155]at hf
 by_cases e224:f=224
 ·subst e224;rw[if_pos rfl]at hf;obtain rfl:=Option.some.inj hf;exact k224 hp R
 rw[if_neg e224]at hf
 by_cases e258:f=258
 ·subst e258;rw[if_pos rfl]at hf;obtain rfl:=Option.some.inj hf;exact k258 hp R
 rw[if_neg e258]at hf
 by_cases e259:f=259
 ·subst e259;rw[if_pos rfl]at hf;obtain rfl:=Option.some.inj hf;exact k259 hp R
 rw[if_neg e259]at hf
 by_cases e188:f=188
 ·subst e188;rw[if_pos rfl]at hf;obtain rfl:=Option.some.inj hf;exact k188 hp R
 rw[if_neg e188]at hf
 by_cases e239:f=239
 ·subst e239;rw[if_pos rfl]at hf;obtain rfl:=Option.some.inj hf;exact k239 hp R
 rw[if_neg e239]at hf
 by_cases e223:f=223
 ·subst e223;rw[if_pos rfl]at hf;obtain rfl:=Option.some.inj hf;exact k223 hp R
 rw[if_neg e223]at hf
 cases hf
theorem exts_ok:ExtsOk Tryz.prog W0 base (En fns):=by
 intro f e hf args v hp ρ h w B R hok
 have hf:extsE f=some e:=hf
 unfold extsE at hf
 by_cases e267:f=267
 ·subst e267;rw[if_pos rfl]at hf;obtain rfl:=Option.some.inj hf;exact k267 hp R
 rw[if_neg e267]at hf
 by_cases e269:f=269
 ·subst e269;rw[if_pos rfl]at hf;obtain rfl:=Option.some.inj hf;exact k269 hp R
 rw[if_neg e269]at hf
 cases hf
theorem meth_ok:MethOk Tryz.prog (En fns):=by
 intro T name f hf v w
 have hf:methE T name=some f:=hf
 unfold methE at hf
 by_cases hT:T=148
 ·subst hT
  rw[if_pos rfl]at hf
  by_cases e1:name= "Sign"
  ·subst e1;rw[if_pos rfl]at hf;obtain rfl:=Option.some.inj hf;exact m112 v w
  rw[if_neg e1]at hf
  by_cases e2:name= "Inv"
  ·subst e2;rw[if_pos rfl]at hf;obtain rfl:=Option.some.inj hf;exact m245 v w
  rw[if_neg e2]at hf
  by_cases e3:name= "Mul"
  ·subst e3;rw[if_pos rfl]at hf;obtain rfl:=Option.some.inj hf;exact m115 v w
  rw[if_neg e3]at hf
  by_cases e4:name= "Sub"
  ·subst e4;rw[if_pos rfl]at hf;obtain rfl:=Option.some.inj hf;exact m164 v w
  rw[if_neg e4]at hf
  cases hf
 ·rw[if_neg hT]at hf;cases hf
theorem l147 {args:List AV} {h h':Hp} {v:AV} (hp:p147 args h=some (v,h')):Later h h':=by
 unfold p147 at hp
 repeat' split at hp
 all_goals first
  |(cases hp;done)
  |(obtain⟨rfl,rfl⟩:=pair_inj hp;exact Later.refl _)
  |(obtain⟨rfl,rfl⟩:=pair_inj hp;exact Later.push _ _ rfl)
theorem l157 {args:List AV} {h h':Hp} {v:AV} (hp:p157 args h=some (v,h')):Later h h':=by
 unfold p157 at hp
 repeat' split at hp
 all_goals first
  |(cases hp;done)
  |(obtain⟨rfl,rfl⟩:=pair_inj hp;exact Later.refl _)
  |(obtain⟨rfl,rfl⟩:=pair_inj hp;exact Later.push _ _ rfl)
theorem l220 {args:List AV} {h h':Hp} {v:AV} (hp:p220 args h=some (v,h')):Later h h':=by
 unfold p220 at hp
 repeat' split at hp
 all_goals first
  |(cases hp;done)
  |(obtain⟨rfl,rfl⟩:=pair_inj hp;exact Later.refl _)
  |(obtain⟨rfl,rfl⟩:=pair_inj hp;exact Later.push _ _ rfl)
theorem l221 {args:List AV} {h h':Hp} {v:AV} (hp:p221 args h=some (v,h')):Later h h':=by
 unfold p221 at hp
 repeat' split at hp
 all_goals first
  |(cases hp;done)
  |(obtain⟨rfl,rfl⟩:=pair_inj hp;exact Later.refl _)
  |(obtain⟨rfl,rfl⟩:=pair_inj hp;exact Later.push _ _ rfl)
theorem l155 {args:List AV} {h h':Hp} {v:AV} (hp:p155 args h=some (v,h')):Later h h':=by
 unfold p155 at hp
 repeat' split at hp
 all_goals first
  |(cases hp;done)
  |(obtain⟨rfl,rfl⟩:=pair_inj hp;exact Later.refl _)
  |(obtain⟨rfl,rfl⟩:=pair_inj hp;exact Later.push _ _ rfl)
theorem l224 {args:List AV} {h h':Hp} {v:AV} (hp:p224 args h=some (v,h')):Later h h':=by
 unfold p224 at hp
 repeat' split at hp
 all_goals first
  |(cases hp;done)
  |(obtain⟨rfl,rfl⟩:=pair_inj hp;exact Later.refl _)
  |(obtain⟨rfl,rfl⟩:=pair_inj hp;exact Later.push _ _ rfl)
theorem l258 {args:List AV} {h h':Hp} {v:AV} (hp:p258 args h=some (v,h')):Later h h':=by
 unfold p258 at hp
 repeat' split at hp
 all_goals first
  |(cases hp;done)
  |(obtain⟨rfl,rfl⟩:=pair_inj hp;exact Later.refl _)
  |(obtain⟨rfl,rfl⟩:=pair_inj hp;exact Later.push _ _ rfl)
theorem l259 {args:List AV} {h h':Hp} {v:AV} (hp:p259 args h=some (v,h')):Later h h':=by
 unfold p259 at hp
 repeat' split at hp
 all_goals first
  |(cases hp;done)
  |(obtain⟨rfl,rfl⟩:=pair_inj hp;exact Later.refl _)
  |(obtain⟨rfl,rfl⟩:=pair_inj hp;exact Later.push _ _ rfl)
theorem l188 {args:List AV} {h h':Hp} {v:AV} (hp:p188 args h=some (v,h')):Later h h':=by
 unfold p188 at hp
 repeat' split at hp
 all_goals first
  |(cases hp;done)
  |(obtain⟨rfl,rfl⟩:=pair_inj hp;exact Later.refl _)
  |(obtain⟨rfl,rfl⟩:=pair_inj hp;exact Later.push _ _ rfl)
theorem l239 {args:List AV} {h h':Hp} {v:AV} (hp:p239 args h=some (v,h')):Later h h':=by
 unfold p239 at hp
 repeat' split at hp
 all_goals first
  |(cases hp;done)
  |(obtain⟨rfl,rfl⟩:=pair_inj hp;exact Later.refl _)
  |(obtain⟨rfl,rfl⟩:=pair_inj hp;exact Later.push _ _ rfl)
theorem l223 {args:List AV} {h h':Hp} {v:AV} (hp:p223 args h=some (v,h')):Later h h':=by
 unfold p223 at hp
 repeat' split at hp
 all_goals first
  |(cases hp;done)
  |(obtain⟨rfl,rfl⟩:=pair_inj hp;exact Later.refl _)
  |(obtain⟨rfl,rfl⟩:=pair_inj hp;exact Later.push _ _ rfl)
theorem later_ok:PrimsLater (En fns):=by
 intro f p args h v h' hf hp
 have hf:primsE f=some p:=hf
 unfold primsE at hf
 by_cases e147:f=147
 ·subst e147;rw[if_pos rfl]at hf;obtain rfl:=Option.some.inj hf;exact l147 hp
 rw[if_neg e147]at hf
 by_cases e157:f=157
 ·subst e157;rw[if_pos rfl]at hf;obtain rfl:=Option.some.inj hf;exact l157 hp
 rw[if_neg e157]at hf
 by_cases e220:f=220
 ·subst e220;rw[if_pos rfl]at hf;obtain rfl:=Option.some.inj hf;exact l220 hp
 rw[if_neg e220]at hf
 by_cases e221:f=221
 ·subst e221;rw[if_pos rfl]at hf;obtain rfl:=Option.some.inj hf;exact l221 hp
 rw[if_neg e221]at hf
 by_cases e155:f=155
 ·subst e155;rw[if_pos rfl]at hf;obtain rfl:=Option.some.inj hf;exact l155 hp
 rw[if_neg e155]at hf
 by_cases e224:f=224
 ·subst e224;rw[if_pos rfl]at hf;obtain rfl:=Option.some.inj hf;exact l224 hp
 rw[if_neg e224]at hf
 by_cases e258:f=258
 ·subst e258;rw[if_pos rfl]at hf;obtain rfl:=Option.some.inj hf;exact l258 hp
 rw[if_neg e258]at hf
 by_cases e259:f=259
 ·subst e259;rw[if_pos rfl]at hf;obtain rfl:=Option.some.inj hf;exact l259 hp
 rw[if_neg e259]at hf
 by_cases e188:f=188
 ·subst e188;rw[if_pos rfl]at hf;obtain rfl:=Option.some.inj hf;exact l188 hp
 rw[if_neg e188]at hf
 by_cases e239:f=239
 ·subst e239;rw[if_pos rfl]at hf;obtain rfl:=Option.some.inj hf;exact l239 hp
 rw[if_neg e239]at hf
 by_cases e223:f=223
 ·subst e223;rw[if_pos rfl]at hf;obtain rfl:=Option.some.inj hf;exact l223 hp
 rw[if_neg e223]at hf
 cases hf
theorem env_ok (G:Glob W0 base) (F:FnsOk Tryz.prog (En fns)):EnvOk Tryz.prog W0 base (En fns):=⟨F,prims_ok G,exts_ok,meth_ok,later_ok,mixed⟩
end
end Go.Ae.L
namespace Go.Ae.C
abbrev o (d:Nat) (x:AOp):AOper:=⟨some d,x,none,none⟩
abbrev n (x:AOp):AOper:=⟨none,x,none,none⟩
abbrev g (d:Nat) (x:AOp) (c:Nat) (b:Bool):AOper:=⟨some d,x,some (c,b),none⟩
abbrev m (t:Nat):AOp:= .mv (.t t)
abbrev i (z:Int):Opd:= .k (.int .i64 z)
abbrev u (z:Int):Opd:= .k (.int .u64 z)
abbrev v (d t:Nat):AOper:=o d (.mv (.t t))
abbrev e (d t k:Nat):AOper:=o d (.ext (.t t) k)
abbrev c (d f:Nat) (l:List Opd):AOper:=o d (.callF f l)
abbrev b (d:Nat) (x:BinOp) (p q:Opd):AOper:=o d (.bin x .none p q)
abbrev bt (d:Nat) (x:BinOp) (p q:Nat):AOper:=o d (.bin x .none (.t p) (.t q))
abbrev bi (d:Nat) (x:BinOp) (p:Nat) (z:Int):AOper:=o d (.bin x .none (.t p) (i z))
abbrev y (d:Nat) (x:UnOp) (t:Nat):AOper:=o d (.un x (.t t))
abbrev l (d:Nat) (w:Bool) (k t:Nat):AOper:=o d (.load w k (.t t))
abbrev s (k p t:Nat):AOper:=n (.store k (.t p) (.t t))
abbrev ix (d k p q:Nat):AOper:=o d (.iadr k (.t p) (.t q))
abbrev fa (d k p:Nat):AOper:=o d (.fadr k (.t p))
abbrev ln (d t:Nat):AOper:=o d (.len .slice (.t t))
abbrev ls (d t:Nat):AOper:=o d (.len .str (.t t))
abbrev vi (d:Nat) (z:Int):AOper:=o d (.mv (i z))
abbrev pt (d p q:Nat):AOper:=o d (.pick (.t p) (.k (.bool true)) (.t q))
abbrev pf (d p q:Nat):AOper:=o d (.pick (.t p) (.t q) (.k (.bool false)))
abbrev zF:List AV:=[.int .i64 0,.nils,.int .i64 0,.nils]
abbrev zI:List AV:=[.int .i64 0,.nils]
abbrev zS:List AV:=[.str [],.str []]
abbrev w (d:Nat) (a:Bool) (k t j:Nat):AOper:=⟨some d,.load a k (.t t),none,some j⟩
abbrev x (d:Nat) (a:Bool) (k t c:Nat) (b:Bool) (j:Nat):AOper:=⟨some d,.load a k (.t t),some (c,b),some j⟩
abbrev gl (d:Nat) (a:Bool) (k t c:Nat) (b:Bool):AOper:=g d (.load a k (.t t)) c b
abbrev gc (d f:Nat) (l:List Opd) (c:Nat) (b:Bool):AOper:=g d (.callF f l) c b
abbrev gb (d:Nat) (x:BinOp) (p q:Opd) (c:Nat) (b:Bool):AOper:=g d (.bin x .none p q) c b
abbrev q (l:List AOper) (b:ACode):ACode:= .seq (.reg l) b
abbrev k (t:Nat) (a:ACode):ACode:= .cond (.t t) a .skip
end Go.Ae.C
