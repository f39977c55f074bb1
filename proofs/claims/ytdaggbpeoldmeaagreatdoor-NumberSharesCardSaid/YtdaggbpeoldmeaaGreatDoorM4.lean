/- strconv.FormatUint at base 10, and the text of a machine integer. -/
import Derived.Test.YtdaggbpeoldmeaaGreatDoorM2
import Derived.Lib.AppendIntMem
import Derived.BigCall
import Derived.BigGuard
import Derived.WalkKit
import Derived.Shelf.RegionOpen
import Derived.Shelf.Abstract
import Derived.Lib.Walk
import Derived.Outline
import Derived.Test.YtdaggbpeoldmeaaGreatDoorZFB
import Derived.Test.YtdaggbpeoldmeaaGreatDoorM3
set_option linter.unusedVariables false
set_option linter.unusedSimpArgs false
set_option maxRecDepth 100000
namespace Go.Ae.L
attribute [local go_sem] Oper.semAt_some
open Go.Proofs Go.Ae Go.RowKit Go.Shelf Go.Lib Go.Sort
section
variable {W0:World} {base:Nat} {ρ:Rho} {h h':Hp} {w w':World} {v:AV} {args:List AV}
theorem fmt325 (u:Nat) (hu64:u<18446744073709551616) (w:World) (htab:Lib.TabIs Tryz.prog w "internal/strconv.uint64pow10" .u64 Lib.pow10Tab):
  Calls Tryz.prog 325 #[.int .u64 u,.int .i64 10] w fun e w'=>e= .returned (.string ⟨(Lib.decDigits u).toArray⟩)∧Below w.heap.size w w':=by
 by_cases hs:u<100
 ·go_enter Tryz.func325,Tryz.ntmps325
  have hcv:IntKind.i64.wrap (u:Int)=(u:Int):=by rw[IntKind.wrap_i64];omega
  go_wp2_with (go_at_call 327;refine(Tryz.internal_strconv_small u hs _).mono ?_;rintro e w' ⟨rfl,rfl⟩)
  go_ret
  exact⟨rfl,Below.refl _ _⟩
 ·have hu1:1≤u:=by omega
  have hnd20:Lib.nDigits u≤20:=by have:=Lib.numDigits_eq u hu1 hu64;split at this<;>omega
  have hal:Tryz.prog.arrayLen 330=24:=by kernel_rfl
  have hsl1:∀W,(Instr.sliceAt 330 (.pointer (some ⟨w.heap.size,0,none⟩)) none (some (.int .i64 (Lib.nDigits u:Int))) none).run Tryz.prog W= .ok (.slice (some ⟨w.heap.size,0,none⟩) (Lib.nDigits u) 24) W:=fun W=>by
   rw[run_sliceAt_array_h W 330 ⟨w.heap.size,0,none⟩ (by kernel_rfl) .i64 (Lib.nDigits u:Int) (by omega) (by rw[hal];omega)]
   go_simp
  have hH0:=Lib.holds_zero0 w 330 (Lib.nDigits u) (by omega)
  have hfmt:=Tryz.internal_strconv_formatBase10 w.heap.size 0 24 u (Array.replicate (Lib.nDigits u) 0) (w.alloc (.cells Lib.zeros24 330)) hH0 (by rw[Array.size_replicate];exact Lib.lt_pow_nDigits u) hu64 (by rw[Array.size_replicate];omega)
  rw[Array.size_replicate]at hfmt
  have HH0:=Lib.hid hH0
  clear hH0 hal
  have hs':¬(u:Int)<100:=by omega
  go_enter Tryz.func325,Tryz.ntmps325
  go_wp2_with (first
   |(go_at_call 328;refine(Tryz.internal_strconv_numDigits u hu1 hu64 _ (Lib.tabIs_alloc htab _)).mono ?_;rintro e w' ⟨rfl,rfl⟩))
  go_at_call 329
  refine hfmt.mono ?_
  rintro e w' ⟨rfl,k,v',dk,rfl,hF⟩
  have hcv:(convert 261 9 (.slice (some ⟨w.heap.size,0,none⟩) (Lib.nDigits u) 24)).run Tryz.prog ((putRow (fun(b:UInt8)=>Value.int .u8 (b.toNat:Int)) (w.alloc (.cells Lib.zeros24 330)) w.heap.size 0 dk).drewN k)= .ok (.string ⟨(Lib.decDigits u).toArray⟩) ((putRow (fun(b:UInt8)=>Value.int .u8 (b.toNat:Int)) (w.alloc (.cells Lib.zeros24 330)) w.heap.size 0 dk).drewN k):=by
   have h:=run_convert_bytes_back (P:=Tryz.prog) ((putRow (fun(b:UInt8)=>Value.int .u8 (b.toNat:Int)) (w.alloc (.cells Lib.zeros24 330)) w.heap.size 0 dk).drewN k) 261 9 5 ⟨w.heap.size,0,none⟩ 24 (Lib.decDigits u) (by kernel_rfl) (by kernel_rfl) (by kernel_rfl) (fun j hj=>by
    rw[Lib.row_is_numeral hF j hj,Lib.add_plain,World.cell?_drewN]
    exact cell?_putRow (fun(b:UInt8)=>Value.int .u8 (b.toNat:Int)) _ w.heap.size 0 _ dk HH0.out (by rw[hF.size,Array.size_replicate]) j (by rw[hF.size];rw[Lib.decDigits_length]at hj;exact hj))
   rw[Lib.decDigits_length]at h
   exact h
  go_wp2
  go_ret
  obtain⟨os,eo⟩:=Lib.fin_at w (.cells Lib.zeros24 330) dk k 0
  refine⟨rfl,?_⟩
  rw[eo]
  exact below_grow w k os
theorem fmt299 (u:Nat) (hu64:u<18446744073709551616) (w:World) (htab:Lib.TabIs Tryz.prog w "internal/strconv.uint64pow10" .u64 Lib.pow10Tab):
  Calls Tryz.prog 299 #[.int .u64 u,.int .i64 10] w fun e w'=>e= .returned (.string ⟨(Lib.decDigits u).toArray⟩)∧Below w.heap.size w w':=by
 go_enter Tryz.func299,Tryz.ntmps299
 go_wp2_with (go_at_call 325;refine(fmt325 u hu64 _ htab).mono ?_;rintro e w' ⟨rfl,hB⟩)
 go_ret
 exact⟨rfl,hB⟩
def p299 (args:List AV) (h:Hp):Option (AV×Hp):=
 match args with
 |[.int .u64 n,.int .i64 10]=>if 0≤n∧n<18446744073709551616 then some (.str (Lib.decDigits n.toNat),h)else none
 |_=>none
theorem k299 (G:Glob W0 base) (args:List AV) (h:Hp) (v:AV) (h':Hp) (hp:p299 args h=some (v,h')):h'=h∧∀ρ w,Go.RowKit.Below base W0 w→HRel base ρ h w→Does Tryz.prog base ρ h w (callFunc 299 (encs ρ args).toArray) v h:=by
 unfold p299 at hp
 split at hp
 ·rename_i n
  split at hp
  ·rename_i hs
   obtain⟨m,rfl⟩:∃m:Nat,n=m:=⟨n.toNat,by omega⟩
   obtain⟨rfl,rfl⟩:=pair_inj hp
   refine⟨rfl,fun ρ w B R=>?_⟩
   refine Does.grown (by kernel_rfl) R (by simp[ok]) ?_
   refine(fmt299 m (by omega) w (G.pow10 w B)).mono ?_
   rintro e w' ⟨rfl,hB⟩
   exact⟨by simp[enc],hB⟩
  ·cases hp
 ·cases hp
end
end Go.Ae.L
set_option maxRecDepth 100000
namespace Go.Ae.S
open AOp Opd C
def a264:AFn:=⟨69,[.tmp 2],(q [o 1 (.box (.t 0)),o 2 (.mv (.k (.str [])))]
 (.seq (q [fa 12 1 1,l 13 false 1 12,o 14 (.bin .eql .slice (.t 13) (.k (.nils)))]
 (k 14 (q [fa 15 0 1,l 16 false 1 15,c 17 220 [.t 16],v 2 17]
 .ret)))
 (q [l 19 true 2 1,c 20 202 [.t 19],v 18 20,e 21 18 0,e 22 18 1,v 3 21,v 4 22]
 (q [o 23 (.bslice 1 1 [.int .u64 0] [(0,1,(u 1000000000000000000))]),v 5 23]
 (q [o 6 (.mv (.k (.nils)))]
 (.seq (.block 0 (.loop (.seq (q [v 24 4,ln 25 24,bi 26 .gtr 25 0]
 (.cond (.t 26) .skip
 (.exit 0)))
 (.block 1 (q [v 28 4,v 29 5,c 30 265 [.t 28,.t 29],v 27 30,e 31 27 0,e 32 27 1,v 7 31,v 8 32]
 (q [o 9 (.mv (.k (.str [48])))]
 (.seq (q [v 33 8,ln 34 33,bi 35 .gtr 34 0]
 (k 35 (.reg [v 36 8,o 37 (.iadr 1 (.t 36) (i 0)),l 38 false 1 37,c 39 299 [.t 38,i 10],v 9 39])))
 (.seq (q [v 40 7,ln 41 40,bi 42 .gtr 41 0]
 (k 42 (.reg [v 43 9,ls 44 43,b 45 .sub (i 18) (.t 44),c 46 221 [(.k (.str [48])),.t 45],v 47 9,bt 48 .add 46 47,v 9 48])))
 (q [v 49 6,v 50 9,o 51 (.bslice 1 1 [.str []] [(0,1,(.t 50))]),o 52 (.app 1 16 (.t 49) (.t 51)),v 6 52]
 (.reg [v 53 7,v 4 53]))))))))))
 (q [o 10 (.alloc [.nilp,.nils])]
 (.seq (q [v 54 3]
 (k 54 (.reg [c 55 234 [.t 10,(.k (.str [45]))]])))
 (.seq (q [v 56 6,ln 57 56,bi 58 .sub 57 1,v 11 58]
 (.block 2 (.loop (.seq (q [v 59 11,bi 60 .geq 59 0]
 (.cond (.t 60) .skip
 (.exit 2)))
 (.seq (.block 3 (.reg [v 63 6,v 64 11,ix 65 1 63 64,l 66 false 1 65,c 67 234 [.t 10,.t 66]]))
 (.reg [v 61 11,bi 62 .sub 61 1,v 11 62]))))))
 (q [c 68 235 [.t 10],v 2 68]
 .ret))))))))))⟩
def tab:T AFn:=(.node .nil none (.node (.node (.node .nil none (.node (.node (.node (.node (.node .nil (some a264) .nil) none .nil) none .nil) none .nil) none .nil)) none .nil) none .nil))
section
open Go.Proofs
theorem b264:Chk 264 a264:=by unfold Chk;kernel_rfl
theorem all:T.Forall Chk tab (fun n=>n):=⟨C.no,trivial,⟨C.no,⟨C.no,⟨C.no,trivial,⟨C.no,⟨C.no,⟨C.no,⟨C.no,⟨C.yes b264,trivial,trivial⟩,trivial⟩,trivial⟩,trivial⟩,trivial⟩⟩,trivial⟩,trivial⟩⟩
theorem good (n:Nat) (a:AFn) (h:tab.get n=some a):chk Tryz.prog n=some a:=T.get_forall tab (fun n=>n) all n a h
end
end Go.Ae.S
set_option linter.unusedVariables false
set_option linter.unusedSimpArgs false
namespace Go.Ae
noncomputable def Env.add (E:Env) (t:T AFn):Env:={ E with fns:=fun n=>match E.fns n with|some a=>some a|none=>t.get n }
structure Ge (E E':Env):Prop where
 fns:∀f a,E.fns f=some a→E'.fns f=some a
 prims:∀f,E'.prims f=E.prims f
 exts:∀f,E'.exts f=E.exts f
 meth:∀T n,E'.meth T n=E.meth T n
theorem Ge.refl (E:Env):Ge E E:=⟨fun _ _ h=>h,fun _=>rfl,fun _=>rfl,fun _ _=>rfl⟩
theorem Ge.trans {E E1 E2:Env} (h:Ge E E1) (g:Ge E1 E2):Ge E E2:=
 ⟨fun f a e=>g.fns f a (h.fns f a e),fun f=>(g.prims f).trans (h.prims f),fun f=>(g.exts f).trans (h.exts f),fun T n=>(g.meth T n).trans (h.meth T n)⟩
theorem Ge.add (E:Env) (t:T AFn):Ge E (E.add t) where
 fns:=fun f a h=>by show(match E.fns f with|some a=>some a|none=>t.get f)=_;rw[h]
 prims:=fun _=>rfl
 exts:=fun _=>rfl
 meth:=fun _ _=>rfl
section
variable {E E':Env}
theorem callA_ge (g:Ge E E') {r r':Rec} (hr:∀c s x,r c s=some x→r' c s=some x) {f:Nat} {args:List AV} {h:Hp} {x:AV×Hp} (hc:callA E r f args h=some x):callA E' r' f args h=some x:=by
 unfold callA at *
 rw[g.exts]
 split at hc
 ·exact hc
 ·rename_i he
  rw[g.prims]
  split at hc
  ·exact hc
  ·split at hc
   ·cases hc
   ·rename_i fn hf
    rw[g.fns _ _ hf]
    simp only
    cases hx:r fn.code { tm:=enterA args 0 .nil,hp:=h }with
    |none=>rw[hx]at hc;cases hc
    |some y=>rw[hx]at hc;rw[hr _ _ _ hx];exact hc
theorem opA_ge (g:Ge E E') {r r':Rec} (hr:∀c s x,r c s=some x→r' c s=some x) {o:AOp} {s:St} {x:AV×Hp} (hc:opA o E r s=some x):opA o E' r' s=some x:=by
 cases o<;>try exact hc
 ·exact callA_ge g hr hc
 ·simp only[opA,o_callV]at *
  split at hc
  ·exact callA_ge g hr hc
  ·cases hc
 ·simp only[opA,o_inv]at *
  split at hc
  ·rw[g.meth]
   split at hc
   ·exact callA_ge g hr hc
   ·cases hc
  ·cases hc
theorem step_ge (g:Ge E E') {r r':Rec} (hr:∀c s x,r c s=some x→r' c s=some x) {c:ACode} {s:St} {x:Ex×St} (hc:step E r c s=some x):step E' r' c s=some x:=by
 cases c with
 |skip=>exact hc
 |ret=>exact hc
 |exit i=>exact hc
 |bad=>exact hc
 | reg ops=>
  cases ops with
  |nil=>exact hc
  | cons o l=>
   have hc:s_op o l E r s=some x:=hc
   show s_op o l E' r' s=some x
   unfold s_op at *
   split at hc
   ·unfold s_cont at *
    split at hc
    ·rename_i ho;rw[opA_ge g hr ho];exact hr _ _ _ hc
    ·cases hc
   ·exact hr _ _ _ hc
 |dreg ops=>exact hr _ _ _ hc
 | drun ops i c0 acc=>
  cases ops with
  |nil=>exact hc
  | cons o l=>
   have hc:s_dop o l i c0 acc E r s=some x:=hc
   show s_dop o l i c0 acc E' r' s=some x
   unfold s_dop at *
   split at hc
   ·split at hc
    ·rename_i ho
     rw[opA_ge g hr ho]
     simp only
     split at hc
     ·rename_i h1
      split at hc
      ·exact hr _ _ _ hc
      ·cases hc
     ·cases hc
    ·cases hc
   ·split at hc
    ·exact hr _ _ _ hc
    ·cases hc
 | seq a b=>
  have hc:s_seq a b E r s=some x:=hc
  show s_seq a b E' r' s=some x
  unfold s_seq at *
  split at hc
  ·rename_i h1;rw[hr _ _ _ h1];exact hr _ _ _ hc
  ·rename_i hne
   rw[hr _ _ _ hc]
   obtain⟨e,s'⟩:=x
   cases e with
   |nrm=>exact absurd hc (hne _)
   |exit i=>rfl
   |ret=>rfl
 | cond y a b=>
  have hc:s_cond y a b E r s=some x:=hc
  show s_cond y a b E' r' s=some x
  unfold s_cond at *
  split at hc
  ·exact hr _ _ _ hc
  ·exact hr _ _ _ hc
  ·cases hc
 | block id a=>
  have hc:s_block id a E r s=some x:=hc
  show s_block id a E' r' s=some x
  unfold s_block at *
  split at hc
  ·rename_i h1;rw[hr _ _ _ h1];exact hc
  ·rename_i hne
   rw[hr _ _ _ hc]
   obtain⟨e,s'⟩:=x
   cases e with
   |exit i=>exact absurd hc (hne _ _)
   |nrm=>rfl
   |ret=>rfl
 | loop a=>
  have hc:s_loop a E r s=some x:=hc
  show s_loop a E' r' s=some x
  unfold s_loop at *
  split at hc
  ·rename_i h1;rw[hr _ _ _ h1];exact hr _ _ _ hc
  ·rename_i hne
   rw[hr _ _ _ hc]
   obtain⟨e,s'⟩:=x
   cases e with
   |nrm=>exact absurd hc (hne _)
   |exit i=>rfl
   |ret=>rfl
theorem exec_ge (g:Ge E E'):∀(n:Nat) (c:ACode) (s:St) (x:Ex×St),exec E n c s=some x→exec E' n c s=some x
 |0,_,_,_,h=>by cases h
 | n+1,c,s,x,h=>by
  rw[exec_succ]at *
  exact step_ge g (exec_ge g n) h
theorem CallsTo.ge (g:Ge E E') {f:Nat} {args:List AV} {h h':Hp} {v:AV} (hc:CallsTo E f args h v h'):CallsTo E' f args h v h':=by
 obtain⟨n,hn⟩:=hc
 exact⟨n,callA_ge g (exec_ge g n) hn⟩
theorem CallWp.ge (g:Ge E E') {f:Nat} {args:List AV} {h:Hp} {K:AV→Hp→Prop} (hc:CallWp E f args h K):CallWp E' f args h K:=by
 obtain⟨v,h',h1,h2⟩:=hc
 exact⟨v,h',h1.ge g,h2⟩
theorem up (g:Ge E E') {f:Nat} {args:List AV} {h h':Hp} {v:AV} {K:AV→Hp→Prop} (hc:∀K,CallWp E f args h K↔K v h'):CallWp E' f args h K↔K v h':=
 CallWp.iff_of (((hc _).2 ⟨rfl,rfl⟩).ge g)
theorem EnvOk.add {P:Program} {W0:World} {base:Nat} {t:T AFn} (EO:EnvOk P W0 base E) (ht:∀n a,t.get n=some a→chk P n=some a):EnvOk P W0 base (E.add t) where
 fns:=by
  intro f a h
  have h:(match E.fns f with|some a=>some a|none=>t.get f)=some a:=h
  split at h
  ·rename_i b hb;obtain rfl:=Option.some.inj h;exact EO.fns f b hb
  ·exact chk_good (ht f a h)
 prims:=EO.prims
 exts:=EO.exts
 meth:=fun T n f h=>EO.meth T n f h
 later:=EO.later
 mixed:=EO.mixed
end
end Go.Ae
set_option linter.unusedVariables false
set_option linter.unusedSimpArgs false
namespace Go.Ae
noncomputable section
structure Grw (h h':Hp) (k j:Nat):Prop where
 next:h'.next=h.next+k
 clk:h'.clk=h.clk+j
 get:∀t,t<h.next→h'.get t=h.get t
def Grs (h h':Hp):Prop:=∃k j,Grw h h' k j
theorem Grs.next {h h':Hp} (g:Grs h h'):h.next≤h'.next:=by obtain⟨k,j,g⟩:=g;have:=g.next;omega
theorem Grs.clk {h h':Hp} (g:Grs h h'):h.clk≤h'.clk:=by obtain⟨k,j,g⟩:=g;have:=g.clk;omega
theorem Grs.get {h h':Hp} (g:Grs h h') {t:Nat} (ht:t<h.next):h'.get t=h.get t:=by obtain⟨k,j,g⟩:=g;exact g.get t ht
theorem Grs.refl (h:Hp):Grs h h:=⟨0,0,rfl,rfl,fun _ _=>rfl⟩
theorem Grs.trans {a b c:Hp} (x:Grs a b) (y:Grs b c):Grs a c:=by
 obtain⟨k,j,x⟩:=x
 obtain⟨k',j',y⟩:=y
 exact⟨k+k',j+j',by rw[y.next,x.next];omega,by rw[y.clk,x.clk];omega,fun t ht=>(y.get t (by rw[x.next];omega)).trans (x.get t ht)⟩
theorem Grs.push {a b:Hp} (x:Grs a b) {f:Nat→AObj}:Grs a (b.push f):=by
 obtain⟨k,j,x⟩:=x
 exact⟨k+1,j+1,by show b.next+1=_;rw[x.next];omega,by show b.clk+1=_;rw[x.clk];omega,fun t ht=>(Hp.push_other (by rw[x.next];omega)).trans (x.get t ht)⟩
theorem Grs.put {a b:Hp} (x:Grs a b) {t:Nat} {f:Nat→AObj} (ht:a.next≤t):Grs a (b.put t f):=by
 obtain⟨k,j,x⟩:=x
 exact⟨k,j+1,x.next,by show b.clk+1=_;rw[x.clk];omega,fun u hu=>(Hp.put_other (by omega)).trans (x.get u hu)⟩
def Hp.ov (h h':Hp) {k j:Nat} (_:Grw h h' k j):Hp:=h'
theorem Grs.ov {a b h':Hp} {k j:Nat} (x:Grs a b) {g:Grw b h' k j}:Grs a (b.ov h' g):=x.trans ⟨k,j,g⟩
section
variable {h h':Hp} {k j t:Nat} {g:Grw h h' k j}
theorem Hp.ov_next:(h.ov h' g).next=h.next+k:=g.next
theorem Hp.ov_clk:(h.ov h' g).clk=h.clk+j:=g.clk
theorem Hp.ov_get (ht:t<h.next):(h.ov h' g).get t=h.get t:=g.get t ht
end
def Gv (E:Env) (f:Nat) (args:List AV) (h:Hp) (v:AV):Prop:=∃h',CallsTo E f args h v h'∧Grs h h'
def Gp (E:Env) (f:Nat) (args:List AV) (h:Hp) (p:AV→Hp→Prop):Prop:=∃v h',CallsTo E f args h v h'∧Grs h h'∧p v h'
section
variable {E:Env} {f:Nat} {args:List AV} {h:Hp} {v:AV} {K:AV→Hp→Prop} {p:AV→Hp→Prop}
theorem Gv.wp (hc:Gv E f args h v) (hk:∀h' k j (g:Grw h h' k j),K v (h.ov h' g)):CallWp E f args h K:=by
 obtain⟨h',h1,k,j,g⟩:=hc
 exact⟨v,h',h1,hk h' k j g⟩
theorem Gv.of (hc:CallWp E f args h fun v' h'=>v'=v∧Grs h h'):Gv E f args h v:=by
 obtain⟨v',h',h1,rfl,g⟩:=hc
 exact⟨h',h1,g⟩
theorem Gp.wp (hc:Gp E f args h p) (hk:∀v h' k j (g:Grw h h' k j),p v (h.ov h' g)→K v (h.ov h' g)):CallWp E f args h K:=by
 obtain⟨v,h',h1,⟨k,j,g⟩,hp⟩:=hc
 exact⟨v,h',h1,hk v h' k j g hp⟩
theorem Gp.of (hc:CallWp E f args h fun v' h'=>p v' h'∧Grs h h'):Gp E f args h p:=by
 obtain⟨v',h',h1,hp,g⟩:=hc
 exact⟨v',h',h1,g,hp⟩
theorem Gv.ge {E':Env} (hg:∀h v h',CallsTo E f args h v h'→CallsTo E' f args h v h') (hc:Gv E f args h v):Gv E' f args h v:=by
 obtain⟨h',h1,g⟩:=hc
 exact⟨h',hg _ _ _ h1,g⟩
end
def At (h:Hp) (t:Nat) (cs:List AV):Prop:=∃st,h.get t=some (.row cs true st)
section
variable {h h':Hp} {k j t u:Nat} {g:Grw h h' k j} {cs z:List AV}
theorem At.push_at (ht:t=h.next):At (h.push fun st=> .row z true st) t cs↔z=cs:=by
 unfold At
 rw[ht,Hp.push_same]
 constructor
 ·rintro⟨st,e⟩;injection e with e;injection e
 ·rintro rfl;exact⟨_,rfl⟩
theorem At.push_other {f:Nat→AObj} (ht:t≠h.next):At (h.push f) t cs↔At h t cs:=by unfold At;rw[Hp.push_other ht]
theorem At.put_at (ht:t=u):At (h.put u fun st=> .row z true st) t cs↔z=cs:=by
 unfold At
 rw[ht,Hp.put_same]
 constructor
 ·rintro⟨st,e⟩;injection e with e;injection e
 ·rintro rfl;exact⟨_,rfl⟩
theorem At.put_other {f:Nat→AObj} (ht:t≠u):At (h.put u f) t cs↔At h t cs:=by unfold At;rw[Hp.put_other ht]
theorem At.ov (ht:t<h.next):At (h.ov h' g) t cs↔At h t cs:=by unfold At;rw[Hp.ov_get ht]
end
def LoadR (ag:Bool) (l p:Nat) (x:Option AObj) (h:Hp) (K:AV→Hp→Prop):Prop:=
 match x with
 |some (.row cs _ _)=>Some1 (if p+l≤cs.length then(if ag then some (.agg ((cs.drop p).take l))else cs[p]?)else none) h K
 |_=>False
def StoreR (l t p:Nat) (y:AV) (x:Option AObj) (h:Hp) (K:AV→Hp→Prop):Prop:=
 match x with
 |some (.row cs true _)=>y.cells.length=l∧p+l≤cs.length∧y.cells.all AV.one=true∧K und (h.put t fun st=> .row (splice cs p y.cells) true st)
 |_=>False
def CellK (ag:Bool) (l:Nat) (v:AV) (h:Hp):Option AV:=
 match v with
 | .ptr t p=>match h.get t with
  |some (.row cs _ _)=>if p+l≤cs.length then(if ag then some (.agg ((cs.drop p).take l))else cs[p]?)else none
  |_=>none
 |_=>none
def CellR (ag:Bool) (l p:Nat) (x:Option AObj):Option AV:=
 match x with
 |some (.row cs _ _)=>if p+l≤cs.length then(if ag then some (.agg ((cs.drop p).take l))else cs[p]?)else none
 |_=>none
section
variable {E:Env} {s:St} {h:Hp} {K:AV→Hp→Prop} {ag own:Bool} {l p t st:Nat} {cs:List AV} {y v:AV}
theorem LoadK.r:LoadK ag l (.ptr t p) h K↔LoadR ag l p (h.get t) h K:=by
 simp only[LoadK,LoadR]
 cases h.get t with
 |none=>exact Iff.rfl
 |some o=>cases o<;>exact Iff.rfl
theorem LoadR.row:LoadR ag l p (some (.row cs own st)) h K↔Some1 (if p+l≤cs.length then(if ag then some (.agg ((cs.drop p).take l))else cs[p]?)else none) h K:=Iff.rfl
theorem StoreK.r:StoreK l (.ptr t p) y h K↔StoreR l t p y (h.get t) h K:=by
 simp only[StoreK,StoreR]
 cases h.get t with
 |none=>exact Iff.rfl
 | some o=>
  cases o with
  |row cs own st=>cases own<;>exact Iff.rfl
  |_=>exact Iff.rfl
theorem StoreR.row:StoreR l t p y (some (.row cs true st)) h K↔y.cells.length=l∧p+l≤cs.length∧y.cells.all AV.one=true∧K und (h.put t fun st=> .row (splice cs p y.cells) true st):=Iff.rfl
theorem resA_cell:resA s (.cell t ag l)=CellK ag l (val s.tm (.t t)) s.hp:=rfl
theorem CellK.r:CellK ag l (.ptr t p) h=CellR ag l p (h.get t):=by
 simp only[CellK,CellR]
theorem CellR.row:CellR ag l p (some (.row cs own st))=if p+l≤cs.length then(if ag then some (.agg ((cs.drop p).take l))else cs[p]?)else none:=rfl
def Res2 (a b:Option AV):Option AV:=
 match a,b with
 |some a,some b=>some (.tup [a,b])
 |_,_=>none
def Res3 (a b c:Option AV):Option AV:=
 match a,b,c with
 |some a,some b,some c=>some (.tup [a,b,c])
 |_,_,_=>none
theorem res1' {a:ARes}:resultA s [a]=resA s a:=by
 simp only[resultA,ressA];cases resA s a<;>rfl
theorem res2' {a b:ARes}:resultA s [a,b]=Res2 (resA s a) (resA s b):=by
 simp only[resultA,ressA];cases resA s a<;>cases resA s b<;>rfl
theorem res3' {a b c:ARes}:resultA s [a,b,c]=Res3 (resA s a) (resA s b) (resA s c):=by
 simp only[resultA,ressA];cases resA s a<;>cases resA s b<;>cases resA s c<;>rfl
theorem Res2.som {a b:AV}:Res2 (some a) (some b)=some (.tup [a,b]):=rfl
theorem Res3.som {a b c:AV}:Res3 (some a) (some b) (some c)=some (.tup [a,b,c]):=rfl
theorem w_box' {z:Opd}:OpWp E (.box z) s K↔((val s.tm z).cells.all AV.one=true∧K (.ptr s.hp.next 0) (s.hp.push fun t=> .row (val s.tm z).cells true t)):=by
 rw[w_box]
 simp only[o_box]
 split
 ·rename_i hc;simp only[Some2,hc,true_and]
 ·rename_i hc;simp only[Some2,false_iff];exact fun e=>hc e.1
theorem w_build' {z:List AV} {ps:List (Nat×Nat×Opd)}:OpWp E (.build z ps) s K↔Some1 ((fillA z (ps.map fun q=>(q.1,q.2.1,val s.tm q.2.2))).map AV.agg) s.hp K:=by
 rw[w_build]
 simp only[o_build]
 cases fillA z (ps.map fun q=>(q.1,q.2.1,val s.tm q.2.2))<;>exact Iff.rfl
theorem fillA_nil:fillA cs []=some cs:=rfl
theorem fillA_cons {o n:Nat} {r:List (Nat×Nat×AV)} (hc:v.cells.length=n∧o+n≤cs.length∧v.cells.all AV.one=true):fillA cs ((o,n,v)::r)=fillA (splice cs o v.cells) r:=by
 simp only[fillA,if_pos hc]
def SlK (sz n:Nat) (x:Option (List AV)) (h:Hp) (K:AV→Hp→Prop):Prop:=
 match x with
 |some cs=>n*sz=cs.length∧0<sz∧K (.sl h.next 0 n sz) (h.push fun t=> .row cs true t)
 |none=>False
theorem w_bslice' {sz n:Nat} {z:List AV} {ps:List (Nat×Nat×Opd)}:OpWp E (.bslice sz n z ps) s K↔SlK sz n (fillA z (ps.map fun q=>(q.1,q.2.1,val s.tm q.2.2))) s.hp K:=by
 rw[w_bslice]
 simp only[o_bslice]
 cases fillA z (ps.map fun q=>(q.1,q.2.1,val s.tm q.2.2))with
 |none=>exact Iff.rfl
 | some cs=>
  simp only[SlK]
  split
  ·rename_i hc;simp only[Some2,hc,true_and]
  ·rename_i hc
   simp only[Some2,false_iff]
   exact fun e=>hc ⟨e.1,e.2.1⟩
theorem SlK.som {sz n:Nat}:SlK sz n (some cs) h K↔n*sz=cs.length∧0<sz∧K (.sl h.next 0 n sz) (h.push fun t=> .row cs true t):=Iff.rfl
def OldR (x:Option AObj) (c0:Nat):Bool:=
 match x with
 |some o=>Nat.ble o.st c0
 |none=>false
theorem old_r {c0:Nat}:old h c0 t=OldR (h.get t) c0:=by
 unfold old OldR;cases h.get t<;>rfl
theorem OldR.row {c0:Nat} (hs:st≤c0):OldR (some (.row cs own st)) c0=true:=Nat.ble_eq_true_of_le hs
theorem splice_def {vs:List AV}:splice cs p vs=cs.take p++(vs++cs.drop (p+vs.length)):=rfl
theorem Hp.next_push {f:Nat→AObj}:(h.push f).next=h.next+1:=id rfl
theorem Hp.next_put {u:Nat} {f:Nat→AObj}:(h.put u f).next=h.next:=id rfl
theorem Hp.clk_push {f:Nat→AObj}:(h.push f).clk=h.clk+1:=id rfl
theorem Hp.clk_put {u:Nat} {f:Nat→AObj}:(h.put u f).clk=h.clk+1:=id rfl
theorem Hp.push_at {f:Nat→AObj} (ht:t=h.next):(h.push f).get t=some (f (h.clk+1)):=by rw[ht];exact Hp.push_same
theorem Hp.put_at {u:Nat} {f:Nat→AObj} (ht:t=u):(h.put u f).get t=some (f (h.clk+1)):=by rw[ht];exact Hp.put_same
theorem b_slnn:binA .eql .slice .nils .nils=some (.bool true):=rfl
theorem b_slsn {t o n z:Nat}:binA .eql .slice (.sl t o n z) .nils=some (.bool false):=rfl
theorem b_nslnn:binA .neq .slice .nils .nils=some (.bool false):=rfl
theorem b_nslsn {t o n z:Nat}:binA .neq .slice (.sl t o n z) .nils=some (.bool true):=rfl
theorem b_beql {a b:Bool}:binA .eql .bool (.bool a) (.bool b)=some (.bool (decide (a=b))):=by
 simp only[binA,eqA,eqBool,Option.map_some];cases a<;>cases b<;>rfl
theorem b_bneq {a b:Bool}:binA .neq .bool (.bool a) (.bool b)=some (.bool (decide (¬a=b))):=by
 simp only[binA,eqA,eqBool,Option.map_some];cases a<;>cases b<;>rfl
end
theorem cast0:((0:Nat):Int)=0:=id rfl
theorem cast1:((1:Nat):Int)=1:=id rfl
theorem cast2:((2:Nat):Int)=2:=id rfl
theorem cast3:((3:Nat):Int)=3:=id rfl
attribute [go_sem] At.push_at At.push_other At.put_at At.put_other At.ov cast0 cast1 cast2 cast3 Grs.refl LoadK.r LoadR.row StoreK.r StoreR.row resA_cell CellK.r CellR.row res1' res2' res3' Res2.som Res3.som w_box' w_build' fillA_nil fillA_cons w_bslice' SlK.som old_r OldR.row splice_def b_slnn b_slsn b_nslnn b_nslsn b_beql b_bneq Hp.ov_next Hp.ov_clk Hp.ov_get Hp.next_push Hp.clk_push Hp.next_put Hp.clk_put Hp.push_at Hp.push_other Hp.put_at Hp.put_other C.o C.n C.g C.m C.i C.u C.v C.e C.c C.b C.bt C.bi C.y C.l C.s C.ix C.fa C.ln C.ls C.vi C.pt C.pf C.zF C.zI C.zS C.w C.x C.gl C.gc C.gb C.q C.k
end
end Go.Ae
namespace Go.Ae
attribute [go_sem] not_true_eq_false not_false_eq_true decide_true decide_false Wp.seq_iff Wp.block_iff Wp.skip_iff Wp.ret_iff Wp.exit_iff Wp.cond_iff Wp.nil_iff Wp.op_iff Wp.grd_iff Wp.dreg_iff Wp.dnil_iff Wp.dop_iff Wp.dgrd_iff After InBlock Round Then DThen DOp.some_iff noted_n noted_s NoteK.ptr List.all_nil List.all_cons fresh_eq val_k val_set val_nil put_some put_none enter_nil enter_cons List.map_cons List.map_nil Option.map_some Option.map_none resA_tmp res0 res1 res2 res3 RetQ.ret RetQ.nrm ResK.iff wanted_k WantK.tt WantK.tf WantK.ft WantK.ff WantK.und GrdK.t GrdK.f DGrd.t DGrd.f CondK.t CondK.f decide_nn Bool.not_true Bool.not_false Bool.not_not w_mv PickK.t PickK.f w_pick w_alloc w_bin w_un cviA_int w_cvi cvsA_str w_cvs w_mkI w_mkF w_sls slsK_lo slsK_hi slsK_lh w_idxs idxK_str w_len lenK_str lenK_sl lenK_nils lenK_arr w_ext extK_0 extK_1 extK_2 w_fld fldK_0 fldK_1 fldK_2 fldK_3 fldK_4 w_fadr fadrK_ptr w_iadr iadrK_sl w_iadrA iadrAK_ptr w_load w_storeK Some1.iff Some2.iff b_add b_sub b_mul b_quoP b_remP b_eql b_neq b_lss b_leq b_gtr b_geq b_sadd b_seql b_sneq b_inil u_not u_neg wrap_i64 wrap_u64 wrap_u8 wrap_i32 w_mx2 w_mn2 max2A_int min2A_int cells_int cells_bool cells_str cells_ptr cells_sl cells_nils cells_fn cells_agg one_int one_bool one_str one_ptr one_sl one_nils one_fn OpWp.callF_iff OpWp.callV_iff CallVK.fn OpWp.inv_iff CondK.posN PickK.posN WantK.posN_t WantK.posN_f CondK.pos CondK.neg PickK.pos PickK.neg WantK.pos_t WantK.neg_t WantK.pos_f WantK.neg_f
end Go.Ae
namespace Go.Ae
attribute [go_sem] Nat.zero_add Nat.add_zero List.length_cons List.length_nil List.length_append List.length_map List.length_take List.length_drop List.length_replicate List.length_set List.all_cons List.all_nil Bool.and_true Bool.and_self and_true true_and List.take_zero List.take_succ_cons List.take_nil List.drop_zero List.drop_succ_cons List.drop_nil List.nil_append List.cons_append List.getElem?_cons_zero List.getElem?_cons_succ Bool.false_eq_true Int.toNat_zero Int.toNat_natCast Int.zero_add Int.add_zero AV.ptr.injEq exists_eq_left exists_eq_left' Nat.mul_one
theorem k1 {E:Env} {s:St} {Q:Ex→St→Prop} {a b:ACode} {p:Prop} {_:Decidable p} (h1:¬p→Wp E a s Q) (h2:p→Wp E b s Q):CondK E (.bool (decide (¬p))) a b s Q:=CondK.decN h1 h2
section
variable {E:Env} {s:St} {h:Hp} {x y:AV} {Q:Ex→St→Prop} {K:AV→Hp→Prop} {a b:ACode} {r:List AOper} {d:Option Nat} {o:AOp} {p:Prop} {_:Decidable p} {c:Bool}
theorem k2 (h1:¬p→GrdK E (WantK (.bool true) c) o d r s Q) (h2:p→GrdK E (WantK (.bool false) c) o d r s Q):GrdK E (WantK (.bool (decide (¬p))) c) o d r s Q:=GrdK.decN h1 h2
theorem k3 (h1:¬p→K x h) (h2:p→K y h):PickK (.bool (decide (¬p))) x y h K:=PickK.decN h1 h2
theorem k4 (h1:p→Wp E a s Q) (h2:¬p→Wp E b s Q):CondK E (.bool (decide p)) a b s Q:=CondK.dec h1 h2
theorem k5 (h1:p→GrdK E (WantK (.bool true) c) o d r s Q) (h2:¬p→GrdK E (WantK (.bool false) c) o d r s Q):GrdK E (WantK (.bool (decide p)) c) o d r s Q:=GrdK.dec h1 h2
theorem k6 {acc:List (Nat×Nat)} {acc':Option (List (Nat×Nat))} {i c0:Nat} (h1:p→DGrd E (WantK (.bool true) c) acc acc' d o r i c0 s Q) (h2:¬p→DGrd E (WantK (.bool false) c) acc acc' d o r i c0 s Q):DGrd E (WantK (.bool (decide p)) c) acc acc' d o r i c0 s Q:=DGrd.dec h1 h2
theorem k7 (h1:p→K x h) (h2:¬p→K y h):PickK (.bool (decide p)) x y h K:=PickK.dec h1 h2
end
class Spl (a b:outParam Prop) (g:Prop):Prop where
 i:a→b→g
section
variable {E:Env} {s:St} {h:Hp} {x y:AV} {Q:Ex→St→Prop} {K:AV→Hp→Prop} {a b:ACode} {r:List AOper} {d:Option Nat} {o:AOp} {p:Prop} {_:Decidable p} {c:Bool} {acc:List (Nat×Nat)} {acc':Option (List (Nat×Nat))} {i c0:Nat}
instance:Spl (p→K x h) (¬p→K y h) (PickK (.bool (decide p)) x y h K):=⟨k7⟩
instance:Spl (p→DGrd E (WantK (.bool true) c) acc acc' d o r i c0 s Q) (¬p→DGrd E (WantK (.bool false) c) acc acc' d o r i c0 s Q) (DGrd E (WantK (.bool (decide p)) c) acc acc' d o r i c0 s Q):=⟨k6⟩
instance:Spl (p→GrdK E (WantK (.bool true) c) o d r s Q) (¬p→GrdK E (WantK (.bool false) c) o d r s Q) (GrdK E (WantK (.bool (decide p)) c) o d r s Q):=⟨k5⟩
instance:Spl (p→Wp E a s Q) (¬p→Wp E b s Q) (CondK E (.bool (decide p)) a b s Q):=⟨k4⟩
instance:Spl (¬p→K x h) (p→K y h) (PickK (.bool (decide (¬p))) x y h K):=⟨k3⟩
instance:Spl (¬p→GrdK E (WantK (.bool true) c) o d r s Q) (p→GrdK E (WantK (.bool false) c) o d r s Q) (GrdK E (WantK (.bool (decide (¬p))) c) o d r s Q):=⟨k2⟩
instance:Spl (¬p→Wp E a s Q) (p→Wp E b s Q) (CondK E (.bool (decide (¬p))) a b s Q):=⟨k1⟩
end
theorem okD {p:Prop} (h:p:=by first|assumption|omega|(simp only[go_sem,ne_eq,Nat.reduceAdd,Nat.reduceLeDiff]<;>omega)|fail):p:=h
theorem okA {p:Prop} (h:p:=by simp(disch:=first|exact okD|fail) only[go_sem,seval]):p:=h
theorem okO {p:Prop} (h:p:=by first|omega|(simp only[Hp.next_push,Hp.next_put,Hp.ov_next,Hp.clk_push,Hp.clk_put,Hp.ov_clk]<;>omega)|fail):p:=h
theorem okG {p:Prop} (h:p:=by(try first|refine⟨trivial,?_⟩|refine⟨rfl,?_⟩);(repeat(first|exact Grs.refl _|assumption|refine Grs.push ?_|refine Grs.ov ?_|refine Grs.put ?_ (by(try simp only[Hp.next_push,Hp.next_put,Hp.ov_next,Hp.clk_push,Hp.clk_put,Hp.ov_clk]);omega)))):p:=h
end Go.Ae
set_option linter.unusedVariables false
set_option linter.unusedSimpArgs false
set_option maxRecDepth 100000
namespace Go.Ae
open Go.Proofs
noncomputable def ES:Env:=(L.En C.fns).add S.tab
theorem envS {W0:World} {base:Nat} (G:L.Glob W0 base):EnvOk Tryz.prog W0 base ES:=(L.env_ok G C.fns_ok).add S.good
theorem s264 {n:Int} (hn: -9223372036854775808≤n∧n≤9223372036854775807):CallWp ES 264 [.agg [.int .i64 n,.nils]] Hp.nil fun v h=>v= .str (Lib.itoa n):=by
 have c2:∀{h:Hp} {K:AV→Hp→Prop},CallWp ES 220 [.int .i64 n] h K↔K (.str (Lib.itoa n)) h:=fun{h K}=>by
  rw[CallWp.prim_iff (p:=L.p220) rfl rfl]
  have:L.p220 [.int .i64 n] h=some (.str (Lib.itoa n),h):=if_pos hn
  rw[this];exact Iff.rfl
 refine CallWp.fn (fn:=S.a264) rfl rfl rfl ?_
 unfold S.a264
 repeat' (with_reducible first|simp(disch:=first|exact okD|fail) only[go_sem,seval,c2]|(apply Spl.i<;>intro hc))
def p264 (args:List AV) (h:Hp):Option (AV×Hp):=
 match args with
 |[.agg [.int .i64 n,.nils]]=>if -9223372036854775808≤n∧n≤9223372036854775807 then some (.str (Lib.itoa n),h)else none
 |_=>none
theorem k264 {W0:World} {base:Nat} (G:L.Glob W0 base) (args:List AV) (h:Hp) (v:AV) (h':Hp) (hp:p264 args h=some (v,h')):h'=h∧∀ρ w,Go.RowKit.Below base W0 w→HRel base ρ h w→Does Tryz.prog base ρ h w (callFunc 264 (encs ρ args).toArray) v h:=by
 unfold p264 at hp
 split at hp
 ·rename_i n
  split at hp
  ·rename_i hs
   obtain⟨rfl,rfl⟩:=pair_inj hp
   refine⟨rfl,fun ρ w B R=>?_⟩
   obtain⟨v,h1,⟨m,hm⟩,rfl⟩:=s264 hs
   exact lift (envS G) hm (by simp[frees,AV.free]) rfl B R
  ·cases hp
 ·cases hp
end Go.Ae
