/- strconv.FormatUint at base 10, and the text of a machine integer. -/
import Derived.Test.YtdaggbpeoldmeaaGreatDoorM2
import Derived.Lib.AppendIntMem
import Derived.BigCall
import Derived.BigGuard
import Derived.WalkKit
import Derived.Shelf.RegionOpen
import Derived.Shelf.Abstract
import Derived.Lib.Walk
import Derived.Outline
import Derived.Test.YtdaggbpeoldmeaaGreatDoorZFB
import Derived.Test.YtdaggbpeoldmeaaGreatDoorM3
open Array renaming size_replicate → kv
open Go.RowKit renaming Below → bn
open Iff renaming rfl → aA
open List renaming all_nil → vJ, all_cons → jU
open Option renaming map_some → cV
open Option.some renaming inj → aa
set_option linter.unusedVariables false
set_option linter.unusedSimpArgs false
set_option maxRecDepth 100000
namespace Go.Ae.L
attribute [local go_sem] Oper.semAt_some
open Go.Proofs Go.Ae Go.RowKit Go.Shelf Go.Lib Go.Sort
section
variable {W0:World}{base:Nat}{ρ:dF}{h h':Hp}{w w':World}{v:AV}{args:List AV}
theorem PZ (u:Nat)(hu64:u<18446744073709551616)(w:World)(htab:Lib.TabIs Tryz.prog w "internal/strconv.uint64pow10" .u64 Lib.pow10Tab):
  Calls Tryz.prog 325 #[.int .u64 u,.int .i64 10] w fun e w'=>e= .returned (.string ⟨(Lib.decDigits u).toArray⟩)∧Below w.heap.size w w':=by
 by_cases hs:u<100
 ·go_enter Tryz.func325,Tryz.ntmps325
  have hcv:IntKind.i64.wrap (u:Int)=(u:Int):=by rw[IntKind.wrap_i64];omega
  go_wp2_with (go_at_call 327;refine(Tryz.internal_strconv_small u hs _).mono ?_;rintro e w' ⟨rfl,rfl⟩)
  go_ret
  exact⟨rfl,Below.refl _ _⟩
 ·have hu1:1≤u:=by omega
  have hnd20:Lib.nDigits u≤20:=by have:=Lib.numDigits_eq u hu1 hu64;split at this<;>omega
  have hal:Tryz.prog.arrayLen 330=24:=by kernel_rfl
  have hsl1:∀W,(Instr.sliceAt 330 (.pointer (some ⟨w.heap.size,0,none⟩)) none (some (.int .i64 (Lib.nDigits u:Int))) none).run Tryz.prog W= .ok (.slice (some ⟨w.heap.size,0,none⟩) (Lib.nDigits u) 24) W:=fun W=>by
   rw[run_sliceAt_array_h W 330 ⟨w.heap.size,0,none⟩ (by kernel_rfl) .i64 (Lib.nDigits u:Int) (by omega) (by rw[hal];omega)];go_simp
  have hH0:=Lib.holds_zero0 w 330 (Lib.nDigits u) (by omega);have hfmt:=Tryz.internal_strconv_formatBase10 w.heap.size 0 24 u (Array.replicate (Lib.nDigits u) 0) (w.alloc (.cells Lib.zeros24 330)) hH0 (by rw[kv];exact Lib.lt_pow_nDigits u) hu64 (by rw[kv];omega);rw[kv]at hfmt;have HH0:=Lib.hid hH0;clear hH0 hal;have hs':¬(u:Int)<100:=by omega
  go_enter Tryz.func325,Tryz.ntmps325
  go_wp2_with (first
   |(go_at_call 328;refine(Tryz.internal_strconv_numDigits u hu1 hu64 _ (Lib.tabIs_alloc htab _)).mono ?_;rintro e w' ⟨rfl,rfl⟩))
  go_at_call 329
  refine hfmt.mono ?_;rintro e w' ⟨rfl,k,v',dk,rfl,hF⟩
  have hcv:(convert 261 9 (.slice (some ⟨w.heap.size,0,none⟩) (Lib.nDigits u) 24)).run Tryz.prog ((putRow (fun(b:UInt8)=>Value.int .u8 (b.toNat:Int)) (w.alloc (.cells Lib.zeros24 330)) w.heap.size 0 dk).drewN k)= .ok (.string ⟨(Lib.decDigits u).toArray⟩) ((putRow (fun(b:UInt8)=>Value.int .u8 (b.toNat:Int)) (w.alloc (.cells Lib.zeros24 330)) w.heap.size 0 dk).drewN k):=by
   have h:=run_convert_bytes_back (P:=Tryz.prog) ((putRow (fun(b:UInt8)=>Value.int .u8 (b.toNat:Int)) (w.alloc (.cells Lib.zeros24 330)) w.heap.size 0 dk).drewN k) 261 9 5 ⟨w.heap.size,0,none⟩ 24 (Lib.decDigits u) (by kernel_rfl) (by kernel_rfl) (by kernel_rfl) (fun j hj=>by
    rw[Lib.row_is_numeral hF j hj,Lib.add_plain,World.cell?_drewN];exact cell?_putRow (fun(b:UInt8)=>Value.int .u8 (b.toNat:Int)) _ w.heap.size 0 _ dk HH0.out (by rw[hF.size,kv]) j (by rw[hF.size];rw[Lib.decDigits_length]at hj;exact hj))
   rw[Lib.decDigits_length]at h;exact h
  go_wp2
  go_ret
  obtain⟨os,eo⟩:=Lib.fin_at w (.cells Lib.zeros24 330) dk k 0;refine⟨rfl,?_⟩;rw[eo];exact below_grow w k os
theorem P0 (u:Nat)(hu64:u<18446744073709551616)(w:World)(htab:Lib.TabIs Tryz.prog w "internal/strconv.uint64pow10" .u64 Lib.pow10Tab):
  Calls Tryz.prog 299 #[.int .u64 u,.int .i64 10] w fun e w'=>e= .returned (.string ⟨(Lib.decDigits u).toArray⟩)∧Below w.heap.size w w':=by
 go_enter Tryz.func299,Tryz.ntmps299
 go_wp2_with (go_at_call 325;refine(PZ u hu64 _ htab).mono ?_;rintro e w' ⟨rfl,hB⟩)
 go_ret
 exact⟨rfl,hB⟩
def Ew (args:List AV)(h:Hp):Option (AV×Hp):=
 match args with
 |[.int .u64 n,.int .i64 10]=>if 0≤n∧n<18446744073709551616 then some (.str (Lib.decDigits n.toNat),h)else none
 |_=>none
theorem Wy (G:kR W0 base)(args:List AV)(h:Hp)(v:AV)(h':Hp)(hp:Ew args h=some (v,h')):h'=h∧∀ρ w,bn base W0 w→bz base ρ h w→eC Tryz.prog base ρ h w (callFunc 299 (encs ρ args).toArray) v h:=by
 unfold Ew at hp;split at hp
 ·rename_i n;split at hp
  ·rename_i hs;obtain⟨m,rfl⟩:∃m:Nat,n=m:=⟨n.toNat,by omega⟩
   obtain⟨rfl,rfl⟩:=aj hp;refine⟨rfl,fun ρ w B R=>?_⟩;refine eC.grown (by kernel_rfl) R (by simp[ok]) ?_;refine(P0 m (by omega) w (G.pow10 w B)).mono ?_;rintro e w' ⟨rfl,hB⟩;exact⟨by simp[enc],hB⟩
  ·cases hp
 ·cases hp
end
end Go.Ae.L
namespace Go.Ae.S
open ij bC C
def Ct:cP:=⟨69,[.tmp 2],(q [o 1 (.box (.t 0)),o 2 (.mv (.k (.str [])))]
 (.seq (q [fa 12 1 1,l 13 false 1 12,o 14 (.bin .eql .slice (.t 13) (.k (.av)))]
 (k 14 (q [fa 15 0 1,l 16 false 1 15,c 17 220 [.t 16],v 2 17]
 .ret)))
 (q [l 19 true 2 1,c 20 202 [.t 19],v 18 20,e 21 18 0,e 22 18 1,v 3 21,v 4 22]
 (q [o 23 (.dU 1 1 [.int .u64 0] [(0,1,(u 1000000000000000000))]),v 5 23]
 (q [o 6 (.mv (.k (.av)))]
 (.seq (.block 0 (.loop (.seq (q [v 24 4,ln 25 24,bi 26 .gtr 25 0]
 (.cond (.t 26) .skip
 (.exit 0)))
 (.block 1 (q [v 28 4,v 29 5,c 30 265 [.t 28,.t 29],v 27 30,e 31 27 0,e 32 27 1,v 7 31,v 8 32]
 (q [o 9 (.mv (.k (.str [48])))]
 (.seq (q [v 33 8,ln 34 33,bi 35 .gtr 34 0]
 (k 35 (.cG [v 36 8,o 37 (.gR 1 (.t 36) (i 0)),l 38 false 1 37,c 39 299 [.t 38,i 10],v 9 39])))
 (.seq (q [v 40 7,ln 41 40,bi 42 .gtr 41 0]
 (k 42 (.cG [v 43 9,ls 44 43,b 45 .sub (i 18) (.t 44),c 46 221 [(.k (.str [48])),.t 45],v 47 9,bt 48 .add 46 47,v 9 48])))
 (q [v 49 6,v 50 9,o 51 (.dU 1 1 [.str []] [(0,1,(.t 50))]),o 52 (.app 1 16 (.t 49) (.t 51)),v 6 52]
 (.cG [v 53 7,v 4 53]))))))))))
 (q [o 10 (.alloc [.pG,.av])]
 (.seq (q [v 54 3]
 (k 54 (.cG [c 55 234 [.t 10,(.k (.str [45]))]])))
 (.seq (q [v 56 6,ln 57 56,bi 58 .sub 57 1,v 11 58]
 (.block 2 (.loop (.seq (q [v 59 11,bi 60 .geq 59 0]
 (.cond (.t 60) .skip
 (.exit 2)))
 (.seq (.block 3 (.cG [v 63 6,v 64 11,ix 65 1 63 64,l 66 false 1 65,c 67 234 [.t 10,.t 66]]))
 (.cG [v 61 11,bi 62 .sub 61 1,v 11 62]))))))
 (q [c 68 235 [.t 10],v 2 68]
 .ret))))))))))⟩
def nc:T cP:=(.node .nil none (.node (.node (.node .nil none (.node (.node (.node (.node (.node .nil (some Ct) .nil) none .nil) none .nil) none .nil) none .nil)) none .nil) none .nil))
section
open Go.Proofs
theorem Qv:bh 264 Ct:=by unfold bh;kernel_rfl
theorem all:T.Forall bh nc (fun n=>n):=⟨C.no,trivial,⟨C.no,⟨C.no,⟨C.no,trivial,⟨C.no,⟨C.no,⟨C.no,⟨C.no,⟨C.yes Qv,trivial,trivial⟩,trivial⟩,trivial⟩,trivial⟩,trivial⟩⟩,trivial⟩,trivial⟩⟩
theorem zA (n:Nat)(a:cP)(h:nc.get n=some a):DQ Tryz.prog n=some a:=T.gS nc (fun n=>n) all n a h
end
end Go.Ae.S
namespace Go.Ae
noncomputable def Env.add (E:Env)(t:T cP):Env:={ E with fns:=fun n=>match E.fns n with|some a=>some a|none=>t.get n }
structure Ge (E E':Env):Prop where
 fns:∀f a,E.fns f=some a→E'.fns f=some a
 dK:∀f,E'.dK f=E.dK f
 exts:∀f,E'.exts f=E.exts f
 gO:∀T n,E'.gO T n=E.gO T n
theorem Ge.trans {E E1 E2:Env}(h:Ge E E1)(g:Ge E1 E2):Ge E E2:=
 ⟨fun f a e=>g.fns f a (h.fns f a e),fun f=>(g.dK f).trans (h.dK f),fun f=>(g.exts f).trans (h.exts f),fun T n=>(g.gO T n).trans (h.gO T n)⟩
theorem Ge.add (E:Env)(t:T cP):Ge E (E.add t) where
 fns:=fun f a h=>by show(match E.fns f with|some a=>some a|none=>t.get f)=_;rw[h]
 dK:=fun _=>rfl
 exts:=fun _=>rfl
 gO:=fun _ _=>rfl
section
variable {E E':Env}
theorem qR (g:Ge E E'){r r':Rec}(hr:∀c s x,r c s=some x→r' c s=some x){f:Nat}{args:List AV}{h:Hp}{x:AV×Hp}(hc:gK E r f args h=some x):gK E' r' f args h=some x:=by
 unfold gK at *;rw[g.exts];split at hc
 ·exact hc
 ·rename_i he;rw[g.dK];split at hc
  ·exact hc
  ·split at hc
   ·cases hc
   ·rename_i fn hf;rw[g.fns _ _ hf];simp only;cases hx:r fn.code { tm:=iA args 0 .nil,hp:=h }with
    |none=>rw[hx]at hc;cases hc
    |some y=>rw[hx]at hc;rw[hr _ _ _ hx];exact hc
theorem Hu (g:Ge E E'){r r':Rec}(hr:∀c s x,r c s=some x→r' c s=some x){o:ij}{s:St}{x:AV×Hp}(hc:nd o E r s=some x):nd o E' r' s=some x:=by
 cases o<;>try exact hc
 ·exact qR g hr hc
 ·simp only[nd,kj]at *;split at hc
  ·exact qR g hr hc
  ·cases hc
 ·simp only[nd,qz]at *;split at hc
  ·rw[g.gO];split at hc
   ·exact qR g hr hc
   ·cases hc
  ·cases hc
theorem Kf (g:Ge E E'){r r':Rec}(hr:∀c s x,r c s=some x→r' c s=some x){c:ap}{s:St}{x:Ex×St}(hc:step E r c s=some x):step E' r' c s=some x:=by
 cases c with
 |skip=>exact hc
 |ret=>exact hc
 |exit i=>exact hc
 |bad=>exact hc
 | cG ops=>
  cases ops with
  |nil=>exact hc
  | cons o l=>
   have hc:kx o l E r s=some x:=hc;show kx o l E' r' s=some x
   unfold kx at *;split at hc
   ·unfold lB at *;split at hc
    ·rename_i ho;rw[Hu g hr ho];exact hr _ _ _ hc
    ·cases hc
   ·exact hr _ _ _ hc
 |cC ops=>exact hr _ _ _ hc
 | kH ops i c0 acc=>
  cases ops with
  |nil=>exact hc
  | cons o l=>
   have hc:jk o l i c0 acc E r s=some x:=hc;show jk o l i c0 acc E' r' s=some x
   unfold jk at *;split at hc
   ·split at hc
    ·rename_i ho;rw[Hu g hr ho];simp only;split at hc
     ·rename_i h1;split at hc
      ·exact hr _ _ _ hc
      ·cases hc
     ·cases hc
    ·cases hc
   ·split at hc
    ·exact hr _ _ _ hc
    ·cases hc
 | seq a b=>
  have hc:iT a b E r s=some x:=hc;show iT a b E' r' s=some x
  unfold iT at *;split at hc
  ·rename_i h1;rw[hr _ _ _ h1];exact hr _ _ _ hc
  ·rename_i hne;rw[hr _ _ _ hc];obtain⟨e,s'⟩:=x;cases e with
   |fW=>exact absurd hc (hne _)
   |exit i=>rfl
   |ret=>rfl
 | cond y a b=>
  have hc:iq y a b E r s=some x:=hc;show iq y a b E' r' s=some x
  unfold iq at *;split at hc
  ·exact hr _ _ _ hc
  ·exact hr _ _ _ hc
  ·cases hc
 | block id a=>
  have hc:fF id a E r s=some x:=hc;show fF id a E' r' s=some x
  unfold fF at *;split at hc
  ·rename_i h1;rw[hr _ _ _ h1];exact hc
  ·rename_i hne;rw[hr _ _ _ hc];obtain⟨e,s'⟩:=x;cases e with
   |exit i=>exact absurd hc (hne _ _)
   |fW=>rfl
   |ret=>rfl
 | loop a=>
  have hc:io a E r s=some x:=hc;show io a E' r' s=some x
  unfold io at *;split at hc
  ·rename_i h1;rw[hr _ _ _ h1];exact hr _ _ _ hc
  ·rename_i hne;rw[hr _ _ _ hc];obtain⟨e,s'⟩:=x;cases e with
   |fW=>exact absurd hc (hne _)
   |exit i=>rfl
   |ret=>rfl
theorem DF (g:Ge E E'):∀(n:Nat) (c:ap) (s:St) (x:Ex×St),exec E n c s=some x→exec E' n c s=some x
 |0,_,_,_,h=>by cases h
 | n+1,c,s,x,h=>by
  rw[aN]at *;exact Kf g (DF g n) h
theorem dJ.ge (g:Ge E E'){f:Nat}{args:List AV}{h h':Hp}{v:AV}(hc:dJ E f args h v h'):dJ E' f args h v h':=by
 obtain⟨n,hn⟩:=hc;exact⟨n,qR g (DF g n) hn⟩
theorem ae.ge (g:Ge E E'){f:Nat}{args:List AV}{h:Hp}{K:AV→Hp→Prop}(hc:ae E f args h K):ae E' f args h K:=by
 obtain⟨v,h',h1,h2⟩:=hc;exact⟨v,h',h1.ge g,h2⟩
theorem up (g:Ge E E'){f:Nat}{args:List AV}{h h':Hp}{v:AV}{K:AV→Hp→Prop}(hc:∀K,ae E f args h K↔K v h'):ae E' f args h K↔K v h':=
 ae.cX (((hc _).2 ⟨rfl,rfl⟩).ge g)
theorem fO.add {P:Program}{W0:World}{base:Nat}{t:T cP}(EO:fO P W0 base E)(ht:∀n a,t.get n=some a→DQ P n=some a):fO P W0 base (E.add t) where
 fns:=by
  intro f a h;have h:(match E.fns f with|some a=>some a|none=>t.get f)=some a:=h;split at h
  ·rename_i b hb;obtain rfl:=aa h;exact EO.fns f b hb
  ·exact Ah (ht f a h)
 dK:=EO.dK
 exts:=EO.exts
 gO:=fun T n f h=>EO.gO T n f h
 later:=EO.later
 mixed:=EO.mixed
end
noncomputable section
structure MW (h h':Hp)(k j:Nat):Prop where
 next:h'.next=h.next+k
 df:h'.df=h.df+j
 get:∀t,t<h.next→h'.get t=h.get t
def aK (h h':Hp):Prop:=∃k j,MW h h' k j
theorem aK.next {h h':Hp}(g:aK h h'):h.next≤h'.next:=by obtain⟨k,j,g⟩:=g;have:=g.next;omega
theorem aK.df {h h':Hp}(g:aK h h'):h.df≤h'.df:=by obtain⟨k,j,g⟩:=g;have:=g.df;omega
theorem aK.get {h h':Hp}(g:aK h h'){t:Nat}(ht:t<h.next):h'.get t=h.get t:=by obtain⟨k,j,g⟩:=g;exact g.get t ht
theorem aK.refl (h:Hp):aK h h:=⟨0,0,rfl,rfl,fun _ _=>rfl⟩
theorem aK.trans {a b c:Hp}(x:aK a b)(y:aK b c):aK a c:=by
 obtain⟨k,j,x⟩:=x;obtain⟨k',j',y⟩:=y;exact⟨k+k',j+j',by rw[y.next,x.next];omega,by rw[y.df,x.df];omega,fun t ht=>(y.get t (by rw[x.next];omega)).trans (x.get t ht)⟩
theorem aK.push {a b:Hp}(x:aK a b){f:Nat→di}:aK a (b.push f):=by
 obtain⟨k,j,x⟩:=x;exact⟨k+1,j+1,by show b.next+1=_;rw[x.next];omega,by show b.df+1=_;rw[x.df];omega,fun t ht=>(Hp.du (by rw[x.next];omega)).trans (x.get t ht)⟩
theorem aK.put {a b:Hp}(x:aK a b){t:Nat}{f:Nat→di}(ht:a.next≤t):aK a (b.put t f):=by
 obtain⟨k,j,x⟩:=x;exact⟨k,j+1,x.next,by show b.df+1=_;rw[x.df];omega,fun u hu=>(Hp.fq (by omega)).trans (x.get u hu)⟩
def Hp.ov (h h':Hp){k j:Nat}(_:MW h h' k j):Hp:=h'
theorem aK.ov {a b h':Hp}{k j:Nat}(x:aK a b){g:MW b h' k j}:aK a (b.ov h' g):=x.trans ⟨k,j,g⟩
section
variable {h h':Hp}{k j t:Nat}{g:MW h h' k j}
theorem Hp.iH:(h.ov h' g).next=h.next+k:=g.next
theorem Hp.rp:(h.ov h' g).df=h.df+j:=g.df
theorem Hp.rn (ht:t<h.next):(h.ov h' g).get t=h.get t:=g.get t ht
end
def Gv (E:Env)(f:Nat)(args:List AV)(h:Hp)(v:AV):Prop:=∃h',dJ E f args h v h'∧aK h h'
def Gp (E:Env)(f:Nat)(args:List AV)(h:Hp)(p:AV→Hp→Prop):Prop:=∃v h',dJ E f args h v h'∧aK h h'∧p v h'
section
variable {E:Env}{f:Nat}{args:List AV}{h:Hp}{v:AV}{K:AV→Hp→Prop}{p:AV→Hp→Prop}
theorem Gv.wp (hc:Gv E f args h v)(hk:∀h' k j (g:MW h h' k j),K v (h.ov h' g)):ae E f args h K:=by
 obtain⟨h',h1,k,j,g⟩:=hc;exact⟨v,h',h1,hk h' k j g⟩
theorem Gv.of (hc:ae E f args h fun v' h'=>v'=v∧aK h h'):Gv E f args h v:=by
 obtain⟨v',h',h1,rfl,g⟩:=hc;exact⟨h',h1,g⟩
theorem Gp.wp (hc:Gp E f args h p)(hk:∀v h' k j (g:MW h h' k j),p v (h.ov h' g)→K v (h.ov h' g)):ae E f args h K:=by
 obtain⟨v,h',h1,⟨k,j,g⟩,hp⟩:=hc;exact⟨v,h',h1,hk v h' k j g hp⟩
theorem Gp.of (hc:ae E f args h fun v' h'=>p v' h'∧aK h h'):Gp E f args h p:=by
 obtain⟨v',h',h1,hp,g⟩:=hc;exact⟨v',h',h1,g,hp⟩
theorem Gv.ge {E':Env}(hg:∀h v h',dJ E f args h v h'→dJ E' f args h v h')(hc:Gv E f args h v):Gv E' f args h v:=by
 obtain⟨h',h1,g⟩:=hc;exact⟨h',hg _ _ _ h1,g⟩
end
def At (h:Hp)(t:Nat)(cs:List AV):Prop:=∃st,h.get t=some (.row cs true st)
section
variable {h h':Hp}{k j t u:Nat}{g:MW h h' k j}{cs z:List AV}
theorem At.sO (ht:t=h.next):At (h.push fun st=> .row z true st) t cs↔z=cs:=by
 unfold At;rw[ht,Hp.cu];constructor
 ·rintro⟨st,e⟩;injection e with e;injection e
 ·rintro rfl;exact⟨_,rfl⟩
theorem At.du {f:Nat→di}(ht:t≠h.next):At (h.push f) t cs↔At h t cs:=by unfold At;rw[Hp.du ht]
theorem At.Bm (ht:t=u):At (h.put u fun st=> .row z true st) t cs↔z=cs:=by
 unfold At;rw[ht,Hp.lU];constructor
 ·rintro⟨st,e⟩;injection e with e;injection e
 ·rintro rfl;exact⟨_,rfl⟩
theorem At.fq {f:Nat→di}(ht:t≠u):At (h.put u f) t cs↔At h t cs:=by unfold At;rw[Hp.fq ht]
theorem At.ov (ht:t<h.next):At (h.ov h' g) t cs↔At h t cs:=by unfold At;rw[Hp.rn ht]
end
def fB (ag:Bool)(l p:Nat)(x:Option di)(h:Hp)(K:AV→Hp→Prop):Prop:=
 match x with
 |some (.row cs _ _)=>fu (if p+l≤cs.length then(if ag then some (.agg ((cs.drop p).take l))else cs[p]?)else none) h K
 |_=>False
def fG (l t p:Nat)(y:AV)(x:Option di)(h:Hp)(K:AV→Hp→Prop):Prop:=
 match x with
 |some (.row cs true _)=>y.cells.length=l∧p+l≤cs.length∧y.cells.all AV.one=true∧K jO (h.put t fun st=> .row (eE cs p y.cells) true st)
 |_=>False
def AG (ag:Bool)(l:Nat)(v:AV)(h:Hp):Option AV:=
 match v with
 | .ptr t p=>match h.get t with
  |some (.row cs _ _)=>if p+l≤cs.length then(if ag then some (.agg ((cs.drop p).take l))else cs[p]?)else none
  |_=>none
 |_=>none
def AF (ag:Bool)(l p:Nat)(x:Option di):Option AV:=
 match x with
 |some (.row cs _ _)=>if p+l≤cs.length then(if ag then some (.agg ((cs.drop p).take l))else cs[p]?)else none
 |_=>none
section
variable {E:Env}{s:St}{h:Hp}{K:AV→Hp→Prop}{ag own:Bool}{l p t st:Nat}{cs:List AV}{y v:AV}
theorem nk.r:nk ag l (.ptr t p) h K↔fB ag l p (h.get t) h K:=by
 simp only[nk,fB];cases h.get t with
 |none=>exact aA
 |some o=>cases o<;>exact aA
theorem fB.row:fB ag l p (some (.row cs own st)) h K↔fu (if p+l≤cs.length then(if ag then some (.agg ((cs.drop p).take l))else cs[p]?)else none) h K:=aA
theorem mT.r:mT l (.ptr t p) y h K↔fG l t p y (h.get t) h K:=by
 simp only[mT,fG];cases h.get t with
 |none=>exact aA
 | some o=>
  cases o with
  |row cs own st=>cases own<;>exact aA
  |_=>exact aA
theorem fG.row:fG l t p y (some (.row cs true st)) h K↔y.cells.length=l∧p+l≤cs.length∧y.cells.all AV.one=true∧K jO (h.put t fun st=> .row (eE cs p y.cells) true st):=aA
theorem Es:nJ s (.cell t ag l)=AG ag l (val s.tm (.t t)) s.hp:=rfl
theorem AG.r:AG ag l (.ptr t p) h=AF ag l p (h.get t):=by
 simp only[AG,AF]
theorem AF.row:AF ag l p (some (.row cs own st))=if p+l≤cs.length then(if ag then some (.agg ((cs.drop p).take l))else cs[p]?)else none:=rfl
def MV (a b:Option AV):Option AV:=
 match a,b with
 |some a,some b=>some (.gk [a,b])
 |_,_=>none
def MU (a b c:Option AV):Option AV:=
 match a,b,c with
 |some a,some b,some c=>some (.gk [a,b,c])
 |_,_,_=>none
theorem RA {a:qU}:eD s [a]=nJ s a:=by
 simp only[eD,qo];cases nJ s a<;>rfl
theorem Rx {a b:qU}:eD s [a,b]=MV (nJ s a) (nJ s b):=by
 simp only[eD,qo];cases nJ s a<;>cases nJ s b<;>rfl
theorem Rt {a b c:qU}:eD s [a,b,c]=MU (nJ s a) (nJ s b) (nJ s c):=by
 simp only[eD,qo];cases nJ s a<;>cases nJ s b<;>cases nJ s c<;>rfl
theorem MV.Ki {a b:AV}:MV (some a) (some b)=some (.gk [a,b]):=rfl
theorem MU.Ki {a b c:AV}:MU (some a) (some b) (some c)=some (.gk [a,b,c]):=rfl
theorem OD {z:bC}:cm E (.box z) s K↔((val s.tm z).cells.all AV.one=true∧K (.ptr s.hp.next 0) (s.hp.push fun t=> .row (val s.tm z).cells true t)):=by
 rw[Q6];simp only[tU];split
 ·rename_i hc;simp only[eW,hc,true_and]
 ·rename_i hc;simp only[eW,false_iff];exact fun e=>hc e.1
theorem F7 {z:List AV}{ps:List (Nat×Nat×bC)}:cm E (.build z ps) s K↔fu ((ke z (ps.map fun q=>(q.1,q.2.1,val s.tm q.2.2))).map AV.agg) s.hp K:=by
 rw[JT];simp only[kT];cases ke z (ps.map fun q=>(q.1,q.2.1,val s.tm q.2.2))<;>exact aA
theorem oR:ke cs []=some cs:=rfl
theorem jE {o n:Nat}{r:List (Nat×Nat×AV)}(hc:v.cells.length=n∧o+n≤cs.length∧v.cells.all AV.one=true):ke cs ((o,n,v)::r)=ke (eE cs o v.cells) r:=by
 simp only[ke,if_pos hc]
def Ut (sz n:Nat)(x:Option (List AV))(h:Hp)(K:AV→Hp→Prop):Prop:=
 match x with
 |some cs=>n*sz=cs.length∧0<sz∧K (.sl h.next 0 n sz) (h.push fun t=> .row cs true t)
 |none=>False
theorem Ee {sz n:Nat}{z:List AV}{ps:List (Nat×Nat×bC)}:cm E (.dU sz n z ps) s K↔Ut sz n (ke z (ps.map fun q=>(q.1,q.2.1,val s.tm q.2.2))) s.hp K:=by
 rw[F8];simp only[kz];cases ke z (ps.map fun q=>(q.1,q.2.1,val s.tm q.2.2))with
 |none=>exact aA
 | some cs=>
  simp only[Ut];split
  ·rename_i hc;simp only[eW,hc,true_and]
  ·rename_i hc;simp only[eW,false_iff];exact fun e=>hc ⟨e.1,e.2.1⟩
theorem Ut.Ki {sz n:Nat}:Ut sz n (some cs) h K↔n*sz=cs.length∧0<sz∧K (.sl h.next 0 n sz) (h.push fun t=> .row cs true t):=aA
def jS (x:Option di)(c0:Nat):Bool:=
 match x with
 |some o=>Nat.ble o.st c0
 |none=>false
theorem Sb {c0:Nat}:old h c0 t=jS (h.get t) c0:=by
 unfold old jS;cases h.get t<;>rfl
theorem jS.row {c0:Nat}(hs:st≤c0):jS (some (.row cs own st)) c0=true:=Nat.ble_eq_true_of_le hs
theorem Bb {vs:List AV}:eE cs p vs=cs.take p++(vs++cs.drop (p+vs.length)):=rfl
theorem Hp.lW {f:Nat→di}:(h.push f).next=h.next+1:=id rfl
theorem Hp.nN {u:Nat}{f:Nat→di}:(h.put u f).next=h.next:=id rfl
theorem Hp.ol {f:Nat→di}:(h.push f).df=h.df+1:=id rfl
theorem Hp.qP {u:Nat}{f:Nat→di}:(h.put u f).df=h.df+1:=id rfl
theorem Hp.sO {f:Nat→di}(ht:t=h.next):(h.push f).get t=some (f (h.df+1)):=by rw[ht];exact Hp.cu
theorem Hp.Bm {u:Nat}{f:Nat→di}(ht:t=u):(h.put u f).get t=some (f (h.df+1)):=by rw[ht];exact Hp.lU
theorem Qs:dM .eql .slice .av .av=some (.bool true):=rfl
theorem Qr {t o n z:Nat}:dM .eql .slice (.sl t o n z) .av=some (.bool false):=rfl
theorem LQ:dM .neq .slice .av .av=some (.bool false):=rfl
theorem LP {t o n z:Nat}:dM .neq .slice (.sl t o n z) .av=some (.bool true):=rfl
theorem Qu {a b:Bool}:dM .eql .bool (.bool a) (.bool b)=some (.bool (decide (a=b))):=by
 simp only[dM,vC,xK,cV];cases a<;>cases b<;>rfl
theorem Qt {a b:Bool}:dM .neq .bool (.bool a) (.bool b)=some (.bool (decide (¬a=b))):=by
 simp only[dM,vC,xK,cV];cases a<;>cases b<;>rfl
end
theorem TM:((0:Nat):Int)=0:=id rfl
theorem TL:((1:Nat):Int)=1:=id rfl
theorem TK:((2:Nat):Int)=2:=id rfl
theorem TI:((3:Nat):Int)=3:=id rfl
attribute [go_sem] At.sO At.du At.Bm At.fq At.ov TM TL TK TI aK.refl nk.r fB.row mT.r fG.row Es AG.r AF.row RA Rx Rt MV.Ki MU.Ki OD F7 oR jE Ee Ut.Ki Sb jS.row Bb Qs Qr LQ LP Qu Qt Hp.iH Hp.rp Hp.rn Hp.lW Hp.ol Hp.nN Hp.qP Hp.sO Hp.du Hp.Bm Hp.fq C.o C.n C.g C.m C.i C.u C.v C.e C.c C.b C.bt C.bi C.y C.l C.s C.ix C.fa C.ln C.ls C.vi C.pt C.pf C.zF C.zI C.zS C.w C.x C.gl C.gc C.gb C.q C.k
end
attribute [go_sem] not_true_eq_false not_false_eq_true decide_true decide_false Wp.xl Wp.wK Wp.tD Wp.Da Wp.zL Wp.Ad Wp.Du Wp.Hs Wp.DC Wp.zQ Wp.zR Wp.DM Wp.zT uW oW Round JC DZ QG.yF Dt Ds wR.ptr vJ jU zC Nh hC CN yN yO wy uB List.map_cons List.map_nil cV Option.map_none yL RC RB Ry Ru eT.ret eT.fW AC.iff yx bH.tt bH.tf bH.ft bH.ff bH.jO gE.t gE.f mi.t mi.f dw.t dw.f wz Bool.not_true Bool.not_false Bool.not_not Q4 dI.t dI.f FW CL Nf Q3 Aa Nd zZ Nc M7 M8 M1 CW CY CX FY uh M9 zi Dw wb zj Nb II IG IF Na Iw Iv Iu It Is F6 ww FZ qF CK ui FX yy fu.iff eW.iff Ov Og Om mQ ot Ou Ol On Oo Oq Ot Jq Jp Jo Js Ni Nj wrap_i64 wrap_u64 wrap_u8 wrap_i32 M4 M5 vY vW wG uM wE wF Aj uL Ak wH qy yT Dl Dm Hv qx Hz cm.wJ cm.wI rS.fn cm.Dx dw.Hh dI.Hh bH.Hf bH.Hg dw.pos dw.neg dI.pos dI.neg bH.Nn bH.Nv bH.No bH.Nw
attribute [go_sem] Nat.zero_add Nat.add_zero List.length_cons List.length_nil List.length_append List.length_map List.length_take List.length_drop List.length_replicate List.length_set jU vJ Bool.and_true Bool.and_self and_true true_and List.take_zero List.take_succ_cons List.take_nil List.drop_zero List.drop_succ_cons List.drop_nil List.nil_append List.cons_append List.getElem?_cons_zero List.getElem?_cons_succ Bool.false_eq_true Int.toNat_zero Int.toNat_natCast Int.zero_add Int.add_zero AV.ptr.injEq exists_eq_left exists_eq_left' Nat.mul_one
theorem k1 {E:Env}{s:St}{Q:Ex→St→Prop}{a b:ap}{p:Prop}{_:Decidable p}(h1:¬p→Wp E a s Q)(h2:p→Wp E b s Q):dw E (.bool (decide (¬p))) a b s Q:=dw.kI h1 h2
section
variable {E:Env}{s:St}{h:Hp}{x y:AV}{Q:Ex→St→Prop}{K:AV→Hp→Prop}{a b:ap}{r:List aF}{d:Option Nat}{o:ij}{p:Prop}{_:Decidable p}{c:Bool}
theorem k2 (h1:¬p→gE E (bH (.bool true) c) o d r s Q)(h2:p→gE E (bH (.bool false) c) o d r s Q):gE E (bH (.bool (decide (¬p))) c) o d r s Q:=gE.kI h1 h2
theorem k3 (h1:¬p→K x h)(h2:p→K y h):dI (.bool (decide (¬p))) x y h K:=dI.kI h1 h2
theorem k4 (h1:p→Wp E a s Q)(h2:¬p→Wp E b s Q):dw E (.bool (decide p)) a b s Q:=dw.dec h1 h2
theorem k5 (h1:p→gE E (bH (.bool true) c) o d r s Q)(h2:¬p→gE E (bH (.bool false) c) o d r s Q):gE E (bH (.bool (decide p)) c) o d r s Q:=gE.dec h1 h2
theorem k6 {acc:List (Nat×Nat)}{acc':Option (List (Nat×Nat))}{i c0:Nat}(h1:p→mi E (bH (.bool true) c) acc acc' d o r i c0 s Q)(h2:¬p→mi E (bH (.bool false) c) acc acc' d o r i c0 s Q):mi E (bH (.bool (decide p)) c) acc acc' d o r i c0 s Q:=mi.dec h1 h2
theorem k7 (h1:p→K x h)(h2:¬p→K y h):dI (.bool (decide p)) x y h K:=dI.dec h1 h2
end
class ai (a b:outParam Prop) (g:Prop):Prop where
 i:a→b→g
section
variable {E:Env}{s:St}{h:Hp}{x y:AV}{Q:Ex→St→Prop}{K:AV→Hp→Prop}{a b:ap}{r:List aF}{d:Option Nat}{o:ij}{p:Prop}{_:Decidable p}{c:Bool}{acc:List (Nat×Nat)}{acc':Option (List (Nat×Nat))}{i c0:Nat}
instance:ai (p→K x h) (¬p→K y h) (dI (.bool (decide p)) x y h K):=⟨k7⟩
instance:ai (p→mi E (bH (.bool true) c) acc acc' d o r i c0 s Q) (¬p→mi E (bH (.bool false) c) acc acc' d o r i c0 s Q) (mi E (bH (.bool (decide p)) c) acc acc' d o r i c0 s Q):=⟨k6⟩
instance:ai (p→gE E (bH (.bool true) c) o d r s Q) (¬p→gE E (bH (.bool false) c) o d r s Q) (gE E (bH (.bool (decide p)) c) o d r s Q):=⟨k5⟩
instance:ai (p→Wp E a s Q) (¬p→Wp E b s Q) (dw E (.bool (decide p)) a b s Q):=⟨k4⟩
instance:ai (¬p→K x h) (p→K y h) (dI (.bool (decide (¬p))) x y h K):=⟨k3⟩
instance:ai (¬p→gE E (bH (.bool true) c) o d r s Q) (p→gE E (bH (.bool false) c) o d r s Q) (gE E (bH (.bool (decide (¬p))) c) o d r s Q):=⟨k2⟩
instance:ai (¬p→Wp E a s Q) (p→Wp E b s Q) (dw E (.bool (decide (¬p))) a b s Q):=⟨k1⟩
end
theorem ab {p:Prop}(h:p:=by first|assumption|omega|(simp only[go_sem,ne_eq,Nat.reduceAdd,Nat.reduceLeDiff]<;>omega)|fail):p:=h
theorem aL {p:Prop}(h:p:=by simp(disch:=try exact ab) only[go_sem,seval]):p:=h
theorem nL {p:Prop}(h:p:=by first|omega|(simp only[Hp.lW,Hp.nN,Hp.iH,Hp.ol,Hp.qP,Hp.rp]<;>omega)|fail):p:=h
theorem okV {p:Prop}(h:p:=by first|assumption|(simp(disch:=try exact ab) only[go_sem,seval]<;>first|assumption|rfl|fail)|rfl|fail):p:=h
theorem aS {p:Prop}(h:p:=by(try first|refine⟨trivial,?_⟩|refine⟨rfl,?_⟩);(repeat(first|exact aK.refl _|assumption|refine aK.push ?_|refine aK.ov ?_|refine aK.put ?_ (by(try simp only[Hp.lW,Hp.nN,Hp.iH,Hp.ol,Hp.qP,Hp.rp]);omega)))):p:=h
open Go.Proofs
noncomputable def ES:Env:=(L.En C.fns).add S.nc
theorem XT {W0:World}{base:Nat}(G:L.kR W0 base):fO Tryz.prog W0 base ES:=(L.xL G C.xF).add S.zA
theorem VN {n:Int}(hn: -9223372036854775808≤n∧n≤9223372036854775807):ae ES 264 [.agg [.int .i64 n,.av]] Hp.nil fun v h=>v= .str (Lib.itoa n):=by
 have c2:∀{h:Hp} {K:AV→Hp→Prop},ae ES 220 [.int .i64 n] h K↔K (.str (Lib.itoa n)) h:=fun{h K}=>by
  rw[ae.gv (p:=L.Bu) rfl rfl];have:L.Bu [.int .i64 n] h=some (.str (Lib.itoa n),h):=if_pos hn;rw[this];exact aA
 refine ae.fn (fn:=S.Ct) rfl rfl rfl ?_;unfold S.Ct;repeat'(with_reducible first|simp(disch:=try exact ab) only[go_sem,seval,c2]|(apply ai.i<;>intro hc))
def Ey (args:List AV)(h:Hp):Option (AV×Hp):=
 match args with
 |[.agg [.int .i64 n,.av]]=>if -9223372036854775808≤n∧n≤9223372036854775807 then some (.str (Lib.itoa n),h)else none
 |_=>none
theorem Su {W0:World}{base:Nat}(G:L.kR W0 base)(args:List AV)(h:Hp)(v:AV)(h':Hp)(hp:Ey args h=some (v,h')):h'=h∧∀ρ w,bn base W0 w→bz base ρ h w→eC Tryz.prog base ρ h w (callFunc 264 (encs ρ args).toArray) v h:=by
 unfold Ey at hp;split at hp
 ·rename_i n;split at hp
  ·rename_i hs;obtain⟨rfl,rfl⟩:=aj hp;refine⟨rfl,fun ρ w B R=>?_⟩;obtain⟨v,h1,⟨m,hm⟩,rfl⟩:=VN hs;exact lift (XT G) hm (by simp[nh,AV.free]) rfl B R
  ·cases hp
 ·cases hp
end Go.Ae
