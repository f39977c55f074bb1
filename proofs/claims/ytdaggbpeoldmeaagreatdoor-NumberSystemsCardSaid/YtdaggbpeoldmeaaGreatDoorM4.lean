/- strconv.FormatUint at base 10, and the text of a machine integer. -/
import Derived.Test.YtdaggbpeoldmeaaGreatDoorM2
import Derived.Lib.AppendIntMem
import Derived.BigCall
import Derived.BigGuard
import Derived.WalkKit
import Derived.Shelf.RegionOpen
import Derived.Shelf.Abstract
import Derived.Lib.Walk
import Derived.Outline
import Derived.Test.YtdaggbpeoldmeaaGreatDoorZFB
import Derived.Test.YtdaggbpeoldmeaaGreatDoorM3
open Array renaming size_replicate → jX
open Go.RowKit renaming Below → bl
open Iff renaming rfl → ax
open List renaming all_nil → pS, all_cons → iO
open Option renaming map_some → cJ
open Option.some renaming inj → aa
set_option linter.unusedVariables false
set_option linter.unusedSimpArgs false
set_option maxRecDepth 100000
namespace Go.Ae.L
attribute [local go_sem] Oper.semAt_some
open Go.Proofs Go.Ae Go.RowKit Go.Shelf Go.Lib Go.Sort
section
variable {W0:World}{base:Nat}{ρ:dw}{h h':Hp}{w w':World}{v:AV}{args:List AV}
theorem ON (u:Nat)(hu64:u<18446744073709551616)(w:World)(htab:Lib.TabIs Tryz.prog w "internal/strconv.uint64pow10" .u64 Lib.pow10Tab):
  Calls Tryz.prog 325 #[.int .u64 u,.int .i64 10] w fun e w'=>e= .returned (.string ⟨(Lib.decDigits u).toArray⟩)∧Below w.heap.size w w':=by
 by_cases hs:u<100
 ·go_enter Tryz.func325,Tryz.ntmps325
  have hcv:IntKind.i64.wrap (u:Int)=(u:Int):=by rw[IntKind.wrap_i64];omega
  go_wp2_with (go_at_call 327;refine(Tryz.internal_strconv_small u hs _).mono ?_;rintro e w' ⟨rfl,rfl⟩)
  go_ret
  exact⟨rfl,Below.refl _ _⟩
 ·have hu1:1≤u:=by omega
  have hnd20:Lib.nDigits u≤20:=by have:=Lib.numDigits_eq u hu1 hu64;split at this<;>omega
  have hal:Tryz.prog.arrayLen 330=24:=by kernel_rfl
  have hsl1:∀W,(Instr.sliceAt 330 (.pointer (some ⟨w.heap.size,0,none⟩)) none (some (.int .i64 (Lib.nDigits u:Int))) none).run Tryz.prog W= .ok (.slice (some ⟨w.heap.size,0,none⟩) (Lib.nDigits u) 24) W:=fun W=>by
   rw[run_sliceAt_array_h W 330 ⟨w.heap.size,0,none⟩ (by kernel_rfl) .i64 (Lib.nDigits u:Int) (by omega) (by rw[hal];omega)];go_simp
  have hH0:=Lib.holds_zero0 w 330 (Lib.nDigits u) (by omega);have hfmt:=Tryz.internal_strconv_formatBase10 w.heap.size 0 24 u (Array.replicate (Lib.nDigits u) 0) (w.alloc (.cells Lib.zeros24 330)) hH0 (by rw[jX];exact Lib.lt_pow_nDigits u) hu64 (by rw[jX];omega);rw[jX]at hfmt;have HH0:=Lib.hid hH0;clear hH0 hal;have hs':¬(u:Int)<100:=by omega
  go_enter Tryz.func325,Tryz.ntmps325
  go_wp2_with (first
   |(go_at_call 328;refine(Tryz.internal_strconv_numDigits u hu1 hu64 _ (Lib.tabIs_alloc htab _)).mono ?_;rintro e w' ⟨rfl,rfl⟩))
  go_at_call 329
  refine hfmt.mono ?_;rintro e w' ⟨rfl,k,v',dk,rfl,hF⟩
  have hcv:(convert 261 9 (.slice (some ⟨w.heap.size,0,none⟩) (Lib.nDigits u) 24)).run Tryz.prog ((putRow (fun(b:UInt8)=>Value.int .u8 (b.toNat:Int)) (w.alloc (.cells Lib.zeros24 330)) w.heap.size 0 dk).drewN k)= .ok (.string ⟨(Lib.decDigits u).toArray⟩) ((putRow (fun(b:UInt8)=>Value.int .u8 (b.toNat:Int)) (w.alloc (.cells Lib.zeros24 330)) w.heap.size 0 dk).drewN k):=by
   have h:=run_convert_bytes_back (P:=Tryz.prog) ((putRow (fun(b:UInt8)=>Value.int .u8 (b.toNat:Int)) (w.alloc (.cells Lib.zeros24 330)) w.heap.size 0 dk).drewN k) 261 9 5 ⟨w.heap.size,0,none⟩ 24 (Lib.decDigits u) (by kernel_rfl) (by kernel_rfl) (by kernel_rfl) (fun j hj=>by
    rw[Lib.row_is_numeral hF j hj,Lib.add_plain,World.cell?_drewN];exact cell?_putRow (fun(b:UInt8)=>Value.int .u8 (b.toNat:Int)) _ w.heap.size 0 _ dk HH0.out (by rw[hF.size,jX]) j (by rw[hF.size];rw[Lib.decDigits_length]at hj;exact hj))
   rw[Lib.decDigits_length]at h;exact h
  go_wp2
  go_ret
  obtain⟨os,eo⟩:=Lib.fin_at w (.cells Lib.zeros24 330) dk k 0;refine⟨rfl,?_⟩;rw[eo];exact below_grow w k os
theorem OO (u:Nat)(hu64:u<18446744073709551616)(w:World)(htab:Lib.TabIs Tryz.prog w "internal/strconv.uint64pow10" .u64 Lib.pow10Tab):
  Calls Tryz.prog 299 #[.int .u64 u,.int .i64 10] w fun e w'=>e= .returned (.string ⟨(Lib.decDigits u).toArray⟩)∧Below w.heap.size w w':=by
 go_enter Tryz.func299,Tryz.ntmps299
 go_wp2_with (go_at_call 325;refine(ON u hu64 _ htab).mono ?_;rintro e w' ⟨rfl,hB⟩)
 go_ret
 exact⟨rfl,hB⟩
def DN (args:List AV)(h:Hp):Option (AV×Hp):=
 match args with
 |[.int .u64 n,.int .i64 10]=>if 0≤n∧n<18446744073709551616 then some (.str (Lib.decDigits n.toNat),h)else none
 |_=>none
theorem Vl (G:kz W0 base)(args:List AV)(h:Hp)(v:AV)(h':Hp)(hp:DN args h=some (v,h')):h'=h∧∀ρ w,bl base W0 w→bv base ρ h w→dQ Tryz.prog base ρ h w (callFunc 299 (encs ρ args).toArray) v h:=by
 unfold DN at hp;split at hp
 ·rename_i n;split at hp
  ·rename_i hs;obtain⟨m,rfl⟩:∃m:Nat,n=m:=⟨n.toNat,by omega⟩
   obtain⟨rfl,rfl⟩:=ai hp;refine⟨rfl,fun ρ w B R=>?_⟩;refine dQ.grown (by kernel_rfl) R (by simp[ok]) ?_;refine(OO m (by omega) w (G.pow10 w B)).mono ?_;rintro e w' ⟨rfl,hB⟩;exact⟨by simp[enc],hB⟩
  ·cases hp
 ·cases hp
end
end Go.Ae.L
namespace Go.Ae.S
open gM bp C
def B7:cy:=⟨69,[.tmp 2],(q [o 1 (.box (.t 0)),o 2 (.mv (.k (.str [])))]
 (.seq (q [fa 12 1 1,l 13 false 1 12,o 14 (.bin .eql .slice (.t 13) (.k (.aq)))]
 (k 14 (q [fa 15 0 1,l 16 false 1 15,c 17 220 [.t 16],v 2 17]
 .ret)))
 (q [l 19 true 2 1,c 20 202 [.t 19],v 18 20,e 21 18 0,e 22 18 1,v 3 21,v 4 22]
 (q [o 23 (.cL 1 1 [.int .u64 0] [(0,1,(u 1000000000000000000))]),v 5 23]
 (q [o 6 (.mv (.k (.aq)))]
 (.seq (.block 0 (.loop (.seq (q [v 24 4,ln 25 24,bi 26 .gtr 25 0]
 (.cond (.t 26) .skip
 (.exit 0)))
 (.block 1 (q [v 28 4,v 29 5,c 30 265 [.t 28,.t 29],v 27 30,e 31 27 0,e 32 27 1,v 7 31,v 8 32]
 (q [o 9 (.mv (.k (.str [48])))]
 (.seq (q [v 33 8,ln 34 33,bi 35 .gtr 34 0]
 (k 35 (.cx [v 36 8,o 37 (.iG 1 (.t 36) (i 0)),l 38 false 1 37,c 39 299 [.t 38,i 10],v 9 39])))
 (.seq (q [v 40 7,ln 41 40,bi 42 .gtr 41 0]
 (k 42 (.cx [v 43 9,ls 44 43,b 45 .sub (i 18) (.t 44),c 46 221 [(.k (.str [48])),.t 45],v 47 9,bt 48 .add 46 47,v 9 48])))
 (q [v 49 6,v 50 9,o 51 (.cL 1 1 [.str []] [(0,1,(.t 50))]),o 52 (.app 1 16 (.t 49) (.t 51)),v 6 52]
 (.cx [v 53 7,v 4 53]))))))))))
 (q [o 10 (.alloc [.py,.aq])]
 (.seq (q [v 54 3]
 (k 54 (.cx [c 55 234 [.t 10,(.k (.str [45]))]])))
 (.seq (q [v 56 6,ln 57 56,bi 58 .sub 57 1,v 11 58]
 (.block 2 (.loop (.seq (q [v 59 11,bi 60 .geq 59 0]
 (.cond (.t 60) .skip
 (.exit 2)))
 (.seq (.block 3 (.cx [v 63 6,v 64 11,ix 65 1 63 64,l 66 false 1 65,c 67 234 [.t 10,.t 66]]))
 (.cx [v 61 11,bi 62 .sub 61 1,v 11 62]))))))
 (q [c 68 235 [.t 10],v 2 68]
 .ret))))))))))⟩
def kX:T cy:=(.node .nil none (.node (.node (.node .nil none (.node (.node (.node (.node (.node .nil (some B7) .nil) none .nil) none .nil) none .nil) none .nil)) none .nil) none .nil))
section
open Go.Proofs
theorem Ph:aR 264 B7:=by unfold aR;kernel_rfl
theorem all:T.Forall aR kX (fun n=>n):=⟨C.no,trivial,⟨C.no,⟨C.no,⟨C.no,trivial,⟨C.no,⟨C.no,⟨C.no,⟨C.no,⟨C.yes Ph,trivial,trivial⟩,trivial⟩,trivial⟩,trivial⟩,trivial⟩⟩,trivial⟩,trivial⟩⟩
theorem xh (n:Nat)(a:cy)(h:kX.get n=some a):BT Tryz.prog n=some a:=T.fZ kX (fun n=>n) all n a h
end
end Go.Ae.S
namespace Go.Ae
noncomputable def Env.add (E:Env)(t:T cy):Env:={ E with fns:=fun n=>match E.fns n with|some a=>some a|none=>t.get n }
structure Ge (E E':Env):Prop where
 fns:∀f a,E.fns f=some a→E'.fns f=some a
 dG:∀f,E'.dG f=E.dG f
 exts:∀f,E'.exts f=E.exts f
 gF:∀T n,E'.gF T n=E.gF T n
theorem Ge.refl (E:Env):Ge E E:=⟨fun _ _ h=>h,fun _=>rfl,fun _=>rfl,fun _ _=>rfl⟩
theorem Ge.trans {E E1 E2:Env}(h:Ge E E1)(g:Ge E1 E2):Ge E E2:=
 ⟨fun f a e=>g.fns f a (h.fns f a e),fun f=>(g.dG f).trans (h.dG f),fun f=>(g.exts f).trans (h.exts f),fun T n=>(g.gF T n).trans (h.gF T n)⟩
theorem Ge.add (E:Env)(t:T cy):Ge E (E.add t) where
 fns:=fun f a h=>by show(match E.fns f with|some a=>some a|none=>t.get f)=_;rw[h]
 dG:=fun _=>rfl
 exts:=fun _=>rfl
 gF:=fun _ _=>rfl
section
variable {E E':Env}
theorem qE (g:Ge E E'){r r':Rec}(hr:∀c s x,r c s=some x→r' c s=some x){f:Nat}{args:List AV}{h:Hp}{x:AV×Hp}(hc:gB E r f args h=some x):gB E' r' f args h=some x:=by
 unfold gB at *;rw[g.exts];split at hc
 ·exact hc
 ·rename_i he;rw[g.dG];split at hc
  ·exact hc
  ·split at hc
   ·cases hc
   ·rename_i fn hf;rw[g.fns _ _ hf];simp only;cases hx:r fn.code { tm:=ie args 0 .nil,hp:=h }with
    |none=>rw[hx]at hc;cases hc
    |some y=>rw[hx]at hc;rw[hr _ _ _ hx];exact hc
theorem GC (g:Ge E E'){r r':Rec}(hr:∀c s x,r c s=some x→r' c s=some x){o:gM}{s:St}{x:AV×Hp}(hc:lU o E r s=some x):lU o E' r' s=some x:=by
 cases o<;>try exact hc
 ·exact qE g hr hc
 ·simp only[lU,jP]at *;split at hc
  ·exact qE g hr hc
  ·cases hc
 ·simp only[lU,qk]at *;split at hc
  ·rw[g.gF];split at hc
   ·exact qE g hr hc
   ·cases hc
  ·cases hc
theorem Jq (g:Ge E E'){r r':Rec}(hr:∀c s x,r c s=some x→r' c s=some x){c:au}{s:St}{x:Ex×St}(hc:step E r c s=some x):step E' r' c s=some x:=by
 cases c with
 |skip=>exact hc
 |ret=>exact hc
 |exit i=>exact hc
 |bad=>exact hc
 | cx ops=>
  cases ops with
  |nil=>exact hc
  | cons o l=>
   have hc:kc o l E r s=some x:=hc;show kc o l E' r' s=some x
   unfold kc at *;split at hc
   ·unfold kY at *;split at hc
    ·rename_i ho;rw[GC g hr ho];exact hr _ _ _ hc
    ·cases hc
   ·exact hr _ _ _ hc
 |cm ops=>exact hr _ _ _ hc
 | kq ops i c0 acc=>
  cases ops with
  |nil=>exact hc
  | cons o l=>
   have hc:iY o l i c0 acc E r s=some x:=hc;show iY o l i c0 acc E' r' s=some x
   unfold iY at *;split at hc
   ·split at hc
    ·rename_i ho;rw[GC g hr ho];simp only;split at hc
     ·rename_i h1;split at hc
      ·exact hr _ _ _ hc
      ·cases hc
     ·cases hc
    ·cases hc
   ·split at hc
    ·exact hr _ _ _ hc
    ·cases hc
 | seq a b=>
  have hc:iF a b E r s=some x:=hc;show iF a b E' r' s=some x
  unfold iF at *;split at hc
  ·rename_i h1;rw[hr _ _ _ h1];exact hr _ _ _ hc
  ·rename_i hne;rw[hr _ _ _ hc];obtain⟨e,s'⟩:=x;cases e with
   |fP=>exact absurd hc (hne _)
   |exit i=>rfl
   |ret=>rfl
 | cond y a b=>
  have hc:gY y a b E r s=some x:=hc;show gY y a b E' r' s=some x
  unfold gY at *;split at hc
  ·exact hr _ _ _ hc
  ·exact hr _ _ _ hc
  ·cases hc
 | block id a=>
  have hc:fk id a E r s=some x:=hc;show fk id a E' r' s=some x
  unfold fk at *;split at hc
  ·rename_i h1;rw[hr _ _ _ h1];exact hc
  ·rename_i hne;rw[hr _ _ _ hc];obtain⟨e,s'⟩:=x;cases e with
   |exit i=>exact absurd hc (hne _ _)
   |fP=>rfl
   |ret=>rfl
 | loop a=>
  have hc:gX a E r s=some x:=hc;show gX a E' r' s=some x
  unfold gX at *;split at hc
  ·rename_i h1;rw[hr _ _ _ h1];exact hr _ _ _ hc
  ·rename_i hne;rw[hr _ _ _ hc];obtain⟨e,s'⟩:=x;cases e with
   |fP=>exact absurd hc (hne _)
   |exit i=>rfl
   |ret=>rfl
theorem C6 (g:Ge E E'):∀(n:Nat) (c:au) (s:St) (x:Ex×St),exec E n c s=some x→exec E' n c s=some x
 |0,_,_,_,h=>by cases h
 | n+1,c,s,x,h=>by
  rw[aN]at *;exact Jq g (C6 g n) h
theorem dE.ge (g:Ge E E'){f:Nat}{args:List AV}{h h':Hp}{v:AV}(hc:dE E f args h v h'):dE E' f args h v h':=by
 obtain⟨n,hn⟩:=hc;exact⟨n,qE g (C6 g n) hn⟩
theorem ac.ge (g:Ge E E'){f:Nat}{args:List AV}{h:Hp}{K:AV→Hp→Prop}(hc:ac E f args h K):ac E' f args h K:=by
 obtain⟨v,h',h1,h2⟩:=hc;exact⟨v,h',h1.ge g,h2⟩
theorem up (g:Ge E E'){f:Nat}{args:List AV}{h h':Hp}{v:AV}{K:AV→Hp→Prop}(hc:∀K,ac E f args h K↔K v h'):ac E' f args h K↔K v h':=
 ac.cZ (((hc _).2 ⟨rfl,rfl⟩).ge g)
theorem fC.add {P:Program}{W0:World}{base:Nat}{t:T cy}(EO:fC P W0 base E)(ht:∀n a,t.get n=some a→BT P n=some a):fC P W0 base (E.add t) where
 fns:=by
  intro f a h;have h:(match E.fns f with|some a=>some a|none=>t.get f)=some a:=h;split at h
  ·rename_i b hb;obtain rfl:=aa h;exact EO.fns f b hb
  ·exact zP (ht f a h)
 dG:=EO.dG
 exts:=EO.exts
 gF:=fun T n f h=>EO.gF T n f h
 later:=EO.later
 mixed:=EO.mixed
end
noncomputable section
structure L4 (h h':Hp)(k j:Nat):Prop where
 next:h'.next=h.next+k
 dc:h'.dc=h.dc+j
 get:∀t,t<h.next→h'.get t=h.get t
def aH (h h':Hp):Prop:=∃k j,L4 h h' k j
theorem aH.next {h h':Hp}(g:aH h h'):h.next≤h'.next:=by obtain⟨k,j,g⟩:=g;have:=g.next;omega
theorem aH.dc {h h':Hp}(g:aH h h'):h.dc≤h'.dc:=by obtain⟨k,j,g⟩:=g;have:=g.dc;omega
theorem aH.get {h h':Hp}(g:aH h h'){t:Nat}(ht:t<h.next):h'.get t=h.get t:=by obtain⟨k,j,g⟩:=g;exact g.get t ht
theorem aH.refl (h:Hp):aH h h:=⟨0,0,rfl,rfl,fun _ _=>rfl⟩
theorem aH.trans {a b c:Hp}(x:aH a b)(y:aH b c):aH a c:=by
 obtain⟨k,j,x⟩:=x;obtain⟨k',j',y⟩:=y;exact⟨k+k',j+j',by rw[y.next,x.next];omega,by rw[y.dc,x.dc];omega,fun t ht=>(y.get t (by rw[x.next];omega)).trans (x.get t ht)⟩
theorem aH.push {a b:Hp}(x:aH a b){f:Nat→cP}:aH a (b.push f):=by
 obtain⟨k,j,x⟩:=x;exact⟨k+1,j+1,by show b.next+1=_;rw[x.next];omega,by show b.dc+1=_;rw[x.dc];omega,fun t ht=>(Hp.cY (by rw[x.next];omega)).trans (x.get t ht)⟩
theorem aH.put {a b:Hp}(x:aH a b){t:Nat}{f:Nat→cP}(ht:a.next≤t):aH a (b.put t f):=by
 obtain⟨k,j,x⟩:=x;exact⟨k,j+1,x.next,by show b.dc+1=_;rw[x.dc];omega,fun u hu=>(Hp.eW (by omega)).trans (x.get u hu)⟩
def Hp.ov (h h':Hp){k j:Nat}(_:L4 h h' k j):Hp:=h'
theorem aH.ov {a b h':Hp}{k j:Nat}(x:aH a b){g:L4 b h' k j}:aH a (b.ov h' g):=x.trans ⟨k,j,g⟩
section
variable {h h':Hp}{k j t:Nat}{g:L4 h h' k j}
theorem Hp.iL:(h.ov h' g).next=h.next+k:=g.next
theorem Hp.qT:(h.ov h' g).dc=h.dc+j:=g.dc
theorem Hp.qS (ht:t<h.next):(h.ov h' g).get t=h.get t:=g.get t ht
end
def Gv (E:Env)(f:Nat)(args:List AV)(h:Hp)(v:AV):Prop:=∃h',dE E f args h v h'∧aH h h'
def Gp (E:Env)(f:Nat)(args:List AV)(h:Hp)(p:AV→Hp→Prop):Prop:=∃v h',dE E f args h v h'∧aH h h'∧p v h'
section
variable {E:Env}{f:Nat}{args:List AV}{h:Hp}{v:AV}{K:AV→Hp→Prop}{p:AV→Hp→Prop}
theorem Gv.wp (hc:Gv E f args h v)(hk:∀h' k j (g:L4 h h' k j),K v (h.ov h' g)):ac E f args h K:=by
 obtain⟨h',h1,k,j,g⟩:=hc;exact⟨v,h',h1,hk h' k j g⟩
theorem Gv.of (hc:ac E f args h fun v' h'=>v'=v∧aH h h'):Gv E f args h v:=by
 obtain⟨v',h',h1,rfl,g⟩:=hc;exact⟨h',h1,g⟩
theorem Gp.wp (hc:Gp E f args h p)(hk:∀v h' k j (g:L4 h h' k j),p v (h.ov h' g)→K v (h.ov h' g)):ac E f args h K:=by
 obtain⟨v,h',h1,⟨k,j,g⟩,hp⟩:=hc;exact⟨v,h',h1,hk v h' k j g hp⟩
theorem Gp.of (hc:ac E f args h fun v' h'=>p v' h'∧aH h h'):Gp E f args h p:=by
 obtain⟨v',h',h1,hp,g⟩:=hc;exact⟨v',h',h1,g,hp⟩
theorem Gv.ge {E':Env}(hg:∀h v h',dE E f args h v h'→dE E' f args h v h')(hc:Gv E f args h v):Gv E' f args h v:=by
 obtain⟨h',h1,g⟩:=hc;exact⟨h',hg _ _ _ h1,g⟩
end
def At (h:Hp)(t:Nat)(cs:List AV):Prop:=∃st,h.get t=some (.row cs true st)
section
variable {h h':Hp}{k j t u:Nat}{g:L4 h h' k j}{cs z:List AV}
theorem At.wO (ht:t=h.next):At (h.push fun st=> .row z true st) t cs↔z=cs:=by
 unfold At;rw[ht,Hp.cu];constructor
 ·rintro⟨st,e⟩;injection e with e;injection e
 ·rintro rfl;exact⟨_,rfl⟩
theorem At.cY {f:Nat→cP}(ht:t≠h.next):At (h.push f) t cs↔At h t cs:=by unfold At;rw[Hp.cY ht]
theorem At.AS (ht:t=u):At (h.put u fun st=> .row z true st) t cs↔z=cs:=by
 unfold At;rw[ht,Hp.lH];constructor
 ·rintro⟨st,e⟩;injection e with e;injection e
 ·rintro rfl;exact⟨_,rfl⟩
theorem At.eW {f:Nat→cP}(ht:t≠u):At (h.put u f) t cs↔At h t cs:=by unfold At;rw[Hp.eW ht]
theorem At.ov (ht:t<h.next):At (h.ov h' g) t cs↔At h t cs:=by unfold At;rw[Hp.qS ht]
end
def fU (ag:Bool)(l p:Nat)(x:Option cP)(h:Hp)(K:AV→Hp→Prop):Prop:=
 match x with
 |some (.row cs _ _)=>eX (if p+l≤cs.length then(if ag then some (.agg ((cs.drop p).take l))else cs[p]?)else none) h K
 |_=>False
def fb (l t p:Nat)(y:AV)(x:Option cP)(h:Hp)(K:AV→Hp→Prop):Prop:=
 match x with
 |some (.row cs true _)=>y.cells.length=l∧p+l≤cs.length∧y.cells.all AV.one=true∧K jC (h.put t fun st=> .row (dU cs p y.cells) true st)
 |_=>False
def Ao (ag:Bool)(l:Nat)(v:AV)(h:Hp):Option AV:=
 match v with
 | .ptr t p=>match h.get t with
  |some (.row cs _ _)=>if p+l≤cs.length then(if ag then some (.agg ((cs.drop p).take l))else cs[p]?)else none
  |_=>none
 |_=>none
def An (ag:Bool)(l p:Nat)(x:Option cP):Option AV:=
 match x with
 |some (.row cs _ _)=>if p+l≤cs.length then(if ag then some (.agg ((cs.drop p).take l))else cs[p]?)else none
 |_=>none
section
variable {E:Env}{s:St}{h:Hp}{K:AV→Hp→Prop}{ag own:Bool}{l p t st:Nat}{cs:List AV}{y v:AV}
theorem mN.r:mN ag l (.ptr t p) h K↔fU ag l p (h.get t) h K:=by
 simp only[mN,fU];cases h.get t with
 |none=>exact ax
 |some o=>cases o<;>exact ax
theorem fU.row:fU ag l p (some (.row cs own st)) h K↔eX (if p+l≤cs.length then(if ag then some (.agg ((cs.drop p).take l))else cs[p]?)else none) h K:=ax
theorem mD.r:mD l (.ptr t p) y h K↔fb l t p y (h.get t) h K:=by
 simp only[mD,fb];cases h.get t with
 |none=>exact ax
 | some o=>
  cases o with
  |row cs own st=>cases own<;>exact ax
  |_=>exact ax
theorem fb.row:fb l t p y (some (.row cs true st)) h K↔y.cells.length=l∧p+l≤cs.length∧y.cells.all AV.one=true∧K jC (h.put t fun st=> .row (dU cs p y.cells) true st):=ax
theorem DJ:nj s (.cell t ag l)=Ao ag l (val s.tm (.t t)) s.hp:=rfl
theorem Ao.r:Ao ag l (.ptr t p) h=An ag l p (h.get t):=by
 simp only[Ao,An]
theorem An.row:An ag l p (some (.row cs own st))=if p+l≤cs.length then(if ag then some (.agg ((cs.drop p).take l))else cs[p]?)else none:=rfl
def LZ (a b:Option AV):Option AV:=
 match a,b with
 |some a,some b=>some (.fO [a,b])
 |_,_=>none
def LY (a b c:Option AV):Option AV:=
 match a,b,c with
 |some a,some b,some c=>some (.fO [a,b,c])
 |_,_,_=>none
theorem Qo {a:rH}:eC s [a]=nj s a:=by
 simp only[eC,qb];cases nj s a<;>rfl
theorem Qm {a b:rH}:eC s [a,b]=LZ (nj s a) (nj s b):=by
 simp only[eC,qb];cases nj s a<;>cases nj s b<;>rfl
theorem Qk {a b c:rH}:eC s [a,b,c]=LY (nj s a) (nj s b) (nj s c):=by
 simp only[eC,qb];cases nj s a<;>cases nj s b<;>cases nj s c<;>rfl
theorem LZ.FL {a b:AV}:LZ (some a) (some b)=some (.fO [a,b]):=rfl
theorem LY.FL {a b c:AV}:LY (some a) (some b) (some c)=some (.fO [a,b,c]):=rfl
theorem Nw {z:bp}:bY E (.box z) s K↔((val s.tm z).cells.all AV.one=true∧K (.ptr s.hp.next 0) (s.hp.push fun t=> .row (val s.tm z).cells true t)):=by
 rw[P0];simp only[tI];split
 ·rename_i hc;simp only[dK,hc,true_and]
 ·rename_i hc;simp only[dK,false_iff];exact fun e=>hc e.1
theorem Ft {z:List AV}{ps:List (Nat×Nat×bp)}:bY E (.build z ps) s K↔eX ((ja z (ps.map fun q=>(q.1,q.2.1,val s.tm q.2.2))).map AV.agg) s.hp K:=by
 rw[I0];simp only[kD];cases ja z (ps.map fun q=>(q.1,q.2.1,val s.tm q.2.2))<;>exact ax
theorem oE:ja cs []=some cs:=rfl
theorem jt {o n:Nat}{r:List (Nat×Nat×AV)}(hc:v.cells.length=n∧o+n≤cs.length∧v.cells.all AV.one=true):ja cs ((o,n,v)::r)=ja (dU cs o v.cells) r:=by
 simp only[ja,if_pos hc]
def Tx (sz n:Nat)(x:Option (List AV))(h:Hp)(K:AV→Hp→Prop):Prop:=
 match x with
 |some cs=>n*sz=cs.length∧0<sz∧K (.sl h.next 0 n sz) (h.push fun t=> .row cs true t)
 |none=>False
theorem DC {sz n:Nat}{z:List AV}{ps:List (Nat×Nat×bp)}:bY E (.cL sz n z ps) s K↔Tx sz n (ja z (ps.map fun q=>(q.1,q.2.1,val s.tm q.2.2))) s.hp K:=by
 rw[Fu];simp only[hZ];cases ja z (ps.map fun q=>(q.1,q.2.1,val s.tm q.2.2))with
 |none=>exact ax
 | some cs=>
  simp only[Tx];split
  ·rename_i hc;simp only[dK,hc,true_and]
  ·rename_i hc;simp only[dK,false_iff];exact fun e=>hc ⟨e.1,e.2.1⟩
def TC (sz n:Nat)(x:Option (List AV))(h:Hp)(K:AV→Hp→Prop):Prop:=
 match x with
 |some cs=>n*sz=cs.length∧0<sz∧cs.all AV.lone=true∧K (.sl h.next 0 n sz) (h.push fun t=> .row cs true t)
 |none=>False
theorem Nv {sz n:Nat}{z:List AV}{ps:List (Nat×Nat×bp)}:bY E (.Az sz n z ps) s K↔TC sz n (ja z (ps.map fun q=>(q.1,q.2.1,val s.tm q.2.2))) s.hp K:=by
 rw[PZ];simp only[nq];cases ja z (ps.map fun q=>(q.1,q.2.1,val s.tm q.2.2))with
 |none=>exact ax
 | some cs=>
  simp only[TC];split
  ·rename_i hc;simp only[dK,hc,true_and]
  ·rename_i hc;simp only[dK,false_iff];exact fun e=>hc ⟨e.1,e.2.1,e.2.2.1⟩
theorem TC.FL {sz n:Nat}:TC sz n (some cs) h K↔n*sz=cs.length∧0<sz∧cs.all AV.lone=true∧K (.sl h.next 0 n sz) (h.push fun t=> .row cs true t):=ax
theorem GV {l:List UInt8}:(AV.str l).lone=true:=rfl
theorem GW {k:IntKind}{n:Int}:(AV.int k n).lone=true:=rfl
theorem DW {b:Bool}:(AV.bool b).lone=true:=rfl
theorem Tx.FL {sz n:Nat}:Tx sz n (some cs) h K↔n*sz=cs.length∧0<sz∧K (.sl h.next 0 n sz) (h.push fun t=> .row cs true t):=ax
def lR (x:Option cP)(c0:Nat):Bool:=
 match x with
 |some o=>Nat.ble o.st c0
 |none=>false
theorem QT {c0:Nat}:old h c0 t=lR (h.get t) c0:=by
 unfold old lR;cases h.get t<;>rfl
theorem lR.row {c0:Nat}(hs:st≤c0):lR (some (.row cs own st)) c0=true:=Nat.ble_eq_true_of_le hs
theorem AL {vs:List AV}:dU cs p vs=cs.take p++(vs++cs.drop (p+vs.length)):=rfl
theorem Hp.lJ {f:Nat→cP}:(h.push f).next=h.next+1:=id rfl
theorem Hp.ns {u:Nat}{f:Nat→cP}:(h.put u f).next=h.next:=id rfl
theorem Hp.nK {f:Nat→cP}:(h.push f).dc=h.dc+1:=id rfl
theorem Hp.qC {u:Nat}{f:Nat→cP}:(h.put u f).dc=h.dc+1:=id rfl
theorem Hp.wO {f:Nat→cP}(ht:t=h.next):(h.push f).get t=some (f (h.dc+1)):=by rw[ht];exact Hp.cu
theorem Hp.AS {u:Nat}{f:Nat→cP}(ht:t=u):(h.put u f).get t=some (f (h.dc+1)):=by rw[ht];exact Hp.lH
theorem Pe:dH .eql .slice .aq .aq=some (.bool true):=rfl
theorem Pd {t o n z:Nat}:dH .eql .slice (.sl t o n z) .aq=some (.bool false):=rfl
theorem KP:dH .neq .slice .aq .aq=some (.bool false):=rfl
theorem KO {t o n z:Nat}:dH .neq .slice (.sl t o n z) .aq=some (.bool true):=rfl
theorem Pg {a b:Bool}:dH .eql .bool (.bool a) (.bool b)=some (.bool (decide (a=b))):=by
 simp only[dH,vc,xu,cJ];cases a<;>cases b<;>rfl
theorem Pf {a b:Bool}:dH .neq .bool (.bool a) (.bool b)=some (.bool (decide (¬a=b))):=by
 simp only[dH,vc,xu,cJ];cases a<;>cases b<;>rfl
end
theorem Su:((0:Nat):Int)=0:=id rfl
theorem Ss:((1:Nat):Int)=1:=id rfl
theorem Sn:((2:Nat):Int)=2:=id rfl
theorem Sm:((3:Nat):Int)=3:=id rfl
attribute [go_sem] At.wO At.cY At.AS At.eW At.ov Su Ss Sn Sm aH.refl mN.r fU.row mD.r fb.row DJ Ao.r An.row Qo Qm Qk LZ.FL LY.FL Nw Ft oE jt DC Nv TC.FL GV GW DW Tx.FL QT lR.row AL Pe Pd KP KO Pg Pf Hp.iL Hp.qT Hp.qS Hp.lJ Hp.nK Hp.ns Hp.qC Hp.wO Hp.cY Hp.AS Hp.eW C.o C.n C.g C.m C.i C.u C.v C.e C.c C.b C.bt C.bi C.y C.l C.s C.ix C.fa C.ln C.ls C.vi C.pt C.pf C.zF C.zI C.zS C.w C.x C.gl C.gc C.gb C.q C.k
end
attribute [go_sem] not_true_eq_false not_false_eq_true decide_true decide_false Wp.wM Wp.wj Wp.sY Wp.CG Wp.zw Wp.zN Wp.CU Wp.Gz Wp.C2 Wp.zA Wp.zC Wp.Dd Wp.zD uH oK Round IG Du Py.yl CT CS wx.ptr pS iO zo Mn gO Co yB yC vU uf List.map_cons List.map_nil cJ Option.map_none yv Qq Qp Qn Ql gy.ret gy.fP Ak.iff yc bC.tt bC.tf bC.ft bC.ff bC.jC gg.t gg.f lS.t lS.f dj.t dj.f vV Bool.not_true Bool.not_false Bool.not_not PX dD.t dD.f Fk Cm Mm PW zL Ml zK Mk Mf Mg L9 Cs Cu Ct Fo tQ Mh yY CX vJ yZ Mj HS HR HP Mi HK HJ HI HH HG Fs vS Fp qo Cl tR Fl yd eX.iff dK.iff Nl M8 Nf nN uz Nk Nd Ng Nh Ni Nj Ir Iq Ip It Mo Mp wrap_i64 wrap_u64 wrap_u8 wrap_i32 Mc Md vH vG wb ur vZ wa zR uq zT wg qj yI CP CQ GD qi GI bY.wi bY.wh rG.fn bY.CY dj.Gi dD.Gi bC.Gg bC.Gh dj.pos dj.neg dD.pos dD.neg bC.My bC.MC bC.Mz bC.MD
attribute [go_sem] Nat.zero_add Nat.add_zero List.length_cons List.length_nil List.length_append List.length_map List.length_take List.length_drop List.length_replicate List.length_set iO pS Bool.and_true Bool.and_self and_true true_and List.take_zero List.take_succ_cons List.take_nil List.drop_zero List.drop_succ_cons List.drop_nil List.nil_append List.cons_append List.getElem?_cons_zero List.getElem?_cons_succ Bool.false_eq_true Int.toNat_zero Int.toNat_natCast Int.zero_add Int.add_zero AV.ptr.injEq exists_eq_left exists_eq_left' Nat.mul_one
theorem k1 {E:Env}{s:St}{Q:Ex→St→Prop}{a b:au}{p:Prop}{_:Decidable p}(h1:¬p→Wp E a s Q)(h2:p→Wp E b s Q):dj E (.bool (decide (¬p))) a b s Q:=dj.kr h1 h2
section
variable {E:Env}{s:St}{h:Hp}{x y:AV}{Q:Ex→St→Prop}{K:AV→Hp→Prop}{a b:au}{r:List aC}{d:Option Nat}{o:gM}{p:Prop}{_:Decidable p}{c:Bool}
theorem k2 (h1:¬p→gg E (bC (.bool true) c) o d r s Q)(h2:p→gg E (bC (.bool false) c) o d r s Q):gg E (bC (.bool (decide (¬p))) c) o d r s Q:=gg.kr h1 h2
theorem k3 (h1:¬p→K x h)(h2:p→K y h):dD (.bool (decide (¬p))) x y h K:=dD.kr h1 h2
theorem k4 (h1:p→Wp E a s Q)(h2:¬p→Wp E b s Q):dj E (.bool (decide p)) a b s Q:=dj.dec h1 h2
theorem k5 (h1:p→gg E (bC (.bool true) c) o d r s Q)(h2:¬p→gg E (bC (.bool false) c) o d r s Q):gg E (bC (.bool (decide p)) c) o d r s Q:=gg.dec h1 h2
theorem k6 {acc:List (Nat×Nat)}{acc':Option (List (Nat×Nat))}{i c0:Nat}(h1:p→lS E (bC (.bool true) c) acc acc' d o r i c0 s Q)(h2:¬p→lS E (bC (.bool false) c) acc acc' d o r i c0 s Q):lS E (bC (.bool (decide p)) c) acc acc' d o r i c0 s Q:=lS.dec h1 h2
theorem k7 (h1:p→K x h)(h2:¬p→K y h):dD (.bool (decide p)) x y h K:=dD.dec h1 h2
end
class aj (a b:outParam Prop) (g:Prop):Prop where
 i:a→b→g
section
variable {E:Env}{s:St}{h:Hp}{x y:AV}{Q:Ex→St→Prop}{K:AV→Hp→Prop}{a b:au}{r:List aC}{d:Option Nat}{o:gM}{p:Prop}{_:Decidable p}{c:Bool}{acc:List (Nat×Nat)}{acc':Option (List (Nat×Nat))}{i c0:Nat}
instance:aj (p→K x h) (¬p→K y h) (dD (.bool (decide p)) x y h K):=⟨k7⟩
instance:aj (p→lS E (bC (.bool true) c) acc acc' d o r i c0 s Q) (¬p→lS E (bC (.bool false) c) acc acc' d o r i c0 s Q) (lS E (bC (.bool (decide p)) c) acc acc' d o r i c0 s Q):=⟨k6⟩
instance:aj (p→gg E (bC (.bool true) c) o d r s Q) (¬p→gg E (bC (.bool false) c) o d r s Q) (gg E (bC (.bool (decide p)) c) o d r s Q):=⟨k5⟩
instance:aj (p→Wp E a s Q) (¬p→Wp E b s Q) (dj E (.bool (decide p)) a b s Q):=⟨k4⟩
instance:aj (¬p→K x h) (p→K y h) (dD (.bool (decide (¬p))) x y h K):=⟨k3⟩
instance:aj (¬p→gg E (bC (.bool true) c) o d r s Q) (p→gg E (bC (.bool false) c) o d r s Q) (gg E (bC (.bool (decide (¬p))) c) o d r s Q):=⟨k2⟩
instance:aj (¬p→Wp E a s Q) (p→Wp E b s Q) (dj E (.bool (decide (¬p))) a b s Q):=⟨k1⟩
end
theorem ab {p:Prop}(h:p:=by first|assumption|omega|(simp only[go_sem,ne_eq,Nat.reduceAdd,Nat.reduceLeDiff]<;>omega)|fail):p:=h
theorem aS {p:Prop}(h:p:=by simp(disch:=try exact ab) only[go_sem,seval]):p:=h
theorem mJ {p:Prop}(h:p:=by first|omega|(simp only[Hp.lJ,Hp.ns,Hp.iL,Hp.nK,Hp.qC,Hp.qT]<;>omega)|fail):p:=h
theorem okV {p:Prop}(h:p:=by first|assumption|(simp(disch:=try exact ab) only[go_sem,seval]<;>first|assumption|rfl|fail)|rfl|fail):p:=h
theorem aL {p:Prop}(h:p:=by(try first|refine⟨trivial,?_⟩|refine⟨rfl,?_⟩);(repeat(first|exact aH.refl _|assumption|refine aH.push ?_|refine aH.ov ?_|refine aH.put ?_ (by(try simp only[Hp.lJ,Hp.ns,Hp.iL,Hp.nK,Hp.qC,Hp.qT]);omega)))):p:=h
open Go.Proofs
noncomputable def ES:Env:=(L.En C.fns).add S.kX
theorem WK {W0:World}{base:Nat}(G:L.kz W0 base):fC Tryz.prog W0 base ES:=(L.xv G C.xj).add S.xh
theorem UG {n:Int}(hn: -9223372036854775808≤n∧n≤9223372036854775807):ac ES 264 [.agg [.int .i64 n,.aq]] Hp.nil fun v h=>v= .str (Lib.itoa n):=by
 have c2:∀{h:Hp} {K:AV→Hp→Prop},ac ES 220 [.int .i64 n] h K↔K (.str (Lib.itoa n)) h:=fun{h K}=>by
  rw[ac.fS (p:=L.AZ) rfl rfl];have:L.AZ [.int .i64 n] h=some (.str (Lib.itoa n),h):=if_pos hn;rw[this];exact ax
 refine ac.fn (fn:=S.B7) rfl rfl rfl ?_;unfold S.B7;repeat'(with_reducible first|simp(disch:=try exact ab) only[go_sem,seval,c2]|(apply aj.i<;>intro hc))
def DO (args:List AV)(h:Hp):Option (AV×Hp):=
 match args with
 |[.agg [.int .i64 n,.aq]]=>if -9223372036854775808≤n∧n≤9223372036854775807 then some (.str (Lib.itoa n),h)else none
 |_=>none
theorem Q8 {W0:World}{base:Nat}(G:L.kz W0 base)(args:List AV)(h:Hp)(v:AV)(h':Hp)(hp:DO args h=some (v,h')):h'=h∧∀ρ w,bl base W0 w→bv base ρ h w→dQ Tryz.prog base ρ h w (callFunc 264 (encs ρ args).toArray) v h:=by
 unfold DO at hp;split at hp
 ·rename_i n;split at hp
  ·rename_i hs;obtain⟨rfl,rfl⟩:=ai hp;refine⟨rfl,fun ρ w B R=>?_⟩;obtain⟨v,h1,⟨m,hm⟩,rfl⟩:=UG hs;exact lift (WK G) hm (by simp[mL,AV.free]) rfl B R
  ·cases hp
 ·cases hp
end Go.Ae
