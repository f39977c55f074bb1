/- number.ReadClock: the iterator over the fields of a time. -/
import Derived.Test.YtdaggbpeoldmeaaGreatDoorM3
import Derived.RangeFuncNested
import Derived.RangeFuncBound
import Derived.RangeFuncCalls
import Derived.RangeFuncLeaves
import Derived.RangeFuncBox
import Derived.Shelf.Abstract
import Derived.Shelf.RegionOpen
import Derived.WalkKit
import Derived.OwnWalkIn
import Derived.TacticsInMore
import Derived.LoopNIn
import Derived.LoopIn
import Derived.Maps.AppendAt
open Array renaming replicate_succ → Fa, replicate_zero → E9, getElem?_eq_some_iff → cX
open ByteArray renaming size_extract → xY
open List renaming size_toArray → ph, length_cons → ap, length_nil → aK, cons_append → lk
open Nat renaming le_refl → ae, le_trans → aB
set_option linter.unusedVariables false
set_option linter.unusedSimpArgs false
set_option maxRecDepth 100000
namespace Go.Proofs
open Go.RowKit Go.Shelf
attribute [local go_sem] Oper.semAt_some
namespace Rc
open Go.Ae
variable {W0:World}{base:Nat}
def xT (i:Nat)(w:List UInt8):Nat×Bool:=if i=0 then N.mq w else N.gL w 2
theorem d148 (G:L.kz W0 base)(s:List UInt8)(c:Nat)(hs:s.length≤9223372036854775807)(hc:1≤c∧c≤18)(w:World)(B:Below base W0 w)(hb:base≤w.heap.size):
  Calls Tryz.prog 148 #[.string ⟨s.toArray⟩,.int .i64 c] w fun e w'=>e= .returned (.tuple #[.int .i64 (N.gL s c).1,.bool (N.gL s c).2])∧Below w.heap.size w w':=by
 have hr:dE E0 148 [.str s,.int .i64 c] .nil (.fO [.int .i64 (N.gL s c).1,.bool (N.gL s c).2]) .nil:=by
  obtain⟨v,h,h1,rfl,rfl⟩:=(W8 (h:= .nil) (K:=fun v h=>v=AV.fO [.int .i64 (N.gL s c).1,.bool (N.gL s c).2]∧h= .nil) hs hc).2 ⟨rfl,rfl⟩;exact h1
 have:=zW (L.xv G C.xj) (f:=148) (by kernel_rfl) ⟨_,_,hr.choose_spec⟩ rfl rfl B hb (fun _=>⟨0,0,0,0⟩);simpa[Go.Ae.enc,Go.Ae.encs]using this
theorem d226 (G:L.kz W0 base)(s:List UInt8)(hs:s.length≤9223372036854775807)(w:World)(B:Below base W0 w)(hb:base≤w.heap.size):
  Calls Tryz.prog 226 #[.string ⟨s.toArray⟩] w fun e w'=>e= .returned (.tuple #[.int .i64 (N.mq s).1,.bool (N.mq s).2])∧Below w.heap.size w w':=by
 have hr:dE E0 226 [.str s] .nil (.fO [.int .i64 (N.mq s).1,.bool (N.mq s).2]) .nil:=by
  obtain⟨v,h,h1,rfl,rfl⟩:=(WV (h:= .nil) (K:=fun v h=>v=AV.fO [.int .i64 (N.mq s).1,.bool (N.mq s).2]∧h= .nil) hs).2 ⟨rfl,rfl⟩;exact h1
 have:=zW (L.xv G C.xj) (f:=226) (by kernel_rfl) ⟨_,_,hr.choose_spec⟩ rfl rfl B hb (fun _=>⟨0,0,0,0⟩);simpa[Go.Ae.enc,Go.Ae.encs]using this
theorem d149 (F:Fence)(n:Nat)(h5:F.fn 149)(hro:F.round=none)(s:ByteArray)(w:World):
  CallsIn F n Tryz.prog 149 #[.string s] w fun e w'=>e= .returned (.func (.func 225) #[] #[.pointer (some ⟨w.heap.size,0,none⟩)])∧w'=w.alloc (.cells #[.string s] 9):=by
 refine callsIn_of_wp Tryz.func149 rfl h5 ?_ hro;simp only[Tryz.ntmps149,ph,ap,aK,Nat.reduceAdd,Nat.reduceSub,Fa,E9,List.push_toArray,List.append_toArray,List.nil_append,lk];gi_wp2
 go_ret
 exact⟨rfl,rfl⟩
structure Kp (base:Nat)(W W':World):Prop where
 texts:∀(k:Nat) (arr:Array Value) (fr:Nat×Nat),W.heap[k]?=some (Obj.cells arr 9 fr)→W'.heap[k]?=some (Obj.cells arr 9 fr)
 oO:Below base W W'
theorem Kp.refl (W:World):Kp base W W:=⟨fun _ _ _ h=>h,Below.refl _ _⟩
theorem Kp.trans {A B C:World}(h:Kp base A B)(k:Kp base B C):Kp base A C:=⟨fun _ _ _ e=>k.texts _ _ _ (h.texts _ _ _ e),h.oO.trans k.oO⟩
theorem Kp.grown {W W':World}{row:Option Nat}(hg:W.grownBy W' row)(hb:base≤W.heap.size)(hr:∀j,row=some j→base≤j∧∀(arr:Array Value) (fr:Nat×Nat),W.heap[j]?≠some (Obj.cells arr 9 fr)):Kp base W W':=
  ⟨fun k arr fr h=>(hg.block k (cX.1 h).1 (fun e=>(hr k e.symm).2 arr fr h)).trans h,
   (Below.refl base W).grown hg hb (fun j e=>(hr j e).1)⟩
theorem Kp.put {w:World}(hb:base≤w.heap.size)(W:World)(l:Nat)(o o':Obj)(hl:w.heap.size≤l)(h:W.heap[l]?=some o)(hc:o.isCells=false)(_:o.isWalk=false):Kp base W (W.putObj l o'):=by
 have hlt:=(cX.1 h).1;refine Kp.grown (grownBy_putObj' W l o') (by omega) fun j e=>?_
 cases e
 refine⟨by omega,fun arr fr hj=>?_⟩;rw[h]at hj;cases hj;cases hc
theorem qp {W W':World}(h:Below W.heap.size W W'):W.grownBy W' none:=⟨h.os,h.tape,h.output,h.size,fun k hk _=>h.block k hk⟩
def words (s:List UInt8):List (List UInt8):=(Lib.splitB ⟨#[58]⟩ 0 (Lib.countB ⟨s.toArray⟩ ⟨#[58]⟩) ⟨s.toArray⟩).map (·.data.toList)
def js (s:List UInt8):List (Nat×Bool):=(words s).mapIdx xT
abbrev HX (x:Nat×Bool):Array Value:= #[.int .i64 x.1,.bool x.2]
theorem nT (s:List UInt8):(words s).length=Lib.countB ⟨s.toArray⟩ ⟨#[58]⟩+1:=by
 unfold words;rw[List.length_map];exact Lib.splitB_all _ (by decide) 0 _ _ rfl
theorem yh (sep:ByteArray):∀(k:Nat) (s p:ByteArray),p∈Lib.splitB sep 0 k s→p.size≤s.size:=by
 intro k
 induction k with
 |zero=>intro s p h;rw[Lib.splitB_zero]at h;obtain rfl:=List.mem_singleton.1 h;exact ae _
 | succ k ih=>
  intro s p h;by_cases hi:Lib.indexB s sep= -1
  ·rw[Lib.splitB_miss _ _ _ _ hi]at h;obtain rfl:=List.mem_singleton.1 h;exact ae _
  ·unfold Lib.splitB at h;rw[if_neg (by simpa using hi)]at h;rcases List.mem_cons.1 h with rfl|h
   ·rw[xY];omega
   ·have:=ih _ _ h;rw[xY]at this;omega
theorem AF {s w:List UInt8}(h:w∈words s):w.length≤s.length:=by
 unfold words at h;obtain⟨p,hp,rfl⟩:=List.mem_map.1 h;have:=yh _ _ _ _ hp;simp only[ByteArray.size,ph]at this;exact this
def idxOf (v:Value):Nat:=
 match v with
 | .int _ i=>i.toNat
 |_=>0
theorem HF {s:List UInt8}{k:Nat}{w:List UInt8}(h:(words s)[k]?=some w):(js s)[k]?=some (xT k w):=by
 simp[js,List.getElem?_mapIdx,h]
theorem Ec {s:List UInt8}{k:Nat}{w:List UInt8}(h:(words s)[k]?=some w):(js s).take k++[xT k w]=(js s).take (k+1):=by
 rw[List.take_add_one,HF h];rfl
set_option maxHeartbeats 4000000 in
theorem d225 (G:L.kz W0 base)(s:List UInt8)(hs:s.length<4294967281)(n l Bn:Nat)(hn:1≤n)(W:World)(B:Below base W0 W)(hb:base≤W.heap.size)
    (hBn:W.heap[Bn]?=some (.cells #[.string ⟨s.toArray⟩] 9 (0,0))) (J Jx:List (Nat×Bool)→World→Prop) (hJ:AbidesFrom W.heap.size J)
    (hY:∀pre x W1,J pre W1→pre.length<(words s).length→YieldAt Fence.wide (n-1) Tryz.prog l (HX x) W1 fun e W'=>
      (e= .returned (.bool true)∧J (pre++[x]) W'∧Kp base W1 W')∨(e= .returned (.bool false)∧Jx (pre++[x]) W'))
    (h0:J [] W):CallsIn Fence.wide n Tryz.prog 225 #[.func (.yield l) #[] #[],.pointer (some ⟨Bn,0,none⟩)] W fun e W'=>(∃v,e= .returned v)∧
      ((∃xs,xs=js s∧J xs W')∨(∃pre,True∧Jx pre W')):=by
  have hcell:W.cell? ⟨Bn,0,none⟩=some (.string ⟨s.toArray⟩):=by simp[World.cell?,hBn]
  obtain⟨m,hm⟩:=G.ml B;have hlen:=nT s;have f157:Fence.wide.fn 157:=trivial;have f148:Fence.wide.fn 148:=trivial;have f226:Fence.wide.fn 226:=trivial;refine callsIn_of_wp Tryz.func225 rfl trivial ?_ rfl;simp only[Tryz.ntmps225,ph,ap,aK,Nat.reduceAdd,Nat.reduceSub,Fa,E9,List.push_toArray,List.append_toArray,List.nil_append,lk]
  gi_wp2_with (gi_at_call 157;refine(callsIn_wide.2 (Tryz.strings_Split _ _ m _ (by simpa[ByteArray.size]using hs) hm (by decide))).mono ?_;rintro e w' ⟨rfl,rfl⟩)
  have hws:((Lib.splitB ⟨#[58]⟩ 0 (Lib.countB ⟨s.toArray⟩ ⟨#[58]⟩) ⟨s.toArray⟩).map Value.string).toArray=((words s).map fun w=>Value.string ⟨w.toArray⟩).toArray:=by
    unfold words;rw[List.map_map];rfl
  rw[hws];have hsize:∀wk,wk∈words s→wk.length≤9223372036854775807:=fun wk h=>by have:=AF h;omega
  have hcnt:Lib.countB ⟨s.toArray⟩ ⟨#[58]⟩≤s.length:=by
    have:=Lib.countB_le ⟨#[58]⟩ (by decide) s.length ⟨s.toArray⟩ (by simp[ByteArray.size]);simpa[ByteArray.size]using this
  have hlen0:(js s).length=(words s).length:=by simp[js]
  gi_loopw [10] (fun p wr=>∃k:Nat,p= .int .i64 k∧k≤(words s).length∧J ((js s).take k) wr∧wr.heap[W.heap.size]?=some (.cells ((words s).map fun w=>Value.string ⟨w.toArray⟩).toArray 9 (0,0))∧Below base W wr) (fun p wr=>(words s).length-idxOf p)
  case atStart=>
    refine⟨0,rfl,Nat.zero_le _,?_,World.alloc_heap_new _ _,(Below.refl _ _).alloc hb _⟩;exact hJ [] W _ none h0 (qp ((Below.refl _ _).alloc (ae _) _)) (fun r e=>by cases e)
  case round =>
    obtain⟨k,rfl,hk,hJs,hblk,hBel⟩:=hrel;have hb1:base≤wr.heap.size:=aB hb hBel.size;by_cases hlt:k<(words s).length
    · obtain ⟨wk,hwk⟩:∃wk,(words s)[k]?=some wk:=⟨_,List.getElem?_eq_getElem hlt⟩
      have hc:wr.cell? ⟨W.heap.size,k,none⟩=some (.string ⟨wk.toArray⟩):=by
        simp[World.cell?,hblk,hwk]
      have hw:=hsize wk (List.mem_of_getElem? hwk);have hlt':(k:Int)<Lib.countB ⟨s.toArray⟩ ⟨#[58]⟩+1:=by omega
      have htk:=Ec hwk;have hpl:((js s).take k).length<(words s).length:=by rw[List.length_take];omega
      cases k with
      | zero =>
        gi_wp2_with (first
          |(gi_at_call 148;refine(callsIn_wide.2 (d148 G wk 2 hw (by decide) _ (B.trans hBel) hb1)).mono ?_;rintro e w2 ⟨rfl,hB2⟩)
          | (gi_at_call 226;refine(callsIn_wide.2 (d226 G wk hw _ ((B.trans hBel).trans (hB2.mono hb1)) (aB hb1 hB2.size))).mono ?_;rintro e w3 ⟨rfl,hB3⟩
             obtain⟨fn,tmps,assign,body,hy,hR⟩:=hY _ (xT 0 wk) w3 (hJ _ _ w3 none (hJ _ _ w2 none hJs (qp hB2) (fun r e=>by cases e)) (qp hB3) (fun r e=>by cases e)) hpl;have hfld:xT 0 wk=N.mq wk:=by unfold xT;rw[if_pos rfl]
             rw[hfld]at hy hR;dsimp only[HX]at hy))
        refine hR.mono ?_;rintro e W3 (⟨rfl,hJ3,hk3⟩|⟨rfl,hJx3⟩)
        · gi_wp2
          go_roundw
          case rel=>exact⟨1,rfl,by omega,by rw[←htk,hfld];exact hJ3,hk3.texts _ _ _ ((hB3.block _ (by have:=(cX.1 hblk).1;have:=hB2.size;omega)).trans ((hB2.block _ (cX.1 hblk).1).trans hblk)),hBel.trans ((hB2.mono hb1).trans ((hB3.mono (aB hb1 hB2.size)).trans hk3.oO))⟩
          case measure=>simp[idxOf];omega
        · gi_wp2
          refine bodyPost_ret (results_none rfl _ _ _) rfl ?_;exact⟨⟨_,rfl⟩,.inr ⟨_,trivial,hJx3⟩⟩
      | succ k=>
        gi_wp2_with (gi_at_call 148;refine(callsIn_wide.2 (d148 G wk 2 hw (by decide) _ (B.trans hBel) hb1)).mono ?_;rintro e w2 ⟨rfl,hB2⟩
                     obtain⟨fn,tmps,assign,body,hy,hR⟩:=hY _ (xT (k+1) wk) w2 (hJ _ _ w2 none hJs (qp hB2) (fun r e=>by cases e)) hpl;have hfld:xT (k+1) wk=N.gL wk 2:=by unfold xT;rw[if_neg (by omega)]
                     rw[hfld]at hy hR;dsimp only[HX]at hy)
        refine hR.mono ?_;rintro e W3 (⟨rfl,hJ3,hk3⟩|⟨rfl,hJx3⟩)
        · gi_wp2
          go_roundw
          case rel=>exact⟨k+2,by rw[show((k+2:Nat):Int)=(k:Int)+1+1 by omega],by omega,by rw[←htk,hfld];exact hJ3,hk3.texts _ _ _ ((hB2.block _ (cX.1 hblk).1).trans hblk),hBel.trans ((hB2.mono hb1).trans hk3.oO)⟩
          case measure=>simp only[idxOf];omega
        · gi_wp2
          refine bodyPost_ret (results_none rfl _ _ _) rfl ?_;exact⟨⟨_,rfl⟩,.inr ⟨_,trivial,hJx3⟩⟩
    · have hlt':¬(k:Int)<Lib.countB ⟨s.toArray⟩ ⟨#[58]⟩+1:=by omega
      gi_wp2
      go_end0
      rw[List.take_of_length_le (by omega)]at hJs;exact⟨⟨_,rfl⟩,.inl hJs⟩
end Rc
end Go.Proofs
