/- number.ReadClock: its contract. -/
import Derived.Test.YtdaggbpeoldmeaaGreatDoorZKR1
open Array renaming getElem?_toList → fc
open List renaming size_toArray → ph, all_nil → pS, getElem?_eq_some_iff → aZ, getElem?_take_of_lt → Cg, getElem?_map → bK, getElem?_eq_getElem → aI, drop_eq_getElem_cons → ey, drop_eq_nil_of_le → EP
open Nat renaming le_trans → aB, zero_le → aJ, le_refl → ae, mul_one → dF
open Option renaming map_some → cJ
open Option.some renaming inj → aa
set_option linter.unusedVariables false
set_option linter.unusedSimpArgs false
set_option maxRecDepth 100000
namespace Go.Proofs
open Go.RowKit Go.Shelf
attribute [local go_sem] Oper.semAt_some
namespace Rc
open Go.Ae
variable {W0:World}{base:Nat}
def uX (len i:Nat):Nat:=if i=0∧len=3 then 23 else 59
def kP (len:Nat):Nat→Nat→Bool→List (Nat×Bool)→Nat×Bool
 |_,out,far,[]=>(out,far)
 |i,out,far,x::r=>kP len (i+1) (out*60+x.1) (far||decide (uX len i<x.1)) r
def jy (s:List UInt8):Nat×Nat:=
 if 24<s.length then(0,26)else
 if((N.gL (Lib.cut s [46]).2.1 3).2&&(Lib.cut s [46]).2.2&&(js (Lib.cut s [46]).1).all (·.2))=true∧(js (Lib.cut s [46]).1).length≤3 then
  let r:=kP (js (Lib.cut s [46]).1).length 0 0 false (js (Lib.cut s [46]).1)
  if r.2=true then(0,3)else(r.1*1000+(N.gL (Lib.cut s [46]).2.1 3).1,0)
 else(0,25)
theorem Rf:(Tryz.prog.info? 3).map (fun i=>(i.zero,i.size,i.bytes))=some (some (.int .i64 0),1,8):=by kernel_rfl
theorem Kp.appended {W w1:World}{n₀ BL k:Nat}{v v':Value}{xs:List Value}{tmp:Obj}(hb:base≤n₀)(hn₀:n₀≤W.heap.size)(hB:n₀≤BL)(hrow:W.ownsRow n₀ 3 1 v k xs)(hv1:Boxed w1 BL 34 v)
  (hgrow:(W.alloc tmp).grownBy w1 v.ownBlock):Kp base W (w1.setCell ⟨BL,0,none⟩ v'):=by
 have h1:Kp base W (W.alloc tmp):=Kp.grown (World.grownBy_alloc W tmp none) (by omega) (fun j e=>by cases e)
 have h2:Kp base (W.alloc tmp) w1:=by
  refine Kp.grown hgrow (by simp;omega) fun j ej=>?_
  rcases(hrow.alloc tmp).2 with⟨rfl,_⟩|⟨g,cap,cur,rfl,hg,hgb,_⟩
  ·simp[Value.ownBlock]at ej
  ·obtain rfl:g=j:=by simpa[Value.ownBlock]using ej
   refine⟨by omega,fun arr fr e=>?_⟩;rw[hgb]at e;cases e
 have hs:W.heap.size≤w1.heap.size:=aB h1.oO.size h2.oO.size;refine(h1.trans h2).trans (Kp.grown (grownBy_setCell' w1 BL v') (by omega) fun j e=>?_);cases e
 refine⟨by omega,fun arr fr e=>?_⟩;rw[show w1.heap[BL]?=_ from hv1]at e;cases e
theorem OP (i:Nat)(w:List UInt8):(xT i w).1≤999999999:=by
 unfold xT;split
 ·unfold N.mq;split
  ·rename_i h
   have h1:N.bI w=true:=by
    have:=h.1;unfold N.cK at this;simp only[Bool.and_eq_true]at this;exact this.1.2
   have h2:=N.iu h1;have h3:10^w.length≤10^9:=Nat.pow_le_pow_right (by decide) h.2;show N.bm w≤_
   omega
  ·exact aJ _
 ·unfold N.gL;split
  ·rename_i h;have h2:=N.iu h.2;rw[h.1]at h2;show N.bm w≤_
   omega
  ·exact aJ _
theorem De (w:List UInt8):(N.gL w 3).1≤999:=by
 unfold N.gL;split
 ·rename_i h;have h2:=N.iu h.2;rw[h.1]at h2;show N.bm w≤_
  omega
 ·exact aJ _
theorem Zu {a:Int}{n:Nat}(h:a=n)(hn:n≤9223372036854775807):wrap64 a=n:=by
 rw[h,←IntWalk.i64_left,IntWalk.i64_in _ (by omega)]
theorem C4 {s:List UInt8}{k:Nat}{x:Nat×Bool}(h:(js s)[k]?=some x):x.1≤999999999:=by
 unfold js at h;rw[List.getElem?_mapIdx]at h;cases hw:(words s)[k]? with
 |none=>rw[hw]at h;cases h
 |some w=>rw[hw]at h;obtain rfl:=aa h;exact OP k w
theorem uo {len i out:Nat}{far:Bool}{x:Nat×Bool}{r:List (Nat×Bool)}:kP len i out far (x::r)=kP len (i+1) (out*60+x.1) (far||decide (uX len i<x.1)) r:=rfl
theorem vt {a:Int}{n:Nat}(h:a=n)(hn:n≤9223372036854775807):Value.int .i64 (wrap64 a)=Value.int .i64 n:=by
 rw[h,←IntWalk.i64_left,IntWalk.i64_in _ (by omega)]
theorem int_eq {a:Int}{n:Nat}(h:a=n):Value.int .i64 a=Value.int .i64 n:=by rw[h]
theorem oJ {a b:Bool}(h:a=b):Value.bool a=Value.bool b:=by rw[h]
def gU (p:Prop):Prop:=p
theorem pW (s:List UInt8):(words s).length≤s.length+1:=by
 rw[nT];have:=Lib.countB_le ⟨#[58]⟩ (by decide) s.length ⟨s.toArray⟩ (by simp[ByteArray.size]);simp only[ByteArray.size,ph]at this;omega
theorem Dh (s:List UInt8):(Lib.cut s [46]).1.length≤s.length∧(Lib.cut s [46]).2.1.length≤s.length:=by
 unfold Lib.cut;split
 ·simp only[List.length_take,List.length_drop];omega
 ·simp
set_option maxHeartbeats 4000000 in
theorem d43 (G:L.kz W0 base)(s:List UInt8)(hs:s.length<4294967281)(w:World)(B:Below base W0 w)(hb:base≤w.heap.size):
    Calls Tryz.prog 43 #[.string ⟨s.toArray⟩] w fun e w'=>e= .returned (.tuple #[.int .i64 (jy s).1,.int .i64 (jy s).2])∧Below w.heap.size w w':=by
  obtain⟨m,hm⟩:=G.ml B;obtain⟨i0,hi,hz0,hz1,hz2⟩:=info_parts Rf;have h1:1≤3:=by decide
  have hc1:(Lib.cut s [46]).1.length≤s.length:=(Dh s).1;have hc2:(Lib.cut s [46]).2.1.length≤9223372036854775807:=by have:=(Dh s).2;omega
  have h11:1≤3-1:=by decide
  have f147:Fence.wide.fn 147:=trivial;have f148:Fence.wide.fn 148:=trivial;have f149:Fence.wide.fn 149:=trivial;have hsz:(⟨s.toArray⟩:ByteArray).size<4294967281:=by simpa[ByteArray.size]using hs
  have hszl:(⟨s.toArray⟩:ByteArray).size=s.length:=by simp[ByteArray.size]
  refine(callsIn_wide (n:=3)).1 ?_;refine callsIn_of_wp_marks Tryz.func43 rfl trivial ?_ rfl;simp only[Tryz.ntmps43,ph,List.length_cons,List.length_nil,Nat.reduceAdd,Nat.reduceSub,Array.replicate_succ,Array.replicate_zero,List.push_toArray,List.append_toArray,List.nil_append,List.cons_append];by_cases hl:24<s.length
  · have hl':(24:Int)<s.length:=by omega
    have hr:jy s=(0,26):=by unfold jy;rw[if_pos hl]
    rw[hr];gi_wp2
    exact⟨_,results_tmp2 rfl _ _ _,rfl,Below.refl _ _⟩
  · have hl' : ¬ (24 : Int)<s.length:=by omega
    gi_wp2_with (first
      |(gi_at_call 147;refine(callsIn_wide.2 (Tryz.strings_Cut _ _ m _ hsz hm)).mono ?_;rintro e w1 ⟨rfl,n1,rfl⟩)
      |(gi_at_call 148;refine(callsIn_wide.2 (d148 G (Lib.cut s [46]).2.1 3 hc2 (by decide) _ (B.trans (kR w n1|>.mono hb)) hb)).mono ?_;rintro e w2 ⟨rfl,hB2⟩)
      |(gi_at_call 149;refine(d149 Fence.wide _ trivial rfl _ _).mono ?_;rintro e w3 ⟨rfl,rfl⟩))
    · have hd : (N.gL (Lib.cut s [46]).2.1 3).2=true:=by first|assumption|exact Bool.eq_false_iff.2 (by assumption)
      have hB2':Below w.heap.size w w2:=(kR w n1).trans hB2;have hsz2:w.heap.size≤w2.heap.size:=hB2'.size;obtain⟨F0,hF0⟩:∃F0,gU (F0=((N.gL (Lib.cut s [46]).2.1 3).2&&(Lib.cut s [46]).2.2)):=⟨_,rfl⟩
      have e0:gU ((Lib.cut s [46]).2.2=F0):=by unfold gU at *;rw[hF0];simp[hd]
      have hBX:Below w.heap.size w (((w2.alloc (.cells #[.bool ((Lib.cut s [46]).2.2)] 4)).alloc (.cells #[.slice none 0 0] 34)).alloc (.cells #[.string ⟨(Lib.cut s [46]).1.toArray⟩] 9)):=((hB2'.alloc hsz2 _).alloc (by simp;omega) _).alloc (by simp;omega) _
      have bF:Boxed (((w2.alloc (.cells #[.bool ((Lib.cut s [46]).2.2)] 4)).alloc (.cells #[.slice none 0 0] 34)).alloc (.cells #[.string ⟨(Lib.cut s [46]).1.toArray⟩] 9)) w2.heap.size 4 (.bool ((Lib.cut s [46]).2.2)):=((Boxed.new w2 4 _).alloc _).alloc _
      have bL:Boxed (((w2.alloc (.cells #[.bool ((Lib.cut s [46]).2.2)] 4)).alloc (.cells #[.slice none 0 0] 34)).alloc (.cells #[.string ⟨(Lib.cut s [46]).1.toArray⟩] 9)) (w2.heap.size+1) 34 (.slice none 0 0):=by
        have:=(Boxed.new (w2.alloc (.cells #[.bool ((Lib.cut s [46]).2.2)] 4)) 34 (.slice none 0 0)).alloc (.cells #[.string ⟨(Lib.cut s [46]).1.toArray⟩] 9);rwa[World.size_alloc]at this
      have bS:(((w2.alloc (.cells #[.bool ((Lib.cut s [46]).2.2)] 4)).alloc (.cells #[.slice none 0 0] 34)).alloc (.cells #[.string ⟨(Lib.cut s [46]).1.toArray⟩] 9)).heap[w2.heap.size+1+1]?=some (.cells #[.string ⟨(Lib.cut s [46]).1.toArray⟩] 9 (0,0)):=by
        have:=World.alloc_heap_new ((w2.alloc (.cells #[.bool ((Lib.cut s [46]).2.2)] 4)).alloc (.cells #[.slice none 0 0] 34)) (.cells #[.string ⟨(Lib.cut s [46]).1.toArray⟩] 9);rwa[World.size_alloc,World.size_alloc]at this
      have hXs:(((w2.alloc (.cells #[.bool ((Lib.cut s [46]).2.2)] 4)).alloc (.cells #[.slice none 0 0] 34)).alloc (.cells #[.string ⟨(Lib.cut s [46]).1.toArray⟩] 9)).heap.size=w2.heap.size+3:=by simp
      obtain⟨X,hX⟩:∃X,(((w2.alloc (.cells #[.bool ((Lib.cut s [46]).2.2)] 4)).alloc (.cells #[.slice none 0 0] 34)).alloc (.cells #[.string ⟨(Lib.cut s [46]).1.toArray⟩] 9))=X:=⟨_,rfl⟩
      rw[hX]at hBX bF bL bS hXs⊢
      refine wpIn_rangeFunc_ownG rfl h1 (gf:=225) (lb:= #[.pointer (some ⟨w2.heap.size+1+1,0,none⟩)]) rfl trivial (enters_of Tryz.func225 (by kernel_rfl) rfl)
        (encs:=HX) (Kp:=Kp base) (S:=fun xs=>xs=js (Lib.cut s [46]).1) (Sp:=fun _=>True) (N:=(words (Lib.cut s [46]).1).length)
        (fun l J Jx W hW hJ hJx hY h0=>d225 G (Lib.cut s [46]).1 (by omega) (3-1) l (w2.heap.size+1+1) h11 W ((B.trans (hBX.mono hb)).trans (hW.mono (by omega))) (by have:=hW.size;omega) ((hW.block _ (by omega)).trans bS) J Jx hJ hY h0)
        Kp.trans (Kp.put (by omega)) (Below.refl _ _) (fun _=>rfl)
        (fun pre W=>(∃v,Boxed W (w2.heap.size+1) 34 v∧W.ownsRow w.heap.size 3 1 v pre.length (pre.map fun x=>Value.int .i64 x.1)∧True)∧Boxed W w2.heap.size 4 (.bool (F0&&pre.all (·.2)))∧Below w.heap.size w W)
        (fun _ _ _=>False)
        (OwnFrom.and (Own.from (holdsRow_own w.heap.size (w2.heap.size+1) 34 3 1 (fun pre:List (Nat×Bool)=>pre.length) (fun pre=>pre.map fun x=>Value.int .i64 x.1) (fun _ _=>True)) _) (OwnFrom.and (Own.from (boxed_own w2.heap.size 4 (fun pre:List (Nat×Bool)=> .bool (F0&&pre.all (·.2)))) _) (ownFrom_below (ae _) (by omega))))
        (fun _ _ _ _ _ hs _ _=>hs)
        ?start
        (fun x=>{ tmps:= #[.string ⟨s.toArray⟩,undef,.int .i64 0,.int .i64 0,.string ⟨(Lib.cut s [46]).1.toArray⟩,.string ⟨(Lib.cut s [46]).2.1.toArray⟩,.bool (Lib.cut s [46]).2.2,.int .i64 (N.gL (Lib.cut s [46]).2.1 3).1,.pointer (some ⟨w2.heap.size,0,none⟩),.pointer (some ⟨w2.heap.size+1,0,none⟩),.int .i64 x.1,.bool x.2,undef,undef,undef,undef,undef,.string ⟨s.toArray⟩,.int .i64 s.length,.bool false,.tuple #[.string ⟨(Lib.cut s [46]).1.toArray⟩,.string ⟨(Lib.cut s [46]).2.1.toArray⟩,.bool (Lib.cut s [46]).2.2],.string ⟨s.toArray⟩,.tuple #[.string ⟨(Lib.cut s [46]).1.toArray⟩,.string ⟨(Lib.cut s [46]).2.1.toArray⟩,.bool (Lib.cut s [46]).2.2],.string ⟨(Lib.cut s [46]).1.toArray⟩,.string ⟨(Lib.cut s [46]).2.1.toArray⟩,.bool (Lib.cut s [46]).2.2,.tuple #[.int .i64 (N.gL (Lib.cut s [46]).2.1 3).1,.bool true],.string ⟨(Lib.cut s [46]).2.1.toArray⟩,.tuple #[.int .i64 (N.gL (Lib.cut s [46]).2.1 3).1,.bool true],.int .i64 (N.gL (Lib.cut s [46]).2.1 3).1,.bool true,.bool true,.bool true,.bool (Lib.cut s [46]).2.2,.bool (Lib.cut s [46]).2.2,.string ⟨(Lib.cut s [46]).1.toArray⟩,.func (.func 225) #[] #[.pointer (some ⟨w2.heap.size+1+1,0,none⟩)],.int .i64 x.1,.bool x.2,undef,undef,undef,undef,undef,undef,undef,undef,undef,undef,undef,undef,undef,undef,undef,undef,undef,undef,undef,undef,undef,undef,undef,undef,undef,undef,undef,undef,undef,undef,undef,undef,undef,undef,undef,undef,undef,undef,undef,undef,undef,undef,undef,undef,undef],defers:=[] }) ?assign ?body ?done ?stop
      case start=>exact⟨⟨_,bL,World.ownsRow_nil _ _ _ _,trivial⟩,by unfold gU at e0;rw[pS,Bool.and_true,←e0];exact bF,hBX⟩
      case assign=>
        intro l x W K hK;gi_wp2
        exact hK
      case body=>
        rintro l pre x W ⟨⟨v,hv,hrow,_⟩,hF,hB⟩ hlt;have hwl:=pW (Lib.cut s [46]).1;have hvb:∀b,Boxed (W.setCell ⟨w2.heap.size,0,none⟩ (.bool b)) (w2.heap.size+1) 34 v:=fun b=>hv.other (by omega) _
        have hrb:∀b,(W.setCell ⟨w2.heap.size,0,none⟩ (.bool b)).ownsRow w.heap.size 3 1 v pre.length (pre.map fun x=>Value.int .i64 x.1):=fun b=>hrow.kept (grownBy_setCell' _ _ _) (.inr (hF.not_row (by decide) hrow).symm)
        have hFb:∀b,Boxed (W.setCell ⟨w2.heap.size,0,none⟩ (.bool b)) w2.heap.size 4 (.bool b):=fun b=>hF.set _
        have hsb:∀b,(W.setCell ⟨w2.heap.size,0,none⟩ (.bool b)).heap.size=W.heap.size:=fun b=>by simp
        have hWs:=hF.lt;have hcF:=hF.cell;have hfF:=hF.frozen;have hpre:(F0&&(pre++[x]).all (·.2))=((F0&&pre.all (·.2))&&x.2):=by simp[Bool.and_assoc]
        obtain⟨f,hf⟩:∃f,(F0&&pre.all (·.2))=f:=⟨_,rfl⟩
        rw[hf]at hcF hpre;replace hf:gU ((F0&&pre.all (·.2))=f):=hf
        replace hpre:gU ((F0&&(pre++[x]).all (·.2))=(f&&x.2)):=hpre
        have hcv:=hv.cell;have hmax:pre.length+1≤maxLen:=aB (show pre.length+1≤1000 by omega) (by decide);have hnew:=fun b=>cell_one_new (W.setCell ⟨w2.heap.size,0,none⟩ (.bool b)) (.int .i64 x.1) 3
        have KpF:∀b,Kp base W (W.setCell ⟨w2.heap.size,0,none⟩ (.bool b)):=fun b=>Kp.grown (grownBy_setCell' _ _ _) (by omega) (fun j e=>by
          cases e
          refine⟨by omega,fun arr fr e=>?_⟩;rw[show W.heap[w2.heap.size]?=_ from hF]at e;cases e)
        have hBF:∀b,Below w.heap.size W (W.setCell ⟨w2.heap.size,0,none⟩ (.bool b)):=fun b=>(Below.refl _ W).setCell (p:=⟨w2.heap.size,0,none⟩) (by omega) _
        simp only[hsb]at hnew;cases f
        · have hcv' := (hvb false).cell
          gi_wp2_with (gi_at_builtin;refine wpListIn_append_own _ rfl _ _ 34 rfl w.heap.size 3 i0 (.int .i64 0) 1 8 Tryz.underlying34 hi hz0 hz1 hz2 rfl (by decide) _ _ _ rfl ((hrb (false)).alloc _) ⟨W.heap.size,0,none⟩ 1 1 [.int .i64 x.1] rfl rfl (hnew _) (by simp[Value.oneCell']) hmax (by omega) (by have:=hB.size;simp;omega) ?_
                       intro v' w1 hown' hgrow _;obtain⟨g',cap',rfl⟩:=ownsRow_succ hown';obtain⟨hv1,hv2,hr2,hk2,hb2⟩:=(hvb (false)).appended (by decide) (hrb (false)) (by rw[hsb];exact hB.size) (by omega) hown' hgrow;have hc1:=hv1.cell;have hf1:=hv1.frozen)
          refine⟨((KeepsOthers.setCell W _ _).trans hk2).from _,(KpF _).trans (Kp.appended hb (by rw[hsb];exact hB.size) (by omega) (hrb (false)) hv1 hgrow),⟨_,hv2,by simpa using hr2,trivial⟩,?_,(hB.trans (hBF _)).trans hb2⟩
          have h9:=(((hFb (false)).alloc _).kept hgrow ((hFb (false)).not_row (by decide) (hrb (false)))).other (B':=w2.heap.size+1) (by omega) (.slice (some ⟨g',0,none⟩) (pre.length+1) cap');rw[show(F0&&(pre++[x]).all (·.2))=_ from hpre];simpa using h9
        · have hcv' := (hvb x.2).cell
          gi_wp2_with (gi_at_builtin;refine wpListIn_append_own _ rfl _ _ 34 rfl w.heap.size 3 i0 (.int .i64 0) 1 8 Tryz.underlying34 hi hz0 hz1 hz2 rfl (by decide) _ _ _ rfl ((hrb (x.2)).alloc _) ⟨W.heap.size,0,none⟩ 1 1 [.int .i64 x.1] rfl rfl (hnew _) (by simp[Value.oneCell']) hmax (by omega) (by have:=hB.size;simp;omega) ?_
                       intro v' w1 hown' hgrow _;obtain⟨g',cap',rfl⟩:=ownsRow_succ hown';obtain⟨hv1,hv2,hr2,hk2,hb2⟩:=(hvb (x.2)).appended (by decide) (hrb (x.2)) (by rw[hsb];exact hB.size) (by omega) hown' hgrow;have hc1:=hv1.cell;have hf1:=hv1.frozen)
          refine⟨((KeepsOthers.setCell W _ _).trans hk2).from _,(KpF _).trans (Kp.appended hb (by rw[hsb];exact hB.size) (by omega) (hrb (x.2)) hv1 hgrow),⟨_,hv2,by simpa using hr2,trivial⟩,?_,(hB.trans (hBF _)).trans hb2⟩;have h9:=(((hFb (x.2)).alloc _).kept hgrow ((hFb (x.2)).not_row (by decide) (hrb (x.2)))).other (B':=w2.heap.size+1) (by omega) (.slice (some ⟨g',0,none⟩) (pre.length+1) cap')
          rw[show(F0&&(pre++[x]).all (·.2))=_ from hpre];simpa using h9
      case done =>
        rintro D ys W hD rfl ⟨⟨v,hv,hrow,_⟩,hF,hB⟩ hK;have hwl:=pW (Lib.cut s [46]).1;have hw1:=nT (Lib.cut s [46]).1;have hfl:(js (Lib.cut s [46]).1).length=(words (Lib.cut s [46]).1).length:=by simp[js]
        have hBD:Below w.heap.size w (W.putObj D (.deferred none)):=hB.trans (belowK_b (w:=w) (ae _) W D _ _ (by omega) hK rfl rfl);rcases hrow.2 with⟨_,h0⟩|⟨g,cap,cur,rfl,hgb,hgh,hcap1,hcap2,hcs,htk⟩
        · omega
        have hcells:∀(k:Nat) x,(js (Lib.cut s [46]).1)[k]?=some x→W.cell? ⟨g,k,none⟩=some (.int .i64 x.1):=by
          intro k x hx;have hk:k<(js (Lib.cut s [46]).1).length:=(aZ.1 hx).1;have:=congrArg (fun l=>l[k]?) htk;simp only[dF,Cg hk,bK,hx,cJ,fc]at this;simp[World.cell?,hgh,this]
        have hcF:=hF.cell;have hcv:=hv.cell;obtain⟨L,hL⟩:∃L,js (Lib.cut s [46]).1=L:=⟨_,rfl⟩
        have hLlt:∀(k:Nat) x,L[k]?=some x→x.1≤999999999:=fun k x h=>C4 (by rw[hL];exact h)
        rw[hL]at hcells hfl hcv hcF
        have hr:gU (jy s=if(F0&&L.all (·.2))=true∧L.length≤3 then(if(kP L.length 0 0 false L).2=true then(0,3)else((kP L.length 0 0 false L).1*1000+(N.gL (Lib.cut s [46]).2.1 3).1,0))else(0,25)):=by
          unfold gU at *;unfold jy;rw[if_neg hl,hL,hF0]
        obtain⟨f,hf⟩:∃f,(F0&&L.all (·.2))=f:=⟨_,rfl⟩
        rw[hf]at hcF;unfold gU at hr;rw[hf]at hr;clear hf hF0 e0;cases f
        · rw[if_neg (by simp)]at hr
          replace hr:gU _:=hr
          gi_wp2
          refine⟨by simp,.inl ⟨_,_,rfl,run_takeDeferred hK,?_⟩⟩;exact⟨_,results_tmp2 rfl _ _ _,by unfold gU at hr;rw[hr];rfl,hBD⟩
        · by_cases h3 :L.length≤3
          · rw [if_pos ⟨rfl,h3⟩]at hr
            have h3':(L.length:Int)≤3:=by omega
            replace hr:gU _:=hr
            gi_wp2
            gi_loopw [12,13,56] (fun p q r wr=>∃(k out:Nat) (far:Bool),p= .int .i64 out∧q= .bool far∧r= .int .i64 k∧k≤L.length∧(k=0→out=0)∧(k≤1→out≤999999999)∧(k≤2→out≤60999999939)∧out≤3660999996339∧kP L.length k out far (L.drop k)=kP L.length 0 0 false L∧wr=W) (fun p q r wr=>L.length-idxOf r)
            case atStart=>exact⟨0,0,false,rfl,rfl,rfl,aJ _,fun _=>rfl,fun _=>aJ _,fun _=>aJ _,aJ _,rfl,rfl⟩
            case round=>
              obtain⟨k,out,far,rfl,rfl,rfl,hk,b0,b1,b2,b3,hgo,rfl⟩:=hrel;by_cases hlt:k<L.length
              · obtain⟨x,hx⟩:∃x,L[k]?=some x:=⟨_,aI hlt⟩
                have hc:=hcells k x hx;have hxl:=hLlt k x hx;have hlt':(k:Int)<L.length:=by omega
                have hdrop:L.drop k=x::L.drop (k+1):=by
                  rw[ey hlt];congr 1;have:=aI hlt;rw[hx]at this;exact(aa this).symm
                rw[hdrop,uo]at hgo;replace hgo:gU _:=hgo
                clear hx hcells hLlt;have hmost:uX L.length k=if k=0∧L.length=3 then 23 else 59:=rfl
                cases k with
                | zero=>
                  have hout:out=0:=b0 rfl;subst hout;by_cases hl3:L.length=3
                  · have hl3':(L.length:Int)=3:=by omega
                    rw[if_pos ⟨rfl,hl3⟩]at hmost;cases far
                    all_goals gi_wp2
                    all_goals first
                      |(exfalso;omega)
                      | (refine⟨⟨1,0*60+x.1,_||decide (uX L.length 0<x.1),?_,?_,rfl,by omega,fun _=>by omega,fun _=>by omega,fun _=>by omega,by omega,hgo,by first|trivial|rfl⟩,by simp only[idxOf];omega⟩
                         · first|exact int_eq (by omega)|exact vt (by omega) (by omega)
                         · rw[hmost];exact oJ (by simp;try omega))
                  · have hl3':¬(L.length:Int)=3:=by omega
                    rw[if_neg (fun e=>hl3 e.2)]at hmost;cases far
                    all_goals gi_wp2
                    all_goals first
                      |(exfalso;omega)
                      | (refine⟨⟨1,0*60+x.1,_||decide (uX L.length 0<x.1),?_,?_,rfl,by omega,fun _=>by omega,fun _=>by omega,fun _=>by omega,by omega,hgo,by first|trivial|rfl⟩,by simp only[idxOf];omega⟩
                         · first|exact int_eq (by omega)|exact vt (by omega) (by omega)
                         · rw[hmost];exact oJ (by simp;try omega))
                | succ k=>
                  rw[if_neg (fun e=>Nat.succ_ne_zero k e.1)]at hmost;cases far
                  all_goals gi_wp2
                  all_goals
                    (refine⟨⟨k+2,out*60+x.1,_||decide (uX L.length (k+1)<x.1),?_,?_,?_,by omega,fun _=>by omega,fun _=>by omega,fun _=>by omega,by omega,hgo,by first|trivial|rfl⟩,by simp only[idxOf];omega⟩
                     · first|exact int_eq (by omega)|exact vt (by omega) (by omega)
                     · rw[hmost];exact oJ (by simp;try omega)
                     · exact int_eq (by omega))
              · have hlt':¬(k:Int)<L.length:=by omega
                rw[EP (by omega)]at hgo;replace hgo:gU ((out,far)=kP L.length 0 0 false L):=hgo
                cases far
                · gi_wp2
                  refine⟨by simp,.inl ⟨_,_,rfl,run_takeDeferred hK,?_⟩⟩;refine⟨_,results_tmp2 rfl _ _ _,?_,hBD⟩;unfold gU at hgo hr;rw[←hgo,if_neg (by simp)]at hr;rw[hr];have hd3:=De (Lib.cut s [46]).2.1;have hw:=Zu (a:=(out:Int)*1000+(N.gL (Lib.cut s [46]).2.1 3).1) (n:=out*1000+(N.gL (Lib.cut s [46]).2.1 3).1) (by omega) (by omega)
                  show Ending.returned (Value.tuple #[.int .i64 (wrap64 ((out:Int)*1000+(N.gL (Lib.cut s [46]).2.1 3).1)),.int .i64 0])=_
                  rw[hw];rfl
                · gi_wp2
                  refine⟨by simp,.inl ⟨_,_,rfl,run_takeDeferred hK,?_⟩⟩;refine⟨_,results_tmp2 rfl _ _ _,?_,hBD⟩;unfold gU at hgo hr;rw[←hgo,if_pos rfl]at hr;rw[hr];rfl
          · rw[if_neg (fun e=>h3 e.2)]at hr
            have h3':¬(L.length:Int)≤3:=by omega
            replace hr:gU _:=hr
            gi_wp2
            refine⟨by simp,.inl ⟨_,_,rfl,run_takeDeferred hK,?_⟩⟩;exact⟨_,results_tmp2 rfl _ _ _,by unfold gU at hr;rw[hr];rfl,hBD⟩
      case stop=>
        rintro D c pre W _ _ h _;exact h.elim
    · have hd : (N.gL (Lib.cut s [46]).2.1 3).2=false:=by first|assumption|exact Bool.eq_false_iff.2 (by assumption)
      have hB2':Below w.heap.size w w2:=(kR w n1).trans hB2;have hsz2:w.heap.size≤w2.heap.size:=hB2'.size;obtain⟨F0,hF0⟩:∃F0,gU (F0=((N.gL (Lib.cut s [46]).2.1 3).2&&(Lib.cut s [46]).2.2)):=⟨_,rfl⟩
      have e0:gU (false=F0):=by unfold gU at *;rw[hF0];simp[hd]
      have hBX:Below w.heap.size w (((w2.alloc (.cells #[.bool (false)] 4)).alloc (.cells #[.slice none 0 0] 34)).alloc (.cells #[.string ⟨(Lib.cut s [46]).1.toArray⟩] 9)):=((hB2'.alloc hsz2 _).alloc (by simp;omega) _).alloc (by simp;omega) _
      have bF:Boxed (((w2.alloc (.cells #[.bool (false)] 4)).alloc (.cells #[.slice none 0 0] 34)).alloc (.cells #[.string ⟨(Lib.cut s [46]).1.toArray⟩] 9)) w2.heap.size 4 (.bool (false)):=((Boxed.new w2 4 _).alloc _).alloc _
      have bL:Boxed (((w2.alloc (.cells #[.bool (false)] 4)).alloc (.cells #[.slice none 0 0] 34)).alloc (.cells #[.string ⟨(Lib.cut s [46]).1.toArray⟩] 9)) (w2.heap.size+1) 34 (.slice none 0 0):=by
        have:=(Boxed.new (w2.alloc (.cells #[.bool (false)] 4)) 34 (.slice none 0 0)).alloc (.cells #[.string ⟨(Lib.cut s [46]).1.toArray⟩] 9);rwa[World.size_alloc]at this
      have bS:(((w2.alloc (.cells #[.bool (false)] 4)).alloc (.cells #[.slice none 0 0] 34)).alloc (.cells #[.string ⟨(Lib.cut s [46]).1.toArray⟩] 9)).heap[w2.heap.size+1+1]?=some (.cells #[.string ⟨(Lib.cut s [46]).1.toArray⟩] 9 (0,0)):=by
        have:=World.alloc_heap_new ((w2.alloc (.cells #[.bool (false)] 4)).alloc (.cells #[.slice none 0 0] 34)) (.cells #[.string ⟨(Lib.cut s [46]).1.toArray⟩] 9);rwa[World.size_alloc,World.size_alloc]at this
      have hXs:(((w2.alloc (.cells #[.bool (false)] 4)).alloc (.cells #[.slice none 0 0] 34)).alloc (.cells #[.string ⟨(Lib.cut s [46]).1.toArray⟩] 9)).heap.size=w2.heap.size+3:=by simp
      obtain⟨X,hX⟩:∃X,(((w2.alloc (.cells #[.bool (false)] 4)).alloc (.cells #[.slice none 0 0] 34)).alloc (.cells #[.string ⟨(Lib.cut s [46]).1.toArray⟩] 9))=X:=⟨_,rfl⟩
      rw[hX]at hBX bF bL bS hXs⊢
      refine wpIn_rangeFunc_ownG rfl h1 (gf:=225) (lb:= #[.pointer (some ⟨w2.heap.size+1+1,0,none⟩)]) rfl trivial (enters_of Tryz.func225 (by kernel_rfl) rfl)
        (encs:=HX) (Kp:=Kp base) (S:=fun xs=>xs=js (Lib.cut s [46]).1) (Sp:=fun _=>True) (N:=(words (Lib.cut s [46]).1).length)
        (fun l J Jx W hW hJ hJx hY h0=>d225 G (Lib.cut s [46]).1 (by omega) (3-1) l (w2.heap.size+1+1) h11 W ((B.trans (hBX.mono hb)).trans (hW.mono (by omega))) (by have:=hW.size;omega) ((hW.block _ (by omega)).trans bS) J Jx hJ hY h0)
        Kp.trans (Kp.put (by omega)) (Below.refl _ _) (fun _=>rfl)
        (fun pre W=>(∃v,Boxed W (w2.heap.size+1) 34 v∧W.ownsRow w.heap.size 3 1 v pre.length (pre.map fun x=>Value.int .i64 x.1)∧True)∧Boxed W w2.heap.size 4 (.bool (F0&&pre.all (·.2)))∧Below w.heap.size w W)
        (fun _ _ _=>False)
        (OwnFrom.and (Own.from (holdsRow_own w.heap.size (w2.heap.size+1) 34 3 1 (fun pre:List (Nat×Bool)=>pre.length) (fun pre=>pre.map fun x=>Value.int .i64 x.1) (fun _ _=>True)) _) (OwnFrom.and (Own.from (boxed_own w2.heap.size 4 (fun pre:List (Nat×Bool)=> .bool (F0&&pre.all (·.2)))) _) (ownFrom_below (ae _) (by omega))))
        (fun _ _ _ _ _ hs _ _=>hs)
        ?start
        (fun x=>{ tmps:= #[.string ⟨s.toArray⟩,undef,.int .i64 0,.int .i64 0,.string ⟨(Lib.cut s [46]).1.toArray⟩,.string ⟨(Lib.cut s [46]).2.1.toArray⟩,.bool (Lib.cut s [46]).2.2,.int .i64 (N.gL (Lib.cut s [46]).2.1 3).1,.pointer (some ⟨w2.heap.size,0,none⟩),.pointer (some ⟨w2.heap.size+1,0,none⟩),.int .i64 x.1,.bool x.2,undef,undef,undef,undef,undef,.string ⟨s.toArray⟩,.int .i64 s.length,.bool false,.tuple #[.string ⟨(Lib.cut s [46]).1.toArray⟩,.string ⟨(Lib.cut s [46]).2.1.toArray⟩,.bool (Lib.cut s [46]).2.2],.string ⟨s.toArray⟩,.tuple #[.string ⟨(Lib.cut s [46]).1.toArray⟩,.string ⟨(Lib.cut s [46]).2.1.toArray⟩,.bool (Lib.cut s [46]).2.2],.string ⟨(Lib.cut s [46]).1.toArray⟩,.string ⟨(Lib.cut s [46]).2.1.toArray⟩,.bool (Lib.cut s [46]).2.2,.tuple #[.int .i64 (N.gL (Lib.cut s [46]).2.1 3).1,.bool false],.string ⟨(Lib.cut s [46]).2.1.toArray⟩,.tuple #[.int .i64 (N.gL (Lib.cut s [46]).2.1 3).1,.bool false],.int .i64 (N.gL (Lib.cut s [46]).2.1 3).1,.bool false,.bool false,.bool false,undef,.bool false,.string ⟨(Lib.cut s [46]).1.toArray⟩,.func (.func 225) #[] #[.pointer (some ⟨w2.heap.size+1+1,0,none⟩)],.int .i64 x.1,.bool x.2,undef,undef,undef,undef,undef,undef,undef,undef,undef,undef,undef,undef,undef,undef,undef,undef,undef,undef,undef,undef,undef,undef,undef,undef,undef,undef,undef,undef,undef,undef,undef,undef,undef,undef,undef,undef,undef,undef,undef,undef,undef,undef,undef,undef,undef],defers:=[] }) ?assign ?body ?done ?stop
      case start=>exact⟨⟨_,bL,World.ownsRow_nil _ _ _ _,trivial⟩,by unfold gU at e0;rw[pS,Bool.and_true,←e0];exact bF,hBX⟩
      case assign=>
        intro l x W K hK;gi_wp2
        exact hK
      case body=>
        rintro l pre x W ⟨⟨v,hv,hrow,_⟩,hF,hB⟩ hlt;have hwl:=pW (Lib.cut s [46]).1;have hvb:∀b,Boxed (W.setCell ⟨w2.heap.size,0,none⟩ (.bool b)) (w2.heap.size+1) 34 v:=fun b=>hv.other (by omega) _
        have hrb:∀b,(W.setCell ⟨w2.heap.size,0,none⟩ (.bool b)).ownsRow w.heap.size 3 1 v pre.length (pre.map fun x=>Value.int .i64 x.1):=fun b=>hrow.kept (grownBy_setCell' _ _ _) (.inr (hF.not_row (by decide) hrow).symm)
        have hFb:∀b,Boxed (W.setCell ⟨w2.heap.size,0,none⟩ (.bool b)) w2.heap.size 4 (.bool b):=fun b=>hF.set _
        have hsb:∀b,(W.setCell ⟨w2.heap.size,0,none⟩ (.bool b)).heap.size=W.heap.size:=fun b=>by simp
        have hWs:=hF.lt;have hcF:=hF.cell;have hfF:=hF.frozen;have hpre:(F0&&(pre++[x]).all (·.2))=((F0&&pre.all (·.2))&&x.2):=by simp[Bool.and_assoc]
        obtain⟨f,hf⟩:∃f,(F0&&pre.all (·.2))=f:=⟨_,rfl⟩
        rw[hf]at hcF hpre;replace hf:gU ((F0&&pre.all (·.2))=f):=hf
        replace hpre:gU ((F0&&(pre++[x]).all (·.2))=(f&&x.2)):=hpre
        have hcv:=hv.cell;have hmax:pre.length+1≤maxLen:=aB (show pre.length+1≤1000 by omega) (by decide);have hnew:=fun b=>cell_one_new (W.setCell ⟨w2.heap.size,0,none⟩ (.bool b)) (.int .i64 x.1) 3
        have KpF:∀b,Kp base W (W.setCell ⟨w2.heap.size,0,none⟩ (.bool b)):=fun b=>Kp.grown (grownBy_setCell' _ _ _) (by omega) (fun j e=>by
          cases e
          refine⟨by omega,fun arr fr e=>?_⟩;rw[show W.heap[w2.heap.size]?=_ from hF]at e;cases e)
        have hBF:∀b,Below w.heap.size W (W.setCell ⟨w2.heap.size,0,none⟩ (.bool b)):=fun b=>(Below.refl _ W).setCell (p:=⟨w2.heap.size,0,none⟩) (by omega) _
        simp only[hsb]at hnew;cases f
        · have hcv' := (hvb false).cell
          gi_wp2_with (gi_at_builtin;refine wpListIn_append_own _ rfl _ _ 34 rfl w.heap.size 3 i0 (.int .i64 0) 1 8 Tryz.underlying34 hi hz0 hz1 hz2 rfl (by decide) _ _ _ rfl ((hrb (false)).alloc _) ⟨W.heap.size,0,none⟩ 1 1 [.int .i64 x.1] rfl rfl (hnew _) (by simp[Value.oneCell']) hmax (by omega) (by have:=hB.size;simp;omega) ?_
                       intro v' w1 hown' hgrow _;obtain⟨g',cap',rfl⟩:=ownsRow_succ hown';obtain⟨hv1,hv2,hr2,hk2,hb2⟩:=(hvb (false)).appended (by decide) (hrb (false)) (by rw[hsb];exact hB.size) (by omega) hown' hgrow;have hc1:=hv1.cell;have hf1:=hv1.frozen)
          refine⟨((KeepsOthers.setCell W _ _).trans hk2).from _,(KpF _).trans (Kp.appended hb (by rw[hsb];exact hB.size) (by omega) (hrb (false)) hv1 hgrow),⟨_,hv2,by simpa using hr2,trivial⟩,?_,(hB.trans (hBF _)).trans hb2⟩
          have h9:=(((hFb (false)).alloc _).kept hgrow ((hFb (false)).not_row (by decide) (hrb (false)))).other (B':=w2.heap.size+1) (by omega) (.slice (some ⟨g',0,none⟩) (pre.length+1) cap');rw[show(F0&&(pre++[x]).all (·.2))=_ from hpre];simpa using h9
        · have hcv' := (hvb x.2).cell
          gi_wp2_with (gi_at_builtin;refine wpListIn_append_own _ rfl _ _ 34 rfl w.heap.size 3 i0 (.int .i64 0) 1 8 Tryz.underlying34 hi hz0 hz1 hz2 rfl (by decide) _ _ _ rfl ((hrb (x.2)).alloc _) ⟨W.heap.size,0,none⟩ 1 1 [.int .i64 x.1] rfl rfl (hnew _) (by simp[Value.oneCell']) hmax (by omega) (by have:=hB.size;simp;omega) ?_
                       intro v' w1 hown' hgrow _;obtain⟨g',cap',rfl⟩:=ownsRow_succ hown';obtain⟨hv1,hv2,hr2,hk2,hb2⟩:=(hvb (x.2)).appended (by decide) (hrb (x.2)) (by rw[hsb];exact hB.size) (by omega) hown' hgrow;have hc1:=hv1.cell;have hf1:=hv1.frozen)
          refine⟨((KeepsOthers.setCell W _ _).trans hk2).from _,(KpF _).trans (Kp.appended hb (by rw[hsb];exact hB.size) (by omega) (hrb (x.2)) hv1 hgrow),⟨_,hv2,by simpa using hr2,trivial⟩,?_,(hB.trans (hBF _)).trans hb2⟩;have h9:=(((hFb (x.2)).alloc _).kept hgrow ((hFb (x.2)).not_row (by decide) (hrb (x.2)))).other (B':=w2.heap.size+1) (by omega) (.slice (some ⟨g',0,none⟩) (pre.length+1) cap')
          rw[show(F0&&(pre++[x]).all (·.2))=_ from hpre];simpa using h9
      case done =>
        rintro D ys W hD rfl ⟨⟨v,hv,hrow,_⟩,hF,hB⟩ hK;have hwl:=pW (Lib.cut s [46]).1;have hw1:=nT (Lib.cut s [46]).1;have hfl:(js (Lib.cut s [46]).1).length=(words (Lib.cut s [46]).1).length:=by simp[js]
        have hBD:Below w.heap.size w (W.putObj D (.deferred none)):=hB.trans (belowK_b (w:=w) (ae _) W D _ _ (by omega) hK rfl rfl);rcases hrow.2 with⟨_,h0⟩|⟨g,cap,cur,rfl,hgb,hgh,hcap1,hcap2,hcs,htk⟩
        · omega
        have hcells:∀(k:Nat) x,(js (Lib.cut s [46]).1)[k]?=some x→W.cell? ⟨g,k,none⟩=some (.int .i64 x.1):=by
          intro k x hx;have hk:k<(js (Lib.cut s [46]).1).length:=(aZ.1 hx).1;have:=congrArg (fun l=>l[k]?) htk;simp only[dF,Cg hk,bK,hx,cJ,fc]at this;simp[World.cell?,hgh,this]
        have hcF:=hF.cell;have hcv:=hv.cell;obtain⟨L,hL⟩:∃L,js (Lib.cut s [46]).1=L:=⟨_,rfl⟩
        have hLlt:∀(k:Nat) x,L[k]?=some x→x.1≤999999999:=fun k x h=>C4 (by rw[hL];exact h)
        rw[hL]at hcells hfl hcv hcF
        have hr:gU (jy s=if(F0&&L.all (·.2))=true∧L.length≤3 then(if(kP L.length 0 0 false L).2=true then(0,3)else((kP L.length 0 0 false L).1*1000+(N.gL (Lib.cut s [46]).2.1 3).1,0))else(0,25)):=by
          unfold gU at *;unfold jy;rw[if_neg hl,hL,hF0]
        obtain⟨f,hf⟩:∃f,(F0&&L.all (·.2))=f:=⟨_,rfl⟩
        rw[hf]at hcF;unfold gU at hr;rw[hf]at hr;clear hf hF0 e0;cases f
        · rw[if_neg (by simp)]at hr
          replace hr:gU _:=hr
          gi_wp2
          refine⟨by simp,.inl ⟨_,_,rfl,run_takeDeferred hK,?_⟩⟩;exact⟨_,results_tmp2 rfl _ _ _,by unfold gU at hr;rw[hr];rfl,hBD⟩
        · by_cases h3 :L.length≤3
          · rw [if_pos ⟨rfl,h3⟩]at hr
            have h3':(L.length:Int)≤3:=by omega
            replace hr:gU _:=hr
            gi_wp2
            gi_loopw [12,13,56] (fun p q r wr=>∃(k out:Nat) (far:Bool),p= .int .i64 out∧q= .bool far∧r= .int .i64 k∧k≤L.length∧(k=0→out=0)∧(k≤1→out≤999999999)∧(k≤2→out≤60999999939)∧out≤3660999996339∧kP L.length k out far (L.drop k)=kP L.length 0 0 false L∧wr=W) (fun p q r wr=>L.length-idxOf r)
            case atStart=>exact⟨0,0,false,rfl,rfl,rfl,aJ _,fun _=>rfl,fun _=>aJ _,fun _=>aJ _,aJ _,rfl,rfl⟩
            case round=>
              obtain⟨k,out,far,rfl,rfl,rfl,hk,b0,b1,b2,b3,hgo,rfl⟩:=hrel;by_cases hlt:k<L.length
              · obtain⟨x,hx⟩:∃x,L[k]?=some x:=⟨_,aI hlt⟩
                have hc:=hcells k x hx;have hxl:=hLlt k x hx;have hlt':(k:Int)<L.length:=by omega
                have hdrop:L.drop k=x::L.drop (k+1):=by
                  rw[ey hlt];congr 1;have:=aI hlt;rw[hx]at this;exact(aa this).symm
                rw[hdrop,uo]at hgo;replace hgo:gU _:=hgo
                clear hx hcells hLlt;have hmost:uX L.length k=if k=0∧L.length=3 then 23 else 59:=rfl
                cases k with
                | zero=>
                  have hout:out=0:=b0 rfl;subst hout;by_cases hl3:L.length=3
                  · have hl3':(L.length:Int)=3:=by omega
                    rw[if_pos ⟨rfl,hl3⟩]at hmost;cases far
                    all_goals gi_wp2
                    all_goals first
                      |(exfalso;omega)
                      | (refine⟨⟨1,0*60+x.1,_||decide (uX L.length 0<x.1),?_,?_,rfl,by omega,fun _=>by omega,fun _=>by omega,fun _=>by omega,by omega,hgo,by first|trivial|rfl⟩,by simp only[idxOf];omega⟩
                         · first|exact int_eq (by omega)|exact vt (by omega) (by omega)
                         · rw[hmost];exact oJ (by simp;try omega))
                  · have hl3':¬(L.length:Int)=3:=by omega
                    rw[if_neg (fun e=>hl3 e.2)]at hmost;cases far
                    all_goals gi_wp2
                    all_goals first
                      |(exfalso;omega)
                      | (refine⟨⟨1,0*60+x.1,_||decide (uX L.length 0<x.1),?_,?_,rfl,by omega,fun _=>by omega,fun _=>by omega,fun _=>by omega,by omega,hgo,by first|trivial|rfl⟩,by simp only[idxOf];omega⟩
                         · first|exact int_eq (by omega)|exact vt (by omega) (by omega)
                         · rw[hmost];exact oJ (by simp;try omega))
                | succ k=>
                  rw[if_neg (fun e=>Nat.succ_ne_zero k e.1)]at hmost;cases far
                  all_goals gi_wp2
                  all_goals
                    (refine⟨⟨k+2,out*60+x.1,_||decide (uX L.length (k+1)<x.1),?_,?_,?_,by omega,fun _=>by omega,fun _=>by omega,fun _=>by omega,by omega,hgo,by first|trivial|rfl⟩,by simp only[idxOf];omega⟩
                     · first|exact int_eq (by omega)|exact vt (by omega) (by omega)
                     · rw[hmost];exact oJ (by simp;try omega)
                     · exact int_eq (by omega))
              · have hlt':¬(k:Int)<L.length:=by omega
                rw[EP (by omega)]at hgo;replace hgo:gU ((out,far)=kP L.length 0 0 false L):=hgo
                cases far
                · gi_wp2
                  refine⟨by simp,.inl ⟨_,_,rfl,run_takeDeferred hK,?_⟩⟩;refine⟨_,results_tmp2 rfl _ _ _,?_,hBD⟩;unfold gU at hgo hr;rw[←hgo,if_neg (by simp)]at hr;rw[hr];have hd3:=De (Lib.cut s [46]).2.1;have hw:=Zu (a:=(out:Int)*1000+(N.gL (Lib.cut s [46]).2.1 3).1) (n:=out*1000+(N.gL (Lib.cut s [46]).2.1 3).1) (by omega) (by omega)
                  show Ending.returned (Value.tuple #[.int .i64 (wrap64 ((out:Int)*1000+(N.gL (Lib.cut s [46]).2.1 3).1)),.int .i64 0])=_
                  rw[hw];rfl
                · gi_wp2
                  refine⟨by simp,.inl ⟨_,_,rfl,run_takeDeferred hK,?_⟩⟩;refine⟨_,results_tmp2 rfl _ _ _,?_,hBD⟩;unfold gU at hgo hr;rw[←hgo,if_pos rfl]at hr;rw[hr];rfl
          · rw[if_neg (fun e=>h3 e.2)]at hr
            have h3':¬(L.length:Int)≤3:=by omega
            replace hr:gU _:=hr
            gi_wp2
            refine⟨by simp,.inl ⟨_,_,rfl,run_takeDeferred hK,?_⟩⟩;exact⟨_,results_tmp2 rfl _ _ _,by unfold gU at hr;rw[hr];rfl,hBD⟩
      case stop=>
        rintro D c pre W _ _ h _;exact h.elim
end Rc
end Go.Proofs
