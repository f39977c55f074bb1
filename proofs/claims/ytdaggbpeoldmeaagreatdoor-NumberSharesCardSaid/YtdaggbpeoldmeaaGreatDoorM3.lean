/- Decimal notations: plain lists of bytes. -/
import Derived.Lib.ItoaNum
import Derived.Lib.Repeat
import Derived.Test.YtdaggbpeoldmeaaGreatDoorM2
import Derived.Lib.Atoi
import Derived.Test.YtdaggbpeoldmeaaGreatDoorZFB
set_option linter.unusedVariables false
set_option linter.unusedSimpArgs false
namespace Go.Ae.N
open Go
def dg (n:Nat):UInt8:=UInt8.ofNat (48+n%10)
def decP (n k:Nat):List UInt8:=if n=0∧k=0 then[]else decP (n/10) (k-1)++[dg n]
termination_by n+k
decreasing_by omega
end Go.Ae.N
set_option linter.unusedVariables false
set_option linter.unusedSimpArgs false
namespace Go.Ae.N
open Go
def isDig (b:UInt8):Bool:=decide (48≤b.toNat∧b.toNat≤57)
def allDig (l:List UInt8):Bool:=l.all isDig
def dV (b:UInt8):Nat:=b.toNat-48
def decF (n:Nat) (l:List UInt8):Nat:=l.foldl (fun m b=>m*10+dV b) n
theorem decF_nil {n:Nat}:decF n []=n:=List.foldl_nil
theorem decF_cons {n:Nat} {b:UInt8} {l:List UInt8}:decF n (b::l)=decF (n*10+dV b) l:=List.foldl_cons
abbrev decV (l:List UInt8):Nat:=decF 0 l
def isDec (l:List UInt8):Bool:=decide (l≠[])&&allDig l&&(decide (l.headD 0≠48)||decide (l=[48]))
theorem decFrom_eq (l:List UInt8):∀n:Nat,allDig l=true→Lib.decFrom n l=some (decF n l):=by
 induction l with
 |nil=>intro n _;rw[decF_nil];rfl
 | cons b l ih=>
  intro n h
  simp only[allDig,List.all_cons,Bool.and_eq_true]at h
  have hb:48≤b.toNat∧b.toNat≤57:=by simpa[isDig]using h.1
  simp only[Lib.decFrom,Lib.digitVal,if_pos hb,decF_cons,dV]
  exact ih _ h.2
theorem atoi_eq {l:List UInt8} (h:allDig l=true) (h0:l≠[]):Lib.atoi l=some (decV l:Int):=by
 cases l with
 |nil=>exact absurd rfl h0
 | cons b r=>
  have h':=h
  simp only[allDig,List.all_cons,Bool.and_eq_true]at h'
  have hb:48≤b.toNat∧b.toNat≤57:=by simpa[isDig]using h'.1
  have h1:(b==45)=false:=by
   rw[beq_eq_false_iff_ne];rintro rfl;simp at hb
  have h2:(b==43)=false:=by
   rw[beq_eq_false_iff_ne];rintro rfl;simp at hb
  simp only[Lib.atoi,h1,h2,Lib.decNat,List.isEmpty_cons,Bool.false_eq_true,if_false,decFrom_eq _ _ h,Option.map_some]
theorem decF_lt (l:List UInt8):∀n j:Nat,allDig l=true→n<10^j→decF n l<10^(j+l.length):=by
 induction l with
 |nil=>intro n j _ h;rw[decF_nil];exact h
 | cons b l ih=>
  intro n j h hn
  simp only[allDig,List.all_cons,Bool.and_eq_true]at h
  have hb:48≤b.toNat∧b.toNat≤57:=by simpa[isDig]using h.1
  have:=ih (n*10+dV b) (j+1) h.2 (by unfold dV;rw[Nat.pow_succ];omega)
  rw[decF_cons,List.length_cons]
  rw[show j+(l.length+1)=j+1+l.length by omega];exact this
theorem decV_lt {l:List UInt8} (h:allDig l=true):decV l<10^l.length:=by
 have:=decF_lt l 0 0 h (by simp);simpa using this
theorem ten_mem (b:UInt8):L.tenDigits.contains b=isDig b:=by
 have key:∀n:Nat,n<256→L.tenDigits.contains (UInt8.ofNat n)=decide (48≤(UInt8.ofNat n).toNat∧(UInt8.ofNat n).toNat≤57):=by decide+kernel
 have:=key b.toNat b.toNat_lt
 simpa[isDig]using this
theorem dropWhile_nil {l:List UInt8} {p:UInt8→Bool}:l.dropWhile p=[]↔l.all p=true:=by
 induction l with
 |nil=>simp
 |cons b l ih=>by_cases hb:p b=true<;>simp[List.dropWhile,hb,ih]
theorem trim_nil {l:List UInt8}:Lib.trimS l L.tenDigits=[]↔allDig l=true:=by
 have e:(fun b=>L.tenDigits.contains b)=isDig:=funext ten_mem
 unfold Lib.trimS Lib.trimLeftS Lib.trimRightS allDig
 rw[e,dropWhile_nil,List.all_reverse]
 constructor
 ·intro h
  rw[List.all_eq_true]at h⊢
  by_cases h1:l.reverse.dropWhile isDig=[]
  ·rw[dropWhile_nil,List.all_reverse,List.all_eq_true]at h1;exact h1
  ·exfalso
   have h2:=List.head_dropWhile_not isDig (l:=l.reverse) (by exact h1)
   rw[h _ (List.head_mem h1)]at h2;cases h2
 ·intro h
  have:l.reverse.dropWhile isDig=[]:=by rw[dropWhile_nil,List.all_reverse];exact h
  rw[this];rfl
def digV (l:List UInt8) (c:Nat):Nat×Bool:=if l.length=c∧allDig l=true then(decV l,true)else(0,false)
def intV (l:List UInt8):Nat×Bool:=if isDec l=true∧l.length≤9 then(decV l,true)else(0,false)
end Go.Ae.N
set_option linter.unusedVariables false
set_option linter.unusedSimpArgs false
set_option maxRecDepth 100000
namespace Go.Ae
open N
noncomputable abbrev E0:Env:=L.En C.fns
section
attribute [local go_sem] not_true_eq_false not_false_eq_true decide_true decide_false Wp.seq_iff Wp.block_iff Wp.skip_iff Wp.ret_iff Wp.exit_iff Wp.cond_iff Wp.nil_iff Wp.op_iff Wp.grd_iff Wp.dreg_iff Wp.dnil_iff Wp.dop_iff Wp.dgrd_iff After InBlock Round Then DThen DOp.some_iff noted_n noted_s NoteK.ptr List.all_nil List.all_cons fresh_eq val_k val_set val_nil put_some put_none enter_nil enter_cons List.map_cons List.map_nil Option.map_some Option.map_none resA_tmp res0 res1 res2 res3 RetQ.ret RetQ.nrm ResK.iff wanted_k WantK.tt WantK.tf WantK.ft WantK.ff WantK.und GrdK.t GrdK.f DGrd.t DGrd.f CondK.t CondK.f decide_nn Bool.not_true Bool.not_false Bool.not_not w_mv PickK.t PickK.f w_pick w_alloc w_bin w_un cviA_int w_cvi cvsA_str w_cvs w_mkI w_mkF w_sls slsK_lo slsK_hi slsK_lh w_idxs idxK_str w_len lenK_str lenK_sl lenK_nils lenK_arr w_ext extK_0 extK_1 extK_2 w_fld fldK_0 fldK_1 fldK_2 fldK_3 fldK_4 w_fadr fadrK_ptr w_iadr iadrK_sl w_iadrA iadrAK_ptr w_load w_storeK Some1.iff Some2.iff b_add b_sub b_mul b_quoP b_remP b_eql b_neq b_lss b_leq b_gtr b_geq b_sadd b_seql b_sneq b_inil u_not u_neg wrap_i64 wrap_u64 wrap_u8 wrap_i32 w_mx2 w_mn2 max2A_int min2A_int cells_int cells_bool cells_str cells_ptr cells_sl cells_nils cells_fn cells_agg one_int one_bool one_str one_ptr one_sl one_nils one_fn OpWp.callF_iff OpWp.callV_iff CallVK.fn OpWp.inv_iff CondK.posN PickK.posN WantK.posN_t WantK.posN_f CondK.pos CondK.neg PickK.pos PickK.neg WantK.pos_t WantK.neg_t WantK.pos_f WantK.neg_f
variable {h:Hp} {K:AV→Hp→Prop}
theorem c223 {s:List UInt8} (hs:s.length≤9223372036854775807):CallWp E0 223 [.str s,.str [48,49,50,51,52,53,54,55,56,57]] h K↔K (.str (Lib.trimS s L.tenDigits)) h:=by
 rw[CallWp.prim_iff (p:=L.p223) rfl rfl]
 have:L.p223 [.str s,.str [48,49,50,51,52,53,54,55,56,57]] h=some (.str (Lib.trimS s L.tenDigits),h):=if_pos ⟨rfl,hs⟩
 rw[this];exact Iff.rfl
theorem c224 {s:List UInt8} (hd:allDig s=true) (h0:¬s=[]) (hs:s.length≤18):CallWp E0 224 [.str s] h K↔K (.tup [.int .i64 (decV s),.nili]) h:=by
 rw[CallWp.prim_iff (p:=L.p224) rfl rfl]
 have:L.p224 [.str s] h=some (.tup [.int .i64 (decV s),.nili],h):=by
  simp only[L.p224,if_pos hs,atoi_eq hd h0]
 rw[this];exact Iff.rfl
theorem c148 {s:List UInt8} {c:Nat} (hs:s.length≤9223372036854775807) (hc:1≤c∧c≤18):CallWp E0 148 [.str s,.int .i64 c] h K↔K (.tup [.int .i64 (digV s c).1,.bool (digV s c).2]) h:=by
 refine CallWp.iff_of (CallWp.fn (fn:=C.a148) rfl rfl rfl ?_)
 unfold C.a148
 by_cases hl:s.length=c
 ·have h0:¬s=[]:=fun e=>by subst e;simp at hl;omega
  have hl':(s.length:Int)=c:=by omega
  repeat' (with_reducible first|simp(disch:=first|assumption|omega|(simp only[List.length_cons,List.length_nil,List.length_append,List.length_map,List.length_take,List.length_drop,List.length_replicate];omega)) only[go_sem,↓reduceIte,Nat.reduceEqDiff,Nat.reduceAdd,Nat.reduceBEq,c223,c224,trim_nil]|refine CondK.decN (fun hc=>?_) (fun hc=>?_)|refine GrdK.decN (fun hc=>?_) (fun hc=>?_)|refine PickK.decN (fun hc=>?_) (fun hc=>?_)|refine CondK.dec (fun hc=>?_) (fun hc=>?_)|refine GrdK.dec (fun hc=>?_) (fun hc=>?_)|refine PickK.dec (fun hc=>?_) (fun hc=>?_))
  ·rename_i hc;simp[digV,hc]
  ·rename_i hc;simp[digV,hc,hl]
 ·have hl':¬(s.length:Int)=c:=by omega
  repeat' (with_reducible first|simp(disch:=first|assumption|omega|(simp only[List.length_cons,List.length_nil,List.length_append,List.length_map,List.length_take,List.length_drop,List.length_replicate];omega)) only[go_sem,↓reduceIte,Nat.reduceEqDiff,Nat.reduceAdd,Nat.reduceBEq,c223,c224,trim_nil]|refine CondK.decN (fun hc=>?_) (fun hc=>?_)|refine GrdK.decN (fun hc=>?_) (fun hc=>?_)|refine PickK.decN (fun hc=>?_) (fun hc=>?_)|refine CondK.dec (fun hc=>?_) (fun hc=>?_)|refine GrdK.dec (fun hc=>?_) (fun hc=>?_)|refine PickK.dec (fun hc=>?_) (fun hc=>?_))
  simp[digV,hl]
theorem c189 {s:List UInt8} (hs:s.length≤9223372036854775807):CallWp E0 189 [.str s] h K↔K (.bool (isDec s)) h:=by
 refine CallWp.iff_of (CallWp.fn (fn:=C.a189) rfl rfl rfl ?_)
 unfold C.a189
 cases s with
 | nil=>
  repeat' (with_reducible first|simp(disch:=first|assumption|omega|(simp only[List.length_cons,List.length_nil,List.length_append,List.length_map,List.length_take,List.length_drop,List.length_replicate];omega)) only[go_sem,↓reduceIte,Nat.reduceEqDiff,Nat.reduceAdd,Nat.reduceBEq,c223,trim_nil]|refine CondK.decN (fun hc=>?_) (fun hc=>?_)|refine GrdK.decN (fun hc=>?_) (fun hc=>?_)|refine PickK.decN (fun hc=>?_) (fun hc=>?_)|refine CondK.dec (fun hc=>?_) (fun hc=>?_)|refine GrdK.dec (fun hc=>?_) (fun hc=>?_)|refine PickK.dec (fun hc=>?_) (fun hc=>?_))
  all_goals simp[isDec]
 | cons b r=>
  have h0:¬(b::r)=[]:=by simp
  have hb:(b.toNat:Int)=48↔b=48:=by
   constructor
   ·intro e;exact UInt8.toNat_inj.1 (by simpa using Int.ofNat.inj e)
   ·rintro rfl;rfl
  repeat' (with_reducible first|simp(disch:=first|assumption|omega|(simp only[List.length_cons,List.length_nil,List.length_append,List.length_map,List.length_take,List.length_drop,List.length_replicate];omega)) only[go_sem,↓reduceIte,Nat.reduceEqDiff,Nat.reduceAdd,Nat.reduceBEq,c223,trim_nil,Int.toNat_zero,List.getD_cons_zero,hb]|refine CondK.decN (fun hc=>?_) (fun hc=>?_)|refine GrdK.decN (fun hc=>?_) (fun hc=>?_)|refine PickK.decN (fun hc=>?_) (fun hc=>?_)|refine CondK.dec (fun hc=>?_) (fun hc=>?_)|refine GrdK.dec (fun hc=>?_) (fun hc=>?_)|refine PickK.dec (fun hc=>?_) (fun hc=>?_))
  all_goals simp_all [isDec]
theorem c226 {s:List UInt8} (hs:s.length≤9223372036854775807):CallWp E0 226 [.str s] h K↔K (.tup [.int .i64 (intV s).1,.bool (intV s).2]) h:=by
 refine CallWp.iff_of (CallWp.fn (fn:=C.a226) rfl rfl rfl ?_)
 unfold C.a226
 have key:isDec s=true→¬s=[]∧allDig s=true:=by
  unfold isDec;simp only[Bool.and_eq_true,decide_eq_true_eq];exact fun e=>e.1
 cases hd:isDec s with
 | true=>
  obtain⟨h0,h1⟩:=key hd
  repeat' (with_reducible first|simp(disch:=first|assumption|omega|(simp only[List.length_cons,List.length_nil,List.length_append,List.length_map,List.length_take,List.length_drop,List.length_replicate];omega)) only[go_sem,↓reduceIte,Nat.reduceEqDiff,Nat.reduceAdd,Nat.reduceBEq,c189,hd,c224]|refine CondK.decN (fun hc=>?_) (fun hc=>?_)|refine GrdK.decN (fun hc=>?_) (fun hc=>?_)|refine PickK.decN (fun hc=>?_) (fun hc=>?_)|refine CondK.dec (fun hc=>?_) (fun hc=>?_)|refine GrdK.dec (fun hc=>?_) (fun hc=>?_)|refine PickK.dec (fun hc=>?_) (fun hc=>?_))
  ·simp[intV,hd,show ¬s.length≤9 by omega]
  ·simp[intV,hd,show s.length≤9 by omega]
 | false=>
  repeat' (with_reducible first|simp(disch:=first|assumption|omega|(simp only[List.length_cons,List.length_nil,List.length_append,List.length_map,List.length_take,List.length_drop,List.length_replicate];omega)) only[go_sem,↓reduceIte,Nat.reduceEqDiff,Nat.reduceAdd,Nat.reduceBEq,c189,hd,c224]|refine CondK.decN (fun hc=>?_) (fun hc=>?_)|refine GrdK.decN (fun hc=>?_) (fun hc=>?_)|refine PickK.decN (fun hc=>?_) (fun hc=>?_)|refine CondK.dec (fun hc=>?_) (fun hc=>?_)|refine GrdK.dec (fun hc=>?_) (fun hc=>?_)|refine PickK.dec (fun hc=>?_) (fun hc=>?_))
  all_goals simp[intV,hd]
end
end Go.Ae
set_option linter.unusedVariables false
set_option linter.unusedSimpArgs false
namespace Go.Ae
mutual
def AV.free:AV→Bool
 | .int _ _| .bool _| .str _| .nilp| .nils| .nilf| .nili| .nilm=>true
 | .fn _ cap=>frees cap
 | .ifc _ v=>v.free
 | .agg l=>frees l
 | .tup l=>frees l
 | .ptr _ _| .sl _ _ _ _| .esl _ _ _ _| .map _=>false
def frees:List AV→Bool
 |[]=>true
 |x::l=>x.free&&frees l
end
mutual
theorem enc_free (ρ ρ':Rho):∀(v:AV),v.free=true→enc ρ v=enc ρ' v
 | .int _ _,_| .bool _,_| .str _,_| .nilp,_| .nils,_| .nilf,_| .nili,_| .nilm,_=>by simp[enc]
 | .fn f cap,h=>by simp only[AV.free]at h;simp only[enc,encs_free ρ ρ' cap h]
 | .ifc T v,h=>by simp only[AV.free]at h;simp only[enc,enc_free ρ ρ' v h]
 | .agg l,h=>by simp only[AV.free]at h;simp only[enc,encs_free ρ ρ' l h]
 | .tup l,h=>by simp only[AV.free]at h;simp only[enc,encs_free ρ ρ' l h]
 | .ptr _ _,h| .sl _ _ _ _,h| .esl _ _ _ _,h| .map _,h=>by simp[AV.free]at h
theorem encs_free (ρ ρ':Rho):∀(l:List AV),frees l=true→encs ρ l=encs ρ' l
 |[],_=>by simp[encs]
 | x::l,h=>by
  simp only[frees,Bool.and_eq_true]at h
  simp only[encs,enc_free ρ ρ' x h.1,encs_free ρ ρ' l h.2]
end
mutual
theorem ok_free (ρ:Rho) (N:Nat):∀(v:AV),v.free=true→ok ρ N v
 | .int _ _,_| .bool _,_| .str _,_| .nilp,_| .nils,_| .nilf,_| .nili,_| .nilm,_=>by simp[ok]
 | .fn f cap,h=>by simp only[AV.free]at h;simp only[ok];exact oks_free ρ N cap h
 | .ifc T v,h=>by simp only[AV.free]at h;simp only[ok];exact ok_free ρ N v h
 | .agg l,h=>by simp only[AV.free]at h;simp only[ok];exact oks_free ρ N l h
 | .tup l,h=>by simp only[AV.free]at h;simp only[ok];exact oks_free ρ N l h
 | .ptr _ _,h| .sl _ _ _ _,h| .esl _ _ _ _,h| .map _,h=>by simp[AV.free]at h
theorem oks_free (ρ:Rho) (N:Nat):∀(l:List AV),frees l=true→oks ρ N l
 |[],_=>by simp[oks]
 | x::l,h=>by
  simp only[frees,Bool.and_eq_true]at h
  simp only[oks]
  exact⟨ok_free ρ N x h.1,oks_free ρ N l h.2⟩
end
abbrev Hp.nil:Hp:=⟨0,0,.nil⟩
theorem Hp.get_nil (t:Nat):Hp.nil.get t=none:=T.get_nil t
section
variable {P:Program} {W0:World} {base:Nat} {E:Env} {ρ:Rho} {h h1:Hp} {w:World} {v:AV} {args:List AV} {n f:Nat}
theorem HRel.nil (hs:base≤w.heap.size):HRel base ρ .nil w where
 size:=hs
 lt:=fun t o h=>by rw[Hp.get_nil]at h;cases h
 row:=fun t _ _ _ h=>by rw[Hp.get_nil]at h;cases h
 iter:=fun t _ _ _ h=>by rw[Hp.get_nil]at h;cases h
 map:=fun t _ _ h=>by rw[Hp.get_nil]at h;cases h
 apart:=fun t _ _ _ h=>by rw[Hp.get_nil]at h;cases h
theorem Gives.lift {u:Value} {w':World} (R:HRel base ρ h w) (hv:v.free=true) (G:Gives base ρ .nil w v h1 u w'):Gives base ρ h w v h u w':=by
 obtain⟨ρ',X,_,rfl⟩:=G
 have B:Go.RowKit.Below w.heap.size w w':=⟨X.keep.os,X.keep.tape,X.keep.output,X.keep.size,fun k hk=>X.keep.block k hk fun t o ht=>by rw[Hp.get_nil]at ht;cases ht⟩
 exact⟨ρ,Ext.grown R B,ok_free ρ _ v hv,enc_free _ _ v hv⟩
theorem lift (EO:EnvOk P W0 base E) (hr:call E n f args .nil=some (v,h1)) (ha:frees args=true) (hv:v.free=true) (B:Go.RowKit.Below base W0 w) (R:HRel base ρ h w):
  Does P base ρ h w (callFunc f (encs ρ args).toArray) v h:=by
 have D:=call_sound EO hr B (HRel.nil (ρ:=ρ) R.size) (oks_free ρ _ args ha)
 unfold Does at *
 exact D.mono fun u w' G=>Gives.lift R hv G
theorem calls_of (EO:EnvOk P W0 base E) (hc:canEnter P f=true) (hr:∃n h1,call E n f args .nil=some (v,h1)) (ha:frees args=true) (hv:v.free=true) (B:Go.RowKit.Below base W0 w) (hb:base≤w.heap.size) (ρ:Rho):
  Calls P f (encs ρ args).toArray w fun e w'=>e= .returned (enc ρ v)∧Go.RowKit.Below w.heap.size w w':=by
 obtain⟨n,h1,hr⟩:=hr
 have D:=lift EO hr ha hv B (HRel.nil (ρ:=ρ) hb)
 unfold Does at D
 rw[run_enter hc]at D
 refine Calls.mono (show Calls P f (encs ρ args).toArray w _ from D) fun e w' he=>?_
 obtain⟨u,rfl,ρ',X,_,rfl⟩:=he
 exact⟨congrArg _ (enc_free _ _ v hv),⟨X.keep.os,X.keep.tape,X.keep.output,X.keep.size,fun k hk=>X.keep.block k hk fun t o ht=>by rw[Hp.get_nil]at ht;cases ht⟩⟩
def PureP (E:Env) (f:Nat) (p:List AV→Option AV):Prop:=∀args v,p args=some v→frees args=true∧v.free=true∧∃n h1,call E n f args .nil=some (v,h1)
def Env.with (E:Env) (f:Nat) (p:List AV→Option AV):Env:={ E with prims:=fun n=>if n=f then some (fun args h=>match p args with|some v=>some (v,h)|none=>none)else E.prims n }
theorem EnvOk.with {p:List AV→Option AV} (EO:EnvOk P W0 base E) (hp:PureP E f p):EnvOk P W0 base (E.with f p) where
 fns:=EO.fns
 exts:=EO.exts
 meth:=EO.meth
 mixed:=EO.mixed
 prims :=by
  intro k q hq args h v h' hv ρ w B R hok
  simp only[Env.with]at hq
  split at hq
  ·rename_i e
   subst e
   obtain rfl:=Option.some.inj hq
   simp only at hv
   split at hv
   ·rename_i u hu
    obtain⟨rfl,rfl⟩:=pair_inj hv
    obtain⟨a1,a2,n,h1,a3⟩:=hp args u hu
    exact lift EO a3 a1 a2 B R
   ·cases hv
  ·exact EO.prims k q hq args h v h' hv ρ w B R hok
 later :=by
  intro k q args h v h' hq hv
  simp only[Env.with]at hq
  split at hq
  ·obtain rfl:=Option.some.inj hq
   simp only at hv
   split at hv
   ·obtain⟨rfl,rfl⟩:=pair_inj hv
    exact Later.refl _
   ·cases hv
  ·exact EO.later k q args h v h' hq hv
end
end Go.Ae
