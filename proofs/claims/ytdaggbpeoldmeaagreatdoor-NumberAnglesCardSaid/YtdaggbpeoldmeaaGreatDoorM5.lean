/-
  What the rows of chapter 1 have in common: a start at which the listed variables read as their initialisers lay them.
-/
import Derived.Test.YtdaggbpeoldmeaaGreatDoorCards
import Derived.Test.YtdaggbpeoldmeaaGreatDoorTie
import Derived.Test.YtdaggbpeoldmeaaGreatDoorZKR3
import Derived.WalkKit
import Derived.ProofKit
import Derived.OpenShut
import Derived.LaidSub
import Derived.MakeChecks
import Derived.ChangeMaps5
import Derived.Deep.DeepHandedRow
import Derived.Deep.DeepWitnessRowRef
import Derived.Deep.DeepLaidRun
import Derived.Lib.LaidTab
import Derived.Test.YtdaggbpeoldmeaaGreatDoorM4
import Derived.Lib.Mul64
import Derived.Test.YtdaggbpeoldmeaaGreatDoorM2
set_option linter.unusedVariables false
set_option maxRecDepth 100000
namespace Go.Proofs.YtdaggbpeoldmeaaGreatDoor.laws
open Go.ChangeShapes Go.WideShapes Go.ChangeAt Go.RowKit Go.Ae
open Go.ChangeMaps (open_string shut_string)
section
variable {H : Type} {enc : TypeId × Value → H} {P : Program}
/-- What a law's row asks behind the call: what lay has not turned. -/
theorem post_below {f : Func} {s : ChangeSpec} {apart fresh handsOn again : Bool} {W W' : World} {args : Array Value} {v : Value} {ds gs : List (DataW H)} {before pa pv : List MemPlace}
    (hW : DataW.Whole enc P f.params.toList s.vars apart W args.toList ds gs before)
    (hres : ∀ (b : Nat) (sp : Nat → Bool) (hd : Bool), DataW.TrodAll enc P W' b sp hd f.resultTypes.toList (v.resultList f.resultTypes.size) (s.fn H (ds ++ gs)).results [])
    (hargs : ∀ sp : Nat → Bool, (∀ p ∈ before, sp p.block = true) → DataW.TrodAll enc P W' 0 sp true f.params.toList args.toList (s.fn H (ds ++ gs)).args pa)
    (hvars : ∀ sp : Nat → Bool, (∀ p ∈ before, sp p.block = true) → DataW.TrodVars enc P W' sp s.vars (s.fn H (ds ++ gs)).vars pv)
    (hps : before = pa ++ pv) (hB : Below W.heap.size W W')
    (hok : ∀ (j : Nat) (t : TypeId) (r : Value), f.resultTypes[j]? = some t → (v.resultList f.resultTypes.size)[j]? = some r → Value.okWide P W' .any 0 t r) :
    s.post enc P f apart fresh handsOn again W args v W' := by
  have hold : ∀ p ∈ before, (fun b => decide (b < W.heap.size)) p.block = true := fun p hp => by simpa using hW.lt p hp
  have hlt := hW.lt
  refine ⟨ds, gs, before, [], pa, pv, hW, hres _ _ _, hargs _ hold, hvars _ hold, World.keptBut_mono (fun p hp => ⟨hp, ?_⟩) (hB.frame (· ∈ before)), fun _ => ?_⟩
  · rw [hps, List.mem_append] at hp
    exact Or.inr hp
  · obtain ⟨_, _, _, _, _, hz, hn⟩ := hW
    refine ⟨hok, _, _, ([] ++ pa) ++ pv, ⟨[] ++ pa, pv, trodAll_append (hargs _ (fun _ _ => rfl)) (hres _ _ _), hvars _ (fun _ _ => rfl), rfl, ?_, ?_⟩, ?_⟩
    · intro b off hp
      have hp' : MemPlace.cell b off ∈ before := by rw [hps]; simpa using hp
      have hb : b < W.heap.size := hlt _ hp'
      have e : W'.frozen? ⟨b, off, none⟩ = W.frozen? ⟨b, off, none⟩ := by
        simp only [World.frozen?, hB.block b hb]
      rw [e]
      exact hz b off hp'
    · intro ha
      have := hn ha
      rw [hps] at this
      simpa using this
    · intro p hp _
      rw [hps]
      simpa using hp
end
theorem own : ownKnob Tryz.prog.godebug = none := by kernel_rfl
theorem gPow : Tryz.prog.globalNamed "internal/strconv.uint64pow10" = some 5 := by kernel_rfl
theorem gPowType : (Tryz.prog.globals[5]?).map (·.type) = some 343 := by kernel_rfl
theorem cells343 : Tryz.prog.cellsOf 343 = 20 := by kernel_rfl
theorem cells278 : Tryz.prog.cellsOf 278 = 1 := by kernel_rfl
/-- What the rows' list gives: the powers of ten; and the start's cell. -/
theorem glob {W : World} {l : List (String × DataW Unit)} (hL : laidMetH Tryz.prog l W) (hl : (l.filter fun x => x.1 == "internal/strconv.uint64pow10") = [("internal/strconv.uint64pow10", Lib.tabData .u64 Lib.pow10Tab)]) (hO : W.ShapedOpen Tryz.prog) : L.Glob W W.heap.size := by
  have h1 := laidMetH.filter (fun x => x.1 == "internal/strconv.uint64pow10") hL
  rw [hl, MakeChecks.laidMetH_plain _ _ _ (by kernel_rfl)] at h1
  obtain ⟨m, hm⟩ := Tryz.laysM145.s1_3 W hO
  have hm' : W.cell? ⟨0, 0, none⟩ = some (.int .i64 m) := hm
  refine ⟨Nat.le_refl _, Lib.tabBelow_of_tabIs (Lib.tabIs_of_head gPow gPowType Tryz.underlying343 Tryz.underlying278 cells278 cells343 h1), ?_, m, hm'⟩
  rcases Nat.eq_zero_or_pos W.heap.size with h0 | h0
  · simp [World.cell?, Array.getElem?_eq_none (show W.heap.size ≤ 0 by omega)] at hm'
  · exact h0
/-! A start at which the variables read as listed. -/
def leaf : DataW Unit → List Value
  | .lit (.int k n) => [.int k n]
  | _ => []
def row : DataW Unit → List Value
  | .agg l => l.flatMap leaf
  | d => leaf d
def tab : DataW Unit → List Value
  | .agg l => l.flatMap row
  | d => leaf d
/-- So many blocks has the settled world. -/
noncomputable def low : Nat := (World.holding Tryz.prog default ⟨#[], #[], []⟩).heap.size
def putG (h : Array Obj) (g : Nat) (cs : Array Value) : Array Obj := h.modify g fun
  | .cells _ t frozen => .cells cs t frozen
  | o => o
noncomputable def laidWorld (os : Os) : World :=
  let w0 := World.holding Tryz.prog os ⟨#[.cells #[.string ⟨#[105, 110, 118, 97, 108, 105, 100, 32, 115, 121, 110, 116, 97, 120]⟩] 353, .cells #[.string ⟨#[118, 97, 108, 117, 101, 32, 111, 117, 116, 32, 111, 102, 32, 114, 97, 110, 103, 101]⟩] 353], #[], []⟩
  let h1 := putG w0.heap 8 (tab Rows.laid_math_bits_deBruijn32tab).toArray
  let h2 := putG h1 9 (tab Rows.laid_math_bits_deBruijn64tab).toArray
  let h3 := putG h2 5 (tab Rows.laid_internal_strconv_uint64pow10).toArray
  let h4 := putG h3 7 (tab Rows.laid_unicode_utf8_acceptRanges).toArray
  let h5 := putG h4 6 (tab Rows.laid_unicode_utf8_first).toArray
  let h6 := putG h5 3 #[.iface 351 (.pointer (some ⟨low, 0, none⟩))]
  let h7 := putG h6 4 #[.iface 351 (.pointer (some ⟨low + 1, 0, none⟩))]
  { w0 with heap := h7 }
end Go.Proofs.YtdaggbpeoldmeaaGreatDoor.laws


/- Lists in memory: slices of structs, maps of functions. -/
set_option linter.unusedVariables false
set_option linter.unusedSimpArgs false
namespace Go.Ae
noncomputable section
def AV.tok : AV → Nat
  | .sl t _ _ _ => t
  | _ => 0
/-- A slice of n elements of z cells each, laid behind h0 and of one's own. -/
def OwnZ (z : Nat) (h0 h : Hp) (v : AV) (n : Nat) (cs : List AV) : Prop :=
  cs.length = n * z ∧ ((v = .nils ∧ n = 0) ∨ ∃ t st, v = .sl t 0 n z ∧ h.get t = some (.row cs true st) ∧ h0.next ≤ t ∧ t < h.next ∧ st ≤ h.clk)
/-- A slice of n elements of z cells each. -/
def RowS (z : Nat) (h : Hp) (v : AV) (n : Nat) (cs : List AV) : Prop :=
  cs.length = n * z ∧ ((v = .nils ∧ n = 0) ∨ ∃ t own st, v = .sl t 0 n z ∧ h.get t = some (.row cs own st) ∧ t < h.next ∧ st ≤ h.clk)
section
variable {h0 h h' : Hp} {v : AV} {z n b u st : Nat} {cs xs : List AV} {own : Bool} {K : AV → Hp → Prop}
theorem OwnZ.nil : OwnZ z h0 h .nils 0 [] := ⟨by simp, .inl ⟨rfl, rfl⟩⟩
theorem OwnZ.grs (o : OwnZ z h0 h v n cs) (g : Grs h h') : OwnZ z h0 h' v n cs := by
  obtain ⟨hl, o | ⟨t, st, e, hg, h1, h2, h3⟩⟩ := o
  · exact ⟨hl, .inl o⟩
  · exact ⟨hl, .inr ⟨t, st, e, (g.get h2).trans hg, h1, Nat.lt_of_lt_of_le h2 g.next, Nat.le_trans h3 g.clk⟩⟩
theorem RowS.grs (o : RowS z h v n cs) (g : Grs h h') : RowS z h' v n cs := by
  obtain ⟨hl, o | ⟨t, own, st, e, hg, h2, h3⟩⟩ := o
  · exact ⟨hl, .inl o⟩
  · exact ⟨hl, .inr ⟨t, own, st, e, (g.get h2).trans hg, Nat.lt_of_lt_of_le h2 g.next, Nat.le_trans h3 g.clk⟩⟩
theorem OwnZ.row (o : OwnZ z h0 h v n cs) : RowS z h v n cs := by
  obtain ⟨hl, o | ⟨t, st, e, hg, h1, h2, h3⟩⟩ := o
  · exact ⟨hl, .inl o⟩
  · exact ⟨hl, .inr ⟨t, true, st, e, hg, h2, h3⟩⟩
theorem cells_z (hu : h.get u = some (.row xs own st)) (hx : xs.length = z) : cellsOf h z (.sl u 0 1 z) = some xs := by
  simp only [cellsOf, hu]
  rw [if_pos ⟨trivial, by omega⟩, ← hx]
  simp
/-- One element more. -/
theorem OwnZ.app (G : Grs h0 h) (O : OwnZ z h0 h v n cs) (hx : xs.length = z) (hz : 0 < z) (hl : (n + 1) * b ≤ 140737488355328) (hl2 : n + 1 ≤ 140737488355328) :
    ∃ v' h', appA (h.push fun st => .row xs true st) z b v (.sl h.next 0 1 z) = some (v', h') ∧ Grs h0 h' ∧ OwnZ z h0 h' v' (n + 1) (cs ++ xs) := by
  have hc : cellsOf (h.push fun st => .row xs true st) z (.sl h.next 0 1 z) = some xs := cells_z Hp.push_same hx
  have hn0 := G.next
  obtain ⟨hlen, ⟨rfl, rfl⟩ | ⟨t, st, rfl, hg, h1, h2, h3⟩⟩ := O
  · have hcs : cs = [] := List.length_eq_zero_iff.1 (by omega)
    subst hcs
    refine ⟨.sl (h.next + 1) 0 1 z, (h.push fun st => .row xs true st).push fun st => .row xs true st, ?_, G.push.push, by simp [hx], .inr ⟨h.next + 1, (h.push fun st => .row xs true st).clk + 1, rfl, Hp.push_same, by omega, ?_, Nat.le_refl _⟩⟩
    · unfold appA
      rw [hc]
      simp only [lenA]
      rw [if_pos ⟨by omega, by omega, hz⟩]
      rfl
    · show h.next + 1 < h.next + 1 + 1; omega
  · have hgt : (h.push fun st => .row xs true st).get t = some (.row cs true st) := (Hp.push_other (by omega)).trans hg
    refine ⟨.sl (h.next + 1) 0 (n + 1) z, ((h.push fun st => .row xs true st).put t fun s => .dead s).push fun st => .row (cs ++ xs) true st, ?_, (G.push.put h1).push, by simp [hx, hlen, Nat.add_mul], .inr ⟨h.next + 1, ((h.push fun st => .row xs true st).put t fun s => .dead s).clk + 1, rfl, Hp.push_same, by omega, ?_, Nat.le_refl _⟩⟩
    · unfold appA
      rw [hc]
      simp only [lenA]
      rw [hgt]
      simp only
      rw [if_pos ⟨trivial, by omega, hl, hl2⟩]
      simp only [List.drop_zero, ← hlen, List.take_length]
      rfl
    · show h.next + 1 < h.next + 1 + 1; omega
/-- Append of what was laid last, as a step of a walk. -/
theorem OwnZ.wp (hu : u = h.next) (G : Grs h0 h) (O : OwnZ z h0 h v n cs) (hx : xs.length = z) (hz : 0 < z) (hl : (n + 1) * b ≤ 140737488355328) (hl2 : n + 1 ≤ 140737488355328)
    (hk : ∀ v' h', Grs h0 h' → OwnZ z h0 h' v' (n + 1) (cs ++ xs) → K v' h') : Some2 (appA (h.push fun st => .row xs true st) z b v (.sl u 0 1 z)) K := by
  subst hu
  obtain ⟨v', h', e, G', O'⟩ := O.app G hx hz hl hl2
  rw [e]; exact hk v' h' G' O'
end
/-! Code in two pieces: its first n parts, and what stands behind them. -/
def ACode.post : Nat → ACode → ACode
  | 0, c => c
  | n + 1, .seq _ r => r.post n
  | _ + 1, c => c
def ACode.pre : Nat → ACode → ACode
  | 0, _ => .skip
  | n + 1, .seq a r => .seq a (r.pre n)
  | _ + 1, c => c
def ACode.parts : Nat → ACode → Bool
  | 0, _ => true
  | n + 1, .seq _ r => r.parts n
  | _ + 1, _ => false
theorem Wp.cut {E : Env} {Q : Ex → St → Prop} : ∀ (n : Nat) {c : ACode} {s : St}, c.parts n = true → Wp E (c.pre n) s (After E (c.post n) Q) → Wp E c s Q
  | 0, c, s, _, h => Wp.skip_iff.1 h
  | n + 1, c, s, hp, h => by
    cases c with
    | seq a r =>
      have h := Wp.seq_iff.1 (show Wp E (.seq a (r.pre n)) s (After E (r.post n) Q) from h)
      refine Wp.seq (h.mono fun e s' hq => ?_)
      cases e with
      | nrm => exact Wp.cut n hp hq
      | exit i => exact hq
      | ret => exact hq
    | _ => cases hp
/-! The cells of a list of structs. -/
section
variable {α : Type} {f : α → List AV} {k : Nat}
end
/-! Maps. -/
def MupdF (t : Nat) (x : Option (List (AV × AV))) (h : Hp) (K : AV → Hp → Prop) : Prop :=
  match x with
  | some es => K und (h.put t fun s => .amap es s)
  | none => False
def MupdR (k : List UInt8) (t : Nat) (v : AV) (x : Option AObj) (h : Hp) (K : AV → Hp → Prop) : Prop :=
  match x with
  | some (.amap es _) => MupdF t (updA k v es) h K
  | _ => False
def MupdK (m k v : AV) (h : Hp) (K : AV → Hp → Prop) : Prop :=
  match m, k with
  | .map t, .str k => MupdR k t v (h.get t) h K
  | _, _ => False
def LkpF (z : AV) (ok : Bool) (x : Option (Option AV)) (h : Hp) (K : AV → Hp → Prop) : Prop :=
  match x with
  | some (some v) => K (if ok then .tup [v, .bool true] else v) h
  | some none => K (if ok then .tup [z, .bool false] else z) h
  | none => False
def LkpR (k : List UInt8) (z : AV) (ok : Bool) (x : Option AObj) (h : Hp) (K : AV → Hp → Prop) : Prop :=
  match x with
  | some (.amap es _) => LkpF z ok (findA k es) h K
  | _ => False
def LkpK (m k : AV) (z : AV) (ok : Bool) (h : Hp) (K : AV → Hp → Prop) : Prop :=
  match m, k with
  | .map t, .str k => LkpR k z ok (h.get t) h K
  | _, _ => False
section
variable {E : Env} {s : St} {h : Hp} {K : AV → Hp → Prop} {t st : Nat} {k : List UInt8} {v z x y w : AV} {ok : Bool} {es : List (AV × AV)}
theorem w_mupd' {a b c : Opd} : OpWp E (.mupd a b c) s K ↔ MupdK (val s.tm a) (val s.tm b) (val s.tm c) s.hp K := by
  rw [w_mupd]
  simp only [o_mupd, MupdK]
  cases val s.tm a <;> try exact Iff.rfl
  cases val s.tm b <;> try exact Iff.rfl
  rename_i t k
  simp only [MupdR]
  cases s.hp.get t with
  | none => exact Iff.rfl
  | some o =>
    cases o with
    | amap es st =>
      simp only [MupdF]
      cases updA k (val s.tm c) es <;> exact Iff.rfl
    | _ => exact Iff.rfl
theorem w_lkp' {a b : Opd} : OpWp E (.lkp a b z ok) s K ↔ LkpK (val s.tm a) (val s.tm b) z ok s.hp K := by
  rw [w_lkp]
  simp only [o_lkp, LkpK]
  cases val s.tm a <;> try exact Iff.rfl
  cases val s.tm b <;> try exact Iff.rfl
  rename_i t k
  simp only [LkpR]
  cases s.hp.get t with
  | none => exact Iff.rfl
  | some o =>
    cases o with
    | amap es st =>
      simp only [LkpF]
      cases findA k es with
      | none => exact Iff.rfl
      | some r => cases r <;> exact Iff.rfl
    | _ => exact Iff.rfl
theorem MupdK.r : MupdK (.map t) (.str k) v h K ↔ MupdR k t v (h.get t) h K := Iff.rfl
theorem MupdR.row : MupdR k t v (some (.amap es st)) h K ↔ MupdF t (updA k v es) h K := Iff.rfl
theorem MupdF.som : MupdF t (some es) h K ↔ K und (h.put t fun s => .amap es s) := Iff.rfl
theorem LkpK.r : LkpK (.map t) (.str k) z ok h K ↔ LkpR k z ok (h.get t) h K := Iff.rfl
theorem LkpR.row : LkpR k z ok (some (.amap es st)) h K ↔ LkpF z ok (findA k es) h K := Iff.rfl
theorem LkpF.tt : LkpF z true (some (some v)) h K ↔ K (.tup [v, .bool true]) h := Iff.rfl
theorem LkpF.tf : LkpF z true (some none) h K ↔ K (.tup [z, .bool false]) h := Iff.rfl
theorem LkpF.ft : LkpF z false (some (some v)) h K ↔ K v h := Iff.rfl
theorem LkpF.ff : LkpF z false (some none) h K ↔ K z h := Iff.rfl
theorem one_nilf : AV.nilf.one = true := rfl
theorem one_nili : AV.nili.one = true := rfl
theorem one_nilp : AV.nilp.one = true := rfl
theorem one_map : (AV.map t).one = true := rfl
theorem cells_map : (AV.map t).cells = [.map t] := rfl
theorem cells_nilf : AV.nilf.cells = [.nilf] := rfl
attribute [go_sem] w_app one_nilf one_nili one_nilp one_map cells_map cells_nilf w_mkmap w_mupd' w_lkp' MupdK.r MupdR.row MupdF.som LkpK.r LkpR.row LkpF.tt LkpF.tf LkpF.ft LkpF.ff
end
end
end Go.Ae


/- Clocks: the functions of the program and of the reference that print times. -/
set_option linter.unusedVariables false
set_option linter.unusedSimpArgs false
set_option maxRecDepth 100000
namespace Go.Ae
open N Go.Proofs
section
variable {h : Hp} {K : AV → Hp → Prop}
theorem c17 : CallWp E2 17 [] h K ↔ K (.bool true) h := by
  rw [CallWp.prim_iff (p := fun args h => match pAwake args with | some v => some (v, h) | none => none) rfl rfl]; exact Iff.rfl
theorem c186 {n k : Nat} (hn : n ≤ 9223372036854775807) (hk : k ≤ 1000) : CallWp E2 186 [.int .i64 n, .int .i64 k] h K ↔ K (.str (decP n k)) h := by
  refine CallWp.iff_of (CallWp.fn (fn := C.a186) rfl rfl rfl ?_)
  have hlen : (decP n k).length ≤ 19 + k := decP_len 19 (by omega)
  unfold C.a186
  simp (disch := first | assumption | omega | (simp only [List.length_cons, List.length_nil, List.length_append, List.length_map, List.length_take, List.length_drop, List.length_replicate]; omega)) only [not_true_eq_false, not_false_eq_true, decide_true, decide_false, ↓reduceIte, Nat.reduceEqDiff, Nat.reduceAdd, Nat.reduceBEq, Wp.seq_iff, Wp.block_iff, Wp.skip_iff, Wp.ret_iff, Wp.exit_iff, Wp.cond_iff, Wp.nil_iff, Wp.op_iff, Wp.grd_iff, Wp.dreg_iff, Wp.dnil_iff, Wp.dop_iff, Wp.dgrd_iff, After, InBlock, Round, Then, DThen, DOp.some_iff, noted_n, noted_s, NoteK.ptr, List.all_nil, List.all_cons, fresh_eq, val_k, val_set, val_nil, put_some, put_none, enter_nil, enter_cons, List.map_cons, List.map_nil, Option.map_some, Option.map_none, resA_tmp, res0, res1, res2, res3, RetQ.ret, RetQ.nrm, ResK.iff, wanted_k, WantK.tt, WantK.tf, WantK.ft, WantK.ff, WantK.und, GrdK.t, GrdK.f, DGrd.t, DGrd.f, CondK.t, CondK.f, decide_nn, Bool.not_true, Bool.not_false, Bool.not_not, w_mv, PickK.t, PickK.f, w_pick, w_alloc, w_bin, w_un, cviA_int, w_cvi, cvsA_str, w_cvs, w_mkI, w_mkF, w_sls, slsK_lo, slsK_hi, slsK_lh, w_idxs, idxK_str, w_len, lenK_str, lenK_sl, lenK_nils, lenK_arr, w_ext, extK_0, extK_1, extK_2, w_fld, fldK_0, fldK_1, fldK_2, fldK_3, fldK_4, w_fadr, fadrK_ptr, w_iadr, iadrK_sl, w_iadrA, iadrAK_ptr, w_load, w_storeK, Some1.iff, Some2.iff, b_add, b_sub, b_mul, b_quoP, b_remP, b_eql, b_neq, b_lss, b_leq, b_gtr, b_geq, b_sadd, b_seql, b_sneq, b_inil, u_not, u_neg, wrap_i64, wrap_u64, wrap_u8, wrap_i32, w_mx2, w_mn2, max2A_int, min2A_int, cells_int, cells_bool, cells_str, cells_ptr, cells_sl, cells_nils, cells_fn, cells_agg, one_int, one_bool, one_str, one_ptr, one_sl, one_nils, one_fn, OpWp.callF_iff, OpWp.callV_iff, CallVK.fn, OpWp.inv_iff, CondK.posN, PickK.posN, WantK.posN_t, WantK.posN_f, CondK.pos, CondK.neg, PickK.pos, PickK.neg, WantK.pos_t, WantK.neg_t, WantK.pos_f, WantK.neg_f]
  refine Wp.loopI (fun m s => ∃ (n' : Nat) (l : List UInt8), val s.tm (.t 0) = .int .i64 n' ∧ val s.tm (.t 1) = .int .i64 k ∧ val s.tm (.t 5) = .str l ∧ s.hp = h ∧ n' ≤ n ∧ decP n' (k - l.length) ++ l = decP n k ∧ m = n' + (k - l.length)) (n := n + k) ?_ ?_
  · exact ⟨n, [], by simp (disch := first | assumption | omega | (simp only [List.length_cons, List.length_nil, List.length_append, List.length_map, List.length_take, List.length_drop, List.length_replicate]; omega)) only [not_true_eq_false, not_false_eq_true, decide_true, decide_false, ↓reduceIte, Nat.reduceEqDiff, Nat.reduceAdd, Nat.reduceBEq, Wp.seq_iff, Wp.block_iff, Wp.skip_iff, Wp.ret_iff, Wp.exit_iff, Wp.cond_iff, Wp.nil_iff, Wp.op_iff, Wp.grd_iff, Wp.dreg_iff, Wp.dnil_iff, Wp.dop_iff, Wp.dgrd_iff, After, InBlock, Round, Then, DThen, DOp.some_iff, noted_n, noted_s, NoteK.ptr, List.all_nil, List.all_cons, fresh_eq, val_k, val_set, val_nil, put_some, put_none, enter_nil, enter_cons, List.map_cons, List.map_nil, Option.map_some, Option.map_none, resA_tmp, res0, res1, res2, res3, RetQ.ret, RetQ.nrm, ResK.iff, wanted_k, WantK.tt, WantK.tf, WantK.ft, WantK.ff, WantK.und, GrdK.t, GrdK.f, DGrd.t, DGrd.f, CondK.t, CondK.f, decide_nn, Bool.not_true, Bool.not_false, Bool.not_not, w_mv, PickK.t, PickK.f, w_pick, w_alloc, w_bin, w_un, cviA_int, w_cvi, cvsA_str, w_cvs, w_mkI, w_mkF, w_sls, slsK_lo, slsK_hi, slsK_lh, w_idxs, idxK_str, w_len, lenK_str, lenK_sl, lenK_nils, lenK_arr, w_ext, extK_0, extK_1, extK_2, w_fld, fldK_0, fldK_1, fldK_2, fldK_3, fldK_4, w_fadr, fadrK_ptr, w_iadr, iadrK_sl, w_iadrA, iadrAK_ptr, w_load, w_storeK, Some1.iff, Some2.iff, b_add, b_sub, b_mul, b_quoP, b_remP, b_eql, b_neq, b_lss, b_leq, b_gtr, b_geq, b_sadd, b_seql, b_sneq, b_inil, u_not, u_neg, wrap_i64, wrap_u64, wrap_u8, wrap_i32, w_mx2, w_mn2, max2A_int, min2A_int, cells_int, cells_bool, cells_str, cells_ptr, cells_sl, cells_nils, cells_fn, cells_agg, one_int, one_bool, one_str, one_ptr, one_sl, one_nils, one_fn, OpWp.callF_iff, OpWp.callV_iff, CallVK.fn, OpWp.inv_iff, CondK.posN, PickK.posN, WantK.posN_t, WantK.posN_f, CondK.pos, CondK.neg, PickK.pos, PickK.neg, WantK.pos_t, WantK.neg_t, WantK.pos_f, WantK.neg_f], by simp (disch := first | assumption | omega | (simp only [List.length_cons, List.length_nil, List.length_append, List.length_map, List.length_take, List.length_drop, List.length_replicate]; omega)) only [not_true_eq_false, not_false_eq_true, decide_true, decide_false, ↓reduceIte, Nat.reduceEqDiff, Nat.reduceAdd, Nat.reduceBEq, Wp.seq_iff, Wp.block_iff, Wp.skip_iff, Wp.ret_iff, Wp.exit_iff, Wp.cond_iff, Wp.nil_iff, Wp.op_iff, Wp.grd_iff, Wp.dreg_iff, Wp.dnil_iff, Wp.dop_iff, Wp.dgrd_iff, After, InBlock, Round, Then, DThen, DOp.some_iff, noted_n, noted_s, NoteK.ptr, List.all_nil, List.all_cons, fresh_eq, val_k, val_set, val_nil, put_some, put_none, enter_nil, enter_cons, List.map_cons, List.map_nil, Option.map_some, Option.map_none, resA_tmp, res0, res1, res2, res3, RetQ.ret, RetQ.nrm, ResK.iff, wanted_k, WantK.tt, WantK.tf, WantK.ft, WantK.ff, WantK.und, GrdK.t, GrdK.f, DGrd.t, DGrd.f, CondK.t, CondK.f, decide_nn, Bool.not_true, Bool.not_false, Bool.not_not, w_mv, PickK.t, PickK.f, w_pick, w_alloc, w_bin, w_un, cviA_int, w_cvi, cvsA_str, w_cvs, w_mkI, w_mkF, w_sls, slsK_lo, slsK_hi, slsK_lh, w_idxs, idxK_str, w_len, lenK_str, lenK_sl, lenK_nils, lenK_arr, w_ext, extK_0, extK_1, extK_2, w_fld, fldK_0, fldK_1, fldK_2, fldK_3, fldK_4, w_fadr, fadrK_ptr, w_iadr, iadrK_sl, w_iadrA, iadrAK_ptr, w_load, w_storeK, Some1.iff, Some2.iff, b_add, b_sub, b_mul, b_quoP, b_remP, b_eql, b_neq, b_lss, b_leq, b_gtr, b_geq, b_sadd, b_seql, b_sneq, b_inil, u_not, u_neg, wrap_i64, wrap_u64, wrap_u8, wrap_i32, w_mx2, w_mn2, max2A_int, min2A_int, cells_int, cells_bool, cells_str, cells_ptr, cells_sl, cells_nils, cells_fn, cells_agg, one_int, one_bool, one_str, one_ptr, one_sl, one_nils, one_fn, OpWp.callF_iff, OpWp.callV_iff, CallVK.fn, OpWp.inv_iff, CondK.posN, PickK.posN, WantK.posN_t, WantK.posN_f, CondK.pos, CondK.neg, PickK.pos, PickK.neg, WantK.pos_t, WantK.neg_t, WantK.pos_f, WantK.neg_f], by simp (disch := first | assumption | omega | (simp only [List.length_cons, List.length_nil, List.length_append, List.length_map, List.length_take, List.length_drop, List.length_replicate]; omega)) only [not_true_eq_false, not_false_eq_true, decide_true, decide_false, ↓reduceIte, Nat.reduceEqDiff, Nat.reduceAdd, Nat.reduceBEq, Wp.seq_iff, Wp.block_iff, Wp.skip_iff, Wp.ret_iff, Wp.exit_iff, Wp.cond_iff, Wp.nil_iff, Wp.op_iff, Wp.grd_iff, Wp.dreg_iff, Wp.dnil_iff, Wp.dop_iff, Wp.dgrd_iff, After, InBlock, Round, Then, DThen, DOp.some_iff, noted_n, noted_s, NoteK.ptr, List.all_nil, List.all_cons, fresh_eq, val_k, val_set, val_nil, put_some, put_none, enter_nil, enter_cons, List.map_cons, List.map_nil, Option.map_some, Option.map_none, resA_tmp, res0, res1, res2, res3, RetQ.ret, RetQ.nrm, ResK.iff, wanted_k, WantK.tt, WantK.tf, WantK.ft, WantK.ff, WantK.und, GrdK.t, GrdK.f, DGrd.t, DGrd.f, CondK.t, CondK.f, decide_nn, Bool.not_true, Bool.not_false, Bool.not_not, w_mv, PickK.t, PickK.f, w_pick, w_alloc, w_bin, w_un, cviA_int, w_cvi, cvsA_str, w_cvs, w_mkI, w_mkF, w_sls, slsK_lo, slsK_hi, slsK_lh, w_idxs, idxK_str, w_len, lenK_str, lenK_sl, lenK_nils, lenK_arr, w_ext, extK_0, extK_1, extK_2, w_fld, fldK_0, fldK_1, fldK_2, fldK_3, fldK_4, w_fadr, fadrK_ptr, w_iadr, iadrK_sl, w_iadrA, iadrAK_ptr, w_load, w_storeK, Some1.iff, Some2.iff, b_add, b_sub, b_mul, b_quoP, b_remP, b_eql, b_neq, b_lss, b_leq, b_gtr, b_geq, b_sadd, b_seql, b_sneq, b_inil, u_not, u_neg, wrap_i64, wrap_u64, wrap_u8, wrap_i32, w_mx2, w_mn2, max2A_int, min2A_int, cells_int, cells_bool, cells_str, cells_ptr, cells_sl, cells_nils, cells_fn, cells_agg, one_int, one_bool, one_str, one_ptr, one_sl, one_nils, one_fn, OpWp.callF_iff, OpWp.callV_iff, CallVK.fn, OpWp.inv_iff, CondK.posN, PickK.posN, WantK.posN_t, WantK.posN_f, CondK.pos, CondK.neg, PickK.pos, PickK.neg, WantK.pos_t, WantK.neg_t, WantK.pos_f, WantK.neg_f], rfl, Nat.le_refl _, by simp, by simp⟩
  · rintro m ⟨tm, hp⟩ ⟨n', l, h0, h1, h5, rfl, hle, heq, rfl⟩
    simp only at h0 h1 h5
    have hl : l.length ≤ (decP n k).length := by rw [← heq, List.length_append]; omega
    have hs : List.drop ((n' : Int) % 10).toNat (List.take ((n' : Int) % 10 + 1).toNat [48, 49, 50, 51, 52, 53, 54, 55, 56, 57]) = [dg n'] := by
      rw [show ((n' : Int) % 10).toNat = n' % 10 by omega, show ((n' : Int) % 10 + 1).toNat = n' % 10 + 1 by omega]; exact dg_slice
    have hdiv : (n' : Int) / 10 = (n' / 10 : Nat) := by omega
    have hbad : ¬ (n' = 0 ∧ k - l.length = 0) → decP (n' / 10) (k - (dg n' :: l).length) ++ dg n' :: l = decP n k := fun hne => by
      rw [← heq, decP_step hne, List.append_assoc, List.length_cons, Nat.sub_sub]; rfl
    repeat' (with_reducible first | simp (disch := first | assumption | omega | (simp only [List.length_cons, List.length_nil, List.length_append, List.length_map, List.length_take, List.length_drop, List.length_replicate]; omega)) only [not_true_eq_false, not_false_eq_true, decide_true, decide_false, ↓reduceIte, Nat.reduceEqDiff, Nat.reduceAdd, Nat.reduceBEq, Wp.seq_iff, Wp.block_iff, Wp.skip_iff, Wp.ret_iff, Wp.exit_iff, Wp.cond_iff, Wp.nil_iff, Wp.op_iff, Wp.grd_iff, Wp.dreg_iff, Wp.dnil_iff, Wp.dop_iff, Wp.dgrd_iff, After, InBlock, Round, Then, DThen, DOp.some_iff, noted_n, noted_s, NoteK.ptr, List.all_nil, List.all_cons, fresh_eq, val_k, val_set, val_nil, put_some, put_none, enter_nil, enter_cons, List.map_cons, List.map_nil, Option.map_some, Option.map_none, resA_tmp, res0, res1, res2, res3, RetQ.ret, RetQ.nrm, ResK.iff, wanted_k, WantK.tt, WantK.tf, WantK.ft, WantK.ff, WantK.und, GrdK.t, GrdK.f, DGrd.t, DGrd.f, CondK.t, CondK.f, decide_nn, Bool.not_true, Bool.not_false, Bool.not_not, w_mv, PickK.t, PickK.f, w_pick, w_alloc, w_bin, w_un, cviA_int, w_cvi, cvsA_str, w_cvs, w_mkI, w_mkF, w_sls, slsK_lo, slsK_hi, slsK_lh, w_idxs, idxK_str, w_len, lenK_str, lenK_sl, lenK_nils, lenK_arr, w_ext, extK_0, extK_1, extK_2, w_fld, fldK_0, fldK_1, fldK_2, fldK_3, fldK_4, w_fadr, fadrK_ptr, w_iadr, iadrK_sl, w_iadrA, iadrAK_ptr, w_load, w_storeK, Some1.iff, Some2.iff, b_add, b_sub, b_mul, b_quoP, b_remP, b_eql, b_neq, b_lss, b_leq, b_gtr, b_geq, b_sadd, b_seql, b_sneq, b_inil, u_not, u_neg, wrap_i64, wrap_u64, wrap_u8, wrap_i32, w_mx2, w_mn2, max2A_int, min2A_int, cells_int, cells_bool, cells_str, cells_ptr, cells_sl, cells_nils, cells_fn, cells_agg, one_int, one_bool, one_str, one_ptr, one_sl, one_nils, one_fn, OpWp.callF_iff, OpWp.callV_iff, CallVK.fn, OpWp.inv_iff, CondK.posN, PickK.posN, WantK.posN_t, WantK.posN_f, CondK.pos, CondK.neg, PickK.pos, PickK.neg, WantK.pos_t, WantK.neg_t, WantK.pos_f, WantK.neg_f, h0, h1, h5, hs, List.cons_append, List.nil_append] | refine CondK.decN (fun hc => ?_) (fun hc => ?_) | refine GrdK.decN (fun hc => ?_) (fun hc => ?_) | refine PickK.decN (fun hc => ?_) (fun hc => ?_) | refine CondK.dec (fun hc => ?_) (fun hc => ?_) | refine GrdK.dec (fun hc => ?_) (fun hc => ?_) | refine PickK.dec (fun hc => ?_) (fun hc => ?_))
    · refine ⟨_, ?_, n' / 10, dg n' :: l, ?_, ?_, ?_, trivial, ?_, hbad (by omega), rfl⟩
      · simp only [List.length_cons]; omega
      · rw [hdiv]
      · first | exact h1 | trivial
      · trivial
      · omega
    · refine ⟨_, ?_, n' / 10, dg n' :: l, ?_, ?_, ?_, trivial, ?_, hbad (by omega), rfl⟩
      · simp only [List.length_cons]; omega
      · rw [hdiv]
      · first | exact h1 | trivial
      · trivial
      · omega
    · rw [← heq, show n' = 0 by omega, show k - l.length = 0 by omega, decP_zero]
      exact ⟨rfl, trivial⟩
/-! What the statement compares. -/
/-! The reference's readers of numbers. -/
theorem dig_of {b : UInt8} : isDig b = decide (¬ ((b.toNat : Int) < 48) ∧ ¬ (57 < (b.toNat : Int))) := by
  unfold isDig; congr 1; rw [eq_iff_iff]; omega
theorem c151 {s : List UInt8} (hs : s.length ≤ 1000000) : CallWp E2 151 [.str s] h K ↔ K (.bool (allDig s)) h := by
  refine CallWp.iff_of (CallWp.fn (fn := C.a151) rfl rfl rfl ?_)
  unfold C.a151
  simp (disch := first | assumption | omega | (simp only [List.length_cons, List.length_nil, List.length_append, List.length_map, List.length_take, List.length_drop, List.length_replicate]; omega)) only [not_true_eq_false, not_false_eq_true, decide_true, decide_false, ↓reduceIte, Nat.reduceEqDiff, Nat.reduceAdd, Nat.reduceBEq, Wp.seq_iff, Wp.block_iff, Wp.skip_iff, Wp.ret_iff, Wp.exit_iff, Wp.cond_iff, Wp.nil_iff, Wp.op_iff, Wp.grd_iff, Wp.dreg_iff, Wp.dnil_iff, Wp.dop_iff, Wp.dgrd_iff, After, InBlock, Round, Then, DThen, DOp.some_iff, noted_n, noted_s, NoteK.ptr, List.all_nil, List.all_cons, fresh_eq, val_k, val_set, val_nil, put_some, put_none, enter_nil, enter_cons, List.map_cons, List.map_nil, Option.map_some, Option.map_none, resA_tmp, res0, res1, res2, res3, RetQ.ret, RetQ.nrm, ResK.iff, wanted_k, WantK.tt, WantK.tf, WantK.ft, WantK.ff, WantK.und, GrdK.t, GrdK.f, DGrd.t, DGrd.f, CondK.t, CondK.f, decide_nn, Bool.not_true, Bool.not_false, Bool.not_not, w_mv, PickK.t, PickK.f, w_pick, w_alloc, w_bin, w_un, cviA_int, w_cvi, cvsA_str, w_cvs, w_mkI, w_mkF, w_sls, slsK_lo, slsK_hi, slsK_lh, w_idxs, idxK_str, w_len, lenK_str, lenK_sl, lenK_nils, lenK_arr, w_ext, extK_0, extK_1, extK_2, w_fld, fldK_0, fldK_1, fldK_2, fldK_3, fldK_4, w_fadr, fadrK_ptr, w_iadr, iadrK_sl, w_iadrA, iadrAK_ptr, w_load, w_storeK, Some1.iff, Some2.iff, b_add, b_sub, b_mul, b_quoP, b_remP, b_eql, b_neq, b_lss, b_leq, b_gtr, b_geq, b_sadd, b_seql, b_sneq, b_inil, u_not, u_neg, wrap_i64, wrap_u64, wrap_u8, wrap_i32, w_mx2, w_mn2, max2A_int, min2A_int, cells_int, cells_bool, cells_str, cells_ptr, cells_sl, cells_nils, cells_fn, cells_agg, one_int, one_bool, one_str, one_ptr, one_sl, one_nils, one_fn, OpWp.callF_iff, OpWp.callV_iff, CallVK.fn, OpWp.inv_iff, CondK.posN, PickK.posN, WantK.posN_t, WantK.posN_f, CondK.pos, CondK.neg, PickK.pos, PickK.neg, WantK.pos_t, WantK.neg_t, WantK.pos_f, WantK.neg_f]
  refine Wp.loopI (fun m st => ∃ i : Nat, val st.tm (.t 0) = .str s ∧ val st.tm (.t 3) = .int .i64 i ∧ st.hp = h ∧ i ≤ s.length ∧ allDig (s.take i) = true ∧ m = s.length - i) (n := s.length) ?_ ?_
  · exact ⟨0, by simp (disch := first | assumption | omega | (simp only [List.length_cons, List.length_nil, List.length_append, List.length_map, List.length_take, List.length_drop, List.length_replicate]; omega)) only [not_true_eq_false, not_false_eq_true, decide_true, decide_false, ↓reduceIte, Nat.reduceEqDiff, Nat.reduceAdd, Nat.reduceBEq, Wp.seq_iff, Wp.block_iff, Wp.skip_iff, Wp.ret_iff, Wp.exit_iff, Wp.cond_iff, Wp.nil_iff, Wp.op_iff, Wp.grd_iff, Wp.dreg_iff, Wp.dnil_iff, Wp.dop_iff, Wp.dgrd_iff, After, InBlock, Round, Then, DThen, DOp.some_iff, noted_n, noted_s, NoteK.ptr, List.all_nil, List.all_cons, fresh_eq, val_k, val_set, val_nil, put_some, put_none, enter_nil, enter_cons, List.map_cons, List.map_nil, Option.map_some, Option.map_none, resA_tmp, res0, res1, res2, res3, RetQ.ret, RetQ.nrm, ResK.iff, wanted_k, WantK.tt, WantK.tf, WantK.ft, WantK.ff, WantK.und, GrdK.t, GrdK.f, DGrd.t, DGrd.f, CondK.t, CondK.f, decide_nn, Bool.not_true, Bool.not_false, Bool.not_not, w_mv, PickK.t, PickK.f, w_pick, w_alloc, w_bin, w_un, cviA_int, w_cvi, cvsA_str, w_cvs, w_mkI, w_mkF, w_sls, slsK_lo, slsK_hi, slsK_lh, w_idxs, idxK_str, w_len, lenK_str, lenK_sl, lenK_nils, lenK_arr, w_ext, extK_0, extK_1, extK_2, w_fld, fldK_0, fldK_1, fldK_2, fldK_3, fldK_4, w_fadr, fadrK_ptr, w_iadr, iadrK_sl, w_iadrA, iadrAK_ptr, w_load, w_storeK, Some1.iff, Some2.iff, b_add, b_sub, b_mul, b_quoP, b_remP, b_eql, b_neq, b_lss, b_leq, b_gtr, b_geq, b_sadd, b_seql, b_sneq, b_inil, u_not, u_neg, wrap_i64, wrap_u64, wrap_u8, wrap_i32, w_mx2, w_mn2, max2A_int, min2A_int, cells_int, cells_bool, cells_str, cells_ptr, cells_sl, cells_nils, cells_fn, cells_agg, one_int, one_bool, one_str, one_ptr, one_sl, one_nils, one_fn, OpWp.callF_iff, OpWp.callV_iff, CallVK.fn, OpWp.inv_iff, CondK.posN, PickK.posN, WantK.posN_t, WantK.posN_f, CondK.pos, CondK.neg, PickK.pos, PickK.neg, WantK.pos_t, WantK.neg_t, WantK.pos_f, WantK.neg_f], by (simp (disch := first | assumption | omega | (simp only [List.length_cons, List.length_nil, List.length_append, List.length_map, List.length_take, List.length_drop, List.length_replicate]; omega)) only [not_true_eq_false, not_false_eq_true, decide_true, decide_false, ↓reduceIte, Nat.reduceEqDiff, Nat.reduceAdd, Nat.reduceBEq, Wp.seq_iff, Wp.block_iff, Wp.skip_iff, Wp.ret_iff, Wp.exit_iff, Wp.cond_iff, Wp.nil_iff, Wp.op_iff, Wp.grd_iff, Wp.dreg_iff, Wp.dnil_iff, Wp.dop_iff, Wp.dgrd_iff, After, InBlock, Round, Then, DThen, DOp.some_iff, noted_n, noted_s, NoteK.ptr, List.all_nil, List.all_cons, fresh_eq, val_k, val_set, val_nil, put_some, put_none, enter_nil, enter_cons, List.map_cons, List.map_nil, Option.map_some, Option.map_none, resA_tmp, res0, res1, res2, res3, RetQ.ret, RetQ.nrm, ResK.iff, wanted_k, WantK.tt, WantK.tf, WantK.ft, WantK.ff, WantK.und, GrdK.t, GrdK.f, DGrd.t, DGrd.f, CondK.t, CondK.f, decide_nn, Bool.not_true, Bool.not_false, Bool.not_not, w_mv, PickK.t, PickK.f, w_pick, w_alloc, w_bin, w_un, cviA_int, w_cvi, cvsA_str, w_cvs, w_mkI, w_mkF, w_sls, slsK_lo, slsK_hi, slsK_lh, w_idxs, idxK_str, w_len, lenK_str, lenK_sl, lenK_nils, lenK_arr, w_ext, extK_0, extK_1, extK_2, w_fld, fldK_0, fldK_1, fldK_2, fldK_3, fldK_4, w_fadr, fadrK_ptr, w_iadr, iadrK_sl, w_iadrA, iadrAK_ptr, w_load, w_storeK, Some1.iff, Some2.iff, b_add, b_sub, b_mul, b_quoP, b_remP, b_eql, b_neq, b_lss, b_leq, b_gtr, b_geq, b_sadd, b_seql, b_sneq, b_inil, u_not, u_neg, wrap_i64, wrap_u64, wrap_u8, wrap_i32, w_mx2, w_mn2, max2A_int, min2A_int, cells_int, cells_bool, cells_str, cells_ptr, cells_sl, cells_nils, cells_fn, cells_agg, one_int, one_bool, one_str, one_ptr, one_sl, one_nils, one_fn, OpWp.callF_iff, OpWp.callV_iff, CallVK.fn, OpWp.inv_iff, CondK.posN, PickK.posN, WantK.posN_t, WantK.posN_f, CondK.pos, CondK.neg, PickK.pos, PickK.neg, WantK.pos_t, WantK.neg_t, WantK.pos_f, WantK.neg_f]) <;> rfl, rfl, Nat.zero_le _, rfl, rfl⟩
  · rintro m ⟨tm, hp⟩ ⟨i, h0, h3, rfl, hi, had, rfl⟩
    simp only at h0 h3
    by_cases hlt : i < s.length
    · have hlt' : (i : Int) < s.length := by omega
      have htk : s.take (i + 1) = s.take i ++ [s.getD i 0] := by
        rw [List.take_add_one, List.getElem?_eq_getElem hlt, List.getD_eq_getElem?_getD, List.getElem?_eq_getElem hlt]; rfl
      have had' : allDig (s.take (i + 1)) = isDig (s.getD i 0) := by
        unfold allDig at *; rw [htk, List.all_append, had]; simp
      have hno : isDig (s.getD i 0) = false → allDig s = false := fun e => by
        rw [← had'] at e
        cases ha : allDig s with
        | false => rfl
        | true =>
          unfold allDig at *
          rw [List.all_eq_true] at ha
          rw [List.all_eq_false] at e
          obtain ⟨x, hx, hx'⟩ := e
          exact absurd (ha x (List.mem_of_mem_take hx)) hx'
      rw [dig_of] at hno had'
      repeat' (with_reducible first | simp (disch := first | assumption | omega | (simp only [List.length_cons, List.length_nil, List.length_append, List.length_map, List.length_take, List.length_drop, List.length_replicate]; omega)) only [not_true_eq_false, not_false_eq_true, decide_true, decide_false, ↓reduceIte, Nat.reduceEqDiff, Nat.reduceAdd, Nat.reduceBEq, Wp.seq_iff, Wp.block_iff, Wp.skip_iff, Wp.ret_iff, Wp.exit_iff, Wp.cond_iff, Wp.nil_iff, Wp.op_iff, Wp.grd_iff, Wp.dreg_iff, Wp.dnil_iff, Wp.dop_iff, Wp.dgrd_iff, After, InBlock, Round, Then, DThen, DOp.some_iff, noted_n, noted_s, NoteK.ptr, List.all_nil, List.all_cons, fresh_eq, val_k, val_set, val_nil, put_some, put_none, enter_nil, enter_cons, List.map_cons, List.map_nil, Option.map_some, Option.map_none, resA_tmp, res0, res1, res2, res3, RetQ.ret, RetQ.nrm, ResK.iff, wanted_k, WantK.tt, WantK.tf, WantK.ft, WantK.ff, WantK.und, GrdK.t, GrdK.f, DGrd.t, DGrd.f, CondK.t, CondK.f, decide_nn, Bool.not_true, Bool.not_false, Bool.not_not, w_mv, PickK.t, PickK.f, w_pick, w_alloc, w_bin, w_un, cviA_int, w_cvi, cvsA_str, w_cvs, w_mkI, w_mkF, w_sls, slsK_lo, slsK_hi, slsK_lh, w_idxs, idxK_str, w_len, lenK_str, lenK_sl, lenK_nils, lenK_arr, w_ext, extK_0, extK_1, extK_2, w_fld, fldK_0, fldK_1, fldK_2, fldK_3, fldK_4, w_fadr, fadrK_ptr, w_iadr, iadrK_sl, w_iadrA, iadrAK_ptr, w_load, w_storeK, Some1.iff, Some2.iff, b_add, b_sub, b_mul, b_quoP, b_remP, b_eql, b_neq, b_lss, b_leq, b_gtr, b_geq, b_sadd, b_seql, b_sneq, b_inil, u_not, u_neg, wrap_i64, wrap_u64, wrap_u8, wrap_i32, w_mx2, w_mn2, max2A_int, min2A_int, cells_int, cells_bool, cells_str, cells_ptr, cells_sl, cells_nils, cells_fn, cells_agg, one_int, one_bool, one_str, one_ptr, one_sl, one_nils, one_fn, OpWp.callF_iff, OpWp.callV_iff, CallVK.fn, OpWp.inv_iff, CondK.posN, PickK.posN, WantK.posN_t, WantK.posN_f, CondK.pos, CondK.neg, PickK.pos, PickK.neg, WantK.pos_t, WantK.neg_t, WantK.pos_f, WantK.neg_f, h0, h3, Int.toNat_natCast] | refine CondK.decN (fun hc => ?_) (fun hc => ?_) | refine GrdK.decN (fun hc => ?_) (fun hc => ?_) | refine PickK.decN (fun hc => ?_) (fun hc => ?_) | refine CondK.dec (fun hc => ?_) (fun hc => ?_) | refine GrdK.dec (fun hc => ?_) (fun hc => ?_) | refine PickK.dec (fun hc => ?_) (fun hc => ?_))
      · rw [hno (by simp_all)]; simp
      · rw [hno (by simp_all)]; simp
      · refine ⟨_, ?_, i + 1, ?_, ?_, trivial, by omega, ?_, rfl⟩
        · omega
        · first | exact h0 | trivial
        · first | rfl | trivial
        · rw [had']; simp_all
    · have hlt' : ¬ (i : Int) < s.length := by omega
      repeat' (with_reducible first | simp (disch := first | assumption | omega | (simp only [List.length_cons, List.length_nil, List.length_append, List.length_map, List.length_take, List.length_drop, List.length_replicate]; omega)) only [not_true_eq_false, not_false_eq_true, decide_true, decide_false, ↓reduceIte, Nat.reduceEqDiff, Nat.reduceAdd, Nat.reduceBEq, Wp.seq_iff, Wp.block_iff, Wp.skip_iff, Wp.ret_iff, Wp.exit_iff, Wp.cond_iff, Wp.nil_iff, Wp.op_iff, Wp.grd_iff, Wp.dreg_iff, Wp.dnil_iff, Wp.dop_iff, Wp.dgrd_iff, After, InBlock, Round, Then, DThen, DOp.some_iff, noted_n, noted_s, NoteK.ptr, List.all_nil, List.all_cons, fresh_eq, val_k, val_set, val_nil, put_some, put_none, enter_nil, enter_cons, List.map_cons, List.map_nil, Option.map_some, Option.map_none, resA_tmp, res0, res1, res2, res3, RetQ.ret, RetQ.nrm, ResK.iff, wanted_k, WantK.tt, WantK.tf, WantK.ft, WantK.ff, WantK.und, GrdK.t, GrdK.f, DGrd.t, DGrd.f, CondK.t, CondK.f, decide_nn, Bool.not_true, Bool.not_false, Bool.not_not, w_mv, PickK.t, PickK.f, w_pick, w_alloc, w_bin, w_un, cviA_int, w_cvi, cvsA_str, w_cvs, w_mkI, w_mkF, w_sls, slsK_lo, slsK_hi, slsK_lh, w_idxs, idxK_str, w_len, lenK_str, lenK_sl, lenK_nils, lenK_arr, w_ext, extK_0, extK_1, extK_2, w_fld, fldK_0, fldK_1, fldK_2, fldK_3, fldK_4, w_fadr, fadrK_ptr, w_iadr, iadrK_sl, w_iadrA, iadrAK_ptr, w_load, w_storeK, Some1.iff, Some2.iff, b_add, b_sub, b_mul, b_quoP, b_remP, b_eql, b_neq, b_lss, b_leq, b_gtr, b_geq, b_sadd, b_seql, b_sneq, b_inil, u_not, u_neg, wrap_i64, wrap_u64, wrap_u8, wrap_i32, w_mx2, w_mn2, max2A_int, min2A_int, cells_int, cells_bool, cells_str, cells_ptr, cells_sl, cells_nils, cells_fn, cells_agg, one_int, one_bool, one_str, one_ptr, one_sl, one_nils, one_fn, OpWp.callF_iff, OpWp.callV_iff, CallVK.fn, OpWp.inv_iff, CondK.posN, PickK.posN, WantK.posN_t, WantK.posN_f, CondK.pos, CondK.neg, PickK.pos, PickK.neg, WantK.pos_t, WantK.neg_t, WantK.pos_f, WantK.neg_f, h0, h3] | refine CondK.decN (fun hc => ?_) (fun hc => ?_) | refine GrdK.decN (fun hc => ?_) (fun hc => ?_) | refine PickK.decN (fun hc => ?_) (fun hc => ?_) | refine CondK.dec (fun hc => ?_) (fun hc => ?_) | refine GrdK.dec (fun hc => ?_) (fun hc => ?_) | refine PickK.dec (fun hc => ?_) (fun hc => ?_))
      rw [List.take_of_length_le (by omega)] at had
      rw [had]; simp
theorem c153 {s : List UInt8} (hd : allDig s = true) (hs : s.length ≤ 18) : CallWp E2 153 [.str s] h K ↔ K (.int .i64 (decV s)) h := by
  refine CallWp.iff_of (CallWp.fn (fn := C.a153) rfl rfl rfl ?_)
  unfold C.a153
  simp (disch := first | assumption | omega | (simp only [List.length_cons, List.length_nil, List.length_append, List.length_map, List.length_take, List.length_drop, List.length_replicate]; omega)) only [not_true_eq_false, not_false_eq_true, decide_true, decide_false, ↓reduceIte, Nat.reduceEqDiff, Nat.reduceAdd, Nat.reduceBEq, Wp.seq_iff, Wp.block_iff, Wp.skip_iff, Wp.ret_iff, Wp.exit_iff, Wp.cond_iff, Wp.nil_iff, Wp.op_iff, Wp.grd_iff, Wp.dreg_iff, Wp.dnil_iff, Wp.dop_iff, Wp.dgrd_iff, After, InBlock, Round, Then, DThen, DOp.some_iff, noted_n, noted_s, NoteK.ptr, List.all_nil, List.all_cons, fresh_eq, val_k, val_set, val_nil, put_some, put_none, enter_nil, enter_cons, List.map_cons, List.map_nil, Option.map_some, Option.map_none, resA_tmp, res0, res1, res2, res3, RetQ.ret, RetQ.nrm, ResK.iff, wanted_k, WantK.tt, WantK.tf, WantK.ft, WantK.ff, WantK.und, GrdK.t, GrdK.f, DGrd.t, DGrd.f, CondK.t, CondK.f, decide_nn, Bool.not_true, Bool.not_false, Bool.not_not, w_mv, PickK.t, PickK.f, w_pick, w_alloc, w_bin, w_un, cviA_int, w_cvi, cvsA_str, w_cvs, w_mkI, w_mkF, w_sls, slsK_lo, slsK_hi, slsK_lh, w_idxs, idxK_str, w_len, lenK_str, lenK_sl, lenK_nils, lenK_arr, w_ext, extK_0, extK_1, extK_2, w_fld, fldK_0, fldK_1, fldK_2, fldK_3, fldK_4, w_fadr, fadrK_ptr, w_iadr, iadrK_sl, w_iadrA, iadrAK_ptr, w_load, w_storeK, Some1.iff, Some2.iff, b_add, b_sub, b_mul, b_quoP, b_remP, b_eql, b_neq, b_lss, b_leq, b_gtr, b_geq, b_sadd, b_seql, b_sneq, b_inil, u_not, u_neg, wrap_i64, wrap_u64, wrap_u8, wrap_i32, w_mx2, w_mn2, max2A_int, min2A_int, cells_int, cells_bool, cells_str, cells_ptr, cells_sl, cells_nils, cells_fn, cells_agg, one_int, one_bool, one_str, one_ptr, one_sl, one_nils, one_fn, OpWp.callF_iff, OpWp.callV_iff, CallVK.fn, OpWp.inv_iff, CondK.posN, PickK.posN, WantK.posN_t, WantK.posN_f, CondK.pos, CondK.neg, PickK.pos, PickK.neg, WantK.pos_t, WantK.neg_t, WantK.pos_f, WantK.neg_f]
  refine Wp.loopI (fun m st => ∃ i : Nat, val st.tm (.t 0) = .str s ∧ val st.tm (.t 4) = .int .i64 i ∧ val st.tm (.t 3) = .int .i64 (decV (s.take i)) ∧ st.hp = h ∧ i ≤ s.length ∧ m = s.length - i) (n := s.length) ?_ ?_
  · exact ⟨0, by simp (disch := first | assumption | omega | (simp only [List.length_cons, List.length_nil, List.length_append, List.length_map, List.length_take, List.length_drop, List.length_replicate]; omega)) only [not_true_eq_false, not_false_eq_true, decide_true, decide_false, ↓reduceIte, Nat.reduceEqDiff, Nat.reduceAdd, Nat.reduceBEq, Wp.seq_iff, Wp.block_iff, Wp.skip_iff, Wp.ret_iff, Wp.exit_iff, Wp.cond_iff, Wp.nil_iff, Wp.op_iff, Wp.grd_iff, Wp.dreg_iff, Wp.dnil_iff, Wp.dop_iff, Wp.dgrd_iff, After, InBlock, Round, Then, DThen, DOp.some_iff, noted_n, noted_s, NoteK.ptr, List.all_nil, List.all_cons, fresh_eq, val_k, val_set, val_nil, put_some, put_none, enter_nil, enter_cons, List.map_cons, List.map_nil, Option.map_some, Option.map_none, resA_tmp, res0, res1, res2, res3, RetQ.ret, RetQ.nrm, ResK.iff, wanted_k, WantK.tt, WantK.tf, WantK.ft, WantK.ff, WantK.und, GrdK.t, GrdK.f, DGrd.t, DGrd.f, CondK.t, CondK.f, decide_nn, Bool.not_true, Bool.not_false, Bool.not_not, w_mv, PickK.t, PickK.f, w_pick, w_alloc, w_bin, w_un, cviA_int, w_cvi, cvsA_str, w_cvs, w_mkI, w_mkF, w_sls, slsK_lo, slsK_hi, slsK_lh, w_idxs, idxK_str, w_len, lenK_str, lenK_sl, lenK_nils, lenK_arr, w_ext, extK_0, extK_1, extK_2, w_fld, fldK_0, fldK_1, fldK_2, fldK_3, fldK_4, w_fadr, fadrK_ptr, w_iadr, iadrK_sl, w_iadrA, iadrAK_ptr, w_load, w_storeK, Some1.iff, Some2.iff, b_add, b_sub, b_mul, b_quoP, b_remP, b_eql, b_neq, b_lss, b_leq, b_gtr, b_geq, b_sadd, b_seql, b_sneq, b_inil, u_not, u_neg, wrap_i64, wrap_u64, wrap_u8, wrap_i32, w_mx2, w_mn2, max2A_int, min2A_int, cells_int, cells_bool, cells_str, cells_ptr, cells_sl, cells_nils, cells_fn, cells_agg, one_int, one_bool, one_str, one_ptr, one_sl, one_nils, one_fn, OpWp.callF_iff, OpWp.callV_iff, CallVK.fn, OpWp.inv_iff, CondK.posN, PickK.posN, WantK.posN_t, WantK.posN_f, CondK.pos, CondK.neg, PickK.pos, PickK.neg, WantK.pos_t, WantK.neg_t, WantK.pos_f, WantK.neg_f], by (simp (disch := first | assumption | omega | (simp only [List.length_cons, List.length_nil, List.length_append, List.length_map, List.length_take, List.length_drop, List.length_replicate]; omega)) only [not_true_eq_false, not_false_eq_true, decide_true, decide_false, ↓reduceIte, Nat.reduceEqDiff, Nat.reduceAdd, Nat.reduceBEq, Wp.seq_iff, Wp.block_iff, Wp.skip_iff, Wp.ret_iff, Wp.exit_iff, Wp.cond_iff, Wp.nil_iff, Wp.op_iff, Wp.grd_iff, Wp.dreg_iff, Wp.dnil_iff, Wp.dop_iff, Wp.dgrd_iff, After, InBlock, Round, Then, DThen, DOp.some_iff, noted_n, noted_s, NoteK.ptr, List.all_nil, List.all_cons, fresh_eq, val_k, val_set, val_nil, put_some, put_none, enter_nil, enter_cons, List.map_cons, List.map_nil, Option.map_some, Option.map_none, resA_tmp, res0, res1, res2, res3, RetQ.ret, RetQ.nrm, ResK.iff, wanted_k, WantK.tt, WantK.tf, WantK.ft, WantK.ff, WantK.und, GrdK.t, GrdK.f, DGrd.t, DGrd.f, CondK.t, CondK.f, decide_nn, Bool.not_true, Bool.not_false, Bool.not_not, w_mv, PickK.t, PickK.f, w_pick, w_alloc, w_bin, w_un, cviA_int, w_cvi, cvsA_str, w_cvs, w_mkI, w_mkF, w_sls, slsK_lo, slsK_hi, slsK_lh, w_idxs, idxK_str, w_len, lenK_str, lenK_sl, lenK_nils, lenK_arr, w_ext, extK_0, extK_1, extK_2, w_fld, fldK_0, fldK_1, fldK_2, fldK_3, fldK_4, w_fadr, fadrK_ptr, w_iadr, iadrK_sl, w_iadrA, iadrAK_ptr, w_load, w_storeK, Some1.iff, Some2.iff, b_add, b_sub, b_mul, b_quoP, b_remP, b_eql, b_neq, b_lss, b_leq, b_gtr, b_geq, b_sadd, b_seql, b_sneq, b_inil, u_not, u_neg, wrap_i64, wrap_u64, wrap_u8, wrap_i32, w_mx2, w_mn2, max2A_int, min2A_int, cells_int, cells_bool, cells_str, cells_ptr, cells_sl, cells_nils, cells_fn, cells_agg, one_int, one_bool, one_str, one_ptr, one_sl, one_nils, one_fn, OpWp.callF_iff, OpWp.callV_iff, CallVK.fn, OpWp.inv_iff, CondK.posN, PickK.posN, WantK.posN_t, WantK.posN_f, CondK.pos, CondK.neg, PickK.pos, PickK.neg, WantK.pos_t, WantK.neg_t, WantK.pos_f, WantK.neg_f]) <;> rfl, by (simp (disch := first | assumption | omega | (simp only [List.length_cons, List.length_nil, List.length_append, List.length_map, List.length_take, List.length_drop, List.length_replicate]; omega)) only [not_true_eq_false, not_false_eq_true, decide_true, decide_false, ↓reduceIte, Nat.reduceEqDiff, Nat.reduceAdd, Nat.reduceBEq, Wp.seq_iff, Wp.block_iff, Wp.skip_iff, Wp.ret_iff, Wp.exit_iff, Wp.cond_iff, Wp.nil_iff, Wp.op_iff, Wp.grd_iff, Wp.dreg_iff, Wp.dnil_iff, Wp.dop_iff, Wp.dgrd_iff, After, InBlock, Round, Then, DThen, DOp.some_iff, noted_n, noted_s, NoteK.ptr, List.all_nil, List.all_cons, fresh_eq, val_k, val_set, val_nil, put_some, put_none, enter_nil, enter_cons, List.map_cons, List.map_nil, Option.map_some, Option.map_none, resA_tmp, res0, res1, res2, res3, RetQ.ret, RetQ.nrm, ResK.iff, wanted_k, WantK.tt, WantK.tf, WantK.ft, WantK.ff, WantK.und, GrdK.t, GrdK.f, DGrd.t, DGrd.f, CondK.t, CondK.f, decide_nn, Bool.not_true, Bool.not_false, Bool.not_not, w_mv, PickK.t, PickK.f, w_pick, w_alloc, w_bin, w_un, cviA_int, w_cvi, cvsA_str, w_cvs, w_mkI, w_mkF, w_sls, slsK_lo, slsK_hi, slsK_lh, w_idxs, idxK_str, w_len, lenK_str, lenK_sl, lenK_nils, lenK_arr, w_ext, extK_0, extK_1, extK_2, w_fld, fldK_0, fldK_1, fldK_2, fldK_3, fldK_4, w_fadr, fadrK_ptr, w_iadr, iadrK_sl, w_iadrA, iadrAK_ptr, w_load, w_storeK, Some1.iff, Some2.iff, b_add, b_sub, b_mul, b_quoP, b_remP, b_eql, b_neq, b_lss, b_leq, b_gtr, b_geq, b_sadd, b_seql, b_sneq, b_inil, u_not, u_neg, wrap_i64, wrap_u64, wrap_u8, wrap_i32, w_mx2, w_mn2, max2A_int, min2A_int, cells_int, cells_bool, cells_str, cells_ptr, cells_sl, cells_nils, cells_fn, cells_agg, one_int, one_bool, one_str, one_ptr, one_sl, one_nils, one_fn, OpWp.callF_iff, OpWp.callV_iff, CallVK.fn, OpWp.inv_iff, CondK.posN, PickK.posN, WantK.posN_t, WantK.posN_f, CondK.pos, CondK.neg, PickK.pos, PickK.neg, WantK.pos_t, WantK.neg_t, WantK.pos_f, WantK.neg_f]) <;> rfl, rfl, Nat.zero_le _, rfl⟩
  · rintro m ⟨tm, hp⟩ ⟨i, h0, h4, h3, rfl, hi, rfl⟩
    simp only at h0 h3 h4
    by_cases hlt : i < s.length
    · have hlt' : (i : Int) < s.length := by omega
      have htk : s.take (i + 1) = s.take i ++ [s.getD i 0] := by
        rw [List.take_add_one, List.getElem?_eq_getElem hlt, List.getD_eq_getElem?_getD, List.getElem?_eq_getElem hlt]; rfl
      have hdi : 48 ≤ (s.getD i 0).toNat ∧ (s.getD i 0).toNat ≤ 57 := by
        have : isDig (s.getD i 0) = true := by
          unfold allDig at hd; rw [List.all_eq_true] at hd
          rw [List.getD_eq_getElem?_getD, List.getElem?_eq_getElem hlt]
          exact hd _ (List.getElem_mem hlt)
        simpa [isDig] using this
      have hv : decV (s.take (i + 1)) = decV (s.take i) * 10 + ((s.getD i 0).toNat - 48) := by
        unfold decV decF; rw [htk, List.foldl_append]; rfl
      have hb : decV (s.take i) < 10 ^ 17 := by
        have h1 := decV_lt (l := s.take i) (by unfold allDig at *; rw [List.all_eq_true] at *; exact fun x hx => hd x (List.mem_of_mem_take hx))
        exact Nat.lt_of_lt_of_le h1 (Nat.pow_le_pow_right (by decide) (by rw [List.length_take]; omega))
      repeat' (with_reducible first | simp (disch := first | assumption | omega | (simp only [List.length_cons, List.length_nil, List.length_append, List.length_map, List.length_take, List.length_drop, List.length_replicate]; omega)) only [not_true_eq_false, not_false_eq_true, decide_true, decide_false, ↓reduceIte, Nat.reduceEqDiff, Nat.reduceAdd, Nat.reduceBEq, Wp.seq_iff, Wp.block_iff, Wp.skip_iff, Wp.ret_iff, Wp.exit_iff, Wp.cond_iff, Wp.nil_iff, Wp.op_iff, Wp.grd_iff, Wp.dreg_iff, Wp.dnil_iff, Wp.dop_iff, Wp.dgrd_iff, After, InBlock, Round, Then, DThen, DOp.some_iff, noted_n, noted_s, NoteK.ptr, List.all_nil, List.all_cons, fresh_eq, val_k, val_set, val_nil, put_some, put_none, enter_nil, enter_cons, List.map_cons, List.map_nil, Option.map_some, Option.map_none, resA_tmp, res0, res1, res2, res3, RetQ.ret, RetQ.nrm, ResK.iff, wanted_k, WantK.tt, WantK.tf, WantK.ft, WantK.ff, WantK.und, GrdK.t, GrdK.f, DGrd.t, DGrd.f, CondK.t, CondK.f, decide_nn, Bool.not_true, Bool.not_false, Bool.not_not, w_mv, PickK.t, PickK.f, w_pick, w_alloc, w_bin, w_un, cviA_int, w_cvi, cvsA_str, w_cvs, w_mkI, w_mkF, w_sls, slsK_lo, slsK_hi, slsK_lh, w_idxs, idxK_str, w_len, lenK_str, lenK_sl, lenK_nils, lenK_arr, w_ext, extK_0, extK_1, extK_2, w_fld, fldK_0, fldK_1, fldK_2, fldK_3, fldK_4, w_fadr, fadrK_ptr, w_iadr, iadrK_sl, w_iadrA, iadrAK_ptr, w_load, w_storeK, Some1.iff, Some2.iff, b_add, b_sub, b_mul, b_quoP, b_remP, b_eql, b_neq, b_lss, b_leq, b_gtr, b_geq, b_sadd, b_seql, b_sneq, b_inil, u_not, u_neg, wrap_i64, wrap_u64, wrap_u8, wrap_i32, w_mx2, w_mn2, max2A_int, min2A_int, cells_int, cells_bool, cells_str, cells_ptr, cells_sl, cells_nils, cells_fn, cells_agg, one_int, one_bool, one_str, one_ptr, one_sl, one_nils, one_fn, OpWp.callF_iff, OpWp.callV_iff, CallVK.fn, OpWp.inv_iff, CondK.posN, PickK.posN, WantK.posN_t, WantK.posN_f, CondK.pos, CondK.neg, PickK.pos, PickK.neg, WantK.pos_t, WantK.neg_t, WantK.pos_f, WantK.neg_f, h0, h3, h4, Int.toNat_natCast] | refine CondK.decN (fun hc => ?_) (fun hc => ?_) | refine GrdK.decN (fun hc => ?_) (fun hc => ?_) | refine PickK.decN (fun hc => ?_) (fun hc => ?_) | refine CondK.dec (fun hc => ?_) (fun hc => ?_) | refine GrdK.dec (fun hc => ?_) (fun hc => ?_) | refine PickK.dec (fun hc => ?_) (fun hc => ?_))
      refine ⟨_, ?_, i + 1, ?_, ?_, ?_, trivial, by omega, rfl⟩
      · omega
      · first | exact h0 | trivial
      · first | rfl | trivial
      · rw [hv]
        congr 1; omega
    · have hlt' : ¬ (i : Int) < s.length := by omega
      repeat' (with_reducible first | simp (disch := first | assumption | omega | (simp only [List.length_cons, List.length_nil, List.length_append, List.length_map, List.length_take, List.length_drop, List.length_replicate]; omega)) only [not_true_eq_false, not_false_eq_true, decide_true, decide_false, ↓reduceIte, Nat.reduceEqDiff, Nat.reduceAdd, Nat.reduceBEq, Wp.seq_iff, Wp.block_iff, Wp.skip_iff, Wp.ret_iff, Wp.exit_iff, Wp.cond_iff, Wp.nil_iff, Wp.op_iff, Wp.grd_iff, Wp.dreg_iff, Wp.dnil_iff, Wp.dop_iff, Wp.dgrd_iff, After, InBlock, Round, Then, DThen, DOp.some_iff, noted_n, noted_s, NoteK.ptr, List.all_nil, List.all_cons, fresh_eq, val_k, val_set, val_nil, put_some, put_none, enter_nil, enter_cons, List.map_cons, List.map_nil, Option.map_some, Option.map_none, resA_tmp, res0, res1, res2, res3, RetQ.ret, RetQ.nrm, ResK.iff, wanted_k, WantK.tt, WantK.tf, WantK.ft, WantK.ff, WantK.und, GrdK.t, GrdK.f, DGrd.t, DGrd.f, CondK.t, CondK.f, decide_nn, Bool.not_true, Bool.not_false, Bool.not_not, w_mv, PickK.t, PickK.f, w_pick, w_alloc, w_bin, w_un, cviA_int, w_cvi, cvsA_str, w_cvs, w_mkI, w_mkF, w_sls, slsK_lo, slsK_hi, slsK_lh, w_idxs, idxK_str, w_len, lenK_str, lenK_sl, lenK_nils, lenK_arr, w_ext, extK_0, extK_1, extK_2, w_fld, fldK_0, fldK_1, fldK_2, fldK_3, fldK_4, w_fadr, fadrK_ptr, w_iadr, iadrK_sl, w_iadrA, iadrAK_ptr, w_load, w_storeK, Some1.iff, Some2.iff, b_add, b_sub, b_mul, b_quoP, b_remP, b_eql, b_neq, b_lss, b_leq, b_gtr, b_geq, b_sadd, b_seql, b_sneq, b_inil, u_not, u_neg, wrap_i64, wrap_u64, wrap_u8, wrap_i32, w_mx2, w_mn2, max2A_int, min2A_int, cells_int, cells_bool, cells_str, cells_ptr, cells_sl, cells_nils, cells_fn, cells_agg, one_int, one_bool, one_str, one_ptr, one_sl, one_nils, one_fn, OpWp.callF_iff, OpWp.callV_iff, CallVK.fn, OpWp.inv_iff, CondK.posN, PickK.posN, WantK.posN_t, WantK.posN_f, CondK.pos, CondK.neg, PickK.pos, PickK.neg, WantK.pos_t, WantK.neg_t, WantK.pos_f, WantK.neg_f, h0, h3, h4] | refine CondK.decN (fun hc => ?_) (fun hc => ?_) | refine GrdK.decN (fun hc => ?_) (fun hc => ?_) | refine PickK.decN (fun hc => ?_) (fun hc => ?_) | refine CondK.dec (fun hc => ?_) (fun hc => ?_) | refine GrdK.dec (fun hc => ?_) (fun hc => ?_) | refine PickK.dec (fun hc => ?_) (fun hc => ?_))
      rw [List.take_of_length_le (by omega)]
      exact ⟨rfl, trivial⟩
end
end Go.Ae


/- Small whole numbers of the program's own arithmetic. -/
set_option linter.unusedVariables false
set_option linter.unusedSimpArgs false
set_option maxRecDepth 100000
namespace Go.Ae
open Go.Proofs
/-- The number of binary digits. -/
def bitLen (n : Nat) : Nat := if n = 0 then 0 else Nat.log2 n + 1
theorem bitLen_shift {n k : Nat} (h : 2 ^ k ≤ n) : bitLen n = k + bitLen (n / 2 ^ k) := by
  have hp : 0 < 2 ^ k := Nat.pow_pos (by decide)
  have h1 : n ≠ 0 := by omega
  have h2 : n / 2 ^ k ≠ 0 := by
    have := Nat.div_pos h hp; omega
  unfold bitLen
  rw [if_neg h1, if_neg h2]
  have : Nat.log2 n = k + Nat.log2 (n / 2 ^ k) := by
    have e1 := (Nat.le_log2 h2 (k := Nat.log2 (n / 2 ^ k))).1 (Nat.le_refl _)
    have e2 := Nat.lt_log2_self (n := n / 2 ^ k)
    have e3 : 2 ^ (k + Nat.log2 (n / 2 ^ k)) ≤ n := by
      rw [Nat.pow_add, Nat.mul_comm]; exact (Nat.le_div_iff_mul_le hp).1 e1
    have e4 : n < 2 ^ (k + Nat.log2 (n / 2 ^ k) + 1) := by
      rw [Nat.add_assoc, Nat.pow_add, Nat.mul_comm]; exact (Nat.div_lt_iff_lt_mul hp).1 e2
    have e5 := (Nat.le_log2 h1).2 e3
    have e6 := (Nat.log2_lt h1).2 e4
    omega
  omega
theorem bitLen_lt {n k : Nat} (h : n < 2 ^ k) : bitLen n ≤ k := by
  unfold bitLen
  split
  · omega
  · have := (Nat.log2_lt ‹_›).2 h; omega
theorem bitLen_le {n k : Nat} (h : bitLen n ≤ k) : n < 2 ^ k := by
  unfold bitLen at h
  split at h
  · have : 0 < 2 ^ k := Nat.pow_pos (by decide); omega
  · exact (Nat.log2_lt ‹_›).1 (by omega)
section
variable {h : Hp} {K : AV → Hp → Prop}
/-- A machine integer of num. -/
abbrev sI (n : Int) : AV := .agg [.int .i64 n, .nils]
theorem b_shr {q : EqK} {k k' : IntKind} {m n : Int} (hn : 0 ≤ n) : binA .shr q (.int k m) (.int k' n) = some (.int k (m.fdiv (2 ^ min n.toNat k.bits))) := by
  simp only [binA, intA]; rw [if_neg (by omega)]
theorem b_shrL {q : EqK} {k k' : IntKind} {m n : Nat} (hn : n ≤ k.bits) : binA .shr q (.int k m) (.int k' n) = some (.int k ((m / 2 ^ n : Nat) : Int)) := by
  rw [b_shr (by omega), Int.toNat_natCast, Nat.min_eq_left hn]
  congr 2
  rw [show ((2 : Int) ^ n) = ((2 ^ n : Nat) : Int) by rw [Int.natCast_pow]; rfl, Int.fdiv_eq_ediv_of_nonneg _ (Int.natCast_nonneg _)]
  exact (Int.natCast_ediv m (2 ^ n)).symm
theorem wrap_min0 : IntKind.wrap .i64 9223372036854775808 = -9223372036854775808 := by decide
theorem wrap_min : IntKind.wrap .i64 (- -9223372036854775808) = -9223372036854775808 := by decide
theorem wrap_min' : IntKind.wrap .u64 (-9223372036854775808) = 9223372036854775808 := by decide
theorem c262 {n : Int} (hn : -9223372036854775808 ≤ n ∧ n ≤ 9223372036854775807) : CallWp E2 262 [.int .i64 n] h K ↔ K (.int .u64 (n.natAbs : Int)) h := by
  refine CallWp.iff_of (CallWp.fn (fn := C.a262) rfl rfl rfl ?_)
  unfold C.a262
  by_cases h1 : n = -9223372036854775808
  · subst h1
    repeat' (with_reducible first | simp (disch := first | assumption | omega | (simp only [go_sem, ne_eq, Nat.reduceAdd, Nat.reduceLeDiff] <;> omega) | fail) only [go_sem, seval, wrap_min, wrap_min0, wrap_min'] | ((first | apply k1 | apply k2 | apply k3 | apply k4 | apply k5 | apply k6 | apply k7) <;> intro hc))
    first | done | simp
  · have e1 : n < 0 → -n = (n.natAbs : Int) := by omega
    have e2 : ¬ n < 0 → n = (n.natAbs : Int) := by omega
    repeat' (with_reducible first | simp (disch := first | assumption | omega | (simp only [go_sem, ne_eq, Nat.reduceAdd, Nat.reduceLeDiff] <;> omega) | fail) only [go_sem, seval] | ((first | apply k1 | apply k2 | apply k3 | apply k4 | apply k5 | apply k6 | apply k7) <;> intro hc))
    · rw [e1 hc]
    · rw [← e2 hc]
theorem c254 {n : Int} : Gv E2 254 [sI n] h (.tup [.int .i64 n, .bool true]) := by
  refine Gv.of (CallWp.fn (fn := C.a254) rfl rfl rfl ?_)
  unfold C.a254
  repeat' (with_reducible first | simp (disch := first | assumption | omega | (simp only [go_sem, ne_eq, Nat.reduceAdd, Nat.reduceLeDiff] <;> omega) | fail) only [go_sem, seval] | ((first | apply k1 | apply k2 | apply k3 | apply k4 | apply k5 | apply k6 | apply k7) <;> intro hc))
  (try first | refine ⟨trivial, ?_⟩ | refine ⟨rfl, ?_⟩); (repeat (first | exact Grs.refl _ | assumption | refine Grs.push ?_ | refine Grs.ov ?_ | refine Grs.put ?_ (by (try simp only [Hp.next_push, Hp.next_put, Hp.ov_next, Hp.clk_push, Hp.clk_put, Hp.ov_clk]); omega)))
theorem c120 {n : Int} : Gv E2 120 [.int .i64 n] h (sI n) := by
  refine Gv.of (CallWp.fn (fn := C.a120) rfl rfl rfl ?_)
  unfold C.a120
  repeat' (with_reducible first | simp (disch := first | assumption | omega | (simp only [go_sem, ne_eq, Nat.reduceAdd, Nat.reduceLeDiff] <;> omega) | fail) only [go_sem, seval] | ((first | apply k1 | apply k2 | apply k3 | apply k4 | apply k5 | apply k6 | apply k7) <;> intro hc))
  (try first | refine ⟨trivial, ?_⟩ | refine ⟨rfl, ?_⟩); (repeat (first | exact Grs.refl _ | assumption | refine Grs.push ?_ | refine Grs.ov ?_ | refine Grs.put ?_ (by (try simp only [Hp.next_push, Hp.next_put, Hp.ov_next, Hp.clk_push, Hp.clk_put, Hp.ov_clk]); omega)))
theorem c194 {n : Int} : Gv E2 194 [sI n] h (.int .i64 (max (-1) (min 1 n))) := by
  refine Gv.of (CallWp.fn (fn := C.a194) rfl rfl rfl ?_)
  unfold C.a194
  repeat' (with_reducible first | simp (disch := first | assumption | omega | (simp only [go_sem, ne_eq, Nat.reduceAdd, Nat.reduceLeDiff] <;> omega) | fail) only [go_sem, seval] | ((first | apply k1 | apply k2 | apply k3 | apply k4 | apply k5 | apply k6 | apply k7) <;> intro hc))
  (try first | refine ⟨trivial, ?_⟩ | refine ⟨rfl, ?_⟩); (repeat (first | exact Grs.refl _ | assumption | refine Grs.push ?_ | refine Grs.ov ?_ | refine Grs.put ?_ (by (try simp only [Hp.next_push, Hp.next_put, Hp.ov_next, Hp.clk_push, Hp.clk_put, Hp.ov_clk]); omega)))
theorem c183 {n : Int} : Gv E2 183 [sI n] h (.agg [.int .i64 n, .nils, .int .i64 1, .nils]) := by
  refine Gv.of (CallWp.fn (fn := C.a183) rfl rfl rfl ?_)
  unfold C.a183
  repeat' (with_reducible first | simp (disch := first | assumption | omega | (simp only [go_sem, ne_eq, Nat.reduceAdd, Nat.reduceLeDiff] <;> omega) | fail) only [go_sem, seval] | (refine Gv.wp (c120) fun _ _ _ _ => ?_) | ((first | apply k1 | apply k2 | apply k3 | apply k4 | apply k5 | apply k6 | apply k7) <;> intro hc))
  (try first | refine ⟨trivial, ?_⟩ | refine ⟨rfl, ?_⟩); (repeat (first | exact Grs.refl _ | assumption | refine Grs.push ?_ | refine Grs.ov ?_ | refine Grs.put ?_ (by (try simp only [Hp.next_push, Hp.next_put, Hp.ov_next, Hp.clk_push, Hp.clk_put, Hp.ov_clk]); omega)))
theorem c116 {n : Int} : Gv E2 116 [.int .i64 n] h (.agg [.int .i64 n, .nils, .int .i64 1, .nils]) := by
  refine Gv.of (CallWp.fn (fn := C.a116) rfl rfl rfl ?_)
  unfold C.a116
  repeat' (with_reducible first | simp (disch := first | assumption | omega | (simp only [go_sem, ne_eq, Nat.reduceAdd, Nat.reduceLeDiff] <;> omega) | fail) only [go_sem, seval] | (refine Gv.wp (c120) fun _ _ _ _ => ?_) | (refine Gv.wp (c183) fun _ _ _ _ => ?_) | ((first | apply k1 | apply k2 | apply k3 | apply k4 | apply k5 | apply k6 | apply k7) <;> intro hc))
  (try first | refine ⟨trivial, ?_⟩ | refine ⟨rfl, ?_⟩); (repeat (first | exact Grs.refl _ | assumption | refine Grs.push ?_ | refine Grs.ov ?_ | refine Grs.put ?_ (by (try simp only [Hp.next_push, Hp.next_put, Hp.ov_next, Hp.clk_push, Hp.clk_put, Hp.ov_clk]); omega)))
theorem c121 {a b : Int} (ha : -9223372036854775808 ≤ a + b ∧ a + b ≤ 9223372036854775807) : Gv E2 121 [sI a, sI b] h (sI (a + b)) := by
  refine Gv.of (CallWp.fn (fn := C.a121) rfl rfl rfl ?_)
  unfold C.a121
  have e : (decide (a < a + b) = decide (0 < b)) := by congr 1; rw [eq_iff_iff]; omega
  repeat' (with_reducible first | simp (disch := first | assumption | omega | (simp only [go_sem, ne_eq, Nat.reduceAdd, Nat.reduceLeDiff] <;> omega) | fail) only [go_sem, seval, e] | ((first | apply k1 | apply k2 | apply k3 | apply k4 | apply k5 | apply k6 | apply k7) <;> intro hc))
  (try first | refine ⟨trivial, ?_⟩ | refine ⟨rfl, ?_⟩); (repeat (first | exact Grs.refl _ | assumption | refine Grs.push ?_ | refine Grs.ov ?_ | refine Grs.put ?_ (by (try simp only [Hp.next_push, Hp.next_put, Hp.ov_next, Hp.clk_push, Hp.clk_put, Hp.ov_clk]); omega)))
theorem c192 {a b : Int} : Gv E2 192 [sI a, sI b] h (.int .i64 (if a < b then -1 else if b < a then 1 else 0)) := by
  refine Gv.of (CallWp.fn (fn := C.a192) rfl rfl rfl ?_)
  unfold C.a192
  repeat' (with_reducible first | simp (disch := first | assumption | omega | (simp only [go_sem, ne_eq, Nat.reduceAdd, Nat.reduceLeDiff] <;> omega) | fail) only [go_sem, seval] | ((first | apply k1 | apply k2 | apply k3 | apply k4 | apply k5 | apply k6 | apply k7) <;> intro hc))
  all_goals first | rw [if_pos (by assumption)] | rw [if_neg (by assumption), if_pos (by assumption)] | rw [if_neg (by assumption), if_neg (by assumption)]
  all_goals (try first | refine ⟨trivial, ?_⟩ | refine ⟨rfl, ?_⟩); (repeat (first | exact Grs.refl _ | assumption | refine Grs.push ?_ | refine Grs.ov ?_ | refine Grs.put ?_ (by (try simp only [Hp.next_push, Hp.next_put, Hp.ov_next, Hp.clk_push, Hp.clk_put, Hp.ov_clk]); omega)))
theorem b_quo' {q : EqK} {k : IntKind} {m n : Int} (hn : ¬ n = 0) : binA .quo q (.int k m) (.int k n) = some (.int k (k.wrap (m.tdiv n))) := b_quo hn
theorem b_rem' {q : EqK} {k : IntKind} {m n : Int} (hn : ¬ n = 0) : binA .rem q (.int k m) (.int k n) = some (.int k (m.tmod n)) := b_rem hn
theorem tdiv_le {a b : Int} (ha : -9223372036854775808 < a ∧ a ≤ 9223372036854775807) (hb : 0 < b) : -9223372036854775807 ≤ a.tdiv b ∧ a.tdiv b ≤ 9223372036854775807 := by
  have h1 := Int.natAbs_tdiv_le_natAbs a b
  omega
theorem fdiv_lt {a b : Int} (hb : 0 < b) (hm : a.tmod b < 0) : a.fdiv b = a.tdiv b - 1 ∧ a.fmod b = a.tmod b + b := by
  have e1 := Int.tmod_add_mul_tdiv a b
  have e2 := Int.fmod_add_mul_fdiv a b
  have e3 := Int.fmod_nonneg_of_pos a hb
  have e4 := Int.fmod_lt_of_pos a hb
  have e5 : -b < a.tmod b := Int.lt_tmod_of_pos a hb
  have key : a.fdiv b = a.tdiv b - 1 := by
    have h1 : b * (a.tdiv b - 1) + (a.tmod b + b) = a := by rw [Int.mul_sub]; omega
    have h2 : b * (a.tdiv b - 1 - a.fdiv b) = a.fmod b - (a.tmod b + b) := by rw [Int.mul_sub]; omega
    rcases Int.lt_trichotomy (a.tdiv b - 1 - a.fdiv b) 0 with h | h | h
    · have := Int.mul_le_mul_of_nonneg_left (show a.tdiv b - 1 - a.fdiv b ≤ -1 by omega) (show 0 ≤ b by omega); omega
    · omega
    · have := Int.mul_le_mul_of_nonneg_left (show 1 ≤ a.tdiv b - 1 - a.fdiv b by omega) (show 0 ≤ b by omega); omega
  refine ⟨key, ?_⟩
  rw [key, Int.mul_sub] at e2; omega
theorem fdiv_ge {a b : Int} (hb : 0 < b) (hm : ¬ a.tmod b < 0) : a.fdiv b = a.tdiv b ∧ a.fmod b = a.tmod b := by
  have e1 := Int.tmod_add_mul_tdiv a b
  have e2 := Int.fmod_add_mul_fdiv a b
  have e3 := Int.fmod_nonneg_of_pos a hb
  have e4 := Int.fmod_lt_of_pos a hb
  have e5 : a.tmod b < b := Int.tmod_lt_of_pos a hb
  have key : a.fdiv b = a.tdiv b := by
    have h2 : b * (a.tdiv b - a.fdiv b) = a.fmod b - a.tmod b := by rw [Int.mul_sub]; omega
    rcases Int.lt_trichotomy (a.tdiv b - a.fdiv b) 0 with h | h | h
    · have := Int.mul_le_mul_of_nonneg_left (show a.tdiv b - a.fdiv b ≤ -1 by omega) (show 0 ≤ b by omega); omega
    · omega
    · have := Int.mul_le_mul_of_nonneg_left (show 1 ≤ a.tdiv b - a.fdiv b by omega) (show 0 ≤ b by omega); omega
  refine ⟨key, ?_⟩
  rw [key] at e2; omega
theorem c197 {a b : Int} (ha : -9223372036854775808 < a ∧ a ≤ 9223372036854775807) (hb : 0 < b ∧ b ≤ 9223372036854775807) : Gv E2 197 [sI a, sI b] h (.tup [sI (a.fdiv b), sI (a.fmod b)]) := by
  refine Gv.of (CallWp.fn (fn := C.a197) rfl rfl rfl ?_)
  unfold C.a197
  have hb0 : ¬ b = 0 := by omega
  have hm : ¬ a = -9223372036854775808 := by omega
  have hd := tdiv_le ha hb.1
  have ht : -b < a.tmod b ∧ a.tmod b < b := ⟨Int.lt_tmod_of_pos a hb.1, Int.tmod_lt_of_pos a hb.1⟩
  repeat' (with_reducible first | simp (disch := first | assumption | omega | (simp only [go_sem, ne_eq, Nat.reduceAdd, Nat.reduceLeDiff] <;> omega) | fail) only [go_sem, seval, b_quo', b_rem'] | ((first | apply k1 | apply k2 | apply k3 | apply k4 | apply k5 | apply k6 | apply k7) <;> intro hc))
  · obtain ⟨e1, e2⟩ := fdiv_lt hb.1 hc
    rw [e1, e2]
    (try first | refine ⟨trivial, ?_⟩ | refine ⟨rfl, ?_⟩); (repeat (first | exact Grs.refl _ | assumption | refine Grs.push ?_ | refine Grs.ov ?_ | refine Grs.put ?_ (by (try simp only [Hp.next_push, Hp.next_put, Hp.ov_next, Hp.clk_push, Hp.clk_put, Hp.ov_clk]); omega)))
  · obtain ⟨e1, e2⟩ := fdiv_ge hb.1 hc
    rw [e1, e2]
    (try first | refine ⟨trivial, ?_⟩ | refine ⟨rfl, ?_⟩); (repeat (first | exact Grs.refl _ | assumption | refine Grs.push ?_ | refine Grs.ov ?_ | refine Grs.put ?_ (by (try simp only [Hp.next_push, Hp.next_put, Hp.ov_next, Hp.clk_push, Hp.clk_put, Hp.ov_clk]); omega)))
theorem b_andK {q : EqK} {k : IntKind} {m n : Int} : binA .and q (.int k m) (.int k n) = some (.int k (k.wrap (BitVec.ofInt k.bits m &&& BitVec.ofInt k.bits n).toNat)) := by
  simp [binA, intA, intA1, sameK_eq, bitsA]
theorem b_mask32 {q : EqK} {a : Nat} (ha : a < 18446744073709551616) : binA .and q (.int .u64 a) (.int .u64 4294967295) = some (.int .u64 ((a % 4294967296 : Nat) : Int)) := by
  rw [b_andK]
  congr 2
  have e : (BitVec.ofInt 64 (a : Int) &&& BitVec.ofInt 64 4294967295).toNat = a % 4294967296 := by
    rw [BitVec.toNat_and]
    simp only [BitVec.toNat_ofInt]
    have e1 : ((a : Int) % (2 ^ 64 : Nat)).toNat = a := by omega
    rw [e1]
    exact Nat.and_two_pow_sub_one_eq_mod a 32
  show IntKind.wrap .u64 (((BitVec.ofInt 64 (a : Int) &&& BitVec.ofInt 64 4294967295).toNat : Nat) : Int) = _
  rw [e, wrap_u64 (by omega)]
theorem b_and1 {q : EqK} {a : Nat} (ha : a < 9223372036854775808) : binA .and q (.int .i64 a) (.int .i64 1) = some (.int .i64 ((a % 2 : Nat) : Int)) := by
  rw [b_andK]
  congr 2
  have e : (BitVec.ofInt 64 (a : Int) &&& BitVec.ofInt 64 1).toNat = a % 2 := by
    rw [BitVec.toNat_and]
    simp only [BitVec.toNat_ofInt]
    have e1 : ((a : Int) % (2 ^ 64 : Nat)).toNat = a := by omega
    rw [e1]
    exact Nat.and_two_pow_sub_one_eq_mod a 1
  show IntKind.wrap .i64 (((BitVec.ofInt 64 (a : Int) &&& BitVec.ofInt 64 1).toNat : Nat) : Int) = _
  rw [e, wrap_i64 (by omega)]
theorem b_shr32 {q : EqK} {a : Nat} : binA .shr q (.int .u64 a) (.int .u64 32) = some (.int .u64 ((a / 4294967296 : Nat) : Int)) := b_shrL (n := 32) (by decide)
theorem c261 {x y : Nat} (hx : x < 18446744073709551616) (hy : y < 18446744073709551616) : CallWp E2 261 [.int .u64 x, .int .u64 y] h K ↔ K (.tup [.int .u64 ((x * y / 18446744073709551616 : Nat) : Int), .int .u64 ((x * y % 18446744073709551616 : Nat) : Int)]) h := by
  refine CallWp.iff_of (CallWp.fn (fn := C.a261) rfl rfl rfl ?_)
  obtain ⟨bd, bt, bw, hhi⟩ := Lib.mul64_hi x y hx hy
  have ba := Lib.half_mul_le (a := x / 4294967296) (b := y / 4294967296) (by omega) (by omega)
  have bb := Lib.half_mul_le (a := x / 4294967296) (b := y % 4294967296) (by omega) (by omega)
  have bc := Lib.half_mul_le (a := x % 4294967296) (b := y / 4294967296) (by omega) (by omega)
  unfold C.a261
  have m0 : ∀ a b : Nat, (a : Int) * (b : Int) = ((a * b : Nat) : Int) := fun a b => (Int.natCast_mul a b).symm
  have a0 : ∀ a b : Nat, (a : Int) + (b : Int) = ((a + b : Nat) : Int) := fun a b => (Int.natCast_add a b).symm
  have w0 : ∀ a : Nat, a < 18446744073709551616 → IntKind.wrap .u64 (a : Int) = (a : Int) := fun a ha => wrap_u64 (by omega)
  have w1 : IntKind.wrap .u64 ((x * y : Nat) : Int) = ((x * y % 18446744073709551616 : Nat) : Int) := by rw [IntKind.wrap_u64]; omega
  simp (disch := first | assumption | omega | fail) only [go_sem, ↓reduceIte, Nat.reduceEqDiff, b_mask32, b_shr32, m0, a0, w0, w1]
  rw [hhi]
  try exact ⟨rfl, trivial⟩
def len8tab : List UInt8 := [0, 1, 2, 2, 3, 3, 3, 3, 4, 4, 4, 4, 4, 4, 4, 4, 5, 5, 5, 5, 5, 5, 5, 5, 5, 5, 5, 5, 5, 5, 5, 5, 6, 6, 6, 6, 6, 6, 6, 6, 6, 6, 6, 6, 6, 6, 6, 6, 6, 6, 6, 6, 6, 6, 6, 6, 6, 6, 6, 6, 6, 6, 6, 6, 7, 7, 7, 7, 7, 7, 7, 7, 7, 7, 7, 7, 7, 7, 7, 7, 7, 7, 7, 7, 7, 7, 7, 7, 7, 7, 7, 7, 7, 7, 7, 7, 7, 7, 7, 7, 7, 7, 7, 7, 7, 7, 7, 7, 7, 7, 7, 7, 7, 7, 7, 7, 7, 7, 7, 7, 7, 7, 7, 7, 7, 7, 7, 7, 8, 8, 8, 8, 8, 8, 8, 8, 8, 8, 8, 8, 8, 8, 8, 8, 8, 8, 8, 8, 8, 8, 8, 8, 8, 8, 8, 8, 8, 8, 8, 8, 8, 8, 8, 8, 8, 8, 8, 8, 8, 8, 8, 8, 8, 8, 8, 8, 8, 8, 8, 8, 8, 8, 8, 8, 8, 8, 8, 8, 8, 8, 8, 8, 8, 8, 8, 8, 8, 8, 8, 8, 8, 8, 8, 8, 8, 8, 8, 8, 8, 8, 8, 8, 8, 8, 8, 8, 8, 8, 8, 8, 8, 8, 8, 8, 8, 8, 8, 8, 8, 8, 8, 8, 8, 8, 8, 8, 8, 8, 8, 8, 8, 8, 8, 8, 8, 8, 8, 8, 8, 8, 8, 8, 8, 8, 8, 8]
theorem len8 : ∀ i : Nat, i < 256 → ((len8tab.getD i 0).toNat) = bitLen i := by decide +kernel
theorem idx8 {x : Nat} (hx : x < 256) : idxK (.str [0, 1, 2, 2, 3, 3, 3, 3, 4, 4, 4, 4, 4, 4, 4, 4, 5, 5, 5, 5, 5, 5, 5, 5, 5, 5, 5, 5, 5, 5, 5, 5, 6, 6, 6, 6, 6, 6, 6, 6, 6, 6, 6, 6, 6, 6, 6, 6, 6, 6, 6, 6, 6, 6, 6, 6, 6, 6, 6, 6, 6, 6, 6, 6, 7, 7, 7, 7, 7, 7, 7, 7, 7, 7, 7, 7, 7, 7, 7, 7, 7, 7, 7, 7, 7, 7, 7, 7, 7, 7, 7, 7, 7, 7, 7, 7, 7, 7, 7, 7, 7, 7, 7, 7, 7, 7, 7, 7, 7, 7, 7, 7, 7, 7, 7, 7, 7, 7, 7, 7, 7, 7, 7, 7, 7, 7, 7, 7, 8, 8, 8, 8, 8, 8, 8, 8, 8, 8, 8, 8, 8, 8, 8, 8, 8, 8, 8, 8, 8, 8, 8, 8, 8, 8, 8, 8, 8, 8, 8, 8, 8, 8, 8, 8, 8, 8, 8, 8, 8, 8, 8, 8, 8, 8, 8, 8, 8, 8, 8, 8, 8, 8, 8, 8, 8, 8, 8, 8, 8, 8, 8, 8, 8, 8, 8, 8, 8, 8, 8, 8, 8, 8, 8, 8, 8, 8, 8, 8, 8, 8, 8, 8, 8, 8, 8, 8, 8, 8, 8, 8, 8, 8, 8, 8, 8, 8, 8, 8, 8, 8, 8, 8, 8, 8, 8, 8, 8, 8, 8, 8, 8, 8, 8, 8, 8, 8, 8, 8, 8, 8, 8, 8, 8, 8, 8, 8]) (.int .u8 x) = some (.int .u8 (bitLen x : Nat)) := by
  show idxK (.str len8tab) (.int .u8 x) = _
  rw [idxK_str ⟨by omega, by rw [show len8tab.length = 256 from rfl]; omega⟩, Int.toNat_natCast, len8 x hx]
theorem b_shr16 {q : EqK} {a : Nat} : binA .shr q (.int .u64 a) (.int .u64 16) = some (.int .u64 ((a / 65536 : Nat) : Int)) := b_shrL (n := 16) (by decide)
theorem b_shr8 {q : EqK} {a : Nat} : binA .shr q (.int .u64 a) (.int .u64 8) = some (.int .u64 ((a / 256 : Nat) : Int)) := b_shrL (n := 8) (by decide)
theorem c266 {x : Nat} (hx : x < 18446744073709551616) : CallWp E2 266 [.int .u64 x] h K ↔ K (.int .i64 (bitLen x : Nat)) h := by
  refine CallWp.iff_of (CallWp.fn (fn := C.a266) rfl rfl rfl ?_)
  unfold C.a266
  have s32 : 4294967296 ≤ x → bitLen x = 32 + bitLen (x / 4294967296) := fun e => bitLen_shift (k := 32) e
  have s16 : ∀ y, 65536 ≤ y → bitLen y = 16 + bitLen (y / 65536) := fun y e => bitLen_shift (k := 16) e
  have s8 : ∀ y, 256 ≤ y → bitLen y = 8 + bitLen (y / 256) := fun y e => bitLen_shift (k := 8) e
  have b8 : ∀ y, y < 256 → bitLen y ≤ 8 := fun y e => bitLen_lt (k := 8) e
  have l32 : x / 4294967296 < 4294967296 := by omega
  by_cases g32 : 4294967296 ≤ ((x : Nat) : Int)
  · have e32 := s32 (by omega)
    by_cases g16 : 65536 ≤ ((x / 4294967296 : Nat) : Int)
    · have e16 := s16 (x / 4294967296) (by omega)
      by_cases g8 : 256 ≤ ((x / 4294967296 / 65536 : Nat) : Int)
      · have e8 := s8 (x / 4294967296 / 65536) (by omega)
        have := b8 (x / 4294967296 / 65536 / 256) (by omega)
        simp (disch := first | assumption | omega | (simp only [go_sem, ne_eq, Nat.reduceAdd, Nat.reduceLeDiff] <;> omega) | fail) only [go_sem, seval, b_shr32, b_shr16, b_shr8, idx8]
        all_goals (congr 1; omega)
      · skip
        have := b8 (x / 4294967296 / 65536) (by omega)
        simp (disch := first | assumption | omega | (simp only [go_sem, ne_eq, Nat.reduceAdd, Nat.reduceLeDiff] <;> omega) | fail) only [go_sem, seval, b_shr32, b_shr16, b_shr8, idx8]
        all_goals (congr 1; omega)
    · skip
      by_cases g8 : 256 ≤ ((x / 4294967296 : Nat) : Int)
      · have e8 := s8 (x / 4294967296) (by omega)
        have := b8 (x / 4294967296 / 256) (by omega)
        simp (disch := first | assumption | omega | (simp only [go_sem, ne_eq, Nat.reduceAdd, Nat.reduceLeDiff] <;> omega) | fail) only [go_sem, seval, b_shr32, b_shr16, b_shr8, idx8]
        all_goals (congr 1; omega)
      · skip
        have := b8 (x / 4294967296) (by omega)
        simp (disch := first | assumption | omega | (simp only [go_sem, ne_eq, Nat.reduceAdd, Nat.reduceLeDiff] <;> omega) | fail) only [go_sem, seval, b_shr32, b_shr16, b_shr8, idx8]
        all_goals (congr 1; omega)
  · skip
    by_cases g16 : 65536 ≤ ((x : Nat) : Int)
    · have e16 := s16 (x) (by omega)
      by_cases g8 : 256 ≤ ((x / 65536 : Nat) : Int)
      · have e8 := s8 (x / 65536) (by omega)
        have := b8 (x / 65536 / 256) (by omega)
        simp (disch := first | assumption | omega | (simp only [go_sem, ne_eq, Nat.reduceAdd, Nat.reduceLeDiff] <;> omega) | fail) only [go_sem, seval, b_shr32, b_shr16, b_shr8, idx8]
        all_goals (congr 1; omega)
      · skip
        have := b8 (x / 65536) (by omega)
        simp (disch := first | assumption | omega | (simp only [go_sem, ne_eq, Nat.reduceAdd, Nat.reduceLeDiff] <;> omega) | fail) only [go_sem, seval, b_shr32, b_shr16, b_shr8, idx8]
        all_goals (congr 1; omega)
    · skip
      by_cases g8 : 256 ≤ ((x : Nat) : Int)
      · have e8 := s8 (x) (by omega)
        have := b8 (x / 256) (by omega)
        simp (disch := first | assumption | omega | (simp only [go_sem, ne_eq, Nat.reduceAdd, Nat.reduceLeDiff] <;> omega) | fail) only [go_sem, seval, b_shr32, b_shr16, b_shr8, idx8]
        all_goals (congr 1; omega)
      · skip
        have := b8 (x) (by omega)
        simp (disch := first | assumption | omega | (simp only [go_sem, ne_eq, Nat.reduceAdd, Nat.reduceLeDiff] <;> omega) | fail) only [go_sem, seval, b_shr32, b_shr16, b_shr8, idx8]
        all_goals (congr 1; omega)
end
end Go.Ae


/- Digits to a base: plain lists of numbers. -/
set_option linter.unusedVariables false
set_option linter.unusedSimpArgs false
namespace Go.Ae.Bg
/-- The number with these digits, the least significant one first. -/
def vl (B : Nat) : List Nat → Nat
  | [] => 0
  | x :: l => x + B * vl B l
def Dg (B : Nat) (l : List Nat) : Prop := ∀ x ∈ l, x < B
def Norm (l : List Nat) : Prop := l.getLast? ≠ some 0
/-- Without zeros at the end. -/
def trimL : List Nat → List Nat
  | [] => []
  | x :: l => if x = 0 ∧ trimL l = [] then [] else x :: trimL l
variable {B : Nat} {l m : List Nat} {x i : Nat}
theorem vl_nil : vl B [] = 0 := rfl
theorem vl_cons : vl B (x :: l) = x + B * vl B l := rfl
theorem vl_append : ∀ l : List Nat, vl B (l ++ m) = vl B l + B ^ l.length * vl B m
  | [] => by simp [vl]
  | x :: l => by
    rw [List.cons_append, vl_cons, vl_append l, vl_cons, List.length_cons, Nat.pow_succ, Nat.mul_add, ← Nat.mul_assoc, Nat.mul_comm B (B ^ l.length)]; omega
theorem vl_snoc : vl B (l ++ [x]) = vl B l + B ^ l.length * x := by rw [vl_append]; simp [vl]
theorem getD_eq {l : List Nat} (hi : i < l.length) : l.getD i 0 = l[i] := by simp [List.getD, hi]
theorem take_succ {l : List Nat} (hi : i < l.length) : l.take (i + 1) = l.take i ++ [l.getD i 0] := by
  rw [List.take_add_one, getD_eq hi]; simp [hi]
theorem vl_take_succ (hi : i < l.length) : vl B (l.take (i + 1)) = vl B (l.take i) + B ^ i * l.getD i 0 := by
  rw [take_succ hi, vl_snoc, List.length_take, Nat.min_eq_left (by omega)]
theorem vl_take_any : vl B (l.take (i + 1)) = vl B (l.take i) + B ^ i * l.getD i 0 := by
  rcases Nat.lt_or_ge i l.length with h | h
  · exact vl_take_succ h
  · rw [List.take_of_length_le (by omega), List.take_of_length_le h]
    have : l.getD i 0 = 0 := by simp [List.getD, List.getElem?_eq_none h]
    rw [this]; simp
theorem take_set {l : List Nat} : (l.set i x).take i = l.take i := by
  rw [List.take_set_of_le (Nat.le_refl _)]
theorem getD_set {l : List Nat} (hi : i < l.length) : (l.set i x).getD i 0 = x := by simp [List.getD, hi]
theorem getD_set_ne {l : List Nat} {j : Nat} (h : i ≠ j) : (l.set i x).getD j 0 = l.getD j 0 := by simp [List.getD, List.getElem?_set_ne h]
theorem vl_set_take (hi : i < l.length) : vl B ((l.set i x).take (i + 1)) = vl B (l.take i) + B ^ i * x := by
  rw [vl_take_succ (by simpa using hi), take_set, getD_set hi]
theorem Dg.nil : Dg B [] := by simp [Dg]
theorem Dg.cons (h : x < B) (hl : Dg B l) : Dg B (x :: l) := by
  intro y hy; rcases List.mem_cons.1 hy with rfl | hy
  · exact h
  · exact hl y hy
theorem Dg.head (h : Dg B (x :: l)) : x < B := h x (by simp)
theorem Dg.tail (h : Dg B (x :: l)) : Dg B l := fun y hy => h y (List.mem_cons_of_mem _ hy)
theorem Dg.append (h : Dg B l) (k : Dg B m) : Dg B (l ++ m) := fun y hy => (List.mem_append.1 hy).elim (h y) (k y)
theorem Dg.left (h : Dg B (l ++ m)) : Dg B l := fun y hy => h y (List.mem_append_left _ hy)
theorem Dg.right (h : Dg B (l ++ m)) : Dg B m := fun y hy => h y (List.mem_append_right _ hy)
theorem Dg.take (h : Dg B l) (n : Nat) : Dg B (l.take n) := fun y hy => h y (List.mem_of_mem_take hy)
theorem Dg.drop (h : Dg B l) (n : Nat) : Dg B (l.drop n) := fun y hy => h y (List.mem_of_mem_drop hy)
theorem Dg.set (h : Dg B l) (n : Nat) (hx : x < B) : Dg B (l.set n x) := by
  intro y hy
  rcases List.mem_or_eq_of_mem_set hy with hy | rfl
  · exact h y hy
  · exact hx
theorem Dg.zeros (hB : 0 < B) (n : Nat) : Dg B (List.replicate n 0) := by
  intro y hy; rw [List.mem_replicate] at hy; omega
theorem Dg.getD (hB : 0 < B) (h : Dg B l) (i : Nat) : l.getD i 0 < B := by
  rcases Nat.lt_or_ge i l.length with hi | hi
  · rw [getD_eq hi]; exact h _ (List.getElem_mem hi)
  · have : l.getD i 0 = 0 := by simp [List.getD, List.getElem?_eq_none hi]
    omega
theorem vl_lt (hB : 0 < B) : ∀ {l : List Nat}, Dg B l → vl B l < B ^ l.length
  | [], _ => by simp [vl]
  | x :: l, h => by
    have h1 := vl_lt hB h.tail
    have h2 := h.head
    have h3 : B * (vl B l + 1) ≤ B * B ^ l.length := Nat.mul_le_mul_left _ h1
    rw [vl_cons, List.length_cons, Nat.pow_succ, Nat.mul_comm (B ^ l.length)]
    rw [Nat.mul_add] at h3; omega
theorem vl_zeros : ∀ n : Nat, vl B (List.replicate n 0) = 0
  | 0 => rfl
  | n + 1 => by rw [List.replicate_succ, vl_cons, vl_zeros n]; simp
theorem vl_inj (hB : 0 < B) : ∀ {l m : List Nat}, Dg B l → Dg B m → l.length = m.length → vl B l = vl B m → l = m
  | [], [], _, _, _, _ => rfl
  | [], _ :: _, _, _, h, _ => by simp at h
  | _ :: _, [], _, _, h, _ => by simp at h
  | x :: l, y :: m, hl, hm, h, hv => by
    rw [vl_cons, vl_cons] at hv
    have h1 := hl.head; have h2 := hm.head
    have e : x = y := by
      have a : (x + B * vl B l) % B = x := by rw [Nat.add_mul_mod_self_left]; exact Nat.mod_eq_of_lt h1
      have b : (y + B * vl B m) % B = y := by rw [Nat.add_mul_mod_self_left]; exact Nat.mod_eq_of_lt h2
      rw [← a, ← b, hv]
    subst e
    have : vl B l = vl B m := Nat.eq_of_mul_eq_mul_left hB (by omega)
    rw [vl_inj hB hl.tail hm.tail (by simpa using h) this]
theorem vl_trim : ∀ l : List Nat, vl B (trimL l) = vl B l
  | [] => rfl
  | x :: l => by
    unfold trimL
    split
    · rename_i h
      have := vl_trim l
      rw [h.2] at this
      rw [vl_cons, ← this, h.1, vl_nil]; simp
    · rw [vl_cons, vl_cons, vl_trim l]
theorem Dg.trim : ∀ {l : List Nat}, Dg B l → Dg B (trimL l)
  | [], h => h
  | x :: l, h => by
    unfold trimL
    split
    · exact Dg.nil
    · exact Dg.cons h.head (Dg.trim h.tail)
theorem norm_trim : ∀ l : List Nat, Norm (trimL l)
  | [] => by simp [trimL, Norm]
  | x :: l => by
    have ih := norm_trim l
    unfold trimL
    split
    · simp [Norm]
    · rename_i h
      unfold Norm at *
      cases ht : trimL l with
      | nil => simp only [List.getLast?_singleton, ne_eq, Option.some.injEq]; intro e; exact h ⟨e, ht⟩
      | cons y r => rw [ht] at ih; rw [List.getLast?_cons_cons]; exact ih
theorem trim_take : ∀ l : List Nat, trimL l = l.take (trimL l).length
  | [] => rfl
  | x :: l => by
    unfold trimL
    split
    · rfl
    · rw [List.length_cons, List.take_succ_cons, ← trim_take l]
theorem trim_len (l : List Nat) : (trimL l).length ≤ l.length := by rw [trim_take l, List.length_take]; omega
theorem trim_snoc0 : ∀ l : List Nat, trimL (l ++ [0]) = trimL l
  | [] => rfl
  | x :: l => by rw [List.cons_append, trimL, trimL, trim_snoc0 l]
theorem trim_snoc : ∀ {l : List Nat}, x ≠ 0 → trimL (l ++ [x]) = l ++ [x]
  | [], h => by simp [trimL, h]
  | y :: l, h => by rw [List.cons_append, trimL, trim_snoc h, if_neg (by simp)]
theorem snoc_of (h : l ≠ []) : ∃ m x, l = m ++ [x] := by
  rcases List.eq_nil_or_concat l with h' | ⟨m, x, h'⟩
  · exact absurd h' h
  · exact ⟨m, x, by simpa using h'⟩
theorem norm_snoc : Norm (l ++ [x]) ↔ x ≠ 0 := by simp [Norm]
theorem vl_ge (hx : x ≠ 0) : B ^ l.length ≤ vl B (l ++ [x]) := by
  rw [vl_snoc]
  have : B ^ l.length * 1 ≤ B ^ l.length * x := Nat.mul_le_mul_left _ (by omega)
  omega
theorem norm_pos (hB : 0 < B) (hn : Norm l) (h0 : l ≠ []) : 0 < vl B l := by
  obtain ⟨m, x, rfl⟩ := snoc_of h0
  have := vl_ge (B := B) (l := m) (norm_snoc.1 hn)
  have := Nat.pow_pos (n := m.length) hB
  omega
/-- A longer number is greater. -/
theorem longer (hB : 1 < B) (hl : Dg B l) (hn : Norm m) (h : l.length < m.length) : vl B l < vl B m := by
  have h0 : m ≠ [] := by rintro rfl; simp at h
  obtain ⟨k, x, rfl⟩ := snoc_of h0
  have h1 := vl_ge (B := B) (l := k) (norm_snoc.1 hn)
  have h2 := vl_lt (B := B) (by omega) hl
  have h3 := Nat.pow_le_pow_right (n := B) (by omega) (show l.length ≤ k.length by simp at h; omega)
  omega
theorem norm_len (hB : 1 < B) (hl : Dg B l) (hm : Dg B m) (kl : Norm l) (km : Norm m) (h : vl B l = vl B m) : l.length = m.length := by
  rcases Nat.lt_trichotomy l.length m.length with c | c | c
  · have := longer hB hl km c; omega
  · exact c
  · have := longer hB hm kl c; omega
theorem norm_inj (hB : 1 < B) (hl : Dg B l) (hm : Dg B m) (kl : Norm l) (km : Norm m) (h : vl B l = vl B m) : l = m :=
  vl_inj (by omega) hl hm (norm_len hB hl hm kl km h) h
theorem vl_split (n : Nat) (hn : n ≤ l.length) : vl B l = vl B (l.take n) + B ^ n * vl B (l.drop n) := by
  conv => lhs; rw [← List.take_append_drop n l, vl_append, List.length_take, Nat.min_eq_left hn]
/-- Where the digits from i on are the same, the digit i tells. -/
theorem top_lt {a b : List Nat} (hB : 0 < B) (ha : Dg B a) (hl : a.length = b.length) (hi : i < a.length) (hs : a.drop (i + 1) = b.drop (i + 1)) (h : a.getD i 0 < b.getD i 0) : vl B a < vl B b := by
  rw [vl_split (B := B) (l := a) (i + 1) (by omega), vl_split (B := B) (l := b) (i + 1) (by omega), hs, vl_take_succ hi, vl_take_succ (by omega)]
  have h1 := vl_lt hB (ha.take i)
  rw [List.length_take, Nat.min_eq_left (by omega)] at h1
  have h2 : B ^ i * (a.getD i 0 + 1) ≤ B ^ i * b.getD i 0 := Nat.mul_le_mul_left _ h
  rw [Nat.mul_add] at h2; omega
theorem vl_set : ∀ {l : List Nat} {i : Nat}, i < l.length → vl B (l.set i x) + B ^ i * l.getD i 0 = vl B l + B ^ i * x
  | [], _, h => by simp at h
  | y :: l, 0, _ => by simp [vl_cons]; omega
  | y :: l, i + 1, h => by
    have ih := vl_set (l := l) (i := i) (by simpa using h)
    have e : B * (vl B (l.set i x) + B ^ i * l.getD i 0) = B * (vl B l + B ^ i * x) := by rw [ih]
    rw [Nat.mul_add, Nat.mul_add] at e
    have e2 : ∀ z, B ^ (i + 1) * z = B * (B ^ i * z) := fun z => by rw [Nat.pow_succ, Nat.mul_comm (B ^ i) B, Nat.mul_assoc]
    simp only [List.set_cons_succ, vl_cons, List.getD_cons_succ]
    rw [e2, e2]; omega
end Go.Ae.Bg


/- Sequences of whole numbers in memory. -/
set_option linter.unusedVariables false
set_option linter.unusedSimpArgs false
set_option maxRecDepth 100000
namespace Go.Ae
open Bg
noncomputable section
def wd (kd : IntKind) (n : Nat) : AV := .int kd n
def tokOf : AV → Nat
  | .sl t _ _ _ => t
  | _ => 0
def offOf : AV → Nat
  | .sl _ o _ _ => o
  | _ => 0
/-- A slice with these numbers. -/
def Sq (kd : IntKind) (h : Hp) (v : AV) (l : List Nat) : Prop :=
  (v = .nils ∧ l = []) ∨ ∃ (t o : Nat) (own : Bool) (st : Nat) (L : List Nat), v = .sl t o l.length 1 ∧ h.get t = some (.row (L.map (wd kd)) own st) ∧ o + l.length ≤ L.length ∧ (L.drop o).take l.length = l ∧ t < h.next ∧ st ≤ h.clk
/-- What a walk wants to know of it. -/
structure Rd (kd : IntKind) (h : Hp) (v : AV) (l : List Nat) : Prop where
  len : lenK .slice v = some (.int .i64 l.length)
  adr : ∀ (k : IntKind) (i : Int), 0 ≤ i ∧ i < l.length → iadrK 1 v (.int k i) = some (.ptr (tokOf v) (offOf v + i.toNat))
  tok : l.length ≠ 0 → tokOf v < h.next
  load : ∀ i, i < l.length → ∀ h' K, LoadR false 1 (offOf v + i) (h.get (tokOf v)) h' K ↔ K (.int kd (l.getD i 0 : Nat)) h'
  old : l.length ≠ 0 → ∀ c0, h.clk ≤ c0 → OldR (h.get (tokOf v)) c0 = true
section
variable {kd : IntKind} {h h' : Hp} {v : AV} {l L : List Nat} {i x t o n st : Nat} {own : Bool} {K : AV → Hp → Prop}
theorem Sq.grs (s : Sq kd h v l) (g : Grs h h') : Sq kd h' v l := by
  rcases s with s | ⟨t, o, own, st, L, e, hg, h1, h2, h3, h4⟩
  · exact .inl s
  · exact .inr ⟨t, o, own, st, L, e, (g.get h3).trans hg, h1, h2, Nat.lt_of_lt_of_le h3 g.next, Nat.le_trans h4 g.clk⟩
theorem Sq.nil : Sq kd h .nils [] := .inl ⟨rfl, rfl⟩
theorem Sq.all (hg : h.get t = some (.row (l.map (wd kd)) own st)) (ht : t < h.next) (hs : st ≤ h.clk) : Sq kd h (.sl t 0 l.length 1) l :=
  .inr ⟨t, 0, own, st, l, rfl, hg, by simp, by simp, ht, hs⟩
theorem row_get (hi : i < L.length) : (L.map (wd kd))[i]? = some (.int kd (L.getD i 0 : Nat)) := by
  rw [List.getElem?_map, List.getElem?_eq_getElem hi, getD_eq hi]; rfl
theorem set_row (hi : i < L.length) : List.take i (L.map (wd kd)) ++ .int kd (x : Int) :: List.drop (i + 1) (L.map (wd kd)) = (L.set i x).map (wd kd) := by
  rw [List.map_set, List.set_eq_take_append_cons_drop, if_pos (by simpa using hi)]; rfl
theorem win_get (h1 : o + l.length ≤ L.length) (h2 : (L.drop o).take l.length = l) (hi : i < l.length) : L.getD (o + i) 0 = l.getD i 0 := by
  conv => rhs; rw [← h2]
  simp only [List.getD, List.getElem?_take, if_pos hi, List.getElem?_drop]
theorem Sq.rd (s : Sq kd h v l) : Rd kd h v l := by
  rcases s with ⟨rfl, rfl⟩ | ⟨t, o, own, st, L, rfl, hg, h1, h2, h3, h4⟩
  · refine ⟨rfl, fun k i hi => ?_, fun e => absurd rfl e, fun i hi => ?_, fun e => absurd rfl e⟩
    · simp only [List.length_nil] at hi; omega
    · simp only [List.length_nil] at hi; omega
  · refine ⟨rfl, fun k i hi => ?_, fun _ => h3, fun i hi h' K => ?_, fun _ c0 hc => ?_⟩
    · rw [iadrK_sl hi]; simp only [tokOf, offOf, Nat.mul_one]
    · simp only [tokOf, offOf, hg, LoadR.row]
      rw [if_pos (by rw [List.length_map]; omega), if_neg (by decide), row_get (by omega), win_get h1 h2 hi]
      exact Iff.rfl
    · simp only [tokOf, hg]; exact OldR.row (Nat.le_trans h4 hc)
theorem Sq.take (s : Sq kd h v l) (n : Nat) (hn : n ≤ l.length) : ∀ {v'}, (v' = .nils ∧ v = .nils ∨ v' = .sl (tokOf v) (offOf v) n 1 ∧ v ≠ .nils) → Sq kd h v' (l.take n) := by
  intro v' hv
  rcases s with ⟨rfl, rfl⟩ | ⟨t, o, own, st, L, rfl, hg, h1, h2, h3, h4⟩
  · rcases hv with ⟨rfl, _⟩ | ⟨_, e⟩
    · simpa using Sq.nil
    · exact absurd rfl e
  · rcases hv with ⟨_, e⟩ | ⟨rfl, _⟩
    · cases e
    · refine .inr ⟨t, o, own, st, L, ?_, hg, ?_, ?_, h3, h4⟩
      · simp only [tokOf, offOf, List.length_take, Nat.min_eq_left hn]
      · rw [List.length_take]; omega
      · rw [List.length_take, Nat.min_eq_left hn]
        conv => rhs; rw [← h2]
        rw [List.take_take, Nat.min_eq_left hn]
/-- What lies at a token, of one's own. -/
def AtS (h : Hp) (t : Nat) (cs : List AV) : Prop := ∃ st, h.get t = some (.row cs true st) ∧ st ≤ h.clk ∧ t < h.next
theorem AtS.put {cs : List AV} (ht : t < h.next) : AtS (h.put t fun s => .row cs true s) t cs := ⟨_, Hp.put_same, Nat.le_refl _, ht⟩
theorem AtS.push {cs : List AV} : AtS (h.push fun s => .row cs true s) h.next cs := ⟨_, Hp.push_same, Nat.le_refl _, Nat.lt_succ_self _⟩
theorem AtS.sq (a : AtS h t (l.map (wd kd))) {n : Nat} (hn : l.length = n) : Sq kd h (.sl t 0 n 1) l := by
  obtain ⟨st, hg, hs, ht⟩ := a
  subst hn
  exact Sq.all hg ht hs
theorem AtS.other {cs : List AV} {u : Nat} {f : Nat → AObj} (a : AtS h t cs) (hu : t ≠ u) : AtS (h.put u f) t cs := by
  obtain ⟨st, hg, hs, ht⟩ := a
  exact ⟨st, (Hp.put_other hu).trans hg, Nat.le_succ_of_le hs, ht⟩
theorem AtS.grs {cs : List AV} (a : AtS h t cs) (g : Grs h h') : AtS h' t cs := by
  obtain ⟨st, hg, hs, ht⟩ := a
  exact ⟨st, (g.get ht).trans hg, Nat.le_trans hs g.clk, Nat.lt_of_lt_of_le ht g.next⟩
/-! make([]T, n), w[:n], w[i:j] -/
def MksK (b : Nat) (z l c : AV) (h : Hp) (K : AV → Hp → Prop) : Prop :=
  match l, c with
  | .int .i64 l, .int .i64 c => 0 ≤ l ∧ l ≤ c ∧ c * b ≤ 281474976710656 ∧ c ≤ 281474976710656 ∧ z.one = true ∧ K (.sl h.next 0 l.toNat 1) (h.push fun s => .row (rep l.toNat [z]) true s)
  | _, _ => False
theorem rep_one (z : AV) : ∀ n : Nat, rep n [z] = List.replicate n z
  | 0 => rfl
  | n + 1 => by rw [rep, rep_one z n, List.replicate_succ]; rfl
theorem w_mks1 {E : Env} {s : St} {b : Nat} {z : AV} {x y : Opd} : OpWp E (.mks 1 b [z] x y) s K ↔ MksK b z (val s.tm x) (val s.tm y) s.hp K := by
  rw [w_mks]
  simp only [o_mks, MksK]
  cases val s.tm x <;> try exact Iff.rfl
  rename_i k l
  cases k <;> try exact Iff.rfl
  cases val s.tm y <;> try exact Iff.rfl
  rename_i k' c
  cases k' <;> try exact Iff.rfl
  simp only
  split
  · rename_i hc
    obtain ⟨a1, a2, a3, a4, a5, a6, a7⟩ := hc
    have a7' : z.one = true := by simpa using a7
    simp only [Some2, a1, a2, a3, a4, a7', true_and]
  · rename_i hc
    simp only [Some2, false_iff]
    rintro ⟨a1, a2, a3, a4, a5, _⟩
    exact hc ⟨a1, a2, a3, a4, rfl, by decide, by simpa using a5⟩
theorem MksK.int {b : Nat} {z : AV} {n : Nat} (hz : z.one = true) (hn : n ≤ 281474976710656 ∧ n * b ≤ 281474976710656) : MksK b z (.int .i64 n) (.int .i64 n) h K ↔ K (.sl h.next 0 n 1) (h.push fun s => .row (List.replicate n z) true s) := by
  have : ((n : Int)) * b ≤ 281474976710656 := by have := hn.2; rw [← Int.natCast_mul]; exact Int.ofNat_le.2 this
  have h1 : (0 : Int) ≤ n := by omega
  have h2 : (n : Int) ≤ 281474976710656 := by omega
  simp only [MksK, hz, rep_one, Int.toNat_natCast, this, h1, h2, Int.le_refl, true_and]
theorem MksK.int' {b : Nat} {z : AV} {m : Int} (n : Nat) (hm : m = n) (hz : z.one = true) (hn : n ≤ 281474976710656 ∧ n * b ≤ 281474976710656) : MksK b z (.int .i64 m) (.int .i64 m) h K ↔ K (.sl h.next 0 n 1) (h.push fun s => .row (List.replicate n z) true s) := by
  subst hm; exact MksK.int hz hn
theorem slA_hi {t o n z sz : Nat} {kd : IntKind} {k : Int} (hk : 0 ≤ k ∧ k ≤ n) : slA h sz (.sl t o n z) none (some (.int kd k)) = some (.sl t o k.toNat z, h) := by
  have : ((0 : Nat) : Int) ≤ k ∧ k ≤ (n : Int) := by omega
  simp only [slA, bound, if_pos this, if_true]
theorem Some2.som {v : AV} : Some2 (some (v, h)) K ↔ K v h := Iff.rfl
attribute [go_sem] w_mks1 w_sl Some2.som
end
section
variable {h : Hp} {K : AV → Hp → Prop}
end
end
end Go.Ae


/- Words: comparison, sum and difference. -/
set_option linter.unusedVariables false
set_option linter.unusedSimpArgs false
set_option maxRecDepth 100000
namespace Go.Ae
open Bg
noncomputable section
def cmpN (a b : Nat) : Int := if a < b then -1 else if b < a then 1 else 0
section
variable {h : Hp} {K : AV → Hp → Prop}
end
end
end Go.Ae


/- Small whole numbers of the program's own arithmetic: products, powers, roots. -/
set_option linter.unusedVariables false
set_option linter.unusedSimpArgs false
set_option maxRecDepth 100000
namespace Go.Ae
open Go.Proofs
section
variable {h : Hp} {K : AV → Hp → Prop}
theorem c195 {a b : Int} (ha : -9223372036854775808 ≤ a ∧ a ≤ 9223372036854775807) (hb : -9223372036854775808 ≤ b ∧ b ≤ 9223372036854775807) (hab : a.natAbs * b.natAbs ≤ 9223372036854775807) : Gv E2 195 [sI a, sI b] h (sI (a * b)) := by
  refine Gv.of (CallWp.fn (fn := C.a195) rfl rfl rfl ?_)
  unfold C.a195
  have e1 : a.natAbs * b.natAbs / 18446744073709551616 = 0 := Nat.div_eq_of_lt (by omega)
  have e2 : a.natAbs * b.natAbs % 18446744073709551616 = a.natAbs * b.natAbs := Nat.mod_eq_of_lt (by omega)
  have e3 : (((a.natAbs * b.natAbs : Nat) : Int) ≤ 9223372036854775807) := Int.ofNat_le.2 hab
  have e5 : (0 : Int) ≤ ((a.natAbs * b.natAbs : Nat) : Int) := Int.natCast_nonneg _
  have e6 : ((0 : Nat) : Int) = 0 := rfl
  by_cases h1 : a < 0 <;> by_cases h2 : b < 0
  · have d1 : decide (a < 0) = true := decide_eq_true h1
    have d2 : decide (b < 0) = true := decide_eq_true h2
    have e4 : ((a.natAbs * b.natAbs : Nat) : Int) = a * b := by
      rw [Int.natCast_mul, show (a.natAbs : Int) = -a by omega, show (b.natAbs : Int) = -b by omega, Int.neg_mul_neg]
    repeat' (with_reducible first | simp (disch := first | assumption | omega | (simp only [go_sem, ne_eq, Nat.reduceAdd, Nat.reduceLeDiff] <;> omega) | fail) only [go_sem, seval, c262, c261, e1, e2, d1, d2, e6] | ((first | apply k1 | apply k2 | apply k3 | apply k4 | apply k5 | apply k6 | apply k7) <;> intro hc))
    rw [e4]
    (try first | refine ⟨trivial, ?_⟩ | refine ⟨rfl, ?_⟩); (repeat (first | exact Grs.refl _ | assumption | refine Grs.push ?_ | refine Grs.ov ?_ | refine Grs.put ?_ (by (try simp only [Hp.next_push, Hp.next_put, Hp.ov_next, Hp.clk_push, Hp.clk_put, Hp.ov_clk]); omega)))
  · have d1 : decide (a < 0) = true := decide_eq_true h1
    have d2 : decide (b < 0) = false := decide_eq_false h2
    have e4 : -((a.natAbs * b.natAbs : Nat) : Int) = a * b := by
      rw [Int.natCast_mul, show (a.natAbs : Int) = -a by omega, show (b.natAbs : Int) = b by omega, Int.neg_mul, Int.neg_neg]
    repeat' (with_reducible first | simp (disch := first | assumption | omega | (simp only [go_sem, ne_eq, Nat.reduceAdd, Nat.reduceLeDiff] <;> omega) | fail) only [go_sem, seval, c262, c261, e1, e2, d1, d2, e6] | ((first | apply k1 | apply k2 | apply k3 | apply k4 | apply k5 | apply k6 | apply k7) <;> intro hc))
    rw [e4]
    (try first | refine ⟨trivial, ?_⟩ | refine ⟨rfl, ?_⟩); (repeat (first | exact Grs.refl _ | assumption | refine Grs.push ?_ | refine Grs.ov ?_ | refine Grs.put ?_ (by (try simp only [Hp.next_push, Hp.next_put, Hp.ov_next, Hp.clk_push, Hp.clk_put, Hp.ov_clk]); omega)))
  · have d1 : decide (a < 0) = false := decide_eq_false h1
    have d2 : decide (b < 0) = true := decide_eq_true h2
    have e4 : -((a.natAbs * b.natAbs : Nat) : Int) = a * b := by
      rw [Int.natCast_mul, show (a.natAbs : Int) = a by omega, show (b.natAbs : Int) = -b by omega, Int.mul_neg, Int.neg_neg]
    repeat' (with_reducible first | simp (disch := first | assumption | omega | (simp only [go_sem, ne_eq, Nat.reduceAdd, Nat.reduceLeDiff] <;> omega) | fail) only [go_sem, seval, c262, c261, e1, e2, d1, d2, e6] | ((first | apply k1 | apply k2 | apply k3 | apply k4 | apply k5 | apply k6 | apply k7) <;> intro hc))
    rw [e4]
    (try first | refine ⟨trivial, ?_⟩ | refine ⟨rfl, ?_⟩); (repeat (first | exact Grs.refl _ | assumption | refine Grs.push ?_ | refine Grs.ov ?_ | refine Grs.put ?_ (by (try simp only [Hp.next_push, Hp.next_put, Hp.ov_next, Hp.clk_push, Hp.clk_put, Hp.ov_clk]); omega)))
  · have d1 : decide (a < 0) = false := decide_eq_false h1
    have d2 : decide (b < 0) = false := decide_eq_false h2
    have e4 : ((a.natAbs * b.natAbs : Nat) : Int) = a * b := by
      rw [Int.natCast_mul, show (a.natAbs : Int) = a by omega, show (b.natAbs : Int) = b by omega]
    repeat' (with_reducible first | simp (disch := first | assumption | omega | (simp only [go_sem, ne_eq, Nat.reduceAdd, Nat.reduceLeDiff] <;> omega) | fail) only [go_sem, seval, c262, c261, e1, e2, d1, d2, e6] | ((first | apply k1 | apply k2 | apply k3 | apply k4 | apply k5 | apply k6 | apply k7) <;> intro hc))
    rw [e4]
    (try first | refine ⟨trivial, ?_⟩ | refine ⟨rfl, ?_⟩); (repeat (first | exact Grs.refl _ | assumption | refine Grs.push ?_ | refine Grs.ov ?_ | refine Grs.put ?_ (by (try simp only [Hp.next_push, Hp.next_put, Hp.ov_next, Hp.clk_push, Hp.clk_put, Hp.ov_clk]); omega)))
theorem m195 {a b : Nat} (hab : a * b ≤ 9223372036854775807) (ha : a ≤ 9223372036854775807) (hb : b ≤ 9223372036854775807) : Gv E2 195 [sI a, sI b] h (sI (a * b : Nat)) := by
  rw [Int.natCast_mul]
  exact c195 (by omega) (by omega) (by rw [Int.natAbs_natCast, Int.natAbs_natCast]; exact hab)
theorem b_shr1 {q : EqK} {a : Nat} : binA .shr q (.int .i64 a) (.int .u64 1) = some (.int .i64 ((a / 2 : Nat) : Int)) := b_shrL (n := 1) (by decide)
/-- The parts of a small number. -/
def SmParts (n : Int) (h : Hp) (v : AV) (h' : Hp) : Prop :=
  (n = 0 ∧ v = .tup [.bool false, .nils]) ∨ (n ≠ 0 ∧ ∃ t st, v = .tup [.bool (decide (n < 0)), .sl t 0 1 1] ∧ h'.get t = some (.row [.int .u64 (n.natAbs : Int)] true st) ∧ h.next ≤ t ∧ t < h'.next ∧ st ≤ h'.clk)
theorem c202s {n : Int} (hn : -9223372036854775808 ≤ n ∧ n ≤ 9223372036854775807) : Gp E2 202 [sI n] h (SmParts n h) := by
  refine Gp.of (CallWp.fn (fn := C.a202) rfl rfl rfl ?_)
  unfold C.a202
  by_cases h0 : n = 0
  · repeat' (with_reducible first | simp (disch := first | assumption | omega | (simp only [go_sem, ne_eq, Nat.reduceAdd, Nat.reduceLeDiff] <;> omega) | fail) only [go_sem, seval, c262] | ((first | apply k1 | apply k2 | apply k3 | apply k4 | apply k5 | apply k6 | apply k7) <;> intro hc))
    refine ⟨.inl ⟨h0, rfl⟩, ?_⟩
    (try first | refine ⟨trivial, ?_⟩ | refine ⟨rfl, ?_⟩); (repeat (first | exact Grs.refl _ | assumption | refine Grs.push ?_ | refine Grs.ov ?_ | refine Grs.put ?_ (by (try simp only [Hp.next_push, Hp.next_put, Hp.ov_next, Hp.clk_push, Hp.clk_put, Hp.ov_clk]); omega)))
  · repeat' (with_reducible first | simp (disch := first | assumption | omega | (simp only [go_sem, ne_eq, Nat.reduceAdd, Nat.reduceLeDiff] <;> omega) | fail) only [go_sem, seval, c262] | ((first | apply k1 | apply k2 | apply k3 | apply k4 | apply k5 | apply k6 | apply k7) <;> intro hc))
    refine ⟨.inr ⟨h0, _, _, rfl, Hp.push_same, ?_, ?_, ?_⟩, ?_⟩
    · (first | omega | (simp only [Hp.next_push, Hp.next_put, Hp.ov_next, Hp.clk_push, Hp.clk_put, Hp.ov_clk] <;> omega) | fail)
    · (first | omega | (simp only [Hp.next_push, Hp.next_put, Hp.ov_next, Hp.clk_push, Hp.clk_put, Hp.ov_clk] <;> omega) | fail)
    · (first | omega | (simp only [Hp.next_push, Hp.next_put, Hp.ov_next, Hp.clk_push, Hp.clk_put, Hp.ov_clk] <;> omega) | fail)
    · (try first | refine ⟨trivial, ?_⟩ | refine ⟨rfl, ?_⟩); (repeat (first | exact Grs.refl _ | assumption | refine Grs.push ?_ | refine Grs.ov ?_ | refine Grs.put ?_ (by (try simp only [Hp.next_push, Hp.next_put, Hp.ov_next, Hp.clk_push, Hp.clk_put, Hp.ov_clk]); omega)))
theorem c199s {n : Int} (hn : -9223372036854775808 ≤ n ∧ n ≤ 9223372036854775807) : Gv E2 199 [sI n] h (.int .i64 (bitLen n.natAbs : Nat)) := by
  refine Gv.of (CallWp.fn (fn := C.a199) rfl rfl rfl ?_)
  unfold C.a199
  have hb := bitLen_lt (n := n.natAbs) (k := 64) (by omega)
  repeat' (with_reducible first | simp (disch := first | assumption | omega | (simp only [go_sem, ne_eq, Nat.reduceAdd, Nat.reduceLeDiff] <;> omega) | fail) only [go_sem, seval] | ((first | apply k1 | apply k2 | apply k3 | apply k4 | apply k5 | apply k6 | apply k7) <;> intro hc))
  refine Gp.wp (c202s hn) fun v h' k j g hp => ?_
  rcases hp with ⟨h0, rfl⟩ | ⟨h0, t, st, rfl, hg, h1, h2, h3⟩
  · repeat' (with_reducible first | simp (disch := first | assumption | omega | (simp only [go_sem, ne_eq, Nat.reduceAdd, Nat.reduceLeDiff] <;> omega) | fail) only [go_sem, seval] | ((first | apply k1 | apply k2 | apply k3 | apply k4 | apply k5 | apply k6 | apply k7) <;> intro hc))
    subst h0
    refine ⟨rfl, ?_⟩
    (try first | refine ⟨trivial, ?_⟩ | refine ⟨rfl, ?_⟩); (repeat (first | exact Grs.refl _ | assumption | refine Grs.push ?_ | refine Grs.ov ?_ | refine Grs.put ?_ (by (try simp only [Hp.next_push, Hp.next_put, Hp.ov_next, Hp.clk_push, Hp.clk_put, Hp.ov_clk]); omega)))
  · repeat' (with_reducible first | simp (disch := first | assumption | omega | (simp only [go_sem, ne_eq, Nat.reduceAdd, Nat.reduceLeDiff] <;> omega) | fail) only [go_sem, seval, hg, c266] | ((first | apply k1 | apply k2 | apply k3 | apply k4 | apply k5 | apply k6 | apply k7) <;> intro hc))
    (try first | refine ⟨trivial, ?_⟩ | refine ⟨rfl, ?_⟩); (repeat (first | exact Grs.refl _ | assumption | refine Grs.push ?_ | refine Grs.ov ?_ | refine Grs.put ?_ (by (try simp only [Hp.next_push, Hp.next_put, Hp.ov_next, Hp.clk_push, Hp.clk_put, Hp.ov_clk]); omega)))
/-- A power. -/
theorem c198s {a k : Nat} (ha : 1 ≤ a) (hk : a ^ k ≤ 9223372036854775807) (hk' : k ≤ 1000000) : Gv E2 198 [sI a, .int .i64 k] h (sI (a ^ k : Nat)) := by
  refine Gv.of (CallWp.fn (fn := C.a198) rfl rfl rfl ?_)
  unfold C.a198
  repeat' (with_reducible first | simp (disch := first | assumption | omega | (simp only [go_sem, ne_eq, Nat.reduceAdd, Nat.reduceLeDiff] <;> omega) | fail) only [go_sem, seval] | (refine Gv.wp (c120) fun _ _ _ _ => ?_) | ((first | apply k1 | apply k2 | apply k3 | apply k4 | apply k5 | apply k6 | apply k7) <;> intro hc))
  refine Wp.loopI (fun m s => ∃ x y k' : Nat, val s.tm (.t 1) = .int .i64 k' ∧ val s.tm (.t 2) = .ptr h.next 0 ∧ val s.tm (.t 4) = .ptr (h.next + 1) 0 ∧ ∃ t5, val s.tm (.t 5) = .ptr t5 0 ∧ At s.hp t5 [.int .i64 y, .nils] ∧ At s.hp h.next [.int .i64 x, .nils] ∧ At s.hp (h.next + 1) [.int .i64 0, .nils] ∧
    (h.next + 1 < t5 ∧ t5 < s.hp.next ∧ y * x ^ k' = a ^ k ∧ 1 ≤ y ∧ 1 ≤ x ∧ k' ≤ 1000000 ∧ k' = m) ∧ Grs h s.hp) (n := k) ?_ ?_
  · refine ⟨a, 1, k, ?_⟩
    simp (disch := first | assumption | omega | (simp only [go_sem, ne_eq, Nat.reduceAdd, Nat.reduceLeDiff] <;> omega) | fail) only [go_sem, seval]
    refine ⟨⟨by omega, by omega, by omega, ha, hk'⟩, ?_⟩
    (try first | refine ⟨trivial, ?_⟩ | refine ⟨rfl, ?_⟩); (repeat (first | exact Grs.refl _ | assumption | refine Grs.push ?_ | refine Grs.ov ?_ | refine Grs.put ?_ (by (try simp only [Hp.next_push, Hp.next_put, Hp.ov_next, Hp.clk_push, Hp.clk_put, Hp.ov_clk]); omega)))
  · rintro m ⟨tm, hp⟩ ⟨x, y, k', h1, h2, h4, t5, h5, ⟨s5, g5⟩, ⟨s0, g0⟩, ⟨s1, g1⟩, ⟨n1, n2, heq, hy, hx, hk2, rfl⟩, G⟩
    simp only at h1 h2 h4 h5 g5 g0 g1 n2 G
    have A5 : At hp t5 [.int .i64 y, .nils] := ⟨_, g5⟩
    have A0 : At hp h.next [.int .i64 x, .nils] := ⟨_, g0⟩
    have A1 : At hp (h.next + 1) [.int .i64 0, .nils] := ⟨_, g1⟩
    rcases Nat.eq_zero_or_pos k' with rfl | hp0
    · have e1 : ((0 : Nat) : Int) = 0 := rfl
      have hyv : y = a ^ k := by rw [← heq]; simp
      repeat' (with_reducible first | simp (disch := first | assumption | omega | (simp only [go_sem, ne_eq, Nat.reduceAdd, Nat.reduceLeDiff] <;> omega) | fail) only [go_sem, seval, h1, h2, h4, h5, g5, g0, g1] | ((first | apply k1 | apply k2 | apply k3 | apply k4 | apply k5 | apply k6 | apply k7) <;> intro hc))
      subst hyv
      (try first | refine ⟨trivial, ?_⟩ | refine ⟨rfl, ?_⟩); (repeat (first | exact Grs.refl _ | assumption | refine Grs.push ?_ | refine Grs.ov ?_ | refine Grs.put ?_ (by (try simp only [Hp.next_push, Hp.next_put, Hp.ov_next, Hp.clk_push, Hp.clk_put, Hp.ov_clk]); omega)))
    · have bx : x ≤ x ^ k' := Nat.le_self_pow (by omega) x
      have by_ : y * x ^ k' ≤ 9223372036854775807 := by omega
      have b1 : y * x ≤ y * x ^ k' := Nat.mul_le_mul_left y bx
      have b2 : 2 ≤ k' → x * x ≤ x ^ k' := fun e => by
        have := Nat.pow_le_pow_right hx e
        rwa [Nat.pow_two] at this
      have b3 : x ^ k' ≤ y * x ^ k' := Nat.le_mul_of_pos_left _ hy
      have b4 : y ≤ y * x ^ k' := Nat.le_mul_of_pos_right _ (by omega)
      have b5 : 2 ≤ k' → x * x ≤ 9223372036854775807 := fun e => by have := b2 e; omega
      have p2 : x ^ k' = (x * x) ^ (k' / 2) * x ^ (k' % 2) := by
        rw [← Nat.pow_two, ← Nat.pow_mul, ← Nat.pow_add, Nat.div_add_mod]
      have x2 : 1 ≤ x * x := Nat.mul_pos hx hx
      rcases Nat.mod_two_eq_zero_or_one k' with hm | hm
      · have k1 : 1 < (k' : Int) := by omega
        repeat' (with_reducible first | simp (disch := first | assumption | omega | (simp only [go_sem, ne_eq, Nat.reduceAdd, Nat.reduceLeDiff] <;> omega) | fail) only [go_sem, seval, h1, h2, h4, h5, g5, g0, g1, b_and1, b_shr1, hm] | (refine Gv.wp (m195 (b5 (by omega)) (by omega) (by omega)) fun _ _ _ _ => ?_) | ((first | apply k1 | apply k2 | apply k3 | apply k4 | apply k5 | apply k6 | apply k7) <;> intro hc))
        refine ⟨k' / 2, by omega, x * x, y, k' / 2, ?_⟩
        simp (disch := first | assumption | omega | (simp only [go_sem, ne_eq, Nat.reduceAdd, Nat.reduceLeDiff] <;> omega) | fail) only [go_sem, seval, h1, h2, h4, h5, A5, A0, A1]
        rw [hm, Nat.pow_zero, Nat.mul_one] at p2
        refine ⟨⟨n1, by omega, by rw [← p2, heq], hy, x2, by omega⟩, ?_⟩
        (try first | refine ⟨trivial, ?_⟩ | refine ⟨rfl, ?_⟩); (repeat (first | exact Grs.refl _ | assumption | refine Grs.push ?_ | refine Grs.ov ?_ | refine Grs.put ?_ (by (try simp only [Hp.next_push, Hp.next_put, Hp.ov_next, Hp.clk_push, Hp.clk_put, Hp.ov_clk]); omega)))
      · by_cases k1 : 1 < (k' : Int)
        · repeat' (with_reducible first | simp (disch := first | assumption | omega | (simp only [go_sem, ne_eq, Nat.reduceAdd, Nat.reduceLeDiff] <;> omega) | fail) only [go_sem, seval, h1, h2, h4, h5, g5, g0, g1, b_and1, b_shr1, hm] | (refine Gv.wp (m195 (show y * x ≤ _ by omega) (by omega) (by omega)) fun _ _ _ _ => ?_) | (refine Gv.wp (m195 (b5 (by omega)) (by omega) (by omega)) fun _ _ _ _ => ?_) | ((first | apply k1 | apply k2 | apply k3 | apply k4 | apply k5 | apply k6 | apply k7) <;> intro hc))
          refine ⟨k' / 2, by omega, x * x, y * x, k' / 2, ?_⟩
          simp (disch := first | assumption | omega | (simp only [go_sem, ne_eq, Nat.reduceAdd, Nat.reduceLeDiff] <;> omega) | fail) only [go_sem, seval, h1, h2, h4, h5, A5, A0, A1]
          rw [hm, Nat.pow_one] at p2
          refine ⟨⟨n1, by omega, by rw [← heq, p2, Nat.mul_assoc, Nat.mul_comm x], Nat.mul_pos hy hx, x2, by omega⟩, ?_⟩
          (try first | refine ⟨trivial, ?_⟩ | refine ⟨rfl, ?_⟩); (repeat (first | exact Grs.refl _ | assumption | refine Grs.push ?_ | refine Grs.ov ?_ | refine Grs.put ?_ (by (try simp only [Hp.next_push, Hp.next_put, Hp.ov_next, Hp.clk_push, Hp.clk_put, Hp.ov_clk]); omega)))
        · repeat' (with_reducible first | simp (disch := first | assumption | omega | (simp only [go_sem, ne_eq, Nat.reduceAdd, Nat.reduceLeDiff] <;> omega) | fail) only [go_sem, seval, h1, h2, h4, h5, g5, g0, g1, b_and1, b_shr1, hm] | (refine Gv.wp (m195 (show y * x ≤ _ by omega) (by omega) (by omega)) fun _ _ _ _ => ?_) | ((first | apply k1 | apply k2 | apply k3 | apply k4 | apply k5 | apply k6 | apply k7) <;> intro hc))
          refine ⟨k' / 2, by omega, x, y * x, k' / 2, ?_⟩
          simp (disch := first | assumption | omega | (simp only [go_sem, ne_eq, Nat.reduceAdd, Nat.reduceLeDiff] <;> omega) | fail) only [go_sem, seval, h1, h2, h4, h5, A5, A0, A1]
          have k1' : k' = 1 := by omega
          refine ⟨⟨n1, by omega, by rw [← heq, k1']; simp, Nat.mul_pos hy hx, hx, by omega⟩, ?_⟩
          (try first | refine ⟨trivial, ?_⟩ | refine ⟨rfl, ?_⟩); (repeat (first | exact Grs.refl _ | assumption | refine Grs.push ?_ | refine Grs.ov ?_ | refine Grs.put ?_ (by (try simp only [Hp.next_push, Hp.next_put, Hp.ov_next, Hp.clk_push, Hp.clk_put, Hp.ov_clk]); omega)))
end
end Go.Ae


/- Small whole numbers of the program's own arithmetic: square roots. -/
set_option linter.unusedVariables false
set_option linter.unusedSimpArgs false
set_option maxRecDepth 100000
namespace Go.Ae
open Go.Proofs
/-- The greatest number whose square is at most n. -/
def isq : Nat → Nat
  | 0 => 0
  | n + 1 => if (isq n + 1) * (isq n + 1) ≤ n + 1 then isq n + 1 else isq n
theorem isq_spec : ∀ n, isq n * isq n ≤ n ∧ n < (isq n + 1) * (isq n + 1)
  | 0 => by decide
  | n + 1 => by
    have ⟨h1, h2⟩ := isq_spec n
    simp only [isq]
    split
    · rename_i hc
      refine ⟨hc, ?_⟩
      have : (isq n + 1 + 1) * (isq n + 1 + 1) = (isq n + 1) * (isq n + 1) + 2 * (isq n + 1) + 1 := by
        simp only [Nat.add_mul, Nat.mul_add]; omega
      omega
    · exact ⟨by omega, by omega⟩
theorem isq_eq {n r : Nat} (h1 : r * r ≤ n) (h2 : n < (r + 1) * (r + 1)) : r = isq n := by
  have ⟨h3, h4⟩ := isq_spec n
  rcases Nat.lt_trichotomy r (isq n) with h | h | h
  · have := Nat.mul_le_mul (show r + 1 ≤ isq n by omega) (show r + 1 ≤ isq n by omega); omega
  · exact h
  · have := Nat.mul_le_mul (show isq n + 1 ≤ r by omega) (show isq n + 1 ≤ r by omega); omega
/-- One step of Newton's does not pass the root. -/
theorem newton_ge {n x : Nat} (hx : 0 < x) (h : n < (x + 1) * (x + 1)) : n < ((x + n / x) / 2 + 1) * ((x + n / x) / 2 + 1) := by
  have ⟨h3, h4⟩ := isq_spec n
  have key : isq n ≤ (x + n / x) / 2 := by
    rcases Nat.lt_or_ge ((x + n / x) / 2) (isq n) with hl | hl
    · exfalso
      have e1 : n < (n / x + 1) * x := by
        have := Nat.lt_mul_div_succ n hx; rw [Nat.mul_comm]; exact this
      have e2 : n / x + 1 + x ≤ 2 * isq n := by omega
      have e3 : ((n / x + 1 : Nat) : Int) * x ≤ (isq n : Int) * isq n := by
        have q1 : ((n / x + 1 : Nat) : Int) ≤ 2 * isq n - x := by omega
        have q2 := Int.mul_le_mul_of_nonneg_right q1 (show (0 : Int) ≤ x by omega)
        have q3 : 0 ≤ ((isq n : Int) - x) * ((isq n : Int) - x) := by
          rcases Int.le_total 0 ((isq n : Int) - x) with hh | hh
          · exact Int.mul_nonneg hh hh
          · exact Int.mul_nonneg_of_nonpos_of_nonpos hh hh
        have q4 : ((isq n : Int) - x) * ((isq n : Int) - x) = (isq n : Int) * isq n - 2 * (isq n * x) + x * x := by
          rw [Int.sub_mul, Int.mul_sub, Int.mul_sub, Int.mul_comm (x : Int) (isq n)]; omega
        have q5 : (2 * (isq n : Int) - x) * x = 2 * (isq n * x) - x * x := by
          rw [Int.sub_mul, Int.mul_assoc]
        omega
      have e4 : (n / x + 1) * x ≤ isq n * isq n := by
        have : (((n / x + 1) * x : Nat) : Int) ≤ ((isq n * isq n : Nat) : Int) := by rw [Int.natCast_mul, Int.natCast_mul]; exact e3
        exact Int.ofNat_le.1 this
      omega
    · exact hl
  have := Nat.mul_le_mul (show isq n + 1 ≤ (x + n / x) / 2 + 1 by omega) (show isq n + 1 ≤ (x + n / x) / 2 + 1 by omega)
  omega
theorem newton_end {n x : Nat} (hx : 0 < x) (h : n < (x + 1) * (x + 1)) (he : x ≤ (x + n / x) / 2) : x = isq n := by
  refine isq_eq ?_ h
  have h1 : x ≤ n / x := by omega
  have := Nat.mul_le_mul_left x h1
  have h2 := Nat.mul_div_le n x
  omega
theorem newton_first (n : Nat) : n < (2 ^ ((bitLen n + 1) / 2) + 1) * (2 ^ ((bitLen n + 1) / 2) + 1) := by
  have h1 : n < 2 ^ bitLen n := bitLen_le (Nat.le_refl _)
  have h2 : 2 ^ bitLen n ≤ 2 ^ ((bitLen n + 1) / 2 + (bitLen n + 1) / 2) := Nat.pow_le_pow_right (by decide) (by omega)
  rw [Nat.pow_add] at h2
  have := Nat.mul_le_mul (show 2 ^ ((bitLen n + 1) / 2) ≤ 2 ^ ((bitLen n + 1) / 2) + 1 by omega) (show 2 ^ ((bitLen n + 1) / 2) ≤ 2 ^ ((bitLen n + 1) / 2) + 1 by omega)
  omega
section
variable {h : Hp} {K : AV → Hp → Prop}
theorem m197 {a b : Nat} (ha : a ≤ 9223372036854775807) (hb : 0 < b ∧ b ≤ 9223372036854775807) : Gv E2 197 [sI a, sI b] h (.tup [sI (a / b : Nat), sI (a % b : Nat)]) := by
  have := c197 (h := h) (a := a) (b := b) (by omega) (by omega)
  rw [Int.fdiv_eq_ediv_of_nonneg _ (by omega), Int.fmod_eq_emod_of_nonneg _ (by omega)] at this
  exact this
theorem m197_2 {a : Nat} (ha : a ≤ 9223372036854775807) : Gv E2 197 [sI a, sI 2] h (.tup [sI (a / 2 : Nat), sI (a % 2 : Nat)]) := m197 (b := 2) ha (by omega)
theorem m121 {a b : Nat} (hab : a + b ≤ 9223372036854775807) : Gv E2 121 [sI a, sI b] h (sI (a + b : Nat)) := by
  have := c121 (h := h) (a := a) (b := b) (by omega)
  exact this
theorem c118s {n : Nat} (hn : n < 4611686018427387904) : Gv E2 118 [sI n] h (sI (isq n)) := by
  refine Gv.of (CallWp.fn (fn := C.a118) rfl rfl rfl ?_)
  unfold C.a118
  have hb : bitLen n ≤ 62 := bitLen_lt (k := 62) hn
  rcases Nat.eq_zero_or_pos n with rfl | hp
  · repeat' (with_reducible first | simp (disch := first | assumption | omega | (simp only [go_sem, ne_eq, Nat.reduceAdd, Nat.reduceLeDiff] <;> omega) | fail) only [go_sem, seval] | (refine Gv.wp (c194) fun _ _ _ _ => ?_) | ((first | apply k1 | apply k2 | apply k3 | apply k4 | apply k5 | apply k6 | apply k7) <;> intro hc))
    (try first | refine ⟨trivial, ?_⟩ | refine ⟨rfl, ?_⟩); (repeat (first | exact Grs.refl _ | assumption | refine Grs.push ?_ | refine Grs.ov ?_ | refine Grs.put ?_ (by (try simp only [Hp.next_push, Hp.next_put, Hp.ov_next, Hp.clk_push, Hp.clk_put, Hp.ov_clk]); omega)))
  have e1 : max (-1) (min 1 (n : Int)) = 1 := by omega
  have e2 : ((bitLen n : Int) + 1) / 2 = ((bitLen n + 1) / 2 : Nat) := by omega
  have e3 : 2 ^ ((bitLen n + 1) / 2) ≤ 2 ^ 31 := Nat.pow_le_pow_right (by decide) (by omega)
  have e4 : 1 ≤ 2 ^ ((bitLen n + 1) / 2) := Nat.one_le_two_pow
  repeat' (with_reducible first | simp (disch := first | assumption | omega | (simp only [go_sem, ne_eq, Nat.reduceAdd, Nat.reduceLeDiff] <;> omega) | fail) only [go_sem, seval, e1, e2, Int.natAbs_natCast] | (refine Gv.wp (c194) fun _ _ _ _ => ?_) | (refine Gv.wp (c120) fun _ _ _ _ => ?_) | (refine Gv.wp (c199s (by omega)) fun _ _ _ _ => ?_) | (refine Gv.wp (c198s (a := 2) (by omega) (by omega) (by omega)) fun _ _ _ _ => ?_) | ((first | apply k1 | apply k2 | apply k3 | apply k4 | apply k5 | apply k6 | apply k7) <;> intro hc))
  refine Wp.loopI (fun m s => ∃ x : Nat, val s.tm (.t 1) = .ptr h.next 0 ∧ val s.tm (.t 2) = .ptr (h.next + 1) 0 ∧ ∃ t3, val s.tm (.t 3) = .ptr t3 0 ∧ At s.hp t3 [.int .i64 x, .nils] ∧ At s.hp h.next [.int .i64 n, .nils] ∧ At s.hp (h.next + 1) [.int .i64 0, .nils] ∧
    (h.next + 1 < t3 ∧ t3 < s.hp.next ∧ 1 ≤ x ∧ x ≤ 2 ^ 31 ∧ n < (x + 1) * (x + 1) ∧ x = m) ∧ Grs h s.hp) (n := 2 ^ ((bitLen n + 1) / 2)) ?_ ?_
  · refine ⟨2 ^ ((bitLen n + 1) / 2), ?_⟩
    simp (disch := first | assumption | omega | (simp only [go_sem, ne_eq, Nat.reduceAdd, Nat.reduceLeDiff] <;> omega) | fail) only [go_sem, seval]
    refine ⟨⟨by omega, by omega, e4, e3, newton_first n⟩, ?_⟩
    (try first | refine ⟨trivial, ?_⟩ | refine ⟨rfl, ?_⟩); (repeat (first | exact Grs.refl _ | assumption | refine Grs.push ?_ | refine Grs.ov ?_ | refine Grs.put ?_ (by (try simp only [Hp.next_push, Hp.next_put, Hp.ov_next, Hp.clk_push, Hp.clk_put, Hp.ov_clk]); omega)))
  · rintro m ⟨tm, hp⟩ ⟨x, h1, h2, t3, h3, ⟨s3, g3⟩, ⟨s0, g0⟩, ⟨s1, g1⟩, ⟨n1, n2, x1, x2, hx, rfl⟩, G⟩
    simp only at h1 h2 h3 g3 g0 g1 n2 G
    have A3 : At hp t3 [.int .i64 x, .nils] := ⟨_, g3⟩
    have A0 : At hp h.next [.int .i64 n, .nils] := ⟨_, g0⟩
    have A1 : At hp (h.next + 1) [.int .i64 0, .nils] := ⟨_, g1⟩
    have d1 : n / x ≤ n := Nat.div_le_self n x
    have hw := newton_ge x1 hx
    have he := newton_end x1 hx
    have hx2 : (2 : Nat) ^ 31 = 2147483648 := by decide
    rcases Nat.lt_or_ge ((x + n / x) / 2) x with hl | hl
    · have l1 : ((((x + n / x) / 2 : Nat) : Int) < (x : Int)) := by omega
      have l2 : (if (((x + n / x) / 2 : Nat) : Int) < (x : Int) then (-1 : Int) else if (x : Int) < (((x + n / x) / 2 : Nat) : Int) then 1 else 0) = -1 := if_pos l1
      repeat' (with_reducible first | simp (disch := first | assumption | omega | (simp only [go_sem, ne_eq, Nat.reduceAdd, Nat.reduceLeDiff] <;> omega) | fail) only [go_sem, seval, h1, h2, h3, g3, g0, g1, l2] | (refine Gv.wp (m197 (by omega) (by omega)) fun _ _ _ _ => ?_) | (refine Gv.wp (m121 (by omega)) fun _ _ _ _ => ?_) | (refine Gv.wp (c120) fun _ _ _ _ => ?_) | (refine Gv.wp (m197_2 (by omega)) fun _ _ _ _ => ?_) | (refine Gv.wp (c192) fun _ _ _ _ => ?_) | ((first | apply k1 | apply k2 | apply k3 | apply k4 | apply k5 | apply k6 | apply k7) <;> intro hc))
      refine ⟨(x + n / x) / 2, hl, (x + n / x) / 2, ?_⟩
      simp (disch := first | assumption | omega | (simp only [go_sem, ne_eq, Nat.reduceAdd, Nat.reduceLeDiff] <;> omega) | fail) only [go_sem, seval, h1, h2, h3, A3, A0, A1]
      have y1 : 1 ≤ (x + n / x) / 2 := by
        rcases Nat.eq_zero_or_pos ((x + n / x) / 2) with e | e
        · rw [e] at hw; omega
        · exact e
      refine ⟨⟨by omega, by omega, y1, by omega, hw⟩, ?_⟩
      (try first | refine ⟨trivial, ?_⟩ | refine ⟨rfl, ?_⟩); (repeat (first | exact Grs.refl _ | assumption | refine Grs.push ?_ | refine Grs.ov ?_ | refine Grs.put ?_ (by (try simp only [Hp.next_push, Hp.next_put, Hp.ov_next, Hp.clk_push, Hp.clk_put, Hp.ov_clk]); omega)))
    · have l1 : ¬ ((((x + n / x) / 2 : Nat) : Int) < (x : Int)) := by omega
      have l2 : (if (((x + n / x) / 2 : Nat) : Int) < (x : Int) then (-1 : Int) else if (x : Int) < (((x + n / x) / 2 : Nat) : Int) then 1 else 0) = (if (x : Int) < (((x + n / x) / 2 : Nat) : Int) then 1 else 0) := if_neg l1
      have l3 : (0 : Int) ≤ (if (x : Int) < (((x + n / x) / 2 : Nat) : Int) then 1 else 0) := by split <;> omega
      repeat' (with_reducible first | simp (disch := first | assumption | omega | (simp only [go_sem, ne_eq, Nat.reduceAdd, Nat.reduceLeDiff] <;> omega) | fail) only [go_sem, seval, h1, h2, h3, g3, g0, g1, l2] | (refine Gv.wp (m197 (by omega) (by omega)) fun _ _ _ _ => ?_) | (refine Gv.wp (m121 (by omega)) fun _ _ _ _ => ?_) | (refine Gv.wp (c120) fun _ _ _ _ => ?_) | (refine Gv.wp (m197_2 (by omega)) fun _ _ _ _ => ?_) | (refine Gv.wp (c192) fun _ _ _ _ => ?_) | ((first | apply k1 | apply k2 | apply k3 | apply k4 | apply k5 | apply k6 | apply k7) <;> intro hc))
      refine ⟨by rw [← he hl], ?_⟩
      (try first | refine ⟨trivial, ?_⟩ | refine ⟨rfl, ?_⟩); (repeat (first | exact Grs.refl _ | assumption | refine Grs.push ?_ | refine Grs.ov ?_ | refine Grs.put ?_ (by (try simp only [Hp.next_push, Hp.next_put, Hp.ov_next, Hp.clk_push, Hp.clk_put, Hp.ov_clk]); omega)))
theorem c179 {n : Nat} (hn : n < 4611686018427387904) : Gv E2 179 [.int .i64 n] h (.tup [.int .i64 (isq n : Nat), .bool (decide (isq n * isq n = n))]) := by
  refine Gv.of (CallWp.fn (fn := C.a179) rfl rfl rfl ?_)
  unfold C.a179
  have hi := (isq_spec n).1
  have hi2 : isq n ≤ isq n * isq n := Nat.le_mul_self _
  have e1 : ((isq n * isq n : Nat) : Int) = (isq n : Int) * (isq n : Int) := Int.natCast_mul _ _
  have e2 : (decide ((isq n : Int) * (isq n : Int) = (n : Int))) = decide (isq n * isq n = n) := by
    congr 1; rw [← e1, eq_iff_iff]; omega
  have e3 : (0 : Int) ≤ (isq n : Int) * (isq n : Int) ∧ (isq n : Int) * (isq n : Int) ≤ n := by rw [← e1]; omega
  repeat' (with_reducible first | simp (disch := first | assumption | omega | (simp only [go_sem, ne_eq, Nat.reduceAdd, Nat.reduceLeDiff] <;> omega) | fail) only [go_sem, seval, e2] | (refine Gv.wp (c120) fun _ _ _ _ => ?_) | (refine Gv.wp (c118s hn) fun _ _ _ _ => ?_) | (refine Gv.wp (c254) fun _ _ _ _ => ?_) | ((first | apply k1 | apply k2 | apply k3 | apply k4 | apply k5 | apply k6 | apply k7) <;> intro hc))
  (try first | refine ⟨trivial, ?_⟩ | refine ⟨rfl, ?_⟩); (repeat (first | exact Grs.refl _ | assumption | refine Grs.push ?_ | refine Grs.ov ?_ | refine Grs.put ?_ (by (try simp only [Hp.next_push, Hp.next_put, Hp.ov_next, Hp.clk_push, Hp.clk_put, Hp.ov_clk]); omega)))
/-- The scalar product of two places. -/
abbrev plc (x y z : Int) : AV := .agg [.int .i64 x, .int .i64 y, .int .i64 z]
theorem c178 {a b c x y z : Int} (h1 : -10000000000 ≤ a * x ∧ a * x ≤ 10000000000) (h2 : -10000000000 ≤ b * y ∧ b * y ≤ 10000000000) (h3 : -10000000000 ≤ c * z ∧ c * z ≤ 10000000000) :
    Gv E2 178 [plc a b c, plc x y z] h (.int .i64 (a * x + b * y + c * z)) := by
  refine Gv.of (CallWp.fn (fn := C.a178) rfl rfl rfl ?_)
  unfold C.a178
  repeat' (with_reducible first | simp (disch := first | assumption | omega | (simp only [go_sem, ne_eq, Nat.reduceAdd, Nat.reduceLeDiff] <;> omega) | fail) only [go_sem, seval] | ((first | apply k1 | apply k2 | apply k3 | apply k4 | apply k5 | apply k6 | apply k7) <;> intro hc))
  (try first | refine ⟨trivial, ?_⟩ | refine ⟨rfl, ?_⟩); (repeat (first | exact Grs.refl _ | assumption | refine Grs.push ?_ | refine Grs.ov ?_ | refine Grs.put ?_ (by (try simp only [Hp.next_push, Hp.next_put, Hp.ov_next, Hp.clk_push, Hp.clk_put, Hp.ov_clk]); omega)))
end
end Go.Ae


/- Further functions of the program, as code of the abstract evaluator (printed by mkX.py). -/
set_option maxRecDepth 100000
namespace Go.Ae.R
open AOp Opd C
def a19 : AFn := ⟨96, [.tmp 2], (.seq (.reg [o 2 (.mv (.k (.int .i64 0)))])
  (.seq (.reg [o 8 (m 0),o 3 (m 8)])
  (.seq (.seq (.reg [o 9 (m 3),o 10 (.len .str (.t 9)),o 11 (.bin .gtr .none (.t 10) (.k (.int .i64 0))),o 12 (m 11),g 13 (m 3) 12 true,g 14 (.idxs (.t 13) (.k (.int .i64 0))) 12 true,g 15 (.bin .eql .none (.t 14) (.k (.int .u8 45))) 12 true,o 16 (.pick (.t 12) (.t 15) (.k (.bool false)))])
   (.cond (.t 16) (.reg [o 17 (m 3),o 18 (.sls (.t 17) (some (.k (.int .i64 1))) none),o 3 (m 18)])
   .skip))
  (.seq (.reg [o 19 (m 3),o 20 (.callF 122 [(.t 19)]),o 4 (m 20)])
  (.seq (.seq (.reg [o 21 (m 3),o 22 (m 4),o 23 (.sls (.t 21) none (some (.t 22))),o 24 (.callF 123 [(.t 23)]),o 25 (.un .not (.t 24)),o 26 (m 25),g 27 (m 0) 26 false,g 28 (.idxs (.t 27) (.k (.int .i64 0))) 26 false,g 29 (.bin .eql .none (.t 28) (.k (.int .u8 45))) 26 false,g 30 (m 29) 26 false,g 31 (m 3) 30 true,g 32 (m 4) 30 true,g 33 (.sls (.t 31) none (some (.t 32))) 30 true,g 34 (.bin .eql .none (.t 33) (.k (.str [48]))) 30 true,g 35 (.pick (.t 30) (.t 34) (.k (.bool false))) 26 false,o 36 (.pick (.t 26) (.k (.bool true)) (.t 35))])
   (.cond (.t 36) (.seq (.reg [o 2 (.mv (.k (.int .i64 1)))])
    .ret)
   .skip))
  (.seq (.seq (.reg [o 37 (m 4),o 38 (m 3),o 39 (.len .str (.t 38)),o 40 (.bin .lss .none (.t 37) (.t 39)),o 41 (m 40),g 42 (m 3) 41 true,g 43 (m 4) 41 true,g 44 (.bin .add .none (.t 43) (.k (.int .i64 1))) 41 true,g 45 (.sls (.t 42) (some (.t 44)) none) 41 true,g 46 (.callF 123 [(.t 45)]) 41 true,g 47 (.un .not (.t 46)) 41 true,g 48 (m 47) 41 true,g 49 (m 3) 48 false,g 50 (m 4) 48 false,g 51 (.bin .add .none (.t 50) (.k (.int .i64 1))) 48 false,g 52 (.sls (.t 49) (some (.t 51)) none) 48 false,g 53 (.bin .eql .none (.t 52) (.k (.str [48]))) 48 false,g 54 (.pick (.t 48) (.k (.bool true)) (.t 53)) 41 true,g 55 (m 54) 41 true,g 56 (m 3) 55 false,g 57 (m 4) 55 false,g 58 (.bin .add .none (.t 57) (.k (.int .i64 1))) 55 false,g 59 (.sls (.t 56) (some (.t 58)) none) 55 false,g 60 (.bin .eql .none (.t 59) (.k (.str [49]))) 55 false,g 61 (.pick (.t 55) (.k (.bool true)) (.t 60)) 41 true,o 62 (.pick (.t 41) (.t 61) (.k (.bool false)))])
   (.cond (.t 62) (.seq (.reg [o 2 (.mv (.k (.int .i64 1)))])
    .ret)
   .skip))
  (.seq (.seq (.reg [o 63 (m 4),o 64 (.bin .gtr .none (.t 63) (.k (.int .i64 600))),o 65 (m 64),g 66 (m 3) 65 false,g 67 (.len .str (.t 66)) 65 false,g 68 (m 4) 65 false,g 69 (.bin .sub .none (.t 67) (.t 68)) 65 false,g 70 (.bin .sub .none (.t 69) (.k (.int .i64 1))) 65 false,g 71 (.bin .gtr .none (.t 70) (.k (.int .i64 600))) 65 false,o 72 (.pick (.t 65) (.k (.bool true)) (.t 71))])
   (.cond (.t 72) (.seq (.reg [o 2 (.mv (.k (.int .i64 4)))])
    .ret)
   .skip))
  (.seq (.seq (.reg [o 73 (m 4),o 74 (m 3),o 75 (.len .str (.t 74)),o 76 (.bin .lss .none (.t 73) (.t 75))])
   (.cond (.t 76) (.seq (.reg [o 78 (m 3),o 79 (.callF 124 [(.t 78)]),o 77 (m 79),o 80 (.ext (.t 77) 0),o 81 (.ext (.t 77) 1),o 5 (.alloc [.bool false, .nils]),o 6 (.alloc [.bool false, .nils]),n (.store 2 (.t 5) (.t 80)),n (.store 2 (.t 6) (.t 81))])
    (.seq (.reg [o 82 (.fadr 1 (.t 5)),o 83 (.load false 1 (.t 82)),o 84 (.fadr 1 (.t 6)),o 85 (.load false 1 (.t 84)),o 86 (.callF 125 [(.t 83), (.t 85)]),o 7 (m 86)])
    (.seq (.reg [o 87 (m 7),o 88 (.len .slice (.t 87)),o 89 (.bin .neq .none (.t 88) (.k (.int .i64 1))),o 90 (m 89),g 91 (m 7) 90 false,g 92 (.iadr 1 (.t 91) (.k (.int .i64 0))) 90 false,g 93 (.load false 1 (.t 92)) 90 false,g 94 (.bin .neq .none (.t 93) (.k (.int .i64 1))) 90 false,o 95 (.pick (.t 90) (.k (.bool true)) (.t 94))])
    (.cond (.t 95) (.seq (.reg [o 2 (.mv (.k (.int .i64 1)))])
     .ret)
    .skip))))
   .skip))
  (.seq (.reg [o 2 (.mv (.k (.int .i64 0)))])
  .ret)))))))))⟩
def a21 : AFn := ⟨13, [.tmp 2], (.seq (.reg [o 2 (.mv (.k (.int .i64 0)))])
  (.seq (.seq (.reg [o 3 (m 0),o 4 (.bin .eql .none (.t 3) (.k (.str [48])))])
   (.cond (.t 4) (.seq (.reg [o 2 (.mv (.k (.int .i64 0)))])
    .ret)
   .skip))
  (.seq (.seq (.reg [o 5 (m 0),o 6 (.len .str (.t 5)),o 7 (.bin .gtr .none (.t 6) (.k (.int .i64 0))),o 8 (m 7),g 9 (m 0) 8 true,g 10 (.idxs (.t 9) (.k (.int .i64 0))) 8 true,g 11 (.bin .eql .none (.t 10) (.k (.int .u8 45))) 8 true,o 12 (.pick (.t 8) (.t 11) (.k (.bool false)))])
   (.cond (.t 12) (.seq (.reg [o 2 (.mv (.k (.int .i64 (-1))))])
    .ret)
   .skip))
  (.seq (.reg [o 2 (.mv (.k (.int .i64 1)))])
  .ret))))⟩
def a56 : AFn := ⟨19, [.tmp 2], (.seq (.reg [o 2 (.mv (.k (.int .i64 0)))])
  (.seq (.seq (.reg [o 3 (.mv (.k (.int .i64 0)))])
   (.block 0 (.loop (.seq (.seq (.reg [o 5 (m 3),o 6 (m 0),o 7 (.len .slice (.t 6)),o 8 (.bin .lss .none (.t 5) (.t 7))])
      (.cond (.t 8) .skip
      (.exit 0)))
     (.seq (.block 1 (.seq (.reg [o 11 (m 0),o 12 (m 3),o 13 (.iadr 1 (.t 11) (.t 12)),o 14 (.load false 1 (.t 13)),o 15 (.callF 19 [(.t 14)]),o 4 (m 15)])
       (.seq (.reg [o 16 (m 4),o 17 (.bin .neq .none (.t 16) (.k (.int .i64 0)))])
       (.cond (.t 17) (.seq (.reg [o 18 (m 4),o 2 (m 18)])
        .ret)
       .skip))))
     (.reg [o 9 (m 3),o 10 (.bin .add .none (.t 9) (.k (.int .i64 1))),o 3 (m 10)]))))))
  (.seq (.reg [o 2 (.mv (.k (.int .i64 0)))])
  .ret)))⟩
def a59 : AFn := ⟨21, [.tmp 2], (.seq (.reg [o 1 (.box (.t 0)),o 2 (.mv (.k (.int .i64 0)))])
  (.seq (.reg [o 4 (.fadr 0 (.t 1)),o 5 (.load false 1 (.t 4)),o 6 (.fadr 1 (.t 1)),o 7 (.load false 1 (.t 6)),o 8 (.bslice 1 2 [.str [], .str []] [(0, 1, (.t 5)), (1, 1, (.t 7))]),o 9 (.callF 56 [(.t 8)]),o 3 (m 9)])
  (.seq (.seq (.reg [o 10 (m 3),o 11 (.bin .eql .none (.t 10) (.k (.int .i64 0))),o 12 (m 11),g 13 (.fadr 0 (.t 1)) 12 true,g 14 (.load false 1 (.t 13)) 12 true,g 15 (.fadr 1 (.t 1)) 12 true,g 16 (.load false 1 (.t 15)) 12 true,g 17 (.callF 75 [(.t 14), (.t 16)]) 12 true,g 18 (.bin .gtr .none (.t 17) (.k (.int .i64 0))) 12 true,o 19 (.pick (.t 12) (.t 18) (.k (.bool false)))])
   (.cond (.t 19) (.reg [o 3 (.mv (.k (.int .i64 11)))])
   .skip))
  (.seq (.reg [o 20 (m 3),o 2 (m 20)])
  .ret))))⟩
def a72 : AFn := ⟨63, [.tmp 4], (.seq (.reg [o 4 (.mv (.k (.str [])))])
  (.seq (.reg [o 16 (m 0),o 17 (.callF 168 [(.t 16)]),o 15 (m 17),o 18 (.ext (.t 15) 0),o 19 (.ext (.t 15) 1),o 20 (.ext (.t 15) 2),o 5 (m 18),o 6 (m 19),o 7 (m 20)])
  (.seq (.reg [o 22 (m 1),o 23 (.callF 168 [(.t 22)]),o 21 (m 23),o 24 (.ext (.t 21) 0),o 25 (.ext (.t 21) 1),o 26 (.ext (.t 21) 2),o 8 (m 24),o 9 (m 25),o 10 (m 26)])
  (.seq (.seq (.reg [o 27 (m 7),o 28 (m 27),g 29 (m 10) 28 true,o 30 (.pick (.t 28) (.t 29) (.k (.bool false)))])
   (.cond (.t 30) (.seq (.reg [o 31 (m 5),o 32 (m 9),o 33 (.bin .mul .none (.t 31) (.t 32)),o 34 (m 8),o 35 (m 6),o 36 (.bin .mul .none (.t 34) (.t 35)),o 37 (.bin .add .none (.t 33) (.t 36)),o 38 (m 6),o 39 (m 9),o 40 (.bin .mul .none (.t 38) (.t 39)),o 41 (.callF 99 [(.t 37), (.t 40)]),o 4 (m 41)])
    .ret)
   .skip))
  (.seq (.reg [o 43 (m 0),o 44 (.callF 124 [(.t 43)]),o 42 (m 44),o 45 (.ext (.t 42) 0),o 46 (.ext (.t 42) 1),o 11 (.alloc [.bool false, .nils]),o 12 (.alloc [.bool false, .nils]),n (.store 2 (.t 11) (.t 45)),n (.store 2 (.t 12) (.t 46))])
  (.seq (.reg [o 48 (m 1),o 49 (.callF 124 [(.t 48)]),o 47 (m 49),o 50 (.ext (.t 47) 0),o 51 (.ext (.t 47) 1),o 13 (.alloc [.bool false, .nils]),o 14 (.alloc [.bool false, .nils]),n (.store 2 (.t 13) (.t 50)),n (.store 2 (.t 14) (.t 51))])
  (.seq (.dreg [⟨(some 52), .load true 2 (.t 11), none, (some 0)⟩,⟨(some 53), .load true 2 (.t 14), none, (some 1)⟩,o 54 (.callF 171 [(.t 52), (.t 53)]),⟨(some 55), .load true 2 (.t 13), none, (some 3)⟩,⟨(some 56), .load true 2 (.t 12), none, (some 4)⟩,o 57 (.callF 171 [(.t 55), (.t 56)]),o 58 (.callF 170 [(.t 54), (.t 57)]),⟨(some 59), .load true 2 (.t 12), none, (some 7)⟩,⟨(some 60), .load true 2 (.t 14), none, (some 8)⟩,o 61 (.callF 171 [(.t 59), (.t 60)]),o 62 (.callF 169 [(.t 58), (.t 61)]),o 4 (m 62)])
  .ret)))))))⟩
def a73 : AFn := ⟨9, [.tmp 4], (.seq (.reg [o 4 (.mv (.k (.str [])))])
  (.seq (.reg [o 5 (m 0),o 6 (m 1),o 7 (.callF 172 [(.t 6)]),o 8 (.callF 72 [(.t 5), (.t 7)]),o 4 (m 8)])
  .ret))⟩
def a74 : AFn := ⟨55, [.tmp 4], (.seq (.reg [o 4 (.mv (.k (.str [])))])
  (.seq (.reg [o 16 (m 0),o 17 (.callF 168 [(.t 16)]),o 15 (m 17),o 18 (.ext (.t 15) 0),o 19 (.ext (.t 15) 1),o 20 (.ext (.t 15) 2),o 5 (m 18),o 6 (m 19),o 7 (m 20)])
  (.seq (.reg [o 22 (m 1),o 23 (.callF 168 [(.t 22)]),o 21 (m 23),o 24 (.ext (.t 21) 0),o 25 (.ext (.t 21) 1),o 26 (.ext (.t 21) 2),o 8 (m 24),o 9 (m 25),o 10 (m 26)])
  (.seq (.seq (.reg [o 27 (m 7),o 28 (m 27),g 29 (m 10) 28 true,o 30 (.pick (.t 28) (.t 29) (.k (.bool false)))])
   (.cond (.t 30) (.seq (.reg [o 31 (m 5),o 32 (m 8),o 33 (.bin .mul .none (.t 31) (.t 32)),o 34 (m 6),o 35 (m 9),o 36 (.bin .mul .none (.t 34) (.t 35)),o 37 (.callF 99 [(.t 33), (.t 36)]),o 4 (m 37)])
    .ret)
   .skip))
  (.seq (.reg [o 39 (m 0),o 40 (.callF 124 [(.t 39)]),o 38 (m 40),o 41 (.ext (.t 38) 0),o 42 (.ext (.t 38) 1),o 11 (.alloc [.bool false, .nils]),o 12 (.alloc [.bool false, .nils]),n (.store 2 (.t 11) (.t 41)),n (.store 2 (.t 12) (.t 42))])
  (.seq (.reg [o 44 (m 1),o 45 (.callF 124 [(.t 44)]),o 43 (m 45),o 46 (.ext (.t 43) 0),o 47 (.ext (.t 43) 1),o 13 (.alloc [.bool false, .nils]),o 14 (.alloc [.bool false, .nils]),n (.store 2 (.t 13) (.t 46)),n (.store 2 (.t 14) (.t 47))])
  (.seq (.dreg [⟨(some 48), .load true 2 (.t 11), none, (some 0)⟩,⟨(some 49), .load true 2 (.t 13), none, (some 1)⟩,o 50 (.callF 171 [(.t 48), (.t 49)]),⟨(some 51), .load true 2 (.t 12), none, (some 3)⟩,⟨(some 52), .load true 2 (.t 14), none, (some 4)⟩,o 53 (.callF 171 [(.t 51), (.t 52)]),o 54 (.callF 169 [(.t 50), (.t 53)]),o 4 (m 54)])
  .ret)))))))⟩
def a75 : AFn := ⟨9, [.tmp 4], (.seq (.reg [o 4 (.mv (.k (.int .i64 0)))])
  (.seq (.reg [o 5 (m 0),o 6 (m 1),o 7 (.callF 73 [(.t 5), (.t 6)]),o 8 (.callF 21 [(.t 7)]),o 4 (m 8)])
  .ret))⟩
def a83 : AFn := ⟨17, [.tmp 4, .tmp 5], (.seq (.reg [o 2 (.box (.t 0)),o 3 (.box (.t 1)),o 4 (.mv (.k (.int .i64 0))),o 5 (.mv (.k (.int .i64 0)))])
  (.seq (.seq (.reg [o 7 (.load true 3 (.t 2)),o 8 (.load true 3 (.t 3)),o 9 (.bslice 3 2 [.int .i64 0, .int .i64 0, .int .i64 0, .int .i64 0, .int .i64 0, .int .i64 0] [(0, 3, (.t 7)), (3, 3, (.t 8))]),o 10 (.callF 177 [(.t 9)]),o 6 (m 10)])
   (.seq (.reg [o 11 (m 6),o 12 (.bin .neq .none (.t 11) (.k (.int .i64 0)))])
   (.cond (.t 12) (.seq (.reg [o 13 (m 6),o 4 (.mv (.k (.int .i64 0))),o 5 (m 13)])
    .ret)
   .skip)))
  (.seq (.reg [o 14 (.load true 3 (.t 2)),o 15 (.load true 3 (.t 3)),o 16 (.callF 178 [(.t 14), (.t 15)]),o 4 (m 16),o 5 (.mv (.k (.int .i64 0)))])
  .ret)))⟩
def a91 : AFn := ⟨6, [.tmp 2], (.seq (.reg [o 2 (.mv (.k (.str [])))])
  (.seq (.reg [o 3 (m 0),o 4 (.callF 182 [(.t 3)]),o 5 (.callF 181 [(.t 4)]),o 2 (m 5)])
  .ret))⟩
def a94 : AFn := ⟨8, [.tmp 2], (.seq (.reg [o 2 (.mv (.k (.bool false)))])
  (.seq (.reg [o 3 (m 0),o 4 (.callF 122 [(.t 3)]),o 5 (m 0),o 6 (.len .str (.t 5)),o 7 (.bin .eql .none (.t 4) (.t 6)),o 2 (m 7)])
  .ret))⟩
def a99 : AFn := ⟨61, [.tmp 4], (.seq (.reg [o 4 (.mv (.k (.str [])))])
  (.seq (.seq (.reg [o 7 (m 0),o 8 (.bin .lss .none (.t 7) (.k (.int .i64 (-4000000000000000000)))),o 9 (m 8),g 10 (m 0) 9 false,g 11 (.bin .gtr .none (.t 10) (.k (.int .i64 4000000000000000000))) 9 false,o 12 (.pick (.t 9) (.k (.bool true)) (.t 11)),o 13 (m 12),g 14 (m 1) 13 false,g 15 (.bin .lss .none (.t 14) (.k (.int .i64 (-4000000000000000000)))) 13 false,o 16 (.pick (.t 13) (.k (.bool true)) (.t 15)),o 17 (m 16),g 18 (m 1) 17 false,g 19 (.bin .gtr .none (.t 18) (.k (.int .i64 4000000000000000000))) 17 false,o 20 (.pick (.t 17) (.k (.bool true)) (.t 19))])
   (.cond (.t 20) (.seq (.reg [o 21 (m 0),o 22 (.callF 182 [(.t 21)]),o 23 (m 1),o 24 (.callF 182 [(.t 23)]),o 25 (.callF 169 [(.t 22), (.t 24)]),o 4 (m 25)])
    .ret)
   .skip))
  (.seq (.seq (.reg [o 26 (m 1),o 27 (.bin .lss .none (.t 26) (.k (.int .i64 0)))])
   (.cond (.t 27) (.reg [o 28 (m 0),o 29 (.bin .sub .none (.k (.int .i64 0)) (.t 28)),o 30 (m 1),o 31 (.bin .sub .none (.k (.int .i64 0)) (.t 30)),o 0 (m 29),o 1 (m 31)])
   .skip))
  (.seq (.reg [o 32 (m 0),o 33 (m 0),o 34 (.bin .sub .none (.k (.int .i64 0)) (.t 33)),o 35 (.mx [(.t 32), (.t 34)]),o 36 (m 1),o 37 (.callF 185 [(.t 35), (.t 36)]),o 5 (m 37)])
  (.seq (.dreg [o 38 (m 0),o 39 (m 5),o 40 (.bin .quo .none (.t 38) (.t 39)),o 41 (m 1),o 42 (m 5),o 43 (.bin .quo .none (.t 41) (.t 42)),o 0 (m 40),o 1 (m 43)])
  (.seq (.reg [o 6 (.mv (.k (.str [])))])
  (.seq (.seq (.reg [o 44 (m 0),o 45 (.bin .lss .none (.t 44) (.k (.int .i64 0)))])
   (.cond (.t 45) (.reg [o 6 (.mv (.k (.str [45])))])
   .skip))
  (.seq (.reg [o 46 (m 6),o 47 (m 0),o 48 (m 0),o 49 (.bin .sub .none (.k (.int .i64 0)) (.t 48)),o 50 (.mx [(.t 47), (.t 49)]),o 51 (.callF 186 [(.t 50), (.k (.int .i64 1))]),o 52 (.bin .add .none (.t 46) (.t 51)),o 6 (m 52)])
  (.seq (.seq (.reg [o 53 (m 1),o 54 (.bin .gtr .none (.t 53) (.k (.int .i64 1)))])
   (.cond (.t 54) (.reg [o 55 (m 6),o 56 (.bin .add .none (.t 55) (.k (.str [47]))),o 57 (m 1),o 58 (.callF 186 [(.t 57), (.k (.int .i64 1))]),o 59 (.bin .add .none (.t 56) (.t 58)),o 6 (m 59)])
   .skip))
  (.seq (.reg [o 60 (m 6),o 4 (m 60)])
  .ret))))))))))⟩
def a122 : AFn := ⟨17, [.tmp 2], (.seq (.reg [o 2 (.mv (.k (.int .i64 0)))])
  (.seq (.seq (.reg [o 3 (.mv (.k (.int .i64 0)))])
   (.block 0 (.loop (.seq (.seq (.reg [o 4 (m 3),o 5 (m 0),o 6 (.len .str (.t 5)),o 7 (.bin .lss .none (.t 4) (.t 6))])
      (.cond (.t 7) .skip
      (.exit 0)))
     (.seq (.block 1 (.seq (.reg [o 10 (m 0),o 11 (m 3),o 12 (.idxs (.t 10) (.t 11)),o 13 (.bin .eql .none (.t 12) (.k (.int .u8 47)))])
       (.cond (.t 13) (.seq (.reg [o 14 (m 3),o 2 (m 14)])
        .ret)
       .skip)))
     (.reg [o 8 (m 3),o 9 (.bin .add .none (.t 8) (.k (.int .i64 1))),o 3 (m 9)]))))))
  (.seq (.reg [o 15 (m 0),o 16 (.len .str (.t 15)),o 2 (m 16)])
  .ret)))⟩
def a123 : AFn := ⟨18, [.tmp 2], (.seq (.reg [o 2 (.mv (.k (.bool false)))])
  (.seq (.seq (.reg [o 3 (m 0),o 4 (.len .str (.t 3)),o 5 (.bin .eql .none (.t 4) (.k (.int .i64 0))),o 6 (m 5),g 7 (m 0) 6 false,g 8 (.len .str (.t 7)) 6 false,g 9 (.bin .gtr .none (.t 8) (.k (.int .i64 1))) 6 false,g 10 (m 9) 6 false,g 11 (m 0) 10 true,g 12 (.idxs (.t 11) (.k (.int .i64 0))) 10 true,g 13 (.bin .eql .none (.t 12) (.k (.int .u8 48))) 10 true,g 14 (.pick (.t 10) (.t 13) (.k (.bool false))) 6 false,o 15 (.pick (.t 6) (.k (.bool true)) (.t 14))])
   (.cond (.t 15) (.seq (.reg [o 2 (.mv (.k (.bool false)))])
    .ret)
   .skip))
  (.seq (.reg [o 16 (m 0),o 17 (.callF 151 [(.t 16)]),o 2 (m 17)])
  .ret)))⟩
def a124 : AFn := ⟨25, [.cell 2 true 2, .cell 3 true 2], (.seq (.reg [o 2 (.alloc [.bool false, .nils]),o 3 (.alloc [.bool false, .nils])])
  (.seq (.reg [o 6 (m 0),o 4 (m 6)])
  (.seq (.reg [o 7 (m 4),o 8 (.callF 122 [(.t 7)]),o 5 (m 8)])
  (.seq (.seq (.reg [o 9 (m 5),o 10 (m 4),o 11 (.len .str (.t 10)),o 12 (.bin .eql .none (.t 9) (.t 11))])
   (.cond (.t 12) (.seq (.reg [o 13 (m 4),o 14 (.callF 207 [(.t 13)]),o 15 (.callF 182 [(.k (.int .i64 1))]),n (.store 2 (.t 2) (.t 14)),n (.store 2 (.t 3) (.t 15))])
    .ret)
   .skip))
  (.seq (.dreg [o 16 (m 4),o 17 (m 5),o 18 (.sls (.t 16) none (some (.t 17))),o 19 (.callF 207 [(.t 18)]),o 20 (m 4),o 21 (m 5),o 22 (.bin .add .none (.t 21) (.k (.int .i64 1))),o 23 (.sls (.t 20) (some (.t 22)) none),o 24 (.callF 207 [(.t 23)]),n (.store 2 (.t 2) (.t 19)),n (.store 2 (.t 3) (.t 24))])
  .ret)))))⟩
def a125 : AFn := ⟨19, [.tmp 4], (.seq (.reg [o 4 (.mv (.k (.nils)))])
  (.seq (.block 0 (.loop (.seq (.seq (.reg [o 7 (m 1),o 8 (.len .slice (.t 7)),o 9 (.bin .gtr .none (.t 8) (.k (.int .i64 0)))])
      (.cond (.t 9) .skip
      (.exit 0)))
     (.block 1 (.seq (.reg [o 11 (m 0),o 12 (m 1),o 13 (.callF 208 [(.t 11), (.t 12)]),o 10 (m 13),o 14 (.ext (.t 10) 0),o 15 (.ext (.t 10) 1),o 5 (m 14),o 6 (m 15)])
      (.reg [o 16 (m 1),o 17 (m 6),o 0 (m 16),o 1 (m 17)]))))))
  (.seq (.reg [o 18 (m 0),o 4 (m 18)])
  .ret)))⟩
def a168 : AFn := ⟨54, [.tmp 2, .tmp 3, .tmp 4], (.seq (.reg [o 2 (.mv (.k (.int .i64 0))),o 3 (.mv (.k (.int .i64 0))),o 4 (.mv (.k (.bool false)))])
  (.seq (.reg [o 10 (m 0),o 5 (m 10)])
  (.seq (.seq (.reg [o 11 (m 5),o 12 (.len .str (.t 11)),o 13 (.bin .gtr .none (.t 12) (.k (.int .i64 20)))])
   (.cond (.t 13) (.seq (.reg [o 2 (.mv (.k (.int .i64 0))),o 3 (.mv (.k (.int .i64 0))),o 4 (.mv (.k (.bool false)))])
    .ret)
   .skip))
  (.seq (.reg [o 14 (m 5),o 15 (.len .str (.t 14)),o 16 (.bin .gtr .none (.t 15) (.k (.int .i64 0))),o 17 (m 16),g 18 (m 5) 17 true,g 19 (.idxs (.t 18) (.k (.int .i64 0))) 17 true,g 20 (.bin .eql .none (.t 19) (.k (.int .u8 45))) 17 true,o 21 (.pick (.t 17) (.t 20) (.k (.bool false))),o 6 (m 21)])
  (.seq (.seq (.reg [o 22 (m 6)])
   (.cond (.t 22) (.reg [o 23 (m 5),o 24 (.sls (.t 23) (some (.k (.int .i64 1))) none),o 5 (m 24)])
   .skip))
  (.seq (.reg [o 25 (m 5),o 26 (.callF 122 [(.t 25)]),o 7 (m 26)])
  (.seq (.seq (.reg [o 27 (m 7),o 28 (.bin .gtr .none (.t 27) (.k (.int .i64 9))),o 29 (m 28),g 30 (m 5) 29 false,g 31 (.len .str (.t 30)) 29 false,g 32 (m 7) 29 false,g 33 (.bin .sub .none (.t 31) (.t 32)) 29 false,g 34 (.bin .gtr .none (.t 33) (.k (.int .i64 10))) 29 false,o 35 (.pick (.t 29) (.k (.bool true)) (.t 34))])
   (.cond (.t 35) (.seq (.reg [o 2 (.mv (.k (.int .i64 0))),o 3 (.mv (.k (.int .i64 0))),o 4 (.mv (.k (.bool false)))])
    .ret)
   .skip))
  (.seq (.reg [o 36 (m 5),o 37 (m 7),o 38 (.sls (.t 36) none (some (.t 37))),o 39 (.callF 153 [(.t 38)]),o 8 (m 39),o 9 (.mv (.k (.int .i64 1)))])
  (.seq (.seq (.reg [o 40 (m 7),o 41 (m 5),o 42 (.len .str (.t 41)),o 43 (.bin .lss .none (.t 40) (.t 42))])
   (.cond (.t 43) (.reg [o 44 (m 5),o 45 (m 7),o 46 (.bin .add .none (.t 45) (.k (.int .i64 1))),o 47 (.sls (.t 44) (some (.t 46)) none),o 48 (.callF 153 [(.t 47)]),o 9 (m 48)])
   .skip))
  (.seq (.seq (.reg [o 49 (m 6)])
   (.cond (.t 49) (.reg [o 50 (m 8),o 51 (.bin .sub .none (.k (.int .i64 0)) (.t 50)),o 8 (m 51)])
   .skip))
  (.seq (.reg [o 52 (m 8),o 53 (m 9),o 2 (m 52),o 3 (m 53),o 4 (.mv (.k (.bool true)))])
  .ret)))))))))))⟩
def a169 : AFn := ⟨57, [.tmp 4], (.seq (.reg [o 2 (.box (.t 0)),o 3 (.box (.t 1)),o 4 (.mv (.k (.str [])))])
  (.seq (.seq (.reg [o 11 (.fadr 0 (.t 3)),o 12 (.load false 1 (.t 11))])
   (.cond (.t 12) (.dreg [⟨(some 13), .load true 2 (.t 2), none, (some 0)⟩,o 14 (.callF 248 [(.t 13)]),⟨(some 15), .load true 2 (.t 3), none, (some 2)⟩,o 16 (.callF 248 [(.t 15)]),n (.store 2 (.t 2) (.t 14)),n (.store 2 (.t 3) (.t 16))])
   .skip))
  (.seq (.reg [o 17 (.fadr 1 (.t 2)),o 18 (.load false 1 (.t 17)),o 19 (.fadr 1 (.t 3)),o 20 (.load false 1 (.t 19)),o 21 (.callF 125 [(.t 18), (.t 20)]),o 5 (m 21)])
  (.seq (.reg [o 23 (.fadr 1 (.t 2)),o 24 (.load false 1 (.t 23)),o 25 (m 5),o 26 (.callF 208 [(.t 24), (.t 25)]),o 22 (m 26),o 27 (.ext (.t 22) 0),o 28 (.ext (.t 22) 1),o 6 (m 27),o 7 (m 28)])
  (.seq (.reg [o 30 (.fadr 1 (.t 3)),o 31 (.load false 1 (.t 30)),o 32 (m 5),o 33 (.callF 208 [(.t 31), (.t 32)]),o 29 (m 33),o 34 (.ext (.t 29) 0),o 35 (.ext (.t 29) 1),o 8 (m 34),o 9 (m 35)])
  (.seq (.reg [o 36 (.fadr 0 (.t 2)),o 37 (.load false 1 (.t 36)),o 38 (m 6),o 39 (.callF 249 [(.t 37), (.t 38)]),o 40 (.callF 181 [(.t 39)]),o 10 (m 40)])
  (.seq (.seq (.reg [o 41 (m 8),o 42 (.len .slice (.t 41)),o 43 (.bin .eql .none (.t 42) (.k (.int .i64 1))),o 44 (m 43),g 45 (m 8) 44 true,g 46 (.iadr 1 (.t 45) (.k (.int .i64 0))) 44 true,g 47 (.load false 1 (.t 46)) 44 true,g 48 (.bin .eql .none (.t 47) (.k (.int .i64 1))) 44 true,o 49 (.pick (.t 44) (.t 48) (.k (.bool false)))])
   (.cond (.t 49) (.seq (.reg [o 50 (m 10),o 4 (m 50)])
    .ret)
   .skip))
  (.seq (.reg [o 51 (m 10),o 52 (.bin .add .none (.t 51) (.k (.str [47]))),o 53 (m 8),o 54 (.callF 249 [(.k (.bool false)), (.t 53)]),o 55 (.callF 181 [(.t 54)]),o 56 (.bin .add .none (.t 52) (.t 55)),o 4 (m 56)])
  .ret))))))))⟩
def a170 : AFn := ⟨40, [.cell 4 true 2], (.seq (.reg [o 2 (.box (.t 0)),o 3 (.box (.t 1)),o 4 (.alloc [.bool false, .nils])])
  (.seq (.seq (.reg [o 5 (.fadr 0 (.t 2)),o 6 (.load false 1 (.t 5)),o 7 (.fadr 0 (.t 3)),o 8 (.load false 1 (.t 7)),o 9 (.bin .eql .bool (.t 6) (.t 8))])
   (.cond (.t 9) (.seq (.dreg [o 10 (.fadr 0 (.t 2)),⟨(some 11), .load false 1 (.t 10), none, (some 6)⟩,o 12 (.fadr 1 (.t 2)),⟨(some 13), .load false 1 (.t 12), none, (some 3)⟩,o 14 (.fadr 1 (.t 3)),⟨(some 15), .load false 1 (.t 14), none, (some 5)⟩,o 16 (.callF 250 [(.t 13), (.t 15)]),o 17 (.callF 249 [(.t 11), (.t 16)]),n (.store 2 (.t 4) (.t 17))])
    .ret)
   .skip))
  (.seq (.seq (.reg [o 18 (.fadr 1 (.t 2)),o 19 (.load false 1 (.t 18)),o 20 (.fadr 1 (.t 3)),o 21 (.load false 1 (.t 20)),o 22 (.callF 251 [(.t 19), (.t 21)]),o 23 (.bin .geq .none (.t 22) (.k (.int .i64 0)))])
   (.cond (.t 23) (.seq (.dreg [o 24 (.fadr 0 (.t 2)),⟨(some 25), .load false 1 (.t 24), none, (some 6)⟩,o 26 (.fadr 1 (.t 2)),⟨(some 27), .load false 1 (.t 26), none, (some 3)⟩,o 28 (.fadr 1 (.t 3)),⟨(some 29), .load false 1 (.t 28), none, (some 5)⟩,o 30 (.callF 252 [(.t 27), (.t 29)]),o 31 (.callF 249 [(.t 25), (.t 30)]),n (.store 2 (.t 4) (.t 31))])
    .ret)
   .skip))
  (.seq (.dreg [o 32 (.fadr 0 (.t 3)),⟨(some 33), .load false 1 (.t 32), none, (some 6)⟩,o 34 (.fadr 1 (.t 3)),⟨(some 35), .load false 1 (.t 34), none, (some 3)⟩,o 36 (.fadr 1 (.t 2)),⟨(some 37), .load false 1 (.t 36), none, (some 5)⟩,o 38 (.callF 252 [(.t 35), (.t 37)]),o 39 (.callF 249 [(.t 33), (.t 38)]),n (.store 2 (.t 4) (.t 39))])
  .ret))))⟩
def a171 : AFn := ⟨16, [.cell 4 true 2], (.seq (.reg [o 2 (.box (.t 0)),o 3 (.box (.t 1)),o 4 (.alloc [.bool false, .nils])])
  (.seq (.dreg [o 5 (.fadr 0 (.t 2)),⟨(some 6), .load false 1 (.t 5), none, (some 9)⟩,o 7 (.fadr 0 (.t 3)),⟨(some 8), .load false 1 (.t 7), none, (some 9)⟩,o 9 (.bin .neq .bool (.t 6) (.t 8)),o 10 (.fadr 1 (.t 2)),⟨(some 11), .load false 1 (.t 10), none, (some 6)⟩,o 12 (.fadr 1 (.t 3)),⟨(some 13), .load false 1 (.t 12), none, (some 8)⟩,o 14 (.callF 253 [(.t 11), (.t 13)]),o 15 (.callF 249 [(.t 9), (.t 14)]),n (.store 2 (.t 4) (.t 15))])
  .ret))⟩
def a172 : AFn := ⟨14, [.tmp 2], (.seq (.reg [o 2 (.mv (.k (.str [])))])
  (.seq (.seq (.reg [o 3 (m 0),o 4 (.callF 21 [(.t 3)]),o 5 (.bin .lss .none (.t 4) (.k (.int .i64 0)))])
   (.cond (.t 5) (.seq (.reg [o 6 (m 0),o 7 (.sls (.t 6) (some (.k (.int .i64 1))) none),o 2 (m 7)])
    .ret)
   .skip))
  (.seq (.seq (.reg [o 8 (m 0),o 9 (.callF 21 [(.t 8)]),o 10 (.bin .eql .none (.t 9) (.k (.int .i64 0)))])
   (.cond (.t 10) (.seq (.reg [o 11 (m 0),o 2 (m 11)])
    .ret)
   .skip))
  (.seq (.reg [o 12 (m 0),o 13 (.bin .add .none (.k (.str [45])) (.t 12)),o 2 (m 13)])
  .ret))))⟩
def a181 : AFn := ⟨39, [.tmp 2], (.seq (.reg [o 1 (.box (.t 0)),o 2 (.mv (.k (.str [])))])
  (.seq (.seq (.reg [o 5 (.fadr 1 (.t 1)),o 6 (.load false 1 (.t 5)),o 7 (.len .slice (.t 6)),o 8 (.bin .eql .none (.t 7) (.k (.int .i64 0)))])
   (.cond (.t 8) (.seq (.reg [o 2 (.mv (.k (.str [48])))])
    .ret)
   .skip))
  (.seq (.reg [o 9 (.fadr 1 (.t 1)),o 10 (.load false 1 (.t 9)),o 11 (.fadr 1 (.t 1)),o 12 (.load false 1 (.t 11)),o 13 (.len .slice (.t 12)),o 14 (.bin .sub .none (.t 13) (.k (.int .i64 1))),o 15 (.iadr 1 (.t 10) (.t 14)),o 16 (.load false 1 (.t 15)),o 17 (.callF 186 [(.t 16), (.k (.int .i64 1))]),o 3 (m 17)])
  (.seq (.seq (.reg [o 18 (.fadr 1 (.t 1)),o 19 (.load false 1 (.t 18)),o 20 (.len .slice (.t 19)),o 21 (.bin .sub .none (.t 20) (.k (.int .i64 2))),o 4 (m 21)])
   (.block 0 (.loop (.seq (.seq (.reg [o 22 (m 4),o 23 (.bin .geq .none (.t 22) (.k (.int .i64 0)))])
      (.cond (.t 23) .skip
      (.exit 0)))
     (.seq (.block 1 (.reg [o 26 (m 3),o 27 (.fadr 1 (.t 1)),o 28 (.load false 1 (.t 27)),o 29 (m 4),o 30 (.iadr 1 (.t 28) (.t 29)),o 31 (.load false 1 (.t 30)),o 32 (.callF 186 [(.t 31), (.k (.int .i64 9))]),o 33 (.bin .add .none (.t 26) (.t 32)),o 3 (m 33)]))
     (.reg [o 24 (m 4),o 25 (.bin .sub .none (.t 24) (.k (.int .i64 1))),o 4 (m 25)]))))))
  (.seq (.seq (.reg [o 34 (.fadr 0 (.t 1)),o 35 (.load false 1 (.t 34))])
   (.cond (.t 35) (.seq (.reg [o 36 (m 3),o 37 (.bin .add .none (.k (.str [45])) (.t 36)),o 2 (m 37)])
    .ret)
   .skip))
  (.seq (.reg [o 38 (m 3),o 2 (m 38)])
  .ret))))))⟩
def a182 : AFn := ⟨25, [.cell 2 true 2], (.seq (.reg [o 2 (.alloc [.bool false, .nils])])
  (.seq (.reg [o 3 (.mv (.k (.nils)))])
  (.seq (.reg [o 6 (m 0),o 7 (.bin .lss .none (.t 6) (.k (.int .i64 0))),o 4 (m 7)])
  (.seq (.block 0 (.loop (.seq (.seq (.reg [o 8 (m 0),o 9 (.bin .neq .none (.t 8) (.k (.int .i64 0)))])
      (.cond (.t 9) .skip
      (.exit 0)))
     (.block 1 (.seq (.reg [o 10 (m 0),o 11 (.bin .rem .none (.t 10) (.k (.int .i64 1000000000))),o 5 (m 11)])
      (.seq (.seq (.reg [o 12 (m 5),o 13 (.bin .lss .none (.t 12) (.k (.int .i64 0)))])
       (.cond (.t 13) (.reg [o 14 (m 5),o 15 (.bin .sub .none (.k (.int .i64 0)) (.t 14)),o 5 (m 15)])
       .skip))
      (.seq (.reg [o 16 (m 3),o 17 (m 5),o 18 (.bslice 1 1 [.int .i64 0] [(0, 1, (.t 17))]),o 19 (.app 1 8 (.t 16) (.t 18)),o 3 (m 19)])
      (.reg [o 20 (m 0),o 21 (.bin .quo .none (.t 20) (.k (.int .i64 1000000000))),o 0 (m 21)]))))))))
  (.seq (.reg [o 22 (m 4),o 23 (m 3),o 24 (.callF 249 [(.t 22), (.t 23)]),n (.store 2 (.t 2) (.t 24))])
  .ret)))))⟩
def a185 : AFn := ⟨12, [.tmp 4], (.seq (.reg [o 4 (.mv (.k (.int .i64 0)))])
  (.seq (.block 0 (.loop (.seq (.seq (.reg [o 5 (m 1),o 6 (.bin .gtr .none (.t 5) (.k (.int .i64 0)))])
      (.cond (.t 6) .skip
      (.exit 0)))
     (.block 1 (.dreg [o 7 (m 1),o 8 (m 0),o 9 (m 1),o 10 (.bin .rem .none (.t 8) (.t 9)),o 0 (m 7),o 1 (m 10)])))))
  (.seq (.reg [o 11 (m 0),o 4 (m 11)])
  .ret)))⟩
def a207 : AFn := ⟨40, [.cell 2 true 2], (.seq (.reg [o 2 (.alloc [.bool false, .nils])])
  (.seq (.reg [o 5 (m 0),o 6 (.len .str (.t 5)),o 7 (.bin .gtr .none (.t 6) (.k (.int .i64 0))),o 8 (m 7),g 9 (m 0) 8 true,g 10 (.idxs (.t 9) (.k (.int .i64 0))) 8 true,g 11 (.bin .eql .none (.t 10) (.k (.int .u8 45))) 8 true,o 12 (.pick (.t 8) (.t 11) (.k (.bool false))),o 3 (m 12)])
  (.seq (.seq (.reg [o 13 (m 3)])
   (.cond (.t 13) (.reg [o 14 (m 0),o 15 (.sls (.t 14) (some (.k (.int .i64 1))) none),o 0 (m 15)])
   .skip))
  (.seq (.reg [o 4 (.mv (.k (.nils)))])
  (.seq (.block 0 (.loop (.seq (.seq (.reg [o 16 (m 0),o 17 (.len .str (.t 16)),o 18 (.bin .gtr .none (.t 17) (.k (.int .i64 9)))])
      (.cond (.t 18) .skip
      (.exit 0)))
     (.block 1 (.seq (.reg [o 19 (m 4),o 20 (m 0),o 21 (m 0),o 22 (.len .str (.t 21)),o 23 (.bin .sub .none (.t 22) (.k (.int .i64 9))),o 24 (.sls (.t 20) (some (.t 23)) none),o 25 (.callF 153 [(.t 24)]),o 26 (.bslice 1 1 [.int .i64 0] [(0, 1, (.t 25))]),o 27 (.app 1 8 (.t 19) (.t 26)),o 4 (m 27)])
      (.reg [o 28 (m 0),o 29 (m 0),o 30 (.len .str (.t 29)),o 31 (.bin .sub .none (.t 30) (.k (.int .i64 9))),o 32 (.sls (.t 28) none (some (.t 31))),o 0 (m 32)]))))))
  (.seq (.reg [o 33 (m 3),o 34 (m 4),o 35 (m 0),o 36 (.callF 153 [(.t 35)]),o 37 (.bslice 1 1 [.int .i64 0] [(0, 1, (.t 36))]),o 38 (.app 1 8 (.t 34) (.t 37)),o 39 (.callF 249 [(.t 33), (.t 38)]),n (.store 2 (.t 2) (.t 39))])
  .ret))))))⟩
def a208 : AFn := ⟨206, [.tmp 4, .tmp 5], (.seq (.reg [o 4 (.mv (.k (.nils))),o 5 (.mv (.k (.nils)))])
  (.seq (.seq (.reg [o 24 (m 0),o 25 (m 1),o 26 (.callF 251 [(.t 24), (.t 25)]),o 27 (.bin .lss .none (.t 26) (.k (.int .i64 0)))])
   (.cond (.t 27) (.seq (.reg [o 28 (m 0),o 4 (.mv (.k (.nils))),o 5 (m 28)])
    .ret)
   .skip))
  (.seq (.seq (.reg [o 29 (m 1),o 30 (.len .slice (.t 29)),o 31 (.bin .eql .none (.t 30) (.k (.int .i64 1)))])
   (.cond (.t 31) (.seq (.reg [o 33 (m 0),o 34 (m 1),o 35 (.iadr 1 (.t 34) (.k (.int .i64 0))),o 36 (.load false 1 (.t 35)),o 37 (.callF 270 [(.t 33), (.t 36)]),o 32 (m 37),o 38 (.ext (.t 32) 0),o 39 (.ext (.t 32) 1),o 6 (m 38),o 7 (m 39)])
    (.seq (.reg [o 40 (m 6),o 41 (m 7),o 42 (.bslice 1 1 [.int .i64 0] [(0, 1, (.t 41))]),o 43 (.callF 271 [(.t 42)]),o 4 (m 40),o 5 (m 43)])
    .ret))
   .skip))
  (.seq (.reg [o 44 (m 1),o 45 (m 1),o 46 (.len .slice (.t 45)),o 47 (.bin .sub .none (.t 46) (.k (.int .i64 1))),o 48 (.iadr 1 (.t 44) (.t 47)),o 49 (.load false 1 (.t 48)),o 50 (.bin .add .none (.t 49) (.k (.int .i64 1))),o 51 (.bin .quo .none (.k (.int .i64 1000000000)) (.t 50)),o 52 (.bslice 1 1 [.int .i64 0] [(0, 1, (.t 51))]),o 8 (m 52)])
  (.seq (.reg [o 53 (m 1),o 54 (m 8),o 55 (.callF 253 [(.t 53), (.t 54)]),o 9 (m 55)])
  (.seq (.reg [o 56 (m 9),o 57 (.len .slice (.t 56)),o 10 (m 57)])
  (.seq (.reg [o 58 (.bslice 1 0 [] []),o 59 (m 0),o 60 (m 8),o 61 (.callF 253 [(.t 59), (.t 60)]),o 62 (.app 1 8 (.t 58) (.t 61)),o 11 (m 62)])
  (.seq (.block 0 (.loop (.seq (.seq (.reg [o 63 (m 11),o 64 (.len .slice (.t 63)),o 65 (m 0),o 66 (.len .slice (.t 65)),o 67 (.bin .add .none (.t 66) (.k (.int .i64 1))),o 68 (.bin .lss .none (.t 64) (.t 67))])
      (.cond (.t 68) .skip
      (.exit 0)))
     (.block 1 (.reg [o 69 (m 11),o 70 (.bslice 1 1 [.int .i64 0] [(0, 1, (.k (.int .i64 0)))]),o 71 (.app 1 8 (.t 69) (.t 70)),o 11 (m 71)])))))
  (.seq (.reg [o 72 (m 11),o 73 (.len .slice (.t 72)),o 74 (m 10),o 75 (.bin .sub .none (.t 73) (.t 74)),o 76 (.mks 1 8 [.int .i64 0] (.t 75) (.t 75)),o 12 (m 76)])
  (.seq (.seq (.reg [o 77 (m 11),o 78 (.len .slice (.t 77)),o 79 (m 10),o 80 (.bin .sub .none (.t 78) (.t 79)),o 81 (.bin .sub .none (.t 80) (.k (.int .i64 1))),o 13 (m 81)])
   (.block 2 (.loop (.seq (.seq (.reg [o 82 (m 13),o 83 (.bin .geq .none (.t 82) (.k (.int .i64 0)))])
      (.cond (.t 83) .skip
      (.exit 2)))
     (.seq (.block 3 (.seq (.reg [o 86 (m 11),o 87 (m 9),o 88 (m 13),o 89 (.callF 272 [(.t 86), (.t 87), (.t 88)]),o 14 (m 89)])
       (.seq (.reg [o 15 (.mv (.k (.int .i64 0)))])
       (.seq (.seq (.reg [o 16 (.mv (.k (.int .i64 0)))])
        (.block 4 (.loop (.seq (.seq (.reg [o 90 (m 16),o 91 (m 10),o 92 (.bin .lss .none (.t 90) (.t 91))])
           (.cond (.t 92) .skip
           (.exit 4)))
          (.seq (.block 5 (.seq (.reg [o 95 (m 14),o 96 (m 9),o 97 (m 16),o 98 (.iadr 1 (.t 96) (.t 97)),o 99 (.load false 1 (.t 98)),o 100 (.bin .mul .none (.t 95) (.t 99)),o 101 (m 15),o 102 (.bin .add .none (.t 100) (.t 101)),o 17 (m 102)])
            (.seq (.reg [o 103 (m 11),o 104 (m 16),o 105 (m 13),o 106 (.bin .add .none (.t 104) (.t 105)),o 107 (.iadr 1 (.t 103) (.t 106)),o 108 (.load false 1 (.t 107)),o 109 (m 17),o 110 (.bin .rem .none (.t 109) (.k (.int .i64 1000000000))),o 111 (.bin .sub .none (.t 108) (.t 110)),o 18 (m 111)])
            (.seq (.reg [o 112 (m 17),o 113 (.bin .quo .none (.t 112) (.k (.int .i64 1000000000))),o 15 (m 113)])
            (.seq (.seq (.reg [o 114 (m 18),o 115 (.bin .lss .none (.t 114) (.k (.int .i64 0)))])
             (.cond (.t 115) (.seq (.reg [o 116 (m 18),o 117 (.bin .add .none (.t 116) (.k (.int .i64 1000000000))),o 18 (m 117)])
              (.reg [o 118 (m 15),o 119 (.bin .add .none (.t 118) (.k (.int .i64 1))),o 15 (m 119)]))
             .skip))
            (.reg [o 120 (m 11),o 121 (m 16),o 122 (m 13),o 123 (.bin .add .none (.t 121) (.t 122)),o 124 (m 18),o 125 (.iadr 1 (.t 120) (.t 123)),n (.store 1 (.t 125) (.t 124))]))))))
          (.reg [o 93 (m 16),o 94 (.bin .add .none (.t 93) (.k (.int .i64 1))),o 16 (m 94)]))))))
       (.seq (.reg [o 126 (m 11),o 127 (m 13),o 128 (m 10),o 129 (.bin .add .none (.t 127) (.t 128)),o 130 (m 11),o 131 (m 13),o 132 (m 10),o 133 (.bin .add .none (.t 131) (.t 132)),o 134 (.iadr 1 (.t 130) (.t 133)),o 135 (.load false 1 (.t 134)),o 136 (m 15),o 137 (.bin .sub .none (.t 135) (.t 136)),o 138 (.iadr 1 (.t 126) (.t 129)),n (.store 1 (.t 138) (.t 137))])
       (.seq (.seq (.reg [o 139 (m 11),o 140 (m 13),o 141 (m 10),o 142 (.bin .add .none (.t 140) (.t 141)),o 143 (.iadr 1 (.t 139) (.t 142)),o 144 (.load false 1 (.t 143)),o 145 (.bin .lss .none (.t 144) (.k (.int .i64 0)))])
        (.cond (.t 145) (.seq (.reg [o 146 (m 14),o 147 (.bin .sub .none (.t 146) (.k (.int .i64 1))),o 14 (m 147)])
         (.seq (.reg [o 19 (.mv (.k (.int .i64 0)))])
         (.seq (.seq (.reg [o 20 (.mv (.k (.int .i64 0)))])
          (.block 6 (.loop (.seq (.seq (.reg [o 148 (m 20),o 149 (m 10),o 150 (.bin .lss .none (.t 148) (.t 149))])
             (.cond (.t 150) .skip
             (.exit 6)))
            (.seq (.block 7 (.seq (.dreg [o 153 (m 11),o 154 (m 20),o 155 (m 13),o 156 (.bin .add .none (.t 154) (.t 155)),o 157 (.iadr 1 (.t 153) (.t 156)),⟨(some 158), .load false 1 (.t 157), none, (some 5)⟩,o 159 (m 9),o 160 (m 20),o 161 (.iadr 1 (.t 159) (.t 160)),⟨(some 162), .load false 1 (.t 161), none, (some 9)⟩,o 163 (.bin .add .none (.t 158) (.t 162)),o 164 (m 19),o 165 (.bin .add .none (.t 163) (.t 164)),o 21 (m 165)])
              (.seq (.reg [o 166 (m 11),o 167 (m 20),o 168 (m 13),o 169 (.bin .add .none (.t 167) (.t 168)),o 170 (m 21),o 171 (.bin .rem .none (.t 170) (.k (.int .i64 1000000000))),o 172 (.iadr 1 (.t 166) (.t 169)),n (.store 1 (.t 172) (.t 171))])
              (.reg [o 173 (m 21),o 174 (.bin .quo .none (.t 173) (.k (.int .i64 1000000000))),o 19 (m 174)]))))
            (.reg [o 151 (m 20),o 152 (.bin .add .none (.t 151) (.k (.int .i64 1))),o 20 (m 152)]))))))
         (.reg [o 175 (m 11),o 176 (m 13),o 177 (m 10),o 178 (.bin .add .none (.t 176) (.t 177)),o 179 (m 11),o 180 (m 13),o 181 (m 10),o 182 (.bin .add .none (.t 180) (.t 181)),o 183 (.iadr 1 (.t 179) (.t 182)),o 184 (.load false 1 (.t 183)),o 185 (m 19),o 186 (.bin .add .none (.t 184) (.t 185)),o 187 (.iadr 1 (.t 175) (.t 178)),n (.store 1 (.t 187) (.t 186))]))))
        .skip))
       (.reg [o 188 (m 12),o 189 (m 13),o 190 (m 14),o 191 (.iadr 1 (.t 188) (.t 189)),n (.store 1 (.t 191) (.t 190))])))))))
     (.reg [o 84 (m 13),o 85 (.bin .sub .none (.t 84) (.k (.int .i64 1))),o 13 (m 85)]))))))
  (.seq (.dreg [o 193 (m 11),o 194 (m 10),o 195 (.sl 1 (.t 193) none (some (.t 194))),o 196 (.callF 271 [(.t 195)]),o 197 (m 8),o 198 (.iadr 1 (.t 197) (.k (.int .i64 0))),⟨(some 199), .load false 1 (.t 198), none, (some 6)⟩,o 200 (.callF 270 [(.t 196), (.t 199)]),o 192 (m 200),o 201 (.ext (.t 192) 0),o 202 (.ext (.t 192) 1),o 22 (m 201),o 23 (m 202)])
  (.seq (.reg [o 203 (m 12),o 204 (.callF 271 [(.t 203)]),o 205 (m 22),o 4 (m 204),o 5 (m 205)])
  .ret))))))))))))⟩
def a248 : AFn := ⟨9, [.cell 2 true 2], (.seq (.reg [o 1 (.box (.t 0)),o 2 (.alloc [.bool false, .nils])])
  (.seq (.reg [o 3 (.fadr 0 (.t 1)),o 4 (.load false 1 (.t 3)),o 5 (.un .not (.t 4)),o 6 (.fadr 1 (.t 1)),o 7 (.load false 1 (.t 6)),o 8 (.callF 249 [(.t 5), (.t 7)]),n (.store 2 (.t 2) (.t 8))])
  .ret))⟩
def a249 : AFn := ⟨15, [.cell 4 true 2], (.seq (.reg [o 4 (.alloc [.bool false, .nils])])
  (.seq (.reg [o 5 (m 1),o 6 (.callF 271 [(.t 5)]),o 1 (m 6)])
  (.seq (.reg [o 7 (m 0),o 8 (m 7),g 9 (m 1) 8 true,g 10 (.len .slice (.t 9)) 8 true,g 11 (.bin .gtr .none (.t 10) (.k (.int .i64 0))) 8 true,o 12 (.pick (.t 8) (.t 11) (.k (.bool false))),o 13 (m 1),o 14 (.build [.bool false, .nils] [(0, 1, (.t 12)), (1, 1, (.t 13))]),n (.store 2 (.t 4) (.t 14))])
  .ret)))⟩
def a250 : AFn := ⟨42, [.tmp 4], (.seq (.reg [o 4 (.mv (.k (.nils)))])
  (.seq (.reg [o 5 (.mv (.k (.nils)))])
  (.seq (.reg [o 6 (.mv (.k (.int .i64 0)))])
  (.seq (.seq (.reg [o 7 (.mv (.k (.int .i64 0)))])
   (.block 0 (.loop (.seq (.seq (.reg [o 9 (m 7),o 10 (m 0),o 11 (.len .slice (.t 10)),o 12 (.bin .lss .none (.t 9) (.t 11)),o 13 (m 12),g 14 (m 7) 13 false,g 15 (m 1) 13 false,g 16 (.len .slice (.t 15)) 13 false,g 17 (.bin .lss .none (.t 14) (.t 16)) 13 false,o 18 (.pick (.t 13) (.k (.bool true)) (.t 17)),o 19 (m 18),g 20 (m 6) 19 false,g 21 (.bin .gtr .none (.t 20) (.k (.int .i64 0))) 19 false,o 22 (.pick (.t 19) (.k (.bool true)) (.t 21))])
      (.cond (.t 22) .skip
      (.exit 0)))
     (.seq (.block 1 (.seq (.reg [o 25 (m 0),o 26 (m 7),o 27 (.callF 296 [(.t 25), (.t 26)]),o 28 (m 1),o 29 (m 7),o 30 (.callF 296 [(.t 28), (.t 29)]),o 31 (.bin .add .none (.t 27) (.t 30)),o 32 (m 6),o 33 (.bin .add .none (.t 31) (.t 32)),o 8 (m 33)])
       (.seq (.reg [o 34 (m 5),o 35 (m 8),o 36 (.bin .rem .none (.t 35) (.k (.int .i64 1000000000))),o 37 (.bslice 1 1 [.int .i64 0] [(0, 1, (.t 36))]),o 38 (.app 1 8 (.t 34) (.t 37)),o 5 (m 38)])
       (.reg [o 39 (m 8),o 40 (.bin .quo .none (.t 39) (.k (.int .i64 1000000000))),o 6 (m 40)]))))
     (.reg [o 23 (m 7),o 24 (.bin .add .none (.t 23) (.k (.int .i64 1))),o 7 (m 24)]))))))
  (.seq (.reg [o 41 (m 5),o 4 (m 41)])
  .ret)))))⟩
def a251 : AFn := ⟨41, [.tmp 4], (.seq (.reg [o 4 (.mv (.k (.int .i64 0)))])
  (.seq (.seq (.reg [o 6 (m 0),o 7 (.len .slice (.t 6)),o 8 (m 1),o 9 (.len .slice (.t 8)),o 10 (.bin .neq .none (.t 7) (.t 9))])
   (.cond (.t 10) (.seq (.seq (.reg [o 11 (m 0),o 12 (.len .slice (.t 11)),o 13 (m 1),o 14 (.len .slice (.t 13)),o 15 (.bin .lss .none (.t 12) (.t 14))])
     (.cond (.t 15) (.seq (.reg [o 4 (.mv (.k (.int .i64 (-1))))])
      .ret)
     .skip))
    (.seq (.reg [o 4 (.mv (.k (.int .i64 1)))])
    .ret))
   .skip))
  (.seq (.seq (.reg [o 16 (m 0),o 17 (.len .slice (.t 16)),o 18 (.bin .sub .none (.t 17) (.k (.int .i64 1))),o 5 (m 18)])
   (.block 0 (.loop (.seq (.seq (.reg [o 19 (m 5),o 20 (.bin .geq .none (.t 19) (.k (.int .i64 0)))])
      (.cond (.t 20) .skip
      (.exit 0)))
     (.seq (.block 1 (.seq (.seq (.dreg [o 23 (m 0),o 24 (m 5),o 25 (.iadr 1 (.t 23) (.t 24)),⟨(some 26), .load false 1 (.t 25), none, (some 3)⟩,o 27 (m 1),o 28 (m 5),o 29 (.iadr 1 (.t 27) (.t 28)),⟨(some 30), .load false 1 (.t 29), none, (some 7)⟩,o 31 (.bin .lss .none (.t 26) (.t 30))])
        (.cond (.t 31) (.seq (.reg [o 4 (.mv (.k (.int .i64 (-1))))])
         .ret)
        .skip))
       (.seq (.dreg [o 32 (m 0),o 33 (m 5),o 34 (.iadr 1 (.t 32) (.t 33)),⟨(some 35), .load false 1 (.t 34), none, (some 3)⟩,o 36 (m 1),o 37 (m 5),o 38 (.iadr 1 (.t 36) (.t 37)),⟨(some 39), .load false 1 (.t 38), none, (some 7)⟩,o 40 (.bin .gtr .none (.t 35) (.t 39))])
       (.cond (.t 40) (.seq (.reg [o 4 (.mv (.k (.int .i64 1)))])
        .ret)
       .skip))))
     (.reg [o 21 (m 5),o 22 (.bin .sub .none (.t 21) (.k (.int .i64 1))),o 5 (m 22)]))))))
  (.seq (.reg [o 4 (.mv (.k (.int .i64 0)))])
  .ret))))⟩
def a252 : AFn := ⟨35, [.tmp 4], (.seq (.reg [o 4 (.mv (.k (.nils)))])
  (.seq (.reg [o 5 (.mv (.k (.nils)))])
  (.seq (.reg [o 6 (.mv (.k (.int .i64 0)))])
  (.seq (.seq (.reg [o 7 (.mv (.k (.int .i64 0)))])
   (.block 0 (.loop (.seq (.seq (.reg [o 9 (m 7),o 10 (m 0),o 11 (.len .slice (.t 10)),o 12 (.bin .lss .none (.t 9) (.t 11))])
      (.cond (.t 12) .skip
      (.exit 0)))
     (.seq (.block 1 (.seq (.dreg [o 15 (m 0),o 16 (m 7),o 17 (.iadr 1 (.t 15) (.t 16)),⟨(some 18), .load false 1 (.t 17), none, (some 6)⟩,o 19 (m 1),o 20 (m 7),o 21 (.callF 296 [(.t 19), (.t 20)]),o 22 (.bin .sub .none (.t 18) (.t 21)),o 23 (m 6),o 24 (.bin .sub .none (.t 22) (.t 23)),o 8 (m 24)])
       (.seq (.reg [o 6 (.mv (.k (.int .i64 0)))])
       (.seq (.seq (.reg [o 25 (m 8),o 26 (.bin .lss .none (.t 25) (.k (.int .i64 0)))])
        (.cond (.t 26) (.seq (.reg [o 27 (m 8),o 28 (.bin .add .none (.t 27) (.k (.int .i64 1000000000))),o 8 (m 28)])
         (.reg [o 6 (.mv (.k (.int .i64 1)))]))
        .skip))
       (.reg [o 29 (m 5),o 30 (m 8),o 31 (.bslice 1 1 [.int .i64 0] [(0, 1, (.t 30))]),o 32 (.app 1 8 (.t 29) (.t 31)),o 5 (m 32)])))))
     (.reg [o 13 (m 7),o 14 (.bin .add .none (.t 13) (.k (.int .i64 1))),o 7 (m 14)]))))))
  (.seq (.reg [o 33 (m 5),o 34 (.callF 271 [(.t 33)]),o 4 (m 34)])
  .ret)))))⟩
def a253 : AFn := ⟨72, [.tmp 4], (.seq (.reg [o 4 (.mv (.k (.nils)))])
  (.seq (.reg [o 10 (m 0),o 11 (.len .slice (.t 10)),o 12 (m 1),o 13 (.len .slice (.t 12)),o 14 (.bin .add .none (.t 11) (.t 13)),o 15 (.mks 1 8 [.int .i64 0] (.t 14) (.t 14)),o 5 (m 15)])
  (.seq (.seq (.reg [o 6 (.mv (.k (.int .i64 0)))])
   (.block 0 (.loop (.seq (.seq (.reg [o 16 (m 6),o 17 (m 0),o 18 (.len .slice (.t 17)),o 19 (.bin .lss .none (.t 16) (.t 18))])
      (.cond (.t 19) .skip
      (.exit 0)))
     (.seq (.block 1 (.seq (.reg [o 7 (.mv (.k (.int .i64 0)))])
       (.seq (.seq (.reg [o 8 (.mv (.k (.int .i64 0)))])
        (.block 2 (.loop (.seq (.seq (.reg [o 22 (m 8),o 23 (m 1),o 24 (.len .slice (.t 23)),o 25 (.bin .lss .none (.t 22) (.t 24))])
           (.cond (.t 25) .skip
           (.exit 2)))
          (.seq (.block 3 (.seq (.dreg [o 28 (m 5),o 29 (m 6),o 30 (m 8),o 31 (.bin .add .none (.t 29) (.t 30)),o 32 (.iadr 1 (.t 28) (.t 31)),⟨(some 33), .load false 1 (.t 32), none, (some 5)⟩,o 34 (m 0),o 35 (m 6),o 36 (.iadr 1 (.t 34) (.t 35)),⟨(some 37), .load false 1 (.t 36), none, (some 9)⟩,o 38 (m 1),o 39 (m 8),o 40 (.iadr 1 (.t 38) (.t 39)),⟨(some 41), .load false 1 (.t 40), none, (some 13)⟩,o 42 (.bin .mul .none (.t 37) (.t 41)),o 43 (.bin .add .none (.t 33) (.t 42)),o 44 (m 7),o 45 (.bin .add .none (.t 43) (.t 44)),o 9 (m 45)])
            (.seq (.reg [o 46 (m 5),o 47 (m 6),o 48 (m 8),o 49 (.bin .add .none (.t 47) (.t 48)),o 50 (m 9),o 51 (.bin .rem .none (.t 50) (.k (.int .i64 1000000000))),o 52 (.iadr 1 (.t 46) (.t 49)),n (.store 1 (.t 52) (.t 51))])
            (.reg [o 53 (m 9),o 54 (.bin .quo .none (.t 53) (.k (.int .i64 1000000000))),o 7 (m 54)]))))
          (.reg [o 26 (m 8),o 27 (.bin .add .none (.t 26) (.k (.int .i64 1))),o 8 (m 27)]))))))
       (.reg [o 55 (m 5),o 56 (m 6),o 57 (m 1),o 58 (.len .slice (.t 57)),o 59 (.bin .add .none (.t 56) (.t 58)),o 60 (m 5),o 61 (m 6),o 62 (m 1),o 63 (.len .slice (.t 62)),o 64 (.bin .add .none (.t 61) (.t 63)),o 65 (.iadr 1 (.t 60) (.t 64)),o 66 (.load false 1 (.t 65)),o 67 (m 7),o 68 (.bin .add .none (.t 66) (.t 67)),o 69 (.iadr 1 (.t 55) (.t 59)),n (.store 1 (.t 69) (.t 68))]))))
     (.reg [o 20 (m 6),o 21 (.bin .add .none (.t 20) (.k (.int .i64 1))),o 6 (m 21)]))))))
  (.seq (.reg [o 70 (m 5),o 71 (.callF 271 [(.t 70)]),o 4 (m 71)])
  .ret))))⟩
def a270 : AFn := ⟨39, [.tmp 4, .tmp 5], (.seq (.reg [o 4 (.mv (.k (.nils))),o 5 (.mv (.k (.int .i64 0)))])
  (.seq (.reg [o 10 (m 0),o 11 (.len .slice (.t 10)),o 12 (.mks 1 8 [.int .i64 0] (.t 11) (.t 11)),o 6 (m 12)])
  (.seq (.reg [o 7 (.mv (.k (.int .i64 0)))])
  (.seq (.seq (.reg [o 13 (m 0),o 14 (.len .slice (.t 13)),o 15 (.bin .sub .none (.t 14) (.k (.int .i64 1))),o 8 (m 15)])
   (.block 0 (.loop (.seq (.seq (.reg [o 16 (m 8),o 17 (.bin .geq .none (.t 16) (.k (.int .i64 0)))])
      (.cond (.t 17) .skip
      (.exit 0)))
     (.seq (.block 1 (.seq (.reg [o 20 (m 7),o 21 (.bin .mul .none (.t 20) (.k (.int .i64 1000000000))),o 22 (m 0),o 23 (m 8),o 24 (.iadr 1 (.t 22) (.t 23)),o 25 (.load false 1 (.t 24)),o 26 (.bin .add .none (.t 21) (.t 25)),o 9 (m 26)])
       (.seq (.reg [o 27 (m 6),o 28 (m 8),o 29 (m 9),o 30 (m 1),o 31 (.bin .quo .none (.t 29) (.t 30)),o 32 (.iadr 1 (.t 27) (.t 28)),n (.store 1 (.t 32) (.t 31))])
       (.reg [o 33 (m 9),o 34 (m 1),o 35 (.bin .rem .none (.t 33) (.t 34)),o 7 (m 35)]))))
     (.reg [o 18 (m 8),o 19 (.bin .sub .none (.t 18) (.k (.int .i64 1))),o 8 (m 19)]))))))
  (.seq (.reg [o 36 (m 6),o 37 (.callF 271 [(.t 36)]),o 38 (m 7),o 4 (m 37),o 5 (m 38)])
  .ret)))))⟩
def a271 : AFn := ⟨21, [.tmp 2], (.seq (.reg [o 2 (.mv (.k (.nils)))])
  (.seq (.block 0 (.loop (.seq (.seq (.reg [o 3 (m 0),o 4 (.len .slice (.t 3)),o 5 (.bin .gtr .none (.t 4) (.k (.int .i64 0))),o 6 (m 5),g 7 (m 0) 6 true,g 8 (m 0) 6 true,g 9 (.len .slice (.t 8)) 6 true,g 10 (.bin .sub .none (.t 9) (.k (.int .i64 1))) 6 true,g 11 (.iadr 1 (.t 7) (.t 10)) 6 true,g 12 (.load false 1 (.t 11)) 6 true,g 13 (.bin .eql .none (.t 12) (.k (.int .i64 0))) 6 true,o 14 (.pick (.t 6) (.t 13) (.k (.bool false)))])
      (.cond (.t 14) .skip
      (.exit 0)))
     (.block 1 (.reg [o 15 (m 0),o 16 (m 0),o 17 (.len .slice (.t 16)),o 18 (.bin .sub .none (.t 17) (.k (.int .i64 1))),o 19 (.sl 1 (.t 15) none (some (.t 18))),o 0 (m 19)])))))
  (.seq (.reg [o 20 (m 0),o 2 (m 20)])
  .ret)))⟩
def a272 : AFn := ⟨77, [.tmp 6], (.seq (.reg [o 6 (.mv (.k (.int .i64 0)))])
  (.seq (.reg [o 11 (m 1),o 12 (.len .slice (.t 11)),o 7 (m 12)])
  (.seq (.dreg [o 13 (m 0),o 14 (m 2),o 15 (m 7),o 16 (.bin .add .none (.t 14) (.t 15)),o 17 (.iadr 1 (.t 13) (.t 16)),⟨(some 18), .load false 1 (.t 17), none, (some 5)⟩,o 19 (.bin .mul .none (.t 18) (.k (.int .i64 1000000000))),o 20 (m 0),o 21 (m 2),o 22 (m 7),o 23 (.bin .add .none (.t 21) (.t 22)),o 24 (.bin .sub .none (.t 23) (.k (.int .i64 1))),o 25 (.iadr 1 (.t 20) (.t 24)),⟨(some 26), .load false 1 (.t 25), none, (some 13)⟩,o 27 (.bin .add .none (.t 19) (.t 26)),o 8 (m 27)])
  (.seq (.dreg [o 28 (m 8),o 29 (m 1),o 30 (m 7),o 31 (.bin .sub .none (.t 30) (.k (.int .i64 1))),o 32 (.iadr 1 (.t 29) (.t 31)),⟨(some 33), .load false 1 (.t 32), none, (some 5)⟩,o 34 (.bin .quo .none (.t 28) (.t 33)),o 35 (m 8),o 36 (m 1),o 37 (m 7),o 38 (.bin .sub .none (.t 37) (.k (.int .i64 1))),o 39 (.iadr 1 (.t 36) (.t 38)),⟨(some 40), .load false 1 (.t 39), none, (some 12)⟩,o 41 (.bin .rem .none (.t 35) (.t 40)),o 9 (m 34),o 10 (m 41)])
  (.seq (.block 0 (.loop (.seq (.seq (.dreg [o 42 (m 9),o 43 (.bin .geq .none (.t 42) (.k (.int .i64 1000000000))),o 44 (m 43),g 45 (m 9) 44 false,g 46 (m 1) 44 false,g 47 (m 7) 44 false,g 48 (.bin .sub .none (.t 47) (.k (.int .i64 2))) 44 false,g 49 (.iadr 1 (.t 46) (.t 48)) 44 false,⟨(some 50), .load false 1 (.t 49), (some (44, false)), (some 8)⟩,g 51 (.bin .mul .none (.t 45) (.t 50)) 44 false,g 52 (m 10) 44 false,g 53 (.bin .mul .none (.t 52) (.k (.int .i64 1000000000))) 44 false,g 54 (m 0) 44 false,g 55 (m 2) 44 false,g 56 (m 7) 44 false,g 57 (.bin .add .none (.t 55) (.t 56)) 44 false,g 58 (.bin .sub .none (.t 57) (.k (.int .i64 2))) 44 false,g 59 (.iadr 1 (.t 54) (.t 58)) 44 false,⟨(some 60), .load false 1 (.t 59), (some (44, false)), (some 18)⟩,g 61 (.bin .add .none (.t 53) (.t 60)) 44 false,g 62 (.bin .gtr .none (.t 51) (.t 61)) 44 false,o 63 (.pick (.t 44) (.k (.bool true)) (.t 62))])
      (.cond (.t 63) .skip
      (.exit 0)))
     (.block 1 (.seq (.reg [o 64 (m 9),o 65 (.bin .sub .none (.t 64) (.k (.int .i64 1))),o 9 (m 65)])
      (.seq (.reg [o 66 (m 10),o 67 (m 1),o 68 (m 7),o 69 (.bin .sub .none (.t 68) (.k (.int .i64 1))),o 70 (.iadr 1 (.t 67) (.t 69)),o 71 (.load false 1 (.t 70)),o 72 (.bin .add .none (.t 66) (.t 71)),o 10 (m 72)])
      (.seq (.reg [o 73 (m 10),o 74 (.bin .geq .none (.t 73) (.k (.int .i64 1000000000)))])
      (.cond (.t 74) (.seq (.reg [o 75 (m 9),o 6 (m 75)])
       .ret)
      .skip))))))))
  (.seq (.reg [o 76 (m 9),o 6 (m 76)])
  .ret))))))⟩
def a296 : AFn := ⟨13, [.tmp 4], (.seq (.reg [o 4 (.mv (.k (.int .i64 0)))])
  (.seq (.seq (.reg [o 5 (m 1),o 6 (m 0),o 7 (.len .slice (.t 6)),o 8 (.bin .lss .none (.t 5) (.t 7))])
   (.cond (.t 8) (.seq (.reg [o 9 (m 0),o 10 (m 1),o 11 (.iadr 1 (.t 9) (.t 10)),o 12 (.load false 1 (.t 11)),o 4 (m 12)])
    .ret)
   .skip))
  (.seq (.reg [o 4 (.mv (.k (.int .i64 0)))])
  .ret)))⟩
def tab : T AFn := (.node (.node (.node (.node (.node .nil none (.node (.node (.node (.node .nil (some a271) .nil) none .nil) none (.node .nil (some a207) .nil)) none .nil)) none .nil) none (.node (.node (.node .nil none (.node .nil (some a99) .nil)) (some a19) (.node (.node .nil (some a83) .nil) none .nil)) none (.node (.node (.node .nil (some a75) .nil) none (.node (.node .nil (some a171) .nil) none .nil)) none (.node (.node .nil (some a91) .nil) (some a59) (.node .nil (some a123) (.node .nil (some a251) .nil)))))) none (.node (.node .nil none (.node (.node (.node .nil (some a73) .nil) none (.node (.node .nil (some a169) .nil) none .nil)) none (.node .nil none (.node (.node .nil (some a185) .nil) none (.node .nil (some a249) .nil))))) none (.node (.node .nil (some a21) (.node .nil none (.node (.node .nil (some a181) .nil) none .nil))) none (.node .nil none (.node .nil none (.node .nil (some a125) (.node .nil (some a253) .nil))))))) none (.node (.node (.node (.node .nil none (.node (.node (.node (.node .nil (some a272) .nil) none .nil) none (.node .nil (some a208) .nil)) none .nil)) none (.node (.node (.node .nil (some a72) .nil) none (.node (.node (.node .nil (some a296) .nil) (some a168) .nil) none .nil)) none (.node .nil (some a56) (.node .nil none (.node .nil (some a248) .nil))))) none (.node .nil none (.node (.node .nil none (.node (.node .nil (some a172) .nil) none .nil)) none (.node .nil none (.node .nil (some a124) (.node .nil (some a252) .nil)))))) none (.node (.node .nil none (.node (.node (.node .nil (some a74) .nil) none (.node (.node .nil (some a170) .nil) none .nil)) none (.node .nil none (.node .nil (some a122) (.node .nil (some a250) .nil))))) none (.node (.node .nil none (.node .nil none (.node (.node .nil (some a182) .nil) none .nil))) none (.node (.node (.node (.node (.node .nil (some a270) .nil) none .nil) none .nil) none .nil) none (.node (.node .nil (some a94) .nil) none .nil))))))
section
open Go.Proofs
theorem b19 : Chk 19 a19 := by unfold Chk; kernel_rfl
theorem b21 : Chk 21 a21 := by unfold Chk; kernel_rfl
theorem b56 : Chk 56 a56 := by unfold Chk; kernel_rfl
theorem b59 : Chk 59 a59 := by unfold Chk; kernel_rfl
theorem b72 : Chk 72 a72 := by unfold Chk; kernel_rfl
theorem b73 : Chk 73 a73 := by unfold Chk; kernel_rfl
theorem b74 : Chk 74 a74 := by unfold Chk; kernel_rfl
theorem b75 : Chk 75 a75 := by unfold Chk; kernel_rfl
theorem b83 : Chk 83 a83 := by unfold Chk; kernel_rfl
theorem b91 : Chk 91 a91 := by unfold Chk; kernel_rfl
theorem b94 : Chk 94 a94 := by unfold Chk; kernel_rfl
theorem b99 : Chk 99 a99 := by unfold Chk; kernel_rfl
theorem b122 : Chk 122 a122 := by unfold Chk; kernel_rfl
theorem b123 : Chk 123 a123 := by unfold Chk; kernel_rfl
theorem b124 : Chk 124 a124 := by unfold Chk; kernel_rfl
theorem b125 : Chk 125 a125 := by unfold Chk; kernel_rfl
theorem b168 : Chk 168 a168 := by unfold Chk; kernel_rfl
theorem b169 : Chk 169 a169 := by unfold Chk; kernel_rfl
theorem b170 : Chk 170 a170 := by unfold Chk; kernel_rfl
theorem b171 : Chk 171 a171 := by unfold Chk; kernel_rfl
theorem b172 : Chk 172 a172 := by unfold Chk; kernel_rfl
theorem b181 : Chk 181 a181 := by unfold Chk; kernel_rfl
theorem b182 : Chk 182 a182 := by unfold Chk; kernel_rfl
theorem b185 : Chk 185 a185 := by unfold Chk; kernel_rfl
theorem b207 : Chk 207 a207 := by unfold Chk; kernel_rfl
theorem b208 : Chk 208 a208 := by unfold Chk; kernel_rfl
theorem b248 : Chk 248 a248 := by unfold Chk; kernel_rfl
theorem b249 : Chk 249 a249 := by unfold Chk; kernel_rfl
theorem b250 : Chk 250 a250 := by unfold Chk; kernel_rfl
theorem b251 : Chk 251 a251 := by unfold Chk; kernel_rfl
theorem b252 : Chk 252 a252 := by unfold Chk; kernel_rfl
theorem b253 : Chk 253 a253 := by unfold Chk; kernel_rfl
theorem b270 : Chk 270 a270 := by unfold Chk; kernel_rfl
theorem b271 : Chk 271 a271 := by unfold Chk; kernel_rfl
theorem b272 : Chk 272 a272 := by unfold Chk; kernel_rfl
theorem b296 : Chk 296 a296 := by unfold Chk; kernel_rfl
theorem all : T.Forall Chk tab (fun n => n) := ⟨C.no, ⟨C.no, ⟨C.no, ⟨C.no, ⟨C.no, trivial, ⟨C.no, ⟨C.no, ⟨C.no, ⟨C.yes b271, trivial, trivial⟩, trivial⟩, ⟨C.yes b207, trivial, trivial⟩⟩, trivial⟩⟩, trivial⟩, ⟨C.no, ⟨C.yes b19, ⟨C.no, trivial, ⟨C.yes b99, trivial, trivial⟩⟩, ⟨C.no, ⟨C.yes b83, trivial, trivial⟩, trivial⟩⟩, ⟨C.no, ⟨C.no, ⟨C.yes b75, trivial, trivial⟩, ⟨C.no, ⟨C.yes b171, trivial, trivial⟩, trivial⟩⟩, ⟨C.yes b59, ⟨C.yes b91, trivial, trivial⟩, ⟨C.yes b123, trivial, ⟨C.yes b251, trivial, trivial⟩⟩⟩⟩⟩⟩, ⟨C.no, ⟨C.no, trivial, ⟨C.no, ⟨C.no, ⟨C.yes b73, trivial, trivial⟩, ⟨C.no, ⟨C.yes b169, trivial, trivial⟩, trivial⟩⟩, ⟨C.no, trivial, ⟨C.no, ⟨C.yes b185, trivial, trivial⟩, ⟨C.yes b249, trivial, trivial⟩⟩⟩⟩⟩, ⟨C.no, ⟨C.yes b21, trivial, ⟨C.no, trivial, ⟨C.no, ⟨C.yes b181, trivial, trivial⟩, trivial⟩⟩⟩, ⟨C.no, trivial, ⟨C.no, trivial, ⟨C.yes b125, trivial, ⟨C.yes b253, trivial, trivial⟩⟩⟩⟩⟩⟩⟩, ⟨C.no, ⟨C.no, ⟨C.no, ⟨C.no, trivial, ⟨C.no, ⟨C.no, ⟨C.no, ⟨C.yes b272, trivial, trivial⟩, trivial⟩, ⟨C.yes b208, trivial, trivial⟩⟩, trivial⟩⟩, ⟨C.no, ⟨C.no, ⟨C.yes b72, trivial, trivial⟩, ⟨C.no, ⟨C.yes b168, ⟨C.yes b296, trivial, trivial⟩, trivial⟩, trivial⟩⟩, ⟨C.yes b56, trivial, ⟨C.no, trivial, ⟨C.yes b248, trivial, trivial⟩⟩⟩⟩⟩, ⟨C.no, trivial, ⟨C.no, ⟨C.no, trivial, ⟨C.no, ⟨C.yes b172, trivial, trivial⟩, trivial⟩⟩, ⟨C.no, trivial, ⟨C.yes b124, trivial, ⟨C.yes b252, trivial, trivial⟩⟩⟩⟩⟩⟩, ⟨C.no, ⟨C.no, trivial, ⟨C.no, ⟨C.no, ⟨C.yes b74, trivial, trivial⟩, ⟨C.no, ⟨C.yes b170, trivial, trivial⟩, trivial⟩⟩, ⟨C.no, trivial, ⟨C.yes b122, trivial, ⟨C.yes b250, trivial, trivial⟩⟩⟩⟩⟩, ⟨C.no, ⟨C.no, trivial, ⟨C.no, trivial, ⟨C.no, ⟨C.yes b182, trivial, trivial⟩, trivial⟩⟩⟩, ⟨C.no, ⟨C.no, ⟨C.no, ⟨C.no, ⟨C.yes b270, trivial, trivial⟩, trivial⟩, trivial⟩, trivial⟩, ⟨C.no, ⟨C.yes b94, trivial, trivial⟩, trivial⟩⟩⟩⟩⟩⟩
theorem good (n : Nat) (a : AFn) (h : tab.get n = some a) : chk Tryz.prog n = some a := T.get_forall tab (fun n => n) all n a h
end
end Go.Ae.R

/- Places: products and lengths by the program. -/
set_option linter.unusedVariables false
set_option linter.unusedSimpArgs false
set_option maxRecDepth 100000
namespace Go.Ae
open Go.Proofs
/-- The environment with the reference's arithmetic. -/
noncomputable def E3 : Env := E2.add R.tab
theorem ge3 : Ge E2 E3 := Ge.add _ _
theorem gu3 {f : Nat} {args : List AV} {h : Hp} {v : AV} (hc : Gv E2 f args h v) : Gv E3 f args h v := hc.ge fun _ _ _ hk => hk.ge ge3
section
variable {h : Hp} {K : AV → Hp → Prop}
/-- The coordinates of a place are within the limits. -/
def okP (x y z : Int) : Prop := -100000 ≤ x ∧ x ≤ 100000 ∧ -100000 ≤ y ∧ y ≤ 100000 ∧ -100000 ≤ z ∧ z ≤ 100000
instance {x y z : Int} : Decidable (okP x y z) := by unfold okP; infer_instance
theorem c177_1 {t : Nat} {x y z : Int} (hA : At h t [.int .i64 x, .int .i64 y, .int .i64 z]) (ht : t < h.next) : Gv E2 177 [.sl t 0 1 3] h (.int .i64 (if okP x y z then 0 else 3)) := by
  refine Gv.of (CallWp.fn (fn := C.a177) rfl rfl rfl ?_)
  unfold C.a177
  obtain ⟨st, hg⟩ := hA
  repeat' (with_reducible first | simp (disch := first | assumption | omega | (simp only [go_sem, ne_eq, Nat.reduceAdd, Nat.reduceLeDiff] <;> omega) | fail) only [go_sem, seval, Wp.unroll, hg] | ((first | apply k1 | apply k2 | apply k3 | apply k4 | apply k5 | apply k6 | apply k7) <;> intro hc))
  all_goals first | rw [if_neg (by unfold okP; omega)] | rw [if_pos (by unfold okP; omega)]
  all_goals (try first | refine ⟨trivial, ?_⟩ | refine ⟨rfl, ?_⟩); (repeat (first | exact Grs.refl _ | assumption | refine Grs.push ?_ | refine Grs.ov ?_ | refine Grs.put ?_ (by (try simp only [Hp.next_push, Hp.next_put, Hp.ov_next, Hp.clk_push, Hp.clk_put, Hp.ov_clk]); omega)))
theorem c177_2 {t : Nat} {x y z a b c : Int} (hA : At h t [.int .i64 x, .int .i64 y, .int .i64 z, .int .i64 a, .int .i64 b, .int .i64 c]) (ht : t < h.next) : Gv E2 177 [.sl t 0 2 3] h (.int .i64 (if okP x y z ∧ okP a b c then 0 else 3)) := by
  refine Gv.of (CallWp.fn (fn := C.a177) rfl rfl rfl ?_)
  unfold C.a177
  obtain ⟨st, hg⟩ := hA
  repeat' (with_reducible first | simp (disch := first | assumption | omega | (simp only [go_sem, ne_eq, Nat.reduceAdd, Nat.reduceLeDiff] <;> omega) | fail) only [go_sem, seval, Wp.unroll, hg] | ((first | apply k1 | apply k2 | apply k3 | apply k4 | apply k5 | apply k6 | apply k7) <;> intro hc))
  all_goals first | rw [if_neg (by unfold okP; omega)] | rw [if_pos (by unfold okP; omega)]
  all_goals (try first | refine ⟨trivial, ?_⟩ | refine ⟨rfl, ?_⟩); (repeat (first | exact Grs.refl _ | assumption | refine Grs.push ?_ | refine Grs.ov ?_ | refine Grs.put ?_ (by (try simp only [Hp.next_push, Hp.next_put, Hp.ov_next, Hp.clk_push, Hp.clk_put, Hp.ov_clk]); omega)))
theorem ok_mul {a x : Int} (ha : -100000 ≤ a ∧ a ≤ 100000) (hx : -100000 ≤ x ∧ x ≤ 100000) : -10000000000 ≤ a * x ∧ a * x ≤ 10000000000 := by
  have h1 : a.natAbs * x.natAbs ≤ 100000 * 100000 := Nat.mul_le_mul (by omega) (by omega)
  rw [← Int.natAbs_mul] at h1
  omega
theorem c84 {a b c x y z : Int} : Gv E2 84 [plc a b c, plc x y z] h (if okP a b c ∧ okP x y z then .tup [plc (b * z - c * y) (c * x - a * z) (a * y - b * x), .int .i64 0] else .tup [plc 0 0 0, .int .i64 3]) := by
  refine Gv.of (CallWp.fn (fn := C.a84) rfl rfl rfl ?_)
  unfold C.a84
  by_cases hk : okP a b c ∧ okP x y z
  · have e1 : (if okP a b c ∧ okP x y z then (0 : Int) else 3) = 0 := if_pos hk
    obtain ⟨⟨a1, a2, b1, b2, d1, d2⟩, x1, x2, y1, y2, z1, z2⟩ := id hk
    have m1 := ok_mul ⟨b1, b2⟩ ⟨z1, z2⟩
    have m2 := ok_mul ⟨d1, d2⟩ ⟨y1, y2⟩
    have m3 := ok_mul ⟨d1, d2⟩ ⟨x1, x2⟩
    have m4 := ok_mul ⟨a1, a2⟩ ⟨z1, z2⟩
    have m5 := ok_mul ⟨a1, a2⟩ ⟨y1, y2⟩
    have m6 := ok_mul ⟨b1, b2⟩ ⟨x1, x2⟩
    rw [if_pos hk]
    repeat' (with_reducible first | simp (disch := first | assumption | omega | (simp only [go_sem, ne_eq, Nat.reduceAdd, Nat.reduceLeDiff] <;> omega) | fail) only [go_sem, seval, e1] | (refine Gv.wp (c177_2 (x := a) (y := b) (z := c) (a := x) (b := y) (c := z) (by simp (disch := first | assumption | omega | (simp only [go_sem, ne_eq, Nat.reduceAdd, Nat.reduceLeDiff] <;> omega) | fail) only [go_sem, seval]) (by (first | omega | (simp only [Hp.next_push, Hp.next_put, Hp.ov_next, Hp.clk_push, Hp.clk_put, Hp.ov_clk] <;> omega) | fail))) fun _ _ _ _ => ?_) | ((first | apply k1 | apply k2 | apply k3 | apply k4 | apply k5 | apply k6 | apply k7) <;> intro hc))
    (try first | refine ⟨trivial, ?_⟩ | refine ⟨rfl, ?_⟩); (repeat (first | exact Grs.refl _ | assumption | refine Grs.push ?_ | refine Grs.ov ?_ | refine Grs.put ?_ (by (try simp only [Hp.next_push, Hp.next_put, Hp.ov_next, Hp.clk_push, Hp.clk_put, Hp.ov_clk]); omega)))
  · have e1 : (if okP a b c ∧ okP x y z then (0 : Int) else 3) = 3 := if_neg hk
    rw [if_neg hk]
    repeat' (with_reducible first | simp (disch := first | assumption | omega | (simp only [go_sem, ne_eq, Nat.reduceAdd, Nat.reduceLeDiff] <;> omega) | fail) only [go_sem, seval, e1] | (refine Gv.wp (c177_2 (x := a) (y := b) (z := c) (a := x) (b := y) (c := z) (by simp (disch := first | assumption | omega | (simp only [go_sem, ne_eq, Nat.reduceAdd, Nat.reduceLeDiff] <;> omega) | fail) only [go_sem, seval]) (by (first | omega | (simp only [Hp.next_push, Hp.next_put, Hp.ov_next, Hp.clk_push, Hp.clk_put, Hp.ov_clk] <;> omega) | fail))) fun _ _ _ _ => ?_) | ((first | apply k1 | apply k2 | apply k3 | apply k4 | apply k5 | apply k6 | apply k7) <;> intro hc))
    (try first | refine ⟨trivial, ?_⟩ | refine ⟨rfl, ?_⟩); (repeat (first | exact Grs.refl _ | assumption | refine Grs.push ?_ | refine Grs.ov ?_ | refine Grs.put ?_ (by (try simp only [Hp.next_push, Hp.next_put, Hp.ov_next, Hp.clk_push, Hp.clk_put, Hp.ov_clk]); omega)))
theorem c83 {a b c x y z : Int} : Gv E3 83 [plc a b c, plc x y z] h (if okP a b c ∧ okP x y z then .tup [.int .i64 (a * x + b * y + c * z), .int .i64 0] else .tup [.int .i64 0, .int .i64 3]) := by
  refine Gv.of (CallWp.fn (fn := R.a83) rfl rfl rfl ?_)
  unfold R.a83
  by_cases hk : okP a b c ∧ okP x y z
  · have e1 : (if okP a b c ∧ okP x y z then (0 : Int) else 3) = 0 := if_pos hk
    obtain ⟨⟨a1, a2, b1, b2, d1, d2⟩, x1, x2, y1, y2, z1, z2⟩ := id hk
    have m1 := ok_mul ⟨a1, a2⟩ ⟨x1, x2⟩
    have m2 := ok_mul ⟨b1, b2⟩ ⟨y1, y2⟩
    have m3 := ok_mul ⟨d1, d2⟩ ⟨z1, z2⟩
    rw [if_pos hk]
    repeat' (with_reducible first | simp (disch := first | assumption | omega | (simp only [go_sem, ne_eq, Nat.reduceAdd, Nat.reduceLeDiff] <;> omega) | fail) only [go_sem, seval, e1] | (refine Gv.wp (gu3 (c177_2 (x := a) (y := b) (z := c) (a := x) (b := y) (c := z) (by simp (disch := first | assumption | omega | (simp only [go_sem, ne_eq, Nat.reduceAdd, Nat.reduceLeDiff] <;> omega) | fail) only [go_sem, seval]) (by (first | omega | (simp only [Hp.next_push, Hp.next_put, Hp.ov_next, Hp.clk_push, Hp.clk_put, Hp.ov_clk] <;> omega) | fail)))) fun _ _ _ _ => ?_) | (refine Gv.wp (gu3 (c178 m1 m2 m3)) fun _ _ _ _ => ?_) | ((first | apply k1 | apply k2 | apply k3 | apply k4 | apply k5 | apply k6 | apply k7) <;> intro hc))
    (try first | refine ⟨trivial, ?_⟩ | refine ⟨rfl, ?_⟩); (repeat (first | exact Grs.refl _ | assumption | refine Grs.push ?_ | refine Grs.ov ?_ | refine Grs.put ?_ (by (try simp only [Hp.next_push, Hp.next_put, Hp.ov_next, Hp.clk_push, Hp.clk_put, Hp.ov_clk]); omega)))
  · have e1 : (if okP a b c ∧ okP x y z then (0 : Int) else 3) = 3 := if_neg hk
    rw [if_neg hk]
    repeat' (with_reducible first | simp (disch := first | assumption | omega | (simp only [go_sem, ne_eq, Nat.reduceAdd, Nat.reduceLeDiff] <;> omega) | fail) only [go_sem, seval, e1] | (refine Gv.wp (gu3 (c177_2 (x := a) (y := b) (z := c) (a := x) (b := y) (c := z) (by simp (disch := first | assumption | omega | (simp only [go_sem, ne_eq, Nat.reduceAdd, Nat.reduceLeDiff] <;> omega) | fail) only [go_sem, seval]) (by (first | omega | (simp only [Hp.next_push, Hp.next_put, Hp.ov_next, Hp.clk_push, Hp.clk_put, Hp.ov_clk] <;> omega) | fail)))) fun _ _ _ _ => ?_) | ((first | apply k1 | apply k2 | apply k3 | apply k4 | apply k5 | apply k6 | apply k7) <;> intro hc))
    (try first | refine ⟨trivial, ?_⟩ | refine ⟨rfl, ?_⟩); (repeat (first | exact Grs.refl _ | assumption | refine Grs.push ?_ | refine Grs.ov ?_ | refine Grs.put ?_ (by (try simp only [Hp.next_push, Hp.next_put, Hp.ov_next, Hp.clk_push, Hp.clk_put, Hp.ov_clk]); omega)))
/-- A small number as a fraction. -/
abbrev sF (n : Int) : AV := .agg [.int .i64 n, .nils, .int .i64 1, .nils]
theorem c216s {n : Int} (hn : -9223372036854775808 ≤ n ∧ n ≤ 9223372036854775807) : Gv E2 216 [sI n] h (.bool false) := by
  refine Gv.of (CallWp.fn (fn := C.a216) rfl rfl rfl ?_)
  unfold C.a216
  have hb := bitLen_lt (n := n.natAbs) (k := 64) (by omega)
  repeat' (with_reducible first | simp (disch := first | assumption | omega | (simp only [go_sem, ne_eq, Nat.reduceAdd, Nat.reduceLeDiff] <;> omega) | fail) only [go_sem, seval] | (refine Gv.wp (c199s hn) fun _ _ _ _ => ?_) | ((first | apply k1 | apply k2 | apply k3 | apply k4 | apply k5 | apply k6 | apply k7) <;> intro hc))
  (try first | refine ⟨trivial, ?_⟩ | refine ⟨rfl, ?_⟩); (repeat (first | exact Grs.refl _ | assumption | refine Grs.push ?_ | refine Grs.ov ?_ | refine Grs.put ?_ (by (try simp only [Hp.next_push, Hp.next_put, Hp.ov_next, Hp.clk_push, Hp.clk_put, Hp.ov_clk]); omega)))
theorem c140s {n : Int} (hn : -9223372036854775808 ≤ n ∧ n ≤ 9223372036854775807) : Gv E2 140 [sF n] h (.bool false) := by
  refine Gv.of (CallWp.fn (fn := C.a140) rfl rfl rfl ?_)
  unfold C.a140
  repeat' (with_reducible first | simp (disch := first | assumption | omega | (simp only [go_sem, ne_eq, Nat.reduceAdd, Nat.reduceLeDiff] <;> omega) | fail) only [go_sem, seval] | (refine Gv.wp (c216s hn) fun _ _ _ _ => ?_) | (refine Gv.wp (c216s (n := 1) (by omega)) fun _ _ _ _ => ?_) | ((first | apply k1 | apply k2 | apply k3 | apply k4 | apply k5 | apply k6 | apply k7) <;> intro hc))
  (try first | refine ⟨trivial, ?_⟩ | refine ⟨rfl, ?_⟩); (repeat (first | exact Grs.refl _ | assumption | refine Grs.push ?_ | refine Grs.ov ?_ | refine Grs.put ?_ (by (try simp only [Hp.next_push, Hp.next_put, Hp.ov_next, Hp.clk_push, Hp.clk_put, Hp.ov_clk]); omega)))
theorem c241s {n : Int} : Gv E2 241 [sF n] h (.bool true) := by
  refine Gv.of (CallWp.fn (fn := C.a241) rfl rfl rfl ?_)
  unfold C.a241
  repeat' (with_reducible first | simp (disch := first | assumption | omega | (simp only [go_sem, ne_eq, Nat.reduceAdd, Nat.reduceLeDiff] <;> omega) | fail) only [go_sem, seval] | ((first | apply k1 | apply k2 | apply k3 | apply k4 | apply k5 | apply k6 | apply k7) <;> intro hc))
  (try first | refine ⟨trivial, ?_⟩ | refine ⟨rfl, ?_⟩); (repeat (first | exact Grs.refl _ | assumption | refine Grs.push ?_ | refine Grs.ov ?_ | refine Grs.put ?_ (by (try simp only [Hp.next_push, Hp.next_put, Hp.ov_next, Hp.clk_push, Hp.clk_put, Hp.ov_clk]); omega)))
theorem c264s {n : Int} (hn : -9223372036854775808 ≤ n ∧ n ≤ 9223372036854775807) : Gv E2 264 [sI n] h (.str (Lib.itoa n)) := by
  refine Gv.of ((CallWp.prim_iff (p := p264) rfl rfl).2 ?_)
  have : p264 [sI n] h = some (.str (Lib.itoa n), h) := if_pos hn
  rw [this]; exact ⟨rfl, Grs.refl _⟩
theorem c196s {n : Int} (hn : -9223372036854775808 ≤ n ∧ n ≤ 9223372036854775807) : Gv E2 196 [sF n] h (.str (Lib.itoa n)) := by
  refine Gv.of (CallWp.fn (fn := C.a196) rfl rfl rfl ?_)
  unfold C.a196
  repeat' (with_reducible first | simp (disch := first | assumption | omega | (simp only [go_sem, ne_eq, Nat.reduceAdd, Nat.reduceLeDiff] <;> omega) | fail) only [go_sem, seval] | (refine Gv.wp (c241s) fun _ _ _ _ => ?_) | (refine Gv.wp (c264s hn) fun _ _ _ _ => ?_) | ((first | apply k1 | apply k2 | apply k3 | apply k4 | apply k5 | apply k6 | apply k7) <;> intro hc))
  (try first | refine ⟨trivial, ?_⟩ | refine ⟨rfl, ?_⟩); (repeat (first | exact Grs.refl _ | assumption | refine Grs.push ?_ | refine Grs.ov ?_ | refine Grs.put ?_ (by (try simp only [Hp.next_push, Hp.next_put, Hp.ov_next, Hp.clk_push, Hp.clk_put, Hp.ov_clk]); omega)))
theorem c114s {n m : Int} (hn : -9223372036854775808 ≤ n ∧ n ≤ 9223372036854775807) (hm : -9223372036854775808 ≤ m ∧ m ≤ 9223372036854775807) : Gv E2 114 [sF n, sF m] h (.tup [.agg [.str (Lib.itoa n), .str (Lib.itoa m)], .int .i64 0]) := by
  refine Gv.of (CallWp.fn (fn := C.a114) rfl rfl rfl ?_)
  unfold C.a114
  repeat' (with_reducible first | simp (disch := first | assumption | omega | (simp only [go_sem, ne_eq, Nat.reduceAdd, Nat.reduceLeDiff] <;> omega) | fail) only [go_sem, seval] | (refine Gv.wp (c140s hn) fun _ _ _ _ => ?_) | (refine Gv.wp (c140s hm) fun _ _ _ _ => ?_) | (refine Gv.wp (c196s hn) fun _ _ _ _ => ?_) | (refine Gv.wp (c196s hm) fun _ _ _ _ => ?_) | ((first | apply k1 | apply k2 | apply k3 | apply k4 | apply k5 | apply k6 | apply k7) <;> intro hc))
  (try first | refine ⟨trivial, ?_⟩ | refine ⟨rfl, ?_⟩); (repeat (first | exact Grs.refl _ | assumption | refine Grs.push ?_ | refine Grs.ov ?_ | refine Grs.put ?_ (by (try simp only [Hp.next_push, Hp.next_put, Hp.ov_next, Hp.clk_push, Hp.clk_put, Hp.ov_clk]); omega)))
/-- The length of a place, squared n. -/
def lenS (n : Nat) : AV := .agg [.str (Lib.itoa (isq n)), .str (Lib.itoa (if isq n * isq n = n then isq n else isq n + 1 : Nat))]
theorem c85 {x y z : Int} : Gv E2 85 [plc x y z] h (if okP x y z then .tup [lenS (x * x + y * y + z * z).toNat, .int .i64 0] else .tup [.agg [.str [], .str []], .int .i64 3]) := by
  refine Gv.of (CallWp.fn (fn := C.a85) rfl rfl rfl ?_)
  unfold C.a85
  by_cases hk : okP x y z
  · have e1 : (if okP x y z then (0 : Int) else 3) = 0 := if_pos hk
    obtain ⟨x1, x2, y1, y2, z1, z2⟩ := id hk
    have m1 := ok_mul ⟨x1, x2⟩ ⟨x1, x2⟩
    have m2 := ok_mul ⟨y1, y2⟩ ⟨y1, y2⟩
    have m3 := ok_mul ⟨z1, z2⟩ ⟨z1, z2⟩
    have q1 : 0 ≤ x * x := by rw [← Int.natAbs_mul_self]; omega
    have q2 : 0 ≤ y * y := by rw [← Int.natAbs_mul_self]; omega
    have q3 : 0 ≤ z * z := by rw [← Int.natAbs_mul_self]; omega
    obtain ⟨n, hn⟩ : ∃ n : Nat, x * x + y * y + z * z = n := ⟨_, (Int.toNat_of_nonneg (by omega)).symm⟩
    have hn2 : n ≤ 30000000000 := by omega
    have hi := (isq_spec n).1
    have hi2 : isq n ≤ isq n * isq n := Nat.le_mul_self _
    rw [if_pos hk, hn, Int.toNat_natCast]
    unfold lenS
    by_cases hx : isq n * isq n = n
    · rw [if_pos hx]
      have d1 : decide (isq n * isq n = n) = true := decide_eq_true hx
      repeat' (with_reducible first | simp (disch := first | assumption | omega | (simp only [go_sem, ne_eq, Nat.reduceAdd, Nat.reduceLeDiff] <;> omega) | fail) only [go_sem, seval, e1, hn, d1] | (refine Gv.wp (c177_1 (x := x) (y := y) (z := z) (by simp (disch := first | assumption | omega | (simp only [go_sem, ne_eq, Nat.reduceAdd, Nat.reduceLeDiff] <;> omega) | fail) only [go_sem, seval]) (by (first | omega | (simp only [Hp.next_push, Hp.next_put, Hp.ov_next, Hp.clk_push, Hp.clk_put, Hp.ov_clk] <;> omega) | fail))) fun _ _ _ _ => ?_) | (refine Gv.wp (c178 m1 m2 m3) fun _ _ _ _ => ?_) | (refine Gv.wp (c179 (by omega)) fun _ _ _ _ => ?_) | (refine Gv.wp (c116) fun _ _ _ _ => ?_) | (refine Gv.wp (c114s (by omega) (by omega)) fun _ _ _ _ => ?_) | ((first | apply k1 | apply k2 | apply k3 | apply k4 | apply k5 | apply k6 | apply k7) <;> intro hc))
      (try first | refine ⟨trivial, ?_⟩ | refine ⟨rfl, ?_⟩); (repeat (first | exact Grs.refl _ | assumption | refine Grs.push ?_ | refine Grs.ov ?_ | refine Grs.put ?_ (by (try simp only [Hp.next_push, Hp.next_put, Hp.ov_next, Hp.clk_push, Hp.clk_put, Hp.ov_clk]); omega)))
    · rw [if_neg hx]
      have d1 : decide (isq n * isq n = n) = false := decide_eq_false hx
      have e2 : ((isq n : Nat) : Int) + 1 = ((isq n + 1 : Nat) : Int) := by omega
      repeat' (with_reducible first | simp (disch := first | assumption | omega | (simp only [go_sem, ne_eq, Nat.reduceAdd, Nat.reduceLeDiff] <;> omega) | fail) only [go_sem, seval, e1, hn, d1, e2] | (refine Gv.wp (c177_1 (x := x) (y := y) (z := z) (by simp (disch := first | assumption | omega | (simp only [go_sem, ne_eq, Nat.reduceAdd, Nat.reduceLeDiff] <;> omega) | fail) only [go_sem, seval]) (by (first | omega | (simp only [Hp.next_push, Hp.next_put, Hp.ov_next, Hp.clk_push, Hp.clk_put, Hp.ov_clk] <;> omega) | fail))) fun _ _ _ _ => ?_) | (refine Gv.wp (c178 m1 m2 m3) fun _ _ _ _ => ?_) | (refine Gv.wp (c179 (by omega)) fun _ _ _ _ => ?_) | (refine Gv.wp (c116) fun _ _ _ _ => ?_) | (refine Gv.wp (c114s (by omega) (by omega)) fun _ _ _ _ => ?_) | ((first | apply k1 | apply k2 | apply k3 | apply k4 | apply k5 | apply k6 | apply k7) <;> intro hc))
      (try first | refine ⟨trivial, ?_⟩ | refine ⟨rfl, ?_⟩); (repeat (first | exact Grs.refl _ | assumption | refine Grs.push ?_ | refine Grs.ov ?_ | refine Grs.put ?_ (by (try simp only [Hp.next_push, Hp.next_put, Hp.ov_next, Hp.clk_push, Hp.clk_put, Hp.ov_clk]); omega)))
  · have e1 : (if okP x y z then (0 : Int) else 3) = 3 := if_neg hk
    rw [if_neg hk]
    repeat' (with_reducible first | simp (disch := first | assumption | omega | (simp only [go_sem, ne_eq, Nat.reduceAdd, Nat.reduceLeDiff] <;> omega) | fail) only [go_sem, seval, e1] | (refine Gv.wp (c177_1 (x := x) (y := y) (z := z) (by simp (disch := first | assumption | omega | (simp only [go_sem, ne_eq, Nat.reduceAdd, Nat.reduceLeDiff] <;> omega) | fail) only [go_sem, seval]) (by (first | omega | (simp only [Hp.next_push, Hp.next_put, Hp.ov_next, Hp.clk_push, Hp.clk_put, Hp.ov_clk] <;> omega) | fail))) fun _ _ _ _ => ?_) | ((first | apply k1 | apply k2 | apply k3 | apply k4 | apply k5 | apply k6 | apply k7) <;> intro hc))
    (try first | refine ⟨trivial, ?_⟩ | refine ⟨rfl, ?_⟩); (repeat (first | exact Grs.refl _ | assumption | refine Grs.push ?_ | refine Grs.ov ?_ | refine Grs.put ?_ (by (try simp only [Hp.next_push, Hp.next_put, Hp.ov_next, Hp.clk_push, Hp.clk_put, Hp.ov_clk]); omega)))
end
end Go.Ae


/- The reference's numbers as texts: signs, parts, sizes. -/
set_option linter.unusedVariables false
set_option linter.unusedSimpArgs false
set_option maxRecDepth 100000
namespace Go.Ae
open N Go.Proofs
/-- The place of the slash in a text, or its length. -/
def slashV (s : List UInt8) : Nat := (s.takeWhile (fun b => decide (b ≠ 47))).length
theorem slash_le (s : List UInt8) : slashV s ≤ s.length := (List.takeWhile_sublist _).length_le
theorem slash_at {s : List UInt8} {i : Nat} (hi : i < s.length) (hn : ∀ j, j < i → s.getD j 0 ≠ 47) (h : s.getD i 0 = 47) : slashV s = i := by
  induction s generalizing i with
  | nil => simp at hi
  | cons b r ih =>
    unfold slashV at *
    cases i with
    | zero =>
      have hb : b = 47 := h
      subst hb; simp
    | succ i =>
      have hb : b ≠ 47 := hn 0 (by omega)
      rw [List.takeWhile_cons_of_pos (by simpa using hb), List.length_cons, ih (i := i) (by simpa using hi) (fun j hj => hn (j + 1) (by omega)) h]
theorem slash_none {s : List UInt8} (hn : ∀ j, j < s.length → s.getD j 0 ≠ 47) : slashV s = s.length := by
  induction s with
  | nil => rfl
  | cons b r ih =>
    unfold slashV at *
    have hb : b ≠ 47 := hn 0 (by simp)
    rw [List.takeWhile_cons_of_pos (by simpa using hb), List.length_cons, ih (fun j hj => hn (j + 1) (by simp; omega)), List.length_cons]
def sgnS (s : List UInt8) : Int := if s = [48] then 0 else if s.head? = some 45 then -1 else 1
section
variable {h : Hp} {K : AV → Hp → Prop}
theorem u8_int {b : UInt8} {n : Nat} (hn : n < 256) : (b.toNat : Int) = n ↔ b = UInt8.ofNat n := by
  constructor
  · intro e
    apply UInt8.toNat_inj.1
    rw [UInt8.toNat_ofNat', Nat.mod_eq_of_lt hn]; omega
  · rintro rfl
    rw [UInt8.toNat_ofNat', Nat.mod_eq_of_lt hn]
theorem c122 {s : List UInt8} (hs : s.length ≤ 9223372036854775807) : CallWp E3 122 [.str s] h K ↔ K (.int .i64 (slashV s)) h := by
  refine CallWp.iff_of (CallWp.fn (fn := R.a122) rfl rfl rfl ?_)
  unfold R.a122
  repeat' (with_reducible first | simp (disch := first | assumption | omega | (simp only [go_sem, ne_eq, Nat.reduceAdd, Nat.reduceLeDiff] <;> omega) | fail) only [go_sem, seval] | ((first | apply k1 | apply k2 | apply k3 | apply k4 | apply k5 | apply k6 | apply k7) <;> intro hc))
  refine Wp.loopI (fun m st => ∃ i : Nat, val st.tm (.t 0) = .str s ∧ val st.tm (.t 3) = .int .i64 i ∧ st.hp = h ∧ i ≤ s.length ∧ (∀ j, j < i → s.getD j 0 ≠ 47) ∧ s.length - i = m) (n := s.length) ?_ ?_
  · refine ⟨0, ?_⟩
    simp (disch := first | assumption | omega | (simp only [go_sem, ne_eq, Nat.reduceAdd, Nat.reduceLeDiff] <;> omega) | fail) only [go_sem, seval]
    exact ⟨by omega, fun j hj => by omega, by omega⟩
  · rintro m ⟨tm, hp⟩ ⟨i, h0, h3, rfl, hi, hn, rfl⟩
    simp only at h0 h3
    by_cases hlt : i < s.length
    · have hlt' : (i : Int) < s.length := by omega
      have e1 : ((s.getD i 0).toNat : Int) = 47 ↔ s.getD i 0 = 47 := u8_int (n := 47) (by decide)
      by_cases hc : s.getD i 0 = 47
      · have hc' := e1.2 hc
        repeat' (with_reducible first | simp (disch := first | assumption | omega | (simp only [go_sem, ne_eq, Nat.reduceAdd, Nat.reduceLeDiff] <;> omega) | fail) only [go_sem, seval, h0, h3] | ((first | apply k1 | apply k2 | apply k3 | apply k4 | apply k5 | apply k6 | apply k7) <;> intro hc))
        rw [slash_at hlt hn hc]
      · have hc' := fun e => hc (e1.1 e)
        repeat' (with_reducible first | simp (disch := first | assumption | omega | (simp only [go_sem, ne_eq, Nat.reduceAdd, Nat.reduceLeDiff] <;> omega) | fail) only [go_sem, seval, h0, h3] | ((first | apply k1 | apply k2 | apply k3 | apply k4 | apply k5 | apply k6 | apply k7) <;> intro hc))
        refine ⟨s.length - (i + 1), by omega, i + 1, ?_⟩
        simp (disch := first | assumption | omega | (simp only [go_sem, ne_eq, Nat.reduceAdd, Nat.reduceLeDiff] <;> omega) | fail) only [go_sem, seval, h0, h3]
        refine ⟨rfl, by omega, fun j hj => ?_⟩
        rcases Nat.lt_or_ge j i with hj' | hj'
        · exact hn j hj'
        · rw [show j = i by omega]; exact hc
    · have hlt' : ¬ (i : Int) < s.length := by omega
      repeat' (with_reducible first | simp (disch := first | assumption | omega | (simp only [go_sem, ne_eq, Nat.reduceAdd, Nat.reduceLeDiff] <;> omega) | fail) only [go_sem, seval, h0, h3] | ((first | apply k1 | apply k2 | apply k3 | apply k4 | apply k5 | apply k6 | apply k7) <;> intro hc))
      rw [slash_none (fun j hj => hn j (by omega))]
theorem c21 {s : List UInt8} (hs : s.length ≤ 9223372036854775807) : CallWp E3 21 [.str s] h K ↔ K (.int .i64 (sgnS s)) h := by
  refine CallWp.iff_of (CallWp.fn (fn := R.a21) rfl rfl rfl ?_)
  unfold R.a21
  unfold sgnS
  by_cases hc : s = [48]
  · rw [if_pos hc]
    repeat' (with_reducible first | simp (disch := first | assumption | omega | (simp only [go_sem, ne_eq, Nat.reduceAdd, Nat.reduceLeDiff] <;> omega) | fail) only [go_sem, seval] | ((first | apply k1 | apply k2 | apply k3 | apply k4 | apply k5 | apply k6 | apply k7) <;> intro hc))
  · rw [if_neg hc]
    cases s with
    | nil =>
      repeat' (with_reducible first | simp (disch := first | assumption | omega | (simp only [go_sem, ne_eq, Nat.reduceAdd, Nat.reduceLeDiff] <;> omega) | fail) only [go_sem, seval] | ((first | apply k1 | apply k2 | apply k3 | apply k4 | apply k5 | apply k6 | apply k7) <;> intro hc))
      simp
    | cons b r =>
      have e1 : (b.toNat : Int) = 45 ↔ b = 45 := u8_int (n := 45) (by decide)
      by_cases hb : b = 45
      · have hb' := e1.2 hb
        rw [if_pos (by rw [hb]; rfl)]
        repeat' (with_reducible first | simp (disch := first | assumption | omega | (simp only [go_sem, ne_eq, Nat.reduceAdd, Nat.reduceLeDiff] <;> omega) | fail) only [go_sem, seval, List.getD_cons_zero] | ((first | apply k1 | apply k2 | apply k3 | apply k4 | apply k5 | apply k6 | apply k7) <;> intro hc))
      · have hb' := fun e => hb (e1.1 e)
        rw [if_neg (by simpa using hb)]
        repeat' (with_reducible first | simp (disch := first | assumption | omega | (simp only [go_sem, ne_eq, Nat.reduceAdd, Nat.reduceLeDiff] <;> omega) | fail) only [go_sem, seval, List.getD_cons_zero] | ((first | apply k1 | apply k2 | apply k3 | apply k4 | apply k5 | apply k6 | apply k7) <;> intro hc))
end
end Go.Ae


/- The abstract evaluator: append of one element, as rewriting. -/
set_option linter.unusedVariables false
set_option linter.unusedSimpArgs false
namespace Go.Ae
noncomputable section
def AppN (x : Option AObj) (h : Hp) : Option (AV × Hp) :=
  match x with
  | some (.row (x :: _) _ _) => some (.sl h.next 0 1 1, h.push fun s => .row [x] true s)
  | _ => none
section
variable {h : Hp} {u t n b st st' : Nat} {own : Bool} {x : AV} {cs cs' : List AV}
theorem AppN.row : AppN (some (.row (x :: cs) own st)) h = some (.sl h.next 0 1 1, h.push fun s => .row [x] true s) := rfl
end
end
end Go.Ae


/- The reference's small whole numbers as texts. -/
set_option linter.unusedVariables false
set_option linter.unusedSimpArgs false
set_option maxRecDepth 100000
namespace Go.Ae
open N Go.Proofs
section
variable {h : Hp} {K : AV → Hp → Prop}
theorem u186 {n k : Nat} (hn : n ≤ 9223372036854775807) (hk : k ≤ 1000) : CallWp E3 186 [.int .i64 n, .int .i64 k] h K ↔ K (.str (decP n k)) h := up ge3 fun K => c186 hn hk
theorem u186_1 {n : Nat} (hn : n ≤ 9223372036854775807) : CallWp E3 186 [.int .i64 n, .int .i64 1] h K ↔ K (.str (decP n 1)) h := u186 (k := 1) hn (by omega)
theorem c271n : CallWp E3 271 [.nils] h K ↔ K .nils h := by
  refine CallWp.iff_of (CallWp.fn (fn := R.a271) rfl rfl rfl ?_)
  unfold R.a271
  repeat' (with_reducible first | simp (disch := first | assumption | omega | (simp only [go_sem, ne_eq, Nat.reduceAdd, Nat.reduceLeDiff] <;> omega) | fail) only [go_sem, seval, Wp.unroll] | ((first | apply k1 | apply k2 | apply k3 | apply k4 | apply k5 | apply k6 | apply k7) <;> intro hc))
end
end Go.Ae


/- The reference's digits: trim, comparison, sum, difference. -/
set_option linter.unusedVariables false
set_option linter.unusedSimpArgs false
set_option maxRecDepth 100000
namespace Go.Ae
open Bg
noncomputable section
/-- The reference's base. -/
abbrev D9 : Nat := 1000000000
theorem OwnZ.sq {kd : IntKind} {h0 h : Hp} {v : AV} {n : Nat} {l : List Nat} (o : OwnZ 1 h0 h v n (l.map (wd kd))) (hl : l.length = n) : Sq kd h v l := by
  obtain ⟨_, ⟨rfl, rfl⟩ | ⟨t, st, rfl, hg, h1, h2, h3⟩⟩ := o
  · have : l = [] := List.length_eq_zero_iff.1 hl
    subst this; exact Sq.nil
  · subst hl; exact Sq.all hg h2 h3
section
variable {h : Hp} {K : AV → Hp → Prop}
theorem d271s {t o n st : Nat} {L : List Nat} {own : Bool} (hg : h.get t = some (.row (L.map (wd .i64)) own st)) (hn : o + n ≤ L.length) (hn63 : n ≤ 9223372036854775807) :
    CallWp E3 271 [.sl t o n 1] h K ↔ K (.sl t o (trimL ((L.drop o).take n)).length 1) h := by
  refine CallWp.iff_of (CallWp.fn (fn := R.a271) rfl rfl rfl ?_)
  unfold R.a271
  repeat' (with_reducible first | simp (disch := first | assumption | omega | (simp only [go_sem, ne_eq, Nat.reduceAdd, Nat.reduceLeDiff] <;> omega) | fail) only [go_sem, seval] | ((first | apply k1 | apply k2 | apply k3 | apply k4 | apply k5 | apply k6 | apply k7) <;> intro hc))
  refine Wp.loopI (fun m s => ∃ k : Nat, val s.tm (.t 0) = .sl t o k 1 ∧ s.hp = h ∧ k ≤ n ∧ trimL ((L.drop o).take n) = trimL ((L.drop o).take k) ∧ k = m) (n := n) ?_ ?_
  · exact ⟨n, by simp (disch := first | assumption | omega | (simp only [go_sem, ne_eq, Nat.reduceAdd, Nat.reduceLeDiff] <;> omega) | fail) only [go_sem, seval], rfl, Nat.le_refl _, rfl, rfl⟩
  · rintro m ⟨tm, hp⟩ ⟨k, h0, rfl, hk, heq, rfl⟩
    simp only at h0 
    rcases Nat.eq_zero_or_pos k with rfl | hpos
    · have e0 : ((0 : Nat) : Int) = 0 := rfl
      repeat' (with_reducible first | simp (disch := first | assumption | omega | (simp only [go_sem, ne_eq, Nat.reduceAdd, Nat.reduceLeDiff] <;> omega) | fail) only [go_sem, seval, h0, e0] | ((first | apply k1 | apply k2 | apply k3 | apply k4 | apply k5 | apply k6 | apply k7) <;> intro hc))
      rw [heq]; simp [trimL]
    · have hp' : (0 : Int) < k := by omega
      have e1 : ((k : Int) - 1).toNat = k - 1 := by omega
      have hx : (L.map (wd .i64))[o + (k - 1)]? = some (.int .i64 (L.getD (o + (k - 1)) 0 : Nat)) := row_get (by omega)
      have hle : o + (k - 1) + 1 ≤ L.length := by omega
      have htk : (L.drop o).take k = (L.drop o).take (k - 1) ++ [L.getD (o + (k - 1)) 0] := by
        have := take_succ (i := k - 1) (l := L.drop o) (by rw [List.length_drop]; omega)
        rw [Nat.sub_add_cancel hpos] at this
        rw [this]
        congr 2
        simp [List.getD]
      by_cases hz : L.getD (o + (k - 1)) 0 = 0
      · have hz' : ((L.getD (o + (k - 1)) 0 : Nat) : Int) = 0 := by omega
        repeat' (with_reducible first | simp (disch := first | assumption | omega | (simp only [go_sem, ne_eq, Nat.reduceAdd, Nat.reduceLeDiff] <;> omega) | fail) only [go_sem, seval, h0, hp', e1, hg, hx, hle, List.length_map, Nat.mul_one, hz', slA_hi] | ((first | apply k1 | apply k2 | apply k3 | apply k4 | apply k5 | apply k6 | apply k7) <;> intro hc))
        refine ⟨k - 1, by omega, k - 1, rfl, by omega, ?_, rfl⟩
        rw [heq, htk, hz, trim_snoc0]
      · have hz' : ¬ ((L.getD (o + (k - 1)) 0 : Nat) : Int) = 0 := by omega
        repeat' (with_reducible first | simp (disch := first | assumption | omega | (simp only [go_sem, ne_eq, Nat.reduceAdd, Nat.reduceLeDiff] <;> omega) | fail) only [go_sem, seval, h0, hp', e1, hg, hx, hle, List.length_map, Nat.mul_one, hz', slA_hi] | ((first | apply k1 | apply k2 | apply k3 | apply k4 | apply k5 | apply k6 | apply k7) <;> intro hc))
        rw [heq, htk, trim_snoc hz, ← htk, List.length_take, List.length_drop, Nat.min_eq_left (by omega)]
theorem dg271 {v : AV} {l : List Nat} (hS : Sq .i64 h v l) (hl : l.length ≤ 9223372036854775807) : Gp E3 271 [v] h fun v' h' => Sq .i64 h' v' (trimL l) := by
  rcases hS with ⟨rfl, rfl⟩ | ⟨t, o, own, st, L, rfl, hg, h1, h2, h3, h4⟩
  · exact Gp.of (c271n.2 ⟨Sq.nil, Grs.refl h⟩)
  · refine Gp.of ((d271s hg h1 hl).2 ⟨?_, Grs.refl h⟩)
    rw [h2]
    refine .inr ⟨t, o, own, st, L, rfl, hg, ?_, ?_, h3, h4⟩
    · have := trim_len l; omega
    · conv => rhs; rw [trim_take l, ← h2]
      rw [List.take_take, Nat.min_eq_left (by rw [h2]; exact trim_len l), h2]
theorem d296 {v : AV} {l : List Nat} (hS : Sq .i64 h v l) (i : Nat) : CallWp E3 296 [v, .int .i64 i] h K ↔ K (.int .i64 (l.getD i 0 : Nat)) h := by
  refine CallWp.iff_of (CallWp.fn (fn := R.a296) rfl rfl rfl ?_)
  unfold R.a296
  have rd := hS.rd
  have ln := rd.len
  by_cases hi : i < l.length
  · have hi' : (i : Int) < l.length := by omega
    have ad := rd.adr
    have ld := rd.load i hi
    repeat' (with_reducible first | simp (disch := first | assumption | omega | (simp only [go_sem, ne_eq, Nat.reduceAdd, Nat.reduceLeDiff] <;> omega) | fail) only [go_sem, seval, ln, hi', ad, ld] | ((first | apply k1 | apply k2 | apply k3 | apply k4 | apply k5 | apply k6 | apply k7) <;> intro hc))
  · have hi' : ¬ (i : Int) < l.length := by omega
    have h0 : l.getD i 0 = 0 := by simp [List.getD, List.getElem?_eq_none (Nat.le_of_not_lt hi)]
    repeat' (with_reducible first | simp (disch := first | assumption | omega | (simp only [go_sem, ne_eq, Nat.reduceAdd, Nat.reduceLeDiff] <;> omega) | fail) only [go_sem, seval, ln, hi'] | ((first | apply k1 | apply k2 | apply k3 | apply k4 | apply k5 | apply k6 | apply k7) <;> intro hc))
    rw [h0]; rfl
theorem d251 {va vb : AV} {a b : List Nat} (ha : Sq .i64 h va a) (hb : Sq .i64 h vb b) (da : Dg 1000000000 a) (db : Dg 1000000000 b) (na : Norm a) (nb : Norm b) (hla : a.length ≤ 1000000) (hlb : b.length ≤ 1000000) :
    CallWp E3 251 [va, vb] h K ↔ K (.int .i64 (cmpN (vl 1000000000 a) (vl 1000000000 b))) h := by
  refine CallWp.iff_of (CallWp.fn (fn := R.a251) rfl rfl rfl ?_)
  unfold R.a251
  have ra := ha.rd
  have rb := hb.rd
  by_cases hl : a.length = b.length
  · have hl' : (a.length : Int) = b.length := by omega
    have hl2 := ra.len
    have hl3 := rb.len
    rw [← hl] at hl3
    repeat' (with_reducible first | simp (disch := first | assumption | omega | (simp only [go_sem, ne_eq, Nat.reduceAdd, Nat.reduceLeDiff] <;> omega) | fail) only [go_sem, seval, hl2, hl3] | ((first | apply k1 | apply k2 | apply k3 | apply k4 | apply k5 | apply k6 | apply k7) <;> intro hc))
    refine Wp.loopI (fun m s => ∃ k : Nat, val s.tm (.t 0) = va ∧ val s.tm (.t 1) = vb ∧ val s.tm (.t 5) = .int .i64 ((k : Int) - 1) ∧ s.hp = h ∧ k ≤ a.length ∧ a.drop k = b.drop k ∧ k = m) (n := a.length) ?_ ?_
    · exact ⟨a.length, by simp (disch := first | assumption | omega | (simp only [go_sem, ne_eq, Nat.reduceAdd, Nat.reduceLeDiff] <;> omega) | fail) only [go_sem, seval], by simp (disch := first | assumption | omega | (simp only [go_sem, ne_eq, Nat.reduceAdd, Nat.reduceLeDiff] <;> omega) | fail) only [go_sem, seval], by simp (disch := first | assumption | omega | (simp only [go_sem, ne_eq, Nat.reduceAdd, Nat.reduceLeDiff] <;> omega) | fail) only [go_sem, seval], rfl, Nat.le_refl _, by rw [List.drop_length, hl, List.drop_length], rfl⟩
    · rintro m ⟨tm, hp⟩ ⟨k, h0, h1, h5, rfl, hk, heq, rfl⟩
      simp only at h0 h1 h5
      rcases Nat.eq_zero_or_pos k with rfl | hpos
      · have e0 : ((0 : Nat) : Int) - 1 = -1 := rfl
        repeat' (with_reducible first | simp (disch := first | assumption | omega | (simp only [go_sem, ne_eq, Nat.reduceAdd, Nat.reduceLeDiff] <;> omega) | fail) only [go_sem, seval, h0, h1, h5, e0] | ((first | apply k1 | apply k2 | apply k3 | apply k4 | apply k5 | apply k6 | apply k7) <;> intro hc))
        simp only [List.drop_zero] at heq
        subst heq
        simp [cmpN]
      · have e1 : ((k : Int) - 1).toNat = k - 1 := by omega
        have hp1 : (0 : Int) ≤ (k : Int) - 1 := by omega
        have ola := ra.old (by omega)
        have olb := rb.old (by omega)
        have lda := ra.load (k - 1) (by omega)
        have ldb := rb.load (k - 1) (by omega)
        have ada := ra.adr
        have adb := rb.adr
        have sda : a.drop (k - 1) = a.getD (k - 1) 0 :: a.drop k := by
          rw [List.drop_eq_getElem_cons (by omega), getD_eq (by omega), Nat.sub_add_cancel hpos]
        have sdb : b.drop (k - 1) = b.getD (k - 1) 0 :: b.drop k := by
          rw [List.drop_eq_getElem_cons (by omega), getD_eq (by omega), Nat.sub_add_cancel hpos]
        have tl : (k - 1 + 1) = k := by omega
        generalize hxa : a.getD (k - 1) 0 = xa at *
        generalize hxb : b.getD (k - 1) 0 = xb at *
        by_cases hlt : xa < xb
        · have hlt' : (xa : Int) < xb := by omega
          repeat' (with_reducible first | simp (disch := first | assumption | omega | (simp only [go_sem, ne_eq, Nat.reduceAdd, Nat.reduceLeDiff] <;> omega) | fail) only [go_sem, seval, h0, h1, h5, hp1, e1, ada, adb, lda, ldb, ola, olb, hlt'] | ((first | apply k1 | apply k2 | apply k3 | apply k4 | apply k5 | apply k6 | apply k7) <;> intro hc))
          have := top_lt (B := 1000000000) (i := k - 1) (by decide) da hl (by omega) (by rw [tl]; exact heq) (by rw [hxa, hxb]; exact hlt)
          simp [cmpN, this]
        · have hlt' : ¬ (xa : Int) < xb := by omega
          by_cases hgt : xb < xa
          · have hgt' : (xb : Int) < xa := by omega
            repeat' (with_reducible first | simp (disch := first | assumption | omega | (simp only [go_sem, ne_eq, Nat.reduceAdd, Nat.reduceLeDiff] <;> omega) | fail) only [go_sem, seval, h0, h1, h5, hp1, e1, ada, adb, lda, ldb, ola, olb, hlt', hgt'] | ((first | apply k1 | apply k2 | apply k3 | apply k4 | apply k5 | apply k6 | apply k7) <;> intro hc))
            have := top_lt (B := 1000000000) (i := k - 1) (by decide) db hl.symm (by omega) (by rw [tl]; exact heq.symm) (by rw [hxa, hxb]; exact hgt)
            simp [cmpN, this, show ¬ vl 1000000000 a < vl 1000000000 b by omega]
          · have hgt' : ¬ (xb : Int) < xa := by omega
            repeat' (with_reducible first | simp (disch := first | assumption | omega | (simp only [go_sem, ne_eq, Nat.reduceAdd, Nat.reduceLeDiff] <;> omega) | fail) only [go_sem, seval, h0, h1, h5, hp1, e1, ada, adb, lda, ldb, ola, olb, hlt', hgt'] | ((first | apply k1 | apply k2 | apply k3 | apply k4 | apply k5 | apply k6 | apply k7) <;> intro hc))
            refine ⟨k - 1, by omega, k - 1, ?_, by omega, ?_, rfl⟩
            · congr 1; omega
            · rw [sda, sdb, heq, show xa = xb by omega]
  · have hl' : ¬ (a.length : Int) = b.length := by omega
    have hl2 := ra.len
    have hl3 := rb.len
    by_cases hlt : a.length < b.length
    · have hlt' : (a.length : Int) < b.length := by omega
      repeat' (with_reducible first | simp (disch := first | assumption | omega | (simp only [go_sem, ne_eq, Nat.reduceAdd, Nat.reduceLeDiff] <;> omega) | fail) only [go_sem, seval, hl2, hl3, hl', hlt'] | ((first | apply k1 | apply k2 | apply k3 | apply k4 | apply k5 | apply k6 | apply k7) <;> intro hc))
      have := longer (B := 1000000000) (by decide) da nb hlt
      simp [cmpN, this]
    · have hlt' : ¬ (a.length : Int) < b.length := by omega
      repeat' (with_reducible first | simp (disch := first | assumption | omega | (simp only [go_sem, ne_eq, Nat.reduceAdd, Nat.reduceLeDiff] <;> omega) | fail) only [go_sem, seval, hl2, hl3, hl', hlt'] | ((first | apply k1 | apply k2 | apply k3 | apply k4 | apply k5 | apply k6 | apply k7) <;> intro hc))
      have := longer (B := 1000000000) (by decide) db na (by omega)
      simp [cmpN, this, show ¬ vl 1000000000 a < vl 1000000000 b by omega]
theorem add9_step {P o X Y x y c s : Nat} (h : o + P * c = X + Y) (hs : s = x + y + c) : o + P * (s % 1000000000) + P * 1000000000 * (s / 1000000000) = X + P * x + (Y + P * y) := by
  have e : P * (s % 1000000000) + P * 1000000000 * (s / 1000000000) = P * s := by
    rw [Nat.mul_assoc, ← Nat.mul_add]; congr 1; omega
  have e2 : P * s = P * x + P * y + P * c := by rw [hs, Nat.mul_add, Nat.mul_add]
  omega
theorem d250 {va vb : AV} {a b : List Nat} (ha : Sq .i64 h va a) (hb : Sq .i64 h vb b) (da : Dg 1000000000 a) (db : Dg 1000000000 b) (hla : a.length ≤ 1000000) (hlb : b.length ≤ 1000000) :
    Gp E3 250 [va, vb] h fun v h' => ∃ l, Sq .i64 h' v l ∧ Dg 1000000000 l ∧ l.length ≤ 1000001 ∧ vl 1000000000 l = vl 1000000000 a + vl 1000000000 b := by
  refine Gp.of (CallWp.fn (fn := R.a250) rfl rfl rfl ?_)
  unfold R.a250
  repeat' (with_reducible first | simp (disch := first | assumption | omega | (simp only [go_sem, ne_eq, Nat.reduceAdd, Nat.reduceLeDiff] <;> omega) | fail) only [go_sem, seval] | ((first | apply k1 | apply k2 | apply k3 | apply k4 | apply k5 | apply k6 | apply k7) <;> intro hc))
  refine Wp.loopI (fun m s => ∃ (i c : Nat) (out : List Nat) (v : AV), val s.tm (.t 0) = va ∧ val s.tm (.t 1) = vb ∧ val s.tm (.t 5) = v ∧ val s.tm (.t 6) = .int .i64 c ∧ val s.tm (.t 7) = .int .i64 i ∧
    Grs h s.hp ∧ OwnZ 1 h s.hp v i (out.map (wd .i64)) ∧ out.length = i ∧ Dg 1000000000 out ∧ c ≤ 1 ∧ i ≤ max a.length b.length + 1 ∧ (max a.length b.length < i → c = 0) ∧
    vl 1000000000 out + 1000000000 ^ i * c = vl 1000000000 (a.take i) + vl 1000000000 (b.take i) ∧ 2 * (max a.length b.length - i) + c = m) (n := 2 * max a.length b.length) ?_ ?_
  · exact ⟨0, 0, [], .nils, by simp (disch := first | assumption | omega | (simp only [go_sem, ne_eq, Nat.reduceAdd, Nat.reduceLeDiff] <;> omega) | fail) only [go_sem, seval], by simp (disch := first | assumption | omega | (simp only [go_sem, ne_eq, Nat.reduceAdd, Nat.reduceLeDiff] <;> omega) | fail) only [go_sem, seval], by simp (disch := first | assumption | omega | (simp only [go_sem, ne_eq, Nat.reduceAdd, Nat.reduceLeDiff] <;> omega) | fail) only [go_sem, seval], by (simp (disch := first | assumption | omega | (simp only [go_sem, ne_eq, Nat.reduceAdd, Nat.reduceLeDiff] <;> omega) | fail) only [go_sem, seval]) <;> rfl, by (simp (disch := first | assumption | omega | (simp only [go_sem, ne_eq, Nat.reduceAdd, Nat.reduceLeDiff] <;> omega) | fail) only [go_sem, seval]) <;> rfl, Grs.refl _, OwnZ.nil, rfl, Dg.nil, by omega, by omega, by omega, by simp [vl], by omega⟩
  · rintro m ⟨tm, hp⟩ ⟨i, c, out, v, h0, h1, h5, h6, h7, hG, hO, hlo, hd, hc, hile, hend, hinv, rfl⟩
    simp only at h0 h1 h5 h6 h7 hG hO
    have lna := (ha.grs hG).rd.len
    have lnb := (hb.grs hG).rd.len
    have dA := fun {K : AV → Hp → Prop} => d296 (K := K) (ha.grs hG) i
    have dB := fun {K : AV → Hp → Prop} => d296 (K := K) (hb.grs hG) i
    have tka := vl_take_any (B := 1000000000) (l := a) (i := i)
    have tkb := vl_take_any (B := 1000000000) (l := b) (i := i)
    have hxd := Dg.getD (B := 1000000000) (by decide) da i
    have hyd := Dg.getD (B := 1000000000) (by decide) db i
    have fin : ∀ s, s = a.getD i 0 + b.getD i 0 + c → vl 1000000000 (out ++ [s % 1000000000]) + 1000000000 ^ (i + 1) * (s / 1000000000) = vl 1000000000 (a.take (i + 1)) + vl 1000000000 (b.take (i + 1)) := by
      intro s hs
      rw [vl_snoc, hlo, tka, tkb, Nat.pow_succ]
      exact add9_step hinv hs
    have hza : a.length ≤ i → a.getD i 0 = 0 := fun e => by simp [List.getD, List.getElem?_eq_none e]
    have hzb : b.length ≤ i → b.getD i 0 = 0 := fun e => by simp [List.getD, List.getElem?_eq_none e]
    generalize a.getD i 0 = xi at *
    generalize b.getD i 0 = yi at *
    have em : ((xi : Int) + yi + c) % 1000000000 = ((xi + yi + c) % 1000000000 : Nat) := by omega
    have eq : ((xi : Int) + yi + c) / 1000000000 = ((xi + yi + c) / 1000000000 : Nat) := by omega
    have body : (i < a.length ∨ i < b.length ∨ 0 < c) → ∀ v' h', Grs h h' → OwnZ 1 h h' v' (i + 1) (out.map (wd .i64) ++ [.int .i64 ((xi + yi + c) % 1000000000 : Nat)]) →
        ∃ m', m' < 2 * (max a.length b.length - i) + c ∧ ∃ (i' c' : Nat) (out' : List Nat) (v'' : AV), ((i : Int) + 1) = i' ∧ ((xi + yi + c) / 1000000000 : Nat) = c' ∧ v' = v'' ∧ Grs h h' ∧ OwnZ 1 h h' v'' i' (out'.map (wd .i64)) ∧ out'.length = i' ∧ Dg 1000000000 out' ∧ c' ≤ 1 ∧ i' ≤ max a.length b.length + 1 ∧ (max a.length b.length < i' → c' = 0) ∧
          vl 1000000000 out' + 1000000000 ^ i' * c' = vl 1000000000 (a.take i') + vl 1000000000 (b.take i') ∧ 2 * (max a.length b.length - i') + c' = m' := by
      intro hor v' h' G' O'
      have hil : i ≤ max a.length b.length := by
        rcases Nat.lt_or_ge (max a.length b.length) i with e | e
        · have := hend e; omega
        · exact e
      refine ⟨_, ?_, i + 1, (xi + yi + c) / 1000000000, out ++ [(xi + yi + c) % 1000000000], v', by omega, rfl, rfl, G', ?_, by simp [hlo], hd.append (Dg.cons (Nat.mod_lt _ (by decide)) Dg.nil), by omega, by omega, ?_, fin _ rfl, rfl⟩
      · rcases Nat.lt_or_ge i (max a.length b.length) with e | e
        · omega
        · have := hza (by omega); have := hzb (by omega)
          omega
      · rw [List.map_append]; exact O'
      · intro e
        have := hza (by omega); have := hzb (by omega)
        omega
    by_cases g1 : i < a.length
    · have g1' : (i : Int) < a.length := by omega
      repeat' (with_reducible first | simp (disch := first | assumption | omega | (simp only [go_sem, ne_eq, Nat.reduceAdd, Nat.reduceLeDiff] <;> omega) | fail) only [go_sem, seval, h0, h1, h5, h6, h7, lna, lnb, g1', dA, dB, em, eq, w_app] | ((first | apply k1 | apply k2 | apply k3 | apply k4 | apply k5 | apply k6 | apply k7) <;> intro hc))
      refine OwnZ.wp (h0 := h) (b := 8) rfl hG hO rfl (by decide) (by omega) (by omega) fun v' h' G' O' => ?_
      repeat' (with_reducible first | simp (disch := first | assumption | omega | (simp only [go_sem, ne_eq, Nat.reduceAdd, Nat.reduceLeDiff] <;> omega) | fail) only [go_sem, seval, h0, h1, h5, h6, h7, eq] | ((first | apply k1 | apply k2 | apply k3 | apply k4 | apply k5 | apply k6 | apply k7) <;> intro hc))
      obtain ⟨m', hm', i', c', out', v'', e1, e2, rfl, r⟩ := body (.inl g1) v' h' G' O'
      subst e2
      exact ⟨m', hm', i', _, out', rfl, by rw [e1], r⟩
    · have g1' : ¬ (i : Int) < a.length := by omega
      by_cases g2 : i < b.length
      · have g2' : (i : Int) < b.length := by omega
        repeat' (with_reducible first | simp (disch := first | assumption | omega | (simp only [go_sem, ne_eq, Nat.reduceAdd, Nat.reduceLeDiff] <;> omega) | fail) only [go_sem, seval, h0, h1, h5, h6, h7, lna, lnb, g1', g2', dA, dB, em, eq, w_app] | ((first | apply k1 | apply k2 | apply k3 | apply k4 | apply k5 | apply k6 | apply k7) <;> intro hc))
        refine OwnZ.wp (h0 := h) (b := 8) rfl hG hO rfl (by decide) (by omega) (by omega) fun v' h' G' O' => ?_
        repeat' (with_reducible first | simp (disch := first | assumption | omega | (simp only [go_sem, ne_eq, Nat.reduceAdd, Nat.reduceLeDiff] <;> omega) | fail) only [go_sem, seval, h0, h1, h5, h6, h7, eq] | ((first | apply k1 | apply k2 | apply k3 | apply k4 | apply k5 | apply k6 | apply k7) <;> intro hc))
        obtain ⟨m', hm', i', c', out', v'', e1, e2, rfl, r⟩ := body (.inr (.inl g2)) v' h' G' O'
        subst e2
        exact ⟨m', hm', i', _, out', rfl, by rw [e1], r⟩
      · have g2' : ¬ (i : Int) < b.length := by omega
        by_cases g3 : 0 < c
        · have g3' : (0 : Int) < c := by omega
          repeat' (with_reducible first | simp (disch := first | assumption | omega | (simp only [go_sem, ne_eq, Nat.reduceAdd, Nat.reduceLeDiff] <;> omega) | fail) only [go_sem, seval, h0, h1, h5, h6, h7, lna, lnb, g1', g2', g3', dA, dB, em, eq, w_app] | ((first | apply k1 | apply k2 | apply k3 | apply k4 | apply k5 | apply k6 | apply k7) <;> intro hc))
          refine OwnZ.wp (h0 := h) (b := 8) rfl hG hO rfl (by decide) (by omega) (by omega) fun v' h' G' O' => ?_
          repeat' (with_reducible first | simp (disch := first | assumption | omega | (simp only [go_sem, ne_eq, Nat.reduceAdd, Nat.reduceLeDiff] <;> omega) | fail) only [go_sem, seval, h0, h1, h5, h6, h7, eq] | ((first | apply k1 | apply k2 | apply k3 | apply k4 | apply k5 | apply k6 | apply k7) <;> intro hc))
          obtain ⟨m', hm', i', c', out', v'', e1, e2, rfl, r⟩ := body (.inr (.inr g3)) v' h' G' O'
          subst e2
          exact ⟨m', hm', i', _, out', rfl, by rw [e1], r⟩
        · have g3' : ¬ (0 : Int) < c := by omega
          repeat' (with_reducible first | simp (disch := first | assumption | omega | (simp only [go_sem, ne_eq, Nat.reduceAdd, Nat.reduceLeDiff] <;> omega) | fail) only [go_sem, seval, h0, h1, h5, h6, h7, lna, lnb, g1', g2', g3'] | ((first | apply k1 | apply k2 | apply k3 | apply k4 | apply k5 | apply k6 | apply k7) <;> intro hc))
          refine ⟨⟨out, hO.sq hlo, hd, by omega, ?_⟩, hG⟩
          obtain rfl : c = 0 := by omega
          rw [Nat.mul_zero, Nat.add_zero, List.take_of_length_le (by omega), List.take_of_length_le (by omega)] at hinv
          exact hinv
end
end
end Go.Ae


/- Words: product, and shift. -/
set_option linter.unusedVariables false
set_option linter.unusedSimpArgs false
set_option maxRecDepth 100000
namespace Go.Ae
open Bg
noncomputable section
theorem mul_step {P Q Bj B V V' V0 Y x y o c c' r : Nat} (h : V + Q * c = V0 + P * (x * Y)) (hQ : Q = P * Bj) (hr : r + B * c' = x * y + o + c) (hV : V' + Q * o = V + Q * r) :
    V' + Q * B * c' = V0 + P * (x * (Y + Bj * y)) := by
  have e1 : Q * (r + B * c') = Q * (x * y + o + c) := by rw [hr]
  rw [Nat.mul_add, Nat.mul_add, Nat.mul_add, ← Nat.mul_assoc] at e1
  have e2 : P * (x * (Y + Bj * y)) = P * (x * Y) + Q * (x * y) := by
    rw [hQ, Nat.mul_add, Nat.mul_add]; congr 1; ac_rfl
  omega
section
variable {h : Hp} {K : AV → Hp → Prop}
end
end
end Go.Ae


/- The estimate of a digit of a quotient. -/
set_option linter.unusedVariables false
set_option linter.unusedSimpArgs false
namespace Go.Ae.Bg
/-- q is not below the quotient of U * b + u by the divisor v1 * b + v0, and r is what it leaves of U. -/
structure Est (b v1 v0 U u q r : Nat) : Prop where
  rest : U = q * v1 + r
  ge : (U * b + u) / (v1 * b + v0) ≤ q
variable {b v1 v0 U u q r : Nat}
/-- Where the check holds, the estimate is the quotient. -/
theorem Est.done (e : Est b v1 v0 U u q r) (hv : 0 < v1 * b + v0) (h : q * v0 ≤ b * r + u) : q = (U * b + u) / (v1 * b + v0) := by
  refine Nat.le_antisymm ?_ e.ge
  rw [Nat.le_div_iff_mul_le hv]
  have e1 : q * (v1 * b + v0) = q * v1 * b + q * v0 := by rw [Nat.mul_add, Nat.mul_assoc]
  have e2 : U * b = q * v1 * b + r * b := by rw [e.rest, Nat.add_mul]
  have e3 : b * r = r * b := Nat.mul_comm _ _
  omega
/-- Where it does not, one less is an estimate too. -/
theorem Est.down (e : Est b v1 v0 U u q r) (hv : 0 < v1 * b + v0) (h : b * r + u < q * v0) : 1 ≤ q ∧ Est b v1 v0 U u (q - 1) (r + v1) := by
  have hq : 1 ≤ q := by
    rcases Nat.eq_zero_or_pos q with h0 | h0
    · subst h0; simp at h
    · exact h0
  obtain ⟨p, rfl⟩ : ∃ p, q = p + 1 := ⟨q - 1, by omega⟩
  refine ⟨hq, ?_, ?_⟩
  · have := e.rest; rw [Nat.add_mul] at this; rw [Nat.add_sub_cancel]; omega
  · rw [Nat.add_sub_cancel]
    have : (U * b + u) / (v1 * b + v0) < p + 1 := by
      rw [Nat.div_lt_iff_lt_mul hv]
      have e1 : (p + 1) * (v1 * b + v0) = (p + 1) * v1 * b + (p + 1) * v0 := by rw [Nat.mul_add, Nat.mul_assoc]
      have e2 : U * b = (p + 1) * v1 * b + r * b := by rw [e.rest, Nat.add_mul]
      have e3 : b * r = r * b := Nat.mul_comm _ _
      omega
    omega
/-- The first estimate. -/
theorem Est.first (hv1 : 0 < v1) (hb : 0 < b) (hu : u < b) : Est b v1 v0 U u (U / v1) (U % v1) := by
  refine ⟨by rw [Nat.mul_comm]; exact (Nat.div_add_mod U v1).symm, ?_⟩
  have hv : 0 < v1 * b + v0 := by have := Nat.mul_pos hv1 hb; omega
  have h1 : (U * b + u) / (v1 * b + v0) ≤ (U * b + u) / (v1 * b) := Nat.div_le_div_left (by omega) (Nat.mul_pos hv1 hb)
  have h2 : (U * b + u) / (v1 * b) = U / v1 := by
    rw [Nat.mul_comm v1 b, ← Nat.div_div_eq_div_mul]
    congr 1
    rw [Nat.mul_comm, Nat.mul_add_div hb, Nat.div_eq_of_lt hu, Nat.add_zero]
  omega
/-- A great rest ends the search. -/
theorem Est.great (e : Est b v1 v0 U u q r) (hv0 : v0 < b) (hU : U < v1 * b + v0) (hr : b ≤ r) : q < b ∧ q * v0 ≤ b * r + u := by
  have hq : q < b := by
    rcases Nat.lt_or_ge q b with c | c
    · exact c
    · have h1 : b * v1 ≤ q * v1 := Nat.mul_le_mul_right _ c
      have := e.rest
      rw [Nat.mul_comm v1 b] at hU
      omega
  refine ⟨hq, ?_⟩
  have h1 : q * v0 ≤ b * b := Nat.mul_le_mul (by omega) (by omega)
  have h2 : b * b ≤ b * r := Nat.mul_le_mul_left _ hr
  omega
end Go.Ae.Bg


/- Words: the quotient of two words by one. -/
set_option linter.unusedVariables false
set_option linter.unusedSimpArgs false
set_option maxRecDepth 100000
namespace Go.Ae
open Bg
noncomputable section
/-- The zeros ahead of a word. -/
def lz (x : Nat) : Nat := 64 - bitLen x
section
variable {h : Hp} {K : AV → Hp → Prop}
end
end
end Go.Ae


/- Words: rows that are written in place; words that are shifted. -/
set_option linter.unusedVariables false
set_option linter.unusedSimpArgs false
set_option maxRecDepth 100000
namespace Go.Ae
open Bg
noncomputable section
/-- A later heap, which may differ at t. -/
structure Chg (t : Nat) (h h' : Hp) : Prop where
  next : h.next ≤ h'.next
  clk : h.clk ≤ h'.clk
  get : ∀ u, u < h.next → u ≠ t → h'.get u = h.get u
section
variable {h h' h'' : Hp} {t u i x : Nat} {kd : IntKind} {v : AV} {l P W S : List Nat} {cs : List AV}
theorem Chg.refl : Chg t h h := ⟨Nat.le_refl _, Nat.le_refl _, fun _ _ _ => rfl⟩
theorem Chg.trans (a : Chg t h h') (b : Chg t h' h'') : Chg t h h'' := ⟨Nat.le_trans a.next b.next, Nat.le_trans a.clk b.clk, fun u hu hn => (b.get u (Nat.lt_of_lt_of_le hu a.next) hn).trans (a.get u hu hn)⟩
theorem Chg.put {f : Nat → AObj} (a : Chg t h h') : Chg t h (h'.put t f) := ⟨a.next, Nat.le_succ_of_le a.clk, fun u hu hn => (Hp.put_other hn).trans (a.get u hu hn)⟩
theorem Chg.of (g : Grs h h') : Chg t h h' := ⟨g.next, g.clk, fun u hu _ => g.get hu⟩
theorem Chg.grs (a : Chg t h' h'') (g : Grs h h') (ht : h.next ≤ t) : Grs h h'' := by
  have h1 := g.next; have h2 := g.clk; have h3 := a.next; have h4 := a.clk
  exact ⟨h''.next - h.next, h''.clk - h.clk, by omega, by omega, fun u hu => (a.get u (by omega) (by omega)).trans (g.get hu)⟩
theorem Sq.chg (s : Sq kd h v l) (c : Chg t h h') (hn : tokOf v ≠ t) : Sq kd h' v l := by
  rcases s with s | ⟨u, o, own, st, L, rfl, hg, h1, h2, h3, h4⟩
  · exact .inl s
  · exact .inr ⟨u, o, own, st, L, rfl, (c.get u h3 hn).trans hg, h1, h2, Nat.lt_of_lt_of_le h3 c.next, Nat.le_trans h4 c.clk⟩
theorem AtS.chg (a : AtS h u cs) (c : Chg t h h') (hn : u ≠ t) : AtS h' u cs := by
  obtain ⟨st, hg, hs, ht⟩ := a
  exact ⟨st, (c.get u ht hn).trans hg, Nat.le_trans hs c.clk, Nat.lt_of_lt_of_le ht c.next⟩
theorem win_at (hi : i < W.length) : (P ++ W ++ S).getD (P.length + i) 0 = W.getD i 0 := by
  simp only [List.getD]
  rw [List.append_assoc, List.getElem?_append_right (by omega), Nat.add_sub_cancel_left, List.getElem?_append_left hi]
theorem win_set (hi : i < W.length) : (P ++ W ++ S).set (P.length + i) x = P ++ W.set i x ++ S := by
  rw [List.append_assoc, List.set_append_right _ _ (by omega), Nat.add_sub_cancel_left, List.set_append_left _ _ hi, List.append_assoc]
theorem AtS.ldw64 (a : AtS h t (W.map (wd .i64))) (hi : i < W.length) : ∀ h' K, LoadR false 1 i (h.get t) h' K ↔ K (.int .i64 (W.getD i 0 : Nat)) h' := by
  obtain ⟨st, hg, hs, ht⟩ := a
  intro h' K
  rw [hg, LoadR.row, if_pos (by simp only [List.length_map]; omega), if_neg (by decide), row_get hi]
  exact Iff.rfl
theorem AtS.stw64 (a : AtS h t (W.map (wd .i64))) (hi : i < W.length) : ∀ (x : Nat) h' K, StoreR 1 t i (.int .i64 (x : Int)) (h.get t) h' K ↔ K und (h'.put t fun st => .row ((W.set i x).map (wd .i64)) true st) := by
  obtain ⟨st, hg, hs, ht⟩ := a
  intro x h' K
  rw [hg, StoreR.row]
  have e : splice (W.map (wd .i64)) i (AV.cells (.int .i64 (x : Int))) = (W.set i x).map (wd .i64) := by
    rw [← set_row hi]
    rfl
  rw [e]
  constructor
  · exact fun hk => hk.2.2.2
  · exact fun hk => ⟨rfl, by simp only [List.length_map]; omega, rfl, hk⟩
theorem AtS.old (a : AtS h t cs) : ∀ c0, h.clk ≤ c0 → OldR (h.get t) c0 = true := by
  obtain ⟨st, hg, hs, ht⟩ := a
  intro c0 hc
  rw [hg]; exact OldR.row (Nat.le_trans hs hc)
theorem AtS.lt (a : AtS h t cs) : t < h.next := a.choose_spec.2.2
end
section
variable {h : Hp} {K : AV → Hp → Prop}
end
end
end Go.Ae


/- A digit of a quotient, from the leading digits. -/
set_option linter.unusedVariables false
set_option linter.unusedSimpArgs false
namespace Go.Ae.Bg
/-- q is not below Q, and r is what q leaves of U. -/
structure EsQ (v1 U Q q r : Nat) : Prop where
  rest : U = q * v1 + r
  ge : Q ≤ q
variable {b B v1 v0 U u Q q r : Nat}
theorem EsQ.down (e : EsQ v1 U Q q r) (hQ : Q * (v1 * b + v0) ≤ U * b + u) (h : b * r + u < q * v0) : 1 ≤ q ∧ EsQ v1 U Q (q - 1) (r + v1) := by
  have hq : 1 ≤ q := by
    rcases Nat.eq_zero_or_pos q with h0 | h0
    · subst h0; simp at h
    · exact h0
  have e1 : q * (v1 * b + v0) = q * v1 * b + q * v0 := by rw [Nat.mul_add, Nat.mul_assoc]
  have e2 : U * b = q * v1 * b + r * b := by rw [e.rest, Nat.add_mul]
  have e3 : b * r = r * b := Nat.mul_comm _ _
  have e4 : Q * (v1 * b + v0) < q * (v1 * b + v0) := by omega
  have e5 := Nat.lt_of_mul_lt_mul_right e4
  obtain ⟨p, rfl⟩ : ∃ p, q = p + 1 := ⟨q - 1, by omega⟩
  refine ⟨hq, ?_, by omega⟩
  have := e.rest; rw [Nat.add_mul] at this; rw [Nat.add_sub_cancel]; omega
theorem EsQ.ok (e : EsQ v1 U Q q r) (h : q * v0 ≤ b * r + u) : q * (v1 * b + v0) ≤ U * b + u := by
  have e1 : q * (v1 * b + v0) = q * v1 * b + q * v0 := by rw [Nat.mul_add, Nat.mul_assoc]
  have e2 : U * b = q * v1 * b + r * b := by rw [e.rest, Nat.add_mul]
  have e3 : b * r = r * b := Nat.mul_comm _ _
  omega
theorem EsQ.first (hv1 : 0 < v1) (hu : u < b) (hQ : Q * (v1 * b + v0) ≤ U * b + u) : EsQ v1 U Q (U / v1) (U % v1) := by
  refine ⟨by rw [Nat.mul_comm]; exact (Nat.div_add_mod U v1).symm, ?_⟩
  rw [Nat.le_div_iff_mul_le hv1]
  have e1 : Q * (v1 * b + v0) = Q * v1 * b + Q * v0 := by rw [Nat.mul_add, Nat.mul_assoc]
  have e2 : (Q * v1) * b < (U + 1) * b := by rw [Nat.add_mul]; omega
  have := Nat.lt_of_mul_lt_mul_right e2
  omega
theorem est_facts {p v W vlow wlow V2 U3 : Nat} (hv : v = vlow + p * V2) (hW : W = wlow + p * U3) (hvl : vlow < p) (hwl : wlow < p) (hV2 : V2 = v1 * B + v0) (hU3 : U3 = U * B + u) (hv1 : 0 < v1) (hB : 0 < B) (hlt : W < B * v) :
    W / v * V2 ≤ U3 ∧ (∀ q, q < B → q * V2 ≤ U3 → q ≤ W / v + 1) ∧ U ≤ V2 ∧ 0 < v ∧ W / v < B := by
  have hV : B ≤ V2 := by
    have := Nat.mul_le_mul_right B hv1
    omega
  have hpV : p * B ≤ p * V2 := Nat.mul_le_mul_left _ hV
  have hpB : 0 < p * B := Nat.mul_pos (by omega) hB
  have hvp : 0 < v := by omega
  refine ⟨?_, ?_, ?_, hvp, ?_⟩
  · have h1 : W / v * v ≤ W := Nat.div_mul_le_self W v
    have h2 : W / v * (p * V2) ≤ W / v * v := Nat.mul_le_mul_left _ (by omega)
    have h3 : W / v * (p * V2) = p * (W / v * V2) := by ac_rfl
    have h4 : p * (W / v * V2) < p * (U3 + 1) := by rw [Nat.mul_add]; omega
    have := Nat.lt_of_mul_lt_mul_left h4
    omega
  · intro q hq hle
    have h1 : q * vlow ≤ B * vlow := Nat.mul_le_mul_right _ (by omega)
    have h2 : B * vlow < B * p := Nat.mul_lt_mul_of_pos_left hvl hB
    have h3 : B * p = p * B := Nat.mul_comm _ _
    have h4 : p * (q * V2) ≤ p * U3 := Nat.mul_le_mul_left _ hle
    have h5 : q * v = q * vlow + p * (q * V2) := by rw [hv, Nat.mul_add]; congr 1; ac_rfl
    have h6 := Nat.div_add_mod W v
    have h7 := Nat.mod_lt W hvp
    have h8 : q * v < (W / v + 2) * v := by
      rw [Nat.add_mul, Nat.mul_comm (W / v)]; omega
    have := Nat.lt_of_mul_lt_mul_right h8
    omega
  · have h1 : p * (U * B) ≤ p * U3 := Nat.mul_le_mul_left _ (by omega)
    have h2 : B * vlow < B * p := Nat.mul_lt_mul_of_pos_left hvl hB
    have h3 : B * v = B * vlow + B * (p * V2) := by rw [hv, Nat.mul_add]
    have h4 : p * (U * B) = (p * B) * U := by ac_rfl
    have h5 : B * (p * V2) = (p * B) * V2 := by ac_rfl
    have h6 : (p * B) * U < (p * B) * (V2 + 1) := by rw [Nat.mul_add, Nat.mul_one, Nat.mul_comm p B]; rw [Nat.mul_comm p B] at h4 h5; omega
    have := Nat.lt_of_mul_lt_mul_left h6
    omega
  · rw [Nat.div_lt_iff_lt_mul hvp]; exact hlt
theorem top2 {l : List Nat} (h : 2 ≤ l.length) : vl B l = vl B (l.take (l.length - 2)) + B ^ (l.length - 2) * (l.getD (l.length - 1) 0 * B + l.getD (l.length - 2) 0) := by
  have h1 := vl_take_succ (B := B) (l := l) (i := l.length - 2) (by omega)
  have h2 := vl_take_succ (B := B) (l := l) (i := l.length - 1) (by omega)
  rw [show l.length - 2 + 1 = l.length - 1 by omega] at h1
  rw [show l.length - 1 + 1 = l.length by omega, List.take_length] at h2
  rw [h2, h1, Nat.mul_add, show B ^ (l.length - 1) = B ^ (l.length - 2) * B by rw [← Nat.pow_succ]; congr 1; omega]
  have : B ^ (l.length - 2) * B * l.getD (l.length - 1) 0 = B ^ (l.length - 2) * (l.getD (l.length - 1) 0 * B) := by ac_rfl
  omega
theorem top3 {W : List Nat} {n : Nat} (hn : 2 ≤ n) (hW : W.length = n + 1) : vl B W = vl B (W.take (n - 2)) + B ^ (n - 2) * ((W.getD n 0 * B + W.getD (n - 1) 0) * B + W.getD (n - 2) 0) := by
  have h1 := vl_take_succ (B := B) (l := W) (i := n - 2) (by omega)
  have h2 := vl_take_succ (B := B) (l := W) (i := n - 1) (by omega)
  have h3 := vl_take_succ (B := B) (l := W) (i := n) (by omega)
  rw [show n - 2 + 1 = n - 1 by omega] at h1
  rw [show n - 1 + 1 = n by omega] at h2
  rw [← hW, List.take_length] at h3
  rw [h3, h2, h1, Nat.mul_add]
  have e1 : B ^ (n - 1) = B ^ (n - 2) * B := by rw [← Nat.pow_succ]; congr 1; omega
  have e2 : B ^ n = B ^ (n - 2) * B * B := by rw [← Nat.pow_succ, ← Nat.pow_succ]; congr 1; omega
  rw [e1, e2]
  have : B ^ (n - 2) * B * B * W.getD n 0 + B ^ (n - 2) * B * W.getD (n - 1) 0 = B ^ (n - 2) * ((W.getD n 0 * B + W.getD (n - 1) 0) * B) := by
    rw [Nat.add_mul, Nat.mul_add]
    congr 1 <;> ac_rfl
  omega
end Go.Ae.Bg
namespace Go.Ae.Bg
variable {b B v1 v0 U u Q q r : Nat}
theorem EsQ.downB (e : EsQ v1 U Q q r) (hQ : Q < b) (hq : b ≤ q) : 1 ≤ q ∧ EsQ v1 U Q (q - 1) (r + v1) := by
  obtain ⟨p, rfl⟩ : ∃ p, q = p + 1 := ⟨q - 1, by omega⟩
  refine ⟨by omega, ?_, by omega⟩
  have := e.rest; rw [Nat.add_mul] at this; rw [Nat.add_sub_cancel]; omega
theorem EsQ.great (e : EsQ v1 U Q q r) (hv0 : v0 < b) (hU : U ≤ v1 * b + v0) (hr : b ≤ r) : q < b ∧ q * v0 ≤ b * r + u := by
  have hq : q < b := by
    rcases Nat.lt_or_ge q b with c | c
    · exact c
    · have h1 : b * v1 ≤ q * v1 := Nat.mul_le_mul_right _ c
      have := e.rest
      rw [Nat.mul_comm v1 b] at hU
      omega
  refine ⟨hq, ?_⟩
  have h1 : q * v0 ≤ b * b := Nat.mul_le_mul (by omega) (by omega)
  have h2 : b * b ≤ b * r := Nat.mul_le_mul_left _ hr
  omega
end Go.Ae.Bg

