/-
  What the rows of chapter 1 have in common: a start at which the listed variables read as their initialisers lay them.
-/
import Derived.Test.YtdaggbpeoldmeaaGreatDoorCards
import Derived.Test.YtdaggbpeoldmeaaGreatDoorTie
import Derived.Test.YtdaggbpeoldmeaaGreatDoorZKR3
import Derived.WalkKit
import Derived.ProofKit
import Derived.OpenShut
import Derived.LaidSub
import Derived.MakeChecks
import Derived.ChangeMaps5
import Derived.Deep.DeepHandedRow
import Derived.Deep.DeepWitnessRowRef
import Derived.Deep.DeepLaidRun
import Derived.Lib.LaidTab
import Derived.Test.YtdaggbpeoldmeaaGreatDoorM2
import Derived.Lib.Mul64
import Derived.Test.YtdaggbpeoldmeaaGreatDoorZFB
set_option linter.unusedVariables false
set_option maxRecDepth 100000
namespace Go.Proofs.YtdaggbpeoldmeaaGreatDoor.laws
open Go.ChangeShapes Go.WideShapes Go.ChangeAt Go.RowKit Go.Ae
open Go.ChangeMaps (open_string shut_string)
section
variable {H : Type} {enc : TypeId × Value → H} {P : Program}
/-- What a law's row asks behind the call: what lay has not turned. -/
theorem post_below {f : Func} {s : ChangeSpec} {apart fresh handsOn again : Bool} {W W' : World} {args : Array Value} {v : Value} {ds gs : List (DataW H)} {before pa pv : List MemPlace}
    (hW : DataW.Whole enc P f.params.toList s.vars apart W args.toList ds gs before)
    (hres : ∀ (b : Nat) (sp : Nat → Bool) (hd : Bool), DataW.TrodAll enc P W' b sp hd f.resultTypes.toList (v.resultList f.resultTypes.size) (s.fn H (ds ++ gs)).results [])
    (hargs : ∀ sp : Nat → Bool, (∀ p ∈ before, sp p.block = true) → DataW.TrodAll enc P W' 0 sp true f.params.toList args.toList (s.fn H (ds ++ gs)).args pa)
    (hvars : ∀ sp : Nat → Bool, (∀ p ∈ before, sp p.block = true) → DataW.TrodVars enc P W' sp s.vars (s.fn H (ds ++ gs)).vars pv)
    (hps : before = pa ++ pv) (hB : Below W.heap.size W W')
    (hok : ∀ (j : Nat) (t : TypeId) (r : Value), f.resultTypes[j]? = some t → (v.resultList f.resultTypes.size)[j]? = some r → Value.okWide P W' .any 0 t r) :
    s.post enc P f apart fresh handsOn again W args v W' := by
  have hold : ∀ p ∈ before, (fun b => decide (b < W.heap.size)) p.block = true := fun p hp => by simpa using hW.lt p hp
  have hlt := hW.lt
  refine ⟨ds, gs, before, [], pa, pv, hW, hres _ _ _, hargs _ hold, hvars _ hold, World.keptBut_mono (fun p hp => ⟨hp, ?_⟩) (hB.frame (· ∈ before)), fun _ => ?_⟩
  · rw [hps, List.mem_append] at hp
    exact Or.inr hp
  · obtain ⟨_, _, _, _, _, hz, hn⟩ := hW
    refine ⟨hok, _, _, ([] ++ pa) ++ pv, ⟨[] ++ pa, pv, trodAll_append (hargs _ (fun _ _ => rfl)) (hres _ _ _), hvars _ (fun _ _ => rfl), rfl, ?_, ?_⟩, ?_⟩
    · intro b off hp
      have hp' : MemPlace.cell b off ∈ before := by rw [hps]; simpa using hp
      have hb : b < W.heap.size := hlt _ hp'
      have e : W'.frozen? ⟨b, off, none⟩ = W.frozen? ⟨b, off, none⟩ := by
        simp only [World.frozen?, hB.block b hb]
      rw [e]
      exact hz b off hp'
    · intro ha
      have := hn ha
      rw [hps] at this
      simpa using this
    · intro p hp _
      rw [hps]
      simpa using hp
end
theorem own : ownKnob Tryz.prog.godebug = none := by kernel_rfl
theorem gPow : Tryz.prog.globalNamed "internal/strconv.uint64pow10" = some 5 := by kernel_rfl
theorem gPowType : (Tryz.prog.globals[5]?).map (·.type) = some 343 := by kernel_rfl
theorem cells343 : Tryz.prog.cellsOf 343 = 20 := by kernel_rfl
theorem cells278 : Tryz.prog.cellsOf 278 = 1 := by kernel_rfl
/-- What the rows' list gives: the powers of ten; and the start's cell. -/
theorem glob {W : World} {l : List (String × DataW Unit)} (hL : laidMetH Tryz.prog l W) (hl : (l.filter fun x => x.1 == "internal/strconv.uint64pow10") = [("internal/strconv.uint64pow10", Lib.tabData .u64 Lib.pow10Tab)]) (hO : W.ShapedOpen Tryz.prog) : L.Glob W W.heap.size := by
  have h1 := laidMetH.filter (fun x => x.1 == "internal/strconv.uint64pow10") hL
  rw [hl, MakeChecks.laidMetH_plain _ _ _ (by kernel_rfl)] at h1
  obtain ⟨m, hm⟩ := Tryz.laysM145.s1_3 W hO
  have hm' : W.cell? ⟨0, 0, none⟩ = some (.int .i64 m) := hm
  refine ⟨Nat.le_refl _, Lib.tabBelow_of_tabIs (Lib.tabIs_of_head gPow gPowType Tryz.underlying343 Tryz.underlying278 cells278 cells343 h1), ?_, m, hm'⟩
  rcases Nat.eq_zero_or_pos W.heap.size with h0 | h0
  · simp [World.cell?, Array.getElem?_eq_none (show W.heap.size ≤ 0 by omega)] at hm'
  · exact h0
/-! A start at which the variables read as listed. -/
def leaf : DataW Unit → List Value
  | .lit (.int k n) => [.int k n]
  | _ => []
def row : DataW Unit → List Value
  | .agg l => l.flatMap leaf
  | d => leaf d
def tab : DataW Unit → List Value
  | .agg l => l.flatMap row
  | d => leaf d
/-- So many blocks has the settled world. -/
noncomputable def low : Nat := (World.holding Tryz.prog default ⟨#[], #[], []⟩).heap.size
def putG (h : Array Obj) (g : Nat) (cs : Array Value) : Array Obj := h.modify g fun
  | .cells _ t frozen => .cells cs t frozen
  | o => o
noncomputable def laidWorld (os : Os) : World :=
  let w0 := World.holding Tryz.prog os ⟨#[.cells #[.string ⟨#[105, 110, 118, 97, 108, 105, 100, 32, 115, 121, 110, 116, 97, 120]⟩] 353, .cells #[.string ⟨#[118, 97, 108, 117, 101, 32, 111, 117, 116, 32, 111, 102, 32, 114, 97, 110, 103, 101]⟩] 353], #[], []⟩
  let h1 := putG w0.heap 8 (tab Rows.laid_math_bits_deBruijn32tab).toArray
  let h2 := putG h1 9 (tab Rows.laid_math_bits_deBruijn64tab).toArray
  let h3 := putG h2 5 (tab Rows.laid_internal_strconv_uint64pow10).toArray
  let h4 := putG h3 7 (tab Rows.laid_unicode_utf8_acceptRanges).toArray
  let h5 := putG h4 6 (tab Rows.laid_unicode_utf8_first).toArray
  let h6 := putG h5 3 #[.iface 351 (.pointer (some ⟨low, 0, none⟩))]
  let h7 := putG h6 4 #[.iface 351 (.pointer (some ⟨low + 1, 0, none⟩))]
  { w0 with heap := h7 }
end Go.Proofs.YtdaggbpeoldmeaaGreatDoor.laws


/- The abstract evaluator: walks through functions that lay memory: a heap as its history. -/
set_option linter.unusedVariables false
set_option linter.unusedSimpArgs false
namespace Go.Ae
noncomputable section
/-- A later heap: so many more tokens, so many more ticks; what lay has not turned. -/
structure Grw (h h' : Hp) (k j : Nat) : Prop where
  next : h'.next = h.next + k
  clk : h'.clk = h.clk + j
  get : ∀ t, t < h.next → h'.get t = h.get t
def Grs (h h' : Hp) : Prop := ∃ k j, Grw h h' k j
theorem Grs.next {h h' : Hp} (g : Grs h h') : h.next ≤ h'.next := by obtain ⟨k, j, g⟩ := g; have := g.next; omega
theorem Grs.clk {h h' : Hp} (g : Grs h h') : h.clk ≤ h'.clk := by obtain ⟨k, j, g⟩ := g; have := g.clk; omega
theorem Grs.get {h h' : Hp} (g : Grs h h') {t : Nat} (ht : t < h.next) : h'.get t = h.get t := by obtain ⟨k, j, g⟩ := g; exact g.get t ht
theorem Grs.refl (h : Hp) : Grs h h := ⟨0, 0, rfl, rfl, fun _ _ => rfl⟩
theorem Grs.trans {a b c : Hp} (x : Grs a b) (y : Grs b c) : Grs a c := by
  obtain ⟨k, j, x⟩ := x
  obtain ⟨k', j', y⟩ := y
  exact ⟨k + k', j + j', by rw [y.next, x.next]; omega, by rw [y.clk, x.clk]; omega, fun t ht => (y.get t (by rw [x.next]; omega)).trans (x.get t ht)⟩
theorem Grs.push {a b : Hp} (x : Grs a b) {f : Nat → AObj} : Grs a (b.push f) := by
  obtain ⟨k, j, x⟩ := x
  exact ⟨k + 1, j + 1, by show b.next + 1 = _; rw [x.next]; omega, by show b.clk + 1 = _; rw [x.clk]; omega, fun t ht => (Hp.push_other (by rw [x.next]; omega)).trans (x.get t ht)⟩
theorem Grs.put {a b : Hp} (x : Grs a b) {t : Nat} {f : Nat → AObj} (ht : a.next ≤ t) : Grs a (b.put t f) := by
  obtain ⟨k, j, x⟩ := x
  exact ⟨k, j + 1, x.next, by show b.clk + 1 = _; rw [x.clk]; omega, fun u hu => (Hp.put_other (by omega)).trans (x.get u hu)⟩
/-- The later heap, written with the earlier one. -/
def Hp.ov (h h' : Hp) {k j : Nat} (_ : Grw h h' k j) : Hp := h'
theorem Grs.ov {a b h' : Hp} {k j : Nat} (x : Grs a b) {g : Grw b h' k j} : Grs a (b.ov h' g) := x.trans ⟨k, j, g⟩
section
variable {h h' : Hp} {k j t : Nat} {g : Grw h h' k j}
theorem Hp.ov_next : (h.ov h' g).next = h.next + k := g.next
theorem Hp.ov_clk : (h.ov h' g).clk = h.clk + j := g.clk
theorem Hp.ov_get (ht : t < h.next) : (h.ov h' g).get t = h.get t := g.get t ht
end
/-- A call gives a value, and leaves what lay. -/
def Gv (E : Env) (f : Nat) (args : List AV) (h : Hp) (v : AV) : Prop := ∃ h', CallsTo E f args h v h' ∧ Grs h h'
/-- A call gives a value with a property that tells of memory. -/
def Gp (E : Env) (f : Nat) (args : List AV) (h : Hp) (p : AV → Hp → Prop) : Prop := ∃ v h', CallsTo E f args h v h' ∧ Grs h h' ∧ p v h'
section
variable {E : Env} {f : Nat} {args : List AV} {h : Hp} {v : AV} {K : AV → Hp → Prop} {p : AV → Hp → Prop}
theorem Gv.wp (hc : Gv E f args h v) (hk : ∀ h' k j (g : Grw h h' k j), K v (h.ov h' g)) : CallWp E f args h K := by
  obtain ⟨h', h1, k, j, g⟩ := hc
  exact ⟨v, h', h1, hk h' k j g⟩
theorem Gv.of (hc : CallWp E f args h fun v' h' => v' = v ∧ Grs h h') : Gv E f args h v := by
  obtain ⟨v', h', h1, rfl, g⟩ := hc
  exact ⟨h', h1, g⟩
theorem Gp.wp (hc : Gp E f args h p) (hk : ∀ v h' k j (g : Grw h h' k j), p v (h.ov h' g) → K v (h.ov h' g)) : CallWp E f args h K := by
  obtain ⟨v, h', h1, ⟨k, j, g⟩, hp⟩ := hc
  exact ⟨v, h', h1, hk v h' k j g hp⟩
theorem Gp.of (hc : CallWp E f args h fun v' h' => p v' h' ∧ Grs h h') : Gp E f args h p := by
  obtain ⟨v', h', h1, hp, g⟩ := hc
  exact ⟨v', h', h1, g, hp⟩
theorem Gv.ge {E' : Env} (hg : ∀ h v h', CallsTo E f args h v h' → CallsTo E' f args h v h') (hc : Gv E f args h v) : Gv E' f args h v := by
  obtain ⟨h', h1, g⟩ := hc
  exact ⟨h', hg _ _ _ h1, g⟩
end
/-- What lies at a token, of one's own. -/
def At (h : Hp) (t : Nat) (cs : List AV) : Prop := ∃ st, h.get t = some (.row cs true st)
section
variable {h h' : Hp} {k j t u : Nat} {g : Grw h h' k j} {cs z : List AV}
theorem At.push_at (ht : t = h.next) : At (h.push fun st => .row z true st) t cs ↔ z = cs := by
  unfold At
  rw [ht, Hp.push_same]
  constructor
  · rintro ⟨st, e⟩; injection e with e; injection e
  · rintro rfl; exact ⟨_, rfl⟩
theorem At.push_other {f : Nat → AObj} (ht : t ≠ h.next) : At (h.push f) t cs ↔ At h t cs := by unfold At; rw [Hp.push_other ht]
theorem At.put_at (ht : t = u) : At (h.put u fun st => .row z true st) t cs ↔ z = cs := by
  unfold At
  rw [ht, Hp.put_same]
  constructor
  · rintro ⟨st, e⟩; injection e with e; injection e
  · rintro rfl; exact ⟨_, rfl⟩
theorem At.put_other {f : Nat → AObj} (ht : t ≠ u) : At (h.put u f) t cs ↔ At h t cs := by unfold At; rw [Hp.put_other ht]
theorem At.ov (ht : t < h.next) : At (h.ov h' g) t cs ↔ At h t cs := by unfold At; rw [Hp.ov_get ht]
end
/-! Reading and writing, by what lies at the token. -/
def LoadR (ag : Bool) (l p : Nat) (x : Option AObj) (h : Hp) (K : AV → Hp → Prop) : Prop :=
  match x with
  | some (.row cs _ _) => Some1 (if p + l ≤ cs.length then (if ag then some (.agg ((cs.drop p).take l)) else cs[p]?) else none) h K
  | _ => False
def StoreR (l t p : Nat) (y : AV) (x : Option AObj) (h : Hp) (K : AV → Hp → Prop) : Prop :=
  match x with
  | some (.row cs true _) => y.cells.length = l ∧ p + l ≤ cs.length ∧ y.cells.all AV.one = true ∧ K und (h.put t fun st => .row (splice cs p y.cells) true st)
  | _ => False
def CellK (ag : Bool) (l : Nat) (v : AV) (h : Hp) : Option AV :=
  match v with
  | .ptr t p => match h.get t with
    | some (.row cs _ _) => if p + l ≤ cs.length then (if ag then some (.agg ((cs.drop p).take l)) else cs[p]?) else none
    | _ => none
  | _ => none
def CellR (ag : Bool) (l p : Nat) (x : Option AObj) : Option AV :=
  match x with
  | some (.row cs _ _) => if p + l ≤ cs.length then (if ag then some (.agg ((cs.drop p).take l)) else cs[p]?) else none
  | _ => none
section
variable {E : Env} {s : St} {h : Hp} {K : AV → Hp → Prop} {ag own : Bool} {l p t st : Nat} {cs : List AV} {y v : AV}
theorem LoadK.r : LoadK ag l (.ptr t p) h K ↔ LoadR ag l p (h.get t) h K := by
  simp only [LoadK, LoadR]
  cases h.get t with
  | none => exact Iff.rfl
  | some o => cases o <;> exact Iff.rfl
theorem LoadR.row : LoadR ag l p (some (.row cs own st)) h K ↔ Some1 (if p + l ≤ cs.length then (if ag then some (.agg ((cs.drop p).take l)) else cs[p]?) else none) h K := Iff.rfl
theorem StoreK.r : StoreK l (.ptr t p) y h K ↔ StoreR l t p y (h.get t) h K := by
  simp only [StoreK, StoreR]
  cases h.get t with
  | none => exact Iff.rfl
  | some o =>
    cases o with
    | row cs own st => cases own <;> exact Iff.rfl
    | _ => exact Iff.rfl
theorem StoreR.row : StoreR l t p y (some (.row cs true st)) h K ↔ y.cells.length = l ∧ p + l ≤ cs.length ∧ y.cells.all AV.one = true ∧ K und (h.put t fun st => .row (splice cs p y.cells) true st) := Iff.rfl
theorem resA_cell : resA s (.cell t ag l) = CellK ag l (val s.tm (.t t)) s.hp := rfl
theorem CellK.r : CellK ag l (.ptr t p) h = CellR ag l p (h.get t) := by
  simp only [CellK, CellR]
theorem CellR.row : CellR ag l p (some (.row cs own st)) = if p + l ≤ cs.length then (if ag then some (.agg ((cs.drop p).take l)) else cs[p]?) else none := rfl
def Res2 (a b : Option AV) : Option AV :=
  match a, b with
  | some a, some b => some (.tup [a, b])
  | _, _ => none
def Res3 (a b c : Option AV) : Option AV :=
  match a, b, c with
  | some a, some b, some c => some (.tup [a, b, c])
  | _, _, _ => none
theorem res1' {a : ARes} : resultA s [a] = resA s a := by
  simp only [resultA, ressA]; cases resA s a <;> rfl
theorem res2' {a b : ARes} : resultA s [a, b] = Res2 (resA s a) (resA s b) := by
  simp only [resultA, ressA]; cases resA s a <;> cases resA s b <;> rfl
theorem res3' {a b c : ARes} : resultA s [a, b, c] = Res3 (resA s a) (resA s b) (resA s c) := by
  simp only [resultA, ressA]; cases resA s a <;> cases resA s b <;> cases resA s c <;> rfl
theorem Res2.som {a b : AV} : Res2 (some a) (some b) = some (.tup [a, b]) := rfl
theorem Res3.som {a b c : AV} : Res3 (some a) (some b) (some c) = some (.tup [a, b, c]) := rfl
theorem w_box' {z : Opd} : OpWp E (.box z) s K ↔ ((val s.tm z).cells.all AV.one = true ∧ K (.ptr s.hp.next 0) (s.hp.push fun t => .row (val s.tm z).cells true t)) := by
  rw [w_box]
  simp only [o_box]
  split
  · rename_i hc; simp only [Some2, hc, true_and]
  · rename_i hc; simp only [Some2, false_iff]; exact fun e => hc e.1
theorem w_build' {z : List AV} {ps : List (Nat × Nat × Opd)} : OpWp E (.build z ps) s K ↔ Some1 ((fillA z (ps.map fun q => (q.1, q.2.1, val s.tm q.2.2))).map AV.agg) s.hp K := by
  rw [w_build]
  simp only [o_build]
  cases fillA z (ps.map fun q => (q.1, q.2.1, val s.tm q.2.2)) <;> exact Iff.rfl
theorem fillA_nil : fillA cs [] = some cs := rfl
theorem fillA_cons {o n : Nat} {r : List (Nat × Nat × AV)} (hc : v.cells.length = n ∧ o + n ≤ cs.length ∧ v.cells.all AV.one = true) : fillA cs ((o, n, v) :: r) = fillA (splice cs o v.cells) r := by
  simp only [fillA, if_pos hc]
def SlK (sz n : Nat) (x : Option (List AV)) (h : Hp) (K : AV → Hp → Prop) : Prop :=
  match x with
  | some cs => n * sz = cs.length ∧ 0 < sz ∧ K (.sl h.next 0 n sz) (h.push fun t => .row cs true t)
  | none => False
theorem w_bslice' {sz n : Nat} {z : List AV} {ps : List (Nat × Nat × Opd)} : OpWp E (.bslice sz n z ps) s K ↔ SlK sz n (fillA z (ps.map fun q => (q.1, q.2.1, val s.tm q.2.2))) s.hp K := by
  rw [w_bslice]
  simp only [o_bslice]
  cases fillA z (ps.map fun q => (q.1, q.2.1, val s.tm q.2.2)) with
  | none => exact Iff.rfl
  | some cs =>
    simp only [SlK]
    split
    · rename_i hc; simp only [Some2, hc, true_and]
    · rename_i hc
      simp only [Some2, false_iff]
      exact fun e => hc ⟨e.1, e.2.1⟩
theorem SlK.som {sz n : Nat} : SlK sz n (some cs) h K ↔ n * sz = cs.length ∧ 0 < sz ∧ K (.sl h.next 0 n sz) (h.push fun t => .row cs true t) := Iff.rfl
def OldR (x : Option AObj) (c0 : Nat) : Bool :=
  match x with
  | some o => Nat.ble o.st c0
  | none => false
theorem old_r {c0 : Nat} : old h c0 t = OldR (h.get t) c0 := by
  unfold old OldR; cases h.get t <;> rfl
theorem OldR.row {c0 : Nat} (hs : st ≤ c0) : OldR (some (.row cs own st)) c0 = true := Nat.ble_eq_true_of_le hs
theorem splice_def {vs : List AV} : splice cs p vs = cs.take p ++ (vs ++ cs.drop (p + vs.length)) := rfl
theorem Hp.next_push {f : Nat → AObj} : (h.push f).next = h.next + 1 := id rfl
theorem Hp.next_put {u : Nat} {f : Nat → AObj} : (h.put u f).next = h.next := id rfl
theorem Hp.clk_push {f : Nat → AObj} : (h.push f).clk = h.clk + 1 := id rfl
theorem Hp.clk_put {u : Nat} {f : Nat → AObj} : (h.put u f).clk = h.clk + 1 := id rfl
theorem Hp.push_at {f : Nat → AObj} (ht : t = h.next) : (h.push f).get t = some (f (h.clk + 1)) := by rw [ht]; exact Hp.push_same
theorem Hp.put_at {u : Nat} {f : Nat → AObj} (ht : t = u) : (h.put u f).get t = some (f (h.clk + 1)) := by rw [ht]; exact Hp.put_same
theorem b_slnn : binA .eql .slice .nils .nils = some (.bool true) := rfl
theorem b_slsn {t o n z : Nat} : binA .eql .slice (.sl t o n z) .nils = some (.bool false) := rfl
theorem b_nslnn : binA .neq .slice .nils .nils = some (.bool false) := rfl
theorem b_nslsn {t o n z : Nat} : binA .neq .slice (.sl t o n z) .nils = some (.bool true) := rfl
theorem b_beql {a b : Bool} : binA .eql .bool (.bool a) (.bool b) = some (.bool (decide (a = b))) := by
  simp only [binA, eqA, eqBool, Option.map_some]; cases a <;> cases b <;> rfl
theorem b_bneq {a b : Bool} : binA .neq .bool (.bool a) (.bool b) = some (.bool (decide (¬ a = b))) := by
  simp only [binA, eqA, eqBool, Option.map_some]; cases a <;> cases b <;> rfl
end
theorem cast0 : ((0 : Nat) : Int) = 0 := id rfl
theorem cast1 : ((1 : Nat) : Int) = 1 := id rfl
theorem cast2 : ((2 : Nat) : Int) = 2 := id rfl
theorem cast3 : ((3 : Nat) : Int) = 3 := id rfl
attribute [go_sem] At.push_at At.push_other At.put_at At.put_other At.ov cast0 cast1 cast2 cast3 Grs.refl LoadK.r LoadR.row StoreK.r StoreR.row resA_cell CellK.r CellR.row res1' res2' res3' Res2.som Res3.som w_box' w_build' fillA_nil fillA_cons w_bslice' SlK.som old_r OldR.row splice_def b_slnn b_slsn b_nslnn b_nslsn b_beql b_bneq Hp.ov_next Hp.ov_clk Hp.ov_get Hp.next_push Hp.clk_push Hp.next_put Hp.clk_put Hp.push_at Hp.push_other Hp.put_at Hp.put_other C.o C.n C.g C.m
end
end Go.Ae


/- The abstract evaluator: the rules of a walk, as one set. -/
namespace Go.Ae
attribute [go_sem] not_true_eq_false not_false_eq_true decide_true decide_false Wp.seq_iff Wp.block_iff Wp.skip_iff Wp.ret_iff Wp.exit_iff Wp.cond_iff Wp.nil_iff Wp.op_iff Wp.grd_iff Wp.dreg_iff Wp.dnil_iff Wp.dop_iff Wp.dgrd_iff After InBlock Round Then DThen DOp.some_iff noted_n noted_s NoteK.ptr List.all_nil List.all_cons fresh_eq val_k val_set val_nil put_some put_none enter_nil enter_cons List.map_cons List.map_nil Option.map_some Option.map_none resA_tmp res0 res1 res2 res3 RetQ.ret RetQ.nrm ResK.iff wanted_k WantK.tt WantK.tf WantK.ft WantK.ff WantK.und GrdK.t GrdK.f DGrd.t DGrd.f CondK.t CondK.f decide_nn Bool.not_true Bool.not_false Bool.not_not w_mv PickK.t PickK.f w_pick w_alloc w_bin w_un cviA_int w_cvi cvsA_str w_cvs w_mkI w_mkF w_sls slsK_lo slsK_hi slsK_lh w_idxs idxK_str w_len lenK_str lenK_sl lenK_nils lenK_arr w_ext extK_0 extK_1 extK_2 w_fld fldK_0 fldK_1 fldK_2 fldK_3 fldK_4 w_fadr fadrK_ptr w_iadr iadrK_sl w_iadrA iadrAK_ptr w_load w_storeK Some1.iff Some2.iff b_add b_sub b_mul b_quoP b_remP b_eql b_neq b_lss b_leq b_gtr b_geq b_sadd b_seql b_sneq b_inil u_not u_neg wrap_i64 wrap_u64 wrap_u8 wrap_i32 w_mx2 w_mn2 max2A_int min2A_int cells_int cells_bool cells_str cells_ptr cells_sl cells_nils cells_fn cells_agg one_int one_bool one_str one_ptr one_sl one_nils one_fn OpWp.callF_iff OpWp.callV_iff CallVK.fn OpWp.inv_iff CondK.posN PickK.posN WantK.posN_t WantK.posN_f CondK.pos CondK.neg PickK.pos PickK.neg WantK.pos_t WantK.neg_t WantK.pos_f WantK.neg_f
end Go.Ae


/- Clocks: the functions of the program and of the reference that print times. -/
set_option linter.unusedVariables false
set_option linter.unusedSimpArgs false
set_option maxRecDepth 100000
namespace Go.Ae
open N Go.Proofs
section
variable {h : Hp} {K : AV → Hp → Prop}
theorem c220 {n : Int} (hn : -9223372036854775808 ≤ n ∧ n ≤ 9223372036854775807) : CallWp E2 220 [.int .i64 n] h K ↔ K (.str (Lib.itoa n)) h := by
  rw [CallWp.prim_iff (p := L.p220) rfl rfl]
  have : L.p220 [.int .i64 n] h = some (.str (Lib.itoa n), h) := if_pos hn
  rw [this]; exact Iff.rfl
theorem c17 : CallWp E2 17 [] h K ↔ K (.bool true) h := by
  rw [CallWp.prim_iff (p := fun args h => match pAwake args with | some v => some (v, h) | none => none) rfl rfl]; exact Iff.rfl
theorem c186 {n k : Nat} (hn : n ≤ 9223372036854775807) (hk : k ≤ 1000) : CallWp E2 186 [.int .i64 n, .int .i64 k] h K ↔ K (.str (decP n k)) h := by
  refine CallWp.iff_of (CallWp.fn (fn := C.a186) rfl rfl rfl ?_)
  have hlen : (decP n k).length ≤ 19 + k := decP_len 19 (by omega)
  unfold C.a186
  simp (disch := first | assumption | omega | (simp only [List.length_cons, List.length_nil, List.length_append, List.length_map, List.length_take, List.length_drop, List.length_replicate]; omega)) only [not_true_eq_false, not_false_eq_true, decide_true, decide_false, ↓reduceIte, Nat.reduceEqDiff, Nat.reduceAdd, Nat.reduceBEq, Wp.seq_iff, Wp.block_iff, Wp.skip_iff, Wp.ret_iff, Wp.exit_iff, Wp.cond_iff, Wp.nil_iff, Wp.op_iff, Wp.grd_iff, Wp.dreg_iff, Wp.dnil_iff, Wp.dop_iff, Wp.dgrd_iff, After, InBlock, Round, Then, DThen, DOp.some_iff, noted_n, noted_s, NoteK.ptr, List.all_nil, List.all_cons, fresh_eq, val_k, val_set, val_nil, put_some, put_none, enter_nil, enter_cons, List.map_cons, List.map_nil, Option.map_some, Option.map_none, resA_tmp, res0, res1, res2, res3, RetQ.ret, RetQ.nrm, ResK.iff, wanted_k, WantK.tt, WantK.tf, WantK.ft, WantK.ff, WantK.und, GrdK.t, GrdK.f, DGrd.t, DGrd.f, CondK.t, CondK.f, decide_nn, Bool.not_true, Bool.not_false, Bool.not_not, w_mv, PickK.t, PickK.f, w_pick, w_alloc, w_bin, w_un, cviA_int, w_cvi, cvsA_str, w_cvs, w_mkI, w_mkF, w_sls, slsK_lo, slsK_hi, slsK_lh, w_idxs, idxK_str, w_len, lenK_str, lenK_sl, lenK_nils, lenK_arr, w_ext, extK_0, extK_1, extK_2, w_fld, fldK_0, fldK_1, fldK_2, fldK_3, fldK_4, w_fadr, fadrK_ptr, w_iadr, iadrK_sl, w_iadrA, iadrAK_ptr, w_load, w_storeK, Some1.iff, Some2.iff, b_add, b_sub, b_mul, b_quoP, b_remP, b_eql, b_neq, b_lss, b_leq, b_gtr, b_geq, b_sadd, b_seql, b_sneq, b_inil, u_not, u_neg, wrap_i64, wrap_u64, wrap_u8, wrap_i32, w_mx2, w_mn2, max2A_int, min2A_int, cells_int, cells_bool, cells_str, cells_ptr, cells_sl, cells_nils, cells_fn, cells_agg, one_int, one_bool, one_str, one_ptr, one_sl, one_nils, one_fn, OpWp.callF_iff, OpWp.callV_iff, CallVK.fn, OpWp.inv_iff, CondK.posN, PickK.posN, WantK.posN_t, WantK.posN_f, CondK.pos, CondK.neg, PickK.pos, PickK.neg, WantK.pos_t, WantK.neg_t, WantK.pos_f, WantK.neg_f]
  refine Wp.loopI (fun m s => ∃ (n' : Nat) (l : List UInt8), val s.tm (.t 0) = .int .i64 n' ∧ val s.tm (.t 1) = .int .i64 k ∧ val s.tm (.t 5) = .str l ∧ s.hp = h ∧ n' ≤ n ∧ decP n' (k - l.length) ++ l = decP n k ∧ m = n' + (k - l.length)) (n := n + k) ?_ ?_
  · exact ⟨n, [], by simp (disch := first | assumption | omega | (simp only [List.length_cons, List.length_nil, List.length_append, List.length_map, List.length_take, List.length_drop, List.length_replicate]; omega)) only [not_true_eq_false, not_false_eq_true, decide_true, decide_false, ↓reduceIte, Nat.reduceEqDiff, Nat.reduceAdd, Nat.reduceBEq, Wp.seq_iff, Wp.block_iff, Wp.skip_iff, Wp.ret_iff, Wp.exit_iff, Wp.cond_iff, Wp.nil_iff, Wp.op_iff, Wp.grd_iff, Wp.dreg_iff, Wp.dnil_iff, Wp.dop_iff, Wp.dgrd_iff, After, InBlock, Round, Then, DThen, DOp.some_iff, noted_n, noted_s, NoteK.ptr, List.all_nil, List.all_cons, fresh_eq, val_k, val_set, val_nil, put_some, put_none, enter_nil, enter_cons, List.map_cons, List.map_nil, Option.map_some, Option.map_none, resA_tmp, res0, res1, res2, res3, RetQ.ret, RetQ.nrm, ResK.iff, wanted_k, WantK.tt, WantK.tf, WantK.ft, WantK.ff, WantK.und, GrdK.t, GrdK.f, DGrd.t, DGrd.f, CondK.t, CondK.f, decide_nn, Bool.not_true, Bool.not_false, Bool.not_not, w_mv, PickK.t, PickK.f, w_pick, w_alloc, w_bin, w_un, cviA_int, w_cvi, cvsA_str, w_cvs, w_mkI, w_mkF, w_sls, slsK_lo, slsK_hi, slsK_lh, w_idxs, idxK_str, w_len, lenK_str, lenK_sl, lenK_nils, lenK_arr, w_ext, extK_0, extK_1, extK_2, w_fld, fldK_0, fldK_1, fldK_2, fldK_3, fldK_4, w_fadr, fadrK_ptr, w_iadr, iadrK_sl, w_iadrA, iadrAK_ptr, w_load, w_storeK, Some1.iff, Some2.iff, b_add, b_sub, b_mul, b_quoP, b_remP, b_eql, b_neq, b_lss, b_leq, b_gtr, b_geq, b_sadd, b_seql, b_sneq, b_inil, u_not, u_neg, wrap_i64, wrap_u64, wrap_u8, wrap_i32, w_mx2, w_mn2, max2A_int, min2A_int, cells_int, cells_bool, cells_str, cells_ptr, cells_sl, cells_nils, cells_fn, cells_agg, one_int, one_bool, one_str, one_ptr, one_sl, one_nils, one_fn, OpWp.callF_iff, OpWp.callV_iff, CallVK.fn, OpWp.inv_iff, CondK.posN, PickK.posN, WantK.posN_t, WantK.posN_f, CondK.pos, CondK.neg, PickK.pos, PickK.neg, WantK.pos_t, WantK.neg_t, WantK.pos_f, WantK.neg_f], by simp (disch := first | assumption | omega | (simp only [List.length_cons, List.length_nil, List.length_append, List.length_map, List.length_take, List.length_drop, List.length_replicate]; omega)) only [not_true_eq_false, not_false_eq_true, decide_true, decide_false, ↓reduceIte, Nat.reduceEqDiff, Nat.reduceAdd, Nat.reduceBEq, Wp.seq_iff, Wp.block_iff, Wp.skip_iff, Wp.ret_iff, Wp.exit_iff, Wp.cond_iff, Wp.nil_iff, Wp.op_iff, Wp.grd_iff, Wp.dreg_iff, Wp.dnil_iff, Wp.dop_iff, Wp.dgrd_iff, After, InBlock, Round, Then, DThen, DOp.some_iff, noted_n, noted_s, NoteK.ptr, List.all_nil, List.all_cons, fresh_eq, val_k, val_set, val_nil, put_some, put_none, enter_nil, enter_cons, List.map_cons, List.map_nil, Option.map_some, Option.map_none, resA_tmp, res0, res1, res2, res3, RetQ.ret, RetQ.nrm, ResK.iff, wanted_k, WantK.tt, WantK.tf, WantK.ft, WantK.ff, WantK.und, GrdK.t, GrdK.f, DGrd.t, DGrd.f, CondK.t, CondK.f, decide_nn, Bool.not_true, Bool.not_false, Bool.not_not, w_mv, PickK.t, PickK.f, w_pick, w_alloc, w_bin, w_un, cviA_int, w_cvi, cvsA_str, w_cvs, w_mkI, w_mkF, w_sls, slsK_lo, slsK_hi, slsK_lh, w_idxs, idxK_str, w_len, lenK_str, lenK_sl, lenK_nils, lenK_arr, w_ext, extK_0, extK_1, extK_2, w_fld, fldK_0, fldK_1, fldK_2, fldK_3, fldK_4, w_fadr, fadrK_ptr, w_iadr, iadrK_sl, w_iadrA, iadrAK_ptr, w_load, w_storeK, Some1.iff, Some2.iff, b_add, b_sub, b_mul, b_quoP, b_remP, b_eql, b_neq, b_lss, b_leq, b_gtr, b_geq, b_sadd, b_seql, b_sneq, b_inil, u_not, u_neg, wrap_i64, wrap_u64, wrap_u8, wrap_i32, w_mx2, w_mn2, max2A_int, min2A_int, cells_int, cells_bool, cells_str, cells_ptr, cells_sl, cells_nils, cells_fn, cells_agg, one_int, one_bool, one_str, one_ptr, one_sl, one_nils, one_fn, OpWp.callF_iff, OpWp.callV_iff, CallVK.fn, OpWp.inv_iff, CondK.posN, PickK.posN, WantK.posN_t, WantK.posN_f, CondK.pos, CondK.neg, PickK.pos, PickK.neg, WantK.pos_t, WantK.neg_t, WantK.pos_f, WantK.neg_f], by simp (disch := first | assumption | omega | (simp only [List.length_cons, List.length_nil, List.length_append, List.length_map, List.length_take, List.length_drop, List.length_replicate]; omega)) only [not_true_eq_false, not_false_eq_true, decide_true, decide_false, ↓reduceIte, Nat.reduceEqDiff, Nat.reduceAdd, Nat.reduceBEq, Wp.seq_iff, Wp.block_iff, Wp.skip_iff, Wp.ret_iff, Wp.exit_iff, Wp.cond_iff, Wp.nil_iff, Wp.op_iff, Wp.grd_iff, Wp.dreg_iff, Wp.dnil_iff, Wp.dop_iff, Wp.dgrd_iff, After, InBlock, Round, Then, DThen, DOp.some_iff, noted_n, noted_s, NoteK.ptr, List.all_nil, List.all_cons, fresh_eq, val_k, val_set, val_nil, put_some, put_none, enter_nil, enter_cons, List.map_cons, List.map_nil, Option.map_some, Option.map_none, resA_tmp, res0, res1, res2, res3, RetQ.ret, RetQ.nrm, ResK.iff, wanted_k, WantK.tt, WantK.tf, WantK.ft, WantK.ff, WantK.und, GrdK.t, GrdK.f, DGrd.t, DGrd.f, CondK.t, CondK.f, decide_nn, Bool.not_true, Bool.not_false, Bool.not_not, w_mv, PickK.t, PickK.f, w_pick, w_alloc, w_bin, w_un, cviA_int, w_cvi, cvsA_str, w_cvs, w_mkI, w_mkF, w_sls, slsK_lo, slsK_hi, slsK_lh, w_idxs, idxK_str, w_len, lenK_str, lenK_sl, lenK_nils, lenK_arr, w_ext, extK_0, extK_1, extK_2, w_fld, fldK_0, fldK_1, fldK_2, fldK_3, fldK_4, w_fadr, fadrK_ptr, w_iadr, iadrK_sl, w_iadrA, iadrAK_ptr, w_load, w_storeK, Some1.iff, Some2.iff, b_add, b_sub, b_mul, b_quoP, b_remP, b_eql, b_neq, b_lss, b_leq, b_gtr, b_geq, b_sadd, b_seql, b_sneq, b_inil, u_not, u_neg, wrap_i64, wrap_u64, wrap_u8, wrap_i32, w_mx2, w_mn2, max2A_int, min2A_int, cells_int, cells_bool, cells_str, cells_ptr, cells_sl, cells_nils, cells_fn, cells_agg, one_int, one_bool, one_str, one_ptr, one_sl, one_nils, one_fn, OpWp.callF_iff, OpWp.callV_iff, CallVK.fn, OpWp.inv_iff, CondK.posN, PickK.posN, WantK.posN_t, WantK.posN_f, CondK.pos, CondK.neg, PickK.pos, PickK.neg, WantK.pos_t, WantK.neg_t, WantK.pos_f, WantK.neg_f], rfl, Nat.le_refl _, by simp, by simp⟩
  · rintro m ⟨tm, hp⟩ ⟨n', l, h0, h1, h5, rfl, hle, heq, rfl⟩
    simp only at h0 h1 h5
    have hl : l.length ≤ (decP n k).length := by rw [← heq, List.length_append]; omega
    have hs : List.drop ((n' : Int) % 10).toNat (List.take ((n' : Int) % 10 + 1).toNat [48, 49, 50, 51, 52, 53, 54, 55, 56, 57]) = [dg n'] := by
      rw [show ((n' : Int) % 10).toNat = n' % 10 by omega, show ((n' : Int) % 10 + 1).toNat = n' % 10 + 1 by omega]; exact dg_slice
    have hdiv : (n' : Int) / 10 = (n' / 10 : Nat) := by omega
    have hbad : ¬ (n' = 0 ∧ k - l.length = 0) → decP (n' / 10) (k - (dg n' :: l).length) ++ dg n' :: l = decP n k := fun hne => by
      rw [← heq, decP_step hne, List.append_assoc, List.length_cons, Nat.sub_sub]; rfl
    repeat' (with_reducible first | simp (disch := first | assumption | omega | (simp only [List.length_cons, List.length_nil, List.length_append, List.length_map, List.length_take, List.length_drop, List.length_replicate]; omega)) only [not_true_eq_false, not_false_eq_true, decide_true, decide_false, ↓reduceIte, Nat.reduceEqDiff, Nat.reduceAdd, Nat.reduceBEq, Wp.seq_iff, Wp.block_iff, Wp.skip_iff, Wp.ret_iff, Wp.exit_iff, Wp.cond_iff, Wp.nil_iff, Wp.op_iff, Wp.grd_iff, Wp.dreg_iff, Wp.dnil_iff, Wp.dop_iff, Wp.dgrd_iff, After, InBlock, Round, Then, DThen, DOp.some_iff, noted_n, noted_s, NoteK.ptr, List.all_nil, List.all_cons, fresh_eq, val_k, val_set, val_nil, put_some, put_none, enter_nil, enter_cons, List.map_cons, List.map_nil, Option.map_some, Option.map_none, resA_tmp, res0, res1, res2, res3, RetQ.ret, RetQ.nrm, ResK.iff, wanted_k, WantK.tt, WantK.tf, WantK.ft, WantK.ff, WantK.und, GrdK.t, GrdK.f, DGrd.t, DGrd.f, CondK.t, CondK.f, decide_nn, Bool.not_true, Bool.not_false, Bool.not_not, w_mv, PickK.t, PickK.f, w_pick, w_alloc, w_bin, w_un, cviA_int, w_cvi, cvsA_str, w_cvs, w_mkI, w_mkF, w_sls, slsK_lo, slsK_hi, slsK_lh, w_idxs, idxK_str, w_len, lenK_str, lenK_sl, lenK_nils, lenK_arr, w_ext, extK_0, extK_1, extK_2, w_fld, fldK_0, fldK_1, fldK_2, fldK_3, fldK_4, w_fadr, fadrK_ptr, w_iadr, iadrK_sl, w_iadrA, iadrAK_ptr, w_load, w_storeK, Some1.iff, Some2.iff, b_add, b_sub, b_mul, b_quoP, b_remP, b_eql, b_neq, b_lss, b_leq, b_gtr, b_geq, b_sadd, b_seql, b_sneq, b_inil, u_not, u_neg, wrap_i64, wrap_u64, wrap_u8, wrap_i32, w_mx2, w_mn2, max2A_int, min2A_int, cells_int, cells_bool, cells_str, cells_ptr, cells_sl, cells_nils, cells_fn, cells_agg, one_int, one_bool, one_str, one_ptr, one_sl, one_nils, one_fn, OpWp.callF_iff, OpWp.callV_iff, CallVK.fn, OpWp.inv_iff, CondK.posN, PickK.posN, WantK.posN_t, WantK.posN_f, CondK.pos, CondK.neg, PickK.pos, PickK.neg, WantK.pos_t, WantK.neg_t, WantK.pos_f, WantK.neg_f, h0, h1, h5, hs, List.cons_append, List.nil_append] | refine CondK.decN (fun hc => ?_) (fun hc => ?_) | refine GrdK.decN (fun hc => ?_) (fun hc => ?_) | refine PickK.decN (fun hc => ?_) (fun hc => ?_) | refine CondK.dec (fun hc => ?_) (fun hc => ?_) | refine GrdK.dec (fun hc => ?_) (fun hc => ?_) | refine PickK.dec (fun hc => ?_) (fun hc => ?_))
    · refine ⟨_, ?_, n' / 10, dg n' :: l, ?_, ?_, ?_, trivial, ?_, hbad (by omega), rfl⟩
      · simp only [List.length_cons]; omega
      · rw [hdiv]
      · first | exact h1 | trivial
      · trivial
      · omega
    · refine ⟨_, ?_, n' / 10, dg n' :: l, ?_, ?_, ?_, trivial, ?_, hbad (by omega), rfl⟩
      · simp only [List.length_cons]; omega
      · rw [hdiv]
      · first | exact h1 | trivial
      · trivial
      · omega
    · rw [← heq, show n' = 0 by omega, show k - l.length = 0 by omega, decP_zero]
      exact ⟨rfl, trivial⟩
theorem decP_b {n k : Nat} (hn : n ≤ 9223372036854775807) (hk : k ≤ 10) : (decP n k).length ≤ 29 := by
  have := decP_len 19 (n := n) (k := k) (by omega); omega
/-! What the statement compares. -/
theorem c45 {s w e b : Int} : CallWp E2 45 [.int .i64 s, .int .i64 e, .int .i64 b, .int .i64 w] h K ↔ K (.bool (if b = 0 then decide (e = 0 ∧ s = w) else decide (s = 0 ∧ e = b))) h := by
  refine CallWp.iff_of (CallWp.fn (fn := C.a45) rfl rfl rfl ?_)
  unfold C.a45
  repeat' (with_reducible first | simp (disch := first | assumption | omega | (simp only [List.length_cons, List.length_nil, List.length_append, List.length_map, List.length_take, List.length_drop, List.length_replicate]; omega)) only [not_true_eq_false, not_false_eq_true, decide_true, decide_false, ↓reduceIte, Nat.reduceEqDiff, Nat.reduceAdd, Nat.reduceBEq, Wp.seq_iff, Wp.block_iff, Wp.skip_iff, Wp.ret_iff, Wp.exit_iff, Wp.cond_iff, Wp.nil_iff, Wp.op_iff, Wp.grd_iff, Wp.dreg_iff, Wp.dnil_iff, Wp.dop_iff, Wp.dgrd_iff, After, InBlock, Round, Then, DThen, DOp.some_iff, noted_n, noted_s, NoteK.ptr, List.all_nil, List.all_cons, fresh_eq, val_k, val_set, val_nil, put_some, put_none, enter_nil, enter_cons, List.map_cons, List.map_nil, Option.map_some, Option.map_none, resA_tmp, res0, res1, res2, res3, RetQ.ret, RetQ.nrm, ResK.iff, wanted_k, WantK.tt, WantK.tf, WantK.ft, WantK.ff, WantK.und, GrdK.t, GrdK.f, DGrd.t, DGrd.f, CondK.t, CondK.f, decide_nn, Bool.not_true, Bool.not_false, Bool.not_not, w_mv, PickK.t, PickK.f, w_pick, w_alloc, w_bin, w_un, cviA_int, w_cvi, cvsA_str, w_cvs, w_mkI, w_mkF, w_sls, slsK_lo, slsK_hi, slsK_lh, w_idxs, idxK_str, w_len, lenK_str, lenK_sl, lenK_nils, lenK_arr, w_ext, extK_0, extK_1, extK_2, w_fld, fldK_0, fldK_1, fldK_2, fldK_3, fldK_4, w_fadr, fadrK_ptr, w_iadr, iadrK_sl, w_iadrA, iadrAK_ptr, w_load, w_storeK, Some1.iff, Some2.iff, b_add, b_sub, b_mul, b_quoP, b_remP, b_eql, b_neq, b_lss, b_leq, b_gtr, b_geq, b_sadd, b_seql, b_sneq, b_inil, u_not, u_neg, wrap_i64, wrap_u64, wrap_u8, wrap_i32, w_mx2, w_mn2, max2A_int, min2A_int, cells_int, cells_bool, cells_str, cells_ptr, cells_sl, cells_nils, cells_fn, cells_agg, one_int, one_bool, one_str, one_ptr, one_sl, one_nils, one_fn, OpWp.callF_iff, OpWp.callV_iff, CallVK.fn, OpWp.inv_iff, CondK.posN, PickK.posN, WantK.posN_t, WantK.posN_f, CondK.pos, CondK.neg, PickK.pos, PickK.neg, WantK.pos_t, WantK.neg_t, WantK.pos_f, WantK.neg_f] | refine CondK.decN (fun hc => ?_) (fun hc => ?_) | refine GrdK.decN (fun hc => ?_) (fun hc => ?_) | refine PickK.decN (fun hc => ?_) (fun hc => ?_) | refine CondK.dec (fun hc => ?_) (fun hc => ?_) | refine GrdK.dec (fun hc => ?_) (fun hc => ?_) | refine PickK.dec (fun hc => ?_) (fun hc => ?_))
  all_goals simp_all
/-! The reference's readers of numbers. -/
end
end Go.Ae


/- Small whole numbers of the program's own arithmetic. -/
set_option linter.unusedVariables false
set_option linter.unusedSimpArgs false
set_option maxRecDepth 100000
namespace Go.Ae
open Go.Proofs
/-- The number of binary digits. -/
def bitLen (n : Nat) : Nat := if n = 0 then 0 else Nat.log2 n + 1
theorem bitLen_shift {n k : Nat} (h : 2 ^ k ≤ n) : bitLen n = k + bitLen (n / 2 ^ k) := by
  have hp : 0 < 2 ^ k := Nat.pow_pos (by decide)
  have h1 : n ≠ 0 := by omega
  have h2 : n / 2 ^ k ≠ 0 := by
    have := Nat.div_pos h hp; omega
  unfold bitLen
  rw [if_neg h1, if_neg h2]
  have : Nat.log2 n = k + Nat.log2 (n / 2 ^ k) := by
    have e1 := (Nat.le_log2 h2 (k := Nat.log2 (n / 2 ^ k))).1 (Nat.le_refl _)
    have e2 := Nat.lt_log2_self (n := n / 2 ^ k)
    have e3 : 2 ^ (k + Nat.log2 (n / 2 ^ k)) ≤ n := by
      rw [Nat.pow_add, Nat.mul_comm]; exact (Nat.le_div_iff_mul_le hp).1 e1
    have e4 : n < 2 ^ (k + Nat.log2 (n / 2 ^ k) + 1) := by
      rw [Nat.add_assoc, Nat.pow_add, Nat.mul_comm]; exact (Nat.div_lt_iff_lt_mul hp).1 e2
    have e5 := (Nat.le_log2 h1).2 e3
    have e6 := (Nat.log2_lt h1).2 e4
    omega
  omega
theorem bitLen_lt {n k : Nat} (h : n < 2 ^ k) : bitLen n ≤ k := by
  unfold bitLen
  split
  · omega
  · have := (Nat.log2_lt ‹_›).2 h; omega
theorem bitLen_le {n k : Nat} (h : bitLen n ≤ k) : n < 2 ^ k := by
  unfold bitLen at h
  split at h
  · have : 0 < 2 ^ k := Nat.pow_pos (by decide); omega
  · exact (Nat.log2_lt ‹_›).1 (by omega)
section
variable {h : Hp} {K : AV → Hp → Prop}
/-- A machine integer of num. -/
abbrev sI (n : Int) : AV := .agg [.int .i64 n, .nils]
theorem b_shr {q : EqK} {k k' : IntKind} {m n : Int} (hn : 0 ≤ n) : binA .shr q (.int k m) (.int k' n) = some (.int k (m.fdiv (2 ^ min n.toNat k.bits))) := by
  simp only [binA, intA]; rw [if_neg (by omega)]
theorem b_shrL {q : EqK} {k k' : IntKind} {m n : Nat} (hn : n ≤ k.bits) : binA .shr q (.int k m) (.int k' n) = some (.int k ((m / 2 ^ n : Nat) : Int)) := by
  rw [b_shr (by omega), Int.toNat_natCast, Nat.min_eq_left hn]
  congr 2
  rw [show ((2 : Int) ^ n) = ((2 ^ n : Nat) : Int) by rw [Int.natCast_pow]; rfl, Int.fdiv_eq_ediv_of_nonneg _ (Int.natCast_nonneg _)]
  exact (Int.natCast_ediv m (2 ^ n)).symm
theorem wrap_min0 : IntKind.wrap .i64 9223372036854775808 = -9223372036854775808 := by decide
theorem wrap_min : IntKind.wrap .i64 (- -9223372036854775808) = -9223372036854775808 := by decide
theorem wrap_min' : IntKind.wrap .u64 (-9223372036854775808) = 9223372036854775808 := by decide
theorem c262 {n : Int} (hn : -9223372036854775808 ≤ n ∧ n ≤ 9223372036854775807) : CallWp E2 262 [.int .i64 n] h K ↔ K (.int .u64 (n.natAbs : Int)) h := by
  refine CallWp.iff_of (CallWp.fn (fn := C.a262) rfl rfl rfl ?_)
  unfold C.a262
  by_cases h1 : n = -9223372036854775808
  · subst h1
    repeat' (with_reducible first | simp (disch := first | assumption | omega | (simp only [Hp.next_push, Hp.next_put, Hp.ov_next, Hp.clk_push, Hp.clk_put, Hp.ov_clk, List.length_cons, List.length_nil, List.length_append, List.length_map, List.length_take, List.length_drop, List.length_replicate, List.length_set, ne_eq, cells_int, cells_bool, cells_str, cells_ptr, cells_sl, cells_nils, cells_agg, one_int, one_bool, one_str, one_ptr, one_sl, one_nils, List.all_cons, List.all_nil, Bool.and_true, Bool.and_self, and_true, true_and, Nat.reduceAdd, Nat.reduceLeDiff] <;> omega) | fail) only [go_sem, ↓reduceIte, Nat.reduceEqDiff, Nat.reduceAdd, Nat.reduceBEq, Nat.reduceLeDiff, Nat.reduceMul, Nat.reduceLT, Nat.zero_add, Nat.add_zero, List.length_cons, List.length_nil, List.all_cons, List.all_nil, Bool.and_true, Bool.and_self, and_true, true_and, List.take_zero, List.take_succ_cons, List.take_nil, List.drop_zero, List.drop_succ_cons, List.drop_nil, List.nil_append, List.cons_append, List.getElem?_cons_zero, List.getElem?_cons_succ, Bool.false_eq_true, Int.toNat_zero, Int.reduceToNat, Int.toNat_natCast, reduceCtorEq, Int.reduceAdd, Int.reduceSub, Int.reduceMul, Int.reduceNeg, Int.reduceLT, Int.reduceLE, Int.reduceEq, Int.zero_add, Int.add_zero, AV.ptr.injEq, exists_eq_left, exists_eq_left', wrap_min, wrap_min0, wrap_min'] | refine CondK.decN (fun hc => ?_) (fun hc => ?_) | refine GrdK.decN (fun hc => ?_) (fun hc => ?_) | refine PickK.decN (fun hc => ?_) (fun hc => ?_) | refine CondK.dec (fun hc => ?_) (fun hc => ?_) | refine GrdK.dec (fun hc => ?_) (fun hc => ?_) | refine DGrd.dec (fun hc => ?_) (fun hc => ?_) | refine PickK.dec (fun hc => ?_) (fun hc => ?_))
    first | done | simp
  · have e1 : n < 0 → -n = (n.natAbs : Int) := by omega
    have e2 : ¬ n < 0 → n = (n.natAbs : Int) := by omega
    repeat' (with_reducible first | simp (disch := first | assumption | omega | (simp only [Hp.next_push, Hp.next_put, Hp.ov_next, Hp.clk_push, Hp.clk_put, Hp.ov_clk, List.length_cons, List.length_nil, List.length_append, List.length_map, List.length_take, List.length_drop, List.length_replicate, List.length_set, ne_eq, cells_int, cells_bool, cells_str, cells_ptr, cells_sl, cells_nils, cells_agg, one_int, one_bool, one_str, one_ptr, one_sl, one_nils, List.all_cons, List.all_nil, Bool.and_true, Bool.and_self, and_true, true_and, Nat.reduceAdd, Nat.reduceLeDiff] <;> omega) | fail) only [go_sem, ↓reduceIte, Nat.reduceEqDiff, Nat.reduceAdd, Nat.reduceBEq, Nat.reduceLeDiff, Nat.reduceMul, Nat.reduceLT, Nat.zero_add, Nat.add_zero, List.length_cons, List.length_nil, List.all_cons, List.all_nil, Bool.and_true, Bool.and_self, and_true, true_and, List.take_zero, List.take_succ_cons, List.take_nil, List.drop_zero, List.drop_succ_cons, List.drop_nil, List.nil_append, List.cons_append, List.getElem?_cons_zero, List.getElem?_cons_succ, Bool.false_eq_true, Int.toNat_zero, Int.reduceToNat, Int.toNat_natCast, reduceCtorEq, Int.reduceAdd, Int.reduceSub, Int.reduceMul, Int.reduceNeg, Int.reduceLT, Int.reduceLE, Int.reduceEq, Int.zero_add, Int.add_zero, AV.ptr.injEq, exists_eq_left, exists_eq_left'] | refine CondK.decN (fun hc => ?_) (fun hc => ?_) | refine GrdK.decN (fun hc => ?_) (fun hc => ?_) | refine PickK.decN (fun hc => ?_) (fun hc => ?_) | refine CondK.dec (fun hc => ?_) (fun hc => ?_) | refine GrdK.dec (fun hc => ?_) (fun hc => ?_) | refine DGrd.dec (fun hc => ?_) (fun hc => ?_) | refine PickK.dec (fun hc => ?_) (fun hc => ?_))
    · rw [e1 hc]
    · rw [← e2 hc]
theorem c254 {n : Int} : Gv E2 254 [sI n] h (.tup [.int .i64 n, .bool true]) := by
  refine Gv.of (CallWp.fn (fn := C.a254) rfl rfl rfl ?_)
  unfold C.a254
  repeat' (with_reducible first | simp (disch := first | assumption | omega | (simp only [Hp.next_push, Hp.next_put, Hp.ov_next, Hp.clk_push, Hp.clk_put, Hp.ov_clk, List.length_cons, List.length_nil, List.length_append, List.length_map, List.length_take, List.length_drop, List.length_replicate, List.length_set, ne_eq, cells_int, cells_bool, cells_str, cells_ptr, cells_sl, cells_nils, cells_agg, one_int, one_bool, one_str, one_ptr, one_sl, one_nils, List.all_cons, List.all_nil, Bool.and_true, Bool.and_self, and_true, true_and, Nat.reduceAdd, Nat.reduceLeDiff] <;> omega) | fail) only [go_sem, ↓reduceIte, Nat.reduceEqDiff, Nat.reduceAdd, Nat.reduceBEq, Nat.reduceLeDiff, Nat.reduceMul, Nat.reduceLT, Nat.zero_add, Nat.add_zero, List.length_cons, List.length_nil, List.all_cons, List.all_nil, Bool.and_true, Bool.and_self, and_true, true_and, List.take_zero, List.take_succ_cons, List.take_nil, List.drop_zero, List.drop_succ_cons, List.drop_nil, List.nil_append, List.cons_append, List.getElem?_cons_zero, List.getElem?_cons_succ, Bool.false_eq_true, Int.toNat_zero, Int.reduceToNat, Int.toNat_natCast, reduceCtorEq, Int.reduceAdd, Int.reduceSub, Int.reduceMul, Int.reduceNeg, Int.reduceLT, Int.reduceLE, Int.reduceEq, Int.zero_add, Int.add_zero, AV.ptr.injEq, exists_eq_left, exists_eq_left'] | refine CondK.decN (fun hc => ?_) (fun hc => ?_) | refine GrdK.decN (fun hc => ?_) (fun hc => ?_) | refine PickK.decN (fun hc => ?_) (fun hc => ?_) | refine CondK.dec (fun hc => ?_) (fun hc => ?_) | refine GrdK.dec (fun hc => ?_) (fun hc => ?_) | refine DGrd.dec (fun hc => ?_) (fun hc => ?_) | refine PickK.dec (fun hc => ?_) (fun hc => ?_))
  (try first | refine ⟨trivial, ?_⟩ | refine ⟨rfl, ?_⟩); (repeat (first | exact Grs.refl _ | assumption | refine Grs.push ?_ | refine Grs.ov ?_ | refine Grs.put ?_ (by (try simp only [Hp.next_push, Hp.next_put, Hp.ov_next, Hp.clk_push, Hp.clk_put, Hp.ov_clk]); omega)))
theorem c120 {n : Int} : Gv E2 120 [.int .i64 n] h (sI n) := by
  refine Gv.of (CallWp.fn (fn := C.a120) rfl rfl rfl ?_)
  unfold C.a120
  repeat' (with_reducible first | simp (disch := first | assumption | omega | (simp only [Hp.next_push, Hp.next_put, Hp.ov_next, Hp.clk_push, Hp.clk_put, Hp.ov_clk, List.length_cons, List.length_nil, List.length_append, List.length_map, List.length_take, List.length_drop, List.length_replicate, List.length_set, ne_eq, cells_int, cells_bool, cells_str, cells_ptr, cells_sl, cells_nils, cells_agg, one_int, one_bool, one_str, one_ptr, one_sl, one_nils, List.all_cons, List.all_nil, Bool.and_true, Bool.and_self, and_true, true_and, Nat.reduceAdd, Nat.reduceLeDiff] <;> omega) | fail) only [go_sem, ↓reduceIte, Nat.reduceEqDiff, Nat.reduceAdd, Nat.reduceBEq, Nat.reduceLeDiff, Nat.reduceMul, Nat.reduceLT, Nat.zero_add, Nat.add_zero, List.length_cons, List.length_nil, List.all_cons, List.all_nil, Bool.and_true, Bool.and_self, and_true, true_and, List.take_zero, List.take_succ_cons, List.take_nil, List.drop_zero, List.drop_succ_cons, List.drop_nil, List.nil_append, List.cons_append, List.getElem?_cons_zero, List.getElem?_cons_succ, Bool.false_eq_true, Int.toNat_zero, Int.reduceToNat, Int.toNat_natCast, reduceCtorEq, Int.reduceAdd, Int.reduceSub, Int.reduceMul, Int.reduceNeg, Int.reduceLT, Int.reduceLE, Int.reduceEq, Int.zero_add, Int.add_zero, AV.ptr.injEq, exists_eq_left, exists_eq_left'] | refine CondK.decN (fun hc => ?_) (fun hc => ?_) | refine GrdK.decN (fun hc => ?_) (fun hc => ?_) | refine PickK.decN (fun hc => ?_) (fun hc => ?_) | refine CondK.dec (fun hc => ?_) (fun hc => ?_) | refine GrdK.dec (fun hc => ?_) (fun hc => ?_) | refine DGrd.dec (fun hc => ?_) (fun hc => ?_) | refine PickK.dec (fun hc => ?_) (fun hc => ?_))
  (try first | refine ⟨trivial, ?_⟩ | refine ⟨rfl, ?_⟩); (repeat (first | exact Grs.refl _ | assumption | refine Grs.push ?_ | refine Grs.ov ?_ | refine Grs.put ?_ (by (try simp only [Hp.next_push, Hp.next_put, Hp.ov_next, Hp.clk_push, Hp.clk_put, Hp.ov_clk]); omega)))
theorem c194 {n : Int} : Gv E2 194 [sI n] h (.int .i64 (max (-1) (min 1 n))) := by
  refine Gv.of (CallWp.fn (fn := C.a194) rfl rfl rfl ?_)
  unfold C.a194
  repeat' (with_reducible first | simp (disch := first | assumption | omega | (simp only [Hp.next_push, Hp.next_put, Hp.ov_next, Hp.clk_push, Hp.clk_put, Hp.ov_clk, List.length_cons, List.length_nil, List.length_append, List.length_map, List.length_take, List.length_drop, List.length_replicate, List.length_set, ne_eq, cells_int, cells_bool, cells_str, cells_ptr, cells_sl, cells_nils, cells_agg, one_int, one_bool, one_str, one_ptr, one_sl, one_nils, List.all_cons, List.all_nil, Bool.and_true, Bool.and_self, and_true, true_and, Nat.reduceAdd, Nat.reduceLeDiff] <;> omega) | fail) only [go_sem, ↓reduceIte, Nat.reduceEqDiff, Nat.reduceAdd, Nat.reduceBEq, Nat.reduceLeDiff, Nat.reduceMul, Nat.reduceLT, Nat.zero_add, Nat.add_zero, List.length_cons, List.length_nil, List.all_cons, List.all_nil, Bool.and_true, Bool.and_self, and_true, true_and, List.take_zero, List.take_succ_cons, List.take_nil, List.drop_zero, List.drop_succ_cons, List.drop_nil, List.nil_append, List.cons_append, List.getElem?_cons_zero, List.getElem?_cons_succ, Bool.false_eq_true, Int.toNat_zero, Int.reduceToNat, Int.toNat_natCast, reduceCtorEq, Int.reduceAdd, Int.reduceSub, Int.reduceMul, Int.reduceNeg, Int.reduceLT, Int.reduceLE, Int.reduceEq, Int.zero_add, Int.add_zero, AV.ptr.injEq, exists_eq_left, exists_eq_left'] | refine CondK.decN (fun hc => ?_) (fun hc => ?_) | refine GrdK.decN (fun hc => ?_) (fun hc => ?_) | refine PickK.decN (fun hc => ?_) (fun hc => ?_) | refine CondK.dec (fun hc => ?_) (fun hc => ?_) | refine GrdK.dec (fun hc => ?_) (fun hc => ?_) | refine DGrd.dec (fun hc => ?_) (fun hc => ?_) | refine PickK.dec (fun hc => ?_) (fun hc => ?_))
  (try first | refine ⟨trivial, ?_⟩ | refine ⟨rfl, ?_⟩); (repeat (first | exact Grs.refl _ | assumption | refine Grs.push ?_ | refine Grs.ov ?_ | refine Grs.put ?_ (by (try simp only [Hp.next_push, Hp.next_put, Hp.ov_next, Hp.clk_push, Hp.clk_put, Hp.ov_clk]); omega)))
theorem c183 {n : Int} : Gv E2 183 [sI n] h (.agg [.int .i64 n, .nils, .int .i64 1, .nils]) := by
  refine Gv.of (CallWp.fn (fn := C.a183) rfl rfl rfl ?_)
  unfold C.a183
  repeat' (with_reducible first | simp (disch := first | assumption | omega | (simp only [Hp.next_push, Hp.next_put, Hp.ov_next, Hp.clk_push, Hp.clk_put, Hp.ov_clk, List.length_cons, List.length_nil, List.length_append, List.length_map, List.length_take, List.length_drop, List.length_replicate, List.length_set, ne_eq, cells_int, cells_bool, cells_str, cells_ptr, cells_sl, cells_nils, cells_agg, one_int, one_bool, one_str, one_ptr, one_sl, one_nils, List.all_cons, List.all_nil, Bool.and_true, Bool.and_self, and_true, true_and, Nat.reduceAdd, Nat.reduceLeDiff] <;> omega) | fail) only [go_sem, ↓reduceIte, Nat.reduceEqDiff, Nat.reduceAdd, Nat.reduceBEq, Nat.reduceLeDiff, Nat.reduceMul, Nat.reduceLT, Nat.zero_add, Nat.add_zero, List.length_cons, List.length_nil, List.all_cons, List.all_nil, Bool.and_true, Bool.and_self, and_true, true_and, List.take_zero, List.take_succ_cons, List.take_nil, List.drop_zero, List.drop_succ_cons, List.drop_nil, List.nil_append, List.cons_append, List.getElem?_cons_zero, List.getElem?_cons_succ, Bool.false_eq_true, Int.toNat_zero, Int.reduceToNat, Int.toNat_natCast, reduceCtorEq, Int.reduceAdd, Int.reduceSub, Int.reduceMul, Int.reduceNeg, Int.reduceLT, Int.reduceLE, Int.reduceEq, Int.zero_add, Int.add_zero, AV.ptr.injEq, exists_eq_left, exists_eq_left'] | (refine Gv.wp (c120) fun _ _ _ _ => ?_) | refine CondK.decN (fun hc => ?_) (fun hc => ?_) | refine GrdK.decN (fun hc => ?_) (fun hc => ?_) | refine PickK.decN (fun hc => ?_) (fun hc => ?_) | refine CondK.dec (fun hc => ?_) (fun hc => ?_) | refine GrdK.dec (fun hc => ?_) (fun hc => ?_) | refine DGrd.dec (fun hc => ?_) (fun hc => ?_) | refine PickK.dec (fun hc => ?_) (fun hc => ?_))
  (try first | refine ⟨trivial, ?_⟩ | refine ⟨rfl, ?_⟩); (repeat (first | exact Grs.refl _ | assumption | refine Grs.push ?_ | refine Grs.ov ?_ | refine Grs.put ?_ (by (try simp only [Hp.next_push, Hp.next_put, Hp.ov_next, Hp.clk_push, Hp.clk_put, Hp.ov_clk]); omega)))
theorem c116 {n : Int} : Gv E2 116 [.int .i64 n] h (.agg [.int .i64 n, .nils, .int .i64 1, .nils]) := by
  refine Gv.of (CallWp.fn (fn := C.a116) rfl rfl rfl ?_)
  unfold C.a116
  repeat' (with_reducible first | simp (disch := first | assumption | omega | (simp only [Hp.next_push, Hp.next_put, Hp.ov_next, Hp.clk_push, Hp.clk_put, Hp.ov_clk, List.length_cons, List.length_nil, List.length_append, List.length_map, List.length_take, List.length_drop, List.length_replicate, List.length_set, ne_eq, cells_int, cells_bool, cells_str, cells_ptr, cells_sl, cells_nils, cells_agg, one_int, one_bool, one_str, one_ptr, one_sl, one_nils, List.all_cons, List.all_nil, Bool.and_true, Bool.and_self, and_true, true_and, Nat.reduceAdd, Nat.reduceLeDiff] <;> omega) | fail) only [go_sem, ↓reduceIte, Nat.reduceEqDiff, Nat.reduceAdd, Nat.reduceBEq, Nat.reduceLeDiff, Nat.reduceMul, Nat.reduceLT, Nat.zero_add, Nat.add_zero, List.length_cons, List.length_nil, List.all_cons, List.all_nil, Bool.and_true, Bool.and_self, and_true, true_and, List.take_zero, List.take_succ_cons, List.take_nil, List.drop_zero, List.drop_succ_cons, List.drop_nil, List.nil_append, List.cons_append, List.getElem?_cons_zero, List.getElem?_cons_succ, Bool.false_eq_true, Int.toNat_zero, Int.reduceToNat, Int.toNat_natCast, reduceCtorEq, Int.reduceAdd, Int.reduceSub, Int.reduceMul, Int.reduceNeg, Int.reduceLT, Int.reduceLE, Int.reduceEq, Int.zero_add, Int.add_zero, AV.ptr.injEq, exists_eq_left, exists_eq_left'] | (refine Gv.wp (c120) fun _ _ _ _ => ?_) | (refine Gv.wp (c183) fun _ _ _ _ => ?_) | refine CondK.decN (fun hc => ?_) (fun hc => ?_) | refine GrdK.decN (fun hc => ?_) (fun hc => ?_) | refine PickK.decN (fun hc => ?_) (fun hc => ?_) | refine CondK.dec (fun hc => ?_) (fun hc => ?_) | refine GrdK.dec (fun hc => ?_) (fun hc => ?_) | refine DGrd.dec (fun hc => ?_) (fun hc => ?_) | refine PickK.dec (fun hc => ?_) (fun hc => ?_))
  (try first | refine ⟨trivial, ?_⟩ | refine ⟨rfl, ?_⟩); (repeat (first | exact Grs.refl _ | assumption | refine Grs.push ?_ | refine Grs.ov ?_ | refine Grs.put ?_ (by (try simp only [Hp.next_push, Hp.next_put, Hp.ov_next, Hp.clk_push, Hp.clk_put, Hp.ov_clk]); omega)))
theorem c121 {a b : Int} (ha : -9223372036854775808 ≤ a + b ∧ a + b ≤ 9223372036854775807) : Gv E2 121 [sI a, sI b] h (sI (a + b)) := by
  refine Gv.of (CallWp.fn (fn := C.a121) rfl rfl rfl ?_)
  unfold C.a121
  have e : (decide (a < a + b) = decide (0 < b)) := by congr 1; rw [eq_iff_iff]; omega
  repeat' (with_reducible first | simp (disch := first | assumption | omega | (simp only [Hp.next_push, Hp.next_put, Hp.ov_next, Hp.clk_push, Hp.clk_put, Hp.ov_clk, List.length_cons, List.length_nil, List.length_append, List.length_map, List.length_take, List.length_drop, List.length_replicate, List.length_set, ne_eq, cells_int, cells_bool, cells_str, cells_ptr, cells_sl, cells_nils, cells_agg, one_int, one_bool, one_str, one_ptr, one_sl, one_nils, List.all_cons, List.all_nil, Bool.and_true, Bool.and_self, and_true, true_and, Nat.reduceAdd, Nat.reduceLeDiff] <;> omega) | fail) only [go_sem, ↓reduceIte, Nat.reduceEqDiff, Nat.reduceAdd, Nat.reduceBEq, Nat.reduceLeDiff, Nat.reduceMul, Nat.reduceLT, Nat.zero_add, Nat.add_zero, List.length_cons, List.length_nil, List.all_cons, List.all_nil, Bool.and_true, Bool.and_self, and_true, true_and, List.take_zero, List.take_succ_cons, List.take_nil, List.drop_zero, List.drop_succ_cons, List.drop_nil, List.nil_append, List.cons_append, List.getElem?_cons_zero, List.getElem?_cons_succ, Bool.false_eq_true, Int.toNat_zero, Int.reduceToNat, Int.toNat_natCast, reduceCtorEq, Int.reduceAdd, Int.reduceSub, Int.reduceMul, Int.reduceNeg, Int.reduceLT, Int.reduceLE, Int.reduceEq, Int.zero_add, Int.add_zero, AV.ptr.injEq, exists_eq_left, exists_eq_left', e] | refine CondK.decN (fun hc => ?_) (fun hc => ?_) | refine GrdK.decN (fun hc => ?_) (fun hc => ?_) | refine PickK.decN (fun hc => ?_) (fun hc => ?_) | refine CondK.dec (fun hc => ?_) (fun hc => ?_) | refine GrdK.dec (fun hc => ?_) (fun hc => ?_) | refine DGrd.dec (fun hc => ?_) (fun hc => ?_) | refine PickK.dec (fun hc => ?_) (fun hc => ?_))
  (try first | refine ⟨trivial, ?_⟩ | refine ⟨rfl, ?_⟩); (repeat (first | exact Grs.refl _ | assumption | refine Grs.push ?_ | refine Grs.ov ?_ | refine Grs.put ?_ (by (try simp only [Hp.next_push, Hp.next_put, Hp.ov_next, Hp.clk_push, Hp.clk_put, Hp.ov_clk]); omega)))
theorem c192 {a b : Int} : Gv E2 192 [sI a, sI b] h (.int .i64 (if a < b then -1 else if b < a then 1 else 0)) := by
  refine Gv.of (CallWp.fn (fn := C.a192) rfl rfl rfl ?_)
  unfold C.a192
  repeat' (with_reducible first | simp (disch := first | assumption | omega | (simp only [Hp.next_push, Hp.next_put, Hp.ov_next, Hp.clk_push, Hp.clk_put, Hp.ov_clk, List.length_cons, List.length_nil, List.length_append, List.length_map, List.length_take, List.length_drop, List.length_replicate, List.length_set, ne_eq, cells_int, cells_bool, cells_str, cells_ptr, cells_sl, cells_nils, cells_agg, one_int, one_bool, one_str, one_ptr, one_sl, one_nils, List.all_cons, List.all_nil, Bool.and_true, Bool.and_self, and_true, true_and, Nat.reduceAdd, Nat.reduceLeDiff] <;> omega) | fail) only [go_sem, ↓reduceIte, Nat.reduceEqDiff, Nat.reduceAdd, Nat.reduceBEq, Nat.reduceLeDiff, Nat.reduceMul, Nat.reduceLT, Nat.zero_add, Nat.add_zero, List.length_cons, List.length_nil, List.all_cons, List.all_nil, Bool.and_true, Bool.and_self, and_true, true_and, List.take_zero, List.take_succ_cons, List.take_nil, List.drop_zero, List.drop_succ_cons, List.drop_nil, List.nil_append, List.cons_append, List.getElem?_cons_zero, List.getElem?_cons_succ, Bool.false_eq_true, Int.toNat_zero, Int.reduceToNat, Int.toNat_natCast, reduceCtorEq, Int.reduceAdd, Int.reduceSub, Int.reduceMul, Int.reduceNeg, Int.reduceLT, Int.reduceLE, Int.reduceEq, Int.zero_add, Int.add_zero, AV.ptr.injEq, exists_eq_left, exists_eq_left'] | refine CondK.decN (fun hc => ?_) (fun hc => ?_) | refine GrdK.decN (fun hc => ?_) (fun hc => ?_) | refine PickK.decN (fun hc => ?_) (fun hc => ?_) | refine CondK.dec (fun hc => ?_) (fun hc => ?_) | refine GrdK.dec (fun hc => ?_) (fun hc => ?_) | refine DGrd.dec (fun hc => ?_) (fun hc => ?_) | refine PickK.dec (fun hc => ?_) (fun hc => ?_))
  all_goals first | rw [if_pos (by assumption)] | rw [if_neg (by assumption), if_pos (by assumption)] | rw [if_neg (by assumption), if_neg (by assumption)]
  all_goals (try first | refine ⟨trivial, ?_⟩ | refine ⟨rfl, ?_⟩); (repeat (first | exact Grs.refl _ | assumption | refine Grs.push ?_ | refine Grs.ov ?_ | refine Grs.put ?_ (by (try simp only [Hp.next_push, Hp.next_put, Hp.ov_next, Hp.clk_push, Hp.clk_put, Hp.ov_clk]); omega)))
theorem b_quo' {q : EqK} {k : IntKind} {m n : Int} (hn : ¬ n = 0) : binA .quo q (.int k m) (.int k n) = some (.int k (k.wrap (m.tdiv n))) := b_quo hn
theorem b_rem' {q : EqK} {k : IntKind} {m n : Int} (hn : ¬ n = 0) : binA .rem q (.int k m) (.int k n) = some (.int k (m.tmod n)) := b_rem hn
theorem tdiv_le {a b : Int} (ha : -9223372036854775808 < a ∧ a ≤ 9223372036854775807) (hb : 0 < b) : -9223372036854775807 ≤ a.tdiv b ∧ a.tdiv b ≤ 9223372036854775807 := by
  have h1 := Int.natAbs_tdiv_le_natAbs a b
  omega
theorem fdiv_lt {a b : Int} (hb : 0 < b) (hm : a.tmod b < 0) : a.fdiv b = a.tdiv b - 1 ∧ a.fmod b = a.tmod b + b := by
  have e1 := Int.tmod_add_mul_tdiv a b
  have e2 := Int.fmod_add_mul_fdiv a b
  have e3 := Int.fmod_nonneg_of_pos a hb
  have e4 := Int.fmod_lt_of_pos a hb
  have e5 : -b < a.tmod b := Int.lt_tmod_of_pos a hb
  have key : a.fdiv b = a.tdiv b - 1 := by
    have h1 : b * (a.tdiv b - 1) + (a.tmod b + b) = a := by rw [Int.mul_sub]; omega
    have h2 : b * (a.tdiv b - 1 - a.fdiv b) = a.fmod b - (a.tmod b + b) := by rw [Int.mul_sub]; omega
    rcases Int.lt_trichotomy (a.tdiv b - 1 - a.fdiv b) 0 with h | h | h
    · have := Int.mul_le_mul_of_nonneg_left (show a.tdiv b - 1 - a.fdiv b ≤ -1 by omega) (show 0 ≤ b by omega); omega
    · omega
    · have := Int.mul_le_mul_of_nonneg_left (show 1 ≤ a.tdiv b - 1 - a.fdiv b by omega) (show 0 ≤ b by omega); omega
  refine ⟨key, ?_⟩
  rw [key, Int.mul_sub] at e2; omega
theorem fdiv_ge {a b : Int} (hb : 0 < b) (hm : ¬ a.tmod b < 0) : a.fdiv b = a.tdiv b ∧ a.fmod b = a.tmod b := by
  have e1 := Int.tmod_add_mul_tdiv a b
  have e2 := Int.fmod_add_mul_fdiv a b
  have e3 := Int.fmod_nonneg_of_pos a hb
  have e4 := Int.fmod_lt_of_pos a hb
  have e5 : a.tmod b < b := Int.tmod_lt_of_pos a hb
  have key : a.fdiv b = a.tdiv b := by
    have h2 : b * (a.tdiv b - a.fdiv b) = a.fmod b - a.tmod b := by rw [Int.mul_sub]; omega
    rcases Int.lt_trichotomy (a.tdiv b - a.fdiv b) 0 with h | h | h
    · have := Int.mul_le_mul_of_nonneg_left (show a.tdiv b - a.fdiv b ≤ -1 by omega) (show 0 ≤ b by omega); omega
    · omega
    · have := Int.mul_le_mul_of_nonneg_left (show 1 ≤ a.tdiv b - a.fdiv b by omega) (show 0 ≤ b by omega); omega
  refine ⟨key, ?_⟩
  rw [key] at e2; omega
theorem c197 {a b : Int} (ha : -9223372036854775808 < a ∧ a ≤ 9223372036854775807) (hb : 0 < b ∧ b ≤ 9223372036854775807) : Gv E2 197 [sI a, sI b] h (.tup [sI (a.fdiv b), sI (a.fmod b)]) := by
  refine Gv.of (CallWp.fn (fn := C.a197) rfl rfl rfl ?_)
  unfold C.a197
  have hb0 : ¬ b = 0 := by omega
  have hm : ¬ a = -9223372036854775808 := by omega
  have hd := tdiv_le ha hb.1
  have ht : -b < a.tmod b ∧ a.tmod b < b := ⟨Int.lt_tmod_of_pos a hb.1, Int.tmod_lt_of_pos a hb.1⟩
  repeat' (with_reducible first | simp (disch := first | assumption | omega | (simp only [Hp.next_push, Hp.next_put, Hp.ov_next, Hp.clk_push, Hp.clk_put, Hp.ov_clk, List.length_cons, List.length_nil, List.length_append, List.length_map, List.length_take, List.length_drop, List.length_replicate, List.length_set, ne_eq, cells_int, cells_bool, cells_str, cells_ptr, cells_sl, cells_nils, cells_agg, one_int, one_bool, one_str, one_ptr, one_sl, one_nils, List.all_cons, List.all_nil, Bool.and_true, Bool.and_self, and_true, true_and, Nat.reduceAdd, Nat.reduceLeDiff] <;> omega) | fail) only [go_sem, ↓reduceIte, Nat.reduceEqDiff, Nat.reduceAdd, Nat.reduceBEq, Nat.reduceLeDiff, Nat.reduceMul, Nat.reduceLT, Nat.zero_add, Nat.add_zero, List.length_cons, List.length_nil, List.all_cons, List.all_nil, Bool.and_true, Bool.and_self, and_true, true_and, List.take_zero, List.take_succ_cons, List.take_nil, List.drop_zero, List.drop_succ_cons, List.drop_nil, List.nil_append, List.cons_append, List.getElem?_cons_zero, List.getElem?_cons_succ, Bool.false_eq_true, Int.toNat_zero, Int.reduceToNat, Int.toNat_natCast, reduceCtorEq, Int.reduceAdd, Int.reduceSub, Int.reduceMul, Int.reduceNeg, Int.reduceLT, Int.reduceLE, Int.reduceEq, Int.zero_add, Int.add_zero, AV.ptr.injEq, exists_eq_left, exists_eq_left', b_quo', b_rem'] | refine CondK.decN (fun hc => ?_) (fun hc => ?_) | refine GrdK.decN (fun hc => ?_) (fun hc => ?_) | refine PickK.decN (fun hc => ?_) (fun hc => ?_) | refine CondK.dec (fun hc => ?_) (fun hc => ?_) | refine GrdK.dec (fun hc => ?_) (fun hc => ?_) | refine DGrd.dec (fun hc => ?_) (fun hc => ?_) | refine PickK.dec (fun hc => ?_) (fun hc => ?_))
  · obtain ⟨e1, e2⟩ := fdiv_lt hb.1 hc
    rw [e1, e2]
    (try first | refine ⟨trivial, ?_⟩ | refine ⟨rfl, ?_⟩); (repeat (first | exact Grs.refl _ | assumption | refine Grs.push ?_ | refine Grs.ov ?_ | refine Grs.put ?_ (by (try simp only [Hp.next_push, Hp.next_put, Hp.ov_next, Hp.clk_push, Hp.clk_put, Hp.ov_clk]); omega)))
  · obtain ⟨e1, e2⟩ := fdiv_ge hb.1 hc
    rw [e1, e2]
    (try first | refine ⟨trivial, ?_⟩ | refine ⟨rfl, ?_⟩); (repeat (first | exact Grs.refl _ | assumption | refine Grs.push ?_ | refine Grs.ov ?_ | refine Grs.put ?_ (by (try simp only [Hp.next_push, Hp.next_put, Hp.ov_next, Hp.clk_push, Hp.clk_put, Hp.ov_clk]); omega)))
theorem b_andK {q : EqK} {k : IntKind} {m n : Int} : binA .and q (.int k m) (.int k n) = some (.int k (k.wrap (BitVec.ofInt k.bits m &&& BitVec.ofInt k.bits n).toNat)) := by
  simp [binA, intA, intA1, sameK_eq, bitsA]
theorem b_mask32 {q : EqK} {a : Nat} (ha : a < 18446744073709551616) : binA .and q (.int .u64 a) (.int .u64 4294967295) = some (.int .u64 ((a % 4294967296 : Nat) : Int)) := by
  rw [b_andK]
  congr 2
  have e : (BitVec.ofInt 64 (a : Int) &&& BitVec.ofInt 64 4294967295).toNat = a % 4294967296 := by
    rw [BitVec.toNat_and]
    simp only [BitVec.toNat_ofInt]
    have e1 : ((a : Int) % (2 ^ 64 : Nat)).toNat = a := by omega
    rw [e1]
    exact Nat.and_two_pow_sub_one_eq_mod a 32
  show IntKind.wrap .u64 (((BitVec.ofInt 64 (a : Int) &&& BitVec.ofInt 64 4294967295).toNat : Nat) : Int) = _
  rw [e, wrap_u64 (by omega)]
theorem b_and1 {q : EqK} {a : Nat} (ha : a < 9223372036854775808) : binA .and q (.int .i64 a) (.int .i64 1) = some (.int .i64 ((a % 2 : Nat) : Int)) := by
  rw [b_andK]
  congr 2
  have e : (BitVec.ofInt 64 (a : Int) &&& BitVec.ofInt 64 1).toNat = a % 2 := by
    rw [BitVec.toNat_and]
    simp only [BitVec.toNat_ofInt]
    have e1 : ((a : Int) % (2 ^ 64 : Nat)).toNat = a := by omega
    rw [e1]
    exact Nat.and_two_pow_sub_one_eq_mod a 1
  show IntKind.wrap .i64 (((BitVec.ofInt 64 (a : Int) &&& BitVec.ofInt 64 1).toNat : Nat) : Int) = _
  rw [e, wrap_i64 (by omega)]
theorem b_shr32 {q : EqK} {a : Nat} : binA .shr q (.int .u64 a) (.int .u64 32) = some (.int .u64 ((a / 4294967296 : Nat) : Int)) := b_shrL (n := 32) (by decide)
theorem c261 {x y : Nat} (hx : x < 18446744073709551616) (hy : y < 18446744073709551616) : CallWp E2 261 [.int .u64 x, .int .u64 y] h K ↔ K (.tup [.int .u64 ((x * y / 18446744073709551616 : Nat) : Int), .int .u64 ((x * y % 18446744073709551616 : Nat) : Int)]) h := by
  refine CallWp.iff_of (CallWp.fn (fn := C.a261) rfl rfl rfl ?_)
  obtain ⟨bd, bt, bw, hhi⟩ := Lib.mul64_hi x y hx hy
  have ba := Lib.half_mul_le (a := x / 4294967296) (b := y / 4294967296) (by omega) (by omega)
  have bb := Lib.half_mul_le (a := x / 4294967296) (b := y % 4294967296) (by omega) (by omega)
  have bc := Lib.half_mul_le (a := x % 4294967296) (b := y / 4294967296) (by omega) (by omega)
  unfold C.a261
  have m0 : ∀ a b : Nat, (a : Int) * (b : Int) = ((a * b : Nat) : Int) := fun a b => (Int.natCast_mul a b).symm
  have a0 : ∀ a b : Nat, (a : Int) + (b : Int) = ((a + b : Nat) : Int) := fun a b => (Int.natCast_add a b).symm
  have w0 : ∀ a : Nat, a < 18446744073709551616 → IntKind.wrap .u64 (a : Int) = (a : Int) := fun a ha => wrap_u64 (by omega)
  have w1 : IntKind.wrap .u64 ((x * y : Nat) : Int) = ((x * y % 18446744073709551616 : Nat) : Int) := by rw [IntKind.wrap_u64]; omega
  simp (disch := first | assumption | omega | fail) only [go_sem, ↓reduceIte, Nat.reduceEqDiff, b_mask32, b_shr32, m0, a0, w0, w1]
  rw [hhi]
  exact ⟨rfl, trivial⟩
def len8tab : List UInt8 := [0, 1, 2, 2, 3, 3, 3, 3, 4, 4, 4, 4, 4, 4, 4, 4, 5, 5, 5, 5, 5, 5, 5, 5, 5, 5, 5, 5, 5, 5, 5, 5, 6, 6, 6, 6, 6, 6, 6, 6, 6, 6, 6, 6, 6, 6, 6, 6, 6, 6, 6, 6, 6, 6, 6, 6, 6, 6, 6, 6, 6, 6, 6, 6, 7, 7, 7, 7, 7, 7, 7, 7, 7, 7, 7, 7, 7, 7, 7, 7, 7, 7, 7, 7, 7, 7, 7, 7, 7, 7, 7, 7, 7, 7, 7, 7, 7, 7, 7, 7, 7, 7, 7, 7, 7, 7, 7, 7, 7, 7, 7, 7, 7, 7, 7, 7, 7, 7, 7, 7, 7, 7, 7, 7, 7, 7, 7, 7, 8, 8, 8, 8, 8, 8, 8, 8, 8, 8, 8, 8, 8, 8, 8, 8, 8, 8, 8, 8, 8, 8, 8, 8, 8, 8, 8, 8, 8, 8, 8, 8, 8, 8, 8, 8, 8, 8, 8, 8, 8, 8, 8, 8, 8, 8, 8, 8, 8, 8, 8, 8, 8, 8, 8, 8, 8, 8, 8, 8, 8, 8, 8, 8, 8, 8, 8, 8, 8, 8, 8, 8, 8, 8, 8, 8, 8, 8, 8, 8, 8, 8, 8, 8, 8, 8, 8, 8, 8, 8, 8, 8, 8, 8, 8, 8, 8, 8, 8, 8, 8, 8, 8, 8, 8, 8, 8, 8, 8, 8, 8, 8, 8, 8, 8, 8, 8, 8, 8, 8, 8, 8, 8, 8, 8, 8, 8, 8]
theorem len8 : ∀ i : Nat, i < 256 → ((len8tab.getD i 0).toNat) = bitLen i := by decide +kernel
theorem idx8 {x : Nat} (hx : x < 256) : idxK (.str [0, 1, 2, 2, 3, 3, 3, 3, 4, 4, 4, 4, 4, 4, 4, 4, 5, 5, 5, 5, 5, 5, 5, 5, 5, 5, 5, 5, 5, 5, 5, 5, 6, 6, 6, 6, 6, 6, 6, 6, 6, 6, 6, 6, 6, 6, 6, 6, 6, 6, 6, 6, 6, 6, 6, 6, 6, 6, 6, 6, 6, 6, 6, 6, 7, 7, 7, 7, 7, 7, 7, 7, 7, 7, 7, 7, 7, 7, 7, 7, 7, 7, 7, 7, 7, 7, 7, 7, 7, 7, 7, 7, 7, 7, 7, 7, 7, 7, 7, 7, 7, 7, 7, 7, 7, 7, 7, 7, 7, 7, 7, 7, 7, 7, 7, 7, 7, 7, 7, 7, 7, 7, 7, 7, 7, 7, 7, 7, 8, 8, 8, 8, 8, 8, 8, 8, 8, 8, 8, 8, 8, 8, 8, 8, 8, 8, 8, 8, 8, 8, 8, 8, 8, 8, 8, 8, 8, 8, 8, 8, 8, 8, 8, 8, 8, 8, 8, 8, 8, 8, 8, 8, 8, 8, 8, 8, 8, 8, 8, 8, 8, 8, 8, 8, 8, 8, 8, 8, 8, 8, 8, 8, 8, 8, 8, 8, 8, 8, 8, 8, 8, 8, 8, 8, 8, 8, 8, 8, 8, 8, 8, 8, 8, 8, 8, 8, 8, 8, 8, 8, 8, 8, 8, 8, 8, 8, 8, 8, 8, 8, 8, 8, 8, 8, 8, 8, 8, 8, 8, 8, 8, 8, 8, 8, 8, 8, 8, 8, 8, 8, 8, 8, 8, 8, 8, 8]) (.int .u8 x) = some (.int .u8 (bitLen x : Nat)) := by
  show idxK (.str len8tab) (.int .u8 x) = _
  rw [idxK_str ⟨by omega, by rw [show len8tab.length = 256 from rfl]; omega⟩, Int.toNat_natCast, len8 x hx]
theorem b_shr16 {q : EqK} {a : Nat} : binA .shr q (.int .u64 a) (.int .u64 16) = some (.int .u64 ((a / 65536 : Nat) : Int)) := b_shrL (n := 16) (by decide)
theorem b_shr8 {q : EqK} {a : Nat} : binA .shr q (.int .u64 a) (.int .u64 8) = some (.int .u64 ((a / 256 : Nat) : Int)) := b_shrL (n := 8) (by decide)
theorem c266 {x : Nat} (hx : x < 18446744073709551616) : CallWp E2 266 [.int .u64 x] h K ↔ K (.int .i64 (bitLen x : Nat)) h := by
  refine CallWp.iff_of (CallWp.fn (fn := C.a266) rfl rfl rfl ?_)
  unfold C.a266
  have s32 : 4294967296 ≤ x → bitLen x = 32 + bitLen (x / 4294967296) := fun e => bitLen_shift (k := 32) e
  have s16 : ∀ y, 65536 ≤ y → bitLen y = 16 + bitLen (y / 65536) := fun y e => bitLen_shift (k := 16) e
  have s8 : ∀ y, 256 ≤ y → bitLen y = 8 + bitLen (y / 256) := fun y e => bitLen_shift (k := 8) e
  have b8 : ∀ y, y < 256 → bitLen y ≤ 8 := fun y e => bitLen_lt (k := 8) e
  have l32 : x / 4294967296 < 4294967296 := by omega
  by_cases g32 : 4294967296 ≤ ((x : Nat) : Int)
  · have e32 := s32 (by omega)
    by_cases g16 : 65536 ≤ ((x / 4294967296 : Nat) : Int)
    · have e16 := s16 (x / 4294967296) (by omega)
      by_cases g8 : 256 ≤ ((x / 4294967296 / 65536 : Nat) : Int)
      · have e8 := s8 (x / 4294967296 / 65536) (by omega)
        have := b8 (x / 4294967296 / 65536 / 256) (by omega)
        simp (disch := first | assumption | omega | (simp only [Hp.next_push, Hp.next_put, Hp.ov_next, Hp.clk_push, Hp.clk_put, Hp.ov_clk, List.length_cons, List.length_nil, List.length_append, List.length_map, List.length_take, List.length_drop, List.length_replicate, List.length_set, ne_eq, cells_int, cells_bool, cells_str, cells_ptr, cells_sl, cells_nils, cells_agg, one_int, one_bool, one_str, one_ptr, one_sl, one_nils, List.all_cons, List.all_nil, Bool.and_true, Bool.and_self, and_true, true_and, Nat.reduceAdd, Nat.reduceLeDiff] <;> omega) | fail) only [go_sem, ↓reduceIte, Nat.reduceEqDiff, Nat.reduceAdd, Nat.reduceBEq, Nat.reduceLeDiff, Nat.reduceMul, Nat.reduceLT, Nat.zero_add, Nat.add_zero, List.length_cons, List.length_nil, List.all_cons, List.all_nil, Bool.and_true, Bool.and_self, and_true, true_and, List.take_zero, List.take_succ_cons, List.take_nil, List.drop_zero, List.drop_succ_cons, List.drop_nil, List.nil_append, List.cons_append, List.getElem?_cons_zero, List.getElem?_cons_succ, Bool.false_eq_true, Int.toNat_zero, Int.reduceToNat, Int.toNat_natCast, reduceCtorEq, Int.reduceAdd, Int.reduceSub, Int.reduceMul, Int.reduceNeg, Int.reduceLT, Int.reduceLE, Int.reduceEq, Int.zero_add, Int.add_zero, AV.ptr.injEq, exists_eq_left, exists_eq_left', b_shr32, b_shr16, b_shr8, idx8]
        all_goals (congr 1; omega)
      · skip
        have := b8 (x / 4294967296 / 65536) (by omega)
        simp (disch := first | assumption | omega | (simp only [Hp.next_push, Hp.next_put, Hp.ov_next, Hp.clk_push, Hp.clk_put, Hp.ov_clk, List.length_cons, List.length_nil, List.length_append, List.length_map, List.length_take, List.length_drop, List.length_replicate, List.length_set, ne_eq, cells_int, cells_bool, cells_str, cells_ptr, cells_sl, cells_nils, cells_agg, one_int, one_bool, one_str, one_ptr, one_sl, one_nils, List.all_cons, List.all_nil, Bool.and_true, Bool.and_self, and_true, true_and, Nat.reduceAdd, Nat.reduceLeDiff] <;> omega) | fail) only [go_sem, ↓reduceIte, Nat.reduceEqDiff, Nat.reduceAdd, Nat.reduceBEq, Nat.reduceLeDiff, Nat.reduceMul, Nat.reduceLT, Nat.zero_add, Nat.add_zero, List.length_cons, List.length_nil, List.all_cons, List.all_nil, Bool.and_true, Bool.and_self, and_true, true_and, List.take_zero, List.take_succ_cons, List.take_nil, List.drop_zero, List.drop_succ_cons, List.drop_nil, List.nil_append, List.cons_append, List.getElem?_cons_zero, List.getElem?_cons_succ, Bool.false_eq_true, Int.toNat_zero, Int.reduceToNat, Int.toNat_natCast, reduceCtorEq, Int.reduceAdd, Int.reduceSub, Int.reduceMul, Int.reduceNeg, Int.reduceLT, Int.reduceLE, Int.reduceEq, Int.zero_add, Int.add_zero, AV.ptr.injEq, exists_eq_left, exists_eq_left', b_shr32, b_shr16, b_shr8, idx8]
        all_goals (congr 1; omega)
    · skip
      by_cases g8 : 256 ≤ ((x / 4294967296 : Nat) : Int)
      · have e8 := s8 (x / 4294967296) (by omega)
        have := b8 (x / 4294967296 / 256) (by omega)
        simp (disch := first | assumption | omega | (simp only [Hp.next_push, Hp.next_put, Hp.ov_next, Hp.clk_push, Hp.clk_put, Hp.ov_clk, List.length_cons, List.length_nil, List.length_append, List.length_map, List.length_take, List.length_drop, List.length_replicate, List.length_set, ne_eq, cells_int, cells_bool, cells_str, cells_ptr, cells_sl, cells_nils, cells_agg, one_int, one_bool, one_str, one_ptr, one_sl, one_nils, List.all_cons, List.all_nil, Bool.and_true, Bool.and_self, and_true, true_and, Nat.reduceAdd, Nat.reduceLeDiff] <;> omega) | fail) only [go_sem, ↓reduceIte, Nat.reduceEqDiff, Nat.reduceAdd, Nat.reduceBEq, Nat.reduceLeDiff, Nat.reduceMul, Nat.reduceLT, Nat.zero_add, Nat.add_zero, List.length_cons, List.length_nil, List.all_cons, List.all_nil, Bool.and_true, Bool.and_self, and_true, true_and, List.take_zero, List.take_succ_cons, List.take_nil, List.drop_zero, List.drop_succ_cons, List.drop_nil, List.nil_append, List.cons_append, List.getElem?_cons_zero, List.getElem?_cons_succ, Bool.false_eq_true, Int.toNat_zero, Int.reduceToNat, Int.toNat_natCast, reduceCtorEq, Int.reduceAdd, Int.reduceSub, Int.reduceMul, Int.reduceNeg, Int.reduceLT, Int.reduceLE, Int.reduceEq, Int.zero_add, Int.add_zero, AV.ptr.injEq, exists_eq_left, exists_eq_left', b_shr32, b_shr16, b_shr8, idx8]
        all_goals (congr 1; omega)
      · skip
        have := b8 (x / 4294967296) (by omega)
        simp (disch := first | assumption | omega | (simp only [Hp.next_push, Hp.next_put, Hp.ov_next, Hp.clk_push, Hp.clk_put, Hp.ov_clk, List.length_cons, List.length_nil, List.length_append, List.length_map, List.length_take, List.length_drop, List.length_replicate, List.length_set, ne_eq, cells_int, cells_bool, cells_str, cells_ptr, cells_sl, cells_nils, cells_agg, one_int, one_bool, one_str, one_ptr, one_sl, one_nils, List.all_cons, List.all_nil, Bool.and_true, Bool.and_self, and_true, true_and, Nat.reduceAdd, Nat.reduceLeDiff] <;> omega) | fail) only [go_sem, ↓reduceIte, Nat.reduceEqDiff, Nat.reduceAdd, Nat.reduceBEq, Nat.reduceLeDiff, Nat.reduceMul, Nat.reduceLT, Nat.zero_add, Nat.add_zero, List.length_cons, List.length_nil, List.all_cons, List.all_nil, Bool.and_true, Bool.and_self, and_true, true_and, List.take_zero, List.take_succ_cons, List.take_nil, List.drop_zero, List.drop_succ_cons, List.drop_nil, List.nil_append, List.cons_append, List.getElem?_cons_zero, List.getElem?_cons_succ, Bool.false_eq_true, Int.toNat_zero, Int.reduceToNat, Int.toNat_natCast, reduceCtorEq, Int.reduceAdd, Int.reduceSub, Int.reduceMul, Int.reduceNeg, Int.reduceLT, Int.reduceLE, Int.reduceEq, Int.zero_add, Int.add_zero, AV.ptr.injEq, exists_eq_left, exists_eq_left', b_shr32, b_shr16, b_shr8, idx8]
        all_goals (congr 1; omega)
  · skip
    by_cases g16 : 65536 ≤ ((x : Nat) : Int)
    · have e16 := s16 (x) (by omega)
      by_cases g8 : 256 ≤ ((x / 65536 : Nat) : Int)
      · have e8 := s8 (x / 65536) (by omega)
        have := b8 (x / 65536 / 256) (by omega)
        simp (disch := first | assumption | omega | (simp only [Hp.next_push, Hp.next_put, Hp.ov_next, Hp.clk_push, Hp.clk_put, Hp.ov_clk, List.length_cons, List.length_nil, List.length_append, List.length_map, List.length_take, List.length_drop, List.length_replicate, List.length_set, ne_eq, cells_int, cells_bool, cells_str, cells_ptr, cells_sl, cells_nils, cells_agg, one_int, one_bool, one_str, one_ptr, one_sl, one_nils, List.all_cons, List.all_nil, Bool.and_true, Bool.and_self, and_true, true_and, Nat.reduceAdd, Nat.reduceLeDiff] <;> omega) | fail) only [go_sem, ↓reduceIte, Nat.reduceEqDiff, Nat.reduceAdd, Nat.reduceBEq, Nat.reduceLeDiff, Nat.reduceMul, Nat.reduceLT, Nat.zero_add, Nat.add_zero, List.length_cons, List.length_nil, List.all_cons, List.all_nil, Bool.and_true, Bool.and_self, and_true, true_and, List.take_zero, List.take_succ_cons, List.take_nil, List.drop_zero, List.drop_succ_cons, List.drop_nil, List.nil_append, List.cons_append, List.getElem?_cons_zero, List.getElem?_cons_succ, Bool.false_eq_true, Int.toNat_zero, Int.reduceToNat, Int.toNat_natCast, reduceCtorEq, Int.reduceAdd, Int.reduceSub, Int.reduceMul, Int.reduceNeg, Int.reduceLT, Int.reduceLE, Int.reduceEq, Int.zero_add, Int.add_zero, AV.ptr.injEq, exists_eq_left, exists_eq_left', b_shr32, b_shr16, b_shr8, idx8]
        all_goals (congr 1; omega)
      · skip
        have := b8 (x / 65536) (by omega)
        simp (disch := first | assumption | omega | (simp only [Hp.next_push, Hp.next_put, Hp.ov_next, Hp.clk_push, Hp.clk_put, Hp.ov_clk, List.length_cons, List.length_nil, List.length_append, List.length_map, List.length_take, List.length_drop, List.length_replicate, List.length_set, ne_eq, cells_int, cells_bool, cells_str, cells_ptr, cells_sl, cells_nils, cells_agg, one_int, one_bool, one_str, one_ptr, one_sl, one_nils, List.all_cons, List.all_nil, Bool.and_true, Bool.and_self, and_true, true_and, Nat.reduceAdd, Nat.reduceLeDiff] <;> omega) | fail) only [go_sem, ↓reduceIte, Nat.reduceEqDiff, Nat.reduceAdd, Nat.reduceBEq, Nat.reduceLeDiff, Nat.reduceMul, Nat.reduceLT, Nat.zero_add, Nat.add_zero, List.length_cons, List.length_nil, List.all_cons, List.all_nil, Bool.and_true, Bool.and_self, and_true, true_and, List.take_zero, List.take_succ_cons, List.take_nil, List.drop_zero, List.drop_succ_cons, List.drop_nil, List.nil_append, List.cons_append, List.getElem?_cons_zero, List.getElem?_cons_succ, Bool.false_eq_true, Int.toNat_zero, Int.reduceToNat, Int.toNat_natCast, reduceCtorEq, Int.reduceAdd, Int.reduceSub, Int.reduceMul, Int.reduceNeg, Int.reduceLT, Int.reduceLE, Int.reduceEq, Int.zero_add, Int.add_zero, AV.ptr.injEq, exists_eq_left, exists_eq_left', b_shr32, b_shr16, b_shr8, idx8]
        all_goals (congr 1; omega)
    · skip
      by_cases g8 : 256 ≤ ((x : Nat) : Int)
      · have e8 := s8 (x) (by omega)
        have := b8 (x / 256) (by omega)
        simp (disch := first | assumption | omega | (simp only [Hp.next_push, Hp.next_put, Hp.ov_next, Hp.clk_push, Hp.clk_put, Hp.ov_clk, List.length_cons, List.length_nil, List.length_append, List.length_map, List.length_take, List.length_drop, List.length_replicate, List.length_set, ne_eq, cells_int, cells_bool, cells_str, cells_ptr, cells_sl, cells_nils, cells_agg, one_int, one_bool, one_str, one_ptr, one_sl, one_nils, List.all_cons, List.all_nil, Bool.and_true, Bool.and_self, and_true, true_and, Nat.reduceAdd, Nat.reduceLeDiff] <;> omega) | fail) only [go_sem, ↓reduceIte, Nat.reduceEqDiff, Nat.reduceAdd, Nat.reduceBEq, Nat.reduceLeDiff, Nat.reduceMul, Nat.reduceLT, Nat.zero_add, Nat.add_zero, List.length_cons, List.length_nil, List.all_cons, List.all_nil, Bool.and_true, Bool.and_self, and_true, true_and, List.take_zero, List.take_succ_cons, List.take_nil, List.drop_zero, List.drop_succ_cons, List.drop_nil, List.nil_append, List.cons_append, List.getElem?_cons_zero, List.getElem?_cons_succ, Bool.false_eq_true, Int.toNat_zero, Int.reduceToNat, Int.toNat_natCast, reduceCtorEq, Int.reduceAdd, Int.reduceSub, Int.reduceMul, Int.reduceNeg, Int.reduceLT, Int.reduceLE, Int.reduceEq, Int.zero_add, Int.add_zero, AV.ptr.injEq, exists_eq_left, exists_eq_left', b_shr32, b_shr16, b_shr8, idx8]
        all_goals (congr 1; omega)
      · skip
        have := b8 (x) (by omega)
        simp (disch := first | assumption | omega | (simp only [Hp.next_push, Hp.next_put, Hp.ov_next, Hp.clk_push, Hp.clk_put, Hp.ov_clk, List.length_cons, List.length_nil, List.length_append, List.length_map, List.length_take, List.length_drop, List.length_replicate, List.length_set, ne_eq, cells_int, cells_bool, cells_str, cells_ptr, cells_sl, cells_nils, cells_agg, one_int, one_bool, one_str, one_ptr, one_sl, one_nils, List.all_cons, List.all_nil, Bool.and_true, Bool.and_self, and_true, true_and, Nat.reduceAdd, Nat.reduceLeDiff] <;> omega) | fail) only [go_sem, ↓reduceIte, Nat.reduceEqDiff, Nat.reduceAdd, Nat.reduceBEq, Nat.reduceLeDiff, Nat.reduceMul, Nat.reduceLT, Nat.zero_add, Nat.add_zero, List.length_cons, List.length_nil, List.all_cons, List.all_nil, Bool.and_true, Bool.and_self, and_true, true_and, List.take_zero, List.take_succ_cons, List.take_nil, List.drop_zero, List.drop_succ_cons, List.drop_nil, List.nil_append, List.cons_append, List.getElem?_cons_zero, List.getElem?_cons_succ, Bool.false_eq_true, Int.toNat_zero, Int.reduceToNat, Int.toNat_natCast, reduceCtorEq, Int.reduceAdd, Int.reduceSub, Int.reduceMul, Int.reduceNeg, Int.reduceLT, Int.reduceLE, Int.reduceEq, Int.zero_add, Int.add_zero, AV.ptr.injEq, exists_eq_left, exists_eq_left', b_shr32, b_shr16, b_shr8, idx8]
        all_goals (congr 1; omega)
end
end Go.Ae


/- Small whole numbers of the program's own arithmetic: products, powers, roots. -/
set_option linter.unusedVariables false
set_option linter.unusedSimpArgs false
set_option maxRecDepth 100000
namespace Go.Ae
open Go.Proofs
section
variable {h : Hp} {K : AV → Hp → Prop}
theorem c195 {a b : Int} (ha : -9223372036854775808 ≤ a ∧ a ≤ 9223372036854775807) (hb : -9223372036854775808 ≤ b ∧ b ≤ 9223372036854775807) (hab : a.natAbs * b.natAbs ≤ 9223372036854775807) : Gv E2 195 [sI a, sI b] h (sI (a * b)) := by
  refine Gv.of (CallWp.fn (fn := C.a195) rfl rfl rfl ?_)
  unfold C.a195
  have e1 : a.natAbs * b.natAbs / 18446744073709551616 = 0 := Nat.div_eq_of_lt (by omega)
  have e2 : a.natAbs * b.natAbs % 18446744073709551616 = a.natAbs * b.natAbs := Nat.mod_eq_of_lt (by omega)
  have e3 : (((a.natAbs * b.natAbs : Nat) : Int) ≤ 9223372036854775807) := Int.ofNat_le.2 hab
  have e5 : (0 : Int) ≤ ((a.natAbs * b.natAbs : Nat) : Int) := Int.natCast_nonneg _
  have e6 : ((0 : Nat) : Int) = 0 := rfl
  by_cases h1 : a < 0 <;> by_cases h2 : b < 0
  · have d1 : decide (a < 0) = true := decide_eq_true h1
    have d2 : decide (b < 0) = true := decide_eq_true h2
    have e4 : ((a.natAbs * b.natAbs : Nat) : Int) = a * b := by
      rw [Int.natCast_mul, show (a.natAbs : Int) = -a by omega, show (b.natAbs : Int) = -b by omega, Int.neg_mul_neg]
    repeat' (with_reducible first | simp (disch := first | assumption | omega | (simp only [Hp.next_push, Hp.next_put, Hp.ov_next, Hp.clk_push, Hp.clk_put, Hp.ov_clk, List.length_cons, List.length_nil, List.length_append, List.length_map, List.length_take, List.length_drop, List.length_replicate, List.length_set, ne_eq, cells_int, cells_bool, cells_str, cells_ptr, cells_sl, cells_nils, cells_agg, one_int, one_bool, one_str, one_ptr, one_sl, one_nils, List.all_cons, List.all_nil, Bool.and_true, Bool.and_self, and_true, true_and, Nat.reduceAdd, Nat.reduceLeDiff] <;> omega) | fail) only [go_sem, ↓reduceIte, Nat.reduceEqDiff, Nat.reduceAdd, Nat.reduceBEq, Nat.reduceLeDiff, Nat.reduceMul, Nat.reduceLT, Nat.zero_add, Nat.add_zero, List.length_cons, List.length_nil, List.all_cons, List.all_nil, Bool.and_true, Bool.and_self, and_true, true_and, List.take_zero, List.take_succ_cons, List.take_nil, List.drop_zero, List.drop_succ_cons, List.drop_nil, List.nil_append, List.cons_append, List.getElem?_cons_zero, List.getElem?_cons_succ, Bool.false_eq_true, Int.toNat_zero, Int.reduceToNat, Int.toNat_natCast, reduceCtorEq, Int.reduceAdd, Int.reduceSub, Int.reduceMul, Int.reduceNeg, Int.reduceLT, Int.reduceLE, Int.reduceEq, Int.zero_add, Int.add_zero, AV.ptr.injEq, exists_eq_left, exists_eq_left', c262, c261, e1, e2, d1, d2, e6] | refine CondK.decN (fun hc => ?_) (fun hc => ?_) | refine GrdK.decN (fun hc => ?_) (fun hc => ?_) | refine PickK.decN (fun hc => ?_) (fun hc => ?_) | refine CondK.dec (fun hc => ?_) (fun hc => ?_) | refine GrdK.dec (fun hc => ?_) (fun hc => ?_) | refine DGrd.dec (fun hc => ?_) (fun hc => ?_) | refine PickK.dec (fun hc => ?_) (fun hc => ?_))
    rw [e4]
    (try first | refine ⟨trivial, ?_⟩ | refine ⟨rfl, ?_⟩); (repeat (first | exact Grs.refl _ | assumption | refine Grs.push ?_ | refine Grs.ov ?_ | refine Grs.put ?_ (by (try simp only [Hp.next_push, Hp.next_put, Hp.ov_next, Hp.clk_push, Hp.clk_put, Hp.ov_clk]); omega)))
  · have d1 : decide (a < 0) = true := decide_eq_true h1
    have d2 : decide (b < 0) = false := decide_eq_false h2
    have e4 : -((a.natAbs * b.natAbs : Nat) : Int) = a * b := by
      rw [Int.natCast_mul, show (a.natAbs : Int) = -a by omega, show (b.natAbs : Int) = b by omega, Int.neg_mul, Int.neg_neg]
    repeat' (with_reducible first | simp (disch := first | assumption | omega | (simp only [Hp.next_push, Hp.next_put, Hp.ov_next, Hp.clk_push, Hp.clk_put, Hp.ov_clk, List.length_cons, List.length_nil, List.length_append, List.length_map, List.length_take, List.length_drop, List.length_replicate, List.length_set, ne_eq, cells_int, cells_bool, cells_str, cells_ptr, cells_sl, cells_nils, cells_agg, one_int, one_bool, one_str, one_ptr, one_sl, one_nils, List.all_cons, List.all_nil, Bool.and_true, Bool.and_self, and_true, true_and, Nat.reduceAdd, Nat.reduceLeDiff] <;> omega) | fail) only [go_sem, ↓reduceIte, Nat.reduceEqDiff, Nat.reduceAdd, Nat.reduceBEq, Nat.reduceLeDiff, Nat.reduceMul, Nat.reduceLT, Nat.zero_add, Nat.add_zero, List.length_cons, List.length_nil, List.all_cons, List.all_nil, Bool.and_true, Bool.and_self, and_true, true_and, List.take_zero, List.take_succ_cons, List.take_nil, List.drop_zero, List.drop_succ_cons, List.drop_nil, List.nil_append, List.cons_append, List.getElem?_cons_zero, List.getElem?_cons_succ, Bool.false_eq_true, Int.toNat_zero, Int.reduceToNat, Int.toNat_natCast, reduceCtorEq, Int.reduceAdd, Int.reduceSub, Int.reduceMul, Int.reduceNeg, Int.reduceLT, Int.reduceLE, Int.reduceEq, Int.zero_add, Int.add_zero, AV.ptr.injEq, exists_eq_left, exists_eq_left', c262, c261, e1, e2, d1, d2, e6] | refine CondK.decN (fun hc => ?_) (fun hc => ?_) | refine GrdK.decN (fun hc => ?_) (fun hc => ?_) | refine PickK.decN (fun hc => ?_) (fun hc => ?_) | refine CondK.dec (fun hc => ?_) (fun hc => ?_) | refine GrdK.dec (fun hc => ?_) (fun hc => ?_) | refine DGrd.dec (fun hc => ?_) (fun hc => ?_) | refine PickK.dec (fun hc => ?_) (fun hc => ?_))
    rw [e4]
    (try first | refine ⟨trivial, ?_⟩ | refine ⟨rfl, ?_⟩); (repeat (first | exact Grs.refl _ | assumption | refine Grs.push ?_ | refine Grs.ov ?_ | refine Grs.put ?_ (by (try simp only [Hp.next_push, Hp.next_put, Hp.ov_next, Hp.clk_push, Hp.clk_put, Hp.ov_clk]); omega)))
  · have d1 : decide (a < 0) = false := decide_eq_false h1
    have d2 : decide (b < 0) = true := decide_eq_true h2
    have e4 : -((a.natAbs * b.natAbs : Nat) : Int) = a * b := by
      rw [Int.natCast_mul, show (a.natAbs : Int) = a by omega, show (b.natAbs : Int) = -b by omega, Int.mul_neg, Int.neg_neg]
    repeat' (with_reducible first | simp (disch := first | assumption | omega | (simp only [Hp.next_push, Hp.next_put, Hp.ov_next, Hp.clk_push, Hp.clk_put, Hp.ov_clk, List.length_cons, List.length_nil, List.length_append, List.length_map, List.length_take, List.length_drop, List.length_replicate, List.length_set, ne_eq, cells_int, cells_bool, cells_str, cells_ptr, cells_sl, cells_nils, cells_agg, one_int, one_bool, one_str, one_ptr, one_sl, one_nils, List.all_cons, List.all_nil, Bool.and_true, Bool.and_self, and_true, true_and, Nat.reduceAdd, Nat.reduceLeDiff] <;> omega) | fail) only [go_sem, ↓reduceIte, Nat.reduceEqDiff, Nat.reduceAdd, Nat.reduceBEq, Nat.reduceLeDiff, Nat.reduceMul, Nat.reduceLT, Nat.zero_add, Nat.add_zero, List.length_cons, List.length_nil, List.all_cons, List.all_nil, Bool.and_true, Bool.and_self, and_true, true_and, List.take_zero, List.take_succ_cons, List.take_nil, List.drop_zero, List.drop_succ_cons, List.drop_nil, List.nil_append, List.cons_append, List.getElem?_cons_zero, List.getElem?_cons_succ, Bool.false_eq_true, Int.toNat_zero, Int.reduceToNat, Int.toNat_natCast, reduceCtorEq, Int.reduceAdd, Int.reduceSub, Int.reduceMul, Int.reduceNeg, Int.reduceLT, Int.reduceLE, Int.reduceEq, Int.zero_add, Int.add_zero, AV.ptr.injEq, exists_eq_left, exists_eq_left', c262, c261, e1, e2, d1, d2, e6] | refine CondK.decN (fun hc => ?_) (fun hc => ?_) | refine GrdK.decN (fun hc => ?_) (fun hc => ?_) | refine PickK.decN (fun hc => ?_) (fun hc => ?_) | refine CondK.dec (fun hc => ?_) (fun hc => ?_) | refine GrdK.dec (fun hc => ?_) (fun hc => ?_) | refine DGrd.dec (fun hc => ?_) (fun hc => ?_) | refine PickK.dec (fun hc => ?_) (fun hc => ?_))
    rw [e4]
    (try first | refine ⟨trivial, ?_⟩ | refine ⟨rfl, ?_⟩); (repeat (first | exact Grs.refl _ | assumption | refine Grs.push ?_ | refine Grs.ov ?_ | refine Grs.put ?_ (by (try simp only [Hp.next_push, Hp.next_put, Hp.ov_next, Hp.clk_push, Hp.clk_put, Hp.ov_clk]); omega)))
  · have d1 : decide (a < 0) = false := decide_eq_false h1
    have d2 : decide (b < 0) = false := decide_eq_false h2
    have e4 : ((a.natAbs * b.natAbs : Nat) : Int) = a * b := by
      rw [Int.natCast_mul, show (a.natAbs : Int) = a by omega, show (b.natAbs : Int) = b by omega]
    repeat' (with_reducible first | simp (disch := first | assumption | omega | (simp only [Hp.next_push, Hp.next_put, Hp.ov_next, Hp.clk_push, Hp.clk_put, Hp.ov_clk, List.length_cons, List.length_nil, List.length_append, List.length_map, List.length_take, List.length_drop, List.length_replicate, List.length_set, ne_eq, cells_int, cells_bool, cells_str, cells_ptr, cells_sl, cells_nils, cells_agg, one_int, one_bool, one_str, one_ptr, one_sl, one_nils, List.all_cons, List.all_nil, Bool.and_true, Bool.and_self, and_true, true_and, Nat.reduceAdd, Nat.reduceLeDiff] <;> omega) | fail) only [go_sem, ↓reduceIte, Nat.reduceEqDiff, Nat.reduceAdd, Nat.reduceBEq, Nat.reduceLeDiff, Nat.reduceMul, Nat.reduceLT, Nat.zero_add, Nat.add_zero, List.length_cons, List.length_nil, List.all_cons, List.all_nil, Bool.and_true, Bool.and_self, and_true, true_and, List.take_zero, List.take_succ_cons, List.take_nil, List.drop_zero, List.drop_succ_cons, List.drop_nil, List.nil_append, List.cons_append, List.getElem?_cons_zero, List.getElem?_cons_succ, Bool.false_eq_true, Int.toNat_zero, Int.reduceToNat, Int.toNat_natCast, reduceCtorEq, Int.reduceAdd, Int.reduceSub, Int.reduceMul, Int.reduceNeg, Int.reduceLT, Int.reduceLE, Int.reduceEq, Int.zero_add, Int.add_zero, AV.ptr.injEq, exists_eq_left, exists_eq_left', c262, c261, e1, e2, d1, d2, e6] | refine CondK.decN (fun hc => ?_) (fun hc => ?_) | refine GrdK.decN (fun hc => ?_) (fun hc => ?_) | refine PickK.decN (fun hc => ?_) (fun hc => ?_) | refine CondK.dec (fun hc => ?_) (fun hc => ?_) | refine GrdK.dec (fun hc => ?_) (fun hc => ?_) | refine DGrd.dec (fun hc => ?_) (fun hc => ?_) | refine PickK.dec (fun hc => ?_) (fun hc => ?_))
    rw [e4]
    (try first | refine ⟨trivial, ?_⟩ | refine ⟨rfl, ?_⟩); (repeat (first | exact Grs.refl _ | assumption | refine Grs.push ?_ | refine Grs.ov ?_ | refine Grs.put ?_ (by (try simp only [Hp.next_push, Hp.next_put, Hp.ov_next, Hp.clk_push, Hp.clk_put, Hp.ov_clk]); omega)))
theorem m195 {a b : Nat} (hab : a * b ≤ 9223372036854775807) (ha : a ≤ 9223372036854775807) (hb : b ≤ 9223372036854775807) : Gv E2 195 [sI a, sI b] h (sI (a * b : Nat)) := by
  rw [Int.natCast_mul]
  exact c195 (by omega) (by omega) (by rw [Int.natAbs_natCast, Int.natAbs_natCast]; exact hab)
theorem b_shr1 {q : EqK} {a : Nat} : binA .shr q (.int .i64 a) (.int .u64 1) = some (.int .i64 ((a / 2 : Nat) : Int)) := b_shrL (n := 1) (by decide)
/-- The parts of a small number. -/
def SmParts (n : Int) (h : Hp) (v : AV) (h' : Hp) : Prop :=
  (n = 0 ∧ v = .tup [.bool false, .nils]) ∨ (n ≠ 0 ∧ ∃ t st, v = .tup [.bool (decide (n < 0)), .sl t 0 1 1] ∧ h'.get t = some (.row [.int .u64 (n.natAbs : Int)] true st) ∧ h.next ≤ t ∧ t < h'.next ∧ st ≤ h'.clk)
theorem c202s {n : Int} (hn : -9223372036854775808 ≤ n ∧ n ≤ 9223372036854775807) : Gp E2 202 [sI n] h (SmParts n h) := by
  refine Gp.of (CallWp.fn (fn := C.a202) rfl rfl rfl ?_)
  unfold C.a202
  by_cases h0 : n = 0
  · repeat' (with_reducible first | simp (disch := first | assumption | omega | (simp only [Hp.next_push, Hp.next_put, Hp.ov_next, Hp.clk_push, Hp.clk_put, Hp.ov_clk, List.length_cons, List.length_nil, List.length_append, List.length_map, List.length_take, List.length_drop, List.length_replicate, List.length_set, ne_eq, cells_int, cells_bool, cells_str, cells_ptr, cells_sl, cells_nils, cells_agg, one_int, one_bool, one_str, one_ptr, one_sl, one_nils, List.all_cons, List.all_nil, Bool.and_true, Bool.and_self, and_true, true_and, Nat.reduceAdd, Nat.reduceLeDiff] <;> omega) | fail) only [go_sem, ↓reduceIte, Nat.reduceEqDiff, Nat.reduceAdd, Nat.reduceBEq, Nat.reduceLeDiff, Nat.reduceMul, Nat.reduceLT, Nat.zero_add, Nat.add_zero, List.length_cons, List.length_nil, List.all_cons, List.all_nil, Bool.and_true, Bool.and_self, and_true, true_and, List.take_zero, List.take_succ_cons, List.take_nil, List.drop_zero, List.drop_succ_cons, List.drop_nil, List.nil_append, List.cons_append, List.getElem?_cons_zero, List.getElem?_cons_succ, Bool.false_eq_true, Int.toNat_zero, Int.reduceToNat, Int.toNat_natCast, reduceCtorEq, Int.reduceAdd, Int.reduceSub, Int.reduceMul, Int.reduceNeg, Int.reduceLT, Int.reduceLE, Int.reduceEq, Int.zero_add, Int.add_zero, AV.ptr.injEq, exists_eq_left, exists_eq_left', c262] | refine CondK.decN (fun hc => ?_) (fun hc => ?_) | refine GrdK.decN (fun hc => ?_) (fun hc => ?_) | refine PickK.decN (fun hc => ?_) (fun hc => ?_) | refine CondK.dec (fun hc => ?_) (fun hc => ?_) | refine GrdK.dec (fun hc => ?_) (fun hc => ?_) | refine DGrd.dec (fun hc => ?_) (fun hc => ?_) | refine PickK.dec (fun hc => ?_) (fun hc => ?_))
    refine ⟨.inl ⟨h0, rfl⟩, ?_⟩
    (try first | refine ⟨trivial, ?_⟩ | refine ⟨rfl, ?_⟩); (repeat (first | exact Grs.refl _ | assumption | refine Grs.push ?_ | refine Grs.ov ?_ | refine Grs.put ?_ (by (try simp only [Hp.next_push, Hp.next_put, Hp.ov_next, Hp.clk_push, Hp.clk_put, Hp.ov_clk]); omega)))
  · repeat' (with_reducible first | simp (disch := first | assumption | omega | (simp only [Hp.next_push, Hp.next_put, Hp.ov_next, Hp.clk_push, Hp.clk_put, Hp.ov_clk, List.length_cons, List.length_nil, List.length_append, List.length_map, List.length_take, List.length_drop, List.length_replicate, List.length_set, ne_eq, cells_int, cells_bool, cells_str, cells_ptr, cells_sl, cells_nils, cells_agg, one_int, one_bool, one_str, one_ptr, one_sl, one_nils, List.all_cons, List.all_nil, Bool.and_true, Bool.and_self, and_true, true_and, Nat.reduceAdd, Nat.reduceLeDiff] <;> omega) | fail) only [go_sem, ↓reduceIte, Nat.reduceEqDiff, Nat.reduceAdd, Nat.reduceBEq, Nat.reduceLeDiff, Nat.reduceMul, Nat.reduceLT, Nat.zero_add, Nat.add_zero, List.length_cons, List.length_nil, List.all_cons, List.all_nil, Bool.and_true, Bool.and_self, and_true, true_and, List.take_zero, List.take_succ_cons, List.take_nil, List.drop_zero, List.drop_succ_cons, List.drop_nil, List.nil_append, List.cons_append, List.getElem?_cons_zero, List.getElem?_cons_succ, Bool.false_eq_true, Int.toNat_zero, Int.reduceToNat, Int.toNat_natCast, reduceCtorEq, Int.reduceAdd, Int.reduceSub, Int.reduceMul, Int.reduceNeg, Int.reduceLT, Int.reduceLE, Int.reduceEq, Int.zero_add, Int.add_zero, AV.ptr.injEq, exists_eq_left, exists_eq_left', c262] | refine CondK.decN (fun hc => ?_) (fun hc => ?_) | refine GrdK.decN (fun hc => ?_) (fun hc => ?_) | refine PickK.decN (fun hc => ?_) (fun hc => ?_) | refine CondK.dec (fun hc => ?_) (fun hc => ?_) | refine GrdK.dec (fun hc => ?_) (fun hc => ?_) | refine DGrd.dec (fun hc => ?_) (fun hc => ?_) | refine PickK.dec (fun hc => ?_) (fun hc => ?_))
    refine ⟨.inr ⟨h0, _, _, rfl, Hp.push_same, ?_, ?_, ?_⟩, ?_⟩
    · (first | omega | (simp only [Hp.next_push, Hp.next_put, Hp.ov_next, Hp.clk_push, Hp.clk_put, Hp.ov_clk] <;> omega) | fail)
    · (first | omega | (simp only [Hp.next_push, Hp.next_put, Hp.ov_next, Hp.clk_push, Hp.clk_put, Hp.ov_clk] <;> omega) | fail)
    · (first | omega | (simp only [Hp.next_push, Hp.next_put, Hp.ov_next, Hp.clk_push, Hp.clk_put, Hp.ov_clk] <;> omega) | fail)
    · (try first | refine ⟨trivial, ?_⟩ | refine ⟨rfl, ?_⟩); (repeat (first | exact Grs.refl _ | assumption | refine Grs.push ?_ | refine Grs.ov ?_ | refine Grs.put ?_ (by (try simp only [Hp.next_push, Hp.next_put, Hp.ov_next, Hp.clk_push, Hp.clk_put, Hp.ov_clk]); omega)))
theorem c199s {n : Int} (hn : -9223372036854775808 ≤ n ∧ n ≤ 9223372036854775807) : Gv E2 199 [sI n] h (.int .i64 (bitLen n.natAbs : Nat)) := by
  refine Gv.of (CallWp.fn (fn := C.a199) rfl rfl rfl ?_)
  unfold C.a199
  have hb := bitLen_lt (n := n.natAbs) (k := 64) (by omega)
  repeat' (with_reducible first | simp (disch := first | assumption | omega | (simp only [Hp.next_push, Hp.next_put, Hp.ov_next, Hp.clk_push, Hp.clk_put, Hp.ov_clk, List.length_cons, List.length_nil, List.length_append, List.length_map, List.length_take, List.length_drop, List.length_replicate, List.length_set, ne_eq, cells_int, cells_bool, cells_str, cells_ptr, cells_sl, cells_nils, cells_agg, one_int, one_bool, one_str, one_ptr, one_sl, one_nils, List.all_cons, List.all_nil, Bool.and_true, Bool.and_self, and_true, true_and, Nat.reduceAdd, Nat.reduceLeDiff] <;> omega) | fail) only [go_sem, ↓reduceIte, Nat.reduceEqDiff, Nat.reduceAdd, Nat.reduceBEq, Nat.reduceLeDiff, Nat.reduceMul, Nat.reduceLT, Nat.zero_add, Nat.add_zero, List.length_cons, List.length_nil, List.all_cons, List.all_nil, Bool.and_true, Bool.and_self, and_true, true_and, List.take_zero, List.take_succ_cons, List.take_nil, List.drop_zero, List.drop_succ_cons, List.drop_nil, List.nil_append, List.cons_append, List.getElem?_cons_zero, List.getElem?_cons_succ, Bool.false_eq_true, Int.toNat_zero, Int.reduceToNat, Int.toNat_natCast, reduceCtorEq, Int.reduceAdd, Int.reduceSub, Int.reduceMul, Int.reduceNeg, Int.reduceLT, Int.reduceLE, Int.reduceEq, Int.zero_add, Int.add_zero, AV.ptr.injEq, exists_eq_left, exists_eq_left'] | refine CondK.decN (fun hc => ?_) (fun hc => ?_) | refine GrdK.decN (fun hc => ?_) (fun hc => ?_) | refine PickK.decN (fun hc => ?_) (fun hc => ?_) | refine CondK.dec (fun hc => ?_) (fun hc => ?_) | refine GrdK.dec (fun hc => ?_) (fun hc => ?_) | refine DGrd.dec (fun hc => ?_) (fun hc => ?_) | refine PickK.dec (fun hc => ?_) (fun hc => ?_))
  refine Gp.wp (c202s hn) fun v h' k j g hp => ?_
  rcases hp with ⟨h0, rfl⟩ | ⟨h0, t, st, rfl, hg, h1, h2, h3⟩
  · repeat' (with_reducible first | simp (disch := first | assumption | omega | (simp only [Hp.next_push, Hp.next_put, Hp.ov_next, Hp.clk_push, Hp.clk_put, Hp.ov_clk, List.length_cons, List.length_nil, List.length_append, List.length_map, List.length_take, List.length_drop, List.length_replicate, List.length_set, ne_eq, cells_int, cells_bool, cells_str, cells_ptr, cells_sl, cells_nils, cells_agg, one_int, one_bool, one_str, one_ptr, one_sl, one_nils, List.all_cons, List.all_nil, Bool.and_true, Bool.and_self, and_true, true_and, Nat.reduceAdd, Nat.reduceLeDiff] <;> omega) | fail) only [go_sem, ↓reduceIte, Nat.reduceEqDiff, Nat.reduceAdd, Nat.reduceBEq, Nat.reduceLeDiff, Nat.reduceMul, Nat.reduceLT, Nat.zero_add, Nat.add_zero, List.length_cons, List.length_nil, List.all_cons, List.all_nil, Bool.and_true, Bool.and_self, and_true, true_and, List.take_zero, List.take_succ_cons, List.take_nil, List.drop_zero, List.drop_succ_cons, List.drop_nil, List.nil_append, List.cons_append, List.getElem?_cons_zero, List.getElem?_cons_succ, Bool.false_eq_true, Int.toNat_zero, Int.reduceToNat, Int.toNat_natCast, reduceCtorEq, Int.reduceAdd, Int.reduceSub, Int.reduceMul, Int.reduceNeg, Int.reduceLT, Int.reduceLE, Int.reduceEq, Int.zero_add, Int.add_zero, AV.ptr.injEq, exists_eq_left, exists_eq_left'] | refine CondK.decN (fun hc => ?_) (fun hc => ?_) | refine GrdK.decN (fun hc => ?_) (fun hc => ?_) | refine PickK.decN (fun hc => ?_) (fun hc => ?_) | refine CondK.dec (fun hc => ?_) (fun hc => ?_) | refine GrdK.dec (fun hc => ?_) (fun hc => ?_) | refine DGrd.dec (fun hc => ?_) (fun hc => ?_) | refine PickK.dec (fun hc => ?_) (fun hc => ?_))
    subst h0
    refine ⟨rfl, ?_⟩
    (try first | refine ⟨trivial, ?_⟩ | refine ⟨rfl, ?_⟩); (repeat (first | exact Grs.refl _ | assumption | refine Grs.push ?_ | refine Grs.ov ?_ | refine Grs.put ?_ (by (try simp only [Hp.next_push, Hp.next_put, Hp.ov_next, Hp.clk_push, Hp.clk_put, Hp.ov_clk]); omega)))
  · repeat' (with_reducible first | simp (disch := first | assumption | omega | (simp only [Hp.next_push, Hp.next_put, Hp.ov_next, Hp.clk_push, Hp.clk_put, Hp.ov_clk, List.length_cons, List.length_nil, List.length_append, List.length_map, List.length_take, List.length_drop, List.length_replicate, List.length_set, ne_eq, cells_int, cells_bool, cells_str, cells_ptr, cells_sl, cells_nils, cells_agg, one_int, one_bool, one_str, one_ptr, one_sl, one_nils, List.all_cons, List.all_nil, Bool.and_true, Bool.and_self, and_true, true_and, Nat.reduceAdd, Nat.reduceLeDiff] <;> omega) | fail) only [go_sem, ↓reduceIte, Nat.reduceEqDiff, Nat.reduceAdd, Nat.reduceBEq, Nat.reduceLeDiff, Nat.reduceMul, Nat.reduceLT, Nat.zero_add, Nat.add_zero, List.length_cons, List.length_nil, List.all_cons, List.all_nil, Bool.and_true, Bool.and_self, and_true, true_and, List.take_zero, List.take_succ_cons, List.take_nil, List.drop_zero, List.drop_succ_cons, List.drop_nil, List.nil_append, List.cons_append, List.getElem?_cons_zero, List.getElem?_cons_succ, Bool.false_eq_true, Int.toNat_zero, Int.reduceToNat, Int.toNat_natCast, reduceCtorEq, Int.reduceAdd, Int.reduceSub, Int.reduceMul, Int.reduceNeg, Int.reduceLT, Int.reduceLE, Int.reduceEq, Int.zero_add, Int.add_zero, AV.ptr.injEq, exists_eq_left, exists_eq_left', hg, c266] | refine CondK.decN (fun hc => ?_) (fun hc => ?_) | refine GrdK.decN (fun hc => ?_) (fun hc => ?_) | refine PickK.decN (fun hc => ?_) (fun hc => ?_) | refine CondK.dec (fun hc => ?_) (fun hc => ?_) | refine GrdK.dec (fun hc => ?_) (fun hc => ?_) | refine DGrd.dec (fun hc => ?_) (fun hc => ?_) | refine PickK.dec (fun hc => ?_) (fun hc => ?_))
    (try first | refine ⟨trivial, ?_⟩ | refine ⟨rfl, ?_⟩); (repeat (first | exact Grs.refl _ | assumption | refine Grs.push ?_ | refine Grs.ov ?_ | refine Grs.put ?_ (by (try simp only [Hp.next_push, Hp.next_put, Hp.ov_next, Hp.clk_push, Hp.clk_put, Hp.ov_clk]); omega)))
/-- A power. -/
theorem c198s {a k : Nat} (ha : 1 ≤ a) (hk : a ^ k ≤ 9223372036854775807) (hk' : k ≤ 1000000) : Gv E2 198 [sI a, .int .i64 k] h (sI (a ^ k : Nat)) := by
  refine Gv.of (CallWp.fn (fn := C.a198) rfl rfl rfl ?_)
  unfold C.a198
  repeat' (with_reducible first | simp (disch := first | assumption | omega | (simp only [Hp.next_push, Hp.next_put, Hp.ov_next, Hp.clk_push, Hp.clk_put, Hp.ov_clk, List.length_cons, List.length_nil, List.length_append, List.length_map, List.length_take, List.length_drop, List.length_replicate, List.length_set, ne_eq, cells_int, cells_bool, cells_str, cells_ptr, cells_sl, cells_nils, cells_agg, one_int, one_bool, one_str, one_ptr, one_sl, one_nils, List.all_cons, List.all_nil, Bool.and_true, Bool.and_self, and_true, true_and, Nat.reduceAdd, Nat.reduceLeDiff] <;> omega) | fail) only [go_sem, ↓reduceIte, Nat.reduceEqDiff, Nat.reduceAdd, Nat.reduceBEq, Nat.reduceLeDiff, Nat.reduceMul, Nat.reduceLT, Nat.zero_add, Nat.add_zero, List.length_cons, List.length_nil, List.all_cons, List.all_nil, Bool.and_true, Bool.and_self, and_true, true_and, List.take_zero, List.take_succ_cons, List.take_nil, List.drop_zero, List.drop_succ_cons, List.drop_nil, List.nil_append, List.cons_append, List.getElem?_cons_zero, List.getElem?_cons_succ, Bool.false_eq_true, Int.toNat_zero, Int.reduceToNat, Int.toNat_natCast, reduceCtorEq, Int.reduceAdd, Int.reduceSub, Int.reduceMul, Int.reduceNeg, Int.reduceLT, Int.reduceLE, Int.reduceEq, Int.zero_add, Int.add_zero, AV.ptr.injEq, exists_eq_left, exists_eq_left'] | (refine Gv.wp (c120) fun _ _ _ _ => ?_) | refine CondK.decN (fun hc => ?_) (fun hc => ?_) | refine GrdK.decN (fun hc => ?_) (fun hc => ?_) | refine PickK.decN (fun hc => ?_) (fun hc => ?_) | refine CondK.dec (fun hc => ?_) (fun hc => ?_) | refine GrdK.dec (fun hc => ?_) (fun hc => ?_) | refine DGrd.dec (fun hc => ?_) (fun hc => ?_) | refine PickK.dec (fun hc => ?_) (fun hc => ?_))
  refine Wp.loopI (fun m s => ∃ x y k' : Nat, val s.tm (.t 1) = .int .i64 k' ∧ val s.tm (.t 2) = .ptr h.next 0 ∧ val s.tm (.t 4) = .ptr (h.next + 1) 0 ∧ ∃ t5, val s.tm (.t 5) = .ptr t5 0 ∧ At s.hp t5 [.int .i64 y, .nils] ∧ At s.hp h.next [.int .i64 x, .nils] ∧ At s.hp (h.next + 1) [.int .i64 0, .nils] ∧
    (h.next + 1 < t5 ∧ t5 < s.hp.next ∧ y * x ^ k' = a ^ k ∧ 1 ≤ y ∧ 1 ≤ x ∧ k' ≤ 1000000 ∧ k' = m) ∧ Grs h s.hp) (n := k) ?_ ?_
  · refine ⟨a, 1, k, ?_⟩
    simp (disch := first | assumption | omega | (simp only [Hp.next_push, Hp.next_put, Hp.ov_next, Hp.clk_push, Hp.clk_put, Hp.ov_clk, List.length_cons, List.length_nil, List.length_append, List.length_map, List.length_take, List.length_drop, List.length_replicate, List.length_set, ne_eq, cells_int, cells_bool, cells_str, cells_ptr, cells_sl, cells_nils, cells_agg, one_int, one_bool, one_str, one_ptr, one_sl, one_nils, List.all_cons, List.all_nil, Bool.and_true, Bool.and_self, and_true, true_and, Nat.reduceAdd, Nat.reduceLeDiff] <;> omega) | fail) only [go_sem, ↓reduceIte, Nat.reduceEqDiff, Nat.reduceAdd, Nat.reduceBEq, Nat.reduceLeDiff, Nat.reduceMul, Nat.reduceLT, Nat.zero_add, Nat.add_zero, List.length_cons, List.length_nil, List.all_cons, List.all_nil, Bool.and_true, Bool.and_self, and_true, true_and, List.take_zero, List.take_succ_cons, List.take_nil, List.drop_zero, List.drop_succ_cons, List.drop_nil, List.nil_append, List.cons_append, List.getElem?_cons_zero, List.getElem?_cons_succ, Bool.false_eq_true, Int.toNat_zero, Int.reduceToNat, Int.toNat_natCast, reduceCtorEq, Int.reduceAdd, Int.reduceSub, Int.reduceMul, Int.reduceNeg, Int.reduceLT, Int.reduceLE, Int.reduceEq, Int.zero_add, Int.add_zero, AV.ptr.injEq, exists_eq_left, exists_eq_left']
    refine ⟨⟨by omega, by omega, by omega, ha, hk'⟩, ?_⟩
    (try first | refine ⟨trivial, ?_⟩ | refine ⟨rfl, ?_⟩); (repeat (first | exact Grs.refl _ | assumption | refine Grs.push ?_ | refine Grs.ov ?_ | refine Grs.put ?_ (by (try simp only [Hp.next_push, Hp.next_put, Hp.ov_next, Hp.clk_push, Hp.clk_put, Hp.ov_clk]); omega)))
  · rintro m ⟨tm, hp⟩ ⟨x, y, k', h1, h2, h4, t5, h5, ⟨s5, g5⟩, ⟨s0, g0⟩, ⟨s1, g1⟩, ⟨n1, n2, heq, hy, hx, hk2, rfl⟩, G⟩
    simp only at h1 h2 h4 h5 g5 g0 g1 n2 G
    have A5 : At hp t5 [.int .i64 y, .nils] := ⟨_, g5⟩
    have A0 : At hp h.next [.int .i64 x, .nils] := ⟨_, g0⟩
    have A1 : At hp (h.next + 1) [.int .i64 0, .nils] := ⟨_, g1⟩
    rcases Nat.eq_zero_or_pos k' with rfl | hp0
    · have e1 : ((0 : Nat) : Int) = 0 := rfl
      have hyv : y = a ^ k := by rw [← heq]; simp
      repeat' (with_reducible first | simp (disch := first | assumption | omega | (simp only [Hp.next_push, Hp.next_put, Hp.ov_next, Hp.clk_push, Hp.clk_put, Hp.ov_clk, List.length_cons, List.length_nil, List.length_append, List.length_map, List.length_take, List.length_drop, List.length_replicate, List.length_set, ne_eq, cells_int, cells_bool, cells_str, cells_ptr, cells_sl, cells_nils, cells_agg, one_int, one_bool, one_str, one_ptr, one_sl, one_nils, List.all_cons, List.all_nil, Bool.and_true, Bool.and_self, and_true, true_and, Nat.reduceAdd, Nat.reduceLeDiff] <;> omega) | fail) only [go_sem, ↓reduceIte, Nat.reduceEqDiff, Nat.reduceAdd, Nat.reduceBEq, Nat.reduceLeDiff, Nat.reduceMul, Nat.reduceLT, Nat.zero_add, Nat.add_zero, List.length_cons, List.length_nil, List.all_cons, List.all_nil, Bool.and_true, Bool.and_self, and_true, true_and, List.take_zero, List.take_succ_cons, List.take_nil, List.drop_zero, List.drop_succ_cons, List.drop_nil, List.nil_append, List.cons_append, List.getElem?_cons_zero, List.getElem?_cons_succ, Bool.false_eq_true, Int.toNat_zero, Int.reduceToNat, Int.toNat_natCast, reduceCtorEq, Int.reduceAdd, Int.reduceSub, Int.reduceMul, Int.reduceNeg, Int.reduceLT, Int.reduceLE, Int.reduceEq, Int.zero_add, Int.add_zero, AV.ptr.injEq, exists_eq_left, exists_eq_left', h1, h2, h4, h5, g5, g0, g1] | refine CondK.decN (fun hc => ?_) (fun hc => ?_) | refine GrdK.decN (fun hc => ?_) (fun hc => ?_) | refine PickK.decN (fun hc => ?_) (fun hc => ?_) | refine CondK.dec (fun hc => ?_) (fun hc => ?_) | refine GrdK.dec (fun hc => ?_) (fun hc => ?_) | refine DGrd.dec (fun hc => ?_) (fun hc => ?_) | refine PickK.dec (fun hc => ?_) (fun hc => ?_))
      subst hyv
      (try first | refine ⟨trivial, ?_⟩ | refine ⟨rfl, ?_⟩); (repeat (first | exact Grs.refl _ | assumption | refine Grs.push ?_ | refine Grs.ov ?_ | refine Grs.put ?_ (by (try simp only [Hp.next_push, Hp.next_put, Hp.ov_next, Hp.clk_push, Hp.clk_put, Hp.ov_clk]); omega)))
    · have bx : x ≤ x ^ k' := Nat.le_self_pow (by omega) x
      have by_ : y * x ^ k' ≤ 9223372036854775807 := by omega
      have b1 : y * x ≤ y * x ^ k' := Nat.mul_le_mul_left y bx
      have b2 : 2 ≤ k' → x * x ≤ x ^ k' := fun e => by
        have := Nat.pow_le_pow_right hx e
        rwa [Nat.pow_two] at this
      have b3 : x ^ k' ≤ y * x ^ k' := Nat.le_mul_of_pos_left _ hy
      have b4 : y ≤ y * x ^ k' := Nat.le_mul_of_pos_right _ (by omega)
      have b5 : 2 ≤ k' → x * x ≤ 9223372036854775807 := fun e => by have := b2 e; omega
      have p2 : x ^ k' = (x * x) ^ (k' / 2) * x ^ (k' % 2) := by
        rw [← Nat.pow_two, ← Nat.pow_mul, ← Nat.pow_add, Nat.div_add_mod]
      have x2 : 1 ≤ x * x := Nat.mul_pos hx hx
      rcases Nat.mod_two_eq_zero_or_one k' with hm | hm
      · have k1 : 1 < (k' : Int) := by omega
        repeat' (with_reducible first | simp (disch := first | assumption | omega | (simp only [Hp.next_push, Hp.next_put, Hp.ov_next, Hp.clk_push, Hp.clk_put, Hp.ov_clk, List.length_cons, List.length_nil, List.length_append, List.length_map, List.length_take, List.length_drop, List.length_replicate, List.length_set, ne_eq, cells_int, cells_bool, cells_str, cells_ptr, cells_sl, cells_nils, cells_agg, one_int, one_bool, one_str, one_ptr, one_sl, one_nils, List.all_cons, List.all_nil, Bool.and_true, Bool.and_self, and_true, true_and, Nat.reduceAdd, Nat.reduceLeDiff] <;> omega) | fail) only [go_sem, ↓reduceIte, Nat.reduceEqDiff, Nat.reduceAdd, Nat.reduceBEq, Nat.reduceLeDiff, Nat.reduceMul, Nat.reduceLT, Nat.zero_add, Nat.add_zero, List.length_cons, List.length_nil, List.all_cons, List.all_nil, Bool.and_true, Bool.and_self, and_true, true_and, List.take_zero, List.take_succ_cons, List.take_nil, List.drop_zero, List.drop_succ_cons, List.drop_nil, List.nil_append, List.cons_append, List.getElem?_cons_zero, List.getElem?_cons_succ, Bool.false_eq_true, Int.toNat_zero, Int.reduceToNat, Int.toNat_natCast, reduceCtorEq, Int.reduceAdd, Int.reduceSub, Int.reduceMul, Int.reduceNeg, Int.reduceLT, Int.reduceLE, Int.reduceEq, Int.zero_add, Int.add_zero, AV.ptr.injEq, exists_eq_left, exists_eq_left', h1, h2, h4, h5, g5, g0, g1, b_and1, b_shr1, hm] | (refine Gv.wp (m195 (b5 (by omega)) (by omega) (by omega)) fun _ _ _ _ => ?_) | refine CondK.decN (fun hc => ?_) (fun hc => ?_) | refine GrdK.decN (fun hc => ?_) (fun hc => ?_) | refine PickK.decN (fun hc => ?_) (fun hc => ?_) | refine CondK.dec (fun hc => ?_) (fun hc => ?_) | refine GrdK.dec (fun hc => ?_) (fun hc => ?_) | refine DGrd.dec (fun hc => ?_) (fun hc => ?_) | refine PickK.dec (fun hc => ?_) (fun hc => ?_))
        refine ⟨k' / 2, by omega, x * x, y, k' / 2, ?_⟩
        simp (disch := first | assumption | omega | (simp only [Hp.next_push, Hp.next_put, Hp.ov_next, Hp.clk_push, Hp.clk_put, Hp.ov_clk, List.length_cons, List.length_nil, List.length_append, List.length_map, List.length_take, List.length_drop, List.length_replicate, List.length_set, ne_eq, cells_int, cells_bool, cells_str, cells_ptr, cells_sl, cells_nils, cells_agg, one_int, one_bool, one_str, one_ptr, one_sl, one_nils, List.all_cons, List.all_nil, Bool.and_true, Bool.and_self, and_true, true_and, Nat.reduceAdd, Nat.reduceLeDiff] <;> omega) | fail) only [go_sem, ↓reduceIte, Nat.reduceEqDiff, Nat.reduceAdd, Nat.reduceBEq, Nat.reduceLeDiff, Nat.reduceMul, Nat.reduceLT, Nat.zero_add, Nat.add_zero, List.length_cons, List.length_nil, List.all_cons, List.all_nil, Bool.and_true, Bool.and_self, and_true, true_and, List.take_zero, List.take_succ_cons, List.take_nil, List.drop_zero, List.drop_succ_cons, List.drop_nil, List.nil_append, List.cons_append, List.getElem?_cons_zero, List.getElem?_cons_succ, Bool.false_eq_true, Int.toNat_zero, Int.reduceToNat, Int.toNat_natCast, reduceCtorEq, Int.reduceAdd, Int.reduceSub, Int.reduceMul, Int.reduceNeg, Int.reduceLT, Int.reduceLE, Int.reduceEq, Int.zero_add, Int.add_zero, AV.ptr.injEq, exists_eq_left, exists_eq_left', h1, h2, h4, h5, A5, A0, A1]
        rw [hm, Nat.pow_zero, Nat.mul_one] at p2
        refine ⟨⟨n1, by omega, by rw [← p2, heq], hy, x2, by omega⟩, ?_⟩
        (try first | refine ⟨trivial, ?_⟩ | refine ⟨rfl, ?_⟩); (repeat (first | exact Grs.refl _ | assumption | refine Grs.push ?_ | refine Grs.ov ?_ | refine Grs.put ?_ (by (try simp only [Hp.next_push, Hp.next_put, Hp.ov_next, Hp.clk_push, Hp.clk_put, Hp.ov_clk]); omega)))
      · by_cases k1 : 1 < (k' : Int)
        · repeat' (with_reducible first | simp (disch := first | assumption | omega | (simp only [Hp.next_push, Hp.next_put, Hp.ov_next, Hp.clk_push, Hp.clk_put, Hp.ov_clk, List.length_cons, List.length_nil, List.length_append, List.length_map, List.length_take, List.length_drop, List.length_replicate, List.length_set, ne_eq, cells_int, cells_bool, cells_str, cells_ptr, cells_sl, cells_nils, cells_agg, one_int, one_bool, one_str, one_ptr, one_sl, one_nils, List.all_cons, List.all_nil, Bool.and_true, Bool.and_self, and_true, true_and, Nat.reduceAdd, Nat.reduceLeDiff] <;> omega) | fail) only [go_sem, ↓reduceIte, Nat.reduceEqDiff, Nat.reduceAdd, Nat.reduceBEq, Nat.reduceLeDiff, Nat.reduceMul, Nat.reduceLT, Nat.zero_add, Nat.add_zero, List.length_cons, List.length_nil, List.all_cons, List.all_nil, Bool.and_true, Bool.and_self, and_true, true_and, List.take_zero, List.take_succ_cons, List.take_nil, List.drop_zero, List.drop_succ_cons, List.drop_nil, List.nil_append, List.cons_append, List.getElem?_cons_zero, List.getElem?_cons_succ, Bool.false_eq_true, Int.toNat_zero, Int.reduceToNat, Int.toNat_natCast, reduceCtorEq, Int.reduceAdd, Int.reduceSub, Int.reduceMul, Int.reduceNeg, Int.reduceLT, Int.reduceLE, Int.reduceEq, Int.zero_add, Int.add_zero, AV.ptr.injEq, exists_eq_left, exists_eq_left', h1, h2, h4, h5, g5, g0, g1, b_and1, b_shr1, hm] | (refine Gv.wp (m195 (show y * x ≤ _ by omega) (by omega) (by omega)) fun _ _ _ _ => ?_) | (refine Gv.wp (m195 (b5 (by omega)) (by omega) (by omega)) fun _ _ _ _ => ?_) | refine CondK.decN (fun hc => ?_) (fun hc => ?_) | refine GrdK.decN (fun hc => ?_) (fun hc => ?_) | refine PickK.decN (fun hc => ?_) (fun hc => ?_) | refine CondK.dec (fun hc => ?_) (fun hc => ?_) | refine GrdK.dec (fun hc => ?_) (fun hc => ?_) | refine DGrd.dec (fun hc => ?_) (fun hc => ?_) | refine PickK.dec (fun hc => ?_) (fun hc => ?_))
          refine ⟨k' / 2, by omega, x * x, y * x, k' / 2, ?_⟩
          simp (disch := first | assumption | omega | (simp only [Hp.next_push, Hp.next_put, Hp.ov_next, Hp.clk_push, Hp.clk_put, Hp.ov_clk, List.length_cons, List.length_nil, List.length_append, List.length_map, List.length_take, List.length_drop, List.length_replicate, List.length_set, ne_eq, cells_int, cells_bool, cells_str, cells_ptr, cells_sl, cells_nils, cells_agg, one_int, one_bool, one_str, one_ptr, one_sl, one_nils, List.all_cons, List.all_nil, Bool.and_true, Bool.and_self, and_true, true_and, Nat.reduceAdd, Nat.reduceLeDiff] <;> omega) | fail) only [go_sem, ↓reduceIte, Nat.reduceEqDiff, Nat.reduceAdd, Nat.reduceBEq, Nat.reduceLeDiff, Nat.reduceMul, Nat.reduceLT, Nat.zero_add, Nat.add_zero, List.length_cons, List.length_nil, List.all_cons, List.all_nil, Bool.and_true, Bool.and_self, and_true, true_and, List.take_zero, List.take_succ_cons, List.take_nil, List.drop_zero, List.drop_succ_cons, List.drop_nil, List.nil_append, List.cons_append, List.getElem?_cons_zero, List.getElem?_cons_succ, Bool.false_eq_true, Int.toNat_zero, Int.reduceToNat, Int.toNat_natCast, reduceCtorEq, Int.reduceAdd, Int.reduceSub, Int.reduceMul, Int.reduceNeg, Int.reduceLT, Int.reduceLE, Int.reduceEq, Int.zero_add, Int.add_zero, AV.ptr.injEq, exists_eq_left, exists_eq_left', h1, h2, h4, h5, A5, A0, A1]
          rw [hm, Nat.pow_one] at p2
          refine ⟨⟨n1, by omega, by rw [← heq, p2, Nat.mul_assoc, Nat.mul_comm x], Nat.mul_pos hy hx, x2, by omega⟩, ?_⟩
          (try first | refine ⟨trivial, ?_⟩ | refine ⟨rfl, ?_⟩); (repeat (first | exact Grs.refl _ | assumption | refine Grs.push ?_ | refine Grs.ov ?_ | refine Grs.put ?_ (by (try simp only [Hp.next_push, Hp.next_put, Hp.ov_next, Hp.clk_push, Hp.clk_put, Hp.ov_clk]); omega)))
        · repeat' (with_reducible first | simp (disch := first | assumption | omega | (simp only [Hp.next_push, Hp.next_put, Hp.ov_next, Hp.clk_push, Hp.clk_put, Hp.ov_clk, List.length_cons, List.length_nil, List.length_append, List.length_map, List.length_take, List.length_drop, List.length_replicate, List.length_set, ne_eq, cells_int, cells_bool, cells_str, cells_ptr, cells_sl, cells_nils, cells_agg, one_int, one_bool, one_str, one_ptr, one_sl, one_nils, List.all_cons, List.all_nil, Bool.and_true, Bool.and_self, and_true, true_and, Nat.reduceAdd, Nat.reduceLeDiff] <;> omega) | fail) only [go_sem, ↓reduceIte, Nat.reduceEqDiff, Nat.reduceAdd, Nat.reduceBEq, Nat.reduceLeDiff, Nat.reduceMul, Nat.reduceLT, Nat.zero_add, Nat.add_zero, List.length_cons, List.length_nil, List.all_cons, List.all_nil, Bool.and_true, Bool.and_self, and_true, true_and, List.take_zero, List.take_succ_cons, List.take_nil, List.drop_zero, List.drop_succ_cons, List.drop_nil, List.nil_append, List.cons_append, List.getElem?_cons_zero, List.getElem?_cons_succ, Bool.false_eq_true, Int.toNat_zero, Int.reduceToNat, Int.toNat_natCast, reduceCtorEq, Int.reduceAdd, Int.reduceSub, Int.reduceMul, Int.reduceNeg, Int.reduceLT, Int.reduceLE, Int.reduceEq, Int.zero_add, Int.add_zero, AV.ptr.injEq, exists_eq_left, exists_eq_left', h1, h2, h4, h5, g5, g0, g1, b_and1, b_shr1, hm] | (refine Gv.wp (m195 (show y * x ≤ _ by omega) (by omega) (by omega)) fun _ _ _ _ => ?_) | refine CondK.decN (fun hc => ?_) (fun hc => ?_) | refine GrdK.decN (fun hc => ?_) (fun hc => ?_) | refine PickK.decN (fun hc => ?_) (fun hc => ?_) | refine CondK.dec (fun hc => ?_) (fun hc => ?_) | refine GrdK.dec (fun hc => ?_) (fun hc => ?_) | refine DGrd.dec (fun hc => ?_) (fun hc => ?_) | refine PickK.dec (fun hc => ?_) (fun hc => ?_))
          refine ⟨k' / 2, by omega, x, y * x, k' / 2, ?_⟩
          simp (disch := first | assumption | omega | (simp only [Hp.next_push, Hp.next_put, Hp.ov_next, Hp.clk_push, Hp.clk_put, Hp.ov_clk, List.length_cons, List.length_nil, List.length_append, List.length_map, List.length_take, List.length_drop, List.length_replicate, List.length_set, ne_eq, cells_int, cells_bool, cells_str, cells_ptr, cells_sl, cells_nils, cells_agg, one_int, one_bool, one_str, one_ptr, one_sl, one_nils, List.all_cons, List.all_nil, Bool.and_true, Bool.and_self, and_true, true_and, Nat.reduceAdd, Nat.reduceLeDiff] <;> omega) | fail) only [go_sem, ↓reduceIte, Nat.reduceEqDiff, Nat.reduceAdd, Nat.reduceBEq, Nat.reduceLeDiff, Nat.reduceMul, Nat.reduceLT, Nat.zero_add, Nat.add_zero, List.length_cons, List.length_nil, List.all_cons, List.all_nil, Bool.and_true, Bool.and_self, and_true, true_and, List.take_zero, List.take_succ_cons, List.take_nil, List.drop_zero, List.drop_succ_cons, List.drop_nil, List.nil_append, List.cons_append, List.getElem?_cons_zero, List.getElem?_cons_succ, Bool.false_eq_true, Int.toNat_zero, Int.reduceToNat, Int.toNat_natCast, reduceCtorEq, Int.reduceAdd, Int.reduceSub, Int.reduceMul, Int.reduceNeg, Int.reduceLT, Int.reduceLE, Int.reduceEq, Int.zero_add, Int.add_zero, AV.ptr.injEq, exists_eq_left, exists_eq_left', h1, h2, h4, h5, A5, A0, A1]
          have k1' : k' = 1 := by omega
          refine ⟨⟨n1, by omega, by rw [← heq, k1']; simp, Nat.mul_pos hy hx, hx, by omega⟩, ?_⟩
          (try first | refine ⟨trivial, ?_⟩ | refine ⟨rfl, ?_⟩); (repeat (first | exact Grs.refl _ | assumption | refine Grs.push ?_ | refine Grs.ov ?_ | refine Grs.put ?_ (by (try simp only [Hp.next_push, Hp.next_put, Hp.ov_next, Hp.clk_push, Hp.clk_put, Hp.ov_clk]); omega)))
end
end Go.Ae


/- Small whole numbers of the program's own arithmetic: square roots. -/
set_option linter.unusedVariables false
set_option linter.unusedSimpArgs false
set_option maxRecDepth 100000
namespace Go.Ae
open Go.Proofs
/-- The greatest number whose square is at most n. -/
def isq : Nat → Nat
  | 0 => 0
  | n + 1 => if (isq n + 1) * (isq n + 1) ≤ n + 1 then isq n + 1 else isq n
theorem isq_spec : ∀ n, isq n * isq n ≤ n ∧ n < (isq n + 1) * (isq n + 1)
  | 0 => by decide
  | n + 1 => by
    have ⟨h1, h2⟩ := isq_spec n
    simp only [isq]
    split
    · rename_i hc
      refine ⟨hc, ?_⟩
      have : (isq n + 1 + 1) * (isq n + 1 + 1) = (isq n + 1) * (isq n + 1) + 2 * (isq n + 1) + 1 := by
        simp only [Nat.add_mul, Nat.mul_add]; omega
      omega
    · exact ⟨by omega, by omega⟩
theorem isq_eq {n r : Nat} (h1 : r * r ≤ n) (h2 : n < (r + 1) * (r + 1)) : r = isq n := by
  have ⟨h3, h4⟩ := isq_spec n
  rcases Nat.lt_trichotomy r (isq n) with h | h | h
  · have := Nat.mul_le_mul (show r + 1 ≤ isq n by omega) (show r + 1 ≤ isq n by omega); omega
  · exact h
  · have := Nat.mul_le_mul (show isq n + 1 ≤ r by omega) (show isq n + 1 ≤ r by omega); omega
/-- One step of Newton's does not pass the root. -/
theorem newton_ge {n x : Nat} (hx : 0 < x) (h : n < (x + 1) * (x + 1)) : n < ((x + n / x) / 2 + 1) * ((x + n / x) / 2 + 1) := by
  have ⟨h3, h4⟩ := isq_spec n
  have key : isq n ≤ (x + n / x) / 2 := by
    rcases Nat.lt_or_ge ((x + n / x) / 2) (isq n) with hl | hl
    · exfalso
      have e1 : n < (n / x + 1) * x := by
        have := Nat.lt_mul_div_succ n hx; rw [Nat.mul_comm]; exact this
      have e2 : n / x + 1 + x ≤ 2 * isq n := by omega
      have e3 : ((n / x + 1 : Nat) : Int) * x ≤ (isq n : Int) * isq n := by
        have q1 : ((n / x + 1 : Nat) : Int) ≤ 2 * isq n - x := by omega
        have q2 := Int.mul_le_mul_of_nonneg_right q1 (show (0 : Int) ≤ x by omega)
        have q3 : 0 ≤ ((isq n : Int) - x) * ((isq n : Int) - x) := by
          rcases Int.le_total 0 ((isq n : Int) - x) with hh | hh
          · exact Int.mul_nonneg hh hh
          · exact Int.mul_nonneg_of_nonpos_of_nonpos hh hh
        have q4 : ((isq n : Int) - x) * ((isq n : Int) - x) = (isq n : Int) * isq n - 2 * (isq n * x) + x * x := by
          rw [Int.sub_mul, Int.mul_sub, Int.mul_sub, Int.mul_comm (x : Int) (isq n)]; omega
        have q5 : (2 * (isq n : Int) - x) * x = 2 * (isq n * x) - x * x := by
          rw [Int.sub_mul, Int.mul_assoc]
        omega
      have e4 : (n / x + 1) * x ≤ isq n * isq n := by
        have : (((n / x + 1) * x : Nat) : Int) ≤ ((isq n * isq n : Nat) : Int) := by rw [Int.natCast_mul, Int.natCast_mul]; exact e3
        exact Int.ofNat_le.1 this
      omega
    · exact hl
  have := Nat.mul_le_mul (show isq n + 1 ≤ (x + n / x) / 2 + 1 by omega) (show isq n + 1 ≤ (x + n / x) / 2 + 1 by omega)
  omega
theorem newton_end {n x : Nat} (hx : 0 < x) (h : n < (x + 1) * (x + 1)) (he : x ≤ (x + n / x) / 2) : x = isq n := by
  refine isq_eq ?_ h
  have h1 : x ≤ n / x := by omega
  have := Nat.mul_le_mul_left x h1
  have h2 := Nat.mul_div_le n x
  omega
theorem newton_first (n : Nat) : n < (2 ^ ((bitLen n + 1) / 2) + 1) * (2 ^ ((bitLen n + 1) / 2) + 1) := by
  have h1 : n < 2 ^ bitLen n := bitLen_le (Nat.le_refl _)
  have h2 : 2 ^ bitLen n ≤ 2 ^ ((bitLen n + 1) / 2 + (bitLen n + 1) / 2) := Nat.pow_le_pow_right (by decide) (by omega)
  rw [Nat.pow_add] at h2
  have := Nat.mul_le_mul (show 2 ^ ((bitLen n + 1) / 2) ≤ 2 ^ ((bitLen n + 1) / 2) + 1 by omega) (show 2 ^ ((bitLen n + 1) / 2) ≤ 2 ^ ((bitLen n + 1) / 2) + 1 by omega)
  omega
section
variable {h : Hp} {K : AV → Hp → Prop}
theorem m197 {a b : Nat} (ha : a ≤ 9223372036854775807) (hb : 0 < b ∧ b ≤ 9223372036854775807) : Gv E2 197 [sI a, sI b] h (.tup [sI (a / b : Nat), sI (a % b : Nat)]) := by
  have := c197 (h := h) (a := a) (b := b) (by omega) (by omega)
  rw [Int.fdiv_eq_ediv_of_nonneg _ (by omega), Int.fmod_eq_emod_of_nonneg _ (by omega)] at this
  exact this
theorem m197_2 {a : Nat} (ha : a ≤ 9223372036854775807) : Gv E2 197 [sI a, sI 2] h (.tup [sI (a / 2 : Nat), sI (a % 2 : Nat)]) := m197 (b := 2) ha (by omega)
theorem m121 {a b : Nat} (hab : a + b ≤ 9223372036854775807) : Gv E2 121 [sI a, sI b] h (sI (a + b : Nat)) := by
  have := c121 (h := h) (a := a) (b := b) (by omega)
  exact this
theorem c118s {n : Nat} (hn : n < 4611686018427387904) : Gv E2 118 [sI n] h (sI (isq n)) := by
  refine Gv.of (CallWp.fn (fn := C.a118) rfl rfl rfl ?_)
  unfold C.a118
  have hb : bitLen n ≤ 62 := bitLen_lt (k := 62) hn
  rcases Nat.eq_zero_or_pos n with rfl | hp
  · repeat' (with_reducible first | simp (disch := first | assumption | omega | (simp only [Hp.next_push, Hp.next_put, Hp.ov_next, Hp.clk_push, Hp.clk_put, Hp.ov_clk, List.length_cons, List.length_nil, List.length_append, List.length_map, List.length_take, List.length_drop, List.length_replicate, List.length_set, ne_eq, cells_int, cells_bool, cells_str, cells_ptr, cells_sl, cells_nils, cells_agg, one_int, one_bool, one_str, one_ptr, one_sl, one_nils, List.all_cons, List.all_nil, Bool.and_true, Bool.and_self, and_true, true_and, Nat.reduceAdd, Nat.reduceLeDiff] <;> omega) | fail) only [go_sem, ↓reduceIte, Nat.reduceEqDiff, Nat.reduceAdd, Nat.reduceBEq, Nat.reduceLeDiff, Nat.reduceMul, Nat.reduceLT, Nat.zero_add, Nat.add_zero, List.length_cons, List.length_nil, List.all_cons, List.all_nil, Bool.and_true, Bool.and_self, and_true, true_and, List.take_zero, List.take_succ_cons, List.take_nil, List.drop_zero, List.drop_succ_cons, List.drop_nil, List.nil_append, List.cons_append, List.getElem?_cons_zero, List.getElem?_cons_succ, Bool.false_eq_true, Int.toNat_zero, Int.reduceToNat, Int.toNat_natCast, reduceCtorEq, Int.reduceAdd, Int.reduceSub, Int.reduceMul, Int.reduceNeg, Int.reduceLT, Int.reduceLE, Int.reduceEq, Int.zero_add, Int.add_zero, AV.ptr.injEq, exists_eq_left, exists_eq_left'] | (refine Gv.wp (c194) fun _ _ _ _ => ?_) | refine CondK.decN (fun hc => ?_) (fun hc => ?_) | refine GrdK.decN (fun hc => ?_) (fun hc => ?_) | refine PickK.decN (fun hc => ?_) (fun hc => ?_) | refine CondK.dec (fun hc => ?_) (fun hc => ?_) | refine GrdK.dec (fun hc => ?_) (fun hc => ?_) | refine DGrd.dec (fun hc => ?_) (fun hc => ?_) | refine PickK.dec (fun hc => ?_) (fun hc => ?_))
    (try first | refine ⟨trivial, ?_⟩ | refine ⟨rfl, ?_⟩); (repeat (first | exact Grs.refl _ | assumption | refine Grs.push ?_ | refine Grs.ov ?_ | refine Grs.put ?_ (by (try simp only [Hp.next_push, Hp.next_put, Hp.ov_next, Hp.clk_push, Hp.clk_put, Hp.ov_clk]); omega)))
  have e1 : max (-1) (min 1 (n : Int)) = 1 := by omega
  have e2 : ((bitLen n : Int) + 1) / 2 = ((bitLen n + 1) / 2 : Nat) := by omega
  have e3 : 2 ^ ((bitLen n + 1) / 2) ≤ 2 ^ 31 := Nat.pow_le_pow_right (by decide) (by omega)
  have e4 : 1 ≤ 2 ^ ((bitLen n + 1) / 2) := Nat.one_le_two_pow
  repeat' (with_reducible first | simp (disch := first | assumption | omega | (simp only [Hp.next_push, Hp.next_put, Hp.ov_next, Hp.clk_push, Hp.clk_put, Hp.ov_clk, List.length_cons, List.length_nil, List.length_append, List.length_map, List.length_take, List.length_drop, List.length_replicate, List.length_set, ne_eq, cells_int, cells_bool, cells_str, cells_ptr, cells_sl, cells_nils, cells_agg, one_int, one_bool, one_str, one_ptr, one_sl, one_nils, List.all_cons, List.all_nil, Bool.and_true, Bool.and_self, and_true, true_and, Nat.reduceAdd, Nat.reduceLeDiff] <;> omega) | fail) only [go_sem, ↓reduceIte, Nat.reduceEqDiff, Nat.reduceAdd, Nat.reduceBEq, Nat.reduceLeDiff, Nat.reduceMul, Nat.reduceLT, Nat.zero_add, Nat.add_zero, List.length_cons, List.length_nil, List.all_cons, List.all_nil, Bool.and_true, Bool.and_self, and_true, true_and, List.take_zero, List.take_succ_cons, List.take_nil, List.drop_zero, List.drop_succ_cons, List.drop_nil, List.nil_append, List.cons_append, List.getElem?_cons_zero, List.getElem?_cons_succ, Bool.false_eq_true, Int.toNat_zero, Int.reduceToNat, Int.toNat_natCast, reduceCtorEq, Int.reduceAdd, Int.reduceSub, Int.reduceMul, Int.reduceNeg, Int.reduceLT, Int.reduceLE, Int.reduceEq, Int.zero_add, Int.add_zero, AV.ptr.injEq, exists_eq_left, exists_eq_left', e1, e2, Int.natAbs_natCast] | (refine Gv.wp (c194) fun _ _ _ _ => ?_) | (refine Gv.wp (c120) fun _ _ _ _ => ?_) | (refine Gv.wp (c199s (by omega)) fun _ _ _ _ => ?_) | (refine Gv.wp (c198s (a := 2) (by omega) (by omega) (by omega)) fun _ _ _ _ => ?_) | refine CondK.decN (fun hc => ?_) (fun hc => ?_) | refine GrdK.decN (fun hc => ?_) (fun hc => ?_) | refine PickK.decN (fun hc => ?_) (fun hc => ?_) | refine CondK.dec (fun hc => ?_) (fun hc => ?_) | refine GrdK.dec (fun hc => ?_) (fun hc => ?_) | refine DGrd.dec (fun hc => ?_) (fun hc => ?_) | refine PickK.dec (fun hc => ?_) (fun hc => ?_))
  refine Wp.loopI (fun m s => ∃ x : Nat, val s.tm (.t 1) = .ptr h.next 0 ∧ val s.tm (.t 2) = .ptr (h.next + 1) 0 ∧ ∃ t3, val s.tm (.t 3) = .ptr t3 0 ∧ At s.hp t3 [.int .i64 x, .nils] ∧ At s.hp h.next [.int .i64 n, .nils] ∧ At s.hp (h.next + 1) [.int .i64 0, .nils] ∧
    (h.next + 1 < t3 ∧ t3 < s.hp.next ∧ 1 ≤ x ∧ x ≤ 2 ^ 31 ∧ n < (x + 1) * (x + 1) ∧ x = m) ∧ Grs h s.hp) (n := 2 ^ ((bitLen n + 1) / 2)) ?_ ?_
  · refine ⟨2 ^ ((bitLen n + 1) / 2), ?_⟩
    simp (disch := first | assumption | omega | (simp only [Hp.next_push, Hp.next_put, Hp.ov_next, Hp.clk_push, Hp.clk_put, Hp.ov_clk, List.length_cons, List.length_nil, List.length_append, List.length_map, List.length_take, List.length_drop, List.length_replicate, List.length_set, ne_eq, cells_int, cells_bool, cells_str, cells_ptr, cells_sl, cells_nils, cells_agg, one_int, one_bool, one_str, one_ptr, one_sl, one_nils, List.all_cons, List.all_nil, Bool.and_true, Bool.and_self, and_true, true_and, Nat.reduceAdd, Nat.reduceLeDiff] <;> omega) | fail) only [go_sem, ↓reduceIte, Nat.reduceEqDiff, Nat.reduceAdd, Nat.reduceBEq, Nat.reduceLeDiff, Nat.reduceMul, Nat.reduceLT, Nat.zero_add, Nat.add_zero, List.length_cons, List.length_nil, List.all_cons, List.all_nil, Bool.and_true, Bool.and_self, and_true, true_and, List.take_zero, List.take_succ_cons, List.take_nil, List.drop_zero, List.drop_succ_cons, List.drop_nil, List.nil_append, List.cons_append, List.getElem?_cons_zero, List.getElem?_cons_succ, Bool.false_eq_true, Int.toNat_zero, Int.reduceToNat, Int.toNat_natCast, reduceCtorEq, Int.reduceAdd, Int.reduceSub, Int.reduceMul, Int.reduceNeg, Int.reduceLT, Int.reduceLE, Int.reduceEq, Int.zero_add, Int.add_zero, AV.ptr.injEq, exists_eq_left, exists_eq_left']
    refine ⟨⟨by omega, by omega, e4, e3, newton_first n⟩, ?_⟩
    (try first | refine ⟨trivial, ?_⟩ | refine ⟨rfl, ?_⟩); (repeat (first | exact Grs.refl _ | assumption | refine Grs.push ?_ | refine Grs.ov ?_ | refine Grs.put ?_ (by (try simp only [Hp.next_push, Hp.next_put, Hp.ov_next, Hp.clk_push, Hp.clk_put, Hp.ov_clk]); omega)))
  · rintro m ⟨tm, hp⟩ ⟨x, h1, h2, t3, h3, ⟨s3, g3⟩, ⟨s0, g0⟩, ⟨s1, g1⟩, ⟨n1, n2, x1, x2, hx, rfl⟩, G⟩
    simp only at h1 h2 h3 g3 g0 g1 n2 G
    have A3 : At hp t3 [.int .i64 x, .nils] := ⟨_, g3⟩
    have A0 : At hp h.next [.int .i64 n, .nils] := ⟨_, g0⟩
    have A1 : At hp (h.next + 1) [.int .i64 0, .nils] := ⟨_, g1⟩
    have d1 : n / x ≤ n := Nat.div_le_self n x
    have hw := newton_ge x1 hx
    have he := newton_end x1 hx
    have hx2 : (2 : Nat) ^ 31 = 2147483648 := by decide
    rcases Nat.lt_or_ge ((x + n / x) / 2) x with hl | hl
    · have l1 : ((((x + n / x) / 2 : Nat) : Int) < (x : Int)) := by omega
      have l2 : (if (((x + n / x) / 2 : Nat) : Int) < (x : Int) then (-1 : Int) else if (x : Int) < (((x + n / x) / 2 : Nat) : Int) then 1 else 0) = -1 := if_pos l1
      repeat' (with_reducible first | simp (disch := first | assumption | omega | (simp only [Hp.next_push, Hp.next_put, Hp.ov_next, Hp.clk_push, Hp.clk_put, Hp.ov_clk, List.length_cons, List.length_nil, List.length_append, List.length_map, List.length_take, List.length_drop, List.length_replicate, List.length_set, ne_eq, cells_int, cells_bool, cells_str, cells_ptr, cells_sl, cells_nils, cells_agg, one_int, one_bool, one_str, one_ptr, one_sl, one_nils, List.all_cons, List.all_nil, Bool.and_true, Bool.and_self, and_true, true_and, Nat.reduceAdd, Nat.reduceLeDiff] <;> omega) | fail) only [go_sem, ↓reduceIte, Nat.reduceEqDiff, Nat.reduceAdd, Nat.reduceBEq, Nat.reduceLeDiff, Nat.reduceMul, Nat.reduceLT, Nat.zero_add, Nat.add_zero, List.length_cons, List.length_nil, List.all_cons, List.all_nil, Bool.and_true, Bool.and_self, and_true, true_and, List.take_zero, List.take_succ_cons, List.take_nil, List.drop_zero, List.drop_succ_cons, List.drop_nil, List.nil_append, List.cons_append, List.getElem?_cons_zero, List.getElem?_cons_succ, Bool.false_eq_true, Int.toNat_zero, Int.reduceToNat, Int.toNat_natCast, reduceCtorEq, Int.reduceAdd, Int.reduceSub, Int.reduceMul, Int.reduceNeg, Int.reduceLT, Int.reduceLE, Int.reduceEq, Int.zero_add, Int.add_zero, AV.ptr.injEq, exists_eq_left, exists_eq_left', h1, h2, h3, g3, g0, g1, l2] | (refine Gv.wp (m197 (by omega) (by omega)) fun _ _ _ _ => ?_) | (refine Gv.wp (m121 (by omega)) fun _ _ _ _ => ?_) | (refine Gv.wp (c120) fun _ _ _ _ => ?_) | (refine Gv.wp (m197_2 (by omega)) fun _ _ _ _ => ?_) | (refine Gv.wp (c192) fun _ _ _ _ => ?_) | refine CondK.decN (fun hc => ?_) (fun hc => ?_) | refine GrdK.decN (fun hc => ?_) (fun hc => ?_) | refine PickK.decN (fun hc => ?_) (fun hc => ?_) | refine CondK.dec (fun hc => ?_) (fun hc => ?_) | refine GrdK.dec (fun hc => ?_) (fun hc => ?_) | refine DGrd.dec (fun hc => ?_) (fun hc => ?_) | refine PickK.dec (fun hc => ?_) (fun hc => ?_))
      refine ⟨(x + n / x) / 2, hl, (x + n / x) / 2, ?_⟩
      simp (disch := first | assumption | omega | (simp only [Hp.next_push, Hp.next_put, Hp.ov_next, Hp.clk_push, Hp.clk_put, Hp.ov_clk, List.length_cons, List.length_nil, List.length_append, List.length_map, List.length_take, List.length_drop, List.length_replicate, List.length_set, ne_eq, cells_int, cells_bool, cells_str, cells_ptr, cells_sl, cells_nils, cells_agg, one_int, one_bool, one_str, one_ptr, one_sl, one_nils, List.all_cons, List.all_nil, Bool.and_true, Bool.and_self, and_true, true_and, Nat.reduceAdd, Nat.reduceLeDiff] <;> omega) | fail) only [go_sem, ↓reduceIte, Nat.reduceEqDiff, Nat.reduceAdd, Nat.reduceBEq, Nat.reduceLeDiff, Nat.reduceMul, Nat.reduceLT, Nat.zero_add, Nat.add_zero, List.length_cons, List.length_nil, List.all_cons, List.all_nil, Bool.and_true, Bool.and_self, and_true, true_and, List.take_zero, List.take_succ_cons, List.take_nil, List.drop_zero, List.drop_succ_cons, List.drop_nil, List.nil_append, List.cons_append, List.getElem?_cons_zero, List.getElem?_cons_succ, Bool.false_eq_true, Int.toNat_zero, Int.reduceToNat, Int.toNat_natCast, reduceCtorEq, Int.reduceAdd, Int.reduceSub, Int.reduceMul, Int.reduceNeg, Int.reduceLT, Int.reduceLE, Int.reduceEq, Int.zero_add, Int.add_zero, AV.ptr.injEq, exists_eq_left, exists_eq_left', h1, h2, h3, A3, A0, A1]
      have y1 : 1 ≤ (x + n / x) / 2 := by
        rcases Nat.eq_zero_or_pos ((x + n / x) / 2) with e | e
        · rw [e] at hw; omega
        · exact e
      refine ⟨⟨by omega, by omega, y1, by omega, hw⟩, ?_⟩
      (try first | refine ⟨trivial, ?_⟩ | refine ⟨rfl, ?_⟩); (repeat (first | exact Grs.refl _ | assumption | refine Grs.push ?_ | refine Grs.ov ?_ | refine Grs.put ?_ (by (try simp only [Hp.next_push, Hp.next_put, Hp.ov_next, Hp.clk_push, Hp.clk_put, Hp.ov_clk]); omega)))
    · have l1 : ¬ ((((x + n / x) / 2 : Nat) : Int) < (x : Int)) := by omega
      have l2 : (if (((x + n / x) / 2 : Nat) : Int) < (x : Int) then (-1 : Int) else if (x : Int) < (((x + n / x) / 2 : Nat) : Int) then 1 else 0) = (if (x : Int) < (((x + n / x) / 2 : Nat) : Int) then 1 else 0) := if_neg l1
      have l3 : (0 : Int) ≤ (if (x : Int) < (((x + n / x) / 2 : Nat) : Int) then 1 else 0) := by split <;> omega
      repeat' (with_reducible first | simp (disch := first | assumption | omega | (simp only [Hp.next_push, Hp.next_put, Hp.ov_next, Hp.clk_push, Hp.clk_put, Hp.ov_clk, List.length_cons, List.length_nil, List.length_append, List.length_map, List.length_take, List.length_drop, List.length_replicate, List.length_set, ne_eq, cells_int, cells_bool, cells_str, cells_ptr, cells_sl, cells_nils, cells_agg, one_int, one_bool, one_str, one_ptr, one_sl, one_nils, List.all_cons, List.all_nil, Bool.and_true, Bool.and_self, and_true, true_and, Nat.reduceAdd, Nat.reduceLeDiff] <;> omega) | fail) only [go_sem, ↓reduceIte, Nat.reduceEqDiff, Nat.reduceAdd, Nat.reduceBEq, Nat.reduceLeDiff, Nat.reduceMul, Nat.reduceLT, Nat.zero_add, Nat.add_zero, List.length_cons, List.length_nil, List.all_cons, List.all_nil, Bool.and_true, Bool.and_self, and_true, true_and, List.take_zero, List.take_succ_cons, List.take_nil, List.drop_zero, List.drop_succ_cons, List.drop_nil, List.nil_append, List.cons_append, List.getElem?_cons_zero, List.getElem?_cons_succ, Bool.false_eq_true, Int.toNat_zero, Int.reduceToNat, Int.toNat_natCast, reduceCtorEq, Int.reduceAdd, Int.reduceSub, Int.reduceMul, Int.reduceNeg, Int.reduceLT, Int.reduceLE, Int.reduceEq, Int.zero_add, Int.add_zero, AV.ptr.injEq, exists_eq_left, exists_eq_left', h1, h2, h3, g3, g0, g1, l2] | (refine Gv.wp (m197 (by omega) (by omega)) fun _ _ _ _ => ?_) | (refine Gv.wp (m121 (by omega)) fun _ _ _ _ => ?_) | (refine Gv.wp (c120) fun _ _ _ _ => ?_) | (refine Gv.wp (m197_2 (by omega)) fun _ _ _ _ => ?_) | (refine Gv.wp (c192) fun _ _ _ _ => ?_) | refine CondK.decN (fun hc => ?_) (fun hc => ?_) | refine GrdK.decN (fun hc => ?_) (fun hc => ?_) | refine PickK.decN (fun hc => ?_) (fun hc => ?_) | refine CondK.dec (fun hc => ?_) (fun hc => ?_) | refine GrdK.dec (fun hc => ?_) (fun hc => ?_) | refine DGrd.dec (fun hc => ?_) (fun hc => ?_) | refine PickK.dec (fun hc => ?_) (fun hc => ?_))
      refine ⟨by rw [← he hl], ?_⟩
      (try first | refine ⟨trivial, ?_⟩ | refine ⟨rfl, ?_⟩); (repeat (first | exact Grs.refl _ | assumption | refine Grs.push ?_ | refine Grs.ov ?_ | refine Grs.put ?_ (by (try simp only [Hp.next_push, Hp.next_put, Hp.ov_next, Hp.clk_push, Hp.clk_put, Hp.ov_clk]); omega)))
theorem c179 {n : Nat} (hn : n < 4611686018427387904) : Gv E2 179 [.int .i64 n] h (.tup [.int .i64 (isq n : Nat), .bool (decide (isq n * isq n = n))]) := by
  refine Gv.of (CallWp.fn (fn := C.a179) rfl rfl rfl ?_)
  unfold C.a179
  have hi := (isq_spec n).1
  have hi2 : isq n ≤ isq n * isq n := Nat.le_mul_self _
  have e1 : ((isq n * isq n : Nat) : Int) = (isq n : Int) * (isq n : Int) := Int.natCast_mul _ _
  have e2 : (decide ((isq n : Int) * (isq n : Int) = (n : Int))) = decide (isq n * isq n = n) := by
    congr 1; rw [← e1, eq_iff_iff]; omega
  have e3 : (0 : Int) ≤ (isq n : Int) * (isq n : Int) ∧ (isq n : Int) * (isq n : Int) ≤ n := by rw [← e1]; omega
  repeat' (with_reducible first | simp (disch := first | assumption | omega | (simp only [Hp.next_push, Hp.next_put, Hp.ov_next, Hp.clk_push, Hp.clk_put, Hp.ov_clk, List.length_cons, List.length_nil, List.length_append, List.length_map, List.length_take, List.length_drop, List.length_replicate, List.length_set, ne_eq, cells_int, cells_bool, cells_str, cells_ptr, cells_sl, cells_nils, cells_agg, one_int, one_bool, one_str, one_ptr, one_sl, one_nils, List.all_cons, List.all_nil, Bool.and_true, Bool.and_self, and_true, true_and, Nat.reduceAdd, Nat.reduceLeDiff] <;> omega) | fail) only [go_sem, ↓reduceIte, Nat.reduceEqDiff, Nat.reduceAdd, Nat.reduceBEq, Nat.reduceLeDiff, Nat.reduceMul, Nat.reduceLT, Nat.zero_add, Nat.add_zero, List.length_cons, List.length_nil, List.all_cons, List.all_nil, Bool.and_true, Bool.and_self, and_true, true_and, List.take_zero, List.take_succ_cons, List.take_nil, List.drop_zero, List.drop_succ_cons, List.drop_nil, List.nil_append, List.cons_append, List.getElem?_cons_zero, List.getElem?_cons_succ, Bool.false_eq_true, Int.toNat_zero, Int.reduceToNat, Int.toNat_natCast, reduceCtorEq, Int.reduceAdd, Int.reduceSub, Int.reduceMul, Int.reduceNeg, Int.reduceLT, Int.reduceLE, Int.reduceEq, Int.zero_add, Int.add_zero, AV.ptr.injEq, exists_eq_left, exists_eq_left', e2] | (refine Gv.wp (c120) fun _ _ _ _ => ?_) | (refine Gv.wp (c118s hn) fun _ _ _ _ => ?_) | (refine Gv.wp (c254) fun _ _ _ _ => ?_) | refine CondK.decN (fun hc => ?_) (fun hc => ?_) | refine GrdK.decN (fun hc => ?_) (fun hc => ?_) | refine PickK.decN (fun hc => ?_) (fun hc => ?_) | refine CondK.dec (fun hc => ?_) (fun hc => ?_) | refine GrdK.dec (fun hc => ?_) (fun hc => ?_) | refine DGrd.dec (fun hc => ?_) (fun hc => ?_) | refine PickK.dec (fun hc => ?_) (fun hc => ?_))
  (try first | refine ⟨trivial, ?_⟩ | refine ⟨rfl, ?_⟩); (repeat (first | exact Grs.refl _ | assumption | refine Grs.push ?_ | refine Grs.ov ?_ | refine Grs.put ?_ (by (try simp only [Hp.next_push, Hp.next_put, Hp.ov_next, Hp.clk_push, Hp.clk_put, Hp.ov_clk]); omega)))
/-- The scalar product of two places. -/
abbrev plc (x y z : Int) : AV := .agg [.int .i64 x, .int .i64 y, .int .i64 z]
theorem c178 {a b c x y z : Int} (h1 : -10000000000 ≤ a * x ∧ a * x ≤ 10000000000) (h2 : -10000000000 ≤ b * y ∧ b * y ≤ 10000000000) (h3 : -10000000000 ≤ c * z ∧ c * z ≤ 10000000000) :
    Gv E2 178 [plc a b c, plc x y z] h (.int .i64 (a * x + b * y + c * z)) := by
  refine Gv.of (CallWp.fn (fn := C.a178) rfl rfl rfl ?_)
  unfold C.a178
  repeat' (with_reducible first | simp (disch := first | assumption | omega | (simp only [Hp.next_push, Hp.next_put, Hp.ov_next, Hp.clk_push, Hp.clk_put, Hp.ov_clk, List.length_cons, List.length_nil, List.length_append, List.length_map, List.length_take, List.length_drop, List.length_replicate, List.length_set, ne_eq, cells_int, cells_bool, cells_str, cells_ptr, cells_sl, cells_nils, cells_agg, one_int, one_bool, one_str, one_ptr, one_sl, one_nils, List.all_cons, List.all_nil, Bool.and_true, Bool.and_self, and_true, true_and, Nat.reduceAdd, Nat.reduceLeDiff] <;> omega) | fail) only [go_sem, ↓reduceIte, Nat.reduceEqDiff, Nat.reduceAdd, Nat.reduceBEq, Nat.reduceLeDiff, Nat.reduceMul, Nat.reduceLT, Nat.zero_add, Nat.add_zero, List.length_cons, List.length_nil, List.all_cons, List.all_nil, Bool.and_true, Bool.and_self, and_true, true_and, List.take_zero, List.take_succ_cons, List.take_nil, List.drop_zero, List.drop_succ_cons, List.drop_nil, List.nil_append, List.cons_append, List.getElem?_cons_zero, List.getElem?_cons_succ, Bool.false_eq_true, Int.toNat_zero, Int.reduceToNat, Int.toNat_natCast, reduceCtorEq, Int.reduceAdd, Int.reduceSub, Int.reduceMul, Int.reduceNeg, Int.reduceLT, Int.reduceLE, Int.reduceEq, Int.zero_add, Int.add_zero, AV.ptr.injEq, exists_eq_left, exists_eq_left'] | refine CondK.decN (fun hc => ?_) (fun hc => ?_) | refine GrdK.decN (fun hc => ?_) (fun hc => ?_) | refine PickK.decN (fun hc => ?_) (fun hc => ?_) | refine CondK.dec (fun hc => ?_) (fun hc => ?_) | refine GrdK.dec (fun hc => ?_) (fun hc => ?_) | refine DGrd.dec (fun hc => ?_) (fun hc => ?_) | refine PickK.dec (fun hc => ?_) (fun hc => ?_))
  (try first | refine ⟨trivial, ?_⟩ | refine ⟨rfl, ?_⟩); (repeat (first | exact Grs.refl _ | assumption | refine Grs.push ?_ | refine Grs.ov ?_ | refine Grs.put ?_ (by (try simp only [Hp.next_push, Hp.next_put, Hp.ov_next, Hp.clk_push, Hp.clk_put, Hp.ov_clk]); omega)))
end
end Go.Ae


/- The abstract evaluator: an environment with more functions. -/
set_option linter.unusedVariables false
set_option linter.unusedSimpArgs false
namespace Go.Ae
/-- Further functions, where there is none. -/
noncomputable def Env.add (E : Env) (t : T AFn) : Env := { E with fns := fun n => match E.fns n with | some a => some a | none => t.get n }
structure Ge (E E' : Env) : Prop where
  fns : ∀ f a, E.fns f = some a → E'.fns f = some a
  prims : ∀ f, E'.prims f = E.prims f
  exts : ∀ f, E'.exts f = E.exts f
  meth : ∀ T n, E'.meth T n = E.meth T n
theorem Ge.refl (E : Env) : Ge E E := ⟨fun _ _ h => h, fun _ => rfl, fun _ => rfl, fun _ _ => rfl⟩
theorem Ge.trans {E E1 E2 : Env} (h : Ge E E1) (g : Ge E1 E2) : Ge E E2 :=
  ⟨fun f a e => g.fns f a (h.fns f a e), fun f => (g.prims f).trans (h.prims f), fun f => (g.exts f).trans (h.exts f), fun T n => (g.meth T n).trans (h.meth T n)⟩
theorem Ge.add (E : Env) (t : T AFn) : Ge E (E.add t) where
  fns := fun f a h => by show (match E.fns f with | some a => some a | none => t.get f) = _; rw [h]
  prims := fun _ => rfl
  exts := fun _ => rfl
  meth := fun _ _ => rfl
section
variable {E E' : Env}
theorem callA_ge (g : Ge E E') {r r' : Rec} (hr : ∀ c s x, r c s = some x → r' c s = some x) {f : Nat} {args : List AV} {h : Hp} {x : AV × Hp} (hc : callA E r f args h = some x) : callA E' r' f args h = some x := by
  unfold callA at *
  rw [g.exts]
  split at hc
  · exact hc
  · rename_i he
    rw [g.prims]
    split at hc
    · exact hc
    · split at hc
      · cases hc
      · rename_i fn hf
        rw [g.fns _ _ hf]
        simp only
        cases hx : r fn.code { tm := enterA args 0 .nil, hp := h } with
        | none => rw [hx] at hc; cases hc
        | some y => rw [hx] at hc; rw [hr _ _ _ hx]; exact hc
theorem opA_ge (g : Ge E E') {r r' : Rec} (hr : ∀ c s x, r c s = some x → r' c s = some x) {o : AOp} {s : St} {x : AV × Hp} (hc : opA o E r s = some x) : opA o E' r' s = some x := by
  cases o <;> try exact hc
  · exact callA_ge g hr hc
  · simp only [opA, o_callV] at *
    split at hc
    · exact callA_ge g hr hc
    · cases hc
  · simp only [opA, o_inv] at *
    split at hc
    · rw [g.meth]
      split at hc
      · exact callA_ge g hr hc
      · cases hc
    · cases hc
theorem step_ge (g : Ge E E') {r r' : Rec} (hr : ∀ c s x, r c s = some x → r' c s = some x) {c : ACode} {s : St} {x : Ex × St} (hc : step E r c s = some x) : step E' r' c s = some x := by
  cases c with
  | skip => exact hc
  | ret => exact hc
  | exit i => exact hc
  | bad => exact hc
  | reg ops =>
    cases ops with
    | nil => exact hc
    | cons o l =>
      have hc : s_op o l E r s = some x := hc
      show s_op o l E' r' s = some x
      unfold s_op at *
      split at hc
      · unfold s_cont at *
        split at hc
        · rename_i ho; rw [opA_ge g hr ho]; exact hr _ _ _ hc
        · cases hc
      · exact hr _ _ _ hc
  | dreg ops => exact hr _ _ _ hc
  | drun ops i c0 acc =>
    cases ops with
    | nil => exact hc
    | cons o l =>
      have hc : s_dop o l i c0 acc E r s = some x := hc
      show s_dop o l i c0 acc E' r' s = some x
      unfold s_dop at *
      split at hc
      · split at hc
        · rename_i ho
          rw [opA_ge g hr ho]
          simp only
          split at hc
          · rename_i h1
            split at hc
            · exact hr _ _ _ hc
            · cases hc
          · cases hc
        · cases hc
      · split at hc
        · exact hr _ _ _ hc
        · cases hc
  | seq a b =>
    have hc : s_seq a b E r s = some x := hc
    show s_seq a b E' r' s = some x
    unfold s_seq at *
    split at hc
    · rename_i h1; rw [hr _ _ _ h1]; exact hr _ _ _ hc
    · rename_i hne
      rw [hr _ _ _ hc]
      obtain ⟨e, s'⟩ := x
      cases e with
      | nrm => exact absurd hc (hne _)
      | exit i => rfl
      | ret => rfl
  | cond y a b =>
    have hc : s_cond y a b E r s = some x := hc
    show s_cond y a b E' r' s = some x
    unfold s_cond at *
    split at hc
    · exact hr _ _ _ hc
    · exact hr _ _ _ hc
    · cases hc
  | block id a =>
    have hc : s_block id a E r s = some x := hc
    show s_block id a E' r' s = some x
    unfold s_block at *
    split at hc
    · rename_i h1; rw [hr _ _ _ h1]; exact hc
    · rename_i hne
      rw [hr _ _ _ hc]
      obtain ⟨e, s'⟩ := x
      cases e with
      | exit i => exact absurd hc (hne _ _)
      | nrm => rfl
      | ret => rfl
  | loop a =>
    have hc : s_loop a E r s = some x := hc
    show s_loop a E' r' s = some x
    unfold s_loop at *
    split at hc
    · rename_i h1; rw [hr _ _ _ h1]; exact hr _ _ _ hc
    · rename_i hne
      rw [hr _ _ _ hc]
      obtain ⟨e, s'⟩ := x
      cases e with
      | nrm => exact absurd hc (hne _)
      | exit i => rfl
      | ret => rfl
theorem exec_ge (g : Ge E E') : ∀ (n : Nat) (c : ACode) (s : St) (x : Ex × St), exec E n c s = some x → exec E' n c s = some x
  | 0, _, _, _, h => by cases h
  | n + 1, c, s, x, h => by
    rw [exec_succ] at *
    exact step_ge g (exec_ge g n) h
theorem CallsTo.ge (g : Ge E E') {f : Nat} {args : List AV} {h h' : Hp} {v : AV} (hc : CallsTo E f args h v h') : CallsTo E' f args h v h' := by
  obtain ⟨n, hn⟩ := hc
  exact ⟨n, callA_ge g (exec_ge g n) hn⟩
theorem CallWp.ge (g : Ge E E') {f : Nat} {args : List AV} {h : Hp} {K : AV → Hp → Prop} (hc : CallWp E f args h K) : CallWp E' f args h K := by
  obtain ⟨v, h', h1, h2⟩ := hc
  exact ⟨v, h', h1.ge g, h2⟩
/-- A contract of a lesser environment. -/
theorem up (g : Ge E E') {f : Nat} {args : List AV} {h h' : Hp} {v : AV} {K : AV → Hp → Prop} (hc : ∀ K, CallWp E f args h K ↔ K v h') : CallWp E' f args h K ↔ K v h' :=
  CallWp.iff_of (((hc _).2 ⟨rfl, rfl⟩).ge g)
theorem EnvOk.add {P : Program} {W0 : World} {base : Nat} {t : T AFn} (EO : EnvOk P W0 base E) (ht : ∀ n a, t.get n = some a → chk P n = some a) : EnvOk P W0 base (E.add t) where
  fns := by
    intro f a h
    have h : (match E.fns f with | some a => some a | none => t.get f) = some a := h
    split at h
    · rename_i b hb; obtain rfl := Option.some.inj h; exact EO.fns f b hb
    · exact chk_good (ht f a h)
  prims := EO.prims
  exts := EO.exts
  meth := fun T n f h => EO.meth T n f h
  later := EO.later
  mixed := EO.mixed
end
end Go.Ae


/- Further functions of the program, as code of the abstract evaluator (printed by mkX.py). -/
set_option maxRecDepth 100000
namespace Go.Ae.R
open AOp Opd C
def a19 : AFn := ⟨96, [.tmp 2], (.seq (.reg [o 2 (.mv (.k (.int .i64 0)))])
  (.seq (.reg [o 8 (m 0),o 3 (m 8)])
  (.seq (.seq (.reg [o 9 (m 3),o 10 (.len .str (.t 9)),o 11 (.bin .gtr .none (.t 10) (.k (.int .i64 0))),o 12 (m 11),g 13 (m 3) 12 true,g 14 (.idxs (.t 13) (.k (.int .i64 0))) 12 true,g 15 (.bin .eql .none (.t 14) (.k (.int .u8 45))) 12 true,o 16 (.pick (.t 12) (.t 15) (.k (.bool false)))])
   (.cond (.t 16) (.reg [o 17 (m 3),o 18 (.sls (.t 17) (some (.k (.int .i64 1))) none),o 3 (m 18)])
   .skip))
  (.seq (.reg [o 19 (m 3),o 20 (.callF 122 [(.t 19)]),o 4 (m 20)])
  (.seq (.seq (.reg [o 21 (m 3),o 22 (m 4),o 23 (.sls (.t 21) none (some (.t 22))),o 24 (.callF 123 [(.t 23)]),o 25 (.un .not (.t 24)),o 26 (m 25),g 27 (m 0) 26 false,g 28 (.idxs (.t 27) (.k (.int .i64 0))) 26 false,g 29 (.bin .eql .none (.t 28) (.k (.int .u8 45))) 26 false,g 30 (m 29) 26 false,g 31 (m 3) 30 true,g 32 (m 4) 30 true,g 33 (.sls (.t 31) none (some (.t 32))) 30 true,g 34 (.bin .eql .none (.t 33) (.k (.str [48]))) 30 true,g 35 (.pick (.t 30) (.t 34) (.k (.bool false))) 26 false,o 36 (.pick (.t 26) (.k (.bool true)) (.t 35))])
   (.cond (.t 36) (.seq (.reg [o 2 (.mv (.k (.int .i64 1)))])
    .ret)
   .skip))
  (.seq (.seq (.reg [o 37 (m 4),o 38 (m 3),o 39 (.len .str (.t 38)),o 40 (.bin .lss .none (.t 37) (.t 39)),o 41 (m 40),g 42 (m 3) 41 true,g 43 (m 4) 41 true,g 44 (.bin .add .none (.t 43) (.k (.int .i64 1))) 41 true,g 45 (.sls (.t 42) (some (.t 44)) none) 41 true,g 46 (.callF 123 [(.t 45)]) 41 true,g 47 (.un .not (.t 46)) 41 true,g 48 (m 47) 41 true,g 49 (m 3) 48 false,g 50 (m 4) 48 false,g 51 (.bin .add .none (.t 50) (.k (.int .i64 1))) 48 false,g 52 (.sls (.t 49) (some (.t 51)) none) 48 false,g 53 (.bin .eql .none (.t 52) (.k (.str [48]))) 48 false,g 54 (.pick (.t 48) (.k (.bool true)) (.t 53)) 41 true,g 55 (m 54) 41 true,g 56 (m 3) 55 false,g 57 (m 4) 55 false,g 58 (.bin .add .none (.t 57) (.k (.int .i64 1))) 55 false,g 59 (.sls (.t 56) (some (.t 58)) none) 55 false,g 60 (.bin .eql .none (.t 59) (.k (.str [49]))) 55 false,g 61 (.pick (.t 55) (.k (.bool true)) (.t 60)) 41 true,o 62 (.pick (.t 41) (.t 61) (.k (.bool false)))])
   (.cond (.t 62) (.seq (.reg [o 2 (.mv (.k (.int .i64 1)))])
    .ret)
   .skip))
  (.seq (.seq (.reg [o 63 (m 4),o 64 (.bin .gtr .none (.t 63) (.k (.int .i64 600))),o 65 (m 64),g 66 (m 3) 65 false,g 67 (.len .str (.t 66)) 65 false,g 68 (m 4) 65 false,g 69 (.bin .sub .none (.t 67) (.t 68)) 65 false,g 70 (.bin .sub .none (.t 69) (.k (.int .i64 1))) 65 false,g 71 (.bin .gtr .none (.t 70) (.k (.int .i64 600))) 65 false,o 72 (.pick (.t 65) (.k (.bool true)) (.t 71))])
   (.cond (.t 72) (.seq (.reg [o 2 (.mv (.k (.int .i64 4)))])
    .ret)
   .skip))
  (.seq (.seq (.reg [o 73 (m 4),o 74 (m 3),o 75 (.len .str (.t 74)),o 76 (.bin .lss .none (.t 73) (.t 75))])
   (.cond (.t 76) (.seq (.reg [o 78 (m 3),o 79 (.callF 124 [(.t 78)]),o 77 (m 79),o 80 (.ext (.t 77) 0),o 81 (.ext (.t 77) 1),o 5 (.alloc [.bool false, .nils]),o 6 (.alloc [.bool false, .nils]),n (.store 2 (.t 5) (.t 80)),n (.store 2 (.t 6) (.t 81))])
    (.seq (.reg [o 82 (.fadr 1 (.t 5)),o 83 (.load false 1 (.t 82)),o 84 (.fadr 1 (.t 6)),o 85 (.load false 1 (.t 84)),o 86 (.callF 125 [(.t 83), (.t 85)]),o 7 (m 86)])
    (.seq (.reg [o 87 (m 7),o 88 (.len .slice (.t 87)),o 89 (.bin .neq .none (.t 88) (.k (.int .i64 1))),o 90 (m 89),g 91 (m 7) 90 false,g 92 (.iadr 1 (.t 91) (.k (.int .i64 0))) 90 false,g 93 (.load false 1 (.t 92)) 90 false,g 94 (.bin .neq .none (.t 93) (.k (.int .i64 1))) 90 false,o 95 (.pick (.t 90) (.k (.bool true)) (.t 94))])
    (.cond (.t 95) (.seq (.reg [o 2 (.mv (.k (.int .i64 1)))])
     .ret)
    .skip))))
   .skip))
  (.seq (.reg [o 2 (.mv (.k (.int .i64 0)))])
  .ret)))))))))⟩
def a20 : AFn := ⟨7, [.tmp 4], (.seq (.reg [o 4 (.mv (.k (.int .i64 0)))])
  (.seq (.seq (.reg [o 5 (m 0)])
   (.cond (.t 5) (.seq (.reg [o 6 (m 1),o 4 (m 6)])
    .ret)
   .skip))
  (.seq (.reg [o 4 (.mv (.k (.int .i64 0)))])
  .ret)))⟩
def a21 : AFn := ⟨13, [.tmp 2], (.seq (.reg [o 2 (.mv (.k (.int .i64 0)))])
  (.seq (.seq (.reg [o 3 (m 0),o 4 (.bin .eql .none (.t 3) (.k (.str [48])))])
   (.cond (.t 4) (.seq (.reg [o 2 (.mv (.k (.int .i64 0)))])
    .ret)
   .skip))
  (.seq (.seq (.reg [o 5 (m 0),o 6 (.len .str (.t 5)),o 7 (.bin .gtr .none (.t 6) (.k (.int .i64 0))),o 8 (m 7),g 9 (m 0) 8 true,g 10 (.idxs (.t 9) (.k (.int .i64 0))) 8 true,g 11 (.bin .eql .none (.t 10) (.k (.int .u8 45))) 8 true,o 12 (.pick (.t 8) (.t 11) (.k (.bool false)))])
   (.cond (.t 12) (.seq (.reg [o 2 (.mv (.k (.int .i64 (-1))))])
    .ret)
   .skip))
  (.seq (.reg [o 2 (.mv (.k (.int .i64 1)))])
  .ret))))⟩
def a22 : AFn := ⟨30, [.tmp 8], (.seq (.reg [o 4 (.box (.t 0)),o 7 (.box (.t 3)),o 8 (.mv (.k (.bool false)))])
  (.seq (.seq (.reg [o 9 (m 2),o 10 (.bin .eql .none (.t 9) (.k (.int .i64 0)))])
   (.cond (.t 10) (.reg [o 11 (.load true 2 (.t 7)),o 12 (.callF 126 [(.t 11)]),o 2 (m 12)])
   .skip))
  (.seq (.seq (.reg [o 13 (m 2),o 14 (.bin .neq .none (.t 13) (.k (.int .i64 0)))])
   (.cond (.t 14) (.seq (.reg [o 15 (.load true 2 (.t 4)),o 16 (.build [.str [], .str []] []),o 17 (.bin .eql (.plain [(0, .str), (1, .str)]) (.t 15) (.t 16)),o 18 (m 17),g 19 (m 1) 18 true,g 20 (m 2) 18 true,g 21 (.bin .eql .none (.t 19) (.t 20)) 18 true,o 22 (.pick (.t 18) (.t 21) (.k (.bool false))),o 8 (m 22)])
    .ret)
   .skip))
  (.seq (.reg [o 23 (m 1),o 24 (.bin .eql .none (.t 23) (.k (.int .i64 0))),o 25 (m 24),g 26 (.load true 2 (.t 4)) 25 true,g 27 (.load true 2 (.t 7)) 25 true,g 28 (.bin .eql (.plain [(0, .str), (1, .str)]) (.t 26) (.t 27)) 25 true,o 29 (.pick (.t 25) (.t 28) (.k (.bool false))),o 8 (m 29)])
  .ret))))⟩
def a25 : AFn := ⟨19, [.tmp 2], (.seq (.reg [o 2 (.mv (.k (.int .i64 0)))])
  (.seq (.seq (.reg [o 3 (.mv (.k (.int .i64 0)))])
   (.block 0 (.loop (.seq (.seq (.reg [o 4 (m 3),o 5 (m 0),o 6 (.len .slice (.t 5)),o 7 (.bin .lss .none (.t 4) (.t 6))])
      (.cond (.t 7) .skip
      (.exit 0)))
     (.seq (.block 1 (.seq (.reg [o 10 (m 0),o 11 (m 3),o 12 (.iadr 1 (.t 10) (.t 11)),o 13 (.load false 1 (.t 12)),o 14 (.bin .neq .none (.t 13) (.k (.int .i64 0)))])
       (.cond (.t 14) (.seq (.reg [o 15 (m 0),o 16 (m 3),o 17 (.iadr 1 (.t 15) (.t 16)),o 18 (.load false 1 (.t 17)),o 2 (m 18)])
        .ret)
       .skip)))
     (.reg [o 8 (m 3),o 9 (.bin .add .none (.t 8) (.k (.int .i64 1))),o 3 (m 9)]))))))
  (.seq (.reg [o 2 (.mv (.k (.int .i64 0)))])
  .ret)))⟩
def a26 : AFn := ⟨37, [.tmp 2], (.seq (.reg [o 2 (.mv (.k (.int .i64 0)))])
  (.seq (.seq (.reg [o 5 (m 0),o 6 (.len .slice (.t 5)),o 7 (.bin .eql .none (.t 6) (.k (.int .i64 0)))])
   (.cond (.t 7) (.seq (.reg [o 2 (.mv (.k (.int .i64 12)))])
    .ret)
   .skip))
  (.seq (.seq (.reg [o 8 (m 0),o 9 (.len .slice (.t 8)),o 10 (.bin .gtr .none (.t 9) (.k (.int .i64 256)))])
   (.cond (.t 10) (.seq (.reg [o 2 (.mv (.k (.int .i64 5)))])
    .ret)
   .skip))
  (.seq (.reg [o 3 (.mv (.k (.int .i64 0)))])
  (.seq (.seq (.reg [o 4 (.mv (.k (.int .i64 0)))])
   (.block 0 (.loop (.seq (.seq (.reg [o 11 (m 4),o 12 (m 0),o 13 (.len .slice (.t 12)),o 14 (.bin .lss .none (.t 11) (.t 13))])
      (.cond (.t 14) .skip
      (.exit 0)))
     (.seq (.block 1 (.seq (.seq (.reg [o 17 (m 0),o 18 (m 4),o 19 (.iadr 1 (.t 17) (.t 18)),o 20 (.load false 1 (.t 19)),o 21 (.bin .lss .none (.t 20) (.k (.int .i64 0))),o 22 (m 21),g 23 (m 0) 22 false,g 24 (m 4) 22 false,g 25 (.iadr 1 (.t 23) (.t 24)) 22 false,g 26 (.load false 1 (.t 25)) 22 false,g 27 (.bin .gtr .none (.t 26) (.k (.int .i64 999999999))) 22 false,o 28 (.pick (.t 22) (.k (.bool true)) (.t 27))])
        (.cond (.t 28) (.seq (.reg [o 2 (.mv (.k (.int .i64 3)))])
         .ret)
        .skip))
       (.reg [o 29 (m 3),o 30 (m 0),o 31 (m 4),o 32 (.iadr 1 (.t 30) (.t 31)),o 33 (.load false 1 (.t 32)),o 34 (.bin .add .none (.t 29) (.t 33)),o 3 (m 34)])))
     (.reg [o 15 (m 4),o 16 (.bin .add .none (.t 15) (.k (.int .i64 1))),o 4 (m 16)]))))))
  (.seq (.seq (.reg [o 35 (m 3),o 36 (.bin .eql .none (.t 35) (.k (.int .i64 0)))])
   (.cond (.t 36) (.seq (.reg [o 2 (.mv (.k (.int .i64 6)))])
    .ret)
   .skip))
  (.seq (.reg [o 2 (.mv (.k (.int .i64 0)))])
  .ret)))))))⟩
def a34 : AFn := ⟨42, [.tmp 4], (.seq (.reg [o 4 (.mv (.k (.int .i64 0)))])
  (.seq (.seq (.reg [o 7 (m 0),o 8 (.len .slice (.t 7)),o 9 (.bin .eql .none (.t 8) (.k (.int .i64 0)))])
   (.cond (.t 9) (.seq (.reg [o 4 (.mv (.k (.int .i64 12)))])
    .ret)
   .skip))
  (.seq (.seq (.reg [o 10 (m 0),o 11 (.len .slice (.t 10)),o 12 (.bin .gtr .none (.t 11) (.k (.int .i64 24)))])
   (.cond (.t 12) (.seq (.reg [o 4 (.mv (.k (.int .i64 5)))])
    .ret)
   .skip))
  (.seq (.seq (.reg [o 5 (.mv (.k (.int .i64 0)))])
   (.block 0 (.loop (.seq (.seq (.reg [o 13 (m 5),o 14 (m 0),o 15 (.len .slice (.t 14)),o 16 (.bin .lss .none (.t 13) (.t 15))])
      (.cond (.t 16) .skip
      (.exit 0)))
     (.seq (.block 1 (.seq (.seq (.reg [o 19 (m 0),o 20 (m 5),o 21 (.iadr 1 (.t 19) (.t 20)),o 22 (.load false 1 (.t 21)),o 23 (.len .slice (.t 22)),o 24 (m 0),o 25 (.len .slice (.t 24)),o 26 (.bin .neq .none (.t 23) (.t 25))])
        (.cond (.t 26) (.seq (.reg [o 4 (.mv (.k (.int .i64 2)))])
         .ret)
        .skip))
       (.seq (.reg [o 27 (m 0),o 28 (m 5),o 29 (.iadr 1 (.t 27) (.t 28)),o 30 (.load false 1 (.t 29)),o 31 (.callF 56 [(.t 30)]),o 6 (m 31)])
       (.seq (.reg [o 32 (m 6),o 33 (.bin .neq .none (.t 32) (.k (.int .i64 0)))])
       (.cond (.t 33) (.seq (.reg [o 34 (m 6),o 4 (m 34)])
        .ret)
       .skip)))))
     (.reg [o 17 (m 5),o 18 (.bin .add .none (.t 17) (.k (.int .i64 1))),o 5 (m 18)]))))))
  (.seq (.seq (.reg [o 35 (m 1),o 36 (.len .slice (.t 35)),o 37 (m 0),o 38 (.len .slice (.t 37)),o 39 (.bin .neq .none (.t 36) (.t 38))])
   (.cond (.t 39) (.seq (.reg [o 4 (.mv (.k (.int .i64 2)))])
    .ret)
   .skip))
  (.seq (.reg [o 40 (m 1),o 41 (.callF 56 [(.t 40)]),o 4 (m 41)])
  .ret))))))⟩
def a35 : AFn := ⟨40, [.tmp 8], (.seq (.reg [o 8 (.mv (.k (.bool false)))])
  (.seq (.seq (.reg [o 10 (m 0),o 11 (.len .slice (.t 10)),o 12 (m 1),o 13 (.bin .gtr .none (.t 11) (.t 12))])
   (.cond (.t 13) (.seq (.reg [o 8 (.mv (.k (.bool false)))])
    .ret)
   .skip))
  (.seq (.seq (.reg [o 9 (.mv (.k (.int .i64 0)))])
   (.block 0 (.loop (.seq (.seq (.reg [o 14 (m 9),o 15 (m 0),o 16 (.len .slice (.t 15)),o 17 (.bin .lss .none (.t 14) (.t 16))])
      (.cond (.t 17) .skip
      (.exit 0)))
     (.seq (.block 1 (.seq (.dreg [o 20 (m 0),o 21 (m 9),o 22 (.iadr 1 (.t 20) (.t 21)),⟨(some 23), .load false 1 (.t 22), none, (some 3)⟩,o 24 (.len .slice (.t 23)),o 25 (m 0),o 26 (.iadr 1 (.t 25) (.k (.int .i64 0))),⟨(some 27), .load false 1 (.t 26), none, (some 7)⟩,o 28 (.len .slice (.t 27)),o 29 (.bin .neq .none (.t 24) (.t 28)),o 30 (m 29),g 31 (m 0) 30 false,g 32 (m 9) 30 false,g 33 (.iadr 1 (.t 31) (.t 32)) 30 false,⟨(some 34), .load false 1 (.t 33), (some (30, false)), (some 14)⟩,g 35 (m 2) 30 false,g 36 (m 3) 30 false,g 37 (.callF 36 [(.t 34), (.t 35), (.t 36)]) 30 false,g 38 (.un .not (.t 37)) 30 false,o 39 (.pick (.t 30) (.k (.bool true)) (.t 38))])
       (.cond (.t 39) (.seq (.reg [o 8 (.mv (.k (.bool false)))])
        .ret)
       .skip)))
     (.reg [o 18 (m 9),o 19 (.bin .add .none (.t 18) (.k (.int .i64 1))),o 9 (m 19)]))))))
  (.seq (.reg [o 8 (.mv (.k (.bool true)))])
  .ret))))⟩
def a36 : AFn := ⟨25, [.tmp 6], (.seq (.reg [o 6 (.mv (.k (.bool false)))])
  (.seq (.seq (.reg [o 8 (m 0),o 9 (.len .slice (.t 8)),o 10 (m 1),o 11 (.bin .gtr .none (.t 9) (.t 10))])
   (.cond (.t 11) (.seq (.reg [o 6 (.mv (.k (.bool false)))])
    .ret)
   .skip))
  (.seq (.seq (.reg [o 7 (.mv (.k (.int .i64 0)))])
   (.block 0 (.loop (.seq (.seq (.reg [o 12 (m 7),o 13 (m 0),o 14 (.len .slice (.t 13)),o 15 (.bin .lss .none (.t 12) (.t 14))])
      (.cond (.t 15) .skip
      (.exit 0)))
     (.seq (.block 1 (.seq (.reg [o 18 (m 0),o 19 (m 7),o 20 (.iadr 1 (.t 18) (.t 19)),o 21 (.load false 1 (.t 20)),o 22 (m 2),o 23 (.callF 135 [(.t 21), (.t 22)]),o 24 (.un .not (.t 23))])
       (.cond (.t 24) (.seq (.reg [o 6 (.mv (.k (.bool false)))])
        .ret)
       .skip)))
     (.reg [o 16 (m 7),o 17 (.bin .add .none (.t 16) (.k (.int .i64 1))),o 7 (m 17)]))))))
  (.seq (.reg [o 6 (.mv (.k (.bool true)))])
  .ret))))⟩
def a47 : AFn := ⟨86, [.tmp 2], (.seq (.reg [o 1 (.box (.t 0)),o 2 (.mv (.k (.int .i64 0)))])
  (.seq (.seq (.reg [o 3 (.fadr 0 (.t 1)),o 4 (.load false 1 (.t 3))])
   (.block 0 (.seq (.reg [o 6 (.bin .eql .none (.t 4) (.k (.str [108, 101, 97, 100]))),o 5 (m 6)])
    (.cond (.t 5) (.seq (.seq (.reg [o 7 (.fadr 1 (.t 1)),o 8 (.load false 1 (.t 7)),o 9 (.bin .lss .none (.t 8) (.k (.int .i64 0))),o 10 (m 9),g 11 (.fadr 1 (.t 1)) 10 false,g 12 (.load false 1 (.t 11)) 10 false,g 13 (.bin .gtr .none (.t 12) (.k (.int .i64 64))) 10 false,o 14 (.pick (.t 10) (.k (.bool true)) (.t 13)),o 15 (m 14),g 16 (.fadr 3 (.t 1)) 15 false,g 17 (.load false 1 (.t 16)) 15 false,g 18 (.bin .lss .none (.t 17) (.k (.int .i64 0))) 15 false,o 19 (.pick (.t 15) (.k (.bool true)) (.t 18)),o 20 (m 19),g 21 (.fadr 3 (.t 1)) 20 false,g 22 (.load false 1 (.t 21)) 20 false,g 23 (.bin .gtr .none (.t 22) (.k (.int .i64 1))) 20 false,o 24 (.pick (.t 20) (.k (.bool true)) (.t 23)),o 25 (m 24),g 26 (.fadr 4 (.t 1)) 25 false,g 27 (.load false 1 (.t 26)) 25 false,g 28 (.bin .neq .none (.t 27) (.k (.int .i64 0))) 25 false,o 29 (.pick (.t 25) (.k (.bool true)) (.t 28))])
      (.cond (.t 29) (.seq (.reg [o 2 (.mv (.k (.int .i64 3)))])
       .ret)
      .skip))
     (.seq (.seq (.reg [o 30 (.fadr 3 (.t 1)),o 31 (.load false 1 (.t 30)),o 32 (.bin .eql .none (.t 31) (.k (.int .i64 1))),o 33 (m 32),g 34 (.fadr 2 (.t 1)) 33 true,g 35 (.load false 1 (.t 34)) 33 true,g 36 (m 35) 33 true,g 37 (.fadr 1 (.t 1)) 36 false,g 38 (.load false 1 (.t 37)) 36 false,g 39 (.bin .neq .none (.t 38) (.k (.int .i64 0))) 36 false,g 40 (.pick (.t 36) (.k (.bool true)) (.t 39)) 33 true,o 41 (.pick (.t 33) (.t 40) (.k (.bool false)))])
      (.cond (.t 41) (.seq (.reg [o 2 (.mv (.k (.int .i64 1)))])
       .ret)
      .skip))
     (.seq (.reg [o 2 (.mv (.k (.int .i64 0)))])
     .ret)))
    (.seq (.reg [o 43 (.bin .eql .none (.t 4) (.k (.str [98, 111, 117, 108, 100, 101, 114]))),o 42 (m 43)])
     (.cond (.t 42) (.seq (.seq (.reg [o 44 (.fadr 1 (.t 1)),o 45 (.load false 1 (.t 44)),o 46 (.bin .neq .none (.t 45) (.k (.int .i64 0))),o 47 (m 46),g 48 (.fadr 3 (.t 1)) 47 false,g 49 (.load false 1 (.t 48)) 47 false,g 50 (.bin .lss .none (.t 49) (.k (.int .i64 0))) 47 false,o 51 (.pick (.t 47) (.k (.bool true)) (.t 50)),o 52 (m 51),g 53 (.fadr 3 (.t 1)) 52 false,g 54 (.load false 1 (.t 53)) 52 false,g 55 (.bin .gtr .none (.t 54) (.k (.int .i64 99))) 52 false,o 56 (.pick (.t 52) (.k (.bool true)) (.t 55)),o 57 (m 56),g 58 (.fadr 4 (.t 1)) 57 false,g 59 (.load false 1 (.t 58)) 57 false,g 60 (.bin .lss .none (.t 59) (.k (.int .i64 0))) 57 false,o 61 (.pick (.t 57) (.k (.bool true)) (.t 60)),o 62 (m 61),g 63 (.fadr 4 (.t 1)) 62 false,g 64 (.load false 1 (.t 63)) 62 false,g 65 (.bin .gtr .none (.t 64) (.k (.int .i64 99))) 62 false,o 66 (.pick (.t 62) (.k (.bool true)) (.t 65))])
       (.cond (.t 66) (.seq (.reg [o 2 (.mv (.k (.int .i64 3)))])
        .ret)
       .skip))
      (.seq (.seq (.reg [o 67 (.fadr 2 (.t 1)),o 68 (.load false 1 (.t 67)),o 69 (m 68),g 70 (.fadr 3 (.t 1)) 69 false,g 71 (.load false 1 (.t 70)) 69 false,g 72 (.bin .gtr .none (.t 71) (.k (.int .i64 0))) 69 false,g 73 (m 72) 69 false,g 74 (.fadr 4 (.t 1)) 73 true,g 75 (.load false 1 (.t 74)) 73 true,g 76 (.bin .eql .none (.t 75) (.k (.int .i64 0))) 73 true,g 77 (m 76) 73 true,g 78 (.fadr 4 (.t 1)) 77 false,g 79 (.load false 1 (.t 78)) 77 false,g 80 (.fadr 3 (.t 1)) 77 false,g 81 (.load false 1 (.t 80)) 77 false,g 82 (.bin .gtr .none (.t 79) (.t 81)) 77 false,g 83 (.pick (.t 77) (.k (.bool true)) (.t 82)) 73 true,g 84 (.pick (.t 73) (.t 83) (.k (.bool false))) 69 false,o 85 (.pick (.t 69) (.k (.bool true)) (.t 84))])
       (.cond (.t 85) (.seq (.reg [o 2 (.mv (.k (.int .i64 1)))])
        .ret)
       .skip))
      (.seq (.reg [o 2 (.mv (.k (.int .i64 0)))])
      .ret)))
     .skip))))))
  (.seq (.reg [o 2 (.mv (.k (.int .i64 13)))])
  .ret)))⟩
def a49 : AFn := ⟨39, [.tmp 2], (.seq (.reg [o 2 (.mv (.k (.int .i64 0)))])
  (.seq (.seq (.reg [o 5 (m 0),o 6 (.len .slice (.t 5)),o 7 (.bin .eql .none (.t 6) (.k (.int .i64 0)))])
   (.cond (.t 7) (.seq (.reg [o 2 (.mv (.k (.int .i64 12)))])
    .ret)
   .skip))
  (.seq (.seq (.reg [o 8 (m 0),o 9 (.len .slice (.t 8)),o 10 (.bin .gtr .none (.t 9) (.k (.int .i64 256)))])
   (.cond (.t 10) (.seq (.reg [o 2 (.mv (.k (.int .i64 5)))])
    .ret)
   .skip))
  (.seq (.seq (.reg [o 3 (.mv (.k (.int .i64 0)))])
   (.block 0 (.loop (.seq (.seq (.reg [o 11 (m 3),o 12 (m 0),o 13 (.len .slice (.t 12)),o 14 (.bin .lss .none (.t 11) (.t 13))])
      (.cond (.t 14) .skip
      (.exit 0)))
     (.seq (.block 1 (.seq (.reg [o 17 (m 0),o 18 (m 3),o 19 (.iadr 5 (.t 17) (.t 18)),o 20 (.load true 5 (.t 19)),o 21 (.callF 47 [(.t 20)]),o 4 (m 21)])
       (.seq (.seq (.dreg [o 22 (m 4),o 23 (.bin .eql .none (.t 22) (.k (.int .i64 0))),o 24 (m 23),g 25 (m 0) 24 true,g 26 (m 3) 24 true,g 27 (.iadr 5 (.t 25) (.t 26)) 24 true,g 28 (.fadr 0 (.t 27)) 24 true,⟨(some 29), .load false 1 (.t 28), (some (24, true)), (some 7)⟩,g 30 (m 0) 24 true,g 31 (.iadr 5 (.t 30) (.k (.int .i64 0))) 24 true,g 32 (.fadr 0 (.t 31)) 24 true,⟨(some 33), .load false 1 (.t 32), (some (24, true)), (some 11)⟩,g 34 (.bin .neq .none (.t 29) (.t 33)) 24 true,o 35 (.pick (.t 24) (.t 34) (.k (.bool false)))])
        (.cond (.t 35) (.reg [o 4 (.mv (.k (.int .i64 13)))])
        .skip))
       (.seq (.reg [o 36 (m 4),o 37 (.bin .neq .none (.t 36) (.k (.int .i64 0)))])
       (.cond (.t 37) (.seq (.reg [o 38 (m 4),o 2 (m 38)])
        .ret)
       .skip)))))
     (.reg [o 15 (m 3),o 16 (.bin .add .none (.t 15) (.k (.int .i64 1))),o 3 (m 16)]))))))
  (.seq (.reg [o 2 (.mv (.k (.int .i64 0)))])
  .ret)))))⟩
def a50 : AFn := ⟨19, [.tmp 2], (.seq (.reg [o 2 (.mv (.k (.nils)))])
  (.seq (.reg [o 3 (.mv (.k (.nils)))])
  (.seq (.seq (.reg [o 4 (.mv (.k (.int .i64 0)))])
   (.block 0 (.loop (.seq (.seq (.reg [o 5 (m 4),o 6 (m 0),o 7 (.len .slice (.t 6)),o 8 (.bin .lss .none (.t 5) (.t 7))])
      (.cond (.t 8) .skip
      (.exit 0)))
     (.seq (.block 1 (.reg [o 11 (m 3),o 12 (m 0),o 13 (m 4),o 14 (.iadr 5 (.t 12) (.t 13)),o 15 (.load true 5 (.t 14)),o 16 (.bslice 5 1 [.str [], .int .i64 0, .bool false, .int .i64 0, .int .i64 0] [(0, 5, (.t 15))]),o 17 (.app 5 48 (.t 11) (.t 16)),o 3 (m 17)]))
     (.reg [o 9 (m 4),o 10 (.bin .add .none (.t 9) (.k (.int .i64 1))),o 4 (m 10)]))))))
  (.seq (.reg [o 18 (m 3),o 2 (m 18)])
  .ret))))⟩
def a54 : AFn := ⟨26, [.tmp 4], (.seq (.reg [o 4 (.mv (.k (.bool false)))])
  (.seq (.seq (.reg [o 6 (m 0),o 7 (.len .slice (.t 6)),o 8 (m 1),o 9 (.len .slice (.t 8)),o 10 (.bin .neq .none (.t 7) (.t 9))])
   (.cond (.t 10) (.seq (.reg [o 4 (.mv (.k (.bool false)))])
    .ret)
   .skip))
  (.seq (.seq (.reg [o 5 (.mv (.k (.int .i64 0)))])
   (.block 0 (.loop (.seq (.seq (.reg [o 11 (m 5),o 12 (m 0),o 13 (.len .slice (.t 12)),o 14 (.bin .lss .none (.t 11) (.t 13))])
      (.cond (.t 14) .skip
      (.exit 0)))
     (.seq (.block 1 (.seq (.dreg [o 17 (m 0),o 18 (m 5),o 19 (.iadr 5 (.t 17) (.t 18)),⟨(some 20), .load true 5 (.t 19), none, (some 3)⟩,o 21 (m 1),o 22 (m 5),o 23 (.iadr 5 (.t 21) (.t 22)),⟨(some 24), .load true 5 (.t 23), none, (some 7)⟩,o 25 (.bin .neq (.plain [(0, .str), (1, .int), (2, .bool), (3, .int), (4, .int)]) (.t 20) (.t 24))])
       (.cond (.t 25) (.seq (.reg [o 4 (.mv (.k (.bool false)))])
        .ret)
       .skip)))
     (.reg [o 15 (m 5),o 16 (.bin .add .none (.t 15) (.k (.int .i64 1))),o 5 (m 16)]))))))
  (.seq (.reg [o 4 (.mv (.k (.bool true)))])
  .ret))))⟩
def a55 : AFn := ⟨10, [.tmp 2], (.seq (.reg [o 2 (.mv (.k (.int .i64 0)))])
  (.seq (.seq (.reg [o 3 (m 0),o 4 (.len .slice (.t 3)),o 5 (.bin .eql .none (.t 4) (.k (.int .i64 0)))])
   (.cond (.t 5) (.seq (.reg [o 2 (.mv (.k (.int .i64 0)))])
    .ret)
   .skip))
  (.seq (.reg [o 6 (m 0),o 7 (.iadr 1 (.t 6) (.k (.int .i64 0))),o 8 (.load false 1 (.t 7)),o 9 (.len .slice (.t 8)),o 2 (m 9)])
  .ret)))⟩
def a56 : AFn := ⟨19, [.tmp 2], (.seq (.reg [o 2 (.mv (.k (.int .i64 0)))])
  (.seq (.seq (.reg [o 3 (.mv (.k (.int .i64 0)))])
   (.block 0 (.loop (.seq (.seq (.reg [o 5 (m 3),o 6 (m 0),o 7 (.len .slice (.t 6)),o 8 (.bin .lss .none (.t 5) (.t 7))])
      (.cond (.t 8) .skip
      (.exit 0)))
     (.seq (.block 1 (.seq (.reg [o 11 (m 0),o 12 (m 3),o 13 (.iadr 1 (.t 11) (.t 12)),o 14 (.load false 1 (.t 13)),o 15 (.callF 19 [(.t 14)]),o 4 (m 15)])
       (.seq (.reg [o 16 (m 4),o 17 (.bin .neq .none (.t 16) (.k (.int .i64 0)))])
       (.cond (.t 17) (.seq (.reg [o 18 (m 4),o 2 (m 18)])
        .ret)
       .skip))))
     (.reg [o 9 (m 3),o 10 (.bin .add .none (.t 9) (.k (.int .i64 1))),o 3 (m 10)]))))))
  (.seq (.reg [o 2 (.mv (.k (.int .i64 0)))])
  .ret)))⟩
def a59 : AFn := ⟨21, [.tmp 2], (.seq (.reg [o 1 (.box (.t 0)),o 2 (.mv (.k (.int .i64 0)))])
  (.seq (.reg [o 4 (.fadr 0 (.t 1)),o 5 (.load false 1 (.t 4)),o 6 (.fadr 1 (.t 1)),o 7 (.load false 1 (.t 6)),o 8 (.bslice 1 2 [.str [], .str []] [(0, 1, (.t 5)), (1, 1, (.t 7))]),o 9 (.callF 56 [(.t 8)]),o 3 (m 9)])
  (.seq (.seq (.reg [o 10 (m 3),o 11 (.bin .eql .none (.t 10) (.k (.int .i64 0))),o 12 (m 11),g 13 (.fadr 0 (.t 1)) 12 true,g 14 (.load false 1 (.t 13)) 12 true,g 15 (.fadr 1 (.t 1)) 12 true,g 16 (.load false 1 (.t 15)) 12 true,g 17 (.callF 75 [(.t 14), (.t 16)]) 12 true,g 18 (.bin .gtr .none (.t 17) (.k (.int .i64 0))) 12 true,o 19 (.pick (.t 12) (.t 18) (.k (.bool false)))])
   (.cond (.t 19) (.reg [o 3 (.mv (.k (.int .i64 11)))])
   .skip))
  (.seq (.reg [o 20 (m 3),o 2 (m 20)])
  .ret))))⟩
def a61 : AFn := ⟨11, [.cell 4 true 2, .tmp 5], (.seq (.reg [o 2 (.box (.t 0)),o 3 (.box (.t 1)),o 4 (.alloc [.str [], .str []]),o 5 (.mv (.k (.int .i64 0)))])
  (.seq (.reg [o 6 (.load true 2 (.t 2)),o 7 (.load true 2 (.t 3)),o 8 (.callF 162 [(.t 6), (.t 7), (.k (.fn 163 []))]),o 9 (.ext (.t 8) 0),o 10 (.ext (.t 8) 1),n (.store 2 (.t 4) (.t 9)),o 5 (m 10)])
  .ret))⟩
def a62 : AFn := ⟨11, [.cell 4 true 2, .tmp 5], (.seq (.reg [o 2 (.box (.t 0)),o 3 (.box (.t 1)),o 4 (.alloc [.str [], .str []]),o 5 (.mv (.k (.int .i64 0)))])
  (.seq (.reg [o 6 (.load true 2 (.t 2)),o 7 (.load true 2 (.t 3)),o 8 (.callF 162 [(.t 6), (.t 7), (.k (.fn 164 []))]),o 9 (.ext (.t 8) 0),o 10 (.ext (.t 8) 1),n (.store 2 (.t 4) (.t 9)),o 5 (m 10)])
  .ret))⟩
def a68 : AFn := ⟨17, [.tmp 4], (.seq (.reg [o 2 (.box (.t 0)),o 4 (.mv (.k (.bool false)))])
  (.seq (.reg [o 5 (.fadr 0 (.t 2)),o 6 (.load false 1 (.t 5)),o 7 (m 1),o 8 (.callF 75 [(.t 6), (.t 7)]),o 9 (.bin .leq .none (.t 8) (.k (.int .i64 0))),o 10 (m 9),g 11 (m 1) 10 true,g 12 (.fadr 1 (.t 2)) 10 true,g 13 (.load false 1 (.t 12)) 10 true,g 14 (.callF 75 [(.t 11), (.t 13)]) 10 true,g 15 (.bin .leq .none (.t 14) (.k (.int .i64 0))) 10 true,o 16 (.pick (.t 10) (.t 15) (.k (.bool false))),o 4 (m 16)])
  .ret))⟩
def a72 : AFn := ⟨63, [.tmp 4], (.seq (.reg [o 4 (.mv (.k (.str [])))])
  (.seq (.reg [o 16 (m 0),o 17 (.callF 168 [(.t 16)]),o 15 (m 17),o 18 (.ext (.t 15) 0),o 19 (.ext (.t 15) 1),o 20 (.ext (.t 15) 2),o 5 (m 18),o 6 (m 19),o 7 (m 20)])
  (.seq (.reg [o 22 (m 1),o 23 (.callF 168 [(.t 22)]),o 21 (m 23),o 24 (.ext (.t 21) 0),o 25 (.ext (.t 21) 1),o 26 (.ext (.t 21) 2),o 8 (m 24),o 9 (m 25),o 10 (m 26)])
  (.seq (.seq (.reg [o 27 (m 7),o 28 (m 27),g 29 (m 10) 28 true,o 30 (.pick (.t 28) (.t 29) (.k (.bool false)))])
   (.cond (.t 30) (.seq (.reg [o 31 (m 5),o 32 (m 9),o 33 (.bin .mul .none (.t 31) (.t 32)),o 34 (m 8),o 35 (m 6),o 36 (.bin .mul .none (.t 34) (.t 35)),o 37 (.bin .add .none (.t 33) (.t 36)),o 38 (m 6),o 39 (m 9),o 40 (.bin .mul .none (.t 38) (.t 39)),o 41 (.callF 99 [(.t 37), (.t 40)]),o 4 (m 41)])
    .ret)
   .skip))
  (.seq (.reg [o 43 (m 0),o 44 (.callF 124 [(.t 43)]),o 42 (m 44),o 45 (.ext (.t 42) 0),o 46 (.ext (.t 42) 1),o 11 (.alloc [.bool false, .nils]),o 12 (.alloc [.bool false, .nils]),n (.store 2 (.t 11) (.t 45)),n (.store 2 (.t 12) (.t 46))])
  (.seq (.reg [o 48 (m 1),o 49 (.callF 124 [(.t 48)]),o 47 (m 49),o 50 (.ext (.t 47) 0),o 51 (.ext (.t 47) 1),o 13 (.alloc [.bool false, .nils]),o 14 (.alloc [.bool false, .nils]),n (.store 2 (.t 13) (.t 50)),n (.store 2 (.t 14) (.t 51))])
  (.seq (.dreg [⟨(some 52), .load true 2 (.t 11), none, (some 0)⟩,⟨(some 53), .load true 2 (.t 14), none, (some 1)⟩,o 54 (.callF 171 [(.t 52), (.t 53)]),⟨(some 55), .load true 2 (.t 13), none, (some 3)⟩,⟨(some 56), .load true 2 (.t 12), none, (some 4)⟩,o 57 (.callF 171 [(.t 55), (.t 56)]),o 58 (.callF 170 [(.t 54), (.t 57)]),⟨(some 59), .load true 2 (.t 12), none, (some 7)⟩,⟨(some 60), .load true 2 (.t 14), none, (some 8)⟩,o 61 (.callF 171 [(.t 59), (.t 60)]),o 62 (.callF 169 [(.t 58), (.t 61)]),o 4 (m 62)])
  .ret)))))))⟩
def a73 : AFn := ⟨9, [.tmp 4], (.seq (.reg [o 4 (.mv (.k (.str [])))])
  (.seq (.reg [o 5 (m 0),o 6 (m 1),o 7 (.callF 172 [(.t 6)]),o 8 (.callF 72 [(.t 5), (.t 7)]),o 4 (m 8)])
  .ret))⟩
def a74 : AFn := ⟨55, [.tmp 4], (.seq (.reg [o 4 (.mv (.k (.str [])))])
  (.seq (.reg [o 16 (m 0),o 17 (.callF 168 [(.t 16)]),o 15 (m 17),o 18 (.ext (.t 15) 0),o 19 (.ext (.t 15) 1),o 20 (.ext (.t 15) 2),o 5 (m 18),o 6 (m 19),o 7 (m 20)])
  (.seq (.reg [o 22 (m 1),o 23 (.callF 168 [(.t 22)]),o 21 (m 23),o 24 (.ext (.t 21) 0),o 25 (.ext (.t 21) 1),o 26 (.ext (.t 21) 2),o 8 (m 24),o 9 (m 25),o 10 (m 26)])
  (.seq (.seq (.reg [o 27 (m 7),o 28 (m 27),g 29 (m 10) 28 true,o 30 (.pick (.t 28) (.t 29) (.k (.bool false)))])
   (.cond (.t 30) (.seq (.reg [o 31 (m 5),o 32 (m 8),o 33 (.bin .mul .none (.t 31) (.t 32)),o 34 (m 6),o 35 (m 9),o 36 (.bin .mul .none (.t 34) (.t 35)),o 37 (.callF 99 [(.t 33), (.t 36)]),o 4 (m 37)])
    .ret)
   .skip))
  (.seq (.reg [o 39 (m 0),o 40 (.callF 124 [(.t 39)]),o 38 (m 40),o 41 (.ext (.t 38) 0),o 42 (.ext (.t 38) 1),o 11 (.alloc [.bool false, .nils]),o 12 (.alloc [.bool false, .nils]),n (.store 2 (.t 11) (.t 41)),n (.store 2 (.t 12) (.t 42))])
  (.seq (.reg [o 44 (m 1),o 45 (.callF 124 [(.t 44)]),o 43 (m 45),o 46 (.ext (.t 43) 0),o 47 (.ext (.t 43) 1),o 13 (.alloc [.bool false, .nils]),o 14 (.alloc [.bool false, .nils]),n (.store 2 (.t 13) (.t 46)),n (.store 2 (.t 14) (.t 47))])
  (.seq (.dreg [⟨(some 48), .load true 2 (.t 11), none, (some 0)⟩,⟨(some 49), .load true 2 (.t 13), none, (some 1)⟩,o 50 (.callF 171 [(.t 48), (.t 49)]),⟨(some 51), .load true 2 (.t 12), none, (some 3)⟩,⟨(some 52), .load true 2 (.t 14), none, (some 4)⟩,o 53 (.callF 171 [(.t 51), (.t 52)]),o 54 (.callF 169 [(.t 50), (.t 53)]),o 4 (m 54)])
  .ret)))))))⟩
def a75 : AFn := ⟨9, [.tmp 4], (.seq (.reg [o 4 (.mv (.k (.int .i64 0)))])
  (.seq (.reg [o 5 (m 0),o 6 (m 1),o 7 (.callF 73 [(.t 5), (.t 6)]),o 8 (.callF 21 [(.t 7)]),o 4 (m 8)])
  .ret))⟩
def a76 : AFn := ⟨9, [.tmp 4], (.seq (.reg [o 4 (.mv (.k (.str [])))])
  (.seq (.reg [o 5 (m 0),o 6 (m 1),o 7 (.callF 173 [(.t 6)]),o 8 (.callF 74 [(.t 5), (.t 7)]),o 4 (m 8)])
  .ret))⟩
def a81 : AFn := ⟨29, [.tmp 8], (.seq (.reg [o 8 (.mv (.k (.bool false)))])
  (.seq (.seq (.reg [o 9 (m 2),o 10 (.bin .eql .none (.t 9) (.k (.int .i64 0)))])
   (.cond (.t 10) (.reg [o 11 (m 3),o 12 (.callF 176 [(.t 11)]),o 2 (m 12)])
   .skip))
  (.seq (.seq (.reg [o 13 (m 2),o 14 (.bin .neq .none (.t 13) (.k (.int .i64 0)))])
   (.cond (.t 14) (.seq (.reg [o 15 (m 0),o 16 (.bin .eql .none (.t 15) (.k (.str []))),o 17 (m 16),g 18 (m 1) 17 true,g 19 (m 2) 17 true,g 20 (.bin .eql .none (.t 18) (.t 19)) 17 true,o 21 (.pick (.t 17) (.t 20) (.k (.bool false))),o 8 (m 21)])
    .ret)
   .skip))
  (.seq (.reg [o 22 (m 1),o 23 (.bin .eql .none (.t 22) (.k (.int .i64 0))),o 24 (m 23),g 25 (m 0) 24 true,g 26 (m 3) 24 true,g 27 (.bin .eql .none (.t 25) (.t 26)) 24 true,o 28 (.pick (.t 24) (.t 27) (.k (.bool false))),o 8 (m 28)])
  .ret))))⟩
def a83 : AFn := ⟨17, [.tmp 4, .tmp 5], (.seq (.reg [o 2 (.box (.t 0)),o 3 (.box (.t 1)),o 4 (.mv (.k (.int .i64 0))),o 5 (.mv (.k (.int .i64 0)))])
  (.seq (.seq (.reg [o 7 (.load true 3 (.t 2)),o 8 (.load true 3 (.t 3)),o 9 (.bslice 3 2 [.int .i64 0, .int .i64 0, .int .i64 0, .int .i64 0, .int .i64 0, .int .i64 0] [(0, 3, (.t 7)), (3, 3, (.t 8))]),o 10 (.callF 177 [(.t 9)]),o 6 (m 10)])
   (.seq (.reg [o 11 (m 6),o 12 (.bin .neq .none (.t 11) (.k (.int .i64 0)))])
   (.cond (.t 12) (.seq (.reg [o 13 (m 6),o 4 (.mv (.k (.int .i64 0))),o 5 (m 13)])
    .ret)
   .skip)))
  (.seq (.reg [o 14 (.load true 3 (.t 2)),o 15 (.load true 3 (.t 3)),o 16 (.callF 178 [(.t 14), (.t 15)]),o 4 (m 16),o 5 (.mv (.k (.int .i64 0)))])
  .ret)))⟩
def a91 : AFn := ⟨6, [.tmp 2], (.seq (.reg [o 2 (.mv (.k (.str [])))])
  (.seq (.reg [o 3 (m 0),o 4 (.callF 182 [(.t 3)]),o 5 (.callF 181 [(.t 4)]),o 2 (m 5)])
  .ret))⟩
def a94 : AFn := ⟨8, [.tmp 2], (.seq (.reg [o 2 (.mv (.k (.bool false)))])
  (.seq (.reg [o 3 (m 0),o 4 (.callF 122 [(.t 3)]),o 5 (m 0),o 6 (.len .str (.t 5)),o 7 (.bin .eql .none (.t 4) (.t 6)),o 2 (m 7)])
  .ret))⟩
def a99 : AFn := ⟨61, [.tmp 4], (.seq (.reg [o 4 (.mv (.k (.str [])))])
  (.seq (.seq (.reg [o 7 (m 0),o 8 (.bin .lss .none (.t 7) (.k (.int .i64 (-4000000000000000000)))),o 9 (m 8),g 10 (m 0) 9 false,g 11 (.bin .gtr .none (.t 10) (.k (.int .i64 4000000000000000000))) 9 false,o 12 (.pick (.t 9) (.k (.bool true)) (.t 11)),o 13 (m 12),g 14 (m 1) 13 false,g 15 (.bin .lss .none (.t 14) (.k (.int .i64 (-4000000000000000000)))) 13 false,o 16 (.pick (.t 13) (.k (.bool true)) (.t 15)),o 17 (m 16),g 18 (m 1) 17 false,g 19 (.bin .gtr .none (.t 18) (.k (.int .i64 4000000000000000000))) 17 false,o 20 (.pick (.t 17) (.k (.bool true)) (.t 19))])
   (.cond (.t 20) (.seq (.reg [o 21 (m 0),o 22 (.callF 182 [(.t 21)]),o 23 (m 1),o 24 (.callF 182 [(.t 23)]),o 25 (.callF 169 [(.t 22), (.t 24)]),o 4 (m 25)])
    .ret)
   .skip))
  (.seq (.seq (.reg [o 26 (m 1),o 27 (.bin .lss .none (.t 26) (.k (.int .i64 0)))])
   (.cond (.t 27) (.reg [o 28 (m 0),o 29 (.bin .sub .none (.k (.int .i64 0)) (.t 28)),o 30 (m 1),o 31 (.bin .sub .none (.k (.int .i64 0)) (.t 30)),o 0 (m 29),o 1 (m 31)])
   .skip))
  (.seq (.reg [o 32 (m 0),o 33 (m 0),o 34 (.bin .sub .none (.k (.int .i64 0)) (.t 33)),o 35 (.mx [(.t 32), (.t 34)]),o 36 (m 1),o 37 (.callF 185 [(.t 35), (.t 36)]),o 5 (m 37)])
  (.seq (.dreg [o 38 (m 0),o 39 (m 5),o 40 (.bin .quo .none (.t 38) (.t 39)),o 41 (m 1),o 42 (m 5),o 43 (.bin .quo .none (.t 41) (.t 42)),o 0 (m 40),o 1 (m 43)])
  (.seq (.reg [o 6 (.mv (.k (.str [])))])
  (.seq (.seq (.reg [o 44 (m 0),o 45 (.bin .lss .none (.t 44) (.k (.int .i64 0)))])
   (.cond (.t 45) (.reg [o 6 (.mv (.k (.str [45])))])
   .skip))
  (.seq (.reg [o 46 (m 6),o 47 (m 0),o 48 (m 0),o 49 (.bin .sub .none (.k (.int .i64 0)) (.t 48)),o 50 (.mx [(.t 47), (.t 49)]),o 51 (.callF 186 [(.t 50), (.k (.int .i64 1))]),o 52 (.bin .add .none (.t 46) (.t 51)),o 6 (m 52)])
  (.seq (.seq (.reg [o 53 (m 1),o 54 (.bin .gtr .none (.t 53) (.k (.int .i64 1)))])
   (.cond (.t 54) (.reg [o 55 (m 6),o 56 (.bin .add .none (.t 55) (.k (.str [47]))),o 57 (m 1),o 58 (.callF 186 [(.t 57), (.k (.int .i64 1))]),o 59 (.bin .add .none (.t 56) (.t 58)),o 6 (m 59)])
   .skip))
  (.seq (.reg [o 60 (m 6),o 4 (m 60)])
  .ret))))))))))⟩
def a100 : AFn := ⟨17, [.tmp 2], (.seq (.reg [o 2 (.mv (.k (.str [])))])
  (.seq (.seq (.reg [o 5 (m 0),o 6 (.callF 94 [(.t 5)])])
   (.cond (.t 6) (.seq (.reg [o 7 (m 0),o 2 (m 7)])
    .ret)
   .skip))
  (.seq (.reg [o 9 (m 0),o 10 (.callF 124 [(.t 9)]),o 8 (m 10),o 11 (.ext (.t 8) 0),o 12 (.ext (.t 8) 1),o 3 (.alloc [.bool false, .nils]),o 4 (.alloc [.bool false, .nils]),n (.store 2 (.t 3) (.t 11)),n (.store 2 (.t 4) (.t 12))])
  (.seq (.reg [o 13 (.load true 2 (.t 3)),o 14 (.load true 2 (.t 4)),o 15 (.callF 187 [(.t 13), (.t 14)]),o 16 (.callF 181 [(.t 15)]),o 2 (m 16)])
  .ret))))⟩
def a107 : AFn := ⟨5, [.tmp 2], (.seq (.reg [o 2 (.mv (.k (.bool false)))])
  (.seq (.reg [o 3 (m 0),o 4 (.bin .eql .none (.t 3) (.k (.str [48]))),o 2 (m 4)])
  .ret))⟩
def a122 : AFn := ⟨17, [.tmp 2], (.seq (.reg [o 2 (.mv (.k (.int .i64 0)))])
  (.seq (.seq (.reg [o 3 (.mv (.k (.int .i64 0)))])
   (.block 0 (.loop (.seq (.seq (.reg [o 4 (m 3),o 5 (m 0),o 6 (.len .str (.t 5)),o 7 (.bin .lss .none (.t 4) (.t 6))])
      (.cond (.t 7) .skip
      (.exit 0)))
     (.seq (.block 1 (.seq (.reg [o 10 (m 0),o 11 (m 3),o 12 (.idxs (.t 10) (.t 11)),o 13 (.bin .eql .none (.t 12) (.k (.int .u8 47)))])
       (.cond (.t 13) (.seq (.reg [o 14 (m 3),o 2 (m 14)])
        .ret)
       .skip)))
     (.reg [o 8 (m 3),o 9 (.bin .add .none (.t 8) (.k (.int .i64 1))),o 3 (m 9)]))))))
  (.seq (.reg [o 15 (m 0),o 16 (.len .str (.t 15)),o 2 (m 16)])
  .ret)))⟩
def a123 : AFn := ⟨18, [.tmp 2], (.seq (.reg [o 2 (.mv (.k (.bool false)))])
  (.seq (.seq (.reg [o 3 (m 0),o 4 (.len .str (.t 3)),o 5 (.bin .eql .none (.t 4) (.k (.int .i64 0))),o 6 (m 5),g 7 (m 0) 6 false,g 8 (.len .str (.t 7)) 6 false,g 9 (.bin .gtr .none (.t 8) (.k (.int .i64 1))) 6 false,g 10 (m 9) 6 false,g 11 (m 0) 10 true,g 12 (.idxs (.t 11) (.k (.int .i64 0))) 10 true,g 13 (.bin .eql .none (.t 12) (.k (.int .u8 48))) 10 true,g 14 (.pick (.t 10) (.t 13) (.k (.bool false))) 6 false,o 15 (.pick (.t 6) (.k (.bool true)) (.t 14))])
   (.cond (.t 15) (.seq (.reg [o 2 (.mv (.k (.bool false)))])
    .ret)
   .skip))
  (.seq (.reg [o 16 (m 0),o 17 (.callF 151 [(.t 16)]),o 2 (m 17)])
  .ret)))⟩
def a124 : AFn := ⟨25, [.cell 2 true 2, .cell 3 true 2], (.seq (.reg [o 2 (.alloc [.bool false, .nils]),o 3 (.alloc [.bool false, .nils])])
  (.seq (.reg [o 6 (m 0),o 4 (m 6)])
  (.seq (.reg [o 7 (m 4),o 8 (.callF 122 [(.t 7)]),o 5 (m 8)])
  (.seq (.seq (.reg [o 9 (m 5),o 10 (m 4),o 11 (.len .str (.t 10)),o 12 (.bin .eql .none (.t 9) (.t 11))])
   (.cond (.t 12) (.seq (.reg [o 13 (m 4),o 14 (.callF 207 [(.t 13)]),o 15 (.callF 182 [(.k (.int .i64 1))]),n (.store 2 (.t 2) (.t 14)),n (.store 2 (.t 3) (.t 15))])
    .ret)
   .skip))
  (.seq (.dreg [o 16 (m 4),o 17 (m 5),o 18 (.sls (.t 16) none (some (.t 17))),o 19 (.callF 207 [(.t 18)]),o 20 (m 4),o 21 (m 5),o 22 (.bin .add .none (.t 21) (.k (.int .i64 1))),o 23 (.sls (.t 20) (some (.t 22)) none),o 24 (.callF 207 [(.t 23)]),n (.store 2 (.t 2) (.t 19)),n (.store 2 (.t 3) (.t 24))])
  .ret)))))⟩
def a125 : AFn := ⟨19, [.tmp 4], (.seq (.reg [o 4 (.mv (.k (.nils)))])
  (.seq (.block 0 (.loop (.seq (.seq (.reg [o 7 (m 1),o 8 (.len .slice (.t 7)),o 9 (.bin .gtr .none (.t 8) (.k (.int .i64 0)))])
      (.cond (.t 9) .skip
      (.exit 0)))
     (.block 1 (.seq (.reg [o 11 (m 0),o 12 (m 1),o 13 (.callF 208 [(.t 11), (.t 12)]),o 10 (m 13),o 14 (.ext (.t 10) 0),o 15 (.ext (.t 10) 1),o 5 (m 14),o 6 (m 15)])
      (.reg [o 16 (m 1),o 17 (m 6),o 0 (m 16),o 1 (m 17)]))))))
  (.seq (.reg [o 18 (m 0),o 4 (m 18)])
  .ret)))⟩
def a126 : AFn := ⟨9, [.tmp 2], (.seq (.reg [o 1 (.box (.t 0)),o 2 (.mv (.k (.int .i64 0)))])
  (.seq (.reg [o 3 (.fadr 0 (.t 1)),o 4 (.load false 1 (.t 3)),o 5 (.fadr 1 (.t 1)),o 6 (.load false 1 (.t 5)),o 7 (.bslice 1 2 [.str [], .str []] [(0, 1, (.t 4)), (1, 1, (.t 6))]),o 8 (.callF 142 [(.t 7)]),o 2 (m 8)])
  .ret))⟩
def a128 : AFn := ⟨7, [.tmp 2], (.seq (.reg [o 2 (.mv (.k (.str [])))])
  (.seq (.reg [o 3 (m 0),o 4 (m 0),o 5 (.callF 122 [(.t 4)]),o 6 (.sls (.t 3) none (some (.t 5))),o 2 (m 6)])
  .ret))⟩
def a129 : AFn := ⟨14, [.tmp 2], (.seq (.reg [o 2 (.mv (.k (.str [])))])
  (.seq (.reg [o 4 (m 0),o 5 (.callF 122 [(.t 4)]),o 3 (m 5)])
  (.seq (.seq (.reg [o 6 (m 3),o 7 (m 0),o 8 (.len .str (.t 7)),o 9 (.bin .eql .none (.t 6) (.t 8))])
   (.cond (.t 9) (.seq (.reg [o 2 (.mv (.k (.str [49])))])
    .ret)
   .skip))
  (.seq (.reg [o 10 (m 0),o 11 (m 3),o 12 (.bin .add .none (.t 11) (.k (.int .i64 1))),o 13 (.sls (.t 10) (some (.t 12)) none),o 2 (m 13)])
  .ret))))⟩
def a135 : AFn := ⟨31, [.tmp 4], (.seq (.reg [o 4 (.mv (.k (.bool false)))])
  (.seq (.reg [o 5 (m 0),o 6 (.len .str (.t 5)),o 7 (m 1),o 8 (.bin .mul .none (.k (.int .i64 2)) (.t 7)),o 9 (.bin .add .none (.t 8) (.k (.int .i64 2))),o 10 (.bin .leq .none (.t 6) (.t 9)),o 11 (m 10),g 12 (m 0) 11 true,g 13 (.callF 19 [(.t 12)]) 11 true,g 14 (.bin .eql .none (.t 13) (.k (.int .i64 0))) 11 true,o 15 (.pick (.t 11) (.t 14) (.k (.bool false))),o 16 (m 15),g 17 (m 0) 16 true,g 18 (.callF 128 [(.t 17)]) 16 true,g 19 (.callF 214 [(.t 18)]) 16 true,g 20 (.len .str (.t 19)) 16 true,g 21 (m 1) 16 true,g 22 (.bin .leq .none (.t 20) (.t 21)) 16 true,o 23 (.pick (.t 16) (.t 22) (.k (.bool false))),o 24 (m 23),g 25 (m 0) 24 true,g 26 (.callF 129 [(.t 25)]) 24 true,g 27 (.len .str (.t 26)) 24 true,g 28 (m 1) 24 true,g 29 (.bin .leq .none (.t 27) (.t 28)) 24 true,o 30 (.pick (.t 24) (.t 29) (.k (.bool false))),o 4 (m 30)])
  .ret))⟩
def a142 : AFn := ⟨16, [.tmp 2], (.seq (.reg [o 2 (.mv (.k (.int .i64 0)))])
  (.seq (.seq (.reg [o 3 (.mv (.k (.int .i64 0)))])
   (.block 0 (.loop (.seq (.seq (.reg [o 4 (m 3),o 5 (m 0),o 6 (.len .slice (.t 5)),o 7 (.bin .lss .none (.t 4) (.t 6))])
      (.cond (.t 7) .skip
      (.exit 0)))
     (.seq (.block 1 (.seq (.reg [o 10 (m 0),o 11 (m 3),o 12 (.iadr 1 (.t 10) (.t 11)),o 13 (.load false 1 (.t 12)),o 14 (.callF 176 [(.t 13)]),o 15 (.bin .neq .none (.t 14) (.k (.int .i64 0)))])
       (.cond (.t 15) (.seq (.reg [o 2 (.mv (.k (.int .i64 4)))])
        .ret)
       .skip)))
     (.reg [o 8 (m 3),o 9 (.bin .add .none (.t 8) (.k (.int .i64 1))),o 3 (m 9)]))))))
  (.seq (.reg [o 2 (.mv (.k (.int .i64 0)))])
  .ret)))⟩
def a168 : AFn := ⟨54, [.tmp 2, .tmp 3, .tmp 4], (.seq (.reg [o 2 (.mv (.k (.int .i64 0))),o 3 (.mv (.k (.int .i64 0))),o 4 (.mv (.k (.bool false)))])
  (.seq (.reg [o 10 (m 0),o 5 (m 10)])
  (.seq (.seq (.reg [o 11 (m 5),o 12 (.len .str (.t 11)),o 13 (.bin .gtr .none (.t 12) (.k (.int .i64 20)))])
   (.cond (.t 13) (.seq (.reg [o 2 (.mv (.k (.int .i64 0))),o 3 (.mv (.k (.int .i64 0))),o 4 (.mv (.k (.bool false)))])
    .ret)
   .skip))
  (.seq (.reg [o 14 (m 5),o 15 (.len .str (.t 14)),o 16 (.bin .gtr .none (.t 15) (.k (.int .i64 0))),o 17 (m 16),g 18 (m 5) 17 true,g 19 (.idxs (.t 18) (.k (.int .i64 0))) 17 true,g 20 (.bin .eql .none (.t 19) (.k (.int .u8 45))) 17 true,o 21 (.pick (.t 17) (.t 20) (.k (.bool false))),o 6 (m 21)])
  (.seq (.seq (.reg [o 22 (m 6)])
   (.cond (.t 22) (.reg [o 23 (m 5),o 24 (.sls (.t 23) (some (.k (.int .i64 1))) none),o 5 (m 24)])
   .skip))
  (.seq (.reg [o 25 (m 5),o 26 (.callF 122 [(.t 25)]),o 7 (m 26)])
  (.seq (.seq (.reg [o 27 (m 7),o 28 (.bin .gtr .none (.t 27) (.k (.int .i64 9))),o 29 (m 28),g 30 (m 5) 29 false,g 31 (.len .str (.t 30)) 29 false,g 32 (m 7) 29 false,g 33 (.bin .sub .none (.t 31) (.t 32)) 29 false,g 34 (.bin .gtr .none (.t 33) (.k (.int .i64 10))) 29 false,o 35 (.pick (.t 29) (.k (.bool true)) (.t 34))])
   (.cond (.t 35) (.seq (.reg [o 2 (.mv (.k (.int .i64 0))),o 3 (.mv (.k (.int .i64 0))),o 4 (.mv (.k (.bool false)))])
    .ret)
   .skip))
  (.seq (.reg [o 36 (m 5),o 37 (m 7),o 38 (.sls (.t 36) none (some (.t 37))),o 39 (.callF 153 [(.t 38)]),o 8 (m 39),o 9 (.mv (.k (.int .i64 1)))])
  (.seq (.seq (.reg [o 40 (m 7),o 41 (m 5),o 42 (.len .str (.t 41)),o 43 (.bin .lss .none (.t 40) (.t 42))])
   (.cond (.t 43) (.reg [o 44 (m 5),o 45 (m 7),o 46 (.bin .add .none (.t 45) (.k (.int .i64 1))),o 47 (.sls (.t 44) (some (.t 46)) none),o 48 (.callF 153 [(.t 47)]),o 9 (m 48)])
   .skip))
  (.seq (.seq (.reg [o 49 (m 6)])
   (.cond (.t 49) (.reg [o 50 (m 8),o 51 (.bin .sub .none (.k (.int .i64 0)) (.t 50)),o 8 (m 51)])
   .skip))
  (.seq (.reg [o 52 (m 8),o 53 (m 9),o 2 (m 52),o 3 (m 53),o 4 (.mv (.k (.bool true)))])
  .ret)))))))))))⟩
def a169 : AFn := ⟨57, [.tmp 4], (.seq (.reg [o 2 (.box (.t 0)),o 3 (.box (.t 1)),o 4 (.mv (.k (.str [])))])
  (.seq (.seq (.reg [o 11 (.fadr 0 (.t 3)),o 12 (.load false 1 (.t 11))])
   (.cond (.t 12) (.dreg [⟨(some 13), .load true 2 (.t 2), none, (some 0)⟩,o 14 (.callF 248 [(.t 13)]),⟨(some 15), .load true 2 (.t 3), none, (some 2)⟩,o 16 (.callF 248 [(.t 15)]),n (.store 2 (.t 2) (.t 14)),n (.store 2 (.t 3) (.t 16))])
   .skip))
  (.seq (.reg [o 17 (.fadr 1 (.t 2)),o 18 (.load false 1 (.t 17)),o 19 (.fadr 1 (.t 3)),o 20 (.load false 1 (.t 19)),o 21 (.callF 125 [(.t 18), (.t 20)]),o 5 (m 21)])
  (.seq (.reg [o 23 (.fadr 1 (.t 2)),o 24 (.load false 1 (.t 23)),o 25 (m 5),o 26 (.callF 208 [(.t 24), (.t 25)]),o 22 (m 26),o 27 (.ext (.t 22) 0),o 28 (.ext (.t 22) 1),o 6 (m 27),o 7 (m 28)])
  (.seq (.reg [o 30 (.fadr 1 (.t 3)),o 31 (.load false 1 (.t 30)),o 32 (m 5),o 33 (.callF 208 [(.t 31), (.t 32)]),o 29 (m 33),o 34 (.ext (.t 29) 0),o 35 (.ext (.t 29) 1),o 8 (m 34),o 9 (m 35)])
  (.seq (.reg [o 36 (.fadr 0 (.t 2)),o 37 (.load false 1 (.t 36)),o 38 (m 6),o 39 (.callF 249 [(.t 37), (.t 38)]),o 40 (.callF 181 [(.t 39)]),o 10 (m 40)])
  (.seq (.seq (.reg [o 41 (m 8),o 42 (.len .slice (.t 41)),o 43 (.bin .eql .none (.t 42) (.k (.int .i64 1))),o 44 (m 43),g 45 (m 8) 44 true,g 46 (.iadr 1 (.t 45) (.k (.int .i64 0))) 44 true,g 47 (.load false 1 (.t 46)) 44 true,g 48 (.bin .eql .none (.t 47) (.k (.int .i64 1))) 44 true,o 49 (.pick (.t 44) (.t 48) (.k (.bool false)))])
   (.cond (.t 49) (.seq (.reg [o 50 (m 10),o 4 (m 50)])
    .ret)
   .skip))
  (.seq (.reg [o 51 (m 10),o 52 (.bin .add .none (.t 51) (.k (.str [47]))),o 53 (m 8),o 54 (.callF 249 [(.k (.bool false)), (.t 53)]),o 55 (.callF 181 [(.t 54)]),o 56 (.bin .add .none (.t 52) (.t 55)),o 4 (m 56)])
  .ret))))))))⟩
def a170 : AFn := ⟨40, [.cell 4 true 2], (.seq (.reg [o 2 (.box (.t 0)),o 3 (.box (.t 1)),o 4 (.alloc [.bool false, .nils])])
  (.seq (.seq (.reg [o 5 (.fadr 0 (.t 2)),o 6 (.load false 1 (.t 5)),o 7 (.fadr 0 (.t 3)),o 8 (.load false 1 (.t 7)),o 9 (.bin .eql .bool (.t 6) (.t 8))])
   (.cond (.t 9) (.seq (.dreg [o 10 (.fadr 0 (.t 2)),⟨(some 11), .load false 1 (.t 10), none, (some 6)⟩,o 12 (.fadr 1 (.t 2)),⟨(some 13), .load false 1 (.t 12), none, (some 3)⟩,o 14 (.fadr 1 (.t 3)),⟨(some 15), .load false 1 (.t 14), none, (some 5)⟩,o 16 (.callF 250 [(.t 13), (.t 15)]),o 17 (.callF 249 [(.t 11), (.t 16)]),n (.store 2 (.t 4) (.t 17))])
    .ret)
   .skip))
  (.seq (.seq (.reg [o 18 (.fadr 1 (.t 2)),o 19 (.load false 1 (.t 18)),o 20 (.fadr 1 (.t 3)),o 21 (.load false 1 (.t 20)),o 22 (.callF 251 [(.t 19), (.t 21)]),o 23 (.bin .geq .none (.t 22) (.k (.int .i64 0)))])
   (.cond (.t 23) (.seq (.dreg [o 24 (.fadr 0 (.t 2)),⟨(some 25), .load false 1 (.t 24), none, (some 6)⟩,o 26 (.fadr 1 (.t 2)),⟨(some 27), .load false 1 (.t 26), none, (some 3)⟩,o 28 (.fadr 1 (.t 3)),⟨(some 29), .load false 1 (.t 28), none, (some 5)⟩,o 30 (.callF 252 [(.t 27), (.t 29)]),o 31 (.callF 249 [(.t 25), (.t 30)]),n (.store 2 (.t 4) (.t 31))])
    .ret)
   .skip))
  (.seq (.dreg [o 32 (.fadr 0 (.t 3)),⟨(some 33), .load false 1 (.t 32), none, (some 6)⟩,o 34 (.fadr 1 (.t 3)),⟨(some 35), .load false 1 (.t 34), none, (some 3)⟩,o 36 (.fadr 1 (.t 2)),⟨(some 37), .load false 1 (.t 36), none, (some 5)⟩,o 38 (.callF 252 [(.t 35), (.t 37)]),o 39 (.callF 249 [(.t 33), (.t 38)]),n (.store 2 (.t 4) (.t 39))])
  .ret))))⟩
def a171 : AFn := ⟨16, [.cell 4 true 2], (.seq (.reg [o 2 (.box (.t 0)),o 3 (.box (.t 1)),o 4 (.alloc [.bool false, .nils])])
  (.seq (.dreg [o 5 (.fadr 0 (.t 2)),⟨(some 6), .load false 1 (.t 5), none, (some 9)⟩,o 7 (.fadr 0 (.t 3)),⟨(some 8), .load false 1 (.t 7), none, (some 9)⟩,o 9 (.bin .neq .bool (.t 6) (.t 8)),o 10 (.fadr 1 (.t 2)),⟨(some 11), .load false 1 (.t 10), none, (some 6)⟩,o 12 (.fadr 1 (.t 3)),⟨(some 13), .load false 1 (.t 12), none, (some 8)⟩,o 14 (.callF 253 [(.t 11), (.t 13)]),o 15 (.callF 249 [(.t 9), (.t 14)]),n (.store 2 (.t 4) (.t 15))])
  .ret))⟩
def a172 : AFn := ⟨14, [.tmp 2], (.seq (.reg [o 2 (.mv (.k (.str [])))])
  (.seq (.seq (.reg [o 3 (m 0),o 4 (.callF 21 [(.t 3)]),o 5 (.bin .lss .none (.t 4) (.k (.int .i64 0)))])
   (.cond (.t 5) (.seq (.reg [o 6 (m 0),o 7 (.sls (.t 6) (some (.k (.int .i64 1))) none),o 2 (m 7)])
    .ret)
   .skip))
  (.seq (.seq (.reg [o 8 (m 0),o 9 (.callF 21 [(.t 8)]),o 10 (.bin .eql .none (.t 9) (.k (.int .i64 0)))])
   (.cond (.t 10) (.seq (.reg [o 11 (m 0),o 2 (m 11)])
    .ret)
   .skip))
  (.seq (.reg [o 12 (m 0),o 13 (.bin .add .none (.k (.str [45])) (.t 12)),o 2 (m 13)])
  .ret))))⟩
def a173 : AFn := ⟨13, [.tmp 2], (.seq (.reg [o 2 (.mv (.k (.str [])))])
  (.seq (.reg [o 6 (m 0),o 7 (.callF 124 [(.t 6)]),o 5 (m 7),o 8 (.ext (.t 5) 0),o 9 (.ext (.t 5) 1),o 3 (.alloc [.bool false, .nils]),o 4 (.alloc [.bool false, .nils]),n (.store 2 (.t 3) (.t 8)),n (.store 2 (.t 4) (.t 9))])
  (.seq (.reg [o 10 (.load true 2 (.t 4)),o 11 (.load true 2 (.t 3)),o 12 (.callF 169 [(.t 10), (.t 11)]),o 2 (m 12)])
  .ret)))⟩
def a176 : AFn := ⟨14, [.tmp 2], (.seq (.reg [o 2 (.mv (.k (.int .i64 0)))])
  (.seq (.seq (.reg [o 3 (m 0),o 4 (.callF 128 [(.t 3)]),o 5 (.callF 214 [(.t 4)]),o 6 (.len .str (.t 5)),o 7 (.bin .gtr .none (.t 6) (.k (.int .i64 600))),o 8 (m 7),g 9 (m 0) 8 false,g 10 (.callF 129 [(.t 9)]) 8 false,g 11 (.len .str (.t 10)) 8 false,g 12 (.bin .gtr .none (.t 11) (.k (.int .i64 600))) 8 false,o 13 (.pick (.t 8) (.k (.bool true)) (.t 12))])
   (.cond (.t 13) (.seq (.reg [o 2 (.mv (.k (.int .i64 4)))])
    .ret)
   .skip))
  (.seq (.reg [o 2 (.mv (.k (.int .i64 0)))])
  .ret)))⟩
def a181 : AFn := ⟨39, [.tmp 2], (.seq (.reg [o 1 (.box (.t 0)),o 2 (.mv (.k (.str [])))])
  (.seq (.seq (.reg [o 5 (.fadr 1 (.t 1)),o 6 (.load false 1 (.t 5)),o 7 (.len .slice (.t 6)),o 8 (.bin .eql .none (.t 7) (.k (.int .i64 0)))])
   (.cond (.t 8) (.seq (.reg [o 2 (.mv (.k (.str [48])))])
    .ret)
   .skip))
  (.seq (.reg [o 9 (.fadr 1 (.t 1)),o 10 (.load false 1 (.t 9)),o 11 (.fadr 1 (.t 1)),o 12 (.load false 1 (.t 11)),o 13 (.len .slice (.t 12)),o 14 (.bin .sub .none (.t 13) (.k (.int .i64 1))),o 15 (.iadr 1 (.t 10) (.t 14)),o 16 (.load false 1 (.t 15)),o 17 (.callF 186 [(.t 16), (.k (.int .i64 1))]),o 3 (m 17)])
  (.seq (.seq (.reg [o 18 (.fadr 1 (.t 1)),o 19 (.load false 1 (.t 18)),o 20 (.len .slice (.t 19)),o 21 (.bin .sub .none (.t 20) (.k (.int .i64 2))),o 4 (m 21)])
   (.block 0 (.loop (.seq (.seq (.reg [o 22 (m 4),o 23 (.bin .geq .none (.t 22) (.k (.int .i64 0)))])
      (.cond (.t 23) .skip
      (.exit 0)))
     (.seq (.block 1 (.reg [o 26 (m 3),o 27 (.fadr 1 (.t 1)),o 28 (.load false 1 (.t 27)),o 29 (m 4),o 30 (.iadr 1 (.t 28) (.t 29)),o 31 (.load false 1 (.t 30)),o 32 (.callF 186 [(.t 31), (.k (.int .i64 9))]),o 33 (.bin .add .none (.t 26) (.t 32)),o 3 (m 33)]))
     (.reg [o 24 (m 4),o 25 (.bin .sub .none (.t 24) (.k (.int .i64 1))),o 4 (m 25)]))))))
  (.seq (.seq (.reg [o 34 (.fadr 0 (.t 1)),o 35 (.load false 1 (.t 34))])
   (.cond (.t 35) (.seq (.reg [o 36 (m 3),o 37 (.bin .add .none (.k (.str [45])) (.t 36)),o 2 (m 37)])
    .ret)
   .skip))
  (.seq (.reg [o 38 (m 3),o 2 (m 38)])
  .ret))))))⟩
def a182 : AFn := ⟨25, [.cell 2 true 2], (.seq (.reg [o 2 (.alloc [.bool false, .nils])])
  (.seq (.reg [o 3 (.mv (.k (.nils)))])
  (.seq (.reg [o 6 (m 0),o 7 (.bin .lss .none (.t 6) (.k (.int .i64 0))),o 4 (m 7)])
  (.seq (.block 0 (.loop (.seq (.seq (.reg [o 8 (m 0),o 9 (.bin .neq .none (.t 8) (.k (.int .i64 0)))])
      (.cond (.t 9) .skip
      (.exit 0)))
     (.block 1 (.seq (.reg [o 10 (m 0),o 11 (.bin .rem .none (.t 10) (.k (.int .i64 1000000000))),o 5 (m 11)])
      (.seq (.seq (.reg [o 12 (m 5),o 13 (.bin .lss .none (.t 12) (.k (.int .i64 0)))])
       (.cond (.t 13) (.reg [o 14 (m 5),o 15 (.bin .sub .none (.k (.int .i64 0)) (.t 14)),o 5 (m 15)])
       .skip))
      (.seq (.reg [o 16 (m 3),o 17 (m 5),o 18 (.bslice 1 1 [.int .i64 0] [(0, 1, (.t 17))]),o 19 (.app 1 8 (.t 16) (.t 18)),o 3 (m 19)])
      (.reg [o 20 (m 0),o 21 (.bin .quo .none (.t 20) (.k (.int .i64 1000000000))),o 0 (m 21)]))))))))
  (.seq (.reg [o 22 (m 4),o 23 (m 3),o 24 (.callF 249 [(.t 22), (.t 23)]),n (.store 2 (.t 2) (.t 24))])
  .ret)))))⟩
def a185 : AFn := ⟨12, [.tmp 4], (.seq (.reg [o 4 (.mv (.k (.int .i64 0)))])
  (.seq (.block 0 (.loop (.seq (.seq (.reg [o 5 (m 1),o 6 (.bin .gtr .none (.t 5) (.k (.int .i64 0)))])
      (.cond (.t 6) .skip
      (.exit 0)))
     (.block 1 (.dreg [o 7 (m 1),o 8 (m 0),o 9 (m 1),o 10 (.bin .rem .none (.t 8) (.t 9)),o 0 (m 7),o 1 (m 10)])))))
  (.seq (.reg [o 11 (m 0),o 4 (m 11)])
  .ret)))⟩
def a187 : AFn := ⟨29, [.cell 4 true 2], (.seq (.reg [o 2 (.box (.t 0)),o 3 (.box (.t 1)),o 4 (.alloc [.bool false, .nils])])
  (.seq (.reg [o 8 (.fadr 1 (.t 2)),o 9 (.load false 1 (.t 8)),o 10 (.fadr 1 (.t 3)),o 11 (.load false 1 (.t 10)),o 12 (.callF 208 [(.t 9), (.t 11)]),o 7 (m 12),o 13 (.ext (.t 7) 0),o 14 (.ext (.t 7) 1),o 5 (m 13),o 6 (m 14)])
  (.seq (.seq (.reg [o 15 (.fadr 0 (.t 2)),o 16 (.load false 1 (.t 15)),o 17 (m 16),g 18 (m 6) 17 true,g 19 (.len .slice (.t 18)) 17 true,g 20 (.bin .gtr .none (.t 19) (.k (.int .i64 0))) 17 true,o 21 (.pick (.t 17) (.t 20) (.k (.bool false)))])
   (.cond (.t 21) (.reg [o 22 (m 5),o 23 (.bslice 1 1 [.int .i64 0] [(0, 1, (.k (.int .i64 1)))]),o 24 (.callF 250 [(.t 22), (.t 23)]),o 5 (m 24)])
   .skip))
  (.seq (.reg [o 25 (.fadr 0 (.t 2)),o 26 (.load false 1 (.t 25)),o 27 (m 5),o 28 (.callF 249 [(.t 26), (.t 27)]),n (.store 2 (.t 4) (.t 28))])
  .ret))))⟩
def a207 : AFn := ⟨40, [.cell 2 true 2], (.seq (.reg [o 2 (.alloc [.bool false, .nils])])
  (.seq (.reg [o 5 (m 0),o 6 (.len .str (.t 5)),o 7 (.bin .gtr .none (.t 6) (.k (.int .i64 0))),o 8 (m 7),g 9 (m 0) 8 true,g 10 (.idxs (.t 9) (.k (.int .i64 0))) 8 true,g 11 (.bin .eql .none (.t 10) (.k (.int .u8 45))) 8 true,o 12 (.pick (.t 8) (.t 11) (.k (.bool false))),o 3 (m 12)])
  (.seq (.seq (.reg [o 13 (m 3)])
   (.cond (.t 13) (.reg [o 14 (m 0),o 15 (.sls (.t 14) (some (.k (.int .i64 1))) none),o 0 (m 15)])
   .skip))
  (.seq (.reg [o 4 (.mv (.k (.nils)))])
  (.seq (.block 0 (.loop (.seq (.seq (.reg [o 16 (m 0),o 17 (.len .str (.t 16)),o 18 (.bin .gtr .none (.t 17) (.k (.int .i64 9)))])
      (.cond (.t 18) .skip
      (.exit 0)))
     (.block 1 (.seq (.reg [o 19 (m 4),o 20 (m 0),o 21 (m 0),o 22 (.len .str (.t 21)),o 23 (.bin .sub .none (.t 22) (.k (.int .i64 9))),o 24 (.sls (.t 20) (some (.t 23)) none),o 25 (.callF 153 [(.t 24)]),o 26 (.bslice 1 1 [.int .i64 0] [(0, 1, (.t 25))]),o 27 (.app 1 8 (.t 19) (.t 26)),o 4 (m 27)])
      (.reg [o 28 (m 0),o 29 (m 0),o 30 (.len .str (.t 29)),o 31 (.bin .sub .none (.t 30) (.k (.int .i64 9))),o 32 (.sls (.t 28) none (some (.t 31))),o 0 (m 32)]))))))
  (.seq (.reg [o 33 (m 3),o 34 (m 4),o 35 (m 0),o 36 (.callF 153 [(.t 35)]),o 37 (.bslice 1 1 [.int .i64 0] [(0, 1, (.t 36))]),o 38 (.app 1 8 (.t 34) (.t 37)),o 39 (.callF 249 [(.t 33), (.t 38)]),n (.store 2 (.t 2) (.t 39))])
  .ret))))))⟩
def a208 : AFn := ⟨206, [.tmp 4, .tmp 5], (.seq (.reg [o 4 (.mv (.k (.nils))),o 5 (.mv (.k (.nils)))])
  (.seq (.seq (.reg [o 24 (m 0),o 25 (m 1),o 26 (.callF 251 [(.t 24), (.t 25)]),o 27 (.bin .lss .none (.t 26) (.k (.int .i64 0)))])
   (.cond (.t 27) (.seq (.reg [o 28 (m 0),o 4 (.mv (.k (.nils))),o 5 (m 28)])
    .ret)
   .skip))
  (.seq (.seq (.reg [o 29 (m 1),o 30 (.len .slice (.t 29)),o 31 (.bin .eql .none (.t 30) (.k (.int .i64 1)))])
   (.cond (.t 31) (.seq (.reg [o 33 (m 0),o 34 (m 1),o 35 (.iadr 1 (.t 34) (.k (.int .i64 0))),o 36 (.load false 1 (.t 35)),o 37 (.callF 270 [(.t 33), (.t 36)]),o 32 (m 37),o 38 (.ext (.t 32) 0),o 39 (.ext (.t 32) 1),o 6 (m 38),o 7 (m 39)])
    (.seq (.reg [o 40 (m 6),o 41 (m 7),o 42 (.bslice 1 1 [.int .i64 0] [(0, 1, (.t 41))]),o 43 (.callF 271 [(.t 42)]),o 4 (m 40),o 5 (m 43)])
    .ret))
   .skip))
  (.seq (.reg [o 44 (m 1),o 45 (m 1),o 46 (.len .slice (.t 45)),o 47 (.bin .sub .none (.t 46) (.k (.int .i64 1))),o 48 (.iadr 1 (.t 44) (.t 47)),o 49 (.load false 1 (.t 48)),o 50 (.bin .add .none (.t 49) (.k (.int .i64 1))),o 51 (.bin .quo .none (.k (.int .i64 1000000000)) (.t 50)),o 52 (.bslice 1 1 [.int .i64 0] [(0, 1, (.t 51))]),o 8 (m 52)])
  (.seq (.reg [o 53 (m 1),o 54 (m 8),o 55 (.callF 253 [(.t 53), (.t 54)]),o 9 (m 55)])
  (.seq (.reg [o 56 (m 9),o 57 (.len .slice (.t 56)),o 10 (m 57)])
  (.seq (.reg [o 58 (.bslice 1 0 [] []),o 59 (m 0),o 60 (m 8),o 61 (.callF 253 [(.t 59), (.t 60)]),o 62 (.app 1 8 (.t 58) (.t 61)),o 11 (m 62)])
  (.seq (.block 0 (.loop (.seq (.seq (.reg [o 63 (m 11),o 64 (.len .slice (.t 63)),o 65 (m 0),o 66 (.len .slice (.t 65)),o 67 (.bin .add .none (.t 66) (.k (.int .i64 1))),o 68 (.bin .lss .none (.t 64) (.t 67))])
      (.cond (.t 68) .skip
      (.exit 0)))
     (.block 1 (.reg [o 69 (m 11),o 70 (.bslice 1 1 [.int .i64 0] [(0, 1, (.k (.int .i64 0)))]),o 71 (.app 1 8 (.t 69) (.t 70)),o 11 (m 71)])))))
  (.seq (.reg [o 72 (m 11),o 73 (.len .slice (.t 72)),o 74 (m 10),o 75 (.bin .sub .none (.t 73) (.t 74)),o 76 (.mks 1 8 [.int .i64 0] (.t 75) (.t 75)),o 12 (m 76)])
  (.seq (.seq (.reg [o 77 (m 11),o 78 (.len .slice (.t 77)),o 79 (m 10),o 80 (.bin .sub .none (.t 78) (.t 79)),o 81 (.bin .sub .none (.t 80) (.k (.int .i64 1))),o 13 (m 81)])
   (.block 2 (.loop (.seq (.seq (.reg [o 82 (m 13),o 83 (.bin .geq .none (.t 82) (.k (.int .i64 0)))])
      (.cond (.t 83) .skip
      (.exit 2)))
     (.seq (.block 3 (.seq (.reg [o 86 (m 11),o 87 (m 9),o 88 (m 13),o 89 (.callF 272 [(.t 86), (.t 87), (.t 88)]),o 14 (m 89)])
       (.seq (.reg [o 15 (.mv (.k (.int .i64 0)))])
       (.seq (.seq (.reg [o 16 (.mv (.k (.int .i64 0)))])
        (.block 4 (.loop (.seq (.seq (.reg [o 90 (m 16),o 91 (m 10),o 92 (.bin .lss .none (.t 90) (.t 91))])
           (.cond (.t 92) .skip
           (.exit 4)))
          (.seq (.block 5 (.seq (.reg [o 95 (m 14),o 96 (m 9),o 97 (m 16),o 98 (.iadr 1 (.t 96) (.t 97)),o 99 (.load false 1 (.t 98)),o 100 (.bin .mul .none (.t 95) (.t 99)),o 101 (m 15),o 102 (.bin .add .none (.t 100) (.t 101)),o 17 (m 102)])
            (.seq (.reg [o 103 (m 11),o 104 (m 16),o 105 (m 13),o 106 (.bin .add .none (.t 104) (.t 105)),o 107 (.iadr 1 (.t 103) (.t 106)),o 108 (.load false 1 (.t 107)),o 109 (m 17),o 110 (.bin .rem .none (.t 109) (.k (.int .i64 1000000000))),o 111 (.bin .sub .none (.t 108) (.t 110)),o 18 (m 111)])
            (.seq (.reg [o 112 (m 17),o 113 (.bin .quo .none (.t 112) (.k (.int .i64 1000000000))),o 15 (m 113)])
            (.seq (.seq (.reg [o 114 (m 18),o 115 (.bin .lss .none (.t 114) (.k (.int .i64 0)))])
             (.cond (.t 115) (.seq (.reg [o 116 (m 18),o 117 (.bin .add .none (.t 116) (.k (.int .i64 1000000000))),o 18 (m 117)])
              (.reg [o 118 (m 15),o 119 (.bin .add .none (.t 118) (.k (.int .i64 1))),o 15 (m 119)]))
             .skip))
            (.reg [o 120 (m 11),o 121 (m 16),o 122 (m 13),o 123 (.bin .add .none (.t 121) (.t 122)),o 124 (m 18),o 125 (.iadr 1 (.t 120) (.t 123)),n (.store 1 (.t 125) (.t 124))]))))))
          (.reg [o 93 (m 16),o 94 (.bin .add .none (.t 93) (.k (.int .i64 1))),o 16 (m 94)]))))))
       (.seq (.reg [o 126 (m 11),o 127 (m 13),o 128 (m 10),o 129 (.bin .add .none (.t 127) (.t 128)),o 130 (m 11),o 131 (m 13),o 132 (m 10),o 133 (.bin .add .none (.t 131) (.t 132)),o 134 (.iadr 1 (.t 130) (.t 133)),o 135 (.load false 1 (.t 134)),o 136 (m 15),o 137 (.bin .sub .none (.t 135) (.t 136)),o 138 (.iadr 1 (.t 126) (.t 129)),n (.store 1 (.t 138) (.t 137))])
       (.seq (.seq (.reg [o 139 (m 11),o 140 (m 13),o 141 (m 10),o 142 (.bin .add .none (.t 140) (.t 141)),o 143 (.iadr 1 (.t 139) (.t 142)),o 144 (.load false 1 (.t 143)),o 145 (.bin .lss .none (.t 144) (.k (.int .i64 0)))])
        (.cond (.t 145) (.seq (.reg [o 146 (m 14),o 147 (.bin .sub .none (.t 146) (.k (.int .i64 1))),o 14 (m 147)])
         (.seq (.reg [o 19 (.mv (.k (.int .i64 0)))])
         (.seq (.seq (.reg [o 20 (.mv (.k (.int .i64 0)))])
          (.block 6 (.loop (.seq (.seq (.reg [o 148 (m 20),o 149 (m 10),o 150 (.bin .lss .none (.t 148) (.t 149))])
             (.cond (.t 150) .skip
             (.exit 6)))
            (.seq (.block 7 (.seq (.dreg [o 153 (m 11),o 154 (m 20),o 155 (m 13),o 156 (.bin .add .none (.t 154) (.t 155)),o 157 (.iadr 1 (.t 153) (.t 156)),⟨(some 158), .load false 1 (.t 157), none, (some 5)⟩,o 159 (m 9),o 160 (m 20),o 161 (.iadr 1 (.t 159) (.t 160)),⟨(some 162), .load false 1 (.t 161), none, (some 9)⟩,o 163 (.bin .add .none (.t 158) (.t 162)),o 164 (m 19),o 165 (.bin .add .none (.t 163) (.t 164)),o 21 (m 165)])
              (.seq (.reg [o 166 (m 11),o 167 (m 20),o 168 (m 13),o 169 (.bin .add .none (.t 167) (.t 168)),o 170 (m 21),o 171 (.bin .rem .none (.t 170) (.k (.int .i64 1000000000))),o 172 (.iadr 1 (.t 166) (.t 169)),n (.store 1 (.t 172) (.t 171))])
              (.reg [o 173 (m 21),o 174 (.bin .quo .none (.t 173) (.k (.int .i64 1000000000))),o 19 (m 174)]))))
            (.reg [o 151 (m 20),o 152 (.bin .add .none (.t 151) (.k (.int .i64 1))),o 20 (m 152)]))))))
         (.reg [o 175 (m 11),o 176 (m 13),o 177 (m 10),o 178 (.bin .add .none (.t 176) (.t 177)),o 179 (m 11),o 180 (m 13),o 181 (m 10),o 182 (.bin .add .none (.t 180) (.t 181)),o 183 (.iadr 1 (.t 179) (.t 182)),o 184 (.load false 1 (.t 183)),o 185 (m 19),o 186 (.bin .add .none (.t 184) (.t 185)),o 187 (.iadr 1 (.t 175) (.t 178)),n (.store 1 (.t 187) (.t 186))]))))
        .skip))
       (.reg [o 188 (m 12),o 189 (m 13),o 190 (m 14),o 191 (.iadr 1 (.t 188) (.t 189)),n (.store 1 (.t 191) (.t 190))])))))))
     (.reg [o 84 (m 13),o 85 (.bin .sub .none (.t 84) (.k (.int .i64 1))),o 13 (m 85)]))))))
  (.seq (.dreg [o 193 (m 11),o 194 (m 10),o 195 (.sl 1 (.t 193) none (some (.t 194))),o 196 (.callF 271 [(.t 195)]),o 197 (m 8),o 198 (.iadr 1 (.t 197) (.k (.int .i64 0))),⟨(some 199), .load false 1 (.t 198), none, (some 6)⟩,o 200 (.callF 270 [(.t 196), (.t 199)]),o 192 (m 200),o 201 (.ext (.t 192) 0),o 202 (.ext (.t 192) 1),o 22 (m 201),o 23 (m 202)])
  (.seq (.reg [o 203 (m 12),o 204 (.callF 271 [(.t 203)]),o 205 (m 22),o 4 (m 204),o 5 (m 205)])
  .ret))))))))))))⟩
def a214 : AFn := ⟨9, [.tmp 2], (.seq (.reg [o 2 (.mv (.k (.str [])))])
  (.seq (.seq (.reg [o 3 (m 0),o 4 (.callF 21 [(.t 3)]),o 5 (.bin .lss .none (.t 4) (.k (.int .i64 0)))])
   (.cond (.t 5) (.seq (.reg [o 6 (m 0),o 7 (.sls (.t 6) (some (.k (.int .i64 1))) none),o 2 (m 7)])
    .ret)
   .skip))
  (.seq (.reg [o 8 (m 0),o 2 (m 8)])
  .ret)))⟩
def a248 : AFn := ⟨9, [.cell 2 true 2], (.seq (.reg [o 1 (.box (.t 0)),o 2 (.alloc [.bool false, .nils])])
  (.seq (.reg [o 3 (.fadr 0 (.t 1)),o 4 (.load false 1 (.t 3)),o 5 (.un .not (.t 4)),o 6 (.fadr 1 (.t 1)),o 7 (.load false 1 (.t 6)),o 8 (.callF 249 [(.t 5), (.t 7)]),n (.store 2 (.t 2) (.t 8))])
  .ret))⟩
def a249 : AFn := ⟨15, [.cell 4 true 2], (.seq (.reg [o 4 (.alloc [.bool false, .nils])])
  (.seq (.reg [o 5 (m 1),o 6 (.callF 271 [(.t 5)]),o 1 (m 6)])
  (.seq (.reg [o 7 (m 0),o 8 (m 7),g 9 (m 1) 8 true,g 10 (.len .slice (.t 9)) 8 true,g 11 (.bin .gtr .none (.t 10) (.k (.int .i64 0))) 8 true,o 12 (.pick (.t 8) (.t 11) (.k (.bool false))),o 13 (m 1),o 14 (.build [.bool false, .nils] [(0, 1, (.t 12)), (1, 1, (.t 13))]),n (.store 2 (.t 4) (.t 14))])
  .ret)))⟩
def a250 : AFn := ⟨42, [.tmp 4], (.seq (.reg [o 4 (.mv (.k (.nils)))])
  (.seq (.reg [o 5 (.mv (.k (.nils)))])
  (.seq (.reg [o 6 (.mv (.k (.int .i64 0)))])
  (.seq (.seq (.reg [o 7 (.mv (.k (.int .i64 0)))])
   (.block 0 (.loop (.seq (.seq (.reg [o 9 (m 7),o 10 (m 0),o 11 (.len .slice (.t 10)),o 12 (.bin .lss .none (.t 9) (.t 11)),o 13 (m 12),g 14 (m 7) 13 false,g 15 (m 1) 13 false,g 16 (.len .slice (.t 15)) 13 false,g 17 (.bin .lss .none (.t 14) (.t 16)) 13 false,o 18 (.pick (.t 13) (.k (.bool true)) (.t 17)),o 19 (m 18),g 20 (m 6) 19 false,g 21 (.bin .gtr .none (.t 20) (.k (.int .i64 0))) 19 false,o 22 (.pick (.t 19) (.k (.bool true)) (.t 21))])
      (.cond (.t 22) .skip
      (.exit 0)))
     (.seq (.block 1 (.seq (.reg [o 25 (m 0),o 26 (m 7),o 27 (.callF 296 [(.t 25), (.t 26)]),o 28 (m 1),o 29 (m 7),o 30 (.callF 296 [(.t 28), (.t 29)]),o 31 (.bin .add .none (.t 27) (.t 30)),o 32 (m 6),o 33 (.bin .add .none (.t 31) (.t 32)),o 8 (m 33)])
       (.seq (.reg [o 34 (m 5),o 35 (m 8),o 36 (.bin .rem .none (.t 35) (.k (.int .i64 1000000000))),o 37 (.bslice 1 1 [.int .i64 0] [(0, 1, (.t 36))]),o 38 (.app 1 8 (.t 34) (.t 37)),o 5 (m 38)])
       (.reg [o 39 (m 8),o 40 (.bin .quo .none (.t 39) (.k (.int .i64 1000000000))),o 6 (m 40)]))))
     (.reg [o 23 (m 7),o 24 (.bin .add .none (.t 23) (.k (.int .i64 1))),o 7 (m 24)]))))))
  (.seq (.reg [o 41 (m 5),o 4 (m 41)])
  .ret)))))⟩
def a251 : AFn := ⟨41, [.tmp 4], (.seq (.reg [o 4 (.mv (.k (.int .i64 0)))])
  (.seq (.seq (.reg [o 6 (m 0),o 7 (.len .slice (.t 6)),o 8 (m 1),o 9 (.len .slice (.t 8)),o 10 (.bin .neq .none (.t 7) (.t 9))])
   (.cond (.t 10) (.seq (.seq (.reg [o 11 (m 0),o 12 (.len .slice (.t 11)),o 13 (m 1),o 14 (.len .slice (.t 13)),o 15 (.bin .lss .none (.t 12) (.t 14))])
     (.cond (.t 15) (.seq (.reg [o 4 (.mv (.k (.int .i64 (-1))))])
      .ret)
     .skip))
    (.seq (.reg [o 4 (.mv (.k (.int .i64 1)))])
    .ret))
   .skip))
  (.seq (.seq (.reg [o 16 (m 0),o 17 (.len .slice (.t 16)),o 18 (.bin .sub .none (.t 17) (.k (.int .i64 1))),o 5 (m 18)])
   (.block 0 (.loop (.seq (.seq (.reg [o 19 (m 5),o 20 (.bin .geq .none (.t 19) (.k (.int .i64 0)))])
      (.cond (.t 20) .skip
      (.exit 0)))
     (.seq (.block 1 (.seq (.seq (.dreg [o 23 (m 0),o 24 (m 5),o 25 (.iadr 1 (.t 23) (.t 24)),⟨(some 26), .load false 1 (.t 25), none, (some 3)⟩,o 27 (m 1),o 28 (m 5),o 29 (.iadr 1 (.t 27) (.t 28)),⟨(some 30), .load false 1 (.t 29), none, (some 7)⟩,o 31 (.bin .lss .none (.t 26) (.t 30))])
        (.cond (.t 31) (.seq (.reg [o 4 (.mv (.k (.int .i64 (-1))))])
         .ret)
        .skip))
       (.seq (.dreg [o 32 (m 0),o 33 (m 5),o 34 (.iadr 1 (.t 32) (.t 33)),⟨(some 35), .load false 1 (.t 34), none, (some 3)⟩,o 36 (m 1),o 37 (m 5),o 38 (.iadr 1 (.t 36) (.t 37)),⟨(some 39), .load false 1 (.t 38), none, (some 7)⟩,o 40 (.bin .gtr .none (.t 35) (.t 39))])
       (.cond (.t 40) (.seq (.reg [o 4 (.mv (.k (.int .i64 1)))])
        .ret)
       .skip))))
     (.reg [o 21 (m 5),o 22 (.bin .sub .none (.t 21) (.k (.int .i64 1))),o 5 (m 22)]))))))
  (.seq (.reg [o 4 (.mv (.k (.int .i64 0)))])
  .ret))))⟩
def a252 : AFn := ⟨35, [.tmp 4], (.seq (.reg [o 4 (.mv (.k (.nils)))])
  (.seq (.reg [o 5 (.mv (.k (.nils)))])
  (.seq (.reg [o 6 (.mv (.k (.int .i64 0)))])
  (.seq (.seq (.reg [o 7 (.mv (.k (.int .i64 0)))])
   (.block 0 (.loop (.seq (.seq (.reg [o 9 (m 7),o 10 (m 0),o 11 (.len .slice (.t 10)),o 12 (.bin .lss .none (.t 9) (.t 11))])
      (.cond (.t 12) .skip
      (.exit 0)))
     (.seq (.block 1 (.seq (.dreg [o 15 (m 0),o 16 (m 7),o 17 (.iadr 1 (.t 15) (.t 16)),⟨(some 18), .load false 1 (.t 17), none, (some 6)⟩,o 19 (m 1),o 20 (m 7),o 21 (.callF 296 [(.t 19), (.t 20)]),o 22 (.bin .sub .none (.t 18) (.t 21)),o 23 (m 6),o 24 (.bin .sub .none (.t 22) (.t 23)),o 8 (m 24)])
       (.seq (.reg [o 6 (.mv (.k (.int .i64 0)))])
       (.seq (.seq (.reg [o 25 (m 8),o 26 (.bin .lss .none (.t 25) (.k (.int .i64 0)))])
        (.cond (.t 26) (.seq (.reg [o 27 (m 8),o 28 (.bin .add .none (.t 27) (.k (.int .i64 1000000000))),o 8 (m 28)])
         (.reg [o 6 (.mv (.k (.int .i64 1)))]))
        .skip))
       (.reg [o 29 (m 5),o 30 (m 8),o 31 (.bslice 1 1 [.int .i64 0] [(0, 1, (.t 30))]),o 32 (.app 1 8 (.t 29) (.t 31)),o 5 (m 32)])))))
     (.reg [o 13 (m 7),o 14 (.bin .add .none (.t 13) (.k (.int .i64 1))),o 7 (m 14)]))))))
  (.seq (.reg [o 33 (m 5),o 34 (.callF 271 [(.t 33)]),o 4 (m 34)])
  .ret)))))⟩
def a253 : AFn := ⟨72, [.tmp 4], (.seq (.reg [o 4 (.mv (.k (.nils)))])
  (.seq (.reg [o 10 (m 0),o 11 (.len .slice (.t 10)),o 12 (m 1),o 13 (.len .slice (.t 12)),o 14 (.bin .add .none (.t 11) (.t 13)),o 15 (.mks 1 8 [.int .i64 0] (.t 14) (.t 14)),o 5 (m 15)])
  (.seq (.seq (.reg [o 6 (.mv (.k (.int .i64 0)))])
   (.block 0 (.loop (.seq (.seq (.reg [o 16 (m 6),o 17 (m 0),o 18 (.len .slice (.t 17)),o 19 (.bin .lss .none (.t 16) (.t 18))])
      (.cond (.t 19) .skip
      (.exit 0)))
     (.seq (.block 1 (.seq (.reg [o 7 (.mv (.k (.int .i64 0)))])
       (.seq (.seq (.reg [o 8 (.mv (.k (.int .i64 0)))])
        (.block 2 (.loop (.seq (.seq (.reg [o 22 (m 8),o 23 (m 1),o 24 (.len .slice (.t 23)),o 25 (.bin .lss .none (.t 22) (.t 24))])
           (.cond (.t 25) .skip
           (.exit 2)))
          (.seq (.block 3 (.seq (.dreg [o 28 (m 5),o 29 (m 6),o 30 (m 8),o 31 (.bin .add .none (.t 29) (.t 30)),o 32 (.iadr 1 (.t 28) (.t 31)),⟨(some 33), .load false 1 (.t 32), none, (some 5)⟩,o 34 (m 0),o 35 (m 6),o 36 (.iadr 1 (.t 34) (.t 35)),⟨(some 37), .load false 1 (.t 36), none, (some 9)⟩,o 38 (m 1),o 39 (m 8),o 40 (.iadr 1 (.t 38) (.t 39)),⟨(some 41), .load false 1 (.t 40), none, (some 13)⟩,o 42 (.bin .mul .none (.t 37) (.t 41)),o 43 (.bin .add .none (.t 33) (.t 42)),o 44 (m 7),o 45 (.bin .add .none (.t 43) (.t 44)),o 9 (m 45)])
            (.seq (.reg [o 46 (m 5),o 47 (m 6),o 48 (m 8),o 49 (.bin .add .none (.t 47) (.t 48)),o 50 (m 9),o 51 (.bin .rem .none (.t 50) (.k (.int .i64 1000000000))),o 52 (.iadr 1 (.t 46) (.t 49)),n (.store 1 (.t 52) (.t 51))])
            (.reg [o 53 (m 9),o 54 (.bin .quo .none (.t 53) (.k (.int .i64 1000000000))),o 7 (m 54)]))))
          (.reg [o 26 (m 8),o 27 (.bin .add .none (.t 26) (.k (.int .i64 1))),o 8 (m 27)]))))))
       (.reg [o 55 (m 5),o 56 (m 6),o 57 (m 1),o 58 (.len .slice (.t 57)),o 59 (.bin .add .none (.t 56) (.t 58)),o 60 (m 5),o 61 (m 6),o 62 (m 1),o 63 (.len .slice (.t 62)),o 64 (.bin .add .none (.t 61) (.t 63)),o 65 (.iadr 1 (.t 60) (.t 64)),o 66 (.load false 1 (.t 65)),o 67 (m 7),o 68 (.bin .add .none (.t 66) (.t 67)),o 69 (.iadr 1 (.t 55) (.t 59)),n (.store 1 (.t 69) (.t 68))]))))
     (.reg [o 20 (m 6),o 21 (.bin .add .none (.t 20) (.k (.int .i64 1))),o 6 (m 21)]))))))
  (.seq (.reg [o 70 (m 5),o 71 (.callF 271 [(.t 70)]),o 4 (m 71)])
  .ret))))⟩
def a270 : AFn := ⟨39, [.tmp 4, .tmp 5], (.seq (.reg [o 4 (.mv (.k (.nils))),o 5 (.mv (.k (.int .i64 0)))])
  (.seq (.reg [o 10 (m 0),o 11 (.len .slice (.t 10)),o 12 (.mks 1 8 [.int .i64 0] (.t 11) (.t 11)),o 6 (m 12)])
  (.seq (.reg [o 7 (.mv (.k (.int .i64 0)))])
  (.seq (.seq (.reg [o 13 (m 0),o 14 (.len .slice (.t 13)),o 15 (.bin .sub .none (.t 14) (.k (.int .i64 1))),o 8 (m 15)])
   (.block 0 (.loop (.seq (.seq (.reg [o 16 (m 8),o 17 (.bin .geq .none (.t 16) (.k (.int .i64 0)))])
      (.cond (.t 17) .skip
      (.exit 0)))
     (.seq (.block 1 (.seq (.reg [o 20 (m 7),o 21 (.bin .mul .none (.t 20) (.k (.int .i64 1000000000))),o 22 (m 0),o 23 (m 8),o 24 (.iadr 1 (.t 22) (.t 23)),o 25 (.load false 1 (.t 24)),o 26 (.bin .add .none (.t 21) (.t 25)),o 9 (m 26)])
       (.seq (.reg [o 27 (m 6),o 28 (m 8),o 29 (m 9),o 30 (m 1),o 31 (.bin .quo .none (.t 29) (.t 30)),o 32 (.iadr 1 (.t 27) (.t 28)),n (.store 1 (.t 32) (.t 31))])
       (.reg [o 33 (m 9),o 34 (m 1),o 35 (.bin .rem .none (.t 33) (.t 34)),o 7 (m 35)]))))
     (.reg [o 18 (m 8),o 19 (.bin .sub .none (.t 18) (.k (.int .i64 1))),o 8 (m 19)]))))))
  (.seq (.reg [o 36 (m 6),o 37 (.callF 271 [(.t 36)]),o 38 (m 7),o 4 (m 37),o 5 (m 38)])
  .ret)))))⟩
def a271 : AFn := ⟨21, [.tmp 2], (.seq (.reg [o 2 (.mv (.k (.nils)))])
  (.seq (.block 0 (.loop (.seq (.seq (.reg [o 3 (m 0),o 4 (.len .slice (.t 3)),o 5 (.bin .gtr .none (.t 4) (.k (.int .i64 0))),o 6 (m 5),g 7 (m 0) 6 true,g 8 (m 0) 6 true,g 9 (.len .slice (.t 8)) 6 true,g 10 (.bin .sub .none (.t 9) (.k (.int .i64 1))) 6 true,g 11 (.iadr 1 (.t 7) (.t 10)) 6 true,g 12 (.load false 1 (.t 11)) 6 true,g 13 (.bin .eql .none (.t 12) (.k (.int .i64 0))) 6 true,o 14 (.pick (.t 6) (.t 13) (.k (.bool false)))])
      (.cond (.t 14) .skip
      (.exit 0)))
     (.block 1 (.reg [o 15 (m 0),o 16 (m 0),o 17 (.len .slice (.t 16)),o 18 (.bin .sub .none (.t 17) (.k (.int .i64 1))),o 19 (.sl 1 (.t 15) none (some (.t 18))),o 0 (m 19)])))))
  (.seq (.reg [o 20 (m 0),o 2 (m 20)])
  .ret)))⟩
def a272 : AFn := ⟨77, [.tmp 6], (.seq (.reg [o 6 (.mv (.k (.int .i64 0)))])
  (.seq (.reg [o 11 (m 1),o 12 (.len .slice (.t 11)),o 7 (m 12)])
  (.seq (.dreg [o 13 (m 0),o 14 (m 2),o 15 (m 7),o 16 (.bin .add .none (.t 14) (.t 15)),o 17 (.iadr 1 (.t 13) (.t 16)),⟨(some 18), .load false 1 (.t 17), none, (some 5)⟩,o 19 (.bin .mul .none (.t 18) (.k (.int .i64 1000000000))),o 20 (m 0),o 21 (m 2),o 22 (m 7),o 23 (.bin .add .none (.t 21) (.t 22)),o 24 (.bin .sub .none (.t 23) (.k (.int .i64 1))),o 25 (.iadr 1 (.t 20) (.t 24)),⟨(some 26), .load false 1 (.t 25), none, (some 13)⟩,o 27 (.bin .add .none (.t 19) (.t 26)),o 8 (m 27)])
  (.seq (.dreg [o 28 (m 8),o 29 (m 1),o 30 (m 7),o 31 (.bin .sub .none (.t 30) (.k (.int .i64 1))),o 32 (.iadr 1 (.t 29) (.t 31)),⟨(some 33), .load false 1 (.t 32), none, (some 5)⟩,o 34 (.bin .quo .none (.t 28) (.t 33)),o 35 (m 8),o 36 (m 1),o 37 (m 7),o 38 (.bin .sub .none (.t 37) (.k (.int .i64 1))),o 39 (.iadr 1 (.t 36) (.t 38)),⟨(some 40), .load false 1 (.t 39), none, (some 12)⟩,o 41 (.bin .rem .none (.t 35) (.t 40)),o 9 (m 34),o 10 (m 41)])
  (.seq (.block 0 (.loop (.seq (.seq (.dreg [o 42 (m 9),o 43 (.bin .geq .none (.t 42) (.k (.int .i64 1000000000))),o 44 (m 43),g 45 (m 9) 44 false,g 46 (m 1) 44 false,g 47 (m 7) 44 false,g 48 (.bin .sub .none (.t 47) (.k (.int .i64 2))) 44 false,g 49 (.iadr 1 (.t 46) (.t 48)) 44 false,⟨(some 50), .load false 1 (.t 49), (some (44, false)), (some 8)⟩,g 51 (.bin .mul .none (.t 45) (.t 50)) 44 false,g 52 (m 10) 44 false,g 53 (.bin .mul .none (.t 52) (.k (.int .i64 1000000000))) 44 false,g 54 (m 0) 44 false,g 55 (m 2) 44 false,g 56 (m 7) 44 false,g 57 (.bin .add .none (.t 55) (.t 56)) 44 false,g 58 (.bin .sub .none (.t 57) (.k (.int .i64 2))) 44 false,g 59 (.iadr 1 (.t 54) (.t 58)) 44 false,⟨(some 60), .load false 1 (.t 59), (some (44, false)), (some 18)⟩,g 61 (.bin .add .none (.t 53) (.t 60)) 44 false,g 62 (.bin .gtr .none (.t 51) (.t 61)) 44 false,o 63 (.pick (.t 44) (.k (.bool true)) (.t 62))])
      (.cond (.t 63) .skip
      (.exit 0)))
     (.block 1 (.seq (.reg [o 64 (m 9),o 65 (.bin .sub .none (.t 64) (.k (.int .i64 1))),o 9 (m 65)])
      (.seq (.reg [o 66 (m 10),o 67 (m 1),o 68 (m 7),o 69 (.bin .sub .none (.t 68) (.k (.int .i64 1))),o 70 (.iadr 1 (.t 67) (.t 69)),o 71 (.load false 1 (.t 70)),o 72 (.bin .add .none (.t 66) (.t 71)),o 10 (m 72)])
      (.seq (.reg [o 73 (m 10),o 74 (.bin .geq .none (.t 73) (.k (.int .i64 1000000000)))])
      (.cond (.t 74) (.seq (.reg [o 75 (m 9),o 6 (m 75)])
       .ret)
      .skip))))))))
  (.seq (.reg [o 76 (m 9),o 6 (m 76)])
  .ret))))))⟩
def a296 : AFn := ⟨13, [.tmp 4], (.seq (.reg [o 4 (.mv (.k (.int .i64 0)))])
  (.seq (.seq (.reg [o 5 (m 1),o 6 (m 0),o 7 (.len .slice (.t 6)),o 8 (.bin .lss .none (.t 5) (.t 7))])
   (.cond (.t 8) (.seq (.reg [o 9 (m 0),o 10 (m 1),o 11 (.iadr 1 (.t 9) (.t 10)),o 12 (.load false 1 (.t 11)),o 4 (m 12)])
    .ret)
   .skip))
  (.seq (.reg [o 4 (.mv (.k (.int .i64 0)))])
  .ret)))⟩
def tab : T AFn := (.node (.node (.node (.node (.node .nil none (.node (.node (.node (.node .nil (some a271) .nil) none .nil) none (.node .nil (some a207) .nil)) (some a47) .nil)) none (.node (.node (.node (.node .nil (some a135) .nil) none .nil) none .nil) none (.node .nil (some a55) .nil))) none (.node (.node (.node .nil (some a35) (.node .nil (some a99) .nil)) (some a19) (.node (.node .nil (some a83) .nil) none .nil)) none (.node (.node (.node .nil (some a75) .nil) none (.node (.node .nil (some a171) .nil) (some a107) .nil)) none (.node (.node .nil (some a91) .nil) (some a59) (.node (.node .nil (some a187) .nil) (some a123) (.node .nil (some a251) .nil)))))) none (.node (.node (.node (.node (.node (.node .nil (some a129) .nil) none .nil) none .nil) none (.node (.node .nil (some a81) .nil) (some a49) .nil)) none (.node (.node (.node .nil (some a73) .nil) none (.node (.node .nil (some a169) .nil) none .nil)) (some a25) (.node .nil none (.node (.node .nil (some a185) .nil) none (.node .nil (some a249) .nil))))) none (.node (.node .nil (some a21) (.node .nil none (.node (.node .nil (some a181) .nil) none .nil))) none (.node (.node .nil none (.node (.node .nil (some a173) .nil) none .nil)) none (.node .nil (some a61) (.node .nil (some a125) (.node .nil (some a253) .nil))))))) none (.node (.node (.node (.node (.node (.node (.node .nil (some a128) .nil) none .nil) none .nil) none (.node (.node (.node (.node .nil (some a272) .nil) none .nil) none (.node .nil (some a208) .nil)) none (.node (.node .nil (some a176) .nil) none .nil))) none (.node (.node (.node .nil (some a72) .nil) none (.node (.node (.node .nil (some a296) .nil) (some a168) .nil) none .nil)) none (.node .nil (some a56) (.node .nil none (.node .nil (some a248) .nil))))) none (.node (.node (.node (.node .nil (some a68) .nil) (some a36) (.node .nil (some a100) .nil)) (some a20) .nil) none (.node (.node (.node .nil (some a76) .nil) none (.node (.node .nil (some a172) .nil) none .nil)) none (.node .nil none (.node .nil (some a124) (.node .nil (some a252) .nil)))))) none (.node (.node (.node (.node .nil (some a34) .nil) none (.node .nil (some a50) .nil)) none (.node (.node (.node .nil (some a74) .nil) none (.node (.node .nil (some a170) .nil) none .nil)) (some a26) (.node .nil none (.node .nil (some a122) (.node .nil (some a250) .nil))))) none (.node (.node .nil (some a22) (.node (.node .nil none (.node .nil (some a214) .nil)) (some a54) (.node (.node .nil (some a182) .nil) none .nil))) none (.node (.node (.node (.node (.node .nil (some a270) .nil) (some a142) .nil) none .nil) none .nil) none (.node (.node .nil (some a94) .nil) (some a62) (.node .nil (some a126) .nil)))))))
section
open Go.Proofs
theorem b19 : Chk 19 a19 := by unfold Chk; kernel_rfl
theorem b20 : Chk 20 a20 := by unfold Chk; kernel_rfl
theorem b21 : Chk 21 a21 := by unfold Chk; kernel_rfl
theorem b22 : Chk 22 a22 := by unfold Chk; kernel_rfl
theorem b25 : Chk 25 a25 := by unfold Chk; kernel_rfl
theorem b26 : Chk 26 a26 := by unfold Chk; kernel_rfl
theorem b34 : Chk 34 a34 := by unfold Chk; kernel_rfl
theorem b35 : Chk 35 a35 := by unfold Chk; kernel_rfl
theorem b36 : Chk 36 a36 := by unfold Chk; kernel_rfl
theorem b47 : Chk 47 a47 := by unfold Chk; kernel_rfl
theorem b49 : Chk 49 a49 := by unfold Chk; kernel_rfl
theorem b50 : Chk 50 a50 := by unfold Chk; kernel_rfl
theorem b54 : Chk 54 a54 := by unfold Chk; kernel_rfl
theorem b55 : Chk 55 a55 := by unfold Chk; kernel_rfl
theorem b56 : Chk 56 a56 := by unfold Chk; kernel_rfl
theorem b59 : Chk 59 a59 := by unfold Chk; kernel_rfl
theorem b61 : Chk 61 a61 := by unfold Chk; kernel_rfl
theorem b62 : Chk 62 a62 := by unfold Chk; kernel_rfl
theorem b68 : Chk 68 a68 := by unfold Chk; kernel_rfl
theorem b72 : Chk 72 a72 := by unfold Chk; kernel_rfl
theorem b73 : Chk 73 a73 := by unfold Chk; kernel_rfl
theorem b74 : Chk 74 a74 := by unfold Chk; kernel_rfl
theorem b75 : Chk 75 a75 := by unfold Chk; kernel_rfl
theorem b76 : Chk 76 a76 := by unfold Chk; kernel_rfl
theorem b81 : Chk 81 a81 := by unfold Chk; kernel_rfl
theorem b83 : Chk 83 a83 := by unfold Chk; kernel_rfl
theorem b91 : Chk 91 a91 := by unfold Chk; kernel_rfl
theorem b94 : Chk 94 a94 := by unfold Chk; kernel_rfl
theorem b99 : Chk 99 a99 := by unfold Chk; kernel_rfl
theorem b100 : Chk 100 a100 := by unfold Chk; kernel_rfl
theorem b107 : Chk 107 a107 := by unfold Chk; kernel_rfl
theorem b122 : Chk 122 a122 := by unfold Chk; kernel_rfl
theorem b123 : Chk 123 a123 := by unfold Chk; kernel_rfl
theorem b124 : Chk 124 a124 := by unfold Chk; kernel_rfl
theorem b125 : Chk 125 a125 := by unfold Chk; kernel_rfl
theorem b126 : Chk 126 a126 := by unfold Chk; kernel_rfl
theorem b128 : Chk 128 a128 := by unfold Chk; kernel_rfl
theorem b129 : Chk 129 a129 := by unfold Chk; kernel_rfl
theorem b135 : Chk 135 a135 := by unfold Chk; kernel_rfl
theorem b142 : Chk 142 a142 := by unfold Chk; kernel_rfl
theorem b168 : Chk 168 a168 := by unfold Chk; kernel_rfl
theorem b169 : Chk 169 a169 := by unfold Chk; kernel_rfl
theorem b170 : Chk 170 a170 := by unfold Chk; kernel_rfl
theorem b171 : Chk 171 a171 := by unfold Chk; kernel_rfl
theorem b172 : Chk 172 a172 := by unfold Chk; kernel_rfl
theorem b173 : Chk 173 a173 := by unfold Chk; kernel_rfl
theorem b176 : Chk 176 a176 := by unfold Chk; kernel_rfl
theorem b181 : Chk 181 a181 := by unfold Chk; kernel_rfl
theorem b182 : Chk 182 a182 := by unfold Chk; kernel_rfl
theorem b185 : Chk 185 a185 := by unfold Chk; kernel_rfl
theorem b187 : Chk 187 a187 := by unfold Chk; kernel_rfl
theorem b207 : Chk 207 a207 := by unfold Chk; kernel_rfl
theorem b208 : Chk 208 a208 := by unfold Chk; kernel_rfl
theorem b214 : Chk 214 a214 := by unfold Chk; kernel_rfl
theorem b248 : Chk 248 a248 := by unfold Chk; kernel_rfl
theorem b249 : Chk 249 a249 := by unfold Chk; kernel_rfl
theorem b250 : Chk 250 a250 := by unfold Chk; kernel_rfl
theorem b251 : Chk 251 a251 := by unfold Chk; kernel_rfl
theorem b252 : Chk 252 a252 := by unfold Chk; kernel_rfl
theorem b253 : Chk 253 a253 := by unfold Chk; kernel_rfl
theorem b270 : Chk 270 a270 := by unfold Chk; kernel_rfl
theorem b271 : Chk 271 a271 := by unfold Chk; kernel_rfl
theorem b272 : Chk 272 a272 := by unfold Chk; kernel_rfl
theorem b296 : Chk 296 a296 := by unfold Chk; kernel_rfl
theorem all : T.Forall Chk tab (fun n => n) := ⟨C.no, ⟨C.no, ⟨C.no, ⟨C.no, ⟨C.no, trivial, ⟨C.yes b47, ⟨C.no, ⟨C.no, ⟨C.yes b271, trivial, trivial⟩, trivial⟩, ⟨C.yes b207, trivial, trivial⟩⟩, trivial⟩⟩, ⟨C.no, ⟨C.no, ⟨C.no, ⟨C.yes b135, trivial, trivial⟩, trivial⟩, trivial⟩, ⟨C.yes b55, trivial, trivial⟩⟩⟩, ⟨C.no, ⟨C.yes b19, ⟨C.yes b35, trivial, ⟨C.yes b99, trivial, trivial⟩⟩, ⟨C.no, ⟨C.yes b83, trivial, trivial⟩, trivial⟩⟩, ⟨C.no, ⟨C.no, ⟨C.yes b75, trivial, trivial⟩, ⟨C.yes b107, ⟨C.yes b171, trivial, trivial⟩, trivial⟩⟩, ⟨C.yes b59, ⟨C.yes b91, trivial, trivial⟩, ⟨C.yes b123, ⟨C.yes b187, trivial, trivial⟩, ⟨C.yes b251, trivial, trivial⟩⟩⟩⟩⟩⟩, ⟨C.no, ⟨C.no, ⟨C.no, ⟨C.no, ⟨C.no, ⟨C.yes b129, trivial, trivial⟩, trivial⟩, trivial⟩, ⟨C.yes b49, ⟨C.yes b81, trivial, trivial⟩, trivial⟩⟩, ⟨C.yes b25, ⟨C.no, ⟨C.yes b73, trivial, trivial⟩, ⟨C.no, ⟨C.yes b169, trivial, trivial⟩, trivial⟩⟩, ⟨C.no, trivial, ⟨C.no, ⟨C.yes b185, trivial, trivial⟩, ⟨C.yes b249, trivial, trivial⟩⟩⟩⟩⟩, ⟨C.no, ⟨C.yes b21, trivial, ⟨C.no, trivial, ⟨C.no, ⟨C.yes b181, trivial, trivial⟩, trivial⟩⟩⟩, ⟨C.no, ⟨C.no, trivial, ⟨C.no, ⟨C.yes b173, trivial, trivial⟩, trivial⟩⟩, ⟨C.yes b61, trivial, ⟨C.yes b125, trivial, ⟨C.yes b253, trivial, trivial⟩⟩⟩⟩⟩⟩⟩, ⟨C.no, ⟨C.no, ⟨C.no, ⟨C.no, ⟨C.no, ⟨C.no, ⟨C.yes b128, trivial, trivial⟩, trivial⟩, trivial⟩, ⟨C.no, ⟨C.no, ⟨C.no, ⟨C.yes b272, trivial, trivial⟩, trivial⟩, ⟨C.yes b208, trivial, trivial⟩⟩, ⟨C.no, ⟨C.yes b176, trivial, trivial⟩, trivial⟩⟩⟩, ⟨C.no, ⟨C.no, ⟨C.yes b72, trivial, trivial⟩, ⟨C.no, ⟨C.yes b168, ⟨C.yes b296, trivial, trivial⟩, trivial⟩, trivial⟩⟩, ⟨C.yes b56, trivial, ⟨C.no, trivial, ⟨C.yes b248, trivial, trivial⟩⟩⟩⟩⟩, ⟨C.no, ⟨C.yes b20, ⟨C.yes b36, ⟨C.yes b68, trivial, trivial⟩, ⟨C.yes b100, trivial, trivial⟩⟩, trivial⟩, ⟨C.no, ⟨C.no, ⟨C.yes b76, trivial, trivial⟩, ⟨C.no, ⟨C.yes b172, trivial, trivial⟩, trivial⟩⟩, ⟨C.no, trivial, ⟨C.yes b124, trivial, ⟨C.yes b252, trivial, trivial⟩⟩⟩⟩⟩⟩, ⟨C.no, ⟨C.no, ⟨C.no, ⟨C.yes b34, trivial, trivial⟩, ⟨C.yes b50, trivial, trivial⟩⟩, ⟨C.yes b26, ⟨C.no, ⟨C.yes b74, trivial, trivial⟩, ⟨C.no, ⟨C.yes b170, trivial, trivial⟩, trivial⟩⟩, ⟨C.no, trivial, ⟨C.yes b122, trivial, ⟨C.yes b250, trivial, trivial⟩⟩⟩⟩⟩, ⟨C.no, ⟨C.yes b22, trivial, ⟨C.yes b54, ⟨C.no, trivial, ⟨C.yes b214, trivial, trivial⟩⟩, ⟨C.no, ⟨C.yes b182, trivial, trivial⟩, trivial⟩⟩⟩, ⟨C.no, ⟨C.no, ⟨C.no, ⟨C.yes b142, ⟨C.yes b270, trivial, trivial⟩, trivial⟩, trivial⟩, trivial⟩, ⟨C.yes b62, ⟨C.yes b94, trivial, trivial⟩, ⟨C.yes b126, trivial, trivial⟩⟩⟩⟩⟩⟩⟩
theorem good (n : Nat) (a : AFn) (h : tab.get n = some a) : chk Tryz.prog n = some a := T.get_forall tab (fun n => n) all n a h
end
end Go.Ae.R

