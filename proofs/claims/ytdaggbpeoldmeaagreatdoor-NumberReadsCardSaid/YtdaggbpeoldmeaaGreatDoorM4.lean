/-
  What the rows of chapter 1 have in common: a start at which the listed variables read as their initialisers lay them.
-/
import Derived.Test.YtdaggbpeoldmeaaGreatDoorCards
import Derived.Test.YtdaggbpeoldmeaaGreatDoorTie
import Derived.Test.YtdaggbpeoldmeaaGreatDoorZKR3
import Derived.WalkKit
import Derived.ProofKit
import Derived.OpenShut
import Derived.LaidSub
import Derived.MakeChecks
import Derived.ChangeMaps5
import Derived.Deep.DeepHandedRow
import Derived.Deep.DeepWitnessRowRef
import Derived.Deep.DeepLaidRun
import Derived.Lib.LaidTab
import Derived.Test.YtdaggbpeoldmeaaGreatDoorM2
import Derived.WideKeyArgs
import Derived.Deep.Slices
import Derived.Lib.Mul64
import Derived.Test.YtdaggbpeoldmeaaGreatDoorZFB
set_option linter.unusedVariables false
set_option maxRecDepth 100000
namespace Go.Proofs.YtdaggbpeoldmeaaGreatDoor.laws
open Go.ChangeShapes Go.WideShapes Go.ChangeAt Go.RowKit Go.Ae
open Go.ChangeMaps (open_string shut_string)
section
variable {H : Type} {enc : TypeId × Value → H} {P : Program}
/-- What a law's row asks behind the call: what lay has not turned. -/
theorem post_below {f : Func} {s : ChangeSpec} {apart fresh handsOn again : Bool} {W W' : World} {args : Array Value} {v : Value} {ds gs : List (DataW H)} {before pa pv : List MemPlace}
    (hW : DataW.Whole enc P f.params.toList s.vars apart W args.toList ds gs before)
    (hres : ∀ (b : Nat) (sp : Nat → Bool) (hd : Bool), DataW.TrodAll enc P W' b sp hd f.resultTypes.toList (v.resultList f.resultTypes.size) (s.fn H (ds ++ gs)).results [])
    (hargs : ∀ sp : Nat → Bool, (∀ p ∈ before, sp p.block = true) → DataW.TrodAll enc P W' 0 sp true f.params.toList args.toList (s.fn H (ds ++ gs)).args pa)
    (hvars : ∀ sp : Nat → Bool, (∀ p ∈ before, sp p.block = true) → DataW.TrodVars enc P W' sp s.vars (s.fn H (ds ++ gs)).vars pv)
    (hps : before = pa ++ pv) (hB : Below W.heap.size W W')
    (hok : ∀ (j : Nat) (t : TypeId) (r : Value), f.resultTypes[j]? = some t → (v.resultList f.resultTypes.size)[j]? = some r → Value.okWide P W' .any 0 t r) :
    s.post enc P f apart fresh handsOn again W args v W' := by
  have hold : ∀ p ∈ before, (fun b => decide (b < W.heap.size)) p.block = true := fun p hp => by simpa using hW.lt p hp
  have hlt := hW.lt
  refine ⟨ds, gs, before, [], pa, pv, hW, hres _ _ _, hargs _ hold, hvars _ hold, World.keptBut_mono (fun p hp => ⟨hp, ?_⟩) (hB.frame (· ∈ before)), fun _ => ?_⟩
  · rw [hps, List.mem_append] at hp
    exact Or.inr hp
  · obtain ⟨_, _, _, _, _, hz, hn⟩ := hW
    refine ⟨hok, _, _, ([] ++ pa) ++ pv, ⟨[] ++ pa, pv, trodAll_append (hargs _ (fun _ _ => rfl)) (hres _ _ _), hvars _ (fun _ _ => rfl), rfl, ?_, ?_⟩, ?_⟩
    · intro b off hp
      have hp' : MemPlace.cell b off ∈ before := by rw [hps]; simpa using hp
      have hb : b < W.heap.size := hlt _ hp'
      have e : W'.frozen? ⟨b, off, none⟩ = W.frozen? ⟨b, off, none⟩ := by
        simp only [World.frozen?, hB.block b hb]
      rw [e]
      exact hz b off hp'
    · intro ha
      have := hn ha
      rw [hps] at this
      simpa using this
    · intro p hp _
      rw [hps]
      simpa using hp
end
theorem own : ownKnob Tryz.prog.godebug = none := by kernel_rfl
theorem gPow : Tryz.prog.globalNamed "internal/strconv.uint64pow10" = some 5 := by kernel_rfl
theorem gPowType : (Tryz.prog.globals[5]?).map (·.type) = some 343 := by kernel_rfl
theorem cells343 : Tryz.prog.cellsOf 343 = 20 := by kernel_rfl
theorem cells278 : Tryz.prog.cellsOf 278 = 1 := by kernel_rfl
/-- What the rows' list gives: the powers of ten; and the start's cell. -/
theorem glob {W : World} {l : List (String × DataW Unit)} (hL : laidMetH Tryz.prog l W) (hl : (l.filter fun x => x.1 == "internal/strconv.uint64pow10") = [("internal/strconv.uint64pow10", Lib.tabData .u64 Lib.pow10Tab)]) (hO : W.ShapedOpen Tryz.prog) : L.Glob W W.heap.size := by
  have h1 := laidMetH.filter (fun x => x.1 == "internal/strconv.uint64pow10") hL
  rw [hl, MakeChecks.laidMetH_plain _ _ _ (by kernel_rfl)] at h1
  obtain ⟨m, hm⟩ := Tryz.laysM145.s1_3 W hO
  have hm' : W.cell? ⟨0, 0, none⟩ = some (.int .i64 m) := hm
  refine ⟨Nat.le_refl _, Lib.tabBelow_of_tabIs (Lib.tabIs_of_head gPow gPowType Tryz.underlying343 Tryz.underlying278 cells278 cells343 h1), ?_, m, hm'⟩
  rcases Nat.eq_zero_or_pos W.heap.size with h0 | h0
  · simp [World.cell?, Array.getElem?_eq_none (show W.heap.size ≤ 0 by omega)] at hm'
  · exact h0
/-! A start at which the variables read as listed. -/
def leaf : DataW Unit → List Value
  | .lit (.int k n) => [.int k n]
  | _ => []
def row : DataW Unit → List Value
  | .agg l => l.flatMap leaf
  | d => leaf d
def tab : DataW Unit → List Value
  | .agg l => l.flatMap row
  | d => leaf d
/-- So many blocks has the settled world. -/
noncomputable def low : Nat := (World.holding Tryz.prog default ⟨#[], #[], []⟩).heap.size
def putG (h : Array Obj) (g : Nat) (cs : Array Value) : Array Obj := h.modify g fun
  | .cells _ t frozen => .cells cs t frozen
  | o => o
noncomputable def laidWorld (os : Os) : World :=
  let w0 := World.holding Tryz.prog os ⟨#[.cells #[.string ⟨#[105, 110, 118, 97, 108, 105, 100, 32, 115, 121, 110, 116, 97, 120]⟩] 353, .cells #[.string ⟨#[118, 97, 108, 117, 101, 32, 111, 117, 116, 32, 111, 102, 32, 114, 97, 110, 103, 101]⟩] 353], #[], []⟩
  let h1 := putG w0.heap 8 (tab Rows.laid_math_bits_deBruijn32tab).toArray
  let h2 := putG h1 9 (tab Rows.laid_math_bits_deBruijn64tab).toArray
  let h3 := putG h2 5 (tab Rows.laid_internal_strconv_uint64pow10).toArray
  let h4 := putG h3 7 (tab Rows.laid_unicode_utf8_acceptRanges).toArray
  let h5 := putG h4 6 (tab Rows.laid_unicode_utf8_first).toArray
  let h6 := putG h5 3 #[.iface 351 (.pointer (some ⟨low, 0, none⟩))]
  let h7 := putG h6 4 #[.iface 351 (.pointer (some ⟨low + 1, 0, none⟩))]
  { w0 with heap := h7 }
end Go.Proofs.YtdaggbpeoldmeaaGreatDoor.laws


/- The abstract evaluator: walks through functions that lay memory: a heap as its history. -/
set_option linter.unusedVariables false
set_option linter.unusedSimpArgs false
namespace Go.Ae
noncomputable section
/-- A later heap: so many more tokens, so many more ticks; what lay has not turned. -/
structure Grw (h h' : Hp) (k j : Nat) : Prop where
  next : h'.next = h.next + k
  clk : h'.clk = h.clk + j
  get : ∀ t, t < h.next → h'.get t = h.get t
def Grs (h h' : Hp) : Prop := ∃ k j, Grw h h' k j
theorem Grs.next {h h' : Hp} (g : Grs h h') : h.next ≤ h'.next := by obtain ⟨k, j, g⟩ := g; have := g.next; omega
theorem Grs.clk {h h' : Hp} (g : Grs h h') : h.clk ≤ h'.clk := by obtain ⟨k, j, g⟩ := g; have := g.clk; omega
theorem Grs.get {h h' : Hp} (g : Grs h h') {t : Nat} (ht : t < h.next) : h'.get t = h.get t := by obtain ⟨k, j, g⟩ := g; exact g.get t ht
theorem Grs.refl (h : Hp) : Grs h h := ⟨0, 0, rfl, rfl, fun _ _ => rfl⟩
theorem Grs.trans {a b c : Hp} (x : Grs a b) (y : Grs b c) : Grs a c := by
  obtain ⟨k, j, x⟩ := x
  obtain ⟨k', j', y⟩ := y
  exact ⟨k + k', j + j', by rw [y.next, x.next]; omega, by rw [y.clk, x.clk]; omega, fun t ht => (y.get t (by rw [x.next]; omega)).trans (x.get t ht)⟩
theorem Grs.push {a b : Hp} (x : Grs a b) {f : Nat → AObj} : Grs a (b.push f) := by
  obtain ⟨k, j, x⟩ := x
  exact ⟨k + 1, j + 1, by show b.next + 1 = _; rw [x.next]; omega, by show b.clk + 1 = _; rw [x.clk]; omega, fun t ht => (Hp.push_other (by rw [x.next]; omega)).trans (x.get t ht)⟩
theorem Grs.put {a b : Hp} (x : Grs a b) {t : Nat} {f : Nat → AObj} (ht : a.next ≤ t) : Grs a (b.put t f) := by
  obtain ⟨k, j, x⟩ := x
  exact ⟨k, j + 1, x.next, by show b.clk + 1 = _; rw [x.clk]; omega, fun u hu => (Hp.put_other (by omega)).trans (x.get u hu)⟩
/-- The later heap, written with the earlier one. -/
def Hp.ov (h h' : Hp) {k j : Nat} (_ : Grw h h' k j) : Hp := h'
theorem Grs.ov {a b h' : Hp} {k j : Nat} (x : Grs a b) {g : Grw b h' k j} : Grs a (b.ov h' g) := x.trans ⟨k, j, g⟩
section
variable {h h' : Hp} {k j t : Nat} {g : Grw h h' k j}
theorem Hp.ov_next : (h.ov h' g).next = h.next + k := g.next
theorem Hp.ov_clk : (h.ov h' g).clk = h.clk + j := g.clk
theorem Hp.ov_get (ht : t < h.next) : (h.ov h' g).get t = h.get t := g.get t ht
end
/-- A call gives a value, and leaves what lay. -/
def Gv (E : Env) (f : Nat) (args : List AV) (h : Hp) (v : AV) : Prop := ∃ h', CallsTo E f args h v h' ∧ Grs h h'
/-- A call gives a value with a property that tells of memory. -/
def Gp (E : Env) (f : Nat) (args : List AV) (h : Hp) (p : AV → Hp → Prop) : Prop := ∃ v h', CallsTo E f args h v h' ∧ Grs h h' ∧ p v h'
section
variable {E : Env} {f : Nat} {args : List AV} {h : Hp} {v : AV} {K : AV → Hp → Prop} {p : AV → Hp → Prop}
theorem Gv.wp (hc : Gv E f args h v) (hk : ∀ h' k j (g : Grw h h' k j), K v (h.ov h' g)) : CallWp E f args h K := by
  obtain ⟨h', h1, k, j, g⟩ := hc
  exact ⟨v, h', h1, hk h' k j g⟩
theorem Gv.of (hc : CallWp E f args h fun v' h' => v' = v ∧ Grs h h') : Gv E f args h v := by
  obtain ⟨v', h', h1, rfl, g⟩ := hc
  exact ⟨h', h1, g⟩
theorem Gp.wp (hc : Gp E f args h p) (hk : ∀ v h' k j (g : Grw h h' k j), p v (h.ov h' g) → K v (h.ov h' g)) : CallWp E f args h K := by
  obtain ⟨v, h', h1, ⟨k, j, g⟩, hp⟩ := hc
  exact ⟨v, h', h1, hk v h' k j g hp⟩
theorem Gp.of (hc : CallWp E f args h fun v' h' => p v' h' ∧ Grs h h') : Gp E f args h p := by
  obtain ⟨v', h', h1, hp, g⟩ := hc
  exact ⟨v', h', h1, g, hp⟩
theorem Gv.ge {E' : Env} (hg : ∀ h v h', CallsTo E f args h v h' → CallsTo E' f args h v h') (hc : Gv E f args h v) : Gv E' f args h v := by
  obtain ⟨h', h1, g⟩ := hc
  exact ⟨h', hg _ _ _ h1, g⟩
end
/-- What lies at a token, of one's own. -/
def At (h : Hp) (t : Nat) (cs : List AV) : Prop := ∃ st, h.get t = some (.row cs true st)
section
variable {h h' : Hp} {k j t u : Nat} {g : Grw h h' k j} {cs z : List AV}
theorem At.push_at (ht : t = h.next) : At (h.push fun st => .row z true st) t cs ↔ z = cs := by
  unfold At
  rw [ht, Hp.push_same]
  constructor
  · rintro ⟨st, e⟩; injection e with e; injection e
  · rintro rfl; exact ⟨_, rfl⟩
theorem At.push_other {f : Nat → AObj} (ht : t ≠ h.next) : At (h.push f) t cs ↔ At h t cs := by unfold At; rw [Hp.push_other ht]
theorem At.put_at (ht : t = u) : At (h.put u fun st => .row z true st) t cs ↔ z = cs := by
  unfold At
  rw [ht, Hp.put_same]
  constructor
  · rintro ⟨st, e⟩; injection e with e; injection e
  · rintro rfl; exact ⟨_, rfl⟩
theorem At.put_other {f : Nat → AObj} (ht : t ≠ u) : At (h.put u f) t cs ↔ At h t cs := by unfold At; rw [Hp.put_other ht]
theorem At.ov (ht : t < h.next) : At (h.ov h' g) t cs ↔ At h t cs := by unfold At; rw [Hp.ov_get ht]
end
/-! Reading and writing, by what lies at the token. -/
def LoadR (ag : Bool) (l p : Nat) (x : Option AObj) (h : Hp) (K : AV → Hp → Prop) : Prop :=
  match x with
  | some (.row cs _ _) => Some1 (if p + l ≤ cs.length then (if ag then some (.agg ((cs.drop p).take l)) else cs[p]?) else none) h K
  | _ => False
def StoreR (l t p : Nat) (y : AV) (x : Option AObj) (h : Hp) (K : AV → Hp → Prop) : Prop :=
  match x with
  | some (.row cs true _) => y.cells.length = l ∧ p + l ≤ cs.length ∧ y.cells.all AV.one = true ∧ K und (h.put t fun st => .row (splice cs p y.cells) true st)
  | _ => False
def CellK (ag : Bool) (l : Nat) (v : AV) (h : Hp) : Option AV :=
  match v with
  | .ptr t p => match h.get t with
    | some (.row cs _ _) => if p + l ≤ cs.length then (if ag then some (.agg ((cs.drop p).take l)) else cs[p]?) else none
    | _ => none
  | _ => none
def CellR (ag : Bool) (l p : Nat) (x : Option AObj) : Option AV :=
  match x with
  | some (.row cs _ _) => if p + l ≤ cs.length then (if ag then some (.agg ((cs.drop p).take l)) else cs[p]?) else none
  | _ => none
section
variable {E : Env} {s : St} {h : Hp} {K : AV → Hp → Prop} {ag own : Bool} {l p t st : Nat} {cs : List AV} {y v : AV}
theorem LoadK.r : LoadK ag l (.ptr t p) h K ↔ LoadR ag l p (h.get t) h K := by
  simp only [LoadK, LoadR]
  cases h.get t with
  | none => exact Iff.rfl
  | some o => cases o <;> exact Iff.rfl
theorem LoadR.row : LoadR ag l p (some (.row cs own st)) h K ↔ Some1 (if p + l ≤ cs.length then (if ag then some (.agg ((cs.drop p).take l)) else cs[p]?) else none) h K := Iff.rfl
theorem StoreK.r : StoreK l (.ptr t p) y h K ↔ StoreR l t p y (h.get t) h K := by
  simp only [StoreK, StoreR]
  cases h.get t with
  | none => exact Iff.rfl
  | some o =>
    cases o with
    | row cs own st => cases own <;> exact Iff.rfl
    | _ => exact Iff.rfl
theorem StoreR.row : StoreR l t p y (some (.row cs true st)) h K ↔ y.cells.length = l ∧ p + l ≤ cs.length ∧ y.cells.all AV.one = true ∧ K und (h.put t fun st => .row (splice cs p y.cells) true st) := Iff.rfl
theorem resA_cell : resA s (.cell t ag l) = CellK ag l (val s.tm (.t t)) s.hp := rfl
theorem CellK.r : CellK ag l (.ptr t p) h = CellR ag l p (h.get t) := by
  simp only [CellK, CellR]
theorem CellR.row : CellR ag l p (some (.row cs own st)) = if p + l ≤ cs.length then (if ag then some (.agg ((cs.drop p).take l)) else cs[p]?) else none := rfl
def Res2 (a b : Option AV) : Option AV :=
  match a, b with
  | some a, some b => some (.tup [a, b])
  | _, _ => none
def Res3 (a b c : Option AV) : Option AV :=
  match a, b, c with
  | some a, some b, some c => some (.tup [a, b, c])
  | _, _, _ => none
theorem res1' {a : ARes} : resultA s [a] = resA s a := by
  simp only [resultA, ressA]; cases resA s a <;> rfl
theorem res2' {a b : ARes} : resultA s [a, b] = Res2 (resA s a) (resA s b) := by
  simp only [resultA, ressA]; cases resA s a <;> cases resA s b <;> rfl
theorem res3' {a b c : ARes} : resultA s [a, b, c] = Res3 (resA s a) (resA s b) (resA s c) := by
  simp only [resultA, ressA]; cases resA s a <;> cases resA s b <;> cases resA s c <;> rfl
theorem Res2.som {a b : AV} : Res2 (some a) (some b) = some (.tup [a, b]) := rfl
theorem Res3.som {a b c : AV} : Res3 (some a) (some b) (some c) = some (.tup [a, b, c]) := rfl
theorem w_box' {z : Opd} : OpWp E (.box z) s K ↔ ((val s.tm z).cells.all AV.one = true ∧ K (.ptr s.hp.next 0) (s.hp.push fun t => .row (val s.tm z).cells true t)) := by
  rw [w_box]
  simp only [o_box]
  split
  · rename_i hc; simp only [Some2, hc, true_and]
  · rename_i hc; simp only [Some2, false_iff]; exact fun e => hc e.1
theorem w_build' {z : List AV} {ps : List (Nat × Nat × Opd)} : OpWp E (.build z ps) s K ↔ Some1 ((fillA z (ps.map fun q => (q.1, q.2.1, val s.tm q.2.2))).map AV.agg) s.hp K := by
  rw [w_build]
  simp only [o_build]
  cases fillA z (ps.map fun q => (q.1, q.2.1, val s.tm q.2.2)) <;> exact Iff.rfl
theorem fillA_nil : fillA cs [] = some cs := rfl
theorem fillA_cons {o n : Nat} {r : List (Nat × Nat × AV)} (hc : v.cells.length = n ∧ o + n ≤ cs.length ∧ v.cells.all AV.one = true) : fillA cs ((o, n, v) :: r) = fillA (splice cs o v.cells) r := by
  simp only [fillA, if_pos hc]
def SlK (sz n : Nat) (x : Option (List AV)) (h : Hp) (K : AV → Hp → Prop) : Prop :=
  match x with
  | some cs => n * sz = cs.length ∧ 0 < sz ∧ K (.sl h.next 0 n sz) (h.push fun t => .row cs true t)
  | none => False
theorem w_bslice' {sz n : Nat} {z : List AV} {ps : List (Nat × Nat × Opd)} : OpWp E (.bslice sz n z ps) s K ↔ SlK sz n (fillA z (ps.map fun q => (q.1, q.2.1, val s.tm q.2.2))) s.hp K := by
  rw [w_bslice]
  simp only [o_bslice]
  cases fillA z (ps.map fun q => (q.1, q.2.1, val s.tm q.2.2)) with
  | none => exact Iff.rfl
  | some cs =>
    simp only [SlK]
    split
    · rename_i hc; simp only [Some2, hc, true_and]
    · rename_i hc
      simp only [Some2, false_iff]
      exact fun e => hc ⟨e.1, e.2.1⟩
theorem SlK.som {sz n : Nat} : SlK sz n (some cs) h K ↔ n * sz = cs.length ∧ 0 < sz ∧ K (.sl h.next 0 n sz) (h.push fun t => .row cs true t) := Iff.rfl
def OldR (x : Option AObj) (c0 : Nat) : Bool :=
  match x with
  | some o => Nat.ble o.st c0
  | none => false
theorem old_r {c0 : Nat} : old h c0 t = OldR (h.get t) c0 := by
  unfold old OldR; cases h.get t <;> rfl
theorem OldR.row {c0 : Nat} (hs : st ≤ c0) : OldR (some (.row cs own st)) c0 = true := Nat.ble_eq_true_of_le hs
theorem splice_def {vs : List AV} : splice cs p vs = cs.take p ++ (vs ++ cs.drop (p + vs.length)) := rfl
theorem Hp.next_push {f : Nat → AObj} : (h.push f).next = h.next + 1 := id rfl
theorem Hp.next_put {u : Nat} {f : Nat → AObj} : (h.put u f).next = h.next := id rfl
theorem Hp.clk_push {f : Nat → AObj} : (h.push f).clk = h.clk + 1 := id rfl
theorem Hp.clk_put {u : Nat} {f : Nat → AObj} : (h.put u f).clk = h.clk + 1 := id rfl
theorem Hp.push_at {f : Nat → AObj} (ht : t = h.next) : (h.push f).get t = some (f (h.clk + 1)) := by rw [ht]; exact Hp.push_same
theorem Hp.put_at {u : Nat} {f : Nat → AObj} (ht : t = u) : (h.put u f).get t = some (f (h.clk + 1)) := by rw [ht]; exact Hp.put_same
theorem b_slnn : binA .eql .slice .nils .nils = some (.bool true) := rfl
theorem b_slsn {t o n z : Nat} : binA .eql .slice (.sl t o n z) .nils = some (.bool false) := rfl
theorem b_nslnn : binA .neq .slice .nils .nils = some (.bool false) := rfl
theorem b_nslsn {t o n z : Nat} : binA .neq .slice (.sl t o n z) .nils = some (.bool true) := rfl
theorem b_beql {a b : Bool} : binA .eql .bool (.bool a) (.bool b) = some (.bool (decide (a = b))) := by
  simp only [binA, eqA, eqBool, Option.map_some]; cases a <;> cases b <;> rfl
theorem b_bneq {a b : Bool} : binA .neq .bool (.bool a) (.bool b) = some (.bool (decide (¬ a = b))) := by
  simp only [binA, eqA, eqBool, Option.map_some]; cases a <;> cases b <;> rfl
end
theorem cast0 : ((0 : Nat) : Int) = 0 := id rfl
theorem cast1 : ((1 : Nat) : Int) = 1 := id rfl
theorem cast2 : ((2 : Nat) : Int) = 2 := id rfl
theorem cast3 : ((3 : Nat) : Int) = 3 := id rfl
attribute [go_sem] At.push_at At.push_other At.put_at At.put_other At.ov cast0 cast1 cast2 cast3 Grs.refl LoadK.r LoadR.row StoreK.r StoreR.row resA_cell CellK.r CellR.row res1' res2' res3' Res2.som Res3.som w_box' w_build' fillA_nil fillA_cons w_bslice' SlK.som old_r OldR.row splice_def b_slnn b_slsn b_nslnn b_nslsn b_beql b_bneq Hp.ov_next Hp.ov_clk Hp.ov_get Hp.next_push Hp.clk_push Hp.next_put Hp.clk_put Hp.push_at Hp.push_other Hp.put_at Hp.put_other C.o C.n C.g C.m
end
end Go.Ae


/- The abstract evaluator: the rules of a walk, as one set. -/
namespace Go.Ae
attribute [go_sem] not_true_eq_false not_false_eq_true decide_true decide_false Wp.seq_iff Wp.block_iff Wp.skip_iff Wp.ret_iff Wp.exit_iff Wp.cond_iff Wp.nil_iff Wp.op_iff Wp.grd_iff Wp.dreg_iff Wp.dnil_iff Wp.dop_iff Wp.dgrd_iff After InBlock Round Then DThen DOp.some_iff noted_n noted_s NoteK.ptr List.all_nil List.all_cons fresh_eq val_k val_set val_nil put_some put_none enter_nil enter_cons List.map_cons List.map_nil Option.map_some Option.map_none resA_tmp res0 res1 res2 res3 RetQ.ret RetQ.nrm ResK.iff wanted_k WantK.tt WantK.tf WantK.ft WantK.ff WantK.und GrdK.t GrdK.f DGrd.t DGrd.f CondK.t CondK.f decide_nn Bool.not_true Bool.not_false Bool.not_not w_mv PickK.t PickK.f w_pick w_alloc w_bin w_un cviA_int w_cvi cvsA_str w_cvs w_mkI w_mkF w_sls slsK_lo slsK_hi slsK_lh w_idxs idxK_str w_len lenK_str lenK_sl lenK_nils lenK_arr w_ext extK_0 extK_1 extK_2 w_fld fldK_0 fldK_1 fldK_2 fldK_3 fldK_4 w_fadr fadrK_ptr w_iadr iadrK_sl w_iadrA iadrAK_ptr w_load w_storeK Some1.iff Some2.iff b_add b_sub b_mul b_quoP b_remP b_eql b_neq b_lss b_leq b_gtr b_geq b_sadd b_seql b_sneq b_inil u_not u_neg wrap_i64 wrap_u64 wrap_u8 wrap_i32 w_mx2 w_mn2 max2A_int min2A_int cells_int cells_bool cells_str cells_ptr cells_sl cells_nils cells_fn cells_agg one_int one_bool one_str one_ptr one_sl one_nils one_fn OpWp.callF_iff OpWp.callV_iff CallVK.fn OpWp.inv_iff CondK.posN PickK.posN WantK.posN_t WantK.posN_f CondK.pos CondK.neg PickK.pos PickK.neg WantK.pos_t WantK.neg_t WantK.pos_f WantK.neg_f
end Go.Ae


/- The abstract evaluator: the rules of a walk, further ones. -/
namespace Go.Ae
attribute [go_sem] Nat.zero_add Nat.add_zero List.length_cons List.length_nil List.length_append List.length_map List.length_take List.length_drop List.length_replicate List.length_set List.all_cons List.all_nil Bool.and_true Bool.and_self and_true true_and List.take_zero List.take_succ_cons List.take_nil List.drop_zero List.drop_succ_cons List.drop_nil List.nil_append List.cons_append List.getElem?_cons_zero List.getElem?_cons_succ Bool.false_eq_true Int.toNat_zero Int.toNat_natCast Int.zero_add Int.add_zero AV.ptr.injEq exists_eq_left exists_eq_left' Nat.mul_one
theorem k1 {E : Env} {s : St} {Q : Ex → St → Prop} {a b : ACode} {p : Prop} {_ : Decidable p} (h1 : ¬ p → Wp E a s Q) (h2 : p → Wp E b s Q) : CondK E (.bool (decide (¬ p))) a b s Q := CondK.decN h1 h2
section
variable {E : Env} {s : St} {h : Hp} {x y : AV} {Q : Ex → St → Prop} {K : AV → Hp → Prop} {a b : ACode} {r : List AOper} {d : Option Nat} {o : AOp} {p : Prop} {_ : Decidable p} {c : Bool}
theorem k2 (h1 : ¬ p → GrdK E (WantK (.bool true) c) o d r s Q) (h2 : p → GrdK E (WantK (.bool false) c) o d r s Q) : GrdK E (WantK (.bool (decide (¬ p))) c) o d r s Q := GrdK.decN h1 h2
theorem k3 (h1 : ¬ p → K x h) (h2 : p → K y h) : PickK (.bool (decide (¬ p))) x y h K := PickK.decN h1 h2
theorem k4 (h1 : p → Wp E a s Q) (h2 : ¬ p → Wp E b s Q) : CondK E (.bool (decide p)) a b s Q := CondK.dec h1 h2
theorem k5 (h1 : p → GrdK E (WantK (.bool true) c) o d r s Q) (h2 : ¬ p → GrdK E (WantK (.bool false) c) o d r s Q) : GrdK E (WantK (.bool (decide p)) c) o d r s Q := GrdK.dec h1 h2
theorem k6 {acc : List (Nat × Nat)} {acc' : Option (List (Nat × Nat))} {i c0 : Nat} (h1 : p → DGrd E (WantK (.bool true) c) acc acc' d o r i c0 s Q) (h2 : ¬ p → DGrd E (WantK (.bool false) c) acc acc' d o r i c0 s Q) : DGrd E (WantK (.bool (decide p)) c) acc acc' d o r i c0 s Q := DGrd.dec h1 h2
theorem k7 (h1 : p → K x h) (h2 : ¬ p → K y h) : PickK (.bool (decide p)) x y h K := PickK.dec h1 h2
end
end Go.Ae


/- Lists in memory: slices of structs, maps of functions. -/
set_option linter.unusedVariables false
set_option linter.unusedSimpArgs false
namespace Go.Ae
noncomputable section
def AV.tok : AV → Nat
  | .sl t _ _ _ => t
  | _ => 0
/-- A slice of n elements of z cells each, laid behind h0 and of one's own. -/
def OwnZ (z : Nat) (h0 h : Hp) (v : AV) (n : Nat) (cs : List AV) : Prop :=
  cs.length = n * z ∧ ((v = .nils ∧ n = 0) ∨ ∃ t st, v = .sl t 0 n z ∧ h.get t = some (.row cs true st) ∧ h0.next ≤ t ∧ t < h.next ∧ st ≤ h.clk)
/-- A slice of n elements of z cells each. -/
def RowS (z : Nat) (h : Hp) (v : AV) (n : Nat) (cs : List AV) : Prop :=
  cs.length = n * z ∧ ((v = .nils ∧ n = 0) ∨ ∃ t own st, v = .sl t 0 n z ∧ h.get t = some (.row cs own st) ∧ t < h.next ∧ st ≤ h.clk)
section
variable {h0 h h' : Hp} {v : AV} {z n b u st : Nat} {cs xs : List AV} {own : Bool} {K : AV → Hp → Prop}
theorem OwnZ.nil : OwnZ z h0 h .nils 0 [] := ⟨by simp, .inl ⟨rfl, rfl⟩⟩
theorem OwnZ.grs (o : OwnZ z h0 h v n cs) (g : Grs h h') : OwnZ z h0 h' v n cs := by
  obtain ⟨hl, o | ⟨t, st, e, hg, h1, h2, h3⟩⟩ := o
  · exact ⟨hl, .inl o⟩
  · exact ⟨hl, .inr ⟨t, st, e, (g.get h2).trans hg, h1, Nat.lt_of_lt_of_le h2 g.next, Nat.le_trans h3 g.clk⟩⟩
theorem RowS.grs (o : RowS z h v n cs) (g : Grs h h') : RowS z h' v n cs := by
  obtain ⟨hl, o | ⟨t, own, st, e, hg, h2, h3⟩⟩ := o
  · exact ⟨hl, .inl o⟩
  · exact ⟨hl, .inr ⟨t, own, st, e, (g.get h2).trans hg, Nat.lt_of_lt_of_le h2 g.next, Nat.le_trans h3 g.clk⟩⟩
theorem OwnZ.row (o : OwnZ z h0 h v n cs) : RowS z h v n cs := by
  obtain ⟨hl, o | ⟨t, st, e, hg, h1, h2, h3⟩⟩ := o
  · exact ⟨hl, .inl o⟩
  · exact ⟨hl, .inr ⟨t, true, st, e, hg, h2, h3⟩⟩
theorem cells_z (hu : h.get u = some (.row xs own st)) (hx : xs.length = z) : cellsOf h z (.sl u 0 1 z) = some xs := by
  simp only [cellsOf, hu]
  rw [if_pos ⟨trivial, by omega⟩, ← hx]
  simp
theorem cells_all (hu : h.get u = some (.row cs own st)) (hx : cs.length = n * z) : cellsOf h z (.sl u 0 n z) = some cs := by
  simp only [cellsOf, hu]
  rw [if_pos ⟨trivial, by omega⟩, ← hx]
  simp
/-- One element more. -/
theorem OwnZ.app (G : Grs h0 h) (O : OwnZ z h0 h v n cs) (hx : xs.length = z) (hz : 0 < z) (hl : (n + 1) * b ≤ 140737488355328) (hl2 : n + 1 ≤ 140737488355328) :
    ∃ v' h', appA (h.push fun st => .row xs true st) z b v (.sl h.next 0 1 z) = some (v', h') ∧ Grs h0 h' ∧ OwnZ z h0 h' v' (n + 1) (cs ++ xs) := by
  have hc : cellsOf (h.push fun st => .row xs true st) z (.sl h.next 0 1 z) = some xs := cells_z Hp.push_same hx
  have hn0 := G.next
  obtain ⟨hlen, ⟨rfl, rfl⟩ | ⟨t, st, rfl, hg, h1, h2, h3⟩⟩ := O
  · have hcs : cs = [] := List.length_eq_zero_iff.1 (by omega)
    subst hcs
    refine ⟨.sl (h.next + 1) 0 1 z, (h.push fun st => .row xs true st).push fun st => .row xs true st, ?_, G.push.push, by simp [hx], .inr ⟨h.next + 1, (h.push fun st => .row xs true st).clk + 1, rfl, Hp.push_same, by omega, ?_, Nat.le_refl _⟩⟩
    · unfold appA
      rw [hc]
      simp only [lenA]
      rw [if_pos ⟨by omega, by omega, hz⟩]
      rfl
    · show h.next + 1 < h.next + 1 + 1; omega
  · have hgt : (h.push fun st => .row xs true st).get t = some (.row cs true st) := (Hp.push_other (by omega)).trans hg
    refine ⟨.sl (h.next + 1) 0 (n + 1) z, ((h.push fun st => .row xs true st).put t fun s => .dead s).push fun st => .row (cs ++ xs) true st, ?_, (G.push.put h1).push, by simp [hx, hlen, Nat.add_mul], .inr ⟨h.next + 1, ((h.push fun st => .row xs true st).put t fun s => .dead s).clk + 1, rfl, Hp.push_same, by omega, ?_, Nat.le_refl _⟩⟩
    · unfold appA
      rw [hc]
      simp only [lenA]
      rw [hgt]
      simp only
      rw [if_pos ⟨trivial, by omega, hl, hl2⟩]
      simp only [List.drop_zero, ← hlen, List.take_length]
      rfl
    · show h.next + 1 < h.next + 1 + 1; omega
/-- Append of what was laid last, as a step of a walk. -/
theorem OwnZ.wp (hu : u = h.next) (G : Grs h0 h) (O : OwnZ z h0 h v n cs) (hx : xs.length = z) (hz : 0 < z) (hl : (n + 1) * b ≤ 140737488355328) (hl2 : n + 1 ≤ 140737488355328)
    (hk : ∀ v' h', Grs h0 h' → OwnZ z h0 h' v' (n + 1) (cs ++ xs) → K v' h') : Some2 (appA (h.push fun st => .row xs true st) z b v (.sl u 0 1 z)) K := by
  subst hu
  obtain ⟨v', h', e, G', O'⟩ := O.app G hx hz hl hl2
  rw [e]; exact hk v' h' G' O'
end
/-- A loop, with what is known of the heap at its start. -/
theorem Wp.loopG {E : Env} {c : ACode} {s : St} {Q : Ex → St → Prop} (P : Hp → Prop) (hP : P s.hp) (I : Hp → Nat → St → Prop) {n : Nat} (h0 : I s.hp n s)
    (round : ∀ hW, P hW → ∀ n s', I hW n s' → Wp E c s' (Round (fun s'' => ∃ m, m < n ∧ I hW m s'') Q)) : Wp E (.loop c) s Q := Wp.loopI (I s.hp) h0 (round s.hp hP)
/-! Code in two pieces: its first n parts, and what stands behind them. -/
def ACode.post : Nat → ACode → ACode
  | 0, c => c
  | n + 1, .seq _ r => r.post n
  | _ + 1, c => c
def ACode.pre : Nat → ACode → ACode
  | 0, _ => .skip
  | n + 1, .seq a r => .seq a (r.pre n)
  | _ + 1, c => c
def ACode.parts : Nat → ACode → Bool
  | 0, _ => true
  | n + 1, .seq _ r => r.parts n
  | _ + 1, _ => false
theorem Wp.cut {E : Env} {Q : Ex → St → Prop} : ∀ (n : Nat) {c : ACode} {s : St}, c.parts n = true → Wp E (c.pre n) s (After E (c.post n) Q) → Wp E c s Q
  | 0, c, s, _, h => Wp.skip_iff.1 h
  | n + 1, c, s, hp, h => by
    cases c with
    | seq a r =>
      have h := Wp.seq_iff.1 (show Wp E (.seq a (r.pre n)) s (After E (r.post n) Q) from h)
      refine Wp.seq (h.mono fun e s' hq => ?_)
      cases e with
      | nrm => exact Wp.cut n hp hq
      | exit i => exact hq
      | ret => exact hq
    | _ => cases hp
/-! The cells of a list of structs. -/
section
variable {α : Type} {f : α → List AV} {k : Nat}
theorem flat_len (hf : ∀ x, (f x).length = k) : ∀ l : List α, (l.flatMap f).length = l.length * k
  | [] => by simp
  | x :: l => by rw [List.flatMap_cons, List.length_append, hf, flat_len hf l, List.length_cons, Nat.add_mul]; omega
theorem flat_drop (hf : ∀ x, (f x).length = k) : ∀ (l : List α) (i : Nat), (l.flatMap f).drop (i * k) = (l.drop i).flatMap f
  | [], i => by simp
  | x :: l, 0 => by simp
  | x :: l, i + 1 => by
    rw [List.flatMap_cons, List.drop_succ_cons, ← flat_drop hf l i, show (i + 1) * k = (f x).length + i * k by rw [hf, Nat.add_mul]; omega, List.drop_append]
    simp
theorem flat_at (hf : ∀ x, (f x).length = k) {l : List α} {i : Nat} (hi : i < l.length) : ((l.flatMap f).drop (i * k)).take k = f l[i] := by
  rw [flat_drop hf, List.drop_eq_getElem_cons hi, List.flatMap_cons, ← hf l[i], List.take_append]
  simp
theorem flat_get (hf : ∀ x, (f x).length = k) {l : List α} {i j : Nat} (hi : i < l.length) (hj : j < k) : (l.flatMap f)[i * k + j]? = (f l[i])[j]? := by
  rw [← flat_at hf hi, List.getElem?_take, if_pos hj, List.getElem?_drop]
end
/-! Maps. -/
def MupdF (t : Nat) (x : Option (List (AV × AV))) (h : Hp) (K : AV → Hp → Prop) : Prop :=
  match x with
  | some es => K und (h.put t fun s => .amap es s)
  | none => False
def MupdR (k : List UInt8) (t : Nat) (v : AV) (x : Option AObj) (h : Hp) (K : AV → Hp → Prop) : Prop :=
  match x with
  | some (.amap es _) => MupdF t (updA k v es) h K
  | _ => False
def MupdK (m k v : AV) (h : Hp) (K : AV → Hp → Prop) : Prop :=
  match m, k with
  | .map t, .str k => MupdR k t v (h.get t) h K
  | _, _ => False
def LkpF (z : AV) (ok : Bool) (x : Option (Option AV)) (h : Hp) (K : AV → Hp → Prop) : Prop :=
  match x with
  | some (some v) => K (if ok then .tup [v, .bool true] else v) h
  | some none => K (if ok then .tup [z, .bool false] else z) h
  | none => False
def LkpR (k : List UInt8) (z : AV) (ok : Bool) (x : Option AObj) (h : Hp) (K : AV → Hp → Prop) : Prop :=
  match x with
  | some (.amap es _) => LkpF z ok (findA k es) h K
  | _ => False
def LkpK (m k : AV) (z : AV) (ok : Bool) (h : Hp) (K : AV → Hp → Prop) : Prop :=
  match m, k with
  | .map t, .str k => LkpR k z ok (h.get t) h K
  | _, _ => False
section
variable {E : Env} {s : St} {h : Hp} {K : AV → Hp → Prop} {t st : Nat} {k : List UInt8} {v z x y w : AV} {ok : Bool} {es : List (AV × AV)}
theorem w_mupd' {a b c : Opd} : OpWp E (.mupd a b c) s K ↔ MupdK (val s.tm a) (val s.tm b) (val s.tm c) s.hp K := by
  rw [w_mupd]
  simp only [o_mupd, MupdK]
  cases val s.tm a <;> try exact Iff.rfl
  cases val s.tm b <;> try exact Iff.rfl
  rename_i t k
  simp only [MupdR]
  cases s.hp.get t with
  | none => exact Iff.rfl
  | some o =>
    cases o with
    | amap es st =>
      simp only [MupdF]
      cases updA k (val s.tm c) es <;> exact Iff.rfl
    | _ => exact Iff.rfl
theorem w_lkp' {a b : Opd} : OpWp E (.lkp a b z ok) s K ↔ LkpK (val s.tm a) (val s.tm b) z ok s.hp K := by
  rw [w_lkp]
  simp only [o_lkp, LkpK]
  cases val s.tm a <;> try exact Iff.rfl
  cases val s.tm b <;> try exact Iff.rfl
  rename_i t k
  simp only [LkpR]
  cases s.hp.get t with
  | none => exact Iff.rfl
  | some o =>
    cases o with
    | amap es st =>
      simp only [LkpF]
      cases findA k es with
      | none => exact Iff.rfl
      | some r => cases r <;> exact Iff.rfl
    | _ => exact Iff.rfl
theorem MupdK.r : MupdK (.map t) (.str k) v h K ↔ MupdR k t v (h.get t) h K := Iff.rfl
theorem MupdR.row : MupdR k t v (some (.amap es st)) h K ↔ MupdF t (updA k v es) h K := Iff.rfl
theorem MupdF.som : MupdF t (some es) h K ↔ K und (h.put t fun s => .amap es s) := Iff.rfl
theorem LkpK.r : LkpK (.map t) (.str k) z ok h K ↔ LkpR k z ok (h.get t) h K := Iff.rfl
theorem LkpR.row : LkpR k z ok (some (.amap es st)) h K ↔ LkpF z ok (findA k es) h K := Iff.rfl
theorem LkpF.tt : LkpF z true (some (some v)) h K ↔ K (.tup [v, .bool true]) h := Iff.rfl
theorem LkpF.tf : LkpF z true (some none) h K ↔ K (.tup [z, .bool false]) h := Iff.rfl
theorem LkpF.ft : LkpF z false (some (some v)) h K ↔ K v h := Iff.rfl
theorem LkpF.ff : LkpF z false (some none) h K ↔ K z h := Iff.rfl
theorem one_nilf : AV.nilf.one = true := rfl
theorem one_nili : AV.nili.one = true := rfl
theorem one_nilp : AV.nilp.one = true := rfl
theorem one_map : (AV.map t).one = true := rfl
theorem cells_map : (AV.map t).cells = [.map t] := rfl
theorem cells_nilf : AV.nilf.cells = [.nilf] := rfl
attribute [go_sem] w_app one_nilf one_nili one_nilp one_map cells_map cells_nilf w_mkmap w_mupd' w_lkp' MupdK.r MupdR.row MupdF.som LkpK.r LkpR.row LkpF.tt LkpF.tf LkpF.ft LkpF.ff
end
end
end Go.Ae


/-
  What rows with slices among their arguments have in common: an argument's cells, the heap that the call begins with, and what lies on behind it.
-/
set_option linter.unusedVariables false
set_option maxRecDepth 100000
namespace Go.Ae
/-- A call, from a heap on. -/
theorem calls_heap {P : Program} {W : World} {E : Env} {ρ : Rho} {h : Hp} {v : AV} {args : List AV} {f : Nat} (EO : EnvOk P W W.heap.size E) (hc : canEnter P f = true) (hr : Gv E f args h v)
    (R : HRel W.heap.size ρ h W) (hok : oks ρ h.next args) (hv : v.free = true) :
    Calls P f (encs ρ args).toArray W fun e w' => e = .returned (enc ρ v) ∧ Go.RowKit.Below W.heap.size W w' := by
  obtain ⟨h', ⟨n, hn⟩, _⟩ := hr
  have D := call_sound EO hn (Go.RowKit.Below.refl _ _) R hok
  unfold Does at D
  rw [run_enter hc] at D
  refine Calls.mono (show Calls P f (encs ρ args).toArray W _ from D) fun e w' he => ?_
  obtain ⟨u, rfl, ρ', X, _, rfl⟩ := he
  exact ⟨congrArg _ (enc_free _ _ v hv), X.keep.below R⟩
/-- The heap with one row that came in. -/
theorem HRel.arg {W : World} {ρ : Rho} {cs : List AV} (h1 : ∀ v ∈ cs, v.one = true) (h2 : oks ρ 1 cs) (hr : W.rangeAt (ρ 0).b (ρ 0).o (encs ρ cs)) (hb : (ρ 0).b < W.heap.size) :
    HRel W.heap.size ρ (Hp.nil.push fun s => .row cs false s) W :=
  (HRel.nil (Nat.le_refl _)).pushed _ (Agree.refl _ _) (Nat.le_refl _) (fun _ _ => rfl) ⟨⟨h1, h2, hr, nofun, fun _ => .inr hb⟩, nofun⟩
/-- Cells, element by element. -/
theorem range_cells {α : Type} {W : World} {ρ : Rho} {f : α → List AV} {z b o base : Nat} (hz : 0 < z) (hf : ∀ x, (f x).length = z) {l : List α}
    (hx : ∀ i (hi : i < l.length), W.cells? base ((⟨b, o, none⟩ : Addr).add (i * z)) z = some (encs ρ (f l[i]))) : W.rangeAt b o (encs ρ (l.flatMap f)) := by
  intro j v hj
  rw [encs_map, List.getElem?_map] at hj
  have hlen := flat_len hf l
  have hjl : j < l.length * z := by
    rcases Nat.lt_or_ge j (l.length * z) with c | c
    · exact c
    · rw [List.getElem?_eq_none (by rw [hlen]; exact c)] at hj; cases hj
  have hi : j / z < l.length := (Nat.div_lt_iff_lt_mul hz).2 hjl
  have hr : j % z < z := Nat.mod_lt _ hz
  have e : j = j / z * z + j % z := by rw [Nat.mul_comm]; exact (Nat.div_add_mod j z).symm
  obtain ⟨_, hlc, hc⟩ := World.cells?_some (hx (j / z) hi)
  have := hc (j % z) hr
  rw [Addr.add_mid, Addr.add_mid, Nat.add_assoc, ← e] at this
  rw [this, encs_map, List.getElem?_map, ← flat_get hf hi hr, ← e]
  exact hj
end Go.Ae
namespace Go.Proofs.YtdaggbpeoldmeaaGreatDoor.laws
open Go.ChangeShapes Go.WideShapes Go.ChangeAt Go.RowKit Go.Ae
/-- A slice that came in. -/
theorem arg_slice {P : Program} {W : World} {base : Nat} {t e : TypeId} {v : Value} (ht : P.underlying t = some (.slice e)) (hv : Value.okWide P W .any base t v) :
    v = .slice none 0 0 ∨ ∃ b o len cap, v = .slice (some ⟨b, o, none⟩) len cap ∧ len ≤ cap ∧ b < W.heap.size := by
  unfold Value.okWide at hv
  rw [ht] at hv
  unfold Cell.okWide Cell.ok at hv
  rw [ht] at hv
  cases v <;> simp only at hv <;> try (exact hv.elim)
  rename_i a len cap
  cases a with
  | none =>
    left
    cases len <;> cases cap <;> first | rfl | exact hv.elim
  | some a =>
    obtain ⟨b, o, sp⟩ := a
    right
    obtain ⟨h1, _, h2⟩ := hv
    obtain ⟨_, h3, row, cells, h4, _⟩ := h2
    simp only at h3
    subst h3
    refine ⟨b, o, len, cap, rfl, h1, ?_⟩
    rcases Nat.lt_or_ge b W.heap.size with c | c
    · exact c
    · simp [World.shape?, Array.getElem?_eq_none c] at h4
section
variable {H : Type} {enc : TypeId × Value → H} {P : Program}
theorem trodAll_stays (hl : laidOutB P = true) {W W' : World} {sp : Nat → Bool} (hb : Below W.heap.size W W') : ∀ {ts : List TypeId} {vs : List Value} {ds : List (DataW H)} {ps : List MemPlace},
    (∀ t ∈ ts, P.readableRec t = true ∧ t < P.types.size) → DataW.TrodAll enc P W 0 (fun _ => true) true ts vs ds ps → (∀ x ∈ ps, x.block < W.heap.size) → (∀ x ∈ ps, sp x.block = true) → DataW.TrodAll enc P W' 0 sp true ts vs ds ps
  | [], [], [], _, _, h, _, _ => h
  | t :: _, _ :: _, _ :: _, _, hT, ⟨p, q, h1, h2, e⟩, hlt, hs =>
    ⟨p, q, WideElems.Trod_stays hl (hT t (List.mem_cons.2 (Or.inl rfl))).1 (hT t (List.mem_cons.2 (Or.inl rfl))).2 h1 (fun x hx => hb.same (hlt x (by rw [e]; exact List.mem_append_left _ hx))) (fun x hx => hs x (by rw [e]; exact List.mem_append_left _ hx)),
      trodAll_stays hl hb (fun t ht => hT t (List.mem_cons.2 (Or.inr ht))) h2 (fun x hx => hlt x (by rw [e]; exact List.mem_append_right _ hx)) (fun x hx => hs x (by rw [e]; exact List.mem_append_right _ hx)), e⟩
end
end Go.Proofs.YtdaggbpeoldmeaaGreatDoor.laws


/- Clocks: the functions of the program and of the reference that print times. -/
set_option linter.unusedVariables false
set_option linter.unusedSimpArgs false
set_option maxRecDepth 100000
namespace Go.Ae
open N Go.Proofs
section
variable {h : Hp} {K : AV → Hp → Prop}
theorem c220 {n : Int} (hn : -9223372036854775808 ≤ n ∧ n ≤ 9223372036854775807) : CallWp E2 220 [.int .i64 n] h K ↔ K (.str (Lib.itoa n)) h := by
  rw [CallWp.prim_iff (p := L.p220) rfl rfl]
  have : L.p220 [.int .i64 n] h = some (.str (Lib.itoa n), h) := if_pos hn
  rw [this]; exact Iff.rfl
theorem c221 {s : List UInt8} {n : Int} (hn : 0 ≤ n ∧ n ≤ 9223372036854775807 ∧ s.length * n.toNat ≤ 140737488355328) : CallWp E2 221 [.str s, .int .i64 n] h K ↔ K (.str (Lib.repeatL s n.toNat)) h := by
  rw [CallWp.prim_iff (p := L.p221) rfl rfl]
  have : L.p221 [.str s, .int .i64 n] h = some (.str (Lib.repeatL s n.toNat), h) := if_pos hn
  rw [this]; exact Iff.rfl
theorem c17 : CallWp E2 17 [] h K ↔ K (.bool true) h := by
  rw [CallWp.prim_iff (p := fun args h => match pAwake args with | some v => some (v, h) | none => none) rfl rfl]; exact Iff.rfl
theorem c43 {s : List UInt8} (hs : s.length < 4294967281) : CallWp E2 43 [.str s] h K ↔ K (.tup [.int .i64 (Rc.readClk s).1, .int .i64 (Rc.readClk s).2]) h := by
  rw [CallWp.prim_iff (p := p43) rfl rfl]
  have : p43 [.str s] h = some (.tup [.int .i64 (Rc.readClk s).1, .int .i64 (Rc.readClk s).2], h) := if_pos hs
  rw [this]; exact Iff.rfl
theorem digits_lt {n : Nat} (hn : n ≤ 9223372036854775807) : (Lib.decDigits n).length ≤ 20 := by
  have h1 := decP_pad n 1 (by omega)
  have h2 := congrArg List.length h1
  have h3 := decP_len 19 (n := n) (k := 1) (by omega)
  rw [List.length_append] at h2; omega
theorem c145 {n k : Int} (hn : 0 ≤ n ∧ n ≤ 9223372036854775807) (hk : 1 ≤ k ∧ k ≤ 1000) : CallWp E2 145 [.int .i64 n, .int .i64 k] h K ↔ K (.str (decP n.toNat k.toNat)) h := by
  refine CallWp.iff_of (CallWp.fn (fn := C.a145) rfl rfl rfl ?_)
  unfold C.a145
  have e1 : Lib.itoa n = Lib.decDigits n.toNat := if_neg (by omega)
  have h2 := digits_len n.toNat
  have h3 := digits_lt (n := n.toNat) (by omega)
  have e2 := decP_pad n.toNat k.toNat (by omega)
  have e3 : (max 0 (k - (Lib.decDigits n.toNat).length)).toNat = k.toNat - (Lib.decDigits n.toNat).length := by omega
  have e4 : (Lib.repeatL [48] (k.toNat - (Lib.decDigits n.toNat).length)).length ≤ 1000 := by rw [Lib.repeatL_length]; simp; omega
  simp (disch := first | assumption | omega | (simp only [List.length_cons, List.length_nil, List.length_append, List.length_map, List.length_take, List.length_drop, List.length_replicate]; omega)) only [not_true_eq_false, not_false_eq_true, decide_true, decide_false, ↓reduceIte, Nat.reduceEqDiff, Nat.reduceAdd, Nat.reduceBEq, Wp.seq_iff, Wp.block_iff, Wp.skip_iff, Wp.ret_iff, Wp.exit_iff, Wp.cond_iff, Wp.nil_iff, Wp.op_iff, Wp.grd_iff, Wp.dreg_iff, Wp.dnil_iff, Wp.dop_iff, Wp.dgrd_iff, After, InBlock, Round, Then, DThen, DOp.some_iff, noted_n, noted_s, NoteK.ptr, List.all_nil, List.all_cons, fresh_eq, val_k, val_set, val_nil, put_some, put_none, enter_nil, enter_cons, List.map_cons, List.map_nil, Option.map_some, Option.map_none, resA_tmp, res0, res1, res2, res3, RetQ.ret, RetQ.nrm, ResK.iff, wanted_k, WantK.tt, WantK.tf, WantK.ft, WantK.ff, WantK.und, GrdK.t, GrdK.f, DGrd.t, DGrd.f, CondK.t, CondK.f, decide_nn, Bool.not_true, Bool.not_false, Bool.not_not, w_mv, PickK.t, PickK.f, w_pick, w_alloc, w_bin, w_un, cviA_int, w_cvi, cvsA_str, w_cvs, w_mkI, w_mkF, w_sls, slsK_lo, slsK_hi, slsK_lh, w_idxs, idxK_str, w_len, lenK_str, lenK_sl, lenK_nils, lenK_arr, w_ext, extK_0, extK_1, extK_2, w_fld, fldK_0, fldK_1, fldK_2, fldK_3, fldK_4, w_fadr, fadrK_ptr, w_iadr, iadrK_sl, w_iadrA, iadrAK_ptr, w_load, w_storeK, Some1.iff, Some2.iff, b_add, b_sub, b_mul, b_quoP, b_remP, b_eql, b_neq, b_lss, b_leq, b_gtr, b_geq, b_sadd, b_seql, b_sneq, b_inil, u_not, u_neg, wrap_i64, wrap_u64, wrap_u8, wrap_i32, w_mx2, w_mn2, max2A_int, min2A_int, cells_int, cells_bool, cells_str, cells_ptr, cells_sl, cells_nils, cells_fn, cells_agg, one_int, one_bool, one_str, one_ptr, one_sl, one_nils, one_fn, OpWp.callF_iff, OpWp.callV_iff, CallVK.fn, OpWp.inv_iff, CondK.posN, PickK.posN, WantK.posN_t, WantK.posN_f, CondK.pos, CondK.neg, PickK.pos, PickK.neg, WantK.pos_t, WantK.neg_t, WantK.pos_f, WantK.neg_f, c220, e1]
  rw [c221 (by simp; omega), e3]
  simp (disch := first | assumption | omega | (simp only [List.length_cons, List.length_nil, List.length_append, List.length_map, List.length_take, List.length_drop, List.length_replicate]; omega)) only [not_true_eq_false, not_false_eq_true, decide_true, decide_false, ↓reduceIte, Nat.reduceEqDiff, Nat.reduceAdd, Nat.reduceBEq, Wp.seq_iff, Wp.block_iff, Wp.skip_iff, Wp.ret_iff, Wp.exit_iff, Wp.cond_iff, Wp.nil_iff, Wp.op_iff, Wp.grd_iff, Wp.dreg_iff, Wp.dnil_iff, Wp.dop_iff, Wp.dgrd_iff, After, InBlock, Round, Then, DThen, DOp.some_iff, noted_n, noted_s, NoteK.ptr, List.all_nil, List.all_cons, fresh_eq, val_k, val_set, val_nil, put_some, put_none, enter_nil, enter_cons, List.map_cons, List.map_nil, Option.map_some, Option.map_none, resA_tmp, res0, res1, res2, res3, RetQ.ret, RetQ.nrm, ResK.iff, wanted_k, WantK.tt, WantK.tf, WantK.ft, WantK.ff, WantK.und, GrdK.t, GrdK.f, DGrd.t, DGrd.f, CondK.t, CondK.f, decide_nn, Bool.not_true, Bool.not_false, Bool.not_not, w_mv, PickK.t, PickK.f, w_pick, w_alloc, w_bin, w_un, cviA_int, w_cvi, cvsA_str, w_cvs, w_mkI, w_mkF, w_sls, slsK_lo, slsK_hi, slsK_lh, w_idxs, idxK_str, w_len, lenK_str, lenK_sl, lenK_nils, lenK_arr, w_ext, extK_0, extK_1, extK_2, w_fld, fldK_0, fldK_1, fldK_2, fldK_3, fldK_4, w_fadr, fadrK_ptr, w_iadr, iadrK_sl, w_iadrA, iadrAK_ptr, w_load, w_storeK, Some1.iff, Some2.iff, b_add, b_sub, b_mul, b_quoP, b_remP, b_eql, b_neq, b_lss, b_leq, b_gtr, b_geq, b_sadd, b_seql, b_sneq, b_inil, u_not, u_neg, wrap_i64, wrap_u64, wrap_u8, wrap_i32, w_mx2, w_mn2, max2A_int, min2A_int, cells_int, cells_bool, cells_str, cells_ptr, cells_sl, cells_nils, cells_fn, cells_agg, one_int, one_bool, one_str, one_ptr, one_sl, one_nils, one_fn, OpWp.callF_iff, OpWp.callV_iff, CallVK.fn, OpWp.inv_iff, CondK.posN, PickK.posN, WantK.posN_t, WantK.posN_f, CondK.pos, CondK.neg, PickK.pos, PickK.neg, WantK.pos_t, WantK.neg_t, WantK.pos_f, WantK.neg_f, e2]
  trivial
theorem c186 {n k : Nat} (hn : n ≤ 9223372036854775807) (hk : k ≤ 1000) : CallWp E2 186 [.int .i64 n, .int .i64 k] h K ↔ K (.str (decP n k)) h := by
  refine CallWp.iff_of (CallWp.fn (fn := C.a186) rfl rfl rfl ?_)
  have hlen : (decP n k).length ≤ 19 + k := decP_len 19 (by omega)
  unfold C.a186
  simp (disch := first | assumption | omega | (simp only [List.length_cons, List.length_nil, List.length_append, List.length_map, List.length_take, List.length_drop, List.length_replicate]; omega)) only [not_true_eq_false, not_false_eq_true, decide_true, decide_false, ↓reduceIte, Nat.reduceEqDiff, Nat.reduceAdd, Nat.reduceBEq, Wp.seq_iff, Wp.block_iff, Wp.skip_iff, Wp.ret_iff, Wp.exit_iff, Wp.cond_iff, Wp.nil_iff, Wp.op_iff, Wp.grd_iff, Wp.dreg_iff, Wp.dnil_iff, Wp.dop_iff, Wp.dgrd_iff, After, InBlock, Round, Then, DThen, DOp.some_iff, noted_n, noted_s, NoteK.ptr, List.all_nil, List.all_cons, fresh_eq, val_k, val_set, val_nil, put_some, put_none, enter_nil, enter_cons, List.map_cons, List.map_nil, Option.map_some, Option.map_none, resA_tmp, res0, res1, res2, res3, RetQ.ret, RetQ.nrm, ResK.iff, wanted_k, WantK.tt, WantK.tf, WantK.ft, WantK.ff, WantK.und, GrdK.t, GrdK.f, DGrd.t, DGrd.f, CondK.t, CondK.f, decide_nn, Bool.not_true, Bool.not_false, Bool.not_not, w_mv, PickK.t, PickK.f, w_pick, w_alloc, w_bin, w_un, cviA_int, w_cvi, cvsA_str, w_cvs, w_mkI, w_mkF, w_sls, slsK_lo, slsK_hi, slsK_lh, w_idxs, idxK_str, w_len, lenK_str, lenK_sl, lenK_nils, lenK_arr, w_ext, extK_0, extK_1, extK_2, w_fld, fldK_0, fldK_1, fldK_2, fldK_3, fldK_4, w_fadr, fadrK_ptr, w_iadr, iadrK_sl, w_iadrA, iadrAK_ptr, w_load, w_storeK, Some1.iff, Some2.iff, b_add, b_sub, b_mul, b_quoP, b_remP, b_eql, b_neq, b_lss, b_leq, b_gtr, b_geq, b_sadd, b_seql, b_sneq, b_inil, u_not, u_neg, wrap_i64, wrap_u64, wrap_u8, wrap_i32, w_mx2, w_mn2, max2A_int, min2A_int, cells_int, cells_bool, cells_str, cells_ptr, cells_sl, cells_nils, cells_fn, cells_agg, one_int, one_bool, one_str, one_ptr, one_sl, one_nils, one_fn, OpWp.callF_iff, OpWp.callV_iff, CallVK.fn, OpWp.inv_iff, CondK.posN, PickK.posN, WantK.posN_t, WantK.posN_f, CondK.pos, CondK.neg, PickK.pos, PickK.neg, WantK.pos_t, WantK.neg_t, WantK.pos_f, WantK.neg_f]
  refine Wp.loopI (fun m s => ∃ (n' : Nat) (l : List UInt8), val s.tm (.t 0) = .int .i64 n' ∧ val s.tm (.t 1) = .int .i64 k ∧ val s.tm (.t 5) = .str l ∧ s.hp = h ∧ n' ≤ n ∧ decP n' (k - l.length) ++ l = decP n k ∧ m = n' + (k - l.length)) (n := n + k) ?_ ?_
  · exact ⟨n, [], by simp (disch := first | assumption | omega | (simp only [List.length_cons, List.length_nil, List.length_append, List.length_map, List.length_take, List.length_drop, List.length_replicate]; omega)) only [not_true_eq_false, not_false_eq_true, decide_true, decide_false, ↓reduceIte, Nat.reduceEqDiff, Nat.reduceAdd, Nat.reduceBEq, Wp.seq_iff, Wp.block_iff, Wp.skip_iff, Wp.ret_iff, Wp.exit_iff, Wp.cond_iff, Wp.nil_iff, Wp.op_iff, Wp.grd_iff, Wp.dreg_iff, Wp.dnil_iff, Wp.dop_iff, Wp.dgrd_iff, After, InBlock, Round, Then, DThen, DOp.some_iff, noted_n, noted_s, NoteK.ptr, List.all_nil, List.all_cons, fresh_eq, val_k, val_set, val_nil, put_some, put_none, enter_nil, enter_cons, List.map_cons, List.map_nil, Option.map_some, Option.map_none, resA_tmp, res0, res1, res2, res3, RetQ.ret, RetQ.nrm, ResK.iff, wanted_k, WantK.tt, WantK.tf, WantK.ft, WantK.ff, WantK.und, GrdK.t, GrdK.f, DGrd.t, DGrd.f, CondK.t, CondK.f, decide_nn, Bool.not_true, Bool.not_false, Bool.not_not, w_mv, PickK.t, PickK.f, w_pick, w_alloc, w_bin, w_un, cviA_int, w_cvi, cvsA_str, w_cvs, w_mkI, w_mkF, w_sls, slsK_lo, slsK_hi, slsK_lh, w_idxs, idxK_str, w_len, lenK_str, lenK_sl, lenK_nils, lenK_arr, w_ext, extK_0, extK_1, extK_2, w_fld, fldK_0, fldK_1, fldK_2, fldK_3, fldK_4, w_fadr, fadrK_ptr, w_iadr, iadrK_sl, w_iadrA, iadrAK_ptr, w_load, w_storeK, Some1.iff, Some2.iff, b_add, b_sub, b_mul, b_quoP, b_remP, b_eql, b_neq, b_lss, b_leq, b_gtr, b_geq, b_sadd, b_seql, b_sneq, b_inil, u_not, u_neg, wrap_i64, wrap_u64, wrap_u8, wrap_i32, w_mx2, w_mn2, max2A_int, min2A_int, cells_int, cells_bool, cells_str, cells_ptr, cells_sl, cells_nils, cells_fn, cells_agg, one_int, one_bool, one_str, one_ptr, one_sl, one_nils, one_fn, OpWp.callF_iff, OpWp.callV_iff, CallVK.fn, OpWp.inv_iff, CondK.posN, PickK.posN, WantK.posN_t, WantK.posN_f, CondK.pos, CondK.neg, PickK.pos, PickK.neg, WantK.pos_t, WantK.neg_t, WantK.pos_f, WantK.neg_f], by simp (disch := first | assumption | omega | (simp only [List.length_cons, List.length_nil, List.length_append, List.length_map, List.length_take, List.length_drop, List.length_replicate]; omega)) only [not_true_eq_false, not_false_eq_true, decide_true, decide_false, ↓reduceIte, Nat.reduceEqDiff, Nat.reduceAdd, Nat.reduceBEq, Wp.seq_iff, Wp.block_iff, Wp.skip_iff, Wp.ret_iff, Wp.exit_iff, Wp.cond_iff, Wp.nil_iff, Wp.op_iff, Wp.grd_iff, Wp.dreg_iff, Wp.dnil_iff, Wp.dop_iff, Wp.dgrd_iff, After, InBlock, Round, Then, DThen, DOp.some_iff, noted_n, noted_s, NoteK.ptr, List.all_nil, List.all_cons, fresh_eq, val_k, val_set, val_nil, put_some, put_none, enter_nil, enter_cons, List.map_cons, List.map_nil, Option.map_some, Option.map_none, resA_tmp, res0, res1, res2, res3, RetQ.ret, RetQ.nrm, ResK.iff, wanted_k, WantK.tt, WantK.tf, WantK.ft, WantK.ff, WantK.und, GrdK.t, GrdK.f, DGrd.t, DGrd.f, CondK.t, CondK.f, decide_nn, Bool.not_true, Bool.not_false, Bool.not_not, w_mv, PickK.t, PickK.f, w_pick, w_alloc, w_bin, w_un, cviA_int, w_cvi, cvsA_str, w_cvs, w_mkI, w_mkF, w_sls, slsK_lo, slsK_hi, slsK_lh, w_idxs, idxK_str, w_len, lenK_str, lenK_sl, lenK_nils, lenK_arr, w_ext, extK_0, extK_1, extK_2, w_fld, fldK_0, fldK_1, fldK_2, fldK_3, fldK_4, w_fadr, fadrK_ptr, w_iadr, iadrK_sl, w_iadrA, iadrAK_ptr, w_load, w_storeK, Some1.iff, Some2.iff, b_add, b_sub, b_mul, b_quoP, b_remP, b_eql, b_neq, b_lss, b_leq, b_gtr, b_geq, b_sadd, b_seql, b_sneq, b_inil, u_not, u_neg, wrap_i64, wrap_u64, wrap_u8, wrap_i32, w_mx2, w_mn2, max2A_int, min2A_int, cells_int, cells_bool, cells_str, cells_ptr, cells_sl, cells_nils, cells_fn, cells_agg, one_int, one_bool, one_str, one_ptr, one_sl, one_nils, one_fn, OpWp.callF_iff, OpWp.callV_iff, CallVK.fn, OpWp.inv_iff, CondK.posN, PickK.posN, WantK.posN_t, WantK.posN_f, CondK.pos, CondK.neg, PickK.pos, PickK.neg, WantK.pos_t, WantK.neg_t, WantK.pos_f, WantK.neg_f], by simp (disch := first | assumption | omega | (simp only [List.length_cons, List.length_nil, List.length_append, List.length_map, List.length_take, List.length_drop, List.length_replicate]; omega)) only [not_true_eq_false, not_false_eq_true, decide_true, decide_false, ↓reduceIte, Nat.reduceEqDiff, Nat.reduceAdd, Nat.reduceBEq, Wp.seq_iff, Wp.block_iff, Wp.skip_iff, Wp.ret_iff, Wp.exit_iff, Wp.cond_iff, Wp.nil_iff, Wp.op_iff, Wp.grd_iff, Wp.dreg_iff, Wp.dnil_iff, Wp.dop_iff, Wp.dgrd_iff, After, InBlock, Round, Then, DThen, DOp.some_iff, noted_n, noted_s, NoteK.ptr, List.all_nil, List.all_cons, fresh_eq, val_k, val_set, val_nil, put_some, put_none, enter_nil, enter_cons, List.map_cons, List.map_nil, Option.map_some, Option.map_none, resA_tmp, res0, res1, res2, res3, RetQ.ret, RetQ.nrm, ResK.iff, wanted_k, WantK.tt, WantK.tf, WantK.ft, WantK.ff, WantK.und, GrdK.t, GrdK.f, DGrd.t, DGrd.f, CondK.t, CondK.f, decide_nn, Bool.not_true, Bool.not_false, Bool.not_not, w_mv, PickK.t, PickK.f, w_pick, w_alloc, w_bin, w_un, cviA_int, w_cvi, cvsA_str, w_cvs, w_mkI, w_mkF, w_sls, slsK_lo, slsK_hi, slsK_lh, w_idxs, idxK_str, w_len, lenK_str, lenK_sl, lenK_nils, lenK_arr, w_ext, extK_0, extK_1, extK_2, w_fld, fldK_0, fldK_1, fldK_2, fldK_3, fldK_4, w_fadr, fadrK_ptr, w_iadr, iadrK_sl, w_iadrA, iadrAK_ptr, w_load, w_storeK, Some1.iff, Some2.iff, b_add, b_sub, b_mul, b_quoP, b_remP, b_eql, b_neq, b_lss, b_leq, b_gtr, b_geq, b_sadd, b_seql, b_sneq, b_inil, u_not, u_neg, wrap_i64, wrap_u64, wrap_u8, wrap_i32, w_mx2, w_mn2, max2A_int, min2A_int, cells_int, cells_bool, cells_str, cells_ptr, cells_sl, cells_nils, cells_fn, cells_agg, one_int, one_bool, one_str, one_ptr, one_sl, one_nils, one_fn, OpWp.callF_iff, OpWp.callV_iff, CallVK.fn, OpWp.inv_iff, CondK.posN, PickK.posN, WantK.posN_t, WantK.posN_f, CondK.pos, CondK.neg, PickK.pos, PickK.neg, WantK.pos_t, WantK.neg_t, WantK.pos_f, WantK.neg_f], rfl, Nat.le_refl _, by simp, by simp⟩
  · rintro m ⟨tm, hp⟩ ⟨n', l, h0, h1, h5, rfl, hle, heq, rfl⟩
    simp only at h0 h1 h5
    have hl : l.length ≤ (decP n k).length := by rw [← heq, List.length_append]; omega
    have hs : List.drop ((n' : Int) % 10).toNat (List.take ((n' : Int) % 10 + 1).toNat [48, 49, 50, 51, 52, 53, 54, 55, 56, 57]) = [dg n'] := by
      rw [show ((n' : Int) % 10).toNat = n' % 10 by omega, show ((n' : Int) % 10 + 1).toNat = n' % 10 + 1 by omega]; exact dg_slice
    have hdiv : (n' : Int) / 10 = (n' / 10 : Nat) := by omega
    have hbad : ¬ (n' = 0 ∧ k - l.length = 0) → decP (n' / 10) (k - (dg n' :: l).length) ++ dg n' :: l = decP n k := fun hne => by
      rw [← heq, decP_step hne, List.append_assoc, List.length_cons, Nat.sub_sub]; rfl
    repeat' (with_reducible first | simp (disch := first | assumption | omega | (simp only [List.length_cons, List.length_nil, List.length_append, List.length_map, List.length_take, List.length_drop, List.length_replicate]; omega)) only [not_true_eq_false, not_false_eq_true, decide_true, decide_false, ↓reduceIte, Nat.reduceEqDiff, Nat.reduceAdd, Nat.reduceBEq, Wp.seq_iff, Wp.block_iff, Wp.skip_iff, Wp.ret_iff, Wp.exit_iff, Wp.cond_iff, Wp.nil_iff, Wp.op_iff, Wp.grd_iff, Wp.dreg_iff, Wp.dnil_iff, Wp.dop_iff, Wp.dgrd_iff, After, InBlock, Round, Then, DThen, DOp.some_iff, noted_n, noted_s, NoteK.ptr, List.all_nil, List.all_cons, fresh_eq, val_k, val_set, val_nil, put_some, put_none, enter_nil, enter_cons, List.map_cons, List.map_nil, Option.map_some, Option.map_none, resA_tmp, res0, res1, res2, res3, RetQ.ret, RetQ.nrm, ResK.iff, wanted_k, WantK.tt, WantK.tf, WantK.ft, WantK.ff, WantK.und, GrdK.t, GrdK.f, DGrd.t, DGrd.f, CondK.t, CondK.f, decide_nn, Bool.not_true, Bool.not_false, Bool.not_not, w_mv, PickK.t, PickK.f, w_pick, w_alloc, w_bin, w_un, cviA_int, w_cvi, cvsA_str, w_cvs, w_mkI, w_mkF, w_sls, slsK_lo, slsK_hi, slsK_lh, w_idxs, idxK_str, w_len, lenK_str, lenK_sl, lenK_nils, lenK_arr, w_ext, extK_0, extK_1, extK_2, w_fld, fldK_0, fldK_1, fldK_2, fldK_3, fldK_4, w_fadr, fadrK_ptr, w_iadr, iadrK_sl, w_iadrA, iadrAK_ptr, w_load, w_storeK, Some1.iff, Some2.iff, b_add, b_sub, b_mul, b_quoP, b_remP, b_eql, b_neq, b_lss, b_leq, b_gtr, b_geq, b_sadd, b_seql, b_sneq, b_inil, u_not, u_neg, wrap_i64, wrap_u64, wrap_u8, wrap_i32, w_mx2, w_mn2, max2A_int, min2A_int, cells_int, cells_bool, cells_str, cells_ptr, cells_sl, cells_nils, cells_fn, cells_agg, one_int, one_bool, one_str, one_ptr, one_sl, one_nils, one_fn, OpWp.callF_iff, OpWp.callV_iff, CallVK.fn, OpWp.inv_iff, CondK.posN, PickK.posN, WantK.posN_t, WantK.posN_f, CondK.pos, CondK.neg, PickK.pos, PickK.neg, WantK.pos_t, WantK.neg_t, WantK.pos_f, WantK.neg_f, h0, h1, h5, hs, List.cons_append, List.nil_append] | refine CondK.decN (fun hc => ?_) (fun hc => ?_) | refine GrdK.decN (fun hc => ?_) (fun hc => ?_) | refine PickK.decN (fun hc => ?_) (fun hc => ?_) | refine CondK.dec (fun hc => ?_) (fun hc => ?_) | refine GrdK.dec (fun hc => ?_) (fun hc => ?_) | refine PickK.dec (fun hc => ?_) (fun hc => ?_))
    · refine ⟨_, ?_, n' / 10, dg n' :: l, ?_, ?_, ?_, trivial, ?_, hbad (by omega), rfl⟩
      · simp only [List.length_cons]; omega
      · rw [hdiv]
      · first | exact h1 | trivial
      · trivial
      · omega
    · refine ⟨_, ?_, n' / 10, dg n' :: l, ?_, ?_, ?_, trivial, ?_, hbad (by omega), rfl⟩
      · simp only [List.length_cons]; omega
      · rw [hdiv]
      · first | exact h1 | trivial
      · trivial
      · omega
    · rw [← heq, show n' = 0 by omega, show k - l.length = 0 by omega, decP_zero]
      exact ⟨rfl, trivial⟩
theorem c146 {n k : Int} (hn : 0 ≤ n ∧ n ≤ 9223372036854775807) (hk : 1 ≤ k ∧ k ≤ 1000) : CallWp E2 146 [.int .i64 n, .int .i64 k] h K ↔ K (.str (decP n.toNat k.toNat)) h := by
  refine CallWp.iff_of (CallWp.fn (fn := C.a146) rfl rfl rfl ?_)
  obtain ⟨a, rfl⟩ : ∃ a : Nat, n = a := ⟨n.toNat, by omega⟩
  obtain ⟨b, rfl⟩ : ∃ b : Nat, k = b := ⟨k.toNat, by omega⟩
  have h1 : a ≤ 9223372036854775807 := by omega
  have h2 : b ≤ 1000 := by omega
  unfold C.a146
  simp (disch := first | assumption | omega | (simp only [List.length_cons, List.length_nil, List.length_append, List.length_map, List.length_take, List.length_drop, List.length_replicate]; omega)) only [not_true_eq_false, not_false_eq_true, decide_true, decide_false, ↓reduceIte, Nat.reduceEqDiff, Nat.reduceAdd, Nat.reduceBEq, Wp.seq_iff, Wp.block_iff, Wp.skip_iff, Wp.ret_iff, Wp.exit_iff, Wp.cond_iff, Wp.nil_iff, Wp.op_iff, Wp.grd_iff, Wp.dreg_iff, Wp.dnil_iff, Wp.dop_iff, Wp.dgrd_iff, After, InBlock, Round, Then, DThen, DOp.some_iff, noted_n, noted_s, NoteK.ptr, List.all_nil, List.all_cons, fresh_eq, val_k, val_set, val_nil, put_some, put_none, enter_nil, enter_cons, List.map_cons, List.map_nil, Option.map_some, Option.map_none, resA_tmp, res0, res1, res2, res3, RetQ.ret, RetQ.nrm, ResK.iff, wanted_k, WantK.tt, WantK.tf, WantK.ft, WantK.ff, WantK.und, GrdK.t, GrdK.f, DGrd.t, DGrd.f, CondK.t, CondK.f, decide_nn, Bool.not_true, Bool.not_false, Bool.not_not, w_mv, PickK.t, PickK.f, w_pick, w_alloc, w_bin, w_un, cviA_int, w_cvi, cvsA_str, w_cvs, w_mkI, w_mkF, w_sls, slsK_lo, slsK_hi, slsK_lh, w_idxs, idxK_str, w_len, lenK_str, lenK_sl, lenK_nils, lenK_arr, w_ext, extK_0, extK_1, extK_2, w_fld, fldK_0, fldK_1, fldK_2, fldK_3, fldK_4, w_fadr, fadrK_ptr, w_iadr, iadrK_sl, w_iadrA, iadrAK_ptr, w_load, w_storeK, Some1.iff, Some2.iff, b_add, b_sub, b_mul, b_quoP, b_remP, b_eql, b_neq, b_lss, b_leq, b_gtr, b_geq, b_sadd, b_seql, b_sneq, b_inil, u_not, u_neg, wrap_i64, wrap_u64, wrap_u8, wrap_i32, w_mx2, w_mn2, max2A_int, min2A_int, cells_int, cells_bool, cells_str, cells_ptr, cells_sl, cells_nils, cells_fn, cells_agg, one_int, one_bool, one_str, one_ptr, one_sl, one_nils, one_fn, OpWp.callF_iff, OpWp.callV_iff, CallVK.fn, OpWp.inv_iff, CondK.posN, PickK.posN, WantK.posN_t, WantK.posN_f, CondK.pos, CondK.neg, PickK.pos, PickK.neg, WantK.pos_t, WantK.neg_t, WantK.pos_f, WantK.neg_f, c186, Int.toNat_natCast]
  trivial
/-- The text of a time. -/
def clockS (t : Nat) : List UInt8 :=
  if t / 1000 < 60 then decP (t / 1000) 1 ++ (46 :: decP (t % 1000) 3)
  else if t / 1000 < 3600 then decP (t / 1000 / 60) 1 ++ (58 :: (decP (t / 1000 % 60) 2 ++ (46 :: decP (t % 1000) 3)))
  else decP (t / 1000 / 3600) 1 ++ (58 :: (decP (t / 1000 / 60 % 60) 2 ++ (58 :: (decP (t / 1000 % 60) 2 ++ (46 :: decP (t % 1000) 3)))))
theorem decP_b {n k : Nat} (hn : n ≤ 9223372036854775807) (hk : k ≤ 10) : (decP n k).length ≤ 29 := by
  have := decP_len 19 (n := n) (k := k) (by omega); omega
theorem c40 {t : Int} (ht : -9223372036854775808 ≤ t ∧ t ≤ 9223372036854775807) : CallWp E2 40 [.int .i64 t] h K ↔ K (if t < 0 ∨ 86399999 < t then .tup [.str [], .int .i64 3] else .tup [.str (clockS t.toNat), .int .i64 0]) h := by
  refine CallWp.iff_of (CallWp.fn (fn := C.a40) rfl rfl rfl ?_)
  unfold C.a40
  by_cases h0 : t < 0
  · repeat' (with_reducible first | simp (disch := first | assumption | omega | (simp only [List.length_cons, List.length_nil, List.length_append, List.length_map, List.length_take, List.length_drop, List.length_replicate]; omega)) only [not_true_eq_false, not_false_eq_true, decide_true, decide_false, ↓reduceIte, Nat.reduceEqDiff, Nat.reduceAdd, Nat.reduceBEq, Wp.seq_iff, Wp.block_iff, Wp.skip_iff, Wp.ret_iff, Wp.exit_iff, Wp.cond_iff, Wp.nil_iff, Wp.op_iff, Wp.grd_iff, Wp.dreg_iff, Wp.dnil_iff, Wp.dop_iff, Wp.dgrd_iff, After, InBlock, Round, Then, DThen, DOp.some_iff, noted_n, noted_s, NoteK.ptr, List.all_nil, List.all_cons, fresh_eq, val_k, val_set, val_nil, put_some, put_none, enter_nil, enter_cons, List.map_cons, List.map_nil, Option.map_some, Option.map_none, resA_tmp, res0, res1, res2, res3, RetQ.ret, RetQ.nrm, ResK.iff, wanted_k, WantK.tt, WantK.tf, WantK.ft, WantK.ff, WantK.und, GrdK.t, GrdK.f, DGrd.t, DGrd.f, CondK.t, CondK.f, decide_nn, Bool.not_true, Bool.not_false, Bool.not_not, w_mv, PickK.t, PickK.f, w_pick, w_alloc, w_bin, w_un, cviA_int, w_cvi, cvsA_str, w_cvs, w_mkI, w_mkF, w_sls, slsK_lo, slsK_hi, slsK_lh, w_idxs, idxK_str, w_len, lenK_str, lenK_sl, lenK_nils, lenK_arr, w_ext, extK_0, extK_1, extK_2, w_fld, fldK_0, fldK_1, fldK_2, fldK_3, fldK_4, w_fadr, fadrK_ptr, w_iadr, iadrK_sl, w_iadrA, iadrAK_ptr, w_load, w_storeK, Some1.iff, Some2.iff, b_add, b_sub, b_mul, b_quoP, b_remP, b_eql, b_neq, b_lss, b_leq, b_gtr, b_geq, b_sadd, b_seql, b_sneq, b_inil, u_not, u_neg, wrap_i64, wrap_u64, wrap_u8, wrap_i32, w_mx2, w_mn2, max2A_int, min2A_int, cells_int, cells_bool, cells_str, cells_ptr, cells_sl, cells_nils, cells_fn, cells_agg, one_int, one_bool, one_str, one_ptr, one_sl, one_nils, one_fn, OpWp.callF_iff, OpWp.callV_iff, CallVK.fn, OpWp.inv_iff, CondK.posN, PickK.posN, WantK.posN_t, WantK.posN_f, CondK.pos, CondK.neg, PickK.pos, PickK.neg, WantK.pos_t, WantK.neg_t, WantK.pos_f, WantK.neg_f] | refine CondK.decN (fun hc => ?_) (fun hc => ?_) | refine GrdK.decN (fun hc => ?_) (fun hc => ?_) | refine PickK.decN (fun hc => ?_) (fun hc => ?_) | refine CondK.dec (fun hc => ?_) (fun hc => ?_) | refine GrdK.dec (fun hc => ?_) (fun hc => ?_) | refine PickK.dec (fun hc => ?_) (fun hc => ?_))
    rw [if_pos (.inl h0)]; simp
  by_cases h1 : 86399999 < t
  · repeat' (with_reducible first | simp (disch := first | assumption | omega | (simp only [List.length_cons, List.length_nil, List.length_append, List.length_map, List.length_take, List.length_drop, List.length_replicate]; omega)) only [not_true_eq_false, not_false_eq_true, decide_true, decide_false, ↓reduceIte, Nat.reduceEqDiff, Nat.reduceAdd, Nat.reduceBEq, Wp.seq_iff, Wp.block_iff, Wp.skip_iff, Wp.ret_iff, Wp.exit_iff, Wp.cond_iff, Wp.nil_iff, Wp.op_iff, Wp.grd_iff, Wp.dreg_iff, Wp.dnil_iff, Wp.dop_iff, Wp.dgrd_iff, After, InBlock, Round, Then, DThen, DOp.some_iff, noted_n, noted_s, NoteK.ptr, List.all_nil, List.all_cons, fresh_eq, val_k, val_set, val_nil, put_some, put_none, enter_nil, enter_cons, List.map_cons, List.map_nil, Option.map_some, Option.map_none, resA_tmp, res0, res1, res2, res3, RetQ.ret, RetQ.nrm, ResK.iff, wanted_k, WantK.tt, WantK.tf, WantK.ft, WantK.ff, WantK.und, GrdK.t, GrdK.f, DGrd.t, DGrd.f, CondK.t, CondK.f, decide_nn, Bool.not_true, Bool.not_false, Bool.not_not, w_mv, PickK.t, PickK.f, w_pick, w_alloc, w_bin, w_un, cviA_int, w_cvi, cvsA_str, w_cvs, w_mkI, w_mkF, w_sls, slsK_lo, slsK_hi, slsK_lh, w_idxs, idxK_str, w_len, lenK_str, lenK_sl, lenK_nils, lenK_arr, w_ext, extK_0, extK_1, extK_2, w_fld, fldK_0, fldK_1, fldK_2, fldK_3, fldK_4, w_fadr, fadrK_ptr, w_iadr, iadrK_sl, w_iadrA, iadrAK_ptr, w_load, w_storeK, Some1.iff, Some2.iff, b_add, b_sub, b_mul, b_quoP, b_remP, b_eql, b_neq, b_lss, b_leq, b_gtr, b_geq, b_sadd, b_seql, b_sneq, b_inil, u_not, u_neg, wrap_i64, wrap_u64, wrap_u8, wrap_i32, w_mx2, w_mn2, max2A_int, min2A_int, cells_int, cells_bool, cells_str, cells_ptr, cells_sl, cells_nils, cells_fn, cells_agg, one_int, one_bool, one_str, one_ptr, one_sl, one_nils, one_fn, OpWp.callF_iff, OpWp.callV_iff, CallVK.fn, OpWp.inv_iff, CondK.posN, PickK.posN, WantK.posN_t, WantK.posN_f, CondK.pos, CondK.neg, PickK.pos, PickK.neg, WantK.pos_t, WantK.neg_t, WantK.pos_f, WantK.neg_f] | refine CondK.decN (fun hc => ?_) (fun hc => ?_) | refine GrdK.decN (fun hc => ?_) (fun hc => ?_) | refine PickK.decN (fun hc => ?_) (fun hc => ?_) | refine CondK.dec (fun hc => ?_) (fun hc => ?_) | refine GrdK.dec (fun hc => ?_) (fun hc => ?_) | refine PickK.dec (fun hc => ?_) (fun hc => ?_))
    rw [if_pos (.inr h1)]; simp
  rw [if_neg (by omega)]
  obtain ⟨n, rfl⟩ : ∃ n : Nat, t = n := ⟨t.toNat, by omega⟩
  have b1 := decP_b (n := n / 1000) (k := 1) (by omega) (by omega)
  have b2 := decP_b (n := n % 1000) (k := 3) (by omega) (by omega)
  have b3 := decP_b (n := n / 1000 / 60) (k := 1) (by omega) (by omega)
  have b4 := decP_b (n := n / 1000 % 60) (k := 2) (by omega) (by omega)
  have b5 := decP_b (n := n / 1000 / 3600) (k := 1) (by omega) (by omega)
  have b6 := decP_b (n := n / 1000 / 60 % 60) (k := 2) (by omega) (by omega)
  have e1 : ((n : Int) / 1000).toNat = n / 1000 := by omega
  have e2 : ((n : Int) % 1000).toNat = n % 1000 := by omega
  have e3 : ((n : Int) / 1000 / 60).toNat = n / 1000 / 60 := by omega
  have e4 : ((n : Int) / 1000 % 60).toNat = n / 1000 % 60 := by omega
  have e5 : ((n : Int) / 1000 / 60 / 60).toNat = n / 1000 / 3600 := by omega
  have e6 : ((n : Int) / 1000 / 60 % 60).toNat = n / 1000 / 60 % 60 := by omega
  repeat' (with_reducible first | simp (disch := first | assumption | omega | (simp only [List.length_cons, List.length_nil, List.length_append, List.length_map, List.length_take, List.length_drop, List.length_replicate]; omega)) only [not_true_eq_false, not_false_eq_true, decide_true, decide_false, ↓reduceIte, Nat.reduceEqDiff, Nat.reduceAdd, Nat.reduceBEq, Wp.seq_iff, Wp.block_iff, Wp.skip_iff, Wp.ret_iff, Wp.exit_iff, Wp.cond_iff, Wp.nil_iff, Wp.op_iff, Wp.grd_iff, Wp.dreg_iff, Wp.dnil_iff, Wp.dop_iff, Wp.dgrd_iff, After, InBlock, Round, Then, DThen, DOp.some_iff, noted_n, noted_s, NoteK.ptr, List.all_nil, List.all_cons, fresh_eq, val_k, val_set, val_nil, put_some, put_none, enter_nil, enter_cons, List.map_cons, List.map_nil, Option.map_some, Option.map_none, resA_tmp, res0, res1, res2, res3, RetQ.ret, RetQ.nrm, ResK.iff, wanted_k, WantK.tt, WantK.tf, WantK.ft, WantK.ff, WantK.und, GrdK.t, GrdK.f, DGrd.t, DGrd.f, CondK.t, CondK.f, decide_nn, Bool.not_true, Bool.not_false, Bool.not_not, w_mv, PickK.t, PickK.f, w_pick, w_alloc, w_bin, w_un, cviA_int, w_cvi, cvsA_str, w_cvs, w_mkI, w_mkF, w_sls, slsK_lo, slsK_hi, slsK_lh, w_idxs, idxK_str, w_len, lenK_str, lenK_sl, lenK_nils, lenK_arr, w_ext, extK_0, extK_1, extK_2, w_fld, fldK_0, fldK_1, fldK_2, fldK_3, fldK_4, w_fadr, fadrK_ptr, w_iadr, iadrK_sl, w_iadrA, iadrAK_ptr, w_load, w_storeK, Some1.iff, Some2.iff, b_add, b_sub, b_mul, b_quoP, b_remP, b_eql, b_neq, b_lss, b_leq, b_gtr, b_geq, b_sadd, b_seql, b_sneq, b_inil, u_not, u_neg, wrap_i64, wrap_u64, wrap_u8, wrap_i32, w_mx2, w_mn2, max2A_int, min2A_int, cells_int, cells_bool, cells_str, cells_ptr, cells_sl, cells_nils, cells_fn, cells_agg, one_int, one_bool, one_str, one_ptr, one_sl, one_nils, one_fn, OpWp.callF_iff, OpWp.callV_iff, CallVK.fn, OpWp.inv_iff, CondK.posN, PickK.posN, WantK.posN_t, WantK.posN_f, CondK.pos, CondK.neg, PickK.pos, PickK.neg, WantK.pos_t, WantK.neg_t, WantK.pos_f, WantK.neg_f, c145, e1, e2, e3, e4, e5, e6, Int.reduceToNat, List.cons_append, List.nil_append, List.append_assoc] | refine CondK.decN (fun hc => ?_) (fun hc => ?_) | refine GrdK.decN (fun hc => ?_) (fun hc => ?_) | refine PickK.decN (fun hc => ?_) (fun hc => ?_) | refine CondK.dec (fun hc => ?_) (fun hc => ?_) | refine GrdK.dec (fun hc => ?_) (fun hc => ?_) | refine PickK.dec (fun hc => ?_) (fun hc => ?_))
  · unfold clockS; rw [Int.toNat_natCast, if_pos (by omega)]; exact ⟨rfl, trivial⟩
  · unfold clockS; rw [Int.toNat_natCast, if_neg (by omega), if_pos (by omega)]; exact ⟨rfl, trivial⟩
  · unfold clockS; rw [Int.toNat_natCast, if_neg (by omega), if_neg (by omega)]; exact ⟨rfl, trivial⟩
/-! What the statement compares. -/
theorem c41 {s w : List UInt8} {e b : Int} : CallWp E2 41 [.str s, .int .i64 e, .int .i64 b, .str w] h K ↔ K (.bool (if b = 0 then decide (e = 0 ∧ s = w) else decide (s = [] ∧ e = b))) h := by
  refine CallWp.iff_of (CallWp.fn (fn := C.a41) rfl rfl rfl ?_)
  unfold C.a41
  repeat' (with_reducible first | simp (disch := first | assumption | omega | (simp only [List.length_cons, List.length_nil, List.length_append, List.length_map, List.length_take, List.length_drop, List.length_replicate]; omega)) only [not_true_eq_false, not_false_eq_true, decide_true, decide_false, ↓reduceIte, Nat.reduceEqDiff, Nat.reduceAdd, Nat.reduceBEq, Wp.seq_iff, Wp.block_iff, Wp.skip_iff, Wp.ret_iff, Wp.exit_iff, Wp.cond_iff, Wp.nil_iff, Wp.op_iff, Wp.grd_iff, Wp.dreg_iff, Wp.dnil_iff, Wp.dop_iff, Wp.dgrd_iff, After, InBlock, Round, Then, DThen, DOp.some_iff, noted_n, noted_s, NoteK.ptr, List.all_nil, List.all_cons, fresh_eq, val_k, val_set, val_nil, put_some, put_none, enter_nil, enter_cons, List.map_cons, List.map_nil, Option.map_some, Option.map_none, resA_tmp, res0, res1, res2, res3, RetQ.ret, RetQ.nrm, ResK.iff, wanted_k, WantK.tt, WantK.tf, WantK.ft, WantK.ff, WantK.und, GrdK.t, GrdK.f, DGrd.t, DGrd.f, CondK.t, CondK.f, decide_nn, Bool.not_true, Bool.not_false, Bool.not_not, w_mv, PickK.t, PickK.f, w_pick, w_alloc, w_bin, w_un, cviA_int, w_cvi, cvsA_str, w_cvs, w_mkI, w_mkF, w_sls, slsK_lo, slsK_hi, slsK_lh, w_idxs, idxK_str, w_len, lenK_str, lenK_sl, lenK_nils, lenK_arr, w_ext, extK_0, extK_1, extK_2, w_fld, fldK_0, fldK_1, fldK_2, fldK_3, fldK_4, w_fadr, fadrK_ptr, w_iadr, iadrK_sl, w_iadrA, iadrAK_ptr, w_load, w_storeK, Some1.iff, Some2.iff, b_add, b_sub, b_mul, b_quoP, b_remP, b_eql, b_neq, b_lss, b_leq, b_gtr, b_geq, b_sadd, b_seql, b_sneq, b_inil, u_not, u_neg, wrap_i64, wrap_u64, wrap_u8, wrap_i32, w_mx2, w_mn2, max2A_int, min2A_int, cells_int, cells_bool, cells_str, cells_ptr, cells_sl, cells_nils, cells_fn, cells_agg, one_int, one_bool, one_str, one_ptr, one_sl, one_nils, one_fn, OpWp.callF_iff, OpWp.callV_iff, CallVK.fn, OpWp.inv_iff, CondK.posN, PickK.posN, WantK.posN_t, WantK.posN_f, CondK.pos, CondK.neg, PickK.pos, PickK.neg, WantK.pos_t, WantK.neg_t, WantK.pos_f, WantK.neg_f] | refine CondK.decN (fun hc => ?_) (fun hc => ?_) | refine GrdK.decN (fun hc => ?_) (fun hc => ?_) | refine PickK.decN (fun hc => ?_) (fun hc => ?_) | refine CondK.dec (fun hc => ?_) (fun hc => ?_) | refine GrdK.dec (fun hc => ?_) (fun hc => ?_) | refine PickK.dec (fun hc => ?_) (fun hc => ?_))
  all_goals simp_all
/-! The reference's readers of numbers. -/
theorem dig_of {b : UInt8} : isDig b = decide (¬ ((b.toNat : Int) < 48) ∧ ¬ (57 < (b.toNat : Int))) := by
  unfold isDig; congr 1; rw [eq_iff_iff]; omega
theorem c151 {s : List UInt8} (hs : s.length ≤ 1000000) : CallWp E2 151 [.str s] h K ↔ K (.bool (allDig s)) h := by
  refine CallWp.iff_of (CallWp.fn (fn := C.a151) rfl rfl rfl ?_)
  unfold C.a151
  simp (disch := first | assumption | omega | (simp only [List.length_cons, List.length_nil, List.length_append, List.length_map, List.length_take, List.length_drop, List.length_replicate]; omega)) only [not_true_eq_false, not_false_eq_true, decide_true, decide_false, ↓reduceIte, Nat.reduceEqDiff, Nat.reduceAdd, Nat.reduceBEq, Wp.seq_iff, Wp.block_iff, Wp.skip_iff, Wp.ret_iff, Wp.exit_iff, Wp.cond_iff, Wp.nil_iff, Wp.op_iff, Wp.grd_iff, Wp.dreg_iff, Wp.dnil_iff, Wp.dop_iff, Wp.dgrd_iff, After, InBlock, Round, Then, DThen, DOp.some_iff, noted_n, noted_s, NoteK.ptr, List.all_nil, List.all_cons, fresh_eq, val_k, val_set, val_nil, put_some, put_none, enter_nil, enter_cons, List.map_cons, List.map_nil, Option.map_some, Option.map_none, resA_tmp, res0, res1, res2, res3, RetQ.ret, RetQ.nrm, ResK.iff, wanted_k, WantK.tt, WantK.tf, WantK.ft, WantK.ff, WantK.und, GrdK.t, GrdK.f, DGrd.t, DGrd.f, CondK.t, CondK.f, decide_nn, Bool.not_true, Bool.not_false, Bool.not_not, w_mv, PickK.t, PickK.f, w_pick, w_alloc, w_bin, w_un, cviA_int, w_cvi, cvsA_str, w_cvs, w_mkI, w_mkF, w_sls, slsK_lo, slsK_hi, slsK_lh, w_idxs, idxK_str, w_len, lenK_str, lenK_sl, lenK_nils, lenK_arr, w_ext, extK_0, extK_1, extK_2, w_fld, fldK_0, fldK_1, fldK_2, fldK_3, fldK_4, w_fadr, fadrK_ptr, w_iadr, iadrK_sl, w_iadrA, iadrAK_ptr, w_load, w_storeK, Some1.iff, Some2.iff, b_add, b_sub, b_mul, b_quoP, b_remP, b_eql, b_neq, b_lss, b_leq, b_gtr, b_geq, b_sadd, b_seql, b_sneq, b_inil, u_not, u_neg, wrap_i64, wrap_u64, wrap_u8, wrap_i32, w_mx2, w_mn2, max2A_int, min2A_int, cells_int, cells_bool, cells_str, cells_ptr, cells_sl, cells_nils, cells_fn, cells_agg, one_int, one_bool, one_str, one_ptr, one_sl, one_nils, one_fn, OpWp.callF_iff, OpWp.callV_iff, CallVK.fn, OpWp.inv_iff, CondK.posN, PickK.posN, WantK.posN_t, WantK.posN_f, CondK.pos, CondK.neg, PickK.pos, PickK.neg, WantK.pos_t, WantK.neg_t, WantK.pos_f, WantK.neg_f]
  refine Wp.loopI (fun m st => ∃ i : Nat, val st.tm (.t 0) = .str s ∧ val st.tm (.t 3) = .int .i64 i ∧ st.hp = h ∧ i ≤ s.length ∧ allDig (s.take i) = true ∧ m = s.length - i) (n := s.length) ?_ ?_
  · exact ⟨0, by simp (disch := first | assumption | omega | (simp only [List.length_cons, List.length_nil, List.length_append, List.length_map, List.length_take, List.length_drop, List.length_replicate]; omega)) only [not_true_eq_false, not_false_eq_true, decide_true, decide_false, ↓reduceIte, Nat.reduceEqDiff, Nat.reduceAdd, Nat.reduceBEq, Wp.seq_iff, Wp.block_iff, Wp.skip_iff, Wp.ret_iff, Wp.exit_iff, Wp.cond_iff, Wp.nil_iff, Wp.op_iff, Wp.grd_iff, Wp.dreg_iff, Wp.dnil_iff, Wp.dop_iff, Wp.dgrd_iff, After, InBlock, Round, Then, DThen, DOp.some_iff, noted_n, noted_s, NoteK.ptr, List.all_nil, List.all_cons, fresh_eq, val_k, val_set, val_nil, put_some, put_none, enter_nil, enter_cons, List.map_cons, List.map_nil, Option.map_some, Option.map_none, resA_tmp, res0, res1, res2, res3, RetQ.ret, RetQ.nrm, ResK.iff, wanted_k, WantK.tt, WantK.tf, WantK.ft, WantK.ff, WantK.und, GrdK.t, GrdK.f, DGrd.t, DGrd.f, CondK.t, CondK.f, decide_nn, Bool.not_true, Bool.not_false, Bool.not_not, w_mv, PickK.t, PickK.f, w_pick, w_alloc, w_bin, w_un, cviA_int, w_cvi, cvsA_str, w_cvs, w_mkI, w_mkF, w_sls, slsK_lo, slsK_hi, slsK_lh, w_idxs, idxK_str, w_len, lenK_str, lenK_sl, lenK_nils, lenK_arr, w_ext, extK_0, extK_1, extK_2, w_fld, fldK_0, fldK_1, fldK_2, fldK_3, fldK_4, w_fadr, fadrK_ptr, w_iadr, iadrK_sl, w_iadrA, iadrAK_ptr, w_load, w_storeK, Some1.iff, Some2.iff, b_add, b_sub, b_mul, b_quoP, b_remP, b_eql, b_neq, b_lss, b_leq, b_gtr, b_geq, b_sadd, b_seql, b_sneq, b_inil, u_not, u_neg, wrap_i64, wrap_u64, wrap_u8, wrap_i32, w_mx2, w_mn2, max2A_int, min2A_int, cells_int, cells_bool, cells_str, cells_ptr, cells_sl, cells_nils, cells_fn, cells_agg, one_int, one_bool, one_str, one_ptr, one_sl, one_nils, one_fn, OpWp.callF_iff, OpWp.callV_iff, CallVK.fn, OpWp.inv_iff, CondK.posN, PickK.posN, WantK.posN_t, WantK.posN_f, CondK.pos, CondK.neg, PickK.pos, PickK.neg, WantK.pos_t, WantK.neg_t, WantK.pos_f, WantK.neg_f], by (simp (disch := first | assumption | omega | (simp only [List.length_cons, List.length_nil, List.length_append, List.length_map, List.length_take, List.length_drop, List.length_replicate]; omega)) only [not_true_eq_false, not_false_eq_true, decide_true, decide_false, ↓reduceIte, Nat.reduceEqDiff, Nat.reduceAdd, Nat.reduceBEq, Wp.seq_iff, Wp.block_iff, Wp.skip_iff, Wp.ret_iff, Wp.exit_iff, Wp.cond_iff, Wp.nil_iff, Wp.op_iff, Wp.grd_iff, Wp.dreg_iff, Wp.dnil_iff, Wp.dop_iff, Wp.dgrd_iff, After, InBlock, Round, Then, DThen, DOp.some_iff, noted_n, noted_s, NoteK.ptr, List.all_nil, List.all_cons, fresh_eq, val_k, val_set, val_nil, put_some, put_none, enter_nil, enter_cons, List.map_cons, List.map_nil, Option.map_some, Option.map_none, resA_tmp, res0, res1, res2, res3, RetQ.ret, RetQ.nrm, ResK.iff, wanted_k, WantK.tt, WantK.tf, WantK.ft, WantK.ff, WantK.und, GrdK.t, GrdK.f, DGrd.t, DGrd.f, CondK.t, CondK.f, decide_nn, Bool.not_true, Bool.not_false, Bool.not_not, w_mv, PickK.t, PickK.f, w_pick, w_alloc, w_bin, w_un, cviA_int, w_cvi, cvsA_str, w_cvs, w_mkI, w_mkF, w_sls, slsK_lo, slsK_hi, slsK_lh, w_idxs, idxK_str, w_len, lenK_str, lenK_sl, lenK_nils, lenK_arr, w_ext, extK_0, extK_1, extK_2, w_fld, fldK_0, fldK_1, fldK_2, fldK_3, fldK_4, w_fadr, fadrK_ptr, w_iadr, iadrK_sl, w_iadrA, iadrAK_ptr, w_load, w_storeK, Some1.iff, Some2.iff, b_add, b_sub, b_mul, b_quoP, b_remP, b_eql, b_neq, b_lss, b_leq, b_gtr, b_geq, b_sadd, b_seql, b_sneq, b_inil, u_not, u_neg, wrap_i64, wrap_u64, wrap_u8, wrap_i32, w_mx2, w_mn2, max2A_int, min2A_int, cells_int, cells_bool, cells_str, cells_ptr, cells_sl, cells_nils, cells_fn, cells_agg, one_int, one_bool, one_str, one_ptr, one_sl, one_nils, one_fn, OpWp.callF_iff, OpWp.callV_iff, CallVK.fn, OpWp.inv_iff, CondK.posN, PickK.posN, WantK.posN_t, WantK.posN_f, CondK.pos, CondK.neg, PickK.pos, PickK.neg, WantK.pos_t, WantK.neg_t, WantK.pos_f, WantK.neg_f]) <;> rfl, rfl, Nat.zero_le _, rfl, rfl⟩
  · rintro m ⟨tm, hp⟩ ⟨i, h0, h3, rfl, hi, had, rfl⟩
    simp only at h0 h3
    by_cases hlt : i < s.length
    · have hlt' : (i : Int) < s.length := by omega
      have htk : s.take (i + 1) = s.take i ++ [s.getD i 0] := by
        rw [List.take_add_one, List.getElem?_eq_getElem hlt, List.getD_eq_getElem?_getD, List.getElem?_eq_getElem hlt]; rfl
      have had' : allDig (s.take (i + 1)) = isDig (s.getD i 0) := by
        unfold allDig at *; rw [htk, List.all_append, had]; simp
      have hno : isDig (s.getD i 0) = false → allDig s = false := fun e => by
        rw [← had'] at e
        cases ha : allDig s with
        | false => rfl
        | true =>
          unfold allDig at *
          rw [List.all_eq_true] at ha
          rw [List.all_eq_false] at e
          obtain ⟨x, hx, hx'⟩ := e
          exact absurd (ha x (List.mem_of_mem_take hx)) hx'
      rw [dig_of] at hno had'
      repeat' (with_reducible first | simp (disch := first | assumption | omega | (simp only [List.length_cons, List.length_nil, List.length_append, List.length_map, List.length_take, List.length_drop, List.length_replicate]; omega)) only [not_true_eq_false, not_false_eq_true, decide_true, decide_false, ↓reduceIte, Nat.reduceEqDiff, Nat.reduceAdd, Nat.reduceBEq, Wp.seq_iff, Wp.block_iff, Wp.skip_iff, Wp.ret_iff, Wp.exit_iff, Wp.cond_iff, Wp.nil_iff, Wp.op_iff, Wp.grd_iff, Wp.dreg_iff, Wp.dnil_iff, Wp.dop_iff, Wp.dgrd_iff, After, InBlock, Round, Then, DThen, DOp.some_iff, noted_n, noted_s, NoteK.ptr, List.all_nil, List.all_cons, fresh_eq, val_k, val_set, val_nil, put_some, put_none, enter_nil, enter_cons, List.map_cons, List.map_nil, Option.map_some, Option.map_none, resA_tmp, res0, res1, res2, res3, RetQ.ret, RetQ.nrm, ResK.iff, wanted_k, WantK.tt, WantK.tf, WantK.ft, WantK.ff, WantK.und, GrdK.t, GrdK.f, DGrd.t, DGrd.f, CondK.t, CondK.f, decide_nn, Bool.not_true, Bool.not_false, Bool.not_not, w_mv, PickK.t, PickK.f, w_pick, w_alloc, w_bin, w_un, cviA_int, w_cvi, cvsA_str, w_cvs, w_mkI, w_mkF, w_sls, slsK_lo, slsK_hi, slsK_lh, w_idxs, idxK_str, w_len, lenK_str, lenK_sl, lenK_nils, lenK_arr, w_ext, extK_0, extK_1, extK_2, w_fld, fldK_0, fldK_1, fldK_2, fldK_3, fldK_4, w_fadr, fadrK_ptr, w_iadr, iadrK_sl, w_iadrA, iadrAK_ptr, w_load, w_storeK, Some1.iff, Some2.iff, b_add, b_sub, b_mul, b_quoP, b_remP, b_eql, b_neq, b_lss, b_leq, b_gtr, b_geq, b_sadd, b_seql, b_sneq, b_inil, u_not, u_neg, wrap_i64, wrap_u64, wrap_u8, wrap_i32, w_mx2, w_mn2, max2A_int, min2A_int, cells_int, cells_bool, cells_str, cells_ptr, cells_sl, cells_nils, cells_fn, cells_agg, one_int, one_bool, one_str, one_ptr, one_sl, one_nils, one_fn, OpWp.callF_iff, OpWp.callV_iff, CallVK.fn, OpWp.inv_iff, CondK.posN, PickK.posN, WantK.posN_t, WantK.posN_f, CondK.pos, CondK.neg, PickK.pos, PickK.neg, WantK.pos_t, WantK.neg_t, WantK.pos_f, WantK.neg_f, h0, h3, Int.toNat_natCast] | refine CondK.decN (fun hc => ?_) (fun hc => ?_) | refine GrdK.decN (fun hc => ?_) (fun hc => ?_) | refine PickK.decN (fun hc => ?_) (fun hc => ?_) | refine CondK.dec (fun hc => ?_) (fun hc => ?_) | refine GrdK.dec (fun hc => ?_) (fun hc => ?_) | refine PickK.dec (fun hc => ?_) (fun hc => ?_))
      · rw [hno (by simp_all)]; simp
      · rw [hno (by simp_all)]; simp
      · refine ⟨_, ?_, i + 1, ?_, ?_, trivial, by omega, ?_, rfl⟩
        · omega
        · first | exact h0 | trivial
        · first | rfl | trivial
        · rw [had']; simp_all
    · have hlt' : ¬ (i : Int) < s.length := by omega
      repeat' (with_reducible first | simp (disch := first | assumption | omega | (simp only [List.length_cons, List.length_nil, List.length_append, List.length_map, List.length_take, List.length_drop, List.length_replicate]; omega)) only [not_true_eq_false, not_false_eq_true, decide_true, decide_false, ↓reduceIte, Nat.reduceEqDiff, Nat.reduceAdd, Nat.reduceBEq, Wp.seq_iff, Wp.block_iff, Wp.skip_iff, Wp.ret_iff, Wp.exit_iff, Wp.cond_iff, Wp.nil_iff, Wp.op_iff, Wp.grd_iff, Wp.dreg_iff, Wp.dnil_iff, Wp.dop_iff, Wp.dgrd_iff, After, InBlock, Round, Then, DThen, DOp.some_iff, noted_n, noted_s, NoteK.ptr, List.all_nil, List.all_cons, fresh_eq, val_k, val_set, val_nil, put_some, put_none, enter_nil, enter_cons, List.map_cons, List.map_nil, Option.map_some, Option.map_none, resA_tmp, res0, res1, res2, res3, RetQ.ret, RetQ.nrm, ResK.iff, wanted_k, WantK.tt, WantK.tf, WantK.ft, WantK.ff, WantK.und, GrdK.t, GrdK.f, DGrd.t, DGrd.f, CondK.t, CondK.f, decide_nn, Bool.not_true, Bool.not_false, Bool.not_not, w_mv, PickK.t, PickK.f, w_pick, w_alloc, w_bin, w_un, cviA_int, w_cvi, cvsA_str, w_cvs, w_mkI, w_mkF, w_sls, slsK_lo, slsK_hi, slsK_lh, w_idxs, idxK_str, w_len, lenK_str, lenK_sl, lenK_nils, lenK_arr, w_ext, extK_0, extK_1, extK_2, w_fld, fldK_0, fldK_1, fldK_2, fldK_3, fldK_4, w_fadr, fadrK_ptr, w_iadr, iadrK_sl, w_iadrA, iadrAK_ptr, w_load, w_storeK, Some1.iff, Some2.iff, b_add, b_sub, b_mul, b_quoP, b_remP, b_eql, b_neq, b_lss, b_leq, b_gtr, b_geq, b_sadd, b_seql, b_sneq, b_inil, u_not, u_neg, wrap_i64, wrap_u64, wrap_u8, wrap_i32, w_mx2, w_mn2, max2A_int, min2A_int, cells_int, cells_bool, cells_str, cells_ptr, cells_sl, cells_nils, cells_fn, cells_agg, one_int, one_bool, one_str, one_ptr, one_sl, one_nils, one_fn, OpWp.callF_iff, OpWp.callV_iff, CallVK.fn, OpWp.inv_iff, CondK.posN, PickK.posN, WantK.posN_t, WantK.posN_f, CondK.pos, CondK.neg, PickK.pos, PickK.neg, WantK.pos_t, WantK.neg_t, WantK.pos_f, WantK.neg_f, h0, h3] | refine CondK.decN (fun hc => ?_) (fun hc => ?_) | refine GrdK.decN (fun hc => ?_) (fun hc => ?_) | refine PickK.decN (fun hc => ?_) (fun hc => ?_) | refine CondK.dec (fun hc => ?_) (fun hc => ?_) | refine GrdK.dec (fun hc => ?_) (fun hc => ?_) | refine PickK.dec (fun hc => ?_) (fun hc => ?_))
      rw [List.take_of_length_le (by omega)] at had
      rw [had]; simp
theorem c153 {s : List UInt8} (hd : allDig s = true) (hs : s.length ≤ 18) : CallWp E2 153 [.str s] h K ↔ K (.int .i64 (decV s)) h := by
  refine CallWp.iff_of (CallWp.fn (fn := C.a153) rfl rfl rfl ?_)
  unfold C.a153
  simp (disch := first | assumption | omega | (simp only [List.length_cons, List.length_nil, List.length_append, List.length_map, List.length_take, List.length_drop, List.length_replicate]; omega)) only [not_true_eq_false, not_false_eq_true, decide_true, decide_false, ↓reduceIte, Nat.reduceEqDiff, Nat.reduceAdd, Nat.reduceBEq, Wp.seq_iff, Wp.block_iff, Wp.skip_iff, Wp.ret_iff, Wp.exit_iff, Wp.cond_iff, Wp.nil_iff, Wp.op_iff, Wp.grd_iff, Wp.dreg_iff, Wp.dnil_iff, Wp.dop_iff, Wp.dgrd_iff, After, InBlock, Round, Then, DThen, DOp.some_iff, noted_n, noted_s, NoteK.ptr, List.all_nil, List.all_cons, fresh_eq, val_k, val_set, val_nil, put_some, put_none, enter_nil, enter_cons, List.map_cons, List.map_nil, Option.map_some, Option.map_none, resA_tmp, res0, res1, res2, res3, RetQ.ret, RetQ.nrm, ResK.iff, wanted_k, WantK.tt, WantK.tf, WantK.ft, WantK.ff, WantK.und, GrdK.t, GrdK.f, DGrd.t, DGrd.f, CondK.t, CondK.f, decide_nn, Bool.not_true, Bool.not_false, Bool.not_not, w_mv, PickK.t, PickK.f, w_pick, w_alloc, w_bin, w_un, cviA_int, w_cvi, cvsA_str, w_cvs, w_mkI, w_mkF, w_sls, slsK_lo, slsK_hi, slsK_lh, w_idxs, idxK_str, w_len, lenK_str, lenK_sl, lenK_nils, lenK_arr, w_ext, extK_0, extK_1, extK_2, w_fld, fldK_0, fldK_1, fldK_2, fldK_3, fldK_4, w_fadr, fadrK_ptr, w_iadr, iadrK_sl, w_iadrA, iadrAK_ptr, w_load, w_storeK, Some1.iff, Some2.iff, b_add, b_sub, b_mul, b_quoP, b_remP, b_eql, b_neq, b_lss, b_leq, b_gtr, b_geq, b_sadd, b_seql, b_sneq, b_inil, u_not, u_neg, wrap_i64, wrap_u64, wrap_u8, wrap_i32, w_mx2, w_mn2, max2A_int, min2A_int, cells_int, cells_bool, cells_str, cells_ptr, cells_sl, cells_nils, cells_fn, cells_agg, one_int, one_bool, one_str, one_ptr, one_sl, one_nils, one_fn, OpWp.callF_iff, OpWp.callV_iff, CallVK.fn, OpWp.inv_iff, CondK.posN, PickK.posN, WantK.posN_t, WantK.posN_f, CondK.pos, CondK.neg, PickK.pos, PickK.neg, WantK.pos_t, WantK.neg_t, WantK.pos_f, WantK.neg_f]
  refine Wp.loopI (fun m st => ∃ i : Nat, val st.tm (.t 0) = .str s ∧ val st.tm (.t 4) = .int .i64 i ∧ val st.tm (.t 3) = .int .i64 (decV (s.take i)) ∧ st.hp = h ∧ i ≤ s.length ∧ m = s.length - i) (n := s.length) ?_ ?_
  · exact ⟨0, by simp (disch := first | assumption | omega | (simp only [List.length_cons, List.length_nil, List.length_append, List.length_map, List.length_take, List.length_drop, List.length_replicate]; omega)) only [not_true_eq_false, not_false_eq_true, decide_true, decide_false, ↓reduceIte, Nat.reduceEqDiff, Nat.reduceAdd, Nat.reduceBEq, Wp.seq_iff, Wp.block_iff, Wp.skip_iff, Wp.ret_iff, Wp.exit_iff, Wp.cond_iff, Wp.nil_iff, Wp.op_iff, Wp.grd_iff, Wp.dreg_iff, Wp.dnil_iff, Wp.dop_iff, Wp.dgrd_iff, After, InBlock, Round, Then, DThen, DOp.some_iff, noted_n, noted_s, NoteK.ptr, List.all_nil, List.all_cons, fresh_eq, val_k, val_set, val_nil, put_some, put_none, enter_nil, enter_cons, List.map_cons, List.map_nil, Option.map_some, Option.map_none, resA_tmp, res0, res1, res2, res3, RetQ.ret, RetQ.nrm, ResK.iff, wanted_k, WantK.tt, WantK.tf, WantK.ft, WantK.ff, WantK.und, GrdK.t, GrdK.f, DGrd.t, DGrd.f, CondK.t, CondK.f, decide_nn, Bool.not_true, Bool.not_false, Bool.not_not, w_mv, PickK.t, PickK.f, w_pick, w_alloc, w_bin, w_un, cviA_int, w_cvi, cvsA_str, w_cvs, w_mkI, w_mkF, w_sls, slsK_lo, slsK_hi, slsK_lh, w_idxs, idxK_str, w_len, lenK_str, lenK_sl, lenK_nils, lenK_arr, w_ext, extK_0, extK_1, extK_2, w_fld, fldK_0, fldK_1, fldK_2, fldK_3, fldK_4, w_fadr, fadrK_ptr, w_iadr, iadrK_sl, w_iadrA, iadrAK_ptr, w_load, w_storeK, Some1.iff, Some2.iff, b_add, b_sub, b_mul, b_quoP, b_remP, b_eql, b_neq, b_lss, b_leq, b_gtr, b_geq, b_sadd, b_seql, b_sneq, b_inil, u_not, u_neg, wrap_i64, wrap_u64, wrap_u8, wrap_i32, w_mx2, w_mn2, max2A_int, min2A_int, cells_int, cells_bool, cells_str, cells_ptr, cells_sl, cells_nils, cells_fn, cells_agg, one_int, one_bool, one_str, one_ptr, one_sl, one_nils, one_fn, OpWp.callF_iff, OpWp.callV_iff, CallVK.fn, OpWp.inv_iff, CondK.posN, PickK.posN, WantK.posN_t, WantK.posN_f, CondK.pos, CondK.neg, PickK.pos, PickK.neg, WantK.pos_t, WantK.neg_t, WantK.pos_f, WantK.neg_f], by (simp (disch := first | assumption | omega | (simp only [List.length_cons, List.length_nil, List.length_append, List.length_map, List.length_take, List.length_drop, List.length_replicate]; omega)) only [not_true_eq_false, not_false_eq_true, decide_true, decide_false, ↓reduceIte, Nat.reduceEqDiff, Nat.reduceAdd, Nat.reduceBEq, Wp.seq_iff, Wp.block_iff, Wp.skip_iff, Wp.ret_iff, Wp.exit_iff, Wp.cond_iff, Wp.nil_iff, Wp.op_iff, Wp.grd_iff, Wp.dreg_iff, Wp.dnil_iff, Wp.dop_iff, Wp.dgrd_iff, After, InBlock, Round, Then, DThen, DOp.some_iff, noted_n, noted_s, NoteK.ptr, List.all_nil, List.all_cons, fresh_eq, val_k, val_set, val_nil, put_some, put_none, enter_nil, enter_cons, List.map_cons, List.map_nil, Option.map_some, Option.map_none, resA_tmp, res0, res1, res2, res3, RetQ.ret, RetQ.nrm, ResK.iff, wanted_k, WantK.tt, WantK.tf, WantK.ft, WantK.ff, WantK.und, GrdK.t, GrdK.f, DGrd.t, DGrd.f, CondK.t, CondK.f, decide_nn, Bool.not_true, Bool.not_false, Bool.not_not, w_mv, PickK.t, PickK.f, w_pick, w_alloc, w_bin, w_un, cviA_int, w_cvi, cvsA_str, w_cvs, w_mkI, w_mkF, w_sls, slsK_lo, slsK_hi, slsK_lh, w_idxs, idxK_str, w_len, lenK_str, lenK_sl, lenK_nils, lenK_arr, w_ext, extK_0, extK_1, extK_2, w_fld, fldK_0, fldK_1, fldK_2, fldK_3, fldK_4, w_fadr, fadrK_ptr, w_iadr, iadrK_sl, w_iadrA, iadrAK_ptr, w_load, w_storeK, Some1.iff, Some2.iff, b_add, b_sub, b_mul, b_quoP, b_remP, b_eql, b_neq, b_lss, b_leq, b_gtr, b_geq, b_sadd, b_seql, b_sneq, b_inil, u_not, u_neg, wrap_i64, wrap_u64, wrap_u8, wrap_i32, w_mx2, w_mn2, max2A_int, min2A_int, cells_int, cells_bool, cells_str, cells_ptr, cells_sl, cells_nils, cells_fn, cells_agg, one_int, one_bool, one_str, one_ptr, one_sl, one_nils, one_fn, OpWp.callF_iff, OpWp.callV_iff, CallVK.fn, OpWp.inv_iff, CondK.posN, PickK.posN, WantK.posN_t, WantK.posN_f, CondK.pos, CondK.neg, PickK.pos, PickK.neg, WantK.pos_t, WantK.neg_t, WantK.pos_f, WantK.neg_f]) <;> rfl, by (simp (disch := first | assumption | omega | (simp only [List.length_cons, List.length_nil, List.length_append, List.length_map, List.length_take, List.length_drop, List.length_replicate]; omega)) only [not_true_eq_false, not_false_eq_true, decide_true, decide_false, ↓reduceIte, Nat.reduceEqDiff, Nat.reduceAdd, Nat.reduceBEq, Wp.seq_iff, Wp.block_iff, Wp.skip_iff, Wp.ret_iff, Wp.exit_iff, Wp.cond_iff, Wp.nil_iff, Wp.op_iff, Wp.grd_iff, Wp.dreg_iff, Wp.dnil_iff, Wp.dop_iff, Wp.dgrd_iff, After, InBlock, Round, Then, DThen, DOp.some_iff, noted_n, noted_s, NoteK.ptr, List.all_nil, List.all_cons, fresh_eq, val_k, val_set, val_nil, put_some, put_none, enter_nil, enter_cons, List.map_cons, List.map_nil, Option.map_some, Option.map_none, resA_tmp, res0, res1, res2, res3, RetQ.ret, RetQ.nrm, ResK.iff, wanted_k, WantK.tt, WantK.tf, WantK.ft, WantK.ff, WantK.und, GrdK.t, GrdK.f, DGrd.t, DGrd.f, CondK.t, CondK.f, decide_nn, Bool.not_true, Bool.not_false, Bool.not_not, w_mv, PickK.t, PickK.f, w_pick, w_alloc, w_bin, w_un, cviA_int, w_cvi, cvsA_str, w_cvs, w_mkI, w_mkF, w_sls, slsK_lo, slsK_hi, slsK_lh, w_idxs, idxK_str, w_len, lenK_str, lenK_sl, lenK_nils, lenK_arr, w_ext, extK_0, extK_1, extK_2, w_fld, fldK_0, fldK_1, fldK_2, fldK_3, fldK_4, w_fadr, fadrK_ptr, w_iadr, iadrK_sl, w_iadrA, iadrAK_ptr, w_load, w_storeK, Some1.iff, Some2.iff, b_add, b_sub, b_mul, b_quoP, b_remP, b_eql, b_neq, b_lss, b_leq, b_gtr, b_geq, b_sadd, b_seql, b_sneq, b_inil, u_not, u_neg, wrap_i64, wrap_u64, wrap_u8, wrap_i32, w_mx2, w_mn2, max2A_int, min2A_int, cells_int, cells_bool, cells_str, cells_ptr, cells_sl, cells_nils, cells_fn, cells_agg, one_int, one_bool, one_str, one_ptr, one_sl, one_nils, one_fn, OpWp.callF_iff, OpWp.callV_iff, CallVK.fn, OpWp.inv_iff, CondK.posN, PickK.posN, WantK.posN_t, WantK.posN_f, CondK.pos, CondK.neg, PickK.pos, PickK.neg, WantK.pos_t, WantK.neg_t, WantK.pos_f, WantK.neg_f]) <;> rfl, rfl, Nat.zero_le _, rfl⟩
  · rintro m ⟨tm, hp⟩ ⟨i, h0, h4, h3, rfl, hi, rfl⟩
    simp only at h0 h3 h4
    by_cases hlt : i < s.length
    · have hlt' : (i : Int) < s.length := by omega
      have htk : s.take (i + 1) = s.take i ++ [s.getD i 0] := by
        rw [List.take_add_one, List.getElem?_eq_getElem hlt, List.getD_eq_getElem?_getD, List.getElem?_eq_getElem hlt]; rfl
      have hdi : 48 ≤ (s.getD i 0).toNat ∧ (s.getD i 0).toNat ≤ 57 := by
        have : isDig (s.getD i 0) = true := by
          unfold allDig at hd; rw [List.all_eq_true] at hd
          rw [List.getD_eq_getElem?_getD, List.getElem?_eq_getElem hlt]
          exact hd _ (List.getElem_mem hlt)
        simpa [isDig] using this
      have hv : decV (s.take (i + 1)) = decV (s.take i) * 10 + ((s.getD i 0).toNat - 48) := by
        unfold decV decF; rw [htk, List.foldl_append]; rfl
      have hb : decV (s.take i) < 10 ^ 17 := by
        have h1 := decV_lt (l := s.take i) (by unfold allDig at *; rw [List.all_eq_true] at *; exact fun x hx => hd x (List.mem_of_mem_take hx))
        exact Nat.lt_of_lt_of_le h1 (Nat.pow_le_pow_right (by decide) (by rw [List.length_take]; omega))
      repeat' (with_reducible first | simp (disch := first | assumption | omega | (simp only [List.length_cons, List.length_nil, List.length_append, List.length_map, List.length_take, List.length_drop, List.length_replicate]; omega)) only [not_true_eq_false, not_false_eq_true, decide_true, decide_false, ↓reduceIte, Nat.reduceEqDiff, Nat.reduceAdd, Nat.reduceBEq, Wp.seq_iff, Wp.block_iff, Wp.skip_iff, Wp.ret_iff, Wp.exit_iff, Wp.cond_iff, Wp.nil_iff, Wp.op_iff, Wp.grd_iff, Wp.dreg_iff, Wp.dnil_iff, Wp.dop_iff, Wp.dgrd_iff, After, InBlock, Round, Then, DThen, DOp.some_iff, noted_n, noted_s, NoteK.ptr, List.all_nil, List.all_cons, fresh_eq, val_k, val_set, val_nil, put_some, put_none, enter_nil, enter_cons, List.map_cons, List.map_nil, Option.map_some, Option.map_none, resA_tmp, res0, res1, res2, res3, RetQ.ret, RetQ.nrm, ResK.iff, wanted_k, WantK.tt, WantK.tf, WantK.ft, WantK.ff, WantK.und, GrdK.t, GrdK.f, DGrd.t, DGrd.f, CondK.t, CondK.f, decide_nn, Bool.not_true, Bool.not_false, Bool.not_not, w_mv, PickK.t, PickK.f, w_pick, w_alloc, w_bin, w_un, cviA_int, w_cvi, cvsA_str, w_cvs, w_mkI, w_mkF, w_sls, slsK_lo, slsK_hi, slsK_lh, w_idxs, idxK_str, w_len, lenK_str, lenK_sl, lenK_nils, lenK_arr, w_ext, extK_0, extK_1, extK_2, w_fld, fldK_0, fldK_1, fldK_2, fldK_3, fldK_4, w_fadr, fadrK_ptr, w_iadr, iadrK_sl, w_iadrA, iadrAK_ptr, w_load, w_storeK, Some1.iff, Some2.iff, b_add, b_sub, b_mul, b_quoP, b_remP, b_eql, b_neq, b_lss, b_leq, b_gtr, b_geq, b_sadd, b_seql, b_sneq, b_inil, u_not, u_neg, wrap_i64, wrap_u64, wrap_u8, wrap_i32, w_mx2, w_mn2, max2A_int, min2A_int, cells_int, cells_bool, cells_str, cells_ptr, cells_sl, cells_nils, cells_fn, cells_agg, one_int, one_bool, one_str, one_ptr, one_sl, one_nils, one_fn, OpWp.callF_iff, OpWp.callV_iff, CallVK.fn, OpWp.inv_iff, CondK.posN, PickK.posN, WantK.posN_t, WantK.posN_f, CondK.pos, CondK.neg, PickK.pos, PickK.neg, WantK.pos_t, WantK.neg_t, WantK.pos_f, WantK.neg_f, h0, h3, h4, Int.toNat_natCast] | refine CondK.decN (fun hc => ?_) (fun hc => ?_) | refine GrdK.decN (fun hc => ?_) (fun hc => ?_) | refine PickK.decN (fun hc => ?_) (fun hc => ?_) | refine CondK.dec (fun hc => ?_) (fun hc => ?_) | refine GrdK.dec (fun hc => ?_) (fun hc => ?_) | refine PickK.dec (fun hc => ?_) (fun hc => ?_))
      refine ⟨_, ?_, i + 1, ?_, ?_, ?_, trivial, by omega, rfl⟩
      · omega
      · first | exact h0 | trivial
      · first | rfl | trivial
      · rw [hv]
        congr 1; omega
    · have hlt' : ¬ (i : Int) < s.length := by omega
      repeat' (with_reducible first | simp (disch := first | assumption | omega | (simp only [List.length_cons, List.length_nil, List.length_append, List.length_map, List.length_take, List.length_drop, List.length_replicate]; omega)) only [not_true_eq_false, not_false_eq_true, decide_true, decide_false, ↓reduceIte, Nat.reduceEqDiff, Nat.reduceAdd, Nat.reduceBEq, Wp.seq_iff, Wp.block_iff, Wp.skip_iff, Wp.ret_iff, Wp.exit_iff, Wp.cond_iff, Wp.nil_iff, Wp.op_iff, Wp.grd_iff, Wp.dreg_iff, Wp.dnil_iff, Wp.dop_iff, Wp.dgrd_iff, After, InBlock, Round, Then, DThen, DOp.some_iff, noted_n, noted_s, NoteK.ptr, List.all_nil, List.all_cons, fresh_eq, val_k, val_set, val_nil, put_some, put_none, enter_nil, enter_cons, List.map_cons, List.map_nil, Option.map_some, Option.map_none, resA_tmp, res0, res1, res2, res3, RetQ.ret, RetQ.nrm, ResK.iff, wanted_k, WantK.tt, WantK.tf, WantK.ft, WantK.ff, WantK.und, GrdK.t, GrdK.f, DGrd.t, DGrd.f, CondK.t, CondK.f, decide_nn, Bool.not_true, Bool.not_false, Bool.not_not, w_mv, PickK.t, PickK.f, w_pick, w_alloc, w_bin, w_un, cviA_int, w_cvi, cvsA_str, w_cvs, w_mkI, w_mkF, w_sls, slsK_lo, slsK_hi, slsK_lh, w_idxs, idxK_str, w_len, lenK_str, lenK_sl, lenK_nils, lenK_arr, w_ext, extK_0, extK_1, extK_2, w_fld, fldK_0, fldK_1, fldK_2, fldK_3, fldK_4, w_fadr, fadrK_ptr, w_iadr, iadrK_sl, w_iadrA, iadrAK_ptr, w_load, w_storeK, Some1.iff, Some2.iff, b_add, b_sub, b_mul, b_quoP, b_remP, b_eql, b_neq, b_lss, b_leq, b_gtr, b_geq, b_sadd, b_seql, b_sneq, b_inil, u_not, u_neg, wrap_i64, wrap_u64, wrap_u8, wrap_i32, w_mx2, w_mn2, max2A_int, min2A_int, cells_int, cells_bool, cells_str, cells_ptr, cells_sl, cells_nils, cells_fn, cells_agg, one_int, one_bool, one_str, one_ptr, one_sl, one_nils, one_fn, OpWp.callF_iff, OpWp.callV_iff, CallVK.fn, OpWp.inv_iff, CondK.posN, PickK.posN, WantK.posN_t, WantK.posN_f, CondK.pos, CondK.neg, PickK.pos, PickK.neg, WantK.pos_t, WantK.neg_t, WantK.pos_f, WantK.neg_f, h0, h3, h4] | refine CondK.decN (fun hc => ?_) (fun hc => ?_) | refine GrdK.decN (fun hc => ?_) (fun hc => ?_) | refine PickK.decN (fun hc => ?_) (fun hc => ?_) | refine CondK.dec (fun hc => ?_) (fun hc => ?_) | refine GrdK.dec (fun hc => ?_) (fun hc => ?_) | refine PickK.dec (fun hc => ?_) (fun hc => ?_))
      rw [List.take_of_length_le (by omega)]
      exact ⟨rfl, trivial⟩
theorem c152 {s : List UInt8} (hs : s.length ≤ 1000000) : CallWp E2 152 [.str s] h K ↔ K (.tup [.int .i64 (intV s).1, .bool (intV s).2]) h := by
  refine CallWp.iff_of (CallWp.fn (fn := C.a152) rfl rfl rfl ?_)
  unfold C.a152
  have hdec : isDec s = (decide (s ≠ []) && allDig s && (decide (s.headD 0 ≠ 48) || decide (s = [48]))) := rfl
  cases s with
  | nil =>
    repeat' (with_reducible first | simp (disch := first | assumption | omega | (simp only [List.length_cons, List.length_nil, List.length_append, List.length_map, List.length_take, List.length_drop, List.length_replicate]; omega)) only [not_true_eq_false, not_false_eq_true, decide_true, decide_false, ↓reduceIte, Nat.reduceEqDiff, Nat.reduceAdd, Nat.reduceBEq, Wp.seq_iff, Wp.block_iff, Wp.skip_iff, Wp.ret_iff, Wp.exit_iff, Wp.cond_iff, Wp.nil_iff, Wp.op_iff, Wp.grd_iff, Wp.dreg_iff, Wp.dnil_iff, Wp.dop_iff, Wp.dgrd_iff, After, InBlock, Round, Then, DThen, DOp.some_iff, noted_n, noted_s, NoteK.ptr, List.all_nil, List.all_cons, fresh_eq, val_k, val_set, val_nil, put_some, put_none, enter_nil, enter_cons, List.map_cons, List.map_nil, Option.map_some, Option.map_none, resA_tmp, res0, res1, res2, res3, RetQ.ret, RetQ.nrm, ResK.iff, wanted_k, WantK.tt, WantK.tf, WantK.ft, WantK.ff, WantK.und, GrdK.t, GrdK.f, DGrd.t, DGrd.f, CondK.t, CondK.f, decide_nn, Bool.not_true, Bool.not_false, Bool.not_not, w_mv, PickK.t, PickK.f, w_pick, w_alloc, w_bin, w_un, cviA_int, w_cvi, cvsA_str, w_cvs, w_mkI, w_mkF, w_sls, slsK_lo, slsK_hi, slsK_lh, w_idxs, idxK_str, w_len, lenK_str, lenK_sl, lenK_nils, lenK_arr, w_ext, extK_0, extK_1, extK_2, w_fld, fldK_0, fldK_1, fldK_2, fldK_3, fldK_4, w_fadr, fadrK_ptr, w_iadr, iadrK_sl, w_iadrA, iadrAK_ptr, w_load, w_storeK, Some1.iff, Some2.iff, b_add, b_sub, b_mul, b_quoP, b_remP, b_eql, b_neq, b_lss, b_leq, b_gtr, b_geq, b_sadd, b_seql, b_sneq, b_inil, u_not, u_neg, wrap_i64, wrap_u64, wrap_u8, wrap_i32, w_mx2, w_mn2, max2A_int, min2A_int, cells_int, cells_bool, cells_str, cells_ptr, cells_sl, cells_nils, cells_fn, cells_agg, one_int, one_bool, one_str, one_ptr, one_sl, one_nils, one_fn, OpWp.callF_iff, OpWp.callV_iff, CallVK.fn, OpWp.inv_iff, CondK.posN, PickK.posN, WantK.posN_t, WantK.posN_f, CondK.pos, CondK.neg, PickK.pos, PickK.neg, WantK.pos_t, WantK.neg_t, WantK.pos_f, WantK.neg_f] | refine CondK.decN (fun hc => ?_) (fun hc => ?_) | refine GrdK.decN (fun hc => ?_) (fun hc => ?_) | refine PickK.decN (fun hc => ?_) (fun hc => ?_) | refine CondK.dec (fun hc => ?_) (fun hc => ?_) | refine GrdK.dec (fun hc => ?_) (fun hc => ?_) | refine PickK.dec (fun hc => ?_) (fun hc => ?_))
    simp [intV, isDec]
  | cons b r =>
    have hb : (b.toNat : Int) = 48 ↔ b = 48 := by
      constructor
      · intro e; exact UInt8.toNat_inj.1 (by simpa using Int.ofNat.inj e)
      · rintro rfl; rfl
    have hl : 0 < (b :: r).length := by simp
    have hl1 : r = [] ↔ ¬ 1 < (b :: r).length := by cases r <;> simp
    cases hd : allDig (b :: r) with
    | false =>
      repeat' (with_reducible first | simp (disch := first | assumption | omega | (simp only [List.length_cons, List.length_nil, List.length_append, List.length_map, List.length_take, List.length_drop, List.length_replicate]; omega)) only [not_true_eq_false, not_false_eq_true, decide_true, decide_false, ↓reduceIte, Nat.reduceEqDiff, Nat.reduceAdd, Nat.reduceBEq, Wp.seq_iff, Wp.block_iff, Wp.skip_iff, Wp.ret_iff, Wp.exit_iff, Wp.cond_iff, Wp.nil_iff, Wp.op_iff, Wp.grd_iff, Wp.dreg_iff, Wp.dnil_iff, Wp.dop_iff, Wp.dgrd_iff, After, InBlock, Round, Then, DThen, DOp.some_iff, noted_n, noted_s, NoteK.ptr, List.all_nil, List.all_cons, fresh_eq, val_k, val_set, val_nil, put_some, put_none, enter_nil, enter_cons, List.map_cons, List.map_nil, Option.map_some, Option.map_none, resA_tmp, res0, res1, res2, res3, RetQ.ret, RetQ.nrm, ResK.iff, wanted_k, WantK.tt, WantK.tf, WantK.ft, WantK.ff, WantK.und, GrdK.t, GrdK.f, DGrd.t, DGrd.f, CondK.t, CondK.f, decide_nn, Bool.not_true, Bool.not_false, Bool.not_not, w_mv, PickK.t, PickK.f, w_pick, w_alloc, w_bin, w_un, cviA_int, w_cvi, cvsA_str, w_cvs, w_mkI, w_mkF, w_sls, slsK_lo, slsK_hi, slsK_lh, w_idxs, idxK_str, w_len, lenK_str, lenK_sl, lenK_nils, lenK_arr, w_ext, extK_0, extK_1, extK_2, w_fld, fldK_0, fldK_1, fldK_2, fldK_3, fldK_4, w_fadr, fadrK_ptr, w_iadr, iadrK_sl, w_iadrA, iadrAK_ptr, w_load, w_storeK, Some1.iff, Some2.iff, b_add, b_sub, b_mul, b_quoP, b_remP, b_eql, b_neq, b_lss, b_leq, b_gtr, b_geq, b_sadd, b_seql, b_sneq, b_inil, u_not, u_neg, wrap_i64, wrap_u64, wrap_u8, wrap_i32, w_mx2, w_mn2, max2A_int, min2A_int, cells_int, cells_bool, cells_str, cells_ptr, cells_sl, cells_nils, cells_fn, cells_agg, one_int, one_bool, one_str, one_ptr, one_sl, one_nils, one_fn, OpWp.callF_iff, OpWp.callV_iff, CallVK.fn, OpWp.inv_iff, CondK.posN, PickK.posN, WantK.posN_t, WantK.posN_f, CondK.pos, CondK.neg, PickK.pos, PickK.neg, WantK.pos_t, WantK.neg_t, WantK.pos_f, WantK.neg_f, c151, hd] | refine CondK.decN (fun hc => ?_) (fun hc => ?_) | refine GrdK.decN (fun hc => ?_) (fun hc => ?_) | refine PickK.decN (fun hc => ?_) (fun hc => ?_) | refine CondK.dec (fun hc => ?_) (fun hc => ?_) | refine GrdK.dec (fun hc => ?_) (fun hc => ?_) | refine PickK.dec (fun hc => ?_) (fun hc => ?_))
      all_goals simp [intV, hdec, hd]
    | true =>
      by_cases h9 : (b :: r).length ≤ 9
      · repeat' (with_reducible first | simp (disch := first | assumption | omega | (simp only [List.length_cons, List.length_nil, List.length_append, List.length_map, List.length_take, List.length_drop, List.length_replicate]; omega)) only [not_true_eq_false, not_false_eq_true, decide_true, decide_false, ↓reduceIte, Nat.reduceEqDiff, Nat.reduceAdd, Nat.reduceBEq, Wp.seq_iff, Wp.block_iff, Wp.skip_iff, Wp.ret_iff, Wp.exit_iff, Wp.cond_iff, Wp.nil_iff, Wp.op_iff, Wp.grd_iff, Wp.dreg_iff, Wp.dnil_iff, Wp.dop_iff, Wp.dgrd_iff, After, InBlock, Round, Then, DThen, DOp.some_iff, noted_n, noted_s, NoteK.ptr, List.all_nil, List.all_cons, fresh_eq, val_k, val_set, val_nil, put_some, put_none, enter_nil, enter_cons, List.map_cons, List.map_nil, Option.map_some, Option.map_none, resA_tmp, res0, res1, res2, res3, RetQ.ret, RetQ.nrm, ResK.iff, wanted_k, WantK.tt, WantK.tf, WantK.ft, WantK.ff, WantK.und, GrdK.t, GrdK.f, DGrd.t, DGrd.f, CondK.t, CondK.f, decide_nn, Bool.not_true, Bool.not_false, Bool.not_not, w_mv, PickK.t, PickK.f, w_pick, w_alloc, w_bin, w_un, cviA_int, w_cvi, cvsA_str, w_cvs, w_mkI, w_mkF, w_sls, slsK_lo, slsK_hi, slsK_lh, w_idxs, idxK_str, w_len, lenK_str, lenK_sl, lenK_nils, lenK_arr, w_ext, extK_0, extK_1, extK_2, w_fld, fldK_0, fldK_1, fldK_2, fldK_3, fldK_4, w_fadr, fadrK_ptr, w_iadr, iadrK_sl, w_iadrA, iadrAK_ptr, w_load, w_storeK, Some1.iff, Some2.iff, b_add, b_sub, b_mul, b_quoP, b_remP, b_eql, b_neq, b_lss, b_leq, b_gtr, b_geq, b_sadd, b_seql, b_sneq, b_inil, u_not, u_neg, wrap_i64, wrap_u64, wrap_u8, wrap_i32, w_mx2, w_mn2, max2A_int, min2A_int, cells_int, cells_bool, cells_str, cells_ptr, cells_sl, cells_nils, cells_fn, cells_agg, one_int, one_bool, one_str, one_ptr, one_sl, one_nils, one_fn, OpWp.callF_iff, OpWp.callV_iff, CallVK.fn, OpWp.inv_iff, CondK.posN, PickK.posN, WantK.posN_t, WantK.posN_f, CondK.pos, CondK.neg, PickK.pos, PickK.neg, WantK.pos_t, WantK.neg_t, WantK.pos_f, WantK.neg_f, c151, c153, hd, Int.toNat_zero, List.getD_cons_zero, hb] | refine CondK.decN (fun hc => ?_) (fun hc => ?_) | refine GrdK.decN (fun hc => ?_) (fun hc => ?_) | refine PickK.decN (fun hc => ?_) (fun hc => ?_) | refine CondK.dec (fun hc => ?_) (fun hc => ?_) | refine GrdK.dec (fun hc => ?_) (fun hc => ?_) | refine PickK.dec (fun hc => ?_) (fun hc => ?_))
        · have hr : ¬ r = [] := fun e => (hl1.1 e) (by omega)
          have hf : isDec (b :: r) = false := by rw [hdec]; simp [hc, hr]
          simp [intV, hf]
        · have h8 : r.length ≤ 8 := by simp only [List.length_cons] at h9; omega
          simp [intV, hdec, hd, hc, h8]
        · have hr := hl1.2 (by omega)
          subst hr
          simp [intV, hdec, hd]
      · repeat' (with_reducible first | simp (disch := first | assumption | omega | (simp only [List.length_cons, List.length_nil, List.length_append, List.length_map, List.length_take, List.length_drop, List.length_replicate]; omega)) only [not_true_eq_false, not_false_eq_true, decide_true, decide_false, ↓reduceIte, Nat.reduceEqDiff, Nat.reduceAdd, Nat.reduceBEq, Wp.seq_iff, Wp.block_iff, Wp.skip_iff, Wp.ret_iff, Wp.exit_iff, Wp.cond_iff, Wp.nil_iff, Wp.op_iff, Wp.grd_iff, Wp.dreg_iff, Wp.dnil_iff, Wp.dop_iff, Wp.dgrd_iff, After, InBlock, Round, Then, DThen, DOp.some_iff, noted_n, noted_s, NoteK.ptr, List.all_nil, List.all_cons, fresh_eq, val_k, val_set, val_nil, put_some, put_none, enter_nil, enter_cons, List.map_cons, List.map_nil, Option.map_some, Option.map_none, resA_tmp, res0, res1, res2, res3, RetQ.ret, RetQ.nrm, ResK.iff, wanted_k, WantK.tt, WantK.tf, WantK.ft, WantK.ff, WantK.und, GrdK.t, GrdK.f, DGrd.t, DGrd.f, CondK.t, CondK.f, decide_nn, Bool.not_true, Bool.not_false, Bool.not_not, w_mv, PickK.t, PickK.f, w_pick, w_alloc, w_bin, w_un, cviA_int, w_cvi, cvsA_str, w_cvs, w_mkI, w_mkF, w_sls, slsK_lo, slsK_hi, slsK_lh, w_idxs, idxK_str, w_len, lenK_str, lenK_sl, lenK_nils, lenK_arr, w_ext, extK_0, extK_1, extK_2, w_fld, fldK_0, fldK_1, fldK_2, fldK_3, fldK_4, w_fadr, fadrK_ptr, w_iadr, iadrK_sl, w_iadrA, iadrAK_ptr, w_load, w_storeK, Some1.iff, Some2.iff, b_add, b_sub, b_mul, b_quoP, b_remP, b_eql, b_neq, b_lss, b_leq, b_gtr, b_geq, b_sadd, b_seql, b_sneq, b_inil, u_not, u_neg, wrap_i64, wrap_u64, wrap_u8, wrap_i32, w_mx2, w_mn2, max2A_int, min2A_int, cells_int, cells_bool, cells_str, cells_ptr, cells_sl, cells_nils, cells_fn, cells_agg, one_int, one_bool, one_str, one_ptr, one_sl, one_nils, one_fn, OpWp.callF_iff, OpWp.callV_iff, CallVK.fn, OpWp.inv_iff, CondK.posN, PickK.posN, WantK.posN_t, WantK.posN_f, CondK.pos, CondK.neg, PickK.pos, PickK.neg, WantK.pos_t, WantK.neg_t, WantK.pos_f, WantK.neg_f, c151, hd] | refine CondK.decN (fun hc => ?_) (fun hc => ?_) | refine GrdK.decN (fun hc => ?_) (fun hc => ?_) | refine PickK.decN (fun hc => ?_) (fun hc => ?_) | refine CondK.dec (fun hc => ?_) (fun hc => ?_) | refine GrdK.dec (fun hc => ?_) (fun hc => ?_) | refine PickK.dec (fun hc => ?_) (fun hc => ?_))
        have h8 : ¬ r.length ≤ 8 := by simp only [List.length_cons] at h9; omega
        simp [intV, h8]
end
end Go.Ae


/- Tickets: what the program's own functions give. -/
set_option linter.unusedVariables false
set_option linter.unusedSimpArgs false
set_option maxRecDepth 100000
namespace Go.Ae
open N Go.Proofs
/-! Tickets. -/
structure Tk where
  d : List UInt8
  n : Int
  p : Bool
  t : Int
  z : Int
abbrev tkL (d : List UInt8) (n : Int) (p : Bool) (t z : Int) : List AV := [.str d, .int .i64 n, .bool p, .int .i64 t, .int .i64 z]
abbrev tkt (d : List UInt8) (n : Int) (p : Bool) (t z : Int) : AV := .agg [.str d, .int .i64 n, .bool p, .int .i64 t, .int .i64 z]
def Tk.l (k : Tk) : List AV := tkL k.d k.n k.p k.t k.z
theorem Tk.l_len (k : Tk) : k.l.length = 5 := rfl
abbrev leadW : List UInt8 := [108, 101, 97, 100]
abbrev boulW : List UInt8 := [98, 111, 117, 108, 100, 101, 114]
def leadE (n : Int) (p : Bool) (t z : Int) : Int := if n < 0 ∨ 64 < n ∨ t < 0 ∨ 1 < t ∨ z ≠ 0 then 3 else if t = 1 ∧ (p = true ∨ n ≠ 0) then 1 else 0
def boulE (n : Int) (p : Bool) (t z : Int) : Int := if n ≠ 0 ∨ t < 0 ∨ 99 < t ∨ z < 0 ∨ 99 < z then 3 else if p = true ∨ (0 < t ∧ (z = 0 ∨ t < z)) then 1 else 0
def chkE (d : List UInt8) (n : Int) (p : Bool) (t z : Int) : Int := if d = leadW then leadE n p t z else if d = boulW then boulE n p t z else 13
def leadS (n : Int) (p : Bool) (t : Int) : List UInt8 := if t = 1 then [84, 79, 80] else if p = true then decP n.toNat 1 ++ [43] else decP n.toNat 1
def attS (c : UInt8) (n : Int) : List UInt8 := if n = 0 then [45] else c :: decP n.toNat 1
def boulS (t z : Int) : List UInt8 := attS 84 t ++ [32] ++ attS 90 z
def txtS (d : List UInt8) (n : Int) (p : Bool) (t z : Int) : List UInt8 := if d = leadW then leadS n p t else boulS t z
abbrev dis : List (AV × AV) := [(.str leadW, .agg [.fn 227 [], .fn 229 []]), (.str boulW, .agg [.fn 230 [], .fn 231 []])]
section
variable {h : Hp} {K : AV → Hp → Prop}
theorem c131b {b : Bool} {e : Int} : CallWp E2 131 [.bool b, .int .i64 e] h K ↔ K (.int .i64 (if b = true then e else 0)) h := by
  refine CallWp.iff_of (CallWp.fn (fn := C.a131) rfl rfl rfl ?_)
  unfold C.a131
  cases b
  · repeat' (with_reducible first | simp (disch := first | assumption | omega | (simp only [go_sem, ne_eq, Nat.reduceAdd, Nat.reduceLeDiff] <;> omega) | fail) only [go_sem, ↓reduceIte, Nat.reduceEqDiff, Nat.reduceAdd, Nat.reduceBEq, Nat.reduceLeDiff, Nat.reduceMul, Nat.reduceLT, Int.reduceToNat, reduceCtorEq, Int.reduceAdd, Int.reduceSub, Int.reduceMul, Int.reduceNeg, Int.reduceLT, Int.reduceLE, Int.reduceEq] | ((first | apply k1 | apply k2 | apply k3 | apply k4 | apply k5 | apply k6 | apply k7) <;> intro hc))
  · repeat' (with_reducible first | simp (disch := first | assumption | omega | (simp only [go_sem, ne_eq, Nat.reduceAdd, Nat.reduceLeDiff] <;> omega) | fail) only [go_sem, ↓reduceIte, Nat.reduceEqDiff, Nat.reduceAdd, Nat.reduceBEq, Nat.reduceLeDiff, Nat.reduceMul, Nat.reduceLT, Int.reduceToNat, reduceCtorEq, Int.reduceAdd, Int.reduceSub, Int.reduceMul, Int.reduceNeg, Int.reduceLT, Int.reduceLE, Int.reduceEq] | ((first | apply k1 | apply k2 | apply k3 | apply k4 | apply k5 | apply k6 | apply k7) <;> intro hc))
theorem c131 {p : Prop} {_ : Decidable p} {e : Int} : CallWp E2 131 [.bool (decide p), .int .i64 e] h K ↔ K (.int .i64 (if p then e else 0)) h := by
  rw [c131b]
  by_cases hp : p
  · rw [decide_eq_true hp, if_pos hp, if_pos rfl]
  · rw [decide_eq_false hp, if_neg hp, if_neg (by decide)]
theorem c131t {e : Int} : CallWp E2 131 [.bool true, .int .i64 e] h K ↔ K (.int .i64 e) h := c131b
theorem c131f {e : Int} : CallWp E2 131 [.bool false, .int .i64 e] h K ↔ K (.int .i64 0) h := c131b
theorem c228 {n m : Int} : CallWp E2 228 [.int .i64 n, .int .i64 m] h K ↔ K (.bool (decide (n < 0 ∨ m < n))) h := by
  refine CallWp.iff_of (CallWp.fn (fn := C.a228) rfl rfl rfl ?_)
  unfold C.a228
  repeat' (with_reducible first | simp (disch := first | assumption | omega | (simp only [go_sem, ne_eq, Nat.reduceAdd, Nat.reduceLeDiff] <;> omega) | fail) only [go_sem, ↓reduceIte, Nat.reduceEqDiff, Nat.reduceAdd, Nat.reduceBEq, Nat.reduceLeDiff, Nat.reduceMul, Nat.reduceLT, Int.reduceToNat, reduceCtorEq, Int.reduceAdd, Int.reduceSub, Int.reduceMul, Int.reduceNeg, Int.reduceLT, Int.reduceLE, Int.reduceEq] | ((first | apply k1 | apply k2 | apply k3 | apply k4 | apply k5 | apply k6 | apply k7) <;> intro hc))
  all_goals first | (congr 1; symm; exact decide_eq_true (by omega)) | (congr 1; simp; omega)
def first2 (a b : Int) : Int := if a = 0 then b else a
def first4 (a b c d : Int) : Int := if a = 0 then (if b = 0 then (if c = 0 then d else c) else b) else a
theorem c130_2 {t st : Nat} {own : Bool} {a b : Int} (hg : h.get t = some (.row [.int .i64 a, .int .i64 b] own st)) (ht : t < h.next) : Gv E2 130 [.sl t 0 2 1] h (.int .i64 (first2 a b)) := by
  refine Gv.of (CallWp.fn (fn := C.a130) rfl rfl rfl ?_)
  unfold C.a130
  by_cases ha : a = 0
  · by_cases hb : b = 0
    · repeat' (with_reducible first | simp (disch := first | assumption | omega | (simp only [go_sem, ne_eq, Nat.reduceAdd, Nat.reduceLeDiff] <;> omega) | fail) only [go_sem, ↓reduceIte, Nat.reduceEqDiff, Nat.reduceAdd, Nat.reduceBEq, Nat.reduceLeDiff, Nat.reduceMul, Nat.reduceLT, Int.reduceToNat, reduceCtorEq, Int.reduceAdd, Int.reduceSub, Int.reduceMul, Int.reduceNeg, Int.reduceLT, Int.reduceLE, Int.reduceEq, Wp.unroll, hg, ha, hb] | ((first | apply k1 | apply k2 | apply k3 | apply k4 | apply k5 | apply k6 | apply k7) <;> intro hc))
      simp [first2]
    · repeat' (with_reducible first | simp (disch := first | assumption | omega | (simp only [go_sem, ne_eq, Nat.reduceAdd, Nat.reduceLeDiff] <;> omega) | fail) only [go_sem, ↓reduceIte, Nat.reduceEqDiff, Nat.reduceAdd, Nat.reduceBEq, Nat.reduceLeDiff, Nat.reduceMul, Nat.reduceLT, Int.reduceToNat, reduceCtorEq, Int.reduceAdd, Int.reduceSub, Int.reduceMul, Int.reduceNeg, Int.reduceLT, Int.reduceLE, Int.reduceEq, Wp.unroll, hg, ha, hb] | ((first | apply k1 | apply k2 | apply k3 | apply k4 | apply k5 | apply k6 | apply k7) <;> intro hc))
      simp [first2]
  · repeat' (with_reducible first | simp (disch := first | assumption | omega | (simp only [go_sem, ne_eq, Nat.reduceAdd, Nat.reduceLeDiff] <;> omega) | fail) only [go_sem, ↓reduceIte, Nat.reduceEqDiff, Nat.reduceAdd, Nat.reduceBEq, Nat.reduceLeDiff, Nat.reduceMul, Nat.reduceLT, Int.reduceToNat, reduceCtorEq, Int.reduceAdd, Int.reduceSub, Int.reduceMul, Int.reduceNeg, Int.reduceLT, Int.reduceLE, Int.reduceEq, Wp.unroll, hg, ha] | ((first | apply k1 | apply k2 | apply k3 | apply k4 | apply k5 | apply k6 | apply k7) <;> intro hc))
    simp [first2, ha]
theorem c130_4 {t st : Nat} {own : Bool} {a b c d : Int} (hg : h.get t = some (.row [.int .i64 a, .int .i64 b, .int .i64 c, .int .i64 d] own st)) (ht : t < h.next) : Gv E2 130 [.sl t 0 4 1] h (.int .i64 (first4 a b c d)) := by
  refine Gv.of (CallWp.fn (fn := C.a130) rfl rfl rfl ?_)
  unfold C.a130
  by_cases ha : a = 0
  · by_cases hb : b = 0
    · by_cases hc : c = 0
      · by_cases hd : d = 0
        · repeat' (with_reducible first | simp (disch := first | assumption | omega | (simp only [go_sem, ne_eq, Nat.reduceAdd, Nat.reduceLeDiff] <;> omega) | fail) only [go_sem, ↓reduceIte, Nat.reduceEqDiff, Nat.reduceAdd, Nat.reduceBEq, Nat.reduceLeDiff, Nat.reduceMul, Nat.reduceLT, Int.reduceToNat, reduceCtorEq, Int.reduceAdd, Int.reduceSub, Int.reduceMul, Int.reduceNeg, Int.reduceLT, Int.reduceLE, Int.reduceEq, Wp.unroll, hg, ha, hb, hc, hd] | ((first | apply k1 | apply k2 | apply k3 | apply k4 | apply k5 | apply k6 | apply k7) <;> intro hc))
          simp [first4]
        · repeat' (with_reducible first | simp (disch := first | assumption | omega | (simp only [go_sem, ne_eq, Nat.reduceAdd, Nat.reduceLeDiff] <;> omega) | fail) only [go_sem, ↓reduceIte, Nat.reduceEqDiff, Nat.reduceAdd, Nat.reduceBEq, Nat.reduceLeDiff, Nat.reduceMul, Nat.reduceLT, Int.reduceToNat, reduceCtorEq, Int.reduceAdd, Int.reduceSub, Int.reduceMul, Int.reduceNeg, Int.reduceLT, Int.reduceLE, Int.reduceEq, Wp.unroll, hg, ha, hb, hc, hd] | ((first | apply k1 | apply k2 | apply k3 | apply k4 | apply k5 | apply k6 | apply k7) <;> intro hc))
          simp [first4]
      · repeat' (with_reducible first | simp (disch := first | assumption | omega | (simp only [go_sem, ne_eq, Nat.reduceAdd, Nat.reduceLeDiff] <;> omega) | fail) only [go_sem, ↓reduceIte, Nat.reduceEqDiff, Nat.reduceAdd, Nat.reduceBEq, Nat.reduceLeDiff, Nat.reduceMul, Nat.reduceLT, Int.reduceToNat, reduceCtorEq, Int.reduceAdd, Int.reduceSub, Int.reduceMul, Int.reduceNeg, Int.reduceLT, Int.reduceLE, Int.reduceEq, Wp.unroll, hg, ha, hb, hc] | ((first | apply k1 | apply k2 | apply k3 | apply k4 | apply k5 | apply k6 | apply k7) <;> intro hc))
        simp [first4, hc]
    · repeat' (with_reducible first | simp (disch := first | assumption | omega | (simp only [go_sem, ne_eq, Nat.reduceAdd, Nat.reduceLeDiff] <;> omega) | fail) only [go_sem, ↓reduceIte, Nat.reduceEqDiff, Nat.reduceAdd, Nat.reduceBEq, Nat.reduceLeDiff, Nat.reduceMul, Nat.reduceLT, Int.reduceToNat, reduceCtorEq, Int.reduceAdd, Int.reduceSub, Int.reduceMul, Int.reduceNeg, Int.reduceLT, Int.reduceLE, Int.reduceEq, Wp.unroll, hg, ha, hb] | ((first | apply k1 | apply k2 | apply k3 | apply k4 | apply k5 | apply k6 | apply k7) <;> intro hc))
      simp [first4, hb]
  · repeat' (with_reducible first | simp (disch := first | assumption | omega | (simp only [go_sem, ne_eq, Nat.reduceAdd, Nat.reduceLeDiff] <;> omega) | fail) only [go_sem, ↓reduceIte, Nat.reduceEqDiff, Nat.reduceAdd, Nat.reduceBEq, Nat.reduceLeDiff, Nat.reduceMul, Nat.reduceLT, Int.reduceToNat, reduceCtorEq, Int.reduceAdd, Int.reduceSub, Int.reduceMul, Int.reduceNeg, Int.reduceLT, Int.reduceLE, Int.reduceEq, Wp.unroll, hg, ha] | ((first | apply k1 | apply k2 | apply k3 | apply k4 | apply k5 | apply k6 | apply k7) <;> intro hc))
    simp [first4, ha]
theorem c227 {d : List UInt8} {n t z : Int} {p : Bool} : Gv E2 227 [tkt d n p t z] h (.int .i64 (leadE n p t z)) := by
  refine Gv.of (CallWp.fn (fn := C.a227) rfl rfl rfl ?_)
  unfold C.a227
  cases p
  all_goals repeat' (with_reducible first | simp (disch := first | assumption | omega | (simp only [go_sem, ne_eq, Nat.reduceAdd, Nat.reduceLeDiff] <;> omega) | fail) only [go_sem, ↓reduceIte, Nat.reduceEqDiff, Nat.reduceAdd, Nat.reduceBEq, Nat.reduceLeDiff, Nat.reduceMul, Nat.reduceLT, Int.reduceToNat, reduceCtorEq, Int.reduceAdd, Int.reduceSub, Int.reduceMul, Int.reduceNeg, Int.reduceLT, Int.reduceLE, Int.reduceEq, c228, c131, c131t, c131f] | (refine Gv.wp (c130_2 (Hp.push_at (by (first | omega | (simp only [Hp.next_push, Hp.next_put, Hp.ov_next, Hp.clk_push, Hp.clk_put, Hp.ov_clk] <;> omega) | fail))) (by (first | omega | (simp only [Hp.next_push, Hp.next_put, Hp.ov_next, Hp.clk_push, Hp.clk_put, Hp.ov_clk] <;> omega) | fail))) fun _ _ _ _ => ?_) | ((first | apply k1 | apply k2 | apply k3 | apply k4 | apply k5 | apply k6 | apply k7) <;> intro hc))
  all_goals refine ⟨?_, by (try first | refine ⟨trivial, ?_⟩ | refine ⟨rfl, ?_⟩); (repeat (first | exact Grs.refl _ | assumption | refine Grs.push ?_ | refine Grs.ov ?_ | refine Grs.put ?_ (by (try simp only [Hp.next_push, Hp.next_put, Hp.ov_next, Hp.clk_push, Hp.clk_put, Hp.ov_clk]); omega)))⟩
  all_goals congr 1
  all_goals simp only [first2, leadE]
  all_goals (repeat' split) <;> first | rfl | omega | (simp_all; done) | (simp_all; omega)
theorem c230 {d : List UInt8} {n t z : Int} {p : Bool} : Gv E2 230 [tkt d n p t z] h (.int .i64 (boulE n p t z)) := by
  refine Gv.of (CallWp.fn (fn := C.a230) rfl rfl rfl ?_)
  unfold C.a230
  cases p
  all_goals repeat' (with_reducible first | simp (disch := first | assumption | omega | (simp only [go_sem, ne_eq, Nat.reduceAdd, Nat.reduceLeDiff] <;> omega) | fail) only [go_sem, ↓reduceIte, Nat.reduceEqDiff, Nat.reduceAdd, Nat.reduceBEq, Nat.reduceLeDiff, Nat.reduceMul, Nat.reduceLT, Int.reduceToNat, reduceCtorEq, Int.reduceAdd, Int.reduceSub, Int.reduceMul, Int.reduceNeg, Int.reduceLT, Int.reduceLE, Int.reduceEq, c228, c131, c131t, c131f] | (refine Gv.wp (c130_2 (Hp.push_at (by (first | omega | (simp only [Hp.next_push, Hp.next_put, Hp.ov_next, Hp.clk_push, Hp.clk_put, Hp.ov_clk] <;> omega) | fail))) (by (first | omega | (simp only [Hp.next_push, Hp.next_put, Hp.ov_next, Hp.clk_push, Hp.clk_put, Hp.ov_clk] <;> omega) | fail))) fun _ _ _ _ => ?_) | ((first | apply k1 | apply k2 | apply k3 | apply k4 | apply k5 | apply k6 | apply k7) <;> intro hc))
  all_goals refine ⟨?_, by (try first | refine ⟨trivial, ?_⟩ | refine ⟨rfl, ?_⟩); (repeat (first | exact Grs.refl _ | assumption | refine Grs.push ?_ | refine Grs.ov ?_ | refine Grs.put ?_ (by (try simp only [Hp.next_push, Hp.next_put, Hp.ov_next, Hp.clk_push, Hp.clk_put, Hp.ov_clk]); omega)))⟩
  all_goals congr 1
  all_goals simp only [first2, boulE]
  all_goals (repeat' split) <;> first | rfl | omega | (simp_all; done) | (simp_all; omega)
theorem att_len {c : UInt8} {n : Int} (hn : n ≤ 9223372036854775807) : (attS c n).length ≤ 30 := by
  have := decP_b (n := n.toNat) (k := 1) (by omega) (by omega)
  unfold attS; split <;> simp; omega
theorem c232 {c : UInt8} {n : Int} (hn : 0 ≤ n ∧ n ≤ 9223372036854775807) : CallWp E2 232 [.str [c], .int .i64 n] h K ↔ K (.str (attS c n)) h := by
  refine CallWp.iff_of (CallWp.fn (fn := C.a232) rfl rfl rfl ?_)
  unfold C.a232
  have l1 := decP_b (n := n.toNat) (k := 1) (by omega) (by omega)
  have e1 : (1 : Int).toNat = 1 := rfl
  by_cases h0 : n = 0
  · repeat' (with_reducible first | simp (disch := first | assumption | omega | (simp only [go_sem, ne_eq, Nat.reduceAdd, Nat.reduceLeDiff] <;> omega) | fail) only [go_sem, ↓reduceIte, Nat.reduceEqDiff, Nat.reduceAdd, Nat.reduceBEq, Nat.reduceLeDiff, Nat.reduceMul, Nat.reduceLT, Int.reduceToNat, reduceCtorEq, Int.reduceAdd, Int.reduceSub, Int.reduceMul, Int.reduceNeg, Int.reduceLT, Int.reduceLE, Int.reduceEq, c145, e1] | ((first | apply k1 | apply k2 | apply k3 | apply k4 | apply k5 | apply k6 | apply k7) <;> intro hc))
    simp [attS, h0]
  · repeat' (with_reducible first | simp (disch := first | assumption | omega | (simp only [go_sem, ne_eq, Nat.reduceAdd, Nat.reduceLeDiff] <;> omega) | fail) only [go_sem, ↓reduceIte, Nat.reduceEqDiff, Nat.reduceAdd, Nat.reduceBEq, Nat.reduceLeDiff, Nat.reduceMul, Nat.reduceLT, Int.reduceToNat, reduceCtorEq, Int.reduceAdd, Int.reduceSub, Int.reduceMul, Int.reduceNeg, Int.reduceLT, Int.reduceLE, Int.reduceEq, c145, e1] | ((first | apply k1 | apply k2 | apply k3 | apply k4 | apply k5 | apply k6 | apply k7) <;> intro hc))
    simp [attS, h0]
theorem c229 {d : List UInt8} {n t z : Int} {p : Bool} (hn : 0 ≤ n ∧ n ≤ 9223372036854775807) : Gv E2 229 [tkt d n p t z] h (.str (leadS n p t)) := by
  refine Gv.of (CallWp.fn (fn := C.a229) rfl rfl rfl ?_)
  unfold C.a229
  have l1 := decP_b (n := n.toNat) (k := 1) (by omega) (by omega)
  have e1 : (1 : Int).toNat = 1 := rfl
  by_cases h0 : t = 1
  · repeat' (with_reducible first | simp (disch := first | assumption | omega | (simp only [go_sem, ne_eq, Nat.reduceAdd, Nat.reduceLeDiff] <;> omega) | fail) only [go_sem, ↓reduceIte, Nat.reduceEqDiff, Nat.reduceAdd, Nat.reduceBEq, Nat.reduceLeDiff, Nat.reduceMul, Nat.reduceLT, Int.reduceToNat, reduceCtorEq, Int.reduceAdd, Int.reduceSub, Int.reduceMul, Int.reduceNeg, Int.reduceLT, Int.reduceLE, Int.reduceEq, c145, e1] | ((first | apply k1 | apply k2 | apply k3 | apply k4 | apply k5 | apply k6 | apply k7) <;> intro hc))
    refine ⟨by simp [leadS, h0], ?_⟩
    (try first | refine ⟨trivial, ?_⟩ | refine ⟨rfl, ?_⟩); (repeat (first | exact Grs.refl _ | assumption | refine Grs.push ?_ | refine Grs.ov ?_ | refine Grs.put ?_ (by (try simp only [Hp.next_push, Hp.next_put, Hp.ov_next, Hp.clk_push, Hp.clk_put, Hp.ov_clk]); omega)))
  · cases p
    · repeat' (with_reducible first | simp (disch := first | assumption | omega | (simp only [go_sem, ne_eq, Nat.reduceAdd, Nat.reduceLeDiff] <;> omega) | fail) only [go_sem, ↓reduceIte, Nat.reduceEqDiff, Nat.reduceAdd, Nat.reduceBEq, Nat.reduceLeDiff, Nat.reduceMul, Nat.reduceLT, Int.reduceToNat, reduceCtorEq, Int.reduceAdd, Int.reduceSub, Int.reduceMul, Int.reduceNeg, Int.reduceLT, Int.reduceLE, Int.reduceEq, c145, e1] | ((first | apply k1 | apply k2 | apply k3 | apply k4 | apply k5 | apply k6 | apply k7) <;> intro hc))
      refine ⟨by simp [leadS, h0], ?_⟩
      (try first | refine ⟨trivial, ?_⟩ | refine ⟨rfl, ?_⟩); (repeat (first | exact Grs.refl _ | assumption | refine Grs.push ?_ | refine Grs.ov ?_ | refine Grs.put ?_ (by (try simp only [Hp.next_push, Hp.next_put, Hp.ov_next, Hp.clk_push, Hp.clk_put, Hp.ov_clk]); omega)))
    · repeat' (with_reducible first | simp (disch := first | assumption | omega | (simp only [go_sem, ne_eq, Nat.reduceAdd, Nat.reduceLeDiff] <;> omega) | fail) only [go_sem, ↓reduceIte, Nat.reduceEqDiff, Nat.reduceAdd, Nat.reduceBEq, Nat.reduceLeDiff, Nat.reduceMul, Nat.reduceLT, Int.reduceToNat, reduceCtorEq, Int.reduceAdd, Int.reduceSub, Int.reduceMul, Int.reduceNeg, Int.reduceLT, Int.reduceLE, Int.reduceEq, c145, e1] | ((first | apply k1 | apply k2 | apply k3 | apply k4 | apply k5 | apply k6 | apply k7) <;> intro hc))
      refine ⟨by simp [leadS, h0], ?_⟩
      (try first | refine ⟨trivial, ?_⟩ | refine ⟨rfl, ?_⟩); (repeat (first | exact Grs.refl _ | assumption | refine Grs.push ?_ | refine Grs.ov ?_ | refine Grs.put ?_ (by (try simp only [Hp.next_push, Hp.next_put, Hp.ov_next, Hp.clk_push, Hp.clk_put, Hp.ov_clk]); omega)))
theorem c231 {d : List UInt8} {n t z : Int} {p : Bool} (ht : 0 ≤ t ∧ t ≤ 9223372036854775807) (hz : 0 ≤ z ∧ z ≤ 9223372036854775807) : Gv E2 231 [tkt d n p t z] h (.str (boulS t z)) := by
  refine Gv.of (CallWp.fn (fn := C.a231) rfl rfl rfl ?_)
  unfold C.a231
  have l1 := att_len (c := 84) (n := t) ht.2
  have l2 := att_len (c := 90) (n := z) hz.2
  repeat' (with_reducible first | simp (disch := first | assumption | omega | (simp only [go_sem, ne_eq, Nat.reduceAdd, Nat.reduceLeDiff] <;> omega) | fail) only [go_sem, ↓reduceIte, Nat.reduceEqDiff, Nat.reduceAdd, Nat.reduceBEq, Nat.reduceLeDiff, Nat.reduceMul, Nat.reduceLT, Int.reduceToNat, reduceCtorEq, Int.reduceAdd, Int.reduceSub, Int.reduceMul, Int.reduceNeg, Int.reduceLT, Int.reduceLE, Int.reduceEq, c232 ht, c232 hz] | ((first | apply k1 | apply k2 | apply k3 | apply k4 | apply k5 | apply k6 | apply k7) <;> intro hc))
  refine ⟨by simp [boulS], ?_⟩
  (try first | refine ⟨trivial, ?_⟩ | refine ⟨rfl, ?_⟩); (repeat (first | exact Grs.refl _ | assumption | refine Grs.push ?_ | refine Grs.ov ?_ | refine Grs.put ?_ (by (try simp only [Hp.next_push, Hp.next_put, Hp.ov_next, Hp.clk_push, Hp.clk_put, Hp.ov_clk]); omega)))
theorem c154 : Gp E2 154 [] h fun v h' => ∃ t st, v = .map t ∧ h'.get t = some (.amap dis st) ∧ t < h'.next := by
  refine Gp.of (CallWp.fn (fn := C.a154) rfl rfl rfl ?_)
  unfold C.a154
  have u1 : ∀ v, updA [108, 101, 97, 100] v [] = some [(.str leadW, v)] := fun _ => rfl
  have u2 : ∀ v w, updA [98, 111, 117, 108, 100, 101, 114] v [(.str leadW, w)] = some [(.str leadW, w), (.str boulW, v)] := fun v w => by simp [updA]
  repeat' (with_reducible first | simp (disch := first | assumption | omega | (simp only [go_sem, ne_eq, Nat.reduceAdd, Nat.reduceLeDiff] <;> omega) | fail) only [go_sem, ↓reduceIte, Nat.reduceEqDiff, Nat.reduceAdd, Nat.reduceBEq, Nat.reduceLeDiff, Nat.reduceMul, Nat.reduceLT, Int.reduceToNat, reduceCtorEq, Int.reduceAdd, Int.reduceSub, Int.reduceMul, Int.reduceNeg, Int.reduceLT, Int.reduceLE, Int.reduceEq, u1, u2] | ((first | apply k1 | apply k2 | apply k3 | apply k4 | apply k5 | apply k6 | apply k7) <;> intro hc))
  refine ⟨⟨h.next, _, rfl, Hp.put_same, ?_⟩, ?_⟩
  · (first | omega | (simp only [Hp.next_push, Hp.next_put, Hp.ov_next, Hp.clk_push, Hp.clk_put, Hp.ov_clk] <;> omega) | fail)
  · (try first | refine ⟨trivial, ?_⟩ | refine ⟨rfl, ?_⟩); (repeat (first | exact Grs.refl _ | assumption | refine Grs.push ?_ | refine Grs.ov ?_ | refine Grs.put ?_ (by (try simp only [Hp.next_push, Hp.next_put, Hp.ov_next, Hp.clk_push, Hp.clk_put, Hp.ov_clk]); omega)))
theorem find_lead : findA leadW dis = some (some (.agg [.fn 227 [], .fn 229 []])) := by simp [findA]
theorem find_boul : findA boulW dis = some (some (.agg [.fn 230 [], .fn 231 []])) := by simp [findA]
theorem find_no {d : List UInt8} (h1 : ¬ d = leadW) (h2 : ¬ d = boulW) : findA d dis = some none := by simp [findA, h1, h2]
theorem c46 {d : List UInt8} {n t z : Int} {p : Bool} : Gv E2 46 [tkt d n p t z] h (.int .i64 (chkE d n p t z)) := by
  refine Gv.of (CallWp.fn (fn := C.a46) rfl rfl rfl ?_)
  unfold C.a46
  by_cases h1 : d = leadW
  · subst h1
    repeat' (with_reducible first | simp (disch := first | assumption | omega | (simp only [go_sem, ne_eq, Nat.reduceAdd, Nat.reduceLeDiff] <;> omega) | fail) only [go_sem, ↓reduceIte, Nat.reduceEqDiff, Nat.reduceAdd, Nat.reduceBEq, Nat.reduceLeDiff, Nat.reduceMul, Nat.reduceLT, Int.reduceToNat, reduceCtorEq, Int.reduceAdd, Int.reduceSub, Int.reduceMul, Int.reduceNeg, Int.reduceLT, Int.reduceLE, Int.reduceEq] | ((first | apply k1 | apply k2 | apply k3 | apply k4 | apply k5 | apply k6 | apply k7) <;> intro hc))
    refine Gp.wp c154 fun v h' k j g ⟨t, st, e, hg, ht⟩ => ?_
    subst e
    simp only [Hp.next_push, Hp.next_put, Hp.ov_next, Hp.clk_push, Hp.clk_put, Hp.ov_clk] at ht
    repeat' (with_reducible first | simp (disch := first | assumption | omega | (simp only [go_sem, ne_eq, Nat.reduceAdd, Nat.reduceLeDiff] <;> omega) | fail) only [go_sem, ↓reduceIte, Nat.reduceEqDiff, Nat.reduceAdd, Nat.reduceBEq, Nat.reduceLeDiff, Nat.reduceMul, Nat.reduceLT, Int.reduceToNat, reduceCtorEq, Int.reduceAdd, Int.reduceSub, Int.reduceMul, Int.reduceNeg, Int.reduceLT, Int.reduceLE, Int.reduceEq, hg, find_lead] | (refine Gv.wp (c227) fun _ _ _ _ => ?_) | ((first | apply k1 | apply k2 | apply k3 | apply k4 | apply k5 | apply k6 | apply k7) <;> intro hc))
    refine ⟨by simp [chkE], ?_⟩
    (try first | refine ⟨trivial, ?_⟩ | refine ⟨rfl, ?_⟩); (repeat (first | exact Grs.refl _ | assumption | refine Grs.push ?_ | refine Grs.ov ?_ | refine Grs.put ?_ (by (try simp only [Hp.next_push, Hp.next_put, Hp.ov_next, Hp.clk_push, Hp.clk_put, Hp.ov_clk]); omega)))
  · by_cases h2 : d = boulW
    · subst h2
      repeat' (with_reducible first | simp (disch := first | assumption | omega | (simp only [go_sem, ne_eq, Nat.reduceAdd, Nat.reduceLeDiff] <;> omega) | fail) only [go_sem, ↓reduceIte, Nat.reduceEqDiff, Nat.reduceAdd, Nat.reduceBEq, Nat.reduceLeDiff, Nat.reduceMul, Nat.reduceLT, Int.reduceToNat, reduceCtorEq, Int.reduceAdd, Int.reduceSub, Int.reduceMul, Int.reduceNeg, Int.reduceLT, Int.reduceLE, Int.reduceEq] | ((first | apply k1 | apply k2 | apply k3 | apply k4 | apply k5 | apply k6 | apply k7) <;> intro hc))
      refine Gp.wp c154 fun v h' k j g ⟨t, st, e, hg, ht⟩ => ?_
      subst e
      simp only [Hp.next_push, Hp.next_put, Hp.ov_next, Hp.clk_push, Hp.clk_put, Hp.ov_clk] at ht
      repeat' (with_reducible first | simp (disch := first | assumption | omega | (simp only [go_sem, ne_eq, Nat.reduceAdd, Nat.reduceLeDiff] <;> omega) | fail) only [go_sem, ↓reduceIte, Nat.reduceEqDiff, Nat.reduceAdd, Nat.reduceBEq, Nat.reduceLeDiff, Nat.reduceMul, Nat.reduceLT, Int.reduceToNat, reduceCtorEq, Int.reduceAdd, Int.reduceSub, Int.reduceMul, Int.reduceNeg, Int.reduceLT, Int.reduceLE, Int.reduceEq, hg, find_boul] | (refine Gv.wp (c230) fun _ _ _ _ => ?_) | ((first | apply k1 | apply k2 | apply k3 | apply k4 | apply k5 | apply k6 | apply k7) <;> intro hc))
      refine ⟨by simp [chkE], ?_⟩
      (try first | refine ⟨trivial, ?_⟩ | refine ⟨rfl, ?_⟩); (repeat (first | exact Grs.refl _ | assumption | refine Grs.push ?_ | refine Grs.ov ?_ | refine Grs.put ?_ (by (try simp only [Hp.next_push, Hp.next_put, Hp.ov_next, Hp.clk_push, Hp.clk_put, Hp.ov_clk]); omega)))
    · have h3 := find_no h1 h2
      repeat' (with_reducible first | simp (disch := first | assumption | omega | (simp only [go_sem, ne_eq, Nat.reduceAdd, Nat.reduceLeDiff] <;> omega) | fail) only [go_sem, ↓reduceIte, Nat.reduceEqDiff, Nat.reduceAdd, Nat.reduceBEq, Nat.reduceLeDiff, Nat.reduceMul, Nat.reduceLT, Int.reduceToNat, reduceCtorEq, Int.reduceAdd, Int.reduceSub, Int.reduceMul, Int.reduceNeg, Int.reduceLT, Int.reduceLE, Int.reduceEq] | ((first | apply k1 | apply k2 | apply k3 | apply k4 | apply k5 | apply k6 | apply k7) <;> intro hc))
      refine Gp.wp c154 fun v h' k j g ⟨t, st, e, hg, ht⟩ => ?_
      subst e
      simp only [Hp.next_push, Hp.next_put, Hp.ov_next, Hp.clk_push, Hp.clk_put, Hp.ov_clk] at ht
      repeat' (with_reducible first | simp (disch := first | assumption | omega | (simp only [go_sem, ne_eq, Nat.reduceAdd, Nat.reduceLeDiff] <;> omega) | fail) only [go_sem, ↓reduceIte, Nat.reduceEqDiff, Nat.reduceAdd, Nat.reduceBEq, Nat.reduceLeDiff, Nat.reduceMul, Nat.reduceLT, Int.reduceToNat, reduceCtorEq, Int.reduceAdd, Int.reduceSub, Int.reduceMul, Int.reduceNeg, Int.reduceLT, Int.reduceLE, Int.reduceEq, hg, h3] | ((first | apply k1 | apply k2 | apply k3 | apply k4 | apply k5 | apply k6 | apply k7) <;> intro hc))
      refine ⟨by unfold chkE; rw [if_neg h1, if_neg h2], ?_⟩
      (try first | refine ⟨trivial, ?_⟩ | refine ⟨rfl, ?_⟩); (repeat (first | exact Grs.refl _ | assumption | refine Grs.push ?_ | refine Grs.ov ?_ | refine Grs.put ?_ (by (try simp only [Hp.next_push, Hp.next_put, Hp.ov_next, Hp.clk_push, Hp.clk_put, Hp.ov_clk]); omega)))
end
end Go.Ae


/- Clocks: lists that grow; the reference's Split. -/
set_option linter.unusedVariables false
set_option linter.unusedSimpArgs false
set_option maxRecDepth 100000
namespace Go.Ae
open N Go.Proofs
/-- A later heap, in which what lay has not turned. -/
structure Grew (h h' : Hp) : Prop where
  next : h.next ≤ h'.next
  get : ∀ t, t < h.next → h'.get t = h.get t
theorem Grew.refl (h : Hp) : Grew h h := ⟨Nat.le_refl _, fun _ _ => rfl⟩
theorem Grew.trans {a b c : Hp} (x : Grew a b) (y : Grew b c) : Grew a c := ⟨Nat.le_trans x.1 y.1, fun t ht => (y.2 t (Nat.lt_of_lt_of_le ht x.1)).trans (x.2 t ht)⟩
theorem Grew.push (h : Hp) (f : Nat → AObj) : Grew h (h.push f) := ⟨Nat.le_succ _, fun t ht => Hp.push_other (by omega)⟩
theorem Grew.put {h0 h : Hp} (g : Grew h0 h) {t : Nat} (f : Nat → AObj) (ht : h0.next ≤ t) : Grew h0 (h.put t f) := ⟨g.1, fun u hu => (Hp.put_other (by omega)).trans (g.2 u hu)⟩
/-- A slice that was made behind h0, with these cells, of its own. -/
def Own (h0 h : Hp) (v : AV) (cs : List AV) : Prop :=
  (v = .nils ∧ cs = []) ∨ ∃ t st, v = .sl t 0 cs.length 1 ∧ h.get t = some (.row cs true st) ∧ h0.next ≤ t ∧ t < h.next
theorem Own.nil (h0 h : Hp) : Own h0 h .nils [] := .inl ⟨rfl, rfl⟩
/-- One element more. -/
theorem Own.append {h0 h : Hp} {v x : AV} {cs : List AV} {by_ : Nat} (G : Grew h0 h) (O : Own h0 h v cs) (hl : (cs.length + 1) * by_ ≤ 140737488355328) (hl2 : cs.length + 1 ≤ 140737488355328) :
    ∃ v' h', appA (h.push fun st => .row [x] true st) 1 by_ v (.sl h.next 0 1 1) = some (v', h') ∧ Grew h0 h' ∧ Own h0 h' v' (cs ++ [x]) := by
  have hc : cellsOf (h.push fun st => .row [x] true st) 1 (.sl h.next 0 1 1) = some [x] := by
    simp only [cellsOf, Hp.push_same]
    rw [if_pos ⟨trivial, by simp⟩]; rfl
  rcases O with ⟨rfl, rfl⟩ | ⟨t, st, rfl, hg, h1, h2⟩
  · refine ⟨.sl (h.next + 1) 0 1 1, (h.push fun st => .row [x] true st).push fun st => .row [x] true st, ?_, (G.trans (Grew.push h _)).trans (Grew.push _ _), .inr ⟨h.next + 1, (h.push fun st => .row [x] true st).clk + 1, rfl, Hp.push_same, ?_, ?_⟩⟩
    · unfold appA
      rw [hc]
      simp only [lenA]
      rw [if_pos ⟨by simpa using hl, by omega, by decide⟩]
      rfl
    · have := G.1; omega
    · show h.next + 1 < h.next + 1 + 1; omega
  · have hgt : (h.push fun st => .row [x] true st).get t = some (.row cs true st) := (Hp.push_other (by omega)).trans hg
    refine ⟨.sl (h.next + 1) 0 (cs.length + 1) 1, ((h.push fun st => .row [x] true st).put t fun s => .dead s).push fun st => .row (cs ++ [x]) true st, ?_, ((G.trans (Grew.push h _)).put _ h1).trans (Grew.push _ _), .inr ⟨h.next + 1, ((h.push fun st => .row [x] true st).put t fun s => .dead s).clk + 1, by simp, Hp.push_same, ?_, ?_⟩⟩
    · unfold appA
      rw [hc]
      simp only [lenA]
      rw [hgt]
      simp only
      rw [if_pos ⟨trivial, by simp, by simpa using hl, by simpa using hl2⟩]
      simp [Hp.push_next]
    · have := G.1; omega
    · show h.next + 1 < h.next + 1 + 1; omega
/-- The slice of one element that append takes. -/
def Bs1 (v : AV) (h : Hp) (K : AV → Hp → Prop) : Prop := v.cells.length = 1 ∧ v.cells.all AV.one = true ∧ K (.sl h.next 0 1 1) (h.push fun st => .row v.cells true st)
section
variable {E : Env} {s : St} {h : Hp} {K : AV → Hp → Prop}
theorem Bs1.str {l : List UInt8} : Bs1 (.str l) h K ↔ K (.sl h.next 0 1 1) (h.push fun st => .row [.str l] true st) := by simp [Bs1, AV.cells, AV.one]
theorem Bs1.int {k : IntKind} {n : Int} : Bs1 (.int k n) h K ↔ K (.sl h.next 0 1 1) (h.push fun st => .row [.int k n] true st) := by simp [Bs1, AV.cells, AV.one]
end
/-- Split's parts, from a place on; the part that is being read begins at 'a'. -/
def splGo (sep s : List UInt8) (i a : Nat) : List (List UInt8) :=
  if h : i + sep.length ≤ s.length ∧ 0 < sep.length then
    if (s.take (i + sep.length)).drop i = sep then (s.take i).drop a :: splGo sep s (i + sep.length) (i + sep.length)
    else splGo sep s (i + 1) a
  else [s.drop a]
termination_by s.length - i
decreasing_by all_goals omega
section
variable {h : Hp} {K : AV → Hp → Prop}
theorem splGo_len {sep s : List UInt8} (hs : 0 < sep.length) : ∀ (n i a : Nat), s.length - i = n → (splGo sep s i a).length ≤ n + 1 := by
  intro n
  induction n using Nat.strongRecOn with
  | _ n ih =>
    intro i a hn
    rw [splGo]
    split
    · split
      · have := ih (s.length - (i + sep.length)) (by omega) (i + sep.length) (i + sep.length) rfl
        simp only [List.length_cons]; omega
      · have := ih (s.length - (i + 1)) (by omega) (i + 1) a rfl
        omega
    · simp
end
end Go.Ae


/- Clocks: the reference's ReadClock. -/
set_option linter.unusedVariables false
set_option linter.unusedSimpArgs false
set_option maxRecDepth 100000
namespace Go.Ae
open N Go.Proofs
abbrev splS (c : UInt8) (s : List UInt8) : List (List UInt8) := splGo [c] s 0 0
/-- Behind the first part: all have two digits. -/
def twoDig (l : List (List UInt8)) : Bool := l.all fun w => decide (w.length = 2) && allDig w
/-- The reference's time. -/
def refClk (s : List UInt8) : Nat × Nat :=
  if 24 < s.length then (0, 26) else
  match splS 46 s with
  | [a, b] =>
    if b.length = 3 ∧ allDig b = true then
      match splS 58 a with
      | [w] => if (intV w).2 = true then (if 59 < (intV w).1 then (0, 3) else (1000 * (intV w).1 + decV b, 0)) else (0, 25)
      | [w, x] => if (intV w).2 = true ∧ twoDig [x] = true then (if 59 < decV x ∨ 59 < (intV w).1 then (0, 3) else (1000 * (60 * (intV w).1 + decV x) + decV b, 0)) else (0, 25)
      | [w, x, y] => if (intV w).2 = true ∧ twoDig [x, y] = true then (if 59 < decV x ∨ 59 < decV y ∨ 23 < (intV w).1 then (0, 3) else (1000 * (60 * (60 * (intV w).1 + decV x) + decV y) + decV b, 0)) else (0, 25)
      | _ => (0, 25)
    else (0, 25)
  | _ => (0, 25)
section
variable {h : Hp} {K : AV → Hp → Prop}
theorem splGo_ne {sep s : List UInt8} {i a : Nat} : splGo sep s i a ≠ [] := by
  induction i, a using splGo.induct (sep := sep) (s := s) with
  | case1 i a h hm ih => rw [splGo, dif_pos h, if_pos hm]; simp
  | case2 i a h hm ih => rw [splGo, dif_pos h, if_neg hm]; exact ih
  | case3 i a h => rw [splGo, dif_neg h]; simp
theorem splGo_part {sep s p : List UInt8} {i a : Nat} (h : p ∈ splGo sep s i a) : p.length ≤ s.length := by
  induction i, a using splGo.induct (sep := sep) (s := s) with
  | case1 i a hc hm ih =>
    rw [splGo, dif_pos hc, if_pos hm] at h
    rcases List.mem_cons.1 h with rfl | h
    · simp only [List.length_drop, List.length_take]; omega
    · exact ih h
  | case2 i a hc hm ih => rw [splGo, dif_pos hc, if_neg hm] at h; exact ih h
  | case3 i a hc =>
    rw [splGo, dif_neg hc] at h
    obtain rfl := List.mem_singleton.1 h
    simp only [List.length_drop]; omega
theorem spl_parts {c : UInt8} {s p : List UInt8} (h : p ∈ splS c s) : p.length ≤ s.length := splGo_part h
end
end Go.Ae


/- Tickets: what the program reads. -/
set_option linter.unusedVariables false
set_option linter.unusedSimpArgs false
set_option maxRecDepth 100000
namespace Go.Ae
open N Go.Proofs
def wordsB (s sep : List UInt8) : List (List UInt8) := (Lib.splitB ⟨sep.toArray⟩ 0 (Lib.countB ⟨s.toArray⟩ ⟨sep.toArray⟩) ⟨s.toArray⟩).map (·.data.toList)
/-- An attempt, read. -/
def tryV (c : UInt8) (s : List UInt8) : Nat × Bool := if s = [45] then (0, true) else ((intV (Lib.trimPrefix s [c])).1, Lib.hasPrefix s [c] && (intV (Lib.trimPrefix s [c])).2 && decide (0 < (intV (Lib.trimPrefix s [c])).1))
/-- A ticket, read. -/
def rdV (s : List UInt8) : Tk × Bool :=
  if s = [84, 79, 80] then (⟨leadW, 0, false, 1, 0⟩, true)
  else if (Lib.cut s [32]).2.2 = true then (⟨boulW, 0, false, (tryV 84 (Lib.cut s [32]).1).1, (tryV 90 (Lib.cut s [32]).2.1).1⟩, (tryV 84 (Lib.cut s [32]).1).2 && (tryV 90 (Lib.cut s [32]).2.1).2)
  else (⟨leadW, (intV (Lib.trimSuffix s [43])).1, Lib.hasSuffix s [43], 0, 0⟩, (intV (Lib.trimSuffix s [43])).2)
def Tk.e (k : Tk) : Int := chkE k.d k.n k.p k.t k.z
def headD (l : List Tk) : List UInt8 := match l with | [] => [] | k :: _ => k.d
/-- The error of the ticket i with the words w. -/
def errV (i : Nat) (out : List Tk) (w : List UInt8) : Int := first4 (if (rdV w).2 = true then 0 else 25) (if 256 ≤ i then 5 else 0) (rdV w).1.e (if 0 < i ∧ (rdV w).1.d ≠ headD out then 13 else 0)
def parseGo : Nat → List Tk → List (List UInt8) → List Tk × Nat × Int
  | _, out, [] => (out, 0, 0)
  | i, out, w :: r => if errV i out w ≠ 0 then ([], i + 1, errV i out w) else parseGo (i + 1) (out ++ [(rdV w).1]) r
def parseV (s : List UInt8) : List Tk × Nat × Int := if 4096 < s.length then ([], 0, 26) else if s = [] then ([], 0, 12) else parseGo 0 [] (wordsB s [32, 47, 32])
theorem trimP_le (s p : List UInt8) : (Lib.trimPrefix s p).length ≤ s.length := by unfold Lib.trimPrefix; split <;> simp
theorem trimS_le (s p : List UInt8) : (Lib.trimSuffix s p).length ≤ s.length := by unfold Lib.trimSuffix; split <;> simp
theorem cut_le (s p : List UInt8) : (Lib.cut s p).1.length ≤ s.length ∧ (Lib.cut s p).2.1.length ≤ s.length := by unfold Lib.cut; split <;> simp; omega
section
variable {h : Hp} {K : AV → Hp → Prop}
theorem f223 {s : List UInt8} (hs : s.length ≤ 9223372036854775807) : CallWp E2 223 [.str s, .str [48, 49, 50, 51, 52, 53, 54, 55, 56, 57]] h K ↔ K (.str (Lib.trimS s L.tenDigits)) h := by
  rw [CallWp.prim_iff (p := L.p223) rfl rfl]
  have : L.p223 [.str s, .str [48, 49, 50, 51, 52, 53, 54, 55, 56, 57]] h = some (.str (Lib.trimS s L.tenDigits), h) := if_pos ⟨rfl, hs⟩
  rw [this]; exact Iff.rfl
theorem f224 {s : List UInt8} (hd : allDig s = true) (h0 : ¬ s = []) (hs : s.length ≤ 18) : CallWp E2 224 [.str s] h K ↔ K (.tup [.int .i64 (decV s), .nili]) h := by
  rw [CallWp.prim_iff (p := L.p224) rfl rfl]
  have : L.p224 [.str s] h = some (.tup [.int .i64 (decV s), .nili], h) := by
    simp only [L.p224, if_pos hs, atoi_eq hd h0]
  rw [this]; exact Iff.rfl
theorem f189 {s : List UInt8} (hs : s.length ≤ 9223372036854775807) : CallWp E2 189 [.str s] h K ↔ K (.bool (isDec s)) h := by
  refine CallWp.iff_of (CallWp.fn (fn := C.a189) rfl rfl rfl ?_)
  unfold C.a189
  cases s with
  | nil =>
    repeat' (with_reducible first | simp (disch := first | assumption | omega | (simp only [go_sem, ne_eq, Nat.reduceAdd, Nat.reduceLeDiff] <;> omega) | fail) only [go_sem, ↓reduceIte, Nat.reduceEqDiff, Nat.reduceAdd, Nat.reduceBEq, Nat.reduceLeDiff, Nat.reduceMul, Nat.reduceLT, Int.reduceToNat, reduceCtorEq, Int.reduceAdd, Int.reduceSub, Int.reduceMul, Int.reduceNeg, Int.reduceLT, Int.reduceLE, Int.reduceEq, f223, trim_nil] | ((first | apply k1 | apply k2 | apply k3 | apply k4 | apply k5 | apply k6 | apply k7) <;> intro hc))
    all_goals simp [isDec]
  | cons b r =>
    have h0 : ¬ (b :: r) = [] := by simp
    have hb : (b.toNat : Int) = 48 ↔ b = 48 := by
      constructor
      · intro e; exact UInt8.toNat_inj.1 (by simpa using Int.ofNat.inj e)
      · rintro rfl; rfl
    repeat' (with_reducible first | simp (disch := first | assumption | omega | (simp only [go_sem, ne_eq, Nat.reduceAdd, Nat.reduceLeDiff] <;> omega) | fail) only [go_sem, ↓reduceIte, Nat.reduceEqDiff, Nat.reduceAdd, Nat.reduceBEq, Nat.reduceLeDiff, Nat.reduceMul, Nat.reduceLT, Int.reduceToNat, reduceCtorEq, Int.reduceAdd, Int.reduceSub, Int.reduceMul, Int.reduceNeg, Int.reduceLT, Int.reduceLE, Int.reduceEq, f223, trim_nil, Int.toNat_zero, List.getD_cons_zero, hb] | ((first | apply k1 | apply k2 | apply k3 | apply k4 | apply k5 | apply k6 | apply k7) <;> intro hc))
    all_goals simp_all [isDec]
theorem f226 {s : List UInt8} (hs : s.length ≤ 9223372036854775807) : CallWp E2 226 [.str s] h K ↔ K (.tup [.int .i64 (intV s).1, .bool (intV s).2]) h := by
  refine CallWp.iff_of (CallWp.fn (fn := C.a226) rfl rfl rfl ?_)
  unfold C.a226
  have key : isDec s = true → ¬ s = [] ∧ allDig s = true := by
    unfold isDec; simp only [Bool.and_eq_true, decide_eq_true_eq]; exact fun e => e.1
  cases hd : isDec s with
  | true =>
    obtain ⟨h0, h1⟩ := key hd
    repeat' (with_reducible first | simp (disch := first | assumption | omega | (simp only [go_sem, ne_eq, Nat.reduceAdd, Nat.reduceLeDiff] <;> omega) | fail) only [go_sem, ↓reduceIte, Nat.reduceEqDiff, Nat.reduceAdd, Nat.reduceBEq, Nat.reduceLeDiff, Nat.reduceMul, Nat.reduceLT, Int.reduceToNat, reduceCtorEq, Int.reduceAdd, Int.reduceSub, Int.reduceMul, Int.reduceNeg, Int.reduceLT, Int.reduceLE, Int.reduceEq, f189, hd, f224] | ((first | apply k1 | apply k2 | apply k3 | apply k4 | apply k5 | apply k6 | apply k7) <;> intro hc))
    · simp [intV, hd, show ¬ s.length ≤ 9 by omega]
    · simp [intV, hd, show s.length ≤ 9 by omega]
  | false =>
    repeat' (with_reducible first | simp (disch := first | assumption | omega | (simp only [go_sem, ne_eq, Nat.reduceAdd, Nat.reduceLeDiff] <;> omega) | fail) only [go_sem, ↓reduceIte, Nat.reduceEqDiff, Nat.reduceAdd, Nat.reduceBEq, Nat.reduceLeDiff, Nat.reduceMul, Nat.reduceLT, Int.reduceToNat, reduceCtorEq, Int.reduceAdd, Int.reduceSub, Int.reduceMul, Int.reduceNeg, Int.reduceLT, Int.reduceLE, Int.reduceEq, f189, hd, f224] | ((first | apply k1 | apply k2 | apply k3 | apply k4 | apply k5 | apply k6 | apply k7) <;> intro hc))
    all_goals simp [intV, hd]
theorem c188 {s p : List UInt8} : CallWp E2 188 [.str s, .str p] h K ↔ K (.tup [.str (Lib.trimPrefix s p), .bool (Lib.hasPrefix s p)]) h := by
  rw [CallWp.prim_iff (p := L.p188) rfl rfl]; exact Iff.rfl
theorem c239 {s p : List UInt8} (hs : s.length < 9223372036854775807) : CallWp E2 239 [.str s, .str p] h K ↔ K (.tup [.str (Lib.trimSuffix s p), .bool (Lib.hasSuffix s p)]) h := by
  rw [CallWp.prim_iff (p := L.p239) rfl rfl]
  have : L.p239 [.str s, .str p] h = some (.tup [.str (Lib.trimSuffix s p), .bool (Lib.hasSuffix s p)], h) := if_pos hs
  rw [this]; exact Iff.rfl
theorem c147 {s p : List UInt8} (hs : s.length < 4294967281) : CallWp E2 147 [.str s, .str p] h K ↔ K (.tup [.str (Lib.cut s p).1, .str (Lib.cut s p).2.1, .bool (Lib.cut s p).2.2]) h := by
  rw [CallWp.prim_iff (p := L.p147) rfl rfl]
  have : L.p147 [.str s, .str p] h = some (.tup [.str (Lib.cut s p).1, .str (Lib.cut s p).2.1, .bool (Lib.cut s p).2.2], h) := if_pos hs
  rw [this]; exact Iff.rfl
theorem c157 {s sep : List UInt8} (hs : s.length < 4294967281) (hp : 1 ≤ sep.length) : Gp E2 157 [.str s, .str sep] h fun v h' => ∃ t st, v = .sl t 0 (wordsB s sep).length 1 ∧ h'.get t = some (.row ((wordsB s sep).map .str) true st) ∧ t < h'.next := by
  have hlen : (Lib.splitB ⟨sep.toArray⟩ 0 (Lib.countB ⟨s.toArray⟩ ⟨sep.toArray⟩) ⟨s.toArray⟩).length = Lib.countB ⟨s.toArray⟩ ⟨sep.toArray⟩ + 1 := Lib.splitB_all _ (by simpa [ByteArray.size] using hp) 0 _ _ rfl
  have hl : (wordsB s sep).length = Lib.countB ⟨s.toArray⟩ ⟨sep.toArray⟩ + 1 := by unfold wordsB; rw [List.length_map]; exact hlen
  have hr : (Lib.splitB ⟨sep.toArray⟩ 0 (Lib.countB ⟨s.toArray⟩ ⟨sep.toArray⟩) ⟨s.toArray⟩).map (fun b : ByteArray => AV.str b.data.toList) = (wordsB s sep).map .str := by unfold wordsB; rw [List.map_map]; rfl
  have e : L.p157 [.str s, .str sep] h = some (.sl h.next 0 (wordsB s sep).length 1, h.push fun st => .row ((wordsB s sep).map .str) true st) := by
    rw [hl, ← hr]; exact if_pos ⟨hs, hp, hlen⟩
  refine Gp.of ((CallWp.prim_iff (p := L.p157) rfl rfl).2 ?_)
  rw [e]
  exact ⟨⟨h.next, _, rfl, Hp.push_same, Nat.lt_succ_self _⟩, (Grs.refl h).push⟩
theorem c238 {c : UInt8} {s : List UInt8} (hs : s.length ≤ 9223372036854775807) : CallWp E2 238 [.str [c], .str s] h K ↔ K (.tup [.int .i64 (tryV c s).1, .bool (tryV c s).2]) h := by
  refine CallWp.iff_of (CallWp.fn (fn := C.a238) rfl rfl rfl ?_)
  unfold C.a238
  have hl := trimP_le s [c]
  have f := fun {h : Hp} {K : AV → Hp → Prop} => f226 (h := h) (K := K) (s := Lib.trimPrefix s [c]) (by omega)
  by_cases h0 : s = [45]
  · repeat' (with_reducible first | simp (disch := first | assumption | omega | (simp only [go_sem, ne_eq, Nat.reduceAdd, Nat.reduceLeDiff] <;> omega) | fail) only [go_sem, ↓reduceIte, Nat.reduceEqDiff, Nat.reduceAdd, Nat.reduceBEq, Nat.reduceLeDiff, Nat.reduceMul, Nat.reduceLT, Int.reduceToNat, reduceCtorEq, Int.reduceAdd, Int.reduceSub, Int.reduceMul, Int.reduceNeg, Int.reduceLT, Int.reduceLE, Int.reduceEq, c188] | ((first | apply k1 | apply k2 | apply k3 | apply k4 | apply k5 | apply k6 | apply k7) <;> intro hc))
    simp [tryV, h0]
  · cases hp : Lib.hasPrefix s [c] <;> cases hi : (intV (Lib.trimPrefix s [c])).2
    all_goals repeat' (with_reducible first | simp (disch := first | assumption | omega | (simp only [go_sem, ne_eq, Nat.reduceAdd, Nat.reduceLeDiff] <;> omega) | fail) only [go_sem, ↓reduceIte, Nat.reduceEqDiff, Nat.reduceAdd, Nat.reduceBEq, Nat.reduceLeDiff, Nat.reduceMul, Nat.reduceLT, Int.reduceToNat, reduceCtorEq, Int.reduceAdd, Int.reduceSub, Int.reduceMul, Int.reduceNeg, Int.reduceLT, Int.reduceLE, Int.reduceEq, c188, hp, f, hi] | ((first | apply k1 | apply k2 | apply k3 | apply k4 | apply k5 | apply k6 | apply k7) <;> intro hc))
    all_goals simp [tryV, h0, hp, hi]
theorem c158 {s : List UInt8} (hs : s.length ≤ 1000000) : Gv E2 158 [.str s] h (.tup [tkt (rdV s).1.d (rdV s).1.n (rdV s).1.p (rdV s).1.t (rdV s).1.z, .bool (rdV s).2]) := by
  refine Gv.of (CallWp.fn (fn := C.a158) rfl rfl rfl ?_)
  unfold C.a158
  by_cases h0 : s = [84, 79, 80]
  · repeat' (with_reducible first | simp (disch := first | assumption | omega | (simp only [go_sem, ne_eq, Nat.reduceAdd, Nat.reduceLeDiff] <;> omega) | fail) only [go_sem, ↓reduceIte, Nat.reduceEqDiff, Nat.reduceAdd, Nat.reduceBEq, Nat.reduceLeDiff, Nat.reduceMul, Nat.reduceLT, Int.reduceToNat, reduceCtorEq, Int.reduceAdd, Int.reduceSub, Int.reduceMul, Int.reduceNeg, Int.reduceLT, Int.reduceLE, Int.reduceEq] | ((first | apply k1 | apply k2 | apply k3 | apply k4 | apply k5 | apply k6 | apply k7) <;> intro hc))
    refine ⟨by simp [rdV, h0], ?_⟩
    (try first | refine ⟨trivial, ?_⟩ | refine ⟨rfl, ?_⟩); (repeat (first | exact Grs.refl _ | assumption | refine Grs.push ?_ | refine Grs.ov ?_ | refine Grs.put ?_ (by (try simp only [Hp.next_push, Hp.next_put, Hp.ov_next, Hp.clk_push, Hp.clk_put, Hp.ov_clk]); omega)))
  · have hl := cut_le s [32]
    have hl2 := trimS_le s [43]
    have f1 := fun {h : Hp} {K : AV → Hp → Prop} => c238 (h := h) (K := K) (c := 84) (s := (Lib.cut s [32]).1) (by omega)
    have f2 := fun {h : Hp} {K : AV → Hp → Prop} => c238 (h := h) (K := K) (c := 90) (s := (Lib.cut s [32]).2.1) (by omega)
    have f3 := fun {h : Hp} {K : AV → Hp → Prop} => f226 (h := h) (K := K) (s := Lib.trimSuffix s [43]) (by omega)
    cases hc : (Lib.cut s [32]).2.2
    · repeat' (with_reducible first | simp (disch := first | assumption | omega | (simp only [go_sem, ne_eq, Nat.reduceAdd, Nat.reduceLeDiff] <;> omega) | fail) only [go_sem, ↓reduceIte, Nat.reduceEqDiff, Nat.reduceAdd, Nat.reduceBEq, Nat.reduceLeDiff, Nat.reduceMul, Nat.reduceLT, Int.reduceToNat, reduceCtorEq, Int.reduceAdd, Int.reduceSub, Int.reduceMul, Int.reduceNeg, Int.reduceLT, Int.reduceLE, Int.reduceEq, c147, hc, c239, f3] | ((first | apply k1 | apply k2 | apply k3 | apply k4 | apply k5 | apply k6 | apply k7) <;> intro hc))
      refine ⟨by simp [rdV, h0, hc], ?_⟩
      (try first | refine ⟨trivial, ?_⟩ | refine ⟨rfl, ?_⟩); (repeat (first | exact Grs.refl _ | assumption | refine Grs.push ?_ | refine Grs.ov ?_ | refine Grs.put ?_ (by (try simp only [Hp.next_push, Hp.next_put, Hp.ov_next, Hp.clk_push, Hp.clk_put, Hp.ov_clk]); omega)))
    · cases h1 : (tryV 84 (Lib.cut s [32]).1).2
      all_goals repeat' (with_reducible first | simp (disch := first | assumption | omega | (simp only [go_sem, ne_eq, Nat.reduceAdd, Nat.reduceLeDiff] <;> omega) | fail) only [go_sem, ↓reduceIte, Nat.reduceEqDiff, Nat.reduceAdd, Nat.reduceBEq, Nat.reduceLeDiff, Nat.reduceMul, Nat.reduceLT, Int.reduceToNat, reduceCtorEq, Int.reduceAdd, Int.reduceSub, Int.reduceMul, Int.reduceNeg, Int.reduceLT, Int.reduceLE, Int.reduceEq, c147, hc, f1, f2, h1] | ((first | apply k1 | apply k2 | apply k3 | apply k4 | apply k5 | apply k6 | apply k7) <;> intro hc))
      all_goals refine ⟨by simp [rdV, h0, hc, h1], ?_⟩
      all_goals (try first | refine ⟨trivial, ?_⟩ | refine ⟨rfl, ?_⟩); (repeat (first | exact Grs.refl _ | assumption | refine Grs.push ?_ | refine Grs.ov ?_ | refine Grs.put ?_ (by (try simp only [Hp.next_push, Hp.next_put, Hp.ov_next, Hp.clk_push, Hp.clk_put, Hp.ov_clk]); omega)))
theorem c159 {v : AV} {l : List Tk} (hS : RowS 5 h v l.length (l.flatMap Tk.l)) : CallWp E2 159 [v] h K ↔ K (.str (headD l)) h := by
  refine CallWp.iff_of (CallWp.fn (fn := C.a159) rfl rfl rfl ?_)
  unfold C.a159
  obtain ⟨hlen, ⟨rfl, hn⟩ | ⟨t, own, st, rfl, hg, ht, hst⟩⟩ := hS
  · obtain rfl := List.length_eq_zero_iff.1 hn
    repeat' (with_reducible first | simp (disch := first | assumption | omega | (simp only [go_sem, ne_eq, Nat.reduceAdd, Nat.reduceLeDiff] <;> omega) | fail) only [go_sem, ↓reduceIte, Nat.reduceEqDiff, Nat.reduceAdd, Nat.reduceBEq, Nat.reduceLeDiff, Nat.reduceMul, Nat.reduceLT, Int.reduceToNat, reduceCtorEq, Int.reduceAdd, Int.reduceSub, Int.reduceMul, Int.reduceNeg, Int.reduceLT, Int.reduceLE, Int.reduceEq] | ((first | apply k1 | apply k2 | apply k3 | apply k4 | apply k5 | apply k6 | apply k7) <;> intro hc))
    simp [headD]
  · cases l with
    | nil =>
      repeat' (with_reducible first | simp (disch := first | assumption | omega | (simp only [go_sem, ne_eq, Nat.reduceAdd, Nat.reduceLeDiff] <;> omega) | fail) only [go_sem, ↓reduceIte, Nat.reduceEqDiff, Nat.reduceAdd, Nat.reduceBEq, Nat.reduceLeDiff, Nat.reduceMul, Nat.reduceLT, Int.reduceToNat, reduceCtorEq, Int.reduceAdd, Int.reduceSub, Int.reduceMul, Int.reduceNeg, Int.reduceLT, Int.reduceLE, Int.reduceEq] | ((first | apply k1 | apply k2 | apply k3 | apply k4 | apply k5 | apply k6 | apply k7) <;> intro hc))
      simp [headD]
    | cons k r =>
      have h0 : ¬ ((k :: r).length : Int) = 0 := by simp; omega
      have h1 : (0 : Int) < ((k :: r).length : Int) := by simp
      have e : (k :: r).flatMap Tk.l = [.str k.d, .int .i64 k.n, .bool k.p, .int .i64 k.t, .int .i64 k.z] ++ r.flatMap Tk.l := rfl
      rw [e] at hg
      repeat' (with_reducible first | simp (disch := first | assumption | omega | (simp only [go_sem, ne_eq, Nat.reduceAdd, Nat.reduceLeDiff] <;> omega) | fail) only [go_sem, ↓reduceIte, Nat.reduceEqDiff, Nat.reduceAdd, Nat.reduceBEq, Nat.reduceLeDiff, Nat.reduceMul, Nat.reduceLT, Int.reduceToNat, reduceCtorEq, Int.reduceAdd, Int.reduceSub, Int.reduceMul, Int.reduceNeg, Int.reduceLT, Int.reduceLE, Int.reduceEq, hg, h0, h1, Int.natCast_add] | ((first | apply k1 | apply k2 | apply k3 | apply k4 | apply k5 | apply k6 | apply k7) <;> intro hc))
      first | done | (simp [headD])
end
end Go.Ae


/- Tickets: Parse and Print of the program. -/
set_option linter.unusedVariables false
set_option linter.unusedSimpArgs false
set_option maxRecDepth 100000
namespace Go.Ae
open N Go.Proofs
theorem first4_25 {b c d : Int} : first4 25 b c d = 25 := rfl
theorem errV_no {i : Nat} {out : List Tk} {w : List UInt8} (h : (rdV w).2 = false) : errV i out w = 25 := by unfold errV; rw [h]; rfl
theorem errV_ok {i : Nat} {out : List Tk} {w : List UInt8} (h : (rdV w).2 = true) (hi : 0 < i) :
    first4 0 (if (256 : Int) ≤ i then 5 else 0) (chkE (rdV w).1.d (rdV w).1.n (rdV w).1.p (rdV w).1.t (rdV w).1.z) (if ¬ (rdV w).1.d = headD out then 13 else 0) = errV i out w := by
  unfold errV; rw [h, if_pos rfl]
  have e1 : ((256 : Int) ≤ i) = (256 ≤ i) := by rw [eq_iff_iff]; omega
  have e2 : (0 < i ∧ (rdV w).1.d ≠ headD out) = ¬ (rdV w).1.d = headD out := by rw [eq_iff_iff]; exact ⟨fun e => e.2, fun e => ⟨hi, e⟩⟩
  simp only [e1, e2]; rfl
theorem errV_zero {out : List Tk} {w : List UInt8} (h : (rdV w).2 = true) :
    first4 0 0 (chkE (rdV w).1.d (rdV w).1.n (rdV w).1.p (rdV w).1.t (rdV w).1.z) 0 = errV 0 out w := by
  unfold errV; rw [h, if_pos rfl]; simp [Tk.e]
section
variable {h : Hp} {K : AV → Hp → Prop}
theorem g159 {h0 : Hp} {v : AV} {l : List Tk} (hS : RowS 5 h0 v l.length (l.flatMap Tk.l)) (g : Grs h0 h) : Gv E2 159 [v] h (.str (headD l)) := Gv.of ((c159 (hS.grs g)).2 ⟨rfl, Grs.refl h⟩)
theorem parseGo_step {i : Nat} {out : List Tk} {W : List (List UInt8)} (hi : i < W.length) : parseGo i out (W.drop i) = if errV i out W[i] ≠ 0 then ([], i + 1, errV i out W[i]) else parseGo (i + 1) (out ++ [(rdV W[i]).1]) (W.drop (i + 1)) := by
  rw [List.drop_eq_getElem_cons hi, parseGo]
theorem c52 {s : List UInt8} (hs : s.length ≤ 100000) : Gp E2 52 [.str s] h fun v h' => ∃ w, v = .tup [w, .int .i64 (parseV s).2.1, .int .i64 (parseV s).2.2] ∧ RowS 5 h' w (parseV s).1.length ((parseV s).1.flatMap Tk.l) := by
  refine Gp.of (CallWp.fn (fn := C.a52) rfl rfl rfl ?_)
  unfold C.a52
  by_cases h1 : 4096 < s.length
  · have h0 : ¬ s = [] := fun e => by subst e; simp at h1
    have h1' : (4096 : Int) < s.length := by omega
    repeat' (with_reducible first | simp (disch := first | assumption | omega | (simp only [go_sem, ne_eq, Nat.reduceAdd, Nat.reduceLeDiff] <;> omega) | fail) only [go_sem, ↓reduceIte, Nat.reduceEqDiff, Nat.reduceAdd, Nat.reduceBEq, Nat.reduceLeDiff, Nat.reduceMul, Nat.reduceLT, Int.reduceToNat, reduceCtorEq, Int.reduceAdd, Int.reduceSub, Int.reduceMul, Int.reduceNeg, Int.reduceLT, Int.reduceLE, Int.reduceEq, c131, c131t, c131f, h1', h0, first2] | (refine Gv.wp (c130_2 (Hp.push_at (by (first | omega | (simp only [Hp.next_push, Hp.next_put, Hp.ov_next, Hp.clk_push, Hp.clk_put, Hp.ov_clk] <;> omega) | fail))) (by (first | omega | (simp only [Hp.next_push, Hp.next_put, Hp.ov_next, Hp.clk_push, Hp.clk_put, Hp.ov_clk] <;> omega) | fail))) fun _ _ _ _ => ?_) | ((first | apply k1 | apply k2 | apply k3 | apply k4 | apply k5 | apply k6 | apply k7) <;> intro hc))
    have e : parseV s = ([], 0, 26) := if_pos h1
    rw [e]
    refine ⟨⟨.nils, rfl, OwnZ.nil.row (h0 := h)⟩, ?_⟩
    (try first | refine ⟨trivial, ?_⟩ | refine ⟨rfl, ?_⟩); (repeat (first | exact Grs.refl _ | assumption | refine Grs.push ?_ | refine Grs.ov ?_ | refine Grs.put ?_ (by (try simp only [Hp.next_push, Hp.next_put, Hp.ov_next, Hp.clk_push, Hp.clk_put, Hp.ov_clk]); omega)))
  have h1' : ¬ (4096 : Int) < s.length := by omega
  by_cases h0 : s = []
  · have h0' : (s = []) = True := by simp [h0]
    simp (disch := first | assumption | omega | (simp only [go_sem, ne_eq, Nat.reduceAdd, Nat.reduceLeDiff] <;> omega) | fail) only [go_sem, ↓reduceIte, Nat.reduceEqDiff, Nat.reduceAdd, Nat.reduceBEq, Nat.reduceLeDiff, Nat.reduceMul, Nat.reduceLT, Int.reduceToNat, reduceCtorEq, Int.reduceAdd, Int.reduceSub, Int.reduceMul, Int.reduceNeg, Int.reduceLT, Int.reduceLE, Int.reduceEq, c131t, c131f, h1', h0']
    refine Gv.wp (c130_2 (Hp.push_at (by (first | omega | (simp only [Hp.next_push, Hp.next_put, Hp.ov_next, Hp.clk_push, Hp.clk_put, Hp.ov_clk] <;> omega) | fail))) (by (first | omega | (simp only [Hp.next_push, Hp.next_put, Hp.ov_next, Hp.clk_push, Hp.clk_put, Hp.ov_clk] <;> omega) | fail))) fun _ _ _ _ => ?_
    simp (disch := first | assumption | omega | (simp only [go_sem, ne_eq, Nat.reduceAdd, Nat.reduceLeDiff] <;> omega) | fail) only [go_sem, ↓reduceIte, Nat.reduceEqDiff, Nat.reduceAdd, Nat.reduceBEq, Nat.reduceLeDiff, Nat.reduceMul, Nat.reduceLT, Int.reduceToNat, reduceCtorEq, Int.reduceAdd, Int.reduceSub, Int.reduceMul, Int.reduceNeg, Int.reduceLT, Int.reduceLE, Int.reduceEq, first2]
    have e : parseV s = ([], 0, 12) := by subst h0; simp [parseV]
    rw [e]
    refine ⟨⟨.nils, rfl, OwnZ.nil.row (h0 := h)⟩, ?_⟩
    (try first | refine ⟨trivial, ?_⟩ | refine ⟨rfl, ?_⟩); (repeat (first | exact Grs.refl _ | assumption | refine Grs.push ?_ | refine Grs.ov ?_ | refine Grs.put ?_ (by (try simp only [Hp.next_push, Hp.next_put, Hp.ov_next, Hp.clk_push, Hp.clk_put, Hp.ov_clk]); omega)))
  have eV : parseV s = parseGo 0 [] (wordsB s [32, 47, 32]) := by unfold parseV; rw [if_neg h1, if_neg h0]
  repeat' (with_reducible first | simp (disch := first | assumption | omega | (simp only [go_sem, ne_eq, Nat.reduceAdd, Nat.reduceLeDiff] <;> omega) | fail) only [go_sem, ↓reduceIte, Nat.reduceEqDiff, Nat.reduceAdd, Nat.reduceBEq, Nat.reduceLeDiff, Nat.reduceMul, Nat.reduceLT, Int.reduceToNat, reduceCtorEq, Int.reduceAdd, Int.reduceSub, Int.reduceMul, Int.reduceNeg, Int.reduceLT, Int.reduceLE, Int.reduceEq, c131, c131t, c131f, h1', h0, first2] | (refine Gv.wp (c130_2 (Hp.push_at (by (first | omega | (simp only [Hp.next_push, Hp.next_put, Hp.ov_next, Hp.clk_push, Hp.clk_put, Hp.ov_clk] <;> omega) | fail))) (by (first | omega | (simp only [Hp.next_push, Hp.next_put, Hp.ov_next, Hp.clk_push, Hp.clk_put, Hp.ov_clk] <;> omega) | fail))) fun _ _ _ _ => ?_) | ((first | apply k1 | apply k2 | apply k3 | apply k4 | apply k5 | apply k6 | apply k7) <;> intro hc))
  refine Gp.wp (c157 (by omega) (by decide)) fun v h' k j g ⟨tw, st0, e, hg, ht⟩ => ?_
  subst e
  have hpart : ∀ w ∈ wordsB s [32, 47, 32], w.length ≤ s.length := fun w hw => by
    unfold wordsB at hw
    rw [List.mem_map] at hw
    obtain ⟨p, hp, rfl⟩ := hw
    have := Rc.splitB_part _ _ _ _ hp
    rw [Lib.size_eq, Lib.size_eq] at this
    simpa using this
  have hcnt : (wordsB s [32, 47, 32]).length ≤ s.length + 1 := by
    have hl : (wordsB s [32, 47, 32]).length = Lib.countB ⟨s.toArray⟩ ⟨#[32, 47, 32]⟩ + 1 := by unfold wordsB; rw [List.length_map]; exact Lib.splitB_all _ (by decide) 0 _ _ rfl
    have := Lib.countB_le ⟨#[32, 47, 32]⟩ (by decide) _ ⟨s.toArray⟩ (Nat.le_refl _)
    have e : (⟨s.toArray⟩ : ByteArray).size = s.length := by simp [ByteArray.size]
    omega
  rw [eV]
  generalize wordsB s [32, 47, 32] = W at *
  simp only [Hp.next_push, Hp.next_put, Hp.ov_next, Hp.clk_push, Hp.clk_put, Hp.ov_clk] at ht
  repeat' (with_reducible first | simp (disch := first | assumption | omega | (simp only [go_sem, ne_eq, Nat.reduceAdd, Nat.reduceLeDiff] <;> omega) | fail) only [go_sem, ↓reduceIte, Nat.reduceEqDiff, Nat.reduceAdd, Nat.reduceBEq, Nat.reduceLeDiff, Nat.reduceMul, Nat.reduceLT, Int.reduceToNat, reduceCtorEq, Int.reduceAdd, Int.reduceSub, Int.reduceMul, Int.reduceNeg, Int.reduceLT, Int.reduceLE, Int.reduceEq, hg] | ((first | apply k1 | apply k2 | apply k3 | apply k4 | apply k5 | apply k6 | apply k7) <;> intro hc))
  refine Wp.loopG (fun hW => hW.get tw = some (.row (W.map .str) true st0) ∧ tw < hW.next ∧ Grs h hW) ⟨by simp (disch := first | assumption | omega | (simp only [go_sem, ne_eq, Nat.reduceAdd, Nat.reduceLeDiff] <;> omega) | fail) only [go_sem, ↓reduceIte, Nat.reduceEqDiff, Nat.reduceAdd, Nat.reduceBEq, Nat.reduceLeDiff, Nat.reduceMul, Nat.reduceLT, Int.reduceToNat, reduceCtorEq, Int.reduceAdd, Int.reduceSub, Int.reduceMul, Int.reduceNeg, Int.reduceLT, Int.reduceLE, Int.reduceEq, hg], by (first | omega | (simp only [Hp.next_push, Hp.next_put, Hp.ov_next, Hp.clk_push, Hp.clk_put, Hp.ov_clk] <;> omega) | fail), by (dsimp only; (try first | refine ⟨trivial, ?_⟩ | refine ⟨rfl, ?_⟩); (repeat (first | exact Grs.refl _ | assumption | refine Grs.push ?_ | refine Grs.ov ?_ | refine Grs.put ?_ (by (try simp only [Hp.next_push, Hp.next_put, Hp.ov_next, Hp.clk_push, Hp.clk_put, Hp.ov_clk]); omega))))⟩
    (fun hW m st => ∃ (i : Nat) (v : AV) (out : List Tk), val st.tm (.t 25) = .sl tw 0 W.length 1 ∧ val st.tm (.t 26) = .int .i64 W.length ∧ val st.tm (.t 27) = .int .i64 i ∧ val st.tm (.t 6) = v ∧
      Grs hW st.hp ∧ OwnZ 5 hW st.hp v out.length (out.flatMap Tk.l) ∧ out.length = i ∧ i ≤ W.length ∧ parseGo 0 [] W = parseGo i out (W.drop i) ∧ m = W.length - i) (n := W.length) ?_ ?_
  · exact ⟨0, .nils, [], by simp (disch := first | assumption | omega | (simp only [go_sem, ne_eq, Nat.reduceAdd, Nat.reduceLeDiff] <;> omega) | fail) only [go_sem, ↓reduceIte, Nat.reduceEqDiff, Nat.reduceAdd, Nat.reduceBEq, Nat.reduceLeDiff, Nat.reduceMul, Nat.reduceLT, Int.reduceToNat, reduceCtorEq, Int.reduceAdd, Int.reduceSub, Int.reduceMul, Int.reduceNeg, Int.reduceLT, Int.reduceLE, Int.reduceEq], by simp (disch := first | assumption | omega | (simp only [go_sem, ne_eq, Nat.reduceAdd, Nat.reduceLeDiff] <;> omega) | fail) only [go_sem, ↓reduceIte, Nat.reduceEqDiff, Nat.reduceAdd, Nat.reduceBEq, Nat.reduceLeDiff, Nat.reduceMul, Nat.reduceLT, Int.reduceToNat, reduceCtorEq, Int.reduceAdd, Int.reduceSub, Int.reduceMul, Int.reduceNeg, Int.reduceLT, Int.reduceLE, Int.reduceEq], by (simp (disch := first | assumption | omega | (simp only [go_sem, ne_eq, Nat.reduceAdd, Nat.reduceLeDiff] <;> omega) | fail) only [go_sem, ↓reduceIte, Nat.reduceEqDiff, Nat.reduceAdd, Nat.reduceBEq, Nat.reduceLeDiff, Nat.reduceMul, Nat.reduceLT, Int.reduceToNat, reduceCtorEq, Int.reduceAdd, Int.reduceSub, Int.reduceMul, Int.reduceNeg, Int.reduceLT, Int.reduceLE, Int.reduceEq]) <;> rfl, by simp (disch := first | assumption | omega | (simp only [go_sem, ne_eq, Nat.reduceAdd, Nat.reduceLeDiff] <;> omega) | fail) only [go_sem, ↓reduceIte, Nat.reduceEqDiff, Nat.reduceAdd, Nat.reduceBEq, Nat.reduceLeDiff, Nat.reduceMul, Nat.reduceLT, Int.reduceToNat, reduceCtorEq, Int.reduceAdd, Int.reduceSub, Int.reduceMul, Int.reduceNeg, Int.reduceLT, Int.reduceLE, Int.reduceEq], Grs.refl _, OwnZ.nil, rfl, Nat.zero_le _, by simp, rfl⟩
  · rintro hW ⟨hgW, htW, hGW⟩ m ⟨tm, hp⟩ ⟨i, v, out, h25, h26, h27, h6, hG, hO, hol, hle, heq, rfl⟩
    simp only at h25 h26 h27 h6 hG hO
    have hn := hG.next
    have hgp : hp.get tw = some (.row (W.map .str) true st0) := (hG.get htW).trans hgW
    by_cases hlt : i < W.length
    · have hlt' : (i : Int) < W.length := by omega
      have hle1 : i + 1 ≤ W.length := hlt
      have hw : (W.map AV.str)[i]? = some (.str W[i]) := by simp [hlt]
      have hwl := hpart W[i] (List.getElem_mem hlt)
      have hstep := parseGo_step (out := out) hlt
      generalize W[i] = w at *
      cases hok : (rdV w).2
      · have he := errV_no (i := i) (out := out) hok
        by_cases hi0 : (0 : Int) < i
        all_goals repeat' (with_reducible first | simp (disch := first | assumption | omega | (simp only [go_sem, ne_eq, Nat.reduceAdd, Nat.reduceLeDiff] <;> omega) | fail) only [go_sem, ↓reduceIte, Nat.reduceEqDiff, Nat.reduceAdd, Nat.reduceBEq, Nat.reduceLeDiff, Nat.reduceMul, Nat.reduceLT, Int.reduceToNat, reduceCtorEq, Int.reduceAdd, Int.reduceSub, Int.reduceMul, Int.reduceNeg, Int.reduceLT, Int.reduceLE, Int.reduceEq, h25, h26, h27, h6, hlt', hgp, hw, hle1, Nat.mul_one, List.length_map, hok, c131t, c131f, c131, hi0, first4_25] | (refine Gv.wp (c158 (by omega)) fun _ _ _ _ => ?_) | (refine Gv.wp (c46) fun _ _ _ _ => ?_) | (refine Gv.wp (g159 hO.row (by (try first | refine ⟨trivial, ?_⟩ | refine ⟨rfl, ?_⟩); (repeat (first | exact Grs.refl _ | assumption | refine Grs.push ?_ | refine Grs.ov ?_ | refine Grs.put ?_ (by (try simp only [Hp.next_push, Hp.next_put, Hp.ov_next, Hp.clk_push, Hp.clk_put, Hp.ov_clk]); omega))))) fun _ _ _ _ => ?_) | (refine Gv.wp (c130_4 (Hp.push_at (by (first | omega | (simp only [Hp.next_push, Hp.next_put, Hp.ov_next, Hp.clk_push, Hp.clk_put, Hp.ov_clk] <;> omega) | fail))) (by (first | omega | (simp only [Hp.next_push, Hp.next_put, Hp.ov_next, Hp.clk_push, Hp.clk_put, Hp.ov_clk] <;> omega) | fail))) fun _ _ _ _ => ?_) | ((first | apply k1 | apply k2 | apply k3 | apply k4 | apply k5 | apply k6 | apply k7) <;> intro hc))
        all_goals rw [heq, hstep, he]
        all_goals refine ⟨⟨.nils, by simp, OwnZ.nil.row (h0 := h)⟩, ?_⟩
        all_goals refine hGW.trans (hG.trans ?_)
        all_goals (try first | refine ⟨trivial, ?_⟩ | refine ⟨rfl, ?_⟩); (repeat (first | exact Grs.refl _ | assumption | refine Grs.push ?_ | refine Grs.ov ?_ | refine Grs.put ?_ (by (try simp only [Hp.next_push, Hp.next_put, Hp.ov_next, Hp.clk_push, Hp.clk_put, Hp.ov_clk]); omega)))
      · by_cases hi0 : (0 : Int) < i
        · have he := errV_ok (out := out) hok (i := i) (by omega)
          by_cases he0 : errV i out w = 0
          · rw [he0, if_neg (by simp)] at hstep
            repeat' (with_reducible first | simp (disch := first | assumption | omega | (simp only [go_sem, ne_eq, Nat.reduceAdd, Nat.reduceLeDiff] <;> omega) | fail) only [go_sem, ↓reduceIte, Nat.reduceEqDiff, Nat.reduceAdd, Nat.reduceBEq, Nat.reduceLeDiff, Nat.reduceMul, Nat.reduceLT, Int.reduceToNat, reduceCtorEq, Int.reduceAdd, Int.reduceSub, Int.reduceMul, Int.reduceNeg, Int.reduceLT, Int.reduceLE, Int.reduceEq, h25, h26, h27, h6, hlt', hgp, hw, hle1, Nat.mul_one, List.length_map, hok, c131t, c131f, c131, hi0, he, he0] | (refine Gv.wp (c158 (by omega)) fun _ _ _ _ => ?_) | (refine Gv.wp (c46) fun _ _ _ _ => ?_) | (refine Gv.wp (g159 hO.row (by (try first | refine ⟨trivial, ?_⟩ | refine ⟨rfl, ?_⟩); (repeat (first | exact Grs.refl _ | assumption | refine Grs.push ?_ | refine Grs.ov ?_ | refine Grs.put ?_ (by (try simp only [Hp.next_push, Hp.next_put, Hp.ov_next, Hp.clk_push, Hp.clk_put, Hp.ov_clk]); omega))))) fun _ _ _ _ => ?_) | (refine Gv.wp (c130_4 (Hp.push_at (by (first | omega | (simp only [Hp.next_push, Hp.next_put, Hp.ov_next, Hp.clk_push, Hp.clk_put, Hp.ov_clk] <;> omega) | fail))) (by (first | omega | (simp only [Hp.next_push, Hp.next_put, Hp.ov_next, Hp.clk_push, Hp.clk_put, Hp.ov_clk] <;> omega) | fail))) fun _ _ _ _ => ?_) | ((first | apply k1 | apply k2 | apply k3 | apply k4 | apply k5 | apply k6 | apply k7) <;> intro hc))
            refine OwnZ.wp (h0 := hW) (b := 48) (by (first | omega | (simp only [Hp.next_push, Hp.next_put, Hp.ov_next, Hp.clk_push, Hp.clk_put, Hp.ov_clk] <;> omega) | fail)) (hG.trans (by (try first | refine ⟨trivial, ?_⟩ | refine ⟨rfl, ?_⟩); (repeat (first | exact Grs.refl _ | assumption | refine Grs.push ?_ | refine Grs.ov ?_ | refine Grs.put ?_ (by (try simp only [Hp.next_push, Hp.next_put, Hp.ov_next, Hp.clk_push, Hp.clk_put, Hp.ov_clk]); omega))))) (hO.grs (by (try first | refine ⟨trivial, ?_⟩ | refine ⟨rfl, ?_⟩); (repeat (first | exact Grs.refl _ | assumption | refine Grs.push ?_ | refine Grs.ov ?_ | refine Grs.put ?_ (by (try simp only [Hp.next_push, Hp.next_put, Hp.ov_next, Hp.clk_push, Hp.clk_put, Hp.ov_clk]); omega))))) rfl (by omega) (by omega) (by omega) fun v' h'' hG' hO' => ?_
            simp (disch := first | assumption | omega | (simp only [go_sem, ne_eq, Nat.reduceAdd, Nat.reduceLeDiff] <;> omega) | fail) only [go_sem, ↓reduceIte, Nat.reduceEqDiff, Nat.reduceAdd, Nat.reduceBEq, Nat.reduceLeDiff, Nat.reduceMul, Nat.reduceLT, Int.reduceToNat, reduceCtorEq, Int.reduceAdd, Int.reduceSub, Int.reduceMul, Int.reduceNeg, Int.reduceLT, Int.reduceLE, Int.reduceEq, h25, h26, h27]
            exact ⟨_, by omega, i + 1, v', out ++ [(rdV w).1], rfl, rfl, hG', by simpa [Tk.l] using hO', by simp [hol], hle1, heq.trans hstep, rfl⟩
          · rw [if_pos he0] at hstep
            repeat' (with_reducible first | simp (disch := first | assumption | omega | (simp only [go_sem, ne_eq, Nat.reduceAdd, Nat.reduceLeDiff] <;> omega) | fail) only [go_sem, ↓reduceIte, Nat.reduceEqDiff, Nat.reduceAdd, Nat.reduceBEq, Nat.reduceLeDiff, Nat.reduceMul, Nat.reduceLT, Int.reduceToNat, reduceCtorEq, Int.reduceAdd, Int.reduceSub, Int.reduceMul, Int.reduceNeg, Int.reduceLT, Int.reduceLE, Int.reduceEq, h25, h26, h27, h6, hlt', hgp, hw, hle1, Nat.mul_one, List.length_map, hok, c131t, c131f, c131, hi0, he, he0] | (refine Gv.wp (c158 (by omega)) fun _ _ _ _ => ?_) | (refine Gv.wp (c46) fun _ _ _ _ => ?_) | (refine Gv.wp (g159 hO.row (by (try first | refine ⟨trivial, ?_⟩ | refine ⟨rfl, ?_⟩); (repeat (first | exact Grs.refl _ | assumption | refine Grs.push ?_ | refine Grs.ov ?_ | refine Grs.put ?_ (by (try simp only [Hp.next_push, Hp.next_put, Hp.ov_next, Hp.clk_push, Hp.clk_put, Hp.ov_clk]); omega))))) fun _ _ _ _ => ?_) | (refine Gv.wp (c130_4 (Hp.push_at (by (first | omega | (simp only [Hp.next_push, Hp.next_put, Hp.ov_next, Hp.clk_push, Hp.clk_put, Hp.ov_clk] <;> omega) | fail))) (by (first | omega | (simp only [Hp.next_push, Hp.next_put, Hp.ov_next, Hp.clk_push, Hp.clk_put, Hp.ov_clk] <;> omega) | fail))) fun _ _ _ _ => ?_) | ((first | apply k1 | apply k2 | apply k3 | apply k4 | apply k5 | apply k6 | apply k7) <;> intro hc))
            rw [heq, hstep]
            refine ⟨⟨.nils, by simp, OwnZ.nil.row (h0 := h)⟩, ?_⟩
            refine hGW.trans (hG.trans ?_)
            (try first | refine ⟨trivial, ?_⟩ | refine ⟨rfl, ?_⟩); (repeat (first | exact Grs.refl _ | assumption | refine Grs.push ?_ | refine Grs.ov ?_ | refine Grs.put ?_ (by (try simp only [Hp.next_push, Hp.next_put, Hp.ov_next, Hp.clk_push, Hp.clk_put, Hp.ov_clk]); omega)))
        · obtain rfl : i = 0 := by omega
          have he := errV_zero (out := out) hok
          by_cases he0 : errV 0 out w = 0
          · rw [he0, if_neg (by simp)] at hstep
            repeat' (with_reducible first | simp (disch := first | assumption | omega | (simp only [go_sem, ne_eq, Nat.reduceAdd, Nat.reduceLeDiff] <;> omega) | fail) only [go_sem, ↓reduceIte, Nat.reduceEqDiff, Nat.reduceAdd, Nat.reduceBEq, Nat.reduceLeDiff, Nat.reduceMul, Nat.reduceLT, Int.reduceToNat, reduceCtorEq, Int.reduceAdd, Int.reduceSub, Int.reduceMul, Int.reduceNeg, Int.reduceLT, Int.reduceLE, Int.reduceEq, h25, h26, h27, h6, hlt', hgp, hw, hle1, Nat.mul_one, List.length_map, hok, c131t, c131f, c131, hi0, he, he0] | (refine Gv.wp (c158 (by omega)) fun _ _ _ _ => ?_) | (refine Gv.wp (c46) fun _ _ _ _ => ?_) | (refine Gv.wp (c130_4 (Hp.push_at (by (first | omega | (simp only [Hp.next_push, Hp.next_put, Hp.ov_next, Hp.clk_push, Hp.clk_put, Hp.ov_clk] <;> omega) | fail))) (by (first | omega | (simp only [Hp.next_push, Hp.next_put, Hp.ov_next, Hp.clk_push, Hp.clk_put, Hp.ov_clk] <;> omega) | fail))) fun _ _ _ _ => ?_) | ((first | apply k1 | apply k2 | apply k3 | apply k4 | apply k5 | apply k6 | apply k7) <;> intro hc))
            refine OwnZ.wp (h0 := hW) (b := 48) (by (first | omega | (simp only [Hp.next_push, Hp.next_put, Hp.ov_next, Hp.clk_push, Hp.clk_put, Hp.ov_clk] <;> omega) | fail)) (hG.trans (by (try first | refine ⟨trivial, ?_⟩ | refine ⟨rfl, ?_⟩); (repeat (first | exact Grs.refl _ | assumption | refine Grs.push ?_ | refine Grs.ov ?_ | refine Grs.put ?_ (by (try simp only [Hp.next_push, Hp.next_put, Hp.ov_next, Hp.clk_push, Hp.clk_put, Hp.ov_clk]); omega))))) (hO.grs (by (try first | refine ⟨trivial, ?_⟩ | refine ⟨rfl, ?_⟩); (repeat (first | exact Grs.refl _ | assumption | refine Grs.push ?_ | refine Grs.ov ?_ | refine Grs.put ?_ (by (try simp only [Hp.next_push, Hp.next_put, Hp.ov_next, Hp.clk_push, Hp.clk_put, Hp.ov_clk]); omega))))) rfl (by omega) (by omega) (by omega) fun v' h'' hG' hO' => ?_
            simp (disch := first | assumption | omega | (simp only [go_sem, ne_eq, Nat.reduceAdd, Nat.reduceLeDiff] <;> omega) | fail) only [go_sem, ↓reduceIte, Nat.reduceEqDiff, Nat.reduceAdd, Nat.reduceBEq, Nat.reduceLeDiff, Nat.reduceMul, Nat.reduceLT, Int.reduceToNat, reduceCtorEq, Int.reduceAdd, Int.reduceSub, Int.reduceMul, Int.reduceNeg, Int.reduceLT, Int.reduceLE, Int.reduceEq, h25, h26, h27]
            exact ⟨_, by omega, 0 + 1, v', out ++ [(rdV w).1], rfl, rfl, hG', by simpa [Tk.l] using hO', by simp [hol], hle1, heq.trans hstep, rfl⟩
          · rw [if_pos he0] at hstep
            repeat' (with_reducible first | simp (disch := first | assumption | omega | (simp only [go_sem, ne_eq, Nat.reduceAdd, Nat.reduceLeDiff] <;> omega) | fail) only [go_sem, ↓reduceIte, Nat.reduceEqDiff, Nat.reduceAdd, Nat.reduceBEq, Nat.reduceLeDiff, Nat.reduceMul, Nat.reduceLT, Int.reduceToNat, reduceCtorEq, Int.reduceAdd, Int.reduceSub, Int.reduceMul, Int.reduceNeg, Int.reduceLT, Int.reduceLE, Int.reduceEq, h25, h26, h27, h6, hlt', hgp, hw, hle1, Nat.mul_one, List.length_map, hok, c131t, c131f, c131, hi0, he, he0] | (refine Gv.wp (c158 (by omega)) fun _ _ _ _ => ?_) | (refine Gv.wp (c46) fun _ _ _ _ => ?_) | (refine Gv.wp (c130_4 (Hp.push_at (by (first | omega | (simp only [Hp.next_push, Hp.next_put, Hp.ov_next, Hp.clk_push, Hp.clk_put, Hp.ov_clk] <;> omega) | fail))) (by (first | omega | (simp only [Hp.next_push, Hp.next_put, Hp.ov_next, Hp.clk_push, Hp.clk_put, Hp.ov_clk] <;> omega) | fail))) fun _ _ _ _ => ?_) | ((first | apply k1 | apply k2 | apply k3 | apply k4 | apply k5 | apply k6 | apply k7) <;> intro hc))
            rw [heq, hstep]
            refine ⟨⟨.nils, by simp, OwnZ.nil.row (h0 := h)⟩, ?_⟩
            refine hGW.trans (hG.trans ?_)
            (try first | refine ⟨trivial, ?_⟩ | refine ⟨rfl, ?_⟩); (repeat (first | exact Grs.refl _ | assumption | refine Grs.push ?_ | refine Grs.ov ?_ | refine Grs.put ?_ (by (try simp only [Hp.next_push, Hp.next_put, Hp.ov_next, Hp.clk_push, Hp.clk_put, Hp.ov_clk]); omega)))
    · have hlt' : ¬ (i : Int) < W.length := by omega
      obtain rfl : i = W.length := by omega
      repeat' (with_reducible first | simp (disch := first | assumption | omega | (simp only [go_sem, ne_eq, Nat.reduceAdd, Nat.reduceLeDiff] <;> omega) | fail) only [go_sem, ↓reduceIte, Nat.reduceEqDiff, Nat.reduceAdd, Nat.reduceBEq, Nat.reduceLeDiff, Nat.reduceMul, Nat.reduceLT, Int.reduceToNat, reduceCtorEq, Int.reduceAdd, Int.reduceSub, Int.reduceMul, Int.reduceNeg, Int.reduceLT, Int.reduceLE, Int.reduceEq, h25, h26, h27, h6, hlt'] | ((first | apply k1 | apply k2 | apply k3 | apply k4 | apply k5 | apply k6 | apply k7) <;> intro hc))
      have e : parseGo 0 [] W = (out, 0, 0) := by rw [heq, List.drop_length]; rfl
      rw [e]
      exact ⟨⟨v, rfl, hO.row⟩, hGW.trans hG⟩
end
end Go.Ae


/- Tickets: Print of the program. -/
set_option linter.unusedVariables false
set_option linter.unusedSimpArgs false
set_option maxRecDepth 100000
namespace Go.Ae
open N Go.Proofs
def Tk.s (k : Tk) : List UInt8 := txtS k.d k.n k.p k.t k.z
def kindE (d0 : List UInt8) (k : Tk) : Int := first2 k.e (if ¬ k.d = d0 then 13 else 0)
def goE (d0 : List UInt8) : List Tk → Int
  | [] => 0
  | k :: r => if kindE d0 k = 0 then goE d0 r else kindE d0 k
def allE (l : List Tk) : Int := if l = [] then 12 else if 256 < l.length then 5 else goE (headD l) l
def joinT (l : List Tk) : List UInt8 := Lib.join (l.map Tk.s) [32, 47, 32]
def prS (l : List Tk) : List UInt8 × Int := if allE l = 0 then (joinT l, 0) else ([], allE l)
theorem kind_zero {d0 : List UInt8} {k : Tk} (h : kindE d0 k = 0) : k.e = 0 ∧ k.d = d0 := by
  unfold kindE first2 at h
  by_cases h1 : k.e = 0
  · rw [if_pos h1] at h
    by_cases h2 : k.d = d0
    · exact ⟨h1, h2⟩
    · rw [if_pos h2] at h; cases h
  · rw [if_neg h1] at h; exact absurd h h1
/-- A ticket without an error is of one of both disciplines, and has small numbers. -/
theorem e_zero {k : Tk} (h : k.e = 0) : (k.d = leadW ∧ 0 ≤ k.n ∧ k.n ≤ 64) ∨ (¬ k.d = leadW ∧ k.d = boulW ∧ 0 ≤ k.t ∧ k.t ≤ 99 ∧ 0 ≤ k.z ∧ k.z ≤ 99) := by
  unfold Tk.e chkE at h
  by_cases h1 : k.d = leadW
  · rw [if_pos h1] at h
    unfold leadE at h
    split at h
    · cases h
    · exact .inl ⟨h1, by omega, by omega⟩
  · rw [if_neg h1] at h
    by_cases h2 : k.d = boulW
    · rw [if_pos h2] at h
      unfold boulE at h
      split at h
      · cases h
      · exact .inr ⟨h1, h2, by omega, by omega, by omega, by omega⟩
    · rw [if_neg h2] at h; cases h
theorem goE_step {d0 : List UInt8} {l : List Tk} {i : Nat} (hi : i < l.length) : goE d0 (l.drop i) = if kindE d0 l[i] = 0 then goE d0 (l.drop (i + 1)) else kindE d0 l[i] := by
  rw [List.drop_eq_getElem_cons hi, goE]
theorem strsA_map : ∀ l : List (List UInt8), L.strsA (l.map .str) = some l
  | [] => rfl
  | x :: l => by simp only [List.map_cons, L.strsA, strsA_map l]
theorem joinTail_len {sep : List UInt8} {B : Nat} : ∀ {r : List (List UInt8)}, (∀ w ∈ r, w.length ≤ B) → (Lib.joinTail sep r).length ≤ r.length * (B + sep.length)
  | [], _ => by simp [Lib.joinTail]
  | x :: r, h => by
    have h1 := h x (by simp)
    have h2 := joinTail_len (sep := sep) (r := r) (fun w hw => h w (by simp [hw]))
    simp only [Lib.joinTail, List.map_cons, List.flatten_cons, List.length_append, List.length_cons, Nat.add_mul] at *
    omega
theorem join_len {sep : List UInt8} {B : Nat} {l : List (List UInt8)} (h : ∀ w ∈ l, w.length ≤ B) : (Lib.join l sep).length ≤ l.length * (B + sep.length) := by
  cases l with
  | nil => simp [Lib.join_nil]
  | cons x r =>
    have h1 := h x (by simp)
    have h2 := joinTail_len (sep := sep) (r := r) (fun w hw => h w (by simp [hw]))
    rw [Lib.join_cons, List.length_append, List.length_cons, Nat.add_mul]
    omega
theorem s_len {k : Tk} (h : k.e = 0) : k.s.length ≤ 62 := by
  unfold Tk.s txtS
  rcases e_zero h with ⟨h1, h2, h3⟩ | ⟨h1, h2, h3, h4, h5, h6⟩
  · rw [if_pos h1]
    have := decP_b (n := k.n.toNat) (k := 1) (by omega) (by omega)
    unfold leadS; split
    · simp
    · split <;> simp <;> omega
  · rw [if_neg h1]
    have l1 := att_len (c := 84) (n := k.t) (by omega)
    have l2 := att_len (c := 90) (n := k.z) (by omega)
    unfold boulS
    simp only [List.length_append, List.length_cons, List.length_nil]; omega
section
variable {h : Hp} {K : AV → Hp → Prop}
theorem c155 {h0 : Hp} {v : AV} {W : List (List UInt8)} {sep : List UInt8} (hO : RowS 1 h v W.length (W.map .str)) (hL : W.length ≤ 140737488355328) (hJ : (Lib.join W sep).length ≤ 140737488355328) :
    CallWp E2 155 [v, .str sep] h K ↔ K (.str (Lib.join W sep)) h := by
  rw [CallWp.prim_iff (p := L.p155) rfl rfl]
  have e : L.p155 [v, .str sep] h = some (.str (Lib.join W sep), h) := by
    obtain ⟨hlen, ⟨rfl, hn⟩ | ⟨t, own, st, rfl, hg, ht, hst⟩⟩ := hO
    · obtain rfl := List.length_eq_zero_iff.1 hn
      rfl
    · cases hc : W.length with
      | zero =>
        obtain rfl := List.length_eq_zero_iff.1 hc
        rfl
      | succ n =>
        have := cells_all (n := W.length) (z := 1) hg hlen
        rw [hc] at this
        simp only [L.p155, this, strsA_map]
        rw [if_pos ⟨hL, hJ⟩]
  rw [e]; exact Iff.rfl
theorem g155 {h0 : Hp} {v : AV} {W : List (List UInt8)} {sep : List UInt8} (hO : RowS 1 h0 v W.length (W.map .str)) (g : Grs h0 h) (hL : W.length ≤ 140737488355328) (hJ : (Lib.join W sep).length ≤ 140737488355328) :
    Gv E2 155 [v, .str sep] h (.str (Lib.join W sep)) := Gv.of ((c155 (h0 := h0) (hO.grs g) hL hJ).2 ⟨rfl, Grs.refl h⟩)
theorem head_get {l : List Tk} (h0 : ¬ l = []) : (l.flatMap Tk.l)[0]? = some (.str (headD l)) := by
  cases l with
  | nil => exact absurd rfl h0
  | cons k r => rfl
theorem c48 {v : AV} {l : List Tk} (hS : RowS 5 h v l.length (l.flatMap Tk.l)) (hl : l.length ≤ 1000) : Gv E2 48 [v] h (.tup [.str (prS l).1, .int .i64 (prS l).2]) := by
  refine Gv.of (CallWp.fn (fn := C.a48) rfl rfl rfl ?_)
  unfold C.a48
  obtain ⟨hlen, ⟨rfl, hn⟩ | ⟨t, own, st, rfl, hg, ht, hst⟩⟩ := hS
  · obtain rfl := List.length_eq_zero_iff.1 hn
    repeat' (with_reducible first | simp (disch := first | assumption | omega | (simp only [go_sem, ne_eq, Nat.reduceAdd, Nat.reduceLeDiff] <;> omega) | fail) only [go_sem, ↓reduceIte, Nat.reduceEqDiff, Nat.reduceAdd, Nat.reduceBEq, Nat.reduceLeDiff, Nat.reduceMul, Nat.reduceLT, Int.reduceToNat, reduceCtorEq, Int.reduceAdd, Int.reduceSub, Int.reduceMul, Int.reduceNeg, Int.reduceLT, Int.reduceLE, Int.reduceEq, c131, c131t, c131f, first2] | (refine Gv.wp (c130_2 (Hp.push_at (by (first | omega | (simp only [Hp.next_push, Hp.next_put, Hp.ov_next, Hp.clk_push, Hp.clk_put, Hp.ov_clk] <;> omega) | fail))) (by (first | omega | (simp only [Hp.next_push, Hp.next_put, Hp.ov_next, Hp.clk_push, Hp.clk_put, Hp.ov_clk] <;> omega) | fail))) fun _ _ _ _ => ?_) | ((first | apply k1 | apply k2 | apply k3 | apply k4 | apply k5 | apply k6 | apply k7) <;> intro hc))
    refine ⟨by simp [prS, allE], ?_⟩
    (try first | refine ⟨trivial, ?_⟩ | refine ⟨rfl, ?_⟩); (repeat (first | exact Grs.refl _ | assumption | refine Grs.push ?_ | refine Grs.ov ?_ | refine Grs.put ?_ (by (try simp only [Hp.next_push, Hp.next_put, Hp.ov_next, Hp.clk_push, Hp.clk_put, Hp.ov_clk]); omega)))
  by_cases h0 : l = []
  · subst h0
    simp only [List.length_nil]
    repeat' (with_reducible first | simp (disch := first | assumption | omega | (simp only [go_sem, ne_eq, Nat.reduceAdd, Nat.reduceLeDiff] <;> omega) | fail) only [go_sem, ↓reduceIte, Nat.reduceEqDiff, Nat.reduceAdd, Nat.reduceBEq, Nat.reduceLeDiff, Nat.reduceMul, Nat.reduceLT, Int.reduceToNat, reduceCtorEq, Int.reduceAdd, Int.reduceSub, Int.reduceMul, Int.reduceNeg, Int.reduceLT, Int.reduceLE, Int.reduceEq, c131, c131t, c131f, first2] | (refine Gv.wp (c130_2 (Hp.push_at (by (first | omega | (simp only [Hp.next_push, Hp.next_put, Hp.ov_next, Hp.clk_push, Hp.clk_put, Hp.ov_clk] <;> omega) | fail))) (by (first | omega | (simp only [Hp.next_push, Hp.next_put, Hp.ov_next, Hp.clk_push, Hp.clk_put, Hp.ov_clk] <;> omega) | fail))) fun _ _ _ _ => ?_) | ((first | apply k1 | apply k2 | apply k3 | apply k4 | apply k5 | apply k6 | apply k7) <;> intro hc))
    refine ⟨by simp [prS, allE], ?_⟩
    (try first | refine ⟨trivial, ?_⟩ | refine ⟨rfl, ?_⟩); (repeat (first | exact Grs.refl _ | assumption | refine Grs.push ?_ | refine Grs.ov ?_ | refine Grs.put ?_ (by (try simp only [Hp.next_push, Hp.next_put, Hp.ov_next, Hp.clk_push, Hp.clk_put, Hp.ov_clk]); omega)))
  have hpos : 0 < l.length := List.length_pos_iff.2 h0
  have h0' : ¬ (l.length : Int) = 0 := by omega
  have h00 : (0 : Int) < l.length := by omega
  by_cases h1 : 256 < l.length
  · have h1' : (256 : Int) < l.length := by omega
    have e : prS l = ([], 5) := by simp [prS, allE, h0, h1]
    rw [e]
    repeat' (with_reducible first | simp (disch := first | assumption | omega | (simp only [go_sem, ne_eq, Nat.reduceAdd, Nat.reduceLeDiff] <;> omega) | fail) only [go_sem, ↓reduceIte, Nat.reduceEqDiff, Nat.reduceAdd, Nat.reduceBEq, Nat.reduceLeDiff, Nat.reduceMul, Nat.reduceLT, Int.reduceToNat, reduceCtorEq, Int.reduceAdd, Int.reduceSub, Int.reduceMul, Int.reduceNeg, Int.reduceLT, Int.reduceLE, Int.reduceEq, c131, c131t, c131f, h0', h1', first2] | (refine Gv.wp (c130_2 (Hp.push_at (by (first | omega | (simp only [Hp.next_push, Hp.next_put, Hp.ov_next, Hp.clk_push, Hp.clk_put, Hp.ov_clk] <;> omega) | fail))) (by (first | omega | (simp only [Hp.next_push, Hp.next_put, Hp.ov_next, Hp.clk_push, Hp.clk_put, Hp.ov_clk] <;> omega) | fail))) fun _ _ _ _ => ?_) | ((first | apply k1 | apply k2 | apply k3 | apply k4 | apply k5 | apply k6 | apply k7) <;> intro hc))
    (try first | refine ⟨trivial, ?_⟩ | refine ⟨rfl, ?_⟩); (repeat (first | exact Grs.refl _ | assumption | refine Grs.push ?_ | refine Grs.ov ?_ | refine Grs.put ?_ (by (try simp only [Hp.next_push, Hp.next_put, Hp.ov_next, Hp.clk_push, Hp.clk_put, Hp.ov_clk]); omega)))
  have h1' : ¬ (256 : Int) < l.length := by omega
  have eA : allE l = goE (headD l) l := by simp [allE, h0, h1]
  have hd0 := head_get h0
  have hlc : 1 ≤ (l.flatMap Tk.l).length := by rw [hlen]; omega
  have hls := hlen
  repeat' (with_reducible first | simp (disch := first | assumption | omega | (simp only [go_sem, ne_eq, Nat.reduceAdd, Nat.reduceLeDiff] <;> omega) | fail) only [go_sem, ↓reduceIte, Nat.reduceEqDiff, Nat.reduceAdd, Nat.reduceBEq, Nat.reduceLeDiff, Nat.reduceMul, Nat.reduceLT, Int.reduceToNat, reduceCtorEq, Int.reduceAdd, Int.reduceSub, Int.reduceMul, Int.reduceNeg, Int.reduceLT, Int.reduceLE, Int.reduceEq, c131, c131t, c131f, h0', h1', first2] | (refine Gv.wp (c130_2 (Hp.push_at (by (first | omega | (simp only [Hp.next_push, Hp.next_put, Hp.ov_next, Hp.clk_push, Hp.clk_put, Hp.ov_clk] <;> omega) | fail))) (by (first | omega | (simp only [Hp.next_push, Hp.next_put, Hp.ov_next, Hp.clk_push, Hp.clk_put, Hp.ov_clk] <;> omega) | fail))) fun _ _ _ _ => ?_) | ((first | apply k1 | apply k2 | apply k3 | apply k4 | apply k5 | apply k6 | apply k7) <;> intro hc))
  refine Gp.wp c154 fun vm h' k j g ⟨tm, sm, e, hgm, htm⟩ => ?_
  subst e
  simp only [Hp.next_push, Hp.next_put, Hp.ov_next, Hp.clk_push, Hp.clk_put, Hp.ov_clk] at htm
  repeat' (with_reducible first | simp (disch := first | assumption | omega | (simp only [go_sem, ne_eq, Nat.reduceAdd, Nat.reduceLeDiff] <;> omega) | fail) only [go_sem, ↓reduceIte, Nat.reduceEqDiff, Nat.reduceAdd, Nat.reduceBEq, Nat.reduceLeDiff, Nat.reduceMul, Nat.reduceLT, Int.reduceToNat, reduceCtorEq, Int.reduceAdd, Int.reduceSub, Int.reduceMul, Int.reduceNeg, Int.reduceLT, Int.reduceLE, Int.reduceEq] | ((first | apply k1 | apply k2 | apply k3 | apply k4 | apply k5 | apply k6 | apply k7) <;> intro hc))
  refine Wp.loopG (fun hW => hW.get t = some (.row (l.flatMap Tk.l) own st) ∧ t < hW.next ∧ st ≤ hW.clk ∧ hW.get tm = some (.amap dis sm) ∧ tm < hW.next ∧ Grs h hW) ⟨by simp (disch := first | assumption | omega | (simp only [go_sem, ne_eq, Nat.reduceAdd, Nat.reduceLeDiff] <;> omega) | fail) only [go_sem, ↓reduceIte, Nat.reduceEqDiff, Nat.reduceAdd, Nat.reduceBEq, Nat.reduceLeDiff, Nat.reduceMul, Nat.reduceLT, Int.reduceToNat, reduceCtorEq, Int.reduceAdd, Int.reduceSub, Int.reduceMul, Int.reduceNeg, Int.reduceLT, Int.reduceLE, Int.reduceEq, hg], by (first | omega | (simp only [Hp.next_push, Hp.next_put, Hp.ov_next, Hp.clk_push, Hp.clk_put, Hp.ov_clk] <;> omega) | fail), by (first | omega | (simp only [Hp.next_push, Hp.next_put, Hp.ov_next, Hp.clk_push, Hp.clk_put, Hp.ov_clk] <;> omega) | fail), by simp (disch := first | assumption | omega | (simp only [go_sem, ne_eq, Nat.reduceAdd, Nat.reduceLeDiff] <;> omega) | fail) only [go_sem, ↓reduceIte, Nat.reduceEqDiff, Nat.reduceAdd, Nat.reduceBEq, Nat.reduceLeDiff, Nat.reduceMul, Nat.reduceLT, Int.reduceToNat, reduceCtorEq, Int.reduceAdd, Int.reduceSub, Int.reduceMul, Int.reduceNeg, Int.reduceLT, Int.reduceLE, Int.reduceEq, hgm], by (first | omega | (simp only [Hp.next_push, Hp.next_put, Hp.ov_next, Hp.clk_push, Hp.clk_put, Hp.ov_clk] <;> omega) | fail), by (dsimp only; (try first | refine ⟨trivial, ?_⟩ | refine ⟨rfl, ?_⟩); (repeat (first | exact Grs.refl _ | assumption | refine Grs.push ?_ | refine Grs.ov ?_ | refine Grs.put ?_ (by (try simp only [Hp.next_push, Hp.next_put, Hp.ov_next, Hp.clk_push, Hp.clk_put, Hp.ov_clk]); omega))))⟩
    (fun hW m s => ∃ (i : Nat) (v : AV), val s.tm (.t 24) = .sl t 0 l.length 5 ∧ val s.tm (.t 0) = .sl t 0 l.length 5 ∧ val s.tm (.t 25) = .int .i64 l.length ∧ val s.tm (.t 26) = .int .i64 i ∧ val s.tm (.t 5) = .map tm ∧ val s.tm (.t 6) = v ∧
      Grs hW s.hp ∧ OwnZ 1 hW s.hp v i (((l.take i).map Tk.s).map .str) ∧ i ≤ l.length ∧ (∀ k ∈ l.take i, k.e = 0) ∧ goE (headD l) l = goE (headD l) (l.drop i) ∧ m = l.length - i) (n := l.length) ?_ ?_
  · exact ⟨0, .nils, by simp (disch := first | assumption | omega | (simp only [go_sem, ne_eq, Nat.reduceAdd, Nat.reduceLeDiff] <;> omega) | fail) only [go_sem, ↓reduceIte, Nat.reduceEqDiff, Nat.reduceAdd, Nat.reduceBEq, Nat.reduceLeDiff, Nat.reduceMul, Nat.reduceLT, Int.reduceToNat, reduceCtorEq, Int.reduceAdd, Int.reduceSub, Int.reduceMul, Int.reduceNeg, Int.reduceLT, Int.reduceLE, Int.reduceEq], by simp (disch := first | assumption | omega | (simp only [go_sem, ne_eq, Nat.reduceAdd, Nat.reduceLeDiff] <;> omega) | fail) only [go_sem, ↓reduceIte, Nat.reduceEqDiff, Nat.reduceAdd, Nat.reduceBEq, Nat.reduceLeDiff, Nat.reduceMul, Nat.reduceLT, Int.reduceToNat, reduceCtorEq, Int.reduceAdd, Int.reduceSub, Int.reduceMul, Int.reduceNeg, Int.reduceLT, Int.reduceLE, Int.reduceEq], by simp (disch := first | assumption | omega | (simp only [go_sem, ne_eq, Nat.reduceAdd, Nat.reduceLeDiff] <;> omega) | fail) only [go_sem, ↓reduceIte, Nat.reduceEqDiff, Nat.reduceAdd, Nat.reduceBEq, Nat.reduceLeDiff, Nat.reduceMul, Nat.reduceLT, Int.reduceToNat, reduceCtorEq, Int.reduceAdd, Int.reduceSub, Int.reduceMul, Int.reduceNeg, Int.reduceLT, Int.reduceLE, Int.reduceEq], by (simp (disch := first | assumption | omega | (simp only [go_sem, ne_eq, Nat.reduceAdd, Nat.reduceLeDiff] <;> omega) | fail) only [go_sem, ↓reduceIte, Nat.reduceEqDiff, Nat.reduceAdd, Nat.reduceBEq, Nat.reduceLeDiff, Nat.reduceMul, Nat.reduceLT, Int.reduceToNat, reduceCtorEq, Int.reduceAdd, Int.reduceSub, Int.reduceMul, Int.reduceNeg, Int.reduceLT, Int.reduceLE, Int.reduceEq]) <;> rfl, by simp (disch := first | assumption | omega | (simp only [go_sem, ne_eq, Nat.reduceAdd, Nat.reduceLeDiff] <;> omega) | fail) only [go_sem, ↓reduceIte, Nat.reduceEqDiff, Nat.reduceAdd, Nat.reduceBEq, Nat.reduceLeDiff, Nat.reduceMul, Nat.reduceLT, Int.reduceToNat, reduceCtorEq, Int.reduceAdd, Int.reduceSub, Int.reduceMul, Int.reduceNeg, Int.reduceLT, Int.reduceLE, Int.reduceEq], by simp (disch := first | assumption | omega | (simp only [go_sem, ne_eq, Nat.reduceAdd, Nat.reduceLeDiff] <;> omega) | fail) only [go_sem, ↓reduceIte, Nat.reduceEqDiff, Nat.reduceAdd, Nat.reduceBEq, Nat.reduceLeDiff, Nat.reduceMul, Nat.reduceLT, Int.reduceToNat, reduceCtorEq, Int.reduceAdd, Int.reduceSub, Int.reduceMul, Int.reduceNeg, Int.reduceLT, Int.reduceLE, Int.reduceEq], Grs.refl _, OwnZ.nil, Nat.zero_le _, by simp, by simp, rfl⟩
  · rintro hW ⟨hgW, htW, hsW, hgM, htM, hGW⟩ m ⟨tm', hp⟩ ⟨i, v, h24, h_0, h25, h26, h5, h6, hG, hO, hle, hez, heq, rfl⟩
    simp only at h24 h_0 h25 h26 h5 h6 hG hO
    have hn := hG.next
    have hcl := hG.clk
    have hgp := (hG.get htW).trans hgW
    have hgq := (hG.get htM).trans hgM
    by_cases hlt : i < l.length
    · have hlt' : (i : Int) < l.length := by omega
      have hle1 : i * 5 + 5 ≤ (l.flatMap Tk.l).length := by rw [hls]; omega
      have hel : List.take 5 (List.drop (i * 5) (l.flatMap Tk.l)) = tkL l[i].d l[i].n l[i].p l[i].t l[i].z := flat_at Tk.l_len hlt
      have hstep := goE_step (d0 := headD l) hlt
      have htk : l.take (i + 1) = l.take i ++ [l[i]] := by rw [List.take_add_one]; simp [hlt]
      generalize l[i] = k at *
      have hk : first2 (chkE k.d k.n k.p k.t k.z) (if ¬ k.d = headD l then 13 else 0) = kindE (headD l) k := rfl
      by_cases hz : kindE (headD l) k = 0
      · obtain ⟨hz1, hz2⟩ := kind_zero hz
        rw [if_pos hz] at hstep
        have hsl := s_len hz1
        have hez' : ∀ x ∈ l.take (i + 1), x.e = 0 := by
          rw [htk]; intro x hx
          rcases List.mem_append.1 hx with hx | hx
          · exact hez x hx
          · obtain rfl := List.mem_singleton.1 hx; exact hz1
        rcases e_zero hz1 with ⟨g1, g2, g3⟩ | ⟨g1, g2, g3, g4, g5, g6⟩
        · have hs : k.s = leadS k.n k.p k.t := by unfold Tk.s txtS; rw [if_pos g1]
          have hf := find_lead
          rw [← g1] at hf
          repeat' (with_reducible first | simp (disch := first | assumption | omega | (simp only [go_sem, ne_eq, Nat.reduceAdd, Nat.reduceLeDiff] <;> omega) | fail) only [go_sem, ↓reduceIte, Nat.reduceEqDiff, Nat.reduceAdd, Nat.reduceBEq, Nat.reduceLeDiff, Nat.reduceMul, Nat.reduceLT, Int.reduceToNat, reduceCtorEq, Int.reduceAdd, Int.reduceSub, Int.reduceMul, Int.reduceNeg, Int.reduceLT, Int.reduceLE, Int.reduceEq, h24, h_0, h25, h26, h5, h6, hlt', h00, hgp, hgq, hel, hle1, hlc, hd0, Nat.mul_one, Nat.zero_mul, c131, c131t, c131f, hk, hz, hf] | (refine Gv.wp (c46) fun _ _ _ _ => ?_) | (refine Gv.wp (c130_2 (Hp.push_at (by (first | omega | (simp only [Hp.next_push, Hp.next_put, Hp.ov_next, Hp.clk_push, Hp.clk_put, Hp.ov_clk] <;> omega) | fail))) (by (first | omega | (simp only [Hp.next_push, Hp.next_put, Hp.ov_next, Hp.clk_push, Hp.clk_put, Hp.ov_clk] <;> omega) | fail))) fun _ _ _ _ => ?_) | (refine Gv.wp (c229 ⟨g2, by omega⟩) fun _ _ _ _ => ?_) | ((first | apply k1 | apply k2 | apply k3 | apply k4 | apply k5 | apply k6 | apply k7) <;> intro hc))
          refine OwnZ.wp (h0 := hW) (b := 16) (by (first | omega | (simp only [Hp.next_push, Hp.next_put, Hp.ov_next, Hp.clk_push, Hp.clk_put, Hp.ov_clk] <;> omega) | fail)) (hG.trans (by (try first | refine ⟨trivial, ?_⟩ | refine ⟨rfl, ?_⟩); (repeat (first | exact Grs.refl _ | assumption | refine Grs.push ?_ | refine Grs.ov ?_ | refine Grs.put ?_ (by (try simp only [Hp.next_push, Hp.next_put, Hp.ov_next, Hp.clk_push, Hp.clk_put, Hp.ov_clk]); omega))))) (hO.grs (by (try first | refine ⟨trivial, ?_⟩ | refine ⟨rfl, ?_⟩); (repeat (first | exact Grs.refl _ | assumption | refine Grs.push ?_ | refine Grs.ov ?_ | refine Grs.put ?_ (by (try simp only [Hp.next_push, Hp.next_put, Hp.ov_next, Hp.clk_push, Hp.clk_put, Hp.ov_clk]); omega))))) rfl (by omega) (by omega) (by omega) fun v' h'' hG' hO' => ?_
          simp (disch := first | assumption | omega | (simp only [go_sem, ne_eq, Nat.reduceAdd, Nat.reduceLeDiff] <;> omega) | fail) only [go_sem, ↓reduceIte, Nat.reduceEqDiff, Nat.reduceAdd, Nat.reduceBEq, Nat.reduceLeDiff, Nat.reduceMul, Nat.reduceLT, Int.reduceToNat, reduceCtorEq, Int.reduceAdd, Int.reduceSub, Int.reduceMul, Int.reduceNeg, Int.reduceLT, Int.reduceLE, Int.reduceEq, h24, h_0, h25, h26, h5]
          exact ⟨_, by omega, i + 1, v', rfl, rfl, hG', by rw [htk]; simpa [hs] using hO', hlt, hez', heq.trans hstep, rfl⟩
        · have hs : k.s = boulS k.t k.z := by unfold Tk.s txtS; rw [if_neg g1]
          have hf := find_boul
          rw [← g2] at hf
          repeat' (with_reducible first | simp (disch := first | assumption | omega | (simp only [go_sem, ne_eq, Nat.reduceAdd, Nat.reduceLeDiff] <;> omega) | fail) only [go_sem, ↓reduceIte, Nat.reduceEqDiff, Nat.reduceAdd, Nat.reduceBEq, Nat.reduceLeDiff, Nat.reduceMul, Nat.reduceLT, Int.reduceToNat, reduceCtorEq, Int.reduceAdd, Int.reduceSub, Int.reduceMul, Int.reduceNeg, Int.reduceLT, Int.reduceLE, Int.reduceEq, h24, h_0, h25, h26, h5, h6, hlt', h00, hgp, hgq, hel, hle1, hlc, hd0, Nat.mul_one, Nat.zero_mul, c131, c131t, c131f, hk, hz, hf] | (refine Gv.wp (c46) fun _ _ _ _ => ?_) | (refine Gv.wp (c130_2 (Hp.push_at (by (first | omega | (simp only [Hp.next_push, Hp.next_put, Hp.ov_next, Hp.clk_push, Hp.clk_put, Hp.ov_clk] <;> omega) | fail))) (by (first | omega | (simp only [Hp.next_push, Hp.next_put, Hp.ov_next, Hp.clk_push, Hp.clk_put, Hp.ov_clk] <;> omega) | fail))) fun _ _ _ _ => ?_) | (refine Gv.wp (c231 ⟨g3, by omega⟩ ⟨g5, by omega⟩) fun _ _ _ _ => ?_) | ((first | apply k1 | apply k2 | apply k3 | apply k4 | apply k5 | apply k6 | apply k7) <;> intro hc))
          refine OwnZ.wp (h0 := hW) (b := 16) (by (first | omega | (simp only [Hp.next_push, Hp.next_put, Hp.ov_next, Hp.clk_push, Hp.clk_put, Hp.ov_clk] <;> omega) | fail)) (hG.trans (by (try first | refine ⟨trivial, ?_⟩ | refine ⟨rfl, ?_⟩); (repeat (first | exact Grs.refl _ | assumption | refine Grs.push ?_ | refine Grs.ov ?_ | refine Grs.put ?_ (by (try simp only [Hp.next_push, Hp.next_put, Hp.ov_next, Hp.clk_push, Hp.clk_put, Hp.ov_clk]); omega))))) (hO.grs (by (try first | refine ⟨trivial, ?_⟩ | refine ⟨rfl, ?_⟩); (repeat (first | exact Grs.refl _ | assumption | refine Grs.push ?_ | refine Grs.ov ?_ | refine Grs.put ?_ (by (try simp only [Hp.next_push, Hp.next_put, Hp.ov_next, Hp.clk_push, Hp.clk_put, Hp.ov_clk]); omega))))) rfl (by omega) (by omega) (by omega) fun v' h'' hG' hO' => ?_
          simp (disch := first | assumption | omega | (simp only [go_sem, ne_eq, Nat.reduceAdd, Nat.reduceLeDiff] <;> omega) | fail) only [go_sem, ↓reduceIte, Nat.reduceEqDiff, Nat.reduceAdd, Nat.reduceBEq, Nat.reduceLeDiff, Nat.reduceMul, Nat.reduceLT, Int.reduceToNat, reduceCtorEq, Int.reduceAdd, Int.reduceSub, Int.reduceMul, Int.reduceNeg, Int.reduceLT, Int.reduceLE, Int.reduceEq, h24, h_0, h25, h26, h5]
          exact ⟨_, by omega, i + 1, v', rfl, rfl, hG', by rw [htk]; simpa [hs] using hO', hlt, hez', heq.trans hstep, rfl⟩
      · rw [if_neg hz] at hstep
        have e : prS l = ([], kindE (headD l) k) := by unfold prS; rw [eA, heq, hstep, if_neg hz]
        rw [e]
        repeat' (with_reducible first | simp (disch := first | assumption | omega | (simp only [go_sem, ne_eq, Nat.reduceAdd, Nat.reduceLeDiff] <;> omega) | fail) only [go_sem, ↓reduceIte, Nat.reduceEqDiff, Nat.reduceAdd, Nat.reduceBEq, Nat.reduceLeDiff, Nat.reduceMul, Nat.reduceLT, Int.reduceToNat, reduceCtorEq, Int.reduceAdd, Int.reduceSub, Int.reduceMul, Int.reduceNeg, Int.reduceLT, Int.reduceLE, Int.reduceEq, h24, h_0, h25, h26, h5, h6, hlt', h00, hgp, hgq, hel, hle1, hlc, hd0, Nat.mul_one, Nat.zero_mul, c131, c131t, c131f, hk, hz] | (refine Gv.wp (c46) fun _ _ _ _ => ?_) | (refine Gv.wp (c130_2 (Hp.push_at (by (first | omega | (simp only [Hp.next_push, Hp.next_put, Hp.ov_next, Hp.clk_push, Hp.clk_put, Hp.ov_clk] <;> omega) | fail))) (by (first | omega | (simp only [Hp.next_push, Hp.next_put, Hp.ov_next, Hp.clk_push, Hp.clk_put, Hp.ov_clk] <;> omega) | fail))) fun _ _ _ _ => ?_) | ((first | apply k1 | apply k2 | apply k3 | apply k4 | apply k5 | apply k6 | apply k7) <;> intro hc))
        refine hGW.trans (hG.trans ?_)
        (try first | refine ⟨trivial, ?_⟩ | refine ⟨rfl, ?_⟩); (repeat (first | exact Grs.refl _ | assumption | refine Grs.push ?_ | refine Grs.ov ?_ | refine Grs.put ?_ (by (try simp only [Hp.next_push, Hp.next_put, Hp.ov_next, Hp.clk_push, Hp.clk_put, Hp.ov_clk]); omega)))
    · have hlt' : ¬ (i : Int) < l.length := by omega
      obtain rfl : i = l.length := by omega
      have e : prS l = (joinT l, 0) := by
        unfold prS; rw [eA, heq, List.drop_length]; rfl
      rw [e]
      rw [List.take_length] at hO hez
      have hml : (l.map Tk.s).length = l.length := by simp
      have hjl := join_len (sep := [32, 47, 32]) (l := l.map Tk.s) (B := 62) (fun w hw => by
        rw [List.mem_map] at hw
        obtain ⟨k, hk, rfl⟩ := hw
        exact s_len (hez k hk))
      rw [hml] at hjl
      have hjb : (Lib.join (l.map Tk.s) [32, 47, 32]).length ≤ 140737488355328 := by simp only [List.length_cons, List.length_nil] at hjl; omega
      rw [← hml] at hO
      repeat' (with_reducible first | simp (disch := first | assumption | omega | (simp only [go_sem, ne_eq, Nat.reduceAdd, Nat.reduceLeDiff] <;> omega) | fail) only [go_sem, ↓reduceIte, Nat.reduceEqDiff, Nat.reduceAdd, Nat.reduceBEq, Nat.reduceLeDiff, Nat.reduceMul, Nat.reduceLT, Int.reduceToNat, reduceCtorEq, Int.reduceAdd, Int.reduceSub, Int.reduceMul, Int.reduceNeg, Int.reduceLT, Int.reduceLE, Int.reduceEq, h25, h26, h6, hlt'] | (refine Gv.wp (g155 hO.row (by (try first | refine ⟨trivial, ?_⟩ | refine ⟨rfl, ?_⟩); (repeat (first | exact Grs.refl _ | assumption | refine Grs.push ?_ | refine Grs.ov ?_ | refine Grs.put ?_ (by (try simp only [Hp.next_push, Hp.next_put, Hp.ov_next, Hp.clk_push, Hp.clk_put, Hp.ov_clk]); omega)))) (by omega) hjb) fun _ _ _ _ => ?_) | ((first | apply k1 | apply k2 | apply k3 | apply k4 | apply k5 | apply k6 | apply k7) <;> intro hc))
      refine ⟨rfl, hGW.trans (hG.trans ?_)⟩
      (try first | refine ⟨trivial, ?_⟩ | refine ⟨rfl, ?_⟩); (repeat (first | exact Grs.refl _ | assumption | refine Grs.push ?_ | refine Grs.ov ?_ | refine Grs.put ?_ (by (try simp only [Hp.next_push, Hp.next_put, Hp.ov_next, Hp.clk_push, Hp.clk_put, Hp.ov_clk]); omega)))
end
end Go.Ae


/- The abstract evaluator: an environment with more functions. -/
set_option linter.unusedVariables false
set_option linter.unusedSimpArgs false
namespace Go.Ae
/-- Further functions, where there is none. -/
noncomputable def Env.add (E : Env) (t : T AFn) : Env := { E with fns := fun n => match E.fns n with | some a => some a | none => t.get n }
structure Ge (E E' : Env) : Prop where
  fns : ∀ f a, E.fns f = some a → E'.fns f = some a
  prims : ∀ f, E'.prims f = E.prims f
  exts : ∀ f, E'.exts f = E.exts f
  meth : ∀ T n, E'.meth T n = E.meth T n
theorem Ge.refl (E : Env) : Ge E E := ⟨fun _ _ h => h, fun _ => rfl, fun _ => rfl, fun _ _ => rfl⟩
theorem Ge.trans {E E1 E2 : Env} (h : Ge E E1) (g : Ge E1 E2) : Ge E E2 :=
  ⟨fun f a e => g.fns f a (h.fns f a e), fun f => (g.prims f).trans (h.prims f), fun f => (g.exts f).trans (h.exts f), fun T n => (g.meth T n).trans (h.meth T n)⟩
theorem Ge.add (E : Env) (t : T AFn) : Ge E (E.add t) where
  fns := fun f a h => by show (match E.fns f with | some a => some a | none => t.get f) = _; rw [h]
  prims := fun _ => rfl
  exts := fun _ => rfl
  meth := fun _ _ => rfl
section
variable {E E' : Env}
theorem callA_ge (g : Ge E E') {r r' : Rec} (hr : ∀ c s x, r c s = some x → r' c s = some x) {f : Nat} {args : List AV} {h : Hp} {x : AV × Hp} (hc : callA E r f args h = some x) : callA E' r' f args h = some x := by
  unfold callA at *
  rw [g.exts]
  split at hc
  · exact hc
  · rename_i he
    rw [g.prims]
    split at hc
    · exact hc
    · split at hc
      · cases hc
      · rename_i fn hf
        rw [g.fns _ _ hf]
        simp only
        cases hx : r fn.code { tm := enterA args 0 .nil, hp := h } with
        | none => rw [hx] at hc; cases hc
        | some y => rw [hx] at hc; rw [hr _ _ _ hx]; exact hc
theorem opA_ge (g : Ge E E') {r r' : Rec} (hr : ∀ c s x, r c s = some x → r' c s = some x) {o : AOp} {s : St} {x : AV × Hp} (hc : opA o E r s = some x) : opA o E' r' s = some x := by
  cases o <;> try exact hc
  · exact callA_ge g hr hc
  · simp only [opA, o_callV] at *
    split at hc
    · exact callA_ge g hr hc
    · cases hc
  · simp only [opA, o_inv] at *
    split at hc
    · rw [g.meth]
      split at hc
      · exact callA_ge g hr hc
      · cases hc
    · cases hc
theorem step_ge (g : Ge E E') {r r' : Rec} (hr : ∀ c s x, r c s = some x → r' c s = some x) {c : ACode} {s : St} {x : Ex × St} (hc : step E r c s = some x) : step E' r' c s = some x := by
  cases c with
  | skip => exact hc
  | ret => exact hc
  | exit i => exact hc
  | bad => exact hc
  | reg ops =>
    cases ops with
    | nil => exact hc
    | cons o l =>
      have hc : s_op o l E r s = some x := hc
      show s_op o l E' r' s = some x
      unfold s_op at *
      split at hc
      · unfold s_cont at *
        split at hc
        · rename_i ho; rw [opA_ge g hr ho]; exact hr _ _ _ hc
        · cases hc
      · exact hr _ _ _ hc
  | dreg ops => exact hr _ _ _ hc
  | drun ops i c0 acc =>
    cases ops with
    | nil => exact hc
    | cons o l =>
      have hc : s_dop o l i c0 acc E r s = some x := hc
      show s_dop o l i c0 acc E' r' s = some x
      unfold s_dop at *
      split at hc
      · split at hc
        · rename_i ho
          rw [opA_ge g hr ho]
          simp only
          split at hc
          · rename_i h1
            split at hc
            · exact hr _ _ _ hc
            · cases hc
          · cases hc
        · cases hc
      · split at hc
        · exact hr _ _ _ hc
        · cases hc
  | seq a b =>
    have hc : s_seq a b E r s = some x := hc
    show s_seq a b E' r' s = some x
    unfold s_seq at *
    split at hc
    · rename_i h1; rw [hr _ _ _ h1]; exact hr _ _ _ hc
    · rename_i hne
      rw [hr _ _ _ hc]
      obtain ⟨e, s'⟩ := x
      cases e with
      | nrm => exact absurd hc (hne _)
      | exit i => rfl
      | ret => rfl
  | cond y a b =>
    have hc : s_cond y a b E r s = some x := hc
    show s_cond y a b E' r' s = some x
    unfold s_cond at *
    split at hc
    · exact hr _ _ _ hc
    · exact hr _ _ _ hc
    · cases hc
  | block id a =>
    have hc : s_block id a E r s = some x := hc
    show s_block id a E' r' s = some x
    unfold s_block at *
    split at hc
    · rename_i h1; rw [hr _ _ _ h1]; exact hc
    · rename_i hne
      rw [hr _ _ _ hc]
      obtain ⟨e, s'⟩ := x
      cases e with
      | exit i => exact absurd hc (hne _ _)
      | nrm => rfl
      | ret => rfl
  | loop a =>
    have hc : s_loop a E r s = some x := hc
    show s_loop a E' r' s = some x
    unfold s_loop at *
    split at hc
    · rename_i h1; rw [hr _ _ _ h1]; exact hr _ _ _ hc
    · rename_i hne
      rw [hr _ _ _ hc]
      obtain ⟨e, s'⟩ := x
      cases e with
      | nrm => exact absurd hc (hne _)
      | exit i => rfl
      | ret => rfl
theorem exec_ge (g : Ge E E') : ∀ (n : Nat) (c : ACode) (s : St) (x : Ex × St), exec E n c s = some x → exec E' n c s = some x
  | 0, _, _, _, h => by cases h
  | n + 1, c, s, x, h => by
    rw [exec_succ] at *
    exact step_ge g (exec_ge g n) h
theorem CallsTo.ge (g : Ge E E') {f : Nat} {args : List AV} {h h' : Hp} {v : AV} (hc : CallsTo E f args h v h') : CallsTo E' f args h v h' := by
  obtain ⟨n, hn⟩ := hc
  exact ⟨n, callA_ge g (exec_ge g n) hn⟩
theorem CallWp.ge (g : Ge E E') {f : Nat} {args : List AV} {h : Hp} {K : AV → Hp → Prop} (hc : CallWp E f args h K) : CallWp E' f args h K := by
  obtain ⟨v, h', h1, h2⟩ := hc
  exact ⟨v, h', h1.ge g, h2⟩
/-- A contract of a lesser environment. -/
theorem up (g : Ge E E') {f : Nat} {args : List AV} {h h' : Hp} {v : AV} {K : AV → Hp → Prop} (hc : ∀ K, CallWp E f args h K ↔ K v h') : CallWp E' f args h K ↔ K v h' :=
  CallWp.iff_of (((hc _).2 ⟨rfl, rfl⟩).ge g)
theorem EnvOk.add {P : Program} {W0 : World} {base : Nat} {t : T AFn} (EO : EnvOk P W0 base E) (ht : ∀ n a, t.get n = some a → chk P n = some a) : EnvOk P W0 base (E.add t) where
  fns := by
    intro f a h
    have h : (match E.fns f with | some a => some a | none => t.get f) = some a := h
    split at h
    · rename_i b hb; obtain rfl := Option.some.inj h; exact EO.fns f b hb
    · exact chk_good (ht f a h)
  prims := EO.prims
  exts := EO.exts
  meth := fun T n f h => EO.meth T n f h
  later := EO.later
  mixed := EO.mixed
end
end Go.Ae

