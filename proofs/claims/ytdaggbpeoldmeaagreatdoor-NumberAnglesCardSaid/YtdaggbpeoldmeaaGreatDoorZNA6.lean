/-
  NumberAngles returns true for every input: a vector product is at right angles to both factors and changes its sign with their order; its square and that of the scalar product are together the product of both squares; a length, squared, has the square of the vector between the squares of its ends. Condition: the package-level variables that the row lists read as their initialisers lay them.
-/
import Derived.Test.YtdaggbpeoldmeaaGreatDoorM5
import Derived.Test.YtdaggbpeoldmeaaGreatDoorM7
import Derived.Lib.SmallJoins
set_option linter.unusedVariables false
set_option maxRecDepth 100000
namespace Go.Proofs.YtdaggbpeoldmeaaGreatDoor.angles
open Go.ChangeShapes Go.WideShapes Go.ChangeAt Go.RowKit Go.Ae laws
open Go.ChangeMaps (open_string shut_string)
section
variable {H : Type} {enc : TypeId × Value → H} {W : World} {base : Nat} {sp : Nat → Bool} {hd : Bool}
theorem one116 : Go.Deep.oneCellFields Tryz.prog #[{ name := "X", type := 3, offset := 0, embedded := false, tag := "", pkgPath := "", byteOffset := 0 }, { name := "Y", type := 3, offset := 1, embedded := false, tag := "", pkgPath := "", byteOffset := 8 }, { name := "Z", type := 3, offset := 2, embedded := false, tag := "", pkgPath := "", byteOffset := 16 }] = true := by kernel_rfl
theorem cells116 : Tryz.prog.cellsOf 116 = 3 := by kernel_rfl
/-- A place, read. -/
theorem open_plc {r : Reach} {b0 : Nat} {v : Value} {d : DataW H} {p : List MemPlace} (hv : Value.okWide Tryz.prog W r b0 116 v) (h : DataW.Trod enc Tryz.prog W base sp hd 116 v d p) :
    ∃ x y z, v = .agg #[.int .i64 x, .int .i64 y, .int .i64 z] ∧ d = .agg [.lit (.int .i64 x), .lit (.int .i64 y), .lit (.int .i64 z)] ∧ p = [] ∧ (Lit.int .i64 x).wf = true ∧ (Lit.int .i64 y).wf = true ∧ (Lit.int .i64 z).wf = true := by
  obtain ⟨v0, v1, v2, y0, y1, y2, n, rfl, rfl, rfl, h0, h1, h2⟩ := Go.Joins.open_agg3 Tryz.underlying116 one116 cells116 hv h
  obtain ⟨x, e0, rfl, w0⟩ := DataW.trod_int Tryz.underlying3 h0
  obtain ⟨y, e1, rfl, w1⟩ := DataW.trod_int Tryz.underlying3 h1
  obtain ⟨z, e2, rfl, w2⟩ := DataW.trod_int Tryz.underlying3 h2
  injection e0 with e0; injection e1 with e1; injection e2 with e2
  subst e0; subst e1; subst e2
  exact ⟨x, y, z, rfl, rfl, rfl, w0, w1, w2⟩
theorem shut_plc {x y z : Int} (w0 : (Lit.int .i64 x).wf = true) (w1 : (Lit.int .i64 y).wf = true) (w2 : (Lit.int .i64 z).wf = true) :
    DataW.Trod enc Tryz.prog W base sp hd 116 (.agg #[.int .i64 x, .int .i64 y, .int .i64 z]) (.agg [.lit (.int .i64 x), .lit (.int .i64 y), .lit (.int .i64 z)]) [] :=
  Go.Joins.shut_agg3 (y0 := (.lit (.int .i64 x), [])) (y1 := (.lit (.int .i64 y), [])) (y2 := (.lit (.int .i64 z), [])) Tryz.underlying116 one116 cells116
    (Go.Joins.field_of_Trod (shut_int Tryz.underlying3 w0) rfl) (Go.Joins.field_of_Trod (shut_int Tryz.underlying3 w1) rfl) (Go.Joins.field_of_Trod (shut_int Tryz.underlying3 w2) rfl)
end
theorem envA {W0 : World} {base : Nat} (G : L.Glob W0 base) : EnvOk Tryz.prog W0 base EG := ((env2 G).add R.good).add Go.Ae.G.good
theorem contract (H : Type) (enc : TypeId × Value → H) (W : World) (base : Nat) (args : Array Value) (ds gs : List (DataW H)) (before : List MemPlace)
    (hval : ∀ (j : Nat) t v, Tryz.f14.params[j]? = some t → args[j]? = some v → Value.okWide Tryz.prog W .any base t v)
    (hW : DataW.Whole enc Tryz.prog Tryz.f14.params.toList Rows.numberAnglesSpec.vars false W args.toList ds gs before) (hL : laidMetH Tryz.prog Rows.numberAnglesRow.laid W) (hO : W.ShapedOpen Tryz.prog) :
    Calls Tryz.prog 14 args W fun e W' => ∃ v, e = .returned v ∧ Rows.numberAnglesSpec.post enc Tryz.prog Tryz.f14 false true false false W args v W' := by
  have hW' := hW
  obtain ⟨p, q, hA0, hV, rfl, hfz, hnd⟩ := hW
  have hA : DataW.TrodAll enc Tryz.prog W 0 (fun _ => true) true Tryz.f14.params.toList args.toList ds p := hA0
  rw [Tryz.params14] at hA hval
  obtain ⟨v0, vs0, d0, ds0, p0, q0, hargs, rfl, rfl, h0, r0⟩ := trodAll_cons hA
  obtain ⟨v1, vs1, d1, ds1, p1, q1, rfl, rfl, rfl, h1, r1⟩ := trodAll_cons r0
  obtain ⟨rfl, rfl, rfl⟩ := trodAll_nil r1
  obtain rfl : args = #[v0, v1] := by cases args; simp_all
  obtain ⟨rfl, rfl⟩ := trodVars_none hV
  obtain ⟨a, b, c, rfl, rfl, rfl, wa, wb, wc⟩ := open_plc (hval 0 116 v0 rfl rfl) h0
  obtain ⟨x, y, z, rfl, rfl, rfl, wx, wy, wz⟩ := open_plc (hval 1 116 v1 rfl rfl) h1
  clear hA0
  simp only [List.append_nil] at hW'
  have G : L.Glob W W.heap.size := glob hL (by kernel_rfl) hO
  obtain ⟨h', hc, hg0⟩ := law14 (h := .nil) (a := a) (b := b) (c := c) (x := x) (y := y) (z := z)
  have walk := calls_of (envA G) (f := 14) (by kernel_rfl) ⟨_, _, hc.choose_spec⟩ rfl rfl (Below.refl _ _) (Nat.le_refl _) (fun _ => ⟨0, 0, 0, 0⟩)
  have ea : (encs (fun _ => ⟨0, 0, 0, 0⟩) [plc a b c, plc x y z]).toArray = #[Value.agg #[.int .i64 a, .int .i64 b, .int .i64 c], .agg #[.int .i64 x, .int .i64 y, .int .i64 z]] := by simp [Ae.encs, Ae.enc]
  rw [ea] at walk
  refine walk.mono fun e W' ⟨he, hg⟩ => ?_
  subst he
  exact ⟨_, rfl, post_below (pa := []) (pv := []) hW' (fun _ _ _ => trodAll_cons_mk (shut_bool Tryz.underlying4 _) trodAll_mk0)
    (fun _ _ => trodAll_cons_mk (shut_plc wa wb wc) (trodAll_cons_mk (shut_plc wx wy wz) trodAll_mk0)) (fun _ _ => rfl) rfl
    hg (ok_one (by kernel_rfl) rfl (okWide_bool_mk Tryz.underlying4 _))⟩
abbrev z3 : Value := .agg #[.int .i64 0, .int .i64 0, .int .i64 0]
theorem laid_met (os : Os) : laidMet Tryz.prog Rows.numberAnglesRow.laid ((laidWorld os).forCall (fun _ _ => 0) ⟨#[], #[z3, z3], []⟩).memory :=
  laidMet_of_run3 8 (by kernel_rfl) (by kernel_rfl) (by kernel_rfl)
theorem witness_row (os : Os) {H : Type} (enc : TypeId × Value → H) :
    (OpenSpec.ofChange Rows.numberAnglesSpec).preRow enc Tryz.prog Tryz.f14 Rows.numberAnglesRow.domain false Rows.numberAnglesRow.laid ((laidWorld os).forCall (fun _ _ => 0) ⟨#[], #[z3, z3], []⟩).memory #[z3, z3] := by
  have hw : (DataW.whole enc Tryz.prog ((laidWorld os).forCall (fun _ _ => 0) ⟨#[], #[z3, z3], []⟩).memory Tryz.f14.params.toList Rows.numberAnglesSpec.vars false #[z3, z3].toList 8).map (fun x => (x.1, x.2.1)) =
      some ([.agg [.lit (.int .i64 0), .lit (.int .i64 0), .lit (.int .i64 0)], .agg [.lit (.int .i64 0), .lit (.int .i64 0), .lit (.int .i64 0)]], []) := by kernel_rfl
  obtain ⟨⟨x1, x2, x3⟩, hx, hx1⟩ := Option.map_eq_some_iff.1 hw
  simp only [Prod.mk.injEq] at hx1
  obtain ⟨rfl, rfl⟩ := hx1
  exact OpenSpec.preRow_of_cond 8 hx (by kernel_rfl) (fun k hk => by cases hk) (by kernel_rfl) (by rw [MakeChecks.laidMetH_plain _ _ _ (by kernel_rfl)]; exact laid_met os)
theorem lifted (os : Os) (started : os.Started) (H : Type) (enc : TypeId × Value → H) (F : Stop.Interp) :
    ReturnsInHanded {} Tryz.checked os 14 .any ((OpenSpec.ofChange Rows.numberAnglesSpec).preRow enc Tryz.prog Tryz.f14 Rows.numberAnglesRow.domain false Rows.numberAnglesRow.laid) (((OpenSpec.ofChange Rows.numberAnglesSpec).at F).post enc Tryz.prog Tryz.f14 false true false false) := by
  refine returnsInHanded_of_row (C := Tryz.checked) (s := OpenSpec.ofChange Rows.numberAnglesSpec) own started (by kernel_rfl) Tryz.func14
    (witness_row_atRef (enc := enc) (C := Tryz.checked) false (laidWorld os) #[z3, z3] rfl (by kernel_rfl) (by kernel_rfl) (by kernel_rfl) (witness_row os enc)) ?_
  intro W base args ds gs before hval hW _ _ _ hL hO _
  exact contract H enc W base args ds gs before hval hW hL hO
theorem plain (f : FuncId) (fn : Func) (hf : Tryz.pinned.checked.prog.funcNamed "crux/cruxlaw01.NumberAngles" = some f) (hfn : Tryz.pinned.checked.prog.funcs[f]? = some fn) :
    true = Tryz.pinned.checked.prog.looks [] ∧ ∀ (j : Nat) t, fn.params[j]? = some t → Tryz.pinned.checked.prog.wantsStandIn t = false := by
  obtain rfl : f = 14 := Option.some.inj ((show Tryz.prog.funcNamed "crux/cruxlaw01.NumberAngles" = some 14 by kernel_rfl).symm.trans hf) |>.symm
  obtain rfl : fn = Tryz.f14 := (Option.some.inj (Tryz.func14.symm.trans hfn)).symm
  refine ⟨by kernel_rfl, fun j t ht => ?_⟩
  rw [Tryz.params14] at ht
  have : t = 116 := by simpa using Array.mem_of_getElem? ht
  subst this
  exact (show Tryz.prog.wantsStandIn 116 = false by kernel_rfl)
end Go.Proofs.YtdaggbpeoldmeaaGreatDoor.angles

