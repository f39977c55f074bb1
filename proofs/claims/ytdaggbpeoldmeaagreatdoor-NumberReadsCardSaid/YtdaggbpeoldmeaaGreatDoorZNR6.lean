/-
  NumberReads returns true for every input: a time is read as it is printed, also with an hour 0 in front; of two times below an hour with as many bytes the lesser one has the lesser text; tickets are read as they are printed, and printed as they are read. Condition: the package-level variables that the row lists read as their initialisers lay them.
-/
import Derived.Test.YtdaggbpeoldmeaaGreatDoorM4
import Derived.Test.YtdaggbpeoldmeaaGreatDoorM5
import Derived.Test.YtdaggbpeoldmeaaGreatDoorM6
import Derived.Lib.SmallJoins
set_option linter.unusedVariables false
set_option maxRecDepth 100000
namespace Go.Proofs.YtdaggbpeoldmeaaGreatDoor.reads
open Go.ChangeShapes Go.WideShapes Go.ChangeAt Go.RowKit Go.Ae laws
open Go.ChangeMaps (open_string shut_string)
theorem cells35 : Tryz.prog.cellsOf 35 = 2 := by kernel_rfl
/-- Two whole numbers, read. -/
theorem open_two {H : Type} {enc : TypeId × Value → H} {W : World} {r : Reach} {b0 base : Nat} {sp : Nat → Bool} {hd : Bool} {v : Value} {d : DataW H} {p : List MemPlace} (hv : Value.okWide Tryz.prog W r b0 35 v) (h : DataW.Trod enc Tryz.prog W base sp hd 35 v d p) :
    ∃ x y, v = .agg #[.int .i64 x, .int .i64 y] ∧ (Lit.int .i64 x).wf = true ∧ (Lit.int .i64 y).wf = true := by
  unfold Value.okWide at hv
  rw [Tryz.underlying35] at hv
  obtain ⟨cs, rfl, hsz, _⟩ := hv
  obtain ⟨c0, c1, rfl⟩ := Go.Joins.array2 (hsz.trans cells35)
  obtain ⟨fuel, hf⟩ := h
  obtain ⟨xs, m, _, _, _, hl, hx⟩ := DataW.trod_array Tryz.underlying35 hf
  obtain ⟨y0, e0⟩ : ∃ y, xs[0]? = some y := ⟨_, List.getElem?_eq_getElem (by omega)⟩
  obtain ⟨y1, e1⟩ : ∃ y, xs[1]? = some y := ⟨_, List.getElem?_eq_getElem (by omega)⟩
  obtain ⟨x, s0, _, w0⟩ := DataW.trod_int Tryz.underlying3 ((hx 0 (by omega)).trans e0)
  obtain ⟨y, s1, _, w1⟩ := DataW.trod_int Tryz.underlying3 ((hx 1 (by omega)).trans e1)
  rw [tickets.cells3] at s0 s1
  simp [Value.cells] at s0 s1
  subst s0 s1
  exact ⟨x, y, rfl, w0, w1⟩
theorem env6 {W0 : World} {base : Nat} (G : L.Glob W0 base) : EnvOk Tryz.prog W0 base E6 := (tickets.env5 G).add TR.good
theorem contract (H : Type) (enc : TypeId × Value → H) (W : World) (base : Nat) (args : Array Value) (ds gs : List (DataW H)) (before : List MemPlace)
    (hval : ∀ (j : Nat) t v, Tryz.f9.params[j]? = some t → args[j]? = some v → Value.okWide Tryz.prog W .any base t v)
    (hW : DataW.Whole enc Tryz.prog Tryz.f9.params.toList Rows.numberReadsSpec.vars false W args.toList ds gs before) (hL : laidMetH Tryz.prog Rows.numberReadsRow.laid W) (hO : W.ShapedOpen Tryz.prog) :
    Calls Tryz.prog 9 args W fun e W' => ∃ v, e = .returned v ∧ Rows.numberReadsSpec.post enc Tryz.prog Tryz.f9 false true false false W args v W' := by
  have hW' := hW
  obtain ⟨p, q, hA0, hV, rfl, hfz, hnd⟩ := hW
  have hA : DataW.TrodAll enc Tryz.prog W 0 (fun _ => true) true Tryz.f9.params.toList args.toList ds p := hA0
  have hA1 := hA
  rw [Tryz.params9] at hA hval
  obtain ⟨v0, vs0, d0, ds0, p0, q0, hargs, rfl, rfl, h0, r0⟩ := trodAll_cons hA
  obtain ⟨v1, vs1, d1, ds1, p1, q1, rfl, rfl, rfl, h1, r1⟩ := trodAll_cons r0
  obtain ⟨rfl, rfl, rfl⟩ := trodAll_nil r1
  obtain rfl : args = #[v0, v1] := by cases args; simp_all
  obtain ⟨rfl, rfl⟩ := trodVars_none hV
  obtain ⟨x, y, rfl, wx, wy⟩ := open_two (hval 0 35 v0 rfl rfl) h0
  have wf : ∀ {n : Int}, (Lit.int .i64 n).wf = true → -9223372036854775808 ≤ n ∧ n ≤ 9223372036854775807 := fun hn => by
    simp only [Lit.wf, Bool.and_eq_true, decide_eq_true_eq] at hn
    exact hn
  clear hA0
  have hlt := hW'.lt
  have hT : ∀ t ∈ Tryz.f9.params.toList, Tryz.prog.readableRec t = true ∧ t < Tryz.prog.types.size := by
    rw [Tryz.params9]
    intro t ht
    have : t = 35 ∨ t = 69 := by simpa using ht
    rcases this with rfl | rfl
    · exact ⟨by kernel_rfl, of_decide_eq_true (by kernel_rfl)⟩
    · exact ⟨by kernel_rfl, of_decide_eq_true (by kernel_rfl)⟩
  have fin : ∀ W', Below W.heap.size W W' → Rows.numberReadsSpec.post enc Tryz.prog Tryz.f9 false true false false W #[.agg #[.int .i64 x, .int .i64 y], v1] (.bool true) W' := fun W' hg =>
    post_below (pa := p0 ++ (p1 ++ [])) (pv := []) hW' (fun _ _ _ => trodAll_cons_mk (shut_bool Tryz.underlying4 _) trodAll_mk0)
      (fun sp hsp => trodAll_stays (by kernel_rfl) hg hT hA1 (fun x hx => hlt x (List.mem_append_left _ hx)) (fun x hx => hsp x (List.mem_append_left _ hx))) (fun _ _ => rfl) rfl
      hg (ok_one (by kernel_rfl) rfl (okWide_bool_mk Tryz.underlying4 _))
  have G : L.Glob W W.heap.size := glob hL (by kernel_rfl) hO
  rcases arg_slice Tryz.underlying69 (hval 1 69 v1 rfl rfl) with rfl | ⟨b, o, len, cap, rfl, hlc, hb⟩
  · have law := law9 (h := .nil) (v := .nils) (l := []) (x := x) (y := y) ⟨rfl, .inl ⟨rfl, rfl⟩⟩ (wf wx) (wf wy) (by simp)
    have walk := calls_heap (ρ := fun _ => ⟨0, 0, 0, 0⟩) (env6 G) (f := 9) (by kernel_rfl) law (HRel.nil (Nat.le_refl _)) (by simp [oks, ok]) rfl
    have ea : (encs (fun _ => ⟨0, 0, 0, 0⟩) [AV.agg [.int .i64 x, .int .i64 y], AV.nils]).toArray = #[Value.agg #[.int .i64 x, .int .i64 y], Value.slice none 0 0] := by simp [Ae.encs, Ae.enc]
    rw [ea] at walk
    exact walk.mono fun e W' ⟨he, hg⟩ => ⟨_, he, fin W' hg⟩
  · obtain ⟨l, rfl, hr⟩ := tickets.open_tks h1
    have hcap : cap ≤ 9223372036854775807 := by
      have hv := hval 1 69 _ rfl rfl
      unfold Value.okWide at hv
      rw [Tryz.underlying69] at hv
      unfold Cell.okWide Cell.ok at hv
      rw [Tryz.underlying69] at hv
      have h2 := hv.2.1
      have e : IntKind.i64.max = 9223372036854775807 := rfl
      rw [e] at h2; omega
    have R : HRel W.heap.size (fun _ => ⟨b, o, cap, 5⟩) (Hp.nil.push fun s => .row (l.flatMap Tk.l) false s) W := HRel.arg (tickets.flat_one l) (tickets.flat_ok _ _ l) (hr _) hb
    have law := law9 (h := Hp.nil.push fun s => .row (l.flatMap Tk.l) false s) (v := .sl 0 0 l.length 5) (l := l) (x := x) (y := y) ⟨flat_len Tk.l_len l, .inr ⟨0, false, _, rfl, Hp.push_same, Nat.one_pos, Nat.le_refl _⟩⟩ (wf wx) (wf wy) (by omega)
    have walk := calls_heap (env6 G) (f := 9) (by kernel_rfl) law R (by simp [oks, ok, Hp.push]; omega) rfl
    have ea : (encs (fun _ => ⟨b, o, cap, 5⟩) [AV.agg [.int .i64 x, .int .i64 y], AV.sl 0 0 l.length 5]).toArray = #[Value.agg #[.int .i64 x, .int .i64 y], Value.slice (some ⟨b, o, none⟩) l.length cap] := by simp [Ae.encs, Ae.enc]
    rw [ea] at walk
    exact walk.mono fun e W' ⟨he, hg⟩ => ⟨_, he, fin W' hg⟩
abbrev z0 : Value := .agg #[.int .i64 0, .int .i64 0]
abbrev z2 : Value := .slice none 0 0
theorem laid_met (os : Os) : laidMet Tryz.prog Rows.numberReadsRow.laid ((laidWorld os).forCall (fun _ _ => 0) ⟨#[], #[z0, z2], []⟩).memory :=
  laidMet_of_run3 8 (by kernel_rfl) (by kernel_rfl) (by kernel_rfl)
theorem witness_row (os : Os) {H : Type} (enc : TypeId × Value → H) :
    (OpenSpec.ofChange Rows.numberReadsSpec).preRow enc Tryz.prog Tryz.f9 Rows.numberReadsRow.domain false Rows.numberReadsRow.laid ((laidWorld os).forCall (fun _ _ => 0) ⟨#[], #[z0, z2], []⟩).memory #[z0, z2] := by
  have hw : (DataW.whole enc Tryz.prog ((laidWorld os).forCall (fun _ _ => 0) ⟨#[], #[z0, z2], []⟩).memory Tryz.f9.params.toList Rows.numberReadsSpec.vars false #[z0, z2].toList 8).map (fun x => (x.1, x.2.1)) =
      some ([.agg [.lit (.int .i64 0), .lit (.int .i64 0)], .nil], []) := by kernel_rfl
  obtain ⟨⟨x1, x2, x3⟩, hx, hx1⟩ := Option.map_eq_some_iff.1 hw
  simp only [Prod.mk.injEq] at hx1
  obtain ⟨rfl, rfl⟩ := hx1
  exact OpenSpec.preRow_of_cond 8 hx (by kernel_rfl) (fun k hk => by cases hk) (by kernel_rfl) (by rw [MakeChecks.laidMetH_plain _ _ _ (by kernel_rfl)]; exact laid_met os)
theorem lifted (os : Os) (started : os.Started) (H : Type) (enc : TypeId × Value → H) (F : Stop.Interp) :
    ReturnsInHanded {} Tryz.checked os 9 .any ((OpenSpec.ofChange Rows.numberReadsSpec).preRow enc Tryz.prog Tryz.f9 Rows.numberReadsRow.domain false Rows.numberReadsRow.laid) (((OpenSpec.ofChange Rows.numberReadsSpec).at F).post enc Tryz.prog Tryz.f9 false true false false) := by
  refine returnsInHanded_of_row (C := Tryz.checked) (s := OpenSpec.ofChange Rows.numberReadsSpec) own started (by kernel_rfl) Tryz.func9
    (witness_row_atRef (enc := enc) (C := Tryz.checked) false (laidWorld os) #[z0, z2] rfl (by kernel_rfl) (by kernel_rfl) (by kernel_rfl) (witness_row os enc)) ?_
  intro W base args ds gs before hval hW _ _ _ hL hO _
  exact contract H enc W base args ds gs before hval hW hL hO
theorem plain (f : FuncId) (fn : Func) (hf : Tryz.pinned.checked.prog.funcNamed "crux/cruxlaw01.NumberReads" = some f) (hfn : Tryz.pinned.checked.prog.funcs[f]? = some fn) :
    true = Tryz.pinned.checked.prog.looks [] ∧ ∀ (j : Nat) t, fn.params[j]? = some t → Tryz.pinned.checked.prog.wantsStandIn t = false := by
  obtain rfl : f = 9 := Option.some.inj ((show Tryz.prog.funcNamed "crux/cruxlaw01.NumberReads" = some 9 by kernel_rfl).symm.trans hf) |>.symm
  obtain rfl : fn = Tryz.f9 := (Option.some.inj (Tryz.func9.symm.trans hfn)).symm
  refine ⟨by kernel_rfl, fun j t ht => ?_⟩
  rw [Tryz.params9] at ht
  have : t = 35 ∨ t = 69 := by simpa using Array.mem_of_getElem? ht
  rcases this with rfl | rfl
  · exact (show Tryz.prog.wantsStandIn 35 = false by kernel_rfl)
  · exact (show Tryz.prog.wantsStandIn 69 = false by kernel_rfl)
end Go.Proofs.YtdaggbpeoldmeaaGreatDoor.reads

