/- The abstract evaluator: a region whose order is drawn: the trace in the order of the text. -/
import Derived.Test.YtdaggbpeoldmeaaGreatDoorA15
set_option linter.unusedVariables false
set_option linter.unusedSimpArgs false
namespace Go.Ae

def AOp.pure : AOp → Bool
  | .mv _ | .pick .. | .build .. | .nilck _ | .bin .. | .un .. | .cvi .. | .cvs _ | .mkI .. | .mkF .. | .sls .. | .fadr .. | .fld .. | .iadr .. | .iadrA .. | .idxs .. | .ext .. | .len .. | .mx _ | .mn _ | .sl _ _ none _ => true
  | _ => false
theorem pure_any {a : AOp} (ha : a.pure = true) {ρ : Opd → AV} {h h' : Hp} {v : AV} (hr : aop a ρ h = some (v, h')) : h' = h ∧ ∀ g, aop a ρ g = some (v, g) := by
  cases a
  case sl sz x lo hi =>
    cases lo with
    | some _ => simp [AOp.pure] at ha
    | none =>
      simp only [aop] at hr ⊢
      unfold o_sl slA at hr ⊢
      simp only [bound, Option.map_none] at hr ⊢
      repeat' split at hr
      all_goals first
        | (cases hr; done)
        | (obtain ⟨rfl, rfl⟩ := pair_inj hr; refine ⟨rfl, fun g => ?_⟩; simp_all; done)
        | (rename_i h1 h2; simp_all; done)
        | (simp_all; done)
  all_goals (simp only [AOp.pure, Bool.false_eq_true] at ha; try simp only [aop] at hr ⊢)
  all_goals
    first
    | unfold o_mv at hr ⊢ | unfold o_pick at hr ⊢ | unfold o_build at hr ⊢ | unfold o_nilck at hr ⊢ | unfold o_bin at hr ⊢
    | unfold o_un at hr ⊢ | unfold o_cvi at hr ⊢ | unfold o_cvs at hr ⊢ | unfold o_mkI at hr ⊢ | unfold o_mkF at hr ⊢ | unfold o_sls at hr ⊢ | unfold o_fadr at hr ⊢ | unfold o_fld at hr ⊢ | unfold o_iadr at hr ⊢
    | unfold o_iadrA at hr ⊢ | unfold o_idxs at hr ⊢ | unfold o_ext at hr ⊢ | unfold o_len at hr ⊢ | unfold o_mx at hr ⊢ | unfold o_mn at hr ⊢
    repeat' split at hr
    all_goals first
      | (cases hr; done)
      | (obtain ⟨rfl, rfl⟩ := pair_inj hr; refine ⟨rfl, fun g => ?_⟩; simp_all; done)
def AOper.cls (x : AOper) : Nat :=
  match x.op with
  | .alloc _ => 1
  | .load .. => match x.stab with
    | some _ => 0
    | none => 2
  | o => match o.pure with
    | true => 0
    | false => 2
theorem load_any {agg : Bool} {n : Nat} {x : Opd} {s : St} {h' : Hp} {v : AV} {t : Nat} (hr : aop (.load agg n x) (val s.tm) s.hp = some (v, h')) (ht : reads s (.load agg n x) = some t) :
    h' = s.hp ∧ ∀ g, g.get t = s.hp.get t → aop (.load agg n x) (val s.tm) g = some (v, g) := by
  simp only [aop] at hr ⊢
  simp only [reads] at ht
  unfold o_load at hr ⊢
  repeat' split at hr
  all_goals first
    | (cases hr; done)
    | (obtain ⟨rfl, rfl⟩ := pair_inj hr
       refine ⟨rfl, fun g hg => ?_⟩
       rename_i hv _ _ _ _ _ _ _ _ _ ; simp_all; done)
    | (obtain ⟨rfl, rfl⟩ := pair_inj hr
       refine ⟨rfl, fun g hg => ?_⟩
       simp_all; done)

/-! ### The trace -/
structure Tr (E : Env) (N i : Nat) (xs : List AOper) (c0 : Nat) (ss : Nat → St) (vs : Nat → AV) : Prop where
  step : ∀ j x, xs[j]? = some x →
    (wanted (ss (i + j)).tm x.grd = true ∧ (∃ m, m < N ∧ opA x.op E (exec E m) (ss (i + j)) = some (vs (i + j), (ss (i + j + 1)).hp)) ∧ (ss (i + j + 1)).tm = put (ss (i + j)).tm x.dst (vs (i + j)) ∧
      (∀ u, x.stab = some u → ∃ t, reads (ss (i + j)) x.op = some t ∧ (i + j ≤ u → u < i + xs.length → old (ss (u + 1)).hp c0 t = true))) ∨
    (wanted (ss (i + j)).tm x.grd = false ∧ vs (i + j) = und ∧ (ss (i + j + 1)).hp = (ss (i + j)).hp ∧ (ss (i + j + 1)).tm = put (ss (i + j)).tm x.dst und)
theorem all_spec {h : Hp} {c0 i : Nat} {acc : List (Nat × Nat)} (ha : acc.all (fresh h c0 i) = true) {t : Nat} (ht : (t, i) ∈ acc) : old h c0 t = true := by
  have := List.all_eq_true.1 ha _ ht
  simpa [fresh] using this
theorem drun_trace {E : Env} : ∀ (m : Nat) (xs : List AOper) (i c0 : Nat) (acc : List (Nat × Nat)) (s : St) (e : Ex) (s' : St), exec E m (.drun xs i c0 acc) s = some (e, s') →
    e = .nrm ∧ ∃ ss vs, ss i = s ∧ ss (i + xs.length) = s' ∧ Tr E m i xs c0 ss vs ∧ ∀ t u, (t, u) ∈ acc → i ≤ u → u < i + xs.length → old (ss (u + 1)).hp c0 t = true
  | 0, _, _, _, _, _, _, _, hr => by cases hr
  | m + 1, [], i, c0, acc, s, e, s', hr => by
    rw [exec_succ] at hr
    obtain ⟨rfl, rfl⟩ := pair_inj (show some (Ex.nrm, s) = some (e, s') from hr)
    exact ⟨rfl, fun _ => s, fun _ => und, rfl, rfl, ⟨by simp⟩, fun t u _ h1 h2 => by simp at h2; omega⟩
  | m + 1, x :: xs, i, c0, acc, s, e, s', hr => by
    rw [exec_succ] at hr
    have hr : s_dop x xs i c0 acc E (exec E m) s = some (e, s') := hr
    unfold s_dop at hr
    split at hr
    · rename_i hw
      split at hr
      · rename_i v h hop
        split at hr
        · rename_i acc' hno
          split at hr
          · rename_i hall
            obtain ⟨he, ss, vs, h1, h2, h3, h4⟩ := drun_trace m xs (i + 1) c0 acc' _ e s' hr
            have hsub : ∀ y ∈ acc, y ∈ acc' := by
              unfold noted at hno
              split at hno
              · obtain rfl := Option.some.inj hno; exact fun y hy => hy
              · split at hno
                · obtain rfl := Option.some.inj hno; exact fun y hy => .tail _ hy
                · cases hno
            have hold : ∀ t u, (t, u) ∈ acc' → i ≤ u → u < i + (x :: xs).length → old (if u + 1 ≤ i then s else ss (u + 1)).hp c0 t = true := by
              intro t u hm hiu hul
              rw [if_neg (by omega)]
              by_cases hu : u = i
              · subst hu; rw [h1]; exact all_spec hall hm
              · exact h4 t u hm (by omega) (by simp only [List.length_cons] at hul; omega)
            refine ⟨he, fun k => if k ≤ i then s else ss k, fun k => if k = i then v else vs k, by simp, ?_, ⟨?_⟩, ?_⟩
            · simp only [List.length_cons]; rw [if_neg (by omega), ← h2]; congr 1; omega
            · intro j y hy
              cases j with
              | zero =>
                simp only [List.getElem?_cons_zero, Option.some.injEq] at hy
                subst hy
                simp only [Nat.add_zero, Nat.le_refl, if_true, show ¬ i + 1 ≤ i by omega, if_false, h1]
                refine .inl ⟨hw, ⟨m, by omega, hop⟩, trivial, fun u hu => ?_⟩
                unfold noted at hno
                rw [hu] at hno
                simp only at hno
                split at hno
                · rename_i t ht
                  obtain rfl := Option.some.inj hno
                  exact ⟨t, ht, fun a b => hold t u (.head _) a b⟩
                · cases hno
              | succ j =>
                simp only [List.getElem?_cons_succ] at hy
                have := h3.step j y hy
                have e1 : i + (j + 1) = i + 1 + j := by omega
                rw [e1, if_neg (by omega), if_neg (by omega), if_neg (by omega)]
                rcases this with ⟨a1, ⟨m', a2, a2'⟩, a3, a4⟩ | a
                · refine .inl ⟨a1, ⟨m', by omega, a2'⟩, a3, fun u hu => ?_⟩
                  obtain ⟨t, b1, b2⟩ := a4 u hu
                  refine ⟨t, b1, fun c d => ?_⟩
                  rw [if_neg (by omega)]
                  exact b2 c (by simp only [List.length_cons] at d; omega)
                · exact .inr a
            · intro t u hm a b
              exact hold t u (hsub _ hm) a b
          · cases hr
        · cases hr
      · cases hr
    · rename_i hw
      split at hr
      · rename_i hall
        obtain ⟨he, ss, vs, h1, h2, h3, h4⟩ := drun_trace m xs (i + 1) c0 acc _ e s' hr
        have hold : ∀ t u, (t, u) ∈ acc → i ≤ u → u < i + (x :: xs).length → old (if u + 1 ≤ i then s else ss (u + 1)).hp c0 t = true := by
          intro t u hm hiu hul
          rw [if_neg (by omega)]
          by_cases hu : u = i
          · subst hu; rw [h1]; exact all_spec hall hm
          · exact h4 t u hm (by omega) (by simp only [List.length_cons] at hul; omega)
        refine ⟨he, fun k => if k ≤ i then s else ss k, fun k => if k = i then und else vs k, by simp, ?_, ⟨?_⟩, hold⟩
        · simp only [List.length_cons]; rw [if_neg (by omega), ← h2]; congr 1; omega
        · intro j y hy
          cases j with
          | zero =>
            simp only [List.getElem?_cons_zero, Option.some.injEq] at hy
            subst hy
            simp only [Nat.add_zero, Nat.le_refl, if_true, show ¬ i + 1 ≤ i by omega, if_false, h1]
            exact .inr ⟨hw, trivial, trivial, trivial⟩
          | succ j =>
            simp only [List.getElem?_cons_succ] at hy
            have := h3.step j y hy
            have e1 : i + (j + 1) = i + 1 + j := by omega
            rw [e1, if_neg (by omega), if_neg (by omega), if_neg (by omega)]
            rcases this with ⟨a1, ⟨m', a2, a2'⟩, a3, a4⟩ | a
            · refine .inl ⟨a1, ⟨m', by omega, a2'⟩, a3, fun u hu => ?_⟩
              obtain ⟨t, b1, b2⟩ := a4 u hu
              refine ⟨t, b1, fun c d => ?_⟩
              rw [if_neg (by omega)]
              exact b2 c (by simp only [List.length_cons] at d; omega)
            · exact .inr a
      · cases hr
end Go.Ae
