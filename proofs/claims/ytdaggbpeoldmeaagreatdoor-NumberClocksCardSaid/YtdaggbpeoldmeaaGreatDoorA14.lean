/- The abstract evaluator: what has an old stamp has not turned. -/
import Derived.Test.YtdaggbpeoldmeaaGreatDoorA13
set_option linter.unusedVariables false
set_option linter.unusedSimpArgs false
namespace Go.Ae

/-- Every token is below the next one. -/
def WF (h : Hp) : Prop := ∀ t o, h.get t = some o → t < h.next
structure Later (h h' : Hp) : Prop where
  clk : h.clk ≤ h'.clk
  next : h.next ≤ h'.next
  get : ∀ t, h'.get t = h.get t ∨ ∃ o, h'.get t = some o ∧ h.clk < o.st
  wf : WF h → WF h'
theorem Later.refl (h : Hp) : Later h h := ⟨Nat.le_refl _, Nat.le_refl _, fun _ => .inl rfl, id⟩
theorem Later.trans {h h' h'' : Hp} (a : Later h h') (b : Later h' h'') : Later h h'' := by
  refine ⟨Nat.le_trans a.1 b.1, Nat.le_trans a.2 b.2, fun t => ?_, fun h => b.4 (a.4 h)⟩
  rcases b.3 t with c | ⟨o, c, d⟩
  · rw [c]; exact a.3 t
  · exact .inr ⟨o, c, Nat.lt_of_le_of_lt a.1 d⟩
theorem Later.push (h : Hp) (o : Nat → AObj) (ho : (o (h.clk + 1)).st = h.clk + 1) : Later h (h.push o) := by
  refine ⟨Nat.le_succ _, Nat.le_succ _, fun t => ?_, fun wf t ob ht => ?_⟩
  · rw [Hp.get_push]
    split
    · exact .inr ⟨_, rfl, by rw [ho]; omega⟩
    · exact .inl rfl
  · rw [Hp.get_push] at ht
    show t < h.next + 1
    split at ht
    · omega
    · have := wf t ob ht; omega
theorem Later.put (h : Hp) (t : Nat) (o : Nat → AObj) (hg : ∃ o, h.get t = some o) (ho : (o (h.clk + 1)).st = h.clk + 1) : Later h (h.put t o) := by
  refine ⟨Nat.le_succ _, Nat.le_refl _, fun t' => ?_, fun wf t' ob ht => ?_⟩
  · rw [Hp.get_put]
    split
    · exact .inr ⟨_, rfl, by rw [ho]; omega⟩
    · exact .inl rfl
  · rw [Hp.get_put] at ht
    show t' < h.next
    split at ht
    · rename_i e; subst e
      obtain ⟨o1, h1⟩ := hg
      exact wf _ o1 h1
    · exact wf t' ob ht
/-- An old stamp in a later heap: as it was. -/
theorem Later.old {h0 h h' : Hp} (a : Later h0 h) (b : Later h h') {t : Nat} (ho : old h' h0.clk t = true) : h.get t = h0.get t ∧ h'.get t = h0.get t ∧ ∃ o, h0.get t = some o := by
  unfold Ae.old at ho
  split at ho
  · rename_i o hg
    have hst : o.st ≤ h0.clk := Nat.le_of_ble_eq_true ho
    have h1 : h'.get t = h.get t := by
      rcases b.3 t with c | ⟨o', c, d⟩
      · exact c
      · rw [hg] at c; obtain rfl := Option.some.inj c
        have := a.1; omega
    have h2 : h.get t = h0.get t := by
      rcases a.3 t with c | ⟨o', c, d⟩
      · exact c
      · rw [← h1, hg] at c; obtain rfl := Option.some.inj c
        omega
    exact ⟨h2, h1.trans h2, o, by rw [← h2, ← h1, hg]⟩
  · cases ho
theorem appA_later {h h' : Hp} {sz by_ : Nat} {x y v : AV} (hr : appA h sz by_ x y = some (v, h')) : Later h h' := by
  unfold appA at hr
  repeat' split at hr
  all_goals first
    | (cases hr; done)
    | (obtain ⟨rfl, rfl⟩ := pair_inj hr; exact Later.refl _)
    | (obtain ⟨rfl, rfl⟩ := pair_inj hr; exact Later.push _ _ rfl)
    | (obtain ⟨rfl, rfl⟩ := pair_inj hr; exact (Later.put _ _ _ ⟨_, by assumption⟩ rfl).trans (Later.push _ _ rfl))
theorem slA_later {h h' : Hp} {sz : Nat} {x v : AV} {lo hi : Option AV} (hr : slA h sz x lo hi = some (v, h')) : Later h h' := by
  unfold slA at hr
  repeat' split at hr
  all_goals first
    | (cases hr; done)
    | (obtain ⟨rfl, rfl⟩ := pair_inj hr; exact Later.refl _)
    | (obtain ⟨rfl, rfl⟩ := pair_inj hr; exact Later.push _ _ rfl)
theorem aop_later {a : AOp} {ρ : Opd → AV} {h h' : Hp} {v : AV} (hr : aop a ρ h = some (v, h')) : Later h h' := by
  cases a <;> simp only [aop] at hr
  case app => exact appA_later hr
  case sl => exact slA_later hr
  case callF => cases hr
  case callV => cases hr
  case inv => cases hr
  case bad => cases hr
  all_goals
    first
    | unfold o_mv at hr | unfold o_pick at hr | unfold o_alloc at hr | unfold o_box at hr | unfold o_build at hr | unfold o_bslice at hr | unfold o_load at hr | unfold o_store at hr | unfold o_nilck at hr | unfold o_bin at hr
    | unfold o_un at hr | unfold o_cvi at hr | unfold o_cvs at hr | unfold o_bstr at hr | unfold o_mkI at hr | unfold o_mkF at hr | unfold o_mks at hr | unfold o_sls at hr | unfold o_fadr at hr | unfold o_fld at hr | unfold o_iadr at hr
    | unfold o_iadrA at hr | unfold o_idxs at hr | unfold o_ext at hr | unfold o_len at hr | unfold o_mx at hr | unfold o_mn at hr | unfold o_rng at hr | unfold o_nxt at hr | unfold o_mkmap at hr | unfold o_mupd at hr | unfold o_lkp at hr
    try dsimp only at hr
    repeat' split at hr
    all_goals first
      | (cases hr; done)
      | (obtain ⟨rfl, rfl⟩ := pair_inj hr; exact Later.refl _)
      | (obtain ⟨rfl, rfl⟩ := pair_inj hr; exact Later.push _ _ rfl)
      | (obtain ⟨rfl, rfl⟩ := pair_inj hr; exact Later.put _ _ _ ⟨_, by assumption⟩ rfl)
def PrimsLater (E : Env) : Prop := ∀ f p args h v h', E.prims f = some p → p args h = some (v, h') → Later h h'
def RecLater (rec : Rec) : Prop := ∀ c s e s', rec c s = some (e, s') → Later s.hp s'.hp
theorem callA_later {E : Env} {rec : Rec} (hp : PrimsLater E) (hrec : RecLater rec) {f : Nat} {args : List AV} {h h' : Hp} {v : AV} (hr : callA E rec f args h = some (v, h')) : Later h h' := by
  unfold callA at hr
  repeat' split at hr
  all_goals first
    | (cases hr; done)
    | (obtain ⟨rfl, rfl⟩ := pair_inj hr; exact Later.refl _)
    | exact hp _ _ _ _ _ _ (by assumption) hr
    | (obtain ⟨rfl, rfl⟩ := pair_inj hr; rename_i hh _ _ _; exact hrec _ _ _ _ (by assumption))
theorem opA_later {E : Env} {rec : Rec} (hp : PrimsLater E) (hrec : RecLater rec) {a : AOp} {s : St} {h' : Hp} {v : AV} (hr : opA a E rec s = some (v, h')) : Later s.hp h' := by
  cases hc : a.calls with
  | false =>
    have : opA a E rec s = aop a (val s.tm) s.hp := by cases a <;> first | (simp [AOp.calls] at hc; done) | rfl
    rw [this] at hr; exact aop_later hr
  | true =>
    cases a <;> simp [AOp.calls] at hc <;> simp only [opA] at hr
    case callF => exact callA_later hp hrec hr
    case callV =>
      unfold o_callV at hr
      split at hr
      · exact callA_later hp hrec hr
      · cases hr
    case inv =>
      unfold o_inv at hr
      split at hr
      · split at hr
        · exact callA_later hp hrec hr
        · cases hr
      · cases hr
theorem step_later {E : Env} {rec : Rec} (hp : PrimsLater E) (hrec : RecLater rec) : RecLater (step E rec) := by
  intro c s e s' hr
  unfold step at hr
  cases c <;> simp only [stepD] at hr
  case skip => obtain ⟨rfl, rfl⟩ := pair_inj hr; exact Later.refl _
  case reg ops =>
    cases ops with
    | nil => obtain ⟨rfl, rfl⟩ := pair_inj hr; exact Later.refl _
    | cons o r =>
      simp only [s_reg] at hr
      unfold s_op at hr
      split at hr
      · unfold s_cont at hr
        split at hr
        · rename_i v h hh
          exact (opA_later hp hrec hh).trans (hrec _ _ _ _ hr)
        · cases hr
      · have := hrec _ _ _ _ hr; exact this
  case dreg ops => exact hrec _ _ _ _ hr
  case drun ops i c0 acc =>
    cases ops with
    | nil => obtain ⟨rfl, rfl⟩ := pair_inj hr; exact Later.refl _
    | cons o r =>
      simp only [s_drun] at hr
      unfold s_dop at hr
      repeat' split at hr
      all_goals first
        | (cases hr; done)
        | (rename_i hh _ _ _ _ _ ; exact (opA_later hp hrec (by assumption)).trans (hrec _ _ _ _ hr))
        | (have := hrec _ _ _ _ hr; exact this)
  case seq a b =>
    unfold s_seq at hr
    split at hr
    · rename_i s1 h1
      exact (hrec _ _ _ _ h1).trans (hrec _ _ _ _ hr)
    · exact hrec _ _ _ _ hr
  case cond x a b =>
    unfold s_cond at hr
    split at hr
    · exact hrec _ _ _ _ hr
    · exact hrec _ _ _ _ hr
    · cases hr
  case block id c =>
    unfold s_block at hr
    repeat' split at hr
    all_goals first
      | (obtain ⟨rfl, rfl⟩ := pair_inj hr; exact hrec _ _ _ _ (by assumption))
      | exact hrec _ _ _ _ hr
  case loop c =>
    unfold s_loop at hr
    split at hr
    · rename_i s1 h1
      exact (hrec _ _ _ _ h1).trans (hrec _ _ _ _ hr)
    · exact hrec _ _ _ _ hr
  case exit id => obtain ⟨rfl, rfl⟩ := pair_inj hr; exact Later.refl _
  case ret => obtain ⟨rfl, rfl⟩ := pair_inj hr; exact Later.refl _
  case bad => cases hr
theorem exec_later {E : Env} (hp : PrimsLater E) : ∀ n, RecLater (exec E n)
  | 0 => fun c s e s' hr => by cases hr
  | n + 1 => by
    have := step_later hp (exec_later hp n)
    intro c s e s' hr
    exact this c s e s' (by rw [← exec_succ]; exact hr)
end Go.Ae
