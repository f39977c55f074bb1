/- The abstract evaluator: slots, guards, a region in the order of the text. -/
import Derived.Test.YtdaggbpeoldmeaaGreatDoorA14
set_option linter.unusedVariables false
set_option linter.unusedSimpArgs false
namespace Go.Ae
section
variable {P : Program} {W0 : World} {base nt : Nat} {ρ ρ' : Rho} {h h' : Hp} {w w' : World} {s s' : St} {a a' : Act} {v : AV}

structure Sim (W0 : World) (base nt : Nat) (ρ : Rho) (s : St) (a : Act) (w : World) : Prop where
  rel : HRel base ρ s.hp w
  glob : Go.RowKit.Below base W0 w
  defers : a.defers = []
  size : nt ≤ a.tmps.size
  tmp : ∀ t, a.tmps.getD t undef = enc ρ (val s.tm (.t t)) ∧ ok ρ s.hp.next (val s.tm (.t t))
theorem ok_und (ρ : Rho) (N : Nat) : ok ρ N und := trivial
theorem copd_cases {x : Operand} {y : Opd} (hx : copd x = some y) : (∃ t, x = .tmp t ∧ y = .t t) ∨ (∀ (a : Act) (ρ : Rho) (N : Nat) (tm : T AV), a.eval x = enc ρ (val tm y) ∧ ok ρ N (val tm y) ∧ (∀ t, x ≠ .tmp t) ∧ ∀ t, y ≠ .t t) := by
  cases x with
  | tmp t => simp only [copd, Option.some.injEq] at hx; exact .inl ⟨t, rfl, hx.symm⟩
  | const c =>
    simp only [copd] at hx
    split at hx
    · rename_i b hb
      obtain rfl := Option.some.inj hx
      refine .inr fun a ρ N tm => ⟨?_, (cval_enc hb ρ N).2, nofun, nofun⟩
      exact (cval_enc hb ρ N).1.symm
    · cases hx
  | global g => simp [copd] at hx
  | func f =>
    simp only [copd, Option.some.injEq] at hx
    subst hx
    exact .inr fun a ρ N tm => ⟨by simp [Act.eval, val, enc, encs], by simp [val, ok, oks], nofun, nofun⟩
theorem Sim.evals (S : Sim W0 base nt ρ s a w) : Evals ρ s.hp.next a.eval s.tm := fun x y hx => by
  rcases copd_cases hx with ⟨t, rfl, rfl⟩ | hh
  · exact S.tmp t
  · exact ⟨(hh a ρ s.hp.next s.tm).1, (hh a ρ s.hp.next s.tm).2.1⟩
theorem val_set (tm : T AV) (d : Nat) (v : AV) (t : Nat) : val (tm.set d v) (.t t) = if t = d then v else val tm (.t t) := by
  simp only [val, T.get_set]; split <;> rfl
theorem getD_put (a : Act) (dst : Option Tmp) (v : Value) (hd : ∀ d, dst = some d → d < a.tmps.size) (t : Nat) : (a.put dst v).tmps.getD t undef = if dst = some t then v else a.tmps.getD t undef := by
  cases dst with
  | none => simp [Act.put]
  | some d =>
    have := hd d rfl
    simp only [Act.put, Array.getD_eq_getD_getElem?, Array.getElem?_setIfInBounds]
    by_cases h : d = t
    · subst h; simp [this]
    · simp [h]
theorem put_size (a : Act) (dst : Option Tmp) (v : Value) : (a.put dst v).tmps.size = a.tmps.size := by cases dst <;> simp [Act.put]
theorem put_defers (a : Act) (dst : Option Tmp) (v : Value) : (a.put dst v).defers = a.defers := by cases dst <;> rfl
theorem val_put (tm : T AV) (dst : Option Nat) (v : AV) (t : Nat) : val (put tm dst v) (.t t) = if dst = some t then v else val tm (.t t) := by
  cases dst with
  | none => simp [put]
  | some d => simp only [put, val_set, Option.some.injEq]; by_cases h : t = d <;> simp [h, eq_comm]
theorem Sim.put (S : Sim W0 base nt ρ s a w) (X : Ext base ρ s.hp w ρ' h' w') (hv : ok ρ' h'.next v) (dst : Option Nat) (hd : ∀ d, dst = some d → d < nt) : Sim W0 base nt ρ' { tm := put s.tm dst v, hp := h' } (a.put dst (enc ρ' v)) w' := by
  refine ⟨X.rel, S.glob.trans (X.keep.below S.rel), by rw [put_defers]; exact S.defers, by rw [put_size]; exact S.size, fun t => ?_⟩
  rw [getD_put _ _ _ fun d hd' => Nat.lt_of_lt_of_le (hd d hd') S.size]
  simp only [val_put]
  split
  · exact ⟨rfl, hv⟩
  · obtain ⟨h1, h2⟩ := S.tmp t
    exact ⟨h1.trans (enc_agree X.agree _ h2).symm, ok_agree X.agree X.next _ h2⟩
theorem Sim.put0 (S : Sim W0 base nt ρ s a w) (dst : Option Nat) (hd : ∀ d, dst = some d → d < nt) : Sim W0 base nt ρ { tm := Ae.put s.tm dst und, hp := s.hp } (a.put dst undef) w := by
  have := S.put (Ext.refl S.rel) (v := und) trivial dst hd
  rwa [enc_und] at this
/-- The guard of an operation, compiled. -/
def cgrd (ops : Array Oper) (g : Option (Nat × Bool)) : Option (Option (Nat × Bool)) :=
  match g with
  | none => some none
  | some (j, b) => match (ops[j]?).bind (·.dst) with
    | some d => some (some (d, b))
    | none => none
theorem enc_bool {ρ : Rho} {v : AV} {b : Bool} (h : enc ρ v = .bool b) : v = .bool b := by cases v <;> simp [enc] at h; exact congrArg _ h
theorem wanted_eq {ops : Array Oper} {o : Oper} {g : Option (Nat × Bool)} {tm : T AV} (hg : cgrd ops o.guard = some g) (hs : ∀ d b, g = some (d, b) → a.tmps.getD d undef = enc ρ (val tm (.t d))) :
    Region.wanted o (yielded ops a.tmps) = wanted tm g := by
  unfold Region.wanted
  unfold cgrd at hg
  split at hg
  · rename_i hn; rw [hn]; obtain rfl := Option.some.inj hg; rfl
  · rename_i j b hn
    split at hg
    · rename_i d hd
      obtain rfl := Option.some.inj hg
      rw [hn]
      have e := hs d b rfl
      simp only [yielded, hd, Option.bind_some, wanted]
      rw [Array.getD_eq_getD_getElem?] at e
      simp only [val] at e
      cases ht : tm.get d with
      | none =>
        rw [ht] at e
        simp only [Option.getD_none, enc_und] at e
        cases ha : a.tmps[d]? with
        | none => rfl
        | some u => rw [ha] at e; simp only [Option.getD_some] at e; subst e; rfl
      | some v =>
        rw [ht] at e
        simp only [Option.getD_some] at e
        cases ha : a.tmps[d]? with
        | none =>
          rw [ha] at e
          simp only [Option.getD_none] at e
          cases v <;> simp [enc, undef] at e <;> rfl
        | some u =>
          rw [ha] at e
          simp only [Option.getD_some] at e
          subst e
          cases v <;> simp only [enc] <;> first | rfl | (rename_i c; cases b <;> cases c <;> rfl)
    · cases hg
/-- An operation, with its slot and its guard, compiled. -/
structure COp (P : Program) (nt : Nat) (ops : Array Oper) (o : Oper) (x : AOper) : Prop where
  op : cop P o = some x.op ∨ x.op = .bad
  dst : x.dst = o.dst
  lt : ∀ d, x.dst = some d → d < nt
  grd : cgrd ops o.guard = some x.grd
def QOf (W0 : World) (base nt : Nat) (ρ : Rho) (h : Hp) (w : World) (e : Ex) (s' : St) : Exit → Act → World → Prop := fun e' a' w' =>
  (match e, e' with | .nrm, .normal => True | .exit i, .exit j => i = j | .ret, .ret => True | _, _ => False) ∧ ∃ ρ', Sim W0 base nt ρ' s' a' w' ∧ Ext base ρ h w ρ' s'.hp w'
theorem QOf.trans {h0 : Hp} {w0 : World} {ρ0 : Rho} {e : Ex} {e' : Exit} (X : Ext base ρ0 h0 w0 ρ h w) (hq : QOf W0 base nt ρ h w e s' e' a' w') : QOf W0 base nt ρ0 h0 w0 e s' e' a' w' := by
  obtain ⟨h1, ρ', h2, h3⟩ := hq
  exact ⟨h1, ρ', h2, X.trans h3⟩
inductive All2 {α β : Type} (R : α → β → Prop) : List α → List β → Prop
  | nil : All2 R [] []
  | cons {a : α} {b : β} {as : List α} {bs : List β} : R a b → All2 R as bs → All2 R (a :: as) (b :: bs)
theorem reg_nrm {E : Env} : ∀ (m : Nat) (xs : List AOper) (s : St) (e : Ex) (s' : St), exec E m (.reg xs) s = some (e, s') → e = .nrm
  | 0, _, _, _, _, hr => by cases hr
  | m + 1, [], s, e, s', hr => by
    rw [exec_succ] at hr
    exact (pair_inj (show some (Ex.nrm, s) = some (e, s') from hr)).1.symm
  | m + 1, x :: xs, s, e, s', hr => by
    rw [exec_succ] at hr
    have hr : s_op x xs E (exec E m) s = some (e, s') := hr
    unfold s_op s_cont at hr
    repeat' split at hr
    all_goals first
      | (cases hr; done)
      | exact reg_nrm m _ _ _ _ hr
theorem reg_sound {E : Env} {ops : Array Oper} {Q : Exit → Act → World → Prop} (MO : MethOk P E) (n : Nat) (CO : ∀ m, m < n → CallsOk P W0 base E (exec E m)) :
    ∀ (m i : Nat) (os : List Oper) (xs : List AOper) (ρ : Rho) (s : St) (a : Act) (w : World) (e : Ex) (s' : St), m ≤ n → ops.toList.drop i = os → All2 (COp P nt ops) os xs → Sim W0 base nt ρ s a w →
      exec E m (.reg xs) s = some (e, s') → (∀ a' w' ρ', Sim W0 base nt ρ' s' a' w' → Ext base ρ s.hp w ρ' s'.hp w' → Q .normal a' w') → wpOps P ops Q (List.range' i os.length) a w := by
  intro m
  induction m with
  | zero => intro i os xs ρ s a w e s' _ _ _ _ hr _; cases hr
  | succ m ih =>
    intro i os xs ρ s a w e s' hm hdrop hf S hr hQ
    rw [exec_succ] at hr
    cases hf with
    | nil =>
      obtain ⟨rfl, rfl⟩ : Ex.nrm = e ∧ s = s' := by
        have := pair_inj (show some (Ex.nrm, s) = some (e, s') from hr); exact this
      exact hQ a w ρ S (Ext.refl S.rel)
    | cons hx hrest =>
      rename_i o x os xs
      have ho : ops[i]? = some o := by
        rw [← Array.getElem?_toList]
        have := congrArg (fun l => l[0]?) hdrop
        simpa using this
      have hdrop' : ops.toList.drop (i + 1) = os := by
        rw [← List.drop_drop, hdrop]; rfl
      have hr : s_op x xs E (exec E m) s = some (e, s') := hr
      have hw := wanted_eq (a := a) (ρ := ρ) (tm := s.tm) hx.grd fun d b _ => (S.tmp d).1
      simp only [List.length_cons, List.range'_succ]
      rw [wpOps]
      simp only [ho]
      unfold s_op at hr
      split at hr
      · rename_i hwt
        rw [hw, hwt]
        simp only [if_true]
        unfold s_cont at hr
        split at hr
        · rename_i v h' hop
          rcases hx.op with hc | hbad
          · have D := op_sound (CO m (by omega)) S.glob MO hc S.evals S.rel hop
            have key : ∀ u w1, Gives base ρ s.hp w v h' u w1 → wpOps P ops Q (List.range' (i + 1) os.length) (a.put o.dst u) w1 := by
              rintro u w1 ⟨ρ1, X, hv, rfl⟩
              have S1 := S.put X hv x.dst hx.lt
              rw [hx.dst] at S1
              rw [hx.dst] at hr
              exact ih (i + 1) os xs ρ1 _ _ _ e s' (by omega) hdrop' hrest S1 hr fun a' w' ρ' S' X' => hQ a' w' ρ' S' (X.trans X')
            exact .inl (Takes.wp D key)
          · rw [hbad] at hop; cases hop
        · cases hr
      · rename_i hwt
        rw [hw, hwt]
        simp only [Bool.false_eq_true, if_false]
        have S1 := S.put0 x.dst hx.lt
        rw [hx.dst] at S1
        rw [hx.dst] at hr
        exact ih (i + 1) os xs ρ _ _ _ e s' (by omega) hdrop' hrest S1 hr hQ
end
end Go.Ae
