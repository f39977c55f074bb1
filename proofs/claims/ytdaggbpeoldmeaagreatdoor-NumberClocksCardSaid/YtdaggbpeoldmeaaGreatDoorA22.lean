/- The abstract evaluator: code and calls. -/
import Derived.Test.YtdaggbpeoldmeaaGreatDoorA21
import Derived.Scope
set_option linter.unusedVariables false
set_option linter.unusedSimpArgs false
namespace Go.Ae

def cres (P : Program) : List ResultVar → Option (List ARes)
  | [] => some []
  | .tmp t :: r => match cres P r with
    | some l => some (.tmp t :: l)
    | none => none
  | .cell ad t :: r => match cagg P t, csz P t, cres P r with
    | some a, some n, some l => some (.cell ad a (if a then n else 1) :: l)
    | _, _, _ => none
def cfn (P : Program) (fn : Func) (c : Code) : Option AFn :=
  match cres P fn.results.toList with
  | some rs => some ⟨fn.ntmps, rs, ccode P fn.ntmps c⟩
  | none => none

section
variable {P : Program} {W0 : World} {base nt : Nat} {E : Env} {ρ ρ' : Rho} {h h' : Hp} {w w' : World} {s s' : St} {a a' : Act} {v : AV}

theorem coper_sound {ops : Array Oper} {o : Oper} {x : AOper} (h : coper P nt ops o = some x) : COp P nt ops o x := by
  unfold coper at h
  split at h
  · rename_i g hg
    split at h
    · rename_i hd
      obtain rfl := Option.some.inj h
      refine ⟨?_, rfl, fun d hd' => ?_, hg⟩
      · cases cop P o with
        | none => exact .inr rfl
        | some a => exact .inl rfl
      · have hd' : o.dst = some d := hd'
        rw [hd'] at hd
        simpa [Nat.blt_eq] using hd
    · cases h
  · cases h
theorem copers_sound {ops : Array Oper} : ∀ {os : List Oper} {xs : List AOper}, copers P nt ops os = some xs → All2 (COp P nt ops) os xs
  | [], xs, h => by obtain rfl := Option.some.inj h; exact .nil
  | o :: os, xs, h => by
    unfold copers at h
    split at h
    · rename_i x hx
      split at h
      · rename_i ys hys
        obtain rfl := Option.some.inj h
        exact .cons (coper_sound hx) (copers_sound hys)
      · cases h
    · cases h
theorem stabs_sound {ops : Array Oper} {ch : List (Nat × Nat)} {os : List Oper} {xs : List AOper} (h : All2 (COp P nt ops) os xs) : ∀ (i : Nat) (ms : List Nat), All2 (COp P nt ops) os (stabs ch i xs ms) := by
  induction h with
  | nil => intro i ms; cases ms <;> exact .nil
  | cons r rs ih =>
    rename_i o x os xs
    intro i ms
    cases ms with
    | nil => exact .cons r rs
    | cons m ms =>
      simp only [stabs]
      refine .cons ?_ (ih (i + 1) ms)
      split
      · exact ⟨r.op, r.dst, r.lt, r.grd⟩
      · exact r
def resV (tmps : Array Value) : ResultVar → Sem Value
  | .tmp t => pure (tmps.getD t undef)
  | .cell a t => do loadVar t (← asAddr (tmps.getD a undef))
theorem results_eq (fn : Func) (tmps : Array Value) : results fn tmps = (do let vs ← fn.results.mapM (resV tmps); pure (if h : vs.size = 1 then vs[0] else .tuple vs)) := by
  unfold results
  congr
theorem results_sound (S : Sim W0 base nt ρ s a w) : ∀ (rv : List ResultVar) (rs : List ARes) (vs : List AV), cres P rv = some rs → ressA s rs = some vs →
    (rv.mapM (resV a.tmps)).run P w = .ok (encs ρ vs) w ∧ oks ρ s.hp.next vs
  | [], rs, vs, hc, hr => by
    obtain rfl := Option.some.inj hc
    obtain rfl := Option.some.inj hr
    exact ⟨by simp [encs], trivial⟩
  | .tmp t :: rv, rs, vs, hc, hr => by
    simp only [cres] at hc
    split at hc
    · rename_i l hl
      obtain rfl := Option.some.inj hc
      simp only [ressA, resA] at hr
      split at hr
      · rename_i v vs' hv hvs
        obtain rfl := Option.some.inj hr
        obtain rfl := Option.some.inj hv
        obtain ⟨i1, i2⟩ := results_sound S rv l vs' hl hvs
        obtain ⟨t1, t2⟩ := S.tmp t
        refine ⟨?_, t2, i2⟩
        rw [List.mapM_cons]
        simp only [Sem.run_bind, resV, Sem.run_pure, Result.andThen_ok, i1, encs]
        rw [t1]; rfl
      · cases hr
    · cases hc
  | .cell ad t :: rv, rs, vs, hc, hr => by
    simp only [cres] at hc
    split at hc
    · rename_i ag n l hag hn hl
      obtain rfl := Option.some.inj hc
      simp only [ressA] at hr
      split at hr
      · rename_i v vs' hv hvs
        obtain rfl := Option.some.inj hr
        obtain ⟨i1, i2⟩ := results_sound S rv l vs' hl hvs
        obtain ⟨t1, t2⟩ := S.tmp ad
        have hvv : (s.tm.get ad).getD und = val s.tm (.t ad) := rfl
        simp only [resA, hvv] at hv
        split at hv
        · rename_i b o hb
          rw [hb] at t1
          split at hv
          · rename_i cs own st hg
            by_cases hlen : o + (if ag then n else 1) ≤ cs.length
            · rw [if_pos hlen] at hv
              obtain ⟨h1, h2⟩ := loadVar_sound S.rel hag hn hg hlen (v := v) (by cases ag <;> simpa using hv)
              refine ⟨?_, h2, i2⟩
              rw [List.mapM_cons]
              simp only [Sem.run_bind, resV, Sem.run_pure, Result.andThen_ok, i1, encs, t1, enc, asAddr, h1]
            · rw [if_neg hlen] at hv; cases hv
          · cases hv
        · cases hv
      · cases hr
    · cases hc
theorem result_sound (S : Sim W0 base nt ρ s a w) {fn : Func} {rs : List ARes} (hc : cres P fn.results.toList = some rs) (hr : resultA s rs = some v) : (results fn a.tmps).run P w = .ok (enc ρ v) w ∧ ok ρ s.hp.next v := by
  unfold resultA at hr
  rw [results_eq]
  have key : ∀ vs, ressA s rs = some vs → (fn.results.mapM (resV a.tmps)).run P w = .ok (encs ρ vs).toArray w ∧ oks ρ s.hp.next vs := by
    intro vs hvs
    obtain ⟨h1, h2⟩ := results_sound S _ _ _ hc hvs
    refine ⟨?_, h2⟩
    rw [Array.mapM_eq_mapM_toList, map_eq_pure_bind]
    simp only [Sem.run_bind, h1, Result.andThen_ok, Sem.run_pure]
  split at hr
  · rename_i u hu
    obtain rfl := Option.some.inj hr
    obtain ⟨h1, h2⟩ := key _ hu
    refine ⟨?_, h2.1⟩
    simp only [Sem.run_bind]
    rw [h1]
    simp [encs]
  · rename_i vs hne hvs
    obtain rfl := Option.some.inj hr
    obtain ⟨h1, h2⟩ := key _ hvs
    refine ⟨?_, h2⟩
    simp only [Sem.run_bind]
    rw [h1]
    simp only [Result.andThen_ok, Sem.run_pure, List.size_toArray, encs_length]
    split
    · rename_i hl
      obtain ⟨u, rfl⟩ := List.length_eq_one_iff.1 hl
      exact absurd rfl (hne u)
    · simp [enc]
  · cases hr
/-! ### Code -/
def FnsOk (P : Program) (E : Env) : Prop := ∀ f afn, E.fns f = some afn → ∃ fn c, P.funcs[f]? = some fn ∧ (fn.name == "runtime.NumGoroutine") = false ∧ fn.body = some c ∧ cfn P fn c = some afn
def PrimsOk (P : Program) (W0 : World) (base : Nat) (E : Env) : Prop := ∀ f p, E.prims f = some p → ∀ args h v h', p args h = some (v, h') → ∀ ρ w, Go.RowKit.Below base W0 w → HRel base ρ h w → oks ρ h.next args → Does P base ρ h w (callFunc f (encs ρ args).toArray) v h'
def ExtsOk (P : Program) (W0 : World) (base : Nat) (E : Env) : Prop := ∀ f e, E.exts f = some e → ∀ args v, e args = some v → ∀ ρ h w, Go.RowKit.Below base W0 w → HRel base ρ h w → oks ρ h.next args → Does P base ρ h w (callFunc f (encs ρ args).toArray) v h
structure EnvOk (P : Program) (W0 : World) (base : Nat) (E : Env) : Prop where
  fns : FnsOk P E
  prims : PrimsOk P W0 base E
  exts : ExtsOk P W0 base E
  meth : MethOk P E
  later : PrimsLater E
  mixed : P.follows .mixedOrders = true
def CodeOk (P : Program) (W0 : World) (base : Nat) (E : Env) (n : Nat) : Prop := ∀ (c : Code) (s : St) (e : Ex) (s' : St) (nt : Nat), exec E n (ccode P nt c) s = some (e, s') → ∀ ρ a w, Sim W0 base nt ρ s a w → c.wp P (QOf W0 base nt ρ s.hp w e s') a w
theorem Sim.drew (S : Sim W0 base nt ρ s a w) (d : Nat) : Sim W0 base nt ρ s a { w with drawn := d } := ⟨S.rel.drawn d, S.glob.trans ⟨rfl, rfl, rfl, Nat.le_refl _, fun _ _ => rfl⟩, S.defers, S.size, S.tmp⟩
theorem wp_loop_count {c : Code} {Q : Exit → Act → World → Prop} (J : Nat → Act → World → Prop) {n : Nat} (h0 : J n a w) (round : ∀ n a w, J n a w → c.wp P (Exit.then (fun a' w' => ∃ n', n' < n ∧ J n' a' w') Q) a w) : (Code.loop c).wp P Q a w := by
  intro b k cs
  have key : ∀ n a w, J n a w → ∃ e a' w', Q e a' w' ∧ Arrives P (lone (b.at a (.code c :: .inLoop c :: k)) cs w) b k cs e a' w' := by
    intro n
    induction n using Nat.strongRecOn with
    | _ n ih =>
      intro a w hI
      obtain ⟨e, a₁, w₁, hq, harr⟩ := round n a w hI b (.inLoop c :: k) cs
      cases e with
      | normal =>
        obtain ⟨n', hlt, hI₁⟩ := hq
        obtain ⟨e₂, a₂, w₂, hq₂, harr₂⟩ := ih n' hlt a₁ w₁ hI₁
        exact ⟨e₂, a₂, w₂, hq₂, .of_steps (Steps.trans harr (.one step_inLoop)) harr₂⟩
      | exit id => exact ⟨_, a₁, w₁, hq, .pass (x := .inLoop c) rfl (fun _ _ => .inl (by simp)) harr⟩
      | goto l => exact ⟨_, a₁, w₁, hq, .pass (x := .inLoop c) rfl (fun _ _ => .inl (by simp)) harr⟩
      | ret => exact ⟨_, a₁, w₁, hq, .pass (x := .inLoop c) rfl (fun _ _ => .inl (by simp)) harr⟩
      | panic ch => exact ⟨_, a₁, w₁, hq, .pass (x := .inLoop c) rfl (fun _ _ => .inl (by simp)) harr⟩
      | outgrown => exact ⟨_, a₁, w₁, hq, .pass (x := .inLoop c) rfl (fun _ _ => .inl (by simp)) harr⟩
  obtain ⟨e, a', w', hq, harr⟩ := key _ a w h0
  exact ⟨e, a', w', hq, .of_steps (.one step_loop) harr⟩
theorem code_sound (EO : EnvOk P W0 base E) (n : Nat) (IH : ∀ m, m < n → CodeOk P W0 base E m) (CO : ∀ m, m < n → CallsOk P W0 base E (exec E m)) : CodeOk P W0 base E n := by
  intro c s e s' nt hr ρ a w S
  cases n with
  | zero => cases hr
  | succ m =>
    have hI := IH m (by omega)
    rw [exec_succ] at hr
    cases c
    case skip =>
      obtain ⟨rfl, rfl⟩ := pair_inj (show some (Ex.nrm, s) = some (e, s') from hr)
      exact wp_skip ⟨trivial, ρ, S, Ext.refl S.rel⟩
    case label l =>
      obtain ⟨rfl, rfl⟩ := pair_inj (show some (Ex.nrm, s) = some (e, s') from hr)
      exact wp_label ⟨trivial, ρ, S, Ext.refl S.rel⟩
    case exit id =>
      obtain ⟨rfl, rfl⟩ := pair_inj (show some (Ex.exit id, s) = some (e, s') from hr)
      exact wp_exit ⟨rfl, ρ, S, Ext.refl S.rel⟩
    case ret =>
      obtain ⟨rfl, rfl⟩ := pair_inj (show some (Ex.ret, s) = some (e, s') from hr)
      exact wp_ret ⟨trivial, ρ, S, Ext.refl S.rel⟩
    case seq x y =>
      have hr : s_seq (ccode P nt x) (ccode P nt y) E (exec E m) s = some (e, s') := hr
      unfold s_seq at hr
      refine wp_seq ?_
      split at hr
      · rename_i s1 h1
        refine wp_mono (hI x s .nrm s1 nt h1 ρ a w S) fun e1 a1 w1 hq => ?_
        obtain ⟨q1, ρ1, S1, X1⟩ := hq
        cases e1 <;> first | exact q1.elim | skip
        exact wp_mono (hI y s1 e s' nt hr ρ1 a1 w1 S1) fun e2 a2 w2 hq2 => QOf.trans X1 hq2
      · rename_i hne
        refine wp_mono (hI x s e s' nt hr ρ a w S) fun e1 a1 w1 hq => ?_
        cases e1 <;> first | exact hq | skip
        exfalso
        obtain ⟨q1, _⟩ := hq
        cases e <;> first | exact q1.elim | skip
        exact hne s' hr
    case scope c =>
      have hr : s_seq .skip (ccode P nt c) E (exec E m) s = some (e, s') := hr
      unfold s_seq at hr
      cases m with
      | zero => cases hr
      | succ k =>
        have h1 : exec E (k + 1) .skip s = some (.nrm, s) := by rw [exec_succ]; rfl
        rw [h1] at hr
        refine wp_scope_straight (wp_mono (hI c s e s' nt hr ρ a w S) fun e1 a1 w1 hq => ?_)
        cases e1 <;> first | exact hq | (obtain ⟨q1, _⟩ := hq; cases e <;> exact q1.elim)
    case cond x c1 c2 =>
      simp only [ccode] at hr
      split at hr
      · rename_i y hy
        have hr : s_cond y (ccode P nt c1) (ccode P nt c2) E (exec E m) s = some (e, s') := hr
        unfold s_cond at hr
        obtain ⟨e1, _⟩ := S.evals _ _ hy
        split at hr
        · rename_i g; exact wp_cond_true (by rw [e1, g]; simp [enc]) (hI c1 s e s' nt hr ρ a w S)
        · rename_i g; exact wp_cond_false (by rw [e1, g]; simp [enc]) (hI c2 s e s' nt hr ρ a w S)
        · cases hr
      · cases hr
    case block id c =>
      have hr : s_block id (ccode P nt c) E (exec E m) s = some (e, s') := hr
      unfold s_block at hr
      refine wp_block ?_
      split at hr
      · rename_i i s1 h1
        split at hr
        · rename_i hid
          obtain ⟨rfl, rfl⟩ := pair_inj hr
          obtain rfl := Nat.eq_of_beq_eq_true hid
          refine wp_mono (hI c s _ _ nt h1 ρ a w S) fun e1 a1 w1 hq => ?_
          obtain ⟨q1, q2⟩ := hq
          cases e1 <;> first | exact q1.elim | skip
          simp only at q1
          subst q1
          simp only [Exit.inBlock, if_true]
          exact ⟨trivial, q2⟩
        · rename_i hid
          obtain ⟨rfl, rfl⟩ := pair_inj hr
          refine wp_mono (hI c s _ _ nt h1 ρ a w S) fun e1 a1 w1 hq => ?_
          obtain ⟨q1, q2⟩ := hq
          cases e1 <;> first | exact q1.elim | skip
          simp only at q1
          subst q1
          have : ¬ i = id := fun e => by subst e; simp at hid
          simp only [Exit.inBlock, if_neg this]
          exact ⟨rfl, q2⟩
      · rename_i hne
        refine wp_mono (hI c s e s' nt hr ρ a w S) fun e1 a1 w1 hq => ?_
        cases e1 <;> first | exact hq | skip
        exfalso
        obtain ⟨q1, _⟩ := hq
        cases e <;> first | exact q1.elim | skip
        exact hne _ s' hr
    case region id ops draw =>
      cases draw with
      | false =>
        simp only [ccode] at hr
        split at hr
        · rename_i xs hxs
          have hr : exec E (m + 1) (.reg xs) s = some (e, s') := by rw [exec_succ]; exact hr
          have hnrm := reg_nrm _ _ _ _ _ hr
          subst hnrm
          have := reg_sound (Q := QOf W0 base nt ρ s.hp w .nrm s') EO.meth (m + 1) CO (m + 1) 0 ops.toList xs ρ s a w .nrm s' (Nat.le_refl _) (by simp) (copers_sound hxs) S hr (fun a' w' ρ' S' X' => ⟨trivial, ρ', S', X'⟩)
          refine wp_region ?_
          rw [List.range_eq_range']
          simpa using this
        · cases hr
      | true =>
        simp only [ccode] at hr
        split at hr
        · rename_i xs hxs
          split at hr
          · rename_i hd
            have hr : exec E m (.drun (stabs (chains 0 xs (masks ops.toList [])) 0 xs (masks ops.toList [])) 0 s.hp.clk []) s = some (e, s') := hr
            obtain ⟨rfl, ss, vs, t1, t2, T, _⟩ := drun_trace m _ _ _ _ _ _ _ hr
            have ST := stat_of (stabs_sound (copers_sound hxs) 0 (masks ops.toList [])) rfl hd
            refine wp_region_any EO.mixed ?_
            subst t1
            have hlen := ST.size
            have S1 := S.drew (w.drawn + 1)
            have HQ : ∀ a' w' ρ', Sim W0 base nt ρ' (ss (stabs (chains 0 xs (masks ops.toList [])) 0 xs (masks ops.toList [])).length) a' w' → Ext base ρ (ss 0).hp { w with drawn := w.drawn + 1 } ρ' (ss (stabs (chains 0 xs (masks ops.toList [])) 0 xs (masks ops.toList [])).length).hp w' → QOf W0 base nt ρ (ss 0).hp w .nrm s' .normal a' w' := by
              intro a' w' ρ' S' X'
              rw [Nat.zero_add] at t2
              rw [t2] at S' X'
              exact ⟨trivial, ρ', S', (Ext.drawn S.rel _).trans X'⟩
            refine any_sound ST EO.later EO.meth (fun k hk => CO k (by omega)) T S1 HQ ops.size _ (fun _ => False) 0 ρ a _ (fun _ => (0, 0)) (by simp) (fun k => ?_) ?_ ?_
            · simp only [Array.getD_eq_getD_getElem?, Array.getElem?_replicate, false_iff]
              split <;> simp
            · refine Nat.le_trans List.countP_le_length ?_
              simp
            · exact ⟨Nat.zero_le _, fun j hj => hj.elim, fun k x hx hc => by simp, fun k x hx hc hk => by omega, Ext.refl S1.rel, S.defers, S.size, fun k x hx hS => hS.elim, fun k x z hx hS => hS.elim, fun k k' x x' hx hx' hS => hS.elim, fun d hd => rfl⟩
          · cases hr
        · cases hr
    case loop c =>
      refine wp_loop_count (fun k a1 w1 => k ≤ m + 1 ∧ ∃ s1 ρ1, exec E k (.loop (ccode P nt c)) s1 = some (e, s') ∧ Sim W0 base nt ρ1 s1 a1 w1 ∧ Ext base ρ s.hp w ρ1 s1.hp w1) (n := m + 1) ⟨Nat.le_refl _, s, ρ, by rw [exec_succ]; exact hr, S, Ext.refl S.rel⟩ ?_
      rintro k a1 w1 ⟨hk, s1, ρ1, hr1, S1, X1⟩
      cases k with
      | zero => cases hr1
      | succ k =>
        rw [exec_succ] at hr1
        have hr1 : s_loop (ccode P nt c) E (exec E k) s1 = some (e, s') := hr1
        unfold s_loop at hr1
        split at hr1
        · rename_i s2 h2
          refine wp_mono (IH k (by omega) c s1 .nrm s2 nt h2 ρ1 a1 w1 S1) fun e1 a2 w2 hq => ?_
          obtain ⟨q1, ρ2, S2, X2⟩ := hq
          cases e1 <;> first | exact q1.elim | skip
          exact ⟨k, by omega, by omega, s2, ρ2, hr1, S2, X1.trans X2⟩
        · rename_i hne
          refine wp_mono (IH k (by omega) c s1 e s' nt hr1 ρ1 a1 w1 S1) fun e1 a2 w2 hq => ?_
          have hq' := QOf.trans X1 hq
          cases e1 <;> first | exact hq' | skip
          exfalso
          obtain ⟨q1, _⟩ := hq
          cases e <;> first | exact q1.elim | skip
          exact hne s' hr1
    all_goals cases hr
theorem get_enter : ∀ (args : List AV) (i : Nat) (t : T AV) (k : Nat), (enterA args i t).get k = if i ≤ k ∧ k < i + args.length then args[k - i]? else t.get k
  | [], i, t, k => by simp [enterA]; omega
  | v :: r, i, t, k => by
    rw [show enterA (v :: r) i t = enterA r (i + 1) (t.set i v) from rfl, get_enter r (i + 1) (t.set i v) k, T.get_set]
    simp only [List.length_cons]
    by_cases h1 : k = i
    · subst h1
      rw [if_neg (by omega), if_pos rfl, if_pos (by omega)]; simp
    · by_cases h2 : i + 1 ≤ k ∧ k < i + 1 + r.length
      · rw [if_pos h2, if_pos (by omega), show k - i = (k - (i + 1)) + 1 by omega]; rfl
      · rw [if_neg h2, if_neg h1, if_neg (by omega)]
theorem calls_sound (EO : EnvOk P W0 base E) (n : Nat) (CD : CodeOk P W0 base E n) : CallsOk P W0 base E (exec E n) := by
  intro f args h v h' hr ρ w B R hok
  unfold callA at hr
  split at hr
  · rename_i e he
    split at hr
    · rename_i u hu
      obtain ⟨rfl, rfl⟩ := pair_inj hr
      exact EO.exts f e he args u hu ρ h w B R hok
    · cases hr
  · split at hr
    · rename_i p hp
      exact EO.prims f p hp args h v h' hr ρ w B R hok
    · split at hr
      · cases hr
      · rename_i afn hafn
        obtain ⟨fn, c, hf, hnm, hb, hcf⟩ := EO.fns f afn hafn
        unfold cfn at hcf
        split at hcf
        · rename_i rs hrs
          obtain rfl := Option.some.inj hcf
          have S : Sim W0 base fn.ntmps ρ { tm := enterA args 0 .nil, hp := h } { tmps := (encs ρ args).toArray ++ Array.replicate (fn.ntmps - (encs ρ args).toArray.size) undef, defers := [] } w := by
            refine ⟨R, B, rfl, by simp; omega, fun t => ?_⟩
            simp only [val, get_enter, Nat.zero_le, true_and, Nat.zero_add, Nat.sub_zero, Array.getD_eq_getD_getElem?]
            by_cases ht : t < args.length
            · rw [if_pos ht, Array.getElem?_append_left (by simpa [encs_length] using ht)]
              obtain ⟨u, hu⟩ : ∃ u, args[t]? = some u := ⟨args[t], List.getElem?_eq_getElem ht⟩
              simp only [List.getElem?_toArray, encs_map, List.getElem?_map, hu, Option.map_some, Option.getD_some]
              exact ⟨trivial, (oks_iff _ _ _).1 hok u (List.mem_of_getElem? hu)⟩
            · rw [if_neg ht, Array.getElem?_append_right (by simp [encs_length]; omega), Array.getElem?_replicate]
              simp only [T.get_nil, Option.getD_none, enc_und]
              exact ⟨by split <;> rfl, trivial⟩
          have run : (callFunc f (encs ρ args).toArray).run P w = .ok (.enter f (encs ρ args).toArray) w := by
            have hnm' : ¬ fn.name = "runtime.NumGoroutine" := fun e => by rw [e] at hnm; exact absurd hnm (by decide)
            simp [callFunc, run_program, hf, hnm', hb]
          unfold Does
          rw [run]
          have fin : ∀ (e : Ex) (s : St), (∀ i, e ≠ .exit i) → exec E n (ccode P fn.ntmps c) { tm := enterA args 0 .nil, hp := h } = some (e, s) → resultA s rs = some v → s.hp = h' → Takes P (Gives base ρ h w v h') (.ok (.enter f (encs ρ args).toArray) w) := by
            rintro e s hne hx hres rfl
            refine calls_of_wp hf hb (wp_mono (CD c _ e s fn.ntmps hx ρ _ w S) fun e1 a1 w1 hq => ?_)
            obtain ⟨q1, ρ1, S1, X1⟩ := hq
            obtain ⟨r1, r2⟩ := result_sound S1 hrs hres
            cases e1 <;> cases e <;> first | exact q1.elim | exact ⟨S1.defers, _, r1, _, rfl, ρ1, X1, r2, rfl⟩ | exact absurd rfl (hne _)
          split at hr
          · cases hr
          · rename_i e s hne hx
            split at hr
            · rename_i u hu
              obtain ⟨rfl, rfl⟩ := pair_inj hr
              exact fin e s (fun i hi => hne i hi) hx hu rfl
            · cases hr
          · cases hr
        · cases hcf
theorem sound (EO : EnvOk P W0 base E) : ∀ n, CodeOk P W0 base E n ∧ CallsOk P W0 base E (exec E n) := by
  intro n
  induction n using Nat.strongRecOn with
  | _ n ih =>
    have h1 := code_sound EO n (fun m hm => (ih m hm).1) (fun m hm => (ih m hm).2)
    exact ⟨h1, calls_sound EO n h1⟩
/-- A call, evaluated, is the call. -/
theorem call_sound (EO : EnvOk P W0 base E) {n f : Nat} {args : List AV} (hr : call E n f args h = some (v, h')) (B : Go.RowKit.Below base W0 w) (R : HRel base ρ h w) (hok : oks ρ h.next args) : Does P base ρ h w (callFunc f (encs ρ args).toArray) v h' :=
  (sound EO n).2 f args h v h' hr ρ w B R hok
end
end Go.Ae
