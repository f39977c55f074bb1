/- The abstract evaluator: more fuel gives no less; runs without fuel. -/
import Derived.Test.YtdaggbpeoldmeaaGreatDoorA14
set_option linter.unusedVariables false
set_option linter.unusedSimpArgs false
namespace Go.Ae
def RecLe (a b : Rec) : Prop := ∀ c s r, a c s = some r → b c s = some r
theorem callA_mono {E : Env} {a b : Rec} (hab : RecLe a b) {f : Nat} {args : List AV} {h : Hp} {r : AV × Hp} (hr : callA E a f args h = some r) : callA E b f args h = some r := by
  unfold callA at hr ⊢
  split at hr
  · rename_i e he; try simp only [he] at hr ⊢
    exact hr
  · rename_i he
    try simp only [he]
    split at hr
    · rename_i p hp; try simp only [hp]
      exact hr
    · rename_i hp
      try simp only [hp]
      split at hr
      · cases hr
      · rename_i fn hf
        try simp only [hf]
        split at hr
        · cases hr
        · rename_i e s hne hx
          rw [hab _ _ _ hx]
          cases e with
          | exit i => exact absurd rfl (hne i)
          | nrm => exact hr
          | ret => exact hr
        · cases hr
theorem opA_mono {E : Env} {a b : Rec} (hab : RecLe a b) {o : AOp} {s : St} {r : AV × Hp} (hr : opA o E a s = some r) : opA o E b s = some r := by
  cases o <;> simp only [opA] at hr ⊢ <;> first | exact hr | skip
  case callF => exact callA_mono hab hr
  case callV =>
    unfold o_callV at hr ⊢
    split at hr
    · exact callA_mono hab hr
    · cases hr
  case inv =>
    unfold o_inv at hr ⊢
    split at hr
    · split at hr
      · rename_i hm; try simp only [hm]
        exact callA_mono hab hr
      · cases hr
    · cases hr
theorem step_mono {E : Env} {a b : Rec} (hab : RecLe a b) : RecLe (step E a) (step E b) := by
  intro c s r hr
  unfold step at hr ⊢
  cases c <;> simp only [stepD] at hr ⊢ <;> first | exact hr | skip
  case reg ops =>
    cases ops with
    | nil => exact hr
    | cons o l =>
      simp only [s_reg] at hr ⊢
      unfold s_op at hr ⊢
      split at hr
      · unfold s_cont at hr ⊢
        split at hr
        · rename_i hop
          rw [opA_mono hab hop]
          exact hab _ _ _ hr
        · cases hr
      · exact hab _ _ _ hr
  case dreg ops => exact hab _ _ _ hr
  case drun ops i c0 acc =>
    cases ops with
    | nil => exact hr
    | cons o l =>
      simp only [s_drun] at hr ⊢
      unfold s_dop at hr ⊢
      split at hr
      · rename_i hw
        split at hr
        · rename_i v h hop
          rw [opA_mono hab hop]
          simp only
          split at hr
          · rename_i acc' hn
            try simp only [hn]
            split at hr
            · rename_i ha; try simp only [ha]
              exact hab _ _ _ hr
            · cases hr
          · cases hr
        · cases hr
      · rename_i hw
        split at hr
        · rename_i ha; exact hab _ _ _ hr
        · cases hr
  case seq x y =>
    unfold s_seq at hr ⊢
    split at hr
    · rename_i s1 h1
      rw [hab _ _ _ h1]
      exact hab _ _ _ hr
    · rename_i hne
      rw [hab _ _ _ hr]
      obtain ⟨e, s'⟩ := r
      cases e <;> first | rfl | exact absurd hr (hne _)
  case cond x y z =>
    unfold s_cond at hr ⊢
    split at hr
    · exact hab _ _ _ hr
    · exact hab _ _ _ hr
    · cases hr
  case block id c =>
    unfold s_block at hr ⊢
    split at hr
    · rename_i i s1 h1
      rw [hab _ _ _ h1]
      exact hr
    · rename_i hne
      rw [hab _ _ _ hr]
      obtain ⟨e, s'⟩ := r
      cases e <;> first | rfl | exact absurd hr (hne _ _)
  case loop c =>
    unfold s_loop at hr ⊢
    split at hr
    · rename_i s1 h1
      rw [hab _ _ _ h1]
      exact hab _ _ _ hr
    · rename_i hne
      rw [hab _ _ _ hr]
      obtain ⟨e, s'⟩ := r
      cases e <;> first | rfl | exact absurd hr (hne _)
theorem exec_mono1 {E : Env} : ∀ n, RecLe (exec E n) (exec E (n + 1))
  | 0 => fun c s r hr => by cases hr
  | n + 1 => by
    have := step_mono (E := E) (a := exec E n) (b := exec E (n + 1)) (exec_mono1 n)
    intro c s r hr
    rw [exec_succ] at hr ⊢
    exact this c s r hr
theorem exec_mono {E : Env} {n m : Nat} (h : n ≤ m) : RecLe (exec E n) (exec E m) := by
  induction h with
  | refl => exact fun _ _ _ hr => hr
  | step _ ih => exact fun c s r hr => exec_mono1 _ c s r (ih c s r hr)
/-! ### Runs, without fuel -/
def Runs (E : Env) (c : ACode) (s : St) (e : Ex) (s' : St) : Prop := ∃ n, exec E n c s = some (e, s')
def CallsTo (E : Env) (f : Nat) (args : List AV) (h : Hp) (v : AV) (h' : Hp) : Prop := ∃ n, call E n f args h = some (v, h')
def OpTo (E : Env) (o : AOp) (s : St) (v : AV) (h' : Hp) : Prop := ∃ n, opA o E (exec E n) s = some (v, h')
section
variable {E : Env} {s s' s1 : St} {e : Ex} {h h' : Hp} {v : AV}
theorem OpTo.plain {o : AOp} (hc : aop o (val s.tm) s.hp = some (v, h')) (hn : o.calls = false) : OpTo E o s v h' :=
  ⟨0, by have : opA o E (exec E 0) s = aop o (val s.tm) s.hp := by cases o <;> first | (simp [AOp.calls] at hn; done) | rfl
         rw [this]; exact hc⟩
theorem OpTo.callF {f : Nat} {args : List Opd} (hc : CallsTo E f (args.map (val s.tm)) s.hp v h') : OpTo E (.callF f args) s v h' := hc
theorem OpTo.callV {x : Opd} {f : Nat} {cap : List AV} {args : List Opd} (hx : val s.tm x = .fn f cap) (hc : CallsTo E f (args.map (val s.tm) ++ cap) s.hp v h') : OpTo E (.callV x args) s v h' := by
  obtain ⟨n, hn⟩ := hc
  exact ⟨n, by simp only [opA, o_callV, hx]; exact hn⟩
theorem OpTo.inv {x : Opd} {T f : Nat} {u : AV} {name : String} {args : List Opd} (hx : val s.tm x = .ifc T u) (hm : E.meth T name = some f) (hc : CallsTo E f (u :: args.map (val s.tm)) s.hp v h') : OpTo E (.inv x name args) s v h' := by
  obtain ⟨n, hn⟩ := hc
  exact ⟨n, by simp only [opA, o_inv, hx, hm]; exact hn⟩
theorem Runs.skip : Runs E .skip s .nrm s := ⟨1, by rw [exec_succ]; rfl⟩
theorem Runs.ret : Runs E .ret s .ret s := ⟨1, by rw [exec_succ]; rfl⟩
theorem Runs.exit (id : Nat) : Runs E (.exit id) s (.exit id) s := ⟨1, by rw [exec_succ]; rfl⟩
theorem Runs.nil : Runs E (.reg []) s .nrm s := ⟨1, by rw [exec_succ]; rfl⟩
theorem Runs.op {o : AOper} {r : List AOper} (hw : wanted s.tm o.grd = true) (ho : OpTo E o.op s v h') (hr : Runs E (.reg r) { tm := put s.tm o.dst v, hp := h' } e s') : Runs E (.reg (o :: r)) s e s' := by
  obtain ⟨n, hn⟩ := ho
  obtain ⟨m, hm⟩ := hr
  refine ⟨max n m + 1, ?_⟩
  rw [exec_succ]
  show s_op o r E (exec E (max n m)) s = _
  unfold s_op
  rw [hw, opA_mono (exec_mono (Nat.le_max_left n m)) hn]
  exact exec_mono (Nat.le_max_right n m) _ _ _ hm
theorem Runs.noop {o : AOper} {r : List AOper} (hw : wanted s.tm o.grd = false) (hr : Runs E (.reg r) { tm := put s.tm o.dst und, hp := s.hp } e s') : Runs E (.reg (o :: r)) s e s' := by
  obtain ⟨m, hm⟩ := hr
  refine ⟨m + 1, ?_⟩
  rw [exec_succ]
  show s_op o r E (exec E m) s = _
  unfold s_op
  rw [hw]
  exact hm
theorem Runs.seq {a b : ACode} (h1 : Runs E a s .nrm s1) (h2 : Runs E b s1 e s') : Runs E (.seq a b) s e s' := by
  obtain ⟨n, hn⟩ := h1
  obtain ⟨m, hm⟩ := h2
  refine ⟨max n m + 1, ?_⟩
  rw [exec_succ]
  show s_seq a b E (exec E (max n m)) s = _
  unfold s_seq
  rw [exec_mono (Nat.le_max_left n m) _ _ _ hn]
  exact exec_mono (Nat.le_max_right n m) _ _ _ hm
theorem Runs.seq_out {a b : ACode} (h1 : Runs E a s e s') (he : e ≠ .nrm) : Runs E (.seq a b) s e s' := by
  obtain ⟨n, hn⟩ := h1
  refine ⟨n + 1, ?_⟩
  rw [exec_succ]
  show s_seq a b E (exec E n) s = _
  unfold s_seq
  rw [hn]
  cases e <;> first | rfl | exact absurd rfl he
theorem Runs.cond {x : Opd} {a b : ACode} (t : Bool) (hx : val s.tm x = .bool t) (h1 : t = true → Runs E a s e s') (h2 : t = false → Runs E b s e s') : Runs E (.cond x a b) s e s' := by
  cases t with
  | true =>
    obtain ⟨n, hn⟩ := h1 rfl
    refine ⟨n + 1, ?_⟩
    rw [exec_succ]
    show s_cond x a b E (exec E n) s = _
    unfold s_cond
    rw [hx]; exact hn
  | false =>
    obtain ⟨n, hn⟩ := h2 rfl
    refine ⟨n + 1, ?_⟩
    rw [exec_succ]
    show s_cond x a b E (exec E n) s = _
    unfold s_cond
    rw [hx]; exact hn
theorem Runs.block {id : Nat} {c : ACode} (h1 : Runs E c s e s') (he : ∀ i, e ≠ .exit i) : Runs E (.block id c) s e s' := by
  obtain ⟨n, hn⟩ := h1
  refine ⟨n + 1, ?_⟩
  rw [exec_succ]
  show s_block id c E (exec E n) s = _
  unfold s_block
  rw [hn]
  cases e <;> first | rfl | exact absurd rfl (he _)
theorem Runs.block_exit {id : Nat} {c : ACode} (h1 : Runs E c s (.exit id) s') : Runs E (.block id c) s .nrm s' := by
  obtain ⟨n, hn⟩ := h1
  refine ⟨n + 1, ?_⟩
  rw [exec_succ]
  show s_block id c E (exec E n) s = _
  unfold s_block
  rw [hn]
  simp
theorem Runs.block_out {id i : Nat} {c : ACode} (h1 : Runs E c s (.exit i) s') (hi : i ≠ id) : Runs E (.block id c) s (.exit i) s' := by
  obtain ⟨n, hn⟩ := h1
  refine ⟨n + 1, ?_⟩
  rw [exec_succ]
  show s_block id c E (exec E n) s = _
  unfold s_block
  rw [hn]
  have : Nat.beq i id = false := by
    cases hb : Nat.beq i id with
    | false => rfl
    | true => exact absurd (Nat.eq_of_beq_eq_true hb) hi
  simp only [this]
theorem Runs.loop {c : ACode} (h1 : Runs E c s .nrm s1) (h2 : Runs E (.loop c) s1 e s') : Runs E (.loop c) s e s' := by
  obtain ⟨n, hn⟩ := h1
  obtain ⟨m, hm⟩ := h2
  refine ⟨max n m + 1, ?_⟩
  rw [exec_succ]
  show s_loop c E (exec E (max n m)) s = _
  unfold s_loop
  rw [exec_mono (Nat.le_max_left n m) _ _ _ hn]
  exact exec_mono (Nat.le_max_right n m) _ _ _ hm
theorem Runs.loop_out {c : ACode} (h1 : Runs E c s e s') (he : e ≠ .nrm) : Runs E (.loop c) s e s' := by
  obtain ⟨n, hn⟩ := h1
  refine ⟨n + 1, ?_⟩
  rw [exec_succ]
  show s_loop c E (exec E n) s = _
  unfold s_loop
  rw [hn]
  cases e <;> first | rfl | exact absurd rfl he
theorem CallsTo.fn {f : Nat} {fn : AFn} {args : List AV} (he : E.exts f = none) (hp : E.prims f = none) (hf : E.fns f = some fn) (hr : Runs E fn.code { tm := enterA args 0 .nil, hp := h } e s') (hne : ∀ i, e ≠ .exit i) (hv : resultA s' fn.res = some v) : CallsTo E f args h v s'.hp := by
  obtain ⟨n, hn⟩ := hr
  refine ⟨n, ?_⟩
  unfold call callA
  simp only [he, hp, hf, hn]
  cases e with
  | exit i => exact absurd rfl (hne i)
  | nrm => show (match resultA s' fn.res with | some v => some (v, s'.hp) | none => none) = _; rw [hv]
  | ret => show (match resultA s' fn.res with | some v => some (v, s'.hp) | none => none) = _; rw [hv]
theorem CallsTo.prim {f : Nat} {p : Prim} {args : List AV} (he : E.exts f = none) (hp : E.prims f = some p) (hv : p args h = some (v, h')) : CallsTo E f args h v h' :=
  ⟨0, by unfold call callA; simp only [he, hp, hv]⟩
theorem CallsTo.ext {f : Nat} {p : List AV → Option AV} {args : List AV} (he : E.exts f = some p) (hv : p args = some v) : CallsTo E f args h v h :=
  ⟨0, by unfold call callA; simp only [he, hv]⟩
end
end Go.Ae
