/- The abstract evaluator: what holds behind a run. -/
import Derived.Test.YtdaggbpeoldmeaaGreatDoorA25
set_option linter.unusedVariables false
set_option linter.unusedSimpArgs false
namespace Go.Ae
def Wp (E : Env) (c : ACode) (s : St) (Q : Ex → St → Prop) : Prop := ∃ e s', Runs E c s e s' ∧ Q e s'
def After (E : Env) (b : ACode) (Q : Ex → St → Prop) : Ex → St → Prop
  | .nrm, s => Wp E b s Q
  | e, s => Q e s
def InBlock (id : Nat) (Q : Ex → St → Prop) : Ex → St → Prop
  | .exit i, s => if i = id then Q .nrm s else Q (.exit i) s
  | e, s => Q e s
def RetQ (rs : List ARes) (K : AV → Hp → Prop) : Ex → St → Prop
  | .exit _, _ => False
  | _, s => match resultA s rs with
    | some v => K v s.hp
    | none => False
/-- What holds of an operation's result. -/
def OpWp (E : Env) (o : AOp) (s : St) (K : AV → Hp → Prop) : Prop := ∃ v h', OpTo E o s v h' ∧ K v h'
def CallWp (E : Env) (f : Nat) (args : List AV) (h : Hp) (K : AV → Hp → Prop) : Prop := ∃ v h', CallsTo E f args h v h' ∧ K v h'
def Some2 (r : Option (AV × Hp)) (K : AV → Hp → Prop) : Prop :=
  match r with
  | some (v, h) => K v h
  | none => False
section
variable {E : Env} {s s' s1 : St} {e : Ex} {h h' : Hp} {v : AV} {Q Q' : Ex → St → Prop} {K : AV → Hp → Prop}
theorem Wp.mono {c : ACode} (h : Wp E c s Q) (hq : ∀ e s, Q e s → Q' e s) : Wp E c s Q' := by
  obtain ⟨e, s', h1, h2⟩ := h
  exact ⟨e, s', h1, hq _ _ h2⟩
theorem CallWp.mono {f : Nat} {args : List AV} {K' : AV → Hp → Prop} (h0 : CallWp E f args h K) (hq : ∀ v h, K v h → K' v h) : CallWp E f args h K' := by
  obtain ⟨v, h', h1, h2⟩ := h0
  exact ⟨v, h', h1, hq _ _ h2⟩
theorem Wp.skip (hq : Q .nrm s) : Wp E .skip s Q := ⟨_, _, Runs.skip, hq⟩
theorem Wp.ret (hq : Q .ret s) : Wp E .ret s Q := ⟨_, _, Runs.ret, hq⟩
theorem Wp.exit {id : Nat} (hq : Q (.exit id) s) : Wp E (.exit id) s Q := ⟨_, _, Runs.exit id, hq⟩
theorem Wp.nil (hq : Q .nrm s) : Wp E (.reg []) s Q := ⟨_, _, Runs.nil, hq⟩
theorem Wp.seq {a b : ACode} (hw : Wp E a s (After E b Q)) : Wp E (.seq a b) s Q := by
  obtain ⟨e, s1, h1, h2⟩ := hw
  cases e with
  | nrm =>
    obtain ⟨e2, s2, h3, h4⟩ := h2
    exact ⟨_, _, Runs.seq h1 h3, h4⟩
  | exit i => exact ⟨_, _, Runs.seq_out h1 (by simp), h2⟩
  | ret => exact ⟨_, _, Runs.seq_out h1 (by simp), h2⟩
theorem Wp.block {id : Nat} {c : ACode} (hw : Wp E c s (InBlock id Q)) : Wp E (.block id c) s Q := by
  obtain ⟨e, s1, h1, h2⟩ := hw
  cases e with
  | nrm => exact ⟨_, _, Runs.block h1 (by simp), h2⟩
  | exit i =>
    simp only [InBlock] at h2
    by_cases hi : i = id
    · subst hi; rw [if_pos rfl] at h2; exact ⟨_, _, Runs.block_exit h1, h2⟩
    · rw [if_neg hi] at h2; exact ⟨_, _, Runs.block_out h1 hi, h2⟩
  | ret => exact ⟨_, _, Runs.block h1 (by simp), h2⟩
theorem Wp.cond {x : Opd} {a b : ACode} (t : Bool) (hx : val s.tm x = .bool t) (h1 : t = true → Wp E a s Q) (h2 : t = false → Wp E b s Q) : Wp E (.cond x a b) s Q := by
  cases t with
  | true => obtain ⟨e, s1, h3, h4⟩ := h1 rfl; exact ⟨_, _, Runs.cond true hx (fun _ => h3) nofun, h4⟩
  | false => obtain ⟨e, s1, h3, h4⟩ := h2 rfl; exact ⟨_, _, Runs.cond false hx nofun (fun _ => h3), h4⟩
/-- A loop: an invariant, and a measure that goes down. -/
theorem Wp.loop {c : ACode} (I : Nat → St → Prop) {n : Nat} (h0 : I n s) (round : ∀ n s, I n s → Wp E c s fun e s' => match e with
    | .nrm => ∃ m, m < n ∧ I m s'
    | e => Q e s') : Wp E (.loop c) s Q := by
  induction n using Nat.strongRecOn generalizing s with
  | _ n ih =>
    obtain ⟨e, s1, h1, h2⟩ := round n s h0
    cases e with
    | nrm =>
      obtain ⟨m, hm, hI⟩ := h2
      obtain ⟨e2, s2, h3, h4⟩ := ih m hm hI
      exact ⟨_, _, Runs.loop h1 h3, h4⟩
    | exit i => exact ⟨_, _, Runs.loop_out h1 (by simp), h2⟩
    | ret => exact ⟨_, _, Runs.loop_out h1 (by simp), h2⟩
theorem Wp.op {o : AOper} {r : List AOper} (hw : wanted s.tm o.grd = true) (ho : OpWp E o.op s fun v h => Wp E (.reg r) { tm := put s.tm o.dst v, hp := h } Q) : Wp E (.reg (o :: r)) s Q := by
  obtain ⟨v, h', h1, e, s', h2, h3⟩ := ho
  exact ⟨_, _, Runs.op hw h1 h2, h3⟩
theorem Wp.noop {o : AOper} {r : List AOper} (hw : wanted s.tm o.grd = false) (ho : Wp E (.reg r) { tm := put s.tm o.dst und, hp := s.hp } Q) : Wp E (.reg (o :: r)) s Q := by
  obtain ⟨e, s', h2, h3⟩ := ho
  exact ⟨_, _, Runs.noop hw h2, h3⟩
theorem OpWp.plain {o : AOp} (hn : o.calls = false) (hk : Some2 (aop o (val s.tm) s.hp) K) : OpWp E o s K := by
  unfold Some2 at hk
  split at hk
  · rename_i v h' he; exact ⟨v, h', OpTo.plain he hn, hk⟩
  · exact hk.elim
theorem OpWp.callF {f : Nat} {args : List Opd} (hk : CallWp E f (args.map (val s.tm)) s.hp K) : OpWp E (.callF f args) s K := hk
theorem OpWp.callV {x : Opd} {f : Nat} {cap : List AV} {args : List Opd} (hx : val s.tm x = .fn f cap) (hk : CallWp E f (args.map (val s.tm) ++ cap) s.hp K) : OpWp E (.callV x args) s K := by
  obtain ⟨v, h', h1, h2⟩ := hk
  exact ⟨v, h', OpTo.callV hx h1, h2⟩
theorem OpWp.inv {x : Opd} {T f : Nat} {u : AV} {name : String} {args : List Opd} (hx : val s.tm x = .ifc T u) (hm : E.meth T name = some f) (hk : CallWp E f (u :: args.map (val s.tm)) s.hp K) : OpWp E (.inv x name args) s K := by
  obtain ⟨v, h', h1, h2⟩ := hk
  exact ⟨v, h', OpTo.inv hx hm h1, h2⟩
theorem CallWp.fn {f : Nat} {fn : AFn} {args : List AV} (he : E.exts f = none) (hp : E.prims f = none) (hf : E.fns f = some fn) (hw : Wp E fn.code { tm := enterA args 0 .nil, hp := h } (RetQ fn.res K)) : CallWp E f args h K := by
  obtain ⟨e, s', h1, h2⟩ := hw
  cases e with
  | exit i => exact h2.elim
  | nrm =>
    simp only [RetQ] at h2
    split at h2
    · rename_i v hv; exact ⟨_, _, CallsTo.fn he hp hf h1 (by simp) hv, h2⟩
    · exact h2.elim
  | ret =>
    simp only [RetQ] at h2
    split at h2
    · rename_i v hv; exact ⟨_, _, CallsTo.fn he hp hf h1 (by simp) hv, h2⟩
    · exact h2.elim
theorem CallWp.prim {f : Nat} {p : Prim} {args : List AV} (he : E.exts f = none) (hp : E.prims f = some p) (hv : Some2 (p args h) K) : CallWp E f args h K := by
  unfold Some2 at hv
  split at hv
  · rename_i v h' e; exact ⟨v, h', CallsTo.prim he hp e, hv⟩
  · exact hv.elim
theorem CallWp.ext {f : Nat} {p : List AV → Option AV} {args : List AV} (he : E.exts f = some p) (hv : p args = some v) (hk : K v h) : CallWp E f args h K :=
  ⟨v, h, CallsTo.ext he hv, hk⟩
end
end Go.Ae
