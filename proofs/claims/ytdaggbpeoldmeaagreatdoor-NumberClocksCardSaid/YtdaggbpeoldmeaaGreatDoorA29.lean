/- The abstract evaluator: what holds behind a run, as rewriting. -/
import Derived.Test.YtdaggbpeoldmeaaGreatDoorA27
set_option linter.unusedVariables false
set_option linter.unusedSimpArgs false
namespace Go.Ae
section
variable {E : Env} {s : St} {tm : T AV} {h h' : Hp} {v : AV} {Q : Ex → St → Prop} {K : AV → Hp → Prop} {a b c : ACode} {r : List AOper} {d : Option Nat} {o : AOp}
theorem exec_det {n m : Nat} {x y : Ex × St} (h1 : exec E n c s = some x) (h2 : exec E m c s = some y) : x = y :=
  Option.some.inj ((exec_mono (Nat.le_max_left n m) _ _ _ h1).symm.trans (exec_mono (Nat.le_max_right n m) _ _ _ h2))
theorem callA_det {n m f : Nat} {args : List AV} {x y : AV × Hp} (h1 : callA E (exec E n) f args h = some x) (h2 : callA E (exec E m) f args h = some y) : x = y :=
  Option.some.inj ((callA_mono (exec_mono (Nat.le_max_left n m)) h1).symm.trans (callA_mono (exec_mono (Nat.le_max_right n m)) h2))
theorem CallWp.det {f : Nat} {args : List AV} (hc : CallsTo E f args h v h') : CallWp E f args h K ↔ K v h' := by
  constructor
  · rintro ⟨v1, h1, ⟨n, hn⟩, hk⟩
    obtain ⟨m, hm⟩ := hc
    obtain ⟨rfl, rfl⟩ := pair_inj ((congrArg some (callA_det hn hm)))
    exact hk
  · exact fun hk => ⟨v, h', hc, hk⟩
theorem Wp.skip_iff : Wp E .skip s Q ↔ Q .nrm s := by
  constructor
  · rintro ⟨e, s', ⟨n, hn⟩, hq⟩
    cases n with
    | zero => cases hn
    | succ n =>
      rw [exec_succ] at hn
      obtain ⟨rfl, rfl⟩ := pair_inj (show some (Ex.nrm, s) = some (e, s') from hn)
      exact hq
  · exact Wp.skip
theorem Wp.ret_iff : Wp E .ret s Q ↔ Q .ret s := by
  constructor
  · rintro ⟨e, s', ⟨n, hn⟩, hq⟩
    cases n with
    | zero => cases hn
    | succ n =>
      rw [exec_succ] at hn
      obtain ⟨rfl, rfl⟩ := pair_inj (show some (Ex.ret, s) = some (e, s') from hn)
      exact hq
  · exact Wp.ret
theorem Wp.exit_iff {id : Nat} : Wp E (.exit id) s Q ↔ Q (.exit id) s := by
  constructor
  · rintro ⟨e, s', ⟨n, hn⟩, hq⟩
    cases n with
    | zero => cases hn
    | succ n =>
      rw [exec_succ] at hn
      obtain ⟨rfl, rfl⟩ := pair_inj (show some (Ex.exit id, s) = some (e, s') from hn)
      exact hq
  · exact Wp.exit
theorem Wp.seq_iff : Wp E (.seq a b) s Q ↔ Wp E a s (After E b Q) := by
  constructor
  · rintro ⟨e, s', ⟨n, hn⟩, hq⟩
    cases n with
    | zero => cases hn
    | succ n =>
      rw [exec_succ] at hn
      have hn : s_seq a b E (exec E n) s = some (e, s') := hn
      unfold s_seq at hn
      split at hn
      · rename_i s1 h1
        exact ⟨.nrm, s1, ⟨n, h1⟩, e, s', ⟨n, hn⟩, hq⟩
      · rename_i hne
        refine ⟨e, s', ⟨n, hn⟩, ?_⟩
        cases e with
        | nrm => exact absurd hn (hne _)
        | exit i => exact hq
        | ret => exact hq
  · exact Wp.seq
theorem Wp.block_iff {id : Nat} : Wp E (.block id a) s Q ↔ Wp E a s (InBlock id Q) := by
  constructor
  · rintro ⟨e, s', ⟨n, hn⟩, hq⟩
    cases n with
    | zero => cases hn
    | succ n =>
      rw [exec_succ] at hn
      have hn : s_block id a E (exec E n) s = some (e, s') := hn
      unfold s_block at hn
      split at hn
      · rename_i i s1 h1
        refine ⟨.exit i, s1, ⟨n, h1⟩, ?_⟩
        simp only [InBlock]
        split at hn
        · rename_i hi
          obtain ⟨rfl, rfl⟩ := pair_inj hn
          rw [if_pos (Nat.eq_of_beq_eq_true hi)]; exact hq
        · rename_i hi
          obtain ⟨rfl, rfl⟩ := pair_inj hn
          rw [if_neg (fun e => by subst e; simp at hi)]; exact hq
      · rename_i hne
        refine ⟨e, s', ⟨n, hn⟩, ?_⟩
        cases e with
        | nrm => exact hq
        | exit i => exact absurd hn (hne _ _)
        | ret => exact hq
  · exact Wp.block
def CondK (E : Env) (v : AV) (a b : ACode) (s : St) (Q : Ex → St → Prop) : Prop :=
  match v with
  | .bool true => Wp E a s Q
  | .bool false => Wp E b s Q
  | _ => False
theorem CondK.t : CondK E (.bool true) a b s Q ↔ Wp E a s Q := Iff.rfl
theorem CondK.f : CondK E (.bool false) a b s Q ↔ Wp E b s Q := Iff.rfl
theorem CondK.split {c : Bool} (h1 : c = true → Wp E a s Q) (h2 : c = false → Wp E b s Q) : CondK E (.bool c) a b s Q := by
  cases c with
  | true => exact h1 rfl
  | false => exact h2 rfl
theorem CondK.dec {p : Prop} {_ : Decidable p} (h1 : p → Wp E a s Q) (h2 : ¬ p → Wp E b s Q) : CondK E (.bool (decide p)) a b s Q :=
  CondK.split (fun e => h1 (of_decide_eq_true e)) (fun e => h2 (of_decide_eq_false e))
theorem CondK.pos {p : Prop} {_ : Decidable p} (hp : p) : CondK E (.bool (decide p)) a b s Q ↔ Wp E a s Q := by rw [decide_eq_true hp]; exact Iff.rfl
theorem CondK.neg {p : Prop} {_ : Decidable p} (hp : ¬ p) : CondK E (.bool (decide p)) a b s Q ↔ Wp E b s Q := by rw [decide_eq_false hp]; exact Iff.rfl
theorem Wp.cond_iff {x : Opd} : Wp E (.cond x a b) s Q ↔ CondK E (val s.tm x) a b s Q := by
  constructor
  · rintro ⟨e, s', ⟨n, hn⟩, hq⟩
    cases n with
    | zero => cases hn
    | succ n =>
      rw [exec_succ] at hn
      have hn : s_cond x a b E (exec E n) s = some (e, s') := hn
      unfold s_cond at hn
      split at hn
      · rename_i hx; rw [hx]; exact ⟨e, s', ⟨n, hn⟩, hq⟩
      · rename_i hx; rw [hx]; exact ⟨e, s', ⟨n, hn⟩, hq⟩
      · cases hn
  · unfold CondK
    split
    · rename_i hx; exact fun hw => Wp.cond true hx (fun _ => hw) nofun
    · rename_i hx; exact fun hw => Wp.cond false hx nofun (fun _ => hw)
    · exact False.elim
/-- A loop, one round of it taken out. -/
theorem Wp.unroll : Wp E (.loop c) s Q ↔ Wp E c s (After E (.loop c) Q) := by
  constructor
  · rintro ⟨e, s', ⟨n, hn⟩, hq⟩
    cases n with
    | zero => cases hn
    | succ n =>
      rw [exec_succ] at hn
      have hn : s_loop c E (exec E n) s = some (e, s') := hn
      unfold s_loop at hn
      split at hn
      · rename_i s1 h1
        exact ⟨.nrm, s1, ⟨n, h1⟩, e, s', ⟨n, hn⟩, hq⟩
      · rename_i hne
        refine ⟨e, s', ⟨n, hn⟩, ?_⟩
        cases e with
        | nrm => exact absurd hn (hne _)
        | exit i => exact hq
        | ret => exact hq
  · rintro ⟨e, s1, h1, h2⟩
    cases e with
    | nrm => obtain ⟨e2, s2, h3, h4⟩ := h2; exact ⟨e2, s2, Runs.loop h1 h3, h4⟩
    | exit i => exact ⟨_, s1, Runs.loop_out h1 (by simp), h2⟩
    | ret => exact ⟨_, s1, Runs.loop_out h1 (by simp), h2⟩
/-- What is asked behind a round. -/
def Round (I : St → Prop) (Q : Ex → St → Prop) : Ex → St → Prop
  | .nrm, s => I s
  | e, s => Q e s
/-- A loop: an invariant with a counter that goes down. -/
theorem Wp.loopI (I : Nat → St → Prop) {n : Nat} (h0 : I n s) (round : ∀ n s, I n s → Wp E c s (Round (fun s' => ∃ m, m < n ∧ I m s') Q)) : Wp E (.loop c) s Q := by
  refine Wp.loop I h0 fun n s hI => (round n s hI).mono ?_
  intro e s' hq
  cases e <;> exact hq
def Then (E : Env) (d : Option Nat) (r : List AOper) (tm : T AV) (Q : Ex → St → Prop) (v : AV) (h : Hp) : Prop := Wp E (.reg r) { tm := put tm d v, hp := h } Q
theorem Wp.nil_iff : Wp E (.reg []) s Q ↔ Q .nrm s := by
  constructor
  · rintro ⟨e, s', ⟨n, hn⟩, hq⟩
    cases n with
    | zero => cases hn
    | succ n =>
      rw [exec_succ] at hn
      obtain ⟨rfl, rfl⟩ := pair_inj (show some (Ex.nrm, s) = some (e, s') from hn)
      exact hq
  · exact Wp.nil
theorem Wp.op_iff {st : Option Nat} : Wp E (.reg (⟨d, o, none, st⟩ :: r)) s Q ↔ OpWp E o s (Then E d r s.tm Q) := by
  constructor
  · rintro ⟨e, s', ⟨n, hn⟩, hq⟩
    cases n with
    | zero => cases hn
    | succ n =>
      rw [exec_succ] at hn
      have hn : s_op ⟨d, o, none, st⟩ r E (exec E n) s = some (e, s') := hn
      unfold s_op at hn
      simp only [wanted] at hn
      unfold s_cont at hn
      split at hn
      · rename_i v h' ho
        exact ⟨v, h', ⟨n, ho⟩, e, s', ⟨n, hn⟩, hq⟩
      · cases hn
  · exact fun hw => Wp.op rfl hw
def GrdK (E : Env) (w : Bool) (o : AOp) (d : Option Nat) (r : List AOper) (s : St) (Q : Ex → St → Prop) : Prop :=
  match w with
  | true => OpWp E o s (Then E d r s.tm Q)
  | false => Wp E (.reg r) { tm := put s.tm d und, hp := s.hp } Q
theorem GrdK.t : GrdK E true o d r s Q ↔ OpWp E o s (Then E d r s.tm Q) := Iff.rfl
theorem GrdK.f : GrdK E false o d r s Q ↔ Wp E (.reg r) { tm := put s.tm d und, hp := s.hp } Q := Iff.rfl
theorem Wp.grd_iff {g : Nat × Bool} {st : Option Nat} : Wp E (.reg (⟨d, o, some g, st⟩ :: r)) s Q ↔ GrdK E (wanted s.tm (some g)) o d r s Q := by
  constructor
  · rintro ⟨e, s', ⟨n, hn⟩, hq⟩
    cases n with
    | zero => cases hn
    | succ n =>
      rw [exec_succ] at hn
      have hn : s_op ⟨d, o, some g, st⟩ r E (exec E n) s = some (e, s') := hn
      unfold s_op at hn
      simp only at hn
      split at hn
      · rename_i hw
        rw [hw]
        unfold s_cont at hn
        split at hn
        · rename_i v h' ho
          exact ⟨v, h', ⟨n, ho⟩, e, s', ⟨n, hn⟩, hq⟩
        · cases hn
      · rename_i hw
        rw [hw]
        exact ⟨e, s', ⟨n, hn⟩, hq⟩
  · cases hw : wanted s.tm (some g) with
    | true => exact fun h => Wp.op hw h
    | false => exact fun h => Wp.noop hw h
theorem wanted_val (tm : T AV) (n : Nat) (b : Bool) : wanted tm (some (n, b)) = match val tm (.t n) with | .bool c => c == b | _ => false := by
  simp only [wanted, val]
  cases hg : tm.get n with
  | none => simp [und]
  | some v => cases v <;> simp
/-! Regions whose order is drawn. -/
theorem Wp.dreg_iff {ops : List AOper} : Wp E (.dreg ops) s Q ↔ Wp E (.drun ops 0 s.hp.clk []) s Q := by
  constructor
  · rintro ⟨e, s', ⟨n, hn⟩, hq⟩
    cases n with
    | zero => cases hn
    | succ n =>
      rw [exec_succ] at hn
      exact ⟨e, s', ⟨n, hn⟩, hq⟩
  · exact Wp.dreg
theorem Wp.dnil_iff {i c0 : Nat} {acc : List (Nat × Nat)} : Wp E (.drun [] i c0 acc) s Q ↔ Q .nrm s := by
  constructor
  · rintro ⟨e, s', ⟨n, hn⟩, hq⟩
    cases n with
    | zero => cases hn
    | succ n =>
      rw [exec_succ] at hn
      obtain ⟨rfl, rfl⟩ := pair_inj (show some (Ex.nrm, s) = some (e, s') from hn)
      exact hq
  · exact Wp.dnil
/-- The rest of a drawn region, behind an operation. -/
def DThen (E : Env) (d : Option Nat) (r : List AOper) (i c0 : Nat) (acc : List (Nat × Nat)) (tm : T AV) (Q : Ex → St → Prop) (v : AV) (h : Hp) : Prop :=
  acc.all (fresh h c0 i) = true ∧ Wp E (.drun r (i + 1) c0 acc) { tm := put tm d v, hp := h } Q
def DOp (E : Env) (acc : Option (List (Nat × Nat))) (d : Option Nat) (o : AOp) (r : List AOper) (i c0 : Nat) (s : St) (Q : Ex → St → Prop) : Prop :=
  match acc with
  | some acc => OpWp E o s (DThen E d r i c0 acc s.tm Q)
  | none => False
theorem DOp.some_iff {acc : List (Nat × Nat)} {i c0 : Nat} : DOp E (some acc) d o r i c0 s Q ↔ OpWp E o s (DThen E d r i c0 acc s.tm Q) := Iff.rfl
theorem Wp.dop_iff {st : Option Nat} {i c0 : Nat} {acc : List (Nat × Nat)} : Wp E (.drun (⟨d, o, none, st⟩ :: r) i c0 acc) s Q ↔ DOp E (noted s ⟨d, o, none, st⟩ acc) d o r i c0 s Q := by
  constructor
  · rintro ⟨e, s', ⟨n, hn⟩, hq⟩
    cases n with
    | zero => cases hn
    | succ n =>
      rw [exec_succ] at hn
      have hn : s_dop ⟨d, o, none, st⟩ r i c0 acc E (exec E n) s = some (e, s') := hn
      unfold s_dop at hn
      simp only [wanted] at hn
      split at hn
      · rename_i v h' ho
        split at hn
        · rename_i acc' ha
          rw [ha]
          split at hn
          · rename_i hf
            exact ⟨v, h', ⟨n, ho⟩, hf, e, s', ⟨n, hn⟩, hq⟩
          · cases hn
        · cases hn
      · cases hn
  · cases ha : noted s ⟨d, o, none, st⟩ acc with
    | none => exact False.elim
    | some acc' => exact fun hw => Wp.dop rfl ha hw
def DGrd (E : Env) (w : Bool) (acc : List (Nat × Nat)) (acc' : Option (List (Nat × Nat))) (d : Option Nat) (o : AOp) (r : List AOper) (i c0 : Nat) (s : St) (Q : Ex → St → Prop) : Prop :=
  match w with
  | true => DOp E acc' d o r i c0 s Q
  | false => acc.all (fresh s.hp c0 i) = true ∧ Wp E (.drun r (i + 1) c0 acc) { tm := put s.tm d und, hp := s.hp } Q
theorem DGrd.t {acc : List (Nat × Nat)} {acc' : Option (List (Nat × Nat))} {i c0 : Nat} : DGrd E true acc acc' d o r i c0 s Q ↔ DOp E acc' d o r i c0 s Q := Iff.rfl
theorem DGrd.f {acc : List (Nat × Nat)} {acc' : Option (List (Nat × Nat))} {i c0 : Nat} : DGrd E false acc acc' d o r i c0 s Q ↔ acc.all (fresh s.hp c0 i) = true ∧ Wp E (.drun r (i + 1) c0 acc) { tm := put s.tm d und, hp := s.hp } Q := Iff.rfl
theorem Wp.dgrd_iff {g : Nat × Bool} {st : Option Nat} {i c0 : Nat} {acc : List (Nat × Nat)} : Wp E (.drun (⟨d, o, some g, st⟩ :: r) i c0 acc) s Q ↔ DGrd E (wanted s.tm (some g)) acc (noted s ⟨d, o, some g, st⟩ acc) d o r i c0 s Q := by
  constructor
  · rintro ⟨e, s', ⟨n, hn⟩, hq⟩
    cases n with
    | zero => cases hn
    | succ n =>
      rw [exec_succ] at hn
      have hn : s_dop ⟨d, o, some g, st⟩ r i c0 acc E (exec E n) s = some (e, s') := hn
      unfold s_dop at hn
      simp only at hn
      split at hn
      · rename_i hw
        rw [hw]
        split at hn
        · rename_i v h' ho
          split at hn
          · rename_i acc' ha
            rw [ha]
            split at hn
            · rename_i hf
              exact ⟨v, h', ⟨n, ho⟩, hf, e, s', ⟨n, hn⟩, hq⟩
            · cases hn
          · cases hn
        · cases hn
      · rename_i hw
        rw [hw]
        split at hn
        · rename_i hf
          exact ⟨hf, e, s', ⟨n, hn⟩, hq⟩
        · cases hn
  · cases hw : wanted s.tm (some g) with
    | true =>
      cases ha : noted s ⟨d, o, some g, st⟩ acc with
      | none => exact False.elim
      | some acc' => exact fun h => Wp.dop hw ha h
    | false => exact fun h => Wp.dnoop hw h.1 h.2
theorem noted_none {x : AOper} {acc : List (Nat × Nat)} (hx : x.stab = none) : noted s x acc = some acc := by unfold noted; rw [hx]
theorem noted_n {g : Option (Nat × Bool)} {acc : List (Nat × Nat)} : noted s ⟨d, o, g, none⟩ acc = some acc := rfl
def NoteK (v : AV) (u : Nat) (acc : List (Nat × Nat)) : Option (List (Nat × Nat)) :=
  match v with
  | .ptr t _ => some ((t, u) :: acc)
  | _ => none
theorem NoteK.ptr {t p u : Nat} {acc : List (Nat × Nat)} : NoteK (.ptr t p) u acc = some ((t, u) :: acc) := rfl
theorem noted_s {g : Option (Nat × Bool)} {u : Nat} {acc : List (Nat × Nat)} {ag : Bool} {n : Nat} {x : Opd} : noted s ⟨d, .load ag n x, g, some u⟩ acc = NoteK (val s.tm x) u acc := by
  unfold noted reads NoteK
  simp only
  cases val s.tm x <;> rfl
theorem fresh_eq {t u c0 i : Nat} : fresh h c0 i (t, u) = (if u = i then old h c0 t else true) := by
  unfold fresh
  rw [beq_dec]
  by_cases hu : u = i <;> simp [hu]
theorem old_eq {t c0 : Nat} {ob : AObj} (hg : h.get t = some ob) (hs : ob.st ≤ c0) : old h c0 t = true := old_of hg hs
/-! Operations. -/
def Some1 (x : Option AV) (h : Hp) (K : AV → Hp → Prop) : Prop :=
  match x with
  | some v => K v h
  | none => False
theorem Some1.iff : Some1 (some v) h K ↔ K v h := Iff.rfl
theorem Some2.iff : Some2 (some (v, h)) K ↔ K v h := Iff.rfl
theorem OpWp.plain_iff (hn : o.calls = false) : OpWp E o s K ↔ Some2 (aop o (val s.tm) s.hp) K := by
  constructor
  · rintro ⟨v, h', ⟨n, hn'⟩, hk⟩
    have : opA o E (exec E n) s = aop o (val s.tm) s.hp := by cases o <;> first | (simp [AOp.calls] at hn; done) | rfl
    rw [this] at hn'
    rw [hn']; exact hk
  · exact OpWp.plain hn
theorem OpWp.callF_iff {f : Nat} {args : List Opd} : OpWp E (.callF f args) s K ↔ CallWp E f (args.map (val s.tm)) s.hp K := Iff.rfl
def CallVK (E : Env) (x : AV) (args : List AV) (h : Hp) (K : AV → Hp → Prop) : Prop :=
  match x with
  | .fn f cap => CallWp E f (args ++ cap) h K
  | _ => False
theorem CallVK.fn {f : Nat} {cap args : List AV} : CallVK E (.fn f cap) args h K ↔ CallWp E f (args ++ cap) h K := Iff.rfl
theorem OpWp.callV_iff {x : Opd} {args : List Opd} : OpWp E (.callV x args) s K ↔ CallVK E (val s.tm x) (args.map (val s.tm)) s.hp K := by
  constructor
  · rintro ⟨v, h', ⟨n, hn⟩, hk⟩
    simp only [opA, o_callV] at hn
    split at hn
    · rename_i f cap hx
      rw [hx]
      exact ⟨v, h', ⟨n, hn⟩, hk⟩
    · cases hn
  · unfold CallVK
    split
    · rename_i hx; exact OpWp.callV hx
    · exact False.elim
def InvK (E : Env) (x : AV) (name : String) (args : List AV) (h : Hp) (K : AV → Hp → Prop) : Prop :=
  match x with
  | .ifc T u => match E.meth T name with
    | some f => CallWp E f (u :: args) h K
    | none => False
  | _ => False
theorem InvK.ifc {T f : Nat} {u : AV} {name : String} {args : List AV} (hm : E.meth T name = some f) : InvK E (.ifc T u) name args h K ↔ CallWp E f (u :: args) h K := by
  simp only [InvK, hm]
theorem OpWp.inv_iff {x : Opd} {name : String} {args : List Opd} : OpWp E (.inv x name args) s K ↔ InvK E (val s.tm x) name (args.map (val s.tm)) s.hp K := by
  constructor
  · rintro ⟨v, h', ⟨n, hn⟩, hk⟩
    simp only [opA, o_inv] at hn
    split at hn
    · rename_i T u hx
      rw [hx]
      split at hn
      · rename_i f hm
        exact (InvK.ifc hm).2 ⟨v, h', ⟨n, hn⟩, hk⟩
      · cases hn
    · cases hn
  · unfold InvK
    split
    · rename_i hx
      split
      · rename_i hm; exact OpWp.inv hx hm
      · exact False.elim
    · exact False.elim
def ResK (v : Option AV) (h : Hp) (K : AV → Hp → Prop) : Prop :=
  match v with
  | some v => K v h
  | none => False
theorem ResK.iff : ResK (some v) h K ↔ K v h := Iff.rfl
theorem RetQ.ret {rs : List ARes} : RetQ rs K .ret s ↔ ResK (resultA s rs) s.hp K := by simp only [RetQ, ResK]; cases resultA s rs <;> exact Iff.rfl
theorem RetQ.nrm {rs : List ARes} : RetQ rs K .nrm s ↔ ResK (resultA s rs) s.hp K := by simp only [RetQ, ResK]; cases resultA s rs <;> exact Iff.rfl
theorem CallWp.fn_iff {f : Nat} {fn : AFn} {args : List AV} (he : E.exts f = none) (hp : E.prims f = none) (hf : E.fns f = some fn) : CallWp E f args h K ↔ Wp E fn.code { tm := enterA args 0 .nil, hp := h } (RetQ fn.res K) := by
  constructor
  · rintro ⟨v, h', ⟨n, hn⟩, hk⟩
    unfold call callA at hn
    simp only [he, hp, hf] at hn
    split at hn
    · cases hn
    · rename_i e s' hne hx
      refine ⟨e, s', ⟨n, hx⟩, ?_⟩
      split at hn
      · rename_i u hu
        obtain ⟨rfl, rfl⟩ := pair_inj hn
        cases e with
        | exit i => exact absurd rfl (hne i)
        | nrm => simp only [RetQ, hu]; exact hk
        | ret => simp only [RetQ, hu]; exact hk
      · cases hn
    · cases hn
  · exact CallWp.fn he hp hf
theorem CallWp.prim_iff {f : Nat} {p : Prim} {args : List AV} (he : E.exts f = none) (hp : E.prims f = some p) : CallWp E f args h K ↔ Some2 (p args h) K := by
  constructor
  · rintro ⟨v, h', ⟨n, hn⟩, hk⟩
    unfold call callA at hn
    simp only [he, hp] at hn
    rw [hn]; exact hk
  · exact CallWp.prim he hp
theorem CallWp.ext_iff {f : Nat} {p : List AV → Option AV} {args : List AV} (he : E.exts f = some p) : CallWp E f args h K ↔ Some1 (p args) h K := by
  constructor
  · rintro ⟨v, h', ⟨n, hn⟩, hk⟩
    unfold call callA at hn
    simp only [he] at hn
    split at hn
    · rename_i u hu
      obtain ⟨rfl, rfl⟩ := pair_inj hn
      rw [hu]; exact hk
    · cases hn
  · cases hp : p args with
    | none => exact False.elim
    | some v => exact fun hk => CallWp.ext he hp hk
end
end Go.Ae
