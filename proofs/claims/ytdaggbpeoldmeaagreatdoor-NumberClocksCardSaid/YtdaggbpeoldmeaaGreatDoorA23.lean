/- The abstract evaluator: contracts of the library as primitives. -/
import Derived.Test.YtdaggbpeoldmeaaGreatDoorA22
import Derived.Deep.Draws
import Derived.Sort.Grow
set_option linter.unusedVariables false
set_option linter.unusedSimpArgs false
namespace Go.Ae
section
variable {P : Program} {W0 : World} {base : Nat} {ρ : Rho} {h h' : Hp} {w w' : World} {v : AV} {f : FuncId} {args : Array Value}

/-- Blocks behind it, and draws, change nothing. -/
theorem Ext.grown (R : HRel base ρ h w) (B : Go.RowKit.Below w.heap.size w w') : Ext base ρ h w ρ h w' := by
  refine ⟨Agree.refl _ _, Nat.le_refl _, ⟨Nat.le_trans R.size B.size, R.lt, ?_, ?_, ?_, R.apart⟩, ⟨B.os, B.tape, B.output, B.size, fun k hk _ => B.block k hk⟩, fun t o ht ho => .inr ⟨t, o, ht, ho, rfl⟩⟩
  · intro t cs own st ht
    have r := R.row t cs own st ht
    refine r.later (Agree.refl _ _) (Nat.le_refl _) (R.lt _ _ ht) B.size ?_
    cases own with
    | true => exact .inr (B.block _ (r.own1 rfl).2.1)
    | false => rcases r.not1 rfl with c | c
               · exact .inl ⟨c, rfl⟩
               · exact .inr (B.block _ (Nat.lt_of_lt_of_le c R.size))
  · intro t s p st ht
    rw [B.block _ (R.owned_lt ht rfl).2]; exact R.iter t s p st ht
  · intro t es st ht
    rw [B.block _ (R.owned_lt ht rfl).2]; exact R.map t es st ht
def canEnter (P : Program) (f : FuncId) : Bool :=
  match P.funcs[f]? with
  | some fn => fn.body.isSome && !(fn.name == "runtime.NumGoroutine")
  | none => false
theorem run_enter (hc : canEnter P f = true) (args : Array Value) (w : World) : (callFunc f args).run P w = .ok (.enter f args) w := by
  unfold canEnter at hc
  split at hc
  · rename_i fn hf
    simp only [Bool.and_eq_true, Bool.not_eq_true'] at hc
    obtain ⟨c, hb⟩ : ∃ c, fn.body = some c := by cases hh : fn.body with
      | none => rw [hh] at hc; simp at hc
      | some c => exact ⟨c, rfl⟩
    have hn : ¬ fn.name = "runtime.NumGoroutine" := fun e => by rw [e] at hc; exact absurd hc.2 (by decide)
    simp [callFunc, run_program, hf, hn, hb]
  · cases hc
theorem Does.call (hc : canEnter P f = true) (H : Calls P f args w fun e w' => ∃ ρ', e = .returned (enc ρ' v) ∧ ok ρ' h'.next v ∧ Ext base ρ h w ρ' h' w') : Does P base ρ h w (callFunc f args) v h' := by
  unfold Does
  rw [run_enter hc]
  exact H.mono fun e w' ⟨ρ', h1, h2, h3⟩ => ⟨_, h1, ρ', h3, h2, rfl⟩
theorem Does.grown (hc : canEnter P f = true) (R : HRel base ρ h w) (hv : ok ρ h.next v) (H : Calls P f args w fun e w' => e = .returned (enc ρ v) ∧ Go.RowKit.Below w.heap.size w w') : Does P base ρ h w (callFunc f args) v h :=
  Does.call hc (H.mono fun e w' ⟨h1, h2⟩ => ⟨ρ, h1, hv, Ext.grown R h2⟩)
theorem below_drewN (w : World) (n : Nat) : Go.RowKit.Below w.heap.size w (w.drewN n) := ⟨rfl, rfl, rfl, Nat.le_refl _, fun _ _ => rfl⟩
theorem below_grow (w : World) (n : Nat) (os : Array Obj) : Go.RowKit.Below w.heap.size w (Go.Sort.grow (w.drewN n) os) := by
  refine ⟨rfl, rfl, rfl, ?_, fun k hk => ?_⟩
  · show w.heap.size ≤ (w.heap ++ os).size
    simp
  · show (w.heap ++ os)[k]? = _
    rw [Array.getElem?_append_left hk]
end
end Go.Ae
