/- The abstract evaluator: a call without memory in its arguments and its result, evaluated at the empty heap, is that call everywhere. -/
import Derived.Test.YtdaggbpeoldmeaaGreatDoorA23
set_option linter.unusedVariables false
set_option linter.unusedSimpArgs false
namespace Go.Ae
mutual
/-- No memory in it. -/
def AV.free : AV → Bool
  | .int _ _ | .bool _ | .str _ | .nilp | .nils | .nilf | .nili | .nilm => true
  | .fn _ cap => frees cap
  | .ifc _ v => v.free
  | .agg l => frees l
  | .tup l => frees l
  | .ptr _ _ | .sl _ _ _ _ | .map _ => false
def frees : List AV → Bool
  | [] => true
  | x :: l => x.free && frees l
end
mutual
theorem enc_free (ρ ρ' : Rho) : ∀ (v : AV), v.free = true → enc ρ v = enc ρ' v
  | .int _ _, _ | .bool _, _ | .str _, _ | .nilp, _ | .nils, _ | .nilf, _ | .nili, _ | .nilm, _ => by simp [enc]
  | .fn f cap, h => by simp only [AV.free] at h; simp only [enc, encs_free ρ ρ' cap h]
  | .ifc T v, h => by simp only [AV.free] at h; simp only [enc, enc_free ρ ρ' v h]
  | .agg l, h => by simp only [AV.free] at h; simp only [enc, encs_free ρ ρ' l h]
  | .tup l, h => by simp only [AV.free] at h; simp only [enc, encs_free ρ ρ' l h]
  | .ptr _ _, h | .sl _ _ _ _, h | .map _, h => by simp [AV.free] at h
theorem encs_free (ρ ρ' : Rho) : ∀ (l : List AV), frees l = true → encs ρ l = encs ρ' l
  | [], _ => by simp [encs]
  | x :: l, h => by
    simp only [frees, Bool.and_eq_true] at h
    simp only [encs, enc_free ρ ρ' x h.1, encs_free ρ ρ' l h.2]
end
mutual
theorem ok_free (ρ : Rho) (N : Nat) : ∀ (v : AV), v.free = true → ok ρ N v
  | .int _ _, _ | .bool _, _ | .str _, _ | .nilp, _ | .nils, _ | .nilf, _ | .nili, _ | .nilm, _ => by simp [ok]
  | .fn f cap, h => by simp only [AV.free] at h; simp only [ok]; exact oks_free ρ N cap h
  | .ifc T v, h => by simp only [AV.free] at h; simp only [ok]; exact ok_free ρ N v h
  | .agg l, h => by simp only [AV.free] at h; simp only [ok]; exact oks_free ρ N l h
  | .tup l, h => by simp only [AV.free] at h; simp only [ok]; exact oks_free ρ N l h
  | .ptr _ _, h | .sl _ _ _ _, h | .map _, h => by simp [AV.free] at h
theorem oks_free (ρ : Rho) (N : Nat) : ∀ (l : List AV), frees l = true → oks ρ N l
  | [], _ => by simp [oks]
  | x :: l, h => by
    simp only [frees, Bool.and_eq_true] at h
    simp only [oks]
    exact ⟨ok_free ρ N x h.1, oks_free ρ N l h.2⟩
end
abbrev Hp.nil : Hp := ⟨0, 0, .nil⟩
theorem Hp.get_nil (t : Nat) : Hp.nil.get t = none := T.get_nil t
section
variable {P : Program} {W0 : World} {base : Nat} {E : Env} {ρ : Rho} {h h1 : Hp} {w : World} {v : AV} {args : List AV} {n f : Nat}
theorem HRel.nil (hs : base ≤ w.heap.size) : HRel base ρ .nil w where
  size := hs
  lt := fun t o h => by rw [Hp.get_nil] at h; cases h
  row := fun t _ _ _ h => by rw [Hp.get_nil] at h; cases h
  iter := fun t _ _ _ h => by rw [Hp.get_nil] at h; cases h
  map := fun t _ _ h => by rw [Hp.get_nil] at h; cases h
  apart := fun t _ _ _ h => by rw [Hp.get_nil] at h; cases h
theorem Gives.lift {u : Value} {w' : World} (R : HRel base ρ h w) (hv : v.free = true) (G : Gives base ρ .nil w v h1 u w') : Gives base ρ h w v h u w' := by
  obtain ⟨ρ', X, _, rfl⟩ := G
  have B : Go.RowKit.Below w.heap.size w w' := ⟨X.keep.os, X.keep.tape, X.keep.output, X.keep.size, fun k hk => X.keep.block k hk fun t o ht => by rw [Hp.get_nil] at ht; cases ht⟩
  exact ⟨ρ, Ext.grown R B, ok_free ρ _ v hv, enc_free _ _ v hv⟩
theorem lift (EO : EnvOk P W0 base E) (hr : call E n f args .nil = some (v, h1)) (ha : frees args = true) (hv : v.free = true) (B : Go.RowKit.Below base W0 w) (R : HRel base ρ h w) :
    Does P base ρ h w (callFunc f (encs ρ args).toArray) v h := by
  have D := call_sound EO hr B (HRel.nil (ρ := ρ) R.size) (oks_free ρ _ args ha)
  unfold Does at *
  exact D.mono fun u w' G => Gives.lift R hv G
/-- The same as a contract of the machine's. -/
theorem calls_of (EO : EnvOk P W0 base E) (hc : canEnter P f = true) (hr : ∃ n h1, call E n f args .nil = some (v, h1)) (ha : frees args = true) (hv : v.free = true) (B : Go.RowKit.Below base W0 w) (hb : base ≤ w.heap.size) (ρ : Rho) :
    Calls P f (encs ρ args).toArray w fun e w' => e = .returned (enc ρ v) ∧ Go.RowKit.Below w.heap.size w w' := by
  obtain ⟨n, h1, hr⟩ := hr
  have D := lift EO hr ha hv B (HRel.nil (ρ := ρ) hb)
  unfold Does at D
  rw [run_enter hc] at D
  refine Calls.mono (show Calls P f (encs ρ args).toArray w _ from D) fun e w' he => ?_
  obtain ⟨u, rfl, ρ', X, _, rfl⟩ := he
  exact ⟨congrArg _ (enc_free _ _ v hv), ⟨X.keep.os, X.keep.tape, X.keep.output, X.keep.size, fun k hk => X.keep.block k hk fun t o ht => by rw [Hp.get_nil] at ht; cases ht⟩⟩
/-- What a function without memory gives, as far as E tells. -/
def PureP (E : Env) (f : Nat) (p : List AV → Option AV) : Prop := ∀ args v, p args = some v → frees args = true ∧ v.free = true ∧ ∃ n h1, call E n f args .nil = some (v, h1)
def Env.with (E : Env) (f : Nat) (p : List AV → Option AV) : Env := { E with prims := fun n => if n = f then some (fun args h => match p args with | some v => some (v, h) | none => none) else E.prims n }
theorem EnvOk.with {p : List AV → Option AV} (EO : EnvOk P W0 base E) (hp : PureP E f p) : EnvOk P W0 base (E.with f p) where
  fns := EO.fns
  exts := EO.exts
  meth := EO.meth
  mixed := EO.mixed
  prims := by
    intro k q hq args h v h' hv ρ w B R hok
    simp only [Env.with] at hq
    split at hq
    · rename_i e
      subst e
      obtain rfl := Option.some.inj hq
      simp only at hv
      split at hv
      · rename_i u hu
        obtain ⟨rfl, rfl⟩ := pair_inj hv
        obtain ⟨a1, a2, n, h1, a3⟩ := hp args u hu
        exact lift EO a3 a1 a2 B R
      · cases hv
    · exact EO.prims k q hq args h v h' hv ρ w B R hok
  later := by
    intro k q args h v h' hq hv
    simp only [Env.with] at hq
    split at hq
    · obtain rfl := Option.some.inj hq
      simp only at hv
      split at hv
      · obtain ⟨rfl, rfl⟩ := pair_inj hv
        exact Later.refl _
      · cases hv
    · exact EO.later k q args h v h' hq hv
end
end Go.Ae
