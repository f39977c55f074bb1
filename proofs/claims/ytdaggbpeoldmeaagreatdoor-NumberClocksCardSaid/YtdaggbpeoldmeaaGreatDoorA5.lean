/- The abstract evaluator: operations that turn no memory. -/
import Derived.Test.YtdaggbpeoldmeaaGreatDoorA4
set_option linter.unusedVariables false
set_option linter.unusedSimpArgs false
namespace Go.Ae
section
variable {P : Program} {base : Nat} {ρ : Rho} {h h' : Hp} {w : World} {ev : Operand → Value} {tm : T AV} {v : AV}
variable {dst : Option Tmp} {ty : TypeId} {pos : String} {af : Array Edge} {gd : Option (Nat × Bool)}

theorem pair_inj {α β : Type} {a a' : α} {b b' : β} (e : some (a, b) = some (a', b')) : a = a' ∧ b = b' := by
  injection e with e; injection e with e1 e2; exact ⟨e1, e2⟩

theorem q_mv {x : Operand} {x' : Opd} (hx : copd x = some x') (E : Evals ρ h.next ev tm) (R : HRel base ρ h w) (hr : o_mv x' (val tm) h = some (v, h')) :
    Yields P base ρ h w (pure (.value (ev x))) v h' := by
  obtain ⟨rfl, rfl⟩ := pair_inj hr
  exact Yields.pure R (by rw [(E _ _ hx).1]; rfl) (E _ _ hx).2
theorem q_pick {c a b : Operand} {c' a' b' : Opd} (hc : copd c = some c') (ha : copd a = some a') (hb : copd b = some b') (E : Evals ρ h.next ev tm) (R : HRel base ρ h w)
    (hr : o_pick c' a' b' (val tm) h = some (v, h')) : Yields P base ρ h w (do pure (.value (if ← asBool (ev c) then ev a else ev b))) v h' := by
  obtain ⟨e1, _⟩ := E _ _ hc
  obtain ⟨e2, k2⟩ := E _ _ ha
  obtain ⟨e3, k3⟩ := E _ _ hb
  unfold o_pick at hr
  split at hr
  · rename_i e
    obtain ⟨rfl, rfl⟩ := pair_inj hr
    exact Yields.pure R (by rw [e1, e, e2]; simp [enc, asBool]) k2
  · rename_i e
    obtain ⟨rfl, rfl⟩ := pair_inj hr
    exact Yields.pure R (by rw [e1, e, e3]; simp [enc, asBool]) k3
  · cases hr
theorem q_load {t : TypeId} {x : Operand} {x' : Opd} {a : Bool} {n : Nat} (ha : cagg P t = some a) (hn : csz P t = some n) (hx : copd x = some x') (E : Evals ρ h.next ev tm) (R : HRel base ρ h w)
    (hr : o_load a (if a then n else 1) x' (val tm) h = some (v, h')) : Yields P base ρ h w (do pure (.value (← Instr.loadAt t (ev x)))) v h' := by
  obtain ⟨e1, k1⟩ := E _ _ hx
  unfold o_load at hr
  split at hr
  · rename_i tk o e
    split at hr
    · rename_i cs own st ht
      by_cases hl : o + (if a then n else 1) ≤ cs.length
      · rw [if_pos hl] at hr
        have key : ∀ v', (if a then some (AV.agg ((cs.drop o).take (if a then n else 1))) else cs[o]?) = some v' → v' = v ∧ h = h' → Yields P base ρ h w (do pure (.value (← Instr.loadAt t (ev x)))) v h' := by
          rintro v' hv' ⟨rfl, rfl⟩
          obtain ⟨h1, h2⟩ := loadVar_sound R ha hn ht hl hv'
          refine Yields.pure R ?_ h2
          rw [e1, e]
          simp [enc, Instr.loadAt, Instr.sureAddr, h1]
        cases a with
        | true => exact key _ rfl (pair_inj hr)
        | false =>
          simp only [Bool.false_eq_true, if_false] at hr
          split at hr
          · rename_i v' hv'; exact key v' (by simpa using hv') (pair_inj hr)
          · cases hr
      · rw [if_neg hl] at hr; cases hr
    · cases hr
  · cases hr
theorem q_nilck {x : Operand} {x' : Opd} (hx : copd x = some x') (E : Evals ρ h.next ev tm) (R : HRel base ρ h w) (hr : o_nilck x' (val tm) h = some (v, h')) :
    Yields P base ρ h w (execOp ev ⟨dst, .nilCheck x, ty, pos, af, gd⟩) v h' := by
  obtain ⟨e1, k1⟩ := E _ _ hx
  unfold o_nilck at hr
  split at hr <;> first
    | (rename_i e; obtain ⟨rfl, rfl⟩ := pair_inj hr
       exact Yields.pure R (by simp only [execOp]; rw [e1, e]; simp [enc]) (by rw [← e]; exact k1))
    | cases hr
theorem run_intA {op : BinOp} {k k' : IntKind} {x y : Int} {v : AV} (hr : intA op k x k' y = some v) (t : TypeId) : (binOp op t (.int k x) (.int k' y)).run P w = .ok (enc ρ v) w ∧ ok ρ h.next v := by
  unfold intA at hr
  split at hr
  · split at hr
    · cases hr
    · rename_i hy
      obtain rfl := Option.some.inj hr
      exact ⟨by simp [binOp, Op.shift, hy, enc], trivial⟩
  · split at hr
    · cases hr
    · rename_i hy
      obtain rfl := Option.some.inj hr
      exact ⟨by simp [binOp, Op.shift, hy, enc], trivial⟩
  · rename_i n1 n2
    rw [sameK_eq] at hr
    by_cases hk : k = k'
    · subst hk
      simp only [decide_true] at hr
      unfold intA1 at hr
      split at hr
      · rw [mkInt_eq, addI_eq] at hr; obtain rfl := Option.some.inj hr; exact ⟨by simp [binOp, Op.intArith, enc], trivial⟩
      · rw [mkInt_eq, subI_eq] at hr; obtain rfl := Option.some.inj hr; exact ⟨by simp [binOp, Op.intArith, enc], trivial⟩
      · rw [mkInt_eq, mulI_eq] at hr; obtain rfl := Option.some.inj hr; exact ⟨by simp [binOp, Op.intArith, enc], trivial⟩
      · rw [eqI_eq] at hr
        by_cases hy : y = 0
        · simp [hy] at hr
        · have : (y == 0) = false := by simpa using hy
          rw [this, mkInt_eq, quoI_eq] at hr
          obtain rfl := Option.some.inj hr; exact ⟨by simp [binOp, Op.intDiv, hy, enc], trivial⟩
      · rw [eqI_eq] at hr
        by_cases hy : y = 0
        · simp [hy] at hr
        · have : (y == 0) = false := by simpa using hy
          rw [this, litI_eq, remI_eq] at hr
          obtain rfl := Option.some.inj hr; exact ⟨by simp [binOp, Op.intDiv, hy, enc], trivial⟩
      · rw [eqI_eq] at hr; obtain rfl := Option.some.inj hr; exact ⟨by simp [binOp, Op.intCmp, enc], trivial⟩
      · rw [eqI_eq] at hr; obtain rfl := Option.some.inj hr; exact ⟨by simp [binOp, Op.intCmp, enc, bne], trivial⟩
      · rw [ltI_eq] at hr; obtain rfl := Option.some.inj hr; exact ⟨by simp [binOp, Op.intCmp, enc], trivial⟩
      · rw [leI_eq] at hr; obtain rfl := Option.some.inj hr; exact ⟨by simp [binOp, Op.intCmp, enc], trivial⟩
      · rw [ltI_eq] at hr; obtain rfl := Option.some.inj hr; exact ⟨by simp [binOp, Op.intCmp, enc], trivial⟩
      · rw [leI_eq] at hr; obtain rfl := Option.some.inj hr; exact ⟨by simp [binOp, Op.intCmp, enc], trivial⟩
      · unfold bitsA at hr
        split at hr <;> first
          | (obtain rfl := Option.some.inj hr; exact ⟨by simp [binOp, Op.intBits, enc], trivial⟩)
          | cases hr
    · simp [hk] at hr
theorem ba_loop (bs : ByteArray) : ∀ (n i : Nat) (r : List UInt8), bs.size - i = n → ByteArray.toList.loop bs i r = r.reverse ++ bs.data.toList.drop i := by
  intro n
  induction n with
  | zero =>
    intro i r hn
    rw [ByteArray.toList.loop]
    have : ¬ i < bs.size := by omega
    rw [if_neg this]
    have : bs.data.toList.drop i = [] := List.drop_eq_nil_of_le (by have : bs.data.toList.length = bs.size := Array.length_toList
                                                                    omega)
    simp [this]
  | succ n ih =>
    intro i r hn
    rw [ByteArray.toList.loop]
    have hi : i < bs.size := by omega
    rw [if_pos hi, ih _ _ (by omega)]
    have hlen : bs.data.toList.length = bs.size := Array.length_toList
    rw [List.drop_eq_getElem_cons (by omega : i < bs.data.toList.length)]
    have : bs.get! i = bs.data.toList[i]'(by omega) := by
      cases bs with | mk d =>
      have hd : i < d.size := by simpa [ByteArray.size] using hi
      simp [ByteArray.get!, getElem!_pos d i hd]
    simp [this]
theorem ba_toList (s : List UInt8) : (⟨s.toArray⟩ : ByteArray).toList = s := by
  unfold ByteArray.toList
  rw [ba_loop _ _ 0 [] rfl]; simp
theorem ba_size (s : List UInt8) : (⟨s.toArray⟩ : ByteArray).size = s.length := by simp [ByteArray.size]
theorem run_strA {op : BinOp} {x y : List UInt8} {v : AV} (hr : strA op x y = some v) (t : TypeId) : (binOp op t (.string ⟨x.toArray⟩) (.string ⟨y.toArray⟩)).run P w = .ok (enc ρ v) w ∧ ok ρ h.next v := by
  unfold strA at hr
  split at hr
  · split at hr
    · cases hr
    · rename_i hl
      obtain rfl := Option.some.inj hr
      refine ⟨?_, trivial⟩
      simp only [binOp, Op.stringOp, ba_size, hl, if_false, enc, Sem.run_pure]
      congr 2
  all_goals first
    | (obtain rfl := Option.some.inj hr
       exact ⟨by simp [binOp, Op.stringOp, ba_toList, enc], trivial⟩)
    | cases hr
end
end Go.Ae
