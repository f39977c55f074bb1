/- The abstract evaluator: what holds behind a run: regions whose order is drawn. -/
import Derived.Test.YtdaggbpeoldmeaaGreatDoorA26
set_option linter.unusedVariables false
set_option linter.unusedSimpArgs false
namespace Go.Ae
section
variable {E : Env} {s s' s1 : St} {e : Ex} {h h' : Hp} {v : AV} {Q Q' : Ex → St → Prop} {K : AV → Hp → Prop}
theorem Wp.dreg {ops : List AOper} (hw : Wp E (.drun ops 0 s.hp.clk []) s Q) : Wp E (.dreg ops) s Q := by
  obtain ⟨e, s', ⟨n, hn⟩, h2⟩ := hw
  exact ⟨e, s', ⟨n + 1, by rw [exec_succ]; exact hn⟩, h2⟩
theorem Wp.dnil {i c0 : Nat} {acc : List (Nat × Nat)} (hq : Q .nrm s) : Wp E (.drun [] i c0 acc) s Q := ⟨.nrm, s, ⟨1, by rw [exec_succ]; rfl⟩, hq⟩
/-- What is noted of an operation, and that nothing noted has turned. -/
theorem Wp.dop {o : AOper} {r : List AOper} {i c0 : Nat} {acc acc' : List (Nat × Nat)} (hw : wanted s.tm o.grd = true) (hno : noted s o acc = some acc')
    (ho : OpWp E o.op s fun v h => acc'.all (fresh h c0 i) = true ∧ Wp E (.drun r (i + 1) c0 acc') { tm := put s.tm o.dst v, hp := h } Q) : Wp E (.drun (o :: r) i c0 acc) s Q := by
  obtain ⟨v, h', ⟨n, hn⟩, hf, e, s', ⟨m, hm⟩, h3⟩ := ho
  refine ⟨e, s', ⟨max n m + 1, ?_⟩, h3⟩
  rw [exec_succ]
  show s_dop o r i c0 acc E (exec E (max n m)) s = _
  unfold s_dop
  rw [hw, opA_mono (exec_mono (Nat.le_max_left n m)) hn]
  simp only [hno, hf]
  exact exec_mono (Nat.le_max_right n m) _ _ _ hm
theorem Wp.dnoop {o : AOper} {r : List AOper} {i c0 : Nat} {acc : List (Nat × Nat)} (hw : wanted s.tm o.grd = false) (hf : acc.all (fresh s.hp c0 i) = true)
    (ho : Wp E (.drun r (i + 1) c0 acc) { tm := put s.tm o.dst und, hp := s.hp } Q) : Wp E (.drun (o :: r) i c0 acc) s Q := by
  obtain ⟨e, s', ⟨m, hm⟩, h3⟩ := ho
  refine ⟨e, s', ⟨m + 1, ?_⟩, h3⟩
  rw [exec_succ]
  show s_dop o r i c0 acc E (exec E m) s = _
  unfold s_dop
  rw [hw, hf]
  exact hm
/-- Every stamp is at most the clock. -/
def Clk (h : Hp) : Prop := ∀ t o, h.get t = some o → o.st ≤ h.clk
theorem Clk.push {o : Nat → AObj} (hc : Clk h) (ho : (o (h.clk + 1)).st = h.clk + 1) : Clk (h.push o) := by
  intro t ob ht
  rw [Hp.get_push] at ht
  show ob.st ≤ h.clk + 1
  split at ht
  · obtain rfl := Option.some.inj ht; omega
  · have := hc t ob ht; omega
theorem Clk.put {t : Nat} {o : Nat → AObj} (hc : Clk h) (ho : (o (h.clk + 1)).st = h.clk + 1) : Clk (h.put t o) := by
  intro t' ob ht
  rw [Hp.get_put] at ht
  show ob.st ≤ h.clk + 1
  split at ht
  · obtain rfl := Option.some.inj ht; omega
  · have := hc t' ob ht; omega
theorem old_of {h : Hp} {c0 t : Nat} {o : AObj} (ht : h.get t = some o) (ho : o.st ≤ c0) : old h c0 t = true := by
  unfold old; rw [ht]; exact Nat.ble_eq_true_of_le ho
end
end Go.Ae
