/- Decimal notations: plain lists of bytes. -/
import Derived.Lib.ItoaNum
import Derived.Lib.Repeat
set_option linter.unusedVariables false
set_option linter.unusedSimpArgs false
namespace Go.Ae.N
open Go
/-- The last decimal digit. -/
def dg (n : Nat) : UInt8 := UInt8.ofNat (48 + n % 10)
/-- The digits of a number, at least so many. -/
def decP (n k : Nat) : List UInt8 := if n = 0 ∧ k = 0 then [] else decP (n / 10) (k - 1) ++ [dg n]
termination_by n + k
decreasing_by omega
theorem decP_zero : decP 0 0 = [] := by rw [decP, if_pos ⟨rfl, rfl⟩]
theorem decP_step {n k : Nat} (h : ¬ (n = 0 ∧ k = 0)) : decP n k = decP (n / 10) (k - 1) ++ [dg n] := by rw [decP, if_neg h]
theorem decP_01 {n : Nat} (h : 0 < n) : decP n 0 = decP n 1 := by rw [decP_step (by omega), decP_step (n := n) (k := 1) (by omega)]
theorem decP_len : ∀ (j : Nat) {n k : Nat}, n < 10 ^ j → (decP n k).length ≤ j + k
  | 0, n, 0, h => by
    have : n = 0 := by simpa using h
    subst this; rw [decP_zero]; simp
  | 0, n, k + 1, h => by
    have : n = 0 := by simpa using h
    subst this
    rw [decP_step (by omega)]
    have := decP_len 0 (n := 0) (k := k) (by simp)
    simp only [Nat.zero_div, Nat.add_sub_cancel, List.length_append, List.length_cons, List.length_nil]; omega
  | j + 1, n, k, h => by
    by_cases h0 : n = 0 ∧ k = 0
    · rw [h0.1, h0.2, decP_zero]; simp
    · rw [decP_step h0]
      have h1 : n / 10 < 10 ^ j := by rw [Nat.pow_succ] at h; omega
      by_cases hk : k = 0
      · subst hk
        have := decP_len j (n := n / 10) (k := 0) h1
        simp only [Nat.zero_sub, List.length_append, List.length_cons, List.length_nil]; omega
      · have := decP_len j (n := n / 10) (k := k - 1) h1
        simp only [List.length_append, List.length_cons, List.length_nil]; omega
theorem decP_zeros : ∀ k : Nat, decP 0 k = Lib.repeatL [48] k
  | 0 => by rw [decP_zero]; rfl
  | k + 1 => by
    rw [decP_step (by omega), Nat.zero_div, Nat.add_sub_cancel, decP_zeros k, Lib.repeatL_add]
    rfl
theorem digits_len (n : Nat) : 1 ≤ (Lib.decDigits n).length := by
  rw [Lib.decDigits]; split <;> simp
theorem decP_pad : ∀ (n k : Nat), 1 ≤ k → Lib.repeatL [48] (k - (Lib.decDigits n).length) ++ Lib.decDigits n = decP n k := by
  intro n
  induction n using Nat.strongRecOn with
  | _ n ih =>
    intro k hk
    rw [decP_step (by omega)]
    by_cases hn : n < 10
    · have e1 : Lib.decDigits n = [dg n] := by rw [Lib.decDigits, dif_pos hn, dg, Nat.mod_eq_of_lt hn]
      rw [e1, show n / 10 = 0 by omega, decP_zeros]; rfl
    · have e1 : Lib.decDigits n = Lib.decDigits (n / 10) ++ [dg n] := by rw [Lib.decDigits, dif_neg hn, dg]
      rw [e1, List.length_append, ← List.append_assoc]
      congr 1
      have hl := digits_len (n / 10)
      by_cases h1 : k = 1
      · subst h1
        rw [decP_01 (by omega), ← ih (n / 10) (by omega) 1 (by omega)]
        rw [show 1 - ((Lib.decDigits (n / 10)).length + [dg n].length) = 0 by simp]
        rw [show 1 - (Lib.decDigits (n / 10)).length = 0 by omega]
      · rw [← ih (n / 10) (by omega) (k - 1) (by omega)]
        rw [show k - ((Lib.decDigits (n / 10)).length + [dg n].length) = k - 1 - (Lib.decDigits (n / 10)).length by simp; omega]
theorem dg_slice {n : Nat} : List.drop (n % 10) (List.take (n % 10 + 1) [48, 49, 50, 51, 52, 53, 54, 55, 56, 57]) = [dg n] := by
  have h : n % 10 < 10 := by omega
  unfold dg
  generalize n % 10 = m at h
  match m, h with
  | 0, _ | 1, _ | 2, _ | 3, _ | 4, _ | 5, _ | 6, _ | 7, _ | 8, _ | 9, _ => rfl
end Go.Ae.N
