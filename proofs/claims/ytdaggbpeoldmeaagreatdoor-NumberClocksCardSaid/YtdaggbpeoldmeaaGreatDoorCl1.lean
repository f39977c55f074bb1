/- Decimal texts: which bytes are digits, and what they spell. -/
import Derived.Test.YtdaggbpeoldmeaaGreatDoorCl0
import Derived.Test.YtdaggbpeoldmeaaGreatDoorA24
import Derived.Lib.Atoi
set_option linter.unusedVariables false
set_option linter.unusedSimpArgs false
namespace Go.Ae.N
open Go
def isDig (b : UInt8) : Bool := decide (48 ≤ b.toNat ∧ b.toNat ≤ 57)
def allDig (l : List UInt8) : Bool := l.all isDig
/-- A digit's value. -/
def dV (b : UInt8) : Nat := b.toNat - 48
/-- What digits spell, behind a number. -/
def decF (n : Nat) (l : List UInt8) : Nat := l.foldl (fun m b => m * 10 + dV b) n
theorem decF_nil {n : Nat} : decF n [] = n := List.foldl_nil
theorem decF_cons {n : Nat} {b : UInt8} {l : List UInt8} : decF n (b :: l) = decF (n * 10 + dV b) l := List.foldl_cons
abbrev decV (l : List UInt8) : Nat := decF 0 l
/-- A number without zeros in front. -/
def isDec (l : List UInt8) : Bool := decide (l ≠ []) && allDig l && (decide (l.headD 0 ≠ 48) || decide (l = [48]))
theorem decFrom_eq (l : List UInt8) : ∀ n : Nat, allDig l = true → Lib.decFrom n l = some (decF n l) := by
  induction l with
  | nil => intro n _; rw [decF_nil]; rfl
  | cons b l ih =>
    intro n h
    simp only [allDig, List.all_cons, Bool.and_eq_true] at h
    have hb : 48 ≤ b.toNat ∧ b.toNat ≤ 57 := by simpa [isDig] using h.1
    simp only [Lib.decFrom, Lib.digitVal, if_pos hb, decF_cons, dV]
    exact ih _ h.2
theorem atoi_eq {l : List UInt8} (h : allDig l = true) (h0 : l ≠ []) : Lib.atoi l = some (decV l : Int) := by
  cases l with
  | nil => exact absurd rfl h0
  | cons b r =>
    have h' := h
    simp only [allDig, List.all_cons, Bool.and_eq_true] at h'
    have hb : 48 ≤ b.toNat ∧ b.toNat ≤ 57 := by simpa [isDig] using h'.1
    have h1 : (b == 45) = false := by
      rw [beq_eq_false_iff_ne]; rintro rfl; simp at hb
    have h2 : (b == 43) = false := by
      rw [beq_eq_false_iff_ne]; rintro rfl; simp at hb
    simp only [Lib.atoi, h1, h2, Lib.decNat, List.isEmpty_cons, Bool.false_eq_true, if_false, decFrom_eq _ _ h, Option.map_some]
theorem decF_lt (l : List UInt8) : ∀ n j : Nat, allDig l = true → n < 10 ^ j → decF n l < 10 ^ (j + l.length) := by
  induction l with
  | nil => intro n j _ h; rw [decF_nil]; exact h
  | cons b l ih =>
    intro n j h hn
    simp only [allDig, List.all_cons, Bool.and_eq_true] at h
    have hb : 48 ≤ b.toNat ∧ b.toNat ≤ 57 := by simpa [isDig] using h.1
    have := ih (n * 10 + dV b) (j + 1) h.2 (by unfold dV; rw [Nat.pow_succ]; omega)
    rw [decF_cons, List.length_cons]
    rw [show j + (l.length + 1) = j + 1 + l.length by omega]; exact this
theorem decV_lt {l : List UInt8} (h : allDig l = true) : decV l < 10 ^ l.length := by
  have := decF_lt l 0 0 h (by simp); simpa using this
theorem ten_mem (b : UInt8) : L.tenDigits.contains b = isDig b := by
  have key : ∀ n : Nat, n < 256 → L.tenDigits.contains (UInt8.ofNat n) = decide (48 ≤ (UInt8.ofNat n).toNat ∧ (UInt8.ofNat n).toNat ≤ 57) := by decide +kernel
  have := key b.toNat b.toNat_lt
  simpa [isDig] using this
theorem dropWhile_nil {l : List UInt8} {p : UInt8 → Bool} : l.dropWhile p = [] ↔ l.all p = true := by
  induction l with
  | nil => simp
  | cons b l ih => by_cases hb : p b = true <;> simp [List.dropWhile, hb, ih]
theorem trim_nil {l : List UInt8} : Lib.trimS l L.tenDigits = [] ↔ allDig l = true := by
  have e : (fun b => L.tenDigits.contains b) = isDig := funext ten_mem
  unfold Lib.trimS Lib.trimLeftS Lib.trimRightS allDig
  rw [e, dropWhile_nil, List.all_reverse]
  constructor
  · intro h
    rw [List.all_eq_true] at h ⊢
    by_cases h1 : l.reverse.dropWhile isDig = []
    · rw [dropWhile_nil, List.all_reverse, List.all_eq_true] at h1; exact h1
    · exfalso
      have h2 := List.head_dropWhile_not isDig (l := l.reverse) (by exact h1)
      rw [h _ (List.head_mem h1)] at h2; cases h2
  · intro h
    have : l.reverse.dropWhile isDig = [] := by rw [dropWhile_nil, List.all_reverse]; exact h
    rw [this]; rfl
/-- A number of just so many digits. -/
def digV (l : List UInt8) (c : Nat) : Nat × Bool := if l.length = c ∧ allDig l = true then (decV l, true) else (0, false)
/-- A number of at most 9 digits without zeros in front. -/
def intV (l : List UInt8) : Nat × Bool := if isDec l = true ∧ l.length ≤ 9 then (decV l, true) else (0, false)
end Go.Ae.N
