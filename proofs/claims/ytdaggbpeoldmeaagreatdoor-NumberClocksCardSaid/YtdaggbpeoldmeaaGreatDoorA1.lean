/- The abstract evaluator: lemmas on its trees and numbers. -/
import Derived.Test.YtdaggbpeoldmeaaGreatDoorA0
set_option linter.unusedVariables false
set_option linter.unusedSimpArgs false
namespace Go.Ae

theorem lit_eq {α : Type} (n : Nat) (k : Nat → α) : lit n k = k n := by cases n <;> rfl
theorem litI_eq {α : Type} (n : Int) (k : Int → α) : litI n k = k n := by cases n <;> simp [litI, lit_eq]
theorem T.get_nil {α : Type} (n : Nat) : (T.nil : T α).get n = none := rfl
theorem T.get_node {α : Type} (l : T α) (v : Option α) (r : T α) (n : Nat) :
    (T.node l v r).get n = if n = 0 then v else if n % 2 = 1 then l.get (n / 2) else r.get (n / 2 - 1) := by
  show (Bool.rec (Bool.rec (r.get (Nat.pred (n / 2))) (l.get (n / 2)) (Nat.beq (n % 2) 1) : Option α) v (Nat.beq n 0) : Option α) = _
  have e1 : Nat.beq n 0 = decide (n = 0) := by cases n <;> simp [Nat.beq]
  have e2 : Nat.beq (n % 2) 1 = decide (n % 2 = 1) := by
    rcases Nat.mod_two_eq_zero_or_one n with h | h <;> simp [h, Nat.beq]
  rw [e1, e2]
  by_cases h : n = 0 <;> by_cases k : n % 2 = 1 <;> simp [h, k, Nat.pred_eq_sub_one]
theorem T.ins_zero {α : Type} (x : α) (t : T α) (n : Nat) : T.ins x 0 t n = t := rfl
theorem T.ins_nil {α : Type} (x : α) (d n : Nat) :
    T.ins x (d + 1) .nil n = if n = 0 then .node .nil (some x) .nil else if n % 2 = 1 then .node (T.ins x d .nil (n / 2)) none .nil else .node .nil none (T.ins x d .nil (n / 2 - 1)) := by
  show (Bool.rec (Bool.rec (T.node .nil none (T.ins x d .nil (Nat.pred (n / 2)))) (T.node (T.ins x d .nil (n / 2)) none .nil) (Nat.beq (n % 2) 1) : T α) (T.node .nil (some x) .nil) (Nat.beq n 0) : T α) = _
  have e1 : Nat.beq n 0 = decide (n = 0) := by cases n <;> simp [Nat.beq]
  have e2 : Nat.beq (n % 2) 1 = decide (n % 2 = 1) := by
    rcases Nat.mod_two_eq_zero_or_one n with h | h <;> simp [h, Nat.beq]
  rw [e1, e2]
  by_cases h : n = 0 <;> by_cases k : n % 2 = 1 <;> simp [h, k, Nat.pred_eq_sub_one]
theorem T.ins_node {α : Type} (x : α) (d n : Nat) (l r : T α) (v : Option α) :
    T.ins x (d + 1) (.node l v r) n = if n = 0 then .node l (some x) r else if n % 2 = 1 then .node (T.ins x d l (n / 2)) v r else .node l v (T.ins x d r (n / 2 - 1)) := by
  show (Bool.rec (Bool.rec (T.node l v (T.ins x d r (Nat.pred (n / 2)))) (T.node (T.ins x d l (n / 2)) v r) (Nat.beq (n % 2) 1) : T α) (T.node l (some x) r) (Nat.beq n 0) : T α) = _
  have e1 : Nat.beq n 0 = decide (n = 0) := by cases n <;> simp [Nat.beq]
  have e2 : Nat.beq (n % 2) 1 = decide (n % 2 = 1) := by
    rcases Nat.mod_two_eq_zero_or_one n with h | h <;> simp [h, Nat.beq]
  rw [e1, e2]
  by_cases h : n = 0 <;> by_cases k : n % 2 = 1 <;> simp [h, k, Nat.pred_eq_sub_one]
theorem T.get_ins {α : Type} (x : α) : ∀ (d : Nat) (t : T α) (n m : Nat), n < d → (T.ins x d t n).get m = if m = n then some x else t.get m
  | 0, _, _, _, h => by omega
  | d + 1, t, n, m, h => by
    cases t with
    | nil =>
      rw [T.ins_nil]
      by_cases h0 : n = 0
      · subst h0; rw [if_pos rfl, T.get_node]; by_cases hm : m = 0 <;> simp [hm, T.get_nil]
      · rw [if_neg h0]
        by_cases h1 : n % 2 = 1
        · rw [if_pos h1, T.get_node, T.get_ins x d _ _ _ (by omega)]
          by_cases hm : m = 0
          · have : m ≠ n := by omega
            simp [hm, T.get_nil]; omega
          · by_cases hm1 : m % 2 = 1
            · have : (m / 2 = n / 2) ↔ m = n := by omega
              simp [hm, hm1, T.get_nil, this]
            · have : m ≠ n := by omega
              simp [hm, hm1, T.get_nil, this]
        · rw [if_neg h1, T.get_node, T.get_ins x d _ _ _ (by omega)]
          by_cases hm : m = 0
          · have : m ≠ n := by omega
            simp [hm, T.get_nil]; omega
          · by_cases hm1 : m % 2 = 1
            · have : m ≠ n := by omega
              simp [hm, hm1, T.get_nil, this]
            · have : (m / 2 - 1 = n / 2 - 1) ↔ m = n := by omega
              simp [hm, hm1, T.get_nil, this]
    | node l v r =>
      rw [T.ins_node]
      by_cases h0 : n = 0
      · subst h0; rw [if_pos rfl, T.get_node, T.get_node]; by_cases hm : m = 0 <;> simp [hm]
      · rw [if_neg h0]
        by_cases h1 : n % 2 = 1
        · rw [if_pos h1, T.get_node, T.get_node, T.get_ins x d _ _ _ (by omega)]
          by_cases hm : m = 0
          · have : m ≠ n := by omega
            simp [hm]; omega
          · by_cases hm1 : m % 2 = 1
            · have : (m / 2 = n / 2) ↔ m = n := by omega
              simp [hm, hm1, this]
            · have : m ≠ n := by omega
              simp [hm, hm1, this]
        · rw [if_neg h1, T.get_node, T.get_node, T.get_ins x d _ _ _ (by omega)]
          by_cases hm : m = 0
          · have : m ≠ n := by omega
            simp [hm]; omega
          · by_cases hm1 : m % 2 = 1
            · have : m ≠ n := by omega
              simp [hm, hm1, this]
            · have : (m / 2 - 1 = n / 2 - 1) ↔ m = n := by omega
              simp [hm, hm1, this]
theorem T.get_set {α : Type} (x : α) (t : T α) (n m : Nat) : (t.set n x).get m = if m = n then some x else t.get m := by
  unfold T.set; rw [lit_eq]; exact T.get_ins x _ t n m (by omega)
theorem Hp.get_push (h : Hp) (o : Nat → AObj) (t : Nat) : (h.push o).get t = if t = h.next then some (o (h.clk + 1)) else h.get t := T.get_set _ _ _ _
theorem Hp.get_put (h : Hp) (t' : Nat) (o : Nat → AObj) (t : Nat) : (h.put t' o).get t = if t = t' then some (o (h.clk + 1)) else h.get t := T.get_set _ _ _ _
theorem exec_zero (E : Env) : exec E 0 = fun _ _ => none := rfl
theorem exec_succ (E : Env) (n : Nat) : exec E (n + 1) = step E (exec E n) := rfl

theorem addI_eq (x y : Int) : addI x y = x + y := by cases x <;> cases y <;> simp [addI] <;> rfl
theorem subI_eq (x y : Int) : subI x y = x - y := by
  cases x with
  | ofNat m => cases y with
    | ofNat n =>
      simp only [subI]
      cases h : Nat.ble n m with
      | true => have := Nat.le_of_ble_eq_true h; simp only [Int.ofNat_eq_natCast]; show ((m - n : Nat) : Int) = _; omega
      | false => rfl
    | negSucc n => rfl
  | negSucc m => rfl
theorem mulI_eq (x y : Int) : mulI x y = x * y := by cases x <;> cases y <;> simp [mulI] <;> rfl
theorem quoI_eq (x y : Int) : quoI x y = x.tdiv y := by cases x <;> cases y <;> simp [quoI] <;> rfl
theorem remI_eq (x y : Int) : remI x y = x.tmod y := by cases x <;> cases y <;> simp [remI] <;> rfl
theorem beq_dec (m n : Nat) : Nat.beq m n = decide (m = n) := by
  rw [Bool.eq_iff_iff]; simp
theorem eqI_eq (x y : Int) : eqI x y = (x == y) := by
  cases x <;> cases y <;> simp only [eqI, Int.ofNat_eq_natCast] <;> rw [Bool.eq_iff_iff] <;> simp <;> omega
theorem ltI_eq (x y : Int) : ltI x y = decide (x < y) := by
  cases x <;> cases y <;> simp only [ltI, Int.ofNat_eq_natCast] <;> rw [Bool.eq_iff_iff] <;> simp [Nat.blt_eq] <;> omega
theorem leI_eq (x y : Int) : leI x y = decide (x ≤ y) := by
  cases x <;> cases y <;> simp only [leI, Int.ofNat_eq_natCast] <;> rw [Bool.eq_iff_iff] <;> simp <;> omega
set_option maxRecDepth 10000 in
theorem wrapW_eq (k : IntKind) (n : Int) : wrapW k n = k.wrap n := by
  cases n with
  | ofNat m =>
    simp only [wrapW]
    cases h : Nat.blt m (limK k) with
    | false => rfl
    | true =>
      have hm : m < limK k := by simpa using h
      simp only [Int.ofNat_eq_natCast]
      cases k <;> simp [limK] at hm <;> simp [IntKind.wrap, IntKind.bits, IntKind.signed] <;> omega
  | negSucc m =>
    simp only [wrapW]
    cases hs : sgnK k with
    | false => rfl
    | true =>
      cases h : Nat.blt m (limK k) with
      | false => rfl
      | true =>
        have hm : m < limK k := by simpa using h
        clear h
        have key : ∀ (b : Nat), k.signed = true → k.bits = b + 1 → (m : Int) < 2 ^ b → Int.negSucc m = k.wrap (Int.negSucc m) := by
          intro b h1 h2 h3
          have hp : (0 : Int) < 2 ^ b := Int.pow_pos (by omega)
          have e : (2 : Int) ^ (b + 1) = 2 * 2 ^ b := by rw [Int.pow_succ]; omega
          simp only [IntKind.wrap, h1, h2, Nat.add_sub_cancel, e, Bool.true_and]
          generalize (2 : Int) ^ b = B at *
          have hm' : Int.negSucc m % (2 * B) = Int.negSucc m + 2 * B := by
            rw [← Int.add_mul_emod_self_left (Int.negSucc m) (2 * B) 1, Int.mul_one]
            exact Int.emod_eq_of_lt (by omega) (by omega)
          rw [hm']
          have : (Int.negSucc m + 2 * B ≥ B) := by omega
          simp [this]
        cases k
        · exact key 7 rfl rfl (by simp only [limK] at hm; omega)
        · exact key 15 rfl rfl (by simp only [limK] at hm; omega)
        · exact key 31 rfl rfl (by simp only [limK] at hm; omega)
        · exact key 63 rfl rfl (by simp only [limK] at hm; omega)
        all_goals exact absurd hs (by decide)
theorem mkInt_eq (k : IntKind) (n : Int) : mkInt k n = some (.int k (k.wrap n)) := by simp [mkInt, litI_eq, wrapW_eq]
theorem sameK_eq (k k' : IntKind) : sameK k k' = decide (k = k') := by cases k <;> cases k' <;> rfl
end Go.Ae
