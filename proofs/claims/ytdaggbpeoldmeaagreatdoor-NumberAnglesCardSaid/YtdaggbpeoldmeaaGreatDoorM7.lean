/- The reference's texts of numbers: small ones, read at once. -/
import Derived.Test.YtdaggbpeoldmeaaGreatDoorM6
import Derived.Test.YtdaggbpeoldmeaaGreatDoorM5
set_option linter.unusedVariables false
set_option linter.unusedSimpArgs false
set_option maxRecDepth 100000
set_option maxHeartbeats 1000000
namespace Go.Ae
open Bg N Go.Proofs
noncomputable section
section
variable {h h' hp : Hp} {K : AV → Hp → Prop} {tm : T AV} {r a b : Rat}
/-- At most nine digits each. -/
def smR (r : Rat) : Bool := decide (r.num.natAbs < 1000000000 ∧ r.den < 1000000000)
def quickV (r : Rat) : AV := if smR r = true then .tup [.int .i64 r.num, .int .i64 (r.den : Int), .bool true] else .tup [.int .i64 0, .int .i64 0, .bool false]
theorem quick_no {r : Rat} (h : ¬ (r.num.natAbs < 1000000000 ∧ r.den < 1000000000)) : quickV r = .tup [.int .i64 0, .int .i64 0, .bool false] := by
  unfold quickV smR; rw [decide_eq_false h, if_neg (by decide)]
theorem quick_yes {r : Rat} (h : r.num.natAbs < 1000000000 ∧ r.den < 1000000000) : quickV r = .tup [.int .i64 r.num, .int .i64 (r.den : Int), .bool true] := by
  unfold quickV smR; rw [decide_eq_true h, if_pos rfl]
theorem txtR_le {n : Nat} (l1 : Lr n r.num) (l2 : Lr n (r.den : Int)) : (txtR r).length ≤ 18 * n + 5 ∧ (absR r).length ≤ 18 * n + 5 := by
  have t1 := txtZ_len l1
  have t2 := txtZ_len l2
  have e : (absR r).length ≤ (txtR r).length := by
    rw [txtR_abs]; split
    · rw [List.length_cons]; omega
    · exact Nat.le_refl _
  have : (txtR r).length ≤ 18 * n + 5 := by
    unfold txtR
    split
    · omega
    · rw [List.length_append, List.length_cons]; omega
  omega
theorem quick_tail (h5 : val tm (.t 5) = .str (absR r)) (h6 : val tm (.t 6) = .bool (decide (r.num < 0))) (hl : (absR r).length ≤ 200000) :
    Wp E3 (R.a168.code.post 5) ⟨tm, h⟩ (RetQ [.tmp 2, .tmp 3, .tmp 4] fun v h' => v = quickV r ∧ h' = h) := by
  have hs := slash_abs r
  have n9 := decP_le (k := 9) (n := r.num.natAbs) (by decide)
  have d9 := decP_le (k := 9) (n := r.den) (by decide)
  rw [show (10 : Nat) ^ 9 = 1000000000 from rfl] at n9 d9
  have hv := decP_val r.num.natAbs 1
  have hvd := decP_val r.den 1
  have hd0 := den_pos r
  have cs := fun {h : Hp} {K : AV → Hp → Prop} => c122 (h := h) (K := K) (s := absR r) (by omega)
  have e00 : (0 : Int).toNat = 0 := rfl
  unfold R.a168
  dsimp only [ACode.post]
  by_cases c1 : (decP r.num.natAbs 1).length ≤ 9
  · have hn := n9.1 c1
    have c1' : ¬ (9 : Int) < ((decP r.num.natAbs 1).length : Int) := by omega
    have cn := fun {h : Hp} {K : AV → Hp → Prop} => u153 (h := h) (K := K) (s := decP r.num.natAbs 1) (decP_all _ _) (by omega)
    have wn : r.num < 0 → IntKind.wrap .i64 (0 - (r.num.natAbs : Int)) = r.num := fun e => by
      rw [show 0 - (r.num.natAbs : Int) = r.num by omega]; exact wrap_i64 (by omega)
    have wp : ¬ r.num < 0 → (r.num.natAbs : Int) = r.num := fun e => by omega
    by_cases c2 : r.den = 1
    · have ea : absR r = decP r.num.natAbs 1 := if_pos c2
      have hq := quick_yes (r := r) ⟨hn, by omega⟩
      rw [c2] at hq
      rw [ea] at h5 hs cs
      have tk : List.take (decP r.num.natAbs 1).length (decP r.num.natAbs 1) = decP r.num.natAbs 1 := List.take_length
      rw [hq]
      by_cases c3 : r.num < 0
      · have wn := wn c3
        rw [decide_eq_true c3] at h6
        repeat' (with_reducible first | simp (disch := first | assumption | omega | (simp only [go_sem, ne_eq, Nat.reduceAdd, Nat.reduceLeDiff] <;> omega) | fail) only [go_sem, seval, h5, h6, cs, hs, c1', cn, tk, hv, wn, Int.lt_irrefl, Int.sub_self] | ((first | apply k1 | apply k2 | apply k3 | apply k4 | apply k5 | apply k6 | apply k7) <;> intro hc))
      · have wp := wp c3
        rw [decide_eq_false c3] at h6
        repeat' (with_reducible first | simp (disch := first | assumption | omega | (simp only [go_sem, ne_eq, Nat.reduceAdd, Nat.reduceLeDiff] <;> omega) | fail) only [go_sem, seval, h5, h6, cs, hs, c1', cn, tk, hv, Int.lt_irrefl, Int.sub_self] | ((first | apply k1 | apply k2 | apply k3 | apply k4 | apply k5 | apply k6 | apply k7) <;> intro hc))
        rw [wp]
    · have ea : absR r = decP r.num.natAbs 1 ++ 47 :: decP r.den 1 := by rw [← txtZ_nat]; exact if_neg c2
      have hlen : (absR r).length = (decP r.num.natAbs 1).length + ((decP r.den 1).length + 1) := by rw [ea]; simp
      have tk : List.take (decP r.num.natAbs 1).length (absR r) = decP r.num.natAbs 1 := by rw [ea]; exact List.take_left
      have e1 : (((decP r.num.natAbs 1).length : Int) + 1).toNat = (decP r.num.natAbs 1).length + 1 := by omega
      have dk : List.drop ((decP r.num.natAbs 1).length + 1) (absR r) = decP r.den 1 := by
        rw [ea, ← List.drop_drop, List.drop_left]; rfl
      by_cases c4 : (decP r.den 1).length ≤ 9
      · have hd := d9.1 c4
        have hq := quick_yes (r := r) ⟨hn, hd⟩
        have cd := fun {h : Hp} {K : AV → Hp → Prop} => u153 (h := h) (K := K) (s := decP r.den 1) (decP_all _ _) (by omega)
        have c4' : ¬ (10 : Int) < (absR r).length - ((decP r.num.natAbs 1).length : Int) := by omega
        have c5 : ((decP r.num.natAbs 1).length : Int) < (absR r).length := by omega
        rw [hq]
        by_cases c3 : r.num < 0
        · have wn := wn c3
          rw [decide_eq_true c3] at h6
          repeat' (with_reducible first | simp (disch := first | assumption | omega | (simp only [go_sem, ne_eq, Nat.reduceAdd, Nat.reduceLeDiff] <;> omega) | fail) only [go_sem, seval, h5, h6, cs, hs, c1', cn, tk, hv, wn, e1, dk, cd, hvd, c4', c5] | ((first | apply k1 | apply k2 | apply k3 | apply k4 | apply k5 | apply k6 | apply k7) <;> intro hc))
        · have wp := wp c3
          rw [decide_eq_false c3] at h6
          repeat' (with_reducible first | simp (disch := first | assumption | omega | (simp only [go_sem, ne_eq, Nat.reduceAdd, Nat.reduceLeDiff] <;> omega) | fail) only [go_sem, seval, h5, h6, cs, hs, c1', cn, tk, hv, e1, dk, cd, hvd, c4', c5] | ((first | apply k1 | apply k2 | apply k3 | apply k4 | apply k5 | apply k6 | apply k7) <;> intro hc))
          rw [wp]
      · have hq := quick_no (r := r) (by have := mt d9.2 c4; omega)
        have c4' : (10 : Int) < (absR r).length - ((decP r.num.natAbs 1).length : Int) := by omega
        rw [hq]
        repeat' (with_reducible first | simp (disch := first | assumption | omega | (simp only [go_sem, ne_eq, Nat.reduceAdd, Nat.reduceLeDiff] <;> omega) | fail) only [go_sem, seval, h5, h6, cs, hs, c1', c4'] | ((first | apply k1 | apply k2 | apply k3 | apply k4 | apply k5 | apply k6 | apply k7) <;> intro hc))
  · have hq := quick_no (r := r) (by have := mt n9.2 c1; omega)
    have c1' : (9 : Int) < ((decP r.num.natAbs 1).length : Int) := by omega
    rw [hq]
    repeat' (with_reducible first | simp (disch := first | assumption | omega | (simp only [go_sem, ne_eq, Nat.reduceAdd, Nat.reduceLeDiff] <;> omega) | fail) only [go_sem, seval, h5, h6, cs, hs, c1'] | ((first | apply k1 | apply k2 | apply k3 | apply k4 | apply k5 | apply k6 | apply k7) <;> intro hc))
theorem u168 (l1 : Lr 9000 r.num) (l2 : Lr 9000 (r.den : Int)) : CallWp E3 168 [.str (txtR r)] h K ↔ K (quickV r) h := by
  obtain ⟨t1, t2⟩ := txtR_le l1 l2
  have tail := fun tm h5 h6 => quick_tail (h := h) (tm := tm) (r := r) h5 h6 (by omega)
  have n9 := decP_le (k := 9) (n := r.num.natAbs) (by decide)
  have d9 := decP_le (k := 9) (n := r.den) (by decide)
  rw [show (10 : Nat) ^ 9 = 1000000000 from rfl] at n9 d9
  refine CallWp.iff_of (CallWp.fn (fn := R.a168) rfl rfl rfl ?_)
  refine Wp.cut 5 rfl ?_
  generalize ACode.post 5 R.a168.code = q at tail ⊢
  unfold R.a168
  dsimp only [ACode.pre]
  have hl0 : (0 : Int) < (txtR r).length := by
    have := decP_ne r.num.natAbs
    have : 0 < (decP r.num.natAbs 1).length := List.length_pos_iff.2 this
    have : 0 < (absR r).length := by
      unfold absR; split
      · omega
      · rw [List.length_append]; omega
    rw [txtR_abs]; split
    · rw [List.length_cons]; omega
    · omega
  by_cases c0 : 20 < (txtR r).length
  · have c0' : (20 : Int) < (txtR r).length := by omega
    have hq := quick_no (r := r) (fun e => by
      have a1 := n9.2 e.1
      have a2 := d9.2 e.2
      have a3 : (absR r).length ≤ 19 := by
        unfold absR; split
        · omega
        · rw [List.length_append, List.length_cons, txtZ_nat]; omega
      rw [txtR_abs] at c0
      split at c0
      · rw [List.length_cons] at c0; omega
      · omega)
    rw [hq]
    repeat' (with_reducible first | simp (disch := first | assumption | omega | (simp only [go_sem, ne_eq, Nat.reduceAdd, Nat.reduceLeDiff] <;> omega) | fail) only [go_sem, seval, c0'] | ((first | apply k1 | apply k2 | apply k3 | apply k4 | apply k5 | apply k6 | apply k7) <;> intro hc))
  · have c0' : ¬ (20 : Int) < (txtR r).length := by omega
    by_cases c3 : r.num < 0
    · have et : txtR r = 45 :: absR r := by rw [txtR_abs, if_pos c3]
      have e0 : ((txtR r).getD 0 0).toNat = 45 := by rw [et]; rfl
      have e0' : (((txtR r).getD 0 0).toNat : Int) = 45 := by rw [e0]; rfl
      have e1 : (txtR r).drop 1 = absR r := by rw [et]; rfl
      have hl1 : (1 : Int) ≤ (txtR r).length := by omega
      repeat' (with_reducible first | simp (disch := first | assumption | omega | (simp only [go_sem, ne_eq, Nat.reduceAdd, Nat.reduceLeDiff] <;> omega) | fail) only [go_sem, seval, c0', hl0, e0', e1, hl1] | ((first | apply k1 | apply k2 | apply k3 | apply k4 | apply k5 | apply k6 | apply k7) <;> intro hc))
      exact tail _ (by simp (disch := first | assumption | omega | (simp only [go_sem, ne_eq, Nat.reduceAdd, Nat.reduceLeDiff] <;> omega) | fail) only [go_sem, seval]) (by (simp (disch := first | assumption | omega | (simp only [go_sem, ne_eq, Nat.reduceAdd, Nat.reduceLeDiff] <;> omega) | fail) only [go_sem, seval, decide_eq_true c3]) <;> rfl)
    · have et : txtR r = absR r := by rw [txtR_abs, if_neg c3]
      have e0' : ¬ (((txtR r).getD 0 0).toNat : Int) = 45 := by
        intro e
        have h1 := (u8_int (b := (txtR r).getD 0 0) (n := 45) (by decide)).1 e
        apply absR_h45 r
        rw [← et]
        match hq : txtR r, hl0 with
        | c :: l, _ => rw [hq] at h1; simpa using h1
      repeat' (with_reducible first | simp (disch := first | assumption | omega | (simp only [go_sem, ne_eq, Nat.reduceAdd, Nat.reduceLeDiff] <;> omega) | fail) only [go_sem, seval, c0', hl0, e0'] | ((first | apply k1 | apply k2 | apply k3 | apply k4 | apply k5 | apply k6 | apply k7) <;> intro hc))
      exact tail _ (by (simp (disch := first | assumption | omega | (simp only [go_sem, ne_eq, Nat.reduceAdd, Nat.reduceLeDiff] <;> omega) | fail) only [go_sem, seval]) <;> exact congrArg _ et) (by (simp (disch := first | assumption | omega | (simp only [go_sem, ne_eq, Nat.reduceAdd, Nat.reduceLeDiff] <;> omega) | fail) only [go_sem, seval, decide_eq_false c3]) <;> rfl)
end
end
end Go.Ae


/- The reference's sums and products of numbers, as texts. -/
set_option linter.unusedVariables false
set_option linter.unusedSimpArgs false
set_option maxRecDepth 100000
set_option maxHeartbeats 2000000
namespace Go.Ae
open Bg N Go.Proofs
noncomputable section
/-- A fraction of at most so many digits to the base 10^9 each. -/
def Br (n : Nat) (r : Rat) : Prop := Lr n r.num ∧ Lr n (r.den : Int)
section
variable {n m : Nat} {a b : Rat}
theorem Br.mono (i : Br n a) (hn : n ≤ m) : Br m a := ⟨i.1.mono hn, i.2.mono hn⟩
theorem Br.of {p q : Int} (hq : q ≠ 0) (hp : Lr n p) (hl : Lr n q) : Br n (Rat.divInt p q) := by
  obtain ⟨h1, h2⟩ := divInt_le (p := p) hq
  exact ⟨hp.le h1, hl.le (by rw [Int.natAbs_natCast]; exact h2)⟩
theorem Br.mul (i : Br n a) (j : Br m b) : Br (n + m) (a * b) := by
  have h1 := den_pos a
  have h2 := den_pos b
  rw [rmul]
  exact Br.of (Int.mul_ne_zero (by omega) (by omega)) (i.1.mul j.1) (i.2.mul j.2)
theorem Br.add (i : Br n a) (j : Br m b) : Br (n + m + 1) (a + b) := by
  have h1 := den_pos a
  have h2 := den_pos b
  rw [radd]
  exact Br.of (Int.mul_ne_zero (by omega) (by omega)) ((i.1.mul j.2).add ((j.1.mul i.2).mono (by omega))) ((i.2.mul j.2).mono (by omega))
theorem Br.neg (i : Br n a) : Br n (-a) := ⟨i.1.neg, i.2⟩
theorem Br.sub (i : Br n a) (j : Br m b) : Br (n + m + 1) (a - b) := by rw [Rat.sub_eq_add_neg]; exact i.add j.neg
theorem Br.inv (i : Br n a) (h0 : a ≠ 0) : Br n a⁻¹ := by
  rw [Rat.inv_def]
  exact Br.of (by rw [ne_eq, Rat.num_eq_zero]; exact h0) i.2 i.1
end
section
variable {h h' hp : Hp} {K : AV → Hp → Prop} {tm : T AV} {r a b : Rat}
theorem prod_small {x y : Int} (hx : x.natAbs < 1000000000) (hy : y.natAbs < 1000000000) : -1000000000000000000 ≤ x * y ∧ x * y ≤ 1000000000000000000 := by
  have h := Int.natAbs_mul x y
  have : x.natAbs * y.natAbs ≤ 1000000000 * 1000000000 := Nat.mul_le_mul (by omega) (by omega)
  omega
theorem ra_slow (i : Br 2000 a) (j : Br 2000 b) (h0 : val tm (.t 0) = .str (txtR a)) (h1 : val tm (.t 1) = .str (txtR b)) :
    Wp E3 (R.a72.code.post 4) ⟨tm, h⟩ (RetQ [.tmp 4] fun v h' => v = .str (txtR (a + b)) ∧ Grs h h') := by
  have hd1 := den_pos a
  have hd2 := den_pos b
  unfold R.a72
  dsimp only [ACode.post]
  repeat' (with_reducible first | simp (disch := first | assumption | omega | (simp only [go_sem, ne_eq, Nat.reduceAdd, Nat.reduceLeDiff] <;> omega) | fail) only [go_sem, seval, h0, h1] | ((first | apply k1 | apply k2 | apply k3 | apply k4 | apply k5 | apply k6 | apply k7) <;> intro hc))
  refine Gp.wp (d124 (i.1.mono (by decide)) (i.2.mono (by decide))) fun v5 k5 a5 b5 u5 ⟨va, vb, e5, I5, I6⟩ => ?_
  subst e5
  obtain ⟨w5, rfl, p5, I5⟩ := I5.ex
  obtain ⟨w6, rfl, p6, I6⟩ := I6.ex
  repeat' (with_reducible first | simp (disch := first | assumption | omega | (simp only [go_sem, ne_eq, Nat.reduceAdd, Nat.reduceLeDiff] <;> omega) | fail) only [go_sem, seval, h0, h1, p5, p6] | ((first | apply k1 | apply k2 | apply k3 | apply k4 | apply k5 | apply k6 | apply k7) <;> intro hc))
  refine Gp.wp (d124 (j.1.mono (by decide)) (j.2.mono (by decide))) fun v7 k7 a7 b7 u7 ⟨va, vb, e7, I7, I8⟩ => ?_
  subst e7
  obtain ⟨w7, rfl, p7, I7⟩ := I7.ex
  obtain ⟨w8, rfl, p8, I8⟩ := I8.ex
  repeat' (with_reducible first | simp (disch := first | assumption | omega | (simp only [go_sem, ne_eq, Nat.reduceAdd, Nat.reduceLeDiff] <;> omega) | fail) only [go_sem, seval, h0, h1, p5, p6, p7, p8] | ((first | apply k1 | apply k2 | apply k3 | apply k4 | apply k5 | apply k6 | apply k7) <;> intro hc))
  refine Gp.wp (d171 (I5.grs (by (try first | refine ⟨trivial, ?_⟩ | refine ⟨rfl, ?_⟩); (repeat (first | exact Grs.refl _ | assumption | refine Grs.push ?_ | refine Grs.ov ?_ | refine Grs.put ?_ (by (try simp only [Hp.next_push, Hp.next_put, Hp.ov_next, Hp.clk_push, Hp.clk_put, Hp.ov_clk]); omega))))) (I8.grs (by (try first | refine ⟨trivial, ?_⟩ | refine ⟨rfl, ?_⟩); (repeat (first | exact Grs.refl _ | assumption | refine Grs.push ?_ | refine Grs.ov ?_ | refine Grs.put ?_ (by (try simp only [Hp.next_push, Hp.next_put, Hp.ov_next, Hp.clk_push, Hp.clk_put, Hp.ov_clk]); omega))))) (i.1.mono (by decide)) (j.2.mono (by decide))) fun v9 k9 a9 b9 u9 I9 => ?_
  obtain ⟨w9, rfl, p9, I9⟩ := I9.ex
  repeat' (with_reducible first | simp (disch := first | assumption | omega | (simp only [go_sem, ne_eq, Nat.reduceAdd, Nat.reduceLeDiff] <;> omega) | fail) only [go_sem, seval, h0, h1, p5, p6, p7, p8, p9] | ((first | apply k1 | apply k2 | apply k3 | apply k4 | apply k5 | apply k6 | apply k7) <;> intro hc))
  refine Gp.wp (d171 (I7.grs (by (try first | refine ⟨trivial, ?_⟩ | refine ⟨rfl, ?_⟩); (repeat (first | exact Grs.refl _ | assumption | refine Grs.push ?_ | refine Grs.ov ?_ | refine Grs.put ?_ (by (try simp only [Hp.next_push, Hp.next_put, Hp.ov_next, Hp.clk_push, Hp.clk_put, Hp.ov_clk]); omega))))) (I6.grs (by (try first | refine ⟨trivial, ?_⟩ | refine ⟨rfl, ?_⟩); (repeat (first | exact Grs.refl _ | assumption | refine Grs.push ?_ | refine Grs.ov ?_ | refine Grs.put ?_ (by (try simp only [Hp.next_push, Hp.next_put, Hp.ov_next, Hp.clk_push, Hp.clk_put, Hp.ov_clk]); omega))))) (j.1.mono (by decide)) (i.2.mono (by decide))) fun v10 k10 a10 b10 u10 I10 => ?_
  obtain ⟨w10, rfl, p10, I10⟩ := I10.ex
  repeat' (with_reducible first | simp (disch := first | assumption | omega | (simp only [go_sem, ne_eq, Nat.reduceAdd, Nat.reduceLeDiff] <;> omega) | fail) only [go_sem, seval, h0, h1, p5, p6, p7, p8, p9, p10] | ((first | apply k1 | apply k2 | apply k3 | apply k4 | apply k5 | apply k6 | apply k7) <;> intro hc))
  refine Gp.wp (d170 (I9.grs (by (try first | refine ⟨trivial, ?_⟩ | refine ⟨rfl, ?_⟩); (repeat (first | exact Grs.refl _ | assumption | refine Grs.push ?_ | refine Grs.ov ?_ | refine Grs.put ?_ (by (try simp only [Hp.next_push, Hp.next_put, Hp.ov_next, Hp.clk_push, Hp.clk_put, Hp.ov_clk]); omega))))) I10 ((i.1.mul j.2).mono (by decide)) ((j.1.mul i.2).mono (by decide))) fun v11 k11 a11 b11 u11 I11 => ?_
  obtain ⟨w11, rfl, p11, I11⟩ := I11.ex
  repeat' (with_reducible first | simp (disch := first | assumption | omega | (simp only [go_sem, ne_eq, Nat.reduceAdd, Nat.reduceLeDiff] <;> omega) | fail) only [go_sem, seval, h0, h1, p5, p6, p7, p8, p9, p10, p11] | ((first | apply k1 | apply k2 | apply k3 | apply k4 | apply k5 | apply k6 | apply k7) <;> intro hc))
  refine Gp.wp (d171 (I6.grs (by (try first | refine ⟨trivial, ?_⟩ | refine ⟨rfl, ?_⟩); (repeat (first | exact Grs.refl _ | assumption | refine Grs.push ?_ | refine Grs.ov ?_ | refine Grs.put ?_ (by (try simp only [Hp.next_push, Hp.next_put, Hp.ov_next, Hp.clk_push, Hp.clk_put, Hp.ov_clk]); omega))))) (I8.grs (by (try first | refine ⟨trivial, ?_⟩ | refine ⟨rfl, ?_⟩); (repeat (first | exact Grs.refl _ | assumption | refine Grs.push ?_ | refine Grs.ov ?_ | refine Grs.put ?_ (by (try simp only [Hp.next_push, Hp.next_put, Hp.ov_next, Hp.clk_push, Hp.clk_put, Hp.ov_clk]); omega))))) (i.2.mono (by decide)) (j.2.mono (by decide))) fun v12 k12 a12 b12 u12 I12 => ?_
  obtain ⟨w12, rfl, p12, I12⟩ := I12.ex
  repeat' (with_reducible first | simp (disch := first | assumption | omega | (simp only [go_sem, ne_eq, Nat.reduceAdd, Nat.reduceLeDiff] <;> omega) | fail) only [go_sem, seval, h0, h1, p5, p6, p7, p8, p9, p10, p11, p12] | ((first | apply k1 | apply k2 | apply k3 | apply k4 | apply k5 | apply k6 | apply k7) <;> intro hc))
  refine Gv.wp (d169 (I11.grs (by (try first | refine ⟨trivial, ?_⟩ | refine ⟨rfl, ?_⟩); (repeat (first | exact Grs.refl _ | assumption | refine Grs.push ?_ | refine Grs.ov ?_ | refine Grs.put ?_ (by (try simp only [Hp.next_push, Hp.next_put, Hp.ov_next, Hp.clk_push, Hp.clk_put, Hp.ov_clk]); omega))))) I12 (((i.1.mul j.2).add (j.1.mul i.2)).mono (by decide)) ((i.2.mul j.2).mono (by decide)) (Int.mul_ne_zero (by omega) (by omega))) fun h13 k13 j13 u13 => ?_
  repeat' (with_reducible first | simp (disch := first | assumption | omega | (simp only [go_sem, ne_eq, Nat.reduceAdd, Nat.reduceLeDiff] <;> omega) | fail) only [go_sem, seval] | ((first | apply k1 | apply k2 | apply k3 | apply k4 | apply k5 | apply k6 | apply k7) <;> intro hc))
  refine ⟨by rw [radd], ?_⟩
  (try first | refine ⟨trivial, ?_⟩ | refine ⟨rfl, ?_⟩); (repeat (first | exact Grs.refl _ | assumption | refine Grs.push ?_ | refine Grs.ov ?_ | refine Grs.put ?_ (by (try simp only [Hp.next_push, Hp.next_put, Hp.ov_next, Hp.clk_push, Hp.clk_put, Hp.ov_clk]); omega)))
theorem d72 (i : Br 2000 a) (j : Br 2000 b) : Gv E3 72 [.str (txtR a), .str (txtR b)] h (.str (txtR (a + b))) := by
  refine Gv.of (CallWp.fn (fn := R.a72) rfl rfl rfl ?_)
  have hd1 := den_pos a
  have hd2 := den_pos b
  have slow := fun tm h0 h1 => ra_slow (h := h) (tm := tm) i j h0 h1
  have cq1 := fun {h : Hp} {K : AV → Hp → Prop} => u168 (h := h) (K := K) (r := a) (i.1.mono (by decide)) (i.2.mono (by decide))
  have cq2 := fun {h : Hp} {K : AV → Hp → Prop} => u168 (h := h) (K := K) (r := b) (j.1.mono (by decide)) (j.2.mono (by decide))
  refine Wp.cut 4 rfl ?_
  generalize ACode.post 4 R.a72.code = q at slow ⊢
  unfold R.a72
  dsimp only [ACode.pre]
  by_cases s1 : a.num.natAbs < 1000000000 ∧ a.den < 1000000000
  · rw [quick_yes s1] at cq1
    by_cases s2 : b.num.natAbs < 1000000000 ∧ b.den < 1000000000
    · rw [quick_yes s2] at cq2
      have m1 := prod_small (x := a.num) (y := (b.den : Int)) s1.1 (by omega)
      have m2 := prod_small (x := b.num) (y := (a.den : Int)) s2.1 (by omega)
      have m3 := prod_small (x := (a.den : Int)) (y := (b.den : Int)) (by omega) (by omega)
      have m0 : 0 < a.den * b.den := Nat.mul_pos hd1 hd2
      have er := radd a b
      rw [← Int.natCast_mul] at m3 er
      have w1 : IntKind.wrap .i64 (a.num * (b.den : Int)) = a.num * b.den := wrap_i64 (by omega)
      have w2 : IntKind.wrap .i64 (b.num * (a.den : Int)) = b.num * a.den := wrap_i64 (by omega)
      have w3 : IntKind.wrap .i64 ((a.den : Int) * (b.den : Int)) = ((a.den * b.den : Nat) : Int) := by rw [← Int.natCast_mul]; exact wrap_i64 (by omega)
      have w4 : IntKind.wrap .i64 (a.num * (b.den : Int) + b.num * (a.den : Int)) = a.num * b.den + b.num * a.den := wrap_i64 (by omega)
      have e3 := d99 (h := h) (x := a.num * b.den + b.num * a.den) (y := a.den * b.den) (by omega) m0 (by omega)
      rw [← er] at e3
      repeat' (with_reducible first | simp (disch := first | assumption | omega | (simp only [go_sem, ne_eq, Nat.reduceAdd, Nat.reduceLeDiff] <;> omega) | fail) only [go_sem, seval, cq1, cq2, w1, w2, w3, w4] | (refine Gv.wp (e3) fun _ _ _ _ => ?_) | ((first | apply k1 | apply k2 | apply k3 | apply k4 | apply k5 | apply k6 | apply k7) <;> intro hc))
      (try first | refine ⟨trivial, ?_⟩ | refine ⟨rfl, ?_⟩); (repeat (first | exact Grs.refl _ | assumption | refine Grs.push ?_ | refine Grs.ov ?_ | refine Grs.put ?_ (by (try simp only [Hp.next_push, Hp.next_put, Hp.ov_next, Hp.clk_push, Hp.clk_put, Hp.ov_clk]); omega)))
    · rw [quick_no s2] at cq2
      repeat' (with_reducible first | simp (disch := first | assumption | omega | (simp only [go_sem, ne_eq, Nat.reduceAdd, Nat.reduceLeDiff] <;> omega) | fail) only [go_sem, seval, cq1, cq2] | ((first | apply k1 | apply k2 | apply k3 | apply k4 | apply k5 | apply k6 | apply k7) <;> intro hc))
      exact slow _ (by simp (disch := first | assumption | omega | (simp only [go_sem, ne_eq, Nat.reduceAdd, Nat.reduceLeDiff] <;> omega) | fail) only [go_sem, seval]) (by simp (disch := first | assumption | omega | (simp only [go_sem, ne_eq, Nat.reduceAdd, Nat.reduceLeDiff] <;> omega) | fail) only [go_sem, seval])
  · rw [quick_no s1] at cq1
    by_cases s2 : b.num.natAbs < 1000000000 ∧ b.den < 1000000000
    · rw [quick_yes s2] at cq2
      repeat' (with_reducible first | simp (disch := first | assumption | omega | (simp only [go_sem, ne_eq, Nat.reduceAdd, Nat.reduceLeDiff] <;> omega) | fail) only [go_sem, seval, cq1, cq2] | ((first | apply k1 | apply k2 | apply k3 | apply k4 | apply k5 | apply k6 | apply k7) <;> intro hc))
      exact slow _ (by simp (disch := first | assumption | omega | (simp only [go_sem, ne_eq, Nat.reduceAdd, Nat.reduceLeDiff] <;> omega) | fail) only [go_sem, seval]) (by simp (disch := first | assumption | omega | (simp only [go_sem, ne_eq, Nat.reduceAdd, Nat.reduceLeDiff] <;> omega) | fail) only [go_sem, seval])
    · rw [quick_no s2] at cq2
      repeat' (with_reducible first | simp (disch := first | assumption | omega | (simp only [go_sem, ne_eq, Nat.reduceAdd, Nat.reduceLeDiff] <;> omega) | fail) only [go_sem, seval, cq1, cq2] | ((first | apply k1 | apply k2 | apply k3 | apply k4 | apply k5 | apply k6 | apply k7) <;> intro hc))
      exact slow _ (by simp (disch := first | assumption | omega | (simp only [go_sem, ne_eq, Nat.reduceAdd, Nat.reduceLeDiff] <;> omega) | fail) only [go_sem, seval]) (by simp (disch := first | assumption | omega | (simp only [go_sem, ne_eq, Nat.reduceAdd, Nat.reduceLeDiff] <;> omega) | fail) only [go_sem, seval])
theorem d73 (i : Br 2000 a) (j : Br 2000 b) : Gv E3 73 [.str (txtR a), .str (txtR b)] h (.str (txtR (a - b))) := by
  refine Gv.of (CallWp.fn (fn := R.a73) rfl rfl rfl ?_)
  unfold R.a73
  rw [Rat.sub_eq_add_neg]
  repeat' (with_reducible first | simp (disch := first | assumption | omega | (simp only [go_sem, ne_eq, Nat.reduceAdd, Nat.reduceLeDiff] <;> omega) | fail) only [go_sem, seval] | ((first | apply k1 | apply k2 | apply k3 | apply k4 | apply k5 | apply k6 | apply k7) <;> intro hc))
  refine Gv.wp (d172 (j.1.mono (by decide)) (j.2.mono (by decide))) fun h1 k1 j1 u1 => ?_
  repeat' (with_reducible first | simp (disch := first | assumption | omega | (simp only [go_sem, ne_eq, Nat.reduceAdd, Nat.reduceLeDiff] <;> omega) | fail) only [go_sem, seval] | ((first | apply k1 | apply k2 | apply k3 | apply k4 | apply k5 | apply k6 | apply k7) <;> intro hc))
  refine Gv.wp (d72 i j.neg) fun h2 k2 j2 u2 => ?_
  repeat' (with_reducible first | simp (disch := first | assumption | omega | (simp only [go_sem, ne_eq, Nat.reduceAdd, Nat.reduceLeDiff] <;> omega) | fail) only [go_sem, seval] | ((first | apply k1 | apply k2 | apply k3 | apply k4 | apply k5 | apply k6 | apply k7) <;> intro hc))
  (try first | refine ⟨trivial, ?_⟩ | refine ⟨rfl, ?_⟩); (repeat (first | exact Grs.refl _ | assumption | refine Grs.push ?_ | refine Grs.ov ?_ | refine Grs.put ?_ (by (try simp only [Hp.next_push, Hp.next_put, Hp.ov_next, Hp.clk_push, Hp.clk_put, Hp.ov_clk]); omega)))
theorem rm_slow (i : Br 2000 a) (j : Br 2000 b) (h0 : val tm (.t 0) = .str (txtR a)) (h1 : val tm (.t 1) = .str (txtR b)) :
    Wp E3 (R.a74.code.post 4) ⟨tm, h⟩ (RetQ [.tmp 4] fun v h' => v = .str (txtR (a * b)) ∧ Grs h h') := by
  have hd1 := den_pos a
  have hd2 := den_pos b
  unfold R.a74
  dsimp only [ACode.post]
  repeat' (with_reducible first | simp (disch := first | assumption | omega | (simp only [go_sem, ne_eq, Nat.reduceAdd, Nat.reduceLeDiff] <;> omega) | fail) only [go_sem, seval, h0, h1] | ((first | apply k1 | apply k2 | apply k3 | apply k4 | apply k5 | apply k6 | apply k7) <;> intro hc))
  refine Gp.wp (d124 (i.1.mono (by decide)) (i.2.mono (by decide))) fun v5 k5 a5 b5 u5 ⟨va, vb, e5, I5, I6⟩ => ?_
  subst e5
  obtain ⟨w5, rfl, p5, I5⟩ := I5.ex
  obtain ⟨w6, rfl, p6, I6⟩ := I6.ex
  repeat' (with_reducible first | simp (disch := first | assumption | omega | (simp only [go_sem, ne_eq, Nat.reduceAdd, Nat.reduceLeDiff] <;> omega) | fail) only [go_sem, seval, h0, h1, p5, p6] | ((first | apply k1 | apply k2 | apply k3 | apply k4 | apply k5 | apply k6 | apply k7) <;> intro hc))
  refine Gp.wp (d124 (j.1.mono (by decide)) (j.2.mono (by decide))) fun v7 k7 a7 b7 u7 ⟨va, vb, e7, I7, I8⟩ => ?_
  subst e7
  obtain ⟨w7, rfl, p7, I7⟩ := I7.ex
  obtain ⟨w8, rfl, p8, I8⟩ := I8.ex
  repeat' (with_reducible first | simp (disch := first | assumption | omega | (simp only [go_sem, ne_eq, Nat.reduceAdd, Nat.reduceLeDiff] <;> omega) | fail) only [go_sem, seval, h0, h1, p5, p6, p7, p8] | ((first | apply k1 | apply k2 | apply k3 | apply k4 | apply k5 | apply k6 | apply k7) <;> intro hc))
  refine Gp.wp (d171 (I5.grs (by (try first | refine ⟨trivial, ?_⟩ | refine ⟨rfl, ?_⟩); (repeat (first | exact Grs.refl _ | assumption | refine Grs.push ?_ | refine Grs.ov ?_ | refine Grs.put ?_ (by (try simp only [Hp.next_push, Hp.next_put, Hp.ov_next, Hp.clk_push, Hp.clk_put, Hp.ov_clk]); omega))))) (I7.grs (by (try first | refine ⟨trivial, ?_⟩ | refine ⟨rfl, ?_⟩); (repeat (first | exact Grs.refl _ | assumption | refine Grs.push ?_ | refine Grs.ov ?_ | refine Grs.put ?_ (by (try simp only [Hp.next_push, Hp.next_put, Hp.ov_next, Hp.clk_push, Hp.clk_put, Hp.ov_clk]); omega))))) (i.1.mono (by decide)) (j.1.mono (by decide))) fun v9 k9 a9 b9 u9 I9 => ?_
  obtain ⟨w9, rfl, p9, I9⟩ := I9.ex
  repeat' (with_reducible first | simp (disch := first | assumption | omega | (simp only [go_sem, ne_eq, Nat.reduceAdd, Nat.reduceLeDiff] <;> omega) | fail) only [go_sem, seval, h0, h1, p5, p6, p7, p8, p9] | ((first | apply k1 | apply k2 | apply k3 | apply k4 | apply k5 | apply k6 | apply k7) <;> intro hc))
  refine Gp.wp (d171 (I6.grs (by (try first | refine ⟨trivial, ?_⟩ | refine ⟨rfl, ?_⟩); (repeat (first | exact Grs.refl _ | assumption | refine Grs.push ?_ | refine Grs.ov ?_ | refine Grs.put ?_ (by (try simp only [Hp.next_push, Hp.next_put, Hp.ov_next, Hp.clk_push, Hp.clk_put, Hp.ov_clk]); omega))))) (I8.grs (by (try first | refine ⟨trivial, ?_⟩ | refine ⟨rfl, ?_⟩); (repeat (first | exact Grs.refl _ | assumption | refine Grs.push ?_ | refine Grs.ov ?_ | refine Grs.put ?_ (by (try simp only [Hp.next_push, Hp.next_put, Hp.ov_next, Hp.clk_push, Hp.clk_put, Hp.ov_clk]); omega))))) (i.2.mono (by decide)) (j.2.mono (by decide))) fun v12 k12 a12 b12 u12 I12 => ?_
  obtain ⟨w12, rfl, p12, I12⟩ := I12.ex
  repeat' (with_reducible first | simp (disch := first | assumption | omega | (simp only [go_sem, ne_eq, Nat.reduceAdd, Nat.reduceLeDiff] <;> omega) | fail) only [go_sem, seval, h0, h1, p5, p6, p7, p8, p9, p12] | ((first | apply k1 | apply k2 | apply k3 | apply k4 | apply k5 | apply k6 | apply k7) <;> intro hc))
  refine Gv.wp (d169 (I9.grs (by (try first | refine ⟨trivial, ?_⟩ | refine ⟨rfl, ?_⟩); (repeat (first | exact Grs.refl _ | assumption | refine Grs.push ?_ | refine Grs.ov ?_ | refine Grs.put ?_ (by (try simp only [Hp.next_push, Hp.next_put, Hp.ov_next, Hp.clk_push, Hp.clk_put, Hp.ov_clk]); omega))))) I12 ((i.1.mul j.1).mono (by decide)) ((i.2.mul j.2).mono (by decide)) (Int.mul_ne_zero (by omega) (by omega))) fun h13 k13 j13 u13 => ?_
  repeat' (with_reducible first | simp (disch := first | assumption | omega | (simp only [go_sem, ne_eq, Nat.reduceAdd, Nat.reduceLeDiff] <;> omega) | fail) only [go_sem, seval] | ((first | apply k1 | apply k2 | apply k3 | apply k4 | apply k5 | apply k6 | apply k7) <;> intro hc))
  refine ⟨by rw [rmul], ?_⟩
  (try first | refine ⟨trivial, ?_⟩ | refine ⟨rfl, ?_⟩); (repeat (first | exact Grs.refl _ | assumption | refine Grs.push ?_ | refine Grs.ov ?_ | refine Grs.put ?_ (by (try simp only [Hp.next_push, Hp.next_put, Hp.ov_next, Hp.clk_push, Hp.clk_put, Hp.ov_clk]); omega)))
theorem d74 (i : Br 2000 a) (j : Br 2000 b) : Gv E3 74 [.str (txtR a), .str (txtR b)] h (.str (txtR (a * b))) := by
  refine Gv.of (CallWp.fn (fn := R.a74) rfl rfl rfl ?_)
  have hd1 := den_pos a
  have hd2 := den_pos b
  have slow := fun tm h0 h1 => rm_slow (h := h) (tm := tm) i j h0 h1
  have cq1 := fun {h : Hp} {K : AV → Hp → Prop} => u168 (h := h) (K := K) (r := a) (i.1.mono (by decide)) (i.2.mono (by decide))
  have cq2 := fun {h : Hp} {K : AV → Hp → Prop} => u168 (h := h) (K := K) (r := b) (j.1.mono (by decide)) (j.2.mono (by decide))
  refine Wp.cut 4 rfl ?_
  generalize ACode.post 4 R.a74.code = q at slow ⊢
  unfold R.a74
  dsimp only [ACode.pre]
  by_cases s1 : a.num.natAbs < 1000000000 ∧ a.den < 1000000000
  · rw [quick_yes s1] at cq1
    by_cases s2 : b.num.natAbs < 1000000000 ∧ b.den < 1000000000
    · rw [quick_yes s2] at cq2
      have m1 := prod_small (x := a.num) (y := b.num) s1.1 s2.1
      have m3 := prod_small (x := (a.den : Int)) (y := (b.den : Int)) (by omega) (by omega)
      have m0 : 0 < a.den * b.den := Nat.mul_pos hd1 hd2
      have er := rmul a b
      rw [← Int.natCast_mul] at m3 er
      have w1 : IntKind.wrap .i64 (a.num * b.num) = a.num * b.num := wrap_i64 (by omega)
      have w3 : IntKind.wrap .i64 ((a.den : Int) * (b.den : Int)) = ((a.den * b.den : Nat) : Int) := by rw [← Int.natCast_mul]; exact wrap_i64 (by omega)
      have e3 := d99 (h := h) (x := a.num * b.num) (y := a.den * b.den) (by omega) m0 (by omega)
      rw [← er] at e3
      repeat' (with_reducible first | simp (disch := first | assumption | omega | (simp only [go_sem, ne_eq, Nat.reduceAdd, Nat.reduceLeDiff] <;> omega) | fail) only [go_sem, seval, cq1, cq2, w1, w3] | (refine Gv.wp (e3) fun _ _ _ _ => ?_) | ((first | apply k1 | apply k2 | apply k3 | apply k4 | apply k5 | apply k6 | apply k7) <;> intro hc))
      (try first | refine ⟨trivial, ?_⟩ | refine ⟨rfl, ?_⟩); (repeat (first | exact Grs.refl _ | assumption | refine Grs.push ?_ | refine Grs.ov ?_ | refine Grs.put ?_ (by (try simp only [Hp.next_push, Hp.next_put, Hp.ov_next, Hp.clk_push, Hp.clk_put, Hp.ov_clk]); omega)))
    · rw [quick_no s2] at cq2
      repeat' (with_reducible first | simp (disch := first | assumption | omega | (simp only [go_sem, ne_eq, Nat.reduceAdd, Nat.reduceLeDiff] <;> omega) | fail) only [go_sem, seval, cq1, cq2] | ((first | apply k1 | apply k2 | apply k3 | apply k4 | apply k5 | apply k6 | apply k7) <;> intro hc))
      exact slow _ (by simp (disch := first | assumption | omega | (simp only [go_sem, ne_eq, Nat.reduceAdd, Nat.reduceLeDiff] <;> omega) | fail) only [go_sem, seval]) (by simp (disch := first | assumption | omega | (simp only [go_sem, ne_eq, Nat.reduceAdd, Nat.reduceLeDiff] <;> omega) | fail) only [go_sem, seval])
  · rw [quick_no s1] at cq1
    by_cases s2 : b.num.natAbs < 1000000000 ∧ b.den < 1000000000
    · rw [quick_yes s2] at cq2
      repeat' (with_reducible first | simp (disch := first | assumption | omega | (simp only [go_sem, ne_eq, Nat.reduceAdd, Nat.reduceLeDiff] <;> omega) | fail) only [go_sem, seval, cq1, cq2] | ((first | apply k1 | apply k2 | apply k3 | apply k4 | apply k5 | apply k6 | apply k7) <;> intro hc))
      exact slow _ (by simp (disch := first | assumption | omega | (simp only [go_sem, ne_eq, Nat.reduceAdd, Nat.reduceLeDiff] <;> omega) | fail) only [go_sem, seval]) (by simp (disch := first | assumption | omega | (simp only [go_sem, ne_eq, Nat.reduceAdd, Nat.reduceLeDiff] <;> omega) | fail) only [go_sem, seval])
    · rw [quick_no s2] at cq2
      repeat' (with_reducible first | simp (disch := first | assumption | omega | (simp only [go_sem, ne_eq, Nat.reduceAdd, Nat.reduceLeDiff] <;> omega) | fail) only [go_sem, seval, cq1, cq2] | ((first | apply k1 | apply k2 | apply k3 | apply k4 | apply k5 | apply k6 | apply k7) <;> intro hc))
      exact slow _ (by simp (disch := first | assumption | omega | (simp only [go_sem, ne_eq, Nat.reduceAdd, Nat.reduceLeDiff] <;> omega) | fail) only [go_sem, seval]) (by simp (disch := first | assumption | omega | (simp only [go_sem, ne_eq, Nat.reduceAdd, Nat.reduceLeDiff] <;> omega) | fail) only [go_sem, seval])
/-- The sign of a number, as a machine integer. -/
def sgR (r : Rat) : Int := if r.num < 0 then -1 else if r.num = 0 then 0 else 1
theorem d75 (i : Br 2000 a) (j : Br 2000 b) : Gv E3 75 [.str (txtR a), .str (txtR b)] h (.int .i64 (sgR (a - b))) := by
  refine Gv.of (CallWp.fn (fn := R.a75) rfl rfl rfl ?_)
  unfold R.a75
  have hk := (i.sub j)
  obtain ⟨t1, t2⟩ := txtR_le hk.1 hk.2
  have cs := fun {h : Hp} {K : AV → Hp → Prop} => c21 (h := h) (K := K) (s := txtR (a - b)) (by omega)
  have hs : sgnS (txtR (a - b)) = sgR (a - b) := sgn_txtR _
  repeat' (with_reducible first | simp (disch := first | assumption | omega | (simp only [go_sem, ne_eq, Nat.reduceAdd, Nat.reduceLeDiff] <;> omega) | fail) only [go_sem, seval] | ((first | apply k1 | apply k2 | apply k3 | apply k4 | apply k5 | apply k6 | apply k7) <;> intro hc))
  refine Gv.wp (d73 i j) fun h1 k1 j1 u1 => ?_
  repeat' (with_reducible first | simp (disch := first | assumption | omega | (simp only [go_sem, ne_eq, Nat.reduceAdd, Nat.reduceLeDiff] <;> omega) | fail) only [go_sem, seval, cs, hs] | ((first | apply k1 | apply k2 | apply k3 | apply k4 | apply k5 | apply k6 | apply k7) <;> intro hc))
  (try first | refine ⟨trivial, ?_⟩ | refine ⟨rfl, ?_⟩); (repeat (first | exact Grs.refl _ | assumption | refine Grs.push ?_ | refine Grs.ov ?_ | refine Grs.put ?_ (by (try simp only [Hp.next_push, Hp.next_put, Hp.ov_next, Hp.clk_push, Hp.clk_put, Hp.ov_clk]); omega)))
end
end
end Go.Ae


/- The reference's check of a number's text. -/
set_option linter.unusedVariables false
set_option linter.unusedSimpArgs false
set_option maxRecDepth 100000
set_option exponentiation.threshold 1000
set_option maxHeartbeats 2000000
namespace Go.Ae
open Bg N Go.Proofs
noncomputable section
section
variable {h h' hp : Hp} {K : AV → Hp → Prop} {tm : T AV} {r a b : Rat}
theorem u151 {s : List UInt8} (hs : s.length ≤ 1000000) : CallWp E3 151 [.str s] h K ↔ K (.bool (allDig s)) h := up ge3 fun K => c151 hs
theorem isDec_of {s : List UInt8} (h0 : s ≠ []) (h1 : s.length = 1 ∨ s.headD 0 ≠ 48) : isDec s = allDig s := by
  cases ha : allDig s with
  | true =>
    refine isDec_mk h0 ha ?_
    rcases h1 with h1 | h1
    · match s, h1 with
      | [c], _ =>
        by_cases hc : c = 48
        · exact .inr (by rw [hc])
        · exact .inl (by simpa using hc)
    · exact .inl h1
  | false => unfold isDec; rw [ha]; simp
theorem isDec_no {s : List UInt8} (h1 : 1 < s.length) (h2 : s.headD 0 = 48) : isDec s = false := by
  cases hd : isDec s with
  | false => rfl
  | true =>
    rcases (isDec_cases hd).2.2 with e | e
    · exact absurd h2 e
    · rw [e] at h1; exact absurd h1 (by decide)
theorem u123 {s : List UInt8} (hs : s.length ≤ 1000000) : CallWp E3 123 [.str s] h K ↔ K (.bool (isDec s)) h := by
  refine CallWp.iff_of (CallWp.fn (fn := R.a123) rfl rfl rfl ?_)
  unfold R.a123
  have cd := fun {h : Hp} {K : AV → Hp → Prop} => u151 (h := h) (K := K) hs
  by_cases h0 : s = []
  · subst h0
    have e0 : isDec [] = false := by decide
    rw [e0]
    repeat' (with_reducible first | simp (disch := first | assumption | omega | (simp only [go_sem, ne_eq, Nat.reduceAdd, Nat.reduceLeDiff] <;> omega) | fail) only [go_sem, seval, List.length_nil] | ((first | apply k1 | apply k2 | apply k3 | apply k4 | apply k5 | apply k6 | apply k7) <;> intro hc))
  · have hl : 0 < s.length := List.length_pos_iff.2 h0
    have hl0 : ¬ (s.length : Int) = 0 := by omega
    have eh : s.getD 0 0 = s.headD 0 := by cases s <;> rfl
    by_cases h1 : 1 < s.length
    · have h1' : (1 : Int) < s.length := by omega
      have hl' : (0 : Int) < s.length := by omega
      have e1 : ((s.getD 0 0).toNat : Int) = 48 ↔ s.getD 0 0 = 48 := u8_int (n := 48) (by decide)
      by_cases h2 : s.getD 0 0 = 48
      · have h2' := e1.2 h2
        rw [isDec_no h1 (by rw [← eh]; exact h2)]
        repeat' (with_reducible first | simp (disch := first | assumption | omega | (simp only [go_sem, ne_eq, Nat.reduceAdd, Nat.reduceLeDiff] <;> omega) | fail) only [go_sem, seval, hl0, h1', hl', h2'] | ((first | apply k1 | apply k2 | apply k3 | apply k4 | apply k5 | apply k6 | apply k7) <;> intro hc))
      · have h2' := fun e => h2 (e1.1 e)
        rw [isDec_of h0 (.inr (by rw [← eh]; exact h2))]
        repeat' (with_reducible first | simp (disch := first | assumption | omega | (simp only [go_sem, ne_eq, Nat.reduceAdd, Nat.reduceLeDiff] <;> omega) | fail) only [go_sem, seval, hl0, h1', hl', h2', cd] | ((first | apply k1 | apply k2 | apply k3 | apply k4 | apply k5 | apply k6 | apply k7) <;> intro hc))
    · have h1' : ¬ (1 : Int) < s.length := by omega
      rw [isDec_of h0 (.inl (by omega))]
      repeat' (with_reducible first | simp (disch := first | assumption | omega | (simp only [go_sem, ne_eq, Nat.reduceAdd, Nat.reduceLeDiff] <;> omega) | fail) only [go_sem, seval, hl0, h1', cd] | ((first | apply k1 | apply k2 | apply k3 | apply k4 | apply k5 | apply k6 | apply k7) <;> intro hc))
theorem d124g {x y : Int} (l1 : Lr 9000 x) (l2 : Lr 9000 y) : Gp E3 124 [.str (txtZ x ++ 47 :: txtZ y)] h fun v h' => ∃ va vb, v = .tup [va, vb] ∧ IsR h' va x ∧ IsR h' vb y := by
  refine Gp.of (CallWp.fn (fn := R.a124) rfl rfl rfl ?_)
  unfold R.a124
  have t1 := txtZ_len l1
  have t2 := txtZ_len l2
  have hsl : slashV (txtZ x ++ 47 :: txtZ y) = (txtZ x).length := by
    refine slash_at (by simp) (fun j hj e => ?_) ?_
    · refine txtZ_no x (getD_mem (i := j) hj ?_)
      rw [← e]
      simp only [List.getD]
      rw [List.getElem?_append_left hj]
    · simp [List.getD]
  have hlen : (txtZ x ++ 47 :: txtZ y).length = (txtZ x).length + ((txtZ y).length + 1) := by simp
  have cs := fun {h : Hp} {K : AV → Hp → Prop} => c122 (h := h) (K := K) (s := txtZ x ++ 47 :: txtZ y) (by omega)
  have hne : ¬ ((txtZ x).length : Int) = ((txtZ x).length + ((txtZ y).length + 1) : Nat) := by omega
  have k1 : List.take (txtZ x).length (txtZ x ++ 47 :: txtZ y) = txtZ x := List.take_left
  have e1 : (((txtZ x).length : Int) + 1).toNat = (txtZ x).length + 1 := by omega
  have k2 : List.drop ((txtZ x).length + 1) (txtZ x ++ 47 :: txtZ y) = txtZ y := by
    rw [← List.drop_drop, List.drop_left]; rfl
  repeat' (with_reducible first | simp (disch := first | assumption | omega | (simp only [go_sem, ne_eq, Nat.reduceAdd, Nat.reduceLeDiff] <;> omega) | fail) only [go_sem, seval, cs, hsl, hne, k1, e1, k2] | ((first | apply k1 | apply k2 | apply k3 | apply k4 | apply k5 | apply k6 | apply k7) <;> intro hc))
  refine Gp.wp (d207z l1 (by decide)) fun v5 k5 a5 b5 u5 I5 => ?_
  obtain ⟨w5, rfl, p5, I5⟩ := I5.ex
  repeat' (with_reducible first | simp (disch := first | assumption | omega | (simp only [go_sem, ne_eq, Nat.reduceAdd, Nat.reduceLeDiff] <;> omega) | fail) only [go_sem, seval, p5, k1, e1, k2] | ((first | apply k1 | apply k2 | apply k3 | apply k4 | apply k5 | apply k6 | apply k7) <;> intro hc))
  refine Gp.wp (d207z l2 (by decide)) fun v6 k6 a6 b6 u6 I6 => ?_
  obtain ⟨w6, rfl, p6, I6⟩ := I6.ex
  have I5' := I5.grs (⟨_, _, u6⟩ : Grs _ ((((h.push fun st => .row [.bool false, .nils] true st).push fun st => .row [.bool false, .nils] true st).ov k5 u5).ov k6 u6))
  repeat' (with_reducible first | simp (disch := first | assumption | omega | (simp only [go_sem, ne_eq, Nat.reduceAdd, Nat.reduceLeDiff] <;> omega) | fail) only [go_sem, seval, p5, p6] | ((first | apply k1 | apply k2 | apply k3 | apply k4 | apply k5 | apply k6 | apply k7) <;> intro hc))
  refine ⟨⟨_, _, rfl, ?_, ?_⟩, ?_⟩
  · exact (I5'.putB (by simp (disch := first | assumption | omega | (simp only [go_sem, ne_eq, Nat.reduceAdd, Nat.reduceLeDiff] <;> omega) | fail) only [go_sem, seval, isCellB_row])).putB (by simp (disch := first | assumption | omega | (simp only [go_sem, ne_eq, Nat.reduceAdd, Nat.reduceLeDiff] <;> omega) | fail) only [go_sem, seval, isCellB_row])
  · exact (I6.putB (by simp (disch := first | assumption | omega | (simp only [go_sem, ne_eq, Nat.reduceAdd, Nat.reduceLeDiff] <;> omega) | fail) only [go_sem, seval, isCellB_row])).putB (by simp (disch := first | assumption | omega | (simp only [go_sem, ne_eq, Nat.reduceAdd, Nat.reduceLeDiff] <;> omega) | fail) only [go_sem, seval, isCellB_row])
  · (try first | refine ⟨trivial, ?_⟩ | refine ⟨rfl, ?_⟩); (repeat (first | exact Grs.refl _ | assumption | refine Grs.push ?_ | refine Grs.ov ?_ | refine Grs.put ?_ (by (try simp only [Hp.next_push, Hp.next_put, Hp.ov_next, Hp.clk_push, Hp.clk_put, Hp.ov_clk]); omega)))
theorem Lr_dec {l : List UInt8} (hd : isDec l = true) (hl : l.length ≤ 600) : Lr 67 (decV l : Nat) := by
  unfold Lr
  rw [Int.natAbs_natCast]
  have h1 := decV_lt (isDec_cases hd).2.1
  have h2 : (10 : Nat) ^ l.length ≤ 10 ^ 603 := Nat.pow_le_pow_right (by decide) (by omega)
  have h3 : (10 : Nat) ^ 603 = 1000000000 ^ 67 := by rw [show (1000000000 : Nat) = 10 ^ 9 from rfl, ← Nat.pow_mul]
  omega
theorem num_len (s : List UInt8) : (numU s).length = slashV (unS s) := by
  have := slash_le (unS s)
  unfold numU; rw [List.length_take]; omega
theorem den_len (s : List UInt8) : (denU s).length = (unS s).length - (slashV (unS s) + 1) := by
  unfold denU; rw [List.length_drop]
/-- What follows when the numerator has its form. -/
theorem chk_rest {N D t : List UInt8} {k : Nat} {bk : Bool} (h3 : val tm (.t 3) = .str t) (h4 : val tm (.t 4) = .int .i64 k) (hl : t.length ≤ 1000000) (hk : k ≤ t.length) (nl : N.length = k) (dl : D.length = t.length - (k + 1))
    (k2 : List.drop (k + 1) t = D) (ebrk : bk = decide (k < t.length)) (hsp : bk = true → t = N ++ 47 :: D) (hdn : isDec N = true) :
    Wp E3 (ACode.post 2 (ACode.post 3 R.a19.code)) ⟨tm, h⟩ (RetQ [.tmp 2] fun v h' => (v = .int .i64 (if (true && true && (!bk || (isDec D && decide (D ≠ [48]) && decide (D ≠ [49])))) = false then 1 else if 600 < N.length ∨ 600 < D.length then 4 else if bk = true ∧ Nat.gcd (decV N) (decV D) ≠ 1 then 1 else 0)) ∧ Grs h h') := by
  have e1 : ((k : Int) + 1).toNat = k + 1 := by omega
  have cd := fun {h : Hp} {K : AV → Hp → Prop} => u123 (h := h) (K := K) (s := D) (by omega)
  subst ebrk
  unfold R.a19
  dsimp only [ACode.post]
  by_cases hb : k < t.length
  · have hb' : (k : Int) < t.length := by omega
    have hb1 : (k : Int) + 1 ≤ t.length := by omega
    rw [decide_eq_true hb]
    cases hdd : isDec D with
    | false =>
      rw [hdd] at cd
      repeat' (with_reducible first | simp (disch := first | assumption | omega | (simp only [go_sem, ne_eq, Nat.reduceAdd, Nat.reduceLeDiff] <;> omega) | fail) only [go_sem, seval, h3, h4, hb', hb1, e1, k2, cd] | ((first | apply k1 | apply k2 | apply k3 | apply k4 | apply k5 | apply k6 | apply k7) <;> intro hc))
      simp
    | true =>
      rw [hdd] at cd
      by_cases g0 : D = [48]
      · rw [g0] at cd
        repeat' (with_reducible first | simp (disch := first | assumption | omega | (simp only [go_sem, ne_eq, Nat.reduceAdd, Nat.reduceLeDiff] <;> omega) | fail) only [go_sem, seval, h3, h4, hb', hb1, e1, k2, cd, g0] | ((first | apply k1 | apply k2 | apply k3 | apply k4 | apply k5 | apply k6 | apply k7) <;> intro hc))
        simp
      · by_cases g1 : D = [49]
        · have g1' : ¬ ([49] : List UInt8) = [48] := by decide
          rw [g1] at g0 cd
          repeat' (with_reducible first | simp (disch := first | assumption | omega | (simp only [go_sem, ne_eq, Nat.reduceAdd, Nat.reduceLeDiff] <;> omega) | fail) only [go_sem, seval, h3, h4, hb', hb1, e1, k2, cd, g1, g0] | ((first | apply k1 | apply k2 | apply k3 | apply k4 | apply k5 | apply k6 | apply k7) <;> intro hc))
          simp
        · have ef : (true && true && (!true || (true && decide (D ≠ [48]) && decide (D ≠ [49])))) = true := by simp [g0, g1]
          rw [ef, if_neg (by decide)]
          by_cases hL : 600 < N.length ∨ 600 < D.length
          · rw [if_pos hL]
            by_cases hLn : 600 < k
            · have hLn' : (600 : Int) < k := by omega
              repeat' (with_reducible first | simp (disch := first | assumption | omega | (simp only [go_sem, ne_eq, Nat.reduceAdd, Nat.reduceLeDiff] <;> omega) | fail) only [go_sem, seval, h3, h4, hb', hb1, e1, k2, cd, g0, g1, hLn'] | ((first | apply k1 | apply k2 | apply k3 | apply k4 | apply k5 | apply k6 | apply k7) <;> intro hc))
            · have hLn' : ¬ (600 : Int) < k := by omega
              have hLd' : (600 : Int) < (t.length : Int) - k - 1 := by omega
              repeat' (with_reducible first | simp (disch := first | assumption | omega | (simp only [go_sem, ne_eq, Nat.reduceAdd, Nat.reduceLeDiff] <;> omega) | fail) only [go_sem, seval, h3, h4, hb', hb1, e1, k2, cd, g0, g1, hLn', hLd'] | ((first | apply k1 | apply k2 | apply k3 | apply k4 | apply k5 | apply k6 | apply k7) <;> intro hc))
          · rw [if_neg hL]
            have hLn' : ¬ (600 : Int) < k := by omega
            have hLd' : ¬ (600 : Int) < (t.length : Int) - k - 1 := by omega
            have lN := Lr_dec hdn (by omega)
            have lD := Lr_dec hdd (by omega)
            have et : t = txtZ (decV N : Nat) ++ 47 :: txtZ (decV D : Nat) := by
              rw [txtZ_nat, txtZ_nat, isDec_eq hdn, isDec_eq hdd]
              exact hsp (decide_eq_true hb)
            have cp := fun h => d124g (h := h) (lN.mono (by decide : 67 ≤ 9000)) (lD.mono (by decide : 67 ≤ 9000))
            rw [← et] at cp
            repeat' (with_reducible first | simp (disch := first | assumption | omega | (simp only [go_sem, ne_eq, Nat.reduceAdd, Nat.reduceLeDiff] <;> omega) | fail) only [go_sem, seval, h3, h4, hb', hb1, e1, k2, cd, g0, g1, hLn', hLd'] | ((first | apply k1 | apply k2 | apply k3 | apply k4 | apply k5 | apply k6 | apply k7) <;> intro hc))
            refine Gp.wp (cp _) fun v5 k5 a5 b5 u5 ⟨va, vb, e5, I5, I6⟩ => ?_
            subst e5
            obtain ⟨w5, rfl, p5, I5⟩ := I5.ex
            obtain ⟨w6, rfl, p6, I6⟩ := I6.ex
            obtain ⟨l1, S1, D1, N1, V1⟩ := I5.un
            obtain ⟨l2, S2, D2, N2, V2⟩ := I6.un
            have m1 := lN.len N1 V1
            have m2 := lD.len N2 V2
            repeat' (with_reducible first | simp (disch := first | assumption | omega | (simp only [go_sem, ne_eq, Nat.reduceAdd, Nat.reduceLeDiff] <;> omega) | fail) only [go_sem, seval, p5, p6] | ((first | apply k1 | apply k2 | apply k3 | apply k4 | apply k5 | apply k6 | apply k7) <;> intro hc))
            refine Gp.wp (d125 (S1.grs (by (try first | refine ⟨trivial, ?_⟩ | refine ⟨rfl, ?_⟩); (repeat (first | exact Grs.refl _ | assumption | refine Grs.push ?_ | refine Grs.ov ?_ | refine Grs.put ?_ (by (try simp only [Hp.next_push, Hp.next_put, Hp.ov_next, Hp.clk_push, Hp.clk_put, Hp.ov_clk]); omega))))) (S2.grs (by (try first | refine ⟨trivial, ?_⟩ | refine ⟨rfl, ?_⟩); (repeat (first | exact Grs.refl _ | assumption | refine Grs.push ?_ | refine Grs.ov ?_ | refine Grs.put ?_ (by (try simp only [Hp.next_push, Hp.next_put, Hp.ov_next, Hp.clk_push, Hp.clk_put, Hp.ov_clk]); omega))))) D1 D2 N1 N2 (by omega) (by omega)) fun v7 k7 a7 b7 u7 ⟨l7, S7, D7, N7, V7⟩ => ?_
            rw [V1, V2, Int.natAbs_natCast, Int.natAbs_natCast] at V7
            have r7 := S7.rd
            have ln7 := r7.len
            have ad7 := r7.adr
            have e00 : (0 : Int).toNat = 0 := rfl
            by_cases hg : Nat.gcd (decV N) (decV D) = 1
            · have e7 : l7 = [1] := norm_inj (B := 1000000000) (by decide) D7 (Dg.cons (by decide) Dg.nil) N7 (by simp [Norm]) (by rw [V7, hg]; simp [vl])
              subst e7
              have ld7 := r7.load 0 (by simp)
              simp only [List.getD_cons_zero, Nat.add_zero] at ld7
              have e1' : ((1 : Nat) : Int) = 1 := rfl
              simp only [List.length_cons, List.length_nil, Nat.zero_add] at ln7
              rw [e1'] at ln7 ld7
              repeat' (with_reducible first | simp (disch := first | assumption | omega | (simp only [go_sem, ne_eq, Nat.reduceAdd, Nat.reduceLeDiff] <;> omega) | fail) only [go_sem, seval, ln7, ad7, e00, ld7, e1'] | ((first | apply k1 | apply k2 | apply k3 | apply k4 | apply k5 | apply k6 | apply k7) <;> intro hc))
              refine ⟨by simp [hg], ?_⟩
              (try first | refine ⟨trivial, ?_⟩ | refine ⟨rfl, ?_⟩); (repeat (first | exact Grs.refl _ | assumption | refine Grs.push ?_ | refine Grs.ov ?_ | refine Grs.put ?_ (by (try simp only [Hp.next_push, Hp.next_put, Hp.ov_next, Hp.clk_push, Hp.clk_put, Hp.ov_clk]); omega)))
            · by_cases hl7 : l7.length = 1
              · obtain ⟨d, rfl⟩ : ∃ d, l7 = [d] := by
                  match l7, hl7 with
                  | [d], _ => exact ⟨d, rfl⟩
                have ed : vl 1000000000 [d] = d := by simp [vl]
                rw [ed] at V7
                have ld7 := r7.load 0 (by simp)
                simp only [List.getD_cons_zero, Nat.add_zero] at ld7
                have e1' : ((1 : Nat) : Int) = 1 := rfl
                simp only [List.length_cons, List.length_nil, Nat.zero_add] at ln7
                rw [e1'] at ln7
                have hd1 : ¬ (d : Int) = 1 := by omega
                repeat' (with_reducible first | simp (disch := first | assumption | omega | (simp only [go_sem, ne_eq, Nat.reduceAdd, Nat.reduceLeDiff] <;> omega) | fail) only [go_sem, seval, ln7, ad7, e00, ld7, hd1] | ((first | apply k1 | apply k2 | apply k3 | apply k4 | apply k5 | apply k6 | apply k7) <;> intro hc))
                refine ⟨by simp [hg], ?_⟩
                (try first | refine ⟨trivial, ?_⟩ | refine ⟨rfl, ?_⟩); (repeat (first | exact Grs.refl _ | assumption | refine Grs.push ?_ | refine Grs.ov ?_ | refine Grs.put ?_ (by (try simp only [Hp.next_push, Hp.next_put, Hp.ov_next, Hp.clk_push, Hp.clk_put, Hp.ov_clk]); omega)))
              · have hl7' : ¬ (l7.length : Int) = 1 := by omega
                repeat' (with_reducible first | simp (disch := first | assumption | omega | (simp only [go_sem, ne_eq, Nat.reduceAdd, Nat.reduceLeDiff] <;> omega) | fail) only [go_sem, seval, ln7, hl7'] | ((first | apply k1 | apply k2 | apply k3 | apply k4 | apply k5 | apply k6 | apply k7) <;> intro hc))
                refine ⟨by simp [hg], ?_⟩
                (try first | refine ⟨trivial, ?_⟩ | refine ⟨rfl, ?_⟩); (repeat (first | exact Grs.refl _ | assumption | refine Grs.push ?_ | refine Grs.ov ?_ | refine Grs.put ?_ (by (try simp only [Hp.next_push, Hp.next_put, Hp.ov_next, Hp.clk_push, Hp.clk_put, Hp.ov_clk]); omega)))
  · have hb' : ¬ (k : Int) < t.length := by omega
    have hkt : k = t.length := by omega
    rw [decide_eq_false hb]
    have ef : (true && true && (!false || (isDec D && decide (D ≠ [48]) && decide (D ≠ [49])))) = true := by simp
    rw [ef, if_neg (by decide)]
    by_cases hL : 600 < N.length ∨ 600 < D.length
    · rw [if_pos hL]
      have hLn' : (600 : Int) < k := by omega
      repeat' (with_reducible first | simp (disch := first | assumption | omega | (simp only [go_sem, ne_eq, Nat.reduceAdd, Nat.reduceLeDiff] <;> omega) | fail) only [go_sem, seval, h3, h4, hb', hLn'] | ((first | apply k1 | apply k2 | apply k3 | apply k4 | apply k5 | apply k6 | apply k7) <;> intro hc))
    · rw [if_neg hL]
      have hLn' : ¬ (600 : Int) < k := by omega
      have hLd' : ¬ (600 : Int) < (t.length : Int) - k - 1 := by omega
      repeat' (with_reducible first | simp (disch := first | assumption | omega | (simp only [go_sem, ne_eq, Nat.reduceAdd, Nat.reduceLeDiff] <;> omega) | fail) only [go_sem, seval, h3, h4, hb', hLn', hLd'] | ((first | apply k1 | apply k2 | apply k3 | apply k4 | apply k5 | apply k6 | apply k7) <;> intro hc))
      simp
theorem chk_tail {s : List UInt8} (h0 : val tm (.t 0) = .str s) (h3 : val tm (.t 3) = .str (unS s)) (hl : (unS s).length ≤ 1000000) :
    Wp E3 (R.a19.code.post 3) ⟨tm, h⟩ (RetQ [.tmp 2] fun v h' => v = .int .i64 (checkV s) ∧ Grs h h') := by
  have hk := slash_le (unS s)
  have nl := num_len s
  have dl := den_len s
  have cs := fun {h : Hp} {K : AV → Hp → Prop} => c122 (h := h) (K := K) (s := unS s) (by omega)
  have cn := fun {h : Hp} {K : AV → Hp → Prop} => u123 (h := h) (K := K) (s := numU s) (by omega)
  have cd := fun {h : Hp} {K : AV → Hp → Prop} => u123 (h := h) (K := K) (s := denU s) (by omega)
  have e1 : ((slashV (unS s) : Int) + 1).toNat = slashV (unS s) + 1 := by omega
  have k1 : List.take (slashV (unS s)) (unS s) = numU s := rfl
  have k2 : List.drop (slashV (unS s) + 1) (unS s) = denU s := rfl
  have hkk : (slashV (unS s) : Int) ≤ (unS s).length := by omega
  have hsp : brk s = true → unS s = numU s ++ 47 :: denU s := fun c => slash_split (by unfold brk at c; exact of_decide_eq_true c)
  have ebrk : brk s = decide (slashV (unS s) < (unS s).length) := rfl
  obtain ⟨k, hkd⟩ : ∃ k, k = slashV (unS s) := ⟨_, rfl⟩
  obtain ⟨t, ht⟩ : ∃ t, t = unS s := ⟨_, rfl⟩
  obtain ⟨N, hN⟩ : ∃ N, N = numU s := ⟨_, rfl⟩
  obtain ⟨D, hD⟩ : ∃ D, D = denU s := ⟨_, rfl⟩
  have ecv : checkV s = if formS s = false then 1 else if 600 < N.length ∨ 600 < D.length then 4 else if brk s = true ∧ Nat.gcd (decV N) (decV D) ≠ 1 then 1 else 0 := by rw [hN, hD]; rfl
  have efm : formS s = (isDec N && (!(decide (s.head? = some 45)) || decide (N ≠ [48])) && (!(brk s) || (isDec D && decide (D ≠ [48]) && decide (D ≠ [49])))) := by rw [hN, hD]; rfl
  rw [← hkd] at cs e1 k1 k2 hkk nl dl hk ebrk
  rw [← ht] at cs k1 k2 hkk dl hk h3 hsp ebrk hl
  rw [← hN] at k1 cn nl hsp
  rw [← hD] at k2 cd dl hsp
  have rest := fun tm h3 h4 hdn => chk_rest (h := h) (tm := tm) (N := N) (D := D) (t := t) (k := k) (bk := brk s) h3 h4 hl hk nl dl k2 ebrk hsp hdn
  refine Wp.cut 2 rfl ?_
  generalize ACode.post 2 (ACode.post 3 R.a19.code) = rc at rest ⊢
  unfold R.a19
  dsimp only [ACode.post, ACode.pre]
  rw [ecv, efm]
  cases hdn : isDec N with
  | false =>
    rw [hdn] at cn
    repeat' (with_reducible first | simp (disch := first | assumption | omega | (simp only [go_sem, ne_eq, Nat.reduceAdd, Nat.reduceLeDiff] <;> omega) | fail) only [go_sem, seval, h0, h3, cs, cn, k1, hkk] | ((first | apply k1 | apply k2 | apply k3 | apply k4 | apply k5 | apply k6 | apply k7) <;> intro hc))
    simp
  | true =>
    rw [hdn] at cn
    have hN0 := (isDec_cases hdn).1
    have hNl : 0 < N.length := List.length_pos_iff.2 hN0
    have hs0 : s ≠ [] := by
      rintro rfl
      have : t = [] := by rw [ht]; rfl
      rw [this] at hk
      simp at hk; omega
    have hsl : (0 : Int) < s.length := by have := List.length_pos_iff.2 hs0; omega
    have e45 : ((s.getD 0 0).toNat : Int) = 45 ↔ s.head? = some 45 := by
      refine (u8_int (b := s.getD 0 0) (n := 45) (by decide)).trans ?_
      match s, hs0 with
      | c :: l, _ =>
        show c = 45 ↔ some c = some 45
        simp
    have first : (s.head? = some 45 ∧ N = [48]) ∨ ¬ (s.head? = some 45 ∧ N = [48]) := Classical.em _
    rcases first with ⟨f1, f2⟩ | f
    · have f1' := e45.2 f1
      rw [f2] at cn
      repeat' (with_reducible first | simp (disch := first | assumption | omega | (simp only [go_sem, ne_eq, Nat.reduceAdd, Nat.reduceLeDiff] <;> omega) | fail) only [go_sem, seval, h0, h3, cs, cn, k1, hkk, hsl, f1', f2] | ((first | apply k1 | apply k2 | apply k3 | apply k4 | apply k5 | apply k6 | apply k7) <;> intro hc))
      simp [f1, f2]
    · have en : (!(decide (s.head? = some 45)) || decide (N ≠ [48])) = true := by
        by_cases f1 : s.head? = some 45
        · have : N ≠ [48] := fun e => f ⟨f1, e⟩
          simp [this]
        · simp [f1]
      rw [en]
      by_cases f1 : s.head? = some 45
      · have f1' := e45.2 f1
        have f2 : ¬ N = [48] := fun e => f ⟨f1, e⟩
        repeat' (with_reducible first | simp (disch := first | assumption | omega | (simp only [go_sem, ne_eq, Nat.reduceAdd, Nat.reduceLeDiff] <;> omega) | fail) only [go_sem, seval, h0, h3, cs, cn, k1, hkk, hsl, f1', f2] | ((first | apply k1 | apply k2 | apply k3 | apply k4 | apply k5 | apply k6 | apply k7) <;> intro hc))
        exact rest _ (by simp (disch := first | assumption | omega | (simp only [go_sem, ne_eq, Nat.reduceAdd, Nat.reduceLeDiff] <;> omega) | fail) only [go_sem, seval, h3]) (by simp (disch := first | assumption | omega | (simp only [go_sem, ne_eq, Nat.reduceAdd, Nat.reduceLeDiff] <;> omega) | fail) only [go_sem, seval]) hdn
      · have f1' := fun e => f1 (e45.1 e)
        repeat' (with_reducible first | simp (disch := first | assumption | omega | (simp only [go_sem, ne_eq, Nat.reduceAdd, Nat.reduceLeDiff] <;> omega) | fail) only [go_sem, seval, h0, h3, cs, cn, k1, hkk, hsl, f1'] | ((first | apply k1 | apply k2 | apply k3 | apply k4 | apply k5 | apply k6 | apply k7) <;> intro hc))
        exact rest _ (by simp (disch := first | assumption | omega | (simp only [go_sem, ne_eq, Nat.reduceAdd, Nat.reduceLeDiff] <;> omega) | fail) only [go_sem, seval, h3]) (by simp (disch := first | assumption | omega | (simp only [go_sem, ne_eq, Nat.reduceAdd, Nat.reduceLeDiff] <;> omega) | fail) only [go_sem, seval]) hdn
theorem d19 {s : List UInt8} (hl : s.length ≤ 1000000) : Gv E3 19 [.str s] h (.int .i64 (checkV s)) := by
  have hu : (unS s).length ≤ 1000000 := by
    unfold unS; split
    · rw [List.length_drop]; omega
    · exact hl
  refine Gv.of (CallWp.fn (fn := R.a19) rfl rfl rfl ?_)
  have tail := fun tm h0 h3 => chk_tail (h := h) (tm := tm) (s := s) h0 h3 hu
  refine Wp.cut 3 rfl ?_
  generalize ACode.post 3 R.a19.code = rc at tail ⊢
  unfold R.a19
  dsimp only [ACode.pre]
  cases s with
  | nil =>
    repeat' (with_reducible first | simp (disch := first | assumption | omega | (simp only [go_sem, ne_eq, Nat.reduceAdd, Nat.reduceLeDiff] <;> omega) | fail) only [go_sem, seval, List.length_nil] | ((first | apply k1 | apply k2 | apply k3 | apply k4 | apply k5 | apply k6 | apply k7) <;> intro hc))
    exact tail _ (by simp (disch := first | assumption | omega | (simp only [go_sem, ne_eq, Nat.reduceAdd, Nat.reduceLeDiff] <;> omega) | fail) only [go_sem, seval]) (by (simp (disch := first | assumption | omega | (simp only [go_sem, ne_eq, Nat.reduceAdd, Nat.reduceLeDiff] <;> omega) | fail) only [go_sem, seval]) <;> rfl)
  | cons c l =>
    have hsl : (0 : Int) < ((c :: l : List UInt8).length : Int) := by simp
    have hsl1 : (1 : Int) ≤ ((c :: l : List UInt8).length : Int) := by rw [List.length_cons]; omega
    have e45 : (((c :: l).getD 0 0).toNat : Int) = 45 ↔ c = 45 := u8_int (n := 45) (by decide)
    by_cases f1 : c = 45
    · have f1' := e45.2 f1
      have eu : unS (c :: l) = (c :: l).drop 1 := by unfold unS; rw [if_pos (by simpa using f1)]
      repeat' (with_reducible first | simp (disch := first | assumption | omega | (simp only [go_sem, ne_eq, Nat.reduceAdd, Nat.reduceLeDiff] <;> omega) | fail) only [go_sem, seval, hsl, hsl1, f1'] | ((first | apply k1 | apply k2 | apply k3 | apply k4 | apply k5 | apply k6 | apply k7) <;> intro hc))
      exact tail _ (by simp (disch := first | assumption | omega | (simp only [go_sem, ne_eq, Nat.reduceAdd, Nat.reduceLeDiff] <;> omega) | fail) only [go_sem, seval]) (by (simp (disch := first | assumption | omega | (simp only [go_sem, ne_eq, Nat.reduceAdd, Nat.reduceLeDiff] <;> omega) | fail) only [go_sem, seval]) <;> rw [eu] <;> rfl)
    · have f1' := fun e => f1 (e45.1 e)
      have eu : unS (c :: l) = c :: l := by unfold unS; rw [if_neg (by simpa using f1)]
      repeat' (with_reducible first | simp (disch := first | assumption | omega | (simp only [go_sem, ne_eq, Nat.reduceAdd, Nat.reduceLeDiff] <;> omega) | fail) only [go_sem, seval, hsl, hsl1, f1'] | ((first | apply k1 | apply k2 | apply k3 | apply k4 | apply k5 | apply k6 | apply k7) <;> intro hc))
      exact tail _ (by simp (disch := first | assumption | omega | (simp only [go_sem, ne_eq, Nat.reduceAdd, Nat.reduceLeDiff] <;> omega) | fail) only [go_sem, seval]) (by (simp (disch := first | assumption | omega | (simp only [go_sem, ne_eq, Nat.reduceAdd, Nat.reduceLeDiff] <;> omega) | fail) only [go_sem, seval]) <;> rw [eu])
end
end
end Go.Ae


/- The reference's texts of numbers: values, lists, spans. -/
set_option linter.unusedVariables false
set_option linter.unusedSimpArgs false
set_option maxRecDepth 100000
set_option exponentiation.threshold 1000
set_option maxHeartbeats 2000000
namespace Go.Ae
open Bg N Go.Proofs
noncomputable section
/-- The number that a text spells. -/
def valS (s : List UInt8) : Rat := Rat.divInt (sgn (decide (s.head? = some 45)) (decV (numU s))) ((if brk s = true then decV (denU s) else 1 : Nat) : Int)
theorem valS_txt (r : Rat) : valS (txtR r) = r := by
  unfold valS
  rw [numU_txt, denU_txt, brk_txt, decP_val]
  have e1 : decide ((txtR r).head? = some 45) = decide (r.num < 0) := decide_eq_decide.2 (txtR_head r)
  have e2 : sgn (decide (r.num < 0)) r.num.natAbs = r.num := by
    unfold sgn
    by_cases c : r.num < 0
    · rw [decide_eq_true c, if_pos rfl]; omega
    · rw [decide_eq_false c, if_neg (by decide)]; omega
  have e3 : (if decide (r.den ≠ 1) = true then decV (if r.den = 1 then [] else decP r.den 1) else 1) = r.den := by
    by_cases c : r.den = 1
    · simp [c]
    · rw [if_pos (decide_eq_true c), if_neg c, decP_val]
  rw [e1, e2, e3, Rat.num_divInt_den]
theorem txtR_valS {s : List UInt8} (h : checkV s = 0) : s = txtR (valS s) ∧ okR (valS s) = true := by
  obtain ⟨r, rfl, hr⟩ := checkV_zero h
  rw [valS_txt]; exact ⟨rfl, hr⟩
theorem ok_Br {r : Rat} (h : okR r = true) : Br 67 r := by
  unfold okR at h
  obtain ⟨h1, h2⟩ := of_decide_eq_true h
  have h3 : (10 : Nat) ^ 600 ≤ 10 ^ 603 := Nat.pow_le_pow_right (by decide) (by decide)
  have h4 : (10 : Nat) ^ 603 = 1000000000 ^ 67 := by rw [show (1000000000 : Nat) = 10 ^ 9 from rfl, ← Nat.pow_mul]
  unfold Br Lr
  rw [Int.natAbs_natCast]
  omega
theorem txtR_int (z : Int) : txtR (z : Rat) = txtZ z := by
  unfold txtR
  rw [Rat.den_intCast, if_pos rfl, Rat.num_intCast]
theorem txtR_zero : txtR 0 = [48] := by decide +kernel
theorem sgR_le {a b : Rat} : sgR (a - b) ≤ 0 ↔ a ≤ b := by
  have h2 : 0 ≤ (b - a).num ↔ 0 ≤ b - a := Rat.num_nonneg
  have h3 : (b - a).num = -(a - b).num := by rw [show b - a = -(a - b) from (Rat.neg_sub a b).symm]; rfl
  rw [Rat.le_iff_sub_nonneg, ← h2, h3]
  unfold sgR
  by_cases c : (a - b).num < 0
  · rw [if_pos c]; omega
  · rw [if_neg c]
    by_cases d : (a - b).num = 0
    · rw [if_pos d]; omega
    · rw [if_neg d]; omega
theorem sgR_neg (a : Rat) : sgR (-a) = - sgR a := by
  unfold sgR
  rw [show (-a).num = -a.num from rfl]
  by_cases c : a.num < 0
  · rw [if_pos c, if_neg (by omega), if_neg (by omega)]; rfl
  · rw [if_neg c]
    by_cases d : a.num = 0
    · rw [if_pos d, if_neg (by omega), if_pos (by omega)]; rfl
    · rw [if_neg d, if_pos (by omega)]
theorem sgR_ge {a b : Rat} : 0 ≤ sgR (a - b) ↔ b ≤ a := by
  rw [← sgR_le (a := b) (b := a), show b - a = -(a - b) from (Rat.neg_sub a b).symm, sgR_neg]; omega
theorem sgR_gt {a b : Rat} : 0 < sgR (a - b) ↔ b < a := by
  rw [← Rat.not_le, ← sgR_le]; omega
/-- The error of two texts. -/
def chk2 (s u : List UInt8) : Int := if checkV s = 0 then checkV u else checkV s
theorem chk2_zero {s u : List UInt8} (h : chk2 s u = 0) : checkV s = 0 ∧ checkV u = 0 := by
  unfold chk2 at h
  by_cases c : checkV s = 0
  · rw [if_pos c] at h; exact ⟨c, h⟩
  · rw [if_neg c] at h; exact absurd h c
/-- The error of a span. -/
def spanV (s u : List UInt8) : Int := if chk2 s u = 0 then (if 0 < sgR (valS s - valS u) then 11 else 0) else chk2 s u
section
variable {h h' hp : Hp} {K : AV → Hp → Prop} {tm : T AV} {r a b c d : Rat}
theorem d91 {z : Int} (hz : -9223372036854775807 ≤ z ∧ z ≤ 9223372036854775807) : Gv E3 91 [.int .i64 z] h (.str (txtZ z)) := by
  refine Gv.of (CallWp.fn (fn := R.a91) rfl rfl rfl ?_)
  unfold R.a91
  have lz : Lr 3 z := by unfold Lr; omega
  repeat' (with_reducible first | simp (disch := first | assumption | omega | (simp only [go_sem, ne_eq, Nat.reduceAdd, Nat.reduceLeDiff] <;> omega) | fail) only [go_sem, seval] | ((first | apply k1 | apply k2 | apply k3 | apply k4 | apply k5 | apply k6 | apply k7) <;> intro hc))
  refine Gp.wp (d182 hz) fun v5 k5 a5 b5 u5 I5 => ?_
  repeat' (with_reducible first | simp (disch := first | assumption | omega | (simp only [go_sem, ne_eq, Nat.reduceAdd, Nat.reduceLeDiff] <;> omega) | fail) only [go_sem, seval] | ((first | apply k1 | apply k2 | apply k3 | apply k4 | apply k5 | apply k6 | apply k7) <;> intro hc))
  refine Gv.wp (d181 I5 (lz.mono (by decide))) fun h6 k6 j6 u6 => ?_
  repeat' (with_reducible first | simp (disch := first | assumption | omega | (simp only [go_sem, ne_eq, Nat.reduceAdd, Nat.reduceLeDiff] <;> omega) | fail) only [go_sem, seval] | ((first | apply k1 | apply k2 | apply k3 | apply k4 | apply k5 | apply k6 | apply k7) <;> intro hc))
  (try first | refine ⟨trivial, ?_⟩ | refine ⟨rfl, ?_⟩); (repeat (first | exact Grs.refl _ | assumption | refine Grs.push ?_ | refine Grs.ov ?_ | refine Grs.put ?_ (by (try simp only [Hp.next_push, Hp.next_put, Hp.ov_next, Hp.clk_push, Hp.clk_put, Hp.ov_clk]); omega)))
theorem u94 (l1 : Lr 9000 r.num) (l2 : Lr 9000 (r.den : Int)) : CallWp E3 94 [.str (txtR r)] h K ↔ K (.bool (decide (r.den = 1))) h := by
  obtain ⟨t1, t2⟩ := txtR_le l1 l2
  refine CallWp.iff_of (CallWp.fn (fn := R.a94) rfl rfl rfl ?_)
  unfold R.a94
  have cs := fun {h : Hp} {K : AV → Hp → Prop} => c122 (h := h) (K := K) (s := txtR r) (by omega)
  have hs := slash_txt r
  by_cases hd : r.den = 1
  · have et : ((txtZ r.num).length : Int) = (txtR r).length := by unfold txtR; rw [if_pos hd]
    rw [decide_eq_true hd]
    repeat' (with_reducible first | simp (disch := first | assumption | omega | (simp only [go_sem, ne_eq, Nat.reduceAdd, Nat.reduceLeDiff] <;> omega) | fail) only [go_sem, seval, cs, hs, et] | ((first | apply k1 | apply k2 | apply k3 | apply k4 | apply k5 | apply k6 | apply k7) <;> intro hc))
  · have et : ¬ ((txtZ r.num).length : Int) = (txtR r).length := by unfold txtR; rw [if_neg hd]; simp; omega
    rw [decide_eq_false hd]
    repeat' (with_reducible first | simp (disch := first | assumption | omega | (simp only [go_sem, ne_eq, Nat.reduceAdd, Nat.reduceLeDiff] <;> omega) | fail) only [go_sem, seval, cs, hs, et] | ((first | apply k1 | apply k2 | apply k3 | apply k4 | apply k5 | apply k6 | apply k7) <;> intro hc))
theorem d56_2 {t : Nat} {s u : List UInt8} (hA : At h t [.str s, .str u]) (ht : t < h.next) (hs : s.length ≤ 1000000) (hu : u.length ≤ 1000000) : Gv E3 56 [.sl t 0 2 1] h (.int .i64 (chk2 s u)) := by
  refine Gv.of (CallWp.fn (fn := R.a56) rfl rfl rfl ?_)
  unfold R.a56 chk2
  obtain ⟨st, hg⟩ := hA
  by_cases c1 : checkV s = 0
  · rw [if_pos c1]
    have e1 := d19 (h := h) hs
    rw [c1] at e1
    by_cases c2 : checkV u = 0
    · rw [c2]
      repeat' (with_reducible first | simp (disch := first | assumption | omega | (simp only [go_sem, ne_eq, Nat.reduceAdd, Nat.reduceLeDiff] <;> omega) | fail) only [go_sem, seval, Wp.unroll, hg] | (refine Gv.wp (e1) fun _ _ _ _ => ?_) | ((first | apply k1 | apply k2 | apply k3 | apply k4 | apply k5 | apply k6 | apply k7) <;> intro hc))
      refine Gv.wp (d19 hu) fun h6 k6 j6 u6 => ?_
      repeat' (with_reducible first | simp (disch := first | assumption | omega | (simp only [go_sem, ne_eq, Nat.reduceAdd, Nat.reduceLeDiff] <;> omega) | fail) only [go_sem, seval, Wp.unroll, hg, c2] | ((first | apply k1 | apply k2 | apply k3 | apply k4 | apply k5 | apply k6 | apply k7) <;> intro hc))
      (try first | refine ⟨trivial, ?_⟩ | refine ⟨rfl, ?_⟩); (repeat (first | exact Grs.refl _ | assumption | refine Grs.push ?_ | refine Grs.ov ?_ | refine Grs.put ?_ (by (try simp only [Hp.next_push, Hp.next_put, Hp.ov_next, Hp.clk_push, Hp.clk_put, Hp.ov_clk]); omega)))
    · repeat' (with_reducible first | simp (disch := first | assumption | omega | (simp only [go_sem, ne_eq, Nat.reduceAdd, Nat.reduceLeDiff] <;> omega) | fail) only [go_sem, seval, Wp.unroll, hg] | (refine Gv.wp (e1) fun _ _ _ _ => ?_) | ((first | apply k1 | apply k2 | apply k3 | apply k4 | apply k5 | apply k6 | apply k7) <;> intro hc))
      refine Gv.wp (d19 hu) fun h6 k6 j6 u6 => ?_
      repeat' (with_reducible first | simp (disch := first | assumption | omega | (simp only [go_sem, ne_eq, Nat.reduceAdd, Nat.reduceLeDiff] <;> omega) | fail) only [go_sem, seval, Wp.unroll, hg, c2] | ((first | apply k1 | apply k2 | apply k3 | apply k4 | apply k5 | apply k6 | apply k7) <;> intro hc))
      (try first | refine ⟨trivial, ?_⟩ | refine ⟨rfl, ?_⟩); (repeat (first | exact Grs.refl _ | assumption | refine Grs.push ?_ | refine Grs.ov ?_ | refine Grs.put ?_ (by (try simp only [Hp.next_push, Hp.next_put, Hp.ov_next, Hp.clk_push, Hp.clk_put, Hp.ov_clk]); omega)))
  · rw [if_neg c1]
    repeat' (with_reducible first | simp (disch := first | assumption | omega | (simp only [go_sem, ne_eq, Nat.reduceAdd, Nat.reduceLeDiff] <;> omega) | fail) only [go_sem, seval, Wp.unroll, hg, c1] | (refine Gv.wp (d19 hs) fun _ _ _ _ => ?_) | ((first | apply k1 | apply k2 | apply k3 | apply k4 | apply k5 | apply k6 | apply k7) <;> intro hc))
    (try first | refine ⟨trivial, ?_⟩ | refine ⟨rfl, ?_⟩); (repeat (first | exact Grs.refl _ | assumption | refine Grs.push ?_ | refine Grs.ov ?_ | refine Grs.put ?_ (by (try simp only [Hp.next_push, Hp.next_put, Hp.ov_next, Hp.clk_push, Hp.clk_put, Hp.ov_clk]); omega)))
theorem d59 {s u : List UInt8} (hs : s.length ≤ 1000000) (hu : u.length ≤ 1000000) : Gv E3 59 [.agg [.str s, .str u]] h (.int .i64 (spanV s u)) := by
  refine Gv.of (CallWp.fn (fn := R.a59) rfl rfl rfl ?_)
  unfold R.a59 spanV
  by_cases c1 : chk2 s u = 0
  · obtain ⟨z1, z2⟩ := chk2_zero c1
    obtain ⟨t1, o1⟩ := txtR_valS z1
    obtain ⟨t2, o2⟩ := txtR_valS z2
    have e3 := fun h => d75 (h := h) ((ok_Br o1).mono (by decide : 67 ≤ 2000)) ((ok_Br o2).mono (by decide : 67 ≤ 2000))
    rw [← t1, ← t2] at e3
    rw [if_pos c1]
    by_cases c2 : 0 < sgR (valS s - valS u)
    · rw [if_pos c2]
      repeat' (with_reducible first | simp (disch := first | assumption | omega | (simp only [go_sem, ne_eq, Nat.reduceAdd, Nat.reduceLeDiff] <;> omega) | fail) only [go_sem, seval, c1, c2] | (refine Gv.wp (d56_2 (s := s) (u := u) (by simp (disch := first | assumption | omega | (simp only [go_sem, ne_eq, Nat.reduceAdd, Nat.reduceLeDiff] <;> omega) | fail) only [go_sem, seval]) (by (first | omega | (simp only [Hp.next_push, Hp.next_put, Hp.ov_next, Hp.clk_push, Hp.clk_put, Hp.ov_clk] <;> omega) | fail)) hs hu) fun _ _ _ _ => ?_) | (refine Gv.wp (e3 _) fun _ _ _ _ => ?_) | ((first | apply k1 | apply k2 | apply k3 | apply k4 | apply k5 | apply k6 | apply k7) <;> intro hc))
      (try first | refine ⟨trivial, ?_⟩ | refine ⟨rfl, ?_⟩); (repeat (first | exact Grs.refl _ | assumption | refine Grs.push ?_ | refine Grs.ov ?_ | refine Grs.put ?_ (by (try simp only [Hp.next_push, Hp.next_put, Hp.ov_next, Hp.clk_push, Hp.clk_put, Hp.ov_clk]); omega)))
    · rw [if_neg c2]
      repeat' (with_reducible first | simp (disch := first | assumption | omega | (simp only [go_sem, ne_eq, Nat.reduceAdd, Nat.reduceLeDiff] <;> omega) | fail) only [go_sem, seval, c1, c2] | (refine Gv.wp (d56_2 (s := s) (u := u) (by simp (disch := first | assumption | omega | (simp only [go_sem, ne_eq, Nat.reduceAdd, Nat.reduceLeDiff] <;> omega) | fail) only [go_sem, seval]) (by (first | omega | (simp only [Hp.next_push, Hp.next_put, Hp.ov_next, Hp.clk_push, Hp.clk_put, Hp.ov_clk] <;> omega) | fail)) hs hu) fun _ _ _ _ => ?_) | (refine Gv.wp (e3 _) fun _ _ _ _ => ?_) | ((first | apply k1 | apply k2 | apply k3 | apply k4 | apply k5 | apply k6 | apply k7) <;> intro hc))
      (try first | refine ⟨trivial, ?_⟩ | refine ⟨rfl, ?_⟩); (repeat (first | exact Grs.refl _ | assumption | refine Grs.push ?_ | refine Grs.ov ?_ | refine Grs.put ?_ (by (try simp only [Hp.next_push, Hp.next_put, Hp.ov_next, Hp.clk_push, Hp.clk_put, Hp.ov_clk]); omega)))
  · rw [if_neg c1]
    repeat' (with_reducible first | simp (disch := first | assumption | omega | (simp only [go_sem, ne_eq, Nat.reduceAdd, Nat.reduceLeDiff] <;> omega) | fail) only [go_sem, seval, c1] | (refine Gv.wp (d56_2 (s := s) (u := u) (by simp (disch := first | assumption | omega | (simp only [go_sem, ne_eq, Nat.reduceAdd, Nat.reduceLeDiff] <;> omega) | fail) only [go_sem, seval]) (by (first | omega | (simp only [Hp.next_push, Hp.next_put, Hp.ov_next, Hp.clk_push, Hp.clk_put, Hp.ov_clk] <;> omega) | fail)) hs hu) fun _ _ _ _ => ?_) | ((first | apply k1 | apply k2 | apply k3 | apply k4 | apply k5 | apply k6 | apply k7) <;> intro hc))
    (try first | refine ⟨trivial, ?_⟩ | refine ⟨rfl, ?_⟩); (repeat (first | exact Grs.refl _ | assumption | refine Grs.push ?_ | refine Grs.ov ?_ | refine Grs.put ?_ (by (try simp only [Hp.next_push, Hp.next_put, Hp.ov_next, Hp.clk_push, Hp.clk_put, Hp.ov_clk]); omega)))
theorem d72z (j : Br 2000 b) : Gv E3 72 [.str [48], .str (txtR b)] h (.str (txtR b)) := by
  have i : Br 2000 (0 : Rat) := (show Br 1 0 from by unfold Br Lr; decide).mono (by decide)
  have := d72 (h := h) i j
  rwa [txtR_zero, Rat.zero_add] at this
end
end
end Go.Ae


/- Further functions of the program, as code of the abstract evaluator (printed by mkX.py). -/
set_option maxRecDepth 100000
namespace Go.Ae.G
open AOp Opd C
def a14 : AFn := ⟨216, [.tmp 4], (.seq (.reg [o 2 (.box (.t 0)),o 3 (.box (.t 1)),o 4 (.mv (.k (.bool false)))])
  (.seq (.reg [o 23 (.fadr 0 (.t 2)),o 24 (.load false 1 (.t 23)),o 25 (.fadr 1 (.t 2)),o 26 (.load false 1 (.t 25)),o 27 (.fadr 2 (.t 2)),o 28 (.load false 1 (.t 27)),o 29 (.fadr 0 (.t 3)),o 30 (.load false 1 (.t 29)),o 31 (.fadr 1 (.t 3)),o 32 (.load false 1 (.t 31)),o 33 (.fadr 2 (.t 3)),o 34 (.load false 1 (.t 33)),o 35 (.bslice 1 6 [.int .i64 0, .int .i64 0, .int .i64 0, .int .i64 0, .int .i64 0, .int .i64 0] [(0, 1, (.t 24)), (1, 1, (.t 26)), (2, 1, (.t 28)), (3, 1, (.t 30)), (4, 1, (.t 32)), (5, 1, (.t 34))]),o 5 (m 35)])
  (.seq (.seq (.reg [o 36 (m 5),o 37 (.len .slice (.t 36)),o 38 (.mv (.k (.int .i64 0)))])
   (.block 0 (.loop (.seq (.reg [o 39 (.bin .lss .none (.t 38) (.t 37))])
     (.seq (.cond (.t 39) .skip
      (.exit 0))
     (.seq (.block 1 (.seq (.reg [o 40 (m 38),o 6 (m 40)])
       (.seq (.reg [o 41 (m 5),o 42 (m 6),o 43 (.iadr 1 (.t 41) (.t 42)),o 44 (.load false 1 (.t 43)),o 45 (.bin .lss .none (.t 44) (.k (.int .i64 (-30000)))),o 46 (m 45),g 47 (m 5) 46 false,g 48 (m 6) 46 false,g 49 (.iadr 1 (.t 47) (.t 48)) 46 false,g 50 (.load false 1 (.t 49)) 46 false,g 51 (.bin .gtr .none (.t 50) (.k (.int .i64 30000))) 46 false,o 52 (.pick (.t 46) (.k (.bool true)) (.t 51))])
       (.cond (.t 52) (.seq (.reg [o 53 (.callF 17 []),o 4 (m 53)])
        .ret)
       .skip))))
     (.reg [o 54 (.bin .add .none (.t 38) (.k (.int .i64 1))),o 38 (m 54)])))))))
  (.seq (.seq (.reg [o 55 (.callF 17 []),o 56 (.un .not (.t 55))])
   (.cond (.t 56) (.seq (.reg [o 4 (.mv (.k (.bool false)))])
    .ret)
   .skip))
  (.seq (.reg [o 58 (.load true 3 (.t 2)),o 59 (.load true 3 (.t 3)),o 60 (.callF 84 [(.t 58), (.t 59)]),o 57 (m 60),o 61 (.ext (.t 57) 0),o 62 (.ext (.t 57) 1),o 7 (.alloc [.int .i64 0, .int .i64 0, .int .i64 0]),n (.store 3 (.t 7) (.t 61)),o 8 (m 62)])
  (.seq (.reg [o 64 (.load true 3 (.t 3)),o 65 (.load true 3 (.t 2)),o 66 (.callF 84 [(.t 64), (.t 65)]),o 63 (m 66),o 67 (.ext (.t 63) 0),o 68 (.ext (.t 63) 1),o 9 (.alloc [.int .i64 0, .int .i64 0, .int .i64 0]),n (.store 3 (.t 9) (.t 67)),o 10 (m 68)])
  (.seq (.reg [o 70 (.load true 3 (.t 2)),o 71 (.load true 3 (.t 3)),o 72 (.callF 83 [(.t 70), (.t 71)]),o 69 (m 72),o 73 (.ext (.t 69) 0),o 74 (.ext (.t 69) 1),o 11 (m 73),o 12 (m 74)])
  (.seq (.reg [o 76 (.load true 3 (.t 2)),o 77 (.load true 3 (.t 2)),o 78 (.callF 83 [(.t 76), (.t 77)]),o 75 (m 78),o 79 (.ext (.t 75) 0),o 80 (.ext (.t 75) 1),o 13 (m 79),o 14 (m 80)])
  (.seq (.reg [o 82 (.load true 3 (.t 3)),o 83 (.load true 3 (.t 3)),o 84 (.callF 83 [(.t 82), (.t 83)]),o 81 (m 84),o 85 (.ext (.t 81) 0),o 86 (.ext (.t 81) 1),o 15 (m 85),o 16 (m 86)])
  (.seq (.reg [o 88 (.load true 3 (.t 2)),o 89 (.callF 85 [(.t 88)]),o 87 (m 89),o 90 (.ext (.t 87) 0),o 91 (.ext (.t 87) 1),o 17 (.alloc [.str [], .str []]),n (.store 2 (.t 17) (.t 90)),o 18 (m 91)])
  (.seq (.seq (.reg [o 92 (m 8),o 93 (m 10),o 94 (.bin .add .none (.t 92) (.t 93)),o 95 (m 12),o 96 (.bin .add .none (.t 94) (.t 95)),o 97 (m 14),o 98 (.bin .add .none (.t 96) (.t 97)),o 99 (m 16),o 100 (.bin .add .none (.t 98) (.t 99)),o 101 (m 18),o 102 (.bin .add .none (.t 100) (.t 101)),o 103 (.bin .neq .none (.t 102) (.k (.int .i64 0))),o 104 (m 103),g 105 (.fadr 0 (.t 7)) 104 false,g 106 (.load false 1 (.t 105)) 104 false,g 107 (.fadr 0 (.t 9)) 104 false,g 108 (.load false 1 (.t 107)) 104 false,g 109 (.un .neg (.t 108)) 104 false,g 110 (.bin .neq .none (.t 106) (.t 109)) 104 false,o 111 (.pick (.t 104) (.k (.bool true)) (.t 110)),o 112 (m 111),g 113 (.fadr 1 (.t 7)) 112 false,g 114 (.load false 1 (.t 113)) 112 false,g 115 (.fadr 1 (.t 9)) 112 false,g 116 (.load false 1 (.t 115)) 112 false,g 117 (.un .neg (.t 116)) 112 false,g 118 (.bin .neq .none (.t 114) (.t 117)) 112 false,o 119 (.pick (.t 112) (.k (.bool true)) (.t 118)),o 120 (m 119),g 121 (.fadr 2 (.t 7)) 120 false,g 122 (.load false 1 (.t 121)) 120 false,g 123 (.fadr 2 (.t 9)) 120 false,g 124 (.load false 1 (.t 123)) 120 false,g 125 (.un .neg (.t 124)) 120 false,g 126 (.bin .neq .none (.t 122) (.t 125)) 120 false,o 127 (.pick (.t 120) (.k (.bool true)) (.t 126)),o 128 (m 127),g 129 (.load true 2 (.t 17)) 128 false,g 130 (.callF 59 [(.t 129)]) 128 false,g 131 (.bin .neq .none (.t 130) (.k (.int .i64 0))) 128 false,o 132 (.pick (.t 128) (.k (.bool true)) (.t 131)),o 133 (m 132),g 134 (m 13) 133 false,g 135 (.bin .lss .none (.t 134) (.k (.int .i64 0))) 133 false,o 136 (.pick (.t 133) (.k (.bool true)) (.t 135)),o 137 (m 136),g 138 (m 15) 137 false,g 139 (.bin .lss .none (.t 138) (.k (.int .i64 0))) 137 false,o 140 (.pick (.t 137) (.k (.bool true)) (.t 139))])
   (.cond (.t 140) (.seq (.reg [o 4 (.mv (.k (.bool false)))])
    .ret)
   .skip))
  (.seq (.reg [o 19 (.alloc [.nilf]),n (.store 1 (.t 19) (.k (.fn 90 [])))])
  (.seq (.reg [o 141 (.mkF 92 [(.t 19), (.t 7)]),o 20 (m 141)])
  (.seq (.dreg [⟨(some 142), .load false 1 (.t 19), none, (some 0)⟩,o 143 (.fadr 0 (.t 7)),⟨(some 144), .load false 1 (.t 143), none, (some 2)⟩,o 145 (.fadr 0 (.t 7)),⟨(some 146), .load false 1 (.t 145), none, (some 4)⟩,o 147 (.callV (.t 142) [(.t 144), (.t 146)]),⟨(some 148), .load false 1 (.t 19), none, (some 6)⟩,o 149 (.fadr 1 (.t 7)),⟨(some 150), .load false 1 (.t 149), none, (some 8)⟩,o 151 (.fadr 1 (.t 7)),⟨(some 152), .load false 1 (.t 151), none, (some 10)⟩,o 153 (.callV (.t 148) [(.t 150), (.t 152)]),⟨(some 154), .load false 1 (.t 19), none, (some 12)⟩,o 155 (.fadr 2 (.t 7)),⟨(some 156), .load false 1 (.t 155), none, (some 14)⟩,o 157 (.fadr 2 (.t 7)),⟨(some 158), .load false 1 (.t 157), none, (some 16)⟩,o 159 (.callV (.t 154) [(.t 156), (.t 158)]),⟨(some 160), .load false 1 (.t 19), none, (some 18)⟩,o 161 (m 11),o 162 (m 11),o 163 (.callV (.t 160) [(.t 161), (.t 162)]),o 164 (.bslice 1 4 [.str [], .str [], .str [], .str []] [(0, 1, (.t 147)), (1, 1, (.t 153)), (2, 1, (.t 159)), (3, 1, (.t 163))]),o 165 (.callF 93 [(.t 164)]),o 21 (m 165)])
  (.seq (.reg [o 166 (m 13),o 167 (.callF 91 [(.t 166)]),o 22 (m 167)])
  (.seq (.reg [o 168 (m 20),o 169 (.load true 3 (.t 2)),o 170 (.callV (.t 168) [(.t 169)]),o 171 (.bin .eql .none (.t 170) (.k (.str [48]))),o 172 (m 171),g 173 (m 20) 172 true,g 174 (.load true 3 (.t 3)) 172 true,g 175 (.callV (.t 173) [(.t 174)]) 172 true,g 176 (.bin .eql .none (.t 175) (.k (.str [48]))) 172 true,o 177 (.pick (.t 172) (.t 176) (.k (.bool false))),o 178 (m 177),g 179 (m 21) 178 true,g 180 (.load false 1 (.t 19)) 178 true,g 181 (m 13) 178 true,g 182 (m 15) 178 true,g 183 (.callV (.t 180) [(.t 181), (.t 182)]) 178 true,g 184 (.bin .eql .none (.t 179) (.t 183)) 178 true,o 185 (.pick (.t 178) (.t 184) (.k (.bool false))),o 186 (m 185),g 187 (.fadr 0 (.t 17)) 186 true,g 188 (.load false 1 (.t 187)) 186 true,g 189 (.fadr 0 (.t 17)) 186 true,g 190 (.load false 1 (.t 189)) 186 true,g 191 (.callF 74 [(.t 188), (.t 190)]) 186 true,g 192 (m 22) 186 true,g 193 (.callF 75 [(.t 191), (.t 192)]) 186 true,g 194 (.bin .leq .none (.t 193) (.k (.int .i64 0))) 186 true,o 195 (.pick (.t 186) (.t 194) (.k (.bool false))),o 196 (m 195),g 197 (.fadr 1 (.t 17)) 196 true,g 198 (.load false 1 (.t 197)) 196 true,g 199 (.fadr 1 (.t 17)) 196 true,g 200 (.load false 1 (.t 199)) 196 true,g 201 (.callF 74 [(.t 198), (.t 200)]) 196 true,g 202 (m 22) 196 true,g 203 (.callF 75 [(.t 201), (.t 202)]) 196 true,g 204 (.bin .geq .none (.t 203) (.k (.int .i64 0))) 196 true,o 205 (.pick (.t 196) (.t 204) (.k (.bool false))),o 206 (m 205),g 207 (.fadr 0 (.t 17)) 206 true,g 208 (.load false 1 (.t 207)) 206 true,g 209 (.callF 94 [(.t 208)]) 206 true,o 210 (.pick (.t 206) (.t 209) (.k (.bool false))),o 211 (m 210),g 212 (.fadr 1 (.t 17)) 211 true,g 213 (.load false 1 (.t 212)) 211 true,g 214 (.callF 94 [(.t 213)]) 211 true,o 215 (.pick (.t 211) (.t 214) (.k (.bool false))),o 4 (m 215)])
  .ret))))))))))))))))⟩
def a90 : AFn := ⟨10, [.tmp 4], (.seq (.reg [o 4 (.mv (.k (.str [])))])
  (.seq (.reg [o 5 (m 0),o 6 (.callF 91 [(.t 5)]),o 7 (m 1),o 8 (.callF 91 [(.t 7)]),o 9 (.callF 74 [(.t 6), (.t 8)]),o 4 (m 9)])
  .ret))⟩
def a92 : AFn := ⟨25, [.tmp 4], (.seq (.reg [o 3 (.box (.t 0)),o 4 (.mv (.k (.str [])))])
  (.seq (.dreg [⟨(some 5), .load false 1 (.t 1), none, (some 0)⟩,o 6 (.fadr 0 (.t 2)),⟨(some 7), .load false 1 (.t 6), none, (some 2)⟩,o 8 (.fadr 0 (.t 3)),⟨(some 9), .load false 1 (.t 8), none, (some 4)⟩,o 10 (.callV (.t 5) [(.t 7), (.t 9)]),⟨(some 11), .load false 1 (.t 1), none, (some 6)⟩,o 12 (.fadr 1 (.t 2)),⟨(some 13), .load false 1 (.t 12), none, (some 8)⟩,o 14 (.fadr 1 (.t 3)),⟨(some 15), .load false 1 (.t 14), none, (some 10)⟩,o 16 (.callV (.t 11) [(.t 13), (.t 15)]),⟨(some 17), .load false 1 (.t 1), none, (some 12)⟩,o 18 (.fadr 2 (.t 2)),⟨(some 19), .load false 1 (.t 18), none, (some 14)⟩,o 20 (.fadr 2 (.t 3)),⟨(some 21), .load false 1 (.t 20), none, (some 16)⟩,o 22 (.callV (.t 17) [(.t 19), (.t 21)]),o 23 (.bslice 1 3 [.str [], .str [], .str []] [(0, 1, (.t 10)), (1, 1, (.t 16)), (2, 1, (.t 22))]),o 24 (.callF 93 [(.t 23)]),o 4 (m 24)])
  .ret))⟩
def a93 : AFn := ⟨18, [.tmp 2], (.seq (.reg [o 2 (.mv (.k (.str [])))])
  (.seq (.reg [o 3 (.mv (.k (.str [48])))])
  (.seq (.seq (.reg [o 4 (.mv (.k (.int .i64 0)))])
   (.block 0 (.loop (.seq (.seq (.reg [o 5 (m 4),o 6 (m 0),o 7 (.len .slice (.t 6)),o 8 (.bin .lss .none (.t 5) (.t 7))])
      (.cond (.t 8) .skip
      (.exit 0)))
     (.seq (.block 1 (.reg [o 11 (m 3),o 12 (m 0),o 13 (m 4),o 14 (.iadr 1 (.t 12) (.t 13)),o 15 (.load false 1 (.t 14)),o 16 (.callF 72 [(.t 11), (.t 15)]),o 3 (m 16)]))
     (.reg [o 9 (m 4),o 10 (.bin .add .none (.t 9) (.k (.int .i64 1))),o 4 (m 10)]))))))
  (.seq (.reg [o 17 (m 3),o 2 (m 17)])
  .ret))))⟩
def tab : T AFn := (.node (.node .nil none (.node .nil none (.node .nil none (.node .nil none (.node (.node .nil (some a93) .nil) none .nil))))) none (.node (.node .nil none (.node .nil none (.node .nil none (.node (.node .nil (some a92) .nil) none .nil)))) none (.node (.node .nil none (.node .nil none (.node (.node .nil (some a90) .nil) none .nil))) none (.node .nil (some a14) .nil))))
section
open Go.Proofs
theorem b14 : Chk 14 a14 := by unfold Chk; kernel_rfl
theorem b90 : Chk 90 a90 := by unfold Chk; kernel_rfl
theorem b92 : Chk 92 a92 := by unfold Chk; kernel_rfl
theorem b93 : Chk 93 a93 := by unfold Chk; kernel_rfl
theorem all : T.Forall Chk tab (fun n => n) := ⟨C.no, ⟨C.no, trivial, ⟨C.no, trivial, ⟨C.no, trivial, ⟨C.no, trivial, ⟨C.no, ⟨C.yes b93, trivial, trivial⟩, trivial⟩⟩⟩⟩⟩, ⟨C.no, ⟨C.no, trivial, ⟨C.no, trivial, ⟨C.no, trivial, ⟨C.no, ⟨C.yes b92, trivial, trivial⟩, trivial⟩⟩⟩⟩, ⟨C.no, ⟨C.no, trivial, ⟨C.no, trivial, ⟨C.no, ⟨C.yes b90, trivial, trivial⟩, trivial⟩⟩⟩, ⟨C.yes b14, trivial, trivial⟩⟩⟩⟩
theorem good (n : Nat) (a : AFn) (h : tab.get n = some a) : chk Tryz.prog n = some a := T.get_forall tab (fun n => n) all n a h
end
end Go.Ae.G

/- NumberAngles: sums and products of machine integers, as texts. -/
set_option linter.unusedVariables false
set_option linter.unusedSimpArgs false
set_option maxRecDepth 100000
set_option maxHeartbeats 2000000
namespace Go.Ae
open Bg N Go.Proofs
noncomputable section
def EG : Env := E3.add G.tab
theorem geG : Ge E3 EG := Ge.add _ _
theorem gg3 {f : Nat} {args : List AV} {h : Hp} {v : AV} (hc : Gv E3 f args h v) : Gv EG f args h v := hc.ge fun _ _ _ hk => hk.ge geG
theorem upG {f : Nat} {args : List AV} {h h' : Hp} {v : AV} {K : AV → Hp → Prop} (hc : ∀ K, CallWp E3 f args h K ↔ K v h') : CallWp EG f args h K ↔ K v h' := up geG hc
section
variable {h h' hp : Hp} {K : AV → Hp → Prop} {tm : T AV} {r a b c d : Rat}
theorem d93_3 {t : Nat} (hA : At h t [.str (txtR a), .str (txtR b), .str (txtR c)]) (ht : t < h.next) (i : Br 100 a) (j : Br 100 b) (k : Br 100 c) : Gv EG 93 [.sl t 0 3 1] h (.str (txtR (a + b + c))) := by
  refine Gv.of (CallWp.fn (fn := G.a93) rfl rfl rfl ?_)
  unfold G.a93
  obtain ⟨st, hg⟩ := hA
  repeat' (with_reducible first | simp (disch := first | assumption | omega | (simp only [go_sem, ne_eq, Nat.reduceAdd, Nat.reduceLeDiff] <;> omega) | fail) only [go_sem, seval, Wp.unroll, hg] | (refine Gv.wp (gg3 (d72z (i.mono (by decide)))) fun _ _ _ _ => ?_) | (refine Gv.wp (gg3 (d72 (a := a) (b := b) (i.mono (by decide)) (j.mono (by decide)))) fun _ _ _ _ => ?_) | (refine Gv.wp (gg3 (d72 (a := a + b) (b := c) ((i.add j).mono (by decide)) (k.mono (by decide)))) fun _ _ _ _ => ?_) | ((first | apply k1 | apply k2 | apply k3 | apply k4 | apply k5 | apply k6 | apply k7) <;> intro hc))
  (try first | refine ⟨trivial, ?_⟩ | refine ⟨rfl, ?_⟩); (repeat (first | exact Grs.refl _ | assumption | refine Grs.push ?_ | refine Grs.ov ?_ | refine Grs.put ?_ (by (try simp only [Hp.next_push, Hp.next_put, Hp.ov_next, Hp.clk_push, Hp.clk_put, Hp.ov_clk]); omega)))
theorem d93_4 {t : Nat} (hA : At h t [.str (txtR a), .str (txtR b), .str (txtR c), .str (txtR d)]) (ht : t < h.next) (i : Br 100 a) (j : Br 100 b) (k : Br 100 c) (l : Br 100 d) : Gv EG 93 [.sl t 0 4 1] h (.str (txtR (a + b + c + d))) := by
  refine Gv.of (CallWp.fn (fn := G.a93) rfl rfl rfl ?_)
  unfold G.a93
  obtain ⟨st, hg⟩ := hA
  repeat' (with_reducible first | simp (disch := first | assumption | omega | (simp only [go_sem, ne_eq, Nat.reduceAdd, Nat.reduceLeDiff] <;> omega) | fail) only [go_sem, seval, Wp.unroll, hg] | (refine Gv.wp (gg3 (d72z (i.mono (by decide)))) fun _ _ _ _ => ?_) | (refine Gv.wp (gg3 (d72 (a := a) (b := b) (i.mono (by decide)) (j.mono (by decide)))) fun _ _ _ _ => ?_) | (refine Gv.wp (gg3 (d72 (a := a + b) (b := c) ((i.add j).mono (by decide)) (k.mono (by decide)))) fun _ _ _ _ => ?_) | (refine Gv.wp (gg3 (d72 (a := a + b + c) (b := d) (((i.add j).add k).mono (by decide)) (l.mono (by decide)))) fun _ _ _ _ => ?_) | ((first | apply k1 | apply k2 | apply k3 | apply k4 | apply k5 | apply k6 | apply k7) <;> intro hc))
  (try first | refine ⟨trivial, ?_⟩ | refine ⟨rfl, ?_⟩); (repeat (first | exact Grs.refl _ | assumption | refine Grs.push ?_ | refine Grs.ov ?_ | refine Grs.put ?_ (by (try simp only [Hp.next_push, Hp.next_put, Hp.ov_next, Hp.clk_push, Hp.clk_put, Hp.ov_clk]); omega)))
theorem AtS.ovs {h h' : Hp} {k j t : Nat} {g : Grw h h' k j} {cs : List AV} (a : AtS h t cs) : AtS (h.ov h' g) t cs := a.grs ⟨_, _, g⟩
theorem AtS.pushs {h : Hp} {o : Nat → AObj} {t : Nat} {cs : List AV} (a : AtS h t cs) : AtS (h.push o) t cs := a.grs (Grs.push (Grs.refl h))
theorem AtS.push' {h : Hp} {t : Nat} {cs : List AV} (ht : t = h.next) : AtS (h.push fun s => .row cs true s) t cs := by rw [ht]; exact AtS.push
theorem AtS.put' {h : Hp} {t u : Nat} {cs : List AV} (ht : t = u) (hu : u < h.next) : AtS (h.put u fun s => .row cs true s) t cs := by rw [ht]; exact AtS.put hu
theorem itoaP (n : Nat) : Lib.itoa n = decP n 1 := by
  unfold Lib.itoa
  rw [if_neg (by omega), Int.toNat_natCast]
  have := decP_pad n 1 (by omega)
  rw [← this]
  have h2 := digits_len n
  have : 1 - (Lib.decDigits n).length = 0 := by omega
  rw [this]; rfl
theorem Br_int {z : Int} (hz : z.natAbs < 1000000000000000000000000000) : Br 3 (z : Rat) := by
  unfold Br Lr
  rw [Rat.num_intCast, Rat.den_intCast]
  omega
theorem d90 {x y : Int} (hx : -9223372036854775807 ≤ x ∧ x ≤ 9223372036854775807) (hy : -9223372036854775807 ≤ y ∧ y ≤ 9223372036854775807) : Gv EG 90 [.int .i64 x, .int .i64 y] h (.str (txtR (((x * y : Int)) : Rat))) := by
  refine Gv.of (CallWp.fn (fn := G.a90) rfl rfl rfl ?_)
  unfold G.a90
  have e1 := fun h => d91 (h := h) hx
  have e2 := fun h => d91 (h := h) hy
  rw [← txtR_int] at e1 e2
  have e3 := fun h => d74 (h := h) ((Br_int (z := x) (by omega)).mono (by decide : 3 ≤ 2000)) ((Br_int (z := y) (by omega)).mono (by decide : 3 ≤ 2000))
  rw [← Rat.intCast_mul] at e3
  repeat' (with_reducible first | simp (disch := first | assumption | omega | (simp only [go_sem, ne_eq, Nat.reduceAdd, Nat.reduceLeDiff] <;> omega) | fail) only [go_sem, seval] | (refine Gv.wp (gg3 (e1 _)) fun _ _ _ _ => ?_) | (refine Gv.wp (gg3 (e2 _)) fun _ _ _ _ => ?_) | (refine Gv.wp (gg3 (e3 _)) fun _ _ _ _ => ?_) | ((first | apply k1 | apply k2 | apply k3 | apply k4 | apply k5 | apply k6 | apply k7) <;> intro hc))
  (try first | refine ⟨trivial, ?_⟩ | refine ⟨rfl, ?_⟩); (repeat (first | exact Grs.refl _ | assumption | refine Grs.push ?_ | refine Grs.ov ?_ | refine Grs.put ?_ (by (try simp only [Hp.next_push, Hp.next_put, Hp.ov_next, Hp.clk_push, Hp.clk_put, Hp.ov_clk]); omega)))
theorem d92 {t1 t2 : Nat} {x y z u v w : Int} (h1 : AtS h t1 [.fn 90 []]) (h2 : AtS h t2 [.int .i64 u, .int .i64 v, .int .i64 w])
    (b1 : (-9223372036854775807 ≤ x ∧ x ≤ 9223372036854775807) ∧ (-9223372036854775807 ≤ y ∧ y ≤ 9223372036854775807) ∧ (-9223372036854775807 ≤ z ∧ z ≤ 9223372036854775807))
    (b2 : (-9223372036854775807 ≤ u ∧ u ≤ 9223372036854775807) ∧ (-9223372036854775807 ≤ v ∧ v ≤ 9223372036854775807) ∧ (-9223372036854775807 ≤ w ∧ w ≤ 9223372036854775807)) (b3 : (u * x).natAbs < 1000000000000000000000000000 ∧ (v * y).natAbs < 1000000000000000000000000000 ∧ (w * z).natAbs < 1000000000000000000000000000) :
    Gv EG 92 [.agg [.int .i64 x, .int .i64 y, .int .i64 z], .ptr t1 0, .ptr t2 0] h (.str (txtR (((u * x + v * y + w * z : Int)) : Rat))) := by
  refine Gv.of (CallWp.fn (fn := G.a92) rfl rfl rfl ?_)
  unfold G.a92
  obtain ⟨s1, q1, c1, l1⟩ := h1
  obtain ⟨s2, q2, c2, l2⟩ := h2
  rw [Rat.intCast_add, Rat.intCast_add]
  repeat' (with_reducible first | simp (disch := first | assumption | omega | (simp only [go_sem, ne_eq, Nat.reduceAdd, Nat.reduceLeDiff] <;> omega) | fail) only [go_sem, seval, q1, q2] | (refine Gv.wp (d90 (x := u) (y := x) b2.1 b1.1) fun _ _ _ _ => ?_) | (refine Gv.wp (d90 (x := v) (y := y) b2.2.1 b1.2.1) fun _ _ _ _ => ?_) | (refine Gv.wp (d90 (x := w) (y := z) b2.2.2 b1.2.2) fun _ _ _ _ => ?_) | (refine Gv.wp (d93_3 (a := ((u * x : Int) : Rat)) (b := ((v * y : Int) : Rat)) (c := ((w * z : Int) : Rat)) (by simp (disch := first | assumption | omega | (simp only [go_sem, ne_eq, Nat.reduceAdd, Nat.reduceLeDiff] <;> omega) | fail) only [go_sem, seval]) (by (first | omega | (simp only [Hp.next_push, Hp.next_put, Hp.ov_next, Hp.clk_push, Hp.clk_put, Hp.ov_clk] <;> omega) | fail)) ((Br_int b3.1).mono (by decide)) ((Br_int b3.2.1).mono (by decide)) ((Br_int b3.2.2).mono (by decide))) fun _ _ _ _ => ?_) | ((first | apply k1 | apply k2 | apply k3 | apply k4 | apply k5 | apply k6 | apply k7) <;> intro hc))
  (try first | refine ⟨trivial, ?_⟩ | refine ⟨rfl, ?_⟩); (repeat (first | exact Grs.refl _ | assumption | refine Grs.push ?_ | refine Grs.ov ?_ | refine Grs.put ?_ (by (try simp only [Hp.next_push, Hp.next_put, Hp.ov_next, Hp.clk_push, Hp.clk_put, Hp.ov_clk]); omega)))
end
end
end Go.Ae


/- NumberAngles' function returns true. -/
set_option linter.unusedVariables false
set_option linter.unusedSimpArgs false
set_option maxRecDepth 100000
set_option exponentiation.threshold 1000
set_option maxHeartbeats 4000000
namespace Go.Ae
open Bg N Go.Proofs
noncomputable section
def ok3 (x y z : Int) : Prop := -30000 ≤ x ∧ x ≤ 30000 ∧ -30000 ≤ y ∧ y ≤ 30000 ∧ -30000 ≤ z ∧ z ≤ 30000
theorem mul3 {a x : Int} (ha : -30000 ≤ a ∧ a ≤ 30000) (hx : -30000 ≤ x ∧ x ≤ 30000) : -900000000 ≤ a * x ∧ a * x ≤ 900000000 := by
  have h := Int.natAbs_mul a x
  have : a.natAbs * x.natAbs ≤ 30000 * 30000 := Nat.mul_le_mul (by omega) (by omega)
  omega
theorem mulb {a x : Int} {m n : Nat} (ha : a.natAbs ≤ m) (hx : x.natAbs ≤ n) : (a * x).natAbs ≤ m * n := by
  rw [Int.natAbs_mul]; exact Nat.mul_le_mul ha hx
section
variable {h h' hp : Hp} {K : AV → Hp → Prop} {tm : T AV}
theorem txt_nat (n : Nat) : decP n 1 = txtR ((n : Int) : Rat) := by rw [txtR_int, txtZ_nat]
theorem law14_walk (hG : Grs h hp) {a b c x y z v1 v2 v3 s q g1 g2 : Int} {n : Nat} {p2 p3 : Nat} {L H S1 S2 S3 S4 SS NT LL HH : List UInt8} (h2 : val tm (.t 2) = .ptr p2 0) (h3 : val tm (.t 3) = .ptr p3 0)
    (g2' : AtS hp p2 [.int .i64 a, .int .i64 b, .int .i64 c]) (g3' : AtS hp p3 [.int .i64 x, .int .i64 y, .int .i64 z])
    (e1 : ∀ h, Gv EG 84 [plc a b c, plc x y z] h (.tup [plc v1 v2 v3, .int .i64 0])) (e2 : ∀ h, Gv EG 84 [plc x y z, plc a b c] h (.tup [plc (-v1) (-v2) (-v3), .int .i64 0]))
    (e3 : ∀ h, Gv EG 83 [plc a b c, plc x y z] h (.tup [.int .i64 s, .int .i64 0])) (e4 : ∀ h, Gv EG 83 [plc a b c, plc a b c] h (.tup [.int .i64 n, .int .i64 0])) (e5 : ∀ h, Gv EG 83 [plc x y z, plc x y z] h (.tup [.int .i64 q, .int .i64 0]))
    (e6 : ∀ h, Gv EG 85 [plc a b c] h (.tup [.agg [.str L, .str H], .int .i64 0])) (e59 : ∀ h, Gv EG 59 [.agg [.str L, .str H]] h (.int .i64 0))
    (eat1 : ∀ h t1 t2, AtS h t1 [.fn 90 []] → AtS h t2 [.int .i64 v1, .int .i64 v2, .int .i64 v3] → Gv EG 92 [plc a b c, .ptr t1 0, .ptr t2 0] h (.str [48]))
    (eat2 : ∀ h t1 t2, AtS h t1 [.fn 90 []] → AtS h t2 [.int .i64 v1, .int .i64 v2, .int .i64 v3] → Gv EG 92 [plc x y z, .ptr t1 0, .ptr t2 0] h (.str [48]))
    (eb1 : ∀ h, Gv EG 90 [.int .i64 v1, .int .i64 v1] h (.str S1)) (eb2 : ∀ h, Gv EG 90 [.int .i64 v2, .int .i64 v2] h (.str S2)) (eb3 : ∀ h, Gv EG 90 [.int .i64 v3, .int .i64 v3] h (.str S3)) (eb4 : ∀ h, Gv EG 90 [.int .i64 s, .int .i64 s] h (.str S4)) (eb5 : ∀ h, Gv EG 90 [.int .i64 n, .int .i64 q] h (.str SS))
    (esum : ∀ h t, At h t [.str S1, .str S2, .str S3, .str S4] → t < h.next → Gv EG 93 [.sl t 0 4 1] h (.str SS)) (eint : ∀ h, Gv EG 91 [.int .i64 n] h (.str NT)) (eR1 : ∀ h, Gv EG 74 [.str L, .str L] h (.str LL)) (eR2 : ∀ h, Gv EG 74 [.str H, .str H] h (.str HH))
    (eC1 : ∀ h, Gv EG 75 [.str LL, .str NT] h (.int .i64 g1)) (eC2 : ∀ h, Gv EG 75 [.str HH, .str NT] h (.int .i64 g2)) (l1 : g1 ≤ 0) (l2 : 0 ≤ g2)
    (j1 : ∀ {h K}, CallWp EG 94 [.str L] h K ↔ K (.bool true) h) (j2 : ∀ {h K}, CallWp EG 94 [.str H] h K ↔ K (.bool true) h) (w1 : IntKind.wrap .i64 (- -v1) = v1) (w2 : IntKind.wrap .i64 (- -v2) = v2) (w3 : IntKind.wrap .i64 (- -v3) = v3) (hq0 : ¬ q < 0) (hn0 : ¬ (n : Int) < 0) :
    Wp EG (G.a14.code.post 4) ⟨tm, hp⟩ (RetQ [.tmp 4] fun v h' => v = .bool true ∧ Grs h h') := by
  obtain ⟨st2, q2', c2, t2⟩ := id g2'
  obtain ⟨st3, q3', c3, t3⟩ := id g3'
  unfold G.a14
  dsimp only [ACode.post]
  repeat' (with_reducible first | simp (disch := first | assumption | omega | (simp only [go_sem, ne_eq, Nat.reduceAdd, Nat.reduceLeDiff] <;> omega) | fail) only [go_sem, seval, h2, h3, q2', q3', w1, w2, w3, hq0, hn0, l1, l2, j1, j2] | (refine Gv.wp (e1 _) fun _ _ _ _ => ?_) | (refine Gv.wp (e2 _) fun _ _ _ _ => ?_) | (refine Gv.wp (e3 _) fun _ _ _ _ => ?_) | (refine Gv.wp (e4 _) fun _ _ _ _ => ?_) | (refine Gv.wp (e5 _) fun _ _ _ _ => ?_) | (refine Gv.wp (e6 _) fun _ _ _ _ => ?_) | (refine Gv.wp (e59 _) fun _ _ _ _ => ?_) | (refine Gv.wp (eb1 _) fun _ _ _ _ => ?_) | (refine Gv.wp (eb2 _) fun _ _ _ _ => ?_) | (refine Gv.wp (eb3 _) fun _ _ _ _ => ?_) | (refine Gv.wp (eb4 _) fun _ _ _ _ => ?_) | (refine Gv.wp (eb5 _) fun _ _ _ _ => ?_) | (refine Gv.wp (esum _ _ (by simp (disch := first | assumption | omega | (simp only [go_sem, ne_eq, Nat.reduceAdd, Nat.reduceLeDiff] <;> omega) | fail) only [go_sem, seval]) (by (first | omega | (simp only [Hp.next_push, Hp.next_put, Hp.ov_next, Hp.clk_push, Hp.clk_put, Hp.ov_clk] <;> omega) | fail))) fun _ _ _ _ => ?_) | (refine Gv.wp (eint _) fun _ _ _ _ => ?_) | (refine Gv.wp (eat1 _ _ _ (by repeat (first | assumption | exact AtS.push' (by (first | omega | (simp only [Hp.next_push, Hp.next_put, Hp.ov_next, Hp.clk_push, Hp.clk_put, Hp.ov_clk] <;> omega) | fail)) | exact AtS.put' (by (first | omega | (simp only [Hp.next_push, Hp.next_put, Hp.ov_next, Hp.clk_push, Hp.clk_put, Hp.ov_clk] <;> omega) | fail)) (by (first | omega | (simp only [Hp.next_push, Hp.next_put, Hp.ov_next, Hp.clk_push, Hp.clk_put, Hp.ov_clk] <;> omega) | fail)) | refine AtS.ovs ?_ | refine AtS.pushs ?_ | refine AtS.other ?_ (by (first | omega | (simp only [Hp.next_push, Hp.next_put, Hp.ov_next, Hp.clk_push, Hp.clk_put, Hp.ov_clk] <;> omega) | fail)))) (by repeat (first | assumption | exact AtS.push' (by (first | omega | (simp only [Hp.next_push, Hp.next_put, Hp.ov_next, Hp.clk_push, Hp.clk_put, Hp.ov_clk] <;> omega) | fail)) | exact AtS.put' (by (first | omega | (simp only [Hp.next_push, Hp.next_put, Hp.ov_next, Hp.clk_push, Hp.clk_put, Hp.ov_clk] <;> omega) | fail)) (by (first | omega | (simp only [Hp.next_push, Hp.next_put, Hp.ov_next, Hp.clk_push, Hp.clk_put, Hp.ov_clk] <;> omega) | fail)) | refine AtS.ovs ?_ | refine AtS.pushs ?_ | refine AtS.other ?_ (by (first | omega | (simp only [Hp.next_push, Hp.next_put, Hp.ov_next, Hp.clk_push, Hp.clk_put, Hp.ov_clk] <;> omega) | fail))))) fun _ _ _ _ => ?_) | (refine Gv.wp (eat2 _ _ _ (by repeat (first | assumption | exact AtS.push' (by (first | omega | (simp only [Hp.next_push, Hp.next_put, Hp.ov_next, Hp.clk_push, Hp.clk_put, Hp.ov_clk] <;> omega) | fail)) | exact AtS.put' (by (first | omega | (simp only [Hp.next_push, Hp.next_put, Hp.ov_next, Hp.clk_push, Hp.clk_put, Hp.ov_clk] <;> omega) | fail)) (by (first | omega | (simp only [Hp.next_push, Hp.next_put, Hp.ov_next, Hp.clk_push, Hp.clk_put, Hp.ov_clk] <;> omega) | fail)) | refine AtS.ovs ?_ | refine AtS.pushs ?_ | refine AtS.other ?_ (by (first | omega | (simp only [Hp.next_push, Hp.next_put, Hp.ov_next, Hp.clk_push, Hp.clk_put, Hp.ov_clk] <;> omega) | fail)))) (by repeat (first | assumption | exact AtS.push' (by (first | omega | (simp only [Hp.next_push, Hp.next_put, Hp.ov_next, Hp.clk_push, Hp.clk_put, Hp.ov_clk] <;> omega) | fail)) | exact AtS.put' (by (first | omega | (simp only [Hp.next_push, Hp.next_put, Hp.ov_next, Hp.clk_push, Hp.clk_put, Hp.ov_clk] <;> omega) | fail)) (by (first | omega | (simp only [Hp.next_push, Hp.next_put, Hp.ov_next, Hp.clk_push, Hp.clk_put, Hp.ov_clk] <;> omega) | fail)) | refine AtS.ovs ?_ | refine AtS.pushs ?_ | refine AtS.other ?_ (by (first | omega | (simp only [Hp.next_push, Hp.next_put, Hp.ov_next, Hp.clk_push, Hp.clk_put, Hp.ov_clk] <;> omega) | fail))))) fun _ _ _ _ => ?_) | (refine Gv.wp (eR1 _) fun _ _ _ _ => ?_) | (refine Gv.wp (eR2 _) fun _ _ _ _ => ?_) | (refine Gv.wp (eC1 _) fun _ _ _ _ => ?_) | (refine Gv.wp (eC2 _) fun _ _ _ _ => ?_) | ((first | apply k1 | apply k2 | apply k3 | apply k4 | apply k5 | apply k6 | apply k7) <;> intro hc))
  refine hG.trans ?_
  (try first | refine ⟨trivial, ?_⟩ | refine ⟨rfl, ?_⟩); (repeat (first | exact Grs.refl _ | assumption | refine Grs.push ?_ | refine Grs.ov ?_ | refine Grs.put ?_ (by (try simp only [Hp.next_push, Hp.next_put, Hp.ov_next, Hp.clk_push, Hp.clk_put, Hp.ov_clk]); omega)))
theorem law14_tail {a b c x y z : Int} {p2 p3 : Nat} (ka : ok3 a b c) (kx : ok3 x y z) (h2 : val tm (.t 2) = .ptr p2 0) (h3 : val tm (.t 3) = .ptr p3 0)
    (g2 : AtS hp p2 [.int .i64 a, .int .i64 b, .int .i64 c]) (g3 : AtS hp p3 [.int .i64 x, .int .i64 y, .int .i64 z]) (hG : Grs h hp) :
    Wp EG (G.a14.code.post 4) ⟨tm, hp⟩ (RetQ [.tmp 4] fun v h' => v = .bool true ∧ Grs h h') := by
  obtain ⟨a1, a2, b1, b2, d1, d2⟩ := id ka
  obtain ⟨x1, x2, y1, y2, z1, z2⟩ := id kx
  have oa : okP a b c := by unfold okP; omega
  have ox : okP x y z := by unfold okP; omega
  have m1 := mul3 ⟨b1, b2⟩ ⟨z1, z2⟩
  have m2 := mul3 ⟨d1, d2⟩ ⟨y1, y2⟩
  have m3 := mul3 ⟨d1, d2⟩ ⟨x1, x2⟩
  have m4 := mul3 ⟨a1, a2⟩ ⟨z1, z2⟩
  have m5 := mul3 ⟨a1, a2⟩ ⟨y1, y2⟩
  have m6 := mul3 ⟨b1, b2⟩ ⟨x1, x2⟩
  have m7 := mul3 ⟨a1, a2⟩ ⟨x1, x2⟩
  have m8 := mul3 ⟨b1, b2⟩ ⟨y1, y2⟩
  have m9 := mul3 ⟨d1, d2⟩ ⟨z1, z2⟩
  have q1 := mul3 ⟨a1, a2⟩ ⟨a1, a2⟩
  have q2 := mul3 ⟨b1, b2⟩ ⟨b1, b2⟩
  have q3 := mul3 ⟨d1, d2⟩ ⟨d1, d2⟩
  have q4 := mul3 ⟨x1, x2⟩ ⟨x1, x2⟩
  have q5 := mul3 ⟨y1, y2⟩ ⟨y1, y2⟩
  have q6 := mul3 ⟨z1, z2⟩ ⟨z1, z2⟩
  have n1 : 0 ≤ a * a := by rw [← Int.natAbs_mul_self]; omega
  have n2 : 0 ≤ b * b := by rw [← Int.natAbs_mul_self]; omega
  have n3 : 0 ≤ c * c := by rw [← Int.natAbs_mul_self]; omega
  have n4 : 0 ≤ x * x := by rw [← Int.natAbs_mul_self]; omega
  have n5 : 0 ≤ y * y := by rw [← Int.natAbs_mul_self]; omega
  have n6 : 0 ≤ z * z := by rw [← Int.natAbs_mul_self]; omega
  have e1 := fun (h : Hp) => c84 (h := h) (a := a) (b := b) (c := c) (x := x) (y := y) (z := z)
  have e2 := fun (h : Hp) => c84 (h := h) (a := x) (b := y) (c := z) (x := a) (y := b) (z := c)
  have e3 := fun (h : Hp) => c83 (h := h) (a := a) (b := b) (c := c) (x := x) (y := y) (z := z)
  have e4 := fun (h : Hp) => c83 (h := h) (a := a) (b := b) (c := c) (x := a) (y := b) (z := c)
  have e5 := fun (h : Hp) => c83 (h := h) (a := x) (b := y) (c := z) (x := x) (y := y) (z := z)
  have e6 := fun (h : Hp) => c85 (h := h) (x := a) (y := b) (z := c)
  simp only [if_pos (And.intro oa ox)] at e1
  simp only [if_pos (And.intro ox oa)] at e2
  simp only [if_pos (And.intro oa ox)] at e3
  simp only [if_pos (And.intro oa oa)] at e4
  simp only [if_pos (And.intro ox ox)] at e5
  simp only [if_pos oa] at e6
  obtain ⟨n, hn⟩ : ∃ n : Nat, a * a + b * b + c * c = n := ⟨_, (Int.toNat_of_nonneg (by omega)).symm⟩
  have hi := isq_spec n
  have hi2 : isq n ≤ isq n * isq n := Nat.le_mul_self _
  rw [hn] at e4 e6
  rw [Int.toNat_natCast] at e6
  obtain ⟨r, hr⟩ : ∃ r, r = isq n := ⟨_, rfl⟩
  obtain ⟨r', hr'⟩ : ∃ r', r' = if isq n * isq n = n then isq n else isq n + 1 := ⟨_, rfl⟩
  simp only [lenS, itoaP] at e6
  rw [← hr'] at e6
  rw [← hr] at e6 hi hi2
  have s1 : r * r ≤ n := hi.1
  have s2 : n ≤ r' * r' := by
    rw [hr', ← hr]
    split
    · omega
    · omega
  have s3 : r ≤ r' := by rw [hr', ← hr]; split <;> omega
  have s4 : r ≤ 100000 := by
    rcases Nat.lt_or_ge 100000 r with c | c
    · have : 100001 * 100001 ≤ r * r := Nat.mul_le_mul c c
      omega
    · exact c
  have s5 : r' ≤ 100001 := by rw [hr', ← hr]; split <;> omega
  clear hr hr' hi hi2
  rw [txt_nat, txt_nat] at e6
  have B1 : Br 3 ((r : Int) : Rat) := Br_int (by omega)
  have B2 : Br 3 ((r' : Int) : Rat) := Br_int (by omega)
  have B3 : Br 3 (((n : Nat) : Int) : Rat) := Br_int (by omega)
  obtain ⟨v1, hv1⟩ : ∃ v, v = b * z - c * y := ⟨_, rfl⟩
  obtain ⟨v2, hv2⟩ : ∃ v, v = c * x - a * z := ⟨_, rfl⟩
  obtain ⟨v3, hv3⟩ : ∃ v, v = a * y - b * x := ⟨_, rfl⟩
  obtain ⟨s, hs⟩ : ∃ v, v = a * x + b * y + c * z := ⟨_, rfl⟩
  obtain ⟨q, hq⟩ : ∃ v, v = x * x + y * y + z * z := ⟨_, rfl⟩
  have g1 : y * c - z * b = -v1 := by rw [hv1]; grind
  have g4 : z * a - x * c = -v2 := by rw [hv2]; grind
  have g5 : x * b - y * a = -v3 := by rw [hv3]; grind
  rw [← hv1, ← hv2, ← hv3] at e1
  rw [g1, g4, g5] at e2
  rw [← hs] at e3
  rw [← hq] at e5
  have w1 : IntKind.wrap .i64 (- -v1) = v1 := by rw [Int.neg_neg]; exact wrap_i64 (by omega)
  have w2 : IntKind.wrap .i64 (- -v2) = v2 := by rw [Int.neg_neg]; exact wrap_i64 (by omega)
  have w3 : IntKind.wrap .i64 (- -v3) = v3 := by rw [Int.neg_neg]; exact wrap_i64 (by omega)
  have z1' : v1 * a + v2 * b + v3 * c = 0 := by rw [hv1, hv2, hv3]; grind
  have z2' : v1 * x + v2 * y + v3 * z = 0 := by rw [hv1, hv2, hv3]; grind
  have lg : v1 * v1 + v2 * v2 + v3 * v3 + s * s = (n : Int) * q := by rw [hv1, hv2, hv3, hs, hq, ← hn]; grind
  have cv1 : v1.natAbs ≤ 1800000000 := by omega
  have cv2 : v2.natAbs ≤ 1800000000 := by omega
  have cv3 : v3.natAbs ≤ 1800000000 := by omega
  have cs : s.natAbs ≤ 2700000000 := by omega
  have cq : q.natAbs ≤ 2700000000 := by omega
  have cn : (n : Int).natAbs ≤ 2700000000 := by omega
  have hq0 : ¬ q < 0 := by omega
  have hn0 : ¬ (n : Int) < 0 := by omega
  have k1 := mulb (a := v1) (x := a) (m := 1800000000) (n := 30000) cv1 (by omega)
  have k2 := mulb (a := v2) (x := b) (m := 1800000000) (n := 30000) cv2 (by omega)
  have k3 := mulb (a := v3) (x := c) (m := 1800000000) (n := 30000) cv3 (by omega)
  have k4 := mulb (a := v1) (x := x) (m := 1800000000) (n := 30000) cv1 (by omega)
  have k5 := mulb (a := v2) (x := y) (m := 1800000000) (n := 30000) cv2 (by omega)
  have k6 := mulb (a := v3) (x := z) (m := 1800000000) (n := 30000) cv3 (by omega)
  have k7 := mulb (a := v1) (x := v1) cv1 cv1
  have k8 := mulb (a := v2) (x := v2) cv2 cv2
  have k9 := mulb (a := v3) (x := v3) cv3 cv3
  have k10 := mulb (a := s) (x := s) cs cs
  have eat1 := fun (h : Hp) (t1 t2 : Nat) g1 g2 => d92 (h := h) (t1 := t1) (t2 := t2) (x := a) (y := b) (z := c) (u := v1) (v := v2) (w := v3) g1 g2 (by omega) (by omega) (by omega)
  have eat2 := fun (h : Hp) (t1 t2 : Nat) g1 g2 => d92 (h := h) (t1 := t1) (t2 := t2) (x := x) (y := y) (z := z) (u := v1) (v := v2) (w := v3) g1 g2 (by omega) (by omega) (by omega)
  rw [z1', Rat.intCast_zero, txtR_zero] at eat1
  rw [z2', Rat.intCast_zero, txtR_zero] at eat2
  have ebig1 := fun (h : Hp) => d90 (h := h) (x := v1) (y := v1) (by omega) (by omega)
  have ebig2 := fun (h : Hp) => d90 (h := h) (x := v2) (y := v2) (by omega) (by omega)
  have ebig3 := fun (h : Hp) => d90 (h := h) (x := v3) (y := v3) (by omega) (by omega)
  have ebig4 := fun (h : Hp) => d90 (h := h) (x := s) (y := s) (by omega) (by omega)
  have ebig5 := fun (h : Hp) => d90 (h := h) (x := (n : Int)) (y := q) (by omega) (by omega)
  have esum := fun (h : Hp) (t : Nat) g l => d93_4 (h := h) (t := t) (a := ((v1 * v1 : Int) : Rat)) (b := ((v2 * v2 : Int) : Rat)) (c := ((v3 * v3 : Int) : Rat)) (d := ((s * s : Int) : Rat)) g l
    ((Br_int (by omega)).mono (by decide)) ((Br_int (by omega)).mono (by decide)) ((Br_int (by omega)).mono (by decide)) ((Br_int (by omega)).mono (by decide))
  rw [← Rat.intCast_add, ← Rat.intCast_add, ← Rat.intCast_add, lg] at esum
  have eint := fun (h : Hp) => d91 (h := h) (z := (n : Int)) (by omega)
  rw [← txtR_int] at eint
  have R1 : (((r : Int) : Rat) * ((r : Int) : Rat)) ≤ (((n : Nat) : Int) : Rat) := by
    rw [← Rat.intCast_mul]
    exact Rat.intCast_le_intCast.2 (by rw [← Int.natCast_mul]; omega)
  have R2 : (((n : Nat) : Int) : Rat) ≤ (((r' : Int) : Rat) * ((r' : Int) : Rat)) := by
    rw [← Rat.intCast_mul]
    exact Rat.intCast_le_intCast.2 (by rw [← Int.natCast_mul]; omega)
  have eR1 := fun (h : Hp) => d74 (h := h) (B1.mono (by decide : 3 ≤ 2000)) (B1.mono (by decide : 3 ≤ 2000))
  have eR2 := fun (h : Hp) => d74 (h := h) (B2.mono (by decide : 3 ≤ 2000)) (B2.mono (by decide : 3 ≤ 2000))
  have eC1 := fun (h : Hp) => d75 (h := h) ((B1.mul B1).mono (by decide : 6 ≤ 2000)) (B3.mono (by decide : 3 ≤ 2000))
  have eC2 := fun (h : Hp) => d75 (h := h) ((B2.mul B2).mono (by decide : 6 ≤ 2000)) (B3.mono (by decide : 3 ≤ 2000))
  have l1 := sgR_le.2 R1
  have l2 := sgR_ge.2 R2
  have i1 := fun {h : Hp} {K : AV → Hp → Prop} => u94 (h := h) (K := K) (r := ((r : Int) : Rat)) (B1.1.mono (by decide)) (B1.2.mono (by decide))
  have i2 := fun {h : Hp} {K : AV → Hp → Prop} => u94 (h := h) (K := K) (r := ((r' : Int) : Rat)) (B2.1.mono (by decide)) (B2.2.mono (by decide))
  rw [Rat.den_intCast, decide_eq_true rfl] at i1 i2
  have j1 := fun {h : Hp} {K : AV → Hp → Prop} => upG (h := h) (K := K) fun K => i1 (h := h) (K := K)
  have j2 := fun {h : Hp} {K : AV → Hp → Prop} => upG (h := h) (K := K) fun K => i2 (h := h) (K := K)
  have hO1 : okR ((r : Int) : Rat) = true := by
    unfold okR; rw [Rat.num_intCast, Rat.den_intCast]
    have : (1000000 : Nat) ≤ 10 ^ 600 := Nat.le_trans (by decide) (Nat.pow_le_pow_right (n := 10) (by decide) (show 6 ≤ 600 by decide))
    exact decide_eq_true (by omega)
  have hO2 : okR ((r' : Int) : Rat) = true := by
    unfold okR; rw [Rat.num_intCast, Rat.den_intCast]
    have : (1000000 : Nat) ≤ 10 ^ 600 := Nat.le_trans (by decide) (Nat.pow_le_pow_right (n := 10) (by decide) (show 6 ≤ 600 by decide))
    exact decide_eq_true (by omega)
  have eSp : spanV (txtR ((r : Int) : Rat)) (txtR ((r' : Int) : Rat)) = 0 := by
    unfold spanV chk2
    rw [checkV_txt, checkV_txt, hO1, hO2, if_pos rfl, if_pos rfl, if_pos rfl, valS_txt, valS_txt, if_neg]
    rw [sgR_gt]
    exact Rat.not_lt.2 (Rat.intCast_le_intCast.2 (by omega))
  have tl1 := txtR_le (n := 3) B1.1 B1.2
  have tl2 := txtR_le (n := 3) B2.1 B2.2
  have e59 := fun (h : Hp) => d59 (h := h) (s := txtR ((r : Int) : Rat)) (u := txtR ((r' : Int) : Rat)) (by omega) (by omega)
  rw [eSp] at e59
  exact law14_walk (h := h) hG (hp := hp) (tm := tm) h2 h3 g2 g3 (fun h => gg3 (gu3 (e1 h))) (fun h => gg3 (gu3 (e2 h))) (fun h => gg3 (e3 h)) (fun h => gg3 (e4 h)) (fun h => gg3 (e5 h)) (fun h => gg3 (gu3 (e6 h))) (fun h => gg3 (e59 h)) (fun h t1 t2 g1 g2 => eat1 h t1 t2 g1 g2) (fun h t1 t2 g1 g2 => eat2 h t1 t2 g1 g2)
    ebig1 ebig2 ebig3 ebig4 ebig5 esum (fun h => gg3 (eint h)) (fun h => gg3 (eR1 h)) (fun h => gg3 (eR2 h)) (fun h => gg3 (eC1 h)) (fun h => gg3 (eC2 h)) l1 l2 j1 j2 w1 w2 w3 hq0 hn0
theorem law14 {a b c x y z : Int} : Gv EG 14 [plc a b c, plc x y z] h (.bool true) := by
  refine Gv.of (CallWp.fn (fn := G.a14) rfl rfl rfl ?_)
  have d17 : ∀ {h : Hp} {K : AV → Hp → Prop}, CallWp EG 17 [] h K ↔ K (.bool true) h := fun {h K} => up (ge3.trans geG) fun K => c17
  have G3 : Grs h (((h.push fun st => .row [.int .i64 a, .int .i64 b, .int .i64 c] true st).push fun st => .row [.int .i64 x, .int .i64 y, .int .i64 z] true st).push fun st => .row [.int .i64 a, .int .i64 b, .int .i64 c, .int .i64 x, .int .i64 y, .int .i64 z] true st) := (Grs.refl h).push.push.push
  have A2 : AtS (((h.push fun st => .row [.int .i64 a, .int .i64 b, .int .i64 c] true st).push fun st => .row [.int .i64 x, .int .i64 y, .int .i64 z] true st).push fun st => .row [.int .i64 a, .int .i64 b, .int .i64 c, .int .i64 x, .int .i64 y, .int .i64 z] true st) h.next [.int .i64 a, .int .i64 b, .int .i64 c] := AtS.push.grs (Grs.refl _).push.push
  have A3 : AtS (((h.push fun st => .row [.int .i64 a, .int .i64 b, .int .i64 c] true st).push fun st => .row [.int .i64 x, .int .i64 y, .int .i64 z] true st).push fun st => .row [.int .i64 a, .int .i64 b, .int .i64 c, .int .i64 x, .int .i64 y, .int .i64 z] true st) (h.next + 1) [.int .i64 x, .int .i64 y, .int .i64 z] := AtS.push.grs (Grs.refl _).push
  have tail := fun (hp : Hp) tm p2 p3 ka kx h2 h3 g2 g3 hG => law14_tail (h := h) (hp := hp) (tm := tm) (a := a) (b := b) (c := c) (x := x) (y := y) (z := z) (p2 := p2) (p3 := p3) ka kx h2 h3 g2 g3 hG
  refine Wp.cut 4 rfl ?_
  generalize ACode.post 4 G.a14.code = rc at tail ⊢
  unfold G.a14
  dsimp only [ACode.pre]
  repeat' (with_reducible first | simp (disch := first | assumption | omega | (simp only [go_sem, ne_eq, Nat.reduceAdd, Nat.reduceLeDiff] <;> omega) | fail) only [go_sem, seval, Wp.unroll, d17] | ((first | apply k1 | apply k2 | apply k3 | apply k4 | apply k5 | apply k6 | apply k7) <;> intro hc))
  all_goals first
    | exact G3
    | (exact tail _ _ h.next (h.next + 1) (by unfold ok3; omega) (by unfold ok3; omega) (by simp (disch := first | assumption | omega | (simp only [go_sem, ne_eq, Nat.reduceAdd, Nat.reduceLeDiff] <;> omega) | fail) only [go_sem, seval]) (by simp (disch := first | assumption | omega | (simp only [go_sem, ne_eq, Nat.reduceAdd, Nat.reduceLeDiff] <;> omega) | fail) only [go_sem, seval]) A2 A3 G3)
end
end
end Go.Ae

