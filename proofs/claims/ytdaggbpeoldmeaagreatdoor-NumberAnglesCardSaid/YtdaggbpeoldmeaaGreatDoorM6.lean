/- Whole numbers of any size: their parts, opposite, sum, product. -/
import Derived.Test.YtdaggbpeoldmeaaGreatDoorM5
set_option linter.unusedVariables false
set_option linter.unusedSimpArgs false
set_option maxRecDepth 100000
namespace Go.Ae
open Bg
noncomputable section
/-- The whole number z, in memory: s and w are the fields. -/
def IsI (h : Hp) (s w : AV) (z : Int) : Prop :=
  (s = .int .i64 z ∧ w = .nils ∧ -9223372036854775808 ≤ z ∧ z ≤ 9223372036854775807) ∨
  (∃ (n t o : Nat) (l : List Nat), w = .sl t o n 1 ∧ Sq .u64 h w l ∧ Dg 18446744073709551616 l ∧ Norm l ∧ 9223372036854775808 ≤ vl 18446744073709551616 l ∧ l.length ≤ 10000 ∧ ((s = .int .i64 1 ∧ z = vl 18446744073709551616 l) ∨ (s = .int .i64 (-1) ∧ z = - (vl 18446744073709551616 l : Int))))
/-- The same of a value. -/
def IsV (h : Hp) (v : AV) (z : Int) : Prop := ∃ s w, v = .agg [s, w] ∧ IsI h s w z
/-- At most so many digits. -/
def Lim (n : Nat) (z : Int) : Prop := z.natAbs < 18446744073709551616 ^ n
theorem Lim.add {n : Nat} {x y : Int} (hx : Lim n x) (hy : Lim n y) : Lim (n + 1) (x + y) := by
  unfold Lim at *
  rw [Nat.pow_succ]
  have : (x + y).natAbs ≤ x.natAbs + y.natAbs := Int.natAbs_add_le x y
  omega
theorem Lim.mul {n m : Nat} {x y : Int} (hx : Lim n x) (hy : Lim m y) : Lim (n + m) (x * y) := by
  unfold Lim at *
  rw [Nat.pow_add, Int.natAbs_mul]
  rcases Nat.eq_zero_or_pos y.natAbs with h | h
  · rw [h, Nat.mul_zero]; exact Nat.mul_pos (Nat.pow_pos (by decide)) (Nat.pow_pos (by decide))
  · exact Nat.mul_lt_mul_of_lt_of_lt hx hy
theorem Lim.mono {n m : Nat} {x : Int} (hx : Lim n x) (h : n ≤ m) : Lim m x := Nat.lt_of_lt_of_le hx (Nat.pow_le_pow_right (by decide) h)
theorem Lim.neg {n : Nat} {x : Int} (hx : Lim n x) : Lim n (-x) := by unfold Lim at *; rwa [Int.natAbs_neg]
theorem Lim.sub {n : Nat} {x y : Int} (hx : Lim n x) (hy : Lim n y) : Lim (n + 1) (x - y) := by rw [Int.sub_eq_add_neg]; exact hx.add hy.neg
section
variable {h h' : Hp} {K : AV → Hp → Prop} {s w s' w' : AV} {x y z : Int}
theorem IsI.grs (i : IsI h s w z) (g : Grs h h') : IsI h' s w z := by
  rcases i with i | ⟨n, t, o, l, e, hs, r⟩
  · exact .inl i
  · exact .inr ⟨n, t, o, l, e, hs.grs g, r⟩
theorem IsV.grs {v : AV} (i : IsV h v z) (g : Grs h h') : IsV h' v z := by
  obtain ⟨s, w, e, i⟩ := i
  exact ⟨s, w, e, i.grs g⟩
theorem few_len {l : List Nat} {n : Nat} (hn : Norm l) (h : vl 18446744073709551616 l < 18446744073709551616 ^ n) : l.length ≤ n := by
  rcases Nat.lt_or_ge n l.length with c | c
  · have h0 : l ≠ [] := by rintro rfl; simp at c
    obtain ⟨m, x, rfl⟩ := snoc_of h0
    have h1 := vl_ge (B := 18446744073709551616) (l := m) (norm_snoc.1 hn)
    have h2 := Nat.pow_le_pow_right (n := 18446744073709551616) (by decide) (show n ≤ m.length by simp at c; omega)
    omega
  · exact c
theorem Lim.len {l : List Nat} {n : Nat} {z : Int} (hz : Lim n z) (hn : Norm l) (h : vl 18446744073709551616 l = z.natAbs) : l.length ≤ n := few_len hn (by rw [h]; exact hz)
/-- made -/
def sgn (b : Bool) (n : Nat) : Int := if b = true then - (n : Int) else n
end
end
end Go.Ae


/- Words: quotient and rest. -/
set_option linter.unusedVariables false
set_option linter.unusedSimpArgs false
set_option maxRecDepth 100000
namespace Go.Ae
open Bg
noncomputable section
theorem vl_drop {B j : Nat} {l : List Nat} (h : j < l.length) : vl B (l.drop j) = l.getD j 0 + B * vl B (l.drop (j + 1)) := by
  rw [List.drop_eq_getElem_cons h, vl_cons, getD_eq h]
theorem vl_drop_set {B j q : Nat} {l : List Nat} (h : j < l.length) : vl B ((l.set j q).drop j) = q + B * vl B (l.drop (j + 1)) := by
  rw [vl_drop (by simpa using h), getD_set h, List.drop_set_of_lt (by omega)]
/-- Where a number is small, there are zeros. -/
theorem vl_top0 {B n : Nat} {l : List Nat} (hB : 0 < B) (h : vl B l < B ^ n) : vl B (l.drop n) = 0 ∧ vl B (l.take n) = vl B l := by
  rcases Nat.lt_or_ge l.length n with c | c
  · rw [List.drop_of_length_le (by omega), List.take_of_length_le (by omega)]; exact ⟨rfl, rfl⟩
  · have e := vl_split (B := B) (l := l) n c
    rcases Nat.eq_zero_or_pos (vl B (l.drop n)) with h0 | h0
    · rw [h0, Nat.mul_zero, Nat.add_zero] at e; exact ⟨h0, e.symm⟩
    · have : B ^ n * 1 ≤ B ^ n * vl B (l.drop n) := Nat.mul_le_mul_left _ h0
      omega
theorem short_step {B A Q b r x q r' : Nat} (h : A = Q * b + r) (hq : r * B + x = b * q + r') : x + B * A = (q + B * Q) * b + r' := by
  rw [h, Nat.add_mul, Nat.mul_add, Nat.mul_assoc, Nat.mul_comm q b, Nat.mul_comm B r]; omega
theorem long_step {B Lj A Q V R W q r : Nat} (h : A = Q * V + R) (hW : W = Lj + B * R) (hq : W = V * q + r) : Lj + B * A = (q + B * Q) * V + r := by
  rw [h, Nat.add_mul, Nat.mul_add, Nat.mul_assoc, Nat.mul_comm q V]; omega
section
variable {h hp : Hp} {K : AV → Hp → Prop} {tm : T AV}
end
end
end Go.Ae


/- The reference's digits: difference, product, quotient by one digit. -/
set_option linter.unusedVariables false
set_option linter.unusedSimpArgs false
set_option maxRecDepth 100000
namespace Go.Ae
open Bg
noncomputable section
theorem sub9_step {P o X Y x y bo bo' r : Nat} (h : o + Y = X + P * bo) (hr : r + y + bo = x + 1000000000 * bo') : o + P * r + (Y + P * y) = X + P * x + P * 1000000000 * bo' := by
  have e2 : P * (r + y + bo) = P * (x + 1000000000 * bo') := by rw [hr]
  rw [Nat.mul_add, Nat.mul_add, Nat.mul_add, ← Nat.mul_assoc] at e2
  omega
section
variable {h : Hp} {K : AV → Hp → Prop}
theorem d252 {va vb : AV} {a b : List Nat} (ha : Sq .i64 h va a) (hb : Sq .i64 h vb b) (da : Dg 1000000000 a) (db : Dg 1000000000 b) (hla : a.length ≤ 1000000) (hlb : b.length ≤ a.length) (hv : vl 1000000000 b ≤ vl 1000000000 a) :
    Gp E3 252 [va, vb] h fun v h' => ∃ l, Sq .i64 h' v l ∧ Dg 1000000000 l ∧ Norm l ∧ vl 1000000000 l = vl 1000000000 a - vl 1000000000 b := by
  refine Gp.of (CallWp.fn (fn := R.a252) rfl rfl rfl ?_)
  unfold R.a252
  repeat' (with_reducible first | simp (disch := first | assumption | omega | (simp only [go_sem, ne_eq, Nat.reduceAdd, Nat.reduceLeDiff] <;> omega) | fail) only [go_sem, seval] | ((first | apply k1 | apply k2 | apply k3 | apply k4 | apply k5 | apply k6 | apply k7) <;> intro hc))
  refine Wp.loopI (fun m s => ∃ (i bo : Nat) (out : List Nat) (v : AV), val s.tm (.t 0) = va ∧ val s.tm (.t 1) = vb ∧ val s.tm (.t 5) = v ∧ val s.tm (.t 6) = .int .i64 bo ∧ val s.tm (.t 7) = .int .i64 i ∧
    Grs h s.hp ∧ OwnZ 1 h s.hp v i (out.map (wd .i64)) ∧ out.length = i ∧ Dg 1000000000 out ∧ bo ≤ 1 ∧ i ≤ a.length ∧
    vl 1000000000 out + vl 1000000000 (b.take i) = vl 1000000000 (a.take i) + 1000000000 ^ i * bo ∧ a.length - i = m) (n := a.length) ?_ ?_
  · exact ⟨0, 0, [], .nils, by simp (disch := first | assumption | omega | (simp only [go_sem, ne_eq, Nat.reduceAdd, Nat.reduceLeDiff] <;> omega) | fail) only [go_sem, seval], by simp (disch := first | assumption | omega | (simp only [go_sem, ne_eq, Nat.reduceAdd, Nat.reduceLeDiff] <;> omega) | fail) only [go_sem, seval], by simp (disch := first | assumption | omega | (simp only [go_sem, ne_eq, Nat.reduceAdd, Nat.reduceLeDiff] <;> omega) | fail) only [go_sem, seval], by (simp (disch := first | assumption | omega | (simp only [go_sem, ne_eq, Nat.reduceAdd, Nat.reduceLeDiff] <;> omega) | fail) only [go_sem, seval]) <;> rfl, by (simp (disch := first | assumption | omega | (simp only [go_sem, ne_eq, Nat.reduceAdd, Nat.reduceLeDiff] <;> omega) | fail) only [go_sem, seval]) <;> rfl, Grs.refl _, OwnZ.nil, rfl, Dg.nil, by omega, by omega, by simp [vl], rfl⟩
  · rintro m ⟨tm, hp⟩ ⟨i, bo, out, v, h0, h1, h5, h6, h7, hG, hO, hlo, hd, hbo, hile, hinv, rfl⟩
    simp only at h0 h1 h5 h6 h7 hG hO
    have ra := (ha.grs hG).rd
    have lna := ra.len
    by_cases hlt : i < a.length
    · have hlt' : (i : Int) < a.length := by omega
      have ada := ra.adr
      have lda := ra.load i hlt
      have ola := ra.old (by omega)
      have dB := fun {K : AV → Hp → Prop} => d296 (K := K) (hb.grs hG) i
      have tka := vl_take_succ (B := 1000000000) hlt
      have tkb := vl_take_any (B := 1000000000) (l := b) (i := i)
      have hxd := Dg.getD (B := 1000000000) (by decide) da i
      have hyd := Dg.getD (B := 1000000000) (by decide) db i
      have fin : ∀ r bo', r + b.getD i 0 + bo = a.getD i 0 + 1000000000 * bo' → vl 1000000000 (out ++ [r]) + vl 1000000000 (b.take (i + 1)) = vl 1000000000 (a.take (i + 1)) + 1000000000 ^ (i + 1) * bo' := by
        intro r bo' hr
        rw [vl_snoc, hlo, tka, tkb, Nat.pow_succ]
        exact sub9_step hinv hr
      generalize a.getD i 0 = xi at *
      generalize b.getD i 0 = yi at *
      by_cases hn : (xi : Int) - yi - bo < 0
      · have er : (xi : Int) - yi - bo + 1000000000 = ((xi + 1000000000 - yi - bo : Nat) : Int) := by omega
        repeat' (with_reducible first | simp (disch := first | assumption | omega | (simp only [go_sem, ne_eq, Nat.reduceAdd, Nat.reduceLeDiff] <;> omega) | fail) only [go_sem, seval, h0, h1, h5, h6, h7, lna, hlt', ada, lda, ola, dB, hn, er, w_app] | ((first | apply k1 | apply k2 | apply k3 | apply k4 | apply k5 | apply k6 | apply k7) <;> intro hc))
        refine OwnZ.wp (h0 := h) (b := 8) rfl hG hO rfl (by decide) (by omega) (by omega) fun v' h' G' O' => ?_
        repeat' (with_reducible first | simp (disch := first | assumption | omega | (simp only [go_sem, ne_eq, Nat.reduceAdd, Nat.reduceLeDiff] <;> omega) | fail) only [go_sem, seval, h0, h1, h5, h6, h7] | ((first | apply k1 | apply k2 | apply k3 | apply k4 | apply k5 | apply k6 | apply k7) <;> intro hc))
        refine ⟨_, ?_, i + 1, 1, out ++ [xi + 1000000000 - yi - bo], rfl, rfl, G', ?_, by simp [hlo], hd.append (Dg.cons (by omega) Dg.nil), Nat.le_refl _, hlt, fin _ _ (by omega), rfl⟩
        · omega
        · rw [List.map_append]; exact O'
      · have er : (xi : Int) - yi - bo = ((xi - yi - bo : Nat) : Int) := by omega
        rw [er] at hn
        repeat' (with_reducible first | simp (disch := first | assumption | omega | (simp only [go_sem, ne_eq, Nat.reduceAdd, Nat.reduceLeDiff] <;> omega) | fail) only [go_sem, seval, h0, h1, h5, h6, h7, lna, hlt', ada, lda, ola, dB, er, hn, w_app] | ((first | apply k1 | apply k2 | apply k3 | apply k4 | apply k5 | apply k6 | apply k7) <;> intro hc))
        refine OwnZ.wp (h0 := h) (b := 8) rfl hG hO rfl (by decide) (by omega) (by omega) fun v' h' G' O' => ?_
        repeat' (with_reducible first | simp (disch := first | assumption | omega | (simp only [go_sem, ne_eq, Nat.reduceAdd, Nat.reduceLeDiff] <;> omega) | fail) only [go_sem, seval, h0, h1, h5, h6, h7] | ((first | apply k1 | apply k2 | apply k3 | apply k4 | apply k5 | apply k6 | apply k7) <;> intro hc))
        refine ⟨_, ?_, i + 1, 0, out ++ [xi - yi - bo], rfl, rfl, G', ?_, by simp [hlo], hd.append (Dg.cons (by omega) Dg.nil), by omega, hlt, fin _ _ (by omega), rfl⟩
        · omega
        · rw [List.map_append]; exact O'
    · have hlt' : ¬ (i : Int) < a.length := by omega
      obtain rfl : i = a.length := by omega
      repeat' (with_reducible first | simp (disch := first | assumption | omega | (simp only [go_sem, ne_eq, Nat.reduceAdd, Nat.reduceLeDiff] <;> omega) | fail) only [go_sem, seval, h0, h1, h5, h6, h7, lna, hlt'] | ((first | apply k1 | apply k2 | apply k3 | apply k4 | apply k5 | apply k6 | apply k7) <;> intro hc))
      refine Gp.wp (dg271 (hO.sq hlo) (by omega)) fun v' h' k j g hv' => ?_
      repeat' (with_reducible first | simp (disch := first | assumption | omega | (simp only [go_sem, ne_eq, Nat.reduceAdd, Nat.reduceLeDiff] <;> omega) | fail) only [go_sem, seval] | ((first | apply k1 | apply k2 | apply k3 | apply k4 | apply k5 | apply k6 | apply k7) <;> intro hc))
      refine ⟨⟨_, hv', hd.trim, norm_trim _, ?_⟩, hG.ov⟩
      rw [vl_trim]
      rw [List.take_length, List.take_of_length_le hlb] at hinv
      have h1 := vl_lt (B := 1000000000) (by decide) hd
      rw [hlo] at h1
      have : bo = 0 := by
        rcases Nat.eq_zero_or_pos bo with h0 | h0
        · exact h0
        · have : bo = 1 := by omega
          subst this; omega
      subst this
      omega
theorem mul9_step {P Q Bj V V' V0 Y x y o c c' r : Nat} (h : V + Q * c = V0 + P * (x * Y)) (hQ : Q = P * Bj) (hr : r + 1000000000 * c' = o + x * y + c) (hV : V' + Q * o = V + Q * r) :
    V' + Q * 1000000000 * c' = V0 + P * (x * (Y + Bj * y)) := mul_step h hQ (by omega) hV
theorem d253 {va vb : AV} {a b : List Nat} (ha : Sq .i64 h va a) (hb : Sq .i64 h vb b) (da : Dg 1000000000 a) (db : Dg 1000000000 b) (hla : a.length ≤ 1000000) (hlb : b.length ≤ 1000000) :
    Gp E3 253 [va, vb] h fun v h' => ∃ l, Sq .i64 h' v l ∧ Dg 1000000000 l ∧ Norm l ∧ vl 1000000000 l = vl 1000000000 a * vl 1000000000 b := by
  refine Gp.of (CallWp.fn (fn := R.a253) rfl rfl rfl ?_)
  unfold R.a253
  have la := ha.rd.len
  have lb := hb.rd.len
  have mk := fun {h : Hp} {K : AV → Hp → Prop} => MksK.int' (h := h) (K := K) (b := 8) (z := .int .i64 0) (m := (a.length : Int) + b.length) (a.length + b.length) (by omega) rfl (by omega)
  repeat' (with_reducible first | simp (disch := first | assumption | omega | (simp only [go_sem, ne_eq, Nat.reduceAdd, Nat.reduceLeDiff] <;> omega) | fail) only [go_sem, seval, la, lb, mk] | ((first | apply k1 | apply k2 | apply k3 | apply k4 | apply k5 | apply k6 | apply k7) <;> intro hc))
  have hz : (List.replicate (a.length + b.length) (AV.int .i64 0)) = (List.replicate (a.length + b.length) 0).map (wd .i64) := by rw [List.map_replicate]; rfl
  rw [hz]
  refine Wp.loopI (fun m s => ∃ (i : Nat) (out : List Nat), val s.tm (.t 0) = va ∧ val s.tm (.t 1) = vb ∧ val s.tm (.t 5) = .sl h.next 0 (a.length + b.length) 1 ∧ val s.tm (.t 6) = .int .i64 i ∧
    Grs h s.hp ∧ AtS s.hp h.next (out.map (wd .i64)) ∧ out.length = a.length + b.length ∧ Dg 1000000000 out ∧ i ≤ a.length ∧
    vl 1000000000 out = vl 1000000000 (a.take i) * vl 1000000000 b ∧ (∀ k, i + b.length ≤ k → out.getD k 0 = 0) ∧ a.length - i = m) (n := a.length) ?_ ?_
  · refine ⟨0, List.replicate (a.length + b.length) 0, by simp (disch := first | assumption | omega | (simp only [go_sem, ne_eq, Nat.reduceAdd, Nat.reduceLeDiff] <;> omega) | fail) only [go_sem, seval], by simp (disch := first | assumption | omega | (simp only [go_sem, ne_eq, Nat.reduceAdd, Nat.reduceLeDiff] <;> omega) | fail) only [go_sem, seval], by simp (disch := first | assumption | omega | (simp only [go_sem, ne_eq, Nat.reduceAdd, Nat.reduceLeDiff] <;> omega) | fail) only [go_sem, seval], by (simp (disch := first | assumption | omega | (simp only [go_sem, ne_eq, Nat.reduceAdd, Nat.reduceLeDiff] <;> omega) | fail) only [go_sem, seval]) <;> rfl, ?_, ?_, by simp, Dg.zeros (by decide) _, by omega, by simp [vl, vl_zeros], ?_, rfl⟩
    · (try first | refine ⟨trivial, ?_⟩ | refine ⟨rfl, ?_⟩); (repeat (first | exact Grs.refl _ | assumption | refine Grs.push ?_ | refine Grs.ov ?_ | refine Grs.put ?_ (by (try simp only [Hp.next_push, Hp.next_put, Hp.ov_next, Hp.clk_push, Hp.clk_put, Hp.ov_clk]); omega)))
    · exact AtS.push
    · intro k _; simp only [List.getD, List.getElem?_replicate]; split <;> rfl
  · rintro m ⟨tm, hp⟩ ⟨i, out, h0, h1, h5, h6, hG, hAt, hlo, hd, hle, hinv, hzero, rfl⟩
    simp only at h0 h1 h5 h6 hG hAt
    have lna := (ha.grs hG).rd.len
    by_cases hlt : i < a.length
    · have hlt' : (i : Int) < a.length := by omega
      have hxd := Dg.getD (B := 1000000000) (by decide) da i
      have tka := vl_take_succ (B := 1000000000) hlt
      have hload := fun (hq : Hp) (g : Grs h hq) => (ha.grs g).rd.load i hlt
      generalize a.getD i 0 = xi at *
      obtain ⟨st0, hg0, hs0, hn0⟩ := id hAt
      repeat' (with_reducible first | simp (disch := first | assumption | omega | (simp only [go_sem, ne_eq, Nat.reduceAdd, Nat.reduceLeDiff] <;> omega) | fail) only [go_sem, seval, h0, h1, h5, h6, lna, hlt'] | ((first | apply k1 | apply k2 | apply k3 | apply k4 | apply k5 | apply k6 | apply k7) <;> intro hc))
      refine Wp.loopI (fun m s => ∃ (j c : Nat) (out' : List Nat), val s.tm (.t 0) = va ∧ val s.tm (.t 1) = vb ∧ val s.tm (.t 5) = .sl h.next 0 (a.length + b.length) 1 ∧ val s.tm (.t 6) = .int .i64 i ∧ val s.tm (.t 7) = .int .i64 c ∧ val s.tm (.t 8) = .int .i64 j ∧
        Grs h s.hp ∧ AtS s.hp h.next (out'.map (wd .i64)) ∧ out'.length = a.length + b.length ∧ Dg 1000000000 out' ∧ j ≤ b.length ∧ c < 1000000000 ∧
        vl 1000000000 out' + 1000000000 ^ (i + j) * c = vl 1000000000 out + 1000000000 ^ i * (xi * vl 1000000000 (b.take j)) ∧ (∀ k, i + b.length ≤ k → out'.getD k 0 = 0) ∧ b.length - j = m) (n := b.length) ?_ ?_
      · exact ⟨0, 0, out, by simp (disch := first | assumption | omega | (simp only [go_sem, ne_eq, Nat.reduceAdd, Nat.reduceLeDiff] <;> omega) | fail) only [go_sem, seval, h0], by simp (disch := first | assumption | omega | (simp only [go_sem, ne_eq, Nat.reduceAdd, Nat.reduceLeDiff] <;> omega) | fail) only [go_sem, seval, h1], by simp (disch := first | assumption | omega | (simp only [go_sem, ne_eq, Nat.reduceAdd, Nat.reduceLeDiff] <;> omega) | fail) only [go_sem, seval, h5], by simp (disch := first | assumption | omega | (simp only [go_sem, ne_eq, Nat.reduceAdd, Nat.reduceLeDiff] <;> omega) | fail) only [go_sem, seval, h6], by (simp (disch := first | assumption | omega | (simp only [go_sem, ne_eq, Nat.reduceAdd, Nat.reduceLeDiff] <;> omega) | fail) only [go_sem, seval]) <;> rfl, by (simp (disch := first | assumption | omega | (simp only [go_sem, ne_eq, Nat.reduceAdd, Nat.reduceLeDiff] <;> omega) | fail) only [go_sem, seval]) <;> rfl, hG, hAt, hlo, hd, Nat.zero_le _, by decide, by simp [vl], hzero, rfl⟩
      · rintro m ⟨tm', hq⟩ ⟨j, c, out', k0, k1, k5, k6, k7, k8, hG', hA', hlo', hd', hle', hc, hinv', hzero', rfl⟩
        simp only at k0 k1 k5 k6 k7 k8 hG' hA'
        have lnb := (hb.grs hG').rd.len
        have hnx := hA'.lt
        by_cases hlj : j < b.length
        · have hlj' : (j : Int) < b.length := by omega
          have ra := (ha.grs hG').rd
          have rb := (hb.grs hG').rd
          have ada := ra.adr
          have adb := rb.adr
          have lda := hload hq hG'
          have ldb := rb.load j hlj
          have ola := ra.old (by omega)
          have olb := rb.old (by omega)
          have hyd := Dg.getD (B := 1000000000) (by decide) db j
          have tkb := vl_take_succ (B := 1000000000) hlj
          generalize b.getD j 0 = yj at *
          have hij : (((i : Int) + j)).toNat = i + j := by omega
          have ld := hA'.ldw64 (i := i + j) (by omega)
          have sw := hA'.stw64 (i := i + j) (by omega)
          have od := hA'.old
          have hod := Dg.getD (B := 1000000000) (by decide) hd' (i + j)
          have hvs := fun r => vl_set (B := 1000000000) (l := out') (i := i + j) (x := r) (by omega)
          generalize out'.getD (i + j) 0 = oj at *
          have hpp : xi * yj ≤ 999999999 * 999999999 := Nat.mul_le_mul (by omega) (by omega)
          have hij2 : (0 : Int) ≤ (i : Int) + j ∧ (i : Int) + j < ((a.length + b.length : Nat) : Int) := by omega
          have hst : ∀ c' r V', r + 1000000000 * c' = oj + xi * yj + c → V' + 1000000000 ^ (i + j) * oj = vl 1000000000 out' + 1000000000 ^ (i + j) * r → V' + 1000000000 ^ (i + j) * 1000000000 * c' = vl 1000000000 out + 1000000000 ^ i * (xi * (vl 1000000000 (b.take j) + 1000000000 ^ j * yj)) := fun c' r V' hr hV => mul9_step hinv' (by rw [Nat.pow_add]) hr hV
          have m0 : (xi : Int) * yj = ((xi * yj : Nat) : Int) := (Int.natCast_mul _ _).symm
          generalize xi * yj = pr at *
          have em : ((oj : Int) + pr + c) % 1000000000 = ((oj + pr + c) % 1000000000 : Nat) := by omega
          have eq : ((oj : Int) + pr + c) / 1000000000 = ((oj + pr + c) / 1000000000 : Nat) := by omega
          repeat' (with_reducible first | simp (disch := first | assumption | omega | (simp only [go_sem, ne_eq, Nat.reduceAdd, Nat.reduceLeDiff] <;> omega) | fail) only [go_sem, seval, k0, k1, k5, k6, k7, k8, lnb, hlj', ada, adb, lda, ldb, ola, olb, hij, ld, sw, od, m0, em, eq] | ((first | apply k1 | apply k2 | apply k3 | apply k4 | apply k5 | apply k6 | apply k7) <;> intro hc))
          refine ⟨_, ?_, j + 1, (oj + pr + c) / 1000000000, out'.set (i + j) ((oj + pr + c) % 1000000000), by simp, rfl, Grs.put hG' (Nat.le_refl _), AtS.put hnx, by simpa using hlo', hd'.set _ (Nat.mod_lt _ (by decide)), hlj, by omega, ?_, ?_, rfl⟩
          · omega
          · rw [← Nat.add_assoc, Nat.pow_succ, tkb]
            exact hst _ _ _ (by omega) (hvs _)
          · intro k hk
            rw [Bg.getD_set_ne (show i + j ≠ k by omega)]; exact hzero' k hk
        · have hlj' : ¬ (j : Int) < b.length := by omega
          obtain rfl : j = b.length := by omega
          have hij : (((i : Int) + b.length)).toNat = i + b.length := by omega
          have ld := hA'.ldw64 (i := i + b.length) (by omega)
          have sw := hA'.stw64 (i := i + b.length) (by omega)
          rw [hzero' _ (Nat.le_refl _)] at ld
          have e0 : ((0 : Nat) : Int) + c = c := by omega
          repeat' (with_reducible first | simp (disch := first | assumption | omega | (simp only [go_sem, ne_eq, Nat.reduceAdd, Nat.reduceLeDiff] <;> omega) | fail) only [go_sem, seval, k0, k1, k5, k6, k7, k8, lnb, hlj', hij, ld, sw, e0] | ((first | apply k1 | apply k2 | apply k3 | apply k4 | apply k5 | apply k6 | apply k7) <;> intro hc))
          refine ⟨_, ?_, i + 1, out'.set (i + b.length) c, rfl, Grs.put hG' (Nat.le_refl _), AtS.put hnx, by simpa using hlo', hd'.set _ hc, hlt, ?_, ?_, rfl⟩
          · omega
          · have e := vl_set (B := 1000000000) (l := out') (i := i + b.length) (x := c) (by omega)
            rw [hzero' _ (Nat.le_refl _), Nat.mul_zero, Nat.add_zero] at e
            rw [e, hinv', hinv, tka, List.take_length, Nat.add_mul, Nat.mul_assoc]
          · intro k hk
            rw [Bg.getD_set_ne (show i + b.length ≠ k by omega)]; exact hzero' k (by omega)
    · have hlt' : ¬ (i : Int) < a.length := by omega
      obtain rfl : i = a.length := by omega
      repeat' (with_reducible first | simp (disch := first | assumption | omega | (simp only [go_sem, ne_eq, Nat.reduceAdd, Nat.reduceLeDiff] <;> omega) | fail) only [go_sem, seval, h0, h1, h5, h6, lna, hlt'] | ((first | apply k1 | apply k2 | apply k3 | apply k4 | apply k5 | apply k6 | apply k7) <;> intro hc))
      refine Gp.wp (dg271 (hAt.sq hlo) (by omega)) fun v h' k j g hv => ?_
      repeat' (with_reducible first | simp (disch := first | assumption | omega | (simp only [go_sem, ne_eq, Nat.reduceAdd, Nat.reduceLeDiff] <;> omega) | fail) only [go_sem, seval] | ((first | apply k1 | apply k2 | apply k3 | apply k4 | apply k5 | apply k6 | apply k7) <;> intro hc))
      refine ⟨⟨_, hv, hd.trim, norm_trim _, ?_⟩, hG.ov⟩
      rw [vl_trim, hinv, List.take_length]
/-- Quotient by one digit. -/
def Div1P (q r : Nat) (v : AV) (h' : Hp) : Prop := ∃ vq lq, v = .tup [vq, .int .i64 r] ∧ Sq .i64 h' vq lq ∧ Dg 1000000000 lq ∧ Norm lq ∧ vl 1000000000 lq = q
theorem d270 {va : AV} {a : List Nat} {b0 : Nat} (ha : Sq .i64 h va a) (da : Dg 1000000000 a) (db : b0 < 1000000000) (hb0 : 0 < b0) (hl : a.length ≤ 1000000) :
    Gp E3 270 [va, .int .i64 b0] h (Div1P (vl 1000000000 a / b0) (vl 1000000000 a % b0)) := by
  refine Gp.of (CallWp.fn (fn := R.a270) rfl rfl rfl ?_)
  unfold R.a270
  have la := ha.rd.len
  have mk := fun {h : Hp} {K : AV → Hp → Prop} => MksK.int (h := h) (K := K) (b := 8) (z := .int .i64 0) (n := a.length) rfl (by omega)
  have ilen : IntKind.wrap .i64 ((a.length : Int) - 1) = (a.length : Int) - 1 := wrap_i64 (by omega)
  repeat' (with_reducible first | simp (disch := first | assumption | omega | (simp only [go_sem, ne_eq, Nat.reduceAdd, Nat.reduceLeDiff] <;> omega) | fail) only [go_sem, seval, la, mk, ilen] | ((first | apply k1 | apply k2 | apply k3 | apply k4 | apply k5 | apply k6 | apply k7) <;> intro hc))
  have hz : (List.replicate a.length (AV.int .i64 0)) = (List.replicate a.length 0).map (wd .i64) := by rw [List.map_replicate]; rfl
  rw [hz]
  refine Wp.loopI (fun m s' => ∃ (k rem : Nat) (out : List Nat), val s'.tm (.t 0) = va ∧ val s'.tm (.t 1) = .int .i64 b0 ∧ val s'.tm (.t 6) = .sl h.next 0 a.length 1 ∧ val s'.tm (.t 7) = .int .i64 rem ∧ val s'.tm (.t 8) = .int .i64 ((k : Int) - 1) ∧
    Grs h s'.hp ∧ AtS s'.hp h.next (out.map (wd .i64)) ∧ out.length = a.length ∧ Dg 1000000000 out ∧ rem < b0 ∧ k ≤ a.length ∧ vl 1000000000 (a.drop k) = vl 1000000000 (out.drop k) * b0 + rem ∧ k = m) (n := a.length) ?_ ?_
  · refine ⟨a.length, 0, List.replicate a.length 0, by simp (disch := first | assumption | omega | (simp only [go_sem, ne_eq, Nat.reduceAdd, Nat.reduceLeDiff] <;> omega) | fail) only [go_sem, seval], by simp (disch := first | assumption | omega | (simp only [go_sem, ne_eq, Nat.reduceAdd, Nat.reduceLeDiff] <;> omega) | fail) only [go_sem, seval], by simp (disch := first | assumption | omega | (simp only [go_sem, ne_eq, Nat.reduceAdd, Nat.reduceLeDiff] <;> omega) | fail) only [go_sem, seval], by (simp (disch := first | assumption | omega | (simp only [go_sem, ne_eq, Nat.reduceAdd, Nat.reduceLeDiff] <;> omega) | fail) only [go_sem, seval]) <;> rfl, by simp (disch := first | assumption | omega | (simp only [go_sem, ne_eq, Nat.reduceAdd, Nat.reduceLeDiff] <;> omega) | fail) only [go_sem, seval], ?_, AtS.push, by simp, Dg.zeros (by decide) _, hb0, Nat.le_refl _, ?_, rfl⟩
    · (try first | refine ⟨trivial, ?_⟩ | refine ⟨rfl, ?_⟩); (repeat (first | exact Grs.refl _ | assumption | refine Grs.push ?_ | refine Grs.ov ?_ | refine Grs.put ?_ (by (try simp only [Hp.next_push, Hp.next_put, Hp.ov_next, Hp.clk_push, Hp.clk_put, Hp.ov_clk]); omega)))
    · rw [List.drop_of_length_le (by simp), List.drop_of_length_le (by simp)]; simp [vl]
  · rintro m ⟨tm, hp⟩ ⟨k, rem, out, h0, h1, h6, h7, h8, hG, hA, hlo, hd, hrem, hk, hinv, rfl⟩
    simp only at h0 h1 h6 h7 h8 hG hA
    rcases Nat.eq_zero_or_pos k with rfl | hpos
    · have e0 : ((0 : Nat) : Int) - 1 = -1 := rfl
      have hS := hA.sq (n := a.length) hlo
      simp only [List.drop_zero] at hinv
      have hq : vl 1000000000 out = vl 1000000000 a / b0 := by rw [hinv, Nat.mul_comm, Nat.mul_add_div hb0, Nat.div_eq_of_lt hrem, Nat.add_zero]
      have hr : rem = vl 1000000000 a % b0 := by rw [hinv, Nat.mul_comm, Nat.mul_add_mod, Nat.mod_eq_of_lt hrem]
      repeat' (with_reducible first | simp (disch := first | assumption | omega | (simp only [go_sem, ne_eq, Nat.reduceAdd, Nat.reduceLeDiff] <;> omega) | fail) only [go_sem, seval, h0, h1, h6, h7, h8, e0] | ((first | apply k1 | apply k2 | apply k3 | apply k4 | apply k5 | apply k6 | apply k7) <;> intro hc))
      refine Gp.wp (dg271 hS (by omega)) fun v1 k1 a1 b1 u1 S1 => ?_
      repeat' (with_reducible first | simp (disch := first | assumption | omega | (simp only [go_sem, ne_eq, Nat.reduceAdd, Nat.reduceLeDiff] <;> omega) | fail) only [go_sem, seval, h7] | ((first | apply k1 | apply k2 | apply k3 | apply k4 | apply k5 | apply k6 | apply k7) <;> intro hc))
      refine ⟨⟨v1, _, by rw [hr], S1, hd.trim, norm_trim _, by rw [vl_trim, hq]⟩, hG.ov⟩
    · have e1 : ((k : Int) - 1).toNat = k - 1 := by omega
      have hp1 : (0 : Int) ≤ (k : Int) - 1 := by omega
      have ra := (ha.grs hG).rd
      have ada := ra.adr
      have lda := ra.load (k - 1) (by omega)
      have ola := ra.old (by omega)
      have sw := hA.stw64 (i := k - 1) (by omega)
      have hnx := hA.lt
      have had := Dg.getD (B := 1000000000) (by decide) da (k - 1)
      have da1 := vl_drop (B := 1000000000) (l := a) (j := k - 1) (by omega)
      have da2 := fun q => vl_drop_set (B := 1000000000) (q := q) (l := out) (j := k - 1) (by omega)
      rw [Nat.sub_add_cancel hpos] at da1
      simp only [Nat.sub_add_cancel hpos] at da2
      generalize a.getD (k - 1) 0 = ak at *
      have hqB : (rem * 1000000000 + ak) / b0 < 1000000000 := by
        rw [Nat.div_lt_iff_lt_mul hb0, Nat.mul_comm]
        have : (rem + 1) * 1000000000 ≤ b0 * 1000000000 := Nat.mul_le_mul_right _ hrem
        omega
      have hrl : (rem * 1000000000 + ak) % b0 < b0 := Nat.mod_lt _ hb0
      have hdm := short_step (B := 1000000000) (x := ak) hinv (Nat.div_add_mod (rem * 1000000000 + ak) b0).symm
      obtain ⟨t9, ht9⟩ : ∃ t9, t9 = rem * 1000000000 + ak := ⟨_, rfl⟩
      have e9 : (rem : Int) * 1000000000 + ak = (t9 : Nat) := by omega
      rw [← ht9] at hqB hrl hdm
      have eq : (t9 : Int) / b0 = ((t9 / b0 : Nat) : Int) := rfl
      have em : (t9 : Int) % b0 = ((t9 % b0 : Nat) : Int) := rfl
      have hbi : 0 < (b0 : Int) := by omega
      obtain ⟨q0, hq0⟩ : ∃ q0, q0 = t9 / b0 := ⟨_, rfl⟩
      obtain ⟨r0, hr0⟩ : ∃ r0, r0 = t9 % b0 := ⟨_, rfl⟩
      rw [← hq0] at hqB eq
      rw [← hr0] at hrl em
      rw [← hq0, ← hr0] at hdm
      have wq : IntKind.wrap .i64 (q0 : Int) = q0 := wrap_i64 (by omega)
      have ik : IntKind.wrap .i64 ((k : Int) - 1 - 1) = (k : Int) - 1 - 1 := wrap_i64 (by omega)
      repeat' (with_reducible first | simp (disch := first | assumption | omega | (simp only [go_sem, ne_eq, Nat.reduceAdd, Nat.reduceLeDiff] <;> omega) | fail) only [go_sem, seval, h0, h1, h6, h7, h8, hp1, e1, ada, lda, ola, sw, e9, eq, em, wq, ik, b_quoP, b_remP] | ((first | apply k1 | apply k2 | apply k3 | apply k4 | apply k5 | apply k6 | apply k7) <;> intro hc))
      refine ⟨k - 1, by omega, k - 1, r0, out.set (k - 1) q0, rfl, ?_, ?_, AtS.put hnx, by simpa using hlo, hd.set _ hqB, hrl, by omega, ?_, rfl⟩
      · congr 1; omega
      · exact Grs.put hG (Nat.le_refl _)
      · rw [da1, da2]; exact hdm
end
end
end Go.Ae


/- The reference's digits: the guess of a digit. -/
set_option linter.unusedVariables false
set_option linter.unusedSimpArgs false
set_option maxRecDepth 100000
namespace Go.Ae
open Bg
noncomputable section
section
variable {h : Hp} {K : AV → Hp → Prop}
theorem d272 {va vb : AV} {a v : List Nat} {j un um ul v1 v0 Q : Nat} (ha : Sq .i64 h va a) (hv : Sq .i64 h vb v) (h2 : 2 ≤ v.length) (hj : j + v.length < a.length) (hla : a.length ≤ 1000000) (da : Dg 1000000000 a) (dv : Dg 1000000000 v)
    (gn : a.getD (j + v.length) 0 = un) (gm : a.getD (j + v.length - 1) 0 = um) (gl : a.getD (j + v.length - 2) 0 = ul) (g1 : v.getD (v.length - 1) 0 = v1) (g0 : v.getD (v.length - 2) 0 = v0) (hv1 : 0 < v1)
    (hU : un * 1000000000 + um ≤ v1 * 1000000000 + v0) (hQB : Q < 1000000000) (hQU : Q * (v1 * 1000000000 + v0) ≤ (un * 1000000000 + um) * 1000000000 + ul) :
    CallWp E3 272 [va, vb, .int .i64 j] h fun v' h' => ∃ q : Nat, v' = .int .i64 q ∧ h' = h ∧ Q ≤ q ∧ q < 1000000000 ∧ q * (v1 * 1000000000 + v0) ≤ (un * 1000000000 + um) * 1000000000 + ul := by
  refine CallWp.fn (fn := R.a272) rfl rfl rfl ?_
  unfold R.a272
  have ra := ha.rd
  have rv := hv.rd
  have lnv := rv.len
  have ada := ra.adr
  have adv := rv.adr
  have oa := ra.old (by omega)
  have ov := rv.old (by omega)
  have ldn := ra.load (j + v.length) (by omega)
  have ldm := ra.load (j + v.length - 1) (by omega)
  have ldl := ra.load (j + v.length - 2) (by omega)
  have ld1 := rv.load (v.length - 1) (by omega)
  have ld0 := rv.load (v.length - 2) (by omega)
  have hun := Dg.getD (B := 1000000000) (by decide) da (j + v.length)
  have hum := Dg.getD (B := 1000000000) (by decide) da (j + v.length - 1)
  have hul := Dg.getD (B := 1000000000) (by decide) da (j + v.length - 2)
  have hv1d := Dg.getD (B := 1000000000) (by decide) dv (v.length - 1)
  have hv0d := Dg.getD (B := 1000000000) (by decide) dv (v.length - 2)
  rw [gn] at ldn hun
  rw [gm] at ldm hum
  rw [gl] at ldl hul
  rw [g1] at ld1 hv1d
  rw [g0] at ld0 hv0d
  have i0 : ((j : Int) + v.length).toNat = j + v.length := by omega
  have i1 : ((j : Int) + v.length - 1).toNat = j + v.length - 1 := by omega
  have i2 : ((j : Int) + v.length - 2).toNat = j + v.length - 2 := by omega
  have k1 : ((v.length : Int) - 1).toNat = v.length - 1 := by omega
  have k2 : ((v.length : Int) - 2).toNat = v.length - 2 := by omega
  have hE := EsQ.first (b := 1000000000) (v0 := v0) (u := ul) hv1 hul hQU
  obtain ⟨U, hUd⟩ : ∃ U, U = un * 1000000000 + um := ⟨_, rfl⟩
  rw [← hUd] at hE hU hQU ⊢
  have eU : (un : Int) * 1000000000 + um = (U : Nat) := by omega
  have hUl : U < 1000000000000000000 := by omega
  have qle := Nat.div_le_self U v1
  have rlt : U % v1 < v1 := Nat.mod_lt _ hv1
  have hv1i : 0 < (v1 : Int) := by omega
  have eq : (U : Int) / v1 = ((U / v1 : Nat) : Int) := rfl
  have em : (U : Int) % v1 = ((U % v1 : Nat) : Int) := rfl
  obtain ⟨Q0, hQ0⟩ : ∃ Q0, Q0 = U / v1 := ⟨_, rfl⟩
  obtain ⟨R0, hR0⟩ : ∃ R0, R0 = U % v1 := ⟨_, rfl⟩
  rw [← hQ0] at qle eq hE
  rw [← hR0] at rlt em hE
  have wq : IntKind.wrap .i64 (Q0 : Int) = Q0 := wrap_i64 (by omega)
  have w8 : IntKind.wrap .i64 ((un : Int) * 1000000000) = (un : Int) * 1000000000 := wrap_i64 (by omega)
  repeat' (with_reducible first | simp (disch := first | assumption | omega | (simp only [go_sem, ne_eq, Nat.reduceAdd, Nat.reduceLeDiff] <;> omega) | fail) only [go_sem, seval, lnv, ada, adv, oa, ov, ldn, ldm, ld1, i0, i1, k1, w8, eU, eq, em, wq, b_quoP, b_remP] | ((first | apply k1 | apply k2 | apply k3 | apply k4 | apply k5 | apply k6 | apply k7) <;> intro hc))
  refine Wp.loopI (fun m s' => ∃ q r : Nat, val s'.tm (.t 0) = va ∧ val s'.tm (.t 1) = vb ∧ val s'.tm (.t 2) = .int .i64 j ∧ val s'.tm (.t 7) = .int .i64 v.length ∧ val s'.tm (.t 9) = .int .i64 q ∧ val s'.tm (.t 10) = .int .i64 r ∧
    s'.hp = h ∧ EsQ v1 U Q q r ∧ q ≤ U ∧ r < 1000000000 ∧ q = m) (n := Q0) ?_ ?_
  · exact ⟨Q0, R0, by simp (disch := first | assumption | omega | (simp only [go_sem, ne_eq, Nat.reduceAdd, Nat.reduceLeDiff] <;> omega) | fail) only [go_sem, seval], by simp (disch := first | assumption | omega | (simp only [go_sem, ne_eq, Nat.reduceAdd, Nat.reduceLeDiff] <;> omega) | fail) only [go_sem, seval], by simp (disch := first | assumption | omega | (simp only [go_sem, ne_eq, Nat.reduceAdd, Nat.reduceLeDiff] <;> omega) | fail) only [go_sem, seval], by simp (disch := first | assumption | omega | (simp only [go_sem, ne_eq, Nat.reduceAdd, Nat.reduceLeDiff] <;> omega) | fail) only [go_sem, seval], by simp (disch := first | assumption | omega | (simp only [go_sem, ne_eq, Nat.reduceAdd, Nat.reduceLeDiff] <;> omega) | fail) only [go_sem, seval], by simp (disch := first | assumption | omega | (simp only [go_sem, ne_eq, Nat.reduceAdd, Nat.reduceLeDiff] <;> omega) | fail) only [go_sem, seval], rfl, hE, qle, by omega, rfl⟩
  · rintro m ⟨tm, hp⟩ ⟨q, r, h0, h1, h2', h7, h9, h10, rfl, hE, hqU, hr, rfl⟩
    simp only at h0 h1 h2' h7 h9 h10 
    by_cases hqb : (1000000000 : Int) ≤ q
    · obtain ⟨hq1, hEd⟩ := hE.downB hQB (by omega)
      have es : (q : Int) - 1 = ((q - 1 : Nat) : Int) := by omega
      have ea : (r : Int) + v1 = ((r + v1 : Nat) : Int) := by omega
      by_cases hrb : (1000000000 : Int) ≤ ((r + v1 : Nat) : Int)
      · obtain ⟨f1, f2⟩ := hEd.great (v0 := v0) (b := 1000000000) (u := ul) hv0d hU (by omega)
        have f3 := hEd.ok f2
        repeat' (with_reducible first | simp (disch := first | assumption | omega | (simp only [go_sem, ne_eq, Nat.reduceAdd, Nat.reduceLeDiff] <;> omega) | fail) only [go_sem, seval, h0, h1, h2', h7, h9, h10, hqb, es, ea, hrb, adv, ld1, k1] | ((first | apply k1 | apply k2 | apply k3 | apply k4 | apply k5 | apply k6 | apply k7) <;> intro hc))
        exact ⟨q - 1, rfl, hEd.ge, f1, f3⟩
      · repeat' (with_reducible first | simp (disch := first | assumption | omega | (simp only [go_sem, ne_eq, Nat.reduceAdd, Nat.reduceLeDiff] <;> omega) | fail) only [go_sem, seval, h0, h1, h2', h7, h9, h10, hqb, es, ea, hrb, adv, ld1, k1] | ((first | apply k1 | apply k2 | apply k3 | apply k4 | apply k5 | apply k6 | apply k7) <;> intro hc))
        exact ⟨q - 1, by omega, q - 1, r + v1, rfl, rfl, hEd, by omega, by omega, rfl⟩
    · have hqv : q * v0 ≤ 999999999 * 999999999 := Nat.mul_le_mul (by omega) (by omega)
      have m0 : (q : Int) * v0 = ((q * v0 : Nat) : Int) := (Int.natCast_mul _ _).symm
      have ok := hE.ok (b := 1000000000) (v0 := v0) (u := ul)
      have dn := hE.down (b := 1000000000) (v0 := v0) (u := ul) hQU
      generalize q * v0 = qv at *
      by_cases hc : (r : Int) * 1000000000 + ul < qv
      · obtain ⟨hq1, hEd⟩ := dn (by omega)
        have es : (q : Int) - 1 = ((q - 1 : Nat) : Int) := by omega
        have ea : (r : Int) + v1 = ((r + v1 : Nat) : Int) := by omega
        by_cases hrb : (1000000000 : Int) ≤ ((r + v1 : Nat) : Int)
        · obtain ⟨f1, f2⟩ := hEd.great (v0 := v0) (b := 1000000000) (u := ul) hv0d hU (by omega)
          have f3 := hEd.ok f2
          repeat' (with_reducible first | simp (disch := first | assumption | omega | (simp only [go_sem, ne_eq, Nat.reduceAdd, Nat.reduceLeDiff] <;> omega) | fail) only [go_sem, seval, h0, h1, h2', h7, h9, h10, hqb, es, ea, hrb, ada, adv, ld1, ld0, ldl, oa, ov, i2, k1, k2, m0, hc] | ((first | apply k1 | apply k2 | apply k3 | apply k4 | apply k5 | apply k6 | apply k7) <;> intro hc))
          exact ⟨q - 1, rfl, hEd.ge, f1, f3⟩
        · repeat' (with_reducible first | simp (disch := first | assumption | omega | (simp only [go_sem, ne_eq, Nat.reduceAdd, Nat.reduceLeDiff] <;> omega) | fail) only [go_sem, seval, h0, h1, h2', h7, h9, h10, hqb, es, ea, hrb, ada, adv, ld1, ld0, ldl, oa, ov, i2, k1, k2, m0, hc] | ((first | apply k1 | apply k2 | apply k3 | apply k4 | apply k5 | apply k6 | apply k7) <;> intro hc))
          exact ⟨q - 1, by omega, q - 1, r + v1, rfl, rfl, hEd, by omega, by omega, rfl⟩
      · repeat' (with_reducible first | simp (disch := first | assumption | omega | (simp only [go_sem, ne_eq, Nat.reduceAdd, Nat.reduceLeDiff] <;> omega) | fail) only [go_sem, seval, h0, h1, h2', h7, h9, h10, hqb, ada, adv, ld1, ld0, ldl, oa, ov, i2, k1, k2, m0, hc] | ((first | apply k1 | apply k2 | apply k3 | apply k4 | apply k5 | apply k6 | apply k7) <;> intro hc))
        exact ⟨q, rfl, hE.ge, by omega, ok (by omega)⟩
end
end
end Go.Ae


/- The reference's digits: the long division, its parts. -/
set_option linter.unusedVariables false
set_option linter.unusedSimpArgs false
set_option maxRecDepth 100000
namespace Go.Ae
open Bg
noncomputable section
theorem CallWp.imp {E : Env} {f : Nat} {args : List AV} {h : Hp} {P K : AV → Hp → Prop} (hc : CallWp E f args h P) (hk : ∀ v h', P v h' → K v h') : CallWp E f args h K := by
  obtain ⟨v, h', h1, h2⟩ := hc
  exact ⟨v, h', h1, hk v h' h2⟩
def DivR (q r : Nat) (v : AV) (h' : Hp) : Prop := ∃ vq vr lq lr, v = .tup [vq, vr] ∧ Sq .i64 h' vq lq ∧ Sq .i64 h' vr lr ∧ Dg 1000000000 lq ∧ Dg 1000000000 lr ∧ Norm lq ∧ Norm lr ∧ vl 1000000000 lq = q ∧ vl 1000000000 lr = r
section
variable {h h' hp : Hp} {K : AV → Hp → Prop} {tm : T AV} {t i : Nat} {P X S : List Nat} {Z : List AV} {c : AV}
theorem AtS.ldx (a : AtS h t ((P ++ X).map (wd .i64) ++ Z)) (hi : i < X.length) : ∀ h' K, LoadR false 1 (P.length + i) (h.get t) h' K ↔ K (.int .i64 (X.getD i 0 : Nat)) h' := by
  obtain ⟨st, hg, hs, ht⟩ := a
  intro h' K
  have e := win_at (P := P) (S := []) hi
  rw [List.append_nil] at e
  rw [hg, LoadR.row, if_pos (by simp only [List.length_map, List.length_append]; omega), if_neg (by decide), List.getElem?_append_left (by simp only [List.length_map, List.length_append]; omega), row_get (by simp only [List.length_append]; omega), e]
  exact Iff.rfl
theorem AtS.stx (a : AtS h t ((P ++ X).map (wd .i64) ++ Z)) (hi : i < X.length) : ∀ (x : Nat) h' K, StoreR 1 t (P.length + i) (.int .i64 (x : Int)) (h.get t) h' K ↔ K und (h'.put t fun st => .row ((P ++ X.set i x).map (wd .i64) ++ Z) true st) := by
  obtain ⟨st, hg, hs, ht⟩ := a
  intro x h' K
  rw [hg, StoreR.row]
  have e0 := win_set (P := P) (S := []) (x := x) hi
  rw [List.append_nil, List.append_nil] at e0
  have e : splice ((P ++ X).map (wd .i64) ++ Z) (P.length + i) (AV.cells (.int .i64 (x : Int))) = (P ++ X.set i x).map (wd .i64) ++ Z := by
    rw [← e0, ← set_row (by simp only [List.length_append]; omega)]
    show List.take (P.length + i) ((P ++ X).map (wd .i64) ++ Z) ++ ([AV.int .i64 (x : Int)] ++ List.drop (P.length + i + 1) ((P ++ X).map (wd .i64) ++ Z)) = _
    rw [List.take_append_of_le_length (by simp only [List.length_map, List.length_append]; omega), List.drop_append_of_le_length (by simp only [List.length_map, List.length_append]; omega)]
    simp
  rw [e]
  constructor
  · exact fun hk => hk.2.2.2
  · exact fun hk => ⟨rfl, by simp only [List.length_map, List.length_append]; omega, rfl, hk⟩
theorem AtS.ldt (a : AtS h t ((P ++ X).map (wd .i64) ++ (c :: Z))) : ∀ h' K, LoadR false 1 (P.length + X.length) (h.get t) h' K ↔ K c h' := by
  obtain ⟨st, hg, hs, ht⟩ := a
  intro h' K
  rw [hg, LoadR.row, if_pos (by simp only [List.length_map, List.length_append, List.length_cons]; omega), if_neg (by decide), List.getElem?_append_right (by simp only [List.length_map, List.length_append]; omega)]
  simp only [List.length_map, List.length_append, Nat.sub_self, List.getElem?_cons_zero]
  exact Iff.rfl
theorem AtS.stt (a : AtS h t ((P ++ X).map (wd .i64) ++ (c :: Z))) : ∀ (x : Int) h' K, StoreR 1 t (P.length + X.length) (.int .i64 x) (h.get t) h' K ↔ K und (h'.put t fun st => .row ((P ++ X).map (wd .i64) ++ (.int .i64 x :: Z)) true st) := by
  obtain ⟨st, hg, hs, ht⟩ := a
  intro x h' K
  rw [hg, StoreR.row]
  have e : splice ((P ++ X).map (wd .i64) ++ (c :: Z)) (P.length + X.length) (AV.cells (.int .i64 x)) = (P ++ X).map (wd .i64) ++ (.int .i64 x :: Z) := by
    show List.take (P.length + X.length) ((P ++ X).map (wd .i64) ++ (c :: Z)) ++ ([AV.int .i64 x] ++ List.drop (P.length + X.length + 1) ((P ++ X).map (wd .i64) ++ (c :: Z))) = _
    have hl : ((P ++ X).map (wd .i64)).length = P.length + X.length := by simp
    rw [← hl, List.take_left, ← List.drop_drop, List.drop_left]
    simp
  rw [e]
  constructor
  · exact fun hk => hk.2.2.2
  · exact fun hk => ⟨rfl, by simp only [List.length_map, List.length_append, List.length_cons]; omega, rfl, hk⟩
theorem mac_step {P V X W q v x x' ca ca' : Nat} (h : X + q * V = W + P * ca) (hx : x' + (q * v + ca) = x + 1000000000 * ca') : X + P * x' + q * (V + P * v) = W + P * x + P * 1000000000 * ca' := by
  have e1 : P * (x' + (q * v + ca)) = P * (x + 1000000000 * ca') := by rw [hx]
  have e3 : q * (P * v) = P * (q * v) := by ac_rfl
  rw [Nat.mul_add, Nat.mul_add, Nat.mul_add, ← Nat.mul_assoc P 1000000000] at e1
  rw [Nat.mul_add, e3]
  omega
/-- The rest is divided by the factor, and both are trimmed. -/
theorem dd_tail {T0 tq n N M Rr f : Nat} {v8 : AV} {L out : List Nat} (h8 : val tm (.t 8) = v8) (h10 : val tm (.t 10) = .int .i64 n) (h11 : val tm (.t 11) = .sl T0 0 N 1) (h12 : val tm (.t 12) = .sl tq 0 M 1)
    (hG : Grs h hp) (hT : h.next ≤ T0) (hA : AtS hp T0 (L.map (wd .i64))) (hL : L.length = N) (dL : Dg 1000000000 L) (hn : n ≤ N) (hN : N ≤ 1000000) (hv : vl 1000000000 L = Rr * f) (hlt : vl 1000000000 L < 1000000000 ^ n)
    (hS8 : Sq .i64 hp v8 [f]) (hf : 0 < f) (hfB : f < 1000000000) (hq : AtS hp tq (out.map (wd .i64))) (ho : out.length = M) (dq : Dg 1000000000 out) (hM : M ≤ 1000001) :
    Wp E3 ((R.a208.code.post 9).post 1) ⟨tm, hp⟩ (RetQ [.tmp 4, .tmp 5] fun v h' => DivR (vl 1000000000 out) Rr v h' ∧ Grs h h') := by
  unfold R.a208
  dsimp only [ACode.post]
  obtain ⟨ht0, htn⟩ := vl_top0 (B := 1000000000) (by decide) hlt
  have hk2 : (0 : Int) ≤ (n : Int) ∧ (n : Int) ≤ (N : Int) := by omega
  have sl1 := slA_hi (h := hp) (t := T0) (o := 0) (n := N) (z := 1) (sz := 1) (kd := .i64) hk2
  rw [Int.toNat_natCast] at sl1
  obtain ⟨st, hg, hst, hTn⟩ := hA
  have S2 : Sq .i64 hp (.sl T0 0 n 1) (L.take n) := by
    refine .inr ⟨T0, 0, true, st, L, ?_, hg, ?_, ?_, hTn, hst⟩
    · rw [List.length_take, Nat.min_eq_left (by omega)]
    · rw [List.length_take]; omega
    · rw [List.length_take, Nat.min_eq_left (by omega), List.drop_zero]
  have tn := (dL.take n).trim
  have tv : vl 1000000000 (trimL (L.take n)) = Rr * f := by rw [vl_trim, htn, hv]
  repeat' (with_reducible first | simp (disch := first | assumption | omega | (simp only [go_sem, ne_eq, Nat.reduceAdd, Nat.reduceLeDiff] <;> omega) | fail) only [go_sem, seval, h8, h10, h11, h12, sl1] | ((first | apply k1 | apply k2 | apply k3 | apply k4 | apply k5 | apply k6 | apply k7) <;> intro hc))
  refine Gp.wp (dg271 S2 (by rw [List.length_take]; omega)) fun v1 k1 a1 b1 u1 S1 => ?_
  have r8 := (hS8.grs ⟨_, _, u1⟩ : Sq .i64 (hp.ov k1 u1) v8 [f]).rd
  have ad8 := r8.adr
  have ld8 := r8.load 0 (by simp)
  have o8 : OldR ((hp.ov k1 u1).get (tokOf v8)) hp.clk = true := by
    rw [Hp.ov_get (hS8.rd.tok (by simp))]
    exact hS8.rd.old (by simp) _ (Nat.le_refl _)
  simp only [List.getD_cons_zero, Nat.add_zero] at ld8
  have e00 : (0 : Int).toNat = 0 := rfl
  repeat' (with_reducible first | simp (disch := first | assumption | omega | (simp only [go_sem, ne_eq, Nat.reduceAdd, Nat.reduceLeDiff] <;> omega) | fail) only [go_sem, seval, h8, h10, h11, h12, ad8, ld8, o8, e00] | ((first | apply k1 | apply k2 | apply k3 | apply k4 | apply k5 | apply k6 | apply k7) <;> intro hc))
  have lt := trim_len (L.take n)
  rw [List.length_take] at lt
  refine Gp.wp (d270 S1 tn hfB hf (by omega)) fun v2 k2 a2 b2 u2 ⟨vq, lq, e2, S3, dlq, nlq, vlq⟩ => ?_
  subst e2
  have hq2 := (hq.grs ⟨_, _, u1⟩ : AtS (hp.ov k1 u1) tq _)
  have hq3 := (hq2.grs ⟨_, _, u2⟩ : AtS ((hp.ov k1 u1).ov k2 u2) tq _)
  repeat' (with_reducible first | simp (disch := first | assumption | omega | (simp only [go_sem, ne_eq, Nat.reduceAdd, Nat.reduceLeDiff] <;> omega) | fail) only [go_sem, seval, h8, h10, h11, h12] | ((first | apply k1 | apply k2 | apply k3 | apply k4 | apply k5 | apply k6 | apply k7) <;> intro hc))
  refine Gp.wp (dg271 (hq3.sq ho) (by omega)) fun v3 k3 a3 b3 u3 S4 => ?_
  repeat' (with_reducible first | simp (disch := first | assumption | omega | (simp only [go_sem, ne_eq, Nat.reduceAdd, Nat.reduceLeDiff] <;> omega) | fail) only [go_sem, seval] | ((first | apply k1 | apply k2 | apply k3 | apply k4 | apply k5 | apply k6 | apply k7) <;> intro hc))
  refine ⟨⟨v3, vq, _, _, rfl, S4, S3.grs ⟨_, _, u3⟩, dq.trim, dlq, norm_trim _, nlq, by rw [vl_trim], ?_⟩, ?_⟩
  · rw [vlq, tv, Nat.mul_div_cancel _ hf]
  · refine hG.trans ?_
    (try first | refine ⟨trivial, ?_⟩ | refine ⟨rfl, ?_⟩); (repeat (first | exact Grs.refl _ | assumption | refine Grs.push ?_ | refine Grs.ov ?_ | refine Grs.put ?_ (by (try simp only [Hp.next_push, Hp.next_put, Hp.ov_next, Hp.clk_push, Hp.clk_put, Hp.ov_clk]); omega)))
end
end
end Go.Ae


/- The reference's digits: the long division, its loop. -/
set_option linter.unusedVariables false
set_option linter.unusedSimpArgs false
set_option maxRecDepth 100000
set_option maxHeartbeats 4000000
namespace Go.Ae
open Bg
noncomputable section
theorem getD_win {L : List Nat} {j n i : Nat} (hi : i < n) : ((L.drop j).take n).getD i 0 = L.getD (j + i) 0 := by
  simp only [List.getD, List.getElem?_take, if_pos hi, List.getElem?_drop]
theorem snoc_win {L : List Nat} {j n : Nat} (h : j + n < L.length) : (L.drop j).take (n + 1) = (L.drop j).take n ++ [L.getD (j + n) 0] := by
  rw [take_succ (by rw [List.length_drop]; omega)]
  congr 2
  simp only [List.getD, List.getElem?_drop]
theorem back_fin {P Xf V R Xn c : Nat} (h : Xf + V = R + P) (hR : R < P) (hx : Xn < P) (hn : Xn + P * c = Xf + V) : Xn = R ∧ c = 1 := by
  have : c = 1 := by
    rcases Nat.lt_or_ge c 1 with h0 | h0
    · obtain rfl : c = 0 := by omega
      omega
    · rcases Nat.lt_or_ge 1 c with h1 | h1
      · have : P * 2 ≤ P * c := Nat.mul_le_mul_left _ h1
        omega
      · omega
  subst this
  omega
/-- What the subtraction of q times the divisor leaves. -/
theorem sub_fin {P X0 Xf V W Q q top ca : Nat} (hW : W = X0 + P * top) (h : Xf + q * V = X0 + P * ca) (hXf : Xf < P) (hV : V < P) (hV0 : 0 < V) (hQ : W / V = Q) (h1 : Q ≤ q) (h2 : q ≤ Q + 1) :
    (q = Q ∧ ca = top ∧ Xf = W % V) ∨ (q = Q + 1 ∧ ca = top + 1 ∧ Xf + V = W % V + P) := by
  have hdm := Nat.div_add_mod W V
  have hml := Nat.mod_lt W hV0
  rw [hQ] at hdm
  have e : Xf + q * V + P * top = W + P * ca := by omega
  rcases Nat.lt_or_ge Q q with g | g
  · obtain rfl : q = Q + 1 := by omega
    rw [Nat.add_mul, Nat.one_mul, Nat.mul_comm Q] at e
    have hc : ca = top + 1 := by
      rcases Nat.lt_trichotomy ca (top + 1) with c | c | c
      · have := Nat.mul_le_mul_left P (show ca ≤ top by omega)
        omega
      · exact c
      · have := Nat.mul_le_mul_left P (show top + 2 ≤ ca by omega)
        rw [Nat.mul_add] at this
        omega
    subst hc
    rw [Nat.mul_add, Nat.mul_one] at e
    exact .inr ⟨rfl, rfl, by omega⟩
  · obtain rfl : q = Q := by omega
    rw [Nat.mul_comm q] at e
    have hc : ca = top := by
      rcases Nat.lt_trichotomy ca top with c | c | c
      · have := Nat.mul_le_mul_left P (show ca + 1 ≤ top by omega)
        rw [Nat.mul_add, Nat.mul_one] at this
        omega
      · exact c
      · have := Nat.mul_le_mul_left P (show top + 1 ≤ ca by omega)
        rw [Nat.mul_add, Nat.mul_one] at this
        omega
    subst hc
    exact .inl ⟨rfl, rfl, by omega⟩
theorem Sq.putN {kd : IntKind} {h : Hp} {v : AV} {l : List Nat} {t : Nat} {f : Nat → AObj} (s : Sq kd h v l) (hn : tokOf v ≠ t) : Sq kd (h.put t f) v l := s.chg (Chg.put (t := t) Chg.refl) hn
section
variable {h hp : Hp} {K : AV → Hp → Prop} {tm : T AV}
theorem dd_main {wv v8 : AV} {a v L0 : List Nat} {T0 tq f b : Nat} (h8 : val tm (.t 8) = v8) (h9 : val tm (.t 9) = wv) (h10 : val tm (.t 10) = .int .i64 v.length) (h11 : val tm (.t 11) = .sl T0 0 (a.length + 1) 1) (h12 : val tm (.t 12) = .sl tq 0 (a.length + 1 - v.length) 1)
    (hG : Grs h hp) (hv : Sq .i64 hp wv v) (hS8 : Sq .i64 hp v8 [f]) (dv : Dg 1000000000 v) (h2 : 2 ≤ v.length) (hva : v.length ≤ a.length) (hN : a.length ≤ 999999) (hv1 : v.getD (v.length - 1) 0 ≠ 0)
    (n1 : tokOf wv ≠ T0) (n2 : tokOf wv ≠ tq) (n3 : tokOf v8 ≠ T0) (n4 : tokOf v8 ≠ tq) (n5 : tq ≠ T0) (hT : h.next ≤ T0) (hTq : h.next ≤ tq)
    (hA : AtS hp T0 (L0.map (wd .i64))) (hL : L0.length = a.length + 1) (dL : Dg 1000000000 L0) (hq : AtS hp tq ((List.replicate (a.length + 1 - v.length) 0).map (wd .i64)))
    (hf : 0 < f) (hfB : f < 1000000000) (hb : 0 < b) (hvb : vl 1000000000 v = b * f) (hab : vl 1000000000 L0 = vl 1000000000 a * f) (htop : vl 1000000000 (L0.drop (a.length + 1 - v.length)) < vl 1000000000 v) :
    Wp E3 (R.a208.code.post 9) ⟨tm, hp⟩ (RetQ [.tmp 4, .tmp 5] fun v h' => DivR (vl 1000000000 a / b) (vl 1000000000 a % b) v h' ∧ Grs h h') := by
  have hvl := vl_lt (B := 1000000000) (by decide) dv
  have hvp : 0 < vl 1000000000 v := by rw [hvb]; exact Nat.mul_pos hb hf
  have tail := fun (tm : T AV) (hp : Hp) (L out : List Nat) h8 h10 h11 h12 hG hA hL dL hv hlt hS8 hq ho dq => dd_tail (h := h) (hp := hp) (tm := tm) (T0 := T0) (tq := tq) (n := v.length) (N := a.length + 1) (M := a.length + 1 - v.length) (Rr := vl 1000000000 a % b) (f := f) (v8 := v8) (L := L) (out := out) h8 h10 h11 h12 hG hT hA hL dL (by omega) (by omega) hv hlt hS8 hf hfB hq ho dq (by omega)
  refine Wp.cut 1 rfl ?_
  generalize ACode.post 1 (ACode.post 9 R.a208.code) = r at tail ⊢
  unfold R.a208
  dsimp only [ACode.post, ACode.pre]
  have w1 : ((a.length + 1 : Nat) : Int) - v.length = ((a.length + 1 - v.length : Nat) : Int) := by omega
  have w2 : (a.length : Int) + 1 - v.length = ((a.length + 1 - v.length : Nat) : Int) := by omega
  repeat' (with_reducible first | simp (disch := first | assumption | omega | (simp only [go_sem, ne_eq, Nat.reduceAdd, Nat.reduceLeDiff] <;> omega) | fail) only [go_sem, seval, h10, h11, w1, w2] | ((first | apply k1 | apply k2 | apply k3 | apply k4 | apply k5 | apply k6 | apply k7) <;> intro hc))
  refine Wp.loopI (fun m s' => ∃ (k : Nat) (L out : List Nat), val s'.tm (.t 8) = v8 ∧ val s'.tm (.t 9) = wv ∧ val s'.tm (.t 10) = .int .i64 v.length ∧ val s'.tm (.t 11) = .sl T0 0 (a.length + 1) 1 ∧ val s'.tm (.t 12) = .sl tq 0 (a.length + 1 - v.length) 1 ∧ val s'.tm (.t 13) = .int .i64 ((k : Int) - 1) ∧
    Grs h s'.hp ∧ Sq .i64 s'.hp wv v ∧ Sq .i64 s'.hp v8 [f] ∧ AtS s'.hp T0 (L.map (wd .i64)) ∧ AtS s'.hp tq (out.map (wd .i64)) ∧ L.length = a.length + 1 ∧ out.length = a.length + 1 - v.length ∧ Dg 1000000000 L ∧ Dg 1000000000 out ∧ k ≤ a.length + 1 - v.length ∧
    (∀ i, i < k → L.getD i 0 = L0.getD i 0) ∧ vl 1000000000 (L.drop k) < vl 1000000000 v ∧ vl 1000000000 (L0.drop k) = vl 1000000000 (out.drop k) * vl 1000000000 v + vl 1000000000 (L.drop k) ∧ k = m) (n := a.length + 1 - v.length) ?_ ?_
  · refine ⟨a.length + 1 - v.length, L0, List.replicate (a.length + 1 - v.length) 0, by simp (disch := first | assumption | omega | (simp only [go_sem, ne_eq, Nat.reduceAdd, Nat.reduceLeDiff] <;> omega) | fail) only [go_sem, seval, h8], by simp (disch := first | assumption | omega | (simp only [go_sem, ne_eq, Nat.reduceAdd, Nat.reduceLeDiff] <;> omega) | fail) only [go_sem, seval, h9], by simp (disch := first | assumption | omega | (simp only [go_sem, ne_eq, Nat.reduceAdd, Nat.reduceLeDiff] <;> omega) | fail) only [go_sem, seval, h10], by simp (disch := first | assumption | omega | (simp only [go_sem, ne_eq, Nat.reduceAdd, Nat.reduceLeDiff] <;> omega) | fail) only [go_sem, seval, h11], by simp (disch := first | assumption | omega | (simp only [go_sem, ne_eq, Nat.reduceAdd, Nat.reduceLeDiff] <;> omega) | fail) only [go_sem, seval, h12], by simp (disch := first | assumption | omega | (simp only [go_sem, ne_eq, Nat.reduceAdd, Nat.reduceLeDiff] <;> omega) | fail) only [go_sem, seval], hG, hv, hS8, hA, hq, hL, by simp, dL, Dg.zeros (by decide) _, Nat.le_refl _, fun _ _ => rfl, htop, ?_, rfl⟩
    rw [List.drop_of_length_le (l := List.replicate _ 0) (by simp)]; simp [vl]
  · rintro m ⟨tm, hp⟩ ⟨k, L, out, h8, h9, h10, h11, h12, h13, hG, hv, hS8, hA, hq, hL, ho, dL, dq, hk, hlow, hR, hinv, rfl⟩
    simp only at h8 h9 h10 h11 h12 h13 hG hv hS8 hA hq
    rcases Nat.eq_zero_or_pos k with rfl | hpos
    · have e0 : ((0 : Nat) : Int) - 1 = -1 := rfl
      simp only [List.drop_zero] at hinv hR
      rw [hab, hvb, ← Nat.mul_assoc] at hinv
      rw [hvb] at hR
      have key : vl 1000000000 L = vl 1000000000 a % b * f ∧ vl 1000000000 out = vl 1000000000 a / b := by
        have e : vl 1000000000 a * f / (b * f) = vl 1000000000 out := by
          rw [hinv, Nat.mul_assoc, Nat.mul_comm, Nat.mul_add_div (Nat.mul_pos hb hf), Nat.div_eq_of_lt hR, Nat.add_zero]
        have e2 : vl 1000000000 a * f % (b * f) = vl 1000000000 L := by
          rw [hinv, Nat.mul_assoc, Nat.mul_comm, Nat.mul_add_mod, Nat.mod_eq_of_lt hR]
        rw [Nat.mul_div_mul_right _ _ hf] at e
        rw [Nat.mul_mod_mul_right] at e2
        exact ⟨e2.symm, e.symm⟩
      repeat' (with_reducible first | simp (disch := first | assumption | omega | (simp only [go_sem, ne_eq, Nat.reduceAdd, Nat.reduceLeDiff] <;> omega) | fail) only [go_sem, seval, h8, h9, h10, h11, h12, h13, e0] | ((first | apply k1 | apply k2 | apply k3 | apply k4 | apply k5 | apply k6 | apply k7) <;> intro hc))
      rw [← key.2]
      exact tail _ _ _ _ (by simp (disch := first | assumption | omega | (simp only [go_sem, ne_eq, Nat.reduceAdd, Nat.reduceLeDiff] <;> omega) | fail) only [go_sem, seval, h8]) (by simp (disch := first | assumption | omega | (simp only [go_sem, ne_eq, Nat.reduceAdd, Nat.reduceLeDiff] <;> omega) | fail) only [go_sem, seval, h10]) (by simp (disch := first | assumption | omega | (simp only [go_sem, ne_eq, Nat.reduceAdd, Nat.reduceLeDiff] <;> omega) | fail) only [go_sem, seval, h11]) (by simp (disch := first | assumption | omega | (simp only [go_sem, ne_eq, Nat.reduceAdd, Nat.reduceLeDiff] <;> omega) | fail) only [go_sem, seval, h12]) hG hA hL dL key.1 (by rw [← hvb] at hR; omega) hS8 hq ho dq
    · have e1 : ((k : Int) - 1).toNat = k - 1 := by omega
      have hp1 : (0 : Int) ≤ (k : Int) - 1 := by omega
      have ec : ((k - 1 : Nat) : Int) = (k : Int) - 1 := by omega
      have hjn : k - 1 + v.length < L.length := by omega
      have hj : (L.take (k - 1)).length = k - 1 := by rw [List.length_take]; omega
      have hX0l : ((L.drop (k - 1)).take v.length).length = v.length := by rw [List.length_take, List.length_drop]; omega
      have hsn := snoc_win hjn
      have hsp : L = L.take (k - 1) ++ (L.drop (k - 1)).take v.length ++ (L.getD (k - 1 + v.length) 0 :: L.drop (k - 1 + (v.length + 1))) := by
        have e : L.getD (k - 1 + v.length) 0 :: L.drop (k - 1 + (v.length + 1)) = (L.drop (k - 1)).drop v.length := by
          rw [List.drop_drop, List.drop_eq_getElem_cons (i := k - 1 + v.length) hjn, getD_eq hjn]; rfl
        rw [e, List.append_assoc, List.take_append_drop, List.take_append_drop]
      have dk := vl_drop (B := 1000000000) (l := L) (j := k - 1) (by omega)
      have dk0 := vl_drop (B := 1000000000) (l := L0) (j := k - 1) (by omega)
      have dko := fun q => vl_drop_set (B := 1000000000) (q := q) (l := out) (j := k - 1) (by omega)
      rw [Nat.sub_add_cancel hpos] at dk dk0
      simp only [Nat.sub_add_cancel hpos] at dko
      rw [hlow (k - 1) (by omega)] at dk
      have hljd := Dg.getD (B := 1000000000) (by decide) dL (k - 1)
      rw [hlow (k - 1) (by omega)] at hljd
      have hWlt : vl 1000000000 (L.drop (k - 1)) < 1000000000 * vl 1000000000 v := by
        rw [dk]
        have : 1000000000 * (vl 1000000000 (L.drop k) + 1) ≤ 1000000000 * vl 1000000000 v := Nat.mul_le_mul_left _ hR
        omega
      have hBn : vl 1000000000 (L.drop (k - 1)) < 1000000000 ^ (v.length + 1) := by
        rw [Nat.pow_succ, Nat.mul_comm]
        exact Nat.lt_trans hWlt (Nat.mul_lt_mul_of_pos_left hvl (by decide))
      obtain ⟨ht0, htn⟩ := vl_top0 (B := 1000000000) (by decide) hBn
      rw [List.drop_drop] at ht0
      have hstep := long_step (B := 1000000000) hinv dk (Nat.div_add_mod (vl 1000000000 (L.drop (k - 1))) (vl 1000000000 v)).symm
      rw [← htn] at hstep hWlt
      have hWl : ((L.drop (k - 1)).take (v.length + 1)).length = v.length + 1 := by rw [List.length_take, List.length_drop]; omega
      have dW : Dg 1000000000 ((L.drop (k - 1)).take (v.length + 1)) := (dL.drop _).take _
      have tv := top2 (B := 1000000000) (l := v) h2
      have tw := top3 (B := 1000000000) (W := (L.drop (k - 1)).take (v.length + 1)) h2 hWl
      have lv := vl_lt (B := 1000000000) (by decide) (dv.take (v.length - 2))
      have lw := vl_lt (B := 1000000000) (by decide) (dW.take (v.length - 2))
      rw [List.length_take, Nat.min_eq_left (by omega)] at lv lw
      rw [getD_win (by omega), getD_win (by omega), getD_win (by omega)] at tw
      have huld := Dg.getD (B := 1000000000) (by decide) dL (k - 1 + (v.length - 2))
      obtain ⟨hQU, hfin, hU, _, hQB⟩ := est_facts (B := 1000000000) (v1 := v.getD (v.length - 1) 0) (v0 := v.getD (v.length - 2) 0) (U := L.getD (k - 1 + v.length) 0 * 1000000000 + L.getD (k - 1 + (v.length - 1)) 0) (u := L.getD (k - 1 + (v.length - 2)) 0) tv tw lv lw rfl rfl (by omega) (by decide) hWlt
      have hcall := d272 (h := hp) (va := .sl T0 0 (a.length + 1) 1) (vb := wv) (a := L) (v := v) (j := k - 1) (hA.sq hL) hv h2 hjn (by omega) dL dv rfl rfl rfl rfl rfl (by omega) (by rw [show k - 1 + v.length - 1 = k - 1 + (v.length - 1) by omega]; exact hU) hQB (by rw [show k - 1 + v.length - 1 = k - 1 + (v.length - 1) by omega, show k - 1 + v.length - 2 = k - 1 + (v.length - 2) by omega]; exact hQU)
      rw [show k - 1 + v.length - 1 = k - 1 + (v.length - 1) by omega, show k - 1 + v.length - 2 = k - 1 + (v.length - 2) by omega, ec] at hcall
      have hrow : L.map (wd .i64) = (L.take (k - 1) ++ (L.drop (k - 1)).take v.length).map (wd .i64) ++ (.int .i64 (L.getD (k - 1 + v.length) 0 : Nat) :: (L.drop (k - 1 + (v.length + 1))).map (wd .i64)) := by
        conv => lhs; rw [hsp]
        rw [List.map_append, List.map_cons]; rfl
      rw [hrow] at hA
      rw [hsn] at hstep hcall hWlt hfin hQB
      have hdW := Nat.mod_lt (vl 1000000000 ((L.drop (k - 1)).take v.length ++ [L.getD (k - 1 + v.length) 0])) hvp
      have dX0 : Dg 1000000000 ((L.drop (k - 1)).take v.length) := (dL.drop _).take _
      have dP : Dg 1000000000 (L.take (k - 1)) := dL.take _
      have dS : Dg 1000000000 (L.drop (k - 1 + (v.length + 1))) := dL.drop _
      have hSl : (L.take (k - 1)).length + (v.length + 1) + (L.drop (k - 1 + (v.length + 1))).length = a.length + 1 := by
        rw [List.length_take, List.length_drop]; omega
      have hPlow : ∀ i, i < k - 1 → (L.take (k - 1)).getD i 0 = L0.getD i 0 := by
        intro i hi
        rw [← hlow i (by omega)]
        simp only [List.getD, List.getElem?_take, if_pos hi]
      have hWv : vl 1000000000 ((L.drop (k - 1)).take v.length ++ [L.getD (k - 1 + v.length) 0]) = vl 1000000000 ((L.drop (k - 1)).take v.length) + 1000000000 ^ v.length * L.getD (k - 1 + v.length) 0 := by rw [vl_snoc, hX0l]
      obtain ⟨P, hP⟩ : ∃ P, P = L.take (k - 1) := ⟨_, rfl⟩
      obtain ⟨X0, hX0⟩ : ∃ X0, X0 = (L.drop (k - 1)).take v.length := ⟨_, rfl⟩
      obtain ⟨S, hS⟩ : ∃ S, S = L.drop (k - 1 + (v.length + 1)) := ⟨_, rfl⟩
      obtain ⟨top, htp⟩ : ∃ top, top = L.getD (k - 1 + v.length) 0 := ⟨_, rfl⟩
      rw [← hP, ← hX0, ← hS, ← htp] at hA
      rw [← hX0, ← htp] at hWv hstep hcall hdW hfin hQB
      rw [← hX0] at dX0 hX0l
      rw [← hP] at dP hj hPlow
      rw [← hS] at dS ht0
      rw [← hP, ← hS] at hSl
      obtain ⟨W, hWd⟩ : ∃ W, W = vl 1000000000 (X0 ++ [top]) := ⟨_, rfl⟩
      rw [← hWd] at hWv hstep hcall hdW hfin hQB
      have htopd : top < 1000000000 := by rw [htp]; exact Dg.getD (by decide) dL _
      have close : ∀ (hp' : Hp) (Xn : List Nat) (q' : Nat), Grs h hp' → Sq .i64 hp' wv v → Sq .i64 hp' v8 [f] → AtS hp' T0 ((P ++ Xn).map (wd .i64) ++ (.int .i64 0 :: S.map (wd .i64))) → AtS hp' tq ((out.set (k - 1) q').map (wd .i64)) → Xn.length = v.length → Dg 1000000000 Xn → vl 1000000000 Xn = W % vl 1000000000 v → q' = W / vl 1000000000 v →
          ∃ m', m' < k ∧ ∃ (k' : Nat) (L' out' : List Nat), (AV.int .i64 ((k : Int) - 1 - 1) = .int .i64 ((k' : Int) - 1)) ∧ Grs h hp' ∧ Sq .i64 hp' wv v ∧ Sq .i64 hp' v8 [f] ∧ AtS hp' T0 (L'.map (wd .i64)) ∧ AtS hp' tq (out'.map (wd .i64)) ∧ L'.length = a.length + 1 ∧ out'.length = a.length + 1 - v.length ∧ Dg 1000000000 L' ∧ Dg 1000000000 out' ∧ k' ≤ a.length + 1 - v.length ∧
            (∀ i, i < k' → L'.getD i 0 = L0.getD i 0) ∧ vl 1000000000 (L'.drop k') < vl 1000000000 v ∧ vl 1000000000 (L0.drop k') = vl 1000000000 (out'.drop k') * vl 1000000000 v + vl 1000000000 (L'.drop k') ∧ k' = m' := by
        intro hp' Xn q' G' V' S8' A' Q' lX dX vX hq'
        have erow : (P ++ Xn).map (wd .i64) ++ (.int .i64 0 :: S.map (wd .i64)) = (P ++ Xn ++ (0 :: S)).map (wd .i64) := by
          rw [List.map_append (l₁ := P ++ Xn), List.map_cons]; rfl
        rw [erow] at A'
        have hdr : vl 1000000000 ((P ++ Xn ++ (0 :: S)).drop (k - 1)) = vl 1000000000 Xn := by
          rw [List.append_assoc, List.drop_append_of_le_length (by omega), List.drop_of_length_le (by omega), List.nil_append, vl_append, vl_cons, ht0]; simp
        refine ⟨k - 1, by omega, k - 1, P ++ Xn ++ (0 :: S), out.set (k - 1) q', by congr 1; omega, G', V', S8', A', Q', ?_, by simpa using ho, ?_, ?_, by omega, ?_, ?_, ?_, rfl⟩
        · simp only [List.length_append, List.length_cons]; omega
        · exact (dP.append dX).append (Dg.cons (by decide) dS)
        · exact dq.set _ (by rw [hq']; exact hQB)
        · intro i hi
          rw [← hPlow i hi]
          simp only [List.getD]
          rw [List.append_assoc, List.getElem?_append_left (by omega)]
        · rw [hdr, vX]; exact hdW
        · rw [hdr, vX, dk0, dko, hq']; exact hstep
      have hiN : ∀ i : Nat, i < v.length → (0 : Int) ≤ (i : Int) + ((k : Int) - 1) ∧ (i : Int) + ((k : Int) - 1) < ((a.length + 1 : Nat) : Int) := fun i hi => by omega
      clear hrow hsn hsp tw dk
      repeat' (with_reducible first | simp (disch := first | assumption | omega | (simp only [go_sem, ne_eq, Nat.reduceAdd, Nat.reduceLeDiff] <;> omega) | fail) only [go_sem, seval, h8, h9, h10, h11, h12, h13, hp1] | ((first | apply k1 | apply k2 | apply k3 | apply k4 | apply k5 | apply k6 | apply k7) <;> intro hc))
      refine hcall.imp fun v' h' ⟨q, e, e', hq1, hqB, hqle⟩ => ?_
      subst e; subst e'
      have hq2 := hfin q hqB hqle
      repeat' (with_reducible first | simp (disch := first | assumption | omega | (simp only [go_sem, ne_eq, Nat.reduceAdd, Nat.reduceLeDiff] <;> omega) | fail) only [go_sem, seval, h8, h9, h10, h11, h12, h13] | ((first | apply k1 | apply k2 | apply k3 | apply k4 | apply k5 | apply k6 | apply k7) <;> intro hc))
      refine Wp.loopI (fun m s' => ∃ (i ca : Nat) (X : List Nat), val s'.tm (.t 8) = v8 ∧ val s'.tm (.t 9) = wv ∧ val s'.tm (.t 10) = .int .i64 v.length ∧ val s'.tm (.t 11) = .sl T0 0 (a.length + 1) 1 ∧ val s'.tm (.t 12) = .sl tq 0 (a.length + 1 - v.length) 1 ∧ val s'.tm (.t 13) = .int .i64 ((k : Int) - 1) ∧ val s'.tm (.t 14) = .int .i64 (q : Nat) ∧ val s'.tm (.t 15) = .int .i64 (ca : Nat) ∧ val s'.tm (.t 16) = .int .i64 (i : Nat) ∧
        Grs h s'.hp ∧ Sq .i64 s'.hp wv v ∧ Sq .i64 s'.hp v8 [f] ∧ AtS s'.hp tq (out.map (wd .i64)) ∧ AtS s'.hp T0 ((P ++ X).map (wd .i64) ++ (.int .i64 (top : Nat) :: S.map (wd .i64))) ∧ X.length = v.length ∧ Dg 1000000000 X ∧ ca ≤ 1000000000 ∧ i ≤ v.length ∧
        vl 1000000000 (X.take i) + q * vl 1000000000 (v.take i) = vl 1000000000 (X0.take i) + 1000000000 ^ i * ca ∧ (∀ k', i ≤ k' → X.getD k' 0 = X0.getD k' 0) ∧ v.length - i = m) (n := v.length) ?_ ?_
      · exact ⟨0, 0, X0, by simp (disch := first | assumption | omega | (simp only [go_sem, ne_eq, Nat.reduceAdd, Nat.reduceLeDiff] <;> omega) | fail) only [go_sem, seval, h8], by simp (disch := first | assumption | omega | (simp only [go_sem, ne_eq, Nat.reduceAdd, Nat.reduceLeDiff] <;> omega) | fail) only [go_sem, seval, h9], by simp (disch := first | assumption | omega | (simp only [go_sem, ne_eq, Nat.reduceAdd, Nat.reduceLeDiff] <;> omega) | fail) only [go_sem, seval, h10], by simp (disch := first | assumption | omega | (simp only [go_sem, ne_eq, Nat.reduceAdd, Nat.reduceLeDiff] <;> omega) | fail) only [go_sem, seval, h11], by simp (disch := first | assumption | omega | (simp only [go_sem, ne_eq, Nat.reduceAdd, Nat.reduceLeDiff] <;> omega) | fail) only [go_sem, seval, h12], by simp (disch := first | assumption | omega | (simp only [go_sem, ne_eq, Nat.reduceAdd, Nat.reduceLeDiff] <;> omega) | fail) only [go_sem, seval, h13], by simp (disch := first | assumption | omega | (simp only [go_sem, ne_eq, Nat.reduceAdd, Nat.reduceLeDiff] <;> omega) | fail) only [go_sem, seval], by (simp (disch := first | assumption | omega | (simp only [go_sem, ne_eq, Nat.reduceAdd, Nat.reduceLeDiff] <;> omega) | fail) only [go_sem, seval]) <;> rfl, by (simp (disch := first | assumption | omega | (simp only [go_sem, ne_eq, Nat.reduceAdd, Nat.reduceLeDiff] <;> omega) | fail) only [go_sem, seval]) <;> rfl, hG, hv, hS8, hq, hA, hX0l, dX0, by omega, by omega, by simp [vl], fun _ _ => rfl, rfl⟩
      · rintro m ⟨tm, hp⟩ ⟨i, ca, X, h8, h9, h10, h11, h12, h13, h14, h15, h16, hG, hv, hS8, hq, hA, hX, dX, hca, hle, hinv4, hsame, rfl⟩
        simp only at h8 h9 h10 h11 h12 h13 h14 h15 h16 hG hv hS8 hq hA
        have hnx := hA.lt
        by_cases hlt : i < v.length
        · have hlt' : (i : Int) < v.length := by omega
          have rv := hv.rd
          have adv := rv.adr
          have ldv := rv.load i hlt
          have ld := hA.ldx (i := i) (by omega)
          have sw := hA.stx (i := i) (by omega)
          have hs := hsame i (Nat.le_refl _)
          have tk0 := vl_take_succ (B := 1000000000) (l := X0) (i := i) (by omega)
          have tkv := vl_take_succ (B := 1000000000) hlt
          have hxd := Dg.getD (B := 1000000000) (by decide) dX i
          have hvd := Dg.getD (B := 1000000000) (by decide) dv i
          rw [← hs] at tk0
          have tkx := fun r => vl_set_take (B := 1000000000) (l := X) (i := i) (x := r) (by omega)
          obtain ⟨b1, b2⟩ := hiN i hlt
          have hij : ((i : Int) + ((k : Int) - 1)).toNat = P.length + i := by omega
          generalize X.getD i 0 = xi at *
          generalize v.getD i 0 = vi at *
          have hpp : q * vi ≤ 999999999 * 999999999 := Nat.mul_le_mul (by omega) (by omega)
          have m0 : (q : Int) * vi = ((q * vi : Nat) : Int) := (Int.natCast_mul _ _).symm
          have fin : ∀ x' ca', x' + (q * vi + ca) = xi + 1000000000 * ca' → vl 1000000000 ((X.set i x').take (i + 1)) + q * vl 1000000000 (v.take (i + 1)) = vl 1000000000 (X0.take (i + 1)) + 1000000000 ^ (i + 1) * ca' := by
            intro x' ca' hx
            rw [tkx, tk0, tkv, Nat.pow_succ]
            exact mac_step hinv4 hx
          generalize q * vi = pr at *
          have e17 : (pr : Int) + ca = ((pr + ca : Nat) : Int) := by omega
          have em : ((pr + ca : Nat) : Int) % 1000000000 = ((pr + ca) % 1000000000 : Nat) := by omega
          have eq : ((pr + ca : Nat) : Int) / 1000000000 = ((pr + ca) / 1000000000 : Nat) := by omega
          by_cases hn : (xi : Int) - ((pr + ca) % 1000000000 : Nat) < 0
          · have er : (xi : Int) - ((pr + ca) % 1000000000 : Nat) + 1000000000 = ((xi + 1000000000 - (pr + ca) % 1000000000 : Nat) : Int) := by omega
            have ec1 : (((pr + ca) / 1000000000 : Nat) : Int) + 1 = (((pr + ca) / 1000000000 + 1 : Nat) : Int) := by omega
            repeat' (with_reducible first | simp (disch := first | assumption | omega | (simp only [go_sem, ne_eq, Nat.reduceAdd, Nat.reduceLeDiff] <;> omega) | fail) only [go_sem, seval, h8, h9, h10, h11, h12, h13, h14, h15, h16, hlt', adv, ldv, ld, sw, b1, b2, hij, m0, e17, em, eq, hn, er, ec1] | ((first | apply k1 | apply k2 | apply k3 | apply k4 | apply k5 | apply k6 | apply k7) <;> intro hc))
            refine ⟨v.length - (i + 1), by omega, i + 1, (pr + ca) / 1000000000 + 1, X.set i (xi + 1000000000 - (pr + ca) % 1000000000), rfl, rfl, Grs.put hG hT, hv.putN n1, hS8.putN n3, hq.other n5, AtS.put hnx, by simpa using hX, dX.set _ (by omega), by omega, hlt, fin _ _ (by omega), ?_, rfl⟩
            intro k' hk'
            rw [Bg.getD_set_ne (by omega)]; exact hsame k' (by omega)
          · have er : (xi : Int) - ((pr + ca) % 1000000000 : Nat) = ((xi - (pr + ca) % 1000000000 : Nat) : Int) := by omega
            rw [er] at hn
            repeat' (with_reducible first | simp (disch := first | assumption | omega | (simp only [go_sem, ne_eq, Nat.reduceAdd, Nat.reduceLeDiff] <;> omega) | fail) only [go_sem, seval, h8, h9, h10, h11, h12, h13, h14, h15, h16, hlt', adv, ldv, ld, sw, b1, b2, hij, m0, e17, em, eq, er, hn] | ((first | apply k1 | apply k2 | apply k3 | apply k4 | apply k5 | apply k6 | apply k7) <;> intro hc))
            refine ⟨v.length - (i + 1), by omega, i + 1, (pr + ca) / 1000000000, X.set i (xi - (pr + ca) % 1000000000), rfl, rfl, Grs.put hG hT, hv.putN n1, hS8.putN n3, hq.other n5, AtS.put hnx, by simpa using hX, dX.set _ (by omega), by omega, hlt, fin _ _ (by omega), ?_, rfl⟩
            intro k' hk'
            rw [Bg.getD_set_ne (by omega)]; exact hsame k' (by omega)
        · have hlt' : ¬ (i : Int) < v.length := by omega
          obtain rfl : i = v.length := by omega
          rw [List.take_length, List.take_of_length_le (by omega : X.length ≤ v.length), List.take_of_length_le (by omega : X0.length ≤ v.length)] at hinv4
          have hXl := vl_lt (B := 1000000000) (by decide) dX
          rw [hX] at hXl
          have htI : ((k : Int) - 1 + v.length).toNat = P.length + X.length := by omega
          have htN : (0 : Int) ≤ (k : Int) - 1 + v.length ∧ (k : Int) - 1 + v.length < ((a.length + 1 : Nat) : Int) := by omega
          obtain ⟨b1, b2⟩ := htN
          have ld := hA.ldt
          have st := hA.stt
          have sq := hq.stw64 (i := k - 1) (by omega)
          have hnq := hq.lt
          have hb1 : P.length + X.length + 1 ≤ P.length + X.length + (S.length + 1) := by omega
          have g1 : ∀ z : Int, ((P ++ X).map (wd .i64) ++ .int .i64 z :: S.map (wd .i64))[P.length + X.length]? = some (.int .i64 z) := fun z => by
            rw [List.getElem?_append_right (by simp)]; simp
          rcases sub_fin hWv hinv4 hXl hvl hvp rfl hq1 hq2 with ⟨hqq, hcc, hXv⟩ | ⟨hqq, hcc, hXv⟩
          · have ez : (top : Int) - ca = 0 := by omega
            subst hqq
            repeat' (with_reducible first | simp (disch := first | assumption | omega | (simp only [go_sem, ne_eq, Nat.reduceAdd, Nat.reduceLeDiff] <;> omega) | fail) only [go_sem, seval, h8, h9, h10, h11, h12, h13, h14, h15, h16, hlt', htI, b1, b2, ld, st, ez, hb1, g1, sq, hp1, e1, Int.lt_irrefl] | ((first | apply k1 | apply k2 | apply k3 | apply k4 | apply k5 | apply k6 | apply k7) <;> intro hc))
            refine close _ X _ (Grs.put (Grs.put hG hT) hTq) ((hv.putN n1).putN n2) ((hS8.putN n3).putN n4) ?_ (AtS.put hnq) hX dX hXv rfl
            exact (AtS.put hnx).other (by omega)
          · have ez : (top : Int) - ca = -1 := by omega
            have es : ((W / vl 1000000000 v + 1 : Nat) : Int) - 1 = (W / vl 1000000000 v : Nat) := by omega
            have hwQ : IntKind.wrap .i64 ((W / vl 1000000000 v : Nat) : Int) = (W / vl 1000000000 v : Nat) := wrap_i64 ⟨Int.le_trans (by decide) (Int.natCast_nonneg _), Int.le_trans (Int.ofNat_le.2 (Nat.le_of_lt hQB)) (by decide)⟩
            subst hqq
            repeat' (with_reducible first | simp (disch := first | assumption | omega | (simp only [go_sem, ne_eq, Nat.reduceAdd, Nat.reduceLeDiff] <;> omega) | fail) only [go_sem, seval, h8, h9, h10, h11, h12, h13, h14, h15, h16, hlt', htI, b1, b2, ld, st, ez, es, hwQ, hb1, g1] | ((first | apply k1 | apply k2 | apply k3 | apply k4 | apply k5 | apply k6 | apply k7) <;> intro hc))
            refine Wp.loopI (fun m s' => ∃ (i c : Nat) (Y : List Nat), val s'.tm (.t 8) = v8 ∧ val s'.tm (.t 9) = wv ∧ val s'.tm (.t 10) = .int .i64 v.length ∧ val s'.tm (.t 11) = .sl T0 0 (a.length + 1) 1 ∧ val s'.tm (.t 12) = .sl tq 0 (a.length + 1 - v.length) 1 ∧ val s'.tm (.t 13) = .int .i64 ((k : Int) - 1) ∧ val s'.tm (.t 14) = .int .i64 (W / vl 1000000000 v : Nat) ∧ val s'.tm (.t 19) = .int .i64 (c : Nat) ∧ val s'.tm (.t 20) = .int .i64 (i : Nat) ∧
              Grs h s'.hp ∧ Sq .i64 s'.hp wv v ∧ Sq .i64 s'.hp v8 [f] ∧ AtS s'.hp tq (out.map (wd .i64)) ∧ AtS s'.hp T0 ((P ++ Y).map (wd .i64) ++ (.int .i64 (-1) :: S.map (wd .i64))) ∧ Y.length = v.length ∧ Dg 1000000000 Y ∧ c ≤ 1 ∧ i ≤ v.length ∧
              vl 1000000000 (Y.take i) + 1000000000 ^ i * c = vl 1000000000 (X.take i) + vl 1000000000 (v.take i) ∧ (∀ k', i ≤ k' → Y.getD k' 0 = X.getD k' 0) ∧ v.length - i = m) (n := v.length) ?_ ?_
            · exact ⟨0, 0, X, by simp (disch := first | assumption | omega | (simp only [go_sem, ne_eq, Nat.reduceAdd, Nat.reduceLeDiff] <;> omega) | fail) only [go_sem, seval, h8], by simp (disch := first | assumption | omega | (simp only [go_sem, ne_eq, Nat.reduceAdd, Nat.reduceLeDiff] <;> omega) | fail) only [go_sem, seval, h9], by simp (disch := first | assumption | omega | (simp only [go_sem, ne_eq, Nat.reduceAdd, Nat.reduceLeDiff] <;> omega) | fail) only [go_sem, seval, h10], by simp (disch := first | assumption | omega | (simp only [go_sem, ne_eq, Nat.reduceAdd, Nat.reduceLeDiff] <;> omega) | fail) only [go_sem, seval, h11], by simp (disch := first | assumption | omega | (simp only [go_sem, ne_eq, Nat.reduceAdd, Nat.reduceLeDiff] <;> omega) | fail) only [go_sem, seval, h12], by simp (disch := first | assumption | omega | (simp only [go_sem, ne_eq, Nat.reduceAdd, Nat.reduceLeDiff] <;> omega) | fail) only [go_sem, seval, h13], by simp (disch := first | assumption | omega | (simp only [go_sem, ne_eq, Nat.reduceAdd, Nat.reduceLeDiff] <;> omega) | fail) only [go_sem, seval, es, hwQ], by (simp (disch := first | assumption | omega | (simp only [go_sem, ne_eq, Nat.reduceAdd, Nat.reduceLeDiff] <;> omega) | fail) only [go_sem, seval]) <;> rfl, by (simp (disch := first | assumption | omega | (simp only [go_sem, ne_eq, Nat.reduceAdd, Nat.reduceLeDiff] <;> omega) | fail) only [go_sem, seval]) <;> rfl, Grs.put hG hT, hv.putN n1, hS8.putN n3, hq.other n5, AtS.put hnx, hX, dX, by omega, by omega, by simp [vl], fun _ _ => rfl, rfl⟩
            · rintro m ⟨tm, hp⟩ ⟨i, c, Y, h8, h9, h10, h11, h12, h13, h14, h19, h20, hG, hv, hS8, hq, hA, hY, dY, hc, hle, hinv6, hsame6, rfl⟩
              simp only at h8 h9 h10 h11 h12 h13 h14 h19 h20 hG hv hS8 hq hA
              have hnx := hA.lt
              by_cases hlt : i < v.length
              · have hlt' : (i : Int) < v.length := by omega
                have rv := hv.rd
                have adv := rv.adr
                have ldv := rv.load i hlt
                have ov := rv.old (by omega)
                have od := hA.old
                have ld := hA.ldx (i := i) (by omega)
                have sw := hA.stx (i := i) (by omega)
                have hs := hsame6 i (Nat.le_refl _)
                have tk0 := vl_take_succ (B := 1000000000) (l := X) (i := i) (by omega)
                have tkv := vl_take_succ (B := 1000000000) hlt
                have hxd := Dg.getD (B := 1000000000) (by decide) dY i
                have hvd := Dg.getD (B := 1000000000) (by decide) dv i
                rw [← hs] at tk0
                have fin : ∀ s, s = Y.getD i 0 + v.getD i 0 + c → vl 1000000000 ((Y.set i (s % 1000000000)).take (i + 1)) + 1000000000 ^ (i + 1) * (s / 1000000000) = vl 1000000000 (X.take (i + 1)) + vl 1000000000 (v.take (i + 1)) := by
                  intro s hs'
                  rw [vl_set_take (by omega), tk0, tkv, Nat.pow_succ]
                  exact add9_step hinv6 hs'
                obtain ⟨b1, b2⟩ := hiN i hlt
                have hij : ((i : Int) + ((k : Int) - 1)).toNat = P.length + i := by omega
                generalize Y.getD i 0 = xi at *
                generalize v.getD i 0 = vi at *
                have em : ((xi : Int) + vi + c) % 1000000000 = ((xi + vi + c) % 1000000000 : Nat) := by omega
                have eq : ((xi : Int) + vi + c) / 1000000000 = ((xi + vi + c) / 1000000000 : Nat) := by omega
                repeat' (with_reducible first | simp (disch := first | assumption | omega | (simp only [go_sem, ne_eq, Nat.reduceAdd, Nat.reduceLeDiff] <;> omega) | fail) only [go_sem, seval, h8, h9, h10, h11, h12, h13, h14, h19, h20, hlt', adv, ldv, ov, od, ld, sw, b1, b2, hij, em, eq] | ((first | apply k1 | apply k2 | apply k3 | apply k4 | apply k5 | apply k6 | apply k7) <;> intro hc))
                refine ⟨v.length - (i + 1), by omega, i + 1, (xi + vi + c) / 1000000000, Y.set i ((xi + vi + c) % 1000000000), rfl, rfl, Grs.put hG hT, hv.putN n1, hS8.putN n3, hq.other n5, AtS.put hnx, by simpa using hY, dY.set _ (Nat.mod_lt _ (by decide)), by omega, hlt, fin _ rfl, ?_, rfl⟩
                intro k' hk'
                rw [Bg.getD_set_ne (by omega)]; exact hsame6 k' (by omega)
              · have hlt' : ¬ (i : Int) < v.length := by omega
                obtain rfl : i = v.length := by omega
                rw [List.take_length, List.take_of_length_le (by omega : X.length ≤ v.length), List.take_of_length_le (by omega : Y.length ≤ v.length)] at hinv6
                have hYl := vl_lt (B := 1000000000) (by decide) dY
                rw [hY] at hYl
                obtain ⟨hYv, hc1⟩ := back_fin hXv (by omega) hYl hinv6
                subst hc1
                have htI : ((k : Int) - 1 + v.length).toNat = P.length + Y.length := by omega
                have ld := hA.ldt
                have st := hA.stt
                have sq := hq.stw64 (i := k - 1) (by omega)
                have hnq := hq.lt
                have ez : (-1 : Int) + ((1 : Nat) : Int) = 0 := by omega
                repeat' (with_reducible first | simp (disch := first | assumption | omega | (simp only [go_sem, ne_eq, Nat.reduceAdd, Nat.reduceLeDiff] <;> omega) | fail) only [go_sem, seval, h8, h9, h10, h11, h12, h13, h14, h19, h20, hlt', htI, b1, b2, ld, st, ez, sq, hp1, e1] | ((first | apply k1 | apply k2 | apply k3 | apply k4 | apply k5 | apply k6 | apply k7) <;> intro hc))
                refine close _ Y _ (Grs.put (Grs.put hG hT) hTq) ((hv.putN n1).putN n2) ((hS8.putN n3).putN n4) ?_ (AtS.put hnq) hY dY hYv rfl
                exact (AtS.put hnx).other (by omega)
end
end
end Go.Ae


/- The reference's digits: quotient and rest. -/
set_option linter.unusedVariables false
set_option linter.unusedSimpArgs false
set_option maxRecDepth 100000
set_option maxHeartbeats 1000000
namespace Go.Ae
open Bg
noncomputable section
theorem few9 {B : Nat} (hB : 1 < B) {l : List Nat} {n : Nat} (hn : Norm l) (h : vl B l < B ^ n) : l.length ≤ n := by
  rcases Nat.lt_or_ge n l.length with c | c
  · have h0 : l ≠ [] := by rintro rfl; simp at c
    obtain ⟨m, x, rfl⟩ := snoc_of h0
    have h1 := vl_ge (B := B) (l := m) (norm_snoc.1 hn)
    have h2 := Nat.pow_le_pow_right (n := B) (by omega) (show n ≤ m.length by simp at c; omega)
    omega
  · exact c
theorem norm_fac {b : List Nat} {f : Nat} (db : Dg 1000000000 b) (nb : Norm b) (hb : b ≠ []) (hf : f = 1000000000 / (b.getD (b.length - 1) 0 + 1)) : 0 < b.getD (b.length - 1) 0 ∧ 0 < f ∧ f < 1000000000 ∧ vl 1000000000 b * f < 1000000000 ^ b.length ∧ 1000000000 ^ (b.length - 1) ≤ vl 1000000000 b := by
  obtain ⟨m, x, rfl⟩ := snoc_of hb
  have hx0 := norm_snoc.1 nb
  have dx : x < 1000000000 := db x (by simp)
  have e : (m ++ [x]).getD ((m ++ [x]).length - 1) 0 = x := by simp [List.getD]
  rw [e] at hf ⊢
  have hm := vl_lt (B := 1000000000) (by decide) (db.left)
  have hlen : (m ++ [x]).length = m.length + 1 := by simp
  have f0 : 0 < f := by rw [hf]; exact Nat.div_pos (by omega) (by omega)
  have f1 : f * (x + 1) ≤ 1000000000 := by rw [hf]; exact Nat.div_mul_le_self _ _
  have f2 : f < 1000000000 := by
    have : f * 2 ≤ f * (x + 1) := Nat.mul_le_mul_left _ (by omega)
    omega
  rw [hlen, Nat.add_sub_cancel, vl_snoc]
  refine ⟨by omega, f0, f2, ?_, ?_⟩
  · have h1 : (vl 1000000000 m + 1000000000 ^ m.length * x) < 1000000000 ^ m.length * (x + 1) := by rw [Nat.mul_add]; omega
    have h2 := Nat.mul_lt_mul_of_pos_right h1 f0
    rw [Nat.mul_assoc, Nat.mul_comm (x + 1)] at h2
    have h3 := Nat.mul_le_mul_left (1000000000 ^ m.length) f1
    rw [Nat.pow_succ]
    exact Nat.lt_of_lt_of_le h2 h3
  · have : 1000000000 ^ m.length * 1 ≤ 1000000000 ^ m.length * x := Nat.mul_le_mul_left _ (by omega)
    omega
theorem top_fac {a L0 : List Nat} {n f V : Nat} (da : Dg 1000000000 a) (hL : L0.length = a.length + 1) (hv : vl 1000000000 L0 = vl 1000000000 a * f) (hn : 1 ≤ n) (hna : n ≤ a.length) (hf : 0 < f) (hV : 1000000000 ^ (n - 1) * f ≤ V) : vl 1000000000 (L0.drop (a.length + 1 - n)) < V := by
  have h1 := vl_split (B := 1000000000) (l := L0) (a.length + 1 - n) (by omega)
  have h2 := vl_lt (B := 1000000000) (by decide) da
  have h3 := Nat.mul_lt_mul_of_pos_right h2 hf
  rw [← hv, h1] at h3
  have e : 1000000000 ^ a.length = 1000000000 ^ (a.length + 1 - n) * 1000000000 ^ (n - 1) := by rw [← Nat.pow_add]; congr 1; omega
  rw [e, Nat.mul_assoc] at h3
  have h4 := Nat.lt_of_mul_lt_mul_left (Nat.lt_of_le_of_lt (Nat.le_add_left _ _) h3)
  exact Nat.lt_of_lt_of_le h4 hV
/-- Append of a whole sequence to an empty one. -/
theorem app_sq {h : Hp} {t st : Nat} {y : AV} {l : List Nat} (hs : Sq .i64 h y l) (h0 : l ≠ []) (hg : h.get t = some (.row [] true st)) (hl : l.length ≤ 2000000) :
    appA h 1 8 (.sl t 0 0 1) y = some (.sl h.next 0 l.length 1, (h.put t fun s => .dead s).push fun s => .row (l.map (wd .i64)) true s) := by
  rcases hs with ⟨_, e⟩ | ⟨u, o, own, st', L, rfl, hu, h1, h2, h3, h4⟩
  · exact absurd e h0
  · have hc : cellsOf h 1 (.sl u o l.length 1) = some (l.map (wd .i64)) := by
      simp only [cellsOf, hu]
      rw [if_pos ⟨trivial, by rw [List.length_map]; omega⟩, Nat.mul_one, ← List.map_drop, ← List.map_take, h2]
    unfold appA
    rw [hc]
    simp only [lenA]
    have hne : l.length ≠ 0 := by simpa using h0
    obtain ⟨m, hm⟩ : ∃ m, l.length = m + 1 := ⟨l.length - 1, by omega⟩
    rw [hm]
    simp only [hg]
    rw [if_pos ⟨trivial, by simp, by omega, by omega⟩]
    simp
section
variable {h : Hp} {K : AV → Hp → Prop}
theorem d208 {va vb : AV} {a b : List Nat} (ha : Sq .i64 h va a) (hb : Sq .i64 h vb b) (da : Dg 1000000000 a) (db : Dg 1000000000 b) (na : Norm a) (nb : Norm b) (hla : a.length ≤ 900000) (hlb : b.length ≤ 900000) (hb0 : b ≠ []) :
    Gp E3 208 [va, vb] h (DivR (vl 1000000000 a / vl 1000000000 b) (vl 1000000000 a % vl 1000000000 b)) := by
  have cmp := fun {K : AV → Hp → Prop} => d251 (K := K) ha hb da db na nb (by omega) (by omega)
  have hbp := norm_pos (B := 1000000000) (by decide) nb hb0
  by_cases hlt : vl 1000000000 a < vl 1000000000 b
  · refine Gp.of (CallWp.fn (fn := R.a208) rfl rfl rfl ?_)
    unfold R.a208
    have hc : cmpN (vl 1000000000 a) (vl 1000000000 b) < 0 := by unfold cmpN; rw [if_pos hlt]; omega
    repeat' (with_reducible first | simp (disch := first | assumption | omega | (simp only [go_sem, ne_eq, Nat.reduceAdd, Nat.reduceLeDiff] <;> omega) | fail) only [go_sem, seval, cmp, hc] | ((first | apply k1 | apply k2 | apply k3 | apply k4 | apply k5 | apply k6 | apply k7) <;> intro hc))
    refine ⟨.nils, va, [], a, rfl, Sq.nil, ha, Dg.nil, da, by simp [Norm], na, ?_, ?_⟩
    · rw [Nat.div_eq_of_lt hlt]; rfl
    · rw [Nat.mod_eq_of_lt hlt]
  · have hc : ¬ cmpN (vl 1000000000 a) (vl 1000000000 b) < 0 := by unfold cmpN; rw [if_neg hlt]; split <;> omega
    have lb := hb.rd.len
    by_cases h1 : b.length = 1
    · obtain ⟨x, rfl⟩ : ∃ x, b = [x] := by
        match b, h1 with
        | [x], _ => exact ⟨x, rfl⟩
      have e : vl 1000000000 [x] = x := by simp [vl]
      rw [e] at hbp ⊢
      have lb' : lenK .slice vb = some (.int .i64 1) := lb
      have rb := hb.rd
      have adb := rb.adr
      have ldb := rb.load 0 (by simp)
      simp only [List.getD_cons_zero, Nat.add_zero] at ldb
      have e00 : (0 : Int).toNat = 0 := rfl
      refine Gp.of (CallWp.fn (fn := R.a208) rfl rfl rfl ?_)
      unfold R.a208
      repeat' (with_reducible first | simp (disch := first | assumption | omega | (simp only [go_sem, ne_eq, Nat.reduceAdd, Nat.reduceLeDiff] <;> omega) | fail) only [go_sem, seval, cmp, hc, lb', adb, ldb, e00] | ((first | apply k1 | apply k2 | apply k3 | apply k4 | apply k5 | apply k6 | apply k7) <;> intro hc))
      refine Gp.wp (d270 ha da db.head hbp (by omega)) fun v1 k1 a1 b1 u1 ⟨vq, lq, e1, S1, dlq, nlq, vlq⟩ => ?_
      subst e1
      repeat' (with_reducible first | simp (disch := first | assumption | omega | (simp only [go_sem, ne_eq, Nat.reduceAdd, Nat.reduceLeDiff] <;> omega) | fail) only [go_sem, seval] | ((first | apply k1 | apply k2 | apply k3 | apply k4 | apply k5 | apply k6 | apply k7) <;> intro hc))
      have hrl := Nat.mod_lt (vl 1000000000 a) hbp
      have A2 : AtS ((h.ov k1 u1).push fun s => .row [.int .i64 ((vl 1000000000 a % x : Nat) : Int)] true s) (h.ov k1 u1).next ([vl 1000000000 a % x].map (wd .i64)) := AtS.push
      have S2 := A2.sq (n := 1) rfl
      have S1' := S1.grs (Grs.push (Grs.refl (h.ov k1 u1)) (f := fun s => .row [.int .i64 ((vl 1000000000 a % x : Nat) : Int)] true s))
      simp only [Hp.next_push, Hp.next_put, Hp.ov_next, Hp.clk_push, Hp.clk_put, Hp.ov_clk] at S2
      have hx := db.head
      refine Gp.wp (dg271 S2 (by simp)) fun v2 k2 a2 b2 u2 S3 => ?_
      repeat' (with_reducible first | simp (disch := first | assumption | omega | (simp only [go_sem, ne_eq, Nat.reduceAdd, Nat.reduceLeDiff] <;> omega) | fail) only [go_sem, seval] | ((first | apply k1 | apply k2 | apply k3 | apply k4 | apply k5 | apply k6 | apply k7) <;> intro hc))
      refine ⟨⟨vq, v2, _, _, rfl, S1'.grs ⟨_, _, u2⟩, S3, dlq, (Dg.cons (by omega) Dg.nil).trim, nlq, norm_trim _, vlq, by rw [vl_trim]; simp [vl]⟩, ?_⟩
      (try first | refine ⟨trivial, ?_⟩ | refine ⟨rfl, ?_⟩); (repeat (first | exact Grs.refl _ | assumption | refine Grs.push ?_ | refine Grs.ov ?_ | refine Grs.put ?_ (by (try simp only [Hp.next_push, Hp.next_put, Hp.ov_next, Hp.clk_push, Hp.clk_put, Hp.ov_clk]); omega)))
    · have hl2 : 2 ≤ b.length := by
        have : b.length ≠ 0 := by simpa using hb0
        omega
      have hla2 : b.length ≤ a.length := by
        rcases Nat.lt_or_ge a.length b.length with c | c
        · have := longer (B := 1000000000) (by decide) da nb c; omega
        · exact c
      have h1' : ¬ (b.length : Int) = 1 := by omega
      have rb := hb.rd
      have adb := rb.adr
      have ldb := rb.load (b.length - 1) (by omega)
      have i1 : ((b.length : Int) - 1).toNat = b.length - 1 := by omega
      have hxd := Dg.getD (B := 1000000000) (by decide) db (b.length - 1)
      obtain ⟨f, hf⟩ : ∃ f, f = 1000000000 / (b.getD (b.length - 1) 0 + 1) := ⟨_, rfl⟩
      obtain ⟨m1, m2, m3, m4, m5⟩ := norm_fac db nb hb0 hf
      have ef : (1000000000 : Int) / ((b.getD (b.length - 1) 0 : Nat) + 1) = (f : Nat) := by rw [hf]; rfl
      have ev : vl 1000000000 [f] = f := by simp [vl]
      have la := ha.rd.len
      refine Gp.of (CallWp.fn (fn := R.a208) rfl rfl rfl ?_)
      refine Wp.cut 9 rfl ?_
      have tail := fun (tm : T AV) (hp : Hp) (v L0 : List Nat) (wv v8 : AV) (T0 tq : Nat) h8 h9 h10 h11 h12 hG hv hS8 dv h2 hva hv1 n1 n2 n3 n4 n5 hT hTq hA hL dL hq hvb hab htop => dd_main (h := h) (hp := hp) (tm := tm) (wv := wv) (v8 := v8) (a := a) (v := v) (L0 := L0) (T0 := T0) (tq := tq) (f := f) (b := vl 1000000000 b) h8 h9 h10 h11 h12 hG hv hS8 dv h2 hva (by omega) hv1 n1 n2 n3 n4 n5 hT hTq hA hL dL hq m2 m3 hbp hvb hab htop
      generalize ACode.post 9 R.a208.code = r at tail ⊢
      unfold R.a208
      dsimp only [ACode.pre]
      generalize b.getD (b.length - 1) 0 = x at *
      repeat' (with_reducible first | simp (disch := first | assumption | omega | (simp only [go_sem, ne_eq, Nat.reduceAdd, Nat.reduceLeDiff] <;> omega) | fail) only [go_sem, seval, cmp, hc, lb, h1', i1, adb, ldb, ef, b_quoP] | ((first | apply k1 | apply k2 | apply k3 | apply k4 | apply k5 | apply k6 | apply k7) <;> intro hc))
      have G8 : Grs h (h.push fun s => .row [.int .i64 (f : Int)] true s) := Grs.push (Grs.refl h)
      have A8 : AtS (h.push fun s => .row [.int .i64 (f : Int)] true s) h.next ([f].map (wd .i64)) := AtS.push
      have S8 := A8.sq (n := 1) rfl
      refine Gp.wp (d253 (hb.grs G8) S8 db (Dg.cons m3 Dg.nil) (by omega) (by simp)) fun v9 kk k1 j1 u1 ⟨l9, S9, D9, N9, V9⟩ => ?_
      rw [ev] at V9
      have ln9 := S9.rd.len
      have hl9 : l9.length = b.length := by
        refine Nat.le_antisymm (few9 (B := 1000000000) (by decide) N9 (by rw [V9]; exact m4)) ?_
        rcases Nat.lt_or_ge l9.length b.length with c | c
        · have g1 := vl_lt (B := 1000000000) (by decide) D9
          have g2 := Nat.pow_le_pow_right (n := 1000000000) (by decide) (show l9.length ≤ b.length - 1 by omega)
          rw [V9] at g1
          have g3 : vl 1000000000 b * 1 ≤ vl 1000000000 b * f := Nat.mul_le_mul_left _ m2
          omega
        · exact c
      have t9 := S9.rd.tok (by omega)
      have S8' := S8.grs ⟨_, _, u1⟩
      obtain ⟨H1, hH1⟩ : ∃ H1, H1 = (h.push fun s => .row [.int .i64 (f : Int)] true s).ov kk u1 := ⟨_, rfl⟩
      have Gx : Grs (h.push fun s => .row [.int .i64 (f : Int)] true s) H1 := by rw [hH1]; exact (Grs.refl _).ov
      have G1 : Grs h H1 := G8.trans Gx
      have hn1 : h.next < H1.next := Nat.lt_of_lt_of_le (Nat.lt_succ_self _) Gx.next
      repeat' (with_reducible first | simp (disch := first | assumption | omega | (simp only [go_sem, ne_eq, Nat.reduceAdd, Nat.reduceLeDiff] <;> omega) | fail) only [go_sem, seval, ln9] | ((first | apply k1 | apply k2 | apply k3 | apply k4 | apply k5 | apply k6 | apply k7) <;> intro hc))
      rw [← hH1] at S9 t9 ⊢
      have S8'' : Sq .i64 H1 (.sl h.next 0 1 1) [f] := by rw [hH1]; exact S8'
      have Gp2 : Grs H1 (H1.push fun s => .row [] true s) := Grs.push (Grs.refl _)
      refine Gp.wp (d253 ((ha.grs G1).grs Gp2) (S8''.grs Gp2) da (Dg.cons m3 Dg.nil) (by omega) (by simp)) fun v11 kk2 k2 j2 u2 ⟨l11, S11, D11, N11, V11⟩ => ?_
      rw [ev] at V11
      have hap : 0 < vl 1000000000 a := by omega
      have hne11 : l11 ≠ [] := by
        rintro rfl
        rw [vl_nil] at V11
        have := Nat.mul_pos hap m2
        omega
      have hl11 : l11.length ≤ a.length + 1 := few9 (B := 1000000000) (by decide) N11 (by
        rw [V11, Nat.pow_succ]
        have g1 := vl_lt (B := 1000000000) (by decide) da
        exact Nat.mul_lt_mul_of_lt_of_lt g1 m3)
      obtain ⟨H2, hH2⟩ : ∃ H2, H2 = (H1.push fun s => .row [] true s).ov kk2 u2 := ⟨_, rfl⟩
      have G2 : Grs H1 H2 := by rw [hH2]; exact (Grs.push (Grs.refl _)).ov
      have hg2 : H2.get H1.next = some (.row [] true (H1.clk + 1)) := by
        rw [hH2, Hp.ov_get (Nat.lt_succ_self _)]; exact Hp.push_same
      have hn2 : H1.next < H2.next := by
        have Gy : Grs (H1.push fun s => .row [] true s) H2 := by rw [hH2]; exact (Grs.refl _).ov
        exact Nat.lt_of_lt_of_le (Nat.lt_succ_self _) Gy.next
      rw [← hH2] at S11 ⊢
      have hnx1 : h.next + 1 + k1 = H1.next := by rw [hH1]; exact (u1.next).symm
      rw [hnx1]
      have eap := app_sq S11 hne11 hg2 (by omega)
      repeat' (with_reducible first | simp (disch := first | assumption | omega | (simp only [go_sem, ne_eq, Nat.reduceAdd, Nat.reduceLeDiff] <;> omega) | fail) only [go_sem, seval, w_app, eap] | ((first | apply k1 | apply k2 | apply k3 | apply k4 | apply k5 | apply k6 | apply k7) <;> intro hc))
      have G3 : Grs H1 ((H2.put H1.next fun s => .dead s).push fun s => .row (l11.map (wd .i64)) true s) := Grs.push (Grs.put G2 (Nat.le_refl _))
      refine Wp.loopI (fun m s' => ∃ (z : Nat) (v : AV), val s'.tm (.t 0) = va ∧ val s'.tm (.t 8) = .sl h.next 0 1 1 ∧ val s'.tm (.t 9) = v9 ∧ val s'.tm (.t 10) = .int .i64 l9.length ∧ val s'.tm (.t 11) = v ∧
        Grs H1 s'.hp ∧ OwnZ 1 H1 s'.hp v (l11.length + z) ((l11 ++ List.replicate z 0).map (wd .i64)) ∧ l11.length + z ≤ a.length + 1 ∧ a.length + 1 - (l11.length + z) = m) (n := a.length + 1 - l11.length) ?_ ?_
      · refine ⟨0, .sl H2.next 0 l11.length 1, by simp (disch := first | assumption | omega | (simp only [go_sem, ne_eq, Nat.reduceAdd, Nat.reduceLeDiff] <;> omega) | fail) only [go_sem, seval], by simp (disch := first | assumption | omega | (simp only [go_sem, ne_eq, Nat.reduceAdd, Nat.reduceLeDiff] <;> omega) | fail) only [go_sem, seval], by simp (disch := first | assumption | omega | (simp only [go_sem, ne_eq, Nat.reduceAdd, Nat.reduceLeDiff] <;> omega) | fail) only [go_sem, seval], by simp (disch := first | assumption | omega | (simp only [go_sem, ne_eq, Nat.reduceAdd, Nat.reduceLeDiff] <;> omega) | fail) only [go_sem, seval], by simp (disch := first | assumption | omega | (simp only [go_sem, ne_eq, Nat.reduceAdd, Nat.reduceLeDiff] <;> omega) | fail) only [go_sem, seval], G3, ⟨by simp, .inr ⟨_, _, rfl, ?_, ?_, ?_, Nat.le_refl _⟩⟩, by omega, rfl⟩
        · simp only [List.replicate_zero, List.append_nil]; exact Hp.push_same
        · show H1.next ≤ H2.next; omega
        · exact Nat.lt_succ_self _
      · rintro m ⟨tm, hp⟩ ⟨z, v, h0, h8, h9, h10, h11, hG, hO, hz, rfl⟩
        simp only at h0 h8 h9 h10 h11 hG hO
        have lnv := (hO.sq (by simp)).rd.len
        have hlen : (l11 ++ List.replicate z 0).length = l11.length + z := by simp
        rw [hlen] at lnv
        by_cases hc1 : l11.length + z < a.length + 1
        · have hc1' : ((l11.length + z : Nat) : Int) < (a.length : Int) + 1 := by omega
          repeat' (with_reducible first | simp (disch := first | assumption | omega | (simp only [go_sem, ne_eq, Nat.reduceAdd, Nat.reduceLeDiff] <;> omega) | fail) only [go_sem, seval, h0, h8, h9, h10, h11, lnv, la, hc1', w_app] | ((first | apply k1 | apply k2 | apply k3 | apply k4 | apply k5 | apply k6 | apply k7) <;> intro hc))
          refine OwnZ.wp (h0 := H1) (b := 8) rfl hG hO rfl (by decide) (by omega) (by omega) fun v' h' G' O' => ?_
          repeat' (with_reducible first | simp (disch := first | assumption | omega | (simp only [go_sem, ne_eq, Nat.reduceAdd, Nat.reduceLeDiff] <;> omega) | fail) only [go_sem, seval, h0, h8, h9, h10, h11] | ((first | apply k1 | apply k2 | apply k3 | apply k4 | apply k5 | apply k6 | apply k7) <;> intro hc))
          have e : (l11 ++ List.replicate (z + 1) 0).map (wd .i64) = (l11 ++ List.replicate z 0).map (wd .i64) ++ [.int .i64 0] := by
            rw [List.replicate_succ', ← List.append_assoc, List.map_append]; rfl
          refine ⟨a.length + 1 - (l11.length + (z + 1)), by omega, z + 1, G', ?_, by omega, rfl⟩
          rw [e]; exact O'
        · have hzz : l11.length + z = a.length + 1 := by omega
          rw [hzz] at hO hlen
          obtain ⟨_, ⟨_, e0⟩ | ⟨T0, st0, ev0, hg0, hT0, hTn, hst⟩⟩ := hO
          · omega
          subst ev0
          have hc2 : ¬ ((a.length + 1 : Nat) : Int) < (a.length : Int) + 1 := by omega
          have w1 : ((a.length + 1 : Nat) : Int) - l9.length = ((a.length + 1 - l9.length : Nat) : Int) := by omega
          have mk := fun {h : Hp} {K : AV → Hp → Prop} => MksK.int (h := h) (K := K) (b := 8) (z := .int .i64 0) (n := a.length + 1 - l9.length) rfl (by omega)
          repeat' (with_reducible first | simp (disch := first | assumption | omega | (simp only [go_sem, ne_eq, Nat.reduceAdd, Nat.reduceLeDiff] <;> omega) | fail) only [go_sem, seval, h0, h8, h9, h10, h11, la, hc2, w1, mk] | ((first | apply k1 | apply k2 | apply k3 | apply k4 | apply k5 | apply k6 | apply k7) <;> intro hc))
          have hzr : (List.replicate (a.length + 1 - l9.length) (AV.int .i64 0)) = (List.replicate (a.length + 1 - l9.length) 0).map (wd .i64) := by rw [List.map_replicate]; rfl
          rw [hzr]
          obtain ⟨L0, hL0⟩ : ∃ L0, L0 = l11 ++ List.replicate z 0 := ⟨_, rfl⟩
          rw [← hL0] at hg0 hlen
          have vL0 : vl 1000000000 L0 = vl 1000000000 a * f := by rw [hL0, vl_append, vl_zeros, Nat.mul_zero, Nat.add_zero, V11]
          have dL0 : Dg 1000000000 L0 := by rw [hL0]; exact D11.append (Dg.zeros (by decide) _)
          have Gq : Grs hp (hp.push fun s => .row ((List.replicate (a.length + 1 - l9.length) 0).map (wd .i64)) true s) := Grs.push (Grs.refl _)
          have hn0 := hG.next
          have htop9 : l9.getD (l9.length - 1) 0 ≠ 0 := by
            obtain ⟨m, y, rfl⟩ := snoc_of (l := l9) (by rintro rfl; simp at hl9; omega)
            have := norm_snoc.1 N9
            simpa [List.getD] using this
          have A0 : AtS hp T0 (L0.map (wd .i64)) := ⟨st0, hg0, hst, hTn⟩
          refine tail _ _ l9 L0 v9 (.sl h.next 0 1 1) T0 hp.next (by simp (disch := first | assumption | omega | (simp only [go_sem, ne_eq, Nat.reduceAdd, Nat.reduceLeDiff] <;> omega) | fail) only [go_sem, seval, h8]) (by simp (disch := first | assumption | omega | (simp only [go_sem, ne_eq, Nat.reduceAdd, Nat.reduceLeDiff] <;> omega) | fail) only [go_sem, seval, h9]) (by simp (disch := first | assumption | omega | (simp only [go_sem, ne_eq, Nat.reduceAdd, Nat.reduceLeDiff] <;> omega) | fail) only [go_sem, seval, h10]) (by simp (disch := first | assumption | omega | (simp only [go_sem, ne_eq, Nat.reduceAdd, Nat.reduceLeDiff] <;> omega) | fail) only [go_sem, seval, h11]) (by simp (disch := first | assumption | omega | (simp only [go_sem, ne_eq, Nat.reduceAdd, Nat.reduceLeDiff] <;> omega) | fail) only [go_sem, seval]) ((G1.trans hG).trans Gq) ((S9.grs hG).grs Gq) ((S8''.grs hG).grs Gq) D9 (by omega) (by omega) htop9 (by omega) (by omega) ?_ ?_ (by omega) (by omega) (by omega) (A0.grs Gq) (by omega) dL0 AtS.push V9 vL0 ?_
          · show h.next ≠ T0; omega
          · show h.next ≠ hp.next; omega
          · rw [hl9, V9]
            exact top_fac da hlen vL0 (by omega) hla2 m2 (Nat.mul_le_mul_right _ m5)
end
end
end Go.Ae


/- Whole numbers of any size: sum, opposite, difference, product, comparison. -/
set_option linter.unusedVariables false
set_option linter.unusedSimpArgs false
set_option maxRecDepth 100000
namespace Go.Ae
open Bg
noncomputable section
section
variable {h hp : Hp} {K : AV → Hp → Prop} {s w s' w' : AV} {x y z : Int}
theorem IsI.cases (hi : IsI h s w z) : (s = .int .i64 z ∧ w = .nils ∧ -9223372036854775808 ≤ z ∧ z ≤ 9223372036854775807) ∨ (∃ n t o, w = .sl t o n 1 ∧ (z ≤ -9223372036854775808 ∨ 9223372036854775808 ≤ z) ∧ (s = .int .i64 1 ∧ 0 < z ∨ s = .int .i64 (-1) ∧ z < 0)) := by
  rcases hi with hi | ⟨n, t, o, l, e, _, _, _, hb, _, ⟨h1, h2⟩ | ⟨h1, h2⟩⟩
  · exact .inl hi
  · exact .inr ⟨n, t, o, e, by omega, .inl ⟨h1, by omega⟩⟩
  · exact .inr ⟨n, t, o, e, by omega, .inr ⟨h1, by omega⟩⟩
theorem IsI.one (hi : IsI h s w z) : s.one = true ∧ w.one = true := by
  rcases hi.cases with ⟨rfl, rfl, _⟩ | ⟨n, t, o, rfl, _, ⟨rfl, _⟩ | ⟨rfl, _⟩⟩ <;> exact ⟨rfl, rfl⟩
theorem cmp_ge {a b : Nat} : (0 : Int) ≤ cmpN a b ↔ b ≤ a := by unfold cmpN; split <;> (try split) <;> omega
theorem sgn_add {x y : Int} {a : Nat} (ha : a = x.natAbs + y.natAbs) (hc : decide (x < 0) = decide (y < 0)) : sgn (decide (x < 0)) a = x + y := by
  rw [decide_eq_decide] at hc
  unfold sgn
  by_cases h0 : x < 0
  · rw [decide_eq_true h0, if_pos rfl]; have := hc.1 h0; omega
  · rw [decide_eq_false h0, if_neg (by decide)]; have : ¬ y < 0 := fun e => h0 (hc.2 e); omega
theorem sgn_sub {x y : Int} {a : Nat} (ha : a = x.natAbs - y.natAbs) (hle : y.natAbs ≤ x.natAbs) (hc : ¬ decide (x < 0) = decide (y < 0)) : sgn (decide (x < 0)) a = x + y := by
  rw [decide_eq_decide] at hc
  unfold sgn
  by_cases h0 : x < 0
  · have : ¬ y < 0 := fun e => hc ⟨fun _ => e, fun _ => h0⟩
    rw [decide_eq_true h0, if_pos rfl]; omega
  · have : y < 0 := by
      rcases Int.lt_or_le y 0 with c | c
      · exact c
      · exact absurd ⟨fun e => absurd e h0, fun e => by omega⟩ hc
    rw [decide_eq_false h0, if_neg (by decide)]; omega
theorem sgn_mul {x y : Int} {a : Nat} (ha : a = x.natAbs * y.natAbs) : sgn (decide (¬ decide (x < 0) = decide (y < 0))) a = x * y := by
  have key : ((x.natAbs * y.natAbs : Nat) : Int) = (x * y).natAbs := by rw [Int.natAbs_mul]
  unfold sgn
  rw [ha, key]
  by_cases h1 : x < 0
  · by_cases h2 : y < 0
    · have : 0 ≤ x * y := Int.mul_nonneg_of_nonpos_of_nonpos (by omega) (by omega)
      simp [h1, h2]; omega
    · have : x * y ≤ 0 := Int.mul_nonpos_of_nonpos_of_nonneg (by omega) (by omega)
      simp [h1, h2]; omega
  · by_cases h2 : y < 0
    · have : x * y ≤ 0 := Int.mul_nonpos_of_nonneg_of_nonpos (by omega) (by omega)
      simp [h1, h2]; omega
    · have : 0 ≤ x * y := Int.mul_nonneg (by omega) (by omega)
      simp [h1, h2]; omega
theorem IsV.ex {v : AV} (i : IsV h v z) : ∃ s w, v = .agg [s, w] ∧ s.one = true ∧ w.one = true ∧ IsI h s w z := by
  obtain ⟨s, w, e, i⟩ := i
  exact ⟨s, w, e, i.one.1, i.one.2, i⟩
theorem Sq.put {p st : Nat} {own : Bool} {cs : List AV} {v : AV} {l : List Nat} {f : Nat → AObj} (i : Sq .u64 h v l) (hq : h.get p = some (.row (.int .i64 0 :: cs) own st)) : Sq .u64 (h.put p f) v l := by
  rcases i with i | ⟨t, o, own', st', L, e, hg, r1, r2, r3, r4⟩
  · exact .inl i
  · refine .inr ⟨t, o, own', st', L, e, (Hp.put_other ?_).trans hg, r1, r2, r3, Nat.le_succ_of_le r4⟩
    rintro rfl
    rw [hq] at hg
    cases L with
    | nil => simp at hg
    | cons a L => simp [wd] at hg
theorem IsI.put {p st : Nat} {own : Bool} {cs : List AV} {f : Nat → AObj} (i : IsI h s w z) (hq : h.get p = some (.row (.int .i64 0 :: cs) own st)) : IsI (h.put p f) s w z := by
  rcases i with i | ⟨n, t, o, l, e, hs, r⟩
  · exact .inl i
  · exact .inr ⟨n, t, o, l, e, hs.put hq, r⟩
theorem IsI.ov {h' : Hp} {k j : Nat} {g : Grw h h' k j} (i : IsI h s w z) : IsI (h.ov h' g) s w z := i.grs ⟨k, j, g⟩
theorem Sq.ov {h' : Hp} {k j : Nat} {g : Grw h h' k j} {kd : IntKind} {v : AV} {l : List Nat} (i : Sq kd h v l) : Sq kd (h.ov h' g) v l := i.grs ⟨k, j, g⟩
end
end
end Go.Ae


/- The reference's whole numbers: sign, sum, product, opposite, greatest common divisor. -/
set_option linter.unusedVariables false
set_option linter.unusedSimpArgs false
set_option maxRecDepth 100000
set_option maxHeartbeats 1000000
namespace Go.Ae
open Bg
noncomputable section
/-- The whole number z of the reference, in memory. -/
def IsR (h : Hp) (v : AV) (z : Int) : Prop := ∃ w l, v = .agg [.bool (decide (z < 0)), w] ∧ Sq .i64 h w l ∧ Dg 1000000000 l ∧ Norm l ∧ vl 1000000000 l = z.natAbs
/-- At most so many digits. -/
def Lr (n : Nat) (z : Int) : Prop := z.natAbs < 1000000000 ^ n
section
variable {h h' : Hp} {K : AV → Hp → Prop} {v va vb w : AV} {x y z : Int} {n m : Nat}
theorem IsR.grs (i : IsR h v z) (g : Grs h h') : IsR h' v z := by
  obtain ⟨w, l, e, s, r⟩ := i
  exact ⟨w, l, e, s.grs g, r⟩
theorem Sq.one {l : List Nat} (s : Sq .i64 h w l) : w.one = true := by
  rcases s with ⟨rfl, _⟩ | ⟨t, o, own, st, L, rfl, _⟩ <;> rfl
theorem Sq.cells {l : List Nat} (s : Sq .i64 h w l) : w.cells = [w] := by
  rcases s with ⟨rfl, _⟩ | ⟨t, o, own, st, L, rfl, _⟩ <;> rfl
theorem fillB {b : Bool} (hc : w.cells = [w]) (ho : w.one = true) : fillA [.bool false, .nils] [(0, 1, .bool b), (1, 1, w)] = some [.bool b, w] := by
  have e1 : (AV.bool b).cells = [.bool b] := rfl
  rw [fillA_cons (by rw [e1]; exact ⟨rfl, by simp, rfl⟩), fillA_cons (by rw [hc]; exact ⟨rfl, by rw [e1]; simp [splice], by simp only [List.all_cons, List.all_nil, ho, Bool.and_self]⟩), fillA_nil, e1, hc]
  rfl
theorem Lr.len {l : List Nat} (hz : Lr n z) (hn : Norm l) (h : vl 1000000000 l = z.natAbs) : l.length ≤ n := few9 (B := 1000000000) (by decide) hn (by rw [h]; exact hz)
theorem Lr.mono (hx : Lr n x) (h : n ≤ m) : Lr m x := Nat.lt_of_lt_of_le hx (Nat.pow_le_pow_right (by decide) h)
theorem Lr.le {x y : Int} (h : Lr n x) (hl : y.natAbs ≤ x.natAbs) : Lr n y := Nat.lt_of_le_of_lt hl h
theorem Lr.neg (hx : Lr n x) : Lr n (-x) := by unfold Lr; rwa [Int.natAbs_neg]
theorem Lr.add (hx : Lr n x) (hy : Lr n y) : Lr (n + 1) (x + y) := by
  unfold Lr at *
  rw [Nat.pow_succ]
  have : (x + y).natAbs ≤ x.natAbs + y.natAbs := Int.natAbs_add_le x y
  omega
theorem Lr.mul (hx : Lr n x) (hy : Lr m y) : Lr (n + m) (x * y) := by
  unfold Lr at *
  rw [Nat.pow_add, Int.natAbs_mul]
  rcases Nat.eq_zero_or_pos y.natAbs with h | h
  · rw [h, Nat.mul_zero]; exact Nat.mul_pos (Nat.pow_pos (by decide)) (Nat.pow_pos (by decide))
  · exact Nat.mul_lt_mul_of_lt_of_lt hx hy
theorem d249 {neg : Bool} {l : List Nat} (hs : Sq .i64 h w l) (hd : Dg 1000000000 l) (hl : l.length ≤ 3000000) : Gp E3 249 [.bool neg, w] h fun v h' => IsR h' v (sgn neg (vl 1000000000 l)) := by
  refine Gp.of (CallWp.fn (fn := R.a249) rfl rfl rfl ?_)
  unfold R.a249
  repeat' (with_reducible first | simp (disch := first | assumption | omega | (simp only [go_sem, ne_eq, Nat.reduceAdd, Nat.reduceLeDiff] <;> omega) | fail) only [go_sem, seval] | ((first | apply k1 | apply k2 | apply k3 | apply k4 | apply k5 | apply k6 | apply k7) <;> intro hc))
  refine Gp.wp (dg271 (hs.grs (by (try first | refine ⟨trivial, ?_⟩ | refine ⟨rfl, ?_⟩); (repeat (first | exact Grs.refl _ | assumption | refine Grs.push ?_ | refine Grs.ov ?_ | refine Grs.put ?_ (by (try simp only [Hp.next_push, Hp.next_put, Hp.ov_next, Hp.clk_push, Hp.clk_put, Hp.ov_clk]); omega))))) (by omega)) fun v1 k1 a1 b1 u1 S1 => ?_
  have hn := norm_trim l
  have hv : vl 1000000000 (trimL l) = vl 1000000000 l := vl_trim l
  have dt : Dg 1000000000 (trimL l) := hd.trim
  rw [← hv]
  generalize trimL l = l1 at *
  have ln := S1.rd.len
  have o1 := S1.one
  have S1' : Sq .i64 (((h.push fun st => .row [.bool false, .nils] true st).ov k1 u1).put h.next fun st => .row [.bool (decide (sgn neg (vl 1000000000 l1) < 0)), v1] true st) v1 l1 := by
    rcases S1 with ⟨rfl, rfl⟩ | ⟨t, o, own, st, L, rfl, hg, r1, r2, r3, r4⟩
    · exact Sq.nil
    · refine .inr ⟨t, o, own, st, L, rfl, ?_, r1, r2, r3, Nat.le_succ_of_le r4⟩
      by_cases ht : t = h.next
      · subst ht
        exfalso
        have e : ((h.push fun st => .row [.bool false, .nils] true st).ov k1 u1).get h.next = some (.row [.bool false, .nils] true (h.clk + 1)) := by
          rw [Hp.ov_get (Nat.lt_succ_self _)]; exact Hp.push_same
        rw [e] at hg
        cases L with
        | nil => simp at hg
        | cons c L => simp [wd] at hg
      · exact (Hp.put_other ht).trans hg
  have oc := S1.cells
  cases neg with
  | false =>
    have hz : decide (sgn false (vl 1000000000 l1) < 0) = false := decide_eq_false (by unfold sgn; simp)
    rw [hz] at S1'
    repeat' (with_reducible first | simp (disch := first | assumption | omega | (simp only [go_sem, ne_eq, Nat.reduceAdd, Nat.reduceLeDiff] <;> omega) | fail) only [go_sem, seval, ln, fillB (b := false) oc o1, Option.map_some, o1] | ((first | apply k1 | apply k2 | apply k3 | apply k4 | apply k5 | apply k6 | apply k7) <;> intro hc))
    refine ⟨⟨v1, l1, by rw [hz], S1', dt, hn, by unfold sgn; simp⟩, ?_⟩
    (try first | refine ⟨trivial, ?_⟩ | refine ⟨rfl, ?_⟩); (repeat (first | exact Grs.refl _ | assumption | refine Grs.push ?_ | refine Grs.ov ?_ | refine Grs.put ?_ (by (try simp only [Hp.next_push, Hp.next_put, Hp.ov_next, Hp.clk_push, Hp.clk_put, Hp.ov_clk]); omega)))
  | true =>
    by_cases h0 : l1 = []
    · subst h0
      have hz : decide (sgn true (vl 1000000000 []) < 0) = false := decide_eq_false (by unfold sgn; simp [vl])
      rw [hz] at S1'
      simp only [List.length_nil] at ln
      repeat' (with_reducible first | simp (disch := first | assumption | omega | (simp only [go_sem, ne_eq, Nat.reduceAdd, Nat.reduceLeDiff] <;> omega) | fail) only [go_sem, seval, ln, fillB (b := false) oc o1, Option.map_some, o1] | ((first | apply k1 | apply k2 | apply k3 | apply k4 | apply k5 | apply k6 | apply k7) <;> intro hc))
      refine ⟨⟨v1, [], by rw [hz], S1', dt, hn, by unfold sgn; simp [vl]⟩, ?_⟩
      (try first | refine ⟨trivial, ?_⟩ | refine ⟨rfl, ?_⟩); (repeat (first | exact Grs.refl _ | assumption | refine Grs.push ?_ | refine Grs.ov ?_ | refine Grs.put ?_ (by (try simp only [Hp.next_push, Hp.next_put, Hp.ov_next, Hp.clk_push, Hp.clk_put, Hp.ov_clk]); omega)))
    · have hp := norm_pos (B := 1000000000) (by decide) hn h0
      have hz : decide (sgn true (vl 1000000000 l1) < 0) = true := decide_eq_true (by unfold sgn; simp; omega)
      rw [hz] at S1'
      have hl1 : (0 : Int) < l1.length := by
        have : l1.length ≠ 0 := by simpa using h0
        omega
      repeat' (with_reducible first | simp (disch := first | assumption | omega | (simp only [go_sem, ne_eq, Nat.reduceAdd, Nat.reduceLeDiff] <;> omega) | fail) only [go_sem, seval, ln, hl1, fillB (b := true) oc o1, Option.map_some, o1] | ((first | apply k1 | apply k2 | apply k3 | apply k4 | apply k5 | apply k6 | apply k7) <;> intro hc))
      refine ⟨⟨v1, l1, by rw [hz], S1', dt, hn, by unfold sgn; simp⟩, ?_⟩
      (try first | refine ⟨trivial, ?_⟩ | refine ⟨rfl, ?_⟩); (repeat (first | exact Grs.refl _ | assumption | refine Grs.push ?_ | refine Grs.ov ?_ | refine Grs.put ?_ (by (try simp only [Hp.next_push, Hp.next_put, Hp.ov_next, Hp.clk_push, Hp.clk_put, Hp.ov_clk]); omega)))
end
end
end Go.Ae


/- The reference's whole numbers: sum, product, opposite, greatest common divisor. -/
set_option linter.unusedVariables false
set_option linter.unusedSimpArgs false
set_option maxRecDepth 100000
set_option maxHeartbeats 1000000
namespace Go.Ae
open Bg
noncomputable section
/-- A row that begins as a whole number of the reference does. -/
def isCellB : Option AObj → Bool
  | some (.row (.bool _ :: _) _ _) => true
  | _ => false
section
variable {h h' : Hp} {K : AV → Hp → Prop} {v va vb w : AV} {x y z : Int} {n m : Nat}
theorem isCellB_row {b : Bool} {cs : List AV} {own : Bool} {st : Nat} : isCellB (some (.row (.bool b :: cs) own st)) = true := rfl
theorem isCellB_ex {p : Nat} (hc : isCellB (h.get p) = true) : ∃ b cs own st, h.get p = some (.row (.bool b :: cs) own st) := by
  cases hq : h.get p with
  | none => rw [hq] at hc; cases hc
  | some o =>
    rw [hq] at hc
    match o, hc with
    | .row (.bool b :: cs) own st, _ => exact ⟨b, cs, own, st, rfl⟩
theorem Sq.putB {p : Nat} {l : List Nat} {f : Nat → AObj} (i : Sq .i64 h v l) (hc : isCellB (h.get p) = true) : Sq .i64 (h.put p f) v l := by
  obtain ⟨n, cs, own, st, hq⟩ := isCellB_ex hc
  rcases i with i | ⟨t, o, own', st', L, e, hg, r1, r2, r3, r4⟩
  · exact .inl i
  · refine .inr ⟨t, o, own', st', L, e, (Hp.put_other ?_).trans hg, r1, r2, r3, Nat.le_succ_of_le r4⟩
    rintro rfl
    rw [hq] at hg
    cases L with
    | nil => simp at hg
    | cons a L => simp [wd] at hg
theorem IsR.putB {p : Nat} {f : Nat → AObj} (i : IsR h v z) (hc : isCellB (h.get p) = true) : IsR (h.put p f) v z := by
  obtain ⟨w, l, e, s, r⟩ := i
  exact ⟨w, l, e, s.putB hc, r⟩
theorem IsR.ex (i : IsR h v z) : ∃ w, v = .agg [.bool (decide (z < 0)), w] ∧ w.one = true ∧ IsR h (.agg [.bool (decide (z < 0)), w]) z := by
  obtain ⟨w, l, rfl, s, r⟩ := i
  exact ⟨w, rfl, s.one, w, l, rfl, s, r⟩
theorem IsR.un (i : IsR h (.agg [.bool (decide (z < 0)), w]) z) : ∃ l, Sq .i64 h w l ∧ Dg 1000000000 l ∧ Norm l ∧ vl 1000000000 l = z.natAbs := by
  obtain ⟨w', l, e, r⟩ := i
  injection e with e
  injection e with _ e
  injection e with e _
  subst e
  exact ⟨l, r⟩
theorem d248 (ia : IsR h va x) (lx : Lr 900000 x) : Gp E3 248 [va] h fun v h' => IsR h' v (-x) := by
  obtain ⟨w, rfl, o1, i⟩ := ia.ex
  obtain ⟨l, S, D, N, V⟩ := i.un
  have hl := lx.len N V
  refine Gp.of (CallWp.fn (fn := R.a248) rfl rfl rfl ?_)
  unfold R.a248
  have e : sgn (!decide (x < 0)) (vl 1000000000 l) = -x := by
    rw [V]; unfold sgn
    by_cases h0 : x < 0
    · rw [decide_eq_true h0]; simp; omega
    · rw [decide_eq_false h0]; simp; omega
  repeat' (with_reducible first | simp (disch := first | assumption | omega | (simp only [go_sem, ne_eq, Nat.reduceAdd, Nat.reduceLeDiff] <;> omega) | fail) only [go_sem, seval, o1] | ((first | apply k1 | apply k2 | apply k3 | apply k4 | apply k5 | apply k6 | apply k7) <;> intro hc))
  refine Gp.wp (d249 (S.grs (by (try first | refine ⟨trivial, ?_⟩ | refine ⟨rfl, ?_⟩); (repeat (first | exact Grs.refl _ | assumption | refine Grs.push ?_ | refine Grs.ov ?_ | refine Grs.put ?_ (by (try simp only [Hp.next_push, Hp.next_put, Hp.ov_next, Hp.clk_push, Hp.clk_put, Hp.ov_clk]); omega))))) D (by omega)) fun v1 k1 a1 b1 u1 I1 => ?_
  have hb : (decide (¬ x < 0)) = !decide (x < 0) := by by_cases h0 : x < 0 <;> simp [h0]
  rw [hb, e] at I1
  obtain ⟨w1, rfl, p1, I1⟩ := I1.ex
  repeat' (with_reducible first | simp (disch := first | assumption | omega | (simp only [go_sem, ne_eq, Nat.reduceAdd, Nat.reduceLeDiff] <;> omega) | fail) only [go_sem, seval, p1] | ((first | apply k1 | apply k2 | apply k3 | apply k4 | apply k5 | apply k6 | apply k7) <;> intro hc))
  refine ⟨I1.putB (by simp (disch := first | assumption | omega | (simp only [go_sem, ne_eq, Nat.reduceAdd, Nat.reduceLeDiff] <;> omega) | fail) only [go_sem, seval, isCellB_row]), ?_⟩
  (try first | refine ⟨trivial, ?_⟩ | refine ⟨rfl, ?_⟩); (repeat (first | exact Grs.refl _ | assumption | refine Grs.push ?_ | refine Grs.ov ?_ | refine Grs.put ?_ (by (try simp only [Hp.next_push, Hp.next_put, Hp.ov_next, Hp.clk_push, Hp.clk_put, Hp.ov_clk]); omega)))
theorem d171 (ia : IsR h va x) (ib : IsR h vb y) (lx : Lr 400000 x) (ly : Lr 400000 y) : Gp E3 171 [va, vb] h fun v h' => IsR h' v (x * y) := by
  obtain ⟨w1, rfl, o1, i1⟩ := ia.ex
  obtain ⟨w2, rfl, o2, i2⟩ := ib.ex
  obtain ⟨l1, S1, D1, N1, V1⟩ := i1.un
  obtain ⟨l2, S2, D2, N2, V2⟩ := i2.un
  have hl1 := lx.len N1 V1
  have hl2 := ly.len N2 V2
  refine Gp.of (CallWp.fn (fn := R.a171) rfl rfl rfl ?_)
  unfold R.a171
  repeat' (with_reducible first | simp (disch := first | assumption | omega | (simp only [go_sem, ne_eq, Nat.reduceAdd, Nat.reduceLeDiff] <;> omega) | fail) only [go_sem, seval, o1, o2] | ((first | apply k1 | apply k2 | apply k3 | apply k4 | apply k5 | apply k6 | apply k7) <;> intro hc))
  refine Gp.wp (d253 (S1.grs (by (try first | refine ⟨trivial, ?_⟩ | refine ⟨rfl, ?_⟩); (repeat (first | exact Grs.refl _ | assumption | refine Grs.push ?_ | refine Grs.ov ?_ | refine Grs.put ?_ (by (try simp only [Hp.next_push, Hp.next_put, Hp.ov_next, Hp.clk_push, Hp.clk_put, Hp.ov_clk]); omega))))) (S2.grs (by (try first | refine ⟨trivial, ?_⟩ | refine ⟨rfl, ?_⟩); (repeat (first | exact Grs.refl _ | assumption | refine Grs.push ?_ | refine Grs.ov ?_ | refine Grs.put ?_ (by (try simp only [Hp.next_push, Hp.next_put, Hp.ov_next, Hp.clk_push, Hp.clk_put, Hp.ov_clk]); omega))))) D1 D2 (by omega) (by omega)) fun v3 k3 a3 b3 u3 ⟨l3, S3, D3, N3, V3⟩ => ?_
  have e3 : sgn (decide (¬ decide (x < 0) = decide (y < 0))) (vl 1000000000 l3) = x * y := sgn_mul (by rw [V3, V1, V2])
  have hl3 := (lx.mul ly).len N3 (by rw [V3, V1, V2, Int.natAbs_mul])
  repeat' (with_reducible first | simp (disch := first | assumption | omega | (simp only [go_sem, ne_eq, Nat.reduceAdd, Nat.reduceLeDiff] <;> omega) | fail) only [go_sem, seval, o1, o2] | ((first | apply k1 | apply k2 | apply k3 | apply k4 | apply k5 | apply k6 | apply k7) <;> intro hc))
  refine Gp.wp (d249 S3 D3 (by omega)) fun v4 k4 a4 b4 u4 I4 => ?_
  rw [e3] at I4
  obtain ⟨w4, rfl, p4, I4⟩ := I4.ex
  repeat' (with_reducible first | simp (disch := first | assumption | omega | (simp only [go_sem, ne_eq, Nat.reduceAdd, Nat.reduceLeDiff] <;> omega) | fail) only [go_sem, seval, p4] | ((first | apply k1 | apply k2 | apply k3 | apply k4 | apply k5 | apply k6 | apply k7) <;> intro hc))
  refine ⟨I4.putB (by simp (disch := first | assumption | omega | (simp only [go_sem, ne_eq, Nat.reduceAdd, Nat.reduceLeDiff] <;> omega) | fail) only [go_sem, seval, isCellB_row]), ?_⟩
  (try first | refine ⟨trivial, ?_⟩ | refine ⟨rfl, ?_⟩); (repeat (first | exact Grs.refl _ | assumption | refine Grs.push ?_ | refine Grs.ov ?_ | refine Grs.put ?_ (by (try simp only [Hp.next_push, Hp.next_put, Hp.ov_next, Hp.clk_push, Hp.clk_put, Hp.ov_clk]); omega)))
theorem d170 (ia : IsR h va x) (ib : IsR h vb y) (lx : Lr 400000 x) (ly : Lr 400000 y) : Gp E3 170 [va, vb] h fun v h' => IsR h' v (x + y) := by
  obtain ⟨w1, rfl, o1, i1⟩ := ia.ex
  obtain ⟨w2, rfl, o2, i2⟩ := ib.ex
  obtain ⟨l1, S1, D1, N1, V1⟩ := i1.un
  obtain ⟨l2, S2, D2, N2, V2⟩ := i2.un
  have hl1 := lx.len N1 V1
  have hl2 := ly.len N2 V2
  refine Gp.of (CallWp.fn (fn := R.a170) rfl rfl rfl ?_)
  unfold R.a170
  by_cases hc : decide (x < 0) = decide (y < 0)
  · repeat' (with_reducible first | simp (disch := first | assumption | omega | (simp only [go_sem, ne_eq, Nat.reduceAdd, Nat.reduceLeDiff] <;> omega) | fail) only [go_sem, seval, o1, o2, hc] | ((first | apply k1 | apply k2 | apply k3 | apply k4 | apply k5 | apply k6 | apply k7) <;> intro hc))
    refine Gp.wp (d250 (S1.grs (by (try first | refine ⟨trivial, ?_⟩ | refine ⟨rfl, ?_⟩); (repeat (first | exact Grs.refl _ | assumption | refine Grs.push ?_ | refine Grs.ov ?_ | refine Grs.put ?_ (by (try simp only [Hp.next_push, Hp.next_put, Hp.ov_next, Hp.clk_push, Hp.clk_put, Hp.ov_clk]); omega))))) (S2.grs (by (try first | refine ⟨trivial, ?_⟩ | refine ⟨rfl, ?_⟩); (repeat (first | exact Grs.refl _ | assumption | refine Grs.push ?_ | refine Grs.ov ?_ | refine Grs.put ?_ (by (try simp only [Hp.next_push, Hp.next_put, Hp.ov_next, Hp.clk_push, Hp.clk_put, Hp.ov_clk]); omega))))) D1 D2 (by omega) (by omega)) fun v3 k3 a3 b3 u3 ⟨l3, S3, D3, hl3, V3⟩ => ?_
    have e3 : sgn (decide (x < 0)) (vl 1000000000 l3) = x + y := sgn_add (by omega) hc
    rw [hc] at e3
    repeat' (with_reducible first | simp (disch := first | assumption | omega | (simp only [go_sem, ne_eq, Nat.reduceAdd, Nat.reduceLeDiff] <;> omega) | fail) only [go_sem, seval, o1, o2] | ((first | apply k1 | apply k2 | apply k3 | apply k4 | apply k5 | apply k6 | apply k7) <;> intro hc))
    refine Gp.wp (d249 S3 D3 (by omega)) fun v4 k4 a4 b4 u4 I4 => ?_
    rw [e3] at I4
    obtain ⟨w4, rfl, p4, I4⟩ := I4.ex
    repeat' (with_reducible first | simp (disch := first | assumption | omega | (simp only [go_sem, ne_eq, Nat.reduceAdd, Nat.reduceLeDiff] <;> omega) | fail) only [go_sem, seval, p4] | ((first | apply k1 | apply k2 | apply k3 | apply k4 | apply k5 | apply k6 | apply k7) <;> intro hc))
    refine ⟨I4.putB (by simp (disch := first | assumption | omega | (simp only [go_sem, ne_eq, Nat.reduceAdd, Nat.reduceLeDiff] <;> omega) | fail) only [go_sem, seval, isCellB_row]), ?_⟩
    (try first | refine ⟨trivial, ?_⟩ | refine ⟨rfl, ?_⟩); (repeat (first | exact Grs.refl _ | assumption | refine Grs.push ?_ | refine Grs.ov ?_ | refine Grs.put ?_ (by (try simp only [Hp.next_push, Hp.next_put, Hp.ov_next, Hp.clk_push, Hp.clk_put, Hp.ov_clk]); omega)))
  · have cmp := fun (h' : Hp) (g : Grs h h') {K : AV → Hp → Prop} => d251 (K := K) (S1.grs g) (S2.grs g) D1 D2 N1 N2 (by omega) (by omega)
    have G : Grs h (((h.push fun st => .row [.bool (decide (x < 0)), w1] true st).push fun st => .row [.bool (decide (y < 0)), w2] true st).push fun st => .row [.bool false, .nils] true st) := (Grs.refl h).push.push.push
    by_cases hle : vl 1000000000 l2 ≤ vl 1000000000 l1
    · have hle' : (0 : Int) ≤ cmpN (vl 1000000000 l1) (vl 1000000000 l2) := cmp_ge.2 hle
      repeat' (with_reducible first | simp (disch := first | assumption | omega | (simp only [go_sem, ne_eq, Nat.reduceAdd, Nat.reduceLeDiff] <;> omega) | fail) only [go_sem, seval, o1, o2, hc, cmp _ G, hle'] | ((first | apply k1 | apply k2 | apply k3 | apply k4 | apply k5 | apply k6 | apply k7) <;> intro hc))
      refine Gp.wp (d252 (S1.grs G) (S2.grs G) D1 D2 (by omega) ?_ hle) fun v3 k3 a3 b3 u3 ⟨l3, S3, D3, N3, V3⟩ => ?_
      · rcases Nat.lt_or_ge l1.length l2.length with c | c
        · have := longer (B := 1000000000) (by decide) D1 N2 c; omega
        · exact c
      have e3 : sgn (decide (x < 0)) (vl 1000000000 l3) = x + y := sgn_sub (by omega) (by omega) hc
      have hl3 := (lx.add ly).len N3 (by rw [← e3]; unfold sgn; split <;> omega)
      repeat' (with_reducible first | simp (disch := first | assumption | omega | (simp only [go_sem, ne_eq, Nat.reduceAdd, Nat.reduceLeDiff] <;> omega) | fail) only [go_sem, seval, o1, o2] | ((first | apply k1 | apply k2 | apply k3 | apply k4 | apply k5 | apply k6 | apply k7) <;> intro hc))
      refine Gp.wp (d249 S3 D3 (by omega)) fun v4 k4 a4 b4 u4 I4 => ?_
      rw [e3] at I4
      obtain ⟨w4, rfl, p4, I4⟩ := I4.ex
      repeat' (with_reducible first | simp (disch := first | assumption | omega | (simp only [go_sem, ne_eq, Nat.reduceAdd, Nat.reduceLeDiff] <;> omega) | fail) only [go_sem, seval, p4] | ((first | apply k1 | apply k2 | apply k3 | apply k4 | apply k5 | apply k6 | apply k7) <;> intro hc))
      refine ⟨I4.putB (by simp (disch := first | assumption | omega | (simp only [go_sem, ne_eq, Nat.reduceAdd, Nat.reduceLeDiff] <;> omega) | fail) only [go_sem, seval, isCellB_row]), ?_⟩
      (try first | refine ⟨trivial, ?_⟩ | refine ⟨rfl, ?_⟩); (repeat (first | exact Grs.refl _ | assumption | refine Grs.push ?_ | refine Grs.ov ?_ | refine Grs.put ?_ (by (try simp only [Hp.next_push, Hp.next_put, Hp.ov_next, Hp.clk_push, Hp.clk_put, Hp.ov_clk]); omega)))
    · have hle' : ¬ (0 : Int) ≤ cmpN (vl 1000000000 l1) (vl 1000000000 l2) := fun e => hle (cmp_ge.1 e)
      repeat' (with_reducible first | simp (disch := first | assumption | omega | (simp only [go_sem, ne_eq, Nat.reduceAdd, Nat.reduceLeDiff] <;> omega) | fail) only [go_sem, seval, o1, o2, hc, cmp _ G, hle'] | ((first | apply k1 | apply k2 | apply k3 | apply k4 | apply k5 | apply k6 | apply k7) <;> intro hc))
      refine Gp.wp (d252 (S2.grs G) (S1.grs G) D2 D1 (by omega) ?_ (by omega)) fun v3 k3 a3 b3 u3 ⟨l3, S3, D3, N3, V3⟩ => ?_
      · rcases Nat.lt_or_ge l2.length l1.length with c | c
        · have := longer (B := 1000000000) (by decide) D2 N1 c; omega
        · exact c
      have e3 : sgn (decide (y < 0)) (vl 1000000000 l3) = x + y := by
        rw [Int.add_comm]; exact sgn_sub (by omega) (by omega) (fun e => hc e.symm)
      have hl3 := (lx.add ly).len N3 (by rw [← e3]; unfold sgn; split <;> omega)
      repeat' (with_reducible first | simp (disch := first | assumption | omega | (simp only [go_sem, ne_eq, Nat.reduceAdd, Nat.reduceLeDiff] <;> omega) | fail) only [go_sem, seval, o1, o2] | ((first | apply k1 | apply k2 | apply k3 | apply k4 | apply k5 | apply k6 | apply k7) <;> intro hc))
      refine Gp.wp (d249 S3 D3 (by omega)) fun v4 k4 a4 b4 u4 I4 => ?_
      rw [e3] at I4
      obtain ⟨w4, rfl, p4, I4⟩ := I4.ex
      repeat' (with_reducible first | simp (disch := first | assumption | omega | (simp only [go_sem, ne_eq, Nat.reduceAdd, Nat.reduceLeDiff] <;> omega) | fail) only [go_sem, seval, p4] | ((first | apply k1 | apply k2 | apply k3 | apply k4 | apply k5 | apply k6 | apply k7) <;> intro hc))
      refine ⟨I4.putB (by simp (disch := first | assumption | omega | (simp only [go_sem, ne_eq, Nat.reduceAdd, Nat.reduceLeDiff] <;> omega) | fail) only [go_sem, seval, isCellB_row]), ?_⟩
      (try first | refine ⟨trivial, ?_⟩ | refine ⟨rfl, ?_⟩); (repeat (first | exact Grs.refl _ | assumption | refine Grs.push ?_ | refine Grs.ov ?_ | refine Grs.put ?_ (by (try simp only [Hp.next_push, Hp.next_put, Hp.ov_next, Hp.clk_push, Hp.clk_put, Hp.ov_clk]); omega)))
/-- The greatest common divisor, by divisions. -/
theorem d125 {a b : List Nat} (ha : Sq .i64 h va a) (hb : Sq .i64 h vb b) (da : Dg 1000000000 a) (db : Dg 1000000000 b) (na : Norm a) (nb : Norm b) (hla : a.length ≤ 900000) (hlb : b.length ≤ 900000) :
    Gp E3 125 [va, vb] h fun v h' => ∃ l, Sq .i64 h' v l ∧ Dg 1000000000 l ∧ Norm l ∧ vl 1000000000 l = Nat.gcd (vl 1000000000 a) (vl 1000000000 b) := by
  refine Gp.of (CallWp.fn (fn := R.a125) rfl rfl rfl ?_)
  unfold R.a125
  repeat' (with_reducible first | simp (disch := first | assumption | omega | (simp only [go_sem, ne_eq, Nat.reduceAdd, Nat.reduceLeDiff] <;> omega) | fail) only [go_sem, seval] | ((first | apply k1 | apply k2 | apply k3 | apply k4 | apply k5 | apply k6 | apply k7) <;> intro hc))
  refine Wp.loopI (fun m s => ∃ (v1 v2 : AV) (l1 l2 : List Nat), val s.tm (.t 0) = v1 ∧ val s.tm (.t 1) = v2 ∧ Grs h s.hp ∧ Sq .i64 s.hp v1 l1 ∧ Sq .i64 s.hp v2 l2 ∧ Dg 1000000000 l1 ∧ Dg 1000000000 l2 ∧ Norm l1 ∧ Norm l2 ∧ l1.length ≤ 900000 ∧ l2.length ≤ 900000 ∧
    Nat.gcd (vl 1000000000 l1) (vl 1000000000 l2) = Nat.gcd (vl 1000000000 a) (vl 1000000000 b) ∧ vl 1000000000 l2 = m) (n := vl 1000000000 b) ?_ ?_
  · exact ⟨va, vb, a, b, by simp (disch := first | assumption | omega | (simp only [go_sem, ne_eq, Nat.reduceAdd, Nat.reduceLeDiff] <;> omega) | fail) only [go_sem, seval], by simp (disch := first | assumption | omega | (simp only [go_sem, ne_eq, Nat.reduceAdd, Nat.reduceLeDiff] <;> omega) | fail) only [go_sem, seval], Grs.refl _, ha, hb, da, db, na, nb, hla, hlb, rfl, rfl⟩
  · rintro m ⟨tm, hp⟩ ⟨v1, v2, l1, l2, h0, h1, hG, S1, S2, D1, D2, N1, N2, hl1, hl2, hgc, rfl⟩
    simp only at h0 h1 hG S1 S2
    have ln := S2.rd.len
    by_cases hz : l2 = []
    · subst hz
      simp only [List.length_nil] at ln
      repeat' (with_reducible first | simp (disch := first | assumption | omega | (simp only [go_sem, ne_eq, Nat.reduceAdd, Nat.reduceLeDiff] <;> omega) | fail) only [go_sem, seval, h0, h1, ln] | ((first | apply k1 | apply k2 | apply k3 | apply k4 | apply k5 | apply k6 | apply k7) <;> intro hc))
      refine ⟨⟨l1, S1, D1, N1, ?_⟩, hG⟩
      rw [← hgc, vl_nil, Nat.gcd_zero_right]
    · have hp' : (0 : Int) < l2.length := by
        have : l2.length ≠ 0 := by simpa using hz
        omega
      repeat' (with_reducible first | simp (disch := first | assumption | omega | (simp only [go_sem, ne_eq, Nat.reduceAdd, Nat.reduceLeDiff] <;> omega) | fail) only [go_sem, seval, h0, h1, ln, hp'] | ((first | apply k1 | apply k2 | apply k3 | apply k4 | apply k5 | apply k6 | apply k7) <;> intro hc))
      refine Gp.wp (d208 S1 S2 D1 D2 N1 N2 hl1 hl2 hz) fun v3 k3 a3 b3 u3 ⟨vq, vr, lq, lr, e3, Sq', Sr, Dq, Dr, Nq, Nr, Vq, Vr⟩ => ?_
      subst e3
      repeat' (with_reducible first | simp (disch := first | assumption | omega | (simp only [go_sem, ne_eq, Nat.reduceAdd, Nat.reduceLeDiff] <;> omega) | fail) only [go_sem, seval, h0, h1] | ((first | apply k1 | apply k2 | apply k3 | apply k4 | apply k5 | apply k6 | apply k7) <;> intro hc))
      have hpos := norm_pos (B := 1000000000) (by decide) N2 hz
      have hrl := Nat.mod_lt (vl 1000000000 l1) hpos
      refine ⟨vl 1000000000 lr, by rw [Vr]; exact hrl, v2, vr, l2, lr, rfl, rfl, hG.ov, S2.grs ⟨_, _, u3⟩, Sr, D2, Dr, N2, Nr, hl2, ?_, ?_, rfl⟩
      · refine Nat.le_trans (few9 (B := 1000000000) (by decide) Nr ?_) hl2
        rw [Vr]
        exact Nat.lt_trans hrl (vl_lt (by decide) D2)
      · rw [Vr, ← hgc, Nat.gcd_comm (vl 1000000000 l2), ← Nat.gcd_rec, Nat.gcd_comm]
end
end
end Go.Ae


/- Tickets: what the program's own functions give. -/
set_option linter.unusedVariables false
set_option linter.unusedSimpArgs false
set_option maxRecDepth 100000
namespace Go.Ae
open N Go.Proofs
/-! Tickets. -/
structure Tk where
  d : List UInt8
  n : Int
  p : Bool
  t : Int
  z : Int
abbrev tkL (d : List UInt8) (n : Int) (p : Bool) (t z : Int) : List AV := [.str d, .int .i64 n, .bool p, .int .i64 t, .int .i64 z]
def Tk.l (k : Tk) : List AV := tkL k.d k.n k.p k.t k.z
abbrev leadW : List UInt8 := [108, 101, 97, 100]
abbrev boulW : List UInt8 := [98, 111, 117, 108, 100, 101, 114]
def leadE (n : Int) (p : Bool) (t z : Int) : Int := if n < 0 ∨ 64 < n ∨ t < 0 ∨ 1 < t ∨ z ≠ 0 then 3 else if t = 1 ∧ (p = true ∨ n ≠ 0) then 1 else 0
def boulE (n : Int) (p : Bool) (t z : Int) : Int := if n ≠ 0 ∨ t < 0 ∨ 99 < t ∨ z < 0 ∨ 99 < z then 3 else if p = true ∨ (0 < t ∧ (z = 0 ∨ t < z)) then 1 else 0
def chkE (d : List UInt8) (n : Int) (p : Bool) (t z : Int) : Int := if d = leadW then leadE n p t z else if d = boulW then boulE n p t z else 13
def leadS (n : Int) (p : Bool) (t : Int) : List UInt8 := if t = 1 then [84, 79, 80] else if p = true then decP n.toNat 1 ++ [43] else decP n.toNat 1
def attS (c : UInt8) (n : Int) : List UInt8 := if n = 0 then [45] else c :: decP n.toNat 1
def boulS (t z : Int) : List UInt8 := attS 84 t ++ [32] ++ attS 90 z
def txtS (d : List UInt8) (n : Int) (p : Bool) (t z : Int) : List UInt8 := if d = leadW then leadS n p t else boulS t z
section
variable {h : Hp} {K : AV → Hp → Prop}
end
end Go.Ae


/- Clocks: lists that grow; the reference's Split. -/
set_option linter.unusedVariables false
set_option linter.unusedSimpArgs false
set_option maxRecDepth 100000
namespace Go.Ae
open N Go.Proofs
/-- A later heap, in which what lay has not turned. -/
structure Grew (h h' : Hp) : Prop where
  next : h.next ≤ h'.next
  get : ∀ t, t < h.next → h'.get t = h.get t
theorem Grew.refl (h : Hp) : Grew h h := ⟨Nat.le_refl _, fun _ _ => rfl⟩
theorem Grew.trans {a b c : Hp} (x : Grew a b) (y : Grew b c) : Grew a c := ⟨Nat.le_trans x.1 y.1, fun t ht => (y.2 t (Nat.lt_of_lt_of_le ht x.1)).trans (x.2 t ht)⟩
theorem Grew.push (h : Hp) (f : Nat → AObj) : Grew h (h.push f) := ⟨Nat.le_succ _, fun t ht => Hp.push_other (by omega)⟩
theorem Grew.put {h0 h : Hp} (g : Grew h0 h) {t : Nat} (f : Nat → AObj) (ht : h0.next ≤ t) : Grew h0 (h.put t f) := ⟨g.1, fun u hu => (Hp.put_other (by omega)).trans (g.2 u hu)⟩
/-- A slice that was made behind h0, with these cells, of its own. -/
def Own (h0 h : Hp) (v : AV) (cs : List AV) : Prop :=
  (v = .nils ∧ cs = []) ∨ ∃ t st, v = .sl t 0 cs.length 1 ∧ h.get t = some (.row cs true st) ∧ h0.next ≤ t ∧ t < h.next
theorem Own.nil (h0 h : Hp) : Own h0 h .nils [] := .inl ⟨rfl, rfl⟩
/-- One element more. -/
theorem Own.append {h0 h : Hp} {v x : AV} {cs : List AV} {by_ : Nat} (G : Grew h0 h) (O : Own h0 h v cs) (hl : (cs.length + 1) * by_ ≤ 140737488355328) (hl2 : cs.length + 1 ≤ 140737488355328) :
    ∃ v' h', appA (h.push fun st => .row [x] true st) 1 by_ v (.sl h.next 0 1 1) = some (v', h') ∧ Grew h0 h' ∧ Own h0 h' v' (cs ++ [x]) := by
  have hc : cellsOf (h.push fun st => .row [x] true st) 1 (.sl h.next 0 1 1) = some [x] := by
    simp only [cellsOf, Hp.push_same]
    rw [if_pos ⟨trivial, by simp⟩]; rfl
  rcases O with ⟨rfl, rfl⟩ | ⟨t, st, rfl, hg, h1, h2⟩
  · refine ⟨.sl (h.next + 1) 0 1 1, (h.push fun st => .row [x] true st).push fun st => .row [x] true st, ?_, (G.trans (Grew.push h _)).trans (Grew.push _ _), .inr ⟨h.next + 1, (h.push fun st => .row [x] true st).clk + 1, rfl, Hp.push_same, ?_, ?_⟩⟩
    · unfold appA
      rw [hc]
      simp only [lenA]
      rw [if_pos ⟨by simpa using hl, by omega, by decide⟩]
      rfl
    · have := G.1; omega
    · show h.next + 1 < h.next + 1 + 1; omega
  · have hgt : (h.push fun st => .row [x] true st).get t = some (.row cs true st) := (Hp.push_other (by omega)).trans hg
    refine ⟨.sl (h.next + 1) 0 (cs.length + 1) 1, ((h.push fun st => .row [x] true st).put t fun s => .dead s).push fun st => .row (cs ++ [x]) true st, ?_, ((G.trans (Grew.push h _)).put _ h1).trans (Grew.push _ _), .inr ⟨h.next + 1, ((h.push fun st => .row [x] true st).put t fun s => .dead s).clk + 1, by simp, Hp.push_same, ?_, ?_⟩⟩
    · unfold appA
      rw [hc]
      simp only [lenA]
      rw [hgt]
      simp only
      rw [if_pos ⟨trivial, by simp, by simpa using hl, by simpa using hl2⟩]
      simp [Hp.push_next]
    · have := G.1; omega
    · show h.next + 1 < h.next + 1 + 1; omega
/-- The slice of one element that append takes. -/
def Bs1 (v : AV) (h : Hp) (K : AV → Hp → Prop) : Prop := v.cells.length = 1 ∧ v.cells.all AV.one = true ∧ K (.sl h.next 0 1 1) (h.push fun st => .row v.cells true st)
section
variable {E : Env} {s : St} {h : Hp} {K : AV → Hp → Prop}
theorem Bs1.str {l : List UInt8} : Bs1 (.str l) h K ↔ K (.sl h.next 0 1 1) (h.push fun st => .row [.str l] true st) := by simp [Bs1, AV.cells, AV.one]
theorem Bs1.int {k : IntKind} {n : Int} : Bs1 (.int k n) h K ↔ K (.sl h.next 0 1 1) (h.push fun st => .row [.int k n] true st) := by simp [Bs1, AV.cells, AV.one]
end
section
variable {h : Hp} {K : AV → Hp → Prop}
end
end Go.Ae


/- Tickets: what the program reads. -/
set_option linter.unusedVariables false
set_option linter.unusedSimpArgs false
set_option maxRecDepth 100000
namespace Go.Ae
open N Go.Proofs
def Tk.e (k : Tk) : Int := chkE k.d k.n k.p k.t k.z
def headD (l : List Tk) : List UInt8 := match l with | [] => [] | k :: _ => k.d
section
variable {h : Hp} {K : AV → Hp → Prop}
theorem f223 {s : List UInt8} (hs : s.length ≤ 9223372036854775807) : CallWp E2 223 [.str s, .str [48, 49, 50, 51, 52, 53, 54, 55, 56, 57]] h K ↔ K (.str (Lib.trimS s L.tenDigits)) h := by
  rw [CallWp.prim_iff (p := L.p223) rfl rfl]
  have : L.p223 [.str s, .str [48, 49, 50, 51, 52, 53, 54, 55, 56, 57]] h = some (.str (Lib.trimS s L.tenDigits), h) := if_pos ⟨rfl, hs⟩
  rw [this]; exact Iff.rfl
theorem f224 {s : List UInt8} (hd : allDig s = true) (h0 : ¬ s = []) (hs : s.length ≤ 18) : CallWp E2 224 [.str s] h K ↔ K (.tup [.int .i64 (decV s), .nili]) h := by
  rw [CallWp.prim_iff (p := L.p224) rfl rfl]
  have : L.p224 [.str s] h = some (.tup [.int .i64 (decV s), .nili], h) := by
    simp only [L.p224, if_pos hs, atoi_eq hd h0]
  rw [this]; exact Iff.rfl
theorem f189 {s : List UInt8} (hs : s.length ≤ 9223372036854775807) : CallWp E2 189 [.str s] h K ↔ K (.bool (isDec s)) h := by
  refine CallWp.iff_of (CallWp.fn (fn := C.a189) rfl rfl rfl ?_)
  unfold C.a189
  cases s with
  | nil =>
    repeat' (with_reducible first | simp (disch := first | assumption | omega | (simp only [go_sem, ne_eq, Nat.reduceAdd, Nat.reduceLeDiff] <;> omega) | fail) only [go_sem, seval, f223, trim_nil] | ((first | apply k1 | apply k2 | apply k3 | apply k4 | apply k5 | apply k6 | apply k7) <;> intro hc))
    all_goals simp [isDec]
  | cons b r =>
    have h0 : ¬ (b :: r) = [] := by simp
    have hb : (b.toNat : Int) = 48 ↔ b = 48 := by
      constructor
      · intro e; exact UInt8.toNat_inj.1 (by simpa using Int.ofNat.inj e)
      · rintro rfl; rfl
    repeat' (with_reducible first | simp (disch := first | assumption | omega | (simp only [go_sem, ne_eq, Nat.reduceAdd, Nat.reduceLeDiff] <;> omega) | fail) only [go_sem, seval, f223, trim_nil, Int.toNat_zero, List.getD_cons_zero, hb] | ((first | apply k1 | apply k2 | apply k3 | apply k4 | apply k5 | apply k6 | apply k7) <;> intro hc))
    all_goals simp_all [isDec]
theorem f226 {s : List UInt8} (hs : s.length ≤ 9223372036854775807) : CallWp E2 226 [.str s] h K ↔ K (.tup [.int .i64 (intV s).1, .bool (intV s).2]) h := by
  refine CallWp.iff_of (CallWp.fn (fn := C.a226) rfl rfl rfl ?_)
  unfold C.a226
  have key : isDec s = true → ¬ s = [] ∧ allDig s = true := by
    unfold isDec; simp only [Bool.and_eq_true, decide_eq_true_eq]; exact fun e => e.1
  cases hd : isDec s with
  | true =>
    obtain ⟨h0, h1⟩ := key hd
    repeat' (with_reducible first | simp (disch := first | assumption | omega | (simp only [go_sem, ne_eq, Nat.reduceAdd, Nat.reduceLeDiff] <;> omega) | fail) only [go_sem, seval, f189, hd, f224] | ((first | apply k1 | apply k2 | apply k3 | apply k4 | apply k5 | apply k6 | apply k7) <;> intro hc))
    · simp [intV, hd, show ¬ s.length ≤ 9 by omega]
    · simp [intV, hd, show s.length ≤ 9 by omega]
  | false =>
    repeat' (with_reducible first | simp (disch := first | assumption | omega | (simp only [go_sem, ne_eq, Nat.reduceAdd, Nat.reduceLeDiff] <;> omega) | fail) only [go_sem, seval, f189, hd, f224] | ((first | apply k1 | apply k2 | apply k3 | apply k4 | apply k5 | apply k6 | apply k7) <;> intro hc))
    all_goals simp [intV, hd]
end
end Go.Ae


/- Tickets: Print of the program. -/
set_option linter.unusedVariables false
set_option linter.unusedSimpArgs false
set_option maxRecDepth 100000
namespace Go.Ae
open N Go.Proofs
def Tk.s (k : Tk) : List UInt8 := txtS k.d k.n k.p k.t k.z
section
variable {h : Hp} {K : AV → Hp → Prop}
end
end Go.Ae


/- Further functions of the program, as code of the abstract evaluator (printed by mkX.py). -/
set_option maxRecDepth 100000
namespace Go.Ae.T
open AOp Opd C
def tab : T AFn := .nil
section
open Go.Proofs
theorem all : T.Forall Chk tab (fun n => n) := trivial
theorem good (n : Nat) (a : AFn) (h : tab.get n = some a) : chk Tryz.prog n = some a := T.get_forall tab (fun n => n) all n a h
end
end Go.Ae.T

/- Tickets: what the reference gives. -/
set_option linter.unusedVariables false
set_option linter.unusedSimpArgs false
set_option maxRecDepth 100000
namespace Go.Ae
open N Go.Proofs
noncomputable def E5 : Env := E3.add T.tab
theorem ge5 : Ge E2 E5 := ge3.trans (Ge.add _ _)
/-- What a walk wants to know of a slice of structs. -/
structure Rz (z : Nat) (h : Hp) (v : AV) (n : Nat) (cs : List AV) : Prop where
  len : lenK .slice v = some (.int .i64 n)
  adr : ∀ (k : IntKind) (i : Int), 0 ≤ i ∧ i < n → iadrK z v (.int k i) = some (.ptr (v.tok) (i.toNat * z))
  get : n ≠ 0 → ∃ own st, h.get v.tok = some (.row cs own st) ∧ v.tok < h.next ∧ st ≤ h.clk
section
variable {h : Hp} {K : AV → Hp → Prop}
theorem u5 {f : Nat} {args : List AV} {h' : Hp} {v : AV} (hc : ∀ K, CallWp E2 f args h K ↔ K v h') : CallWp E5 f args h K ↔ K v h' := up ge5 hc
end
end Go.Ae


/- Tickets: the law. -/
set_option linter.unusedVariables false
set_option linter.unusedSimpArgs false
set_option maxRecDepth 100000
namespace Go.Ae
open N Go.Proofs
section
variable {h : Hp} {K : AV → Hp → Prop}
theorem RowS.ov {h h' : Hp} {z k j n : Nat} {g : Grw h h' k j} {v : AV} {cs : List AV} (o : RowS z h v n cs) : RowS z (h.ov h' g) v n cs := o.grs ⟨k, j, g⟩
end
end Go.Ae


/- Times and tickets, read as they are printed: plain lists of bytes. -/
set_option linter.unusedVariables false
set_option linter.unusedSimpArgs false
namespace Go.Ae
open N Go.Proofs
/-! Decimal notations. -/
theorem dg_nat (n : Nat) : (dg n).toNat = 48 + n % 10 := by
  unfold dg
  have h : 48 + n % 10 < 256 := by omega
  rw [UInt8.toNat_ofNat']
  omega
theorem dig_dg (n : Nat) : isDig (dg n) = true := by
  unfold isDig; rw [dg_nat]; simp; omega
theorem dV_dg (n : Nat) : dV (dg n) = n % 10 := by unfold dV; rw [dg_nat]; omega
theorem decP_dig : ∀ (m n k : Nat), n + k = m → allDig (decP n k) = true := by
  intro m
  induction m using Nat.strongRecOn with
  | _ m ih =>
    intro n k hm
    by_cases h : n = 0 ∧ k = 0
    · rw [h.1, h.2, decP_zero]; rfl
    · rw [decP_step h]
      have := ih (n / 10 + (k - 1)) (by omega) (n / 10) (k - 1) rfl
      unfold allDig at *
      rw [List.all_append, this]; simp [dig_dg]
theorem decP_all (n k : Nat) : allDig (decP n k) = true := decP_dig _ n k rfl
theorem decF_append (l m : List UInt8) (n : Nat) : decF n (l ++ m) = decF (decF n l) m := by unfold decF; rw [List.foldl_append]
theorem decP_valA : ∀ (m n k : Nat), n + k = m → decV (decP n k) = n := by
  intro m
  induction m using Nat.strongRecOn with
  | _ m ih =>
    intro n k hm
    by_cases h : n = 0 ∧ k = 0
    · rw [h.1, h.2, decP_zero]; rfl
    · rw [decP_step h]
      have := ih (n / 10 + (k - 1)) (by omega) (n / 10) (k - 1) rfl
      unfold decV at *
      rw [decF_append, this, decF_cons, decF_nil, dV_dg]; omega
theorem decP_val (n k : Nat) : decV (decP n k) = n := decP_valA _ n k rfl
theorem decP_len' : ∀ (k n : Nat), n < 10 ^ k → (decP n k).length = k
  | 0, n, h => by
    have : n = 0 := by simpa using h
    subst this; rw [decP_zero]; rfl
  | k + 1, n, h => by
    rw [decP_step (by omega)]
    have := decP_len' k (n / 10) (by rw [Nat.pow_succ] at h; omega)
    simp [this]
theorem decP_one_small {n : Nat} (h : n < 10) : decP n 1 = [dg n] := by rw [decP_step (by omega), show n / 10 = 0 by omega, decP_zero]; rfl
theorem decP_one_big {n : Nat} (h : 10 ≤ n) : decP n 1 = decP (n / 10) 1 ++ [dg n] := by rw [decP_step (by omega)]; rw [show 1 - 1 = 0 from rfl, decP_01 (by omega)]
theorem decP_ne (n : Nat) : decP n 1 ≠ [] := by rw [decP_step (by omega)]; simp
theorem decP_head : ∀ (m n : Nat), n = m → 0 < n → (decP n 1).headD 0 ≠ 48 := by
  intro m
  induction m using Nat.strongRecOn with
  | _ m ih =>
    intro n hm hp
    by_cases h : n < 10
    · rw [decP_one_small h]
      simp only [List.headD_cons]
      intro e
      have := congrArg UInt8.toNat e
      rw [dg_nat] at this
      have h48 : (48 : UInt8).toNat = 48 := rfl
      omega
    · rw [decP_one_big (by omega)]
      have h1 := ih (n / 10) (by omega) (n / 10) rfl (by omega)
      have h2 := decP_ne (n / 10)
      cases hd : decP (n / 10) 1 with
      | nil => exact absurd hd h2
      | cons x l => rw [hd] at h1; exact h1
theorem decP_isDec (n : Nat) : isDec (decP n 1) = true := by
  unfold isDec
  rw [decP_all]
  rcases Nat.eq_zero_or_pos n with rfl | h
  · decide +kernel
  · have := decP_head n n rfl h
    have h2 := decP_ne n
    rw [List.headD_eq_head?_getD] at this
    simp [this, h2]
theorem no_dig {l : List UInt8} {c : UInt8} (h : allDig l = true) (hc : isDig c = false) : c ∉ l := by
  intro hm
  have := List.all_eq_true.1 h c hm
  rw [hc] at this; cases this
theorem decP_no {n k : Nat} {c : UInt8} (hc : isDig c = false) : c ∉ decP n k := no_dig (decP_all n k) hc
/-! Times. -/
theorem i32 : isDig 32 = false := by decide
/-! The order of texts. -/
end Go.Ae


/- The reference's whole numbers as texts. -/
set_option linter.unusedVariables false
set_option linter.unusedSimpArgs false
set_option maxRecDepth 100000
set_option maxHeartbeats 1000000
namespace Go.Ae
open Bg N Go.Proofs
noncomputable section
theorem dg_mod {n m : Nat} (h : n % 10 = m % 10) : dg n = dg m := by
  have e : (dg n).toNat = (dg m).toNat := by rw [dg_nat, dg_nat, h]
  exact UInt8.toNat_inj.1 e
/-- A number's digits, in two parts. -/
theorem decP_split : ∀ (j q r : Nat), 0 < q → r < 10 ^ j → decP (q * 10 ^ j + r) 1 = decP q 1 ++ decP r j
  | 0, q, r, hq, hr => by
    rw [Nat.pow_zero] at hr ⊢
    obtain rfl : r = 0 := by omega
    rw [decP_zero, Nat.mul_one, Nat.add_zero, List.append_nil]
  | j + 1, q, r, hq, hr => by
    have h10 : q * 10 ^ (j + 1) = q * 10 ^ j * 10 := by rw [Nat.pow_succ, Nat.mul_assoc]
    have hp : 0 < q * 10 ^ j := Nat.mul_pos hq (Nat.pow_pos (by decide))
    rw [Nat.pow_succ] at hr
    have hd : (q * 10 ^ (j + 1) + r) / 10 = q * 10 ^ j + r / 10 := by rw [h10]; omega
    have hm : dg (q * 10 ^ (j + 1) + r) = dg r := dg_mod (by rw [h10]; omega)
    rw [decP_step (by omega), hd, show 1 - 1 = 0 from rfl, decP_01 (by omega), decP_split j q (r / 10) hq (by omega), hm, decP_step (n := r) (k := j + 1) (by omega), Nat.add_sub_cancel, List.append_assoc]
/-- The text of a whole number. -/
def txtZ (z : Int) : List UInt8 := if z < 0 then 45 :: decP z.natAbs 1 else decP z.natAbs 1
section
variable {h h' : Hp} {K : AV → Hp → Prop} {v w : AV} {z : Int}
theorem d181 (i : IsR h v z) (lz : Lr 400000 z) : Gv E3 181 [v] h (.str (txtZ z)) := by
  obtain ⟨w, rfl, o1, i⟩ := i.ex
  obtain ⟨l, S, D, N, V⟩ := i.un
  have hl := lz.len N V
  refine Gv.of (CallWp.fn (fn := R.a181) rfl rfl rfl ?_)
  unfold R.a181
  have rd := (S.grs (Grs.push (Grs.refl h) (f := fun st => .row [.bool (decide (z < 0)), w] true st))).rd
  have ln := rd.len
  by_cases h0 : l = []
  · subst h0
    simp only [List.length_nil] at ln
    rw [vl_nil] at V
    obtain rfl : z = 0 := by omega
    repeat' (with_reducible first | simp (disch := first | assumption | omega | (simp only [go_sem, ne_eq, Nat.reduceAdd, Nat.reduceLeDiff] <;> omega) | fail) only [go_sem, seval, o1, ln] | ((first | apply k1 | apply k2 | apply k3 | apply k4 | apply k5 | apply k6 | apply k7) <;> intro hc))
    refine ⟨by unfold txtZ; rw [if_neg (by omega)]; rw [show (0 : Int).natAbs = 0 from rfl, show decP 0 1 = [48] from by decide +kernel], ?_⟩
    (try first | refine ⟨trivial, ?_⟩ | refine ⟨rfl, ?_⟩); (repeat (first | exact Grs.refl _ | assumption | refine Grs.push ?_ | refine Grs.ov ?_ | refine Grs.put ?_ (by (try simp only [Hp.next_push, Hp.next_put, Hp.ov_next, Hp.clk_push, Hp.clk_put, Hp.ov_clk]); omega)))
  · have hl0 : l.length ≠ 0 := by simpa using h0
    have hl0' : ¬ (l.length : Int) = 0 := by omega
    have ad := rd.adr
    have ldt := rd.load (l.length - 1) (by omega)
    have i1 : ((l.length : Int) - 1).toNat = l.length - 1 := by omega
    have htd := Dg.getD (B := 1000000000) (by decide) D (l.length - 1)
    have htop : 0 < l.getD (l.length - 1) 0 := by
      obtain ⟨m, y, rfl⟩ := snoc_of h0
      have := norm_snoc.1 N
      have e : (m ++ [y]).getD ((m ++ [y]).length - 1) 0 = y := by simp [List.getD]
      omega
    have hv0 := vl_drop (B := 1000000000) (l := l) (j := l.length - 1) (by omega)
    rw [show l.length - 1 + 1 = l.length by omega, List.drop_length, vl_nil, Nat.mul_zero, Nat.add_zero] at hv0
    have t1 := fun {h : Hp} {K : AV → Hp → Prop} => u186_1 (h := h) (K := K) (n := l.getD (l.length - 1) 0) (by omega)
    repeat' (with_reducible first | simp (disch := first | assumption | omega | (simp only [go_sem, ne_eq, Nat.reduceAdd, Nat.reduceLeDiff] <;> omega) | fail) only [go_sem, seval, o1, ln, hl0', ad, i1, ldt, t1] | ((first | apply k1 | apply k2 | apply k3 | apply k4 | apply k5 | apply k6 | apply k7) <;> intro hc))
    refine Wp.loopI (fun m s => ∃ k : Nat, val s.tm (.t 1) = .ptr h.next 0 ∧ val s.tm (.t 3) = .str (decP (vl 1000000000 (l.drop k)) 1) ∧ val s.tm (.t 4) = .int .i64 ((k : Int) - 1) ∧
      s.hp = (h.push fun st => .row [.bool (decide (z < 0)), w] true st) ∧ k < l.length ∧ 0 < vl 1000000000 (l.drop k) ∧ (decP (vl 1000000000 (l.drop k)) 1).length ≤ 20 + 9 * (l.length - k) ∧ k = m) (n := l.length - 1) ?_ ?_
    · refine ⟨l.length - 1, by simp (disch := first | assumption | omega | (simp only [go_sem, ne_eq, Nat.reduceAdd, Nat.reduceLeDiff] <;> omega) | fail) only [go_sem, seval], by simp (disch := first | assumption | omega | (simp only [go_sem, ne_eq, Nat.reduceAdd, Nat.reduceLeDiff] <;> omega) | fail) only [go_sem, seval, hv0], ?_, rfl, by omega, by omega, ?_, rfl⟩
      · simp (disch := first | assumption | omega | (simp only [go_sem, ne_eq, Nat.reduceAdd, Nat.reduceLeDiff] <;> omega) | fail) only [go_sem, seval]
        congr 1; omega
      · rw [hv0]
        have := decP_len (j := 9) (n := l.getD (l.length - 1) 0) (k := 1) (by omega)
        omega
    · rintro m ⟨tm, hp⟩ ⟨k, k1, k3, k4, rfl, hk, hpos, hlen, rfl⟩
      simp only at k1 k3 k4
      rcases Nat.eq_zero_or_pos k with rfl | hk0
      · have e0 : ((0 : Nat) : Int) - 1 = -1 := rfl
        rw [List.drop_zero, V] at k3
        rw [List.drop_zero, V] at hlen
        by_cases hz : z < 0
        · have et : txtZ z = 45 :: decP z.natAbs 1 := if_pos hz
          repeat' (with_reducible first | simp (disch := first | assumption | omega | (simp only [go_sem, ne_eq, Nat.reduceAdd, Nat.reduceLeDiff] <;> omega) | fail) only [go_sem, seval, k1, k3, k4, e0, hz] | ((first | apply k1 | apply k2 | apply k3 | apply k4 | apply k5 | apply k6 | apply k7) <;> intro hc))
          rw [et]
          refine ⟨rfl, ?_⟩
          (try first | refine ⟨trivial, ?_⟩ | refine ⟨rfl, ?_⟩); (repeat (first | exact Grs.refl _ | assumption | refine Grs.push ?_ | refine Grs.ov ?_ | refine Grs.put ?_ (by (try simp only [Hp.next_push, Hp.next_put, Hp.ov_next, Hp.clk_push, Hp.clk_put, Hp.ov_clk]); omega)))
        · have et : txtZ z = decP z.natAbs 1 := if_neg hz
          repeat' (with_reducible first | simp (disch := first | assumption | omega | (simp only [go_sem, ne_eq, Nat.reduceAdd, Nat.reduceLeDiff] <;> omega) | fail) only [go_sem, seval, k1, k3, k4, e0, hz] | ((first | apply k1 | apply k2 | apply k3 | apply k4 | apply k5 | apply k6 | apply k7) <;> intro hc))
          rw [et]
          refine ⟨rfl, ?_⟩
          (try first | refine ⟨trivial, ?_⟩ | refine ⟨rfl, ?_⟩); (repeat (first | exact Grs.refl _ | assumption | refine Grs.push ?_ | refine Grs.ov ?_ | refine Grs.put ?_ (by (try simp only [Hp.next_push, Hp.next_put, Hp.ov_next, Hp.clk_push, Hp.clk_put, Hp.ov_clk]); omega)))
      · have e1 : ((k : Int) - 1).toNat = k - 1 := by omega
        have hp1 : (0 : Int) ≤ (k : Int) - 1 := by omega
        have ld := rd.load (k - 1) (by omega)
        have hd := Dg.getD (B := 1000000000) (by decide) D (k - 1)
        have hv := vl_drop (B := 1000000000) (l := l) (j := k - 1) (by omega)
        rw [Nat.sub_add_cancel hk0] at hv
        have t9 : ∀ {h : Hp} {K : AV → Hp → Prop}, CallWp E3 186 [.int .i64 (l.getD (k - 1) 0 : Nat), .int .i64 9] h K ↔ K (.str (decP (l.getD (k - 1) 0) 9)) h := fun {h K} => u186 (h := h) (K := K) (n := l.getD (k - 1) 0) (k := 9) (by omega) (by omega)
        have es := decP_split 9 (vl 1000000000 (l.drop k)) (l.getD (k - 1) 0) hpos hd
        rw [show vl 1000000000 (l.drop k) * 10 ^ 9 + l.getD (k - 1) 0 = vl 1000000000 (l.drop (k - 1)) by rw [hv]; omega] at es
        have l9 := decP_len' 9 (l.getD (k - 1) 0) hd
        repeat' (with_reducible first | simp (disch := first | assumption | omega | (simp only [go_sem, ne_eq, Nat.reduceAdd, Nat.reduceLeDiff] <;> omega) | fail) only [go_sem, seval, k1, k3, k4, e1, hp1, ad, ld, t9] | ((first | apply k1 | apply k2 | apply k3 | apply k4 | apply k5 | apply k6 | apply k7) <;> intro hc))
        refine ⟨k - 1, by omega, k - 1, ?_, ?_, by omega, by omega, ?_, rfl⟩
        · rw [es]
        · congr 1; omega
        · rw [es, List.length_append, l9]; omega
end
end
end Go.Ae


/- The reference's whole numbers, read from texts. -/
set_option linter.unusedVariables false
set_option linter.unusedSimpArgs false
set_option maxRecDepth 100000
set_option maxHeartbeats 1000000
namespace Go.Ae
open Bg N Go.Proofs
noncomputable section
theorem decF_acc : ∀ (l : List UInt8) (n : Nat), decF n l = n * 10 ^ l.length + decF 0 l
  | [], n => by show n = n * 10 ^ 0 + 0; simp
  | c :: l, n => by
    show decF (n * 10 + dV c) l = n * 10 ^ (l.length + 1) + decF (0 * 10 + dV c) l
    rw [decF_acc l (n * 10 + dV c), decF_acc l (0 * 10 + dV c), Nat.pow_succ, Nat.add_mul, Nat.zero_mul, Nat.zero_add, Nat.mul_assoc n 10, Nat.mul_comm 10]
    omega
theorem decV_append (a b : List UInt8) : decV (a ++ b) = decV a * 10 ^ b.length + decV b := by
  have e : decF 0 (a ++ b) = decF (decF 0 a) b := by unfold decF; rw [List.foldl_append]
  show decF 0 (a ++ b) = decF 0 a * 10 ^ b.length + decF 0 b
  rw [e, decF_acc]
theorem allDig_take {l : List UInt8} (h : allDig l = true) (n : Nat) : allDig (l.take n) = true := by
  unfold allDig at *; rw [List.all_eq_true] at *; exact fun x hx => h x (List.mem_of_mem_take hx)
theorem allDig_drop {l : List UInt8} (h : allDig l = true) (n : Nat) : allDig (l.drop n) = true := by
  unfold allDig at *; rw [List.all_eq_true] at *; exact fun x hx => h x (List.mem_of_mem_drop hx)
section
variable {h h' : Hp} {K : AV → Hp → Prop} {v w : AV} {z : Int}
theorem u153 {s : List UInt8} (hd : allDig s = true) (hs : s.length ≤ 18) : CallWp E3 153 [.str s] h K ↔ K (.int .i64 (decV s)) h := up ge3 fun K => c153 hd hs
/-- parse, behind the sign. -/
theorem parse_digits {tm : T AV} {hp : Hp} {neg : Bool} {t : List UInt8} (h0 : val tm (.t 0) = .str t) (h2 : val tm (.t 2) = .ptr h.next 0) (h3 : val tm (.t 3) = .bool neg) (hA : AtS hp h.next [.bool false, .nils]) (hG : Grs h hp)
    (hd : allDig t = true) (ht : t ≠ []) (hl : t.length ≤ 100000) :
    Wp E3 (R.a207.code.post 3) ⟨tm, hp⟩ (RetQ [.cell 2 true 2] fun v h' => IsR h' v (sgn neg (decV t)) ∧ Grs h h') := by
  unfold R.a207
  dsimp only [ACode.post]
  repeat' (with_reducible first | simp (disch := first | assumption | omega | (simp only [go_sem, ne_eq, Nat.reduceAdd, Nat.reduceLeDiff] <;> omega) | fail) only [go_sem, seval, h0, h2, h3] | ((first | apply k1 | apply k2 | apply k3 | apply k4 | apply k5 | apply k6 | apply k7) <;> intro hc))
  refine Wp.loopI (fun m s => ∃ (u : List UInt8) (out : List Nat) (v : AV) (n : Nat), val s.tm (.t 0) = .str u ∧ val s.tm (.t 2) = .ptr h.next 0 ∧ val s.tm (.t 3) = .bool neg ∧ val s.tm (.t 4) = v ∧ Grs hp s.hp ∧ OwnZ 1 hp s.hp v n (out.map (wd .i64)) ∧ out.length = n ∧ Dg 1000000000 out ∧
    allDig u = true ∧ u ≠ [] ∧ u.length + 9 * n = t.length ∧ decV t = vl 1000000000 out + 1000000000 ^ n * decV u ∧ u.length = m) (n := t.length) ?_ ?_
  · exact ⟨t, [], .nils, 0, by simp (disch := first | assumption | omega | (simp only [go_sem, ne_eq, Nat.reduceAdd, Nat.reduceLeDiff] <;> omega) | fail) only [go_sem, seval, h0], by simp (disch := first | assumption | omega | (simp only [go_sem, ne_eq, Nat.reduceAdd, Nat.reduceLeDiff] <;> omega) | fail) only [go_sem, seval, h2], by simp (disch := first | assumption | omega | (simp only [go_sem, ne_eq, Nat.reduceAdd, Nat.reduceLeDiff] <;> omega) | fail) only [go_sem, seval, h3], by simp (disch := first | assumption | omega | (simp only [go_sem, ne_eq, Nat.reduceAdd, Nat.reduceLeDiff] <;> omega) | fail) only [go_sem, seval], Grs.refl _, OwnZ.nil, rfl, Dg.nil, hd, ht, by omega, by simp [vl], rfl⟩
  · rintro m ⟨tm, hq⟩ ⟨u, out, v, n, h0, h2, h3, h4, hG', hO, hlo, dO, hu, hu0, hlen, heq, rfl⟩
    simp only at h0 h2 h3 h4 hG' hO
    by_cases hc : 9 < u.length
    · have hc' : (9 : Int) < u.length := by omega
      have e1 : ((u.length : Int) - 9).toNat = u.length - 9 := by omega
      have hd2 := allDig_drop hu (u.length - 9)
      have l2 : (u.drop (u.length - 9)).length = 9 := by rw [List.length_drop]; omega
      have c2 := fun {h : Hp} {K : AV → Hp → Prop} => u153 (h := h) (K := K) hd2 (by omega)
      have lt2 := decV_lt hd2
      rw [l2] at lt2
      have ha : decV u = decV (u.take (u.length - 9)) * 10 ^ 9 + decV (u.drop (u.length - 9)) := by
        conv => lhs; rw [← List.take_append_drop (u.length - 9) u, decV_append, l2]
      repeat' (with_reducible first | simp (disch := first | assumption | omega | (simp only [go_sem, ne_eq, Nat.reduceAdd, Nat.reduceLeDiff] <;> omega) | fail) only [go_sem, seval, h0, h2, h3, h4, hc', e1, c2, w_app] | ((first | apply k1 | apply k2 | apply k3 | apply k4 | apply k5 | apply k6 | apply k7) <;> intro hc))
      refine OwnZ.wp (h0 := hp) (b := 8) rfl hG' hO rfl (by decide) (by omega) (by omega) fun v' h' G' O' => ?_
      repeat' (with_reducible first | simp (disch := first | assumption | omega | (simp only [go_sem, ne_eq, Nat.reduceAdd, Nat.reduceLeDiff] <;> omega) | fail) only [go_sem, seval, h0, h2, h3, h4, e1] | ((first | apply k1 | apply k2 | apply k3 | apply k4 | apply k5 | apply k6 | apply k7) <;> intro hc))
      refine ⟨(u.take (u.length - 9)).length, by rw [List.length_take]; omega, u.take (u.length - 9), out ++ [decV (u.drop (u.length - 9))], v', n + 1, rfl, rfl, G', ?_, by simp [hlo], dO.append (Dg.cons lt2 Dg.nil), allDig_take hu _, ?_, ?_, ?_, rfl⟩
      · rw [List.map_append]; exact O'
      · intro e
        have := congrArg List.length e
        rw [List.length_take] at this
        simp only [List.length_nil] at this
        omega
      · rw [List.length_take]; omega
      · rw [show (10 : Nat) ^ 9 = 1000000000 from rfl] at ha
        have e9 : (1000000000 : Nat) ^ (n + 1) = 1000000000 ^ n * 1000000000 := Nat.pow_succ _ _
        rw [heq, ha, vl_snoc, hlo, e9, Nat.mul_add]
        have : 1000000000 ^ n * (decV (List.take (u.length - 9) u) * 1000000000) = 1000000000 ^ n * 1000000000 * decV (List.take (u.length - 9) u) := by rw [Nat.mul_comm (decV _), Nat.mul_assoc]
        omega
    · have hc' : ¬ (9 : Int) < u.length := by omega
      have c1 := fun {h : Hp} {K : AV → Hp → Prop} => u153 (h := h) (K := K) hu (by omega)
      have lt1 := decV_lt hu
      have hpw : (10 : Nat) ^ u.length ≤ 10 ^ 9 := Nat.pow_le_pow_right (by decide) (by omega)
      have hdu : decV u < 1000000000 := Nat.lt_of_lt_of_le lt1 hpw
      repeat' (with_reducible first | simp (disch := first | assumption | omega | (simp only [go_sem, ne_eq, Nat.reduceAdd, Nat.reduceLeDiff] <;> omega) | fail) only [go_sem, seval, h0, h2, h3, h4, hc', c1, w_app] | ((first | apply k1 | apply k2 | apply k3 | apply k4 | apply k5 | apply k6 | apply k7) <;> intro hc))
      refine OwnZ.wp (h0 := hp) (b := 8) rfl hG' hO rfl (by decide) (by omega) (by omega) fun v' h' G' O' => ?_
      have eO : out.map (wd .i64) ++ [.int .i64 (decV u : Nat)] = (out ++ [decV u]).map (wd .i64) := by rw [List.map_append]; rfl
      rw [eO] at O'
      have S' := O'.sq (by simp [hlo])
      repeat' (with_reducible first | simp (disch := first | assumption | omega | (simp only [go_sem, ne_eq, Nat.reduceAdd, Nat.reduceLeDiff] <;> omega) | fail) only [go_sem, seval, h0, h2, h3, h4] | ((first | apply k1 | apply k2 | apply k3 | apply k4 | apply k5 | apply k6 | apply k7) <;> intro hc))
      refine Gp.wp (d249 S' (dO.append (Dg.cons hdu Dg.nil)) (by simp; omega)) fun v5 k5 a5 b5 u5 I5 => ?_
      have ev : vl 1000000000 (out ++ [decV u]) = decV t := by rw [vl_snoc, hlo, heq]
      rw [ev] at I5
      obtain ⟨w5, rfl, p5, I5⟩ := I5.ex
      obtain ⟨st, hg, hst, hlt⟩ := (hA.grs G').grs (⟨_, _, u5⟩ : Grs h' (h'.ov k5 u5))
      repeat' (with_reducible first | simp (disch := first | assumption | omega | (simp only [go_sem, ne_eq, Nat.reduceAdd, Nat.reduceLeDiff] <;> omega) | fail) only [go_sem, seval, h2, hg, p5] | ((first | apply k1 | apply k2 | apply k3 | apply k4 | apply k5 | apply k6 | apply k7) <;> intro hc))
      refine ⟨I5.putB (by simp (disch := first | assumption | omega | (simp only [go_sem, ne_eq, Nat.reduceAdd, Nat.reduceLeDiff] <;> omega) | fail) only [go_sem, seval, isCellB_row, hg]), ?_⟩
      exact Grs.put ((hG.trans G').ov) (Nat.le_refl _)
end
end
end Go.Ae


/- The reference's whole numbers, read from texts with a sign. -/
set_option linter.unusedVariables false
set_option linter.unusedSimpArgs false
set_option maxRecDepth 100000
set_option maxHeartbeats 1000000
namespace Go.Ae
open Bg N Go.Proofs
noncomputable section
section
variable {h h' : Hp} {K : AV → Hp → Prop} {v w : AV} {z : Int}
theorem d207 {neg : Bool} {t : List UInt8} (hd : allDig t = true) (ht : t ≠ []) (hl : t.length ≤ 100000) : Gp E3 207 [.str (if neg = true then 45 :: t else t)] h fun v h' => IsR h' v (sgn neg (decV t)) := by
  refine Gp.of (CallWp.fn (fn := R.a207) rfl rfl rfl ?_)
  have A : AtS (h.push fun st => .row [.bool false, .nils] true st) h.next [.bool false, .nils] := AtS.push
  have G : Grs h (h.push fun st => .row [.bool false, .nils] true st) := Grs.push (Grs.refl h)
  have tail := fun (tm : T AV) h0 h2 h3 => parse_digits (h := h) (hp := h.push fun st => .row [.bool false, .nils] true st) (tm := tm) (neg := neg) (t := t) h0 h2 h3 A G hd ht hl
  refine Wp.cut 3 rfl ?_
  generalize ACode.post 3 R.a207.code = r at tail ⊢
  unfold R.a207
  dsimp only [ACode.pre]
  cases neg with
  | true =>
    rw [if_pos rfl]
    have e0 : ((45 :: t : List UInt8).getD 0 0).toNat = 45 := rfl
    have hlc : (0 : Int) < ((45 :: t : List UInt8).length : Int) := by simp
    repeat' (with_reducible first | simp (disch := first | assumption | omega | (simp only [go_sem, ne_eq, Nat.reduceAdd, Nat.reduceLeDiff] <;> omega) | fail) only [go_sem, seval, hlc, e0] | ((first | apply k1 | apply k2 | apply k3 | apply k4 | apply k5 | apply k6 | apply k7) <;> intro hc))
    exact tail _ (by simp (disch := first | assumption | omega | (simp only [go_sem, ne_eq, Nat.reduceAdd, Nat.reduceLeDiff] <;> omega) | fail) only [go_sem, seval]) (by simp (disch := first | assumption | omega | (simp only [go_sem, ne_eq, Nat.reduceAdd, Nat.reduceLeDiff] <;> omega) | fail) only [go_sem, seval]) (by (simp (disch := first | assumption | omega | (simp only [go_sem, ne_eq, Nat.reduceAdd, Nat.reduceLeDiff] <;> omega) | fail) only [go_sem, seval]) <;> rfl)
  | false =>
    rw [if_neg (by decide)]
    have hl0 : t.length ≠ 0 := by simpa using ht
    have hlc : (0 : Int) < t.length := by omega
    have hne : ¬ (((t.getD 0 0).toNat : Nat) : Int) = 45 := by
      match t, ht, hd with
      | c :: r, _, hd =>
        have hc : isDig c = true := by
          unfold allDig at hd
          exact (List.all_eq_true.1 hd) c (by simp)
        unfold isDig at hc
        have := of_decide_eq_true hc
        simp only [List.getD_cons_zero]
        omega
    repeat' (with_reducible first | simp (disch := first | assumption | omega | (simp only [go_sem, ne_eq, Nat.reduceAdd, Nat.reduceLeDiff] <;> omega) | fail) only [go_sem, seval, hlc, hne] | ((first | apply k1 | apply k2 | apply k3 | apply k4 | apply k5 | apply k6 | apply k7) <;> intro hc))
    exact tail _ (by simp (disch := first | assumption | omega | (simp only [go_sem, ne_eq, Nat.reduceAdd, Nat.reduceLeDiff] <;> omega) | fail) only [go_sem, seval]) (by simp (disch := first | assumption | omega | (simp only [go_sem, ne_eq, Nat.reduceAdd, Nat.reduceLeDiff] <;> omega) | fail) only [go_sem, seval]) (by (simp (disch := first | assumption | omega | (simp only [go_sem, ne_eq, Nat.reduceAdd, Nat.reduceLeDiff] <;> omega) | fail) only [go_sem, seval]) <;> rfl)
end
end
end Go.Ae


/- Rational numbers, by their parts. -/
set_option linter.unusedVariables false
set_option linter.unusedSimpArgs false
namespace Go.Ae.Bg
theorem divInt_num {p q n : Int} {d : Nat} (hq : q ≠ 0) (hd : d ≠ 0) (hc : n.natAbs.Coprime d) (h : p * d = n * q) : (Rat.divInt p q).num = n ∧ (Rat.divInt p q).den = d := by
  have e : Rat.divInt p q = ⟨n, d, hd, hc⟩ := by
    rw [Rat.mk_eq_divInt, Rat.divInt_eq_divInt_iff hq (by omega)]
    exact h
  rw [e]; exact ⟨rfl, rfl⟩
theorem divInt_gcd {p q : Int} (hq : 0 < q) : (Rat.divInt p q).num = p.fdiv (Int.gcd p q : Int) ∧ ((Rat.divInt p q).den : Int) = q.fdiv (Int.gcd p q : Int) := by
  have hg : 0 < Int.gcd p q := Int.gcd_pos_of_ne_zero_right _ (by omega)
  obtain ⟨a, ha⟩ := Int.gcd_dvd_left p q
  obtain ⟨b, hb⟩ := Int.gcd_dvd_right p q
  have hgi : (Int.gcd p q : Int) ≠ 0 := by omega
  have e1 : p.fdiv (Int.gcd p q : Int) = a := by
    have := Int.mul_fdiv_cancel_left a hgi
    rwa [← ha] at this
  have e2 : q.fdiv (Int.gcd p q : Int) = b := by
    have := Int.mul_fdiv_cancel_left b hgi
    rwa [← hb] at this
  have e3 : Int.gcd a b = 1 := by
    have h1 : Int.gcd p q = Int.gcd p q * Int.gcd a b := by
      have := Int.gcd_mul_left (Int.gcd p q : Int) a b
      rw [← ha, ← hb, Int.natAbs_natCast] at this
      exact this
    exact Nat.eq_of_mul_eq_mul_left hg (by omega)
  have hb0 : 0 < b := by
    rcases Int.lt_or_le 0 b with c | c
    · exact c
    · have : (Int.gcd p q : Int) * b ≤ 0 := Int.mul_nonpos_of_nonneg_of_nonpos (by omega) c
      omega
  obtain ⟨d, rfl⟩ : ∃ d : Nat, b = d := ⟨b.toNat, by omega⟩
  obtain ⟨h1, h2⟩ := divInt_num (p := p) (q := q) (n := a) (d := d) (by omega) (by omega) e3 (by
    have h3 : p * (d : Int) = (Int.gcd p q : Int) * a * d := by rw [← ha]
    have h4 : a * q = a * ((Int.gcd p q : Int) * d) := by rw [← hb]
    rw [h3, h4]; ac_rfl)
  rw [h1, h2, e1, e2]
  exact ⟨rfl, rfl⟩
theorem divInt_neg2 {p q : Int} (hq : q ≠ 0) : Rat.divInt (-p) (-q) = Rat.divInt p q := by
  rw [Rat.divInt_eq_divInt_iff (by omega) hq, Int.neg_mul, Int.mul_neg]
theorem den_pos (r : Rat) : 0 < r.den := Nat.pos_of_ne_zero r.den_nz
end Go.Ae.Bg
namespace Go.Ae.Bg
theorem divInt_le {p q : Int} (hq : q ≠ 0) : (Rat.divInt p q).num.natAbs ≤ p.natAbs ∧ (Rat.divInt p q).den ≤ q.natAbs := by
  have key : ∀ {p q : Int}, 0 < q → (Rat.divInt p q).num.natAbs ≤ p.natAbs ∧ (Rat.divInt p q).den ≤ q.natAbs := by
    intro p q hq
    obtain ⟨h1, h2⟩ := divInt_gcd (p := p) hq
    have hg : 0 < Int.gcd p q := Int.gcd_pos_of_ne_zero_right _ (by omega)
    obtain ⟨a, ha⟩ := Int.gcd_dvd_left p q
    obtain ⟨b, hb⟩ := Int.gcd_dvd_right p q
    have hgi : (Int.gcd p q : Int) ≠ 0 := by omega
    have e1 : p.fdiv (Int.gcd p q : Int) = a := by
      have := Int.mul_fdiv_cancel_left a hgi
      rwa [← ha] at this
    have e2 : q.fdiv (Int.gcd p q : Int) = b := by
      have := Int.mul_fdiv_cancel_left b hgi
      rwa [← hb] at this
    have n1 : p.natAbs = Int.gcd p q * a.natAbs := by
      have := congrArg Int.natAbs ha
      rwa [Int.natAbs_mul, Int.natAbs_natCast] at this
    have n2 : q.natAbs = Int.gcd p q * b.natAbs := by
      have := congrArg Int.natAbs hb
      rwa [Int.natAbs_mul, Int.natAbs_natCast] at this
    have m1 : a.natAbs ≤ Int.gcd p q * a.natAbs := Nat.le_mul_of_pos_left _ hg
    have m2 : b.natAbs ≤ Int.gcd p q * b.natAbs := Nat.le_mul_of_pos_left _ hg
    rw [e1] at h1
    rw [e2] at h2
    rw [h1]
    omega
  by_cases hp : 0 < q
  · exact key hp
  · have := key (p := -p) (q := -q) (by omega)
    rwa [divInt_neg2 hq, Int.natAbs_neg, Int.natAbs_neg] at this
theorem rmul (a b : Rat) : a * b = Rat.divInt (a.num * b.num) (a.den * b.den : Int) := by
  conv => lhs; rw [← Rat.num_divInt_den a, ← Rat.num_divInt_den b, Rat.divInt_mul_divInt]
theorem radd (a b : Rat) : a + b = Rat.divInt (a.num * b.den + b.num * a.den) (a.den * b.den : Int) := by
  have h1 := den_pos a
  have h2 := den_pos b
  conv => lhs; rw [← Rat.num_divInt_den a, ← Rat.num_divInt_den b, Rat.divInt_add_divInt _ _ (by omega) (by omega)]
end Go.Ae.Bg
namespace Go.Ae.Bg
/-- The parts of a reduced fraction, by amounts. -/
theorem divInt_abs {p q : Int} (hq : 0 < q) : (Rat.divInt p q).num.natAbs = p.natAbs / Nat.gcd p.natAbs q.natAbs ∧ (Rat.divInt p q).den = q.natAbs / Nat.gcd p.natAbs q.natAbs ∧ ((Rat.divInt p q).num < 0 ↔ p < 0) := by
  obtain ⟨h1, h2⟩ := divInt_gcd (p := p) hq
  have hg : 0 < Int.gcd p q := Int.gcd_pos_of_ne_zero_right _ (by omega)
  obtain ⟨a, ha⟩ := Int.gcd_dvd_left p q
  obtain ⟨b, hb⟩ := Int.gcd_dvd_right p q
  have hgi : (Int.gcd p q : Int) ≠ 0 := by omega
  have e1 : p.fdiv (Int.gcd p q : Int) = a := by
    have := Int.mul_fdiv_cancel_left a hgi
    rwa [← ha] at this
  have e2 : q.fdiv (Int.gcd p q : Int) = b := by
    have := Int.mul_fdiv_cancel_left b hgi
    rwa [← hb] at this
  have n1 : p.natAbs = Int.gcd p q * a.natAbs := by
    have := congrArg Int.natAbs ha
    rwa [Int.natAbs_mul, Int.natAbs_natCast] at this
  have n2 : q.natAbs = Int.gcd p q * b.natAbs := by
    have := congrArg Int.natAbs hb
    rwa [Int.natAbs_mul, Int.natAbs_natCast] at this
  have eg : Nat.gcd p.natAbs q.natAbs = Int.gcd p q := rfl
  rw [e1] at h1
  rw [e2] at h2
  rw [eg]
  refine ⟨?_, ?_, ?_⟩
  · rw [h1]; conv => rhs; rw [n1]
    rw [Nat.mul_div_cancel_left _ hg]
  · have : q.natAbs / Int.gcd p q = b.natAbs := by
      conv => lhs; rw [n2]
      rw [Nat.mul_div_cancel_left _ hg]
    omega
  · rw [h1]
    constructor
    · intro c
      rw [ha]
      exact Int.mul_neg_of_pos_of_neg (by omega) c
    · intro c
      rcases Int.lt_or_le a 0 with d | d
      · exact d
      · have : 0 ≤ (Int.gcd p q : Int) * a := Int.mul_nonneg (by omega) d
        omega
end Go.Ae.Bg


/- The reference's fractions as texts. -/
set_option linter.unusedVariables false
set_option linter.unusedSimpArgs false
set_option maxRecDepth 100000
set_option maxHeartbeats 2000000
namespace Go.Ae
open Bg N Go.Proofs
noncomputable section
/-- The text of a number. -/
def txtR (r : Rat) : List UInt8 := if r.den = 1 then txtZ r.num else txtZ r.num ++ 47 :: txtZ r.den
theorem txtZ_len {n : Nat} {z : Int} (h : Lr n z) : (txtZ z).length ≤ 9 * n + 2 := by
  have h' : z.natAbs < 10 ^ (9 * n) := by rw [Nat.pow_mul]; exact h
  have := decP_len (j := 9 * n) (n := z.natAbs) (k := 1) h'
  unfold txtZ
  split
  · rw [List.length_cons]; omega
  · omega
section
variable {h h' hp : Hp} {K : AV → Hp → Prop} {tm : T AV} {w1 w2 : AV} {x y : Int}
theorem frac_pos {p2 p3 : Nat} (h2 : val tm (.t 2) = .ptr p2 0) (h3 : val tm (.t 3) = .ptr p3 0) (g2 : AtS hp p2 [.bool (decide (x < 0)), w1]) (g3 : AtS hp p3 [.bool (decide (y < 0)), w2]) (hG : Grs h hp)
    (ix : IsR hp (.agg [.bool (decide (x < 0)), w1]) x) (iy : IsR hp (.agg [.bool (decide (y < 0)), w2]) y) (lx : Lr 100000 x) (ly : Lr 100000 y) (hy : 0 < y) :
    Wp E3 (R.a169.code.post 2) ⟨tm, hp⟩ (RetQ [.tmp 4] fun v h' => v = .str (txtR (Rat.divInt x y)) ∧ Grs h h') := by
  refine Wp.cut 5 rfl ?_
  obtain ⟨rc, hrc⟩ : ∃ rc, rc = ACode.post 5 (ACode.post 2 R.a169.code) := ⟨_, rfl⟩
  rw [← hrc]
  unfold R.a169
  dsimp only [ACode.post, ACode.pre]
  obtain ⟨s2, q2, c2, t2⟩ := g2
  obtain ⟨s3, q3, c3, t3⟩ := g3
  obtain ⟨l1, S1, D1, N1, V1⟩ := ix.un
  obtain ⟨l2, S2, D2, N2, V2⟩ := iy.un
  have m1 := lx.len N1 V1
  have m2 := ly.len N2 V2
  obtain ⟨f1, f2, f3⟩ := divInt_abs (p := x) hy
  have hgp : 0 < Nat.gcd x.natAbs y.natAbs := Nat.gcd_pos_of_pos_right _ (by omega)
  repeat' (with_reducible first | simp (disch := first | assumption | omega | (simp only [go_sem, ne_eq, Nat.reduceAdd, Nat.reduceLeDiff] <;> omega) | fail) only [go_sem, seval, h2, h3, q2, q3] | ((first | apply k1 | apply k2 | apply k3 | apply k4 | apply k5 | apply k6 | apply k7) <;> intro hc))
  refine Gp.wp (d125 S1 S2 D1 D2 N1 N2 (by omega) (by omega)) fun v5 k5 a5 b5 u5 ⟨l5, S5, D5, N5, V5⟩ => ?_
  rw [V1, V2] at V5
  have hl5 : l5.length ≤ 100000 := few9 (B := 1000000000) (by decide) N5 (by
    rw [V5]
    exact Nat.lt_of_le_of_lt (Nat.gcd_le_right _ (by omega)) ly)
  have h50 : l5 ≠ [] := by rintro rfl; rw [vl_nil] at V5; omega
  have S1' := (S1.grs ⟨_, _, u5⟩ : Sq .i64 (hp.ov k5 u5) w1 l1)
  have S2' := (S2.grs ⟨_, _, u5⟩ : Sq .i64 (hp.ov k5 u5) w2 l2)
  repeat' (with_reducible first | simp (disch := first | assumption | omega | (simp only [go_sem, ne_eq, Nat.reduceAdd, Nat.reduceLeDiff] <;> omega) | fail) only [go_sem, seval, h2, h3, q2, q3] | ((first | apply k1 | apply k2 | apply k3 | apply k4 | apply k5 | apply k6 | apply k7) <;> intro hc))
  refine Gp.wp (d208 S1' S5 D1 D5 N1 N5 (by omega) (by omega) h50) fun v6 k6 a6 b6 u6 ⟨vq6, vr6, lq6, lr6, e6, Sq6, _, Dq6, _, Nq6, _, Vq6, _⟩ => ?_
  subst e6
  rw [V1, V5, ← f1] at Vq6
  have S2'' := (S2'.grs ⟨_, _, u6⟩ : Sq .i64 ((hp.ov k5 u5).ov k6 u6) w2 l2)
  have S5' := (S5.grs ⟨_, _, u6⟩ : Sq .i64 ((hp.ov k5 u5).ov k6 u6) v5 l5)
  repeat' (with_reducible first | simp (disch := first | assumption | omega | (simp only [go_sem, ne_eq, Nat.reduceAdd, Nat.reduceLeDiff] <;> omega) | fail) only [go_sem, seval, h2, h3, q2, q3] | ((first | apply k1 | apply k2 | apply k3 | apply k4 | apply k5 | apply k6 | apply k7) <;> intro hc))
  refine Gp.wp (d208 S2'' S5' D2 D5 N2 N5 (by omega) (by omega) h50) fun v8 k8 a8 b8 u8 ⟨vq8, vr8, lq8, lr8, e8, Sq8, _, Dq8, _, Nq8, _, Vq8, _⟩ => ?_
  subst e8
  rw [V2, V5, ← f2] at Vq8
  have Sq6' := (Sq6.grs ⟨_, _, u8⟩ : Sq .i64 (((hp.ov k5 u5).ov k6 u6).ov k8 u8) vq6 lq6)
  obtain ⟨r, hr⟩ : ∃ r, r = Rat.divInt x y := ⟨_, rfl⟩
  rw [← hr] at f1 f2 f3 Vq6 Vq8 ⊢
  have ln : Lr 100000 r.num := lx.le (by rw [f1]; exact Nat.div_le_self _ _)
  have ld : Lr 100000 (r.den : Int) := ly.le (by rw [Int.natAbs_natCast, f2]; exact Nat.div_le_self _ _)
  have hq6 : lq6.length ≤ 100000 := few9 (B := 1000000000) (by decide) Nq6 (by rw [Vq6]; exact ln)
  have hq8 : lq8.length ≤ 100000 := few9 (B := 1000000000) (by decide) Nq8 (by rw [Vq8]; exact ld)
  have es : sgn (decide (x < 0)) (vl 1000000000 lq6) = r.num := by
    rw [Vq6]
    unfold sgn
    by_cases c : x < 0
    · have := f3.2 c
      rw [decide_eq_true c, if_pos rfl]; omega
    · have : ¬ r.num < 0 := fun e => c (f3.1 e)
      rw [decide_eq_false c, if_neg (by decide)]; omega
  have tl1 := txtZ_len ln
  have tl2 := txtZ_len ld
  repeat' (with_reducible first | simp (disch := first | assumption | omega | (simp only [go_sem, ne_eq, Nat.reduceAdd, Nat.reduceLeDiff] <;> omega) | fail) only [go_sem, seval, h2, h3, q2, q3] | ((first | apply k1 | apply k2 | apply k3 | apply k4 | apply k5 | apply k6 | apply k7) <;> intro hc))
  refine Gp.wp (d249 Sq6' Dq6 (by omega)) fun v9 k9 a9 b9 u9 I9 => ?_
  rw [es] at I9
  repeat' (with_reducible first | simp (disch := first | assumption | omega | (simp only [go_sem, ne_eq, Nat.reduceAdd, Nat.reduceLeDiff] <;> omega) | fail) only [go_sem, seval, h2, h3] | ((first | apply k1 | apply k2 | apply k3 | apply k4 | apply k5 | apply k6 | apply k7) <;> intro hc))
  refine Gv.wp (d181 I9 (ln.mono (by decide))) fun h10 k10 j10 u10 => ?_
  have Sq8' := ((Sq8.grs ⟨_, _, u9⟩ : Sq .i64 ((((hp.ov k5 u5).ov k6 u6).ov k8 u8).ov k9 u9) vq8 lq8).grs ⟨_, _, u10⟩ : Sq .i64 (((((hp.ov k5 u5).ov k6 u6).ov k8 u8).ov k9 u9).ov h10 u10) vq8 lq8)
  have r8 := Sq8'.rd
  have ln8 := r8.len
  have ad8 := r8.adr
  have e00 : (0 : Int).toNat = 0 := rfl
  have slow : ∀ (tm : T AV), val tm (.t 8) = vq8 → val tm (.t 10) = .str (txtZ r.num) → r.den ≠ 1 → Wp E3 rc ⟨tm, ((((hp.ov k5 u5).ov k6 u6).ov k8 u8).ov k9 u9).ov h10 u10⟩ (RetQ [.tmp 4] fun v h' => v = .str (txtR r) ∧ Grs h h') := by
    intro tm h8 h10' hden
    rw [hrc]
    unfold R.a169
    dsimp only [ACode.post]
    have et : txtR r = txtZ r.num ++ 47 :: txtZ r.den := if_neg hden
    have eden : sgn false (vl 1000000000 lq8) = (r.den : Int) := by rw [Vq8]; unfold sgn; simp
    repeat' (with_reducible first | simp (disch := first | assumption | omega | (simp only [go_sem, ne_eq, Nat.reduceAdd, Nat.reduceLeDiff] <;> omega) | fail) only [go_sem, seval, h8, h10'] | ((first | apply k1 | apply k2 | apply k3 | apply k4 | apply k5 | apply k6 | apply k7) <;> intro hc))
    refine Gp.wp (d249 Sq8' Dq8 (by omega)) fun v11 k11 a11 b11 u11 I11 => ?_
    rw [eden] at I11
    repeat' (with_reducible first | simp (disch := first | assumption | omega | (simp only [go_sem, ne_eq, Nat.reduceAdd, Nat.reduceLeDiff] <;> omega) | fail) only [go_sem, seval, h8, h10'] | ((first | apply k1 | apply k2 | apply k3 | apply k4 | apply k5 | apply k6 | apply k7) <;> intro hc))
    refine Gv.wp (d181 I11 (ld.mono (by decide))) fun h12 k12 j12 u12 => ?_
    repeat' (with_reducible first | simp (disch := first | assumption | omega | (simp only [go_sem, ne_eq, Nat.reduceAdd, Nat.reduceLeDiff] <;> omega) | fail) only [go_sem, seval] | ((first | apply k1 | apply k2 | apply k3 | apply k4 | apply k5 | apply k6 | apply k7) <;> intro hc))
    refine ⟨by rw [et]; simp, ?_⟩
    refine hG.trans ?_
    (try first | refine ⟨trivial, ?_⟩ | refine ⟨rfl, ?_⟩); (repeat (first | exact Grs.refl _ | assumption | refine Grs.push ?_ | refine Grs.ov ?_ | refine Grs.put ?_ (by (try simp only [Hp.next_push, Hp.next_put, Hp.ov_next, Hp.clk_push, Hp.clk_put, Hp.ov_clk]); omega)))
  by_cases hd : r.den = 1
  · have e8 : lq8 = [1] := norm_inj (B := 1000000000) (by decide) Dq8 (Dg.cons (by decide) Dg.nil) Nq8 (by simp [Norm]) (by rw [Vq8, hd]; simp [vl])
    subst e8
    have ld8 := r8.load 0 (by simp)
    simp only [List.getD_cons_zero, Nat.add_zero] at ld8
    have e1 : ((1 : Nat) : Int) = 1 := rfl
    simp only [List.length_cons, List.length_nil, Nat.zero_add] at ln8
    rw [e1] at ln8 ld8
    have et : txtR r = txtZ r.num := if_pos hd
    repeat' (with_reducible first | simp (disch := first | assumption | omega | (simp only [go_sem, ne_eq, Nat.reduceAdd, Nat.reduceLeDiff] <;> omega) | fail) only [go_sem, seval, ln8, ad8, e00, ld8, e1] | ((first | apply k1 | apply k2 | apply k3 | apply k4 | apply k5 | apply k6 | apply k7) <;> intro hc))
    refine ⟨by rw [et], ?_⟩
    refine hG.trans ?_
    (try first | refine ⟨trivial, ?_⟩ | refine ⟨rfl, ?_⟩); (repeat (first | exact Grs.refl _ | assumption | refine Grs.push ?_ | refine Grs.ov ?_ | refine Grs.put ?_ (by (try simp only [Hp.next_push, Hp.next_put, Hp.ov_next, Hp.clk_push, Hp.clk_put, Hp.ov_clk]); omega)))
  · by_cases hl : lq8.length = 1
    · obtain ⟨d, rfl⟩ : ∃ d, lq8 = [d] := by
        match lq8, hl with
        | [d], _ => exact ⟨d, rfl⟩
      have ed : d = r.den := by rw [← Vq8]; simp [vl]
      have ld8 := r8.load 0 (by simp)
      simp only [List.getD_cons_zero, Nat.add_zero] at ld8
      have e1 : ((1 : Nat) : Int) = 1 := rfl
      simp only [List.length_cons, List.length_nil, Nat.zero_add] at ln8
      rw [e1] at ln8
      have hd1 : ¬ (d : Int) = 1 := by omega
      repeat' (with_reducible first | simp (disch := first | assumption | omega | (simp only [go_sem, ne_eq, Nat.reduceAdd, Nat.reduceLeDiff] <;> omega) | fail) only [go_sem, seval, ln8, ad8, e00, ld8, hd1] | ((first | apply k1 | apply k2 | apply k3 | apply k4 | apply k5 | apply k6 | apply k7) <;> intro hc))
      exact slow _ (by simp (disch := first | assumption | omega | (simp only [go_sem, ne_eq, Nat.reduceAdd, Nat.reduceLeDiff] <;> omega) | fail) only [go_sem, seval]) (by simp (disch := first | assumption | omega | (simp only [go_sem, ne_eq, Nat.reduceAdd, Nat.reduceLeDiff] <;> omega) | fail) only [go_sem, seval]) hd
    · have hl' : ¬ (lq8.length : Int) = 1 := by omega
      repeat' (with_reducible first | simp (disch := first | assumption | omega | (simp only [go_sem, ne_eq, Nat.reduceAdd, Nat.reduceLeDiff] <;> omega) | fail) only [go_sem, seval, ln8, hl'] | ((first | apply k1 | apply k2 | apply k3 | apply k4 | apply k5 | apply k6 | apply k7) <;> intro hc))
      exact slow _ (by simp (disch := first | assumption | omega | (simp only [go_sem, ne_eq, Nat.reduceAdd, Nat.reduceLeDiff] <;> omega) | fail) only [go_sem, seval]) (by simp (disch := first | assumption | omega | (simp only [go_sem, ne_eq, Nat.reduceAdd, Nat.reduceLeDiff] <;> omega) | fail) only [go_sem, seval]) hd
end
end
end Go.Ae


/- The reference's fractions as texts: any divisor. -/
set_option linter.unusedVariables false
set_option linter.unusedSimpArgs false
set_option maxRecDepth 100000
set_option maxHeartbeats 2000000
namespace Go.Ae
open Bg N Go.Proofs
noncomputable section
section
variable {h h' hp : Hp} {K : AV → Hp → Prop} {va vb : AV} {x y : Int}
theorem d169 (ia : IsR h va x) (ib : IsR h vb y) (lx : Lr 100000 x) (ly : Lr 100000 y) (hy : y ≠ 0) : Gv E3 169 [va, vb] h (.str (txtR (Rat.divInt x y))) := by
  obtain ⟨w1, rfl, o1, i1⟩ := ia.ex
  obtain ⟨w2, rfl, o2, i2⟩ := ib.ex
  refine Gv.of (CallWp.fn (fn := R.a169) rfl rfl rfl ?_)
  refine Wp.cut 2 rfl ?_
  have G : Grs h ((h.push fun st => .row [.bool (decide (x < 0)), w1] true st).push fun st => .row [.bool (decide (y < 0)), w2] true st) := (Grs.refl h).push.push
  have A2 : AtS ((h.push fun st => .row [.bool (decide (x < 0)), w1] true st).push fun st => .row [.bool (decide (y < 0)), w2] true st) h.next [.bool (decide (x < 0)), w1] := (AtS.push.grs (Grs.refl _).push)
  have A3 : AtS ((h.push fun st => .row [.bool (decide (x < 0)), w1] true st).push fun st => .row [.bool (decide (y < 0)), w2] true st) (h.next + 1) [.bool (decide (y < 0)), w2] := AtS.push
  by_cases hp : 0 < y
  · have tail := fun (hp' : Hp) tm p2 p3 h2 h3 g2 g3 hG ix iy => frac_pos (h := h) (hp := hp') (tm := tm) (x := x) (y := y) (w1 := w1) (w2 := w2) (p2 := p2) (p3 := p3) h2 h3 g2 g3 hG ix iy lx ly hp
    generalize ACode.post 2 R.a169.code = r at tail ⊢
    unfold R.a169
    dsimp only [ACode.pre]
    have hs : ¬ y < 0 := by omega
    repeat' (with_reducible first | simp (disch := first | assumption | omega | (simp only [go_sem, ne_eq, Nat.reduceAdd, Nat.reduceLeDiff] <;> omega) | fail) only [go_sem, seval, o1, o2, hs] | ((first | apply k1 | apply k2 | apply k3 | apply k4 | apply k5 | apply k6 | apply k7) <;> intro hc))
    have hd : decide (y < 0) = false := decide_eq_false hs
    rw [hd] at A2 A3 G i2 tail
    exact tail _ _ h.next (h.next + 1) (by simp (disch := first | assumption | omega | (simp only [go_sem, ne_eq, Nat.reduceAdd, Nat.reduceLeDiff] <;> omega) | fail) only [go_sem, seval]) (by simp (disch := first | assumption | omega | (simp only [go_sem, ne_eq, Nat.reduceAdd, Nat.reduceLeDiff] <;> omega) | fail) only [go_sem, seval]) A2 A3 G (i1.grs G) (i2.grs G)
  · have tail := fun (hp' : Hp) tm p2 p3 (w1 w2 : AV) h2 h3 g2 g3 hG ix iy => frac_pos (h := h) (hp := hp') (tm := tm) (x := -x) (y := -y) (w1 := w1) (w2 := w2) (p2 := p2) (p3 := p3) h2 h3 g2 g3 hG ix iy lx.neg ly.neg (by omega)
    rw [divInt_neg2 hy] at tail
    generalize ACode.post 2 R.a169.code = r at tail ⊢
    unfold R.a169
    dsimp only [ACode.pre]
    have hs : y < 0 := by omega
    have hd : decide (y < 0) = true := decide_eq_true hs
    rw [hd] at A2 A3 G i2
    repeat' (with_reducible first | simp (disch := first | assumption | omega | (simp only [go_sem, ne_eq, Nat.reduceAdd, Nat.reduceLeDiff] <;> omega) | fail) only [go_sem, seval, o1, o2, hd] | ((first | apply k1 | apply k2 | apply k3 | apply k4 | apply k5 | apply k6 | apply k7) <;> intro hc))
    refine Gp.wp (d248 (i1.grs G) (lx.mono (by decide))) fun v5 k5 a5 b5 u5 I5 => ?_
    obtain ⟨w5, rfl, p5, I5⟩ := I5.ex
    repeat' (with_reducible first | simp (disch := first | assumption | omega | (simp only [go_sem, ne_eq, Nat.reduceAdd, Nat.reduceLeDiff] <;> omega) | fail) only [go_sem, seval, o1, o2, p5] | ((first | apply k1 | apply k2 | apply k3 | apply k4 | apply k5 | apply k6 | apply k7) <;> intro hc))
    refine Gp.wp (d248 ((i2.grs G).grs (by (try first | refine ⟨trivial, ?_⟩ | refine ⟨rfl, ?_⟩); (repeat (first | exact Grs.refl _ | assumption | refine Grs.push ?_ | refine Grs.ov ?_ | refine Grs.put ?_ (by (try simp only [Hp.next_push, Hp.next_put, Hp.ov_next, Hp.clk_push, Hp.clk_put, Hp.ov_clk]); omega))))) (ly.mono (by decide))) fun v6 k6 a6 b6 u6 I6 => ?_
    obtain ⟨w6, rfl, p6, I6⟩ := I6.ex
    have I5' := I5.grs (⟨_, _, u6⟩ : Grs _ ((((h.push fun st => .row [.bool (decide (x < 0)), w1] true st).push fun st => .row [.bool true, w2] true st).ov k5 u5).ov k6 u6))
    repeat' (with_reducible first | simp (disch := first | assumption | omega | (simp only [go_sem, ne_eq, Nat.reduceAdd, Nat.reduceLeDiff] <;> omega) | fail) only [go_sem, seval, o1, o2, p5, p6] | ((first | apply k1 | apply k2 | apply k3 | apply k4 | apply k5 | apply k6 | apply k7) <;> intro hc))
    have G6 : Grs ((h.push fun st => .row [.bool (decide (x < 0)), w1] true st).push fun st => .row [.bool true, w2] true st) ((((h.push fun st => .row [.bool (decide (x < 0)), w1] true st).push fun st => .row [.bool true, w2] true st).ov k5 u5).ov k6 u6) := by (try first | refine ⟨trivial, ?_⟩ | refine ⟨rfl, ?_⟩); (repeat (first | exact Grs.refl _ | assumption | refine Grs.push ?_ | refine Grs.ov ?_ | refine Grs.put ?_ (by (try simp only [Hp.next_push, Hp.next_put, Hp.ov_next, Hp.clk_push, Hp.clk_put, Hp.ov_clk]); omega)))
    refine tail _ _ h.next (h.next + 1) w5 w6 (by simp (disch := first | assumption | omega | (simp only [go_sem, ne_eq, Nat.reduceAdd, Nat.reduceLeDiff] <;> omega) | fail) only [go_sem, seval]) (by simp (disch := first | assumption | omega | (simp only [go_sem, ne_eq, Nat.reduceAdd, Nat.reduceLeDiff] <;> omega) | fail) only [go_sem, seval]) ?_ ?_ ?_ ?_ ?_
    · exact (AtS.put (by (first | omega | (simp only [Hp.next_push, Hp.next_put, Hp.ov_next, Hp.clk_push, Hp.clk_put, Hp.ov_clk] <;> omega) | fail))).other (by omega)
    · exact AtS.put (by (first | omega | (simp only [Hp.next_push, Hp.next_put, Hp.ov_next, Hp.clk_push, Hp.clk_put, Hp.ov_clk] <;> omega) | fail))
    · exact Grs.put (Grs.put (G.trans G6) (by omega)) (by omega)
    · exact (I5'.putB (by simp (disch := first | assumption | omega | (simp only [go_sem, ne_eq, Nat.reduceAdd, Nat.reduceLeDiff] <;> omega) | fail) only [go_sem, seval, isCellB_row])).putB (by simp (disch := first | assumption | omega | (simp only [go_sem, ne_eq, Nat.reduceAdd, Nat.reduceLeDiff] <;> omega) | fail) only [go_sem, seval, isCellB_row])
    · exact (I6.putB (by simp (disch := first | assumption | omega | (simp only [go_sem, ne_eq, Nat.reduceAdd, Nat.reduceLeDiff] <;> omega) | fail) only [go_sem, seval, isCellB_row])).putB (by simp (disch := first | assumption | omega | (simp only [go_sem, ne_eq, Nat.reduceAdd, Nat.reduceLeDiff] <;> omega) | fail) only [go_sem, seval, isCellB_row])
end
end
end Go.Ae


/- The reference's whole numbers, from machine integers. -/
set_option linter.unusedVariables false
set_option linter.unusedSimpArgs false
set_option maxRecDepth 100000
set_option maxHeartbeats 1000000
namespace Go.Ae
open Bg N Go.Proofs
noncomputable section
section
variable {h h' hp : Hp} {K : AV → Hp → Prop} {tm : T AV}
theorem d182 {n : Int} (hn : -9223372036854775807 ≤ n ∧ n ≤ 9223372036854775807) : Gp E3 182 [.int .i64 n] h fun v h' => IsR h' v n := by
  refine Gp.of (CallWp.fn (fn := R.a182) rfl rfl rfl ?_)
  unfold R.a182
  have es : sgn (decide (n < 0)) n.natAbs = n := by
    unfold sgn
    by_cases c : n < 0
    · rw [decide_eq_true c, if_pos rfl]; omega
    · rw [decide_eq_false c, if_neg (by decide)]; omega
  repeat' (with_reducible first | simp (disch := first | assumption | omega | (simp only [go_sem, ne_eq, Nat.reduceAdd, Nat.reduceLeDiff] <;> omega) | fail) only [go_sem, seval] | ((first | apply k1 | apply k2 | apply k3 | apply k4 | apply k5 | apply k6 | apply k7) <;> intro hc))
  refine Wp.loopI (fun m s => ∃ (u k : Nat) (out : List Nat) (z : Int) (v : AV), val s.tm (.t 0) = .int .i64 z ∧ val s.tm (.t 2) = .ptr h.next 0 ∧ val s.tm (.t 3) = v ∧ val s.tm (.t 4) = .bool (decide (n < 0)) ∧
    Grs (h.push fun st => .row [.bool false, .nils] true st) s.hp ∧ OwnZ 1 (h.push fun st => .row [.bool false, .nils] true st) s.hp v k (out.map (wd .i64)) ∧ out.length = k ∧ Dg 1000000000 out ∧ (n < 0 → z = -(u : Int)) ∧ (¬ n < 0 → z = u) ∧ u ≤ n.natAbs ∧ k ≤ 3 ∧
    n.natAbs = vl 1000000000 out + 1000000000 ^ k * u ∧ u = m) (n := n.natAbs) ?_ ?_
  · exact ⟨n.natAbs, 0, [], n, .nils, by simp (disch := first | assumption | omega | (simp only [go_sem, ne_eq, Nat.reduceAdd, Nat.reduceLeDiff] <;> omega) | fail) only [go_sem, seval], by simp (disch := first | assumption | omega | (simp only [go_sem, ne_eq, Nat.reduceAdd, Nat.reduceLeDiff] <;> omega) | fail) only [go_sem, seval], by simp (disch := first | assumption | omega | (simp only [go_sem, ne_eq, Nat.reduceAdd, Nat.reduceLeDiff] <;> omega) | fail) only [go_sem, seval], by simp (disch := first | assumption | omega | (simp only [go_sem, ne_eq, Nat.reduceAdd, Nat.reduceLeDiff] <;> omega) | fail) only [go_sem, seval], Grs.refl _, OwnZ.nil, rfl, Dg.nil, by omega, by omega, by omega, by omega, by simp [vl], rfl⟩
  · rintro m ⟨tm, hp⟩ ⟨u, k, out, z, v, h0, h2, h3, h4, hG, hO, hlo, dO, hz1, hz2, hu, hku, heq, rfl⟩
    simp only at h0 h2 h3 h4 hG hO
    have A : AtS (h.push fun st => .row [.bool false, .nils] true st) h.next [.bool false, .nils] := AtS.push
    rcases Nat.eq_zero_or_pos u with rfl | hpos
    · obtain rfl : z = 0 := by omega
      have S' := hO.sq hlo
      rw [Nat.mul_zero, Nat.add_zero] at heq
      repeat' (with_reducible first | simp (disch := first | assumption | omega | (simp only [go_sem, ne_eq, Nat.reduceAdd, Nat.reduceLeDiff] <;> omega) | fail) only [go_sem, seval, h0, h2, h3, h4] | ((first | apply k1 | apply k2 | apply k3 | apply k4 | apply k5 | apply k6 | apply k7) <;> intro hc))
      refine Gp.wp (d249 S' dO (by omega)) fun v5 k5 a5 b5 u5 I5 => ?_
      rw [← heq, es] at I5
      obtain ⟨w5, rfl, p5, I5⟩ := I5.ex
      obtain ⟨st, hg, hst, hlt⟩ := (A.grs hG).grs (⟨_, _, u5⟩ : Grs hp (hp.ov k5 u5))
      repeat' (with_reducible first | simp (disch := first | assumption | omega | (simp only [go_sem, ne_eq, Nat.reduceAdd, Nat.reduceLeDiff] <;> omega) | fail) only [go_sem, seval, h2, hg, p5] | ((first | apply k1 | apply k2 | apply k3 | apply k4 | apply k5 | apply k6 | apply k7) <;> intro hc))
      refine ⟨I5.putB (by simp (disch := first | assumption | omega | (simp only [go_sem, ne_eq, Nat.reduceAdd, Nat.reduceLeDiff] <;> omega) | fail) only [go_sem, seval, isCellB_row, hg]), ?_⟩
      exact Grs.put (((Grs.push (Grs.refl h)).trans hG).ov) (Nat.le_refl _)
    · have hk3 : k < 3 := by
        have h1 : 1000000000 ^ k * 1 ≤ 1000000000 ^ k * u := Nat.mul_le_mul_left _ hpos
        have h2 : 1000000000 ^ k < 1000000000 ^ 3 := by
          rw [Nat.mul_one] at h1
          have : (1000000000 : Nat) ^ 3 = 1000000000000000000000000000 := by decide
          omega
        exact (Nat.pow_lt_pow_iff_right (by decide)).1 h2
      have zne : ¬ z = 0 := by omega
      have fin : n.natAbs = vl 1000000000 (out ++ [u % 1000000000]) + 1000000000 ^ (k + 1) * (u / 1000000000) := by
        have e9 : (1000000000 : Nat) ^ (k + 1) = 1000000000 ^ k * 1000000000 := Nat.pow_succ _ _
        have e1 : 1000000000 ^ k * u = 1000000000 ^ k * (u % 1000000000) + 1000000000 ^ k * 1000000000 * (u / 1000000000) := by
          rw [Nat.mul_assoc, ← Nat.mul_add]; congr 1; omega
        rw [vl_snoc, hlo, e9, heq, e1]; omega
      have done : ∀ v' h', Grs (h.push fun st => .row [.bool false, .nils] true st) h' → OwnZ 1 (h.push fun st => .row [.bool false, .nils] true st) h' v' (k + 1) (out.map (wd .i64) ++ [.int .i64 (u % 1000000000 : Nat)]) → OwnZ 1 (h.push fun st => .row [.bool false, .nils] true st) h' v' (k + 1) ((out ++ [u % 1000000000]).map (wd .i64)) := fun v' h' _ O' => by rw [List.map_append]; exact O'
      by_cases c : n < 0
      · have ez := hz1 c
        subst ez
        have em : (-(u : Int)).tmod 1000000000 = -((u % 1000000000 : Nat) : Int) := by rw [Int.neg_tmod]; rfl
        have eq : (-(u : Int)).tdiv 1000000000 = -((u / 1000000000 : Nat) : Int) := by rw [Int.neg_tdiv]; rfl
        by_cases hm : u % 1000000000 = 0
        · have em0 : (-(u : Int)).tmod 1000000000 = ((u % 1000000000 : Nat) : Int) := by rw [em, hm]; rfl
          have hnn : ¬ ((u % 1000000000 : Nat) : Int) < 0 := by omega
          repeat' (with_reducible first | simp (disch := first | assumption | omega | (simp only [go_sem, ne_eq, Nat.reduceAdd, Nat.reduceLeDiff] <;> omega) | fail) only [go_sem, seval, h0, h2, h3, h4, zne, b_rem', b_quo', em0, eq, hnn, w_app] | ((first | apply k1 | apply k2 | apply k3 | apply k4 | apply k5 | apply k6 | apply k7) <;> intro hc))
          refine OwnZ.wp (h0 := h.push fun st => .row [.bool false, .nils] true st) (b := 8) rfl hG hO rfl (by decide) (by omega) (by omega) fun v' h' G' O' => ?_
          repeat' (with_reducible first | simp (disch := first | assumption | omega | (simp only [go_sem, ne_eq, Nat.reduceAdd, Nat.reduceLeDiff] <;> omega) | fail) only [go_sem, seval, h0, h2, h3, h4, b_rem', b_quo', eq] | ((first | apply k1 | apply k2 | apply k3 | apply k4 | apply k5 | apply k6 | apply k7) <;> intro hc))
          exact ⟨u / 1000000000, by omega, u / 1000000000, k + 1, out ++ [u % 1000000000], _, v', rfl, rfl, G', done v' h' G' O', by simp [hlo], dO.append (Dg.cons (by omega) Dg.nil), by omega, by omega, by omega, by omega, fin, rfl⟩
        · have hnn : -((u % 1000000000 : Nat) : Int) < 0 := by omega
          have e00 : (0 : Int) - -((u % 1000000000 : Nat) : Int) = ((u % 1000000000 : Nat) : Int) := by omega
          repeat' (with_reducible first | simp (disch := first | assumption | omega | (simp only [go_sem, ne_eq, Nat.reduceAdd, Nat.reduceLeDiff] <;> omega) | fail) only [go_sem, seval, h0, h2, h3, h4, zne, b_rem', b_quo', em, eq, hnn, e00, w_app] | ((first | apply k1 | apply k2 | apply k3 | apply k4 | apply k5 | apply k6 | apply k7) <;> intro hc))
          refine OwnZ.wp (h0 := h.push fun st => .row [.bool false, .nils] true st) (b := 8) rfl hG hO rfl (by decide) (by omega) (by omega) fun v' h' G' O' => ?_
          repeat' (with_reducible first | simp (disch := first | assumption | omega | (simp only [go_sem, ne_eq, Nat.reduceAdd, Nat.reduceLeDiff] <;> omega) | fail) only [go_sem, seval, h0, h2, h3, h4, b_rem', b_quo', eq] | ((first | apply k1 | apply k2 | apply k3 | apply k4 | apply k5 | apply k6 | apply k7) <;> intro hc))
          exact ⟨u / 1000000000, by omega, u / 1000000000, k + 1, out ++ [u % 1000000000], _, v', rfl, rfl, G', done v' h' G' O', by simp [hlo], dO.append (Dg.cons (by omega) Dg.nil), by omega, by omega, by omega, by omega, fin, rfl⟩
      · have ez := hz2 c
        subst ez
        have em : (u : Int) % 1000000000 = ((u % 1000000000 : Nat) : Int) := rfl
        have eq : (u : Int) / 1000000000 = ((u / 1000000000 : Nat) : Int) := rfl
        have hnn : ¬ ((u % 1000000000 : Nat) : Int) < 0 := by omega
        repeat' (with_reducible first | simp (disch := first | assumption | omega | (simp only [go_sem, ne_eq, Nat.reduceAdd, Nat.reduceLeDiff] <;> omega) | fail) only [go_sem, seval, h0, h2, h3, h4, zne, em, eq, hnn, w_app] | ((first | apply k1 | apply k2 | apply k3 | apply k4 | apply k5 | apply k6 | apply k7) <;> intro hc))
        refine OwnZ.wp (h0 := h.push fun st => .row [.bool false, .nils] true st) (b := 8) rfl hG hO rfl (by decide) (by omega) (by omega) fun v' h' G' O' => ?_
        repeat' (with_reducible first | simp (disch := first | assumption | omega | (simp only [go_sem, ne_eq, Nat.reduceAdd, Nat.reduceLeDiff] <;> omega) | fail) only [go_sem, seval, h0, h2, h3, h4, eq] | ((first | apply k1 | apply k2 | apply k3 | apply k4 | apply k5 | apply k6 | apply k7) <;> intro hc))
        exact ⟨u / 1000000000, by omega, u / 1000000000, k + 1, out ++ [u % 1000000000], _, v', rfl, rfl, G', done v' h' G' O', by simp [hlo], dO.append (Dg.cons (by omega) Dg.nil), by omega, by omega, by omega, by omega, fin, rfl⟩
end
end
end Go.Ae


/- The reference's texts of fractions: their parts. -/
set_option linter.unusedVariables false
set_option linter.unusedSimpArgs false
set_option maxRecDepth 100000
set_option maxHeartbeats 1000000
namespace Go.Ae
open Bg N Go.Proofs
noncomputable section
theorem txtZ_no (z : Int) : (47 : UInt8) ∉ txtZ z := by
  have h : (47 : UInt8) ∉ decP z.natAbs 1 := decP_no (by decide)
  unfold txtZ
  split
  · simp only [List.mem_cons, not_or]; exact ⟨by decide, h⟩
  · exact h
theorem getD_mem {l : List UInt8} {i : Nat} {c : UInt8} (hi : i < l.length) (h : l.getD i 0 = c) : c ∈ l := by
  have : l.getD i 0 = l[i] := by simp [List.getD, hi]
  rw [this] at h
  rw [← h]; exact List.getElem_mem hi
theorem slash_txt (r : Rat) : slashV (txtR r) = (txtZ r.num).length := by
  unfold txtR
  split
  · refine slash_none fun j hj e => txtZ_no r.num (getD_mem hj e)
  · refine slash_at (by simp) (fun j hj e => ?_) ?_
    · refine txtZ_no r.num (getD_mem (i := j) hj ?_)
      rw [← e]
      simp only [List.getD]
      rw [List.getElem?_append_left hj]
    · simp [List.getD]
theorem sgn_txt (z : Int) : sgn (decide (z < 0)) (decV (decP z.natAbs 1)) = z := by
  rw [decP_val]
  unfold sgn
  by_cases c : z < 0
  · rw [decide_eq_true c, if_pos rfl]; omega
  · rw [decide_eq_false c, if_neg (by decide)]; omega
section
variable {h h' hp : Hp} {K : AV → Hp → Prop} {tm : T AV} {r : Rat} {z : Int}
theorem d207z {n : Nat} (lz : Lr n z) (hn : n ≤ 10000) : Gp E3 207 [.str (txtZ z)] h fun v h' => IsR h' v z := by
  have h' : z.natAbs < 10 ^ (9 * n) := by rw [Nat.pow_mul]; exact lz
  have hl := decP_len (j := 9 * n) (n := z.natAbs) (k := 1) h'
  have := d207 (h := h) (neg := decide (z < 0)) (t := decP z.natAbs 1) (decP_all _ _) (decP_ne _) (by omega)
  rw [sgn_txt] at this
  have e : (if decide (z < 0) = true then 45 :: decP z.natAbs 1 else decP z.natAbs 1) = txtZ z := by
    unfold txtZ
    by_cases c : z < 0
    · rw [if_pos (decide_eq_true c), if_pos c]
    · rw [if_neg (by simpa using c), if_neg c]
  rw [e] at this
  exact this
theorem d124 (l1 : Lr 9000 r.num) (l2 : Lr 9000 (r.den : Int)) : Gp E3 124 [.str (txtR r)] h fun v h' => ∃ va vb, v = .tup [va, vb] ∧ IsR h' va r.num ∧ IsR h' vb (r.den : Int) := by
  refine Gp.of (CallWp.fn (fn := R.a124) rfl rfl rfl ?_)
  unfold R.a124
  have t1 := txtZ_len l1
  have t2 := txtZ_len l2
  have hsl := slash_txt r
  by_cases hd : r.den = 1
  · have et : txtR r = txtZ r.num := if_pos hd
    rw [et] at hsl ⊢
    have cs := fun {h : Hp} {K : AV → Hp → Prop} => c122 (h := h) (K := K) (s := txtZ r.num) (by omega)
    repeat' (with_reducible first | simp (disch := first | assumption | omega | (simp only [go_sem, ne_eq, Nat.reduceAdd, Nat.reduceLeDiff] <;> omega) | fail) only [go_sem, seval, cs, hsl] | ((first | apply k1 | apply k2 | apply k3 | apply k4 | apply k5 | apply k6 | apply k7) <;> intro hc))
    refine Gp.wp (d207z l1 (by decide)) fun v5 k5 a5 b5 u5 I5 => ?_
    obtain ⟨w5, rfl, p5, I5⟩ := I5.ex
    repeat' (with_reducible first | simp (disch := first | assumption | omega | (simp only [go_sem, ne_eq, Nat.reduceAdd, Nat.reduceLeDiff] <;> omega) | fail) only [go_sem, seval, p5] | ((first | apply k1 | apply k2 | apply k3 | apply k4 | apply k5 | apply k6 | apply k7) <;> intro hc))
    refine Gp.wp (d182 (n := 1) (by omega)) fun v6 k6 a6 b6 u6 I6 => ?_
    obtain ⟨w6, rfl, p6, I6⟩ := I6.ex
    have I5' := I5.grs (⟨_, _, u6⟩ : Grs _ ((((h.push fun st => .row [.bool false, .nils] true st).push fun st => .row [.bool false, .nils] true st).ov k5 u5).ov k6 u6))
    rw [hd]
    repeat' (with_reducible first | simp (disch := first | assumption | omega | (simp only [go_sem, ne_eq, Nat.reduceAdd, Nat.reduceLeDiff] <;> omega) | fail) only [go_sem, seval, p5, p6] | ((first | apply k1 | apply k2 | apply k3 | apply k4 | apply k5 | apply k6 | apply k7) <;> intro hc))
    refine ⟨⟨_, _, rfl, ?_, ?_⟩, ?_⟩
    · exact (I5'.putB (by simp (disch := first | assumption | omega | (simp only [go_sem, ne_eq, Nat.reduceAdd, Nat.reduceLeDiff] <;> omega) | fail) only [go_sem, seval, isCellB_row])).putB (by simp (disch := first | assumption | omega | (simp only [go_sem, ne_eq, Nat.reduceAdd, Nat.reduceLeDiff] <;> omega) | fail) only [go_sem, seval, isCellB_row])
    · exact (I6.putB (by simp (disch := first | assumption | omega | (simp only [go_sem, ne_eq, Nat.reduceAdd, Nat.reduceLeDiff] <;> omega) | fail) only [go_sem, seval, isCellB_row])).putB (by simp (disch := first | assumption | omega | (simp only [go_sem, ne_eq, Nat.reduceAdd, Nat.reduceLeDiff] <;> omega) | fail) only [go_sem, seval, isCellB_row])
    · (try first | refine ⟨trivial, ?_⟩ | refine ⟨rfl, ?_⟩); (repeat (first | exact Grs.refl _ | assumption | refine Grs.push ?_ | refine Grs.ov ?_ | refine Grs.put ?_ (by (try simp only [Hp.next_push, Hp.next_put, Hp.ov_next, Hp.clk_push, Hp.clk_put, Hp.ov_clk]); omega)))
  · have et : txtR r = txtZ r.num ++ 47 :: txtZ r.den := if_neg hd
    rw [et] at hsl ⊢
    have hlen : (txtZ r.num ++ 47 :: txtZ r.den).length = (txtZ r.num).length + ((txtZ r.den).length + 1) := by simp
    have cs := fun {h : Hp} {K : AV → Hp → Prop} => c122 (h := h) (K := K) (s := txtZ r.num ++ 47 :: txtZ r.den) (by omega)
    have hne : ¬ ((txtZ r.num).length : Int) = ((txtZ r.num).length + ((txtZ r.den).length + 1) : Nat) := by omega
    have k1 : List.take (txtZ r.num).length (txtZ r.num ++ 47 :: txtZ r.den) = txtZ r.num := List.take_left
    have e1 : (((txtZ r.num).length : Int) + 1).toNat = (txtZ r.num).length + 1 := by omega
    have k2 : List.drop ((txtZ r.num).length + 1) (txtZ r.num ++ 47 :: txtZ r.den) = txtZ r.den := by
      rw [← List.drop_drop, List.drop_left]; rfl
    repeat' (with_reducible first | simp (disch := first | assumption | omega | (simp only [go_sem, ne_eq, Nat.reduceAdd, Nat.reduceLeDiff] <;> omega) | fail) only [go_sem, seval, cs, hsl, hne, k1, e1, k2] | ((first | apply k1 | apply k2 | apply k3 | apply k4 | apply k5 | apply k6 | apply k7) <;> intro hc))
    refine Gp.wp (d207z l1 (by decide)) fun v5 k5 a5 b5 u5 I5 => ?_
    obtain ⟨w5, rfl, p5, I5⟩ := I5.ex
    repeat' (with_reducible first | simp (disch := first | assumption | omega | (simp only [go_sem, ne_eq, Nat.reduceAdd, Nat.reduceLeDiff] <;> omega) | fail) only [go_sem, seval, p5, k1, e1, k2] | ((first | apply k1 | apply k2 | apply k3 | apply k4 | apply k5 | apply k6 | apply k7) <;> intro hc))
    refine Gp.wp (d207z l2 (by decide)) fun v6 k6 a6 b6 u6 I6 => ?_
    obtain ⟨w6, rfl, p6, I6⟩ := I6.ex
    have I5' := I5.grs (⟨_, _, u6⟩ : Grs _ ((((h.push fun st => .row [.bool false, .nils] true st).push fun st => .row [.bool false, .nils] true st).ov k5 u5).ov k6 u6))
    repeat' (with_reducible first | simp (disch := first | assumption | omega | (simp only [go_sem, ne_eq, Nat.reduceAdd, Nat.reduceLeDiff] <;> omega) | fail) only [go_sem, seval, p5, p6] | ((first | apply k1 | apply k2 | apply k3 | apply k4 | apply k5 | apply k6 | apply k7) <;> intro hc))
    refine ⟨⟨_, _, rfl, ?_, ?_⟩, ?_⟩
    · exact (I5'.putB (by simp (disch := first | assumption | omega | (simp only [go_sem, ne_eq, Nat.reduceAdd, Nat.reduceLeDiff] <;> omega) | fail) only [go_sem, seval, isCellB_row])).putB (by simp (disch := first | assumption | omega | (simp only [go_sem, ne_eq, Nat.reduceAdd, Nat.reduceLeDiff] <;> omega) | fail) only [go_sem, seval, isCellB_row])
    · exact (I6.putB (by simp (disch := first | assumption | omega | (simp only [go_sem, ne_eq, Nat.reduceAdd, Nat.reduceLeDiff] <;> omega) | fail) only [go_sem, seval, isCellB_row])).putB (by simp (disch := first | assumption | omega | (simp only [go_sem, ne_eq, Nat.reduceAdd, Nat.reduceLeDiff] <;> omega) | fail) only [go_sem, seval, isCellB_row])
    · (try first | refine ⟨trivial, ?_⟩ | refine ⟨rfl, ?_⟩); (repeat (first | exact Grs.refl _ | assumption | refine Grs.push ?_ | refine Grs.ov ?_ | refine Grs.put ?_ (by (try simp only [Hp.next_push, Hp.next_put, Hp.ov_next, Hp.clk_push, Hp.clk_put, Hp.ov_clk]); omega)))
end
end
end Go.Ae


/- The reference's machine integers: greatest common divisor; texts: the opposite. -/
set_option linter.unusedVariables false
set_option linter.unusedSimpArgs false
set_option maxRecDepth 100000
set_option maxHeartbeats 1000000
namespace Go.Ae
open Bg N Go.Proofs
noncomputable section
section
variable {h h' hp : Hp} {K : AV → Hp → Prop} {tm : T AV} {r : Rat}
theorem d185 {a b : Nat} (ha : a ≤ 9223372036854775807) (hb : b ≤ 9223372036854775807) : CallWp E3 185 [.int .i64 a, .int .i64 b] h K ↔ K (.int .i64 (Nat.gcd a b : Nat)) h := by
  refine CallWp.iff_of (CallWp.fn (fn := R.a185) rfl rfl rfl ?_)
  unfold R.a185
  repeat' (with_reducible first | simp (disch := first | assumption | omega | (simp only [go_sem, ne_eq, Nat.reduceAdd, Nat.reduceLeDiff] <;> omega) | fail) only [go_sem, seval] | ((first | apply k1 | apply k2 | apply k3 | apply k4 | apply k5 | apply k6 | apply k7) <;> intro hc))
  refine Wp.loopI (fun m s => ∃ x y : Nat, val s.tm (.t 0) = .int .i64 x ∧ val s.tm (.t 1) = .int .i64 y ∧ s.hp = h ∧ Nat.gcd x y = Nat.gcd a b ∧ x ≤ 9223372036854775807 ∧ y ≤ 9223372036854775807 ∧ y = m) (n := b) ?_ ?_
  · exact ⟨a, b, by simp (disch := first | assumption | omega | (simp only [go_sem, ne_eq, Nat.reduceAdd, Nat.reduceLeDiff] <;> omega) | fail) only [go_sem, seval], by simp (disch := first | assumption | omega | (simp only [go_sem, ne_eq, Nat.reduceAdd, Nat.reduceLeDiff] <;> omega) | fail) only [go_sem, seval], rfl, rfl, ha, hb, rfl⟩
  · rintro m ⟨tm, hp⟩ ⟨x, y, h0, h1, rfl, hg, hx, hy, rfl⟩
    simp only at h0 h1
    rcases Nat.eq_zero_or_pos y with rfl | hp
    · have e0 : ((0 : Nat) : Int) = 0 := rfl
      repeat' (with_reducible first | simp (disch := first | assumption | omega | (simp only [go_sem, ne_eq, Nat.reduceAdd, Nat.reduceLeDiff] <;> omega) | fail) only [go_sem, seval, h0, h1, e0, Int.lt_irrefl] | ((first | apply k1 | apply k2 | apply k3 | apply k4 | apply k5 | apply k6 | apply k7) <;> intro hc))
      rw [← hg, Nat.gcd_zero_right]
    · have hp' : (0 : Int) < y := by omega
      have em : (x : Int) % y = ((x % y : Nat) : Int) := rfl
      repeat' (with_reducible first | simp (disch := first | assumption | omega | (simp only [go_sem, ne_eq, Nat.reduceAdd, Nat.reduceLeDiff] <;> omega) | fail) only [go_sem, seval, h0, h1, hp', em] | ((first | apply k1 | apply k2 | apply k3 | apply k4 | apply k5 | apply k6 | apply k7) <;> intro hc))
      have hl := Nat.mod_lt x hp
      refine ⟨x % y, hl, y, x % y, rfl, rfl, ?_, hy, by omega, rfl⟩
      rw [← hg, Nat.gcd_comm y, ← Nat.gcd_rec, Nat.gcd_comm]
/-- The text behind the sign. -/
def absR (r : Rat) : List UInt8 := if r.den = 1 then decP r.num.natAbs 1 else decP r.num.natAbs 1 ++ 47 :: txtZ r.den
theorem txtR_abs (r : Rat) : txtR r = if r.num < 0 then 45 :: absR r else absR r := by
  unfold txtR absR txtZ
  by_cases h1 : r.den = 1 <;> by_cases h2 : r.num < 0 <;> simp [h1, h2]
theorem absR_neg (r : Rat) : absR (-r) = absR r := by
  unfold absR
  rw [show (-r).den = r.den from rfl, show (-r).num = -r.num from rfl, Int.natAbs_neg]
theorem absR_head {r : Rat} (h : r.num ≠ 0) : (absR r).head? ≠ some 45 ∧ absR r ≠ [48] := by
  have hd := decP_head r.num.natAbs r.num.natAbs rfl (by omega)
  have hne := decP_ne r.num.natAbs
  have ha := decP_all r.num.natAbs 1
  match hq : decP r.num.natAbs 1, hne with
  | c :: l, _ =>
    rw [hq] at hd ha
    have hc : isDig c = true := by
      unfold allDig at ha
      exact (List.all_eq_true.1 ha) c (by simp)
    have h45 : c ≠ 45 := by rintro rfl; exact absurd hc (by decide)
    have h48 : c ≠ 48 := by simpa using hd
    unfold absR
    rw [hq]
    split
    · exact ⟨by simp [h45], by simp [h48]⟩
    · exact ⟨by simp [h45], by simp [h48]⟩
theorem sgn_txtR (r : Rat) : sgnS (txtR r) = if r.num < 0 then -1 else if r.num = 0 then 0 else 1 := by
  rw [txtR_abs]
  by_cases h2 : r.num < 0
  · rw [if_pos h2, if_pos h2]
    unfold sgnS
    rw [if_neg (by simp), if_pos (by simp)]
  · rw [if_neg h2, if_neg h2]
    by_cases h0 : r.num = 0
    · have hr : r = 0 := (Rat.num_eq_zero).1 h0
      rw [if_pos h0, hr]
      decide +kernel
    · rw [if_neg h0]
      obtain ⟨a, b⟩ := absR_head h0
      unfold sgnS
      rw [if_neg b, if_neg a]
theorem d172 (l1 : Lr 9000 r.num) (l2 : Lr 9000 (r.den : Int)) : Gv E3 172 [.str (txtR r)] h (.str (txtR (-r))) := by
  have t1 := txtZ_len l1
  have t2 := txtZ_len l2
  have hl : (txtR r).length ≤ 200000 := by
    unfold txtR
    split
    · omega
    · rw [List.length_append, List.length_cons]; omega
  have hs := sgn_txtR r
  refine Gv.of (CallWp.fn (fn := R.a172) rfl rfl rfl ?_)
  unfold R.a172
  have cs := fun {h : Hp} {K : AV → Hp → Prop} => c21 (h := h) (K := K) (s := txtR r) (by omega)
  have en : txtR (-r) = if -r.num < 0 then 45 :: absR r else absR r := by rw [txtR_abs, absR_neg]; rfl
  by_cases h2 : r.num < 0
  · rw [if_pos h2] at hs
    have e1 : (txtR r).drop 1 = txtR (-r) := by rw [en, if_neg (by omega), txtR_abs, if_pos h2]; rfl
    have hl1 : (1 : Int) ≤ (txtR r).length := by rw [txtR_abs, if_pos h2, List.length_cons]; omega
    repeat' (with_reducible first | simp (disch := first | assumption | omega | (simp only [go_sem, ne_eq, Nat.reduceAdd, Nat.reduceLeDiff] <;> omega) | fail) only [go_sem, seval, cs, hs, hl1, e1] | ((first | apply k1 | apply k2 | apply k3 | apply k4 | apply k5 | apply k6 | apply k7) <;> intro hc))
    (try first | refine ⟨trivial, ?_⟩ | refine ⟨rfl, ?_⟩); (repeat (first | exact Grs.refl _ | assumption | refine Grs.push ?_ | refine Grs.ov ?_ | refine Grs.put ?_ (by (try simp only [Hp.next_push, Hp.next_put, Hp.ov_next, Hp.clk_push, Hp.clk_put, Hp.ov_clk]); omega)))
  · by_cases h0 : r.num = 0
    · rw [if_neg h2, if_pos h0] at hs
      have e1 : txtR r = txtR (-r) := by rw [en, if_neg (by omega), txtR_abs, if_neg h2]
      repeat' (with_reducible first | simp (disch := first | assumption | omega | (simp only [go_sem, ne_eq, Nat.reduceAdd, Nat.reduceLeDiff] <;> omega) | fail) only [go_sem, seval, cs, hs] | ((first | apply k1 | apply k2 | apply k3 | apply k4 | apply k5 | apply k6 | apply k7) <;> intro hc))
      rw [e1]
    · rw [if_neg h2, if_neg h0] at hs
      have e1 : [45] ++ txtR r = txtR (-r) := by rw [en, if_pos (by omega), txtR_abs, if_neg h2]; rfl
      repeat' (with_reducible first | simp (disch := first | assumption | omega | (simp only [go_sem, ne_eq, Nat.reduceAdd, Nat.reduceLeDiff] <;> omega) | fail) only [go_sem, seval, cs, hs] | ((first | apply k1 | apply k2 | apply k3 | apply k4 | apply k5 | apply k6 | apply k7) <;> intro hc))
      rw [← e1]; rfl
end
end
end Go.Ae


/- The reference's fractions of machine integers, as texts. -/
set_option linter.unusedVariables false
set_option linter.unusedSimpArgs false
set_option maxRecDepth 100000
set_option maxHeartbeats 1000000
namespace Go.Ae
open Bg N Go.Proofs
noncomputable section
section
variable {h h' hp : Hp} {K : AV → Hp → Prop} {tm : T AV} {r : Rat}
theorem d99 {x : Int} {y : Nat} (hx : -4000000000000000000 ≤ x ∧ x ≤ 4000000000000000000) (hy : 0 < y) (hy' : y ≤ 4000000000000000000) : Gv E3 99 [.int .i64 x, .int .i64 y] h (.str (txtR (Rat.divInt x y))) := by
  obtain ⟨f1, f2, f3⟩ := divInt_abs (p := x) (q := y) (by omega)
  obtain ⟨h1, h2⟩ := divInt_gcd (p := x) (q := y) (by omega)
  obtain ⟨r, hr⟩ : ∃ r, r = Rat.divInt x y := ⟨_, rfl⟩
  rw [← hr] at f1 f2 f3 h1 h2 ⊢
  rw [Int.natAbs_natCast] at f1 f2
  have hg : 0 < Nat.gcd x.natAbs y := Nat.gcd_pos_of_pos_right _ hy
  have hgy : Nat.gcd x.natAbs y ≤ y := Nat.gcd_le_right _ hy
  have en : x.tdiv (Nat.gcd x.natAbs y : Nat) = r.num := by
    obtain ⟨a, ha⟩ := Int.gcd_dvd_left x (y : Int)
    have hgi : (Int.gcd x (y : Int) : Int) ≠ 0 := by
      have := Int.gcd_pos_of_ne_zero_right x (show (y : Int) ≠ 0 by omega)
      omega
    have e0 : (Nat.gcd x.natAbs y : Int) = (Int.gcd x (y : Int) : Int) := rfl
    have e1 : x.fdiv (Int.gcd x (y : Int) : Int) = a := by
      have := Int.mul_fdiv_cancel_left a hgi
      rwa [← ha] at this
    have e2 : x.tdiv (Int.gcd x (y : Int) : Int) = a := by
      have := Int.mul_tdiv_cancel_left a hgi
      rwa [← ha] at this
    rw [e0, e2, h1, e1]
  have ed : (y : Int) / (Nat.gcd x.natAbs y : Nat) = (r.den : Int) := by rw [f2]; rfl
  have hnl : r.num.natAbs ≤ x.natAbs := by rw [f1]; exact Nat.div_le_self _ _
  have hdl : r.den ≤ y := by rw [f2]; exact Nat.div_le_self _ _
  have hd0 := den_pos r
  have em : max x (0 - x) = (x.natAbs : Int) := by omega
  have em2 : max r.num (0 - r.num) = (r.num.natAbs : Int) := by omega
  have cg := fun {h : Hp} {K : AV → Hp → Prop} => d185 (h := h) (K := K) (a := x.natAbs) (b := y) (by omega) (by omega)
  have c1 := fun {h : Hp} {K : AV → Hp → Prop} => u186_1 (h := h) (K := K) (n := r.num.natAbs) (by omega)
  have c2 := fun {h : Hp} {K : AV → Hp → Prop} => u186_1 (h := h) (K := K) (n := r.den) (by omega)
  have l1 := decP_len (j := 19) (n := r.num.natAbs) (k := 1) (by omega)
  have l2 := decP_len (j := 19) (n := r.den) (k := 1) (by omega)
  have ezd : txtZ (r.den : Int) = decP r.den 1 := by unfold txtZ; rw [if_neg (by omega), Int.natAbs_natCast]
  obtain ⟨g, hgg⟩ : ∃ g, g = Nat.gcd x.natAbs y := ⟨_, rfl⟩
  rw [← hgg] at hg hgy en ed cg
  have hgi : ¬ (g : Int) = 0 := by omega
  have wn : IntKind.wrap .i64 r.num = r.num := wrap_i64 (by omega)
  have wd' : IntKind.wrap .i64 (r.den : Int) = r.den := wrap_i64 (by omega)
  have ed2 : IntKind.wrap .i64 ((y : Int) / (g : Int)) = (r.den : Int) := by rw [ed]; exact wd'
  have ed3 : (y : Int).tdiv (g : Int) = (r.den : Int) := by rw [← ed]; rfl
  have et : txtR r = (if r.num < 0 then [45] else []) ++ (decP r.num.natAbs 1 ++ if r.den = 1 then [] else 47 :: decP r.den 1) := by
    unfold txtR
    rw [ezd]
    unfold txtZ
    by_cases a1 : r.den = 1 <;> by_cases a2 : r.num < 0 <;> simp [a1, a2]
  clear f1 f2 f3 h1 h2
  refine Gv.of (CallWp.fn (fn := R.a99) rfl rfl rfl ?_)
  unfold R.a99
  have g1 : ¬ x < -4000000000000000000 := by omega
  have g2 : ¬ 4000000000000000000 < x := by omega
  have g3 : ¬ (y : Int) < -4000000000000000000 := by omega
  have g4 : ¬ 4000000000000000000 < (y : Int) := by omega
  have g5 : ¬ (y : Int) < 0 := by omega
  have hgp : 0 < (g : Int) := by omega
  rw [et]
  by_cases a2 : r.num < 0 <;> by_cases a1 : (1 : Int) < r.den
  · have a1' : ¬ r.den = 1 := by omega
    repeat' (with_reducible first | simp (disch := first | assumption | omega | (simp only [go_sem, ne_eq, Nat.reduceAdd, Nat.reduceLeDiff] <;> omega) | fail) only [go_sem, seval, g1, g2, g3, g4, g5, em, cg, b_quo', en, ed2, ed3, ed, wn, wd', em2, c1, c2, a2, a1] | ((first | apply k1 | apply k2 | apply k3 | apply k4 | apply k5 | apply k6 | apply k7) <;> intro hc))
    rw [if_neg a1']
    simp
  · have a1' : r.den = 1 := by omega
    repeat' (with_reducible first | simp (disch := first | assumption | omega | (simp only [go_sem, ne_eq, Nat.reduceAdd, Nat.reduceLeDiff] <;> omega) | fail) only [go_sem, seval, g1, g2, g3, g4, g5, em, cg, b_quo', en, ed2, ed3, ed, wn, wd', em2, c1, c2, a2, a1] | ((first | apply k1 | apply k2 | apply k3 | apply k4 | apply k5 | apply k6 | apply k7) <;> intro hc))
    rw [if_pos a1']
    simp
  · have a1' : ¬ r.den = 1 := by omega
    repeat' (with_reducible first | simp (disch := first | assumption | omega | (simp only [go_sem, ne_eq, Nat.reduceAdd, Nat.reduceLeDiff] <;> omega) | fail) only [go_sem, seval, g1, g2, g3, g4, g5, em, cg, b_quo', en, ed2, ed3, ed, wn, wd', em2, c1, c2, a2, a1] | ((first | apply k1 | apply k2 | apply k3 | apply k4 | apply k5 | apply k6 | apply k7) <;> intro hc))
    rw [if_neg a1']
    simp
  · have a1' : r.den = 1 := by omega
    repeat' (with_reducible first | simp (disch := first | assumption | omega | (simp only [go_sem, ne_eq, Nat.reduceAdd, Nat.reduceLeDiff] <;> omega) | fail) only [go_sem, seval, g1, g2, g3, g4, g5, em, cg, b_quo', en, ed2, ed3, ed, wn, wd', em2, c1, c2, a2, a1] | ((first | apply k1 | apply k2 | apply k3 | apply k4 | apply k5 | apply k6 | apply k7) <;> intro hc))
    rw [if_pos a1']
    simp
end
end
end Go.Ae


/- The check of a number's text, in plain Lean: which texts are those of numbers. -/
set_option linter.unusedVariables false
set_option linter.unusedSimpArgs false
set_option maxRecDepth 100000
set_option exponentiation.threshold 1000
namespace Go.Ae
open Bg N Go.Proofs
noncomputable section
theorem dg_dV {b : UInt8} (h : isDig b = true) : dg (dV b) = b := by
  unfold isDig at h
  have h := of_decide_eq_true h
  apply UInt8.toNat_inj.1
  rw [dg_nat]; unfold dV; omega
theorem isDec_cases {l : List UInt8} (h : isDec l = true) : l ≠ [] ∧ allDig l = true ∧ (l.headD 0 ≠ 48 ∨ l = [48]) := by
  unfold isDec at h
  simp only [Bool.and_eq_true, Bool.or_eq_true, decide_eq_true_eq] at h
  exact ⟨h.1.1, h.1.2, h.2⟩
theorem isDec_mk {l : List UInt8} (h1 : l ≠ []) (h2 : allDig l = true) (h3 : l.headD 0 ≠ 48 ∨ l = [48]) : isDec l = true := by
  unfold isDec
  simp only [Bool.and_eq_true, Bool.or_eq_true, decide_eq_true_eq]
  exact ⟨⟨h1, h2⟩, h3⟩
theorem isDec_txt : ∀ (n : Nat) {l : List UInt8}, l.length = n → isDec l = true → decP (decV l) 1 = l := by
  intro n
  induction n with
  | zero => intro l hl h; obtain ⟨h1, _⟩ := isDec_cases h; exact absurd (List.eq_nil_of_length_eq_zero hl) h1
  | succ n ih =>
    intro l hl h
    obtain ⟨h1, h2, h3⟩ := isDec_cases h
    obtain ⟨m, y, rfl⟩ : ∃ m y, l = m ++ [y] := by
      rcases List.eq_nil_or_concat l with h' | ⟨m, x, h'⟩
      · exact absurd h' h1
      · exact ⟨m, x, by simpa using h'⟩
    have hy : isDig y = true := by
      unfold allDig at h2; exact (List.all_eq_true.1 h2) y (by simp)
    have hm : allDig m = true := by
      unfold allDig at h2 ⊢; rw [List.all_append, Bool.and_eq_true] at h2; exact h2.1
    have hv : decV (m ++ [y]) = decV m * 10 + dV y := by
      rw [decV_append]; show decV m * 10 ^ 1 + decF 0 [y] = _; rw [decF_cons, decF_nil]; omega
    have hyl : dV y < 10 := by unfold dV; unfold isDig at hy; have := of_decide_eq_true hy; omega
    rw [hv]
    match m, hm, h3, hl with
    | [], _, _, _ =>
      rw [show decV [] = 0 from rfl, Nat.zero_mul, Nat.zero_add, decP_one_small hyl, dg_dV hy]; rfl
    | c :: r, hm, h3, hl =>
      have hc : c ≠ 48 := by
        rcases h3 with h3 | h3
        · simpa using h3
        · exact absurd (congrArg List.length h3) (by simp)
      have hd : isDec (c :: r) = true := isDec_mk (by simp) hm (Or.inl (by simpa using hc))
      have hl' : (c :: r).length = n := by simpa using hl
      have e := ih hl' hd
      have hp : 0 < decV (c :: r) := by
        rcases Nat.eq_zero_or_pos (decV (c :: r)) with z | z
        · rw [z, decP_one_small (by decide)] at e
          have e1 : dg 0 = c := by injection e
          have e2 : dg 0 = 48 := by decide +kernel
          exact absurd (e1.symm.trans e2) hc
        · exact z
      have ed : dg (decV (c :: r) * 10 + dV y) = y := (dg_mod (n := decV (c :: r) * 10 + dV y) (m := dV y) (by omega)).trans (dg_dV hy)
      rw [decP_one_big (by omega), show (decV (c :: r) * 10 + dV y) / 10 = decV (c :: r) by omega, e, ed]
theorem isDec_eq {l : List UInt8} (h : isDec l = true) : decP (decV l) 1 = l := isDec_txt _ rfl h
theorem slash_split : ∀ {t : List UInt8}, slashV t < t.length → t = t.take (slashV t) ++ 47 :: t.drop (slashV t + 1) := by
  intro t
  induction t with
  | nil => intro h; simp at h
  | cons b r ih =>
    intro h
    by_cases hb : b = 47
    · subst hb
      have : slashV (47 :: r) = 0 := by unfold slashV; simp
      rw [this]; rfl
    · have e : slashV (b :: r) = slashV r + 1 := by
        unfold slashV
        rw [List.takeWhile_cons_of_pos (by simpa using hb), List.length_cons]
      rw [e] at h ⊢
      have h' := ih (by simpa using h)
      conv => lhs; rw [h']
      rfl
/-- The text behind a sign. -/
def unS (s : List UInt8) : List UInt8 := if s.head? = some 45 then s.drop 1 else s
def numU (s : List UInt8) : List UInt8 := (unS s).take (slashV (unS s))
def denU (s : List UInt8) : List UInt8 := (unS s).drop (slashV (unS s) + 1)
/-- Whether there is a slash. -/
def brk (s : List UInt8) : Bool := decide (slashV (unS s) < (unS s).length)
/-- Whether the parts have their form. -/
def formS (s : List UInt8) : Bool := isDec (numU s) && (!(decide (s.head? = some 45)) || decide (numU s ≠ [48])) && (!(brk s) || (isDec (denU s) && decide (denU s ≠ [48]) && decide (denU s ≠ [49])))
/-- The error of a number's text. -/
def checkV (s : List UInt8) : Int :=
  if formS s = false then 1
  else if 600 < (numU s).length ∨ 600 < (denU s).length then 4
  else if brk s = true ∧ Nat.gcd (decV (numU s)) (decV (denU s)) ≠ 1 then 1 else 0
/-- Few enough digits. -/
def okR (r : Rat) : Bool := decide (r.num.natAbs < 10 ^ 600 ∧ r.den < 10 ^ 600)
theorem formS_cases {s : List UInt8} (h : formS s = true) : isDec (numU s) = true ∧ (s.head? = some 45 → numU s ≠ [48]) ∧ (brk s = true → isDec (denU s) = true ∧ denU s ≠ [48] ∧ denU s ≠ [49]) := by
  unfold formS at h
  simp only [Bool.and_eq_true, Bool.or_eq_true, Bool.not_eq_true', decide_eq_true_eq, decide_eq_false_iff_not] at h
  obtain ⟨⟨a, b⟩, c⟩ := h
  refine ⟨a, fun e => ?_, fun e => ?_⟩
  · rcases b with b | b
    · exact absurd e b
    · exact b
  · rcases c with c | c
    · rw [c] at e; cases e
    · exact ⟨c.1.1, c.1.2, c.2⟩
theorem decV_48 {l : List UInt8} (h : isDec l = true) (h0 : l ≠ [48]) : decV l ≠ 0 := by
  intro e
  have := isDec_eq h
  rw [e] at this
  exact h0 (this.symm.trans (by decide +kernel))
theorem decV_49 {l : List UInt8} (h : isDec l = true) (h0 : l ≠ [49]) : decV l ≠ 1 := by
  intro e
  have := isDec_eq h
  rw [e] at this
  exact h0 (this.symm.trans (by decide +kernel))
theorem unS_eq (s : List UInt8) : s = if s.head? = some 45 then 45 :: unS s else unS s := by
  unfold unS
  by_cases h : s.head? = some 45
  · rw [if_pos h, if_pos h]
    match s, h with
    | c :: r, h =>
      have : c = 45 := by simpa using h
      rw [this]; rfl
  · rw [if_neg h, if_neg h]
theorem formS_txt {s : List UInt8} (h : formS s = true) (hg : brk s = true → Nat.gcd (decV (numU s)) (decV (denU s)) = 1) :
    ∃ r : Rat, s = txtR r ∧ r.num.natAbs = decV (numU s) ∧ r.den = (if brk s = true then decV (denU s) else 1) := by
  obtain ⟨h1, h2, h3⟩ := formS_cases h
  have en := isDec_eq h1
  have ez : ∀ {t : List UInt8}, s = (if s.head? = some 45 then 45 :: (numU s ++ t) else numU s ++ t) → s = txtZ (sgn (decide (s.head? = some 45)) (decV (numU s))) ++ t := by
    intro t e
    by_cases c : s.head? = some 45
    · have h0 := decV_48 h1 (h2 c)
      rw [if_pos c] at e
      rw [decide_eq_true c]
      have : txtZ (sgn true (decV (numU s))) = 45 :: numU s := by
        rw [show sgn true (decV (numU s)) = -(decV (numU s) : Int) from rfl]
        unfold txtZ
        rw [if_pos (by omega), Int.natAbs_neg, Int.natAbs_natCast, en]
      rw [this]; exact e
    · rw [if_neg c] at e
      rw [decide_eq_false c]
      have : txtZ (sgn false (decV (numU s))) = numU s := by
        rw [show sgn false (decV (numU s)) = (decV (numU s) : Int) from rfl]
        unfold txtZ
        rw [if_neg (by omega), Int.natAbs_natCast, en]
      rw [this]; exact e
  have hs := unS_eq s
  have ha : (sgn (decide (s.head? = some 45)) (decV (numU s))).natAbs = decV (numU s) := by
    unfold sgn; split <;> omega
  by_cases c : brk s = true
  · obtain ⟨d1, d2, d3⟩ := h3 c
    have hd0 := decV_48 d1 d2
    have hd1 := decV_49 d1 d3
    refine ⟨⟨sgn (decide (s.head? = some 45)) (decV (numU s)), decV (denU s), hd0, ?_⟩, ?_, ha, by rw [if_pos c]⟩
    · rw [ha]; exact hg c
    · have sp := slash_split (t := unS s) (by unfold brk at c; exact of_decide_eq_true c)
      have : unS s = numU s ++ 47 :: denU s := sp
      rw [this] at hs
      have := ez hs
      unfold txtR
      rw [if_neg hd1]
      have ed : txtZ ((decV (denU s) : Nat) : Int) = denU s := by
        unfold txtZ
        rw [if_neg (by omega), Int.natAbs_natCast, isDec_eq d1]
      rw [ed]; exact this
  · refine ⟨⟨sgn (decide (s.head? = some 45)) (decV (numU s)), 1, by decide, Nat.coprime_one_right _⟩, ?_, ha, by rw [if_neg c]⟩
    have hk : slashV (unS s) = (unS s).length := by
      have := slash_le (unS s)
      have : ¬ slashV (unS s) < (unS s).length := fun e => c (decide_eq_true e)
      omega
    have : unS s = numU s ++ [] := by unfold numU; rw [hk, List.take_length, List.append_nil]
    rw [this] at hs
    have := ez hs
    rw [List.append_nil] at this
    unfold txtR
    rw [if_pos rfl]; exact this
theorem checkV_zero {s : List UInt8} (h : checkV s = 0) : ∃ r : Rat, s = txtR r ∧ okR r = true := by
  unfold checkV at h
  by_cases hf : formS s = false
  · rw [if_pos hf] at h; exact absurd h (by decide)
  · rw [if_neg hf] at h
    have hf : formS s = true := by simpa using hf
    by_cases hl : 600 < (numU s).length ∨ 600 < (denU s).length
    · rw [if_pos hl] at h; exact absurd h (by decide)
    · rw [if_neg hl] at h
      by_cases hg : brk s = true ∧ Nat.gcd (decV (numU s)) (decV (denU s)) ≠ 1
      · rw [if_pos hg] at h; exact absurd h (by decide)
      · obtain ⟨r, e, e1, e2⟩ := formS_txt hf (fun b => Classical.byContradiction fun c => hg ⟨b, c⟩)
        obtain ⟨h1, h2, h3⟩ := formS_cases hf
        refine ⟨r, e, decide_eq_true ⟨?_, ?_⟩⟩
        · rw [e1]
          exact Nat.lt_of_lt_of_le (decV_lt (isDec_cases h1).2.1) (Nat.pow_le_pow_right (by decide) (by omega))
        · rw [e2]
          split
          · rename_i hb
            exact Nat.lt_of_lt_of_le (decV_lt (isDec_cases (h3 hb).1).2.1) (Nat.pow_le_pow_right (by decide) (by omega))
          · exact Nat.one_lt_pow (by decide) (by decide)
/-! The texts of numbers. -/
theorem decP_h45 (n : Nat) (t : List UInt8) : (decP n 1 ++ t).head? ≠ some 45 := by
  have hne := decP_ne n
  have ha := decP_all n 1
  match hq : decP n 1, hne with
  | c :: l, _ =>
    rw [hq] at ha
    have hc : isDig c = true := by
      unfold allDig at ha
      exact (List.all_eq_true.1 ha) c (by simp)
    have h45 : c ≠ 45 := by rintro rfl; exact absurd hc (by decide)
    simpa using h45
theorem absR_h45 (r : Rat) : (absR r).head? ≠ some 45 := by
  unfold absR
  split
  · have := decP_h45 r.num.natAbs []
    rwa [List.append_nil] at this
  · exact decP_h45 _ _
theorem txtR_head (r : Rat) : (txtR r).head? = some 45 ↔ r.num < 0 := by
  rw [txtR_abs]
  by_cases c : r.num < 0
  · rw [if_pos c]; simp [c]
  · rw [if_neg c]
    exact ⟨fun e => absurd e (absR_h45 r), fun e => absurd e c⟩
theorem unS_txt (r : Rat) : unS (txtR r) = absR r := by
  unfold unS
  by_cases c : r.num < 0
  · rw [if_pos ((txtR_head r).2 c), txtR_abs, if_pos c]; rfl
  · rw [if_neg (fun e => c ((txtR_head r).1 e)), txtR_abs, if_neg c]
theorem absR_abs (r : Rat) : ∃ q : Rat, absR r = txtR q ∧ q.num = r.num.natAbs ∧ q.den = r.den := by
  refine ⟨⟨r.num.natAbs, r.den, r.den_nz, by rw [Int.natAbs_natCast]; exact r.reduced⟩, ?_, rfl, rfl⟩
  unfold absR txtR txtZ
  simp only [Int.natAbs_natCast]
  rw [if_neg (show ¬ ((r.num.natAbs : Nat) : Int) < 0 by omega)]
theorem slash_abs (r : Rat) : slashV (absR r) = (decP r.num.natAbs 1).length := by
  obtain ⟨q, e, e1, e2⟩ := absR_abs r
  rw [e, slash_txt, e1]
  unfold txtZ
  rw [if_neg (by omega), Int.natAbs_natCast]
theorem txtZ_nat (n : Nat) : txtZ (n : Int) = decP n 1 := by unfold txtZ; rw [if_neg (by omega), Int.natAbs_natCast]
theorem numU_txt (r : Rat) : numU (txtR r) = decP r.num.natAbs 1 := by
  unfold numU
  rw [unS_txt, slash_abs]
  unfold absR
  split
  · rw [List.take_length]
  · rw [List.take_left]
theorem denU_txt (r : Rat) : denU (txtR r) = if r.den = 1 then [] else decP r.den 1 := by
  unfold denU
  rw [unS_txt, slash_abs]
  unfold absR
  split
  · rw [List.drop_eq_nil_of_le (by omega)]
  · rw [← List.drop_drop, List.drop_left, txtZ_nat]; rfl
theorem brk_txt (r : Rat) : brk (txtR r) = decide (r.den ≠ 1) := by
  unfold brk
  rw [unS_txt, slash_abs]
  apply decide_eq_decide.2
  unfold absR
  split
  · rename_i h; simp [h]
  · rename_i h; simp [h]
theorem decP_le {n k : Nat} (hk : 1 ≤ k) : (decP n 1).length ≤ k ↔ n < 10 ^ k := by
  constructor
  · intro h
    have := decV_lt (decP_all n 1)
    rw [decP_val] at this
    exact Nat.lt_of_lt_of_le this (Nat.pow_le_pow_right (by decide) h)
  · intro h
    by_cases c : n = 0
    · subst c
      rw [decP_one_small (by decide)]
      show 1 ≤ k
      exact hk
    · have := decP_len (j := k) (n := n) (k := 0) h
      rw [decP_01 (by omega)] at this
      exact this
theorem decP_ge {n : Nat} : (decP n 1).length ≤ 600 ↔ n < 10 ^ 600 := decP_le (by decide)
theorem decP_eq1 {n : Nat} {c : UInt8} (h : decP n 1 = [c]) : n = dV c := by
  have := decP_val n 1
  rw [h] at this
  rw [← this]
  show decF 0 [c] = _
  rw [decF_cons, decF_nil]; omega
theorem formS_of (r : Rat) : formS (txtR r) = true := by
  unfold formS
  rw [numU_txt, denU_txt, brk_txt, decP_isDec]
  have hd := den_pos r
  have h1 : (!(decide ((txtR r).head? = some 45)) || decide (decP r.num.natAbs 1 ≠ [48])) = true := by
    by_cases c : r.num < 0
    · have : decP r.num.natAbs 1 ≠ [48] := by
        intro e
        have := decP_eq1 e
        have e0 : dV 48 = 0 := by decide
        omega
      simp [this]
    · have : ¬ (txtR r).head? = some 45 := fun e => c ((txtR_head r).1 e)
      simp [this]
  rw [h1]
  by_cases c : r.den = 1
  · simp [c]
  · rw [if_neg c, decP_isDec]
    have a1 : decP r.den 1 ≠ [48] := by
      intro e
      have := decP_eq1 e
      have e0 : dV 48 = 0 := by decide
      omega
    have a2 : decP r.den 1 ≠ [49] := by
      intro e
      have := decP_eq1 e
      have e0 : dV 49 = 1 := by decide
      omega
    simp [a1, a2]
theorem checkV_txt (r : Rat) : checkV (txtR r) = if okR r = true then 0 else 4 := by
  unfold checkV
  rw [if_neg (by rw [formS_of]; decide), numU_txt, denU_txt, brk_txt]
  have hg : ¬ (decide (r.den ≠ 1) = true ∧ Nat.gcd (decV (decP r.num.natAbs 1)) (decV (if r.den = 1 then [] else decP r.den 1)) ≠ 1) := by
    rintro ⟨a, b⟩
    have a := of_decide_eq_true a
    rw [if_neg a, decP_val, decP_val] at b
    exact b r.reduced
  rw [if_neg hg]
  have hn := decP_ge (n := r.num.natAbs)
  have hd := decP_ge (n := r.den)
  have h1 : ((if r.den = 1 then [] else decP r.den 1 : List UInt8).length ≤ 600) ↔ r.den < 10 ^ 600 := by
    split
    · rename_i h
      rw [h]
      exact ⟨fun _ => Nat.one_lt_pow (by decide) (by decide), fun _ => by simp⟩
    · exact hd
  unfold okR
  by_cases c1 : r.num.natAbs < 10 ^ 600
  · by_cases c2 : r.den < 10 ^ 600
    · have := hn.2 c1
      have := h1.2 c2
      rw [if_neg (by omega), if_pos (decide_eq_true ⟨c1, c2⟩)]
    · have : 600 < (if r.den = 1 then [] else decP r.den 1 : List UInt8).length := Nat.lt_of_not_le fun e => c2 (h1.1 e)
      rw [if_pos (Or.inr this), if_neg (by rw [decide_eq_true_eq]; exact fun e => c2 e.2)]
  · have : 600 < (decP r.num.natAbs 1).length := Nat.lt_of_not_le fun e => c1 (hn.1 e)
    rw [if_pos (Or.inl this), if_neg (by rw [decide_eq_true_eq]; exact fun e => c1 e.1)]
end
end Go.Ae

