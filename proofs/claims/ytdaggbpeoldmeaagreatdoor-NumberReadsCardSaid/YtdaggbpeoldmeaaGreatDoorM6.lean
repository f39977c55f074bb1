/- Times and tickets, read as they are printed: plain lists of bytes. -/
import Derived.Test.YtdaggbpeoldmeaaGreatDoorM5
set_option linter.unusedVariables false
set_option linter.unusedSimpArgs false
namespace Go.Ae
open N Go.Proofs
/-! Decimal notations. -/
theorem dg_nat (n : Nat) : (dg n).toNat = 48 + n % 10 := by
  unfold dg
  have h : 48 + n % 10 < 256 := by omega
  rw [UInt8.toNat_ofNat']
  omega
theorem dig_dg (n : Nat) : isDig (dg n) = true := by
  unfold isDig; rw [dg_nat]; simp; omega
theorem dV_dg (n : Nat) : dV (dg n) = n % 10 := by unfold dV; rw [dg_nat]; omega
theorem decP_dig : ∀ (m n k : Nat), n + k = m → allDig (decP n k) = true := by
  intro m
  induction m using Nat.strongRecOn with
  | _ m ih =>
    intro n k hm
    by_cases h : n = 0 ∧ k = 0
    · rw [h.1, h.2, decP_zero]; rfl
    · rw [decP_step h]
      have := ih (n / 10 + (k - 1)) (by omega) (n / 10) (k - 1) rfl
      unfold allDig at *
      rw [List.all_append, this]; simp [dig_dg]
theorem decP_all (n k : Nat) : allDig (decP n k) = true := decP_dig _ n k rfl
theorem decF_append (l m : List UInt8) (n : Nat) : decF n (l ++ m) = decF (decF n l) m := by unfold decF; rw [List.foldl_append]
theorem decP_valA : ∀ (m n k : Nat), n + k = m → decV (decP n k) = n := by
  intro m
  induction m using Nat.strongRecOn with
  | _ m ih =>
    intro n k hm
    by_cases h : n = 0 ∧ k = 0
    · rw [h.1, h.2, decP_zero]; rfl
    · rw [decP_step h]
      have := ih (n / 10 + (k - 1)) (by omega) (n / 10) (k - 1) rfl
      unfold decV at *
      rw [decF_append, this, decF_cons, decF_nil, dV_dg]; omega
theorem decP_val (n k : Nat) : decV (decP n k) = n := decP_valA _ n k rfl
theorem decP_len' : ∀ (k n : Nat), n < 10 ^ k → (decP n k).length = k
  | 0, n, h => by
    have : n = 0 := by simpa using h
    subst this; rw [decP_zero]; rfl
  | k + 1, n, h => by
    rw [decP_step (by omega)]
    have := decP_len' k (n / 10) (by rw [Nat.pow_succ] at h; omega)
    simp [this]
theorem decP_one_small {n : Nat} (h : n < 10) : decP n 1 = [dg n] := by rw [decP_step (by omega), show n / 10 = 0 by omega, decP_zero]; rfl
theorem decP_one_big {n : Nat} (h : 10 ≤ n) : decP n 1 = decP (n / 10) 1 ++ [dg n] := by rw [decP_step (by omega)]; rw [show 1 - 1 = 0 from rfl, decP_01 (by omega)]
theorem decP_ne (n : Nat) : decP n 1 ≠ [] := by rw [decP_step (by omega)]; simp
theorem decP_head : ∀ (m n : Nat), n = m → 0 < n → (decP n 1).headD 0 ≠ 48 := by
  intro m
  induction m using Nat.strongRecOn with
  | _ m ih =>
    intro n hm hp
    by_cases h : n < 10
    · rw [decP_one_small h]
      simp only [List.headD_cons]
      intro e
      have := congrArg UInt8.toNat e
      rw [dg_nat] at this
      have h48 : (48 : UInt8).toNat = 48 := rfl
      omega
    · rw [decP_one_big (by omega)]
      have h1 := ih (n / 10) (by omega) (n / 10) rfl (by omega)
      have h2 := decP_ne (n / 10)
      cases hd : decP (n / 10) 1 with
      | nil => exact absurd hd h2
      | cons x l => rw [hd] at h1; exact h1
theorem decP_isDec (n : Nat) : isDec (decP n 1) = true := by
  unfold isDec
  rw [decP_all]
  rcases Nat.eq_zero_or_pos n with rfl | h
  · decide +kernel
  · have := decP_head n n rfl h
    have h2 := decP_ne n
    rw [List.headD_eq_head?_getD] at this
    simp [this, h2]
theorem decP_int {n : Nat} (h : n < 1000000000) : intV (decP n 1) = (n, true) := by
  have hl : (decP n 1).length ≤ 9 := by
    by_cases h0 : n < 10
    · rw [decP_one_small h0]; simp
    · have : decP n 1 = decP n 0 := (decP_01 (by omega)).symm
      rw [this]
      exact decP_len 9 (k := 0) (by omega)
  unfold intV
  rw [if_pos ⟨decP_isDec n, hl⟩]
  rw [show decV (decP n 1) = n from decP_val n 1]
theorem no_dig {l : List UInt8} {c : UInt8} (h : allDig l = true) (hc : isDig c = false) : c ∉ l := by
  intro hm
  have := List.all_eq_true.1 h c hm
  rw [hc] at this; cases this
theorem decP_no {n k : Nat} {c : UInt8} (hc : isDig c = false) : c ∉ decP n k := no_dig (decP_all n k) hc
theorem dig2 {n : Nat} (h : n < 100) : (decide ((decP n 2).length = 2) && allDig (decP n 2)) = true := by
  rw [decP_len' 2 n (by omega), decP_all]; rfl
/-! Times. -/
theorem i46 : isDig 46 = false := by decide
theorem i58 : isDig 58 = false := by decide
theorem i47 : isDig 47 = false := by decide
theorem i32 : isDig 32 = false := by decide
theorem i43 : isDig 43 = false := by decide
theorem two_of {l : List (List UInt8)} (h : ∀ w ∈ l, ∃ n, n < 60 ∧ w = decP n 2) : twoDig l = true := by
  unfold twoDig
  rw [List.all_eq_true]
  intro w hw
  obtain ⟨n, hn, rfl⟩ := h w hw
  exact dig2 (by omega)
theorem d3_ok (t : Nat) : (decP (t % 1000) 3).length = 3 ∧ allDig (decP (t % 1000) 3) = true := ⟨decP_len' 3 _ (by omega), decP_all _ _⟩
theorem len_lt {n j : Nat} (h : n < 10 ^ j) : (decP n 1).length ≤ j + 1 := decP_len j h
theorem read1 {t : Nat} (h : t / 1000 < 60) : refClk (decP (t / 1000) 1 ++ (46 :: decP (t % 1000) 3)) = (t, 0) := by
  have hl := len_lt (n := t / 1000) (j := 2) (by omega)
  obtain ⟨k1, k2⟩ := d3_ok t
  unfold refClk
  rw [if_neg (by simp only [List.length_append, List.length_cons]; omega), splS_some (decP_no i46), splS_none (decP_no i46)]
  simp only [k1, k2, and_self, if_true]
  rw [splS_none (decP_no i58)]
  simp only
  rw [decP_int (by omega)]
  simp only [if_true, show decV (decP (t % 1000) 3) = t % 1000 from decP_val _ _]
  rw [if_neg (by omega)]
  exact Prod.ext (by simp only; omega) rfl
theorem read2 {a : List UInt8} {t : Nat} (ha : a = decP (t / 1000 / 60) 1) (h : t / 1000 < 3600) : refClk (a ++ (58 :: (decP (t / 1000 % 60) 2 ++ (46 :: decP (t % 1000) 3)))) = (t, 0) := by
  have hl := len_lt (n := t / 1000 / 60) (j := 2) (by omega)
  rw [← ha] at hl
  have hl2 := decP_len' 2 (t / 1000 % 60) (by omega)
  obtain ⟨k1, k2⟩ := d3_ok t
  have e : a ++ (58 :: (decP (t / 1000 % 60) 2 ++ (46 :: decP (t % 1000) 3))) = (a ++ 58 :: decP (t / 1000 % 60) 2) ++ 46 :: decP (t % 1000) 3 := by simp
  have n46 : (46 : UInt8) ∉ a ++ 58 :: decP (t / 1000 % 60) 2 := by
    rw [ha]; simp only [List.mem_append, List.mem_cons, not_or]
    exact ⟨decP_no i46, by decide, decP_no i46⟩
  unfold refClk
  rw [e, if_neg (by simp only [List.length_append, List.length_cons]; omega), splS_some n46, splS_none (decP_no i46)]
  simp only [k1, k2, and_self, if_true]
  rw [splS_some (by rw [ha]; exact decP_no i58), splS_none (decP_no i58)]
  simp only
  rw [ha, decP_int (by omega), two_of (by intro w hw; simp only [List.mem_singleton] at hw; exact ⟨_, by omega, hw⟩)]
  simp only [and_self, if_true, show decV (decP (t % 1000) 3) = t % 1000 from decP_val _ _, show decV (decP (t / 1000 % 60) 2) = t / 1000 % 60 from decP_val _ _]
  rw [if_neg (by omega)]
  exact Prod.ext (by simp only; omega) rfl
theorem read3 {t hh mm : Nat} {a b : List UInt8} (hh1 : intV a = (hh, true)) (ha : allDig a = true) (hal : a.length ≤ 3) (hb : b.length = 2 ∧ allDig b = true ∧ decV b = mm) (h : hh ≤ 23 ∧ mm ≤ 59) (ht : t / 1000 / 60 = 60 * hh + mm) :
    refClk (a ++ (58 :: (b ++ (58 :: (decP (t / 1000 % 60) 2 ++ (46 :: decP (t % 1000) 3)))))) = (t, 0) := by
  obtain ⟨b1, b2, b3⟩ := hb
  have hl2 := decP_len' 2 (t / 1000 % 60) (by omega)
  obtain ⟨k1, k2⟩ := d3_ok t
  have e : a ++ (58 :: (b ++ (58 :: (decP (t / 1000 % 60) 2 ++ (46 :: decP (t % 1000) 3))))) = (a ++ 58 :: (b ++ 58 :: decP (t / 1000 % 60) 2)) ++ 46 :: decP (t % 1000) 3 := by simp
  have n46 : (46 : UInt8) ∉ a ++ 58 :: (b ++ 58 :: decP (t / 1000 % 60) 2) := by
    simp only [List.mem_append, List.mem_cons, not_or]
    exact ⟨no_dig ha i46, by decide, no_dig b2 i46, by decide, decP_no i46⟩
  unfold refClk
  rw [e, if_neg (by simp only [List.length_append, List.length_cons]; omega), splS_some n46, splS_none (decP_no i46)]
  simp only [k1, k2, and_self, if_true]
  rw [splS_some (no_dig ha i58), splS_some (no_dig b2 i58), splS_none (decP_no i58)]
  simp only
  have t2 : twoDig [b, decP (t / 1000 % 60) 2] = true := by
    have := dig2 (n := t / 1000 % 60) (by omega)
    simp only [twoDig, List.all_cons, List.all_nil, b1, b2, this]; rfl
  rw [hh1, t2]
  simp only [and_self, if_true, b3, show decV (decP (t % 1000) 3) = t % 1000 from decP_val _ _, show decV (decP (t / 1000 % 60) 2) = t / 1000 % 60 from decP_val _ _]
  rw [if_neg (by omega)]
  exact Prod.ext (by simp only; omega) rfl
theorem read_clock {t : Nat} (h : t ≤ 86399999) : refClk (clockS t) = (t, 0) := by
  unfold clockS
  split
  · exact read1 ‹_›
  · split
    · exact read2 rfl ‹_›
    · refine read3 (hh := t / 1000 / 3600) (mm := t / 1000 / 60 % 60) (decP_int (by omega)) (decP_all _ _) ?_ ⟨decP_len' 2 _ (by omega), decP_all _ _, decP_val _ _⟩ (by omega) (by omega)
      exact len_lt (j := 2) (by omega)
/-- With an hour 0 in front. -/
theorem read_zero {t : Nat} (h1 : 600000 ≤ t) (h2 : t < 3600000) : refClk ([48, 58] ++ clockS t) = (t, 0) := by
  unfold clockS
  rw [if_neg (by omega), if_pos (by omega)]
  have e : ∀ r : List UInt8, [48, 58] ++ r = [48] ++ 58 :: r := fun r => rfl
  rw [e]
  refine read3 (hh := 0) (mm := t / 1000 / 60) (by decide +kernel) (by decide) (by simp) ⟨?_, decP_all _ _, decP_val _ _⟩ (by omega) (by omega)
  have h10 : 10 ≤ t / 1000 / 60 := by omega
  rw [decP_one_big h10, decP_one_small (by omega)]; rfl
theorem clock_inj {a b : Nat} (ha : a ≤ 86399999) (hb : b ≤ 86399999) (h : clockS a = clockS b) : a = b := by
  have := read_clock ha
  rw [h, read_clock hb] at this
  exact (congrArg Prod.fst this).symm
/-! The order of texts. -/
theorem less_app : ∀ {a b c d : List UInt8}, a.length = b.length → Op.bytesLess (a ++ c) (b ++ d) = (Op.bytesLess a b || (a == b && Op.bytesLess c d))
  | [], [], c, d, _ => by simp [Op.bytesLess]
  | [], _ :: _, _, _, h => by simp at h
  | _ :: _, [], _, _, h => by simp at h
  | x :: a, y :: b, c, d, h => by
    have ih := less_app (a := a) (b := b) (c := c) (d := d) (by simpa using h)
    simp only [List.cons_append, Op.bytesLess, ih]
    by_cases hxy : x = y
    · subst hxy
      simp only [beq_self_eq_true, Bool.true_and, List.cons_beq_cons]
      cases decide (x < x) <;> cases Op.bytesLess a b <;> simp
    · have : (x == y) = false := beq_eq_false_iff_ne.2 hxy
      simp [this]
theorem dg_lt {m n : Nat} : (dg m < dg n) ↔ m % 10 < n % 10 := by
  rw [UInt8.lt_iff_toNat_lt, dg_nat, dg_nat]; omega
/-- Of two decimal notations of the same length the lesser number has the lesser one. -/
theorem decP_less : ∀ (s m n k : Nat), m + n + k = s → (decP m k).length = (decP n k).length → Op.bytesLess (decP m k) (decP n k) = decide (m < n) := by
  intro s
  induction s using Nat.strongRecOn with
  | _ s ih =>
    intro m n k hs hl
    by_cases h1 : m = 0 ∧ k = 0
    · obtain ⟨rfl, rfl⟩ := h1
      by_cases h2 : n = 0
      · subst h2; rw [decP_zero]; rfl
      · rw [decP_zero, decP_step (n := n) (k := 0) (by omega)] at hl; simp at hl
    · by_cases h2 : n = 0 ∧ k = 0
      · obtain ⟨rfl, rfl⟩ := h2
        rw [decP_zero, decP_step (n := m) (k := 0) (by omega)] at hl; simp at hl
      · rw [decP_step h1, decP_step h2] at hl ⊢
        have hl' : (decP (m / 10) (k - 1)).length = (decP (n / 10) (k - 1)).length := by simpa using hl
        rw [less_app hl', ih (m / 10 + n / 10 + (k - 1)) (by omega) (m / 10) (n / 10) (k - 1) rfl hl']
        have e : (decP (m / 10) (k - 1) == decP (n / 10) (k - 1)) = decide (m / 10 = n / 10) := by
          by_cases hq : m / 10 = n / 10
          · rw [hq]; simp
          · have : decP (m / 10) (k - 1) ≠ decP (n / 10) (k - 1) := fun h => hq (by have := congrArg decV h; rwa [decP_val, decP_val] at this)
            simp [this, hq]
        rw [e]
        have e2 : Op.bytesLess [dg m] [dg n] = decide (m % 10 < n % 10) := by
          simp only [Op.bytesLess, Bool.and_false, Bool.or_false]
          exact decide_eq_decide.2 dg_lt
        rw [e2]
        by_cases a1 : m / 10 < n / 10
        · simp [a1]; omega
        · by_cases a2 : m / 10 = n / 10
          · simp [a2]; omega
          · simp [a1, a2]; omega
theorem decP_less' {m n k : Nat} (hl : (decP m k).length = (decP n k).length) : Op.bytesLess (decP m k) (decP n k) = decide (m < n) := decP_less _ m n k rfl hl
theorem decP_beq {m n k : Nat} : (decP m k == decP n k) = decide (m = n) := by
  by_cases hq : m = n
  · rw [hq]; simp
  · have : decP m k ≠ decP n k := fun h => hq (by have := congrArg decV h; rwa [decP_val, decP_val] at this)
    simp [this, hq]
theorem less_cons {c : UInt8} {a b : List UInt8} : Op.bytesLess (c :: a) (c :: b) = Op.bytesLess a b := by simp [Op.bytesLess]
theorem one_len {n : Nat} (h : n < 60) : 1 ≤ (decP n 1).length ∧ (decP n 1).length ≤ 2 := by
  by_cases h0 : n < 10
  · rw [decP_one_small h0]; simp
  · rw [decP_one_big (by omega), decP_one_small (by omega)]; simp
theorem clock_less {s t : Nat} (hs : s < 3600000) (ht : t < 3600000) (hl : (clockS s).length = (clockS t).length) : Op.bytesLess (clockS s) (clockS t) = decide (s < t) := by
  have a3 := decP_len' 3 (s % 1000) (by omega)
  have b3 := decP_len' 3 (t % 1000) (by omega)
  have a2 := decP_len' 2 (s / 1000 % 60) (by omega)
  have b2 := decP_len' 2 (t / 1000 % 60) (by omega)
  unfold clockS at *
  by_cases c1 : s / 1000 < 60
  · have l1 := one_len c1
    by_cases c2 : t / 1000 < 60
    · have l2 := one_len c2
      rw [if_pos c1, if_pos c2] at *
      have hd : (decP (s / 1000) 1).length = (decP (t / 1000) 1).length := by simp only [List.length_append, List.length_cons, a3, b3] at hl; omega
      rw [less_app hd, decP_less' hd, decP_beq, less_cons, decP_less' (by rw [a3, b3])]
      by_cases q1 : s / 1000 < t / 1000
      · simp [q1]; omega
      · by_cases q2 : s / 1000 = t / 1000
        · simp [q2]; omega
        · simp [q1, q2]; omega
    · exfalso
      rw [if_pos c1, if_neg c2, if_pos (by omega)] at hl
      have l2 := one_len (n := t / 1000 / 60) (by omega)
      simp only [List.length_append, List.length_cons, a3, b3, b2] at hl; omega
  · have l1 := one_len (n := s / 1000 / 60) (by omega)
    by_cases c2 : t / 1000 < 60
    · exfalso
      have l2 := one_len c2
      rw [if_neg c1, if_pos c2, if_pos (by omega)] at hl
      simp only [List.length_append, List.length_cons, a3, b3, a2] at hl; omega
    · have l2 := one_len (n := t / 1000 / 60) (by omega)
      rw [if_neg c1, if_neg c2, if_pos (by omega), if_pos (by omega)] at *
      have hd : (decP (s / 1000 / 60) 1).length = (decP (t / 1000 / 60) 1).length := by simp only [List.length_append, List.length_cons, a3, b3, a2, b2] at hl; omega
      rw [less_app hd, decP_less' hd, decP_beq, less_cons, less_app (by rw [a2, b2]), decP_less' (by rw [a2, b2]), decP_beq, less_cons, decP_less' (by rw [a3, b3])]
      by_cases q1 : s / 1000 / 60 < t / 1000 / 60
      · simp [q1]; omega
      · by_cases q2 : s / 1000 / 60 = t / 1000 / 60
        · by_cases q3 : s / 1000 % 60 < t / 1000 % 60
          · simp [q2, q3]; omega
          · by_cases q4 : s / 1000 % 60 = t / 1000 % 60
            · simp [q2, q4]; omega
            · simp [q2, q3, q4]; omega
        · simp [q1, q2]; omega
end Go.Ae


/- Tickets, read as they are printed: plain lists of bytes. -/
set_option linter.unusedVariables false
set_option linter.unusedSimpArgs false
namespace Go.Ae
open N Go.Proofs
abbrev sl3 : List UInt8 := [32, 47, 32]
theorem occ_no {s : List UInt8} {j : Nat} (h : s[j + 1]? ≠ some 47) : Lib.occAt s sl3 j = false := by
  cases ho : Lib.occAt s sl3 j with
  | false => rfl
  | true => exact absurd (Lib.occAt_second rfl ho) h
theorem spl_join : ∀ (W : List (List UInt8)), W ≠ [] → (∀ w ∈ W, (47 : UInt8) ∉ w) → splGo sl3 (Lib.join W sl3) 0 0 = W
  | [], h, _ => absurd rfl h
  | [x], _, hn => by
    rw [Lib.join_one]
    have h47 := hn x (by simp)
    exact spl_noneG (by simp) _ 0 0 rfl fun j _ => occ_no fun e => h47 (List.mem_of_getElem? e)
  | x :: y :: r, _, hn => by
    have h47 := hn x (by simp)
    have ih := spl_join (y :: r) (by simp) (fun w hw => hn w (List.mem_cons_of_mem _ hw))
    have e : Lib.join (x :: y :: r) sl3 = x ++ (sl3 ++ Lib.join (y :: r) sl3) := by
      rw [Lib.join_cons, Lib.join_cons]; simp [Lib.joinTail]
    rw [e]
    have ho : Lib.occAt (x ++ (sl3 ++ Lib.join (y :: r) sl3)) sl3 x.length = true := by
      unfold Lib.occAt
      rw [List.drop_left, List.isPrefixOf_iff_prefix]
      exact List.prefix_append _ _
    have hno : ∀ m, 0 ≤ m → m < x.length → Lib.occAt (x ++ (sl3 ++ Lib.join (y :: r) sl3)) sl3 m = false := fun m _ hm => by
      refine occ_no fun e => ?_
      rcases Nat.lt_or_ge (m + 1) x.length with c | c
      · rw [List.getElem?_append_left c] at e
        exact h47 (List.mem_of_getElem? e)
      · rw [List.getElem?_append_right c, show m + 1 - x.length = 0 by omega] at e
        simp at e
    rw [spl_someG (by simp) _ 0 x.length 0 rfl (Nat.zero_le _) ho hno]
    have sh := splGo_shift (sep := sl3) (s := x ++ (sl3 ++ Lib.join (y :: r) sl3)) (j := x.length + 3) (by simp) _ 0 0 rfl
    simp only [Nat.add_zero] at sh
    rw [show x.length + sl3.length = x.length + 3 from rfl, sh]
    have d : (x ++ (sl3 ++ Lib.join (y :: r) sl3)).drop (x.length + 3) = Lib.join (y :: r) sl3 := by
      rw [← List.drop_drop, List.drop_left]; rfl
    rw [d, ih]
    congr 1
    simp
theorem att_no {c d : UInt8} {n : Int} (h1 : d ≠ 45) (h2 : d ≠ c) (h3 : isDig d = false) : d ∉ attS c n := by
  unfold attS
  split
  · simpa using h1
  · simp only [List.mem_cons, not_or]; exact ⟨h2, decP_no h3⟩
theorem s_no47 {k : Tk} (h : k.e = 0) : (47 : UInt8) ∉ k.s := by
  unfold Tk.s txtS
  rcases e_zero h with ⟨h1, _, _⟩ | ⟨h1, _⟩
  · rw [if_pos h1]
    unfold leadS
    split
    · decide
    · split
      · simp only [List.mem_append, List.mem_singleton, not_or]; exact ⟨decP_no i47, by decide⟩
      · exact decP_no i47
  · rw [if_neg h1]
    unfold boulS
    simp only [List.mem_append, List.mem_singleton, not_or]
    exact ⟨⟨att_no (by decide) (by decide) i47, by decide⟩, att_no (by decide) (by decide) i47⟩
theorem s_ne {k : Tk} : k.s ≠ [] := by
  unfold Tk.s txtS
  split
  · unfold leadS
    split
    · simp
    · split
      · simp
      · exact decP_ne _
  · unfold boulS; simp
theorem try_att {c : UInt8} {n : Int} (hc : c ≠ 45) (hn : 0 ≤ n ∧ n ≤ 99) : tryV c (attS c n) = (n.toNat, true) := by
  unfold attS
  by_cases h0 : n = 0
  · rw [if_pos h0, h0]; unfold tryV; rw [if_pos rfl]; rfl
  · rw [if_neg h0]
    have hp : Lib.hasPrefix (c :: decP n.toNat 1) [c] = true := by simp [Lib.hasPrefix, List.isPrefixOf]
    have ht : Lib.trimPrefix (c :: decP n.toNat 1) [c] = decP n.toNat 1 := by unfold Lib.trimPrefix; rw [if_pos hp]; rfl
    unfold tryV
    rw [if_neg (by intro e; exact hc (List.cons.inj e).1), ht, hp, decP_int (by omega)]
    have : 0 < n.toNat := by omega
    simp [this]
/-- A ticket is read as it is printed. -/
theorem rd_s {k : Tk} (h : k.e = 0) : rdV k.s = (k, true) := by
  have h' := h
  unfold Tk.e chkE at h'
  rcases e_zero h with ⟨h1, h2, h3⟩ | ⟨h1, h2, h3, h4, h5, h6⟩
  · rw [if_pos h1] at h'
    obtain ⟨d, n, p, t, z⟩ := k
    simp only at h1 h2 h3 h'
    subst h1
    unfold leadE at h'
    split at h'
    · cases h'
    rename_i g1
    split at h'
    · cases h'
    rename_i g2
    have hz : z = 0 := by omega
    subst hz
    have es : Tk.s ⟨leadW, n, p, t, 0⟩ = leadS n p t := by unfold Tk.s txtS; exact if_pos rfl
    rw [es]
    unfold leadS
    by_cases ht : t = 1
    · rw [if_pos ht]
      subst ht
      have hn : n = 0 := by omega
      have hp : p = false := by cases p with | false => rfl | true => exact absurd ⟨rfl, .inl rfl⟩ g2
      subst hn; subst hp
      exact if_pos rfl
    · rw [if_neg ht]
      have ht0 : t = 0 := by omega
      subst ht0
      have hi : intV (decP n.toNat 1) = (n.toNat, true) := decP_int (by omega)
      have hcast : ((n.toNat : Nat) : Int) = n := by omega
      cases p with
      | true =>
        rw [if_pos rfl]
        unfold rdV
        have h84 : ¬ decP n.toNat 1 ++ [43] = [84, 79, 80] := by
          intro e
          have : (80 : UInt8) ∈ decP n.toNat 1 ++ [43] := by rw [e]; simp
          simp only [List.mem_append, List.mem_singleton] at this
          rcases this with this | this
          · exact decP_no (c := 80) (by decide) this
          · cases this
        have h32 : (32 : UInt8) ∉ decP n.toNat 1 ++ [43] := by
          simp only [List.mem_append, List.mem_singleton, not_or]; exact ⟨decP_no i32, by decide⟩
        rw [if_neg h84, cut_noneC h32]
        have hs : Lib.hasSuffix (decP n.toNat 1 ++ [43]) [43] = true := by rw [suffix_last]; simp [lastP]
        have hts : Lib.trimSuffix (decP n.toNat 1 ++ [43]) [43] = decP n.toNat 1 := by unfold Lib.trimSuffix; rw [if_pos hs]; simp
        simp only [Bool.false_eq_true, if_false, hs, hts, hi, hcast]
      | false =>
        rw [if_neg (by decide)]
        unfold rdV
        have h84 : ¬ decP n.toNat 1 = [84, 79, 80] := by
          intro e
          have : (80 : UInt8) ∈ decP n.toNat 1 := by rw [e]; simp
          exact decP_no (c := 80) (by decide) this
        rw [if_neg h84, cut_noneC (decP_no i32)]
        have hs : Lib.hasSuffix (decP n.toNat 1) [43] = false := by
          cases hh : Lib.hasSuffix (decP n.toNat 1) [43] with
          | false => rfl
          | true =>
            unfold Lib.hasSuffix at hh
            rw [List.isSuffixOf_iff_suffix] at hh
            obtain ⟨m, hm⟩ := hh
            exact absurd (show (43 : UInt8) ∈ decP n.toNat 1 by rw [← hm]; simp) (decP_no i43)
        have hts : Lib.trimSuffix (decP n.toNat 1) [43] = decP n.toNat 1 := by unfold Lib.trimSuffix; rw [hs]; rfl
        simp only [Bool.false_eq_true, if_false, hs, hts, hi, hcast]
  · rw [if_neg h1, if_pos h2] at h'
    obtain ⟨d, n, p, t, z⟩ := k
    simp only at h1 h2 h3 h4 h5 h6 h'
    subst h2
    unfold boulE at h'
    split at h'
    · cases h'
    rename_i g1
    split at h'
    · cases h'
    rename_i g2
    have hn : n = 0 := by omega
    have hp : p = false := by cases p with | false => rfl | true => exact absurd (.inl rfl) g2
    subst hn; subst hp
    have es : Tk.s ⟨boulW, 0, false, t, z⟩ = boulS t z := by unfold Tk.s txtS; exact if_neg h1
    rw [es]
    unfold boulS rdV
    have e : attS 84 t ++ [32] ++ attS 90 z = attS 84 t ++ 32 :: attS 90 z := by simp
    have h84 : ¬ attS 84 t ++ 32 :: attS 90 z = [84, 79, 80] := by
      intro e
      have : (32 : UInt8) ∈ attS 84 t ++ 32 :: attS 90 z := by simp
      rw [e] at this; revert this; decide
    rw [e, if_neg h84, cut_someC (att_no (by decide) (by decide) i32)]
    simp only [if_true, try_att (c := 84) (by decide) ⟨h3, h4⟩, try_att (c := 90) (by decide) ⟨h5, h6⟩, Bool.and_self]
    have c1 : ((t.toNat : Nat) : Int) = t := by omega
    have c2 : ((z.toNat : Nat) : Int) = z := by omega
    rw [c1, c2]
theorem goE_kind {d0 : List UInt8} : ∀ {l : List Tk}, goE d0 l = 0 → ∀ k ∈ l, k.e = 0 ∧ k.d = d0
  | [], _, k, hk => by cases hk
  | x :: l, h, k, hk => by
    rw [goE] at h
    by_cases hz : kindE d0 x = 0
    · rw [if_pos hz] at h
      rcases List.mem_cons.1 hk with rfl | hk
      · exact kind_zero hz
      · exact goE_kind h k hk
    · rw [if_neg hz] at h; exact absurd h hz
theorem parse_print : ∀ (l : List Tk) (i : Nat) (out : List Tk) (d0 : List UInt8), out.length = i → (i = 0 ∨ headD out = d0) → i + l.length ≤ 256 → (∀ k ∈ l, k.e = 0 ∧ k.d = d0) → parseGo i out (l.map Tk.s) = (out ++ l, 0, 0)
  | [], i, out, d0, _, _, _, _ => by simp [parseGo]
  | k :: l, i, out, d0, hi, hh, hl, hk => by
    obtain ⟨k1, k2⟩ := hk k (by simp)
    simp only [List.length_cons] at hl
    have hr := rd_s k1
    have he : errV i out k.s = 0 := by
      unfold errV first4
      rw [hr]
      simp only [if_true]
      rw [if_neg (show ¬ 256 ≤ i by omega), if_pos rfl, k1, if_pos rfl]
      refine if_neg (fun e => ?_)
      rcases hh with hh | hh
      · omega
      · exact e.2 (by rw [hh, k2])
    rw [List.map_cons, parseGo, he, if_neg (by decide), hr]
    simp only
    rw [parse_print l (i + 1) (out ++ [k]) d0 (by simp [hi]) (.inr ?_) (by omega) (fun x hx => hk x (List.mem_cons_of_mem _ hx))]
    · simp
    · cases out with
      | nil => exact k2
      | cons y r =>
        rcases hh with hh | hh
        · subst hh; simp at hi
        · exact hh
theorem parse_join {l : List Tk} (hA : allE l = 0) (hl : l.length ≤ 12) : parseV (joinT l) = (l, 0, 0) ∧ (joinT l).length ≤ 1000 := by
  obtain ⟨hne, _, hz⟩ := allE_zero hA
  have hk : ∀ k ∈ l, k.e = 0 ∧ k.d = headD l := by
    unfold allE at hA
    rw [if_neg hne, if_neg (by omega)] at hA
    exact goE_kind hA
  have hjl := join_len (sep := [32, 47, 32]) (l := l.map Tk.s) (B := 62) (fun w hw => by
    rw [List.mem_map] at hw
    obtain ⟨k, hk, rfl⟩ := hw
    exact s_len (hz k hk))
  have hjb : (joinT l).length ≤ 1000 := by
    unfold joinT
    simp only [List.length_map, List.length_cons, List.length_nil] at hjl
    omega
  refine ⟨?_, hjb⟩
  have hj0 : joinT l ≠ [] := by
    cases l with
    | nil => exact absurd rfl hne
    | cons k r =>
      unfold joinT
      rw [List.map_cons, Lib.join_cons]
      intro e
      exact s_ne (List.append_eq_nil_iff.1 e).1
  unfold parseV
  rw [if_neg (by omega), if_neg hj0, wordsB_eq (by simp)]
  have : splGo [32, 47, 32] (joinT l) 0 0 = l.map Tk.s := spl_join (l.map Tk.s) (by simpa using hne) (fun w hw => by
    rw [List.mem_map] at hw
    obtain ⟨k, hk, rfl⟩ := hw
    exact s_no47 (hz k hk))
  rw [this, parse_print l 0 [] (headD l) rfl (.inl rfl) (by omega) hk]
  simp
end Go.Ae


/- Further functions of the program, as code of the abstract evaluator (printed by mkX.py). -/
set_option maxRecDepth 100000
namespace Go.Ae.TR
open AOp Opd C
def a9 : AFn := ⟨180, [.tmp 4], (.seq (.reg [o 2 (.box (.t 0)),o 4 (.mv (.k (.bool false)))])
  (.seq (.seq (.reg [o 20 (.callF 17 []),o 21 (.un .not (.t 20)),o 22 (m 21),g 23 (.iadrA 1 2 (.t 2) (.k (.int .i64 0))) 22 false,g 24 (.load false 1 (.t 23)) 22 false,g 25 (.bin .lss .none (.t 24) (.k (.int .i64 0))) 22 false,o 26 (.pick (.t 22) (.k (.bool true)) (.t 25)),o 27 (m 26),g 28 (.iadrA 1 2 (.t 2) (.k (.int .i64 0))) 27 false,g 29 (.load false 1 (.t 28)) 27 false,g 30 (.bin .gtr .none (.t 29) (.k (.int .i64 86399999))) 27 false,o 31 (.pick (.t 27) (.k (.bool true)) (.t 30)),o 32 (m 31),g 33 (.iadrA 1 2 (.t 2) (.k (.int .i64 1))) 32 false,g 34 (.load false 1 (.t 33)) 32 false,g 35 (.bin .lss .none (.t 34) (.k (.int .i64 0))) 32 false,o 36 (.pick (.t 32) (.k (.bool true)) (.t 35)),o 37 (m 36),g 38 (.iadrA 1 2 (.t 2) (.k (.int .i64 1))) 37 false,g 39 (.load false 1 (.t 38)) 37 false,g 40 (.bin .gtr .none (.t 39) (.k (.int .i64 86399999))) 37 false,o 41 (.pick (.t 37) (.k (.bool true)) (.t 40)),o 42 (m 41),g 43 (m 1) 42 false,g 44 (.len .slice (.t 43)) 42 false,g 45 (.bin .gtr .none (.t 44) (.k (.int .i64 12))) 42 false,o 46 (.pick (.t 42) (.k (.bool true)) (.t 45)),o 47 (m 46),g 48 (m 1) 47 false,g 49 (.callF 50 [(.t 48)]) 47 false,g 50 (.callF 49 [(.t 49)]) 47 false,g 51 (.bin .neq .none (.t 50) (.k (.int .i64 0))) 47 false,o 52 (.pick (.t 47) (.k (.bool true)) (.t 51))])
   (.cond (.t 52) (.seq (.reg [o 53 (.callF 17 []),o 4 (m 53)])
    .ret)
   .skip))
  (.seq (.reg [o 55 (.iadrA 1 2 (.t 2) (.k (.int .i64 0))),o 56 (.load false 1 (.t 55)),o 57 (.callF 40 [(.t 56)]),o 54 (m 57),o 58 (.ext (.t 54) 0),o 59 (.ext (.t 54) 1),o 5 (m 58),o 6 (m 59)])
  (.seq (.reg [o 61 (.iadrA 1 2 (.t 2) (.k (.int .i64 1))),o 62 (.load false 1 (.t 61)),o 63 (.callF 40 [(.t 62)]),o 60 (m 63),o 64 (.ext (.t 60) 0),o 65 (.ext (.t 60) 1),o 7 (m 64),o 8 (m 65)])
  (.seq (.reg [o 67 (m 5),o 68 (.callF 43 [(.t 67)]),o 66 (m 68),o 69 (.ext (.t 66) 0),o 70 (.ext (.t 66) 1),o 9 (m 69),o 10 (m 70)])
  (.seq (.seq (.reg [o 71 (m 6),o 72 (m 8),o 73 (.bin .add .none (.t 71) (.t 72)),o 74 (m 10),o 75 (.bin .add .none (.t 73) (.t 74)),o 76 (.bin .neq .none (.t 75) (.k (.int .i64 0))),o 77 (m 76),g 78 (m 9) 77 false,g 79 (.iadrA 1 2 (.t 2) (.k (.int .i64 0))) 77 false,g 80 (.load false 1 (.t 79)) 77 false,g 81 (.bin .neq .none (.t 78) (.t 80)) 77 false,o 82 (.pick (.t 77) (.k (.bool true)) (.t 81)),o 83 (m 82),g 84 (.iadrA 1 2 (.t 2) (.k (.int .i64 0))) 83 false,g 85 (.load false 1 (.t 84)) 83 false,g 86 (.iadrA 1 2 (.t 2) (.k (.int .i64 1))) 83 false,g 87 (.load false 1 (.t 86)) 83 false,g 88 (.bin .eql .none (.t 85) (.t 87)) 83 false,g 89 (m 5) 83 false,g 90 (m 7) 83 false,g 91 (.bin .eql .none (.t 89) (.t 90)) 83 false,g 92 (.bin .neq .bool (.t 88) (.t 91)) 83 false,o 93 (.pick (.t 83) (.k (.bool true)) (.t 92))])
   (.cond (.t 93) (.seq (.reg [o 4 (.mv (.k (.bool false)))])
    .ret)
   .skip))
  (.seq (.seq (.reg [o 94 (m 5),o 95 (.len .str (.t 94)),o 96 (m 7),o 97 (.len .str (.t 96)),o 98 (.bin .eql .none (.t 95) (.t 97)),o 99 (m 98),g 100 (.iadrA 1 2 (.t 2) (.k (.int .i64 0))) 99 true,g 101 (.load false 1 (.t 100)) 99 true,g 102 (.bin .lss .none (.t 101) (.k (.int .i64 3600000))) 99 true,o 103 (.pick (.t 99) (.t 102) (.k (.bool false))),o 104 (m 103),g 105 (.iadrA 1 2 (.t 2) (.k (.int .i64 1))) 104 true,g 106 (.load false 1 (.t 105)) 104 true,g 107 (.bin .lss .none (.t 106) (.k (.int .i64 3600000))) 104 true,o 108 (.pick (.t 104) (.t 107) (.k (.bool false))),o 109 (m 108),g 110 (.iadrA 1 2 (.t 2) (.k (.int .i64 0))) 109 true,g 111 (.load false 1 (.t 110)) 109 true,g 112 (.iadrA 1 2 (.t 2) (.k (.int .i64 1))) 109 true,g 113 (.load false 1 (.t 112)) 109 true,g 114 (.bin .lss .none (.t 111) (.t 113)) 109 true,g 115 (m 5) 109 true,g 116 (m 7) 109 true,g 117 (.bin .lss .none (.t 115) (.t 116)) 109 true,g 118 (.bin .neq .bool (.t 114) (.t 117)) 109 true,o 119 (.pick (.t 109) (.t 118) (.k (.bool false)))])
   (.cond (.t 119) (.seq (.reg [o 4 (.mv (.k (.bool false)))])
    .ret)
   .skip))
  (.seq (.seq (.reg [o 120 (.iadrA 1 2 (.t 2) (.k (.int .i64 0))),o 121 (.load false 1 (.t 120)),o 122 (.bin .lss .none (.t 121) (.k (.int .i64 3600000))),o 123 (m 122),g 124 (.iadrA 1 2 (.t 2) (.k (.int .i64 0))) 123 true,g 125 (.load false 1 (.t 124)) 123 true,g 126 (.bin .geq .none (.t 125) (.k (.int .i64 600000))) 123 true,o 127 (.pick (.t 123) (.t 126) (.k (.bool false)))])
   (.cond (.t 127) (.seq (.reg [o 129 (m 5),o 130 (.bin .add .none (.k (.str [48, 58])) (.t 129)),o 131 (.callF 43 [(.t 130)]),o 128 (m 131),o 132 (.ext (.t 128) 0),o 133 (.ext (.t 128) 1),o 11 (m 132),o 12 (m 133)])
    (.seq (.reg [o 134 (m 12),o 135 (.bin .neq .none (.t 134) (.k (.int .i64 0))),o 136 (m 135),g 137 (m 11) 136 false,g 138 (m 9) 136 false,g 139 (.bin .neq .none (.t 137) (.t 138)) 136 false,o 140 (.pick (.t 136) (.k (.bool true)) (.t 139))])
    (.cond (.t 140) (.seq (.reg [o 4 (.mv (.k (.bool false)))])
     .ret)
    .skip)))
   .skip))
  (.seq (.reg [o 142 (m 1),o 143 (.callF 48 [(.t 142)]),o 141 (m 143),o 144 (.ext (.t 141) 0),o 145 (.ext (.t 141) 1),o 13 (m 144),o 14 (m 145)])
  (.seq (.reg [o 147 (m 13),o 148 (.callF 52 [(.t 147)]),o 146 (m 148),o 149 (.ext (.t 146) 0),o 150 (.ext (.t 146) 1),o 151 (.ext (.t 146) 2),o 15 (m 149),o 16 (m 150),o 17 (m 151)])
  (.seq (.seq (.reg [o 152 (m 14),o 153 (m 17),o 154 (.bin .add .none (.t 152) (.t 153)),o 155 (.bin .neq .none (.t 154) (.k (.int .i64 0))),o 156 (m 155),g 157 (m 16) 156 false,g 158 (.bin .neq .none (.t 157) (.k (.int .i64 0))) 156 false,o 159 (.pick (.t 156) (.k (.bool true)) (.t 158)),o 160 (m 159),g 161 (m 15) 160 false,g 162 (.callF 50 [(.t 161)]) 160 false,g 163 (m 1) 160 false,g 164 (.callF 50 [(.t 163)]) 160 false,g 165 (.callF 54 [(.t 162), (.t 164)]) 160 false,g 166 (.un .not (.t 165)) 160 false,o 167 (.pick (.t 160) (.k (.bool true)) (.t 166))])
   (.cond (.t 167) (.seq (.reg [o 4 (.mv (.k (.bool false)))])
    .ret)
   .skip))
  (.seq (.reg [o 169 (m 15),o 170 (.callF 48 [(.t 169)]),o 168 (m 170),o 171 (.ext (.t 168) 0),o 172 (.ext (.t 168) 1),o 18 (m 171),o 19 (m 172)])
  (.seq (.reg [o 173 (m 19),o 174 (.bin .eql .none (.t 173) (.k (.int .i64 0))),o 175 (m 174),g 176 (m 13) 175 true,g 177 (m 18) 175 true,g 178 (.bin .eql .none (.t 176) (.t 177)) 175 true,o 179 (.pick (.t 175) (.t 178) (.k (.bool false))),o 4 (m 179)])
  .ret)))))))))))))⟩
def tab : T AFn := (.node (.node .nil none (.node (.node .nil (some a9) .nil) none .nil)) none .nil)
section
open Go.Proofs
theorem b9 : Chk 9 a9 := by unfold Chk; kernel_rfl
theorem all : T.Forall Chk tab (fun n => n) := ⟨C.no, ⟨C.no, trivial, ⟨C.no, ⟨C.yes b9, trivial, trivial⟩, trivial⟩⟩, trivial⟩
theorem good (n : Nat) (a : AFn) (h : tab.get n = some a) : chk Tryz.prog n = some a := T.get_forall tab (fun n => n) all n a h
end
end Go.Ae.TR


/- Times and tickets, read as they are printed: the law. -/
set_option linter.unusedVariables false
set_option linter.unusedSimpArgs false
set_option maxRecDepth 100000
namespace Go.Ae
open N Go.Proofs
noncomputable def E6 : Env := E5.add TR.tab
theorem ge6 : Ge E5 E6 := Ge.add _ _
section
variable {h : Hp} {K : AV → Hp → Prop}
theorem u6 {f : Nat} {args : List AV} {h' : Hp} {v : AV} (hc : ∀ K, CallWp E2 f args h K ↔ K v h') : CallWp E6 f args h K ↔ K v h' := up (ge5.trans ge6) hc
theorem gu6 {f : Nat} {args : List AV} {v : AV} (hc : Gv E2 f args h v) : Gv E6 f args h v := hc.ge fun _ _ _ hk => hk.ge (ge5.trans ge6)
theorem gu56 {f : Nat} {args : List AV} {v : AV} (hc : Gv E5 f args h v) : Gv E6 f args h v := hc.ge fun _ _ _ hk => hk.ge ge6
theorem gp6 {f : Nat} {args : List AV} {p : AV → Hp → Prop} (hc : Gp E2 f args h p) : Gp E6 f args h p := by
  obtain ⟨v, h', h1, h2, h3⟩ := hc
  exact ⟨v, h', h1.ge (ge5.trans ge6), h2, h3⟩
theorem gp56 {f : Nat} {args : List AV} {p : AV → Hp → Prop} (hc : Gp E5 f args h p) : Gp E6 f args h p := by
  obtain ⟨v, h', h1, h2, h3⟩ := hc
  exact ⟨v, h', h1.ge ge6, h2, h3⟩
theorem b_slss {q : EqK} {l l' : List UInt8} : binA .lss q (.str l) (.str l') = some (.bool (Op.bytesLess l l')) := rfl
theorem clock_len {t : Nat} (h : t ≤ 86399999) : (clockS t).length ≤ 24 := by
  have := read_clock h
  unfold refClk at this
  by_cases hl : 24 < (clockS t).length
  · rw [if_pos hl] at this; cases this
  · omega
/-- The second half: tickets. -/
theorem tail9 {hp : Hp} {tm : T AV} {v : AV} {l : List Tk} (hS : RowS 5 h v l.length (l.flatMap Tk.l)) (hl : l.length ≤ 12) (hA : allE l = 0) (hG : Grs h hp) (t1 : val tm (.t 1) = v) :
    Wp E6 (TR.a9.code.post 8) ⟨tm, hp⟩ (RetQ [.tmp 4] fun v' h' => v' = .bool true ∧ Grs h h') := by
  unfold TR.a9
  dsimp only [ACode.post]
  obtain ⟨pj, hj⟩ := parse_join hA hl
  have pr : prS l = (joinT l, 0) := if_pos hA
  have hS1 := hS.grs hG
  repeat' (with_reducible first | simp (disch := first | assumption | omega | (simp only [go_sem, ne_eq, Nat.reduceAdd, Nat.reduceLeDiff] <;> omega) | fail) only [go_sem, ↓reduceIte, Nat.reduceEqDiff, Nat.reduceAdd, Nat.reduceBEq, Nat.reduceLeDiff, Nat.reduceMul, Nat.reduceLT, Int.reduceToNat, reduceCtorEq, Int.reduceAdd, Int.reduceSub, Int.reduceMul, Int.reduceNeg, Int.reduceLT, Int.reduceLE, Int.reduceEq, t1, pr] | (refine Gv.wp (gu6 (c48 hS1 (by omega))) fun _ _ _ _ => ?_) | ((first | apply k1 | apply k2 | apply k3 | apply k4 | apply k5 | apply k6 | apply k7) <;> intro hc))
  refine Gp.wp (gp6 (c52 (by omega))) fun w2 h2 k2 j2 g2 ⟨v2, e2, R2⟩ => ?_
  rw [pj] at e2 R2
  subst e2
  simp only at R2
  repeat' (with_reducible first | simp (disch := first | assumption | omega | (simp only [go_sem, ne_eq, Nat.reduceAdd, Nat.reduceLeDiff] <;> omega) | fail) only [go_sem, ↓reduceIte, Nat.reduceEqDiff, Nat.reduceAdd, Nat.reduceBEq, Nat.reduceLeDiff, Nat.reduceMul, Nat.reduceLT, Int.reduceToNat, reduceCtorEq, Int.reduceAdd, Int.reduceSub, Int.reduceMul, Int.reduceNeg, Int.reduceLT, Int.reduceLE, Int.reduceEq, t1] | ((first | apply k1 | apply k2 | apply k3 | apply k4 | apply k5 | apply k6 | apply k7) <;> intro hc))
  refine Gp.wp (gp56 (r50 R2 (by omega))) fun w4 h4 k4 j4 g4 R4 => ?_
  have R2' := R2.ov (g := g4)
  have hS2 : RowS 5 ((((hp.ov _ _).ov h2 g2)).ov h4 g4) v l.length (l.flatMap Tk.l) := ((hS1.ov).ov).ov
  repeat' (with_reducible first | simp (disch := first | assumption | omega | (simp only [go_sem, ne_eq, Nat.reduceAdd, Nat.reduceLeDiff] <;> omega) | fail) only [go_sem, ↓reduceIte, Nat.reduceEqDiff, Nat.reduceAdd, Nat.reduceBEq, Nat.reduceLeDiff, Nat.reduceMul, Nat.reduceLT, Int.reduceToNat, reduceCtorEq, Int.reduceAdd, Int.reduceSub, Int.reduceMul, Int.reduceNeg, Int.reduceLT, Int.reduceLE, Int.reduceEq, t1] | ((first | apply k1 | apply k2 | apply k3 | apply k4 | apply k5 | apply k6 | apply k7) <;> intro hc))
  refine Gp.wp (gp56 (r50 hS2 (by omega))) fun w5 h5 k5 j5 g5 R5 => ?_
  have R4' := R4.ov (g := g5)
  have R2'' := R2'.ov (g := g5)
  repeat' (with_reducible first | simp (disch := first | assumption | omega | (simp only [go_sem, ne_eq, Nat.reduceAdd, Nat.reduceLeDiff] <;> omega) | fail) only [go_sem, ↓reduceIte, Nat.reduceEqDiff, Nat.reduceAdd, Nat.reduceBEq, Nat.reduceLeDiff, Nat.reduceMul, Nat.reduceLT, Int.reduceToNat, reduceCtorEq, Int.reduceAdd, Int.reduceSub, Int.reduceMul, Int.reduceNeg, Int.reduceLT, Int.reduceLE, Int.reduceEq, t1, pr] | (refine Gv.wp (gu56 (r54 R4' R5 (by omega))) fun _ _ _ _ => ?_) | (refine Gv.wp (gu6 (c48 (R2''.grs (by (try first | refine ⟨trivial, ?_⟩ | refine ⟨rfl, ?_⟩); (repeat (first | exact Grs.refl _ | assumption | refine Grs.push ?_ | refine Grs.ov ?_ | refine Grs.put ?_ (by (try simp only [Hp.next_push, Hp.next_put, Hp.ov_next, Hp.clk_push, Hp.clk_put, Hp.ov_clk]); omega))))) (by omega))) fun _ _ _ _ => ?_) | ((first | apply k1 | apply k2 | apply k3 | apply k4 | apply k5 | apply k6 | apply k7) <;> intro hc))
  refine hG.trans ?_
  (try first | refine ⟨trivial, ?_⟩ | refine ⟨rfl, ?_⟩); (repeat (first | exact Grs.refl _ | assumption | refine Grs.push ?_ | refine Grs.ov ?_ | refine Grs.put ?_ (by (try simp only [Hp.next_push, Hp.next_put, Hp.ov_next, Hp.clk_push, Hp.clk_put, Hp.ov_clk]); omega)))
theorem law9 {v : AV} {l : List Tk} {x y : Int} (hS : RowS 5 h v l.length (l.flatMap Tk.l)) (hx : -9223372036854775808 ≤ x ∧ x ≤ 9223372036854775807) (hy : -9223372036854775808 ≤ y ∧ y ≤ 9223372036854775807) (hlm : l.length ≤ 9223372036854775807) :
    Gv E6 9 [.agg [.int .i64 x, .int .i64 y], v] h (.bool true) := by
  refine Gv.of (CallWp.fn (fn := TR.a9) rfl rfl rfl ?_)
  have d17 : ∀ {h : Hp} {K : AV → Hp → Prop}, CallWp E6 17 [] h K ↔ K (.bool true) h := fun {h K} => u6 fun K => c17
  have hls := hS.1
  have ln := hS.rz.len
  by_cases g1 : 0 ≤ x ∧ x ≤ 86399999
  · by_cases g2 : 0 ≤ y ∧ y ≤ 86399999
    · by_cases g3 : l.length ≤ 12
      · obtain ⟨s, rfl⟩ : ∃ s : Nat, x = s := ⟨x.toNat, by omega⟩
        obtain ⟨t, rfl⟩ : ∃ t : Nat, y = t := ⟨y.toNat, by omega⟩
        have g3' : ¬ (12 : Int) < l.length := by omega
        have a1 : ¬ (s : Int) < 0 := by omega
        have a2 : ¬ (86399999 : Int) < s := by omega
        have a3 : ¬ (t : Int) < 0 := by omega
        have a4 : ¬ (86399999 : Int) < t := by omega
        have tail := fun (hA : allE l = 0) (hp : Hp) (tm : T AV) (hG : Grs h hp) (t1 : val tm (.t 1) = v) => tail9 hS g3 hA hG t1
        refine Wp.cut 8 rfl ?_
        generalize TR.a9.code.post 8 = r at tail ⊢
        unfold TR.a9
        dsimp only [ACode.pre]
        repeat' (with_reducible first | simp (disch := first | assumption | omega | (simp only [go_sem, ne_eq, Nat.reduceAdd, Nat.reduceLeDiff] <;> omega) | fail) only [go_sem, ↓reduceIte, Nat.reduceEqDiff, Nat.reduceAdd, Nat.reduceBEq, Nat.reduceLeDiff, Nat.reduceMul, Nat.reduceLT, Int.reduceToNat, reduceCtorEq, Int.reduceAdd, Int.reduceSub, Int.reduceMul, Int.reduceNeg, Int.reduceLT, Int.reduceLE, Int.reduceEq, d17, ln, g3', a1, a2, a3, a4] | ((first | apply k1 | apply k2 | apply k3 | apply k4 | apply k5 | apply k6 | apply k7) <;> intro hc))
        refine Gp.wp (gp56 (r50 (hS.grs (by (try first | refine ⟨trivial, ?_⟩ | refine ⟨rfl, ?_⟩); (repeat (first | exact Grs.refl _ | assumption | refine Grs.push ?_ | refine Grs.ov ?_ | refine Grs.put ?_ (by (try simp only [Hp.next_push, Hp.next_put, Hp.ov_next, Hp.clk_push, Hp.clk_put, Hp.ov_clk]); omega))))) (by omega))) fun w1 h1 k1 j1 q1 R1 => ?_
        by_cases hA : allE l = 0
        · have tl := tail hA
          have hs := read_clock (t := s) (by omega)
          rw [read_eq] at hs
          have ls := clock_len (t := s) (by omega)
          have c40s : ∀ {h : Hp} {K : AV → Hp → Prop}, CallWp E6 40 [.int .i64 (s : Int)] h K ↔ K (.tup [.str (clockS s), .int .i64 0]) h := fun {h K} => u6 fun K => by rw [c40 (by omega), if_neg (by omega), Int.toNat_natCast]
          have c40t : ∀ {h : Hp} {K : AV → Hp → Prop}, CallWp E6 40 [.int .i64 (t : Int)] h K ↔ K (.tup [.str (clockS t), .int .i64 0]) h := fun {h K} => u6 fun K => by rw [c40 (by omega), if_neg (by omega), Int.toNat_natCast]
          have c43s : ∀ {h : Hp} {K : AV → Hp → Prop}, CallWp E6 43 [.str (clockS s)] h K ↔ K (.tup [.int .i64 (s : Int), .int .i64 0]) h := fun {h K} => u6 fun K => by rw [c43 (by omega), hs]; exact Iff.rfl
          have q : (clockS s = clockS t) = ((s : Int) = t) := by
            rw [eq_iff_iff]
            exact ⟨fun e => by rw [clock_inj (by omega) (by omega) e], fun e => by rw [Int.ofNat.inj e]⟩
          have hb1 : ∀ {i1 : Decidable ((s : Int) = t)} {i2 : Decidable (clockS s = clockS t)}, ((@decide _ i1) = (@decide _ i2)) = True := fun {i1 i2} => by
            simp only [decide_eq_decide, q, iff_self]
          have hb2 : (clockS s).length = (clockS t).length → s < 3600000 → t < 3600000 → ∀ {i1 : Decidable ((s : Int) < t)}, ((@decide _ i1) = Op.bytesLess (clockS s) (clockS t)) = True := fun e1 e2 e3 {i1} => by
            rw [clock_less e2 e3 e1]
            simp only [decide_eq_decide, eq_iff_iff, iff_true]
            omega
          have c43z : 600000 ≤ s → s < 3600000 → ∀ {h : Hp} {K : AV → Hp → Prop}, CallWp E6 43 [.str (48 :: 58 :: clockS s)] h K ↔ K (.tup [.int .i64 (s : Int), .int .i64 0]) h := fun e1 e2 {h K} => u6 fun K => by
            have hz := read_zero e1 e2
            rw [read_eq] at hz
            rw [c43 (by simp; omega)]
            have e : (48 :: 58 :: clockS s) = [48, 58] ++ clockS s := rfl
            rw [e, hz]; exact Iff.rfl
          by_cases e1 : (s : Int) < 3600000 <;> by_cases e2 : (t : Int) < 3600000 <;> by_cases e3 : ((clockS s).length : Int) = (clockS t).length <;> by_cases e4 : (600000 : Int) ≤ s
          all_goals
            repeat' (with_reducible first | simp (disch := first | assumption | omega | (simp only [go_sem, ne_eq, Nat.reduceAdd, Nat.reduceLeDiff] <;> omega) | fail) only [go_sem, ↓reduceIte, Nat.reduceEqDiff, Nat.reduceAdd, Nat.reduceBEq, Nat.reduceLeDiff, Nat.reduceMul, Nat.reduceLT, Int.reduceToNat, reduceCtorEq, Int.reduceAdd, Int.reduceSub, Int.reduceMul, Int.reduceNeg, Int.reduceLT, Int.reduceLE, Int.reduceEq, d17, hA, c40s, c40t, c43s, c43z, hb1, hb2, b_slss, e1, e2, e3, e4] | (refine Gv.wp (gu56 (r49 R1 (by omega))) fun _ _ _ _ => ?_) | ((first | apply k1 | apply k2 | apply k3 | apply k4 | apply k5 | apply k6 | apply k7) <;> intro hc))
            all_goals exact tl _ _ (by (try first | refine ⟨trivial, ?_⟩ | refine ⟨rfl, ?_⟩); (repeat (first | exact Grs.refl _ | assumption | refine Grs.push ?_ | refine Grs.ov ?_ | refine Grs.put ?_ (by (try simp only [Hp.next_push, Hp.next_put, Hp.ov_next, Hp.clk_push, Hp.clk_put, Hp.ov_clk]); omega)))) (by simp (disch := first | assumption | omega | (simp only [go_sem, ne_eq, Nat.reduceAdd, Nat.reduceLeDiff] <;> omega) | fail) only [go_sem, ↓reduceIte, Nat.reduceEqDiff, Nat.reduceAdd, Nat.reduceBEq, Nat.reduceLeDiff, Nat.reduceMul, Nat.reduceLT, Int.reduceToNat, reduceCtorEq, Int.reduceAdd, Int.reduceSub, Int.reduceMul, Int.reduceNeg, Int.reduceLT, Int.reduceLE, Int.reduceEq])
        · repeat' (with_reducible first | simp (disch := first | assumption | omega | (simp only [go_sem, ne_eq, Nat.reduceAdd, Nat.reduceLeDiff] <;> omega) | fail) only [go_sem, ↓reduceIte, Nat.reduceEqDiff, Nat.reduceAdd, Nat.reduceBEq, Nat.reduceLeDiff, Nat.reduceMul, Nat.reduceLT, Int.reduceToNat, reduceCtorEq, Int.reduceAdd, Int.reduceSub, Int.reduceMul, Int.reduceNeg, Int.reduceLT, Int.reduceLE, Int.reduceEq, d17, hA] | (refine Gv.wp (gu56 (r49 R1 (by omega))) fun _ _ _ _ => ?_) | ((first | apply k1 | apply k2 | apply k3 | apply k4 | apply k5 | apply k6 | apply k7) <;> intro hc))
          (try first | refine ⟨trivial, ?_⟩ | refine ⟨rfl, ?_⟩); (repeat (first | exact Grs.refl _ | assumption | refine Grs.push ?_ | refine Grs.ov ?_ | refine Grs.put ?_ (by (try simp only [Hp.next_push, Hp.next_put, Hp.ov_next, Hp.clk_push, Hp.clk_put, Hp.ov_clk]); omega)))
      · have g3' : (12 : Int) < l.length := by omega
        unfold TR.a9
        obtain ⟨g1a, g1b⟩ := g1
        obtain ⟨g2a, g2b⟩ := g2
        repeat' (with_reducible first | simp (disch := first | assumption | omega | (simp only [go_sem, ne_eq, Nat.reduceAdd, Nat.reduceLeDiff] <;> omega) | fail) only [go_sem, ↓reduceIte, Nat.reduceEqDiff, Nat.reduceAdd, Nat.reduceBEq, Nat.reduceLeDiff, Nat.reduceMul, Nat.reduceLT, Int.reduceToNat, reduceCtorEq, Int.reduceAdd, Int.reduceSub, Int.reduceMul, Int.reduceNeg, Int.reduceLT, Int.reduceLE, Int.reduceEq, d17, ln, g3', show ¬ x < 0 by omega, show ¬ 86399999 < x by omega, show ¬ y < 0 by omega, show ¬ 86399999 < y by omega] | ((first | apply k1 | apply k2 | apply k3 | apply k4 | apply k5 | apply k6 | apply k7) <;> intro hc))
        (try first | refine ⟨trivial, ?_⟩ | refine ⟨rfl, ?_⟩); (repeat (first | exact Grs.refl _ | assumption | refine Grs.push ?_ | refine Grs.ov ?_ | refine Grs.put ?_ (by (try simp only [Hp.next_push, Hp.next_put, Hp.ov_next, Hp.clk_push, Hp.clk_put, Hp.ov_clk]); omega)))
    · obtain ⟨g1a, g1b⟩ := g1
      by_cases g2a : y < 0
      · unfold TR.a9
        repeat' (with_reducible first | simp (disch := first | assumption | omega | (simp only [go_sem, ne_eq, Nat.reduceAdd, Nat.reduceLeDiff] <;> omega) | fail) only [go_sem, ↓reduceIte, Nat.reduceEqDiff, Nat.reduceAdd, Nat.reduceBEq, Nat.reduceLeDiff, Nat.reduceMul, Nat.reduceLT, Int.reduceToNat, reduceCtorEq, Int.reduceAdd, Int.reduceSub, Int.reduceMul, Int.reduceNeg, Int.reduceLT, Int.reduceLE, Int.reduceEq, d17, ln, g2a, show ¬ x < 0 by omega, show ¬ 86399999 < x by omega] | ((first | apply k1 | apply k2 | apply k3 | apply k4 | apply k5 | apply k6 | apply k7) <;> intro hc))
        (try first | refine ⟨trivial, ?_⟩ | refine ⟨rfl, ?_⟩); (repeat (first | exact Grs.refl _ | assumption | refine Grs.push ?_ | refine Grs.ov ?_ | refine Grs.put ?_ (by (try simp only [Hp.next_push, Hp.next_put, Hp.ov_next, Hp.clk_push, Hp.clk_put, Hp.ov_clk]); omega)))
      · unfold TR.a9
        repeat' (with_reducible first | simp (disch := first | assumption | omega | (simp only [go_sem, ne_eq, Nat.reduceAdd, Nat.reduceLeDiff] <;> omega) | fail) only [go_sem, ↓reduceIte, Nat.reduceEqDiff, Nat.reduceAdd, Nat.reduceBEq, Nat.reduceLeDiff, Nat.reduceMul, Nat.reduceLT, Int.reduceToNat, reduceCtorEq, Int.reduceAdd, Int.reduceSub, Int.reduceMul, Int.reduceNeg, Int.reduceLT, Int.reduceLE, Int.reduceEq, d17, ln, g2a, show 86399999 < y by omega, show ¬ x < 0 by omega, show ¬ 86399999 < x by omega] | ((first | apply k1 | apply k2 | apply k3 | apply k4 | apply k5 | apply k6 | apply k7) <;> intro hc))
        (try first | refine ⟨trivial, ?_⟩ | refine ⟨rfl, ?_⟩); (repeat (first | exact Grs.refl _ | assumption | refine Grs.push ?_ | refine Grs.ov ?_ | refine Grs.put ?_ (by (try simp only [Hp.next_push, Hp.next_put, Hp.ov_next, Hp.clk_push, Hp.clk_put, Hp.ov_clk]); omega)))
  · by_cases g1a : x < 0
    · unfold TR.a9
      repeat' (with_reducible first | simp (disch := first | assumption | omega | (simp only [go_sem, ne_eq, Nat.reduceAdd, Nat.reduceLeDiff] <;> omega) | fail) only [go_sem, ↓reduceIte, Nat.reduceEqDiff, Nat.reduceAdd, Nat.reduceBEq, Nat.reduceLeDiff, Nat.reduceMul, Nat.reduceLT, Int.reduceToNat, reduceCtorEq, Int.reduceAdd, Int.reduceSub, Int.reduceMul, Int.reduceNeg, Int.reduceLT, Int.reduceLE, Int.reduceEq, d17, ln, g1a] | ((first | apply k1 | apply k2 | apply k3 | apply k4 | apply k5 | apply k6 | apply k7) <;> intro hc))
      (try first | refine ⟨trivial, ?_⟩ | refine ⟨rfl, ?_⟩); (repeat (first | exact Grs.refl _ | assumption | refine Grs.push ?_ | refine Grs.ov ?_ | refine Grs.put ?_ (by (try simp only [Hp.next_push, Hp.next_put, Hp.ov_next, Hp.clk_push, Hp.clk_put, Hp.ov_clk]); omega)))
    · unfold TR.a9
      repeat' (with_reducible first | simp (disch := first | assumption | omega | (simp only [go_sem, ne_eq, Nat.reduceAdd, Nat.reduceLeDiff] <;> omega) | fail) only [go_sem, ↓reduceIte, Nat.reduceEqDiff, Nat.reduceAdd, Nat.reduceBEq, Nat.reduceLeDiff, Nat.reduceMul, Nat.reduceLT, Int.reduceToNat, reduceCtorEq, Int.reduceAdd, Int.reduceSub, Int.reduceMul, Int.reduceNeg, Int.reduceLT, Int.reduceLE, Int.reduceEq, d17, ln, g1a, show 86399999 < x by omega] | ((first | apply k1 | apply k2 | apply k3 | apply k4 | apply k5 | apply k6 | apply k7) <;> intro hc))
      (try first | refine ⟨trivial, ?_⟩ | refine ⟨rfl, ?_⟩); (repeat (first | exact Grs.refl _ | assumption | refine Grs.push ?_ | refine Grs.ov ?_ | refine Grs.put ?_ (by (try simp only [Hp.next_push, Hp.next_put, Hp.ov_next, Hp.clk_push, Hp.clk_put, Hp.ov_clk]); omega)))
end
end Go.Ae

