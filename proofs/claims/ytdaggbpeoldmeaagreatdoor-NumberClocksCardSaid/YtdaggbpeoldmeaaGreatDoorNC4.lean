/- Clocks: what the program and the reference read is the same. -/
import Derived.Test.YtdaggbpeoldmeaaGreatDoorNC3
set_option linter.unusedVariables false
set_option linter.unusedSimpArgs false
set_option maxRecDepth 100000
namespace Go.Ae
open N Go.Proofs
theorem splGo_eq (sep s : List UInt8) (i a : Nat) : splGo sep s i a = if h : i + sep.length ≤ s.length ∧ 0 < sep.length then
    if (s.take (i + sep.length)).drop i = sep then (s.take i).drop a :: splGo sep s (i + sep.length) (i + sep.length)
    else splGo sep s (i + 1) a
  else [s.drop a] := by rw [splGo]
theorem splGo_shift {sep s : List UInt8} {j : Nat} (hj : j ≤ s.length) : ∀ (n i a : Nat), s.length - (j + i) = n → splGo sep s (j + i) (j + a) = splGo sep (s.drop j) i a := by
  intro n
  induction n using Nat.strongRecOn with
  | _ n ih =>
    intro i a hn
    rw [splGo_eq sep s, splGo_eq sep (s.drop j)]
    have e1 : List.drop (j + i) (List.take (j + i + sep.length) s) = List.drop i (List.take (i + sep.length) (s.drop j)) := by
      rw [List.take_drop, List.drop_drop, Nat.add_assoc]
    have e2 : List.drop (j + a) (List.take (j + i) s) = List.drop a (List.take i (s.drop j)) := by
      rw [List.take_drop, List.drop_drop]
    have e3 : List.drop (j + a) s = List.drop a (s.drop j) := by rw [List.drop_drop]
    by_cases hc : j + i + sep.length ≤ s.length ∧ 0 < sep.length
    · rw [dif_pos hc, dif_pos (by rw [List.length_drop]; omega), e1, e2]
      by_cases hm : List.drop i (List.take (i + sep.length) (s.drop j)) = sep
      · rw [if_pos hm, if_pos hm]
        have := ih (s.length - (j + (i + sep.length))) (by omega) (i + sep.length) (i + sep.length) rfl
        rw [← Nat.add_assoc] at this
        rw [this]
      · rw [if_neg hm, if_neg hm]
        have := ih (s.length - (j + (i + 1))) (by omega) (i + 1) a rfl
        rw [← Nat.add_assoc] at this
        rw [this]
    · rw [dif_neg hc, dif_neg (by rw [List.length_drop]; omega), e3]
theorem spl_none {c : UInt8} {s : List UInt8} : ∀ (q : List UInt8) (i a : Nat), s.drop i = q → c ∉ q → splGo [c] s i a = [s.drop a] := by
  intro q
  induction q with
  | nil =>
    intro i a h _
    have : s.length ≤ i := List.drop_eq_nil_iff.1 h
    rw [splGo, dif_neg (by simp; omega)]
  | cons x q ih =>
    intro i a h hc
    have hi : i < s.length := by
      rcases Nat.lt_or_ge i s.length with hlt | hge
      · exact hlt
      · rw [List.drop_eq_nil_of_le hge] at h; cases h
    have hx : List.drop i (List.take (i + 1) s) = [x] := by
      rw [← List.take_drop, h]; rfl
    have hq : s.drop (i + 1) = q := by rw [← List.drop_drop, h]; rfl
    rw [splGo, dif_pos ⟨by simp; omega, by simp⟩]
    simp only [List.length_cons, List.length_nil, Nat.zero_add]
    rw [hx, if_neg (fun e => hc (by rw [List.cons.inj e |>.1]; simp))]
    exact ih (i + 1) a hq (fun e => hc (List.mem_cons_of_mem _ e))
theorem spl_some {c : UInt8} {s b : List UInt8} : ∀ (p : List UInt8) (i a : Nat), s.drop i = p ++ c :: b → c ∉ p → splGo [c] s i a = (s.take (i + p.length)).drop a :: splGo [c] s (i + p.length + 1) (i + p.length + 1) := by
  intro p
  induction p with
  | nil =>
    intro i a h _
    have hi : i < s.length := by
      rcases Nat.lt_or_ge i s.length with hlt | hge
      · exact hlt
      · rw [List.drop_eq_nil_of_le hge] at h; cases h
    have hx : List.drop i (List.take (i + 1) s) = [c] := by
      rw [← List.take_drop, h]; rfl
    rw [splGo, dif_pos ⟨by simp; omega, by simp⟩]
    simp only [List.length_cons, List.length_nil, Nat.zero_add]
    rw [if_pos hx]; rfl
  | cons x q ih =>
    intro i a h hc
    have hi : i < s.length := by
      rcases Nat.lt_or_ge i s.length with hlt | hge
      · exact hlt
      · rw [List.drop_eq_nil_of_le hge] at h; cases h
    have hx : List.drop i (List.take (i + 1) s) = [x] := by
      rw [← List.take_drop, h]; rfl
    have hq : s.drop (i + 1) = q ++ c :: b := by rw [← List.drop_drop, h]; rfl
    rw [splGo, dif_pos ⟨by simp; omega, by simp⟩]
    simp only [List.length_cons, List.length_nil, Nat.zero_add]
    rw [hx, if_neg (fun e => hc (by rw [List.cons.inj e |>.1]; simp)), ih (i + 1) a hq (fun e => hc (List.mem_cons_of_mem _ e))]
    rw [show i + 1 + q.length = i + (q.length + 1) by omega]
theorem splS_none {c : UInt8} {s : List UInt8} (h : c ∉ s) : splS c s = [s] := spl_none s 0 0 rfl h
theorem splS_some {c : UInt8} {a b : List UInt8} (h : c ∉ a) : splS c (a ++ c :: b) = a :: splS c b := by
  unfold splS
  rw [spl_some (s := a ++ c :: b) (b := b) a 0 0 rfl h]
  have e := splGo_shift (sep := [c]) (s := a ++ c :: b) (j := a.length + 1) (by simp) _ 0 0 rfl
  simp only [Nat.add_zero] at e
  rw [Nat.zero_add, e]
  congr 1
  · simp
  · congr 1; simp
theorem index_none {c : UInt8} : ∀ {s : List UInt8}, c ∉ s → Lib.index s [c] = -1 := by
  intro s h
  rw [Lib.index_one]
  induction s with
  | nil => rfl
  | cons b l ih =>
    have h1 : (b == c) = false := beq_eq_false_iff_ne.2 (fun e => h (by rw [e]; simp))
    have := ih (fun e => h (List.mem_cons_of_mem _ e))
    simp only [Lib.indexByte, h1, this]; rfl
theorem index_some {c : UInt8} {b : List UInt8} : ∀ {a : List UInt8}, c ∉ a → Lib.index (a ++ c :: b) [c] = a.length := by
  intro a h
  rw [Lib.index_one]
  induction a with
  | nil => simp [Lib.indexByte]
  | cons x l ih =>
    have h1 : (x == c) = false := beq_eq_false_iff_ne.2 (fun e => h (by rw [e]; simp))
    have := ih (fun e => h (List.mem_cons_of_mem _ e))
    have h2 : ((l.length : Int) == -1) = false := beq_eq_false_iff_ne.2 (by omega)
    simp only [List.cons_append, Lib.indexByte, h1, this, h2]
    simp
theorem words_split (s : List UInt8) : Rc.words s = Lib.splitK [58] 0 (Lib.count s [58]) s := by
  unfold Rc.words; rw [Lib.splitB_data]
theorem words_eq : ∀ (n : Nat) (s : List UInt8), s.length = n → Rc.words s = splS 58 s := by
  intro n
  induction n using Nat.strongRecOn with
  | _ n ih =>
    intro s hn
    by_cases hc : (58 : UInt8) ∈ s
    · obtain ⟨a, b, rfl, ha⟩ := List.eq_append_cons_of_mem hc
      rw [splS_some ha, words_split, Lib.count_hit (by simp) (index_some ha)]
      have hi := index_some (b := b) ha
      have e : List.drop (a.length + [(58 : UInt8)].length) (a ++ 58 :: b) = b := by simp
      rw [e, Nat.add_comm, Lib.splitK, if_neg (by rw [hi]; simp), hi]
      simp only [Int.toNat_natCast, Nat.add_zero]
      rw [e, ← words_split, ih b.length (by simp at hn; omega) b rfl]
      congr 1
      simp
    · rw [splS_none hc, words_split, Lib.count_miss (index_none hc)]; rfl
theorem cut_none {s : List UInt8} (h : (46 : UInt8) ∉ s) : Lib.cut s [46] = (s, [], false) := by
  unfold Lib.cut; rw [index_none h, if_neg (by omega)]
theorem cut_some {a b : List UInt8} (h : (46 : UInt8) ∉ a) : Lib.cut (a ++ 46 :: b) [46] = (a, b, true) := by
  unfold Lib.cut
  rw [index_some h, if_pos (by omega)]
  simp
theorem digV_snd {w : List UInt8} {c : Nat} : (digV w c).2 = (decide (w.length = c) && allDig w) := by
  unfold digV
  by_cases h1 : w.length = c <;> cases h2 : allDig w <;> simp [h1]
theorem digV_fst {w : List UInt8} {c : Nat} (h : (digV w c).2 = true) : (digV w c).1 = decV w := by
  unfold digV at *
  split
  · rfl
  · rename_i hn; rw [if_neg hn] at h; cases h
theorem read_eq (s : List UInt8) : refClk s = Rc.readClk s := by
  unfold refClk Rc.readClk
  by_cases hl : 24 < s.length
  · rw [if_pos hl, if_pos hl]
  rw [if_neg hl, if_neg hl]
  by_cases hc : (46 : UInt8) ∈ s
  · obtain ⟨a, b, rfl, ha⟩ := List.eq_append_cons_of_mem hc
    rw [splS_some ha, cut_some ha]
    simp only
    by_cases hb : (46 : UInt8) ∈ b
    · have hd : (digV b 3).2 = false := by
        rw [digV_snd]
        have : allDig b = false := by
          unfold allDig; rw [List.all_eq_false]; exact ⟨46, hb, by decide⟩
        rw [this, Bool.and_false]
      rw [if_neg (by simp [hd])]
      obtain ⟨p, q, rfl, hp⟩ := List.eq_append_cons_of_mem hb
      rw [splS_some hp]
      have := splGo_ne (sep := [46]) (s := q) (i := 0) (a := 0)
      cases hq : splS 46 q with
      | nil => exact absurd hq this
      | cons x l => rfl
    · rw [splS_none hb]
      simp only
      have hw := words_eq _ a rfl
      by_cases h3 : b.length = 3 ∧ allDig b = true
      · have hd : (digV b 3).2 = true := by rw [digV_snd]; simp [h3]
        have hd1 := digV_fst hd
        rw [if_pos h3]
        unfold Rc.flds
        rw [hw]
        have hne := splGo_ne (sep := [58]) (s := a) (i := 0) (a := 0)
        rcases hL : splS 58 a with _ | ⟨w, _ | ⟨x, _ | ⟨y, _ | ⟨z, L⟩⟩⟩⟩
        · exact absurd hL hne
        · simp only [List.mapIdx_cons, List.mapIdx_nil, Rc.fld, if_true, hd, hd1, List.all_cons, List.all_nil, Bool.true_and, Bool.and_true, List.length_cons, List.length_nil, Rc.clkGo, Rc.most]
          cases (intV w).2 <;> simp
          split <;> simp; omega
        · have e0 : Rc.fld 0 w = intV w := if_pos rfl
          have e1 : Rc.fld (0 + 1) x = digV x 2 := if_neg (by omega)
          have t1 : twoDig [x] = (digV x 2).2 := by rw [digV_snd]; simp [twoDig]
          simp only [List.mapIdx_cons, List.mapIdx_nil, e0, e1, hd, hd1, t1, List.all_cons, List.all_nil, Bool.true_and, Bool.and_true, List.length_cons, List.length_nil, Rc.clkGo]
          cases hw2 : (intV w).2 with
          | false => simp
          | true =>
            cases hx2 : (digV x 2).2 with
            | false => simp
            | true =>
              rw [digV_fst hx2]
              have m0 : Rc.most (0 + 1 + 1) 0 = 59 := rfl
              have m1 : Rc.most (0 + 1 + 1) (0 + 1) = 59 := rfl
              rw [m0, m1, if_pos ⟨rfl, rfl⟩]
              by_cases k1 : 59 < decV x ∨ 59 < (intV w).1
              · rw [if_pos k1, if_pos ⟨by simp, by omega⟩, if_pos (by simp; omega)]
              · rw [if_neg k1, if_pos ⟨by simp, by omega⟩, if_neg (by simp; omega)]
                exact Prod.ext (by simp; omega) rfl
        · have e0 : Rc.fld 0 w = intV w := if_pos rfl
          have e1 : Rc.fld (0 + 1) x = digV x 2 := if_neg (by omega)
          have e2 : Rc.fld (0 + 1 + 1) y = digV y 2 := if_neg (by omega)
          have t1 : twoDig [x, y] = ((digV x 2).2 && (digV y 2).2) := by rw [digV_snd, digV_snd]; simp [twoDig]
          simp only [List.mapIdx_cons, List.mapIdx_nil, e0, e1, e2, hd, hd1, t1, List.all_cons, List.all_nil, Bool.true_and, Bool.and_true, List.length_cons, List.length_nil, Rc.clkGo]
          cases hw2 : (intV w).2 with
          | false => simp
          | true =>
            cases hx2 : (digV x 2).2 with
            | false => simp
            | true =>
              cases hy2 : (digV y 2).2 with
              | false => simp
              | true =>
                rw [digV_fst hx2, digV_fst hy2]
                have m0 : Rc.most (0 + 1 + 1 + 1) 0 = 23 := rfl
                have m1 : Rc.most (0 + 1 + 1 + 1) (0 + 1) = 59 := rfl
                have m2 : Rc.most (0 + 1 + 1 + 1) (0 + 1 + 1) = 59 := rfl
                rw [m0, m1, m2, if_pos ⟨rfl, rfl⟩]
                by_cases k1 : 59 < decV x ∨ 59 < decV y ∨ 23 < (intV w).1
                · rw [if_pos k1, if_pos ⟨by simp, by omega⟩, if_pos (by simp; omega)]
                · rw [if_neg k1, if_pos ⟨by simp, by omega⟩, if_neg (by simp; omega)]
                  exact Prod.ext (by simp; omega) rfl
        · rw [if_neg (by simp)]
      · have hd : (digV b 3).2 = false := by
          rw [digV_snd]
          cases h4 : allDig b with
          | false => simp
          | true => simp; exact fun e => h3 ⟨e, h4⟩
        rw [if_neg h3, if_neg (by simp [hd])]
  · rw [splS_none hc, cut_none hc]
    simp
end Go.Ae
