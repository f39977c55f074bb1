/- The abstract evaluator: what the look at a region gives. -/
import Derived.Test.YtdaggbpeoldmeaaGreatDoorA20
set_option linter.unusedVariables false
set_option linter.unusedSimpArgs false
namespace Go.Ae
theorem nbeq_self (n : Nat) : Nat.beq n n = true := by simp
theorem All2.length {α β : Type} {R : α → β → Prop} {as : List α} {bs : List β} (h : All2 R as bs) : bs.length = as.length := by
  induction h with
  | nil => rfl
  | cons _ _ ih => simp [ih]
theorem All2.get {α β : Type} {R : α → β → Prop} {as : List α} {bs : List β} (h : All2 R as bs) : ∀ (k : Nat) (a : α) (b : β), as[k]? = some a → bs[k]? = some b → R a b := by
  induction h with
  | nil => intro k a b h; simp at h
  | cons r _ ih =>
    intro k a b h1 h2
    cases k with
    | zero => simp only [List.getElem?_cons_zero, Option.some.injEq] at h1 h2; subst h1; subst h2; exact r
    | succ k => exact ih k a b (by simpa using h1) (by simpa using h2)
def namesAt (is : List AInfo) (k : Nat) : List Nat :=
  match is[k]? with
  | some r => r.names
  | none => []
theorem stat_of {P : Program} {nt : Nat} {ops : Array Oper} {ys : List AOper} {ms : List Nat} (hc : All2 (COp P nt ops) ops.toList ys) (hm : ms = masks ops.toList []) (hd : drawB ops.toList ys ms = true) :
    Stat P nt ops ys (fun k j => hasB (ms.getD k 0) j = true) (namesAt (infos 0 ops.toList ys ms)) := by
  unfold drawB at hd
  simp only [Bool.and_eq_true] at hd
  obtain ⟨⟨hp, hone, hback⟩, hgrd⟩ := hd
  have hlen : ys.length = ops.size := by rw [hc.length]; simp
  obtain ⟨m1, m2, m3⟩ := masks_spec ops.toList []
  rw [← hm] at m1 m2 m3
  have at_ : ∀ (k : Nat) (y : AOper), ys[k]? = some y → ∃ o m, ops[k]? = some o ∧ ms[k]? = some m ∧ (infos 0 ops.toList ys ms)[k]? = some ⟨k, y.cls, y.dst, namesOf o y, m, y.stab⟩ := by
    intro k y hy
    have hk : k < ys.length := (List.getElem?_eq_some_iff.1 hy).1
    have ho : ops[k]? = some ops[k] := Array.getElem?_eq_getElem (by omega)
    have hml : k < ms.length := by rw [m1]; simp; omega
    have := infos_get 0 ops.toList ys ms k ops[k] y ms[k] (by rw [Array.getElem?_toList]; exact ho) hy (List.getElem?_eq_getElem hml)
    rw [Nat.zero_add] at this
    exact ⟨_, _, ho, List.getElem?_eq_getElem hml, this⟩
  have pr : ∀ (j k : Nat) (x y : AOper), j < k → ys[j]? = some x → ys[k]? = some y → ∃ ox oy mx my, ops[j]? = some ox ∧ ops[k]? = some oy ∧ ms[j]? = some mx ∧ ms[k]? = some my ∧
      pairB (((infos 0 ops.toList ys ms).filter fun x => Nat.beq x.cls 1).map (·.i)) ⟨j, x.cls, x.dst, namesOf ox x, mx, x.stab⟩ ⟨k, y.cls, y.dst, namesOf oy y, my, y.stab⟩ = true := by
    intro j k x y hjk hx hy
    obtain ⟨ox, mx, a1, a2, a3⟩ := at_ j x hx
    obtain ⟨oy, my, b1, b2, b3⟩ := at_ k y hy
    exact ⟨ox, oy, mx, my, a1, b1, a2, b2, pairs_get _ hp j k _ _ hjk a3 b3⟩
  have nm : ∀ (k : Nat) (o : Oper) (y : AOper), ops[k]? = some o → ys[k]? = some y → namesAt (infos 0 ops.toList ys ms) k = namesOf o y := by
    intro k o y ho hy
    obtain ⟨o', m, a1, a2, a3⟩ := at_ k y hy
    rw [ho] at a1; obtain rfl := Option.some.inj a1
    unfold namesAt; rw [a3]
  -- what a pair says where the later one does not wait
  have loose : ∀ (j k : Nat) (x y : AOper), j < k → ys[j]? = some x → ys[k]? = some y → ¬ hasB (ms.getD k 0) j = true →
      ¬ (x.cls = 2 ∧ y.cls = 2) ∧ ¬ (x.cls = 1 ∧ y.cls ≠ 1) ∧ memB x.dst (namesAt (infos 0 ops.toList ys ms) k) = false ∧ memB y.dst (namesAt (infos 0 ops.toList ys ms) j) = false ∧
      (x.cls = 2 → y.cls = 0 → ∀ i z, ys[i]? = some z → z.cls = 1 → j < i → i < k → False) ∧ (∀ u, x.stab = some u → x.cls = 0 → y.cls = 2 → k ≤ u) := by
    intro j k x y hjk hx hy hn
    obtain ⟨ox, oy, mx, my, a1, b1, a2, b2, hh⟩ := pr j k x y hjk hx hy
    have e : ms.getD k 0 = my := by simp [List.getD_eq_getElem?_getD, b2]
    rw [e] at hn
    have hn : hasB my j = false := by cases h : hasB my j <;> simp_all
    rw [nm k oy y b1 hy, nm j ox x a1 hx]
    unfold pairB at hh
    simp only [hn, Bool.false_or, Bool.and_eq_true, Bool.not_eq_true'] at hh
    obtain ⟨⟨⟨⟨⟨⟨h1, h2⟩, h3⟩, h4⟩, h5⟩, h6⟩, h7⟩ := hh
    refine ⟨fun c => ?_, fun c => ?_, h3, h4, fun c d i z hz hzc hji hik => ?_, fun u hu c d => ?_⟩
    · rw [c.1, c.2] at h1; simp at h1
    · have h2' : (Nat.beq x.cls 1 && !Nat.beq y.cls 1) = false := h2
      rw [c.1] at h2'
      simp only [nbeq_self, Bool.true_and, Bool.not_eq_false'] at h2'
      exact c.2 (Nat.eq_of_beq_eq_true h2')
    · rw [c, d] at h5
      obtain ⟨oz, mz, z1, z2, z3⟩ := at_ i z hz
      have hin : i ∈ ((infos 0 ops.toList ys ms).filter fun x => Nat.beq x.cls 1).map (·.i) := List.mem_map.2 ⟨_, List.mem_filter.2 ⟨List.mem_of_getElem? z3, by simp [hzc]⟩, rfl⟩
      have : (((infos 0 ops.toList ys ms).filter fun x => Nat.beq x.cls 1).map (·.i)).any (fun i => Nat.blt j i && Nat.blt i k) = true := List.any_eq_true.2 ⟨i, hin, by simp [Nat.blt_eq, hji, hik]⟩
      rw [this] at h5; simp at h5
    · rw [hu] at h6
      simp only [c, d, nbeq_self, Bool.and_self, Bool.not_true, Bool.false_or] at h6
      exact Nat.le_of_ble_eq_true h6
  refine ⟨hlen, fun k o x ho hx => hc.get k o x (by rw [Array.getElem?_toList]; exact ho) hx, ?_, ?_, ?_, ?_, ?_, ?_, ?_, ?_, ?_, ?_⟩
  · intro k o ho e he hb
    have := back_get 0 ops.toList hback k o (by rw [Array.getElem?_toList]; exact ho) e.on (List.mem_map.2 ⟨e, List.mem_filter.2 ⟨by simpa using he, hb⟩, rfl⟩)
    omega
  · intro S hS k o ho hedge i hi
    have ho' : ops.toList[k]? = some o := by rw [Array.getElem?_toList]; exact ho
    have hmk := m3 k o ho'
    simp only [List.length_nil, Nat.zero_add] at hmk
    rw [show ms.getD k 0 = maskOf (ms.take k) (edgesOf o) by simp [List.getD_eq_getElem?_getD, hmk], hasB_eq] at hi
    unfold maskOf at hi
    rw [maskOf_bit] at hi
    rcases hi with hi | ⟨j, hj, hji⟩
    · simp at hi
    · obtain ⟨e, he, rfl⟩ := List.mem_map.1 hj
      obtain ⟨he1, he2⟩ := List.mem_filter.1 he
      have hSe : S e.on := hedge e (by simpa using he1) he2
      rcases hji with rfl | hji
      · exact hSe
      · refine hS e.on hSe i ?_
        rw [hasB_eq]
        by_cases hlt : e.on < k
        · simp only [List.getD_eq_getElem?_getD, List.getElem?_take, if_pos hlt] at hji
          simpa [List.getD_eq_getElem?_getD] using hji
        · simp [List.getD_eq_getElem?_getD, List.getElem?_take, hlt] at hji
  · intro j k x y hjk hx hy hxc hyc
    exact Classical.byContradiction fun hn => (loose j k x y hjk hx hy hn).1 ⟨hxc, hyc⟩
  · intro j k x y hjk hx hy hxc hyc
    exact Classical.byContradiction fun hn => (loose j k x y hjk hx hy hn).2.1 ⟨hxc, hyc⟩
  · intro j i k x z y hji hik hx hz hy hxc hzc hyc
    exact Classical.byContradiction fun hn => (loose j k x y (by omega) hx hy hn).2.2.2.2.1 hxc hyc i z hz hzc hji hik
  · intro j k x y hjk hx hy hn
    obtain ⟨_, _, h3, h4, _, _⟩ := loose j k x y hjk hx hy hn
    exact ⟨fun d hd => memB_not (by rw [← hd]; exact h3), fun d hd => memB_not (by rw [← hd]; exact h4)⟩
  · have key : ∀ (j k : Nat) (x y : AOper) (d : Nat), j < k → ys[j]? = some x → ys[k]? = some y → x.dst = some d → y.dst = some d → False := by
      intro j k x y d hjk hx hy hd hd'
      obtain ⟨ox, oy, mx, my, a1, b1, a2, b2, hh⟩ := pr j k x y hjk hx hy
      unfold pairB at hh
      simp only [Bool.and_eq_true, hd, hd', sameB, nbeq_self, Bool.not_true] at hh
      exact absurd hh.2 (by simp)
    intro j k x y d hx hy hd hd'
    rcases Nat.lt_trichotomy j k with c | c | c
    · exact (key j k x y d c hx hy hd hd').elim
    · exact c
    · exact (key k j y x d c hy hx hd' hd).elim
  · intro k o x ho hx
    rw [nm k o x ho hx]
    unfold namesOf
    refine ⟨fun t ht => ?_, fun t ht => ?_, fun d b hd => ?_⟩
    · exact List.mem_append.2 (.inl (List.mem_filterMap.2 ⟨.tmp t, by simpa using ht, rfl⟩))
    · exact List.mem_append.2 (.inr (List.mem_append.2 (.inl (List.mem_filterMap.2 ⟨.t t, ht, rfl⟩))))
    · rw [hd]; exact List.mem_append.2 (.inr (List.mem_append.2 (.inr (.head _))))
  · intro k x hx hxc
    obtain ⟨o, m, a1, a2, a3⟩ := at_ k x hx
    have h1 := List.all_eq_true.1 hgrd x (List.mem_of_getElem? hx)
    have h2 := List.all_eq_true.1 hone _ (List.mem_of_getElem? a3)
    simp only [hxc, nbeq_self, Bool.not_true, Bool.false_or] at h1
    unfold oneB at h2
    simp only [hxc, nbeq_self, Bool.not_true, Bool.false_or, Bool.and_eq_true] at h2
    rw [nm k o x a1 hx]
    exact ⟨by simpa using h1, by simpa using h2.2⟩
  · intro k x u hx hxc hu
    obtain ⟨o, m, a1, a2, a3⟩ := at_ k x hx
    have h2 := List.all_eq_true.1 hone _ (List.mem_of_getElem? a3)
    unfold oneB at h2
    simp only [hu, Bool.and_eq_true] at h2
    refine ⟨Nat.le_of_ble_eq_true h2.1.1, by simpa [Nat.blt_eq] using h2.1.2, fun j y hy hkj hyc hn => ?_⟩
    exact (loose k j x y hkj hx hy hn).2.2.2.2.2 u hu hxc hyc
end Go.Ae
