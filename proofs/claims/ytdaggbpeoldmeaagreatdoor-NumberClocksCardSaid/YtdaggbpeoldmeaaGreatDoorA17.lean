/- The abstract evaluator: a region whose order is drawn. -/
import Derived.Test.YtdaggbpeoldmeaaGreatDoorA16
set_option linter.unusedVariables false
set_option linter.unusedSimpArgs false
namespace Go.Ae

structure Stat (P : Program) (nt : Nat) (ops : Array Oper) (as : List AOper) (anc : Nat → Nat → Prop) (names : Nat → List Nat) : Prop where
  size : as.length = ops.size
  cops : ∀ (k : Nat) (o : Oper) (x : AOper), ops[k]? = some o → as[k]? = some x → COp P nt ops o x
  back : ∀ (k : Nat) (o : Oper), ops[k]? = some o → ∀ e ∈ o.after, Region.binds .any e = true → e.on < k
  ancs : ∀ (S : Nat → Prop), (∀ j, S j → ∀ i, anc j i → S i) → ∀ (k : Nat) (o : Oper), ops[k]? = some o → (∀ e ∈ o.after, Region.binds .any e = true → S e.on) → ∀ i, anc k i → S i
  chain : ∀ (j k : Nat) (x y : AOper), j < k → as[j]? = some x → as[k]? = some y → x.cls = 2 → y.cls = 2 → anc k j
  alloc1 : ∀ (j k : Nat) (x y : AOper), j < k → as[j]? = some x → as[k]? = some y → x.cls = 1 → y.cls ≠ 1 → anc k j
  alloc2 : ∀ (j i k : Nat) (x z y : AOper), j < i → i < k → as[j]? = some x → as[i]? = some z → as[k]? = some y → x.cls = 2 → z.cls = 1 → y.cls = 0 → anc k j
  slot : ∀ (j k : Nat) (x y : AOper), j < k → as[j]? = some x → as[k]? = some y → ¬ anc k j → (∀ d, x.dst = some d → d ∉ names k) ∧ (∀ d, y.dst = some d → d ∉ names j)
  uniq : ∀ (j k : Nat) (x y : AOper) (d : Nat), as[j]? = some x → as[k]? = some y → x.dst = some d → y.dst = some d → j = k
  nms : ∀ (k : Nat) (o : Oper) (x : AOper), ops[k]? = some o → as[k]? = some x → (∀ t, .tmp t ∈ o.op.operands → t ∈ names k) ∧ (∀ t, .t t ∈ x.op.opds → t ∈ names k) ∧ (∀ d b, x.grd = some (d, b) → d ∈ names k)
  agrd : ∀ (k : Nat) (x : AOper), as[k]? = some x → x.cls = 1 → x.grd = none ∧ names k = []
  stab : ∀ (k : Nat) (x : AOper) (u : Nat), as[k]? = some x → x.cls = 0 → x.stab = some u → k ≤ u ∧ u < as.length ∧ ∀ (j : Nat) (y : AOper), as[j]? = some y → k < j → y.cls = 2 → ¬ anc j k → j ≤ u

theorem cop_nosel {P : Program} {o : Oper} {a : AOp} (h : cop P o = some a) : ∀ cs b, o.op ≠ .select cs b := by
  intro cs b e
  unfold cop at h
  rw [e] at h
  simp at h
theorem cls_le (x : AOper) : x.cls = 0 ∨ x.cls = 1 ∨ x.cls = 2 := by
  unfold AOper.cls; repeat' split
  all_goals simp
theorem cls_one {x : AOper} (h : x.cls = 1) : ∃ z, x.op = .alloc z := by
  unfold AOper.cls at h
  repeat' split at h
  all_goals first | exact ⟨_, by assumption⟩ | cases h
theorem cls_zero {x : AOper} (h : x.cls = 0) : x.op.calls = false ∧ (x.op.pure = true ∨ ∃ a n y u, x.op = .load a n y ∧ x.stab = some u) := by
  obtain ⟨dst, op, grd, stab⟩ := x
  cases op
  case load a n y =>
    cases stab with
    | none => simp [AOper.cls] at h
    | some u => exact ⟨rfl, .inr ⟨a, n, y, u, rfl, rfl⟩⟩
  case sl sz y lo hi =>
    cases lo with
    | none => exact ⟨rfl, .inl rfl⟩
    | some l => simp [AOper.cls, AOp.pure] at h
  all_goals first
    | exact ⟨rfl, .inl rfl⟩
    | (simp [AOper.cls, AOp.pure] at h; done)
/-- What an allocated row's zero holds: no token. -/
def NA (P : Program) (o : Option AOp) : Prop := ∀ z, o = some (.alloc z) → ∃ e, czero P e = some z
theorem na_bind {P : Program} {α : Type} {x : Option α} {f : α → Option AOp} (h : ∀ y, x = some y → NA P (f y)) : NA P (x.bind f) := fun a e => by
  obtain ⟨y, hx, hy⟩ := bind_some e
  exact h y hx a hy
theorem na_some {P : Program} {a : AOp} (h : ∀ z, a ≠ .alloc z) : NA P (some a) := fun z e => absurd (Option.some.inj e) (h z)
theorem na_none {P : Program} : NA P none := nofun
theorem na_op {P : Program} {o : Oper} : NA P (cop P o) := by
  obtain ⟨dst, op, ty, pos, af, gd⟩ := o
  cases op
  case alloc e =>
    intro z hz
    simp only [cop] at hz
    obtain ⟨y, hy, hz⟩ := bind_some hz
    simp only [Option.some.injEq, AOp.alloc.injEq] at hz
    subst hz; exact ⟨e, hy⟩
  case call c =>
    obtain ⟨callee, args, ats⟩ := c
    cases callee
    case value f => cases f <;> simp only [cop] <;> repeat' (first | exact na_none | exact na_some (fun _ => nofun) | (apply na_bind; intro _ _) | split)
    case invoke x n => simp only [cop] <;> repeat' (first | exact na_none | exact na_some (fun _ => nofun) | (apply na_bind; intro _ _) | split)
    case builtin b => cases b <;> simp only [cop] <;> repeat' (first | exact na_none | exact na_some (fun _ => nofun) | (apply na_bind; intro _ _) | split)
  case makeFunc f first cs => cases f <;> simp only [cop] <;> repeat' (first | exact na_none | exact na_some (fun _ => nofun) | (apply na_bind; intro _ _) | split)
  case makeMap t r => cases r <;> simp only [cop] <;> repeat' (first | exact na_none | exact na_some (fun _ => nofun) | (apply na_bind; intro _ _) | split)
  case slice t x lo hi m => cases m <;> simp only [cop] <;> repeat' (first | exact na_none | exact na_some (fun _ => nofun) | (apply na_bind; intro _ _) | split)
  case next x b => cases b <;> simp only [cop] <;> repeat' (first | exact na_none | exact na_some (fun _ => nofun) | (apply na_bind; intro _ _) | split)
  all_goals simp only [cop] <;> repeat' (first | exact na_none | exact na_some (fun _ => nofun) | (apply na_bind; intro _ _) | split)
theorem alloc_closed {P : Program} {o : Oper} {z : List AV} (h : cop P o = some (.alloc z)) : ∃ vs : List Value, ∀ (ρ : Rho) (N : Nat), encs ρ z = vs ∧ oks ρ N z ∧ ∀ v ∈ z, v.one = true := by
  obtain ⟨e, he⟩ := na_op z h
  obtain ⟨i, zv, h1, h2, h3⟩ := zero_of he
  exact ⟨_, fun ρ N => cvals_enc h3 ρ N⟩

section
variable {P : Program} {base nt N : Nat} {E : Env} {ops : Array Oper} {as : List AOper} {anc : Nat → Nat → Prop} {names : Nat → List Nat} {ss : Nat → St} {vs : Nat → AV} {ρ0 ρ ρ' : Rho} {a0 a : Act} {w0 w w' : World}
variable {c0 : Nat}

theorem Tr.at (T : Tr E N 0 as c0 ss vs) {k : Nat} {x : AOper} (hx : as[k]? = some x) :
    (wanted (ss k).tm x.grd = true ∧ (∃ m, m < N ∧ opA x.op E (exec E m) (ss k) = some (vs k, (ss (k + 1)).hp)) ∧ (ss (k + 1)).tm = put (ss k).tm x.dst (vs k) ∧
      (∀ u, x.stab = some u → ∃ t, reads (ss k) x.op = some t ∧ (k ≤ u → u < as.length → old (ss (u + 1)).hp c0 t = true))) ∨
    (wanted (ss k).tm x.grd = false ∧ vs k = und ∧ (ss (k + 1)).hp = (ss k).hp ∧ (ss (k + 1)).tm = put (ss k).tm x.dst (vs k)) := by
  have := T.step k x hx
  simp only [Nat.zero_add] at this
  rcases this with h | ⟨h1, h2, h3, h4⟩
  · exact .inl h
  · exact .inr ⟨h1, h2, h3, by rw [h2]; exact h4⟩
theorem Tr.tm (T : Tr E N 0 as c0 ss vs) {k : Nat} {x : AOper} (hx : as[k]? = some x) : (ss (k + 1)).tm = put (ss k).tm x.dst (vs k) := by
  rcases T.at hx with h | h
  · exact h.2.2.1
  · exact h.2.2.2
theorem get_lt {k : Nat} (h : k < as.length) : ∃ x, as[k]? = some x := ⟨as[k], List.getElem?_eq_getElem h⟩
theorem Tr.later (PL : PrimsLater E) (T : Tr E N 0 as c0 ss vs) (j : Nat) : ∀ d, j + d ≤ as.length → Later (ss j).hp (ss (j + d)).hp
  | 0, _ => Later.refl _
  | d + 1, h => by
    refine (T.later PL j d (by omega)).trans ?_
    obtain ⟨x, hx⟩ := get_lt (as := as) (k := j + d) (by omega)
    rcases T.at hx with ⟨_, ⟨m, _, ho⟩, _⟩ | ⟨_, _, he, _⟩
    · exact opA_later PL (exec_later PL m) ho
    · rw [← Nat.add_assoc, he]; exact Later.refl _
theorem Tr.later' (PL : PrimsLater E) (T : Tr E N 0 as c0 ss vs) {j k : Nat} (h : j ≤ k) (hk : k ≤ as.length) : Later (ss j).hp (ss k).hp := by
  have := T.later PL j (k - j) (by omega)
  rwa [show j + (k - j) = k by omega] at this
theorem Tr.same (T : Tr E N 0 as c0 ss vs) {d : Nat} {j : Nat} : ∀ k, j ≤ k → k ≤ as.length → (∀ i x, j ≤ i → i < k → as[i]? = some x → x.dst ≠ some d) → val (ss k).tm (.t d) = val (ss j).tm (.t d)
  | 0, h, _, _ => by rw [show j = 0 by omega]
  | k + 1, h, hk, hn => by
    by_cases e : j = k + 1
    · rw [e]
    · obtain ⟨x, hx⟩ := get_lt (as := as) (k := k) (by omega)
      rw [T.tm hx, val_put, if_neg (hn k x (by omega) (by omega) hx)]
      exact T.same k (by omega) (by omega) (fun i x h1 h2 => hn i x h1 (by omega))
theorem Tr.wrote (ST : Stat P nt ops as anc names) (T : Tr E N 0 as c0 ss vs) {d j k : Nat} {x : AOper} (hx : as[j]? = some x) (hd : x.dst = some d) (h : j < k) (hk : k ≤ as.length) : val (ss k).tm (.t d) = vs j := by
  rw [T.same (j := j + 1) k (by omega) hk (fun i y h1 h2 hy e => by have := ST.uniq i j y x d hy hx e hd; omega), T.tm hx, val_put, if_pos hd]
/-- An operation of no chain turns no heap. -/
theorem Tr.still (T : Tr E N 0 as c0 ss vs) {k : Nat} {x : AOper} (hx : as[k]? = some x) (hc : x.cls = 0) : (ss (k + 1)).hp = (ss k).hp := by
  rcases T.at hx with ⟨_, ⟨m, _, ho⟩, _, hs⟩ | ⟨_, _, he, _⟩
  · obtain ⟨h1, h2⟩ := cls_zero hc
    have : opA x.op E (exec E m) (ss k) = aop x.op (val (ss k).tm) (ss k).hp := by cases hh : x.op <;> rw [hh] at h1 <;> first | (simp [AOp.calls] at h1; done) | rfl
    rw [this] at ho
    rcases h2 with h2 | ⟨ag, n, y, u, h3, h4⟩
    · exact (pure_any h2 ho).1
    · obtain ⟨t, ht, _⟩ := hs u h4
      rw [h3] at ho ht
      exact (load_any ho ht).1
  · exact he
theorem Tr.born (T : Tr E N 0 as c0 ss vs) {k : Nat} {x : AOper} {z : List AV} (hx : as[k]? = some x) (hz : x.op = .alloc z) : (wanted (ss k).tm x.grd = true ∧ vs k = .ptr (ss k).hp.next 0 ∧ (ss (k + 1)).hp = (ss k).hp.push fun s => .row z true s) ∨ (wanted (ss k).tm x.grd = false ∧ vs k = und ∧ (ss (k + 1)).hp = (ss k).hp) := by
  rcases T.at hx with ⟨h1, ⟨m, _, ho⟩, _⟩ | ⟨h1, h2, he, _⟩
  · rw [hz] at ho
    have ho : o_alloc z (val (ss k).tm) (ss k).hp = some (vs k, (ss (k + 1)).hp) := ho
    unfold o_alloc at ho
    obtain ⟨e1, e2⟩ := pair_inj ho
    exact .inl ⟨h1, e1.symm, e2.symm⟩
  · exact .inr ⟨h1, h2, he⟩
end
end Go.Ae
