/- The abstract evaluator: a region whose order is drawn: what holds between its operations. -/
import Derived.Test.YtdaggbpeoldmeaaGreatDoorA17
set_option linter.unusedVariables false
set_option linter.unusedSimpArgs false
namespace Go.Ae
section
variable {P : Program} {base nt N : Nat} {E : Env} {ops : Array Oper} {as : List AOper} {anc : Nat → Nat → Prop} {names : Nat → List Nat} {ss : Nat → St} {vs : Nat → AV} {ρ0 ρ ρ' : Rho} {a0 a : Act} {W0 w0 w w' : World} {h : Hp}
variable {c0 : Nat}

/-- Of a pushed row nothing is known any more. -/
theorem HRel.pop {o : Nat → AObj} (R' : HRel base ρ' (h.push o) w') (R : HRel base ρ h w) (ha : Agree h.next ρ ρ') : HRel base ρ h w' := by
  have g : ∀ t ob, h.get t = some ob → (h.push o).get t = some ob ∧ ρ' t = ρ t := fun t ob ht => by
    have := R.lt t ob ht
    exact ⟨by rw [Hp.get_push, if_neg (by omega)]; exact ht, ha t this⟩
  refine ⟨R'.size, R.lt, ?_, ?_, ?_, ?_⟩
  · intro t cs own st ht
    obtain ⟨h1, h2⟩ := g t _ ht
    have r := R.row t cs own st ht
    have r' := R'.row t cs own st h1
    refine ⟨r.one, r.ok, ?_, ?_, ?_⟩
    · have := r'.cells; rw [h2, encs_agree ha _ r.ok] at this; exact this
    · have := r'.own1; rw [h2] at this; exact this
    · have := r'.not1; rw [h2] at this; exact this
  · intro t s p st ht
    obtain ⟨h1, h2⟩ := g t _ ht
    have := R'.iter t s p st h1; rwa [h2] at this
  · intro t es st ht
    obtain ⟨h1, h2⟩ := g t _ ht
    obtain ⟨q1, q2, q3⟩ := R.map t es st ht
    obtain ⟨r1, r2, ms, c, r3, r4⟩ := R'.map t es st h1
    rw [h2] at r1 r3
    exact ⟨r1, q2, ms, c, r3, r4.trans (List.map_congr_left fun e he => by rw [enc_agree ha _ (q2 e he).2.1, enc_agree ha _ (q2 e he).2.2])⟩
  · intro t t' ob ob' ht ht' p p' hne
    obtain ⟨h1, h2⟩ := g t _ ht
    obtain ⟨h3, h4⟩ := g t' _ ht'
    have := R'.apart t t' ob ob' h1 h3 p p' hne
    rwa [h2, h4] at this
/-- A row that lies there already is taken up. -/
theorem HRel.adopt (R : HRel base ρ h w) (cs : List AV) (b o : Nat) (h1 : ∀ v ∈ cs, v.one = true) (h2 : oks ρ h.next cs) (hb : base ≤ b ∧ b < w.heap.size) (hc : w.rangeAt b o (encs ρ cs)) (hth : w.there b o cs.length)
    (hne : ∀ t ob, h.get t = some ob → ob.owned = true → (ρ t).b ≠ b) : HRel base (upd ρ h.next ⟨b, o, 0, 0⟩) (h.push fun s => .row cs true s) w := by
  have ha : Agree h.next ρ (upd ρ h.next ⟨b, o, 0, 0⟩) := upd_agree _ _ _
  have hold : ∀ t ob, h.get t = some ob → t < h.next ∧ upd ρ h.next ⟨b, o, 0, 0⟩ t = ρ t := fun t ob ht => ⟨R.lt t ob ht, ha t (R.lt t ob ht)⟩
  refine ⟨R.size, ?_, ?_, ?_, ?_, ?_⟩
  · intro t ob ht
    rw [Hp.get_push] at ht
    show t < h.next + 1
    split at ht
    · omega
    · have := R.lt t ob ht; omega
  · intro t cs' own st ht
    rw [Hp.get_push] at ht
    split at ht
    · rename_i e; subst e
      obtain ⟨rfl, rfl, rfl⟩ : cs' = cs ∧ own = true ∧ st = h.clk + 1 := by simpa [eq_comm] using ht
      refine ⟨h1, oks_agree ha (Nat.le_succ _) _ h2, ?_, ?_, by simp⟩
      · rw [upd_same, encs_agree ha _ h2]; exact hc
      · intro _; rw [upd_same]; exact ⟨hb.1, hb.2, hth, fun j hj => by simp at hj⟩
    · have r := R.row t cs' own st ht
      exact r.later ha (Nat.le_succ _) (R.lt _ _ ht) (Nat.le_refl _) (by cases own with
        | true => exact .inr rfl
        | false => exact .inr rfl)
  · intro t s p st ht
    rw [Hp.get_push] at ht
    split at ht
    · cases ht
    · rw [(hold t _ ht).2]; exact R.iter t s p st ht
  · intro t es st ht
    rw [Hp.get_push] at ht
    split at ht
    · cases ht
    · obtain ⟨r1, r2, ms, c, r3, r4⟩ := R.map t es st ht
      rw [(hold t _ ht).2]
      exact ⟨r1, fun e he => ⟨(r2 e he).1, ok_agree ha (Nat.le_succ _) _ (r2 e he).2.1, ok_agree ha (Nat.le_succ _) _ (r2 e he).2.2⟩, ms, c, r3,
        r4.trans (List.map_congr_left fun e he => by rw [enc_agree ha _ (r2 e he).2.1, enc_agree ha _ (r2 e he).2.2])⟩
  · intro t t' ob ob' ht ht' p p' hneq
    rw [Hp.get_push] at ht ht'
    split at ht <;> split at ht'
    · omega
    · rename_i e _; subst e
      rw [upd_same, (hold t' _ ht').2]; exact fun e => hne t' ob' ht' p' e.symm
    · rename_i _ e; subst e
      rw [upd_same, (hold t _ ht).2]; exact hne t ob ht p
    · rw [(hold t _ ht).2, (hold t' _ ht').2]; exact R.apart t t' ob ob' ht ht' p p' hneq

structure Early (base : Nat) (as : List AOper) (ss : Nat → St) (w0 : World) (f : Nat) (ρ : Rho) (a : Act) (w : World) (pl : Nat → Nat × Nat) (k : Nat) (x : AOper) (z : List AV) : Prop where
  slot : ∀ d, x.dst = some d → a.tmps.getD d undef = .pointer (some ⟨(pl k).1, (pl k).2, none⟩)
  cells : w.rangeAt (pl k).1 (pl k).2 (encs ρ z)
  there : w.there (pl k).1 (pl k).2 z.length
  lo : w0.heap.size ≤ (pl k).1
  lt : (pl k).1 < w.heap.size
  apart : ∀ t ob, (ss f).hp.get t = some ob → ob.owned = true → (ρ t).b ≠ (pl k).1
structure DInv (P : Program) (base nt : Nat) (ops : Array Oper) (as : List AOper) (anc : Nat → Nat → Prop) (ss : Nat → St) (vs : Nat → AV) (ρ0 : Rho) (a0 : Act) (w0 : World) (S : Nat → Prop) (f : Nat) (ρ : Rho) (a : Act) (w : World) (pl : Nat → Nat × Nat) : Prop where
  fle : f ≤ as.length
  ancs : ∀ j, S j → ∀ i, anc j i → S i
  chain : ∀ (k : Nat) (x : AOper), as[k]? = some x → x.cls = 2 → (S k ↔ k < f)
  alloc : ∀ (k : Nat) (x : AOper), as[k]? = some x → x.cls = 1 → k < f → S k
  ext : Ext base ρ0 (ss 0).hp w0 ρ (ss f).hp w
  defers : a.defers = []
  size : nt ≤ a.tmps.size
  done : ∀ (k : Nat) (x : AOper), as[k]? = some x → S k → (x.cls ≠ 1 ∨ k < f) → ok ρ (ss f).hp.next (vs k) ∧ ∀ d, x.dst = some d → a.tmps.getD d undef = enc ρ (vs k)
  early : ∀ (k : Nat) (x : AOper) (z : List AV), as[k]? = some x → S k → x.op = .alloc z → f ≤ k → Early base as ss w0 f ρ a w pl k x z
  pls : ∀ (k k' : Nat) (x x' : AOper), as[k]? = some x → as[k']? = some x' → S k → S k' → x.cls = 1 → x'.cls = 1 → f ≤ k → f ≤ k' → k ≠ k' → (pl k).1 ≠ (pl k').1
  undone : ∀ d, (∀ (k : Nat) (x : AOper), as[k]? = some x → x.dst = some d → ¬ S k) → a.tmps.getD d undef = a0.tmps.getD d undef

variable {S : Nat → Prop} {f : Nat} {pl : Nat → Nat × Nat}
theorem DInv.advance (ST : Stat P nt ops as anc names) (T : Tr E N 0 as c0 ss vs) (CP : ∀ (k : Nat) (x : AOper) (z : List AV), as[k]? = some x → x.op = .alloc z → ∃ vs : List Value, ∀ (ρ : Rho) (N : Nat), encs ρ z = vs ∧ oks ρ N z ∧ ∀ v ∈ z, v.one = true)
    (D : DInv P base nt ops as anc ss vs ρ0 a0 w0 S f ρ a w pl) (hw0 : base ≤ w0.heap.size) {x : AOper} (hx : as[f]? = some x) (h2 : x.cls ≠ 2) (h1 : x.cls = 1 → S f) :
    ∃ ρ', DInv P base nt ops as anc ss vs ρ0 a0 w0 S (f + 1) ρ' a w pl := by
  have hlt : f < as.length := (List.getElem?_eq_some_iff.1 hx).1
  have hchain : ∀ (k : Nat) (y : AOper), as[k]? = some y → y.cls = 2 → (S k ↔ k < f + 1) := fun k y hy hc => by
    rw [D.chain k y hy hc]
    constructor
    · omega
    · intro hk
      rcases Nat.lt_or_ge k f with c | c
      · exact c
      · obtain rfl : k = f := by omega
        rw [hx] at hy; obtain rfl := Option.some.inj hy; exact absurd hc h2
  have halloc : ∀ (k : Nat) (y : AOper), as[k]? = some y → y.cls = 1 → k < f + 1 → S k := fun k y hy hc hk => by
    rcases Nat.lt_or_ge k f with c | c
    · exact D.alloc k y hy hc c
    · obtain rfl : k = f := by omega
      rw [hx] at hy; obtain rfl := Option.some.inj hy; exact h1 hc
  have stay : (ss (f + 1)).hp = (ss f).hp → x.cls = 0 → ∃ ρ', DInv P base nt ops as anc ss vs ρ0 a0 w0 S (f + 1) ρ' a w pl := by
    intro he hc0
    refine ⟨ρ, by omega, D.ancs, hchain, halloc, by rw [he]; exact D.ext, D.defers, D.size, ?_, ?_, ?_, D.undone⟩
    · intro k y hy hS hk
      rw [he]
      refine D.done k y hy hS ?_
      rcases hk with c | c
      · exact .inl c
      · rcases Nat.lt_or_ge k f with c' | c'
        · exact .inr c'
        · obtain rfl : k = f := by omega
          rw [hx] at hy; obtain rfl := Option.some.inj hy; exact .inl (by omega)
    · intro k y z hy hS hz hk
      have := D.early k y z hy hS hz (by omega)
      exact ⟨this.slot, this.cells, this.there, this.lo, this.lt, by rw [he]; exact this.apart⟩
    · intro k k' y y' hy hy' hS hS' hc hc' hk hk' hne
      exact D.pls k k' y y' hy hy' hS hS' hc hc' (by omega) (by omega) hne
  rcases cls_le x with c | c | c
  · exact stay (T.still hx c) c
  · obtain ⟨z, hz⟩ := cls_one c
    have hwt : wanted (ss f).tm x.grd = true := by rw [(ST.agrd f x hx c).1]; rfl
    rcases T.born hx hz with ⟨_, hv, he⟩ | ⟨hn, _⟩
    · obtain ⟨vz, hvz⟩ := CP f x z hx hz
      have ea := D.early f x z hx (h1 c) hz (Nat.le_refl _)
      have ha : Agree (ss f).hp.next ρ (upd ρ (ss f).hp.next ⟨(pl f).1, (pl f).2, 0, 0⟩) := upd_agree _ _ _
      have R := D.ext.rel.adopt z (pl f).1 (pl f).2 (hvz ρ 0).2.2 (hvz ρ _).2.1 ⟨Nat.le_trans hw0 ea.lo, ea.lt⟩ ea.cells ea.there ea.apart
      have hnx : (ss (f + 1)).hp.next = (ss f).hp.next + 1 := by rw [he]; rfl
      refine ⟨_, by omega, D.ancs, hchain, halloc, ⟨D.ext.agree.trans ha D.ext.next, by rw [hnx]; have := D.ext.next; omega, by rw [he]; exact R, D.ext.keep, ?_⟩, D.defers, D.size, ?_, ?_, ?_, D.undone⟩
      · intro t ob ht ho
        rw [he, Hp.get_push] at ht
        split at ht
        · rename_i e; subst e; rw [upd_same]; exact .inl ea.lo
        · rw [ha t (D.ext.rel.lt t ob ht)]; exact D.ext.fresh t ob ht ho
      · intro k y hy hS hk
        by_cases hkf : k = f
        · subst hkf
          rw [hx] at hy; obtain rfl := Option.some.inj hy
          rw [hv]
          refine ⟨by simp only [ok]; omega, fun d hd => ?_⟩
          rw [ea.slot d hd]; simp [enc, upd_same]
        · obtain ⟨d1, d2⟩ := D.done k y hy hS (by rcases hk with c | c; exact .inl c; exact .inr (by omega))
          exact ⟨ok_agree ha (by omega) _ d1, fun d hd => by rw [enc_agree ha _ d1]; exact d2 d hd⟩
      · intro k y z' hy hS hz' hk
        have q := D.early k y z' hy hS hz' (by omega)
        obtain ⟨vz', hvz'⟩ := CP k y z' hy hz'
        refine ⟨q.slot, by rw [(hvz' _ 0).1, ← (hvz' ρ 0).1]; exact q.cells, q.there, q.lo, q.lt, ?_⟩
        intro t ob ht ho
        rw [he, Hp.get_push] at ht
        split at ht
        · rename_i e; subst e; rw [upd_same]
          have hc' : y.cls = 1 := by unfold AOper.cls; rw [hz']
          exact D.pls f k x y hx hy (h1 c) hS c hc' (Nat.le_refl _) (by omega) (by omega)
        · rw [ha t (D.ext.rel.lt t ob ht)]; exact q.apart t ob ht ho
      · intro k k' y y' hy hy' hS hS' hc hc' hk hk' hne
        exact D.pls k k' y y' hy hy' hS hS' hc hc' (by omega) (by omega) hne
    · rw [hwt] at hn; cases hn
  · exact absurd c h2
/-- What an operation that is ready finds in its slots. -/
theorem DInv.slots (ST : Stat P nt ops as anc names) (T : Tr E N 0 as c0 ss vs) (S0 : Sim W0 base nt ρ0 (ss 0) a0 w0) (D : DInv P base nt ops as anc ss vs ρ0 a0 w0 S f ρ a w pl) {i : Nat} {x : AOper} (hx : as[i]? = some x) (hn : ¬ S i)
    (ha : ∀ j, anc i j → S j) (hal : ∀ (k : Nat) (y : AOper), as[k]? = some y → y.cls = 1 → k < i → k < f) {d : Nat} (hd : d ∈ names i) :
    a.tmps.getD d undef = enc ρ (val (ss i).tm (.t d)) ∧ ok ρ (ss f).hp.next (val (ss i).tm (.t d)) := by
  have hlt : i < as.length := (List.getElem?_eq_some_iff.1 hx).1
  have und : (∀ (k : Nat) (y : AOper), as[k]? = some y → y.dst = some d → ¬ S k) → (∀ (k : Nat) (y : AOper), 0 ≤ k → k < i → as[k]? = some y → y.dst ≠ some d) → a.tmps.getD d undef = enc ρ (val (ss i).tm (.t d)) ∧ ok ρ (ss f).hp.next (val (ss i).tm (.t d)) := by
    intro h1 h2
    obtain ⟨q1, q2⟩ := S0.tmp d
    rw [D.undone d h1, T.same i (Nat.zero_le _) (by omega) h2, q1]
    exact ⟨(enc_agree D.ext.agree _ q2).symm, ok_agree D.ext.agree D.ext.next _ q2⟩
  by_cases hw : ∃ (k : Nat) (y : AOper), as[k]? = some y ∧ y.dst = some d
  · obtain ⟨k, y, hy, hyd⟩ := hw
    rcases Nat.lt_trichotomy k i with c | c | c
    · have hak : anc i k := Classical.byContradiction fun hna => (ST.slot k i y x c hy hx hna).1 d hyd hd
      have hSk := ha k hak
      obtain ⟨d1, d2⟩ := D.done k y hy hSk (by
        by_cases hc : y.cls = 1
        · exact .inr (hal k y hy hc c)
        · exact .inl hc)
      rw [T.wrote ST hy hyd c (by omega)]
      exact ⟨d2 d hyd, d1⟩
    · subst c
      refine und (fun k' y' hy' hd' hS' => ?_) (fun k' y' _ hk' hy' hd' => ?_)
      · have := ST.uniq k' k y' y d hy' hy hd' hyd; subst this; exact hn hS'
      · have := ST.uniq k' k y' y d hy' hy hd' hyd; omega
    · have hSk : ¬ S k := fun hS => by
        have hak : anc k i := Classical.byContradiction fun hna => (ST.slot i k x y c hx hy hna).2 d hyd hd
        exact hn (D.ancs k hS i hak)
      refine und (fun k' y' hy' hd' hS' => ?_) (fun k' y' _ hk' hy' hd' => ?_)
      · have := ST.uniq k' k y' y d hy' hy hd' hyd; subst this; exact hSk hS'
      · have := ST.uniq k' k y' y d hy' hy hd' hyd; omega
  · exact und (fun k y hy hd' => absurd ⟨k, y, hy, hd'⟩ hw) (fun k y _ _ hy hd' => absurd ⟨k, y, hy, hd'⟩ hw)
theorem get_foldl (g : Nat → AV) : ∀ (l : List Nat) (t : Ae.T AV) (k : Nat), (l.foldl (fun t d => t.set d (g d)) t).get k = if k ∈ l then some (g k) else t.get k
  | [], t, k => by simp
  | d :: l, t, k => by
    rw [List.foldl_cons, get_foldl g l, Ae.T.get_set]
    by_cases h : k ∈ l
    · simp [h]
    · by_cases h' : k = d
      · simp [h']
      · simp [h, h']
noncomputable def slotsOf (names : List Nat) (tm : Ae.T AV) : Ae.T AV := names.foldl (fun t d => t.set d (val tm (.t d))) .nil
/-- The same, for all operands at once. -/
theorem evals_of {names : List Nat} {tm : Ae.T AV} {n : Nat} (hs : ∀ d ∈ names, a.tmps.getD d undef = enc ρ (val tm (.t d)) ∧ ok ρ n (val tm (.t d))) :
    ∃ (ev : Operand → Value) (tm' : Ae.T AV), Evals ρ n ev tm' ∧ (∀ x, (∀ t, x = .tmp t → t ∈ names) → a.eval x = ev x) ∧ ∀ y, (∀ t, y = .t t → t ∈ names) → val tm y = val tm' y := by
  have hv : ∀ t, val (slotsOf names tm) (.t t) = if t ∈ names then val tm (.t t) else und := by
    intro t
    show ((slotsOf names tm).get t).getD und = _
    unfold slotsOf
    rw [get_foldl]
    split <;> rfl
  refine ⟨fun x => match copd x with | some y => enc ρ (val (slotsOf names tm) y) | none => a.eval x, slotsOf names tm, ?_, ?_, ?_⟩
  · intro x y hx
    refine ⟨by simp only [hx], ?_⟩
    rcases copd_cases hx with ⟨t, rfl, rfl⟩ | hh
    · rw [hv]
      split
      · exact (hs t (by assumption)).2
      · trivial
    · exact (hh a ρ n _).2.1
  · intro x hx
    show a.eval x = match copd x with | some y => _ | none => _
    cases hc : copd x with
    | none => rfl
    | some y =>
      rcases copd_cases hc with ⟨t, rfl, rfl⟩ | hh
      · simp only [hv, if_pos (hx t rfl)]
        exact (hs t (hx t rfl)).1
      · exact (hh a ρ n _).1
  · intro y hy
    cases y with
    | t t => rw [hv, if_pos (hy t rfl)]
    | k v => rfl
/-- After an operation that is no allocation. -/
theorem DInv.exec (ST : Stat P nt ops as anc names) (CP : ∀ (k : Nat) (x : AOper) (z : List AV), as[k]? = some x → x.op = .alloc z → ∃ vs : List Value, ∀ (ρ : Rho) (N : Nat), encs ρ z = vs ∧ oks ρ N z ∧ ∀ v ∈ z, v.one = true)
    (D : DInv P base nt ops as anc ss vs ρ0 a0 w0 S f ρ a w pl) {i : Nat} {x : AOper} (hx : as[i]? = some x) (hn : ¬ S i)
    (ha : ∀ j, anc i j → S j) (hlt : ∀ d, x.dst = some d → d < nt) {f' : Nat} (hf : (x.cls = 0 ∧ f' = f) ∨ (x.cls = 2 ∧ f = i ∧ f' = i + 1)) {h' : Hp} (hh : (ss f').hp = h') (X : Ext base ρ (ss f).hp w ρ' h' w') (hv : ok ρ' h'.next (vs i)) :
    DInv P base nt ops as anc ss vs ρ0 a0 w0 (fun j => S j ∨ j = i) f' ρ' (a.put x.dst (enc ρ' (vs i))) w' pl := by
  subst hh
  have hi : i < as.length := (List.getElem?_eq_some_iff.1 hx).1
  have hxx : ∀ y, as[i]? = some y → y = x := fun y hy => by rw [hx] at hy; exact (Option.some.inj hy).symm
  have hff : f ≤ f' := by rcases hf with ⟨_, c⟩ | ⟨_, c, d⟩ <;> omega
  have hc1 : x.cls ≠ 1 := by rcases hf with ⟨c, _⟩ | ⟨c, _⟩ <;> omega
  have hget : ∀ t, (a.put x.dst (enc ρ' (vs i))).tmps.getD t undef = if x.dst = some t then enc ρ' (vs i) else a.tmps.getD t undef := fun t => getD_put _ _ _ (fun d hd => Nat.lt_of_lt_of_le (hlt d hd) D.size) t
  refine ⟨?_, ?_, ?_, ?_, D.ext.trans X, by rw [put_defers]; exact D.defers, by rw [put_size]; exact D.size, ?_, ?_, ?_, ?_⟩
  · rcases hf with ⟨_, rfl⟩ | ⟨_, _, rfl⟩
    · exact D.fle
    · omega
  · intro j hj k hk
    rcases hj with hj | rfl
    · exact .inl (D.ancs j hj k hk)
    · exact .inl (ha k hk)
  · intro k y hy hc
    by_cases hki : k = i
    · subst hki
      obtain rfl := hxx y hy
      rcases hf with ⟨c, _⟩ | ⟨_, rfl, rfl⟩
      · omega
      · simp
    · rw [show (S k ∨ k = i) ↔ S k by simp [hki], D.chain k y hy hc]
      rcases hf with ⟨_, rfl⟩ | ⟨_, rfl, rfl⟩
      · exact Iff.rfl
      · omega
  · intro k y hy hc hk
    by_cases hki : k = i
    · exact .inr hki
    · refine .inl (D.alloc k y hy hc ?_)
      rcases hf with ⟨_, rfl⟩ | ⟨_, rfl, rfl⟩ <;> omega
  · intro k y hy hS hk
    by_cases hki : k = i
    · subst hki
      obtain rfl := hxx y hy
      exact ⟨hv, fun d hd => by rw [hget, if_pos hd]⟩
    · have hSk : S k := hS.resolve_right hki
      obtain ⟨d1, d2⟩ := D.done k y hy hSk (by
        rcases hk with c | c
        · exact .inl c
        · rcases hf with ⟨_, rfl⟩ | ⟨_, rfl, rfl⟩
          · exact .inr c
          · exact .inr (by omega))
      refine ⟨ok_agree X.agree X.next _ d1, fun d hd => ?_⟩
      rw [hget, if_neg (fun e => hki (ST.uniq k i y x d hy hx hd e)), enc_agree X.agree _ d1]
      exact d2 d hd
  · intro k y z hy hS hz hk
    have hyc : y.cls = 1 := by unfold AOper.cls; rw [hz]
    have hki : k ≠ i := fun e => by subst e; obtain rfl := hxx y hy; exact hc1 hyc
    have q := D.early k y z hy (hS.resolve_right hki) hz (by omega)
    obtain ⟨vz, hvz⟩ := CP k y z hy hz
    have hb : w'.heap[(pl k).1]? = w.heap[(pl k).1]? := X.keep.block _ q.lt q.apart
    refine ⟨fun d hd => ?_, ?_, there_heap hb q.there, q.lo, Nat.lt_of_lt_of_le q.lt X.keep.size, ?_⟩
    · rw [hget, if_neg (fun e => hki (ST.uniq k i y x d hy hx hd e))]; exact q.slot d hd
    · rw [(hvz ρ' 0).1, ← (hvz ρ 0).1]; exact rangeAt_heap hb q.cells
    · intro t ob ht ho e
      rcases X.fresh t ob ht ho with c | ⟨t0, o0, c1, c2, c3⟩
      · rw [e] at c; have := q.lt; omega
      · exact q.apart t0 o0 c1 c2 (c3.trans e)
  · intro k k' y y' hy hy' hS hS' hc hc' hk hk' hne
    have hki : k ≠ i := fun e => by subst e; obtain rfl := hxx y hy; exact hc1 hc
    have hki' : k' ≠ i := fun e => by subst e; obtain rfl := hxx y' hy'; exact hc1 hc'
    exact D.pls k k' y y' hy hy' (hS.resolve_right hki) (hS'.resolve_right hki') hc hc' (by omega) (by omega) hne
  · intro d hd
    rw [hget, if_neg (fun e => hd i x hx e (.inr rfl))]
    exact D.undone d fun k y hy hyd hS => hd k y hy hyd (.inl hS)
/-- After an allocation. -/
theorem DInv.alloced (ST : Stat P nt ops as anc names) (CP : ∀ (k : Nat) (x : AOper) (z : List AV), as[k]? = some x → x.op = .alloc z → ∃ vs : List Value, ∀ (ρ : Rho) (N : Nat), encs ρ z = vs ∧ oks ρ N z ∧ ∀ v ∈ z, v.one = true)
    (D : DInv P base nt ops as anc ss vs ρ0 a0 w0 S f ρ a w pl) {i : Nat} {x : AOper} {z : List AV} (hx : as[i]? = some x) (hz : x.op = .alloc z) (hn : ¬ S i)
    (ha : ∀ j, anc i j → S j) (hlt : ∀ d, x.dst = some d → d < nt) (X : Ext base ρ (ss f).hp w ρ' ((ss f).hp.push fun s => .row z true s) w') :
    DInv P base nt ops as anc ss vs ρ0 a0 w0 (fun j => S j ∨ j = i) f ρ (a.put x.dst (enc ρ' (.ptr (ss f).hp.next 0))) w' (fun k => if k = i then ((ρ' (ss f).hp.next).b, (ρ' (ss f).hp.next).o) else pl k) := by
  have hi : i < as.length := (List.getElem?_eq_some_iff.1 hx).1
  have hc : x.cls = 1 := by unfold AOper.cls; rw [hz]
  have hxx : ∀ y, as[i]? = some y → y = x := fun y hy => by rw [hx] at hy; exact (Option.some.inj hy).symm
  have hget : ∀ t, (a.put x.dst (enc ρ' (.ptr (ss f).hp.next 0))).tmps.getD t undef = if x.dst = some t then enc ρ' (.ptr (ss f).hp.next 0) else a.tmps.getD t undef := fun t => getD_put _ _ _ (fun d hd => Nat.lt_of_lt_of_le (hlt d hd) D.size) t
  have hR : HRel base ρ (ss f).hp w' := X.rel.pop D.ext.rel X.agree
  have hgn : ((ss f).hp.push fun s => .row z true s).get (ss f).hp.next = some (.row z true ((ss f).hp.clk + 1)) := by rw [Hp.get_push, if_pos rfl]
  have r := X.rel.row _ z true _ hgn
  obtain ⟨q1, q2, q3, q4⟩ := r.own1 rfl
  have hold : ∀ t ob, (ss f).hp.get t = some ob → ((ss f).hp.push fun s => .row z true s).get t = some ob ∧ ρ' t = ρ t ∧ t ≠ (ss f).hp.next := fun t ob ht => by
    have := D.ext.rel.lt t ob ht
    exact ⟨by rw [Hp.get_push, if_neg (by omega)]; exact ht, X.agree t this, by omega⟩
  have hap : ∀ t ob, (ss f).hp.get t = some ob → ob.owned = true → (ρ t).b ≠ (ρ' (ss f).hp.next).b := fun t ob ht ho => by
    obtain ⟨g1, g2, g3⟩ := hold t ob ht
    have := X.rel.apart t _ ob _ g1 hgn ho rfl g3
    rwa [g2] at this
  have hnew : w.heap.size ≤ (ρ' (ss f).hp.next).b := by
    rcases X.fresh _ _ hgn rfl with c | ⟨t0, o0, c1, c2, c3⟩
    · exact c
    · exact absurd c3 (hap t0 o0 c1 c2)
  have X' := D.ext.trans X
  refine ⟨D.fle, ?_, ?_, ?_, ⟨D.ext.agree, D.ext.next, hR, X'.keep, D.ext.fresh⟩, by rw [put_defers]; exact D.defers, by rw [put_size]; exact D.size, ?_, ?_, ?_, ?_⟩
  · intro j hj k hk
    rcases hj with hj | rfl
    · exact .inl (D.ancs j hj k hk)
    · exact .inl (ha k hk)
  · intro k y hy hyc
    have hki : k ≠ i := fun e => by subst e; obtain rfl := hxx y hy; omega
    rw [show (S k ∨ k = i) ↔ S k by simp [hki], D.chain k y hy hyc]
  · intro k y hy hyc hk
    exact .inl (D.alloc k y hy hyc hk)
  · intro k y hy hS hk
    have hki : k ≠ i := fun e => by
      subst e; obtain rfl := hxx y hy
      rcases hk with c | c
      · exact c hc
      · exact hn (D.alloc _ _ hy hc c)
    obtain ⟨d1, d2⟩ := D.done k y hy (hS.resolve_right hki) hk
    exact ⟨d1, fun d hd => by rw [hget, if_neg (fun e => hki (ST.uniq k i y x d hy hx hd e))]; exact d2 d hd⟩
  · intro k y z' hy hS hz' hk
    by_cases hki : k = i
    · subst hki
      obtain rfl := hxx y hy
      obtain rfl : z = z' := by rw [hz] at hz'; exact AOp.alloc.inj hz'
      obtain ⟨vz, hvz⟩ := CP k y z hy hz
      refine ⟨fun d hd => by rw [hget, if_pos hd, if_pos rfl]; simp [enc], ?_, ?_, ?_, ?_, ?_⟩ <;> rw [if_pos rfl]
      · rw [(hvz ρ 0).1, ← (hvz ρ' 0).1]; exact r.cells
      · exact q3
      · exact Nat.le_trans D.ext.keep.size hnew
      · exact q2
      · exact hap
    · have q := D.early k y z' hy (hS.resolve_right hki) hz' hk
      have hb : w'.heap[(pl k).1]? = w.heap[(pl k).1]? := X.keep.block _ q.lt q.apart
      refine ⟨fun d hd => ?_, ?_, ?_, ?_, ?_, ?_⟩ <;> rw [if_neg hki]
      · rw [hget, if_neg (fun e => hki (ST.uniq k i y x d hy hx hd e))]; exact q.slot d hd
      · exact rangeAt_heap hb q.cells
      · exact there_heap hb q.there
      · exact q.lo
      · exact Nat.lt_of_lt_of_le q.lt X.keep.size
      · exact q.apart
  · intro k k' y y' hy hy' hS hS' hyc hyc' hk hk' hne
    have lt : ∀ (j : Nat) (u : AOper), as[j]? = some u → u.cls = 1 → S j → f ≤ j → (pl j).1 < w.heap.size := fun j u hu huc hj hfj => by
      obtain ⟨zz, hzz⟩ := cls_one huc
      exact (D.early j u zz hu hj hzz hfj).lt
    by_cases hki : k = i
    · by_cases hki' : k' = i
      · omega
      · simp only [if_pos hki, if_neg hki']
        have := lt k' y' hy' hyc' (hS'.resolve_right hki') hk'
        omega
    · by_cases hki' : k' = i
      · simp only [if_neg hki, if_pos hki']
        have := lt k y hy hyc (hS.resolve_right hki) hk
        omega
      · simp only [if_neg hki, if_neg hki']
        exact D.pls k k' y y' hy hy' (hS.resolve_right hki) (hS'.resolve_right hki') hyc hyc' hk hk' hne
  · intro d hd
    rw [hget, if_neg (fun e => hd i x hx e (.inr rfl))]
    exact D.undone d fun k y hy hyd hS => hd k y hy hyd (.inl hS)
end
end Go.Ae
