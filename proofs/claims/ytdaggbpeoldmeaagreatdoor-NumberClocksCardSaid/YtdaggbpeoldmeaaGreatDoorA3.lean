/- The abstract evaluator: what stores, appends and updates do to what is told. -/
import Derived.Test.YtdaggbpeoldmeaaGreatDoorA2
set_option linter.unusedVariables false
set_option linter.unusedSimpArgs false
namespace Go.Ae

theorem heap_setCells (b : Nat) : ∀ (vs : List Value) (o : Nat) (w : World), (w.setCells b o vs).heap.size = w.heap.size ∧ (∀ k, k ≠ b → (w.setCells b o vs).heap[k]? = w.heap[k]?) ∧
    (w.setCells b o vs).os = w.os ∧ (w.setCells b o vs).tape = w.tape ∧ (w.setCells b o vs).output = w.output
  | [], _, w => ⟨rfl, fun _ _ => rfl, rfl, rfl, rfl⟩
  | v :: r, o, w => by
    obtain ⟨h1, h2, h3, h4, h5⟩ := heap_setCells b r (o + 1) (w.setCell ⟨b, o, none⟩ v)
    refine ⟨h1.trans (by simp [World.setCell]), fun k hk => (h2 k hk).trans ?_, h3, h4, h5⟩
    exact Go.RowKit.Below.heap_setCell w ⟨b, o, none⟩ v k hk
theorem there_setCells {w : World} {b o n : Nat} (h : w.there b o n) (p : Nat) (vs : List Value) : (w.setCells b p vs).there b o n := by
  intro j hj
  refine ⟨?_, by rw [World.frozen?_setCells]; exact (h j hj).2⟩
  have h0 := (h j hj).1
  clear hj
  have key : ∀ (vs : List Value) (p : Nat) (w : World), (w.cell? ⟨b, o + j, none⟩).isSome = true → ((w.setCells b p vs).cell? ⟨b, o + j, none⟩).isSome = true := by
    intro vs
    induction vs with
    | nil => intro p w h; exact h
    | cons v r ih =>
      intro p w h
      refine ih (p + 1) _ ?_
      by_cases e : p = o + j
      · subst e
        obtain ⟨u, hu⟩ := Option.isSome_iff_exists.1 h
        rw [World.cell?_setCell_same w _ v hu]; rfl
      · rw [World.cell?_setCell_other _ _ _ _ (by simp; omega)]; exact h
  exact key vs p w h0
theorem getElem?_splice (cs vs : List AV) (o j : Nat) (hl : o + vs.length ≤ cs.length) : (splice cs o vs)[j]? = if o ≤ j ∧ j < o + vs.length then vs[j - o]? else cs[j]? := by
  unfold splice
  by_cases h1 : j < o
  · rw [List.getElem?_append_left (by simp; omega), if_neg (by omega), List.getElem?_take_of_lt h1]
  · rw [List.getElem?_append_right (by simp; omega), List.length_take, Nat.min_eq_left (by omega)]
    by_cases h2 : j < o + vs.length
    · rw [List.getElem?_append_left (by omega), if_pos ⟨by omega, h2⟩]
    · rw [List.getElem?_append_right (by omega), if_neg (by omega), List.getElem?_drop]
      congr 1; omega
theorem length_splice (cs vs : List AV) (o : Nat) (hl : o + vs.length ≤ cs.length) : (splice cs o vs).length = cs.length := by
  unfold splice; simp; omega
theorem mem_splice {cs vs : List AV} {o : Nat} {v : AV} (h : v ∈ splice cs o vs) : v ∈ cs ∨ v ∈ vs := by
  unfold splice at h
  rcases List.mem_append.1 h with h | h
  · exact .inl (List.mem_of_mem_take h)
  · rcases List.mem_append.1 h with h | h
    · exact .inr h
    · exact .inl (List.mem_of_mem_drop h)

/-- An owned object changes, and its block alone. -/
theorem Ext.changed {base : Nat} {ρ : Rho} {h : Hp} {w w' : World} (R : HRel base ρ h w) {t : Nat} {ob0 : AObj} (ht : h.get t = some ob0) (how : ob0.owned = true) (ob : Nat → AObj)
    (hos : w'.os = w.os) (htp : w'.tape = w.tape) (hou : w'.output = w.output) (hs : w'.heap.size = w.heap.size) (hb : ∀ k, k ≠ (ρ t).b → w'.heap[k]? = w.heap[k]?)
    (hnew : match ob (h.clk + 1) with
      | .row cs own _ => RowRel base ρ h.next w' t cs own
      | .dead _ => True
      | .siter s p _ => (ρ t).o = 0 ∧ w'.heap[(ρ t).b]? = some (.stringIter ⟨s.toArray⟩ p)
      | .amap es _ => (∀ e ∈ es, e.1.one = true ∧ ok ρ h.next e.1 ∧ ok ρ h.next e.2) ∧ ∃ ms c, w'.heap[(ρ t).b]? = some (.map ms c) ∧ ms.toList.map (fun m => (m.key, m.val)) = es.map (fun e => (enc ρ e.1, enc ρ e.2))) :
    Ext base ρ h w ρ (h.put t ob) w' := by
  have hbt := R.owned_lt ht how
  have hoth : ∀ t' ob', t' ≠ t → h.get t' = some ob' → ob'.owned = true → w'.heap[(ρ t').b]? = w.heap[(ρ t').b]? := fun t' ob' hne ht' ho' => hb _ (R.apart t' t ob' ob0 ht' ht ho' how hne)
  refine ⟨Agree.refl _ _, Nat.le_refl _, ⟨by rw [hs]; exact R.size, ?_, ?_, ?_, ?_, ?_⟩, ⟨hos, htp, hou, by omega, fun k hk hn => hb k (fun e => hn t ob0 ht how e.symm)⟩, ?_⟩
  · intro t' o' ht'
    rw [Hp.get_put] at ht'
    split at ht'
    · rename_i e; subst e; exact R.lt _ _ ht
    · exact R.lt _ _ ht'
  · intro t' cs own st ht'
    rw [Hp.get_put] at ht'
    split at ht'
    · rename_i e; subst e
      have e1 : ob (h.clk + 1) = .row cs own st := by simpa using ht'
      rw [e1] at hnew; exact hnew
    · rename_i hne
      have r := R.row t' cs own st ht'
      refine r.later (Agree.refl _ _) (Nat.le_refl _) (R.lt _ _ ht') (by omega) ?_
      cases own with
      | true => exact .inr (hoth t' _ hne ht' rfl)
      | false => rcases r.not1 rfl with c | c
                 · exact .inl ⟨c, rfl⟩
                 · exact .inr (hb _ (by omega))
  · intro t' s p st ht'
    rw [Hp.get_put] at ht'
    split at ht'
    · rename_i e; subst e
      have e1 : ob (h.clk + 1) = .siter s p st := by simpa using ht'
      rw [e1] at hnew; exact ⟨hbt.1, hnew.1, hnew.2⟩
    · rename_i hne
      rw [hoth t' _ hne ht' rfl]; exact R.iter t' s p st ht'
  · intro t' es st ht'
    rw [Hp.get_put] at ht'
    split at ht'
    · rename_i e; subst e
      have e1 : ob (h.clk + 1) = .amap es st := by simpa using ht'
      rw [e1] at hnew; exact ⟨hbt.1, hnew.1, hnew.2⟩
    · rename_i hne
      rw [hoth t' _ hne ht' rfl]; exact R.map t' es st ht'
  · intro t1 t2 o1 o2 h1 h2 p1 p2 hne
    rw [Hp.get_put] at h1 h2
    have pick : ∀ x o, (if x = t then some (ob (h.clk + 1)) else h.get x) = some o → o.owned = true → ∃ o', h.get x = some o' ∧ o'.owned = true := by
      intro x o hx ho
      split at hx
      · rename_i e; subst e; exact ⟨ob0, ht, how⟩
      · exact ⟨o, hx, ho⟩
    obtain ⟨q1, g1, g2⟩ := pick t1 o1 h1 p1
    obtain ⟨q2, g3, g4⟩ := pick t2 o2 h2 p2
    exact R.apart t1 t2 q1 q2 g1 g3 g2 g4 hne
  · intro t' o' ht' ho'
    rw [Hp.get_put] at ht'
    split at ht'
    · rename_i e; subst e; exact .inr ⟨t', ob0, ht, how, rfl⟩
    · exact .inr ⟨t', o', ht', ho', rfl⟩
/-- A store. -/
theorem Ext.stored {base : Nat} {ρ : Rho} {h : Hp} {w : World} (R : HRel base ρ h w) {t : Nat} {cs : List AV} {st : Nat} (ht : h.get t = some (.row cs true st)) (o : Nat) (vs : List AV)
    (hl : o + vs.length ≤ cs.length) (h1 : ∀ v ∈ vs, v.one = true) (h2 : oks ρ h.next vs) :
    Ext base ρ h w ρ (h.put t fun s => .row (splice cs o vs) true s) (w.setCells (ρ t).b ((ρ t).o + o) (encs ρ vs)) := by
  obtain ⟨g1, g2, g3, g4, g5⟩ := heap_setCells (ρ t).b (encs ρ vs) ((ρ t).o + o) w
  have r := R.row t cs true st ht
  obtain ⟨q1, q2, q3, q4⟩ := r.own1 rfl
  refine Ext.changed R ht rfl _ g3 g4 g5 g1 g2 ?_
  show RowRel base ρ h.next _ t (splice cs o vs) true
  refine ⟨fun v hv => ?_, (oks_iff _ _ _).2 fun v hv => ?_, ?_, fun _ => ⟨q1, by rw [g1]; exact q2, ?_, there_setCells q4 _ _⟩, by simp⟩
  · rcases mem_splice hv with c | c
    · exact r.one v c
    · exact h1 v c
  · rcases mem_splice hv with c | c
    · exact (oks_iff _ _ _).1 r.ok v c
    · exact (oks_iff _ _ _).1 h2 v c
  · intro j v hv
    have hj : j < cs.length := by
      have := (List.getElem?_eq_some_iff.1 hv).1
      rw [encs_length, length_splice _ _ _ hl] at this; exact this
    rw [encs_map, List.getElem?_map, getElem?_splice _ _ _ _ hl] at hv
    split at hv
    · rename_i hh
      have hlt : j - o < (encs ρ vs).length := by rw [encs_length]; omega
      have := World.cell?_setCells_in (ρ t).b (encs ρ vs) ((ρ t).o + o) w (fun i hi => by
        have := (q3 (o + i) (by rw [encs_length] at hi; omega)).1
        rwa [show (ρ t).o + (o + i) = (ρ t).o + o + i by omega] at this) (j - o) hlt
      rw [show (ρ t).o + j = (ρ t).o + o + (j - o) by omega, this]
      rw [← hv, ← List.getElem?_map, ← encs_map, List.getElem?_eq_getElem hlt]
    · rename_i hh
      rw [World.cell?_setCells_out (ρ t).b (encs ρ vs) ((ρ t).o + o) w _ (fun _ _ => by simp only [encs_length]; omega)]
      refine r.cells j v ?_
      rw [encs_map, List.getElem?_map]; exact hv
  · rw [length_splice _ _ _ hl]; exact there_setCells q3 _ _
/-- An owned row becomes another one, in place. -/
theorem Ext.moved {base : Nat} {ρ : Rho} {h : Hp} {w w' : World} (R : HRel base ρ h w) {t : Nat} {ob0 : AObj} (ht : h.get t = some ob0) (how : ob0.owned = true) (cs : List AV) (p : Place) (hp : p.b = (ρ t).b)
    (hos : w'.os = w.os) (htp : w'.tape = w.tape) (hou : w'.output = w.output) (hs : w'.heap.size = w.heap.size) (hb : ∀ k, k ≠ (ρ t).b → w'.heap[k]? = w.heap[k]?)
    (hnew : RowRel base (upd ρ h.next p) (h.next + 1) w' h.next cs true) :
    Ext base ρ h w (upd ρ h.next p) ((h.put t fun s => .dead s).push fun s => .row cs true s) w' := by
  have hbt := R.owned_lt ht how
  have htn := R.lt _ _ ht
  have hag : Agree h.next ρ (upd ρ h.next p) := upd_agree _ _ _
  have hup : ∀ x, x < h.next → upd ρ h.next p x = ρ x := hag
  have hget : ∀ x o, ((h.put t fun s => .dead s).push fun s => .row cs true s).get x = some o → (x = h.next ∧ o = .row cs true (h.clk + 1 + 1)) ∨ (x < h.next ∧ x = t ∧ o.owned = false ∧ ∃ s, o = .dead s) ∨ (x < h.next ∧ x ≠ t ∧ h.get x = some o) := by
    intro x o hx
    rw [Hp.get_push] at hx
    split at hx
    · rename_i e; exact .inl ⟨e, by simpa [Hp.put] using hx.symm⟩
    · rw [Hp.get_put] at hx
      split at hx
      · rename_i e; subst e
        have : o = .dead (h.clk + 1) := by simpa using hx.symm
        subst this
        exact .inr (.inl ⟨htn, rfl, rfl, _, rfl⟩)
      · rename_i hne; exact .inr (.inr ⟨R.lt _ _ hx, hne, hx⟩)
  have hoth : ∀ t' ob', t' ≠ t → h.get t' = some ob' → ob'.owned = true → w'.heap[(ρ t').b]? = w.heap[(ρ t').b]? := fun t' ob' hne ht' ho' => hb _ (R.apart t' t ob' ob0 ht' ht ho' how hne)
  refine ⟨hag, Nat.le_succ _, ⟨by rw [hs]; exact R.size, ?_, ?_, ?_, ?_, ?_⟩, ⟨hos, htp, hou, by omega, fun k hk hn => hb k (fun e => hn t ob0 ht how e.symm)⟩, ?_⟩
  · intro x o hx
    show x < h.next + 1
    rcases hget x o hx with ⟨e, _⟩ | ⟨e, _⟩ | ⟨e, _⟩ <;> omega
  · intro x cs' own st hx
    rcases hget x _ hx with ⟨rfl, e⟩ | ⟨_, _, _, s, e⟩ | ⟨e1, e2, e3⟩
    · obtain ⟨rfl, rfl, rfl⟩ : cs' = cs ∧ own = true ∧ st = h.clk + 1 + 1 := by simpa using e
      exact hnew
    · cases e
    · have r := R.row x cs' own st e3
      refine r.later hag (Nat.le_succ _) e1 (by omega) ?_
      cases own with
      | true => exact .inr (hoth x _ e2 e3 rfl)
      | false => rcases r.not1 rfl with c | c
                 · exact .inl ⟨c, rfl⟩
                 · exact .inr (hb _ (by omega))
  · intro x s q st hx
    rcases hget x _ hx with ⟨rfl, e⟩ | ⟨_, _, _, s, e⟩ | ⟨e1, e2, e3⟩
    · cases e
    · cases e
    · rw [hup x e1, hoth x _ e2 e3 rfl]; exact R.iter x s q st e3
  · intro x es st hx
    rcases hget x _ hx with ⟨rfl, e⟩ | ⟨_, _, _, s, e⟩ | ⟨e1, e2, e3⟩
    · cases e
    · cases e
    · obtain ⟨r1, r2, ms, c, r3, r4⟩ := R.map x es st e3
      rw [hup x e1]
      refine ⟨r1, fun e he => ⟨(r2 e he).1, ok_agree hag (Nat.le_succ _) _ (r2 e he).2.1, ok_agree hag (Nat.le_succ _) _ (r2 e he).2.2⟩, ms, c, by rw [hoth x _ e2 e3 rfl]; exact r3, r4.trans ?_⟩
      exact List.map_congr_left fun e he => by rw [enc_agree hag _ (r2 e he).2.1, enc_agree hag _ (r2 e he).2.2]
  · intro x y o1 o2 hx hy p1 p2 hne
    rcases hget x _ hx with ⟨rfl, e⟩ | ⟨_, _, c, _⟩ | ⟨e1, e2, e3⟩
    · rcases hget y _ hy with ⟨rfl, e'⟩ | ⟨_, _, c, _⟩ | ⟨e4, e5, e6⟩
      · exact absurd rfl hne
      · rw [c] at p2; cases p2
      · rw [upd_same, hup y e4, hp]; exact R.apart t y ob0 o2 ht e6 how p2 (Ne.symm e5)
    · rw [c] at p1; cases p1
    · rcases hget y _ hy with ⟨rfl, e'⟩ | ⟨_, _, c, _⟩ | ⟨e4, e5, e6⟩
      · rw [upd_same, hup x e1, hp]; exact R.apart x t o1 ob0 e3 ht p1 how e2
      · rw [c] at p2; cases p2
      · rw [hup x e1, hup y e4]; exact R.apart x y o1 o2 e3 e6 p1 p2 hne
  · intro x o hx ho
    rcases hget x _ hx with ⟨rfl, e⟩ | ⟨_, _, c, _⟩ | ⟨e1, e2, e3⟩
    · exact .inr ⟨t, ob0, ht, how, by rw [upd_same, hp]⟩
    · rw [c] at ho; cases ho
    · exact .inr ⟨x, o, e3, ho, by rw [hup x e1]⟩
/-- A token dies. -/
theorem Ext.killed {base : Nat} {ρ : Rho} {h : Hp} {w : World} (R : HRel base ρ h w) {t : Nat} {ob0 : AObj} (ht : h.get t = some ob0) (how : ob0.owned = true) : Ext base ρ h w ρ (h.put t fun s => .dead s) w :=
  Ext.changed R ht how _ rfl rfl rfl rfl (fun _ _ => rfl) trivial
end Go.Ae
