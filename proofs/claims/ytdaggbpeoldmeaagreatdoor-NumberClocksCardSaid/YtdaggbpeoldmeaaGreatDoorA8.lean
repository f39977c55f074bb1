/- The abstract evaluator: operations that make or turn memory. -/
import Derived.Test.YtdaggbpeoldmeaaGreatDoorA7
set_option linter.unusedVariables false
set_option linter.unusedSimpArgs false
namespace Go.Ae
section
variable {P : Program} {base : Nat} {ρ : Rho} {h h' : Hp} {w : World} {ev : Operand → Value} {tm : T AV} {v : AV}
variable {dst : Option Tmp} {ty : TypeId} {pos : String} {af : Array Edge} {gd : Option (Nat × Bool)}

theorem Ext.newRow0 (R : HRel base ρ h w) (cs : List AV) (e : TypeId) (c sz : Nat) (h1 : ∀ v ∈ cs, v.one = true) (h2 : oks ρ h.next cs) (hc : c * sz ≤ cs.length) :
    Ext base ρ h w (upd ρ h.next ⟨w.heap.size, 0, c, sz⟩) (h.push fun s => .row cs true s) (w.alloc (.cells (encs ρ cs).toArray e)) := by
  have := Ext.newRow R cs e [] c sz h1 h2 (by simpa using hc) w.drawn
  simpa using this
theorem upd_ptr (ρ : Rho) (N b c sz : Nat) : enc (upd ρ N ⟨b, 0, c, sz⟩) (.ptr N 0) = .pointer (some ⟨b, 0, none⟩) := by simp [enc, upd]
theorem q_alloc {e : TypeId} {z : List AV} (hz : czero P e = some z) (R : HRel base ρ h w) (hr : o_alloc z (val tm) h = some (v, h')) :
    Yields P base ρ h w (do pure (.value (← Instr.alloc e true (.tuple #[])))) v h' := by
  obtain ⟨i, zv, h1, h2, h3⟩ := zero_of hz
  obtain ⟨e1, e2, e3⟩ := cvals_enc h3 ρ h.next
  obtain ⟨rfl, rfl⟩ := pair_inj hr
  refine ⟨_, _, _, .inl ?_, (upd_ptr ρ h.next w.heap.size 0 1).symm, by show h.next < h.next + 1; omega, Ext.newRow0 R z e 0 1 e3 e2 (by omega)⟩
  have : zv.cells = (encs ρ z).toArray := by rw [e1]
  simp [Instr.alloc, zeroValue, typeInfo, h1, h2, newVar, newRow, this]
theorem q_box {e : TypeId} {x : Operand} {x' : Opd} (hx : copd x = some x') (E : Evals ρ h.next ev tm) (R : HRel base ρ h w) (hr : o_box x' (val tm) h = some (v, h')) :
    Yields P base ρ h w (do pure (.value (← Instr.box e (ev x)))) v h' := by
  obtain ⟨e1, k1⟩ := E _ _ hx
  unfold o_box at hr
  split at hr
  · rename_i hall
    obtain ⟨rfl, rfl⟩ := pair_inj hr
    refine ⟨_, _, _, .inl ?_, (upd_ptr ρ h.next w.heap.size 0 1).symm, by show h.next < h.next + 1; omega, Ext.newRow0 R _ e 0 1 (by simpa using hall) (ok_cells k1) (by omega)⟩
    simp [Instr.box, newVar, newRow, e1, enc_cells]
  · cases hr
theorem fold_cells (off : Nat) : ∀ (vs : List Value) (k : Nat) (cs : Array Value), off + k + vs.length ≤ cs.size →
    ((vs.zipIdx k).foldl (fun cs (c : Value × Nat) => cs.setIfInBounds (off + c.2) c.1) cs).toList = cs.toList.take (off + k) ++ (vs ++ cs.toList.drop (off + k + vs.length))
  | [], k, cs, _ => by simp
  | v :: vs, k, cs, hl => by
    simp only [List.zipIdx_cons, List.foldl_cons]
    simp only [List.length_cons] at hl
    rw [fold_cells off vs (k + 1) _ (by simp; omega)]
    simp only [Array.toList_setIfInBounds]
    apply List.ext_getElem?
    intro j
    have hsz : cs.toList.length = cs.size := Array.length_toList
    simp only [List.getElem?_append, List.length_take, List.getElem?_take, List.getElem?_drop, List.length_set, List.getElem?_set, List.length_cons, List.length_append, hsz]
    by_cases h1 : j < off + k
    · have : min (off + (k + 1)) cs.size = off + (k + 1) := by omega
      have h2 : min (off + k) cs.size = off + k := by omega
      simp [this, h2, h1, show j < off + (k + 1) by omega, show ¬ off + k = j by omega]
    · by_cases h3 : j = off + k
      · subst h3
        have : min (off + (k + 1)) cs.size = off + (k + 1) := by omega
        have h2 : min (off + k) cs.size = off + k := by omega
        simp [this, h2, show off + k < off + (k + 1) by omega, show off + k < cs.size by omega]
      · have : min (off + (k + 1)) cs.size = off + (k + 1) := by omega
        have h2 : min (off + k) cs.size = off + k := by omega
        have h4 : ¬ j < off + (k + 1) := by omega
        obtain ⟨m, hm⟩ : ∃ m, j - (off + k) = m + 1 := ⟨j - (off + k) - 1, by omega⟩
        have h5 : j - (off + (k + 1)) = m := by omega
        simp only [this, h2, h1, h4, if_false, hm, h5, List.getElem?_cons_succ]
        by_cases h6 : m < vs.length
        · simp [h6]
        · simp only [h6, if_false, show ¬ m + 1 < vs.length + 1 by omega]
          have : ¬ off + k = off + (k + 1) + vs.length + (m - vs.length) := by omega
          simp [this]
          congr 1; omega
theorem encs_append (ρ : Rho) (a b : List AV) : encs ρ (a ++ b) = encs ρ a ++ encs ρ b := by simp [encs_map]
theorem encs_splice (ρ : Rho) (cs vs : List AV) (o : Nat) : encs ρ (splice cs o vs) = (encs ρ cs).take o ++ (encs ρ vs ++ (encs ρ cs).drop (o + (encs ρ vs).length)) := by
  simp [encs_map, splice, List.map_take, List.map_drop]
theorem fill_sound {ev : Operand → Value} (E : Evals ρ h.next ev tm) {pl pl' : Nat → Option (Nat × Nat)} (hpl : ∀ i x, pl i = some x → pl' i = some x) : ∀ (ps : List (Nat × Operand)) (l : List (Nat × Nat × Opd)) (cs cs' : List AV),
    cparts pl ps = some l → fillA cs (l.map fun p => (p.1, p.2.1, val tm p.2.2)) = some cs' → oks ρ h.next cs → (∀ v ∈ cs, v.one = true) →
    Instr.fill pl' (encs ρ cs).toArray (ps.map fun p => (p.1, ev p.2)) = some (encs ρ cs').toArray ∧ oks ρ h.next cs' ∧ (∀ v ∈ cs', v.one = true) ∧ cs'.length = cs.length
  | [], l, cs, cs', hp, hf, hk, h1 => by
    obtain rfl := Option.some.inj hp
    obtain rfl := Option.some.inj hf
    exact ⟨rfl, hk, h1, rfl⟩
  | (i, x) :: ps, l, cs, cs', hp, hf, hk, h1 => by
    unfold cparts at hp
    split at hp
    · rename_i off n y l' g1 g2 g3
      obtain rfl := Option.some.inj hp
      simp only [List.map_cons, fillA] at hf
      split at hf
      · rename_i hc
        obtain ⟨e1, k1⟩ := E _ _ g2
        have hone : ∀ v ∈ (val tm y).cells, v.one = true := by simpa using hc.2.2
        obtain ⟨r1, r2, r3, r4⟩ := fill_sound E hpl ps l' _ cs' g3 hf
          ((oks_iff _ _ _).2 fun v hv => by
            rcases mem_splice hv with c | c
            · exact (oks_iff _ _ _).1 hk v c
            · exact (oks_iff _ _ _).1 (ok_cells k1) v c)
          (fun v hv => by
            rcases mem_splice hv with c | c
            · exact h1 v c
            · exact hone v c)
        refine ⟨?_, r2, r3, by rw [r4, length_splice _ _ _ (by omega)]⟩
        simp only [List.map_cons, Instr.fill, hpl i _ g1]
        have hsz : (ev x).cells.size = n := by rw [e1, enc_cells]; simp [encs_length, hc.1]
        rw [if_neg (by rw [hsz]; simp [encs_length]; omega), ← r1]
        congr 1
        apply Array.ext'
        rw [← Array.foldl_toList, Array.toList_zipIdx, fold_cells off _ 0 _ (by
          have : (ev x).cells.toList.length = n := by rw [Array.length_toList]; exact hsz
          rw [this]; simp [encs_length]; omega)]
        rw [encs_splice, e1, enc_cells]
        simp
      · cases hf
    · cases hp
theorem q_build {t : TypeId} {fs : Array Field} {ps : Array (Nat × Operand)} {z : List AV} {l : List (Nat × Nat × Opd)} (hz : czero P t = some z) (hu : P.underlying t = some (.struct fs)) (hall : (fs.toList.all fun f => (P.info? f.type).isSome) = true)
    (hl : cparts (cplace P fs) ps.toList = some l) (E : Evals ρ h.next ev tm) (R : HRel base ρ h w) (hr : o_build z l (val tm) h = some (v, h')) :
    Yields P base ρ h w (do pure (.value (← Instr.build t (ps.map fun p => (p.1, ev p.2))))) v h' := by
  obtain ⟨i, zv, h1, h2, h3⟩ := zero_of hz
  obtain ⟨e1, e2, e3⟩ := cvals_enc h3 ρ h.next
  unfold o_build at hr
  split at hr
  · rename_i cs hcs
    obtain ⟨rfl, rfl⟩ := pair_inj hr
    have hplaces : ∀ (l : List Field), (l.all fun f => (P.info? f.type).isSome) = true → ∃ pl : List (Nat × Nat), (l.mapM (fun f => (do pure (f.offset, ← sizeOf f.type) : Sem (Nat × Nat)))).run P w = .ok pl w ∧ ∀ (i : Nat), pl[i]? = match (l[i]? : Option Field) with | some f => (csz P f.type).map fun n => (f.offset, n) | none => none := by
      intro l
      induction l with
      | nil => intro _; exact ⟨[], by simp, by simp⟩
      | cons f l ih =>
        intro ha
        simp only [List.all_cons, Bool.and_eq_true] at ha
        obtain ⟨pl, p1, p2⟩ := ih ha.2
        obtain ⟨fi, hfi⟩ := Option.isSome_iff_exists.1 ha.1
        have hs : csz P f.type = some fi.size := by simp [csz, hfi]
        refine ⟨(f.offset, fi.size) :: pl, by simp only [List.mapM_cons, Sem.run_bind, run_sizeOf' hs, Result.andThen_ok, Sem.run_pure, p1], fun i => ?_⟩
        cases i with
        | zero => simp [hs]
        | succ i => simpa using p2 i
    obtain ⟨pl, p1, p2⟩ := hplaces fs.toList hall
    obtain ⟨r1, r2, r3, r4⟩ := fill_sound (h := h) E (pl := cplace P fs) (pl' := fun i => pl.toArray[i]?) (fun i x hx => by
      simp only [List.getElem?_toArray, p2]
      unfold cplace at hx
      split at hx
      · rename_i f hf
        split at hx
        · rename_i n hn
          simp [hf, hn] at hx ⊢
          exact hx
        · cases hx
      · cases hx) ps.toList l z cs hl hcs e2 e3
    refine Yields.pure R ?_ r2
    have hzc : zv.cells = (encs ρ z).toArray := by rw [e1]
    have hmap : (ps.map fun p => (p.1, ev p.2)).toList = ps.toList.map fun p => (p.1, ev p.2) := by simp
    simp only [Instr.build, Sem.run_bind, zeroValue, typeInfo, run_program, Result.andThen_ok, h1, h2, Sem.run_pure, run_underlying hu, hzc, Array.mapM_eq_mapM_toList, Sem.run_map, p1, hmap, r1, enc]
  · cases hr
theorem q_store {t : TypeId} {x y : Operand} {x' y' : Opd} {n : Nat} (hn : csz P t = some n) (hx : copd x = some x') (hy : copd y = some y') (E : Evals ρ h.next ev tm) (R : HRel base ρ h w)
    (hr : o_store n x' y' (val tm) h = some (v, h')) : Yields P base ρ h w (do Instr.storeAt t (ev x) (ev y); pure .skip) v h' := by
  obtain ⟨e1, k1⟩ := E _ _ hx
  obtain ⟨e2, k2⟩ := E _ _ hy
  unfold o_store at hr
  split at hr
  · rename_i tk o e
    split at hr
    · rename_i cs st ht
      split at hr
      · rename_i hc
        obtain ⟨rfl, rfl⟩ := pair_inj hr
        have hone : ∀ v ∈ (val tm y').cells, v.one = true := by simpa using hc.2.2
        refine ⟨ρ, _, undef, .inr ⟨?_, rfl⟩, (enc_und ρ).symm, trivial, Ext.stored R ht o (val tm y').cells (by omega) hone (ok_cells k2)⟩
        obtain ⟨i, hi, rfl⟩ := info_of_csz hn
        obtain ⟨q1, q2, q3, q4⟩ := (R.row tk cs true st ht).own1 rfl
        have hst := run_storeCells_cells (P := P) (ρ tk).b ((ρ tk).o + o) (encs ρ (val tm y').cells) 0 w (fun j hj => by
          have := (q3 (o + j) (by rw [encs_length] at hj; omega)).1
          simpa [Nat.add_assoc] using this) (fun j hj => by
          have := (q3 (o + j) (by rw [encs_length] at hj; omega)).2
          simpa [Nat.add_assoc] using this) (fun u hu => by
          rw [encs_map] at hu
          obtain ⟨a, ha, rfl⟩ := List.mem_map.1 hu
          rw [enc_one]; exact hone a ha)
        rw [e1, e, e2]
        simp only [Nat.add_zero] at hst
        have hsz : (encs ρ (val tm y').cells).length = i.size := by rw [encs_length]; exact hc.1
        simp [Instr.storeAt, Instr.sureAddr, enc, storeVar, run_sizeOf' hn, enc_cells, hsz, hst]
      · cases hr
    · cases hr
  · cases hr
end
end Go.Ae
