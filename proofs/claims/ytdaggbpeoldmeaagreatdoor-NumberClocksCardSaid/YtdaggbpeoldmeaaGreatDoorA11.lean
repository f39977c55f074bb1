/- The abstract evaluator: iterators, maps. -/
import Derived.Test.YtdaggbpeoldmeaaGreatDoorA10
import Derived.MapKept
set_option linter.unusedVariables false
set_option linter.unusedSimpArgs false
namespace Go.Ae
section
variable {P : Program} {base : Nat} {ρ : Rho} {h h' : Hp} {w : World} {ev : Operand → Value} {tm : T AV} {v : AV}
variable {dst : Option Tmp} {ty : TypeId} {pos : String} {af : Array Edge} {gd : Option (Nat × Bool)}

theorem run_getObj_it {r p : Nat} {s : ByteArray} (hb : w.heap[r]? = some (.stringIter s p)) : (getObj r).run P w = .ok (.stringIter s p) w := by simp [getObj, Sem.run, hb]
theorem run_setObj_it {r p : Nat} {s : ByteArray} (o : Obj) (hb : w.heap[r]? = some (.stringIter s p)) : (setObj r o).run P w = .ok () { w with heap := w.heap.setIfInBounds r o } := by simp [setObj, Sem.run, hb]
theorem heap_set' (w : World) (r : Nat) (o : Obj) (hr : r < w.heap.size) : (w.heap.setIfInBounds r o).size = w.heap.size ∧ (∀ k, k ≠ r → (w.heap.setIfInBounds r o)[k]? = w.heap[k]?) ∧ (w.heap.setIfInBounds r o)[r]? = some o := by
  refine ⟨by simp, fun k hk => ?_, ?_⟩
  · rw [Array.getElem?_setIfInBounds, if_neg (by omega)]
  · rw [Array.getElem?_setIfInBounds]; simp [hr]
theorem getObj_map {r : Nat} {es : Array MapEntry} {clock : Nat} (hb : w.heap[r]? = some (.map es clock)) : (getObj r).run P w = .ok (.map es clock) w := by simp [getObj, Sem.run, hb]
theorem setObj_map {r : Nat} {es : Array MapEntry} {clock : Nat} (o : Obj) (hb : w.heap[r]? = some (.map es clock)) : (setObj r o).run P w = .ok () { w with heap := w.heap.setIfInBounds r o } := by simp [setObj, Sem.run, hb]
theorem q_rng {t : TypeId} {x : Operand} {x' : Opd} (ht : P.underlying t = some .string) (hx : copd x = some x') (E : Evals ρ h.next ev tm) (R : HRel base ρ h w)
    (hr : o_rng x' (val tm) h = some (v, h')) : Yields P base ρ h w (do pure (.value (← Instr.range t (ev x)))) v h' := by
  obtain ⟨e1, k1⟩ := E _ _ hx
  unfold o_rng at hr
  split at hr
  · rename_i s g
    obtain ⟨rfl, rfl⟩ := pair_inj hr
    refine ⟨upd ρ h.next ⟨w.heap.size, 0, 0, 0⟩, w.alloc (.stringIter ⟨s.toArray⟩ 0), .pointer (some ⟨w.heap.size, 0, none⟩), .inl ?_, ?_, ?_, Ext.pushed R _ (upd_agree _ _ _) rfl rfl rfl (by show w.heap.size ≤ (w.heap.push _).size; simp) (fun k hk => heap_push_lt w _ k hk) ?_⟩
    · rw [e1, g]
      simp only [enc, Instr.range, Sem.run_bind, run_underlying ht, Result.andThen_ok, Sem.run_pure, run_newObj]
      rfl
    · simp only [enc, upd_same, Nat.zero_add]
    · simp only [ok, Hp.push]; omega
    · exact ⟨by rw [upd_same]; exact Nat.le_refl _, by rw [upd_same], by rw [upd_same]; exact heap_push w _⟩
  · cases hr
theorem q_nxt {x : Operand} {x' : Opd} (hx : copd x = some x') (E : Evals ρ h.next ev tm) (R : HRel base ρ h w)
    (hr : o_nxt x' (val tm) h = some (v, h')) : Yields P base ρ h w (do pure (.value (← Instr.next (ev x) true ty))) v h' := by
  obtain ⟨e1, k1⟩ := E _ _ hx
  unfold o_nxt at hr
  split at hr
  · rename_i t g
    split at hr
    · rename_i s p st ht
      obtain ⟨r1, r2, r3⟩ := R.iter t s p st ht
      have hb := (R.owned_lt ht rfl).2
      split at hr
      · rename_i hp
        obtain ⟨rfl, rfl⟩ := pair_inj hr
        obtain ⟨g1, g2, g3⟩ := heap_set' w (ρ t).b (.stringIter ⟨s.toArray⟩ (p + (Utf8.decode ⟨s.toArray⟩ p).2)) hb
        refine ⟨ρ, { w with heap := w.heap.setIfInBounds (ρ t).b (.stringIter ⟨s.toArray⟩ (p + (Utf8.decode ⟨s.toArray⟩ p).2)) }, _, .inl ?_, rfl, ?_, Ext.changed R ht rfl _ rfl rfl rfl g1 g2 ⟨r2, g3⟩⟩
        · rw [e1, g]
          have hps : p < (⟨s.toArray⟩ : ByteArray).size := by rw [ba_size]; exact hp
          simp only [enc, r2, Nat.add_zero, Instr.next, Sem.run_bind, run_getObj_it r3, Result.andThen_ok, if_pos hps, Sem.run_pure, run_setObj_it _ r3, encs, goInt]
        · simp [ok, oks]
      · rename_i hp
        obtain ⟨rfl, rfl⟩ := pair_inj hr
        refine Yields.pure R ?_ (by simp [ok, oks])
        rw [e1, g]
        have hps : ¬ p < (⟨s.toArray⟩ : ByteArray).size := by rw [ba_size]; exact hp
        simp only [enc, r2, Nat.add_zero, Instr.next, Sem.run_bind, run_getObj_it r3, Result.andThen_ok, if_neg hps, Sem.run_pure, encs]
    · cases hr
  · cases hr
theorem q_mkmap {t : TypeId} (R : HRel base ρ h w) (hr : o_mkmap (val tm) h = some (v, h')) : Yields P base ρ h w (do pure (.value (← Instr.makeMap t none))) v h' := by
  unfold o_mkmap at hr
  obtain ⟨rfl, rfl⟩ := pair_inj hr
  refine ⟨upd ρ h.next ⟨w.heap.size, 0, 0, 0⟩, w.alloc (.map #[] 0), .map (some w.heap.size), .inl ?_, ?_, ?_, Ext.pushed R _ (upd_agree _ _ _) rfl rfl rfl (by show w.heap.size ≤ (w.heap.push _).size; simp) (fun k hk => heap_push_lt w _ k hk) ?_⟩
  · simp only [Instr.makeMap, Sem.run_bind, Result.andThen_ok, Sem.run_pure, run_newObj]
    rfl
  · simp only [enc, upd_same]
  · simp only [ok, Hp.push]; omega
  · exact ⟨by rw [upd_same]; exact Nat.le_refl _, rfl, by rw [upd_same]; exact heap_push w _⟩

theorem find_sound (k : List UInt8) : ∀ (es : List (AV × AV)) (ms : List MapEntry) (i : Nat), ms.map (fun m => (m.key, m.val)) = es.map (fun e => (enc ρ e.1, enc ρ e.2)) → ∀ r, findA k es = some r →
    (Instr.findNow .string (.string ⟨k.toArray⟩) ms i = match r with | none => some none | some v => (Instr.findNow .string (.string ⟨k.toArray⟩) ms i)) ∧
    ∀ v, r = some v → (∃ j, Instr.findNow .string (.string ⟨k.toArray⟩) ms i = some (some (j, enc ρ v))) ∧ ∃ e ∈ es, e.2 = v
  | [], ms, i, hm, r, hr => by
    obtain rfl : ms = [] := by simpa using hm
    obtain rfl := Option.some.inj hr
    exact ⟨rfl, by simp⟩
  | (a, b) :: es, [], i, hm, r, hr => by simp at hm
  | (a, b) :: es, m :: ms, i, hm, r, hr => by
    simp only [List.map_cons, List.cons.injEq, Prod.mk.injEq] at hm
    obtain ⟨⟨hk, hv⟩, hm⟩ := hm
    unfold findA at hr
    split at hr
    · rename_i e; cases e
    · rename_i k' v' r' e
      simp only [List.cons.injEq, Prod.mk.injEq] at e
      obtain ⟨⟨rfl, rfl⟩, rfl⟩ := e
      have hs : Instr.sameNow .string (.string ⟨k.toArray⟩) m.key = some (k == k') := by rw [hk]; simp only [enc, Instr.sameNow, beq_ba]
      split at hr
      · rename_i hkk
        obtain rfl := Option.some.inj hr
        rw [hkk] at hs
        refine ⟨rfl, fun v e => ?_⟩
        obtain rfl := Option.some.inj e
        exact ⟨⟨i, by simp [Instr.findNow, hs, hv]⟩, _, .head _, rfl⟩
      · rename_i hkk
        simp only [Bool.not_eq_true] at hkk
        rw [hkk] at hs
        obtain ⟨i1, i2⟩ := find_sound k es ms (i + 1) hm r hr
        have hf : Instr.findNow .string (.string ⟨k.toArray⟩) (m :: ms) i = Instr.findNow .string (.string ⟨k.toArray⟩) ms (i + 1) := by rw [Instr.findNow, hs]
        rw [hf]
        refine ⟨i1, fun v e => ?_⟩
        obtain ⟨j1, e', he, hev⟩ := i2 v e
        exact ⟨j1, e', .tail _ he, hev⟩
    · cases hr
theorem zeroV_of {t : TypeId} {z : AV} (hz : czeroV P t = some z) (w : World) (ρ : Rho) (N : Nat) : (zeroValue t).run P w = .ok (enc ρ z) w ∧ ok ρ N z := by
  unfold czeroV at hz
  split at hz
  · rename_i i hi
    split at hz
    · rename_i cs hc
      split at hz
      · rename_i l hl
        obtain rfl := Option.some.inj hz
        obtain ⟨e1, e2, e3⟩ := cvals_enc hl ρ N
        exact ⟨by simp [zeroValue, typeInfo, run_program, hi, hc, enc, e1], e2⟩
      · cases hz
    · rename_i z' _ hc
      obtain ⟨e1, e2⟩ := cval_enc hz ρ N
      exact ⟨by simp [zeroValue, typeInfo, run_program, hi, hc, e1], e2⟩
    · cases hz
  · cases hz
theorem q_lkp {t kt e : TypeId} {m k : Operand} {m' k' : Opd} {okk : Bool} {z : AV} (hu : P.underlying t = some (.map kt e)) (hk0 : P.underlying kt = some .string) (hz : czeroV P e = some z) (hm : copd m = some m') (hk : copd k = some k') (E : Evals ρ h.next ev tm) (R : HRel base ρ h w)
    (hr : o_lkp m' k' z okk (val tm) h = some (v, h')) : Yields P base ρ h w (do pure (.value (← Instr.lookup t (ev m) (ev k) okk))) v h' := by
  obtain ⟨e1, k1⟩ := E _ _ hm
  obtain ⟨e2, k2⟩ := E _ _ hk
  unfold o_lkp at hr
  split at hr
  · rename_i tk k g1 g2
    split at hr
    · rename_i es st ht
      obtain ⟨r1, r2, ms, c, r3, r4⟩ := R.map tk es st ht
      obtain ⟨z1, z2⟩ := zeroV_of hz w ρ h.next
      have hck : (Instr.checkKey ms.isEmpty 10000 kt (.string ⟨k.toArray⟩)).run P w = .ok () w := MapKept.run_checkKey hk0 (by simp [MapKept.IsKey]) _ 9999
      split at hr
      · rename_i v' hf
        obtain ⟨rfl, rfl⟩ := pair_inj hr
        obtain ⟨_, i2⟩ := find_sound (ρ := ρ) k es ms.toList 0 r4 _ hf
        obtain ⟨⟨j, hj⟩, e', he, rfl⟩ := i2 v' rfl
        have hov := (r2 e' he).2.2
        refine Yields.pure R ?_ (by split; exact ⟨hov, trivial, trivial⟩; exact hov)
        rw [e1, e2, g1, g2]
        simp only [enc, Instr.lookup, Sem.run_bind, run_underlying hu, Result.andThen_ok, getObj_map r3, Sem.run_pure, hck, MapKept.run_findKey hk0 hj]
        cases okk <;> simp [enc, encs]
      · rename_i hf
        obtain ⟨rfl, rfl⟩ := pair_inj hr
        obtain ⟨i1, _⟩ := find_sound (ρ := ρ) k es ms.toList 0 r4 _ hf
        refine Yields.pure R ?_ (by split; exact ⟨z2, trivial, trivial⟩; exact z2)
        rw [e1, e2, g1, g2]
        simp only [enc, Instr.lookup, Sem.run_bind, run_underlying hu, Result.andThen_ok, getObj_map r3, Sem.run_pure, hck, MapKept.run_findKey hk0 i1, z1]
        cases okk <;> simp [enc, encs]
      · cases hr
    · cases hr
  · cases hr
theorem upd_sound (k : List UInt8) (v : AV) : ∀ (es : List (AV × AV)) (ms : List MapEntry) (i : Nat), ms.map (fun m => (m.key, m.val)) = es.map (fun e => (enc ρ e.1, enc ρ e.2)) → ∀ es', updA k v es = some es' →
    ((Instr.findNow .string (.string ⟨k.toArray⟩) ms i = some none ∧ es' = es ++ [(.str k, v)]) ∨
      ∃ j m u, Instr.findNow .string (.string ⟨k.toArray⟩) ms i = some (some (i + j, u)) ∧ ms[j]? = some m ∧ m.key = .string ⟨k.toArray⟩ ∧ (ms.modify j fun e => { e with key := .string ⟨k.toArray⟩, val := enc ρ v }).map (fun m => (m.key, m.val)) = es'.map (fun e => (enc ρ e.1, enc ρ e.2))) ∧
    ∀ e ∈ es', e ∈ es ∨ e = (.str k, v)
  | [], ms, i, hm, r, hr => by
    obtain rfl : ms = [] := by simpa using hm
    obtain rfl := Option.some.inj hr
    exact ⟨.inl ⟨rfl, rfl⟩, by simp⟩
  | (a, b) :: es, [], i, hm, r, hr => by simp at hm
  | (a, b) :: es, m :: ms, i, hm, r, hr => by
    simp only [List.map_cons, List.cons.injEq, Prod.mk.injEq] at hm
    obtain ⟨⟨hk, hv⟩, hm⟩ := hm
    unfold updA at hr
    split at hr
    · rename_i e; cases e
    · rename_i k' v' r' e
      simp only [List.cons.injEq, Prod.mk.injEq] at e
      obtain ⟨⟨rfl, rfl⟩, rfl⟩ := e
      have hs : Instr.sameNow .string (.string ⟨k.toArray⟩) m.key = some (k == k') := by rw [hk]; simp only [enc, Instr.sameNow, beq_ba]
      split at hr
      · rename_i hkk
        obtain rfl := Option.some.inj hr
        rw [hkk] at hs
        have hkk' : k = k' := by simpa using hkk
        subst hkk'
        refine ⟨.inr ⟨0, m, m.val, by simp [Instr.findNow, hs], rfl, by rw [hk]; simp [enc], by simp [hm, enc]⟩, fun e he => ?_⟩
        rcases List.mem_cons.1 he with rfl | he
        · exact .inr rfl
        · exact .inl (.tail _ he)
      · rename_i hkk
        simp only [Bool.not_eq_true] at hkk
        rw [hkk] at hs
        have hf : Instr.findNow .string (.string ⟨k.toArray⟩) (m :: ms) i = Instr.findNow .string (.string ⟨k.toArray⟩) ms (i + 1) := by rw [Instr.findNow, hs]
        rw [hf]
        obtain ⟨r'', hr1, rfl⟩ := Option.map_eq_some_iff.1 hr
        obtain ⟨i1, i2⟩ := upd_sound k v es ms (i + 1) hm r'' hr1
        refine ⟨?_, fun e he => ?_⟩
        · rcases i1 with ⟨h1, rfl⟩ | ⟨j, m', u, h1, h2, h3, h4⟩
          · exact .inl ⟨h1, rfl⟩
          · exact .inr ⟨j + 1, m', u, by rw [h1]; congr 3; omega, by simpa using h2, h3, by simp [h4, hk, hv]⟩
        · rcases List.mem_cons.1 he with rfl | he
          · exact .inl (.head _)
          · rcases i2 e he with c | c
            · exact .inl (.tail _ c)
            · exact .inr c
    · cases hr
theorem q_mupd {t kt e : TypeId} {m k x : Operand} {m' k' x' : Opd} (hu : P.underlying t = some (.map kt e)) (hk0 : P.underlying kt = some .string) (hm : copd m = some m') (hk : copd k = some k') (hx : copd x = some x') (E : Evals ρ h.next ev tm) (R : HRel base ρ h w)
    (hr : o_mupd m' k' x' (val tm) h = some (v, h')) : Yields P base ρ h w (do Instr.mapUpdate t (ev m) (ev k) (ev x); pure .skip) v h' := by
  obtain ⟨e1, k1⟩ := E _ _ hm
  obtain ⟨e2, k2⟩ := E _ _ hk
  obtain ⟨e3, k3⟩ := E _ _ hx
  unfold o_mupd at hr
  split at hr
  · rename_i tk k g1 g2
    split at hr
    · rename_i es st ht
      obtain ⟨r1, r2, ms, c, r3, r4⟩ := R.map tk es st ht
      have hb := (R.owned_lt ht rfl).2
      have hck : (Instr.checkKey false 10000 kt (.string ⟨k.toArray⟩)).run P w = .ok () w := MapKept.run_checkKey hk0 (by simp [MapKept.IsKey]) _ 9999
      split at hr
      · rename_i es' hup
        obtain ⟨rfl, rfl⟩ := pair_inj hr
        obtain ⟨i1, i2⟩ := upd_sound (ρ := ρ) k (val tm x') es ms.toList 0 r4 _ hup
        have hall : ∀ e ∈ es', e.1.one = true ∧ ok ρ h.next e.1 ∧ ok ρ h.next e.2 := fun e he => by
          rcases i2 e he with c | rfl
          · exact r2 e c
          · exact ⟨rfl, trivial, k3⟩
        rcases i1 with ⟨h1, rfl⟩ | ⟨j, m0, u, h1, h2, h3, h4⟩
        · obtain ⟨s1, s2, s3⟩ := heap_set' w (ρ tk).b (.map (ms.push { key := .string ⟨k.toArray⟩, val := enc ρ (val tm x'), born := c }) (c + 1)) hb
          refine ⟨ρ, { w with heap := w.heap.setIfInBounds (ρ tk).b (.map (ms.push { key := .string ⟨k.toArray⟩, val := enc ρ (val tm x'), born := c }) (c + 1)) }, undef, .inr ⟨?_, rfl⟩, (enc_und ρ).symm, trivial, Ext.changed R ht rfl _ rfl rfl rfl s1 s2 ⟨hall, _, _, s3, ?_⟩⟩
          · rw [e1, e2, e3, g1, g2]
            simp only [enc, Instr.mapUpdate, Sem.run_bind, run_underlying hu, Result.andThen_ok, getObj_map r3, Sem.run_pure, hck, MapKept.run_findKey hk0 h1, setObj_map _ r3]
          · simp [r4, enc]
        · have hms : ms[j]? = some m0 := by rw [← Array.getElem?_toList]; exact h2
          obtain ⟨s1, s2, s3⟩ := heap_set' w (ρ tk).b (.map (ms.modify j fun e => { e with key := .string ⟨k.toArray⟩, val := enc ρ (val tm x') }) c) hb
          refine ⟨ρ, { w with heap := w.heap.setIfInBounds (ρ tk).b (.map (ms.modify j fun e => { e with key := .string ⟨k.toArray⟩, val := enc ρ (val tm x') }) c) }, undef, .inr ⟨?_, rfl⟩, (enc_und ρ).symm, trivial, Ext.changed R ht rfl _ rfl rfl rfl s1 s2 ⟨hall, _, _, s3, ?_⟩⟩
          · rw [e1, e2, e3, g1, g2]
            have hst : (Instr.keyThatStays (.string ⟨k.toArray⟩) (.string ⟨k.toArray⟩)).run P w = .ok (.string ⟨k.toArray⟩) w := by
              have : Instr.sameBits 10000 (.string ⟨k.toArray⟩) (.string ⟨k.toArray⟩) = true := by
                show (((⟨k.toArray⟩ : ByteArray) == ⟨k.toArray⟩) = true)
                rw [beq_ba]; simp
              simp only [Instr.keyThatStays, this, if_true, Sem.run_pure]
            simp only [enc, Instr.mapUpdate, Sem.run_bind, run_underlying hu, Result.andThen_ok, getObj_map r3, Sem.run_pure, hck, MapKept.run_findKey hk0 h1, Nat.zero_add, hms, Option.map_some, Option.getD_some, h3, hst, setObj_map _ r3]
          · rw [Array.toList_modify]; exact h4
      · cases hr
    · cases hr
  · cases hr
end
end Go.Ae
