/- The abstract evaluator: more operations that turn no memory. -/
import Derived.Test.YtdaggbpeoldmeaaGreatDoorA5
set_option linter.unusedVariables false
set_option linter.unusedSimpArgs false
namespace Go.Ae
section
variable {P : Program} {base : Nat} {ρ : Rho} {h h' : Hp} {w : World} {ev : Operand → Value} {tm : T AV} {v : AV}
variable {dst : Option Tmp} {ty : TypeId} {pos : String} {af : Array Edge} {gd : Option (Nat × Bool)}

theorem q_un {op : UnOp} {x : Operand} {x' : Opd} (hx : copd x = some x') (E : Evals ρ h.next ev tm) (R : HRel base ρ h w) (hr : o_un op x' (val tm) h = some (v, h')) :
    Yields P base ρ h w (do pure (.value (← Op.unary op (ev x)))) v h' := by
  obtain ⟨e1, k1⟩ := E _ _ hx
  unfold o_un at hr
  split at hr
  · rename_i v' hv
    obtain ⟨rfl, rfl⟩ := pair_inj hr
    unfold unA at hv
    split at hv
    · rename_i k n e
      rw [mkInt_eq, subI_eq] at hv; obtain rfl := Option.some.inj hv
      exact Yields.pure R (by rw [e1, e]; simp [enc, Op.unary, Op.intArith]) trivial
    · rename_i k n e
      unfold bitsA at hv
      simp only at hv
      obtain rfl := Option.some.inj hv
      exact Yields.pure R (by rw [e1, e]; simp [enc, Op.unary, Op.intBits]) trivial
    · rename_i b e
      obtain rfl := Option.some.inj hv
      exact Yields.pure R (by rw [e1, e]; simp [enc, Op.unary]) trivial
    · cases hv
  · cases hr
theorem q_cvi {s d : TypeId} {k0 k : IntKind} {x : Operand} {x' : Opd} (hs : P.underlying s = some (.int k0)) (hd : P.underlying d = some (.int k)) (hx : copd x = some x') (E : Evals ρ h.next ev tm) (R : HRel base ρ h w)
    (hr : o_cvi k x' (val tm) h = some (v, h')) : Yields P base ρ h w (do pure (.value (← convert s d (ev x)))) v h' := by
  obtain ⟨e1, k1⟩ := E _ _ hx
  unfold o_cvi at hr
  split at hr
  · rename_i k2 n e
    rw [mkInt_eq] at hr
    obtain ⟨rfl, rfl⟩ := pair_inj hr
    exact Yields.pure R (by rw [e1, e]; simp [enc, convert, run_underlying hs, run_underlying hd, Conv.intToInt]) trivial
  · cases hr
theorem q_cvs {s d : TypeId} {x : Operand} {x' : Opd} (hs : P.underlying s = some .string) (hd : P.underlying d = some .string) (hx : copd x = some x') (E : Evals ρ h.next ev tm) (R : HRel base ρ h w)
    (hr : o_cvs x' (val tm) h = some (v, h')) : Yields P base ρ h w (do pure (.value (← convert s d (ev x)))) v h' := by
  obtain ⟨e1, k1⟩ := E _ _ hx
  unfold o_cvs at hr
  split at hr
  · rename_i e
    obtain ⟨rfl, rfl⟩ := pair_inj hr
    exact Yields.pure R (by rw [e1, e]; simp [enc, convert, run_underlying hs, run_underlying hd]) trivial
  · cases hr
theorem q_mkI {t : TypeId} {d : TypeDesc} {x : Operand} {x' : Opd} (hd : P.underlying t = some d) (hd' : ∀ ms, d ≠ .interface ms) (hx : copd x = some x') (E : Evals ρ h.next ev tm) (R : HRel base ρ h w)
    (hr : o_mkI t x' (val tm) h = some (v, h')) : Yields P base ρ h w (do pure (.value (← Instr.makeInterface t (ev x)))) v h' := by
  obtain ⟨e1, k1⟩ := E _ _ hx
  obtain ⟨rfl, rfl⟩ := pair_inj hr
  refine Yields.pure R ?_ k1
  simp only [Instr.makeInterface, Sem.run_bind, run_underlying hd, Result.andThen_ok, enc, e1]
  cases d <;> first | rfl | exact absurd rfl (hd' _)
theorem q_mkF {f : FuncId} {cs : List Operand} {cs' : List Opd} (hx : copds cs = some cs') (E : Evals ρ h.next ev tm) (R : HRel base ρ h w) (hr : o_mkF f cs' (val tm) h = some (v, h')) :
    Yields P base ρ h w (do pure (.value (← Instr.makeFunc (.func f) (Array.map ev #[]) (Array.map ev cs.toArray)))) v h' := by
  obtain ⟨rfl, rfl⟩ := pair_inj hr
  obtain ⟨h1, h2⟩ := E.list hx
  exact Yields.pure R (by simp [Instr.makeFunc, enc, h1]) h2
theorem bound_run {ev : Operand → Value} {x : Option Operand} {x' : Option Opd} (hx : copdo x = some x') (E : Evals ρ h.next ev tm) {lo hi dflt n : Nat} (hb : bound (x'.map (val tm)) 0 hi dflt = some n) :
    (x = none ∧ n = dflt) ∨ ∃ y k, x = some y ∧ ev y = .int k (n : Int) ∧ n ≤ hi := by
  cases x with
  | none => obtain rfl := Option.some.inj hx; exact .inl ⟨rfl, by simpa [bound] using hb.symm⟩
  | some y =>
    simp only [copdo] at hx
    split at hx
    · rename_i a ha
      obtain rfl := Option.some.inj hx
      obtain ⟨e1, _⟩ := E _ _ ha
      simp only [Option.map_some] at hb
      unfold bound at hb
      split at hb
      · simp_all
      · rename_i k i e
        split at hb
        · rename_i hi'
          obtain rfl := Option.some.inj hb
          injection e with e
          refine .inr ⟨y, k, rfl, ?_, by omega⟩
          rw [e1, e]; simp only [enc]; congr 1; omega
        · cases hb
      · cases hb
    · cases hx
theorem run_sliceBounds {isS : Bool} {len cap : Nat} {lo hi : Option Operand} {lo' hi' : Option Opd} (hlo : copdo lo = some lo') (hhi : copdo hi = some hi') (E : Evals ρ h.next ev tm) {l n : Nat} (hlen : len ≤ cap)
    (h1 : bound (hi'.map (val tm)) 0 len len = some n) (h2 : bound (lo'.map (val tm)) 0 n 0 = some l) (w : World) :
    (Instr.sliceBounds isS len cap (lo.map ev) (hi.map ev) none).run P w = .ok (l, n, cap) w ∧ n ≤ len ∧ l ≤ n := by
  have b1 := bound_run (lo := 0) hhi E h1
  have b2 := bound_run (lo := 0) hlo E h2
  have sb : ∀ (k : IntKind) (m y : Nat) (code : BoundsCode), m ≤ y → (Instr.sliceBound (.int k (m : Int)) y code).run P w = .ok m w := by
    intro k m y code hm
    simp [Instr.sliceBound, asIntOf, hm]
  rcases b1 with ⟨rfl, rfl⟩ | ⟨y1, k1, rfl, g1, g2⟩ <;> rcases b2 with ⟨rfl, rfl⟩ | ⟨y2, k2, rfl, g3, g4⟩
  · simp [Instr.sliceBounds]
  · refine ⟨?_, by omega, by omega⟩
    simp [Instr.sliceBounds, g3, sb _ _ _ _ g4]
  · refine ⟨?_, by omega, by omega⟩
    simp [Instr.sliceBounds, g1, sb _ _ _ _ (show n ≤ cap by omega)]
  · refine ⟨?_, by omega, by omega⟩
    simp [Instr.sliceBounds, g1, g3, sb _ _ _ _ (show n ≤ cap by omega), sb _ _ _ _ g4]
theorem ba_extract (s : List UInt8) (l n : Nat) : (⟨s.toArray⟩ : ByteArray).extract l n = ⟨((s.take n).drop l).toArray⟩ := by
  apply ByteArray.ext
  rw [ByteArray.data_extract]
  apply Array.ext'
  simp [List.drop_take]
theorem q_sls {t : TypeId} {x : Operand} {x' : Opd} {lo hi : Option Operand} {lo' hi' : Option Opd} (ht : P.underlying t = some .string) (hx : copd x = some x') (hlo : copdo lo = some lo') (hhi : copdo hi = some hi')
    (E : Evals ρ h.next ev tm) (R : HRel base ρ h w) (hr : o_sls x' lo' hi' (val tm) h = some (v, h')) : Yields P base ρ h w (do pure (.value (← Instr.sliceAt t (ev x) (lo.map ev) (hi.map ev) none))) v h' := by
  obtain ⟨e1, k1⟩ := E _ _ hx
  unfold o_sls at hr
  split at hr
  · rename_i s e
    split at hr
    · rename_i v' hv
      obtain ⟨rfl, rfl⟩ := pair_inj hr
      unfold slsA at hv
      split at hv
      · cases hv
      · rename_i n hn
        split at hv
        · cases hv
        · rename_i l hl
          obtain rfl := Option.some.inj hv
          obtain ⟨r1, r2, r3⟩ := run_sliceBounds (P := P) (isS := false) (cap := s.length) hlo hhi E (Nat.le_refl _) hn hl w
          refine Yields.pure R ?_ trivial
          rw [e1, e]
          simp [Instr.sliceAt, Instr.slice, run_underlying ht, enc, ba_size, r1, ba_extract]
    · cases hr
  · cases hr
theorem q_fadr {s : TypeId} {i n : Nat} {f : Field} {x : Operand} {x' : Opd} (hf : cfield P s i = some f) (hn : csz P f.type = some n) (hn0 : ¬ n = 0) (hx : copd x = some x') (E : Evals ρ h.next ev tm) (R : HRel base ρ h w)
    (hr : o_fadr f.offset x' (val tm) h = some (v, h')) : Yields P base ρ h w (do pure (.value (← Instr.fieldAt s (ev x) i))) v h' := by
  obtain ⟨e1, k1⟩ := E _ _ hx
  unfold o_fadr at hr
  split at hr
  · rename_i t o e
    obtain ⟨rfl, rfl⟩ := pair_inj hr
    rw [e] at k1
    refine Yields.pure R ?_ k1
    unfold cfield at hf
    split at hf
    · rename_i fs hu
      rw [e1, e]
      simp [Instr.fieldAt, run_underlying hu, hf, Instr.sureAddr, enc, fieldPlace, run_sizeOf' hn, hn0, Addr.add_mid, Nat.add_assoc]
    · cases hf
  · cases hr
theorem run_part {t : TypeId} {a : Bool} {n o : Nat} {cs : List AV} (ha : cagg P t = some a) (hn : csz P t = some n) (hl : o + (if a then n else 1) ≤ cs.length) {v : AV}
    (hv : (if a then some (AV.agg ((cs.drop o).take (if a then n else 1))) else cs[o]?) = some v) (w : World) : (part t (encs ρ cs).toArray o).run P w = .ok (enc ρ v) w := by
  cases a with
  | true =>
    simp only [if_true] at hl hv
    obtain rfl := Option.some.inj hv
    simp only [part, Sem.run_bind, run_isAgg' ha, Result.andThen_ok, if_true, run_sizeOf' hn, Sem.run_pure, enc]
    congr 2
    apply Array.ext'
    simp [encs_map, List.drop_take, List.map_drop, List.map_take]
  | false =>
    simp only [Bool.false_eq_true, if_false] at hl hv
    simp only [part, Sem.run_bind, run_isAgg' ha, Result.andThen_ok, Bool.false_eq_true, if_false]
    have : (encs ρ cs).toArray[o]? = some (enc ρ v) := by simp [encs_map, hv]
    rw [this]; rfl
theorem q_fld {s : TypeId} {i n : Nat} {a : Bool} {f : Field} {x : Operand} {x' : Opd} (hf : cfield P s i = some f) (ha : cagg P f.type = some a) (hn : csz P f.type = some n) (hx : copd x = some x') (E : Evals ρ h.next ev tm) (R : HRel base ρ h w)
    (hr : o_fld a f.offset (if a then n else 1) x' (val tm) h = some (v, h')) : Yields P base ρ h w (do pure (.value (← Instr.field s (ev x) i))) v h' := by
  obtain ⟨e1, k1⟩ := E _ _ hx
  unfold o_fld at hr
  split at hr
  · rename_i cs e
    rw [e] at k1
    by_cases hl : f.offset + (if a then n else 1) ≤ cs.length
    · rw [if_pos hl] at hr
      have key : ∀ v', (if a then some (AV.agg ((cs.drop f.offset).take (if a then n else 1))) else cs[f.offset]?) = some v' → v' = v ∧ h = h' → Yields P base ρ h w (do pure (.value (← Instr.field s (ev x) i))) v h' := by
        rintro v' hv' ⟨rfl, rfl⟩
        refine Yields.pure R ?_ ?_
        · unfold cfield at hf
          split at hf
          · rename_i fs hu
            rw [e1, e]
            simp [Instr.field, run_underlying hu, hf, asAgg, enc, run_part ha hn hl hv']
          · cases hf
        · cases a with
          | true =>
            obtain rfl := Option.some.inj hv'
            exact (oks_iff _ _ _).2 fun y hy => (oks_iff _ _ _).1 k1 y (List.mem_of_mem_drop (List.mem_of_mem_take hy))
          | false => exact (oks_iff _ _ _).1 k1 _ (List.mem_of_getElem? (by simpa using hv'))
      cases a with
      | true => exact key _ rfl (pair_inj hr)
      | false =>
        simp only [Bool.false_eq_true, if_false] at hr
        split at hr
        · rename_i v' hv'; exact key v' (by simpa using hv') (pair_inj hr)
        · cases hr
    · rw [if_neg hl] at hr; cases hr
  · cases hr
theorem q_iadr {t e : TypeId} {s : Nat} {x i : Operand} {x' i' : Opd} (ht : P.underlying t = some (.slice e)) (hs : csz P e = some s) (hx : copd x = some x') (hi : copd i = some i') (E : Evals ρ h.next ev tm) (R : HRel base ρ h w)
    (hr : o_iadr s x' i' (val tm) h = some (v, h')) : Yields P base ρ h w (do pure (.value (← Instr.indexAt t (ev x) (ev i)))) v h' := by
  obtain ⟨e1, k1⟩ := E _ _ hx
  obtain ⟨e2, k2⟩ := E _ _ hi
  unfold o_iadr at hr
  split at hr
  · rename_i tk o n z k j g1 g2
    split at hr
    · rename_i hj
      obtain ⟨rfl, rfl⟩ := pair_inj hr
      rw [g1] at k1
      refine Yields.pure R ?_ k1.1
      rw [e1, e2, g1, g2]
      simp [Instr.indexAt, asIntOf, run_underlying ht, enc, hj, run_sizeOf' hs, Addr.add_mid, Nat.add_assoc]
    · cases hr
  · cases hr
theorem q_iadrA {t e : TypeId} {s m : Nat} {x i : Operand} {x' i' : Opd} (ht : P.underlying t = some (.array m e)) (hs : csz P e = some s) (hx : copd x = some x') (hi : copd i = some i') (E : Evals ρ h.next ev tm) (R : HRel base ρ h w)
    (hr : o_iadrA s m x' i' (val tm) h = some (v, h')) : Yields P base ρ h w (do pure (.value (← Instr.indexAt t (ev x) (ev i)))) v h' := by
  obtain ⟨e1, k1⟩ := E _ _ hx
  obtain ⟨e2, k2⟩ := E _ _ hi
  unfold o_iadrA at hr
  split at hr
  · rename_i tk o k j g1 g2
    split at hr
    · rename_i hj
      obtain ⟨rfl, rfl⟩ := pair_inj hr
      rw [g1] at k1
      refine Yields.pure R ?_ k1
      rw [e1, e2, g1, g2]
      simp [Instr.indexAt, asIntOf, run_underlying ht, enc, hj, run_sizeOf' hs, Addr.add_mid, Nat.add_assoc, Instr.sureAddr]
    · cases hr
  · cases hr
theorem q_idxs {t : TypeId} {x i : Operand} {x' i' : Opd} (ht : P.underlying t = some .string) (hx : copd x = some x') (hi : copd i = some i') (E : Evals ρ h.next ev tm) (R : HRel base ρ h w)
    (hr : o_idxs x' i' (val tm) h = some (v, h')) : Yields P base ρ h w (do pure (.value (← Instr.index t (ev x) (ev i)))) v h' := by
  obtain ⟨e1, k1⟩ := E _ _ hx
  obtain ⟨e2, k2⟩ := E _ _ hi
  unfold o_idxs at hr
  split at hr
  · rename_i s k j g1 g2
    split at hr
    · rename_i hj
      split at hr
      · rename_i b hb
        obtain ⟨rfl, rfl⟩ := pair_inj hr
        refine Yields.pure R ?_ trivial
        rw [e1, e2, g1, g2]
        have : (⟨s.toArray⟩ : ByteArray)[j.toNat]? = some b := by
          obtain ⟨hlt, rfl⟩ := List.getElem?_eq_some_iff.1 hb
          have : j.toNat < (⟨s.toArray⟩ : ByteArray).size := by rw [ba_size]; exact hlt
          rw [getElem?_pos (⟨s.toArray⟩ : ByteArray) j.toNat this]; rfl
        simp [Instr.index, asIntOf, run_underlying ht, enc, hj, this]
      · cases hr
    · cases hr
  · cases hr
theorem q_ext {x : Operand} {x' : Opd} {i : Nat} (hx : copd x = some x') (E : Evals ρ h.next ev tm) (R : HRel base ρ h w) (hr : o_ext x' i (val tm) h = some (v, h')) :
    Yields P base ρ h w (do pure (.value (← Instr.extract (ev x) i))) v h' := by
  obtain ⟨e1, k1⟩ := E _ _ hx
  unfold o_ext at hr
  split at hr
  · rename_i l e
    split at hr
    · rename_i v' hv
      obtain ⟨rfl, rfl⟩ := pair_inj hr
      rw [e] at k1
      refine Yields.pure R ?_ ((oks_iff _ _ _).1 k1 _ (List.mem_of_getElem? hv))
      rw [e1, e]
      have : (encs ρ l).toArray[i]? = some (enc ρ v') := by simp [encs_map, hv]
      simp [Instr.extract, enc, this]
    · cases hr
  · cases hr
theorem q_len {t : TypeId} {d : TypeDesc} {q : LenK} {x : Operand} {x' : Opd} (ht : P.underlying t = some d) (hq : match q, d with | .str, .string => True | .slice, .slice _ => True | .arr n, .array m _ => n = m | _, _ => False)
    (hx : copd x = some x') (E : Evals ρ h.next ev tm) (R : HRel base ρ h w) (hr : o_len q x' (val tm) h = some (v, h')) :
    Yields P base ρ h w (do pure (.value (← Builtin.len_ #[t] ty #[ev x]))) v h' := by
  obtain ⟨e1, k1⟩ := E _ _ hx
  unfold o_len at hr
  split at hr
  · rename_i s e
    obtain ⟨rfl, rfl⟩ := pair_inj hr
    cases d <;> simp at hq
    exact Yields.pure R (by rw [e1, e]; simp [Builtin.len_, run_underlying ht, enc, goInt, ba_size]) trivial
  · rename_i tk o n z e
    obtain ⟨rfl, rfl⟩ := pair_inj hr
    cases d <;> simp at hq
    exact Yields.pure R (by rw [e1, e]; simp [Builtin.len_, run_underlying ht, enc, goInt]) trivial
  · rename_i e
    obtain ⟨rfl, rfl⟩ := pair_inj hr
    cases d <;> simp at hq
    exact Yields.pure R (by rw [e1, e]; simp [Builtin.len_, run_underlying ht, enc, goInt]) trivial
  · rename_i n y e
    obtain ⟨rfl, rfl⟩ := pair_inj hr
    cases d <;> simp at hq
    subst hq
    exact Yields.pure R (by simp [Builtin.len_, run_underlying ht, enc, goInt]) trivial
  · cases hr
theorem q_max {xs : List Operand} {xs' : List Opd} (hx : copds xs = some xs') (E : Evals ρ h.next ev tm) (R : HRel base ρ h w) (hr : o_mx xs' (val tm) h = some (v, h')) {ats : Array TypeId} :
    Yields P base ρ h w (do pure (.value (← Builtin.max_ ats ty (xs.map ev).toArray))) v h' := by
  obtain ⟨h1, h2⟩ := E.list hx
  unfold o_mx at hr
  split at hr
  · rename_i y r e
    split at hr
    · rename_i v' hv
      obtain ⟨rfl, rfl⟩ := pair_inj hr
      rw [e] at h1
      have key : ∀ (r : List AV) (y v : AV), foldA max2A y r = some v → (List.foldlM Builtin.max2 (enc ρ y) (encs ρ r)).run P w = .ok (enc ρ v) w ∧ (ok ρ h.next y → ok ρ h.next v) := by
        intro r
        induction r with
        | nil => intro y v hv; obtain rfl := Option.some.inj hv; exact ⟨rfl, id⟩
        | cons a r ih =>
          intro y v hv
          unfold foldA at hv
          split at hv
          · rename_i z hz
            obtain ⟨i1, i2⟩ := ih z v hv
            unfold max2A at hz
            split at hz
            · rename_i k p k' q
              rw [ltI_eq] at hz
              obtain rfl := Option.some.inj hz
              refine ⟨?_, fun _ => i2 trivial⟩
              simp only [encs, List.foldlM_cons, Sem.run_bind, enc, Builtin.max2, Sem.run_pure, Result.andThen_ok]
              rw [← i1]
              simp only [enc]
              by_cases hpq : p < q <;> simp [hpq]
            · cases hz
          · cases hv
      rw [e] at h2
      obtain ⟨k1, k2⟩ := key r y v' hv
      refine Yields.pure R ?_ (k2 h2.1)
      simp only [Builtin.max_, h1, encs, Sem.run_bind, k1, Result.andThen_ok, Sem.run_pure]
    · cases hr
  · cases hr
theorem q_min {xs : List Operand} {xs' : List Opd} (hx : copds xs = some xs') (E : Evals ρ h.next ev tm) (R : HRel base ρ h w) (hr : o_mn xs' (val tm) h = some (v, h')) {ats : Array TypeId} :
    Yields P base ρ h w (do pure (.value (← Builtin.min_ ats ty (xs.map ev).toArray))) v h' := by
  obtain ⟨h1, h2⟩ := E.list hx
  unfold o_mn at hr
  split at hr
  · rename_i y r e
    split at hr
    · rename_i v' hv
      obtain ⟨rfl, rfl⟩ := pair_inj hr
      rw [e] at h1
      have key : ∀ (r : List AV) (y v : AV), foldA min2A y r = some v → (List.foldlM Builtin.min2 (enc ρ y) (encs ρ r)).run P w = .ok (enc ρ v) w ∧ (ok ρ h.next y → ok ρ h.next v) := by
        intro r
        induction r with
        | nil => intro y v hv; obtain rfl := Option.some.inj hv; exact ⟨rfl, id⟩
        | cons a r ih =>
          intro y v hv
          unfold foldA at hv
          split at hv
          · rename_i z hz
            obtain ⟨i1, i2⟩ := ih z v hv
            unfold min2A at hz
            split at hz
            · rename_i k p k' q
              rw [ltI_eq] at hz
              obtain rfl := Option.some.inj hz
              refine ⟨?_, fun _ => i2 trivial⟩
              simp only [encs, List.foldlM_cons, Sem.run_bind, enc, Builtin.min2, Sem.run_pure, Result.andThen_ok]
              rw [← i1]
              simp only [enc]
              by_cases hpq : q < p <;> simp [hpq]
            · cases hz
          · cases hv
      rw [e] at h2
      obtain ⟨k1, k2⟩ := key r y v' hv
      refine Yields.pure R ?_ (k2 h2.1)
      simp only [Builtin.min_, h1, encs, Sem.run_bind, k1, Result.andThen_ok, Sem.run_pure]
    · cases hr
  · cases hr
end
end Go.Ae
