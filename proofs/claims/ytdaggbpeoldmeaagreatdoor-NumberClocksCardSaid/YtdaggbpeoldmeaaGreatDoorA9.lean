/- The abstract evaluator: slices made, cut and appended to. -/
import Derived.Test.YtdaggbpeoldmeaaGreatDoorA8
set_option linter.unusedVariables false
set_option linter.unusedSimpArgs false
namespace Go.Ae
section
variable {P : Program} {base : Nat} {ρ : Rho} {h h' : Hp} {w : World} {ev : Operand → Value} {tm : T AV} {v : AV}
variable {dst : Option Tmp} {ty : TypeId} {pos : String} {af : Array Edge} {gd : Option (Nat × Bool)}

theorem rep_length (z : List AV) : ∀ n, (rep n z).length = n * z.length
  | 0 => by simp [rep]
  | n + 1 => by simp [rep, rep_length z n, Nat.add_mul]; omega
theorem rep_getElem (z : List AV) (hz : 0 < z.length) : ∀ (n j : Nat), j < n * z.length → (rep n z)[j]? = z[j % z.length]?
  | 0, j, h => by simp at h
  | n + 1, j, h => by
    unfold rep
    by_cases hj : j < z.length
    · rw [List.getElem?_append_left hj, Nat.mod_eq_of_lt hj]
    · rw [List.getElem?_append_right (by omega), rep_getElem z hz n _ (by rw [Nat.add_mul] at h; omega)]
      congr 1
      rw [Nat.mod_eq_sub_mod (by omega : j ≥ z.length)]
theorem rep_mem {z : List AV} {v : AV} : ∀ {n : Nat}, v ∈ rep n z → v ∈ z
  | 0, h => by simp [rep] at h
  | n + 1, h => by
    unfold rep at h
    rcases List.mem_append.1 h with h | h
    · exact h
    · exact rep_mem h
theorem range_zero (ρ : Rho) (z : List AV) (hz : 0 < z.length) (n : Nat) : ((Array.range (n * z.length)).map fun x => (encs ρ z).toArray[x % (encs ρ z).toArray.size]!) = (encs ρ (rep n z)).toArray := by
  apply Array.ext'
  apply List.ext_getElem?
  intro j
  rw [encs_map, encs_map]
  by_cases hj : j < n * z.length
  · have hm : j % z.length < z.length := Nat.mod_lt _ hz
    simp [hj, rep_getElem z hz n j hj, getElem!_pos, hm]
  · have h1 : (rep n z)[j]? = none := by rw [List.getElem?_eq_none]; rw [rep_length]; omega
    simp [h1]; omega
theorem upd_sl (ρ : Rho) (N b c sz n z : Nat) : enc (upd ρ N ⟨b, 0, c, sz⟩) (.sl N 0 n z) = .slice (some ⟨b, 0, none⟩) n c := by simp [enc, upd]
theorem q_bslice {t e : TypeId} {n s : Nat} {ps : Array (Nat × Operand)} {z : List AV} {l : List (Nat × Nat × Opd)} (hu : P.underlying t = some (.slice e)) (hs : csz P e = some s) (hz : czero P e = some z) (hc : z.length = s ∧ n * s ≤ 16777216 ∧ 0 < s)
    (hl : cparts (fun i => some (i * s, s)) ps.toList = some l) (E : Evals ρ h.next ev tm) (R : HRel base ρ h w) (hr : o_bslice s n (rep n z) l (val tm) h = some (v, h')) :
    Yields P base ρ h w (do pure (.value (← Instr.buildSlice t n (ps.map fun p => (p.1, ev p.2))))) v h' := by
  obtain ⟨i, zv, h1, h2, h3⟩ := zero_of hz
  obtain ⟨e1, e2, e3⟩ := cvals_enc h3 ρ h.next
  obtain ⟨c1, c2, c3⟩ := hc
  unfold o_bslice at hr
  split at hr
  · rename_i cs hcs
    split at hr
    · rename_i hn
      obtain ⟨rfl, rfl⟩ := pair_inj hr
      obtain ⟨r1, r2, r3, r4⟩ := fill_sound (h := h) E (pl := fun i => some (i * s, s)) (pl' := fun i => some (i * s, s)) (fun i x hx => hx) ps.toList l (rep n z) cs hl hcs ((oks_iff _ _ _).2 fun v hv => (oks_iff _ _ _).1 e2 v (rep_mem hv)) (fun v hv => e3 v (rep_mem hv))
      refine ⟨_, _, _, .inl ?_, (upd_sl ρ h.next w.heap.size n s n s).symm, ?_, Ext.newRow0 R cs e n s r3 r2 (by omega)⟩
      · have hzc : zv.cells = (encs ρ z).toArray := by rw [e1]
        have hmap : (ps.map fun p => (p.1, ev p.2)).toList = ps.toList.map fun p => (p.1, ev p.2) := by simp
        by_cases h0 : n * s = 0
        · have hn0 : n = 0 := by rcases Nat.mul_eq_zero.1 h0 with c | c <;> omega
          have hr0 : (Array.map (fun x => (#[] : Array Value)[x % (#[] : Array Value).size]!) (Array.range (n * s))) = (encs ρ (rep n z)).toArray := by subst hn0; simp [rep, encs]
          simp only [Instr.buildSlice, Sem.run_bind, run_underlying hu, Result.andThen_ok, run_sizeOf' hs, show ¬ n * s > 2 ^ 24 by omega, if_false, if_pos h0, Sem.run_pure, hr0, hmap, r1, newRow, run_newObj]
          rfl
        · have hr0 : (Array.map (fun x => zv.cells[x % zv.cells.size]!) (Array.range (n * s))) = (encs ρ (rep n z)).toArray := by rw [hzc, ← c1]; exact range_zero ρ z (by omega) n
          simp only [Instr.buildSlice, Sem.run_bind, run_underlying hu, Result.andThen_ok, run_sizeOf' hs, show ¬ n * s > 2 ^ 24 by omega, if_false, if_neg h0, zeroValue, typeInfo, run_program, h1, h2, Sem.run_pure, hr0, hmap, r1, newRow, run_newObj]
          rfl
      · simp only [ok, upd_same, Hp.push]
        exact ⟨by omega, trivial, c3, by simp, by simp⟩
    · cases hr
  · cases hr
theorem q_mks {t e : TypeId} {i : TypeInfo} {l c : Operand} {l' c' : Opd} {z : List AV} (hu : P.underlying t = some (.slice e)) (hi : P.info? e = some i) (hz : czero P e = some z) (hl : copd l = some l') (hc : copd c = some c') (E : Evals ρ h.next ev tm) (R : HRel base ρ h w)
    (hr : o_mks i.size i.bytes z l' c' (val tm) h = some (v, h')) : Yields P base ρ h w (do pure (.value (← Instr.makeSlice t (ev l) (ev c)))) v h' := by
  obtain ⟨e1, k1⟩ := E _ _ hl
  obtain ⟨e2, k2⟩ := E _ _ hc
  obtain ⟨i', zv, h1, h2, h3⟩ := zero_of hz
  rw [hi] at h1; obtain rfl := Option.some.inj h1
  obtain ⟨g1, g2, g3⟩ := cvals_enc h3 ρ h.next
  unfold o_mks at hr
  split at hr
  · rename_i L C g4 g5
    split at hr
    · rename_i hh
      obtain ⟨p1, p2, p3, p4, p5, p6, p7⟩ := hh
      obtain ⟨rfl, rfl⟩ := pair_inj hr
      have hone : ∀ v ∈ rep L.toNat z, v.one = true := fun v hv => g3 v (rep_mem hv)
      have hoks : oks ρ h.next (rep L.toNat z) := (oks_iff _ _ _).2 fun v hv => (oks_iff _ _ _).1 g2 v (rep_mem hv)
      obtain ⟨d, hd⟩ : ∃ d, C.toNat = L.toNat + d := ⟨C.toNat - L.toNat, by omega⟩
      have hrep : ∀ a b : Nat, rep (a + b) z = rep a z ++ rep b z := by
        intro a b
        induction a with
        | zero => simp [rep]
        | succ a ih => rw [Nat.add_right_comm]; simp [rep, ih]
      have hext := Ext.newRow R (rep L.toNat z) e (encs ρ (rep d z)) C.toNat i.size hone hoks (by rw [rep_length, encs_length, rep_length, p5, hd, Nat.add_mul]; omega) w.drawn
      rw [← encs_append, ← hrep, ← hd] at hext
      refine ⟨_, _, _, .inl ?_, (upd_sl ρ h.next w.heap.size C.toNat i.size L.toNat i.size).symm, ?_, hext⟩
      · have hzc : zv.cells = (encs ρ z).toArray := by rw [g1]
        have wl : IntKind.i64.wrap L = L := by
          have := wrapW_eq .i64 L
          cases L with
          | ofNat m => simp only [wrapW] at this; rw [← this]; have : Nat.blt m (limK .i64) = true := by simp [Nat.blt_eq, limK]; simp only [Int.ofNat_eq_natCast] at p2; omega
                       rw [this]
          | negSucc m => omega
        have wc : IntKind.i64.wrap C = C := by
          have := wrapW_eq .i64 C
          cases C with
          | ofNat m => simp only [wrapW] at this; rw [← this]; have : Nat.blt m (limK .i64) = true := by simp [Nat.blt_eq, limK]; simp only [Int.ofNat_eq_natCast] at p4; omega
                       rw [this]
          | negSucc m => omega
        have hbig : (decide (C < 0) || decide ((i.bytes : Int) * C > 2 ^ 48)) = false := by
          have : (i.bytes : Int) * C = C * i.bytes := Int.mul_comm _ _
          have p3' : C * (i.bytes : Int) ≤ 281474976710656 := p3
          simp only [this, Bool.or_eq_false_iff, decide_eq_false_iff_not]
          exact ⟨by omega, by omega⟩
        rw [e1, e2, g4, g5]
        by_cases h0 : C.toNat * i.size = 0
        · have hn0 : C.toNat = 0 := by rcases Nat.mul_eq_zero.1 h0 with c | c <;> omega
          have hr0 : (Array.map (fun x => (#[] : Array Value)[x % (#[] : Array Value).size]!) (Array.range (C.toNat * i.size))) = (encs ρ (rep C.toNat z)).toArray := by rw [h0, hn0]; simp [rep, encs]
          simp only [enc, Instr.makeSlice, Sem.run_bind, run_underlying hu, Result.andThen_ok, asInt, asIntOf, Sem.run_pure, typeInfo, run_program, hi, wl, wc, hbig, Bool.false_or, show (decide (L < 0) || decide (L > C)) = false by simp; omega, Bool.false_eq_true, if_false, run_askRoom, run_sizeOf' (show csz P e = some i.size by simp [csz, hi]), if_pos h0, hr0, newRow, run_newObj]
          rfl
        · have hr0 : (Array.map (fun x => zv.cells[x % zv.cells.size]!) (Array.range (C.toNat * i.size))) = (encs ρ (rep C.toNat z)).toArray := by rw [hzc, ← p5]; exact range_zero ρ z (by omega) C.toNat
          simp only [enc, Instr.makeSlice, Sem.run_bind, run_underlying hu, Result.andThen_ok, asInt, asIntOf, Sem.run_pure, typeInfo, run_program, hi, wl, wc, hbig, Bool.false_or, show (decide (L < 0) || decide (L > C)) = false by simp; omega, Bool.false_eq_true, if_false, run_askRoom, run_sizeOf' (show csz P e = some i.size by simp [csz, hi]), if_neg h0, zeroValue, h2, hr0, newRow, run_newObj]
          rfl
      · simp only [ok, upd_same, Hp.push]
        exact ⟨by omega, trivial, p6, by simp, by simp; omega⟩
    · cases hr
  · cases hr
theorem q_sl {t e : TypeId} {s : Nat} {x : Operand} {x' : Opd} {lo hi : Option Operand} {lo' hi' : Option Opd} (ht : P.underlying t = some (.slice e)) (hs : csz P e = some s) (hx : copd x = some x') (hlo : copdo lo = some lo') (hhi : copdo hi = some hi')
    (E : Evals ρ h.next ev tm) (R : HRel base ρ h w) (hr : o_sl s x' lo' hi' (val tm) h = some (v, h')) : Yields P base ρ h w (do pure (.value (← Instr.sliceAt t (ev x) (lo.map ev) (hi.map ev) none))) v h' := by
  obtain ⟨e1, k1⟩ := E _ _ hx
  unfold o_sl slA at hr
  split at hr
  · rename_i g
    split at hr
    · rename_i n l hn hl
      obtain ⟨rfl, rfl⟩ := pair_inj hr
      have hn0 : n = 0 := by
        rcases bound_run (lo := 0) hhi E hn with ⟨_, c⟩ | ⟨_, _, _, _, c⟩ <;> omega
      subst hn0
      obtain ⟨r1, r2, r3⟩ := run_sliceBounds (P := P) (isS := true) (cap := 0) hlo hhi E (Nat.le_refl 0) hn hl w
      have hl0 : l = 0 := by omega
      subst hl0
      refine Yields.pure R ?_ trivial
      rw [e1, g]
      simp [Instr.sliceAt, Instr.slice, run_underlying ht, enc, r1, run_sizeOf' hs]
    · cases hr
  · rename_i tk o n z g
    rw [g] at k1
    obtain ⟨k2, k3, k4, k5, k6⟩ := k1
    have hq : o / z * z = o := by have := Nat.div_add_mod o z; rw [k5] at this; rw [Nat.mul_comm]; omega
    split at hr
    · cases hr
    · rename_i hh hn
      split at hr
      · cases hr
      · rename_i l hl
        obtain ⟨r1, r2, r3⟩ := run_sliceBounds (P := P) (isS := true) (cap := (ρ tk).c - o / z) hlo hhi E (by omega) hn hl w
        have run : (do pure (.value (← Instr.sliceAt t (ev x) (lo.map ev) (hi.map ev) none)) : Sem Next).run P w =
            .ok (.value (.slice (if (ρ tk).c - o / z = l then some ⟨(ρ tk).b, (ρ tk).o + o, none⟩ else some ⟨(ρ tk).b, (ρ tk).o + o + l * s, none⟩) (hh - l) ((ρ tk).c - o / z - l))) w := by
          rw [e1, g]
          simp only [Instr.sliceAt, Instr.slice, run_underlying ht, enc, r1, run_sizeOf' hs, Sem.run_bind, Result.andThen_ok, Sem.run_pure, Option.map_some, Addr.add_mid]
        split at hr
        · rename_i hl0; subst hl0
          obtain ⟨rfl, rfl⟩ := pair_inj hr
          refine Yields.pure R ?_ ⟨k2, k3, k4, k5, by omega⟩
          rw [run]; simp [enc]
        · rename_i hl0
          split at hr
          · cases hr
          · rename_i hz
            have hz' : z = s := by omega
            subst hz'
            split at hr
            · rename_i hlt
              obtain ⟨rfl, rfl⟩ := pair_inj hr
              have hdiv : (o + l * z) / z = o / z + l := by rw [Nat.add_mul_div_right _ _ k4]
              refine Yields.pure R ?_ ⟨k2, k3, k4, by rw [Nat.add_mul_mod_self_right]; exact k5, by rw [hdiv]; omega⟩
              rw [run, if_neg (by omega)]
              simp only [enc, hdiv]
              rw [Nat.add_assoc, Nat.sub_sub]
            · rename_i hlt
              obtain ⟨rfl, rfl⟩ := pair_inj hr
              have hhl : hh = l := by omega
              subst hhl
              refine ⟨upd ρ h.next ⟨(ρ tk).b, if (ρ tk).c - o / z = hh then (ρ tk).o + o else (ρ tk).o + o + hh * z, (ρ tk).c - o / z - hh, z⟩, w, _, .inl run, ?_, ?_, ?_⟩
              · simp only [enc, upd_same, Nat.sub_self, Nat.zero_div, Nat.sub_zero, Nat.add_zero]
                split <;> rfl
              · simp only [ok, upd_same, Hp.push]
                exact ⟨by omega, trivial, k4, by simp, by simp⟩
              · refine Ext.pushed R _ (upd_agree _ _ _) rfl rfl rfl (Nat.le_refl _) (fun _ _ => rfl) ?_
                exact ⟨⟨by simp, trivial, fun j v hv => by simp [encs] at hv, by simp, fun _ => .inl rfl⟩, by simp⟩
  · cases hr
end
end Go.Ae
