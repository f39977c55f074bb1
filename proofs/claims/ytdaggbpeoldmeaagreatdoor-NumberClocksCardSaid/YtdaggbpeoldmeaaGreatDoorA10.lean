/- The abstract evaluator: append, iterators, maps. -/
import Derived.Test.YtdaggbpeoldmeaaGreatDoorA9
import Derived.Deep.Upon
set_option linter.unusedVariables false
set_option linter.unusedSimpArgs false
namespace Go.Ae
section
variable {P : Program} {base : Nat} {ρ : Rho} {h h' : Hp} {w : World} {ev : Operand → Value} {tm : T AV} {v : AV}
variable {dst : Option Tmp} {ty : TypeId} {pos : String} {af : Array Edge} {gd : Option (Nat × Bool)}

theorem src_of {tx : TypeId} {sz m : Nat} {Y : AV} {ys : List AV} (hk : (∃ e', P.underlying tx = some (.slice e')) ∨ P.underlying tx = some .string) (R : HRel base ρ h w) (hm : lenA Y = some m) (hys : cellsOf h sz Y = some ys) :
    Src P sz tx (enc ρ Y) m (encs ρ ys) w ∧ (ok ρ h.next Y → oks ρ h.next ys) ∧ (∀ v ∈ ys, v.one = true) := by
  unfold cellsOf at hys
  split at hys
  · obtain rfl := Option.some.inj hys
    obtain rfl := Option.some.inj hm
    exact ⟨⟨hk, fun _ => by simp [enc, Builtin.lenOf], by simp [enc, Builtin.firstCells, encs], by simp [enc, Builtin.firstCells, encs], by simp [encs], by simp [encs]⟩, fun _ => trivial, by simp⟩
  · rename_i s
    split at hys
    · rename_i h1; subst h1
      obtain rfl := Option.some.inj hys
      obtain rfl := Option.some.inj hm
      have hb : encs ρ (s.map fun b => AV.int .u8 b.toNat) = byteCells ⟨s.toArray⟩ := by simp [encs_map, byteCells, enc]
      refine ⟨?_, fun _ => (oks_iff _ _ _).2 (by simp [ok]), by simp [AV.one]⟩
      rw [hb]
      have hl : s.length = (⟨s.toArray⟩ : ByteArray).size := (ba_size s).symm
      refine ⟨hk, fun _ => by simp [enc, Builtin.lenOf, ba_size], ?_, ?_, ?_, ?_⟩
      · rw [hl]; exact firstCells_string _ w
      · rw [hl]; exact firstCells_string _ w.drew
      · rw [byteCells_length, ba_size, Nat.mul_one]
      · intro u hu
        obtain ⟨_, _, rfl⟩ := List.mem_map.1 hu
        rfl
    · cases hys
  · rename_i t o n z
    split at hys
    · rename_i cs own st ht
      split at hys
      · rename_i hc
        obtain rfl := Option.some.inj hys
        obtain rfl := Option.some.inj hm
        obtain ⟨r1, r2⟩ := range_at (o := o) (n := n * sz) R ht
        have hl : (encs ρ ((cs.drop o).take (n * sz))).length = n * sz := by rw [encs_length]; simp; omega
        have hone : ∀ v ∈ (cs.drop o).take (n * sz), v.one = true := fun v hv => (R.row t cs own st ht).one v (List.mem_of_mem_drop (List.mem_of_mem_take hv))
        refine ⟨⟨hk, fun _ => by simp [enc, Builtin.lenOf], ?_, ?_, hl, ?_⟩, fun _ => r2, hone⟩
        · simp only [enc]
          exact run_firstCells_some w sz n _ n _ _ hl (fun j u hu => by rw [Addr.add_mid]; exact r1 j u hu)
        · simp only [enc]
          exact run_firstCells_some w.drew sz n _ n _ _ hl (fun j u hu => by rw [Addr.add_mid]; exact r1 j u hu)
        · intro u hu
          rw [encs_map] at hu
          obtain ⟨a, ha, rfl⟩ := List.mem_map.1 hu
          rw [enc_one]; exact hone a ha
      · cases hys
    · cases hys
  · cases hys
theorem cvals_len : ∀ {vs : List Value} {l : List AV}, cvals vs = some l → l.length = vs.length
  | [], l, h => by obtain rfl := Option.some.inj h; rfl
  | v :: r, l, h => by
    unfold cvals at h
    split at h
    · rename_i a l' h1 h2
      obtain rfl := Option.some.inj h
      simp [cvals_len h2]
    · cases h
theorem q_app {t tx e : TypeId} {i : TypeInfo} {x y : Operand} {x' y' : Opd} {z : List AV} (hu : P.underlying t = some (.slice e)) (hk : (∃ e', P.underlying tx = some (.slice e')) ∨ P.underlying tx = some .string) (hi : P.info? e = some i) (hz : czero P e = some z)
    (hzl : z.length = i.size ∧ 0 < i.size) (hx : copd x = some x') (hy : copd y = some y') (E : Evals ρ h.next ev tm) (R : HRel base ρ h w) (hr : o_app i.size i.bytes x' y' (val tm) h = some (v, h')) :
    Yields P base ρ h w (do pure (.value (← Builtin.append_ #[t, tx] ty #[ev x, ev y]))) v h' := by
  obtain ⟨e1, k1⟩ := E _ _ hx
  obtain ⟨e2, k2⟩ := E _ _ hy
  obtain ⟨i', zv, h1, h2, h3⟩ := zero_of hz
  obtain rfl : i' = i := Option.some.inj (h1.symm.trans hi)
  have hzc : zv.cells.size = i'.size := by rw [← hzl.1, cvals_len h3]; simp
  unfold o_app appA at hr
  split at hr
  · rename_i m ys hm hys
    obtain ⟨hs, hoky, hone⟩ := src_of hk R hm hys
    have hoky := hoky k2
    have hyl : ys.length = m * i'.size := by rw [← encs_length ρ ys]; exact hs.newsLen
    split at hr
    · rename_i gx
      have ex : ev x = .slice none 0 0 := by rw [e1, gx]; simp [enc]
      split at hr
      · obtain ⟨rfl, rfl⟩ := pair_inj hr
        obtain rfl : ys = [] := List.eq_nil_of_length_eq_zero (by simpa using hyl)
        refine Yields.pure R ?_ trivial
        rw [ex, e2]
        simp only [Sem.run_bind, run_append_nothing w t tx ty e i' hu hi none 0 0 (Nat.le_refl 0) _ hs, Result.andThen_ok, Sem.run_pure, enc]
      · rename_i m
        split at hr
        · rename_i hc
          obtain ⟨c1, c2, c3⟩ := hc
          obtain ⟨rfl, rfl⟩ := pair_inj hr
          have hrun := run_append_grow_src (P := P) w t tx ty e i' zv hu hi h2 none 0 0 [] (by simp [Builtin.firstCells]) (enc ρ (val tm y')) (m + 1) (encs ρ ys) hs (by omega) (by omega) (growslice_fits (by omega) (by simpa using c1))
          have hge := grownCap_ge w (0 + (m + 1)) 0 e
          refine ⟨_, _, _, .inl ?_, (upd_sl ρ h.next w.heap.size (grownCap w (0 + (m + 1)) 0 e) i'.size (m + 1) i'.size).symm, ?_,
            Ext.newRow R ys e (Builtin.zeroCells zv.cells (grownCap w (0 + (m + 1)) 0 e - (0 + (m + 1)))).toList (grownCap w (0 + (m + 1)) 0 e) i'.size hone hoky ?_ (w.drawn + 1)⟩
          · rw [ex, e2]
            simp only [Sem.run_bind, hrun, Result.andThen_ok, Sem.run_pure]
            congr 1
            · simp
            · have : ([] ++ encs ρ ys : List Value).toArray ++ Builtin.zeroCells zv.cells (grownCap w (0 + (m + 1)) 0 e - (0 + (m + 1))) = (encs ρ ys ++ (Builtin.zeroCells zv.cells (grownCap w (0 + (m + 1)) 0 e - (0 + (m + 1)))).toList).toArray := by
                apply Array.toList_inj.1; simp
              rw [this]; rfl
          · simp only [ok, upd_same, Hp.push]
            exact ⟨by omega, trivial, c3, by simp, by simp at hge ⊢; omega⟩
          · rw [hyl, Array.length_toList, size_zeroCells, hzc, ← Nat.add_mul]
            exact Nat.mul_le_mul_right _ (by omega)
        · cases hr
    · rename_i tk o n z0 gx
      rw [gx] at k1
      obtain ⟨k2', k3, k4, k5, k6⟩ := k1
      have ex : ev x = .slice (some ⟨(ρ tk).b, (ρ tk).o + o, none⟩) n ((ρ tk).c - o / z0) := by rw [e1, gx]; simp [enc]
      split at hr
      · obtain ⟨rfl, rfl⟩ := pair_inj hr
        obtain rfl : ys = [] := List.eq_nil_of_length_eq_zero (by simpa using hyl)
        refine Yields.pure R ?_ ⟨k2', k3, k4, k5, k6⟩
        rw [ex, e2]
        simp only [Sem.run_bind, run_append_nothing w t tx ty e i' hu hi _ n ((ρ tk).c - o / z0) (by omega) _ hs, Result.andThen_ok, Sem.run_pure, enc]
      · rename_i m
        have hyl : ys.length = (m + 1) * i'.size := hyl
        split at hr
        · rename_i cs st ht
          split at hr
          · rename_i hc
            obtain ⟨rfl, c1, c2, c3⟩ := hc
            obtain ⟨rfl, rfl⟩ := pair_inj hr
            have hq : o / i'.size * i'.size = o := by have := Nat.div_add_mod o i'.size; rw [k5] at this; rw [Nat.mul_comm]; omega
            have r := R.row tk cs true st ht
            obtain ⟨q1, q2, q3, q4⟩ := r.own1 rfl
            obtain ⟨r1, r2⟩ := range_at (o := o) (n := n * i'.size) R ht
            have hl : ((cs.drop o).take (n * i'.size)).length = n * i'.size := by simp; omega
            have hl' : (encs ρ ((cs.drop o).take (n * i'.size))).length = n * i'.size := by rw [encs_length, hl]
            have hone0 : ∀ v ∈ (cs.drop o).take (n * i'.size), v.one = true := fun v hv => r.one v (List.mem_of_mem_drop (List.mem_of_mem_take hv))
            have hone1 : ∀ v ∈ (cs.drop o).take (n * i'.size) ++ ys, v.one = true := fun v hv => by
              rcases List.mem_append.1 hv with c | c
              · exact hone0 v c
              · exact hone v c
            have hok1 : oks ρ h.next ((cs.drop o).take (n * i'.size) ++ ys) := (oks_iff _ _ _).2 fun v hv => by
              rcases List.mem_append.1 hv with c | c
              · exact (oks_iff _ _ _).1 r2 v c
              · exact (oks_iff _ _ _).1 hoky v c
            by_cases hroom : n + (m + 1) ≤ (ρ tk).c - o / i'.size
            · have hcap : (ρ tk).o + o + ((ρ tk).c - o / i'.size) * i'.size = (ρ tk).o + (ρ tk).c * i'.size := by
                rw [Nat.sub_mul, hq]
                have : o / i'.size * i'.size ≤ (ρ tk).c * i'.size := Nat.mul_le_mul_right _ (by omega)
                omega
              have hin : ∀ j, j < ((ρ tk).c - o / i'.size) * i'.size → (w.cell? ⟨(ρ tk).b, (ρ tk).o + o + j, none⟩).isSome = true ∧ w.frozen? ⟨(ρ tk).b, (ρ tk).o + o + j, none⟩ = false := by
                intro j hj
                have := q4 (o + j) (by rw [← k3]; omega)
                rwa [← Nat.add_assoc] at this
              have hlt : ∀ j, j < (encs ρ ys).length → n * i'.size + j < ((ρ tk).c - o / i'.size) * i'.size := by
                intro j hj
                rw [encs_length, hyl] at hj
                have := Nat.mul_le_mul_right i'.size hroom
                rw [Nat.add_mul] at this
                omega
              have hrun := run_append_room_src (P := P) w t tx ty e i' hu hi (ρ tk).b ((ρ tk).o + o) n ((ρ tk).c - o / i'.size) (enc ρ (val tm y')) (m + 1) (encs ρ ys) hs hroom
                (fun j hj => by rw [Nat.add_assoc]; exact (hin _ (hlt j hj)).1) (fun j hj => by rw [Nat.add_assoc]; exact (hin _ (hlt j hj)).2)
              obtain ⟨g1, g2, g3, g4, g5⟩ := heap_setCells (ρ tk).b (encs ρ ys) ((ρ tk).o + o + n * i'.size) w
              have hag : Agree h.next ρ (upd ρ h.next ⟨(ρ tk).b, (ρ tk).o + o, (ρ tk).c - o / i'.size, i'.size⟩) := upd_agree _ _ _
              refine ⟨_, _, _, .inl (by rw [ex, e2]; simp only [Sem.run_bind, hrun, Result.andThen_ok, Sem.run_pure]; rfl), ?_, ?_,
                Ext.moved R ht rfl ((cs.drop o).take (n * i'.size) ++ ys) ⟨(ρ tk).b, (ρ tk).o + o, (ρ tk).c - o / i'.size, i'.size⟩ rfl g3 g4 g5 g1 g2 ?_⟩
              · simp only [enc, upd_same, Nat.zero_div, Nat.sub_zero, Nat.add_zero]
              · simp only [ok, upd_same, Hp.push, Hp.put]
                exact ⟨by omega, trivial, k4, by simp, by simp; omega⟩
              · have hth : ∀ k, k ≤ ((ρ tk).c - o / i'.size) * i'.size → (w.setCells (ρ tk).b ((ρ tk).o + o + n * i'.size) (encs ρ ys)).there (ρ tk).b ((ρ tk).o + o) k := fun k hk =>
                  there_setCells (fun j hj => hin j (by omega)) _ _
                refine ⟨hone1, oks_agree hag (Nat.le_succ _) _ hok1, ?_, ?_, by simp⟩
                · rw [upd_same, encs_agree hag _ hok1, encs_append]
                  intro j v hv
                  by_cases hj : j < n * i'.size
                  · rw [List.getElem?_append_left (by rw [hl']; exact hj)] at hv
                    rw [World.cell?_setCells_out (ρ tk).b (encs ρ ys) _ w _ (fun _ _ => by show (ρ tk).o + o + j < _ ∨ _; omega)]
                    exact r1 j v hv
                  · rw [List.getElem?_append_right (by rw [hl']; omega), hl'] at hv
                    have hlt2 : j - n * i'.size < (encs ρ ys).length := (List.getElem?_eq_some_iff.1 hv).1
                    have := World.cell?_setCells_in (ρ tk).b (encs ρ ys) ((ρ tk).o + o + n * i'.size) w (fun a ha => by
                      rw [Nat.add_assoc]; exact (hin _ (hlt a ha)).1) (j - n * i'.size) hlt2
                    rw [show (ρ tk).o + o + j = (ρ tk).o + o + n * i'.size + (j - n * i'.size) by omega]
                    rw [this, ← hv, List.getElem?_eq_getElem hlt2]
                · intro _
                  rw [upd_same]
                  refine ⟨q1, by rw [g1]; exact q2, hth _ ?_, hth _ (Nat.le_refl _)⟩
                  rw [List.length_append, hl, hyl, ← Nat.add_mul]
                  exact Nat.mul_le_mul_right _ hroom
            · have hrun := run_append_grow_src (P := P) w t tx ty e i' zv hu hi h2 (some ⟨(ρ tk).b, (ρ tk).o + o, none⟩) n ((ρ tk).c - o / i'.size) (encs ρ ((cs.drop o).take (n * i'.size)))
                (run_firstCells_some w.drew i'.size n _ n _ _ hl' (fun j u hu => by rw [Addr.add_mid]; exact r1 j u hu)) (enc ρ (val tm y')) (m + 1) (encs ρ ys) hs (by omega) (by omega) (growslice_fits (by omega) (by simpa using c2))
              have hge := grownCap_ge w (n + (m + 1)) ((ρ tk).c - o / i'.size) e
              refine ⟨_, _, _, .inl ?_, (upd_sl ρ h.next w.heap.size (grownCap w (n + (m + 1)) ((ρ tk).c - o / i'.size) e) i'.size (n + (m + 1)) i'.size).symm, ?_,
                (Ext.killed R ht rfl).trans (Ext.newRow (Ext.killed R ht rfl).rel ((cs.drop o).take (n * i'.size) ++ ys) e (Builtin.zeroCells zv.cells (grownCap w (n + (m + 1)) ((ρ tk).c - o / i'.size) e - (n + (m + 1)))).toList (grownCap w (n + (m + 1)) ((ρ tk).c - o / i'.size) e) i'.size hone1 hok1 ?_ (w.drawn + 1))⟩
              · rw [ex, e2]
                simp only [Sem.run_bind, hrun, Result.andThen_ok, Sem.run_pure]
                congr 1
                have : (encs ρ ((cs.drop o).take (n * i'.size)) ++ encs ρ ys : List Value).toArray ++ Builtin.zeroCells zv.cells (grownCap w (n + (m + 1)) ((ρ tk).c - o / i'.size) e - (n + (m + 1))) = (encs ρ ((cs.drop o).take (n * i'.size) ++ ys) ++ (Builtin.zeroCells zv.cells (grownCap w (n + (m + 1)) ((ρ tk).c - o / i'.size) e - (n + (m + 1)))).toList).toArray := by
                  apply Array.toList_inj.1; simp [encs_append]
                rw [this]; rfl
              · simp only [ok, upd_same, Hp.push, Hp.put]
                exact ⟨by omega, trivial, k4, by simp, by simp at hge ⊢; omega⟩
              · rw [List.length_append, hl, hyl, Array.length_toList, size_zeroCells, hzc, ← Nat.add_mul, ← Nat.add_mul]
                exact Nat.mul_le_mul_right _ (by omega)
          · cases hr
        · cases hr
    · cases hr
  · cases hr
end
end Go.Ae
