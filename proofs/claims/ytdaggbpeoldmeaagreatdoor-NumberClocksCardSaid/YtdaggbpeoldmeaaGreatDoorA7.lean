/- The abstract evaluator: comparisons. -/
import Derived.Test.YtdaggbpeoldmeaaGreatDoorA6
import Derived.Laws.StructEq
set_option linter.unusedVariables false
set_option linter.unusedSimpArgs false
namespace Go.Ae
section
variable {P : Program} {base : Nat} {ρ : Rho} {h h' : Hp} {w : World} {ev : Operand → Value} {tm : T AV} {v : AV}

theorem eqLs_append (xs ys : List AV) : ∀ (a b : List (Nat × LK)), eqLs xs ys (a ++ b) = match eqLs xs ys a with | some true => eqLs xs ys b | r => r
  | [], b => by simp [eqLs]
  | (i, k) :: a, b => by
    simp only [List.cons_append, eqLs, eqLs_append xs ys a b]
    split
    · split <;> rfl
    · rfl
theorem eqLs_shift (xs ys : List AV) (o n : Nat) : ∀ (a : List (Nat × LK)), (a.all fun x => x.1 < n) = true → eqLs ((xs.drop o).take n) ((ys.drop o).take n) a = eqLs xs ys (a.map fun x => (o + x.1, x.2))
  | [], _ => rfl
  | (i, k) :: a, ha => by
    simp only [List.all_cons, Bool.and_eq_true, decide_eq_true_eq] at ha
    have ih := eqLs_shift xs ys o n a ha.2
    simp only [List.map_cons, eqLs, ih, List.getElem?_take, List.getElem?_drop, ha.1, if_true]
theorem cells_eq (xs : List AV) (i : Nat) : (encs ρ xs).toArray[i]? = (xs[i]?).map (enc ρ) := by simp [encs_map]
theorem beq_ba (a b : List UInt8) : ((⟨a.toArray⟩ : ByteArray) == ⟨b.toArray⟩) = (a == b) := by
  rw [beq_toListBytes, ba_toList, ba_toList]
/-- A leaf. -/
theorem run_leaf {t : TypeId} {k : LK} (D : Nat) (hk : match P.underlying t, k with | some (.int _), .int => True | some .bool, .bool => True | some .string, .str => True | _, _ => False) {a b : AV} {r : Bool} (hr : eqLeaf k a b = some r) (w : World) :
    (Op.equalIn (D + 1) t (enc ρ a) (enc ρ b)).run P w = .ok r w := by
  unfold eqLeaf at hr
  split at hr
  · rename_i k1 x k2 y
    rw [sameK_eq] at hr
    by_cases hkk : k1 = k2
    · subst hkk
      rw [eqI_eq] at hr
      simp only [decide_true] at hr
      obtain rfl := Option.some.inj hr
      cases hu : P.underlying t with
      | none => simp [hu] at hk
      | some d =>
        cases d <;> simp [hu] at hk
        simp [Op.equalIn, run_underlying hu, enc]
    · simp [hkk] at hr
  · obtain rfl := Option.some.inj hr
    cases hu : P.underlying t with
    | none => simp [hu] at hk
    | some d =>
      cases d <;> simp [hu] at hk
      simp [Op.equalIn, run_underlying hu, enc]
  · obtain rfl := Option.some.inj hr
    cases hu : P.underlying t with
    | none => simp [hu] at hk
    | some d =>
      cases d <;> simp [hu] at hk
      simp only [Op.equalIn, run_underlying hu, enc, Sem.run_bind, Result.andThen_ok, Sem.run_pure, beq_ba]
  · cases hr
/-- What a field's comparison gives. -/
def FieldEq (P : Program) (lv : TypeId → Option (List (Nat × LK))) (D : Nat) : Prop :=
  ∀ (u : TypeId) (a : List (Nat × LK)) (n : Nat), lv u = some a → csz P u = some n → (a.all fun x => x.1 < n) = true → ∀ (ρ : Rho) (xs ys : List AV) (o : Nat) (r : Bool) (w : World), eqLs xs ys (a.map fun x => (o + x.1, x.2)) = some r →
    ∃ va vb, (part u (encs ρ xs).toArray o).run P w = .ok va w ∧ (part u (encs ρ ys).toArray o).run P w = .ok vb w ∧ (Op.equalIn D u va vb).run P w = .ok r w
theorem run_eqFields {lv : TypeId → Option (List (Nat × LK))} {D : Nat} (hF : FieldEq P lv D) : ∀ (fs : List Field) (ls : List (Nat × LK)), leavesL P lv fs = some ls → ∀ (xs ys : List AV) (r : Bool) (w : World), eqLs xs ys ls = some r →
    (Op.eqFields D (encs ρ xs).toArray (encs ρ ys).toArray fs).run P w = .ok r w
  | [], ls, hl, xs, ys, r, w, hr => by
    obtain rfl := Option.some.inj hl
    obtain rfl := Option.some.inj hr
    simp [Op.eqFields]
  | f :: fs, ls, hl, xs, ys, r, w, hr => by
    unfold leavesL at hl
    split at hl
    · rename_i a n b hn ha hs hb
      split at hl
      · rename_i hall
        obtain rfl := Option.some.inj hl
        rw [eqLs_append] at hr
        have hname : f.name ≠ "_" := by simpa using hn
        have ih := run_eqFields hF fs b hb xs ys
        cases h1 : eqLs xs ys (a.map fun x => (f.offset + x.1, x.2)) with
        | none => rw [h1] at hr; cases hr
        | some r1 =>
          obtain ⟨va, vb, g1, g2, g3⟩ := hF f.type a n ha hs hall ρ xs ys f.offset r1 w h1
          rw [h1] at hr
          cases r1 with
          | true => simp [Op.eqFields, hname, g1, g2, g3, ih r w hr]
          | false =>
            obtain rfl := Option.some.inj hr
            simp [Op.eqFields, hname, g1, g2, g3]
      · cases hl
    · cases hl
theorem run_leaves : ∀ (d D : Nat), d ≤ D → FieldEq P (leaves P d) D
  | 0, D, _ => fun u a n h0 => by simp [leaves] at h0
  | d + 1, 0, hD => by omega
  | d + 1, D + 1, hD => by
    intro u a n ha hn hall ρ xs ys o r w hr
    unfold leaves at ha
    have leaf : ∀ (k : LK), a = [(0, k)] → cagg P u = some false → (match P.underlying u, k with | some (.int _), .int => True | some .bool, .bool => True | some .string, .str => True | _, _ => False) →
        ∃ va vb, (part u (encs ρ xs).toArray o).run P w = .ok va w ∧ (part u (encs ρ ys).toArray o).run P w = .ok vb w ∧ (Op.equalIn (D + 1) u va vb).run P w = .ok r w := by
      intro k hak hag hk
      subst hak
      simp only [List.map_cons, List.map_nil, eqLs, Nat.add_zero] at hr
      split at hr
      · rename_i x y hx hy
        have hr' : eqLeaf k x y = some r := by
          cases he : eqLeaf k x y with
          | none => rw [he] at hr; cases hr
          | some b => rw [he] at hr; cases b <;> simpa using hr
        refine ⟨enc ρ x, enc ρ y, ?_, ?_, run_leaf D hk hr' w⟩
        · simp only [part, Sem.run_bind, run_isAgg' hag, Result.andThen_ok, Bool.false_eq_true, if_false, cells_eq, hx, Option.map_some, Sem.run_pure]
        · simp only [part, Sem.run_bind, run_isAgg' hag, Result.andThen_ok, Bool.false_eq_true, if_false, cells_eq, hy, Option.map_some, Sem.run_pure]
      · cases hr
    split at ha
    · rename_i k hu; exact leaf .int (Option.some.inj ha).symm (by simp [cagg, hu]) (by simp [hu])
    · rename_i hu; exact leaf .bool (Option.some.inj ha).symm (by simp [cagg, hu]) (by simp [hu])
    · rename_i hu; exact leaf .str (Option.some.inj ha).symm (by simp [cagg, hu]) (by simp [hu])
    · rename_i fs hu
      split at ha
      · cases ha
      · rename_i hst
        have hag : cagg P u = some true := by simp [cagg, hu]
        have hfo : P.fieldsOf u = fs := by simp [Program.fieldsOf, hu]
        rw [← eqLs_shift xs ys o n a hall] at hr
        refine ⟨.agg (encs ρ ((xs.drop o).take n)).toArray, .agg (encs ρ ((ys.drop o).take n)).toArray, ?_, ?_, ?_⟩
        · simp only [part, Sem.run_bind, run_isAgg' hag, Result.andThen_ok, if_true, run_sizeOf' hn, Sem.run_pure]
          congr 2; apply Array.ext'; simp [encs_map, List.drop_take, List.map_drop, List.map_take]
        · simp only [part, Sem.run_bind, run_isAgg' hag, Result.andThen_ok, if_true, run_sizeOf' hn, Sem.run_pure]
          congr 2; apply Array.ext'; simp [encs_map, List.drop_take, List.map_drop, List.map_take]
        · rw [run_equalIn_struct w D u _ _ (by rw [hfo]; exact hu) (by simpa using hst), hfo]
          exact run_eqFields (run_leaves d D (by omega)) fs.toList a ha _ _ r w hr
    · cases ha
theorem run_equal_struct {t : TypeId} {ls : List (Nat × LK)} (hl : leaves P 20 t = some ls) {xs ys : List AV} {r : Bool} (hr : eqLs xs ys ls = some r) {fs : Array Field} (hu : P.underlying t = some (.struct fs)) (w : World) :
    (Op.equal t (.agg (encs ρ xs).toArray) (.agg (encs ρ ys).toArray)).run P w = .ok r w := by
  have hfo : P.fieldsOf t = fs := by simp [Program.fieldsOf, hu]
  unfold leaves at hl
  rw [hu] at hl
  simp only at hl
  split at hl
  · cases hl
  · rename_i hst
    show (Op.equalIn (9999 + 1) t _ _).run P w = _
    rw [run_equalIn_struct w 9999 t _ _ (by rw [hfo]; exact hu) (by simpa using hst), hfo]
    exact run_eqFields (run_leaves 19 9999 (by omega)) fs.toList ls hl _ _ r w hr

variable {dst : Option Tmp} {ty : TypeId} {pos : String} {af : Array Edge} {gd : Option (Nat × Bool)}
theorem guard_skip {op : BinOp} {t : TypeId} {x y : Operand} {a b : Value} (h1 : ∀ l, a ≠ .agg l) (h2 : ¬ (a = .nilIface ∧ b = .nilIface) ∨ (isConstO x || isConstO y) = true) (w : World) : (eqGuard op t x y a b).run P w = .ok () w := by
  have main : ∀ (op : BinOp), (op = .eql ∨ op = .neq) → (eqGuard op t x y a b).run P w = .ok () w := by
    intro op ho
    by_cases hn : a = .nilIface ∧ b = .nilIface
    · obtain ⟨rfl, rfl⟩ := hn
      have hc := h2.resolve_left (by simp)
      rcases ho with rfl | rfl <;> cases x <;> cases y <;> first | rfl | (simp [isConstO] at hc)
    · rcases ho with rfl | rfl <;> cases a <;> first
        | rfl
        | exact absurd rfl (h1 _)
        | (cases b <;> first | rfl | exact absurd ⟨rfl, rfl⟩ hn)
  cases op <;> first | rfl | exact main _ (.inl rfl) | exact main _ (.inr rfl)
theorem guard_plain {op : BinOp} {t : TypeId} {x y : Operand} {a b : Array Value} (hg : P.eqGuardType P.depth t = false) (w : World) : (eqGuard op t x y (.agg a) (.agg b)).run P w = .ok () w := by
  cases op <;> first | rfl | (simp only [eqGuard]; simp [hg])
theorem q_eqA {op : BinOp} {t : TypeId} {x y : Operand} {X Y : AV} {r : Bool} (hq : eqA (ceq P op t x y) X Y = some r) (hni : ∀ k a k' b, X = .int k a → Y = .int k' b → False) (hns : ∀ a b, X = .str a → Y = .str b → False) (w : World) :
    (eqGuard op t x y (enc ρ X) (enc ρ Y)).run P w = .ok () w ∧ (Op.equal t (enc ρ X) (enc ρ Y)).run P w = .ok r w ∧
    (binOp .eql t (enc ρ X) (enc ρ Y) = do pure (.bool (← Op.equal t (enc ρ X) (enc ρ Y)))) ∧ (binOp .neq t (enc ρ X) (enc ρ Y) = do pure (.bool (!(← Op.equal t (enc ρ X) (enc ρ Y))))) := by
  obtain ⟨D, eqrun⟩ : ∃ D, ∀ a b, Op.equal t a b = Op.equalIn (D + 1) t a b := ⟨9999, fun _ _ => rfl⟩
  unfold ceq at hq
  split at hq
  case h_1 hu =>
    simp only [eqA] at hq
    unfold eqBool at hq
    split at hq <;> first
      | (obtain rfl := Option.some.inj hq
         refine ⟨guard_skip (by simp [enc]) (.inl (by simp [enc])) w, ?_, by simp [enc, binOp], by simp [enc, binOp]⟩
         simp only [eqrun, Op.equalIn, Sem.run_bind, run_underlying hu, Result.andThen_ok, enc, Sem.run_pure, Option.isNone_none, Option.isNone_some]; done)
      | cases hq
  case h_2 hu =>
    simp only [eqA] at hq
    unfold eqPtr at hq
    split at hq <;> first
      | (obtain rfl := Option.some.inj hq
         refine ⟨guard_skip (by simp [enc]) (.inl (by simp [enc])) w, ?_, by simp [enc, binOp], by simp [enc, binOp]⟩
         simp only [eqrun, Op.equalIn, Sem.run_bind, run_underlying hu, Result.andThen_ok, enc, Sem.run_pure, Option.isNone_none, Option.isNone_some]; done)
      | cases hq
  case h_3 hu =>
    simp only [eqA] at hq
    unfold eqSl at hq
    split at hq <;> first
      | (obtain rfl := Option.some.inj hq
         refine ⟨guard_skip (by simp [enc]) (.inl (by simp [enc])) w, ?_, by simp [enc, binOp], by simp [enc, binOp]⟩
         simp only [eqrun, Op.equalIn, Sem.run_bind, run_underlying hu, Result.andThen_ok, enc, Sem.run_pure, Option.isNone_none, Option.isNone_some]; done)
      | cases hq
  case h_4 hu =>
    simp only [eqA] at hq
    unfold eqMap at hq
    split at hq <;> first
      | (obtain rfl := Option.some.inj hq
         refine ⟨guard_skip (by simp [enc]) (.inl (by simp [enc])) w, ?_, by simp [enc, binOp], by simp [enc, binOp]⟩
         simp only [eqrun, Op.equalIn, Sem.run_bind, run_underlying hu, Result.andThen_ok, enc, Sem.run_pure, Option.isNone_none, Option.isNone_some]; done)
      | cases hq
  case h_5 hu =>
    simp only [eqA] at hq
    unfold eqFn at hq
    split at hq <;> first
      | (obtain rfl := Option.some.inj hq
         refine ⟨guard_skip (by simp [enc]) (.inl (by simp [enc])) w, ?_, by simp [enc, binOp], by simp [enc, binOp]⟩
         simp only [eqrun, Op.equalIn, Sem.run_bind, run_underlying hu, Result.andThen_ok, enc, Sem.run_pure, Option.isNone_none, Option.isNone_some]; done)
      | cases hq
  case h_6 hu =>
    split at hq
    · rename_i hc
      simp only [eqA] at hq
      unfold eqIfc at hq
      split at hq <;> first
        | (obtain rfl := Option.some.inj hq
           refine ⟨guard_skip (by simp [enc]) (.inr hc) w, ?_, by simp [enc, binOp], by simp [enc, binOp]⟩
           simp only [eqrun, Op.equalIn, Sem.run_bind, run_underlying hu, Result.andThen_ok, enc, Sem.run_pure]; done)
        | cases hq
    · simp [eqA] at hq
  case h_7 hu =>
    split at hq
    · rename_i ls hl
      split at hq
      · simp [eqA] at hq
      · rename_i hg
        simp only [eqA] at hq
        unfold eqPlain at hq
        split at hq
        · simp only [enc]
          exact ⟨guard_plain (by simpa using hg) w, run_equal_struct hl hq hu w, by simp [binOp], by simp [binOp]⟩
        · cases hq
    · simp [eqA] at hq
  case h_8 => simp [eqA] at hq
theorem q_bin {op : BinOp} {t yt : TypeId} {x y : Operand} {x' y' : Opd} (hx : copd x = some x') (hy : copd y = some y') (E : Evals ρ h.next ev tm) (R : HRel base ρ h w)
    (hr : o_bin op (ceq P op t x y) x' y' (val tm) h = some (v, h')) : Yields P base ρ h w (do pure (.value (← (do eqGuard op t x y (ev x) (ev y); binOp op t (ev x) (ev y))))) v h' := by
  obtain ⟨e1, k1⟩ := E _ _ hx
  obtain ⟨e2, k2⟩ := E _ _ hy
  unfold o_bin at hr
  split at hr
  · rename_i v' hv
    obtain ⟨rfl, rfl⟩ := pair_inj hr
    have fin : (eqGuard op t x y (ev x) (ev y)).run P w = .ok () w → (binOp op t (ev x) (ev y)).run P w = .ok (enc ρ v') w → ok ρ h.next v' → Yields P base ρ h w (do pure (.value (← (do eqGuard op t x y (ev x) (ev y); binOp op t (ev x) (ev y))))) v' h :=
      fun g1 g2 g3 => Yields.pure R (by simp [g1, g2]) g3
    unfold binA at hv
    split at hv
    · rename_i ka a kb b ea eb
      rw [ea] at e1; rw [eb] at e2
      simp only [enc] at e1 e2
      rw [e1, e2] at fin ⊢
      obtain ⟨g1, g2⟩ := run_intA (h := h) (P := P) (ρ := ρ) (w := w) hv t
      exact fin (guard_skip (by simp) (.inl (by simp)) w) g1 g2
    · rename_i a b ea eb
      rw [ea] at e1; rw [eb] at e2
      simp only [enc] at e1 e2
      rw [e1, e2] at fin ⊢
      obtain ⟨g1, g2⟩ := run_strA (h := h) (P := P) (ρ := ρ) (w := w) hv t
      exact fin (guard_skip (by simp) (.inl (by simp)) w) g1 g2
    · rename_i X Y n1 n2
      have main : ∀ r, eqA (ceq P op t x y) (val tm x') (val tm y') = some r → (eqGuard op t x y (ev x) (ev y)).run P w = .ok () w ∧ (Op.equal t (ev x) (ev y)).run P w = .ok r w ∧
          (binOp .eql t (ev x) (ev y) = do pure (.bool (← Op.equal t (ev x) (ev y)))) ∧ (binOp .neq t (ev x) (ev y) = do pure (.bool (!(← Op.equal t (ev x) (ev y))))) := by
        intro r hq
        rw [e1, e2]
        exact q_eqA hq (fun k a k' b h1 h2 => n1 k a k' b h1 h2) (fun a b h1 h2 => n2 a b h1 h2) w
      split at hv
      · obtain ⟨r, hr1, rfl⟩ : ∃ r, eqA (ceq P .eql t x y) (val tm x') (val tm y') = some r ∧ v' = .bool r := by
          cases hq : eqA (ceq P .eql t x y) (val tm x') (val tm y') with
          | none => rw [hq] at hv; cases hv
          | some r => rw [hq] at hv; exact ⟨r, rfl, by simpa using hv.symm⟩
        obtain ⟨g1, g2, g3, g4⟩ := main r hr1
        exact fin g1 (by rw [g3]; simp [g2, enc]) trivial
      · obtain ⟨r, hr1, rfl⟩ : ∃ r, eqA (ceq P .neq t x y) (val tm x') (val tm y') = some r ∧ v' = .bool !r := by
          cases hq : eqA (ceq P .neq t x y) (val tm x') (val tm y') with
          | none => rw [hq] at hv; cases hv
          | some r => rw [hq] at hv; exact ⟨r, rfl, by simpa using hv.symm⟩
        obtain ⟨g1, g2, g3, g4⟩ := main r hr1
        exact fin g1 (by rw [g4]; simp [g2, enc]) trivial
      · cases hv
  · cases hr
end
end Go.Ae
