/- The abstract evaluator: a region whose order is drawn: all its orders. -/
import Derived.Test.YtdaggbpeoldmeaaGreatDoorA18
set_option linter.unusedVariables false
set_option linter.unusedSimpArgs false
namespace Go.Ae
section
variable {P : Program} {base nt N : Nat} {E : Env} {ops : Array Oper} {as : List AOper} {anc : Nat → Nat → Prop} {names : Nat → List Nat} {ss : Nat → St} {vs : Nat → AV} {ρ0 ρ ρ' : Rho} {a0 a : Act} {W0 w0 w w' : World} {h : Hp}
variable {c0 : Nat} {S : Nat → Prop} {f : Nat} {pl : Nat → Nat × Nat} {Q : Exit → Act → World → Prop}

theorem Stat.closed (ST : Stat P nt ops as anc names) (T : Tr E N 0 as c0 ss vs) {k : Nat} {x : AOper} {z : List AV} (hx : as[k]? = some x) (hz : x.op = .alloc z) : ∃ vs : List Value, ∀ (ρ : Rho) (N : Nat), encs ρ z = vs ∧ oks ρ N z ∧ ∀ v ∈ z, v.one = true := by
  have hlt : k < ops.size := by rw [← ST.size]; exact (List.getElem?_eq_some_iff.1 hx).1
  rcases (ST.cops k ops[k] x (Array.getElem?_eq_getElem hlt) hx).op with c | c
  · rw [hz] at c; exact alloc_closed c
  · rw [hz] at c; cases c
theorem DInv.advances (ST : Stat P nt ops as anc names) (T : Tr E N 0 as c0 ss vs) (hw0 : base ≤ w0.heap.size) : ∀ (d f : Nat) (ρ : Rho), DInv P base nt ops as anc ss vs ρ0 a0 w0 S f ρ a w pl →
    (∀ (k : Nat) (x : AOper), f ≤ k → k < f + d → as[k]? = some x → x.cls ≠ 2 ∧ (x.cls = 1 → S k)) → f + d ≤ as.length → ∃ ρ', DInv P base nt ops as anc ss vs ρ0 a0 w0 S (f + d) ρ' a w pl
  | 0, f, ρ, D, _, _ => ⟨ρ, D⟩
  | d + 1, f, ρ, D, hh, hl => by
    obtain ⟨x, hx⟩ := get_lt (as := as) (k := f) (by omega)
    obtain ⟨h1, h2⟩ := hh f x (Nat.le_refl _) (by omega) hx
    obtain ⟨ρ1, D1⟩ := D.advance ST T (fun k x z hx hz => ST.closed T hx hz) hw0 hx h1 h2
    have := DInv.advances ST T hw0 d (f + 1) ρ1 D1 (fun k y a b hy => hh k y (by omega) (by omega) hy) (by omega)
    rwa [show f + (d + 1) = f + 1 + d by omega]
theorem DInv.finish (ST : Stat P nt ops as anc names) (T : Tr E N 0 as c0 ss vs) (S0 : Sim W0 base nt ρ0 (ss 0) a0 w0) (D : DInv P base nt ops as anc ss vs ρ0 a0 w0 S f ρ a w pl) (hall : ∀ k, k < as.length → S k) :
    ∃ ρ', Sim W0 base nt ρ' (ss as.length) a w ∧ Ext base ρ0 (ss 0).hp w0 ρ' (ss as.length).hp w := by
  obtain ⟨ρ', D'⟩ := D.advances ST T S0.rel.size (as.length - f) f ρ (fun k x h1 h2 hx => by
    have hk : k < as.length := (List.getElem?_eq_some_iff.1 hx).1
    refine ⟨fun c => ?_, fun _ => hall k hk⟩
    have := (D.chain k x hx c).1 (hall k hk); omega) (by have := D.fle; omega)
  have hf := D.fle
  rw [show f + (as.length - f) = as.length by omega] at D'
  refine ⟨ρ', ⟨D'.ext.rel, S0.glob.trans (D'.ext.keep.below S0.rel), D'.defers, D'.size, fun t => ?_⟩, D'.ext⟩
  by_cases hw : ∃ (k : Nat) (y : AOper), as[k]? = some y ∧ y.dst = some t
  · obtain ⟨k, y, hy, hyd⟩ := hw
    have hk : k < as.length := (List.getElem?_eq_some_iff.1 hy).1
    obtain ⟨d1, d2⟩ := D'.done k y hy (hall k hk) (.inr hk)
    rw [T.wrote ST hy hyd hk (Nat.le_refl _)]
    exact ⟨d2 t hyd, d1⟩
  · obtain ⟨q1, q2⟩ := S0.tmp t
    rw [D'.undone t (fun k y hy hd' => absurd ⟨k, y, hy, hd'⟩ hw), T.same as.length (Nat.zero_le _) (Nat.le_refl _) (fun k y _ _ hy hd' => hw ⟨k, y, hy, hd'⟩), q1]
    exact ⟨(enc_agree D'.ext.agree _ q2).symm, ok_agree D'.ext.agree D'.ext.next _ q2⟩
/-- The frontier, moved past the allocations before a read. -/
theorem DInv.before (ST : Stat P nt ops as anc names) (T : Tr E N 0 as c0 ss vs) (hw0 : base ≤ w0.heap.size) {i : Nat} {x : AOper} (hx : as[i]? = some x) (hc : x.cls = 0) (ha : ∀ j, anc i j → S j) : ∀ (d f : Nat) (ρ : Rho), i - f = d → DInv P base nt ops as anc ss vs ρ0 a0 w0 S f ρ a w pl →
    ∃ g ρ', DInv P base nt ops as anc ss vs ρ0 a0 w0 S g ρ' a w pl ∧ ∀ (k : Nat) (y : AOper), as[k]? = some y → y.cls = 1 → k < i → k < g
  | 0, f, ρ, hd, D => ⟨f, ρ, D, fun k y _ _ hk => by omega⟩
  | d + 1, f, ρ, hd, D => by
    by_cases hex : ∃ (k : Nat) (y : AOper), as[k]? = some y ∧ y.cls = 1 ∧ k < i ∧ f ≤ k
    · obtain ⟨k, y, hy, hyc, hki, hfk⟩ := hex
      have hi : i < as.length := (List.getElem?_eq_some_iff.1 hx).1
      obtain ⟨z, hz⟩ := get_lt (as := as) (k := f) (by omega)
      have h2 : z.cls ≠ 2 := fun c => by
        have hfk' : f ≠ k := fun e => by subst e; rw [hz] at hy; obtain rfl := Option.some.inj hy; omega
        have := (D.chain f z hz c).1 (ha f (ST.alloc2 f k i z y x (by omega) hki hz hy hx c hyc hc))
        omega
      have h1 : z.cls = 1 → S f := fun c => ha f (ST.alloc1 f i z x (by omega) hz hx c (by omega))
      obtain ⟨ρ1, D1⟩ := D.advance ST T (fun k x z hx hz => ST.closed T hx hz) hw0 hz h2 h1
      exact DInv.before ST T hw0 hx hc ha d (f + 1) ρ1 (by omega) D1
    · exact ⟨f, ρ, D, fun k y hy hyc hk => by
        rcases Nat.lt_or_ge k f with c | c
        · exact c
        · exact absurd ⟨k, y, hy, hyc, hk, c⟩ hex⟩
/-- Between two chain operations an old object stays. -/
theorem Tr.kept (PL : PrimsLater E) (T : Tr E N 0 as c0 ss vs) (hwf : WF (ss 0).hp) {t : Nat} {o : AObj} {p : Nat} (hp : (ss p).hp.get t = some o) : ∀ d, p + d ≤ as.length → (∀ (k : Nat) (x : AOper), p ≤ k → k < p + d → as[k]? = some x → x.cls ≠ 2) → (ss (p + d)).hp.get t = some o
  | 0, _, _ => hp
  | d + 1, hl, hn => by
    have ih := T.kept PL hwf hp d (by omega) (fun k x a b hx => hn k x a (by omega) hx)
    obtain ⟨x, hx⟩ := get_lt (as := as) (k := p + d) (by omega)
    rcases cls_le x with c | c | c
    · rw [← Nat.add_assoc, T.still hx c]; exact ih
    · obtain ⟨z, hz⟩ := cls_one c
      rcases T.born hx hz with ⟨_, _, he⟩ | ⟨_, _, he⟩
      · rw [← Nat.add_assoc, he, Hp.get_push, if_neg]
        · exact ih
        · have := (T.later' PL (Nat.zero_le (p + d)) (by omega)).wf hwf t o ih; omega
      · rw [← Nat.add_assoc, he]; exact ih
    · exact absurd c (hn _ x (by omega) (by omega) hx)

theorem any_sound (ST : Stat P nt ops as anc names) (PL : PrimsLater E) (MO : MethOk P E) (CO : ∀ m, m < N → CallsOk P W0 base E (exec E m)) (T : Tr E N 0 as (ss 0).hp.clk ss vs) (S0 : Sim W0 base nt ρ0 (ss 0) a0 w0)
    (HQ : ∀ a' w' ρ', Sim W0 base nt ρ' (ss as.length) a' w' → Ext base ρ0 (ss 0).hp w0 ρ' (ss as.length).hp w' → Q .normal a' w') :
    ∀ (fuel : Nat) (listed : Array Bool) (S : Nat → Prop) (f : Nat) (ρ : Rho) (a : Act) (w : World) (pl : Nat → Nat × Nat), listed.size = ops.size → (∀ k, S k ↔ listed.getD k false = true) → listed.toList.countP (fun b => !b) ≤ fuel →
      DInv P base nt ops as anc ss vs ρ0 a0 w0 S f ρ a w pl → wpAny P .any ops Q fuel listed a w := by
  intro fuel
  have fin : ∀ (listed : Array Bool) (S : Nat → Prop) (f : Nat) (ρ : Rho) (a : Act) (w : World) (pl : Nat → Nat × Nat), listed.size = ops.size → (∀ k, S k ↔ listed.getD k false = true) → DInv P base nt ops as anc ss vs ρ0 a0 w0 S f ρ a w pl →
      Region.ready .any ops listed = [] → Q .normal a w := by
    intro listed S f ρ a w pl hsz hS D hr
    have hall : ∀ n k, k < n → k < as.length → S k := by
      intro n
      induction n with
      | zero => intro k hk; omega
      | succ n ih =>
        intro k hk hkl
        refine Classical.byContradiction fun hn => ?_
        have hlt : k < ops.size := by rw [← ST.size]; exact hkl
        have : k ∈ Region.ready .any ops listed := by
          rw [mem_ready]
          refine ⟨?_, ops[k], Array.getElem?_eq_getElem hlt, fun e he hb => ?_⟩
          · have h1 : listed.getD k false ≠ true := fun h => hn ((hS k).2 h)
            simp only [Array.getD_eq_getD_getElem?, Array.getElem?_eq_getElem (show k < listed.size by omega), Option.getD_some] at h1 ⊢
            simpa using h1
          · have hb := ST.back k ops[k] (Array.getElem?_eq_getElem hlt) e he hb
            exact (hS _).1 (ih e.on (by omega) (by omega))
        rw [hr] at this; cases this
    obtain ⟨ρ', h1, h2⟩ := D.finish ST T S0 (fun k hk => hall as.length k hk hk)
    exact HQ a w ρ' h1 h2
  induction fuel with
  | zero =>
    intro listed S f ρ a w pl hsz hS hcnt D
    have hr : Region.ready .any ops listed = [] := by
      cases hh : Region.ready .any ops listed with
      | nil => rfl
      | cons i l =>
        have : i ∈ Region.ready .any ops listed := by rw [hh]; exact .head _
        obtain ⟨h0, o, ho, _⟩ := mem_ready.1 this
        have hlt : i < listed.size := by rw [hsz]; exact (Array.getElem?_eq_some_iff.1 ho).1
        simp only [Array.getD_eq_getD_getElem?, Array.getElem?_eq_getElem hlt, Option.getD_some] at h0
        have hm : listed[i] ∈ listed.toList := by simp
        have := List.countP_eq_zero.1 (Nat.le_zero.1 hcnt) _ hm
        simp [h0] at this
    exact ⟨hr, fin listed S f ρ a w pl hsz hS D hr⟩
  | succ fuel ih =>
    intro listed S f ρ a w pl hsz hS hcnt D
    refine ⟨fin listed S f ρ a w pl hsz hS D, fun i hi => ?_⟩
    obtain ⟨h0, o, ho, hedge⟩ := mem_ready.1 hi
    have hio : i < ops.size := (Array.getElem?_eq_some_iff.1 ho).1
    have hil : i < as.length := by rw [ST.size]; exact hio
    obtain ⟨x, hx⟩ := get_lt (as := as) hil
    have C := ST.cops i o x ho hx
    have hlt := C.lt
    have hnS : ¬ S i := fun h => by
      have := (hS i).1 h
      simp only [Array.getD_eq_getD_getElem?, Array.getElem?_eq_getElem (show i < listed.size by omega), Option.getD_some] at this h0
      rw [h0] at this; cases this
    have ha : ∀ j, anc i j → S j := ST.ancs S D.ancs i o ho (fun e he hb => (hS _).2 (hedge e he hb))
    have next : ∀ (f : Nat) (ρ : Rho) (a : Act) (w : World) (pl : Nat → Nat × Nat), DInv P base nt ops as anc ss vs ρ0 a0 w0 (fun j => S j ∨ j = i) f ρ a w pl → wpAny P .any ops Q fuel (listed.setIfInBounds i true) a w := by
      intro f ρ a w pl D'
      refine ih _ _ f ρ a w pl (by simp [hsz]) (fun k => ?_) ?_ D'
      · by_cases hk : k = i
        · subst hk
          simp [show k < listed.size by omega]
        · rw [getD_set_ne false (Ne.symm hk), ← hS]; simp [hk]
      · have hb : listed[i]'(by omega) = false := by
          simpa only [Array.getD_eq_getD_getElem?, Array.getElem?_eq_getElem (show i < listed.size by omega), Option.getD_some] using h0
        rw [Array.toList_setIfInBounds, List.countP_set (by simp; omega)]
        have h1 : listed.toList[i]'(by simp; omega) = false := by simpa using hb
        simp only [h1, Bool.not_false, if_true, Bool.not_true, Bool.false_eq_true, if_false]
        omega
    obtain ⟨nm1, nm2, nm3⟩ := ST.nms i o x ho hx
    -- an operation whose frontier is right
    have sel : ∀ f ρ, DInv P base nt ops as anc ss vs ρ0 a0 w0 S f ρ a w pl → (∀ (k : Nat) (y : AOper), as[k]? = some y → y.cls = 1 → k < i → k < f) → ∀ d ∈ names i, a.tmps.getD d undef = enc ρ (val (ss i).tm (.t d)) ∧ ok ρ (ss f).hp.next (val (ss i).tm (.t d)) :=
      fun f ρ D hal d hd => D.slots ST T S0 hx hnS ha hal hd
    have run : ∀ (f : Nat) (ρ : Rho) (f' : Nat), DInv P base nt ops as anc ss vs ρ0 a0 w0 S f ρ a w pl → (∀ (k : Nat) (y : AOper), as[k]? = some y → y.cls = 1 → k < i → k < f) → ((x.cls = 0 ∧ f' = f) ∨ (x.cls = 2 ∧ f = i ∧ f' = i + 1)) →
        (wanted (ss i).tm x.grd = true → ∀ m, m < N → opA x.op E (exec E m) (ss i) = some (vs i, (ss (i + 1)).hp) → ∀ tm', (∀ y ∈ x.op.opds, val (ss i).tm y = val tm' y) → opA x.op E (exec E m) { tm := tm', hp := (ss f).hp } = some (vs i, (ss f').hp)) →
        (wanted (ss i).tm x.grd = false → (ss f').hp = (ss f).hp) → wpOp P ops Q i (wpAny P .any ops Q fuel (listed.setIfInBounds i true)) a w := by
      intro f ρ f' D hal hf hop hunw
      have hs := sel f ρ D hal
      have hw := wanted_eq (a := a) (ρ := ρ) (tm := (ss i).tm) C.grd fun d b e => (hs d (nm3 d b e)).1
      unfold wpOp
      simp only [ho]
      rcases T.at hx with ⟨hwt, ⟨m, hm, hr⟩, _, _⟩ | ⟨hwt, hv, he, _⟩
      · rw [hw, hwt]
        simp only [if_true]
        rcases C.op with hc | hbad
        · obtain ⟨ev, tm', E1, E2, E3⟩ := evals_of (a := a) (names := names i) (n := (ss f).hp.next) hs
          have hr' := hop hwt m hm hr tm' (fun y hy => E3 y (fun t e => nm2 t (e ▸ hy)))
          have Dz := op_sound (s := { tm := tm', hp := (ss f).hp }) (CO m hm) (S0.glob.trans (D.ext.keep.below S0.rel)) MO hc E1 D.ext.rel hr'
          rw [← execOp_congr o (cop_nosel hc) (fun y hy => E2 y (fun t e => nm1 t (e ▸ hy)))] at Dz
          refine .inl (Takes.wp Dz ?_)
          rintro u w1 ⟨ρ1, X, hok, rfl⟩
          rw [← C.dst]
          exact next _ _ _ _ _ (D.exec ST (fun k x z hx hz => ST.closed T hx hz) hx hnS ha hlt hf rfl X hok)
        · rw [hbad] at hr; cases hr
      · rw [hw, hwt]
        simp only [Bool.false_eq_true, if_false]
        have X : Ext base ρ (ss f).hp w ρ (ss f').hp w := by rw [hunw hwt]; exact Ext.refl D.ext.rel
        have := D.exec ST (fun k x z hx hz => ST.closed T hx hz) hx hnS ha hlt hf rfl X (by rw [hv]; trivial)
        rw [hv, enc_und, C.dst] at this
        exact next _ _ _ _ _ this
    rcases cls_le x with hc | hc | hc
    · -- a read
      obtain ⟨g, ρg, Dg, hal⟩ := D.before ST T S0.rel.size hx hc ha _ f ρ rfl
      refine run g ρg g Dg hal (.inl ⟨hc, rfl⟩) ?_ (fun _ => rfl)
      intro hwd m hm hr tm' htm
      obtain ⟨h1, h2⟩ := cls_zero hc
      have hpl : ∀ s, opA x.op E (exec E m) s = aop x.op (val s.tm) s.hp := by intro s; cases hh : x.op <;> rw [hh] at h1 <;> first | (simp [AOp.calls] at h1; done) | rfl
      rw [hpl] at hr ⊢
      rw [← aop_congr (ss g).hp htm]
      rcases h2 with h2 | ⟨ag, n, y, u, h3, h4⟩
      · exact (pure_any h2 hr).2 _
      · obtain ⟨s1, s2, s3⟩ := ST.stab i x u hx hc h4
        rcases T.at hx with ⟨_, _, _, hst⟩ | ⟨hwt, hv, he, _⟩
        · obtain ⟨t, ht, hold⟩ := hst u h4
          have hold := hold s1 s2
          rw [h3] at hr ht ⊢
          refine (load_any hr ht).2 _ ?_
          have at_ : ∀ p, p ≤ u + 1 → (ss p).hp.get t = (ss 0).hp.get t ∧ ∃ o, (ss 0).hp.get t = some o := fun p hp => by
            have := Later.old (T.later' PL (Nat.zero_le p) (by omega)) (T.later' PL hp (by omega)) hold
            exact ⟨this.1, this.2.2⟩
          rw [(at_ i (by omega)).1]
          by_cases hgu : g ≤ u + 1
          · exact (at_ g hgu).1
          · obtain ⟨e1, ob, e2⟩ := at_ (u + 1) (Nat.le_refl _)
            rw [e2] at e1 ⊢
            have := T.kept PL S0.rel.lt e1 (g - (u + 1)) (by have := Dg.fle; omega) (fun k z hk1 hk2 hz c => by
              have hSk := (Dg.chain k z hz c).2 (by omega)
              have := s3 k z hz (by omega) c (fun han => hnS (Dg.ancs k hSk i han))
              omega)
            rwa [show u + 1 + (g - (u + 1)) = g by omega] at this
        · rw [hwd] at hwt; cases hwt
    · -- an allocation
      obtain ⟨z, hz⟩ := cls_one hc
      obtain ⟨hg, hnm⟩ := ST.agrd i x hx hc
      have hwt : wanted (ss i).tm x.grd = true := by rw [hg]; rfl
      have hw : Region.wanted o (yielded ops a.tmps) = true := by
        rw [wanted_eq (a := a) (ρ := ρ) (tm := (ss i).tm) C.grd (fun d b e => by rw [hg] at e; cases e)]; exact hwt
      unfold wpOp
      simp only [ho, hw, if_true]
      have hcop : cop P o = some (.alloc z) := by
        rcases C.op with c | c
        · rw [c, hz]
        · rw [hz] at c; cases c
      obtain ⟨ev, tm', E1, E2, E3⟩ := evals_of (a := a) (ρ := ρ) (tm := (ss i).tm) (names := []) (n := (ss f).hp.next) (by simp)
      have Y := (cop_sound (h := (ss f).hp) (w := w) (base := base) hcop rfl E1 D.ext.rel (v := .ptr (ss f).hp.next 0) (h' := (ss f).hp.push fun s => .row z true s) rfl).does
      have hno : ∀ y ∈ o.op.operands, a.eval y = ev y := fun y hy => E2 y (fun t e => by
        have := nm1 t (e ▸ hy)
        rwa [hnm] at this)
      rw [← execOp_congr o (cop_nosel hcop) hno] at Y
      refine .inl (Takes.wp Y ?_)
      rintro u w1 ⟨ρ1, X, hok, rfl⟩
      rw [← C.dst]
      exact next _ _ _ _ _ (D.alloced ST (fun k x z hx hz => ST.closed T hx hz) hx hz hnS ha hlt X)
    · -- one of the chain
      have hfi : f ≤ i := by
        rcases Nat.lt_or_ge i f with c | c
        · exact absurd ((D.chain i x hx hc).2 c) hnS
        · exact c
      obtain ⟨ρi, Di⟩ := D.advances ST T S0.rel.size (i - f) f ρ (fun k y h1 h2 hy => by
        refine ⟨fun c => ?_, fun c => ha k (ST.alloc1 k i y x (by omega) hy hx c (by omega))⟩
        have := (D.chain k y hy c).1 (ha k (ST.chain k i y x (by omega) hy hx c hc))
        omega) (by omega)
      rw [show f + (i - f) = i by omega] at Di
      refine run i ρi (i + 1) Di (fun k y _ _ hk => hk) (.inr ⟨hc, rfl, rfl⟩) ?_ ?_
      · intro hwd m hm hr tm' htm
        rw [← opA_congr (s := ss i) (s' := { tm := tm', hp := (ss i).hp }) rfl htm]
        exact hr
      · intro hwt
        rcases T.at hx with ⟨hwt', _⟩ | ⟨_, _, he, _⟩
        · rw [hwt] at hwt'; cases hwt'
        · exact he
end
end Go.Ae
