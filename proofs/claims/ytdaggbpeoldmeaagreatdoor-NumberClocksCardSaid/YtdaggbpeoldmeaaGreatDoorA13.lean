/- The abstract evaluator: one operation, calls and all. -/
import Derived.Test.YtdaggbpeoldmeaaGreatDoorA12
import Derived.Orders
set_option linter.unusedVariables false
set_option linter.unusedSimpArgs false
namespace Go.Ae

/-- The operands that an operation names. -/
def optO : Option Opd → List Opd
  | some x => [x]
  | none => []
def AOp.opds : AOp → List Opd
  | .mv x | .box x | .load _ _ x | .nilck x | .un _ x | .cvi _ x | .cvs x | .bstr x | .mkI _ x | .fadr _ x | .fld _ _ _ x | .ext x _ | .len _ x | .rng x | .nxt x => [x]
  | .pick a b c | .mupd a b c => [a, b, c]
  | .alloc _ | .mkmap | .bad => []
  | .build _ ps | .bslice _ _ _ ps => ps.map fun p => p.2.2
  | .store _ x y | .bin _ _ x y | .mks _ _ _ x y | .iadr _ x y | .iadrA _ _ x y | .idxs x y | .app _ _ x y | .lkp x y _ _ => [x, y]
  | .mkF _ cs => cs
  | .sls x lo hi | .sl _ x lo hi => x :: (optO lo ++ optO hi)
  | .mx xs | .mn xs => xs
  | .callF _ args => args
  | .callV x args => x :: args
  | .inv x _ args => x :: args
theorem map_parts {ρ ρ' : Opd → AV} {ps : List (Nat × Nat × Opd)} (hh : ∀ y ∈ ps.map (fun p => p.2.2), ρ y = ρ' y) :
    (ps.map fun p => (p.1, p.2.1, ρ p.2.2)) = ps.map fun p => (p.1, p.2.1, ρ' p.2.2) :=
  List.map_congr_left fun p hp => by rw [hh _ (List.mem_map.2 ⟨p, hp, rfl⟩)]
theorem optO_map {ρ ρ' : Opd → AV} {x : Option Opd} (hh : ∀ y ∈ optO x, ρ y = ρ' y) : x.map ρ = x.map ρ' := by
  cases x with
  | none => rfl
  | some x => simp [hh x (by simp [optO])]
theorem aop_congr {a : AOp} {ρ ρ' : Opd → AV} (h : Hp) (hh : ∀ y ∈ a.opds, ρ y = ρ' y) : aop a ρ h = aop a ρ' h := by
  cases a <;> simp only [AOp.opds, List.mem_cons, List.not_mem_nil, or_false, forall_eq_or_imp, forall_eq, List.mem_append] at hh <;> simp only [aop]
  case build z ps => unfold o_build; rw [map_parts hh]
  case bslice s n z ps => unfold o_bslice; rw [map_parts hh]
  case mkF f cs => unfold o_mkF; rw [List.map_congr_left hh]
  case mx xs => unfold o_mx; rw [List.map_congr_left hh]
  case mn xs => unfold o_mn; rw [List.map_congr_left hh]
  case sls x lo hi => unfold o_sls; rw [hh.1, optO_map fun y hy => hh.2 y (.inl hy), optO_map fun y hy => hh.2 y (.inr hy)]
  case sl s x lo hi => unfold o_sl; rw [hh.1, optO_map fun y hy => hh.2 y (.inl hy), optO_map fun y hy => hh.2 y (.inr hy)]
  case mv => unfold o_mv; rw [hh]
  case pick => unfold o_pick; rw [hh.1, hh.2.1, hh.2.2]
  case alloc => rfl
  case box => unfold o_box; rw [hh]
  case load => unfold o_load; rw [hh]
  case store => unfold o_store; rw [hh.1, hh.2]
  case nilck => unfold o_nilck; rw [hh]
  case bin => unfold o_bin; rw [hh.1, hh.2]
  case un => unfold o_un; rw [hh]
  case cvi => unfold o_cvi; rw [hh]
  case cvs => unfold o_cvs; rw [hh]
  case bstr => unfold o_bstr; rw [hh]
  case mkI => unfold o_mkI; rw [hh]
  case mks => unfold o_mks; rw [hh.1, hh.2]
  case fadr => unfold o_fadr; rw [hh]
  case fld => unfold o_fld; rw [hh]
  case iadr => unfold o_iadr; rw [hh.1, hh.2]
  case iadrA => unfold o_iadrA; rw [hh.1, hh.2]
  case idxs => unfold o_idxs; rw [hh.1, hh.2]
  case ext => unfold o_ext; rw [hh]
  case len => unfold o_len; rw [hh]
  case app => unfold o_app; rw [hh.1, hh.2]
  case rng => unfold o_rng; rw [hh]
  case nxt => unfold o_nxt; rw [hh]
  case mkmap => rfl
  case mupd => unfold o_mupd; rw [hh.1, hh.2.1, hh.2.2]
  case lkp => unfold o_lkp; rw [hh.1, hh.2]
  all_goals rfl
theorem opA_congr {a : AOp} {E : Env} {rec : Rec} {s s' : St} (hp : s'.hp = s.hp) (hh : ∀ y ∈ a.opds, val s.tm y = val s'.tm y) : opA a E rec s = opA a E rec s' := by
  cases hc : a.calls with
  | false =>
    have : ∀ s, opA a E rec s = aop a (val s.tm) s.hp := by cases a <;> first | (simp [AOp.calls] at hc; done) | (intro s; rfl)
    rw [this, this, hp]; exact aop_congr _ hh
  | true =>
    cases a <;> simp [AOp.calls] at hc <;> simp only [AOp.opds, List.mem_cons, forall_eq_or_imp] at hh <;> simp only [opA]
    case callF f args => unfold o_callF; rw [hp, List.map_congr_left hh]
    case callV x args => unfold o_callV; rw [hp, List.map_congr_left hh.2, hh.1]
    case inv x n args => unfold o_inv; rw [hp, List.map_congr_left hh.2, hh.1]

section
variable {P : Program} {base : Nat} {ρ : Rho} {h h' : Hp} {w : World} {ev : Operand → Value} {tm : T AV} {v : AV}

def Takes (P : Program) (K : Value → World → Prop) : Result Next → Prop
  | .ok (.value v) w' => K v w'
  | .ok .skip w' => K undef w'
  | .ok (.enter f args) w' => Calls P f args w' fun e w'' => ∃ v, e = .returned v ∧ K v w''
  | _ => False
theorem Takes.mono {K K' : Value → World → Prop} {r : Result Next} (ht : Takes P K r) (hk : ∀ v w', K v w' → K' v w') : Takes P K' r := by
  cases r with
  | ok n w' =>
    cases n <;> first
      | exact hk _ _ ht
      | exact Calls.mono ht fun e w' he => by obtain ⟨v, rfl, h⟩ := he; exact ⟨v, rfl, hk _ _ h⟩
      | exact ht
  | halt x w' => exact ht
theorem Takes.wp {K : Value → World → Prop} {o : Oper} {a : Act} {next : Act → World → Prop} {Q : Exit → Act → World → Prop} (ht : Takes P K ((execOp a.eval o).run P w)) (hk : ∀ v w', K v w' → next (a.put o.dst v) w') : o.wp P a w next Q := by
  unfold Oper.wp
  generalize (execOp a.eval o).run P w = r at ht
  cases r with
  | ok n w' =>
    cases n <;> first
      | exact hk _ _ ht
      | exact Calls.mono ht fun e w' he => by obtain ⟨v, rfl, h⟩ := he; exact hk _ _ h
      | exact False.elim ht
  | halt x w' => exact False.elim ht
def Gives (base : Nat) (ρ : Rho) (h : Hp) (w : World) (v : AV) (h' : Hp) (u : Value) (w' : World) : Prop := ∃ ρ', Ext base ρ h w ρ' h' w' ∧ ok ρ' h'.next v ∧ u = enc ρ' v
def Does (P : Program) (base : Nat) (ρ : Rho) (h : Hp) (w : World) (s : Sem Next) (v : AV) (h' : Hp) : Prop := Takes P (Gives base ρ h w v h') (s.run P w)
theorem Yields.does {s : Sem Next} (Y : Yields P base ρ h w s v h') : Does P base ρ h w s v h' := by
  obtain ⟨ρ', w', u, h1, h2, h3, h4⟩ := Y
  unfold Does
  rcases h1 with h1 | ⟨h1, rfl⟩ <;> rw [h1]
  · exact ⟨ρ', h4, h3, h2⟩
  · exact ⟨ρ', h4, h3, h2⟩
/-- Calls, up to some depth, do what they are said to do. -/
def CallsOk (P : Program) (W0 : World) (base : Nat) (E : Env) (rec : Rec) : Prop := ∀ f args h v h', callA E rec f args h = some (v, h') → ∀ ρ w, Go.RowKit.Below base W0 w → HRel base ρ h w → oks ρ h.next args → Does P base ρ h w (callFunc f (encs ρ args).toArray) v h'
def MethOk (P : Program) (E : Env) : Prop := ∀ T name f, E.meth T name = some f → ∀ v w, (method (P.types.size + Made.depth) T v name).run P w = .ok (f, v) w
theorem Does.of {s s' : Sem Next} (hs : s'.run P w = s.run P w) (D : Does P base ρ h w s v h') : Does P base ρ h w s' v h' := by
  unfold Does at *; rw [hs]; exact D
def NC (o : Option AOp) : Prop := ∀ a, o = some a → a.calls = false
theorem nc_none : NC none := nofun
theorem nc_some {a : AOp} (h : a.calls = false) : NC (some a) := fun b e => by obtain rfl := Option.some.inj e; exact h
theorem nc_bind {α : Type} {x : Option α} {f : α → Option AOp} (h : ∀ y, NC (f y)) : NC (x.bind f) := fun a e => by
  obtain ⟨y, _, hy⟩ := bind_some e
  exact h y a hy
theorem nc_op {o : Oper} (ho : ∀ c, o.op ≠ .call c) : NC (cop P o) := by
  obtain ⟨dst, op, ty, pos, af, gd⟩ := o
  cases op
  case call c => exact absurd rfl (ho c)
  case makeFunc f first cs => cases f <;> simp only [cop] <;> repeat' (first | exact nc_none | exact nc_some rfl | (apply nc_bind; intro _) | split)
  case makeMap t r => cases r <;> simp only [cop] <;> repeat' (first | exact nc_none | exact nc_some rfl | (apply nc_bind; intro _) | split)
  case slice t x lo hi m => cases m <;> simp only [cop] <;> repeat' (first | exact nc_none | exact nc_some rfl | (apply nc_bind; intro _) | split)
  case next x b => cases b <;> simp only [cop] <;> repeat' (first | exact nc_none | exact nc_some rfl | (apply nc_bind; intro _) | split)
  all_goals simp only [cop] <;> repeat' (first | exact nc_none | exact nc_some rfl | (apply nc_bind; intro _) | split)
theorem cop_calls {o : Oper} {a : AOp} (hc : cop P o = some a) (hn : a.calls = true) :
    ∃ c, o.op = .call c ∧ ((∃ f l, c.callee = .value (.func f) ∧ copds c.args.toList = some l ∧ a = .callF f l) ∨
      (∃ x x' l, c.callee = .value x ∧ copd x = some x' ∧ copds c.args.toList = some l ∧ a = .callV x' l) ∨
      (∃ x x' name l, c.callee = .invoke x name ∧ copd x = some x' ∧ copds c.args.toList = some l ∧ a = .inv x' name l)) := by
  obtain ⟨dst, op, ty, pos, af, gd⟩ := o
  cases op
  case call c =>
    refine ⟨c, rfl, ?_⟩
    obtain ⟨callee, args, ats⟩ := c
    cases callee
    case value f =>
      cases f <;> simp only [cop] at hc
      case func f =>
        obtain ⟨l, hl, hc⟩ := bind_some hc; obtain rfl := Option.some.inj hc
        exact .inl ⟨f, l, rfl, hl, rfl⟩
      all_goals
        obtain ⟨x', hx, hc⟩ := bind_some hc; obtain ⟨l, hl, hc⟩ := bind_some hc; obtain rfl := Option.some.inj hc
        exact .inr (.inl ⟨_, x', l, rfl, hx, hl, rfl⟩)
    case invoke x name =>
      simp only [cop] at hc
      obtain ⟨x', hx, hc⟩ := bind_some hc; obtain ⟨l, hl, hc⟩ := bind_some hc; obtain rfl := Option.some.inj hc
      exact .inr (.inr ⟨x, x', name, l, rfl, hx, hl, rfl⟩)
    case builtin b =>
      exfalso
      have : NC (cop P ⟨dst, .call ⟨.builtin b, args, ats⟩, ty, pos, af, gd⟩) := by
        cases b <;> simp only [cop] <;> repeat' (first | exact nc_none | exact nc_some rfl | (apply nc_bind; intro _) | split)
      rw [this a hc] at hn
      cases hn
  all_goals
    exfalso
    have := nc_op (fun c e => by simp at e) a hc
    rw [hn] at this
    cases this

theorem arr_append (a b : List Value) : a.toArray ++ b.toArray = (a ++ b).toArray := by simp
theorem map_arr {args : Array Operand} {l : List Value} (h : args.toList.map ev = l) : args.map ev = l.toArray := by apply Array.toList_inj.1; simpa using h
theorem op_sound {W0 : World} {En : Env} {rec : Rec} {o : Oper} {a : AOp} {s : St} (CO : CallsOk P W0 base En rec) (B : Go.RowKit.Below base W0 w) (MO : MethOk P En) (hc : cop P o = some a) (E : Evals ρ s.hp.next ev s.tm) (R : HRel base ρ s.hp w) (hr : opA a En rec s = some (v, h')) :
    Does P base ρ s.hp w (execOp ev o) v h' := by
  cases hn : a.calls with
  | false =>
    have : opA a En rec s = aop a (val s.tm) s.hp := by cases a <;> first | (simp [AOp.calls] at hn; done) | rfl
    rw [this] at hr
    exact (cop_sound hc hn E R hr).does
  | true =>
    obtain ⟨c, hop, hcase⟩ := cop_calls hc hn
    have hex : (execOp ev o) = (do let d ← resolve ev c o.type; invoke d.target d.args) := by unfold execOp; rw [hop]
    rw [hex]
    rcases hcase with ⟨f, l, h1, h2, rfl⟩ | ⟨x, x', l, h1, h2, h3, rfl⟩ | ⟨x, x', name, l, h1, h2, h3, rfl⟩
    · simp only [opA, o_callF] at hr
      obtain ⟨e1, e2⟩ := E.list h2
      refine Does.of ?_ (CO f _ _ _ _ hr ρ w B R e2)
      have hf : ev (.func f) = .func (.func f) #[] #[] := by
        have := (E (.func f) (.k (.fn f [])) rfl).1
        simpa [enc, val, encs] using this
      simp only [resolve, h1, hf, Deferred.ofValue, Sem.run_bind, Sem.run_pure, Result.andThen_ok, invoke, map_arr e1]
      simp
    · simp only [opA, o_callV] at hr
      obtain ⟨e1, e2⟩ := E.list h3
      obtain ⟨e3, e4⟩ := E _ _ h2
      split at hr
      · rename_i f cap g
        rw [g] at e3 e4
        refine Does.of ?_ (CO f _ _ _ _ hr ρ w B R ((oks_iff _ _ _).2 fun y hy => by
          have e4' : oks ρ s.hp.next cap := e4
          rcases List.mem_append.1 hy with c | c
          · exact (oks_iff _ _ _).1 e2 y c
          · exact (oks_iff _ _ _).1 e4' y c))
        simp only [resolve, h1, e3, enc, Deferred.ofValue, Sem.run_bind, Sem.run_pure, Result.andThen_ok, invoke, map_arr e1, encs_append]
        simp
      · cases hr
    · simp only [opA, o_inv] at hr
      obtain ⟨e1, e2⟩ := E.list h3
      obtain ⟨e3, e4⟩ := E _ _ h2
      split at hr
      · rename_i T u g
        rw [g] at e3 e4
        split at hr
        · rename_i f hm
          refine Does.of ?_ (CO f _ _ _ _ hr ρ w B R ⟨e4, e2⟩)
          have hme := MO T name f hm (enc ρ u) w
          simp only [resolve, h1, e3, enc, Sem.run_bind, Sem.run_pure, Result.andThen_ok, invoke, map_arr e1, callMethod, run_program]
          simp [callMethod, run_program, hme, encs]
        · cases hr
      · cases hr
end
end Go.Ae
