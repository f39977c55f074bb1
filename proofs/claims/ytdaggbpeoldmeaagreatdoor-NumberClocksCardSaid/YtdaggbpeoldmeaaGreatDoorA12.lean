/- The abstract evaluator: an operation, compiled, is what it was. -/
import Derived.Test.YtdaggbpeoldmeaaGreatDoorA11
set_option linter.unusedVariables false
set_option linter.unusedSimpArgs false
namespace Go.Ae
section
variable {P : Program} {base : Nat} {ρ : Rho} {h h' : Hp} {w : World} {ev : Operand → Value} {tm : T AV} {v : AV}

theorem Yields.of {s s' : Sem Next} (hs : s'.run P w = s.run P w) (Y : Yields P base ρ h w s v h') : Yields P base ρ h w s' v h' := by
  obtain ⟨ρ', w', u, h1, h2, h3, h4⟩ := Y
  exact ⟨ρ', w', u, by rw [hs]; exact h1, h2, h3, h4⟩
def AOp.calls : AOp → Bool
  | .callF .. | .callV .. | .inv .. => true
  | _ => false
theorem cmapStr_of {t e : TypeId} (h : cmapStr P t = some e) : ∃ kt, P.underlying t = some (.map kt e) ∧ P.underlying kt = some .string := by
  unfold cmapStr at h
  split at h
  · rename_i k e0 hu
    split at h
    · rename_i hk
      obtain rfl := Option.some.inj h
      exact ⟨k, hu, hk⟩
    · cases h
  · cases h
theorem run_builtin {dst : Option Tmp} {b : Go.Builtin} {args : Array Operand} {ats : Array TypeId} {ty : TypeId} {pos : String} {af : Array Edge} {gd : Option (Nat × Bool)} {s : Array TypeId → TypeId → Array Value → Sem Value}
    (hb : ∀ ats ty cs as, builtin b ats ty cs as = do pure (.value (← s ats ty as))) {as : Array Value} (has : args.map ev = as) :
    (execOp ev ⟨dst, .call ⟨.builtin b, args, ats⟩, ty, pos, af, gd⟩).run P w = (do pure (.value (← s ats ty as)) : Sem Next).run P w := by
  subst has
  simp only [execOp, resolve, invoke, Sem.run_bind, Sem.run_pure, Result.andThen_ok, hb]
theorem cop_sound {o : Oper} {a : AOp} (hc : cop P o = some a) (hnc : a.calls = false) (E : Evals ρ h.next ev tm) (R : HRel base ρ h w) (hr : aop a (val tm) h = some (v, h')) : Yields P base ρ h w (execOp ev o) v h' := by
  obtain ⟨dst, op, ty, pos, af, gd⟩ := o
  cases op <;> try (simp only [cop, reduceCtorEq] at hc; done)
  case move x =>
    simp only [cop] at hc
    obtain ⟨x', hx, hc⟩ := bind_some hc; obtain rfl := Option.some.inj hc
    exact q_mv hx E R hr
  case assign x =>
    simp only [cop] at hc
    obtain ⟨x', hx, hc⟩ := bind_some hc; obtain rfl := Option.some.inj hc
    exact q_mv hx E R hr
  case pick c a b =>
    simp only [cop] at hc
    obtain ⟨c', h1, hc⟩ := bind_some hc; obtain ⟨a', h2, hc⟩ := bind_some hc; obtain ⟨b', h3, hc⟩ := bind_some hc; obtain rfl := Option.some.inj hc
    exact q_pick h1 h2 h3 E R hr
  case alloc e =>
    simp only [cop] at hc
    obtain ⟨z, hz, hc⟩ := bind_some hc; obtain rfl := Option.some.inj hc
    exact q_alloc (tm := tm) hz R hr
  case box e x =>
    simp only [cop] at hc
    obtain ⟨x', hx, hc⟩ := bind_some hc; obtain rfl := Option.some.inj hc
    exact q_box hx E R hr
  case build t ps =>
    simp only [cop] at hc
    obtain ⟨z, hz, hc⟩ := bind_some hc
    split at hc
    · rename_i fs hu
      split at hc
      · rename_i hall
        obtain ⟨l, hl, hc⟩ := bind_some hc; obtain rfl := Option.some.inj hc
        exact q_build hz hu hall hl E R hr
      · cases hc
    · cases hc
  case buildSlice t n ps =>
    simp only [cop] at hc
    split at hc
    · rename_i e hu
      obtain ⟨s, hs, hc⟩ := bind_some hc; obtain ⟨z, hz, hc⟩ := bind_some hc
      split at hc
      · rename_i hcc
        obtain ⟨l, hl, hc⟩ := bind_some hc; obtain rfl := Option.some.inj hc
        exact q_bslice hu hs hz hcc hl E R hr
      · cases hc
    · cases hc
  case load t x =>
    simp only [cop] at hc
    obtain ⟨a, ha, hc⟩ := bind_some hc; obtain ⟨n, hn, hc⟩ := bind_some hc; obtain ⟨x', hx, hc⟩ := bind_some hc; obtain rfl := Option.some.inj hc
    exact q_load ha hn hx E R hr
  case store t x y =>
    simp only [cop] at hc
    obtain ⟨n, hn, hc⟩ := bind_some hc; obtain ⟨x', hx, hc⟩ := bind_some hc; obtain ⟨y', hy, hc⟩ := bind_some hc; obtain rfl := Option.some.inj hc
    exact q_store hn hx hy E R hr
  case nilCheck x =>
    simp only [cop] at hc
    obtain ⟨x', hx, hc⟩ := bind_some hc; obtain rfl := Option.some.inj hc
    exact q_nilck hx E R hr
  case binOp op t x y yt =>
    simp only [cop] at hc
    obtain ⟨x', hx, hc⟩ := bind_some hc; obtain ⟨y', hy, hc⟩ := bind_some hc; obtain rfl := Option.some.inj hc
    exact q_bin (yt := yt) hx hy E R hr
  case unOp op t x =>
    simp only [cop] at hc
    obtain ⟨x', hx, hc⟩ := bind_some hc; obtain rfl := Option.some.inj hc
    exact q_un hx E R hr
  case convert s d x =>
    simp only [cop] at hc
    split at hc
    · rename_i k0 k hs hd
      obtain ⟨x', hx, hc⟩ := bind_some hc; obtain rfl := Option.some.inj hc
      exact q_cvi hs hd hx E R hr
    · rename_i hs hd
      obtain ⟨x', hx, hc⟩ := bind_some hc; obtain rfl := Option.some.inj hc
      exact q_cvs hs hd hx E R hr
    · cases hc
  case makeInterface t x =>
    simp only [cop] at hc
    split at hc
    · cases hc
    · rename_i d hd hne
      obtain ⟨x', hx, hc⟩ := bind_some hc; obtain rfl := Option.some.inj hc
      exact q_mkI hne (fun ms e => hd ms (e ▸ rfl)) hx E R hr
    · cases hc
  case makeFunc f first cs =>
    cases f <;> try (simp only [cop, reduceCtorEq] at hc; done)
    rename_i f
    simp only [cop] at hc
    split at hc
    · rename_i he
      obtain ⟨l, hl, hc⟩ := bind_some hc; obtain rfl := Option.some.inj hc
      obtain rfl : first = #[] := by simpa using he
      have := q_mkF (P := P) hl E R hr
      simpa [execOp] using this
    · cases hc
  case makeMap t r =>
    cases r
    · simp only [cop] at hc
      obtain ⟨e, he, hc⟩ := bind_some hc; obtain rfl := Option.some.inj hc
      exact q_mkmap (tm := tm) R hr
    · simp only [cop, reduceCtorEq] at hc
  case makeSlice t l c =>
    simp only [cop] at hc
    split at hc
    · rename_i e hu
      split at hc
      · rename_i i hi
        obtain ⟨z, hz, hc⟩ := bind_some hc; obtain ⟨l', hl, hc⟩ := bind_some hc; obtain ⟨c', hcc, hc⟩ := bind_some hc; obtain rfl := Option.some.inj hc
        exact q_mks hu hi hz hl hcc E R hr
      · cases hc
    · cases hc
  case slice t x lo hi m =>
    cases m
    · simp only [cop] at hc
      split at hc
      · rename_i hu
        obtain ⟨x', hx, hc⟩ := bind_some hc; obtain ⟨lo', hlo, hc⟩ := bind_some hc; obtain ⟨hi', hhi, hc⟩ := bind_some hc; obtain rfl := Option.some.inj hc
        exact q_sls hu hx hlo hhi E R hr
      · rename_i e hu
        obtain ⟨s, hs, hc⟩ := bind_some hc; obtain ⟨x', hx, hc⟩ := bind_some hc; obtain ⟨lo', hlo, hc⟩ := bind_some hc; obtain ⟨hi', hhi, hc⟩ := bind_some hc; obtain rfl := Option.some.inj hc
        exact q_sl hu hs hx hlo hhi E R hr
      · cases hc
    · simp only [cop, reduceCtorEq] at hc
  case fieldAddr s x i =>
    simp only [cop] at hc
    obtain ⟨f, hf, hc⟩ := bind_some hc; obtain ⟨n, hn, hc⟩ := bind_some hc
    split at hc
    · cases hc
    · rename_i hn0
      obtain ⟨x', hx, hc⟩ := bind_some hc; obtain rfl := Option.some.inj hc
      exact q_fadr hf hn hn0 hx E R hr
  case field s x i =>
    simp only [cop] at hc
    obtain ⟨f, hf, hc⟩ := bind_some hc; obtain ⟨a, ha, hc⟩ := bind_some hc; obtain ⟨n, hn, hc⟩ := bind_some hc; obtain ⟨x', hx, hc⟩ := bind_some hc; obtain rfl := Option.some.inj hc
    exact q_fld hf ha hn hx E R hr
  case indexAddr t x i =>
    simp only [cop] at hc
    split at hc
    · rename_i e hu
      obtain ⟨s, hs, hc⟩ := bind_some hc; obtain ⟨x', hx, hc⟩ := bind_some hc; obtain ⟨i', hi, hc⟩ := bind_some hc; obtain rfl := Option.some.inj hc
      exact q_iadr hu hs hx hi E R hr
    · rename_i n e hu
      obtain ⟨s, hs, hc⟩ := bind_some hc; obtain ⟨x', hx, hc⟩ := bind_some hc; obtain ⟨i', hi, hc⟩ := bind_some hc; obtain rfl := Option.some.inj hc
      exact q_iadrA hu hs hx hi E R hr
    · cases hc
  case index t x i =>
    simp only [cop] at hc
    split at hc
    · rename_i hu
      obtain ⟨x', hx, hc⟩ := bind_some hc; obtain ⟨i', hi, hc⟩ := bind_some hc; obtain rfl := Option.some.inj hc
      exact q_idxs hu hx hi E R hr
    · cases hc
  case lookup t m k okk =>
    simp only [cop] at hc
    obtain ⟨e, he, hc⟩ := bind_some hc; obtain ⟨z, hz, hc⟩ := bind_some hc; obtain ⟨m', hm, hc⟩ := bind_some hc; obtain ⟨k', hk, hc⟩ := bind_some hc; obtain rfl := Option.some.inj hc
    obtain ⟨kt, hu, hk0⟩ := cmapStr_of he
    exact q_lkp hu hk0 hz hm hk E R hr
  case mapUpdate t m k x =>
    simp only [cop] at hc
    obtain ⟨e, he, hc⟩ := bind_some hc; obtain ⟨m', hm, hc⟩ := bind_some hc; obtain ⟨k', hk, hc⟩ := bind_some hc; obtain ⟨x', hx, hc⟩ := bind_some hc; obtain rfl := Option.some.inj hc
    obtain ⟨kt, hu, hk0⟩ := cmapStr_of he
    exact q_mupd hu hk0 hm hk hx E R hr
  case insert t m k x =>
    simp only [cop] at hc
    obtain ⟨e, he, hc⟩ := bind_some hc; obtain ⟨m', hm, hc⟩ := bind_some hc; obtain ⟨k', hk, hc⟩ := bind_some hc; obtain ⟨x', hx, hc⟩ := bind_some hc; obtain rfl := Option.some.inj hc
    obtain ⟨kt, hu, hk0⟩ := cmapStr_of he
    exact q_mupd hu hk0 hm hk hx E R hr
  case range t x =>
    simp only [cop] at hc
    split at hc
    · rename_i hu
      obtain ⟨x', hx, hc⟩ := bind_some hc; obtain rfl := Option.some.inj hc
      exact q_rng hu hx E R hr
    · cases hc
  case next x b =>
    cases b
    · simp only [cop, reduceCtorEq] at hc
    · simp only [cop] at hc
      obtain ⟨x', hx, hc⟩ := bind_some hc; obtain rfl := Option.some.inj hc
      exact q_nxt hx E R hr
  case extract x i =>
    simp only [cop] at hc
    obtain ⟨x', hx, hc⟩ := bind_some hc; obtain rfl := Option.some.inj hc
    exact q_ext hx E R hr
  case call c =>
    obtain ⟨callee, args, ats⟩ := c
    cases callee
    case value f =>
      cases f <;> simp only [cop] at hc
      case func f =>
        obtain ⟨l, hl, hc⟩ := bind_some hc; obtain rfl := Option.some.inj hc
        simp [AOp.calls] at hnc
      all_goals
        obtain ⟨x', hx, hc⟩ := bind_some hc; obtain ⟨l, hl, hc⟩ := bind_some hc; obtain rfl := Option.some.inj hc
        simp [AOp.calls] at hnc
    case invoke x name =>
      simp only [cop] at hc
      obtain ⟨x', hx, hc⟩ := bind_some hc; obtain ⟨l, hl, hc⟩ := bind_some hc; obtain rfl := Option.some.inj hc
      simp [AOp.calls] at hnc
    case builtin b =>
      cases b <;> try (simp only [cop, reduceCtorEq] at hc; done)
      case len => 
        simp only [cop] at hc
        split at hc
        · rename_i t x hats hargs
          obtain rfl : ats = #[t] := by apply Array.toList_inj.1; simpa using hats
          obtain rfl : args = #[x] := by apply Array.toList_inj.1; simpa using hargs
          split at hc
          · rename_i hu
            obtain ⟨x', hx, hc⟩ := bind_some hc; obtain rfl := Option.some.inj hc
            exact Yields.of (run_builtin (s := Builtin.len_) (fun _ _ _ _ => rfl) (as := #[ev x]) (by simp)) (q_len (ty := ty) hu trivial hx E R hr)
          · rename_i e hu
            obtain ⟨x', hx, hc⟩ := bind_some hc; obtain rfl := Option.some.inj hc
            exact Yields.of (run_builtin (s := Builtin.len_) (fun _ _ _ _ => rfl) (as := #[ev x]) (by simp)) (q_len (ty := ty) hu trivial hx E R hr)
          · rename_i n e hu
            obtain ⟨x', hx, hc⟩ := bind_some hc; obtain rfl := Option.some.inj hc
            exact Yields.of (run_builtin (s := Builtin.len_) (fun _ _ _ _ => rfl) (as := #[ev x]) (by simp)) (q_len (q := .arr n) (ty := ty) hu rfl hx E R hr)
          · cases hc
        · cases hc
      case append =>
        simp only [cop] at hc
        split at hc
        · rename_i t tx x y hats hargs
          obtain rfl : ats = #[t, tx] := by apply Array.toList_inj.1; simpa using hats
          obtain rfl : args = #[x, y] := by apply Array.toList_inj.1; simpa using hargs
          have key : ∀ e, P.underlying t = some (.slice e) → ((∃ e', P.underlying tx = some (.slice e')) ∨ P.underlying tx = some .string) →
              (match P.info? e with
                | some i => match czero P e with
                  | some z => if z.length = i.size ∧ 0 < i.size then (copd x).bind fun x => (copd y).bind fun y => some (AOp.app i.size i.bytes x y) else none
                  | none => none
                | none => none) = some a → Yields P base ρ h w (do pure (.value (← Builtin.append_ #[t, tx] ty #[ev x, ev y]))) v h' := by
            intro e hu hk hc
            split at hc
            · rename_i i hi
              split at hc
              · rename_i z hz
                split at hc
                · rename_i hzl
                  obtain ⟨x', hx, hc⟩ := bind_some hc; obtain ⟨y', hy, hc⟩ := bind_some hc; obtain rfl := Option.some.inj hc
                  exact q_app hu hk hi hz hzl hx hy E R hr
                · cases hc
              · cases hc
            · cases hc
          split at hc
          · rename_i e e' hu hk
            exact Yields.of (run_builtin (s := Builtin.append_) (fun _ _ _ _ => rfl) (as := #[ev x, ev y]) (by simp)) (key e hu (.inl ⟨e', hk⟩) hc)
          · rename_i e hu hk
            exact Yields.of (run_builtin (s := Builtin.append_) (fun _ _ _ _ => rfl) (as := #[ev x, ev y]) (by simp)) (key e hu (.inr hk) hc)
          · cases hc
        · cases hc
      case max =>
        simp only [cop] at hc
        obtain ⟨l, hl, hc⟩ := bind_some hc; obtain rfl := Option.some.inj hc
        have := q_max (P := P) (ats := ats) (ty := ty) hl E R hr
        have e : (args.toList.map ev).toArray = args.map ev := by apply Array.toList_inj.1; simp
        rw [e] at this
        exact Yields.of (run_builtin (s := Builtin.max_) (fun _ _ _ _ => rfl) rfl) this
      case min =>
        simp only [cop] at hc
        obtain ⟨l, hl, hc⟩ := bind_some hc; obtain rfl := Option.some.inj hc
        have := q_min (P := P) (ats := ats) (ty := ty) hl E R hr
        have e : (args.toList.map ev).toArray = args.map ev := by apply Array.toList_inj.1; simp
        rw [e] at this
        exact Yields.of (run_builtin (s := Builtin.min_) (fun _ _ _ _ => rfl) rfl) this
end
end Go.Ae
