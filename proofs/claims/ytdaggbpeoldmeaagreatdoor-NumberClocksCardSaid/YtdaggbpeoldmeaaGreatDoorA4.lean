/- The abstract evaluator: operations, compiled. -/
import Derived.Test.YtdaggbpeoldmeaaGreatDoorA3
set_option linter.unusedVariables false
set_option linter.unusedSimpArgs false
namespace Go.Ae

def cval : Value → Option AV
  | .int k n => some (.int k n)
  | .bool b => some (.bool b)
  | .string s => some (.str s.data.toList)
  | .pointer none => some .nilp
  | .slice none 0 0 => some .nils
  | .map none => some .nilm
  | .nilFunc => some .nilf
  | .nilIface => some .nili
  | _ => none
def cvals : List Value → Option (List AV)
  | [] => some []
  | v :: r => match cval v, cvals r with
    | some a, some l => some (a :: l)
    | _, _ => none
def copd : Operand → Option Opd
  | .tmp t => some (.t t)
  | .const v => match cval v with
    | some a => some (.k a)
    | none => none
  | .func f => some (.k (.fn f []))
  | .global _ => none
def copds : List Operand → Option (List Opd)
  | [] => some []
  | x :: r => match copd x, copds r with
    | some a, some l => some (a :: l)
    | _, _ => none
def copdo : Option Operand → Option (Option Opd)
  | none => some none
  | some x => match copd x with
    | some a => some (some a)
    | none => none
def czero (P : Program) (t : TypeId) : Option (List AV) :=
  match P.info? t with
  | some i => match i.zero with
    | some z => cvals z.cells.toList
    | none => none
  | none => none
/-- The zero value itself. -/
def czeroV (P : Program) (t : TypeId) : Option AV :=
  match P.info? t with
  | some i => match i.zero with
    | some (.agg cs) => match cvals cs.toList with
      | some l => some (.agg l)
      | none => none
    | some z => cval z
    | none => none
  | none => none
def csz (P : Program) (t : TypeId) : Option Nat :=
  match P.info? t with
  | some i => some i.size
  | none => none
def cagg (P : Program) (t : TypeId) : Option Bool :=
  match P.underlying t with
  | some (.struct _) | some (.array _ _) => some true
  | some _ => some false
  | none => none
def cparts (place : Nat → Option (Nat × Nat)) : List (Nat × Operand) → Option (List (Nat × Nat × Opd))
  | [] => some []
  | (i, x) :: r => match place i, copd x, cparts place r with
    | some (off, n), some y, some l => some ((off, n, y) :: l)
    | _, _, _ => none
def cplace (P : Program) (fs : Array Field) (i : Nat) : Option (Nat × Nat) :=
  match fs[i]? with
  | some f => match csz P f.type with
    | some n => some (f.offset, n)
    | none => none
  | none => none
def leavesL (P : Program) (lv : TypeId → Option (List (Nat × LK))) : List Field → Option (List (Nat × LK))
  | [] => some []
  | f :: r => match f.name == "_", lv f.type, csz P f.type, leavesL P lv r with
    | false, some a, some n, some b => if a.all (fun x => x.1 < n) then some (a.map (fun x => (f.offset + x.1, x.2)) ++ b) else none
    | _, _, _, _ => none
/-- The cells of a struct that count where two are compared, if all are whole numbers, bools or strings. -/
def leaves (P : Program) : Nat → TypeId → Option (List (Nat × LK))
  | 0, _ => none
  | d + 1, t => match P.underlying t with
    | some (.int _) => some [(0, .int)]
    | some .bool => some [(0, .bool)]
    | some .string => some [(0, .str)]
    | some (.struct fs) => if P.stoodInHeld t then none else leavesL P (leaves P d) fs.toList
    | _ => none
def isConstO : Operand → Bool
  | .const _ => true
  | _ => false
def ceq (P : Program) (op : BinOp) (t : TypeId) (x y : Operand) : EqK :=
  match P.underlying t with
  | some .bool => .bool
  | some (.pointer _) => .ptr
  | some (.slice _) => .slice
  | some (.map _ _) => .map
  | some (.func _ _ _) => .func
  | some (.interface _) => if isConstO x || isConstO y then .iface else .none
  | some (.struct _) => match leaves P 20 t with
    | some ls => if P.eqGuardType P.depth t then .none else .plain ls
    | none => .none
  | _ => .none
def cfield (P : Program) (s : TypeId) (i : Nat) : Option Field :=
  match P.underlying s with
  | some (.struct fs) => fs[i]?
  | _ => none
def cmapStr (P : Program) (t : TypeId) : Option TypeId :=
  match P.underlying t with
  | some (.map k e) => match P.underlying k with
    | some .string => some e
    | _ => none
  | _ => none
def isU8T (P : Program) (t : TypeId) : Bool :=
  match P.underlying t with
  | some (.int .u8) => true
  | _ => false

/-- One operation, compiled. -/
def cop (P : Program) (o : Oper) : Option AOp :=
  match o.op with
  | .move x | .assign x => (copd x).bind fun x => some (.mv x)
  | .pick c a b => (copd c).bind fun c => (copd a).bind fun a => (copd b).bind fun b => some (.pick c a b)
  | .alloc e => (czero P e).bind fun z => some (.alloc z)
  | .box _ x => (copd x).bind fun x => some (.box x)
  | .build t ps => (czero P t).bind fun z => match P.underlying t with
    | some (.struct fs) => if fs.toList.all fun f => (P.info? f.type).isSome then (cparts (cplace P fs) ps.toList).bind fun l => some (.build z l) else none
    | _ => none
  | .buildSlice t n ps => match P.underlying t with
    | some (.slice e) => (csz P e).bind fun s => (czero P e).bind fun z =>
      if z.length = s ∧ n * s ≤ 16777216 ∧ 0 < s then (cparts (fun i => some (i * s, s)) ps.toList).bind fun l => some (.bslice s n (rep n z) l) else none
    | _ => none
  | .load t x => (cagg P t).bind fun a => (csz P t).bind fun n => (copd x).bind fun x => some (.load a (if a then n else 1) x)
  | .store t x y => (csz P t).bind fun n => (copd x).bind fun x => (copd y).bind fun y => some (.store n x y)
  | .nilCheck x => (copd x).bind fun x => some (.nilck x)
  | .binOp op t x y _ => (copd x).bind fun x' => (copd y).bind fun y' => some (.bin op (ceq P op t x y) x' y')
  | .unOp op _ x => (copd x).bind fun x => some (.un op x)
  | .convert s d x => match P.underlying s, P.underlying d with
    | some (.int _), some (.int k) => (copd x).bind fun x => some (.cvi k x)
    | some .string, some .string => (copd x).bind fun x => some (.cvs x)
    | _, _ => none
  | .makeInterface t x => match P.underlying t with
    | some (.interface _) => none
    | some _ => (copd x).bind fun x => some (.mkI t x)
    | none => none
  | .makeFunc (.func f) first cs => if first.isEmpty then (copds cs.toList).bind fun l => some (.mkF f l) else none
  | .makeMap t none => (cmapStr P t).bind fun _ => some .mkmap
  | .makeSlice t l c => match P.underlying t with
    | some (.slice e) => match P.info? e with
      | some i => (czero P e).bind fun z => (copd l).bind fun l => (copd c).bind fun c => some (.mks i.size i.bytes z l c)
      | none => none
    | _ => none
  | .slice t x lo hi none => match P.underlying t with
    | some .string => (copd x).bind fun x => (copdo lo).bind fun lo => (copdo hi).bind fun hi => some (.sls x lo hi)
    | some (.slice e) => (csz P e).bind fun s => (copd x).bind fun x => (copdo lo).bind fun lo => (copdo hi).bind fun hi => some (.sl s x lo hi)
    | _ => none
  | .fieldAddr s x i => (cfield P s i).bind fun f => (csz P f.type).bind fun n => if n = 0 then none else (copd x).bind fun x => some (.fadr f.offset x)
  | .field s x i => (cfield P s i).bind fun f => (cagg P f.type).bind fun a => (csz P f.type).bind fun n => (copd x).bind fun x => some (.fld a f.offset (if a then n else 1) x)
  | .indexAddr t x i => match P.underlying t with
    | some (.slice e) => (csz P e).bind fun s => (copd x).bind fun x => (copd i).bind fun i => some (.iadr s x i)
    | some (.array n e) => (csz P e).bind fun s => (copd x).bind fun x => (copd i).bind fun i => some (.iadrA s n x i)
    | _ => none
  | .index t x i => match P.underlying t with
    | some .string => (copd x).bind fun x => (copd i).bind fun i => some (.idxs x i)
    | _ => none
  | .lookup t m k okk => (cmapStr P t).bind fun e => (czeroV P e).bind fun z => (copd m).bind fun m => (copd k).bind fun k => some (.lkp m k z okk)
  | .mapUpdate t m k v | .insert t m k v => (cmapStr P t).bind fun _ => (copd m).bind fun m => (copd k).bind fun k => (copd v).bind fun v => some (.mupd m k v)
  | .range t x => match P.underlying t with
    | some .string => (copd x).bind fun x => some (.rng x)
    | _ => none
  | .next x true => (copd x).bind fun x => some (.nxt x)
  | .extract x i => (copd x).bind fun x => some (.ext x i)
  | .call c => match c.callee with
    | .value (.func f) => (copds c.args.toList).bind fun l => some (.callF f l)
    | .value x => (copd x).bind fun x => (copds c.args.toList).bind fun l => some (.callV x l)
    | .invoke x name => (copd x).bind fun x => (copds c.args.toList).bind fun l => some (.inv x name l)
    | .builtin .len => match c.argTypes.toList, c.args.toList with
      | [t], [x] => match P.underlying t with
        | some .string => (copd x).bind fun x => some (.len .str x)
        | some (.slice _) => (copd x).bind fun x => some (.len .slice x)
        | some (.array n _) => (copd x).bind fun x => some (.len (.arr n) x)
        | _ => none
      | _, _ => none
    | .builtin .append => match c.argTypes.toList, c.args.toList with
      | [t, tx], [x, y] => match P.underlying t, P.underlying tx with
        | some (.slice e), some (.slice _) | some (.slice e), some .string => match P.info? e with
          | some i => match czero P e with
            | some z => if z.length = i.size ∧ 0 < i.size then (copd x).bind fun x => (copd y).bind fun y => some (.app i.size i.bytes x y) else none
            | none => none
          | none => none
        | _, _ => none
      | _, _ => none
    | .builtin .max => (copds c.args.toList).bind fun l => some (.mx l)
    | .builtin .min => (copds c.args.toList).bind fun l => some (.mn l)
    | _ => none
  | _ => none

theorem cval_enc {v : Value} {a : AV} (h : cval v = some a) (ρ : Rho) (N : Nat) : enc ρ a = v ∧ ok ρ N a := by
  unfold cval at h
  split at h <;> first
    | (obtain rfl := Option.some.inj h; exact ⟨by simp [enc], trivial⟩)
    | cases h
theorem cval_one {v : Value} {a : AV} (h : cval v = some a) : a.one = true := by
  unfold cval at h
  split at h <;> first
    | (obtain rfl := Option.some.inj h; rfl)
    | cases h
theorem cvals_enc : ∀ {vs : List Value} {l : List AV}, cvals vs = some l → ∀ (ρ : Rho) (N : Nat), encs ρ l = vs ∧ oks ρ N l ∧ ∀ v ∈ l, v.one = true
  | [], l, h, ρ, N => by obtain rfl := Option.some.inj h; exact ⟨by simp [encs], trivial, by simp⟩
  | v :: r, l, h, ρ, N => by
    unfold cvals at h
    split at h
    · rename_i a l' h1 h2
      obtain rfl := Option.some.inj h
      obtain ⟨e1, e2, e3⟩ := cvals_enc h2 ρ N
      obtain ⟨e4, e5⟩ := cval_enc h1 ρ N
      refine ⟨by simp [encs, e1, e4], ⟨e5, e2⟩, fun x hx => ?_⟩
      rcases List.mem_cons.1 hx with rfl | hx
      · exact cval_one h1
      · exact e3 x hx
    · cases h

section
variable {P : Program} {base : Nat} {ρ : Rho} {h : Hp} {w : World} {ev : Operand → Value} {tm : T AV}
/-- The operands' values. -/
def Evals (ρ : Rho) (N : Nat) (ev : Operand → Value) (tm : T AV) : Prop := ∀ x y, copd x = some y → ev x = enc ρ (val tm y) ∧ ok ρ N (val tm y)
def Yields (P : Program) (base : Nat) (ρ : Rho) (h : Hp) (w : World) (s : Sem Next) (v : AV) (h' : Hp) : Prop :=
  ∃ ρ' w' u, (s.run P w = .ok (.value u) w' ∨ (s.run P w = .ok .skip w' ∧ u = undef)) ∧ u = enc ρ' v ∧ ok ρ' h'.next v ∧ Ext base ρ h w ρ' h' w'
theorem Yields.pure (R : HRel base ρ h w) {s : Sem Next} {v : AV} (hs : s.run P w = .ok (.value (enc ρ v)) w) (hv : ok ρ h.next v) : Yields P base ρ h w s v h :=
  ⟨ρ, w, _, .inl hs, rfl, hv, Ext.refl R⟩
theorem Evals.list (E : Evals ρ h.next ev tm) : ∀ {xs : List Operand} {ys : List Opd}, copds xs = some ys → xs.map ev = encs ρ (ys.map (val tm)) ∧ oks ρ h.next (ys.map (val tm))
  | [], ys, hc => by obtain rfl := Option.some.inj hc; exact ⟨by simp [encs], trivial⟩
  | x :: xs, ys, hc => by
    unfold copds at hc
    split at hc
    · rename_i a l h1 h2
      obtain rfl := Option.some.inj hc
      obtain ⟨e1, e2⟩ := E.list h2
      obtain ⟨e3, e4⟩ := E _ _ h1
      exact ⟨by simp [encs, e1, e3], ⟨e4, e2⟩⟩
    · cases hc
theorem bind_some {α β : Type} {x : Option α} {f : α → Option β} {b : β} (hx : x.bind f = some b) : ∃ a, x = some a ∧ f a = some b := Option.bind_eq_some_iff.1 hx

theorem info_of_csz {t : TypeId} {n : Nat} (hc : csz P t = some n) : ∃ i, P.info? t = some i ∧ i.size = n := by
  unfold csz at hc
  split at hc
  · rename_i i hi; exact ⟨i, hi, by simpa using hc⟩
  · cases hc
theorem run_sizeOf' {t : TypeId} {n : Nat} (hc : csz P t = some n) (w : World) : (sizeOf t).run P w = .ok n w := by
  obtain ⟨i, hi, rfl⟩ := info_of_csz hc
  simp [sizeOf, typeInfo, hi]
theorem run_isAgg' {t : TypeId} {a : Bool} (hc : cagg P t = some a) (w : World) : (isAgg t).run P w = .ok a w := by
  unfold cagg at hc
  split at hc
  · rename_i fs hu; obtain rfl := Option.some.inj hc; simp [isAgg, run_underlying hu]
  · rename_i n e hu; obtain rfl := Option.some.inj hc; simp [isAgg, run_underlying hu]
  · rename_i d hd1 hd2 hu
    obtain rfl := Option.some.inj hc
    simp only [isAgg, Sem.run_bind, run_underlying hu, Result.andThen_ok]
    cases d <;> first | rfl | exact absurd rfl (hd1 _) | exact absurd rfl (hd2 _ _) | simp_all
  · cases hc
theorem zero_of {t : TypeId} {z : List AV} (hc : czero P t = some z) : ∃ i zv, P.info? t = some i ∧ i.zero = some zv ∧ cvals zv.cells.toList = some z := by
  unfold czero at hc
  split at hc
  · rename_i i hi
    split at hc
    · rename_i zv hz; exact ⟨i, zv, hi, hz, hc⟩
    · cases hc
  · cases hc

/-! ### Loads and stores -/
theorem cell_at {t o : Nat} {cs : List AV} {own : Bool} {st : Nat} (R : HRel base ρ h w) (ht : h.get t = some (.row cs own st)) {v : AV} (hv : cs[o]? = some v) :
    w.cell? ⟨(ρ t).b, (ρ t).o + o, none⟩ = some (enc ρ v) ∧ ok ρ h.next v := by
  have r := R.row t cs own st ht
  refine ⟨r.cells o _ (by rw [encs_map, List.getElem?_map, hv]; rfl), ?_⟩
  exact (oks_iff _ _ _).1 r.ok v (List.mem_of_getElem? hv)
theorem range_at {t o n : Nat} {cs : List AV} {own : Bool} {st : Nat} (R : HRel base ρ h w) (ht : h.get t = some (.row cs own st)) :
    w.rangeAt (ρ t).b ((ρ t).o + o) (encs ρ ((cs.drop o).take n)) ∧ oks ρ h.next ((cs.drop o).take n) := by
  have r := R.row t cs own st ht
  refine ⟨fun j v hv => ?_, (oks_iff _ _ _).2 fun v hv => (oks_iff _ _ _).1 r.ok v (List.mem_of_mem_drop (List.mem_of_mem_take hv))⟩
  rw [encs_map, List.getElem?_map, List.getElem?_take] at hv
  split at hv
  · rw [List.getElem?_drop, ← List.getElem?_map, ← encs_map] at hv
    have := r.cells (o + j) v hv
    rwa [show (ρ t).o + (o + j) = (ρ t).o + o + j by omega] at this
  · simp at hv
theorem loadVar_sound {t : TypeId} {a : Bool} {n tk o : Nat} {cs : List AV} {own : Bool} {st : Nat} (R : HRel base ρ h w) (ha : cagg P t = some a) (hn : csz P t = some n)
    (ht : h.get tk = some (.row cs own st)) (hl : o + (if a then n else 1) ≤ cs.length) {v : AV} (hv : (if a then some (AV.agg ((cs.drop o).take (if a then n else 1))) else cs[o]?) = some v) :
    (loadVar t ⟨(ρ tk).b, (ρ tk).o + o, none⟩).run P w = .ok (enc ρ v) w ∧ ok ρ h.next v := by
  cases a with
  | true =>
    simp only [if_true] at hl hv
    obtain rfl := Option.some.inj hv
    obtain ⟨hr, hk⟩ := range_at (o := o) (n := n) R ht
    refine ⟨?_, hk⟩
    obtain ⟨i, hi, rfl⟩ := info_of_csz hn
    have hlen : (encs ρ ((cs.drop o).take i.size)).length = i.size := by rw [encs_length]; simp; omega
    unfold cagg at ha
    split at ha
    · rename_i fs hu; simpa [enc] using run_loadVar_mid w (ρ tk).b ((ρ tk).o + o) t _ _ hr hu rfl (by simp [hi, hlen])
    · rename_i m e hu; simpa [enc] using run_loadVar_mid w (ρ tk).b ((ρ tk).o + o) t _ _ hr hu rfl (by simp [hi, hlen])
    · cases ha
    · cases ha
  | false =>
    simp only [Bool.false_eq_true, if_false] at hl hv
    obtain ⟨hc, hk⟩ := cell_at R ht hv
    refine ⟨?_, hk⟩
    simp [loadVar, run_isAgg' ha, hc]
end
end Go.Ae
