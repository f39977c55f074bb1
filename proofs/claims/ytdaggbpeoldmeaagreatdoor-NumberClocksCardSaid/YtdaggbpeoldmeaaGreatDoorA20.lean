/- The abstract evaluator: regions, compiled and looked at. -/
import Derived.Test.YtdaggbpeoldmeaaGreatDoorA19
set_option linter.unusedVariables false
set_option linter.unusedSimpArgs false
namespace Go.Ae

def alwaysE (e : Edge) : Bool := Region.binds .any e
def edgesOf (o : Oper) : List Nat := (o.after.toList.filter alwaysE).map (·.on)
def maskOf (ms : List Nat) (es : List Nat) : Nat := es.foldl (fun a j => a ||| (2 ^ j ||| ms.getD j 0)) 0
/-- For each operation, the ones before it in every order, as the digits of a number. -/
def masks : List Oper → List Nat → List Nat
  | [], ms => ms
  | o :: r, ms => masks r (ms ++ [maskOf ms (edgesOf o)])
structure AInfo where
  i : Nat
  cls : Nat
  dst : Option Nat
  names : List Nat
  mask : Nat
  stab : Option Nat
def tmpOf : Operand → Option Nat
  | .tmp t => some t
  | _ => none
def slotOf : Opd → Option Nat
  | .t t => some t
  | _ => none
def namesOf (o : Oper) (x : AOper) : List Nat :=
  o.op.operands.toList.filterMap tmpOf ++ (x.op.opds.filterMap slotOf ++ match x.grd with | some (d, _) => [d] | none => [])
def infos : Nat → List Oper → List AOper → List Nat → List AInfo
  | i, o :: os, x :: xs, m :: ms => ⟨i, x.cls, x.dst, namesOf o x, m, x.stab⟩ :: infos (i + 1) os xs ms
  | _, _, _, _ => []
def hasB (m j : Nat) : Bool := Nat.beq (Nat.land (Nat.shiftRight m j) 1) 1
def memB (d : Option Nat) (l : List Nat) : Bool :=
  match d with
  | some d => l.any (Nat.beq d)
  | none => false
def sameB (a b : Option Nat) : Bool :=
  match a, b with
  | some a, some b => Nat.beq a b
  | _, _ => false
/-- x is before y in the text. -/
def pairB (al : List Nat) (x y : AInfo) : Bool :=
  (hasB y.mask x.i || (!(Nat.beq x.cls 2 && Nat.beq y.cls 2) && !(Nat.beq x.cls 1 && !Nat.beq y.cls 1) && !memB x.dst y.names && !memB y.dst x.names &&
    !(Nat.beq x.cls 2 && Nat.beq y.cls 0 && al.any fun i => Nat.blt x.i i && Nat.blt i y.i) &&
    (match x.stab with
      | some u => !(Nat.beq x.cls 0 && Nat.beq y.cls 2) || Nat.ble y.i u
      | none => true))) && !sameB x.dst y.dst
def pairsB (al : List Nat) : List AInfo → Bool
  | [] => true
  | x :: l => l.all (pairB al x) && pairsB al l
def oneB (n : Nat) (x : AInfo) : Bool :=
  (match x.stab with | some u => Nat.ble x.i u && Nat.blt u n | none => true) && (!Nat.beq x.cls 1 || x.names.isEmpty)
def backB : Nat → List Oper → Bool
  | _, [] => true
  | i, o :: os => (edgesOf o).all (fun j => Nat.blt j i) && backB (i + 1) os
def stabOf (i m : Nat) (ch : List (Nat × Nat)) : Nat := ch.foldl (fun a p => if !hasB m p.1 && !hasB p.2 i && Nat.blt a p.1 then p.1 else a) i
def chains : Nat → List AOper → List Nat → List (Nat × Nat)
  | i, x :: xs, m :: ms =>
    match x.op with
    | .load .. | .alloc _ => chains (i + 1) xs ms
    | o => match o.pure with
      | true => chains (i + 1) xs ms
      | false => (i, m) :: chains (i + 1) xs ms
  | _, _, _ => []
def stabs (ch : List (Nat × Nat)) : Nat → List AOper → List Nat → List AOper
  | i, x :: xs, m :: ms => (match x.op with | .load .. => { x with stab := some (stabOf i m ch) } | _ => x) :: stabs ch (i + 1) xs ms
  | _, xs, _ => xs
def coper (P : Program) (nt : Nat) (ops : Array Oper) (o : Oper) : Option AOper :=
  match cgrd ops o.guard with
  | some g => match (match o.dst with | some d => Nat.blt d nt | none => true) with
    | true => some ⟨o.dst, match cop P o with | some a => a | none => .bad, g, none⟩
    | false => none
  | none => none
def copers (P : Program) (nt : Nat) (ops : Array Oper) : List Oper → Option (List AOper)
  | [] => some []
  | o :: r => match coper P nt ops o with
    | some x => match copers P nt ops r with
      | some xs => some (x :: xs)
      | none => none
    | none => none
def drawB (ops : List Oper) (xs : List AOper) (ms : List Nat) : Bool :=
  match infos 0 ops xs ms with
  | is => pairsB ((is.filter fun x => Nat.beq x.cls 1).map (·.i)) is && (is.all (oneB xs.length) && backB 0 ops) && xs.all fun x => !Nat.beq x.cls 1 || x.grd.isNone
def ccode (P : Program) (nt : Nat) : Code → ACode
  | .skip => .skip
  | .label _ => .skip
  | .scope c => .seq .skip (ccode P nt c)
  | .region _ ops false => match copers P nt ops ops.toList with
    | some xs => .reg xs
    | none => .bad
  | .region _ ops true => match copers P nt ops ops.toList with
    | some xs => match masks ops.toList [] with
      | ms => match stabs (chains 0 xs ms) 0 xs ms with
        | ys => match drawB ops.toList ys ms with
          | true => .dreg ys
          | false => .bad
    | none => .bad
  | .seq a b => .seq (ccode P nt a) (ccode P nt b)
  | .cond x a b => match copd x with
    | some y => .cond y (ccode P nt a) (ccode P nt b)
    | none => .bad
  | .block id c => .block id (ccode P nt c)
  | .loop c => .loop (ccode P nt c)
  | .exit id => .exit id
  | .ret => .ret
  | _ => .bad

/-! ### What the look says -/
theorem hasB_eq (m j : Nat) : hasB m j = m.testBit j := by
  unfold hasB Nat.testBit
  show Nat.beq ((m >>> j) &&& 1) 1 = (1 &&& (m >>> j) != 0)
  rw [Nat.and_comm]
  have : 1 &&& (m >>> j) = 0 ∨ 1 &&& (m >>> j) = 1 := by
    rw [Nat.one_and_eq_mod_two]; omega
  rcases this with h | h <;> rw [h] <;> rfl
theorem maskOf_bit (ms : List Nat) (i : Nat) : ∀ (es : List Nat) (a : Nat), (es.foldl (fun a j => a ||| (2 ^ j ||| ms.getD j 0)) a).testBit i = true ↔ a.testBit i = true ∨ ∃ j ∈ es, j = i ∨ (ms.getD j 0).testBit i = true
  | [], a => by simp
  | j :: es, a => by
    rw [List.foldl_cons, maskOf_bit ms i es]
    simp only [Nat.testBit_or, Nat.testBit_two_pow, Bool.or_eq_true, decide_eq_true_eq, List.mem_cons]
    constructor
    · rintro ((h | h | h) | ⟨k, hk, h⟩)
      · exact .inl h
      · exact .inr ⟨j, .inl rfl, .inl h⟩
      · exact .inr ⟨j, .inl rfl, .inr h⟩
      · exact .inr ⟨k, .inr hk, h⟩
    · rintro (h | ⟨k, (rfl | hk), h⟩)
      · exact .inl (.inl h)
      · exact .inl (.inr h)
      · exact .inr ⟨k, hk, h⟩
theorem masks_spec : ∀ (os : List Oper) (ms : List Nat), (masks os ms).length = ms.length + os.length ∧ (∀ k, k < ms.length → (masks os ms)[k]? = ms[k]?) ∧
    ∀ k o, os[k]? = some o → (masks os ms)[ms.length + k]? = some (maskOf ((masks os ms).take (ms.length + k)) (edgesOf o))
  | [], ms => by simp [masks]
  | o :: os, ms => by
    obtain ⟨h1, h2, h3⟩ := masks_spec os (ms ++ [maskOf ms (edgesOf o)])
    simp only [List.length_append, List.length_cons, List.length_nil, Nat.zero_add] at h1 h2 h3
    have htake : (masks os (ms ++ [maskOf ms (edgesOf o)])).take ms.length = ms := by
      apply List.ext_getElem?
      intro k
      rw [List.getElem?_take]
      split
      · rename_i hk
        rw [h2 k (by omega), List.getElem?_append_left hk]
      · rename_i hk
        rw [List.getElem?_eq_none (by omega)]
    refine ⟨by simp only [masks, h1, List.length_cons]; omega, fun k hk => ?_, fun k o' ho => ?_⟩
    · simp only [masks]
      rw [h2 k (by omega), List.getElem?_append_left hk]
    · simp only [masks]
      cases k with
      | zero =>
        simp only [List.getElem?_cons_zero, Option.some.injEq] at ho
        subst ho
        rw [Nat.add_zero, htake, h2 _ (by omega), List.getElem?_append_right (Nat.le_refl _)]
        simp
      | succ k =>
        simp only [List.getElem?_cons_succ] at ho
        have := h3 k o' ho
        rwa [show ms.length + 1 + k = ms.length + (k + 1) by omega] at this
theorem infos_get : ∀ (i : Nat) (os : List Oper) (xs : List AOper) (ms : List Nat) (k : Nat) (o : Oper) (x : AOper) (m : Nat), os[k]? = some o → xs[k]? = some x → ms[k]? = some m → (infos i os xs ms)[k]? = some ⟨i + k, x.cls, x.dst, namesOf o x, m, x.stab⟩
  | i, o :: os, x :: xs, m :: ms, 0, o', x', m', h1, h2, h3 => by
    simp only [List.getElem?_cons_zero, Option.some.injEq] at h1 h2 h3
    subst h1; subst h2; subst h3; rfl
  | i, o :: os, x :: xs, m :: ms, k + 1, o', x', m', h1, h2, h3 => by
    simp only [List.getElem?_cons_succ] at h1 h2 h3
    simp only [infos, List.getElem?_cons_succ]
    rw [infos_get (i + 1) os xs ms k o' x' m' h1 h2 h3, show i + 1 + k = i + (k + 1) by omega]
  | _, [], _, _, _, _, _, _, h, _, _ => by simp at h
  | _, _ :: _, [], _, _, _, _, _, _, h, _ => by simp at h
  | _, _ :: _, _ :: _, [], _, _, _, _, _, _, h => by simp at h
theorem pairs_get {al : List Nat} : ∀ (l : List AInfo), pairsB al l = true → ∀ (j k : Nat) (x y : AInfo), j < k → l[j]? = some x → l[k]? = some y → pairB al x y = true
  | [], _, _, _, _, _, _, h, _ => by simp at h
  | z :: l, hp, j, k, x, y, hjk, hx, hy => by
    simp only [pairsB, Bool.and_eq_true] at hp
    cases k with
    | zero => omega
    | succ k =>
      simp only [List.getElem?_cons_succ] at hy
      cases j with
      | zero =>
        simp only [List.getElem?_cons_zero, Option.some.injEq] at hx
        subst hx
        exact List.all_eq_true.1 hp.1 y (List.mem_of_getElem? hy)
      | succ j =>
        simp only [List.getElem?_cons_succ] at hx
        exact pairs_get l hp.2 j k x y (by omega) hx hy
theorem back_get : ∀ (i : Nat) (os : List Oper), backB i os = true → ∀ k o, os[k]? = some o → ∀ j ∈ edgesOf o, j < i + k
  | _, [], _, _, _, h, _, _ => by simp at h
  | i, z :: os, hb, k, o, ho, j, hj => by
    simp only [backB, Bool.and_eq_true] at hb
    cases k with
    | zero =>
      simp only [List.getElem?_cons_zero, Option.some.injEq] at ho
      subst ho
      have := List.all_eq_true.1 hb.1 j hj
      simpa [Nat.blt_eq] using this
    | succ k =>
      simp only [List.getElem?_cons_succ] at ho
      have := back_get (i + 1) os hb.2 k o ho j hj
      omega
theorem memB_not {d : Nat} {l : List Nat} (h : memB (some d) l = false) : d ∉ l := by
  intro hm
  have : memB (some d) l = true := List.any_eq_true.2 ⟨d, hm, by simp⟩
  rw [h] at this; cases this
end Go.Ae
