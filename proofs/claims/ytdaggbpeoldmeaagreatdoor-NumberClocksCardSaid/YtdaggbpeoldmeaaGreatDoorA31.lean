/- The abstract evaluator: the rules of a walk by rewriting. -/
import Derived.Test.YtdaggbpeoldmeaaGreatDoorA29
import Derived.Test.YtdaggbpeoldmeaaGreatDoorA15
import Derived.IntWalk
set_option linter.unusedVariables false
set_option linter.unusedSimpArgs false
namespace Go.Ae
section
variable {E : Env} {s : St} {tm : T AV} {h h' : Hp} {v x y : AV} {Q : Ex → St → Prop} {K : AV → Hp → Prop} {a b c : ACode} {r : List AOper} {d : Option Nat} {o : AOp} {k : IntKind} {m n i j : Int}
/-! Values of operands. -/
theorem val_k : val tm (.k v) = v := rfl
theorem val_nil {t : Nat} : val (.nil : T AV) (.t t) = und := rfl
theorem put_some {t : Nat} : put tm (some t) v = tm.set t v := rfl
theorem put_none : put tm none v = tm := rfl
theorem enter_nil {t : Nat} : enterA [] t tm = tm := rfl
theorem enter_cons {t : Nat} {l : List AV} : enterA (v :: l) t tm = enterA l (t + 1) (tm.set t v) := rfl
theorem resA_tmp {t : Nat} : resA s (.tmp t) = some (val s.tm (.t t)) := rfl
theorem res1 {t : Nat} : resultA s [.tmp t] = some (val s.tm (.t t)) := rfl
theorem res0 : resultA s [] = some (.tup []) := rfl
theorem res2 {t t' : Nat} : resultA s [.tmp t, .tmp t'] = some (.tup [val s.tm (.t t), val s.tm (.t t')]) := rfl
theorem res3 {t t' t'' : Nat} : resultA s [.tmp t, .tmp t', .tmp t''] = some (.tup [val s.tm (.t t), val s.tm (.t t'), val s.tm (.t t'')]) := rfl
/-! Guards. -/
def WantK (v : AV) (b : Bool) : Bool :=
  match v with
  | .bool c => c == b
  | _ => false
theorem wanted_k {t : Nat} {b : Bool} : wanted tm (some (t, b)) = WantK (val tm (.t t)) b := by rw [wanted_val]; rfl
theorem WantK.tt : WantK (.bool true) true = true := rfl
theorem WantK.tf : WantK (.bool true) false = false := rfl
theorem WantK.ft : WantK (.bool false) true = false := rfl
theorem WantK.ff : WantK (.bool false) false = true := rfl
theorem WantK.und {b : Bool} : WantK (.tup []) b = false := rfl
theorem WantK.pos_t {p : Prop} {_ : Decidable p} (hp : p) : WantK (.bool (decide p)) true = true := by simp [WantK, hp]
theorem WantK.neg_t {p : Prop} {_ : Decidable p} (hp : ¬ p) : WantK (.bool (decide p)) true = false := by simp [WantK, hp]
theorem WantK.pos_f {p : Prop} {_ : Decidable p} (hp : p) : WantK (.bool (decide p)) false = false := by simp [WantK, hp]
theorem WantK.neg_f {p : Prop} {_ : Decidable p} (hp : ¬ p) : WantK (.bool (decide p)) false = true := by simp [WantK, hp]
theorem GrdK.dec {p : Prop} {_ : Decidable p} {b : Bool} (h1 : p → GrdK E (WantK (.bool true) b) o d r s Q) (h2 : ¬ p → GrdK E (WantK (.bool false) b) o d r s Q) : GrdK E (WantK (.bool (decide p)) b) o d r s Q := by
  by_cases hp : p
  · rw [decide_eq_true hp]; exact h1 hp
  · rw [decide_eq_false hp]; exact h2 hp
theorem DGrd.dec {p : Prop} {_ : Decidable p} {b : Bool} {acc : List (Nat × Nat)} {acc' : Option (List (Nat × Nat))} {i c0 : Nat} (h1 : p → DGrd E (WantK (.bool true) b) acc acc' d o r i c0 s Q) (h2 : ¬ p → DGrd E (WantK (.bool false) b) acc acc' d o r i c0 s Q) : DGrd E (WantK (.bool (decide p)) b) acc acc' d o r i c0 s Q := by
  by_cases hp : p
  · rw [decide_eq_true hp]; exact h1 hp
  · rw [decide_eq_false hp]; exact h2 hp
theorem CondK.decN {p : Prop} {_ : Decidable p} (h1 : ¬ p → Wp E a s Q) (h2 : p → Wp E b s Q) : CondK E (.bool (decide (¬ p))) a b s Q := by
  by_cases hp : p
  · rw [decide_eq_false (fun e => e hp)]; exact h2 hp
  · rw [decide_eq_true hp]; exact h1 hp
theorem GrdK.decN {p : Prop} {_ : Decidable p} {b : Bool} (h1 : ¬ p → GrdK E (WantK (.bool true) b) o d r s Q) (h2 : p → GrdK E (WantK (.bool false) b) o d r s Q) : GrdK E (WantK (.bool (decide (¬ p))) b) o d r s Q := by
  by_cases hp : p
  · rw [decide_eq_false (fun e => e hp)]; exact h2 hp
  · rw [decide_eq_true hp]; exact h1 hp
theorem decide_nn {p : Prop} {_ : Decidable p} : (!decide p) = decide (¬ p) := by by_cases hp : p <;> simp [hp]
/-! Operations. -/
theorem w_mv {z : Opd} : OpWp E (.mv z) s K ↔ K (val s.tm z) s.hp := OpWp.plain_iff rfl
def PickK (v a b : AV) (h : Hp) (K : AV → Hp → Prop) : Prop :=
  match v with
  | .bool true => K a h
  | .bool false => K b h
  | _ => False
theorem PickK.t : PickK (.bool true) x y h K ↔ K x h := Iff.rfl
theorem PickK.f : PickK (.bool false) x y h K ↔ K y h := Iff.rfl
theorem PickK.pos {p : Prop} {_ : Decidable p} (hp : p) : PickK (.bool (decide p)) x y h K ↔ K x h := by rw [decide_eq_true hp]; exact Iff.rfl
theorem PickK.neg {p : Prop} {_ : Decidable p} (hp : ¬ p) : PickK (.bool (decide p)) x y h K ↔ K y h := by rw [decide_eq_false hp]; exact Iff.rfl
theorem PickK.dec {p : Prop} {_ : Decidable p} (h1 : p → K x h) (h2 : ¬ p → K y h) : PickK (.bool (decide p)) x y h K := by
  by_cases hp : p
  · rw [decide_eq_true hp]; exact h1 hp
  · rw [decide_eq_false hp]; exact h2 hp
theorem PickK.decN {p : Prop} {_ : Decidable p} (h1 : ¬ p → K x h) (h2 : p → K y h) : PickK (.bool (decide (¬ p))) x y h K := by
  by_cases hp : p
  · rw [decide_eq_false (fun e => e hp)]; exact h2 hp
  · rw [decide_eq_true hp]; exact h1 hp
theorem WantK.posN_t {p : Prop} {_ : Decidable p} (hp : p) : WantK (.bool (decide (¬ p))) true = false := by simp [WantK, hp]
theorem WantK.posN_f {p : Prop} {_ : Decidable p} (hp : p) : WantK (.bool (decide (¬ p))) false = true := by simp [WantK, hp]
theorem PickK.posN {p : Prop} {_ : Decidable p} (hp : p) : PickK (.bool (decide (¬ p))) x y h K ↔ K y h := by rw [decide_eq_false (fun e => e hp)]; exact Iff.rfl
theorem CondK.posN {p : Prop} {_ : Decidable p} (hp : p) : CondK E (.bool (decide (¬ p))) a b s Q ↔ Wp E b s Q := by rw [decide_eq_false (fun e => e hp)]; exact Iff.rfl
theorem w_pick {z u w : Opd} : OpWp E (.pick z u w) s K ↔ PickK (val s.tm z) (val s.tm u) (val s.tm w) s.hp K := by
  rw [OpWp.plain_iff rfl]
  simp only [aop, o_pick, PickK]
  cases val s.tm z <;> try exact Iff.rfl
  rename_i b; cases b <;> exact Iff.rfl
theorem w_alloc {z : List AV} : OpWp E (.alloc z) s K ↔ K (.ptr s.hp.next 0) (s.hp.push fun t => .row z true t) := OpWp.plain_iff rfl
theorem w_box {z : Opd} : OpWp E (.box z) s K ↔ Some2 (o_box z (val s.tm) s.hp) K := OpWp.plain_iff rfl
theorem w_build {z : List AV} {ps : List (Nat × Nat × Opd)} : OpWp E (.build z ps) s K ↔ Some2 (o_build z ps (val s.tm) s.hp) K := OpWp.plain_iff rfl
theorem w_bslice {sz l : Nat} {z : List AV} {ps : List (Nat × Nat × Opd)} : OpWp E (.bslice sz l z ps) s K ↔ Some2 (o_bslice sz l z ps (val s.tm) s.hp) K := OpWp.plain_iff rfl
theorem w_nilck {z : Opd} : OpWp E (.nilck z) s K ↔ Some2 (o_nilck z (val s.tm) s.hp) K := OpWp.plain_iff rfl
theorem w_bin {q : EqK} {z u : Opd} {op : BinOp} : OpWp E (.bin op q z u) s K ↔ Some1 (binA op q (val s.tm z) (val s.tm u)) s.hp K := by
  rw [OpWp.plain_iff rfl]
  simp only [aop, o_bin, Some1]
  cases binA op q (val s.tm z) (val s.tm u) <;> exact Iff.rfl
theorem w_un {z : Opd} {op : UnOp} : OpWp E (.un op z) s K ↔ Some1 (unA op (val s.tm z)) s.hp K := by
  rw [OpWp.plain_iff rfl]
  simp only [aop, o_un, Some1]
  cases unA op (val s.tm z) <;> exact Iff.rfl
def cviA (k : IntKind) : AV → Option AV
  | .int _ n => some (.int k (k.wrap n))
  | _ => none
theorem cviA_int {k' : IntKind} : cviA k (.int k' n) = some (.int k (k.wrap n)) := rfl
theorem w_cvi {z : Opd} : OpWp E (.cvi k z) s K ↔ Some1 (cviA k (val s.tm z)) s.hp K := by
  rw [OpWp.plain_iff rfl]
  simp only [aop, o_cvi, Some1]
  cases val s.tm z <;> simp [cviA, mkInt_eq, Some2]
def cvsA : AV → Option AV
  | .str s => some (.str s)
  | _ => none
theorem cvsA_str {l : List UInt8} : cvsA (.str l) = some (.str l) := rfl
theorem w_cvs {z : Opd} : OpWp E (.cvs z) s K ↔ Some1 (cvsA (val s.tm z)) s.hp K := by
  rw [OpWp.plain_iff rfl]
  simp only [aop, o_cvs, Some1]
  cases val s.tm z <;> exact Iff.rfl
theorem w_mkI {t : Nat} {z : Opd} : OpWp E (.mkI t z) s K ↔ K (.ifc t (val s.tm z)) s.hp := OpWp.plain_iff rfl
theorem w_mkF {f : Nat} {cs : List Opd} : OpWp E (.mkF f cs) s K ↔ K (.fn f (cs.map (val s.tm))) s.hp := OpWp.plain_iff rfl
theorem w_mks {sz by_ : Nat} {z : List AV} {l u : Opd} : OpWp E (.mks sz by_ z l u) s K ↔ Some2 (o_mks sz by_ z l u (val s.tm) s.hp) K := OpWp.plain_iff rfl
theorem w_sl {sz : Nat} {z : Opd} {lo hi : Option Opd} : OpWp E (.sl sz z lo hi) s K ↔ Some2 (slA s.hp sz (val s.tm z) (lo.map (val s.tm)) (hi.map (val s.tm))) K := OpWp.plain_iff rfl
theorem w_app {sz by_ : Nat} {z u : Opd} : OpWp E (.app sz by_ z u) s K ↔ Some2 (appA s.hp sz by_ (val s.tm z) (val s.tm u)) K := OpWp.plain_iff rfl
theorem w_mkmap : OpWp E .mkmap s K ↔ K (.map s.hp.next) (s.hp.push fun t => .amap [] t) := OpWp.plain_iff rfl
theorem w_mupd {z u w : Opd} : OpWp E (.mupd z u w) s K ↔ Some2 (o_mupd z u w (val s.tm) s.hp) K := OpWp.plain_iff rfl
theorem w_lkp {z u : Opd} {w : AV} {ok : Bool} : OpWp E (.lkp z u w ok) s K ↔ Some2 (o_lkp z u w ok (val s.tm) s.hp) K := OpWp.plain_iff rfl
theorem w_rng {z : Opd} : OpWp E (.rng z) s K ↔ Some2 (o_rng z (val s.tm) s.hp) K := OpWp.plain_iff rfl
theorem w_nxt {z : Opd} : OpWp E (.nxt z) s K ↔ Some2 (o_nxt z (val s.tm) s.hp) K := OpWp.plain_iff rfl
/-! Strings. -/
def slsK (x : AV) (lo hi : Option AV) : Option AV :=
  match x with
  | .str s => slsA s lo hi
  | _ => none
theorem w_sls {z : Opd} {lo hi : Option Opd} : OpWp E (.sls z lo hi) s K ↔ Some1 (slsK (val s.tm z) (lo.map (val s.tm)) (hi.map (val s.tm))) s.hp K := by
  rw [OpWp.plain_iff rfl]
  simp only [aop, o_sls, Some1]
  cases hz : val s.tm z <;> try exact Iff.rfl
  rename_i l
  simp only [slsK]
  cases slsA l (lo.map (val s.tm)) (hi.map (val s.tm)) <;> exact Iff.rfl
theorem slsK_lo {l : List UInt8} (h0 : 0 ≤ i ∧ i ≤ l.length) : slsK (.str l) (some (.int k i)) none = some (.str (l.drop i.toNat)) := by
  simp only [slsK, slsA, bound]
  rw [if_pos (by omega), List.take_of_length_le (Nat.le_refl _)]
theorem slsK_hi {l : List UInt8} (h0 : 0 ≤ i ∧ i ≤ l.length) : slsK (.str l) none (some (.int k i)) = some (.str (l.take i.toNat)) := by
  simp only [slsK, slsA, bound]
  rw [if_pos (by omega)]
  simp
theorem slsK_lh {l : List UInt8} {k' : IntKind} (h0 : 0 ≤ i ∧ i ≤ j ∧ j ≤ l.length) : slsK (.str l) (some (.int k i)) (some (.int k' j)) = some (.str ((l.take j.toNat).drop i.toNat)) := by
  simp only [slsK, slsA, bound]
  rw [if_pos (by omega)]
  simp only
  rw [if_pos (by omega)]
def idxK (x y : AV) : Option AV :=
  match x, y with
  | .str s, .int _ i => if 0 ≤ i ∧ i < s.length then some (.int .u8 ((s.getD i.toNat 0).toNat : Int)) else none
  | _, _ => none
theorem idxK_str {l : List UInt8} (h0 : 0 ≤ i ∧ i < l.length) : idxK (.str l) (.int k i) = some (.int .u8 ((l.getD i.toNat 0).toNat : Int)) := if_pos h0
theorem w_idxs {z u : Opd} : OpWp E (.idxs z u) s K ↔ Some1 (idxK (val s.tm z) (val s.tm u)) s.hp K := by
  rw [OpWp.plain_iff rfl]
  simp only [aop, o_idxs, Some1]
  cases hz : val s.tm z <;> try exact Iff.rfl
  rename_i l
  cases hu : val s.tm u <;> try exact Iff.rfl
  rename_i k i
  simp only [idxK]
  by_cases h1 : 0 ≤ i
  · rw [if_pos h1]
    by_cases h2 : i < l.length
    · rw [if_pos ⟨h1, h2⟩]
      obtain ⟨b, hb⟩ : ∃ b, l[i.toNat]? = some b := ⟨l[i.toNat], List.getElem?_eq_getElem (by omega)⟩
      rw [hb, List.getD_eq_getElem?_getD, hb]; exact Iff.rfl
    · rw [if_neg (fun e => h2 e.2), List.getElem?_eq_none (by omega)]; exact Iff.rfl
  · rw [if_neg h1, if_neg (fun e => h1 e.1)]; exact Iff.rfl
/-! Lengths, tuples, structs. -/
def lenK (q : LenK) (x : AV) : Option AV :=
  match q, x with
  | .str, .str s => some (.int .i64 s.length)
  | .slice, .sl _ _ n _ => some (.int .i64 n)
  | .slice, .nils => some (.int .i64 0)
  | .arr n, _ => some (.int .i64 n)
  | _, _ => none
theorem lenK_str {l : List UInt8} : lenK .str (.str l) = some (.int .i64 l.length) := rfl
theorem lenK_sl {t p l z : Nat} : lenK .slice (.sl t p l z) = some (.int .i64 l) := rfl
theorem lenK_nils : lenK .slice .nils = some (.int .i64 0) := rfl
theorem lenK_arr {l : Nat} : lenK (.arr l) x = some (.int .i64 l) := by cases x <;> rfl
theorem w_len {q : LenK} {z : Opd} : OpWp E (.len q z) s K ↔ Some1 (lenK q (val s.tm z)) s.hp K := by
  rw [OpWp.plain_iff rfl]
  simp only [aop, o_len, Some1]
  cases q <;> cases val s.tm z <;> exact Iff.rfl
def extK (x : AV) (i : Nat) : Option AV :=
  match x with
  | .tup l => l[i]?
  | _ => none
theorem extK_0 {l : List AV} : extK (.tup (x :: l)) 0 = some x := rfl
theorem extK_1 {l : List AV} : extK (.tup (x :: y :: l)) 1 = some y := rfl
theorem extK_2 {l : List AV} : extK (.tup (x :: y :: v :: l)) 2 = some v := rfl
theorem w_ext {z : Opd} {t : Nat} : OpWp E (.ext z t) s K ↔ Some1 (extK (val s.tm z) t) s.hp K := by
  rw [OpWp.plain_iff rfl]
  simp only [aop, o_ext, Some1]
  cases hz : val s.tm z <;> try exact Iff.rfl
  rename_i l
  simp only [extK]
  cases l[t]? <;> exact Iff.rfl
def fldK (ag : Bool) (off l : Nat) (x : AV) : Option AV :=
  match x with
  | .agg cs => if off + l ≤ cs.length then (if ag then some (.agg ((cs.drop off).take l)) else cs[off]?) else none
  | _ => none
theorem w_fld {ag : Bool} {off l : Nat} {z : Opd} : OpWp E (.fld ag off l z) s K ↔ Some1 (fldK ag off l (val s.tm z)) s.hp K := by
  rw [OpWp.plain_iff rfl]
  simp only [aop, o_fld, Some1]
  cases hz : val s.tm z <;> try exact Iff.rfl
  rename_i cs
  simp only [fldK]
  split
  · split
    · exact Iff.rfl
    · cases cs[off]? <;> exact Iff.rfl
  · exact Iff.rfl
theorem fldK_one {cs : List AV} {off : Nat} (hc : cs[off]? = some v) : fldK false off 1 (.agg cs) = some v := by
  have hl : off < cs.length := by
    rcases Nat.lt_or_ge off cs.length with h | h
    · exact h
    · rw [List.getElem?_eq_none h] at hc; cases hc
  simp only [fldK, if_pos (show off + 1 ≤ cs.length by omega), hc, Bool.false_eq_true, if_false]
theorem fldK_0 {l : List AV} : fldK false 0 1 (.agg (x :: l)) = some x := fldK_one rfl
theorem fldK_1 {z : AV} {l : List AV} : fldK false 1 1 (.agg (z :: x :: l)) = some x := fldK_one rfl
theorem fldK_2 {z u : AV} {l : List AV} : fldK false 2 1 (.agg (z :: u :: x :: l)) = some x := fldK_one rfl
theorem fldK_3 {z u w : AV} {l : List AV} : fldK false 3 1 (.agg (z :: u :: w :: x :: l)) = some x := fldK_one rfl
theorem fldK_4 {z u w w' : AV} {l : List AV} : fldK false 4 1 (.agg (z :: u :: w :: w' :: x :: l)) = some x := fldK_one rfl
/-! Memory. -/
def fadrK (off : Nat) (x : AV) : Option AV :=
  match x with
  | .ptr t p => some (.ptr t (p + off))
  | _ => none
theorem fadrK_ptr {t p off : Nat} : fadrK off (.ptr t p) = some (.ptr t (p + off)) := rfl
theorem w_fadr {off : Nat} {z : Opd} : OpWp E (.fadr off z) s K ↔ Some1 (fadrK off (val s.tm z)) s.hp K := by
  rw [OpWp.plain_iff rfl]
  simp only [aop, o_fadr, Some1]
  cases val s.tm z <;> exact Iff.rfl
def iadrK (sz : Nat) (x y : AV) : Option AV :=
  match x, y with
  | .sl t p n _, .int _ i => if 0 ≤ i ∧ i < (n : Int) then some (.ptr t (p + i.toNat * sz)) else none
  | _, _ => none
theorem iadrK_sl {sz t p l z : Nat} (h0 : 0 ≤ i ∧ i < (l : Int)) : iadrK sz (.sl t p l z) (.int k i) = some (.ptr t (p + i.toNat * sz)) := if_pos h0
theorem w_iadr {sz : Nat} {z u : Opd} : OpWp E (.iadr sz z u) s K ↔ Some1 (iadrK sz (val s.tm z) (val s.tm u)) s.hp K := by
  rw [OpWp.plain_iff rfl]
  simp only [aop, o_iadr, Some1]
  cases hz : val s.tm z <;> try exact Iff.rfl
  cases hu : val s.tm u <;> try exact Iff.rfl
  simp only [iadrK]
  split <;> exact Iff.rfl
def iadrAK (sz l : Nat) (x y : AV) : Option AV :=
  match x, y with
  | .ptr t p, .int _ i => if 0 ≤ i ∧ i < (l : Int) then some (.ptr t (p + i.toNat * sz)) else none
  | _, _ => none
theorem iadrAK_ptr {sz t p l : Nat} (h0 : 0 ≤ i ∧ i < (l : Int)) : iadrAK sz l (.ptr t p) (.int k i) = some (.ptr t (p + i.toNat * sz)) := if_pos h0
theorem w_iadrA {sz l : Nat} {z u : Opd} : OpWp E (.iadrA sz l z u) s K ↔ Some1 (iadrAK sz l (val s.tm z) (val s.tm u)) s.hp K := by
  rw [OpWp.plain_iff rfl]
  simp only [aop, o_iadrA, Some1]
  cases hz : val s.tm z <;> try exact Iff.rfl
  cases hu : val s.tm u <;> try exact Iff.rfl
  simp only [iadrAK]
  split <;> exact Iff.rfl
def LoadK (ag : Bool) (l : Nat) (x : AV) (h : Hp) (K : AV → Hp → Prop) : Prop :=
  match x with
  | .ptr t p => match h.get t with
    | some (.row cs _ _) => Some1 (if p + l ≤ cs.length then (if ag then some (.agg ((cs.drop p).take l)) else cs[p]?) else none) h K
    | _ => False
  | _ => False
theorem w_load {ag : Bool} {l : Nat} {z : Opd} : OpWp E (.load ag l z) s K ↔ LoadK ag l (val s.tm z) s.hp K := by
  rw [OpWp.plain_iff rfl]
  simp only [aop, o_load, LoadK]
  cases hz : val s.tm z <;> try exact Iff.rfl
  rename_i t p
  simp only
  cases hg : s.hp.get t <;> try exact Iff.rfl
  rename_i ob
  cases ob <;> try exact Iff.rfl
  rename_i cs own st
  simp only
  split
  · split
    · exact Iff.rfl
    · cases cs[p]? <;> exact Iff.rfl
  · exact Iff.rfl
theorem LoadK.one {t p st : Nat} {cs : List AV} {own : Bool} (hg : h.get t = some (.row cs own st)) (hc : cs[p]? = some v) : LoadK false 1 (.ptr t p) h K ↔ K v h := by
  have hl : p < cs.length := by
    rcases Nat.lt_or_ge p cs.length with h | h
    · exact h
    · rw [List.getElem?_eq_none h] at hc; cases hc
  simp only [LoadK, hg, if_pos (show p + 1 ≤ cs.length by omega), hc, Bool.false_eq_true, if_false]; exact Iff.rfl
theorem LoadK.agg {t p l st : Nat} {cs : List AV} {own : Bool} (hg : h.get t = some (.row cs own st)) (hc : p + l ≤ cs.length) : LoadK true l (.ptr t p) h K ↔ K (.agg ((cs.drop p).take l)) h := by
  simp only [LoadK, hg, if_pos hc, if_true]; exact Iff.rfl
theorem w_store {l : Nat} {z u : Opd} : OpWp E (.store l z u) s K ↔ Some2 (o_store l z u (val s.tm) s.hp) K := OpWp.plain_iff rfl
def StoreK (l : Nat) (x y : AV) (h : Hp) (K : AV → Hp → Prop) : Prop :=
  match x with
  | .ptr t p => match h.get t with
    | some (.row cs true _) => y.cells.length = l ∧ p + l ≤ cs.length ∧ y.cells.all AV.one = true ∧ K und (h.put t fun st => .row (splice cs p y.cells) true st)
    | _ => False
  | _ => False
theorem w_storeK {l : Nat} {z u : Opd} : OpWp E (.store l z u) s K ↔ StoreK l (val s.tm z) (val s.tm u) s.hp K := by
  rw [OpWp.plain_iff rfl]
  simp only [aop, o_store, StoreK]
  cases hz : val s.tm z <;> try exact Iff.rfl
  rename_i t p
  simp only
  cases hg : s.hp.get t <;> try exact Iff.rfl
  rename_i ob
  cases ob <;> try exact Iff.rfl
  rename_i cs own st
  cases own <;> try exact Iff.rfl
  simp only
  split
  · rename_i hc; simp only [hc, true_and]; exact Iff.rfl
  · rename_i hc
    simp only [Some2, false_iff]
    exact fun e => hc ⟨e.1, e.2.1, e.2.2.1⟩
theorem splice_one : ∀ {cs : List AV} {p : Nat}, p < cs.length → splice cs p [v] = cs.set p v
  | [], p, h => absurd h (Nat.not_lt_zero _)
  | c :: cs, 0, h => by simp [splice]
  | c :: cs, p + 1, h => by
    have := splice_one (cs := cs) (p := p) (Nat.lt_of_succ_lt_succ h)
    simp only [splice, List.length_cons, List.length_nil, Nat.zero_add] at this ⊢
    simp only [List.take_succ_cons, List.cons_append, List.set_cons_succ, ← this]
    rw [show p + 1 + 1 = (p + 1) + 1 from rfl, List.drop_succ_cons]
theorem StoreK.one {t p st : Nat} {cs : List AV} (hg : h.get t = some (.row cs true st)) (hp : p < cs.length) (hy : y.cells = [y]) (ho : y.one = true) :
    StoreK 1 (.ptr t p) y h K ↔ K und (h.put t fun st => .row (cs.set p y) true st) := by
  simp only [StoreK, hg, hy]
  rw [splice_one hp]
  simp [ho, show p + 1 ≤ cs.length by omega]
theorem Hp.push_next {f : Nat → AObj} : (h.push f).next = h.next + 1 := rfl
theorem Hp.put_next {t : Nat} {f : Nat → AObj} : (h.put t f).next = h.next := rfl
theorem Hp.push_clk {f : Nat → AObj} : (h.push f).clk = h.clk + 1 := rfl
theorem Hp.put_clk {t : Nat} {f : Nat → AObj} : (h.put t f).clk = h.clk + 1 := rfl
theorem Hp.push_same {f : Nat → AObj} : (h.push f).get h.next = some (f (h.clk + 1)) := by rw [Hp.get_push, if_pos rfl]
theorem Hp.put_same {t : Nat} {f : Nat → AObj} : (h.put t f).get t = some (f (h.clk + 1)) := by rw [Hp.get_put, if_pos rfl]
theorem Hp.push_other {t : Nat} {f : Nat → AObj} (ht : t ≠ h.next) : (h.push f).get t = h.get t := by rw [Hp.get_push, if_neg ht]
theorem Hp.put_other {t u : Nat} {f : Nat → AObj} (ht : t ≠ u) : (h.put u f).get t = h.get t := by rw [Hp.get_put, if_neg ht]
/-! Numbers. -/
theorem b_add {q : EqK} : binA .add q (.int k m) (.int k n) = some (.int k (k.wrap (m + n))) := by simp [binA, intA, intA1, sameK_eq, addI_eq, mkInt_eq]
theorem b_sub {q : EqK} : binA .sub q (.int k m) (.int k n) = some (.int k (k.wrap (m - n))) := by simp [binA, intA, intA1, sameK_eq, subI_eq, mkInt_eq]
theorem b_mul {q : EqK} : binA .mul q (.int k m) (.int k n) = some (.int k (k.wrap (m * n))) := by simp [binA, intA, intA1, sameK_eq, mulI_eq, mkInt_eq]
theorem b_quo {q : EqK} (hn : n ≠ 0) : binA .quo q (.int k m) (.int k n) = some (.int k (k.wrap (m.tdiv n))) := by
  have : (n == 0) = false := beq_eq_false_iff_ne.2 hn
  simp [binA, intA, intA1, sameK_eq, quoI_eq, mkInt_eq, eqI_eq, this]
theorem b_quoP {q : EqK} (hn : 0 ≤ m ∧ 0 < n) : binA .quo q (.int k m) (.int k n) = some (.int k (k.wrap (m / n))) := by
  rw [b_quo (by omega), Int.tdiv_eq_ediv_of_nonneg hn.1]
theorem b_rem {q : EqK} (hn : n ≠ 0) : binA .rem q (.int k m) (.int k n) = some (.int k (m.tmod n)) := by
  have : (n == 0) = false := beq_eq_false_iff_ne.2 hn
  simp [binA, intA, intA1, sameK_eq, remI_eq, litI_eq, eqI_eq, this]
theorem b_remP {q : EqK} (hn : 0 ≤ m ∧ 0 < n) : binA .rem q (.int k m) (.int k n) = some (.int k (m % n)) := by
  rw [b_rem (by omega), Int.tmod_eq_emod_of_nonneg hn.1]
theorem b_eql {q : EqK} : binA .eql q (.int k m) (.int k n) = some (.bool (decide (m = n))) := by
  simp only [binA, intA, intA1, sameK_eq, eqI_eq, decide_true]
  by_cases hc : m = n <;> simp [hc]
theorem b_neq {q : EqK} : binA .neq q (.int k m) (.int k n) = some (.bool (decide (¬ m = n))) := by
  simp only [binA, intA, intA1, sameK_eq, eqI_eq, decide_true]
  by_cases hc : m = n <;> simp [hc]
theorem b_lss {q : EqK} : binA .lss q (.int k m) (.int k n) = some (.bool (decide (m < n))) := by simp [binA, intA, intA1, sameK_eq, ltI_eq]
theorem b_leq {q : EqK} : binA .leq q (.int k m) (.int k n) = some (.bool (decide (m ≤ n))) := by simp [binA, intA, intA1, sameK_eq, leI_eq]
theorem b_gtr {q : EqK} : binA .gtr q (.int k m) (.int k n) = some (.bool (decide (n < m))) := by simp [binA, intA, intA1, sameK_eq, ltI_eq]
theorem b_geq {q : EqK} : binA .geq q (.int k m) (.int k n) = some (.bool (decide (n ≤ m))) := by simp [binA, intA, intA1, sameK_eq, leI_eq]
theorem b_sadd {q : EqK} {l l' : List UInt8} (hl : (l.length : Int) + l'.length ≤ 9223372036854775807) : binA .add q (.str l) (.str l') = some (.str (l ++ l')) := by
  have hm : IntKind.i64.max = 9223372036854775807 := rfl
  simp only [binA, strA]
  rw [if_neg (by rw [hm]; omega)]
theorem b_seql {q : EqK} {l l' : List UInt8} : binA .eql q (.str l) (.str l') = some (.bool (decide (l = l'))) := by
  simp only [binA, strA]; congr 2; rw [Bool.eq_iff_iff]; simp
theorem b_sneq {q : EqK} {l l' : List UInt8} : binA .neq q (.str l) (.str l') = some (.bool (decide (¬ l = l'))) := by
  simp only [binA, strA]; congr 2; rw [Bool.eq_iff_iff]; simp
theorem b_inil : binA .eql .iface .nili .nili = some (.bool true) := rfl
theorem u_not {b : Bool} : unA .not (.bool b) = some (.bool (!b)) := rfl
theorem u_neg : unA .neg (.int k n) = some (.int k (k.wrap (-n))) := by simp [unA, subI_eq, mkInt_eq]
theorem wrap_i64 (hn : -9223372036854775808 ≤ n ∧ n ≤ 9223372036854775807) : IntKind.wrap .i64 n = n := IntWalk.i64_in n hn
theorem wrap_u64 (hn : 0 ≤ n ∧ n ≤ 18446744073709551615) : IntKind.wrap .u64 n = n := IntWalk.u64_in n hn
theorem wrap_u8 (hn : 0 ≤ n ∧ n ≤ 255) : IntKind.wrap .u8 n = n := IntWalk.u8_in n hn
theorem wrap_i32 (hn : -2147483648 ≤ n ∧ n ≤ 2147483647) : IntKind.wrap .i32 n = n := IntWalk.i32_in n hn
theorem w_mx {xs : List Opd} : OpWp E (.mx xs) s K ↔ Some2 (o_mx xs (val s.tm) s.hp) K := OpWp.plain_iff rfl
theorem w_mn {xs : List Opd} : OpWp E (.mn xs) s K ↔ Some2 (o_mn xs (val s.tm) s.hp) K := OpWp.plain_iff rfl
theorem w_mx2 {z u : Opd} : OpWp E (.mx [z, u]) s K ↔ Some1 (max2A (val s.tm z) (val s.tm u)) s.hp K := by
  rw [w_mx]
  simp only [o_mx, List.map_cons, List.map_nil, foldA]
  cases max2A (val s.tm z) (val s.tm u) <;> exact Iff.rfl
theorem w_mn2 {z u : Opd} : OpWp E (.mn [z, u]) s K ↔ Some1 (min2A (val s.tm z) (val s.tm u)) s.hp K := by
  rw [w_mn]
  simp only [o_mn, List.map_cons, List.map_nil, foldA]
  cases min2A (val s.tm z) (val s.tm u) <;> exact Iff.rfl
theorem max2A_int : max2A (.int k m) (.int k n) = some (.int k (max m n)) := by
  simp only [max2A, ltI_eq]
  by_cases hc : m < n
  · simp [hc, show max m n = n by omega]
  · simp [hc, show max m n = m by omega]
theorem min2A_int : min2A (.int k m) (.int k n) = some (.int k (min m n)) := by
  simp only [min2A, ltI_eq]
  by_cases hc : n < m
  · simp [hc, show min m n = n by omega]
  · simp [hc, show min m n = m by omega]
/-- What a call gives, out of its walk. -/
theorem CallWp.iff_of {f : Nat} {args : List AV} (hc : CallWp E f args h fun v' h'' => v' = v ∧ h'' = h') : CallWp E f args h K ↔ K v h' := by
  obtain ⟨v', h'', hc, rfl, rfl⟩ := hc
  exact CallWp.det hc
/-! Cells. -/
theorem cells_int : (AV.int k n).cells = [.int k n] := rfl
theorem cells_bool {b : Bool} : (AV.bool b).cells = [.bool b] := rfl
theorem cells_str {l : List UInt8} : (AV.str l).cells = [.str l] := rfl
theorem cells_ptr {t p : Nat} : (AV.ptr t p).cells = [.ptr t p] := rfl
theorem cells_sl {t p l z : Nat} : (AV.sl t p l z).cells = [.sl t p l z] := rfl
theorem cells_nils : AV.nils.cells = [.nils] := rfl
theorem cells_fn {f : Nat} {l : List AV} : (AV.fn f l).cells = [.fn f l] := rfl
theorem cells_agg {l : List AV} : (AV.agg l).cells = l := rfl
theorem one_int : (AV.int k n).one = true := rfl
theorem one_bool {b : Bool} : (AV.bool b).one = true := rfl
theorem one_str {l : List UInt8} : (AV.str l).one = true := rfl
theorem one_ptr {t p : Nat} : (AV.ptr t p).one = true := rfl
theorem one_sl {t p l z : Nat} : (AV.sl t p l z).one = true := rfl
theorem one_nils : AV.nils.one = true := rfl
theorem one_fn {f : Nat} {l : List AV} : (AV.fn f l).one = true := rfl
end
end Go.Ae
