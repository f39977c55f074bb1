/- The abstract evaluator: how it compiles a function, and what its values and its heap stand for. -/
import Derived.Test.YtdaggbpeoldmeaaGreatDoorA1
import Derived.Deep.MidRow
import Derived.Deep.AppendSrc
import Derived.Below
set_option linter.unusedVariables false
set_option linter.unusedSimpArgs false
namespace Go.Ae

/-! ### What stands for what -/
structure Place where
  b : Nat
  o : Nat
  c : Nat
  sz : Nat
abbrev Rho := Nat → Place
mutual
def enc (ρ : Rho) : AV → Value
  | .int k n => .int k n
  | .bool b => .bool b
  | .str s => .string ⟨s.toArray⟩
  | .ptr t o => .pointer (some ⟨(ρ t).b, (ρ t).o + o, none⟩)
  | .nilp => .pointer none
  | .sl t o n z => .slice (some ⟨(ρ t).b, (ρ t).o + o, none⟩) n ((ρ t).c - o / z)
  | .nils => .slice none 0 0
  | .fn f cap => .func (.func f) #[] (encs ρ cap).toArray
  | .nilf => .nilFunc
  | .ifc T v => .iface T (enc ρ v)
  | .nili => .nilIface
  | .map t => .map (some (ρ t).b)
  | .nilm => .map none
  | .agg l => .agg (encs ρ l).toArray
  | .tup l => .tuple (encs ρ l).toArray
def encs (ρ : Rho) : List AV → List Value
  | [] => []
  | x :: l => enc ρ x :: encs ρ l
end
mutual
/-- Its tokens are below N, and what it says of a slice's room is so. -/
def ok (ρ : Rho) (N : Nat) : AV → Prop
  | .ptr t _ => t < N
  | .sl t o n z => t < N ∧ z = (ρ t).sz ∧ 0 < z ∧ o % z = 0 ∧ o / z + n ≤ (ρ t).c
  | .map t => t < N
  | .fn _ cap => oks ρ N cap
  | .ifc _ v => ok ρ N v
  | .agg l => oks ρ N l
  | .tup l => oks ρ N l
  | _ => True
def oks (ρ : Rho) (N : Nat) : List AV → Prop
  | [] => True
  | x :: l => ok ρ N x ∧ oks ρ N l
end
theorem encs_map (ρ : Rho) : ∀ l, encs ρ l = l.map (enc ρ)
  | [] => by simp [encs]
  | x :: l => by simp [encs, encs_map ρ l]
theorem oks_iff (ρ : Rho) (N : Nat) : ∀ l, oks ρ N l ↔ ∀ v ∈ l, ok ρ N v
  | [] => by simp [oks]
  | x :: l => by simp [oks, oks_iff ρ N l]
theorem encs_length (ρ : Rho) (l : List AV) : (encs ρ l).length = l.length := by simp [encs_map]
theorem enc_und (ρ : Rho) : enc ρ und = undef := by simp [enc, encs, undef]
def Agree (N : Nat) (ρ ρ' : Rho) : Prop := ∀ t, t < N → ρ' t = ρ t
theorem Agree.refl (N : Nat) (ρ : Rho) : Agree N ρ ρ := fun _ _ => rfl
theorem Agree.trans {N N' : Nat} {ρ ρ' ρ'' : Rho} (h : Agree N ρ ρ') (h' : Agree N' ρ' ρ'') (hN : N ≤ N') : Agree N ρ ρ'' :=
  fun t ht => (h' t (by omega)).trans (h t ht)
mutual
theorem enc_agree {N : Nat} {ρ ρ' : Rho} (h : Agree N ρ ρ') : ∀ (v : AV), ok ρ N v → enc ρ' v = enc ρ v
  | .int _ _, _ => by simp [enc]
  | .bool _, _ => by simp [enc]
  | .str _, _ => by simp [enc]
  | .ptr t o, hv => by simp only [ok] at hv; simp [enc, h t hv]
  | .nilp, _ => by simp [enc]
  | .sl t o n z, hv => by simp only [ok] at hv; simp [enc, h t hv.1]
  | .nils, _ => by simp [enc]
  | .fn f cap, hv => by simp only [ok] at hv; simp [enc, encs_agree h cap hv]
  | .nilf, _ => by simp [enc]
  | .ifc T v, hv => by simp only [ok] at hv; simp [enc, enc_agree h v hv]
  | .nili, _ => by simp [enc]
  | .map t, hv => by simp only [ok] at hv; simp [enc, h t hv]
  | .nilm, _ => by simp [enc]
  | .agg l, hv => by simp only [ok] at hv; simp [enc, encs_agree h l hv]
  | .tup l, hv => by simp only [ok] at hv; simp [enc, encs_agree h l hv]
theorem encs_agree {N : Nat} {ρ ρ' : Rho} (h : Agree N ρ ρ') : ∀ (l : List AV), oks ρ N l → encs ρ' l = encs ρ l
  | [], _ => by simp [encs]
  | x :: l, hv => by simp only [oks] at hv; simp [encs, enc_agree h x hv.1, encs_agree h l hv.2]
end
mutual
theorem ok_agree {N N' : Nat} {ρ ρ' : Rho} (h : Agree N ρ ρ') (hN : N ≤ N') : ∀ (v : AV), ok ρ N v → ok ρ' N' v
  | .int _ _, _ => by simp [ok]
  | .bool _, _ => by simp [ok]
  | .str _, _ => by simp [ok]
  | .ptr t o, hv => by simp only [ok] at hv ⊢; omega
  | .nilp, _ => by simp [ok]
  | .sl t o n z, hv => by simp only [ok] at hv ⊢; rw [h t hv.1]; exact ⟨by omega, hv.2⟩
  | .nils, _ => by simp [ok]
  | .fn f cap, hv => by simp only [ok] at hv ⊢; exact oks_agree h hN cap hv
  | .nilf, _ => by simp [ok]
  | .ifc T v, hv => by simp only [ok] at hv ⊢; exact ok_agree h hN v hv
  | .nili, _ => by simp [ok]
  | .map t, hv => by simp only [ok] at hv ⊢; omega
  | .nilm, _ => by simp [ok]
  | .agg l, hv => by simp only [ok] at hv ⊢; exact oks_agree h hN l hv
  | .tup l, hv => by simp only [ok] at hv ⊢; exact oks_agree h hN l hv
theorem oks_agree {N N' : Nat} {ρ ρ' : Rho} (h : Agree N ρ ρ') (hN : N ≤ N') : ∀ (l : List AV), oks ρ N l → oks ρ' N' l
  | [], _ => by simp [oks]
  | x :: l, hv => by simp only [oks] at hv ⊢; exact ⟨ok_agree h hN x hv.1, oks_agree h hN l hv.2⟩
end
theorem enc_one (ρ : Rho) (v : AV) : (enc ρ v).oneCell' = v.one := by cases v <;> simp [enc, Value.oneCell', AV.one]
theorem enc_cells (ρ : Rho) (v : AV) : (enc ρ v).cells = (encs ρ v.cells).toArray := by cases v <;> simp [enc, Value.cells, AV.cells, encs]
theorem ok_cells {ρ : Rho} {N : Nat} {v : AV} (h : ok ρ N v) : oks ρ N v.cells := by
  cases v <;> first | exact ⟨h, trivial⟩ | exact h

/-! ### The heap -/
def AObj.owned : AObj → Bool
  | .row _ o _ => o
  | .dead _ => false
  | _ => true
structure RowRel (base : Nat) (ρ : Rho) (N : Nat) (w : World) (t : Nat) (cs : List AV) (own : Bool) : Prop where
  one : ∀ v ∈ cs, v.one = true
  ok : oks ρ N cs
  cells : w.rangeAt (ρ t).b (ρ t).o (encs ρ cs)
  own1 : own = true → base ≤ (ρ t).b ∧ (ρ t).b < w.heap.size ∧ w.there (ρ t).b (ρ t).o cs.length ∧ w.there (ρ t).b (ρ t).o ((ρ t).c * (ρ t).sz)
  not1 : own = false → cs = [] ∨ (ρ t).b < base
/-- The abstract heap h, its tokens at the places ρ, is told by the world w; what is owned lies in blocks from 'base' on. -/
structure HRel (base : Nat) (ρ : Rho) (h : Hp) (w : World) : Prop where
  size : base ≤ w.heap.size
  lt : ∀ t o, h.get t = some o → t < h.next
  row : ∀ t cs own st, h.get t = some (.row cs own st) → RowRel base ρ h.next w t cs own
  iter : ∀ t s p st, h.get t = some (.siter s p st) → base ≤ (ρ t).b ∧ (ρ t).o = 0 ∧ w.heap[(ρ t).b]? = some (.stringIter ⟨s.toArray⟩ p)
  map : ∀ t es st, h.get t = some (.amap es st) → base ≤ (ρ t).b ∧ (∀ e ∈ es, e.1.one = true ∧ ok ρ h.next e.1 ∧ ok ρ h.next e.2) ∧
    ∃ ms c, w.heap[(ρ t).b]? = some (.map ms c) ∧ ms.toList.map (fun m => (m.key, m.val)) = es.map (fun e => (enc ρ e.1, enc ρ e.2))
  apart : ∀ t t' o o', h.get t = some o → h.get t' = some o' → o.owned = true → o'.owned = true → t ≠ t' → (ρ t).b ≠ (ρ t').b
/-- What is not owned has not turned. -/
structure Keep (ρ : Rho) (h : Hp) (w w' : World) : Prop where
  os : w'.os = w.os
  tape : w'.tape = w.tape
  output : w'.output = w.output
  size : w.heap.size ≤ w'.heap.size
  block : ∀ k, k < w.heap.size → (∀ t o, h.get t = some o → o.owned = true → (ρ t).b ≠ k) → w'.heap[k]? = w.heap[k]?
def Fresh (ρ : Rho) (h : Hp) (w : World) (ρ' : Rho) (h' : Hp) : Prop :=
  ∀ t o, h'.get t = some o → o.owned = true → w.heap.size ≤ (ρ' t).b ∨ ∃ t0 o0, h.get t0 = some o0 ∧ o0.owned = true ∧ (ρ t0).b = (ρ' t).b
structure Ext (base : Nat) (ρ : Rho) (h : Hp) (w : World) (ρ' : Rho) (h' : Hp) (w' : World) : Prop where
  agree : Agree h.next ρ ρ'
  next : h.next ≤ h'.next
  rel : HRel base ρ' h' w'
  keep : Keep ρ h w w'
  fresh : Fresh ρ h w ρ' h'

theorem HRel.owned_lt {base : Nat} {ρ : Rho} {h : Hp} {w : World} (R : HRel base ρ h w) {t : Nat} {o : AObj} (ht : h.get t = some o) (ho : o.owned = true) : base ≤ (ρ t).b ∧ (ρ t).b < w.heap.size := by
  cases o with
  | row cs own st => exact ⟨((R.row t cs own st ht).own1 ho).1, ((R.row t cs own st ht).own1 ho).2.1⟩
  | dead st => simp [AObj.owned] at ho
  | siter s p st =>
    obtain ⟨h1, _, h2⟩ := R.iter t s p st ht
    exact ⟨h1, by rcases Nat.lt_or_ge (ρ t).b w.heap.size with c | c; exact c; simp [Array.getElem?_eq_none c] at h2⟩
  | amap es st =>
    obtain ⟨h1, _, ms, c, h2, _⟩ := R.map t es st ht
    exact ⟨h1, by rcases Nat.lt_or_ge (ρ t).b w.heap.size with c | c; exact c; simp [Array.getElem?_eq_none c] at h2⟩
theorem Keep.refl (ρ : Rho) (h : Hp) (w : World) : Keep ρ h w w := ⟨rfl, rfl, rfl, Nat.le_refl _, fun _ _ _ => rfl⟩
theorem Ext.refl {base : Nat} {ρ : Rho} {h : Hp} {w : World} (R : HRel base ρ h w) : Ext base ρ h w ρ h w :=
  ⟨Agree.refl _ _, Nat.le_refl _, R, Keep.refl _ _ _, fun t o ht ho => .inr ⟨t, o, ht, ho, rfl⟩⟩
theorem Ext.trans {base : Nat} {ρ ρ' ρ'' : Rho} {h h' h'' : Hp} {w w' w'' : World} (E : Ext base ρ h w ρ' h' w') (E' : Ext base ρ' h' w' ρ'' h'' w'') : Ext base ρ h w ρ'' h'' w'' where
  agree := E.agree.trans E'.agree E.next
  next := Nat.le_trans E.next E'.next
  rel := E'.rel
  keep := {
    os := E'.keep.os.trans E.keep.os
    tape := E'.keep.tape.trans E.keep.tape
    output := E'.keep.output.trans E.keep.output
    size := Nat.le_trans E.keep.size E'.keep.size
    block := fun k hk hn => (E'.keep.block k (Nat.lt_of_lt_of_le hk E.keep.size) (fun t o ht ho hb => by
      rcases E.fresh t o ht ho with c | ⟨t0, o0, h0, h1, h2⟩
      · omega
      · exact hn t0 o0 h0 h1 (h2.trans hb))).trans (E.keep.block k hk hn) }
  fresh := fun t o ht ho => by
    rcases E'.fresh t o ht ho with c | ⟨t0, o0, h0, h1, h2⟩
    · exact .inl (Nat.le_trans E.keep.size c)
    · rcases E.fresh t0 o0 h0 h1 with c | ⟨t1, o1, h3, h4, h5⟩
      · exact .inl (by omega)
      · exact .inr ⟨t1, o1, h3, h4, h5.trans h2⟩
theorem Keep.below {base : Nat} {ρ : Rho} {h : Hp} {w w' : World} (K : Keep ρ h w w') (R : HRel base ρ h w) : Go.RowKit.Below base w w' :=
  ⟨K.os, K.tape, K.output, K.size, fun k hk => K.block k (Nat.lt_of_lt_of_le hk R.size) (fun t o ht ho hb => by have := (R.owned_lt ht ho).1; omega)⟩
/-- A draw turns nothing. -/
theorem HRel.drawn {base : Nat} {ρ : Rho} {h : Hp} {w : World} (R : HRel base ρ h w) (d : Nat) : HRel base ρ h { w with drawn := d } :=
  ⟨R.size, R.lt, fun t cs own st ht => ⟨(R.row t cs own st ht).one, (R.row t cs own st ht).ok, (R.row t cs own st ht).cells, (R.row t cs own st ht).own1, (R.row t cs own st ht).not1⟩, R.iter, R.map, R.apart⟩
theorem Ext.drawn {base : Nat} {ρ : Rho} {h : Hp} {w : World} (R : HRel base ρ h w) (d : Nat) : Ext base ρ h w ρ h { w with drawn := d } :=
  ⟨Agree.refl _ _, Nat.le_refl _, R.drawn d, ⟨rfl, rfl, rfl, Nat.le_refl _, fun _ _ _ => rfl⟩, fun t o ht ho => .inr ⟨t, o, ht, ho, rfl⟩⟩

/-! ### Events -/
theorem cell_heap {w w' : World} {b o : Nat} (h : w'.heap[b]? = w.heap[b]?) : w'.cell? ⟨b, o, none⟩ = w.cell? ⟨b, o, none⟩ := by simp [World.cell?, h]
theorem rangeAt_heap {w w' : World} {b o : Nat} {cs : List Value} (h : w'.heap[b]? = w.heap[b]?) (k : w.rangeAt b o cs) : w'.rangeAt b o cs :=
  fun j v hv => (cell_heap h).trans (k j v hv)
theorem there_heap {w w' : World} {b o n : Nat} (h : w'.heap[b]? = w.heap[b]?) (k : w.there b o n) : w'.there b o n :=
  fun j hj => ⟨by rw [cell_heap h]; exact (k j hj).1, by simp only [World.frozen?, h]; exact (k j hj).2⟩
/-- An object whose block has not turned, in a later heap. -/
theorem RowRel.later {base : Nat} {ρ ρ' : Rho} {N N' : Nat} {w w' : World} {t : Nat} {cs : List AV} {own : Bool} (R : RowRel base ρ N w t cs own)
    (ha : Agree N ρ ρ') (hN : N ≤ N') (ht : t < N) (hs : w.heap.size ≤ w'.heap.size) (hb : cs = [] ∧ own = false ∨ w'.heap[(ρ t).b]? = w.heap[(ρ t).b]?) : RowRel base ρ' N' w' t cs own := by
  have e := ha t ht
  refine ⟨R.one, oks_agree ha hN _ R.ok, ?_, ?_, ?_⟩
  · rw [e, encs_agree ha _ R.ok]
    rcases hb with ⟨rfl, _⟩ | hb
    · intro j v hv; simp [encs] at hv
    · exact rangeAt_heap hb R.cells
  · intro ho
    rw [e]
    obtain ⟨h1, h2, h3, h4⟩ := R.own1 ho
    rcases hb with ⟨_, h⟩ | hb
    · rw [h] at ho; cases ho
    · exact ⟨h1, by omega, there_heap hb h3, there_heap hb h4⟩
  · intro ho; rw [e]; exact R.not1 ho
/-- A new token, whose object holds in the new world, the blocks of all others as they were. -/
theorem HRel.pushed {base : Nat} {ρ ρ' : Rho} {h : Hp} {w w' : World} (R : HRel base ρ h w) (o : Nat → AObj) (ha : Agree h.next ρ ρ')
    (hs : w.heap.size ≤ w'.heap.size) (hb : ∀ k, k < w.heap.size → w'.heap[k]? = w.heap[k]?)
    (hnew : match o (h.clk + 1) with
      | .row cs own _ => RowRel base ρ' (h.next + 1) w' h.next cs own ∧ (own = true → w.heap.size ≤ (ρ' h.next).b)
      | .dead _ => True
      | .siter s p _ => w.heap.size ≤ (ρ' h.next).b ∧ (ρ' h.next).o = 0 ∧ w'.heap[(ρ' h.next).b]? = some (.stringIter ⟨s.toArray⟩ p)
      | .amap es _ => w.heap.size ≤ (ρ' h.next).b ∧ es = [] ∧ w'.heap[(ρ' h.next).b]? = some (.map #[] 0)) : HRel base ρ' (h.push o) w' := by
  have hold : ∀ t ob, h.get t = some ob → t < h.next ∧ ρ' t = ρ t := fun t ob ht => ⟨R.lt t ob ht, ha t (R.lt t ob ht)⟩
  have hne : ∀ t ob, h.get t = some ob → t ≠ h.next := fun t ob ht => by have := R.lt t ob ht; omega
  have hblk : ∀ t ob, h.get t = some ob → ob.owned = true → w'.heap[(ρ t).b]? = w.heap[(ρ t).b]? := fun t ob ht ho => hb _ (R.owned_lt ht ho).2
  refine ⟨Nat.le_trans R.size hs, ?_, ?_, ?_, ?_, ?_⟩
  · intro t ob ht
    rw [Hp.get_push] at ht
    show t < h.next + 1
    split at ht
    · omega
    · have := R.lt t ob ht; omega
  · intro t cs own st ht
    rw [Hp.get_push] at ht
    split at ht
    · rename_i e; subst e
      have e1 : o (h.clk + 1) = .row cs own st := by simpa using ht
      rw [e1] at hnew
      exact hnew.1
    · have r := R.row t cs own st ht
      refine r.later ha (Nat.le_succ _) (R.lt _ _ ht) hs ?_
      cases own with
      | true => exact .inr (hblk t _ ht rfl)
      | false => rcases r.not1 rfl with c | c
                 · exact .inl ⟨c, rfl⟩
                 · exact .inr (hb _ (Nat.lt_of_lt_of_le c R.size))
  · intro t s p st ht
    rw [Hp.get_push] at ht
    split at ht
    · rename_i e; subst e
      have e1 : o (h.clk + 1) = .siter s p st := by simpa using ht
      rw [e1] at hnew
      exact ⟨Nat.le_trans R.size hnew.1, hnew.2.1, hnew.2.2⟩
    · have r := R.iter t s p st ht
      rw [(hold t _ ht).2, hblk t _ ht rfl]; exact r
  · intro t es st ht
    rw [Hp.get_push] at ht
    split at ht
    · rename_i e; subst e
      have e1 : o (h.clk + 1) = .amap es st := by simpa using ht
      rw [e1] at hnew
      obtain ⟨n1, rfl, n3⟩ := hnew
      exact ⟨Nat.le_trans R.size n1, by simp, #[], 0, n3, by simp⟩
    · obtain ⟨r1, r2, ms, c, r3, r4⟩ := R.map t es st ht
      rw [(hold t _ ht).2]
      refine ⟨r1, fun e he => ⟨(r2 e he).1, ok_agree ha (Nat.le_succ _) _ (r2 e he).2.1, ok_agree ha (Nat.le_succ _) _ (r2 e he).2.2⟩, ms, c, by rw [hblk t _ ht rfl]; exact r3, r4.trans ?_⟩
      exact List.map_congr_left fun e he => by rw [enc_agree ha _ (r2 e he).2.1, enc_agree ha _ (r2 e he).2.2]
  · have hn : ∀ ob, o (h.clk + 1) = ob → ob.owned = true → w.heap.size ≤ (ρ' h.next).b := by
      intro ob e ho
      rw [e] at hnew
      cases ob with
      | row cs own st => exact hnew.2 ho
      | dead st => simp [AObj.owned] at ho
      | siter s p st => exact hnew.1
      | amap es st => exact hnew.1
    intro t t' ob ob' ht ht' ho ho' hneq
    rw [Hp.get_push] at ht ht'
    split at ht <;> split at ht'
    · omega
    · rename_i e _; subst e
      have := hn ob (by simpa using ht) ho
      have := (R.owned_lt ht' ho').2
      rw [(hold t' _ ht').2]; omega
    · rename_i _ e; subst e
      have := hn ob' (by simpa using ht') ho'
      have := (R.owned_lt ht ho).2
      rw [(hold t _ ht).2]; omega
    · rw [(hold t _ ht).2, (hold t' _ ht').2]; exact R.apart t t' ob ob' ht ht' ho ho' hneq
theorem Ext.pushed {base : Nat} {ρ ρ' : Rho} {h : Hp} {w w' : World} (R : HRel base ρ h w) (o : Nat → AObj) (ha : Agree h.next ρ ρ')
    (hos : w'.os = w.os) (htp : w'.tape = w.tape) (hou : w'.output = w.output)
    (hs : w.heap.size ≤ w'.heap.size) (hb : ∀ k, k < w.heap.size → w'.heap[k]? = w.heap[k]?)
    (hnew : match o (h.clk + 1) with
      | .row cs own _ => RowRel base ρ' (h.next + 1) w' h.next cs own ∧ (own = true → w.heap.size ≤ (ρ' h.next).b)
      | .dead _ => True
      | .siter s p _ => w.heap.size ≤ (ρ' h.next).b ∧ (ρ' h.next).o = 0 ∧ w'.heap[(ρ' h.next).b]? = some (.stringIter ⟨s.toArray⟩ p)
      | .amap es _ => w.heap.size ≤ (ρ' h.next).b ∧ es = [] ∧ w'.heap[(ρ' h.next).b]? = some (.map #[] 0)) : Ext base ρ h w ρ' (h.push o) w' := by
  refine ⟨ha, Nat.le_succ _, R.pushed o ha hs hb hnew, ⟨hos, htp, hou, hs, fun k hk _ => hb k hk⟩, ?_⟩
  intro t ob ht ho
  rw [Hp.get_push] at ht
  split at ht
  · rename_i e; subst e
    have e1 : o (h.clk + 1) = ob := by simpa using ht
    rw [e1] at hnew
    cases ob with
    | row cs own st => exact .inl (hnew.2 ho)
    | dead st => simp [AObj.owned] at ho
    | siter s p st => exact .inl hnew.1
    | amap es st => exact .inl hnew.1
  · exact .inr ⟨t, ob, ht, ho, by rw [ha t (R.lt t ob ht)]⟩
def upd (ρ : Rho) (t : Nat) (p : Place) : Rho := fun x => if x = t then p else ρ x
theorem upd_agree (ρ : Rho) (N : Nat) (p : Place) : Agree N ρ (upd ρ N p) := fun t ht => by unfold upd; rw [if_neg (by omega)]
theorem upd_same (ρ : Rho) (N : Nat) (p : Place) : upd ρ N p N = p := by simp [upd]
theorem heap_push (w : World) (o : Obj) : (w.alloc o).heap[w.heap.size]? = some o := by
  show (w.heap.push o)[w.heap.size]? = some o
  simp
theorem heap_push_lt (w : World) (o : Obj) (k : Nat) (h : k < w.heap.size) : (w.alloc o).heap[k]? = w.heap[k]? := by
  show (w.heap.push o)[k]? = _
  rw [Array.getElem?_push, if_neg (by omega)]
/-- A new row of the call's own. -/
theorem Ext.newRow {base : Nat} {ρ : Rho} {h : Hp} {w : World} (R : HRel base ρ h w) (cs : List AV) (e : TypeId) (rest : List Value) (c sz : Nat) (h1 : ∀ v ∈ cs, v.one = true) (h2 : oks ρ h.next cs)
    (hc : c * sz ≤ cs.length + rest.length) (d : Nat) :
    Ext base ρ h w (upd ρ h.next ⟨w.heap.size, 0, c, sz⟩) (h.push fun s => .row cs true s) (({ w with drawn := d } : World).alloc (.cells (encs ρ cs ++ rest).toArray e)) := by
  have hag : Agree h.next ρ (upd ρ h.next ⟨w.heap.size, 0, c, sz⟩) := upd_agree _ _ _
  refine Ext.pushed R _ hag rfl rfl rfl (by show w.heap.size ≤ (w.heap.push _).size; simp) (fun k hk => heap_push_lt { w with drawn := d } _ k hk) ?_
  show RowRel base _ (h.next + 1) _ h.next cs true ∧ _
  rw [upd_same]
  have hcell : ∀ j, (({ w with drawn := d } : World).alloc (.cells (encs ρ cs ++ rest).toArray e)).cell? ⟨w.heap.size, 0 + j, none⟩ = (encs ρ cs ++ rest)[j]? := by
    intro j
    have := heap_push { w with drawn := d } (.cells (encs ρ cs ++ rest).toArray e)
    simp only [World.cell?]
    have e2 : (({ w with drawn := d } : World).alloc (.cells (encs ρ cs ++ rest).toArray e)).heap[w.heap.size]? = some (.cells (encs ρ cs ++ rest).toArray e) := this
    rw [e2]; simp
  have hfro : ∀ j, (({ w with drawn := d } : World).alloc (.cells (encs ρ cs ++ rest).toArray e)).frozen? ⟨w.heap.size, 0 + j, none⟩ = false := by
    intro j
    have := heap_push { w with drawn := d } (.cells (encs ρ cs ++ rest).toArray e)
    have e2 : (({ w with drawn := d } : World).alloc (.cells (encs ρ cs ++ rest).toArray e)).heap[w.heap.size]? = some (.cells (encs ρ cs ++ rest).toArray e) := this
    simp only [World.frozen?]; rw [e2]; simp
  have hth : ∀ n, n ≤ cs.length + rest.length → (({ w with drawn := d } : World).alloc (.cells (encs ρ cs ++ rest).toArray e)).there w.heap.size 0 n := by
    intro n hn j hj
    refine ⟨?_, hfro j⟩
    rw [hcell, List.getElem?_eq_getElem (by simp [encs_length]; omega)]; rfl
  refine ⟨⟨h1, oks_agree hag (Nat.le_succ _) _ h2, ?_, ?_, by simp⟩, fun _ => Nat.le_refl _⟩
  · rw [upd_same, encs_agree hag _ h2]
    intro j v hv
    rw [hcell, List.getElem?_append_left (by rw [List.getElem?_eq_some_iff] at hv; exact hv.1)]; exact hv
  · intro _
    rw [upd_same]
    exact ⟨R.size, by show w.heap.size < (w.heap.push _).size; simp, hth _ (by omega), hth _ hc⟩
end Go.Ae
