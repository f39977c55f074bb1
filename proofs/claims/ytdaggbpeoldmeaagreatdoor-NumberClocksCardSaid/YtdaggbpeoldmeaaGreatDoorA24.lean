/- The abstract evaluator: the library's functions of this program. -/
import Derived.Test.YtdaggbpeoldmeaaGreatDoorA23
import Derived.Test.YtdaggbpeoldmeaaGreatDoorProg
import Derived.Test.YtdaggbpeoldmeaaGreatDoorShelf
import Derived.Lib.AppendIntMem
import Derived.Shelf.Strings.SlTrimAscii
set_option linter.unusedVariables false
set_option linter.unusedSimpArgs false
set_option maxRecDepth 100000
namespace Go.Ae.L
open Go.Proofs Go.Ae
/-- What the start has laid, below 'base'. -/
structure Glob (W0 : World) (base : Nat) : Prop where
  size : base ≤ W0.heap.size
  pow10 : Lib.TabBelow Tryz.prog base W0 "internal/strconv.uint64pow10" .u64 Lib.pow10Tab
  maxlen : 0 < base ∧ ∃ m, W0.cell? ⟨0, 0, none⟩ = some (.int .i64 m)
section
variable {W0 : World} {base : Nat} {ρ : Rho} {h h' : Hp} {w w' : World} {v : AV} {args : List AV}
theorem Glob.ml (G : Glob W0 base) (B : Go.RowKit.Below base W0 w) : ∃ m, w.cell? ⟨0, 0, none⟩ = some (.int .i64 m) := by
  obtain ⟨h1, m, h2⟩ := G.maxlen
  exact ⟨m, (cell_heap (B.block 0 h1)).trans h2⟩
/-! strings.Cut -/
def p147 (args : List AV) (h : Hp) : Option (AV × Hp) :=
  match args with
  | [.str s, .str sep] => if s.length < 4294967281 then some (.tup [.str (Lib.cut s sep).1, .str (Lib.cut s sep).2.1, .bool (Lib.cut s sep).2.2], h) else none
  | _ => none
theorem e147 : canEnter Tryz.prog 147 = true := by kernel_rfl
theorem k147 (G : Glob W0 base) (hp : p147 args h = some (v, h')) (B : Go.RowKit.Below base W0 w) (R : HRel base ρ h w) : Does Tryz.prog base ρ h w (callFunc 147 (encs ρ args).toArray) v h' := by
  unfold p147 at hp
  split at hp
  · rename_i s sep
    split at hp
    · rename_i hs
      obtain ⟨rfl, rfl⟩ := pair_inj hp
      obtain ⟨m, hm⟩ := G.ml B
      refine Does.grown e147 R (by simp [ok, oks]) ?_
      refine (Tryz.strings_Cut ⟨s.toArray⟩ ⟨sep.toArray⟩ m w (by rw [ba_size]; exact hs) hm).mono ?_
      rintro e w' ⟨rfl, n, rfl⟩
      exact ⟨by simp [enc, encs], below_drewN w n⟩
    · cases hp
  · cases hp
/-! strings.HasPrefix -/
def p258 (args : List AV) (h : Hp) : Option (AV × Hp) :=
  match args with
  | [.str s, .str sep] => some (.bool (Lib.hasPrefix s sep), h)
  | _ => none
theorem e258 : canEnter Tryz.prog 258 = true := by kernel_rfl
theorem k258 (hp : p258 args h = some (v, h')) (R : HRel base ρ h w) : Does Tryz.prog base ρ h w (callFunc 258 (encs ρ args).toArray) v h' := by
  unfold p258 at hp
  split at hp
  · rename_i s sep
    obtain ⟨rfl, rfl⟩ := pair_inj hp
    refine Does.grown e258 R (by simp [ok, oks]) ?_
    refine (Tryz.strings_HasPrefix ⟨s.toArray⟩ ⟨sep.toArray⟩ w).mono ?_
    rintro e w' ⟨rfl, rfl⟩
    exact ⟨by simp [enc, encs], Go.RowKit.Below.refl _ _⟩
  · cases hp
/-! strings.TrimPrefix -/
def p259 (args : List AV) (h : Hp) : Option (AV × Hp) :=
  match args with
  | [.str s, .str sep] => some (.str (Lib.trimPrefix s sep), h)
  | _ => none
theorem e259 : canEnter Tryz.prog 259 = true := by kernel_rfl
theorem k259 (hp : p259 args h = some (v, h')) (R : HRel base ρ h w) : Does Tryz.prog base ρ h w (callFunc 259 (encs ρ args).toArray) v h' := by
  unfold p259 at hp
  split at hp
  · rename_i s sep
    obtain ⟨rfl, rfl⟩ := pair_inj hp
    refine Does.grown e259 R (by simp [ok, oks]) ?_
    refine (Tryz.strings_TrimPrefix ⟨s.toArray⟩ ⟨sep.toArray⟩ w).mono ?_
    rintro e w' ⟨rfl, rfl⟩
    exact ⟨by simp [enc, encs], Go.RowKit.Below.refl _ _⟩
  · cases hp
/-! strings.CutPrefix -/
def p188 (args : List AV) (h : Hp) : Option (AV × Hp) :=
  match args with
  | [.str s, .str sep] => some (.tup [.str (Lib.trimPrefix s sep), .bool (Lib.hasPrefix s sep)], h)
  | _ => none
theorem e188 : canEnter Tryz.prog 188 = true := by kernel_rfl
theorem k188 (hp : p188 args h = some (v, h')) (R : HRel base ρ h w) : Does Tryz.prog base ρ h w (callFunc 188 (encs ρ args).toArray) v h' := by
  unfold p188 at hp
  split at hp
  · rename_i s sep
    obtain ⟨rfl, rfl⟩ := pair_inj hp
    refine Does.grown e188 R (by simp [ok, oks]) ?_
    refine (Tryz.strings_CutPrefix ⟨s.toArray⟩ ⟨sep.toArray⟩ w).mono ?_
    rintro e w' ⟨rfl, rfl⟩
    exact ⟨by simp [enc, encs], Go.RowKit.Below.refl _ _⟩
  · cases hp
/-! strings.CutSuffix -/
def p239 (args : List AV) (h : Hp) : Option (AV × Hp) :=
  match args with
  | [.str s, .str sep] => if s.length < 9223372036854775807 then some (.tup [.str (Lib.trimSuffix s sep), .bool (Lib.hasSuffix s sep)], h) else none
  | _ => none
theorem e239 : canEnter Tryz.prog 239 = true := by kernel_rfl
theorem k239 (hp : p239 args h = some (v, h')) (R : HRel base ρ h w) : Does Tryz.prog base ρ h w (callFunc 239 (encs ρ args).toArray) v h' := by
  unfold p239 at hp
  split at hp
  · rename_i s sep
    split at hp
    · rename_i hs
      obtain ⟨rfl, rfl⟩ := pair_inj hp
      refine Does.grown e239 R (by simp [ok, oks]) ?_
      refine (Tryz.strings_CutSuffix ⟨s.toArray⟩ ⟨sep.toArray⟩ w (by rw [ba_size]; omega)).mono ?_
      rintro e w' ⟨rfl, rfl⟩
      exact ⟨by simp [enc, encs], Go.RowKit.Below.refl _ _⟩
    · cases hp
  · cases hp
/-! strings.Repeat -/
def p221 (args : List AV) (h : Hp) : Option (AV × Hp) :=
  match args with
  | [.str s, .int .i64 n] => if 0 ≤ n ∧ n ≤ 9223372036854775807 ∧ s.length * n.toNat ≤ 140737488355328 then some (.str (Lib.repeatL s n.toNat), h) else none
  | _ => none
theorem e221 : canEnter Tryz.prog 221 = true := by kernel_rfl
theorem k221 (hp : p221 args h = some (v, h')) (R : HRel base ρ h w) : Does Tryz.prog base ρ h w (callFunc 221 (encs ρ args).toArray) v h' := by
  unfold p221 at hp
  split at hp
  · rename_i s n
    split at hp
    · rename_i hs
      obtain ⟨h1, h2, h3⟩ := hs
      obtain ⟨m, rfl⟩ : ∃ m : Nat, n = m := ⟨n.toNat, by omega⟩
      obtain ⟨rfl, rfl⟩ := pair_inj hp
      refine Does.grown e221 R (by simp [ok, oks]) ?_
      refine (Tryz.strings_Repeat ⟨s.toArray⟩ m w (by omega) (by rw [ba_size]; simpa using h3)).mono ?_
      rintro e w' ⟨rfl, hB⟩
      exact ⟨by simp [enc, encs], hB⟩
    · cases hp
  · cases hp
/-! strconv.Atoi, of a number of up to 18 digits -/
def p224 (args : List AV) (h : Hp) : Option (AV × Hp) :=
  match args with
  | [.str s] => if s.length ≤ 18 then match Lib.atoi s with
      | some n => some (.tup [.int .i64 n, .nili], h)
      | none => none
    else none
  | _ => none
theorem e224 : canEnter Tryz.prog 224 = true := by kernel_rfl
theorem k224 (hp : p224 args h = some (v, h')) (R : HRel base ρ h w) : Does Tryz.prog base ρ h w (callFunc 224 (encs ρ args).toArray) v h' := by
  unfold p224 at hp
  split at hp
  · rename_i s
    split at hp
    · rename_i hs
      split at hp
      · rename_i n hn
        obtain ⟨rfl, rfl⟩ := pair_inj hp
        refine Does.grown e224 R (by simp [ok, oks]) ?_
        refine (Tryz.strconv_Atoi ⟨s.toArray⟩ n (by rw [ba_size]; exact hs) hn w).mono ?_
        rintro e w' ⟨rfl, t, rfl⟩
        exact ⟨by simp [enc, encs], ⟨rfl, rfl, rfl, by rw [Lib.bytesWorld_size]; omega, fun k hk => Lib.bytesWorld_at_old w 5 t k hk⟩⟩
      · cases hp
    · cases hp
  · cases hp
/-! strings.Split -/
noncomputable def p157 (args : List AV) (h : Hp) : Option (AV × Hp) :=
  match args with
  | [.str s, .str sep] => if s.length < 4294967281 ∧ 1 ≤ sep.length ∧ (Lib.splitB ⟨sep.toArray⟩ 0 (Lib.countB ⟨s.toArray⟩ ⟨sep.toArray⟩) ⟨s.toArray⟩).length = Lib.countB ⟨s.toArray⟩ ⟨sep.toArray⟩ + 1 then
      some (.sl h.next 0 (Lib.countB ⟨s.toArray⟩ ⟨sep.toArray⟩ + 1) 1, h.push fun st => .row ((Lib.splitB ⟨sep.toArray⟩ 0 (Lib.countB ⟨s.toArray⟩ ⟨sep.toArray⟩) ⟨s.toArray⟩).map fun b : ByteArray => AV.str b.data.toList) true st) else none
  | _ => none
theorem e157 : canEnter Tryz.prog 157 = true := by kernel_rfl
theorem k157 (G : Glob W0 base) (hp : p157 args h = some (v, h')) (B : Go.RowKit.Below base W0 w) (R : HRel base ρ h w) : Does Tryz.prog base ρ h w (callFunc 157 (encs ρ args).toArray) v h' := by
  unfold p157 at hp
  split at hp
  · rename_i s sep
    split at hp
    · rename_i hs
      obtain ⟨h1, h2, h3⟩ := hs
      obtain ⟨rfl, rfl⟩ := pair_inj hp
      obtain ⟨m, hm⟩ := G.ml B
      refine Does.call e157 ?_
      refine (Tryz.strings_Split ⟨s.toArray⟩ ⟨sep.toArray⟩ m w (by rw [ba_size]; exact h1) hm (by rw [ba_size]; exact h2)).mono ?_
      rintro e w' ⟨rfl, rfl⟩
      have X := Ext.newRow R ((Lib.splitB ⟨sep.toArray⟩ 0 (Lib.countB ⟨s.toArray⟩ ⟨sep.toArray⟩) ⟨s.toArray⟩).map fun b : ByteArray => AV.str b.data.toList) 9 [] (Lib.countB ⟨s.toArray⟩ ⟨sep.toArray⟩ + 1) 1 (by simp [AV.one]) ((oks_iff _ _ _).2 (by simp [ok])) (by simp [h3]) w.drawn
      refine ⟨_, (congrArg _ (upd_sl ρ h.next w.heap.size (Lib.countB ⟨s.toArray⟩ ⟨sep.toArray⟩ + 1) 1 (Lib.countB ⟨s.toArray⟩ ⟨sep.toArray⟩ + 1) 1)).symm, ?_, ?_⟩
      · simp only [ok, upd_same, Hp.push]
        exact ⟨by omega, trivial, by omega, by simp, by simp⟩
      · have e1 : (encs ρ ((Lib.splitB ⟨sep.toArray⟩ 0 (Lib.countB ⟨s.toArray⟩ ⟨sep.toArray⟩) ⟨s.toArray⟩).map fun b : ByteArray => AV.str b.data.toList) ++ []).toArray = ((Lib.splitB ⟨sep.toArray⟩ 0 (Lib.countB ⟨s.toArray⟩ ⟨sep.toArray⟩) ⟨s.toArray⟩).map Value.string).toArray := by
          rw [List.append_nil, encs_map, List.map_map]
          congr 1
          try exact List.map_congr_left fun b _ => by simp [enc]
        rw [e1] at X
        exact X
    · cases hp
  · cases hp
/-! strings.Trim, at the ten digits -/
def tenDigits : List UInt8 := [48, 49, 50, 51, 52, 53, 54, 55, 56, 57]
def p223 (args : List AV) (h : Hp) : Option (AV × Hp) :=
  match args with
  | [.str s, .str cs] => if cs = tenDigits ∧ s.length ≤ 9223372036854775807 then some (.str (Lib.trimS s tenDigits), h) else none
  | _ => none
theorem e223 : canEnter Tryz.prog 223 = true := by kernel_rfl
theorem k223 (hp : p223 args h = some (v, h')) (R : HRel base ρ h w) : Does Tryz.prog base ρ h w (callFunc 223 (encs ρ args).toArray) v h' := by
  unfold p223 at hp
  split at hp
  · rename_i s cs
    split at hp
    · rename_i hs
      obtain ⟨rfl, hs⟩ := hs
      obtain ⟨rfl, rfl⟩ := pair_inj hp
      refine Does.grown e223 R (by simp [ok, oks]) ?_
      refine (Go.Proofs.Any.strings_Trim_laid Tryz.lays160 (by kernel_rfl) ⟨s.toArray⟩ ⟨tenDigits.toArray⟩ w (by rw [ba_size]; exact hs) (by decide) (Go.Proofs.ascii_of_all (by decide))).mono ?_
      rintro e w' ⟨rfl, hB⟩
      exact ⟨by simp [enc, encs], hB⟩
    · cases hp
  · cases hp
/-! strconv.Itoa -/
def p220 (args : List AV) (h : Hp) : Option (AV × Hp) :=
  match args with
  | [.int .i64 n] => if -9223372036854775808 ≤ n ∧ n ≤ 9223372036854775807 then some (.str (Lib.itoa n), h) else none
  | _ => none
theorem e220 : canEnter Tryz.prog 220 = true := by kernel_rfl
theorem k220 (G : Glob W0 base) (hp : p220 args h = some (v, h')) (B : Go.RowKit.Below base W0 w) (R : HRel base ρ h w) : Does Tryz.prog base ρ h w (callFunc 220 (encs ρ args).toArray) v h' := by
  unfold p220 at hp
  split at hp
  · rename_i n
    split at hp
    · rename_i hs
      obtain ⟨rfl, rfl⟩ := pair_inj hp
      refine Does.grown e220 R (by simp [ok, oks]) ?_
      refine (Tryz.strconv_Itoa n hs.1 hs.2 w (G.pow10 w B)).mono ?_
      rintro e w' ⟨rfl, k, os, rfl⟩
      exact ⟨by simp [enc, encs], below_grow w k os⟩
    · cases hp
  · cases hp
/-! strings.Join -/
def strsA : List AV → Option (List (List UInt8))
  | [] => some []
  | .str s :: r => match strsA r with
    | some l => some (s :: l)
    | none => none
  | _ => none
theorem strsA_eq : ∀ {cs : List AV} {l : List (List UInt8)}, strsA cs = some l → cs = l.map .str
  | [], l, h => by obtain rfl := Option.some.inj h; rfl
  | .str s :: r, l, h => by
    simp only [strsA] at h
    split at h
    · rename_i l' hl
      obtain rfl := Option.some.inj h
      rw [strsA_eq hl]; rfl
    · cases h
  | .int _ _ :: _, _, h | .bool _ :: _, _, h | .ptr _ _ :: _, _, h | .nilp :: _, _, h | .sl _ _ _ _ :: _, _, h | .nils :: _, _, h | .fn _ _ :: _, _, h | .nilf :: _, _, h | .ifc _ _ :: _, _, h | .nili :: _, _, h | .map _ :: _, _, h | .nilm :: _, _, h | .agg _ :: _, _, h | .tup _ :: _, _, h => by cases h
noncomputable def p155 (args : List AV) (h : Hp) : Option (AV × Hp) :=
  match args with
  | [.nils, .str sep] => some (.str [], h)
  | [.sl t o n z, .str sep] => match n with
    | 0 => some (.str [], h)
    | n + 1 => match cellsOf h 1 (.sl t o (n + 1) z) with
      | some cs => match strsA cs with
        | some l => if l.length ≤ 140737488355328 ∧ (Lib.join l sep).length ≤ 140737488355328 then some (.str (Lib.join l sep), h) else none
        | none => none
      | none => none
  | _ => none
theorem e155 : canEnter Tryz.prog 155 = true := by kernel_rfl
theorem k155 (hp : p155 args h = some (v, h')) (R : HRel base ρ h w) (hok : oks ρ h.next args) : Does Tryz.prog base ρ h w (callFunc 155 (encs ρ args).toArray) v h' := by
  unfold p155 at hp
  split at hp
  · rename_i sep
    obtain ⟨rfl, rfl⟩ := pair_inj hp
    refine Does.grown e155 R (by simp [ok, oks]) ?_
    refine (Tryz.strings_Join_none none 0 ⟨sep.toArray⟩ w).mono ?_
    rintro e w' ⟨rfl, rfl⟩
    exact ⟨by simp [enc, encs], Go.RowKit.Below.refl _ _⟩
  · rename_i t o n z sep
    obtain ⟨⟨k1, k2, k3, k4, k5⟩, _⟩ := hok
    split at hp
    · obtain ⟨rfl, rfl⟩ := pair_inj hp
      refine Does.grown e155 R (by simp [ok, oks]) ?_
      refine (Tryz.strings_Join_none _ _ ⟨sep.toArray⟩ w).mono ?_
      rintro e w' ⟨rfl, rfl⟩
      exact ⟨by simp [enc, encs], Go.RowKit.Below.refl _ _⟩
    · rename_i n
      split at hp
      · rename_i cs hcs
        split at hp
        · rename_i l hl
          split at hp
          · rename_i hlen
            obtain ⟨rfl, rfl⟩ := pair_inj hp
            simp only [cellsOf] at hcs
            split at hcs
            · rename_i row own st ht
              split at hcs
              · rename_i hz
                obtain rfl := Option.some.inj hcs
                obtain ⟨r1, _⟩ := range_at (o := o) (n := (n + 1) * 1) R ht
                have hll : l.length = n + 1 := by
                  have := congrArg List.length (strsA_eq hl)
                  simp only [List.length_take, List.length_drop, List.length_map] at this
                  omega
                have hcell : ∀ (j : Nat) x, (l.map fun s => (⟨s.toArray⟩ : ByteArray))[j]? = some x → w.cell? ⟨(ρ t).b, (ρ t).o + o + j, none⟩ = some (.string x) := by
                  intro j x hx
                  refine r1 j (.string x) ?_
                  rw [strsA_eq hl, encs_map, List.map_map, List.getElem?_map]
                  rw [List.getElem?_map] at hx
                  cases hj : l[j]? with
                  | none => rw [hj] at hx; cases hx
                  | some s => rw [hj] at hx; simp only [Option.map_some, Option.some.injEq] at hx; subst hx; simp [enc]
                have hbk : (ρ t).b < w.heap.size := by
                  rcases Nat.lt_or_ge (ρ t).b w.heap.size with c | c
                  · exact c
                  · obtain ⟨s, hs⟩ : ∃ s, l[0]? = some s := ⟨l[0], List.getElem?_eq_getElem (by omega)⟩
                    have := hcell 0 ⟨s.toArray⟩ (by simp [hs])
                    simp [World.cell?, Array.getElem?_eq_none c] at this
                have hj : (l.map fun s => (⟨s.toArray⟩ : ByteArray)).map (·.data.toList) = l := by
                  rw [List.map_map]
                  refine (List.map_congr_left (g := id) fun s _ => ?_).trans (List.map_id l)
                  simp
                refine Does.grown e155 R (by simp [ok, oks]) ?_
                have H := Tryz.strings_Join (ρ t).b ((ρ t).o + o) ((ρ t).c - o / z) (l.map fun s => (⟨s.toArray⟩ : ByteArray)) ⟨sep.toArray⟩ w hcell hbk (by simp; omega) (by simp; omega) (by rw [hj]; exact hlen.2)
                rw [hj, List.length_map, hll] at H
                refine Calls.mono (R := fun e w' => e = .returned (.string ⟨(Lib.join l sep).toArray⟩) ∧ Go.RowKit.Below w.heap.size w w') (by simpa [encs, enc] using H) ?_
                rintro e w' ⟨rfl, hB⟩
                exact ⟨by simp [enc, encs], hB⟩
              · cases hcs
            · cases hcs
          · cases hp
        · cases hp
      · cases hp
  · cases hp
/-! math/bits.Add64, Sub64 -/
theorem r267 (x y : Int) (c : Bool) (w : World) : (callFunc 267 #[.int .u64 x, .int .u64 y, .int .u64 (match c with | true => 1 | false => 0)]).run Tryz.prog w =
    .ok (.value (Extern.MathBitsCarry.pair ((x.toNat + y.toNat + (match c with | true => 1 | false => 0)) % Extern.MathBitsCarry.m64) ((x.toNat + y.toNat + (match c with | true => 1 | false => 0)) / Extern.MathBitsCarry.m64))) w := by
  cases c <;> kernel_rfl
theorem r269 (x y : Int) (c : Bool) (w : World) : (callFunc 269 #[.int .u64 x, .int .u64 y, .int .u64 (match c with | true => 1 | false => 0)]).run Tryz.prog w =
    .ok (.value (Extern.MathBitsCarry.pair ((x.toNat + Extern.MathBitsCarry.m64 - y.toNat - (match c with | true => 1 | false => 0)) % Extern.MathBitsCarry.m64) (if x.toNat < y.toNat + (match c with | true => 1 | false => 0) then 1 else 0))) w := by
  cases c <;> kernel_rfl
noncomputable def x267 (args : List AV) : Option AV :=
  match args with
  | [.int .u64 (.ofNat x), .int .u64 (.ofNat y), .int .u64 (.ofNat c)] => match Nat.ble c 1 with
    | true => lit (Nat.mod (Nat.add (Nat.add x y) c) 18446744073709551616) fun a => lit (Nat.div (Nat.add (Nat.add x y) c) 18446744073709551616) fun b => some (.tup [.int .u64 (.ofNat a), .int .u64 (.ofNat b)])
    | false => none
  | _ => none
noncomputable def x269 (args : List AV) : Option AV :=
  match args with
  | [.int .u64 (.ofNat x), .int .u64 (.ofNat y), .int .u64 (.ofNat c)] => match Nat.ble c 1 with
    | true => lit (Nat.mod (Nat.sub (Nat.sub (Nat.add x 18446744073709551616) y) c) 18446744073709551616) fun a => some (.tup [.int .u64 (.ofNat a), .int .u64 (match Nat.blt x (Nat.add y c) with | true => 1 | false => 0)])
    | false => none
  | _ => none
theorem k267 (hp : x267 args = some v) (R : HRel base ρ h w) : Does Tryz.prog base ρ h w (callFunc 267 (encs ρ args).toArray) v h := by
  unfold x267 at hp
  split at hp
  · rename_i x y c
    split at hp
    · rename_i hc
      rw [lit_eq, lit_eq] at hp
      obtain rfl := Option.some.inj hp
      have hc' : c = 0 ∨ c = 1 := by have := Nat.le_of_ble_eq_true hc; omega
      unfold Does
      rcases hc' with rfl | rfl
      · have := r267 (Int.ofNat x) (Int.ofNat y) false w
        simp only [encs, enc]
        rw [show (callFunc 267 [Value.int .u64 (.ofNat x), .int .u64 (.ofNat y), .int .u64 (.ofNat 0)].toArray).run Tryz.prog w = _ from this]
        exact ⟨ρ, Ext.refl R, by simp [ok, oks], by simp only [enc, encs]; rfl⟩
      · have := r267 (Int.ofNat x) (Int.ofNat y) true w
        simp only [encs, enc]
        rw [show (callFunc 267 [Value.int .u64 (.ofNat x), .int .u64 (.ofNat y), .int .u64 (.ofNat 1)].toArray).run Tryz.prog w = _ from this]
        exact ⟨ρ, Ext.refl R, by simp [ok, oks], by simp only [enc, encs]; rfl⟩
    · cases hp
  · cases hp
theorem k269 (hp : x269 args = some v) (R : HRel base ρ h w) : Does Tryz.prog base ρ h w (callFunc 269 (encs ρ args).toArray) v h := by
  unfold x269 at hp
  split at hp
  · rename_i x y c
    split at hp
    · rename_i hc
      rw [lit_eq] at hp
      obtain rfl := Option.some.inj hp
      have hc' : c = 0 ∨ c = 1 := by have := Nat.le_of_ble_eq_true hc; omega
      unfold Does
      rcases hc' with rfl | rfl
      · have := r269 (Int.ofNat x) (Int.ofNat y) false w
        simp only [encs, enc]
        rw [show (callFunc 269 [Value.int .u64 (.ofNat x), .int .u64 (.ofNat y), .int .u64 (.ofNat 0)].toArray).run Tryz.prog w = _ from this]
        refine ⟨ρ, Ext.refl R, by simp [ok, oks], ?_⟩
        simp only [enc, encs]
        cases hb : Nat.blt x (Nat.add y 0) with
        | true =>
          have hlt : x < y + 0 := by simpa [Nat.blt_eq] using hb
          have : (Int.ofNat x).toNat < (Int.ofNat y).toNat + (match false with | true => 1 | false => 0) := hlt
          rw [if_pos this]; rfl
        | false =>
          have hlt : ¬ x < y + 0 := fun h => by have h2 : Nat.blt x (Nat.add y 0) = true := by simpa [Nat.blt_eq] using h
                                                rw [h2] at hb; cases hb
          have : ¬ (Int.ofNat x).toNat < (Int.ofNat y).toNat + (match false with | true => 1 | false => 0) := hlt
          rw [if_neg this]; rfl
      · have := r269 (Int.ofNat x) (Int.ofNat y) true w
        simp only [encs, enc]
        rw [show (callFunc 269 [Value.int .u64 (.ofNat x), .int .u64 (.ofNat y), .int .u64 (.ofNat 1)].toArray).run Tryz.prog w = _ from this]
        refine ⟨ρ, Ext.refl R, by simp [ok, oks], ?_⟩
        simp only [enc, encs]
        cases hb : Nat.blt x (Nat.add y 1) with
        | true =>
          have hlt : x < y + 1 := by simpa [Nat.blt_eq] using hb
          have : (Int.ofNat x).toNat < (Int.ofNat y).toNat + (match true with | true => 1 | false => 0) := hlt
          rw [if_pos this]; rfl
        | false =>
          have hlt : ¬ x < y + 1 := fun h => by have h2 : Nat.blt x (Nat.add y 1) = true := by simpa [Nat.blt_eq] using h
                                                rw [h2] at hb; cases hb
          have : ¬ (Int.ofNat x).toNat < (Int.ofNat y).toNat + (match true with | true => 1 | false => 0) := hlt
          rw [if_neg this]; rfl
    · cases hp
  · cases hp
theorem m112 (v : Value) (w : World) : (method (Tryz.prog.types.size + Made.depth) 148 v "Sign").run Tryz.prog w = .ok (112, v) w := by kernel_rfl
theorem m245 (v : Value) (w : World) : (method (Tryz.prog.types.size + Made.depth) 148 v "Inv").run Tryz.prog w = .ok (245, v) w := by kernel_rfl
theorem m115 (v : Value) (w : World) : (method (Tryz.prog.types.size + Made.depth) 148 v "Mul").run Tryz.prog w = .ok (115, v) w := by kernel_rfl
theorem m164 (v : Value) (w : World) : (method (Tryz.prog.types.size + Made.depth) 148 v "Sub").run Tryz.prog w = .ok (164, v) w := by kernel_rfl
theorem mixed : Tryz.prog.follows .mixedOrders = true := by kernel_rfl
end
end Go.Ae.L
