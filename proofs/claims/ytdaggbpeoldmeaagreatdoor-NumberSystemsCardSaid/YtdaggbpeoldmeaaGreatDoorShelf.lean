/-
  DERIVED: THE SHELF's CONTRACTS AT THIS DUMP, IN PLAIN WORDS (tools/lay-plain.mjs out of 'TryzShelf.lean', which tools/lay-shelf.mjs wrote): THE SAME DECLARATIONS UNDER THE SAME NAMES: 'import', 'namespace', 'open', 'def', 'theorem' AND NOTHING ELSE: no command of the shelf's: FOR A HAND-IN. Each laying: the table of numbers ('.._ren') and one theorem, a field a fact of the dump's own or the kernel's comparison; each contract: ONE APPLICATION.
-/
import Derived.Shelf.Strings.Builder1
import Derived.Shelf.Strings.Builder2
import Derived.Shelf.Strings.OnBuilder
import Derived.Shelf.Strings.Trim
import Derived.Shelf.Small.Utf8
import Derived.Shelf.Small.Bits
import Derived.Shelf.Small.Strs
import Derived.Shelf.Small.Wraps
import Derived.Shelf.Strings.BuilderF
import Derived.Shelf.Utf8.RuneCount
import Derived.Shelf.Strconv.Atoi
import Derived.Shelf.Strconv.Itoa0
import Derived.Shelf.Strconv.Itoa1
import Derived.Shelf.LaysM
import Derived.Shelf.Strconv.Itoa2
import Derived.Shelf.Strconv.Itoa3
import Derived.Shelf.Strings.Search1
import Derived.Shelf.Strings.Search2
import Derived.Shelf.Strings.Search3
import Derived.Shelf.Strings.Cut
import Derived.Shelf.Strings.Count
import Derived.Shelf.Strings.Shaped
import Derived.Shelf.Strings.Prefix
import Derived.Shelf.Strings.Split
import Derived.Shelf.Strings.SplitShaped
import Derived.Shelf.Unicode.Decode
import Derived.Shelf.Strings.Runes
import Derived.Shelf.Strings.RuneCount
import Derived.Shelf.Strings.AsciiSet
import Derived.Shelf.Strings.Explode
import Derived.Shelf.Bits.Mul64
import Derived.Shelf.Strings.Repeat
import Derived.Shelf.Unicode.DecodeSlow
import Derived.Shelf.Unicode.DecodeAny
import Derived.Shelf.Unicode.DecodeLast
import Derived.Test.YtdaggbpeoldmeaaGreatDoorProg
open Go.Shelf renaming Ren → di
namespace Go.Proofs
def Tryz.lays169_ren : di := ⟨fun | 169 => 235 | n => n, fun | 70 => 260 | 9 => 9 | 0 => 0 | 72 => 263 | 37 => 261 | 127 => 306 | 3 => 3 | 5 => 5 | n => n, fun | n => n⟩
theorem Tryz.lays169 : Go.Proofs.Lays.n169 Tryz.prog Tryz.lays169_ren := {
 mixed := by kernel_rfl
 f169 := Tryz.func235.trans (congrArg some (by kernel_rfl))
 t0 := Tryz.underlying0
 a0 := Tryz.isAgg0
 z0 := Tryz.sizeOf0
 v0 := Tryz.zeroValue0
 t3 := Tryz.underlying3
 a3 := Tryz.isAgg3
 z3 := Tryz.sizeOf3
 v3 := Tryz.zeroValue3
 t9 := Tryz.underlying9
 a9 := Tryz.isAgg9
 z9 := Tryz.sizeOf9
 v9 := Tryz.zeroValue9
 t37 := Tryz.underlying261
 a37 := Tryz.isAgg261
 z37 := Tryz.sizeOf261
 v37 := Tryz.zeroValue261
 t70 := Tryz.underlying260
 a70 := Tryz.isAgg260
 z70 := Tryz.sizeOf260
 v70 := Tryz.zeroValue260
 t72 := Tryz.underlying263
 a72 := Tryz.isAgg263
 z72 := Tryz.sizeOf263
 v72 := Tryz.zeroValue263
 t127 := Tryz.underlying306
 a127 := Tryz.isAgg306
 z127 := Tryz.sizeOf306
 v127 := Tryz.zeroValue306 }
theorem Tryz.Builder_Extra_169 : Builder.Extra Tryz.prog Tryz.lays169_ren := {
 sizeBuilder := by kernel_rfl
 liesBuilder := by kernel_rfl
 t5 := Tryz.underlying5
 a5 := Tryz.isAgg5
 z5 := Tryz.sizeOf5
 v5 := Tryz.zeroValue5
 infoByte := by kernel_rfl
 cellsByte := by kernel_rfl
 sizeByte := by kernel_rfl
 neB5 := by decide }
open Go.RowKit in
theorem Tryz.Builder_String_any (B b : Nat)(l : List UInt8)(w : World)(h : Lib.IsBuilder 263 5 B b (Lib.byteCells l) w)(hBw : B ≤ w.heap.size) :
  Calls Tryz.prog 235 #[.pointer (some ⟨b, 0, none⟩)] w fun e w' => e = .returned (.string ⟨l.toArray⟩) ∧ Below B w w' := Any.Builder_String_any Tryz.lays169 Tryz.Builder_Extra_169 B b l w h hBw
def Tryz.lays156_ren : di := ⟨fun | 156 => 155 | 165 => 233 | 166 => 234 | 169 => 235 | 240 => 290 | 241 => 291 | 276 => 320 | 277 => 321 | n => n, fun | 31 => 187 | 9 => 9 | 3 => 3 | 4 => 4 | 0 => 0 | 20 => 20 | 72 => 263 | 76 => 256 | 70 => 260 | 37 => 261 | 75 => 255 | 127 => 306 | 164 => 327 | 5 => 5 | 80 => 265 | n => n, fun | n => n⟩
theorem Tryz.lays156 : Go.Proofs.Lays.n156 Tryz.prog Tryz.lays156_ren := {
 mixed := by kernel_rfl
 f156 := Tryz.func155.trans (congrArg some (by kernel_rfl))
 f165 := Tryz.func233.trans (congrArg some (by kernel_rfl))
 f166 := Tryz.func234.trans (congrArg some (by kernel_rfl))
 f169 := Tryz.func235.trans (congrArg some (by kernel_rfl))
 f240 := Tryz.func290.trans (congrArg some (by kernel_rfl))
 f241 := Tryz.func291.trans (congrArg some (by kernel_rfl))
 f276 := Tryz.func320.trans (congrArg some (by kernel_rfl))
 f277 := Tryz.func321.trans (congrArg some (by kernel_rfl))
 t0 := Tryz.underlying0
 a0 := Tryz.isAgg0
 z0 := Tryz.sizeOf0
 v0 := Tryz.zeroValue0
 t3 := Tryz.underlying3
 a3 := Tryz.isAgg3
 z3 := Tryz.sizeOf3
 v3 := Tryz.zeroValue3
 t4 := Tryz.underlying4
 a4 := Tryz.isAgg4
 z4 := Tryz.sizeOf4
 v4 := Tryz.zeroValue4
 t9 := Tryz.underlying9
 a9 := Tryz.isAgg9
 z9 := Tryz.sizeOf9
 v9 := Tryz.zeroValue9
 t20 := Tryz.underlying20
 a20 := Tryz.isAgg20
 z20 := Tryz.sizeOf20
 v20 := Tryz.zeroValue20
 t31 := Tryz.underlying187
 a31 := Tryz.isAgg187
 z31 := Tryz.sizeOf187
 v31 := Tryz.zeroValue187
 t37 := Tryz.underlying261
 a37 := Tryz.isAgg261
 z37 := Tryz.sizeOf261
 v37 := Tryz.zeroValue261
 t70 := Tryz.underlying260
 a70 := Tryz.isAgg260
 z70 := Tryz.sizeOf260
 v70 := Tryz.zeroValue260
 t72 := Tryz.underlying263
 a72 := Tryz.isAgg263
 z72 := Tryz.sizeOf263
 v72 := Tryz.zeroValue263
 t75 := Tryz.underlying255
 a75 := Tryz.isAgg255
 z75 := Tryz.sizeOf255
 v75 := Tryz.zeroValue255
 t76 := Tryz.underlying256
 a76 := Tryz.isAgg256
 z76 := Tryz.sizeOf256
 v76 := Tryz.zeroValue256
 t127 := Tryz.underlying306
 a127 := Tryz.isAgg306
 z127 := Tryz.sizeOf306
 v127 := Tryz.zeroValue306
 t164 := Tryz.underlying327
 a164 := Tryz.isAgg327
 z164 := Tryz.sizeOf327
 v164 := Tryz.zeroValue327 }
theorem Tryz.Builder_Extra_156 : Builder.Extra Tryz.prog Tryz.lays156_ren := {
 sizeBuilder := by kernel_rfl
 liesBuilder := by kernel_rfl
 t5 := Tryz.underlying5
 a5 := Tryz.isAgg5
 z5 := Tryz.sizeOf5
 v5 := Tryz.zeroValue5
 infoByte := by kernel_rfl
 cellsByte := by kernel_rfl
 sizeByte := by kernel_rfl
 neB5 := by decide }
open Go.RowKit in
theorem Tryz.strings_Join_none (a : Option Addr)(c : Nat)(sep : ByteArray)(w : World) :
  Calls Tryz.prog 155 #[.slice a 0 c, .string sep] w fun e w' => e = .returned (.string ⟨#[]⟩) ∧ w' = w := Any.strings_Join_none Tryz.lays156 Tryz.Builder_Extra_156 a c sep w
open Go.RowKit in
theorem Tryz.strings_Join (bk o c : Nat)(xs : List ByteArray)(sep : ByteArray)(w : World)(hcells : ∀ (j : Nat) x, xs[j]? = some x → w.cell? ⟨bk, o + j, none⟩ = some (.string x))(hbk : bk < w.heap.size)(hN : xs.length ≤ 140737488355328)(RN : xs.length ≤ c)(hlen : (Lib.join (xs.map (·.data.toList)) sep.data.toList).length ≤ 140737488355328) :
  Calls Tryz.prog 155 #[.slice (some ⟨bk, o, none⟩) xs.length c, .string sep] w fun e w' => e = .returned (.string ⟨(Lib.join (xs.map (·.data.toList)) sep.data.toList).toArray⟩) ∧ Below w.heap.size w w' := Any.strings_Join Tryz.lays156 Tryz.Builder_Extra_156 bk o c xs sep w hcells hbk hN RN hlen
def Tryz.lays160_ren : di := ⟨fun | 160 => 223 | 232 => 282 | 231 => 281 | 227 => 283 | 234 => 285 | 233 => 284 | 236 => 287 | 235 => 286 | 228 => 311 | 271 => 314 | 151 => 313 | 197 => 312 | 120 => 335 | 152 => 334 | 260 => 333 | 137 => 343 | 119 => 344 | 224 => 309 | 225 => 308 | 217 => 307 | 266 => 331 | n => n, fun | 9 => 9 | 4 => 4 | 3 => 3 | 5 => 5 | 117 => 301 | 116 => 300 | 0 => 0 | 124 => 304 | 21 => 21 | 105 => 318 | 46 => 284 | 119 => 346 | 139 => 349 | 138 => 348 | n => n, fun | 3 => 6 | 4 => 7 | n => n⟩
theorem Tryz.lays160 : Go.Proofs.Lays.n160 Tryz.prog Tryz.lays160_ren := {
 mixed := by kernel_rfl
 f119 := Tryz.func344.trans (congrArg some (by kernel_rfl))
 f120 := Tryz.func335.trans (congrArg some (by kernel_rfl))
 f137 := Tryz.func343.trans (congrArg some (by kernel_rfl))
 f151 := Tryz.func313.trans (congrArg some (by kernel_rfl))
 f152 := Tryz.func334.trans (congrArg some (by kernel_rfl))
 f160 := Tryz.func223.trans (congrArg some (by kernel_rfl))
 f197 := Tryz.func312.trans (congrArg some (by kernel_rfl))
 f217 := Tryz.func307.trans (congrArg some (by kernel_rfl))
 f224 := Tryz.func309.trans (congrArg some (by kernel_rfl))
 f225 := Tryz.func308.trans (congrArg some (by kernel_rfl))
 f227 := Tryz.func283.trans (congrArg some (by kernel_rfl))
 f228 := Tryz.func311.trans (congrArg some (by kernel_rfl))
 f231 := Tryz.func281.trans (congrArg some (by kernel_rfl))
 f232 := Tryz.func282.trans (congrArg some (by kernel_rfl))
 f233 := Tryz.func284.trans (congrArg some (by kernel_rfl))
 f234 := Tryz.func285.trans (congrArg some (by kernel_rfl))
 f235 := Tryz.func286.trans (congrArg some (by kernel_rfl))
 f236 := Tryz.func287.trans (congrArg some (by kernel_rfl))
 f260 := Tryz.func333.trans (congrArg some (by kernel_rfl))
 f266 := Tryz.func331.trans (congrArg some (by kernel_rfl))
 f271 := Tryz.func314.trans (congrArg some (by kernel_rfl))
 t0 := Tryz.underlying0
 a0 := Tryz.isAgg0
 z0 := Tryz.sizeOf0
 v0 := Tryz.zeroValue0
 t3 := Tryz.underlying3
 a3 := Tryz.isAgg3
 z3 := Tryz.sizeOf3
 v3 := Tryz.zeroValue3
 t4 := Tryz.underlying4
 a4 := Tryz.isAgg4
 z4 := Tryz.sizeOf4
 v4 := Tryz.zeroValue4
 t5 := Tryz.underlying5
 a5 := Tryz.isAgg5
 z5 := Tryz.sizeOf5
 v5 := Tryz.zeroValue5
 t9 := Tryz.underlying9
 a9 := Tryz.isAgg9
 z9 := Tryz.sizeOf9
 v9 := Tryz.zeroValue9
 t21 := Tryz.underlying21
 a21 := Tryz.isAgg21
 z21 := Tryz.sizeOf21
 v21 := Tryz.zeroValue21
 t46 := Tryz.underlying284
 a46 := Tryz.isAgg284
 z46 := Tryz.sizeOf284
 v46 := Tryz.zeroValue284
 t105 := Tryz.underlying318
 a105 := Tryz.isAgg318
 z105 := Tryz.sizeOf318
 v105 := Tryz.zeroValue318
 t116 := Tryz.underlying300
 a116 := Tryz.isAgg300
 z116 := Tryz.sizeOf300
 t117 := Tryz.underlying301
 a117 := Tryz.isAgg301
 z117 := Tryz.sizeOf301
 v117 := Tryz.zeroValue301
 t119 := Tryz.underlying346
 a119 := Tryz.isAgg346
 z119 := Tryz.sizeOf346
 t124 := Tryz.underlying304
 a124 := Tryz.isAgg304
 z124 := Tryz.sizeOf304
 v124 := Tryz.zeroValue304
 t138 := Tryz.underlying348
 a138 := Tryz.isAgg348
 z138 := Tryz.sizeOf348
 v138 := Tryz.zeroValue348
 t139 := Tryz.underlying349
 a139 := Tryz.isAgg349
 z139 := Tryz.sizeOf349
 v139 := Tryz.zeroValue349
 g3 := by kernel_rfl
 g4 := by kernel_rfl }
def Tryz.lays103_ren : di := ⟨fun | 103 => 188 | 210 => 256 | 206 => 297 | n => n, fun | 9 => 9 | 4 => 4 | 24 => 224 | 3 => 3 | n => n, fun | n => n⟩
theorem Tryz.lays103 : Go.Proofs.Lays.n103 Tryz.prog Tryz.lays103_ren := {
 mixed := by kernel_rfl
 f103 := Tryz.func188.trans (congrArg some (by kernel_rfl))
 f206 := Tryz.func297.trans (congrArg some (by kernel_rfl))
 f210 := Tryz.func256.trans (congrArg some (by kernel_rfl))
 t3 := Tryz.underlying3
 a3 := Tryz.isAgg3
 z3 := Tryz.sizeOf3
 v3 := Tryz.zeroValue3
 t4 := Tryz.underlying4
 a4 := Tryz.isAgg4
 z4 := Tryz.sizeOf4
 v4 := Tryz.zeroValue4
 t9 := Tryz.underlying9
 a9 := Tryz.isAgg9
 z9 := Tryz.sizeOf9
 v9 := Tryz.zeroValue9
 t24 := Tryz.underlying224
 a24 := Tryz.isAgg224
 z24 := Tryz.sizeOf224
 v24 := Tryz.zeroValue224 }
open Go.RowKit in
theorem Tryz.strings_CutPrefix (s p : ByteArray)(w : World) :
  Calls Tryz.prog 188 #[.string s, .string p] w fun e w' => e = .returned (.tuple #[.string ⟨(Lib.trimPrefix s.data.toList p.data.toList).toArray⟩, .bool (Lib.hasPrefix s.data.toList p.data.toList)]) ∧ w' = w := Any.strings_CutPrefix Tryz.lays103 s p w
def Tryz.lays104_ren : di := ⟨fun | 104 => 239 | 211 => 295 | 207 => 324 | n => n, fun | 9 => 9 | 4 => 4 | 24 => 224 | 3 => 3 | n => n, fun | n => n⟩
theorem Tryz.lays104 : Go.Proofs.Lays.n104 Tryz.prog Tryz.lays104_ren := {
 mixed := by kernel_rfl
 f104 := Tryz.func239.trans (congrArg some (by kernel_rfl))
 f207 := Tryz.func324.trans (congrArg some (by kernel_rfl))
 f211 := Tryz.func295.trans (congrArg some (by kernel_rfl))
 t3 := Tryz.underlying3
 a3 := Tryz.isAgg3
 z3 := Tryz.sizeOf3
 v3 := Tryz.zeroValue3
 t4 := Tryz.underlying4
 a4 := Tryz.isAgg4
 z4 := Tryz.sizeOf4
 v4 := Tryz.zeroValue4
 t9 := Tryz.underlying9
 a9 := Tryz.isAgg9
 z9 := Tryz.sizeOf9
 v9 := Tryz.zeroValue9
 t24 := Tryz.underlying224
 a24 := Tryz.isAgg224
 z24 := Tryz.sizeOf224
 v24 := Tryz.zeroValue224 }
open Go.RowKit in
theorem Tryz.strings_CutSuffix (s p : ByteArray)(w : World)(hs : s.size ≤ 9223372036854775807) :
  Calls Tryz.prog 239 #[.string s, .string p] w fun e w' => e = .returned (.tuple #[.string ⟨(Lib.trimSuffix s.data.toList p.data.toList).toArray⟩, .bool (Lib.hasSuffix s.data.toList p.data.toList)]) ∧ w' = w := Any.strings_CutSuffix Tryz.lays104 s p w hs
def Tryz.lays172_ren : di := ⟨fun | 172 => 224 | 244 => 288 | 245 => 289 | 247 => 315 | 279 => 316 | 280 => 317 | 281 => 318 | 282 => 319 | 287 => 336 | 316 => 337 | 171 => 220 | 205 => 338 | 321 => 345 | 322 => 346 | 243 => 277 | 246 => 305 | 283 => 327 | 284 => 328 | 285 => 329 | 286 => 330 | 129 => 266 | 317 => 339 | 318 => 340 | 319 => 341 | 320 => 342 | 337 => 347 | 338 => 348 | n => n, fun | 9 => 9 | 3 => 3 | 75 => 255 | 76 => 256 | 4 => 4 | 5 => 5 | 167 => 321 | 37 => 261 | 0 => 0 | 85 => 322 | 2 => 2 | 168 => 324 | 53 => 278 | 175 => 336 | 46 => 284 | 210 => 340 | 127 => 306 | 145 => 353 | 143 => 351 | 21 => 21 | 171 => 330 | 173 => 332 | 212 => 343 | 51 => 313 | 20 => 20 | 213 => 344 | 232 => 355 | 233 => 356 | 80 => 265 | n => n, fun | 15 => 3 | 16 => 4 | 17 => 5 | 18 => 8 | 19 => 9 | n => n⟩
theorem Tryz.lays172 : Go.Proofs.Lays.n172 Tryz.prog Tryz.lays172_ren := {
 mixed := by kernel_rfl
 f129 := Tryz.func266.trans (congrArg some (by kernel_rfl))
 f171 := Tryz.func220.trans (congrArg some (by kernel_rfl))
 f172 := Tryz.func224.trans (congrArg some (by kernel_rfl))
 f205 := Tryz.func338.trans (congrArg some (by kernel_rfl))
 f243 := Tryz.func277.trans (congrArg some (by kernel_rfl))
 f244 := Tryz.func288.trans (congrArg some (by kernel_rfl))
 f245 := Tryz.func289.trans (congrArg some (by kernel_rfl))
 f246 := Tryz.func305.trans (congrArg some (by kernel_rfl))
 f247 := Tryz.func315.trans (congrArg some (by kernel_rfl))
 f279 := Tryz.func316.trans (congrArg some (by kernel_rfl))
 f280 := Tryz.func317.trans (congrArg some (by kernel_rfl))
 f281 := Tryz.func318.trans (congrArg some (by kernel_rfl))
 f282 := Tryz.func319.trans (congrArg some (by kernel_rfl))
 f283 := Tryz.func327.trans (congrArg some (by kernel_rfl))
 f284 := Tryz.func328.trans (congrArg some (by kernel_rfl))
 f285 := Tryz.func329.trans (congrArg some (by kernel_rfl))
 f286 := Tryz.func330.trans (congrArg some (by kernel_rfl))
 f287 := Tryz.func336.trans (congrArg some (by kernel_rfl))
 f316 := Tryz.func337.trans (congrArg some (by kernel_rfl))
 f317 := Tryz.func339.trans (congrArg some (by kernel_rfl))
 f318 := Tryz.func340.trans (congrArg some (by kernel_rfl))
 f319 := Tryz.func341.trans (congrArg some (by kernel_rfl))
 f320 := Tryz.func342.trans (congrArg some (by kernel_rfl))
 f321 := Tryz.func345.trans (congrArg some (by kernel_rfl))
 f322 := Tryz.func346.trans (congrArg some (by kernel_rfl))
 f337 := Tryz.func347.trans (congrArg some (by kernel_rfl))
 f338 := Tryz.func348.trans (congrArg some (by kernel_rfl))
 t0 := Tryz.underlying0
 a0 := Tryz.isAgg0
 z0 := Tryz.sizeOf0
 v0 := Tryz.zeroValue0
 t2 := Tryz.underlying2
 a2 := Tryz.isAgg2
 z2 := Tryz.sizeOf2
 v2 := Tryz.zeroValue2
 t3 := Tryz.underlying3
 a3 := Tryz.isAgg3
 z3 := Tryz.sizeOf3
 v3 := Tryz.zeroValue3
 t4 := Tryz.underlying4
 a4 := Tryz.isAgg4
 z4 := Tryz.sizeOf4
 v4 := Tryz.zeroValue4
 t5 := Tryz.underlying5
 a5 := Tryz.isAgg5
 z5 := Tryz.sizeOf5
 v5 := Tryz.zeroValue5
 t9 := Tryz.underlying9
 a9 := Tryz.isAgg9
 z9 := Tryz.sizeOf9
 v9 := Tryz.zeroValue9
 t20 := Tryz.underlying20
 a20 := Tryz.isAgg20
 z20 := Tryz.sizeOf20
 v20 := Tryz.zeroValue20
 t21 := Tryz.underlying21
 a21 := Tryz.isAgg21
 z21 := Tryz.sizeOf21
 v21 := Tryz.zeroValue21
 t37 := Tryz.underlying261
 a37 := Tryz.isAgg261
 z37 := Tryz.sizeOf261
 v37 := Tryz.zeroValue261
 t46 := Tryz.underlying284
 a46 := Tryz.isAgg284
 z46 := Tryz.sizeOf284
 v46 := Tryz.zeroValue284
 t51 := Tryz.underlying313
 a51 := Tryz.isAgg313
 z51 := Tryz.sizeOf313
 v51 := Tryz.zeroValue313
 t53 := Tryz.underlying278
 a53 := Tryz.isAgg278
 z53 := Tryz.sizeOf278
 v53 := Tryz.zeroValue278
 t75 := Tryz.underlying255
 a75 := Tryz.isAgg255
 z75 := Tryz.sizeOf255
 v75 := Tryz.zeroValue255
 t76 := Tryz.underlying256
 a76 := Tryz.isAgg256
 z76 := Tryz.sizeOf256
 v76 := Tryz.zeroValue256
 t85 := Tryz.underlying322
 a85 := Tryz.isAgg322
 z85 := Tryz.sizeOf322
 v85 := Tryz.zeroValue322
 t127 := Tryz.underlying306
 a127 := Tryz.isAgg306
 z127 := Tryz.sizeOf306
 v127 := Tryz.zeroValue306
 t143 := Tryz.underlying351
 a143 := Tryz.isAgg351
 z143 := Tryz.sizeOf351
 v143 := Tryz.zeroValue351
 t145 := Tryz.underlying353
 a145 := Tryz.isAgg353
 z145 := Tryz.sizeOf353
 v145 := Tryz.zeroValue353
 t167 := Tryz.underlying321
 a167 := Tryz.isAgg321
 z167 := Tryz.sizeOf321
 v167 := Tryz.zeroValue321
 t168 := Tryz.underlying324
 a168 := Tryz.isAgg324
 z168 := Tryz.sizeOf324
 v168 := Tryz.zeroValue324
 t171 := Tryz.underlying330
 a171 := Tryz.isAgg330
 z171 := Tryz.sizeOf330
 v171 := Tryz.zeroValue330
 t173 := Tryz.underlying332
 a173 := Tryz.isAgg332
 z173 := Tryz.sizeOf332
 v173 := Tryz.zeroValue332
 t175 := Tryz.underlying336
 a175 := Tryz.isAgg336
 z175 := Tryz.sizeOf336
 v175 := Tryz.zeroValue336
 t210 := Tryz.underlying340
 a210 := Tryz.isAgg340
 z210 := Tryz.sizeOf340
 v210 := Tryz.zeroValue340
 t212 := Tryz.underlying343
 a212 := Tryz.isAgg343
 z212 := Tryz.sizeOf343
 v212 := Tryz.zeroValue343
 t213 := Tryz.underlying344
 a213 := Tryz.isAgg344
 z213 := Tryz.sizeOf344
 t232 := Tryz.underlying355
 a232 := Tryz.isAgg355
 z232 := Tryz.sizeOf355
 v232 := Tryz.zeroValue355
 t233 := Tryz.underlying356
 a233 := Tryz.isAgg356
 z233 := Tryz.sizeOf356
 v233 := Tryz.zeroValue356
 g15 := by kernel_rfl
 g16 := by kernel_rfl
 g17 := by kernel_rfl
 g18 := by kernel_rfl
 g19 := by kernel_rfl }
open Go.RowKit in
theorem Tryz.strconv_Atoi (s : ByteArray)(n : Int)(hl : s.size ≤ 18)(h : Lib.atoi s.data.toList = some n)(w : World) :
  Calls Tryz.prog 224 #[.string s] w fun e w' => e = .returned (.tuple #[.int .i64 n, .nilIface]) ∧ ∃ t, w' = Lib.bytesWorld w 5 t := Any.strconv_Atoi Tryz.lays172 s n hl h w
def Tryz.lays283_ren : di := ⟨fun | 283 => 327 | n => n, fun | 3 => 3 | 9 => 9 | 4 => 4 | n => n, fun | n => n⟩
theorem Tryz.lays283 : Go.Proofs.Lays.n283 Tryz.prog Tryz.lays283_ren := {
 mixed := by kernel_rfl
 f283 := Tryz.func327.trans (congrArg some (by kernel_rfl))
 t3 := Tryz.underlying3
 a3 := Tryz.isAgg3
 z3 := Tryz.sizeOf3
 v3 := Tryz.zeroValue3
 t4 := Tryz.underlying4
 a4 := Tryz.isAgg4
 z4 := Tryz.sizeOf4
 v4 := Tryz.zeroValue4
 t9 := Tryz.underlying9
 a9 := Tryz.isAgg9
 z9 := Tryz.sizeOf9
 v9 := Tryz.zeroValue9 }
open Go.Lib in
theorem Tryz.internal_strconv_small (i : Nat)(h : i < 100)(w : World) :
  Calls Tryz.prog 327 #[.int .i64 i] w fun e w' => e = .returned (.string ⟨(Lib.decDigits i).toArray⟩) ∧ w' = w := Any.internal_strconv_small Tryz.lays283 i h w
def Tryz.laysM284_ren : di := ⟨fun | 284 => 328 | 129 => 266 | 317 => 339 | 318 => 340 | n => n, fun | 53 => 278 | 3 => 3 | 212 => 343 | 0 => 0 | 4 => 4 | 46 => 284 | 5 => 5 | 9 => 9 | n => n, fun | 17 => 5 | n => n⟩
theorem Tryz.laysM284 : Go.Proofs.LaysM.n284 Tryz.prog Tryz.laysM284_ren := {
 mixed := by kernel_rfl
 f129 := Tryz.func266.trans (congrArg some (by kernel_rfl))
 f284 := Tryz.func328.trans (congrArg some (by kernel_rfl))
 f317 := Tryz.func339.trans (congrArg some (by kernel_rfl))
 f318 := Tryz.func340.trans (congrArg some (by kernel_rfl))
 t0 := Tryz.underlying0
 a0 := Tryz.isAgg0
 z0 := Tryz.sizeOf0
 v0 := Tryz.zeroValue0
 t3 := Tryz.underlying3
 a3 := Tryz.isAgg3
 z3 := Tryz.sizeOf3
 v3 := Tryz.zeroValue3
 t4 := Tryz.underlying4
 a4 := Tryz.isAgg4
 z4 := Tryz.sizeOf4
 v4 := Tryz.zeroValue4
 t5 := Tryz.underlying5
 a5 := Tryz.isAgg5
 z5 := Tryz.sizeOf5
 v5 := Tryz.zeroValue5
 t9 := Tryz.underlying9
 a9 := Tryz.isAgg9
 z9 := Tryz.sizeOf9
 v9 := Tryz.zeroValue9
 t46 := Tryz.underlying284
 a46 := Tryz.isAgg284
 z46 := Tryz.sizeOf284
 v46 := Tryz.zeroValue284
 t53 := Tryz.underlying278
 a53 := Tryz.isAgg278
 z53 := Tryz.sizeOf278
 v53 := Tryz.zeroValue278
 t212 := Tryz.underlying343
 a212 := Tryz.isAgg343
 z212 := Tryz.sizeOf343
 v212 := Tryz.zeroValue343
 g17 := by kernel_rfl
 i0 := by kernel_rfl
 i3 := by kernel_rfl
 i4 := by kernel_rfl
 i5 := by kernel_rfl
 i9 := by kernel_rfl
 i46 := by kernel_rfl
 i53 := by kernel_rfl
 i212 := by kernel_rfl
 m17 := by kernel_rfl }
open Go.Lib in
theorem Tryz.internal_strconv_numDigits (u : Nat)(h1 : 1 ≤ u)(h2 : u < 18446744073709551616)(w : World)(htab : Lib.TabIs Tryz.prog w "internal/strconv.uint64pow10" .u64 Lib.pow10Tab) :
  Calls Tryz.prog 328 #[.int .u64 u] w fun e w' => e = .returned (.int .i64 (Lib.nDigits u)) ∧ w' = w := Any.internal_strconv_numDigits Tryz.laysM284 u h1 h2 w htab
def Tryz.lays285_ren : di := ⟨fun | 285 => 329 | n => n, fun | 37 => 261 | 53 => 278 | 3 => 3 | 4 => 4 | 51 => 313 | 9 => 9 | 5 => 5 | 0 => 0 | n => n, fun | n => n⟩
theorem Tryz.lays285 : Go.Proofs.Lays.n285 Tryz.prog Tryz.lays285_ren := {
 mixed := by kernel_rfl
 f285 := Tryz.func329.trans (congrArg some (by kernel_rfl))
 t0 := Tryz.underlying0
 a0 := Tryz.isAgg0
 z0 := Tryz.sizeOf0
 v0 := Tryz.zeroValue0
 t3 := Tryz.underlying3
 a3 := Tryz.isAgg3
 z3 := Tryz.sizeOf3
 v3 := Tryz.zeroValue3
 t4 := Tryz.underlying4
 a4 := Tryz.isAgg4
 z4 := Tryz.sizeOf4
 v4 := Tryz.zeroValue4
 t5 := Tryz.underlying5
 a5 := Tryz.isAgg5
 z5 := Tryz.sizeOf5
 v5 := Tryz.zeroValue5
 t9 := Tryz.underlying9
 a9 := Tryz.isAgg9
 z9 := Tryz.sizeOf9
 v9 := Tryz.zeroValue9
 t37 := Tryz.underlying261
 a37 := Tryz.isAgg261
 z37 := Tryz.sizeOf261
 v37 := Tryz.zeroValue261
 t51 := Tryz.underlying313
 a51 := Tryz.isAgg313
 z51 := Tryz.sizeOf313
 v51 := Tryz.zeroValue313
 t53 := Tryz.underlying278
 a53 := Tryz.isAgg278
 z53 := Tryz.sizeOf278
 v53 := Tryz.zeroValue278 }
open Go.RowKit Go.Sort Go.Lib in
theorem Tryz.internal_strconv_formatBase10 (blk off cap : Nat)(u : Nat)(d : Array UInt8)(w : World)(hH : Holds (fun (b : UInt8) => Value.int .u8 (b.toNat : Int)) w blk off d)(hu : u < 10 ^ d.size)(hu64 : u < 18446744073709551616)(hsz : d.size < 4611686018427387904) :
  Calls Tryz.prog 329 #[.slice (some ⟨blk, off, none⟩) d.size cap, .int .u64 u] w fun e w' =>
   e = .returned (.tuple #[]) ∧ ∃ (n v' : Nat) (dk : Array UInt8), w' = (putRow (fun (b : UInt8) => Value.int .u8 (b.toNat : Int)) w blk off dk).drewN n ∧ FmtInv d.size u 0 v' dk := Any.internal_strconv_formatBase10 Tryz.lays285 blk off cap u d w hH hu hu64 hsz
def Tryz.laysM171_ren : di := ⟨fun | 171 => 220 | 243 => 277 | 246 => 305 | 283 => 327 | 284 => 328 | 285 => 329 | 286 => 330 | 129 => 266 | 317 => 339 | 318 => 340 | 319 => 341 | 320 => 342 | 337 => 347 | 338 => 348 | n => n, fun | 3 => 3 | 9 => 9 | 2 => 2 | 4 => 4 | 171 => 330 | 0 => 0 | 53 => 278 | 37 => 261 | 5 => 5 | 173 => 332 | 212 => 343 | 51 => 313 | 20 => 20 | 213 => 344 | 46 => 284 | 232 => 355 | 233 => 356 | n => n, fun | 17 => 5 | 18 => 8 | 19 => 9 | n => n⟩
theorem Tryz.laysM171 : Go.Proofs.LaysM.n171 Tryz.prog Tryz.laysM171_ren := {
 mixed := by kernel_rfl
 f129 := Tryz.func266.trans (congrArg some (by kernel_rfl))
 f171 := Tryz.func220.trans (congrArg some (by kernel_rfl))
 f243 := Tryz.func277.trans (congrArg some (by kernel_rfl))
 f246 := Tryz.func305.trans (congrArg some (by kernel_rfl))
 f283 := Tryz.func327.trans (congrArg some (by kernel_rfl))
 f284 := Tryz.func328.trans (congrArg some (by kernel_rfl))
 f285 := Tryz.func329.trans (congrArg some (by kernel_rfl))
 f286 := Tryz.func330.trans (congrArg some (by kernel_rfl))
 f317 := Tryz.func339.trans (congrArg some (by kernel_rfl))
 f318 := Tryz.func340.trans (congrArg some (by kernel_rfl))
 f319 := Tryz.func341.trans (congrArg some (by kernel_rfl))
 f320 := Tryz.func342.trans (congrArg some (by kernel_rfl))
 f337 := Tryz.func347.trans (congrArg some (by kernel_rfl))
 f338 := Tryz.func348.trans (congrArg some (by kernel_rfl))
 t0 := Tryz.underlying0
 a0 := Tryz.isAgg0
 z0 := Tryz.sizeOf0
 v0 := Tryz.zeroValue0
 t2 := Tryz.underlying2
 a2 := Tryz.isAgg2
 z2 := Tryz.sizeOf2
 v2 := Tryz.zeroValue2
 t3 := Tryz.underlying3
 a3 := Tryz.isAgg3
 z3 := Tryz.sizeOf3
 v3 := Tryz.zeroValue3
 t4 := Tryz.underlying4
 a4 := Tryz.isAgg4
 z4 := Tryz.sizeOf4
 v4 := Tryz.zeroValue4
 t5 := Tryz.underlying5
 a5 := Tryz.isAgg5
 z5 := Tryz.sizeOf5
 v5 := Tryz.zeroValue5
 t9 := Tryz.underlying9
 a9 := Tryz.isAgg9
 z9 := Tryz.sizeOf9
 v9 := Tryz.zeroValue9
 t20 := Tryz.underlying20
 a20 := Tryz.isAgg20
 z20 := Tryz.sizeOf20
 v20 := Tryz.zeroValue20
 t37 := Tryz.underlying261
 a37 := Tryz.isAgg261
 z37 := Tryz.sizeOf261
 v37 := Tryz.zeroValue261
 t46 := Tryz.underlying284
 a46 := Tryz.isAgg284
 z46 := Tryz.sizeOf284
 v46 := Tryz.zeroValue284
 t51 := Tryz.underlying313
 a51 := Tryz.isAgg313
 z51 := Tryz.sizeOf313
 v51 := Tryz.zeroValue313
 t53 := Tryz.underlying278
 a53 := Tryz.isAgg278
 z53 := Tryz.sizeOf278
 v53 := Tryz.zeroValue278
 t171 := Tryz.underlying330
 a171 := Tryz.isAgg330
 z171 := Tryz.sizeOf330
 v171 := Tryz.zeroValue330
 t173 := Tryz.underlying332
 a173 := Tryz.isAgg332
 z173 := Tryz.sizeOf332
 v173 := Tryz.zeroValue332
 t212 := Tryz.underlying343
 a212 := Tryz.isAgg343
 z212 := Tryz.sizeOf343
 v212 := Tryz.zeroValue343
 t213 := Tryz.underlying344
 a213 := Tryz.isAgg344
 z213 := Tryz.sizeOf344
 t232 := Tryz.underlying355
 a232 := Tryz.isAgg355
 z232 := Tryz.sizeOf355
 v232 := Tryz.zeroValue355
 t233 := Tryz.underlying356
 a233 := Tryz.isAgg356
 z233 := Tryz.sizeOf356
 v233 := Tryz.zeroValue356
 g17 := by kernel_rfl
 g18 := by kernel_rfl
 g19 := by kernel_rfl
 i0 := by kernel_rfl
 i2 := by kernel_rfl
 i3 := by kernel_rfl
 i4 := by kernel_rfl
 i5 := by kernel_rfl
 i9 := by kernel_rfl
 i20 := by kernel_rfl
 i37 := by kernel_rfl
 i46 := by kernel_rfl
 i51 := by kernel_rfl
 i53 := by kernel_rfl
 i171 := by kernel_rfl
 i173 := by kernel_rfl
 i212 := by kernel_rfl
 i232 := by kernel_rfl
 i233 := by kernel_rfl
 m17 := by kernel_rfl
 m18 := by kernel_rfl
 m19 := by kernel_rfl }
open Go.RowKit Go.Sort Go.Lib in
theorem Tryz.strconv_Itoa (n : Int)(h0 : -9223372036854775808 ≤ n)(h1 : n ≤ 9223372036854775807)(w : World)(htab : Lib.TabIs Tryz.prog w "internal/strconv.uint64pow10" .u64 Lib.pow10Tab) :
  Calls Tryz.prog 220 #[.int .i64 n] w fun e w' => e = .returned (.string ⟨(Lib.itoa n).toArray⟩) ∧ ∃ k os, w' = grow (w.drewN k) os := Any.strconv_Itoa Tryz.laysM171 n h0 h1 w htab
def Tryz.lays145_ren : di := ⟨fun | 145 => 147 | 220 => 222 | 219 => 280 | 217 => 307 | 225 => 308 | 224 => 309 | 267 => 310 | 266 => 331 | 314 => 332 | n => n, fun | 9 => 9 | 4 => 4 | 59 => 180 | 3 => 3 | 5 => 5 | 46 => 284 | 146 => 314 | 51 => 313 | n => n, fun | 1 => 0 | n => n⟩
theorem Tryz.lays145 : Go.Proofs.Lays.n145 Tryz.prog Tryz.lays145_ren := {
 mixed := by kernel_rfl
 f145 := Tryz.func147.trans (congrArg some (by kernel_rfl))
 f217 := Tryz.func307.trans (congrArg some (by kernel_rfl))
 f219 := Tryz.func280.trans (congrArg some (by kernel_rfl))
 f220 := Tryz.func222.trans (congrArg some (by kernel_rfl))
 f224 := Tryz.func309.trans (congrArg some (by kernel_rfl))
 f225 := Tryz.func308.trans (congrArg some (by kernel_rfl))
 f266 := Tryz.func331.trans (congrArg some (by kernel_rfl))
 f267 := Tryz.func310.trans (congrArg some (by kernel_rfl))
 f314 := Tryz.func332.trans (congrArg some (by kernel_rfl))
 t3 := Tryz.underlying3
 a3 := Tryz.isAgg3
 z3 := Tryz.sizeOf3
 v3 := Tryz.zeroValue3
 t4 := Tryz.underlying4
 a4 := Tryz.isAgg4
 z4 := Tryz.sizeOf4
 v4 := Tryz.zeroValue4
 t5 := Tryz.underlying5
 a5 := Tryz.isAgg5
 z5 := Tryz.sizeOf5
 v5 := Tryz.zeroValue5
 t9 := Tryz.underlying9
 a9 := Tryz.isAgg9
 z9 := Tryz.sizeOf9
 v9 := Tryz.zeroValue9
 t46 := Tryz.underlying284
 a46 := Tryz.isAgg284
 z46 := Tryz.sizeOf284
 v46 := Tryz.zeroValue284
 t51 := Tryz.underlying313
 a51 := Tryz.isAgg313
 z51 := Tryz.sizeOf313
 v51 := Tryz.zeroValue313
 t59 := Tryz.underlying180
 a59 := Tryz.isAgg180
 z59 := Tryz.sizeOf180
 v59 := Tryz.zeroValue180
 t146 := Tryz.underlying314
 a146 := Tryz.isAgg314
 z146 := Tryz.sizeOf314
 v146 := Tryz.zeroValue314
 g1 := by kernel_rfl }
open Go.RowKit Go.Lib in
theorem Tryz.strings_Cut (s sep : ByteArray)(m : Int)(w : World)(hs : s.size < 4294967281)(hm : w.cell? ⟨0, 0, none⟩ = some (.int .i64 m)) :
  Calls Tryz.prog 147 #[.string s, .string sep] w fun e w' => e = .returned (.tuple #[.string ⟨(Lib.cut s.data.toList sep.data.toList).1.toArray⟩, .string ⟨(Lib.cut s.data.toList sep.data.toList).2.1.toArray⟩, .bool (Lib.cut s.data.toList sep.data.toList).2.2]) ∧ ∃ n, w' = w.drewN n := Any.strings_Cut Tryz.lays145 s sep m w hs hm
def Tryz.laysM145_ren : di := ⟨fun | 145 => 147 | 220 => 222 | 219 => 280 | 217 => 307 | 225 => 308 | 224 => 309 | 267 => 310 | 266 => 331 | 314 => 332 | n => n, fun | 9 => 9 | 4 => 4 | 59 => 180 | 3 => 3 | 5 => 5 | 46 => 284 | 146 => 314 | 51 => 313 | n => n, fun | 1 => 0 | n => n⟩
theorem Tryz.laysM145 : Go.Proofs.LaysM.n145 Tryz.prog Tryz.laysM145_ren := {
 mixed := by kernel_rfl
 f145 := Tryz.func147.trans (congrArg some (by kernel_rfl))
 f217 := Tryz.func307.trans (congrArg some (by kernel_rfl))
 f219 := Tryz.func280.trans (congrArg some (by kernel_rfl))
 f220 := Tryz.func222.trans (congrArg some (by kernel_rfl))
 f224 := Tryz.func309.trans (congrArg some (by kernel_rfl))
 f225 := Tryz.func308.trans (congrArg some (by kernel_rfl))
 f266 := Tryz.func331.trans (congrArg some (by kernel_rfl))
 f267 := Tryz.func310.trans (congrArg some (by kernel_rfl))
 f314 := Tryz.func332.trans (congrArg some (by kernel_rfl))
 t3 := Tryz.underlying3
 a3 := Tryz.isAgg3
 z3 := Tryz.sizeOf3
 v3 := Tryz.zeroValue3
 t4 := Tryz.underlying4
 a4 := Tryz.isAgg4
 z4 := Tryz.sizeOf4
 v4 := Tryz.zeroValue4
 t5 := Tryz.underlying5
 a5 := Tryz.isAgg5
 z5 := Tryz.sizeOf5
 v5 := Tryz.zeroValue5
 t9 := Tryz.underlying9
 a9 := Tryz.isAgg9
 z9 := Tryz.sizeOf9
 v9 := Tryz.zeroValue9
 t46 := Tryz.underlying284
 a46 := Tryz.isAgg284
 z46 := Tryz.sizeOf284
 v46 := Tryz.zeroValue284
 t51 := Tryz.underlying313
 a51 := Tryz.isAgg313
 z51 := Tryz.sizeOf313
 v51 := Tryz.zeroValue313
 t59 := Tryz.underlying180
 a59 := Tryz.isAgg180
 z59 := Tryz.sizeOf180
 v59 := Tryz.zeroValue180
 t146 := Tryz.underlying314
 a146 := Tryz.isAgg314
 z146 := Tryz.sizeOf314
 v146 := Tryz.zeroValue314
 g1 := by kernel_rfl
 i3 := by kernel_rfl
 i4 := by kernel_rfl
 i5 := by kernel_rfl
 i9 := by kernel_rfl
 i46 := by kernel_rfl
 i51 := by kernel_rfl
 i59 := by kernel_rfl
 i146 := by kernel_rfl
 m1 := by kernel_rfl
 s1_3 := fun w h => Go.Proofs.cell_of_shapedOpen_int (zero := #[.int .i64 0]) (t := 3) h (of_decide_eq_true (by kernel_rfl)) (by kernel_rfl) rfl (by kernel_rfl) (by kernel_rfl) Tryz.underlying3 }
def Tryz.lays99_ren : di := ⟨fun | 99 => 258 | 206 => 297 | n => n, fun | 9 => 9 | 4 => 4 | 3 => 3 | n => n, fun | n => n⟩
theorem Tryz.lays99 : Go.Proofs.Lays.n99 Tryz.prog Tryz.lays99_ren := {
 mixed := by kernel_rfl
 f99 := Tryz.func258.trans (congrArg some (by kernel_rfl))
 f206 := Tryz.func297.trans (congrArg some (by kernel_rfl))
 t3 := Tryz.underlying3
 a3 := Tryz.isAgg3
 z3 := Tryz.sizeOf3
 v3 := Tryz.zeroValue3
 t4 := Tryz.underlying4
 a4 := Tryz.isAgg4
 z4 := Tryz.sizeOf4
 v4 := Tryz.zeroValue4
 t9 := Tryz.underlying9
 a9 := Tryz.isAgg9
 z9 := Tryz.sizeOf9
 v9 := Tryz.zeroValue9 }
open Go.RowKit Go.Lib in
theorem Tryz.strings_HasPrefix (s p : ByteArray)(w : World) :
  Calls Tryz.prog 258 #[.string s, .string p] w fun e w' => e = .returned (.bool (Lib.hasPrefix s.data.toList p.data.toList)) ∧ w' = w := Any.strings_HasPrefix Tryz.lays99 s p w
def Tryz.lays101_ren : di := ⟨fun | 101 => 259 | 208 => 298 | 206 => 297 | n => n, fun | 9 => 9 | 4 => 4 | 3 => 3 | n => n, fun | n => n⟩
theorem Tryz.lays101 : Go.Proofs.Lays.n101 Tryz.prog Tryz.lays101_ren := {
 mixed := by kernel_rfl
 f101 := Tryz.func259.trans (congrArg some (by kernel_rfl))
 f206 := Tryz.func297.trans (congrArg some (by kernel_rfl))
 f208 := Tryz.func298.trans (congrArg some (by kernel_rfl))
 t3 := Tryz.underlying3
 a3 := Tryz.isAgg3
 z3 := Tryz.sizeOf3
 v3 := Tryz.zeroValue3
 t4 := Tryz.underlying4
 a4 := Tryz.isAgg4
 z4 := Tryz.sizeOf4
 v4 := Tryz.zeroValue4
 t9 := Tryz.underlying9
 a9 := Tryz.isAgg9
 z9 := Tryz.sizeOf9
 v9 := Tryz.zeroValue9 }
open Go.RowKit Go.Lib in
theorem Tryz.strings_TrimPrefix (s p : ByteArray)(w : World) :
  Calls Tryz.prog 259 #[.string s, .string p] w fun e w' => e = .returned (.string ⟨(Lib.trimPrefix s.data.toList p.data.toList).toArray⟩) ∧ w' = w := Any.strings_TrimPrefix Tryz.lays101 s p w
def Tryz.lays146_ren : di := ⟨fun | 146 => 157 | 221 => 237 | 268 => 292 | 138 => 293 | 143 => 294 | 195 => 322 | 197 => 312 | 218 => 323 | 219 => 280 | 260 => 333 | 217 => 307 | 225 => 308 | 224 => 309 | 267 => 310 | 266 => 331 | 314 => 332 | n => n, fun | 9 => 9 | 31 => 187 | 3 => 3 | 4 => 4 | 0 => 0 | 105 => 318 | 21 => 21 | 5 => 5 | 46 => 284 | 119 => 346 | 139 => 349 | 138 => 348 | 146 => 314 | 51 => 313 | n => n, fun | 1 => 0 | 3 => 6 | 4 => 7 | n => n⟩
theorem Tryz.lays146 : Go.Proofs.Lays.n146 Tryz.prog Tryz.lays146_ren := {
 mixed := by kernel_rfl
 f138 := Tryz.func293.trans (congrArg some (by kernel_rfl))
 f143 := Tryz.func294.trans (congrArg some (by kernel_rfl))
 f146 := Tryz.func157.trans (congrArg some (by kernel_rfl))
 f195 := Tryz.func322.trans (congrArg some (by kernel_rfl))
 f197 := Tryz.func312.trans (congrArg some (by kernel_rfl))
 f217 := Tryz.func307.trans (congrArg some (by kernel_rfl))
 f218 := Tryz.func323.trans (congrArg some (by kernel_rfl))
 f219 := Tryz.func280.trans (congrArg some (by kernel_rfl))
 f221 := Tryz.func237.trans (congrArg some (by kernel_rfl))
 f224 := Tryz.func309.trans (congrArg some (by kernel_rfl))
 f225 := Tryz.func308.trans (congrArg some (by kernel_rfl))
 f260 := Tryz.func333.trans (congrArg some (by kernel_rfl))
 f266 := Tryz.func331.trans (congrArg some (by kernel_rfl))
 f267 := Tryz.func310.trans (congrArg some (by kernel_rfl))
 f268 := Tryz.func292.trans (congrArg some (by kernel_rfl))
 f314 := Tryz.func332.trans (congrArg some (by kernel_rfl))
 t0 := Tryz.underlying0
 a0 := Tryz.isAgg0
 z0 := Tryz.sizeOf0
 v0 := Tryz.zeroValue0
 t3 := Tryz.underlying3
 a3 := Tryz.isAgg3
 z3 := Tryz.sizeOf3
 v3 := Tryz.zeroValue3
 t4 := Tryz.underlying4
 a4 := Tryz.isAgg4
 z4 := Tryz.sizeOf4
 v4 := Tryz.zeroValue4
 t5 := Tryz.underlying5
 a5 := Tryz.isAgg5
 z5 := Tryz.sizeOf5
 v5 := Tryz.zeroValue5
 t9 := Tryz.underlying9
 a9 := Tryz.isAgg9
 z9 := Tryz.sizeOf9
 v9 := Tryz.zeroValue9
 t21 := Tryz.underlying21
 a21 := Tryz.isAgg21
 z21 := Tryz.sizeOf21
 v21 := Tryz.zeroValue21
 t31 := Tryz.underlying187
 a31 := Tryz.isAgg187
 z31 := Tryz.sizeOf187
 v31 := Tryz.zeroValue187
 t46 := Tryz.underlying284
 a46 := Tryz.isAgg284
 z46 := Tryz.sizeOf284
 v46 := Tryz.zeroValue284
 t51 := Tryz.underlying313
 a51 := Tryz.isAgg313
 z51 := Tryz.sizeOf313
 v51 := Tryz.zeroValue313
 t105 := Tryz.underlying318
 a105 := Tryz.isAgg318
 z105 := Tryz.sizeOf318
 v105 := Tryz.zeroValue318
 t119 := Tryz.underlying346
 a119 := Tryz.isAgg346
 z119 := Tryz.sizeOf346
 t138 := Tryz.underlying348
 a138 := Tryz.isAgg348
 z138 := Tryz.sizeOf348
 v138 := Tryz.zeroValue348
 t139 := Tryz.underlying349
 a139 := Tryz.isAgg349
 z139 := Tryz.sizeOf349
 v139 := Tryz.zeroValue349
 t146 := Tryz.underlying314
 a146 := Tryz.isAgg314
 z146 := Tryz.sizeOf314
 v146 := Tryz.zeroValue314
 g1 := by kernel_rfl
 g3 := by kernel_rfl
 g4 := by kernel_rfl }
open Go.RowKit Go.Lib in
theorem Tryz.strings_Split (s sep : ByteArray)(m : Int)(w : World)(hs : s.size < 4294967281)(hm : w.cell? ⟨0, 0, none⟩ = some (.int .i64 m))(h1 : 1 ≤ sep.size) :
  Calls Tryz.prog 157 #[.string s, .string sep] w fun e w' =>
   e = .returned (.slice (some ⟨w.heap.size, 0, none⟩) (Lib.countB s sep + 1) (Lib.countB s sep + 1)) ∧ w' = w.alloc (.cells ((Lib.splitB sep 0 (Lib.countB s sep) s).map Value.string).toArray 9) := Any.strings_Split Tryz.lays146 (by kernel_rfl) s sep m w hs hm h1
def Tryz.lays105_ren : di := ⟨fun | 105 => 221 | 212 => 278 | 99 => 258 | 165 => 233 | 166 => 234 | 170 => 279 | 169 => 235 | 263 => 306 | 264 => 261 | 206 => 297 | 240 => 290 | 241 => 291 | 276 => 320 | 277 => 321 | n => n, fun | 9 => 9 | 3 => 3 | 4 => 4 | 20 => 20 | 0 => 0 | 46 => 284 | 109 => 295 | 5 => 5 | 72 => 263 | 76 => 256 | 51 => 313 | 146 => 314 | 53 => 278 | 148 => 279 | 70 => 260 | 37 => 261 | 75 => 255 | 127 => 306 | 164 => 327 | 80 => 265 | n => n, fun | n => n⟩
theorem Tryz.lays105 : Go.Proofs.Lays.n105 Tryz.prog Tryz.lays105_ren := {
 mixed := by kernel_rfl
 f99 := Tryz.func258.trans (congrArg some (by kernel_rfl))
 f105 := Tryz.func221.trans (congrArg some (by kernel_rfl))
 f165 := Tryz.func233.trans (congrArg some (by kernel_rfl))
 f166 := Tryz.func234.trans (congrArg some (by kernel_rfl))
 f169 := Tryz.func235.trans (congrArg some (by kernel_rfl))
 f170 := Tryz.func279.trans (congrArg some (by kernel_rfl))
 f206 := Tryz.func297.trans (congrArg some (by kernel_rfl))
 f212 := Tryz.func278.trans (congrArg some (by kernel_rfl))
 f240 := Tryz.func290.trans (congrArg some (by kernel_rfl))
 f241 := Tryz.func291.trans (congrArg some (by kernel_rfl))
 f263 := Tryz.func306.trans (congrArg some (by kernel_rfl))
 f264 := Tryz.func261.trans (congrArg some (by kernel_rfl))
 f276 := Tryz.func320.trans (congrArg some (by kernel_rfl))
 f277 := Tryz.func321.trans (congrArg some (by kernel_rfl))
 t0 := Tryz.underlying0
 a0 := Tryz.isAgg0
 z0 := Tryz.sizeOf0
 v0 := Tryz.zeroValue0
 t3 := Tryz.underlying3
 a3 := Tryz.isAgg3
 z3 := Tryz.sizeOf3
 v3 := Tryz.zeroValue3
 t4 := Tryz.underlying4
 a4 := Tryz.isAgg4
 z4 := Tryz.sizeOf4
 v4 := Tryz.zeroValue4
 t5 := Tryz.underlying5
 a5 := Tryz.isAgg5
 z5 := Tryz.sizeOf5
 v5 := Tryz.zeroValue5
 t9 := Tryz.underlying9
 a9 := Tryz.isAgg9
 z9 := Tryz.sizeOf9
 v9 := Tryz.zeroValue9
 t20 := Tryz.underlying20
 a20 := Tryz.isAgg20
 z20 := Tryz.sizeOf20
 v20 := Tryz.zeroValue20
 t37 := Tryz.underlying261
 a37 := Tryz.isAgg261
 z37 := Tryz.sizeOf261
 v37 := Tryz.zeroValue261
 t46 := Tryz.underlying284
 a46 := Tryz.isAgg284
 z46 := Tryz.sizeOf284
 v46 := Tryz.zeroValue284
 t51 := Tryz.underlying313
 a51 := Tryz.isAgg313
 z51 := Tryz.sizeOf313
 v51 := Tryz.zeroValue313
 t53 := Tryz.underlying278
 a53 := Tryz.isAgg278
 z53 := Tryz.sizeOf278
 v53 := Tryz.zeroValue278
 t70 := Tryz.underlying260
 a70 := Tryz.isAgg260
 z70 := Tryz.sizeOf260
 v70 := Tryz.zeroValue260
 t72 := Tryz.underlying263
 a72 := Tryz.isAgg263
 z72 := Tryz.sizeOf263
 v72 := Tryz.zeroValue263
 t75 := Tryz.underlying255
 a75 := Tryz.isAgg255
 z75 := Tryz.sizeOf255
 v75 := Tryz.zeroValue255
 t76 := Tryz.underlying256
 a76 := Tryz.isAgg256
 z76 := Tryz.sizeOf256
 v76 := Tryz.zeroValue256
 t109 := Tryz.underlying295
 a109 := Tryz.isAgg295
 z109 := Tryz.sizeOf295
 v109 := Tryz.zeroValue295
 t127 := Tryz.underlying306
 a127 := Tryz.isAgg306
 z127 := Tryz.sizeOf306
 v127 := Tryz.zeroValue306
 t146 := Tryz.underlying314
 a146 := Tryz.isAgg314
 z146 := Tryz.sizeOf314
 v146 := Tryz.zeroValue314
 t148 := Tryz.underlying279
 a148 := Tryz.isAgg279
 z148 := Tryz.sizeOf279
 v148 := Tryz.zeroValue279
 t164 := Tryz.underlying327
 a164 := Tryz.isAgg327
 z164 := Tryz.sizeOf327
 v164 := Tryz.zeroValue327 }
theorem Tryz.Builder_Extra_105 : Builder.Extra Tryz.prog Tryz.lays105_ren := {
 sizeBuilder := by kernel_rfl
 liesBuilder := by kernel_rfl
 t5 := Tryz.underlying5
 a5 := Tryz.isAgg5
 z5 := Tryz.sizeOf5
 v5 := Tryz.zeroValue5
 infoByte := by kernel_rfl
 cellsByte := by kernel_rfl
 sizeByte := by kernel_rfl
 neB5 := by decide }
open Go.RowKit Go.Lib in
theorem Tryz.strings_Repeat (s : ByteArray)(c : Nat)(w : World)(hc : c ≤ 9223372036854775807)(hlen : s.size * c ≤ 140737488355328) :
  Calls Tryz.prog 221 #[.string s, .int .i64 c] w fun e w' => e = .returned (.string ⟨(Lib.repeatL s.data.toList c).toArray⟩) ∧ Below w.heap.size w w' := Any.strings_Repeat Tryz.lays105 Tryz.Builder_Extra_105 s c w hc hlen
end Go.Proofs
