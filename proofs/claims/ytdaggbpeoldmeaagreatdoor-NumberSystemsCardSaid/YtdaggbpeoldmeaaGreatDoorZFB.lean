/- The functions of the program: they are what was printed. -/
import Derived.Test.YtdaggbpeoldmeaaGreatDoorM2
import Derived.Test.YtdaggbpeoldmeaaGreatDoorZFA
open Option.some renaming inj → aa
set_option linter.unusedVariables false
set_option maxRecDepth 100000
namespace Go.Ae
def BT (P:Program)(f:Nat):Option cy:=
 match P.funcs[f]? with
 | some fn=>match fn.name== "runtime.NumGoroutine" with
  |true=>none
  | false=>match fn.body with
   |some c=>T9 P fn c
   |none=>none
 |none=>none
def T.Forall {α:Type}(p:Nat→α→Prop):T α→(Nat→Nat)→Prop
 | .nil,_=>True
 | .node l v r,g=>(∀x,v=some x→p (g 0) x)∧T.Forall p l (fun n=>g (2*n+1))∧T.Forall p r (fun n=>g (2*n+2))
theorem T.fZ {α:Type}{p:Nat→α→Prop}:∀(t:T α) (g:Nat→Nat),T.Forall p t g→∀n x,t.get n=some x→p (g n) x
 | .nil,_,_,n,x,h=>by rw[T.get_nil]at h;cases h
 | .node l v r,g,hf,n,x,h=>by
  obtain⟨h1,h2,h3⟩:=hf;rw[T.iH]at h;split at h
  ·rename_i e;subst e;exact h1 x h
  ·split at h
   ·have:=T.fZ l _ h2 (n/2) x h;simpa only[show 2*(n/2)+1=n by omega]using this
   ·have:=T.fZ r _ h3 (n/2-1) x h;simpa only[show 2*(n/2-1)+2=n by omega]using this
theorem zP {P:Program}{f:Nat}{a:cy}(h:BT P f=some a):∃fn c,P.funcs[f]?=some fn∧(fn.name== "runtime.NumGoroutine")=false∧fn.body=some c∧T9 P fn c=some a:=by
 unfold BT at h;split at h
 ·rename_i fn hf;split at h
  ·cases h
  ·rename_i hn;split at h
   ·rename_i c hc;exact⟨fn,c,hf,hn,hc,h⟩
   ·cases h
 ·cases h
end Go.Ae
namespace Go.Ae.C
open Go.Proofs
theorem no {α:Type}{p:Nat→α→Prop}{k:Nat}:∀x,(none:Option α)=some x→p k x:=nofun
theorem yes {α:Type}{p:Nat→α→Prop}{k:Nat}{a:α}(h:p k a):∀x,some a=some x→p k x:=fun x e=>aa e▸h
def aR (f:Nat)(a:cy):Prop:=BT Tryz.prog f=some a
noncomputable def cp (n:Nat):cy:=(BT Tryz.prog n).getD ⟨0,[],.bad⟩
theorem AA {n:Nat}(h:(BT Tryz.prog n).isSome=true):BT Tryz.prog n=some (cp n):=by
 unfold cp;cases c:BT Tryz.prog n with
 |none=>rw[c]at h;cases h
 |some a=>rfl
theorem b24:aR 24 a24:=by unfold aR;kernel_rfl
theorem b29:aR 29 a29:=by unfold aR;kernel_rfl
theorem b37:aR 37 a37:=by unfold aR;kernel_rfl
theorem b46:aR 46 a46:=by unfold aR;kernel_rfl
theorem b60:aR 60 a60:=by unfold aR;kernel_rfl
theorem b63:aR 63 a63:=by unfold aR;kernel_rfl
theorem b95:aR 95 a95:=by unfold aR;kernel_rfl
theorem b96:aR 96 a96:=by unfold aR;kernel_rfl
theorem Zo:aR 101 uE:=by unfold aR;kernel_rfl
theorem Zm:aR 108 Tw:=by unfold aR;kernel_rfl
theorem Zl:aR 110 LW:=by unfold aR;kernel_rfl
theorem Zk:aR 111 LV:=by unfold aR;kernel_rfl
theorem Zj:aR 112 LU:=by unfold aR;kernel_rfl
theorem Zi:aR 113 Tv:=by unfold aR;kernel_rfl
theorem Zh:aR 114 Tu:=by unfold aR;kernel_rfl
theorem Zg:aR 115 LS:=by unfold aR;kernel_rfl
theorem Zf:aR 116 a116:=by unfold aR;kernel_rfl
theorem Ze:aR 117 a117:=by unfold aR;kernel_rfl
theorem Zd:aR 118 Tt:=by unfold aR;kernel_rfl
theorem Zc:aR 119 a119:=by unfold aR;kernel_rfl
theorem Zb:aR 120 LR:=by unfold aR;kernel_rfl
theorem Za:aR 121 Ca:=by unfold aR;kernel_rfl
theorem Y3:aR 130 a130:=by unfold aR;kernel_rfl
theorem Y2:aR 131 a131:=by unfold aR;kernel_rfl
theorem Y1:aR 132 Tq:=by unfold aR;kernel_rfl
theorem Y0:aR 133 To:=by unfold aR;kernel_rfl
theorem YZ:aR 134 Tn:=by unfold aR;kernel_rfl
theorem YX:aR 136 LJ:=by unfold aR;kernel_rfl
theorem YW:aR 137 LI:=by unfold aR;kernel_rfl
theorem YV:aR 138 a138:=by unfold aR;kernel_rfl
theorem YU:aR 139 a139:=by unfold aR;kernel_rfl
theorem YT:aR 140 LH:=by unfold aR;kernel_rfl
theorem YS:aR 141 a141:=by unfold aR;kernel_rfl
theorem YO:aR 145 a145:=by unfold aR;kernel_rfl
theorem YN:aR 148 a148:=by unfold aR;kernel_rfl
theorem YM:aR 151 LF:=by unfold aR;kernel_rfl
theorem YL:aR 153 LD:=by unfold aR;kernel_rfl
theorem YK:aR 154 a154:=by unfold aR;kernel_rfl
theorem YJ:aR 158 Tm:=by unfold aR;kernel_rfl
theorem YI:aR 159 a159:=by unfold aR;kernel_rfl
theorem YH:aR 161 Tl:=by unfold aR;kernel_rfl
theorem YG:aR 163 B9:=by unfold aR;kernel_rfl
theorem YF:aR 164 a164:=by unfold aR;kernel_rfl
theorem YE:aR 166 Tj:=by unfold aR;kernel_rfl
theorem Yx:aR 175 a175:=by unfold aR;kernel_rfl
theorem Yv:aR 178 Ti:=by unfold aR;kernel_rfl
theorem Yu:aR 179 Th:=by unfold aR;kernel_rfl
theorem Yr:aR 183 a183:=by unfold aR;kernel_rfl
theorem Yp:aR 186 Lw:=by unfold aR;kernel_rfl
theorem Yo:aR 189 EG:=by unfold aR;kernel_rfl
theorem Yn:aR 190 Lv:=by unfold aR;kernel_rfl
theorem Ym:aR 191 Lu:=by unfold aR;kernel_rfl
theorem Yl:aR 192 Ai:=by unfold aR;kernel_rfl
theorem Yk:aR 194 a194:=by unfold aR;kernel_rfl
theorem Yj:aR 195 pP:=by unfold aR;kernel_rfl
theorem Yi:aR 196 a196:=by unfold aR;kernel_rfl
theorem Yh:aR 197 pO:=by unfold aR;kernel_rfl
theorem Yg:aR 198 a198:=by unfold aR;kernel_rfl
theorem Yf:aR 199 Lt:=by unfold aR;kernel_rfl
theorem Ye:aR 200 Ls:=by unfold aR;kernel_rfl
theorem Yd:aR 201 a201:=by unfold aR;kernel_rfl
theorem Yc:aR 202 Lq:=by unfold aR;kernel_rfl
theorem Yb:aR 203 a203:=by unfold aR;kernel_rfl
theorem Ya:aR 204 xG:=by unfold aR;kernel_rfl
theorem X9:aR 205 Lp:=by unfold aR;kernel_rfl
theorem X8:aR 206 a206:=by unfold aR;kernel_rfl
theorem X4:aR 210 a210:=by unfold aR;kernel_rfl
theorem X3:aR 211 Tg:=by unfold aR;kernel_rfl
theorem XZ:aR 212 a212:=by unfold aR;kernel_rfl
theorem XY:aR 213 a213:=by unfold aR;kernel_rfl
theorem XW:aR 215 Ln:=by unfold aR;kernel_rfl
theorem XV:aR 216 Lm:=by unfold aR;kernel_rfl
theorem XR:aR 226 a226:=by unfold aR;kernel_rfl
theorem XQ:aR 227 a227:=by unfold aR;kernel_rfl
theorem XP:aR 228 a228:=by unfold aR;kernel_rfl
theorem XO:aR 229 a229:=by unfold aR;kernel_rfl
theorem XN:aR 230 Tf:=by unfold aR;kernel_rfl
theorem XM:aR 231 Te:=by unfold aR;kernel_rfl
theorem XL:aR 232 a232:=by unfold aR;kernel_rfl
theorem XK:aR 238 Td:=by unfold aR;kernel_rfl
theorem XJ:aR 241 Li:=by unfold aR;kernel_rfl
theorem XI:aR 242 Lh:=by unfold aR;kernel_rfl
theorem XH:aR 245 Lf:=by unfold aR;kernel_rfl
theorem XA:aR 254 Tc:=by unfold aR;kernel_rfl
theorem Xz:aR 257 K7:=by unfold aR;kernel_rfl
theorem Xy:aR 260 K5:=by unfold aR;kernel_rfl
theorem Xx:aR 261 K4:=by unfold aR;kernel_rfl
theorem Xw:aR 262 K3:=by unfold aR;kernel_rfl
theorem Xv:aR 263 K0:=by unfold aR;kernel_rfl
theorem Xu:aR 265 qF:=by unfold aR;kernel_rfl
theorem Xt:aR 266 KZ:=by unfold aR;kernel_rfl
theorem Xs:aR 268 EE:=by unfold aR;kernel_rfl
theorem Xo:aR 273 Tb:=by unfold aR;kernel_rfl
theorem Xl:aR 274 Ta:=by unfold aR;kernel_rfl
theorem Xk:aR 275 SZ:=by unfold aR;kernel_rfl
theorem Xh:aR 300 sk:=by unfold aR;kernel_rfl
theorem Xg:aR 301 KU:=by unfold aR;kernel_rfl
theorem Xe:aR 302 KT:=by unfold aR;kernel_rfl
theorem Xd:aR 303 rD:=by unfold aR;kernel_rfl
theorem Xc:aR 304 SY:=by unfold aR;kernel_rfl
theorem Xb:aR 326 SX:=by unfold aR;kernel_rfl
noncomputable def kX:T cy:=(.node (.node (.node (.node (.node (.node (.node .nil (some a63) (.node .nil (some Lu) .nil)) none (.node (.node .nil (some a159) .nil) (some a95) .nil)) none (.node .nil none (.node (.node (.node .nil (some rD) .nil) (some a175) .nil) (some LV) .nil))) none (.node (.node (.node (.node (.node .nil (some K0) .nil) none .nil) none (.node .nil (some Lt) .nil)) none (.node .nil none (.node .nil (some Te) .nil))) none (.node (.node (.node .nil (some LF) .nil) none (.node .nil (some Ln) .nil)) none (.node (.node .nil (some a183) .nil) (some a119) .nil)))) none (.node (.node (.node (.node (.node .nil (some a131) .nil) none (.node .nil (some pP) .nil)) none (.node (.node .nil (some B9) .nil) none (.node .nil (some a227) .nil))) none (.node (.node (.node (.node .nil (some SZ) .nil) none .nil) none (.node .nil (some Tg) .nil)) none (.node (.node .nil (some Th) .nil) (some LS) (.node .nil (some (cp 243)) .nil)))) none (.node (.node (.node (.node .nil (some a139) .nil) none (.node .nil (some a203) .nil)) none .nil) none .nil))) none (.node (.node (.node (.node (.node (.node (.node .nil (some K7) .nil) none .nil) none .nil) none (.node (.node .nil (some Tl) .nil) none .nil)) (some (cp 17)) (.node (.node (.node (.node .nil (some Tb) .nil) (some a145) .nil) none .nil) none (.node (.node .nil (some (cp 177)) .nil) (some Tv) (.node .nil (some Li) .nil)))) none (.node (.node (.node (.node (.node .nil (some qF) .nil) (some LI) .nil) none (.node .nil (some a201) .nil)) none .nil) none (.node (.node (.node .nil (some LD) .nil) none .nil) none (.node .nil (some Ca) .nil)))) none (.node (.node (.node (.node (.node (.node .nil (some K4) .nil) (some To) .nil) none (.node .nil (some pO) .nil)) (some a37) (.node (.node .nil (some (cp 165)) .nil) (some uE) (.node .nil (some a229) .nil))) none (.node (.node .nil (some (cp 85)) (.node .nil (some a213) .nil)) none (.node .nil (some a117) (.node .nil (some Lf) .nil)))) none (.node (.node (.node (.node .nil (some a141) .nil) none (.node .nil (some Lp) .nil)) none (.node (.node (.node .nil (some KU) .nil) none .nil) (some (cp 109)) .nil)) (some a29) (.node .nil none (.node (.node .nil (some EG) .nil) none .nil)))))) none (.node (.node (.node (.node (.node (.node .nil (some (cp 64)) (.node .nil (some Ai) .nil)) none (.node .nil (some a96) .nil)) none (.node (.node .nil (some (cp 80)) .nil) (some (cp 48)) (.node (.node (.node .nil (some SY) .nil) none .nil) (some LU) .nil))) none (.node (.node (.node (.node .nil (some LJ) .nil) none (.node .nil (some Ls) .nil)) (some (cp 40)) (.node .nil none (.node .nil (some a232) .nil))) (some a24) (.node (.node .nil none (.node .nil (some Lm) .nil)) none (.node .nil (some LR) .nil)))) none (.node (.node (.node (.node (.node (.node .nil (some K5) .nil) (some Tq) .nil) none (.node .nil (some a196) .nil)) none (.node (.node .nil (some a164) .nil) none (.node .nil (some a228) .nil))) none (.node (.node (.node .nil (some a148) .nil) (some (cp 84)) (.node .nil (some a212) .nil)) (some (cp 52)) (.node .nil (some a116) (.node .nil (some (cp 244)) .nil)))) none (.node (.node (.node (.node (.node .nil (some EE) .nil) (some LH) .nil) none (.node .nil (some xG) .nil)) none (.node (.node (.node .nil (some sk) .nil) none .nil) (some Tw) .nil)) none (.node .nil (some a60) .nil)))) none (.node (.node (.node (.node (.node (.node .nil (some a130) .nil) none (.node .nil (some a194) .nil)) none (.node (.node .nil (some (cp 162)) .nil) none (.node .nil (some a226) .nil))) (some (cp 18)) (.node (.node (.node (.node .nil (some Ta) .nil) none .nil) none (.node .nil (some a210) .nil)) none (.node (.node .nil (some Ti) .nil) (some Tu) (.node .nil (some Lh) .nil)))) none (.node (.node (.node (.node (.node .nil (some KZ) .nil) (some a138) .nil) none (.node .nil (some Lq) .nil)) none .nil) none (.node (.node (.node .nil (some a154) .nil) none .nil) none (.node (.node .nil (some Lw) .nil) none .nil)))) none (.node (.node (.node (.node (.node (.node .nil (some K3) .nil) (some Tn) .nil) none (.node (.node .nil (some SX) .nil) (some a198) .nil)) none (.node (.node .nil (some Tj) .nil) none (.node .nil (some Tf) .nil))) none (.node .nil none (.node .nil (some Tt) .nil))) none (.node (.node (.node .nil none (.node .nil (some a206) .nil)) (some a46) (.node (.node (.node .nil (some KT) .nil) (some (cp 174)) .nil) (some LW) (.node .nil (some Td) .nil))) none (.node (.node (.node .nil (some Tm) .nil) none .nil) none (.node (.node .nil (some Lv) .nil) none (.node .nil (some Tc) .nil))))))))
theorem all:T.Forall aR kX (fun n=>n):=⟨no,⟨no,⟨no,⟨no,⟨no,⟨no,⟨yes b63,trivial,⟨yes Ym,trivial,trivial⟩⟩,⟨yes b95,⟨yes YI,trivial,trivial⟩,trivial⟩⟩,⟨no,trivial,⟨yes Zk,⟨yes Yx,⟨yes Xd,trivial,trivial⟩,trivial⟩,trivial⟩⟩⟩,⟨no,⟨no,⟨no,⟨no,⟨yes Xv,trivial,trivial⟩,trivial⟩,⟨yes Yf,trivial,trivial⟩⟩,⟨no,trivial,⟨yes XM,trivial,trivial⟩⟩⟩,⟨no,⟨no,⟨yes YM,trivial,trivial⟩,⟨yes XW,trivial,trivial⟩⟩,⟨yes Zc,⟨yes Yr,trivial,trivial⟩,trivial⟩⟩⟩⟩,⟨no,⟨no,⟨no,⟨no,⟨yes Y2,trivial,trivial⟩,⟨yes Yj,trivial,trivial⟩⟩,⟨no,⟨yes YG,trivial,trivial⟩,⟨yes XQ,trivial,trivial⟩⟩⟩,⟨no,⟨no,⟨no,⟨yes Xk,trivial,trivial⟩,trivial⟩,⟨yes X3,trivial,trivial⟩⟩,⟨yes Zg,⟨yes Yu,trivial,trivial⟩,⟨yes (AA (by kernel_rfl)),trivial,trivial⟩⟩⟩⟩,⟨no,⟨no,⟨no,⟨yes YU,trivial,trivial⟩,⟨yes Yb,trivial,trivial⟩⟩,trivial⟩,trivial⟩⟩⟩,⟨no,⟨no,⟨yes (AA (by kernel_rfl)),⟨no,⟨no,⟨no,⟨yes Xz,trivial,trivial⟩,trivial⟩,trivial⟩,⟨no,⟨yes YH,trivial,trivial⟩,trivial⟩⟩,⟨no,⟨no,⟨yes YO,⟨yes Xo,trivial,trivial⟩,trivial⟩,trivial⟩,⟨yes Zi,⟨yes (AA (by kernel_rfl)),trivial,trivial⟩,⟨yes XJ,trivial,trivial⟩⟩⟩⟩,⟨no,⟨no,⟨no,⟨yes YW,⟨yes Xu,trivial,trivial⟩,trivial⟩,⟨yes Yd,trivial,trivial⟩⟩,trivial⟩,⟨no,⟨no,⟨yes YL,trivial,trivial⟩,trivial⟩,⟨yes Za,trivial,trivial⟩⟩⟩⟩,⟨no,⟨no,⟨yes b37,⟨no,⟨yes Y0,⟨yes Xx,trivial,trivial⟩,trivial⟩,⟨yes Yh,trivial,trivial⟩⟩,⟨yes Zo,⟨yes (AA (by kernel_rfl)),trivial,trivial⟩,⟨yes XO,trivial,trivial⟩⟩⟩,⟨no,⟨yes (AA (by kernel_rfl)),trivial,⟨yes XY,trivial,trivial⟩⟩,⟨yes Ze,trivial,⟨yes XH,trivial,trivial⟩⟩⟩⟩,⟨yes b29,⟨no,⟨no,⟨yes YS,trivial,trivial⟩,⟨yes X9,trivial,trivial⟩⟩,⟨yes (AA (by kernel_rfl)),⟨no,⟨yes Xg,trivial,trivial⟩,trivial⟩,trivial⟩⟩,⟨no,trivial,⟨no,⟨yes Yo,trivial,trivial⟩,trivial⟩⟩⟩⟩⟩⟩,⟨no,⟨no,⟨no,⟨no,⟨no,⟨yes (AA (by kernel_rfl)),trivial,⟨yes Yl,trivial,trivial⟩⟩,⟨yes b96,trivial,trivial⟩⟩,⟨yes (AA (by kernel_rfl)),⟨yes (AA (by kernel_rfl)),trivial,trivial⟩,⟨yes Zj,⟨no,⟨yes Xc,trivial,trivial⟩,trivial⟩,trivial⟩⟩⟩,⟨yes b24,⟨yes (AA (by kernel_rfl)),⟨no,⟨yes YX,trivial,trivial⟩,⟨yes Ye,trivial,trivial⟩⟩,⟨no,trivial,⟨yes XL,trivial,trivial⟩⟩⟩,⟨no,⟨no,trivial,⟨yes XV,trivial,trivial⟩⟩,⟨yes Zb,trivial,trivial⟩⟩⟩⟩,⟨no,⟨no,⟨no,⟨no,⟨yes Y1,⟨yes Xy,trivial,trivial⟩,trivial⟩,⟨yes Yi,trivial,trivial⟩⟩,⟨no,⟨yes YF,trivial,trivial⟩,⟨yes XP,trivial,trivial⟩⟩⟩,⟨yes (AA (by kernel_rfl)),⟨yes (AA (by kernel_rfl)),⟨yes YN,trivial,trivial⟩,⟨yes XZ,trivial,trivial⟩⟩,⟨yes Zf,trivial,⟨yes (AA (by kernel_rfl)),trivial,trivial⟩⟩⟩⟩,⟨no,⟨no,⟨no,⟨yes YT,⟨yes Xs,trivial,trivial⟩,trivial⟩,⟨yes Ya,trivial,trivial⟩⟩,⟨yes Zm,⟨no,⟨yes Xh,trivial,trivial⟩,trivial⟩,trivial⟩⟩,⟨yes b60,trivial,trivial⟩⟩⟩⟩,⟨no,⟨no,⟨yes (AA (by kernel_rfl)),⟨no,⟨no,⟨yes Y3,trivial,trivial⟩,⟨yes Yk,trivial,trivial⟩⟩,⟨no,⟨yes (AA (by kernel_rfl)),trivial,trivial⟩,⟨yes XR,trivial,trivial⟩⟩⟩,⟨no,⟨no,⟨no,⟨yes Xl,trivial,trivial⟩,trivial⟩,⟨yes X4,trivial,trivial⟩⟩,⟨yes Zh,⟨yes Yv,trivial,trivial⟩,⟨yes XI,trivial,trivial⟩⟩⟩⟩,⟨no,⟨no,⟨no,⟨yes YV,⟨yes Xt,trivial,trivial⟩,trivial⟩,⟨yes Yc,trivial,trivial⟩⟩,trivial⟩,⟨no,⟨no,⟨yes YK,trivial,trivial⟩,trivial⟩,⟨no,⟨yes Yp,trivial,trivial⟩,trivial⟩⟩⟩⟩,⟨no,⟨no,⟨no,⟨no,⟨yes YZ,⟨yes Xw,trivial,trivial⟩,trivial⟩,⟨yes Yg,⟨yes Xb,trivial,trivial⟩,trivial⟩⟩,⟨no,⟨yes YE,trivial,trivial⟩,⟨yes XN,trivial,trivial⟩⟩⟩,⟨no,trivial,⟨yes Zd,trivial,trivial⟩⟩⟩,⟨no,⟨yes b46,⟨no,trivial,⟨yes X8,trivial,trivial⟩⟩,⟨yes Zl,⟨yes (AA (by kernel_rfl)),⟨yes Xe,trivial,trivial⟩,trivial⟩,⟨yes XK,trivial,trivial⟩⟩⟩,⟨no,⟨no,⟨yes YJ,trivial,trivial⟩,trivial⟩,⟨no,⟨yes Yn,trivial,trivial⟩,⟨yes XA,trivial,trivial⟩⟩⟩⟩⟩⟩⟩⟩
noncomputable def fns (n:Nat):Option cy:=kX.get n
theorem xj:IL Tryz.prog (L.En fns):=fun f a h=>zP (T.fZ kX (fun n=>n) all f a h)
end Go.Ae.C
