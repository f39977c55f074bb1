/- The functions of the program: they are what was printed. -/
import Derived.Test.YtdaggbpeoldmeaaGreatDoorM2
import Derived.Test.YtdaggbpeoldmeaaGreatDoorZFA
open Option.some renaming inj → aa
set_option linter.unusedVariables false
set_option maxRecDepth 100000
namespace Go.Ae
def DQ (P:Program)(f:Nat):Option cP:=
 match P.funcs[f]? with
 | some fn=>match fn.name== "runtime.NumGoroutine" with
  |true=>none
  | false=>match fn.body with
   |some c=>U9 P fn c
   |none=>none
 |none=>none
def T.Forall {α:Type}(p:Nat→α→Prop):T α→(Nat→Nat)→Prop
 | .nil,_=>True
 | .node l v r,g=>(∀x,v=some x→p (g 0) x)∧T.Forall p l (fun n=>g (2*n+1))∧T.Forall p r (fun n=>g (2*n+2))
theorem T.gS {α:Type}{p:Nat→α→Prop}:∀(t:T α) (g:Nat→Nat),T.Forall p t g→∀n x,t.get n=some x→p (g n) x
 | .nil,_,_,n,x,h=>by rw[T.get_nil]at h;cases h
 | .node l v r,g,hf,n,x,h=>by
  obtain⟨h1,h2,h3⟩:=hf;rw[T.iU]at h;split at h
  ·rename_i e;subst e;exact h1 x h
  ·split at h
   ·have:=T.gS l _ h2 (n/2) x h;simpa only[show 2*(n/2)+1=n by omega]using this
   ·have:=T.gS r _ h3 (n/2-1) x h;simpa only[show 2*(n/2-1)+2=n by omega]using this
theorem Ah {P:Program}{f:Nat}{a:cP}(h:DQ P f=some a):∃fn c,P.funcs[f]?=some fn∧(fn.name== "runtime.NumGoroutine")=false∧fn.body=some c∧U9 P fn c=some a:=by
 unfold DQ at h;split at h
 ·rename_i fn hf;split at h
  ·cases h
  ·rename_i hn;split at h
   ·rename_i c hc;exact⟨fn,c,hf,hn,hc,h⟩
   ·cases h
 ·cases h
end Go.Ae
namespace Go.Ae.C
open Go.Proofs
theorem no {α:Type}{p:Nat→α→Prop}{k:Nat}:∀x,(none:Option α)=some x→p k x:=nofun
theorem yes {α:Type}{p:Nat→α→Prop}{k:Nat}{a:α}(h:p k a):∀x,some a=some x→p k x:=fun x e=>aa e▸h
def bh (f:Nat)(a:cP):Prop:=DQ Tryz.prog f=some a
noncomputable def cp (n:Nat):cP:=(DQ Tryz.prog n).getD ⟨0,[],.bad⟩
theorem Ab {n:Nat}(h:(DQ Tryz.prog n).isSome=true):DQ Tryz.prog n=some (cp n):=by
 unfold cp;cases c:DQ Tryz.prog n with
 |none=>rw[c]at h;cases h
 |some a=>rfl
theorem b24:bh 24 a24:=by unfold bh;kernel_rfl
theorem b29:bh 29 Vi:=by unfold bh;kernel_rfl
theorem b37:bh 37 a37:=by unfold bh;kernel_rfl
theorem b46:bh 46 a46:=by unfold bh;kernel_rfl
theorem b60:bh 60 a60:=by unfold bh;kernel_rfl
theorem b63:bh 63 a63:=by unfold bh;kernel_rfl
theorem b95:bh 95 a95:=by unfold bh;kernel_rfl
theorem b96:bh 96 a96:=by unfold bh;kernel_rfl
theorem b101:bh 101 uU:=by unfold bh;kernel_rfl
theorem b108:bh 108 Us:=by unfold bh;kernel_rfl
theorem b111:bh 111 MT:=by unfold bh;kernel_rfl
theorem b112:bh 112 MS:=by unfold bh;kernel_rfl
theorem b113:bh 113 Ur:=by unfold bh;kernel_rfl
theorem b114:bh 114 Uq:=by unfold bh;kernel_rfl
theorem b115:bh 115 MR:=by unfold bh;kernel_rfl
theorem b116:bh 116 a116:=by unfold bh;kernel_rfl
theorem b117:bh 117 a117:=by unfold bh;kernel_rfl
theorem b118:bh 118 Up:=by unfold bh;kernel_rfl
theorem b119:bh 119 a119:=by unfold bh;kernel_rfl
theorem b120:bh 120 MQ:=by unfold bh;kernel_rfl
theorem b121:bh 121 Cw:=by unfold bh;kernel_rfl
theorem Z7:bh 130 a130:=by unfold bh;kernel_rfl
theorem Z6:bh 131 a131:=by unfold bh;kernel_rfl
theorem Z5:bh 132 MJ:=by unfold bh;kernel_rfl
theorem Z4:bh 133 MI:=by unfold bh;kernel_rfl
theorem Z3:bh 134 MH:=by unfold bh;kernel_rfl
theorem Z1:bh 136 MF:=by unfold bh;kernel_rfl
theorem Z0:bh 137 ME:=by unfold bh;kernel_rfl
theorem ZZ:bh 138 a138:=by unfold bh;kernel_rfl
theorem ZY:bh 139 a139:=by unfold bh;kernel_rfl
theorem ZX:bh 140 MD:=by unfold bh;kernel_rfl
theorem ZW:bh 141 a141:=by unfold bh;kernel_rfl
theorem ZV:bh 145 a145:=by unfold bh;kernel_rfl
theorem ZU:bh 148 a148:=by unfold bh;kernel_rfl
theorem ZT:bh 151 MC:=by unfold bh;kernel_rfl
theorem ZS:bh 153 MB:=by unfold bh;kernel_rfl
theorem ZR:bh 154 a154:=by unfold bh;kernel_rfl
theorem ZQ:bh 158 Uo:=by unfold bh;kernel_rfl
theorem ZP:bh 159 a159:=by unfold bh;kernel_rfl
theorem ZO:bh 161 Un:=by unfold bh;kernel_rfl
theorem ZN:bh 163 Cv:=by unfold bh;kernel_rfl
theorem ZM:bh 164 a164:=by unfold bh;kernel_rfl
theorem ZL:bh 166 Um:=by unfold bh;kernel_rfl
theorem ZG:bh 175 a175:=by unfold bh;kernel_rfl
theorem ZF:bh 178 Ul:=by unfold bh;kernel_rfl
theorem ZE:bh 179 Uk:=by unfold bh;kernel_rfl
theorem ZB:bh 183 a183:=by unfold bh;kernel_rfl
theorem Zz:bh 186 Mx:=by unfold bh;kernel_rfl
theorem Zy:bh 189 Ft:=by unfold bh;kernel_rfl
theorem Zx:bh 190 Mw:=by unfold bh;kernel_rfl
theorem Zw:bh 191 Mv:=by unfold bh;kernel_rfl
theorem Zv:bh 192 AB:=by unfold bh;kernel_rfl
theorem Zu:bh 194 a194:=by unfold bh;kernel_rfl
theorem Zt:bh 195 pX:=by unfold bh;kernel_rfl
theorem Zs:bh 196 a196:=by unfold bh;kernel_rfl
theorem Zr:bh 197 pW:=by unfold bh;kernel_rfl
theorem Zq:bh 198 a198:=by unfold bh;kernel_rfl
theorem Zp:bh 199 Mu:=by unfold bh;kernel_rfl
theorem Zo:bh 200 Ms:=by unfold bh;kernel_rfl
theorem Zn:bh 201 a201:=by unfold bh;kernel_rfl
theorem Zm:bh 202 Mr:=by unfold bh;kernel_rfl
theorem Zl:bh 203 a203:=by unfold bh;kernel_rfl
theorem Zk:bh 204 xX:=by unfold bh;kernel_rfl
theorem Zj:bh 205 Mq:=by unfold bh;kernel_rfl
theorem Zi:bh 206 a206:=by unfold bh;kernel_rfl
theorem Zf:bh 210 a210:=by unfold bh;kernel_rfl
theorem Ze:bh 211 Mp:=by unfold bh;kernel_rfl
theorem Zd:bh 212 a212:=by unfold bh;kernel_rfl
theorem Zc:bh 213 a213:=by unfold bh;kernel_rfl
theorem Za:bh 215 Mn:=by unfold bh;kernel_rfl
theorem Y9:bh 216 Mm:=by unfold bh;kernel_rfl
theorem Y8:bh 226 a226:=by unfold bh;kernel_rfl
theorem Y7:bh 227 a227:=by unfold bh;kernel_rfl
theorem Y6:bh 228 a228:=by unfold bh;kernel_rfl
theorem Y5:bh 229 a229:=by unfold bh;kernel_rfl
theorem Y4:bh 230 Uj:=by unfold bh;kernel_rfl
theorem Y3:bh 231 Ui:=by unfold bh;kernel_rfl
theorem Y2:bh 232 a232:=by unfold bh;kernel_rfl
theorem Y1:bh 238 Uh:=by unfold bh;kernel_rfl
theorem Y0:bh 241 Ml:=by unfold bh;kernel_rfl
theorem YZ:bh 242 Mk:=by unfold bh;kernel_rfl
theorem YY:bh 245 Mj:=by unfold bh;kernel_rfl
theorem YR:bh 254 Ug:=by unfold bh;kernel_rfl
theorem YQ:bh 257 Mc:=by unfold bh;kernel_rfl
theorem YP:bh 260 Ma:=by unfold bh;kernel_rfl
theorem YO:bh 261 L9:=by unfold bh;kernel_rfl
theorem YN:bh 262 L8:=by unfold bh;kernel_rfl
theorem YM:bh 263 L7:=by unfold bh;kernel_rfl
theorem YL:bh 265 qS:=by unfold bh;kernel_rfl
theorem YK:bh 266 L6:=by unfold bh;kernel_rfl
theorem YJ:bh 268 Fs:=by unfold bh;kernel_rfl
theorem YF:bh 273 L3:=by unfold bh;kernel_rfl
theorem YE:bh 274 Fo:=by unfold bh;kernel_rfl
theorem YD:bh 275 jR:=by unfold bh;kernel_rfl
theorem YB:bh 300 sG:=by unfold bh;kernel_rfl
theorem YA:bh 301 LY:=by unfold bh;kernel_rfl
theorem Yz:bh 302 LX:=by unfold bh;kernel_rfl
theorem Yy:bh 303 rQ:=by unfold bh;kernel_rfl
theorem Yx:bh 304 LW:=by unfold bh;kernel_rfl
theorem Yw:bh 326 LV:=by unfold bh;kernel_rfl
noncomputable def nc:T cP:=(.node (.node (.node (.node (.node (.node (.node .nil (some a63) (.node .nil (some Mv) .nil)) none (.node (.node .nil (some a159) .nil) (some a95) .nil)) none (.node .nil none (.node (.node (.node .nil (some rQ) .nil) (some a175) .nil) (some MT) .nil))) none (.node (.node (.node (.node (.node .nil (some L7) .nil) none .nil) none (.node .nil (some Mu) .nil)) none (.node .nil none (.node .nil (some Ui) .nil))) none (.node (.node (.node .nil (some MC) .nil) none (.node .nil (some Mn) .nil)) none (.node (.node .nil (some a183) .nil) (some a119) .nil)))) none (.node (.node (.node (.node (.node .nil (some a131) .nil) none (.node .nil (some pX) .nil)) none (.node (.node .nil (some Cv) .nil) none (.node .nil (some a227) .nil))) none (.node (.node (.node (.node .nil (some jR) .nil) none .nil) none (.node .nil (some Mp) .nil)) none (.node (.node .nil (some Uk) .nil) (some MR) (.node .nil (some (cp 243)) .nil)))) none (.node (.node (.node (.node .nil (some a139) .nil) none (.node .nil (some a203) .nil)) none .nil) none .nil))) none (.node (.node (.node (.node (.node (.node (.node .nil (some Mc) .nil) none .nil) none .nil) none (.node (.node .nil (some Un) .nil) none .nil)) (some (cp 17)) (.node (.node (.node (.node .nil (some L3) .nil) (some a145) .nil) none .nil) none (.node (.node .nil (some (cp 177)) .nil) (some Ur) (.node .nil (some Ml) .nil)))) none (.node (.node (.node (.node (.node .nil (some qS) .nil) (some ME) .nil) none (.node .nil (some a201) .nil)) none .nil) none (.node (.node (.node .nil (some MB) .nil) none .nil) none (.node .nil (some Cw) .nil)))) none (.node (.node (.node (.node (.node (.node .nil (some L9) .nil) (some MI) .nil) none (.node .nil (some pW) .nil)) (some a37) (.node (.node .nil (some (cp 165)) .nil) (some uU) (.node .nil (some a229) .nil))) none (.node (.node .nil (some (cp 85)) (.node .nil (some a213) .nil)) none (.node .nil (some a117) (.node .nil (some Mj) .nil)))) none (.node (.node (.node (.node .nil (some a141) .nil) none (.node .nil (some Mq) .nil)) none (.node (.node (.node .nil (some LY) .nil) none .nil) (some (cp 109)) .nil)) (some Vi) (.node .nil none (.node (.node .nil (some Ft) .nil) none .nil)))))) none (.node (.node (.node (.node (.node (.node .nil (some (cp 64)) (.node .nil (some AB) .nil)) none (.node .nil (some a96) .nil)) none (.node (.node .nil (some (cp 80)) .nil) (some (cp 48)) (.node (.node (.node .nil (some LW) .nil) none .nil) (some MS) .nil))) none (.node (.node (.node (.node .nil (some MF) .nil) none (.node .nil (some Ms) .nil)) (some (cp 40)) (.node .nil none (.node .nil (some a232) .nil))) (some a24) (.node (.node .nil none (.node .nil (some Mm) .nil)) none (.node .nil (some MQ) .nil)))) none (.node (.node (.node (.node (.node (.node .nil (some Ma) .nil) (some MJ) .nil) none (.node .nil (some a196) .nil)) none (.node (.node .nil (some a164) .nil) none (.node .nil (some a228) .nil))) none (.node (.node (.node .nil (some a148) .nil) (some (cp 84)) (.node .nil (some a212) .nil)) (some (cp 52)) (.node .nil (some a116) (.node .nil (some (cp 244)) .nil)))) none (.node (.node (.node (.node (.node .nil (some Fs) .nil) (some MD) .nil) none (.node .nil (some xX) .nil)) none (.node (.node (.node .nil (some sG) .nil) none .nil) (some Us) .nil)) none (.node .nil (some a60) .nil)))) none (.node (.node (.node (.node (.node (.node .nil (some a130) .nil) none (.node .nil (some a194) .nil)) none (.node (.node .nil (some (cp 162)) .nil) none (.node .nil (some a226) .nil))) (some (cp 18)) (.node (.node (.node (.node .nil (some Fo) .nil) none .nil) none (.node .nil (some a210) .nil)) none (.node (.node .nil (some Ul) .nil) (some Uq) (.node .nil (some Mk) .nil)))) none (.node (.node (.node (.node (.node .nil (some L6) .nil) (some a138) .nil) none (.node .nil (some Mr) .nil)) none .nil) none (.node (.node (.node .nil (some a154) .nil) none .nil) none (.node (.node .nil (some Mx) .nil) none .nil)))) none (.node (.node (.node (.node (.node (.node .nil (some L8) .nil) (some MH) .nil) none (.node (.node .nil (some LV) .nil) (some a198) .nil)) none (.node (.node .nil (some Um) .nil) none (.node .nil (some Uj) .nil))) none (.node .nil none (.node .nil (some Up) .nil))) none (.node (.node (.node .nil none (.node .nil (some a206) .nil)) (some a46) (.node (.node (.node .nil (some LX) .nil) (some (cp 174)) .nil) (some (cp 110)) (.node .nil (some Uh) .nil))) none (.node (.node (.node .nil (some Uo) .nil) none .nil) none (.node (.node .nil (some Mw) .nil) none (.node .nil (some Ug) .nil))))))))
theorem all:T.Forall bh nc (fun n=>n):=⟨no,⟨no,⟨no,⟨no,⟨no,⟨no,⟨yes b63,trivial,⟨yes Zw,trivial,trivial⟩⟩,⟨yes b95,⟨yes ZP,trivial,trivial⟩,trivial⟩⟩,⟨no,trivial,⟨yes b111,⟨yes ZG,⟨yes Yy,trivial,trivial⟩,trivial⟩,trivial⟩⟩⟩,⟨no,⟨no,⟨no,⟨no,⟨yes YM,trivial,trivial⟩,trivial⟩,⟨yes Zp,trivial,trivial⟩⟩,⟨no,trivial,⟨yes Y3,trivial,trivial⟩⟩⟩,⟨no,⟨no,⟨yes ZT,trivial,trivial⟩,⟨yes Za,trivial,trivial⟩⟩,⟨yes b119,⟨yes ZB,trivial,trivial⟩,trivial⟩⟩⟩⟩,⟨no,⟨no,⟨no,⟨no,⟨yes Z6,trivial,trivial⟩,⟨yes Zt,trivial,trivial⟩⟩,⟨no,⟨yes ZN,trivial,trivial⟩,⟨yes Y7,trivial,trivial⟩⟩⟩,⟨no,⟨no,⟨no,⟨yes YD,trivial,trivial⟩,trivial⟩,⟨yes Ze,trivial,trivial⟩⟩,⟨yes b115,⟨yes ZE,trivial,trivial⟩,⟨yes (Ab (by kernel_rfl)),trivial,trivial⟩⟩⟩⟩,⟨no,⟨no,⟨no,⟨yes ZY,trivial,trivial⟩,⟨yes Zl,trivial,trivial⟩⟩,trivial⟩,trivial⟩⟩⟩,⟨no,⟨no,⟨yes (Ab (by kernel_rfl)),⟨no,⟨no,⟨no,⟨yes YQ,trivial,trivial⟩,trivial⟩,trivial⟩,⟨no,⟨yes ZO,trivial,trivial⟩,trivial⟩⟩,⟨no,⟨no,⟨yes ZV,⟨yes YF,trivial,trivial⟩,trivial⟩,trivial⟩,⟨yes b113,⟨yes (Ab (by kernel_rfl)),trivial,trivial⟩,⟨yes Y0,trivial,trivial⟩⟩⟩⟩,⟨no,⟨no,⟨no,⟨yes Z0,⟨yes YL,trivial,trivial⟩,trivial⟩,⟨yes Zn,trivial,trivial⟩⟩,trivial⟩,⟨no,⟨no,⟨yes ZS,trivial,trivial⟩,trivial⟩,⟨yes b121,trivial,trivial⟩⟩⟩⟩,⟨no,⟨no,⟨yes b37,⟨no,⟨yes Z4,⟨yes YO,trivial,trivial⟩,trivial⟩,⟨yes Zr,trivial,trivial⟩⟩,⟨yes b101,⟨yes (Ab (by kernel_rfl)),trivial,trivial⟩,⟨yes Y5,trivial,trivial⟩⟩⟩,⟨no,⟨yes (Ab (by kernel_rfl)),trivial,⟨yes Zc,trivial,trivial⟩⟩,⟨yes b117,trivial,⟨yes YY,trivial,trivial⟩⟩⟩⟩,⟨yes b29,⟨no,⟨no,⟨yes ZW,trivial,trivial⟩,⟨yes Zj,trivial,trivial⟩⟩,⟨yes (Ab (by kernel_rfl)),⟨no,⟨yes YA,trivial,trivial⟩,trivial⟩,trivial⟩⟩,⟨no,trivial,⟨no,⟨yes Zy,trivial,trivial⟩,trivial⟩⟩⟩⟩⟩⟩,⟨no,⟨no,⟨no,⟨no,⟨no,⟨yes (Ab (by kernel_rfl)),trivial,⟨yes Zv,trivial,trivial⟩⟩,⟨yes b96,trivial,trivial⟩⟩,⟨yes (Ab (by kernel_rfl)),⟨yes (Ab (by kernel_rfl)),trivial,trivial⟩,⟨yes b112,⟨no,⟨yes Yx,trivial,trivial⟩,trivial⟩,trivial⟩⟩⟩,⟨yes b24,⟨yes (Ab (by kernel_rfl)),⟨no,⟨yes Z1,trivial,trivial⟩,⟨yes Zo,trivial,trivial⟩⟩,⟨no,trivial,⟨yes Y2,trivial,trivial⟩⟩⟩,⟨no,⟨no,trivial,⟨yes Y9,trivial,trivial⟩⟩,⟨yes b120,trivial,trivial⟩⟩⟩⟩,⟨no,⟨no,⟨no,⟨no,⟨yes Z5,⟨yes YP,trivial,trivial⟩,trivial⟩,⟨yes Zs,trivial,trivial⟩⟩,⟨no,⟨yes ZM,trivial,trivial⟩,⟨yes Y6,trivial,trivial⟩⟩⟩,⟨yes (Ab (by kernel_rfl)),⟨yes (Ab (by kernel_rfl)),⟨yes ZU,trivial,trivial⟩,⟨yes Zd,trivial,trivial⟩⟩,⟨yes b116,trivial,⟨yes (Ab (by kernel_rfl)),trivial,trivial⟩⟩⟩⟩,⟨no,⟨no,⟨no,⟨yes ZX,⟨yes YJ,trivial,trivial⟩,trivial⟩,⟨yes Zk,trivial,trivial⟩⟩,⟨yes b108,⟨no,⟨yes YB,trivial,trivial⟩,trivial⟩,trivial⟩⟩,⟨yes b60,trivial,trivial⟩⟩⟩⟩,⟨no,⟨no,⟨yes (Ab (by kernel_rfl)),⟨no,⟨no,⟨yes Z7,trivial,trivial⟩,⟨yes Zu,trivial,trivial⟩⟩,⟨no,⟨yes (Ab (by kernel_rfl)),trivial,trivial⟩,⟨yes Y8,trivial,trivial⟩⟩⟩,⟨no,⟨no,⟨no,⟨yes YE,trivial,trivial⟩,trivial⟩,⟨yes Zf,trivial,trivial⟩⟩,⟨yes b114,⟨yes ZF,trivial,trivial⟩,⟨yes YZ,trivial,trivial⟩⟩⟩⟩,⟨no,⟨no,⟨no,⟨yes ZZ,⟨yes YK,trivial,trivial⟩,trivial⟩,⟨yes Zm,trivial,trivial⟩⟩,trivial⟩,⟨no,⟨no,⟨yes ZR,trivial,trivial⟩,trivial⟩,⟨no,⟨yes Zz,trivial,trivial⟩,trivial⟩⟩⟩⟩,⟨no,⟨no,⟨no,⟨no,⟨yes Z3,⟨yes YN,trivial,trivial⟩,trivial⟩,⟨yes Zq,⟨yes Yw,trivial,trivial⟩,trivial⟩⟩,⟨no,⟨yes ZL,trivial,trivial⟩,⟨yes Y4,trivial,trivial⟩⟩⟩,⟨no,trivial,⟨yes b118,trivial,trivial⟩⟩⟩,⟨no,⟨yes b46,⟨no,trivial,⟨yes Zi,trivial,trivial⟩⟩,⟨yes (Ab (by kernel_rfl)),⟨yes (Ab (by kernel_rfl)),⟨yes Yz,trivial,trivial⟩,trivial⟩,⟨yes Y1,trivial,trivial⟩⟩⟩,⟨no,⟨no,⟨yes ZQ,trivial,trivial⟩,trivial⟩,⟨no,⟨yes Zx,trivial,trivial⟩,⟨yes YR,trivial,trivial⟩⟩⟩⟩⟩⟩⟩⟩
noncomputable def fns (n:Nat):Option cP:=nc.get n
theorem xF:JG Tryz.prog (L.En fns):=fun f a h=>Ah (T.gS nc (fun n=>n) all f a h)
end Go.Ae.C
