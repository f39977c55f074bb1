/- The functions of the program: they are what was printed. -/
import Derived.Test.YtdaggbpeoldmeaaGreatDoorM2
import Derived.Test.YtdaggbpeoldmeaaGreatDoorZFA
set_option linter.unusedVariables false
set_option maxRecDepth 100000
namespace Go.Ae
def chk (P:Program) (f:Nat):Option AFn:=
 match P.funcs[f]? with
 | some fn=>match fn.name== "runtime.NumGoroutine" with
  |true=>none
  | false=>match fn.body with
   |some c=>cfn P fn c
   |none=>none
 |none=>none
def T.Forall {α:Type} (p:Nat→α→Prop):T α→(Nat→Nat)→Prop
 | .nil,_=>True
 | .node l v r,g=>(∀x,v=some x→p (g 0) x)∧T.Forall p l (fun n=>g (2*n+1))∧T.Forall p r (fun n=>g (2*n+2))
theorem T.get_forall {α:Type} {p:Nat→α→Prop}:∀(t:T α) (g:Nat→Nat),T.Forall p t g→∀n x,t.get n=some x→p (g n) x
 | .nil,_,_,n,x,h=>by rw[T.get_nil]at h;cases h
 | .node l v r,g,hf,n,x,h=>by
  obtain⟨h1,h2,h3⟩:=hf
  rw[T.get_node]at h
  split at h
  ·rename_i e;subst e;exact h1 x h
  ·split at h
   ·have:=T.get_forall l _ h2 (n/2) x h
    simpa only[show 2*(n/2)+1=n by omega]using this
   ·have:=T.get_forall r _ h3 (n/2-1) x h
    simpa only[show 2*(n/2-1)+2=n by omega]using this
theorem chk_good {P:Program} {f:Nat} {a:AFn} (h:chk P f=some a):∃fn c,P.funcs[f]?=some fn∧(fn.name== "runtime.NumGoroutine")=false∧fn.body=some c∧cfn P fn c=some a:=by
 unfold chk at h
 split at h
 ·rename_i fn hf
  split at h
  ·cases h
  ·rename_i hn
   split at h
   ·rename_i c hc
    exact⟨fn,c,hf,hn,hc,h⟩
   ·cases h
 ·cases h
end Go.Ae
namespace Go.Ae.C
open Go.Proofs
theorem no {α:Type} {p:Nat→α→Prop} {k:Nat}:∀x,(none:Option α)=some x→p k x:=nofun
theorem yes {α:Type} {p:Nat→α→Prop} {k:Nat} {a:α} (h:p k a):∀x,some a=some x→p k x:=fun x e=>Option.some.inj e▸h
def Chk (f:Nat) (a:AFn):Prop:=chk Tryz.prog f=some a
theorem b17:Chk 17 a17:=by unfold Chk;kernel_rfl
theorem b18:Chk 18 a18:=by unfold Chk;kernel_rfl
theorem b24:Chk 24 a24:=by unfold Chk;kernel_rfl
theorem b29:Chk 29 a29:=by unfold Chk;kernel_rfl
theorem b37:Chk 37 a37:=by unfold Chk;kernel_rfl
theorem b40:Chk 40 a40:=by unfold Chk;kernel_rfl
theorem b46:Chk 46 a46:=by unfold Chk;kernel_rfl
theorem b48:Chk 48 a48:=by unfold Chk;kernel_rfl
theorem b52:Chk 52 a52:=by unfold Chk;kernel_rfl
theorem b60:Chk 60 a60:=by unfold Chk;kernel_rfl
theorem b63:Chk 63 a63:=by unfold Chk;kernel_rfl
theorem b64:Chk 64 a64:=by unfold Chk;kernel_rfl
theorem b80:Chk 80 a80:=by unfold Chk;kernel_rfl
theorem b84:Chk 84 a84:=by unfold Chk;kernel_rfl
theorem b85:Chk 85 a85:=by unfold Chk;kernel_rfl
theorem b95:Chk 95 a95:=by unfold Chk;kernel_rfl
theorem b96:Chk 96 a96:=by unfold Chk;kernel_rfl
theorem b101:Chk 101 a101:=by unfold Chk;kernel_rfl
theorem b108:Chk 108 a108:=by unfold Chk;kernel_rfl
theorem b109:Chk 109 a109:=by unfold Chk;kernel_rfl
theorem b110:Chk 110 a110:=by unfold Chk;kernel_rfl
theorem b111:Chk 111 a111:=by unfold Chk;kernel_rfl
theorem b112:Chk 112 a112:=by unfold Chk;kernel_rfl
theorem b113:Chk 113 a113:=by unfold Chk;kernel_rfl
theorem b114:Chk 114 a114:=by unfold Chk;kernel_rfl
theorem b115:Chk 115 a115:=by unfold Chk;kernel_rfl
theorem b116:Chk 116 a116:=by unfold Chk;kernel_rfl
theorem b117:Chk 117 a117:=by unfold Chk;kernel_rfl
theorem b118:Chk 118 a118:=by unfold Chk;kernel_rfl
theorem b119:Chk 119 a119:=by unfold Chk;kernel_rfl
theorem b120:Chk 120 a120:=by unfold Chk;kernel_rfl
theorem b121:Chk 121 a121:=by unfold Chk;kernel_rfl
theorem b130:Chk 130 a130:=by unfold Chk;kernel_rfl
theorem b131:Chk 131 a131:=by unfold Chk;kernel_rfl
theorem b132:Chk 132 a132:=by unfold Chk;kernel_rfl
theorem b133:Chk 133 a133:=by unfold Chk;kernel_rfl
theorem b134:Chk 134 a134:=by unfold Chk;kernel_rfl
theorem b136:Chk 136 a136:=by unfold Chk;kernel_rfl
theorem b137:Chk 137 a137:=by unfold Chk;kernel_rfl
theorem b138:Chk 138 a138:=by unfold Chk;kernel_rfl
theorem b139:Chk 139 a139:=by unfold Chk;kernel_rfl
theorem b140:Chk 140 a140:=by unfold Chk;kernel_rfl
theorem b141:Chk 141 a141:=by unfold Chk;kernel_rfl
theorem b145:Chk 145 a145:=by unfold Chk;kernel_rfl
theorem b148:Chk 148 a148:=by unfold Chk;kernel_rfl
theorem b154:Chk 154 a154:=by unfold Chk;kernel_rfl
theorem b158:Chk 158 a158:=by unfold Chk;kernel_rfl
theorem b159:Chk 159 a159:=by unfold Chk;kernel_rfl
theorem b161:Chk 161 a161:=by unfold Chk;kernel_rfl
theorem b162:Chk 162 a162:=by unfold Chk;kernel_rfl
theorem b163:Chk 163 a163:=by unfold Chk;kernel_rfl
theorem b164:Chk 164 a164:=by unfold Chk;kernel_rfl
theorem b165:Chk 165 a165:=by unfold Chk;kernel_rfl
theorem b166:Chk 166 a166:=by unfold Chk;kernel_rfl
theorem b174:Chk 174 a174:=by unfold Chk;kernel_rfl
theorem b175:Chk 175 a175:=by unfold Chk;kernel_rfl
theorem b177:Chk 177 a177:=by unfold Chk;kernel_rfl
theorem b178:Chk 178 a178:=by unfold Chk;kernel_rfl
theorem b179:Chk 179 a179:=by unfold Chk;kernel_rfl
theorem b183:Chk 183 a183:=by unfold Chk;kernel_rfl
theorem b189:Chk 189 a189:=by unfold Chk;kernel_rfl
theorem b190:Chk 190 a190:=by unfold Chk;kernel_rfl
theorem b191:Chk 191 a191:=by unfold Chk;kernel_rfl
theorem b192:Chk 192 a192:=by unfold Chk;kernel_rfl
theorem b194:Chk 194 a194:=by unfold Chk;kernel_rfl
theorem b195:Chk 195 a195:=by unfold Chk;kernel_rfl
theorem b196:Chk 196 a196:=by unfold Chk;kernel_rfl
theorem b197:Chk 197 a197:=by unfold Chk;kernel_rfl
theorem b198:Chk 198 a198:=by unfold Chk;kernel_rfl
theorem b199:Chk 199 a199:=by unfold Chk;kernel_rfl
theorem b200:Chk 200 a200:=by unfold Chk;kernel_rfl
theorem b201:Chk 201 a201:=by unfold Chk;kernel_rfl
theorem b202:Chk 202 a202:=by unfold Chk;kernel_rfl
theorem b203:Chk 203 a203:=by unfold Chk;kernel_rfl
theorem b204:Chk 204 a204:=by unfold Chk;kernel_rfl
theorem b205:Chk 205 a205:=by unfold Chk;kernel_rfl
theorem b206:Chk 206 a206:=by unfold Chk;kernel_rfl
theorem b210:Chk 210 a210:=by unfold Chk;kernel_rfl
theorem b211:Chk 211 a211:=by unfold Chk;kernel_rfl
theorem b212:Chk 212 a212:=by unfold Chk;kernel_rfl
theorem b213:Chk 213 a213:=by unfold Chk;kernel_rfl
theorem b215:Chk 215 a215:=by unfold Chk;kernel_rfl
theorem b216:Chk 216 a216:=by unfold Chk;kernel_rfl
theorem b226:Chk 226 a226:=by unfold Chk;kernel_rfl
theorem b227:Chk 227 a227:=by unfold Chk;kernel_rfl
theorem b228:Chk 228 a228:=by unfold Chk;kernel_rfl
theorem b229:Chk 229 a229:=by unfold Chk;kernel_rfl
theorem b230:Chk 230 a230:=by unfold Chk;kernel_rfl
theorem b231:Chk 231 a231:=by unfold Chk;kernel_rfl
theorem b232:Chk 232 a232:=by unfold Chk;kernel_rfl
theorem b238:Chk 238 a238:=by unfold Chk;kernel_rfl
theorem b241:Chk 241 a241:=by unfold Chk;kernel_rfl
theorem b242:Chk 242 a242:=by unfold Chk;kernel_rfl
theorem b243:Chk 243 a243:=by unfold Chk;kernel_rfl
theorem b244:Chk 244 a244:=by unfold Chk;kernel_rfl
theorem b245:Chk 245 a245:=by unfold Chk;kernel_rfl
theorem b254:Chk 254 a254:=by unfold Chk;kernel_rfl
theorem b257:Chk 257 a257:=by unfold Chk;kernel_rfl
theorem b260:Chk 260 a260:=by unfold Chk;kernel_rfl
theorem b261:Chk 261 a261:=by unfold Chk;kernel_rfl
theorem b262:Chk 262 a262:=by unfold Chk;kernel_rfl
theorem b263:Chk 263 a263:=by unfold Chk;kernel_rfl
theorem b265:Chk 265 a265:=by unfold Chk;kernel_rfl
theorem b266:Chk 266 a266:=by unfold Chk;kernel_rfl
theorem b268:Chk 268 a268:=by unfold Chk;kernel_rfl
theorem b273:Chk 273 a273:=by unfold Chk;kernel_rfl
theorem b274:Chk 274 a274:=by unfold Chk;kernel_rfl
theorem b275:Chk 275 a275:=by unfold Chk;kernel_rfl
theorem b300:Chk 300 a300:=by unfold Chk;kernel_rfl
theorem b301:Chk 301 a301:=by unfold Chk;kernel_rfl
theorem b302:Chk 302 a302:=by unfold Chk;kernel_rfl
theorem b303:Chk 303 a303:=by unfold Chk;kernel_rfl
theorem b304:Chk 304 a304:=by unfold Chk;kernel_rfl
theorem b326:Chk 326 a326:=by unfold Chk;kernel_rfl
theorem all:T.Forall Chk tab (fun n=>n):=⟨no,⟨no,⟨no,⟨no,⟨no,⟨no,⟨yes b63,trivial,⟨yes b191,trivial,trivial⟩⟩,⟨yes b95,⟨yes b159,trivial,trivial⟩,trivial⟩⟩,⟨no,trivial,⟨yes b111,⟨yes b175,⟨yes b303,trivial,trivial⟩,trivial⟩,trivial⟩⟩⟩,⟨no,⟨no,⟨no,⟨no,⟨yes b263,trivial,trivial⟩,trivial⟩,⟨yes b199,trivial,trivial⟩⟩,⟨no,trivial,⟨yes b231,trivial,trivial⟩⟩⟩,⟨no,⟨no,trivial,⟨yes b215,trivial,trivial⟩⟩,⟨yes b119,⟨yes b183,trivial,trivial⟩,trivial⟩⟩⟩⟩,⟨no,⟨no,⟨no,⟨no,⟨yes b131,trivial,trivial⟩,⟨yes b195,trivial,trivial⟩⟩,⟨no,⟨yes b163,trivial,trivial⟩,⟨yes b227,trivial,trivial⟩⟩⟩,⟨no,⟨no,⟨no,⟨yes b275,trivial,trivial⟩,trivial⟩,⟨yes b211,trivial,trivial⟩⟩,⟨yes b115,⟨yes b179,trivial,trivial⟩,⟨yes b243,trivial,trivial⟩⟩⟩⟩,⟨no,⟨no,⟨no,⟨yes b139,trivial,trivial⟩,⟨yes b203,trivial,trivial⟩⟩,trivial⟩,trivial⟩⟩⟩,⟨no,⟨no,⟨yes b17,⟨no,⟨no,⟨no,⟨yes b257,trivial,trivial⟩,trivial⟩,trivial⟩,⟨no,⟨yes b161,trivial,trivial⟩,trivial⟩⟩,⟨no,⟨no,⟨yes b145,⟨yes b273,trivial,trivial⟩,trivial⟩,trivial⟩,⟨yes b113,⟨yes b177,trivial,trivial⟩,⟨yes b241,trivial,trivial⟩⟩⟩⟩,⟨no,⟨no,⟨no,⟨yes b137,⟨yes b265,trivial,trivial⟩,trivial⟩,⟨yes b201,trivial,trivial⟩⟩,trivial⟩,⟨no,trivial,⟨yes b121,trivial,trivial⟩⟩⟩⟩,⟨no,⟨no,⟨yes b37,⟨no,⟨yes b133,⟨yes b261,trivial,trivial⟩,trivial⟩,⟨yes b197,trivial,trivial⟩⟩,⟨yes b101,⟨yes b165,trivial,trivial⟩,⟨yes b229,trivial,trivial⟩⟩⟩,⟨no,⟨yes b85,trivial,⟨yes b213,trivial,trivial⟩⟩,⟨yes b117,trivial,⟨yes b245,trivial,trivial⟩⟩⟩⟩,⟨yes b29,⟨no,⟨no,⟨yes b141,trivial,trivial⟩,⟨yes b205,trivial,trivial⟩⟩,⟨yes b109,⟨no,⟨yes b301,trivial,trivial⟩,trivial⟩,trivial⟩⟩,⟨no,trivial,⟨no,⟨yes b189,trivial,trivial⟩,trivial⟩⟩⟩⟩⟩⟩,⟨no,⟨no,⟨no,⟨no,⟨no,⟨yes b64,trivial,⟨yes b192,trivial,trivial⟩⟩,⟨yes b96,trivial,trivial⟩⟩,⟨yes b48,⟨yes b80,trivial,trivial⟩,⟨yes b112,⟨no,⟨yes b304,trivial,trivial⟩,trivial⟩,trivial⟩⟩⟩,⟨yes b24,⟨yes b40,⟨no,⟨yes b136,trivial,trivial⟩,⟨yes b200,trivial,trivial⟩⟩,⟨no,trivial,⟨yes b232,trivial,trivial⟩⟩⟩,⟨no,⟨no,trivial,⟨yes b216,trivial,trivial⟩⟩,⟨yes b120,trivial,trivial⟩⟩⟩⟩,⟨no,⟨no,⟨no,⟨no,⟨yes b132,⟨yes b260,trivial,trivial⟩,trivial⟩,⟨yes b196,trivial,trivial⟩⟩,⟨no,⟨yes b164,trivial,trivial⟩,⟨yes b228,trivial,trivial⟩⟩⟩,⟨yes b52,⟨yes b84,⟨yes b148,trivial,trivial⟩,⟨yes b212,trivial,trivial⟩⟩,⟨yes b116,trivial,⟨yes b244,trivial,trivial⟩⟩⟩⟩,⟨no,⟨no,⟨no,⟨yes b140,⟨yes b268,trivial,trivial⟩,trivial⟩,⟨yes b204,trivial,trivial⟩⟩,⟨yes b108,⟨no,⟨yes b300,trivial,trivial⟩,trivial⟩,trivial⟩⟩,⟨yes b60,trivial,trivial⟩⟩⟩⟩,⟨no,⟨no,⟨yes b18,⟨no,⟨no,⟨yes b130,trivial,trivial⟩,⟨yes b194,trivial,trivial⟩⟩,⟨no,⟨yes b162,trivial,trivial⟩,⟨yes b226,trivial,trivial⟩⟩⟩,⟨no,⟨no,⟨no,⟨yes b274,trivial,trivial⟩,trivial⟩,⟨yes b210,trivial,trivial⟩⟩,⟨yes b114,⟨yes b178,trivial,trivial⟩,⟨yes b242,trivial,trivial⟩⟩⟩⟩,⟨no,⟨no,⟨no,⟨yes b138,⟨yes b266,trivial,trivial⟩,trivial⟩,⟨yes b202,trivial,trivial⟩⟩,trivial⟩,⟨no,⟨no,⟨yes b154,trivial,trivial⟩,trivial⟩,trivial⟩⟩⟩,⟨no,⟨no,⟨no,⟨no,⟨yes b134,⟨yes b262,trivial,trivial⟩,trivial⟩,⟨yes b198,⟨yes b326,trivial,trivial⟩,trivial⟩⟩,⟨no,⟨yes b166,trivial,trivial⟩,⟨yes b230,trivial,trivial⟩⟩⟩,⟨no,trivial,⟨yes b118,trivial,trivial⟩⟩⟩,⟨no,⟨yes b46,⟨no,trivial,⟨yes b206,trivial,trivial⟩⟩,⟨yes b110,⟨yes b174,⟨yes b302,trivial,trivial⟩,trivial⟩,⟨yes b238,trivial,trivial⟩⟩⟩,⟨no,⟨no,⟨yes b158,trivial,trivial⟩,trivial⟩,⟨no,⟨yes b190,trivial,trivial⟩,⟨yes b254,trivial,trivial⟩⟩⟩⟩⟩⟩⟩⟩
noncomputable def fns (n:Nat):Option AFn:=tab.get n
theorem fns_ok:FnsOk Tryz.prog (L.En fns):=fun f a h=>chk_good (T.get_forall tab (fun n=>n) all f a h)
end Go.Ae.C
