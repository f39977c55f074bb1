/- The abstract evaluator: values by token, a heap without addresses, no tape. Definitions alone. -/
import Derived.Calls
import Derived.Deep.MidRow
import Derived.Deep.AppendSrc
import Derived.Below
import Derived.Laws.StructEq
import Derived.Deep.Upon
import Derived.MapKept
import Derived.Orders
open Array renaming getElem?_eq_none → ks, length_toList → gg, map → qW, ext' → oZ, range → qh, toList_inj → fo, getElem?_setIfInBounds → xd
open Bool renaming eq_iff_iff → mZ, false_eq_true → cB, and_eq_true → bI, false_or → qc
open ByteArray.toList renaming loop → lK
open Go.RowKit renaming Below → bn
open Int renaming ofNat_eq_natCast → fD
open List renaming map_congr_left → cE, getElem?_eq_getElem → aC, getElem?_append_left → cH, getElem?_eq_some_iff → bB, getElem?_append_right → fk, length_take → aB, getElem?_drop → jh, mem_append → dQ, mem_of_mem_take → fQ, mem_of_mem_drop → iW, getElem?_map → bZ, mem_cons → fy, mem_of_getElem? → eX, getElem?_take → iD, drop_take → qV, map_drop → sx, map_take → sv, all_cons → jU, map_cons → fR, length_cons → aq, ext_getElem? → AL, length_append → ar, mem_map → kc, eq_nil_of_length_eq_zero → wY
open List.cons renaming injEq → jf
open Nat renaming pred → vh, div → vk, beq → bG, ble → wW, blt → gL, mod_two_eq_zero_or_one → mq, pred_eq_sub_one → su, le_of_ble_eq_true → jg, blt_eq → jx, lt_or_ge → aQ, le_refl → ac, le_trans → az, lt_of_lt_of_le → ah, le_succ → eK, add_assoc → dm, add_zero → aT, add_mul → aX, div_add_mod → cD, mul_comm → ay, mul_le_mul_right → aH, zero_add → dN, le_max_left → qb, le_max_right → oY
open Option renaming isSome_iff_exists → AH, map_some → cV, isNone_none → ju, isNone_some → jt
open Option.some renaming inj → aa
set_option linter.unusedVariables false
namespace Go.Ae
theorem oo {p:Prop}(h:p:=by omega):p:=h
inductive T (α:Type) where
 |nil
 |node (l:T α) (v:Option α) (r:T α)
noncomputable def lit {α:Type}(n:Nat)(k:Nat→α):α:=Nat.rec (k (nat_lit 0)) (fun m _=>k (Nat.succ m)) n
noncomputable def T.get {α:Type}(t:T α):Nat→Option α:=
 T.rec (fun _=>none) (fun _ v _ ihl ihr n=>Bool.rec (Bool.rec (ihr (vh (vk n (nat_lit 2)))) (ihl (vk n (nat_lit 2))) (bG (Nat.mod n (nat_lit 2)) (nat_lit 1))) v (bG n (nat_lit 0))) t
noncomputable def T.ins {α:Type}(x:α)(d:Nat):T α→Nat→T α:=
 Nat.rec (fun t _=>t) (fun _ ih t n=>T.rec
  (Bool.rec (Bool.rec (.node .nil none (ih .nil (vh (vk n (nat_lit 2))))) (.node (ih .nil (vk n (nat_lit 2))) none .nil) (bG (Nat.mod n (nat_lit 2)) (nat_lit 1))) (.node .nil (some x) .nil) (bG n (nat_lit 0)))
  (fun l v r _ _=>Bool.rec (Bool.rec (.node l v (ih r (vh (vk n (nat_lit 2))))) (.node (ih l (vk n (nat_lit 2))) v r) (bG (Nat.mod n (nat_lit 2)) (nat_lit 1))) (.node l (some x) r) (bG n (nat_lit 0))) t) d
noncomputable def T.set {α:Type}(t:T α)(n:Nat)(x:α):T α:=lit n fun n=>T.ins x (Nat.succ n) t n
noncomputable section
inductive AV where
 |int (k:IntKind) (n:Int)
 |bool (b:Bool)
 |str (s:List UInt8)
 |ptr (t o:Nat)
 |pG
 |sl (t o n z:Nat)
 |av
 |IM (b o:Nat) (s:Option Nat) (c:Nat)
 |fn (f:Nat) (cap:List AV)
 |kC
 |rE (T:Nat) (v:AV)
 |jQ
 |map (t:Nat)
 |rA
 |agg (l:List AV)
 |gk (l:List AV)
 deriving Inhabited
abbrev jO:AV:= .gk []
def AV.cells:AV→List AV
 | .agg l=>l
 |v=>[v]
def AV.one:AV→Bool
 | .agg _| .gk _=>false
 |_=>true
inductive di where
 |row (cells:List AV) (own:Bool) (st:Nat)
 |dead (st:Nat)
 |lS (s:List UInt8) (pos:Nat) (st:Nat)
 |kM (es:List (AV×AV)) (st:Nat)
def di.st:di→Nat
 | .row _ _ s| .dead s| .lS _ _ s| .kM _ s=>s
structure Hp where
 next:Nat
 df:Nat
 tr:T di
def Hp.get (h:Hp)(t:Nat):Option di:=h.tr.get t
def Hp.push (h:Hp)(o:Nat→di):Hp:={ next:=h.next+1,df:=h.df+1,tr:=h.tr.set h.next (o (h.df+1)) }
def Hp.put (h:Hp)(t:Nat)(o:Nat→di):Hp:={ next:=h.next,df:=h.df+1,tr:=h.tr.set t (o (h.df+1)) }
inductive bC where
 |t (n:Nat)
 |k (v:AV)
inductive LK where
 |int|bool|str
inductive mW where
 |none|bool|ptr|slice|map|func|iface|plain (ls:List (Nat×LK))
inductive JF where
 |str|slice|map|arr (n:Nat)
inductive ij where
 |mv (x:bC)
 |pick (c a b:bC)
 |alloc (z:List AV)
 |box (x:bC)
 |build (z:List AV) (ps:List (Nat×Nat×bC))
 |dU (sz n:Nat) (z:List AV) (ps:List (Nat×Nat×bC))
 |load (agg:Bool) (n:Nat) (x:bC)
 |store (n:Nat) (x y:bC)
 |zc (x:bC)
 |bin (op:BinOp) (q:mW) (x y:bC)
 |un (op:UnOp) (x:bC)
 |sW (k:IntKind) (x:bC)
 |QW (x:bC)
 |Qq (x:bC)
 |FD (T:Nat) (x:bC)
 |Pk (f:Nat) (cs:List bC)
 |tY (sz bytes:Nat) (z:List AV) (l c:bC)
 |rW (x:bC) (lo hi:Option bC)
 |sl (sz:Nat) (x:bC) (lo hi:Option bC)
 |jy (off:Nat) (x:bC)
 |yl (agg:Bool) (off n:Nat) (x:bC)
 |gR (sz:Nat) (x i:bC)
 |wj (sz len:Nat) (x i:bC)
 |idxs (x i:bC)
 |ext (x:bC) (i:Nat)
 |len (q:JF) (x:bC)
 |app (sz bytes:Nat) (x y:bC)
 |mx (xs:List bC)
 |mn (xs:List bC)
 |mc (f:Nat) (args:List bC)
 |hZ (x:bC) (args:List bC)
 |inv (x:bC) (name:String) (args:List bC)
 |UG (x:bC)
 |UH (x:bC)
 |vV
 |zd (m k v:bC)
 |Pp (m k:bC) (z:AV) (ok:Bool)
 |bad
structure aF where
 dst:Option Nat
 op:ij
 qf:Option (Nat×Bool)
 lQ:Option Nat
inductive ap where
 |skip
 |cG (ops:List aF)
 |cC (ops:List aF)
 |kH (ops:List aF) (i c0:Nat) (acc:List (Nat×Nat))
 |seq (a b:ap)
 |cond (x:bC) (a b:ap)
 |block (id:Nat) (c:ap)
 |loop (c:ap)
 |exit (id:Nat)
 |ret
 |bad
inductive qU where
 |tmp (t:Nat)
 |cell (t:Nat) (agg:Bool) (n:Nat)
structure cP where
 ntmps:Nat
 res:List qU
 code:ap
abbrev Prim:=List AV→Hp→Option (AV×Hp)
structure Env where
 fns:Nat→Option cP
 dK:Nat→Option Prim
 exts:Nat→Option (List AV→Option AV)
 gO:Nat→String→Option Nat
structure St where
 tm:T AV
 hp:Hp
def val (tm:T AV):bC→AV
 | .t n=>(tm.get n).getD jO
 | .k v=>v
def put (tm:T AV)(d:Option Nat)(v:AV):T AV:=
 match d with
 |some d=>tm.set d v
 |none=>tm
def eE (cells:List AV)(off:Nat)(vs:List AV):List AV:=cells.take off++(vs++cells.drop (off+vs.length))
def ke (cells:List AV):List (Nat×Nat×AV)→Option (List AV)
 |[]=>some cells
 | (off,n,v)::rest=>
  if v.cells.length=n∧off+n≤cells.length∧v.cells.all AV.one=true then ke (eE cells off v.cells) rest else none
def KR {α:Type}(n:Int)(k:Int→α):α:=Int.rec (fun m=>lit m fun m=>k (.ofNat m)) (fun m=>lit m fun m=>k (.negSucc m)) n
def Qy (x y:Int):Int:=Int.rec (fun m=>Int.rec (fun n=> .ofNat (Nat.add m n)) (fun _=>Int.add x y) y) (fun _=>Int.add x y) x
def Ka (x y:Int):Int:=Int.rec (fun m=>Int.rec (fun n=>Bool.rec (Int.sub x y) (.ofNat (Nat.sub m n)) (wW n m)) (fun _=>Int.sub x y) y) (fun _=>Int.sub x y) x
def Pj (x y:Int):Int:=Int.rec (fun m=>Int.rec (fun n=> .ofNat (Nat.mul m n)) (fun _=>Int.mul x y) y) (fun _=>Int.mul x y) x
def O4 (x y:Int):Int:=Int.rec (fun m=>Int.rec (fun n=> .ofNat (vk m n)) (fun _=>Int.tdiv x y) y) (fun _=>Int.tdiv x y) x
def OZ (x y:Int):Int:=Int.rec (fun m=>Int.rec (fun n=> .ofNat (Nat.mod m n)) (fun _=>Int.tmod x y) y) (fun _=>Int.tmod x y) x
def P5 (x y:Int):Bool:=Int.rec (fun m=>Int.rec (fun n=>bG m n) (fun _=>false) y) (fun m=>Int.rec (fun _=>false) (fun n=>bG m n) y) x
def QI (x y:Int):Bool:=Int.rec (fun m=>Int.rec (fun n=>gL m n) (fun _=>false) y) (fun m=>Int.rec (fun _=>true) (fun n=>gL n m) y) x
def UI (x y:Int):Bool:=Int.rec (fun m=>Int.rec (fun n=>wW m n) (fun _=>false) y) (fun m=>Int.rec (fun _=>true) (fun n=>wW n m) y) x
def pI:IntKind→Nat
 | .i8=>128| .i16=>32768| .i32=>2147483648| .i64=>9223372036854775808| .u8=>256| .u16=>65536| .u32=>4294967296| .u64=>18446744073709551616
def Rk:IntKind→Bool
 | .i8| .i16| .i32| .i64=>true
 |_=>false
def vK (k:IntKind)(n:Int):Int:=Int.rec (fun m=>Bool.rec (k.wrap n) n (gL m (pI k))) (fun m=>Bool.rec (k.wrap n) (Bool.rec (k.wrap n) n (gL m (pI k))) (Rk k)) n
def mkInt (k:IntKind)(n:Int):Option AV:=KR (vK k n) fun n=>some (.int k n)
def wL (op:BinOp)(k:IntKind)(x y:Int):Option AV:=
 let a:=BitVec.ofInt k.bits x
 let b:=BitVec.ofInt k.bits y
 match op with
 | .and=>some (.int k (k.wrap (a&&&b).toNat))
 | .or=>some (.int k (k.wrap (a|||b).toNat))
 | .xor=>some (.int k (k.wrap (a^^^b).toNat))
 | .andNot=>some (.int k (k.wrap (a&&& ~~~b).toNat))
 |_=>none
def kD (op:BinOp)(k:IntKind)(x y:Int):Option AV:=
  match op with
  | .add=>mkInt k (Qy x y)
  | .sub=>mkInt k (Ka x y)
  | .mul=>mkInt k (Pj x y)
  | .quo=>Bool.rec (mkInt k (O4 x y)) none (P5 y 0)
  | .rem=>Bool.rec (KR (OZ x y) fun n=>some (.int k n)) none (P5 y 0)
  | .eql=>some (.bool (P5 x y))
  | .neq=>some (.bool (not (P5 x y)))
  | .lss=>some (.bool (QI x y))
  | .leq=>some (.bool (UI x y))
  | .gtr=>some (.bool (QI y x))
  | .geq=>some (.bool (UI y x))
  |op=>wL op k x y
def GK (k k':IntKind):Bool:=bG k.ctorIdx k'.ctorIdx
def nr (op:BinOp)(k:IntKind)(x:Int)(k':IntKind)(y:Int):Option AV:=
 match op with
 | .shl=>if y<0 then none else some (.int k (k.wrap (x*2^min y.toNat k.bits)))
 | .shr=>if y<0 then none else some (.int k (x.fdiv (2^min y.toNat k.bits)))
 |op=>Bool.rec none (kD op k x y) (GK k k')
def Ei (op:BinOp)(x y:List UInt8):Option AV:=
 match op with
 | .add=>if((x.length+y.length:Nat):Int)>IntKind.i64.max then none else some (.str (x++y))
 | .eql=>some (.bool (x==y))
 | .neq=>some (.bool !(x==y))
 | .lss=>some (.bool (Op.bytesLess x y))
 | .leq=>some (.bool (Op.bytesLess x y||x==y))
 | .gtr=>some (.bool !(Op.bytesLess x y||x==y))
 | .geq=>some (.bool !(Op.bytesLess x y))
 |_=>none
def uA:LK→AV→AV→Option Bool
 | .int,.int k a,.int k' b=>Bool.rec none (some (P5 a b)) (GK k k')
 | .bool,.bool a,.bool b=>some (a==b)
 | .str,.str a,.str b=>some (a==b)
 |_,_,_=>none
def pN (xs ys:List AV):List (Nat×LK)→Option Bool
 |[]=>some true
 | (i,k)::r=>match xs[i]?,ys[i]? with
  | some a,some b=>match uA k a b with
   |some true=>pN xs ys r
   |some false=>some false
   |none=>none
  |_,_=>none
def xK:AV→AV→Option Bool
 | .bool a,.bool b=>some (a==b)
 |_,_=>none
def NV:AV→AV→Option Bool
 | .pG,.pG=>some true
 | .ptr _ _,.pG=>some false
 | .pG,.ptr _ _=>some false
 |_,_=>none
def Tl:AV→AV→Option Bool
 | .av,.av=>some true
 | .sl ..,.av=>some false
 | .av,.sl .. =>some false
 |_,_=>none
def NW:AV→AV→Option Bool
 | .rA,.rA=>some true
 | .map _,.rA=>some false
 | .rA,.map _=>some false
 |_,_=>none
def Tm:AV→AV→Option Bool
 | .kC,.kC=>some true
 | .fn _ _,.kC=>some false
 | .kC,.fn _ _=>some false
 |_,_=>none
def NX:AV→AV→Option Bool
 | .jQ,.jQ=>some true
 | .rE _ _,.jQ=>some false
 | .jQ,.rE _ _=>some false
 |_,_=>none
def DG (ls:List (Nat×LK)):AV→AV→Option Bool
 | .agg a,.agg b=>pN a b ls
 |_,_=>none
def vC (q:mW):AV→AV→Option Bool:=
 match q with
 | .bool=>xK
 | .ptr=>NV
 | .slice=>Tl
 | .map=>NW
 | .func=>Tm
 | .iface=>NX
 | .plain ls=>DG ls
 | .none=>fun _ _=>none
def dM (op:BinOp)(q:mW)(x y:AV):Option AV:=
 match x,y with
 | .int k a,.int k' b=>nr op k a k' b
 | .str a,.str b=>Ei op a b
 | x,y=>match op with
  | .eql=>(vC q x y).map .bool
  | .neq=>(vC q x y).map fun b=> .bool !b
  |_=>none
def OG (op:UnOp)(x:AV):Option AV:=
 match op,x with
 | .neg,.int k n=>mkInt k (Ka 0 n)
 | .xor,.int k n=>wL .xor k (if k.signed then -1 else k.max) n
 | .not,.bool b=>some (.bool !b)
 |_,_=>none
def cellsOf (h:Hp)(sz:Nat):AV→Option (List AV)
 | .av=>some []
 | .str s=>if sz=1 then some (s.map fun b=> .int .u8 b.toNat)else none
 | .sl t o n z=>match h.get t with
  |some (.row cs _ _)=>if z=sz∧o+n*sz≤cs.length then some ((cs.drop o).take (n*sz))else none
  |_=>none
 |_=>none
def xB:AV→Option Nat
 | .av=>some 0
 | .str s=>some s.length
 | .sl _ _ n _=>some n
 |_=>none
def kr (h :Hp)(sz bytes:Nat)(x y:AV):Option (AV×Hp):=
 match xB y,cellsOf h sz y with
 | some m, some ys=>
  match x with
  | .av=>match m with
   |0=>some (.av,h)
   |m+1=>if(m+1)*bytes≤140737488355328∧m+1≤140737488355328∧0<sz then some (.sl h.next 0 (m+1) sz,h.push fun s=> .row ys true s)else none
  | .sl t o n z=>match m with
   |0=>some (.sl t o n z,h)
   | m + 1=>match h.get t with
    | some (.row cs true _)=>
     if z=sz∧o+n*sz≤cs.length∧(n+(m+1))*bytes≤140737488355328∧n+(m+1)≤140737488355328 then
      some (.sl h.next 0 (n+(m+1)) sz,(h.put t fun s=> .dead s).push fun s=> .row ((cs.drop o).take (n*sz)++ys) true s)
     else none
    |_=>none
  |_=>none
 |_,_=>none
def bound (x:Option AV)(lo hi dflt:Nat):Option Nat:=
 match x with
 |none=>some dflt
 |some (.int _ i)=>if(lo:Int)≤i∧i≤(hi:Int)then some i.toNat else none
 |some _=>none
def Bc (s:List UInt8)(lo hi:Option AV):Option AV:=
 match bound hi 0 s.length s.length with
 |none=>none
 | some h=>match bound lo 0 h 0 with
  |none=>none
  |some l=>some (.str ((s.take h).drop l))
def El (hp:Hp)(sz:Nat)(x:AV)(lo hi:Option AV):Option (AV×Hp):=
 match x with
 | .av=>match bound hi 0 0 0,bound lo 0 0 0 with
  |some _,some _=>some (.av,hp)
  |_,_=>none
 | .sl t o n z=>match bound hi 0 n n with
  |none=>none
  | some h=>match bound lo 0 h 0 with
   |none=>none
   | some l=>
    if l=0 then some (.sl t o h z,hp)
    else if z≠sz then none
    else if l<h then some (.sl t (o+l*sz) (h-l) z,hp)
    else some (.sl hp.next 0 0 z,hp.push fun s=> .row [] false s)
 |_=>none
def tZ:AV→AV→Option AV
 | .int k x,.int _ y=>some (.int k (Bool.rec x y (QI y x)))
 |_,_=>none
def uc:AV→AV→Option AV
 | .int k x,.int _ y=>some (.int k (Bool.rec x y (QI x y)))
 |_,_=>none
def qK (f:AV→AV→Option AV):AV→List AV→Option AV
 |x,[]=>some x
 | x,y::r=>match f x y with
  |some z=>qK f z r
  |none=>none
def rep:Nat→List AV→List AV
 |0,_=>[]
 |n+1,z=>z++rep n z
def uv (k:List UInt8):List (AV×AV)→Option (Option AV)
 |[]=>some none
 |(.str k',v)::r=>if k==k' then some (some v)else uv k r
 |_=>none
def A7 (k:List UInt8)(v:AV):List (AV×AV)→Option (List (AV×AV))
 |[]=>some [(.str k,v)]
 |(.str k',v')::r=>if k==k' then some ((.str k,v)::r)else(A7 k v r).map fun r'=>(.str k',v')::r'
 |_=>none
def WO:AV→Option Nat
 | .int .u8 n=>if 0≤n∧n<256 then some n.toNat else none
 |_=>none
def Jl:List AV→Option (List UInt8)
 |[]=>some []
 | v::r=>match WO v,Jl r with
  |some n,some l=>some (n.toUInt8::l)
  |_,_=>none
def HB (x:bC)(ρ:bC→AV)(h:Hp):Option (AV×Hp):=
 some (ρ x,h)
def pA (c:bC)(a:bC)(b:bC)(ρ:bC→AV)(h:Hp):Option (AV×Hp):=
 match ρ c with
  | .bool true=>some (ρ a,h)
  | .bool false=>some (ρ b,h)
  |_=>none
def qA (z:List AV)(ρ:bC→AV)(h:Hp):Option (AV×Hp):=
 some (.ptr h.next 0,h.push fun s=> .row z true s)
def tU (x:bC)(ρ:bC→AV)(h:Hp):Option (AV×Hp):=
 if(ρ x).cells.all AV.one=true then some (.ptr h.next 0,h.push fun s=> .row (ρ x).cells true s)else none
def kT (z:List AV)(ps:List (Nat×Nat×bC))(ρ:bC→AV)(h:Hp):Option (AV×Hp):=
 match ke z (ps.map fun p=>(p.1,p.2.1,ρ p.2.2))with
  |some cs=>some (.agg cs,h)
  |none=>none
def kz (sz n:Nat)(z:List AV)(ps:List (Nat×Nat×bC))(ρ:bC→AV)(h:Hp):Option (AV×Hp):=
 match ke z (ps.map fun p=>(p.1,p.2.1,ρ p.2.2))with
  |some cs=>if n*sz=cs.length∧0<sz then some (.sl h.next 0 n sz,h.push fun s=> .row cs true s)else none
  |none=>none
def pC (agg:Bool)(n:Nat)(x:bC)(ρ:bC→AV)(h:Hp):Option (AV×Hp):=
 match ρ x with
  | .ptr t o=>match h.get t with
   | some (.row cs _ _)=>
    if o+n≤cs.length then
     if agg then some (.agg ((cs.drop o).take n),h)else match cs[o]? with
      |some v=>some (v,h)
      |none=>none
    else none
   |_=>none
  |_=>none
def oL (n:Nat)(x:bC)(y:bC)(ρ:bC→AV)(h:Hp):Option (AV×Hp):=
 match ρ x with
  | .ptr t o=>match h.get t with
   | some (.row cs true _)=>
    if(ρ y).cells.length=n∧o+n≤cs.length∧(ρ y).cells.all AV.one=true then some (jO,h.put t fun s=> .row (eE cs o (ρ y).cells) true s)else none
   |_=>none
  |_=>none
def oM (x:bC)(ρ:bC→AV)(h:Hp):Option (AV×Hp):=
 match ρ x with
  | .ptr t o=>some (.ptr t o,h)
  | .fn f c=>some (.fn f c,h)
  |_=>none
def tV (op:BinOp)(q:mW)(x:bC)(y:bC)(ρ:bC→AV)(h:Hp):Option (AV×Hp):=
 match dM op q (ρ x) (ρ y)with
  |some v=>some (v,h)
  |none=>none
def Bx (op:UnOp)(x:bC)(ρ:bC→AV)(h:Hp):Option (AV×Hp):=
 match OG op (ρ x)with
  |some v=>some (v,h)
  |none=>none
def tT (k:IntKind)(x:bC)(ρ:bC→AV)(h:Hp):Option (AV×Hp):=
 match ρ x with
  | .int _ n=>match mkInt k n with
   |some v=>some (v,h)
   |none=>none
  |_=>none
def tS (x:bC)(ρ:bC→AV)(h:Hp):Option (AV×Hp):=
 match ρ x with
  | .str s=>some (.str s,h)
  |_=>none
def By (x:bC)(ρ:bC→AV)(h:Hp):Option (AV×Hp):=
 match cellsOf h 1 (ρ x),(ρ x)with
  |some _,.str _=>none
  | some cs,_=>match Jl cs with
   |some l=>some (.str l,h)
   |none=>none
  |none,_=>none
def za (T:Nat)(x:bC)(ρ:bC→AV)(h:Hp):Option (AV×Hp):=
 some (.rE T (ρ x),h)
def zb (f:Nat)(cs:List bC)(ρ:bC→AV)(h:Hp):Option (AV×Hp):=
 some (.fn f (cs.map ρ),h)
def rZ (sz:Nat)(bytes:Nat)(z:List AV)(l:bC)(c:bC)(ρ:bC→AV)(h:Hp):Option (AV×Hp):=
 match ρ l,ρ c with
  | .int .i64 l,.int .i64 c=>
   if 0≤l∧l≤c∧c*bytes≤281474976710656∧c≤281474976710656∧z.length=sz∧0<sz∧z.all AV.one=true then some (.sl h.next 0 l.toNat sz,h.push fun s=> .row (rep l.toNat z) true s)else none
  |_,_=>none
def tN (x:bC)(lo:Option bC)(hi:Option bC)(ρ:bC→AV)(h:Hp):Option (AV×Hp):=
 match ρ x with
  | .str s=>match Bc s (lo.map ρ) (hi.map ρ)with
   |some v=>some (v,h)
   |none=>none
  |_=>none
def HA (sz:Nat)(x:bC)(lo:Option bC)(hi:Option bC)(ρ:bC→AV)(h:Hp):Option (AV×Hp):=
 El h sz (ρ x) (lo.map ρ) (hi.map ρ)
def pF (off:Nat)(x:bC)(ρ:bC→AV)(h:Hp):Option (AV×Hp):=
 match ρ x with
  | .ptr t o=>some (.ptr t (o+off),h)
  |_=>none
def tQ (agg:Bool)(off:Nat)(n:Nat)(x:bC)(ρ:bC→AV)(h:Hp):Option (AV×Hp):=
 match ρ x with
  | .agg cs=>
   if off+n≤cs.length then
    if agg then some (.agg ((cs.drop off).take n),h)else match cs[off]? with
     |some v=>some (v,h)
     |none=>none
   else none
  |_=>none
def pE (sz:Nat)(x:bC)(i:bC)(ρ:bC→AV)(h:Hp):Option (AV×Hp):=
 match ρ x,ρ i with
  | .sl t o n _,.int _ i=>if 0≤i∧i<(n:Int)then some (.ptr t (o+i.toNat*sz),h)else none
  |_,_=>none
def mF (sz:Nat)(n:Nat)(x:bC)(i:bC)(ρ:bC→AV)(h:Hp):Option (AV×Hp):=
 match ρ x,ρ i with
  | .ptr t o,.int _ i=>if 0≤i∧i<(n:Int)then some (.ptr t (o+i.toNat*sz),h)else none
  |_,_=>none
def pD (x:bC)(i:bC)(ρ:bC→AV)(h:Hp):Option (AV×Hp):=
  match ρ x,ρ i with
    | .str s,.int _ i=>if 0≤i then match s[i.toNat]? with
        |some b=>some (.int .u8 b.toNat,h)
        |none=>none
      else none
    |_,_=>none
def tR (x:bC)(i:Nat)(ρ:bC→AV)(h:Hp):Option (AV×Hp):=
 match ρ x with
  | .gk l=>match l[i]? with
   |some v=>some (v,h)
   |none=>none
  |_=>none
def tP (q:JF)(x:bC)(ρ:bC→AV)(h:Hp):Option (AV×Hp):=
 match q,ρ x with
  | .str,.str s=>some (.int .i64 s.length,h)
  | .slice,.sl _ _ n _=>some (.int .i64 n,h)
  | .slice,.av=>some (.int .i64 0,h)
  | .slice,.IM .. =>some (.int .i64 0,h)
  | .arr n,_=>some (.int .i64 n,h)
  |_,_=>none
def Dp (sz:Nat)(bytes:Nat)(x:bC)(y:bC)(ρ:bC→AV)(h:Hp):Option (AV×Hp):=
 kr h sz bytes (ρ x) (ρ y)
def yY (xs:List bC)(ρ:bC→AV)(h:Hp):Option (AV×Hp):=
 match xs.map ρ with
  | x::r=>match qK uc x r with
   |some v=>some (v,h)
   |none=>none
  |[]=>none
def yZ (xs:List bC)(ρ:bC→AV)(h:Hp):Option (AV×Hp):=
 match xs.map ρ with
  | x::r=>match qK tZ x r with
   |some v=>some (v,h)
   |none=>none
  |[]=>none
def yW (x:bC)(ρ:bC→AV)(h:Hp):Option (AV×Hp):=
 match ρ x with
  | .str s=>some (.ptr h.next 0,h.push fun st=> .lS s 0 st)
  |_=>none
def yX (x:bC)(ρ:bC→AV)(h:Hp):Option (AV×Hp):=
 match ρ x with
  | .ptr t 0=>match h.get t with
   | some (.lS s pos _)=>
    if pos<s.length then
     let d:=Utf8.decode ⟨s.toArray⟩ pos
     some (.gk [.bool true,.int .i64 pos,.int .i32 d.1],h.put t fun st=> .lS s (pos+d.2) st)
    else some (.gk [.bool false],h)
   |_=>none
  |_=>none
def sP (ρ:bC→AV)(h:Hp):Option (AV×Hp):=
 some (.map h.next,h.push fun s=> .kM [] s)
def pB (m:bC)(k:bC)(v:bC)(ρ:bC→AV)(h:Hp):Option (AV×Hp):=
 match ρ m,ρ k with
  | .map t,.str k=>match h.get t with
   | some (.kM es _)=>match A7 k (ρ v) es with
    |some NU=>some (jO,h.put t fun s=> .kM NU s)
    |none=>none
   |_=>none
  |_,_=>none
def tO (m:bC)(k:bC)(z:AV)(ok:Bool)(ρ:bC→AV)(h:Hp):Option (AV×Hp):=
 match ρ m,ρ k with
  | .map t,.str k=>match h.get t with
   | some (.kM es _)=>match uv k es with
    |some (some v)=>some (if ok then .gk [v,.bool true]else v,h)
    |some none=>some (if ok then .gk [z,.bool false]else z,h)
    |none=>none
   |_=>none
  |_,_=>none
def Sc (_:bC→AV)(_:Hp):Option (AV×Hp):=none
def mS (o:ij):(bC→AV)→Hp→Option (AV×Hp):=
 match o with
 | .mv x=>HB x
 | .pick c a b=>pA c a b
 | .alloc z=>qA z
 | .box x=>tU x
 | .build z ps=>kT z ps
 | .dU sz n z ps=>kz sz n z ps
 | .load agg n x=>pC agg n x
 | .store n x y=>oL n x y
 | .zc x=>oM x
 | .bin op q x y=>tV op q x y
 | .un op x=>Bx op x
 | .sW k x=>tT k x
 | .QW x=>tS x
 | .Qq x=>By x
 | .FD T x=>za T x
 | .Pk f cs=>zb f cs
 | .tY sz bytes z l c=>rZ sz bytes z l c
 | .rW x lo hi=>tN x lo hi
 | .sl sz x lo hi=>HA sz x lo hi
 | .jy off x=>pF off x
 | .yl agg off n x=>tQ agg off n x
 | .gR sz x i=>pE sz x i
 | .wj sz n x i=>mF sz n x i
 | .idxs x i=>pD x i
 | .ext x i=>tR x i
 | .len q x=>tP q x
 | .app sz bytes x y=>Dp sz bytes x y
 | .mx xs=>yY xs
 | .mn xs=>yZ xs
 | .UG x=>yW x
 | .UH x=>yX x
 | .vV=>sP
 | .zd m k v=>pB m k v
 | .Pp m k z ok=>tO m k z ok
 | .mc .. | .hZ .. | .inv .. | .bad=>Sc
inductive Ex where
 |fW
 |exit (id:Nat)
 |ret
def iA (args:List AV):Nat→T AV→T AV
 | i,t=>match args with
  |[]=>t
  |v::r=>iA r (i+1) (t.set i v)
def nJ (s:St):qU→Option AV
 | .tmp t=>some ((s.tm.get t).getD jO)
 | .cell t agg n=>match(s.tm.get t).getD jO with
  | .ptr b o=>match s.hp.get b with
   | some (.row cs _ _)=>
    if o+n≤cs.length then
     if agg then some (.agg ((cs.drop o).take n))else cs[o]?
    else none
   |_=>none
  |_=>none
def qo (s:St):List qU→Option (List AV)
 |[]=>some []
 | r::rs=>match nJ s r,qo s rs with
  |some v,some vs=>some (v::vs)
  |_,_=>none
def eD (s:St)(rs:List qU):Option AV:=
 match qo s rs with
 |some [v]=>some v
 |some vs=>some (.gk vs)
 |none=>none
def gK (E:Env)(rec:ap→St→Option (Ex×St))(f:Nat)(args:List AV)(h:Hp):Option (AV×Hp):=
 match E.exts f with
 | some e=>match e args with
  |some v=>some (v,h)
  |none=>none
 | none=>match E.dK f with
  |some p=>p args h
  | none=>match E.fns f with
   |none=>none
   | some fn=>match rec fn.code { tm:=iA args 0 .nil,hp:=h }with
    |some (.exit _,_)=>none
    | some (_,s)=>match eD s fn.res with
     |some v=>some (v,s.hp)
     |none=>none
    |none=>none
def xu (f:Nat)(args:List bC)(E:Env)(rec:ap→St→Option (Ex×St))(s:St):Option (AV×Hp):=gK E rec f (args.map (val s.tm)) s.hp
def kj (x:bC)(args:List bC)(E:Env)(rec:ap→St→Option (Ex×St))(s:St):Option (AV×Hp):=
 match val s.tm x with
 | .fn f cap=>gK E rec f (args.map (val s.tm)++cap) s.hp
 |_=>none
def qz (x:bC)(name:String)(args:List bC)(E:Env)(rec:ap→St→Option (Ex×St))(s:St):Option (AV×Hp):=
 match val s.tm x with
 | .rE T v=>match E.gO T name with
  |some f=>gK E rec f (v::args.map (val s.tm)) s.hp
  |none=>none
 |_=>none
def KI (o:ij)(E:Env)(rec:ap→St→Option (Ex×St))(s:St):Option (AV×Hp):=mS o (val s.tm) s.hp
def nd (o:ij):Env→(ap→St→Option (Ex×St))→St→Option (AV×Hp):=
 match o with
 | .mc f args=>xu f args
 | .hZ x args=>kj x args
 | .inv x name args=>qz x name args
 |o=>KI o
def wanted (tm:T AV):Option (Nat×Bool)→Bool
 |none=>true
 | some (d,b)=>match tm.get d with
  |some (.bool c)=>c==b
  |_=>false
def reads (s:St):ij→Option Nat
 | .load _ _ x=>match val s.tm x with
  | .ptr t _=>some t
  |_=>none
 |_=>none
def old (h:Hp)(c0:Nat)(t:Nat):Bool:=
 match h.get t with
 |some o=>wW o.st c0
 |none=>false
def nM (s:St)(o:aF)(acc:List (Nat×Nat)):Option (List (Nat×Nat)):=
 match o.lQ with
 |none=>some acc
 | some u=>match reads s o.op with
  |some t=>some ((t,u)::acc)
  |none=>none
def fresh (h:Hp)(c0 i:Nat)(x:Nat×Nat):Bool:=
 match bG x.2 i with
 |true=>old h c0 x.1
 |false=>true
abbrev Rec:=ap→St→Option (Ex×St)
def Be (_:Env)(_:Rec)(s:St):Option (Ex×St):=some (.fW,s)
def lB (r:List aF)(d:Option Nat)(rec:Rec)(s:St):Option (AV×Hp)→Option (Ex×St)
 |some (v,h)=>rec (.cG r) { tm:=put s.tm d v,hp:=h }
 |none=>none
def kx (o:aF)(r:List aF)(E:Env)(rec:Rec)(s:St):Option (Ex×St):=
 match wanted s.tm o.qf with
 |true=>lB r o.dst rec s (nd o.op E rec s)
 |false=>rec (.cG r) { tm:=put s.tm o.dst jO,hp:=s.hp }
def GL (ops:List aF):Env→Rec→St→Option (Ex×St):=
 match ops with
 |[]=>Be
 |o::r=>kx o r
def OU (ops:List aF)(_:Env)(rec:Rec)(s:St):Option (Ex×St):=rec (.kH ops 0 s.hp.df []) s
def jk (o:aF)(r:List aF)(i c0:Nat)(acc:List (Nat×Nat))(E:Env)(rec:Rec)(s:St):Option (Ex×St):=
 match wanted s.tm o.qf with
 | true=>match nd o.op E rec s with
  | some (v,h)=>match nM s o acc with
   | some acc'=>match acc'.all (fresh h c0 i)with
    |true=>rec (.kH r (i+1) c0 acc') { tm:=put s.tm o.dst v,hp:=h }
    |false=>none
   |none=>none
  |none=>none
 | false=>match acc.all (fresh s.hp c0 i)with
  |true=>rec (.kH r (i+1) c0 acc) { tm:=put s.tm o.dst jO,hp:=s.hp }
  |false=>none
def Bf (ops:List aF)(i c0:Nat)(acc:List (Nat×Nat)):Env→Rec→St→Option (Ex×St):=
 match ops with
 |[]=>Be
 |o::r=>jk o r i c0 acc
def iT (a b:ap)(_:Env)(rec:Rec)(s:St):Option (Ex×St):=
 match rec a s with
 |some (.fW,s')=>rec b s'
 |r=>r
def iq (x:bC)(a b:ap)(_:Env)(rec:Rec)(s:St):Option (Ex×St):=
 match val s.tm x with
 | .bool true=>rec a s
 | .bool false=>rec b s
 |_=>none
def fF (id:Nat)(c:ap)(_:Env)(rec:Rec)(s:St):Option (Ex×St):=
 match rec c s with
 | some (.exit i,s')=>match bG i id with
  |true=>some (.fW,s')
  |false=>some (.exit i,s')
 |r=>r
def io (c:ap)(_:Env)(rec:Rec)(s:St):Option (Ex×St):=
 match rec c s with
 |some (.fW,s')=>rec (.loop c) s'
 |r=>r
def OT (id:Nat)(_:Env)(_:Rec)(s:St):Option (Ex×St):=some (.exit id,s)
def Rn (_:Env)(_:Rec)(s:St):Option (Ex×St):=some (.ret,s)
def Rp (_:Env)(_:Rec)(_:St):Option (Ex×St):=none
def Gt (c:ap):Env→Rec→St→Option (Ex×St):=
 match c with
 | .skip=>Be
 | .cG ops=>GL ops
 | .cC ops=>OU ops
 | .kH ops i c0 acc=>Bf ops i c0 acc
 | .seq a b=>iT a b
 | .cond x a b=>iq x a b
 | .block id c=>fF id c
 | .loop c=>io c
 | .exit id=>OT id
 | .ret=>Rn
 | .bad=>Rp
def step (E:Env)(rec:Rec)(c:ap)(s:St):Option (Ex×St):=Gt c E rec s
def exec (E:Env)(n:Nat):ap→St→Option (Ex×St):=Nat.rec (fun _ _=>none) (fun _ ih=>step E ih) n
def call (E:Env)(n:Nat)(f:Nat)(args:List AV)(h:Hp):Option (AV×Hp):=gK E (exec E n) f args h
end
end Go.Ae
set_option linter.unusedSimpArgs false
namespace Go.Ae
theorem pH {α:Type}(n:Nat)(k:Nat→α):lit n k=k n:=by cases n<;>rfl
theorem xA {α:Type}(n:Int)(k:Int→α):KR n k=k n:=by cases n<;>simp[KR,pH]
theorem T.get_nil {α:Type}(n:Nat):(T.nil:T α).get n=none:=rfl
theorem T.iU {α:Type}(l:T α)(v:Option α)(r:T α)(n:Nat):
  (T.node l v r).get n=if n=0 then v else if n%2=1 then l.get (n/2)else r.get (n/2-1):=by
 show(Bool.rec (Bool.rec (r.get (vh (n/2))) (l.get (n/2)) (bG (n%2) 1):Option α) v (bG n 0):Option α)=_
 have e1:bG n 0=decide (n=0):=by cases n<;>simp[bG]
 have e2:bG (n%2) 1=decide (n%2=1):=by
  rcases mq n with h|h<;>simp[h,bG]
 rw[e1,e2];by_cases h:n=0<;>by_cases k:n%2=1<;>simp[h,k,su]
theorem T.KX {α:Type}(x:α)(d n:Nat):
  T.ins x (d+1) .nil n=if n=0 then .node .nil (some x) .nil else if n%2=1 then .node (T.ins x d .nil (n/2)) none .nil else .node .nil none (T.ins x d .nil (n/2-1)):=by
 show(Bool.rec (Bool.rec (T.node .nil none (T.ins x d .nil (vh (n/2)))) (T.node (T.ins x d .nil (n/2)) none .nil) (bG (n%2) 1):T α) (T.node .nil (some x) .nil) (bG n 0):T α)=_
 have e1:bG n 0=decide (n=0):=by cases n<;>simp[bG]
 have e2:bG (n%2) 1=decide (n%2=1):=by
  rcases mq n with h|h<;>simp[h,bG]
 rw[e1,e2];by_cases h:n=0<;>by_cases k:n%2=1<;>simp[h,k,su]
theorem T.HV {α:Type}(x:α)(d n:Nat)(l r:T α)(v:Option α):
  T.ins x (d+1) (.node l v r) n=if n=0 then .node l (some x) r else if n%2=1 then .node (T.ins x d l (n/2)) v r else .node l v (T.ins x d r (n/2-1)):=by
 show(Bool.rec (Bool.rec (T.node l v (T.ins x d r (vh (n/2)))) (T.node (T.ins x d l (n/2)) v r) (bG (n%2) 1):T α) (T.node l (some x) r) (bG n 0):T α)=_
 have e1:bG n 0=decide (n=0):=by cases n<;>simp[bG]
 have e2:bG (n%2) 1=decide (n%2=1):=by
  rcases mq n with h|h<;>simp[h,bG]
 rw[e1,e2];by_cases h:n=0<;>by_cases k:n%2=1<;>simp[h,k,su]
theorem T.qI {α:Type}(x:α):∀(d:Nat) (t:T α) (n m:Nat),n<d→(T.ins x d t n).get m=if m=n then some x else t.get m
 |0,_,_,_,h=>by omega
 | d + 1, t, n,m,h=>by
  cases t with
  | nil =>
   rw[T.KX];by_cases h0:n=0
   ·subst h0;rw[if_pos rfl,T.iU];by_cases hm:m=0<;>simp[hm,T.get_nil]
   ·rw [if_neg h0];by_cases h1:n%2=1
    ·rw [if_pos h1,T.iU,T.qI x d _ _ _ (by omega)];by_cases hm:m=0
     ·have:m≠n:=by omega
      simp[hm,T.get_nil];omega
     ·by_cases BN:m%2=1
      ·have:(m/2=n/2)↔m=n:=by omega
       simp[hm,BN,T.get_nil,this]
      ·have:m≠n:=by omega
       simp[hm,BN,T.get_nil,this]
    ·rw [if_neg h1,T.iU,T.qI x d _ _ _ (by omega)];by_cases hm:m=0
     ·have:m≠n:=by omega
      simp[hm,T.get_nil];omega
     ·by_cases BN:m%2=1
      ·have:m≠n:=by omega
       simp[hm,BN,T.get_nil,this]
      ·have:(m/2-1=n/2-1)↔m=n:=by omega
       simp[hm,BN,T.get_nil,this]
  | node l v r=>
   rw[T.HV];by_cases h0:n=0
   ·subst h0;rw[if_pos rfl,T.iU,T.iU];by_cases hm:m=0<;>simp[hm]
   ·rw [if_neg h0];by_cases h1:n%2=1
    ·rw [if_pos h1,T.iU,T.iU,T.qI x d _ _ _ (by omega)];by_cases hm:m=0
     ·have:m≠n:=by omega
      simp[hm];omega
     ·by_cases BN:m%2=1
      ·have:(m/2=n/2)↔m=n:=by omega
       simp[hm,BN,this]
      ·have:m≠n:=by omega
       simp[hm,BN,this]
    ·rw [if_neg h1,T.iU,T.iU,T.qI x d _ _ _ (by omega)];by_cases hm:m=0
     ·have:m≠n:=by omega
      simp[hm];omega
     ·by_cases BN:m%2=1
      ·have:m≠n:=by omega
       simp[hm,BN,this]
      ·have:(m/2-1=n/2-1)↔m=n:=by omega
       simp[hm,BN,this]
theorem T.qH {α:Type}(x:α)(t:T α)(n m:Nat):(t.set n x).get m=if m=n then some x else t.get m:=by
 unfold T.set;rw[pH];exact T.qI x _ t n m (by omega)
theorem Hp.dh (h:Hp)(o:Nat→di)(t:Nat):(h.push o).get t=if t=h.next then some (o (h.df+1))else h.get t:=T.qH _ _ _ _
theorem Hp.iY (h:Hp)(t':Nat)(o:Nat→di)(t:Nat):(h.put t' o).get t=if t=t' then some (o (h.df+1))else h.get t:=T.qH _ _ _ _
theorem aN (E:Env)(n:Nat):exec E (n+1)=step E (exec E n):=rfl
theorem DW (x y:Int):Qy x y=x+y:=by cases x<;>cases y<;>simp[Qy]<;>rfl
theorem sL (x y:Int):Ka x y=x-y:=by
 cases x with
 | ofNat m=>cases y with
  | ofNat n=>
   simp only[Ka];cases h:wW n m with
   |true=>have:=jg h;simp only[fD];show((m-n:Nat):Int)=_;omega
   |false=>rfl
  |negSucc n=>rfl
 |negSucc m=>rfl
theorem Dv (x y:Int):Pj x y=x*y:=by cases x<;>cases y<;>simp[Pj]<;>rfl
theorem Dh (x y:Int):O4 x y=x.tdiv y:=by cases x<;>cases y<;>simp[O4]<;>rfl
theorem Dd (x y:Int):OZ x y=x.tmod y:=by cases x<;>cases y<;>simp[OZ]<;>rfl
theorem LN (m n:Nat):bG m n=decide (m=n):=by
 rw[mZ];simp
theorem mM (x y:Int):P5 x y=(x==y):=by
 cases x<;>cases y<;>simp only[P5,fD]<;>rw[mZ]<;>simp<;>omega
theorem nP (x y:Int):QI x y=decide (x<y):=by
 cases x<;>cases y<;>simp only[QI,fD]<;>rw[mZ]<;>simp[jx]<;>omega
theorem xC (x y:Int):UI x y=decide (x≤y):=by
 cases x<;>cases y<;>simp only[UI,fD]<;>rw[mZ]<;>simp<;>omega
set_option maxRecDepth 10000 in
theorem te (k:IntKind)(n:Int):vK k n=k.wrap n:=by
 cases n with
 | ofNat m=>
  simp only[vK];cases h:gL m (pI k)with
  |false=>rfl
  | true=>
   have hm:m<pI k:=by simpa using h
   simp only[fD];cases k<;>simp[pI]at hm<;>simp[IntKind.wrap,IntKind.bits,IntKind.signed]<;>omega
 | negSucc m=>
  simp only[vK];cases hs:Rk k with
  |false=>rfl
  | true=>
   cases h:gL m (pI k)with
   |false=>rfl
   | true=>
    have hm:m<pI k:=by simpa using h
    clear h
    have key:∀(b:Nat),k.signed=true→k.bits=b+1→(m:Int)<2^b→Int.negSucc m=k.wrap (Int.negSucc m):=by
     intro b h1 h2 h3;have hp:(0:Int)<2^b:=Int.pow_pos (by omega);have e:(2:Int)^(b+1)=2*2^b:=by rw[Int.pow_succ];omega
     simp only[IntKind.wrap,h1,h2,Nat.add_sub_cancel,e,Bool.true_and];generalize (2:Int)^b=B at *
     have FH:Int.negSucc m%(2*B)=Int.negSucc m+2*B:=by
      rw[←Int.add_mul_emod_self_left (Int.negSucc m) (2*B) 1,Int.mul_one];exact Int.emod_eq_of_lt (by omega) (by omega)
     rw[FH];have:(Int.negSucc m+2*B≥B):=by omega
     simp[this]
    cases k
    ·exact key 7 rfl rfl (by simp only[pI]at hm;omega)
    ·exact key 15 rfl rfl (by simp only[pI]at hm;omega)
    ·exact key 31 rfl rfl (by simp only[pI]at hm;omega)
    ·exact key 63 rfl rfl (by simp only[pI]at hm;omega)
    all_goals exact absurd hs (by decide)
theorem gW (k:IntKind)(n:Int):mkInt k n=some (.int k (k.wrap n)):=by simp[mkInt,xA,te]
theorem fK (k k':IntKind):GK k k'=decide (k=k'):=by cases k<;>cases k'<;>rfl
end Go.Ae
namespace Go.Ae
structure Place where
 b:Nat
 o:Nat
 c:Nat
 sz:Nat
abbrev dF:=Nat→Place
mutual
def enc (ρ:dF):AV→Value
 | .int k n=> .int k n
 | .bool b=> .bool b
 | .str s=> .string ⟨s.toArray⟩
 | .ptr t o=> .pointer (some ⟨(ρ t).b,(ρ t).o+o,none⟩)
 | .pG=> .pointer none
 | .sl t o n z=> .slice (some ⟨(ρ t).b,(ρ t).o+o,none⟩) n ((ρ t).c-o/z)
 | .av=> .slice none 0 0
 | .IM b o s c=> .slice (some ⟨b,o,s⟩) 0 c
 | .fn f cap=> .func (.func f) #[] (encs ρ cap).toArray
 | .kC=> .nilFunc
 | .rE T v=> .iface T (enc ρ v)
 | .jQ=> .nilIface
 | .map t=> .map (some (ρ t).b)
 | .rA=> .map none
 | .agg l=> .agg (encs ρ l).toArray
 | .gk l=> .tuple (encs ρ l).toArray
def encs (ρ:dF):List AV→List Value
 |[]=>[]
 |x::l=>enc ρ x::encs ρ l
end
mutual
def ok (ρ:dF)(N:Nat):AV→Prop
 | .ptr t _=>t<N
 | .sl t o n z=>t<N∧z=(ρ t).sz∧0<z∧o%z=0∧o/z+n≤(ρ t).c
 | .map t=>t<N
 | .fn _ cap=>gV ρ N cap
 | .rE _ v=>ok ρ N v
 | .agg l=>gV ρ N l
 | .gk l=>gV ρ N l
 |_=>True
def gV (ρ:dF)(N:Nat):List AV→Prop
 |[]=>True
 |x::l=>ok ρ N x∧gV ρ N l
end
theorem cQ (ρ:dF):∀l,encs ρ l=l.map (enc ρ)
 |[]=>by simp[encs]
 |x::l=>by simp[encs,cQ ρ l]
theorem cZ (ρ:dF)(N:Nat):∀l,gV ρ N l↔∀v∈l,ok ρ N v
 |[]=>by simp[gV]
 |x::l=>by simp[gV,cZ ρ N l]
theorem ce (ρ:dF)(l:List AV):(encs ρ l).length=l.length:=by simp[cQ]
theorem kY (ρ:dF):enc ρ jO=undef:=by simp[enc,encs,undef]
def cW (N:Nat)(ρ ρ':dF):Prop:=∀t,t<N→ρ' t=ρ t
theorem cW.refl (N:Nat)(ρ:dF):cW N ρ ρ:=fun _ _=>rfl
theorem cW.trans {N N':Nat}{ρ ρ' ρ'':dF}(h:cW N ρ ρ')(h':cW N' ρ' ρ'')(hN:N≤N'):cW N ρ ρ'':=
 fun t ht=>(h' t (by omega)).trans (h t ht)
mutual
theorem dE {N:Nat}{ρ ρ':dF}(h:cW N ρ ρ'):∀(v:AV),ok ρ N v→enc ρ' v=enc ρ v
 | .int _ _,_=>by simp[enc]
 | .bool _,_=>by simp[enc]
 | .str _,_=>by simp[enc]
 | .ptr t o,hv=>by simp only[ok]at hv;simp[enc,h t hv]
 | .pG,_=>by simp[enc]
 | .sl t o n z,hv=>by simp only[ok]at hv;simp[enc,h t hv.1]
 | .av,_=>by simp[enc]
 | .IM _ _ _ _,_=>by simp[enc]
 | .fn f cap,hv=>by simp only[ok]at hv;simp[enc,fN h cap hv]
 | .kC,_=>by simp[enc]
 | .rE T v,hv=>by simp only[ok]at hv;simp[enc,dE h v hv]
 | .jQ,_=>by simp[enc]
 | .map t,hv=>by simp only[ok]at hv;simp[enc,h t hv]
 | .rA,_=>by simp[enc]
 | .agg l,hv=>by simp only[ok]at hv;simp[enc,fN h l hv]
 | .gk l,hv=>by simp only[ok]at hv;simp[enc,fN h l hv]
theorem fN {N:Nat}{ρ ρ':dF}(h:cW N ρ ρ'):∀(l:List AV),gV ρ N l→encs ρ' l=encs ρ l
 |[],_=>by simp[encs]
 |x::l,hv=>by simp only[gV]at hv;simp[encs,dE h x hv.1,fN h l hv.2]
end
mutual
theorem fL {N N':Nat}{ρ ρ':dF}(h:cW N ρ ρ')(hN:N≤N'):∀(v:AV),ok ρ N v→ok ρ' N' v
 | .int _ _,_=>by simp[ok]
 | .bool _,_=>by simp[ok]
 | .str _,_=>by simp[ok]
 | .ptr t o,hv=>by simp only[ok]at hv⊢;omega
 | .pG,_=>by simp[ok]
 | .sl t o n z,hv=>by simp only[ok]at hv⊢;rw[h t hv.1];exact⟨by omega,hv.2⟩
 | .av,_=>by simp[ok]
 | .IM _ _ _ _,_=>by simp[ok]
 | .fn f cap,hv=>by simp only[ok]at hv⊢;exact iI h hN cap hv
 | .kC,_=>by simp[ok]
 | .rE T v,hv=>by simp only[ok]at hv⊢;exact fL h hN v hv
 | .jQ,_=>by simp[ok]
 | .map t,hv=>by simp only[ok]at hv⊢;omega
 | .rA,_=>by simp[ok]
 | .agg l,hv=>by simp only[ok]at hv⊢;exact iI h hN l hv
 | .gk l,hv=>by simp only[ok]at hv⊢;exact iI h hN l hv
theorem iI {N N':Nat}{ρ ρ':dF}(h:cW N ρ ρ')(hN:N≤N'):∀(l:List AV),gV ρ N l→gV ρ' N' l
 |[],_=>by simp[gV]
 |x::l,hv=>by simp only[gV]at hv⊢;exact⟨fL h hN x hv.1,iI h hN l hv.2⟩
end
theorem DH (ρ:dF)(v:AV):(enc ρ v).oneCell'=v.one:=by cases v<;>simp[enc,Value.oneCell',AV.one]
theorem oT (ρ:dF)(v:AV):(enc ρ v).cells=(encs ρ v.cells).toArray:=by cases v<;>simp[enc,Value.cells,AV.cells,encs]
theorem tM {ρ:dF}{N:Nat}{v:AV}(h:ok ρ N v):gV ρ N v.cells:=by
 cases v<;>first|exact⟨h,trivial⟩|exact h
def di.owned:di→Bool
 | .row _ o _=>o
 | .dead _=>false
 |_=>true
structure lH (base:Nat)(ρ:dF)(N:Nat)(w:World)(t:Nat)(cs:List AV)(own:Bool):Prop where
 one:∀v∈cs,v.one=true
 ok:gV ρ N cs
 cells:w.rangeAt (ρ t).b (ρ t).o (encs ρ cs)
 sA:own=true→base≤(ρ t).b∧(ρ t).b<w.heap.size∧w.there (ρ t).b (ρ t).o cs.length∧w.there (ρ t).b (ρ t).o ((ρ t).c*(ρ t).sz)
 xv:own=false→cs=[]∨(ρ t).b<base
structure bz (base:Nat)(ρ:dF)(h:Hp)(w:World):Prop where
 size:base≤w.heap.size
 lt:∀t o,h.get t=some o→t<h.next
 row:∀t cs own st,h.get t=some (.row cs own st)→lH base ρ h.next w t cs own
 iter:∀t s p st,h.get t=some (.lS s p st)→base≤(ρ t).b∧(ρ t).o=0∧w.heap[(ρ t).b]?=some (.stringIter ⟨s.toArray⟩ p)
 map:∀t es st,h.get t=some (.kM es st)→base≤(ρ t).b∧(∀e∈es,e.1.one=true∧ok ρ h.next e.1∧ok ρ h.next e.2)∧
  ∃ms c,w.heap[(ρ t).b]?=some (.map ms c)∧ms.toList.map (fun m=>(m.key,m.val))=es.map (fun e=>(enc ρ e.1,enc ρ e.2))
 apart:∀t t' o o',h.get t=some o→h.get t'=some o'→o.owned=true→o'.owned=true→t≠t'→(ρ t).b≠(ρ t').b
structure pZ (ρ:dF)(h:Hp)(w w':World):Prop where
 os:w'.os=w.os
 tape:w'.tape=w.tape
 output:w'.output=w.output
 size:w.heap.size≤w'.heap.size
 block:∀k,k<w.heap.size→(∀t o,h.get t=some o→o.owned=true→(ρ t).b≠k)→w'.heap[k]?=w.heap[k]?
def Uw (ρ:dF)(h:Hp)(w:World)(ρ':dF)(h':Hp):Prop:=
 ∀t o,h'.get t=some o→o.owned=true→w.heap.size≤(ρ' t).b∨∃t0 o0,h.get t0=some o0∧o0.owned=true∧(ρ t0).b=(ρ' t).b
structure Ext (base:Nat)(ρ:dF)(h:Hp)(w:World)(ρ':dF)(h':Hp)(w':World):Prop where
 agree:cW h.next ρ ρ'
 next:h.next≤h'.next
 rel:bz base ρ' h' w'
 fb:pZ ρ h w w'
 fresh:Uw ρ h w ρ' h'
theorem bz.iw {base:Nat}{ρ:dF}{h:Hp}{w:World}(R:bz base ρ h w){t:Nat}{o:di}(ht:h.get t=some o)(ho:o.owned=true):base≤(ρ t).b∧(ρ t).b<w.heap.size:=by
 cases o with
 |row cs own st=>exact⟨((R.row t cs own st ht).sA ho).1,((R.row t cs own st ht).sA ho).2.1⟩
 |dead st=>simp[di.owned]at ho
 | lS s p st=>
  obtain⟨h1,_,h2⟩:=R.iter t s p st ht;exact⟨h1,by rcases aQ (ρ t).b w.heap.size with c|c;exact c;simp[ks c]at h2⟩
 | kM es st=>
  obtain⟨h1,_,ms,c,h2,_⟩:=R.map t es st ht;exact⟨h1,by rcases aQ (ρ t).b w.heap.size with c|c;exact c;simp[ks c]at h2⟩
theorem pZ.refl (ρ:dF)(h:Hp)(w:World):pZ ρ h w w:=⟨rfl,rfl,rfl,ac _,fun _ _ _=>rfl⟩
theorem Ext.refl {base:Nat}{ρ:dF}{h:Hp}{w:World}(R:bz base ρ h w):Ext base ρ h w ρ h w:=
 ⟨cW.refl _ _,ac _,R,pZ.refl _ _ _,fun t o ht ho=> .inr ⟨t,o,ht,ho,rfl⟩⟩
theorem Ext.trans {base:Nat}{ρ ρ' ρ'':dF}{h h' xE:Hp}{w w' w'':World}(E:Ext base ρ h w ρ' h' w')(E':Ext base ρ' h' w' ρ'' xE w''):Ext base ρ h w ρ'' xE w'' where
 agree:=E.agree.trans E'.agree E.next
 next:=az E.next E'.next
 rel:=E'.rel
 fb:={
  os:=E'.fb.os.trans E.fb.os
  tape:=E'.fb.tape.trans E.fb.tape
  output:=E'.fb.output.trans E.fb.output
  size:=az E.fb.size E'.fb.size
  block:=fun k hk hn=>(E'.fb.block k (ah hk E.fb.size) (fun t o ht ho hb=>by
   rcases E.fresh t o ht ho with c|⟨t0,o0,h0,h1,h2⟩
   ·omega
   ·exact hn t0 o0 h0 h1 (h2.trans hb))).trans (E.fb.block k hk hn) }
 fresh:=fun t o ht ho=>by
  rcases E'.fresh t o ht ho with c|⟨t0,o0,h0,h1,h2⟩
  ·exact .inl (az E.fb.size c)
  ·rcases E.fresh t0 o0 h0 h1 with c|⟨t1,o1,h3,h4,h5⟩
   ·exact .inl (by omega)
   ·exact .inr ⟨t1,o1,h3,h4,h5.trans h2⟩
theorem pZ.below {base:Nat}{ρ:dF}{h:Hp}{w w':World}(K:pZ ρ h w w')(R:bz base ρ h w):bn base w w':=
 ⟨K.os,K.tape,K.output,K.size,fun k hk=>K.block k (ah hk R.size) (fun t o ht ho hb=>by have:=(R.iw ht ho).1;omega)⟩
theorem bz.drawn {base:Nat}{ρ:dF}{h:Hp}{w:World}(R:bz base ρ h w)(d:Nat):bz base ρ h { w with drawn:=d }:=
 ⟨R.size,R.lt,fun t cs own st ht=>⟨(R.row t cs own st ht).one,(R.row t cs own st ht).ok,(R.row t cs own st ht).cells,(R.row t cs own st ht).sA,(R.row t cs own st ht).xv⟩,R.iter,R.map,R.apart⟩
theorem Ext.drawn {base:Nat}{ρ:dF}{h:Hp}{w:World}(R:bz base ρ h w)(d:Nat):Ext base ρ h w ρ h { w with drawn:=d }:=
 ⟨cW.refl _ _,ac _,R.drawn d,⟨rfl,rfl,rfl,ac _,fun _ _ _=>rfl⟩,fun t o ht ho=> .inr ⟨t,o,ht,ho,rfl⟩⟩
theorem rM {w w':World}{b o:Nat}(h:w'.heap[b]?=w.heap[b]?):w'.cell? ⟨b,o,none⟩=w.cell? ⟨b,o,none⟩:=by simp[World.cell?,h]
theorem mD {w w':World}{b o:Nat}{cs:List Value}(h:w'.heap[b]?=w.heap[b]?)(k:w.rangeAt b o cs):w'.rangeAt b o cs:=
 fun j v hv=>(rM h).trans (k j v hv)
theorem mA {w w':World}{b o n:Nat}(h:w'.heap[b]?=w.heap[b]?)(k:w.there b o n):w'.there b o n:=
 fun j hj=>⟨by rw[rM h];exact(k j hj).1,by simp only[World.frozen?,h];exact(k j hj).2⟩
theorem lH.later {base:Nat}{ρ ρ':dF}{N N':Nat}{w w':World}{t:Nat}{cs:List AV}{own:Bool}(R:lH base ρ N w t cs own)
  (ha:cW N ρ ρ') (hN:N≤N') (ht:t<N) (hs:w.heap.size≤w'.heap.size) (hb:cs=[]∧own=false∨w'.heap[(ρ t).b]?=w.heap[(ρ t).b]?):lH base ρ' N' w' t cs own:=by
 have e:=ha t ht;refine⟨R.one,iI ha hN _ R.ok,?_,?_,?_⟩
 ·rw[e,fN ha _ R.ok];rcases hb with⟨rfl,_⟩|hb
  ·intro j v hv;simp[encs]at hv
  ·exact mD hb R.cells
 ·intro ho;rw[e];obtain⟨h1,h2,h3,h4⟩:=R.sA ho;rcases hb with⟨_,h⟩|hb
  ·rw[h]at ho;cases ho
  ·exact⟨h1,by omega,mA hb h3,mA hb h4⟩
 ·intro ho;rw[e];exact R.xv ho
theorem bz.mE {base:Nat}{ρ ρ':dF}{h:Hp}{w w':World}(R:bz base ρ h w)(o:Nat→di)(ha:cW h.next ρ ρ')
    (hs:w.heap.size≤w'.heap.size) (hb:∀k,k<w.heap.size→w'.heap[k]?=w.heap[k]?)
    (hnew:match o (h.df+1)with
      | .row cs own _=>lH base ρ' (h.next+1) w' h.next cs own∧(own=true→w.heap.size≤(ρ' h.next).b)
      | .dead _=>True
      | .lS s p _=>w.heap.size≤(ρ' h.next).b∧(ρ' h.next).o=0∧w'.heap[(ρ' h.next).b]?=some (.stringIter ⟨s.toArray⟩ p)
      | .kM es _=>w.heap.size≤(ρ' h.next).b∧es=[]∧w'.heap[(ρ' h.next).b]?=some (.map #[] 0)):bz base ρ' (h.push o) w':=by
  have hold:∀t ob,h.get t=some ob→t<h.next∧ρ' t=ρ t:=fun t ob ht=>⟨R.lt t ob ht,ha t (R.lt t ob ht)⟩
  have hne:∀t ob,h.get t=some ob→t≠h.next:=fun t ob ht=>by have:=R.lt t ob ht;omega
  have hblk:∀t ob,h.get t=some ob→ob.owned=true→w'.heap[(ρ t).b]?=w.heap[(ρ t).b]?:=fun t ob ht ho=>hb _ (R.iw ht ho).2
  refine⟨az R.size hs,?_,?_,?_,?_,?_⟩
  · intro t ob ht
    rw[Hp.dh]at ht;show t<h.next+1
    split at ht
    · omega
    · have:=R.lt t ob ht;omega
  · intro t cs own st ht
    rw[Hp.dh]at ht;split at ht
    · rename_i e;subst e
      have e1:o (h.df+1)= .row cs own st:=by simpa using ht
      rw[e1]at hnew;exact hnew.1
    · have r:=R.row t cs own st ht
      refine r.later ha (eK _) (R.lt _ _ ht) hs ?_;cases own with
      |true=>exact .inr (hblk t _ ht rfl)
      | false => rcases r.xv rfl with c|c
                 · exact .inl ⟨c,rfl⟩
                 · exact .inr (hb _ (ah c R.size))
  · intro t s p st ht
    rw[Hp.dh]at ht;split at ht
    · rename_i e;subst e
      have e1:o (h.df+1)= .lS s p st:=by simpa using ht
      rw[e1]at hnew;exact⟨az R.size hnew.1,hnew.2.1,hnew.2.2⟩
    · have r:=R.iter t s p st ht
      rw[(hold t _ ht).2,hblk t _ ht rfl];exact r
  · intro t es st ht
    rw[Hp.dh]at ht;split at ht
    · rename_i e;subst e
      have e1:o (h.df+1)= .kM es st:=by simpa using ht
      rw[e1]at hnew;obtain⟨n1,rfl,n3⟩:=hnew;exact⟨az R.size n1,by simp, #[],0,n3,by simp⟩
    · obtain⟨r1,r2,ms,c,r3,r4⟩:=R.map t es st ht
      rw[(hold t _ ht).2];refine⟨r1,fun e he=>⟨(r2 e he).1,fL ha (eK _) _ (r2 e he).2.1,fL ha (eK _) _ (r2 e he).2.2⟩,ms,c,by rw[hblk t _ ht rfl];exact r3,r4.trans ?_⟩;exact cE fun e he=>by rw[dE ha _ (r2 e he).2.1,dE ha _ (r2 e he).2.2]
  · have hn:∀ob,o (h.df+1)=ob→ob.owned=true→w.heap.size≤(ρ' h.next).b:=by
      intro ob e ho;rw[e]at hnew;cases ob with
      |row cs own st=>exact hnew.2 ho
      |dead st=>simp[di.owned]at ho
      |lS s p st=>exact hnew.1
      |kM es st=>exact hnew.1
    intro t t' ob yV ht kE ho H7 PG;rw[Hp.dh]at ht kE;split at ht<;>split at kE
    · omega
    · rename_i e _;subst e
      have:=hn ob (by simpa using ht) ho;have:=(R.iw kE H7).2;rw[(hold t' _ kE).2];omega
    · rename_i _ e;subst e
      have:=hn yV (by simpa using kE) H7;have:=(R.iw ht ho).2;rw[(hold t _ ht).2];omega
    · rw[(hold t _ ht).2,(hold t' _ kE).2];exact R.apart t t' ob yV ht kE ho H7 PG
theorem Ext.mE {base:Nat}{ρ ρ':dF}{h:Hp}{w w':World}(R:bz base ρ h w)(o:Nat→di)(ha:cW h.next ρ ρ')
  (SN:w'.os=w.os) (KZ:w'.tape=w.tape) (SM:w'.output=w.output)
  (hs:w.heap.size≤w'.heap.size) (hb:∀k,k<w.heap.size→w'.heap[k]?=w.heap[k]?)
  (hnew:match o (h.df+1)with
   | .row cs own _=>lH base ρ' (h.next+1) w' h.next cs own∧(own=true→w.heap.size≤(ρ' h.next).b)
   | .dead _=>True
   | .lS s p _=>w.heap.size≤(ρ' h.next).b∧(ρ' h.next).o=0∧w'.heap[(ρ' h.next).b]?=some (.stringIter ⟨s.toArray⟩ p)
   | .kM es _=>w.heap.size≤(ρ' h.next).b∧es=[]∧w'.heap[(ρ' h.next).b]?=some (.map #[] 0)):Ext base ρ h w ρ' (h.push o) w':=by
 refine⟨ha,eK _,R.mE o ha hs hb hnew,⟨SN,KZ,SM,hs,fun k hk _=>hb k hk⟩,?_⟩;intro t ob ht ho;rw[Hp.dh]at ht;split at ht
 ·rename_i e;subst e;have e1:o (h.df+1)=ob:=by simpa using ht
  rw[e1]at hnew;cases ob with
  |row cs own st=>exact .inl (hnew.2 ho)
  |dead st=>simp[di.owned]at ho
  |lS s p st=>exact .inl hnew.1
  |kM es st=>exact .inl hnew.1
 ·exact .inr ⟨t,ob,ht,ho,by rw[ha t (R.lt t ob ht)]⟩
def sJ (ρ:dF)(t:Nat)(p:Place):dF:=fun x=>if x=t then p else ρ x
theorem iG (ρ:dF)(N:Nat)(p:Place):cW N ρ (sJ ρ N p):=fun t ht=>by unfold sJ;rw[if_neg (by omega)]
theorem ct (ρ:dF)(N:Nat)(p:Place):sJ ρ N p N=p:=by simp[sJ]
theorem ma (w:World)(o:Obj):(w.alloc o).heap[w.heap.size]?=some o:=by
 show(w.heap.push o)[w.heap.size]?=some o
 simp
theorem kn (w:World)(o:Obj)(k:Nat)(h:k<w.heap.size):(w.alloc o).heap[k]?=w.heap[k]?:=by
 show(w.heap.push o)[k]?=_
 rw[Array.getElem?_push,if_neg (by omega)]
theorem Ext.newRow {base:Nat}{ρ:dF}{h:Hp}{w:World}(R:bz base ρ h w)(cs:List AV)(e:TypeId)(rest:List Value)(c sz:Nat)(h1:∀v∈cs,v.one=true)(h2:gV ρ h.next cs)
  (hc:c*sz≤cs.length+rest.length) (d:Nat):
  Ext base ρ h w (sJ ρ h.next ⟨w.heap.size,0,c,sz⟩) (h.push fun s=> .row cs true s) (({ w with drawn:=d }:World).alloc (.cells (encs ρ cs++rest).toArray e)):=by
 have hag:cW h.next ρ (sJ ρ h.next ⟨w.heap.size,0,c,sz⟩):=iG _ _ _;refine Ext.mE R _ hag rfl rfl rfl (by show w.heap.size≤(w.heap.push _).size;simp) (fun k hk=>kn { w with drawn:=d } _ k hk) ?_;show lH base _ (h.next+1) _ h.next cs true∧_
 rw[ct]
 have hcell:∀j,(({ w with drawn:=d }:World).alloc (.cells (encs ρ cs++rest).toArray e)).cell? ⟨w.heap.size,0+j,none⟩=(encs ρ cs++rest)[j]?:=by
  intro j;have:=ma { w with drawn:=d } (.cells (encs ρ cs++rest).toArray e);simp only[World.cell?];have e2:(({ w with drawn:=d }:World).alloc (.cells (encs ρ cs++rest).toArray e)).heap[w.heap.size]?=some (.cells (encs ρ cs++rest).toArray e):=this;rw[e2];simp
 have XG:∀j,(({ w with drawn:=d }:World).alloc (.cells (encs ρ cs++rest).toArray e)).frozen? ⟨w.heap.size,0+j,none⟩=false:=by
  intro j;have:=ma { w with drawn:=d } (.cells (encs ρ cs++rest).toArray e);have e2:(({ w with drawn:=d }:World).alloc (.cells (encs ρ cs++rest).toArray e)).heap[w.heap.size]?=some (.cells (encs ρ cs++rest).toArray e):=this;simp only[World.frozen?];rw[e2];simp
 have PB:∀n,n≤cs.length+rest.length→(({ w with drawn:=d }:World).alloc (.cells (encs ρ cs++rest).toArray e)).there w.heap.size 0 n:=by
  intro n hn j hj;refine⟨?_,XG j⟩;rw[hcell,aC (by simp[ce];omega)];rfl
 refine⟨⟨h1,iI hag (eK _) _ h2,?_,?_,by simp⟩,fun _=>ac _⟩
 ·rw[ct,fN hag _ h2];intro j v hv;rw[hcell,cH (by rw[bB]at hv;exact hv.1)];exact hv
 ·intro _;rw[ct];exact⟨R.size,by show w.heap.size<(w.heap.push _).size;simp,PB _ (by omega),PB _ hc⟩
theorem lF (b:Nat):∀(vs:List Value) (o:Nat) (w:World),(w.setCells b o vs).heap.size=w.heap.size∧(∀k,k≠b→(w.setCells b o vs).heap[k]?=w.heap[k]?)∧
  (w.setCells b o vs).os=w.os∧(w.setCells b o vs).tape=w.tape∧(w.setCells b o vs).output=w.output
 |[],_,w=>⟨rfl,fun _ _=>rfl,rfl,rfl,rfl⟩
 | v::r,o,w=>by
  obtain⟨h1,h2,h3,h4,h5⟩:=lF b r (o+1) (w.setCell ⟨b,o,none⟩ v);refine⟨h1.trans (by simp[World.setCell]),fun k hk=>(h2 k hk).trans ?_,h3,h4,h5⟩;exact Go.RowKit.Below.heap_setCell w ⟨b,o,none⟩ v k hk
theorem there_setCells {w:World}{b o n:Nat}(h:w.there b o n)(p:Nat)(vs:List Value):(w.setCells b p vs).there b o n:=by
 intro j hj;refine⟨?_,by rw[World.frozen?_setCells];exact(h j hj).2⟩;have h0:=(h j hj).1;clear hj
 have key:∀(vs:List Value) (p:Nat) (w:World),(w.cell? ⟨b,o+j,none⟩).isSome=true→((w.setCells b p vs).cell? ⟨b,o+j,none⟩).isSome=true:=by
  intro vs
  induction vs with
  |nil=>intro p w h;exact h
  | cons v r ih=>
   intro p w h;refine ih (p+1) _ ?_;by_cases e:p=o+j
   ·subst e;obtain⟨u,hu⟩:=AH.1 h;rw[World.cell?_setCell_same w _ v hu];rfl
   ·rw[World.cell?_setCell_other _ _ _ _ (by simp;omega)];exact h
 exact key vs p w h0
theorem sE (cs vs:List AV)(o j:Nat)(hl:o+vs.length≤cs.length):(eE cs o vs)[j]?=if o≤j∧j<o+vs.length then vs[j-o]? else cs[j]?:=by
 unfold eE;by_cases h1:j<o
 ·rw[cH (by simp;omega),if_neg (by omega),List.getElem?_take_of_lt h1]
 ·rw[fk (by simp;omega),aB,Nat.min_eq_left (by omega)];by_cases h2:j<o+vs.length
  ·rw[cH (by omega),if_pos ⟨by omega,h2⟩]
  ·rw[fk (by omega),if_neg (by omega),jh];congr 1;omega
theorem lE (cs vs:List AV)(o:Nat)(hl:o+vs.length≤cs.length):(eE cs o vs).length=cs.length:=by
 unfold eE;simp;omega
theorem mH {cs vs:List AV}{o:Nat}{v:AV}(h:v∈eE cs o vs):v∈cs∨v∈vs:=by
 unfold eE at h;rcases dQ.1 h with h|h
 ·exact .inl (fQ h)
 ·rcases dQ.1 h with h|h
  ·exact .inr h
  ·exact .inl (iW h)
theorem Ext.changed {base:Nat}{ρ:dF}{h:Hp}{w w':World}(R:bz base ρ h w){t:Nat}{yU:di}(ht:h.get t=some yU)(Dy:yU.owned=true)(ob:Nat→di)
    (SN:w'.os=w.os) (KZ:w'.tape=w.tape) (SM:w'.output=w.output) (hs:w'.heap.size=w.heap.size) (hb:∀k,k≠(ρ t).b→w'.heap[k]?=w.heap[k]?)
    (hnew:match ob (h.df+1)with
      | .row cs own _=>lH base ρ h.next w' t cs own
      | .dead _=>True
      | .lS s p _=>(ρ t).o=0∧w'.heap[(ρ t).b]?=some (.stringIter ⟨s.toArray⟩ p)
      | .kM es _=>(∀e∈es,e.1.one=true∧ok ρ h.next e.1∧ok ρ h.next e.2)∧∃ms c,w'.heap[(ρ t).b]?=some (.map ms c)∧ms.toList.map (fun m=>(m.key,m.val))=es.map (fun e=>(enc ρ e.1,enc ρ e.2))):
    Ext base ρ h w ρ (h.put t ob) w':=by
  have SY:=R.iw ht Dy;have BM:∀t' yV,t'≠t→h.get t'=some yV→yV.owned=true→w'.heap[(ρ t').b]?=w.heap[(ρ t').b]?:=fun t' yV hne kE H7=>hb _ (R.apart t' t yV yU kE ht H7 Dy hne)
  refine⟨cW.refl _ _,ac _,⟨by rw[hs];exact R.size,?_,?_,?_,?_,?_⟩,⟨SN,KZ,SM,by omega,fun k hk hn=>hb k (fun e=>hn t yU ht Dy e.symm)⟩,?_⟩
  · intro t' o' kE
    rw[Hp.iY]at kE;split at kE
    · rename_i e;subst e;exact R.lt _ _ ht
    · exact R.lt _ _ kE
  · intro t' cs own st kE
    rw[Hp.iY]at kE;split at kE
    · rename_i e;subst e
      have e1:ob (h.df+1)= .row cs own st:=by simpa using kE
      rw[e1]at hnew;exact hnew
    · rename_i hne
      have r:=R.row t' cs own st kE;refine r.later (cW.refl _ _) (ac _) (R.lt _ _ kE) (by omega) ?_;cases own with
      |true=>exact .inr (BM t' _ hne kE rfl)
      | false => rcases r.xv rfl with c|c
                 · exact .inl ⟨c,rfl⟩
                 · exact .inr (hb _ (by omega))
  · intro t' s p st kE
    rw[Hp.iY]at kE;split at kE
    · rename_i e;subst e
      have e1:ob (h.df+1)= .lS s p st:=by simpa using kE
      rw[e1]at hnew;exact⟨SY.1,hnew.1,hnew.2⟩
    · rename_i hne
      rw[BM t' _ hne kE rfl];exact R.iter t' s p st kE
  · intro t' es st kE
    rw[Hp.iY]at kE;split at kE
    · rename_i e;subst e
      have e1:ob (h.df+1)= .kM es st:=by simpa using kE
      rw[e1]at hnew;exact⟨SY.1,hnew.1,hnew.2⟩
    · rename_i hne
      rw[BM t' _ hne kE rfl];exact R.map t' es st kE
  · intro t1 t2 o1 o2 h1 h2 p1 p2 hne
    rw[Hp.iY]at h1 h2
    have pick:∀x o,(if x=t then some (ob (h.df+1))else h.get x)=some o→o.owned=true→∃o',h.get x=some o'∧o'.owned=true:=by
      intro x o hx ho;split at hx
      · rename_i e;subst e;exact⟨yU,ht,Dy⟩
      · exact⟨o,hx,ho⟩
    obtain⟨q1,g1,g2⟩:=pick t1 o1 h1 p1;obtain⟨q2,g3,g4⟩:=pick t2 o2 h2 p2;exact R.apart t1 t2 q1 q2 g1 g3 g2 g4 hne
  · intro t' o' kE H7
    rw[Hp.iY]at kE;split at kE
    · rename_i e;subst e;exact .inr ⟨t',yU,ht,Dy,rfl⟩
    · exact .inr ⟨t',o',kE,H7,rfl⟩
theorem Ext.stored {base:Nat}{ρ:dF}{h:Hp}{w:World}(R:bz base ρ h w){t:Nat}{cs:List AV}{st:Nat}(ht:h.get t=some (.row cs true st))(o:Nat)(vs:List AV)
  (hl:o+vs.length≤cs.length) (h1:∀v∈vs,v.one=true) (h2:gV ρ h.next vs):
  Ext base ρ h w ρ (h.put t fun s=> .row (eE cs o vs) true s) (w.setCells (ρ t).b ((ρ t).o+o) (encs ρ vs)):=by
 obtain⟨g1,g2,g3,g4,g5⟩:=lF (ρ t).b (encs ρ vs) ((ρ t).o+o) w;have r:=R.row t cs true st ht;obtain⟨q1,q2,q3,q4⟩:=r.sA rfl;refine Ext.changed R ht rfl _ g3 g4 g5 g1 g2 ?_;show lH base ρ h.next _ t (eE cs o vs) true
 refine⟨fun v hv=>?_,(cZ _ _ _).2 fun v hv=>?_,?_,fun _=>⟨q1,by rw[g1];exact q2,?_,there_setCells q4 _ _⟩,by simp⟩
 ·rcases mH hv with c|c
  ·exact r.one v c
  ·exact h1 v c
 ·rcases mH hv with c|c
  ·exact(cZ _ _ _).1 r.ok v c
  ·exact(cZ _ _ _).1 h2 v c
 ·intro j v hv
  have hj:j<cs.length:=by
   have:=(bB.1 hv).1;rw[ce,lE _ _ _ hl]at this;exact this
  rw[cQ,bZ,sE _ _ _ _ hl]at hv;split at hv
  ·rename_i hh;have hlt:j-o<(encs ρ vs).length:=by rw[ce];omega
   have:=World.cell?_setCells_in (ρ t).b (encs ρ vs) ((ρ t).o+o) w (fun i hi=>by
    have:=(q3 (o+i) (by rw[ce]at hi;omega)).1;rwa[show(ρ t).o+(o+i)=(ρ t).o+o+i by omega]at this) (j-o) hlt
   rw[show(ρ t).o+j=(ρ t).o+o+(j-o) by omega,this];rw[←hv,←bZ,←cQ,aC hlt]
  ·rename_i hh;rw[World.cell?_setCells_out (ρ t).b (encs ρ vs) ((ρ t).o+o) w _ (fun _ _=>by simp only[ce];omega)];refine r.cells j v ?_;rw[cQ,bZ];exact hv
 ·rw[lE _ _ _ hl];exact there_setCells q3 _ _
theorem Ext.Sg {base:Nat}{ρ:dF}{h:Hp}{w w':World}(R:bz base ρ h w){t:Nat}{yU:di}(ht:h.get t=some yU)(Dy:yU.owned=true)(cs:List AV)(p:Place)(hp:p.b=(ρ t).b)
    (SN:w'.os=w.os) (KZ:w'.tape=w.tape) (SM:w'.output=w.output) (hs:w'.heap.size=w.heap.size) (hb:∀k,k≠(ρ t).b→w'.heap[k]?=w.heap[k]?)
    (hnew:lH base (sJ ρ h.next p) (h.next+1) w' h.next cs true):
    Ext base ρ h w (sJ ρ h.next p) ((h.put t fun s=> .dead s).push fun s=> .row cs true s) w':=by
  have SY:=R.iw ht Dy;have htn:=R.lt _ _ ht;have hag:cW h.next ρ (sJ ρ h.next p):=iG _ _ _;have FG:∀x,x<h.next→sJ ρ h.next p x=ρ x:=hag
  have ns:∀x o,((h.put t fun s=> .dead s).push fun s=> .row cs true s).get x=some o→(x=h.next∧o= .row cs true (h.df+1+1))∨(x<h.next∧x=t∧o.owned=false∧∃s,o= .dead s)∨(x<h.next∧x≠t∧h.get x=some o):=by
    intro x o hx;rw[Hp.dh]at hx;split at hx
    · rename_i e;exact .inl ⟨e,by simpa[Hp.put]using hx.symm⟩
    · rw[Hp.iY]at hx
      split at hx
      · rename_i e;subst e
        have:o= .dead (h.df+1):=by simpa using hx.symm
        subst this;exact .inr (.inl ⟨htn,rfl,rfl,_,rfl⟩)
      · rename_i hne;exact .inr (.inr ⟨R.lt _ _ hx,hne,hx⟩)
  have BM:∀t' yV,t'≠t→h.get t'=some yV→yV.owned=true→w'.heap[(ρ t').b]?=w.heap[(ρ t').b]?:=fun t' yV hne kE H7=>hb _ (R.apart t' t yV yU kE ht H7 Dy hne)
  refine⟨hag,eK _,⟨by rw[hs];exact R.size,?_,?_,?_,?_,?_⟩,⟨SN,KZ,SM,by omega,fun k hk hn=>hb k (fun e=>hn t yU ht Dy e.symm)⟩,?_⟩
  · intro x o hx
    show x<h.next+1
    rcases ns x o hx with⟨e,_⟩|⟨e,_⟩|⟨e,_⟩<;>omega
  · intro x vD own st hx
    rcases ns x _ hx with⟨rfl,e⟩|⟨_,_,_,s,e⟩|⟨e1,e2,e3⟩
    · obtain⟨rfl,rfl,rfl⟩:vD=cs∧own=true∧st=h.df+1+1:=by simpa using e
      exact hnew
    · cases e
    · have r:=R.row x vD own st e3
      refine r.later hag (eK _) e1 (by omega) ?_;cases own with
      |true=>exact .inr (BM x _ e2 e3 rfl)
      | false => rcases r.xv rfl with c|c
                 · exact .inl ⟨c,rfl⟩
                 · exact .inr (hb _ (by omega))
  · intro x s q st hx
    rcases ns x _ hx with⟨rfl,e⟩|⟨_,_,_,s,e⟩|⟨e1,e2,e3⟩
    · cases e
    · cases e
    · rw[FG x e1,BM x _ e2 e3 rfl];exact R.iter x s q st e3
  · intro x es st hx
    rcases ns x _ hx with⟨rfl,e⟩|⟨_,_,_,s,e⟩|⟨e1,e2,e3⟩
    · cases e
    · cases e
    · obtain⟨r1,r2,ms,c,r3,r4⟩:=R.map x es st e3
      rw[FG x e1];refine⟨r1,fun e he=>⟨(r2 e he).1,fL hag (eK _) _ (r2 e he).2.1,fL hag (eK _) _ (r2 e he).2.2⟩,ms,c,by rw[BM x _ e2 e3 rfl];exact r3,r4.trans ?_⟩;exact cE fun e he=>by rw[dE hag _ (r2 e he).2.1,dE hag _ (r2 e he).2.2]
  · intro x y o1 o2 hx hy p1 p2 hne
    rcases ns x _ hx with⟨rfl,e⟩|⟨_,_,c,_⟩|⟨e1,e2,e3⟩
    · rcases ns y _ hy with⟨rfl,e'⟩|⟨_,_,c,_⟩|⟨e4,e5,e6⟩
      · exact absurd rfl hne
      · rw[c]at p2;cases p2
      · rw[ct,FG y e4,hp];exact R.apart t y yU o2 ht e6 Dy p2 (Ne.symm e5)
    · rw[c]at p1;cases p1
    · rcases ns y _ hy with⟨rfl,e'⟩|⟨_,_,c,_⟩|⟨e4,e5,e6⟩
      · rw[ct,FG x e1,hp];exact R.apart x t o1 yU e3 ht p1 Dy e2
      · rw[c]at p2;cases p2
      · rw[FG x e1,FG y e4];exact R.apart x y o1 o2 e3 e6 p1 p2 hne
  · intro x o hx ho
    rcases ns x _ hx with⟨rfl,e⟩|⟨_,_,c,_⟩|⟨e1,e2,e3⟩
    · exact .inr ⟨t,yU,ht,Dy,by rw[ct,hp]⟩
    · rw[c]at ho;cases ho
    · exact .inr ⟨x,o,e3,ho,by rw[FG x e1]⟩
theorem Ext.HN {base:Nat}{ρ:dF}{h:Hp}{w:World}(R:bz base ρ h w){t:Nat}{yU:di}(ht:h.get t=some yU)(Dy:yU.owned=true):Ext base ρ h w ρ (h.put t fun s=> .dead s) w:=
 Ext.changed R ht Dy _ rfl rfl rfl rfl (fun _ _=>rfl) trivial
def B9:Value→Option AV
 | .int k n=>some (.int k n)
 | .bool b=>some (.bool b)
 | .string s=>some (.str s.data.toList)
 | .pointer none=>some .pG
 | .slice none 0 0=>some .av
 | .map none=>some .rA
 | .nilFunc=>some .kC
 | .nilIface=>some .jQ
 |_=>none
def si:List Value→Option (List AV)
 |[]=>some []
 | v::r=>match B9 v,si r with
  |some a,some l=>some (a::l)
  |_,_=>none
def cv:Operand→Option bC
 | .tmp t=>some (.t t)
 | .const v=>match B9 v with
  |some a=>some (.k a)
  |none=>none
 | .func f=>some (.k (.fn f []))
 | .global _=>none
def kK:List Operand→Option (List bC)
 |[]=>some []
 | x::r=>match cv x,kK r with
  |some a,some l=>some (a::l)
  |_,_=>none
def nj:Option Operand→Option (Option bC)
 |none=>some none
 | some x=>match cv x with
  |some a=>some (some a)
  |none=>none
def kJ (P:Program)(t:TypeId):Option (List AV):=
 match P.info? t with
 | some i=>match i.zero with
  |some z=>si z.cells.toList
  |none=>none
 |none=>none
def xN (P:Program)(t:TypeId):Option AV:=
 match P.info? t with
 | some i=>match i.zero with
  | some (.agg cs)=>match si cs.toList with
   |some l=>some (.agg l)
   |none=>none
  |some z=>B9 z
  |none=>none
 |none=>none
def pu (P:Program)(t:TypeId):Option Nat:=
 match P.info? t with
 |some i=>some i.size
 |none=>none
def pe (P:Program)(t:TypeId):Option Bool:=
 match P.underlying t with
 |some (.struct _)|some (.array _ _)=>some true
 |some _=>some false
 |none=>none
def pQ (place:Nat→Option (Nat×Nat)):List (Nat×Operand)→Option (List (Nat×Nat×bC))
 |[]=>some []
 | (i,x)::r=>match place i,cv x,pQ place r with
  |some (off,n),some y,some l=>some ((off,n,y)::l)
  |_,_,_=>none
def xO (P:Program)(fs:Array Field)(i:Nat):Option (Nat×Nat):=
 match fs[i]? with
 | some f=>match pu P f.type with
  |some n=>some (f.offset,n)
  |none=>none
 |none=>none
def sR (P:Program)(lv:TypeId→Option (List (Nat×LK))):List Field→Option (List (Nat×LK))
 |[]=>some []
 | f::r=>match f.name== "_",lv f.type,pu P f.type,sR P lv r with
  |false,some a,some n,some b=>if a.all (fun x=>x.1<n)then some (a.map (fun x=>(f.offset+x.1,x.2))++b)else none
  |_,_,_,_=>none
def leaves (P:Program):Nat→TypeId→Option (List (Nat×LK))
 |0,_=>none
 | d+1,t=>match P.underlying t with
  |some (.int _)=>some [(0,.int)]
  |some .bool=>some [(0,.bool)]
  |some .string=>some [(0,.str)]
  |some (.struct fs)=>if P.stoodInHeld t then none else sR P (leaves P d) fs.toList
  |_=>none
def nQ:Operand→Bool
 | .const _=>true
 |_=>false
def LA (P:Program)(op:BinOp)(t:TypeId)(x y:Operand):mW:=
 match P.underlying t with
 |some .bool=> .bool
 |some (.pointer _)=> .ptr
 |some (.slice _)=> .slice
 |some (.map _ _)=> .map
 |some (.func _ _ _)=> .func
 |some (.interface _)=>if nQ x||nQ y then .iface else .none
 | some (.struct _)=>match leaves P 20 t with
  |some ls=>if P.eqGuardType P.depth t then .none else .plain ls
  |none=> .none
 |_=> .none
def rL (P:Program)(s:TypeId)(i:Nat):Option Field:=
 match P.underlying s with
 |some (.struct fs)=>fs[i]?
 |_=>none
def qO (P:Program)(t:TypeId):Option TypeId:=
 match P.underlying t with
 | some (.map k e)=>match P.underlying k with
  |some .string=>some e
  |_=>none
 |_=>none
def iF (P:Program)(o:Oper):Option ij:=
 match o.op with
 | .move x| .assign x=>(cv x).bind fun x=>some (.mv x)
 | .pick c a b=>(cv c).bind fun c=>(cv a).bind fun a=>(cv b).bind fun b=>some (.pick c a b)
 | .alloc e=>(kJ P e).bind fun z=>some (.alloc z)
 | .box _ x=>(cv x).bind fun x=>some (.box x)
 | .build t ps=>(kJ P t).bind fun z=>match P.underlying t with
  |some (.struct fs)=>if fs.toList.all fun f=>(P.info? f.type).isSome then(pQ (xO P fs) ps.toList).bind fun l=>some (.build z l)else none
  |_=>none
 | .buildSlice t n ps=>match P.underlying t with
  | some (.slice e)=>(pu P e).bind fun s=>(kJ P e).bind fun z=>
   if z.length=s∧n*s≤16777216∧0<s then(pQ (fun i=>some (i*s,s)) ps.toList).bind fun l=>some (.dU s n (rep n z) l)else none
  |_=>none
 | .load t x=>(pe P t).bind fun a=>(pu P t).bind fun n=>(cv x).bind fun x=>some (.load a (if a then n else 1) x)
 | .store t x y=>(pu P t).bind fun n=>(cv x).bind fun x=>(cv y).bind fun y=>some (.store n x y)
 | .nilCheck x=>(cv x).bind fun x=>some (.zc x)
 | .binOp op t x y _=>(cv x).bind fun x'=>(cv y).bind fun y'=>some (.bin op (LA P op t x y) x' y')
 | .unOp op _ x=>(cv x).bind fun x=>some (.un op x)
 | .convert s d x=>match P.underlying s,P.underlying d with
  |some (.int _),some (.int k)=>(cv x).bind fun x=>some (.sW k x)
  |some .string,some .string=>(cv x).bind fun x=>some (.QW x)
  |_,_=>none
 | .makeInterface t x=>match P.underlying t with
  |some (.interface _)=>none
  |some _=>(cv x).bind fun x=>some (.FD t x)
  |none=>none
 | .makeFunc (.func f) first cs=>if first.isEmpty then(kK cs.toList).bind fun l=>some (.Pk f l)else none
 | .makeMap t none=>(qO P t).bind fun _=>some .vV
 | .makeSlice t l c=>match P.underlying t with
  | some (.slice e)=>match P.info? e with
   |some i=>(kJ P e).bind fun z=>(cv l).bind fun l=>(cv c).bind fun c=>some (.tY i.size i.bytes z l c)
   |none=>none
  |_=>none
 | .slice t x lo hi none=>match P.underlying t with
  |some .string=>(cv x).bind fun x=>(nj lo).bind fun lo=>(nj hi).bind fun hi=>some (.rW x lo hi)
  |some (.slice e)=>(pu P e).bind fun s=>(cv x).bind fun x=>(nj lo).bind fun lo=>(nj hi).bind fun hi=>some (.sl s x lo hi)
  |_=>none
 | .fieldAddr s x i=>(rL P s i).bind fun f=>(pu P f.type).bind fun n=>if n=0 then none else(cv x).bind fun x=>some (.jy f.offset x)
 | .field s x i=>(rL P s i).bind fun f=>(pe P f.type).bind fun a=>(pu P f.type).bind fun n=>(cv x).bind fun x=>some (.yl a f.offset (if a then n else 1) x)
 | .indexAddr t x i=>match P.underlying t with
  |some (.slice e)=>(pu P e).bind fun s=>(cv x).bind fun x=>(cv i).bind fun i=>some (.gR s x i)
  |some (.array n e)=>(pu P e).bind fun s=>(cv x).bind fun x=>(cv i).bind fun i=>some (.wj s n x i)
  |_=>none
 | .index t x i=>match P.underlying t with
  |some .string=>(cv x).bind fun x=>(cv i).bind fun i=>some (.idxs x i)
  |_=>none
 | .lookup t m k okk=>(qO P t).bind fun e=>(xN P e).bind fun z=>(cv m).bind fun m=>(cv k).bind fun k=>some (.Pp m k z okk)
 | .mapUpdate t m k v| .insert t m k v=>(qO P t).bind fun _=>(cv m).bind fun m=>(cv k).bind fun k=>(cv v).bind fun v=>some (.zd m k v)
 | .range t x=>match P.underlying t with
  |some .string=>(cv x).bind fun x=>some (.UG x)
  |_=>none
 | .next x true=>(cv x).bind fun x=>some (.UH x)
 | .extract x i=>(cv x).bind fun x=>some (.ext x i)
 | .call c =>match c.callee with
  | .value (.func f)=>(kK c.args.toList).bind fun l=>some (.mc f l)
  | .value x=>(cv x).bind fun x=>(kK c.args.toList).bind fun l=>some (.hZ x l)
  | .invoke x name=>(cv x).bind fun x=>(kK c.args.toList).bind fun l=>some (.inv x name l)
  | .builtin .len=>match c.argTypes.toList,c.args.toList with
   | [t],[x]=>match P.underlying t with
    |some .string=>(cv x).bind fun x=>some (.len .str x)
    |some (.slice _)=>(cv x).bind fun x=>some (.len .slice x)
    |some (.array n _)=>(cv x).bind fun x=>some (.len (.arr n) x)
    |_=>none
   |_,_=>none
  | .builtin .append=>match c.argTypes.toList,c.args.toList with
   | [t, tx],[x,y]=>match P.underlying t,P.underlying tx with
    | some (.slice e),some (.slice _)|some (.slice e),some .string=>match P.info? e with
     | some i=>match kJ P e with
      |some z=>if z.length=i.size∧0<i.size then(cv x).bind fun x=>(cv y).bind fun y=>some (.app i.size i.bytes x y)else none
      |none=>none
     |none=>none
    |_,_=>none
   |_,_=>none
  | .builtin .max=>(kK c.args.toList).bind fun l=>some (.mx l)
  | .builtin .min=>(kK c.args.toList).bind fun l=>some (.mn l)
  |_=>none
 |_=>none
theorem qN {v:Value}{a:AV}(h:B9 v=some a)(ρ:dF)(N:Nat):enc ρ a=v∧ok ρ N a:=by
 unfold B9 at h
 split at h<;>first
  |(obtain rfl:=aa h;exact⟨by simp[enc],trivial⟩)
  |cases h
theorem IY {v:Value}{a:AV}(h:B9 v=some a):a.one=true:=by
 unfold B9 at h
 split at h<;>first
  |(obtain rfl:=aa h;rfl)
  |cases h
theorem jd:∀{vs:List Value} {l:List AV},si vs=some l→∀(ρ:dF) (N:Nat),encs ρ l=vs∧gV ρ N l∧∀v∈l,v.one=true
 |[],l,h,ρ,N=>by obtain rfl:=aa h;exact⟨by simp[encs],trivial,by simp⟩
 | v ::r,l,h,ρ,N=>by
  unfold si at h;split at h
  ·rename_i a l' h1 h2;obtain rfl:=aa h;obtain⟨e1,e2,e3⟩:=jd h2 ρ N;obtain⟨e4,e5⟩:=qN h1 ρ N;refine⟨by simp[encs,e1,e4],⟨e5,e2⟩,fun x hx=>?_⟩;rcases fy.1 hx with rfl|hx
   ·exact IY h1
   ·exact e3 x hx
  ·cases h
section
variable {P:Program}{base:Nat}{ρ:dF}{h:Hp}{w:World}{ev:Operand→Value}{tm:T AV}
def eG (ρ:dF)(N:Nat)(ev:Operand→Value)(tm:T AV):Prop:=∀x y,cv x=some y→ev x=enc ρ (val tm y)∧ok ρ N (val tm y)
def Yields (P:Program)(base:Nat)(ρ:dF)(h:Hp)(w:World)(s:Sem Next)(v:AV)(h':Hp):Prop:=
 ∃ρ' w' u,(s.run P w= .ok (.value u) w'∨(s.run P w= .ok .skip w'∧u=undef))∧u=enc ρ' v∧ok ρ' h'.next v∧Ext base ρ h w ρ' h' w'
theorem Yields.pure (R:bz base ρ h w){s:Sem Next}{v:AV}(hs:s.run P w= .ok (.value (enc ρ v)) w)(hv:ok ρ h.next v):Yields P base ρ h w s v h:=
 ⟨ρ,w,_,.inl hs,rfl,hv,Ext.refl R⟩
theorem eG.list (E:eG ρ h.next ev tm):∀{xs:List Operand} {ys:List bC},kK xs=some ys→xs.map ev=encs ρ (ys.map (val tm))∧gV ρ h.next (ys.map (val tm))
 |[],ys,hc=>by obtain rfl:=aa hc;exact⟨by simp[encs],trivial⟩
 | x ::xs,ys,hc=>by
  unfold kK at hc;split at hc
  ·rename_i a l h1 h2;obtain rfl:=aa hc;obtain⟨e1,e2⟩:=E.list h2;obtain⟨e3,e4⟩:=E _ _ h1;exact⟨by simp[encs,e1,e3],⟨e4,e2⟩⟩
  ·cases hc
theorem bind_some {α β:Type}{x:Option α}{f:α→Option β}{b:β}(hx:x.bind f=some b):∃a,x=some a∧f a=some b:=Option.bind_eq_some_iff.1 hx
theorem nR {t:TypeId}{n:Nat}(hc:pu P t=some n):∃i,P.info? t=some i∧i.size=n:=by
 unfold pu at hc;split at hc
 ·rename_i i hi;exact⟨i,hi,by simpa using hc⟩
 ·cases hc
theorem dH {t:TypeId}{n:Nat}(hc:pu P t=some n)(w:World):(sizeOf t).run P w= .ok n w:=by
 obtain⟨i,hi,rfl⟩:=nR hc;simp[sizeOf,typeInfo,hi]
theorem ja {t:TypeId}{a:Bool}(hc:pe P t=some a)(w:World):(isAgg t).run P w= .ok a w:=by
 unfold pe at hc;split at hc
 ·rename_i fs hu;obtain rfl:=aa hc;simp[isAgg,run_underlying hu]
 ·rename_i n e hu;obtain rfl:=aa hc;simp[isAgg,run_underlying hu]
 ·rename_i d hd1 hd2 hu;obtain rfl:=aa hc;simp only[isAgg,Sem.run_bind,run_underlying hu,Result.andThen_ok];cases d<;>first|rfl|exact absurd rfl (hd1 _)|exact absurd rfl (hd2 _ _)|simp_all
 ·cases hc
theorem mw {t:TypeId}{z:List AV}(hc:kJ P t=some z):∃i zv,P.info? t=some i∧i.zero=some zv∧si zv.cells.toList=some z:=by
 unfold kJ at hc;split at hc
 ·rename_i i hi;split at hc
  ·rename_i zv hz;exact⟨i,zv,hi,hz,hc⟩
  ·cases hc
 ·cases hc
theorem LF {t o:Nat}{cs:List AV}{own:Bool}{st:Nat}(R:bz base ρ h w)(ht:h.get t=some (.row cs own st)){v:AV}(hv:cs[o]?=some v):
  w.cell? ⟨(ρ t).b,(ρ t).o+o,none⟩=some (enc ρ v)∧ok ρ h.next v:=by
 have r:=R.row t cs own st ht;refine⟨r.cells o _ (by rw[cQ,bZ,hv];rfl),?_⟩;exact(cZ _ _ _).1 r.ok v (eX hv)
theorem qq {t o n:Nat}{cs:List AV}{own:Bool}{st:Nat}(R:bz base ρ h w)(ht:h.get t=some (.row cs own st)):
  w.rangeAt (ρ t).b ((ρ t).o+o) (encs ρ ((cs.drop o).take n))∧gV ρ h.next ((cs.drop o).take n):=by
 have r:=R.row t cs own st ht;refine⟨fun j v hv=>?_,(cZ _ _ _).2 fun v hv=>(cZ _ _ _).1 r.ok v (iW (fQ hv))⟩;rw[cQ,bZ,iD]at hv;split at hv
 ·rw[jh,←bZ,←cQ]at hv;have:=r.cells (o+j) v hv;rwa[show(ρ t).o+(o+j)=(ρ t).o+o+j by omega]at this
 ·simp at hv
theorem po {t:TypeId}{a:Bool}{n tk o:Nat}{cs:List AV}{own:Bool}{st:Nat}(R:bz base ρ h w)(ha:pe P t=some a)(hn:pu P t=some n)
  (ht:h.get tk=some (.row cs own st)) (hl:o+(if a then n else 1)≤cs.length) {v:AV} (hv:(if a then some (AV.agg ((cs.drop o).take (if a then n else 1)))else cs[o]?)=some v):
  (loadVar t ⟨(ρ tk).b,(ρ tk).o+o,none⟩).run P w= .ok (enc ρ v) w∧ok ρ h.next v:=by
 cases a with
 | true=>
  simp only[if_true]at hl hv;obtain rfl:=aa hv;obtain⟨hr,hk⟩:=qq (o:=o) (n:=n) R ht;refine⟨?_,hk⟩;obtain⟨i,hi,rfl⟩:=nR hn;have hlen:(encs ρ ((cs.drop o).take i.size)).length=i.size:=by rw[ce];simp;omega
  unfold pe at ha;split at ha
  ·rename_i fs hu;simpa[enc]using run_loadVar_mid w (ρ tk).b ((ρ tk).o+o) t _ _ hr hu rfl (by simp[hi,hlen])
  ·rename_i m e hu;simpa[enc]using run_loadVar_mid w (ρ tk).b ((ρ tk).o+o) t _ _ hr hu rfl (by simp[hi,hlen])
  ·cases ha
  ·cases ha
 | false=>
  simp only[cB,if_false]at hl hv;obtain⟨hc,hk⟩:=LF R ht hv;refine⟨?_,hk⟩;simp[loadVar,ja ha,hc]
end
section
variable {P:Program}{base:Nat}{ρ:dF}{h h':Hp}{w:World}{ev:Operand→Value}{tm:T AV}{v:AV}
variable {dst:Option Tmp}{ty:TypeId}{pos:String}{af:Array Edge}{gd:Option (Nat×Bool)}
theorem aj {α β:Type}{a a':α}{b b':β}(e:some (a,b)=some (a',b')):a=a'∧b=b':=by
 injection e with e;injection e with e1 e2;exact⟨e1,e2⟩
theorem RM {x:Operand}{x':bC}(hx:cv x=some x')(E:eG ρ h.next ev tm)(R:bz base ρ h w)(hr:HB x' (val tm) h=some (v,h')):
  Yields P base ρ h w (pure (.value (ev x))) v h':=by
 obtain⟨rfl,rfl⟩:=aj hr;exact Yields.pure R (by rw[(E _ _ hx).1];rfl) (E _ _ hx).2
theorem O5 {c a b:Operand}{c' a' b':bC}(hc:cv c=some c')(ha:cv a=some a')(hb:cv b=some b')(E:eG ρ h.next ev tm)(R:bz base ρ h w)
  (hr:pA c' a' b' (val tm) h=some (v,h')):Yields P base ρ h w (do pure (.value (if ←asBool (ev c)then ev a else ev b))) v h':=by
 obtain⟨e1,_⟩:=E _ _ hc;obtain⟨e2,k2⟩:=E _ _ ha;obtain⟨e3,k3⟩:=E _ _ hb;unfold pA at hr;split at hr
 ·rename_i e;obtain⟨rfl,rfl⟩:=aj hr;exact Yields.pure R (by rw[e1,e,e2];simp[enc,asBool]) k2
 ·rename_i e;obtain⟨rfl,rfl⟩:=aj hr;exact Yields.pure R (by rw[e1,e,e3];simp[enc,asBool]) k3
 ·cases hr
theorem O8 {t:TypeId}{x:Operand}{x':bC}{a:Bool}{n:Nat}(ha:pe P t=some a)(hn:pu P t=some n)(hx:cv x=some x')(E:eG ρ h.next ev tm)(R:bz base ρ h w)
  (hr:pC a (if a then n else 1) x' (val tm) h=some (v,h')):Yields P base ρ h w (do pure (.value (←Instr.loadAt t (ev x)))) v h':=by
 obtain⟨e1,k1⟩:=E _ _ hx;unfold pC at hr;split at hr
 ·rename_i tk o e;split at hr
  ·rename_i cs own st ht;by_cases hl:o+(if a then n else 1)≤cs.length
   ·rw[if_pos hl]at hr
    have key:∀v',(if a then some (AV.agg ((cs.drop o).take (if a then n else 1)))else cs[o]?)=some v'→v'=v∧h=h'→Yields P base ρ h w (do pure (.value (←Instr.loadAt t (ev x)))) v h':=by
     rintro v' hv' ⟨rfl,rfl⟩;obtain⟨h1,h2⟩:=po R ha hn ht hl hv';refine Yields.pure R ?_ h2;rw[e1,e];simp[enc,Instr.loadAt,Instr.sureAddr,h1]
    cases a with
    |true=>exact key _ rfl (aj hr)
    | false=>
     simp only[cB,if_false]at hr;split at hr
     ·rename_i v' hv';exact key v' (by simpa using hv') (aj hr)
     ·cases hr
   ·rw[if_neg hl]at hr;cases hr
  ·cases hr
 ·cases hr
theorem Kv {x:Operand}{x':bC}(hx:cv x=some x')(E:eG ρ h.next ev tm)(R:bz base ρ h w)(hr:oM x' (val tm) h=some (v,h')):
    Yields P base ρ h w (execOp ev ⟨dst,.nilCheck x,ty,pos,af,gd⟩) v h':=by
  obtain⟨e1,k1⟩:=E _ _ hx;unfold oM at hr
  split at hr<;>first
    | (rename_i e;obtain⟨rfl,rfl⟩:=aj hr
       exact Yields.pure R (by simp only[execOp];rw[e1,e];simp[enc]) (by rw[←e];exact k1))
    |cases hr
theorem GP {op:BinOp}{k k':IntKind}{x y:Int}{v:AV}(hr:nr op k x k' y=some v)(t:TypeId):(binOp op t (.int k x) (.int k' y)).run P w= .ok (enc ρ v) w∧ok ρ h.next v:=by
 unfold nr at hr;split at hr
 ·split at hr
  ·cases hr
  ·rename_i hy;obtain rfl:=aa hr;exact⟨by simp[binOp,Op.shift,hy,enc],trivial⟩
 ·split at hr
  ·cases hr
  ·rename_i hy;obtain rfl:=aa hr;exact⟨by simp[binOp,Op.shift,hy,enc],trivial⟩
 ·rename_i n1 n2;rw[fK]at hr;by_cases hk:k=k'
  ·subst hk;simp only[decide_true]at hr;unfold kD at hr;split at hr
   ·rw[gW,DW]at hr;obtain rfl:=aa hr;exact⟨by simp[binOp,Op.intArith,enc],trivial⟩
   ·rw[gW,sL]at hr;obtain rfl:=aa hr;exact⟨by simp[binOp,Op.intArith,enc],trivial⟩
   ·rw[gW,Dv]at hr;obtain rfl:=aa hr;exact⟨by simp[binOp,Op.intArith,enc],trivial⟩
   ·rw[mM]at hr;by_cases hy:y=0
    ·simp[hy]at hr
    ·have:(y==0)=false:=by simpa using hy
     rw[this,gW,Dh]at hr;obtain rfl:=aa hr;exact⟨by simp[binOp,Op.intDiv,hy,enc],trivial⟩
   ·rw[mM]at hr;by_cases hy:y=0
    ·simp[hy]at hr
    ·have:(y==0)=false:=by simpa using hy
     rw[this,xA,Dd]at hr;obtain rfl:=aa hr;exact⟨by simp[binOp,Op.intDiv,hy,enc],trivial⟩
   ·rw[mM]at hr;obtain rfl:=aa hr;exact⟨by simp[binOp,Op.intCmp,enc],trivial⟩
   ·rw[mM]at hr;obtain rfl:=aa hr;exact⟨by simp[binOp,Op.intCmp,enc,bne],trivial⟩
   ·rw[nP]at hr;obtain rfl:=aa hr;exact⟨by simp[binOp,Op.intCmp,enc],trivial⟩
   ·rw[xC]at hr;obtain rfl:=aa hr;exact⟨by simp[binOp,Op.intCmp,enc],trivial⟩
   ·rw[nP]at hr;obtain rfl:=aa hr;exact⟨by simp[binOp,Op.intCmp,enc],trivial⟩
   ·rw[xC]at hr;obtain rfl:=aa hr;exact⟨by simp[binOp,Op.intCmp,enc],trivial⟩
   ·unfold wL at hr
    split at hr<;>first
     |(obtain rfl:=aa hr;exact⟨by simp[binOp,Op.intBits,enc],trivial⟩)
     |cases hr
  ·simp[hk]at hr
theorem LO (bs:ByteArray):∀(n i:Nat) (r:List UInt8),bs.size-i=n→lK bs i r=r.reverse++bs.data.toList.drop i:=by
  intro n
  induction n with
  | zero=>
    intro i r hn;rw[lK];have:¬i<bs.size:=by omega
    rw[if_neg this]
    have : bs.data.toList.drop i = [] := List.drop_eq_nil_of_le (by have:bs.data.toList.length=bs.size:=gg
                                                                    omega)
    simp[this]
  | succ n ih=>
    intro i r hn;rw[lK];have hi:i<bs.size:=by omega
    rw[if_pos hi,ih _ _ (by omega)];have hlen:bs.data.toList.length=bs.size:=gg;rw[List.drop_eq_getElem_cons (by omega:i<bs.data.toList.length)]
    have:bs.get! i=bs.data.toList[i]'(by omega):=by
      cases bs with|mk d=>
      have hd:i<d.size:=by simpa[ByteArray.size]using hi
      simp[ByteArray.get!,getElem!_pos d i hd]
    simp[this]
theorem rO (s:List UInt8):(⟨s.toArray⟩:ByteArray).toList=s:=by
 unfold ByteArray.toList;rw[LO _ _ 0 [] rfl];simp
theorem gw (s:List UInt8):(⟨s.toArray⟩:ByteArray).size=s.length:=by simp[ByteArray.size]
theorem GM {op:BinOp}{x y:List UInt8}{v:AV}(hr:Ei op x y=some v)(t:TypeId):(binOp op t (.string ⟨x.toArray⟩) (.string ⟨y.toArray⟩)).run P w= .ok (enc ρ v) w∧ok ρ h.next v:=by
  unfold Ei at hr;split at hr
  · split at hr
    · cases hr
    · rename_i hl
      obtain rfl:=aa hr;refine⟨?_,trivial⟩;simp only[binOp,Op.stringOp,gw,hl,if_false,enc,Sem.run_pure];congr 2
  all_goals first
    | (obtain rfl:=aa hr
       exact⟨by simp[binOp,Op.stringOp,rO,enc],trivial⟩)
    |cases hr
end
section
variable {P:Program}{base:Nat}{ρ:dF}{h h':Hp}{w:World}{ev:Operand→Value}{tm:T AV}{v:AV}
variable {dst:Option Tmp}{ty:TypeId}{pos:String}{af:Array Edge}{gd:Option (Nat×Bool)}
theorem VP {op:UnOp}{x:Operand}{x':bC}(hx:cv x=some x')(E:eG ρ h.next ev tm)(R:bz base ρ h w)(hr:Bx op x' (val tm) h=some (v,h')):
  Yields P base ρ h w (do pure (.value (←Op.unary op (ev x)))) v h':=by
 obtain⟨e1,k1⟩:=E _ _ hx;unfold Bx at hr;split at hr
 ·rename_i v' hv;obtain⟨rfl,rfl⟩:=aj hr;unfold OG at hv;split at hv
  ·rename_i k n e;rw[gW,sL]at hv;obtain rfl:=aa hv;exact Yields.pure R (by rw[e1,e];simp[enc,Op.unary,Op.intArith]) trivial
  ·rename_i k n e;unfold wL at hv;simp only at hv;obtain rfl:=aa hv;exact Yields.pure R (by rw[e1,e];simp[enc,Op.unary,Op.intBits]) trivial
  ·rename_i b e;obtain rfl:=aa hv;exact Yields.pure R (by rw[e1,e];simp[enc,Op.unary]) trivial
  ·cases hv
 ·cases hr
theorem RX {s d:TypeId}{k0 k:IntKind}{x:Operand}{x':bC}(hs:P.underlying s=some (.int k0))(hd:P.underlying d=some (.int k))(hx:cv x=some x')(E:eG ρ h.next ev tm)(R:bz base ρ h w)
  (hr:tT k x' (val tm) h=some (v,h')):Yields P base ρ h w (do pure (.value (←convert s d (ev x)))) v h':=by
 obtain⟨e1,k1⟩:=E _ _ hx;unfold tT at hr;split at hr
 ·rename_i k2 n e;rw[gW]at hr;obtain⟨rfl,rfl⟩:=aj hr;exact Yields.pure R (by rw[e1,e];simp[enc,convert,run_underlying hs,run_underlying hd,Conv.intToInt]) trivial
 ·cases hr
theorem RW {s d:TypeId}{x:Operand}{x':bC}(hs:P.underlying s=some .string)(hd:P.underlying d=some .string)(hx:cv x=some x')(E:eG ρ h.next ev tm)(R:bz base ρ h w)
  (hr:tS x' (val tm) h=some (v,h')):Yields P base ρ h w (do pure (.value (←convert s d (ev x)))) v h':=by
 obtain⟨e1,k1⟩:=E _ _ hx;unfold tS at hr;split at hr
 ·rename_i e;obtain⟨rfl,rfl⟩:=aj hr;exact Yields.pure R (by rw[e1,e];simp[enc,convert,run_underlying hs,run_underlying hd]) trivial
 ·cases hr
theorem RO {t:TypeId}{d:TypeDesc}{x:Operand}{x':bC}(hd:P.underlying t=some d)(nA:∀ms,d≠ .interface ms)(hx:cv x=some x')(E:eG ρ h.next ev tm)(R:bz base ρ h w)
  (hr:za t x' (val tm) h=some (v,h')):Yields P base ρ h w (do pure (.value (←Instr.makeInterface t (ev x)))) v h':=by
 obtain⟨e1,k1⟩:=E _ _ hx;obtain⟨rfl,rfl⟩:=aj hr;refine Yields.pure R ?_ k1;simp only[Instr.makeInterface,Sem.run_bind,run_underlying hd,Result.andThen_ok,enc,e1];cases d<;>first|rfl|exact absurd rfl (nA _)
theorem RP {f:FuncId}{cs:List Operand}{vD:List bC}(hx:kK cs=some vD)(E:eG ρ h.next ev tm)(R:bz base ρ h w)(hr:zb f vD (val tm) h=some (v,h')):
  Yields P base ρ h w (do pure (.value (←Instr.makeFunc (.func f) (qW ev #[]) (qW ev cs.toArray)))) v h':=by
 obtain⟨rfl,rfl⟩:=aj hr;obtain⟨h1,h2⟩:=E.list hx;exact Yields.pure R (by simp[Instr.makeFunc,enc,h1]) h2
theorem rN {ev:Operand→Value}{x:Option Operand}{x':Option bC}(hx:nj x=some x')(E:eG ρ h.next ev tm){lo hi dflt n:Nat}(hb:bound (x'.map (val tm)) 0 hi dflt=some n):
  (x=none∧n=dflt)∨∃y k,x=some y∧ev y= .int k (n:Int)∧n≤hi:=by
 cases x with
 |none=>obtain rfl:=aa hx;exact .inl ⟨rfl,by simpa[bound]using hb.symm⟩
 | some y=>
  simp only[nj]at hx;split at hx
  ·rename_i a ha;obtain rfl:=aa hx;obtain⟨e1,_⟩:=E _ _ ha;simp only[cV]at hb;unfold bound at hb;split at hb
   ·simp_all
   ·rename_i k i e;split at hb
    ·rename_i hi';obtain rfl:=aa hb;injection e with e
     refine .inr ⟨y,k,rfl,?_,by omega⟩;rw[e1,e];simp only[enc];congr 1;omega
    ·cases hb
   ·cases hb
  ·cases hx
theorem jW {isS:Bool}{len cap:Nat}{lo hi:Option Operand}{FE hi':Option bC}(hlo:nj lo=some FE)(EN:nj hi=some hi')(E:eG ρ h.next ev tm){l n:Nat}(hlen:len≤cap)
  (h1:bound (hi'.map (val tm)) 0 len len=some n) (h2:bound (FE.map (val tm)) 0 n 0=some l) (w:World):
  (Instr.sliceBounds isS len cap (lo.map ev) (hi.map ev) none).run P w= .ok (l,n,cap) w∧n≤len∧l≤n:=by
 have b1:=rN (lo:=0) EN E h1;have b2:=rN (lo:=0) hlo E h2
 have sb:∀(k:IntKind) (m y:Nat) (code:BoundsCode),m≤y→(Instr.sliceBound (.int k (m:Int)) y code).run P w= .ok m w:=by
  intro k m y code hm;simp[Instr.sliceBound,asIntOf,hm]
 rcases b1 with⟨rfl,rfl⟩|⟨y1,k1,rfl,g1,g2⟩<;>rcases b2 with⟨rfl,rfl⟩|⟨y2,k2,rfl,g3,g4⟩
 ·simp[Instr.sliceBounds]
 ·refine⟨?_,by omega,by omega⟩;simp[Instr.sliceBounds,g3,sb _ _ _ _ g4]
 ·refine⟨?_,by omega,by omega⟩;simp[Instr.sliceBounds,g1,sb _ _ _ _ (show n≤cap by omega)]
 ·refine⟨?_,by omega,by omega⟩;simp[Instr.sliceBounds,g1,g3,sb _ _ _ _ (show n≤cap by omega),sb _ _ _ _ g4]
theorem Cn (s:List UInt8)(l n:Nat):(⟨s.toArray⟩:ByteArray).extract l n=⟨((s.take n).drop l).toArray⟩:=by
 apply ByteArray.ext;rw[ByteArray.data_extract];apply oZ;simp[qV]
theorem RI {t:TypeId}{x:Operand}{x':bC}{lo hi:Option Operand}{FE hi':Option bC}(ht:P.underlying t=some .string)(hx:cv x=some x')(hlo:nj lo=some FE)(EN:nj hi=some hi')
  (E:eG ρ h.next ev tm) (R:bz base ρ h w) (hr:tN x' FE hi' (val tm) h=some (v,h')):Yields P base ρ h w (do pure (.value (←Instr.sliceAt t (ev x) (lo.map ev) (hi.map ev) none))) v h':=by
 obtain⟨e1,k1⟩:=E _ _ hx;unfold tN at hr;split at hr
 ·rename_i s e;split at hr
  ·rename_i v' hv;obtain⟨rfl,rfl⟩:=aj hr;unfold Bc at hv;split at hv
   ·cases hv
   ·rename_i n hn;split at hv
    ·cases hv
    ·rename_i l hl;obtain rfl:=aa hv;obtain⟨r1,r2,r3⟩:=jW (P:=P) (isS:=false) (cap:=s.length) hlo EN E (ac _) hn hl w;refine Yields.pure R ?_ trivial;rw[e1,e];simp[Instr.sliceAt,Instr.slice,run_underlying ht,enc,gw,r1,Cn]
  ·cases hr
 ·cases hr
theorem Pb {s:TypeId}{i n:Nat}{f:Field}{x:Operand}{x':bC}(hf:rL P s i=some f)(hn:pu P f.type=some n)(hn0:¬n=0)(hx:cv x=some x')(E:eG ρ h.next ev tm)(R:bz base ρ h w)
  (hr:pF f.offset x' (val tm) h=some (v,h')):Yields P base ρ h w (do pure (.value (←Instr.fieldAt s (ev x) i))) v h':=by
 obtain⟨e1,k1⟩:=E _ _ hx;unfold pF at hr;split at hr
 ·rename_i t o e;obtain⟨rfl,rfl⟩:=aj hr;rw[e]at k1;refine Yields.pure R ?_ k1;unfold rL at hf;split at hf
  ·rename_i fs hu;rw[e1,e];simp[Instr.fieldAt,run_underlying hu,hf,Instr.sureAddr,enc,fieldPlace,dH hn,hn0,Addr.add_mid,dm]
  ·cases hf
 ·cases hr
theorem GN {t:TypeId}{a:Bool}{n o:Nat}{cs:List AV}(ha:pe P t=some a)(hn:pu P t=some n)(hl:o+(if a then n else 1)≤cs.length){v:AV}
  (hv:(if a then some (AV.agg ((cs.drop o).take (if a then n else 1)))else cs[o]?)=some v) (w:World):(part t (encs ρ cs).toArray o).run P w= .ok (enc ρ v) w:=by
 cases a with
 | true=>
  simp only[if_true]at hl hv;obtain rfl:=aa hv;simp only[part,Sem.run_bind,ja ha,Result.andThen_ok,if_true,dH hn,Sem.run_pure,enc];congr 2;apply oZ;simp[cQ,qV,sx,sv]
 | false=>
  simp only[cB,if_false]at hl hv;simp only[part,Sem.run_bind,ja ha,Result.andThen_ok,cB,if_false];have:(encs ρ cs).toArray[o]?=some (enc ρ v):=by simp[cQ,hv]
  rw[this];rfl
theorem RT {s:TypeId}{i n:Nat}{a:Bool}{f:Field}{x:Operand}{x':bC}(hf:rL P s i=some f)(ha:pe P f.type=some a)(hn:pu P f.type=some n)(hx:cv x=some x')(E:eG ρ h.next ev tm)(R:bz base ρ h w)
  (hr:tQ a f.offset (if a then n else 1) x' (val tm) h=some (v,h')):Yields P base ρ h w (do pure (.value (←Instr.field s (ev x) i))) v h':=by
 obtain⟨e1,k1⟩:=E _ _ hx;unfold tQ at hr;split at hr
 ·rename_i cs e;rw[e]at k1;by_cases hl:f.offset+(if a then n else 1)≤cs.length
  ·rw [if_pos hl]at hr
   have key:∀v',(if a then some (AV.agg ((cs.drop f.offset).take (if a then n else 1)))else cs[f.offset]?)=some v'→v'=v∧h=h'→Yields P base ρ h w (do pure (.value (←Instr.field s (ev x) i))) v h':=by
    rintro v' hv' ⟨rfl,rfl⟩;refine Yields.pure R ?_ ?_
    ·unfold rL at hf;split at hf
     ·rename_i fs hu;rw[e1,e];simp[Instr.field,run_underlying hu,hf,asAgg,enc,GN ha hn hl hv']
     ·cases hf
    ·cases a with
     | true=>
      obtain rfl:=aa hv';exact(cZ _ _ _).2 fun y hy=>(cZ _ _ _).1 k1 y (iW (fQ hy))
     |false=>exact(cZ _ _ _).1 k1 _ (eX (by simpa using hv'))
   cases a with
   |true=>exact key _ rfl (aj hr)
   | false=>
    simp only[cB,if_false]at hr;split at hr
    ·rename_i v' hv';exact key v' (by simpa using hv') (aj hr)
    ·cases hr
  ·rw[if_neg hl]at hr;cases hr
 ·cases hr
theorem Pa {t e:TypeId}{s:Nat}{x i:Operand}{x' i':bC}(ht:P.underlying t=some (.slice e))(hs:pu P e=some s)(hx:cv x=some x')(hi:cv i=some i')(E:eG ρ h.next ev tm)(R:bz base ρ h w)
  (hr:pE s x' i' (val tm) h=some (v,h')):Yields P base ρ h w (do pure (.value (←Instr.indexAt t (ev x) (ev i)))) v h':=by
 obtain⟨e1,k1⟩:=E _ _ hx;obtain⟨e2,k2⟩:=E _ _ hi;unfold pE at hr;split at hr
 ·rename_i tk o n z k j g1 g2;split at hr
  ·rename_i hj;obtain⟨rfl,rfl⟩:=aj hr;rw[g1]at k1;refine Yields.pure R ?_ k1.1;rw[e1,e2,g1,g2];simp[Instr.indexAt,asIntOf,run_underlying ht,enc,hj,dH hs,Addr.add_mid,dm]
  ·cases hr
 ·cases hr
theorem Kx {t e:TypeId}{s m:Nat}{x i:Operand}{x' i':bC}(ht:P.underlying t=some (.array m e))(hs:pu P e=some s)(hx:cv x=some x')(hi:cv i=some i')(E:eG ρ h.next ev tm)(R:bz base ρ h w)
  (hr:mF s m x' i' (val tm) h=some (v,h')):Yields P base ρ h w (do pure (.value (←Instr.indexAt t (ev x) (ev i)))) v h':=by
 obtain⟨e1,k1⟩:=E _ _ hx;obtain⟨e2,k2⟩:=E _ _ hi;unfold mF at hr;split at hr
 ·rename_i tk o k j g1 g2;split at hr
  ·rename_i hj;obtain⟨rfl,rfl⟩:=aj hr;rw[g1]at k1;refine Yields.pure R ?_ k1;rw[e1,e2,g1,g2];simp[Instr.indexAt,asIntOf,run_underlying ht,enc,hj,dH hs,Addr.add_mid,dm,Instr.sureAddr]
  ·cases hr
 ·cases hr
theorem O9 {t:TypeId}{x i:Operand}{x' i':bC}(ht:P.underlying t=some .string)(hx:cv x=some x')(hi:cv i=some i')(E:eG ρ h.next ev tm)(R:bz base ρ h w)
  (hr:pD x' i' (val tm) h=some (v,h')):Yields P base ρ h w (do pure (.value (←Instr.index t (ev x) (ev i)))) v h':=by
 obtain⟨e1,k1⟩:=E _ _ hx;obtain⟨e2,k2⟩:=E _ _ hi;unfold pD at hr;split at hr
 ·rename_i s k j g1 g2;split at hr
  ·rename_i hj;split at hr
   ·rename_i b hb;obtain⟨rfl,rfl⟩:=aj hr;refine Yields.pure R ?_ trivial;rw[e1,e2,g1,g2]
    have:(⟨s.toArray⟩:ByteArray)[j.toNat]?=some b:=by
     obtain⟨hlt,rfl⟩:=bB.1 hb;have:j.toNat<(⟨s.toArray⟩:ByteArray).size:=by rw[gw];exact hlt
     rw[getElem?_pos (⟨s.toArray⟩:ByteArray) j.toNat this];rfl
    simp[Instr.index,asIntOf,run_underlying ht,enc,hj,this]
   ·cases hr
  ·cases hr
 ·cases hr
theorem RU {x:Operand}{x':bC}{i:Nat}(hx:cv x=some x')(E:eG ρ h.next ev tm)(R:bz base ρ h w)(hr:tR x' i (val tm) h=some (v,h')):
  Yields P base ρ h w (do pure (.value (←Instr.extract (ev x) i))) v h':=by
 obtain⟨e1,k1⟩:=E _ _ hx;unfold tR at hr;split at hr
 ·rename_i l e;split at hr
  ·rename_i v' hv;obtain⟨rfl,rfl⟩:=aj hr;rw[e]at k1;refine Yields.pure R ?_ ((cZ _ _ _).1 k1 _ (eX hv));rw[e1,e];have:(encs ρ l).toArray[i]?=some (enc ρ v'):=by simp[cQ,hv]
   simp[Instr.extract,enc,this]
  ·cases hr
 ·cases hr
theorem G9 {t:TypeId}{d:TypeDesc}{q:JF}{x:Operand}{x':bC}(ht:P.underlying t=some d)(hq:match q,d with| .str,.string=>True| .slice,.slice _=>True| .arr n,.array m _=>n=m|_,_=>False)
  (hx:cv x=some x') (E:eG ρ h.next ev tm) (R:bz base ρ h w) (hr:tP q x' (val tm) h=some (v,h')):
  Yields P base ρ h w (do pure (.value (←Builtin.len_ #[t] ty #[ev x]))) v h':=by
 obtain⟨e1,k1⟩:=E _ _ hx;unfold tP at hr;split at hr
 ·rename_i s e;obtain⟨rfl,rfl⟩:=aj hr;cases d<;>simp at hq
  exact Yields.pure R (by rw[e1,e];simp[Builtin.len_,run_underlying ht,enc,goInt,gw]) trivial
 ·rename_i tk o n z e;obtain⟨rfl,rfl⟩:=aj hr;cases d<;>simp at hq
  exact Yields.pure R (by rw[e1,e];simp[Builtin.len_,run_underlying ht,enc,goInt]) trivial
 ·rename_i e;obtain⟨rfl,rfl⟩:=aj hr;cases d<;>simp at hq
  exact Yields.pure R (by rw[e1,e];simp[Builtin.len_,run_underlying ht,enc,goInt]) trivial
 ·rename_i e;obtain⟨rfl,rfl⟩:=aj hr;cases d<;>simp at hq
  exact Yields.pure R (by rw[e1,e];simp[Builtin.len_,run_underlying ht,enc,goInt]) trivial
 ·rename_i n y e;obtain⟨rfl,rfl⟩:=aj hr;cases d<;>simp at hq
  subst hq;exact Yields.pure R (by simp[Builtin.len_,run_underlying ht,enc,goInt]) trivial
 ·cases hr
theorem RR {xs:List Operand}{Q1:List bC}(hx:kK xs=some Q1)(E:eG ρ h.next ev tm)(R:bz base ρ h w)(hr:yY Q1 (val tm) h=some (v,h')){ats:Array TypeId}:
  Yields P base ρ h w (do pure (.value (←Builtin.max_ ats ty (xs.map ev).toArray))) v h':=by
 obtain⟨h1,h2⟩:=E.list hx;unfold yY at hr;split at hr
 ·rename_i y r e;split at hr
  ·rename_i v' hv;obtain⟨rfl,rfl⟩:=aj hr;rw[e]at h1
   have key:∀(r:List AV) (y v:AV),qK uc y r=some v→(List.foldlM Builtin.max2 (enc ρ y) (encs ρ r)).run P w= .ok (enc ρ v) w∧(ok ρ h.next y→ok ρ h.next v):=by
    intro r
    induction r with
    |nil=>intro y v hv;obtain rfl:=aa hv;exact⟨rfl,id⟩
    | cons a r ih=>
     intro y v hv;unfold qK at hv;split at hv
     ·rename_i z hz;obtain⟨i1,i2⟩:=ih z v hv;unfold uc at hz;split at hz
      ·rename_i k p k' q;rw[nP]at hz;obtain rfl:=aa hz;refine⟨?_,fun _=>i2 trivial⟩;simp only[encs,List.foldlM_cons,Sem.run_bind,enc,Builtin.max2,Sem.run_pure,Result.andThen_ok];rw[←i1];simp only[enc];by_cases Xa:p<q<;>simp[Xa]
      ·cases hz
     ·cases hv
   rw[e]at h2;obtain⟨k1,k2⟩:=key r y v' hv;refine Yields.pure R ?_ (k2 h2.1);simp only[Builtin.max_,h1,encs,Sem.run_bind,k1,Result.andThen_ok,Sem.run_pure]
  ·cases hr
 ·cases hr
theorem RQ {xs:List Operand}{Q1:List bC}(hx:kK xs=some Q1)(E:eG ρ h.next ev tm)(R:bz base ρ h w)(hr:yZ Q1 (val tm) h=some (v,h')){ats:Array TypeId}:
  Yields P base ρ h w (do pure (.value (←Builtin.min_ ats ty (xs.map ev).toArray))) v h':=by
 obtain⟨h1,h2⟩:=E.list hx;unfold yZ at hr;split at hr
 ·rename_i y r e;split at hr
  ·rename_i v' hv;obtain⟨rfl,rfl⟩:=aj hr;rw[e]at h1
   have key:∀(r:List AV) (y v:AV),qK tZ y r=some v→(List.foldlM Builtin.min2 (enc ρ y) (encs ρ r)).run P w= .ok (enc ρ v) w∧(ok ρ h.next y→ok ρ h.next v):=by
    intro r
    induction r with
    |nil=>intro y v hv;obtain rfl:=aa hv;exact⟨rfl,id⟩
    | cons a r ih=>
     intro y v hv;unfold qK at hv;split at hv
     ·rename_i z hz;obtain⟨i1,i2⟩:=ih z v hv;unfold tZ at hz;split at hz
      ·rename_i k p k' q;rw[nP]at hz;obtain rfl:=aa hz;refine⟨?_,fun _=>i2 trivial⟩;simp only[encs,List.foldlM_cons,Sem.run_bind,enc,Builtin.min2,Sem.run_pure,Result.andThen_ok];rw[←i1];simp only[enc];by_cases Xa:q<p<;>simp[Xa]
      ·cases hz
     ·cases hv
   rw[e]at h2;obtain⟨k1,k2⟩:=key r y v' hv;refine Yields.pure R ?_ (k2 h2.1);simp only[Builtin.min_,h1,encs,Sem.run_bind,k1,Result.andThen_ok,Sem.run_pure]
  ·cases hr
 ·cases hr
end
section
variable {P:Program}{base:Nat}{ρ:dF}{h h':Hp}{w:World}{ev:Operand→Value}{tm:T AV}{v:AV}
theorem sf (xs ys:List AV):∀(a b:List (Nat×LK)),pN xs ys (a++b)=match pN xs ys a with|some true=>pN xs ys b|r=>r
 |[],b=>by simp[pN]
 | (i,k)::a,b=>by
  simp only[List.cons_append,pN,sf xs ys a b];split
  ·split<;>rfl
  ·rfl
theorem uz (xs ys:List AV)(o n:Nat):∀(a:List (Nat×LK)),(a.all fun x=>x.1<n)=true→pN ((xs.drop o).take n) ((ys.drop o).take n) a=pN xs ys (a.map fun x=>(o+x.1,x.2))
 |[],_=>rfl
 | (i,k)::a,ha=>by
  simp only[jU,bI,decide_eq_true_eq]at ha;have ih:=uz xs ys o n a ha.2;simp only[fR,pN,ih,iD,jh,ha.1,if_true]
theorem Al (xs:List AV)(i:Nat):(encs ρ xs).toArray[i]?=(xs[i]?).map (enc ρ):=by simp[cQ]
theorem xT (a b:List UInt8):((⟨a.toArray⟩:ByteArray)==⟨b.toArray⟩)=(a==b):=by
 rw[beq_toListBytes,rO,rO]
theorem GO {t:TypeId}{k:LK}(D:Nat)(hk:match P.underlying t,k with|some (.int _),.int=>True|some .bool,.bool=>True|some .string,.str=>True|_,_=>False){a b:AV}{r:Bool}(hr:uA k a b=some r)(w:World):
  (Op.equalIn (D+1) t (enc ρ a) (enc ρ b)).run P w= .ok r w:=by
 unfold uA at hr;split at hr
 ·rename_i k1 x k2 y;rw[fK]at hr;by_cases hkk:k1=k2
  ·subst hkk;rw[mM]at hr;simp only[decide_true]at hr;obtain rfl:=aa hr;cases hu:P.underlying t with
   |none=>simp[hu]at hk
   | some d=>
    cases d<;>simp[hu]at hk
    simp[Op.equalIn,run_underlying hu,enc]
  ·simp[hkk]at hr
 ·obtain rfl:=aa hr;cases hu:P.underlying t with
  |none=>simp[hu]at hk
  | some d=>
   cases d<;>simp[hu]at hk
   simp[Op.equalIn,run_underlying hu,enc]
 ·obtain rfl:=aa hr;cases hu:P.underlying t with
  |none=>simp[hu]at hk
  | some d=>
   cases d<;>simp[hu]at hk
   simp only[Op.equalIn,run_underlying hu,enc,Sem.run_bind,Result.andThen_ok,Sem.run_pure,xT]
 ·cases hr
def DY (P:Program)(lv:TypeId→Option (List (Nat×LK)))(D:Nat):Prop:=
 ∀ (u:TypeId) (a:List (Nat×LK)) (n:Nat),lv u=some a→pu P u=some n→(a.all fun x=>x.1<n)=true→∀(ρ:dF) (xs ys:List AV) (o:Nat) (r:Bool) (w:World),pN xs ys (a.map fun x=>(o+x.1,x.2))=some r→
  ∃va vb,(part u (encs ρ xs).toArray o).run P w= .ok va w∧(part u (encs ρ ys).toArray o).run P w= .ok vb w∧(Op.equalIn D u va vb).run P w= .ok r w
theorem mB {lv:TypeId→Option (List (Nat×LK))}{D:Nat}(hF:DY P lv D):∀(fs:List Field) (ls:List (Nat×LK)),sR P lv fs=some ls→∀(xs ys:List AV) (r:Bool) (w:World),pN xs ys ls=some r→
  (Op.eqFields D (encs ρ xs).toArray (encs ρ ys).toArray fs).run P w= .ok r w
 | [],ls,hl,xs,ys,r,w,hr=>by
  obtain rfl:=aa hl;obtain rfl:=aa hr;simp[Op.eqFields]
 | f ::fs,ls,hl,xs,ys,r,w,hr=>by
  unfold sR at hl;split at hl
  ·rename_i a n b hn ha hs hb;split at hl
   ·rename_i ko;obtain rfl:=aa hl;rw[sf]at hr;have NP:f.name≠ "_" :=by simpa using hn
    have ih:=mB hF fs b hb xs ys;cases h1:pN xs ys (a.map fun x=>(f.offset+x.1,x.2))with
    |none=>rw[h1]at hr;cases hr
    | some r1=>
     obtain⟨va,vb,g1,g2,g3⟩:=hF f.type a n ha hs ko ρ xs ys f.offset r1 w h1;rw[h1]at hr;cases r1 with
     |true=>simp[Op.eqFields,NP,g1,g2,g3,ih r w hr]
     | false=>
      obtain rfl:=aa hr;simp[Op.eqFields,NP,g1,g2,g3]
   ·cases hl
  ·cases hl
theorem tH:∀(d D:Nat),d≤D→DY P (leaves P d) D
  |0,D,_=>fun u a n h0=>by simp[leaves]at h0
  |d+1,0,hD=>by omega
  | d + 1,D+1,hD=>by
    intro u a n ha hn ko ρ xs ys o r w hr;unfold leaves at ha
    have leaf:∀(k:LK),a=[(0,k)]→pe P u=some false→(match P.underlying u,k with|some (.int _),.int=>True|some .bool,.bool=>True|some .string,.str=>True|_,_=>False)→
        ∃va vb,(part u (encs ρ xs).toArray o).run P w= .ok va w∧(part u (encs ρ ys).toArray o).run P w= .ok vb w∧(Op.equalIn (D+1) u va vb).run P w= .ok r w:=by
      intro k PV hag hk;subst PV;simp only[fR,List.map_nil,pN,aT]at hr;split at hr
      · rename_i x y hx hy
        have hr':uA k x y=some r:=by
          cases he:uA k x y with
          |none=>rw[he]at hr;cases hr
          |some b=>rw[he]at hr;cases b<;>simpa using hr
        refine⟨enc ρ x,enc ρ y,?_,?_,GO D hk hr' w⟩
        · simp only[part,Sem.run_bind,ja hag,Result.andThen_ok,cB,if_false,Al,hx,cV,Sem.run_pure]
        · simp only[part,Sem.run_bind,ja hag,Result.andThen_ok,cB,if_false,Al,hy,cV,Sem.run_pure]
      · cases hr
    split at ha
    · rename_i k hu;exact leaf .int (aa ha).symm (by simp[pe,hu]) (by simp[hu])
    · rename_i hu;exact leaf .bool (aa ha).symm (by simp[pe,hu]) (by simp[hu])
    · rename_i hu;exact leaf .str (aa ha).symm (by simp[pe,hu]) (by simp[hu])
    · rename_i fs hu
      split at ha
      · cases ha
      · rename_i hst
        have hag:pe P u=some true:=by simp[pe,hu]
        have SU:P.fieldsOf u=fs:=by simp[Program.fieldsOf,hu]
        rw[←uz xs ys o n a ko]at hr;refine⟨.agg (encs ρ ((xs.drop o).take n)).toArray,.agg (encs ρ ((ys.drop o).take n)).toArray,?_,?_,?_⟩
        · simp only[part,Sem.run_bind,ja hag,Result.andThen_ok,if_true,dH hn,Sem.run_pure]
          congr 2;apply oZ;simp[cQ,qV,sx,sv]
        · simp only[part,Sem.run_bind,ja hag,Result.andThen_ok,if_true,dH hn,Sem.run_pure]
          congr 2;apply oZ;simp[cQ,qV,sx,sv]
        · rw[run_equalIn_struct w D u _ _ (by rw[SU];exact hu) (by simpa using hst),SU]
          exact mB (tH d D (by omega)) fs.toList a ha _ _ r w hr
    · cases ha
theorem rj {t:TypeId}{ls:List (Nat×LK)}(hl:leaves P 20 t=some ls){xs ys:List AV}{r:Bool}(hr:pN xs ys ls=some r){fs:Array Field}(hu:P.underlying t=some (.struct fs))(w:World):
  (Op.equal t (.agg (encs ρ xs).toArray) (.agg (encs ρ ys).toArray)).run P w= .ok r w:=by
 have SU:P.fieldsOf t=fs:=by simp[Program.fieldsOf,hu]
 unfold leaves at hl;rw[hu]at hl;simp only at hl;split at hl
 ·cases hl
 ·rename_i hst;show(Op.equalIn (9999+1) t _ _).run P w=_
  rw[run_equalIn_struct w 9999 t _ _ (by rw[SU];exact hu) (by simpa using hst),SU];exact mB (tH 19 9999 (by omega)) fs.toList ls hl _ _ r w hr
variable {dst:Option Tmp}{ty:TypeId}{pos:String}{af:Array Edge}{gd:Option (Nat×Bool)}
theorem iz {op:BinOp}{t:TypeId}{x y:Operand}{a b:Value}(h1:∀l,a≠ .agg l)(h2:¬(a= .nilIface∧b= .nilIface)∨(nQ x||nQ y)=true)(w:World):(eqGuard op t x y a b).run P w= .ok () w:=by
 have main:∀(op:BinOp),(op= .eql∨op= .neq)→(eqGuard op t x y a b).run P w= .ok () w:=by
  intro op ho;by_cases hn:a= .nilIface∧b= .nilIface
  ·obtain⟨rfl,rfl⟩:=hn;have hc:=h2.resolve_left (by simp);rcases ho with rfl|rfl<;>cases x<;>cases y<;>first|rfl|(simp[nQ]at hc)
  ·rcases ho with rfl|rfl<;>cases a<;>first
    |rfl
    |exact absurd rfl (h1 _)
    |(cases b<;>first|rfl|exact absurd ⟨rfl,rfl⟩ hn)
 cases op<;>first|rfl|exact main _ (.inl rfl)|exact main _ (.inr rfl)
theorem zy {op:BinOp}{t:TypeId}{x y:Operand}{a b:Array Value}(hg:P.eqGuardType P.depth t=false)(w:World):(eqGuard op t x y (.agg a) (.agg b)).run P w= .ok () w:=by
 cases op<;>first|rfl|(simp only[eqGuard];simp[hg])
theorem RV {op:BinOp}{t:TypeId}{x y:Operand}{X Y:AV}{r:Bool}(hq:vC (LA P op t x y) X Y=some r)(hni:∀k a k' b,X= .int k a→Y= .int k' b→False)(hns:∀a b,X= .str a→Y= .str b→False)(w:World):
    (eqGuard op t x y (enc ρ X) (enc ρ Y)).run P w= .ok () w∧(Op.equal t (enc ρ X) (enc ρ Y)).run P w= .ok r w∧
    (binOp .eql t (enc ρ X) (enc ρ Y)=do pure (.bool (←Op.equal t (enc ρ X) (enc ρ Y))))∧(binOp .neq t (enc ρ X) (enc ρ Y)=do pure (.bool (!(←Op.equal t (enc ρ X) (enc ρ Y))))):=by
  obtain⟨D,eqrun⟩:∃D,∀a b,Op.equal t a b=Op.equalIn (D+1) t a b:=⟨9999,fun _ _=>rfl⟩
  unfold LA at hq;split at hq
  case h_1 hu=>
    simp only[vC]at hq;unfold xK at hq
    split at hq<;>first
      | (obtain rfl:=aa hq
         refine⟨iz (by simp[enc]) (.inl (by simp[enc])) w,?_,by simp[enc,binOp],by simp[enc,binOp]⟩;simp only[eqrun,Op.equalIn,Sem.run_bind,run_underlying hu,Result.andThen_ok,enc,Sem.run_pure,ju,jt];done)
      |cases hq
  case h_2 hu=>
    simp only[vC]at hq;unfold NV at hq
    split at hq<;>first
      | (obtain rfl:=aa hq
         refine⟨iz (by simp[enc]) (.inl (by simp[enc])) w,?_,by simp[enc,binOp],by simp[enc,binOp]⟩;simp only[eqrun,Op.equalIn,Sem.run_bind,run_underlying hu,Result.andThen_ok,enc,Sem.run_pure,ju,jt];done)
      |cases hq
  case h_3 hu=>
    simp only[vC]at hq;unfold Tl at hq
    split at hq<;>first
      | (obtain rfl:=aa hq
         refine⟨iz (by simp[enc]) (.inl (by simp[enc])) w,?_,by simp[enc,binOp],by simp[enc,binOp]⟩;simp only[eqrun,Op.equalIn,Sem.run_bind,run_underlying hu,Result.andThen_ok,enc,Sem.run_pure,ju,jt];done)
      |cases hq
  case h_4 hu=>
    simp only[vC]at hq;unfold NW at hq
    split at hq<;>first
      | (obtain rfl:=aa hq
         refine⟨iz (by simp[enc]) (.inl (by simp[enc])) w,?_,by simp[enc,binOp],by simp[enc,binOp]⟩;simp only[eqrun,Op.equalIn,Sem.run_bind,run_underlying hu,Result.andThen_ok,enc,Sem.run_pure,ju,jt];done)
      |cases hq
  case h_5 hu=>
    simp only[vC]at hq;unfold Tm at hq
    split at hq<;>first
      | (obtain rfl:=aa hq
         refine⟨iz (by simp[enc]) (.inl (by simp[enc])) w,?_,by simp[enc,binOp],by simp[enc,binOp]⟩;simp only[eqrun,Op.equalIn,Sem.run_bind,run_underlying hu,Result.andThen_ok,enc,Sem.run_pure,ju,jt];done)
      |cases hq
  case h_6 hu=>
    split at hq
    · rename_i hc
      simp only[vC]at hq;unfold NX at hq
      split at hq<;>first
        | (obtain rfl:=aa hq
           refine⟨iz (by simp[enc]) (.inr hc) w,?_,by simp[enc,binOp],by simp[enc,binOp]⟩;simp only[eqrun,Op.equalIn,Sem.run_bind,run_underlying hu,Result.andThen_ok,enc,Sem.run_pure];done)
        |cases hq
    · simp[vC]at hq
  case h_7 hu=>
    split at hq
    · rename_i ls hl
      split at hq
      · simp[vC]at hq
      · rename_i hg
        simp only[vC]at hq;unfold DG at hq;split at hq
        · simp only[enc]
          exact⟨zy (by simpa using hg) w,rj hl hq hu w,by simp[binOp],by simp[binOp]⟩
        · cases hq
    · simp[vC]at hq
  case h_8=>simp[vC]at hq
theorem RZ {op:BinOp}{t yt:TypeId}{x y:Operand}{x' y':bC}(hx:cv x=some x')(hy:cv y=some y')(E:eG ρ h.next ev tm)(R:bz base ρ h w)
    (hr:tV op (LA P op t x y) x' y' (val tm) h=some (v,h')):Yields P base ρ h w (do pure (.value (←(do eqGuard op t x y (ev x) (ev y);binOp op t (ev x) (ev y))))) v h':=by
  obtain⟨e1,k1⟩:=E _ _ hx;obtain⟨e2,k2⟩:=E _ _ hy;unfold tV at hr;split at hr
  · rename_i v' hv
    obtain⟨rfl,rfl⟩:=aj hr
    have fin:(eqGuard op t x y (ev x) (ev y)).run P w= .ok () w→(binOp op t (ev x) (ev y)).run P w= .ok (enc ρ v') w→ok ρ h.next v'→Yields P base ρ h w (do pure (.value (←(do eqGuard op t x y (ev x) (ev y);binOp op t (ev x) (ev y))))) v' h:=
      fun g1 g2 g3=>Yields.pure R (by simp[g1,g2]) g3
    unfold dM at hv;split at hv
    · rename_i ka a kb b ea eb
      rw[ea]at e1;rw[eb]at e2;simp only[enc]at e1 e2;rw[e1,e2]at fin⊢;obtain⟨g1,g2⟩:=GP (h:=h) (P:=P) (ρ:=ρ) (w:=w) hv t;exact fin (iz (by simp) (.inl (by simp)) w) g1 g2
    · rename_i a b ea eb
      rw[ea]at e1;rw[eb]at e2;simp only[enc]at e1 e2;rw[e1,e2]at fin⊢;obtain⟨g1,g2⟩:=GM (h:=h) (P:=P) (ρ:=ρ) (w:=w) hv t;exact fin (iz (by simp) (.inl (by simp)) w) g1 g2
    · rename_i X Y n1 n2
      have main:∀r,vC (LA P op t x y) (val tm x') (val tm y')=some r→(eqGuard op t x y (ev x) (ev y)).run P w= .ok () w∧(Op.equal t (ev x) (ev y)).run P w= .ok r w∧
          (binOp .eql t (ev x) (ev y)=do pure (.bool (←Op.equal t (ev x) (ev y))))∧(binOp .neq t (ev x) (ev y)=do pure (.bool (!(←Op.equal t (ev x) (ev y))))):=by
        intro r hq;rw[e1,e2];exact RV hq (fun k a k' b h1 h2=>n1 k a k' b h1 h2) (fun a b h1 h2=>n2 a b h1 h2) w
      split at hv
      · obtain⟨r,BK,rfl⟩:∃r,vC (LA P .eql t x y) (val tm x') (val tm y')=some r∧v'= .bool r:=by
          cases hq:vC (LA P .eql t x y) (val tm x') (val tm y')with
          |none=>rw[hq]at hv;cases hv
          |some r=>rw[hq]at hv;exact⟨r,rfl,by simpa using hv.symm⟩
        obtain⟨g1,g2,g3,g4⟩:=main r BK;exact fin g1 (by rw[g3];simp[g2,enc]) trivial
      · obtain⟨r,BK,rfl⟩:∃r,vC (LA P .neq t x y) (val tm x') (val tm y')=some r∧v'= .bool !r:=by
          cases hq:vC (LA P .neq t x y) (val tm x') (val tm y')with
          |none=>rw[hq]at hv;cases hv
          |some r=>rw[hq]at hv;exact⟨r,rfl,by simpa using hv.symm⟩
        obtain⟨g1,g2,g3,g4⟩:=main r BK;exact fin g1 (by rw[g4];simp[g2,enc]) trivial
      · cases hv
  · cases hr
end
section
variable {P:Program}{base:Nat}{ρ:dF}{h h':Hp}{w:World}{ev:Operand→Value}{tm:T AV}{v:AV}
variable {dst:Option Tmp}{ty:TypeId}{pos:String}{af:Array Edge}{gd:Option (Nat×Bool)}
theorem Ext.xx (R:bz base ρ h w)(cs:List AV)(e:TypeId)(c sz:Nat)(h1:∀v∈cs,v.one=true)(h2:gV ρ h.next cs)(hc:c*sz≤cs.length):
  Ext base ρ h w (sJ ρ h.next ⟨w.heap.size,0,c,sz⟩) (h.push fun s=> .row cs true s) (w.alloc (.cells (encs ρ cs).toArray e)):=by
 have:=Ext.newRow R cs e [] c sz h1 h2 (by simpa using hc) w.drawn;simpa using this
theorem CQ (ρ:dF)(N b c sz:Nat):enc (sJ ρ N ⟨b,0,c,sz⟩) (.ptr N 0)= .pointer (some ⟨b,0,none⟩):=by simp[enc,sJ]
theorem Kz {e:TypeId}{z:List AV}(hz:kJ P e=some z)(R:bz base ρ h w)(hr:qA z (val tm) h=some (v,h')):
  Yields P base ρ h w (do pure (.value (←Instr.alloc e true (.tuple #[])))) v h':=by
 obtain⟨i,zv,h1,h2,h3⟩:=mw hz;obtain⟨e1,e2,e3⟩:=jd h3 ρ h.next;obtain⟨rfl,rfl⟩:=aj hr;refine⟨_,_,_,.inl ?_,(CQ ρ h.next w.heap.size 0 1).symm,by show h.next<h.next+1;omega,Ext.xx R z e 0 1 e3 e2 (by omega)⟩;have:zv.cells=(encs ρ z).toArray:=by rw[e1]
 simp[Instr.alloc,zeroValue,typeInfo,h1,h2,newVar,newRow,this]
theorem RY {e:TypeId}{x:Operand}{x':bC}(hx:cv x=some x')(E:eG ρ h.next ev tm)(R:bz base ρ h w)(hr:tU x' (val tm) h=some (v,h')):
  Yields P base ρ h w (do pure (.value (←Instr.box e (ev x)))) v h':=by
 obtain⟨e1,k1⟩:=E _ _ hx;unfold tU at hr;split at hr
 ·rename_i ko;obtain⟨rfl,rfl⟩:=aj hr;refine⟨_,_,_,.inl ?_,(CQ ρ h.next w.heap.size 0 1).symm,by show h.next<h.next+1;omega,Ext.xx R _ e 0 1 (by simpa using ko) (tM k1) (by omega)⟩;simp[Instr.box,newVar,newRow,e1,oT]
 ·cases hr
theorem uu (off:Nat):∀(vs:List Value) (k:Nat) (cs:Array Value),off+k+vs.length≤cs.size→
  ((vs.zipIdx k).foldl (fun cs (c:Value×Nat)=>cs.setIfInBounds (off+c.2) c.1) cs).toList=cs.toList.take (off+k)++(vs++cs.toList.drop (off+k+vs.length))
 |[],k,cs,_=>by simp
 | v ::vs,k,cs,hl=>by
  simp only[List.zipIdx_cons,List.foldl_cons];simp only[aq]at hl;rw[uu off vs (k+1) _ (by simp;omega)];simp only[Array.toList_setIfInBounds];apply AL;intro j;have hsz:cs.toList.length=cs.size:=gg;simp only[List.getElem?_append,aB,iD,jh,List.length_set,List.getElem?_set,aq,ar,hsz];by_cases h1:j<off+k
  ·have:min (off+(k+1)) cs.size=off+(k+1):=by omega
   have h2:min (off+k) cs.size=off+k:=by omega
   simp[this,h2,h1,show j<off+(k+1) by omega,show ¬off+k=j by omega]
  ·by_cases h3:j=off+k
   ·subst h3;have:min (off+(k+1)) cs.size=off+(k+1):=by omega
    have h2:min (off+k) cs.size=off+k:=by omega
    simp[this,h2,show off+k<off+(k+1) by omega,show off+k<cs.size by omega]
   ·have:min (off+(k+1)) cs.size=off+(k+1):=by omega
    have h2:min (off+k) cs.size=off+k:=by omega
    have h4:¬j<off+(k+1):=by omega
    obtain⟨m,hm⟩:∃m,j-(off+k)=m+1:=⟨j-(off+k)-1,by omega⟩
    have h5:j-(off+(k+1))=m:=by omega
    simp only[this,h2,h1,h4,if_false,hm,h5,List.getElem?_cons_succ];by_cases h6:m<vs.length
    ·simp[h6]
    ·simp only[h6,if_false,show ¬m+1<vs.length+1 by omega];have:¬off+k=off+(k+1)+vs.length+(m-vs.length):=by omega
     simp[this];congr 1;omega
theorem kX (ρ:dF)(a b:List AV):encs ρ (a++b)=encs ρ a++encs ρ b:=by simp[cQ]
theorem zN (ρ:dF)(cs vs:List AV)(o:Nat):encs ρ (eE cs o vs)=(encs ρ cs).take o++(encs ρ vs++(encs ρ cs).drop (o+(encs ρ vs).length)):=by
 simp[cQ,eE,sv,sx]
theorem pM {ev:Operand→Value}(E:eG ρ h.next ev tm){pl pl':Nat→Option (Nat×Nat)}(hpl:∀i x,pl i=some x→pl' i=some x):∀(ps:List (Nat×Operand)) (l:List (Nat×Nat×bC)) (cs vD:List AV),
  pQ pl ps=some l→ke cs (l.map fun p=>(p.1,p.2.1,val tm p.2.2))=some vD→gV ρ h.next cs→(∀v∈cs,v.one=true)→
  Instr.fill pl' (encs ρ cs).toArray (ps.map fun p=>(p.1,ev p.2))=some (encs ρ vD).toArray∧gV ρ h.next vD∧(∀v∈vD,v.one=true)∧vD.length=cs.length
 | [],l,cs,vD,hp,hf,hk,h1=>by
  obtain rfl:=aa hp;obtain rfl:=aa hf;exact⟨rfl,hk,h1,rfl⟩
 | (i, x)::ps,l,cs,vD,hp,hf,hk,h1=>by
  unfold pQ at hp;split at hp
  ·rename_i off n y l' g1 g2 g3;obtain rfl:=aa hp;simp only[fR,ke]at hf;split at hf
   ·rename_i hc;obtain⟨e1,k1⟩:=E _ _ g2;have nT:∀v∈(val tm y).cells,v.one=true:=by simpa using hc.2.2
    obtain⟨r1,r2,r3,r4⟩:=pM E hpl ps l' _ vD g3 hf
     ((cZ _ _ _).2 fun v hv=>by
      rcases mH hv with c|c
      ·exact(cZ _ _ _).1 hk v c
      ·exact(cZ _ _ _).1 (tM k1) v c)
     (fun v hv=>by
      rcases mH hv with c|c
      ·exact h1 v c
      ·exact nT v c)
    refine⟨?_,r2,r3,by rw[r4,lE _ _ _ (by omega)]⟩;simp only[fR,Instr.fill,hpl i _ g1];have hsz:(ev x).cells.size=n:=by rw[e1,oT];simp[ce,hc.1]
    rw[if_neg (by rw[hsz];simp[ce];omega),←r1];congr 1;apply oZ
    rw[←Array.foldl_toList,Array.toList_zipIdx,uu off _ 0 _ (by
     have:(ev x).cells.toList.length=n:=by rw[gg];exact hsz
     rw[this];simp[ce];omega)]
    rw[zN,e1,oT];simp
   ·cases hf
  ·cases hp
theorem Ky {t:TypeId}{fs:Array Field}{ps:Array (Nat×Operand)}{z:List AV}{l:List (Nat×Nat×bC)}(hz:kJ P t=some z)(hu:P.underlying t=some (.struct fs))(ko:(fs.toList.all fun f=>(P.info? f.type).isSome)=true)
  (hl:pQ (xO P fs) ps.toList=some l) (E:eG ρ h.next ev tm) (R:bz base ρ h w) (hr:kT z l (val tm) h=some (v,h')):
  Yields P base ρ h w (do pure (.value (←Instr.build t (ps.map fun p=>(p.1,ev p.2))))) v h':=by
 obtain⟨i,zv,h1,h2,h3⟩:=mw hz;obtain⟨e1,e2,e3⟩:=jd h3 ρ h.next;unfold kT at hr;split at hr
 ·rename_i cs hcs;obtain⟨rfl,rfl⟩:=aj hr
  have K4:∀(l:List Field),(l.all fun f=>(P.info? f.type).isSome)=true→∃pl:List (Nat×Nat),(l.mapM (fun f=>(do pure (f.offset,←sizeOf f.type):Sem (Nat×Nat)))).run P w= .ok pl w∧∀(i:Nat),pl[i]?=match(l[i]?:Option Field)with|some f=>(pu P f.type).map fun n=>(f.offset,n)|none=>none:=by
   intro l
   induction l with
   |nil=>intro _;exact⟨[],by simp,by simp⟩
   | cons f l ih=>
    intro ha;simp only[jU,bI]at ha;obtain⟨pl,p1,p2⟩:=ih ha.2;obtain⟨fi,hfi⟩:=AH.1 ha.1;have hs:pu P f.type=some fi.size:=by simp[pu,hfi]
    refine⟨(f.offset,fi.size)::pl,by simp only[List.mapM_cons,Sem.run_bind,dH hs,Result.andThen_ok,Sem.run_pure,p1],fun i=>?_⟩;cases i with
    |zero=>simp[hs]
    |succ i=>simpa using p2 i
  obtain⟨pl,p1,p2⟩:=K4 fs.toList ko
  obtain⟨r1,r2,r3,r4⟩:=pM (h:=h) E (pl:=xO P fs) (pl':=fun i=>pl.toArray[i]?) (fun i x hx=>by
   simp only[List.getElem?_toArray,p2];unfold xO at hx;split at hx
   ·rename_i f hf;split at hx
    ·rename_i n hn;simp[hf,hn]at hx⊢;exact hx
    ·cases hx
   ·cases hx) ps.toList l z cs hl hcs e2 e3
  refine Yields.pure R ?_ r2;have FF:zv.cells=(encs ρ z).toArray:=by rw[e1]
  have K9:(ps.map fun p=>(p.1,ev p.2)).toList=ps.toList.map fun p=>(p.1,ev p.2):=by simp
  simp only[Instr.build,Sem.run_bind,zeroValue,typeInfo,run_program,Result.andThen_ok,h1,h2,Sem.run_pure,run_underlying hu,FF,Array.mapM_eq_mapM_toList,Sem.run_map,p1,K9,r1,enc]
 ·cases hr
theorem Ku {t:TypeId}{x y:Operand}{x' y':bC}{n:Nat}(hn:pu P t=some n)(hx:cv x=some x')(hy:cv y=some y')(E:eG ρ h.next ev tm)(R:bz base ρ h w)
  (hr:oL n x' y' (val tm) h=some (v,h')):Yields P base ρ h w (do Instr.storeAt t (ev x) (ev y);pure .skip) v h':=by
 obtain⟨e1,k1⟩:=E _ _ hx;obtain⟨e2,k2⟩:=E _ _ hy;unfold oL at hr;split at hr
 ·rename_i tk o e;split at hr
  ·rename_i cs st ht;split at hr
   ·rename_i hc;obtain⟨rfl,rfl⟩:=aj hr;have nT:∀v∈(val tm y').cells,v.one=true:=by simpa using hc.2.2
    refine⟨ρ,_,undef,.inr ⟨?_,rfl⟩,(kY ρ).symm,trivial,Ext.stored R ht o (val tm y').cells (by omega) nT (tM k2)⟩;obtain⟨i,hi,rfl⟩:=nR hn;obtain⟨q1,q2,q3,q4⟩:=(R.row tk cs true st ht).sA rfl
    have hst:=run_storeCells_cells (P:=P) (ρ tk).b ((ρ tk).o+o) (encs ρ (val tm y').cells) 0 w (fun j hj=>by
     have:=(q3 (o+j) (by rw[ce]at hj;omega)).1;simpa[dm]using this) (fun j hj=>by
     have:=(q3 (o+j) (by rw[ce]at hj;omega)).2;simpa[dm]using this) (fun u hu=>by
     rw[cQ]at hu;obtain⟨a,ha,rfl⟩:=kc.1 hu;rw[DH];exact nT a ha)
    rw[e1,e,e2];simp only[aT]at hst;have hsz:(encs ρ (val tm y').cells).length=i.size:=by rw[ce];exact hc.1
    simp[Instr.storeAt,Instr.sureAddr,enc,storeVar,dH hn,oT,hsz,hst]
   ·cases hr
  ·cases hr
 ·cases hr
end
section
variable {P:Program}{base:Nat}{ρ:dF}{h h':Hp}{w:World}{ev:Operand→Value}{tm:T AV}{v:AV}
variable {dst:Option Tmp}{ty:TypeId}{pos:String}{af:Array Edge}{gd:Option (Nat×Bool)}
theorem mC (z:List AV):∀n,(rep n z).length=n*z.length
 |0=>by simp[rep]
 |n+1=>by simp[rep,mC z n,aX];omega
theorem rX (z:List AV)(hz:0<z.length):∀(n j:Nat),j<n*z.length→(rep n z)[j]?=z[j%z.length]?
 |0,j,h=>by simp at h
 | n +1,j,h=>by
  unfold rep;by_cases hj:j<z.length
  ·rw[cH hj,Nat.mod_eq_of_lt hj]
  ·rw[fk (by omega),rX z hz n _ (by rw[aX]at h;omega)];congr 1;rw[Nat.mod_eq_sub_mod (by omega:j≥z.length)]
theorem qp {z:List AV}{v:AV}:∀{n:Nat},v∈rep n z→v∈z
 |0,h=>by simp[rep]at h
 | n+1,h=>by
  unfold rep at h;rcases dQ.1 h with h|h
  ·exact h
  ·exact qp h
theorem range_zero (ρ:dF)(z:List AV)(hz:0<z.length)(n:Nat):((qh (n*z.length)).map fun x=>(encs ρ z).toArray[x%(encs ρ z).toArray.size]!)=(encs ρ (rep n z)).toArray:=by
 apply oZ;apply AL;intro j;rw[cQ,cQ];by_cases hj:j<n*z.length
 ·have hm:j%z.length<z.length:=Nat.mod_lt _ hz;simp[hj,rX z hz n j hj,getElem!_pos,hm]
 ·have h1:(rep n z)[j]?=none:=by rw[List.getElem?_eq_none];rw[mC];omega
  simp[h1];omega
theorem th (ρ:dF)(N b c sz n z:Nat):enc (sJ ρ N ⟨b,0,c,sz⟩) (.sl N 0 n z)= .slice (some ⟨b,0,none⟩) n c:=by simp[enc,sJ]
theorem Ha {t e:TypeId}{n s:Nat}{ps:Array (Nat×Operand)}{z:List AV}{l:List (Nat×Nat×bC)}(hu:P.underlying t=some (.slice e))(hs:pu P e=some s)(hz:kJ P e=some z)(hc:z.length=s∧n*s≤16777216∧0<s)
  (hl:pQ (fun i=>some (i*s,s)) ps.toList=some l) (E:eG ρ h.next ev tm) (R:bz base ρ h w) (hr:kz s n (rep n z) l (val tm) h=some (v,h')):
  Yields P base ρ h w (do pure (.value (←Instr.buildSlice t n (ps.map fun p=>(p.1,ev p.2))))) v h':=by
 obtain⟨i,zv,h1,h2,h3⟩:=mw hz;obtain⟨e1,e2,e3⟩:=jd h3 ρ h.next;obtain⟨c1,c2,c3⟩:=hc;unfold kz at hr;split at hr
 ·rename_i cs hcs;split at hr
  ·rename_i hn;obtain⟨rfl,rfl⟩:=aj hr;obtain⟨r1,r2,r3,r4⟩:=pM (h:=h) E (pl:=fun i=>some (i*s,s)) (pl':=fun i=>some (i*s,s)) (fun i x hx=>hx) ps.toList l (rep n z) cs hl hcs ((cZ _ _ _).2 fun v hv=>(cZ _ _ _).1 e2 v (qp hv)) (fun v hv=>e3 v (qp hv));refine⟨_,_,_,.inl ?_,(th ρ h.next w.heap.size n s n s).symm,?_,Ext.xx R cs e n s r3 r2 (by omega)⟩
   ·have FF:zv.cells=(encs ρ z).toArray:=by rw[e1]
    have K9:(ps.map fun p=>(p.1,ev p.2)).toList=ps.toList.map fun p=>(p.1,ev p.2):=by simp
    by_cases h0:n*s=0
    ·have hn0:n=0:=by rcases Nat.mul_eq_zero.1 h0 with c|c<;>omega
     have hr0:(qW (fun x=>(#[]:Array Value)[x%(#[]:Array Value).size]!) (qh (n*s)))=(encs ρ (rep n z)).toArray:=by subst hn0;simp[rep,encs]
     simp only[Instr.buildSlice,Sem.run_bind,run_underlying hu,Result.andThen_ok,dH hs,show ¬n*s>2^24 by omega,if_false,if_pos h0,Sem.run_pure,hr0,K9,r1,newRow,run_newObj];rfl
    ·have hr0:(qW (fun x=>zv.cells[x%zv.cells.size]!) (qh (n*s)))=(encs ρ (rep n z)).toArray:=by rw[FF,←c1];exact range_zero ρ z (by omega) n
     simp only[Instr.buildSlice,Sem.run_bind,run_underlying hu,Result.andThen_ok,dH hs,show ¬n*s>2^24 by omega,if_false,if_neg h0,zeroValue,typeInfo,run_program,h1,h2,Sem.run_pure,hr0,K9,r1,newRow,run_newObj];rfl
   ·simp only[ok,ct,Hp.push];exact⟨by omega,trivial,c3,by simp,by simp⟩
  ·cases hr
 ·cases hr
theorem RN {t e:TypeId}{i:TypeInfo}{l c:Operand}{l' c':bC}{z:List AV}(hu:P.underlying t=some (.slice e))(hi:P.info? e=some i)(hz:kJ P e=some z)(hl:cv l=some l')(hc:cv c=some c')(E:eG ρ h.next ev tm)(R:bz base ρ h w)
    (hr:rZ i.size i.bytes z l' c' (val tm) h=some (v,h')):Yields P base ρ h w (do pure (.value (←Instr.makeSlice t (ev l) (ev c)))) v h':=by
  obtain⟨e1,k1⟩:=E _ _ hl;obtain⟨e2,k2⟩:=E _ _ hc;obtain⟨i',zv,h1,h2,h3⟩:=mw hz;rw[hi]at h1;obtain rfl:=aa h1;obtain⟨g1,g2,g3⟩:=jd h3 ρ h.next;unfold rZ at hr;split at hr
  · rename_i L C g4 g5
    split at hr
    · rename_i hh
      obtain⟨p1,p2,p3,p4,p5,p6,p7⟩:=hh;obtain⟨rfl,rfl⟩:=aj hr;have nT:∀v∈rep L.toNat z,v.one=true:=fun v hv=>g3 v (qp hv)
      have Xb:gV ρ h.next (rep L.toNat z):=(cZ _ _ _).2 fun v hv=>(cZ _ _ _).1 g2 v (qp hv)
      obtain⟨d,hd⟩:∃d,C.toNat=L.toNat+d:=⟨C.toNat-L.toNat,by omega⟩
      have K0:∀a b:Nat,rep (a+b) z=rep a z++rep b z:=by
        intro a b
        induction a with
        |zero=>simp[rep]
        |succ a ih=>rw[Nat.add_right_comm];simp[rep,ih]
      have SV:=Ext.newRow R (rep L.toNat z) e (encs ρ (rep d z)) C.toNat i.size nT Xb (by rw[mC,ce,mC,p5,hd,aX];omega) w.drawn;rw[←kX,←K0,←hd]at SV;refine⟨_,_,_,.inl ?_,(th ρ h.next w.heap.size C.toNat i.size L.toNat i.size).symm,?_,SV⟩
      · have FF:zv.cells=(encs ρ z).toArray:=by rw[g1]
        have wl:IntKind.i64.wrap L=L:=by
          have:=te .i64 L;cases L with
          | ofNat m => simp only[vK]at this;rw[←this];have:gL m (pI .i64)=true:=by simp[jx,pI];simp only[fD]at p2;omega
                       rw[this]
          |negSucc m=>omega
        have wc:IntKind.i64.wrap C=C:=by
          have:=te .i64 C;cases C with
          | ofNat m => simp only[vK]at this;rw[←this];have:gL m (pI .i64)=true:=by simp[jx,pI];simp only[fD]at p4;omega
                       rw[this]
          |negSucc m=>omega
        have Ik:(decide (C<0)||decide ((i.bytes:Int)*C>2^48))=false:=by
          have:(i.bytes:Int)*C=C*i.bytes:=Int.mul_comm _ _;have p3':C*(i.bytes:Int)≤281474976710656:=p3;simp only[this,Bool.or_eq_false_iff,decide_eq_false_iff_not];exact⟨by omega,by omega⟩
        rw[e1,e2,g4,g5];by_cases h0:C.toNat*i.size=0
        · have hn0:C.toNat=0:=by rcases Nat.mul_eq_zero.1 h0 with c|c<;>omega
          have hr0:(qW (fun x=>(#[]:Array Value)[x%(#[]:Array Value).size]!) (qh (C.toNat*i.size)))=(encs ρ (rep C.toNat z)).toArray:=by rw[h0,hn0];simp[rep,encs]
          simp only[enc,Instr.makeSlice,Sem.run_bind,run_underlying hu,Result.andThen_ok,asInt,asIntOf,Sem.run_pure,typeInfo,run_program,hi,wl,wc,Ik,qc,show(decide (L<0)||decide (L>C))=false by simp;omega,cB,if_false,run_askRoom,dH (show pu P e=some i.size by simp[pu,hi]),if_pos h0,hr0,newRow,run_newObj];rfl
        · have hr0:(qW (fun x=>zv.cells[x%zv.cells.size]!) (qh (C.toNat*i.size)))=(encs ρ (rep C.toNat z)).toArray:=by rw[FF,←p5];exact range_zero ρ z (by omega) C.toNat
          simp only[enc,Instr.makeSlice,Sem.run_bind,run_underlying hu,Result.andThen_ok,asInt,asIntOf,Sem.run_pure,typeInfo,run_program,hi,wl,wc,Ik,qc,show(decide (L<0)||decide (L>C))=false by simp;omega,cB,if_false,run_askRoom,dH (show pu P e=some i.size by simp[pu,hi]),if_neg h0,zeroValue,h2,hr0,newRow,run_newObj];rfl
      · simp only[ok,ct,Hp.push]
        exact⟨by omega,trivial,p6,by simp,by simp;omega⟩
    · cases hr
  · cases hr
theorem VQ {t e:TypeId}{s:Nat}{x:Operand}{x':bC}{lo hi:Option Operand}{FE hi':Option bC}(ht:P.underlying t=some (.slice e))(hs:pu P e=some s)(hx:cv x=some x')(hlo:nj lo=some FE)(EN:nj hi=some hi')
    (E:eG ρ h.next ev tm) (R:bz base ρ h w) (hr:HA s x' FE hi' (val tm) h=some (v,h')):Yields P base ρ h w (do pure (.value (←Instr.sliceAt t (ev x) (lo.map ev) (hi.map ev) none))) v h':=by
  obtain⟨e1,k1⟩:=E _ _ hx;unfold HA El at hr;split at hr
  · rename_i g
    split at hr
    · rename_i n l hn hl
      obtain⟨rfl,rfl⟩:=aj hr
      have hn0:n=0:=by
        rcases rN (lo:=0) EN E hn with⟨_,c⟩|⟨_,_,_,_,c⟩<;>omega
      subst hn0;obtain⟨r1,r2,r3⟩:=jW (P:=P) (isS:=true) (cap:=0) hlo EN E (ac 0) hn hl w;have hl0:l=0:=by omega
      subst hl0;refine Yields.pure R ?_ trivial;rw[e1,g];simp[Instr.sliceAt,Instr.slice,run_underlying ht,enc,r1,dH hs]
    · cases hr
  · rename_i tk o n z g
    rw[g]at k1;obtain⟨k2,k3,k4,k5,k6⟩:=k1;have hq:o/z*z=o:=by have:=cD o z;rw[k5]at this;rw[ay];omega
    split at hr
    · cases hr
    · rename_i hh hn
      split at hr
      · cases hr
      · rename_i l hl
        obtain⟨r1,r2,r3⟩:=jW (P:=P) (isS:=true) (cap:=(ρ tk).c-o/z) hlo EN E (by omega) hn hl w
        have run:(do pure (.value (←Instr.sliceAt t (ev x) (lo.map ev) (hi.map ev) none)):Sem Next).run P w=
            .ok (.value (.slice (if(ρ tk).c-o/z=l then some ⟨(ρ tk).b,(ρ tk).o+o,none⟩else some ⟨(ρ tk).b,(ρ tk).o+o+l*s,none⟩) (hh-l) ((ρ tk).c-o/z-l))) w:=by
          rw[e1,g];simp only[Instr.sliceAt,Instr.slice,run_underlying ht,enc,r1,dH hs,Sem.run_bind,Result.andThen_ok,Sem.run_pure,cV,Addr.add_mid]
        split at hr
        · rename_i hl0;subst hl0
          obtain⟨rfl,rfl⟩:=aj hr;refine Yields.pure R ?_ ⟨k2,k3,k4,k5,by omega⟩;rw[run];simp[enc]
        · rename_i hl0
          split at hr
          · cases hr
          · rename_i hz
            have zn:z=s:=by omega
            subst zn;split at hr
            · rename_i hlt
              obtain⟨rfl,rfl⟩:=aj hr;have hdiv:(o+l*z)/z=o/z+l:=by rw[Nat.add_mul_div_right _ _ k4]
              refine Yields.pure R ?_ ⟨k2,k3,k4,by rw[Nat.add_mul_mod_self_right];exact k5,by rw[hdiv];omega⟩;rw[run,if_neg (by omega)];simp only[enc,hdiv];rw[dm,Nat.sub_sub]
            · rename_i hlt
              obtain⟨rfl,rfl⟩:=aj hr;have hhl:hh=l:=by omega
              subst hhl;refine⟨sJ ρ h.next ⟨(ρ tk).b,if(ρ tk).c-o/z=hh then(ρ tk).o+o else(ρ tk).o+o+hh*z,(ρ tk).c-o/z-hh,z⟩,w,_,.inl run,?_,?_,?_⟩
              · simp only[enc,ct,Nat.sub_self,Nat.zero_div,Nat.sub_zero,aT]
                split<;>rfl
              · simp only[ok,ct,Hp.push]
                exact⟨by omega,trivial,k4,by simp,by simp⟩
              · refine Ext.mE R _ (iG _ _ _) rfl rfl rfl (ac _) (fun _ _=>rfl) ?_
                exact⟨⟨by simp,trivial,fun j v hv=>by simp[encs]at hv,by simp,fun _=> .inl rfl⟩,by simp⟩
  · cases hr
end
section
variable {P:Program}{base:Nat}{ρ:dF}{h h':Hp}{w:World}{ev:Operand→Value}{tm:T AV}{v:AV}
variable {dst:Option Tmp}{ty:TypeId}{pos:String}{af:Array Edge}{gd:Option (Nat×Bool)}
theorem OM {tx:TypeId}{sz m:Nat}{Y:AV}{ys:List AV}(hk:(∃e',P.underlying tx=some (.slice e'))∨P.underlying tx=some .string)(R:bz base ρ h w)(hm:xB Y=some m)(AP:cellsOf h sz Y=some ys):
  Src P sz tx (enc ρ Y) m (encs ρ ys) w∧(ok ρ h.next Y→gV ρ h.next ys)∧(∀v∈ys,v.one=true):=by
 unfold cellsOf at AP;split at AP
 ·obtain rfl:=aa AP;obtain rfl:=aa hm;exact⟨⟨hk,fun _=>by simp[enc,Builtin.lenOf],by simp[enc,Builtin.firstCells,encs],by simp[enc,Builtin.firstCells,encs],by simp[encs],by simp[encs]⟩,fun _=>trivial,by simp⟩
 ·rename_i s;split at AP
  ·rename_i h1;subst h1;obtain rfl:=aa AP;obtain rfl:=aa hm;have hb:encs ρ (s.map fun b=>AV.int .u8 b.toNat)=byteCells ⟨s.toArray⟩:=by simp[cQ,byteCells,enc]
   refine⟨?_,fun _=>(cZ _ _ _).2 (by simp[ok]),by simp[AV.one]⟩;rw[hb];have hl:s.length=(⟨s.toArray⟩:ByteArray).size:=(gw s).symm;refine⟨hk,fun _=>by simp[enc,Builtin.lenOf,gw],?_,?_,?_,?_⟩
   ·rw[hl];exact firstCells_string _ w
   ·rw[hl];exact firstCells_string _ w.drew
   ·rw[byteCells_length,gw,Nat.mul_one]
   ·intro u hu;obtain⟨_,_,rfl⟩:=kc.1 hu;rfl
  ·cases AP
 ·rename_i t o n z;split at AP
  ·rename_i cs own st ht;split at AP
   ·rename_i hc;obtain rfl:=aa AP;obtain rfl:=aa hm;obtain⟨r1,r2⟩:=qq (o:=o) (n:=n*sz) R ht;have hl:(encs ρ ((cs.drop o).take (n*sz))).length=n*sz:=by rw[ce];simp;omega
    have nT:∀v∈(cs.drop o).take (n*sz),v.one=true:=fun v hv=>(R.row t cs own st ht).one v (iW (fQ hv))
    refine⟨⟨hk,fun _=>by simp[enc,Builtin.lenOf],?_,?_,hl,?_⟩,fun _=>r2,nT⟩
    ·simp only[enc];exact run_firstCells_some w sz n _ n _ _ hl (fun j u hu=>by rw[Addr.add_mid];exact r1 j u hu)
    ·simp only[enc];exact run_firstCells_some w.drew sz n _ n _ _ hl (fun j u hu=>by rw[Addr.add_mid];exact r1 j u hu)
    ·intro u hu;rw[cQ]at hu;obtain⟨a,ha,rfl⟩:=kc.1 hu;rw[DH];exact nT a ha
   ·cases AP
  ·cases AP
 ·cases AP
theorem wB:∀{vs:List Value} {l:List AV},si vs=some l→l.length=vs.length
 |[],l,h=>by obtain rfl:=aa h;rfl
 | v ::r,l,h=>by
  unfold si at h;split at h
  ·rename_i a l' h1 h2;obtain rfl:=aa h;simp[wB h2]
  ·cases h
theorem R5 {t tx e :TypeId}{i:TypeInfo}{x y:Operand}{x' y':bC}{z:List AV}(hu:P.underlying t=some (.slice e))(hk:(∃e',P.underlying tx=some (.slice e'))∨P.underlying tx=some .string)(hi:P.info? e=some i)(hz:kJ P e=some z)
  (WQ:z.length=i.size∧0<i.size) (hx:cv x=some x') (hy:cv y=some y') (E:eG ρ h.next ev tm) (R:bz base ρ h w) (hr:Dp i.size i.bytes x' y' (val tm) h=some (v,h')):
  Yields P base ρ h w (do pure (.value (←Builtin.append_ #[t,tx] ty #[ev x,ev y]))) v h':=by
 obtain⟨e1,k1⟩:=E _ _ hx;obtain⟨e2,k2⟩:=E _ _ hy;obtain⟨i',zv,h1,h2,h3⟩:=mw hz;obtain rfl:i'=i:=aa (h1.symm.trans hi);have FF:zv.cells.size=i'.size:=by rw[←WQ.1,wB h3];simp
 unfold Dp kr at hr;split at hr
 ·rename_i m ys hm AP;obtain⟨hs,K5,nT⟩:=OM hk R hm AP;have K5:=K5 k2;have hyl:ys.length=m*i'.size:=by rw[←ce ρ ys];exact hs.newsLen
  split at hr
  ·rename_i gx;have ex:ev x= .slice none 0 0:=by rw[e1,gx];simp[enc]
   split at hr
   ·obtain⟨rfl,rfl⟩:=aj hr;obtain rfl:ys=[]:=wY (by simpa using hyl);refine Yields.pure R ?_ trivial;rw[ex,e2];simp only[Sem.run_bind,run_append_nothing w t tx ty e i' hu hi none 0 0 (ac 0) _ hs,Result.andThen_ok,Sem.run_pure,enc]
   ·rename_i m;split at hr
    ·rename_i hc;obtain⟨c1,c2,c3⟩:=hc;obtain⟨rfl,rfl⟩:=aj hr;have H4:=run_append_grow_src (P:=P) w t tx ty e i' zv hu hi h2 none 0 0 [] (by simp[Builtin.firstCells]) (enc ρ (val tm y')) (m+1) (encs ρ ys) hs (by omega) (by omega) (growslice_fits (by omega) (by simpa using c1));have QS:=grownCap_ge w (0+(m+1)) 0 e
     refine⟨_,_,_,.inl ?_,(th ρ h.next w.heap.size (grownCap w (0+(m+1)) 0 e) i'.size (m+1) i'.size).symm,?_,
      Ext.newRow R ys e (Builtin.zeroCells zv.cells (grownCap w (0+(m+1)) 0 e-(0+(m+1)))).toList (grownCap w (0+(m+1)) 0 e) i'.size nT K5 ?_ (w.drawn+1)⟩
     ·rw [ex,e2];simp only[Sem.run_bind,H4,Result.andThen_ok,Sem.run_pure];congr 1
      ·simp
      ·have:([]++encs ρ ys:List Value).toArray++Builtin.zeroCells zv.cells (grownCap w (0+(m+1)) 0 e-(0+(m+1)))=(encs ρ ys++(Builtin.zeroCells zv.cells (grownCap w (0+(m+1)) 0 e-(0+(m+1)))).toList).toArray:=by
        apply fo.1;simp
       rw[this];rfl
     ·simp only[ok,ct,Hp.push];exact⟨by omega,trivial,c3,by simp,by simp at QS⊢;omega⟩
     ·rw[hyl,gg,size_zeroCells,FF,←aX];exact aH _ (by omega)
    ·cases hr
  ·rename_i tk o n z0 gx;rw[gx]at k1;obtain⟨k2',k3,k4,k5,k6⟩:=k1;have ex:ev x= .slice (some ⟨(ρ tk).b,(ρ tk).o+o,none⟩) n ((ρ tk).c-o/z0):=by rw[e1,gx];simp[enc]
   split at hr
   ·obtain⟨rfl,rfl⟩:=aj hr;obtain rfl:ys=[]:=wY (by simpa using hyl);refine Yields.pure R ?_ ⟨k2',k3,k4,k5,k6⟩;rw[ex,e2];simp only[Sem.run_bind,run_append_nothing w t tx ty e i' hu hi _ n ((ρ tk).c-o/z0) (by omega) _ hs,Result.andThen_ok,Sem.run_pure,enc]
   ·rename_i m;have hyl:ys.length=(m+1)*i'.size:=hyl;split at hr
    ·rename_i cs st ht;split at hr
     ·rename_i hc;obtain⟨rfl,c1,c2,c3⟩:=hc;obtain⟨rfl,rfl⟩:=aj hr;have hq:o/i'.size*i'.size=o:=by have:=cD o i'.size;rw[k5]at this;rw[ay];omega
      have r:=R.row tk cs true st ht;obtain⟨q1,q2,q3,q4⟩:=r.sA rfl;obtain⟨r1,r2⟩:=qq (o:=o) (n:=n*i'.size) R ht;have hl:((cs.drop o).take (n*i'.size)).length=n*i'.size:=by simp;omega
      have hl':(encs ρ ((cs.drop o).take (n*i'.size))).length=n*i'.size:=by rw[ce,hl]
      have SO:∀v∈(cs.drop o).take (n*i'.size),v.one=true:=fun v hv=>r.one v (iW (fQ hv))
      have NO:∀v∈(cs.drop o).take (n*i'.size)++ys,v.one=true:=fun v hv=>by
       rcases dQ.1 hv with c|c
       ·exact SO v c
       ·exact nT v c
      have PF:gV ρ h.next ((cs.drop o).take (n*i'.size)++ys):=(cZ _ _ _).2 fun v hv=>by
       rcases dQ.1 hv with c|c
       ·exact(cZ _ _ _).1 r2 v c
       ·exact(cZ _ _ _).1 K5 v c
      by_cases H5:n+(m+1)≤(ρ tk).c-o/i'.size
      ·have SX:(ρ tk).o+o+((ρ tk).c-o/i'.size)*i'.size=(ρ tk).o+(ρ tk).c*i'.size:=by
        rw[Nat.sub_mul,hq];have:o/i'.size*i'.size≤(ρ tk).c*i'.size:=aH _ (by omega);omega
       have PK:∀j,j<((ρ tk).c-o/i'.size)*i'.size→(w.cell? ⟨(ρ tk).b,(ρ tk).o+o+j,none⟩).isSome=true∧w.frozen? ⟨(ρ tk).b,(ρ tk).o+o+j,none⟩=false:=by
        intro j hj;have:=q4 (o+j) (by rw[←k3];omega);rwa[←dm]at this
       have hlt:∀j,j<(encs ρ ys).length→n*i'.size+j<((ρ tk).c-o/i'.size)*i'.size:=by
        intro j hj;rw[ce,hyl]at hj;have:=aH i'.size H5;rw[aX]at this;omega
       have H4:=run_append_room_src (P:=P) w t tx ty e i' hu hi (ρ tk).b ((ρ tk).o+o) n ((ρ tk).c-o/i'.size) (enc ρ (val tm y')) (m+1) (encs ρ ys) hs H5
        (fun j hj=>by rw[dm];exact(PK _ (hlt j hj)).1) (fun j hj=>by rw[dm];exact(PK _ (hlt j hj)).2)
       obtain⟨g1,g2,g3,g4,g5⟩:=lF (ρ tk).b (encs ρ ys) ((ρ tk).o+o+n*i'.size) w;have hag:cW h.next ρ (sJ ρ h.next ⟨(ρ tk).b,(ρ tk).o+o,(ρ tk).c-o/i'.size,i'.size⟩):=iG _ _ _
       refine⟨_,_,_,.inl (by rw[ex,e2];simp only[Sem.run_bind,H4,Result.andThen_ok,Sem.run_pure];rfl),?_,?_,
        Ext.Sg R ht rfl ((cs.drop o).take (n*i'.size)++ys) ⟨(ρ tk).b,(ρ tk).o+o,(ρ tk).c-o/i'.size,i'.size⟩ rfl g3 g4 g5 g1 g2 ?_⟩
       ·simp only[enc,ct,Nat.zero_div,Nat.sub_zero,aT]
       ·simp only[ok,ct,Hp.push,Hp.put];exact⟨by omega,trivial,k4,by simp,by simp;omega⟩
       ·have PB:∀k,k≤((ρ tk).c-o/i'.size)*i'.size→(w.setCells (ρ tk).b ((ρ tk).o+o+n*i'.size) (encs ρ ys)).there (ρ tk).b ((ρ tk).o+o) k:=fun k hk=>
         there_setCells (fun j hj=>PK j (by omega)) _ _
        refine⟨NO,iI hag (eK _) _ PF,?_,?_,by simp⟩
        ·rw [ct,fN hag _ PF,kX];intro j v hv;by_cases hj:j<n*i'.size
         ·rw[cH (by rw[hl'];exact hj)]at hv;rw[World.cell?_setCells_out (ρ tk).b (encs ρ ys) _ w _ (fun _ _=>by show(ρ tk).o+o+j<_∨_;omega)];exact r1 j v hv
         ·rw[fk (by rw[hl'];omega),hl']at hv;have hlt2:j-n*i'.size<(encs ρ ys).length:=(bB.1 hv).1
          have:=World.cell?_setCells_in (ρ tk).b (encs ρ ys) ((ρ tk).o+o+n*i'.size) w (fun a ha=>by
           rw[dm];exact(PK _ (hlt a ha)).1) (j-n*i'.size) hlt2
          rw[show(ρ tk).o+o+j=(ρ tk).o+o+n*i'.size+(j-n*i'.size) by omega];rw[this,←hv,aC hlt2]
        ·intro _;rw[ct];refine⟨q1,by rw[g1];exact q2,PB _ ?_,PB _ (ac _)⟩;rw[ar,hl,hyl,←aX];exact aH _ H5
      ·have H4:=run_append_grow_src (P:=P) w t tx ty e i' zv hu hi h2 (some ⟨(ρ tk).b,(ρ tk).o+o,none⟩) n ((ρ tk).c-o/i'.size) (encs ρ ((cs.drop o).take (n*i'.size)))
        (run_firstCells_some w.drew i'.size n _ n _ _ hl' (fun j u hu=>by rw[Addr.add_mid];exact r1 j u hu)) (enc ρ (val tm y')) (m+1) (encs ρ ys) hs (by omega) (by omega) (growslice_fits (by omega) (by simpa using c2))
       have QS:=grownCap_ge w (n+(m+1)) ((ρ tk).c-o/i'.size) e
       refine⟨_,_,_,.inl ?_,(th ρ h.next w.heap.size (grownCap w (n+(m+1)) ((ρ tk).c-o/i'.size) e) i'.size (n+(m+1)) i'.size).symm,?_,
        (Ext.HN R ht rfl).trans (Ext.newRow (Ext.HN R ht rfl).rel ((cs.drop o).take (n*i'.size)++ys) e (Builtin.zeroCells zv.cells (grownCap w (n+(m+1)) ((ρ tk).c-o/i'.size) e-(n+(m+1)))).toList (grownCap w (n+(m+1)) ((ρ tk).c-o/i'.size) e) i'.size NO PF ?_ (w.drawn+1))⟩
       ·rw[ex,e2];simp only[Sem.run_bind,H4,Result.andThen_ok,Sem.run_pure];congr 1
        have:(encs ρ ((cs.drop o).take (n*i'.size))++encs ρ ys:List Value).toArray++Builtin.zeroCells zv.cells (grownCap w (n+(m+1)) ((ρ tk).c-o/i'.size) e-(n+(m+1)))=(encs ρ ((cs.drop o).take (n*i'.size)++ys)++(Builtin.zeroCells zv.cells (grownCap w (n+(m+1)) ((ρ tk).c-o/i'.size) e-(n+(m+1)))).toList).toArray:=by
         apply fo.1;simp[kX]
        rw[this];rfl
       ·simp only[ok,ct,Hp.push,Hp.put];exact⟨by omega,trivial,k4,by simp,by simp at QS⊢;omega⟩
       ·rw[ar,hl,hyl,gg,size_zeroCells,FF,←aX,←aX];exact aH _ (by omega)
     ·cases hr
    ·cases hr
  ·cases hr
 ·cases hr
end
section
variable {P:Program}{base:Nat}{ρ:dF}{h h':Hp}{w:World}{ev:Operand→Value}{tm:T AV}{v:AV}
variable {dst:Option Tmp}{ty:TypeId}{pos:String}{af:Array Edge}{gd:Option (Nat×Bool)}
theorem pn {r p:Nat}{s:ByteArray}(hb:w.heap[r]?=some (.stringIter s p)):(getObj r).run P w= .ok (.stringIter s p) w:=by simp[getObj,Sem.run,hb]
theorem vu {r p:Nat}{s:ByteArray}(o:Obj)(hb:w.heap[r]?=some (.stringIter s p)):(setObj r o).run P w= .ok () { w with heap:=w.heap.setIfInBounds r o }:=by simp[setObj,Sem.run,hb]
theorem rF (w:World)(r:Nat)(o:Obj)(hr:r<w.heap.size):(w.heap.setIfInBounds r o).size=w.heap.size∧(∀k,k≠r→(w.heap.setIfInBounds r o)[k]?=w.heap[k]?)∧(w.heap.setIfInBounds r o)[r]?=some o:=by
 refine⟨by simp,fun k hk=>?_,?_⟩
 ·rw[xd,if_neg (by omega)]
 ·rw[xd];simp[hr]
theorem mL {r:Nat}{es:Array MapEntry}{clock:Nat}(hb:w.heap[r]?=some (.map es clock)):(getObj r).run P w= .ok (.map es clock) w:=by simp[getObj,Sem.run,hb]
theorem tF {r:Nat}{es:Array MapEntry}{clock:Nat}(o:Obj)(hb:w.heap[r]?=some (.map es clock)):(setObj r o).run P w= .ok () { w with heap:=w.heap.setIfInBounds r o }:=by simp[setObj,Sem.run,hb]
theorem RJ {t:TypeId}{x:Operand}{x':bC}(ht:P.underlying t=some .string)(hx:cv x=some x')(E:eG ρ h.next ev tm)(R:bz base ρ h w)
  (hr:yW x' (val tm) h=some (v,h')):Yields P base ρ h w (do pure (.value (←Instr.range t (ev x)))) v h':=by
 obtain⟨e1,k1⟩:=E _ _ hx;unfold yW at hr;split at hr
 ·rename_i s g;obtain⟨rfl,rfl⟩:=aj hr;refine⟨sJ ρ h.next ⟨w.heap.size,0,0,0⟩,w.alloc (.stringIter ⟨s.toArray⟩ 0),.pointer (some ⟨w.heap.size,0,none⟩),.inl ?_,?_,?_,Ext.mE R _ (iG _ _ _) rfl rfl rfl (by show w.heap.size≤(w.heap.push _).size;simp) (fun k hk=>kn w _ k hk) ?_⟩
  ·rw[e1,g];simp only[enc,Instr.range,Sem.run_bind,run_underlying ht,Result.andThen_ok,Sem.run_pure,run_newObj];rfl
  ·simp only[enc,ct,dN]
  ·simp only[ok,Hp.push];omega
  ·exact⟨by rw[ct];exact ac _,by rw[ct],by rw[ct];exact ma w _⟩
 ·cases hr
theorem RL {x:Operand}{x':bC}(hx:cv x=some x')(E:eG ρ h.next ev tm)(R:bz base ρ h w)
  (hr:yX x' (val tm) h=some (v,h')):Yields P base ρ h w (do pure (.value (←Instr.next (ev x) true ty))) v h':=by
 obtain⟨e1,k1⟩:=E _ _ hx;unfold yX at hr;split at hr
 ·rename_i t g;split at hr
  ·rename_i s p st ht;obtain⟨r1,r2,r3⟩:=R.iter t s p st ht;have hb:=(R.iw ht rfl).2;split at hr
   ·rename_i hp;obtain⟨rfl,rfl⟩:=aj hr;obtain⟨g1,g2,g3⟩:=rF w (ρ t).b (.stringIter ⟨s.toArray⟩ (p+(Utf8.decode ⟨s.toArray⟩ p).2)) hb;refine⟨ρ,{ w with heap:=w.heap.setIfInBounds (ρ t).b (.stringIter ⟨s.toArray⟩ (p+(Utf8.decode ⟨s.toArray⟩ p).2)) },_,.inl ?_,rfl,?_,Ext.changed R ht rfl _ rfl rfl rfl g1 g2 ⟨r2,g3⟩⟩
    ·rw[e1,g];have NN:p<(⟨s.toArray⟩:ByteArray).size:=by rw[gw];exact hp
     simp only[enc,r2,aT,Instr.next,Sem.run_bind,pn r3,Result.andThen_ok,if_pos NN,Sem.run_pure,vu _ r3,encs,goInt]
    ·simp[ok,gV]
   ·rename_i hp;obtain⟨rfl,rfl⟩:=aj hr;refine Yields.pure R ?_ (by simp[ok,gV]);rw[e1,g];have NN:¬p<(⟨s.toArray⟩:ByteArray).size:=by rw[gw];exact hp
    simp only[enc,r2,aT,Instr.next,Sem.run_bind,pn r3,Result.andThen_ok,if_neg NN,Sem.run_pure,encs]
  ·cases hr
 ·cases hr
theorem Kw {t:TypeId}(R:bz base ρ h w)(hr:sP (val tm) h=some (v,h')):Yields P base ρ h w (do pure (.value (←Instr.makeMap t none))) v h':=by
 unfold sP at hr;obtain⟨rfl,rfl⟩:=aj hr;refine⟨sJ ρ h.next ⟨w.heap.size,0,0,0⟩,w.alloc (.map #[] 0),.map (some w.heap.size),.inl ?_,?_,?_,Ext.mE R _ (iG _ _ _) rfl rfl rfl (by show w.heap.size≤(w.heap.push _).size;simp) (fun k hk=>kn w _ k hk) ?_⟩
 ·simp only[Instr.makeMap,Sem.run_bind,Result.andThen_ok,Sem.run_pure,run_newObj];rfl
 ·simp only[enc,ct]
 ·simp only[ok,Hp.push];omega
 ·exact⟨by rw[ct];exact ac _,rfl,by rw[ct];exact ma w _⟩
theorem pL (k:List UInt8):∀(es:List (AV×AV)) (ms:List MapEntry) (i:Nat),ms.map (fun m=>(m.key,m.val))=es.map (fun e=>(enc ρ e.1,enc ρ e.2))→∀r,uv k es=some r→
  (Instr.findNow .string (.string ⟨k.toArray⟩) ms i=match r with|none=>some none|some v=>(Instr.findNow .string (.string ⟨k.toArray⟩) ms i))∧
  ∀v,r=some v→(∃j,Instr.findNow .string (.string ⟨k.toArray⟩) ms i=some (some (j,enc ρ v)))∧∃e∈es,e.2=v
 | [],ms,i,hm,r,hr=>by
  obtain rfl:ms=[]:=by simpa using hm
  obtain rfl:=aa hr;exact⟨rfl,by simp⟩
 |(a,b)::es,[],i,hm,r,hr=>by simp at hm
 | (a, b)::es,m::ms,i,hm,r,hr=>by
  simp only[fR,jf,Prod.mk.injEq]at hm;obtain⟨⟨hk,hv⟩,hm⟩:=hm;unfold uv at hr;split at hr
  ·rename_i e;cases e
  ·rename_i k' v' r' e;simp only[jf,Prod.mk.injEq]at e;obtain⟨⟨rfl,rfl⟩,rfl⟩:=e;have hs:Instr.sameNow .string (.string ⟨k.toArray⟩) m.key=some (k==k'):=by rw[hk];simp only[enc,Instr.sameNow,xT]
   split at hr
   ·rename_i hkk;obtain rfl:=aa hr;rw[hkk]at hs;refine⟨rfl,fun v e=>?_⟩;obtain rfl:=aa e;exact⟨⟨i,by simp[Instr.findNow,hs,hv]⟩,_,.head _,rfl⟩
   ·rename_i hkk;simp only[Bool.not_eq_true]at hkk;rw[hkk]at hs;obtain⟨i1,i2⟩:=pL k es ms (i+1) hm r hr;have hf:Instr.findNow .string (.string ⟨k.toArray⟩) (m::ms) i=Instr.findNow .string (.string ⟨k.toArray⟩) ms (i+1):=by rw[Instr.findNow,hs]
    rw[hf];refine⟨i1,fun v e=>?_⟩;obtain⟨j1,e',he,hev⟩:=i2 v e;exact⟨j1,e',.tail _ he,hev⟩
  ·cases hr
theorem FR {t:TypeId}{z:AV}(hz:xN P t=some z)(w:World)(ρ:dF)(N:Nat):(zeroValue t).run P w= .ok (enc ρ z) w∧ok ρ N z:=by
 unfold xN at hz;split at hz
 ·rename_i i hi;split at hz
  ·rename_i cs hc;split at hz
   ·rename_i l hl;obtain rfl:=aa hz;obtain⟨e1,e2,e3⟩:=jd hl ρ N;exact⟨by simp[zeroValue,typeInfo,run_program,hi,hc,enc,e1],e2⟩
   ·cases hz
  ·rename_i z' _ hc;obtain⟨e1,e2⟩:=qN hz ρ N;exact⟨by simp[zeroValue,typeInfo,run_program,hi,hc,e1],e2⟩
  ·cases hz
 ·cases hz
theorem RS {t kt e:TypeId}{m k:Operand}{m' k':bC}{okk:Bool}{z:AV}(hu:P.underlying t=some (.map kt e))(BR:P.underlying kt=some .string)(hz:xN P e=some z)(hm:cv m=some m')(hk:cv k=some k')(E:eG ρ h.next ev tm)(R:bz base ρ h w)
  (hr:tO m' k' z okk (val tm) h=some (v,h')):Yields P base ρ h w (do pure (.value (←Instr.lookup t (ev m) (ev k) okk))) v h':=by
 obtain⟨e1,k1⟩:=E _ _ hm;obtain⟨e2,k2⟩:=E _ _ hk;unfold tO at hr;split at hr
 ·rename_i tk k g1 g2;split at hr
  ·rename_i es st ht;obtain⟨r1,r2,ms,c,r3,r4⟩:=R.map tk es st ht;obtain⟨z1,z2⟩:=FR hz w ρ h.next;have hck:(Instr.checkKey ms.isEmpty 10000 kt (.string ⟨k.toArray⟩)).run P w= .ok () w:=MapKept.run_checkKey BR (by simp[MapKept.IsKey]) _ 9999;split at hr
   ·rename_i v' hf;obtain⟨rfl,rfl⟩:=aj hr;obtain⟨_,i2⟩:=pL (ρ:=ρ) k es ms.toList 0 r4 _ hf;obtain⟨⟨j,hj⟩,e',he,rfl⟩:=i2 v' rfl;have hov:=(r2 e' he).2.2;refine Yields.pure R ?_ (by split;exact⟨hov,trivial,trivial⟩;exact hov);rw[e1,e2,g1,g2];simp only[enc,Instr.lookup,Sem.run_bind,run_underlying hu,Result.andThen_ok,mL r3,Sem.run_pure,hck,MapKept.run_findKey BR hj];cases okk<;>simp[enc,encs]
   ·rename_i hf;obtain⟨rfl,rfl⟩:=aj hr;obtain⟨i1,_⟩:=pL (ρ:=ρ) k es ms.toList 0 r4 _ hf;refine Yields.pure R ?_ (by split;exact⟨z2,trivial,trivial⟩;exact z2);rw[e1,e2,g1,g2];simp only[enc,Instr.lookup,Sem.run_bind,run_underlying hu,Result.andThen_ok,mL r3,Sem.run_pure,hck,MapKept.run_findKey BR i1,z1];cases okk<;>simp[enc,encs]
   ·cases hr
  ·cases hr
 ·cases hr
theorem vN (k:List UInt8)(v:AV):∀(es:List (AV×AV)) (ms:List MapEntry) (i:Nat),ms.map (fun m=>(m.key,m.val))=es.map (fun e=>(enc ρ e.1,enc ρ e.2))→∀NU,A7 k v es=some NU→
  ((Instr.findNow .string (.string ⟨k.toArray⟩) ms i=some none∧NU=es++[(.str k,v)])∨
   ∃j m u,Instr.findNow .string (.string ⟨k.toArray⟩) ms i=some (some (i+j,u))∧ms[j]?=some m∧m.key= .string ⟨k.toArray⟩∧(ms.modify j fun e=>{ e with key:= .string ⟨k.toArray⟩,val:=enc ρ v }).map (fun m=>(m.key,m.val))=NU.map (fun e=>(enc ρ e.1,enc ρ e.2)))∧
  ∀e∈NU,e∈es∨e=(.str k,v)
 | [],ms,i,hm,r,hr=>by
  obtain rfl:ms=[]:=by simpa using hm
  obtain rfl:=aa hr;exact⟨.inl ⟨rfl,rfl⟩,by simp⟩
 |(a,b)::es,[],i,hm,r,hr=>by simp at hm
 | (a, b)::es,m::ms,i,hm,r,hr=>by
  simp only[fR,jf,Prod.mk.injEq]at hm;obtain⟨⟨hk,hv⟩,hm⟩:=hm;unfold A7 at hr;split at hr
  ·rename_i e;cases e
  ·rename_i k' v' r' e;simp only[jf,Prod.mk.injEq]at e;obtain⟨⟨rfl,rfl⟩,rfl⟩:=e;have hs:Instr.sameNow .string (.string ⟨k.toArray⟩) m.key=some (k==k'):=by rw[hk];simp only[enc,Instr.sameNow,xT]
   split at hr
   ·rename_i hkk;obtain rfl:=aa hr;rw[hkk]at hs;have Xt:k=k':=by simpa using hkk
    subst Xt;refine⟨.inr ⟨0,m,m.val,by simp[Instr.findNow,hs],rfl,by rw[hk];simp[enc],by simp[hm,enc]⟩,fun e he=>?_⟩;rcases fy.1 he with rfl|he
    ·exact .inr rfl
    ·exact .inl (.tail _ he)
   ·rename_i hkk;simp only[Bool.not_eq_true]at hkk;rw[hkk]at hs;have hf:Instr.findNow .string (.string ⟨k.toArray⟩) (m::ms) i=Instr.findNow .string (.string ⟨k.toArray⟩) ms (i+1):=by rw[Instr.findNow,hs]
    rw[hf];obtain⟨r'',BK,rfl⟩:=Option.map_eq_some_iff.1 hr;obtain⟨i1,i2⟩:=vN k v es ms (i+1) hm r'' BK;refine⟨?_,fun e he=>?_⟩
    ·rcases i1 with⟨h1,rfl⟩|⟨j,m',u,h1,h2,h3,h4⟩
     ·exact .inl ⟨h1,rfl⟩
     ·exact .inr ⟨j+1,m',u,by rw[h1];congr 3;omega,by simpa using h2,h3,by simp[h4,hk,hv]⟩
    ·rcases fy.1 he with rfl|he
     ·exact .inl (.head _)
     ·rcases i2 e he with c|c
      ·exact .inl (.tail _ c)
      ·exact .inr c
  ·cases hr
theorem G7 {t kt e:TypeId}{m k x:Operand}{m' k' x':bC}(hu:P.underlying t=some (.map kt e))(BR:P.underlying kt=some .string)(hm:cv m=some m')(hk:cv k=some k')(hx:cv x=some x')(E:eG ρ h.next ev tm)(R:bz base ρ h w)
  (hr:pB m' k' x' (val tm) h=some (v,h')):Yields P base ρ h w (do Instr.mapUpdate t (ev m) (ev k) (ev x);pure .skip) v h':=by
 obtain⟨e1,k1⟩:=E _ _ hm;obtain⟨e2,k2⟩:=E _ _ hk;obtain⟨e3,k3⟩:=E _ _ hx;unfold pB at hr;split at hr
 ·rename_i tk k g1 g2;split at hr
  ·rename_i es st ht;obtain⟨r1,r2,ms,c,r3,r4⟩:=R.map tk es st ht;have hb:=(R.iw ht rfl).2;have hck:(Instr.checkKey false 10000 kt (.string ⟨k.toArray⟩)).run P w= .ok () w:=MapKept.run_checkKey BR (by simp[MapKept.IsKey]) _ 9999;split at hr
   ·rename_i NU FG;obtain⟨rfl,rfl⟩:=aj hr;obtain⟨i1,i2⟩:=vN (ρ:=ρ) k (val tm x') es ms.toList 0 r4 _ FG
    have ko:∀e∈NU,e.1.one=true∧ok ρ h.next e.1∧ok ρ h.next e.2:=fun e he=>by
     rcases i2 e he with c|rfl
     ·exact r2 e c
     ·exact⟨rfl,trivial,k3⟩
    rcases i1 with⟨h1,rfl⟩|⟨j,m0,u,h1,h2,h3,h4⟩
    ·obtain⟨s1,s2,s3⟩:=rF w (ρ tk).b (.map (ms.push { key:= .string ⟨k.toArray⟩,val:=enc ρ (val tm x'),born:=c }) (c+1)) hb;refine⟨ρ,{ w with heap:=w.heap.setIfInBounds (ρ tk).b (.map (ms.push { key:= .string ⟨k.toArray⟩,val:=enc ρ (val tm x'),born:=c }) (c+1)) },undef,.inr ⟨?_,rfl⟩,(kY ρ).symm,trivial,Ext.changed R ht rfl _ rfl rfl rfl s1 s2 ⟨ko,_,_,s3,?_⟩⟩
     ·rw[e1,e2,e3,g1,g2];simp only[enc,Instr.mapUpdate,Sem.run_bind,run_underlying hu,Result.andThen_ok,mL r3,Sem.run_pure,hck,MapKept.run_findKey BR h1,tF _ r3]
     ·simp[r4,enc]
    ·have hms:ms[j]?=some m0:=by rw[←Array.getElem?_toList];exact h2
     obtain⟨s1,s2,s3⟩:=rF w (ρ tk).b (.map (ms.modify j fun e=>{ e with key:= .string ⟨k.toArray⟩,val:=enc ρ (val tm x') }) c) hb;refine⟨ρ,{ w with heap:=w.heap.setIfInBounds (ρ tk).b (.map (ms.modify j fun e=>{ e with key:= .string ⟨k.toArray⟩,val:=enc ρ (val tm x') }) c) },undef,.inr ⟨?_,rfl⟩,(kY ρ).symm,trivial,Ext.changed R ht rfl _ rfl rfl rfl s1 s2 ⟨ko,_,_,s3,?_⟩⟩
     ·rw [e1,e2,e3,g1,g2]
      have hst:(Instr.keyThatStays (.string ⟨k.toArray⟩) (.string ⟨k.toArray⟩)).run P w= .ok (.string ⟨k.toArray⟩) w:=by
       have:Instr.sameBits 10000 (.string ⟨k.toArray⟩) (.string ⟨k.toArray⟩)=true:=by
        show(((⟨k.toArray⟩:ByteArray)==⟨k.toArray⟩)=true)
        rw[xT];simp
       simp only[Instr.keyThatStays,this,if_true,Sem.run_pure]
      simp only[enc,Instr.mapUpdate,Sem.run_bind,run_underlying hu,Result.andThen_ok,mL r3,Sem.run_pure,hck,MapKept.run_findKey BR h1,dN,hms,cV,Option.getD_some,h3,hst,tF _ r3]
     ·rw[Array.toList_modify];exact h4
   ·cases hr
  ·cases hr
 ·cases hr
end
section
variable {P:Program}{base:Nat}{ρ:dF}{h h':Hp}{w:World}{ev:Operand→Value}{tm:T AV}{v:AV}
theorem Yields.of {s s':Sem Next}(hs:s'.run P w=s.run P w)(Y:Yields P base ρ h w s v h'):Yields P base ρ h w s' v h':=by
 obtain⟨ρ',w',u,h1,h2,h3,h4⟩:=Y;exact⟨ρ',w',u,by rw[hs];exact h1,h2,h3,h4⟩
def ij.calls:ij→Bool
 | .mc .. | .hZ .. | .inv .. =>true
 |_=>false
theorem pT {t e:TypeId}(h:qO P t=some e):∃kt,P.underlying t=some (.map kt e)∧P.underlying kt=some .string:=by
 unfold qO at h;split at h
 ·rename_i k e0 hu;split at h
  ·rename_i hk;obtain rfl:=aa h;exact⟨k,hu,hk⟩
  ·cases h
 ·cases h
theorem iu {dst:Option Tmp}{b:Go.Builtin}{args:Array Operand}{ats:Array TypeId}{ty:TypeId}{pos:String}{af:Array Edge}{gd:Option (Nat×Bool)}{s:Array TypeId→TypeId→Array Value→Sem Value}
  (hb:∀ats ty cs asx,builtin b ats ty cs asx=do pure (.value (←s ats ty asx))) {asx:Array Value} (has:args.map ev=asx):
  (execOp ev ⟨dst,.call ⟨.builtin b,args,ats⟩,ty,pos,af,gd⟩).run P w=(do pure (.value (←s ats ty asx)):Sem Next).run P w:=by
 subst has;simp only[execOp,resolve,invoke,Sem.run_bind,Sem.run_pure,Result.andThen_ok,hb]
theorem wC {o:Oper}{a:ij}(hc:iF P o=some a)(QN:a.calls=false)(E:eG ρ h.next ev tm)(R:bz base ρ h w)(hr:mS a (val tm) h=some (v,h')):Yields P base ρ h w (execOp ev o) v h':=by
  obtain⟨dst,op,ty,pos,af,gd⟩:=o;cases op<;>try(simp only[iF,reduceCtorEq]at hc;done)
  case move x=>
    simp only[iF]at hc;obtain⟨x',hx,hc⟩:=bind_some hc;obtain rfl:=aa hc;exact RM hx E R hr
  case assign x=>
    simp only[iF]at hc;obtain⟨x',hx,hc⟩:=bind_some hc;obtain rfl:=aa hc;exact RM hx E R hr
  case pick c a b=>
    simp only[iF]at hc;obtain⟨c',h1,hc⟩:=bind_some hc;obtain⟨a',h2,hc⟩:=bind_some hc;obtain⟨b',h3,hc⟩:=bind_some hc;obtain rfl:=aa hc;exact O5 h1 h2 h3 E R hr
  case alloc e=>
    simp only[iF]at hc;obtain⟨z,hz,hc⟩:=bind_some hc;obtain rfl:=aa hc;exact Kz (tm:=tm) hz R hr
  case box e x=>
    simp only[iF]at hc;obtain⟨x',hx,hc⟩:=bind_some hc;obtain rfl:=aa hc;exact RY hx E R hr
  case build t ps=>
    simp only[iF]at hc;obtain⟨z,hz,hc⟩:=bind_some hc;split at hc
    · rename_i fs hu
      split at hc
      · rename_i ko
        obtain⟨l,hl,hc⟩:=bind_some hc;obtain rfl:=aa hc;exact Ky hz hu ko hl E R hr
      · cases hc
    · cases hc
  case buildSlice t n ps=>
    simp only[iF]at hc;split at hc
    · rename_i e hu
      obtain⟨s,hs,hc⟩:=bind_some hc;obtain⟨z,hz,hc⟩:=bind_some hc;split at hc
      · rename_i QU
        obtain⟨l,hl,hc⟩:=bind_some hc;obtain rfl:=aa hc;exact Ha hu hs hz QU hl E R hr
      · cases hc
    · cases hc
  case load t x=>
    simp only[iF]at hc;obtain⟨a,ha,hc⟩:=bind_some hc;obtain⟨n,hn,hc⟩:=bind_some hc;obtain⟨x',hx,hc⟩:=bind_some hc;obtain rfl:=aa hc;exact O8 ha hn hx E R hr
  case store t x y=>
    simp only[iF]at hc;obtain⟨n,hn,hc⟩:=bind_some hc;obtain⟨x',hx,hc⟩:=bind_some hc;obtain⟨y',hy,hc⟩:=bind_some hc;obtain rfl:=aa hc;exact Ku hn hx hy E R hr
  case nilCheck x=>
    simp only[iF]at hc;obtain⟨x',hx,hc⟩:=bind_some hc;obtain rfl:=aa hc;exact Kv hx E R hr
  case binOp op t x y yt=>
    simp only[iF]at hc;obtain⟨x',hx,hc⟩:=bind_some hc;obtain⟨y',hy,hc⟩:=bind_some hc;obtain rfl:=aa hc;exact RZ (yt:=yt) hx hy E R hr
  case unOp op t x=>
    simp only[iF]at hc;obtain⟨x',hx,hc⟩:=bind_some hc;obtain rfl:=aa hc;exact VP hx E R hr
  case convert s d x=>
    simp only[iF]at hc;split at hc
    · rename_i k0 k hs hd
      obtain⟨x',hx,hc⟩:=bind_some hc;obtain rfl:=aa hc;exact RX hs hd hx E R hr
    · rename_i hs hd
      obtain⟨x',hx,hc⟩:=bind_some hc;obtain rfl:=aa hc;exact RW hs hd hx E R hr
    · cases hc
  case makeInterface t x=>
    simp only[iF]at hc;split at hc
    · cases hc
    · rename_i d hd hne
      obtain⟨x',hx,hc⟩:=bind_some hc;obtain rfl:=aa hc;exact RO hne (fun ms e=>hd ms (e▸rfl)) hx E R hr
    · cases hc
  case makeFunc f first cs=>
    cases f<;>try(simp only[iF,reduceCtorEq]at hc;done)
    rename_i f;simp only[iF]at hc;split at hc
    · rename_i he
      obtain⟨l,hl,hc⟩:=bind_some hc;obtain rfl:=aa hc;obtain rfl:first= #[]:=by simpa using he
      have:=RP (P:=P) hl E R hr;simpa[execOp]using this
    · cases hc
  case makeMap t r=>
    cases r
    · simp only[iF]at hc
      obtain⟨e,he,hc⟩:=bind_some hc;obtain rfl:=aa hc;exact Kw (tm:=tm) R hr
    · simp only[iF,reduceCtorEq]at hc
  case makeSlice t l c=>
    simp only[iF]at hc;split at hc
    · rename_i e hu
      split at hc
      · rename_i i hi
        obtain⟨z,hz,hc⟩:=bind_some hc;obtain⟨l',hl,hc⟩:=bind_some hc;obtain⟨c',QU,hc⟩:=bind_some hc;obtain rfl:=aa hc;exact RN hu hi hz hl QU E R hr
      · cases hc
    · cases hc
  case slice t x lo hi m=>
    cases m
    · simp only[iF]at hc
      split at hc
      · rename_i hu
        obtain⟨x',hx,hc⟩:=bind_some hc;obtain⟨FE,hlo,hc⟩:=bind_some hc;obtain⟨hi',EN,hc⟩:=bind_some hc;obtain rfl:=aa hc;exact RI hu hx hlo EN E R hr
      · rename_i e hu
        obtain⟨s,hs,hc⟩:=bind_some hc;obtain⟨x',hx,hc⟩:=bind_some hc;obtain⟨FE,hlo,hc⟩:=bind_some hc;obtain⟨hi',EN,hc⟩:=bind_some hc;obtain rfl:=aa hc;exact VQ hu hs hx hlo EN E R hr
      · cases hc
    · simp only[iF,reduceCtorEq]at hc
  case fieldAddr s x i=>
    simp only[iF]at hc;obtain⟨f,hf,hc⟩:=bind_some hc;obtain⟨n,hn,hc⟩:=bind_some hc;split at hc
    · cases hc
    · rename_i hn0
      obtain⟨x',hx,hc⟩:=bind_some hc;obtain rfl:=aa hc;exact Pb hf hn hn0 hx E R hr
  case field s x i=>
    simp only[iF]at hc;obtain⟨f,hf,hc⟩:=bind_some hc;obtain⟨a,ha,hc⟩:=bind_some hc;obtain⟨n,hn,hc⟩:=bind_some hc;obtain⟨x',hx,hc⟩:=bind_some hc;obtain rfl:=aa hc;exact RT hf ha hn hx E R hr
  case indexAddr t x i=>
    simp only[iF]at hc;split at hc
    · rename_i e hu
      obtain⟨s,hs,hc⟩:=bind_some hc;obtain⟨x',hx,hc⟩:=bind_some hc;obtain⟨i',hi,hc⟩:=bind_some hc;obtain rfl:=aa hc;exact Pa hu hs hx hi E R hr
    · rename_i n e hu
      obtain⟨s,hs,hc⟩:=bind_some hc;obtain⟨x',hx,hc⟩:=bind_some hc;obtain⟨i',hi,hc⟩:=bind_some hc;obtain rfl:=aa hc;exact Kx hu hs hx hi E R hr
    · cases hc
  case index t x i=>
    simp only[iF]at hc;split at hc
    · rename_i hu
      obtain⟨x',hx,hc⟩:=bind_some hc;obtain⟨i',hi,hc⟩:=bind_some hc;obtain rfl:=aa hc;exact O9 hu hx hi E R hr
    · cases hc
  case lookup t m k okk=>
    simp only[iF]at hc;obtain⟨e,he,hc⟩:=bind_some hc;obtain⟨z,hz,hc⟩:=bind_some hc;obtain⟨m',hm,hc⟩:=bind_some hc;obtain⟨k',hk,hc⟩:=bind_some hc;obtain rfl:=aa hc;obtain⟨kt,hu,BR⟩:=pT he;exact RS hu BR hz hm hk E R hr
  case mapUpdate t m k x=>
    simp only[iF]at hc;obtain⟨e,he,hc⟩:=bind_some hc;obtain⟨m',hm,hc⟩:=bind_some hc;obtain⟨k',hk,hc⟩:=bind_some hc;obtain⟨x',hx,hc⟩:=bind_some hc;obtain rfl:=aa hc;obtain⟨kt,hu,BR⟩:=pT he;exact G7 hu BR hm hk hx E R hr
  case insert t m k x=>
    simp only[iF]at hc;obtain⟨e,he,hc⟩:=bind_some hc;obtain⟨m',hm,hc⟩:=bind_some hc;obtain⟨k',hk,hc⟩:=bind_some hc;obtain⟨x',hx,hc⟩:=bind_some hc;obtain rfl:=aa hc;obtain⟨kt,hu,BR⟩:=pT he;exact G7 hu BR hm hk hx E R hr
  case range t x=>
    simp only[iF]at hc;split at hc
    · rename_i hu
      obtain⟨x',hx,hc⟩:=bind_some hc;obtain rfl:=aa hc;exact RJ hu hx E R hr
    · cases hc
  case next x b=>
    cases b
    · simp only[iF,reduceCtorEq]at hc
    · simp only[iF]at hc
      obtain⟨x',hx,hc⟩:=bind_some hc;obtain rfl:=aa hc;exact RL hx E R hr
  case extract x i=>
    simp only[iF]at hc;obtain⟨x',hx,hc⟩:=bind_some hc;obtain rfl:=aa hc;exact RU hx E R hr
  case call c =>
    obtain⟨callee,args,ats⟩:=c;cases callee
    case value f=>
      cases f<;>simp only[iF]at hc
      case func f=>
        obtain⟨l,hl,hc⟩:=bind_some hc;obtain rfl:=aa hc;simp[ij.calls]at QN
      all_goals
        obtain⟨x',hx,hc⟩:=bind_some hc;obtain⟨l,hl,hc⟩:=bind_some hc;obtain rfl:=aa hc;simp[ij.calls]at QN
    case invoke x name=>
      simp only[iF]at hc;obtain⟨x',hx,hc⟩:=bind_some hc;obtain⟨l,hl,hc⟩:=bind_some hc;obtain rfl:=aa hc;simp[ij.calls]at QN
    case builtin b=>
      cases b<;>try(simp only[iF,reduceCtorEq]at hc;done)
      case len=>
        simp only[iF]at hc;split at hc
        · rename_i t x PS uk
          obtain rfl:ats= #[t]:=by apply fo.1;simpa using PS
          obtain rfl:args= #[x]:=by apply fo.1;simpa using uk
          split at hc
          · rename_i hu
            obtain⟨x',hx,hc⟩:=bind_some hc;obtain rfl:=aa hc;exact Yields.of (iu (s:=Builtin.len_) (fun _ _ _ _=>rfl) (asx:= #[ev x]) (by simp)) (G9 (ty:=ty) hu trivial hx E R hr)
          · rename_i e hu
            obtain⟨x',hx,hc⟩:=bind_some hc;obtain rfl:=aa hc;exact Yields.of (iu (s:=Builtin.len_) (fun _ _ _ _=>rfl) (asx:= #[ev x]) (by simp)) (G9 (ty:=ty) hu trivial hx E R hr)
          · rename_i n e hu
            obtain⟨x',hx,hc⟩:=bind_some hc;obtain rfl:=aa hc;exact Yields.of (iu (s:=Builtin.len_) (fun _ _ _ _=>rfl) (asx:= #[ev x]) (by simp)) (G9 (q:= .arr n) (ty:=ty) hu rfl hx E R hr)
          · cases hc
        · cases hc
      case append =>
        simp only[iF]at hc;split at hc
        · rename_i t tx x y PS uk
          obtain rfl:ats= #[t,tx]:=by apply fo.1;simpa using PS
          obtain rfl:args= #[x,y]:=by apply fo.1;simpa using uk
          have key:∀e,P.underlying t=some (.slice e)→((∃e',P.underlying tx=some (.slice e'))∨P.underlying tx=some .string)→
              (match P.info? e with
                | some i=>match kJ P e with
                  |some z=>if z.length=i.size∧0<i.size then(cv x).bind fun x=>(cv y).bind fun y=>some (ij.app i.size i.bytes x y)else none
                  |none=>none
                |none=>none)=some a→Yields P base ρ h w (do pure (.value (←Builtin.append_ #[t,tx] ty #[ev x,ev y]))) v h':=by
            intro e hu hk hc;split at hc
            · rename_i i hi
              split at hc
              · rename_i z hz
                split at hc
                · rename_i WQ
                  obtain⟨x',hx,hc⟩:=bind_some hc;obtain⟨y',hy,hc⟩:=bind_some hc;obtain rfl:=aa hc;exact R5 hu hk hi hz WQ hx hy E R hr
                · cases hc
              · cases hc
            · cases hc
          split at hc
          · rename_i e e' hu hk
            exact Yields.of (iu (s:=Builtin.append_) (fun _ _ _ _=>rfl) (asx:= #[ev x,ev y]) (by simp)) (key e hu (.inl ⟨e',hk⟩) hc)
          · rename_i e hu hk
            exact Yields.of (iu (s:=Builtin.append_) (fun _ _ _ _=>rfl) (asx:= #[ev x,ev y]) (by simp)) (key e hu (.inr hk) hc)
          · cases hc
        · cases hc
      case max=>
        simp only[iF]at hc;obtain⟨l,hl,hc⟩:=bind_some hc;obtain rfl:=aa hc;have:=RR (P:=P) (ats:=ats) (ty:=ty) hl E R hr;have e:(args.toList.map ev).toArray=args.map ev:=by apply fo.1;simp
        rw[e]at this;exact Yields.of (iu (s:=Builtin.max_) (fun _ _ _ _=>rfl) rfl) this
      case min=>
        simp only[iF]at hc;obtain⟨l,hl,hc⟩:=bind_some hc;obtain rfl:=aa hc;have:=RQ (P:=P) (ats:=ats) (ty:=ty) hl E R hr;have e:(args.toList.map ev).toArray=args.map ev:=by apply fo.1;simp
        rw[e]at this;exact Yields.of (iu (s:=Builtin.min_) (fun _ _ _ _=>rfl) rfl) this
end
def KA:Option bC→List bC
 |some x=>[x]
 |none=>[]
def ij.Bw:ij→List bC
 | .mv x| .box x| .load _ _ x| .zc x| .un _ x| .sW _ x| .QW x| .Qq x| .FD _ x| .jy _ x| .yl _ _ _ x| .ext x _| .len _ x| .UG x| .UH x=>[x]
 | .pick a b c| .zd a b c=>[a,b,c]
 | .alloc _| .vV| .bad=>[]
 | .build _ ps| .dU _ _ _ ps=>ps.map fun p=>p.2.2
 | .store _ x y| .bin _ _ x y| .tY _ _ _ x y| .gR _ x y| .wj _ _ x y| .idxs x y| .app _ _ x y| .Pp x y _ _=>[x,y]
 | .Pk _ cs=>cs
 | .rW x lo hi| .sl _ x lo hi=>x::(KA lo++KA hi)
 | .mx xs| .mn xs=>xs
 | .mc _ args=>args
 | .hZ x args=>x::args
 | .inv x _ args=>x::args
theorem vZ {ρ ρ':bC→AV}{ps:List (Nat×Nat×bC)}(hh:∀y∈ps.map (fun p=>p.2.2),ρ y=ρ' y):
  (ps.map fun p=>(p.1,p.2.1,ρ p.2.2))=ps.map fun p=>(p.1,p.2.1,ρ' p.2.2):=
 cE fun p hp=>by rw[hh _ (kc.2 ⟨p,hp,rfl⟩)]
theorem qu {ρ ρ':bC→AV}{x:Option bC}(hh:∀y∈KA x,ρ y=ρ' y):x.map ρ=x.map ρ':=by
 cases x with
 |none=>rfl
 |some x=>simp[hh x (by simp[KA])]
theorem wO {a:ij}{ρ ρ':bC→AV}(h:Hp)(hh:∀y∈a.Bw,ρ y=ρ' y):mS a ρ h=mS a ρ' h:=by
 cases a<;>simp only[ij.Bw,fy,List.not_mem_nil,or_false,forall_eq_or_imp,forall_eq,dQ]at hh<;>simp only[mS]
 case build z ps=>unfold kT;rw[vZ hh]
 case dU s n z ps=>unfold kz;rw[vZ hh]
 case Pk f cs=>unfold zb;rw[cE hh]
 case mx xs=>unfold yY;rw[cE hh]
 case mn xs=>unfold yZ;rw[cE hh]
 case rW x lo hi=>unfold tN;rw[hh.1,qu fun y hy=>hh.2 y (.inl hy),qu fun y hy=>hh.2 y (.inr hy)]
 case sl s x lo hi=>unfold HA;rw[hh.1,qu fun y hy=>hh.2 y (.inl hy),qu fun y hy=>hh.2 y (.inr hy)]
 case mv=>unfold HB;rw[hh]
 case pick=>unfold pA;rw[hh.1,hh.2.1,hh.2.2]
 case alloc=>rfl
 case box=>unfold tU;rw[hh]
 case load=>unfold pC;rw[hh]
 case store=>unfold oL;rw[hh.1,hh.2]
 case zc=>unfold oM;rw[hh]
 case bin=>unfold tV;rw[hh.1,hh.2]
 case un=>unfold Bx;rw[hh]
 case sW=>unfold tT;rw[hh]
 case QW=>unfold tS;rw[hh]
 case Qq=>unfold By;rw[hh]
 case FD=>unfold za;rw[hh]
 case tY=>unfold rZ;rw[hh.1,hh.2]
 case jy=>unfold pF;rw[hh]
 case yl=>unfold tQ;rw[hh]
 case gR=>unfold pE;rw[hh.1,hh.2]
 case wj=>unfold mF;rw[hh.1,hh.2]
 case idxs=>unfold pD;rw[hh.1,hh.2]
 case ext=>unfold tR;rw[hh]
 case len=>unfold tP;rw[hh]
 case app=>unfold Dp;rw[hh.1,hh.2]
 case UG=>unfold yW;rw[hh]
 case UH=>unfold yX;rw[hh]
 case vV=>rfl
 case zd=>unfold pB;rw[hh.1,hh.2.1,hh.2.2]
 case Pp=>unfold tO;rw[hh.1,hh.2]
 all_goals rfl
theorem EA {a:ij}{E:Env}{rec:Rec}{s s':St}(hp:s'.hp=s.hp)(hh:∀y∈a.Bw,val s.tm y=val s'.tm y):nd a E rec s=nd a E rec s':=by
 cases hc:a.calls with
 | false=>
  have:∀s,nd a E rec s=mS a (val s.tm) s.hp:=by cases a<;>first|(simp[ij.calls]at hc;done)|(intro s;rfl)
  rw[this,this,hp];exact wO _ hh
 | true=>
  cases a<;>simp[ij.calls]at hc<;>simp only[ij.Bw,fy,forall_eq_or_imp]at hh<;>simp only[nd]
  case mc f args=>unfold xu;rw[hp,cE hh]
  case hZ x args=>unfold kj;rw[hp,cE hh.2,hh.1]
  case inv x n args=>unfold qz;rw[hp,cE hh.2,hh.1]
section
variable {P:Program}{base:Nat}{ρ:dF}{h h':Hp}{w:World}{ev:Operand→Value}{tm:T AV}{v:AV}
def mh (P:Program)(K:Value→World→Prop):Result Next→Prop
 | .ok (.value v) w'=>K v w'
 | .ok .skip w'=>K undef w'
 | .ok (.enter f args) w'=>Calls P f args w' fun e w''=>∃v,e= .returned v∧K v w''
 |_=>False
theorem mh.mono {K K':Value→World→Prop}{r:Result Next}(ht:mh P K r)(hk:∀v w',K v w'→K' v w'):mh P K' r:=by
 cases r with
 | ok n w'=>
  cases n<;>first
   |exact hk _ _ ht
   |exact Calls.mono ht fun e w' he=>by obtain⟨v,rfl,h⟩:=he;exact⟨v,rfl,hk _ _ h⟩
   |exact ht
 |halt x w'=>exact ht
theorem mh.wp {K:Value→World→Prop}{o:Oper}{a:Act}{next:Act→World→Prop}{Q:Exit→Act→World→Prop}(ht:mh P K ((execOp a.eval o).run P w))(hk:∀v w',K v w'→next (a.put o.dst v) w'):o.wp P a w next Q:=by
 unfold Oper.wp;generalize (execOp a.eval o).run P w=r at ht
 cases r with
 | ok n w'=>
  cases n<;>first
   |exact hk _ _ ht
   |exact Calls.mono ht fun e w' he=>by obtain⟨v,rfl,h⟩:=he;exact hk _ _ h
   |exact False.elim ht
 |halt x w'=>exact False.elim ht
def sn (base:Nat)(ρ:dF)(h:Hp)(w:World)(v:AV)(h':Hp)(u:Value)(w':World):Prop:=∃ρ',Ext base ρ h w ρ' h' w'∧ok ρ' h'.next v∧u=enc ρ' v
def eC (P:Program)(base:Nat)(ρ:dF)(h:Hp)(w:World)(s:Sem Next)(v:AV)(h':Hp):Prop:=mh P (sn base ρ h w v h') (s.run P w)
theorem Yields.Tv {s:Sem Next}(Y:Yields P base ρ h w s v h'):eC P base ρ h w s v h':=by
 obtain⟨ρ',w',u,h1,h2,h3,h4⟩:=Y;unfold eC;rcases h1 with h1|⟨h1,rfl⟩<;>rw[h1]
 ·exact⟨ρ',h4,h3,h2⟩
 ·exact⟨ρ',h4,h3,h2⟩
def mX (P:Program)(W0:World)(base:Nat)(E:Env)(rec:Rec):Prop:=∀f args h v h',gK E rec f args h=some (v,h')→∀ρ w,bn base W0 w→bz base ρ h w→gV ρ h.next args→eC P base ρ h w (callFunc f (encs ρ args).toArray) v h'
def rR (P:Program)(E:Env):Prop:=∀T name f,E.gO T name=some f→∀v w,(method (P.types.size+Made.depth) T v name).run P w= .ok (f,v) w
theorem eC.of {s s':Sem Next}(hs:s'.run P w=s.run P w)(D:eC P base ρ h w s v h'):eC P base ρ h w s' v h':=by
 unfold eC at *;rw[hs];exact D
def NC (o:Option ij):Prop:=∀a,o=some a→a.calls=false
theorem oO:NC none:=nofun
theorem oN {a:ij}(h:a.calls=false):NC (some a):=fun b e=>by obtain rfl:=aa e;exact h
theorem oP {α:Type}{x:Option α}{f:α→Option ij}(h:∀y,NC (f y)):NC (x.bind f):=fun a e=>by
 obtain⟨y,_,hy⟩:=bind_some e;exact h y a hy
theorem Se {o:Oper}(ho:∀c,o.op≠ .call c):NC (iF P o):=by
 obtain⟨dst,op,ty,pos,af,gd⟩:=o;cases op
 case call c=>exact absurd rfl (ho c)
 case makeFunc f first cs=>cases f<;>simp only[iF]<;>repeat'(first|exact oO|exact oN rfl|(apply oP;intro _)|split)
 case makeMap t r=>cases r<;>simp only[iF]<;>repeat'(first|exact oO|exact oN rfl|(apply oP;intro _)|split)
 case slice t x lo hi m=>cases m<;>simp only[iF]<;>repeat'(first|exact oO|exact oN rfl|(apply oP;intro _)|split)
 case next x b=>cases b<;>simp only[iF]<;>repeat'(first|exact oO|exact oN rfl|(apply oP;intro _)|split)
 all_goals simp only[iF]<;>repeat'(first|exact oO|exact oN rfl|(apply oP;intro _)|split)
theorem E8 {o:Oper}{a:ij}(hc:iF P o=some a)(hn:a.calls=true):
  ∃ c,o.op= .call c∧((∃f l,c.callee= .value (.func f)∧kK c.args.toList=some l∧a= .mc f l)∨
   (∃x x' l,c.callee= .value x∧cv x=some x'∧kK c.args.toList=some l∧a= .hZ x' l)∨
   (∃x x' name l,c.callee= .invoke x name∧cv x=some x'∧kK c.args.toList=some l∧a= .inv x' name l)):=by
 obtain⟨dst,op,ty,pos,af,gd⟩:=o;cases op
 case call c=>
  refine⟨c,rfl,?_⟩;obtain⟨callee,args,ats⟩:=c;cases callee
  case value f=>
   cases f<;>simp only[iF]at hc
   case func f=>
    obtain⟨l,hl,hc⟩:=bind_some hc;obtain rfl:=aa hc;exact .inl ⟨f,l,rfl,hl,rfl⟩
   all_goals
    obtain⟨x',hx,hc⟩:=bind_some hc;obtain⟨l,hl,hc⟩:=bind_some hc;obtain rfl:=aa hc;exact .inr (.inl ⟨_,x',l,rfl,hx,hl,rfl⟩)
  case invoke x name=>
   simp only[iF]at hc;obtain⟨x',hx,hc⟩:=bind_some hc;obtain⟨l,hl,hc⟩:=bind_some hc;obtain rfl:=aa hc;exact .inr (.inr ⟨x,x',name,l,rfl,hx,hl,rfl⟩)
  case builtin b=>
   exfalso
   have:NC (iF P ⟨dst,.call ⟨.builtin b,args,ats⟩,ty,pos,af,gd⟩):=by
    cases b<;>simp only[iF]<;>repeat'(first|exact oO|exact oN rfl|(apply oP;intro _)|split)
   rw[this a hc]at hn;cases hn
 all_goals
  exfalso;have:=Se (fun c e=>by simp at e) a hc;rw[hn]at this;cases this
theorem xy {args:Array Operand}{l:List Value}(h:args.toList.map ev=l):args.map ev=l.toArray:=by apply fo.1;simpa using h
theorem tL {W0:World}{En:Env}{rec:Rec}{o:Oper}{a:ij}{s:St}(CO:mX P W0 base En rec)(B:bn base W0 w)(MO:rR P En)(hc:iF P o=some a)(E:eG ρ s.hp.next ev s.tm)(R:bz base ρ s.hp w)(hr:nd a En rec s=some (v,h')):
  eC P base ρ s.hp w (execOp ev o) v h':=by
 cases hn:a.calls with
 | false=>
  have:nd a En rec s=mS a (val s.tm) s.hp:=by cases a<;>first|(simp[ij.calls]at hn;done)|rfl
  rw[this]at hr;exact(wC hc hn E R hr).Tv
 | true=>
  obtain⟨c,hop,wo⟩:=E8 hc hn;have hex:(execOp ev o)=(do let d ←resolve ev c o.type;invoke d.target d.args):=by unfold execOp;rw[hop]
  rw[hex];rcases wo with⟨f,l,h1,h2,rfl⟩|⟨x,x',l,h1,h2,h3,rfl⟩|⟨x,x',name,l,h1,h2,h3,rfl⟩
  ·simp only[nd,xu]at hr;obtain⟨e1,e2⟩:=E.list h2;refine eC.of ?_ (CO f _ _ _ _ hr ρ w B R e2)
   have hf:ev (.func f)= .func (.func f) #[] #[]:=by
    have:=(E (.func f) (.k (.fn f [])) rfl).1;simpa[enc,val,encs]using this
   simp only[resolve,h1,hf,Deferred.ofValue,Sem.run_bind,Sem.run_pure,Result.andThen_ok,invoke,xy e1];simp
  ·simp only[nd,kj]at hr;obtain⟨e1,e2⟩:=E.list h3;obtain⟨e3,e4⟩:=E _ _ h2;split at hr
   ·rename_i f cap g;rw[g]at e3 e4
    refine eC.of ?_ (CO f _ _ _ _ hr ρ w B R ((cZ _ _ _).2 fun y hy=>by
     have e4':gV ρ s.hp.next cap:=e4;rcases dQ.1 hy with c|c
     ·exact(cZ _ _ _).1 e2 y c
     ·exact(cZ _ _ _).1 e4' y c))
    simp only[resolve,h1,e3,enc,Deferred.ofValue,Sem.run_bind,Sem.run_pure,Result.andThen_ok,invoke,xy e1,kX];simp
   ·cases hr
  ·simp only[nd,qz]at hr;obtain⟨e1,e2⟩:=E.list h3;obtain⟨e3,e4⟩:=E _ _ h2;split at hr
   ·rename_i T u g;rw[g]at e3 e4;split at hr
    ·rename_i f hm;refine eC.of ?_ (CO f _ _ _ _ hr ρ w B R ⟨e4,e2⟩);have hme:=MO T name f hm (enc ρ u) w;simp only[resolve,h1,e3,enc,Sem.run_bind,Sem.run_pure,Result.andThen_ok,invoke,xy e1,callMethod,run_program];simp[callMethod,run_program,hme,encs]
    ·cases hr
   ·cases hr
end
def WF (h:Hp):Prop:=∀t o,h.get t=some o→t<h.next
structure bJ (h h':Hp):Prop where
 df:h.df≤h'.df
 next:h.next≤h'.next
 get:∀t,h'.get t=h.get t∨∃o,h'.get t=some o∧h.df<o.st
 wf:WF h→WF h'
theorem bJ.refl (h:Hp):bJ h h:=⟨ac _,ac _,fun _=> .inl rfl,id⟩
theorem bJ.trans {h h' xE:Hp}(a:bJ h h')(b:bJ h' xE):bJ h xE:=by
 refine⟨az a.1 b.1,az a.2 b.2,fun t=>?_,fun h=>b.4 (a.4 h)⟩;rcases b.3 t with c|⟨o,c,d⟩
 ·rw[c];exact a.3 t
 ·exact .inr ⟨o,c,Nat.lt_of_le_of_lt a.1 d⟩
theorem bJ.push (h:Hp)(o:Nat→di)(ho:(o (h.df+1)).st=h.df+1):bJ h (h.push o):=by
 refine⟨eK _,eK _,fun t=>?_,fun wf t ob ht=>?_⟩
 ·rw[Hp.dh];split
  ·exact .inr ⟨_,rfl,by rw[ho];omega⟩
  ·exact .inl rfl
 ·rw[Hp.dh]at ht;show t<h.next+1
  split at ht
  ·omega
  ·have:=wf t ob ht;omega
theorem bJ.put (h:Hp)(t:Nat)(o:Nat→di)(hg:∃o,h.get t=some o)(ho:(o (h.df+1)).st=h.df+1):bJ h (h.put t o):=by
 refine⟨eK _,ac _,fun t'=>?_,fun wf t' ob ht=>?_⟩
 ·rw[Hp.iY];split
  ·exact .inr ⟨_,rfl,by rw[ho];omega⟩
  ·exact .inl rfl
 ·rw[Hp.iY]at ht;show t'<h.next
  split at ht
  ·rename_i e;subst e;obtain⟨o1,h1⟩:=hg;exact wf _ o1 h1
  ·exact wf t' ob ht
theorem bJ.old {h0 h h':Hp}(a:bJ h0 h)(b:bJ h h'){t:Nat}(ho:old h' h0.df t=true):h.get t=h0.get t∧h'.get t=h0.get t∧∃o,h0.get t=some o:=by
 unfold Ae.old at ho;split at ho
 ·rename_i o hg;have hst:o.st≤h0.df:=jg ho
  have h1:h'.get t=h.get t:=by
   rcases b.3 t with c|⟨o',c,d⟩
   ·exact c
   ·rw[hg]at c;obtain rfl:=aa c;have:=a.1;omega
  have h2:h.get t=h0.get t:=by
   rcases a.3 t with c|⟨o',c,d⟩
   ·exact c
   ·rw[←h1,hg]at c;obtain rfl:=aa c;omega
  exact⟨h2,h1.trans h2,o,by rw[←h2,←h1,hg]⟩
 ·cases ho
theorem Cs {h h':Hp}{sz by_:Nat}{x y v:AV}(hr:kr h sz by_ x y=some (v,h')):bJ h h':=by
 unfold kr at hr;repeat' split at hr
 all_goals first
  |(cases hr;done)
  |(obtain⟨rfl,rfl⟩:=aj hr;exact bJ.refl _)
  |(obtain⟨rfl,rfl⟩:=aj hr;exact bJ.push _ _ rfl)
  |(obtain⟨rfl,rfl⟩:=aj hr;exact(bJ.put _ _ _ ⟨_,by assumption⟩ rfl).trans (bJ.push _ _ rfl))
theorem Ek {h h':Hp}{sz:Nat}{x v:AV}{lo hi:Option AV}(hr:El h sz x lo hi=some (v,h')):bJ h h':=by
 unfold El at hr;repeat' split at hr
 all_goals first
  |(cases hr;done)
  |(obtain⟨rfl,rfl⟩:=aj hr;exact bJ.refl _)
  |(obtain⟨rfl,rfl⟩:=aj hr;exact bJ.push _ _ rfl)
theorem Fj {a:ij}{ρ:bC→AV}{h h':Hp}{v:AV}(hr:mS a ρ h=some (v,h')):bJ h h':=by
 cases a<;>simp only[mS]at hr
 case app=>exact Cs hr
 case sl=>exact Ek hr
 case mc=>cases hr
 case hZ=>cases hr
 case inv=>cases hr
 case bad=>cases hr
 all_goals
  first
  |unfold HB at hr|unfold pA at hr|unfold qA at hr|unfold tU at hr|unfold kT at hr|unfold kz at hr|unfold pC at hr|unfold oL at hr|unfold oM at hr|unfold tV at hr
  |unfold Bx at hr|unfold tT at hr|unfold tS at hr|unfold By at hr|unfold za at hr|unfold zb at hr|unfold rZ at hr|unfold tN at hr|unfold pF at hr|unfold tQ at hr|unfold pE at hr
  |unfold mF at hr|unfold pD at hr|unfold tR at hr|unfold tP at hr|unfold yY at hr|unfold yZ at hr|unfold yW at hr|unfold yX at hr|unfold sP at hr|unfold pB at hr|unfold tO at hr
  try dsimp only at hr
  repeat' split at hr
  all_goals first
   |(cases hr;done)
   |(obtain⟨rfl,rfl⟩:=aj hr;exact bJ.refl _)
   |(obtain⟨rfl,rfl⟩:=aj hr;exact bJ.push _ _ rfl)
   |(obtain⟨rfl,rfl⟩:=aj hr;exact bJ.put _ _ _ ⟨_,by assumption⟩ rfl)
def gD (E:Env):Prop:=∀f p args h v h',E.dK f=some p→p args h=some (v,h')→bJ h h'
def ow (rec:Rec):Prop:=∀c s e s',rec c s=some (e,s')→bJ s.hp s'.hp
theorem om {E:Env}{rec:Rec}(hp:gD E)(kF:ow rec){f:Nat}{args:List AV}{h h':Hp}{v:AV}(hr:gK E rec f args h=some (v,h')):bJ h h':=by
 unfold gK at hr;repeat' split at hr
 all_goals first
  |(cases hr;done)
  |(obtain⟨rfl,rfl⟩:=aj hr;exact bJ.refl _)
  |exact hp _ _ _ _ _ _ (by assumption) hr
  |(obtain⟨rfl,rfl⟩:=aj hr;rename_i hh _ _ _;exact kF _ _ _ _ (by assumption))
theorem rr {E:Env}{rec:Rec}(hp:gD E)(kF:ow rec){a:ij}{s:St}{h':Hp}{v:AV}(hr:nd a E rec s=some (v,h')):bJ s.hp h':=by
 cases hc:a.calls with
 | false=>
  have:nd a E rec s=mS a (val s.tm) s.hp:=by cases a<;>first|(simp[ij.calls]at hc;done)|rfl
  rw[this]at hr;exact Fj hr
 | true=>
  cases a<;>simp[ij.calls]at hc<;>simp only[nd]at hr
  case mc=>exact om hp kF hr
  case hZ=>
   unfold kj at hr;split at hr
   ·exact om hp kF hr
   ·cases hr
  case inv=>
   unfold qz at hr;split at hr
   ·split at hr
    ·exact om hp kF hr
    ·cases hr
   ·cases hr
theorem Ba {E:Env}{rec:Rec}(hp:gD E)(kF:ow rec):ow (step E rec):=by
 intro c s e s' hr;unfold step at hr;cases c<;>simp only[Gt]at hr
 case skip=>obtain⟨rfl,rfl⟩:=aj hr;exact bJ.refl _
 case cG ops=>
  cases ops with
  |nil=>obtain⟨rfl,rfl⟩:=aj hr;exact bJ.refl _
  | cons o r=>
   simp only[GL]at hr;unfold kx at hr;split at hr
   ·unfold lB at hr;split at hr
    ·rename_i v h hh;exact(rr hp kF hh).trans (kF _ _ _ _ hr)
    ·cases hr
   ·have:=kF _ _ _ _ hr;exact this
 case cC ops=>exact kF _ _ _ _ hr
 case kH ops i c0 acc=>
  cases ops with
  |nil=>obtain⟨rfl,rfl⟩:=aj hr;exact bJ.refl _
  | cons o r=>
   simp only[Bf]at hr;unfold jk at hr;repeat' split at hr
   all_goals first
    |(cases hr;done)
    |(rename_i hh _ _ _ _ _;exact(rr hp kF (by assumption)).trans (kF _ _ _ _ hr))
    |(have:=kF _ _ _ _ hr;exact this)
 case seq a b=>
  unfold iT at hr;split at hr
  ·rename_i s1 h1;exact(kF _ _ _ _ h1).trans (kF _ _ _ _ hr)
  ·exact kF _ _ _ _ hr
 case cond x a b=>
  unfold iq at hr;split at hr
  ·exact kF _ _ _ _ hr
  ·exact kF _ _ _ _ hr
  ·cases hr
 case block id c=>
  unfold fF at hr;repeat' split at hr
  all_goals first
   |(obtain⟨rfl,rfl⟩:=aj hr;exact kF _ _ _ _ (by assumption))
   |exact kF _ _ _ _ hr
 case loop c=>
  unfold io at hr;split at hr
  ·rename_i s1 h1;exact(kF _ _ _ _ h1).trans (kF _ _ _ _ hr)
  ·exact kF _ _ _ _ hr
 case exit id=>obtain⟨rfl,rfl⟩:=aj hr;exact bJ.refl _
 case ret=>obtain⟨rfl,rfl⟩:=aj hr;exact bJ.refl _
 case bad=>cases hr
theorem uy {E:Env}(hp:gD E):∀n,ow (exec E n)
 |0=>fun c s e s' hr=>by cases hr
 | n+1=>by
  have:=Ba hp (uy hp n);intro c s e s' hr;exact this c s e s' (by rw[←aN];exact hr)
def wQ (a b:Rec):Prop:=∀c s r,a c s=some r→b c s=some r
theorem kL {E:Env}{a b:Rec}(hab:wQ a b){f:Nat}{args:List AV}{h:Hp}{r:AV×Hp}(hr:gK E a f args h=some r):gK E b f args h=some r:=by
 unfold gK at hr⊢;split at hr
 ·rename_i e he;try simp only[he]at hr⊢
  exact hr
 ·rename_i he
  try simp only[he]
  split at hr
  ·rename_i p hp;try simp only[hp]
   exact hr
  ·rename_i hp
   try simp only[hp]
   split at hr
   ·cases hr
   ·rename_i fn hf
    try simp only[hf]
    split at hr
    ·cases hr
    ·rename_i e s hne hx;rw[hab _ _ _ hx];cases e with
     |exit i=>exact absurd rfl (hne i)
     |fW=>exact hr
     |ret=>exact hr
    ·cases hr
theorem qw {E:Env}{a b:Rec}(hab:wQ a b){o:ij}{s:St}{r:AV×Hp}(hr:nd o E a s=some r):nd o E b s=some r:=by
 cases o<;>simp only[nd]at hr⊢<;>first|exact hr|skip
 case mc=>exact kL hab hr
 case hZ=>
  unfold kj at hr⊢;split at hr
  ·exact kL hab hr
  ·cases hr
 case inv=>
  unfold qz at hr⊢;split at hr
  ·split at hr
   ·rename_i hm;try simp only[hm]
    exact kL hab hr
   ·cases hr
  ·cases hr
theorem Ej {E:Env}{a b:Rec}(hab:wQ a b):wQ (step E a) (step E b):=by
 intro c s r hr;unfold step at hr⊢;cases c<;>simp only[Gt]at hr⊢<;>first|exact hr|skip
 case cG ops=>
  cases ops with
  |nil=>exact hr
  | cons o l=>
   simp only[GL]at hr⊢;unfold kx at hr⊢;split at hr
   ·unfold lB at hr⊢;split at hr
    ·rename_i hop;rw[qw hab hop];exact hab _ _ _ hr
    ·cases hr
   ·exact hab _ _ _ hr
 case cC ops=>exact hab _ _ _ hr
 case kH ops i c0 acc=>
  cases ops with
  |nil=>exact hr
  | cons o l=>
   simp only[Bf]at hr⊢;unfold jk at hr⊢;split at hr
   ·rename_i hw;split at hr
    ·rename_i v h hop;rw[qw hab hop];simp only;split at hr
     ·rename_i acc' hn
      try simp only[hn]
      split at hr
      ·rename_i ha;try simp only[ha]
       exact hab _ _ _ hr
      ·cases hr
     ·cases hr
    ·cases hr
   ·rename_i hw;split at hr
    ·rename_i ha;exact hab _ _ _ hr
    ·cases hr
 case seq x y=>
  unfold iT at hr⊢;split at hr
  ·rename_i s1 h1;rw[hab _ _ _ h1];exact hab _ _ _ hr
  ·rename_i hne;rw[hab _ _ _ hr];obtain⟨e,s'⟩:=r;cases e<;>first|rfl|exact absurd hr (hne _)
 case cond x y z=>
  unfold iq at hr⊢;split at hr
  ·exact hab _ _ _ hr
  ·exact hab _ _ _ hr
  ·cases hr
 case block id c=>
  unfold fF at hr⊢;split at hr
  ·rename_i i s1 h1;rw[hab _ _ _ h1];exact hr
  ·rename_i hne;rw[hab _ _ _ hr];obtain⟨e,s'⟩:=r;cases e<;>first|rfl|exact absurd hr (hne _ _)
 case loop c=>
  unfold io at hr⊢;split at hr
  ·rename_i s1 h1;rw[hab _ _ _ h1];exact hab _ _ _ hr
  ·rename_i hne;rw[hab _ _ _ hr];obtain⟨e,s'⟩:=r;cases e<;>first|rfl|exact absurd hr (hne _)
theorem ux {E:Env}:∀n,wQ (exec E n) (exec E (n+1))
 |0=>fun c s r hr=>by cases hr
 | n+1=>by
  have:=Ej (E:=E) (a:=exec E n) (b:=exec E (n+1)) (ux n);intro c s r hr;rw[aN]at hr⊢;exact this c s r hr
theorem gY {E:Env}{n m:Nat}(h:n≤m):wQ (exec E n) (exec E m):=by
 induction h with
 |refl=>exact fun _ _ _ hr=>hr
 |step _ ih=>exact fun c s r hr=>ux _ c s r (ih c s r hr)
def dR (E:Env)(c:ap)(s:St)(e:Ex)(s':St):Prop:=∃n,exec E n c s=some (e,s')
def dJ (E:Env)(f:Nat)(args:List AV)(h:Hp)(v:AV)(h':Hp):Prop:=∃n,call E n f args h=some (v,h')
def uV (E:Env)(o:ij)(s:St)(v:AV)(h':Hp):Prop:=∃n,nd o E (exec E n) s=some (v,h')
section
variable {E:Env}{s s' s1:St}{e:Ex}{h h':Hp}{v:AV}
theorem uV.plain {o:ij}(hc:mS o (val s.tm) s.hp=some (v,h'))(hn:o.calls=false):uV E o s v h':=
  ⟨0, by have:nd o E (exec E 0) s=mS o (val s.tm) s.hp:=by cases o<;>first|(simp[ij.calls]at hn;done)|rfl
         rw[this];exact hc⟩
theorem uV.hZ {x:bC}{f:Nat}{cap:List AV}{args:List bC}(hx:val s.tm x= .fn f cap)(hc:dJ E f (args.map (val s.tm)++cap) s.hp v h'):uV E (.hZ x args) s v h':=by
 obtain⟨n,hn⟩:=hc;exact⟨n,by simp only[nd,kj,hx];exact hn⟩
theorem uV.inv {x:bC}{T f:Nat}{u:AV}{name:String}{args:List bC}(hx:val s.tm x= .rE T u)(hm:E.gO T name=some f)(hc:dJ E f (u::args.map (val s.tm)) s.hp v h'):uV E (.inv x name args) s v h':=by
 obtain⟨n,hn⟩:=hc;exact⟨n,by simp only[nd,qz,hx,hm];exact hn⟩
theorem dR.skip:dR E .skip s .fW s:=⟨1,by rw[aN];rfl⟩
theorem dR.ret:dR E .ret s .ret s:=⟨1,by rw[aN];rfl⟩
theorem dR.exit (id:Nat):dR E (.exit id) s (.exit id) s:=⟨1,by rw[aN];rfl⟩
theorem dR.nil:dR E (.cG []) s .fW s:=⟨1,by rw[aN];rfl⟩
theorem dR.op {o:aF}{r:List aF}(hw:wanted s.tm o.qf=true)(ho:uV E o.op s v h')(hr:dR E (.cG r) { tm:=put s.tm o.dst v,hp:=h' } e s'):dR E (.cG (o::r)) s e s':=by
 obtain⟨n,hn⟩:=ho;obtain⟨m,hm⟩:=hr;refine⟨max n m+1,?_⟩;rw[aN];show kx o r E (exec E (max n m)) s=_
 unfold kx;rw[hw,qw (gY (qb n m)) hn];exact gY (oY n m) _ _ _ hm
theorem dR.Pg {o:aF}{r:List aF}(hw:wanted s.tm o.qf=false)(hr:dR E (.cG r) { tm:=put s.tm o.dst jO,hp:=s.hp } e s'):dR E (.cG (o::r)) s e s':=by
 obtain⟨m,hm⟩:=hr;refine⟨m+1,?_⟩;rw[aN];show kx o r E (exec E m) s=_
 unfold kx;rw[hw];exact hm
theorem dR.seq {a b:ap}(h1:dR E a s .fW s1)(h2:dR E b s1 e s'):dR E (.seq a b) s e s':=by
 obtain⟨n,hn⟩:=h1;obtain⟨m,hm⟩:=h2;refine⟨max n m+1,?_⟩;rw[aN];show iT a b E (exec E (max n m)) s=_
 unfold iT;rw[gY (qb n m) _ _ _ hn];exact gY (oY n m) _ _ _ hm
theorem dR.C7 {a b:ap}(h1:dR E a s e s')(he:e≠ .fW):dR E (.seq a b) s e s':=by
 obtain⟨n,hn⟩:=h1;refine⟨n+1,?_⟩;rw[aN];show iT a b E (exec E n) s=_
 unfold iT;rw[hn];cases e<;>first|rfl|exact absurd rfl he
theorem dR.cond {x:bC}{a b:ap}(t:Bool)(hx:val s.tm x= .bool t)(h1:t=true→dR E a s e s')(h2:t=false→dR E b s e s'):dR E (.cond x a b) s e s':=by
 cases t with
 | true=>
  obtain⟨n,hn⟩:=h1 rfl;refine⟨n+1,?_⟩;rw[aN];show iq x a b E (exec E n) s=_
  unfold iq;rw[hx];exact hn
 | false=>
  obtain⟨n,hn⟩:=h2 rfl;refine⟨n+1,?_⟩;rw[aN];show iq x a b E (exec E n) s=_
  unfold iq;rw[hx];exact hn
theorem dR.block {id:Nat}{c:ap}(h1:dR E c s e s')(he:∀i,e≠ .exit i):dR E (.block id c) s e s':=by
 obtain⟨n,hn⟩:=h1;refine⟨n+1,?_⟩;rw[aN];show fF id c E (exec E n) s=_
 unfold fF;rw[hn];cases e<;>first|rfl|exact absurd rfl (he _)
theorem dR.Cm {id:Nat}{c:ap}(h1:dR E c s (.exit id) s'):dR E (.block id c) s .fW s':=by
 obtain⟨n,hn⟩:=h1;refine⟨n+1,?_⟩;rw[aN];show fF id c E (exec E n) s=_
 unfold fF;rw[hn];simp
theorem dR.Fh {id i:Nat}{c:ap}(h1:dR E c s (.exit i) s')(hi:i≠id):dR E (.block id c) s (.exit i) s':=by
 obtain⟨n,hn⟩:=h1;refine⟨n+1,?_⟩;rw[aN];show fF id c E (exec E n) s=_
 unfold fF;rw[hn]
 have:bG i id=false:=by
  cases hb:bG i id with
  |false=>rfl
  |true=>exact absurd (Nat.eq_of_beq_eq_true hb) hi
 simp only[this]
theorem dR.loop {c:ap}(h1:dR E c s .fW s1)(h2:dR E (.loop c) s1 e s'):dR E (.loop c) s e s':=by
 obtain⟨n,hn⟩:=h1;obtain⟨m,hm⟩:=h2;refine⟨max n m+1,?_⟩;rw[aN];show io c E (exec E (max n m)) s=_
 unfold io;rw[gY (qb n m) _ _ _ hn];exact gY (oY n m) _ _ _ hm
theorem dR.qD {c:ap}(h1:dR E c s e s')(he:e≠ .fW):dR E (.loop c) s e s':=by
 obtain⟨n,hn⟩:=h1;refine⟨n+1,?_⟩;rw[aN];show io c E (exec E n) s=_
 unfold io;rw[hn];cases e<;>first|rfl|exact absurd rfl he
theorem dJ.fn {f:Nat}{fn:cP}{args:List AV}(he:E.exts f=none)(hp:E.dK f=none)(hf:E.fns f=some fn)(hr:dR E fn.code { tm:=iA args 0 .nil,hp:=h } e s')(hne:∀i,e≠ .exit i)(hv:eD s' fn.res=some v):dJ E f args h v s'.hp:=by
 obtain⟨n,hn⟩:=hr;refine⟨n,?_⟩;unfold call gK;simp only[he,hp,hf,hn];cases e with
 |exit i=>exact absurd rfl (hne i)
 |fW=>show(match eD s' fn.res with|some v=>some (v,s'.hp)|none=>none)=_;rw[hv]
 |ret=>show(match eD s' fn.res with|some v=>some (v,s'.hp)|none=>none)=_;rw[hv]
theorem dJ.Pc {f:Nat}{p:Prim}{args:List AV}(he:E.exts f=none)(hp:E.dK f=some p)(hv:p args h=some (v,h')):dJ E f args h v h':=
 ⟨0,by unfold call gK;simp only[he,hp,hv]⟩
theorem dJ.ext {f:Nat}{p:List AV→Option AV}{args:List AV}(he:E.exts f=some p)(hv:p args=some v):dJ E f args h v h:=
 ⟨0,by unfold call gK;simp only[he,hv]⟩
end
def Wp (E:Env)(c:ap)(s:St)(Q:Ex→St→Prop):Prop:=∃e s',dR E c s e s'∧Q e s'
def uW (E:Env)(b:ap)(Q:Ex→St→Prop):Ex→St→Prop
 | .fW,s=>Wp E b s Q
 |e,s=>Q e s
def oW (id:Nat)(Q:Ex→St→Prop):Ex→St→Prop
 | .exit i,s=>if i=id then Q .fW s else Q (.exit i) s
 |e,s=>Q e s
def eT (rs:List qU)(K:AV→Hp→Prop):Ex→St→Prop
 | .exit _,_=>False
 | _,s=>match eD s rs with
  |some v=>K v s.hp
  |none=>False
def cm (E:Env)(o:ij)(s:St)(K:AV→Hp→Prop):Prop:=∃v h',uV E o s v h'∧K v h'
def ae (E:Env)(f:Nat)(args:List AV)(h:Hp)(K:AV→Hp→Prop):Prop:=∃v h',dJ E f args h v h'∧K v h'
def eW (r:Option (AV×Hp))(K:AV→Hp→Prop):Prop:=
 match r with
 |some (v,h)=>K v h
 |none=>False
section
variable {E:Env}{s s' s1:St}{e:Ex}{h h':Hp}{v:AV}{Q Q':Ex→St→Prop}{K:AV→Hp→Prop}
theorem Wp.mono {c:ap}(h:Wp E c s Q)(hq:∀e s,Q e s→Q' e s):Wp E c s Q':=by
 obtain⟨e,s',h1,h2⟩:=h;exact⟨e,s',h1,hq _ _ h2⟩
theorem ae.mono {f:Nat}{args:List AV}{K':AV→Hp→Prop}(h0:ae E f args h K)(hq:∀v h,K v h→K' v h):ae E f args h K':=by
 obtain⟨v,h',h1,h2⟩:=h0;exact⟨v,h',h1,hq _ _ h2⟩
theorem Wp.skip (hq:Q .fW s):Wp E .skip s Q:=⟨_,_,dR.skip,hq⟩
theorem Wp.ret (hq:Q .ret s):Wp E .ret s Q:=⟨_,_,dR.ret,hq⟩
theorem Wp.exit {id:Nat}(hq:Q (.exit id) s):Wp E (.exit id) s Q:=⟨_,_,dR.exit id,hq⟩
theorem Wp.nil (hq:Q .fW s):Wp E (.cG []) s Q:=⟨_,_,dR.nil,hq⟩
theorem Wp.seq {a b:ap}(hw:Wp E a s (uW E b Q)):Wp E (.seq a b) s Q:=by
 obtain⟨e,s1,h1,h2⟩:=hw;cases e with
 | fW=>
  obtain⟨e2,s2,h3,h4⟩:=h2;exact⟨_,_,dR.seq h1 h3,h4⟩
 |exit i=>exact⟨_,_,dR.C7 h1 (by simp),h2⟩
 |ret=>exact⟨_,_,dR.C7 h1 (by simp),h2⟩
theorem Wp.block {id:Nat}{c:ap}(hw:Wp E c s (oW id Q)):Wp E (.block id c) s Q:=by
 obtain⟨e,s1,h1,h2⟩:=hw;cases e with
 |fW=>exact⟨_,_,dR.block h1 (by simp),h2⟩
 | exit i=>
  simp only[oW]at h2;by_cases hi:i=id
  ·subst hi;rw[if_pos rfl]at h2;exact⟨_,_,dR.Cm h1,h2⟩
  ·rw[if_neg hi]at h2;exact⟨_,_,dR.Fh h1 hi,h2⟩
 |ret=>exact⟨_,_,dR.block h1 (by simp),h2⟩
theorem Wp.cond {x:bC}{a b:ap}(t:Bool)(hx:val s.tm x= .bool t)(h1:t=true→Wp E a s Q)(h2:t=false→Wp E b s Q):Wp E (.cond x a b) s Q:=by
 cases t with
 |true=>obtain⟨e,s1,h3,h4⟩:=h1 rfl;exact⟨_,_,dR.cond true hx (fun _=>h3) nofun,h4⟩
 |false=>obtain⟨e,s1,h3,h4⟩:=h2 rfl;exact⟨_,_,dR.cond false hx nofun (fun _=>h3),h4⟩
theorem Wp.loop {c:ap}(I:Nat→St→Prop){n:Nat}(h0:I n s)(round:∀n s,I n s→Wp E c s fun e s'=>match e with
  | .fW=>∃m,m<n∧I m s'
  |e=>Q e s'):Wp E (.loop c) s Q:=by
 induction n using Nat.strongRecOn generalizing s with
 | _ n ih=>
  obtain⟨e,s1,h1,h2⟩:=round n s h0;cases e with
  | fW=>
   obtain⟨m,hm,hI⟩:=h2;obtain⟨e2,s2,h3,h4⟩:=ih m hm hI;exact⟨_,_,dR.loop h1 h3,h4⟩
  |exit i=>exact⟨_,_,dR.qD h1 (by simp),h2⟩
  |ret=>exact⟨_,_,dR.qD h1 (by simp),h2⟩
theorem Wp.op {o:aF}{r:List aF}(hw:wanted s.tm o.qf=true)(ho:cm E o.op s fun v h=>Wp E (.cG r) { tm:=put s.tm o.dst v,hp:=h } Q):Wp E (.cG (o::r)) s Q:=by
 obtain⟨v,h',h1,e,s',h2,h3⟩:=ho;exact⟨_,_,dR.op hw h1 h2,h3⟩
theorem Wp.Pg {o:aF}{r:List aF}(hw:wanted s.tm o.qf=false)(ho:Wp E (.cG r) { tm:=put s.tm o.dst jO,hp:=s.hp } Q):Wp E (.cG (o::r)) s Q:=by
 obtain⟨e,s',h2,h3⟩:=ho;exact⟨_,_,dR.Pg hw h2,h3⟩
theorem cm.plain {o:ij}(hn:o.calls=false)(hk:eW (mS o (val s.tm) s.hp) K):cm E o s K:=by
 unfold eW at hk;split at hk
 ·rename_i v h' he;exact⟨v,h',uV.plain he hn,hk⟩
 ·exact hk.elim
theorem cm.hZ {x:bC}{f:Nat}{cap:List AV}{args:List bC}(hx:val s.tm x= .fn f cap)(hk:ae E f (args.map (val s.tm)++cap) s.hp K):cm E (.hZ x args) s K:=by
 obtain⟨v,h',h1,h2⟩:=hk;exact⟨v,h',uV.hZ hx h1,h2⟩
theorem cm.inv {x:bC}{T f:Nat}{u:AV}{name:String}{args:List bC}(hx:val s.tm x= .rE T u)(hm:E.gO T name=some f)(hk:ae E f (u::args.map (val s.tm)) s.hp K):cm E (.inv x name args) s K:=by
 obtain⟨v,h',h1,h2⟩:=hk;exact⟨v,h',uV.inv hx hm h1,h2⟩
theorem ae.fn {f:Nat}{fn:cP}{args:List AV}(he:E.exts f=none)(hp:E.dK f=none)(hf:E.fns f=some fn)(hw:Wp E fn.code { tm:=iA args 0 .nil,hp:=h } (eT fn.res K)):ae E f args h K:=by
 obtain⟨e,s',h1,h2⟩:=hw;cases e with
 |exit i=>exact h2.elim
 | fW=>
  simp only[eT]at h2;split at h2
  ·rename_i v hv;exact⟨_,_,dJ.fn he hp hf h1 (by simp) hv,h2⟩
  ·exact h2.elim
 | ret=>
  simp only[eT]at h2;split at h2
  ·rename_i v hv;exact⟨_,_,dJ.fn he hp hf h1 (by simp) hv,h2⟩
  ·exact h2.elim
theorem ae.Pc {f:Nat}{p:Prim}{args:List AV}(he:E.exts f=none)(hp:E.dK f=some p)(hv:eW (p args h) K):ae E f args h K:=by
 unfold eW at hv;split at hv
 ·rename_i v h' e;exact⟨v,h',dJ.Pc he hp e,hv⟩
 ·exact hv.elim
theorem ae.ext {f:Nat}{p:List AV→Option AV}{args:List AV}(he:E.exts f=some p)(hv:p args=some v)(hk:K v h):ae E f args h K:=
 ⟨v,h,dJ.ext he hv,hk⟩
end
section
variable {E:Env}{s s' s1:St}{e:Ex}{h h':Hp}{v:AV}{Q Q':Ex→St→Prop}{K:AV→Hp→Prop}
theorem Wp.cC {ops:List aF}(hw:Wp E (.kH ops 0 s.hp.df []) s Q):Wp E (.cC ops) s Q:=by
 obtain⟨e,s',⟨n,hn⟩,h2⟩:=hw;exact⟨e,s',⟨n+1,by rw[aN];exact hn⟩,h2⟩
theorem Wp.XW {i c0:Nat}{acc:List (Nat×Nat)}(hq:Q .fW s):Wp E (.kH [] i c0 acc) s Q:=⟨.fW,s,⟨1,by rw[aN];rfl⟩,hq⟩
theorem Wp.dop {o:aF}{r:List aF}{i c0:Nat}{acc acc':List (Nat×Nat)}(hw:wanted s.tm o.qf=true)(sc:nM s o acc=some acc')
  (ho:cm E o.op s fun v h=>acc'.all (fresh h c0 i)=true∧Wp E (.kH r (i+1) c0 acc') { tm:=put s.tm o.dst v,hp:=h } Q):Wp E (.kH (o::r) i c0 acc) s Q:=by
 obtain⟨v,h',⟨n,hn⟩,hf,e,s',⟨m,hm⟩,h3⟩:=ho;refine⟨e,s',⟨max n m+1,?_⟩,h3⟩;rw[aN];show jk o r i c0 acc E (exec E (max n m)) s=_
 unfold jk;rw[hw,qw (gY (qb n m)) hn];simp only[sc,hf];exact gY (oY n m) _ _ _ hm
theorem Wp.Tw {o:aF}{r:List aF}{i c0:Nat}{acc:List (Nat×Nat)}(hw:wanted s.tm o.qf=false)(hf:acc.all (fresh s.hp c0 i)=true)
  (ho:Wp E (.kH r (i+1) c0 acc) { tm:=put s.tm o.dst jO,hp:=s.hp } Q):Wp E (.kH (o::r) i c0 acc) s Q:=by
 obtain⟨e,s',⟨m,hm⟩,h3⟩:=ho;refine⟨e,s',⟨m+1,?_⟩,h3⟩;rw[aN];show jk o r i c0 acc E (exec E m) s=_
 unfold jk;rw[hw,hf];exact hm
def QX (h:Hp):Prop:=∀t o,h.get t=some o→o.st≤h.df
theorem QX.push {o:Nat→di}(hc:QX h)(ho:(o (h.df+1)).st=h.df+1):QX (h.push o):=by
 intro t ob ht;rw[Hp.dh]at ht;show ob.st≤h.df+1
 split at ht
 ·obtain rfl:=aa ht;omega
 ·have:=hc t ob ht;omega
theorem QX.put {t:Nat}{o:Nat→di}(hc:QX h)(ho:(o (h.df+1)).st=h.df+1):QX (h.put t o):=by
 intro t' ob ht;rw[Hp.iY]at ht;show ob.st≤h.df+1
 split at ht
 ·obtain rfl:=aa ht;omega
 ·have:=hc t' ob ht;omega
end
end Go.Ae
