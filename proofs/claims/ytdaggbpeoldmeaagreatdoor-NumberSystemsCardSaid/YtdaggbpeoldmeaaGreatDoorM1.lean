/- The abstract evaluator: values by token, a heap without addresses, no tape. Definitions alone. -/
import Derived.Calls
import Derived.Deep.MidRow
import Derived.Deep.AppendSrc
import Derived.Below
import Derived.Laws.StructEq
import Derived.Deep.Upon
import Derived.MapKept
import Derived.Orders
open Array renaming getElem?_eq_none → jT, length_toList → fN, map → qJ, ext' → oM, range → pV, toList_inj → eV, getElem?_setIfInBounds → wF
open Bool renaming eq_iff_iff → mI, false_eq_true → bZ, and_eq_true → bz, false_or → lm
open ByteArray.toList renaming loop → ll
open Go.RowKit renaming Below → bl
open Int renaming ofNat_eq_natCast → fj
open List renaming map_congr_left → bJ, getElem?_eq_getElem → aI, getElem?_append_left → cB, getElem?_eq_some_iff → aZ, getElem?_append_right → eP, length_take → az, getElem?_drop → iW, mem_append → dR, mem_of_mem_take → fE, mem_of_mem_drop → iJ, getElem?_map → bK, mem_cons → fv, mem_of_getElem? → dh, getElem?_take → gi, drop_take → qI, map_drop → rZ, map_take → rY, all_cons → iO, map_cons → eH, length_cons → ap, ext_getElem? → Au, length_append → ar, mem_map → iV, eq_nil_of_length_eq_zero → wC
open List.cons renaming injEq → iT
open Nat renaming pred → uS, div → uU, beq → bu, ble → pU, blt → gV, mod_two_eq_zero_or_one → lY, pred_eq_sub_one → rX, le_of_ble_eq_true → iU, blt_eq → ji, lt_or_ge → aQ, le_refl → ae, le_trans → aB, lt_of_lt_of_le → ah, le_succ → ee, add_assoc → dz, add_zero → aY, add_mul → bh, div_add_mod → cE, mul_comm → aA, mul_le_mul_right → aM, zero_add → dd, le_max_left → sM, le_max_right → rI
open Option renaming isSome_iff_exists → Ap, map_some → cJ, isNone_none → jg, isNone_some → jf
open Option.some renaming inj → aa
set_option linter.unusedVariables false
namespace Go.Ae
inductive T (α:Type) where
 |nil
 |node (l:T α) (v:Option α) (r:T α)
noncomputable def lit {α:Type}(n:Nat)(k:Nat→α):α:=Nat.rec (k (nat_lit 0)) (fun m _=>k (Nat.succ m)) n
noncomputable def T.get {α:Type}(t:T α):Nat→Option α:=
 T.rec (fun _=>none) (fun _ v _ ihl ihr n=>Bool.rec (Bool.rec (ihr (uS (uU n (nat_lit 2)))) (ihl (uU n (nat_lit 2))) (bu (Nat.mod n (nat_lit 2)) (nat_lit 1))) v (bu n (nat_lit 0))) t
noncomputable def T.ins {α:Type}(x:α)(d:Nat):T α→Nat→T α:=
 Nat.rec (fun t _=>t) (fun _ ih t n=>T.rec
  (Bool.rec (Bool.rec (.node .nil none (ih .nil (uS (uU n (nat_lit 2))))) (.node (ih .nil (uU n (nat_lit 2))) none .nil) (bu (Nat.mod n (nat_lit 2)) (nat_lit 1))) (.node .nil (some x) .nil) (bu n (nat_lit 0)))
  (fun l v r _ _=>Bool.rec (Bool.rec (.node l v (ih r (uS (uU n (nat_lit 2))))) (.node (ih l (uU n (nat_lit 2))) v r) (bu (Nat.mod n (nat_lit 2)) (nat_lit 1))) (.node l (some x) r) (bu n (nat_lit 0))) t) d
noncomputable def T.set {α:Type}(t:T α)(n:Nat)(x:α):T α:=lit n fun n=>T.ins x (Nat.succ n) t n
noncomputable section
inductive AV where
 |int (k:IntKind) (n:Int)
 |bool (b:Bool)
 |str (s:List UInt8)
 |ptr (t o:Nat)
 |py
 |sl (t o n z:Nat)
 |aq
 |HW (b o:Nat) (s:Option Nat) (c:Nat)
 |fn (f:Nat) (cap:List AV)
 |kg
 |qZ (T:Nat) (v:AV)
 |jD
 |map (t:Nat)
 |qW
 |agg (l:List AV)
 |fO (l:List AV)
 deriving Inhabited
abbrev jC:AV:= .fO []
def AV.cells:AV→List AV
 | .agg l=>l
 |v=>[v]
def AV.one:AV→Bool
 | .agg _| .fO _=>false
 |_=>true
inductive cP where
 |row (cells:List AV) (own:Bool) (st:Nat)
 |dead (st:Nat)
 |lF (s:List UInt8) (pos:Nat) (st:Nat)
 |kx (es:List (AV×AV)) (st:Nat)
def cP.st:cP→Nat
 | .row _ _ s| .dead s| .lF _ _ s| .kx _ s=>s
structure Hp where
 next:Nat
 dc:Nat
 tr:T cP
def Hp.get (h:Hp)(t:Nat):Option cP:=h.tr.get t
def Hp.push (h:Hp)(o:Nat→cP):Hp:={ next:=h.next+1,dc:=h.dc+1,tr:=h.tr.set h.next (o (h.dc+1)) }
def Hp.put (h:Hp)(t:Nat)(o:Nat→cP):Hp:={ next:=h.next,dc:=h.dc+1,tr:=h.tr.set t (o (h.dc+1)) }
inductive bp where
 |t (n:Nat)
 |k (v:AV)
inductive LK where
 |int|bool|str
inductive mO where
 |none|bool|ptr|slice|map|func|iface|plain (ls:List (Nat×LK))
inductive IK where
 |str|slice|map|arr (n:Nat)
inductive gM where
 |mv (x:bp)
 |pick (c a b:bp)
 |alloc (z:List AV)
 |box (x:bp)
 |build (z:List AV) (ps:List (Nat×Nat×bp))
 |cL (sz n:Nat) (z:List AV) (ps:List (Nat×Nat×bp))
 |Az (sz n:Nat) (z:List AV) (ps:List (Nat×Nat×bp))
 |load (agg:Bool) (n:Nat) (x:bp)
 |store (n:Nat) (x y:bp)
 |yR (x:bp)
 |bin (op:BinOp) (q:mO) (x y:bp)
 |un (op:UnOp) (x:bp)
 |sJ (k:IntKind) (x:bp)
 |PO (x:bp)
 |Pc (x:bp)
 |ER (T:Nat) (x:bp)
 |Og (f:Nat) (cs:List bp)
 |uN (sz bytes:Nat) (z:List AV) (l c:bp)
 |qO (x:bp) (lo hi:Option bp)
 |sl (sz:Nat) (x:bp) (lo hi:Option bp)
 |jk (off:Nat) (x:bp)
 |xT (agg:Bool) (off n:Nat) (x:bp)
 |iG (sz:Nat) (x i:bp)
 |vN (sz len:Nat) (x i:bp)
 |idxs (x i:bp)
 |ext (x:bp) (i:Nat)
 |len (q:IK) (x:bp)
 |app (sz bytes:Nat) (x y:bp)
 |mx (xs:List bp)
 |mn (xs:List bp)
 |lO (f:Nat) (args:List bp)
 |gQ (x:bp) (args:List bp)
 |inv (x:bp) (name:String) (args:List bp)
 |TL (x:bp)
 |TN (x:bp)
 |vF
 |yS (m k v:bp)
 |Ok (m k:bp) (z:AV) (ok:Bool)
 |bad
structure aC where
 dst:Option Nat
 op:gM
 qq:Option (Nat×Bool)
 lE:Option Nat
inductive au where
 |skip
 |cx (ops:List aC)
 |cm (ops:List aC)
 |kq (ops:List aC) (i c0:Nat) (acc:List (Nat×Nat))
 |seq (a b:au)
 |cond (x:bp) (a b:au)
 |block (id:Nat) (c:au)
 |loop (c:au)
 |exit (id:Nat)
 |ret
 |bad
inductive rH where
 |tmp (t:Nat)
 |cell (t:Nat) (agg:Bool) (n:Nat)
structure cy where
 ntmps:Nat
 res:List rH
 code:au
abbrev Prim:=List AV→Hp→Option (AV×Hp)
structure Env where
 fns:Nat→Option cy
 dG:Nat→Option Prim
 exts:Nat→Option (List AV→Option AV)
 gF:Nat→String→Option Nat
structure St where
 tm:T AV
 hp:Hp
def val (tm:T AV):bp→AV
 | .t n=>(tm.get n).getD jC
 | .k v=>v
def put (tm:T AV)(d:Option Nat)(v:AV):T AV:=
 match d with
 |some d=>tm.set d v
 |none=>tm
def dU (cells:List AV)(off:Nat)(vs:List AV):List AV:=cells.take off++(vs++cells.drop (off+vs.length))
def ja (cells:List AV):List (Nat×Nat×AV)→Option (List AV)
 |[]=>some cells
 | (off,n,v)::rest=>
  if v.cells.length=n∧off+n≤cells.length∧v.cells.all AV.one=true then ja (dU cells off v.cells) rest else none
def JW {α:Type}(n:Int)(k:Int→α):α:=Int.rec (fun m=>lit m fun m=>k (.ofNat m)) (fun m=>lit m fun m=>k (.negSucc m)) n
def Pq (x y:Int):Int:=Int.rec (fun m=>Int.rec (fun n=> .ofNat (Nat.add m n)) (fun _=>Int.add x y) y) (fun _=>Int.add x y) x
def Jl (x y:Int):Int:=Int.rec (fun m=>Int.rec (fun n=>Bool.rec (Int.sub x y) (.ofNat (Nat.sub m n)) (pU n m)) (fun _=>Int.sub x y) y) (fun _=>Int.sub x y) x
def Of (x y:Int):Int:=Int.rec (fun m=>Int.rec (fun n=> .ofNat (Nat.mul m n)) (fun _=>Int.mul x y) y) (fun _=>Int.mul x y) x
def NT (x y:Int):Int:=Int.rec (fun m=>Int.rec (fun n=> .ofNat (uU m n)) (fun _=>Int.tdiv x y) y) (fun _=>Int.tdiv x y) x
def NO (x y:Int):Int:=Int.rec (fun m=>Int.rec (fun n=> .ofNat (Nat.mod m n)) (fun _=>Int.tmod x y) y) (fun _=>Int.tmod x y) x
def OQ (x y:Int):Bool:=Int.rec (fun m=>Int.rec (fun n=>bu m n) (fun _=>false) y) (fun m=>Int.rec (fun _=>false) (fun n=>bu m n) y) x
def PA (x y:Int):Bool:=Int.rec (fun m=>Int.rec (fun n=>gV m n) (fun _=>false) y) (fun m=>Int.rec (fun _=>true) (fun n=>gV n m) y) x
def TP (x y:Int):Bool:=Int.rec (fun m=>Int.rec (fun n=>pU m n) (fun _=>false) y) (fun m=>Int.rec (fun _=>true) (fun n=>pU n m) y) x
def pB:IntKind→Nat
 | .i8=>128| .i16=>32768| .i32=>2147483648| .i64=>9223372036854775808| .u8=>256| .u16=>65536| .u32=>4294967296| .u64=>18446744073709551616
def Qe:IntKind→Bool
 | .i8| .i16| .i32| .i64=>true
 |_=>false
def vp (k:IntKind)(n:Int):Int:=Int.rec (fun m=>Bool.rec (k.wrap n) n (gV m (pB k))) (fun m=>Bool.rec (k.wrap n) (Bool.rec (k.wrap n) n (gV m (pB k))) (Qe k)) n
def mkInt (k:IntKind)(n:Int):Option AV:=JW (vp k n) fun n=>some (.int k n)
def wm (op:BinOp)(k:IntKind)(x y:Int):Option AV:=
 let a:=BitVec.ofInt k.bits x
 let b:=BitVec.ofInt k.bits y
 match op with
 | .and=>some (.int k (k.wrap (a&&&b).toNat))
 | .or=>some (.int k (k.wrap (a|||b).toNat))
 | .xor=>some (.int k (k.wrap (a^^^b).toNat))
 | .andNot=>some (.int k (k.wrap (a&&& ~~~b).toNat))
 |_=>none
def ki (op:BinOp)(k:IntKind)(x y:Int):Option AV:=
  match op with
  | .add=>mkInt k (Pq x y)
  | .sub=>mkInt k (Jl x y)
  | .mul=>mkInt k (Of x y)
  | .quo=>Bool.rec (mkInt k (NT x y)) none (OQ y 0)
  | .rem=>Bool.rec (JW (NO x y) fun n=>some (.int k n)) none (OQ y 0)
  | .eql=>some (.bool (OQ x y))
  | .neq=>some (.bool (not (OQ x y)))
  | .lss=>some (.bool (PA x y))
  | .leq=>some (.bool (TP x y))
  | .gtr=>some (.bool (PA y x))
  | .geq=>some (.bool (TP y x))
  |op=>wm op k x y
def FQ (k k':IntKind):Bool:=bu k.ctorIdx k'.ctorIdx
def mS (op:BinOp)(k:IntKind)(x:Int)(k':IntKind)(y:Int):Option AV:=
 match op with
 | .shl=>if y<0 then none else some (.int k (k.wrap (x*2^min y.toNat k.bits)))
 | .shr=>if y<0 then none else some (.int k (x.fdiv (2^min y.toNat k.bits)))
 |op=>Bool.rec none (ki op k x y) (FQ k k')
def DE (op:BinOp)(x y:List UInt8):Option AV:=
 match op with
 | .add=>if((x.length+y.length:Nat):Int)>IntKind.i64.max then none else some (.str (x++y))
 | .eql=>some (.bool (x==y))
 | .neq=>some (.bool !(x==y))
 | .lss=>some (.bool (Op.bytesLess x y))
 | .leq=>some (.bool (Op.bytesLess x y||x==y))
 | .gtr=>some (.bool !(Op.bytesLess x y||x==y))
 | .geq=>some (.bool !(Op.bytesLess x y))
 |_=>none
def ue:LK→AV→AV→Option Bool
 | .int,.int k a,.int k' b=>Bool.rec none (some (OQ a b)) (FQ k k')
 | .bool,.bool a,.bool b=>some (a==b)
 | .str,.str a,.str b=>some (a==b)
 |_,_,_=>none
def pG (xs ys:List AV):List (Nat×LK)→Option Bool
 |[]=>some true
 | (i,k)::r=>match xs[i]?,ys[i]? with
  | some a,some b=>match ue k a b with
   |some true=>pG xs ys r
   |some false=>some false
   |none=>none
  |_,_=>none
def xu:AV→AV→Option Bool
 | .bool a,.bool b=>some (a==b)
 |_,_=>none
def MX:AV→AV→Option Bool
 | .py,.py=>some true
 | .ptr _ _,.py=>some false
 | .py,.ptr _ _=>some false
 |_,_=>none
def RY:AV→AV→Option Bool
 | .aq,.aq=>some true
 | .sl ..,.aq=>some false
 | .aq,.sl .. =>some false
 |_,_=>none
def MY:AV→AV→Option Bool
 | .qW,.qW=>some true
 | .map _,.qW=>some false
 | .qW,.map _=>some false
 |_,_=>none
def RZ:AV→AV→Option Bool
 | .kg,.kg=>some true
 | .fn _ _,.kg=>some false
 | .kg,.fn _ _=>some false
 |_,_=>none
def MZ:AV→AV→Option Bool
 | .jD,.jD=>some true
 | .qZ _ _,.jD=>some false
 | .jD,.qZ _ _=>some false
 |_,_=>none
def C7 (ls:List (Nat×LK)):AV→AV→Option Bool
 | .agg a,.agg b=>pG a b ls
 |_,_=>none
def vc (q:mO):AV→AV→Option Bool:=
 match q with
 | .bool=>xu
 | .ptr=>MX
 | .slice=>RY
 | .map=>MY
 | .func=>RZ
 | .iface=>MZ
 | .plain ls=>C7 ls
 | .none=>fun _ _=>none
def dH (op:BinOp)(q:mO)(x y:AV):Option AV:=
 match x,y with
 | .int k a,.int k' b=>mS op k a k' b
 | .str a,.str b=>DE op a b
 | x,y=>match op with
  | .eql=>(vc q x y).map .bool
  | .neq=>(vc q x y).map fun b=> .bool !b
  |_=>none
def Ny (op:UnOp)(x:AV):Option AV:=
 match op,x with
 | .neg,.int k n=>mkInt k (Jl 0 n)
 | .xor,.int k n=>wm .xor k (if k.signed then -1 else k.max) n
 | .not,.bool b=>some (.bool !b)
 |_,_=>none
def cellsOf (h:Hp)(sz:Nat):AV→Option (List AV)
 | .aq=>some []
 | .str s=>if sz=1 then some (s.map fun b=> .int .u8 b.toNat)else none
 | .sl t o n z=>match h.get t with
  |some (.row cs _ _)=>if z=sz∧o+n*sz≤cs.length then some ((cs.drop o).take (n*sz))else none
  |_=>none
 |_=>none
def uY:AV→Option Nat
 | .aq=>some 0
 | .str s=>some s.length
 | .sl _ _ n _=>some n
 |_=>none
def jm (h :Hp)(sz bytes:Nat)(x y:AV):Option (AV×Hp):=
 match uY y,cellsOf h sz y with
 | some m, some ys=>
  match x with
  | .aq=>match m with
   |0=>some (.aq,h)
   |m+1=>if(m+1)*bytes≤140737488355328∧m+1≤140737488355328∧0<sz then some (.sl h.next 0 (m+1) sz,h.push fun s=> .row ys true s)else none
  | .sl t o n z=>match m with
   |0=>some (.sl t o n z,h)
   | m + 1=>match h.get t with
    | some (.row cs true _)=>
     if z=sz∧o+n*sz≤cs.length∧(n+(m+1))*bytes≤140737488355328∧n+(m+1)≤140737488355328 then
      some (.sl h.next 0 (n+(m+1)) sz,(h.put t fun s=> .dead s).push fun s=> .row ((cs.drop o).take (n*sz)++ys) true s)
     else none
    |_=>none
  |_=>none
 |_,_=>none
def bound (x:Option AV)(lo hi dflt:Nat):Option Nat:=
 match x with
 |none=>some dflt
 |some (.int _ i)=>if(lo:Int)≤i∧i≤(hi:Int)then some i.toNat else none
 |some _=>none
def AM (s:List UInt8)(lo hi:Option AV):Option AV:=
 match bound hi 0 s.length s.length with
 |none=>none
 | some h=>match bound lo 0 h 0 with
  |none=>none
  |some l=>some (.str ((s.take h).drop l))
def AN (hp:Hp)(sz:Nat)(x:AV)(lo hi:Option AV):Option (AV×Hp):=
 match x with
 | .aq=>match bound hi 0 0 0,bound lo 0 0 0 with
  |some _,some _=>some (.aq,hp)
  |_,_=>none
 | .sl t o n z=>match bound hi 0 n n with
  |none=>none
  | some h=>match bound lo 0 h 0 with
   |none=>none
   | some l=>
    if l=0 then some (.sl t o h z,hp)
    else if z≠sz then none
    else if l<h then some (.sl t (o+l*sz) (h-l) z,hp)
    else some (.sl hp.next 0 0 z,hp.push fun s=> .row [] false s)
 |_=>none
def tL:AV→AV→Option AV
 | .int k x,.int _ y=>some (.int k (Bool.rec x y (PA y x)))
 |_,_=>none
def tM:AV→AV→Option AV
 | .int k x,.int _ y=>some (.int k (Bool.rec x y (PA x y)))
 |_,_=>none
def qw (f:AV→AV→Option AV):AV→List AV→Option AV
 |x,[]=>some x
 | x,y::r=>match f x y with
  |some z=>qw f z r
  |none=>none
def rep:Nat→List AV→List AV
 |0,_=>[]
 |n+1,z=>z++rep n z
def tY (k:List UInt8):List (AV×AV)→Option (Option AV)
 |[]=>some none
 |(.str k',v)::r=>if k==k' then some (some v)else tY k r
 |_=>none
def AI (k:List UInt8)(v:AV):List (AV×AV)→Option (List (AV×AV))
 |[]=>some [(.str k,v)]
 |(.str k',v')::r=>if k==k' then some ((.str k,v)::r)else(AI k v r).map fun r'=>(.str k',v')::r'
 |_=>none
def VF:AV→Option Nat
 | .int .u8 n=>if 0≤n∧n<256 then some n.toNat else none
 |_=>none
def Il:List AV→Option (List UInt8)
 |[]=>some []
 | v::r=>match VF v,Il r with
  |some n,some l=>some (n.toUInt8::l)
  |_,_=>none
def GK (x:bp)(ρ:bp→AV)(h:Hp):Option (AV×Hp):=
 some (ρ x,h)
def po (c:bp)(a:bp)(b:bp)(ρ:bp→AV)(h:Hp):Option (AV×Hp):=
 match ρ c with
  | .bool true=>some (ρ a,h)
  | .bool false=>some (ρ b,h)
  |_=>none
def om (z:List AV)(ρ:bp→AV)(h:Hp):Option (AV×Hp):=
 some (.ptr h.next 0,h.push fun s=> .row z true s)
def tI (x:bp)(ρ:bp→AV)(h:Hp):Option (AV×Hp):=
 if(ρ x).cells.all AV.one=true then some (.ptr h.next 0,h.push fun s=> .row (ρ x).cells true s)else none
def kD (z:List AV)(ps:List (Nat×Nat×bp))(ρ:bp→AV)(h:Hp):Option (AV×Hp):=
 match ja z (ps.map fun p=>(p.1,p.2.1,ρ p.2.2))with
  |some cs=>some (.agg cs,h)
  |none=>none
def hZ (sz n:Nat)(z:List AV)(ps:List (Nat×Nat×bp))(ρ:bp→AV)(h:Hp):Option (AV×Hp):=
 match ja z (ps.map fun p=>(p.1,p.2.1,ρ p.2.2))with
  |some cs=>if n*sz=cs.length∧0<sz then some (.sl h.next 0 n sz,h.push fun s=> .row cs true s)else none
  |none=>none
def AV.lone:AV→Bool
 | .int _ _| .bool _| .str _=>true
 |_=>false
def nq (sz n:Nat)(z:List AV)(ps:List (Nat×Nat×bp))(ρ:bp→AV)(h:Hp):Option (AV×Hp):=
 match ja z (ps.map fun p=>(p.1,p.2.1,ρ p.2.2))with
  |some cs=>if n*sz=cs.length∧0<sz∧cs.all AV.lone=true then some (.sl h.next 0 n sz,h.push fun s=> .row cs true s)else none
  |none=>none
def pq (agg:Bool)(n:Nat)(x:bp)(ρ:bp→AV)(h:Hp):Option (AV×Hp):=
 match ρ x with
  | .ptr t o=>match h.get t with
   | some (.row cs _ _)=>
    if o+n≤cs.length then
     if agg then some (.agg ((cs.drop o).take n),h)else match cs[o]? with
      |some v=>some (v,h)
      |none=>none
    else none
   |_=>none
  |_=>none
def oh (n:Nat)(x:bp)(y:bp)(ρ:bp→AV)(h:Hp):Option (AV×Hp):=
 match ρ x with
  | .ptr t o=>match h.get t with
   | some (.row cs true _)=>
    if(ρ y).cells.length=n∧o+n≤cs.length∧(ρ y).cells.all AV.one=true then some (jC,h.put t fun s=> .row (dU cs o (ρ y).cells) true s)else none
   |_=>none
  |_=>none
def ol (x:bp)(ρ:bp→AV)(h:Hp):Option (AV×Hp):=
 match ρ x with
  | .ptr t o=>some (.ptr t o,h)
  | .fn f c=>some (.fn f c,h)
  |_=>none
def tJ (op:BinOp)(q:mO)(x:bp)(y:bp)(ρ:bp→AV)(h:Hp):Option (AV×Hp):=
 match dH op q (ρ x) (ρ y)with
  |some v=>some (v,h)
  |none=>none
def Bb (op:UnOp)(x:bp)(ρ:bp→AV)(h:Hp):Option (AV×Hp):=
 match Ny op (ρ x)with
  |some v=>some (v,h)
  |none=>none
def tH (k:IntKind)(x:bp)(ρ:bp→AV)(h:Hp):Option (AV×Hp):=
 match ρ x with
  | .int _ n=>match mkInt k n with
   |some v=>some (v,h)
   |none=>none
  |_=>none
def tG (x:bp)(ρ:bp→AV)(h:Hp):Option (AV×Hp):=
 match ρ x with
  | .str s=>some (.str s,h)
  |_=>none
def Bc (x:bp)(ρ:bp→AV)(h:Hp):Option (AV×Hp):=
 match cellsOf h 1 (ρ x),(ρ x)with
  |some _,.str _=>none
  | some cs,_=>match Il cs with
   |some l=>some (.str l,h)
   |none=>none
  |none,_=>none
def yP (T:Nat)(x:bp)(ρ:bp→AV)(h:Hp):Option (AV×Hp):=
 some (.qZ T (ρ x),h)
def yQ (f:Nat)(cs:List bp)(ρ:bp→AV)(h:Hp):Option (AV×Hp):=
 some (.fn f (cs.map ρ),h)
def rO (sz:Nat)(bytes:Nat)(z:List AV)(l:bp)(c:bp)(ρ:bp→AV)(h:Hp):Option (AV×Hp):=
 match ρ l,ρ c with
  | .int .i64 l,.int .i64 c=>
   if 0≤l∧l≤c∧c*bytes≤281474976710656∧c≤281474976710656∧z.length=sz∧0<sz∧z.all AV.one=true then some (.sl h.next 0 l.toNat sz,h.push fun s=> .row (rep l.toNat z) true s)else none
  |_,_=>none
def tB (x:bp)(lo:Option bp)(hi:Option bp)(ρ:bp→AV)(h:Hp):Option (AV×Hp):=
 match ρ x with
  | .str s=>match AM s (lo.map ρ) (hi.map ρ)with
   |some v=>some (v,h)
   |none=>none
  |_=>none
def GJ (sz:Nat)(x:bp)(lo:Option bp)(hi:Option bp)(ρ:bp→AV)(h:Hp):Option (AV×Hp):=
 AN h sz (ρ x) (lo.map ρ) (hi.map ρ)
def px (off:Nat)(x:bp)(ρ:bp→AV)(h:Hp):Option (AV×Hp):=
 match ρ x with
  | .ptr t o=>some (.ptr t (o+off),h)
  |_=>none
def tE (agg:Bool)(off:Nat)(n:Nat)(x:bp)(ρ:bp→AV)(h:Hp):Option (AV×Hp):=
 match ρ x with
  | .agg cs=>
   if off+n≤cs.length then
    if agg then some (.agg ((cs.drop off).take n),h)else match cs[off]? with
     |some v=>some (v,h)
     |none=>none
   else none
  |_=>none
def pw (sz:Nat)(x:bp)(i:bp)(ρ:bp→AV)(h:Hp):Option (AV×Hp):=
 match ρ x,ρ i with
  | .sl t o n _,.int _ i=>if 0≤i∧i<(n:Int)then some (.ptr t (o+i.toNat*sz),h)else none
  |_,_=>none
def mi (sz:Nat)(n:Nat)(x:bp)(i:bp)(ρ:bp→AV)(h:Hp):Option (AV×Hp):=
 match ρ x,ρ i with
  | .ptr t o,.int _ i=>if 0≤i∧i<(n:Int)then some (.ptr t (o+i.toNat*sz),h)else none
  |_,_=>none
def pu (x:bp)(i:bp)(ρ:bp→AV)(h:Hp):Option (AV×Hp):=
  match ρ x,ρ i with
    | .str s,.int _ i=>if 0≤i then match s[i.toNat]? with
        |some b=>some (.int .u8 b.toNat,h)
        |none=>none
      else none
    |_,_=>none
def tF (x:bp)(i:Nat)(ρ:bp→AV)(h:Hp):Option (AV×Hp):=
 match ρ x with
  | .fO l=>match l[i]? with
   |some v=>some (v,h)
   |none=>none
  |_=>none
def tD (q:IK)(x:bp)(ρ:bp→AV)(h:Hp):Option (AV×Hp):=
 match q,ρ x with
  | .str,.str s=>some (.int .i64 s.length,h)
  | .slice,.sl _ _ n _=>some (.int .i64 n,h)
  | .slice,.aq=>some (.int .i64 0,h)
  | .slice,.HW .. =>some (.int .i64 0,h)
  | .arr n,_=>some (.int .i64 n,h)
  |_,_=>none
def CR (sz:Nat)(bytes:Nat)(x:bp)(y:bp)(ρ:bp→AV)(h:Hp):Option (AV×Hp):=
 jm h sz bytes (ρ x) (ρ y)
def yN (xs:List bp)(ρ:bp→AV)(h:Hp):Option (AV×Hp):=
 match xs.map ρ with
  | x::r=>match qw tM x r with
   |some v=>some (v,h)
   |none=>none
  |[]=>none
def yO (xs:List bp)(ρ:bp→AV)(h:Hp):Option (AV×Hp):=
 match xs.map ρ with
  | x::r=>match qw tL x r with
   |some v=>some (v,h)
   |none=>none
  |[]=>none
def yL (x:bp)(ρ:bp→AV)(h:Hp):Option (AV×Hp):=
 match ρ x with
  | .str s=>some (.ptr h.next 0,h.push fun st=> .lF s 0 st)
  |_=>none
def yM (x:bp)(ρ:bp→AV)(h:Hp):Option (AV×Hp):=
 match ρ x with
  | .ptr t 0=>match h.get t with
   | some (.lF s pos _)=>
    if pos<s.length then
     let d:=Utf8.decode ⟨s.toArray⟩ pos
     some (.fO [.bool true,.int .i64 pos,.int .i32 d.1],h.put t fun st=> .lF s (pos+d.2) st)
    else some (.fO [.bool false],h)
   |_=>none
  |_=>none
def sA (ρ:bp→AV)(h:Hp):Option (AV×Hp):=
 some (.map h.next,h.push fun s=> .kx [] s)
def pp (m:bp)(k:bp)(v:bp)(ρ:bp→AV)(h:Hp):Option (AV×Hp):=
 match ρ m,ρ k with
  | .map t,.str k=>match h.get t with
   | some (.kx es _)=>match AI k (ρ v) es with
    |some MW=>some (jC,h.put t fun s=> .kx MW s)
    |none=>none
   |_=>none
  |_,_=>none
def tC (m:bp)(k:bp)(z:AV)(ok:Bool)(ρ:bp→AV)(h:Hp):Option (AV×Hp):=
 match ρ m,ρ k with
  | .map t,.str k=>match h.get t with
   | some (.kx es _)=>match tY k es with
    |some (some v)=>some (if ok then .fO [v,.bool true]else v,h)
    |some none=>some (if ok then .fO [z,.bool false]else z,h)
    |none=>none
   |_=>none
  |_,_=>none
def QW (_:bp→AV)(_:Hp):Option (AV×Hp):=none
def lV (o:gM):(bp→AV)→Hp→Option (AV×Hp):=
 match o with
 | .mv x=>GK x
 | .pick c a b=>po c a b
 | .alloc z=>om z
 | .box x=>tI x
 | .build z ps=>kD z ps
 | .cL sz n z ps=>hZ sz n z ps
 | .Az sz n z ps=>nq sz n z ps
 | .load agg n x=>pq agg n x
 | .store n x y=>oh n x y
 | .yR x=>ol x
 | .bin op q x y=>tJ op q x y
 | .un op x=>Bb op x
 | .sJ k x=>tH k x
 | .PO x=>tG x
 | .Pc x=>Bc x
 | .ER T x=>yP T x
 | .Og f cs=>yQ f cs
 | .uN sz bytes z l c=>rO sz bytes z l c
 | .qO x lo hi=>tB x lo hi
 | .sl sz x lo hi=>GJ sz x lo hi
 | .jk off x=>px off x
 | .xT agg off n x=>tE agg off n x
 | .iG sz x i=>pw sz x i
 | .vN sz n x i=>mi sz n x i
 | .idxs x i=>pu x i
 | .ext x i=>tF x i
 | .len q x=>tD q x
 | .app sz bytes x y=>CR sz bytes x y
 | .mx xs=>yN xs
 | .mn xs=>yO xs
 | .TL x=>yL x
 | .TN x=>yM x
 | .vF=>sA
 | .yS m k v=>pp m k v
 | .Ok m k z ok=>tC m k z ok
 | .lO .. | .gQ .. | .inv .. | .bad=>QW
inductive Ex where
 |fP
 |exit (id:Nat)
 |ret
def ie (args:List AV):Nat→T AV→T AV
 | i,t=>match args with
  |[]=>t
  |v::r=>ie r (i+1) (t.set i v)
def nj (s:St):rH→Option AV
 | .tmp t=>some ((s.tm.get t).getD jC)
 | .cell t agg n=>match(s.tm.get t).getD jC with
  | .ptr b o=>match s.hp.get b with
   | some (.row cs _ _)=>
    if o+n≤cs.length then
     if agg then some (.agg ((cs.drop o).take n))else cs[o]?
    else none
   |_=>none
  |_=>none
def qb (s:St):List rH→Option (List AV)
 |[]=>some []
 | r::rs=>match nj s r,qb s rs with
  |some v,some vs=>some (v::vs)
  |_,_=>none
def eC (s:St)(rs:List rH):Option AV:=
 match qb s rs with
 |some [v]=>some v
 |some vs=>some (.fO vs)
 |none=>none
def gB (E:Env)(rec:au→St→Option (Ex×St))(f:Nat)(args:List AV)(h:Hp):Option (AV×Hp):=
 match E.exts f with
 | some e=>match e args with
  |some v=>some (v,h)
  |none=>none
 | none=>match E.dG f with
  |some p=>p args h
  | none=>match E.fns f with
   |none=>none
   | some fn=>match rec fn.code { tm:=ie args 0 .nil,hp:=h }with
    |some (.exit _,_)=>none
    | some (_,s)=>match eC s fn.res with
     |some v=>some (v,s.hp)
     |none=>none
    |none=>none
def wU (f:Nat)(args:List bp)(E:Env)(rec:au→St→Option (Ex×St))(s:St):Option (AV×Hp):=gB E rec f (args.map (val s.tm)) s.hp
def jP (x:bp)(args:List bp)(E:Env)(rec:au→St→Option (Ex×St))(s:St):Option (AV×Hp):=
 match val s.tm x with
 | .fn f cap=>gB E rec f (args.map (val s.tm)++cap) s.hp
 |_=>none
def qk (x:bp)(name:String)(args:List bp)(E:Env)(rec:au→St→Option (Ex×St))(s:St):Option (AV×Hp):=
 match val s.tm x with
 | .qZ T v=>match E.gF T name with
  |some f=>gB E rec f (v::args.map (val s.tm)) s.hp
  |none=>none
 |_=>none
def JM (o:gM)(E:Env)(rec:au→St→Option (Ex×St))(s:St):Option (AV×Hp):=lV o (val s.tm) s.hp
def lU (o:gM):Env→(au→St→Option (Ex×St))→St→Option (AV×Hp):=
 match o with
 | .lO f args=>wU f args
 | .gQ x args=>jP x args
 | .inv x name args=>qk x name args
 |o=>JM o
def wanted (tm:T AV):Option (Nat×Bool)→Bool
 |none=>true
 | some (d,b)=>match tm.get d with
  |some (.bool c)=>c==b
  |_=>false
def reads (s:St):gM→Option Nat
 | .load _ _ x=>match val s.tm x with
  | .ptr t _=>some t
  |_=>none
 |_=>none
def old (h:Hp)(c0:Nat)(t:Nat):Bool:=
 match h.get t with
 |some o=>pU o.st c0
 |none=>false
def nr (s:St)(o:aC)(acc:List (Nat×Nat)):Option (List (Nat×Nat)):=
 match o.lE with
 |none=>some acc
 | some u=>match reads s o.op with
  |some t=>some ((t,u)::acc)
  |none=>none
def fresh (h:Hp)(c0 i:Nat)(x:Nat×Nat):Bool:=
 match bu x.2 i with
 |true=>old h c0 x.1
 |false=>true
abbrev Rec:=au→St→Option (Ex×St)
def AO (_:Env)(_:Rec)(s:St):Option (Ex×St):=some (.fP,s)
def kY (r:List aC)(d:Option Nat)(rec:Rec)(s:St):Option (AV×Hp)→Option (Ex×St)
 |some (v,h)=>rec (.cx r) { tm:=put s.tm d v,hp:=h }
 |none=>none
def kc (o:aC)(r:List aC)(E:Env)(rec:Rec)(s:St):Option (Ex×St):=
 match wanted s.tm o.qq with
 |true=>kY r o.dst rec s (lU o.op E rec s)
 |false=>rec (.cx r) { tm:=put s.tm o.dst jC,hp:=s.hp }
def FR (ops:List aC):Env→Rec→St→Option (Ex×St):=
 match ops with
 |[]=>AO
 |o::r=>kc o r
def NM (ops:List aC)(_:Env)(rec:Rec)(s:St):Option (Ex×St):=rec (.kq ops 0 s.hp.dc []) s
def iY (o:aC)(r:List aC)(i c0:Nat)(acc:List (Nat×Nat))(E:Env)(rec:Rec)(s:St):Option (Ex×St):=
 match wanted s.tm o.qq with
 | true=>match lU o.op E rec s with
  | some (v,h)=>match nr s o acc with
   | some acc'=>match acc'.all (fresh h c0 i)with
    |true=>rec (.kq r (i+1) c0 acc') { tm:=put s.tm o.dst v,hp:=h }
    |false=>none
   |none=>none
  |none=>none
 | false=>match acc.all (fresh s.hp c0 i)with
  |true=>rec (.kq r (i+1) c0 acc) { tm:=put s.tm o.dst jC,hp:=s.hp }
  |false=>none
def AP (ops:List aC)(i c0:Nat)(acc:List (Nat×Nat)):Env→Rec→St→Option (Ex×St):=
 match ops with
 |[]=>AO
 |o::r=>iY o r i c0 acc
def iF (a b:au)(_:Env)(rec:Rec)(s:St):Option (Ex×St):=
 match rec a s with
 |some (.fP,s')=>rec b s'
 |r=>r
def gY (x:bp)(a b:au)(_:Env)(rec:Rec)(s:St):Option (Ex×St):=
 match val s.tm x with
 | .bool true=>rec a s
 | .bool false=>rec b s
 |_=>none
def fk (id:Nat)(c:au)(_:Env)(rec:Rec)(s:St):Option (Ex×St):=
 match rec c s with
 | some (.exit i,s')=>match bu i id with
  |true=>some (.fP,s')
  |false=>some (.exit i,s')
 |r=>r
def gX (c:au)(_:Env)(rec:Rec)(s:St):Option (Ex×St):=
 match rec c s with
 |some (.fP,s')=>rec (.loop c) s'
 |r=>r
def NL (id:Nat)(_:Env)(_:Rec)(s:St):Option (Ex×St):=some (.exit id,s)
def Qh (_:Env)(_:Rec)(s:St):Option (Ex×St):=some (.ret,s)
def Qj (_:Env)(_:Rec)(_:St):Option (Ex×St):=none
def FK (c:au):Env→Rec→St→Option (Ex×St):=
 match c with
 | .skip=>AO
 | .cx ops=>FR ops
 | .cm ops=>NM ops
 | .kq ops i c0 acc=>AP ops i c0 acc
 | .seq a b=>iF a b
 | .cond x a b=>gY x a b
 | .block id c=>fk id c
 | .loop c=>gX c
 | .exit id=>NL id
 | .ret=>Qh
 | .bad=>Qj
def step (E:Env)(rec:Rec)(c:au)(s:St):Option (Ex×St):=FK c E rec s
def exec (E:Env)(n:Nat):au→St→Option (Ex×St):=Nat.rec (fun _ _=>none) (fun _ ih=>step E ih) n
def call (E:Env)(n:Nat)(f:Nat)(args:List AV)(h:Hp):Option (AV×Hp):=gB E (exec E n) f args h
end
end Go.Ae
set_option linter.unusedSimpArgs false
namespace Go.Ae
theorem pA {α:Type}(n:Nat)(k:Nat→α):lit n k=k n:=by cases n<;>rfl
theorem xd {α:Type}(n:Int)(k:Int→α):JW n k=k n:=by cases n<;>simp[JW,pA]
theorem T.get_nil {α:Type}(n:Nat):(T.nil:T α).get n=none:=rfl
theorem T.iH {α:Type}(l:T α)(v:Option α)(r:T α)(n:Nat):
  (T.node l v r).get n=if n=0 then v else if n%2=1 then l.get (n/2)else r.get (n/2-1):=by
 show(Bool.rec (Bool.rec (r.get (uS (n/2))) (l.get (n/2)) (bu (n%2) 1):Option α) v (bu n 0):Option α)=_
 have e1:bu n 0=decide (n=0):=by cases n<;>simp[bu]
 have e2:bu (n%2) 1=decide (n%2=1):=by
  rcases lY n with h|h<;>simp[h,bu]
 rw[e1,e2];by_cases h:n=0<;>by_cases k:n%2=1<;>simp[h,k,rX]
theorem T.J0 {α:Type}(x:α)(d n:Nat):
  T.ins x (d+1) .nil n=if n=0 then .node .nil (some x) .nil else if n%2=1 then .node (T.ins x d .nil (n/2)) none .nil else .node .nil none (T.ins x d .nil (n/2-1)):=by
 show(Bool.rec (Bool.rec (T.node .nil none (T.ins x d .nil (uS (n/2)))) (T.node (T.ins x d .nil (n/2)) none .nil) (bu (n%2) 1):T α) (T.node .nil (some x) .nil) (bu n 0):T α)=_
 have e1:bu n 0=decide (n=0):=by cases n<;>simp[bu]
 have e2:bu (n%2) 1=decide (n%2=1):=by
  rcases lY n with h|h<;>simp[h,bu]
 rw[e1,e2];by_cases h:n=0<;>by_cases k:n%2=1<;>simp[h,k,rX]
theorem T.Hg {α:Type}(x:α)(d n:Nat)(l r:T α)(v:Option α):
  T.ins x (d+1) (.node l v r) n=if n=0 then .node l (some x) r else if n%2=1 then .node (T.ins x d l (n/2)) v r else .node l v (T.ins x d r (n/2-1)):=by
 show(Bool.rec (Bool.rec (T.node l v (T.ins x d r (uS (n/2)))) (T.node (T.ins x d l (n/2)) v r) (bu (n%2) 1):T α) (T.node l (some x) r) (bu n 0):T α)=_
 have e1:bu n 0=decide (n=0):=by cases n<;>simp[bu]
 have e2:bu (n%2) 1=decide (n%2=1):=by
  rcases lY n with h|h<;>simp[h,bu]
 rw[e1,e2];by_cases h:n=0<;>by_cases k:n%2=1<;>simp[h,k,rX]
theorem T.qt {α:Type}(x:α):∀(d:Nat) (t:T α) (n m:Nat),n<d→(T.ins x d t n).get m=if m=n then some x else t.get m
 |0,_,_,_,h=>by omega
 | d + 1, t, n,m,h=>by
  cases t with
  | nil =>
   rw[T.J0];by_cases h0:n=0
   ·subst h0;rw[if_pos rfl,T.iH];by_cases hm:m=0<;>simp[hm,T.get_nil]
   ·rw [if_neg h0];by_cases h1:n%2=1
    ·rw [if_pos h1,T.iH,T.qt x d _ _ _ (by omega)];by_cases hm:m=0
     ·have:m≠n:=by omega
      simp[hm,T.get_nil];omega
     ·by_cases Ho:m%2=1
      ·have:(m/2=n/2)↔m=n:=by omega
       simp[hm,Ho,T.get_nil,this]
      ·have:m≠n:=by omega
       simp[hm,Ho,T.get_nil,this]
    ·rw [if_neg h1,T.iH,T.qt x d _ _ _ (by omega)];by_cases hm:m=0
     ·have:m≠n:=by omega
      simp[hm,T.get_nil];omega
     ·by_cases Ho:m%2=1
      ·have:m≠n:=by omega
       simp[hm,Ho,T.get_nil,this]
      ·have:(m/2-1=n/2-1)↔m=n:=by omega
       simp[hm,Ho,T.get_nil,this]
  | node l v r=>
   rw[T.Hg];by_cases h0:n=0
   ·subst h0;rw[if_pos rfl,T.iH,T.iH];by_cases hm:m=0<;>simp[hm]
   ·rw [if_neg h0];by_cases h1:n%2=1
    ·rw [if_pos h1,T.iH,T.iH,T.qt x d _ _ _ (by omega)];by_cases hm:m=0
     ·have:m≠n:=by omega
      simp[hm];omega
     ·by_cases Ho:m%2=1
      ·have:(m/2=n/2)↔m=n:=by omega
       simp[hm,Ho,this]
      ·have:m≠n:=by omega
       simp[hm,Ho,this]
    ·rw [if_neg h1,T.iH,T.iH,T.qt x d _ _ _ (by omega)];by_cases hm:m=0
     ·have:m≠n:=by omega
      simp[hm];omega
     ·by_cases Ho:m%2=1
      ·have:m≠n:=by omega
       simp[hm,Ho,this]
      ·have:(m/2-1=n/2-1)↔m=n:=by omega
       simp[hm,Ho,this]
theorem T.qs {α:Type}(x:α)(t:T α)(n m:Nat):(t.set n x).get m=if m=n then some x else t.get m:=by
 unfold T.set;rw[pA];exact T.qt x _ t n m (by omega)
theorem Hp.cM (h:Hp)(o:Nat→cP)(t:Nat):(h.push o).get t=if t=h.next then some (o (h.dc+1))else h.get t:=T.qs _ _ _ _
theorem Hp.iM (h:Hp)(t':Nat)(o:Nat→cP)(t:Nat):(h.put t' o).get t=if t=t' then some (o (h.dc+1))else h.get t:=T.qs _ _ _ _
theorem aN (E:Env)(n:Nat):exec E (n+1)=step E (exec E n):=rfl
theorem Dp (x y:Int):Pq x y=x+y:=by cases x<;>cases y<;>simp[Pq]<;>rfl
theorem sx (x y:Int):Jl x y=x-y:=by
 cases x with
 | ofNat m=>cases y with
  | ofNat n=>
   simp only[Jl];cases h:pU n m with
   |true=>have:=iU h;simp only[fj];show((m-n:Nat):Int)=_;omega
   |false=>rfl
  |negSucc n=>rfl
 |negSucc m=>rfl
theorem CW (x y:Int):Of x y=x*y:=by cases x<;>cases y<;>simp[Of]<;>rfl
theorem CL (x y:Int):NT x y=x.tdiv y:=by cases x<;>cases y<;>simp[NT]<;>rfl
theorem CI (x y:Int):NO x y=x.tmod y:=by cases x<;>cases y<;>simp[NO]<;>rfl
theorem KM (m n:Nat):bu m n=decide (m=n):=by
 rw[mI];simp
theorem mw (x y:Int):OQ x y=(x==y):=by
 cases x<;>cases y<;>simp only[OQ,fj]<;>rw[mI]<;>simp<;>omega
theorem ny (x y:Int):PA x y=decide (x<y):=by
 cases x<;>cases y<;>simp only[PA,fj]<;>rw[mI]<;>simp[ji]<;>omega
theorem xe (x y:Int):TP x y=decide (x≤y):=by
 cases x<;>cases y<;>simp only[TP,fj]<;>rw[mI]<;>simp<;>omega
set_option maxRecDepth 10000 in
theorem sO (k:IntKind)(n:Int):vp k n=k.wrap n:=by
 cases n with
 | ofNat m=>
  simp only[vp];cases h:gV m (pB k)with
  |false=>rfl
  | true=>
   have hm:m<pB k:=by simpa using h
   simp only[fj];cases k<;>simp[pB]at hm<;>simp[IntKind.wrap,IntKind.bits,IntKind.signed]<;>omega
 | negSucc m=>
  simp only[vp];cases hs:Qe k with
  |false=>rfl
  | true=>
   cases h:gV m (pB k)with
   |false=>rfl
   | true=>
    have hm:m<pB k:=by simpa using h
    clear h
    have key:∀(b:Nat),k.signed=true→k.bits=b+1→(m:Int)<2^b→Int.negSucc m=k.wrap (Int.negSucc m):=by
     intro b h1 h2 h3;have hp:(0:Int)<2^b:=Int.pow_pos (by omega);have e:(2:Int)^(b+1)=2*2^b:=by rw[Int.pow_succ];omega
     simp only[IntKind.wrap,h1,h2,Nat.add_sub_cancel,e,Bool.true_and];generalize (2:Int)^b=B at *
     have EV:Int.negSucc m%(2*B)=Int.negSucc m+2*B:=by
      rw[←Int.add_mul_emod_self_left (Int.negSucc m) (2*B) 1,Int.mul_one];exact Int.emod_eq_of_lt (by omega) (by omega)
     rw[EV];have:(Int.negSucc m+2*B≥B):=by omega
     simp[this]
    cases k
    ·exact key 7 rfl rfl (by simp only[pB]at hm;omega)
    ·exact key 15 rfl rfl (by simp only[pB]at hm;omega)
    ·exact key 31 rfl rfl (by simp only[pB]at hm;omega)
    ·exact key 63 rfl rfl (by simp only[pB]at hm;omega)
    all_goals exact absurd hs (by decide)
theorem gK (k:IntKind)(n:Int):mkInt k n=some (.int k (k.wrap n)):=by simp[mkInt,xd,sO]
theorem fx (k k':IntKind):FQ k k'=decide (k=k'):=by cases k<;>cases k'<;>rfl
end Go.Ae
namespace Go.Ae
structure Place where
 b:Nat
 o:Nat
 c:Nat
 sz:Nat
abbrev dw:=Nat→Place
mutual
def enc (ρ:dw):AV→Value
 | .int k n=> .int k n
 | .bool b=> .bool b
 | .str s=> .string ⟨s.toArray⟩
 | .ptr t o=> .pointer (some ⟨(ρ t).b,(ρ t).o+o,none⟩)
 | .py=> .pointer none
 | .sl t o n z=> .slice (some ⟨(ρ t).b,(ρ t).o+o,none⟩) n ((ρ t).c-o/z)
 | .aq=> .slice none 0 0
 | .HW b o s c=> .slice (some ⟨b,o,s⟩) 0 c
 | .fn f cap=> .func (.func f) #[] (encs ρ cap).toArray
 | .kg=> .nilFunc
 | .qZ T v=> .iface T (enc ρ v)
 | .jD=> .nilIface
 | .map t=> .map (some (ρ t).b)
 | .qW=> .map none
 | .agg l=> .agg (encs ρ l).toArray
 | .fO l=> .tuple (encs ρ l).toArray
def encs (ρ:dw):List AV→List Value
 |[]=>[]
 |x::l=>enc ρ x::encs ρ l
end
mutual
def ok (ρ:dw)(N:Nat):AV→Prop
 | .ptr t _=>t<N
 | .sl t o n z=>t<N∧z=(ρ t).sz∧0<z∧o%z=0∧o/z+n≤(ρ t).c
 | .map t=>t<N
 | .fn _ cap=>gP ρ N cap
 | .qZ _ v=>ok ρ N v
 | .agg l=>gP ρ N l
 | .fO l=>gP ρ N l
 |_=>True
def gP (ρ:dw)(N:Nat):List AV→Prop
 |[]=>True
 |x::l=>ok ρ N x∧gP ρ N l
end
theorem cC (ρ:dw):∀l,encs ρ l=l.map (enc ρ)
 |[]=>by simp[encs]
 |x::l=>by simp[encs,cC ρ l]
theorem cQ (ρ:dw)(N:Nat):∀l,gP ρ N l↔∀v∈l,ok ρ N v
 |[]=>by simp[gP]
 |x::l=>by simp[gP,cQ ρ N l]
theorem bX (ρ:dw)(l:List AV):(encs ρ l).length=l.length:=by simp[cC]
theorem kM (ρ:dw):enc ρ jC=undef:=by simp[enc,encs,undef]
def cV (N:Nat)(ρ ρ':dw):Prop:=∀t,t<N→ρ' t=ρ t
theorem cV.refl (N:Nat)(ρ:dw):cV N ρ ρ:=fun _ _=>rfl
theorem cV.trans {N N':Nat}{ρ ρ' ρ'':dw}(h:cV N ρ ρ')(h':cV N' ρ' ρ'')(hN:N≤N'):cV N ρ ρ'':=
 fun t ht=>(h' t (by omega)).trans (h t ht)
mutual
theorem du {N:Nat}{ρ ρ':dw}(h:cV N ρ ρ'):∀(v:AV),ok ρ N v→enc ρ' v=enc ρ v
 | .int _ _,_=>by simp[enc]
 | .bool _,_=>by simp[enc]
 | .str _,_=>by simp[enc]
 | .ptr t o,hv=>by simp only[ok]at hv;simp[enc,h t hv]
 | .py,_=>by simp[enc]
 | .sl t o n z,hv=>by simp only[ok]at hv;simp[enc,h t hv.1]
 | .aq,_=>by simp[enc]
 | .HW _ _ _ _,_=>by simp[enc]
 | .fn f cap,hv=>by simp only[ok]at hv;simp[enc,fA h cap hv]
 | .kg,_=>by simp[enc]
 | .qZ T v,hv=>by simp only[ok]at hv;simp[enc,du h v hv]
 | .jD,_=>by simp[enc]
 | .map t,hv=>by simp only[ok]at hv;simp[enc,h t hv]
 | .qW,_=>by simp[enc]
 | .agg l,hv=>by simp only[ok]at hv;simp[enc,fA h l hv]
 | .fO l,hv=>by simp only[ok]at hv;simp[enc,fA h l hv]
theorem fA {N:Nat}{ρ ρ':dw}(h:cV N ρ ρ'):∀(l:List AV),gP ρ N l→encs ρ' l=encs ρ l
 |[],_=>by simp[encs]
 |x::l,hv=>by simp only[gP]at hv;simp[encs,du h x hv.1,fA h l hv.2]
end
mutual
theorem fy {N N':Nat}{ρ ρ':dw}(h:cV N ρ ρ')(hN:N≤N'):∀(v:AV),ok ρ N v→ok ρ' N' v
 | .int _ _,_=>by simp[ok]
 | .bool _,_=>by simp[ok]
 | .str _,_=>by simp[ok]
 | .ptr t o,hv=>by simp only[ok]at hv⊢;omega
 | .py,_=>by simp[ok]
 | .sl t o n z,hv=>by simp only[ok]at hv⊢;rw[h t hv.1];exact⟨by omega,hv.2⟩
 | .aq,_=>by simp[ok]
 | .HW _ _ _ _,_=>by simp[ok]
 | .fn f cap,hv=>by simp only[ok]at hv⊢;exact io h hN cap hv
 | .kg,_=>by simp[ok]
 | .qZ T v,hv=>by simp only[ok]at hv⊢;exact fy h hN v hv
 | .jD,_=>by simp[ok]
 | .map t,hv=>by simp only[ok]at hv⊢;omega
 | .qW,_=>by simp[ok]
 | .agg l,hv=>by simp only[ok]at hv⊢;exact io h hN l hv
 | .fO l,hv=>by simp only[ok]at hv⊢;exact io h hN l hv
theorem io {N N':Nat}{ρ ρ':dw}(h:cV N ρ ρ')(hN:N≤N'):∀(l:List AV),gP ρ N l→gP ρ' N' l
 |[],_=>by simp[gP]
 |x::l,hv=>by simp only[gP]at hv⊢;exact⟨fy h hN x hv.1,io h hN l hv.2⟩
end
theorem C8 (ρ:dw)(v:AV):(enc ρ v).oneCell'=v.one:=by cases v<;>simp[enc,Value.oneCell',AV.one]
theorem oG (ρ:dw)(v:AV):(enc ρ v).cells=(encs ρ v.cells).toArray:=by cases v<;>simp[enc,Value.cells,AV.cells,encs]
theorem tA {ρ:dw}{N:Nat}{v:AV}(h:ok ρ N v):gP ρ N v.cells:=by
 cases v<;>first|exact⟨h,trivial⟩|exact h
def cP.owned:cP→Bool
 | .row _ o _=>o
 | .dead _=>false
 |_=>true
structure lj (base:Nat)(ρ:dw)(N:Nat)(w:World)(t:Nat)(cs:List AV)(own:Bool):Prop where
 one:∀v∈cs,v.one=true
 ok:gP ρ N cs
 cells:w.rangeAt (ρ t).b (ρ t).o (encs ρ cs)
 se:own=true→base≤(ρ t).b∧(ρ t).b<w.heap.size∧w.there (ρ t).b (ρ t).o cs.length∧w.there (ρ t).b (ρ t).o ((ρ t).c*(ρ t).sz)
 wW:own=false→cs=[]∨(ρ t).b<base
structure bv (base:Nat)(ρ:dw)(h:Hp)(w:World):Prop where
 size:base≤w.heap.size
 lt:∀t o,h.get t=some o→t<h.next
 row:∀t cs own st,h.get t=some (.row cs own st)→lj base ρ h.next w t cs own
 iter:∀t s p st,h.get t=some (.lF s p st)→base≤(ρ t).b∧(ρ t).o=0∧w.heap[(ρ t).b]?=some (.stringIter ⟨s.toArray⟩ p)
 map:∀t es st,h.get t=some (.kx es st)→base≤(ρ t).b∧(∀e∈es,e.1.one=true∧ok ρ h.next e.1∧ok ρ h.next e.2)∧
  ∃ms c,w.heap[(ρ t).b]?=some (.map ms c)∧ms.toList.map (fun m=>(m.key,m.val))=es.map (fun e=>(enc ρ e.1,enc ρ e.2))
 apart:∀t t' o o',h.get t=some o→h.get t'=some o'→o.owned=true→o'.owned=true→t≠t'→(ρ t).b≠(ρ t').b
structure pR (ρ:dw)(h:Hp)(w w':World):Prop where
 os:w'.os=w.os
 tape:w'.tape=w.tape
 output:w'.output=w.output
 size:w.heap.size≤w'.heap.size
 block:∀k,k<w.heap.size→(∀t o,h.get t=some o→o.owned=true→(ρ t).b≠k)→w'.heap[k]?=w.heap[k]?
def TA (ρ:dw)(h:Hp)(w:World)(ρ':dw)(h':Hp):Prop:=
 ∀t o,h'.get t=some o→o.owned=true→w.heap.size≤(ρ' t).b∨∃t0 o0,h.get t0=some o0∧o0.owned=true∧(ρ t0).b=(ρ' t).b
structure Ext (base:Nat)(ρ:dw)(h:Hp)(w:World)(ρ':dw)(h':Hp)(w':World):Prop where
 agree:cV h.next ρ ρ'
 next:h.next≤h'.next
 rel:bv base ρ' h' w'
 eK:pR ρ h w w'
 fresh:TA ρ h w ρ' h'
theorem bv.hC {base:Nat}{ρ:dw}{h:Hp}{w:World}(R:bv base ρ h w){t:Nat}{o:cP}(ht:h.get t=some o)(ho:o.owned=true):base≤(ρ t).b∧(ρ t).b<w.heap.size:=by
 cases o with
 |row cs own st=>exact⟨((R.row t cs own st ht).se ho).1,((R.row t cs own st ht).se ho).2.1⟩
 |dead st=>simp[cP.owned]at ho
 | lF s p st=>
  obtain⟨h1,_,h2⟩:=R.iter t s p st ht;exact⟨h1,by rcases aQ (ρ t).b w.heap.size with c|c;exact c;simp[jT c]at h2⟩
 | kx es st=>
  obtain⟨h1,_,ms,c,h2,_⟩:=R.map t es st ht;exact⟨h1,by rcases aQ (ρ t).b w.heap.size with c|c;exact c;simp[jT c]at h2⟩
theorem pR.refl (ρ:dw)(h:Hp)(w:World):pR ρ h w w:=⟨rfl,rfl,rfl,ae _,fun _ _ _=>rfl⟩
theorem Ext.refl {base:Nat}{ρ:dw}{h:Hp}{w:World}(R:bv base ρ h w):Ext base ρ h w ρ h w:=
 ⟨cV.refl _ _,ae _,R,pR.refl _ _ _,fun t o ht ho=> .inr ⟨t,o,ht,ho,rfl⟩⟩
theorem Ext.trans {base:Nat}{ρ ρ' ρ'':dw}{h h' xg:Hp}{w w' w'':World}(E:Ext base ρ h w ρ' h' w')(E':Ext base ρ' h' w' ρ'' xg w''):Ext base ρ h w ρ'' xg w'' where
 agree:=E.agree.trans E'.agree E.next
 next:=aB E.next E'.next
 rel:=E'.rel
 eK:={
  os:=E'.eK.os.trans E.eK.os
  tape:=E'.eK.tape.trans E.eK.tape
  output:=E'.eK.output.trans E.eK.output
  size:=aB E.eK.size E'.eK.size
  block:=fun k hk hn=>(E'.eK.block k (ah hk E.eK.size) (fun t o ht ho hb=>by
   rcases E.fresh t o ht ho with c|⟨t0,o0,h0,h1,h2⟩
   ·omega
   ·exact hn t0 o0 h0 h1 (h2.trans hb))).trans (E.eK.block k hk hn) }
 fresh:=fun t o ht ho=>by
  rcases E'.fresh t o ht ho with c|⟨t0,o0,h0,h1,h2⟩
  ·exact .inl (aB E.eK.size c)
  ·rcases E.fresh t0 o0 h0 h1 with c|⟨t1,o1,h3,h4,h5⟩
   ·exact .inl (by omega)
   ·exact .inr ⟨t1,o1,h3,h4,h5.trans h2⟩
theorem pR.below {base:Nat}{ρ:dw}{h:Hp}{w w':World}(K:pR ρ h w w')(R:bv base ρ h w):bl base w w':=
 ⟨K.os,K.tape,K.output,K.size,fun k hk=>K.block k (ah hk R.size) (fun t o ht ho hb=>by have:=(R.hC ht ho).1;omega)⟩
theorem bv.drawn {base:Nat}{ρ:dw}{h:Hp}{w:World}(R:bv base ρ h w)(d:Nat):bv base ρ h { w with drawn:=d }:=
 ⟨R.size,R.lt,fun t cs own st ht=>⟨(R.row t cs own st ht).one,(R.row t cs own st ht).ok,(R.row t cs own st ht).cells,(R.row t cs own st ht).se,(R.row t cs own st ht).wW⟩,R.iter,R.map,R.apart⟩
theorem Ext.drawn {base:Nat}{ρ:dw}{h:Hp}{w:World}(R:bv base ρ h w)(d:Nat):Ext base ρ h w ρ h { w with drawn:=d }:=
 ⟨cV.refl _ _,ae _,R.drawn d,⟨rfl,rfl,rfl,ae _,fun _ _ _=>rfl⟩,fun t o ht ho=> .inr ⟨t,o,ht,ho,rfl⟩⟩
theorem rA {w w':World}{b o:Nat}(h:w'.heap[b]?=w.heap[b]?):w'.cell? ⟨b,o,none⟩=w.cell? ⟨b,o,none⟩:=by simp[World.cell?,h]
theorem mh {w w':World}{b o:Nat}{cs:List Value}(h:w'.heap[b]?=w.heap[b]?)(k:w.rangeAt b o cs):w'.rangeAt b o cs:=
 fun j v hv=>(rA h).trans (k j v hv)
theorem jr {w w':World}{b o n:Nat}(h:w'.heap[b]?=w.heap[b]?)(k:w.there b o n):w'.there b o n:=
 fun j hj=>⟨by rw[rA h];exact(k j hj).1,by simp only[World.frozen?,h];exact(k j hj).2⟩
theorem lj.later {base:Nat}{ρ ρ':dw}{N N':Nat}{w w':World}{t:Nat}{cs:List AV}{own:Bool}(R:lj base ρ N w t cs own)
  (ha:cV N ρ ρ') (hN:N≤N') (ht:t<N) (hs:w.heap.size≤w'.heap.size) (hb:cs=[]∧own=false∨w'.heap[(ρ t).b]?=w.heap[(ρ t).b]?):lj base ρ' N' w' t cs own:=by
 have e:=ha t ht;refine⟨R.one,io ha hN _ R.ok,?_,?_,?_⟩
 ·rw[e,fA ha _ R.ok];rcases hb with⟨rfl,_⟩|hb
  ·intro j v hv;simp[encs]at hv
  ·exact mh hb R.cells
 ·intro ho;rw[e];obtain⟨h1,h2,h3,h4⟩:=R.se ho;rcases hb with⟨_,h⟩|hb
  ·rw[h]at ho;cases ho
  ·exact⟨h1,by omega,jr hb h3,jr hb h4⟩
 ·intro ho;rw[e];exact R.wW ho
theorem bv.nk {base:Nat}{ρ ρ':dw}{h:Hp}{w w':World}(R:bv base ρ h w)(o:Nat→cP)(ha:cV h.next ρ ρ')
    (hs:w.heap.size≤w'.heap.size) (hb:∀k,k<w.heap.size→w'.heap[k]?=w.heap[k]?)
    (hnew:match o (h.dc+1)with
      | .row cs own _=>lj base ρ' (h.next+1) w' h.next cs own∧(own=true→w.heap.size≤(ρ' h.next).b)
      | .dead _=>True
      | .lF s p _=>w.heap.size≤(ρ' h.next).b∧(ρ' h.next).o=0∧w'.heap[(ρ' h.next).b]?=some (.stringIter ⟨s.toArray⟩ p)
      | .kx es _=>w.heap.size≤(ρ' h.next).b∧es=[]∧w'.heap[(ρ' h.next).b]?=some (.map #[] 0)):bv base ρ' (h.push o) w':=by
  have hold:∀t ob,h.get t=some ob→t<h.next∧ρ' t=ρ t:=fun t ob ht=>⟨R.lt t ob ht,ha t (R.lt t ob ht)⟩
  have hne:∀t ob,h.get t=some ob→t≠h.next:=fun t ob ht=>by have:=R.lt t ob ht;omega
  have hblk:∀t ob,h.get t=some ob→ob.owned=true→w'.heap[(ρ t).b]?=w.heap[(ρ t).b]?:=fun t ob ht ho=>hb _ (R.hC ht ho).2
  refine⟨aB R.size hs,?_,?_,?_,?_,?_⟩
  · intro t ob ht
    rw[Hp.cM]at ht;show t<h.next+1
    split at ht
    · omega
    · have:=R.lt t ob ht;omega
  · intro t cs own st ht
    rw[Hp.cM]at ht;split at ht
    · rename_i e;subst e
      have e1:o (h.dc+1)= .row cs own st:=by simpa using ht
      rw[e1]at hnew;exact hnew.1
    · have r:=R.row t cs own st ht
      refine r.later ha (ee _) (R.lt _ _ ht) hs ?_;cases own with
      |true=>exact .inr (hblk t _ ht rfl)
      | false => rcases r.wW rfl with c|c
                 · exact .inl ⟨c,rfl⟩
                 · exact .inr (hb _ (ah c R.size))
  · intro t s p st ht
    rw[Hp.cM]at ht;split at ht
    · rename_i e;subst e
      have e1:o (h.dc+1)= .lF s p st:=by simpa using ht
      rw[e1]at hnew;exact⟨aB R.size hnew.1,hnew.2.1,hnew.2.2⟩
    · have r:=R.iter t s p st ht
      rw[(hold t _ ht).2,hblk t _ ht rfl];exact r
  · intro t es st ht
    rw[Hp.cM]at ht;split at ht
    · rename_i e;subst e
      have e1:o (h.dc+1)= .kx es st:=by simpa using ht
      rw[e1]at hnew;obtain⟨n1,rfl,n3⟩:=hnew;exact⟨aB R.size n1,by simp, #[],0,n3,by simp⟩
    · obtain⟨r1,r2,ms,c,r3,r4⟩:=R.map t es st ht
      rw[(hold t _ ht).2];refine⟨r1,fun e he=>⟨(r2 e he).1,fy ha (ee _) _ (r2 e he).2.1,fy ha (ee _) _ (r2 e he).2.2⟩,ms,c,by rw[hblk t _ ht rfl];exact r3,r4.trans ?_⟩;exact bJ fun e he=>by rw[du ha _ (r2 e he).2.1,du ha _ (r2 e he).2.2]
  · have hn:∀ob,o (h.dc+1)=ob→ob.owned=true→w.heap.size≤(ρ' h.next).b:=by
      intro ob e ho;rw[e]at hnew;cases ob with
      |row cs own st=>exact hnew.2 ho
      |dead st=>simp[cP.owned]at ho
      |lF s p st=>exact hnew.1
      |kx es st=>exact hnew.1
    intro t t' ob yK ht kj ho C1 OA;rw[Hp.cM]at ht kj;split at ht<;>split at kj
    · omega
    · rename_i e _;subst e
      have:=hn ob (by simpa using ht) ho;have:=(R.hC kj C1).2;rw[(hold t' _ kj).2];omega
    · rename_i _ e;subst e
      have:=hn yK (by simpa using kj) C1;have:=(R.hC ht ho).2;rw[(hold t _ ht).2];omega
    · rw[(hold t _ ht).2,(hold t' _ kj).2];exact R.apart t t' ob yK ht kj ho C1 OA
theorem Ext.nk {base:Nat}{ρ ρ':dw}{h:Hp}{w w':World}(R:bv base ρ h w)(o:Nat→cP)(ha:cV h.next ρ ρ')
  (Ry:w'.os=w.os) (J9:w'.tape=w.tape) (Rx:w'.output=w.output)
  (hs:w.heap.size≤w'.heap.size) (hb:∀k,k<w.heap.size→w'.heap[k]?=w.heap[k]?)
  (hnew:match o (h.dc+1)with
   | .row cs own _=>lj base ρ' (h.next+1) w' h.next cs own∧(own=true→w.heap.size≤(ρ' h.next).b)
   | .dead _=>True
   | .lF s p _=>w.heap.size≤(ρ' h.next).b∧(ρ' h.next).o=0∧w'.heap[(ρ' h.next).b]?=some (.stringIter ⟨s.toArray⟩ p)
   | .kx es _=>w.heap.size≤(ρ' h.next).b∧es=[]∧w'.heap[(ρ' h.next).b]?=some (.map #[] 0)):Ext base ρ h w ρ' (h.push o) w':=by
 refine⟨ha,ee _,R.nk o ha hs hb hnew,⟨Ry,J9,Rx,hs,fun k hk _=>hb k hk⟩,?_⟩;intro t ob ht ho;rw[Hp.cM]at ht;split at ht
 ·rename_i e;subst e;have e1:o (h.dc+1)=ob:=by simpa using ht
  rw[e1]at hnew;cases ob with
  |row cs own st=>exact .inl (hnew.2 ho)
  |dead st=>simp[cP.owned]at ho
  |lF s p st=>exact .inl hnew.1
  |kx es st=>exact .inl hnew.1
 ·exact .inr ⟨t,ob,ht,ho,by rw[ha t (R.lt t ob ht)]⟩
def rK (ρ:dw)(t:Nat)(p:Place):dw:=fun x=>if x=t then p else ρ x
theorem il (ρ:dw)(N:Nat)(p:Place):cV N ρ (rK ρ N p):=fun t ht=>by unfold rK;rw[if_neg (by omega)]
theorem cb (ρ:dw)(N:Nat)(p:Place):rK ρ N p N=p:=by simp[rK]
theorem lL (w:World)(o:Obj):(w.alloc o).heap[w.heap.size]?=some o:=by
 show(w.heap.push o)[w.heap.size]?=some o
 simp
theorem jQ (w:World)(o:Obj)(k:Nat)(h:k<w.heap.size):(w.alloc o).heap[k]?=w.heap[k]?:=by
 show(w.heap.push o)[k]?=_
 rw[Array.getElem?_push,if_neg (by omega)]
theorem Ext.newRow {base:Nat}{ρ:dw}{h:Hp}{w:World}(R:bv base ρ h w)(cs:List AV)(e:TypeId)(rest:List Value)(c sz:Nat)(h1:∀v∈cs,v.one=true)(h2:gP ρ h.next cs)
  (hc:c*sz≤cs.length+rest.length) (d:Nat):
  Ext base ρ h w (rK ρ h.next ⟨w.heap.size,0,c,sz⟩) (h.push fun s=> .row cs true s) (({ w with drawn:=d }:World).alloc (.cells (encs ρ cs++rest).toArray e)):=by
 have hag:cV h.next ρ (rK ρ h.next ⟨w.heap.size,0,c,sz⟩):=il _ _ _;refine Ext.nk R _ hag rfl rfl rfl (by show w.heap.size≤(w.heap.push _).size;simp) (fun k hk=>jQ { w with drawn:=d } _ k hk) ?_;show lj base _ (h.next+1) _ h.next cs true∧_
 rw[cb]
 have hcell:∀j,(({ w with drawn:=d }:World).alloc (.cells (encs ρ cs++rest).toArray e)).cell? ⟨w.heap.size,0+j,none⟩=(encs ρ cs++rest)[j]?:=by
  intro j;have:=lL { w with drawn:=d } (.cells (encs ρ cs++rest).toArray e);simp only[World.cell?];have e2:(({ w with drawn:=d }:World).alloc (.cells (encs ρ cs++rest).toArray e)).heap[w.heap.size]?=some (.cells (encs ρ cs++rest).toArray e):=this;rw[e2];simp
 have Wv:∀j,(({ w with drawn:=d }:World).alloc (.cells (encs ρ cs++rest).toArray e)).frozen? ⟨w.heap.size,0+j,none⟩=false:=by
  intro j;have:=lL { w with drawn:=d } (.cells (encs ρ cs++rest).toArray e);have e2:(({ w with drawn:=d }:World).alloc (.cells (encs ρ cs++rest).toArray e)).heap[w.heap.size]?=some (.cells (encs ρ cs++rest).toArray e):=this;simp only[World.frozen?];rw[e2];simp
 have Ov:∀n,n≤cs.length+rest.length→(({ w with drawn:=d }:World).alloc (.cells (encs ρ cs++rest).toArray e)).there w.heap.size 0 n:=by
  intro n hn j hj;refine⟨?_,Wv j⟩;rw[hcell,aI (by simp[bX];omega)];rfl
 refine⟨⟨h1,io hag (ee _) _ h2,?_,?_,by simp⟩,fun _=>ae _⟩
 ·rw[cb,fA hag _ h2];intro j v hv;rw[hcell,cB (by rw[aZ]at hv;exact hv.1)];exact hv
 ·intro _;rw[cb];exact⟨R.size,by show w.heap.size<(w.heap.push _).size;simp,Ov _ (by omega),Ov _ hc⟩
theorem lf (b:Nat):∀(vs:List Value) (o:Nat) (w:World),(w.setCells b o vs).heap.size=w.heap.size∧(∀k,k≠b→(w.setCells b o vs).heap[k]?=w.heap[k]?)∧
  (w.setCells b o vs).os=w.os∧(w.setCells b o vs).tape=w.tape∧(w.setCells b o vs).output=w.output
 |[],_,w=>⟨rfl,fun _ _=>rfl,rfl,rfl,rfl⟩
 | v::r,o,w=>by
  obtain⟨h1,h2,h3,h4,h5⟩:=lf b r (o+1) (w.setCell ⟨b,o,none⟩ v);refine⟨h1.trans (by simp[World.setCell]),fun k hk=>(h2 k hk).trans ?_,h3,h4,h5⟩;exact Go.RowKit.Below.heap_setCell w ⟨b,o,none⟩ v k hk
theorem there_setCells {w:World}{b o n:Nat}(h:w.there b o n)(p:Nat)(vs:List Value):(w.setCells b p vs).there b o n:=by
 intro j hj;refine⟨?_,by rw[World.frozen?_setCells];exact(h j hj).2⟩;have h0:=(h j hj).1;clear hj
 have key:∀(vs:List Value) (p:Nat) (w:World),(w.cell? ⟨b,o+j,none⟩).isSome=true→((w.setCells b p vs).cell? ⟨b,o+j,none⟩).isSome=true:=by
  intro vs
  induction vs with
  |nil=>intro p w h;exact h
  | cons v r ih=>
   intro p w h;refine ih (p+1) _ ?_;by_cases e:p=o+j
   ·subst e;obtain⟨u,hu⟩:=Ap.1 h;rw[World.cell?_setCell_same w _ v hu];rfl
   ·rw[World.cell?_setCell_other _ _ _ _ (by simp;omega)];exact h
 exact key vs p w h0
theorem si (cs vs:List AV)(o j:Nat)(hl:o+vs.length≤cs.length):(dU cs o vs)[j]?=if o≤j∧j<o+vs.length then vs[j-o]? else cs[j]?:=by
 unfold dU;by_cases h1:j<o
 ·rw[cB (by simp;omega),if_neg (by omega),List.getElem?_take_of_lt h1]
 ·rw[eP (by simp;omega),az,Nat.min_eq_left (by omega)];by_cases h2:j<o+vs.length
  ·rw[cB (by omega),if_pos ⟨by omega,h2⟩]
  ·rw[eP (by omega),if_neg (by omega),iW];congr 1;omega
theorem lc (cs vs:List AV)(o:Nat)(hl:o+vs.length≤cs.length):(dU cs o vs).length=cs.length:=by
 unfold dU;simp;omega
theorem mp {cs vs:List AV}{o:Nat}{v:AV}(h:v∈dU cs o vs):v∈cs∨v∈vs:=by
 unfold dU at h;rcases dR.1 h with h|h
 ·exact .inl (fE h)
 ·rcases dR.1 h with h|h
  ·exact .inr h
  ·exact .inl (iJ h)
theorem Ext.changed {base:Nat}{ρ:dw}{h:Hp}{w w':World}(R:bv base ρ h w){t:Nat}{yJ:cP}(ht:h.get t=some yJ)(C0:yJ.owned=true)(ob:Nat→cP)
    (Ry:w'.os=w.os) (J9:w'.tape=w.tape) (Rx:w'.output=w.output) (hs:w'.heap.size=w.heap.size) (hb:∀k,k≠(ρ t).b→w'.heap[k]?=w.heap[k]?)
    (hnew:match ob (h.dc+1)with
      | .row cs own _=>lj base ρ h.next w' t cs own
      | .dead _=>True
      | .lF s p _=>(ρ t).o=0∧w'.heap[(ρ t).b]?=some (.stringIter ⟨s.toArray⟩ p)
      | .kx es _=>(∀e∈es,e.1.one=true∧ok ρ h.next e.1∧ok ρ h.next e.2)∧∃ms c,w'.heap[(ρ t).b]?=some (.map ms c)∧ms.toList.map (fun m=>(m.key,m.val))=es.map (fun e=>(enc ρ e.1,enc ρ e.2))):
    Ext base ρ h w ρ (h.put t ob) w':=by
  have OH:=R.hC ht C0;have Bw:∀t' yK,t'≠t→h.get t'=some yK→yK.owned=true→w'.heap[(ρ t').b]?=w.heap[(ρ t').b]?:=fun t' yK hne kj C1=>hb _ (R.apart t' t yK yJ kj ht C1 C0 hne)
  refine⟨cV.refl _ _,ae _,⟨by rw[hs];exact R.size,?_,?_,?_,?_,?_⟩,⟨Ry,J9,Rx,by omega,fun k hk hn=>hb k (fun e=>hn t yJ ht C0 e.symm)⟩,?_⟩
  · intro t' o' kj
    rw[Hp.iM]at kj;split at kj
    · rename_i e;subst e;exact R.lt _ _ ht
    · exact R.lt _ _ kj
  · intro t' cs own st kj
    rw[Hp.iM]at kj;split at kj
    · rename_i e;subst e
      have e1:ob (h.dc+1)= .row cs own st:=by simpa using kj
      rw[e1]at hnew;exact hnew
    · rename_i hne
      have r:=R.row t' cs own st kj;refine r.later (cV.refl _ _) (ae _) (R.lt _ _ kj) (by omega) ?_;cases own with
      |true=>exact .inr (Bw t' _ hne kj rfl)
      | false => rcases r.wW rfl with c|c
                 · exact .inl ⟨c,rfl⟩
                 · exact .inr (hb _ (by omega))
  · intro t' s p st kj
    rw[Hp.iM]at kj;split at kj
    · rename_i e;subst e
      have e1:ob (h.dc+1)= .lF s p st:=by simpa using kj
      rw[e1]at hnew;exact⟨OH.1,hnew.1,hnew.2⟩
    · rename_i hne
      rw[Bw t' _ hne kj rfl];exact R.iter t' s p st kj
  · intro t' es st kj
    rw[Hp.iM]at kj;split at kj
    · rename_i e;subst e
      have e1:ob (h.dc+1)= .kx es st:=by simpa using kj
      rw[e1]at hnew;exact⟨OH.1,hnew.1,hnew.2⟩
    · rename_i hne
      rw[Bw t' _ hne kj rfl];exact R.map t' es st kj
  · intro t1 t2 o1 o2 h1 h2 p1 p2 hne
    rw[Hp.iM]at h1 h2
    have pick:∀x o,(if x=t then some (ob (h.dc+1))else h.get x)=some o→o.owned=true→∃o',h.get x=some o'∧o'.owned=true:=by
      intro x o hx ho;split at hx
      · rename_i e;subst e;exact⟨yJ,ht,C0⟩
      · exact⟨o,hx,ho⟩
    obtain⟨q1,g1,g2⟩:=pick t1 o1 h1 p1;obtain⟨q2,g3,g4⟩:=pick t2 o2 h2 p2;exact R.apart t1 t2 q1 q2 g1 g3 g2 g4 hne
  · intro t' o' kj C1
    rw[Hp.iM]at kj;split at kj
    · rename_i e;subst e;exact .inr ⟨t',yJ,ht,C0,rfl⟩
    · exact .inr ⟨t',o',kj,C1,rfl⟩
theorem Ext.stored {base:Nat}{ρ:dw}{h:Hp}{w:World}(R:bv base ρ h w){t:Nat}{cs:List AV}{st:Nat}(ht:h.get t=some (.row cs true st))(o:Nat)(vs:List AV)
  (hl:o+vs.length≤cs.length) (h1:∀v∈vs,v.one=true) (h2:gP ρ h.next vs):
  Ext base ρ h w ρ (h.put t fun s=> .row (dU cs o vs) true s) (w.setCells (ρ t).b ((ρ t).o+o) (encs ρ vs)):=by
 obtain⟨g1,g2,g3,g4,g5⟩:=lf (ρ t).b (encs ρ vs) ((ρ t).o+o) w;have r:=R.row t cs true st ht;obtain⟨q1,q2,q3,q4⟩:=r.se rfl;refine Ext.changed R ht rfl _ g3 g4 g5 g1 g2 ?_;show lj base ρ h.next _ t (dU cs o vs) true
 refine⟨fun v hv=>?_,(cQ _ _ _).2 fun v hv=>?_,?_,fun _=>⟨q1,by rw[g1];exact q2,?_,there_setCells q4 _ _⟩,by simp⟩
 ·rcases mp hv with c|c
  ·exact r.one v c
  ·exact h1 v c
 ·rcases mp hv with c|c
  ·exact(cQ _ _ _).1 r.ok v c
  ·exact(cQ _ _ _).1 h2 v c
 ·intro j v hv
  have hj:j<cs.length:=by
   have:=(aZ.1 hv).1;rw[bX,lc _ _ _ hl]at this;exact this
  rw[cC,bK,si _ _ _ _ hl]at hv;split at hv
  ·rename_i hh;have hlt:j-o<(encs ρ vs).length:=by rw[bX];omega
   have:=World.cell?_setCells_in (ρ t).b (encs ρ vs) ((ρ t).o+o) w (fun i hi=>by
    have:=(q3 (o+i) (by rw[bX]at hi;omega)).1;rwa[show(ρ t).o+(o+i)=(ρ t).o+o+i by omega]at this) (j-o) hlt
   rw[show(ρ t).o+j=(ρ t).o+o+(j-o) by omega,this];rw[←hv,←bK,←cC,aI hlt]
  ·rename_i hh;rw[World.cell?_setCells_out (ρ t).b (encs ρ vs) ((ρ t).o+o) w _ (fun _ _=>by simp only[bX];omega)];refine r.cells j v ?_;rw[cC,bK];exact hv
 ·rw[lc _ _ _ hl];exact there_setCells q3 _ _
theorem Ext.Q1 {base:Nat}{ρ:dw}{h:Hp}{w w':World}(R:bv base ρ h w){t:Nat}{yJ:cP}(ht:h.get t=some yJ)(C0:yJ.owned=true)(cs:List AV)(p:Place)(hp:p.b=(ρ t).b)
    (Ry:w'.os=w.os) (J9:w'.tape=w.tape) (Rx:w'.output=w.output) (hs:w'.heap.size=w.heap.size) (hb:∀k,k≠(ρ t).b→w'.heap[k]?=w.heap[k]?)
    (hnew:lj base (rK ρ h.next p) (h.next+1) w' h.next cs true):
    Ext base ρ h w (rK ρ h.next p) ((h.put t fun s=> .dead s).push fun s=> .row cs true s) w':=by
  have OH:=R.hC ht C0;have htn:=R.lt _ _ ht;have hag:cV h.next ρ (rK ρ h.next p):=il _ _ _;have J8:∀x,x<h.next→rK ρ h.next p x=ρ x:=hag
  have mT:∀x o,((h.put t fun s=> .dead s).push fun s=> .row cs true s).get x=some o→(x=h.next∧o= .row cs true (h.dc+1+1))∨(x<h.next∧x=t∧o.owned=false∧∃s,o= .dead s)∨(x<h.next∧x≠t∧h.get x=some o):=by
    intro x o hx;rw[Hp.cM]at hx;split at hx
    · rename_i e;exact .inl ⟨e,by simpa[Hp.put]using hx.symm⟩
    · rw[Hp.iM]at hx
      split at hx
      · rename_i e;subst e
        have:o= .dead (h.dc+1):=by simpa using hx.symm
        subst this;exact .inr (.inl ⟨htn,rfl,rfl,_,rfl⟩)
      · rename_i hne;exact .inr (.inr ⟨R.lt _ _ hx,hne,hx⟩)
  have Bw:∀t' yK,t'≠t→h.get t'=some yK→yK.owned=true→w'.heap[(ρ t').b]?=w.heap[(ρ t').b]?:=fun t' yK hne kj C1=>hb _ (R.apart t' t yK yJ kj ht C1 C0 hne)
  refine⟨hag,ee _,⟨by rw[hs];exact R.size,?_,?_,?_,?_,?_⟩,⟨Ry,J9,Rx,by omega,fun k hk hn=>hb k (fun e=>hn t yJ ht C0 e.symm)⟩,?_⟩
  · intro x o hx
    show x<h.next+1
    rcases mT x o hx with⟨e,_⟩|⟨e,_⟩|⟨e,_⟩<;>omega
  · intro x vY own st hx
    rcases mT x _ hx with⟨rfl,e⟩|⟨_,_,_,s,e⟩|⟨e1,e2,e3⟩
    · obtain⟨rfl,rfl,rfl⟩:vY=cs∧own=true∧st=h.dc+1+1:=by simpa using e
      exact hnew
    · cases e
    · have r:=R.row x vY own st e3
      refine r.later hag (ee _) e1 (by omega) ?_;cases own with
      |true=>exact .inr (Bw x _ e2 e3 rfl)
      | false => rcases r.wW rfl with c|c
                 · exact .inl ⟨c,rfl⟩
                 · exact .inr (hb _ (by omega))
  · intro x s q st hx
    rcases mT x _ hx with⟨rfl,e⟩|⟨_,_,_,s,e⟩|⟨e1,e2,e3⟩
    · cases e
    · cases e
    · rw[J8 x e1,Bw x _ e2 e3 rfl];exact R.iter x s q st e3
  · intro x es st hx
    rcases mT x _ hx with⟨rfl,e⟩|⟨_,_,_,s,e⟩|⟨e1,e2,e3⟩
    · cases e
    · cases e
    · obtain⟨r1,r2,ms,c,r3,r4⟩:=R.map x es st e3
      rw[J8 x e1];refine⟨r1,fun e he=>⟨(r2 e he).1,fy hag (ee _) _ (r2 e he).2.1,fy hag (ee _) _ (r2 e he).2.2⟩,ms,c,by rw[Bw x _ e2 e3 rfl];exact r3,r4.trans ?_⟩;exact bJ fun e he=>by rw[du hag _ (r2 e he).2.1,du hag _ (r2 e he).2.2]
  · intro x y o1 o2 hx hy p1 p2 hne
    rcases mT x _ hx with⟨rfl,e⟩|⟨_,_,c,_⟩|⟨e1,e2,e3⟩
    · rcases mT y _ hy with⟨rfl,e'⟩|⟨_,_,c,_⟩|⟨e4,e5,e6⟩
      · exact absurd rfl hne
      · rw[c]at p2;cases p2
      · rw[cb,J8 y e4,hp];exact R.apart t y yJ o2 ht e6 C0 p2 (Ne.symm e5)
    · rw[c]at p1;cases p1
    · rcases mT y _ hy with⟨rfl,e'⟩|⟨_,_,c,_⟩|⟨e4,e5,e6⟩
      · rw[cb,J8 x e1,hp];exact R.apart x t o1 yJ e3 ht p1 C0 e2
      · rw[c]at p2;cases p2
      · rw[J8 x e1,J8 y e4];exact R.apart x y o1 o2 e3 e6 p1 p2 hne
  · intro x o hx ho
    rcases mT x _ hx with⟨rfl,e⟩|⟨_,_,c,_⟩|⟨e1,e2,e3⟩
    · exact .inr ⟨t,yJ,ht,C0,by rw[cb,hp]⟩
    · rw[c]at ho;cases ho
    · exact .inr ⟨x,o,e3,ho,by rw[J8 x e1]⟩
theorem Ext.GZ {base:Nat}{ρ:dw}{h:Hp}{w:World}(R:bv base ρ h w){t:Nat}{yJ:cP}(ht:h.get t=some yJ)(C0:yJ.owned=true):Ext base ρ h w ρ (h.put t fun s=> .dead s) w:=
 Ext.changed R ht C0 _ rfl rfl rfl rfl (fun _ _=>rfl) trivial
def BO:Value→Option AV
 | .int k n=>some (.int k n)
 | .bool b=>some (.bool b)
 | .string s=>some (.str s.data.toList)
 | .pointer none=>some .py
 | .slice none 0 0=>some .aq
 | .map none=>some .qW
 | .nilFunc=>some .kg
 | .nilIface=>some .jD
 |_=>none
def rT:List Value→Option (List AV)
 |[]=>some []
 | v::r=>match BO v,rT r with
  |some a,some l=>some (a::l)
  |_,_=>none
def cv:Operand→Option bp
 | .tmp t=>some (.t t)
 | .const v=>match BO v with
  |some a=>some (.k a)
  |none=>none
 | .func f=>some (.k (.fn f []))
 | .global _=>none
def kv:List Operand→Option (List bp)
 |[]=>some []
 | x::r=>match cv x,kv r with
  |some a,some l=>some (a::l)
  |_,_=>none
def mM:Option Operand→Option (Option bp)
 |none=>some none
 | some x=>match cv x with
  |some a=>some (some a)
  |none=>none
def ku (P:Program)(t:TypeId):Option (List AV):=
 match P.info? t with
 | some i=>match i.zero with
  |some z=>rT z.cells.toList
  |none=>none
 |none=>none
def xy (P:Program)(t:TypeId):Option AV:=
 match P.info? t with
 | some i=>match i.zero with
  | some (.agg cs)=>match rT cs.toList with
   |some l=>some (.agg l)
   |none=>none
  |some z=>BO z
  |none=>none
 |none=>none
def pg (P:Program)(t:TypeId):Option Nat:=
 match P.info? t with
 |some i=>some i.size
 |none=>none
def oQ (P:Program)(t:TypeId):Option Bool:=
 match P.underlying t with
 |some (.struct _)|some (.array _ _)=>some true
 |some _=>some false
 |none=>none
def pJ (place:Nat→Option (Nat×Nat)):List (Nat×Operand)→Option (List (Nat×Nat×bp))
 |[]=>some []
 | (i,x)::r=>match place i,cv x,pJ place r with
  |some (off,n),some y,some l=>some ((off,n,y)::l)
  |_,_,_=>none
def xz (P:Program)(fs:Array Field)(i:Nat):Option (Nat×Nat):=
 match fs[i]? with
 | some f=>match pg P f.type with
  |some n=>some (f.offset,n)
  |none=>none
 |none=>none
def sB (P:Program)(lv:TypeId→Option (List (Nat×LK))):List Field→Option (List (Nat×LK))
 |[]=>some []
 | f::r=>match f.name== "_",lv f.type,pg P f.type,sB P lv r with
  |false,some a,some n,some b=>if a.all (fun x=>x.1<n)then some (a.map (fun x=>(f.offset+x.1,x.2))++b)else none
  |_,_,_,_=>none
def leaves (P:Program):Nat→TypeId→Option (List (Nat×LK))
 |0,_=>none
 | d+1,t=>match P.underlying t with
  |some (.int _)=>some [(0,.int)]
  |some .bool=>some [(0,.bool)]
  |some .string=>some [(0,.str)]
  |some (.struct fs)=>if P.stoodInHeld t then none else sB P (leaves P d) fs.toList
  |_=>none
def nA:Operand→Bool
 | .const _=>true
 |_=>false
def KD (P:Program)(op:BinOp)(t:TypeId)(x y:Operand):mO:=
 match P.underlying t with
 |some .bool=> .bool
 |some (.pointer _)=> .ptr
 |some (.slice _)=> .slice
 |some (.map _ _)=> .map
 |some (.func _ _ _)=> .func
 |some (.interface _)=>if nA x||nA y then .iface else .none
 | some (.struct _)=>match leaves P 20 t with
  |some ls=>if P.eqGuardType P.depth t then .none else .plain ls
  |none=> .none
 |_=> .none
def ru (P:Program)(s:TypeId)(i:Nat):Option Field:=
 match P.underlying s with
 |some (.struct fs)=>fs[i]?
 |_=>none
def qB (P:Program)(t:TypeId):Option TypeId:=
 match P.underlying t with
 | some (.map k e)=>match P.underlying k with
  |some .string=>some e
  |_=>none
 |_=>none
def gE (P:Program)(o:Oper):Option gM:=
 match o.op with
 | .move x| .assign x=>(cv x).bind fun x=>some (.mv x)
 | .pick c a b=>(cv c).bind fun c=>(cv a).bind fun a=>(cv b).bind fun b=>some (.pick c a b)
 | .alloc e=>(ku P e).bind fun z=>some (.alloc z)
 | .box _ x=>(cv x).bind fun x=>some (.box x)
 | .build t ps=>(ku P t).bind fun z=>match P.underlying t with
  |some (.struct fs)=>if fs.toList.all fun f=>(P.info? f.type).isSome then(pJ (xz P fs) ps.toList).bind fun l=>some (.build z l)else none
  |_=>none
 | .buildSlice t n ps=>match P.underlying t with
  | some (.slice e)=>(pg P e).bind fun s=>(ku P e).bind fun z=>
   if z.length=s∧n*s≤16777216∧0<s then(pJ (fun i=>some (i*s,s)) ps.toList).bind fun l=>some (.cL s n (rep n z) l)else none
  |_=>none
 | .load t x=>(oQ P t).bind fun a=>(pg P t).bind fun n=>(cv x).bind fun x=>some (.load a (if a then n else 1) x)
 | .store t x y=>(pg P t).bind fun n=>(cv x).bind fun x=>(cv y).bind fun y=>some (.store n x y)
 | .nilCheck x=>(cv x).bind fun x=>some (.yR x)
 | .binOp op t x y _=>(cv x).bind fun x'=>(cv y).bind fun y'=>some (.bin op (KD P op t x y) x' y')
 | .unOp op _ x=>(cv x).bind fun x=>some (.un op x)
 | .convert s d x=>match P.underlying s,P.underlying d with
  |some (.int _),some (.int k)=>(cv x).bind fun x=>some (.sJ k x)
  |some .string,some .string=>(cv x).bind fun x=>some (.PO x)
  |_,_=>none
 | .makeInterface t x=>match P.underlying t with
  |some (.interface _)=>none
  |some _=>(cv x).bind fun x=>some (.ER t x)
  |none=>none
 | .makeFunc (.func f) first cs=>if first.isEmpty then(kv cs.toList).bind fun l=>some (.Og f l)else none
 | .makeMap t none=>(qB P t).bind fun _=>some .vF
 | .makeSlice t l c=>match P.underlying t with
  | some (.slice e)=>match P.info? e with
   |some i=>(ku P e).bind fun z=>(cv l).bind fun l=>(cv c).bind fun c=>some (.uN i.size i.bytes z l c)
   |none=>none
  |_=>none
 | .slice t x lo hi none=>match P.underlying t with
  |some .string=>(cv x).bind fun x=>(mM lo).bind fun lo=>(mM hi).bind fun hi=>some (.qO x lo hi)
  |some (.slice e)=>(pg P e).bind fun s=>(cv x).bind fun x=>(mM lo).bind fun lo=>(mM hi).bind fun hi=>some (.sl s x lo hi)
  |_=>none
 | .fieldAddr s x i=>(ru P s i).bind fun f=>(pg P f.type).bind fun n=>if n=0 then none else(cv x).bind fun x=>some (.jk f.offset x)
 | .field s x i=>(ru P s i).bind fun f=>(oQ P f.type).bind fun a=>(pg P f.type).bind fun n=>(cv x).bind fun x=>some (.xT a f.offset (if a then n else 1) x)
 | .indexAddr t x i=>match P.underlying t with
  |some (.slice e)=>(pg P e).bind fun s=>(cv x).bind fun x=>(cv i).bind fun i=>some (.iG s x i)
  |some (.array n e)=>(pg P e).bind fun s=>(cv x).bind fun x=>(cv i).bind fun i=>some (.vN s n x i)
  |_=>none
 | .index t x i=>match P.underlying t with
  |some .string=>(cv x).bind fun x=>(cv i).bind fun i=>some (.idxs x i)
  |_=>none
 | .lookup t m k okk=>(qB P t).bind fun e=>(xy P e).bind fun z=>(cv m).bind fun m=>(cv k).bind fun k=>some (.Ok m k z okk)
 | .mapUpdate t m k v| .insert t m k v=>(qB P t).bind fun _=>(cv m).bind fun m=>(cv k).bind fun k=>(cv v).bind fun v=>some (.yS m k v)
 | .range t x=>match P.underlying t with
  |some .string=>(cv x).bind fun x=>some (.TL x)
  |_=>none
 | .next x true=>(cv x).bind fun x=>some (.TN x)
 | .extract x i=>(cv x).bind fun x=>some (.ext x i)
 | .call c =>match c.callee with
  | .value (.func f)=>(kv c.args.toList).bind fun l=>some (.lO f l)
  | .value x=>(cv x).bind fun x=>(kv c.args.toList).bind fun l=>some (.gQ x l)
  | .invoke x name=>(cv x).bind fun x=>(kv c.args.toList).bind fun l=>some (.inv x name l)
  | .builtin .len=>match c.argTypes.toList,c.args.toList with
   | [t],[x]=>match P.underlying t with
    |some .string=>(cv x).bind fun x=>some (.len .str x)
    |some (.slice _)=>(cv x).bind fun x=>some (.len .slice x)
    |some (.array n _)=>(cv x).bind fun x=>some (.len (.arr n) x)
    |_=>none
   |_,_=>none
  | .builtin .append=>match c.argTypes.toList,c.args.toList with
   | [t, tx],[x,y]=>match P.underlying t,P.underlying tx with
    | some (.slice e),some (.slice _)|some (.slice e),some .string=>match P.info? e with
     | some i=>match ku P e with
      |some z=>if z.length=i.size∧0<i.size then(cv x).bind fun x=>(cv y).bind fun y=>some (.app i.size i.bytes x y)else none
      |none=>none
     |none=>none
    |_,_=>none
   |_,_=>none
  | .builtin .max=>(kv c.args.toList).bind fun l=>some (.mx l)
  | .builtin .min=>(kv c.args.toList).bind fun l=>some (.mn l)
  |_=>none
 |_=>none
theorem qA {v:Value}{a:AV}(h:BO v=some a)(ρ:dw)(N:Nat):enc ρ a=v∧ok ρ N a:=by
 unfold BO at h
 split at h<;>first
  |(obtain rfl:=aa h;exact⟨by simp[enc],trivial⟩)
  |cases h
theorem H6 {v:Value}{a:AV}(h:BO v=some a):a.one=true:=by
 unfold BO at h
 split at h<;>first
  |(obtain rfl:=aa h;rfl)
  |cases h
theorem iR:∀{vs:List Value} {l:List AV},rT vs=some l→∀(ρ:dw) (N:Nat),encs ρ l=vs∧gP ρ N l∧∀v∈l,v.one=true
 |[],l,h,ρ,N=>by obtain rfl:=aa h;exact⟨by simp[encs],trivial,by simp⟩
 | v ::r,l,h,ρ,N=>by
  unfold rT at h;split at h
  ·rename_i a l' h1 h2;obtain rfl:=aa h;obtain⟨e1,e2,e3⟩:=iR h2 ρ N;obtain⟨e4,e5⟩:=qA h1 ρ N;refine⟨by simp[encs,e1,e4],⟨e5,e2⟩,fun x hx=>?_⟩;rcases fv.1 hx with rfl|hx
   ·exact H6 h1
   ·exact e3 x hx
  ·cases h
section
variable {P:Program}{base:Nat}{ρ:dw}{h:Hp}{w:World}{ev:Operand→Value}{tm:T AV}
def dZ (ρ:dw)(N:Nat)(ev:Operand→Value)(tm:T AV):Prop:=∀x y,cv x=some y→ev x=enc ρ (val tm y)∧ok ρ N (val tm y)
def Yields (P:Program)(base:Nat)(ρ:dw)(h:Hp)(w:World)(s:Sem Next)(v:AV)(h':Hp):Prop:=
 ∃ρ' w' u,(s.run P w= .ok (.value u) w'∨(s.run P w= .ok .skip w'∧u=undef))∧u=enc ρ' v∧ok ρ' h'.next v∧Ext base ρ h w ρ' h' w'
theorem Yields.pure (R:bv base ρ h w){s:Sem Next}{v:AV}(hs:s.run P w= .ok (.value (enc ρ v)) w)(hv:ok ρ h.next v):Yields P base ρ h w s v h:=
 ⟨ρ,w,_,.inl hs,rfl,hv,Ext.refl R⟩
theorem dZ.list (E:dZ ρ h.next ev tm):∀{xs:List Operand} {ys:List bp},kv xs=some ys→xs.map ev=encs ρ (ys.map (val tm))∧gP ρ h.next (ys.map (val tm))
 |[],ys,hc=>by obtain rfl:=aa hc;exact⟨by simp[encs],trivial⟩
 | x ::xs,ys,hc=>by
  unfold kv at hc;split at hc
  ·rename_i a l h1 h2;obtain rfl:=aa hc;obtain⟨e1,e2⟩:=E.list h2;obtain⟨e3,e4⟩:=E _ _ h1;exact⟨by simp[encs,e1,e3],⟨e4,e2⟩⟩
  ·cases hc
theorem bind_some {α β:Type}{x:Option α}{f:α→Option β}{b:β}(hx:x.bind f=some b):∃a,x=some a∧f a=some b:=Option.bind_eq_some_iff.1 hx
theorem nB {t:TypeId}{n:Nat}(hc:pg P t=some n):∃i,P.info? t=some i∧i.size=n:=by
 unfold pg at hc;split at hc
 ·rename_i i hi;exact⟨i,hi,by simpa using hc⟩
 ·cases hc
theorem dC {t:TypeId}{n:Nat}(hc:pg P t=some n)(w:World):(sizeOf t).run P w= .ok n w:=by
 obtain⟨i,hi,rfl⟩:=nB hc;simp[sizeOf,typeInfo,hi]
theorem iN {t:TypeId}{a:Bool}(hc:oQ P t=some a)(w:World):(isAgg t).run P w= .ok a w:=by
 unfold oQ at hc;split at hc
 ·rename_i fs hu;obtain rfl:=aa hc;simp[isAgg,run_underlying hu]
 ·rename_i n e hu;obtain rfl:=aa hc;simp[isAgg,run_underlying hu]
 ·rename_i d hd1 hd2 hu;obtain rfl:=aa hc;simp only[isAgg,Sem.run_bind,run_underlying hu,Result.andThen_ok];cases d<;>first|rfl|exact absurd rfl (hd1 _)|exact absurd rfl (hd2 _ _)|simp_all
 ·cases hc
theorem mb {t:TypeId}{z:List AV}(hc:ku P t=some z):∃i zv,P.info? t=some i∧i.zero=some zv∧rT zv.cells.toList=some z:=by
 unfold ku at hc;split at hc
 ·rename_i i hi;split at hc
  ·rename_i zv hz;exact⟨i,zv,hi,hz,hc⟩
  ·cases hc
 ·cases hc
theorem KF {t o:Nat}{cs:List AV}{own:Bool}{st:Nat}(R:bv base ρ h w)(ht:h.get t=some (.row cs own st)){v:AV}(hv:cs[o]?=some v):
  w.cell? ⟨(ρ t).b,(ρ t).o+o,none⟩=some (enc ρ v)∧ok ρ h.next v:=by
 have r:=R.row t cs own st ht;refine⟨r.cells o _ (by rw[cC,bK,hv];rfl),?_⟩;exact(cQ _ _ _).1 r.ok v (dh hv)
theorem qd {t o n:Nat}{cs:List AV}{own:Bool}{st:Nat}(R:bv base ρ h w)(ht:h.get t=some (.row cs own st)):
  w.rangeAt (ρ t).b ((ρ t).o+o) (encs ρ ((cs.drop o).take n))∧gP ρ h.next ((cs.drop o).take n):=by
 have r:=R.row t cs own st ht;refine⟨fun j v hv=>?_,(cQ _ _ _).2 fun v hv=>(cQ _ _ _).1 r.ok v (iJ (fE hv))⟩;rw[cC,bK,gi]at hv;split at hv
 ·rw[iW,←bK,←cC]at hv;have:=r.cells (o+j) v hv;rwa[show(ρ t).o+(o+j)=(ρ t).o+o+j by omega]at this
 ·simp at hv
theorem pb {t:TypeId}{a:Bool}{n tk o:Nat}{cs:List AV}{own:Bool}{st:Nat}(R:bv base ρ h w)(ha:oQ P t=some a)(hn:pg P t=some n)
  (ht:h.get tk=some (.row cs own st)) (hl:o+(if a then n else 1)≤cs.length) {v:AV} (hv:(if a then some (AV.agg ((cs.drop o).take (if a then n else 1)))else cs[o]?)=some v):
  (loadVar t ⟨(ρ tk).b,(ρ tk).o+o,none⟩).run P w= .ok (enc ρ v) w∧ok ρ h.next v:=by
 cases a with
 | true=>
  simp only[if_true]at hl hv;obtain rfl:=aa hv;obtain⟨hr,hk⟩:=qd (o:=o) (n:=n) R ht;refine⟨?_,hk⟩;obtain⟨i,hi,rfl⟩:=nB hn;have hlen:(encs ρ ((cs.drop o).take i.size)).length=i.size:=by rw[bX];simp;omega
  unfold oQ at ha;split at ha
  ·rename_i fs hu;simpa[enc]using run_loadVar_mid w (ρ tk).b ((ρ tk).o+o) t _ _ hr hu rfl (by simp[hi,hlen])
  ·rename_i m e hu;simpa[enc]using run_loadVar_mid w (ρ tk).b ((ρ tk).o+o) t _ _ hr hu rfl (by simp[hi,hlen])
  ·cases ha
  ·cases ha
 | false=>
  simp only[bZ,if_false]at hl hv;obtain⟨hc,hk⟩:=KF R ht hv;refine⟨?_,hk⟩;simp[loadVar,iN ha,hc]
end
section
variable {P:Program}{base:Nat}{ρ:dw}{h h':Hp}{w:World}{ev:Operand→Value}{tm:T AV}{v:AV}
variable {dst:Option Tmp}{ty:TypeId}{pos:String}{af:Array Edge}{gd:Option (Nat×Bool)}
theorem ai {α β:Type}{a a':α}{b b':β}(e:some (a,b)=some (a',b')):a=a'∧b=b':=by
 injection e with e;injection e with e1 e2;exact⟨e1,e2⟩
theorem Qz {x:Operand}{x':bp}(hx:cv x=some x')(E:dZ ρ h.next ev tm)(R:bv base ρ h w)(hr:GK x' (val tm) h=some (v,h')):
  Yields P base ρ h w (pure (.value (ev x))) v h':=by
 obtain⟨rfl,rfl⟩:=ai hr;exact Yields.pure R (by rw[(E _ _ hx).1];rfl) (E _ _ hx).2
theorem NU {c a b:Operand}{c' a' b':bp}(hc:cv c=some c')(ha:cv a=some a')(hb:cv b=some b')(E:dZ ρ h.next ev tm)(R:bv base ρ h w)
  (hr:po c' a' b' (val tm) h=some (v,h')):Yields P base ρ h w (do pure (.value (if ←asBool (ev c)then ev a else ev b))) v h':=by
 obtain⟨e1,_⟩:=E _ _ hc;obtain⟨e2,k2⟩:=E _ _ ha;obtain⟨e3,k3⟩:=E _ _ hb;unfold po at hr;split at hr
 ·rename_i e;obtain⟨rfl,rfl⟩:=ai hr;exact Yields.pure R (by rw[e1,e,e2];simp[enc,asBool]) k2
 ·rename_i e;obtain⟨rfl,rfl⟩:=ai hr;exact Yields.pure R (by rw[e1,e,e3];simp[enc,asBool]) k3
 ·cases hr
theorem NV {t:TypeId}{x:Operand}{x':bp}{a:Bool}{n:Nat}(ha:oQ P t=some a)(hn:pg P t=some n)(hx:cv x=some x')(E:dZ ρ h.next ev tm)(R:bv base ρ h w)
  (hr:pq a (if a then n else 1) x' (val tm) h=some (v,h')):Yields P base ρ h w (do pure (.value (←Instr.loadAt t (ev x)))) v h':=by
 obtain⟨e1,k1⟩:=E _ _ hx;unfold pq at hr;split at hr
 ·rename_i tk o e;split at hr
  ·rename_i cs own st ht;by_cases hl:o+(if a then n else 1)≤cs.length
   ·rw[if_pos hl]at hr
    have key:∀v',(if a then some (AV.agg ((cs.drop o).take (if a then n else 1)))else cs[o]?)=some v'→v'=v∧h=h'→Yields P base ρ h w (do pure (.value (←Instr.loadAt t (ev x)))) v h':=by
     rintro v' hv' ⟨rfl,rfl⟩;obtain⟨h1,h2⟩:=pb R ha hn ht hl hv';refine Yields.pure R ?_ h2;rw[e1,e];simp[enc,Instr.loadAt,Instr.sureAddr,h1]
    cases a with
    |true=>exact key _ rfl (ai hr)
    | false=>
     simp only[bZ,if_false]at hr;split at hr
     ·rename_i v' hv';exact key v' (by simpa using hv') (ai hr)
     ·cases hr
   ·rw[if_neg hl]at hr;cases hr
  ·cases hr
 ·cases hr
theorem JB {x:Operand}{x':bp}(hx:cv x=some x')(E:dZ ρ h.next ev tm)(R:bv base ρ h w)(hr:ol x' (val tm) h=some (v,h')):
    Yields P base ρ h w (execOp ev ⟨dst,.nilCheck x,ty,pos,af,gd⟩) v h':=by
  obtain⟨e1,k1⟩:=E _ _ hx;unfold ol at hr
  split at hr<;>first
    | (rename_i e;obtain⟨rfl,rfl⟩:=ai hr
       exact Yields.pure R (by simp only[execOp];rw[e1,e];simp[enc]) (by rw[←e];exact k1))
    |cases hr
theorem FV {op:BinOp}{k k':IntKind}{x y:Int}{v:AV}(hr:mS op k x k' y=some v)(t:TypeId):(binOp op t (.int k x) (.int k' y)).run P w= .ok (enc ρ v) w∧ok ρ h.next v:=by
 unfold mS at hr;split at hr
 ·split at hr
  ·cases hr
  ·rename_i hy;obtain rfl:=aa hr;exact⟨by simp[binOp,Op.shift,hy,enc],trivial⟩
 ·split at hr
  ·cases hr
  ·rename_i hy;obtain rfl:=aa hr;exact⟨by simp[binOp,Op.shift,hy,enc],trivial⟩
 ·rename_i n1 n2;rw[fx]at hr;by_cases hk:k=k'
  ·subst hk;simp only[decide_true]at hr;unfold ki at hr;split at hr
   ·rw[gK,Dp]at hr;obtain rfl:=aa hr;exact⟨by simp[binOp,Op.intArith,enc],trivial⟩
   ·rw[gK,sx]at hr;obtain rfl:=aa hr;exact⟨by simp[binOp,Op.intArith,enc],trivial⟩
   ·rw[gK,CW]at hr;obtain rfl:=aa hr;exact⟨by simp[binOp,Op.intArith,enc],trivial⟩
   ·rw[mw]at hr;by_cases hy:y=0
    ·simp[hy]at hr
    ·have:(y==0)=false:=by simpa using hy
     rw[this,gK,CL]at hr;obtain rfl:=aa hr;exact⟨by simp[binOp,Op.intDiv,hy,enc],trivial⟩
   ·rw[mw]at hr;by_cases hy:y=0
    ·simp[hy]at hr
    ·have:(y==0)=false:=by simpa using hy
     rw[this,xd,CI]at hr;obtain rfl:=aa hr;exact⟨by simp[binOp,Op.intDiv,hy,enc],trivial⟩
   ·rw[mw]at hr;obtain rfl:=aa hr;exact⟨by simp[binOp,Op.intCmp,enc],trivial⟩
   ·rw[mw]at hr;obtain rfl:=aa hr;exact⟨by simp[binOp,Op.intCmp,enc,bne],trivial⟩
   ·rw[ny]at hr;obtain rfl:=aa hr;exact⟨by simp[binOp,Op.intCmp,enc],trivial⟩
   ·rw[xe]at hr;obtain rfl:=aa hr;exact⟨by simp[binOp,Op.intCmp,enc],trivial⟩
   ·rw[ny]at hr;obtain rfl:=aa hr;exact⟨by simp[binOp,Op.intCmp,enc],trivial⟩
   ·rw[xe]at hr;obtain rfl:=aa hr;exact⟨by simp[binOp,Op.intCmp,enc],trivial⟩
   ·unfold wm at hr
    split at hr<;>first
     |(obtain rfl:=aa hr;exact⟨by simp[binOp,Op.intBits,enc],trivial⟩)
     |cases hr
  ·simp[hk]at hr
theorem KN (bs:ByteArray):∀(n i:Nat) (r:List UInt8),bs.size-i=n→ll bs i r=r.reverse++bs.data.toList.drop i:=by
  intro n
  induction n with
  | zero=>
    intro i r hn;rw[ll];have:¬i<bs.size:=by omega
    rw[if_neg this]
    have : bs.data.toList.drop i = [] := List.drop_eq_nil_of_le (by have:bs.data.toList.length=bs.size:=fN
                                                                    omega)
    simp[this]
  | succ n ih=>
    intro i r hn;rw[ll];have hi:i<bs.size:=by omega
    rw[if_pos hi,ih _ _ (by omega)];have hlen:bs.data.toList.length=bs.size:=fN;rw[List.drop_eq_getElem_cons (by omega:i<bs.data.toList.length)]
    have:bs.get! i=bs.data.toList[i]'(by omega):=by
      cases bs with|mk d=>
      have hd:i<d.size:=by simpa[ByteArray.size]using hi
      simp[ByteArray.get!,getElem!_pos d i hd]
    simp[this]
theorem rC (s:List UInt8):(⟨s.toArray⟩:ByteArray).toList=s:=by
 unfold ByteArray.toList;rw[KN _ _ 0 [] rfl];simp
theorem fT (s:List UInt8):(⟨s.toArray⟩:ByteArray).size=s.length:=by simp[ByteArray.size]
theorem FS {op:BinOp}{x y:List UInt8}{v:AV}(hr:DE op x y=some v)(t:TypeId):(binOp op t (.string ⟨x.toArray⟩) (.string ⟨y.toArray⟩)).run P w= .ok (enc ρ v) w∧ok ρ h.next v:=by
  unfold DE at hr;split at hr
  · split at hr
    · cases hr
    · rename_i hl
      obtain rfl:=aa hr;refine⟨?_,trivial⟩;simp only[binOp,Op.stringOp,fT,hl,if_false,enc,Sem.run_pure];congr 2
  all_goals first
    | (obtain rfl:=aa hr
       exact⟨by simp[binOp,Op.stringOp,rC,enc],trivial⟩)
    |cases hr
end
section
variable {P:Program}{base:Nat}{ρ:dw}{h h':Hp}{w:World}{ev:Operand→Value}{tm:T AV}{v:AV}
variable {dst:Option Tmp}{ty:TypeId}{pos:String}{af:Array Edge}{gd:Option (Nat×Bool)}
theorem UJ {op:UnOp}{x:Operand}{x':bp}(hx:cv x=some x')(E:dZ ρ h.next ev tm)(R:bv base ρ h w)(hr:Bb op x' (val tm) h=some (v,h')):
  Yields P base ρ h w (do pure (.value (←Op.unary op (ev x)))) v h':=by
 obtain⟨e1,k1⟩:=E _ _ hx;unfold Bb at hr;split at hr
 ·rename_i v' hv;obtain⟨rfl,rfl⟩:=ai hr;unfold Ny at hv;split at hv
  ·rename_i k n e;rw[gK,sx]at hv;obtain rfl:=aa hv;exact Yields.pure R (by rw[e1,e];simp[enc,Op.unary,Op.intArith]) trivial
  ·rename_i k n e;unfold wm at hv;simp only at hv;obtain rfl:=aa hv;exact Yields.pure R (by rw[e1,e];simp[enc,Op.unary,Op.intBits]) trivial
  ·rename_i b e;obtain rfl:=aa hv;exact Yields.pure R (by rw[e1,e];simp[enc,Op.unary]) trivial
  ·cases hv
 ·cases hr
theorem QK {s d:TypeId}{k0 k:IntKind}{x:Operand}{x':bp}(hs:P.underlying s=some (.int k0))(hd:P.underlying d=some (.int k))(hx:cv x=some x')(E:dZ ρ h.next ev tm)(R:bv base ρ h w)
  (hr:tH k x' (val tm) h=some (v,h')):Yields P base ρ h w (do pure (.value (←convert s d (ev x)))) v h':=by
 obtain⟨e1,k1⟩:=E _ _ hx;unfold tH at hr;split at hr
 ·rename_i k2 n e;rw[gK]at hr;obtain⟨rfl,rfl⟩:=ai hr;exact Yields.pure R (by rw[e1,e];simp[enc,convert,run_underlying hs,run_underlying hd,Conv.intToInt]) trivial
 ·cases hr
theorem QJ {s d:TypeId}{x:Operand}{x':bp}(hs:P.underlying s=some .string)(hd:P.underlying d=some .string)(hx:cv x=some x')(E:dZ ρ h.next ev tm)(R:bv base ρ h w)
  (hr:tG x' (val tm) h=some (v,h')):Yields P base ρ h w (do pure (.value (←convert s d (ev x)))) v h':=by
 obtain⟨e1,k1⟩:=E _ _ hx;unfold tG at hr;split at hr
 ·rename_i e;obtain⟨rfl,rfl⟩:=ai hr;exact Yields.pure R (by rw[e1,e];simp[enc,convert,run_underlying hs,run_underlying hd]) trivial
 ·cases hr
theorem QB {t:TypeId}{d:TypeDesc}{x:Operand}{x':bp}(hd:P.underlying t=some d)(mZ:∀ms,d≠ .interface ms)(hx:cv x=some x')(E:dZ ρ h.next ev tm)(R:bv base ρ h w)
  (hr:yP t x' (val tm) h=some (v,h')):Yields P base ρ h w (do pure (.value (←Instr.makeInterface t (ev x)))) v h':=by
 obtain⟨e1,k1⟩:=E _ _ hx;obtain⟨rfl,rfl⟩:=ai hr;refine Yields.pure R ?_ k1;simp only[Instr.makeInterface,Sem.run_bind,run_underlying hd,Result.andThen_ok,enc,e1];cases d<;>first|rfl|exact absurd rfl (mZ _)
theorem QC {f:FuncId}{cs:List Operand}{vY:List bp}(hx:kv cs=some vY)(E:dZ ρ h.next ev tm)(R:bv base ρ h w)(hr:yQ f vY (val tm) h=some (v,h')):
  Yields P base ρ h w (do pure (.value (←Instr.makeFunc (.func f) (qJ ev #[]) (qJ ev cs.toArray)))) v h':=by
 obtain⟨rfl,rfl⟩:=ai hr;obtain⟨h1,h2⟩:=E.list hx;exact Yields.pure R (by simp[Instr.makeFunc,enc,h1]) h2
theorem rB {ev:Operand→Value}{x:Option Operand}{x':Option bp}(hx:mM x=some x')(E:dZ ρ h.next ev tm){lo hi dflt n:Nat}(hb:bound (x'.map (val tm)) 0 hi dflt=some n):
  (x=none∧n=dflt)∨∃y k,x=some y∧ev y= .int k (n:Int)∧n≤hi:=by
 cases x with
 |none=>obtain rfl:=aa hx;exact .inl ⟨rfl,by simpa[bound]using hb.symm⟩
 | some y=>
  simp only[mM]at hx;split at hx
  ·rename_i a ha;obtain rfl:=aa hx;obtain⟨e1,_⟩:=E _ _ ha;simp only[cJ]at hb;unfold bound at hb;split at hb
   ·simp_all
   ·rename_i k i e;split at hb
    ·rename_i hi';obtain rfl:=aa hb;injection e with e
     refine .inr ⟨y,k,rfl,?_,by omega⟩;rw[e1,e];simp only[enc];congr 1;omega
    ·cases hb
   ·cases hb
  ·cases hx
theorem jH {isS:Bool}{len cap:Nat}{lo hi:Option Operand}{IN hi':Option bp}(hlo:mM lo=some IN)(D6:mM hi=some hi')(E:dZ ρ h.next ev tm){l n:Nat}(hlen:len≤cap)
  (h1:bound (hi'.map (val tm)) 0 len len=some n) (h2:bound (IN.map (val tm)) 0 n 0=some l) (w:World):
  (Instr.sliceBounds isS len cap (lo.map ev) (hi.map ev) none).run P w= .ok (l,n,cap) w∧n≤len∧l≤n:=by
 have b1:=rB (lo:=0) D6 E h1;have b2:=rB (lo:=0) hlo E h2
 have sb:∀(k:IntKind) (m y:Nat) (code:BoundsCode),m≤y→(Instr.sliceBound (.int k (m:Int)) y code).run P w= .ok m w:=by
  intro k m y code hm;simp[Instr.sliceBound,asIntOf,hm]
 rcases b1 with⟨rfl,rfl⟩|⟨y1,k1,rfl,g1,g2⟩<;>rcases b2 with⟨rfl,rfl⟩|⟨y2,k2,rfl,g3,g4⟩
 ·simp[Instr.sliceBounds]
 ·refine⟨?_,by omega,by omega⟩;simp[Instr.sliceBounds,g3,sb _ _ _ _ g4]
 ·refine⟨?_,by omega,by omega⟩;simp[Instr.sliceBounds,g1,sb _ _ _ _ (show n≤cap by omega)]
 ·refine⟨?_,by omega,by omega⟩;simp[Instr.sliceBounds,g1,g3,sb _ _ _ _ (show n≤cap by omega),sb _ _ _ _ g4]
theorem BZ (s:List UInt8)(l n:Nat):(⟨s.toArray⟩:ByteArray).extract l n=⟨((s.take n).drop l).toArray⟩:=by
 apply ByteArray.ext;rw[ByteArray.data_extract];apply oM;simp[qI]
theorem Qw {t:TypeId}{x:Operand}{x':bp}{lo hi:Option Operand}{IN hi':Option bp}(ht:P.underlying t=some .string)(hx:cv x=some x')(hlo:mM lo=some IN)(D6:mM hi=some hi')
  (E:dZ ρ h.next ev tm) (R:bv base ρ h w) (hr:tB x' IN hi' (val tm) h=some (v,h')):Yields P base ρ h w (do pure (.value (←Instr.sliceAt t (ev x) (lo.map ev) (hi.map ev) none))) v h':=by
 obtain⟨e1,k1⟩:=E _ _ hx;unfold tB at hr;split at hr
 ·rename_i s e;split at hr
  ·rename_i v' hv;obtain⟨rfl,rfl⟩:=ai hr;unfold AM at hv;split at hv
   ·cases hv
   ·rename_i n hn;split at hv
    ·cases hv
    ·rename_i l hl;obtain rfl:=aa hv;obtain⟨r1,r2,r3⟩:=jH (P:=P) (isS:=false) (cap:=s.length) hlo D6 E (ae _) hn hl w;refine Yields.pure R ?_ trivial;rw[e1,e];simp[Instr.sliceAt,Instr.slice,run_underlying ht,enc,fT,r1,BZ]
  ·cases hr
 ·cases hr
theorem NY {s:TypeId}{i n:Nat}{f:Field}{x:Operand}{x':bp}(hf:ru P s i=some f)(hn:pg P f.type=some n)(hn0:¬n=0)(hx:cv x=some x')(E:dZ ρ h.next ev tm)(R:bv base ρ h w)
  (hr:px f.offset x' (val tm) h=some (v,h')):Yields P base ρ h w (do pure (.value (←Instr.fieldAt s (ev x) i))) v h':=by
 obtain⟨e1,k1⟩:=E _ _ hx;unfold px at hr;split at hr
 ·rename_i t o e;obtain⟨rfl,rfl⟩:=ai hr;rw[e]at k1;refine Yields.pure R ?_ k1;unfold ru at hf;split at hf
  ·rename_i fs hu;rw[e1,e];simp[Instr.fieldAt,run_underlying hu,hf,Instr.sureAddr,enc,fieldPlace,dC hn,hn0,Addr.add_mid,dz]
  ·cases hf
 ·cases hr
theorem FT {t:TypeId}{a:Bool}{n o:Nat}{cs:List AV}(ha:oQ P t=some a)(hn:pg P t=some n)(hl:o+(if a then n else 1)≤cs.length){v:AV}
  (hv:(if a then some (AV.agg ((cs.drop o).take (if a then n else 1)))else cs[o]?)=some v) (w:World):(part t (encs ρ cs).toArray o).run P w= .ok (enc ρ v) w:=by
 cases a with
 | true=>
  simp only[if_true]at hl hv;obtain rfl:=aa hv;simp only[part,Sem.run_bind,iN ha,Result.andThen_ok,if_true,dC hn,Sem.run_pure,enc];congr 2;apply oM;simp[cC,qI,rZ,rY]
 | false=>
  simp only[bZ,if_false]at hl hv;simp only[part,Sem.run_bind,iN ha,Result.andThen_ok,bZ,if_false];have:(encs ρ cs).toArray[o]?=some (enc ρ v):=by simp[cC,hv]
  rw[this];rfl
theorem QG {s:TypeId}{i n:Nat}{a:Bool}{f:Field}{x:Operand}{x':bp}(hf:ru P s i=some f)(ha:oQ P f.type=some a)(hn:pg P f.type=some n)(hx:cv x=some x')(E:dZ ρ h.next ev tm)(R:bv base ρ h w)
  (hr:tE a f.offset (if a then n else 1) x' (val tm) h=some (v,h')):Yields P base ρ h w (do pure (.value (←Instr.field s (ev x) i))) v h':=by
 obtain⟨e1,k1⟩:=E _ _ hx;unfold tE at hr;split at hr
 ·rename_i cs e;rw[e]at k1;by_cases hl:f.offset+(if a then n else 1)≤cs.length
  ·rw [if_pos hl]at hr
   have key:∀v',(if a then some (AV.agg ((cs.drop f.offset).take (if a then n else 1)))else cs[f.offset]?)=some v'→v'=v∧h=h'→Yields P base ρ h w (do pure (.value (←Instr.field s (ev x) i))) v h':=by
    rintro v' hv' ⟨rfl,rfl⟩;refine Yields.pure R ?_ ?_
    ·unfold ru at hf;split at hf
     ·rename_i fs hu;rw[e1,e];simp[Instr.field,run_underlying hu,hf,asAgg,enc,FT ha hn hl hv']
     ·cases hf
    ·cases a with
     | true=>
      obtain rfl:=aa hv';exact(cQ _ _ _).2 fun y hy=>(cQ _ _ _).1 k1 y (iJ (fE hy))
     |false=>exact(cQ _ _ _).1 k1 _ (dh (by simpa using hv'))
   cases a with
   |true=>exact key _ rfl (ai hr)
   | false=>
    simp only[bZ,if_false]at hr;split at hr
    ·rename_i v' hv';exact key v' (by simpa using hv') (ai hr)
    ·cases hr
  ·rw[if_neg hl]at hr;cases hr
 ·cases hr
theorem NX {t e:TypeId}{s:Nat}{x i:Operand}{x' i':bp}(ht:P.underlying t=some (.slice e))(hs:pg P e=some s)(hx:cv x=some x')(hi:cv i=some i')(E:dZ ρ h.next ev tm)(R:bv base ρ h w)
  (hr:pw s x' i' (val tm) h=some (v,h')):Yields P base ρ h w (do pure (.value (←Instr.indexAt t (ev x) (ev i)))) v h':=by
 obtain⟨e1,k1⟩:=E _ _ hx;obtain⟨e2,k2⟩:=E _ _ hi;unfold pw at hr;split at hr
 ·rename_i tk o n z k j g1 g2;split at hr
  ·rename_i hj;obtain⟨rfl,rfl⟩:=ai hr;rw[g1]at k1;refine Yields.pure R ?_ k1.1;rw[e1,e2,g1,g2];simp[Instr.indexAt,asIntOf,run_underlying ht,enc,hj,dC hs,Addr.add_mid,dz]
  ·cases hr
 ·cases hr
theorem JD {t e:TypeId}{s m:Nat}{x i:Operand}{x' i':bp}(ht:P.underlying t=some (.array m e))(hs:pg P e=some s)(hx:cv x=some x')(hi:cv i=some i')(E:dZ ρ h.next ev tm)(R:bv base ρ h w)
  (hr:mi s m x' i' (val tm) h=some (v,h')):Yields P base ρ h w (do pure (.value (←Instr.indexAt t (ev x) (ev i)))) v h':=by
 obtain⟨e1,k1⟩:=E _ _ hx;obtain⟨e2,k2⟩:=E _ _ hi;unfold mi at hr;split at hr
 ·rename_i tk o k j g1 g2;split at hr
  ·rename_i hj;obtain⟨rfl,rfl⟩:=ai hr;rw[g1]at k1;refine Yields.pure R ?_ k1;rw[e1,e2,g1,g2];simp[Instr.indexAt,asIntOf,run_underlying ht,enc,hj,dC hs,Addr.add_mid,dz,Instr.sureAddr]
  ·cases hr
 ·cases hr
theorem NW {t:TypeId}{x i:Operand}{x' i':bp}(ht:P.underlying t=some .string)(hx:cv x=some x')(hi:cv i=some i')(E:dZ ρ h.next ev tm)(R:bv base ρ h w)
  (hr:pu x' i' (val tm) h=some (v,h')):Yields P base ρ h w (do pure (.value (←Instr.index t (ev x) (ev i)))) v h':=by
 obtain⟨e1,k1⟩:=E _ _ hx;obtain⟨e2,k2⟩:=E _ _ hi;unfold pu at hr;split at hr
 ·rename_i s k j g1 g2;split at hr
  ·rename_i hj;split at hr
   ·rename_i b hb;obtain⟨rfl,rfl⟩:=ai hr;refine Yields.pure R ?_ trivial;rw[e1,e2,g1,g2]
    have:(⟨s.toArray⟩:ByteArray)[j.toNat]?=some b:=by
     obtain⟨hlt,rfl⟩:=aZ.1 hb;have:j.toNat<(⟨s.toArray⟩:ByteArray).size:=by rw[fT];exact hlt
     rw[getElem?_pos (⟨s.toArray⟩:ByteArray) j.toNat this];rfl
    simp[Instr.index,asIntOf,run_underlying ht,enc,hj,this]
   ·cases hr
  ·cases hr
 ·cases hr
theorem QH {x:Operand}{x':bp}{i:Nat}(hx:cv x=some x')(E:dZ ρ h.next ev tm)(R:bv base ρ h w)(hr:tF x' i (val tm) h=some (v,h')):
  Yields P base ρ h w (do pure (.value (←Instr.extract (ev x) i))) v h':=by
 obtain⟨e1,k1⟩:=E _ _ hx;unfold tF at hr;split at hr
 ·rename_i l e;split at hr
  ·rename_i v' hv;obtain⟨rfl,rfl⟩:=ai hr;rw[e]at k1;refine Yields.pure R ?_ ((cQ _ _ _).1 k1 _ (dh hv));rw[e1,e];have:(encs ρ l).toArray[i]?=some (enc ρ v'):=by simp[cC,hv]
   simp[Instr.extract,enc,this]
  ·cases hr
 ·cases hr
theorem F6 {t:TypeId}{d:TypeDesc}{q:IK}{x:Operand}{x':bp}(ht:P.underlying t=some d)(hq:match q,d with| .str,.string=>True| .slice,.slice _=>True| .arr n,.array m _=>n=m|_,_=>False)
  (hx:cv x=some x') (E:dZ ρ h.next ev tm) (R:bv base ρ h w) (hr:tD q x' (val tm) h=some (v,h')):
  Yields P base ρ h w (do pure (.value (←Builtin.len_ #[t] ty #[ev x]))) v h':=by
 obtain⟨e1,k1⟩:=E _ _ hx;unfold tD at hr;split at hr
 ·rename_i s e;obtain⟨rfl,rfl⟩:=ai hr;cases d<;>simp at hq
  exact Yields.pure R (by rw[e1,e];simp[Builtin.len_,run_underlying ht,enc,goInt,fT]) trivial
 ·rename_i tk o n z e;obtain⟨rfl,rfl⟩:=ai hr;cases d<;>simp at hq
  exact Yields.pure R (by rw[e1,e];simp[Builtin.len_,run_underlying ht,enc,goInt]) trivial
 ·rename_i e;obtain⟨rfl,rfl⟩:=ai hr;cases d<;>simp at hq
  exact Yields.pure R (by rw[e1,e];simp[Builtin.len_,run_underlying ht,enc,goInt]) trivial
 ·rename_i e;obtain⟨rfl,rfl⟩:=ai hr;cases d<;>simp at hq
  exact Yields.pure R (by rw[e1,e];simp[Builtin.len_,run_underlying ht,enc,goInt]) trivial
 ·rename_i n y e;obtain⟨rfl,rfl⟩:=ai hr;cases d<;>simp at hq
  subst hq;exact Yields.pure R (by simp[Builtin.len_,run_underlying ht,enc,goInt]) trivial
 ·cases hr
theorem QE {xs:List Operand}{PU:List bp}(hx:kv xs=some PU)(E:dZ ρ h.next ev tm)(R:bv base ρ h w)(hr:yN PU (val tm) h=some (v,h')){ats:Array TypeId}:
  Yields P base ρ h w (do pure (.value (←Builtin.max_ ats ty (xs.map ev).toArray))) v h':=by
 obtain⟨h1,h2⟩:=E.list hx;unfold yN at hr;split at hr
 ·rename_i y r e;split at hr
  ·rename_i v' hv;obtain⟨rfl,rfl⟩:=ai hr;rw[e]at h1
   have key:∀(r:List AV) (y v:AV),qw tM y r=some v→(List.foldlM Builtin.max2 (enc ρ y) (encs ρ r)).run P w= .ok (enc ρ v) w∧(ok ρ h.next y→ok ρ h.next v):=by
    intro r
    induction r with
    |nil=>intro y v hv;obtain rfl:=aa hv;exact⟨rfl,id⟩
    | cons a r ih=>
     intro y v hv;unfold qw at hv;split at hv
     ·rename_i z hz;obtain⟨i1,i2⟩:=ih z v hv;unfold tM at hz;split at hz
      ·rename_i k p k' q;rw[ny]at hz;obtain rfl:=aa hz;refine⟨?_,fun _=>i2 trivial⟩;simp only[encs,List.foldlM_cons,Sem.run_bind,enc,Builtin.max2,Sem.run_pure,Result.andThen_ok];rw[←i1];simp only[enc];by_cases VU:p<q<;>simp[VU]
      ·cases hz
     ·cases hv
   rw[e]at h2;obtain⟨k1,k2⟩:=key r y v' hv;refine Yields.pure R ?_ (k2 h2.1);simp only[Builtin.max_,h1,encs,Sem.run_bind,k1,Result.andThen_ok,Sem.run_pure]
  ·cases hr
 ·cases hr
theorem QD {xs:List Operand}{PU:List bp}(hx:kv xs=some PU)(E:dZ ρ h.next ev tm)(R:bv base ρ h w)(hr:yO PU (val tm) h=some (v,h')){ats:Array TypeId}:
  Yields P base ρ h w (do pure (.value (←Builtin.min_ ats ty (xs.map ev).toArray))) v h':=by
 obtain⟨h1,h2⟩:=E.list hx;unfold yO at hr;split at hr
 ·rename_i y r e;split at hr
  ·rename_i v' hv;obtain⟨rfl,rfl⟩:=ai hr;rw[e]at h1
   have key:∀(r:List AV) (y v:AV),qw tL y r=some v→(List.foldlM Builtin.min2 (enc ρ y) (encs ρ r)).run P w= .ok (enc ρ v) w∧(ok ρ h.next y→ok ρ h.next v):=by
    intro r
    induction r with
    |nil=>intro y v hv;obtain rfl:=aa hv;exact⟨rfl,id⟩
    | cons a r ih=>
     intro y v hv;unfold qw at hv;split at hv
     ·rename_i z hz;obtain⟨i1,i2⟩:=ih z v hv;unfold tL at hz;split at hz
      ·rename_i k p k' q;rw[ny]at hz;obtain rfl:=aa hz;refine⟨?_,fun _=>i2 trivial⟩;simp only[encs,List.foldlM_cons,Sem.run_bind,enc,Builtin.min2,Sem.run_pure,Result.andThen_ok];rw[←i1];simp only[enc];by_cases VU:q<p<;>simp[VU]
      ·cases hz
     ·cases hv
   rw[e]at h2;obtain⟨k1,k2⟩:=key r y v' hv;refine Yields.pure R ?_ (k2 h2.1);simp only[Builtin.min_,h1,encs,Sem.run_bind,k1,Result.andThen_ok,Sem.run_pure]
  ·cases hr
 ·cases hr
end
section
variable {P:Program}{base:Nat}{ρ:dw}{h h':Hp}{w:World}{ev:Operand→Value}{tm:T AV}{v:AV}
theorem rS (xs ys:List AV):∀(a b:List (Nat×LK)),pG xs ys (a++b)=match pG xs ys a with|some true=>pG xs ys b|r=>r
 |[],b=>by simp[pG]
 | (i,k)::a,b=>by
  simp only[List.cons_append,pG,rS xs ys a b];split
  ·split<;>rfl
  ·rfl
theorem ud (xs ys:List AV)(o n:Nat):∀(a:List (Nat×LK)),(a.all fun x=>x.1<n)=true→pG ((xs.drop o).take n) ((ys.drop o).take n) a=pG xs ys (a.map fun x=>(o+x.1,x.2))
 |[],_=>rfl
 | (i,k)::a,ha=>by
  simp only[iO,bz,decide_eq_true_eq]at ha;have ih:=ud xs ys o n a ha.2;simp only[eH,pG,ih,gi,iW,ha.1,if_true]
theorem zU (xs:List AV)(i:Nat):(encs ρ xs).toArray[i]?=(xs[i]?).map (enc ρ):=by simp[cC]
theorem xD (a b:List UInt8):((⟨a.toArray⟩:ByteArray)==⟨b.toArray⟩)=(a==b):=by
 rw[beq_toListBytes,rC,rC]
theorem FU {t:TypeId}{k:LK}(D:Nat)(hk:match P.underlying t,k with|some (.int _),.int=>True|some .bool,.bool=>True|some .string,.str=>True|_,_=>False){a b:AV}{r:Bool}(hr:ue k a b=some r)(w:World):
  (Op.equalIn (D+1) t (enc ρ a) (enc ρ b)).run P w= .ok r w:=by
 unfold ue at hr;split at hr
 ·rename_i k1 x k2 y;rw[fx]at hr;by_cases hkk:k1=k2
  ·subst hkk;rw[mw]at hr;simp only[decide_true]at hr;obtain rfl:=aa hr;cases hu:P.underlying t with
   |none=>simp[hu]at hk
   | some d=>
    cases d<;>simp[hu]at hk
    simp[Op.equalIn,run_underlying hu,enc]
  ·simp[hkk]at hr
 ·obtain rfl:=aa hr;cases hu:P.underlying t with
  |none=>simp[hu]at hk
  | some d=>
   cases d<;>simp[hu]at hk
   simp[Op.equalIn,run_underlying hu,enc]
 ·obtain rfl:=aa hr;cases hu:P.underlying t with
  |none=>simp[hu]at hk
  | some d=>
   cases d<;>simp[hu]at hk
   simp only[Op.equalIn,run_underlying hu,enc,Sem.run_bind,Result.andThen_ok,Sem.run_pure,xD]
 ·cases hr
def Dt (P:Program)(lv:TypeId→Option (List (Nat×LK)))(D:Nat):Prop:=
 ∀ (u:TypeId) (a:List (Nat×LK)) (n:Nat),lv u=some a→pg P u=some n→(a.all fun x=>x.1<n)=true→∀(ρ:dw) (xs ys:List AV) (o:Nat) (r:Bool) (w:World),pG xs ys (a.map fun x=>(o+x.1,x.2))=some r→
  ∃va vb,(part u (encs ρ xs).toArray o).run P w= .ok va w∧(part u (encs ρ ys).toArray o).run P w= .ok vb w∧(Op.equalIn D u va vb).run P w= .ok r w
theorem mf {lv:TypeId→Option (List (Nat×LK))}{D:Nat}(hF:Dt P lv D):∀(fs:List Field) (ls:List (Nat×LK)),sB P lv fs=some ls→∀(xs ys:List AV) (r:Bool) (w:World),pG xs ys ls=some r→
  (Op.eqFields D (encs ρ xs).toArray (encs ρ ys).toArray fs).run P w= .ok r w
 | [],ls,hl,xs,ys,r,w,hr=>by
  obtain rfl:=aa hl;obtain rfl:=aa hr;simp[Op.eqFields]
 | f ::fs,ls,hl,xs,ys,r,w,hr=>by
  unfold sB at hl;split at hl
  ·rename_i a n b hn ha hs hb;split at hl
   ·rename_i jR;obtain rfl:=aa hl;rw[rS]at hr;have MN:f.name≠ "_" :=by simpa using hn
    have ih:=mf hF fs b hb xs ys;cases h1:pG xs ys (a.map fun x=>(f.offset+x.1,x.2))with
    |none=>rw[h1]at hr;cases hr
    | some r1=>
     obtain⟨va,vb,g1,g2,g3⟩:=hF f.type a n ha hs jR ρ xs ys f.offset r1 w h1;rw[h1]at hr;cases r1 with
     |true=>simp[Op.eqFields,MN,g1,g2,g3,ih r w hr]
     | false=>
      obtain rfl:=aa hr;simp[Op.eqFields,MN,g1,g2,g3]
   ·cases hl
  ·cases hl
theorem tg:∀(d D:Nat),d≤D→Dt P (leaves P d) D
  |0,D,_=>fun u a n h0=>by simp[leaves]at h0
  |d+1,0,hD=>by omega
  | d + 1,D+1,hD=>by
    intro u a n ha hn jR ρ xs ys o r w hr;unfold leaves at ha
    have leaf:∀(k:LK),a=[(0,k)]→oQ P u=some false→(match P.underlying u,k with|some (.int _),.int=>True|some .bool,.bool=>True|some .string,.str=>True|_,_=>False)→
        ∃va vb,(part u (encs ρ xs).toArray o).run P w= .ok va w∧(part u (encs ρ ys).toArray o).run P w= .ok vb w∧(Op.equalIn (D+1) u va vb).run P w= .ok r w:=by
      intro k PJ hag hk;subst PJ;simp only[eH,List.map_nil,pG,aY]at hr;split at hr
      · rename_i x y hx hy
        have hr':ue k x y=some r:=by
          cases he:ue k x y with
          |none=>rw[he]at hr;cases hr
          |some b=>rw[he]at hr;cases b<;>simpa using hr
        refine⟨enc ρ x,enc ρ y,?_,?_,FU D hk hr' w⟩
        · simp only[part,Sem.run_bind,iN hag,Result.andThen_ok,bZ,if_false,zU,hx,cJ,Sem.run_pure]
        · simp only[part,Sem.run_bind,iN hag,Result.andThen_ok,bZ,if_false,zU,hy,cJ,Sem.run_pure]
      · cases hr
    split at ha
    · rename_i k hu;exact leaf .int (aa ha).symm (by simp[oQ,hu]) (by simp[hu])
    · rename_i hu;exact leaf .bool (aa ha).symm (by simp[oQ,hu]) (by simp[hu])
    · rename_i hu;exact leaf .str (aa ha).symm (by simp[oQ,hu]) (by simp[hu])
    · rename_i fs hu
      split at ha
      · cases ha
      · rename_i hst
        have hag:oQ P u=some true:=by simp[oQ,hu]
        have RH:P.fieldsOf u=fs:=by simp[Program.fieldsOf,hu]
        rw[←ud xs ys o n a jR]at hr;refine⟨.agg (encs ρ ((xs.drop o).take n)).toArray,.agg (encs ρ ((ys.drop o).take n)).toArray,?_,?_,?_⟩
        · simp only[part,Sem.run_bind,iN hag,Result.andThen_ok,if_true,dC hn,Sem.run_pure]
          congr 2;apply oM;simp[cC,qI,rZ,rY]
        · simp only[part,Sem.run_bind,iN hag,Result.andThen_ok,if_true,dC hn,Sem.run_pure]
          congr 2;apply oM;simp[cC,qI,rZ,rY]
        · rw[run_equalIn_struct w D u _ _ (by rw[RH];exact hu) (by simpa using hst),RH]
          exact mf (tg d D (by omega)) fs.toList a ha _ _ r w hr
    · cases ha
theorem qQ {t:TypeId}{ls:List (Nat×LK)}(hl:leaves P 20 t=some ls){xs ys:List AV}{r:Bool}(hr:pG xs ys ls=some r){fs:Array Field}(hu:P.underlying t=some (.struct fs))(w:World):
  (Op.equal t (.agg (encs ρ xs).toArray) (.agg (encs ρ ys).toArray)).run P w= .ok r w:=by
 have RH:P.fieldsOf t=fs:=by simp[Program.fieldsOf,hu]
 unfold leaves at hl;rw[hu]at hl;simp only at hl;split at hl
 ·cases hl
 ·rename_i hst;show(Op.equalIn (9999+1) t _ _).run P w=_
  rw[run_equalIn_struct w 9999 t _ _ (by rw[RH];exact hu) (by simpa using hst),RH];exact mf (tg 19 9999 (by omega)) fs.toList ls hl _ _ r w hr
variable {dst:Option Tmp}{ty:TypeId}{pos:String}{af:Array Edge}{gd:Option (Nat×Bool)}
theorem ic {op:BinOp}{t:TypeId}{x y:Operand}{a b:Value}(h1:∀l,a≠ .agg l)(h2:¬(a= .nilIface∧b= .nilIface)∨(nA x||nA y)=true)(w:World):(eqGuard op t x y a b).run P w= .ok () w:=by
 have main:∀(op:BinOp),(op= .eql∨op= .neq)→(eqGuard op t x y a b).run P w= .ok () w:=by
  intro op ho;by_cases hn:a= .nilIface∧b= .nilIface
  ·obtain⟨rfl,rfl⟩:=hn;have hc:=h2.resolve_left (by simp);rcases ho with rfl|rfl<;>cases x<;>cases y<;>first|rfl|(simp[nA]at hc)
  ·rcases ho with rfl|rfl<;>cases a<;>first
    |rfl
    |exact absurd rfl (h1 _)
    |(cases b<;>first|rfl|exact absurd ⟨rfl,rfl⟩ hn)
 cases op<;>first|rfl|exact main _ (.inl rfl)|exact main _ (.inr rfl)
theorem zm {op:BinOp}{t:TypeId}{x y:Operand}{a b:Array Value}(hg:P.eqGuardType P.depth t=false)(w:World):(eqGuard op t x y (.agg a) (.agg b)).run P w= .ok () w:=by
 cases op<;>first|rfl|(simp only[eqGuard];simp[hg])
theorem QI {op:BinOp}{t:TypeId}{x y:Operand}{X Y:AV}{r:Bool}(hq:vc (KD P op t x y) X Y=some r)(hni:∀k a k' b,X= .int k a→Y= .int k' b→False)(hns:∀a b,X= .str a→Y= .str b→False)(w:World):
    (eqGuard op t x y (enc ρ X) (enc ρ Y)).run P w= .ok () w∧(Op.equal t (enc ρ X) (enc ρ Y)).run P w= .ok r w∧
    (binOp .eql t (enc ρ X) (enc ρ Y)=do pure (.bool (←Op.equal t (enc ρ X) (enc ρ Y))))∧(binOp .neq t (enc ρ X) (enc ρ Y)=do pure (.bool (!(←Op.equal t (enc ρ X) (enc ρ Y))))):=by
  obtain⟨D,eqrun⟩:∃D,∀a b,Op.equal t a b=Op.equalIn (D+1) t a b:=⟨9999,fun _ _=>rfl⟩
  unfold KD at hq;split at hq
  case h_1 hu=>
    simp only[vc]at hq;unfold xu at hq
    split at hq<;>first
      | (obtain rfl:=aa hq
         refine⟨ic (by simp[enc]) (.inl (by simp[enc])) w,?_,by simp[enc,binOp],by simp[enc,binOp]⟩;simp only[eqrun,Op.equalIn,Sem.run_bind,run_underlying hu,Result.andThen_ok,enc,Sem.run_pure,jg,jf];done)
      |cases hq
  case h_2 hu=>
    simp only[vc]at hq;unfold MX at hq
    split at hq<;>first
      | (obtain rfl:=aa hq
         refine⟨ic (by simp[enc]) (.inl (by simp[enc])) w,?_,by simp[enc,binOp],by simp[enc,binOp]⟩;simp only[eqrun,Op.equalIn,Sem.run_bind,run_underlying hu,Result.andThen_ok,enc,Sem.run_pure,jg,jf];done)
      |cases hq
  case h_3 hu=>
    simp only[vc]at hq;unfold RY at hq
    split at hq<;>first
      | (obtain rfl:=aa hq
         refine⟨ic (by simp[enc]) (.inl (by simp[enc])) w,?_,by simp[enc,binOp],by simp[enc,binOp]⟩;simp only[eqrun,Op.equalIn,Sem.run_bind,run_underlying hu,Result.andThen_ok,enc,Sem.run_pure,jg,jf];done)
      |cases hq
  case h_4 hu=>
    simp only[vc]at hq;unfold MY at hq
    split at hq<;>first
      | (obtain rfl:=aa hq
         refine⟨ic (by simp[enc]) (.inl (by simp[enc])) w,?_,by simp[enc,binOp],by simp[enc,binOp]⟩;simp only[eqrun,Op.equalIn,Sem.run_bind,run_underlying hu,Result.andThen_ok,enc,Sem.run_pure,jg,jf];done)
      |cases hq
  case h_5 hu=>
    simp only[vc]at hq;unfold RZ at hq
    split at hq<;>first
      | (obtain rfl:=aa hq
         refine⟨ic (by simp[enc]) (.inl (by simp[enc])) w,?_,by simp[enc,binOp],by simp[enc,binOp]⟩;simp only[eqrun,Op.equalIn,Sem.run_bind,run_underlying hu,Result.andThen_ok,enc,Sem.run_pure,jg,jf];done)
      |cases hq
  case h_6 hu=>
    split at hq
    · rename_i hc
      simp only[vc]at hq;unfold MZ at hq
      split at hq<;>first
        | (obtain rfl:=aa hq
           refine⟨ic (by simp[enc]) (.inr hc) w,?_,by simp[enc,binOp],by simp[enc,binOp]⟩;simp only[eqrun,Op.equalIn,Sem.run_bind,run_underlying hu,Result.andThen_ok,enc,Sem.run_pure];done)
        |cases hq
    · simp[vc]at hq
  case h_7 hu=>
    split at hq
    · rename_i ls hl
      split at hq
      · simp[vc]at hq
      · rename_i hg
        simp only[vc]at hq;unfold C7 at hq;split at hq
        · simp only[enc]
          exact⟨zm (by simpa using hg) w,qQ hl hq hu w,by simp[binOp],by simp[binOp]⟩
        · cases hq
    · simp[vc]at hq
  case h_8=>simp[vc]at hq
theorem QM {op:BinOp}{t yt:TypeId}{x y:Operand}{x' y':bp}(hx:cv x=some x')(hy:cv y=some y')(E:dZ ρ h.next ev tm)(R:bv base ρ h w)
    (hr:tJ op (KD P op t x y) x' y' (val tm) h=some (v,h')):Yields P base ρ h w (do pure (.value (←(do eqGuard op t x y (ev x) (ev y);binOp op t (ev x) (ev y))))) v h':=by
  obtain⟨e1,k1⟩:=E _ _ hx;obtain⟨e2,k2⟩:=E _ _ hy;unfold tJ at hr;split at hr
  · rename_i v' hv
    obtain⟨rfl,rfl⟩:=ai hr
    have fin:(eqGuard op t x y (ev x) (ev y)).run P w= .ok () w→(binOp op t (ev x) (ev y)).run P w= .ok (enc ρ v') w→ok ρ h.next v'→Yields P base ρ h w (do pure (.value (←(do eqGuard op t x y (ev x) (ev y);binOp op t (ev x) (ev y))))) v' h:=
      fun g1 g2 g3=>Yields.pure R (by simp[g1,g2]) g3
    unfold dH at hv;split at hv
    · rename_i ka a kb b ea eb
      rw[ea]at e1;rw[eb]at e2;simp only[enc]at e1 e2;rw[e1,e2]at fin⊢;obtain⟨g1,g2⟩:=FV (h:=h) (P:=P) (ρ:=ρ) (w:=w) hv t;exact fin (ic (by simp) (.inl (by simp)) w) g1 g2
    · rename_i a b ea eb
      rw[ea]at e1;rw[eb]at e2;simp only[enc]at e1 e2;rw[e1,e2]at fin⊢;obtain⟨g1,g2⟩:=FS (h:=h) (P:=P) (ρ:=ρ) (w:=w) hv t;exact fin (ic (by simp) (.inl (by simp)) w) g1 g2
    · rename_i X Y n1 n2
      have main:∀r,vc (KD P op t x y) (val tm x') (val tm y')=some r→(eqGuard op t x y (ev x) (ev y)).run P w= .ok () w∧(Op.equal t (ev x) (ev y)).run P w= .ok r w∧
          (binOp .eql t (ev x) (ev y)=do pure (.bool (←Op.equal t (ev x) (ev y))))∧(binOp .neq t (ev x) (ev y)=do pure (.bool (!(←Op.equal t (ev x) (ev y))))):=by
        intro r hq;rw[e1,e2];exact QI hq (fun k a k' b h1 h2=>n1 k a k' b h1 h2) (fun a b h1 h2=>n2 a b h1 h2) w
      split at hv
      · obtain⟨r,Bv,rfl⟩:∃r,vc (KD P .eql t x y) (val tm x') (val tm y')=some r∧v'= .bool r:=by
          cases hq:vc (KD P .eql t x y) (val tm x') (val tm y')with
          |none=>rw[hq]at hv;cases hv
          |some r=>rw[hq]at hv;exact⟨r,rfl,by simpa using hv.symm⟩
        obtain⟨g1,g2,g3,g4⟩:=main r Bv;exact fin g1 (by rw[g3];simp[g2,enc]) trivial
      · obtain⟨r,Bv,rfl⟩:∃r,vc (KD P .neq t x y) (val tm x') (val tm y')=some r∧v'= .bool !r:=by
          cases hq:vc (KD P .neq t x y) (val tm x') (val tm y')with
          |none=>rw[hq]at hv;cases hv
          |some r=>rw[hq]at hv;exact⟨r,rfl,by simpa using hv.symm⟩
        obtain⟨g1,g2,g3,g4⟩:=main r Bv;exact fin g1 (by rw[g4];simp[g2,enc]) trivial
      · cases hv
  · cases hr
end
section
variable {P:Program}{base:Nat}{ρ:dw}{h h':Hp}{w:World}{ev:Operand→Value}{tm:T AV}{v:AV}
variable {dst:Option Tmp}{ty:TypeId}{pos:String}{af:Array Edge}{gd:Option (Nat×Bool)}
theorem Ext.wY (R:bv base ρ h w)(cs:List AV)(e:TypeId)(c sz:Nat)(h1:∀v∈cs,v.one=true)(h2:gP ρ h.next cs)(hc:c*sz≤cs.length):
  Ext base ρ h w (rK ρ h.next ⟨w.heap.size,0,c,sz⟩) (h.push fun s=> .row cs true s) (w.alloc (.cells (encs ρ cs).toArray e)):=by
 have:=Ext.newRow R cs e [] c sz h1 h2 (by simpa using hc) w.drawn;simpa using this
theorem Cp (ρ:dw)(N b c sz:Nat):enc (rK ρ N ⟨b,0,c,sz⟩) (.ptr N 0)= .pointer (some ⟨b,0,none⟩):=by simp[enc,rK]
theorem JF {e:TypeId}{z:List AV}(hz:ku P e=some z)(R:bv base ρ h w)(hr:om z (val tm) h=some (v,h')):
  Yields P base ρ h w (do pure (.value (←Instr.alloc e true (.tuple #[])))) v h':=by
 obtain⟨i,zv,h1,h2,h3⟩:=mb hz;obtain⟨e1,e2,e3⟩:=iR h3 ρ h.next;obtain⟨rfl,rfl⟩:=ai hr;refine⟨_,_,_,.inl ?_,(Cp ρ h.next w.heap.size 0 1).symm,by show h.next<h.next+1;omega,Ext.wY R z e 0 1 e3 e2 (by omega)⟩;have:zv.cells=(encs ρ z).toArray:=by rw[e1]
 simp[Instr.alloc,zeroValue,typeInfo,h1,h2,newVar,newRow,this]
theorem QL {e:TypeId}{x:Operand}{x':bp}(hx:cv x=some x')(E:dZ ρ h.next ev tm)(R:bv base ρ h w)(hr:tI x' (val tm) h=some (v,h')):
  Yields P base ρ h w (do pure (.value (←Instr.box e (ev x)))) v h':=by
 obtain⟨e1,k1⟩:=E _ _ hx;unfold tI at hr;split at hr
 ·rename_i jR;obtain⟨rfl,rfl⟩:=ai hr;refine⟨_,_,_,.inl ?_,(Cp ρ h.next w.heap.size 0 1).symm,by show h.next<h.next+1;omega,Ext.wY R _ e 0 1 (by simpa using jR) (tA k1) (by omega)⟩;simp[Instr.box,newVar,newRow,e1,oG]
 ·cases hr
theorem tX (off:Nat):∀(vs:List Value) (k:Nat) (cs:Array Value),off+k+vs.length≤cs.size→
  ((vs.zipIdx k).foldl (fun cs (c:Value×Nat)=>cs.setIfInBounds (off+c.2) c.1) cs).toList=cs.toList.take (off+k)++(vs++cs.toList.drop (off+k+vs.length))
 |[],k,cs,_=>by simp
 | v ::vs,k,cs,hl=>by
  simp only[List.zipIdx_cons,List.foldl_cons];simp only[ap]at hl;rw[tX off vs (k+1) _ (by simp;omega)];simp only[Array.toList_setIfInBounds];apply Au;intro j;have hsz:cs.toList.length=cs.size:=fN;simp only[List.getElem?_append,az,gi,iW,List.length_set,List.getElem?_set,ap,ar,hsz];by_cases h1:j<off+k
  ·have:min (off+(k+1)) cs.size=off+(k+1):=by omega
   have h2:min (off+k) cs.size=off+k:=by omega
   simp[this,h2,h1,show j<off+(k+1) by omega,show ¬off+k=j by omega]
  ·by_cases h3:j=off+k
   ·subst h3;have:min (off+(k+1)) cs.size=off+(k+1):=by omega
    have h2:min (off+k) cs.size=off+k:=by omega
    simp[this,h2,show off+k<off+(k+1) by omega,show off+k<cs.size by omega]
   ·have:min (off+(k+1)) cs.size=off+(k+1):=by omega
    have h2:min (off+k) cs.size=off+k:=by omega
    have h4:¬j<off+(k+1):=by omega
    obtain⟨m,hm⟩:∃m,j-(off+k)=m+1:=⟨j-(off+k)-1,by omega⟩
    have h5:j-(off+(k+1))=m:=by omega
    simp only[this,h2,h1,h4,if_false,hm,h5,List.getElem?_cons_succ];by_cases h6:m<vs.length
    ·simp[h6]
    ·simp only[h6,if_false,show ¬m+1<vs.length+1 by omega];have:¬off+k=off+(k+1)+vs.length+(m-vs.length):=by omega
     simp[this];congr 1;omega
theorem kL (ρ:dw)(a b:List AV):encs ρ (a++b)=encs ρ a++encs ρ b:=by simp[cC]
theorem zx (ρ:dw)(cs vs:List AV)(o:Nat):encs ρ (dU cs o vs)=(encs ρ cs).take o++(encs ρ vs++(encs ρ cs).drop (o+(encs ρ vs).length)):=by
 simp[cC,dU,rY,rZ]
theorem pF {ev:Operand→Value}(E:dZ ρ h.next ev tm){pl pl':Nat→Option (Nat×Nat)}(hpl:∀i x,pl i=some x→pl' i=some x):∀(ps:List (Nat×Operand)) (l:List (Nat×Nat×bp)) (cs vY:List AV),
  pJ pl ps=some l→ja cs (l.map fun p=>(p.1,p.2.1,val tm p.2.2))=some vY→gP ρ h.next cs→(∀v∈cs,v.one=true)→
  Instr.fill pl' (encs ρ cs).toArray (ps.map fun p=>(p.1,ev p.2))=some (encs ρ vY).toArray∧gP ρ h.next vY∧(∀v∈vY,v.one=true)∧vY.length=cs.length
 | [],l,cs,vY,hp,hf,hk,h1=>by
  obtain rfl:=aa hp;obtain rfl:=aa hf;exact⟨rfl,hk,h1,rfl⟩
 | (i, x)::ps,l,cs,vY,hp,hf,hk,h1=>by
  unfold pJ at hp;split at hp
  ·rename_i off n y l' g1 g2 g3;obtain rfl:=aa hp;simp only[eH,ja]at hf;split at hf
   ·rename_i hc;obtain⟨e1,k1⟩:=E _ _ g2;have nD:∀v∈(val tm y).cells,v.one=true:=by simpa using hc.2.2
    obtain⟨r1,r2,r3,r4⟩:=pF E hpl ps l' _ vY g3 hf
     ((cQ _ _ _).2 fun v hv=>by
      rcases mp hv with c|c
      ·exact(cQ _ _ _).1 hk v c
      ·exact(cQ _ _ _).1 (tA k1) v c)
     (fun v hv=>by
      rcases mp hv with c|c
      ·exact h1 v c
      ·exact nD v c)
    refine⟨?_,r2,r3,by rw[r4,lc _ _ _ (by omega)]⟩;simp only[eH,Instr.fill,hpl i _ g1];have hsz:(ev x).cells.size=n:=by rw[e1,oG];simp[bX,hc.1]
    rw[if_neg (by rw[hsz];simp[bX];omega),←r1];congr 1;apply oM
    rw[←Array.foldl_toList,Array.toList_zipIdx,tX off _ 0 _ (by
     have:(ev x).cells.toList.length=n:=by rw[fN];exact hsz
     rw[this];simp[bX];omega)]
    rw[zx,e1,oG];simp
   ·cases hf
  ·cases hp
theorem JE {t:TypeId}{fs:Array Field}{ps:Array (Nat×Operand)}{z:List AV}{l:List (Nat×Nat×bp)}(hz:ku P t=some z)(hu:P.underlying t=some (.struct fs))(jR:(fs.toList.all fun f=>(P.info? f.type).isSome)=true)
  (hl:pJ (xz P fs) ps.toList=some l) (E:dZ ρ h.next ev tm) (R:bv base ρ h w) (hr:kD z l (val tm) h=some (v,h')):
  Yields P base ρ h w (do pure (.value (←Instr.build t (ps.map fun p=>(p.1,ev p.2))))) v h':=by
 obtain⟨i,zv,h1,h2,h3⟩:=mb hz;obtain⟨e1,e2,e3⟩:=iR h3 ρ h.next;unfold kD at hr;split at hr
 ·rename_i cs hcs;obtain⟨rfl,rfl⟩:=ai hr
  have Kb:∀(l:List Field),(l.all fun f=>(P.info? f.type).isSome)=true→∃pl:List (Nat×Nat),(l.mapM (fun f=>(do pure (f.offset,←sizeOf f.type):Sem (Nat×Nat)))).run P w= .ok pl w∧∀(i:Nat),pl[i]?=match(l[i]?:Option Field)with|some f=>(pg P f.type).map fun n=>(f.offset,n)|none=>none:=by
   intro l
   induction l with
   |nil=>intro _;exact⟨[],by simp,by simp⟩
   | cons f l ih=>
    intro ha;simp only[iO,bz]at ha;obtain⟨pl,p1,p2⟩:=ih ha.2;obtain⟨fi,Z3⟩:=Ap.1 ha.1;have hs:pg P f.type=some fi.size:=by simp[pg,Z3]
    refine⟨(f.offset,fi.size)::pl,by simp only[List.mapM_cons,Sem.run_bind,dC hs,Result.andThen_ok,Sem.run_pure,p1],fun i=>?_⟩;cases i with
    |zero=>simp[hs]
    |succ i=>simpa using p2 i
  obtain⟨pl,p1,p2⟩:=Kb fs.toList jR
  obtain⟨r1,r2,r3,r4⟩:=pF (h:=h) E (pl:=xz P fs) (pl':=fun i=>pl.toArray[i]?) (fun i x hx=>by
   simp only[List.getElem?_toArray,p2];unfold xz at hx;split at hx
   ·rename_i f hf;split at hx
    ·rename_i n hn;simp[hf,hn]at hx⊢;exact hx
    ·cases hx
   ·cases hx) ps.toList l z cs hl hcs e2 e3
  refine Yields.pure R ?_ r2;have xQ:zv.cells=(encs ρ z).toArray:=by rw[e1]
  have Ke:(ps.map fun p=>(p.1,ev p.2)).toList=ps.toList.map fun p=>(p.1,ev p.2):=by simp
  simp only[Instr.build,Sem.run_bind,zeroValue,typeInfo,run_program,Result.andThen_ok,h1,h2,Sem.run_pure,run_underlying hu,xQ,Array.mapM_eq_mapM_toList,Sem.run_map,p1,Ke,r1,enc]
 ·cases hr
theorem JA {t:TypeId}{x y:Operand}{x' y':bp}{n:Nat}(hn:pg P t=some n)(hx:cv x=some x')(hy:cv y=some y')(E:dZ ρ h.next ev tm)(R:bv base ρ h w)
  (hr:oh n x' y' (val tm) h=some (v,h')):Yields P base ρ h w (do Instr.storeAt t (ev x) (ev y);pure .skip) v h':=by
 obtain⟨e1,k1⟩:=E _ _ hx;obtain⟨e2,k2⟩:=E _ _ hy;unfold oh at hr;split at hr
 ·rename_i tk o e;split at hr
  ·rename_i cs st ht;split at hr
   ·rename_i hc;obtain⟨rfl,rfl⟩:=ai hr;have nD:∀v∈(val tm y').cells,v.one=true:=by simpa using hc.2.2
    refine⟨ρ,_,undef,.inr ⟨?_,rfl⟩,(kM ρ).symm,trivial,Ext.stored R ht o (val tm y').cells (by omega) nD (tA k2)⟩;obtain⟨i,hi,rfl⟩:=nB hn;obtain⟨q1,q2,q3,q4⟩:=(R.row tk cs true st ht).se rfl
    have hst:=run_storeCells_cells (P:=P) (ρ tk).b ((ρ tk).o+o) (encs ρ (val tm y').cells) 0 w (fun j hj=>by
     have:=(q3 (o+j) (by rw[bX]at hj;omega)).1;simpa[dz]using this) (fun j hj=>by
     have:=(q3 (o+j) (by rw[bX]at hj;omega)).2;simpa[dz]using this) (fun u hu=>by
     rw[cC]at hu;obtain⟨a,ha,rfl⟩:=iV.1 hu;rw[C8];exact nD a ha)
    rw[e1,e,e2];simp only[aY]at hst;have hsz:(encs ρ (val tm y').cells).length=i.size:=by rw[bX];exact hc.1
    simp[Instr.storeAt,Instr.sureAddr,enc,storeVar,dC hn,oG,hsz,hst]
   ·cases hr
  ·cases hr
 ·cases hr
end
section
variable {P:Program}{base:Nat}{ρ:dw}{h h':Hp}{w:World}{ev:Operand→Value}{tm:T AV}{v:AV}
variable {dst:Option Tmp}{ty:TypeId}{pos:String}{af:Array Edge}{gd:Option (Nat×Bool)}
theorem mg (z:List AV):∀n,(rep n z).length=n*z.length
 |0=>by simp[rep]
 |n+1=>by simp[rep,mg z n,bh];omega
theorem rN (z:List AV)(hz:0<z.length):∀(n j:Nat),j<n*z.length→(rep n z)[j]?=z[j%z.length]?
 |0,j,h=>by simp at h
 | n +1,j,h=>by
  unfold rep;by_cases hj:j<z.length
  ·rw[cB hj,Nat.mod_eq_of_lt hj]
  ·rw[eP (by omega),rN z hz n _ (by rw[bh]at h;omega)];congr 1;rw[Nat.mod_eq_sub_mod (by omega:j≥z.length)]
theorem qc {z:List AV}{v:AV}:∀{n:Nat},v∈rep n z→v∈z
 |0,h=>by simp[rep]at h
 | n+1,h=>by
  unfold rep at h;rcases dR.1 h with h|h
  ·exact h
  ·exact qc h
theorem range_zero (ρ:dw)(z:List AV)(hz:0<z.length)(n:Nat):((pV (n*z.length)).map fun x=>(encs ρ z).toArray[x%(encs ρ z).toArray.size]!)=(encs ρ (rep n z)).toArray:=by
 apply oM;apply Au;intro j;rw[cC,cC];by_cases hj:j<n*z.length
 ·have hm:j%z.length<z.length:=Nat.mod_lt _ hz;simp[hj,rN z hz n j hj,getElem!_pos,hm]
 ·have h1:(rep n z)[j]?=none:=by rw[List.getElem?_eq_none];rw[mg];omega
  simp[h1];omega
theorem sQ (ρ:dw)(N b c sz n z:Nat):enc (rK ρ N ⟨b,0,c,sz⟩) (.sl N 0 n z)= .slice (some ⟨b,0,none⟩) n c:=by simp[enc,rK]
theorem Ga {t e:TypeId}{n s:Nat}{ps:Array (Nat×Operand)}{z:List AV}{l:List (Nat×Nat×bp)}(hu:P.underlying t=some (.slice e))(hs:pg P e=some s)(hz:ku P e=some z)(hc:z.length=s∧n*s≤16777216∧0<s)
  (hl:pJ (fun i=>some (i*s,s)) ps.toList=some l) (E:dZ ρ h.next ev tm) (R:bv base ρ h w) (hr:hZ s n (rep n z) l (val tm) h=some (v,h')):
  Yields P base ρ h w (do pure (.value (←Instr.buildSlice t n (ps.map fun p=>(p.1,ev p.2))))) v h':=by
 obtain⟨i,zv,h1,h2,h3⟩:=mb hz;obtain⟨e1,e2,e3⟩:=iR h3 ρ h.next;obtain⟨c1,c2,c3⟩:=hc;unfold hZ at hr;split at hr
 ·rename_i cs hcs;split at hr
  ·rename_i hn;obtain⟨rfl,rfl⟩:=ai hr;obtain⟨r1,r2,r3,r4⟩:=pF (h:=h) E (pl:=fun i=>some (i*s,s)) (pl':=fun i=>some (i*s,s)) (fun i x hx=>hx) ps.toList l (rep n z) cs hl hcs ((cQ _ _ _).2 fun v hv=>(cQ _ _ _).1 e2 v (qc hv)) (fun v hv=>e3 v (qc hv));refine⟨_,_,_,.inl ?_,(sQ ρ h.next w.heap.size n s n s).symm,?_,Ext.wY R cs e n s r3 r2 (by omega)⟩
   ·have xQ:zv.cells=(encs ρ z).toArray:=by rw[e1]
    have Ke:(ps.map fun p=>(p.1,ev p.2)).toList=ps.toList.map fun p=>(p.1,ev p.2):=by simp
    by_cases h0:n*s=0
    ·have hn0:n=0:=by rcases Nat.mul_eq_zero.1 h0 with c|c<;>omega
     have hr0:(qJ (fun x=>(#[]:Array Value)[x%(#[]:Array Value).size]!) (pV (n*s)))=(encs ρ (rep n z)).toArray:=by subst hn0;simp[rep,encs]
     simp only[Instr.buildSlice,Sem.run_bind,run_underlying hu,Result.andThen_ok,dC hs,show ¬n*s>2^24 by omega,if_false,if_pos h0,Sem.run_pure,hr0,Ke,r1,newRow,run_newObj];rfl
    ·have hr0:(qJ (fun x=>zv.cells[x%zv.cells.size]!) (pV (n*s)))=(encs ρ (rep n z)).toArray:=by rw[xQ,←c1];exact range_zero ρ z (by omega) n
     simp only[Instr.buildSlice,Sem.run_bind,run_underlying hu,Result.andThen_ok,dC hs,show ¬n*s>2^24 by omega,if_false,if_neg h0,zeroValue,typeInfo,run_program,h1,h2,Sem.run_pure,hr0,Ke,r1,newRow,run_newObj];rfl
   ·simp only[ok,cb,Hp.push];exact⟨by omega,trivial,c3,by simp,by simp⟩
  ·cases hr
 ·cases hr
theorem QA {t e:TypeId}{i:TypeInfo}{l c:Operand}{l' c':bp}{z:List AV}(hu:P.underlying t=some (.slice e))(hi:P.info? e=some i)(hz:ku P e=some z)(hl:cv l=some l')(hc:cv c=some c')(E:dZ ρ h.next ev tm)(R:bv base ρ h w)
    (hr:rO i.size i.bytes z l' c' (val tm) h=some (v,h')):Yields P base ρ h w (do pure (.value (←Instr.makeSlice t (ev l) (ev c)))) v h':=by
  obtain⟨e1,k1⟩:=E _ _ hl;obtain⟨e2,k2⟩:=E _ _ hc;obtain⟨i',zv,h1,h2,h3⟩:=mb hz;rw[hi]at h1;obtain rfl:=aa h1;obtain⟨g1,g2,g3⟩:=iR h3 ρ h.next;unfold rO at hr;split at hr
  · rename_i L C g4 g5
    split at hr
    · rename_i hh
      obtain⟨p1,p2,p3,p4,p5,p6,p7⟩:=hh;obtain⟨rfl,rfl⟩:=ai hr;have nD:∀v∈rep L.toNat z,v.one=true:=fun v hv=>g3 v (qc hv)
      have VV:gP ρ h.next (rep L.toNat z):=(cQ _ _ _).2 fun v hv=>(cQ _ _ _).1 g2 v (qc hv)
      obtain⟨d,hd⟩:∃d,C.toNat=L.toNat+d:=⟨C.toNat-L.toNat,by omega⟩
      have Ka:∀a b:Nat,rep (a+b) z=rep a z++rep b z:=by
        intro a b
        induction a with
        |zero=>simp[rep]
        |succ a ih=>rw[Nat.add_right_comm];simp[rep,ih]
      have RI:=Ext.newRow R (rep L.toNat z) e (encs ρ (rep d z)) C.toNat i.size nD VV (by rw[mg,bX,mg,p5,hd,bh];omega) w.drawn;rw[←kL,←Ka,←hd]at RI;refine⟨_,_,_,.inl ?_,(sQ ρ h.next w.heap.size C.toNat i.size L.toNat i.size).symm,?_,RI⟩
      · have xQ:zv.cells=(encs ρ z).toArray:=by rw[g1]
        have wl:IntKind.i64.wrap L=L:=by
          have:=sO .i64 L;cases L with
          | ofNat m => simp only[vp]at this;rw[←this];have:gV m (pB .i64)=true:=by simp[ji,pB];simp only[fj]at p2;omega
                       rw[this]
          |negSucc m=>omega
        have wc:IntKind.i64.wrap C=C:=by
          have:=sO .i64 C;cases C with
          | ofNat m => simp only[vp]at this;rw[←this];have:gV m (pB .i64)=true:=by simp[ji,pB];simp only[fj]at p4;omega
                       rw[this]
          |negSucc m=>omega
        have HA:(decide (C<0)||decide ((i.bytes:Int)*C>2^48))=false:=by
          have:(i.bytes:Int)*C=C*i.bytes:=Int.mul_comm _ _;have p3':C*(i.bytes:Int)≤281474976710656:=p3;simp only[this,Bool.or_eq_false_iff,decide_eq_false_iff_not];exact⟨by omega,by omega⟩
        rw[e1,e2,g4,g5];by_cases h0:C.toNat*i.size=0
        · have hn0:C.toNat=0:=by rcases Nat.mul_eq_zero.1 h0 with c|c<;>omega
          have hr0:(qJ (fun x=>(#[]:Array Value)[x%(#[]:Array Value).size]!) (pV (C.toNat*i.size)))=(encs ρ (rep C.toNat z)).toArray:=by rw[h0,hn0];simp[rep,encs]
          simp only[enc,Instr.makeSlice,Sem.run_bind,run_underlying hu,Result.andThen_ok,asInt,asIntOf,Sem.run_pure,typeInfo,run_program,hi,wl,wc,HA,lm,show(decide (L<0)||decide (L>C))=false by simp;omega,bZ,if_false,run_askRoom,dC (show pg P e=some i.size by simp[pg,hi]),if_pos h0,hr0,newRow,run_newObj];rfl
        · have hr0:(qJ (fun x=>zv.cells[x%zv.cells.size]!) (pV (C.toNat*i.size)))=(encs ρ (rep C.toNat z)).toArray:=by rw[xQ,←p5];exact range_zero ρ z (by omega) C.toNat
          simp only[enc,Instr.makeSlice,Sem.run_bind,run_underlying hu,Result.andThen_ok,asInt,asIntOf,Sem.run_pure,typeInfo,run_program,hi,wl,wc,HA,lm,show(decide (L<0)||decide (L>C))=false by simp;omega,bZ,if_false,run_askRoom,dC (show pg P e=some i.size by simp[pg,hi]),if_neg h0,zeroValue,h2,hr0,newRow,run_newObj];rfl
      · simp only[ok,cb,Hp.push]
        exact⟨by omega,trivial,p6,by simp,by simp;omega⟩
    · cases hr
  · cases hr
theorem UK {t e:TypeId}{s:Nat}{x:Operand}{x':bp}{lo hi:Option Operand}{IN hi':Option bp}(ht:P.underlying t=some (.slice e))(hs:pg P e=some s)(hx:cv x=some x')(hlo:mM lo=some IN)(D6:mM hi=some hi')
    (E:dZ ρ h.next ev tm) (R:bv base ρ h w) (hr:GJ s x' IN hi' (val tm) h=some (v,h')):Yields P base ρ h w (do pure (.value (←Instr.sliceAt t (ev x) (lo.map ev) (hi.map ev) none))) v h':=by
  obtain⟨e1,k1⟩:=E _ _ hx;unfold GJ AN at hr;split at hr
  · rename_i g
    split at hr
    · rename_i n l hn hl
      obtain⟨rfl,rfl⟩:=ai hr
      have hn0:n=0:=by
        rcases rB (lo:=0) D6 E hn with⟨_,c⟩|⟨_,_,_,_,c⟩<;>omega
      subst hn0;obtain⟨r1,r2,r3⟩:=jH (P:=P) (isS:=true) (cap:=0) hlo D6 E (ae 0) hn hl w;have hl0:l=0:=by omega
      subst hl0;refine Yields.pure R ?_ trivial;rw[e1,g];simp[Instr.sliceAt,Instr.slice,run_underlying ht,enc,r1,dC hs]
    · cases hr
  · rename_i tk o n z g
    rw[g]at k1;obtain⟨k2,k3,k4,k5,k6⟩:=k1;have hq:o/z*z=o:=by have:=cE o z;rw[k5]at this;rw[aA];omega
    split at hr
    · cases hr
    · rename_i hh hn
      split at hr
      · cases hr
      · rename_i l hl
        obtain⟨r1,r2,r3⟩:=jH (P:=P) (isS:=true) (cap:=(ρ tk).c-o/z) hlo D6 E (by omega) hn hl w
        have run:(do pure (.value (←Instr.sliceAt t (ev x) (lo.map ev) (hi.map ev) none)):Sem Next).run P w=
            .ok (.value (.slice (if(ρ tk).c-o/z=l then some ⟨(ρ tk).b,(ρ tk).o+o,none⟩else some ⟨(ρ tk).b,(ρ tk).o+o+l*s,none⟩) (hh-l) ((ρ tk).c-o/z-l))) w:=by
          rw[e1,g];simp only[Instr.sliceAt,Instr.slice,run_underlying ht,enc,r1,dC hs,Sem.run_bind,Result.andThen_ok,Sem.run_pure,cJ,Addr.add_mid]
        split at hr
        · rename_i hl0;subst hl0
          obtain⟨rfl,rfl⟩:=ai hr;refine Yields.pure R ?_ ⟨k2,k3,k4,k5,by omega⟩;rw[run];simp[enc]
        · rename_i hl0
          split at hr
          · cases hr
          · rename_i hz
            have J6:z=s:=by omega
            subst J6;split at hr
            · rename_i hlt
              obtain⟨rfl,rfl⟩:=ai hr;have hdiv:(o+l*z)/z=o/z+l:=by rw[Nat.add_mul_div_right _ _ k4]
              refine Yields.pure R ?_ ⟨k2,k3,k4,by rw[Nat.add_mul_mod_self_right];exact k5,by rw[hdiv];omega⟩;rw[run,if_neg (by omega)];simp only[enc,hdiv];rw[dz,Nat.sub_sub]
            · rename_i hlt
              obtain⟨rfl,rfl⟩:=ai hr;have hhl:hh=l:=by omega
              subst hhl;refine⟨rK ρ h.next ⟨(ρ tk).b,if(ρ tk).c-o/z=hh then(ρ tk).o+o else(ρ tk).o+o+hh*z,(ρ tk).c-o/z-hh,z⟩,w,_,.inl run,?_,?_,?_⟩
              · simp only[enc,cb,Nat.sub_self,Nat.zero_div,Nat.sub_zero,aY]
                split<;>rfl
              · simp only[ok,cb,Hp.push]
                exact⟨by omega,trivial,k4,by simp,by simp⟩
              · refine Ext.nk R _ (il _ _ _) rfl rfl rfl (ae _) (fun _ _=>rfl) ?_
                exact⟨⟨by simp,trivial,fun j v hv=>by simp[encs]at hv,by simp,fun _=> .inl rfl⟩,by simp⟩
  · cases hr
end
section
variable {P:Program}{base:Nat}{ρ:dw}{h h':Hp}{w:World}{ev:Operand→Value}{tm:T AV}{v:AV}
variable {dst:Option Tmp}{ty:TypeId}{pos:String}{af:Array Edge}{gd:Option (Nat×Bool)}
theorem NH {tx:TypeId}{sz m:Nat}{Y:AV}{ys:List AV}(hk:(∃e',P.underlying tx=some (.slice e'))∨P.underlying tx=some .string)(R:bv base ρ h w)(hm:uY Y=some m)(Ax:cellsOf h sz Y=some ys):
  Src P sz tx (enc ρ Y) m (encs ρ ys) w∧(ok ρ h.next Y→gP ρ h.next ys)∧(∀v∈ys,v.one=true):=by
 unfold cellsOf at Ax;split at Ax
 ·obtain rfl:=aa Ax;obtain rfl:=aa hm;exact⟨⟨hk,fun _=>by simp[enc,Builtin.lenOf],by simp[enc,Builtin.firstCells,encs],by simp[enc,Builtin.firstCells,encs],by simp[encs],by simp[encs]⟩,fun _=>trivial,by simp⟩
 ·rename_i s;split at Ax
  ·rename_i h1;subst h1;obtain rfl:=aa Ax;obtain rfl:=aa hm;have hb:encs ρ (s.map fun b=>AV.int .u8 b.toNat)=byteCells ⟨s.toArray⟩:=by simp[cC,byteCells,enc]
   refine⟨?_,fun _=>(cQ _ _ _).2 (by simp[ok]),by simp[AV.one]⟩;rw[hb];have hl:s.length=(⟨s.toArray⟩:ByteArray).size:=(fT s).symm;refine⟨hk,fun _=>by simp[enc,Builtin.lenOf,fT],?_,?_,?_,?_⟩
   ·rw[hl];exact firstCells_string _ w
   ·rw[hl];exact firstCells_string _ w.drew
   ·rw[byteCells_length,fT,Nat.mul_one]
   ·intro u hu;obtain⟨_,_,rfl⟩:=iV.1 hu;rfl
  ·cases Ax
 ·rename_i t o n z;split at Ax
  ·rename_i cs own st ht;split at Ax
   ·rename_i hc;obtain rfl:=aa Ax;obtain rfl:=aa hm;obtain⟨r1,r2⟩:=qd (o:=o) (n:=n*sz) R ht;have hl:(encs ρ ((cs.drop o).take (n*sz))).length=n*sz:=by rw[bX];simp;omega
    have nD:∀v∈(cs.drop o).take (n*sz),v.one=true:=fun v hv=>(R.row t cs own st ht).one v (iJ (fE hv))
    refine⟨⟨hk,fun _=>by simp[enc,Builtin.lenOf],?_,?_,hl,?_⟩,fun _=>r2,nD⟩
    ·simp only[enc];exact run_firstCells_some w sz n _ n _ _ hl (fun j u hu=>by rw[Addr.add_mid];exact r1 j u hu)
    ·simp only[enc];exact run_firstCells_some w.drew sz n _ n _ _ hl (fun j u hu=>by rw[Addr.add_mid];exact r1 j u hu)
    ·intro u hu;rw[cC]at hu;obtain⟨a,ha,rfl⟩:=iV.1 hu;rw[C8];exact nD a ha
   ·cases Ax
  ·cases Ax
 ·cases Ax
theorem vW:∀{vs:List Value} {l:List AV},rT vs=some l→l.length=vs.length
 |[],l,h=>by obtain rfl:=aa h;rfl
 | v ::r,l,h=>by
  unfold rT at h;split at h
  ·rename_i a l' h1 h2;obtain rfl:=aa h;simp[vW h2]
  ·cases h
theorem QN {t tx e :TypeId}{i:TypeInfo}{x y:Operand}{x' y':bp}{z:List AV}(hu:P.underlying t=some (.slice e))(hk:(∃e',P.underlying tx=some (.slice e'))∨P.underlying tx=some .string)(hi:P.info? e=some i)(hz:ku P e=some z)
  (VG:z.length=i.size∧0<i.size) (hx:cv x=some x') (hy:cv y=some y') (E:dZ ρ h.next ev tm) (R:bv base ρ h w) (hr:CR i.size i.bytes x' y' (val tm) h=some (v,h')):
  Yields P base ρ h w (do pure (.value (←Builtin.append_ #[t,tx] ty #[ev x,ev y]))) v h':=by
 obtain⟨e1,k1⟩:=E _ _ hx;obtain⟨e2,k2⟩:=E _ _ hy;obtain⟨i',zv,h1,h2,h3⟩:=mb hz;obtain rfl:i'=i:=aa (h1.symm.trans hi);have xQ:zv.cells.size=i'.size:=by rw[←VG.1,vW h3];simp
 unfold CR jm at hr;split at hr
 ·rename_i m ys hm Ax;obtain⟨hs,Kc,nD⟩:=NH hk R hm Ax;have Kc:=Kc k2;have hyl:ys.length=m*i'.size:=by rw[←bX ρ ys];exact hs.newsLen
  split at hr
  ·rename_i gx;have ex:ev x= .slice none 0 0:=by rw[e1,gx];simp[enc]
   split at hr
   ·obtain⟨rfl,rfl⟩:=ai hr;obtain rfl:ys=[]:=wC (by simpa using hyl);refine Yields.pure R ?_ trivial;rw[ex,e2];simp only[Sem.run_bind,run_append_nothing w t tx ty e i' hu hi none 0 0 (ae 0) _ hs,Result.andThen_ok,Sem.run_pure,enc]
   ·rename_i m;split at hr
    ·rename_i hc;obtain⟨c1,c2,c3⟩:=hc;obtain⟨rfl,rfl⟩:=ai hr;have Hm:=run_append_grow_src (P:=P) w t tx ty e i' zv hu hi h2 none 0 0 [] (by simp[Builtin.firstCells]) (enc ρ (val tm y')) (m+1) (encs ρ ys) hs (by omega) (by omega) (growslice_fits (by omega) (by simpa using c1));have PG:=grownCap_ge w (0+(m+1)) 0 e
     refine⟨_,_,_,.inl ?_,(sQ ρ h.next w.heap.size (grownCap w (0+(m+1)) 0 e) i'.size (m+1) i'.size).symm,?_,
      Ext.newRow R ys e (Builtin.zeroCells zv.cells (grownCap w (0+(m+1)) 0 e-(0+(m+1)))).toList (grownCap w (0+(m+1)) 0 e) i'.size nD Kc ?_ (w.drawn+1)⟩
     ·rw [ex,e2];simp only[Sem.run_bind,Hm,Result.andThen_ok,Sem.run_pure];congr 1
      ·simp
      ·have:([]++encs ρ ys:List Value).toArray++Builtin.zeroCells zv.cells (grownCap w (0+(m+1)) 0 e-(0+(m+1)))=(encs ρ ys++(Builtin.zeroCells zv.cells (grownCap w (0+(m+1)) 0 e-(0+(m+1)))).toList).toArray:=by
        apply eV.1;simp
       rw[this];rfl
     ·simp only[ok,cb,Hp.push];exact⟨by omega,trivial,c3,by simp,by simp at PG⊢;omega⟩
     ·rw[hyl,fN,size_zeroCells,xQ,←bh];exact aM _ (by omega)
    ·cases hr
  ·rename_i tk o n z0 gx;rw[gx]at k1;obtain⟨k2',k3,k4,k5,k6⟩:=k1;have ex:ev x= .slice (some ⟨(ρ tk).b,(ρ tk).o+o,none⟩) n ((ρ tk).c-o/z0):=by rw[e1,gx];simp[enc]
   split at hr
   ·obtain⟨rfl,rfl⟩:=ai hr;obtain rfl:ys=[]:=wC (by simpa using hyl);refine Yields.pure R ?_ ⟨k2',k3,k4,k5,k6⟩;rw[ex,e2];simp only[Sem.run_bind,run_append_nothing w t tx ty e i' hu hi _ n ((ρ tk).c-o/z0) (by omega) _ hs,Result.andThen_ok,Sem.run_pure,enc]
   ·rename_i m;have hyl:ys.length=(m+1)*i'.size:=hyl;split at hr
    ·rename_i cs st ht;split at hr
     ·rename_i hc;obtain⟨rfl,c1,c2,c3⟩:=hc;obtain⟨rfl,rfl⟩:=ai hr;have hq:o/i'.size*i'.size=o:=by have:=cE o i'.size;rw[k5]at this;rw[aA];omega
      have r:=R.row tk cs true st ht;obtain⟨q1,q2,q3,q4⟩:=r.se rfl;obtain⟨r1,r2⟩:=qd (o:=o) (n:=n*i'.size) R ht;have hl:((cs.drop o).take (n*i'.size)).length=n*i'.size:=by simp;omega
      have hl':(encs ρ ((cs.drop o).take (n*i'.size))).length=n*i'.size:=by rw[bX,hl]
      have RA:∀v∈(cs.drop o).take (n*i'.size),v.one=true:=fun v hv=>r.one v (iJ (fE hv))
      have MM:∀v∈(cs.drop o).take (n*i'.size)++ys,v.one=true:=fun v hv=>by
       rcases dR.1 hv with c|c
       ·exact RA v c
       ·exact nD v c
      have Oz:gP ρ h.next ((cs.drop o).take (n*i'.size)++ys):=(cQ _ _ _).2 fun v hv=>by
       rcases dR.1 hv with c|c
       ·exact(cQ _ _ _).1 r2 v c
       ·exact(cQ _ _ _).1 Kc v c
      by_cases Hn:n+(m+1)≤(ρ tk).c-o/i'.size
      ·have RN:(ρ tk).o+o+((ρ tk).c-o/i'.size)*i'.size=(ρ tk).o+(ρ tk).c*i'.size:=by
        rw[Nat.sub_mul,hq];have:o/i'.size*i'.size≤(ρ tk).c*i'.size:=aM _ (by omega);omega
       have T5:∀j,j<((ρ tk).c-o/i'.size)*i'.size→(w.cell? ⟨(ρ tk).b,(ρ tk).o+o+j,none⟩).isSome=true∧w.frozen? ⟨(ρ tk).b,(ρ tk).o+o+j,none⟩=false:=by
        intro j hj;have:=q4 (o+j) (by rw[←k3];omega);rwa[←dz]at this
       have hlt:∀j,j<(encs ρ ys).length→n*i'.size+j<((ρ tk).c-o/i'.size)*i'.size:=by
        intro j hj;rw[bX,hyl]at hj;have:=aM i'.size Hn;rw[bh]at this;omega
       have Hm:=run_append_room_src (P:=P) w t tx ty e i' hu hi (ρ tk).b ((ρ tk).o+o) n ((ρ tk).c-o/i'.size) (enc ρ (val tm y')) (m+1) (encs ρ ys) hs Hn
        (fun j hj=>by rw[dz];exact(T5 _ (hlt j hj)).1) (fun j hj=>by rw[dz];exact(T5 _ (hlt j hj)).2)
       obtain⟨g1,g2,g3,g4,g5⟩:=lf (ρ tk).b (encs ρ ys) ((ρ tk).o+o+n*i'.size) w;have hag:cV h.next ρ (rK ρ h.next ⟨(ρ tk).b,(ρ tk).o+o,(ρ tk).c-o/i'.size,i'.size⟩):=il _ _ _
       refine⟨_,_,_,.inl (by rw[ex,e2];simp only[Sem.run_bind,Hm,Result.andThen_ok,Sem.run_pure];rfl),?_,?_,
        Ext.Q1 R ht rfl ((cs.drop o).take (n*i'.size)++ys) ⟨(ρ tk).b,(ρ tk).o+o,(ρ tk).c-o/i'.size,i'.size⟩ rfl g3 g4 g5 g1 g2 ?_⟩
       ·simp only[enc,cb,Nat.zero_div,Nat.sub_zero,aY]
       ·simp only[ok,cb,Hp.push,Hp.put];exact⟨by omega,trivial,k4,by simp,by simp;omega⟩
       ·have Ov:∀k,k≤((ρ tk).c-o/i'.size)*i'.size→(w.setCells (ρ tk).b ((ρ tk).o+o+n*i'.size) (encs ρ ys)).there (ρ tk).b ((ρ tk).o+o) k:=fun k hk=>
         there_setCells (fun j hj=>T5 j (by omega)) _ _
        refine⟨MM,io hag (ee _) _ Oz,?_,?_,by simp⟩
        ·rw [cb,fA hag _ Oz,kL];intro j v hv;by_cases hj:j<n*i'.size
         ·rw[cB (by rw[hl'];exact hj)]at hv;rw[World.cell?_setCells_out (ρ tk).b (encs ρ ys) _ w _ (fun _ _=>by show(ρ tk).o+o+j<_∨_;omega)];exact r1 j v hv
         ·rw[eP (by rw[hl'];omega),hl']at hv;have hlt2:j-n*i'.size<(encs ρ ys).length:=(aZ.1 hv).1
          have:=World.cell?_setCells_in (ρ tk).b (encs ρ ys) ((ρ tk).o+o+n*i'.size) w (fun a ha=>by
           rw[dz];exact(T5 _ (hlt a ha)).1) (j-n*i'.size) hlt2
          rw[show(ρ tk).o+o+j=(ρ tk).o+o+n*i'.size+(j-n*i'.size) by omega];rw[this,←hv,aI hlt2]
        ·intro _;rw[cb];refine⟨q1,by rw[g1];exact q2,Ov _ ?_,Ov _ (ae _)⟩;rw[ar,hl,hyl,←bh];exact aM _ Hn
      ·have Hm:=run_append_grow_src (P:=P) w t tx ty e i' zv hu hi h2 (some ⟨(ρ tk).b,(ρ tk).o+o,none⟩) n ((ρ tk).c-o/i'.size) (encs ρ ((cs.drop o).take (n*i'.size)))
        (run_firstCells_some w.drew i'.size n _ n _ _ hl' (fun j u hu=>by rw[Addr.add_mid];exact r1 j u hu)) (enc ρ (val tm y')) (m+1) (encs ρ ys) hs (by omega) (by omega) (growslice_fits (by omega) (by simpa using c2))
       have PG:=grownCap_ge w (n+(m+1)) ((ρ tk).c-o/i'.size) e
       refine⟨_,_,_,.inl ?_,(sQ ρ h.next w.heap.size (grownCap w (n+(m+1)) ((ρ tk).c-o/i'.size) e) i'.size (n+(m+1)) i'.size).symm,?_,
        (Ext.GZ R ht rfl).trans (Ext.newRow (Ext.GZ R ht rfl).rel ((cs.drop o).take (n*i'.size)++ys) e (Builtin.zeroCells zv.cells (grownCap w (n+(m+1)) ((ρ tk).c-o/i'.size) e-(n+(m+1)))).toList (grownCap w (n+(m+1)) ((ρ tk).c-o/i'.size) e) i'.size MM Oz ?_ (w.drawn+1))⟩
       ·rw[ex,e2];simp only[Sem.run_bind,Hm,Result.andThen_ok,Sem.run_pure];congr 1
        have:(encs ρ ((cs.drop o).take (n*i'.size))++encs ρ ys:List Value).toArray++Builtin.zeroCells zv.cells (grownCap w (n+(m+1)) ((ρ tk).c-o/i'.size) e-(n+(m+1)))=(encs ρ ((cs.drop o).take (n*i'.size)++ys)++(Builtin.zeroCells zv.cells (grownCap w (n+(m+1)) ((ρ tk).c-o/i'.size) e-(n+(m+1)))).toList).toArray:=by
         apply eV.1;simp[kL]
        rw[this];rfl
       ·simp only[ok,cb,Hp.push,Hp.put];exact⟨by omega,trivial,k4,by simp,by simp at PG⊢;omega⟩
       ·rw[ar,hl,hyl,fN,size_zeroCells,xQ,←bh,←bh];exact aM _ (by omega)
     ·cases hr
    ·cases hr
  ·cases hr
 ·cases hr
end
section
variable {P:Program}{base:Nat}{ρ:dw}{h h':Hp}{w:World}{ev:Operand→Value}{tm:T AV}{v:AV}
variable {dst:Option Tmp}{ty:TypeId}{pos:String}{af:Array Edge}{gd:Option (Nat×Bool)}
theorem oZ {r p:Nat}{s:ByteArray}(hb:w.heap[r]?=some (.stringIter s p)):(getObj r).run P w= .ok (.stringIter s p) w:=by simp[getObj,Sem.run,hb]
theorem uW {r p:Nat}{s:ByteArray}(o:Obj)(hb:w.heap[r]?=some (.stringIter s p)):(setObj r o).run P w= .ok () { w with heap:=w.heap.setIfInBounds r o }:=by simp[setObj,Sem.run,hb]
theorem rf (w:World)(r:Nat)(o:Obj)(hr:r<w.heap.size):(w.heap.setIfInBounds r o).size=w.heap.size∧(∀k,k≠r→(w.heap.setIfInBounds r o)[k]?=w.heap[k]?)∧(w.heap.setIfInBounds r o)[r]?=some o:=by
 refine⟨by simp,fun k hk=>?_,?_⟩
 ·rw[wF,if_neg (by omega)]
 ·rw[wF];simp[hr]
theorem mu {r:Nat}{es:Array MapEntry}{clock:Nat}(hb:w.heap[r]?=some (.map es clock)):(getObj r).run P w= .ok (.map es clock) w:=by simp[getObj,Sem.run,hb]
theorem tc {r:Nat}{es:Array MapEntry}{clock:Nat}(o:Obj)(hb:w.heap[r]?=some (.map es clock)):(setObj r o).run P w= .ok () { w with heap:=w.heap.setIfInBounds r o }:=by simp[setObj,Sem.run,hb]
theorem Qx {t:TypeId}{x:Operand}{x':bp}(ht:P.underlying t=some .string)(hx:cv x=some x')(E:dZ ρ h.next ev tm)(R:bv base ρ h w)
  (hr:yL x' (val tm) h=some (v,h')):Yields P base ρ h w (do pure (.value (←Instr.range t (ev x)))) v h':=by
 obtain⟨e1,k1⟩:=E _ _ hx;unfold yL at hr;split at hr
 ·rename_i s g;obtain⟨rfl,rfl⟩:=ai hr;refine⟨rK ρ h.next ⟨w.heap.size,0,0,0⟩,w.alloc (.stringIter ⟨s.toArray⟩ 0),.pointer (some ⟨w.heap.size,0,none⟩),.inl ?_,?_,?_,Ext.nk R _ (il _ _ _) rfl rfl rfl (by show w.heap.size≤(w.heap.push _).size;simp) (fun k hk=>jQ w _ k hk) ?_⟩
  ·rw[e1,g];simp only[enc,Instr.range,Sem.run_bind,run_underlying ht,Result.andThen_ok,Sem.run_pure,run_newObj];rfl
  ·simp only[enc,cb,dd]
  ·simp only[ok,Hp.push];omega
  ·exact⟨by rw[cb];exact ae _,by rw[cb],by rw[cb];exact lL w _⟩
 ·cases hr
theorem Qy {x:Operand}{x':bp}(hx:cv x=some x')(E:dZ ρ h.next ev tm)(R:bv base ρ h w)
  (hr:yM x' (val tm) h=some (v,h')):Yields P base ρ h w (do pure (.value (←Instr.next (ev x) true ty))) v h':=by
 obtain⟨e1,k1⟩:=E _ _ hx;unfold yM at hr;split at hr
 ·rename_i t g;split at hr
  ·rename_i s p st ht;obtain⟨r1,r2,r3⟩:=R.iter t s p st ht;have hb:=(R.hC ht rfl).2;split at hr
   ·rename_i hp;obtain⟨rfl,rfl⟩:=ai hr;obtain⟨g1,g2,g3⟩:=rf w (ρ t).b (.stringIter ⟨s.toArray⟩ (p+(Utf8.decode ⟨s.toArray⟩ p).2)) hb;refine⟨ρ,{ w with heap:=w.heap.setIfInBounds (ρ t).b (.stringIter ⟨s.toArray⟩ (p+(Utf8.decode ⟨s.toArray⟩ p).2)) },_,.inl ?_,rfl,?_,Ext.changed R ht rfl _ rfl rfl rfl g1 g2 ⟨r2,g3⟩⟩
    ·rw[e1,g];have ML:p<(⟨s.toArray⟩:ByteArray).size:=by rw[fT];exact hp
     simp only[enc,r2,aY,Instr.next,Sem.run_bind,oZ r3,Result.andThen_ok,if_pos ML,Sem.run_pure,uW _ r3,encs,goInt]
    ·simp[ok,gP]
   ·rename_i hp;obtain⟨rfl,rfl⟩:=ai hr;refine Yields.pure R ?_ (by simp[ok,gP]);rw[e1,g];have ML:¬p<(⟨s.toArray⟩:ByteArray).size:=by rw[fT];exact hp
    simp only[enc,r2,aY,Instr.next,Sem.run_bind,oZ r3,Result.andThen_ok,if_neg ML,Sem.run_pure,encs]
  ·cases hr
 ·cases hr
theorem JC {t:TypeId}(R:bv base ρ h w)(hr:sA (val tm) h=some (v,h')):Yields P base ρ h w (do pure (.value (←Instr.makeMap t none))) v h':=by
 unfold sA at hr;obtain⟨rfl,rfl⟩:=ai hr;refine⟨rK ρ h.next ⟨w.heap.size,0,0,0⟩,w.alloc (.map #[] 0),.map (some w.heap.size),.inl ?_,?_,?_,Ext.nk R _ (il _ _ _) rfl rfl rfl (by show w.heap.size≤(w.heap.push _).size;simp) (fun k hk=>jQ w _ k hk) ?_⟩
 ·simp only[Instr.makeMap,Sem.run_bind,Result.andThen_ok,Sem.run_pure,run_newObj];rfl
 ·simp only[enc,cb]
 ·simp only[ok,Hp.push];omega
 ·exact⟨by rw[cb];exact ae _,rfl,by rw[cb];exact lL w _⟩
theorem pE (k:List UInt8):∀(es:List (AV×AV)) (ms:List MapEntry) (i:Nat),ms.map (fun m=>(m.key,m.val))=es.map (fun e=>(enc ρ e.1,enc ρ e.2))→∀r,tY k es=some r→
  (Instr.findNow .string (.string ⟨k.toArray⟩) ms i=match r with|none=>some none|some v=>(Instr.findNow .string (.string ⟨k.toArray⟩) ms i))∧
  ∀v,r=some v→(∃j,Instr.findNow .string (.string ⟨k.toArray⟩) ms i=some (some (j,enc ρ v)))∧∃e∈es,e.2=v
 | [],ms,i,hm,r,hr=>by
  obtain rfl:ms=[]:=by simpa using hm
  obtain rfl:=aa hr;exact⟨rfl,by simp⟩
 |(a,b)::es,[],i,hm,r,hr=>by simp at hm
 | (a, b)::es,m::ms,i,hm,r,hr=>by
  simp only[eH,iT,Prod.mk.injEq]at hm;obtain⟨⟨hk,hv⟩,hm⟩:=hm;unfold tY at hr;split at hr
  ·rename_i e;cases e
  ·rename_i k' v' r' e;simp only[iT,Prod.mk.injEq]at e;obtain⟨⟨rfl,rfl⟩,rfl⟩:=e;have hs:Instr.sameNow .string (.string ⟨k.toArray⟩) m.key=some (k==k'):=by rw[hk];simp only[enc,Instr.sameNow,xD]
   split at hr
   ·rename_i hkk;obtain rfl:=aa hr;rw[hkk]at hs;refine⟨rfl,fun v e=>?_⟩;obtain rfl:=aa e;exact⟨⟨i,by simp[Instr.findNow,hs,hv]⟩,_,.head _,rfl⟩
   ·rename_i hkk;simp only[Bool.not_eq_true]at hkk;rw[hkk]at hs;obtain⟨i1,i2⟩:=pE k es ms (i+1) hm r hr;have hf:Instr.findNow .string (.string ⟨k.toArray⟩) (m::ms) i=Instr.findNow .string (.string ⟨k.toArray⟩) ms (i+1):=by rw[Instr.findNow,hs]
    rw[hf];refine⟨i1,fun v e=>?_⟩;obtain⟨j1,e',he,hev⟩:=i2 v e;exact⟨j1,e',.tail _ he,hev⟩
  ·cases hr
theorem Fe {t:TypeId}{z:AV}(hz:xy P t=some z)(w:World)(ρ:dw)(N:Nat):(zeroValue t).run P w= .ok (enc ρ z) w∧ok ρ N z:=by
 unfold xy at hz;split at hz
 ·rename_i i hi;split at hz
  ·rename_i cs hc;split at hz
   ·rename_i l hl;obtain rfl:=aa hz;obtain⟨e1,e2,e3⟩:=iR hl ρ N;exact⟨by simp[zeroValue,typeInfo,run_program,hi,hc,enc,e1],e2⟩
   ·cases hz
  ·rename_i z' _ hc;obtain⟨e1,e2⟩:=qA hz ρ N;exact⟨by simp[zeroValue,typeInfo,run_program,hi,hc,e1],e2⟩
  ·cases hz
 ·cases hz
theorem QF {t kt e:TypeId}{m k:Operand}{m' k':bp}{okk:Bool}{z:AV}(hu:P.underlying t=some (.map kt e))(Bz:P.underlying kt=some .string)(hz:xy P e=some z)(hm:cv m=some m')(hk:cv k=some k')(E:dZ ρ h.next ev tm)(R:bv base ρ h w)
  (hr:tC m' k' z okk (val tm) h=some (v,h')):Yields P base ρ h w (do pure (.value (←Instr.lookup t (ev m) (ev k) okk))) v h':=by
 obtain⟨e1,k1⟩:=E _ _ hm;obtain⟨e2,k2⟩:=E _ _ hk;unfold tC at hr;split at hr
 ·rename_i tk k g1 g2;split at hr
  ·rename_i es st ht;obtain⟨r1,r2,ms,c,r3,r4⟩:=R.map tk es st ht;obtain⟨z1,z2⟩:=Fe hz w ρ h.next;have hck:(Instr.checkKey ms.isEmpty 10000 kt (.string ⟨k.toArray⟩)).run P w= .ok () w:=MapKept.run_checkKey Bz (by simp[MapKept.IsKey]) _ 9999;split at hr
   ·rename_i v' hf;obtain⟨rfl,rfl⟩:=ai hr;obtain⟨_,i2⟩:=pE (ρ:=ρ) k es ms.toList 0 r4 _ hf;obtain⟨⟨j,hj⟩,e',he,rfl⟩:=i2 v' rfl;have ZV:=(r2 e' he).2.2;refine Yields.pure R ?_ (by split;exact⟨ZV,trivial,trivial⟩;exact ZV);rw[e1,e2,g1,g2];simp only[enc,Instr.lookup,Sem.run_bind,run_underlying hu,Result.andThen_ok,mu r3,Sem.run_pure,hck,MapKept.run_findKey Bz hj];cases okk<;>simp[enc,encs]
   ·rename_i hf;obtain⟨rfl,rfl⟩:=ai hr;obtain⟨i1,_⟩:=pE (ρ:=ρ) k es ms.toList 0 r4 _ hf;refine Yields.pure R ?_ (by split;exact⟨z2,trivial,trivial⟩;exact z2);rw[e1,e2,g1,g2];simp only[enc,Instr.lookup,Sem.run_bind,run_underlying hu,Result.andThen_ok,mu r3,Sem.run_pure,hck,MapKept.run_findKey Bz i1,z1];cases okk<;>simp[enc,encs]
   ·cases hr
  ·cases hr
 ·cases hr
theorem vu (k:List UInt8)(v:AV):∀(es:List (AV×AV)) (ms:List MapEntry) (i:Nat),ms.map (fun m=>(m.key,m.val))=es.map (fun e=>(enc ρ e.1,enc ρ e.2))→∀MW,AI k v es=some MW→
  ((Instr.findNow .string (.string ⟨k.toArray⟩) ms i=some none∧MW=es++[(.str k,v)])∨
   ∃j m u,Instr.findNow .string (.string ⟨k.toArray⟩) ms i=some (some (i+j,u))∧ms[j]?=some m∧m.key= .string ⟨k.toArray⟩∧(ms.modify j fun e=>{ e with key:= .string ⟨k.toArray⟩,val:=enc ρ v }).map (fun m=>(m.key,m.val))=MW.map (fun e=>(enc ρ e.1,enc ρ e.2)))∧
  ∀e∈MW,e∈es∨e=(.str k,v)
 | [],ms,i,hm,r,hr=>by
  obtain rfl:ms=[]:=by simpa using hm
  obtain rfl:=aa hr;exact⟨.inl ⟨rfl,rfl⟩,by simp⟩
 |(a,b)::es,[],i,hm,r,hr=>by simp at hm
 | (a, b)::es,m::ms,i,hm,r,hr=>by
  simp only[eH,iT,Prod.mk.injEq]at hm;obtain⟨⟨hk,hv⟩,hm⟩:=hm;unfold AI at hr;split at hr
  ·rename_i e;cases e
  ·rename_i k' v' r' e;simp only[iT,Prod.mk.injEq]at e;obtain⟨⟨rfl,rfl⟩,rfl⟩:=e;have hs:Instr.sameNow .string (.string ⟨k.toArray⟩) m.key=some (k==k'):=by rw[hk];simp only[enc,Instr.sameNow,xD]
   split at hr
   ·rename_i hkk;obtain rfl:=aa hr;rw[hkk]at hs;have Wg:k=k':=by simpa using hkk
    subst Wg;refine⟨.inr ⟨0,m,m.val,by simp[Instr.findNow,hs],rfl,by rw[hk];simp[enc],by simp[hm,enc]⟩,fun e he=>?_⟩;rcases fv.1 he with rfl|he
    ·exact .inr rfl
    ·exact .inl (.tail _ he)
   ·rename_i hkk;simp only[Bool.not_eq_true]at hkk;rw[hkk]at hs;have hf:Instr.findNow .string (.string ⟨k.toArray⟩) (m::ms) i=Instr.findNow .string (.string ⟨k.toArray⟩) ms (i+1):=by rw[Instr.findNow,hs]
    rw[hf];obtain⟨r'',Bv,rfl⟩:=Option.map_eq_some_iff.1 hr;obtain⟨i1,i2⟩:=vu k v es ms (i+1) hm r'' Bv;refine⟨?_,fun e he=>?_⟩
    ·rcases i1 with⟨h1,rfl⟩|⟨j,m',u,h1,h2,h3,h4⟩
     ·exact .inl ⟨h1,rfl⟩
     ·exact .inr ⟨j+1,m',u,by rw[h1];congr 3;omega,by simpa using h2,h3,by simp[h4,hk,hv]⟩
    ·rcases fv.1 he with rfl|he
     ·exact .inl (.head _)
     ·rcases i2 e he with c|c
      ·exact .inl (.tail _ c)
      ·exact .inr c
  ·cases hr
theorem FZ {t kt e:TypeId}{m k x:Operand}{m' k' x':bp}(hu:P.underlying t=some (.map kt e))(Bz:P.underlying kt=some .string)(hm:cv m=some m')(hk:cv k=some k')(hx:cv x=some x')(E:dZ ρ h.next ev tm)(R:bv base ρ h w)
  (hr:pp m' k' x' (val tm) h=some (v,h')):Yields P base ρ h w (do Instr.mapUpdate t (ev m) (ev k) (ev x);pure .skip) v h':=by
 obtain⟨e1,k1⟩:=E _ _ hm;obtain⟨e2,k2⟩:=E _ _ hk;obtain⟨e3,k3⟩:=E _ _ hx;unfold pp at hr;split at hr
 ·rename_i tk k g1 g2;split at hr
  ·rename_i es st ht;obtain⟨r1,r2,ms,c,r3,r4⟩:=R.map tk es st ht;have hb:=(R.hC ht rfl).2;have hck:(Instr.checkKey false 10000 kt (.string ⟨k.toArray⟩)).run P w= .ok () w:=MapKept.run_checkKey Bz (by simp[MapKept.IsKey]) _ 9999;split at hr
   ·rename_i MW J8;obtain⟨rfl,rfl⟩:=ai hr;obtain⟨i1,i2⟩:=vu (ρ:=ρ) k (val tm x') es ms.toList 0 r4 _ J8
    have jR:∀e∈MW,e.1.one=true∧ok ρ h.next e.1∧ok ρ h.next e.2:=fun e he=>by
     rcases i2 e he with c|rfl
     ·exact r2 e c
     ·exact⟨rfl,trivial,k3⟩
    rcases i1 with⟨h1,rfl⟩|⟨j,m0,u,h1,h2,h3,h4⟩
    ·obtain⟨s1,s2,s3⟩:=rf w (ρ tk).b (.map (ms.push { key:= .string ⟨k.toArray⟩,val:=enc ρ (val tm x'),born:=c }) (c+1)) hb;refine⟨ρ,{ w with heap:=w.heap.setIfInBounds (ρ tk).b (.map (ms.push { key:= .string ⟨k.toArray⟩,val:=enc ρ (val tm x'),born:=c }) (c+1)) },undef,.inr ⟨?_,rfl⟩,(kM ρ).symm,trivial,Ext.changed R ht rfl _ rfl rfl rfl s1 s2 ⟨jR,_,_,s3,?_⟩⟩
     ·rw[e1,e2,e3,g1,g2];simp only[enc,Instr.mapUpdate,Sem.run_bind,run_underlying hu,Result.andThen_ok,mu r3,Sem.run_pure,hck,MapKept.run_findKey Bz h1,tc _ r3]
     ·simp[r4,enc]
    ·have hms:ms[j]?=some m0:=by rw[←Array.getElem?_toList];exact h2
     obtain⟨s1,s2,s3⟩:=rf w (ρ tk).b (.map (ms.modify j fun e=>{ e with key:= .string ⟨k.toArray⟩,val:=enc ρ (val tm x') }) c) hb;refine⟨ρ,{ w with heap:=w.heap.setIfInBounds (ρ tk).b (.map (ms.modify j fun e=>{ e with key:= .string ⟨k.toArray⟩,val:=enc ρ (val tm x') }) c) },undef,.inr ⟨?_,rfl⟩,(kM ρ).symm,trivial,Ext.changed R ht rfl _ rfl rfl rfl s1 s2 ⟨jR,_,_,s3,?_⟩⟩
     ·rw [e1,e2,e3,g1,g2]
      have hst:(Instr.keyThatStays (.string ⟨k.toArray⟩) (.string ⟨k.toArray⟩)).run P w= .ok (.string ⟨k.toArray⟩) w:=by
       have:Instr.sameBits 10000 (.string ⟨k.toArray⟩) (.string ⟨k.toArray⟩)=true:=by
        show(((⟨k.toArray⟩:ByteArray)==⟨k.toArray⟩)=true)
        rw[xD];simp
       simp only[Instr.keyThatStays,this,if_true,Sem.run_pure]
      simp only[enc,Instr.mapUpdate,Sem.run_bind,run_underlying hu,Result.andThen_ok,mu r3,Sem.run_pure,hck,MapKept.run_findKey Bz h1,dd,hms,cJ,Option.getD_some,h3,hst,tc _ r3]
     ·rw[Array.toList_modify];exact h4
   ·cases hr
  ·cases hr
 ·cases hr
end
section
variable {P:Program}{base:Nat}{ρ:dw}{h h':Hp}{w:World}{ev:Operand→Value}{tm:T AV}{v:AV}
theorem Yields.of {s s':Sem Next}(hs:s'.run P w=s.run P w)(Y:Yields P base ρ h w s v h'):Yields P base ρ h w s' v h':=by
 obtain⟨ρ',w',u,h1,h2,h3,h4⟩:=Y;exact⟨ρ',w',u,by rw[hs];exact h1,h2,h3,h4⟩
def gM.calls:gM→Bool
 | .lO .. | .gQ .. | .inv .. =>true
 |_=>false
theorem pM {t e:TypeId}(h:qB P t=some e):∃kt,P.underlying t=some (.map kt e)∧P.underlying kt=some .string:=by
 unfold qB at h;split at h
 ·rename_i k e0 hu;split at h
  ·rename_i hk;obtain rfl:=aa h;exact⟨k,hu,hk⟩
  ·cases h
 ·cases h
theorem gZ {dst:Option Tmp}{b:Go.Builtin}{args:Array Operand}{ats:Array TypeId}{ty:TypeId}{pos:String}{af:Array Edge}{gd:Option (Nat×Bool)}{s:Array TypeId→TypeId→Array Value→Sem Value}
  (hb:∀ats ty cs asx,builtin b ats ty cs asx=do pure (.value (←s ats ty asx))) {asx:Array Value} (has:args.map ev=asx):
  (execOp ev ⟨dst,.call ⟨.builtin b,args,ats⟩,ty,pos,af,gd⟩).run P w=(do pure (.value (←s ats ty asx)):Sem Next).run P w:=by
 subst has;simp only[execOp,resolve,invoke,Sem.run_bind,Sem.run_pure,Result.andThen_ok,hb]
theorem rp {o:Oper}{a:gM}(hc:gE P o=some a)(V4:a.calls=false)(E:dZ ρ h.next ev tm)(R:bv base ρ h w)(hr:lV a (val tm) h=some (v,h')):Yields P base ρ h w (execOp ev o) v h':=by
  obtain⟨dst,op,ty,pos,af,gd⟩:=o;cases op<;>try(simp only[gE,reduceCtorEq]at hc;done)
  case move x=>
    simp only[gE]at hc;obtain⟨x',hx,hc⟩:=bind_some hc;obtain rfl:=aa hc;exact Qz hx E R hr
  case assign x=>
    simp only[gE]at hc;obtain⟨x',hx,hc⟩:=bind_some hc;obtain rfl:=aa hc;exact Qz hx E R hr
  case pick c a b=>
    simp only[gE]at hc;obtain⟨c',h1,hc⟩:=bind_some hc;obtain⟨a',h2,hc⟩:=bind_some hc;obtain⟨b',h3,hc⟩:=bind_some hc;obtain rfl:=aa hc;exact NU h1 h2 h3 E R hr
  case alloc e=>
    simp only[gE]at hc;obtain⟨z,hz,hc⟩:=bind_some hc;obtain rfl:=aa hc;exact JF (tm:=tm) hz R hr
  case box e x=>
    simp only[gE]at hc;obtain⟨x',hx,hc⟩:=bind_some hc;obtain rfl:=aa hc;exact QL hx E R hr
  case build t ps=>
    simp only[gE]at hc;obtain⟨z,hz,hc⟩:=bind_some hc;split at hc
    · rename_i fs hu
      split at hc
      · rename_i jR
        obtain⟨l,hl,hc⟩:=bind_some hc;obtain rfl:=aa hc;exact JE hz hu jR hl E R hr
      · cases hc
    · cases hc
  case buildSlice t n ps=>
    simp only[gE]at hc;split at hc
    · rename_i e hu
      obtain⟨s,hs,hc⟩:=bind_some hc;obtain⟨z,hz,hc⟩:=bind_some hc;split at hc
      · rename_i Hz
        obtain⟨l,hl,hc⟩:=bind_some hc;obtain rfl:=aa hc;exact Ga hu hs hz Hz hl E R hr
      · cases hc
    · cases hc
  case load t x=>
    simp only[gE]at hc;obtain⟨a,ha,hc⟩:=bind_some hc;obtain⟨n,hn,hc⟩:=bind_some hc;obtain⟨x',hx,hc⟩:=bind_some hc;obtain rfl:=aa hc;exact NV ha hn hx E R hr
  case store t x y=>
    simp only[gE]at hc;obtain⟨n,hn,hc⟩:=bind_some hc;obtain⟨x',hx,hc⟩:=bind_some hc;obtain⟨y',hy,hc⟩:=bind_some hc;obtain rfl:=aa hc;exact JA hn hx hy E R hr
  case nilCheck x=>
    simp only[gE]at hc;obtain⟨x',hx,hc⟩:=bind_some hc;obtain rfl:=aa hc;exact JB hx E R hr
  case binOp op t x y yt=>
    simp only[gE]at hc;obtain⟨x',hx,hc⟩:=bind_some hc;obtain⟨y',hy,hc⟩:=bind_some hc;obtain rfl:=aa hc;exact QM (yt:=yt) hx hy E R hr
  case unOp op t x=>
    simp only[gE]at hc;obtain⟨x',hx,hc⟩:=bind_some hc;obtain rfl:=aa hc;exact UJ hx E R hr
  case convert s d x=>
    simp only[gE]at hc;split at hc
    · rename_i k0 k hs hd
      obtain⟨x',hx,hc⟩:=bind_some hc;obtain rfl:=aa hc;exact QK hs hd hx E R hr
    · rename_i hs hd
      obtain⟨x',hx,hc⟩:=bind_some hc;obtain rfl:=aa hc;exact QJ hs hd hx E R hr
    · cases hc
  case makeInterface t x=>
    simp only[gE]at hc;split at hc
    · cases hc
    · rename_i d hd hne
      obtain⟨x',hx,hc⟩:=bind_some hc;obtain rfl:=aa hc;exact QB hne (fun ms e=>hd ms (e▸rfl)) hx E R hr
    · cases hc
  case makeFunc f first cs=>
    cases f<;>try(simp only[gE,reduceCtorEq]at hc;done)
    rename_i f;simp only[gE]at hc;split at hc
    · rename_i he
      obtain⟨l,hl,hc⟩:=bind_some hc;obtain rfl:=aa hc;obtain rfl:first= #[]:=by simpa using he
      have:=QC (P:=P) hl E R hr;simpa[execOp]using this
    · cases hc
  case makeMap t r=>
    cases r
    · simp only[gE]at hc
      obtain⟨e,he,hc⟩:=bind_some hc;obtain rfl:=aa hc;exact JC (tm:=tm) R hr
    · simp only[gE,reduceCtorEq]at hc
  case makeSlice t l c=>
    simp only[gE]at hc;split at hc
    · rename_i e hu
      split at hc
      · rename_i i hi
        obtain⟨z,hz,hc⟩:=bind_some hc;obtain⟨l',hl,hc⟩:=bind_some hc;obtain⟨c',Hz,hc⟩:=bind_some hc;obtain rfl:=aa hc;exact QA hu hi hz hl Hz E R hr
      · cases hc
    · cases hc
  case slice t x lo hi m=>
    cases m
    · simp only[gE]at hc
      split at hc
      · rename_i hu
        obtain⟨x',hx,hc⟩:=bind_some hc;obtain⟨IN,hlo,hc⟩:=bind_some hc;obtain⟨hi',D6,hc⟩:=bind_some hc;obtain rfl:=aa hc;exact Qw hu hx hlo D6 E R hr
      · rename_i e hu
        obtain⟨s,hs,hc⟩:=bind_some hc;obtain⟨x',hx,hc⟩:=bind_some hc;obtain⟨IN,hlo,hc⟩:=bind_some hc;obtain⟨hi',D6,hc⟩:=bind_some hc;obtain rfl:=aa hc;exact UK hu hs hx hlo D6 E R hr
      · cases hc
    · simp only[gE,reduceCtorEq]at hc
  case fieldAddr s x i=>
    simp only[gE]at hc;obtain⟨f,hf,hc⟩:=bind_some hc;obtain⟨n,hn,hc⟩:=bind_some hc;split at hc
    · cases hc
    · rename_i hn0
      obtain⟨x',hx,hc⟩:=bind_some hc;obtain rfl:=aa hc;exact NY hf hn hn0 hx E R hr
  case field s x i=>
    simp only[gE]at hc;obtain⟨f,hf,hc⟩:=bind_some hc;obtain⟨a,ha,hc⟩:=bind_some hc;obtain⟨n,hn,hc⟩:=bind_some hc;obtain⟨x',hx,hc⟩:=bind_some hc;obtain rfl:=aa hc;exact QG hf ha hn hx E R hr
  case indexAddr t x i=>
    simp only[gE]at hc;split at hc
    · rename_i e hu
      obtain⟨s,hs,hc⟩:=bind_some hc;obtain⟨x',hx,hc⟩:=bind_some hc;obtain⟨i',hi,hc⟩:=bind_some hc;obtain rfl:=aa hc;exact NX hu hs hx hi E R hr
    · rename_i n e hu
      obtain⟨s,hs,hc⟩:=bind_some hc;obtain⟨x',hx,hc⟩:=bind_some hc;obtain⟨i',hi,hc⟩:=bind_some hc;obtain rfl:=aa hc;exact JD hu hs hx hi E R hr
    · cases hc
  case index t x i=>
    simp only[gE]at hc;split at hc
    · rename_i hu
      obtain⟨x',hx,hc⟩:=bind_some hc;obtain⟨i',hi,hc⟩:=bind_some hc;obtain rfl:=aa hc;exact NW hu hx hi E R hr
    · cases hc
  case lookup t m k okk=>
    simp only[gE]at hc;obtain⟨e,he,hc⟩:=bind_some hc;obtain⟨z,hz,hc⟩:=bind_some hc;obtain⟨m',hm,hc⟩:=bind_some hc;obtain⟨k',hk,hc⟩:=bind_some hc;obtain rfl:=aa hc;obtain⟨kt,hu,Bz⟩:=pM he;exact QF hu Bz hz hm hk E R hr
  case mapUpdate t m k x=>
    simp only[gE]at hc;obtain⟨e,he,hc⟩:=bind_some hc;obtain⟨m',hm,hc⟩:=bind_some hc;obtain⟨k',hk,hc⟩:=bind_some hc;obtain⟨x',hx,hc⟩:=bind_some hc;obtain rfl:=aa hc;obtain⟨kt,hu,Bz⟩:=pM he;exact FZ hu Bz hm hk hx E R hr
  case insert t m k x=>
    simp only[gE]at hc;obtain⟨e,he,hc⟩:=bind_some hc;obtain⟨m',hm,hc⟩:=bind_some hc;obtain⟨k',hk,hc⟩:=bind_some hc;obtain⟨x',hx,hc⟩:=bind_some hc;obtain rfl:=aa hc;obtain⟨kt,hu,Bz⟩:=pM he;exact FZ hu Bz hm hk hx E R hr
  case range t x=>
    simp only[gE]at hc;split at hc
    · rename_i hu
      obtain⟨x',hx,hc⟩:=bind_some hc;obtain rfl:=aa hc;exact Qx hu hx E R hr
    · cases hc
  case next x b=>
    cases b
    · simp only[gE,reduceCtorEq]at hc
    · simp only[gE]at hc
      obtain⟨x',hx,hc⟩:=bind_some hc;obtain rfl:=aa hc;exact Qy hx E R hr
  case extract x i=>
    simp only[gE]at hc;obtain⟨x',hx,hc⟩:=bind_some hc;obtain rfl:=aa hc;exact QH hx E R hr
  case call c =>
    obtain⟨callee,args,ats⟩:=c;cases callee
    case value f=>
      cases f<;>simp only[gE]at hc
      case func f=>
        obtain⟨l,hl,hc⟩:=bind_some hc;obtain rfl:=aa hc;simp[gM.calls]at V4
      all_goals
        obtain⟨x',hx,hc⟩:=bind_some hc;obtain⟨l,hl,hc⟩:=bind_some hc;obtain rfl:=aa hc;simp[gM.calls]at V4
    case invoke x name=>
      simp only[gE]at hc;obtain⟨x',hx,hc⟩:=bind_some hc;obtain⟨l,hl,hc⟩:=bind_some hc;obtain rfl:=aa hc;simp[gM.calls]at V4
    case builtin b=>
      cases b<;>try(simp only[gE,reduceCtorEq]at hc;done)
      case len=>
        simp only[gE]at hc;split at hc
        · rename_i t x OI tS
          obtain rfl:ats= #[t]:=by apply eV.1;simpa using OI
          obtain rfl:args= #[x]:=by apply eV.1;simpa using tS
          split at hc
          · rename_i hu
            obtain⟨x',hx,hc⟩:=bind_some hc;obtain rfl:=aa hc;exact Yields.of (gZ (s:=Builtin.len_) (fun _ _ _ _=>rfl) (asx:= #[ev x]) (by simp)) (F6 (ty:=ty) hu trivial hx E R hr)
          · rename_i e hu
            obtain⟨x',hx,hc⟩:=bind_some hc;obtain rfl:=aa hc;exact Yields.of (gZ (s:=Builtin.len_) (fun _ _ _ _=>rfl) (asx:= #[ev x]) (by simp)) (F6 (ty:=ty) hu trivial hx E R hr)
          · rename_i n e hu
            obtain⟨x',hx,hc⟩:=bind_some hc;obtain rfl:=aa hc;exact Yields.of (gZ (s:=Builtin.len_) (fun _ _ _ _=>rfl) (asx:= #[ev x]) (by simp)) (F6 (q:= .arr n) (ty:=ty) hu rfl hx E R hr)
          · cases hc
        · cases hc
      case append =>
        simp only[gE]at hc;split at hc
        · rename_i t tx x y OI tS
          obtain rfl:ats= #[t,tx]:=by apply eV.1;simpa using OI
          obtain rfl:args= #[x,y]:=by apply eV.1;simpa using tS
          have key:∀e,P.underlying t=some (.slice e)→((∃e',P.underlying tx=some (.slice e'))∨P.underlying tx=some .string)→
              (match P.info? e with
                | some i=>match ku P e with
                  |some z=>if z.length=i.size∧0<i.size then(cv x).bind fun x=>(cv y).bind fun y=>some (gM.app i.size i.bytes x y)else none
                  |none=>none
                |none=>none)=some a→Yields P base ρ h w (do pure (.value (←Builtin.append_ #[t,tx] ty #[ev x,ev y]))) v h':=by
            intro e hu hk hc;split at hc
            · rename_i i hi
              split at hc
              · rename_i z hz
                split at hc
                · rename_i VG
                  obtain⟨x',hx,hc⟩:=bind_some hc;obtain⟨y',hy,hc⟩:=bind_some hc;obtain rfl:=aa hc;exact QN hu hk hi hz VG hx hy E R hr
                · cases hc
              · cases hc
            · cases hc
          split at hc
          · rename_i e e' hu hk
            exact Yields.of (gZ (s:=Builtin.append_) (fun _ _ _ _=>rfl) (asx:= #[ev x,ev y]) (by simp)) (key e hu (.inl ⟨e',hk⟩) hc)
          · rename_i e hu hk
            exact Yields.of (gZ (s:=Builtin.append_) (fun _ _ _ _=>rfl) (asx:= #[ev x,ev y]) (by simp)) (key e hu (.inr hk) hc)
          · cases hc
        · cases hc
      case max=>
        simp only[gE]at hc;obtain⟨l,hl,hc⟩:=bind_some hc;obtain rfl:=aa hc;have:=QE (P:=P) (ats:=ats) (ty:=ty) hl E R hr;have e:(args.toList.map ev).toArray=args.map ev:=by apply eV.1;simp
        rw[e]at this;exact Yields.of (gZ (s:=Builtin.max_) (fun _ _ _ _=>rfl) rfl) this
      case min=>
        simp only[gE]at hc;obtain⟨l,hl,hc⟩:=bind_some hc;obtain rfl:=aa hc;have:=QD (P:=P) (ats:=ats) (ty:=ty) hl E R hr;have e:(args.toList.map ev).toArray=args.map ev:=by apply eV.1;simp
        rw[e]at this;exact Yields.of (gZ (s:=Builtin.min_) (fun _ _ _ _=>rfl) rfl) this
end
def JH:Option bp→List bp
 |some x=>[x]
 |none=>[]
def gM.Ba:gM→List bp
 | .mv x| .box x| .load _ _ x| .yR x| .un _ x| .sJ _ x| .PO x| .Pc x| .ER _ x| .jk _ x| .xT _ _ _ x| .ext x _| .len _ x| .TL x| .TN x=>[x]
 | .pick a b c| .yS a b c=>[a,b,c]
 | .alloc _| .vF| .bad=>[]
 | .build _ ps| .cL _ _ _ ps| .Az _ _ _ ps=>ps.map fun p=>p.2.2
 | .store _ x y| .bin _ _ x y| .uN _ _ _ x y| .iG _ x y| .vN _ _ x y| .idxs x y| .app _ _ x y| .Ok x y _ _=>[x,y]
 | .Og _ cs=>cs
 | .qO x lo hi| .sl _ x lo hi=>x::(JH lo++JH hi)
 | .mx xs| .mn xs=>xs
 | .lO _ args=>args
 | .gQ x args=>x::args
 | .inv x _ args=>x::args
theorem oC {ρ ρ':bp→AV}{ps:List (Nat×Nat×bp)}(hh:∀y∈ps.map (fun p=>p.2.2),ρ y=ρ' y):
  (ps.map fun p=>(p.1,p.2.1,ρ p.2.2))=ps.map fun p=>(p.1,p.2.1,ρ' p.2.2):=
 bJ fun p hp=>by rw[hh _ (iV.2 ⟨p,hp,rfl⟩)]
theorem qg {ρ ρ':bp→AV}{x:Option bp}(hh:∀y∈JH x,ρ y=ρ' y):x.map ρ=x.map ρ':=by
 cases x with
 |none=>rfl
 |some x=>simp[hh x (by simp[JH])]
theorem ws {a:gM}{ρ ρ':bp→AV}(h:Hp)(hh:∀y∈a.Ba,ρ y=ρ' y):lV a ρ h=lV a ρ' h:=by
 cases a<;>simp only[gM.Ba,fv,List.not_mem_nil,or_false,forall_eq_or_imp,forall_eq,dR]at hh<;>simp only[lV]
 case build z ps=>unfold kD;rw[oC hh]
 case cL s n z ps=>unfold hZ;rw[oC hh]
 case Az s n z ps=>unfold nq;rw[oC hh]
 case Og f cs=>unfold yQ;rw[bJ hh]
 case mx xs=>unfold yN;rw[bJ hh]
 case mn xs=>unfold yO;rw[bJ hh]
 case qO x lo hi=>unfold tB;rw[hh.1,qg fun y hy=>hh.2 y (.inl hy),qg fun y hy=>hh.2 y (.inr hy)]
 case sl s x lo hi=>unfold GJ;rw[hh.1,qg fun y hy=>hh.2 y (.inl hy),qg fun y hy=>hh.2 y (.inr hy)]
 case mv=>unfold GK;rw[hh]
 case pick=>unfold po;rw[hh.1,hh.2.1,hh.2.2]
 case alloc=>rfl
 case box=>unfold tI;rw[hh]
 case load=>unfold pq;rw[hh]
 case store=>unfold oh;rw[hh.1,hh.2]
 case yR=>unfold ol;rw[hh]
 case bin=>unfold tJ;rw[hh.1,hh.2]
 case un=>unfold Bb;rw[hh]
 case sJ=>unfold tH;rw[hh]
 case PO=>unfold tG;rw[hh]
 case Pc=>unfold Bc;rw[hh]
 case ER=>unfold yP;rw[hh]
 case uN=>unfold rO;rw[hh.1,hh.2]
 case jk=>unfold px;rw[hh]
 case xT=>unfold tE;rw[hh]
 case iG=>unfold pw;rw[hh.1,hh.2]
 case vN=>unfold mi;rw[hh.1,hh.2]
 case idxs=>unfold pu;rw[hh.1,hh.2]
 case ext=>unfold tF;rw[hh]
 case len=>unfold tD;rw[hh]
 case app=>unfold CR;rw[hh.1,hh.2]
 case TL=>unfold yL;rw[hh]
 case TN=>unfold yM;rw[hh]
 case vF=>rfl
 case yS=>unfold pp;rw[hh.1,hh.2.1,hh.2.2]
 case Ok=>unfold tC;rw[hh.1,hh.2]
 all_goals rfl
theorem DQ {a:gM}{E:Env}{rec:Rec}{s s':St}(hp:s'.hp=s.hp)(hh:∀y∈a.Ba,val s.tm y=val s'.tm y):lU a E rec s=lU a E rec s':=by
 cases hc:a.calls with
 | false=>
  have:∀s,lU a E rec s=lV a (val s.tm) s.hp:=by cases a<;>first|(simp[gM.calls]at hc;done)|(intro s;rfl)
  rw[this,this,hp];exact ws _ hh
 | true=>
  cases a<;>simp[gM.calls]at hc<;>simp only[gM.Ba,fv,forall_eq_or_imp]at hh<;>simp only[lU]
  case lO f args=>unfold wU;rw[hp,bJ hh]
  case gQ x args=>unfold jP;rw[hp,bJ hh.2,hh.1]
  case inv x n args=>unfold qk;rw[hp,bJ hh.2,hh.1]
section
variable {P:Program}{base:Nat}{ρ:dw}{h h':Hp}{w:World}{ev:Operand→Value}{tm:T AV}{v:AV}
def kT (P:Program)(K:Value→World→Prop):Result Next→Prop
 | .ok (.value v) w'=>K v w'
 | .ok .skip w'=>K undef w'
 | .ok (.enter f args) w'=>Calls P f args w' fun e w''=>∃v,e= .returned v∧K v w''
 |_=>False
theorem kT.mono {K K':Value→World→Prop}{r:Result Next}(ht:kT P K r)(hk:∀v w',K v w'→K' v w'):kT P K' r:=by
 cases r with
 | ok n w'=>
  cases n<;>first
   |exact hk _ _ ht
   |exact Calls.mono ht fun e w' he=>by obtain⟨v,rfl,h⟩:=he;exact⟨v,rfl,hk _ _ h⟩
   |exact ht
 |halt x w'=>exact ht
theorem kT.wp {K:Value→World→Prop}{o:Oper}{a:Act}{next:Act→World→Prop}{Q:Exit→Act→World→Prop}(ht:kT P K ((execOp a.eval o).run P w))(hk:∀v w',K v w'→next (a.put o.dst v) w'):o.wp P a w next Q:=by
 unfold Oper.wp;generalize (execOp a.eval o).run P w=r at ht
 cases r with
 | ok n w'=>
  cases n<;>first
   |exact hk _ _ ht
   |exact Calls.mono ht fun e w' he=>by obtain⟨v,rfl,h⟩:=he;exact hk _ _ h
   |exact False.elim ht
 |halt x w'=>exact False.elim ht
def qH (base:Nat)(ρ:dw)(h:Hp)(w:World)(v:AV)(h':Hp)(u:Value)(w':World):Prop:=∃ρ',Ext base ρ h w ρ' h' w'∧ok ρ' h'.next v∧u=enc ρ' v
def dQ (P:Program)(base:Nat)(ρ:dw)(h:Hp)(w:World)(s:Sem Next)(v:AV)(h':Hp):Prop:=kT P (qH base ρ h w v h') (s.run P w)
theorem Yields.OV {s:Sem Next}(Y:Yields P base ρ h w s v h'):dQ P base ρ h w s v h':=by
 obtain⟨ρ',w',u,h1,h2,h3,h4⟩:=Y;unfold dQ;rcases h1 with h1|⟨h1,rfl⟩<;>rw[h1]
 ·exact⟨ρ',h4,h3,h2⟩
 ·exact⟨ρ',h4,h3,h2⟩
def mG (P:Program)(W0:World)(base:Nat)(E:Env)(rec:Rec):Prop:=∀f args h v h',gB E rec f args h=some (v,h')→∀ρ w,bl base W0 w→bv base ρ h w→gP ρ h.next args→dQ P base ρ h w (callFunc f (encs ρ args).toArray) v h'
def rE (P:Program)(E:Env):Prop:=∀T name f,E.gF T name=some f→∀v w,(method (P.types.size+Made.depth) T v name).run P w= .ok (f,v) w
theorem dQ.of {s s':Sem Next}(hs:s'.run P w=s.run P w)(D:dQ P base ρ h w s v h'):dQ P base ρ h w s' v h':=by
 unfold dQ at *;rw[hs];exact D
def NC (o:Option gM):Prop:=∀a,o=some a→a.calls=false
theorem oq:NC none:=nofun
theorem oo {a:gM}(h:a.calls=false):NC (some a):=fun b e=>by obtain rfl:=aa e;exact h
theorem ot {α:Type}{x:Option α}{f:α→Option gM}(h:∀y,NC (f y)):NC (x.bind f):=fun a e=>by
 obtain⟨y,_,hy⟩:=bind_some e;exact h y a hy
theorem QY {o:Oper}(ho:∀c,o.op≠ .call c):NC (gE P o):=by
 obtain⟨dst,op,ty,pos,af,gd⟩:=o;cases op
 case call c=>exact absurd rfl (ho c)
 case makeFunc f first cs=>cases f<;>simp only[gE]<;>repeat'(first|exact oq|exact oo rfl|(apply ot;intro _)|split)
 case makeMap t r=>cases r<;>simp only[gE]<;>repeat'(first|exact oq|exact oo rfl|(apply ot;intro _)|split)
 case slice t x lo hi m=>cases m<;>simp only[gE]<;>repeat'(first|exact oq|exact oo rfl|(apply ot;intro _)|split)
 case next x b=>cases b<;>simp only[gE]<;>repeat'(first|exact oq|exact oo rfl|(apply ot;intro _)|split)
 all_goals simp only[gE]<;>repeat'(first|exact oq|exact oo rfl|(apply ot;intro _)|split)
theorem Em {o:Oper}{a:gM}(hc:gE P o=some a)(hn:a.calls=true):
  ∃ c,o.op= .call c∧((∃f l,c.callee= .value (.func f)∧kv c.args.toList=some l∧a= .lO f l)∨
   (∃x x' l,c.callee= .value x∧cv x=some x'∧kv c.args.toList=some l∧a= .gQ x' l)∨
   (∃x x' name l,c.callee= .invoke x name∧cv x=some x'∧kv c.args.toList=some l∧a= .inv x' name l)):=by
 obtain⟨dst,op,ty,pos,af,gd⟩:=o;cases op
 case call c=>
  refine⟨c,rfl,?_⟩;obtain⟨callee,args,ats⟩:=c;cases callee
  case value f=>
   cases f<;>simp only[gE]at hc
   case func f=>
    obtain⟨l,hl,hc⟩:=bind_some hc;obtain rfl:=aa hc;exact .inl ⟨f,l,rfl,hl,rfl⟩
   all_goals
    obtain⟨x',hx,hc⟩:=bind_some hc;obtain⟨l,hl,hc⟩:=bind_some hc;obtain rfl:=aa hc;exact .inr (.inl ⟨_,x',l,rfl,hx,hl,rfl⟩)
  case invoke x name=>
   simp only[gE]at hc;obtain⟨x',hx,hc⟩:=bind_some hc;obtain⟨l,hl,hc⟩:=bind_some hc;obtain rfl:=aa hc;exact .inr (.inr ⟨x,x',name,l,rfl,hx,hl,rfl⟩)
  case builtin b=>
   exfalso
   have:NC (gE P ⟨dst,.call ⟨.builtin b,args,ats⟩,ty,pos,af,gd⟩):=by
    cases b<;>simp only[gE]<;>repeat'(first|exact oq|exact oo rfl|(apply ot;intro _)|split)
   rw[this a hc]at hn;cases hn
 all_goals
  exfalso;have:=QY (fun c e=>by simp at e) a hc;rw[hn]at this;cases this
theorem wZ {args:Array Operand}{l:List Value}(h:args.toList.map ev=l):args.map ev=l.toArray:=by apply eV.1;simpa using h
theorem tz {W0:World}{En:Env}{rec:Rec}{o:Oper}{a:gM}{s:St}(CO:mG P W0 base En rec)(B:bl base W0 w)(MO:rE P En)(hc:gE P o=some a)(E:dZ ρ s.hp.next ev s.tm)(R:bv base ρ s.hp w)(hr:lU a En rec s=some (v,h')):
  dQ P base ρ s.hp w (execOp ev o) v h':=by
 cases hn:a.calls with
 | false=>
  have:lU a En rec s=lV a (val s.tm) s.hp:=by cases a<;>first|(simp[gM.calls]at hn;done)|rfl
  rw[this]at hr;exact(rp hc hn E R hr).OV
 | true=>
  obtain⟨c,hop,RM⟩:=Em hc hn;have hex:(execOp ev o)=(do let d ←resolve ev c o.type;invoke d.target d.args):=by unfold execOp;rw[hop]
  rw[hex];rcases RM with⟨f,l,h1,h2,rfl⟩|⟨x,x',l,h1,h2,h3,rfl⟩|⟨x,x',name,l,h1,h2,h3,rfl⟩
  ·simp only[lU,wU]at hr;obtain⟨e1,e2⟩:=E.list h2;refine dQ.of ?_ (CO f _ _ _ _ hr ρ w B R e2)
   have hf:ev (.func f)= .func (.func f) #[] #[]:=by
    have:=(E (.func f) (.k (.fn f [])) rfl).1;simpa[enc,val,encs]using this
   simp only[resolve,h1,hf,Deferred.ofValue,Sem.run_bind,Sem.run_pure,Result.andThen_ok,invoke,wZ e1];simp
  ·simp only[lU,jP]at hr;obtain⟨e1,e2⟩:=E.list h3;obtain⟨e3,e4⟩:=E _ _ h2;split at hr
   ·rename_i f cap g;rw[g]at e3 e4
    refine dQ.of ?_ (CO f _ _ _ _ hr ρ w B R ((cQ _ _ _).2 fun y hy=>by
     have e4':gP ρ s.hp.next cap:=e4;rcases dR.1 hy with c|c
     ·exact(cQ _ _ _).1 e2 y c
     ·exact(cQ _ _ _).1 e4' y c))
    simp only[resolve,h1,e3,enc,Deferred.ofValue,Sem.run_bind,Sem.run_pure,Result.andThen_ok,invoke,wZ e1,kL];simp
   ·cases hr
  ·simp only[lU,qk]at hr;obtain⟨e1,e2⟩:=E.list h3;obtain⟨e3,e4⟩:=E _ _ h2;split at hr
   ·rename_i T u g;rw[g]at e3 e4;split at hr
    ·rename_i f hm;refine dQ.of ?_ (CO f _ _ _ _ hr ρ w B R ⟨e4,e2⟩);have hme:=MO T name f hm (enc ρ u) w;simp only[resolve,h1,e3,enc,Sem.run_bind,Sem.run_pure,Result.andThen_ok,invoke,wZ e1,callMethod,run_program];simp[callMethod,run_program,hme,encs]
    ·cases hr
   ·cases hr
end
def WF (h:Hp):Prop:=∀t o,h.get t=some o→t<h.next
structure bH (h h':Hp):Prop where
 dc:h.dc≤h'.dc
 next:h.next≤h'.next
 get:∀t,h'.get t=h.get t∨∃o,h'.get t=some o∧h.dc<o.st
 wf:WF h→WF h'
theorem bH.refl (h:Hp):bH h h:=⟨ae _,ae _,fun _=> .inl rfl,id⟩
theorem bH.trans {h h' xg:Hp}(a:bH h h')(b:bH h' xg):bH h xg:=by
 refine⟨aB a.1 b.1,aB a.2 b.2,fun t=>?_,fun h=>b.4 (a.4 h)⟩;rcases b.3 t with c|⟨o,c,d⟩
 ·rw[c];exact a.3 t
 ·exact .inr ⟨o,c,Nat.lt_of_le_of_lt a.1 d⟩
theorem bH.push (h:Hp)(o:Nat→cP)(ho:(o (h.dc+1)).st=h.dc+1):bH h (h.push o):=by
 refine⟨ee _,ee _,fun t=>?_,fun wf t ob ht=>?_⟩
 ·rw[Hp.cM];split
  ·exact .inr ⟨_,rfl,by rw[ho];omega⟩
  ·exact .inl rfl
 ·rw[Hp.cM]at ht;show t<h.next+1
  split at ht
  ·omega
  ·have:=wf t ob ht;omega
theorem bH.put (h:Hp)(t:Nat)(o:Nat→cP)(hg:∃o,h.get t=some o)(ho:(o (h.dc+1)).st=h.dc+1):bH h (h.put t o):=by
 refine⟨ee _,ae _,fun t'=>?_,fun wf t' ob ht=>?_⟩
 ·rw[Hp.iM];split
  ·exact .inr ⟨_,rfl,by rw[ho];omega⟩
  ·exact .inl rfl
 ·rw[Hp.iM]at ht;show t'<h.next
  split at ht
  ·rename_i e;subst e;obtain⟨o1,h1⟩:=hg;exact wf _ o1 h1
  ·exact wf t' ob ht
theorem bH.old {h0 h h':Hp}(a:bH h0 h)(b:bH h h'){t:Nat}(ho:old h' h0.dc t=true):h.get t=h0.get t∧h'.get t=h0.get t∧∃o,h0.get t=some o:=by
 unfold Ae.old at ho;split at ho
 ·rename_i o hg;have hst:o.st≤h0.dc:=iU ho
  have h1:h'.get t=h.get t:=by
   rcases b.3 t with c|⟨o',c,d⟩
   ·exact c
   ·rw[hg]at c;obtain rfl:=aa c;have:=a.1;omega
  have h2:h.get t=h0.get t:=by
   rcases a.3 t with c|⟨o',c,d⟩
   ·exact c
   ·rw[←h1,hg]at c;obtain rfl:=aa c;omega
  exact⟨h2,h1.trans h2,o,by rw[←h2,←h1,hg]⟩
 ·cases ho
theorem B6 {h h':Hp}{sz by_:Nat}{x y v:AV}(hr:jm h sz by_ x y=some (v,h')):bH h h':=by
 unfold jm at hr;repeat' split at hr
 all_goals first
  |(cases hr;done)
  |(obtain⟨rfl,rfl⟩:=ai hr;exact bH.refl _)
  |(obtain⟨rfl,rfl⟩:=ai hr;exact bH.push _ _ rfl)
  |(obtain⟨rfl,rfl⟩:=ai hr;exact(bH.put _ _ _ ⟨_,by assumption⟩ rfl).trans (bH.push _ _ rfl))
theorem DG {h h':Hp}{sz:Nat}{x v:AV}{lo hi:Option AV}(hr:AN h sz x lo hi=some (v,h')):bH h h':=by
 unfold AN at hr;repeat' split at hr
 all_goals first
  |(cases hr;done)
  |(obtain⟨rfl,rfl⟩:=ai hr;exact bH.refl _)
  |(obtain⟨rfl,rfl⟩:=ai hr;exact bH.push _ _ rfl)
theorem EA {a:gM}{ρ:bp→AV}{h h':Hp}{v:AV}(hr:lV a ρ h=some (v,h')):bH h h':=by
 cases a<;>simp only[lV]at hr
 case app=>exact B6 hr
 case sl=>exact DG hr
 case lO=>cases hr
 case gQ=>cases hr
 case inv=>cases hr
 case bad=>cases hr
 all_goals
  first
  |unfold GK at hr|unfold po at hr|unfold om at hr|unfold tI at hr|unfold kD at hr|unfold hZ at hr|unfold nq at hr|unfold pq at hr|unfold oh at hr|unfold ol at hr|unfold tJ at hr
  |unfold Bb at hr|unfold tH at hr|unfold tG at hr|unfold Bc at hr|unfold yP at hr|unfold yQ at hr|unfold rO at hr|unfold tB at hr|unfold px at hr|unfold tE at hr|unfold pw at hr
  |unfold mi at hr|unfold pu at hr|unfold tF at hr|unfold tD at hr|unfold yN at hr|unfold yO at hr|unfold yL at hr|unfold yM at hr|unfold sA at hr|unfold pp at hr|unfold tC at hr
  try dsimp only at hr
  repeat' split at hr
  all_goals first
   |(cases hr;done)
   |(obtain⟨rfl,rfl⟩:=ai hr;exact bH.refl _)
   |(obtain⟨rfl,rfl⟩:=ai hr;exact bH.push _ _ rfl)
   |(obtain⟨rfl,rfl⟩:=ai hr;exact bH.put _ _ _ ⟨_,by assumption⟩ rfl)
def ga (E:Env):Prop:=∀f p args h v h',E.dG f=some p→p args h=some (v,h')→bH h h'
def nO (rec:Rec):Prop:=∀c s e s',rec c s=some (e,s')→bH s.hp s'.hp
theorem nL {E:Env}{rec:Rec}(hp:ga E)(kn:nO rec){f:Nat}{args:List AV}{h h':Hp}{v:AV}(hr:gB E rec f args h=some (v,h')):bH h h':=by
 unfold gB at hr;repeat' split at hr
 all_goals first
  |(cases hr;done)
  |(obtain⟨rfl,rfl⟩:=ai hr;exact bH.refl _)
  |exact hp _ _ _ _ _ _ (by assumption) hr
  |(obtain⟨rfl,rfl⟩:=ai hr;rename_i hh _ _ _;exact kn _ _ _ _ (by assumption))
theorem qU {E:Env}{rec:Rec}(hp:ga E)(kn:nO rec){a:gM}{s:St}{h':Hp}{v:AV}(hr:lU a E rec s=some (v,h')):bH s.hp h':=by
 cases hc:a.calls with
 | false=>
  have:lU a E rec s=lV a (val s.tm) s.hp:=by cases a<;>first|(simp[gM.calls]at hc;done)|rfl
  rw[this]at hr;exact EA hr
 | true=>
  cases a<;>simp[gM.calls]at hc<;>simp only[lU]at hr
  case lO=>exact nL hp kn hr
  case gQ=>
   unfold jP at hr;split at hr
   ·exact nL hp kn hr
   ·cases hr
  case inv=>
   unfold qk at hr;split at hr
   ·split at hr
    ·exact nL hp kn hr
    ·cases hr
   ·cases hr
theorem AK {E:Env}{rec:Rec}(hp:ga E)(kn:nO rec):nO (step E rec):=by
 intro c s e s' hr;unfold step at hr;cases c<;>simp only[FK]at hr
 case skip=>obtain⟨rfl,rfl⟩:=ai hr;exact bH.refl _
 case cx ops=>
  cases ops with
  |nil=>obtain⟨rfl,rfl⟩:=ai hr;exact bH.refl _
  | cons o r=>
   simp only[FR]at hr;unfold kc at hr;split at hr
   ·unfold kY at hr;split at hr
    ·rename_i v h hh;exact(qU hp kn hh).trans (kn _ _ _ _ hr)
    ·cases hr
   ·have:=kn _ _ _ _ hr;exact this
 case cm ops=>exact kn _ _ _ _ hr
 case kq ops i c0 acc=>
  cases ops with
  |nil=>obtain⟨rfl,rfl⟩:=ai hr;exact bH.refl _
  | cons o r=>
   simp only[AP]at hr;unfold iY at hr;repeat' split at hr
   all_goals first
    |(cases hr;done)
    |(rename_i hh _ _ _ _ _;exact(qU hp kn (by assumption)).trans (kn _ _ _ _ hr))
    |(have:=kn _ _ _ _ hr;exact this)
 case seq a b=>
  unfold iF at hr;split at hr
  ·rename_i s1 h1;exact(kn _ _ _ _ h1).trans (kn _ _ _ _ hr)
  ·exact kn _ _ _ _ hr
 case cond x a b=>
  unfold gY at hr;split at hr
  ·exact kn _ _ _ _ hr
  ·exact kn _ _ _ _ hr
  ·cases hr
 case block id c=>
  unfold fk at hr;repeat' split at hr
  all_goals first
   |(obtain⟨rfl,rfl⟩:=ai hr;exact kn _ _ _ _ (by assumption))
   |exact kn _ _ _ _ hr
 case loop c=>
  unfold gX at hr;split at hr
  ·rename_i s1 h1;exact(kn _ _ _ _ h1).trans (kn _ _ _ _ hr)
  ·exact kn _ _ _ _ hr
 case exit id=>obtain⟨rfl,rfl⟩:=ai hr;exact bH.refl _
 case ret=>obtain⟨rfl,rfl⟩:=ai hr;exact bH.refl _
 case bad=>cases hr
theorem ub {E:Env}(hp:ga E):∀n,nO (exec E n)
 |0=>fun c s e s' hr=>by cases hr
 | n+1=>by
  have:=AK hp (ub hp n);intro c s e s' hr;exact this c s e s' (by rw[←aN];exact hr)
def ww (a b:Rec):Prop:=∀c s r,a c s=some r→b c s=some r
theorem kw {E:Env}{a b:Rec}(hab:ww a b){f:Nat}{args:List AV}{h:Hp}{r:AV×Hp}(hr:gB E a f args h=some r):gB E b f args h=some r:=by
 unfold gB at hr⊢;split at hr
 ·rename_i e he;try simp only[he]at hr⊢
  exact hr
 ·rename_i he
  try simp only[he]
  split at hr
  ·rename_i p hp;try simp only[hp]
   exact hr
  ·rename_i hp
   try simp only[hp]
   split at hr
   ·cases hr
   ·rename_i fn hf
    try simp only[hf]
    split at hr
    ·cases hr
    ·rename_i e s hne hx;rw[hab _ _ _ hx];cases e with
     |exit i=>exact absurd rfl (hne i)
     |fP=>exact hr
     |ret=>exact hr
    ·cases hr
theorem qh {E:Env}{a b:Rec}(hab:ww a b){o:gM}{s:St}{r:AV×Hp}(hr:lU o E a s=some r):lU o E b s=some r:=by
 cases o<;>simp only[lU]at hr⊢<;>first|exact hr|skip
 case lO=>exact kw hab hr
 case gQ=>
  unfold jP at hr⊢;split at hr
  ·exact kw hab hr
  ·cases hr
 case inv=>
  unfold qk at hr⊢;split at hr
  ·split at hr
   ·rename_i hm;try simp only[hm]
    exact kw hab hr
   ·cases hr
  ·cases hr
theorem DF {E:Env}{a b:Rec}(hab:ww a b):ww (step E a) (step E b):=by
 intro c s r hr;unfold step at hr⊢;cases c<;>simp only[FK]at hr⊢<;>first|exact hr|skip
 case cx ops=>
  cases ops with
  |nil=>exact hr
  | cons o l=>
   simp only[FR]at hr⊢;unfold kc at hr⊢;split at hr
   ·unfold kY at hr⊢;split at hr
    ·rename_i hop;rw[qh hab hop];exact hab _ _ _ hr
    ·cases hr
   ·exact hab _ _ _ hr
 case cm ops=>exact hab _ _ _ hr
 case kq ops i c0 acc=>
  cases ops with
  |nil=>exact hr
  | cons o l=>
   simp only[AP]at hr⊢;unfold iY at hr⊢;split at hr
   ·rename_i hw;split at hr
    ·rename_i v h hop;rw[qh hab hop];simp only;split at hr
     ·rename_i acc' hn
      try simp only[hn]
      split at hr
      ·rename_i ha;try simp only[ha]
       exact hab _ _ _ hr
      ·cases hr
     ·cases hr
    ·cases hr
   ·rename_i hw;split at hr
    ·rename_i ha;exact hab _ _ _ hr
    ·cases hr
 case seq x y=>
  unfold iF at hr⊢;split at hr
  ·rename_i s1 h1;rw[hab _ _ _ h1];exact hab _ _ _ hr
  ·rename_i hne;rw[hab _ _ _ hr];obtain⟨e,s'⟩:=r;cases e<;>first|rfl|exact absurd hr (hne _)
 case cond x y z=>
  unfold gY at hr⊢;split at hr
  ·exact hab _ _ _ hr
  ·exact hab _ _ _ hr
  ·cases hr
 case block id c=>
  unfold fk at hr⊢;split at hr
  ·rename_i i s1 h1;rw[hab _ _ _ h1];exact hr
  ·rename_i hne;rw[hab _ _ _ hr];obtain⟨e,s'⟩:=r;cases e<;>first|rfl|exact absurd hr (hne _ _)
 case loop c=>
  unfold gX at hr⊢;split at hr
  ·rename_i s1 h1;rw[hab _ _ _ h1];exact hab _ _ _ hr
  ·rename_i hne;rw[hab _ _ _ hr];obtain⟨e,s'⟩:=r;cases e<;>first|rfl|exact absurd hr (hne _)
theorem ua {E:Env}:∀n,ww (exec E n) (exec E (n+1))
 |0=>fun c s r hr=>by cases hr
 | n+1=>by
  have:=DF (E:=E) (a:=exec E n) (b:=exec E (n+1)) (ua n);intro c s r hr;rw[aN]at hr⊢;exact this c s r hr
theorem gN {E:Env}{n m:Nat}(h:n≤m):ww (exec E n) (exec E m):=by
 induction h with
 |refl=>exact fun _ _ _ hr=>hr
 |step _ ih=>exact fun c s r hr=>ua _ c s r (ih c s r hr)
def dI (E:Env)(c:au)(s:St)(e:Ex)(s':St):Prop:=∃n,exec E n c s=some (e,s')
def dE (E:Env)(f:Nat)(args:List AV)(h:Hp)(v:AV)(h':Hp):Prop:=∃n,call E n f args h=some (v,h')
def uF (E:Env)(o:gM)(s:St)(v:AV)(h':Hp):Prop:=∃n,lU o E (exec E n) s=some (v,h')
section
variable {E:Env}{s s' s1:St}{e:Ex}{h h':Hp}{v:AV}
theorem uF.plain {o:gM}(hc:lV o (val s.tm) s.hp=some (v,h'))(hn:o.calls=false):uF E o s v h':=
  ⟨0, by have:lU o E (exec E 0) s=lV o (val s.tm) s.hp:=by cases o<;>first|(simp[gM.calls]at hn;done)|rfl
         rw[this];exact hc⟩
theorem uF.gQ {x:bp}{f:Nat}{cap:List AV}{args:List bp}(hx:val s.tm x= .fn f cap)(hc:dE E f (args.map (val s.tm)++cap) s.hp v h'):uF E (.gQ x args) s v h':=by
 obtain⟨n,hn⟩:=hc;exact⟨n,by simp only[lU,jP,hx];exact hn⟩
theorem uF.inv {x:bp}{T f:Nat}{u:AV}{name:String}{args:List bp}(hx:val s.tm x= .qZ T u)(hm:E.gF T name=some f)(hc:dE E f (u::args.map (val s.tm)) s.hp v h'):uF E (.inv x name args) s v h':=by
 obtain⟨n,hn⟩:=hc;exact⟨n,by simp only[lU,qk,hx,hm];exact hn⟩
theorem dI.skip:dI E .skip s .fP s:=⟨1,by rw[aN];rfl⟩
theorem dI.ret:dI E .ret s .ret s:=⟨1,by rw[aN];rfl⟩
theorem dI.exit (id:Nat):dI E (.exit id) s (.exit id) s:=⟨1,by rw[aN];rfl⟩
theorem dI.nil:dI E (.cx []) s .fP s:=⟨1,by rw[aN];rfl⟩
theorem dI.op {o:aC}{r:List aC}(hw:wanted s.tm o.qq=true)(ho:uF E o.op s v h')(hr:dI E (.cx r) { tm:=put s.tm o.dst v,hp:=h' } e s'):dI E (.cx (o::r)) s e s':=by
 obtain⟨n,hn⟩:=ho;obtain⟨m,hm⟩:=hr;refine⟨max n m+1,?_⟩;rw[aN];show kc o r E (exec E (max n m)) s=_
 unfold kc;rw[hw,qh (gN (sM n m)) hn];exact gN (rI n m) _ _ _ hm
theorem dI.Oc {o:aC}{r:List aC}(hw:wanted s.tm o.qq=false)(hr:dI E (.cx r) { tm:=put s.tm o.dst jC,hp:=s.hp } e s'):dI E (.cx (o::r)) s e s':=by
 obtain⟨m,hm⟩:=hr;refine⟨m+1,?_⟩;rw[aN];show kc o r E (exec E m) s=_
 unfold kc;rw[hw];exact hm
theorem dI.seq {a b:au}(h1:dI E a s .fP s1)(h2:dI E b s1 e s'):dI E (.seq a b) s e s':=by
 obtain⟨n,hn⟩:=h1;obtain⟨m,hm⟩:=h2;refine⟨max n m+1,?_⟩;rw[aN];show iF a b E (exec E (max n m)) s=_
 unfold iF;rw[gN (sM n m) _ _ _ hn];exact gN (rI n m) _ _ _ hm
theorem dI.Cy {a b:au}(h1:dI E a s e s')(he:e≠ .fP):dI E (.seq a b) s e s':=by
 obtain⟨n,hn⟩:=h1;refine⟨n+1,?_⟩;rw[aN];show iF a b E (exec E n) s=_
 unfold iF;rw[hn];cases e<;>first|rfl|exact absurd rfl he
theorem dI.cond {x:bp}{a b:au}(t:Bool)(hx:val s.tm x= .bool t)(h1:t=true→dI E a s e s')(h2:t=false→dI E b s e s'):dI E (.cond x a b) s e s':=by
 cases t with
 | true=>
  obtain⟨n,hn⟩:=h1 rfl;refine⟨n+1,?_⟩;rw[aN];show gY x a b E (exec E n) s=_
  unfold gY;rw[hx];exact hn
 | false=>
  obtain⟨n,hn⟩:=h2 rfl;refine⟨n+1,?_⟩;rw[aN];show gY x a b E (exec E n) s=_
  unfold gY;rw[hx];exact hn
theorem dI.block {id:Nat}{c:au}(h1:dI E c s e s')(he:∀i,e≠ .exit i):dI E (.block id c) s e s':=by
 obtain⟨n,hn⟩:=h1;refine⟨n+1,?_⟩;rw[aN];show fk id c E (exec E n) s=_
 unfold fk;rw[hn];cases e<;>first|rfl|exact absurd rfl (he _)
theorem dI.BY {id:Nat}{c:au}(h1:dI E c s (.exit id) s'):dI E (.block id c) s .fP s':=by
 obtain⟨n,hn⟩:=h1;refine⟨n+1,?_⟩;rw[aN];show fk id c E (exec E n) s=_
 unfold fk;rw[hn];simp
theorem dI.Ey {id i:Nat}{c:au}(h1:dI E c s (.exit i) s')(hi:i≠id):dI E (.block id c) s (.exit i) s':=by
 obtain⟨n,hn⟩:=h1;refine⟨n+1,?_⟩;rw[aN];show fk id c E (exec E n) s=_
 unfold fk;rw[hn]
 have:bu i id=false:=by
  cases hb:bu i id with
  |false=>rfl
  |true=>exact absurd (Nat.eq_of_beq_eq_true hb) hi
 simp only[this]
theorem dI.loop {c:au}(h1:dI E c s .fP s1)(h2:dI E (.loop c) s1 e s'):dI E (.loop c) s e s':=by
 obtain⟨n,hn⟩:=h1;obtain⟨m,hm⟩:=h2;refine⟨max n m+1,?_⟩;rw[aN];show gX c E (exec E (max n m)) s=_
 unfold gX;rw[gN (sM n m) _ _ _ hn];exact gN (rI n m) _ _ _ hm
theorem dI.qn {c:au}(h1:dI E c s e s')(he:e≠ .fP):dI E (.loop c) s e s':=by
 obtain⟨n,hn⟩:=h1;refine⟨n+1,?_⟩;rw[aN];show gX c E (exec E n) s=_
 unfold gX;rw[hn];cases e<;>first|rfl|exact absurd rfl he
theorem dE.fn {f:Nat}{fn:cy}{args:List AV}(he:E.exts f=none)(hp:E.dG f=none)(hf:E.fns f=some fn)(hr:dI E fn.code { tm:=ie args 0 .nil,hp:=h } e s')(hne:∀i,e≠ .exit i)(hv:eC s' fn.res=some v):dE E f args h v s'.hp:=by
 obtain⟨n,hn⟩:=hr;refine⟨n,?_⟩;unfold call gB;simp only[he,hp,hf,hn];cases e with
 |exit i=>exact absurd rfl (hne i)
 |fP=>show(match eC s' fn.res with|some v=>some (v,s'.hp)|none=>none)=_;rw[hv]
 |ret=>show(match eC s' fn.res with|some v=>some (v,s'.hp)|none=>none)=_;rw[hv]
theorem dE.NZ {f:Nat}{p:Prim}{args:List AV}(he:E.exts f=none)(hp:E.dG f=some p)(hv:p args h=some (v,h')):dE E f args h v h':=
 ⟨0,by unfold call gB;simp only[he,hp,hv]⟩
theorem dE.ext {f:Nat}{p:List AV→Option AV}{args:List AV}(he:E.exts f=some p)(hv:p args=some v):dE E f args h v h:=
 ⟨0,by unfold call gB;simp only[he,hv]⟩
end
def Wp (E:Env)(c:au)(s:St)(Q:Ex→St→Prop):Prop:=∃e s',dI E c s e s'∧Q e s'
def uH (E:Env)(b:au)(Q:Ex→St→Prop):Ex→St→Prop
 | .fP,s=>Wp E b s Q
 |e,s=>Q e s
def oK (id:Nat)(Q:Ex→St→Prop):Ex→St→Prop
 | .exit i,s=>if i=id then Q .fP s else Q (.exit i) s
 |e,s=>Q e s
def gy (rs:List rH)(K:AV→Hp→Prop):Ex→St→Prop
 | .exit _,_=>False
 | _,s=>match eC s rs with
  |some v=>K v s.hp
  |none=>False
def bY (E:Env)(o:gM)(s:St)(K:AV→Hp→Prop):Prop:=∃v h',uF E o s v h'∧K v h'
def ac (E:Env)(f:Nat)(args:List AV)(h:Hp)(K:AV→Hp→Prop):Prop:=∃v h',dE E f args h v h'∧K v h'
def dK (r:Option (AV×Hp))(K:AV→Hp→Prop):Prop:=
 match r with
 |some (v,h)=>K v h
 |none=>False
section
variable {E:Env}{s s' s1:St}{e:Ex}{h h':Hp}{v:AV}{Q Q':Ex→St→Prop}{K:AV→Hp→Prop}
theorem Wp.mono {c:au}(h:Wp E c s Q)(hq:∀e s,Q e s→Q' e s):Wp E c s Q':=by
 obtain⟨e,s',h1,h2⟩:=h;exact⟨e,s',h1,hq _ _ h2⟩
theorem ac.mono {f:Nat}{args:List AV}{K':AV→Hp→Prop}(h0:ac E f args h K)(hq:∀v h,K v h→K' v h):ac E f args h K':=by
 obtain⟨v,h',h1,h2⟩:=h0;exact⟨v,h',h1,hq _ _ h2⟩
theorem Wp.skip (hq:Q .fP s):Wp E .skip s Q:=⟨_,_,dI.skip,hq⟩
theorem Wp.ret (hq:Q .ret s):Wp E .ret s Q:=⟨_,_,dI.ret,hq⟩
theorem Wp.exit {id:Nat}(hq:Q (.exit id) s):Wp E (.exit id) s Q:=⟨_,_,dI.exit id,hq⟩
theorem Wp.nil (hq:Q .fP s):Wp E (.cx []) s Q:=⟨_,_,dI.nil,hq⟩
theorem Wp.seq {a b:au}(hw:Wp E a s (uH E b Q)):Wp E (.seq a b) s Q:=by
 obtain⟨e,s1,h1,h2⟩:=hw;cases e with
 | fP=>
  obtain⟨e2,s2,h3,h4⟩:=h2;exact⟨_,_,dI.seq h1 h3,h4⟩
 |exit i=>exact⟨_,_,dI.Cy h1 (by simp),h2⟩
 |ret=>exact⟨_,_,dI.Cy h1 (by simp),h2⟩
theorem Wp.block {id:Nat}{c:au}(hw:Wp E c s (oK id Q)):Wp E (.block id c) s Q:=by
 obtain⟨e,s1,h1,h2⟩:=hw;cases e with
 |fP=>exact⟨_,_,dI.block h1 (by simp),h2⟩
 | exit i=>
  simp only[oK]at h2;by_cases hi:i=id
  ·subst hi;rw[if_pos rfl]at h2;exact⟨_,_,dI.BY h1,h2⟩
  ·rw[if_neg hi]at h2;exact⟨_,_,dI.Ey h1 hi,h2⟩
 |ret=>exact⟨_,_,dI.block h1 (by simp),h2⟩
theorem Wp.cond {x:bp}{a b:au}(t:Bool)(hx:val s.tm x= .bool t)(h1:t=true→Wp E a s Q)(h2:t=false→Wp E b s Q):Wp E (.cond x a b) s Q:=by
 cases t with
 |true=>obtain⟨e,s1,h3,h4⟩:=h1 rfl;exact⟨_,_,dI.cond true hx (fun _=>h3) nofun,h4⟩
 |false=>obtain⟨e,s1,h3,h4⟩:=h2 rfl;exact⟨_,_,dI.cond false hx nofun (fun _=>h3),h4⟩
theorem Wp.loop {c:au}(I:Nat→St→Prop){n:Nat}(h0:I n s)(round:∀n s,I n s→Wp E c s fun e s'=>match e with
  | .fP=>∃m,m<n∧I m s'
  |e=>Q e s'):Wp E (.loop c) s Q:=by
 induction n using Nat.strongRecOn generalizing s with
 | _ n ih=>
  obtain⟨e,s1,h1,h2⟩:=round n s h0;cases e with
  | fP=>
   obtain⟨m,hm,hI⟩:=h2;obtain⟨e2,s2,h3,h4⟩:=ih m hm hI;exact⟨_,_,dI.loop h1 h3,h4⟩
  |exit i=>exact⟨_,_,dI.qn h1 (by simp),h2⟩
  |ret=>exact⟨_,_,dI.qn h1 (by simp),h2⟩
theorem Wp.op {o:aC}{r:List aC}(hw:wanted s.tm o.qq=true)(ho:bY E o.op s fun v h=>Wp E (.cx r) { tm:=put s.tm o.dst v,hp:=h } Q):Wp E (.cx (o::r)) s Q:=by
 obtain⟨v,h',h1,e,s',h2,h3⟩:=ho;exact⟨_,_,dI.op hw h1 h2,h3⟩
theorem Wp.Oc {o:aC}{r:List aC}(hw:wanted s.tm o.qq=false)(ho:Wp E (.cx r) { tm:=put s.tm o.dst jC,hp:=s.hp } Q):Wp E (.cx (o::r)) s Q:=by
 obtain⟨e,s',h2,h3⟩:=ho;exact⟨_,_,dI.Oc hw h2,h3⟩
theorem bY.plain {o:gM}(hn:o.calls=false)(hk:dK (lV o (val s.tm) s.hp) K):bY E o s K:=by
 unfold dK at hk;split at hk
 ·rename_i v h' he;exact⟨v,h',uF.plain he hn,hk⟩
 ·exact hk.elim
theorem bY.gQ {x:bp}{f:Nat}{cap:List AV}{args:List bp}(hx:val s.tm x= .fn f cap)(hk:ac E f (args.map (val s.tm)++cap) s.hp K):bY E (.gQ x args) s K:=by
 obtain⟨v,h',h1,h2⟩:=hk;exact⟨v,h',uF.gQ hx h1,h2⟩
theorem bY.inv {x:bp}{T f:Nat}{u:AV}{name:String}{args:List bp}(hx:val s.tm x= .qZ T u)(hm:E.gF T name=some f)(hk:ac E f (u::args.map (val s.tm)) s.hp K):bY E (.inv x name args) s K:=by
 obtain⟨v,h',h1,h2⟩:=hk;exact⟨v,h',uF.inv hx hm h1,h2⟩
theorem ac.fn {f:Nat}{fn:cy}{args:List AV}(he:E.exts f=none)(hp:E.dG f=none)(hf:E.fns f=some fn)(hw:Wp E fn.code { tm:=ie args 0 .nil,hp:=h } (gy fn.res K)):ac E f args h K:=by
 obtain⟨e,s',h1,h2⟩:=hw;cases e with
 |exit i=>exact h2.elim
 | fP=>
  simp only[gy]at h2;split at h2
  ·rename_i v hv;exact⟨_,_,dE.fn he hp hf h1 (by simp) hv,h2⟩
  ·exact h2.elim
 | ret=>
  simp only[gy]at h2;split at h2
  ·rename_i v hv;exact⟨_,_,dE.fn he hp hf h1 (by simp) hv,h2⟩
  ·exact h2.elim
theorem ac.NZ {f:Nat}{p:Prim}{args:List AV}(he:E.exts f=none)(hp:E.dG f=some p)(hv:dK (p args h) K):ac E f args h K:=by
 unfold dK at hv;split at hv
 ·rename_i v h' e;exact⟨v,h',dE.NZ he hp e,hv⟩
 ·exact hv.elim
theorem ac.ext {f:Nat}{p:List AV→Option AV}{args:List AV}(he:E.exts f=some p)(hv:p args=some v)(hk:K v h):ac E f args h K:=
 ⟨v,h,dE.ext he hv,hk⟩
end
end Go.Ae
