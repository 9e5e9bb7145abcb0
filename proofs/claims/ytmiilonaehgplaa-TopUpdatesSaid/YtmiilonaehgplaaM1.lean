/-
  What the law needs, packed: Abs.
-/
import Derived.Calls
import Derived.Laws.OwnMore
import Derived.Laws.AppendOwnNone
import Derived.Below
import Derived.KernelRfl
namespace Go.HH
open Go
inductive PV where
 | top
 | bool (b:Bool)
 | int (k:IntKind) (n:Int)
 | str (s:List UInt8)
 | nils
 | sl (xs:List PV)
 | osl (e:TypeId) (xs:List PV)
 | ip (cs:List PV)
 | bp (id off:Nat)
 | rs (id len:Nat)
 | mv (id:Nat)
 | nilp
 | fn (f:FuncId) (first captured:List PV)
 | nilf
 | iface (t:TypeId) (v:PV)
 | nili
 | agg (cs:List PV)
 | tup (vs:List PV)
 deriving Inhabited
inductive PBox where
 | cells (t:TypeId) (cs:List PV)
 | iter (s:List UInt8) (pos:Nat)
 | mp (es:List (PV×PV))
 deriving Inhabited
def und:PV:=.tup []
def PV.cells:PV->List PV
 | .agg cs=>cs
 | v=>[v]
def PV.ro:PV->PV
 | .osl _ xs=>.sl xs
 | v=>v
def PV.seal1:PV->PV
 | .osl _ xs=>.sl xs
 | .nils=>.sl []
 | v=>v
def PV.shutV:PV->PV
 | .agg cs=>.agg (cs.map PV.seal1)
 | v=>v.seal1
def PV.one:PV->Bool
 | .top | .agg _ | .tup _=>false
 | _=>true
mutual
def PV.pure:PV->Bool
 | .top=>false
 | .bp _ _=>false
 | .rs _ _=>false
 | .mv _=>false
 | .sl xs=>pureL xs
 | .osl _ xs=>pureL xs
 | .ip cs=>pureL cs
 | .fn _ a b=>pureL a && pureL b
 | .iface _ v=>v.pure
 | .agg cs=>pureL cs
 | .tup vs=>pureL vs
 | _=>true
def pureL:List PV->Bool
 | []=>true
 | v :: r=>v.pure && pureL r
end
def flat (xs:List PV):List PV:=xs.flatMap PV.cells
def getT (e:List PV) (t:Nat):PV:=e.getD t und
def setT:List PV->Nat->PV->List PV
 | [],0,v=>[v]
 | [],t+1,v=>und :: setT [] t v
 | _ :: r,0,v=>v :: r
 | x :: r,t+1,v=>x :: setT r t v
structure St where
 env:List PV
 bx:List PBox
 deriving Inhabited
inductive Loc where
 | tmp (t:Nat)
 | box (id off:Nat)
 deriving DecidableEq,Inhabited
inductive Ex where
 | normal
 | exit (id:Nat)
 | ret
 | pan (v:PV)
inductive CR where
 | ret (v:PV)
 | pan (v:PV)
structure Cat where
 code:Code
 pre:List PV->List PBox->Option St
 post:Ex×St->Option (CR×List PBox)
structure Cfg where
 P:Program
 glob:Nat->Option (List PV)
 prim:FuncId->Option (List PV->Option PV)
 heap:FuncId->Bool
 hprim:FuncId->Option (List PV->List PBox->Option (Bool×PV×List PBox)):=fun _=>none
 cat:FuncId->Option Cat:=fun _=>none
 rows:TypeId->Bool:=fun _=>false
 thaw:FuncId->Bool:=fun _=>false
variable (C:Cfg)
def cval1:Value->PV
 | .bool b=>.bool b
 | .int k n=>.int k n
 | .string s=>.str s.data.toList
 | .slice none 0 0=>.nils
 | .pointer none=>.nilp
 | .nilFunc=>.nilf
 | .nilIface=>.nili
 | _=>.top
def cval:Value->PV
 | .agg cs=>if cs.toList.all Value.oneCell' then .agg (cs.toList.map cval1) else .top
 | v=>cval1 v
def raw (e:List PV):Operand->PV
 | .tmp t=>getT e t
 | .const v=>cval v
 | .global g=>match C.glob g with
  | some cs=>.ip cs
  | none=>.top
 | .func f=>.fn f [] []
def opd (e:List PV) (x:Operand):PV:=(raw C e x).ro
def tAgg (t:TypeId):Bool:=match C.P.underlying t with
 | some (.struct _) | some (.array ..)=>true
 | _=>false
def tSize (t:TypeId):Option Nat:=(C.P.info? t).map (·.size)
def tZero (t:TypeId):Option PV:=((C.P.info? t).bind (·.zero)).map cval
def readCells (t:TypeId) (cs:List PV):Option PV:=
 match C.P.underlying t with
 | none=>none
 | some _=>
  if tAgg C t then
   match tSize C t with
   | some n=>if n≠0∧n<=cs.length then some (.agg ((cs.take n).map PV.ro)) else none
   | none=>none
  else cs.head?.map PV.ro
def boxCells (bx:List PBox) (id:Nat):Option (List PV):=
 match bx[id]? with
 | some (.cells _ cs)=>some cs
 | _=>none
def loadP (bx:List PBox) (t:TypeId):PV->Option PV
 | .ip cs=>readCells C t cs
 | .bp id off=>match boxCells bx id with
  | some cs=>readCells C t (cs.drop off)
  | none=>none
 | _=>none
def fieldP (s:TypeId) (f:Nat) (x:PV):Option PV:=
 match C.P.underlying s with
 | some (.struct fields)=>match fields[f]? with
  | some fd=>match tSize C fd.type with
   | some (_+1)=>match x with
    | .ip cs=>some (.ip (cs.drop fd.offset))
    | .bp id off=>some (.bp id (off+fd.offset))
    | _=>none
   | _=>none
  | none=>none
 | _=>none
def partP (t:TypeId) (cs:List PV) (off:Nat):Option PV:=readCells C t (cs.drop off)
def fieldV (s:TypeId) (f:Nat) (x:PV):Option PV:=
 match C.P.underlying s,x with
 | some (.struct fields),.agg cs=>match fields[f]? with
  | some fd=>partP C fd.type cs fd.offset
  | none=>none
 | _,_=>none
def elemsOf:PV->Option (List PV)
 | .nils=>some []
 | .sl xs=>some xs
 | .osl _ xs=>some xs
 | _=>none
def indexAddrP (t:TypeId) (x:PV) (i:PV):Option PV:=
 match i with
 | .int _ n=>
  if n < 0 then none else
  match C.P.underlying t with
  | some (.slice el)=>match elemsOf x,tSize C el with
   | some xs,some s=>match xs[n.toNat]? with
    | some v=>if v.cells.length=s then some (.ip v.cells) else none
    | none=>none
   | none,some s=>match x with
    | .rs id len=>if n < len then some (.bp id (n.toNat * s)) else none
    | _=>none
   | _,_=>none
  | some (.array len el)=>if n < len then
   match tSize C el with
   | some s=>match x with
    | .ip cs=>some (.ip (cs.drop (n.toNat * s)))
    | .bp id off=>some (.bp id (off+n.toNat * s))
    | _=>none
   | none=>none
   else none
  | _=>none
 | _=>none
def indexV (t:TypeId) (x:PV) (i:PV):Option PV:=
 match i with
 | .int _ n=>
  if n < 0 then none else
  match C.P.underlying t,x with
  | some .string,.str s=>match s[n.toNat]? with
   | some b=>some (.int .u8 b.toNat)
   | none=>none
  | some (.array len el),.agg cs=>if n < len then
   match tSize C el with
   | some s=>partP C el cs (n.toNat * s)
   | none=>none
   else none
  | _,_=>none
 | _=>none
def bitsP (op:BinOp) (k:IntKind) (x y:Int):Option Int:=
 let a:=BitVec.ofInt k.bits x
 let b:=BitVec.ofInt k.bits y
 match op with
 | .and=>some (k.wrap (a &&& b).toNat)
 | .or=>some (k.wrap (a ||| b).toNat)
 | .xor=>some (k.wrap (a ^^^ b).toNat)
 | .andNot=>some (k.wrap (a &&& ~~~b).toNat)
 | _=>none
def intP (op:BinOp) (k:IntKind) (x y:Int):Option PV:=
 match op with
 | .add=>some (.int k (k.wrap (x+y)))
 | .sub=>some (.int k (k.wrap (x - y)))
 | .mul=>some (.int k (k.wrap (x * y)))
 | .quo=>if y=0 then none else some (.int k (k.wrap (x.tdiv y)))
 | .rem=>if y=0 then none else some (.int k (x.tmod y))
 | .eql=>some (.bool (x == y))
 | .neq=>some (.bool (x != y))
 | .lss=>some (.bool (decide (x < y)))
 | .leq=>some (.bool (decide (x<=y)))
 | .gtr=>some (.bool (decide (x > y)))
 | .geq=>some (.bool (decide (x ≥ y)))
 | .shl | .shr=>none
 | op=>(bitsP op k x y).map (.int k)
def shiftP (op:BinOp) (k:IntKind) (x y:Int):Option PV:=
 if y < 0 then none else
 match op with
 | .shl=>some (.int k (k.wrap (x * 2 ^ (min y.toNat k.bits))))
 | .shr=>some (.int k (x.fdiv (2 ^ (min y.toNat k.bits))))
 | _=>none
def maxStr:Nat:=2 ^ 60
def strP (op:BinOp) (x y:List UInt8):Option PV:=
 match op with
 | .add=>if x.length+y.length<=maxStr then some (.str (x++y)) else none
 | .eql=>some (.bool (x == y))
 | .neq=>some (.bool (!(x == y)))
 | .lss=>some (.bool (Op.bytesLess x y))
 | .leq=>some (.bool (Op.bytesLess x y || x == y))
 | .gtr=>some (.bool (!(Op.bytesLess x y || x == y)))
 | .geq=>some (.bool (!Op.bytesLess x y))
 | _=>none
def eqFieldsP (eq:TypeId->PV->PV->Option Bool) (xs ys:List PV):List Field->Option Bool
 | []=>some true
 | f :: fs=>
  if f.name≠"_" then
   match partP C f.type xs f.offset,partP C f.type ys f.offset with
   | some a,some b=>match eq f.type a b with
    | some true=>eqFieldsP eq xs ys fs
    | o=>o
   | _,_=>none
  else eqFieldsP eq xs ys fs
def eqP:(depth:Nat)->TypeId->PV->PV->Option Bool
 | 0,_,_,_=>none
 | d+1,t,x,y=>
  match C.P.underlying t,x,y with
  | some .bool,.bool a,.bool b=>some (a == b)
  | some (.int _),.int k a,.int k' b=>if k=k' then some (a == b) else none
  | some .string,.str a,.str b=>some (a == b)
  | some (.struct fields),.agg xs,.agg ys=>
   if C.P.stoodInHeld t then none else eqFieldsP C (eqP d) xs ys fields.toList
  | _,_,_=>none
def binP (op:BinOp) (t:TypeId) (x y:PV):Option PV:=
 match x,y with
 | .int k a,.int k' b=>
  if op=.shl∨op=.shr then shiftP op k a b else if k=k' then intP op k a b else none
 | .str a,.str b=>strP op a b
 | .bool a,.bool b=>match op,C.P.underlying t with
  | .eql,some .bool=>some (.bool (a == b))
  | .neq,some .bool=>some (.bool (!(a == b)))
  | _,_=>none
 | .agg a,.agg b=>
  if C.P.eqGuardType C.P.depth t then none else
  match op with
  | .eql=>(eqP C 100 t (.agg a) (.agg b)).map .bool
  | .neq=>(eqP C 100 t (.agg a) (.agg b)).map (fun r=>.bool (!r))
  | _=>none
 | .bp _ _,.nilp=>match op,C.P.underlying t with
  | .eql,some (.pointer _)=>some (.bool false)
  | .neq,some (.pointer _)=>some (.bool true)
  | _,_=>none
 | .nilp,.nilp=>match op,C.P.underlying t with
  | .eql,some (.pointer _)=>some (.bool true)
  | .neq,some (.pointer _)=>some (.bool false)
  | _,_=>none
 | _,_=>none
def unP (op:UnOp):PV->Option PV
 | .int k n=>match op with
  | .neg=>some (.int k (k.wrap (0 - n)))
  | .xor=>(bitsP .xor k (if k.signed then -1 else k.max) n).map (.int k)
  | _=>none
 | .bool b=>match op with
  | .not=>some (.bool (!b))
  | _=>none
 | _=>none
def bytesOf:List PV->Option (List UInt8)
 | []=>some []
 | .int .u8 n :: r=>(bytesOf r).map (UInt8.ofNat n.toNat :: ·)
 | _=>none
def convP (src dst:TypeId) (x:PV):Option PV:=
 match C.P.underlying src,C.P.underlying dst,x with
 | some _,some (.int k),.int _ n=>some (.int k (k.wrap n))
 | some _,some .string,.str s=>some (.str s)
 | some (.slice e),some .string,x=>match C.P.underlying e,elemsOf x with
  | some (.int .u8),some xs=>(bytesOf xs).map .str
  | _,_=>none
 | _,_,_=>none
def boundP (y:Nat):PV->Option Nat
 | .int _ i=>if 0<=i∧i<=y then some i.toNat else none
 | _=>none
def boundO (y dflt:Nat):Option PV->Option Nat
 | some v=>boundP y v
 | none=>some dflt
def sliceP (t:TypeId) (x:PV) (lo hi:Option PV):Option PV:=
 match C.P.underlying t,x with
 | some .string,.str s=>match boundO s.length s.length hi with
  | some h=>match boundO h 0 lo with
   | some l=>some (.str ((s.take h).drop l))
   | none=>none
  | none=>none
 | some (.slice el),x=>match elemsOf x,tSize C el with
  | some xs,some s=>match boundO xs.length xs.length hi with
   | some h=>match boundO h 0 lo with
    | some l=>if l=0∨(xs.all fun v=>v.cells.length == s) then some (.sl ((xs.take h).drop l)) else none
    | none=>none
   | none=>none
  | _,_=>none
 | _,_=>none
def lenP (t:TypeId) (x:PV):Option PV:=
 match C.P.underlying t,x with
 | some .string,.str s=>some (.int .i64 s.length)
 | some (.array n _),_=>some (.int .i64 n)
 | some (.slice _),.rs _ n=>some (.int .i64 n)
 | some (.slice _),x=>(elemsOf x).map fun xs=>.int .i64 xs.length
 | _,_=>none
def maxP:List PV->Option PV
 | []=>none
 | x :: r=>r.foldlM (fun a b=>match a,b with
  | .int k x,.int k' y=>if k=k' then some (.int k (if y > x then y else x)) else none
  | _,_=>none) x
def minP:List PV->Option PV
 | []=>none
 | x :: r=>r.foldlM (fun a b=>match a,b with
  | .int k x,.int k' y=>if k=k' then some (.int k (if y < x then y else x)) else none
  | _,_=>none) x
def lay (cells:List PV) (off:Nat) (v:List PV):List PV:=cells.take off++v++cells.drop (off+v.length)
def PV.val:PV->Bool
 | .top | .tup _=>false
 | _=>true
def fillP (place:Nat->Option (Nat×Nat)):List PV->List (Nat×PV)->Option (List PV)
 | cells,[]=>some cells
 | cells,(i,v) :: rest=>
  match place i with
  | none=>none
  | some (off,size)=>
   if v.val && v.cells.length == size && decide (off+v.cells.length<=cells.length) then fillP place (lay cells off v.cells) rest
   else none
def buildP (t:TypeId) (parts:List (Nat×PV)):Option PV:=
 match C.P.underlying t,tZero C t with
 | some (.struct fields),some z=>match fields.toList.mapM (fun f=>(tSize C f.type).map fun s=>(f.offset,s)) with
  | some places=>if z.val then (fillP (fun i=>places[i]?) z.cells parts).map .agg else none
  | none=>none
 | some (.array _ e),some z=>match tSize C e with
  | some s=>if z.val then (fillP (fun i=>some (i * s,s)) z.cells parts).map .agg else none
  | none=>none
 | _,_=>none
def mkIf (d:Option TypeDesc) (t:TypeId) (v:PV):Option PV:=match d with
 | none=>none
 | some (.interface _)=>none
 | some _=>some (.iface t v)
def pureOp (bx:List PBox) (e:List PV):Op->Option PV
 | .move x=>some (opd C e x)
 | .pick c a b=>match opd C e c with
  | .bool t=>some (if t then opd C e a else opd C e b)
  | _=>none
 | .load t a=>loadP C bx t (opd C e a)
 | .nilCheck x=>match opd C e x with
  | .ip cs=>some (.ip cs)
  | .bp id off=>some (.bp id off)
  | .fn f a b=>some (.fn f a b)
  | _=>none
 | .binOp op t x y _=>binP C op t (opd C e x) (opd C e y)
 | .unOp op _ x=>unP op (opd C e x)
 | .convert s d x=>convP C s d (opd C e x)
 | .slice t x lo hi none=>sliceP C t (opd C e x) (lo.map (opd C e)) (hi.map (opd C e))
 | .fieldAddr s x f=>fieldP C s f (opd C e x)
 | .field s x f=>fieldV C s f (opd C e x)
 | .indexAddr t x i=>indexAddrP C t (opd C e x) (opd C e i)
 | .index t x i=>indexV C t (opd C e x) (opd C e i)
 | .extract x i=>match opd C e x with
  | .tup vs=>vs[i]?.map PV.ro
  | _=>none
 | .build t parts=>buildP C t (parts.toList.map fun p=>(p.1,(opd C e p.2).shutV))
 | .makeFunc (.func f) first captured=>some (.fn f (first.toList.map fun x=>(opd C e x).shutV) (captured.toList.map fun x=>(opd C e x).shutV))
 | .call { callee:=.builtin .len,args,argTypes }=>match argTypes[0]?,args[0]? with
  | some t,some x=>lenP C t (opd C e x)
  | _,_=>none
 | .call { callee:=.builtin .max,args,.. }=>maxP (args.toList.map (opd C e))
 | .call { callee:=.builtin .min,args,.. }=>minP (args.toList.map (opd C e))
 | .makeInterface t x=>mkIf (C.P.underlying t) t (opd C e x).shutV
 | _=>none
end Go.HH
