/-
  What the law needs, packed: Eval.
-/
import Derived.Test.YtmiilonaehgplaaM1
namespace Go.HH
open Go
variable (C:Cfg)
mutual
def PV.under (n:Nat):PV->Bool
 | .top=>false
 | .bp id _=>decide (id < n)
 | .rs id _=>decide (id < n)
 | .mv id=>decide (id < n)
 | .sl xs=>underL n xs
 | .osl _ xs=>underL n xs
 | .ip cs=>underL n cs
 | .fn _ a b=>underL n a && underL n b
 | .iface _ v=>v.under n
 | .agg cs=>underL n cs
 | .tup vs=>underL n vs
 | _=>true
def underL (n:Nat):List PV->Bool
 | []=>true
 | v :: r=>v.under n && underL n r
end
def PBox.under (n:Nat):PBox->Bool
 | .cells _ cs=>underL n cs
 | .iter _ _=>true
 | .mp es=>es.all fun p=>p.1.under n && p.2.under n
def CR.under (n:Nat):CR->Bool
 | .ret v=>v.under n
 | .pan v=>v.under n
def St.put (st:St) (d:Option Tmp) (v:PV):St:=
 match d with
 | some d=>{ st with env:=setT st.env d v }
 | none=>st
def wantP (ops:Array Oper) (e:List PV) (o:Oper):Option Bool:=
 match o.guard with
 | none=>some true
 | some (j,want)=>match (ops[j]?).bind (·.dst) with
  | some d=>match getT e d with
   | .bool b=>some (b == want)
   | .tup _=>some false
   | _=>none
  | none=>none
def killT (al:List (Nat×Loc)) (d:Option Tmp):List (Nat×Loc):=
 match d with
 | some d=>al.filter fun p=>p.1 != d && p.2 != .tmp d
 | none=>al
inductive OpR where
 | next (st:St) (al:List (Nat×Loc))
 | pan (v:PV) (st:St)
def locVal (st:St):Loc->PV
 | .tmp t=>getT st.env t
 | .box id off=>match boxCells st.bx id with
  | some cs=>cs.getD off und
  | none=>und
def setBox (bx:List PBox) (id off:Nat) (v:PV):List PBox:=
 match bx[id]? with
 | some (.cells t cs)=>bx.set id (.cells t (cs.set off v))
 | _=>bx
def setLoc (st:St) (l:Loc) (v:PV):St:=
 match l with
 | .tmp t=>{ st with env:=setT st.env t v }
 | .box id off=>{ st with bx:=setBox st.bx id off v }
def origin (st:St):Op->Option Loc
 | .move (.tmp t)=>match getT st.env t with
  | .osl _ _=>some (.tmp t)
  | _=>none
 | .load t a=>match C.P.underlying t with
  | some (.slice _)=>match opd C st.env a with
   | .bp id off=>match locVal st (.box id off) with
    | .osl _ _=>some (.box id off)
    | _=>none
   | _=>none
  | _=>none
 | _=>none
def takeT (st:St) (x:Operand) (t:TypeId):PV×St:=
 match x with
 | .tmp i=>match getT st.env i with
  | .osl e xs=>(.osl e xs,{ st with env:=setT st.env i (.sl xs) })
  | v=>(v,st)
 | .const (.slice none 0 0)=>match C.P.underlying t with
  | some (.slice e)=>if (C.P.info? e).isSome then (.osl e [],st) else (.nils,st)
  | _=>(.nils,st)
 | x=>(opd C st.env x,st)
def sizeCap:Nat:=140737488355328
def appendAt (st:St) (al:List (Nat×Loc)) (e:TypeId) (x:Operand):Option (Option Loc×List PV):=
 match raw C st.env x with
 | .nils=>some (none,[])
 | .osl e' xs=>if e'=e then (match x with
  | .tmp t=>some (some (.tmp t),xs)
  | _=>none) else none
 | .sl _=>match x with
  | .tmp t=>match al.find? (fun p=>p.1 == t) with
   | some (_,l)=>match locVal st l with
    | .osl e' xs=>if e'=e then some (some l,xs) else none
    | _=>none
   | none=>none
  | _=>none
 | _=>none
def sealNew (a:Bool) (size:Nat) (v:PV):Option PV:=
 match v.shutV with
 | .agg cs=>if a && cs.length == size then some (.agg cs) else none
 | v=>if !a && v.one && size == 1 then some v else none
def newElems (e:TypeId) (size:Nat) (t:TypeId) (x:PV):Option (List PV):=
 match C.P.underlying t,x with
 | some (.slice _),x=>elemsOf x
 | some .string,.str s=>match C.P.underlying e with
  | some (.int .u8)=>if size=1 then some (s.map fun b=>.int .u8 b.toNat) else none
  | _=>none
 | _,_=>none
def newSl (st:St) (v:PV) (d:Option Tmp):St:=
 match v with
 | .osl e xs=>if C.rows e then (St.mk st.env (st.bx++[.cells e (flat xs)])).put d (.rs st.bx.length xs.length) else st.put d v
 | v=>st.put d v
def srcP (s:Nat) (bx:List PBox):PV->Option (Nat×List PV)
 | .rs id len=>match boxCells bx id with
  | some cs=>if len * s<=cs.length then some (len,cs.take (len * s)) else none
  | none=>none
 | x=>match elemsOf x with
  | some xs=>if xs.all (fun v=>v.cells.length == s) then some (xs.length,flat xs) else none
  | none=>none
def letGo (st:St) (l:Option Loc) (xs:List PV):St:=
 match l with
 | some l=>setLoc st l (.sl xs)
 | none=>st
def appendOn (st:St) (al:List (Nat×Loc)) (s x:Operand) (t0 t1:TypeId) (d:Option Tmp):Option OpR:=
 match C.P.underlying t0 with
 | some (.slice e)=>match C.P.info? e with
  | some i=>match appendAt C st al e s,newElems C e i.size t1 (opd C st.env x) with
   | some (l,xs),some ys=>
    if i.size=0∨i.zero.isNone∨sizeCap < (xs.length+ys.length) * i.bytes∨sizeCap < xs.length+ys.length∨(ys.all fun y=>y.cells.length == i.size)=false∨((i.zero.map Value.cells).map Array.size)≠some i.size then none
    else
     if C.rows e && (xs.isEmpty && !ys.isEmpty) then
      some (.next ((St.mk (letGo st l xs).env ((letGo st l xs).bx++[.cells e ((flat ys).map PV.ro)])).put d (.rs (letGo st l xs).bx.length ys.length)) (killT al d))
     else
      some (.next ((letGo st l xs).put d (.osl e (xs++ys))) (killT al d))
   | _,_=>none
  | none=>none
 | _=>none
def appendP (st:St) (al:List (Nat×Loc)) (args:Array Operand) (argTypes:Array TypeId) (d:Option Tmp):Option OpR:=
 match args.toList,argTypes.toList with
 | [s,x],[t0,t1]=>appendOn C st al s x t0 t1 d
 | _,_=>none
def buildSliceP (t:TypeId) (len:Nat) (parts:List (Nat×PV)):Option PV:=
 match C.P.underlying t with
 | some (.slice e)=>match C.P.info? e,tZero C e with
  | some i,some z=>
   if i.size=0∨2 ^ 24 < len * i.size∨z.cells.length≠i.size∨z.val=false then none else
   match parts.foldlM (fun (l:List PV) (p:Nat×PV)=>
    match sealNew (tAgg C e) i.size p.2 with
    | some v=>if p.1 < len then some (l.set p.1 v) else none
    | none=>none) (List.replicate len z) with
   | some xs=>some (.osl e xs)
   | none=>none
  | _,_=>none
 | _=>none
def makeSliceP (t:TypeId) (l c:PV):Option PV:=
 match l,c with
 | .int _ n,.int _ m=>
  if n=m∧0<=n∧n<=16777216 then
   match C.P.underlying t with
   | some (.slice e)=>match C.P.info? e with
    | some i=>if i.bytes<=1000000 then buildSliceP C t n.toNat [] else none
    | none=>none
   | _=>none
  else none
 | _,_=>none
abbrev CallT:=FuncId->List PV->List PBox->Option (CR×List PBox)
def truncB (n:Nat) (r:CR) (bx:List PBox):List PBox:=
 if r.under n && (bx.take n).all (·.under n) then bx.take n else bx
def callOp (call:CallT) (f:FuncId) (args:List PV) (bx:List PBox):Option (CR×List PBox):=
 if C.heap f || !(pureL args) then
  match call f args bx with
  | some (r,bx')=>some (r,truncB bx.length r bx')
  | none=>none
 else
  match call f args [] with
  | some (.ret r,_)=>if r.pure then some (.ret r,bx) else none
  | _=>none
def storeCellsP (bx:List PBox) (id off:Nat) (vs:List PV):Option (List PBox):=
 match bx[id]? with
 | some (.cells t cs)=>if off+vs.length<=cs.length∧vs.all PV.one then some (bx.set id (.cells t (lay cs off vs))) else none
 | _=>none
def copyOn (st:St) (al:List (Nat×Loc)) (x y:Operand) (t:TypeId) (d:Option Tmp):Option OpR:=
 match C.P.underlying t with
 | some (.slice e)=>match tSize C e,opd C st.env x with
  | some s,.rs id len=>match srcP s st.bx (opd C st.env y) with
   | some (m,cs)=>if al.isEmpty then match storeCellsP st.bx id 0 ((cs.take (min m len * s)).map PV.ro) with
    | some bx=>some (.next ((St.mk st.env bx).put d (.int .i64 (min m len:Nat))) [])
    | none=>none
    else none
   | none=>none
  | _,_=>none
 | _=>none
def copyP (st:St) (al:List (Nat×Loc)) (args:Array Operand) (argTypes:Array TypeId) (d:Option Tmp):Option OpR:=
 match args.toList,argTypes.toList with
 | [x,y],[t,_]=>copyOn C st al x y t d
 | _,_=>none
def sameP (d:TypeDesc) (x y:PV):Option Bool:=match d,x,y with
 | .int _,.int k a,.int k' b=>if k=k' then some (a == b) else none
 | .string,.str a,.str b=>some (a == b)
 | _,_,_=>none
def findP (d:TypeDesc) (k:PV):List (PV×PV)->Nat->Option (Option (Nat×PV))
 | [],_=>some none
 | e :: es,i=>match sameP d k e.1 with
  | some true=>some (some (i,e.2))
  | some false=>findP d k es (i+1)
  | none=>none
def keyD (d:TypeDesc):Bool:=match d with
 | .int _ | .string=>true
 | _=>false
def mapAt (bx:List PBox) (v:PV):Option (Nat×List (PV×PV)):=match v with
 | .mv id=>match bx[id]? with
  | some (.mp es)=>some (id,es)
  | _=>none
 | _=>none
def lookupP (bx:List PBox) (t:TypeId) (m k:PV) (ok:Bool):Option PV:=
 match C.P.underlying t with
 | some (.map kt et)=>match C.P.underlying kt,mapAt bx m with
  | some d,some (_,es)=>if keyD d then match findP d k es 0 with
   | some (some (_,v))=>some (if ok then .tup [v.ro,.bool true] else v.ro)
   | some none=>(tZero C et).map fun z=>if ok then .tup [z.ro,.bool false] else z.ro
   | none=>none
   else none
  | _,_=>none
 | _=>none
def setE (es:List (PV×PV)) (i:Nat) (k v:PV):List (PV×PV):=es.set i (k,v)
def updateP (bx:List PBox) (t:TypeId) (m k v:PV):Option (List PBox):=
 match C.P.underlying t with
 | some (.map kt _)=>match C.P.underlying kt,mapAt bx m with
  | some d,some (id,es)=>if keyD d then match findP d k es 0 with
   | some (some (i,_))=>some (bx.set id (.mp (setE es i k v)))
   | some none=>some (bx.set id (.mp (es++[(k,v)])))
   | none=>none
   else none
  | _,_=>none
 | _=>none
def laid:PV->List PV
 | .osl e xs=>[.osl e xs]
 | v=>v.cells.map PV.ro
def calleeP (e:List PV) (c:Call):Option (FuncId×List PV):=
 match c.callee with
 | .value f=>match opd C e f with
  | .fn k first captured=>some (k,first.map PV.shutV++c.args.toList.map (fun x=>(opd C e x).shutV)++captured.map PV.shutV)
  | _=>none
 | _=>none
def isFn:Operand->Bool
 | .func _=>true
 | _=>false
def callAl (k:FuncId) (vs:List PV) (al:List (Nat×Loc)):List (Nat×Loc):=
 if C.heap k || !(pureL vs) then al.filter (fun p=>p.2 matches .tmp _) else al
def noteD (op:Op) (e:List PV) (d:Option Tmp):List (Nat×Loc):=
 match op,d with
 | .move (.tmp t),some d=>(match getT e t with
  | .osl _ _=>if t=d then [] else [(d,.tmp t)]
  | _=>[])
 | _,_=>[]
def noteAl (draw:Bool) (st:St) (op:Op) (d:Option Tmp) (al:List (Nat×Loc)):List (Nat×Loc):=
 if draw then noteD op st.env d++killT al d else
 match origin C st op,d with
 | some l,some d=>if l=.tmp d then killT al (some d) else (d,l) :: killT al (some d)
 | _,d=>killT al d
def notSlice (t:TypeId):Bool:=match C.P.underlying t with
 | some (.slice _)=>false
 | _=>true
def boxMin:List (Nat×Loc)->Option Nat
 | []=>none
 | (_,.tmp _) :: r=>boxMin r
 | (_,.box id _) :: r=>match boxMin r with
  | some m=>some (min id m)
  | none=>some id
def cutAt (k:FuncId) (vs:List PV) (al:List (Nat×Loc)) (bx:List PBox):Option Nat:=
 match boxMin al with
 | none=>none
 | some m=>if (C.heap k || !(pureL vs)) && (underL m vs && (bx.take m).all (·.under m)) then some m else none
def ptrT (t:TypeId):Bool:=match C.P.underlying t with
 | some (.pointer _)=>true
 | _=>false
def ptrA (tys:Array TypeId):Bool:=tys.toList.any (ptrT C)
def isFnO:Operand->Bool
 | .func _=>true
 | _=>false
def cutO (f:Operand) (tys:Array TypeId) (k:FuncId) (vs:List PV) (al:List (Nat×Loc)) (bx:List PBox):Option Nat:=if isFnO f && ptrA C tys then cutAt C k vs al bx else none
def stepOp (call:CallT) (draw:Bool) (al:List (Nat×Loc)) (o:Oper) (st:St):Option OpR:=
 match o.op with
 | .assign x=>if draw && notSlice C o.type then some (.next (st.put o.dst (opd C st.env x)) (killT al o.dst)) else
  let (v,st1):=takeT C st x o.type
  some (.next (st1.put o.dst v) (killT (match x with | .tmp i=>killT al (some i) | _=>al) o.dst))
 | .alloc t=>match tZero C t with
  | some z=>if (z.cells.map PV.ro).all PV.one then some (.next ((St.mk st.env (st.bx++[.cells t (z.cells.map PV.ro)])).put o.dst (.bp st.bx.length 0)) (killT al o.dst)) else none
  | none=>none
 | .box t x=>let v:=opd C st.env x
  if (v.cells.map PV.ro).all PV.one then some (.next ((St.mk st.env (st.bx++[.cells t (v.cells.map PV.ro)])).put o.dst (.bp st.bx.length 0)) (killT al o.dst)) else none
 | .store t a x=>match opd C st.env a with
  | .bp id off=>
   let (v,st1):=takeT C st x t
   if tSize C t=some (laid v).length then
    match storeCellsP st1.bx id off (laid v) with
    | some bx=>some (.next ((St.mk st1.env bx).put o.dst und) (killT (al.filter fun p=>(match p.2 with | .box i _=>i != id | .tmp i=>(match x with | .tmp j=>i != j | _=>true))) o.dst))
    | none=>none
   else none
  | _=>none
 | .buildSlice t len parts=>match buildSliceP C t len (parts.toList.map fun p=>(p.1,opd C st.env p.2)) with
  | some v=>some (.next (st.put o.dst v) (killT al o.dst))
  | none=>none
 | .makeSlice t l c=>match makeSliceP C t (opd C st.env l) (opd C st.env c) with
  | some v=>some (.next (newSl C st v o.dst) (killT al o.dst))
  | none=>none
 | .range t x=>match C.P.underlying t,opd C st.env x with
  | some .string,.str s=>some (.next ((St.mk st.env (st.bx++[.iter s 0])).put o.dst (.bp st.bx.length 0)) (killT al o.dst))
  | _,_=>none
 | .next x true=>match opd C st.env x with
  | .bp id 0=>match st.bx[id]? with
   | some (.iter s pos)=>
    if pos < s.length then
     some (.next ((St.mk st.env (st.bx.set id (.iter s (pos+(Utf8.decode ⟨s.toArray⟩ pos).2)))).put o.dst (.tup [.bool true,.int .i64 pos,.int .i32 (Utf8.decode ⟨s.toArray⟩ pos).1])) (killT al o.dst))
    else some (.next (st.put o.dst (.tup [.bool false])) (killT al o.dst))
   | _=>none
  | _=>none
 | .panic x=>match opd C st.env x with
  | .iface t v=>some (.pan (.iface t v) st)
  | _=>none
 | .call { callee:=.builtin .append,args,argTypes }=>appendP C st al args argTypes o.dst
 | .call { callee:=.builtin .copy,args,argTypes }=>copyP C st al args argTypes o.dst
 | .call { callee:=.value f,args,argTypes }=>
  match calleeP C st.env { callee:=.value f,args,argTypes } with
  | some (k,vs)=>if (draw && isFn f) && (C.heap k || !(pureL vs)) then none else match cutO C f argTypes k vs al st.bx with
   | some m=>match callOp C call k vs (st.bx.take m) with
    | some (.ret v,bx)=>if decide (bx.length=m) && (v.under m && bx.all (·.under m)) then some (.next ((St.mk st.env (bx++st.bx.drop m)).put o.dst v) (killT al o.dst)) else none
    | some (.pan v,bx)=>if decide (bx.length=m) && (v.under m && bx.all (·.under m)) then some (.pan v { st with bx:=bx++st.bx.drop m }) else none
    | none=>none
   | none=>match callOp C call k vs st.bx with
    | some (.ret v,bx)=>some (.next ((St.mk st.env bx).put o.dst v) (killT (callAl C k vs al) o.dst))
    | some (.pan v,bx)=>some (.pan v { st with bx })
    | none=>none
  | none=>none
 | .makeMap _ none=>some (.next ((St.mk st.env (st.bx++[.mp []])).put o.dst (.mv st.bx.length)) (killT al o.dst))
 | .lookup t x i ok=>match lookupP C st.bx t (opd C st.env x) (opd C st.env i) ok with
  | some v=>some (.next (st.put o.dst v) (killT al o.dst))
  | none=>none
 | .mapUpdate t m k v=>match updateP C st.bx t (opd C st.env m) (opd C st.env k).shutV (opd C st.env v).shutV with
  | some bx=>some (.next ((St.mk st.env bx).put o.dst und) (killT (al.filter fun p=>match p.2 with | .box _ _=>false | _=>true) o.dst))
  | none=>none
 | op=>match pureOp C st.bx st.env op with
  | some v=>some (.next (st.put o.dst v) (noteAl C draw st op o.dst al))
  | none=>none
def evOps (call:CallT) (draw:Bool) (ops:Array Oper):List Oper->List (Nat×Loc)->St->Option (Ex×St)
 | [],_,st=>some (.normal,st)
 | o :: rest,al,st=>match wantP ops st.env o with
  | none=>none
  | some false=>evOps call draw ops rest (killT al o.dst) (st.put o.dst und)
  | some true=>match stepOp C call draw al o st with
   | none=>none
   | some (.next st' al')=>evOps call draw ops rest al' st'
   | some (.pan v st')=>some (.pan v,st')
def resultP (st:St):ResultVar->Option PV
 | .tmp t=>some (opd C st.env (.tmp t)).shutV
 | .cell a t=>(loadP C st.bx t (opd C st.env (.tmp a))).map PV.shutV
def resultsP (st:St):List ResultVar->Option (List PV)
 | []=>some []
 | r :: rest=>match resultP C st r,resultsP st rest with
  | some v,some vs=>some (v :: vs)
  | _,_=>none
def oneOr:List PV->PV
 | [v]=>v
 | vs=>.tup vs
def dstOK (n:Nat) (ops:Array Oper):Bool:=ops.toList.all fun o=>match o.dst with
 | some d=>decide (d < n)
 | none=>true
def calm:Op->Bool
 | .move _ | .pick .. | .load .. | .nilCheck _ | .binOp .. | .unOp .. | .convert .. | .slice .. | .fieldAddr .. | .field .. | .indexAddr .. | .index ..
 | .extract .. | .build .. | .makeFunc .. | .buildSlice ..=>true
 | .call { callee:=.builtin .len,.. } | .call { callee:=.builtin .max,.. } | .call { callee:=.builtin .min,.. }=>true
 | .call { callee:=.value (.func f),argTypes,.. }=>!C.heap f && argTypes.toList.all fun t=>(match C.P.underlying t with
  | some (.pointer _)=>false
  | some (.slice e)=>!C.rows e
  | _=>true)
 | _=>false
def calmO (o:Oper):Bool:=calm C o.op || (match o.op with
 | .assign _=>notSlice C o.type
 | _=>false)
def subBits (a b:Nat):Bool:=a &&& b == a
def tailFrom (b:Array Nat):Nat->Nat
 | 0=>0
 | n+1=>if subBits (2 ^ n - 1) (b.getD n 0) then tailFrom b n else n+1
def tmpsOf (o:Oper):List Tmp:=o.op.operands.toList.filterMap fun | .tmp t=>some t | _=>none
def names (ops:Array Oper) (o:Oper):List Tmp:=
 tmpsOf o++o.dst.toList++(match o.guard with
  | some (j,_)=>((ops[j]?).bind (·.dst)).toList
  | none=>[])
def gcRank (ops:Array Oper) (i:Nat):Nat:=((Region.linearise .gc ops 0).idxOf? i).getD ops.size
def drawOK0 (ops:Array Oper):Bool:=
 let b:=Region.before ops
 let k:=tailFrom b ops.size
 let pre:=(ops.toList.take k).zipIdx
 let rk:=(List.range ops.size).map (gcRank ops)
 -- each of the orders lists every operation
 (ops.toList.zipIdx.all fun (o,i)=>o.after.all fun e=>(!Region.binds .text e || decide (e.on < i)) && (!Region.binds .gc e || decide (rk.getD e.on 0 < rk.getD i 0) && decide (e.on < ops.size))) &&
 (pre.all fun (o,i)=>calmO C o && o.dst.isSome &&
  (pre.all fun (o',j)=>i == j ||
   -- what i names and j writes: one waits for the other
   (match o'.dst with
    | some d=>!((names ops o).contains d) || (decide (j < i) && (b.getD i 0).testBit j) || (decide (i < j) && (b.getD j 0).testBit i)
    | none=>true)) &&
  (match o.guard with
   | none=>true
   | some (j,_)=>decide (j < i) && (b.getD i 0).testBit j))
def callsOK (ops:Array Oper):Bool:=ops.toList.all fun o=>match o.op with
 | .call { callee:=.value (.func _),.. }=>calm C o.op
 | _=>true
def drawOK (ops:Array Oper):Bool:=drawOK0 C ops && callsOK C ops
def codeOK (n:Nat):Code->Bool
 | .region _ ops draw=>dstOK n ops && (!draw || drawOK C ops)
 | .seq a b=>codeOK n a && codeOK n b
 | .cond _ a b=>codeOK n a && codeOK n b
 | .block _ b=>codeOK n b
 | .loop b=>codeOK n b
 | _=>true
def fnOK (fn:Func) (c:Code):Bool:=codeOK C fn.ntmps c && fn.name != "runtime.NumGoroutine"
def edgesOK (ops:Array Oper):Bool:=
 ops.toList.zipIdx.all fun (o,i)=>o.after.all fun e=>(!Region.binds .text e || decide (e.on < i)) && (!Region.binds .gc e || decide (((List.range ops.size).map (gcRank ops)).getD e.on 0 < ((List.range ops.size).map (gcRank ops)).getD i 0) && decide (e.on < ops.size))
def readyB (ops:Array Oper) (acc:List Nat) (i:Nat):Bool:=!acc.contains i && (match ops[i]? with
 | some o=>o.after.toList.all fun e=>!Region.binds .any e || acc.contains e.on
 | none=>false)
def orderGo (ops:Array Oper):Nat->List Nat->List (List Nat)
 | 0,acc=>[acc.reverse]
 | k+1,acc=>(List.range ops.size).flatMap fun i=>if readyB ops acc i then orderGo ops k (i :: acc) else []
def orders (ops:Array Oper):List (List Nat):=orderGo ops ops.size []
def pickOps (ops:Array Oper) (l:List Nat):List Oper:=l.filterMap fun i=>ops[i]?
mutual
def PV.eqB:PV->PV->Bool
 | .top,.top=>true
 | .bool a,.bool b=>a == b
 | .int k a,.int k' b=>decide (k=k') && decide (a=b)
 | .str a,.str b=>decide (a=b)
 | .nils,.nils=>true
 | .sl a,.sl b=>eqBL a b
 | .osl e a,.osl e' b=>decide (e=e') && eqBL a b
 | .ip a,.ip b=>eqBL a b
 | .bp i o,.bp i' o'=>decide (i=i') && decide (o=o')
 | .rs i o,.rs i' o'=>decide (i=i') && decide (o=o')
 | .mv i,.mv i'=>decide (i=i')
 | .nilp,.nilp=>true
 | .fn f a b,.fn f' a' b'=>decide (f=f') && eqBL a a' && eqBL b b'
 | .nilf,.nilf=>true
 | .iface t v,.iface t' v'=>decide (t=t') && PV.eqB v v'
 | .nili,.nili=>true
 | .agg a,.agg b=>eqBL a b
 | .tup a,.tup b=>eqBL a b
 | _,_=>false
def eqBL:List PV->List PV->Bool
 | [],[]=>true
 | x :: xs,y :: ys=>PV.eqB x y && eqBL xs ys
 | _,_=>false
end
mutual
theorem eqB_eq:∀ (x y:PV),PV.eqB x y=true->x=y
 | .top,y,h=>by cases y <;> simp [PV.eqB] at h ⊢
 | .bool a,y,h=>by cases y <;> simp [PV.eqB] at h ⊢;exact h
 | .int k a,y,h=>by cases y <;> simp [PV.eqB] at h ⊢;exact h
 | .str a,y,h=>by cases y <;> simp [PV.eqB] at h ⊢;exact h
 | .nils,y,h=>by cases y <;> simp [PV.eqB] at h ⊢
 | .sl a,y,h=>by cases y <;> simp [PV.eqB] at h ⊢;exact eqBL_eq _ _ h
 | .osl e a,y,h=>by cases y <;> simp [PV.eqB] at h ⊢;exact ⟨h.1,eqBL_eq _ _ h.2⟩
 | .ip a,y,h=>by cases y <;> simp [PV.eqB] at h ⊢;exact eqBL_eq _ _ h
 | .bp i o,y,h=>by cases y <;> simp [PV.eqB] at h ⊢;exact h
 | .rs i o,y,h=>by cases y <;> simp [PV.eqB] at h ⊢;exact h
 | .mv i,y,h=>by cases y <;> simp [PV.eqB] at h ⊢;exact h
 | .nilp,y,h=>by cases y <;> simp [PV.eqB] at h ⊢
 | .fn f a b,y,h=>by cases y <;> simp [PV.eqB] at h ⊢;exact ⟨h.1.1,eqBL_eq _ _ h.1.2,eqBL_eq _ _ h.2⟩
 | .nilf,y,h=>by cases y <;> simp [PV.eqB] at h ⊢
 | .iface t v,y,h=>by cases y <;> simp [PV.eqB] at h ⊢;exact ⟨h.1,eqB_eq _ _ h.2⟩
 | .nili,y,h=>by cases y <;> simp [PV.eqB] at h ⊢
 | .agg a,y,h=>by cases y <;> simp [PV.eqB] at h ⊢;exact eqBL_eq _ _ h
 | .tup a,y,h=>by cases y <;> simp [PV.eqB] at h ⊢;exact eqBL_eq _ _ h
theorem eqBL_eq:∀ (x y:List PV),eqBL x y=true->x=y
 | [],[],_=>rfl
 | [],_ :: _,h=>by simp [eqBL] at h
 | _ :: _,[],h=>by simp [eqBL] at h
 | x :: xs,y :: ys,h=>by
  simp only [eqBL,Bool.and_eq_true] at h
  rw [eqB_eq x y h.1,eqBL_eq xs ys h.2]
end
mutual
theorem eqB_self:∀ x:PV,PV.eqB x x=true
 | .top=>rfl
 | .bool a=>by simp [PV.eqB]
 | .int k a=>by simp [PV.eqB]
 | .str a=>by simp [PV.eqB]
 | .nils=>rfl
 | .sl a=>by simp [PV.eqB,eqBL_self a]
 | .osl e a=>by simp [PV.eqB,eqBL_self a]
 | .ip a=>by simp [PV.eqB,eqBL_self a]
 | .bp i o=>by simp [PV.eqB]
 | .rs i o=>by simp [PV.eqB]
 | .mv i=>by simp [PV.eqB]
 | .nilp=>rfl
 | .fn f a b=>by simp [PV.eqB,eqBL_self a,eqBL_self b]
 | .nilf=>rfl
 | .iface t v=>by simp [PV.eqB,eqB_self v]
 | .nili=>rfl
 | .agg a=>by simp [PV.eqB,eqBL_self a]
 | .tup a=>by simp [PV.eqB,eqBL_self a]
theorem eqBL_self:∀ x:List PV,eqBL x x=true
 | []=>rfl
 | x :: xs=>by simp [eqBL,eqB_self x,eqBL_self xs]
end
def eqBP:List (PV×PV)->List (PV×PV)->Bool
 | [],[]=>true
 | x :: xs,y :: ys=>PV.eqB x.1 y.1 && PV.eqB x.2 y.2 && eqBP xs ys
 | _,_=>false
theorem eqBP_eq:∀ (x y:List (PV×PV)),eqBP x y=true->x=y
 | [],[],_=>rfl
 | [],_ :: _,h=>by simp [eqBP] at h
 | _ :: _,[],h=>by simp [eqBP] at h
 | x :: xs,y :: ys,h=>by
  simp only [eqBP,Bool.and_eq_true] at h
  rw [eqBP_eq xs ys h.2,Prod.ext (eqB_eq _ _ h.1.1) (eqB_eq _ _ h.1.2)]
theorem eqBP_self:∀ x:List (PV×PV),eqBP x x=true
 | []=>rfl
 | x :: xs=>by simp [eqBP,eqB_self,eqBP_self xs]
def PBox.eqB:PBox->PBox->Bool
 | .cells t a,.cells t' b=>decide (t=t') && eqBL a b
 | .iter s p,.iter s' p'=>decide (s=s') && decide (p=p')
 | .mp a,.mp b=>eqBP a b
 | _,_=>false
theorem PBox.eqB_eq (x y:PBox) (h:PBox.eqB x y=true):x=y:=by
 cases x <;> cases y <;> simp [PBox.eqB] at h ⊢
 · exact ⟨h.1,eqBL_eq _ _ h.2⟩
 · exact h
 · exact eqBP_eq _ _ h
theorem PBox.eqB_self (x:PBox):PBox.eqB x x=true:=by cases x <;> simp [PBox.eqB,eqBL_self,eqBP_self]
def eqBB:List PBox->List PBox->Bool
 | [],[]=>true
 | x :: xs,y :: ys=>PBox.eqB x y && eqBB xs ys
 | _,_=>false
theorem eqBB_eq:∀ (x y:List PBox),eqBB x y=true->x=y
 | [],[],_=>rfl
 | [],_ :: _,h=>by simp [eqBB] at h
 | _ :: _,[],h=>by simp [eqBB] at h
 | x :: xs,y :: ys,h=>by
  simp only [eqBB,Bool.and_eq_true] at h
  rw [PBox.eqB_eq x y h.1,eqBB_eq xs ys h.2]
theorem eqBB_self:∀ x:List PBox,eqBB x x=true
 | []=>rfl
 | x :: xs=>by simp [eqBB,PBox.eqB_self x,eqBB_self xs]
def exB:Ex->Ex->Bool
 | .normal,.normal=>true
 | .exit i,.exit j=>decide (i=j)
 | .ret,.ret=>true
 | .pan v,.pan v'=>PV.eqB v v'
 | _,_=>false
theorem exB_eq (x y:Ex) (h:exB x y=true):x=y:=by
 cases x <;> cases y <;> simp [exB] at h ⊢
 · exact h
 · exact eqB_eq _ _ h
theorem exB_self (x:Ex):exB x x=true:=by cases x <;> simp [exB,eqB_self]
def swp (n i:Nat):Nat:=if i=n then n+1 else if i=n+1 then n else i
theorem swp_swp (n i:Nat):swp n (swp n i)=i:=by
 unfold swp
 by_cases a:i=n
 · rw [if_pos a,if_neg (by omega),if_pos rfl,a]
 · rw [if_neg a]
   by_cases b:i=n+1
   · rw [if_pos b,if_pos rfl,b]
   · rw [if_neg b,if_neg a,if_neg b]
theorem swp_lt {n i:Nat} (h:i < n):swp n i=i:=by
 unfold swp
 rw [if_neg (by omega),if_neg (by omega)]
theorem swp_lt2 {n i:Nat} (h:i < n+2):swp n i < n+2:=by
 unfold swp
 split
 · omega
 · split <;> omega
structure Eqv (n:Nat) (st st':St):Prop where
 len:st.bx.length=n+2
 len':st'.bx.length=n+2
 env:∀ t,((getT st.env t).under n=true∧getT st'.env t=getT st.env t)∨∃ id off,getT st.env t=.bp id off∧getT st'.env t=.bp (swp n id) off
 bx:∀ id b,st.bx[id]?=some b->b.under n=true∧st'.bx[swp n id]?=some b
def sameR (x:Option (Ex×St)) (y:Ex×St):Bool:=match x with
 | some (e,st)=>exB e y.1 && eqBL st.env y.2.env && eqBB st.bx y.2.bx
 | none=>false
theorem sameR_eq {x:Option (Ex×St)} {y:Ex×St} (h:sameR x y=true):x=some y:=by
 unfold sameR at h
 split at h
 · rename_i e st
   simp only [Bool.and_eq_true] at h
   obtain ⟨⟨h1,h2⟩,h3⟩:=h
   obtain ⟨e',st'⟩:=y
   obtain ⟨a,b⟩:=st
   obtain ⟨a',b'⟩:=st'
   have:=exB_eq _ _ h1
   have:=eqBL_eq _ _ h2
   have:=eqBB_eq _ _ h3
   simp_all
 · cases h
theorem sameR_self (y:Ex×St):sameR (some y) y=true:=by unfold sameR;simp [exB_self,eqBL_self,eqBB_self]
def normP (r:Option (Ex×St)):Option (Ex×St):=match r with
 | some (.pan v,st)=>some (.pan v,⟨[],st.bx⟩)
 | r=>r
noncomputable def eqvE (n:Nat) (x:Option (Ex×St)) (y:Ex×St):Bool:=match x,y with
 | some (.normal,s),(.normal,s')=>@decide (Eqv n s s') (Classical.propDecidable _)
 | _,_=>false
theorem eqvE_out {n:Nat} {x:Option (Ex×St)} {y:Ex×St} (h:eqvE n x y=true):∃ s,x=some (.normal,s)∧y.1=.normal∧Eqv n s y.2:=by
 unfold eqvE at h
 split at h
 · exact ⟨_,rfl,rfl,@of_decide_eq_true _ (Classical.propDecidable _) h⟩
 · cases h
theorem eqvE_in {n:Nat} {s s':St} (h:Eqv n s s'):eqvE n (some (.normal,s)) (.normal,s')=true:=by
 unfold eqvE
 exact @decide_eq_true _ (Classical.propDecidable _) h
noncomputable def drawAll (call:CallT) (ops:Array Oper) (st:St):Option (Ex×St):=
 match orders ops with
 | []=>none
 | l :: ls=>match normP (evOps C call false ops (pickOps ops l) [] st) with
  | some r=>if ls.all fun l'=>sameR (normP (evOps C call false ops (pickOps ops l') [] st)) r || eqvE st.bx.length (normP (evOps C call false ops (pickOps ops l') [] st)) r then some r else none
  | none=>none
noncomputable def drawM (call:CallT) (ops:Array Oper) (st:St):Option (Ex×St):=if drawOK C ops then evOps C call true ops ops.toList [] st else drawAll C call ops st
def codeOKB (n:Nat):Code->Bool
 | .region _ ops draw=>dstOK n ops && (!draw || drawOK C ops || edgesOK ops)
 | .seq a b=>codeOKB n a && codeOKB n b
 | .cond _ a b=>codeOKB n a && codeOKB n b
 | .block _ b=>codeOKB n b
 | .loop b=>codeOKB n b
 | _=>true
def fnOKB (fn:Func) (c:Code):Bool:=codeOKB C fn.ntmps c && fn.name != "runtime.NumGoroutine"
def finQ (fn:Func):Option (Ex×St)->Option (CR×List PBox)
 | some (.pan v,st)=>some (.pan v,st.bx)
 | some (.exit _,_)=>none
 | some (_,st)=>match resultsP C st fn.results.toList with
  | some vs=>some (.ret (oneOr vs),st.bx)
  | none=>none
 | none=>none
def bodyQ (ev evb:Code->St->Option (Ex×St)):CallT:=fun f args bx=>
 match C.prim f with
 | some g=>if pureL args then (g args).map fun r=>(.ret r,bx) else none
 | none=>match C.P.funcs[f]? with
  | none=>none
  | some fn=>match fn.body with
   | none=>none
   | some c=>
    if fnOK C fn c && decide (args.length<=fn.ntmps) then finQ C fn (ev c ⟨args,bx⟩)
    else if fnOKB C fn c && decide (args.length<=fn.ntmps) then finQ C fn (evb c ⟨args,bx⟩)
    else none
def rowsOf (ag:Bool) (sz len:Nat) (cs:List PV):List PV:=(List.range len).map fun i=>if ag then .agg ((cs.drop (i * sz)).take sz) else cs.getD i und
def thawP (bx:List PBox) (n:Nat):Nat->PV->PV
 | 0,p=>p
 | k+1,p=>match p with
  | .rs id len=>if id < n then p else match bx[id]? with
   | some (.cells e cs)=>match tSize C e with
    | some sz=>if len * sz<=cs.length∧sz≠0∧(tAgg C e=true∨(sz=1∧((cs.map (thawP bx n k)).all PV.one=true))) then .sl (rowsOf (tAgg C e) sz len (cs.map (thawP bx n k))) else p
    | none=>p
   | _=>p
  | .agg cs=>.agg (cs.map (thawP bx n k))
  | .tup vs=>.tup (vs.map (thawP bx n k))
  | .sl xs=>.sl (xs.map (thawP bx n k))
  | p=>p
def endQ (n:Nat):Option (CR×List PBox)->Option (CR×List PBox)
 | some (.ret r,bx)=>if (thawP C bx n 4 r).under n && (bx.take n).all (·.under n) then some (.ret (thawP C bx n 4 r),bx.take n) else some (.ret r,bx)
 | x=>x
def runCat (k:Cat) (ev:Code->St->Option (Ex×St)) (args:List PV) (bx:List PBox):Option (CR×List PBox):=
 match k.pre args bx with
 | some st=>match ev k.code st with
  | some r=>k.post r
  | none=>none
 | none=>none
def bodyP (ev evb:Code->St->Option (Ex×St)):CallT:=fun f args bx=>
 match C.hprim f with
 | some g=>(g args bx).map fun r=>(if r.1 then .pan r.2.1 else .ret r.2.1,r.2.2)
 | none=>match C.cat f with
  | some k=>runCat k ev args bx
  | none=>if C.thaw f then endQ C bx.length (bodyQ C ev evb f args bx) else bodyQ C ev evb f args bx
noncomputable def evFB:Nat->Bool->Code->St->Option (Ex×St)
 | 0,_,_,_=>none
 | n+1,br,c,st=>
  match c with
  | .skip=>some (.normal,st)
  | .label _=>some (.normal,st)
  | .region _ ops draw=>if br && draw then drawM C (bodyP C (evFB n false) (evFB n true)) ops st else evOps C (bodyP C (evFB n false) (evFB n true)) draw ops ops.toList [] st
  | .seq a b=>match evFB n br a st with
   | some (.normal,st')=>evFB n br b st'
   | r=>r
  | .cond c a b=>match opd C st.env c with
   | .bool t=>evFB n br (if t then a else b) st
   | _=>none
  | .block id b=>match evFB n br b st with
   | some (.exit id',st')=>if id'=id then some (.normal,st') else some (.exit id',st')
   | r=>r
  | .loop b=>match evFB n br b st with
   | some (.normal,st')=>evFB n br (.loop b) st'
   | r=>r
  | .exit id=>some (.exit id,st)
  | .ret=>some (.ret,st)
  | _=>none
noncomputable def callF (n:Nat):CallT:=bodyP C (evFB C n false) (evFB C n true)
end Go.HH
