/-
  What the law needs, packed: Eval.
-/
import Derived.Test.YthjcaihemgllaaaGreatDoorK1
open Classical renaming propDecidable->Aau
open Go.Region renaming binds->Aav
open Bool renaming and_eq_true->Aaw
open List renaming range->Aax
open Go.Utf8 renaming decode->Aay
namespace Go.HH
open Go
variable (C:Cfg)
mutual
def PV.under (n:Nat):PV->Bool
 | .top=>false
 | .bp id _=>decide (id < n)
 | .sl xs=>Ar n xs
 | .osl _ xs=>Ar n xs
 | .ip cs=>Ar n cs
 | .fn _ a b=>Ar n a && Ar n b
 | .iface _ v=>v.under n
 | .agg cs=>Ar n cs
 | .tup vs=>Ar n vs
 | _=>true
def Ar (n:Nat):List PV->Bool
 | []=>true
 | v :: r=>v.under n && Ar n r
end
def PBox.under (n:Nat):PBox->Bool
 | .cells _ cs=>Ar n cs
 | .iter _ _=>true
def CR.under (n:Nat):CR->Bool
 | .ret v=>v.under n
 | .pan v=>v.under n
def St.put (st:St) (d:Option Tmp) (v:PV):St:=
 match d with
 | some d=>{ st with env:=setT st.env d v }
 | none=>st
def GB (ops:Array Oper) (e:List PV) (o:Oper):Option Bool:=
 match o.guard with
 | none=>some true
 | some (j,want)=>match (ops[j]?).bind (·.dst) with
  | some d=>match getT e d with
   | .bool b=>some (b == want)
   | .tup _=>some false
   | _=>none
  | none=>none
def Aj (al:List (Nat×Loc)) (d:Option Tmp):List (Nat×Loc):=
 match d with
 | some d=>al.filter fun p=>p.1 != d && p.2 != .tmp d
 | none=>al
inductive OpR where
 | next (st:St) (al:List (Nat×Loc))
 | pan (v:PV) (st:St)
def E9 (st:St):Loc->PV
 | .tmp t=>getT st.env t
 | .box id off=>match A0 st.bx id with
  | some cs=>cs.getD off und
  | none=>und
def QY (bx:List PBox) (id off:Nat) (v:PV):List PBox:=
 match bx[id]? with
 | some (.cells t cs)=>bx.set id (.cells t (cs.set off v))
 | _=>bx
def FX (st:St) (l:Loc) (v:PV):St:=
 match l with
 | .tmp t=>{ st with env:=setT st.env t v }
 | .box id off=>{ st with bx:=QY st.bx id off v }
def origin (st:St):Op->Option Loc
 | .move (.tmp t)=>match getT st.env t with
  | .osl _ _=>some (.tmp t)
  | _=>none
 | .load t a=>match C.P.underlying t with
  | some (.slice _)=>match opd C st.env a with
   | .bp id off=>match E9 st (.box id off) with
    | .osl _ _=>some (.box id off)
    | _=>none
   | _=>none
  | _=>none
 | _=>none
def D8 (st:St) (x:Operand) (t:TypeId):PV×St:=
 match x with
 | .tmp i=>match getT st.env i with
  | .osl e xs=>(.osl e xs,{ st with env:=setT st.env i (.sl xs) })
  | v=>(v,st)
 | .const (.slice none 0 0)=>match C.P.underlying t with
  | some (.slice e)=>if (C.P.info? e).isSome then (.osl e [],st) else (.nils,st)
  | _=>(.nils,st)
 | x=>(opd C st.env x,st)
def Gc:Nat:=140737488355328
def CY (st:St) (al:List (Nat×Loc)) (e:TypeId) (x:Operand):Option (Option Loc×List PV):=
 match raw C st.env x with
 | .nils=>some (none,[])
 | .osl e' xs=>if e'=e then (match x with
  | .tmp t=>some (some (.tmp t),xs)
  | _=>none) else none
 | .sl _=>match x with
  | .tmp t=>match al.find? (fun p=>p.1 == t) with
   | some (_,l)=>match E9 st l with
    | .osl e' xs=>if e'=e then some (some l,xs) else none
    | _=>none
   | none=>none
  | _=>none
 | _=>none
def Gd (a:Bool) (size:Nat) (v:PV):Option PV:=
 match v.shutV with
 | .agg cs=>if a && cs.length == size then some (.agg cs) else none
 | v=>if !a && v.one && size == 1 then some v else none
def Kh (e:TypeId) (size:Nat) (t:TypeId) (x:PV):Option (List PV):=
 match C.P.underlying t,x with
 | some (.slice _),x=>CK x
 | some .string,.str s=>match C.P.underlying e with
  | some (.int .u8)=>if size=1 then some (s.map fun b=>.int .u8 b.toNat) else none
  | _=>none
 | _,_=>none
def MB (st:St) (l:Option Loc) (xs:List PV):St:=
 match l with
 | some l=>FX st l (.sl xs)
 | none=>st
def DT (st:St) (al:List (Nat×Loc)) (s x:Operand) (t0 t1:TypeId) (d:Option Tmp):Option OpR:=
 match C.P.underlying t0 with
 | some (.slice e)=>match C.P.info? e with
  | some i=>match CY C st al e s,Kh C e i.size t1 (opd C st.env x) with
   | some (l,xs),some ys=>
    if i.size=0\/i.zero.isNone\/Gc < (xs.length+ys.length) * i.bytes\/Gc < xs.length+ys.length\/(ys.all fun y=>y.cells.length == i.size)=false\/((i.zero.map Value.cells).map Array.size)≠some i.size then none
    else
     some (.next ((MB st l xs).put d (.osl e (xs++ys))) (Aj al d))
   | _,_=>none
  | none=>none
 | _=>none
def La (st:St) (al:List (Nat×Loc)) (args:Array Operand) (argTypes:Array TypeId) (d:Option Tmp):Option OpR:=
 match args.toList,argTypes.toList with
 | [s,x],[t0,t1]=>DT C st al s x t0 t1 d
 | _,_=>none
def AZ (t:TypeId) (len:Nat) (parts:List (Nat×PV)):Option PV:=
 match C.P.underlying t with
 | some (.slice e)=>match C.P.info? e,tZero C e with
  | some i,some z=>
   if i.size=0\/2 ^ 24 < len * i.size\/z.cells.length≠i.size\/z.val=false then none else
   match parts.foldlM (fun (l:List PV) (p:Nat×PV)=>
    match Gd (tAgg C e) i.size p.2 with
    | some v=>if p.1 < len then some (l.set p.1 v) else none
    | none=>none) (List.replicate len z) with
   | some xs=>some (.osl e xs)
   | none=>none
  | _,_=>none
 | _=>none
def FY (t:TypeId) (l c:PV):Option PV:=
 match l,c with
 | .int _ n,.int _ m=>
  if n=m/\0<=n/\n<=16777216 then
   match C.P.underlying t with
   | some (.slice e)=>match C.P.info? e with
    | some i=>if i.bytes<=1000000 then AZ C t n.toNat [] else none
    | none=>none
   | _=>none
  else none
 | _,_=>none
abbrev Cn:=FuncId->List PV->List PBox->Option (CR×List PBox)
def Eu (n:Nat) (r:CR) (bx:List PBox):List PBox:=
 if r.under n && (bx.take n).all (·.under n) then bx.take n else bx
def Ai (call:Cn) (f:FuncId) (args:List PV) (bx:List PBox):Option (CR×List PBox):=
 if C.heap f || !(Ak args) then
  match call f args bx with
  | some (r,bx')=>some (r,Eu bx.length r bx')
  | none=>none
 else
  match call f args [] with
  | some (.ret r,_)=>if r.pure then some (.ret r,bx) else none
  | _=>none
def BK (bx:List PBox) (id off:Nat) (vs:List PV):Option (List PBox):=
 match bx[id]? with
 | some (.cells t cs)=>if off+vs.length<=cs.length/\vs.all PV.one then some (bx.set id (.cells t (lay cs off vs))) else none
 | _=>none
def laid:PV->List PV
 | .osl e xs=>[.osl e xs]
 | v=>v.cells.map PV.ro
def Lb (e:List PV) (c:Call):Option (FuncId×List PV):=
 match c.callee with
 | .value f=>match opd C e f with
  | .fn k first captured=>some (k,first.map PV.shutV++c.args.toList.map (fun x=>(opd C e x).shutV)++captured.map PV.shutV)
  | _=>none
 | _=>none
def VV:Operand->Bool
 | .func _=>true
 | _=>false
def Dp (k:FuncId) (vs:List PV) (al:List (Nat×Loc)):List (Nat×Loc):=
 if C.heap k || !(Ak vs) then al.filter (fun p=>p.2 matches .tmp _) else al
def E' (op:Op) (e:List PV) (d:Option Tmp):List (Nat×Loc):=
 match op,d with
 | .move (.tmp t),some d=>(match getT e t with
  | .osl _ _=>if t=d then [] else [(d,.tmp t)]
  | _=>[])
 | _,_=>[]
def Gv (draw:Bool) (st:St) (op:Op) (d:Option Tmp) (al:List (Nat×Loc)):List (Nat×Loc):=
 if draw then E' op st.env d++Aj al d else
 match origin C st op,d with
 | some l,some d=>if l=.tmp d then Aj al (some d) else (d,l) :: Aj al (some d)
 | _,d=>Aj al d
def AN (t:TypeId):Bool:=match C.P.underlying t with
 | some (.slice _)=>false
 | _=>true
def CL:List (Nat×Loc)->Option Nat
 | []=>none
 | (_,.tmp _) :: r=>CL r
 | (_,.box id _) :: r=>match CL r with
  | some m=>some (min id m)
  | none=>some id
def cutAt (k:FuncId) (vs:List PV) (al:List (Nat×Loc)) (bx:List PBox):Option Nat:=
 match CL al with
 | none=>none
 | some m=>if (C.heap k || !(Ak vs)) && (Ar m vs && (bx.take m).all (·.under m)) then some m else none
def AP (t:TypeId):Bool:=match C.P.underlying t with
 | some (.pointer _)=>true
 | _=>false
def iL (tys:Array TypeId):Bool:=tys.toList.any (AP C)
def cP:Operand->Bool
 | .func _=>true
 | _=>false
def JS (f:Operand) (tys:Array TypeId) (k:FuncId) (vs:List PV) (al:List (Nat×Loc)) (bx:List PBox):Option Nat:=if cP f && iL C tys then cutAt C k vs al bx else none
def Bq (call:Cn) (draw:Bool) (al:List (Nat×Loc)) (o:Oper) (st:St):Option OpR:=
 match o.op with
 | .assign x=>if draw && AN C o.type then some (.next (st.put o.dst (opd C st.env x)) (Aj al o.dst)) else
  let (v,st1):=D8 C st x o.type
  some (.next (st1.put o.dst v) (Aj (match x with | .tmp i=>Aj al (some i) | _=>al) o.dst))
 | .alloc t=>match tZero C t with
  | some z=>if (z.cells.map PV.ro).all PV.one then some (.next ((St.mk st.env (st.bx++[.cells t (z.cells.map PV.ro)])).put o.dst (.bp st.bx.length 0)) (Aj al o.dst)) else none
  | none=>none
 | .box t x=>let v:=opd C st.env x
  if (v.cells.map PV.ro).all PV.one then some (.next ((St.mk st.env (st.bx++[.cells t (v.cells.map PV.ro)])).put o.dst (.bp st.bx.length 0)) (Aj al o.dst)) else none
 | .store t a x=>match opd C st.env a with
  | .bp id off=>
   let (v,st1):=D8 C st x t
   if tSize C t=some (laid v).length then
    match BK st1.bx id off (laid v) with
    | some bx=>some (.next ((St.mk st1.env bx).put o.dst und) (Aj (al.filter fun p=>(match p.2 with | .box i _=>i != id | .tmp i=>(match x with | .tmp j=>i != j | _=>true))) o.dst))
    | none=>none
   else none
  | _=>none
 | .buildSlice t len parts=>match AZ C t len (parts.toList.map fun p=>(p.1,opd C st.env p.2)) with
  | some v=>some (.next (st.put o.dst v) (Aj al o.dst))
  | none=>none
 | .makeSlice t l c=>match FY C t (opd C st.env l) (opd C st.env c) with
  | some v=>some (.next (st.put o.dst v) (Aj al o.dst))
  | none=>none
 | .range t x=>match C.P.underlying t,opd C st.env x with
  | some .string,.str s=>some (.next ((St.mk st.env (st.bx++[.iter s 0])).put o.dst (.bp st.bx.length 0)) (Aj al o.dst))
  | _,_=>none
 | .next x true=>match opd C st.env x with
  | .bp id 0=>match st.bx[id]? with
   | some (.iter s pos)=>
    if pos < s.length then
     some (.next ((St.mk st.env (st.bx.set id (.iter s (pos+(Aay ⟨s.toArray⟩ pos).2)))).put o.dst (.tup [.bool true,.int .i64 pos,.int .i32 (Aay ⟨s.toArray⟩ pos).1])) (Aj al o.dst))
    else some (.next (st.put o.dst (.tup [.bool false])) (Aj al o.dst))
   | _=>none
  | _=>none
 | .panic x=>match opd C st.env x with
  | .iface t v=>some (.pan (.iface t v) st)
  | _=>none
 | .call { callee:=.builtin .append,args,argTypes }=>La C st al args argTypes o.dst
 | .call { callee:=.value f,args,argTypes }=>
  match Lb C st.env { callee:=.value f,args,argTypes } with
  | some (k,vs)=>if (draw && VV f) && (C.heap k || !(Ak vs)) then none else match JS C f argTypes k vs al st.bx with
   | some m=>match Ai C call k vs (st.bx.take m) with
    | some (.ret v,bx)=>if decide (bx.length=m) && (v.under m && bx.all (·.under m)) then some (.next ((St.mk st.env (bx++st.bx.drop m)).put o.dst v) (Aj al o.dst)) else none
    | some (.pan v,bx)=>if decide (bx.length=m) && (v.under m && bx.all (·.under m)) then some (.pan v { st with bx:=bx++st.bx.drop m }) else none
    | none=>none
   | none=>match Ai C call k vs st.bx with
    | some (.ret v,bx)=>some (.next ((St.mk st.env bx).put o.dst v) (Aj (Dp C k vs al) o.dst))
    | some (.pan v,bx)=>some (.pan v { st with bx })
    | none=>none
  | none=>none
 | op=>match BZ C st.bx st.env op with
  | some v=>some (.next (st.put o.dst v) (Gv C draw st op o.dst al))
  | none=>none
def evOps (call:Cn) (draw:Bool) (ops:Array Oper):List Oper->List (Nat×Loc)->St->Option (Ex×St)
 | [],_,st=>some (.normal,st)
 | o :: rest,al,st=>match GB ops st.env o with
  | none=>none
  | some false=>evOps call draw ops rest (Aj al o.dst) (st.put o.dst und)
  | some true=>match Bq C call draw al o st with
   | none=>none
   | some (.next st' al')=>evOps call draw ops rest al' st'
   | some (.pan v st')=>some (.pan v,st')
def HD (st:St):ResultVar->Option PV
 | .tmp t=>some (opd C st.env (.tmp t)).shutV
 | .cell a t=>(G2 C st.bx t (opd C st.env (.tmp a))).map PV.shutV
def Cp (st:St):List ResultVar->Option (List PV)
 | []=>some []
 | r :: rest=>match HD C st r,Cp st rest with
  | some v,some vs=>some (v :: vs)
  | _,_=>none
def Iq:List PV->PV
 | [v]=>v
 | vs=>.tup vs
def dstOK (n:Nat) (ops:Array Oper):Bool:=ops.toList.all fun o=>match o.dst with
 | some d=>decide (d < n)
 | none=>true
def calm:Op->Bool
 | .move _ | .pick .. | .load .. | .nilCheck _ | .binOp .. | .unOp .. | .convert .. | .slice .. | .fieldAddr .. | .field .. | .indexAddr .. | .index ..
 | .extract .. | .build .. | .makeFunc .. | .buildSlice ..=>true
 | .call { callee:=.builtin .len,.. } | .call { callee:=.builtin .max,.. } | .call { callee:=.builtin .min,.. }=>true
 | .call { callee:=.value (.func f),argTypes,.. }=>!C.heap f && argTypes.toList.all fun t=>(match C.P.underlying t with
  | some (.pointer _)=>false
  | _=>true)
 | _=>false
def HE (o:Oper):Bool:=calm C o.op || (match o.op with
 | .assign _=>AN C o.type
 | _=>false)
def QC (a b:Nat):Bool:=a &&& b == a
def G3 (b:Array Nat):Nat->Nat
 | 0=>0
 | n+1=>if QC (2 ^ n - 1) (b.getD n 0) then G3 b n else n+1
def tmpsOf (o:Oper):List Tmp:=o.op.operands.toList.filterMap fun | .tmp t=>some t | _=>none
def names (ops:Array Oper) (o:Oper):List Tmp:=
 tmpsOf o++o.dst.toList++(match o.guard with
  | some (j,_)=>((ops[j]?).bind (·.dst)).toList
  | none=>[])
def I7 (ops:Array Oper) (i:Nat):Nat:=((Region.linearise .gc ops 0).idxOf? i).getD ops.size
def CM (ops:Array Oper):Bool:=
 let b:=Region.before ops
 let k:=G3 b ops.size
 let pre:=(ops.toList.take k).zipIdx
 let rk:=(Aax ops.size).map (I7 ops)
 -- each of the BO lists every operation
 (ops.toList.zipIdx.all fun (o,i)=>o.after.all fun e=>(!Aav .text e || decide (e.on < i)) && (!Aav .gc e || decide (rk.getD e.on 0 < rk.getD i 0) && decide (e.on < ops.size))) &&
 (pre.all fun (o,i)=>HE C o && o.dst.isSome &&
  (pre.all fun (o',j)=>i == j ||
   -- what i names and j writes: one waits for the other
   (match o'.dst with
    | some d=>!((names ops o).contains d) || (decide (j < i) && (b.getD i 0).testBit j) || (decide (i < j) && (b.getD j 0).testBit i)
    | none=>true)) &&
  (match o.guard with
   | none=>true
   | some (j,_)=>decide (j < i) && (b.getD i 0).testBit j))
def Fa (n:Nat):Code->Bool
 | .region _ ops draw=>dstOK n ops && (!draw || CM C ops)
 | .seq a b=>Fa n a && Fa n b
 | .cond _ a b=>Fa n a && Fa n b
 | .block _ b=>Fa n b
 | .loop b=>Fa n b
 | _=>true
def Be (fn:Func) (c:Code):Bool:=Fa C fn.ntmps c && fn.name != "runtime.NumGoroutine"
def edgesOK (ops:Array Oper):Bool:=
 ops.toList.zipIdx.all fun (o,i)=>o.after.all fun e=>(!Aav .text e || decide (e.on < i)) && (!Aav .gc e || decide (((Aax ops.size).map (I7 ops)).getD e.on 0 < ((Aax ops.size).map (I7 ops)).getD i 0) && decide (e.on < ops.size))
def Ki (ops:Array Oper) (acc:List Nat) (i:Nat):Bool:=!acc.contains i && (match ops[i]? with
 | some o=>o.after.toList.all fun e=>!Aav .any e || acc.contains e.on
 | none=>false)
def Df (ops:Array Oper):Nat->List Nat->List (List Nat)
 | 0,acc=>[acc.reverse]
 | k+1,acc=>(Aax ops.size).flatMap fun i=>if Ki ops acc i then Df ops k (i :: acc) else []
def BO (ops:Array Oper):List (List Nat):=Df ops ops.size []
def AR (ops:Array Oper) (l:List Nat):List Oper:=l.filterMap fun i=>ops[i]?
mutual
def PV.eqB:PV->PV->Bool
 | .top,.top=>true
 | .bool a,.bool b=>a == b
 | .int k a,.int k' b=>decide (k=k') && decide (a=b)
 | .str a,.str b=>decide (a=b)
 | .nils,.nils=>true
 | .sl a,.sl b=>Ln a b
 | .osl e a,.osl e' b=>decide (e=e') && Ln a b
 | .ip a,.ip b=>Ln a b
 | .bp i o,.bp i' o'=>decide (i=i') && decide (o=o')
 | .nilp,.nilp=>true
 | .fn f a b,.fn f' a' b'=>decide (f=f') && Ln a a' && Ln b b'
 | .nilf,.nilf=>true
 | .iface t v,.iface t' v'=>decide (t=t') && PV.eqB v v'
 | .nili,.nili=>true
 | .agg a,.agg b=>Ln a b
 | .tup a,.tup b=>Ln a b
 | _,_=>false
def Ln:List PV->List PV->Bool
 | [],[]=>true
 | x :: xs,y :: ys=>PV.eqB x y && Ln xs ys
 | _,_=>false
end
mutual
theorem eqB_eq:∀ (x y:PV),PV.eqB x y=true->x=y
 | .top,y,h=>by cases y <;> simp [PV.eqB] at h |-
 | .bool a,y,h=>by cases y <;> simp [PV.eqB] at h |-;exact h
 | .int k a,y,h=>by cases y <;> simp [PV.eqB] at h |-;exact h
 | .str a,y,h=>by cases y <;> simp [PV.eqB] at h |-;exact h
 | .nils,y,h=>by cases y <;> simp [PV.eqB] at h |-
 | .sl a,y,h=>by cases y <;> simp [PV.eqB] at h |-;exact Ge _ _ h
 | .osl e a,y,h=>by cases y <;> simp [PV.eqB] at h |-;exact ⟨h.1,Ge _ _ h.2⟩
 | .ip a,y,h=>by cases y <;> simp [PV.eqB] at h |-;exact Ge _ _ h
 | .bp i o,y,h=>by cases y <;> simp [PV.eqB] at h |-;exact h
 | .nilp,y,h=>by cases y <;> simp [PV.eqB] at h |-
 | .fn f a b,y,h=>by cases y <;> simp [PV.eqB] at h |-;exact ⟨h.1.1,Ge _ _ h.1.2,Ge _ _ h.2⟩
 | .nilf,y,h=>by cases y <;> simp [PV.eqB] at h |-
 | .iface t v,y,h=>by cases y <;> simp [PV.eqB] at h |-;exact ⟨h.1,eqB_eq _ _ h.2⟩
 | .nili,y,h=>by cases y <;> simp [PV.eqB] at h |-
 | .agg a,y,h=>by cases y <;> simp [PV.eqB] at h |-;exact Ge _ _ h
 | .tup a,y,h=>by cases y <;> simp [PV.eqB] at h |-;exact Ge _ _ h
theorem Ge:∀ (x y:List PV),Ln x y=true->x=y
 | [],[],_=>rfl
 | [],_ :: _,h=>by simp [Ln] at h
 | _ :: _,[],h=>by simp [Ln] at h
 | x :: xs,y :: ys,h=>by
  simp only [Ln,Aaw] at h;rw [eqB_eq x y h.1,Ge xs ys h.2]
end
mutual
theorem eqB_self:∀ x:PV,PV.eqB x x=true
 | .top=>rfl
 | .bool a=>by simp [PV.eqB]
 | .int k a=>by simp [PV.eqB]
 | .str a=>by simp [PV.eqB]
 | .nils=>rfl
 | .sl a=>by simp [PV.eqB,DX a]
 | .osl e a=>by simp [PV.eqB,DX a]
 | .ip a=>by simp [PV.eqB,DX a]
 | .bp i o=>by simp [PV.eqB]
 | .nilp=>rfl
 | .fn f a b=>by simp [PV.eqB,DX a,DX b]
 | .nilf=>rfl
 | .iface t v=>by simp [PV.eqB,eqB_self v]
 | .nili=>rfl
 | .agg a=>by simp [PV.eqB,DX a]
 | .tup a=>by simp [PV.eqB,DX a]
theorem DX:∀ x:List PV,Ln x x=true
 | []=>rfl
 | x :: xs=>by simp [Ln,eqB_self x,DX xs]
end
def PBox.eqB:PBox->PBox->Bool
 | .cells t a,.cells t' b=>decide (t=t') && Ln a b
 | .iter s p,.iter s' p'=>decide (s=s') && decide (p=p')
 | _,_=>false
theorem PBox.eqB_eq (x y:PBox) (h:PBox.eqB x y=true):x=y:=by
 cases x <;> cases y <;> simp [PBox.eqB] at h |-
 · exact ⟨h.1,Ge _ _ h.2⟩
 · exact h
theorem PBox.eqB_self (x:PBox):PBox.eqB x x=true:=by cases x <;> simp [PBox.eqB,DX]
def XO:List PBox->List PBox->Bool
 | [],[]=>true
 | x :: xs,y :: ys=>PBox.eqB x y && XO xs ys
 | _,_=>false
theorem cQ:∀ (x y:List PBox),XO x y=true->x=y
 | [],[],_=>rfl
 | [],_ :: _,h=>by simp [XO] at h
 | _ :: _,[],h=>by simp [XO] at h
 | x :: xs,y :: ys,h=>by
  simp only [XO,Aaw] at h;rw [PBox.eqB_eq x y h.1,cQ xs ys h.2]
theorem UO:∀ x:List PBox,XO x x=true
 | []=>rfl
 | x :: xs=>by simp [XO,PBox.eqB_self x,UO xs]
def wk:Ex->Ex->Bool
 | .normal,.normal=>true
 | .exit i,.exit j=>decide (i=j)
 | .ret,.ret=>true
 | .pan v,.pan v'=>PV.eqB v v'
 | _,_=>false
theorem sf (x y:Ex) (h:wk x y=true):x=y:=by
 cases x <;> cases y <;> simp [wk] at h |-
 · exact h
 · exact eqB_eq _ _ h
theorem iM (x:Ex):wk x x=true:=by cases x <;> simp [wk,eqB_self]
def swp (n i:Nat):Nat:=if i=n then n+1 else if i=n+1 then n else i
theorem QD (n i:Nat):swp n (swp n i)=i:=by
 unfold swp;by_cases a:i=n
 · rw [if_pos a,if_neg (by omega),if_pos rfl,a]
 · rw [if_neg a]
   by_cases b:i=n+1
   · rw [if_pos b,if_pos rfl,b]
   · rw [if_neg b,if_neg a,if_neg b]
theorem Z7 {n i:Nat} (h:i < n):swp n i=i:=by
 unfold swp;rw [if_neg (by omega),if_neg (by omega)]
theorem nT {n i:Nat} (h:i < n+2):swp n i < n+2:=by
 unfold swp;split
 · omega
 · split <;> omega
structure Eqv (n:Nat) (st st':St):Prop where
 len:st.bx.length=n+2
 len':st'.bx.length=n+2
 env:∀ t,((getT st.env t).under n=true/\getT st'.env t=getT st.env t)\/∃ id off,getT st.env t=.bp id off/\getT st'.env t=.bp (swp n id) off
 bx:∀ id b,st.bx[id]?=some b->b.under n=true/\st'.bx[swp n id]?=some b
def UP (x:Option (Ex×St)) (y:Ex×St):Bool:=match x with
 | some (e,st)=>wk e y.1 && Ln st.env y.2.env && XO st.bx y.2.bx
 | none=>false
theorem XP {x:Option (Ex×St)} {y:Ex×St} (h:UP x y=true):x=some y:=by
 unfold UP at h;split at h
 · rename_i e st
   simp only [Aaw] at h;obtain ⟨⟨h1,h2⟩,h3⟩:=h;obtain ⟨e',st'⟩:=y;obtain ⟨a,b⟩:=st;obtain ⟨a',b'⟩:=st';have:=sf _ _ h1;have:=Ge _ _ h2;have:=cQ _ _ h3
   simp_all
 · cases h
theorem QZ (y:Ex×St):UP (some y) y=true:=by unfold UP;simp [iM,DX,UO]
def DL (r:Option (Ex×St)):Option (Ex×St):=match r with
 | some (.pan v,st)=>some (.pan v,⟨[],st.bx⟩)
 | r=>r
noncomputable def eZ (n:Nat) (x:Option (Ex×St)) (y:Ex×St):Bool:=match x,y with
 | some (.normal,s),(.normal,s')=>@decide (Eqv n s s') (Aau _)
 | _,_=>false
theorem XQ {n:Nat} {x:Option (Ex×St)} {y:Ex×St} (h:eZ n x y=true):∃ s,x=some (.normal,s)/\y.1=.normal/\Eqv n s y.2:=by
 unfold eZ at h;split at h
 · exact ⟨_,rfl,rfl,@of_decide_eq_true _ (Aau _) h⟩
 · cases h
theorem cR {n:Nat} {s s':St} (h:Eqv n s s'):eZ n (some (.normal,s)) (.normal,s')=true:=by
 unfold eZ;exact @decide_eq_true _ (Aau _) h
noncomputable def drawAll (call:Cn) (ops:Array Oper) (st:St):Option (Ex×St):=
 match BO ops with
 | []=>none
 | l :: ls=>match DL (evOps C call false ops (AR ops l) [] st) with
  | some r=>if ls.all fun l'=>UP (DL (evOps C call false ops (AR ops l') [] st)) r || eZ st.bx.length (DL (evOps C call false ops (AR ops l') [] st)) r then some r else none
  | none=>none
noncomputable def G4 (call:Cn) (ops:Array Oper) (st:St):Option (Ex×St):=if CM C ops then evOps C call true ops ops.toList [] st else drawAll C call ops st
def Eh (n:Nat):Code->Bool
 | .region _ ops draw=>dstOK n ops && (!draw || CM C ops || edgesOK ops)
 | .seq a b=>Eh n a && Eh n b
 | .cond _ a b=>Eh n a && Eh n b
 | .block _ b=>Eh n b
 | .loop b=>Eh n b
 | _=>true
def JG (fn:Func) (c:Code):Bool:=Eh C fn.ntmps c && fn.name != "runtime.NumGoroutine"
def nU (fn:Func):Option (Ex×St)->Option (CR×List PBox)
 | some (.pan v,st)=>some (.pan v,st.bx)
 | some (.exit _,_)=>none
 | some (_,st)=>match Cp C st fn.results.toList with
  | some vs=>some (.ret (Iq vs),st.bx)
  | none=>none
 | none=>none
def GC (ev evb:Code->St->Option (Ex×St)):Cn:=fun f args bx=>
 match C.prim f with
 | some g=>if Ak args then (g args).map fun r=>(.ret r,bx) else none
 | none=>match C.P.funcs[f]? with
  | none=>none
  | some fn=>match fn.body with
   | none=>none
   | some c=>
    if Be C fn c && decide (args.length<=fn.ntmps) then nU C fn (ev c ⟨args,bx⟩)
    else if JG C fn c && decide (args.length<=fn.ntmps) then nU C fn (evb c ⟨args,bx⟩)
    else none
def Ev (k:Cat) (ev:Code->St->Option (Ex×St)) (args:List PV) (bx:List PBox):Option (CR×List PBox):=
 match k.pre args bx with
 | some st=>match ev k.code st with
  | some r=>k.post r
  | none=>none
 | none=>none
def Ep (ev evb:Code->St->Option (Ex×St)):Cn:=fun f args bx=>
 match C.hprim f with
 | some g=>(g args bx).map fun r=>(if r.1 then .pan r.2.1 else .ret r.2.1,r.2.2)
 | none=>match C.cat f with
  | some k=>Ev k ev args bx
  | none=>GC C ev evb f args bx
noncomputable def BW:Nat->Bool->Code->St->Option (Ex×St)
 | 0,_,_,_=>none
 | n+1,br,c,st=>
  match c with
  | .skip=>some (.normal,st)
  | .label _=>some (.normal,st)
  | .region _ ops draw=>if br && draw then G4 C (Ep C (BW n false) (BW n true)) ops st else evOps C (Ep C (BW n false) (BW n true)) draw ops ops.toList [] st
  | .seq a b=>match BW n br a st with
   | some (.normal,st')=>BW n br b st'
   | r=>r
  | .cond c a b=>match opd C st.env c with
   | .bool t=>BW n br (if t then a else b) st
   | _=>none
  | .block id b=>match BW n br b st with
   | some (.exit id',st')=>if id'=id then some (.normal,st') else some (.exit id',st')
   | r=>r
  | .loop b=>match BW n br b st with
   | some (.normal,st')=>BW n br (.loop b) st'
   | r=>r
  | .exit id=>some (.exit id,st)
  | .ret=>some (.ret,st)
  | _=>none
noncomputable def Fb (n:Nat):Cn:=Ep C (BW C n false) (BW C n true)
end Go.HH
