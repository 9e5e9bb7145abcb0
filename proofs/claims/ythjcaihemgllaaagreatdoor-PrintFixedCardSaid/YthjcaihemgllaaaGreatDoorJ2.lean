/-
  What the law needs, packed: Eval.
-/
import Derived.Test.YthjcaihemgllaaaGreatDoorJ1
open Classical renaming propDecidable->Aa0
open Go.Region renaming binds->Aa1
open Bool renaming and_eq_true->Aa2
open List renaming range->Aa3
open Go.Utf8 renaming decode->Aa4
namespace Go.HH
open Go
variable (C:Cfg)
mutual
def PV.under (n:Nat):PV->Bool
 | .top=>false
 | .bp id _=>decide (id < n)
 | .sl xs=>Ar n xs
 | .osl _ xs=>Ar n xs
 | .ip cs=>Ar n cs
 | .fn _ a b=>Ar n a && Ar n b
 | .iface _ v=>v.under n
 | .agg cs=>Ar n cs
 | .tup vs=>Ar n vs
 | _=>true
def Ar (n:Nat):List PV->Bool
 | []=>true
 | v :: r=>v.under n && Ar n r
end
def PBox.under (n:Nat):PBox->Bool
 | .cells _ cs=>Ar n cs
 | .iter _ _=>true
def CR.under (n:Nat):CR->Bool
 | .ret v=>v.under n
 | .pan v=>v.under n
def St.put (st:St) (d:Option Tmp) (v:PV):St:=
 match d with
 | some d=>{ st with env:=setT st.env d v }
 | none=>st
def GA (ops:Array Oper) (e:List PV) (o:Oper):Option Bool:=
 match o.guard with
 | none=>some true
 | some (j,want)=>match (ops[j]?).bind (·.dst) with
  | some d=>match getT e d with
   | .bool b=>some (b == want)
   | .tup _=>some false
   | _=>none
  | none=>none
def Ak (al:List (Nat×Loc)) (d:Option Tmp):List (Nat×Loc):=
 match d with
 | some d=>al.filter fun p=>p.1 != d && p.2 != .tmp d
 | none=>al
inductive OpR where
 | next (st:St) (al:List (Nat×Loc))
 | pan (v:PV) (st:St)
def Fb (st:St):Loc->PV
 | .tmp t=>getT st.env t
 | .box id off=>match A0 st.bx id with
  | some cs=>cs.getD off und
  | none=>und
def QM (bx:List PBox) (id off:Nat) (v:PV):List PBox:=
 match bx[id]? with
 | some (.cells t cs)=>bx.set id (.cells t (cs.set off v))
 | _=>bx
def FW (st:St) (l:Loc) (v:PV):St:=
 match l with
 | .tmp t=>{ st with env:=setT st.env t v }
 | .box id off=>{ st with bx:=QM st.bx id off v }
def origin (st:St):Op->Option Loc
 | .move (.tmp t)=>match getT st.env t with
  | .osl _ _=>some (.tmp t)
  | _=>none
 | .load t a=>match C.P.underlying t with
  | some (.slice _)=>match opd C st.env a with
   | .bp id off=>match Fb st (.box id off) with
    | .osl _ _=>some (.box id off)
    | _=>none
   | _=>none
  | _=>none
 | _=>none
def D9 (st:St) (x:Operand) (t:TypeId):PV×St:=
 match x with
 | .tmp i=>match getT st.env i with
  | .osl e xs=>(.osl e xs,{ st with env:=setT st.env i (.sl xs) })
  | v=>(v,st)
 | .const (.slice none 0 0)=>match C.P.underlying t with
  | some (.slice e)=>if (C.P.info? e).isSome then (.osl e [],st) else (.nils,st)
  | _=>(.nils,st)
 | x=>(opd C st.env x,st)
def Gc:Nat:=140737488355328
def CZ (st:St) (al:List (Nat×Loc)) (e:TypeId) (x:Operand):Option (Option Loc×List PV):=
 match raw C st.env x with
 | .nils=>some (none,[])
 | .osl e' xs=>if e'=e then (match x with
  | .tmp t=>some (some (.tmp t),xs)
  | _=>none) else none
 | .sl _=>match x with
  | .tmp t=>match al.find? (fun p=>p.1 == t) with
   | some (_,l)=>match Fb st l with
    | .osl e' xs=>if e'=e then some (some l,xs) else none
    | _=>none
   | none=>none
  | _=>none
 | _=>none
def Gd (a:Bool) (size:Nat) (v:PV):Option PV:=
 match v.shutV with
 | .agg cs=>if a && cs.length == size then some (.agg cs) else none
 | v=>if !a && v.one && size == 1 then some v else none
def J' (e:TypeId) (size:Nat) (t:TypeId) (x:PV):Option (List PV):=
 match C.P.underlying t,x with
 | some (.slice _),x=>CJ x
 | some .string,.str s=>match C.P.underlying e with
  | some (.int .u8)=>if size=1 then some (s.map fun b=>.int .u8 b.toNat) else none
  | _=>none
 | _,_=>none
def Mx (st:St) (l:Option Loc) (xs:List PV):St:=
 match l with
 | some l=>FW st l (.sl xs)
 | none=>st
def DT (st:St) (al:List (Nat×Loc)) (s x:Operand) (t0 t1:TypeId) (d:Option Tmp):Option OpR:=
 match C.P.underlying t0 with
 | some (.slice e)=>match C.P.info? e with
  | some i=>match CZ C st al e s,J' C e i.size t1 (opd C st.env x) with
   | some (l,xs),some ys=>
    if i.size=0\/i.zero.isNone\/Gc < (xs.length+ys.length) * i.bytes\/Gc < xs.length+ys.length\/(ys.all fun y=>y.cells.length == i.size)=false\/((i.zero.map Value.cells).map Array.size)≠some i.size then none
    else
     some (.next ((Mx st l xs).put d (.osl e (xs++ys))) (Ak al d))
   | _,_=>none
  | none=>none
 | _=>none
def K3 (st:St) (al:List (Nat×Loc)) (args:Array Operand) (argTypes:Array TypeId) (d:Option Tmp):Option OpR:=
 match args.toList,argTypes.toList with
 | [s,x],[t0,t1]=>DT C st al s x t0 t1 d
 | _,_=>none
def AZ (t:TypeId) (len:Nat) (parts:List (Nat×PV)):Option PV:=
 match C.P.underlying t with
 | some (.slice e)=>match C.P.info? e,tZero C e with
  | some i,some z=>
   if i.size=0\/2 ^ 24 < len * i.size\/z.cells.length≠i.size\/z.val=false then none else
   match parts.foldlM (fun (l:List PV) (p:Nat×PV)=>
    match Gd (tAgg C e) i.size p.2 with
    | some v=>if p.1 < len then some (l.set p.1 v) else none
    | none=>none) (List.replicate len z) with
   | some xs=>some (.osl e xs)
   | none=>none
  | _,_=>none
 | _=>none
def FX (t:TypeId) (l c:PV):Option PV:=
 match l,c with
 | .int _ n,.int _ m=>
  if n=m/\0<=n/\n<=16777216 then
   match C.P.underlying t with
   | some (.slice e)=>match C.P.info? e with
    | some i=>if i.bytes<=1000000 then AZ C t n.toNat [] else none
    | none=>none
   | _=>none
  else none
 | _,_=>none
abbrev Cl:=FuncId->List PV->List PBox->Option (CR×List PBox)
def Es (n:Nat) (r:CR) (bx:List PBox):List PBox:=
 if r.under n && (bx.take n).all (·.under n) then bx.take n else bx
def Ai (call:Cl) (f:FuncId) (args:List PV) (bx:List PBox):Option (CR×List PBox):=
 if C.heap f || !(Al args) then
  match call f args bx with
  | some (r,bx')=>some (r,Es bx.length r bx')
  | none=>none
 else
  match call f args [] with
  | some (.ret r,_)=>if r.pure then some (.ret r,bx) else none
  | _=>none
def BK (bx:List PBox) (id off:Nat) (vs:List PV):Option (List PBox):=
 match bx[id]? with
 | some (.cells t cs)=>if off+vs.length<=cs.length/\vs.all PV.one then some (bx.set id (.cells t (lay cs off vs))) else none
 | _=>none
def laid:PV->List PV
 | .osl e xs=>[.osl e xs]
 | v=>v.cells.map PV.ro
def K4 (e:List PV) (c:Call):Option (FuncId×List PV):=
 match c.callee with
 | .value f=>match opd C e f with
  | .fn k first captured=>some (k,first.map PV.shutV++c.args.toList.map (fun x=>(opd C e x).shutV)++captured.map PV.shutV)
  | _=>none
 | _=>none
def VI:Operand->Bool
 | .func _=>true
 | _=>false
def Dr (k:FuncId) (vs:List PV) (al:List (Nat×Loc)):List (Nat×Loc):=
 if C.heap k || !(Al vs) then al.filter (fun p=>p.2 matches .tmp _) else al
def Fc (op:Op) (e:List PV) (d:Option Tmp):List (Nat×Loc):=
 match op,d with
 | .move (.tmp t),some d=>(match getT e t with
  | .osl _ _=>if t=d then [] else [(d,.tmp t)]
  | _=>[])
 | _,_=>[]
def Gv (draw:Bool) (st:St) (op:Op) (d:Option Tmp) (al:List (Nat×Loc)):List (Nat×Loc):=
 if draw then Fc op st.env d++Ak al d else
 match origin C st op,d with
 | some l,some d=>if l=.tmp d then Ak al (some d) else (d,l) :: Ak al (some d)
 | _,d=>Ak al d
def AN (t:TypeId):Bool:=match C.P.underlying t with
 | some (.slice _)=>false
 | _=>true
def CK:List (Nat×Loc)->Option Nat
 | []=>none
 | (_,.tmp _) :: r=>CK r
 | (_,.box id _) :: r=>match CK r with
  | some m=>some (min id m)
  | none=>some id
def cutAt (k:FuncId) (vs:List PV) (al:List (Nat×Loc)) (bx:List PBox):Option Nat:=
 match CK al with
 | none=>none
 | some m=>if (C.heap k || !(Al vs)) && (Ar m vs && (bx.take m).all (·.under m)) then some m else none
def AP (t:TypeId):Bool:=match C.P.underlying t with
 | some (.pointer _)=>true
 | _=>false
def ic (tys:Array TypeId):Bool:=tys.toList.any (AP C)
def cb:Operand->Bool
 | .func _=>true
 | _=>false
def JK (f:Operand) (tys:Array TypeId) (k:FuncId) (vs:List PV) (al:List (Nat×Loc)) (bx:List PBox):Option Nat:=if cb f && ic C tys then cutAt C k vs al bx else none
def Bp (call:Cl) (draw:Bool) (al:List (Nat×Loc)) (o:Oper) (st:St):Option OpR:=
 match o.op with
 | .assign x=>if draw && AN C o.type then some (.next (st.put o.dst (opd C st.env x)) (Ak al o.dst)) else
  let (v,st1):=D9 C st x o.type
  some (.next (st1.put o.dst v) (Ak (match x with | .tmp i=>Ak al (some i) | _=>al) o.dst))
 | .alloc t=>match tZero C t with
  | some z=>if (z.cells.map PV.ro).all PV.one then some (.next ((St.mk st.env (st.bx++[.cells t (z.cells.map PV.ro)])).put o.dst (.bp st.bx.length 0)) (Ak al o.dst)) else none
  | none=>none
 | .box t x=>let v:=opd C st.env x
  if (v.cells.map PV.ro).all PV.one then some (.next ((St.mk st.env (st.bx++[.cells t (v.cells.map PV.ro)])).put o.dst (.bp st.bx.length 0)) (Ak al o.dst)) else none
 | .store t a x=>match opd C st.env a with
  | .bp id off=>
   let (v,st1):=D9 C st x t
   if tSize C t=some (laid v).length then
    match BK st1.bx id off (laid v) with
    | some bx=>some (.next ((St.mk st1.env bx).put o.dst und) (Ak (al.filter fun p=>(match p.2 with | .box i _=>i != id | .tmp i=>(match x with | .tmp j=>i != j | _=>true))) o.dst))
    | none=>none
   else none
  | _=>none
 | .buildSlice t len parts=>match AZ C t len (parts.toList.map fun p=>(p.1,opd C st.env p.2)) with
  | some v=>some (.next (st.put o.dst v) (Ak al o.dst))
  | none=>none
 | .makeSlice t l c=>match FX C t (opd C st.env l) (opd C st.env c) with
  | some v=>some (.next (st.put o.dst v) (Ak al o.dst))
  | none=>none
 | .range t x=>match C.P.underlying t,opd C st.env x with
  | some .string,.str s=>some (.next ((St.mk st.env (st.bx++[.iter s 0])).put o.dst (.bp st.bx.length 0)) (Ak al o.dst))
  | _,_=>none
 | .next x true=>match opd C st.env x with
  | .bp id 0=>match st.bx[id]? with
   | some (.iter s pos)=>
    if pos < s.length then
     some (.next ((St.mk st.env (st.bx.set id (.iter s (pos+(Aa4 ⟨s.toArray⟩ pos).2)))).put o.dst (.tup [.bool true,.int .i64 pos,.int .i32 (Aa4 ⟨s.toArray⟩ pos).1])) (Ak al o.dst))
    else some (.next (st.put o.dst (.tup [.bool false])) (Ak al o.dst))
   | _=>none
  | _=>none
 | .panic x=>match opd C st.env x with
  | .iface t v=>some (.pan (.iface t v) st)
  | _=>none
 | .call { callee:=.builtin .append,args,argTypes }=>K3 C st al args argTypes o.dst
 | .call { callee:=.value f,args,argTypes }=>
  match K4 C st.env { callee:=.value f,args,argTypes } with
  | some (k,vs)=>if (draw && VI f) && (C.heap k || !(Al vs)) then none else match JK C f argTypes k vs al st.bx with
   | some m=>match Ai C call k vs (st.bx.take m) with
    | some (.ret v,bx)=>if decide (bx.length=m) && (v.under m && bx.all (·.under m)) then some (.next ((St.mk st.env (bx++st.bx.drop m)).put o.dst v) (Ak al o.dst)) else none
    | some (.pan v,bx)=>if decide (bx.length=m) && (v.under m && bx.all (·.under m)) then some (.pan v { st with bx:=bx++st.bx.drop m }) else none
    | none=>none
   | none=>match Ai C call k vs st.bx with
    | some (.ret v,bx)=>some (.next ((St.mk st.env bx).put o.dst v) (Ak (Dr C k vs al) o.dst))
    | some (.pan v,bx)=>some (.pan v { st with bx })
    | none=>none
  | none=>none
 | op=>match B1 C st.bx st.env op with
  | some v=>some (.next (st.put o.dst v) (Gv C draw st op o.dst al))
  | none=>none
def evOps (call:Cl) (draw:Bool) (ops:Array Oper):List Oper->List (Nat×Loc)->St->Option (Ex×St)
 | [],_,st=>some (.normal,st)
 | o :: rest,al,st=>match GA ops st.env o with
  | none=>none
  | some false=>evOps call draw ops rest (Ak al o.dst) (st.put o.dst und)
  | some true=>match Bp C call draw al o st with
   | none=>none
   | some (.next st' al')=>evOps call draw ops rest al' st'
   | some (.pan v st')=>some (.pan v,st')
def Hz (st:St):ResultVar->Option PV
 | .tmp t=>some (opd C st.env (.tmp t)).shutV
 | .cell a t=>(GV C st.bx t (opd C st.env (.tmp a))).map PV.shutV
def Cn (st:St):List ResultVar->Option (List PV)
 | []=>some []
 | r :: rest=>match Hz C st r,Cn st rest with
  | some v,some vs=>some (v :: vs)
  | _,_=>none
def Ii:List PV->PV
 | [v]=>v
 | vs=>.tup vs
def dstOK (n:Nat) (ops:Array Oper):Bool:=ops.toList.all fun o=>match o.dst with
 | some d=>decide (d < n)
 | none=>true
def calm:Op->Bool
 | .move _ | .pick .. | .load .. | .nilCheck _ | .binOp .. | .unOp .. | .convert .. | .slice .. | .fieldAddr .. | .field .. | .indexAddr .. | .index ..
 | .extract .. | .build .. | .makeFunc .. | .buildSlice ..=>true
 | .call { callee:=.builtin .len,.. } | .call { callee:=.builtin .max,.. } | .call { callee:=.builtin .min,.. }=>true
 | .call { callee:=.value (.func f),argTypes,.. }=>!C.heap f && argTypes.toList.all fun t=>(match C.P.underlying t with
  | some (.pointer _)=>false
  | _=>true)
 | _=>false
def HA (o:Oper):Bool:=calm C o.op || (match o.op with
 | .assign _=>AN C o.type
 | _=>false)
def Qq (a b:Nat):Bool:=a &&& b == a
def GX (b:Array Nat):Nat->Nat
 | 0=>0
 | n+1=>if Qq (2 ^ n - 1) (b.getD n 0) then GX b n else n+1
def tmpsOf (o:Oper):List Tmp:=o.op.operands.toList.filterMap fun | .tmp t=>some t | _=>none
def names (ops:Array Oper) (o:Oper):List Tmp:=
 tmpsOf o++o.dst.toList++(match o.guard with
  | some (j,_)=>((ops[j]?).bind (·.dst)).toList
  | none=>[])
def IX (ops:Array Oper) (i:Nat):Nat:=((Region.linearise .gc ops 0).idxOf? i).getD ops.size
def CL (ops:Array Oper):Bool:=
 let b:=Region.before ops
 let k:=GX b ops.size
 let pre:=(ops.toList.take k).zipIdx
 let rk:=(Aa3 ops.size).map (IX ops)
 -- each of the BO lists every operation
 (ops.toList.zipIdx.all fun (o,i)=>o.after.all fun e=>(!Aa1 .text e || decide (e.on < i)) && (!Aa1 .gc e || decide (rk.getD e.on 0 < rk.getD i 0) && decide (e.on < ops.size))) &&
 (pre.all fun (o,i)=>HA C o && o.dst.isSome &&
  (pre.all fun (o',j)=>i == j ||
   -- what i names and j writes: one waits for the other
   (match o'.dst with
    | some d=>!((names ops o).contains d) || (decide (j < i) && (b.getD i 0).testBit j) || (decide (i < j) && (b.getD j 0).testBit i)
    | none=>true)) &&
  (match o.guard with
   | none=>true
   | some (j,_)=>decide (j < i) && (b.getD i 0).testBit j))
def Fe (n:Nat):Code->Bool
 | .region _ ops draw=>dstOK n ops && (!draw || CL C ops)
 | .seq a b=>Fe n a && Fe n b
 | .cond _ a b=>Fe n a && Fe n b
 | .block _ b=>Fe n b
 | .loop b=>Fe n b
 | _=>true
def Be (fn:Func) (c:Code):Bool:=Fe C fn.ntmps c && fn.name != "runtime.NumGoroutine"
def edgesOK (ops:Array Oper):Bool:=
 ops.toList.zipIdx.all fun (o,i)=>o.after.all fun e=>(!Aa1 .text e || decide (e.on < i)) && (!Aa1 .gc e || decide (((Aa3 ops.size).map (IX ops)).getD e.on 0 < ((Aa3 ops.size).map (IX ops)).getD i 0) && decide (e.on < ops.size))
def Ka (ops:Array Oper) (acc:List Nat) (i:Nat):Bool:=!acc.contains i && (match ops[i]? with
 | some o=>o.after.toList.all fun e=>!Aa1 .any e || acc.contains e.on
 | none=>false)
def Df (ops:Array Oper):Nat->List Nat->List (List Nat)
 | 0,acc=>[acc.reverse]
 | k+1,acc=>(Aa3 ops.size).flatMap fun i=>if Ka ops acc i then Df ops k (i :: acc) else []
def BO (ops:Array Oper):List (List Nat):=Df ops ops.size []
def AR (ops:Array Oper) (l:List Nat):List Oper:=l.filterMap fun i=>ops[i]?
mutual
def PV.eqB:PV->PV->Bool
 | .top,.top=>true
 | .bool a,.bool b=>a == b
 | .int k a,.int k' b=>decide (k=k') && decide (a=b)
 | .str a,.str b=>decide (a=b)
 | .nils,.nils=>true
 | .sl a,.sl b=>Lg a b
 | .osl e a,.osl e' b=>decide (e=e') && Lg a b
 | .ip a,.ip b=>Lg a b
 | .bp i o,.bp i' o'=>decide (i=i') && decide (o=o')
 | .nilp,.nilp=>true
 | .fn f a b,.fn f' a' b'=>decide (f=f') && Lg a a' && Lg b b'
 | .nilf,.nilf=>true
 | .iface t v,.iface t' v'=>decide (t=t') && PV.eqB v v'
 | .nili,.nili=>true
 | .agg a,.agg b=>Lg a b
 | .tup a,.tup b=>Lg a b
 | _,_=>false
def Lg:List PV->List PV->Bool
 | [],[]=>true
 | x :: xs,y :: ys=>PV.eqB x y && Lg xs ys
 | _,_=>false
end
mutual
theorem eqB_eq:∀ (x y:PV),PV.eqB x y=true->x=y
 | .top,y,h=>by cases y <;> simp [PV.eqB] at h |-
 | .bool a,y,h=>by cases y <;> simp [PV.eqB] at h |-;exact h
 | .int k a,y,h=>by cases y <;> simp [PV.eqB] at h |-;exact h
 | .str a,y,h=>by cases y <;> simp [PV.eqB] at h |-;exact h
 | .nils,y,h=>by cases y <;> simp [PV.eqB] at h |-
 | .sl a,y,h=>by cases y <;> simp [PV.eqB] at h |-;exact Ge _ _ h
 | .osl e a,y,h=>by cases y <;> simp [PV.eqB] at h |-;exact ⟨h.1,Ge _ _ h.2⟩
 | .ip a,y,h=>by cases y <;> simp [PV.eqB] at h |-;exact Ge _ _ h
 | .bp i o,y,h=>by cases y <;> simp [PV.eqB] at h |-;exact h
 | .nilp,y,h=>by cases y <;> simp [PV.eqB] at h |-
 | .fn f a b,y,h=>by cases y <;> simp [PV.eqB] at h |-;exact ⟨h.1.1,Ge _ _ h.1.2,Ge _ _ h.2⟩
 | .nilf,y,h=>by cases y <;> simp [PV.eqB] at h |-
 | .iface t v,y,h=>by cases y <;> simp [PV.eqB] at h |-;exact ⟨h.1,eqB_eq _ _ h.2⟩
 | .nili,y,h=>by cases y <;> simp [PV.eqB] at h |-
 | .agg a,y,h=>by cases y <;> simp [PV.eqB] at h |-;exact Ge _ _ h
 | .tup a,y,h=>by cases y <;> simp [PV.eqB] at h |-;exact Ge _ _ h
theorem Ge:∀ (x y:List PV),Lg x y=true->x=y
 | [],[],_=>rfl
 | [],_ :: _,h=>by simp [Lg] at h
 | _ :: _,[],h=>by simp [Lg] at h
 | x :: xs,y :: ys,h=>by
  simp only [Lg,Aa2] at h;rw [eqB_eq x y h.1,Ge xs ys h.2]
end
mutual
theorem eqB_self:∀ x:PV,PV.eqB x x=true
 | .top=>rfl
 | .bool a=>by simp [PV.eqB]
 | .int k a=>by simp [PV.eqB]
 | .str a=>by simp [PV.eqB]
 | .nils=>rfl
 | .sl a=>by simp [PV.eqB,DW a]
 | .osl e a=>by simp [PV.eqB,DW a]
 | .ip a=>by simp [PV.eqB,DW a]
 | .bp i o=>by simp [PV.eqB]
 | .nilp=>rfl
 | .fn f a b=>by simp [PV.eqB,DW a,DW b]
 | .nilf=>rfl
 | .iface t v=>by simp [PV.eqB,eqB_self v]
 | .nili=>rfl
 | .agg a=>by simp [PV.eqB,DW a]
 | .tup a=>by simp [PV.eqB,DW a]
theorem DW:∀ x:List PV,Lg x x=true
 | []=>rfl
 | x :: xs=>by simp [Lg,eqB_self x,DW xs]
end
def PBox.eqB:PBox->PBox->Bool
 | .cells t a,.cells t' b=>decide (t=t') && Lg a b
 | .iter s p,.iter s' p'=>decide (s=s') && decide (p=p')
 | _,_=>false
theorem PBox.eqB_eq (x y:PBox) (h:PBox.eqB x y=true):x=y:=by
 cases x <;> cases y <;> simp [PBox.eqB] at h |-
 · exact ⟨h.1,Ge _ _ h.2⟩
 · exact h
theorem PBox.eqB_self (x:PBox):PBox.eqB x x=true:=by cases x <;> simp [PBox.eqB,DW]
def Xz:List PBox->List PBox->Bool
 | [],[]=>true
 | x :: xs,y :: ys=>PBox.eqB x y && Xz xs ys
 | _,_=>false
theorem cc:∀ (x y:List PBox),Xz x y=true->x=y
 | [],[],_=>rfl
 | [],_ :: _,h=>by simp [Xz] at h
 | _ :: _,[],h=>by simp [Xz] at h
 | x :: xs,y :: ys,h=>by
  simp only [Xz,Aa2] at h;rw [PBox.eqB_eq x y h.1,cc xs ys h.2]
theorem UB:∀ x:List PBox,Xz x x=true
 | []=>rfl
 | x :: xs=>by simp [Xz,PBox.eqB_self x,UB xs]
def vD:Ex->Ex->Bool
 | .normal,.normal=>true
 | .exit i,.exit j=>decide (i=j)
 | .ret,.ret=>true
 | .pan v,.pan v'=>PV.eqB v v'
 | _,_=>false
theorem rA (x y:Ex) (h:vD x y=true):x=y:=by
 cases x <;> cases y <;> simp [vD] at h |-
 · exact h
 · exact eqB_eq _ _ h
theorem ig (x:Ex):vD x x=true:=by cases x <;> simp [vD,eqB_self]
def swp (n i:Nat):Nat:=if i=n then n+1 else if i=n+1 then n else i
theorem Qr (n i:Nat):swp n (swp n i)=i:=by
 unfold swp;by_cases a:i=n
 · rw [if_pos a,if_neg (by omega),if_pos rfl,a]
 · rw [if_neg a]
   by_cases b:i=n+1
   · rw [if_pos b,if_pos rfl,b]
   · rw [if_neg b,if_neg a,if_neg b]
theorem ZK {n i:Nat} (h:i < n):swp n i=i:=by
 unfold swp;rw [if_neg (by omega),if_neg (by omega)]
theorem nh {n i:Nat} (h:i < n+2):swp n i < n+2:=by
 unfold swp;split
 · omega
 · split <;> omega
structure Eqv (n:Nat) (st st':St):Prop where
 len:st.bx.length=n+2
 len':st'.bx.length=n+2
 env:∀ t,((getT st.env t).under n=true/\getT st'.env t=getT st.env t)\/∃ id off,getT st.env t=.bp id off/\getT st'.env t=.bp (swp n id) off
 bx:∀ id b,st.bx[id]?=some b->b.under n=true/\st'.bx[swp n id]?=some b
def UC (x:Option (Ex×St)) (y:Ex×St):Bool:=match x with
 | some (e,st)=>vD e y.1 && Lg st.env y.2.env && Xz st.bx y.2.bx
 | none=>false
theorem XA {x:Option (Ex×St)} {y:Ex×St} (h:UC x y=true):x=some y:=by
 unfold UC at h;split at h
 · rename_i e st
   simp only [Aa2] at h;obtain ⟨⟨h1,h2⟩,h3⟩:=h;obtain ⟨e',st'⟩:=y;obtain ⟨a,b⟩:=st;obtain ⟨a',b'⟩:=st';have:=rA _ _ h1;have:=Ge _ _ h2;have:=cc _ _ h3
   simp_all
 · cases h
theorem QN (y:Ex×St):UC (some y) y=true:=by unfold UC;simp [ig,DW,UB]
def DM (r:Option (Ex×St)):Option (Ex×St):=match r with
 | some (.pan v,st)=>some (.pan v,⟨[],st.bx⟩)
 | r=>r
noncomputable def eD (n:Nat) (x:Option (Ex×St)) (y:Ex×St):Bool:=match x,y with
 | some (.normal,s),(.normal,s')=>@decide (Eqv n s s') (Aa0 _)
 | _,_=>false
theorem XB {n:Nat} {x:Option (Ex×St)} {y:Ex×St} (h:eD n x y=true):∃ s,x=some (.normal,s)/\y.1=.normal/\Eqv n s y.2:=by
 unfold eD at h;split at h
 · exact ⟨_,rfl,rfl,@of_decide_eq_true _ (Aa0 _) h⟩
 · cases h
theorem cd {n:Nat} {s s':St} (h:Eqv n s s'):eD n (some (.normal,s)) (.normal,s')=true:=by
 unfold eD;exact @decide_eq_true _ (Aa0 _) h
noncomputable def drawAll (call:Cl) (ops:Array Oper) (st:St):Option (Ex×St):=
 match BO ops with
 | []=>none
 | l :: ls=>match DM (evOps C call false ops (AR ops l) [] st) with
  | some r=>if ls.all fun l'=>UC (DM (evOps C call false ops (AR ops l') [] st)) r || eD st.bx.length (DM (evOps C call false ops (AR ops l') [] st)) r then some r else none
  | none=>none
noncomputable def GY (call:Cl) (ops:Array Oper) (st:St):Option (Ex×St):=if CL C ops then evOps C call true ops ops.toList [] st else drawAll C call ops st
def Eg (n:Nat):Code->Bool
 | .region _ ops draw=>dstOK n ops && (!draw || CL C ops || edgesOK ops)
 | .seq a b=>Eg n a && Eg n b
 | .cond _ a b=>Eg n a && Eg n b
 | .block _ b=>Eg n b
 | .loop b=>Eg n b
 | _=>true
def Jy (fn:Func) (c:Code):Bool:=Eg C fn.ntmps c && fn.name != "runtime.NumGoroutine"
def ni (fn:Func):Option (Ex×St)->Option (CR×List PBox)
 | some (.pan v,st)=>some (.pan v,st.bx)
 | some (.exit _,_)=>none
 | some (_,st)=>match Cn C st fn.results.toList with
  | some vs=>some (.ret (Ii vs),st.bx)
  | none=>none
 | none=>none
def GB (ev evb:Code->St->Option (Ex×St)):Cl:=fun f args bx=>
 match C.prim f with
 | some g=>if Al args then (g args).map fun r=>(.ret r,bx) else none
 | none=>match C.P.funcs[f]? with
  | none=>none
  | some fn=>match fn.body with
   | none=>none
   | some c=>
    if Be C fn c && decide (args.length<=fn.ntmps) then ni C fn (ev c ⟨args,bx⟩)
    else if Jy C fn c && decide (args.length<=fn.ntmps) then ni C fn (evb c ⟨args,bx⟩)
    else none
def Et (k:Cat) (ev:Code->St->Option (Ex×St)) (args:List PV) (bx:List PBox):Option (CR×List PBox):=
 match k.pre args bx with
 | some st=>match ev k.code st with
  | some r=>k.post r
  | none=>none
 | none=>none
def En (ev evb:Code->St->Option (Ex×St)):Cl:=fun f args bx=>
 match C.hprim f with
 | some g=>(g args bx).map fun r=>(if r.1 then .pan r.2.1 else .ret r.2.1,r.2.2)
 | none=>match C.cat f with
  | some k=>Et k ev args bx
  | none=>GB C ev evb f args bx
noncomputable def BY:Nat->Bool->Code->St->Option (Ex×St)
 | 0,_,_,_=>none
 | n+1,br,c,st=>
  match c with
  | .skip=>some (.normal,st)
  | .label _=>some (.normal,st)
  | .region _ ops draw=>if br && draw then GY C (En C (BY n false) (BY n true)) ops st else evOps C (En C (BY n false) (BY n true)) draw ops ops.toList [] st
  | .seq a b=>match BY n br a st with
   | some (.normal,st')=>BY n br b st'
   | r=>r
  | .cond c a b=>match opd C st.env c with
   | .bool t=>BY n br (if t then a else b) st
   | _=>none
  | .block id b=>match BY n br b st with
   | some (.exit id',st')=>if id'=id then some (.normal,st') else some (.exit id',st')
   | r=>r
  | .loop b=>match BY n br b st with
   | some (.normal,st')=>BY n br (.loop b) st'
   | r=>r
  | .exit id=>some (.exit id,st)
  | .ret=>some (.ret,st)
  | _=>none
noncomputable def Ff (n:Nat):Cl:=En C (BY C n false) (BY C n true)
end Go.HH
