/-
  What the law needs, packed: Eval.
-/
import Derived.Test.YthjabmlbmnadjaaGreatJ1
open Go.Region renaming binds->yW
open Bool renaming and_eq_true->yX
open List renaming range->yY
open Go.Utf8 renaming decode->yZ
namespace Go.HH
open Go
variable (C:Cfg)
mutual
def PV.under (n:Nat):PV->Bool
 | .top=>false
 | .bp id _=>decide (id < n)
 | .sl xs=>Au n xs
 | .osl _ xs=>Au n xs
 | .ip cs=>Au n cs
 | .fn _ a b=>Au n a && Au n b
 | .iface _ v=>v.under n
 | .agg cs=>Au n cs
 | .tup vs=>Au n vs
 | _=>true
def Au (n:Nat):List PV->Bool
 | []=>true
 | v :: r=>v.under n && Au n r
end
def PBox.under (n:Nat):PBox->Bool
 | .cells _ cs=>Au n cs
 | .iter _ _=>true
def CR.under (n:Nat):CR->Bool
 | .ret v=>v.under n
 | .pan v=>v.under n
def St.put (st:St) (d:Option Tmp) (v:PV):St:=
 match d with
 | some d=>{ st with env:=setT st.env d v }
 | none=>st
def Is (ops:Array Oper) (e:List PV) (o:Oper):Option Bool:=
 match o.guard with
 | none=>some true
 | some (j,want)=>match (ops[j]?).bind (·.dst) with
  | some d=>match getT e d with
   | .bool b=>some (b == want)
   | .tup _=>some false
   | _=>none
  | none=>none
def Ap (al:List (Nat×Loc)) (d:Option Tmp):List (Nat×Loc):=
 match d with
 | some d=>al.filter fun p=>p.1 != d && p.2 != .tmp d
 | none=>al
inductive OpR where
 | next (st:St) (al:List (Nat×Loc))
 | pan (v:PV) (st:St)
def FZ (st:St):Loc->PV
 | .tmp t=>getT st.env t
 | .box id off=>match Bg st.bx id with
  | some cs=>cs.getD off und
  | none=>und
def RT (bx:List PBox) (id off:Nat) (v:PV):List PBox:=
 match bx[id]? with
 | some (.cells t cs)=>bx.set id (.cells t (cs.set off v))
 | _=>bx
def Gx (st:St) (l:Loc) (v:PV):St:=
 match l with
 | .tmp t=>{ st with env:=setT st.env t v }
 | .box id off=>{ st with bx:=RT st.bx id off v }
def origin (st:St):Op->Option Loc
 | .move (.tmp t)=>match getT st.env t with
  | .osl _ _=>some (.tmp t)
  | _=>none
 | .load t a=>match C.P.underlying t with
  | some (.slice _)=>match opd C st.env a with
   | .bp id off=>match FZ st (.box id off) with
    | .osl _ _=>some (.box id off)
    | _=>none
   | _=>none
  | _=>none
 | _=>none
def EV (st:St) (x:Operand) (t:TypeId):PV×St:=
 match x with
 | .tmp i=>match getT st.env i with
  | .osl e xs=>(.osl e xs,{ st with env:=setT st.env i (.sl xs) })
  | v=>(v,st)
 | .const (.slice none 0 0)=>match C.P.underlying t with
  | some (.slice e)=>if (C.P.info? e).isSome then (.osl e [],st) else (.nils,st)
  | _=>(.nils,st)
 | x=>(opd C st.env x,st)
def It:Nat:=140737488355328
def DV (st:St) (al:List (Nat×Loc)) (e:TypeId) (x:Operand):Option (Option Loc×List PV):=
 match raw C st.env x with
 | .nils=>some (none,[])
 | .osl e' xs=>if e'=e then (match x with
  | .tmp t=>some (some (.tmp t),xs)
  | _=>none) else none
 | .sl _=>match x with
  | .tmp t=>match al.find? (fun p=>p.1 == t) with
   | some (_,l)=>match FZ st l with
    | .osl e' xs=>if e'=e then some (some l,xs) else none
    | _=>none
   | none=>none
  | _=>none
 | _=>none
def JI (a:Bool) (size:Nat) (v:PV):Option PV:=
 match v.shutV with
 | .agg cs=>if a && cs.length == size then some (.agg cs) else none
 | v=>if !a && v.one && size == 1 then some v else none
def N9 (e:TypeId) (size:Nat) (t:TypeId) (x:PV):Option (List PV):=
 match C.P.underlying t,x with
 | some (.slice _),x=>Di x
 | some .string,.str s=>match C.P.underlying e with
  | some (.int .u8)=>if size=1 then some (s.map fun b=>.int .u8 b.toNat) else none
  | _=>none
 | _,_=>none
def Qd (st:St) (l:Option Loc) (xs:List PV):St:=
 match l with
 | some l=>Gx st l (.sl xs)
 | none=>st
def EW (st:St) (al:List (Nat×Loc)) (s x:Operand) (t0 t1:TypeId) (d:Option Tmp):Option OpR:=
 match C.P.underlying t0 with
 | some (.slice e)=>match C.P.info? e with
  | some i=>match DV C st al e s,N9 C e i.size t1 (opd C st.env x) with
   | some (l,xs),some ys=>
    if i.size=0\/i.zero.isNone\/It < (xs.length+ys.length) * i.bytes\/It < xs.length+ys.length\/(ys.all fun y=>y.cells.length == i.size)=false\/((i.zero.map Value.cells).map Array.size)≠some i.size then none
    else
     some (.next ((Qd st l xs).put d (.osl e (xs++ys))) (Ap al d))
   | _,_=>none
  | none=>none
 | _=>none
def L1 (st:St) (al:List (Nat×Loc)) (args:Array Operand) (argTypes:Array TypeId) (d:Option Tmp):Option OpR:=
 match args.toList,argTypes.toList with
 | [s,x],[t0,t1]=>EW C st al s x t0 t1 d
 | _,_=>none
def AW (t:TypeId) (len:Nat) (parts:List (Nat×PV)):Option PV:=
 match C.P.underlying t with
 | some (.slice e)=>match C.P.info? e,tZero C e with
  | some i,some z=>
   if i.size=0\/2 ^ 24 < len * i.size\/z.cells.length≠i.size\/z.val=false then none else
   match parts.foldlM (fun (l:List PV) (p:Nat×PV)=>
    match JI (tAgg C e) i.size p.2 with
    | some v=>if p.1 < len then some (l.set p.1 v) else none
    | none=>none) (List.replicate len z) with
   | some xs=>some (.osl e xs)
   | none=>none
  | _,_=>none
 | _=>none
def Gy (t:TypeId) (l c:PV):Option PV:=
 match l,c with
 | .int _ n,.int _ m=>
  if n=m/\0<=n/\n<=16777216 then
   match C.P.underlying t with
   | some (.slice e)=>match C.P.info? e with
    | some i=>if i.bytes<=1000000 then AW C t n.toNat [] else none
    | none=>none
   | _=>none
  else none
 | _,_=>none
abbrev C4:=FuncId->List PV->List PBox->Option (CR×List PBox)
def Fl (n:Nat) (r:CR) (bx:List PBox):List PBox:=
 if r.under n && (bx.take n).all (·.under n) then bx.take n else bx
def Ak (call:C4) (f:FuncId) (args:List PV) (bx:List PBox):Option (CR×List PBox):=
 if C.heap f || !(Aq args) then
  match call f args bx with
  | some (r,bx')=>some (r,Fl bx.length r bx')
  | none=>none
 else
  match call f args [] with
  | some (.ret r,_)=>if r.pure then some (.ret r,bx) else none
  | _=>none
def CP (bx:List PBox) (id off:Nat) (vs:List PV):Option (List PBox):=
 match bx[id]? with
 | some (.cells t cs)=>if off+vs.length<=cs.length/\vs.all PV.one then some (bx.set id (.cells t (lay cs off vs))) else none
 | _=>none
def laid:PV->List PV
 | .osl e xs=>[.osl e xs]
 | v=>v.cells.map PV.ro
def L2 (e:List PV) (c:Call):Option (FuncId×List PV):=
 match c.callee with
 | .value f=>match opd C e f with
  | .fn k first captured=>some (k,first.map PV.shutV++c.args.toList.map (fun x=>(opd C e x).shutV)++captured.map PV.shutV)
  | _=>none
 | _=>none
def WQ:Operand->Bool
 | .func _=>true
 | _=>false
def Eo (k:FuncId) (vs:List PV) (al:List (Nat×Loc)):List (Nat×Loc):=
 if C.heap k || !(Aq vs) then al.filter (fun p=>p.2 matches .tmp _) else al
def F0 (op:Op) (e:List PV) (d:Option Tmp):List (Nat×Loc):=
 match op,d with
 | .move (.tmp t),some d=>(match getT e t with
  | .osl _ _=>if t=d then [] else [(d,.tmp t)]
  | _=>[])
 | _,_=>[]
def Hf (draw:Bool) (st:St) (op:Op) (d:Option Tmp) (al:List (Nat×Loc)):List (Nat×Loc):=
 if draw then F0 op st.env d++Ap al d else
 match origin C st op,d with
 | some l,some d=>if l=.tmp d then Ap al (some d) else (d,l) :: Ap al (some d)
 | _,d=>Ap al d
def A5 (t:TypeId):Bool:=match C.P.underlying t with
 | some (.slice _)=>false
 | _=>true
def Dl:List (Nat×Loc)->Option Nat
 | []=>none
 | (_,.tmp _) :: r=>Dl r
 | (_,.box id _) :: r=>match Dl r with
  | some m=>some (min id m)
  | none=>some id
def cutAt (k:FuncId) (vs:List PV) (al:List (Nat×Loc)) (bx:List PBox):Option Nat:=
 match Dl al with
 | none=>none
 | some m=>if (C.heap k || !(Aq vs)) && (Au m vs && (bx.take m).all (·.under m)) then some m else none
def Bh (t:TypeId):Bool:=match C.P.underlying t with
 | some (.pointer _)=>true
 | _=>false
def fJ (tys:Array TypeId):Bool:=tys.toList.any (Bh C)
def YJ:Operand->Bool
 | .func _=>true
 | _=>false
def JJ (f:Operand) (tys:Array TypeId) (k:FuncId) (vs:List PV) (al:List (Nat×Loc)) (bx:List PBox):Option Nat:=if YJ f && fJ C tys then cutAt C k vs al bx else none
def BR (call:C4) (draw:Bool) (al:List (Nat×Loc)) (o:Oper) (st:St):Option OpR:=
 match o.op with
 | .assign x=>if draw && A5 C o.type then some (.next (st.put o.dst (opd C st.env x)) (Ap al o.dst)) else
  let (v,st1):=EV C st x o.type
  some (.next (st1.put o.dst v) (Ap (match x with | .tmp i=>Ap al (some i) | _=>al) o.dst))
 | .alloc t=>match tZero C t with
  | some z=>if (z.cells.map PV.ro).all PV.one then some (.next ((St.mk st.env (st.bx++[.cells t (z.cells.map PV.ro)])).put o.dst (.bp st.bx.length 0)) (Ap al o.dst)) else none
  | none=>none
 | .box t x=>let v:=opd C st.env x
  if (v.cells.map PV.ro).all PV.one then some (.next ((St.mk st.env (st.bx++[.cells t (v.cells.map PV.ro)])).put o.dst (.bp st.bx.length 0)) (Ap al o.dst)) else none
 | .store t a x=>match opd C st.env a with
  | .bp id off=>
   let (v,st1):=EV C st x t
   if tSize C t=some (laid v).length then
    match CP st1.bx id off (laid v) with
    | some bx=>some (.next ((St.mk st1.env bx).put o.dst und) (Ap (al.filter fun p=>(match p.2 with | .box i _=>i != id | .tmp i=>(match x with | .tmp j=>i != j | _=>true))) o.dst))
    | none=>none
   else none
  | _=>none
 | .buildSlice t len parts=>match AW C t len (parts.toList.map fun p=>(p.1,opd C st.env p.2)) with
  | some v=>some (.next (st.put o.dst v) (Ap al o.dst))
  | none=>none
 | .makeSlice t l c=>match Gy C t (opd C st.env l) (opd C st.env c) with
  | some v=>some (.next (st.put o.dst v) (Ap al o.dst))
  | none=>none
 | .range t x=>match C.P.underlying t,opd C st.env x with
  | some .string,.str s=>some (.next ((St.mk st.env (st.bx++[.iter s 0])).put o.dst (.bp st.bx.length 0)) (Ap al o.dst))
  | _,_=>none
 | .next x true=>match opd C st.env x with
  | .bp id 0=>match st.bx[id]? with
   | some (.iter s pos)=>
    if pos < s.length then
     some (.next ((St.mk st.env (st.bx.set id (.iter s (pos+(yZ ⟨s.toArray⟩ pos).2)))).put o.dst (.tup [.bool true,.int .i64 pos,.int .i32 (yZ ⟨s.toArray⟩ pos).1])) (Ap al o.dst))
    else some (.next (st.put o.dst (.tup [.bool false])) (Ap al o.dst))
   | _=>none
  | _=>none
 | .panic x=>match opd C st.env x with
  | .iface t v=>some (.pan (.iface t v) st)
  | _=>none
 | .call { callee:=.builtin .append,args,argTypes }=>L1 C st al args argTypes o.dst
 | .call { callee:=.value f,args,argTypes }=>
  match L2 C st.env { callee:=.value f,args,argTypes } with
  | some (k,vs)=>if (draw && WQ f) && (C.heap k || !(Aq vs)) then none else match JJ C f argTypes k vs al st.bx with
   | some m=>match Ak C call k vs (st.bx.take m) with
    | some (.ret v,bx)=>if decide (bx.length=m) && (v.under m && bx.all (·.under m)) then some (.next ((St.mk st.env (bx++st.bx.drop m)).put o.dst v) (Ap al o.dst)) else none
    | some (.pan v,bx)=>if decide (bx.length=m) && (v.under m && bx.all (·.under m)) then some (.pan v { st with bx:=bx++st.bx.drop m }) else none
    | none=>none
   | none=>match Ak C call k vs st.bx with
    | some (.ret v,bx)=>some (.next ((St.mk st.env bx).put o.dst v) (Ap (Eo C k vs al) o.dst))
    | some (.pan v,bx)=>some (.pan v { st with bx })
    | none=>none
  | none=>none
 | op=>match Cv C st.bx st.env op with
  | some v=>some (.next (st.put o.dst v) (Hf C draw st op o.dst al))
  | none=>none
def evOps (call:C4) (draw:Bool) (ops:Array Oper):List Oper->List (Nat×Loc)->St->Option (Ex×St)
 | [],_,st=>some (.normal,st)
 | o :: rest,al,st=>match Is ops st.env o with
  | none=>none
  | some false=>evOps call draw ops rest (Ap al o.dst) (st.put o.dst und)
  | some true=>match BR C call draw al o st with
   | none=>none
   | some (.next st' al')=>evOps call draw ops rest al' st'
   | some (.pan v st')=>some (.pan v,st')
def Iu (st:St):ResultVar->Option PV
 | .tmp t=>some (opd C st.env (.tmp t)).shutV
 | .cell a t=>(HO C st.bx t (opd C st.env (.tmp a))).map PV.shutV
def CU (st:St):List ResultVar->Option (List PV)
 | []=>some []
 | r :: rest=>match Iu C st r,CU st rest with
  | some v,some vs=>some (v :: vs)
  | _,_=>none
def Je:List PV->PV
 | [v]=>v
 | vs=>.tup vs
def dstOK (n:Nat) (ops:Array Oper):Bool:=ops.toList.all fun o=>match o.dst with
 | some d=>decide (d < n)
 | none=>true
def calm:Op->Bool
 | .move _ | .pick .. | .load .. | .nilCheck _ | .binOp .. | .unOp .. | .convert .. | .slice .. | .fieldAddr .. | .field .. | .indexAddr .. | .index ..
 | .extract .. | .build .. | .makeFunc .. | .buildSlice ..=>true
 | .call { callee:=.builtin .len,.. } | .call { callee:=.builtin .max,.. } | .call { callee:=.builtin .min,.. }=>true
 | .call { callee:=.value (.func f),argTypes,.. }=>!C.heap f && argTypes.toList.all fun t=>(match C.P.underlying t with
  | some (.pointer _)=>false
  | _=>true)
 | _=>false
def Iv (o:Oper):Bool:=calm C o.op || (match o.op with
 | .assign _=>A5 C o.type
 | _=>false)
def Rv (a b:Nat):Bool:=a &&& b == a
def HR (b:Array Nat):Nat->Nat
 | 0=>0
 | n+1=>if Rv (2 ^ n - 1) (b.getD n 0) then HR b n else n+1
def tmpsOf (o:Oper):List Tmp:=o.op.operands.toList.filterMap fun | .tmp t=>some t | _=>none
def names (ops:Array Oper) (o:Oper):List Tmp:=
 tmpsOf o++o.dst.toList++(match o.guard with
  | some (j,_)=>((ops[j]?).bind (·.dst)).toList
  | none=>[])
def JK (ops:Array Oper) (i:Nat):Nat:=((Region.linearise .gc ops 0).idxOf? i).getD ops.size
def Cl (ops:Array Oper):Bool:=
 let b:=Region.before ops
 let k:=HR b ops.size
 let pre:=(ops.toList.take k).zipIdx
 let rk:=(yY ops.size).map (JK ops)
 -- each of the Cc lists every operation
 (ops.toList.zipIdx.all fun (o,i)=>o.after.all fun e=>(!yW .text e || decide (e.on < i)) && (!yW .gc e || decide (rk.getD e.on 0 < rk.getD i 0) && decide (e.on < ops.size))) &&
 (pre.all fun (o,i)=>Iv C o && o.dst.isSome &&
  (pre.all fun (o',j)=>i == j ||
   -- what i names and j writes: one waits for the other
   (match o'.dst with
    | some d=>!((names ops o).contains d) || (decide (j < i) && (b.getD i 0).testBit j) || (decide (i < j) && (b.getD j 0).testBit i)
    | none=>true)) &&
  (match o.guard with
   | none=>true
   | some (j,_)=>decide (j < i) && (b.getD i 0).testBit j))
def F1 (n:Nat):Code->Bool
 | .region _ ops draw=>dstOK n ops && (!draw || Cl C ops)
 | .seq a b=>F1 n a && F1 n b
 | .cond _ a b=>F1 n a && F1 n b
 | .block _ b=>F1 n b
 | .loop b=>F1 n b
 | _=>true
def Bk (fn:Func) (c:Code):Bool:=F1 C fn.ntmps c && fn.name != "runtime.NumGoroutine"
def edgesOK (ops:Array Oper):Bool:=
 ops.toList.zipIdx.all fun (o,i)=>o.after.all fun e=>(!yW .text e || decide (e.on < i)) && (!yW .gc e || decide (((yY ops.size).map (JK ops)).getD e.on 0 < ((yY ops.size).map (JK ops)).getD i 0) && decide (e.on < ops.size))
def Nd (ops:Array Oper) (acc:List Nat) (i:Nat):Bool:=!acc.contains i && (match ops[i]? with
 | some o=>o.after.toList.all fun e=>!yW .any e || acc.contains e.on
 | none=>false)
def EN (ops:Array Oper):Nat->List Nat->List (List Nat)
 | 0,acc=>[acc.reverse]
 | k+1,acc=>(yY ops.size).flatMap fun i=>if Nd ops acc i then EN ops k (i :: acc) else []
def Cc (ops:Array Oper):List (List Nat):=EN ops ops.size []
def A' (ops:Array Oper) (l:List Nat):List Oper:=l.filterMap fun i=>ops[i]?
mutual
def PV.eqB:PV->PV->Bool
 | .top,.top=>true
 | .bool a,.bool b=>a == b
 | .int k a,.int k' b=>decide (k=k') && decide (a=b)
 | .str a,.str b=>decide (a=b)
 | .nils,.nils=>true
 | .sl a,.sl b=>Mh a b
 | .osl e a,.osl e' b=>decide (e=e') && Mh a b
 | .ip a,.ip b=>Mh a b
 | .bp i o,.bp i' o'=>decide (i=i') && decide (o=o')
 | .nilp,.nilp=>true
 | .fn f a b,.fn f' a' b'=>decide (f=f') && Mh a a' && Mh b b'
 | .nilf,.nilf=>true
 | .iface t v,.iface t' v'=>decide (t=t') && PV.eqB v v'
 | .nili,.nili=>true
 | .agg a,.agg b=>Mh a b
 | .tup a,.tup b=>Mh a b
 | _,_=>false
def Mh:List PV->List PV->Bool
 | [],[]=>true
 | x :: xs,y :: ys=>PV.eqB x y && Mh xs ys
 | _,_=>false
end
mutual
theorem eqB_eq:∀ (x y:PV),PV.eqB x y=true->x=y
 | .top,y,h=>by cases y <;> simp [PV.eqB] at h |-
 | .bool a,y,h=>by cases y <;> simp [PV.eqB] at h |-;exact h
 | .int k a,y,h=>by cases y <;> simp [PV.eqB] at h |-;exact h
 | .str a,y,h=>by cases y <;> simp [PV.eqB] at h |-;exact h
 | .nils,y,h=>by cases y <;> simp [PV.eqB] at h |-
 | .sl a,y,h=>by cases y <;> simp [PV.eqB] at h |-;exact GL _ _ h
 | .osl e a,y,h=>by cases y <;> simp [PV.eqB] at h |-;exact ⟨h.1,GL _ _ h.2⟩
 | .ip a,y,h=>by cases y <;> simp [PV.eqB] at h |-;exact GL _ _ h
 | .bp i o,y,h=>by cases y <;> simp [PV.eqB] at h |-;exact h
 | .nilp,y,h=>by cases y <;> simp [PV.eqB] at h |-
 | .fn f a b,y,h=>by cases y <;> simp [PV.eqB] at h |-;exact ⟨h.1.1,GL _ _ h.1.2,GL _ _ h.2⟩
 | .nilf,y,h=>by cases y <;> simp [PV.eqB] at h |-
 | .iface t v,y,h=>by cases y <;> simp [PV.eqB] at h |-;exact ⟨h.1,eqB_eq _ _ h.2⟩
 | .nili,y,h=>by cases y <;> simp [PV.eqB] at h |-
 | .agg a,y,h=>by cases y <;> simp [PV.eqB] at h |-;exact GL _ _ h
 | .tup a,y,h=>by cases y <;> simp [PV.eqB] at h |-;exact GL _ _ h
theorem GL:∀ (x y:List PV),Mh x y=true->x=y
 | [],[],_=>rfl
 | [],_ :: _,h=>by simp [Mh] at h
 | _ :: _,[],h=>by simp [Mh] at h
 | x :: xs,y :: ys,h=>by
  simp only [Mh,yX] at h;rw [eqB_eq x y h.1,GL xs ys h.2]
end
mutual
theorem eqB_self:∀ x:PV,PV.eqB x x=true
 | .top=>rfl
 | .bool a=>by simp [PV.eqB]
 | .int k a=>by simp [PV.eqB]
 | .str a=>by simp [PV.eqB]
 | .nils=>rfl
 | .sl a=>by simp [PV.eqB,EG a]
 | .osl e a=>by simp [PV.eqB,EG a]
 | .ip a=>by simp [PV.eqB,EG a]
 | .bp i o=>by simp [PV.eqB]
 | .nilp=>rfl
 | .fn f a b=>by simp [PV.eqB,EG a,EG b]
 | .nilf=>rfl
 | .iface t v=>by simp [PV.eqB,eqB_self v]
 | .nili=>rfl
 | .agg a=>by simp [PV.eqB,EG a]
 | .tup a=>by simp [PV.eqB,EG a]
theorem EG:∀ x:List PV,Mh x x=true
 | []=>rfl
 | x :: xs=>by simp [Mh,eqB_self x,EG xs]
end
def PBox.eqB:PBox->PBox->Bool
 | .cells t a,.cells t' b=>decide (t=t') && Mh a b
 | .iter s p,.iter s' p'=>decide (s=s') && decide (p=p')
 | _,_=>false
theorem PBox.eqB_eq (x y:PBox) (h:PBox.eqB x y=true):x=y:=by
 cases x <;> cases y <;> simp [PBox.eqB] at h |-
 · exact ⟨h.1,GL _ _ h.2⟩
 · exact h
theorem PBox.eqB_self (x:PBox):PBox.eqB x x=true:=by cases x <;> simp [PBox.eqB,EG]
def YK:List PBox->List PBox->Bool
 | [],[]=>true
 | x :: xs,y :: ys=>PBox.eqB x y && YK xs ys
 | _,_=>false
theorem dR:∀ (x y:List PBox),YK x y=true->x=y
 | [],[],_=>rfl
 | [],_ :: _,h=>by simp [YK] at h
 | _ :: _,[],h=>by simp [YK] at h
 | x :: xs,y :: ys,h=>by
  simp only [YK,yX] at h;rw [PBox.eqB_eq x y h.1,dR xs ys h.2]
theorem VW:∀ x:List PBox,YK x x=true
 | []=>rfl
 | x :: xs=>by simp [YK,PBox.eqB_self x,VW xs]
def s9:Ex->Ex->Bool
 | .normal,.normal=>true
 | .exit i,.exit j=>decide (i=j)
 | .ret,.ret=>true
 | .pan v,.pan v'=>PV.eqB v v'
 | _,_=>false
theorem p9 (x y:Ex) (h:s9 x y=true):x=y:=by
 cases x <;> cases y <;> simp [s9] at h |-
 · exact h
 · exact eqB_eq _ _ h
theorem iZ (x:Ex):s9 x x=true:=by cases x <;> simp [s9,eqB_self]
def YL (x:Option (Ex×St)) (y:Ex×St):Bool:=match x with
 | some (e,st)=>s9 e y.1 && Mh st.env y.2.env && YK st.bx y.2.bx
 | none=>false
theorem YM {x:Option (Ex×St)} {y:Ex×St} (h:YL x y=true):x=some y:=by
 unfold YL at h;split at h
 · rename_i e st
   simp only [yX] at h;obtain ⟨⟨h1,h2⟩,h3⟩:=h;obtain ⟨e',st'⟩:=y;obtain ⟨a,b⟩:=st;obtain ⟨a',b'⟩:=st';have:=p9 _ _ h1;have:=GL _ _ h2;have:=dR _ _ h3
   simp_all
 · cases h
theorem RU (y:Ex×St):YL (some y) y=true:=by unfold YL;simp [iZ,EG,VW]
def Gs (r:Option (Ex×St)):Option (Ex×St):=match r with
 | some (.pan v,st)=>some (.pan v,⟨[],st.bx⟩)
 | r=>r
def drawAll (call:C4) (ops:Array Oper) (st:St):Option (Ex×St):=
 match Cc ops with
 | []=>none
 | l :: ls=>match Gs (evOps C call false ops (A' ops l) [] st) with
  | some r=>if ls.all fun l'=>YL (Gs (evOps C call false ops (A' ops l') [] st)) r then some r else none
  | none=>none
def GX (call:C4) (ops:Array Oper) (st:St):Option (Ex×St):=if Cl C ops then evOps C call true ops ops.toList [] st else drawAll C call ops st
def E' (n:Nat):Code->Bool
 | .region _ ops draw=>dstOK n ops && (!draw || Cl C ops || edgesOK ops)
 | .seq a b=>E' n a && E' n b
 | .cond _ a b=>E' n a && E' n b
 | .block _ b=>E' n b
 | .loop b=>E' n b
 | _=>true
def GY (fn:Func) (c:Code):Bool:=E' C fn.ntmps c && fn.name != "runtime.NumGoroutine"
def mM (fn:Func):Option (Ex×St)->Option (CR×List PBox)
 | some (.pan v,st)=>some (.pan v,st.bx)
 | some (.exit _,_)=>none
 | some (_,st)=>match CU C st fn.results.toList with
  | some vs=>some (.ret (Je vs),st.bx)
  | none=>none
 | none=>none
def HS (ev evb:Code->St->Option (Ex×St)):C4:=fun f args bx=>
 match C.prim f with
 | some g=>if Aq args then (g args).map fun r=>(.ret r,bx) else none
 | none=>match C.P.funcs[f]? with
  | none=>none
  | some fn=>match fn.body with
   | none=>none
   | some c=>
    if Bk C fn c && decide (args.length<=fn.ntmps) then mM C fn (ev c ⟨args,bx⟩)
    else if GY C fn c && decide (args.length<=fn.ntmps) then mM C fn (evb c ⟨args,bx⟩)
    else none
def Ea (k:Cat) (ev:Code->St->Option (Ex×St)) (args:List PV) (bx:List PBox):Option (CR×List PBox):=
 match k.pre args bx with
 | some st=>match ev k.code st with
  | some r=>k.post r
  | none=>none
 | none=>none
def Fu (ev evb:Code->St->Option (Ex×St)):C4:=fun f args bx=>
 match C.hprim f with
 | some g=>(g args bx).map fun r=>(if r.1 then .pan r.2.1 else .ret r.2.1,r.2.2)
 | none=>match C.cat f with
  | some k=>Ea k ev args bx
  | none=>HS C ev evb f args bx
def Cs:Nat->Bool->Code->St->Option (Ex×St)
 | 0,_,_,_=>none
 | n+1,br,c,st=>
  match c with
  | .skip=>some (.normal,st)
  | .label _=>some (.normal,st)
  | .region _ ops draw=>if br && draw then GX C (Fu C (Cs n false) (Cs n true)) ops st else evOps C (Fu C (Cs n false) (Cs n true)) draw ops ops.toList [] st
  | .seq a b=>match Cs n br a st with
   | some (.normal,st')=>Cs n br b st'
   | r=>r
  | .cond c a b=>match opd C st.env c with
   | .bool t=>Cs n br (if t then a else b) st
   | _=>none
  | .block id b=>match Cs n br b st with
   | some (.exit id',st')=>if id'=id then some (.normal,st') else some (.exit id',st')
   | r=>r
  | .loop b=>match Cs n br b st with
   | some (.normal,st')=>Cs n br (.loop b) st'
   | r=>r
  | .exit id=>some (.exit id,st)
  | .ret=>some (.ret,st)
  | _=>none
def Gt (n:Nat):C4:=Fu C (Cs C n false) (Cs C n true)
end Go.HH
