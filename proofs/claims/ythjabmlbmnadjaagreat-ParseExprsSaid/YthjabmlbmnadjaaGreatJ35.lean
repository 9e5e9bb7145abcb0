/-
  What the law needs, packed: PA CA PB PC PD.
-/
import Derived.Test.YthjabmlbmnadjaaGreatJ34
open Nat renaming le_of_ble_eq_true->yW,le_refl->zx,add_zero->zQ
open Option renaming getD->yX,map_some->zC
open Go.Proofs.Tryz renaming f26->yY,f16->yZ,f37->y2,f60->y3,f34->y4,f9->y6,f6->y7,f65->y8,f58->y9,f36->y',f33->za,f31->zd,f28->ze,f101->zf,f82->zi,f63->zj,f62->zk,f61->zl,f32->zn,f18->zo,f83->zJ,f35->zL
open List renaming set_cons_zero->y0,set_cons_succ->y1,getElem?_eq_some_iff->zg,replicate->zm,getElem?_append_right->zq,eq_of_mem_replicate->zr,getElem?_cons_zero->zt,getElem?_cons_succ->zu,set_append_right->zw,take_succ_cons->zy,mem_map_of_mem->zA,length_cons->zD,all_eq_true->zE,length_nil->zG,head?_cons->zH,append_nil->zI,take_zero->zM,drop_zero->zN,map_cons->zO,length->zR
open Bool renaming and_eq_true->y5,false_eq_true->zB,and_true->zP
open Go.IntKind renaming wrap->zh
namespace Go.HH
open Go Go.Proofs
theorem Aw {id:Nat}:Aq [PV.bp id 0]=false:=rfl
set_option maxRecDepth 100000
set_option linter.unusedSimpArgs false
set_option linter.unusedVariables false
inductive PR (α:Type) where
 | ok (a:α) (i:Nat)
 | bad (t:Nat) (e:Int)
 | out
def PR.bind {α β:Type} (r:PR α) (f:α->Nat->PR β):PR β:=match r with
 | .ok a i=>f a i
 | .bad t e=>.bad t e
 | .out=>.out
def tokAt (L:List Tk) (i:Nat):Tk:=L.getD i (0,[],0)
def atT (L:List Tk) (i:Nat):Nat:=(tokAt L i).2.2
def B2 (L:List Tk) (k:Nat) (w:List UInt8) (i:Nat):Bool:=(tokAt L i).1 == k && (tokAt L i).2.1 == w
def BM (L:List Tk) (k:Nat) (w:List UInt8) (i:Nat):PR Unit:=if B2 L k w i then .ok () (i+1) else .bad (atT L i) 12
def IY (L:List Tk) (k:Nat) (i:Nat):PR Tk:=if (tokAt L i).1=k then .ok (tokAt L i) (i+1) else .bad (atT L i) 12
def CI (L:List Tk) (i:Nat):PR (List UInt8):=if (tokAt L i).1=1 then (if Fo (tokAt L i).2.1 then .ok (tokAt L i).2.1 (i+1) else .bad (atT L i) 10) else .bad (atT L i) 12
def amtN (w:List UInt8) (n:Nat):Nat:=w.foldl (fun n b=>10 * n+(b.toNat - 48)) n
def Hj (L:List Tk) (lo hi:Nat) (i:Nat):PR Nat:=
 if (tokAt L i).1=2 then (if amtN (tokAt L i).2.1 0 < lo\/hi < amtN (tokAt L i).2.1 0 then .bad (atT L i) 2 else .ok (amtN (tokAt L i).2.1 0) (i+1)) else .bad (atT L i) 12
def Ri (L:List Tk) (hi:Nat) (i:Nat):PR Nat:=if (tokAt L i).1=2/\(tokAt L i).2.1.length≠2 then .bad (atT L i) 12 else Hj L 0 hi i
def Fv (L:List Tk) (i:Nat):PR Ky:=(Hj L 1 250 i).bind fun d i=>(BM L 4 [46] i).bind fun _ i=>(CI L i).bind fun a i=>(BM L 4 [46] i).bind fun _ i=>(CI L i).bind fun b i=>.ok ((d:Int),a,b) i
def GG (L:List Tk) (i:Nat):PR Nat:=(Ri L 23 i).bind fun h i=>(BM L 4 [58] i).bind fun _ i=>(Ri L 59 i).bind fun m i=>.ok (60 * h+m) i
def Em (L:List Tk) (k:Nat) (i:Nat):List (List UInt8)->Nat->Option Nat
 | [],_=>none
 | w :: r,n=>if B2 L k w i then some n else Em L k i r (n+1)
def BI:List (List UInt8):=[[109,111,110],[116,117,101],[119,101,100],[116,104,117],[102,114,105],[115,97,116],[115,117,110]]
def Bw:List (List UInt8):=[[103,117,101,115,116],[99,104,105,108,100],[97,100,117,108,116],[111,119,110,101,114]]
def Cw:List (List UInt8):=[[61,61],[33,61],[60],[62,61],[62],[60,61]]
def To (L:List Tk) (i:Nat):PR Nat:=match Em L 1 i BI 0 with
 | some k=>.ok k (i+1)
 | none=>.bad (atT L i) 12
def Lj (L:List Tk):Nat->Nat->Nat->PR Nat
 | 0,_,_=>.out
 | n+1,m,i=>(To L i).bind fun k i=>if B2 L 4 [44] i then Lj L n (m ||| 2 ^ k) (i+1) else .ok (m ||| 2 ^ k) i
def KA (L:List Tk) (i:Nat):PR Nat:=Lj L (L.length+1) 0 i
def zK:Ky:=(0,[],[])
def zV:Vl:=(0,0,[])
def Bb (k:Int) (kids:List Tr):Tr:=.mk k 0 0 [] zV zK kids
def Da (k n:Int):Tr:=.mk 1 0 0 [] (k,n,[]) zK []
def zT:Tr:=.mk 0 0 0 [] zV zK []
def D0 (L:List Tk) (i:Nat):Bool:=(tokAt L i).1 == 2 && !B2 L 4 [46] (i+1)
def IF (L:List Tk) (i:Nat):PR Tr:=
 if B2 L 1 [116,114,117,101] i then .ok (Da 1 1) (i+1) else
 if B2 L 1 [102,97,108,115,101] i then .ok (Da 1 0) (i+1) else
 if B2 L 1 [109,111,100,101] i then (BM L 1 [105,115] (i+1)).bind fun _ i=>(CI L i).bind fun s i=>.ok (.mk 3 0 0 s zV zK []) i else
 if B2 L 1 [116,105,109,101] i then (GG L (i+1)).bind fun n i=>(BM L 1 [116,111] i).bind fun _ i=>(GG L i).bind fun m i=>.ok (.mk 4 n m [] zV zK []) i else
 if B2 L 1 [100,97,121,115] i then (KA L (i+1)).bind fun n i=>.ok (.mk 5 n 0 [] zV zK []) i else
 if B2 L 1 [104,111,109,101] i then (match Em L 1 (i+1) Bw 0 with
  | some k=>.ok (.mk 15 ((k+1:Nat):Int) 0 [] zV zK []) (i+2)
  | none=>.ok (.mk 15 0 0 [] zV zK []) (i+1)) else .bad (atT L i) 12
def KG:Nat->Tr->Tr->Tr
 | 0,a,b=>Bb 9 [a,b]
 | 1,a,b=>Bb 6 [Bb 9 [a,b]]
 | 2,a,b=>Bb 10 [a,b]
 | 3,a,b=>Bb 6 [Bb 10 [a,b]]
 | 4,a,b=>Bb 10 [b,a]
 | _,a,b=>Bb 6 [Bb 10 [b,a]]
inductive NT where
 | expr | chain (b:Bool) | chainL (b:Bool) (acc:List Tr) | not | cmp | sum | sumL (e:Tr) | prod | prodL (e:Tr) | un | prim
def Ee:Bool->NT
 | true=>.chain false
 | false=>.not
def PH:Bool->List UInt8
 | true=>[111,114]
 | false=>[97,110,100]
def mu (b:Bool):List Tr->Tr
 | [a]=>a
 | l=>Bb (if b then 8 else 7) l
def pz (L:List Tk):Nat->NT->Nat->Nat->PR Tr
 | 0,_,_,_=>.out
 | n+1,.expr,o,i=>if B2 L 1 [105,102] i then
  (if o < 100 then (pz L n .expr (o+1) (i+1)).bind fun c i=>(BM L 1 [116,104,101,110] i).bind fun _ i=>(pz L n .expr (o+1) i).bind fun a i=>(BM L 1 [101,108,115,101] i).bind fun _ i=>(pz L n .expr (o+1) i).bind fun b i=>.ok (Bb 14 [c,a,b]) i
  else .bad (atT L i) 22) else pz L n (.chain true) o i
 | n+1,.chain b,o,i=>(pz L n (Ee b) o i).bind fun a i=>pz L n (.chainL b [a]) o i
 | n+1,.chainL b acc,o,i=>if B2 L 1 (PH b) i then (if acc.length=8 then .bad (atT L i) 3 else (pz L n (Ee b) o (i+1)).bind fun a i=>pz L n (.chainL b (acc++[a])) o i) else .ok (mu b acc) i
 | n+1,.not,o,i=>if B2 L 1 [110,111,116] i then (if o < 100 then (pz L n .not (o+1) (i+1)).bind fun e i=>.ok (Bb 6 [e]) i else .bad (atT L i) 22) else pz L n .cmp o i
 | n+1,.cmp,o,i=>(pz L n .sum o i).bind fun a i=>match Em L 4 i Cw 0 with
  | some k=>(pz L n .sum o (i+1)).bind fun b i=>.ok (KG k a b) i
  | none=>.ok a i
 | n+1,.sum,o,i=>(pz L n .prod o i).bind fun e i=>pz L n (.sumL e) o i
 | n+1,.sumL e,o,i=>if B2 L 4 [43] i then (pz L n .prod o (i+1)).bind fun f i=>pz L n (.sumL (Bb 11 [e,f])) o i else
  if B2 L 4 [45] i then (pz L n .prod o (i+1)).bind fun f i=>pz L n (.sumL (Bb 12 [e,f])) o i else .ok e i
 | n+1,.prod,o,i=>(pz L n .un o i).bind fun e i=>pz L n (.prodL e) o i
 | n+1,.prodL e,o,i=>if B2 L 4 [42] i then (pz L n .un o (i+1)).bind fun f i=>pz L n (.prodL (Bb 13 [e,f])) o i else .ok e i
 | n+1,.un,o,i=>if B2 L 4 [45] i then
  (if D0 L (i+1) then .ok (Da 2 (-(amtN (tokAt L (i+1)).2.1 0:Int))) (i+2) else
  if o < 100 then (pz L n .un (o+1) (i+1)).bind fun e i=>.ok (Bb 12 [Da 2 0,e]) i else .bad (atT L i) 22) else pz L n .prim o i
 | n+1,.prim,o,i=>if D0 L i then .ok (Da 2 (amtN (tokAt L i).2.1 0:Int)) (i+1) else
  if (tokAt L i).1=2 then (Fv L i).bind fun k i=>.ok (.mk 2 0 0 [] zV k []) i else
  if (tokAt L i).1=3 then .ok (.mk 1 0 0 [] (4,0,(tokAt L i).2.1) zK []) (i+1) else
  if B2 L 4 [35] i then (Hj L 0 63 (i+1)).bind fun n i=>.ok (Da 3 n) i else
  if B2 L 4 [40] i then (if o < 100 then (pz L n .expr (o+1) (i+1)).bind fun e i=>(BM L 4 [41] i).bind fun _ i=>.ok e i else .bad (atT L i) 22) else IF L i
def Db (L:List Tk) (n i:Nat):PR Tr:=(pz L n .expr 0 i).bind fun e j=>if Ry e=0 then .ok e j else .bad (atT L i) (Ry e)
def opsOf:Code->Array Oper
 | .region _ ops _=>ops
 | _=>#[]
theorem tR:CC.P.underlying 54=some (.struct (match CC.P.underlying 54 with | some (.struct f)=>f | _=>#[])):=by kernel_rfl
theorem tS:tZero CC 54=some (.agg [.int .i64 0,.int .i64 0]):=by kernel_rfl
theorem pA (t0 t1 t2:TypeId) (x3 x1 x2:PV) (x y:Int):(Cc (opsOf (Aa yZ [1,1,0]))).map (fun l=>Gs (evOps (plainC CC) noCall false (opsOf (Aa yZ [1,1,0])) (A' (opsOf (Aa yZ [1,1,0])) l) [] ⟨[.bp 0 0,.bp 1 0,.bp 2 0,.bp 3 0,.bool true,.tup [.agg [.int .i64 x,.int .i64 y],.bool true],.iface 54 (.agg [.int .i64 x,.int .i64 y]),.tup [.agg [.int .i64 x,.int .i64 y],.bool true],.agg [.int .i64 x,.int .i64 y],.bool true,.bool true],[.cells t0 [x3],.cells t1 [x1],.cells t2 [x2],.cells 54 [.int .i64 x,.int .i64 y]]⟩))=zm 45 (some (.normal,⟨[.bp 0 0,.bp 1 0,.bp 2 0,.bp 3 0,.bool true,.tup [.agg [.int .i64 x,.int .i64 y],.bool true],.iface 54 (.agg [.int .i64 x,.int .i64 y]),.tup [.agg [.int .i64 x,.int .i64 y],.bool true],.agg [.int .i64 x,.int .i64 y],.bool true,.bool true,.bp 3 0,.int .i64 x,.bp 3 1,.int .i64 y],[.cells t0 [.osl 52 []],.cells t1 [.int .i64 x],.cells t2 [.int .i64 y],.cells 54 [.int .i64 x,.int .i64 y]]⟩)):=by kernel_rfl
theorem tT (t0 t1 t2:TypeId) (x3 x1 x2:PV) (x y:Int):CatchRuns CC 16 yZ 20 54 (.agg [.int .i64 0,.int .i64 0]) [.cells t0 [x3],.cells t1 [x1],.cells t2 [x2]]
 [.cells t0 [.osl 52 []],.cells t1 [.int .i64 x],.cells t2 [.int .i64 y],.cells 54 [.int .i64 x,.int .i64 y]]
 [.cells t0 [x3],.cells t1 [x1],.cells t2 [x2],.cells 54 [.int .i64 0,.int .i64 0]] (.agg [.int .i64 x,.int .i64 y]):=by
 refine ⟨by kernel_rfl,0,1,2,(opsOf (Aa yZ [0])),(opsOf (Aa yZ [1,0])),(opsOf (Aa yZ [1,1,0])),(opsOf (Aa yZ [0])).toList.drop 2,20,55,
  ((opsOf (Aa yZ [0])).getD 0 default).pos,((opsOf (Aa yZ [0])).getD 1 default).pos,((opsOf (Aa yZ [0])).getD 0 default).after,((opsOf (Aa yZ [0])).getD 1 default).after,
  ⟨[.bp 0 0,.bp 1 0,.bp 2 0,.bp 3 0,.bool true,.tup [.agg [.int .i64 x,.int .i64 y],.bool true],.iface 54 (.agg [.int .i64 x,.int .i64 y]),.tup [.agg [.int .i64 x,.int .i64 y],.bool true],.agg [.int .i64 x,.int .i64 y],.bool true],[.cells t0 [x3],.cells t1 [x1],.cells t2 [x2],.cells 54 [.int .i64 x,.int .i64 y]]⟩,⟨[.bp 0 0,.bp 1 0,.bp 2 0,.bp 3 0,.bool true,.tup [.agg [.int .i64 x,.int .i64 y],.bool true],.iface 54 (.agg [.int .i64 x,.int .i64 y]),.tup [.agg [.int .i64 x,.int .i64 y],.bool true],.agg [.int .i64 x,.int .i64 y],.bool true,.bool true],[.cells t0 [x3],.cells t1 [x1],.cells t2 [x2],.cells 54 [.int .i64 x,.int .i64 y]]⟩,⟨[.bp 0 0,.bp 1 0,.bp 2 0,.bp 3 0,.bool true,.tup [.agg [.int .i64 x,.int .i64 y],.bool true],.iface 54 (.agg [.int .i64 x,.int .i64 y]),.tup [.agg [.int .i64 x,.int .i64 y],.bool true],.agg [.int .i64 x,.int .i64 y],.bool true,.bool true,.bp 3 0,.int .i64 x,.bp 3 1,.int .i64 y],[.cells t0 [.osl 52 []],.cells t1 [.int .i64 x],.cells t2 [.int .i64 y],.cells 54 [.int .i64 x,.int .i64 y]]⟩,⟨[.bp 0 0,.bp 1 0,.bp 2 0,.bp 3 0,.bool false,.tup [.agg [.int .i64 0,.int .i64 0],.bool false],.nili,.tup [.agg [.int .i64 0,.int .i64 0],.bool false],.agg [.int .i64 0,.int .i64 0],.bool false],[.cells t0 [x3],.cells t1 [x1],.cells t2 [x2],.cells 54 [.int .i64 0,.int .i64 0]]⟩,⟨[.bp 0 0,.bp 1 0,.bp 2 0,.bp 3 0,.bool false,.tup [.agg [.int .i64 0,.int .i64 0],.bool false],.nili,.tup [.agg [.int .i64 0,.int .i64 0],.bool false],.agg [.int .i64 0,.int .i64 0],.bool false,.bool false],[.cells t0 [x3],.cells t1 [x1],.cells t2 [x2],.cells 54 [.int .i64 0,.int .i64 0]]⟩,
  by kernel_rfl,by kernel_rfl,by kernel_rfl,by kernel_rfl,by kernel_rfl,by kernel_rfl,by kernel_rfl,by kernel_rfl,by kernel_rfl,by kernel_rfl,AN.2 ⟨fun e=>?_,fun l hl=>?_⟩,rfl,by kernel_rfl,by kernel_rfl,by kernel_rfl,rfl⟩
 · have h:=congrArg zR (pA t0 t1 t2 x3 x1 x2 x y)
   rw [e] at h;cases h
 · have h:Gs (evOps (plainC CC) noCall false (opsOf (Aa yZ [1,1,0])) (A' (opsOf (Aa yZ [1,1,0])) l) [] ⟨[.bp 0 0,.bp 1 0,.bp 2 0,.bp 3 0,.bool true,.tup [.agg [.int .i64 x,.int .i64 y],.bool true],.iface 54 (.agg [.int .i64 x,.int .i64 y]),.tup [.agg [.int .i64 x,.int .i64 y],.bool true],.agg [.int .i64 x,.int .i64 y],.bool true,.bool true],[.cells t0 [x3],.cells t1 [x1],.cells t2 [x2],.cells 54 [.int .i64 x,.int .i64 y]]⟩) ∈ zm 45 (some (.normal,⟨[.bp 0 0,.bp 1 0,.bp 2 0,.bp 3 0,.bool true,.tup [.agg [.int .i64 x,.int .i64 y],.bool true],.iface 54 (.agg [.int .i64 x,.int .i64 y]),.tup [.agg [.int .i64 x,.int .i64 y],.bool true],.agg [.int .i64 x,.int .i64 y],.bool true,.bool true,.bp 3 0,.int .i64 x,.bp 3 1,.int .i64 y],[.cells t0 [.osl 52 []],.cells t1 [.int .i64 x],.cells t2 [.int .i64 y],.cells 54 [.int .i64 x,.int .i64 y]]⟩)):=by
    rw [<- pA t0 t1 t2 x3 x1 x2 x y];exact zA hl
   exact zr h
theorem pB (t0 t1 t2:TypeId) (x3 x4 x5 x6 x7 x8 x9 x10 x11 x12 x13 x1 x2:PV) (x y:Int):(Cc (opsOf (Aa yY [1,1,0]))).map (fun l=>Gs (evOps (plainC CC) noCall false (opsOf (Aa yY [1,1,0])) (A' (opsOf (Aa yY [1,1,0])) l) [] ⟨[.bp 0 0,.bp 1 0,.bp 2 0,.bp 3 0,.bool true,.tup [.agg [.int .i64 x,.int .i64 y],.bool true],.iface 54 (.agg [.int .i64 x,.int .i64 y]),.tup [.agg [.int .i64 x,.int .i64 y],.bool true],.agg [.int .i64 x,.int .i64 y],.bool true,.bool true],[.cells t0 [x3,x4,x5,x6,x7,x8,x9,x10,x11,x12,x13],.cells t1 [x1],.cells t2 [x2],.cells 54 [.int .i64 x,.int .i64 y]]⟩))=zm 126 (some (.normal,⟨[.bp 0 0,.bp 1 0,.bp 2 0,.bp 3 0,.bool true,.tup [.agg [.int .i64 x,.int .i64 y],.bool true],.iface 54 (.agg [.int .i64 x,.int .i64 y]),.tup [.agg [.int .i64 x,.int .i64 y],.bool true],.agg [.int .i64 x,.int .i64 y],.bool true,.bool true,.agg Cq,.bp 3 0,.int .i64 x,.bp 3 1,.int .i64 y],[.cells t0 Cq,.cells t1 [.int .i64 x],.cells t2 [.int .i64 y],.cells 54 [.int .i64 x,.int .i64 y]]⟩)):=by kernel_rfl
theorem tU (t0 t1 t2:TypeId) (x3 x4 x5 x6 x7 x8 x9 x10 x11 x12 x13 x1 x2:PV) (x y:Int):CatchRuns CC 26 yY 20 54 (.agg [.int .i64 0,.int .i64 0]) [.cells t0 [x3,x4,x5,x6,x7,x8,x9,x10,x11,x12,x13],.cells t1 [x1],.cells t2 [x2]]
 [.cells t0 Cq,.cells t1 [.int .i64 x],.cells t2 [.int .i64 y],.cells 54 [.int .i64 x,.int .i64 y]]
 [.cells t0 [x3,x4,x5,x6,x7,x8,x9,x10,x11,x12,x13],.cells t1 [x1],.cells t2 [x2],.cells 54 [.int .i64 0,.int .i64 0]] (.agg [.int .i64 x,.int .i64 y]):=by
 refine ⟨by kernel_rfl,0,1,2,(opsOf (Aa yY [0])),(opsOf (Aa yY [1,0])),(opsOf (Aa yY [1,1,0])),(opsOf (Aa yY [0])).toList.drop 2,20,55,
  ((opsOf (Aa yY [0])).getD 0 default).pos,((opsOf (Aa yY [0])).getD 1 default).pos,((opsOf (Aa yY [0])).getD 0 default).after,((opsOf (Aa yY [0])).getD 1 default).after,
  ⟨[.bp 0 0,.bp 1 0,.bp 2 0,.bp 3 0,.bool true,.tup [.agg [.int .i64 x,.int .i64 y],.bool true],.iface 54 (.agg [.int .i64 x,.int .i64 y]),.tup [.agg [.int .i64 x,.int .i64 y],.bool true],.agg [.int .i64 x,.int .i64 y],.bool true],[.cells t0 [x3,x4,x5,x6,x7,x8,x9,x10,x11,x12,x13],.cells t1 [x1],.cells t2 [x2],.cells 54 [.int .i64 x,.int .i64 y]]⟩,⟨[.bp 0 0,.bp 1 0,.bp 2 0,.bp 3 0,.bool true,.tup [.agg [.int .i64 x,.int .i64 y],.bool true],.iface 54 (.agg [.int .i64 x,.int .i64 y]),.tup [.agg [.int .i64 x,.int .i64 y],.bool true],.agg [.int .i64 x,.int .i64 y],.bool true,.bool true],[.cells t0 [x3,x4,x5,x6,x7,x8,x9,x10,x11,x12,x13],.cells t1 [x1],.cells t2 [x2],.cells 54 [.int .i64 x,.int .i64 y]]⟩,⟨[.bp 0 0,.bp 1 0,.bp 2 0,.bp 3 0,.bool true,.tup [.agg [.int .i64 x,.int .i64 y],.bool true],.iface 54 (.agg [.int .i64 x,.int .i64 y]),.tup [.agg [.int .i64 x,.int .i64 y],.bool true],.agg [.int .i64 x,.int .i64 y],.bool true,.bool true,.agg Cq,.bp 3 0,.int .i64 x,.bp 3 1,.int .i64 y],[.cells t0 Cq,.cells t1 [.int .i64 x],.cells t2 [.int .i64 y],.cells 54 [.int .i64 x,.int .i64 y]]⟩,⟨[.bp 0 0,.bp 1 0,.bp 2 0,.bp 3 0,.bool false,.tup [.agg [.int .i64 0,.int .i64 0],.bool false],.nili,.tup [.agg [.int .i64 0,.int .i64 0],.bool false],.agg [.int .i64 0,.int .i64 0],.bool false],[.cells t0 [x3,x4,x5,x6,x7,x8,x9,x10,x11,x12,x13],.cells t1 [x1],.cells t2 [x2],.cells 54 [.int .i64 0,.int .i64 0]]⟩,⟨[.bp 0 0,.bp 1 0,.bp 2 0,.bp 3 0,.bool false,.tup [.agg [.int .i64 0,.int .i64 0],.bool false],.nili,.tup [.agg [.int .i64 0,.int .i64 0],.bool false],.agg [.int .i64 0,.int .i64 0],.bool false,.bool false],[.cells t0 [x3,x4,x5,x6,x7,x8,x9,x10,x11,x12,x13],.cells t1 [x1],.cells t2 [x2],.cells 54 [.int .i64 0,.int .i64 0]]⟩,
  by kernel_rfl,by kernel_rfl,by kernel_rfl,by kernel_rfl,by kernel_rfl,by kernel_rfl,by kernel_rfl,by kernel_rfl,by kernel_rfl,by kernel_rfl,AN.2 ⟨fun e=>?_,fun l hl=>?_⟩,rfl,by kernel_rfl,by kernel_rfl,by kernel_rfl,rfl⟩
 · have h:=congrArg zR (pB t0 t1 t2 x3 x4 x5 x6 x7 x8 x9 x10 x11 x12 x13 x1 x2 x y)
   rw [e] at h;cases h
 · have h:Gs (evOps (plainC CC) noCall false (opsOf (Aa yY [1,1,0])) (A' (opsOf (Aa yY [1,1,0])) l) [] ⟨[.bp 0 0,.bp 1 0,.bp 2 0,.bp 3 0,.bool true,.tup [.agg [.int .i64 x,.int .i64 y],.bool true],.iface 54 (.agg [.int .i64 x,.int .i64 y]),.tup [.agg [.int .i64 x,.int .i64 y],.bool true],.agg [.int .i64 x,.int .i64 y],.bool true,.bool true],[.cells t0 [x3,x4,x5,x6,x7,x8,x9,x10,x11,x12,x13],.cells t1 [x1],.cells t2 [x2],.cells 54 [.int .i64 x,.int .i64 y]]⟩) ∈ zm 126 (some (.normal,⟨[.bp 0 0,.bp 1 0,.bp 2 0,.bp 3 0,.bool true,.tup [.agg [.int .i64 x,.int .i64 y],.bool true],.iface 54 (.agg [.int .i64 x,.int .i64 y]),.tup [.agg [.int .i64 x,.int .i64 y],.bool true],.agg [.int .i64 x,.int .i64 y],.bool true,.bool true,.agg Cq,.bp 3 0,.int .i64 x,.bp 3 1,.int .i64 y],[.cells t0 Cq,.cells t1 [.int .i64 x],.cells t2 [.int .i64 y],.cells 54 [.int .i64 x,.int .i64 y]]⟩)):=by
    rw [<- pB t0 t1 t2 x3 x4 x5 x6 x7 x8 x9 x10 x11 x12 x13 x1 x2 x y];exact zA hl
   exact zr h
theorem en {v:PV} (h:v.pure=true):v.ro.pure=true:=by
 cases v <;> first | exact h | (simp only [PV.ro,PV.pure] at h |-;exact h)
theorem Tp {v:PV} (h:v.pure=true):v.seal1.pure=true:=by
 cases v <;> first | exact h | (simp only [PV.seal1,PV.pure,Aq] at h |-;exact h)
theorem Tq {v:PV} (h:v.pure=true):v.shutV.pure=true:=by
 cases v <;> first | exact Tp h | skip
 rename_i cs;simp only [PV.shutV,PV.pure] at h |-
 induction cs with
 | nil=>rfl
 | cons c r ih=>
  simp only [zO,Aq,y5] at h |-;exact ⟨Tp h.1,ih h.2⟩
theorem gG (c0:List PV) (h:Aq c0=true):(gm c0).pure=true:=by
 match c0,h with
 | [],_=>rfl
 | [x],h=>
  simp only [Aq,zP] at h;exact Tq (en h)
 | _ :: _ :: _,_=>rfl
theorem gH (c0:List PV) (h:Aq c0=true):(cw c0).pure=true:=by
 refine Tq ?_;simp only [PV.pure]
 induction c0 with
 | nil=>rfl
 | cons c r ih=>
  simp only [zO,Aq,y5] at h |-;exact ⟨en h.1,ih h.2⟩
theorem wG (env:List PV) (t0:TypeId) (c0:List PV) (t1:TypeId) (x:Int) (t2:TypeId) (y:Int) (r:List PBox) (h2:getT env 2=.bp 0 0) (h3:getT env 3=.bp 1 0) (h4:getT env 4=.bp 2 0) (hc:c0.length=1\/c0=[.osl 52 []]) :
 CU CC ⟨env,.cells t0 c0 :: .cells t1 [.int .i64 x] :: .cells t2 [.int .i64 y] :: r⟩ y7.results.toList=some [gm c0,.int .i64 x,.int .i64 y]:=by
 have hl:c0.length=1:=by
  rcases hc with h | h
  · exact h
  · subst h;rfl
 have hr:y7.results.toList=[.cell 2 23,.cell 3 3,.cell 4 24]:=by kernel_rfl
 rw [hr];have hE:∃ f,CC.P.underlying 35=some (.struct f):=⟨(match CC.P.underlying 35 with | some (.struct f)=>f | _=>#[]),by kernel_rfl⟩;obtain ⟨fe,xZ⟩:=hE
 match c0,hl with
 | [c0],_=>
  simp only [CU,Iu,opd,raw,h2,h3,h4,PV.ro,HO,Bg,readCells,TG,zt,zu,zN,zH,zC,xZ,zy,zM,zD,zG,zx,if_true,zB,if_false];rfl
theorem wH (env:List PV) (t0:TypeId) (c0:List PV) (t1:TypeId) (x:Int) (t2:TypeId) (y:Int) (r:List PBox) (h2:getT env 2=.bp 0 0) (h3:getT env 3=.bp 1 0) (h4:getT env 4=.bp 2 0) (hc:c0.length=11\/c0=Cq) :
 CU CC ⟨env,.cells t0 c0 :: .cells t1 [.int .i64 x] :: .cells t2 [.int .i64 y] :: r⟩ y6.results.toList=some [cw c0,.int .i64 x,.int .i64 y]:=by
 have hl:c0.length=11:=by
  rcases hc with h | h
  · exact h
  · subst h;rfl
 have hr:y6.results.toList=[.cell 2 35,.cell 3 3,.cell 4 24]:=by kernel_rfl
 rw [hr];have hE:∃ f,CC.P.underlying 35=some (.struct f):=⟨(match CC.P.underlying 35 with | some (.struct f)=>f | _=>#[]),by kernel_rfl⟩;obtain ⟨fe,xZ⟩:=hE
 match c0,hl with
 | [c0,c1,c2,c3,c4,c5,c6,c7,c8,c9,c10],_=>
  simp only [CU,Iu,opd,raw,h2,h3,h4,PV.ro,HO,Bg,readCells,TG,zt,zu,zN,zH,zC,xZ,zy,zM,zD,zG,zx,if_true,zB,if_false];rfl
theorem qB (ev:Code->St->Option (Ex×St)) (N4:EI CC false ev) (args:List PV) (bx:List PBox) (cr:CR) (bx':List PBox) (CA:Ea Ml ev args bx=some (cr,bx')) :
 F4 CC.P 6/\((∀ p ∈ args,∀ t xs,p≠.osl t xs)->∀ (B:Nat) (T:Nat->Prop) (S:AY) (M:List Nat) (vs:List Value) (w:World),Du CC B T S M bx w->CD S M args vs ->
  Calls CC.P 6 vs.toArray w fun e w'=>∃ S' M',Du CC B T S' M' bx' w'/\Grows B T S w S' w'/\M <+: M'/\Outcome S' M' cr e):=
 MV (C:=CC) (fn:=y7) (code:=Ac [1,1] (y7.body.getD .skip)) (i0:=0) (i1:=1) (opsA:=(opsOf (Aa y7 [0]))) (opsB:=(opsOf (Aa y7 [1,0]))) (g:=16) (gn:=yZ) (envA:=Gp)
  (bx0:=[.cells 23 [.nils],.cells 3 [.int .i64 0],.cells 24 [.int .i64 0]])
  (ty6:=((opsOf (Aa y7 [1,0])).getD 0 default).type) (tyd:=((opsOf (Aa y7 [1,0])).getD 1 default).type) (p6:=((opsOf (Aa y7 [1,0])).getD 0 default).pos) (pd:=((opsOf (Aa y7 [1,0])).getD 1 default).pos) (af6:=((opsOf (Aa y7 [1,0])).getD 0 default).after) (afd:=((opsOf (Aa y7 [1,0])).getD 1 default).after)
  (TI:=20) (TF:=54) (zp:=.agg [.int .i64 0,.int .i64 0]) (n0:=1) (zc:=[.osl 52 []]) (fin:=gm)
  (by kernel_rfl) (by kernel_rfl) (by kernel_rfl) (yW (by kernel_rfl)) (yW (by kernel_rfl)) (by kernel_rfl) (by kernel_rfl) (fun s=>by kernel_rfl) (by kernel_rfl) (fun s=>⟨rfl,rfl,rfl⟩) (by kernel_rfl)
  (fun t0 c0 t1 x1 t2 x2 x y hl=>match c0,hl with | [c0],_=>tT t0 t1 t2 c0 x1 x2 x y)
  tR tS (fun e xs=>by simp) (by kernel_rfl) gG wG ev N4 args bx cr bx' CA
theorem qC (ev:Code->St->Option (Ex×St)) (N4:EI CC false ev) (args:List PV) (bx:List PBox) (cr:CR) (bx':List PBox) (CA:Ea Mm ev args bx=some (cr,bx')) :
 F4 CC.P 9/\((∀ p ∈ args,∀ t xs,p≠.osl t xs)->∀ (B:Nat) (T:Nat->Prop) (S:AY) (M:List Nat) (vs:List Value) (w:World),Du CC B T S M bx w->CD S M args vs ->
  Calls CC.P 9 vs.toArray w fun e w'=>∃ S' M',Du CC B T S' M' bx' w'/\Grows B T S w S' w'/\M <+: M'/\Outcome S' M' cr e):=
 MV (C:=CC) (fn:=y6) (code:=Ac [1,1] (y6.body.getD .skip)) (i0:=0) (i1:=1) (opsA:=(opsOf (Aa y6 [0]))) (opsB:=(opsOf (Aa y6 [1,0]))) (g:=26) (gn:=yY) (envA:=Gp)
  (bx0:=[.cells 35 Cq,.cells 3 [.int .i64 0],.cells 24 [.int .i64 0]])
  (ty6:=((opsOf (Aa y6 [1,0])).getD 0 default).type) (tyd:=((opsOf (Aa y6 [1,0])).getD 1 default).type) (p6:=((opsOf (Aa y6 [1,0])).getD 0 default).pos) (pd:=((opsOf (Aa y6 [1,0])).getD 1 default).pos) (af6:=((opsOf (Aa y6 [1,0])).getD 0 default).after) (afd:=((opsOf (Aa y6 [1,0])).getD 1 default).after)
  (TI:=20) (TF:=54) (zp:=.agg [.int .i64 0,.int .i64 0]) (n0:=11) (zc:=Cq) (fin:=cw)
  (by kernel_rfl) (by kernel_rfl) (by kernel_rfl) (yW (by kernel_rfl)) (yW (by kernel_rfl)) (by kernel_rfl) (by kernel_rfl) (fun s=>by kernel_rfl) (by kernel_rfl) (fun s=>⟨rfl,rfl,rfl⟩) (by kernel_rfl)
  (fun t0 c0 t1 x1 t2 x2 x y hl=>match c0,hl with | [c0,c1,c2,c3,c4,c5,c6,c7,c8,c9,c10],_=>tU t0 t1 t2 c0 c1 c2 c3 c4 c5 c6 c7 c8 c9 c10 x1 x2 x y)
  tR tS (fun e xs=>by simp) (by kernel_rfl) gH wH ev N4 args bx cr bx' CA
theorem ZW:Jg CC:=by
 intro f k hk ev N4 args bx cr bx' CA;have h:jL f=some k:=hk;unfold jL at h;split at h
 · rename_i hf
   subst hf;injection h with h
   subst h;exact qB ev N4 args bx cr bx' CA
 · split at h
   · rename_i hf
     subst hf;injection h with h
     subst h;exact qC ev N4 args bx cr bx' CA
   · cases h
set_option maxHeartbeats 4000000
def BX (bx:List PBox) (id:Nat) (P:PBox) (ys:List PBox):List PBox:=bx.set id P++ys
def C5 (bx:List PBox):Prop:=bx.all (·.under bx.length)=true
mutual
theorem under_mono {n m:Nat} (h:n<=m):∀ v:PV,v.under n=true->v.under m=true
 | .top,k=>by simp [PV.under] at k
 | .bool _,_=>by simp [PV.under]
 | .int _ _,_=>by simp [PV.under]
 | .str _,_=>by simp [PV.under]
 | .nils,_=>by simp [PV.under]
 | .sl xs,k=>by simp only [PV.under] at k |-;exact DY h xs k
 | .osl _ xs,k=>by simp only [PV.under] at k |-;exact DY h xs k
 | .ip xs,k=>by simp only [PV.under] at k |-;exact DY h xs k
 | .bp i _,k=>by simp only [PV.under,decide_eq_true_eq] at k |-;omega
 | .nilp,_=>by simp [PV.under]
 | .fn _ x y,k=>by
  simp only [PV.under,y5] at k |-;exact ⟨DY h x k.1,DY h y k.2⟩
 | .nilf,_=>by simp [PV.under]
 | .iface _ v,k=>by simp only [PV.under] at k |-;exact under_mono h v k
 | .nili,_=>by simp [PV.under]
 | .agg xs,k=>by simp only [PV.under] at k |-;exact DY h xs k
 | .tup xs,k=>by simp only [PV.under] at k |-;exact DY h xs k
theorem DY {n m:Nat} (h:n<=m):∀ vs:List PV,Au n vs=true->Au m vs=true
 | [],_=>by simp [Au]
 | v :: r,k=>by
  simp only [Au,y5] at k |-;exact ⟨under_mono h v k.1,DY h r k.2⟩
end
theorem PBox.under_mono {n m:Nat} (h:n<=m) (b:PBox) (k:b.under n=true):b.under m=true:=by
 cases b with
 | cells t cs=>exact DY h cs k
 | iter _ _=>rfl
section
variable {bx:List PBox} {id:Nat} {P:PBox} {ys:List PBox}
theorem PI (h:id < bx.length):(BX bx id P ys)[id]?=some P:=by
 unfold BX;rw [List.getElem?_append_left (by simpa using h),List.getElem?_set_self h]
theorem Hk (h:id < bx.length) (P':PBox):(BX bx id P ys).set id P'=BX bx id P' ys:=by
 unfold BX;rw [List.set_append_left _ _ (by simpa using h),List.set_set]
theorem XD (x:List PBox):BX bx id P ys++x=BX bx id P (ys++x):=by unfold BX;rw [List.append_assoc]
theorem E2:(BX bx id P ys).length=bx.length+ys.length:=by simp [BX]
theorem RD:(BX bx id P ys)[bx.length]?=ys[0]?:=by
 unfold BX;rw [zq (by simp)];simp
theorem ep (k:Nat):(BX bx id P ys)[bx.length+k]?=ys[k]?:=by
 unfold BX;rw [zq (by simp)];simp
theorem eu (y:PBox):(BX bx id P ys).set bx.length y=BX bx id P (ys.set 0 y):=by
 unfold BX;rw [zw _ _ (by simp)];simp
theorem ew (k:Nat) (y:PBox):(BX bx id P ys).set (bx.length+k) y=BX bx id P (ys.set k y):=by
 unfold BX;rw [zw _ _ (by simp)];simp
theorem qD (h:bx[id]?=some P):BX bx id P []=bx:=by
 unfold BX;rw [zI];exact set_same' h
where
 set_same' {bx:List PBox} {id:Nat} {b:PBox} (h:bx[id]?=some b):bx.set id b=bx:=by
  apply List.ext_getElem?;intro j;rw [List.getElem?_set];by_cases e:id=j
  · subst e
    obtain ⟨h1,_⟩:=zg.1 h;rw [if_pos rfl,if_pos h1,h]
  · rw [if_neg e]
theorem IZ (hc:C5 bx) (hP:P.under bx.length=true) (hy:ys.all (·.under (bx.length+ys.length))=true):C5 (BX bx id P ys):=by
 unfold C5 at *;rw [E2];unfold BX;rw [List.all_append,hy,zP,zE];intro x hx;have hx:=List.mem_or_eq_of_mem_set hx;rcases hx with hx | rfl
 · rw [zE] at hc
   exact PBox.under_mono (by omega) x (hc x hx)
 · exact PBox.under_mono (by omega) _ hP
theorem nI (hc:C5 bx) (hP:P.under bx.length=true):C5 (bx.set id P):=by
 have:=IZ (id:=id) (ys:=[]) hc hP rfl;unfold BX at this
 rwa [zI] at this
theorem KC {f:FuncId} {args:List PV} {r:CR} {P':PBox} (hp:Aq args=false) (hc:C5 bx) (hb:bx[id]?=some P) (hP:P'.under bx.length=true) (hr:r.under bx.length=true) (h:∃ ys,Ae CC f args (BX bx id P [])=some (r,BX bx id P' ys)) :
 Ak CC (Ae CC) f args bx=some (r,bx.set id P'):=by
 obtain ⟨ys,h⟩:=h;rw [qD hb] at h;unfold Ak;rw [if_pos (by rw [hp];simp),h];simp only;unfold Fl
 have ht:(BX bx id P' ys).take bx.length=bx.set id P':=by
  unfold BX;rw [List.take_append_of_le_length (by simp),List.take_of_length_le (by simp)]
 rw [ht,hr];have:=nI (id:=id) hc hP;unfold C5 at this;rw [List.length_set] at this;rw [this];rfl
end
def Av (L:List Tk) (i o:Nat) (RL:PV):PBox:=.cells 63 [.sl (A2 L),.int .i64 (i:Int),.int .i64 (o:Int),RL]
def Cr (t:Nat) (e:Int):PV:=.iface 54 (.agg [.int .i64 (t:Int),.int .i64 e])
theorem PJ:∀ L:List Tk,Aq (A2 L)=true
 | []=>rfl
 | t :: r=>by
  show ((ID t).pure && Aq (A2 r))=true;rw [PJ r];rfl
theorem BH {n:Nat} (L:List Tk) (i o:Nat) {RL:PV} (hR:RL.pure=true):(Av L i o RL).under n=true:=by
 unfold Av PBox.under;simp only [Au,PV.under,AE n _ (PJ L),BL n _ hR,Bool.and_self]
theorem Et (n:Nat) (t:Nat) (e:Int):(CR.pan (Cr t e)).under n=true:=by simp [CR.under,Cr,PV.under,Au]
structure TokOK (L:List Tk):Prop where
 len:L.length<=4001
 pos:0 < L.length
 last:(tokAt L (L.length - 1)).1=0
 inner:∀ i,i+1 < L.length->(tokAt L i).1≠0
 at':∀ i,atT L i<=20000
 word:∀ i,(tokAt L i).2.1.length<=20000
 str:∀ i,(tokAt L i).1=3->(tokAt L i).2.1.length<=60
 num:∀ i,(tokAt L i).1=2->(∀ b ∈ (tokAt L i).2.1,48<=b.toNat/\b.toNat<=57)/\amtN (tokAt L i).2.1 0<=1099511627776
def Nt (L:List Tk) (i o:Nat) (RL:PV) (id:Nat) (B:List PBox):Prop:=C5 B/\B[id]?=some (Av L i o RL)
def Vq (f:FuncId) (xs:List PV) (id:Nat) (L:List Tk) (RL:PV) (i o:Nat) (v:PV) (j o':Nat):Prop:=
 ∀ B,Nt L i o RL id B->Ak CC (Ae CC) f (.bp id 0 :: xs) B=some (.ret v,B.set id (Av L j o' RL))
def OC (f:FuncId) (xs:List PV) (id:Nat) (L:List Tk) (RL:PV) (i o:Nat) (t:Nat) (e:Int) (i' o':Nat):Prop:=
 ∀ B,Nt L i o RL id B->Ak CC (Ae CC) f (.bp id 0 :: xs) B=some (.pan (Cr t e),B.set id (Av L i' o' RL))
def YC {α:Type} (f:FuncId) (xs:List PV) (id:Nat) (L:List Tk) (RL:PV) (i o:Nat) (enc:α->PV) (r:PR α):Prop:=match r with
 | .ok a j=>Vq f xs id L RL i o (enc a) j o
 | .bad t e=>∃ i' o',OC f xs id L RL i o t e i' o'
 | .out=>True
theorem IG {bx:List PBox} {id:Nat} {L:List Tk} {i o i0 o0:Nat} {RL:PV} {ys:List PBox} (Ad:id < bx.length) (hc:C5 bx) (hR:RL.pure=true) (hy:ys.all (·.under (bx.length+ys.length))=true):Nt L i o RL id (BX bx id (Av L i o RL) ys):=
 ⟨IZ hc (BH L i o hR) hy,PI Ad⟩
theorem PK (n:Nat) (t:Tk):(ID t).under n=true:=by simp [ID,PV.under,Au]
theorem Fg {L:List Tk} {i:Nat} (h:i < L.length):(A2 L)[i]?=some (ID (tokAt L i)):=by
 unfold A2 tokAt;rw [List.getElem?_map,List.getD_eq_getElem?_getD,List.getElem?_eq_getElem h];rfl
noncomputable def yI:Array Field:=match CC.P.underlying 63 with | some (.struct f)=>f | _=>#[]
noncomputable def yJ:Array Field:=match CC.P.underlying 54 with | some (.struct f)=>f | _=>#[]
theorem vT:CC.P.underlying 63=some (.struct yI)/\CC.P.underlying 54=some (.struct yJ):=⟨by kernel_rfl,by kernel_rfl⟩
theorem ZC:zeroCells CC 59=some [.int .i64 0,.str [],.int .i64 0] /\
 zeroCells CC 35=some [.int .i64 0,.int .i64 0,.int .i64 0,.str [],.int .i64 0,.int .i64 0,.str [],.int .i64 0,.str [],.str [],.nils] /\
 zeroCells CC 32=some [.int .i64 0,.str [],.str []] /\
 zeroCells CC 46=some [.int .i64 0,.int .i64 0,.str [],.str [],.int .i64 0,.str [],.str [],.str [],.int .i64 0,.int .i64 0] /\
 zeroCells CC 49=some [.int .i64 0,.int .i64 0,.str [],.str [],.str [],.int .i64 0,.int .i64 0,.int .i64 0,.str [],.int .i64 0,.int .i64 0,.str [],.int .i64 0,.str [],.str [],.nils] /\
 zeroCells CC 52=some [.str [],.int .i64 0,.nils,.int .i64 0,.int .i64 0,.int .i64 0,.str [],.int .i64 0,.int .i64 0,.str [],.int .i64 0,.str [],.str [],.nils,.nils] /\
 zeroCells CC 23=some [.nils] /\
 zeroCells CC 3=some [.int .i64 0] /\
 zeroCells CC 24=some [.int .i64 0]:=
 ⟨by kernel_rfl,by kernel_rfl,by kernel_rfl,by kernel_rfl,by kernel_rfl,by kernel_rfl,by kernel_rfl,by kernel_rfl,by kernel_rfl⟩
theorem SU:(∀ n t cs,(PBox.cells t cs).under n=Au n cs)/\(∀ n,Au n []=true)/\(∀ n v r,Au n (v :: r)=(v.under n && Au n r))/\(∀ n k x,(PV.int k x).under n=true)/\(∀ n x,(PV.str x).under n=true)/\(∀ n x,(PV.bool x).under n=true) /\
 (∀ n cs,(PV.agg cs).under n=Au n cs)/\(∀ n cs,(PV.sl cs).under n=Au n cs)/\(∀ n,PV.nils.under n=true)/\(∀ n t,(ID t).under n=true)/\(∀ b,(true && b)=b)/\(∀ p:PBox->Bool,([]:List PBox).all p=true)/\(∀ (p:PBox->Bool) x r,(x :: r).all p=(p x && r.all p)):=
 ⟨fun _ _ _=>rfl,fun _=>by simp [Au],fun _ _ _=>by simp [Au],fun _ _ _=>by simp [PV.under],fun _ _=>by simp [PV.under],fun _ _=>by simp [PV.under],fun _ _=>by simp [PV.under],fun _ _=>by simp [PV.under],fun _=>by simp [PV.under],PK,fun _=>rfl,fun _=>rfl,fun _ _ _=>rfl⟩
theorem PZ:(type_of% @ZC)/\(type_of% @PI)/\(type_of% @Hk)/\(type_of% @XD)/\(type_of% @E2)/\(type_of% @RD)/\(type_of% @ep)/\(type_of% @eu)/\(type_of% @ew):=⟨@ZC,@PI,@Hk,@XD,@E2,@RD,@ep,@eu,@ew⟩
theorem PY:(type_of% @vT)/\(type_of% @SU)/\(type_of% @ID.eq_def)/\(type_of% @BV.eq_def)/\(type_of% @y0.{0})/\(type_of% @y1.{0})/\(type_of% @zQ)/\(type_of% @C8.eq_def):=⟨@vT,@SU,@ID.eq_def,@BV.eq_def,@y0,@y1,@zQ,@C8.eq_def⟩
theorem I0 (a b:Nat):((a:Int) == (b:Int))=(a == b):=by
 by_cases h:a=b
 · simp [h]
 · have:¬ (a:Int)=(b:Int):=by omega
   rw [beq_eq_false_iff_ne.2 h,beq_eq_false_iff_ne.2 this]
theorem JX (a b:Nat):((a:Int) != (b:Int))=!(a == b):=by unfold bne;rw [I0]
theorem kg (f:Array Field) (t:TypeId) (v:PV):mkIf (some (.struct f)) t v=some (.iface t v):=rfl
theorem ki (x y:Int):Bp CC 54 [(0,.int .i64 x),(1,.int .i64 y)]=some (.agg [.int .i64 x,.int .i64 y]):=by kernel_rfl
theorem Bl {f:FuncId} {xs:List PV} {id:Nat} {L:List Tk} {RL:PV} {i o:Nat} {v:PV} {j o':Nat} (hR:RL.pure=true) (hv:∀ n,v.under n=true) (h:∀ bx,id < bx.length->C5 bx->∃ ys,Ae CC f (.bp id 0 :: xs) (BX bx id (Av L i o RL) [])=some (.ret v,BX bx id (Av L j o' RL) ys)):Vq f xs id L RL i o v j o':=
 fun B hB=>KC (P:=Av L i o RL) (by simp [Aq,PV.pure]) hB.1 hB.2 (BH L j o' hR) (by simp only [CR.under];exact hv _) (h B (zg.1 hB.2).1 hB.1)
theorem AF {f:FuncId} {xs:List PV} {id:Nat} {L:List Tk} {RL:PV} {i o t:Nat} {e:Int} {i' o':Nat} (hR:RL.pure=true) (h:∀ bx,id < bx.length->C5 bx->∃ ys,Ae CC f (.bp id 0 :: xs) (BX bx id (Av L i o RL) [])=some (.pan (Cr t e),BX bx id (Av L i' o' RL) ys)):OC f xs id L RL i o t e i' o':=
 fun B hB=>KC (P:=Av L i o RL) (by simp [Aq,PV.pure]) hB.1 hB.2 (BH L i' o' hR) (Et _ _ _) (h B (zg.1 hB.2).1 hB.1)
section
variable {bx:List PBox} {id:Nat} {L:List Tk} {i o:Nat} {RL:PV} (Ad:id < bx.length) (hc:C5 bx) (hR:RL.pure=true)
include Ad hc hR
theorem Ab {f:FuncId} {xs:List PV} {v:PV} {j o':Nat} (h:Vq f xs id L RL i o v j o') (ys:List PBox) (hy:ys.all (·.under (bx.length+ys.length))=true) :
 Ak CC (Ae CC) f (.bp id 0 :: xs) (BX bx id (.cells 63 [.sl (A2 L),.int .i64 (i:Int),.int .i64 (o:Int),RL]) ys)=some (.ret v,BX bx id (.cells 63 [.sl (A2 L),.int .i64 (j:Int),.int .i64 (o':Int),RL]) ys):=by
 have:=h _ (IG (i0:=i) (o0:=o) Ad hc hR hy);rw [Hk Ad] at this;exact this
theorem At {f:FuncId} {xs:List PV} {t:Nat} {e:Int} {i' o':Nat} (h:OC f xs id L RL i o t e i' o') (ys:List PBox) (hy:ys.all (·.under (bx.length+ys.length))=true) :
 Ak CC (Ae CC) f (.bp id 0 :: xs) (BX bx id (.cells 63 [.sl (A2 L),.int .i64 (i:Int),.int .i64 (o:Int),RL]) ys)=some (.pan (Cr t e),BX bx id (.cells 63 [.sl (A2 L),.int .i64 (i':Int),.int .i64 (o':Int),RL]) ys):=by
 have:=h _ (IG (i0:=i) (o0:=o) Ad hc hR hy);rw [Hk Ad] at this;exact this
end
theorem KH:Bk CC zo (zo.body.getD .skip)=true:=by kernel_rfl
theorem JY:CC.P.funcs[18]?=some zo:=by kernel_rfl
theorem Lk:Bk CC zn (zn.body.getD .skip)=true:=by kernel_rfl
theorem KI:CC.P.funcs[32]?=some zn:=by kernel_rfl
theorem Nu:Bk CC zd (zd.body.getD .skip)=true:=by kernel_rfl
theorem Mp:CC.P.funcs[31]?=some zd:=by kernel_rfl
theorem Gu {x:List PV} {b:List PBox} (h:x.length.ble zd.ntmps=true):Ae CC 31 x b=CB CC zd.results.toList (Cp CC (zd.body.getD .skip) ⟨x,b⟩):=Ah (fn:=zd) (c:=zd.body.getD .skip) rfl rfl Mp rfl Nu (yW h)
theorem Ll:Bk CC y9 (y9.body.getD .skip)=true:=by kernel_rfl
theorem KJ:CC.P.funcs[58]?=some y9:=by kernel_rfl
theorem FM {x:List PV} {b:List PBox} (h:x.length.ble y9.ntmps=true):Ae CC 58 x b=CB CC y9.results.toList (Cp CC (y9.body.getD .skip) ⟨x,b⟩):=Ah (fn:=y9) (c:=y9.body.getD .skip) rfl rfl KJ rfl Ll (yW h)
theorem Lm:Bk CC y' (y'.body.getD .skip)=true:=by kernel_rfl
theorem KK:CC.P.funcs[36]?=some y':=by kernel_rfl
theorem FN {x:List PV} {b:List PBox} (h:x.length.ble y'.ntmps=true):Ae CC 36 x b=CB CC y'.results.toList (Cp CC (y'.body.getD .skip) ⟨x,b⟩):=Ah (fn:=y') (c:=y'.body.getD .skip) rfl rfl KK rfl Lm (yW h)
theorem Nv:Bk CC y8 (y8.body.getD .skip)=true:=by kernel_rfl
theorem Mq:CC.P.funcs[65]?=some y8:=by kernel_rfl
theorem Gv {x:List PV} {b:List PBox} (h:x.length.ble y8.ntmps=true):Ae CC 65 x b=CB CC y8.results.toList (Cp CC (y8.body.getD .skip) ⟨x,b⟩):=Ah (fn:=y8) (c:=y8.body.getD .skip) rfl rfl Mq rfl Nv (yW h)
theorem Ln:Bk CC za (za.body.getD .skip)=true:=by kernel_rfl
theorem KL:CC.P.funcs[33]?=some za:=by kernel_rfl
theorem FO {x:List PV} {b:List PBox} (h:x.length.ble za.ntmps=true):Ae CC 33 x b=CB CC za.results.toList (Cp CC (za.body.getD .skip) ⟨x,b⟩):=Ah (fn:=za) (c:=za.body.getD .skip) rfl rfl KL rfl Ln (yW h)
theorem Mr:Bk CC ze (ze.body.getD .skip)=true:=by kernel_rfl
theorem Lo:CC.P.funcs[28]?=some ze:=by kernel_rfl
theorem F' {x:List PV} {b:List PBox} (h:x.length.ble ze.ntmps=true):Ae CC 28 x b=CB CC ze.results.toList (Cp CC (ze.body.getD .skip) ⟨x,b⟩):=Ah (fn:=ze) (c:=ze.body.getD .skip) rfl rfl Lo rfl Mr (yW h)
theorem Lp:Bk CC y4 (y4.body.getD .skip)=true:=by kernel_rfl
theorem KM:CC.P.funcs[34]?=some y4:=by kernel_rfl
theorem Ef {x:List PV} {b:List PBox} (h:x.length.ble y4.ntmps=true):Ae CC 34 x b=CB CC y4.results.toList (Cp CC (y4.body.getD .skip) ⟨x,b⟩):=Ah (fn:=y4) (c:=y4.body.getD .skip) rfl rfl KM rfl Lp (yW h)
theorem AJ {id:Nat} {L:List Tk} {i o:Nat} {RL:PV} (hR:RL.pure=true) (hi:i < L.length):Vq 18 [] id L RL i o (ID (tokAt L i)) i o:=by
 refine Bl hR (fun n=>PK n _) fun bx Ad hc=>?_;rw [Ah (fn:=zo) (c:=zo.body.getD .skip) rfl rfl JY rfl KH (yW rfl)];unfold Av;have hg:=Fg hi;have DF:¬ ((i:Int) < 0):=by omega
 generalize tokAt L i=t at *;unfold ID at *;rw [<- Am];simp only [Aa,Ac,zo,yX];simp only [S9,Ag,seval,PY,PZ,Aw,hg,DF,Ad];exact ⟨_,rfl⟩
theorem Dk {id:Nat} {L:List Tk} {i o:Nat} {RL:PV} (hR:RL.pure=true) (k:Nat) (tx:List UInt8) (a:Nat) (e:Int):OC 32 [.agg [.int .i64 (k:Int),.str tx,.int .i64 (a:Int)],.int .i64 e] id L RL i o a e i o:=by
 refine AF hR fun bx Ad hc=>?_;rw [Ah (fn:=zn) (c:=zn.body.getD .skip) rfl rfl KI rfl Lk (yW rfl)];unfold Av Cr;rw [<- Am];simp only [Aa,Ac,zn,yX];simp only [S9,Ag,seval,PY,PZ,Aw,ki,kg,Ad];exact ⟨_,rfl⟩
theorem D1 {id:Nat} {L:List Tk} {i o:Nat} {RL:PV} (hR:RL.pure=true) (hi:i < L.length) (k:Nat) (kk:Int) (Uh:kk=(k:Int)) (w:List UInt8):Vq 31 [.int .i64 kk,.str w] id L RL i o (.bool (B2 L k w i)) i o:=by
 subst Uh;refine Bl hR (fun n=>by simp [PV.under]) fun bx Ad hc=>?_;have t1:=Ab Ad hc hR (AJ (o:=o) hR hi);have hs:HP .eql (tokAt L i).2.1 w=some (.bool ((tokAt L i).2.1 == w)):=rfl;unfold B2;cases hk:(tokAt L i).1 == k with
 | false=>
  have Ft:(((tokAt L i).1:Int) == (k:Int))=false:=by rw [I0];exact hk
  rw [Gu rfl];unfold Av;rw [<- Am];rw [<- AK] at t1;simp only [Aa,Ac,zd,yX];simp only [S9,Ag,seval,PY,PZ,Aw,t1,Ft,hs,Bool.false_and,Ad];exact ⟨_,rfl⟩
 | true=>
  have Ft:(((tokAt L i).1:Int) == (k:Int))=true:=by rw [I0];exact hk
  rw [Gu rfl];unfold Av;rw [<- Am];rw [<- AK] at t1;simp only [Aa,Ac,zd,yX];simp only [S9,Ag,seval,PY,PZ,Aw,t1,Ft,hs,Bool.true_and,Ad];exact ⟨_,rfl⟩
theorem Nw {id:Nat} {L:List Tk} {i o:Nat} {RL:PV} (hR:RL.pure=true) (hi:i < L.length) (hT:TokOK L) (k:Nat) (kk:Int) (Uh:kk=(k:Int)) (w:List UInt8) (hk:B2 L k w i=true):Vq 58 [.int .i64 kk,.str w] id L RL i o (.bool true) (i+1) o:=by
 refine Bl hR (fun n=>by simp [PV.under]) fun bx Ad hc=>?_;have t1:=Ab Ad hc hR (D1 (o:=o) hR hi k kk Uh w);rw [hk] at t1;have hw:zh .i64 ((i:Int)+1)=((i+1:Nat):Int):=by rw [wrap_i64 ⟨by omega,by have:=hT.len;omega⟩];omega
 rw [FM rfl];unfold Av;rw [<- Am];rw [<- AK] at t1;simp only [Aa,Ac,y9,yX];simp only [S9,Ag,seval,PY,PZ,Aw,t1,hw,Ad];exact ⟨_,rfl⟩
theorem Nx {id:Nat} {L:List Tk} {i o:Nat} {RL:PV} (hR:RL.pure=true) (hi:i < L.length) (hT:TokOK L) (k:Nat) (kk:Int) (Uh:kk=(k:Int)) (w:List UInt8) (hk:B2 L k w i=false):Vq 58 [.int .i64 kk,.str w] id L RL i o (.bool false) i o:=by
 refine Bl hR (fun n=>by simp [PV.under]) fun bx Ad hc=>?_;have t1:=Ab Ad hc hR (D1 (o:=o) hR hi k kk Uh w);rw [hk] at t1;have hw:zh .i64 ((i:Int)+1)=((i+1:Nat):Int):=by rw [wrap_i64 ⟨by omega,by have:=hT.len;omega⟩];omega
 rw [FM rfl];unfold Av;rw [<- Am];rw [<- AK] at t1;simp only [Aa,Ac,y9,yX];simp only [S9,Ag,seval,PY,PZ,Aw,t1,hw,Ad];exact ⟨_,rfl⟩
theorem Az {id:Nat} {L:List Tk} {i o:Nat} {RL:PV} (hR:RL.pure=true) (hi:i < L.length) (hT:TokOK L) (w:List UInt8) (hk:B2 L 1 w i=true):Vq 36 [.str w] id L RL i o (.bool true) (i+1) o:=by
 refine Bl hR (fun n=>by simp [PV.under]) fun bx Ad hc=>?_;have t1:=Ab Ad hc hR (Nw (o:=o) hR hi hT 1 1 rfl w hk);rw [FN rfl];unfold Av;rw [<- Am];rw [<- AK] at t1;simp only [Aa,Ac,y',yX];simp only [S9,Ag,seval,PY,PZ,Aw,t1,Ad];exact ⟨_,rfl⟩
theorem Ai {id:Nat} {L:List Tk} {i o:Nat} {RL:PV} (hR:RL.pure=true) (hi:i < L.length) (hT:TokOK L) (w:List UInt8) (hk:B2 L 1 w i=false):Vq 36 [.str w] id L RL i o (.bool false) i o:=by
 refine Bl hR (fun n=>by simp [PV.under]) fun bx Ad hc=>?_;have t1:=Ab Ad hc hR (Nx (o:=o) hR hi hT 1 1 rfl w hk);rw [FN rfl];unfold Av;rw [<- Am];rw [<- AK] at t1;simp only [Aa,Ac,y',yX];simp only [S9,Ag,seval,PY,PZ,Aw,t1,Ad];exact ⟨_,rfl⟩
theorem Bt {id:Nat} {L:List Tk} {i o:Nat} {RL:PV} (hR:RL.pure=true) (hi:i < L.length) (hT:TokOK L) (w:List UInt8) (hk:B2 L 4 w i=true):Vq 65 [.str w] id L RL i o (.bool true) (i+1) o:=by
 refine Bl hR (fun n=>by simp [PV.under]) fun bx Ad hc=>?_;have t1:=Ab Ad hc hR (Nw (o:=o) hR hi hT 4 4 rfl w hk);rw [Gv rfl];unfold Av;rw [<- Am];rw [<- AK] at t1;simp only [Aa,Ac,y8,yX];simp only [S9,Ag,seval,PY,PZ,Aw,t1,Ad];exact ⟨_,rfl⟩
theorem A3 {id:Nat} {L:List Tk} {i o:Nat} {RL:PV} (hR:RL.pure=true) (hi:i < L.length) (hT:TokOK L) (w:List UInt8) (hk:B2 L 4 w i=false):Vq 65 [.str w] id L RL i o (.bool false) i o:=by
 refine Bl hR (fun n=>by simp [PV.under]) fun bx Ad hc=>?_;have t1:=Ab Ad hc hR (Nx (o:=o) hR hi hT 4 4 rfl w hk);rw [Gv rfl];unfold Av;rw [<- Am];rw [<- AK] at t1;simp only [Aa,Ac,y8,yX];simp only [S9,Ag,seval,PY,PZ,Aw,t1,Ad];exact ⟨_,rfl⟩
theorem CE {id:Nat} {L:List Tk} {i o:Nat} {RL:PV} (hR:RL.pure=true) (hi:i < L.length) (hT:TokOK L) (k:Nat) (kk:Int) (Uh:kk=(k:Int)) (w:List UInt8):YC 33 [.int .i64 kk,.str w] id L RL i o (fun _=>.tup []) (BM L k w i):=by
 unfold BM;cases hk:B2 L k w i with
 | true=>
  refine Bl hR (fun n=>by simp [PV.under,Au]) fun bx Ad hc=>?_;have t1:=Ab Ad hc hR (Nw (o:=o) hR hi hT k kk Uh w hk);rw [FO rfl];unfold Av;rw [<- Am];rw [<- AK] at t1;simp only [Aa,Ac,za,yX];simp only [S9,Ag,seval,PY,PZ,Aw,t1,Ad];exact ⟨_,rfl⟩
 | false=>
  refine ⟨i,o,AF hR fun bx Ad hc=>?_⟩;have t1:=Ab Ad hc hR (Nx (o:=o) hR hi hT k kk Uh w hk);have t2:=Ab Ad hc hR (AJ (o:=o) hR hi);have t3:=At Ad hc hR (Dk (i:=i) (o:=o) (L:=L) hR (tokAt L i).1 (tokAt L i).2.1 (tokAt L i).2.2 12);rw [FO rfl];unfold Av atT;rw [<- Am];rw [<- AK] at t1 t2 t3;simp only [Aa,Ac,za,yX];simp only [S9,Ag,seval,PY,PZ,Aw,t1,t2,t3,Ad];exact ⟨_,rfl⟩
theorem Mb {id:Nat} {L:List Tk} {i o:Nat} {RL:PV} (hR:RL.pure=true) (hi:i < L.length) (hT:TokOK L) (k:Nat) (kk:Int) (Uh:kk=(k:Int)):YC 28 [.int .i64 kk] id L RL i o ID (IY L k i):=by
 subst Uh;unfold IY;have hq:=JX (tokAt L i).1 k;have hw:zh .i64 ((i:Int)+1)=((i+1:Nat):Int):=by rw [wrap_i64 ⟨by omega,by have:=hT.len;omega⟩];omega
 by_cases hk:(tokAt L i).1=k
 · rw [if_pos hk]
   refine Bl hR (fun n=>PK n _) fun bx Ad hc=>?_;have t2:=Ab Ad hc hR (AJ (o:=o) hR hi);rw [beq_iff_eq.2 hk] at hq;rw [F' rfl];unfold Av;rw [<- Am];rw [<- AK] at t2;simp only [Aa,Ac,ze,yX];simp only [S9,Ag,seval,PY,PZ,Aw,t2,hq,hw,Ad];exact ⟨_,rfl⟩
 · rw [if_neg hk]
   refine ⟨i,o,AF hR fun bx Ad hc=>?_⟩;have t2:=Ab Ad hc hR (AJ (o:=o) hR hi);have t3:=At Ad hc hR (Dk (i:=i) (o:=o) (L:=L) hR (tokAt L i).1 (tokAt L i).2.1 (tokAt L i).2.2 12);rw [beq_eq_false_iff_ne.2 hk] at hq;rw [F' rfl];unfold Av atT;rw [<- Am];rw [<- AK] at t2 t3;simp only [Aa,Ac,ze,yX];simp only [S9,Ag,seval,PY,PZ,Aw,t2,t3,hq,Ad];exact ⟨_,rfl⟩
theorem H4 {id:Nat} {L:List Tk} {i o:Nat} {RL:PV} (hR:RL.pure=true) (hi:i < L.length) (hT:TokOK L):YC 34 [] id L RL i o (fun s=>.str s) (CI L i):=by
 have h1:=Mb (o:=o) (i:=i) hR hi hT 1 1 rfl (id:=id);have hv:=F7 (tokAt L i).2.1 (by have:=hT.word i;omega);unfold CI;unfold IY at h1;by_cases hk:(tokAt L i).1=1
 · rw [if_pos hk] at h1 |-
   cases hb:Fo (tokAt L i).2.1 with
   | true=>
    rw [hb] at hv;refine Bl hR (fun n=>by simp [PV.under]) fun bx Ad hc=>?_;have t1:=Ab Ad hc hR h1;rw [Ef rfl];unfold Av;rw [<- Am];rw [<- AK] at t1 hv;simp only [Aa,Ac,y4,yX];simp only [S9,Ag,seval,PY,PZ,Aw,t1,hv,Ad];exact ⟨_,rfl⟩
   | false=>
    rw [hb] at hv;refine ⟨i+1,o,AF hR fun bx Ad hc=>?_⟩;have t1:=Ab Ad hc hR h1;have t3:=At Ad hc hR (Dk (i:=i+1) (o:=o) (L:=L) hR (tokAt L i).1 (tokAt L i).2.1 (tokAt L i).2.2 10);rw [Ef rfl];unfold Av atT;rw [<- Am];rw [<- AK] at t1 hv t3;simp only [Aa,Ac,y4,yX];simp only [S9,Ag,seval,PY,PZ,Aw,t1,hv,t3,Ad];exact ⟨_,rfl⟩
 · rw [if_neg hk] at h1 |-
   obtain ⟨i',o',h1⟩:=h1;refine ⟨i',o',AF hR fun bx Ad hc=>?_⟩;have t1:=At Ad hc hR h1;rw [Ef rfl];unfold Av;rw [<- Am];rw [<- AK] at t1 hv;simp only [Aa,Ac,y4,yX];simp only [S9,Ag,seval,PY,PZ,Aw,t1,hv,Ad];exact ⟨_,rfl⟩
theorem Rj:Bk CC y3 (y3.body.getD .skip)=true:=by kernel_rfl
theorem PL:CC.P.funcs[60]?=some y3:=by kernel_rfl
theorem JZ:Bk CC y2 (y2.body.getD .skip)=true:=by kernel_rfl
theorem Jo:CC.P.funcs[37]?=some y2:=by kernel_rfl
theorem CT {x:List PV} {b:List PBox} (h:x.length.ble y2.ntmps=true):Ae CC 37 x b=CB CC y2.results.toList (Cp CC (y2.body.getD .skip) ⟨x,b⟩):=Ah (fn:=y2) (c:=y2.body.getD .skip) rfl rfl Jo rfl JZ (yW h)
theorem Ms:Bk CC zf (zf.body.getD .skip)=true:=by kernel_rfl
theorem Lq:CC.P.funcs[101]?=some zf:=by kernel_rfl
theorem Dw {x:List PV} {b:List PBox} (h:x.length.ble zf.ntmps=true):Ae CC 101 x b=CB CC zf.results.toList (Cp CC (zf.body.getD .skip) ⟨x,b⟩):=Ah (fn:=zf) (c:=zf.body.getD .skip) rfl rfl Lq rfl Ms (yW h)
theorem Lr:Bk CC zk (zk.body.getD .skip)=true:=by kernel_rfl
theorem KN:CC.P.funcs[62]?=some zk:=by kernel_rfl
theorem Ci {x:List PV} {b:List PBox} (h:x.length.ble zk.ntmps=true):Ae CC 62 x b=CB CC zk.results.toList (Cp CC (zk.body.getD .skip) ⟨x,b⟩):=Ah (fn:=zk) (c:=zk.body.getD .skip) rfl rfl KN rfl Lr (yW h)
theorem Mt:Bk CC zl (zl.body.getD .skip)=true:=by kernel_rfl
theorem Ls:CC.P.funcs[61]?=some zl:=by kernel_rfl
theorem Ga {x:List PV} {b:List PBox} (h:x.length.ble zl.ntmps=true):Ae CC 61 x b=CB CC zl.results.toList (Cp CC (zl.body.getD .skip) ⟨x,b⟩):=Ah (fn:=zl) (c:=zl.body.getD .skip) rfl rfl Ls rfl Mt (yW h)
theorem KO:Bk CC zj (zj.body.getD .skip)=true:=by kernel_rfl
theorem J0:CC.P.funcs[63]?=some zj:=by kernel_rfl
theorem C6 {x:List PV} {b:List PBox} (h:x.length.ble zj.ntmps=true):Ae CC 63 x b=CB CC zj.results.toList (Cp CC (zj.body.getD .skip) ⟨x,b⟩):=Ah (fn:=zj) (c:=zj.body.getD .skip) rfl rfl J0 rfl KO (yW h)
theorem KP:Bk CC zi (zi.body.getD .skip)=true:=by kernel_rfl
theorem J1:CC.P.funcs[82]?=some zi:=by kernel_rfl
theorem Fw {x:List PV} {b:List PBox} (h:x.length.ble zi.ntmps=true):Ae CC 82 x b=CB CC zi.results.toList (Cp CC (zi.body.getD .skip) ⟨x,b⟩):=Ah (fn:=zi) (c:=zi.body.getD .skip) rfl rfl J1 rfl KP (yW h)
theorem PM:Bk CC zL (zL.body.getD .skip)=true:=by kernel_rfl
theorem OD:CC.P.funcs[35]?=some zL:=by kernel_rfl
theorem Vr:Bk CC zJ (zJ.body.getD .skip)=true:=by kernel_rfl
theorem Ts:CC.P.funcs[83]?=some zJ:=by kernel_rfl
theorem Gb {L:List Tk} {i:Nat} (hT:TokOK L) (hi:i < L.length) (h:(tokAt L i).1≠0):i+1 < L.length:=by
 rcases Nat.lt_or_ge (i+1) L.length with h1 | h1
 · exact h1
 · have:i=L.length - 1:=by omega
   rw [this] at h;exact absurd hT.last h
theorem AG {L:List Tk} {i k:Nat} {w:List UInt8} (hT:TokOK L) (hi:i < L.length) (h:B2 L k w i=true) (hk:k≠0):i+1 < L.length:=by
 refine Gb hT hi ?_;unfold B2 at h;simp only [y5,beq_iff_eq] at h;rw [h.1];exact hk
theorem Ao {α β:Type} {r:PR α} {f:α->Nat->PR β} {b:β} {j:Nat} (h:r.bind f=.ok b j):∃ a k,r=.ok a k/\f a k=.ok b j:=by
 cases r with
 | ok a k=>exact ⟨a,k,rfl,h⟩
 | bad t e=>cases h
 | out=>cases h
theorem A6 {L:List Tk} {i k:Nat} {w:List UInt8} {a:Unit} {j:Nat} (hT:TokOK L) (hi:i < L.length) (hk:k≠0) (h:BM L k w i=.ok a j):i < j/\j < L.length:=by
 unfold BM at h;split at h
 · rename_i hh
   injection h with _ h
   have:=AG hT hi hh hk;omega
 · cases h
theorem ey {L:List Tk} {i k:Nat} {a:Tk} {j:Nat} (hT:TokOK L) (hi:i < L.length) (hk:k≠0) (h:IY L k i=.ok a j):i < j/\j < L.length:=by
 unfold IY at h;split at h
 · rename_i hh
   injection h with _ h
   have:=Gb hT hi (by rw [hh];exact hk);omega
 · cases h
theorem Dt {L:List Tk} {i:Nat} {a:List UInt8} {j:Nat} (hT:TokOK L) (hi:i < L.length) (h:CI L i=.ok a j):i < j/\j < L.length:=by
 unfold CI at h;split at h
 · rename_i hh
   split at h
   · injection h with _ h
     have:=Gb hT hi (by rw [hh];decide);omega
   · cases h
 · cases h
theorem Qx {L:List Tk} {i:Nat} {a:List UInt8} {j:Nat} (h:CI L i=.ok a j):Fo a=true:=by
 unfold CI at h;split at h
 · split at h
   · rename_i hv
     injection h with h _
     rw [<- h];exact hv
   · cases h
 · cases h
theorem GQ {L:List Tk} {lo Ey i:Nat} {a j:Nat} (hT:TokOK L) (hi:i < L.length) (h:Hj L lo Ey i=.ok a j):i < j/\j < L.length/\lo<=a/\a<=Ey:=by
 unfold Hj at h;split at h
 · rename_i hh
   split at h
   · cases h
   · injection h with h1 h
     have:=Gb hT hi (by rw [hh];decide);omega
 · cases h
theorem RE {L:List Tk} {Ey i:Nat} {a j:Nat} (hT:TokOK L) (hi:i < L.length) (h:Ri L Ey i=.ok a j):i < j/\j < L.length/\a<=Ey:=by
 unfold Ri at h;split at h
 · cases h
 · have:=GQ hT hi h
   omega
theorem BB {α:Type} {f:FuncId} {xs:List PV} {id:Nat} {L:List Tk} {RL:PV} {i o:Nat} {enc:α->PV} {a:α} {j:Nat} (h:Vq f xs id L RL i o (enc a) j o):YC f xs id L RL i o enc (.ok a j):=h
theorem AV {α:Type} {f:FuncId} {xs:List PV} {id:Nat} {L:List Tk} {RL:PV} {i o:Nat} {enc:α->PV} {t:Nat} {e:Int} (h:∃ i' o',OC f xs id L RL i o t e i' o'):YC (α:=α) f xs id L RL i o enc (.bad t e):=h
theorem A4 {α:Type} {f:FuncId} {xs:List PV} {id:Nat} {L:List Tk} {RL:PV} {i o:Nat} {enc:α->PV}:YC (α:=α) f xs id L RL i o enc .out:=trivial
theorem XE:∀ (w:List UInt8) (n:Nat),n<=amtN w n
 | [],n=>zx n
 | b :: r,n=>by
  have:=XE r (10 * n+(b.toNat - 48));show n<=amtN r (10 * n+(b.toNat - 48));omega
theorem ZX (Lc:Code) (hL:Lc=Aa y3 [1,1,0,1,0]) (k a:Int) (tx:List UInt8) (hs:tx.length<=20000) (hd:∀ b ∈ tx,48<=b.toNat/\b.toNat<=57) (hn:amtN tx 0<=1099511627776):∀ (m i n:Nat) (e:List PV),i+m=tx.length->amtN (tx.drop i) n=amtN tx 0->getT e 1=.bp 0 0->getT e 3=.int .i64 n->getT e 4=.int .i64 i ->
 ∃ e',Cp CC Lc ⟨e,[.cells 59 [.int .i64 k,.str tx,.int .i64 a]]⟩=some (.exit 0,⟨e',[.cells 59 [.int .i64 k,.str tx,.int .i64 a]]⟩)/\getT e' 3=.int .i64 (amtN tx 0:Nat):=by
 intro m
 induction m with
 | zero=>
  intro i n e hm ha h1 h3 h4;rw [A0 (Aa y3 [1,1,0,1,0,0]) hL];have hi:¬ (i:Int) < (tx.length:Int):=by omega
  have hlen:=AX tx;have hz:amtN (tx.drop i) n=n:=by rw [List.drop_of_length_le (by omega)];rfl
  rw [hz] at ha;rw [<- Am];simp only [Aa,Ac,y3,yX];simp only [S9,Ag,seval,ZC,C8,y0,y1,h1,h3,h4,hi,hlen];exact ⟨_,rfl,by simp only [S7,Ag,seval,h3,ha]⟩
 | succ m ih=>
  intro i n e hm ha h1 h3 h4;rw [A0 (Aa y3 [1,1,0,1,0,0]) hL];have hi:(i:Int) < (tx.length:Int):=by omega
  have hlen:=AX tx;have hx:tx[i]?=some tx[i]:=by simp
  have Dc:=FE tx i tx[i] hx;have hdd:=hd tx[i] (List.getElem_mem _);have KE:tx.drop i=tx[i] :: tx.drop (i+1):=List.drop_eq_getElem_cons (by omega);rw [KE] at ha;generalize tx[i]=c at *;have ya:amtN (tx.drop (i+1)) (10 * n+(c.toNat - 48))=amtN tx 0:=ha;have Mg:=XE (tx.drop (i+1)) (10 * n+(c.toNat - 48));have w2:zh .u8 ((c.toNat:Int) - 48)=(c.toNat:Int) - 48:=by simp [zh,IntKind.bits,IntKind.signed];omega
  have w3:=L9 ((c.toNat:Int) - 48) ⟨by omega,by omega⟩;have w1:=wrap_i64 (n:=10 * (n:Int)) ⟨by omega,by omega⟩;have w4:=wrap_i64 (n:=10 * (n:Int)+((c.toNat:Int) - 48)) ⟨by omega,by omega⟩;have hw:=wrap_i64 (n:=(i:Int)+1) ⟨by omega,by omega⟩;have bl:((10 * n+(c.toNat - 48):Nat):Int)=10 * (n:Int)+((c.toNat:Int) - 48):=by omega
  have cast1:((i+1:Nat):Int)=(i:Int)+1:=by omega
  have key:=fun e=>ih (i+1) (10 * n+(c.toNat - 48)) e (by omega) ya;rw [bl,cast1] at key;rw [<- Am];rw [<- Am] at key;simp only [Aa,Ac,y3,yX];simp only [S9,Ag,seval,ZC,C8,y0,y1,h1,h3,h4,hi,hlen,Dc,w1,w2,w3,w4,hw];refine key _ ?_ ?_ ?_
  · simp only [S7,Ag,seval,h1]
  · simp only [S7,Ag,seval]
  · simp only [S7,Ag,seval]
theorem Hl (t:Tk) (hs:t.2.1.length<=20000) (hd:∀ b ∈ t.2.1,48<=b.toNat/\b.toNat<=57) (hn:amtN t.2.1 0<=1099511627776) (bx):Ak CC (Ae CC) 60 [ID t] bx=some (.ret (.int .i64 (amtN t.2.1 0:Nat)),bx):=by
 suffices h:∃ b,Ae CC 60 [ID t] []=some (.ret (.int .i64 (amtN t.2.1 0:Nat)),b) by
  obtain ⟨b,h⟩:=h;exact Ax rfl (by simp [Aq,PV.pure,ID]) h rfl
 obtain ⟨k,tx,a⟩:=t;simp only at hs hd hn;unfold ID;simp only;rw [Ah (fn:=y3) (c:=y3.body.getD .skip) rfl rfl PL rfl Rj (yW rfl)];have Af:=fun e=>ZX _ rfl k a tx hs hd hn tx.length 0 0 e (by omega) rfl;simp only [Aa,Ac,y3,yX] at Af |-;rw [<- Am];rw [<- Am] at Af;simp only [S9,Ag,seval,ZC,C8,y0,y1,Af];generalize hE:GZ _ _=z
 have hP:∃ e',z=some (.exit 0,⟨e',[.cells 59 [.int .i64 k,.str tx,.int .i64 a]]⟩)/\getT e' 3=.int .i64 (amtN tx 0:Nat):=by
  rw [<- hE];refine Af _ ?_ ?_ ?_
  · simp only [S7,Ag,seval]
  · simp only [S7,Ag,seval] <;> rfl
  · simp only [S7,Ag,seval] <;> rfl
 obtain ⟨e',he,h3⟩:=hP;subst he;clear hE Af;simp only [S9,Ag,seval,ZC,C8,y0,y1,h3];exact ⟨_,rfl⟩
theorem H5 {id:Nat} {L:List Tk} {i o:Nat} {RL:PV} (hR:RL.pure=true) (hi:i < L.length) (hT:TokOK L) (lo Ey:Nat) (klo khi:Int) (h1:klo=(lo:Int)) (h2:khi=(Ey:Int)):YC 37 [.int .i64 klo,.int .i64 khi] id L RL i o (fun n=>.int .i64 ((n:Nat):Int)) (Hj L lo Ey i):=by
 have h3:=Mb (o:=o) (i:=i) hR hi hT 2 2 rfl (id:=id);unfold Hj;unfold IY at h3;by_cases hk:(tokAt L i).1=2
 · rw [if_pos hk] at h3 |-
   have fG:=Hl (tokAt L i) (hT.word i) (hT.num i hk).1 (hT.num i hk).2;generalize hA:amtN (tokAt L i).2.1 0=A at *;by_cases c1:A < lo
   · rw [if_pos (.inl c1)]
     have c1':(A:Int) < klo:=by omega
     refine ⟨i+1,o,AF hR fun bx Ad hc=>?_⟩;have t1:=Ab Ad hc hR h3;have t3:=At Ad hc hR (Dk (i:=i+1) (o:=o) (L:=L) hR (tokAt L i).1 (tokAt L i).2.1 (tokAt L i).2.2 2);rw [CT rfl];unfold Av atT ID at *;rw [<- Am];rw [<- AK] at t1 fG t3;simp only [Aa,Ac,y2,yX];simp only [S9,Ag,seval,PY,PZ,Aw,t1,fG,t3,c1',Ad];exact ⟨_,rfl⟩
   · have c1':¬ (A:Int) < klo:=by omega
     by_cases c2:Ey < A
     · rw [if_pos (.inr c2)]
       have c2':(A:Int) > khi:=by omega
       refine ⟨i+1,o,AF hR fun bx Ad hc=>?_⟩;have t1:=Ab Ad hc hR h3;have t3:=At Ad hc hR (Dk (i:=i+1) (o:=o) (L:=L) hR (tokAt L i).1 (tokAt L i).2.1 (tokAt L i).2.2 2);rw [CT rfl];unfold Av atT ID at *;rw [<- Am];rw [<- AK] at t1 fG t3;simp only [Aa,Ac,y2,yX];simp only [S9,Ag,seval,PY,PZ,Aw,t1,fG,t3,c1',c2',Ad];exact ⟨_,rfl⟩
     · rw [if_neg (by omega)]
       have c2':¬ (A:Int) > khi:=by omega
       refine BB (Bl hR (fun n=>by simp [PV.under]) fun bx Ad hc=>?_);have t1:=Ab Ad hc hR h3;rw [CT rfl];unfold Av ID at *;rw [<- Am];rw [<- AK] at t1 fG;simp only [Aa,Ac,y2,yX];simp only [S9,Ag,seval,PY,PZ,Aw,t1,fG,c1',c2',Ad];exact ⟨_,rfl⟩
 · rw [if_neg hk] at h3 |-
   obtain ⟨i',o',h3⟩:=h3;refine ⟨i',o',AF hR fun bx Ad hc=>?_⟩;have t1:=At Ad hc hR h3;rw [CT rfl];unfold Av;rw [<- Am];rw [<- AK] at t1;simp only [Aa,Ac,y2,yX];simp only [S9,Ag,seval,PY,PZ,Aw,t1,Ad];exact ⟨_,rfl⟩
end Go.HH
