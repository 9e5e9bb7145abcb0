/-
  What the law needs, packed: N0 C0.
-/
import Derived.Test.YthjcaihemgllaaaGreatDoorProg
import Derived.Lib.ItoaNum
import Derived.Lib.Bytealg
import Derived.KernelRfl
import Derived.Test.YthjcaihemgllaaaGreatDoorK29
namespace Go.HH
open Go
end Go.HH
namespace Go.HH
open Go Go.Proofs
set_option maxRecDepth 100000
def itoaP:List PV->Option PV
 | [.int .i64 n]=>if inI n then some (.str (Lib.itoa n)) else none
 | _=>none
def pow10P:List PV:=Lib.pow10Tab.map (.int .u64)
def ixbP:List PV->Option PV
 | [.str s,.int .u8 c]=>some (.int .i64 (Lib.indexByte s c.toNat.toUInt8))
 | _=>none
def globCC:Nat->Option (List PV):=
 fun g=>if g=1 then some pow10P else none
def primCC (f:FuncId):Option (List PV->Option PV):=
 if f=125 then some itoaP else
 if f=136 then some ixbP else
 none
def ccP:List PV->List PBox->Option (Bool×PV×List PBox)
 | [.bp id 0],bx=>match bx[id]? with
  | some (.cells t [.nilp,q])=>if t=153 then some (false,.tup [],bx.set id (.cells t [.bp id 0,q])) else none
  | some (.cells t [.bp id' 0,q])=>if id'=id∧t=153 then some (false,.tup [],bx) else none
  | _=>none
 | _,_=>none
def byteV:PV->Bool
 | .int .u8 n=>decide (0<=n) && decide (n < 256)
 | _=>false
def bstrP:List PV->List PBox->Option (Bool×PV×List PBox)
 | [.bp id 0],bx=>match bx[id]? with
  | some (.cells t [_,.nils])=>if t=153 then some (false,.str [],bx) else none
  | some (.cells t [p,.osl e xs])=>if t=153∧e=5∧xs.isEmpty=false∧xs.all byteV=true then (bytesOf xs).map fun l=>(false,.str l,bx.set id (.cells t [p,.sl xs])) else none
  | _=>none
 | _,_=>none
def hprimCC (f:FuncId):Option (List PV->List PBox->Option (Bool×PV×List PBox)):=
 if f=166 then some ccP else if f=157 then some bstrP else
 none
def heapF (f:FuncId):Bool:=
 if f=48 then true else
 false
def finR:List PV->PV
 | [x]=>x.ro.shutV
 | _=>.nils
def finE (cs:List PV):PV:=(PV.agg (cs.map PV.ro)).shutV
def zeroE:List PV:=[.int .i64 0,.int .i64 0,.int .i64 0,.str [],.int .i64 0,.int .i64 0,.str [],.int .i64 0,.str [],.str [],.nils]
def envR (s:List UInt8):List PV:=[.str s,und,.bp 0 0,.bp 1 0,.bp 2 0]
noncomputable def catR:Cat:=⟨part' [1,1] (Tryz.f24.body.getD .skip),catPre 51 envR [.cells 41 [.nils],.cells 3 [.int .i64 0],.cells 35 [.int .i64 0]],catPost 84 1 [.osl 32 []] finR⟩
noncomputable def catE:Cat:=⟨part' [1,1] (Tryz.f22.body.getD .skip),catPre 47 envR [.cells 29 zeroE,.cells 3 [.int .i64 0],.cells 35 [.int .i64 0]],catPost 84 11 zeroE finE⟩
noncomputable def catCC (f:FuncId):Option Cat:=
 if f=24 then some catR else if f=22 then some catE else
 none
noncomputable def CC:Cfg:={ P:=Tryz.prog,glob:=globCC,prim:=primCC,heap:=heapF,hprim:=hprimCC,cat:=catCC }
theorem heapCC (f:FuncId):CC.heap f=(f == 48):=by
 show heapF f=_
 unfold heapF
 by_cases h48:f=48
 · subst h48;rfl
 simp [h48]
theorem TG_0:ptrT CC 1=false∧CC.P.underlying 2=some (.int .i64)∧tAgg CC 2=false∧ptrT CC 2=false∧notSlice CC 2=true∧tSize CC 2=some 1∧(CC.P.info? 2).isSome=true∧CC.P.underlying 3=some (.int .i64)∧tAgg CC 3=false∧ptrT CC 3=false∧notSlice CC 3=true∧tSize CC 3=some 1∧(CC.P.info? 3).isSome=true∧CC.P.underlying 4=some .bool∧tAgg CC 4=false∧ptrT CC 4=false∧notSlice CC 4=true∧tSize CC 4=some 1∧(CC.P.info? 4).isSome=true∧CC.P.underlying 5=some (.int .u8)∧tAgg CC 5=false∧ptrT CC 5=false∧notSlice CC 5=true∧tSize CC 5=some 1∧(CC.P.info? 5).isSome=true∧CC.P.underlying 9=some .string∧tAgg CC 9=false∧ptrT CC 9=false∧notSlice CC 9=true∧tSize CC 9=some 1∧(CC.P.info? 9).isSome=true∧CC.P.underlying 12=some (.int .u64)∧tAgg CC 12=false∧ptrT CC 12=false∧notSlice CC 12=true∧tSize CC 12=some 1∧(CC.P.info? 12).isSome=true∧tAgg CC 20=false∧ptrT CC 20=false∧notSlice CC 20=true:=by
 repeat' apply And.intro
 all_goals (intros;kernel_rfl)
theorem TG_1:tSize CC 20=some 1∧CC.P.underlying 21=some (.int .i32)∧tAgg CC 21=false∧ptrT CC 21=false∧notSlice CC 21=true∧tSize CC 21=some 1∧(CC.P.info? 21).isSome=true∧CC.P.underlying 22=some (.slice 58)∧nilV CC 22=.osl 58 []∧tAgg CC 22=false∧ptrT CC 22=false∧notSlice CC 22=false∧tSize CC 22=some 1∧(CC.P.info? 22).isSome=true∧tAgg CC 24=true∧ptrT CC 24=false∧notSlice CC 24=true∧tSize CC 24=some 3∧(CC.P.info? 24).isSome=true∧(∀ cs,fieldP CC 24 0 (.ip cs)=some (.ip (cs.drop 0)))∧(∀ i o,fieldP CC 24 0 (.bp i o)=some (.bp i (o+0)))∧(∀ cs,fieldV CC 24 0 (.agg cs)=partP CC 3 cs 0)∧(∀ cs,fieldP CC 24 1 (.ip cs)=some (.ip (cs.drop 1)))∧(∀ i o,fieldP CC 24 1 (.bp i o)=some (.bp i (o+1)))∧(∀ cs,fieldV CC 24 1 (.agg cs)=partP CC 3 cs 1)∧(∀ cs,fieldP CC 24 2 (.ip cs)=some (.ip (cs.drop 2)))∧(∀ i o,fieldP CC 24 2 (.bp i o)=some (.bp i (o+2)))∧(∀ cs,fieldV CC 24 2 (.agg cs)=partP CC 9 cs 2)∧tAgg CC 26=true∧ptrT CC 26=false∧notSlice CC 26=true∧tSize CC 26=some 3∧(CC.P.info? 26).isSome=true∧(∀ cs,fieldP CC 26 0 (.ip cs)=some (.ip (cs.drop 0)))∧(∀ i o,fieldP CC 26 0 (.bp i o)=some (.bp i (o+0)))∧(∀ cs,fieldV CC 26 0 (.agg cs)=partP CC 3 cs 0)∧(∀ cs,fieldP CC 26 1 (.ip cs)=some (.ip (cs.drop 1)))∧(∀ i o,fieldP CC 26 1 (.bp i o)=some (.bp i (o+1)))∧(∀ cs,fieldV CC 26 1 (.agg cs)=partP CC 9 cs 1)∧(∀ cs,fieldP CC 26 2 (.ip cs)=some (.ip (cs.drop 2))):=by
 repeat' apply And.intro
 all_goals (intros;kernel_rfl)
theorem TG_2:(∀ i o,fieldP CC 26 2 (.bp i o)=some (.bp i (o+2)))∧(∀ cs,fieldV CC 26 2 (.agg cs)=partP CC 9 cs 2)∧CC.P.underlying 27=some (.slice 29)∧nilV CC 27=.osl 29 []∧tAgg CC 27=false∧ptrT CC 27=false∧notSlice CC 27=false∧tSize CC 27=some 1∧(CC.P.info? 27).isSome=true∧tAgg CC 29=true∧ptrT CC 29=false∧notSlice CC 29=true∧tSize CC 29=some 11∧(CC.P.info? 29).isSome=true∧(∀ cs,fieldP CC 29 0 (.ip cs)=some (.ip (cs.drop 0)))∧(∀ i o,fieldP CC 29 0 (.bp i o)=some (.bp i (o+0)))∧(∀ cs,fieldV CC 29 0 (.agg cs)=partP CC 3 cs 0)∧(∀ cs,fieldP CC 29 1 (.ip cs)=some (.ip (cs.drop 1)))∧(∀ i o,fieldP CC 29 1 (.bp i o)=some (.bp i (o+1)))∧(∀ cs,fieldV CC 29 1 (.agg cs)=partP CC 3 cs 1)∧(∀ cs,fieldP CC 29 2 (.ip cs)=some (.ip (cs.drop 2)))∧(∀ i o,fieldP CC 29 2 (.bp i o)=some (.bp i (o+2)))∧(∀ cs,fieldV CC 29 2 (.agg cs)=partP CC 3 cs 2)∧(∀ cs,fieldP CC 29 3 (.ip cs)=some (.ip (cs.drop 3)))∧(∀ i o,fieldP CC 29 3 (.bp i o)=some (.bp i (o+3)))∧(∀ cs,fieldV CC 29 3 (.agg cs)=partP CC 9 cs 3)∧(∀ cs,fieldP CC 29 4 (.ip cs)=some (.ip (cs.drop 4)))∧(∀ i o,fieldP CC 29 4 (.bp i o)=some (.bp i (o+4)))∧(∀ cs,fieldV CC 29 4 (.agg cs)=partP CC 24 cs 4)∧(∀ cs,fieldP CC 29 5 (.ip cs)=some (.ip (cs.drop 7)))∧(∀ i o,fieldP CC 29 5 (.bp i o)=some (.bp i (o+7)))∧(∀ cs,fieldV CC 29 5 (.agg cs)=partP CC 26 cs 7)∧(∀ cs,fieldP CC 29 6 (.ip cs)=some (.ip (cs.drop 10)))∧(∀ i o,fieldP CC 29 6 (.bp i o)=some (.bp i (o+10)))∧(∀ cs,fieldV CC 29 6 (.agg cs)=partP CC 27 cs 10)∧CC.P.underlying 30=some (.slice 60)∧nilV CC 30=.osl 60 []∧tAgg CC 30=false∧ptrT CC 30=false∧notSlice CC 30=false:=by
 repeat' apply And.intro
 all_goals (intros;kernel_rfl)
theorem TG_3:tSize CC 30=some 1∧(CC.P.info? 30).isSome=true∧tAgg CC 32=true∧ptrT CC 32=false∧notSlice CC 32=true∧tSize CC 32=some 15∧(CC.P.info? 32).isSome=true∧(∀ cs,fieldP CC 32 0 (.ip cs)=some (.ip (cs.drop 0)))∧(∀ i o,fieldP CC 32 0 (.bp i o)=some (.bp i (o+0)))∧(∀ cs,fieldV CC 32 0 (.agg cs)=partP CC 9 cs 0)∧(∀ cs,fieldP CC 32 1 (.ip cs)=some (.ip (cs.drop 1)))∧(∀ i o,fieldP CC 32 1 (.bp i o)=some (.bp i (o+1)))∧(∀ cs,fieldV CC 32 1 (.agg cs)=partP CC 3 cs 1)∧(∀ cs,fieldP CC 32 2 (.ip cs)=some (.ip (cs.drop 2)))∧(∀ i o,fieldP CC 32 2 (.bp i o)=some (.bp i (o+2)))∧(∀ cs,fieldV CC 32 2 (.agg cs)=partP CC 22 cs 2)∧(∀ cs,fieldP CC 32 3 (.ip cs)=some (.ip (cs.drop 3)))∧(∀ i o,fieldP CC 32 3 (.bp i o)=some (.bp i (o+3)))∧(∀ cs,fieldV CC 32 3 (.agg cs)=partP CC 29 cs 3)∧(∀ cs,fieldP CC 32 4 (.ip cs)=some (.ip (cs.drop 14)))∧(∀ i o,fieldP CC 32 4 (.bp i o)=some (.bp i (o+14)))∧(∀ cs,fieldV CC 32 4 (.agg cs)=partP CC 30 cs 14)∧ptrT CC 33=false∧ptrT CC 34=false∧CC.P.underlying 35=some (.int .i64)∧tAgg CC 35=false∧ptrT CC 35=false∧notSlice CC 35=true∧tSize CC 35=some 1∧(CC.P.info? 35).isSome=true∧ptrT CC 36=false∧ptrT CC 37=false∧ptrT CC 39=false∧ptrT CC 40=false∧CC.P.underlying 41=some (.slice 32)∧nilV CC 41=.osl 32 []∧tAgg CC 41=false∧ptrT CC 41=false∧notSlice CC 41=false∧tSize CC 41=some 1:=by
 repeat' apply And.intro
 all_goals (intros;kernel_rfl)
theorem TG_4:(CC.P.info? 41).isSome=true∧ptrT CC 42=false∧ptrT CC 43=false∧ptrT CC 44=false∧CC.P.underlying 45=some (.slice 80)∧nilV CC 45=.osl 80 []∧tAgg CC 45=false∧ptrT CC 45=false∧notSlice CC 45=false∧tSize CC 45=some 1∧(CC.P.info? 45).isSome=true∧ptrT CC 47=false∧ptrT CC 49=false∧ptrT CC 50=false∧ptrT CC 52=false∧ptrT CC 53=false∧ptrT CC 54=false∧tAgg CC 56=true∧ptrT CC 56=false∧notSlice CC 56=true∧tSize CC 56=some 3∧(CC.P.info? 56).isSome=true∧(∀ cs,fieldP CC 56 0 (.ip cs)=some (.ip (cs.drop 0)))∧(∀ i o,fieldP CC 56 0 (.bp i o)=some (.bp i (o+0)))∧(∀ cs,fieldV CC 56 0 (.agg cs)=partP CC 3 cs 0)∧(∀ cs,fieldP CC 56 1 (.ip cs)=some (.ip (cs.drop 1)))∧(∀ i o,fieldP CC 56 1 (.bp i o)=some (.bp i (o+1)))∧(∀ cs,fieldV CC 56 1 (.agg cs)=partP CC 9 cs 1)∧(∀ cs,fieldP CC 56 2 (.ip cs)=some (.ip (cs.drop 2)))∧(∀ i o,fieldP CC 56 2 (.bp i o)=some (.bp i (o+2)))∧(∀ cs,fieldV CC 56 2 (.agg cs)=partP CC 9 cs 2)∧tAgg CC 58=true∧ptrT CC 58=false∧notSlice CC 58=true∧tSize CC 58=some 10∧(CC.P.info? 58).isSome=true∧(∀ cs,fieldP CC 58 0 (.ip cs)=some (.ip (cs.drop 0)))∧(∀ i o,fieldP CC 58 0 (.bp i o)=some (.bp i (o+0)))∧(∀ cs,fieldV CC 58 0 (.agg cs)=partP CC 3 cs 0)∧(∀ cs,fieldP CC 58 1 (.ip cs)=some (.ip (cs.drop 1))):=by
 repeat' apply And.intro
 all_goals (intros;kernel_rfl)
theorem TG_5:(∀ i o,fieldP CC 58 1 (.bp i o)=some (.bp i (o+1)))∧(∀ cs,fieldV CC 58 1 (.agg cs)=partP CC 26 cs 1)∧(∀ cs,fieldP CC 58 2 (.ip cs)=some (.ip (cs.drop 4)))∧(∀ i o,fieldP CC 58 2 (.bp i o)=some (.bp i (o+4)))∧(∀ cs,fieldV CC 58 2 (.agg cs)=partP CC 56 cs 4)∧(∀ cs,fieldP CC 58 3 (.ip cs)=some (.ip (cs.drop 7)))∧(∀ i o,fieldP CC 58 3 (.bp i o)=some (.bp i (o+7)))∧(∀ cs,fieldV CC 58 3 (.agg cs)=partP CC 9 cs 7)∧(∀ cs,fieldP CC 58 4 (.ip cs)=some (.ip (cs.drop 8)))∧(∀ i o,fieldP CC 58 4 (.bp i o)=some (.bp i (o+8)))∧(∀ cs,fieldV CC 58 4 (.agg cs)=partP CC 3 cs 8)∧(∀ cs,fieldP CC 58 5 (.ip cs)=some (.ip (cs.drop 9)))∧(∀ i o,fieldP CC 58 5 (.bp i o)=some (.bp i (o+9)))∧(∀ cs,fieldV CC 58 5 (.agg cs)=partP CC 3 cs 9)∧tAgg CC 60=true∧ptrT CC 60=false∧notSlice CC 60=true∧tSize CC 60=some 16∧(CC.P.info? 60).isSome=true∧(∀ cs,fieldP CC 60 0 (.ip cs)=some (.ip (cs.drop 0)))∧(∀ i o,fieldP CC 60 0 (.bp i o)=some (.bp i (o+0)))∧(∀ cs,fieldV CC 60 0 (.agg cs)=partP CC 3 cs 0)∧(∀ cs,fieldP CC 60 1 (.ip cs)=some (.ip (cs.drop 1)))∧(∀ i o,fieldP CC 60 1 (.bp i o)=some (.bp i (o+1)))∧(∀ cs,fieldV CC 60 1 (.agg cs)=partP CC 26 cs 1)∧(∀ cs,fieldP CC 60 2 (.ip cs)=some (.ip (cs.drop 4)))∧(∀ i o,fieldP CC 60 2 (.bp i o)=some (.bp i (o+4)))∧(∀ cs,fieldV CC 60 2 (.agg cs)=partP CC 9 cs 4)∧(∀ cs,fieldP CC 60 3 (.ip cs)=some (.ip (cs.drop 5)))∧(∀ i o,fieldP CC 60 3 (.bp i o)=some (.bp i (o+5)))∧(∀ cs,fieldV CC 60 3 (.agg cs)=partP CC 29 cs 5)∧ptrT CC 61=false∧ptrT CC 62=false∧ptrT CC 63=false∧ptrT CC 64=false∧ptrT CC 65=false∧ptrT CC 66=false∧ptrT CC 68=false∧ptrT CC 69=false∧CC.P.underlying 70=some (.slice 5):=by
 repeat' apply And.intro
 all_goals (intros;kernel_rfl)
theorem TG_6:nilV CC 70=.osl 5 []∧tAgg CC 70=false∧ptrT CC 70=false∧notSlice CC 70=false∧tSize CC 70=some 1∧(CC.P.info? 70).isSome=true∧tAgg CC 72=true∧ptrT CC 72=false∧notSlice CC 72=true∧tSize CC 72=some 1∧(CC.P.info? 72).isSome=true∧(∀ cs,fieldP CC 72 0 (.ip cs)=some (.ip (cs.drop 0)))∧(∀ i o,fieldP CC 72 0 (.bp i o)=some (.bp i (o+0)))∧(∀ cs,fieldV CC 72 0 (.agg cs)=partP CC 70 cs 0)∧ptrT CC 73=false∧ptrT CC 74=false∧ptrT CC 75=false∧ptrT CC 76=false∧ptrT CC 77=false∧ptrT CC 78=false∧tAgg CC 80=true∧ptrT CC 80=false∧notSlice CC 80=true∧tSize CC 80=some 3∧(CC.P.info? 80).isSome=true∧(∀ cs,fieldP CC 80 0 (.ip cs)=some (.ip (cs.drop 0)))∧(∀ i o,fieldP CC 80 0 (.bp i o)=some (.bp i (o+0)))∧(∀ cs,fieldV CC 80 0 (.agg cs)=partP CC 3 cs 0)∧(∀ cs,fieldP CC 80 1 (.ip cs)=some (.ip (cs.drop 1)))∧(∀ i o,fieldP CC 80 1 (.bp i o)=some (.bp i (o+1)))∧(∀ cs,fieldV CC 80 1 (.agg cs)=partP CC 9 cs 1)∧(∀ cs,fieldP CC 80 2 (.ip cs)=some (.ip (cs.drop 2)))∧(∀ i o,fieldP CC 80 2 (.bp i o)=some (.bp i (o+2)))∧(∀ cs,fieldV CC 80 2 (.agg cs)=partP CC 3 cs 2)∧ptrT CC 82=false∧tAgg CC 84=true∧ptrT CC 84=false∧notSlice CC 84=true∧tSize CC 84=some 2∧(CC.P.info? 84).isSome=true:=by
 repeat' apply And.intro
 all_goals (intros;kernel_rfl)
theorem TG_7:(∀ cs,fieldP CC 84 0 (.ip cs)=some (.ip (cs.drop 0)))∧(∀ i o,fieldP CC 84 0 (.bp i o)=some (.bp i (o+0)))∧(∀ cs,fieldV CC 84 0 (.agg cs)=partP CC 3 cs 0)∧(∀ cs,fieldP CC 84 1 (.ip cs)=some (.ip (cs.drop 1)))∧(∀ i o,fieldP CC 84 1 (.bp i o)=some (.bp i (o+1)))∧(∀ cs,fieldV CC 84 1 (.agg cs)=partP CC 35 cs 1)∧CC.P.underlying 86=some (.pointer 92)∧tAgg CC 86=false∧ptrT CC 86=true∧notSlice CC 86=true∧tSize CC 86=some 1∧(CC.P.info? 86).isSome=true∧ptrT CC 87=false∧ptrT CC 88=false∧ptrT CC 89=false∧ptrT CC 90=false∧tAgg CC 92=true∧ptrT CC 92=false∧notSlice CC 92=true∧tSize CC 92=some 4∧(CC.P.info? 92).isSome=true∧(∀ cs,fieldP CC 92 0 (.ip cs)=some (.ip (cs.drop 0)))∧(∀ i o,fieldP CC 92 0 (.bp i o)=some (.bp i (o+0)))∧(∀ cs,fieldV CC 92 0 (.agg cs)=partP CC 45 cs 0)∧(∀ cs,fieldP CC 92 1 (.ip cs)=some (.ip (cs.drop 1)))∧(∀ i o,fieldP CC 92 1 (.bp i o)=some (.bp i (o+1)))∧(∀ cs,fieldV CC 92 1 (.agg cs)=partP CC 3 cs 1)∧(∀ cs,fieldP CC 92 2 (.ip cs)=some (.ip (cs.drop 2)))∧(∀ i o,fieldP CC 92 2 (.bp i o)=some (.bp i (o+2)))∧(∀ cs,fieldV CC 92 2 (.agg cs)=partP CC 3 cs 2)∧(∀ cs,fieldP CC 92 3 (.ip cs)=some (.ip (cs.drop 3)))∧(∀ i o,fieldP CC 92 3 (.bp i o)=some (.bp i (o+3)))∧(∀ cs,fieldV CC 92 3 (.agg cs)=partP CC 41 cs 3)∧ptrT CC 93=false∧ptrT CC 94=false∧ptrT CC 95=false∧ptrT CC 96=false∧ptrT CC 97=false∧ptrT CC 98=false∧ptrT CC 99=false:=by
 repeat' apply And.intro
 all_goals (intros;kernel_rfl)
theorem TG_8:ptrT CC 100=false∧ptrT CC 102=false∧ptrT CC 103=false∧ptrT CC 104=false∧ptrT CC 105=false∧ptrT CC 106=false∧ptrT CC 107=false∧ptrT CC 108=false∧ptrT CC 109=false∧ptrT CC 110=false∧CC.P.underlying 111=some (.slice 9)∧nilV CC 111=.osl 9 []∧tAgg CC 111=false∧ptrT CC 111=false∧notSlice CC 111=false∧tSize CC 111=some 1∧(CC.P.info? 111).isSome=true∧CC.P.underlying 112=some (.pointer 72)∧tAgg CC 112=false∧ptrT CC 112=true∧notSlice CC 112=true∧tSize CC 112=some 1∧(CC.P.info? 112).isSome=true∧ptrT CC 113=false∧ptrT CC 114=false∧ptrT CC 115=false∧ptrT CC 116=false∧ptrT CC 118=false∧ptrT CC 119=false∧ptrT CC 120=false∧ptrT CC 121=false∧ptrT CC 122=false∧ptrT CC 123=false∧ptrT CC 124=false∧ptrT CC 125=false∧ptrT CC 126=false∧ptrT CC 127=false∧ptrT CC 128=false∧ptrT CC 129=false∧ptrT CC 130=false:=by
 repeat' apply And.intro
 all_goals (intros;kernel_rfl)
theorem TG_9:CC.P.underlying 131=some (.array 5 9)∧tAgg CC 131=true∧ptrT CC 131=false∧notSlice CC 131=true∧tSize CC 131=some 5∧(CC.P.info? 131).isSome=true∧ptrT CC 132=false∧CC.P.underlying 133=some (.int .u64)∧tAgg CC 133=false∧ptrT CC 133=false∧notSlice CC 133=true∧tSize CC 133=some 1∧(CC.P.info? 133).isSome=true∧ptrT CC 134=false∧ptrT CC 135=false∧ptrT CC 137=false∧ptrT CC 138=false∧ptrT CC 139=false∧ptrT CC 140=false∧ptrT CC 141=false∧ptrT CC 142=false∧ptrT CC 143=false∧ptrT CC 144=false∧ptrT CC 146=false∧ptrT CC 147=false∧ptrT CC 149=false∧CC.P.underlying 150=some (.array 7 9)∧tAgg CC 150=true∧ptrT CC 150=false∧notSlice CC 150=true∧tSize CC 150=some 7∧(CC.P.info? 150).isSome=true∧CC.P.underlying 151=some (.pointer 153)∧tAgg CC 151=false∧ptrT CC 151=true∧notSlice CC 151=true∧tSize CC 151=some 1∧(CC.P.info? 151).isSome=true∧tAgg CC 153=true∧ptrT CC 153=false:=by
 repeat' apply And.intro
 all_goals (intros;kernel_rfl)
theorem TG_10:notSlice CC 153=true∧tSize CC 153=some 2∧(CC.P.info? 153).isSome=true∧(∀ cs,fieldP CC 153 0 (.ip cs)=some (.ip (cs.drop 0)))∧(∀ i o,fieldP CC 153 0 (.bp i o)=some (.bp i (o+0)))∧(∀ cs,fieldV CC 153 0 (.agg cs)=partP CC 151 cs 0)∧(∀ cs,fieldP CC 153 1 (.ip cs)=some (.ip (cs.drop 1)))∧(∀ i o,fieldP CC 153 1 (.bp i o)=some (.bp i (o+1)))∧(∀ cs,fieldV CC 153 1 (.agg cs)=partP CC 70 cs 1)∧tAgg CC 154=false∧ptrT CC 154=false∧notSlice CC 154=true∧tSize CC 154=some 1∧tAgg CC 155=false∧ptrT CC 155=false∧notSlice CC 155=true∧tSize CC 155=some 1∧ptrT CC 157=false∧ptrT CC 158=false∧ptrT CC 159=false∧ptrT CC 160=false∧ptrT CC 161=false∧ptrT CC 162=false∧ptrT CC 163=false∧CC.P.underlying 164=some (.pointer 5)∧tAgg CC 164=false∧ptrT CC 164=true∧notSlice CC 164=true∧tSize CC 164=some 1∧(CC.P.info? 164).isSome=true∧ptrT CC 165=false∧ptrT CC 167=false∧ptrT CC 168=false∧CC.P.underlying 169=some (.array 24 5)∧tAgg CC 169=true∧ptrT CC 169=false∧notSlice CC 169=true∧tSize CC 169=some 24∧(CC.P.info? 169).isSome=true∧CC.P.underlying 170=some (.int .u64):=by
 repeat' apply And.intro
 all_goals (intros;kernel_rfl)
theorem TG_11:tAgg CC 170=false∧ptrT CC 170=false∧notSlice CC 170=true∧tSize CC 170=some 1∧(CC.P.info? 170).isSome=true∧ptrT CC 171=false∧ptrT CC 172=false∧ptrT CC 174=false∧ptrT CC 176=false∧ptrT CC 177=false∧CC.P.underlying 178=some (.array 20 170)∧tAgg CC 178=true∧ptrT CC 178=false∧notSlice CC 178=true∧tSize CC 178=some 20∧(CC.P.info? 178).isSome=true∧CC.P.underlying 179=some (.int .u32)∧tAgg CC 179=false∧ptrT CC 179=false∧notSlice CC 179=true∧tSize CC 179=some 1∧(CC.P.info? 179).isSome=true∧CC.P.underlying 180=some (.array 65 5)∧tAgg CC 180=true∧ptrT CC 180=false∧notSlice CC 180=true∧tSize CC 180=some 65∧(CC.P.info? 180).isSome=true∧ptrT CC 181=false∧ptrT CC 182=false∧CC.P.underlying 183=some (.array 32 5)∧tAgg CC 183=true∧ptrT CC 183=false∧notSlice CC 183=true∧tSize CC 183=some 32∧(CC.P.info? 183).isSome=true∧CC.P.underlying 184=some (.array 64 5)∧tAgg CC 184=true∧ptrT CC 184=false∧notSlice CC 184=true:=by
 repeat' apply And.intro
 all_goals (intros;kernel_rfl)
theorem TG_12:tSize CC 184=some 64∧(CC.P.info? 184).isSome=true∧CC.P.underlying 185=some (.array 4 9)∧tAgg CC 185=true∧ptrT CC 185=false∧notSlice CC 185=true∧tSize CC 185=some 4∧(CC.P.info? 185).isSome=true∧ptrT CC 193=false:=by
 repeat' apply And.intro
 all_goals (intros;kernel_rfl)
theorem TG:(type_of% TG_0)∧(type_of% TG_1)∧(type_of% TG_2)∧(type_of% TG_3)∧(type_of% TG_4)∧(type_of% TG_5)∧(type_of% TG_6)∧(type_of% TG_7)∧(type_of% TG_8)∧(type_of% TG_9)∧(type_of% TG_10)∧(type_of% TG_11)∧(type_of% TG_12)∧(∀ f,CC.heap f=(f == 48)):=
 ⟨TG_0,TG_1,TG_2,TG_3,TG_4,TG_5,TG_6,TG_7,TG_8,TG_9,TG_10,TG_11,TG_12,heapCC⟩
noncomputable def fU_24:Array Field:=match Tryz.prog.underlying 24 with | some (.struct f)=>f | _=>#[]
noncomputable def fU_29:Array Field:=match Tryz.prog.underlying 29 with | some (.struct f)=>f | _=>#[]
noncomputable def fU_26:Array Field:=match Tryz.prog.underlying 26 with | some (.struct f)=>f | _=>#[]
noncomputable def fU_56:Array Field:=match Tryz.prog.underlying 56 with | some (.struct f)=>f | _=>#[]
noncomputable def fU_58:Array Field:=match Tryz.prog.underlying 58 with | some (.struct f)=>f | _=>#[]
noncomputable def fU_60:Array Field:=match Tryz.prog.underlying 60 with | some (.struct f)=>f | _=>#[]
noncomputable def fU_32:Array Field:=match Tryz.prog.underlying 32 with | some (.struct f)=>f | _=>#[]
noncomputable def fU_80:Array Field:=match Tryz.prog.underlying 80 with | some (.struct f)=>f | _=>#[]
theorem UT:CC.P.underlying 24=some (.struct fU_24)∧CC.P.underlying 29=some (.struct fU_29)∧CC.P.underlying 26=some (.struct fU_26)∧CC.P.underlying 56=some (.struct fU_56)∧CC.P.underlying 58=some (.struct fU_58)∧CC.P.underlying 60=some (.struct fU_60)∧CC.P.underlying 32=some (.struct fU_32)∧CC.P.underlying 80=some (.struct fU_80):=by
 repeat' apply And.intro
 all_goals kernel_rfl
theorem S7:(type_of% @SA)∧(type_of% @SB)∧(type_of% @SD)∧(type_of% @SF):=⟨@SA,@SB,@SD,@SF⟩
theorem S8:(type_of% @S7)∧(type_of% @TG)∧(type_of% @SE):=⟨@S7,@TG,@SE⟩
theorem S9:(type_of% @S8)∧(type_of% @SG)∧(type_of% @SH)∧(type_of% @SC)∧(type_of% @UT):=⟨@S8,@SG,@SH,@SC,@UT⟩
theorem call_strconv_Itoa (n:Int) (h:inI n) (bx):callL CC 125 [.int .i64 n] bx=some (.ret (.str (Lib.itoa n)),bx):=by
 have hp:CC.prim 125=some itoaP:=rfl
 have hq:CC.hprim 125=none:=rfl
 unfold callL bodyP bodyQ
 simp only [show CC.cat 125=none from rfl,hq,hp,pureL,PV.pure,Bool.and_self,if_true,itoaP,if_pos h,Option.map_some]
theorem op_strconv_Itoa (n:Int) (h:inI n) (bx):callOp CC (callL CC) 125 [.int .i64 n] bx=some (.ret (.str (Lib.itoa n)),bx):=callOp_of rfl (by simp only [SA,Bool.and_true]) (call_strconv_Itoa n h []) rfl
theorem call_strings_IndexByte (s:List UInt8) (c:Int) (bx):callL CC 136 [.str s,.int .u8 c] bx=some (.ret (.int .i64 (Lib.indexByte s c.toNat.toUInt8)),bx):=by
 have hp:CC.prim 136=some ixbP:=rfl
 have hq:CC.hprim 136=none:=rfl
 unfold callL bodyP bodyQ
 simp only [show CC.cat 136=none from rfl,hq,hp,pureL,PV.pure,Bool.and_self,if_true,ixbP,Option.map_some]
theorem op_strings_IndexByte (s:List UInt8) (c:Int) (bx):callOp CC (callL CC) 136 [.str s,.int .u8 c] bx=some (.ret (.int .i64 (Lib.indexByte s c.toNat.toUInt8)),bx):=callOp_of rfl (by simp only [SA,Bool.and_true]) (call_strings_IndexByte s c []) rfl
end Go.HH
