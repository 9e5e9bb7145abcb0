/-
  What the law needs, packed: N0 C0 Q1.
-/
import Derived.Test.YthjcaihemgllaaaGreatDoorProg
import Derived.Lib.ItoaNum
import Derived.Lib.Bytealg
import Derived.KernelRfl
import Derived.Test.YthjcaihemgllaaaGreatDoorM30
namespace Go.HH
open Go
end Go.HH
namespace Go.HH
open Go Go.Proofs
set_option maxRecDepth 100000
def itoaP:List PV->Option PV
 | [.int .i64 n]=>if inI n then some (.str (Lib.itoa n)) else none
 | _=>none
def pow10P:List PV:=Lib.pow10Tab.map (.int .u64)
def ixbP:List PV->Option PV
 | [.str s,.int .u8 c]=>some (.int .i64 (Lib.indexByte s c.toNat.toUInt8))
 | _=>none
def globCC:Nat->Option (List PV):=
 fun g=>if g=1 then some pow10P else none
def primCC (f:FuncId):Option (List PV->Option PV):=
 if f=125 then some itoaP else
 if f=136 then some ixbP else
 none
def ccP:List PV->List PBox->Option (Bool×PV×List PBox)
 | [.bp id 0],bx=>match bx[id]? with
  | some (.cells t [.nilp,q])=>if t=153 then some (false,.tup [],bx.set id (.cells t [.bp id 0,q])) else none
  | some (.cells t [.bp id' 0,q])=>if id'=id∧t=153 then some (false,.tup [],bx) else none
  | _=>none
 | _,_=>none
def byteV:PV->Bool
 | .int .u8 n=>decide (0<=n) && decide (n < 256)
 | _=>false
def bstrP:List PV->List PBox->Option (Bool×PV×List PBox)
 | [.bp id 0],bx=>match bx[id]? with
  | some (.cells t [_,.nils])=>if t=153 then some (false,.str [],bx) else none
  | some (.cells t [p,.osl e xs])=>if t=153∧e=5∧xs.isEmpty=false∧xs.all byteV=true then (bytesOf xs).map fun l=>(false,.str l,bx.set id (.cells t [p,.sl xs])) else none
  | _=>none
 | _,_=>none
def hprimCC (f:FuncId):Option (List PV->List PBox->Option (Bool×PV×List PBox)):=
 if f=166 then some ccP else if f=157 then some bstrP else
 none
def heapF (f:FuncId):Bool:=
 if f=48 then true else
 false
def finR:List PV->PV
 | [x]=>x.ro.shutV
 | _=>.nils
def finE (cs:List PV):PV:=(PV.agg (cs.map PV.ro)).shutV
def zeroE:List PV:=[.int .i64 0,.int .i64 0,.int .i64 0,.str [],.int .i64 0,.int .i64 0,.str [],.int .i64 0,.str [],.str [],.nils]
def envR (s:List UInt8):List PV:=[.str s,und,.bp 0 0,.bp 1 0,.bp 2 0]
noncomputable def catR:Cat:=⟨part' [1,1] (Tryz.f24.body.getD .skip),catPre 51 envR [.cells 41 [.nils],.cells 3 [.int .i64 0],.cells 35 [.int .i64 0]],catPost 84 1 [.osl 32 []] finR⟩
noncomputable def catE:Cat:=⟨part' [1,1] (Tryz.f22.body.getD .skip),catPre 47 envR [.cells 29 zeroE,.cells 3 [.int .i64 0],.cells 35 [.int .i64 0]],catPost 84 11 zeroE finE⟩
noncomputable def catCC (f:FuncId):Option Cat:=
 if f=24 then some catR else if f=22 then some catE else
 none
noncomputable def CC:Cfg:={ P:=Tryz.prog,glob:=globCC,prim:=primCC,heap:=heapF,hprim:=hprimCC,cat:=catCC }
theorem heapCC (f:FuncId):CC.heap f=(f == 48):=by
 show heapF f=_
 unfold heapF
 by_cases h48:f=48
 · subst h48;rfl
 simp [h48]
theorem TG_0:ptrT CC 1=false∧CC.P.underlying 2=some (.int .i64)∧tAgg CC 2=false∧ptrT CC 2=false∧notSlice CC 2=true∧tSize CC 2=some 1∧(CC.P.info? 2).isSome=true∧CC.P.underlying 3=some (.int .i64)∧tAgg CC 3=false∧ptrT CC 3=false∧notSlice CC 3=true∧tSize CC 3=some 1∧(CC.P.info? 3).isSome=true∧CC.P.underlying 4=some .bool∧tAgg CC 4=false∧ptrT CC 4=false∧notSlice CC 4=true∧tSize CC 4=some 1∧(CC.P.info? 4).isSome=true∧CC.P.underlying 5=some (.int .u8)∧tAgg CC 5=false∧ptrT CC 5=false∧notSlice CC 5=true∧tSize CC 5=some 1∧(CC.P.info? 5).isSome=true∧CC.P.underlying 9=some .string∧tAgg CC 9=false∧ptrT CC 9=false∧notSlice CC 9=true∧tSize CC 9=some 1∧(CC.P.info? 9).isSome=true∧CC.P.underlying 12=some (.int .u64)∧tAgg CC 12=false∧ptrT CC 12=false∧notSlice CC 12=true∧tSize CC 12=some 1∧(CC.P.info? 12).isSome=true∧tAgg CC 20=false∧ptrT CC 20=false∧notSlice CC 20=true:=by
 repeat' apply And.intro
 all_goals (intros;kernel_rfl)
theorem TG_1:tSize CC 20=some 1∧CC.P.underlying 21=some (.int .i32)∧tAgg CC 21=false∧ptrT CC 21=false∧notSlice CC 21=true∧tSize CC 21=some 1∧(CC.P.info? 21).isSome=true∧CC.P.underlying 22=some (.slice 58)∧nilV CC 22=.osl 58 []∧tAgg CC 22=false∧ptrT CC 22=false∧notSlice CC 22=false∧tSize CC 22=some 1∧(CC.P.info? 22).isSome=true∧tAgg CC 24=true∧ptrT CC 24=false∧notSlice CC 24=true∧tSize CC 24=some 3∧(CC.P.info? 24).isSome=true∧(∀ cs,fieldP CC 24 0 (.ip cs)=some (.ip (cs.drop 0)))∧(∀ i o,fieldP CC 24 0 (.bp i o)=some (.bp i (o+0)))∧(∀ cs,fieldV CC 24 0 (.agg cs)=partP CC 3 cs 0)∧(∀ cs,fieldP CC 24 1 (.ip cs)=some (.ip (cs.drop 1)))∧(∀ i o,fieldP CC 24 1 (.bp i o)=some (.bp i (o+1)))∧(∀ cs,fieldV CC 24 1 (.agg cs)=partP CC 3 cs 1)∧(∀ cs,fieldP CC 24 2 (.ip cs)=some (.ip (cs.drop 2)))∧(∀ i o,fieldP CC 24 2 (.bp i o)=some (.bp i (o+2)))∧(∀ cs,fieldV CC 24 2 (.agg cs)=partP CC 9 cs 2)∧tAgg CC 26=true∧ptrT CC 26=false∧notSlice CC 26=true∧tSize CC 26=some 3∧(CC.P.info? 26).isSome=true∧(∀ cs,fieldP CC 26 0 (.ip cs)=some (.ip (cs.drop 0)))∧(∀ i o,fieldP CC 26 0 (.bp i o)=some (.bp i (o+0)))∧(∀ cs,fieldV CC 26 0 (.agg cs)=partP CC 3 cs 0)∧(∀ cs,fieldP CC 26 1 (.ip cs)=some (.ip (cs.drop 1)))∧(∀ i o,fieldP CC 26 1 (.bp i o)=some (.bp i (o+1)))∧(∀ cs,fieldV CC 26 1 (.agg cs)=partP CC 9 cs 1)∧(∀ cs,fieldP CC 26 2 (.ip cs)=some (.ip (cs.drop 2))):=by
 repeat' apply And.intro
 all_goals (intros;kernel_rfl)
theorem TG_2:(∀ i o,fieldP CC 26 2 (.bp i o)=some (.bp i (o+2)))∧(∀ cs,fieldV CC 26 2 (.agg cs)=partP CC 9 cs 2)∧CC.P.underlying 27=some (.slice 29)∧nilV CC 27=.osl 29 []∧tAgg CC 27=false∧ptrT CC 27=false∧notSlice CC 27=false∧tSize CC 27=some 1∧(CC.P.info? 27).isSome=true∧tAgg CC 29=true∧ptrT CC 29=false∧notSlice CC 29=true∧tSize CC 29=some 11∧(CC.P.info? 29).isSome=true∧(∀ cs,fieldP CC 29 0 (.ip cs)=some (.ip (cs.drop 0)))∧(∀ i o,fieldP CC 29 0 (.bp i o)=some (.bp i (o+0)))∧(∀ cs,fieldV CC 29 0 (.agg cs)=partP CC 3 cs 0)∧(∀ cs,fieldP CC 29 1 (.ip cs)=some (.ip (cs.drop 1)))∧(∀ i o,fieldP CC 29 1 (.bp i o)=some (.bp i (o+1)))∧(∀ cs,fieldV CC 29 1 (.agg cs)=partP CC 3 cs 1)∧(∀ cs,fieldP CC 29 2 (.ip cs)=some (.ip (cs.drop 2)))∧(∀ i o,fieldP CC 29 2 (.bp i o)=some (.bp i (o+2)))∧(∀ cs,fieldV CC 29 2 (.agg cs)=partP CC 3 cs 2)∧(∀ cs,fieldP CC 29 3 (.ip cs)=some (.ip (cs.drop 3)))∧(∀ i o,fieldP CC 29 3 (.bp i o)=some (.bp i (o+3)))∧(∀ cs,fieldV CC 29 3 (.agg cs)=partP CC 9 cs 3)∧(∀ cs,fieldP CC 29 4 (.ip cs)=some (.ip (cs.drop 4)))∧(∀ i o,fieldP CC 29 4 (.bp i o)=some (.bp i (o+4)))∧(∀ cs,fieldV CC 29 4 (.agg cs)=partP CC 24 cs 4)∧(∀ cs,fieldP CC 29 5 (.ip cs)=some (.ip (cs.drop 7)))∧(∀ i o,fieldP CC 29 5 (.bp i o)=some (.bp i (o+7)))∧(∀ cs,fieldV CC 29 5 (.agg cs)=partP CC 26 cs 7)∧(∀ cs,fieldP CC 29 6 (.ip cs)=some (.ip (cs.drop 10)))∧(∀ i o,fieldP CC 29 6 (.bp i o)=some (.bp i (o+10)))∧(∀ cs,fieldV CC 29 6 (.agg cs)=partP CC 27 cs 10)∧CC.P.underlying 30=some (.slice 60)∧nilV CC 30=.osl 60 []∧tAgg CC 30=false∧ptrT CC 30=false∧notSlice CC 30=false:=by
 repeat' apply And.intro
 all_goals (intros;kernel_rfl)
theorem TG_3:tSize CC 30=some 1∧(CC.P.info? 30).isSome=true∧tAgg CC 32=true∧ptrT CC 32=false∧notSlice CC 32=true∧tSize CC 32=some 15∧(CC.P.info? 32).isSome=true∧(∀ cs,fieldP CC 32 0 (.ip cs)=some (.ip (cs.drop 0)))∧(∀ i o,fieldP CC 32 0 (.bp i o)=some (.bp i (o+0)))∧(∀ cs,fieldV CC 32 0 (.agg cs)=partP CC 9 cs 0)∧(∀ cs,fieldP CC 32 1 (.ip cs)=some (.ip (cs.drop 1)))∧(∀ i o,fieldP CC 32 1 (.bp i o)=some (.bp i (o+1)))∧(∀ cs,fieldV CC 32 1 (.agg cs)=partP CC 3 cs 1)∧(∀ cs,fieldP CC 32 2 (.ip cs)=some (.ip (cs.drop 2)))∧(∀ i o,fieldP CC 32 2 (.bp i o)=some (.bp i (o+2)))∧(∀ cs,fieldV CC 32 2 (.agg cs)=partP CC 22 cs 2)∧(∀ cs,fieldP CC 32 3 (.ip cs)=some (.ip (cs.drop 3)))∧(∀ i o,fieldP CC 32 3 (.bp i o)=some (.bp i (o+3)))∧(∀ cs,fieldV CC 32 3 (.agg cs)=partP CC 29 cs 3)∧(∀ cs,fieldP CC 32 4 (.ip cs)=some (.ip (cs.drop 14)))∧(∀ i o,fieldP CC 32 4 (.bp i o)=some (.bp i (o+14)))∧(∀ cs,fieldV CC 32 4 (.agg cs)=partP CC 30 cs 14)∧ptrT CC 33=false∧ptrT CC 34=false∧CC.P.underlying 35=some (.int .i64)∧tAgg CC 35=false∧ptrT CC 35=false∧notSlice CC 35=true∧tSize CC 35=some 1∧(CC.P.info? 35).isSome=true∧ptrT CC 36=false∧ptrT CC 37=false∧ptrT CC 39=false∧ptrT CC 40=false∧CC.P.underlying 41=some (.slice 32)∧nilV CC 41=.osl 32 []∧tAgg CC 41=false∧ptrT CC 41=false∧notSlice CC 41=false∧tSize CC 41=some 1:=by
 repeat' apply And.intro
 all_goals (intros;kernel_rfl)
theorem TG_4:(CC.P.info? 41).isSome=true∧ptrT CC 42=false∧ptrT CC 43=false∧ptrT CC 44=false∧CC.P.underlying 45=some (.slice 80)∧nilV CC 45=.osl 80 []∧tAgg CC 45=false∧ptrT CC 45=false∧notSlice CC 45=false∧tSize CC 45=some 1∧(CC.P.info? 45).isSome=true∧ptrT CC 47=false∧ptrT CC 49=false∧ptrT CC 50=false∧ptrT CC 52=false∧ptrT CC 53=false∧ptrT CC 54=false∧tAgg CC 56=true∧ptrT CC 56=false∧notSlice CC 56=true∧tSize CC 56=some 3∧(CC.P.info? 56).isSome=true∧(∀ cs,fieldP CC 56 0 (.ip cs)=some (.ip (cs.drop 0)))∧(∀ i o,fieldP CC 56 0 (.bp i o)=some (.bp i (o+0)))∧(∀ cs,fieldV CC 56 0 (.agg cs)=partP CC 3 cs 0)∧(∀ cs,fieldP CC 56 1 (.ip cs)=some (.ip (cs.drop 1)))∧(∀ i o,fieldP CC 56 1 (.bp i o)=some (.bp i (o+1)))∧(∀ cs,fieldV CC 56 1 (.agg cs)=partP CC 9 cs 1)∧(∀ cs,fieldP CC 56 2 (.ip cs)=some (.ip (cs.drop 2)))∧(∀ i o,fieldP CC 56 2 (.bp i o)=some (.bp i (o+2)))∧(∀ cs,fieldV CC 56 2 (.agg cs)=partP CC 9 cs 2)∧tAgg CC 58=true∧ptrT CC 58=false∧notSlice CC 58=true∧tSize CC 58=some 10∧(CC.P.info? 58).isSome=true∧(∀ cs,fieldP CC 58 0 (.ip cs)=some (.ip (cs.drop 0)))∧(∀ i o,fieldP CC 58 0 (.bp i o)=some (.bp i (o+0)))∧(∀ cs,fieldV CC 58 0 (.agg cs)=partP CC 3 cs 0)∧(∀ cs,fieldP CC 58 1 (.ip cs)=some (.ip (cs.drop 1))):=by
 repeat' apply And.intro
 all_goals (intros;kernel_rfl)
theorem TG_5:(∀ i o,fieldP CC 58 1 (.bp i o)=some (.bp i (o+1)))∧(∀ cs,fieldV CC 58 1 (.agg cs)=partP CC 26 cs 1)∧(∀ cs,fieldP CC 58 2 (.ip cs)=some (.ip (cs.drop 4)))∧(∀ i o,fieldP CC 58 2 (.bp i o)=some (.bp i (o+4)))∧(∀ cs,fieldV CC 58 2 (.agg cs)=partP CC 56 cs 4)∧(∀ cs,fieldP CC 58 3 (.ip cs)=some (.ip (cs.drop 7)))∧(∀ i o,fieldP CC 58 3 (.bp i o)=some (.bp i (o+7)))∧(∀ cs,fieldV CC 58 3 (.agg cs)=partP CC 9 cs 7)∧(∀ cs,fieldP CC 58 4 (.ip cs)=some (.ip (cs.drop 8)))∧(∀ i o,fieldP CC 58 4 (.bp i o)=some (.bp i (o+8)))∧(∀ cs,fieldV CC 58 4 (.agg cs)=partP CC 3 cs 8)∧(∀ cs,fieldP CC 58 5 (.ip cs)=some (.ip (cs.drop 9)))∧(∀ i o,fieldP CC 58 5 (.bp i o)=some (.bp i (o+9)))∧(∀ cs,fieldV CC 58 5 (.agg cs)=partP CC 3 cs 9)∧tAgg CC 60=true∧ptrT CC 60=false∧notSlice CC 60=true∧tSize CC 60=some 16∧(CC.P.info? 60).isSome=true∧(∀ cs,fieldP CC 60 0 (.ip cs)=some (.ip (cs.drop 0)))∧(∀ i o,fieldP CC 60 0 (.bp i o)=some (.bp i (o+0)))∧(∀ cs,fieldV CC 60 0 (.agg cs)=partP CC 3 cs 0)∧(∀ cs,fieldP CC 60 1 (.ip cs)=some (.ip (cs.drop 1)))∧(∀ i o,fieldP CC 60 1 (.bp i o)=some (.bp i (o+1)))∧(∀ cs,fieldV CC 60 1 (.agg cs)=partP CC 26 cs 1)∧(∀ cs,fieldP CC 60 2 (.ip cs)=some (.ip (cs.drop 4)))∧(∀ i o,fieldP CC 60 2 (.bp i o)=some (.bp i (o+4)))∧(∀ cs,fieldV CC 60 2 (.agg cs)=partP CC 9 cs 4)∧(∀ cs,fieldP CC 60 3 (.ip cs)=some (.ip (cs.drop 5)))∧(∀ i o,fieldP CC 60 3 (.bp i o)=some (.bp i (o+5)))∧(∀ cs,fieldV CC 60 3 (.agg cs)=partP CC 29 cs 5)∧ptrT CC 61=false∧ptrT CC 62=false∧ptrT CC 63=false∧ptrT CC 64=false∧ptrT CC 65=false∧ptrT CC 66=false∧ptrT CC 68=false∧ptrT CC 69=false∧CC.P.underlying 70=some (.slice 5):=by
 repeat' apply And.intro
 all_goals (intros;kernel_rfl)
theorem TG_6:nilV CC 70=.osl 5 []∧tAgg CC 70=false∧ptrT CC 70=false∧notSlice CC 70=false∧tSize CC 70=some 1∧(CC.P.info? 70).isSome=true∧tAgg CC 72=true∧ptrT CC 72=false∧notSlice CC 72=true∧tSize CC 72=some 1∧(CC.P.info? 72).isSome=true∧(∀ cs,fieldP CC 72 0 (.ip cs)=some (.ip (cs.drop 0)))∧(∀ i o,fieldP CC 72 0 (.bp i o)=some (.bp i (o+0)))∧(∀ cs,fieldV CC 72 0 (.agg cs)=partP CC 70 cs 0)∧ptrT CC 73=false∧ptrT CC 74=false∧ptrT CC 75=false∧ptrT CC 76=false∧ptrT CC 77=false∧ptrT CC 78=false∧tAgg CC 80=true∧ptrT CC 80=false∧notSlice CC 80=true∧tSize CC 80=some 3∧(CC.P.info? 80).isSome=true∧(∀ cs,fieldP CC 80 0 (.ip cs)=some (.ip (cs.drop 0)))∧(∀ i o,fieldP CC 80 0 (.bp i o)=some (.bp i (o+0)))∧(∀ cs,fieldV CC 80 0 (.agg cs)=partP CC 3 cs 0)∧(∀ cs,fieldP CC 80 1 (.ip cs)=some (.ip (cs.drop 1)))∧(∀ i o,fieldP CC 80 1 (.bp i o)=some (.bp i (o+1)))∧(∀ cs,fieldV CC 80 1 (.agg cs)=partP CC 9 cs 1)∧(∀ cs,fieldP CC 80 2 (.ip cs)=some (.ip (cs.drop 2)))∧(∀ i o,fieldP CC 80 2 (.bp i o)=some (.bp i (o+2)))∧(∀ cs,fieldV CC 80 2 (.agg cs)=partP CC 3 cs 2)∧ptrT CC 82=false∧tAgg CC 84=true∧ptrT CC 84=false∧notSlice CC 84=true∧tSize CC 84=some 2∧(CC.P.info? 84).isSome=true:=by
 repeat' apply And.intro
 all_goals (intros;kernel_rfl)
theorem TG_7:(∀ cs,fieldP CC 84 0 (.ip cs)=some (.ip (cs.drop 0)))∧(∀ i o,fieldP CC 84 0 (.bp i o)=some (.bp i (o+0)))∧(∀ cs,fieldV CC 84 0 (.agg cs)=partP CC 3 cs 0)∧(∀ cs,fieldP CC 84 1 (.ip cs)=some (.ip (cs.drop 1)))∧(∀ i o,fieldP CC 84 1 (.bp i o)=some (.bp i (o+1)))∧(∀ cs,fieldV CC 84 1 (.agg cs)=partP CC 35 cs 1)∧CC.P.underlying 86=some (.pointer 92)∧tAgg CC 86=false∧ptrT CC 86=true∧notSlice CC 86=true∧tSize CC 86=some 1∧(CC.P.info? 86).isSome=true∧ptrT CC 87=false∧ptrT CC 88=false∧ptrT CC 89=false∧ptrT CC 90=false∧tAgg CC 92=true∧ptrT CC 92=false∧notSlice CC 92=true∧tSize CC 92=some 4∧(CC.P.info? 92).isSome=true∧(∀ cs,fieldP CC 92 0 (.ip cs)=some (.ip (cs.drop 0)))∧(∀ i o,fieldP CC 92 0 (.bp i o)=some (.bp i (o+0)))∧(∀ cs,fieldV CC 92 0 (.agg cs)=partP CC 45 cs 0)∧(∀ cs,fieldP CC 92 1 (.ip cs)=some (.ip (cs.drop 1)))∧(∀ i o,fieldP CC 92 1 (.bp i o)=some (.bp i (o+1)))∧(∀ cs,fieldV CC 92 1 (.agg cs)=partP CC 3 cs 1)∧(∀ cs,fieldP CC 92 2 (.ip cs)=some (.ip (cs.drop 2)))∧(∀ i o,fieldP CC 92 2 (.bp i o)=some (.bp i (o+2)))∧(∀ cs,fieldV CC 92 2 (.agg cs)=partP CC 3 cs 2)∧(∀ cs,fieldP CC 92 3 (.ip cs)=some (.ip (cs.drop 3)))∧(∀ i o,fieldP CC 92 3 (.bp i o)=some (.bp i (o+3)))∧(∀ cs,fieldV CC 92 3 (.agg cs)=partP CC 41 cs 3)∧ptrT CC 93=false∧ptrT CC 94=false∧ptrT CC 95=false∧ptrT CC 96=false∧ptrT CC 97=false∧ptrT CC 98=false∧ptrT CC 99=false:=by
 repeat' apply And.intro
 all_goals (intros;kernel_rfl)
theorem TG_8:ptrT CC 100=false∧ptrT CC 102=false∧ptrT CC 103=false∧ptrT CC 104=false∧ptrT CC 105=false∧ptrT CC 106=false∧ptrT CC 107=false∧ptrT CC 108=false∧ptrT CC 109=false∧ptrT CC 110=false∧CC.P.underlying 111=some (.slice 9)∧nilV CC 111=.osl 9 []∧tAgg CC 111=false∧ptrT CC 111=false∧notSlice CC 111=false∧tSize CC 111=some 1∧(CC.P.info? 111).isSome=true∧CC.P.underlying 112=some (.pointer 72)∧tAgg CC 112=false∧ptrT CC 112=true∧notSlice CC 112=true∧tSize CC 112=some 1∧(CC.P.info? 112).isSome=true∧ptrT CC 113=false∧ptrT CC 114=false∧ptrT CC 115=false∧ptrT CC 116=false∧ptrT CC 118=false∧ptrT CC 119=false∧ptrT CC 120=false∧ptrT CC 121=false∧ptrT CC 122=false∧ptrT CC 123=false∧ptrT CC 124=false∧ptrT CC 125=false∧ptrT CC 126=false∧ptrT CC 127=false∧ptrT CC 128=false∧ptrT CC 129=false∧ptrT CC 130=false:=by
 repeat' apply And.intro
 all_goals (intros;kernel_rfl)
theorem TG_9:CC.P.underlying 131=some (.array 5 9)∧tAgg CC 131=true∧ptrT CC 131=false∧notSlice CC 131=true∧tSize CC 131=some 5∧(CC.P.info? 131).isSome=true∧ptrT CC 132=false∧CC.P.underlying 133=some (.int .u64)∧tAgg CC 133=false∧ptrT CC 133=false∧notSlice CC 133=true∧tSize CC 133=some 1∧(CC.P.info? 133).isSome=true∧ptrT CC 134=false∧ptrT CC 135=false∧ptrT CC 137=false∧ptrT CC 138=false∧ptrT CC 139=false∧ptrT CC 140=false∧ptrT CC 141=false∧ptrT CC 142=false∧ptrT CC 143=false∧ptrT CC 144=false∧ptrT CC 146=false∧ptrT CC 147=false∧ptrT CC 149=false∧CC.P.underlying 150=some (.array 7 9)∧tAgg CC 150=true∧ptrT CC 150=false∧notSlice CC 150=true∧tSize CC 150=some 7∧(CC.P.info? 150).isSome=true∧CC.P.underlying 151=some (.pointer 153)∧tAgg CC 151=false∧ptrT CC 151=true∧notSlice CC 151=true∧tSize CC 151=some 1∧(CC.P.info? 151).isSome=true∧tAgg CC 153=true∧ptrT CC 153=false:=by
 repeat' apply And.intro
 all_goals (intros;kernel_rfl)
theorem TG_10:notSlice CC 153=true∧tSize CC 153=some 2∧(CC.P.info? 153).isSome=true∧(∀ cs,fieldP CC 153 0 (.ip cs)=some (.ip (cs.drop 0)))∧(∀ i o,fieldP CC 153 0 (.bp i o)=some (.bp i (o+0)))∧(∀ cs,fieldV CC 153 0 (.agg cs)=partP CC 151 cs 0)∧(∀ cs,fieldP CC 153 1 (.ip cs)=some (.ip (cs.drop 1)))∧(∀ i o,fieldP CC 153 1 (.bp i o)=some (.bp i (o+1)))∧(∀ cs,fieldV CC 153 1 (.agg cs)=partP CC 70 cs 1)∧tAgg CC 154=false∧ptrT CC 154=false∧notSlice CC 154=true∧tSize CC 154=some 1∧tAgg CC 155=false∧ptrT CC 155=false∧notSlice CC 155=true∧tSize CC 155=some 1∧ptrT CC 157=false∧ptrT CC 158=false∧ptrT CC 159=false∧ptrT CC 160=false∧ptrT CC 161=false∧ptrT CC 162=false∧ptrT CC 163=false∧CC.P.underlying 164=some (.pointer 5)∧tAgg CC 164=false∧ptrT CC 164=true∧notSlice CC 164=true∧tSize CC 164=some 1∧(CC.P.info? 164).isSome=true∧ptrT CC 165=false∧ptrT CC 167=false∧ptrT CC 168=false∧CC.P.underlying 169=some (.array 24 5)∧tAgg CC 169=true∧ptrT CC 169=false∧notSlice CC 169=true∧tSize CC 169=some 24∧(CC.P.info? 169).isSome=true∧CC.P.underlying 170=some (.int .u64):=by
 repeat' apply And.intro
 all_goals (intros;kernel_rfl)
theorem TG_11:tAgg CC 170=false∧ptrT CC 170=false∧notSlice CC 170=true∧tSize CC 170=some 1∧(CC.P.info? 170).isSome=true∧ptrT CC 171=false∧ptrT CC 172=false∧ptrT CC 174=false∧ptrT CC 176=false∧ptrT CC 177=false∧CC.P.underlying 178=some (.array 20 170)∧tAgg CC 178=true∧ptrT CC 178=false∧notSlice CC 178=true∧tSize CC 178=some 20∧(CC.P.info? 178).isSome=true∧CC.P.underlying 179=some (.int .u32)∧tAgg CC 179=false∧ptrT CC 179=false∧notSlice CC 179=true∧tSize CC 179=some 1∧(CC.P.info? 179).isSome=true∧CC.P.underlying 180=some (.array 65 5)∧tAgg CC 180=true∧ptrT CC 180=false∧notSlice CC 180=true∧tSize CC 180=some 65∧(CC.P.info? 180).isSome=true∧ptrT CC 181=false∧ptrT CC 182=false∧CC.P.underlying 183=some (.array 32 5)∧tAgg CC 183=true∧ptrT CC 183=false∧notSlice CC 183=true∧tSize CC 183=some 32∧(CC.P.info? 183).isSome=true∧CC.P.underlying 184=some (.array 64 5)∧tAgg CC 184=true∧ptrT CC 184=false∧notSlice CC 184=true:=by
 repeat' apply And.intro
 all_goals (intros;kernel_rfl)
theorem TG_12:tSize CC 184=some 64∧(CC.P.info? 184).isSome=true∧CC.P.underlying 185=some (.array 4 9)∧tAgg CC 185=true∧ptrT CC 185=false∧notSlice CC 185=true∧tSize CC 185=some 4∧(CC.P.info? 185).isSome=true∧ptrT CC 193=false:=by
 repeat' apply And.intro
 all_goals (intros;kernel_rfl)
theorem TG:(type_of% TG_0)∧(type_of% TG_1)∧(type_of% TG_2)∧(type_of% TG_3)∧(type_of% TG_4)∧(type_of% TG_5)∧(type_of% TG_6)∧(type_of% TG_7)∧(type_of% TG_8)∧(type_of% TG_9)∧(type_of% TG_10)∧(type_of% TG_11)∧(type_of% TG_12)∧(∀ f,CC.heap f=(f == 48)):=
 ⟨TG_0,TG_1,TG_2,TG_3,TG_4,TG_5,TG_6,TG_7,TG_8,TG_9,TG_10,TG_11,TG_12,heapCC⟩
noncomputable def fU_24:Array Field:=match Tryz.prog.underlying 24 with | some (.struct f)=>f | _=>#[]
noncomputable def fU_29:Array Field:=match Tryz.prog.underlying 29 with | some (.struct f)=>f | _=>#[]
noncomputable def fU_26:Array Field:=match Tryz.prog.underlying 26 with | some (.struct f)=>f | _=>#[]
noncomputable def fU_56:Array Field:=match Tryz.prog.underlying 56 with | some (.struct f)=>f | _=>#[]
noncomputable def fU_58:Array Field:=match Tryz.prog.underlying 58 with | some (.struct f)=>f | _=>#[]
noncomputable def fU_60:Array Field:=match Tryz.prog.underlying 60 with | some (.struct f)=>f | _=>#[]
noncomputable def fU_32:Array Field:=match Tryz.prog.underlying 32 with | some (.struct f)=>f | _=>#[]
noncomputable def fU_80:Array Field:=match Tryz.prog.underlying 80 with | some (.struct f)=>f | _=>#[]
theorem UT:CC.P.underlying 24=some (.struct fU_24)∧CC.P.underlying 29=some (.struct fU_29)∧CC.P.underlying 26=some (.struct fU_26)∧CC.P.underlying 56=some (.struct fU_56)∧CC.P.underlying 58=some (.struct fU_58)∧CC.P.underlying 60=some (.struct fU_60)∧CC.P.underlying 32=some (.struct fU_32)∧CC.P.underlying 80=some (.struct fU_80):=by
 repeat' apply And.intro
 all_goals kernel_rfl
theorem S7:(type_of% @SA)∧(type_of% @SB)∧(type_of% @SD)∧(type_of% @SF):=⟨@SA,@SB,@SD,@SF⟩
theorem S8:(type_of% @S7)∧(type_of% @TG)∧(type_of% @SE):=⟨@S7,@TG,@SE⟩
theorem S9:(type_of% @S8)∧(type_of% @SG)∧(type_of% @SH)∧(type_of% @SC)∧(type_of% @UT):=⟨@S8,@SG,@SH,@SC,@UT⟩
theorem call_strconv_Itoa (n:Int) (h:inI n) (bx):callL CC 125 [.int .i64 n] bx=some (.ret (.str (Lib.itoa n)),bx):=by
 have hp:CC.prim 125=some itoaP:=rfl
 have hq:CC.hprim 125=none:=rfl
 unfold callL bodyP bodyQ
 simp only [show CC.cat 125=none from rfl,hq,hp,pureL,PV.pure,Bool.and_self,if_true,itoaP,if_pos h,Option.map_some]
theorem op_strconv_Itoa (n:Int) (h:inI n) (bx):callOp CC (callL CC) 125 [.int .i64 n] bx=some (.ret (.str (Lib.itoa n)),bx):=callOp_of rfl (by simp only [SA,Bool.and_true]) (call_strconv_Itoa n h []) rfl
theorem call_strings_IndexByte (s:List UInt8) (c:Int) (bx):callL CC 136 [.str s,.int .u8 c] bx=some (.ret (.int .i64 (Lib.indexByte s c.toNat.toUInt8)),bx):=by
 have hp:CC.prim 136=some ixbP:=rfl
 have hq:CC.hprim 136=none:=rfl
 unfold callL bodyP bodyQ
 simp only [show CC.cat 136=none from rfl,hq,hp,pureL,PV.pure,Bool.and_self,if_true,ixbP,Option.map_some]
theorem op_strings_IndexByte (s:List UInt8) (c:Int) (bx):callOp CC (callL CC) 136 [.str s,.int .u8 c] bx=some (.ret (.int .i64 (Lib.indexByte s c.toNat.toUInt8)),bx):=callOp_of rfl (by simp only [SA,Bool.and_true]) (call_strings_IndexByte s c []) rfl
end Go.HH
namespace Go.HH
open Go Go.Proofs
set_option maxRecDepth 100000
set_option linter.unusedSimpArgs false
set_option linter.unusedVariables false
theorem ix_str (s:List UInt8) (i:Nat) (b:UInt8) (h:s[i]?=some b):indexV CC 9 (.str s) (.int .i64 (i:Int))=some (.int .u8 (b.toNat:Int)):=by
 unfold indexV
 simp only [TG,Int.toNat_natCast,h]
 rw [if_neg (by omega)]
theorem len_str (s:List UInt8):lenP CC 9 (.str s)=some (.int .i64 s.length):=by
 unfold lenP
 simp only [TG]
theorem sl_str (s:List UInt8) (a b:Int) (h0:0<=a) (h1:a<=b) (h2:b<=s.length):sliceP CC 9 (.str s) (some (.int .i64 a)) (some (.int .i64 b))=some (.str ((s.take b.toNat).drop a.toNat)):=by
 unfold sliceP
 simp only [TG,boundO,boundP]
 rw [if_pos ⟨by omega,h2⟩]
 simp only
 rw [if_pos ⟨h0,by omega⟩]
theorem sl_str_hi (s:List UInt8) (b:Int) (h0:0<=b) (h2:b<=s.length):sliceP CC 9 (.str s) none (some (.int .i64 b))=some (.str (s.take b.toNat)):=by
 unfold sliceP
 simp only [TG,boundO,boundP]
 rw [if_pos ⟨h0,h2⟩]
 simp only [List.drop_zero]
theorem sl_str_lo (s:List UInt8) (a:Int) (h0:0<=a) (h2:a<=s.length):sliceP CC 9 (.str s) (some (.int .i64 a)) none=some (.str (s.drop a.toNat)):=by
 unfold sliceP
 simp only [TG,boundO,boundP]
 rw [if_pos ⟨h0,h2⟩]
 simp only [List.take_length]
theorem strP_neq (a b:List UInt8):strP .neq a b=some (.bool (!(a == b))):=rfl
theorem strP_eql (a b:List UInt8):strP .eql a b=some (.bool (a == b)):=rfl
abbrev Vl:=Int×Int×List UInt8
def vlV (v:Vl):PV:=.agg [.int .i64 v.1,.int .i64 v.2.1,.str v.2.2]
def okVl (v:Vl):Prop:=inI v.1∧inI v.2.1∧v.2.2.length<=maxLen
theorem hasV_val {p:PV} (h:HasV Tryz.prog 24 p):∃ v:Vl,p=vlV v∧okVl v:=by
 have ht:Tryz.prog.underlying 24=some (.struct ((match Tryz.prog.underlying 24 with | some (.struct f)=>f | _=>#[]))):=by kernel_rfl
 have hl:((match Tryz.prog.underlying 24 with | some (.struct f)=>f | _=>#[]):Array Field).toList.map (fun f=>(f.type,f.offset))=[(3,0),(3,1),(9,2)]:=by kernel_rfl
 have c0:Tryz.prog.cellsOf 24=3:=by kernel_rfl
 have c1:Tryz.prog.cellsOf 3=1:=by kernel_rfl
 have c2:Tryz.prog.cellsOf 9=1:=by kernel_rfl
 obtain ⟨n,cs,rfl,hlen,hf⟩:=hasV_struct ht hl h
 rw [c0] at hlen
 match cs,hlen with
 | [a,b,c],_=>
  have f0:=hf (3,0) (by simp)
  have f1:=hf (3,1) (by simp)
  have f2:=hf (9,2) (by simp)
  simp only [c1,c2] at f0 f1 f2
  obtain ⟨k,e0,h0⟩:=hasT_i64 (P:=Tryz.prog) Tryz.underlying3 f0
  obtain ⟨m,e1,h1⟩:=hasT_i64 (P:=Tryz.prog) Tryz.underlying3 f1
  obtain ⟨s,e2,h2⟩:=hasT_str (P:=Tryz.prog) Tryz.underlying9 f2
  injection e0 with e0
  injection e1 with e1
  injection e2 with e2
  subst e0 e1 e2
  exact ⟨(k,m,s),rfl,h0,h1,h2⟩
theorem VLs:∃ f,CC.P.underlying 24=some (.struct f):=⟨(match Tryz.prog.underlying 24 with | some (.struct f)=>f | _=>#[]),by kernel_rfl⟩
def and2 (x:Bool) (y:Option Bool):Option Bool:=match some x with
 | some true=>y
 | o=>o
def eqVl (v w:Vl):Bool:=(v.1 == w.1) && (v.2.1 == w.2.1) && (v.2.2 == w.2.2)
theorem eqVP (a a' b b':Int) (c c':List UInt8):eqP CC 100 24 (.agg [.int .i64 a,.int .i64 b,.str c]) (.agg [.int .i64 a',.int .i64 b',.str c'])=some ((a == a') && (b == b') && (c == c')):=by
 have h:eqP CC 100 24 (.agg [.int .i64 a,.int .i64 b,.str c]) (.agg [.int .i64 a',.int .i64 b',.str c'])=and2 (a == a') (and2 (b == b') (and2 (c == c') (some true))):=by kernel_rfl
 rw [h]
 cases a == a' <;> cases b == b' <;> cases c == c' <;> rfl
theorem eqgV:CC.P.eqGuardType CC.P.depth 24=false:=by kernel_rfl
theorem ok_value_inRange:fnOK CC Tryz.f149 (Tryz.f149.body.getD .skip)=true:=by kernel_rfl
theorem fat_value_inRange:CC.P.funcs[149]?=some Tryz.f149:=by kernel_rfl
theorem ok_value_Check:fnOK CC Tryz.f118 (Tryz.f118.body.getD .skip)=true:=by kernel_rfl
theorem fat_value_Check:CC.P.funcs[118]?=some Tryz.f118:=by kernel_rfl
def inR (n:Int):Bool:=decide (-1099511627776<=n∧n<=1099511627776)
theorem call_value_inRange (n:Int):callL CC 149 [.int .i64 n] []=some (.ret (.bool (inR n)),[]):=by
 rw [callL_enter (fn:=Tryz.f149) (c:=Tryz.f149.body.getD .skip) rfl rfl fat_value_inRange rfl ok_value_inRange (Nat.le_of_ble_eq_true rfl)]
 unfold inR
 by_cases c1:n ≥ -1099511627776
 · by_cases c2:n<=1099511627776
   · rw [decide_eq_true (show -1099511627776<=n∧n<=1099511627776 from ⟨c1,c2⟩)]
     obtain ⟨ev,eo,so,co,⟨hev,hco⟩,R⟩:=RULES CC;rw [<- hev]
     simp only [fpart,part',Tryz.f149,Option.getD]
     simp only [S8,R,seval,c1,c2]
   · rw [decide_eq_false (show ¬ (-1099511627776<=n∧n<=1099511627776) from fun h=>c2 h.2)]
     obtain ⟨ev,eo,so,co,⟨hev,hco⟩,R⟩:=RULES CC;rw [<- hev]
     simp only [fpart,part',Tryz.f149,Option.getD]
     simp only [S8,R,seval,c1,c2]
 · rw [decide_eq_false (show ¬ (-1099511627776<=n∧n<=1099511627776) from fun h=>c1 h.1)]
   obtain ⟨ev,eo,so,co,⟨hev,hco⟩,R⟩:=RULES CC;rw [<- hev]
   simp only [fpart,part',Tryz.f149,Option.getD]
   simp only [S8,R,seval,c1]
theorem op_value_inRange (n:Int) (bx):callOp CC (callL CC) 149 [.int .i64 n] bx=some (.ret (.bool (inR n)),bx):=callOp_of rfl (by simp only [SA,Bool.and_true]) (call_value_inRange n) rfl
def okN (k n:Int):Option Bool:=if k=0∨k=4 then some (n == 0) else if k=1 then some (n == 0 || n == 1) else if k=2 then some (inR n) else if k=3 then some (decide (0<=n) && decide (n<=63)) else none
def ckV (v:Vl):Int:=match okN v.1 v.2.1 with
 | none=>7
 | some false=>2
 | some true=>if 60 < v.2.2.length then 3 else if v.2.2≠[]∧v.1≠4 then 4 else 0
theorem ck_v_0 (n:Int) (s:List UInt8):∃ bx,callL CC 118 [vlV (0,n,s)] []=some (.ret (.int .i64 (ckV (0,n,s))),bx):=by
 rw [callL_enter (fn:=Tryz.f118) (c:=Tryz.f118.body.getD .skip) rfl rfl fat_value_Check rfl ok_value_Check (Nat.le_of_ble_eq_true rfl)]
 have hlen:=len_str s
 unfold ckV vlV
 simp only
 by_cases c1:n=0
 · subst c1
   have ok:okN 0 0=some true:=rfl
   rw [ok]
   by_cases d1:60 < s.length
   · have d1p:(s.length:Int) > 60:=by omega
     simp only [if_pos d1]
     obtain ⟨ev,eo,so,co,⟨hev,hco⟩,R⟩:=RULES CC;rw [<- hev]
     skip
     simp only [fpart,part',Tryz.f118,Option.getD]
     simp only [S8,R,SG,seval,UT,SC,hlen,d1p]
     exact ⟨_,rfl⟩
   · have d1p:¬ (s.length:Int) > 60:=by omega
     simp only [if_neg d1]
     have hsq:=strP_neq s []
     by_cases d2:s=[]
     · rw [if_neg (fun h=>h.1 d2)]
       rw [show (!(s == []))=false by rw [d2];rfl] at hsq
       obtain ⟨ev,eo,so,co,⟨hev,hco⟩,R⟩:=RULES CC;rw [<- hev]
       skip
       simp only [fpart,part',Tryz.f118,Option.getD]
       simp only [S8,R,SG,seval,UT,SC,hlen,d1p,hsq]
       exact ⟨_,rfl⟩
     · rw [if_pos ⟨d2,by omega⟩]
       rw [show (!(s == []))=true by simpa using d2] at hsq
       obtain ⟨ev,eo,so,co,⟨hev,hco⟩,R⟩:=RULES CC;rw [<- hev]
       skip
       simp only [fpart,part',Tryz.f118,Option.getD]
       simp only [S8,R,SG,seval,UT,SC,hlen,d1p,hsq]
       exact ⟨_,rfl⟩
 · have c1p:(n == 0)=false:=by simpa using c1
   have ok:okN 0 n=some false:=by unfold okN;simpa using c1
   rw [ok]
   dsimp only
   obtain ⟨ev,eo,so,co,⟨hev,hco⟩,R⟩:=RULES CC;rw [<- hev]
   skip
   simp only [fpart,part',Tryz.f118,Option.getD]
   simp only [S8,R,SG,seval,UT,SC,hlen,c1p]
   exact ⟨_,rfl⟩
theorem ck_v_4 (n:Int) (s:List UInt8):∃ bx,callL CC 118 [vlV (4,n,s)] []=some (.ret (.int .i64 (ckV (4,n,s))),bx):=by
 rw [callL_enter (fn:=Tryz.f118) (c:=Tryz.f118.body.getD .skip) rfl rfl fat_value_Check rfl ok_value_Check (Nat.le_of_ble_eq_true rfl)]
 have hlen:=len_str s
 unfold ckV vlV
 simp only
 by_cases c1:n=0
 · subst c1
   have ok:okN 4 0=some true:=rfl
   rw [ok]
   by_cases d1:60 < s.length
   · have d1p:(s.length:Int) > 60:=by omega
     simp only [if_pos d1]
     obtain ⟨ev,eo,so,co,⟨hev,hco⟩,R⟩:=RULES CC;rw [<- hev]
     skip
     simp only [fpart,part',Tryz.f118,Option.getD]
     simp only [S8,R,SG,seval,UT,SC,hlen,d1p]
     exact ⟨_,rfl⟩
   · have d1p:¬ (s.length:Int) > 60:=by omega
     simp only [if_neg d1]
     simp only [ne_eq,not_true_eq_false,and_false,if_false]
     have hsq:=strP_neq s []
     generalize (!(s == []))=sb at *
     cases sb
     · skip
       obtain ⟨ev,eo,so,co,⟨hev,hco⟩,R⟩:=RULES CC;rw [<- hev]
       skip
       simp only [fpart,part',Tryz.f118,Option.getD]
       simp only [S8,R,SG,seval,UT,SC,hlen,d1p,hsq]
       exact ⟨_,rfl⟩
     · skip
       obtain ⟨ev,eo,so,co,⟨hev,hco⟩,R⟩:=RULES CC;rw [<- hev]
       skip
       simp only [fpart,part',Tryz.f118,Option.getD]
       simp only [S8,R,SG,seval,UT,SC,hlen,d1p,hsq]
       exact ⟨_,rfl⟩
 · have c1p:(n == 0)=false:=by simpa using c1
   have ok:okN 4 n=some false:=by unfold okN;simpa using c1
   rw [ok]
   dsimp only
   obtain ⟨ev,eo,so,co,⟨hev,hco⟩,R⟩:=RULES CC;rw [<- hev]
   skip
   simp only [fpart,part',Tryz.f118,Option.getD]
   simp only [S8,R,SG,seval,UT,SC,hlen,c1p]
   exact ⟨_,rfl⟩
theorem ck_v_1 (n:Int) (s:List UInt8):∃ bx,callL CC 118 [vlV (1,n,s)] []=some (.ret (.int .i64 (ckV (1,n,s))),bx):=by
 rw [callL_enter (fn:=Tryz.f118) (c:=Tryz.f118.body.getD .skip) rfl rfl fat_value_Check rfl ok_value_Check (Nat.le_of_ble_eq_true rfl)]
 have hlen:=len_str s
 unfold ckV vlV
 simp only
 by_cases c1:n=0
 · subst c1
   have ok:okN 1 0=some true:=rfl
   rw [ok]
   by_cases d1:60 < s.length
   · have d1p:(s.length:Int) > 60:=by omega
     simp only [if_pos d1]
     obtain ⟨ev,eo,so,co,⟨hev,hco⟩,R⟩:=RULES CC;rw [<- hev]
     skip
     simp only [fpart,part',Tryz.f118,Option.getD]
     simp only [S8,R,SG,seval,UT,SC,hlen,d1p]
     exact ⟨_,rfl⟩
   · have d1p:¬ (s.length:Int) > 60:=by omega
     simp only [if_neg d1]
     have hsq:=strP_neq s []
     by_cases d2:s=[]
     · rw [if_neg (fun h=>h.1 d2)]
       rw [show (!(s == []))=false by rw [d2];rfl] at hsq
       obtain ⟨ev,eo,so,co,⟨hev,hco⟩,R⟩:=RULES CC;rw [<- hev]
       skip
       simp only [fpart,part',Tryz.f118,Option.getD]
       simp only [S8,R,SG,seval,UT,SC,hlen,d1p,hsq]
       exact ⟨_,rfl⟩
     · rw [if_pos ⟨d2,by omega⟩]
       rw [show (!(s == []))=true by simpa using d2] at hsq
       obtain ⟨ev,eo,so,co,⟨hev,hco⟩,R⟩:=RULES CC;rw [<- hev]
       skip
       simp only [fpart,part',Tryz.f118,Option.getD]
       simp only [S8,R,SG,seval,UT,SC,hlen,d1p,hsq]
       exact ⟨_,rfl⟩
 · have c1p:(n == 0)=false:=by simpa using c1
   by_cases c2:n=1
   · subst c2
     have ok:okN 1 1=some true:=rfl
     rw [ok]
     by_cases d1:60 < s.length
     · have d1p:(s.length:Int) > 60:=by omega
       simp only [if_pos d1]
       obtain ⟨ev,eo,so,co,⟨hev,hco⟩,R⟩:=RULES CC;rw [<- hev]
       skip
       simp only [fpart,part',Tryz.f118,Option.getD]
       simp only [S8,R,SG,seval,UT,SC,hlen,d1p]
       exact ⟨_,rfl⟩
     · have d1p:¬ (s.length:Int) > 60:=by omega
       simp only [if_neg d1]
       have hsq:=strP_neq s []
       by_cases d2:s=[]
       · rw [if_neg (fun h=>h.1 d2)]
         rw [show (!(s == []))=false by rw [d2];rfl] at hsq
         obtain ⟨ev,eo,so,co,⟨hev,hco⟩,R⟩:=RULES CC;rw [<- hev]
         skip
         simp only [fpart,part',Tryz.f118,Option.getD]
         simp only [S8,R,SG,seval,UT,SC,hlen,d1p,hsq]
         exact ⟨_,rfl⟩
       · rw [if_pos ⟨d2,by omega⟩]
         rw [show (!(s == []))=true by simpa using d2] at hsq
         obtain ⟨ev,eo,so,co,⟨hev,hco⟩,R⟩:=RULES CC;rw [<- hev]
         skip
         simp only [fpart,part',Tryz.f118,Option.getD]
         simp only [S8,R,SG,seval,UT,SC,hlen,d1p,hsq]
         exact ⟨_,rfl⟩
   · have c2p:(n == 1)=false:=by simpa using c2
     have ok:okN 1 n=some false:=by unfold okN;simp [c1,c2]
     rw [ok]
     dsimp only
     obtain ⟨ev,eo,so,co,⟨hev,hco⟩,R⟩:=RULES CC;rw [<- hev]
     skip
     simp only [fpart,part',Tryz.f118,Option.getD]
     simp only [S8,R,SG,seval,UT,SC,hlen,c1p,c2p]
     exact ⟨_,rfl⟩
theorem ck_v_2 (n:Int) (s:List UInt8):∃ bx,callL CC 118 [vlV (2,n,s)] []=some (.ret (.int .i64 (ckV (2,n,s))),bx):=by
 rw [callL_enter (fn:=Tryz.f118) (c:=Tryz.f118.body.getD .skip) rfl rfl fat_value_Check rfl ok_value_Check (Nat.le_of_ble_eq_true rfl)]
 have hlen:=len_str s
 unfold ckV vlV
 simp only
 have hin:=op_value_inRange n
 have ok:okN 2 n=some (inR n):=rfl
 generalize inR n=b at *
 cases b
 · skip
   rw [ok]
   dsimp only
   obtain ⟨ev,eo,so,co,⟨hev,hco⟩,R⟩:=RULES CC;rw [<- hev]
   rw [<- hco] at hin
   simp only [fpart,part',Tryz.f118,Option.getD]
   simp only [S8,R,SG,seval,UT,SC,hlen,hin]
   exact ⟨_,rfl⟩
 · skip
   rw [ok]
   by_cases d1:60 < s.length
   · have d1p:(s.length:Int) > 60:=by omega
     simp only [if_pos d1]
     obtain ⟨ev,eo,so,co,⟨hev,hco⟩,R⟩:=RULES CC;rw [<- hev]
     rw [<- hco] at hin
     simp only [fpart,part',Tryz.f118,Option.getD]
     simp only [S8,R,SG,seval,UT,SC,hlen,hin,d1p]
     exact ⟨_,rfl⟩
   · have d1p:¬ (s.length:Int) > 60:=by omega
     simp only [if_neg d1]
     have hsq:=strP_neq s []
     by_cases d2:s=[]
     · rw [if_neg (fun h=>h.1 d2)]
       rw [show (!(s == []))=false by rw [d2];rfl] at hsq
       obtain ⟨ev,eo,so,co,⟨hev,hco⟩,R⟩:=RULES CC;rw [<- hev]
       rw [<- hco] at hin
       simp only [fpart,part',Tryz.f118,Option.getD]
       simp only [S8,R,SG,seval,UT,SC,hlen,hin,d1p,hsq]
       exact ⟨_,rfl⟩
     · rw [if_pos ⟨d2,by omega⟩]
       rw [show (!(s == []))=true by simpa using d2] at hsq
       obtain ⟨ev,eo,so,co,⟨hev,hco⟩,R⟩:=RULES CC;rw [<- hev]
       rw [<- hco] at hin
       simp only [fpart,part',Tryz.f118,Option.getD]
       simp only [S8,R,SG,seval,UT,SC,hlen,hin,d1p,hsq]
       exact ⟨_,rfl⟩
theorem ck_v_3 (n:Int) (s:List UInt8):∃ bx,callL CC 118 [vlV (3,n,s)] []=some (.ret (.int .i64 (ckV (3,n,s))),bx):=by
 rw [callL_enter (fn:=Tryz.f118) (c:=Tryz.f118.body.getD .skip) rfl rfl fat_value_Check rfl ok_value_Check (Nat.le_of_ble_eq_true rfl)]
 have hlen:=len_str s
 unfold ckV vlV
 simp only
 by_cases c1:n ≥ 0
 · by_cases c2:n<=63
   · have ok:okN 3 n=some true:=by unfold okN;simp;omega
     rw [ok]
     by_cases d1:60 < s.length
     · have d1p:(s.length:Int) > 60:=by omega
       simp only [if_pos d1]
       obtain ⟨ev,eo,so,co,⟨hev,hco⟩,R⟩:=RULES CC;rw [<- hev]
       skip
       simp only [fpart,part',Tryz.f118,Option.getD]
       simp only [S8,R,SG,seval,UT,SC,hlen,c1,c2,d1p]
       exact ⟨_,rfl⟩
     · have d1p:¬ (s.length:Int) > 60:=by omega
       simp only [if_neg d1]
       have hsq:=strP_neq s []
       by_cases d2:s=[]
       · rw [if_neg (fun h=>h.1 d2)]
         rw [show (!(s == []))=false by rw [d2];rfl] at hsq
         obtain ⟨ev,eo,so,co,⟨hev,hco⟩,R⟩:=RULES CC;rw [<- hev]
         skip
         simp only [fpart,part',Tryz.f118,Option.getD]
         simp only [S8,R,SG,seval,UT,SC,hlen,c1,c2,d1p,hsq]
         exact ⟨_,rfl⟩
       · rw [if_pos ⟨d2,by omega⟩]
         rw [show (!(s == []))=true by simpa using d2] at hsq
         obtain ⟨ev,eo,so,co,⟨hev,hco⟩,R⟩:=RULES CC;rw [<- hev]
         skip
         simp only [fpart,part',Tryz.f118,Option.getD]
         simp only [S8,R,SG,seval,UT,SC,hlen,c1,c2,d1p,hsq]
         exact ⟨_,rfl⟩
   · have ok:okN 3 n=some false:=by unfold okN;simp;omega
     rw [ok]
     dsimp only
     obtain ⟨ev,eo,so,co,⟨hev,hco⟩,R⟩:=RULES CC;rw [<- hev]
     skip
     simp only [fpart,part',Tryz.f118,Option.getD]
     simp only [S8,R,SG,seval,UT,SC,hlen,c1,c2]
     exact ⟨_,rfl⟩
 · have ok:okN 3 n=some false:=by unfold okN;simp;omega
   rw [ok]
   dsimp only
   obtain ⟨ev,eo,so,co,⟨hev,hco⟩,R⟩:=RULES CC;rw [<- hev]
   skip
   simp only [fpart,part',Tryz.f118,Option.getD]
   simp only [S8,R,SG,seval,UT,SC,hlen,c1]
   exact ⟨_,rfl⟩
theorem ck_v_o (k n:Int) (s:List UInt8) (h:k≠0∧k≠4∧k≠1∧k≠2∧k≠3):∃ bx,callL CC 118 [vlV (k,n,s)] []=some (.ret (.int .i64 (ckV (k,n,s))),bx):=by
 rw [callL_enter (fn:=Tryz.f118) (c:=Tryz.f118.body.getD .skip) rfl rfl fat_value_Check rfl ok_value_Check (Nat.le_of_ble_eq_true rfl)]
 obtain ⟨k0,k4,k1,k2,k3⟩:=h
 have ok:okN k n=none:=by unfold okN;rw [if_neg (by omega),if_neg k1,if_neg k2,if_neg k3]
 have e0:(k == 0)=false:=by simpa using k0
 have e4:(k == 4)=false:=by simpa using k4
 have e1:(k == 1)=false:=by simpa using k1
 have e2:(k == 2)=false:=by simpa using k2
 have e3:(k == 3)=false:=by simpa using k3
 have hlen:=len_str s
 unfold ckV vlV
 simp only
 rw [ok]
 dsimp only
 obtain ⟨ev,eo,so,co,⟨hev,hco⟩,R⟩:=RULES CC;rw [<- hev]
 skip
 simp only [fpart,part',Tryz.f118,Option.getD]
 simp only [S8,R,SG,seval,UT,SC,hlen,e0,e4,e1,e2,e3]
 exact ⟨_,rfl⟩
theorem call_value_Check (v:Vl):∃ bx,callL CC 118 [vlV v] []=some (.ret (.int .i64 (ckV v)),bx):=by
 obtain ⟨k,n,s⟩:=v
 by_cases k0:k=0
 · subst k0;exact ck_v_0 n s
 by_cases k4:k=4
 · subst k4;exact ck_v_4 n s
 by_cases k1:k=1
 · subst k1;exact ck_v_1 n s
 by_cases k2:k=2
 · subst k2;exact ck_v_2 n s
 by_cases k3:k=3
 · subst k3;exact ck_v_3 n s
 exact ck_v_o k n s ⟨k0,k4,k1,k2,k3⟩
theorem op_value_Check (v:Vl) (bx):callOp CC (callL CC) 118 [vlV v] bx=some (.ret (.int .i64 (ckV v)),bx):=by
 obtain ⟨b,h⟩:=call_value_Check v
 exact callOp_of rfl rfl h rfl
theorem ok_names_letter:fnOK CC Tryz.f56 (Tryz.f56.body.getD .skip)=true:=by kernel_rfl
theorem fat_names_letter:CC.P.funcs[56]?=some Tryz.f56:=by kernel_rfl
theorem ok_names_Valid:fnOK CC Tryz.f29 (Tryz.f29.body.getD .skip)=true:=by kernel_rfl
theorem fat_names_Valid:CC.P.funcs[29]?=some Tryz.f29:=by kernel_rfl
theorem get_at (s:List UInt8) (i:Nat) (c:UInt8) (h:s[i]?=some c):(ByteArray.mk s.toArray).get! i=c:=by
 show s.toArray[i]! = c
 rw [getElem!_def,List.getElem?_toArray,h]
theorem dec_lo (s:List UInt8) (i:Nat) (c:UInt8) (h:s[i]?=some c) (hc:c.toNat < 128):Utf8.decode ⟨s.toArray⟩ i=(c.toNat,1):=by
 unfold Utf8.decode
 simp only [Nat.add_zero,get_at s i c h]
 rw [if_pos hc]
theorem dec_hi (s:List UInt8) (i:Nat) (c:UInt8) (h:s[i]?=some c) (hc:¬ c.toNat < 128):128<=(Utf8.decode ⟨s.toArray⟩ i).1:=by
 unfold Utf8.decode
 simp only [Nat.add_zero,get_at s i c h]
 rw [if_neg hc]
 unfold Utf8.runeError
 repeat' split
 all_goals first | (simp only;omega) | (rename_i hh;simp at hh;simp only;omega) | decide
def okC (i n:Nat):Bool:=decide ((97<=n∧n<=122)∨(i≠0∧(n=95∨n=45∨(48<=n∧n<=57))))
def vAll:Nat->List UInt8->Bool
 | _,[]=>true
 | i,c :: r=>okC i c.toNat && vAll (i+1) r
def valB (s:List UInt8):Bool:=decide (1<=s.length∧s.length<=24) && vAll 0 s
def PVd (v:Bool) (r:Option (Ex×St)):Prop:=∃ e' bx',(v=true∧r=some (.exit 0,⟨e',bx'⟩))∨(v=false∧r=some (.ret,⟨e',bx'⟩)∧getT e' 2=.bool false)
theorem call_names_letter (r:Int):callL CC 56 [.int .i32 r] []=some (.ret (.bool (decide (97<=r∧r<=122))),[]):=by
 rw [callL_enter (fn:=Tryz.f56) (c:=Tryz.f56.body.getD .skip) rfl rfl fat_names_letter rfl ok_names_letter (Nat.le_of_ble_eq_true rfl)]
 by_cases c1:r ≥ 97
 · by_cases c2:r<=122
   · rw [decide_eq_true (show 97<=r∧r<=122 from ⟨c1,c2⟩)]
     obtain ⟨ev,eo,so,co,⟨hev,hco⟩,R⟩:=RULES CC;rw [<- hev]
     simp only [fpart,part',Tryz.f56,Option.getD]
     simp only [S8,R,seval,c1,c2]
   · rw [decide_eq_false (show ¬ (97<=r∧r<=122) from fun h=>c2 h.2)]
     obtain ⟨ev,eo,so,co,⟨hev,hco⟩,R⟩:=RULES CC;rw [<- hev]
     simp only [fpart,part',Tryz.f56,Option.getD]
     simp only [S8,R,seval,c1,c2]
 · rw [decide_eq_false (show ¬ (97<=r∧r<=122) from fun h=>c1 h.1)]
   obtain ⟨ev,eo,so,co,⟨hev,hco⟩,R⟩:=RULES CC;rw [<- hev]
   simp only [fpart,part',Tryz.f56,Option.getD]
   simp only [S8,R,seval,c1]
theorem op_names_letter (r:Int) (bx):callOp CC (callL CC) 56 [.int .i32 r] bx=some (.ret (.bool (decide (97<=r∧r<=122))),bx):=callOp_of rfl (by simp only [SA,Bool.and_true]) (call_names_letter r) rfl
theorem loop_names_Valid (L:Code) (hL:L=fpart Tryz.f29 [1,1,0,1,0]) (s:List UInt8) (hs:s.length<=30000):∀ (k i:Nat) (e:List PV),i+k=s.length->getT e 0=.str s->getT e 14=.bp 0 0 ->
 PVd (vAll i (s.drop i)) (evL CC L ⟨e,[.iter s i]⟩):=by
 intro k
 induction k with
 | zero=>
  intro i e hk h0 h14
  rw [evL_at (fpart Tryz.f29 [1,1,0,1,0,0]) hL]
  have hlt:¬ (i < s.length):=by omega
  rw [List.drop_eq_nil_of_le (by omega)]
  unfold vAll
  obtain ⟨ev,eo,so,co,⟨hev,hco⟩,R⟩:=RULES CC;rw [<- hev]
  simp only [fpart,part',Tryz.f29,Option.getD]
  simp only [S8,R,seval,nextR,extP,List.getElem?_cons_zero,List.getElem?_cons_succ,h0,h14,hlt]
  exact ⟨_,_,.inl ⟨rfl,rfl⟩⟩
 | succ k ih=>
  intro i e hk h0 h14
  rw [evL_at (fpart Tryz.f29 [1,1,0,1,0,0]) hL]
  have hlen:=len_str s
  have hlt:i < s.length:=by omega
  have hx:s[i]?=some (s[i]'(by omega)):=by simp
  have hdr:s.drop i=(s[i]'(by omega)) :: s.drop (i+1):=List.drop_eq_getElem_cons (by omega)
  generalize s[i]'(by omega)=c at *
  have hlo:=dec_lo s i c hx
  have hhi:=dec_hi s i c hx
  have key:=fun e=>ih (i+1) e (by omega)
  rw [hdr]
  unfold vAll
  generalize vAll (i+1) (s.drop (i+1))=v at *
  generalize c.toNat=n at *
  clear hx hdr
  by_cases h128:n < 128
  · have hdec:=hlo h128
    have hlet:=op_names_letter (n:Int)
    by_cases a1:97<=(n:Int)∧(n:Int)<=122
    · rw [decide_eq_true a1] at hlet
      rw [show okC i n=true from decide_eq_true (by omega),Bool.true_and]
      obtain ⟨ev,eo,so,co,⟨hev,hco⟩,R⟩:=RULES CC;rw [<- hev]
      rw [<- hco] at hlet
      rw [<- hev] at key
      simp only [fpart,part',Tryz.f29,Option.getD]
      simp only [S8,R,SG,seval,nextR,List.set_cons_zero,h0,h14,hlen,hlt,hlet,hdec]
      exact key _ (by simp only [S7,R,seval,h0]) (by simp only [S7,R,seval,h14])
    · rw [decide_eq_false a1] at hlet
      by_cases i0:i=0
      · have z:((i:Int) == 0)=true:=by rw [i0];rfl
        rw [show okC i n=false from decide_eq_false (by omega),Bool.false_and]
        obtain ⟨ev,eo,so,co,⟨hev,hco⟩,R⟩:=RULES CC;rw [<- hev]
        rw [<- hco] at hlet
        simp only [fpart,part',Tryz.f29,Option.getD]
        simp only [S8,R,SG,seval,nextR,List.set_cons_zero,h0,h14,hlen,hlt,hlet,hdec,z]
        exact ⟨_,_,.inr ⟨rfl,rfl,by simp only [S7,R,seval]⟩⟩
      · have z:((i:Int) == 0)=false:=by rw [beq_eq_false_iff_ne];omega
        by_cases e1:n=95
        · have e1p:((n:Int) != 95)=false:=by rw [e1];rfl
          rw [show okC i n=true from decide_eq_true (by omega),Bool.true_and]
          obtain ⟨ev,eo,so,co,⟨hev,hco⟩,R⟩:=RULES CC;rw [<- hev]
          rw [<- hco] at hlet
          rw [<- hev] at key
          simp only [fpart,part',Tryz.f29,Option.getD]
          simp only [S8,R,SG,seval,nextR,List.set_cons_zero,h0,h14,hlen,hlt,hlet,hdec,z,e1p]
          exact key _ (by simp only [S7,R,seval,h0]) (by simp only [S7,R,seval,h14])
        · have e1p:((n:Int) != 95)=true:=by rw [bne_iff_ne];omega
          by_cases e2:n=45
          · have e2p:((n:Int) != 45)=false:=by rw [e2];rfl
            rw [show okC i n=true from decide_eq_true (by omega),Bool.true_and]
            obtain ⟨ev,eo,so,co,⟨hev,hco⟩,R⟩:=RULES CC;rw [<- hev]
            rw [<- hco] at hlet
            rw [<- hev] at key
            simp only [fpart,part',Tryz.f29,Option.getD]
            simp only [S8,R,SG,seval,nextR,List.set_cons_zero,h0,h14,hlen,hlt,hlet,hdec,z,e1p,e2p]
            exact key _ (by simp only [S7,R,seval,h0]) (by simp only [S7,R,seval,h14])
          · have e2p:((n:Int) != 45)=true:=by rw [bne_iff_ne];omega
            by_cases e3:(n:Int) < 48
            · skip
              rw [show okC i n=false from decide_eq_false (by omega),Bool.false_and]
              obtain ⟨ev,eo,so,co,⟨hev,hco⟩,R⟩:=RULES CC;rw [<- hev]
              rw [<- hco] at hlet
              simp only [fpart,part',Tryz.f29,Option.getD]
              simp only [S8,R,SG,seval,nextR,List.set_cons_zero,h0,h14,hlen,hlt,hlet,hdec,z,e1p,e2p,e3]
              exact ⟨_,_,.inr ⟨rfl,rfl,by simp only [S7,R,seval]⟩⟩
            · by_cases e4:(n:Int) > 57
              · skip
                rw [show okC i n=false from decide_eq_false (by omega),Bool.false_and]
                obtain ⟨ev,eo,so,co,⟨hev,hco⟩,R⟩:=RULES CC;rw [<- hev]
                rw [<- hco] at hlet
                simp only [fpart,part',Tryz.f29,Option.getD]
                simp only [S8,R,SG,seval,nextR,List.set_cons_zero,h0,h14,hlen,hlt,hlet,hdec,z,e1p,e2p,e3,e4]
                exact ⟨_,_,.inr ⟨rfl,rfl,by simp only [S7,R,seval]⟩⟩
              · skip
                rw [show okC i n=true from decide_eq_true (by omega),Bool.true_and]
                obtain ⟨ev,eo,so,co,⟨hev,hco⟩,R⟩:=RULES CC;rw [<- hev]
                rw [<- hco] at hlet
                rw [<- hev] at key
                simp only [fpart,part',Tryz.f29,Option.getD]
                simp only [S8,R,SG,seval,nextR,List.set_cons_zero,h0,h14,hlen,hlt,hlet,hdec,z,e1p,e2p,e3,e4]
                exact key _ (by simp only [S7,R,seval,h0]) (by simp only [S7,R,seval,h14])
  · have hge:=hhi h128
    rw [show okC i n=false from decide_eq_false (by omega),Bool.false_and]
    generalize hdec:Utf8.decode ⟨s.toArray⟩ i=d at *
    obtain ⟨m,k2⟩:=d
    simp only at hge
    have hlet:=op_names_letter (m:Int)
    rw [decide_eq_false (by omega)] at hlet
    by_cases i0:i=0
    · have z:((i:Int) == 0)=true:=by rw [i0];rfl
      obtain ⟨ev,eo,so,co,⟨hev,hco⟩,R⟩:=RULES CC;rw [<- hev]
      rw [<- hco] at hlet
      simp only [fpart,part',Tryz.f29,Option.getD]
      simp only [S8,R,SG,seval,nextR,List.set_cons_zero,h0,h14,hlen,hlt,hlet,hdec,z]
      exact ⟨_,_,.inr ⟨rfl,rfl,by simp only [S7,R,seval]⟩⟩
    · have z:((i:Int) == 0)=false:=by rw [beq_eq_false_iff_ne];omega
      have e1p:((m:Int) != 95)=true:=by rw [bne_iff_ne];omega
      have e2p:((m:Int) != 45)=true:=by rw [bne_iff_ne];omega
      have e3:¬ ((m:Int) < 48):=by omega
      have e4:((m:Int) > 57):=by omega
      obtain ⟨ev,eo,so,co,⟨hev,hco⟩,R⟩:=RULES CC;rw [<- hev]
      rw [<- hco] at hlet
      simp only [fpart,part',Tryz.f29,Option.getD]
      simp only [S8,R,SG,seval,nextR,List.set_cons_zero,h0,h14,hlen,hlt,hlet,hdec,z,e1p,e2p,e3,e4]
      exact ⟨_,_,.inr ⟨rfl,rfl,by simp only [S7,R,seval]⟩⟩
theorem call_names_Valid (s:List UInt8) (hs:s.length<=30000):∃ bx,callL CC 29 [.str s] []=some (.ret (.bool (valB s)),bx):=by
 rw [callL_enter (fn:=Tryz.f29) (c:=Tryz.f29.body.getD .skip) rfl rfl fat_names_Valid rfl ok_names_Valid (Nat.le_of_ble_eq_true rfl)]
 have hlen:=len_str s
 unfold valB
 by_cases c1:(s.length:Int) < 1
 · rw [decide_eq_false (show ¬ (1<=s.length∧s.length<=24) by omega),Bool.false_and]
   obtain ⟨ev,eo,so,co,⟨hev,hco⟩,R⟩:=RULES CC;rw [<- hev]
   simp only [fpart,part',Tryz.f29,Option.getD]
   simp only [S8,R,seval,hlen,c1]
   exact ⟨_,rfl⟩
 · by_cases c2:(s.length:Int) > 24
   · rw [decide_eq_false (show ¬ (1<=s.length∧s.length<=24) by omega),Bool.false_and]
     obtain ⟨ev,eo,so,co,⟨hev,hco⟩,R⟩:=RULES CC;rw [<- hev]
     simp only [fpart,part',Tryz.f29,Option.getD]
     simp only [S8,R,seval,hlen,c1,c2]
     exact ⟨_,rfl⟩
   · rw [decide_eq_true (show 1<=s.length∧s.length<=24 by omega),Bool.true_and]
     have hloop:=fun e=>loop_names_Valid _ rfl s hs s.length 0 e (by omega)
     rw [List.drop_zero] at hloop
     have hus:CC.P.underlying 9=some .string:=by kernel_rfl
     generalize vAll 0 s=v at *
     obtain ⟨ev,eo,so,co,⟨hev,hco⟩,R⟩:=RULES CC;rw [<- hev]
     rw [<- hev] at hloop
     simp only [fpart,part',Tryz.f29,Option.getD] at hloop ⊢
     simp only [S8,R,seval,hlen,c1,c2,rangeR,hus,List.nil_append]
     generalize hE:ev _ _=r
     have hP:PVd v r:=by
      rw [<- hE]
      exact hloop _ (by simp only [S7,R,seval]) (by simp only [S7,R,seval])
     obtain ⟨e',bx',⟨hv,he⟩ | ⟨hv,he,g2⟩⟩:=hP
     · subst he
       subst hv
       simp only [S8,R,seval]
       exact ⟨_,rfl⟩
     · subst he
       subst hv
       simp only [S8,R,seval,g2]
       exact ⟨_,rfl⟩
theorem op_names_Valid (s:List UInt8) (hs:s.length<=30000) (bx):callOp CC (callL CC) 29 [.str s] bx=some (.ret (.bool (valB s)),bx):=by
 obtain ⟨b,h⟩:=call_names_Valid s hs
 exact callOp_of rfl (by simp only [SA,Bool.and_true]) h rfl
abbrev Ky:=Int×List UInt8×List UInt8
def kyV (k:Ky):PV:=.agg [.int .i64 k.1,.str k.2.1,.str k.2.2]
def okKy (k:Ky):Prop:=inI k.1∧k.2.1.length<=maxLen∧k.2.2.length<=maxLen
inductive Tr where
 | mk (k n m:Int) (nm:List UInt8) (v:Vl) (key:Ky) (kids:List Tr)
mutual
def trV:Tr->PV
 | .mk k n m nm v key kids=>.agg [.int .i64 k,.int .i64 n,.int .i64 m,.str nm,.int .i64 v.1,.int .i64 v.2.1,.str v.2.2,.int .i64 key.1,.str key.2.1,.str key.2.2,.sl (trVs kids)]
def trVs:List Tr->List PV
 | []=>[]
 | t :: r=>trV t :: trVs r
end
mutual
def okTr:Tr->Prop
 | .mk k n m nm v key kids=>inI k∧inI n∧inI m∧nm.length<=maxLen∧okVl v∧okKy key∧kids.length<=maxLen∧okTrs kids
def okTrs:List Tr->Prop
 | []=>True
 | t :: r=>okTr t∧okTrs r
end
theorem trVs_map:∀ l:List Tr,trVs l=l.map trV
 | []=>by unfold trVs;rfl
 | t :: r=>by unfold trVs;rw [trVs_map r];rfl
theorem okTrs_iff:∀ l:List Tr,okTrs l↔∀ t ∈ l,okTr t
 | []=>by unfold okTrs;simp
 | t :: r=>by unfold okTrs;rw [okTrs_iff r];simp
theorem trVs_length (l:List Tr):(trVs l).length=l.length:=by rw [trVs_map,List.length_map]
theorem trVs_get {l:List Tr} {i:Nat} {t:Tr} (h:l[i]?=some t):(trVs l)[i]?=some (trV t):=by rw [trVs_map,List.getElem?_map,h];rfl
theorem hasT_struct1 {P:Program} {t:TypeId} {n:Nat} {cs:List PV} {fs:Array Field} {l:List (TypeId×Nat)} (ht:P.underlying t=some (.struct fs)) (hl:fs.toList.map (fun f=>(f.type,f.offset))=l) (h:HasT P (n+1) t cs):∀ x ∈ l,HasT P n x.1 ((cs.drop x.2).take (P.cellsOf x.1)):=by
 unfold HasT at h
 rw [ht] at h
 intro x hx
 rw [<- hl] at hx
 obtain ⟨f,hf,rfl⟩:=List.mem_map.1 hx
 exact h f hf
theorem hasT_slice1 {P:Program} {t e:TypeId} {n:Nat} {cs:List PV} (ht:P.underlying t=some (.slice e)) (h:HasT P (n+1) t cs):∃ xs,cs=[.sl xs]∧xs.length<=maxLen∧∀ x ∈ xs,∃ cs,x=mkV P e cs∧cs.length=P.cellsOf e∧HasT P n e cs:=by
 unfold HasT at h
 rw [ht] at h
 exact h
theorem uTr:Tryz.prog.underlying 29=some (.struct ((match Tryz.prog.underlying 29 with | some (.struct f)=>f | _=>#[]))):=by kernel_rfl
theorem fTr:((match Tryz.prog.underlying 29 with | some (.struct f)=>f | _=>#[]):Array Field).toList.map (fun f=>(f.type,f.offset))=[(3,0),(3,1),(3,2),(9,3),(24,4),(26,7),(27,10)]:=by kernel_rfl
theorem uKy:Tryz.prog.underlying 26=some (.struct ((match Tryz.prog.underlying 26 with | some (.struct f)=>f | _=>#[]))):=by kernel_rfl
theorem fKy:((match Tryz.prog.underlying 26 with | some (.struct f)=>f | _=>#[]):Array Field).toList.map (fun f=>(f.type,f.offset))=[(3,0),(9,1),(9,2)]:=by kernel_rfl
theorem uTrs:Tryz.prog.underlying 27=some (.slice 29):=by kernel_rfl
theorem cTr:Tryz.prog.cellsOf 29=11:=by kernel_rfl
theorem cVl:Tryz.prog.cellsOf 24=3:=by kernel_rfl
theorem cKy:Tryz.prog.cellsOf 26=3:=by kernel_rfl
theorem cTrs:Tryz.prog.cellsOf 27=1:=by kernel_rfl
theorem cInt:Tryz.prog.cellsOf 3=1:=by kernel_rfl
theorem cStr:Tryz.prog.cellsOf 9=1:=by kernel_rfl
theorem hasV_key {p:PV} (h:HasV Tryz.prog 26 p):∃ k:Ky,p=kyV k∧okKy k:=by
 obtain ⟨n,cs,rfl,hlen,hf⟩:=hasV_struct uKy fKy h
 rw [cKy] at hlen
 match cs,hlen with
 | [a,b,c],_=>
  have f0:=hf (3,0) (by simp)
  have f1:=hf (9,1) (by simp)
  have f2:=hf (9,2) (by simp)
  simp only [cInt,cStr] at f0 f1 f2
  obtain ⟨k,e0,h0⟩:=hasT_i64 (P:=Tryz.prog) Tryz.underlying3 f0
  obtain ⟨m,e1,h1⟩:=hasT_str (P:=Tryz.prog) Tryz.underlying9 f1
  obtain ⟨s,e2,h2⟩:=hasT_str (P:=Tryz.prog) Tryz.underlying9 f2
  injection e0 with e0
  injection e1 with e1
  injection e2 with e2
  subst e0 e1 e2
  exact ⟨(k,m,s),rfl,h0,h1,h2⟩
theorem aggTr:aggT Tryz.prog 29=true:=by unfold aggT;rw [uTr]
theorem aggVl:aggT Tryz.prog 24=true:=by obtain ⟨f,h⟩:=VLs;unfold aggT;rw [show Tryz.prog.underlying 24=_ from h]
theorem aggKy:aggT Tryz.prog 26=true:=by unfold aggT;rw [uKy]
theorem hasT_tr:∀ (N n:Nat),n < N->∀ cs:List PV,cs.length=11->HasT Tryz.prog n 29 cs->∃ t:Tr,PV.agg cs=trV t∧okTr t:=by
 intro N
 induction N with
 | zero=>intro n h;omega
 | succ N ih=>
  intro n hn cs hlen h
  cases n with
  | zero=>exact h.elim
  | succ n=>
   have hf:=hasT_struct1 uTr fTr h
   match cs,hlen with
   | [a0,a1,a2,a3,a4,a5,a6,a7,a8,a9,b0],_=>
    have f0:=hf (3,0) (by simp)
    have f1:=hf (3,1) (by simp)
    have f2:=hf (3,2) (by simp)
    have f3:=hf (9,3) (by simp)
    have f4:=hf (24,4) (by simp)
    have f5:=hf (26,7) (by simp)
    have f6:=hf (27,10) (by simp)
    simp only [cInt,cStr,cVl,cKy,cTrs] at f0 f1 f2 f3 f4 f5 f6
    obtain ⟨k,e0,h0⟩:=hasT_i64 (P:=Tryz.prog) Tryz.underlying3 f0
    obtain ⟨x,e1,h1⟩:=hasT_i64 (P:=Tryz.prog) Tryz.underlying3 f1
    obtain ⟨y,e2,h2⟩:=hasT_i64 (P:=Tryz.prog) Tryz.underlying3 f2
    obtain ⟨s,e3,h3⟩:=hasT_str (P:=Tryz.prog) Tryz.underlying9 f3
    have f4':HasV Tryz.prog 24 (.agg [a4,a5,a6]):=⟨n,[a4,a5,a6],by unfold mkV;rw [if_pos aggVl],fun _=>by rw [cVl];rfl,f4⟩
    have f5':HasV Tryz.prog 26 (.agg [a7,a8,a9]):=⟨n,[a7,a8,a9],by unfold mkV;rw [if_pos aggKy],fun _=>by rw [cKy];rfl,f5⟩
    obtain ⟨v,e4,h4⟩:=hasV_val f4'
    obtain ⟨ky,e5,h5⟩:=hasV_key f5'
    cases n with
    | zero=>exact f6.elim
    | succ n=>
     obtain ⟨xs,e6,h6,h7⟩:=hasT_slice1 uTrs f6
     obtain ⟨l,rfl,h8⟩:=list_of (f:=trV) (Q:=okTr) xs (fun x hx=>by
      obtain ⟨cs,rfl,hc,hT⟩:=h7 x hx
      rw [cTr] at hc
      have:=ih n (by omega) cs hc hT
      unfold mkV
      rw [if_pos aggTr]
      exact this)
     unfold vlV at e4
     unfold kyV at e5
     simp only [List.drop_succ_cons,List.drop_zero,List.take_succ_cons,List.take_zero,List.cons.injEq,and_true,PV.agg.injEq] at e0 e1 e2 e3 e4 e5 e6
     obtain ⟨e41,e42,e43⟩:=e4
     obtain ⟨e51,e52,e53⟩:=e5
     subst e0 e1 e2 e3 e41 e42 e43 e51 e52 e53 e6
     refine ⟨.mk k x y s v ky l,?_,?_⟩
     · unfold trV
       rw [trVs_map]
     · unfold okTr
       exact ⟨h0,h1,h2,h3,h4,h5,by simpa using h6,(okTrs_iff l).2 h8⟩
theorem hasV_tr {p:PV} (h:HasV Tryz.prog 29 p):∃ t:Tr,p=trV t∧okTr t:=by
 obtain ⟨n,cs,rfl,hlen,hf⟩:=h
 have hc:=hlen aggTr
 rw [cTr] at hc
 unfold mkV
 rw [if_pos aggTr]
 exact hasT_tr (n+1) n (by omega) cs hc hf
theorem TRf:zeroCells CC 29=some [.int .i64 0,.int .i64 0,.int .i64 0,.str [],.int .i64 0,.int .i64 0,.str [],.int .i64 0,.str [],.str [],.nils]:=by kernel_rfl
end Go.HH
