/-
  What the law needs, packed: N0 C0 Q1.
-/
import Derived.Test.YthjabmlbmnadjaaProg
import Derived.Lib.ItoaNum
import Derived.Lib.Bytealg
import Derived.KernelRfl
import Derived.Test.YthjabmlbmnadjaaK30
namespace Go.HH
open Go
end Go.HH
namespace Go.HH
open Go Go.Proofs
set_option maxRecDepth 100000
def ixbP:List PV->Option PV
 | [.str s,.int .u8 c]=>some (.int .i64 (Lib.indexByte s c.toNat.toUInt8))
 | _=>none
def globCC:Nat->Option (List PV):=
 fun _=>none
def primCC (f:FuncId):Option (List PV->Option PV):=
 if f=83 then some ixbP else
 none
def ccP:List PV->List PBox->Option (Bool×PV×List PBox)
 | [.bp id 0],bx=>match bx[id]? with
  | some (.cells t [.nilp,q])=>if t=118 then some (false,.tup [],bx.set id (.cells t [.bp id 0,q])) else none
  | some (.cells t [.bp id' 0,q])=>if id'=id∧t=118 then some (false,.tup [],bx) else none
  | _=>none
 | _,_=>none
def byteV:PV->Bool
 | .int .u8 n=>decide (0<=n) && decide (n < 256)
 | _=>false
def bstrP:List PV->List PBox->Option (Bool×PV×List PBox)
 | [.bp id 0],bx=>match bx[id]? with
  | some (.cells t [_,.nils])=>if t=118 then some (false,.str [],bx) else none
  | some (.cells t [p,.osl e xs])=>if t=118∧e=5∧xs.isEmpty=false∧xs.all byteV=true then (bytesOf xs).map fun l=>(false,.str l,bx.set id (.cells t [p,.sl xs])) else none
  | _=>none
 | _,_=>none
def hprimCC (f:FuncId):Option (List PV->List PBox->Option (Bool×PV×List PBox)):=
 if f=95 then some ccP else if f=90 then some bstrP else
 none
def heapF (f:FuncId):Bool:=
 if f=24 then true else
 false
def finR:List PV->PV
 | [x]=>x.ro.shutV
 | _=>.nils
def finE (cs:List PV):PV:=(PV.agg (cs.map PV.ro)).shutV
def zeroE:List PV:=[.int .i64 0,.int .i64 0,.int .i64 0,.str [],.int .i64 0,.int .i64 0,.str [],.int .i64 0,.str [],.str [],.nils]
def envR (s:List UInt8):List PV:=[.str s,und,.bp 0 0,.bp 1 0,.bp 2 0]
noncomputable def catR:Cat:=⟨part' [1,1] (Try.f9.body.getD .skip),catPre 23 envR [.cells 23 [.nils],.cells 3 [.int .i64 0],.cells 24 [.int .i64 0]],catPost 61 1 [.osl 37 []] finR⟩
noncomputable def catE:Cat:=⟨part' [1,1] (Try.f14.body.getD .skip),catPre 33 envR [.cells 34 zeroE,.cells 3 [.int .i64 0],.cells 24 [.int .i64 0]],catPost 61 11 zeroE finE⟩
noncomputable def catCC (f:FuncId):Option Cat:=
 if f=9 then some catR else if f=14 then some catE else
 none
noncomputable def CC:Cfg:={ P:=Try.prog,glob:=globCC,prim:=primCC,heap:=heapF,hprim:=hprimCC,cat:=catCC }
theorem heapCC:(CC.heap 0=false∧CC.heap 1=false∧CC.heap 2=false∧CC.heap 3=false∧CC.heap 4=false∧CC.heap 5=false∧CC.heap 6=false∧CC.heap 7=false∧CC.heap 8=false∧CC.heap 9=false∧CC.heap 10=false∧CC.heap 11=false∧CC.heap 12=false∧CC.heap 13=false∧CC.heap 14=false∧CC.heap 15=false∧CC.heap 16=false∧CC.heap 17=false∧CC.heap 18=false∧CC.heap 19=false∧CC.heap 20=false∧CC.heap 21=false∧CC.heap 22=false∧CC.heap 23=false∧CC.heap 24=true∧CC.heap 25=false∧CC.heap 26=false∧CC.heap 27=false∧CC.heap 28=false∧CC.heap 29=false∧CC.heap 30=false∧CC.heap 31=false∧CC.heap 32=false∧CC.heap 33=false∧CC.heap 34=false∧CC.heap 35=false∧CC.heap 36=false∧CC.heap 37=false∧CC.heap 38=false∧CC.heap 39=false∧CC.heap 40=false∧CC.heap 41=false∧CC.heap 42=false∧CC.heap 43=false∧CC.heap 44=false∧CC.heap 45=false∧CC.heap 46=false∧CC.heap 47=false∧CC.heap 48=false∧CC.heap 49=false∧CC.heap 50=false∧CC.heap 51=false∧CC.heap 52=false∧CC.heap 53=false∧CC.heap 54=false∧CC.heap 55=false∧CC.heap 56=false∧CC.heap 57=false∧CC.heap 58=false∧CC.heap 59=false∧CC.heap 60=false∧CC.heap 61=false∧CC.heap 62=false∧CC.heap 63=false∧CC.heap 64=false∧CC.heap 65=false∧CC.heap 66=false∧CC.heap 67=false∧CC.heap 68=false∧CC.heap 69=false∧CC.heap 70=false∧CC.heap 71=false∧CC.heap 72=false∧CC.heap 73=false∧CC.heap 74=false∧CC.heap 75=false∧CC.heap 76=false∧CC.heap 77=false∧CC.heap 78=false∧CC.heap 79=false∧CC.heap 80=false∧CC.heap 81=false∧CC.heap 82=false∧CC.heap 83=false∧CC.heap 84=false∧CC.heap 85=false∧CC.heap 86=false∧CC.heap 87=false∧CC.heap 88=false∧CC.heap 89=false∧CC.heap 90=false∧CC.heap 91=false∧CC.heap 92=false∧CC.heap 93=false∧CC.heap 94=false∧CC.heap 95=false∧CC.heap 96=false∧CC.heap 97=false∧CC.heap 98=false∧CC.heap 99=false∧CC.heap 100=false∧CC.heap 101=false∧CC.heap 102=false∧CC.heap 103=false∧CC.heap 104=false∧CC.heap 105=false∧CC.heap 106=false∧CC.heap 107=false∧CC.heap 108=false∧CC.heap 109=false∧CC.heap 110=false∧CC.heap 111=false∧CC.heap 112=false∧CC.heap 113=false∧CC.heap 114=false∧CC.heap 115=false∧CC.heap 116=false):=⟨rfl,rfl,rfl,rfl,rfl,rfl,rfl,rfl,rfl,rfl,rfl,rfl,rfl,rfl,rfl,rfl,rfl,rfl,rfl,rfl,rfl,rfl,rfl,rfl,rfl,rfl,rfl,rfl,rfl,rfl,rfl,rfl,rfl,rfl,rfl,rfl,rfl,rfl,rfl,rfl,rfl,rfl,rfl,rfl,rfl,rfl,rfl,rfl,rfl,rfl,rfl,rfl,rfl,rfl,rfl,rfl,rfl,rfl,rfl,rfl,rfl,rfl,rfl,rfl,rfl,rfl,rfl,rfl,rfl,rfl,rfl,rfl,rfl,rfl,rfl,rfl,rfl,rfl,rfl,rfl,rfl,rfl,rfl,rfl,rfl,rfl,rfl,rfl,rfl,rfl,rfl,rfl,rfl,rfl,rfl,rfl,rfl,rfl,rfl,rfl,rfl,rfl,rfl,rfl,rfl,rfl,rfl,rfl,rfl,rfl,rfl,rfl,rfl,rfl,rfl,rfl,rfl⟩
theorem TG_0:ptrT CC 1=false∧CC.P.underlying 2=some (.int .i64)∧tAgg CC 2=false∧ptrT CC 2=false∧notSlice CC 2=true∧tSize CC 2=some 1∧(CC.P.info? 2).isSome=true∧CC.P.underlying 3=some (.int .i64)∧tAgg CC 3=false∧ptrT CC 3=false∧notSlice CC 3=true∧tSize CC 3=some 1∧(CC.P.info? 3).isSome=true∧CC.P.underlying 4=some .bool∧tAgg CC 4=false∧ptrT CC 4=false∧notSlice CC 4=true∧tSize CC 4=some 1∧(CC.P.info? 4).isSome=true∧CC.P.underlying 5=some (.int .u8)∧tAgg CC 5=false∧ptrT CC 5=false∧notSlice CC 5=true∧tSize CC 5=some 1∧(CC.P.info? 5).isSome=true∧CC.P.underlying 6=some (.int .u8)∧tAgg CC 6=false∧ptrT CC 6=false∧notSlice CC 6=true∧tSize CC 6=some 1∧(CC.P.info? 6).isSome=true∧tAgg CC 7=true∧ptrT CC 7=false∧notSlice CC 7=true∧tSize CC 7=some 4∧(CC.P.info? 7).isSome=true∧(∀ cs,fieldP CC 7 0 (.ip cs)=some (.ip (cs.drop 0)))∧(∀ i o,fieldP CC 7 0 (.bp i o)=some (.bp i (o+0)))∧(∀ cs,fieldV CC 7 0 (.agg cs)=partP CC 2 cs 0)∧(∀ cs,fieldP CC 7 1 (.ip cs)=some (.ip (cs.drop 1))):=by
 repeat' apply And.intro
 all_goals (intros;kernel_rfl)
theorem TG_1:(∀ i o,fieldP CC 7 1 (.bp i o)=some (.bp i (o+1)))∧(∀ cs,fieldV CC 7 1 (.agg cs)=partP CC 3 cs 1)∧(∀ cs,fieldP CC 7 2 (.ip cs)=some (.ip (cs.drop 2)))∧(∀ i o,fieldP CC 7 2 (.bp i o)=some (.bp i (o+2)))∧(∀ cs,fieldV CC 7 2 (.agg cs)=partP CC 4 cs 2)∧(∀ cs,fieldP CC 7 3 (.ip cs)=some (.ip (cs.drop 3)))∧(∀ i o,fieldP CC 7 3 (.bp i o)=some (.bp i (o+3)))∧(∀ cs,fieldV CC 7 3 (.agg cs)=partP CC 6 cs 3)∧tAgg CC 8=true∧ptrT CC 8=false∧notSlice CC 8=true∧tSize CC 8=some 4∧(CC.P.info? 8).isSome=true∧(∀ cs,fieldP CC 8 0 (.ip cs)=some (.ip (cs.drop 0)))∧(∀ i o,fieldP CC 8 0 (.bp i o)=some (.bp i (o+0)))∧(∀ cs,fieldV CC 8 0 (.agg cs)=partP CC 2 cs 0)∧(∀ cs,fieldP CC 8 1 (.ip cs)=some (.ip (cs.drop 1)))∧(∀ i o,fieldP CC 8 1 (.bp i o)=some (.bp i (o+1)))∧(∀ cs,fieldV CC 8 1 (.agg cs)=partP CC 3 cs 1)∧(∀ cs,fieldP CC 8 2 (.ip cs)=some (.ip (cs.drop 2)))∧(∀ i o,fieldP CC 8 2 (.bp i o)=some (.bp i (o+2)))∧(∀ cs,fieldV CC 8 2 (.agg cs)=partP CC 4 cs 2)∧(∀ cs,fieldP CC 8 3 (.ip cs)=some (.ip (cs.drop 3)))∧(∀ i o,fieldP CC 8 3 (.bp i o)=some (.bp i (o+3)))∧(∀ cs,fieldV CC 8 3 (.agg cs)=partP CC 6 cs 3)∧CC.P.underlying 9=some .string∧tAgg CC 9=false∧ptrT CC 9=false∧notSlice CC 9=true∧tSize CC 9=some 1∧(CC.P.info? 9).isSome=true∧CC.P.underlying 10=some .string∧tAgg CC 10=false∧ptrT CC 10=false∧notSlice CC 10=true∧tSize CC 10=some 1∧(CC.P.info? 10).isSome=true∧CC.P.underlying 11=some .string∧tAgg CC 11=false∧ptrT CC 11=false:=by
 repeat' apply And.intro
 all_goals (intros;kernel_rfl)
theorem TG_2:notSlice CC 11=true∧tSize CC 11=some 1∧(CC.P.info? 11).isSome=true∧CC.P.underlying 12=some (.int .u64)∧tAgg CC 12=false∧ptrT CC 12=false∧notSlice CC 12=true∧tSize CC 12=some 1∧(CC.P.info? 12).isSome=true∧tAgg CC 13=true∧ptrT CC 13=false∧notSlice CC 13=true∧tSize CC 13=some 2∧(CC.P.info? 13).isSome=true∧(∀ cs,fieldP CC 13 0 (.ip cs)=some (.ip (cs.drop 0)))∧(∀ i o,fieldP CC 13 0 (.bp i o)=some (.bp i (o+0)))∧(∀ cs,fieldV CC 13 0 (.agg cs)=partP CC 9 cs 0)∧(∀ cs,fieldP CC 13 1 (.ip cs)=some (.ip (cs.drop 1)))∧(∀ i o,fieldP CC 13 1 (.bp i o)=some (.bp i (o+1)))∧(∀ cs,fieldV CC 13 1 (.agg cs)=partP CC 12 cs 1)∧tAgg CC 14=true∧ptrT CC 14=false∧notSlice CC 14=true∧tSize CC 14=some 2∧(CC.P.info? 14).isSome=true∧(∀ cs,fieldP CC 14 0 (.ip cs)=some (.ip (cs.drop 0)))∧(∀ i o,fieldP CC 14 0 (.bp i o)=some (.bp i (o+0)))∧(∀ cs,fieldV CC 14 0 (.agg cs)=partP CC 9 cs 0)∧(∀ cs,fieldP CC 14 1 (.ip cs)=some (.ip (cs.drop 1)))∧(∀ i o,fieldP CC 14 1 (.bp i o)=some (.bp i (o+1)))∧(∀ cs,fieldV CC 14 1 (.agg cs)=partP CC 12 cs 1)∧CC.P.underlying 15=some (.pointer 132)∧tAgg CC 15=false∧ptrT CC 15=true∧notSlice CC 15=true∧tSize CC 15=some 1∧(CC.P.info? 15).isSome=true∧CC.P.underlying 16=some (.pointer 135)∧tAgg CC 16=false∧ptrT CC 16=true:=by
 repeat' apply And.intro
 all_goals (intros;kernel_rfl)
theorem TG_3:notSlice CC 16=true∧tSize CC 16=some 1∧(CC.P.info? 16).isSome=true∧CC.P.underlying 17=some (.pointer 143)∧tAgg CC 17=false∧ptrT CC 17=true∧notSlice CC 17=true∧tSize CC 17=some 1∧(CC.P.info? 17).isSome=true∧tAgg CC 18=true∧ptrT CC 18=false∧notSlice CC 18=true∧tSize CC 18=some 1∧(CC.P.info? 18).isSome=true∧(∀ cs,fieldP CC 18 0 (.ip cs)=some (.ip (cs.drop 0)))∧(∀ i o,fieldP CC 18 0 (.bp i o)=some (.bp i (o+0)))∧(∀ cs,fieldV CC 18 0 (.agg cs)=partP CC 17 cs 0)∧tAgg CC 19=true∧ptrT CC 19=false∧notSlice CC 19=true∧tSize CC 19=some 1∧(CC.P.info? 19).isSome=true∧(∀ cs,fieldP CC 19 0 (.ip cs)=some (.ip (cs.drop 0)))∧(∀ i o,fieldP CC 19 0 (.bp i o)=some (.bp i (o+0)))∧(∀ cs,fieldV CC 19 0 (.agg cs)=partP CC 17 cs 0)∧tAgg CC 20=false∧ptrT CC 20=false∧notSlice CC 20=true∧tSize CC 20=some 1∧CC.P.underlying 21=some (.int .i32)∧tAgg CC 21=false∧ptrT CC 21=false∧notSlice CC 21=true∧tSize CC 21=some 1∧(CC.P.info? 21).isSome=true∧ptrT CC 22=false∧CC.P.underlying 23=some (.slice 37)∧nilV CC 23=.osl 37 []∧tAgg CC 23=false∧ptrT CC 23=false:=by
 repeat' apply And.intro
 all_goals (intros;kernel_rfl)
theorem TG_4:notSlice CC 23=false∧tSize CC 23=some 1∧(CC.P.info? 23).isSome=true∧CC.P.underlying 24=some (.int .i64)∧tAgg CC 24=false∧ptrT CC 24=false∧notSlice CC 24=true∧tSize CC 24=some 1∧(CC.P.info? 24).isSome=true∧ptrT CC 26=false∧CC.P.underlying 27=some (.slice 59)∧nilV CC 27=.osl 59 []∧tAgg CC 27=false∧ptrT CC 27=false∧notSlice CC 27=false∧tSize CC 27=some 1∧(CC.P.info? 27).isSome=true∧tAgg CC 28=true∧ptrT CC 28=false∧notSlice CC 28=true∧tSize CC 28=some 3∧(CC.P.info? 28).isSome=true∧(∀ cs,fieldP CC 28 0 (.ip cs)=some (.ip (cs.drop 0)))∧(∀ i o,fieldP CC 28 0 (.bp i o)=some (.bp i (o+0)))∧(∀ cs,fieldV CC 28 0 (.agg cs)=partP CC 3 cs 0)∧(∀ cs,fieldP CC 28 1 (.ip cs)=some (.ip (cs.drop 1)))∧(∀ i o,fieldP CC 28 1 (.bp i o)=some (.bp i (o+1)))∧(∀ cs,fieldV CC 28 1 (.agg cs)=partP CC 3 cs 1)∧(∀ cs,fieldP CC 28 2 (.ip cs)=some (.ip (cs.drop 2)))∧(∀ i o,fieldP CC 28 2 (.bp i o)=some (.bp i (o+2)))∧(∀ cs,fieldV CC 28 2 (.agg cs)=partP CC 9 cs 2)∧tAgg CC 29=true∧ptrT CC 29=false∧notSlice CC 29=true∧tSize CC 29=some 3∧(CC.P.info? 29).isSome=true∧(∀ cs,fieldP CC 29 0 (.ip cs)=some (.ip (cs.drop 0)))∧(∀ i o,fieldP CC 29 0 (.bp i o)=some (.bp i (o+0)))∧(∀ cs,fieldV CC 29 0 (.agg cs)=partP CC 3 cs 0)∧(∀ cs,fieldP CC 29 1 (.ip cs)=some (.ip (cs.drop 1))):=by
 repeat' apply And.intro
 all_goals (intros;kernel_rfl)
theorem TG_5:(∀ i o,fieldP CC 29 1 (.bp i o)=some (.bp i (o+1)))∧(∀ cs,fieldV CC 29 1 (.agg cs)=partP CC 3 cs 1)∧(∀ cs,fieldP CC 29 2 (.ip cs)=some (.ip (cs.drop 2)))∧(∀ i o,fieldP CC 29 2 (.bp i o)=some (.bp i (o+2)))∧(∀ cs,fieldV CC 29 2 (.agg cs)=partP CC 9 cs 2)∧tAgg CC 30=true∧ptrT CC 30=false∧notSlice CC 30=true∧tSize CC 30=some 3∧(CC.P.info? 30).isSome=true∧(∀ cs,fieldP CC 30 0 (.ip cs)=some (.ip (cs.drop 0)))∧(∀ i o,fieldP CC 30 0 (.bp i o)=some (.bp i (o+0)))∧(∀ cs,fieldV CC 30 0 (.agg cs)=partP CC 3 cs 0)∧(∀ cs,fieldP CC 30 1 (.ip cs)=some (.ip (cs.drop 1)))∧(∀ i o,fieldP CC 30 1 (.bp i o)=some (.bp i (o+1)))∧(∀ cs,fieldV CC 30 1 (.agg cs)=partP CC 9 cs 1)∧(∀ cs,fieldP CC 30 2 (.ip cs)=some (.ip (cs.drop 2)))∧(∀ i o,fieldP CC 30 2 (.bp i o)=some (.bp i (o+2)))∧(∀ cs,fieldV CC 30 2 (.agg cs)=partP CC 9 cs 2)∧tAgg CC 31=true∧ptrT CC 31=false∧notSlice CC 31=true∧tSize CC 31=some 3∧(CC.P.info? 31).isSome=true∧(∀ cs,fieldP CC 31 0 (.ip cs)=some (.ip (cs.drop 0)))∧(∀ i o,fieldP CC 31 0 (.bp i o)=some (.bp i (o+0)))∧(∀ cs,fieldV CC 31 0 (.agg cs)=partP CC 3 cs 0)∧(∀ cs,fieldP CC 31 1 (.ip cs)=some (.ip (cs.drop 1)))∧(∀ i o,fieldP CC 31 1 (.bp i o)=some (.bp i (o+1)))∧(∀ cs,fieldV CC 31 1 (.agg cs)=partP CC 9 cs 1)∧(∀ cs,fieldP CC 31 2 (.ip cs)=some (.ip (cs.drop 2)))∧(∀ i o,fieldP CC 31 2 (.bp i o)=some (.bp i (o+2)))∧(∀ cs,fieldV CC 31 2 (.agg cs)=partP CC 9 cs 2)∧CC.P.underlying 32=some (.slice 34)∧nilV CC 32=.osl 34 []∧tAgg CC 32=false∧ptrT CC 32=false∧notSlice CC 32=false∧tSize CC 32=some 1∧(CC.P.info? 32).isSome=true:=by
 repeat' apply And.intro
 all_goals (intros;kernel_rfl)
theorem TG_6:tAgg CC 33=true∧ptrT CC 33=false∧notSlice CC 33=true∧tSize CC 33=some 11∧(CC.P.info? 33).isSome=true∧(∀ cs,fieldP CC 33 0 (.ip cs)=some (.ip (cs.drop 0)))∧(∀ i o,fieldP CC 33 0 (.bp i o)=some (.bp i (o+0)))∧(∀ cs,fieldV CC 33 0 (.agg cs)=partP CC 3 cs 0)∧(∀ cs,fieldP CC 33 1 (.ip cs)=some (.ip (cs.drop 1)))∧(∀ i o,fieldP CC 33 1 (.bp i o)=some (.bp i (o+1)))∧(∀ cs,fieldV CC 33 1 (.agg cs)=partP CC 3 cs 1)∧(∀ cs,fieldP CC 33 2 (.ip cs)=some (.ip (cs.drop 2)))∧(∀ i o,fieldP CC 33 2 (.bp i o)=some (.bp i (o+2)))∧(∀ cs,fieldV CC 33 2 (.agg cs)=partP CC 3 cs 2)∧(∀ cs,fieldP CC 33 3 (.ip cs)=some (.ip (cs.drop 3)))∧(∀ i o,fieldP CC 33 3 (.bp i o)=some (.bp i (o+3)))∧(∀ cs,fieldV CC 33 3 (.agg cs)=partP CC 9 cs 3)∧(∀ cs,fieldP CC 33 4 (.ip cs)=some (.ip (cs.drop 4)))∧(∀ i o,fieldP CC 33 4 (.bp i o)=some (.bp i (o+4)))∧(∀ cs,fieldV CC 33 4 (.agg cs)=partP CC 29 cs 4)∧(∀ cs,fieldP CC 33 5 (.ip cs)=some (.ip (cs.drop 7)))∧(∀ i o,fieldP CC 33 5 (.bp i o)=some (.bp i (o+7)))∧(∀ cs,fieldV CC 33 5 (.agg cs)=partP CC 31 cs 7)∧(∀ cs,fieldP CC 33 6 (.ip cs)=some (.ip (cs.drop 10)))∧(∀ i o,fieldP CC 33 6 (.bp i o)=some (.bp i (o+10)))∧(∀ cs,fieldV CC 33 6 (.agg cs)=partP CC 32 cs 10)∧tAgg CC 34=true∧ptrT CC 34=false∧notSlice CC 34=true∧tSize CC 34=some 11∧(CC.P.info? 34).isSome=true∧(∀ cs,fieldP CC 34 0 (.ip cs)=some (.ip (cs.drop 0)))∧(∀ i o,fieldP CC 34 0 (.bp i o)=some (.bp i (o+0)))∧(∀ cs,fieldV CC 34 0 (.agg cs)=partP CC 3 cs 0)∧(∀ cs,fieldP CC 34 1 (.ip cs)=some (.ip (cs.drop 1)))∧(∀ i o,fieldP CC 34 1 (.bp i o)=some (.bp i (o+1)))∧(∀ cs,fieldV CC 34 1 (.agg cs)=partP CC 3 cs 1)∧(∀ cs,fieldP CC 34 2 (.ip cs)=some (.ip (cs.drop 2)))∧(∀ i o,fieldP CC 34 2 (.bp i o)=some (.bp i (o+2)))∧(∀ cs,fieldV CC 34 2 (.agg cs)=partP CC 3 cs 2):=by
 repeat' apply And.intro
 all_goals (intros;kernel_rfl)
theorem TG_7:(∀ cs,fieldP CC 34 3 (.ip cs)=some (.ip (cs.drop 3)))∧(∀ i o,fieldP CC 34 3 (.bp i o)=some (.bp i (o+3)))∧(∀ cs,fieldV CC 34 3 (.agg cs)=partP CC 9 cs 3)∧(∀ cs,fieldP CC 34 4 (.ip cs)=some (.ip (cs.drop 4)))∧(∀ i o,fieldP CC 34 4 (.bp i o)=some (.bp i (o+4)))∧(∀ cs,fieldV CC 34 4 (.agg cs)=partP CC 29 cs 4)∧(∀ cs,fieldP CC 34 5 (.ip cs)=some (.ip (cs.drop 7)))∧(∀ i o,fieldP CC 34 5 (.bp i o)=some (.bp i (o+7)))∧(∀ cs,fieldV CC 34 5 (.agg cs)=partP CC 31 cs 7)∧(∀ cs,fieldP CC 34 6 (.ip cs)=some (.ip (cs.drop 10)))∧(∀ i o,fieldP CC 34 6 (.bp i o)=some (.bp i (o+10)))∧(∀ cs,fieldV CC 34 6 (.agg cs)=partP CC 32 cs 10)∧CC.P.underlying 35=some (.slice 41)∧nilV CC 35=.osl 41 []∧tAgg CC 35=false∧ptrT CC 35=false∧notSlice CC 35=false∧tSize CC 35=some 1∧(CC.P.info? 35).isSome=true∧tAgg CC 36=true∧ptrT CC 36=false∧notSlice CC 36=true∧tSize CC 36=some 15∧(CC.P.info? 36).isSome=true∧(∀ cs,fieldP CC 36 0 (.ip cs)=some (.ip (cs.drop 0)))∧(∀ i o,fieldP CC 36 0 (.bp i o)=some (.bp i (o+0)))∧(∀ cs,fieldV CC 36 0 (.agg cs)=partP CC 9 cs 0)∧(∀ cs,fieldP CC 36 1 (.ip cs)=some (.ip (cs.drop 1)))∧(∀ i o,fieldP CC 36 1 (.bp i o)=some (.bp i (o+1)))∧(∀ cs,fieldV CC 36 1 (.agg cs)=partP CC 3 cs 1)∧(∀ cs,fieldP CC 36 2 (.ip cs)=some (.ip (cs.drop 2)))∧(∀ i o,fieldP CC 36 2 (.bp i o)=some (.bp i (o+2)))∧(∀ cs,fieldV CC 36 2 (.agg cs)=partP CC 27 cs 2)∧(∀ cs,fieldP CC 36 3 (.ip cs)=some (.ip (cs.drop 3)))∧(∀ i o,fieldP CC 36 3 (.bp i o)=some (.bp i (o+3)))∧(∀ cs,fieldV CC 36 3 (.agg cs)=partP CC 34 cs 3)∧(∀ cs,fieldP CC 36 4 (.ip cs)=some (.ip (cs.drop 14)))∧(∀ i o,fieldP CC 36 4 (.bp i o)=some (.bp i (o+14)))∧(∀ cs,fieldV CC 36 4 (.agg cs)=partP CC 35 cs 14)∧tAgg CC 37=true:=by
 repeat' apply And.intro
 all_goals (intros;kernel_rfl)
theorem TG_8:ptrT CC 37=false∧notSlice CC 37=true∧tSize CC 37=some 15∧(CC.P.info? 37).isSome=true∧(∀ cs,fieldP CC 37 0 (.ip cs)=some (.ip (cs.drop 0)))∧(∀ i o,fieldP CC 37 0 (.bp i o)=some (.bp i (o+0)))∧(∀ cs,fieldV CC 37 0 (.agg cs)=partP CC 9 cs 0)∧(∀ cs,fieldP CC 37 1 (.ip cs)=some (.ip (cs.drop 1)))∧(∀ i o,fieldP CC 37 1 (.bp i o)=some (.bp i (o+1)))∧(∀ cs,fieldV CC 37 1 (.agg cs)=partP CC 3 cs 1)∧(∀ cs,fieldP CC 37 2 (.ip cs)=some (.ip (cs.drop 2)))∧(∀ i o,fieldP CC 37 2 (.bp i o)=some (.bp i (o+2)))∧(∀ cs,fieldV CC 37 2 (.agg cs)=partP CC 27 cs 2)∧(∀ cs,fieldP CC 37 3 (.ip cs)=some (.ip (cs.drop 3)))∧(∀ i o,fieldP CC 37 3 (.bp i o)=some (.bp i (o+3)))∧(∀ cs,fieldV CC 37 3 (.agg cs)=partP CC 34 cs 3)∧(∀ cs,fieldP CC 37 4 (.ip cs)=some (.ip (cs.drop 14)))∧(∀ i o,fieldP CC 37 4 (.bp i o)=some (.bp i (o+14)))∧(∀ cs,fieldV CC 37 4 (.agg cs)=partP CC 35 cs 14)∧ptrT CC 38=false∧ptrT CC 39=false∧tAgg CC 40=true∧ptrT CC 40=false∧notSlice CC 40=true∧tSize CC 40=some 16∧(CC.P.info? 40).isSome=true∧(∀ cs,fieldP CC 40 0 (.ip cs)=some (.ip (cs.drop 0)))∧(∀ i o,fieldP CC 40 0 (.bp i o)=some (.bp i (o+0)))∧(∀ cs,fieldV CC 40 0 (.agg cs)=partP CC 3 cs 0)∧(∀ cs,fieldP CC 40 1 (.ip cs)=some (.ip (cs.drop 1)))∧(∀ i o,fieldP CC 40 1 (.bp i o)=some (.bp i (o+1)))∧(∀ cs,fieldV CC 40 1 (.agg cs)=partP CC 31 cs 1)∧(∀ cs,fieldP CC 40 2 (.ip cs)=some (.ip (cs.drop 4)))∧(∀ i o,fieldP CC 40 2 (.bp i o)=some (.bp i (o+4)))∧(∀ cs,fieldV CC 40 2 (.agg cs)=partP CC 9 cs 4)∧(∀ cs,fieldP CC 40 3 (.ip cs)=some (.ip (cs.drop 5)))∧(∀ i o,fieldP CC 40 3 (.bp i o)=some (.bp i (o+5)))∧(∀ cs,fieldV CC 40 3 (.agg cs)=partP CC 34 cs 5)∧tAgg CC 41=true∧ptrT CC 41=false:=by
 repeat' apply And.intro
 all_goals (intros;kernel_rfl)
theorem TG_9:notSlice CC 41=true∧tSize CC 41=some 16∧(CC.P.info? 41).isSome=true∧(∀ cs,fieldP CC 41 0 (.ip cs)=some (.ip (cs.drop 0)))∧(∀ i o,fieldP CC 41 0 (.bp i o)=some (.bp i (o+0)))∧(∀ cs,fieldV CC 41 0 (.agg cs)=partP CC 3 cs 0)∧(∀ cs,fieldP CC 41 1 (.ip cs)=some (.ip (cs.drop 1)))∧(∀ i o,fieldP CC 41 1 (.bp i o)=some (.bp i (o+1)))∧(∀ cs,fieldV CC 41 1 (.agg cs)=partP CC 31 cs 1)∧(∀ cs,fieldP CC 41 2 (.ip cs)=some (.ip (cs.drop 4)))∧(∀ i o,fieldP CC 41 2 (.bp i o)=some (.bp i (o+4)))∧(∀ cs,fieldV CC 41 2 (.agg cs)=partP CC 9 cs 4)∧(∀ cs,fieldP CC 41 3 (.ip cs)=some (.ip (cs.drop 5)))∧(∀ i o,fieldP CC 41 3 (.bp i o)=some (.bp i (o+5)))∧(∀ cs,fieldV CC 41 3 (.agg cs)=partP CC 34 cs 5)∧ptrT CC 42=false∧ptrT CC 43=false∧ptrT CC 45=false∧ptrT CC 46=false∧ptrT CC 47=false∧ptrT CC 48=false∧ptrT CC 49=false∧CC.P.underlying 50=some (.array 6 9)∧tAgg CC 50=true∧ptrT CC 50=false∧notSlice CC 50=true∧tSize CC 50=some 6∧(CC.P.info? 50).isSome=true∧ptrT CC 51=false∧ptrT CC 52=false∧CC.P.underlying 53=some (.array 6 34)∧tAgg CC 53=true∧ptrT CC 53=false∧notSlice CC 53=true∧tSize CC 53=some 66∧(CC.P.info? 53).isSome=true∧ptrT CC 54=false∧ptrT CC 55=false∧tAgg CC 56=true∧ptrT CC 56=false:=by
 repeat' apply And.intro
 all_goals (intros;kernel_rfl)
theorem TG_10:notSlice CC 56=true∧tSize CC 56=some 3∧(CC.P.info? 56).isSome=true∧(∀ cs,fieldP CC 56 0 (.ip cs)=some (.ip (cs.drop 0)))∧(∀ i o,fieldP CC 56 0 (.bp i o)=some (.bp i (o+0)))∧(∀ cs,fieldV CC 56 0 (.agg cs)=partP CC 3 cs 0)∧(∀ cs,fieldP CC 56 1 (.ip cs)=some (.ip (cs.drop 1)))∧(∀ i o,fieldP CC 56 1 (.bp i o)=some (.bp i (o+1)))∧(∀ cs,fieldV CC 56 1 (.agg cs)=partP CC 9 cs 1)∧(∀ cs,fieldP CC 56 2 (.ip cs)=some (.ip (cs.drop 2)))∧(∀ i o,fieldP CC 56 2 (.bp i o)=some (.bp i (o+2)))∧(∀ cs,fieldV CC 56 2 (.agg cs)=partP CC 9 cs 2)∧tAgg CC 57=true∧ptrT CC 57=false∧notSlice CC 57=true∧tSize CC 57=some 3∧(CC.P.info? 57).isSome=true∧(∀ cs,fieldP CC 57 0 (.ip cs)=some (.ip (cs.drop 0)))∧(∀ i o,fieldP CC 57 0 (.bp i o)=some (.bp i (o+0)))∧(∀ cs,fieldV CC 57 0 (.agg cs)=partP CC 3 cs 0)∧(∀ cs,fieldP CC 57 1 (.ip cs)=some (.ip (cs.drop 1)))∧(∀ i o,fieldP CC 57 1 (.bp i o)=some (.bp i (o+1)))∧(∀ cs,fieldV CC 57 1 (.agg cs)=partP CC 9 cs 1)∧(∀ cs,fieldP CC 57 2 (.ip cs)=some (.ip (cs.drop 2)))∧(∀ i o,fieldP CC 57 2 (.bp i o)=some (.bp i (o+2)))∧(∀ cs,fieldV CC 57 2 (.agg cs)=partP CC 9 cs 2)∧tAgg CC 58=true∧ptrT CC 58=false∧notSlice CC 58=true∧tSize CC 58=some 10∧(CC.P.info? 58).isSome=true∧(∀ cs,fieldP CC 58 0 (.ip cs)=some (.ip (cs.drop 0)))∧(∀ i o,fieldP CC 58 0 (.bp i o)=some (.bp i (o+0)))∧(∀ cs,fieldV CC 58 0 (.agg cs)=partP CC 3 cs 0)∧(∀ cs,fieldP CC 58 1 (.ip cs)=some (.ip (cs.drop 1)))∧(∀ i o,fieldP CC 58 1 (.bp i o)=some (.bp i (o+1)))∧(∀ cs,fieldV CC 58 1 (.agg cs)=partP CC 31 cs 1)∧(∀ cs,fieldP CC 58 2 (.ip cs)=some (.ip (cs.drop 4)))∧(∀ i o,fieldP CC 58 2 (.bp i o)=some (.bp i (o+4)))∧(∀ cs,fieldV CC 58 2 (.agg cs)=partP CC 57 cs 4):=by
 repeat' apply And.intro
 all_goals (intros;kernel_rfl)
theorem TG_11:(∀ cs,fieldP CC 58 3 (.ip cs)=some (.ip (cs.drop 7)))∧(∀ i o,fieldP CC 58 3 (.bp i o)=some (.bp i (o+7)))∧(∀ cs,fieldV CC 58 3 (.agg cs)=partP CC 9 cs 7)∧(∀ cs,fieldP CC 58 4 (.ip cs)=some (.ip (cs.drop 8)))∧(∀ i o,fieldP CC 58 4 (.bp i o)=some (.bp i (o+8)))∧(∀ cs,fieldV CC 58 4 (.agg cs)=partP CC 3 cs 8)∧(∀ cs,fieldP CC 58 5 (.ip cs)=some (.ip (cs.drop 9)))∧(∀ i o,fieldP CC 58 5 (.bp i o)=some (.bp i (o+9)))∧(∀ cs,fieldV CC 58 5 (.agg cs)=partP CC 3 cs 9)∧tAgg CC 59=true∧ptrT CC 59=false∧notSlice CC 59=true∧tSize CC 59=some 10∧(CC.P.info? 59).isSome=true∧(∀ cs,fieldP CC 59 0 (.ip cs)=some (.ip (cs.drop 0)))∧(∀ i o,fieldP CC 59 0 (.bp i o)=some (.bp i (o+0)))∧(∀ cs,fieldV CC 59 0 (.agg cs)=partP CC 3 cs 0)∧(∀ cs,fieldP CC 59 1 (.ip cs)=some (.ip (cs.drop 1)))∧(∀ i o,fieldP CC 59 1 (.bp i o)=some (.bp i (o+1)))∧(∀ cs,fieldV CC 59 1 (.agg cs)=partP CC 31 cs 1)∧(∀ cs,fieldP CC 59 2 (.ip cs)=some (.ip (cs.drop 4)))∧(∀ i o,fieldP CC 59 2 (.bp i o)=some (.bp i (o+4)))∧(∀ cs,fieldV CC 59 2 (.agg cs)=partP CC 57 cs 4)∧(∀ cs,fieldP CC 59 3 (.ip cs)=some (.ip (cs.drop 7)))∧(∀ i o,fieldP CC 59 3 (.bp i o)=some (.bp i (o+7)))∧(∀ cs,fieldV CC 59 3 (.agg cs)=partP CC 9 cs 7)∧(∀ cs,fieldP CC 59 4 (.ip cs)=some (.ip (cs.drop 8)))∧(∀ i o,fieldP CC 59 4 (.bp i o)=some (.bp i (o+8)))∧(∀ cs,fieldV CC 59 4 (.agg cs)=partP CC 3 cs 8)∧(∀ cs,fieldP CC 59 5 (.ip cs)=some (.ip (cs.drop 9)))∧(∀ i o,fieldP CC 59 5 (.bp i o)=some (.bp i (o+9)))∧(∀ cs,fieldV CC 59 5 (.agg cs)=partP CC 3 cs 9)∧tAgg CC 60=true∧ptrT CC 60=false∧notSlice CC 60=true∧tSize CC 60=some 2∧(CC.P.info? 60).isSome=true∧(∀ cs,fieldP CC 60 0 (.ip cs)=some (.ip (cs.drop 0)))∧(∀ i o,fieldP CC 60 0 (.bp i o)=some (.bp i (o+0)))∧(∀ cs,fieldV CC 60 0 (.agg cs)=partP CC 3 cs 0):=by
 repeat' apply And.intro
 all_goals (intros;kernel_rfl)
theorem TG_12:(∀ cs,fieldP CC 60 1 (.ip cs)=some (.ip (cs.drop 1)))∧(∀ i o,fieldP CC 60 1 (.bp i o)=some (.bp i (o+1)))∧(∀ cs,fieldV CC 60 1 (.agg cs)=partP CC 24 cs 1)∧tAgg CC 61=true∧ptrT CC 61=false∧notSlice CC 61=true∧tSize CC 61=some 2∧(CC.P.info? 61).isSome=true∧(∀ cs,fieldP CC 61 0 (.ip cs)=some (.ip (cs.drop 0)))∧(∀ i o,fieldP CC 61 0 (.bp i o)=some (.bp i (o+0)))∧(∀ cs,fieldV CC 61 0 (.agg cs)=partP CC 3 cs 0)∧(∀ cs,fieldP CC 61 1 (.ip cs)=some (.ip (cs.drop 1)))∧(∀ i o,fieldP CC 61 1 (.bp i o)=some (.bp i (o+1)))∧(∀ cs,fieldV CC 61 1 (.agg cs)=partP CC 24 cs 1)∧CC.P.underlying 63=some (.pointer 70)∧tAgg CC 63=false∧ptrT CC 63=true∧notSlice CC 63=true∧tSize CC 63=some 1∧(CC.P.info? 63).isSome=true∧ptrT CC 64=false∧tAgg CC 65=true∧ptrT CC 65=false∧notSlice CC 65=true∧tSize CC 65=some 3∧(CC.P.info? 65).isSome=true∧(∀ cs,fieldP CC 65 0 (.ip cs)=some (.ip (cs.drop 0)))∧(∀ i o,fieldP CC 65 0 (.bp i o)=some (.bp i (o+0)))∧(∀ cs,fieldV CC 65 0 (.agg cs)=partP CC 3 cs 0)∧(∀ cs,fieldP CC 65 1 (.ip cs)=some (.ip (cs.drop 1)))∧(∀ i o,fieldP CC 65 1 (.bp i o)=some (.bp i (o+1)))∧(∀ cs,fieldV CC 65 1 (.agg cs)=partP CC 9 cs 1)∧(∀ cs,fieldP CC 65 2 (.ip cs)=some (.ip (cs.drop 2)))∧(∀ i o,fieldP CC 65 2 (.bp i o)=some (.bp i (o+2)))∧(∀ cs,fieldV CC 65 2 (.agg cs)=partP CC 3 cs 2)∧tAgg CC 66=true∧ptrT CC 66=false∧notSlice CC 66=true∧tSize CC 66=some 3∧(CC.P.info? 66).isSome=true:=by
 repeat' apply And.intro
 all_goals (intros;kernel_rfl)
theorem TG_13:(∀ cs,fieldP CC 66 0 (.ip cs)=some (.ip (cs.drop 0)))∧(∀ i o,fieldP CC 66 0 (.bp i o)=some (.bp i (o+0)))∧(∀ cs,fieldV CC 66 0 (.agg cs)=partP CC 3 cs 0)∧(∀ cs,fieldP CC 66 1 (.ip cs)=some (.ip (cs.drop 1)))∧(∀ i o,fieldP CC 66 1 (.bp i o)=some (.bp i (o+1)))∧(∀ cs,fieldV CC 66 1 (.agg cs)=partP CC 9 cs 1)∧(∀ cs,fieldP CC 66 2 (.ip cs)=some (.ip (cs.drop 2)))∧(∀ i o,fieldP CC 66 2 (.bp i o)=some (.bp i (o+2)))∧(∀ cs,fieldV CC 66 2 (.agg cs)=partP CC 3 cs 2)∧ptrT CC 67=false∧CC.P.underlying 68=some (.slice 66)∧nilV CC 68=.osl 66 []∧tAgg CC 68=false∧ptrT CC 68=false∧notSlice CC 68=false∧tSize CC 68=some 1∧(CC.P.info? 68).isSome=true∧tAgg CC 69=true∧ptrT CC 69=false∧notSlice CC 69=true∧tSize CC 69=some 4∧(CC.P.info? 69).isSome=true∧(∀ cs,fieldP CC 69 0 (.ip cs)=some (.ip (cs.drop 0)))∧(∀ i o,fieldP CC 69 0 (.bp i o)=some (.bp i (o+0)))∧(∀ cs,fieldV CC 69 0 (.agg cs)=partP CC 68 cs 0)∧(∀ cs,fieldP CC 69 1 (.ip cs)=some (.ip (cs.drop 1)))∧(∀ i o,fieldP CC 69 1 (.bp i o)=some (.bp i (o+1)))∧(∀ cs,fieldV CC 69 1 (.agg cs)=partP CC 3 cs 1)∧(∀ cs,fieldP CC 69 2 (.ip cs)=some (.ip (cs.drop 2)))∧(∀ i o,fieldP CC 69 2 (.bp i o)=some (.bp i (o+2)))∧(∀ cs,fieldV CC 69 2 (.agg cs)=partP CC 3 cs 2)∧(∀ cs,fieldP CC 69 3 (.ip cs)=some (.ip (cs.drop 3)))∧(∀ i o,fieldP CC 69 3 (.bp i o)=some (.bp i (o+3)))∧(∀ cs,fieldV CC 69 3 (.agg cs)=partP CC 23 cs 3)∧tAgg CC 70=true∧ptrT CC 70=false∧notSlice CC 70=true∧tSize CC 70=some 4∧(CC.P.info? 70).isSome=true∧(∀ cs,fieldP CC 70 0 (.ip cs)=some (.ip (cs.drop 0))):=by
 repeat' apply And.intro
 all_goals (intros;kernel_rfl)
theorem TG_14:(∀ i o,fieldP CC 70 0 (.bp i o)=some (.bp i (o+0)))∧(∀ cs,fieldV CC 70 0 (.agg cs)=partP CC 68 cs 0)∧(∀ cs,fieldP CC 70 1 (.ip cs)=some (.ip (cs.drop 1)))∧(∀ i o,fieldP CC 70 1 (.bp i o)=some (.bp i (o+1)))∧(∀ cs,fieldV CC 70 1 (.agg cs)=partP CC 3 cs 1)∧(∀ cs,fieldP CC 70 2 (.ip cs)=some (.ip (cs.drop 2)))∧(∀ i o,fieldP CC 70 2 (.bp i o)=some (.bp i (o+2)))∧(∀ cs,fieldV CC 70 2 (.agg cs)=partP CC 3 cs 2)∧(∀ cs,fieldP CC 70 3 (.ip cs)=some (.ip (cs.drop 3)))∧(∀ i o,fieldP CC 70 3 (.bp i o)=some (.bp i (o+3)))∧(∀ cs,fieldV CC 70 3 (.agg cs)=partP CC 23 cs 3)∧ptrT CC 71=false∧ptrT CC 72=false∧ptrT CC 73=false∧ptrT CC 74=false∧ptrT CC 75=false∧ptrT CC 76=false∧ptrT CC 77=false∧ptrT CC 79=false∧ptrT CC 80=false∧ptrT CC 81=false∧ptrT CC 82=false∧ptrT CC 83=false∧ptrT CC 84=false∧ptrT CC 85=false∧ptrT CC 86=false∧ptrT CC 87=false∧ptrT CC 88=false∧ptrT CC 89=false∧ptrT CC 90=false∧ptrT CC 92=false∧ptrT CC 93=false∧ptrT CC 94=false∧ptrT CC 96=false∧ptrT CC 97=false∧ptrT CC 98=false∧ptrT CC 99=false∧ptrT CC 100=false∧ptrT CC 101=false∧ptrT CC 102=false:=by
 repeat' apply And.intro
 all_goals (intros;kernel_rfl)
theorem TG_15:ptrT CC 103=false∧ptrT CC 105=false∧ptrT CC 107=false∧ptrT CC 108=false∧ptrT CC 110=false∧ptrT CC 111=false∧CC.P.underlying 112=some (.array 7 9)∧tAgg CC 112=true∧ptrT CC 112=false∧notSlice CC 112=true∧tSize CC 112=some 7∧(CC.P.info? 112).isSome=true∧ptrT CC 114=false∧CC.P.underlying 115=some (.pointer 118)∧tAgg CC 115=false∧ptrT CC 115=true∧notSlice CC 115=true∧tSize CC 115=some 1∧(CC.P.info? 115).isSome=true∧CC.P.underlying 116=some (.slice 5)∧nilV CC 116=.osl 5 []∧tAgg CC 116=false∧ptrT CC 116=false∧notSlice CC 116=false∧tSize CC 116=some 1∧(CC.P.info? 116).isSome=true∧tAgg CC 117=true∧ptrT CC 117=false∧notSlice CC 117=true∧tSize CC 117=some 2∧(CC.P.info? 117).isSome=true∧(∀ cs,fieldP CC 117 0 (.ip cs)=some (.ip (cs.drop 0)))∧(∀ i o,fieldP CC 117 0 (.bp i o)=some (.bp i (o+0)))∧(∀ cs,fieldV CC 117 0 (.agg cs)=partP CC 115 cs 0)∧(∀ cs,fieldP CC 117 1 (.ip cs)=some (.ip (cs.drop 1)))∧(∀ i o,fieldP CC 117 1 (.bp i o)=some (.bp i (o+1)))∧(∀ cs,fieldV CC 117 1 (.agg cs)=partP CC 116 cs 1)∧tAgg CC 118=true∧ptrT CC 118=false∧notSlice CC 118=true:=by
 repeat' apply And.intro
 all_goals (intros;kernel_rfl)
theorem TG_16:tSize CC 118=some 2∧(CC.P.info? 118).isSome=true∧(∀ cs,fieldP CC 118 0 (.ip cs)=some (.ip (cs.drop 0)))∧(∀ i o,fieldP CC 118 0 (.bp i o)=some (.bp i (o+0)))∧(∀ cs,fieldV CC 118 0 (.agg cs)=partP CC 115 cs 0)∧(∀ cs,fieldP CC 118 1 (.ip cs)=some (.ip (cs.drop 1)))∧(∀ i o,fieldP CC 118 1 (.bp i o)=some (.bp i (o+1)))∧(∀ cs,fieldV CC 118 1 (.agg cs)=partP CC 116 cs 1)∧ptrT CC 120=false∧tAgg CC 121=false∧ptrT CC 121=false∧notSlice CC 121=true∧tSize CC 121=some 1∧tAgg CC 122=false∧ptrT CC 122=false∧notSlice CC 122=true∧tSize CC 122=some 1∧ptrT CC 123=false∧ptrT CC 124=false∧ptrT CC 125=false∧CC.P.underlying 126=some (.int .u64)∧tAgg CC 126=false∧ptrT CC 126=false∧notSlice CC 126=true∧tSize CC 126=some 1∧(CC.P.info? 126).isSome=true∧CC.P.underlying 127=some (.pointer 5)∧tAgg CC 127=false∧ptrT CC 127=true∧notSlice CC 127=true∧tSize CC 127=some 1∧(CC.P.info? 127).isSome=true∧ptrT CC 129=false∧CC.P.underlying 130=some (.array 4 9)∧tAgg CC 130=true∧ptrT CC 130=false∧notSlice CC 130=true∧tSize CC 130=some 4∧(CC.P.info? 130).isSome=true∧tAgg CC 131=true:=by
 repeat' apply And.intro
 all_goals (intros;kernel_rfl)
theorem TG_17:ptrT CC 131=false∧notSlice CC 131=true∧tSize CC 131=some 4∧(CC.P.info? 131).isSome=true∧(∀ cs,fieldP CC 131 0 (.ip cs)=some (.ip (cs.drop 0)))∧(∀ i o,fieldP CC 131 0 (.bp i o)=some (.bp i (o+0)))∧(∀ cs,fieldV CC 131 0 (.agg cs)=partP CC 17 cs 0)∧(∀ cs,fieldP CC 131 1 (.ip cs)=some (.ip (cs.drop 1)))∧(∀ i o,fieldP CC 131 1 (.bp i o)=some (.bp i (o+1)))∧(∀ cs,fieldV CC 131 1 (.agg cs)=partP CC 17 cs 1)∧(∀ cs,fieldP CC 131 2 (.ip cs)=some (.ip (cs.drop 2)))∧(∀ i o,fieldP CC 131 2 (.bp i o)=some (.bp i (o+2)))∧(∀ cs,fieldV CC 131 2 (.agg cs)=partP CC 17 cs 2)∧(∀ cs,fieldP CC 131 3 (.ip cs)=some (.ip (cs.drop 3)))∧(∀ i o,fieldP CC 131 3 (.bp i o)=some (.bp i (o+3)))∧(∀ cs,fieldV CC 131 3 (.agg cs)=partP CC 9 cs 3)∧tAgg CC 132=true∧ptrT CC 132=false∧notSlice CC 132=true∧tSize CC 132=some 4∧(CC.P.info? 132).isSome=true∧(∀ cs,fieldP CC 132 0 (.ip cs)=some (.ip (cs.drop 0)))∧(∀ i o,fieldP CC 132 0 (.bp i o)=some (.bp i (o+0)))∧(∀ cs,fieldV CC 132 0 (.agg cs)=partP CC 17 cs 0)∧(∀ cs,fieldP CC 132 1 (.ip cs)=some (.ip (cs.drop 1)))∧(∀ i o,fieldP CC 132 1 (.bp i o)=some (.bp i (o+1)))∧(∀ cs,fieldV CC 132 1 (.agg cs)=partP CC 17 cs 1)∧(∀ cs,fieldP CC 132 2 (.ip cs)=some (.ip (cs.drop 2)))∧(∀ i o,fieldP CC 132 2 (.bp i o)=some (.bp i (o+2)))∧(∀ cs,fieldV CC 132 2 (.agg cs)=partP CC 17 cs 2)∧(∀ cs,fieldP CC 132 3 (.ip cs)=some (.ip (cs.drop 3)))∧(∀ i o,fieldP CC 132 3 (.bp i o)=some (.bp i (o+3)))∧(∀ cs,fieldV CC 132 3 (.agg cs)=partP CC 9 cs 3)∧CC.P.underlying 133=some (.array 0 16)∧tAgg CC 133=true∧ptrT CC 133=false∧notSlice CC 133=true∧tSize CC 133=some 0∧(CC.P.info? 133).isSome=true∧tAgg CC 134=true:=by
 repeat' apply And.intro
 all_goals (intros;kernel_rfl)
theorem TG_18:ptrT CC 134=false∧notSlice CC 134=true∧tSize CC 134=some 0∧(CC.P.info? 134).isSome=true∧tAgg CC 135=true∧ptrT CC 135=false∧notSlice CC 135=true∧tSize CC 135=some 0∧(CC.P.info? 135).isSome=true∧CC.P.underlying 136=some (.int .u32)∧tAgg CC 136=false∧ptrT CC 136=false∧notSlice CC 136=true∧tSize CC 136=some 1∧(CC.P.info? 136).isSome=true∧CC.P.underlying 137=some (.int .u8)∧tAgg CC 137=false∧ptrT CC 137=false∧notSlice CC 137=true∧tSize CC 137=some 1∧(CC.P.info? 137).isSome=true∧CC.P.underlying 138=some (.int .u8)∧tAgg CC 138=false∧ptrT CC 138=false∧notSlice CC 138=true∧tSize CC 138=some 1∧(CC.P.info? 138).isSome=true∧ptrT CC 139=false∧CC.P.underlying 140=some (.int .i32)∧tAgg CC 140=false∧ptrT CC 140=false∧notSlice CC 140=true∧tSize CC 140=some 1∧(CC.P.info? 140).isSome=true∧CC.P.underlying 141=some (.int .i32)∧tAgg CC 141=false∧ptrT CC 141=false∧notSlice CC 141=true∧tSize CC 141=some 1∧(CC.P.info? 141).isSome=true:=by
 repeat' apply And.intro
 all_goals (intros;kernel_rfl)
theorem TG_19:tAgg CC 142=true∧ptrT CC 142=false∧notSlice CC 142=true∧tSize CC 142=some 11∧(CC.P.info? 142).isSome=true∧(∀ cs,fieldP CC 142 0 (.ip cs)=some (.ip (cs.drop 0)))∧(∀ i o,fieldP CC 142 0 (.bp i o)=some (.bp i (o+0)))∧(∀ cs,fieldV CC 142 0 (.agg cs)=partP CC 12 cs 0)∧(∀ cs,fieldP CC 142 1 (.ip cs)=some (.ip (cs.drop 1)))∧(∀ i o,fieldP CC 142 1 (.bp i o)=some (.bp i (o+1)))∧(∀ cs,fieldV CC 142 1 (.agg cs)=partP CC 12 cs 1)∧(∀ cs,fieldP CC 142 2 (.ip cs)=some (.ip (cs.drop 2)))∧(∀ i o,fieldP CC 142 2 (.bp i o)=some (.bp i (o+2)))∧(∀ cs,fieldV CC 142 2 (.agg cs)=partP CC 136 cs 2)∧(∀ cs,fieldP CC 142 3 (.ip cs)=some (.ip (cs.drop 3)))∧(∀ i o,fieldP CC 142 3 (.bp i o)=some (.bp i (o+3)))∧(∀ cs,fieldV CC 142 3 (.agg cs)=partP CC 137 cs 3)∧(∀ cs,fieldP CC 142 4 (.ip cs)=some (.ip (cs.drop 4)))∧(∀ i o,fieldP CC 142 4 (.bp i o)=some (.bp i (o+4)))∧(∀ cs,fieldV CC 142 4 (.agg cs)=partP CC 5 cs 4)∧(∀ cs,fieldP CC 142 5 (.ip cs)=some (.ip (cs.drop 5)))∧(∀ i o,fieldP CC 142 5 (.bp i o)=some (.bp i (o+5)))∧(∀ cs,fieldV CC 142 5 (.agg cs)=partP CC 5 cs 5)∧(∀ cs,fieldP CC 142 6 (.ip cs)=some (.ip (cs.drop 6)))∧(∀ i o,fieldP CC 142 6 (.bp i o)=some (.bp i (o+6)))∧(∀ cs,fieldV CC 142 6 (.agg cs)=partP CC 138 cs 6)∧(∀ cs,fieldP CC 142 7 (.ip cs)=some (.ip (cs.drop 7)))∧(∀ i o,fieldP CC 142 7 (.bp i o)=some (.bp i (o+7)))∧(∀ cs,fieldV CC 142 7 (.agg cs)=partP CC 139 cs 7)∧(∀ cs,fieldP CC 142 8 (.ip cs)=some (.ip (cs.drop 8)))∧(∀ i o,fieldP CC 142 8 (.bp i o)=some (.bp i (o+8)))∧(∀ cs,fieldV CC 142 8 (.agg cs)=partP CC 127 cs 8)∧(∀ cs,fieldP CC 142 9 (.ip cs)=some (.ip (cs.drop 9)))∧(∀ i o,fieldP CC 142 9 (.bp i o)=some (.bp i (o+9)))∧(∀ cs,fieldV CC 142 9 (.agg cs)=partP CC 140 cs 9)∧(∀ cs,fieldP CC 142 10 (.ip cs)=some (.ip (cs.drop 10)))∧(∀ i o,fieldP CC 142 10 (.bp i o)=some (.bp i (o+10)))∧(∀ cs,fieldV CC 142 10 (.agg cs)=partP CC 141 cs 10)∧tAgg CC 143=true∧ptrT CC 143=false:=by
 repeat' apply And.intro
 all_goals (intros;kernel_rfl)
theorem TG_20:notSlice CC 143=true∧tSize CC 143=some 11∧(CC.P.info? 143).isSome=true∧(∀ cs,fieldP CC 143 0 (.ip cs)=some (.ip (cs.drop 0)))∧(∀ i o,fieldP CC 143 0 (.bp i o)=some (.bp i (o+0)))∧(∀ cs,fieldV CC 143 0 (.agg cs)=partP CC 12 cs 0)∧(∀ cs,fieldP CC 143 1 (.ip cs)=some (.ip (cs.drop 1)))∧(∀ i o,fieldP CC 143 1 (.bp i o)=some (.bp i (o+1)))∧(∀ cs,fieldV CC 143 1 (.agg cs)=partP CC 12 cs 1)∧(∀ cs,fieldP CC 143 2 (.ip cs)=some (.ip (cs.drop 2)))∧(∀ i o,fieldP CC 143 2 (.bp i o)=some (.bp i (o+2)))∧(∀ cs,fieldV CC 143 2 (.agg cs)=partP CC 136 cs 2)∧(∀ cs,fieldP CC 143 3 (.ip cs)=some (.ip (cs.drop 3)))∧(∀ i o,fieldP CC 143 3 (.bp i o)=some (.bp i (o+3)))∧(∀ cs,fieldV CC 143 3 (.agg cs)=partP CC 137 cs 3)∧(∀ cs,fieldP CC 143 4 (.ip cs)=some (.ip (cs.drop 4)))∧(∀ i o,fieldP CC 143 4 (.bp i o)=some (.bp i (o+4)))∧(∀ cs,fieldV CC 143 4 (.agg cs)=partP CC 5 cs 4)∧(∀ cs,fieldP CC 143 5 (.ip cs)=some (.ip (cs.drop 5)))∧(∀ i o,fieldP CC 143 5 (.bp i o)=some (.bp i (o+5)))∧(∀ cs,fieldV CC 143 5 (.agg cs)=partP CC 5 cs 5)∧(∀ cs,fieldP CC 143 6 (.ip cs)=some (.ip (cs.drop 6)))∧(∀ i o,fieldP CC 143 6 (.bp i o)=some (.bp i (o+6)))∧(∀ cs,fieldV CC 143 6 (.agg cs)=partP CC 138 cs 6)∧(∀ cs,fieldP CC 143 7 (.ip cs)=some (.ip (cs.drop 7)))∧(∀ i o,fieldP CC 143 7 (.bp i o)=some (.bp i (o+7)))∧(∀ cs,fieldV CC 143 7 (.agg cs)=partP CC 139 cs 7)∧(∀ cs,fieldP CC 143 8 (.ip cs)=some (.ip (cs.drop 8)))∧(∀ i o,fieldP CC 143 8 (.bp i o)=some (.bp i (o+8)))∧(∀ cs,fieldV CC 143 8 (.agg cs)=partP CC 127 cs 8)∧(∀ cs,fieldP CC 143 9 (.ip cs)=some (.ip (cs.drop 9)))∧(∀ i o,fieldP CC 143 9 (.bp i o)=some (.bp i (o+9)))∧(∀ cs,fieldV CC 143 9 (.agg cs)=partP CC 140 cs 9)∧(∀ cs,fieldP CC 143 10 (.ip cs)=some (.ip (cs.drop 10)))∧(∀ i o,fieldP CC 143 10 (.bp i o)=some (.bp i (o+10)))∧(∀ cs,fieldV CC 143 10 (.agg cs)=partP CC 141 cs 10):=by
 repeat' apply And.intro
 all_goals (intros;kernel_rfl)
theorem TG:(type_of% TG_0)∧(type_of% TG_1)∧(type_of% TG_2)∧(type_of% TG_3)∧(type_of% TG_4)∧(type_of% TG_5)∧(type_of% TG_6)∧(type_of% TG_7)∧(type_of% TG_8)∧(type_of% TG_9)∧(type_of% TG_10)∧(type_of% TG_11)∧(type_of% TG_12)∧(type_of% TG_13)∧(type_of% TG_14)∧(type_of% TG_15)∧(type_of% TG_16)∧(type_of% TG_17)∧(type_of% TG_18)∧(type_of% TG_19)∧(type_of% TG_20)∧(CC.heap 0=false∧CC.heap 1=false∧CC.heap 2=false∧CC.heap 3=false∧CC.heap 4=false∧CC.heap 5=false∧CC.heap 6=false∧CC.heap 7=false∧CC.heap 8=false∧CC.heap 9=false∧CC.heap 10=false∧CC.heap 11=false∧CC.heap 12=false∧CC.heap 13=false∧CC.heap 14=false∧CC.heap 15=false∧CC.heap 16=false∧CC.heap 17=false∧CC.heap 18=false∧CC.heap 19=false∧CC.heap 20=false∧CC.heap 21=false∧CC.heap 22=false∧CC.heap 23=false∧CC.heap 24=true∧CC.heap 25=false∧CC.heap 26=false∧CC.heap 27=false∧CC.heap 28=false∧CC.heap 29=false∧CC.heap 30=false∧CC.heap 31=false∧CC.heap 32=false∧CC.heap 33=false∧CC.heap 34=false∧CC.heap 35=false∧CC.heap 36=false∧CC.heap 37=false∧CC.heap 38=false∧CC.heap 39=false∧CC.heap 40=false∧CC.heap 41=false∧CC.heap 42=false∧CC.heap 43=false∧CC.heap 44=false∧CC.heap 45=false∧CC.heap 46=false∧CC.heap 47=false∧CC.heap 48=false∧CC.heap 49=false∧CC.heap 50=false∧CC.heap 51=false∧CC.heap 52=false∧CC.heap 53=false∧CC.heap 54=false∧CC.heap 55=false∧CC.heap 56=false∧CC.heap 57=false∧CC.heap 58=false∧CC.heap 59=false∧CC.heap 60=false∧CC.heap 61=false∧CC.heap 62=false∧CC.heap 63=false∧CC.heap 64=false∧CC.heap 65=false∧CC.heap 66=false∧CC.heap 67=false∧CC.heap 68=false∧CC.heap 69=false∧CC.heap 70=false∧CC.heap 71=false∧CC.heap 72=false∧CC.heap 73=false∧CC.heap 74=false∧CC.heap 75=false∧CC.heap 76=false∧CC.heap 77=false∧CC.heap 78=false∧CC.heap 79=false∧CC.heap 80=false∧CC.heap 81=false∧CC.heap 82=false∧CC.heap 83=false∧CC.heap 84=false∧CC.heap 85=false∧CC.heap 86=false∧CC.heap 87=false∧CC.heap 88=false∧CC.heap 89=false∧CC.heap 90=false∧CC.heap 91=false∧CC.heap 92=false∧CC.heap 93=false∧CC.heap 94=false∧CC.heap 95=false∧CC.heap 96=false∧CC.heap 97=false∧CC.heap 98=false∧CC.heap 99=false∧CC.heap 100=false∧CC.heap 101=false∧CC.heap 102=false∧CC.heap 103=false∧CC.heap 104=false∧CC.heap 105=false∧CC.heap 106=false∧CC.heap 107=false∧CC.heap 108=false∧CC.heap 109=false∧CC.heap 110=false∧CC.heap 111=false∧CC.heap 112=false∧CC.heap 113=false∧CC.heap 114=false∧CC.heap 115=false∧CC.heap 116=false):=
 ⟨TG_0,TG_1,TG_2,TG_3,TG_4,TG_5,TG_6,TG_7,TG_8,TG_9,TG_10,TG_11,TG_12,TG_13,TG_14,TG_15,TG_16,TG_17,TG_18,TG_19,TG_20,heapCC⟩
noncomputable def fU_29:Array Field:=match Try.prog.underlying 29 with | some (.struct f)=>f | _=>#[]
noncomputable def fU_34:Array Field:=match Try.prog.underlying 34 with | some (.struct f)=>f | _=>#[]
noncomputable def fU_31:Array Field:=match Try.prog.underlying 31 with | some (.struct f)=>f | _=>#[]
noncomputable def fU_57:Array Field:=match Try.prog.underlying 57 with | some (.struct f)=>f | _=>#[]
noncomputable def fU_59:Array Field:=match Try.prog.underlying 59 with | some (.struct f)=>f | _=>#[]
noncomputable def fU_41:Array Field:=match Try.prog.underlying 41 with | some (.struct f)=>f | _=>#[]
noncomputable def fU_37:Array Field:=match Try.prog.underlying 37 with | some (.struct f)=>f | _=>#[]
noncomputable def fU_66:Array Field:=match Try.prog.underlying 66 with | some (.struct f)=>f | _=>#[]
theorem UT:CC.P.underlying 29=some (.struct fU_29)∧CC.P.underlying 34=some (.struct fU_34)∧CC.P.underlying 31=some (.struct fU_31)∧CC.P.underlying 57=some (.struct fU_57)∧CC.P.underlying 59=some (.struct fU_59)∧CC.P.underlying 41=some (.struct fU_41)∧CC.P.underlying 37=some (.struct fU_37)∧CC.P.underlying 66=some (.struct fU_66):=by
 repeat' apply And.intro
 all_goals kernel_rfl
theorem S7:(type_of% @SA)∧(type_of% @SB)∧(type_of% @SD)∧(type_of% @SF):=⟨@SA,@SB,@SD,@SF⟩
theorem S8:(type_of% @S7)∧(type_of% @TG)∧(type_of% @SE):=⟨@S7,@TG,@SE⟩
theorem S9:(type_of% @S8)∧(type_of% @SG)∧(type_of% @SH)∧(type_of% @SC)∧(type_of% @UT):=⟨@S8,@SG,@SH,@SC,@UT⟩
theorem call_strings_IndexByte (s:List UInt8) (c:Int) (bx):callL CC 83 [.str s,.int .u8 c] bx=some (.ret (.int .i64 (Lib.indexByte s c.toNat.toUInt8)),bx):=by
 have hp:CC.prim 83=some ixbP:=rfl
 have hq:CC.hprim 83=none:=rfl
 unfold callL bodyP bodyQ
 simp only [show CC.cat 83=none from rfl,hq,hp,pureL,PV.pure,Bool.and_self,if_true,ixbP,Option.map_some]
theorem op_strings_IndexByte (s:List UInt8) (c:Int) (bx):callOp CC (callL CC) 83 [.str s,.int .u8 c] bx=some (.ret (.int .i64 (Lib.indexByte s c.toNat.toUInt8)),bx):=callOp_of rfl (by simp only [SA,Bool.and_true]) (call_strings_IndexByte s c []) rfl
end Go.HH
namespace Go.HH
open Go Go.Proofs
set_option maxRecDepth 100000
set_option linter.unusedSimpArgs false
set_option linter.unusedVariables false
theorem ix_str (s:List UInt8) (i:Nat) (b:UInt8) (h:s[i]?=some b):indexV CC 9 (.str s) (.int .i64 (i:Int))=some (.int .u8 (b.toNat:Int)):=by
 unfold indexV
 simp only [TG,Int.toNat_natCast,h]
 rw [if_neg (by omega)]
theorem len_str (s:List UInt8):lenP CC 9 (.str s)=some (.int .i64 s.length):=by
 unfold lenP
 simp only [TG]
theorem sl_str (s:List UInt8) (a b:Int) (h0:0<=a) (h1:a<=b) (h2:b<=s.length):sliceP CC 9 (.str s) (some (.int .i64 a)) (some (.int .i64 b))=some (.str ((s.take b.toNat).drop a.toNat)):=by
 unfold sliceP
 simp only [TG,boundO,boundP]
 rw [if_pos ⟨by omega,h2⟩]
 simp only
 rw [if_pos ⟨h0,by omega⟩]
theorem sl_str_hi (s:List UInt8) (b:Int) (h0:0<=b) (h2:b<=s.length):sliceP CC 9 (.str s) none (some (.int .i64 b))=some (.str (s.take b.toNat)):=by
 unfold sliceP
 simp only [TG,boundO,boundP]
 rw [if_pos ⟨h0,h2⟩]
 simp only [List.drop_zero]
theorem sl_str_lo (s:List UInt8) (a:Int) (h0:0<=a) (h2:a<=s.length):sliceP CC 9 (.str s) (some (.int .i64 a)) none=some (.str (s.drop a.toNat)):=by
 unfold sliceP
 simp only [TG,boundO,boundP]
 rw [if_pos ⟨h0,h2⟩]
 simp only [List.take_length]
theorem strP_neq (a b:List UInt8):strP .neq a b=some (.bool (!(a == b))):=rfl
theorem strP_eql (a b:List UInt8):strP .eql a b=some (.bool (a == b)):=rfl
abbrev Vl:=Int×Int×List UInt8
def vlV (v:Vl):PV:=.agg [.int .i64 v.1,.int .i64 v.2.1,.str v.2.2]
def and2 (x:Bool) (y:Option Bool):Option Bool:=match some x with
 | some true=>y
 | o=>o
def eqVl (v w:Vl):Bool:=(v.1 == w.1) && (v.2.1 == w.2.1) && (v.2.2 == w.2.2)
theorem eqVP (a a' b b':Int) (c c':List UInt8):eqP CC 100 29 (.agg [.int .i64 a,.int .i64 b,.str c]) (.agg [.int .i64 a',.int .i64 b',.str c'])=some ((a == a') && (b == b') && (c == c')):=by
 have h:eqP CC 100 29 (.agg [.int .i64 a,.int .i64 b,.str c]) (.agg [.int .i64 a',.int .i64 b',.str c'])=and2 (a == a') (and2 (b == b') (and2 (c == c') (some true))):=by kernel_rfl
 rw [h]
 cases a == a' <;> cases b == b' <;> cases c == c' <;> rfl
theorem eqgV:CC.P.eqGuardType CC.P.depth 29=false:=by kernel_rfl
theorem ok_value_inRange:fnOK CC Try.f64 (Try.f64.body.getD .skip)=true:=by kernel_rfl
theorem fat_value_inRange:CC.P.funcs[64]?=some Try.f64:=by kernel_rfl
theorem ok_value_Check:fnOK CC Try.f53 (Try.f53.body.getD .skip)=true:=by kernel_rfl
theorem fat_value_Check:CC.P.funcs[53]?=some Try.f53:=by kernel_rfl
def inR (n:Int):Bool:=decide (-1099511627776<=n∧n<=1099511627776)
theorem call_value_inRange (n:Int):callL CC 64 [.int .i64 n] []=some (.ret (.bool (inR n)),[]):=by
 rw [callL_enter (fn:=Try.f64) (c:=Try.f64.body.getD .skip) rfl rfl fat_value_inRange rfl ok_value_inRange (Nat.le_of_ble_eq_true rfl)]
 unfold inR
 by_cases c1:n ≥ -1099511627776
 · by_cases c2:n<=1099511627776
   · rw [decide_eq_true (show -1099511627776<=n∧n<=1099511627776 from ⟨c1,c2⟩)]
     obtain ⟨ev,eo,so,co,⟨hev,hco⟩,R⟩:=RULES CC;rw [<- hev]
     simp only [fpart,part',Try.f64,Option.getD]
     simp only [S8,R,seval,c1,c2]
   · rw [decide_eq_false (show ¬ (-1099511627776<=n∧n<=1099511627776) from fun h=>c2 h.2)]
     obtain ⟨ev,eo,so,co,⟨hev,hco⟩,R⟩:=RULES CC;rw [<- hev]
     simp only [fpart,part',Try.f64,Option.getD]
     simp only [S8,R,seval,c1,c2]
 · rw [decide_eq_false (show ¬ (-1099511627776<=n∧n<=1099511627776) from fun h=>c1 h.1)]
   obtain ⟨ev,eo,so,co,⟨hev,hco⟩,R⟩:=RULES CC;rw [<- hev]
   simp only [fpart,part',Try.f64,Option.getD]
   simp only [S8,R,seval,c1]
theorem op_value_inRange (n:Int) (bx):callOp CC (callL CC) 64 [.int .i64 n] bx=some (.ret (.bool (inR n)),bx):=callOp_of rfl (by simp only [SA,Bool.and_true]) (call_value_inRange n) rfl
def okN (k n:Int):Option Bool:=if k=0∨k=4 then some (n == 0) else if k=1 then some (n == 0 || n == 1) else if k=2 then some (inR n) else if k=3 then some (decide (0<=n) && decide (n<=63)) else none
def ckV (v:Vl):Int:=match okN v.1 v.2.1 with
 | none=>7
 | some false=>2
 | some true=>if 60 < v.2.2.length then 3 else if v.2.2≠[]∧v.1≠4 then 4 else 0
theorem ck_v_0 (n:Int) (s:List UInt8):∃ bx,callL CC 53 [vlV (0,n,s)] []=some (.ret (.int .i64 (ckV (0,n,s))),bx):=by
 rw [callL_enter (fn:=Try.f53) (c:=Try.f53.body.getD .skip) rfl rfl fat_value_Check rfl ok_value_Check (Nat.le_of_ble_eq_true rfl)]
 have hlen:=len_str s
 unfold ckV vlV
 simp only
 by_cases c1:n=0
 · subst c1
   have ok:okN 0 0=some true:=rfl
   rw [ok]
   by_cases d1:60 < s.length
   · have d1p:(s.length:Int) > 60:=by omega
     simp only [if_pos d1]
     obtain ⟨ev,eo,so,co,⟨hev,hco⟩,R⟩:=RULES CC;rw [<- hev]
     skip
     simp only [fpart,part',Try.f53,Option.getD]
     simp only [S8,R,SG,seval,UT,SC,hlen,d1p]
     exact ⟨_,rfl⟩
   · have d1p:¬ (s.length:Int) > 60:=by omega
     simp only [if_neg d1]
     have hsq:=strP_neq s []
     by_cases d2:s=[]
     · rw [if_neg (fun h=>h.1 d2)]
       rw [show (!(s == []))=false by rw [d2];rfl] at hsq
       obtain ⟨ev,eo,so,co,⟨hev,hco⟩,R⟩:=RULES CC;rw [<- hev]
       skip
       simp only [fpart,part',Try.f53,Option.getD]
       simp only [S8,R,SG,seval,UT,SC,hlen,d1p,hsq]
       exact ⟨_,rfl⟩
     · rw [if_pos ⟨d2,by omega⟩]
       rw [show (!(s == []))=true by simpa using d2] at hsq
       obtain ⟨ev,eo,so,co,⟨hev,hco⟩,R⟩:=RULES CC;rw [<- hev]
       skip
       simp only [fpart,part',Try.f53,Option.getD]
       simp only [S8,R,SG,seval,UT,SC,hlen,d1p,hsq]
       exact ⟨_,rfl⟩
 · have c1p:(n == 0)=false:=by simpa using c1
   have ok:okN 0 n=some false:=by unfold okN;simpa using c1
   rw [ok]
   dsimp only
   obtain ⟨ev,eo,so,co,⟨hev,hco⟩,R⟩:=RULES CC;rw [<- hev]
   skip
   simp only [fpart,part',Try.f53,Option.getD]
   simp only [S8,R,SG,seval,UT,SC,hlen,c1p]
   exact ⟨_,rfl⟩
theorem ck_v_4 (n:Int) (s:List UInt8):∃ bx,callL CC 53 [vlV (4,n,s)] []=some (.ret (.int .i64 (ckV (4,n,s))),bx):=by
 rw [callL_enter (fn:=Try.f53) (c:=Try.f53.body.getD .skip) rfl rfl fat_value_Check rfl ok_value_Check (Nat.le_of_ble_eq_true rfl)]
 have hlen:=len_str s
 unfold ckV vlV
 simp only
 by_cases c1:n=0
 · subst c1
   have ok:okN 4 0=some true:=rfl
   rw [ok]
   by_cases d1:60 < s.length
   · have d1p:(s.length:Int) > 60:=by omega
     simp only [if_pos d1]
     obtain ⟨ev,eo,so,co,⟨hev,hco⟩,R⟩:=RULES CC;rw [<- hev]
     skip
     simp only [fpart,part',Try.f53,Option.getD]
     simp only [S8,R,SG,seval,UT,SC,hlen,d1p]
     exact ⟨_,rfl⟩
   · have d1p:¬ (s.length:Int) > 60:=by omega
     simp only [if_neg d1]
     simp only [ne_eq,not_true_eq_false,and_false,if_false]
     have hsq:=strP_neq s []
     generalize (!(s == []))=sb at *
     cases sb
     · skip
       obtain ⟨ev,eo,so,co,⟨hev,hco⟩,R⟩:=RULES CC;rw [<- hev]
       skip
       simp only [fpart,part',Try.f53,Option.getD]
       simp only [S8,R,SG,seval,UT,SC,hlen,d1p,hsq]
       exact ⟨_,rfl⟩
     · skip
       obtain ⟨ev,eo,so,co,⟨hev,hco⟩,R⟩:=RULES CC;rw [<- hev]
       skip
       simp only [fpart,part',Try.f53,Option.getD]
       simp only [S8,R,SG,seval,UT,SC,hlen,d1p,hsq]
       exact ⟨_,rfl⟩
 · have c1p:(n == 0)=false:=by simpa using c1
   have ok:okN 4 n=some false:=by unfold okN;simpa using c1
   rw [ok]
   dsimp only
   obtain ⟨ev,eo,so,co,⟨hev,hco⟩,R⟩:=RULES CC;rw [<- hev]
   skip
   simp only [fpart,part',Try.f53,Option.getD]
   simp only [S8,R,SG,seval,UT,SC,hlen,c1p]
   exact ⟨_,rfl⟩
theorem ck_v_1 (n:Int) (s:List UInt8):∃ bx,callL CC 53 [vlV (1,n,s)] []=some (.ret (.int .i64 (ckV (1,n,s))),bx):=by
 rw [callL_enter (fn:=Try.f53) (c:=Try.f53.body.getD .skip) rfl rfl fat_value_Check rfl ok_value_Check (Nat.le_of_ble_eq_true rfl)]
 have hlen:=len_str s
 unfold ckV vlV
 simp only
 by_cases c1:n=0
 · subst c1
   have ok:okN 1 0=some true:=rfl
   rw [ok]
   by_cases d1:60 < s.length
   · have d1p:(s.length:Int) > 60:=by omega
     simp only [if_pos d1]
     obtain ⟨ev,eo,so,co,⟨hev,hco⟩,R⟩:=RULES CC;rw [<- hev]
     skip
     simp only [fpart,part',Try.f53,Option.getD]
     simp only [S8,R,SG,seval,UT,SC,hlen,d1p]
     exact ⟨_,rfl⟩
   · have d1p:¬ (s.length:Int) > 60:=by omega
     simp only [if_neg d1]
     have hsq:=strP_neq s []
     by_cases d2:s=[]
     · rw [if_neg (fun h=>h.1 d2)]
       rw [show (!(s == []))=false by rw [d2];rfl] at hsq
       obtain ⟨ev,eo,so,co,⟨hev,hco⟩,R⟩:=RULES CC;rw [<- hev]
       skip
       simp only [fpart,part',Try.f53,Option.getD]
       simp only [S8,R,SG,seval,UT,SC,hlen,d1p,hsq]
       exact ⟨_,rfl⟩
     · rw [if_pos ⟨d2,by omega⟩]
       rw [show (!(s == []))=true by simpa using d2] at hsq
       obtain ⟨ev,eo,so,co,⟨hev,hco⟩,R⟩:=RULES CC;rw [<- hev]
       skip
       simp only [fpart,part',Try.f53,Option.getD]
       simp only [S8,R,SG,seval,UT,SC,hlen,d1p,hsq]
       exact ⟨_,rfl⟩
 · have c1p:(n == 0)=false:=by simpa using c1
   by_cases c2:n=1
   · subst c2
     have ok:okN 1 1=some true:=rfl
     rw [ok]
     by_cases d1:60 < s.length
     · have d1p:(s.length:Int) > 60:=by omega
       simp only [if_pos d1]
       obtain ⟨ev,eo,so,co,⟨hev,hco⟩,R⟩:=RULES CC;rw [<- hev]
       skip
       simp only [fpart,part',Try.f53,Option.getD]
       simp only [S8,R,SG,seval,UT,SC,hlen,d1p]
       exact ⟨_,rfl⟩
     · have d1p:¬ (s.length:Int) > 60:=by omega
       simp only [if_neg d1]
       have hsq:=strP_neq s []
       by_cases d2:s=[]
       · rw [if_neg (fun h=>h.1 d2)]
         rw [show (!(s == []))=false by rw [d2];rfl] at hsq
         obtain ⟨ev,eo,so,co,⟨hev,hco⟩,R⟩:=RULES CC;rw [<- hev]
         skip
         simp only [fpart,part',Try.f53,Option.getD]
         simp only [S8,R,SG,seval,UT,SC,hlen,d1p,hsq]
         exact ⟨_,rfl⟩
       · rw [if_pos ⟨d2,by omega⟩]
         rw [show (!(s == []))=true by simpa using d2] at hsq
         obtain ⟨ev,eo,so,co,⟨hev,hco⟩,R⟩:=RULES CC;rw [<- hev]
         skip
         simp only [fpart,part',Try.f53,Option.getD]
         simp only [S8,R,SG,seval,UT,SC,hlen,d1p,hsq]
         exact ⟨_,rfl⟩
   · have c2p:(n == 1)=false:=by simpa using c2
     have ok:okN 1 n=some false:=by unfold okN;simp [c1,c2]
     rw [ok]
     dsimp only
     obtain ⟨ev,eo,so,co,⟨hev,hco⟩,R⟩:=RULES CC;rw [<- hev]
     skip
     simp only [fpart,part',Try.f53,Option.getD]
     simp only [S8,R,SG,seval,UT,SC,hlen,c1p,c2p]
     exact ⟨_,rfl⟩
theorem ck_v_2 (n:Int) (s:List UInt8):∃ bx,callL CC 53 [vlV (2,n,s)] []=some (.ret (.int .i64 (ckV (2,n,s))),bx):=by
 rw [callL_enter (fn:=Try.f53) (c:=Try.f53.body.getD .skip) rfl rfl fat_value_Check rfl ok_value_Check (Nat.le_of_ble_eq_true rfl)]
 have hlen:=len_str s
 unfold ckV vlV
 simp only
 have hin:=op_value_inRange n
 have ok:okN 2 n=some (inR n):=rfl
 generalize inR n=b at *
 cases b
 · skip
   rw [ok]
   dsimp only
   obtain ⟨ev,eo,so,co,⟨hev,hco⟩,R⟩:=RULES CC;rw [<- hev]
   rw [<- hco] at hin
   simp only [fpart,part',Try.f53,Option.getD]
   simp only [S8,R,SG,seval,UT,SC,hlen,hin]
   exact ⟨_,rfl⟩
 · skip
   rw [ok]
   by_cases d1:60 < s.length
   · have d1p:(s.length:Int) > 60:=by omega
     simp only [if_pos d1]
     obtain ⟨ev,eo,so,co,⟨hev,hco⟩,R⟩:=RULES CC;rw [<- hev]
     rw [<- hco] at hin
     simp only [fpart,part',Try.f53,Option.getD]
     simp only [S8,R,SG,seval,UT,SC,hlen,hin,d1p]
     exact ⟨_,rfl⟩
   · have d1p:¬ (s.length:Int) > 60:=by omega
     simp only [if_neg d1]
     have hsq:=strP_neq s []
     by_cases d2:s=[]
     · rw [if_neg (fun h=>h.1 d2)]
       rw [show (!(s == []))=false by rw [d2];rfl] at hsq
       obtain ⟨ev,eo,so,co,⟨hev,hco⟩,R⟩:=RULES CC;rw [<- hev]
       rw [<- hco] at hin
       simp only [fpart,part',Try.f53,Option.getD]
       simp only [S8,R,SG,seval,UT,SC,hlen,hin,d1p,hsq]
       exact ⟨_,rfl⟩
     · rw [if_pos ⟨d2,by omega⟩]
       rw [show (!(s == []))=true by simpa using d2] at hsq
       obtain ⟨ev,eo,so,co,⟨hev,hco⟩,R⟩:=RULES CC;rw [<- hev]
       rw [<- hco] at hin
       simp only [fpart,part',Try.f53,Option.getD]
       simp only [S8,R,SG,seval,UT,SC,hlen,hin,d1p,hsq]
       exact ⟨_,rfl⟩
theorem ck_v_3 (n:Int) (s:List UInt8):∃ bx,callL CC 53 [vlV (3,n,s)] []=some (.ret (.int .i64 (ckV (3,n,s))),bx):=by
 rw [callL_enter (fn:=Try.f53) (c:=Try.f53.body.getD .skip) rfl rfl fat_value_Check rfl ok_value_Check (Nat.le_of_ble_eq_true rfl)]
 have hlen:=len_str s
 unfold ckV vlV
 simp only
 by_cases c1:n ≥ 0
 · by_cases c2:n<=63
   · have ok:okN 3 n=some true:=by unfold okN;simp;omega
     rw [ok]
     by_cases d1:60 < s.length
     · have d1p:(s.length:Int) > 60:=by omega
       simp only [if_pos d1]
       obtain ⟨ev,eo,so,co,⟨hev,hco⟩,R⟩:=RULES CC;rw [<- hev]
       skip
       simp only [fpart,part',Try.f53,Option.getD]
       simp only [S8,R,SG,seval,UT,SC,hlen,c1,c2,d1p]
       exact ⟨_,rfl⟩
     · have d1p:¬ (s.length:Int) > 60:=by omega
       simp only [if_neg d1]
       have hsq:=strP_neq s []
       by_cases d2:s=[]
       · rw [if_neg (fun h=>h.1 d2)]
         rw [show (!(s == []))=false by rw [d2];rfl] at hsq
         obtain ⟨ev,eo,so,co,⟨hev,hco⟩,R⟩:=RULES CC;rw [<- hev]
         skip
         simp only [fpart,part',Try.f53,Option.getD]
         simp only [S8,R,SG,seval,UT,SC,hlen,c1,c2,d1p,hsq]
         exact ⟨_,rfl⟩
       · rw [if_pos ⟨d2,by omega⟩]
         rw [show (!(s == []))=true by simpa using d2] at hsq
         obtain ⟨ev,eo,so,co,⟨hev,hco⟩,R⟩:=RULES CC;rw [<- hev]
         skip
         simp only [fpart,part',Try.f53,Option.getD]
         simp only [S8,R,SG,seval,UT,SC,hlen,c1,c2,d1p,hsq]
         exact ⟨_,rfl⟩
   · have ok:okN 3 n=some false:=by unfold okN;simp;omega
     rw [ok]
     dsimp only
     obtain ⟨ev,eo,so,co,⟨hev,hco⟩,R⟩:=RULES CC;rw [<- hev]
     skip
     simp only [fpart,part',Try.f53,Option.getD]
     simp only [S8,R,SG,seval,UT,SC,hlen,c1,c2]
     exact ⟨_,rfl⟩
 · have ok:okN 3 n=some false:=by unfold okN;simp;omega
   rw [ok]
   dsimp only
   obtain ⟨ev,eo,so,co,⟨hev,hco⟩,R⟩:=RULES CC;rw [<- hev]
   skip
   simp only [fpart,part',Try.f53,Option.getD]
   simp only [S8,R,SG,seval,UT,SC,hlen,c1]
   exact ⟨_,rfl⟩
theorem ck_v_o (k n:Int) (s:List UInt8) (h:k≠0∧k≠4∧k≠1∧k≠2∧k≠3):∃ bx,callL CC 53 [vlV (k,n,s)] []=some (.ret (.int .i64 (ckV (k,n,s))),bx):=by
 rw [callL_enter (fn:=Try.f53) (c:=Try.f53.body.getD .skip) rfl rfl fat_value_Check rfl ok_value_Check (Nat.le_of_ble_eq_true rfl)]
 obtain ⟨k0,k4,k1,k2,k3⟩:=h
 have ok:okN k n=none:=by unfold okN;rw [if_neg (by omega),if_neg k1,if_neg k2,if_neg k3]
 have e0:(k == 0)=false:=by simpa using k0
 have e4:(k == 4)=false:=by simpa using k4
 have e1:(k == 1)=false:=by simpa using k1
 have e2:(k == 2)=false:=by simpa using k2
 have e3:(k == 3)=false:=by simpa using k3
 have hlen:=len_str s
 unfold ckV vlV
 simp only
 rw [ok]
 dsimp only
 obtain ⟨ev,eo,so,co,⟨hev,hco⟩,R⟩:=RULES CC;rw [<- hev]
 skip
 simp only [fpart,part',Try.f53,Option.getD]
 simp only [S8,R,SG,seval,UT,SC,hlen,e0,e4,e1,e2,e3]
 exact ⟨_,rfl⟩
theorem call_value_Check (v:Vl):∃ bx,callL CC 53 [vlV v] []=some (.ret (.int .i64 (ckV v)),bx):=by
 obtain ⟨k,n,s⟩:=v
 by_cases k0:k=0
 · subst k0;exact ck_v_0 n s
 by_cases k4:k=4
 · subst k4;exact ck_v_4 n s
 by_cases k1:k=1
 · subst k1;exact ck_v_1 n s
 by_cases k2:k=2
 · subst k2;exact ck_v_2 n s
 by_cases k3:k=3
 · subst k3;exact ck_v_3 n s
 exact ck_v_o k n s ⟨k0,k4,k1,k2,k3⟩
theorem op_value_Check (v:Vl) (bx):callOp CC (callL CC) 53 [vlV v] bx=some (.ret (.int .i64 (ckV v)),bx):=by
 obtain ⟨b,h⟩:=call_value_Check v
 exact callOp_of rfl rfl h rfl
theorem ok_names_letter:fnOK CC Try.f27 (Try.f27.body.getD .skip)=true:=by kernel_rfl
theorem fat_names_letter:CC.P.funcs[27]?=some Try.f27:=by kernel_rfl
theorem ok_names_Valid:fnOK CC Try.f10 (Try.f10.body.getD .skip)=true:=by kernel_rfl
theorem fat_names_Valid:CC.P.funcs[10]?=some Try.f10:=by kernel_rfl
theorem get_at (s:List UInt8) (i:Nat) (c:UInt8) (h:s[i]?=some c):(ByteArray.mk s.toArray).get! i=c:=by
 show s.toArray[i]! = c
 rw [getElem!_def,List.getElem?_toArray,h]
theorem dec_lo (s:List UInt8) (i:Nat) (c:UInt8) (h:s[i]?=some c) (hc:c.toNat < 128):Utf8.decode ⟨s.toArray⟩ i=(c.toNat,1):=by
 unfold Utf8.decode
 simp only [Nat.add_zero,get_at s i c h]
 rw [if_pos hc]
theorem dec_hi (s:List UInt8) (i:Nat) (c:UInt8) (h:s[i]?=some c) (hc:¬ c.toNat < 128):128<=(Utf8.decode ⟨s.toArray⟩ i).1:=by
 unfold Utf8.decode
 simp only [Nat.add_zero,get_at s i c h]
 rw [if_neg hc]
 unfold Utf8.runeError
 repeat' split
 all_goals first | (simp only;omega) | (rename_i hh;simp at hh;simp only;omega) | decide
def okC (i n:Nat):Bool:=decide ((97<=n∧n<=122)∨(i≠0∧(n=95∨n=45∨(48<=n∧n<=57))))
def vAll:Nat->List UInt8->Bool
 | _,[]=>true
 | i,c :: r=>okC i c.toNat && vAll (i+1) r
def valB (s:List UInt8):Bool:=decide (1<=s.length∧s.length<=24) && vAll 0 s
def PVd (v:Bool) (r:Option (Ex×St)):Prop:=∃ e' bx',(v=true∧r=some (.exit 0,⟨e',bx'⟩))∨(v=false∧r=some (.ret,⟨e',bx'⟩)∧getT e' 2=.bool false)
theorem call_names_letter (r:Int):callL CC 27 [.int .i32 r] []=some (.ret (.bool (decide (97<=r∧r<=122))),[]):=by
 rw [callL_enter (fn:=Try.f27) (c:=Try.f27.body.getD .skip) rfl rfl fat_names_letter rfl ok_names_letter (Nat.le_of_ble_eq_true rfl)]
 by_cases c1:r ≥ 97
 · by_cases c2:r<=122
   · rw [decide_eq_true (show 97<=r∧r<=122 from ⟨c1,c2⟩)]
     obtain ⟨ev,eo,so,co,⟨hev,hco⟩,R⟩:=RULES CC;rw [<- hev]
     simp only [fpart,part',Try.f27,Option.getD]
     simp only [S8,R,seval,c1,c2]
   · rw [decide_eq_false (show ¬ (97<=r∧r<=122) from fun h=>c2 h.2)]
     obtain ⟨ev,eo,so,co,⟨hev,hco⟩,R⟩:=RULES CC;rw [<- hev]
     simp only [fpart,part',Try.f27,Option.getD]
     simp only [S8,R,seval,c1,c2]
 · rw [decide_eq_false (show ¬ (97<=r∧r<=122) from fun h=>c1 h.1)]
   obtain ⟨ev,eo,so,co,⟨hev,hco⟩,R⟩:=RULES CC;rw [<- hev]
   simp only [fpart,part',Try.f27,Option.getD]
   simp only [S8,R,seval,c1]
theorem op_names_letter (r:Int) (bx):callOp CC (callL CC) 27 [.int .i32 r] bx=some (.ret (.bool (decide (97<=r∧r<=122))),bx):=callOp_of rfl (by simp only [SA,Bool.and_true]) (call_names_letter r) rfl
theorem loop_names_Valid (L:Code) (hL:L=fpart Try.f10 [1,1,0,1,0]) (s:List UInt8) (hs:s.length<=30000):∀ (k i:Nat) (e:List PV),i+k=s.length->getT e 0=.str s->getT e 14=.bp 0 0 ->
 PVd (vAll i (s.drop i)) (evL CC L ⟨e,[.iter s i]⟩):=by
 intro k
 induction k with
 | zero=>
  intro i e hk h0 h14
  rw [evL_at (fpart Try.f10 [1,1,0,1,0,0]) hL]
  have hlt:¬ (i < s.length):=by omega
  rw [List.drop_eq_nil_of_le (by omega)]
  unfold vAll
  obtain ⟨ev,eo,so,co,⟨hev,hco⟩,R⟩:=RULES CC;rw [<- hev]
  simp only [fpart,part',Try.f10,Option.getD]
  simp only [S8,R,seval,nextR,extP,List.getElem?_cons_zero,List.getElem?_cons_succ,h0,h14,hlt]
  exact ⟨_,_,.inl ⟨rfl,rfl⟩⟩
 | succ k ih=>
  intro i e hk h0 h14
  rw [evL_at (fpart Try.f10 [1,1,0,1,0,0]) hL]
  have hlen:=len_str s
  have hlt:i < s.length:=by omega
  have hx:s[i]?=some (s[i]'(by omega)):=by simp
  have hdr:s.drop i=(s[i]'(by omega)) :: s.drop (i+1):=List.drop_eq_getElem_cons (by omega)
  generalize s[i]'(by omega)=c at *
  have hlo:=dec_lo s i c hx
  have hhi:=dec_hi s i c hx
  have key:=fun e=>ih (i+1) e (by omega)
  rw [hdr]
  unfold vAll
  generalize vAll (i+1) (s.drop (i+1))=v at *
  generalize c.toNat=n at *
  clear hx hdr
  by_cases h128:n < 128
  · have hdec:=hlo h128
    have hlet:=op_names_letter (n:Int)
    by_cases a1:97<=(n:Int)∧(n:Int)<=122
    · rw [decide_eq_true a1] at hlet
      rw [show okC i n=true from decide_eq_true (by omega),Bool.true_and]
      obtain ⟨ev,eo,so,co,⟨hev,hco⟩,R⟩:=RULES CC;rw [<- hev]
      rw [<- hco] at hlet
      rw [<- hev] at key
      simp only [fpart,part',Try.f10,Option.getD]
      simp only [S8,R,SG,seval,nextR,List.set_cons_zero,h0,h14,hlen,hlt,hlet,hdec]
      exact key _ (by simp only [S7,R,seval,h0]) (by simp only [S7,R,seval,h14])
    · rw [decide_eq_false a1] at hlet
      by_cases i0:i=0
      · have z:((i:Int) == 0)=true:=by rw [i0];rfl
        rw [show okC i n=false from decide_eq_false (by omega),Bool.false_and]
        obtain ⟨ev,eo,so,co,⟨hev,hco⟩,R⟩:=RULES CC;rw [<- hev]
        rw [<- hco] at hlet
        simp only [fpart,part',Try.f10,Option.getD]
        simp only [S8,R,SG,seval,nextR,List.set_cons_zero,h0,h14,hlen,hlt,hlet,hdec,z]
        exact ⟨_,_,.inr ⟨rfl,rfl,by simp only [S7,R,seval]⟩⟩
      · have z:((i:Int) == 0)=false:=by rw [beq_eq_false_iff_ne];omega
        by_cases e1:n=95
        · have e1p:((n:Int) != 95)=false:=by rw [e1];rfl
          rw [show okC i n=true from decide_eq_true (by omega),Bool.true_and]
          obtain ⟨ev,eo,so,co,⟨hev,hco⟩,R⟩:=RULES CC;rw [<- hev]
          rw [<- hco] at hlet
          rw [<- hev] at key
          simp only [fpart,part',Try.f10,Option.getD]
          simp only [S8,R,SG,seval,nextR,List.set_cons_zero,h0,h14,hlen,hlt,hlet,hdec,z,e1p]
          exact key _ (by simp only [S7,R,seval,h0]) (by simp only [S7,R,seval,h14])
        · have e1p:((n:Int) != 95)=true:=by rw [bne_iff_ne];omega
          by_cases e2:n=45
          · have e2p:((n:Int) != 45)=false:=by rw [e2];rfl
            rw [show okC i n=true from decide_eq_true (by omega),Bool.true_and]
            obtain ⟨ev,eo,so,co,⟨hev,hco⟩,R⟩:=RULES CC;rw [<- hev]
            rw [<- hco] at hlet
            rw [<- hev] at key
            simp only [fpart,part',Try.f10,Option.getD]
            simp only [S8,R,SG,seval,nextR,List.set_cons_zero,h0,h14,hlen,hlt,hlet,hdec,z,e1p,e2p]
            exact key _ (by simp only [S7,R,seval,h0]) (by simp only [S7,R,seval,h14])
          · have e2p:((n:Int) != 45)=true:=by rw [bne_iff_ne];omega
            by_cases e3:(n:Int) < 48
            · skip
              rw [show okC i n=false from decide_eq_false (by omega),Bool.false_and]
              obtain ⟨ev,eo,so,co,⟨hev,hco⟩,R⟩:=RULES CC;rw [<- hev]
              rw [<- hco] at hlet
              simp only [fpart,part',Try.f10,Option.getD]
              simp only [S8,R,SG,seval,nextR,List.set_cons_zero,h0,h14,hlen,hlt,hlet,hdec,z,e1p,e2p,e3]
              exact ⟨_,_,.inr ⟨rfl,rfl,by simp only [S7,R,seval]⟩⟩
            · by_cases e4:(n:Int) > 57
              · skip
                rw [show okC i n=false from decide_eq_false (by omega),Bool.false_and]
                obtain ⟨ev,eo,so,co,⟨hev,hco⟩,R⟩:=RULES CC;rw [<- hev]
                rw [<- hco] at hlet
                simp only [fpart,part',Try.f10,Option.getD]
                simp only [S8,R,SG,seval,nextR,List.set_cons_zero,h0,h14,hlen,hlt,hlet,hdec,z,e1p,e2p,e3,e4]
                exact ⟨_,_,.inr ⟨rfl,rfl,by simp only [S7,R,seval]⟩⟩
              · skip
                rw [show okC i n=true from decide_eq_true (by omega),Bool.true_and]
                obtain ⟨ev,eo,so,co,⟨hev,hco⟩,R⟩:=RULES CC;rw [<- hev]
                rw [<- hco] at hlet
                rw [<- hev] at key
                simp only [fpart,part',Try.f10,Option.getD]
                simp only [S8,R,SG,seval,nextR,List.set_cons_zero,h0,h14,hlen,hlt,hlet,hdec,z,e1p,e2p,e3,e4]
                exact key _ (by simp only [S7,R,seval,h0]) (by simp only [S7,R,seval,h14])
  · have hge:=hhi h128
    rw [show okC i n=false from decide_eq_false (by omega),Bool.false_and]
    generalize hdec:Utf8.decode ⟨s.toArray⟩ i=d at *
    obtain ⟨m,k2⟩:=d
    simp only at hge
    have hlet:=op_names_letter (m:Int)
    rw [decide_eq_false (by omega)] at hlet
    by_cases i0:i=0
    · have z:((i:Int) == 0)=true:=by rw [i0];rfl
      obtain ⟨ev,eo,so,co,⟨hev,hco⟩,R⟩:=RULES CC;rw [<- hev]
      rw [<- hco] at hlet
      simp only [fpart,part',Try.f10,Option.getD]
      simp only [S8,R,SG,seval,nextR,List.set_cons_zero,h0,h14,hlen,hlt,hlet,hdec,z]
      exact ⟨_,_,.inr ⟨rfl,rfl,by simp only [S7,R,seval]⟩⟩
    · have z:((i:Int) == 0)=false:=by rw [beq_eq_false_iff_ne];omega
      have e1p:((m:Int) != 95)=true:=by rw [bne_iff_ne];omega
      have e2p:((m:Int) != 45)=true:=by rw [bne_iff_ne];omega
      have e3:¬ ((m:Int) < 48):=by omega
      have e4:((m:Int) > 57):=by omega
      obtain ⟨ev,eo,so,co,⟨hev,hco⟩,R⟩:=RULES CC;rw [<- hev]
      rw [<- hco] at hlet
      simp only [fpart,part',Try.f10,Option.getD]
      simp only [S8,R,SG,seval,nextR,List.set_cons_zero,h0,h14,hlen,hlt,hlet,hdec,z,e1p,e2p,e3,e4]
      exact ⟨_,_,.inr ⟨rfl,rfl,by simp only [S7,R,seval]⟩⟩
theorem call_names_Valid (s:List UInt8) (hs:s.length<=30000):∃ bx,callL CC 10 [.str s] []=some (.ret (.bool (valB s)),bx):=by
 rw [callL_enter (fn:=Try.f10) (c:=Try.f10.body.getD .skip) rfl rfl fat_names_Valid rfl ok_names_Valid (Nat.le_of_ble_eq_true rfl)]
 have hlen:=len_str s
 unfold valB
 by_cases c1:(s.length:Int) < 1
 · rw [decide_eq_false (show ¬ (1<=s.length∧s.length<=24) by omega),Bool.false_and]
   obtain ⟨ev,eo,so,co,⟨hev,hco⟩,R⟩:=RULES CC;rw [<- hev]
   simp only [fpart,part',Try.f10,Option.getD]
   simp only [S8,R,seval,hlen,c1]
   exact ⟨_,rfl⟩
 · by_cases c2:(s.length:Int) > 24
   · rw [decide_eq_false (show ¬ (1<=s.length∧s.length<=24) by omega),Bool.false_and]
     obtain ⟨ev,eo,so,co,⟨hev,hco⟩,R⟩:=RULES CC;rw [<- hev]
     simp only [fpart,part',Try.f10,Option.getD]
     simp only [S8,R,seval,hlen,c1,c2]
     exact ⟨_,rfl⟩
   · rw [decide_eq_true (show 1<=s.length∧s.length<=24 by omega),Bool.true_and]
     have hloop:=fun e=>loop_names_Valid _ rfl s hs s.length 0 e (by omega)
     rw [List.drop_zero] at hloop
     have hus:CC.P.underlying 9=some .string:=by kernel_rfl
     generalize vAll 0 s=v at *
     obtain ⟨ev,eo,so,co,⟨hev,hco⟩,R⟩:=RULES CC;rw [<- hev]
     rw [<- hev] at hloop
     simp only [fpart,part',Try.f10,Option.getD] at hloop ⊢
     simp only [S8,R,seval,hlen,c1,c2,rangeR,hus,List.nil_append]
     generalize hE:ev _ _=r
     have hP:PVd v r:=by
      rw [<- hE]
      exact hloop _ (by simp only [S7,R,seval]) (by simp only [S7,R,seval])
     obtain ⟨e',bx',⟨hv,he⟩ | ⟨hv,he,g2⟩⟩:=hP
     · subst he
       subst hv
       simp only [S8,R,seval]
       exact ⟨_,rfl⟩
     · subst he
       subst hv
       simp only [S8,R,seval,g2]
       exact ⟨_,rfl⟩
theorem op_names_Valid (s:List UInt8) (hs:s.length<=30000) (bx):callOp CC (callL CC) 10 [.str s] bx=some (.ret (.bool (valB s)),bx):=by
 obtain ⟨b,h⟩:=call_names_Valid s hs
 exact callOp_of rfl (by simp only [SA,Bool.and_true]) h rfl
abbrev Ky:=Int×List UInt8×List UInt8
inductive Tr where
 | mk (k n m:Int) (nm:List UInt8) (v:Vl) (key:Ky) (kids:List Tr)
mutual
def trV:Tr->PV
 | .mk k n m nm v key kids=>.agg [.int .i64 k,.int .i64 n,.int .i64 m,.str nm,.int .i64 v.1,.int .i64 v.2.1,.str v.2.2,.int .i64 key.1,.str key.2.1,.str key.2.2,.sl (trVs kids)]
def trVs:List Tr->List PV
 | []=>[]
 | t :: r=>trV t :: trVs r
end
theorem trVs_map:∀ l:List Tr,trVs l=l.map trV
 | []=>by unfold trVs;rfl
 | t :: r=>by unfold trVs;rw [trVs_map r];rfl
theorem trVs_length (l:List Tr):(trVs l).length=l.length:=by rw [trVs_map,List.length_map]
theorem trVs_get {l:List Tr} {i:Nat} {t:Tr} (h:l[i]?=some t):(trVs l)[i]?=some (trV t):=by rw [trVs_map,List.getElem?_map,h];rfl
theorem TRf:zeroCells CC 34=some [.int .i64 0,.int .i64 0,.int .i64 0,.str [],.int .i64 0,.int .i64 0,.str [],.int .i64 0,.str [],.str [],.nils]:=by kernel_rfl
end Go.HH
