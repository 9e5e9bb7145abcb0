/-
  What the law needs, packed: C0 N0 ST TA TB TC.
-/
import Derived.Test.YtmiilonaehgplaaProg
import Derived.KernelRfl
import Derived.Test.YtmiilonaehgplaaM30
namespace Go.HH
open Go Go.Proofs
set_option maxRecDepth 100000
def isBo:PV->Bool
 | .bool _=>true
 | _=>false
def isSt:PV->Bool
 | .str _=>true
 | _=>false
def cbP:List PV->Option PV
 | [.sl xs]=>if xs.all isBo=true∧xs.length<=1000000000000 then some (.sl xs) else none
 | _=>none
def csP:List PV->Option PV
 | [.sl xs]=>if xs.all isSt=true∧xs.length<=1000000000000 then some (.sl xs) else none
 | _=>none
def cuP:List PV->List PBox->Option (Bool×PV×List PBox)
 | [.sl xs],bx=>if xs.isEmpty then some (false,.sl [],bx) else
  if (xs.all fun x=>x.cells.length == 6)=true∧xs.length<=1000000000000 then some (false,.rs bx.length xs.length,bx++[.cells 41 ((flat xs).map PV.ro)]) else none
 | _,_=>none
def globCC:Nat->Option (List PV):=fun _=>none
def primCC (f:FuncId):Option (List PV->Option PV):=
 if f=39 then some cbP else
 if f=57 then some csP else
 none
def hprimCC (f:FuncId):Option (List PV->List PBox->Option (Bool×PV×List PBox)):=
 if f=38 then some cuP else
 none
def heapF (f:FuncId):Bool:=
 if f=25 then true else
 if f=32 then true else
 if f=38 then true else
 false
def thawF (f:FuncId):Bool:=
 if f=5 then true else
 if f=10 then true else
 if f=12 then true else
 if f=11 then true else
 if f=13 then true else
 if f=21 then true else
 false
def rowsF (t:TypeId):Bool:=t == 4
noncomputable def catCC (_:FuncId):Option Cat:=none
noncomputable def CC:Cfg:={ P:=Try.prog,glob:=globCC,prim:=primCC,heap:=heapF,hprim:=hprimCC,cat:=catCC,rows:=rowsF,thaw:=thawF }
theorem heapCC (f:FuncId):CC.heap f=(f == 25 || f == 32 || f == 38):=by
 show heapF f=_
 unfold heapF
 by_cases h25:f=25
 · subst h25;rfl
 by_cases h32:f=32
 · subst h32;rfl
 by_cases h38:f=38
 · subst h38;rfl
 simp [h25,h32,h38]
theorem TG_0:ptrT CC 1=false∧CC.P.underlying 2=some (.int .i64)∧tAgg CC 2=false∧ptrT CC 2=false∧notSlice CC 2=true∧tSize CC 2=some 1∧(CC.P.info? 2).isSome=true∧CC.P.underlying 3=some (.int .i64)∧tAgg CC 3=false∧ptrT CC 3=false∧notSlice CC 3=true∧tSize CC 3=some 1∧(CC.P.info? 3).isSome=true∧CC.P.underlying 4=some .bool∧tAgg CC 4=false∧ptrT CC 4=false∧notSlice CC 4=true∧tSize CC 4=some 1∧(CC.P.info? 4).isSome=true∧CC.P.underlying 5=some (.int .u8)∧tAgg CC 5=false∧ptrT CC 5=false∧notSlice CC 5=true∧tSize CC 5=some 1∧(CC.P.info? 5).isSome=true∧CC.P.underlying 9=some .string∧tAgg CC 9=false∧ptrT CC 9=false∧notSlice CC 9=true∧tSize CC 9=some 1∧(CC.P.info? 9).isSome=true∧CC.P.underlying 12=some (.int .u64)∧tAgg CC 12=false∧ptrT CC 12=false∧notSlice CC 12=true∧tSize CC 12=some 1∧(CC.P.info? 12).isSome=true∧tAgg CC 20=false∧ptrT CC 20=false∧notSlice CC 20=true:=by
 repeat' apply And.intro
 all_goals (intros;kernel_rfl)
theorem TG_1:tSize CC 20=some 1∧CC.P.underlying 21=some (.int .i32)∧tAgg CC 21=false∧ptrT CC 21=false∧notSlice CC 21=true∧tSize CC 21=some 1∧(CC.P.info? 21).isSome=true∧CC.P.underlying 22=some (.slice 76)∧nilV CC 22=.osl 76 []∧tAgg CC 22=false∧ptrT CC 22=false∧notSlice CC 22=false∧tSize CC 22=some 1∧(CC.P.info? 22).isSome=true∧CC.P.underlying 23=some (.slice 48)∧nilV CC 23=.osl 48 []∧tAgg CC 23=false∧ptrT CC 23=false∧notSlice CC 23=false∧tSize CC 23=some 1∧(CC.P.info? 23).isSome=true∧tAgg CC 25=true∧ptrT CC 25=false∧notSlice CC 25=true∧tSize CC 25=some 2∧(CC.P.info? 25).isSome=true∧(∀ cs,fieldP CC 25 0 (.ip cs)=some (.ip (cs.drop 0)))∧(∀ i o,fieldP CC 25 0 (.bp i o)=some (.bp i (o+0)))∧(∀ cs,fieldV CC 25 0 (.agg cs)=partP CC 22 cs 0)∧(∀ cs,fieldP CC 25 1 (.ip cs)=some (.ip (cs.drop 1)))∧(∀ i o,fieldP CC 25 1 (.bp i o)=some (.bp i (o+1)))∧(∀ cs,fieldV CC 25 1 (.agg cs)=partP CC 23 cs 1)∧CC.P.underlying 26=some (.slice 3)∧nilV CC 26=.osl 3 []∧tAgg CC 26=false∧ptrT CC 26=false∧notSlice CC 26=false∧tSize CC 26=some 1∧(CC.P.info? 26).isSome=true∧tAgg CC 28=true:=by
 repeat' apply And.intro
 all_goals (intros;kernel_rfl)
theorem TG_2:ptrT CC 28=false∧notSlice CC 28=true∧tSize CC 28=some 3∧(CC.P.info? 28).isSome=true∧(∀ cs,fieldP CC 28 0 (.ip cs)=some (.ip (cs.drop 0)))∧(∀ i o,fieldP CC 28 0 (.bp i o)=some (.bp i (o+0)))∧(∀ cs,fieldV CC 28 0 (.agg cs)=partP CC 3 cs 0)∧(∀ cs,fieldP CC 28 1 (.ip cs)=some (.ip (cs.drop 1)))∧(∀ i o,fieldP CC 28 1 (.bp i o)=some (.bp i (o+1)))∧(∀ cs,fieldV CC 28 1 (.agg cs)=partP CC 3 cs 1)∧(∀ cs,fieldP CC 28 2 (.ip cs)=some (.ip (cs.drop 2)))∧(∀ i o,fieldP CC 28 2 (.bp i o)=some (.bp i (o+2)))∧(∀ cs,fieldV CC 28 2 (.agg cs)=partP CC 26 cs 2)∧CC.P.underlying 29=some (.slice 36)∧nilV CC 29=.osl 36 []∧tAgg CC 29=false∧ptrT CC 29=false∧notSlice CC 29=false∧tSize CC 29=some 1∧(CC.P.info? 29).isSome=true∧ptrT CC 30=false∧CC.P.underlying 31=some (.slice 41)∧nilV CC 31=.osl 41 []∧tAgg CC 31=false∧ptrT CC 31=false∧notSlice CC 31=false∧tSize CC 31=some 1∧(CC.P.info? 31).isSome=true∧CC.P.underlying 32=some (.int .i64)∧tAgg CC 32=false∧ptrT CC 32=false∧notSlice CC 32=true∧tSize CC 32=some 1∧(CC.P.info? 32).isSome=true∧ptrT CC 34=false∧CC.P.underlying 35=some (.int .u16)∧tAgg CC 35=false∧ptrT CC 35=false∧notSlice CC 35=true∧tSize CC 35=some 1:=by
 repeat' apply And.intro
 all_goals (intros;kernel_rfl)
theorem TG_3:(CC.P.info? 35).isSome=true∧CC.P.underlying 36=some (.array 3 35)∧tAgg CC 36=true∧ptrT CC 36=false∧notSlice CC 36=true∧tSize CC 36=some 3∧(CC.P.info? 36).isSome=true∧ptrT CC 37=false∧ptrT CC 38=false∧CC.P.underlying 39=some (.slice 4)∧nilV CC 39=.osl 4 []∧tAgg CC 39=false∧ptrT CC 39=false∧notSlice CC 39=false∧tSize CC 39=some 1∧(CC.P.info? 39).isSome=true∧tAgg CC 41=true∧ptrT CC 41=false∧notSlice CC 41=true∧tSize CC 41=some 6∧(CC.P.info? 41).isSome=true∧(∀ cs,fieldP CC 41 0 (.ip cs)=some (.ip (cs.drop 0)))∧(∀ i o,fieldP CC 41 0 (.bp i o)=some (.bp i (o+0)))∧(∀ cs,fieldV CC 41 0 (.agg cs)=partP CC 3 cs 0)∧(∀ cs,fieldP CC 41 1 (.ip cs)=some (.ip (cs.drop 1)))∧(∀ i o,fieldP CC 41 1 (.bp i o)=some (.bp i (o+1)))∧(∀ cs,fieldV CC 41 1 (.agg cs)=partP CC 3 cs 1)∧(∀ cs,fieldP CC 41 2 (.ip cs)=some (.ip (cs.drop 2)))∧(∀ i o,fieldP CC 41 2 (.bp i o)=some (.bp i (o+2)))∧(∀ cs,fieldV CC 41 2 (.agg cs)=partP CC 3 cs 2)∧(∀ cs,fieldP CC 41 3 (.ip cs)=some (.ip (cs.drop 3)))∧(∀ i o,fieldP CC 41 3 (.bp i o)=some (.bp i (o+3)))∧(∀ cs,fieldV CC 41 3 (.agg cs)=partP CC 3 cs 3)∧(∀ cs,fieldP CC 41 4 (.ip cs)=some (.ip (cs.drop 4)))∧(∀ i o,fieldP CC 41 4 (.bp i o)=some (.bp i (o+4)))∧(∀ cs,fieldV CC 41 4 (.agg cs)=partP CC 3 cs 4)∧(∀ cs,fieldP CC 41 5 (.ip cs)=some (.ip (cs.drop 5)))∧(∀ i o,fieldP CC 41 5 (.bp i o)=some (.bp i (o+5)))∧(∀ cs,fieldV CC 41 5 (.agg cs)=partP CC 39 cs 5)∧ptrT CC 42=false:=by
 repeat' apply And.intro
 all_goals (intros;kernel_rfl)
theorem TG_4:ptrT CC 43=false∧ptrT CC 44=false∧CC.P.underlying 45=some (.int .u64)∧tAgg CC 45=false∧ptrT CC 45=false∧notSlice CC 45=true∧tSize CC 45=some 1∧(CC.P.info? 45).isSome=true∧CC.P.underlying 46=some (.slice 9)∧nilV CC 46=.osl 9 []∧tAgg CC 46=false∧ptrT CC 46=false∧notSlice CC 46=false∧tSize CC 46=some 1∧(CC.P.info? 46).isSome=true∧tAgg CC 48=true∧ptrT CC 48=false∧notSlice CC 48=true∧tSize CC 48=some 7∧(CC.P.info? 48).isSome=true∧(∀ cs,fieldP CC 48 0 (.ip cs)=some (.ip (cs.drop 0)))∧(∀ i o,fieldP CC 48 0 (.bp i o)=some (.bp i (o+0)))∧(∀ cs,fieldV CC 48 0 (.agg cs)=partP CC 3 cs 0)∧(∀ cs,fieldP CC 48 1 (.ip cs)=some (.ip (cs.drop 1)))∧(∀ i o,fieldP CC 48 1 (.bp i o)=some (.bp i (o+1)))∧(∀ cs,fieldV CC 48 1 (.agg cs)=partP CC 45 cs 1)∧(∀ cs,fieldP CC 48 2 (.ip cs)=some (.ip (cs.drop 2)))∧(∀ i o,fieldP CC 48 2 (.bp i o)=some (.bp i (o+2)))∧(∀ cs,fieldV CC 48 2 (.agg cs)=partP CC 3 cs 2)∧(∀ cs,fieldP CC 48 3 (.ip cs)=some (.ip (cs.drop 3)))∧(∀ i o,fieldP CC 48 3 (.bp i o)=some (.bp i (o+3)))∧(∀ cs,fieldV CC 48 3 (.agg cs)=partP CC 4 cs 3)∧(∀ cs,fieldP CC 48 4 (.ip cs)=some (.ip (cs.drop 4)))∧(∀ i o,fieldP CC 48 4 (.bp i o)=some (.bp i (o+4)))∧(∀ cs,fieldV CC 48 4 (.agg cs)=partP CC 3 cs 4)∧(∀ cs,fieldP CC 48 5 (.ip cs)=some (.ip (cs.drop 5)))∧(∀ i o,fieldP CC 48 5 (.bp i o)=some (.bp i (o+5)))∧(∀ cs,fieldV CC 48 5 (.agg cs)=partP CC 9 cs 5)∧(∀ cs,fieldP CC 48 6 (.ip cs)=some (.ip (cs.drop 6)))∧(∀ i o,fieldP CC 48 6 (.bp i o)=some (.bp i (o+6))):=by
 repeat' apply And.intro
 all_goals (intros;kernel_rfl)
theorem TG_5:(∀ cs,fieldV CC 48 6 (.agg cs)=partP CC 46 cs 6)∧ptrT CC 49=false∧ptrT CC 50=false∧ptrT CC 51=false∧ptrT CC 52=false∧ptrT CC 53=false∧CC.P.underlying 54=some (.slice 61)∧nilV CC 54=.osl 61 []∧tAgg CC 54=false∧ptrT CC 54=false∧notSlice CC 54=false∧tSize CC 54=some 1∧(CC.P.info? 54).isSome=true∧ptrT CC 55=false∧ptrT CC 56=false∧ptrT CC 57=false∧ptrT CC 58=false∧ptrT CC 59=false∧ptrT CC 60=false∧CC.P.underlying 61=some (.array 2 3)∧tAgg CC 61=true∧ptrT CC 61=false∧notSlice CC 61=true∧tSize CC 61=some 2∧(CC.P.info? 61).isSome=true∧ptrT CC 62=false∧tAgg CC 64=true∧ptrT CC 64=false∧notSlice CC 64=true∧tSize CC 64=some 3∧(CC.P.info? 64).isSome=true∧(∀ cs,fieldP CC 64 0 (.ip cs)=some (.ip (cs.drop 0)))∧(∀ i o,fieldP CC 64 0 (.bp i o)=some (.bp i (o+0)))∧(∀ cs,fieldV CC 64 0 (.agg cs)=partP CC 3 cs 0)∧(∀ cs,fieldP CC 64 1 (.ip cs)=some (.ip (cs.drop 1)))∧(∀ i o,fieldP CC 64 1 (.bp i o)=some (.bp i (o+1)))∧(∀ cs,fieldV CC 64 1 (.agg cs)=partP CC 9 cs 1)∧(∀ cs,fieldP CC 64 2 (.ip cs)=some (.ip (cs.drop 2)))∧(∀ i o,fieldP CC 64 2 (.bp i o)=some (.bp i (o+2)))∧(∀ cs,fieldV CC 64 2 (.agg cs)=partP CC 3 cs 2):=by
 repeat' apply And.intro
 all_goals (intros;kernel_rfl)
theorem TG_6:CC.P.underlying 65=some (.slice 64)∧nilV CC 65=.osl 64 []∧tAgg CC 65=false∧ptrT CC 65=false∧notSlice CC 65=false∧tSize CC 65=some 1∧(CC.P.info? 65).isSome=true∧tAgg CC 67=true∧ptrT CC 67=false∧notSlice CC 67=true∧tSize CC 67=some 7∧(CC.P.info? 67).isSome=true∧(∀ cs,fieldP CC 67 0 (.ip cs)=some (.ip (cs.drop 0)))∧(∀ i o,fieldP CC 67 0 (.bp i o)=some (.bp i (o+0)))∧(∀ cs,fieldV CC 67 0 (.agg cs)=partP CC 9 cs 0)∧(∀ cs,fieldP CC 67 1 (.ip cs)=some (.ip (cs.drop 1)))∧(∀ i o,fieldP CC 67 1 (.bp i o)=some (.bp i (o+1)))∧(∀ cs,fieldV CC 67 1 (.agg cs)=partP CC 3 cs 1)∧(∀ cs,fieldP CC 67 2 (.ip cs)=some (.ip (cs.drop 2)))∧(∀ i o,fieldP CC 67 2 (.bp i o)=some (.bp i (o+2)))∧(∀ cs,fieldV CC 67 2 (.agg cs)=partP CC 3 cs 2)∧(∀ cs,fieldP CC 67 3 (.ip cs)=some (.ip (cs.drop 3)))∧(∀ i o,fieldP CC 67 3 (.bp i o)=some (.bp i (o+3)))∧(∀ cs,fieldV CC 67 3 (.agg cs)=partP CC 3 cs 3)∧(∀ cs,fieldP CC 67 4 (.ip cs)=some (.ip (cs.drop 4)))∧(∀ i o,fieldP CC 67 4 (.bp i o)=some (.bp i (o+4)))∧(∀ cs,fieldV CC 67 4 (.agg cs)=partP CC 46 cs 4)∧(∀ cs,fieldP CC 67 5 (.ip cs)=some (.ip (cs.drop 5)))∧(∀ i o,fieldP CC 67 5 (.bp i o)=some (.bp i (o+5)))∧(∀ cs,fieldV CC 67 5 (.agg cs)=partP CC 4 cs 5)∧(∀ cs,fieldP CC 67 6 (.ip cs)=some (.ip (cs.drop 6)))∧(∀ i o,fieldP CC 67 6 (.bp i o)=some (.bp i (o+6)))∧(∀ cs,fieldV CC 67 6 (.agg cs)=partP CC 4 cs 6)∧tAgg CC 69=true∧ptrT CC 69=false∧notSlice CC 69=true∧tSize CC 69=some 9∧(CC.P.info? 69).isSome=true∧(∀ cs,fieldP CC 69 0 (.ip cs)=some (.ip (cs.drop 0)))∧(∀ i o,fieldP CC 69 0 (.bp i o)=some (.bp i (o+0))):=by
 repeat' apply And.intro
 all_goals (intros;kernel_rfl)
theorem TG_7:(∀ cs,fieldV CC 69 0 (.agg cs)=partP CC 9 cs 0)∧(∀ cs,fieldP CC 69 1 (.ip cs)=some (.ip (cs.drop 1)))∧(∀ i o,fieldP CC 69 1 (.bp i o)=some (.bp i (o+1)))∧(∀ cs,fieldV CC 69 1 (.agg cs)=partP CC 67 cs 1)∧(∀ cs,fieldP CC 69 2 (.ip cs)=some (.ip (cs.drop 8)))∧(∀ i o,fieldP CC 69 2 (.bp i o)=some (.bp i (o+8)))∧(∀ cs,fieldV CC 69 2 (.agg cs)=partP CC 65 cs 8)∧ptrT CC 70=false∧ptrT CC 71=false∧CC.P.underlying 72=some (.slice 67)∧nilV CC 72=.osl 67 []∧tAgg CC 72=false∧ptrT CC 72=false∧notSlice CC 72=false∧tSize CC 72=some 1∧(CC.P.info? 72).isSome=true∧ptrT CC 73=false∧CC.P.underlying 74=some (.slice 69)∧nilV CC 74=.osl 69 []∧tAgg CC 74=false∧ptrT CC 74=false∧notSlice CC 74=false∧tSize CC 74=some 1∧(CC.P.info? 74).isSome=true∧tAgg CC 76=true∧ptrT CC 76=false∧notSlice CC 76=true∧tSize CC 76=some 4∧(CC.P.info? 76).isSome=true∧(∀ cs,fieldP CC 76 0 (.ip cs)=some (.ip (cs.drop 0)))∧(∀ i o,fieldP CC 76 0 (.bp i o)=some (.bp i (o+0)))∧(∀ cs,fieldV CC 76 0 (.agg cs)=partP CC 9 cs 0)∧(∀ cs,fieldP CC 76 1 (.ip cs)=some (.ip (cs.drop 1)))∧(∀ i o,fieldP CC 76 1 (.bp i o)=some (.bp i (o+1)))∧(∀ cs,fieldV CC 76 1 (.agg cs)=partP CC 72 cs 1)∧(∀ cs,fieldP CC 76 2 (.ip cs)=some (.ip (cs.drop 2)))∧(∀ i o,fieldP CC 76 2 (.bp i o)=some (.bp i (o+2)))∧(∀ cs,fieldV CC 76 2 (.agg cs)=partP CC 74 cs 2)∧(∀ cs,fieldP CC 76 3 (.ip cs)=some (.ip (cs.drop 3)))∧(∀ i o,fieldP CC 76 3 (.bp i o)=some (.bp i (o+3))):=by
 repeat' apply And.intro
 all_goals (intros;kernel_rfl)
theorem TG_8:(∀ cs,fieldV CC 76 3 (.agg cs)=partP CC 46 cs 3)∧ptrT CC 77=false∧ptrT CC 78=false∧ptrT CC 79=false∧ptrT CC 80=false∧CC.P.underlying 81=some (.pointer 41)∧tAgg CC 81=false∧ptrT CC 81=true∧notSlice CC 81=true∧tSize CC 81=some 1∧(CC.P.info? 81).isSome=true∧ptrT CC 82=false∧ptrT CC 83=false∧ptrT CC 84=false∧ptrT CC 85=false∧ptrT CC 86=false∧ptrT CC 87=false∧ptrT CC 88=false∧ptrT CC 89=false∧ptrT CC 90=false∧ptrT CC 91=false∧ptrT CC 92=false∧ptrT CC 93=false∧ptrT CC 94=false∧ptrT CC 95=false∧ptrT CC 97=false∧ptrT CC 98=false∧ptrT CC 99=false∧ptrT CC 100=false∧ptrT CC 101=false∧ptrT CC 102=false∧ptrT CC 103=false∧ptrT CC 104=false∧ptrT CC 105=false∧ptrT CC 107=false∧ptrT CC 108=false∧ptrT CC 109=false∧ptrT CC 110=false∧tAgg CC 112=true∧ptrT CC 112=false:=by
 repeat' apply And.intro
 all_goals (intros;kernel_rfl)
theorem TG_9:notSlice CC 112=true∧tSize CC 112=some 3∧(CC.P.info? 112).isSome=true∧(∀ cs,fieldP CC 112 0 (.ip cs)=some (.ip (cs.drop 0)))∧(∀ i o,fieldP CC 112 0 (.bp i o)=some (.bp i (o+0)))∧(∀ cs,fieldV CC 112 0 (.agg cs)=partP CC 3 cs 0)∧(∀ cs,fieldP CC 112 1 (.ip cs)=some (.ip (cs.drop 1)))∧(∀ i o,fieldP CC 112 1 (.bp i o)=some (.bp i (o+1)))∧(∀ cs,fieldV CC 112 1 (.agg cs)=partP CC 3 cs 1)∧(∀ cs,fieldP CC 112 2 (.ip cs)=some (.ip (cs.drop 2)))∧(∀ i o,fieldP CC 112 2 (.bp i o)=some (.bp i (o+2)))∧(∀ cs,fieldV CC 112 2 (.agg cs)=partP CC 9 cs 2)∧ptrT CC 113=false∧ptrT CC 114=false∧ptrT CC 115=false∧ptrT CC 116=false∧ptrT CC 122=false∧CC.P.underlying 123=some (.int .u32)∧tAgg CC 123=false∧ptrT CC 123=false∧notSlice CC 123=true∧tSize CC 123=some 1∧(CC.P.info? 123).isSome=true∧ptrT CC 126=false∧CC.P.underlying 127=some (.pointer 5)∧tAgg CC 127=false∧ptrT CC 127=true∧notSlice CC 127=true∧tSize CC 127=some 1∧(CC.P.info? 127).isSome=true:=by
 repeat' apply And.intro
 all_goals (intros;kernel_rfl)
theorem TG:(type_of% TG_0)∧(type_of% TG_1)∧(type_of% TG_2)∧(type_of% TG_3)∧(type_of% TG_4)∧(type_of% TG_5)∧(type_of% TG_6)∧(type_of% TG_7)∧(type_of% TG_8)∧(type_of% TG_9)∧(∀ f,CC.heap f=(f == 25 || f == 32 || f == 38)):=
 ⟨TG_0,TG_1,TG_2,TG_3,TG_4,TG_5,TG_6,TG_7,TG_8,TG_9,heapCC⟩
theorem RWB:∀ t,CC.rows t=(t == 4):=fun _=>rfl
theorem MPc:CC.P.underlying 84=some (.map 9 76):=by kernel_rfl
theorem MPn:CC.P.underlying 86=some (.map 45 4):=by kernel_rfl
theorem call_CloneB (xs:List PV) (h:xs.all isBo=true∧xs.length<=1000000000000) (hp:pureL xs=true) (bx):callL CC 39 [.sl xs] bx=some (.ret (.sl xs),bx):=by
 have hp':CC.prim 39=some cbP:=rfl
 have hq:CC.hprim 39=none:=rfl
 unfold callL bodyP bodyQ
 simp only [show CC.cat 39=none from rfl,show CC.thaw 39=false from rfl,hq,hp',pureL,PV.pure,hp,Bool.and_self,Bool.false_eq_true,if_false,if_true,cbP,if_pos h,Option.map_some]
theorem pureL_bo:∀ xs:List PV,xs.all isBo=true->pureL xs=true
 | [],_=>rfl
 | .bool b :: r,h=>by
  simp only [List.all_cons,isBo,Bool.true_and] at h
  simp only [pureL,PV.pure,pureL_bo r h,Bool.and_self]
theorem op_CloneB (xs:List PV) (h:xs.all isBo=true∧xs.length<=1000000000000) (bx):callOp CC (callL CC) 39 [.sl xs] bx=some (.ret (.sl xs),bx):=
 callOp_of rfl (by simp only [SA,pureL_bo xs h.1,Bool.and_true]) (call_CloneB xs h (pureL_bo xs h.1) []) (by simp only [SA,pureL_bo xs h.1])
theorem pureL_st:∀ xs:List PV,xs.all isSt=true->pureL xs=true
 | [],_=>rfl
 | .str b :: r,h=>by
  simp only [List.all_cons,isSt,Bool.true_and] at h
  simp only [pureL,PV.pure,pureL_st r h,Bool.and_self]
theorem call_CloneS (xs:List PV) (h:xs.all isSt=true∧xs.length<=1000000000000) (hp:pureL xs=true) (bx):callL CC 57 [.sl xs] bx=some (.ret (.sl xs),bx):=by
 have hp':CC.prim 57=some csP:=rfl
 have hq:CC.hprim 57=none:=rfl
 unfold callL bodyP bodyQ
 simp only [show CC.cat 57=none from rfl,show CC.thaw 57=false from rfl,hq,hp',pureL,PV.pure,hp,Bool.and_self,Bool.false_eq_true,if_false,if_true,csP,if_pos h,Option.map_some]
theorem op_CloneS (xs:List PV) (h:xs.all isSt=true∧xs.length<=1000000000000) (bx):callOp CC (callL CC) 57 [.sl xs] bx=some (.ret (.sl xs),bx):=
 callOp_of rfl (by simp only [SA,pureL_st xs h.1,Bool.and_true]) (call_CloneS xs h (pureL_st xs h.1) []) (by simp only [SA,pureL_st xs h.1])
theorem call_CloneU (xs:List PV) (bx):callL CC 38 [.sl xs] bx=(cuP [.sl xs] bx).map fun (p,v,b)=>(if p then .pan v else .ret v,b):=by
 have hq:CC.hprim 38=some cuP:=rfl
 unfold callL bodyP bodyQ
 simp only [show CC.cat 38=none from rfl,show CC.thaw 38=false from rfl,hq,Bool.false_eq_true,if_false]
theorem CloneU_ne (xs:List PV) (hne:xs≠[]) (h6:(xs.all fun x=>x.cells.length == 6)=true) (hl:xs.length<=1000000000000) (bx):callOp CC (callL CC) 38 [.sl xs] bx=some (.ret (.rs bx.length xs.length),bx++[.cells 41 ((flat xs).map PV.ro)]):=by
 unfold callOp
 simp only [show CC.heap 38=true from rfl,Bool.true_or,if_true,call_CloneU,cuP]
 rw [if_neg (by cases xs <;> simp_all),if_pos ⟨h6,hl⟩]
 simp [truncB,CR.under,PV.under]
theorem CloneU_nil (bx):callOp CC (callL CC) 38 [.sl []] bx=some (.ret (.sl []),bx):=by
 unfold callOp
 simp only [show CC.heap 38=true from rfl,Bool.true_or,if_true,call_CloneU,cuP,List.isEmpty_nil,Option.map_some,truncB]
 simp
end Go.HH
namespace Go.HH
open Go
end Go.HH
namespace Go.HH
open Go Go.Proofs
set_option maxRecDepth 100000
set_option linter.unusedSimpArgs false
set_option linter.unusedVariables false
theorem len_str (s:List UInt8):lenP CC 9 (.str s)=some (.int .i64 s.length):=by
 unfold lenP
 simp only [TG]
theorem strP_neq (a b:List UInt8):strP .neq a b=some (.bool (!(a == b))):=rfl
theorem strP_eql (a b:List UInt8):strP .eql a b=some (.bool (a == b)):=rfl
end Go.HH
namespace Go.HH
open Go Go.Proofs
set_option maxRecDepth 100000
set_option maxHeartbeats 4000000
set_option linter.unusedSimpArgs false
set_option linter.unusedVariables false
abbrev Vl:=Int×Int×List UInt8
def vlV (v:Vl):PV:=.agg [.int .i64 v.1,.int .i64 v.2.1,.str v.2.2]
theorem VLs:∃ f,CC.P.underlying 112=some (.struct f):=⟨(match Try.prog.underlying 112 with | some (.struct f)=>f | _=>#[]),by kernel_rfl⟩
theorem ok_value_inRange:fnOK CC Try.f50 (Try.f50.body.getD .skip)=true:=by kernel_rfl
theorem fat_value_inRange:CC.P.funcs[50]?=some Try.f50:=by kernel_rfl
theorem ok_value_Check:fnOK CC Try.f60 (Try.f60.body.getD .skip)=true:=by kernel_rfl
theorem fat_value_Check:CC.P.funcs[60]?=some Try.f60:=by kernel_rfl
def inR (n:Int):Bool:=decide (-1099511627776<=n∧n<=1099511627776)
theorem call_value_inRange (n:Int):callL CC 50 [.int .i64 n] []=some (.ret (.bool (inR n)),[]):=by
 rw [callL_enter (fn:=Try.f50) (c:=Try.f50.body.getD .skip) rfl rfl fat_value_inRange rfl ok_value_inRange (Nat.le_of_ble_eq_true rfl)]
 unfold inR
 by_cases c1:n ≥ -1099511627776
 · by_cases c2:n<=1099511627776
   · rw [decide_eq_true (show -1099511627776<=n∧n<=1099511627776 from ⟨c1,c2⟩)]
     obtain ⟨ev,eo,so,co,⟨hev,hco⟩,R⟩:=RULES CC;rw [<- hev]
     simp only [fpart,part',Try.f50,Option.getD]
     simp (maxSteps:=5000000) only [SA,SB,SD,R,SF,seval,TG,SE,c1,c2]
   · rw [decide_eq_false (show ¬ (-1099511627776<=n∧n<=1099511627776) from fun h=>c2 h.2)]
     obtain ⟨ev,eo,so,co,⟨hev,hco⟩,R⟩:=RULES CC;rw [<- hev]
     simp only [fpart,part',Try.f50,Option.getD]
     simp (maxSteps:=5000000) only [SA,SB,SD,R,SF,seval,TG,SE,c1,c2]
 · rw [decide_eq_false (show ¬ (-1099511627776<=n∧n<=1099511627776) from fun h=>c1 h.1)]
   obtain ⟨ev,eo,so,co,⟨hev,hco⟩,R⟩:=RULES CC;rw [<- hev]
   simp only [fpart,part',Try.f50,Option.getD]
   simp (maxSteps:=5000000) only [SA,SB,SD,R,SF,seval,TG,SE,c1]
theorem op_value_inRange (n:Int) (bx):callOp CC (callL CC) 50 [.int .i64 n] bx=some (.ret (.bool (inR n)),bx):=callOp_of rfl (by simp only [SA,Bool.and_true]) (call_value_inRange n) rfl
def okN (k n:Int):Option Bool:=if k=0∨k=4 then some (n == 0) else if k=1 then some (n == 0 || n == 1) else if k=2 then some (inR n) else if k=3 then some (decide (0<=n) && decide (n<=63)) else none
def ckV (v:Vl):Int:=match okN v.1 v.2.1 with
 | none=>7
 | some false=>2
 | some true=>if 60 < v.2.2.length then 3 else if v.2.2≠[]∧v.1≠4 then 4 else 0
theorem ck_v_0 (n:Int) (s:List UInt8):∃ bx,callL CC 60 [vlV (0,n,s)] []=some (.ret (.int .i64 (ckV (0,n,s))),bx):=by
 rw [callL_enter (fn:=Try.f60) (c:=Try.f60.body.getD .skip) rfl rfl fat_value_Check rfl ok_value_Check (Nat.le_of_ble_eq_true rfl)]
 have hlen:=len_str s
 obtain ⟨tu,htu⟩:=VLs
 unfold ckV vlV
 simp only
 by_cases c1:n=0
 · subst c1
   have ok:okN 0 0=some true:=rfl
   rw [ok]
   by_cases d1:60 < s.length
   · have d1p:(s.length:Int) > 60:=by omega
     simp only [if_pos d1]
     obtain ⟨ev,eo,so,co,⟨hev,hco⟩,R⟩:=RULES CC;rw [<- hev]
     skip
     simp only [fpart,part',Try.f60,Option.getD]
     simp (maxSteps:=5000000) only [SA,SB,SD,R,SF,SG,seval,TG,SE,SC,htu,hlen,d1p]
     exact ⟨_,rfl⟩
   · have d1p:¬ (s.length:Int) > 60:=by omega
     simp only [if_neg d1]
     have hsq:=strP_neq s []
     by_cases d2:s=[]
     · rw [if_neg (fun h=>h.1 d2)]
       rw [show (!(s == []))=false by rw [d2];rfl] at hsq
       obtain ⟨ev,eo,so,co,⟨hev,hco⟩,R⟩:=RULES CC;rw [<- hev]
       skip
       simp only [fpart,part',Try.f60,Option.getD]
       simp (maxSteps:=5000000) only [SA,SB,SD,R,SF,SG,seval,TG,SE,SC,htu,hlen,d1p,hsq]
       exact ⟨_,rfl⟩
     · rw [if_pos ⟨d2,by omega⟩]
       rw [show (!(s == []))=true by simpa using d2] at hsq
       obtain ⟨ev,eo,so,co,⟨hev,hco⟩,R⟩:=RULES CC;rw [<- hev]
       skip
       simp only [fpart,part',Try.f60,Option.getD]
       simp (maxSteps:=5000000) only [SA,SB,SD,R,SF,SG,seval,TG,SE,SC,htu,hlen,d1p,hsq]
       exact ⟨_,rfl⟩
 · have c1p:(n == 0)=false:=by simpa using c1
   have ok:okN 0 n=some false:=by unfold okN;simpa using c1
   rw [ok]
   dsimp only
   obtain ⟨ev,eo,so,co,⟨hev,hco⟩,R⟩:=RULES CC;rw [<- hev]
   skip
   simp only [fpart,part',Try.f60,Option.getD]
   simp (maxSteps:=5000000) only [SA,SB,SD,R,SF,SG,seval,TG,SE,SC,htu,hlen,c1p]
   exact ⟨_,rfl⟩
theorem ck_v_4 (n:Int) (s:List UInt8):∃ bx,callL CC 60 [vlV (4,n,s)] []=some (.ret (.int .i64 (ckV (4,n,s))),bx):=by
 rw [callL_enter (fn:=Try.f60) (c:=Try.f60.body.getD .skip) rfl rfl fat_value_Check rfl ok_value_Check (Nat.le_of_ble_eq_true rfl)]
 have hlen:=len_str s
 obtain ⟨tu,htu⟩:=VLs
 unfold ckV vlV
 simp only
 by_cases c1:n=0
 · subst c1
   have ok:okN 4 0=some true:=rfl
   rw [ok]
   by_cases d1:60 < s.length
   · have d1p:(s.length:Int) > 60:=by omega
     simp only [if_pos d1]
     obtain ⟨ev,eo,so,co,⟨hev,hco⟩,R⟩:=RULES CC;rw [<- hev]
     skip
     simp only [fpart,part',Try.f60,Option.getD]
     simp (maxSteps:=5000000) only [SA,SB,SD,R,SF,SG,seval,TG,SE,SC,htu,hlen,d1p]
     exact ⟨_,rfl⟩
   · have d1p:¬ (s.length:Int) > 60:=by omega
     simp only [if_neg d1]
     simp only [ne_eq,not_true_eq_false,and_false,if_false]
     have hsq:=strP_neq s []
     generalize (!(s == []))=sb at *
     cases sb
     · skip
       obtain ⟨ev,eo,so,co,⟨hev,hco⟩,R⟩:=RULES CC;rw [<- hev]
       skip
       simp only [fpart,part',Try.f60,Option.getD]
       simp (maxSteps:=5000000) only [SA,SB,SD,R,SF,SG,seval,TG,SE,SC,htu,hlen,d1p,hsq]
       exact ⟨_,rfl⟩
     · skip
       obtain ⟨ev,eo,so,co,⟨hev,hco⟩,R⟩:=RULES CC;rw [<- hev]
       skip
       simp only [fpart,part',Try.f60,Option.getD]
       simp (maxSteps:=5000000) only [SA,SB,SD,R,SF,SG,seval,TG,SE,SC,htu,hlen,d1p,hsq]
       exact ⟨_,rfl⟩
 · have c1p:(n == 0)=false:=by simpa using c1
   have ok:okN 4 n=some false:=by unfold okN;simpa using c1
   rw [ok]
   dsimp only
   obtain ⟨ev,eo,so,co,⟨hev,hco⟩,R⟩:=RULES CC;rw [<- hev]
   skip
   simp only [fpart,part',Try.f60,Option.getD]
   simp (maxSteps:=5000000) only [SA,SB,SD,R,SF,SG,seval,TG,SE,SC,htu,hlen,c1p]
   exact ⟨_,rfl⟩
theorem ck_v_1 (n:Int) (s:List UInt8):∃ bx,callL CC 60 [vlV (1,n,s)] []=some (.ret (.int .i64 (ckV (1,n,s))),bx):=by
 rw [callL_enter (fn:=Try.f60) (c:=Try.f60.body.getD .skip) rfl rfl fat_value_Check rfl ok_value_Check (Nat.le_of_ble_eq_true rfl)]
 have hlen:=len_str s
 obtain ⟨tu,htu⟩:=VLs
 unfold ckV vlV
 simp only
 by_cases c1:n=0
 · subst c1
   have ok:okN 1 0=some true:=rfl
   rw [ok]
   by_cases d1:60 < s.length
   · have d1p:(s.length:Int) > 60:=by omega
     simp only [if_pos d1]
     obtain ⟨ev,eo,so,co,⟨hev,hco⟩,R⟩:=RULES CC;rw [<- hev]
     skip
     simp only [fpart,part',Try.f60,Option.getD]
     simp (maxSteps:=5000000) only [SA,SB,SD,R,SF,SG,seval,TG,SE,SC,htu,hlen,d1p]
     exact ⟨_,rfl⟩
   · have d1p:¬ (s.length:Int) > 60:=by omega
     simp only [if_neg d1]
     have hsq:=strP_neq s []
     by_cases d2:s=[]
     · rw [if_neg (fun h=>h.1 d2)]
       rw [show (!(s == []))=false by rw [d2];rfl] at hsq
       obtain ⟨ev,eo,so,co,⟨hev,hco⟩,R⟩:=RULES CC;rw [<- hev]
       skip
       simp only [fpart,part',Try.f60,Option.getD]
       simp (maxSteps:=5000000) only [SA,SB,SD,R,SF,SG,seval,TG,SE,SC,htu,hlen,d1p,hsq]
       exact ⟨_,rfl⟩
     · rw [if_pos ⟨d2,by omega⟩]
       rw [show (!(s == []))=true by simpa using d2] at hsq
       obtain ⟨ev,eo,so,co,⟨hev,hco⟩,R⟩:=RULES CC;rw [<- hev]
       skip
       simp only [fpart,part',Try.f60,Option.getD]
       simp (maxSteps:=5000000) only [SA,SB,SD,R,SF,SG,seval,TG,SE,SC,htu,hlen,d1p,hsq]
       exact ⟨_,rfl⟩
 · have c1p:(n == 0)=false:=by simpa using c1
   by_cases c2:n=1
   · subst c2
     have ok:okN 1 1=some true:=rfl
     rw [ok]
     by_cases d1:60 < s.length
     · have d1p:(s.length:Int) > 60:=by omega
       simp only [if_pos d1]
       obtain ⟨ev,eo,so,co,⟨hev,hco⟩,R⟩:=RULES CC;rw [<- hev]
       skip
       simp only [fpart,part',Try.f60,Option.getD]
       simp (maxSteps:=5000000) only [SA,SB,SD,R,SF,SG,seval,TG,SE,SC,htu,hlen,d1p]
       exact ⟨_,rfl⟩
     · have d1p:¬ (s.length:Int) > 60:=by omega
       simp only [if_neg d1]
       have hsq:=strP_neq s []
       by_cases d2:s=[]
       · rw [if_neg (fun h=>h.1 d2)]
         rw [show (!(s == []))=false by rw [d2];rfl] at hsq
         obtain ⟨ev,eo,so,co,⟨hev,hco⟩,R⟩:=RULES CC;rw [<- hev]
         skip
         simp only [fpart,part',Try.f60,Option.getD]
         simp (maxSteps:=5000000) only [SA,SB,SD,R,SF,SG,seval,TG,SE,SC,htu,hlen,d1p,hsq]
         exact ⟨_,rfl⟩
       · rw [if_pos ⟨d2,by omega⟩]
         rw [show (!(s == []))=true by simpa using d2] at hsq
         obtain ⟨ev,eo,so,co,⟨hev,hco⟩,R⟩:=RULES CC;rw [<- hev]
         skip
         simp only [fpart,part',Try.f60,Option.getD]
         simp (maxSteps:=5000000) only [SA,SB,SD,R,SF,SG,seval,TG,SE,SC,htu,hlen,d1p,hsq]
         exact ⟨_,rfl⟩
   · have c2p:(n == 1)=false:=by simpa using c2
     have ok:okN 1 n=some false:=by unfold okN;simp [c1,c2]
     rw [ok]
     dsimp only
     obtain ⟨ev,eo,so,co,⟨hev,hco⟩,R⟩:=RULES CC;rw [<- hev]
     skip
     simp only [fpart,part',Try.f60,Option.getD]
     simp (maxSteps:=5000000) only [SA,SB,SD,R,SF,SG,seval,TG,SE,SC,htu,hlen,c1p,c2p]
     exact ⟨_,rfl⟩
theorem ck_v_2 (n:Int) (s:List UInt8):∃ bx,callL CC 60 [vlV (2,n,s)] []=some (.ret (.int .i64 (ckV (2,n,s))),bx):=by
 rw [callL_enter (fn:=Try.f60) (c:=Try.f60.body.getD .skip) rfl rfl fat_value_Check rfl ok_value_Check (Nat.le_of_ble_eq_true rfl)]
 have hlen:=len_str s
 obtain ⟨tu,htu⟩:=VLs
 unfold ckV vlV
 simp only
 have hin:=op_value_inRange n
 have ok:okN 2 n=some (inR n):=rfl
 generalize inR n=b at *
 cases b
 · skip
   rw [ok]
   dsimp only
   obtain ⟨ev,eo,so,co,⟨hev,hco⟩,R⟩:=RULES CC;rw [<- hev]
   rw [<- hco] at hin
   simp only [fpart,part',Try.f60,Option.getD]
   simp (maxSteps:=5000000) only [SA,SB,SD,R,SF,SG,seval,TG,SE,SC,htu,hlen,hin]
   exact ⟨_,rfl⟩
 · skip
   rw [ok]
   by_cases d1:60 < s.length
   · have d1p:(s.length:Int) > 60:=by omega
     simp only [if_pos d1]
     obtain ⟨ev,eo,so,co,⟨hev,hco⟩,R⟩:=RULES CC;rw [<- hev]
     rw [<- hco] at hin
     simp only [fpart,part',Try.f60,Option.getD]
     simp (maxSteps:=5000000) only [SA,SB,SD,R,SF,SG,seval,TG,SE,SC,htu,hlen,hin,d1p]
     exact ⟨_,rfl⟩
   · have d1p:¬ (s.length:Int) > 60:=by omega
     simp only [if_neg d1]
     have hsq:=strP_neq s []
     by_cases d2:s=[]
     · rw [if_neg (fun h=>h.1 d2)]
       rw [show (!(s == []))=false by rw [d2];rfl] at hsq
       obtain ⟨ev,eo,so,co,⟨hev,hco⟩,R⟩:=RULES CC;rw [<- hev]
       rw [<- hco] at hin
       simp only [fpart,part',Try.f60,Option.getD]
       simp (maxSteps:=5000000) only [SA,SB,SD,R,SF,SG,seval,TG,SE,SC,htu,hlen,hin,d1p,hsq]
       exact ⟨_,rfl⟩
     · rw [if_pos ⟨d2,by omega⟩]
       rw [show (!(s == []))=true by simpa using d2] at hsq
       obtain ⟨ev,eo,so,co,⟨hev,hco⟩,R⟩:=RULES CC;rw [<- hev]
       rw [<- hco] at hin
       simp only [fpart,part',Try.f60,Option.getD]
       simp (maxSteps:=5000000) only [SA,SB,SD,R,SF,SG,seval,TG,SE,SC,htu,hlen,hin,d1p,hsq]
       exact ⟨_,rfl⟩
theorem ck_v_3 (n:Int) (s:List UInt8):∃ bx,callL CC 60 [vlV (3,n,s)] []=some (.ret (.int .i64 (ckV (3,n,s))),bx):=by
 rw [callL_enter (fn:=Try.f60) (c:=Try.f60.body.getD .skip) rfl rfl fat_value_Check rfl ok_value_Check (Nat.le_of_ble_eq_true rfl)]
 have hlen:=len_str s
 obtain ⟨tu,htu⟩:=VLs
 unfold ckV vlV
 simp only
 by_cases c1:n ≥ 0
 · by_cases c2:n<=63
   · have ok:okN 3 n=some true:=by unfold okN;simp;omega
     rw [ok]
     by_cases d1:60 < s.length
     · have d1p:(s.length:Int) > 60:=by omega
       simp only [if_pos d1]
       obtain ⟨ev,eo,so,co,⟨hev,hco⟩,R⟩:=RULES CC;rw [<- hev]
       skip
       simp only [fpart,part',Try.f60,Option.getD]
       simp (maxSteps:=5000000) only [SA,SB,SD,R,SF,SG,seval,TG,SE,SC,htu,hlen,c1,c2,d1p]
       exact ⟨_,rfl⟩
     · have d1p:¬ (s.length:Int) > 60:=by omega
       simp only [if_neg d1]
       have hsq:=strP_neq s []
       by_cases d2:s=[]
       · rw [if_neg (fun h=>h.1 d2)]
         rw [show (!(s == []))=false by rw [d2];rfl] at hsq
         obtain ⟨ev,eo,so,co,⟨hev,hco⟩,R⟩:=RULES CC;rw [<- hev]
         skip
         simp only [fpart,part',Try.f60,Option.getD]
         simp (maxSteps:=5000000) only [SA,SB,SD,R,SF,SG,seval,TG,SE,SC,htu,hlen,c1,c2,d1p,hsq]
         exact ⟨_,rfl⟩
       · rw [if_pos ⟨d2,by omega⟩]
         rw [show (!(s == []))=true by simpa using d2] at hsq
         obtain ⟨ev,eo,so,co,⟨hev,hco⟩,R⟩:=RULES CC;rw [<- hev]
         skip
         simp only [fpart,part',Try.f60,Option.getD]
         simp (maxSteps:=5000000) only [SA,SB,SD,R,SF,SG,seval,TG,SE,SC,htu,hlen,c1,c2,d1p,hsq]
         exact ⟨_,rfl⟩
   · have ok:okN 3 n=some false:=by unfold okN;simp;omega
     rw [ok]
     dsimp only
     obtain ⟨ev,eo,so,co,⟨hev,hco⟩,R⟩:=RULES CC;rw [<- hev]
     skip
     simp only [fpart,part',Try.f60,Option.getD]
     simp (maxSteps:=5000000) only [SA,SB,SD,R,SF,SG,seval,TG,SE,SC,htu,hlen,c1,c2]
     exact ⟨_,rfl⟩
 · have ok:okN 3 n=some false:=by unfold okN;simp;omega
   rw [ok]
   dsimp only
   obtain ⟨ev,eo,so,co,⟨hev,hco⟩,R⟩:=RULES CC;rw [<- hev]
   skip
   simp only [fpart,part',Try.f60,Option.getD]
   simp (maxSteps:=5000000) only [SA,SB,SD,R,SF,SG,seval,TG,SE,SC,htu,hlen,c1]
   exact ⟨_,rfl⟩
theorem ck_v_o (k n:Int) (s:List UInt8) (h:k≠0∧k≠4∧k≠1∧k≠2∧k≠3):∃ bx,callL CC 60 [vlV (k,n,s)] []=some (.ret (.int .i64 (ckV (k,n,s))),bx):=by
 rw [callL_enter (fn:=Try.f60) (c:=Try.f60.body.getD .skip) rfl rfl fat_value_Check rfl ok_value_Check (Nat.le_of_ble_eq_true rfl)]
 obtain ⟨k0,k4,k1,k2,k3⟩:=h
 have ok:okN k n=none:=by unfold okN;rw [if_neg (by omega),if_neg k1,if_neg k2,if_neg k3]
 have e0:(k == 0)=false:=by simpa using k0
 have e4:(k == 4)=false:=by simpa using k4
 have e1:(k == 1)=false:=by simpa using k1
 have e2:(k == 2)=false:=by simpa using k2
 have e3:(k == 3)=false:=by simpa using k3
 have hlen:=len_str s
 obtain ⟨tu,htu⟩:=VLs
 unfold ckV vlV
 simp only
 rw [ok]
 dsimp only
 obtain ⟨ev,eo,so,co,⟨hev,hco⟩,R⟩:=RULES CC;rw [<- hev]
 skip
 simp only [fpart,part',Try.f60,Option.getD]
 simp (maxSteps:=5000000) only [SA,SB,SD,R,SF,SG,seval,TG,SE,SC,htu,hlen,e0,e4,e1,e2,e3]
 exact ⟨_,rfl⟩
theorem call_value_Check (v:Vl):∃ bx,callL CC 60 [vlV v] []=some (.ret (.int .i64 (ckV v)),bx):=by
 obtain ⟨k,n,s⟩:=v
 by_cases k0:k=0
 · subst k0;exact ck_v_0 n s
 by_cases k4:k=4
 · subst k4;exact ck_v_4 n s
 by_cases k1:k=1
 · subst k1;exact ck_v_1 n s
 by_cases k2:k=2
 · subst k2;exact ck_v_2 n s
 by_cases k3:k=3
 · subst k3;exact ck_v_3 n s
 exact ck_v_o k n s ⟨k0,k4,k1,k2,k3⟩
theorem op_value_Check (v:Vl) (bx):callOp CC (callL CC) 60 [vlV v] bx=some (.ret (.int .i64 (ckV v)),bx):=by
 obtain ⟨b,h⟩:=call_value_Check v
 exact callOp_of rfl rfl h rfl
theorem ok_names_letter:fnOK CC Try.f43 (Try.f43.body.getD .skip)=true:=by kernel_rfl
theorem fat_names_letter:CC.P.funcs[43]?=some Try.f43:=by kernel_rfl
theorem ok_names_Valid:fnOK CC Try.f34 (Try.f34.body.getD .skip)=true:=by kernel_rfl
theorem fat_names_Valid:CC.P.funcs[34]?=some Try.f34:=by kernel_rfl
theorem get_at (s:List UInt8) (i:Nat) (c:UInt8) (h:s[i]?=some c):(ByteArray.mk s.toArray).get! i=c:=by
 show s.toArray[i]! = c
 rw [getElem!_def,List.getElem?_toArray,h]
theorem dec_lo (s:List UInt8) (i:Nat) (c:UInt8) (h:s[i]?=some c) (hc:c.toNat < 128):Utf8.decode ⟨s.toArray⟩ i=(c.toNat,1):=by
 unfold Utf8.decode
 simp only [Nat.add_zero,get_at s i c h]
 rw [if_pos hc]
theorem dec_hi (s:List UInt8) (i:Nat) (c:UInt8) (h:s[i]?=some c) (hc:¬ c.toNat < 128):128<=(Utf8.decode ⟨s.toArray⟩ i).1:=by
 unfold Utf8.decode
 simp only [Nat.add_zero,get_at s i c h]
 rw [if_neg hc]
 unfold Utf8.runeError
 repeat' split
 all_goals first | (simp only;omega) | (rename_i hh;simp at hh;simp only;omega) | decide
def okC (i n:Nat):Bool:=decide ((97<=n∧n<=122)∨(i≠0∧(n=95∨n=45∨(48<=n∧n<=57))))
def vAll:Nat->List UInt8->Bool
 | _,[]=>true
 | i,c :: r=>okC i c.toNat && vAll (i+1) r
def valB (s:List UInt8):Bool:=decide (1<=s.length∧s.length<=24) && vAll 0 s
def PVd (v:Bool) (r:Option (Ex×St)):Prop:=∃ e' bx',(v=true∧r=some (.exit 0,⟨e',bx'⟩))∨(v=false∧r=some (.ret,⟨e',bx'⟩)∧getT e' 2=.bool false)
theorem call_names_letter (r:Int):callL CC 43 [.int .i32 r] []=some (.ret (.bool (decide (97<=r∧r<=122))),[]):=by
 rw [callL_enter (fn:=Try.f43) (c:=Try.f43.body.getD .skip) rfl rfl fat_names_letter rfl ok_names_letter (Nat.le_of_ble_eq_true rfl)]
 by_cases c1:r ≥ 97
 · by_cases c2:r<=122
   · rw [decide_eq_true (show 97<=r∧r<=122 from ⟨c1,c2⟩)]
     obtain ⟨ev,eo,so,co,⟨hev,hco⟩,R⟩:=RULES CC;rw [<- hev]
     simp only [fpart,part',Try.f43,Option.getD]
     simp (maxSteps:=5000000) only [SA,SB,SD,R,SF,seval,TG,SE,c1,c2]
   · rw [decide_eq_false (show ¬ (97<=r∧r<=122) from fun h=>c2 h.2)]
     obtain ⟨ev,eo,so,co,⟨hev,hco⟩,R⟩:=RULES CC;rw [<- hev]
     simp only [fpart,part',Try.f43,Option.getD]
     simp (maxSteps:=5000000) only [SA,SB,SD,R,SF,seval,TG,SE,c1,c2]
 · rw [decide_eq_false (show ¬ (97<=r∧r<=122) from fun h=>c1 h.1)]
   obtain ⟨ev,eo,so,co,⟨hev,hco⟩,R⟩:=RULES CC;rw [<- hev]
   simp only [fpart,part',Try.f43,Option.getD]
   simp (maxSteps:=5000000) only [SA,SB,SD,R,SF,seval,TG,SE,c1]
theorem op_names_letter (r:Int) (bx):callOp CC (callL CC) 43 [.int .i32 r] bx=some (.ret (.bool (decide (97<=r∧r<=122))),bx):=callOp_of rfl (by simp only [SA,Bool.and_true]) (call_names_letter r) rfl
theorem loop_names_Valid (L:Code) (hL:L=fpart Try.f34 [1,1,0,1,0]) (s:List UInt8) (hs:s.length<=30000):∀ (k i:Nat) (e:List PV),i+k=s.length->getT e 0=.str s->getT e 14=.bp 0 0 ->
 PVd (vAll i (s.drop i)) (evL CC L ⟨e,[.iter s i]⟩):=by
 intro k
 induction k with
 | zero=>
  intro i e hk h0 h14
  rw [evL_at (fpart Try.f34 [1,1,0,1,0,0]) hL]
  have hlt:¬ (i < s.length):=by omega
  rw [List.drop_eq_nil_of_le (by omega)]
  unfold vAll
  obtain ⟨ev,eo,so,co,⟨hev,hco⟩,R⟩:=RULES CC;rw [<- hev]
  simp only [fpart,part',Try.f34,Option.getD]
  simp (maxSteps:=5000000) only [SA,SB,SD,R,SF,seval,TG,SE,nextR,extP,List.getElem?_cons_zero,List.getElem?_cons_succ,h0,h14,hlt]
  exact ⟨_,_,.inl ⟨rfl,rfl⟩⟩
 | succ k ih=>
  intro i e hk h0 h14
  rw [evL_at (fpart Try.f34 [1,1,0,1,0,0]) hL]
  have hlen:=len_str s
  have hlt:i < s.length:=by omega
  have hx:s[i]?=some (s[i]'(by omega)):=by simp
  have hdr:s.drop i=(s[i]'(by omega)) :: s.drop (i+1):=List.drop_eq_getElem_cons (by omega)
  generalize s[i]'(by omega)=c at *
  have hlo:=dec_lo s i c hx
  have hhi:=dec_hi s i c hx
  have key:=fun e=>ih (i+1) e (by omega)
  rw [hdr]
  unfold vAll
  generalize vAll (i+1) (s.drop (i+1))=v at *
  generalize c.toNat=n at *
  clear hx hdr
  by_cases h128:n < 128
  · have hdec:=hlo h128
    have hlet:=op_names_letter (n:Int)
    by_cases a1:97<=(n:Int)∧(n:Int)<=122
    · rw [decide_eq_true a1] at hlet
      rw [show okC i n=true from decide_eq_true (by omega),Bool.true_and]
      obtain ⟨ev,eo,so,co,⟨hev,hco⟩,R⟩:=RULES CC;rw [<- hev]
      rw [<- hco] at hlet
      rw [<- hev] at key
      simp only [fpart,part',Try.f34,Option.getD]
      simp (maxSteps:=5000000) only [SA,SB,SD,R,SF,SG,seval,TG,SE,nextR,List.set_cons_zero,h0,h14,hlen,hlt,hlet,hdec]
      exact key _ (by simp (maxSteps:=5000000) only [SA,SB,SD,R,SF,seval,h0]) (by simp (maxSteps:=5000000) only [SA,SB,SD,R,SF,seval,h14])
    · rw [decide_eq_false a1] at hlet
      by_cases i0:i=0
      · have z:((i:Int) == 0)=true:=by rw [i0];rfl
        rw [show okC i n=false from decide_eq_false (by omega),Bool.false_and]
        obtain ⟨ev,eo,so,co,⟨hev,hco⟩,R⟩:=RULES CC;rw [<- hev]
        rw [<- hco] at hlet
        simp only [fpart,part',Try.f34,Option.getD]
        simp (maxSteps:=5000000) only [SA,SB,SD,R,SF,SG,seval,TG,SE,nextR,List.set_cons_zero,h0,h14,hlen,hlt,hlet,hdec,z]
        exact ⟨_,_,.inr ⟨rfl,rfl,by simp (maxSteps:=5000000) only [SA,SB,SD,R,SF,seval]⟩⟩
      · have z:((i:Int) == 0)=false:=by rw [beq_eq_false_iff_ne];omega
        by_cases e1:n=95
        · have e1p:((n:Int) != 95)=false:=by rw [e1];rfl
          rw [show okC i n=true from decide_eq_true (by omega),Bool.true_and]
          obtain ⟨ev,eo,so,co,⟨hev,hco⟩,R⟩:=RULES CC;rw [<- hev]
          rw [<- hco] at hlet
          rw [<- hev] at key
          simp only [fpart,part',Try.f34,Option.getD]
          simp (maxSteps:=5000000) only [SA,SB,SD,R,SF,SG,seval,TG,SE,nextR,List.set_cons_zero,h0,h14,hlen,hlt,hlet,hdec,z,e1p]
          exact key _ (by simp (maxSteps:=5000000) only [SA,SB,SD,R,SF,seval,h0]) (by simp (maxSteps:=5000000) only [SA,SB,SD,R,SF,seval,h14])
        · have e1p:((n:Int) != 95)=true:=by rw [bne_iff_ne];omega
          by_cases e2:n=45
          · have e2p:((n:Int) != 45)=false:=by rw [e2];rfl
            rw [show okC i n=true from decide_eq_true (by omega),Bool.true_and]
            obtain ⟨ev,eo,so,co,⟨hev,hco⟩,R⟩:=RULES CC;rw [<- hev]
            rw [<- hco] at hlet
            rw [<- hev] at key
            simp only [fpart,part',Try.f34,Option.getD]
            simp (maxSteps:=5000000) only [SA,SB,SD,R,SF,SG,seval,TG,SE,nextR,List.set_cons_zero,h0,h14,hlen,hlt,hlet,hdec,z,e1p,e2p]
            exact key _ (by simp (maxSteps:=5000000) only [SA,SB,SD,R,SF,seval,h0]) (by simp (maxSteps:=5000000) only [SA,SB,SD,R,SF,seval,h14])
          · have e2p:((n:Int) != 45)=true:=by rw [bne_iff_ne];omega
            by_cases e3:(n:Int) < 48
            · skip
              rw [show okC i n=false from decide_eq_false (by omega),Bool.false_and]
              obtain ⟨ev,eo,so,co,⟨hev,hco⟩,R⟩:=RULES CC;rw [<- hev]
              rw [<- hco] at hlet
              simp only [fpart,part',Try.f34,Option.getD]
              simp (maxSteps:=5000000) only [SA,SB,SD,R,SF,SG,seval,TG,SE,nextR,List.set_cons_zero,h0,h14,hlen,hlt,hlet,hdec,z,e1p,e2p,e3]
              exact ⟨_,_,.inr ⟨rfl,rfl,by simp (maxSteps:=5000000) only [SA,SB,SD,R,SF,seval]⟩⟩
            · by_cases e4:(n:Int) > 57
              · skip
                rw [show okC i n=false from decide_eq_false (by omega),Bool.false_and]
                obtain ⟨ev,eo,so,co,⟨hev,hco⟩,R⟩:=RULES CC;rw [<- hev]
                rw [<- hco] at hlet
                simp only [fpart,part',Try.f34,Option.getD]
                simp (maxSteps:=5000000) only [SA,SB,SD,R,SF,SG,seval,TG,SE,nextR,List.set_cons_zero,h0,h14,hlen,hlt,hlet,hdec,z,e1p,e2p,e3,e4]
                exact ⟨_,_,.inr ⟨rfl,rfl,by simp (maxSteps:=5000000) only [SA,SB,SD,R,SF,seval]⟩⟩
              · skip
                rw [show okC i n=true from decide_eq_true (by omega),Bool.true_and]
                obtain ⟨ev,eo,so,co,⟨hev,hco⟩,R⟩:=RULES CC;rw [<- hev]
                rw [<- hco] at hlet
                rw [<- hev] at key
                simp only [fpart,part',Try.f34,Option.getD]
                simp (maxSteps:=5000000) only [SA,SB,SD,R,SF,SG,seval,TG,SE,nextR,List.set_cons_zero,h0,h14,hlen,hlt,hlet,hdec,z,e1p,e2p,e3,e4]
                exact key _ (by simp (maxSteps:=5000000) only [SA,SB,SD,R,SF,seval,h0]) (by simp (maxSteps:=5000000) only [SA,SB,SD,R,SF,seval,h14])
  · have hge:=hhi h128
    rw [show okC i n=false from decide_eq_false (by omega),Bool.false_and]
    generalize hdec:Utf8.decode ⟨s.toArray⟩ i=d at *
    obtain ⟨m,k2⟩:=d
    simp only at hge
    have hlet:=op_names_letter (m:Int)
    rw [decide_eq_false (by omega)] at hlet
    by_cases i0:i=0
    · have z:((i:Int) == 0)=true:=by rw [i0];rfl
      obtain ⟨ev,eo,so,co,⟨hev,hco⟩,R⟩:=RULES CC;rw [<- hev]
      rw [<- hco] at hlet
      simp only [fpart,part',Try.f34,Option.getD]
      simp (maxSteps:=5000000) only [SA,SB,SD,R,SF,SG,seval,TG,SE,nextR,List.set_cons_zero,h0,h14,hlen,hlt,hlet,hdec,z]
      exact ⟨_,_,.inr ⟨rfl,rfl,by simp (maxSteps:=5000000) only [SA,SB,SD,R,SF,seval]⟩⟩
    · have z:((i:Int) == 0)=false:=by rw [beq_eq_false_iff_ne];omega
      have e1p:((m:Int) != 95)=true:=by rw [bne_iff_ne];omega
      have e2p:((m:Int) != 45)=true:=by rw [bne_iff_ne];omega
      have e3:¬ ((m:Int) < 48):=by omega
      have e4:((m:Int) > 57):=by omega
      obtain ⟨ev,eo,so,co,⟨hev,hco⟩,R⟩:=RULES CC;rw [<- hev]
      rw [<- hco] at hlet
      simp only [fpart,part',Try.f34,Option.getD]
      simp (maxSteps:=5000000) only [SA,SB,SD,R,SF,SG,seval,TG,SE,nextR,List.set_cons_zero,h0,h14,hlen,hlt,hlet,hdec,z,e1p,e2p,e3,e4]
      exact ⟨_,_,.inr ⟨rfl,rfl,by simp (maxSteps:=5000000) only [SA,SB,SD,R,SF,seval]⟩⟩
theorem call_names_Valid (s:List UInt8):∃ bx,callL CC 34 [.str s] []=some (.ret (.bool (valB s)),bx):=by
 rw [callL_enter (fn:=Try.f34) (c:=Try.f34.body.getD .skip) rfl rfl fat_names_Valid rfl ok_names_Valid (Nat.le_of_ble_eq_true rfl)]
 have hlen:=len_str s
 unfold valB
 by_cases c1:(s.length:Int) < 1
 · rw [decide_eq_false (show ¬ (1<=s.length∧s.length<=24) by omega),Bool.false_and]
   obtain ⟨ev,eo,so,co,⟨hev,hco⟩,R⟩:=RULES CC;rw [<- hev]
   simp only [fpart,part',Try.f34,Option.getD]
   simp (maxSteps:=5000000) only [SA,SB,SD,R,SF,seval,TG,SE,hlen,c1]
   exact ⟨_,rfl⟩
 · by_cases c2:(s.length:Int) > 24
   · rw [decide_eq_false (show ¬ (1<=s.length∧s.length<=24) by omega),Bool.false_and]
     obtain ⟨ev,eo,so,co,⟨hev,hco⟩,R⟩:=RULES CC;rw [<- hev]
     simp only [fpart,part',Try.f34,Option.getD]
     simp (maxSteps:=5000000) only [SA,SB,SD,R,SF,seval,TG,SE,hlen,c1,c2]
     exact ⟨_,rfl⟩
   · rw [decide_eq_true (show 1<=s.length∧s.length<=24 by omega),Bool.true_and]
     have hloop:=fun e=>loop_names_Valid _ rfl s (by omega) s.length 0 e (by omega)
     rw [List.drop_zero] at hloop
     have hus:CC.P.underlying 9=some .string:=by kernel_rfl
     generalize vAll 0 s=v at *
     obtain ⟨ev,eo,so,co,⟨hev,hco⟩,R⟩:=RULES CC;rw [<- hev]
     rw [<- hev] at hloop
     simp only [fpart,part',Try.f34,Option.getD] at hloop ⊢
     simp (maxSteps:=5000000) only [SA,SB,SD,R,SF,seval,TG,SE,hlen,c1,c2,rangeR,hus,List.nil_append]
     generalize hE:ev _ _=r
     have hP:PVd v r:=by
      rw [<- hE]
      exact hloop _ (by simp (maxSteps:=5000000) only [SA,SB,SD,R,SF,seval]) (by simp (maxSteps:=5000000) only [SA,SB,SD,R,SF,seval])
     obtain ⟨e',bx',⟨hv,he⟩ | ⟨hv,he,g2⟩⟩:=hP
     · subst he
       subst hv
       simp (maxSteps:=5000000) only [SA,SB,SD,R,SF,seval,TG,SE]
       exact ⟨_,rfl⟩
     · subst he
       subst hv
       simp (maxSteps:=5000000) only [SA,SB,SD,R,SF,seval,TG,SE,g2]
       exact ⟨_,rfl⟩
theorem op_names_Valid (s:List UInt8) (bx):callOp CC (callL CC) 34 [.str s] bx=some (.ret (.bool (valB s)),bx):=by
 obtain ⟨b,h⟩:=call_names_Valid s
 exact callOp_of rfl (by simp only [SA,Bool.and_true]) h rfl
end Go.HH
namespace Go.HH
open Go Go.Proofs
set_option maxRecDepth 100000
set_option maxHeartbeats 4000000
set_option linter.unusedSimpArgs false
set_option linter.unusedVariables false
theorem ok_slices_Index_string_string:fnOK CC Try.f49 (Try.f49.body.getD .skip)=true:=by kernel_rfl
theorem fat_slices_Index_string_string:CC.P.funcs[49]?=some Try.f49:=by kernel_rfl
theorem ok_names_Index:fnOK CC Try.f44 (Try.f44.body.getD .skip)=true:=by kernel_rfl
theorem fat_names_Index:CC.P.funcs[44]?=some Try.f44:=by kernel_rfl
theorem ok_value_members:fnOK CC Try.f51 (Try.f51.body.getD .skip)=true:=by kernel_rfl
theorem fat_value_members:CC.P.funcs[51]?=some Try.f51:=by kernel_rfl
def strs (l:List (List UInt8)):List PV:=l.map PV.str
theorem strs_length (l:List (List UInt8)):(strs l).length=l.length:=by unfold strs;rw [List.length_map]
theorem strs_get {l:List (List UInt8)} {i:Nat} {s:List UInt8} (h:l[i]?=some s):(strs l)[i]?=some (.str s):=by unfold strs;rw [List.getElem?_map,h];rfl
theorem strs_pure:∀ l:List (List UInt8),pureL (strs l)=true
 | []=>rfl
 | t :: r=>by
  have h:=strs_pure r
  show ((PV.str t).pure && pureL (strs r))=true
  rw [h];rfl
def ixF:Nat->List (List UInt8)->List UInt8->Int
 | _,[],_=>-1
 | i,x :: r,s=>if s == x then (i:Int) else ixF (i+1) r s
def memB (l:List (List UInt8)) (s:List UInt8):Bool:=l.any (· == s)
theorem ixF_mem:∀ (l:List (List UInt8)) (i j:Nat) (s:List UInt8),l[j]?=some s->(decide (ixF i l s < ((i+j:Nat):Int))=memB (l.take j) s∧0<=ixF i l s)
 | [],_,_,_,h=>by simp at h
 | x :: r,i,0,s,h=>by
  have hx:x=s:=by simpa using h
  subst hx
  have h0:ixF i (x :: r) x=(i:Int):=by unfold ixF;simp
  rw [h0]
  refine ⟨?_,by omega⟩
  show decide _=false
  exact decide_eq_false (by omega)
 | x :: r,i,j+1,s,h=>by
  unfold ixF
  by_cases e:s=x
  · subst e
    rw [if_pos (by simp)]
    refine ⟨?_,by omega⟩
    rw [decide_eq_true (by omega)]
    unfold memB
    simp
  · rw [if_neg (by simpa using e)]
    have:=ixF_mem r (i+1) j s (by simpa using h)
    have e1:(i+1+j:Nat)=i+(j+1):=by omega
    rw [e1] at this
    refine ⟨?_,this.2⟩
    rw [this.1]
    unfold memB
    rw [List.take_succ_cons,List.any_cons]
    have:(x == s)=false:=by simpa using fun h=>e h.symm
    rw [this,Bool.false_or]
def PIx (v:Int) (r:Option (Ex×St)):Prop:=∃ e',(v=-1∧r=some (.exit 0,⟨e',[]⟩))∨(r=some (.ret,⟨e',[]⟩)∧getT e' 4=.int .i64 v)
theorem loop_Index (L:Code) (hL:L=fpart Try.f49 [1,0,1,0]) (l:List (List UInt8)) (hl:l.length<=9223372036854775807) (s:List UInt8):∀ (k i:Nat) (e:List PV),i+k=l.length->getT e 0=.sl (strs l)->getT e 1=.str s->getT e 7=.int .i64 l.length->getT e 8=.int .i64 i ->
 PIx (ixF i (l.drop i) s) (evL CC L ⟨e,[]⟩):=by
 intro k
 induction k with
 | zero=>
  intro i e hk h0 h1 h7 h8
  rw [evL_at (fpart Try.f49 [1,0,1,0,0]) hL]
  have hi:¬ ((i:Int) < (l.length:Int)):=by omega
  rw [List.drop_eq_nil_of_le (by omega)]
  unfold ixF
  obtain ⟨ev,eo,so,co,⟨hev,hco⟩,R⟩:=RULES CC;rw [<- hev]
  simp only [fpart,part',Try.f49,Option.getD]
  simp (maxSteps:=5000000) only [SA,SB,SD,R,SF,seval,TG,SE,h7,h8,hi]
  exact ⟨_,.inl ⟨rfl,rfl⟩⟩
 | succ k ih=>
  intro i e hk h0 h1 h7 h8
  rw [evL_at (fpart Try.f49 [1,0,1,0,0]) hL]
  have hi:((i:Int) < (l.length:Int)):=by omega
  have hi0:¬ ((i:Int) < 0):=by omega
  have hdr:l.drop i=(l[i]'(by omega)) :: l.drop (i+1):=List.drop_eq_getElem_cons (by omega)
  have hx:l[i]?=some (l[i]'(by omega)):=by simp
  generalize l[i]'(by omega)=x at *
  have hx':=strs_get hx
  have hw2:=wrap_i64 (n:=(i:Int)+1) ⟨by omega,by omega⟩
  have key:=fun e=>ih (i+1) e (by omega)
  have cast1:((i+1:Nat):Int)=(i:Int)+1:=by omega
  rw [cast1] at key
  have heq:=strP_eql s x
  rw [hdr]
  unfold ixF
  generalize ixF (i+1) (l.drop (i+1)) s=v at *
  generalize strs l=xs at *
  cases hb:s == x with
  | true=>
   rw [hb] at heq
   rw [if_pos rfl]
   obtain ⟨ev,eo,so,co,⟨hev,hco⟩,R⟩:=RULES CC;rw [<- hev]
   simp only [fpart,part',Try.f49,Option.getD]
   simp (maxSteps:=5000000) only [SA,SB,SD,R,SF,seval,TG,SE,h0,h1,h7,h8,hi,hi0,hx',heq,List.take_succ_cons,List.take_zero]
   exact ⟨_,.inr ⟨rfl,by simp (maxSteps:=5000000) only [SA,SB,SD,R,SF,seval]⟩⟩
  | false=>
   rw [hb] at heq
   rw [if_neg (by simp)]
   obtain ⟨ev,eo,so,co,⟨hev,hco⟩,R⟩:=RULES CC;rw [<- hev]
   rw [<- hev] at key
   simp only [fpart,part',Try.f49,Option.getD]
   simp (maxSteps:=5000000) only [SA,SB,SD,R,SF,seval,TG,SE,h0,h1,h7,h8,hi,hi0,hx',hw2,heq,List.take_succ_cons,List.take_zero]
   refine key _ ?_ ?_ ?_ ?_
   · simp (maxSteps:=5000000) only [SA,SB,SD,R,SF,seval,h0]
   · simp (maxSteps:=5000000) only [SA,SB,SD,R,SF,seval,h1]
   · simp (maxSteps:=5000000) only [SA,SB,SD,R,SF,seval,h7]
   · simp (maxSteps:=5000000) only [SA,SB,SD,R,SF,seval]
theorem call_Index (l:List (List UInt8)) (hl:l.length<=9223372036854775807) (s:List UInt8):callL CC 49 [.sl (strs l),.str s] []=some (.ret (.int .i64 (ixF 0 l s)),[]):=by
 rw [callL_enter (fn:=Try.f49) (c:=Try.f49.body.getD .skip) rfl rfl fat_slices_Index_string_string rfl ok_slices_Index_string_string (Nat.le_of_ble_eq_true rfl)]
 have hloop:=fun e=>loop_Index _ rfl l hl s l.length 0 e (by omega)
 have hln:=strs_length l
 rw [List.drop_zero] at hloop
 generalize ixF 0 l s=v at *
 generalize strs l=xs at *
 obtain ⟨ev,eo,so,co,⟨hev,hco⟩,R⟩:=RULES CC;rw [<- hev]
 rw [<- hev] at hloop
 simp only [fpart,part',Try.f49,Option.getD] at hloop ⊢
 simp (maxSteps:=5000000) only [SA,SB,SD,R,SF,seval,TG,SE,hln]
 generalize hE:ev _ _=z
 have hP:PIx v z:=by
  rw [<- hE]
  refine hloop _ ?_ ?_ ?_ ?_
  · simp (maxSteps:=5000000) only [SA,SB,SD,R,SF,seval]
  · simp (maxSteps:=5000000) only [SA,SB,SD,R,SF,seval]
  · simp (maxSteps:=5000000) only [SA,SB,SD,R,SF,seval]
  · simp (maxSteps:=5000000) only [SA,SB,SD,R,SF,seval] <;> rfl
 obtain ⟨e',⟨hv,he⟩ | ⟨he,g4⟩⟩:=hP
 · subst he
   subst hv
   simp (maxSteps:=5000000) only [SA,SB,SD,R,SF,seval,TG,SE]
 · subst he
   simp (maxSteps:=5000000) only [SA,SB,SD,R,SF,seval,TG,SE,g4]
theorem op_Index (l:List (List UInt8)) (hl:l.length<=9223372036854775807) (s:List UInt8) (bx):callOp CC (callL CC) 49 [.sl (strs l),.str s] bx=some (.ret (.int .i64 (ixF 0 l s)),bx):=callOp_of rfl (by simp only [SA,SE,strs_pure,Bool.and_true]) (call_Index l hl s) rfl
theorem call_names_Index (l:List (List UInt8)) (hl:l.length<=9223372036854775807) (s:List UInt8):callL CC 44 [.sl (strs l),.str s] []=some (.ret (.int .i64 (ixF 0 l s)),[]):=by
 rw [callL_enter (fn:=Try.f44) (c:=Try.f44.body.getD .skip) rfl rfl fat_names_Index rfl ok_names_Index (Nat.le_of_ble_eq_true rfl)]
 have h:=op_Index l hl s
 generalize ixF 0 l s=v at *
 generalize strs l=xs at *
 obtain ⟨ev,eo,so,co,⟨hev,hco⟩,R⟩:=RULES CC;rw [<- hev]
 rw [<- hco] at h
 simp only [fpart,part',Try.f44,Option.getD]
 simp (maxSteps:=5000000) only [SA,SB,SD,R,SF,seval,TG,SE,h]
theorem op_names_Index (l:List (List UInt8)) (hl:l.length<=9223372036854775807) (s:List UInt8) (bx):callOp CC (callL CC) 44 [.sl (strs l),.str s] bx=some (.ret (.int .i64 (ixF 0 l s)),bx):=callOp_of rfl (by simp only [SA,SE,strs_pure,Bool.and_true]) (call_names_Index l hl s) rfl
def mbF (l:List (List UInt8)):Nat->Nat->Int
 | 0,_=>0
 | k+1,i=>match l[i]? with
  | none=>0
  | some s=>if valB s=false then 10 else if memB (l.take i) s=true then 9 else mbF l k (i+1)
def mbV (l:List (List UInt8)):Int:=if l.length < 1∨64 < l.length then 3 else mbF l l.length 0
def PMb (v:Int) (r:Option (Ex×St)):Prop:=∃ e' bx',(v=0∧r=some (.exit 0,⟨e',bx'⟩))∨(r=some (.ret,⟨e',bx'⟩)∧getT e' 2=.int .i64 v)
theorem loop_members (L:Code) (hL:L=fpart Try.f51 [1,1,0,1,0]) (l:List (List UInt8)) (hl:l.length<=9223372036854775807):∀ (k i:Nat) (e:List PV) (bx:List PBox),i+k=l.length->getT e 0=.sl (strs l)->getT e 13=.sl (strs l)->getT e 14=.int .i64 l.length->getT e 15=.int .i64 i ->
 PMb (mbF l k i) (evL CC L ⟨e,bx⟩):=by
 intro k
 induction k with
 | zero=>
  intro i e bx hk h0 h13 h14 h15
  rw [evL_at (fpart Try.f51 [1,1,0,1,0,0]) hL]
  have hi:¬ ((i:Int) < (l.length:Int)):=by omega
  unfold mbF
  obtain ⟨ev,eo,so,co,⟨hev,hco⟩,R⟩:=RULES CC;rw [<- hev]
  simp only [fpart,part',Try.f51,Option.getD]
  simp (maxSteps:=5000000) only [SA,SB,SD,R,SF,seval,TG,SE,h14,h15,hi]
  exact ⟨_,_,.inl ⟨rfl,rfl⟩⟩
 | succ k ih=>
  intro i e bx hk h0 h13 h14 h15
  rw [evL_at (fpart Try.f51 [1,1,0,1,0,0]) hL]
  have hi:((i:Int) < (l.length:Int)):=by omega
  have hi0:¬ ((i:Int) < 0):=by omega
  have hx:l[i]?=some (l[i]'(by omega)):=by simp
  have hm:l[i]'(by omega) ∈ l:=List.getElem_mem _
  generalize l[i]'(by omega)=x at *
  have hx':=strs_get hx
  have hw2:=wrap_i64 (n:=(i:Int)+1) ⟨by omega,by omega⟩
  have key:=fun e bx=>ih (i+1) e bx (by omega)
  have cast1:((i+1:Nat):Int)=(i:Int)+1:=by omega
  rw [cast1] at key
  have hv:=op_names_Valid x
  have hix:=op_names_Index l hl x
  have hmm:=(ixF_mem l 0 i x hx).1
  rw [Nat.zero_add] at hmm
  unfold mbF
  simp only [hx]
  generalize mbF l k (i+1)=v at *
  generalize ixF 0 l x=j at *
  generalize memB (l.take i) x=mb at *
  generalize strs l=xs at *
  cases hb:valB x with
  | false=>
   rw [hb] at hv
   rw [if_pos rfl]
   obtain ⟨ev,eo,so,co,⟨hev,hco⟩,R⟩:=RULES CC;rw [<- hev]
   rw [<- hco] at hv
   simp only [fpart,part',Try.f51,Option.getD]
   simp (maxSteps:=5000000) only [SA,SB,SD,R,SF,seval,TG,SE,unP,h0,h13,h14,h15,hi,hi0,hx',hv,List.take_succ_cons,List.take_zero,Bool.not_false]
   exact ⟨_,_,.inr ⟨rfl,by simp (maxSteps:=5000000) only [SA,SB,SD,R,SF,seval]⟩⟩
  | true=>
   rw [hb] at hv
   rw [if_neg (by simp)]
   cases mb with
   | true=>
    have hlt:=of_decide_eq_true hmm
    rw [if_pos rfl]
    obtain ⟨ev,eo,so,co,⟨hev,hco⟩,R⟩:=RULES CC;rw [<- hev]
    rw [<- hco] at hv hix
    simp only [fpart,part',Try.f51,Option.getD]
    simp (maxSteps:=5000000) only [SA,SB,SD,R,SF,seval,TG,SE,unP,h0,h13,h14,h15,hi,hi0,hx',hv,hix,hlt,List.take_succ_cons,List.take_zero,Bool.not_true]
    exact ⟨_,_,.inr ⟨rfl,by simp (maxSteps:=5000000) only [SA,SB,SD,R,SF,seval]⟩⟩
   | false=>
    have hlt:=of_decide_eq_false hmm
    rw [if_neg (by simp)]
    obtain ⟨ev,eo,so,co,⟨hev,hco⟩,R⟩:=RULES CC;rw [<- hev]
    rw [<- hev] at key
    rw [<- hco] at hv hix
    simp only [fpart,part',Try.f51,Option.getD]
    simp (maxSteps:=5000000) only [SA,SB,SD,R,SF,seval,TG,SE,unP,h0,h13,h14,h15,hi,hi0,hx',hv,hix,hlt,hw2,List.take_succ_cons,List.take_zero,Bool.not_true]
    refine key _ _ ?_ ?_ ?_ ?_
    · simp (maxSteps:=5000000) only [SA,SB,SD,R,SF,seval,h0]
    · simp (maxSteps:=5000000) only [SA,SB,SD,R,SF,seval,h13]
    · simp (maxSteps:=5000000) only [SA,SB,SD,R,SF,seval,h14]
    · simp (maxSteps:=5000000) only [SA,SB,SD,R,SF,seval]
theorem call_value_members (l:List (List UInt8)):∃ bx,callL CC 51 [.sl (strs l)] []=some (.ret (.int .i64 (mbV l)),bx):=by
 rw [callL_enter (fn:=Try.f51) (c:=Try.f51.body.getD .skip) rfl rfl fat_value_members rfl ok_value_members (Nat.le_of_ble_eq_true rfl)]
 have hln:=strs_length l
 have hloop:=fun (h:l.length<=9223372036854775807) e bx=>loop_members _ rfl l h l.length 0 e bx (by omega)
 unfold mbV
 by_cases c1:(l.length:Int) < 1
 · rw [if_pos (by omega)]
   generalize strs l=xs at *
   obtain ⟨ev,eo,so,co,⟨hev,hco⟩,R⟩:=RULES CC;rw [<- hev]
   simp only [fpart,part',Try.f51,Option.getD]
   simp (maxSteps:=5000000) only [SA,SB,SD,R,SF,seval,TG,SE,hln,c1]
   exact ⟨_,rfl⟩
 · by_cases c2:(l.length:Int) > 64
   · rw [if_pos (by omega)]
     generalize strs l=xs at *
     obtain ⟨ev,eo,so,co,⟨hev,hco⟩,R⟩:=RULES CC;rw [<- hev]
     simp only [fpart,part',Try.f51,Option.getD]
     simp (maxSteps:=5000000) only [SA,SB,SD,R,SF,seval,TG,SE,hln,c1,c2]
     exact ⟨_,rfl⟩
   · rw [if_neg (by omega)]
     have hloop:=hloop (by omega)
     generalize mbF l l.length 0=v at *
     generalize strs l=xs at *
     obtain ⟨ev,eo,so,co,⟨hev,hco⟩,R⟩:=RULES CC;rw [<- hev]
     rw [<- hev] at hloop
     simp only [fpart,part',Try.f51,Option.getD] at hloop ⊢
     simp (maxSteps:=5000000) only [SA,SB,SD,R,SF,seval,TG,SE,hln,c1,c2]
     generalize hE:ev _ _=z
     have hP:PMb v z:=by
      rw [<- hE]
      refine hloop _ _ ?_ ?_ ?_ ?_
      · simp (maxSteps:=5000000) only [SA,SB,SD,R,SF,seval]
      · simp (maxSteps:=5000000) only [SA,SB,SD,R,SF,seval]
      · simp (maxSteps:=5000000) only [SA,SB,SD,R,SF,seval]
      · simp (maxSteps:=5000000) only [SA,SB,SD,R,SF,seval] <;> rfl
     obtain ⟨e',bx',⟨hv,he⟩ | ⟨he,g2⟩⟩:=hP
     · subst he
       subst hv
       simp (maxSteps:=5000000) only [SA,SB,SD,R,SF,seval,TG,SE]
       exact ⟨_,rfl⟩
     · subst he
       simp (maxSteps:=5000000) only [SA,SB,SD,R,SF,seval,TG,SE,g2]
       exact ⟨_,rfl⟩
theorem op_value_members (l:List (List UInt8)) (bx):callOp CC (callL CC) 51 [.sl (strs l)] bx=some (.ret (.int .i64 (mbV l)),bx):=by
 obtain ⟨b,h⟩:=call_value_members l
 exact callOp_of rfl (by simp only [SA,SE,strs_pure,Bool.and_true]) h rfl
end Go.HH
namespace Go.HH
open Go Go.Proofs
set_option maxRecDepth 100000
set_option maxHeartbeats 4000000
set_option linter.unusedSimpArgs false
set_option linter.unusedVariables false
theorem ok_value_Def:fnOK CC Try.f46 (Try.f46.body.getD .skip)=true:=by kernel_rfl
theorem fat_value_Def:CC.P.funcs[46]?=some Try.f46:=by kernel_rfl
structure At where
 nm:List UInt8
 kd:Int
 mn:Int
 mx:Int
 en:List (List UInt8)
 wr:Bool
 sf:Bool
def attV (a:At):PV:=.agg [.str a.nm,.int .i64 a.kd,.int .i64 a.mn,.int .i64 a.mx,.sl (strs a.en),.bool a.wr,.bool a.sf]
def okAt (a:At):Prop:=inI a.kd∧inI a.mn∧inI a.mx∧a.nm.length<=maxLen∧a.en.length<=maxLen
theorem hasV_att {p:PV} (h:HasV Try.prog 67 p):∃ a:At,p=attV a∧okAt a:=by
 have ht:Try.prog.underlying 67=some (.struct ((match Try.prog.underlying 67 with | some (.struct f)=>f | _=>#[]))):=by kernel_rfl
 have hl:((match Try.prog.underlying 67 with | some (.struct f)=>f | _=>#[]):Array Field).toList.map (fun f=>(f.type,f.offset))=[(9,0),(3,1),(3,2),(3,3),(46,4),(4,5),(4,6)]:=by kernel_rfl
 have c0:Try.prog.cellsOf 67=7:=by kernel_rfl
 have c1:Try.prog.cellsOf 3=1:=by kernel_rfl
 have c2:Try.prog.cellsOf 9=1:=by kernel_rfl
 have c3:Try.prog.cellsOf 46=1:=by kernel_rfl
 have c4:Try.prog.cellsOf 4=1:=by kernel_rfl
 have hus:Try.prog.underlying 46=some (.slice 9):=by kernel_rfl
 obtain ⟨n,cs,rfl,hlen,hf⟩:=hasV_struct ht hl h
 rw [c0] at hlen
 match cs,hlen with
 | [a,b,c,d,e,f,g],_=>
  have f0:=hf (9,0) (by simp)
  have f1:=hf (3,1) (by simp)
  have f2:=hf (3,2) (by simp)
  have f3:=hf (3,3) (by simp)
  have f4:=hf (46,4) (by simp)
  have f5:=hf (4,5) (by simp)
  have f6:=hf (4,6) (by simp)
  simp only [c1,c2,c3,c4] at f0 f1 f2 f3 f4 f5 f6
  obtain ⟨s,e0,h0⟩:=hasT_str (P:=Try.prog) Try.underlying9 f0
  obtain ⟨k,e1,h1⟩:=hasT_i64 (P:=Try.prog) Try.underlying3 f1
  obtain ⟨m,e2,h2⟩:=hasT_i64 (P:=Try.prog) Try.underlying3 f2
  obtain ⟨x,e3,h3⟩:=hasT_i64 (P:=Try.prog) Try.underlying3 f3
  obtain ⟨l,e4,h4,h4'⟩:=hasT_slice (P:=Try.prog) hus f4
  obtain ⟨p,e5⟩:=hasT_bool (P:=Try.prog) Try.underlying4 f5
  obtain ⟨q,e6⟩:=hasT_bool (P:=Try.prog) Try.underlying4 f6
  obtain ⟨l,rfl,_⟩:=list_of (f:=PV.str) (Q:=fun x:List UInt8=>x.length<=maxLen) l (fun x hx=>by
   obtain ⟨s,h5,h6⟩:=hasV_str (P:=Try.prog) Try.underlying9 (h4' x hx)
   exact ⟨s,h5,h6⟩)
  injection e0 with e0
  injection e1 with e1
  injection e2 with e2
  injection e3 with e3
  injection e4 with e4
  injection e5 with e5
  injection e6 with e6
  subst e0 e1 e2 e3 e4 e5 e6
  exact ⟨⟨s,k,m,x,l,p,q⟩,rfl,h1,h2,h3,h0,by simpa using h4⟩
theorem ATs:∃ f,CC.P.underlying 67=some (.struct f):=⟨(match Try.prog.underlying 67 with | some (.struct f)=>f | _=>#[]),by kernel_rfl⟩
theorem attV_pure (a:At):(attV a).pure=true:=by
 unfold attV
 simp only [SA,SE,strs_pure,Bool.and_true]
def bdB (a:At):Prop:=if a.kd=2 then ¬ (inR a.mn=true∧inR a.mx=true∧a.mn<=a.mx) else ¬ (a.mn=0∧a.mx=0)
noncomputable instance (a:At):Decidable (bdB a):=Classical.propDecidable _
noncomputable def dfV (a:At):Int:=if valB a.nm=false then 10 else if a.kd < 1∨4 < a.kd then 7 else if bdB a then 2 else if a.kd=3 then mbV a.en else if a.en.length > 0 then 4 else 0
theorem call_value_Def (a:At):∃ bx,callL CC 46 [attV a] []=some (.ret (.int .i64 (dfV a)),bx):=by
 rw [callL_enter (fn:=Try.f46) (c:=Try.f46.body.getD .skip) rfl rfl fat_value_Def rfl ok_value_Def (Nat.le_of_ble_eq_true rfl)]
 obtain ⟨nm,kd,mn,mx,en,wr,sf⟩:=a
 have hln:=strs_length en
 have hlen:True:=trivial
 obtain ⟨tu,htu⟩:=VLs
 obtain ⟨ta,hta⟩:=ATs
 have hv:=op_names_Valid nm
 have hmb:=op_value_members en
 have r1:=op_value_inRange mn
 have r2:=op_value_inRange mx
 unfold dfV bdB attV
 simp only
 generalize mbV en=mb at *
 generalize strs en=xs at *
 cases hb:valB nm with
 | false=>
  rw [hb] at hv
  rw [if_pos rfl]
  obtain ⟨ev,eo,so,co,⟨hev,hco⟩,R⟩:=RULES CC;rw [<- hev]
  rw [<- hco] at hv
  simp only [fpart,part',Try.f46,Option.getD]
  simp (maxSteps:=5000000) only [SA,SB,SD,R,SF,SG,seval,TG,SE,SC,htu,hta,hlen,hln,hv]
  exact ⟨_,rfl⟩
 | true=>
  rw [hb] at hv
  rw [if_neg (by simp)]
  by_cases k1:kd < 1
  · rw [if_pos (.inl k1)]
    obtain ⟨ev,eo,so,co,⟨hev,hco⟩,R⟩:=RULES CC;rw [<- hev]
    rw [<- hco] at hv
    simp only [fpart,part',Try.f46,Option.getD]
    simp (maxSteps:=5000000) only [SA,SB,SD,R,SF,SG,seval,TG,SE,SC,htu,hta,hlen,hln,hv,k1]
    exact ⟨_,rfl⟩
  by_cases k2:kd > 4
  · rw [if_pos (.inr k2)]
    obtain ⟨ev,eo,so,co,⟨hev,hco⟩,R⟩:=RULES CC;rw [<- hev]
    rw [<- hco] at hv
    simp only [fpart,part',Try.f46,Option.getD]
    simp (maxSteps:=5000000) only [SA,SB,SD,R,SF,SG,seval,TG,SE,SC,htu,hta,hlen,hln,hv,k1,k2]
    exact ⟨_,rfl⟩
  rw [if_neg (by omega)]
  by_cases k3:kd=2
  · subst k3
    simp only [if_true]
    have f23:¬ ((2:Int)=3):=by decide
    rw [if_neg f23]
    cases hm:inR mn with
    | false=>
     rw [hm] at r1
     rw [if_pos (by simp)]
     obtain ⟨ev,eo,so,co,⟨hev,hco⟩,R⟩:=RULES CC;rw [<- hev]
     rw [<- hco] at hv r1
     simp only [fpart,part',Try.f46,Option.getD]
     simp (maxSteps:=5000000) only [SA,SB,SD,R,SF,SG,seval,TG,SE,SC,htu,hta,hlen,hln,hv,r1]
     exact ⟨_,rfl⟩
    | true=>
     rw [hm] at r1
     cases hx:inR mx with
     | false=>
      rw [hx] at r2
      rw [if_pos (by simp)]
      obtain ⟨ev,eo,so,co,⟨hev,hco⟩,R⟩:=RULES CC;rw [<- hev]
      rw [<- hco] at hv r1 r2
      simp only [fpart,part',Try.f46,Option.getD]
      simp (maxSteps:=5000000) only [SA,SB,SD,R,SF,SG,seval,TG,SE,SC,htu,hta,hlen,hln,hv,r1,r2]
      exact ⟨_,rfl⟩
     | true=>
      rw [hx] at r2
      by_cases c:mn > mx
      · rw [if_pos (by rintro ⟨_,_,h⟩;omega)]
        obtain ⟨ev,eo,so,co,⟨hev,hco⟩,R⟩:=RULES CC;rw [<- hev]
        rw [<- hco] at hv r1 r2
        simp only [fpart,part',Try.f46,Option.getD]
        simp (maxSteps:=5000000) only [SA,SB,SD,R,SF,SG,seval,TG,SE,SC,htu,hta,hlen,hln,hv,r1,r2,c]
        exact ⟨_,rfl⟩
      · rw [if_neg (fun h=>h ⟨rfl,rfl,by omega⟩)]
        by_cases d:(en.length:Int) > 0
        · rw [if_pos (by omega)]
          obtain ⟨ev,eo,so,co,⟨hev,hco⟩,R⟩:=RULES CC;rw [<- hev]
          rw [<- hco] at hv r1 r2
          simp only [fpart,part',Try.f46,Option.getD]
          simp (maxSteps:=5000000) only [SA,SB,SD,R,SF,SG,seval,TG,SE,SC,htu,hta,hlen,hln,hv,r1,r2,c,d]
          exact ⟨_,rfl⟩
        · rw [if_neg (by omega)]
          obtain ⟨ev,eo,so,co,⟨hev,hco⟩,R⟩:=RULES CC;rw [<- hev]
          rw [<- hco] at hv r1 r2
          simp only [fpart,part',Try.f46,Option.getD]
          simp (maxSteps:=5000000) only [SA,SB,SD,R,SF,SG,seval,TG,SE,SC,htu,hta,hlen,hln,hv,r1,r2,c,d]
          exact ⟨_,rfl⟩
  · have k3':(kd == 2)=false:=by simpa using k3
    simp only [if_neg k3]
    by_cases m1:mn=0
    · have m1':(mn != 0)=false:=by simp [m1]
      by_cases m2:mx=0
      · have m2':(mx != 0)=false:=by simp [m2]
        rw [if_neg (fun h=>h ⟨m1,m2⟩)]
        by_cases k4:kd=3
        · have k4':(kd == 3)=true:=by simpa using k4
          rw [if_pos k4]
          obtain ⟨ev,eo,so,co,⟨hev,hco⟩,R⟩:=RULES CC;rw [<- hev]
          rw [<- hco] at hv hmb
          simp only [fpart,part',Try.f46,Option.getD]
          simp (maxSteps:=5000000) only [SA,SB,SD,R,SF,SG,seval,TG,SE,SC,htu,hta,hlen,hln,hv,hmb,k1,k2,k3',k4',m1',m2']
          exact ⟨_,rfl⟩
        · have k4':(kd == 3)=false:=by simpa using k4
          rw [if_neg k4]
          by_cases d:(en.length:Int) > 0
          · rw [if_pos (by omega)]
            obtain ⟨ev,eo,so,co,⟨hev,hco⟩,R⟩:=RULES CC;rw [<- hev]
            rw [<- hco] at hv
            simp only [fpart,part',Try.f46,Option.getD]
            simp (maxSteps:=5000000) only [SA,SB,SD,R,SF,SG,seval,TG,SE,SC,htu,hta,hlen,hln,hv,k1,k2,k3',k4',m1',m2',d]
            exact ⟨_,rfl⟩
          · rw [if_neg (by omega)]
            obtain ⟨ev,eo,so,co,⟨hev,hco⟩,R⟩:=RULES CC;rw [<- hev]
            rw [<- hco] at hv
            simp only [fpart,part',Try.f46,Option.getD]
            simp (maxSteps:=5000000) only [SA,SB,SD,R,SF,SG,seval,TG,SE,SC,htu,hta,hlen,hln,hv,k1,k2,k3',k4',m1',m2',d]
            exact ⟨_,rfl⟩
      · have m2':(mx != 0)=true:=by simp [m2]
        rw [if_pos (fun h=>m2 h.2)]
        obtain ⟨ev,eo,so,co,⟨hev,hco⟩,R⟩:=RULES CC;rw [<- hev]
        rw [<- hco] at hv
        simp only [fpart,part',Try.f46,Option.getD]
        simp (maxSteps:=5000000) only [SA,SB,SD,R,SF,SG,seval,TG,SE,SC,htu,hta,hlen,hln,hv,k1,k2,k3',m1',m2']
        exact ⟨_,rfl⟩
    · have m1':(mn != 0)=true:=by simp [m1]
      rw [if_pos (fun h=>m1 h.1)]
      obtain ⟨ev,eo,so,co,⟨hev,hco⟩,R⟩:=RULES CC;rw [<- hev]
      rw [<- hco] at hv
      simp only [fpart,part',Try.f46,Option.getD]
      simp (maxSteps:=5000000) only [SA,SB,SD,R,SF,SG,seval,TG,SE,SC,htu,hta,hlen,hln,hv,k1,k2,k3',m1']
      exact ⟨_,rfl⟩
theorem op_value_Def (a:At) (bx):callOp CC (callL CC) 46 [attV a] bx=some (.ret (.int .i64 (dfV a)),bx):=by
 obtain ⟨b,h⟩:=call_value_Def a
 exact callOp_of rfl (by show ((attV a).pure && true)=true;rw [attV_pure] <;> rfl) h rfl
theorem ok_value_Fits:fnOK CC Try.f58 (Try.f58.body.getD .skip)=true:=by kernel_rfl
theorem fat_value_Fits:CC.P.funcs[58]?=some Try.f58:=by kernel_rfl
noncomputable def ftV (a:At) (v:Vl):Int:=if dfV a≠0 then dfV a else if ckV v≠0 then ckV v else if v.1≠a.kd then 11 else
 if (v.1=2∧(v.2.1 < a.mn∨v.2.1 > a.mx))∨(v.1=3∧v.2.1 ≥ (a.en.length:Int)) then 2 else 0
theorem call_value_Fits (a:At) (v:Vl):∃ bx,callL CC 58 [attV a,vlV v] []=some (.ret (.int .i64 (ftV a v)),bx):=by
 rw [callL_enter (fn:=Try.f58) (c:=Try.f58.body.getD .skip) rfl rfl fat_value_Fits rfl ok_value_Fits (Nat.le_of_ble_eq_true rfl)]
 have hd:=op_value_Def a
 have hk:=op_value_Check v
 unfold ftV
 generalize dfV a=d at *
 generalize ckV v=c at *
 obtain ⟨nm,kd,mn,mx,en,wr,sf⟩:=a
 obtain ⟨k,n,s⟩:=v
 unfold attV at *
 unfold vlV at *
 simp only at *
 have hln:=strs_length en
 have hpu:=strs_pure en
 have hz:True:=trivial
 obtain ⟨tu,htu⟩:=VLs
 obtain ⟨ta,hta⟩:=ATs
 generalize strs en=xs at *
 by_cases d0:d=0
 · have d0':(d != 0)=false:=by simp [d0]
   rw [if_neg (fun h=>h d0)]
   by_cases c0:c=0
   · have c0':(c != 0)=false:=by simp [c0]
     rw [if_neg (fun h=>h c0)]
     by_cases e:k=kd
     · subst e
       have e':(k != k)=false:=by simp
       rw [if_neg (fun h=>h rfl)]
       by_cases k2:k=2
       · subst k2
         by_cases n1:n < mn
         · rw [if_pos (.inl ⟨rfl,.inl n1⟩)]
           obtain ⟨ev,eo,so,co,⟨hev,hco⟩,R⟩:=RULES CC;rw [<- hev]
           rw [<- hco] at hd hk
           simp only [fpart,part',Try.f58,Option.getD]
           simp (maxSteps:=5000000) only [SA,SB,SD,R,SF,SG,SH,seval,TG,SE,SC,htu,hta,hz,List.set_cons_zero,List.set_cons_succ,hd,hk,d0',c0',e',n1,hpu]
           exact ⟨_,rfl⟩
         · by_cases n2:n > mx
           · rw [if_pos (.inl ⟨rfl,.inr n2⟩)]
             obtain ⟨ev,eo,so,co,⟨hev,hco⟩,R⟩:=RULES CC;rw [<- hev]
             rw [<- hco] at hd hk
             simp only [fpart,part',Try.f58,Option.getD]
             simp (maxSteps:=5000000) only [SA,SB,SD,R,SF,SG,SH,seval,TG,SE,SC,htu,hta,hz,List.set_cons_zero,List.set_cons_succ,hd,hk,d0',c0',e',n1,n2,hpu]
             exact ⟨_,rfl⟩
           · rw [if_neg (by rintro (⟨_,h | h⟩ | ⟨h,_⟩) <;> omega)]
             obtain ⟨ev,eo,so,co,⟨hev,hco⟩,R⟩:=RULES CC;rw [<- hev]
             rw [<- hco] at hd hk
             simp only [fpart,part',Try.f58,Option.getD]
             simp (maxSteps:=5000000) only [SA,SB,SD,R,SF,SG,SH,seval,TG,SE,SC,htu,hta,hz,List.set_cons_zero,List.set_cons_succ,hd,hk,d0',c0',e',n1,n2,hpu]
             exact ⟨_,rfl⟩
       · have k2':(k == 2)=false:=by simpa using k2
         by_cases k3:k=3
         · subst k3
           by_cases n1:n ≥ (en.length:Int)
           · rw [if_pos (.inr ⟨rfl,n1⟩)]
             obtain ⟨ev,eo,so,co,⟨hev,hco⟩,R⟩:=RULES CC;rw [<- hev]
             rw [<- hco] at hd hk
             simp only [fpart,part',Try.f58,Option.getD]
             simp (maxSteps:=5000000) only [SA,SB,SD,R,SF,SG,SH,seval,TG,SE,SC,htu,hta,hz,List.set_cons_zero,List.set_cons_succ,hd,hk,d0',c0',e',n1,hln,hpu]
             exact ⟨_,rfl⟩
           · rw [if_neg (by rintro (⟨h,_⟩ | ⟨_,h⟩) <;> omega)]
             obtain ⟨ev,eo,so,co,⟨hev,hco⟩,R⟩:=RULES CC;rw [<- hev]
             rw [<- hco] at hd hk
             simp only [fpart,part',Try.f58,Option.getD]
             simp (maxSteps:=5000000) only [SA,SB,SD,R,SF,SG,SH,seval,TG,SE,SC,htu,hta,hz,List.set_cons_zero,List.set_cons_succ,hd,hk,d0',c0',e',n1,hln,hpu]
             exact ⟨_,rfl⟩
         · have k3':(k == 3)=false:=by simpa using k3
           rw [if_neg (by rintro (⟨h,_⟩ | ⟨h,_⟩) <;> omega)]
           obtain ⟨ev,eo,so,co,⟨hev,hco⟩,R⟩:=RULES CC;rw [<- hev]
           rw [<- hco] at hd hk
           simp only [fpart,part',Try.f58,Option.getD]
           simp (maxSteps:=5000000) only [SA,SB,SD,R,SF,SG,SH,seval,TG,SE,SC,htu,hta,hz,List.set_cons_zero,List.set_cons_succ,hd,hk,d0',c0',e',k2',k3',hpu]
           exact ⟨_,rfl⟩
     · have e':(k != kd)=true:=by simpa using e
       rw [if_pos e]
       obtain ⟨ev,eo,so,co,⟨hev,hco⟩,R⟩:=RULES CC;rw [<- hev]
       rw [<- hco] at hd hk
       simp only [fpart,part',Try.f58,Option.getD]
       simp (maxSteps:=5000000) only [SA,SB,SD,R,SF,SG,SH,seval,TG,SE,SC,htu,hta,hz,List.set_cons_zero,List.set_cons_succ,hd,hk,d0',c0',e',hpu]
       exact ⟨_,rfl⟩
   · have c0':(c != 0)=true:=by simpa using c0
     rw [if_pos c0]
     obtain ⟨ev,eo,so,co,⟨hev,hco⟩,R⟩:=RULES CC;rw [<- hev]
     rw [<- hco] at hd hk
     simp only [fpart,part',Try.f58,Option.getD]
     simp (maxSteps:=5000000) only [SA,SB,SD,R,SF,SG,SH,seval,TG,SE,SC,htu,hta,hz,List.set_cons_zero,List.set_cons_succ,hd,hk,d0',c0',hpu]
     exact ⟨_,rfl⟩
 · have d0':(d != 0)=true:=by simpa using d0
   rw [if_pos d0]
   obtain ⟨ev,eo,so,co,⟨hev,hco⟩,R⟩:=RULES CC;rw [<- hev]
   rw [<- hco] at hd
   simp only [fpart,part',Try.f58,Option.getD]
   simp (maxSteps:=5000000) only [SA,SB,SD,R,SF,SG,SH,seval,TG,SE,SC,htu,hta,hz,List.set_cons_zero,List.set_cons_succ,hd,d0',hpu]
   exact ⟨_,rfl⟩
theorem op_value_Fits (a:At) (v:Vl) (bx):callOp CC (callL CC) 58 [attV a,vlV v] bx=some (.ret (.int .i64 (ftV a v)),bx):=by
 obtain ⟨b,h⟩:=call_value_Fits a v
 exact callOp_of rfl (by show ((attV a).pure && ((vlV v).pure && true))=true;rw [attV_pure] <;> rfl) h rfl
end Go.HH
