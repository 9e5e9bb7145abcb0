/-
  What the law needs, packed: N0 C0 Q1.
-/
import Derived.Test.YthjabmlbmnadjaaGreatProg
import Derived.Lib.ItoaNum
import Derived.Lib.Bytealg
import Derived.KernelRfl
import Derived.Test.YthjabmlbmnadjaaGreatJ30
open Option renaming getD->yW
open Go.Proofs.Tryz renaming f124->yX,f112->yY,f105->yZ,f59->y5,prog->y8,f120->y9,f100->y'
open Bool renaming false_and->y0,not_false->y1,true_and->y2,not_true->y3,and_true->za
open List renaming set_cons_zero->y4,drop_zero->ze,drop_eq_getElem_cons->zf,drop_eq_nil_of_le->zg
open Nat renaming le_of_ble_eq_true->y6,add_zero->zh
open And renaming intro->y7
open Go.Utf8 renaming decode->zd
namespace Go.HH
open Go
open Go Go.Proofs
set_option maxRecDepth 100000
def gl:List PV->Option PV
 | [.str s,.int .u8 c]=>some (.int .i64 (Lib.indexByte s c.toNat.toUInt8))
 | _=>none
def qb:Nat->Option (List PV):=
 fun _=>none
def cu (f:FuncId):Option (List PV->Option PV):=
 if f=116 then some gl else
 none
def sE:List PV->List PBox->Option (Bool×PV×List PBox)
 | [.bp id 0],bx=>match bx[id]? with
  | some (.cells t [.nilp,q])=>if t=135 then some (false,.tup [],bx.set id (.cells t [.bp id 0,q])) else none
  | some (.cells t [.bp id' 0,q])=>if id'=id/\t=135 then some (false,.tup [],bx) else none
  | _=>none
 | _,_=>none
def Wh:PV->Bool
 | .int .u8 n=>decide (0<=n) && decide (n < 256)
 | _=>false
def Qr:List PV->List PBox->Option (Bool×PV×List PBox)
 | [.bp id 0],bx=>match bx[id]? with
  | some (.cells t [_,.nils])=>if t=135 then some (false,.str [],bx) else none
  | some (.cells t [p,.osl e xs])=>if t=135/\e=5/\xs.isEmpty=false/\xs.all Wh=true then (bytesOf xs).map fun l=>(false,.str l,bx.set id (.cells t [p,.sl xs])) else none
  | _=>none
 | _,_=>none
def nc (f:FuncId):Option (List PV->List PBox->Option (Bool×PV×List PBox)):=
 if f=139 then some sE else if f=132 then some Qr else
 none
def jK (f:FuncId):Bool:=
 if f=17 then true else
 false
def gm:List PV->PV
 | [x]=>x.ro.shutV
 | _=>.nils
def cw (cs:List PV):PV:=(PV.agg (cs.map PV.ro)).shutV
def Cq:List PV:=[.int .i64 0,.int .i64 0,.int .i64 0,.str [],.int .i64 0,.int .i64 0,.str [],.int .i64 0,.str [],.str [],.nils]
def Gp (s:List UInt8):List PV:=[.str s,und,.bp 0 0,.bp 1 0,.bp 2 0]
noncomputable def Ml:Cat:=⟨Ac [1,1] (Tryz.f6.body.getD .skip),W7 16 Gp [.cells 23 [.nils],.cells 3 [.int .i64 0],.cells 24 [.int .i64 0]],JQ 54 1 [.osl 52 []] gm⟩
noncomputable def Mm:Cat:=⟨Ac [1,1] (Tryz.f9.body.getD .skip),W7 26 Gp [.cells 35 Cq,.cells 3 [.int .i64 0],.cells 24 [.int .i64 0]],JQ 54 11 Cq cw⟩
noncomputable def jL (f:FuncId):Option Cat:=
 if f=6 then some Ml else if f=9 then some Mm else
 none
noncomputable def CC:Cfg:={ P:=y8,glob:=qb,prim:=cu,heap:=jK,hprim:=nc,cat:=jL }
noncomputable def GZ:=(Zj CC).choose
noncomputable def ym:=(Zj CC).choose_spec.choose
noncomputable def yn:=(Zj CC).choose_spec.choose_spec.choose
noncomputable def ph:=(Zj CC).choose_spec.choose_spec.choose_spec.choose
theorem wB:(GZ=Cp CC/\ph=Ak CC (Ae CC))/\sD CC GZ ym yn ph:=(Zj CC).choose_spec.choose_spec.choose_spec.choose_spec
theorem Am:GZ=Cp CC:=wB.1.1
theorem AK:ph=Ak CC (Ae CC):=wB.1.2
theorem Ag:sD CC GZ ym yn ph:=wB.2
noncomputable def Zk:=(Pm CC).choose
noncomputable def Rw:=(Pm CC).choose_spec.choose
noncomputable def vK:=(Pm CC).choose_spec.choose_spec.choose
noncomputable def yp:=(Pm CC).choose_spec.choose_spec.choose_spec.choose
noncomputable def JG:=(Pm CC).choose_spec.choose_spec.choose_spec.choose_spec.choose
theorem tc:(Rw=Hg CC/\JG=Ak CC (Ae CC)/\vK=evOps CC (Ae CC)/\Zk=GX CC (Ae CC))/\wA CC Zk Rw vK yp JG:=(Pm CC).choose_spec.choose_spec.choose_spec.choose_spec.choose_spec
theorem B5:Rw=Hg CC:=tc.1.1
theorem Cu:JG=Ak CC (Ae CC):=tc.1.2.1
theorem Ih:vK=evOps CC (Ae CC):=tc.1.2.2.1
theorem Fm:Zk=GX CC (Ae CC):=tc.1.2.2.2
theorem AT:wA CC Zk Rw vK yp JG:=tc.2
noncomputable def vL:=(Nl CC).choose
noncomputable def vM:=(Nl CC).choose_spec.choose
noncomputable def vN:=(Nl CC).choose_spec.choose_spec.choose
noncomputable def vO:=(Nl CC).choose_spec.choose_spec.choose_spec.choose
theorem td:(vL=Cp CC/\vO=Ak CC (Ae CC)/\vM=evOps CC (Ae CC)/\vN=BR CC (Ae CC))/\sD CC vL vM vN vO:=(Nl CC).choose_spec.choose_spec.choose_spec.choose_spec
theorem yU:vL=Cp CC:=td.1.1
theorem yq:vO=Ak CC (Ae CC):=td.1.2.1
theorem yV:vM=evOps CC (Ae CC):=td.1.2.2.1
theorem Gh:vN=BR CC (Ae CC):=td.1.2.2.2
theorem Gi:sD CC vL vM vN vO:=td.2
theorem jM (f:FuncId):CC.heap f=(f == 17):=by
 show jK f=_;unfold jK;by_cases h17:f=17
 · subst h17;rfl
 simp [h17]
theorem tf:Bh CC 1=false/\CC.P.underlying 2=some (.int .i64)/\tAgg CC 2=false/\Bh CC 2=false/\A5 CC 2=true/\tSize CC 2=some 1/\(CC.P.info? 2).isSome=true/\CC.P.underlying 3=some (.int .i64)/\tAgg CC 3=false/\Bh CC 3=false/\A5 CC 3=true/\tSize CC 3=some 1/\(CC.P.info? 3).isSome=true/\CC.P.underlying 4=some .bool/\tAgg CC 4=false/\Bh CC 4=false/\A5 CC 4=true/\tSize CC 4=some 1/\(CC.P.info? 4).isSome=true/\CC.P.underlying 5=some (.int .u8)/\tAgg CC 5=false/\Bh CC 5=false/\A5 CC 5=true/\tSize CC 5=some 1/\(CC.P.info? 5).isSome=true/\CC.P.underlying 9=some .string/\tAgg CC 9=false/\Bh CC 9=false/\A5 CC 9=true/\tSize CC 9=some 1/\(CC.P.info? 9).isSome=true/\CC.P.underlying 12=some (.int .u64)/\tAgg CC 12=false/\Bh CC 12=false/\A5 CC 12=true/\tSize CC 12=some 1/\(CC.P.info? 12).isSome=true/\tAgg CC 20=false/\Bh CC 20=false/\A5 CC 20=true:=by
 repeat' apply y7
 all_goals (intros;kernel_rfl)
theorem tg:tSize CC 20=some 1/\CC.P.underlying 21=some (.int .i32)/\tAgg CC 21=false/\Bh CC 21=false/\A5 CC 21=true/\tSize CC 21=some 1/\(CC.P.info? 21).isSome=true/\Bh CC 22=false/\CC.P.underlying 23=some (.slice 52)/\Sg CC 23=.osl 52 []/\tAgg CC 23=false/\Bh CC 23=false/\A5 CC 23=false/\tSize CC 23=some 1/\(CC.P.info? 23).isSome=true/\CC.P.underlying 24=some (.int .i64)/\tAgg CC 24=false/\Bh CC 24=false/\A5 CC 24=true/\tSize CC 24=some 1/\(CC.P.info? 24).isSome=true/\Bh CC 26=false/\Bh CC 27=false/\Bh CC 28=false/\tAgg CC 30=true/\Bh CC 30=false/\A5 CC 30=true/\tSize CC 30=some 3/\(CC.P.info? 30).isSome=true/\(∀ cs,AH CC 30 0 (.ip cs)=some (.ip (cs.drop 0)))/\(∀ i o,AH CC 30 0 (.bp i o)=some (.bp i (o+0)))/\(∀ cs,Bu CC 30 0 (.agg cs)=BV CC 3 cs 0)/\(∀ cs,AH CC 30 1 (.ip cs)=some (.ip (cs.drop 1)))/\(∀ i o,AH CC 30 1 (.bp i o)=some (.bp i (o+1)))/\(∀ cs,Bu CC 30 1 (.agg cs)=BV CC 3 cs 1)/\(∀ cs,AH CC 30 2 (.ip cs)=some (.ip (cs.drop 2)))/\(∀ i o,AH CC 30 2 (.bp i o)=some (.bp i (o+2)))/\(∀ cs,Bu CC 30 2 (.agg cs)=BV CC 9 cs 2)/\tAgg CC 32=true/\Bh CC 32=false:=by
 repeat' apply y7
 all_goals (intros;kernel_rfl)
theorem th:A5 CC 32=true/\tSize CC 32=some 3/\(CC.P.info? 32).isSome=true/\(∀ cs,AH CC 32 0 (.ip cs)=some (.ip (cs.drop 0)))/\(∀ i o,AH CC 32 0 (.bp i o)=some (.bp i (o+0)))/\(∀ cs,Bu CC 32 0 (.agg cs)=BV CC 3 cs 0)/\(∀ cs,AH CC 32 1 (.ip cs)=some (.ip (cs.drop 1)))/\(∀ i o,AH CC 32 1 (.bp i o)=some (.bp i (o+1)))/\(∀ cs,Bu CC 32 1 (.agg cs)=BV CC 9 cs 1)/\(∀ cs,AH CC 32 2 (.ip cs)=some (.ip (cs.drop 2)))/\(∀ i o,AH CC 32 2 (.bp i o)=some (.bp i (o+2)))/\(∀ cs,Bu CC 32 2 (.agg cs)=BV CC 9 cs 2)/\CC.P.underlying 33=some (.slice 35)/\Sg CC 33=.osl 35 []/\tAgg CC 33=false/\Bh CC 33=false/\A5 CC 33=false/\tSize CC 33=some 1/\(CC.P.info? 33).isSome=true/\tAgg CC 35=true/\Bh CC 35=false/\A5 CC 35=true/\tSize CC 35=some 11/\(CC.P.info? 35).isSome=true/\(∀ cs,AH CC 35 0 (.ip cs)=some (.ip (cs.drop 0)))/\(∀ i o,AH CC 35 0 (.bp i o)=some (.bp i (o+0)))/\(∀ cs,Bu CC 35 0 (.agg cs)=BV CC 3 cs 0)/\(∀ cs,AH CC 35 1 (.ip cs)=some (.ip (cs.drop 1)))/\(∀ i o,AH CC 35 1 (.bp i o)=some (.bp i (o+1)))/\(∀ cs,Bu CC 35 1 (.agg cs)=BV CC 3 cs 1)/\(∀ cs,AH CC 35 2 (.ip cs)=some (.ip (cs.drop 2)))/\(∀ i o,AH CC 35 2 (.bp i o)=some (.bp i (o+2)))/\(∀ cs,Bu CC 35 2 (.agg cs)=BV CC 3 cs 2)/\(∀ cs,AH CC 35 3 (.ip cs)=some (.ip (cs.drop 3)))/\(∀ i o,AH CC 35 3 (.bp i o)=some (.bp i (o+3)))/\(∀ cs,Bu CC 35 3 (.agg cs)=BV CC 9 cs 3)/\(∀ cs,AH CC 35 4 (.ip cs)=some (.ip (cs.drop 4)))/\(∀ i o,AH CC 35 4 (.bp i o)=some (.bp i (o+4)))/\(∀ cs,Bu CC 35 4 (.agg cs)=BV CC 30 cs 4)/\(∀ cs,AH CC 35 5 (.ip cs)=some (.ip (cs.drop 7))):=by
 repeat' apply y7
 all_goals (intros;kernel_rfl)
theorem ti:(∀ i o,AH CC 35 5 (.bp i o)=some (.bp i (o+7)))/\(∀ cs,Bu CC 35 5 (.agg cs)=BV CC 32 cs 7)/\(∀ cs,AH CC 35 6 (.ip cs)=some (.ip (cs.drop 10)))/\(∀ i o,AH CC 35 6 (.bp i o)=some (.bp i (o+10)))/\(∀ cs,Bu CC 35 6 (.agg cs)=BV CC 33 cs 10)/\Bh CC 37=false/\Bh CC 38=false/\Bh CC 39=false/\Bh CC 40=false/\Bh CC 41=false/\Bh CC 42=false/\tAgg CC 44=true/\Bh CC 44=false/\A5 CC 44=true/\tSize CC 44=some 3/\(CC.P.info? 44).isSome=true/\(∀ cs,AH CC 44 0 (.ip cs)=some (.ip (cs.drop 0)))/\(∀ i o,AH CC 44 0 (.bp i o)=some (.bp i (o+0)))/\(∀ cs,Bu CC 44 0 (.agg cs)=BV CC 3 cs 0)/\(∀ cs,AH CC 44 1 (.ip cs)=some (.ip (cs.drop 1)))/\(∀ i o,AH CC 44 1 (.bp i o)=some (.bp i (o+1)))/\(∀ cs,Bu CC 44 1 (.agg cs)=BV CC 9 cs 1)/\(∀ cs,AH CC 44 2 (.ip cs)=some (.ip (cs.drop 2)))/\(∀ i o,AH CC 44 2 (.bp i o)=some (.bp i (o+2)))/\(∀ cs,Bu CC 44 2 (.agg cs)=BV CC 9 cs 2)/\tAgg CC 46=true/\Bh CC 46=false/\A5 CC 46=true/\tSize CC 46=some 10/\(CC.P.info? 46).isSome=true/\(∀ cs,AH CC 46 0 (.ip cs)=some (.ip (cs.drop 0)))/\(∀ i o,AH CC 46 0 (.bp i o)=some (.bp i (o+0)))/\(∀ cs,Bu CC 46 0 (.agg cs)=BV CC 3 cs 0)/\(∀ cs,AH CC 46 1 (.ip cs)=some (.ip (cs.drop 1)))/\(∀ i o,AH CC 46 1 (.bp i o)=some (.bp i (o+1)))/\(∀ cs,Bu CC 46 1 (.agg cs)=BV CC 32 cs 1)/\(∀ cs,AH CC 46 2 (.ip cs)=some (.ip (cs.drop 4)))/\(∀ i o,AH CC 46 2 (.bp i o)=some (.bp i (o+4)))/\(∀ cs,Bu CC 46 2 (.agg cs)=BV CC 44 cs 4)/\(∀ cs,AH CC 46 3 (.ip cs)=some (.ip (cs.drop 7))):=by
 repeat' apply y7
 all_goals (intros;kernel_rfl)
theorem tj:(∀ i o,AH CC 46 3 (.bp i o)=some (.bp i (o+7)))/\(∀ cs,Bu CC 46 3 (.agg cs)=BV CC 9 cs 7)/\(∀ cs,AH CC 46 4 (.ip cs)=some (.ip (cs.drop 8)))/\(∀ i o,AH CC 46 4 (.bp i o)=some (.bp i (o+8)))/\(∀ cs,Bu CC 46 4 (.agg cs)=BV CC 3 cs 8)/\(∀ cs,AH CC 46 5 (.ip cs)=some (.ip (cs.drop 9)))/\(∀ i o,AH CC 46 5 (.bp i o)=some (.bp i (o+9)))/\(∀ cs,Bu CC 46 5 (.agg cs)=BV CC 3 cs 9)/\CC.P.underlying 47=some (.slice 46)/\Sg CC 47=.osl 46 []/\tAgg CC 47=false/\Bh CC 47=false/\A5 CC 47=false/\tSize CC 47=some 1/\(CC.P.info? 47).isSome=true/\tAgg CC 49=true/\Bh CC 49=false/\A5 CC 49=true/\tSize CC 49=some 16/\(CC.P.info? 49).isSome=true/\(∀ cs,AH CC 49 0 (.ip cs)=some (.ip (cs.drop 0)))/\(∀ i o,AH CC 49 0 (.bp i o)=some (.bp i (o+0)))/\(∀ cs,Bu CC 49 0 (.agg cs)=BV CC 3 cs 0)/\(∀ cs,AH CC 49 1 (.ip cs)=some (.ip (cs.drop 1)))/\(∀ i o,AH CC 49 1 (.bp i o)=some (.bp i (o+1)))/\(∀ cs,Bu CC 49 1 (.agg cs)=BV CC 32 cs 1)/\(∀ cs,AH CC 49 2 (.ip cs)=some (.ip (cs.drop 4)))/\(∀ i o,AH CC 49 2 (.bp i o)=some (.bp i (o+4)))/\(∀ cs,Bu CC 49 2 (.agg cs)=BV CC 9 cs 4)/\(∀ cs,AH CC 49 3 (.ip cs)=some (.ip (cs.drop 5)))/\(∀ i o,AH CC 49 3 (.bp i o)=some (.bp i (o+5)))/\(∀ cs,Bu CC 49 3 (.agg cs)=BV CC 35 cs 5)/\CC.P.underlying 50=some (.slice 49)/\Sg CC 50=.osl 49 []/\tAgg CC 50=false/\Bh CC 50=false/\A5 CC 50=false/\tSize CC 50=some 1/\(CC.P.info? 50).isSome=true/\tAgg CC 52=true:=by
 repeat' apply y7
 all_goals (intros;kernel_rfl)
theorem tn:Bh CC 52=false/\A5 CC 52=true/\tSize CC 52=some 15/\(CC.P.info? 52).isSome=true/\(∀ cs,AH CC 52 0 (.ip cs)=some (.ip (cs.drop 0)))/\(∀ i o,AH CC 52 0 (.bp i o)=some (.bp i (o+0)))/\(∀ cs,Bu CC 52 0 (.agg cs)=BV CC 9 cs 0)/\(∀ cs,AH CC 52 1 (.ip cs)=some (.ip (cs.drop 1)))/\(∀ i o,AH CC 52 1 (.bp i o)=some (.bp i (o+1)))/\(∀ cs,Bu CC 52 1 (.agg cs)=BV CC 3 cs 1)/\(∀ cs,AH CC 52 2 (.ip cs)=some (.ip (cs.drop 2)))/\(∀ i o,AH CC 52 2 (.bp i o)=some (.bp i (o+2)))/\(∀ cs,Bu CC 52 2 (.agg cs)=BV CC 47 cs 2)/\(∀ cs,AH CC 52 3 (.ip cs)=some (.ip (cs.drop 3)))/\(∀ i o,AH CC 52 3 (.bp i o)=some (.bp i (o+3)))/\(∀ cs,Bu CC 52 3 (.agg cs)=BV CC 35 cs 3)/\(∀ cs,AH CC 52 4 (.ip cs)=some (.ip (cs.drop 14)))/\(∀ i o,AH CC 52 4 (.bp i o)=some (.bp i (o+14)))/\(∀ cs,Bu CC 52 4 (.agg cs)=BV CC 50 cs 14)/\tAgg CC 54=true/\Bh CC 54=false/\A5 CC 54=true/\tSize CC 54=some 2/\(CC.P.info? 54).isSome=true/\(∀ cs,AH CC 54 0 (.ip cs)=some (.ip (cs.drop 0)))/\(∀ i o,AH CC 54 0 (.bp i o)=some (.bp i (o+0)))/\(∀ cs,Bu CC 54 0 (.agg cs)=BV CC 3 cs 0)/\(∀ cs,AH CC 54 1 (.ip cs)=some (.ip (cs.drop 1)))/\(∀ i o,AH CC 54 1 (.bp i o)=some (.bp i (o+1)))/\(∀ cs,Bu CC 54 1 (.agg cs)=BV CC 24 cs 1)/\CC.P.underlying 56=some (.pointer 63)/\tAgg CC 56=false/\Bh CC 56=true/\A5 CC 56=true/\tSize CC 56=some 1/\(CC.P.info? 56).isSome=true/\Bh CC 57=false/\tAgg CC 59=true/\Bh CC 59=false/\A5 CC 59=true:=by
 repeat' apply y7
 all_goals (intros;kernel_rfl)
theorem tq:tSize CC 59=some 3/\(CC.P.info? 59).isSome=true/\(∀ cs,AH CC 59 0 (.ip cs)=some (.ip (cs.drop 0)))/\(∀ i o,AH CC 59 0 (.bp i o)=some (.bp i (o+0)))/\(∀ cs,Bu CC 59 0 (.agg cs)=BV CC 3 cs 0)/\(∀ cs,AH CC 59 1 (.ip cs)=some (.ip (cs.drop 1)))/\(∀ i o,AH CC 59 1 (.bp i o)=some (.bp i (o+1)))/\(∀ cs,Bu CC 59 1 (.agg cs)=BV CC 9 cs 1)/\(∀ cs,AH CC 59 2 (.ip cs)=some (.ip (cs.drop 2)))/\(∀ i o,AH CC 59 2 (.bp i o)=some (.bp i (o+2)))/\(∀ cs,Bu CC 59 2 (.agg cs)=BV CC 3 cs 2)/\Bh CC 60=false/\CC.P.underlying 61=some (.slice 59)/\Sg CC 61=.osl 59 []/\tAgg CC 61=false/\Bh CC 61=false/\A5 CC 61=false/\tSize CC 61=some 1/\(CC.P.info? 61).isSome=true/\tAgg CC 63=true/\Bh CC 63=false/\A5 CC 63=true/\tSize CC 63=some 4/\(CC.P.info? 63).isSome=true/\(∀ cs,AH CC 63 0 (.ip cs)=some (.ip (cs.drop 0)))/\(∀ i o,AH CC 63 0 (.bp i o)=some (.bp i (o+0)))/\(∀ cs,Bu CC 63 0 (.agg cs)=BV CC 61 cs 0)/\(∀ cs,AH CC 63 1 (.ip cs)=some (.ip (cs.drop 1)))/\(∀ i o,AH CC 63 1 (.bp i o)=some (.bp i (o+1)))/\(∀ cs,Bu CC 63 1 (.agg cs)=BV CC 3 cs 1)/\(∀ cs,AH CC 63 2 (.ip cs)=some (.ip (cs.drop 2)))/\(∀ i o,AH CC 63 2 (.bp i o)=some (.bp i (o+2)))/\(∀ cs,Bu CC 63 2 (.agg cs)=BV CC 3 cs 2)/\(∀ cs,AH CC 63 3 (.ip cs)=some (.ip (cs.drop 3)))/\(∀ i o,AH CC 63 3 (.bp i o)=some (.bp i (o+3)))/\(∀ cs,Bu CC 63 3 (.agg cs)=BV CC 23 cs 3)/\Bh CC 65=false/\CC.P.underlying 66=some (.pointer 69)/\tAgg CC 66=false/\Bh CC 66=true:=by
 repeat' apply y7
 all_goals (intros;kernel_rfl)
theorem tv:A5 CC 66=true/\tSize CC 66=some 1/\(CC.P.info? 66).isSome=true/\CC.P.underlying 67=some (.slice 9)/\Sg CC 67=.osl 9 []/\tAgg CC 67=false/\Bh CC 67=false/\A5 CC 67=false/\tSize CC 67=some 1/\(CC.P.info? 67).isSome=true/\tAgg CC 69=true/\Bh CC 69=false/\A5 CC 69=true/\tSize CC 69=some 6/\(CC.P.info? 69).isSome=true/\(∀ cs,AH CC 69 0 (.ip cs)=some (.ip (cs.drop 0)))/\(∀ i o,AH CC 69 0 (.bp i o)=some (.bp i (o+0)))/\(∀ cs,Bu CC 69 0 (.agg cs)=BV CC 61 cs 0)/\(∀ cs,AH CC 69 1 (.ip cs)=some (.ip (cs.drop 1)))/\(∀ i o,AH CC 69 1 (.bp i o)=some (.bp i (o+1)))/\(∀ cs,Bu CC 69 1 (.agg cs)=BV CC 3 cs 1)/\(∀ cs,AH CC 69 2 (.ip cs)=some (.ip (cs.drop 2)))/\(∀ i o,AH CC 69 2 (.bp i o)=some (.bp i (o+2)))/\(∀ cs,Bu CC 69 2 (.agg cs)=BV CC 24 cs 2)/\(∀ cs,AH CC 69 3 (.ip cs)=some (.ip (cs.drop 3)))/\(∀ i o,AH CC 69 3 (.bp i o)=some (.bp i (o+3)))/\(∀ cs,Bu CC 69 3 (.agg cs)=BV CC 3 cs 3)/\(∀ cs,AH CC 69 4 (.ip cs)=some (.ip (cs.drop 4)))/\(∀ i o,AH CC 69 4 (.bp i o)=some (.bp i (o+4)))/\(∀ cs,Bu CC 69 4 (.agg cs)=BV CC 3 cs 4)/\(∀ cs,AH CC 69 5 (.ip cs)=some (.ip (cs.drop 5)))/\(∀ i o,AH CC 69 5 (.bp i o)=some (.bp i (o+5)))/\(∀ cs,Bu CC 69 5 (.agg cs)=BV CC 67 cs 5)/\Bh CC 70=false/\Bh CC 71=false/\Bh CC 72=false/\Bh CC 73=false/\Bh CC 74=false/\Bh CC 75=false/\Bh CC 76=false:=by
 repeat' apply y7
 all_goals (intros;kernel_rfl)
theorem tw:Bh CC 77=false/\Bh CC 78=false/\Bh CC 79=false/\Bh CC 80=false/\Bh CC 81=false/\Bh CC 82=false/\Bh CC 83=false/\Bh CC 84=false/\Bh CC 86=false/\Bh CC 87=false/\Bh CC 88=false/\Bh CC 89=false/\Bh CC 90=false/\Bh CC 92=false/\Bh CC 93=false/\Bh CC 94=false/\Bh CC 96=false/\Bh CC 98=false/\Bh CC 99=false/\Bh CC 100=false/\Bh CC 101=false/\Bh CC 102=false/\Bh CC 103=false/\Bh CC 104=false/\Bh CC 105=false/\Bh CC 106=false/\Bh CC 107=false/\Bh CC 109=false/\Bh CC 110=false/\Bh CC 111=false/\Bh CC 112=false/\Bh CC 113=false/\Bh CC 115=false/\Bh CC 116=false/\Bh CC 118=false/\Bh CC 119=false/\Bh CC 120=false/\Bh CC 121=false/\Bh CC 122=false/\Bh CC 123=false:=by
 repeat' apply y7
 all_goals (intros;kernel_rfl)
theorem tz:CC.P.underlying 124=some (.array 7 9)/\tAgg CC 124=true/\Bh CC 124=false/\A5 CC 124=true/\tSize CC 124=some 7/\(CC.P.info? 124).isSome=true/\CC.P.underlying 125=some (.slice 5)/\Sg CC 125=.osl 5 []/\tAgg CC 125=false/\Bh CC 125=false/\A5 CC 125=false/\tSize CC 125=some 1/\(CC.P.info? 125).isSome=true/\Bh CC 126=false/\Bh CC 127=false/\Bh CC 128=false/\Bh CC 130=false/\Bh CC 131=false/\Bh CC 132=false/\CC.P.underlying 133=some (.pointer 135)/\tAgg CC 133=false/\Bh CC 133=true/\A5 CC 133=true/\tSize CC 133=some 1/\(CC.P.info? 133).isSome=true/\tAgg CC 135=true/\Bh CC 135=false/\A5 CC 135=true/\tSize CC 135=some 2/\(CC.P.info? 135).isSome=true/\(∀ cs,AH CC 135 0 (.ip cs)=some (.ip (cs.drop 0)))/\(∀ i o,AH CC 135 0 (.bp i o)=some (.bp i (o+0)))/\(∀ cs,Bu CC 135 0 (.agg cs)=BV CC 133 cs 0)/\(∀ cs,AH CC 135 1 (.ip cs)=some (.ip (cs.drop 1)))/\(∀ i o,AH CC 135 1 (.bp i o)=some (.bp i (o+1)))/\(∀ cs,Bu CC 135 1 (.agg cs)=BV CC 125 cs 1)/\Bh CC 137=false/\tAgg CC 138=false/\Bh CC 138=false/\A5 CC 138=true:=by
 repeat' apply y7
 all_goals (intros;kernel_rfl)
theorem pj:tSize CC 138=some 1/\tAgg CC 139=false/\Bh CC 139=false/\A5 CC 139=true/\tSize CC 139=some 1/\Bh CC 140=false/\CC.P.underlying 141=some (.array 6 9)/\tAgg CC 141=true/\Bh CC 141=false/\A5 CC 141=true/\tSize CC 141=some 6/\(CC.P.info? 141).isSome=true/\Bh CC 142=false/\CC.P.underlying 143=some (.int .u64)/\tAgg CC 143=false/\Bh CC 143=false/\A5 CC 143=true/\tSize CC 143=some 1/\(CC.P.info? 143).isSome=true/\CC.P.underlying 144=some (.pointer 5)/\tAgg CC 144=false/\Bh CC 144=true/\A5 CC 144=true/\tSize CC 144=some 1/\(CC.P.info? 144).isSome=true/\Bh CC 146=false/\CC.P.underlying 147=some (.array 4 9)/\tAgg CC 147=true/\Bh CC 147=false/\A5 CC 147=true/\tSize CC 147=some 4/\(CC.P.info? 147).isSome=true/\CC.P.underlying 153=some (.int .u32)/\tAgg CC 153=false/\Bh CC 153=false/\A5 CC 153=true/\tSize CC 153=some 1/\(CC.P.info? 153).isSome=true/\Bh CC 156=false:=by
 repeat' apply y7
 all_goals (intros;kernel_rfl)
theorem TG:(type_of% tf)/\(type_of% tg)/\(type_of% th)/\(type_of% ti)/\(type_of% tj)/\(type_of% tn)/\(type_of% tq)/\(type_of% tv)/\(type_of% tw)/\(type_of% tz)/\(type_of% pj)/\(∀ f,CC.heap f=(f == 17)):=
 ⟨tf,tg,th,ti,tj,tn,tq,tv,tw,tz,pj,jM⟩
noncomputable def tA:Array Field:=match y8.underlying 30 with | some (.struct f)=>f | _=>#[]
noncomputable def tB:Array Field:=match y8.underlying 35 with | some (.struct f)=>f | _=>#[]
noncomputable def tC:Array Field:=match y8.underlying 32 with | some (.struct f)=>f | _=>#[]
noncomputable def tD:Array Field:=match y8.underlying 44 with | some (.struct f)=>f | _=>#[]
noncomputable def tE:Array Field:=match y8.underlying 46 with | some (.struct f)=>f | _=>#[]
noncomputable def tF:Array Field:=match y8.underlying 49 with | some (.struct f)=>f | _=>#[]
noncomputable def tG:Array Field:=match y8.underlying 52 with | some (.struct f)=>f | _=>#[]
noncomputable def tH:Array Field:=match y8.underlying 59 with | some (.struct f)=>f | _=>#[]
theorem UT:CC.P.underlying 30=some (.struct tA)/\CC.P.underlying 35=some (.struct tB)/\CC.P.underlying 32=some (.struct tC)/\CC.P.underlying 44=some (.struct tD)/\CC.P.underlying 46=some (.struct tE)/\CC.P.underlying 49=some (.struct tF)/\CC.P.underlying 52=some (.struct tG)/\CC.P.underlying 59=some (.struct tH):=by
 repeat' apply y7
 all_goals kernel_rfl
theorem S7:(type_of% @SA)/\(type_of% @SB)/\(type_of% @SD)/\(type_of% @SF):=⟨@SA,@SB,@SD,@SF⟩
theorem S8:(type_of% @S7)/\(type_of% @TG)/\(type_of% @SE):=⟨@S7,@TG,@SE⟩
theorem S9:(type_of% @S8)/\(type_of% @SG)/\(type_of% @SH)/\(type_of% @SC)/\(type_of% @UT):=⟨@S8,@SG,@SH,@SC,@UT⟩
theorem JR (s:List UInt8) (c:Int) (bx):Ae CC 116 [.str s,.int .u8 c] bx=some (.ret (.int .i64 (Lib.indexByte s c.toNat.toUInt8)),bx):=by
 have hp:CC.prim 116=some gl:=rfl;have hq:CC.hprim 116=none:=rfl;unfold Ae Fu HS;simp only [show CC.cat 116=none from rfl,hq,hp,Aq,PV.pure,Bool.and_self,if_true,gl,Option.map_some]
theorem Le (s:List UInt8) (c:Int) (bx):Ak CC (Ae CC) 116 [.str s,.int .u8 c] bx=some (.ret (.int .i64 (Lib.indexByte s c.toNat.toUInt8)),bx):=Ax rfl (by simp only [SA,za]) (JR s c []) rfl
set_option linter.unusedSimpArgs false
set_option linter.unusedVariables false
theorem FE (s:List UInt8) (i:Nat) (b:UInt8) (h:s[i]?=some b):EK CC 9 (.str s) (.int .i64 (i:Int))=some (.int .u8 (b.toNat:Int)):=by
 unfold EK;simp only [TG,Int.toNat_natCast,h];rw [if_neg (by omega)]
theorem AX (s:List UInt8):Uo CC 9 (.str s)=some (.int .i64 s.length):=by
 unfold Uo;simp only [TG]
theorem JS (s:List UInt8) (a b:Int) (h0:0<=a) (h1:a<=b) (h2:b<=s.length):HQ CC 9 (.str s) (some (.int .i64 a)) (some (.int .i64 b))=some (.str ((s.take b.toNat).drop a.toNat)):=by
 unfold HQ;simp only [TG,FY,Pg];rw [if_pos ⟨by omega,h2⟩];simp only;rw [if_pos ⟨h0,by omega⟩]
theorem Wi (s:List UInt8) (b:Int) (h0:0<=b) (h2:b<=s.length):HQ CC 9 (.str s) none (some (.int .i64 b))=some (.str (s.take b.toNat)):=by
 unfold HQ;simp only [TG,FY,Pg];rw [if_pos ⟨h0,h2⟩];simp only [ze]
theorem gp (s:List UInt8) (a:Int) (h0:0<=a) (h2:a<=s.length):HQ CC 9 (.str s) (some (.int .i64 a)) none=some (.str (s.drop a.toNat)):=by
 unfold HQ;simp only [TG,FY,Pg];rw [if_pos ⟨h0,h2⟩];simp only [List.take_length]
theorem CH (a b:List UInt8):HP .neq a b=some (.bool (!(a == b))):=rfl
theorem C9 (a b:List UInt8):HP .eql a b=some (.bool (a == b)):=rfl
abbrev Vl:=Int×Int×List UInt8
def N6 (v:Vl):PV:=.agg [.int .i64 v.1,.int .i64 v.2.1,.str v.2.2]
def gq (x:Bool) (y:Option Bool):Option Bool:=match some x with
 | some true=>y
 | o=>o
def qc (v w:Vl):Bool:=(v.1 == w.1) && (v.2.1 == w.2.1) && (v.2.2 == w.2.2)
theorem nf (a a' b b':Int) (c c':List UInt8):QG CC 100 30 (.agg [.int .i64 a,.int .i64 b,.str c]) (.agg [.int .i64 a',.int .i64 b',.str c'])=some ((a == a') && (b == b') && (c == c')):=by
 have h:QG CC 100 30 (.agg [.int .i64 a,.int .i64 b,.str c]) (.agg [.int .i64 a',.int .i64 b',.str c'])=gq (a == a') (gq (b == b') (gq (c == c') (some true))):=by kernel_rfl
 rw [h];cases a == a' <;> cases b == b' <;> cases c == c' <;> rfl
theorem Mn:CC.P.eqGuardType CC.P.depth 30=false:=by kernel_rfl
theorem Po:Bk CC y9 (y9.body.getD .skip)=true:=by kernel_rfl
theorem Oi:CC.P.funcs[120]?=some y9:=by kernel_rfl
theorem Sj:Bk CC yY (yY.body.getD .skip)=true:=by kernel_rfl
theorem QK:CC.P.funcs[112]?=some yY:=by kernel_rfl
theorem Dj {x:List PV} {b:List PBox} (h:x.length.ble yY.ntmps=true):Ae CC 112 x b=CB CC yY.results.toList (Cp CC (yY.body.getD .skip) ⟨x,b⟩):=Ah (fn:=yY) (c:=yY.body.getD .skip) rfl rfl QK rfl Sj (y6 h)
theorem W8:Bk CC yX (yX.body.getD .skip)=true:=by kernel_rfl
theorem Uv:CC.P.funcs[124]?=some yX:=by kernel_rfl
theorem DT {x:List PV} {b:List PBox} (h:x.length.ble yX.ntmps=true):Ae CC 124 x b=CB CC yX.results.toList (Cp CC (yX.body.getD .skip) ⟨x,b⟩):=Ah (fn:=yX) (c:=yX.body.getD .skip) rfl rfl Uv rfl W8 (y6 h)
def YA (n:Int):Bool:=decide (-1099511627776<=n/\n<=1099511627776)
theorem No (n:Int):Ae CC 120 [.int .i64 n] []=some (.ret (.bool (YA n)),[]):=by
 rw [Ah (fn:=y9) (c:=y9.body.getD .skip) rfl rfl Oi rfl Po (y6 rfl)];unfold YA;by_cases c1:n ≥ -1099511627776
 · by_cases c2:n<=1099511627776
   · rw [decide_eq_true (show -1099511627776<=n/\n<=1099511627776 from ⟨c1,c2⟩)]
     rw [<- Am];simp only [Aa,Ac,y9,yW];simp only [S8,Ag,seval,c1,c2]
   · rw [decide_eq_false (show ¬ (-1099511627776<=n/\n<=1099511627776) from fun h=>c2 h.2)]
     rw [<- Am];simp only [Aa,Ac,y9,yW];simp only [S8,Ag,seval,c1,c2]
 · rw [decide_eq_false (show ¬ (-1099511627776<=n/\n<=1099511627776) from fun h=>c1 h.1)]
   rw [<- Am];simp only [Aa,Ac,y9,yW];simp only [S8,Ag,seval,c1]
theorem Pp (n:Int) (bx):Ak CC (Ae CC) 120 [.int .i64 n] bx=some (.ret (.bool (YA n)),bx):=Ax rfl (by simp only [SA,za]) (No n) rfl
def He (k n:Int):Option Bool:=if k=0\/k=4 then some (n == 0) else if k=1 then some (n == 0 || n == 1) else if k=2 then some (YA n) else if k=3 then some (decide (0<=n) && decide (n<=63)) else none
def MW (v:Vl):Int:=match He v.1 v.2.1 with
 | none=>7
 | some false=>2
 | some true=>if 60 < v.2.2.length then 3 else if v.2.2≠[]/\v.1≠4 then 4 else 0
theorem qd (n:Int) (s:List UInt8):∃ bx,Ae CC 112 [N6 (0,n,s)] []=some (.ret (.int .i64 (MW (0,n,s))),bx):=by
 rw [Dj rfl];have hlen:=AX s;unfold MW N6;simp only;by_cases c1:n=0
 · subst c1
   have ok:He 0 0=some true:=rfl;rw [ok];by_cases d1:60 < s.length
   · have d1p:(s.length:Int) > 60:=by omega
     simp only [if_pos d1];rw [<- Am];skip;simp only [Aa,Ac,yY,yW];simp only [S8,Ag,SG,seval,UT,SC,hlen,d1p];exact ⟨_,rfl⟩
   · have d1p:¬ (s.length:Int) > 60:=by omega
     simp only [if_neg d1];have Hs:=CH s [];by_cases d2:s=[]
     · rw [if_neg (fun h=>h.1 d2)]
       rw [show (!(s == []))=false by rw [d2];rfl] at Hs;rw [<- Am];skip;simp only [Aa,Ac,yY,yW];simp only [S8,Ag,SG,seval,UT,SC,hlen,d1p,Hs];exact ⟨_,rfl⟩
     · rw [if_pos ⟨d2,by omega⟩]
       rw [show (!(s == []))=true by simpa using d2] at Hs;rw [<- Am];skip;simp only [Aa,Ac,yY,yW];simp only [S8,Ag,SG,seval,UT,SC,hlen,d1p,Hs];exact ⟨_,rfl⟩
 · have c1p:(n == 0)=false:=by simpa using c1
   have ok:He 0 n=some false:=by unfold He;simpa using c1
   rw [ok];dsimp only;rw [<- Am];skip;simp only [Aa,Ac,yY,yW];simp only [S8,Ag,SG,seval,UT,SC,hlen,c1p];exact ⟨_,rfl⟩
theorem qe (n:Int) (s:List UInt8):∃ bx,Ae CC 112 [N6 (4,n,s)] []=some (.ret (.int .i64 (MW (4,n,s))),bx):=by
 rw [Dj rfl];have hlen:=AX s;unfold MW N6;simp only;by_cases c1:n=0
 · subst c1
   have ok:He 4 0=some true:=rfl;rw [ok];by_cases d1:60 < s.length
   · have d1p:(s.length:Int) > 60:=by omega
     simp only [if_pos d1];rw [<- Am];skip;simp only [Aa,Ac,yY,yW];simp only [S8,Ag,SG,seval,UT,SC,hlen,d1p];exact ⟨_,rfl⟩
   · have d1p:¬ (s.length:Int) > 60:=by omega
     simp only [if_neg d1];simp only [ne_eq,not_true_eq_false,and_false,if_false];have Hs:=CH s [];generalize (!(s == []))=sb at *;cases sb
     · skip
       rw [<- Am];skip;simp only [Aa,Ac,yY,yW];simp only [S8,Ag,SG,seval,UT,SC,hlen,d1p,Hs];exact ⟨_,rfl⟩
     · skip
       rw [<- Am];skip;simp only [Aa,Ac,yY,yW];simp only [S8,Ag,SG,seval,UT,SC,hlen,d1p,Hs];exact ⟨_,rfl⟩
 · have c1p:(n == 0)=false:=by simpa using c1
   have ok:He 4 n=some false:=by unfold He;simpa using c1
   rw [ok];dsimp only;rw [<- Am];skip;simp only [Aa,Ac,yY,yW];simp only [S8,Ag,SG,seval,UT,SC,hlen,c1p];exact ⟨_,rfl⟩
theorem qf (n:Int) (s:List UInt8):∃ bx,Ae CC 112 [N6 (1,n,s)] []=some (.ret (.int .i64 (MW (1,n,s))),bx):=by
 rw [Dj rfl];have hlen:=AX s;unfold MW N6;simp only;by_cases c1:n=0
 · subst c1
   have ok:He 1 0=some true:=rfl;rw [ok];by_cases d1:60 < s.length
   · have d1p:(s.length:Int) > 60:=by omega
     simp only [if_pos d1];rw [<- Am];skip;simp only [Aa,Ac,yY,yW];simp only [S8,Ag,SG,seval,UT,SC,hlen,d1p];exact ⟨_,rfl⟩
   · have d1p:¬ (s.length:Int) > 60:=by omega
     simp only [if_neg d1];have Hs:=CH s [];by_cases d2:s=[]
     · rw [if_neg (fun h=>h.1 d2)]
       rw [show (!(s == []))=false by rw [d2];rfl] at Hs;rw [<- Am];skip;simp only [Aa,Ac,yY,yW];simp only [S8,Ag,SG,seval,UT,SC,hlen,d1p,Hs];exact ⟨_,rfl⟩
     · rw [if_pos ⟨d2,by omega⟩]
       rw [show (!(s == []))=true by simpa using d2] at Hs;rw [<- Am];skip;simp only [Aa,Ac,yY,yW];simp only [S8,Ag,SG,seval,UT,SC,hlen,d1p,Hs];exact ⟨_,rfl⟩
 · have c1p:(n == 0)=false:=by simpa using c1
   by_cases c2:n=1
   · subst c2
     have ok:He 1 1=some true:=rfl;rw [ok];by_cases d1:60 < s.length
     · have d1p:(s.length:Int) > 60:=by omega
       simp only [if_pos d1];rw [<- Am];skip;simp only [Aa,Ac,yY,yW];simp only [S8,Ag,SG,seval,UT,SC,hlen,d1p];exact ⟨_,rfl⟩
     · have d1p:¬ (s.length:Int) > 60:=by omega
       simp only [if_neg d1];have Hs:=CH s [];by_cases d2:s=[]
       · rw [if_neg (fun h=>h.1 d2)]
         rw [show (!(s == []))=false by rw [d2];rfl] at Hs;rw [<- Am];skip;simp only [Aa,Ac,yY,yW];simp only [S8,Ag,SG,seval,UT,SC,hlen,d1p,Hs];exact ⟨_,rfl⟩
       · rw [if_pos ⟨d2,by omega⟩]
         rw [show (!(s == []))=true by simpa using d2] at Hs;rw [<- Am];skip;simp only [Aa,Ac,yY,yW];simp only [S8,Ag,SG,seval,UT,SC,hlen,d1p,Hs];exact ⟨_,rfl⟩
   · have c2p:(n == 1)=false:=by simpa using c2
     have ok:He 1 n=some false:=by unfold He;simp [c1,c2]
     rw [ok];dsimp only;rw [<- Am];skip;simp only [Aa,Ac,yY,yW];simp only [S8,Ag,SG,seval,UT,SC,hlen,c1p,c2p];exact ⟨_,rfl⟩
theorem qg (n:Int) (s:List UInt8):∃ bx,Ae CC 112 [N6 (2,n,s)] []=some (.ret (.int .i64 (MW (2,n,s))),bx):=by
 rw [Dj rfl];have hlen:=AX s;unfold MW N6;simp only;have O8:=Pp n;have ok:He 2 n=some (YA n):=rfl;generalize YA n=b at *;cases b
 · skip
   rw [ok];dsimp only;rw [<- Am];rw [<- AK] at O8;simp only [Aa,Ac,yY,yW];simp only [S8,Ag,SG,seval,UT,SC,hlen,O8];exact ⟨_,rfl⟩
 · skip
   rw [ok];by_cases d1:60 < s.length
   · have d1p:(s.length:Int) > 60:=by omega
     simp only [if_pos d1];rw [<- Am];rw [<- AK] at O8;simp only [Aa,Ac,yY,yW];simp only [S8,Ag,SG,seval,UT,SC,hlen,O8,d1p];exact ⟨_,rfl⟩
   · have d1p:¬ (s.length:Int) > 60:=by omega
     simp only [if_neg d1];have Hs:=CH s [];by_cases d2:s=[]
     · rw [if_neg (fun h=>h.1 d2)]
       rw [show (!(s == []))=false by rw [d2];rfl] at Hs;rw [<- Am];rw [<- AK] at O8;simp only [Aa,Ac,yY,yW];simp only [S8,Ag,SG,seval,UT,SC,hlen,O8,d1p,Hs];exact ⟨_,rfl⟩
     · rw [if_pos ⟨d2,by omega⟩]
       rw [show (!(s == []))=true by simpa using d2] at Hs;rw [<- Am];rw [<- AK] at O8;simp only [Aa,Ac,yY,yW];simp only [S8,Ag,SG,seval,UT,SC,hlen,O8,d1p,Hs];exact ⟨_,rfl⟩
theorem qh (n:Int) (s:List UInt8):∃ bx,Ae CC 112 [N6 (3,n,s)] []=some (.ret (.int .i64 (MW (3,n,s))),bx):=by
 rw [Dj rfl];have hlen:=AX s;unfold MW N6;simp only;by_cases c1:n ≥ 0
 · by_cases c2:n<=63
   · have ok:He 3 n=some true:=by unfold He;simp;omega
     rw [ok];by_cases d1:60 < s.length
     · have d1p:(s.length:Int) > 60:=by omega
       simp only [if_pos d1];rw [<- Am];skip;simp only [Aa,Ac,yY,yW];simp only [S8,Ag,SG,seval,UT,SC,hlen,c1,c2,d1p];exact ⟨_,rfl⟩
     · have d1p:¬ (s.length:Int) > 60:=by omega
       simp only [if_neg d1];have Hs:=CH s [];by_cases d2:s=[]
       · rw [if_neg (fun h=>h.1 d2)]
         rw [show (!(s == []))=false by rw [d2];rfl] at Hs;rw [<- Am];skip;simp only [Aa,Ac,yY,yW];simp only [S8,Ag,SG,seval,UT,SC,hlen,c1,c2,d1p,Hs];exact ⟨_,rfl⟩
       · rw [if_pos ⟨d2,by omega⟩]
         rw [show (!(s == []))=true by simpa using d2] at Hs;rw [<- Am];skip;simp only [Aa,Ac,yY,yW];simp only [S8,Ag,SG,seval,UT,SC,hlen,c1,c2,d1p,Hs];exact ⟨_,rfl⟩
   · have ok:He 3 n=some false:=by unfold He;simp;omega
     rw [ok];dsimp only;rw [<- Am];skip;simp only [Aa,Ac,yY,yW];simp only [S8,Ag,SG,seval,UT,SC,hlen,c1,c2];exact ⟨_,rfl⟩
 · have ok:He 3 n=some false:=by unfold He;simp;omega
   rw [ok];dsimp only;rw [<- Am];skip;simp only [Aa,Ac,yY,yW];simp only [S8,Ag,SG,seval,UT,SC,hlen,c1];exact ⟨_,rfl⟩
theorem qi (k n:Int) (s:List UInt8) (h:k≠0/\k≠4/\k≠1/\k≠2/\k≠3):∃ bx,Ae CC 112 [N6 (k,n,s)] []=some (.ret (.int .i64 (MW (k,n,s))),bx):=by
 rw [Dj rfl];obtain ⟨k0,k4,k1,k2,k3⟩:=h;have ok:He k n=none:=by unfold He;rw [if_neg (by omega),if_neg k1,if_neg k2,if_neg k3]
 have e0:(k == 0)=false:=by simpa using k0
 have e4:(k == 4)=false:=by simpa using k4
 have e1:(k == 1)=false:=by simpa using k1
 have e2:(k == 2)=false:=by simpa using k2
 have e3:(k == 3)=false:=by simpa using k3
 have hlen:=AX s;unfold MW N6;simp only;rw [ok];dsimp only;rw [<- Am];skip;simp only [Aa,Ac,yY,yW];simp only [S8,Ag,SG,seval,UT,SC,hlen,e0,e4,e1,e2,e3];exact ⟨_,rfl⟩
theorem qj (n:Int) (s:List UInt8):∃ bx,Ae CC 124 [N6 (0,n,s)] []=some (.ret (.int .i64 (MW (0,n,s))),bx):=by
 rw [DT rfl];have hlen:=AX s;unfold MW N6;simp only;by_cases c1:n < 0
 · have ok:He 0 n=some false:=by unfold He;simp [YA];omega
   rw [ok];dsimp only;rw [<- Am];skip;simp only [Aa,Ac,yX,yW];simp only [S8,Ag,SG,seval,UT,SC,hlen,c1];exact ⟨_,rfl⟩
 · by_cases c2:n > 0
   · have ok:He 0 n=some false:=by unfold He;simp [YA];omega
     rw [ok];dsimp only;rw [<- Am];skip;simp only [Aa,Ac,yX,yW];simp only [S8,Ag,SG,seval,UT,SC,hlen,c1,c2];exact ⟨_,rfl⟩
   · have ok:He 0 n=some true:=by unfold He;simp [YA];omega
     rw [ok];by_cases d1:60 < s.length
     · have d1p:(s.length:Int) > 60:=by omega
       simp only [if_pos d1];rw [<- Am];skip;simp only [Aa,Ac,yX,yW];simp only [S8,Ag,SG,seval,UT,SC,hlen,c1,c2,d1p];exact ⟨_,rfl⟩
     · have d1p:¬ (s.length:Int) > 60:=by omega
       simp only [if_neg d1];have Hs:=CH s [];by_cases d2:s=[]
       · rw [if_neg (fun h=>h.1 d2)]
         rw [show (!(s == []))=false by rw [d2];rfl] at Hs;rw [<- Am];skip;simp only [Aa,Ac,yX,yW];simp only [S8,Ag,SG,seval,UT,SC,hlen,c1,c2,d1p,Hs];exact ⟨_,rfl⟩
       · rw [if_pos ⟨d2,by omega⟩]
         rw [show (!(s == []))=true by simpa using d2] at Hs;rw [<- Am];skip;simp only [Aa,Ac,yX,yW];simp only [S8,Ag,SG,seval,UT,SC,hlen,c1,c2,d1p,Hs];exact ⟨_,rfl⟩
theorem qk (n:Int) (s:List UInt8):∃ bx,Ae CC 124 [N6 (4,n,s)] []=some (.ret (.int .i64 (MW (4,n,s))),bx):=by
 rw [DT rfl];have hlen:=AX s;unfold MW N6;simp only;by_cases c1:n < 0
 · have ok:He 4 n=some false:=by unfold He;simp [YA];omega
   rw [ok];dsimp only;rw [<- Am];skip;simp only [Aa,Ac,yX,yW];simp only [S8,Ag,SG,seval,UT,SC,hlen,c1];exact ⟨_,rfl⟩
 · by_cases c2:n > 0
   · have ok:He 4 n=some false:=by unfold He;simp [YA];omega
     rw [ok];dsimp only;rw [<- Am];skip;simp only [Aa,Ac,yX,yW];simp only [S8,Ag,SG,seval,UT,SC,hlen,c1,c2];exact ⟨_,rfl⟩
   · have ok:He 4 n=some true:=by unfold He;simp [YA];omega
     rw [ok];by_cases d1:60 < s.length
     · have d1p:(s.length:Int) > 60:=by omega
       simp only [if_pos d1];rw [<- Am];skip;simp only [Aa,Ac,yX,yW];simp only [S8,Ag,SG,seval,UT,SC,hlen,c1,c2,d1p];exact ⟨_,rfl⟩
     · have d1p:¬ (s.length:Int) > 60:=by omega
       simp only [if_neg d1];simp only [ne_eq,not_true_eq_false,and_false,if_false];have Hs:=CH s [];generalize (!(s == []))=sb at *;cases sb
       · skip
         rw [<- Am];skip;simp only [Aa,Ac,yX,yW];simp only [S8,Ag,SG,seval,UT,SC,hlen,c1,c2,d1p,Hs];exact ⟨_,rfl⟩
       · skip
         rw [<- Am];skip;simp only [Aa,Ac,yX,yW];simp only [S8,Ag,SG,seval,UT,SC,hlen,c1,c2,d1p,Hs];exact ⟨_,rfl⟩
theorem ql (n:Int) (s:List UInt8):∃ bx,Ae CC 124 [N6 (1,n,s)] []=some (.ret (.int .i64 (MW (1,n,s))),bx):=by
 rw [DT rfl];have hlen:=AX s;unfold MW N6;simp only;by_cases c1:n < 0
 · have ok:He 1 n=some false:=by unfold He;simp;omega
   rw [ok];dsimp only;rw [<- Am];skip;simp only [Aa,Ac,yX,yW];simp only [S8,Ag,SG,seval,UT,SC,hlen,c1];exact ⟨_,rfl⟩
 · by_cases c2:n > 1
   · have ok:He 1 n=some false:=by unfold He;simp;omega
     rw [ok];dsimp only;rw [<- Am];skip;simp only [Aa,Ac,yX,yW];simp only [S8,Ag,SG,seval,UT,SC,hlen,c1,c2];exact ⟨_,rfl⟩
   · have ok:He 1 n=some true:=by unfold He;simp;omega
     rw [ok];by_cases d1:60 < s.length
     · have d1p:(s.length:Int) > 60:=by omega
       simp only [if_pos d1];rw [<- Am];skip;simp only [Aa,Ac,yX,yW];simp only [S8,Ag,SG,seval,UT,SC,hlen,c1,c2,d1p];exact ⟨_,rfl⟩
     · have d1p:¬ (s.length:Int) > 60:=by omega
       simp only [if_neg d1];have Hs:=CH s [];by_cases d2:s=[]
       · rw [if_neg (fun h=>h.1 d2)]
         rw [show (!(s == []))=false by rw [d2];rfl] at Hs;rw [<- Am];skip;simp only [Aa,Ac,yX,yW];simp only [S8,Ag,SG,seval,UT,SC,hlen,c1,c2,d1p,Hs];exact ⟨_,rfl⟩
       · rw [if_pos ⟨d2,by omega⟩]
         rw [show (!(s == []))=true by simpa using d2] at Hs;rw [<- Am];skip;simp only [Aa,Ac,yX,yW];simp only [S8,Ag,SG,seval,UT,SC,hlen,c1,c2,d1p,Hs];exact ⟨_,rfl⟩
theorem qm (n:Int) (s:List UInt8):∃ bx,Ae CC 124 [N6 (2,n,s)] []=some (.ret (.int .i64 (MW (2,n,s))),bx):=by
 rw [DT rfl];have hlen:=AX s;unfold MW N6;simp only;by_cases c1:n < -1099511627776
 · have ok:He 2 n=some false:=by unfold He;simp [YA];omega
   rw [ok];dsimp only;rw [<- Am];skip;simp only [Aa,Ac,yX,yW];simp only [S8,Ag,SG,seval,UT,SC,hlen,c1];exact ⟨_,rfl⟩
 · by_cases c2:n > 1099511627776
   · have ok:He 2 n=some false:=by unfold He;simp [YA];omega
     rw [ok];dsimp only;rw [<- Am];skip;simp only [Aa,Ac,yX,yW];simp only [S8,Ag,SG,seval,UT,SC,hlen,c1,c2];exact ⟨_,rfl⟩
   · have ok:He 2 n=some true:=by unfold He;simp [YA];omega
     rw [ok];by_cases d1:60 < s.length
     · have d1p:(s.length:Int) > 60:=by omega
       simp only [if_pos d1];rw [<- Am];skip;simp only [Aa,Ac,yX,yW];simp only [S8,Ag,SG,seval,UT,SC,hlen,c1,c2,d1p];exact ⟨_,rfl⟩
     · have d1p:¬ (s.length:Int) > 60:=by omega
       simp only [if_neg d1];have Hs:=CH s [];by_cases d2:s=[]
       · rw [if_neg (fun h=>h.1 d2)]
         rw [show (!(s == []))=false by rw [d2];rfl] at Hs;rw [<- Am];skip;simp only [Aa,Ac,yX,yW];simp only [S8,Ag,SG,seval,UT,SC,hlen,c1,c2,d1p,Hs];exact ⟨_,rfl⟩
       · rw [if_pos ⟨d2,by omega⟩]
         rw [show (!(s == []))=true by simpa using d2] at Hs;rw [<- Am];skip;simp only [Aa,Ac,yX,yW];simp only [S8,Ag,SG,seval,UT,SC,hlen,c1,c2,d1p,Hs];exact ⟨_,rfl⟩
theorem qn (n:Int) (s:List UInt8):∃ bx,Ae CC 124 [N6 (3,n,s)] []=some (.ret (.int .i64 (MW (3,n,s))),bx):=by
 rw [DT rfl];have hlen:=AX s;unfold MW N6;simp only;by_cases c1:n < 0
 · have ok:He 3 n=some false:=by unfold He;simp [YA];omega
   rw [ok];dsimp only;rw [<- Am];skip;simp only [Aa,Ac,yX,yW];simp only [S8,Ag,SG,seval,UT,SC,hlen,c1];exact ⟨_,rfl⟩
 · by_cases c2:n > 63
   · have ok:He 3 n=some false:=by unfold He;simp [YA];omega
     rw [ok];dsimp only;rw [<- Am];skip;simp only [Aa,Ac,yX,yW];simp only [S8,Ag,SG,seval,UT,SC,hlen,c1,c2];exact ⟨_,rfl⟩
   · have ok:He 3 n=some true:=by unfold He;simp [YA];omega
     rw [ok];by_cases d1:60 < s.length
     · have d1p:(s.length:Int) > 60:=by omega
       simp only [if_pos d1];rw [<- Am];skip;simp only [Aa,Ac,yX,yW];simp only [S8,Ag,SG,seval,UT,SC,hlen,c1,c2,d1p];exact ⟨_,rfl⟩
     · have d1p:¬ (s.length:Int) > 60:=by omega
       simp only [if_neg d1];have Hs:=CH s [];by_cases d2:s=[]
       · rw [if_neg (fun h=>h.1 d2)]
         rw [show (!(s == []))=false by rw [d2];rfl] at Hs;rw [<- Am];skip;simp only [Aa,Ac,yX,yW];simp only [S8,Ag,SG,seval,UT,SC,hlen,c1,c2,d1p,Hs];exact ⟨_,rfl⟩
       · rw [if_pos ⟨d2,by omega⟩]
         rw [show (!(s == []))=true by simpa using d2] at Hs;rw [<- Am];skip;simp only [Aa,Ac,yX,yW];simp only [S8,Ag,SG,seval,UT,SC,hlen,c1,c2,d1p,Hs];exact ⟨_,rfl⟩
theorem qo (k n:Int) (s:List UInt8) (h:k≠0/\k≠4/\k≠1/\k≠2/\k≠3):∃ bx,Ae CC 124 [N6 (k,n,s)] []=some (.ret (.int .i64 (MW (k,n,s))),bx):=by
 rw [DT rfl];obtain ⟨k0,k4,k1,k2,k3⟩:=h;have ok:He k n=none:=by unfold He;rw [if_neg (by omega),if_neg k1,if_neg k2,if_neg k3]
 have e0:(k == 0)=false:=by simpa using k0
 have e4:(k == 4)=false:=by simpa using k4
 have e1:(k == 1)=false:=by simpa using k1
 have e2:(k == 2)=false:=by simpa using k2
 have e3:(k == 3)=false:=by simpa using k3
 have hlen:=AX s;unfold MW N6;simp only;rw [ok];dsimp only;rw [<- Am];skip;simp only [Aa,Ac,yX,yW];simp only [S8,Ag,SG,seval,UT,SC,hlen,e0,e4,e1,e2,e3];exact ⟨_,rfl⟩
theorem Pq (v:Vl):∃ bx,Ae CC 112 [N6 v] []=some (.ret (.int .i64 (MW v)),bx):=by
 obtain ⟨k,n,s⟩:=v;by_cases k0:k=0
 · subst k0;exact qd n s
 by_cases k4:k=4
 · subst k4;exact qe n s
 by_cases k1:k=1
 · subst k1;exact qf n s
 by_cases k2:k=2
 · subst k2;exact qg n s
 by_cases k3:k=3
 · subst k3;exact qh n s
 exact qi k n s ⟨k0,k4,k1,k2,k3⟩
theorem Sk (v:Vl) (bx):Ak CC (Ae CC) 112 [N6 v] bx=some (.ret (.int .i64 (MW v)),bx):=by
 obtain ⟨b,h⟩:=Pq v;exact Ax rfl rfl h rfl
theorem Sl (v:Vl):∃ bx,Ae CC 124 [N6 v] []=some (.ret (.int .i64 (MW v)),bx):=by
 obtain ⟨k,n,s⟩:=v;by_cases k0:k=0
 · subst k0;exact qj n s
 by_cases k4:k=4
 · subst k4;exact qk n s
 by_cases k1:k=1
 · subst k1;exact ql n s
 by_cases k2:k=2
 · subst k2;exact qm n s
 by_cases k3:k=3
 · subst k3;exact qn n s
 exact qo k n s ⟨k0,k4,k1,k2,k3⟩
theorem W9 (v:Vl) (bx):Ak CC (Ae CC) 124 [N6 v] bx=some (.ret (.int .i64 (MW v)),bx):=by
 obtain ⟨b,h⟩:=Sl v;exact Ax rfl rfl h rfl
theorem QL:Bk CC y' (y'.body.getD .skip)=true:=by kernel_rfl
theorem Pr:CC.P.funcs[100]?=some y':=by kernel_rfl
theorem Sm:Bk CC y5 (y5.body.getD .skip)=true:=by kernel_rfl
theorem QM:CC.P.funcs[59]?=some y5:=by kernel_rfl
theorem Xa:Bk CC yZ (yZ.body.getD .skip)=true:=by kernel_rfl
theorem Uw:CC.P.funcs[105]?=some yZ:=by kernel_rfl
theorem get_at (s:List UInt8) (i:Nat) (c:UInt8) (h:s[i]?=some c):(ByteArray.mk s.toArray).get! i=c:=by
 show s.toArray[i]! = c;rw [getElem!_def,List.getElem?_toArray,h]
theorem qp (s:List UInt8) (i:Nat) (c:UInt8) (h:s[i]?=some c) (hc:c.toNat < 128):zd ⟨s.toArray⟩ i=(c.toNat,1):=by
 unfold zd;simp only [zh,get_at s i c h];rw [if_pos hc]
theorem qq (s:List UInt8) (i:Nat) (c:UInt8) (h:s[i]?=some c) (hc:¬ c.toNat < 128):128<=(zd ⟨s.toArray⟩ i).1:=by
 unfold zd;simp only [zh,get_at s i c h];rw [if_neg hc];unfold Utf8.runeError
 repeat' split
 all_goals first | (simp only;omega) | (rename_i hh;simp at hh;simp only;omega) | decide
def Uj (i n:Nat):Bool:=decide ((97<=n/\n<=122)\/(i≠0/\(n=95\/n=45\/(48<=n/\n<=57))))
def QN:Nat->List UInt8->Bool
 | _,[]=>true
 | i,c :: r=>Uj i c.toNat && QN (i+1) r
def Fo (s:List UInt8):Bool:=decide (1<=s.length/\s.length<=24) && QN 0 s
def vP (v:Bool) (r:Option (Ex×St)):Prop:=∃ e' bx',(v=true/\r=some (.exit 0,⟨e',bx'⟩))\/(v=false/\r=some (.ret,⟨e',bx'⟩)/\getT e' 2=.bool false)
theorem Oj (r:Int):Ae CC 100 [.int .i32 r] []=some (.ret (.bool (decide (97<=r/\r<=122))),[]):=by
 rw [Ah (fn:=y') (c:=y'.body.getD .skip) rfl rfl Pr rfl QL (y6 rfl)];by_cases c1:r ≥ 97
 · by_cases c2:r<=122
   · rw [decide_eq_true (show 97<=r/\r<=122 from ⟨c1,c2⟩)]
     rw [<- Am];simp only [Aa,Ac,y',yW];simp only [S8,Ag,seval,c1,c2]
   · rw [decide_eq_false (show ¬ (97<=r/\r<=122) from fun h=>c2 h.2)]
     rw [<- Am];simp only [Aa,Ac,y',yW];simp only [S8,Ag,seval,c1,c2]
 · rw [decide_eq_false (show ¬ (97<=r/\r<=122) from fun h=>c1 h.1)]
   rw [<- Am];simp only [Aa,Ac,y',yW];simp only [S8,Ag,seval,c1]
theorem Ku (r:Int) (bx):Ak CC (Ae CC) 100 [.int .i32 r] bx=some (.ret (.bool (decide (97<=r/\r<=122))),bx):=Ax rfl (by simp only [SA,za]) (Oj r) rfl
theorem Sn (L:Code) (hL:L=Aa yZ [1,1,0,1,0]) (s:List UInt8) (hs:s.length<=30000):∀ (k i:Nat) (e:List PV) (bx:List PBox),i+k=s.length->getT e 0=.str s->getT e 3=.int .i64 i ->
 vP (QN i (s.drop i)) (Cp CC L ⟨e,bx⟩):=by
 intro k
 induction k with
 | zero=>
  intro i e bx hk h0 h3;rw [A0 (Aa yZ [1,1,0,1,0,0]) hL];have hlen:=AX s;have D5:¬ ((i:Int) < (s.length:Int)):=by omega
  rw [zg (by omega)];unfold QN;rw [<- Am];simp only [Aa,Ac,yZ,yW];simp only [S8,Ag,seval,h0,h3,hlen,D5];exact ⟨_,_,.inl ⟨rfl,rfl⟩⟩
 | succ k ih=>
  intro i e bx hk h0 h3;rw [A0 (Aa yZ [1,1,0,1,0,0]) hL];have hlen:=AX s;have D5:((i:Int) < (s.length:Int)):=by omega
  have hx:s[i]?=some (s[i]'(by omega)):=by simp
  have KE:s.drop i=(s[i]'(by omega)) :: s.drop (i+1):=zf (by omega);generalize s[i]'(by omega)=c at *;have Dc:=FE s i c hx;have w1:=wrap_i64 (n:=(i:Int)+1) ⟨by omega,by omega⟩;have cast1:((i+1:Nat):Int)=(i:Int)+1:=by omega
  have key:=fun e bx=>ih (i+1) e bx (by omega);rw [cast1] at key;rw [KE];unfold QN;generalize QN (i+1) (s.drop (i+1))=v at *;generalize c.toNat=n at *;clear hx KE;by_cases a1:(n:Int) ≥ 97
  · by_cases a2:(n:Int)<=122
    · skip
      rw [show Uj i n=true from decide_eq_true (by omega),y2];rw [<- Am];rw [<- Am] at key;simp only [Aa,Ac,yZ,yW];simp only [S8,Ag,seval,N8,h0,h3,hlen,D5,Dc,w1,y3,y1,a1,a2];exact key _ _ (by simp only [S7,Ag,seval,h0]) (by simp only [S7,Ag,seval])
    · skip
      by_cases i0:i=0
      · have z:((i:Int) == 0)=true:=by rw [i0];rfl
        rw [show Uj i n=false from decide_eq_false (by omega),y0];rw [<- Am];simp only [Aa,Ac,yZ,yW];simp only [S8,Ag,seval,N8,h0,h3,hlen,D5,Dc,w1,y3,y1,a1,a2,z];exact ⟨_,_,.inr ⟨rfl,rfl,by simp only [S7,Ag,seval]⟩⟩
      · have z:((i:Int) == 0)=false:=by rw [beq_eq_false_iff_ne];omega
        by_cases e1:n=95
        · have e1p:((n:Int) != 95)=false:=by rw [e1];rfl
          rw [show Uj i n=true from decide_eq_true (by omega),y2];rw [<- Am];rw [<- Am] at key;simp only [Aa,Ac,yZ,yW];simp only [S8,Ag,seval,N8,h0,h3,hlen,D5,Dc,w1,y3,y1,a1,a2,z,e1p];exact key _ _ (by simp only [S7,Ag,seval,h0]) (by simp only [S7,Ag,seval])
        · have e1p:((n:Int) != 95)=true:=by rw [bne_iff_ne];omega
          by_cases e2:n=45
          · have e2p:((n:Int) != 45)=false:=by rw [e2];rfl
            rw [show Uj i n=true from decide_eq_true (by omega),y2];rw [<- Am];rw [<- Am] at key;simp only [Aa,Ac,yZ,yW];simp only [S8,Ag,seval,N8,h0,h3,hlen,D5,Dc,w1,y3,y1,a1,a2,z,e1p,e2p];exact key _ _ (by simp only [S7,Ag,seval,h0]) (by simp only [S7,Ag,seval])
          · have e2p:((n:Int) != 45)=true:=by rw [bne_iff_ne];omega
            by_cases e3:(n:Int) < 48
            · skip
              rw [show Uj i n=false from decide_eq_false (by omega),y0];rw [<- Am];simp only [Aa,Ac,yZ,yW];simp only [S8,Ag,seval,N8,h0,h3,hlen,D5,Dc,w1,y3,y1,a1,a2,z,e1p,e2p,e3];exact ⟨_,_,.inr ⟨rfl,rfl,by simp only [S7,Ag,seval]⟩⟩
            · by_cases e4:(n:Int) > 57
              · skip
                rw [show Uj i n=false from decide_eq_false (by omega),y0];rw [<- Am];simp only [Aa,Ac,yZ,yW];simp only [S8,Ag,seval,N8,h0,h3,hlen,D5,Dc,w1,y3,y1,a1,a2,z,e1p,e2p,e3,e4];exact ⟨_,_,.inr ⟨rfl,rfl,by simp only [S7,Ag,seval]⟩⟩
              · skip
                rw [show Uj i n=true from decide_eq_true (by omega),y2];rw [<- Am];rw [<- Am] at key;simp only [Aa,Ac,yZ,yW];simp only [S8,Ag,seval,N8,h0,h3,hlen,D5,Dc,w1,y3,y1,a1,a2,z,e1p,e2p,e3,e4];exact key _ _ (by simp only [S7,Ag,seval,h0]) (by simp only [S7,Ag,seval])
  · skip
    by_cases i0:i=0
    · have z:((i:Int) == 0)=true:=by rw [i0];rfl
      rw [show Uj i n=false from decide_eq_false (by omega),y0];rw [<- Am];simp only [Aa,Ac,yZ,yW];simp only [S8,Ag,seval,N8,h0,h3,hlen,D5,Dc,w1,y3,y1,a1,z];exact ⟨_,_,.inr ⟨rfl,rfl,by simp only [S7,Ag,seval]⟩⟩
    · have z:((i:Int) == 0)=false:=by rw [beq_eq_false_iff_ne];omega
      by_cases e1:n=95
      · have e1p:((n:Int) != 95)=false:=by rw [e1];rfl
        rw [show Uj i n=true from decide_eq_true (by omega),y2];rw [<- Am];rw [<- Am] at key;simp only [Aa,Ac,yZ,yW];simp only [S8,Ag,seval,N8,h0,h3,hlen,D5,Dc,w1,y3,y1,a1,z,e1p];exact key _ _ (by simp only [S7,Ag,seval,h0]) (by simp only [S7,Ag,seval])
      · have e1p:((n:Int) != 95)=true:=by rw [bne_iff_ne];omega
        by_cases e2:n=45
        · have e2p:((n:Int) != 45)=false:=by rw [e2];rfl
          rw [show Uj i n=true from decide_eq_true (by omega),y2];rw [<- Am];rw [<- Am] at key;simp only [Aa,Ac,yZ,yW];simp only [S8,Ag,seval,N8,h0,h3,hlen,D5,Dc,w1,y3,y1,a1,z,e1p,e2p];exact key _ _ (by simp only [S7,Ag,seval,h0]) (by simp only [S7,Ag,seval])
        · have e2p:((n:Int) != 45)=true:=by rw [bne_iff_ne];omega
          by_cases e3:(n:Int) < 48
          · skip
            rw [show Uj i n=false from decide_eq_false (by omega),y0];rw [<- Am];simp only [Aa,Ac,yZ,yW];simp only [S8,Ag,seval,N8,h0,h3,hlen,D5,Dc,w1,y3,y1,a1,z,e1p,e2p,e3];exact ⟨_,_,.inr ⟨rfl,rfl,by simp only [S7,Ag,seval]⟩⟩
          · by_cases e4:(n:Int) > 57
            · skip
              rw [show Uj i n=false from decide_eq_false (by omega),y0];rw [<- Am];simp only [Aa,Ac,yZ,yW];simp only [S8,Ag,seval,N8,h0,h3,hlen,D5,Dc,w1,y3,y1,a1,z,e1p,e2p,e3,e4];exact ⟨_,_,.inr ⟨rfl,rfl,by simp only [S7,Ag,seval]⟩⟩
            · skip
              rw [show Uj i n=true from decide_eq_true (by omega),y2];rw [<- Am];rw [<- Am] at key;simp only [Aa,Ac,yZ,yW];simp only [S8,Ag,seval,N8,h0,h3,hlen,D5,Dc,w1,y3,y1,a1,z,e1p,e2p,e3,e4];exact key _ _ (by simp only [S7,Ag,seval,h0]) (by simp only [S7,Ag,seval])
theorem So (s:List UInt8) (hs:s.length<=30000):∃ bx,Ae CC 105 [.str s] []=some (.ret (.bool (Fo s)),bx):=by
 rw [Ah (fn:=yZ) (c:=yZ.body.getD .skip) rfl rfl Uw rfl Xa (y6 rfl)];have hlen:=AX s;unfold Fo;by_cases c1:(s.length:Int) < 1
 · rw [decide_eq_false (show ¬ (1<=s.length/\s.length<=24) by omega),y0]
   rw [<- Am];simp only [Aa,Ac,yZ,yW];simp only [S8,Ag,seval,hlen,c1];exact ⟨_,rfl⟩
 · by_cases c2:(s.length:Int) > 24
   · rw [decide_eq_false (show ¬ (1<=s.length/\s.length<=24) by omega),y0]
     rw [<- Am];simp only [Aa,Ac,yZ,yW];simp only [S8,Ag,seval,hlen,c1,c2];exact ⟨_,rfl⟩
   · rw [decide_eq_true (show 1<=s.length/\s.length<=24 by omega),y2]
     have Af:=fun e bx=>Sn _ rfl s hs s.length 0 e bx (by omega);rw [ze] at Af;generalize QN 0 s=v at *;rw [<- Am];rw [<- Am] at Af;simp only [Aa,Ac,yZ,yW] at Af |-;simp only [S8,Ag,seval,hlen,c1,c2];generalize hE:GZ _ _=r
     have hP:vP v r:=by
      rw [<- hE];exact Af _ _ (by simp only [S7,Ag,seval]) (by simp only [S7,Ag,seval] <;> rfl)
     obtain ⟨e',bx',⟨hv,he⟩ | ⟨hv,he,g2⟩⟩:=hP
     · subst he
       subst hv;simp only [S8,Ag,seval];exact ⟨_,rfl⟩
     · subst he
       subst hv;simp only [S8,Ag,seval,g2];exact ⟨_,rfl⟩
theorem Hv (s:List UInt8) (hs:s.length<=30000) (bx):Ak CC (Ae CC) 105 [.str s] bx=some (.ret (.bool (Fo s)),bx):=by
 obtain ⟨b,h⟩:=So s hs;exact Ax rfl (by simp only [SA,za]) h rfl
theorem Ps (L:Code) (hL:L=Aa y5 [1,1,0,1,0]) (s:List UInt8) (hs:s.length<=30000):∀ (k i:Nat) (e:List PV),i+k=s.length->getT e 0=.str s->getT e 14=.bp 0 0 ->
 vP (QN i (s.drop i)) (Cp CC L ⟨e,[.iter s i]⟩):=by
 intro k
 induction k with
 | zero=>
  intro i e hk h0 Yt;rw [A0 (Aa y5 [1,1,0,1,0,0]) hL];have Bq:¬ (i < s.length):=by omega
  rw [zg (by omega)];unfold QN;rw [<- Am];simp only [Aa,Ac,y5,yW];simp only [S8,Ag,seval,Kt,cc,List.getElem?_cons_zero,List.getElem?_cons_succ,h0,Yt,Bq];exact ⟨_,_,.inl ⟨rfl,rfl⟩⟩
 | succ k ih=>
  intro i e hk h0 Yt;rw [A0 (Aa y5 [1,1,0,1,0,0]) hL];have hlen:=AX s;have Bq:i < s.length:=by omega
  have hx:s[i]?=some (s[i]'(by omega)):=by simp
  have KE:s.drop i=(s[i]'(by omega)) :: s.drop (i+1):=zf (by omega);generalize s[i]'(by omega)=c at *;have pU:=qp s i c hx;have rI:=qq s i c hx;have key:=fun e=>ih (i+1) e (by omega);rw [KE];unfold QN;generalize QN (i+1) (s.drop (i+1))=v at *;generalize c.toNat=n at *;clear hx KE;by_cases h128:n < 128
  · have VQ:=pU h128
    have Iq:=Ku (n:Int);by_cases a1:97<=(n:Int)/\(n:Int)<=122
    · rw [decide_eq_true a1] at Iq
      rw [show Uj i n=true from decide_eq_true (by omega),y2];rw [<- Am];rw [<- AK] at Iq;rw [<- Am] at key;simp only [Aa,Ac,y5,yW];simp only [S8,Ag,SG,seval,Kt,y4,h0,Yt,hlen,Bq,Iq,VQ];exact key _ (by simp only [S7,Ag,seval,h0]) (by simp only [S7,Ag,seval,Yt])
    · rw [decide_eq_false a1] at Iq
      by_cases i0:i=0
      · have z:((i:Int) == 0)=true:=by rw [i0];rfl
        rw [show Uj i n=false from decide_eq_false (by omega),y0];rw [<- Am];rw [<- AK] at Iq;simp only [Aa,Ac,y5,yW];simp only [S8,Ag,SG,seval,Kt,y4,h0,Yt,hlen,Bq,Iq,VQ,z];exact ⟨_,_,.inr ⟨rfl,rfl,by simp only [S7,Ag,seval]⟩⟩
      · have z:((i:Int) == 0)=false:=by rw [beq_eq_false_iff_ne];omega
        by_cases e1:n=95
        · have e1p:((n:Int) != 95)=false:=by rw [e1];rfl
          rw [show Uj i n=true from decide_eq_true (by omega),y2];rw [<- Am];rw [<- AK] at Iq;rw [<- Am] at key;simp only [Aa,Ac,y5,yW];simp only [S8,Ag,SG,seval,Kt,y4,h0,Yt,hlen,Bq,Iq,VQ,z,e1p];exact key _ (by simp only [S7,Ag,seval,h0]) (by simp only [S7,Ag,seval,Yt])
        · have e1p:((n:Int) != 95)=true:=by rw [bne_iff_ne];omega
          by_cases e2:n=45
          · have e2p:((n:Int) != 45)=false:=by rw [e2];rfl
            rw [show Uj i n=true from decide_eq_true (by omega),y2];rw [<- Am];rw [<- AK] at Iq;rw [<- Am] at key;simp only [Aa,Ac,y5,yW];simp only [S8,Ag,SG,seval,Kt,y4,h0,Yt,hlen,Bq,Iq,VQ,z,e1p,e2p];exact key _ (by simp only [S7,Ag,seval,h0]) (by simp only [S7,Ag,seval,Yt])
          · have e2p:((n:Int) != 45)=true:=by rw [bne_iff_ne];omega
            by_cases e3:(n:Int) < 48
            · skip
              rw [show Uj i n=false from decide_eq_false (by omega),y0];rw [<- Am];rw [<- AK] at Iq;simp only [Aa,Ac,y5,yW];simp only [S8,Ag,SG,seval,Kt,y4,h0,Yt,hlen,Bq,Iq,VQ,z,e1p,e2p,e3];exact ⟨_,_,.inr ⟨rfl,rfl,by simp only [S7,Ag,seval]⟩⟩
            · by_cases e4:(n:Int) > 57
              · skip
                rw [show Uj i n=false from decide_eq_false (by omega),y0];rw [<- Am];rw [<- AK] at Iq;simp only [Aa,Ac,y5,yW];simp only [S8,Ag,SG,seval,Kt,y4,h0,Yt,hlen,Bq,Iq,VQ,z,e1p,e2p,e3,e4];exact ⟨_,_,.inr ⟨rfl,rfl,by simp only [S7,Ag,seval]⟩⟩
              · skip
                rw [show Uj i n=true from decide_eq_true (by omega),y2];rw [<- Am];rw [<- AK] at Iq;rw [<- Am] at key;simp only [Aa,Ac,y5,yW];simp only [S8,Ag,SG,seval,Kt,y4,h0,Yt,hlen,Bq,Iq,VQ,z,e1p,e2p,e3,e4];exact key _ (by simp only [S7,Ag,seval,h0]) (by simp only [S7,Ag,seval,Yt])
  · have Mg:=rI h128
    rw [show Uj i n=false from decide_eq_false (by omega),y0];generalize VQ:zd ⟨s.toArray⟩ i=d at *;obtain ⟨m,k2⟩:=d;simp only at Mg;have Iq:=Ku (m:Int);rw [decide_eq_false (by omega)] at Iq;by_cases i0:i=0
    · have z:((i:Int) == 0)=true:=by rw [i0];rfl
      rw [<- Am];rw [<- AK] at Iq;simp only [Aa,Ac,y5,yW];simp only [S8,Ag,SG,seval,Kt,y4,h0,Yt,hlen,Bq,Iq,VQ,z];exact ⟨_,_,.inr ⟨rfl,rfl,by simp only [S7,Ag,seval]⟩⟩
    · have z:((i:Int) == 0)=false:=by rw [beq_eq_false_iff_ne];omega
      have e1p:((m:Int) != 95)=true:=by rw [bne_iff_ne];omega
      have e2p:((m:Int) != 45)=true:=by rw [bne_iff_ne];omega
      have e3:¬ ((m:Int) < 48):=by omega
      have e4:((m:Int) > 57):=by omega
      rw [<- Am];rw [<- AK] at Iq;simp only [Aa,Ac,y5,yW];simp only [S8,Ag,SG,seval,Kt,y4,h0,Yt,hlen,Bq,Iq,VQ,z,e1p,e2p,e3,e4];exact ⟨_,_,.inr ⟨rfl,rfl,by simp only [S7,Ag,seval]⟩⟩
theorem Pt (s:List UInt8) (hs:s.length<=30000):∃ bx,Ae CC 59 [.str s] []=some (.ret (.bool (Fo s)),bx):=by
 rw [Ah (fn:=y5) (c:=y5.body.getD .skip) rfl rfl QM rfl Sm (y6 rfl)];have hlen:=AX s;unfold Fo;by_cases c1:(s.length:Int) < 1
 · rw [decide_eq_false (show ¬ (1<=s.length/\s.length<=24) by omega),y0]
   rw [<- Am];simp only [Aa,Ac,y5,yW];simp only [S8,Ag,seval,hlen,c1];exact ⟨_,rfl⟩
 · by_cases c2:(s.length:Int) > 24
   · rw [decide_eq_false (show ¬ (1<=s.length/\s.length<=24) by omega),y0]
     rw [<- Am];simp only [Aa,Ac,y5,yW];simp only [S8,Ag,seval,hlen,c1,c2];exact ⟨_,rfl⟩
   · rw [decide_eq_true (show 1<=s.length/\s.length<=24 by omega),y2]
     have Af:=fun e=>Ps _ rfl s hs s.length 0 e (by omega);rw [ze] at Af;have mC:CC.P.underlying 9=some .string:=by kernel_rfl
     generalize QN 0 s=v at *;rw [<- Am];rw [<- Am] at Af;simp only [Aa,Ac,y5,yW] at Af |-;simp only [S8,Ag,seval,hlen,c1,c2,cp,mC,List.nil_append];generalize hE:GZ _ _=r
     have hP:vP v r:=by
      rw [<- hE];exact Af _ (by simp only [S7,Ag,seval]) (by simp only [S7,Ag,seval])
     obtain ⟨e',bx',⟨hv,he⟩ | ⟨hv,he,g2⟩⟩:=hP
     · subst he
       subst hv;simp only [S8,Ag,seval];exact ⟨_,rfl⟩
     · subst he
       subst hv;simp only [S8,Ag,seval,g2];exact ⟨_,rfl⟩
theorem F7 (s:List UInt8) (hs:s.length<=30000) (bx):Ak CC (Ae CC) 59 [.str s] bx=some (.ret (.bool (Fo s)),bx):=by
 obtain ⟨b,h⟩:=Pt s hs;exact Ax rfl (by simp only [SA,za]) h rfl
abbrev Ky:=Int×List UInt8×List UInt8
inductive Tr where
 | mk (k n m:Int) (nm:List UInt8) (v:Vl) (key:Ky) (kids:List Tr)
mutual
def DH:Tr->PV
 | .mk k n m nm v key kids=>.agg [.int .i64 k,.int .i64 n,.int .i64 m,.str nm,.int .i64 v.1,.int .i64 v.2.1,.str v.2.2,.int .i64 key.1,.str key.2.1,.str key.2.2,.sl (BS kids)]
def BS:List Tr->List PV
 | []=>[]
 | t :: r=>DH t :: BS r
end
theorem Sq:∀ l:List Tr,BS l=l.map DH
 | []=>by unfold BS;rfl
 | t :: r=>by unfold BS;rw [Sq r];rfl
theorem DC (l:List Tr):(BS l).length=l.length:=by rw [Sq,List.length_map]
theorem Sr {l:List Tr} {i:Nat} {t:Tr} (h:l[i]?=some t):(BS l)[i]?=some (DH t):=by rw [Sq,List.getElem?_map,h];rfl
theorem sF:zeroCells CC 35=some [.int .i64 0,.int .i64 0,.int .i64 0,.str [],.int .i64 0,.int .i64 0,.str [],.int .i64 0,.str [],.str [],.nils]:=by kernel_rfl
end Go.HH
