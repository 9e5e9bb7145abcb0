/-
  What the law needs, packed: N0 C0 Q1.
-/
import Derived.Test.YthjcaihemgllaaaGreatDoorProg
import Derived.Lib.ItoaNum
import Derived.Lib.Bytealg
import Derived.KernelRfl
import Derived.Test.YthjcaihemgllaaaGreatDoorJ32
open Option renaming getD->Aa0,map_some->Aae
open Go.Proofs.Tryz renaming f118->Aa1,f29->Aa3,prog->Aa6,f149->Aa8,f56->Aab
open List renaming set_cons_zero->Aa2,drop_zero->Aaf
open And renaming intro->Aa4
open Bool renaming false_and->Aa5,true_and->Aa9,and_true->Aaa,and_self->Aah
open Nat renaming le_of_ble_eq_true->Aa7,add_zero->Aai
open Go.Utf8 renaming decode->Aac
open Go.Lib renaming indexByte->Aad,itoa->Aag
namespace Go.HH
open Go
open Go Go.Proofs
set_option maxRecDepth 100000
def U1:List PV->Option PV
 | [.int .i64 n]=>if Dx n then some (.str (Aag n)) else none
 | _=>none
def Ds:List PV:=Lib.pow10Tab.map (.int .u64)
def fi:List PV->Option PV
 | [.str s,.int .u8 c]=>some (.int .i64 (Aad s c.toNat.toUInt8))
 | _=>none
def Q9:Nat->Option (List PV):=
 fun g=>if g=1 then some Ds else none
def az (f:FuncId):Option (List PV->Option PV):=
 if f=125 then some U1 else
 if f=136 then some fi else
 none
def uV:List PV->List PBox->Option (Bool×PV×List PBox)
 | [.bp id 0],bx=>match bx[id]? with
  | some (.cells t [.nilp,q])=>if t=153 then some (false,.tup [],bx.set id (.cells t [.bp id 0,q])) else none
  | some (.cells t [.bp id' 0,q])=>if id'=id/\t=153 then some (false,.tup [],bx) else none
  | _=>none
 | _,_=>none
def U2:PV->Bool
 | .int .u8 n=>decide (0<=n) && decide (n < 256)
 | _=>false
def Pb:List PV->List PBox->Option (Bool×PV×List PBox)
 | [.bp id 0],bx=>match bx[id]? with
  | some (.cells t [_,.nils])=>if t=153 then some (false,.str [],bx) else none
  | some (.cells t [p,.osl e xs])=>if t=153/\e=5/\xs.isEmpty=false/\xs.all U2=true then (bytesOf xs).map fun l=>(false,.str l,bx.set id (.cells t [p,.sl xs])) else none
  | _=>none
 | _,_=>none
def nH (f:FuncId):Option (List PV->List PBox->Option (Bool×PV×List PBox)):=
 if f=166 then some uV else if f=157 then some Pb else
 none
def iY (f:FuncId):Bool:=
 if f=48 then true else
 false
def fj:List PV->PV
 | [x]=>x.ro.shutV
 | _=>.nils
def nI (cs:List PV):PV:=(PV.agg (cs.map PV.ro)).shutV
def G9:List PV:=[.int .i64 0,.int .i64 0,.int .i64 0,.str [],.int .i64 0,.int .i64 0,.str [],.int .i64 0,.str [],.str [],.nils]
def Ll (s:List UInt8):List PV:=[.str s,und,.bp 0 0,.bp 1 0,.bp 2 0]
noncomputable def Lm:Cat:=⟨Ac [1,1] (Tryz.f24.body.getD .skip),VZ 51 Ll [.cells 41 [.nils],.cells 3 [.int .i64 0],.cells 35 [.int .i64 0]],I5 84 1 [.osl 32 []] fj⟩
noncomputable def vF:Cat:=⟨Ac [1,1] (Tryz.f22.body.getD .skip),VZ 47 Ll [.cells 29 G9,.cells 3 [.int .i64 0],.cells 35 [.int .i64 0]],I5 84 11 G9 nI⟩
noncomputable def iZ (f:FuncId):Option Cat:=
 if f=24 then some Lm else if f=22 then some vF else
 none
noncomputable def CC:Cfg:={ P:=Aa6,glob:=Q9,prim:=az,heap:=iY,hprim:=nH,cat:=iZ }
noncomputable def Hp:=(X8 CC).choose
noncomputable def gL2:=(X8 CC).choose_spec.choose
noncomputable def gL3:=(X8 CC).choose_spec.choose_spec.choose
noncomputable def vG:=(X8 CC).choose_spec.choose_spec.choose_spec.choose
theorem y8:(Hp=Co CC/\vG=Ai CC (Ad CC))/\uU CC Hp gL2 gL3 vG:=(X8 CC).choose_spec.choose_spec.choose_spec.choose_spec
theorem An:Hp=Co CC:=y8.1.1
theorem AL:vG=Ai CC (Ad CC):=y8.1.2
theorem Ag:uU CC Hp gL2 gL3 vG:=y8.2
noncomputable def uW:=(NQ CC).choose
noncomputable def S5:=(NQ CC).choose_spec.choose
noncomputable def yq:=(NQ CC).choose_spec.choose_spec.choose
noncomputable def gB3:=(NQ CC).choose_spec.choose_spec.choose_spec.choose
noncomputable def Zy:=(NQ CC).choose_spec.choose_spec.choose_spec.choose_spec.choose
theorem vH:(S5=Lh CC/\Zy=Ai CC (Ad CC)/\yq=evOps CC (Ad CC)/\uW=GY CC (Ad CC))/\y7 CC uW S5 yq gB3 Zy:=(NQ CC).choose_spec.choose_spec.choose_spec.choose_spec.choose_spec
theorem Cf:S5=Lh CC:=vH.1.1
theorem C3:Zy=Ai CC (Ad CC):=vH.1.2.1
theorem Mv:yq=evOps CC (Ad CC):=vH.1.2.2.1
theorem IQ:uW=GY CC (Ad CC):=vH.1.2.2.2
theorem A5:y7 CC uW S5 yq gB3 Zy:=vH.2
noncomputable def yr:=(L1 CC).choose
noncomputable def yt:=(L1 CC).choose_spec.choose
noncomputable def yv:=(L1 CC).choose_spec.choose_spec.choose
noncomputable def yw:=(L1 CC).choose_spec.choose_spec.choose_spec.choose
theorem vI:(yr=Co CC/\yw=Ai CC (Ad CC)/\yt=evOps CC (Ad CC)/\yv=Bp CC (Ad CC))/\uU CC yr yt yv yw:=(L1 CC).choose_spec.choose_spec.choose_spec.choose_spec
theorem gZh:yr=Co CC:=vI.1.1
theorem gZc:yw=Ai CC (Ad CC):=vI.1.2.1
theorem gZe:yt=evOps CC (Ad CC):=vI.1.2.2.1
theorem NS:yv=Bp CC (Ad CC):=vI.1.2.2.2
theorem I6:uU CC yr yt yv yw:=vI.2
theorem ja (f:FuncId):CC.heap f=(f == 48):=by
 show iY f=_;unfold iY;by_cases yR:f=48
 · subst yR;rfl
 simp [yR]
theorem vJ:AP CC 1=false/\CC.P.underlying 2=some (.int .i64)/\tAgg CC 2=false/\AP CC 2=false/\AN CC 2=true/\tSize CC 2=some 1/\(CC.P.info? 2).isSome=true/\CC.P.underlying 3=some (.int .i64)/\tAgg CC 3=false/\AP CC 3=false/\AN CC 3=true/\tSize CC 3=some 1/\(CC.P.info? 3).isSome=true/\CC.P.underlying 4=some .bool/\tAgg CC 4=false/\AP CC 4=false/\AN CC 4=true/\tSize CC 4=some 1/\(CC.P.info? 4).isSome=true/\CC.P.underlying 5=some (.int .u8)/\tAgg CC 5=false/\AP CC 5=false/\AN CC 5=true/\tSize CC 5=some 1/\(CC.P.info? 5).isSome=true/\CC.P.underlying 9=some .string/\tAgg CC 9=false/\AP CC 9=false/\AN CC 9=true/\tSize CC 9=some 1/\(CC.P.info? 9).isSome=true/\CC.P.underlying 12=some (.int .u64)/\tAgg CC 12=false/\AP CC 12=false/\AN CC 12=true/\tSize CC 12=some 1/\(CC.P.info? 12).isSome=true/\tAgg CC 20=false/\AP CC 20=false/\AN CC 20=true:=by
 repeat' apply Aa4
 all_goals (intros;kernel_rfl)
theorem vK:tSize CC 20=some 1/\CC.P.underlying 21=some (.int .i32)/\tAgg CC 21=false/\AP CC 21=false/\AN CC 21=true/\tSize CC 21=some 1/\(CC.P.info? 21).isSome=true/\CC.P.underlying 22=some (.slice 58)/\Q6 CC 22=.osl 58 []/\tAgg CC 22=false/\AP CC 22=false/\AN CC 22=false/\tSize CC 22=some 1/\(CC.P.info? 22).isSome=true/\tAgg CC 24=true/\AP CC 24=false/\AN CC 24=true/\tSize CC 24=some 3/\(CC.P.info? 24).isSome=true/\(∀ cs,AG CC 24 0 (.ip cs)=some (.ip (cs.drop 0)))/\(∀ i o,AG CC 24 0 (.bp i o)=some (.bp i (o+0)))/\(∀ cs,Bi CC 24 0 (.agg cs)=BG CC 3 cs 0)/\(∀ cs,AG CC 24 1 (.ip cs)=some (.ip (cs.drop 1)))/\(∀ i o,AG CC 24 1 (.bp i o)=some (.bp i (o+1)))/\(∀ cs,Bi CC 24 1 (.agg cs)=BG CC 3 cs 1)/\(∀ cs,AG CC 24 2 (.ip cs)=some (.ip (cs.drop 2)))/\(∀ i o,AG CC 24 2 (.bp i o)=some (.bp i (o+2)))/\(∀ cs,Bi CC 24 2 (.agg cs)=BG CC 9 cs 2)/\tAgg CC 26=true/\AP CC 26=false/\AN CC 26=true/\tSize CC 26=some 3/\(CC.P.info? 26).isSome=true/\(∀ cs,AG CC 26 0 (.ip cs)=some (.ip (cs.drop 0)))/\(∀ i o,AG CC 26 0 (.bp i o)=some (.bp i (o+0)))/\(∀ cs,Bi CC 26 0 (.agg cs)=BG CC 3 cs 0)/\(∀ cs,AG CC 26 1 (.ip cs)=some (.ip (cs.drop 1)))/\(∀ i o,AG CC 26 1 (.bp i o)=some (.bp i (o+1)))/\(∀ cs,Bi CC 26 1 (.agg cs)=BG CC 9 cs 1)/\(∀ cs,AG CC 26 2 (.ip cs)=some (.ip (cs.drop 2))):=by
 repeat' apply Aa4
 all_goals (intros;kernel_rfl)
theorem vL:(∀ i o,AG CC 26 2 (.bp i o)=some (.bp i (o+2)))/\(∀ cs,Bi CC 26 2 (.agg cs)=BG CC 9 cs 2)/\CC.P.underlying 27=some (.slice 29)/\Q6 CC 27=.osl 29 []/\tAgg CC 27=false/\AP CC 27=false/\AN CC 27=false/\tSize CC 27=some 1/\(CC.P.info? 27).isSome=true/\tAgg CC 29=true/\AP CC 29=false/\AN CC 29=true/\tSize CC 29=some 11/\(CC.P.info? 29).isSome=true/\(∀ cs,AG CC 29 0 (.ip cs)=some (.ip (cs.drop 0)))/\(∀ i o,AG CC 29 0 (.bp i o)=some (.bp i (o+0)))/\(∀ cs,Bi CC 29 0 (.agg cs)=BG CC 3 cs 0)/\(∀ cs,AG CC 29 1 (.ip cs)=some (.ip (cs.drop 1)))/\(∀ i o,AG CC 29 1 (.bp i o)=some (.bp i (o+1)))/\(∀ cs,Bi CC 29 1 (.agg cs)=BG CC 3 cs 1)/\(∀ cs,AG CC 29 2 (.ip cs)=some (.ip (cs.drop 2)))/\(∀ i o,AG CC 29 2 (.bp i o)=some (.bp i (o+2)))/\(∀ cs,Bi CC 29 2 (.agg cs)=BG CC 3 cs 2)/\(∀ cs,AG CC 29 3 (.ip cs)=some (.ip (cs.drop 3)))/\(∀ i o,AG CC 29 3 (.bp i o)=some (.bp i (o+3)))/\(∀ cs,Bi CC 29 3 (.agg cs)=BG CC 9 cs 3)/\(∀ cs,AG CC 29 4 (.ip cs)=some (.ip (cs.drop 4)))/\(∀ i o,AG CC 29 4 (.bp i o)=some (.bp i (o+4)))/\(∀ cs,Bi CC 29 4 (.agg cs)=BG CC 24 cs 4)/\(∀ cs,AG CC 29 5 (.ip cs)=some (.ip (cs.drop 7)))/\(∀ i o,AG CC 29 5 (.bp i o)=some (.bp i (o+7)))/\(∀ cs,Bi CC 29 5 (.agg cs)=BG CC 26 cs 7)/\(∀ cs,AG CC 29 6 (.ip cs)=some (.ip (cs.drop 10)))/\(∀ i o,AG CC 29 6 (.bp i o)=some (.bp i (o+10)))/\(∀ cs,Bi CC 29 6 (.agg cs)=BG CC 27 cs 10)/\CC.P.underlying 30=some (.slice 60)/\Q6 CC 30=.osl 60 []/\tAgg CC 30=false/\AP CC 30=false/\AN CC 30=false:=by
 repeat' apply Aa4
 all_goals (intros;kernel_rfl)
theorem vM:tSize CC 30=some 1/\(CC.P.info? 30).isSome=true/\tAgg CC 32=true/\AP CC 32=false/\AN CC 32=true/\tSize CC 32=some 15/\(CC.P.info? 32).isSome=true/\(∀ cs,AG CC 32 0 (.ip cs)=some (.ip (cs.drop 0)))/\(∀ i o,AG CC 32 0 (.bp i o)=some (.bp i (o+0)))/\(∀ cs,Bi CC 32 0 (.agg cs)=BG CC 9 cs 0)/\(∀ cs,AG CC 32 1 (.ip cs)=some (.ip (cs.drop 1)))/\(∀ i o,AG CC 32 1 (.bp i o)=some (.bp i (o+1)))/\(∀ cs,Bi CC 32 1 (.agg cs)=BG CC 3 cs 1)/\(∀ cs,AG CC 32 2 (.ip cs)=some (.ip (cs.drop 2)))/\(∀ i o,AG CC 32 2 (.bp i o)=some (.bp i (o+2)))/\(∀ cs,Bi CC 32 2 (.agg cs)=BG CC 22 cs 2)/\(∀ cs,AG CC 32 3 (.ip cs)=some (.ip (cs.drop 3)))/\(∀ i o,AG CC 32 3 (.bp i o)=some (.bp i (o+3)))/\(∀ cs,Bi CC 32 3 (.agg cs)=BG CC 29 cs 3)/\(∀ cs,AG CC 32 4 (.ip cs)=some (.ip (cs.drop 14)))/\(∀ i o,AG CC 32 4 (.bp i o)=some (.bp i (o+14)))/\(∀ cs,Bi CC 32 4 (.agg cs)=BG CC 30 cs 14)/\AP CC 33=false/\AP CC 34=false/\CC.P.underlying 35=some (.int .i64)/\tAgg CC 35=false/\AP CC 35=false/\AN CC 35=true/\tSize CC 35=some 1/\(CC.P.info? 35).isSome=true/\AP CC 36=false/\AP CC 37=false/\AP CC 39=false/\AP CC 40=false/\CC.P.underlying 41=some (.slice 32)/\Q6 CC 41=.osl 32 []/\tAgg CC 41=false/\AP CC 41=false/\AN CC 41=false/\tSize CC 41=some 1:=by
 repeat' apply Aa4
 all_goals (intros;kernel_rfl)
theorem vN:(CC.P.info? 41).isSome=true/\AP CC 42=false/\AP CC 43=false/\AP CC 44=false/\CC.P.underlying 45=some (.slice 80)/\Q6 CC 45=.osl 80 []/\tAgg CC 45=false/\AP CC 45=false/\AN CC 45=false/\tSize CC 45=some 1/\(CC.P.info? 45).isSome=true/\AP CC 47=false/\AP CC 49=false/\AP CC 50=false/\AP CC 52=false/\AP CC 53=false/\AP CC 54=false/\tAgg CC 56=true/\AP CC 56=false/\AN CC 56=true/\tSize CC 56=some 3/\(CC.P.info? 56).isSome=true/\(∀ cs,AG CC 56 0 (.ip cs)=some (.ip (cs.drop 0)))/\(∀ i o,AG CC 56 0 (.bp i o)=some (.bp i (o+0)))/\(∀ cs,Bi CC 56 0 (.agg cs)=BG CC 3 cs 0)/\(∀ cs,AG CC 56 1 (.ip cs)=some (.ip (cs.drop 1)))/\(∀ i o,AG CC 56 1 (.bp i o)=some (.bp i (o+1)))/\(∀ cs,Bi CC 56 1 (.agg cs)=BG CC 9 cs 1)/\(∀ cs,AG CC 56 2 (.ip cs)=some (.ip (cs.drop 2)))/\(∀ i o,AG CC 56 2 (.bp i o)=some (.bp i (o+2)))/\(∀ cs,Bi CC 56 2 (.agg cs)=BG CC 9 cs 2)/\tAgg CC 58=true/\AP CC 58=false/\AN CC 58=true/\tSize CC 58=some 10/\(CC.P.info? 58).isSome=true/\(∀ cs,AG CC 58 0 (.ip cs)=some (.ip (cs.drop 0)))/\(∀ i o,AG CC 58 0 (.bp i o)=some (.bp i (o+0)))/\(∀ cs,Bi CC 58 0 (.agg cs)=BG CC 3 cs 0)/\(∀ cs,AG CC 58 1 (.ip cs)=some (.ip (cs.drop 1))):=by
 repeat' apply Aa4
 all_goals (intros;kernel_rfl)
theorem vO:(∀ i o,AG CC 58 1 (.bp i o)=some (.bp i (o+1)))/\(∀ cs,Bi CC 58 1 (.agg cs)=BG CC 26 cs 1)/\(∀ cs,AG CC 58 2 (.ip cs)=some (.ip (cs.drop 4)))/\(∀ i o,AG CC 58 2 (.bp i o)=some (.bp i (o+4)))/\(∀ cs,Bi CC 58 2 (.agg cs)=BG CC 56 cs 4)/\(∀ cs,AG CC 58 3 (.ip cs)=some (.ip (cs.drop 7)))/\(∀ i o,AG CC 58 3 (.bp i o)=some (.bp i (o+7)))/\(∀ cs,Bi CC 58 3 (.agg cs)=BG CC 9 cs 7)/\(∀ cs,AG CC 58 4 (.ip cs)=some (.ip (cs.drop 8)))/\(∀ i o,AG CC 58 4 (.bp i o)=some (.bp i (o+8)))/\(∀ cs,Bi CC 58 4 (.agg cs)=BG CC 3 cs 8)/\(∀ cs,AG CC 58 5 (.ip cs)=some (.ip (cs.drop 9)))/\(∀ i o,AG CC 58 5 (.bp i o)=some (.bp i (o+9)))/\(∀ cs,Bi CC 58 5 (.agg cs)=BG CC 3 cs 9)/\tAgg CC 60=true/\AP CC 60=false/\AN CC 60=true/\tSize CC 60=some 16/\(CC.P.info? 60).isSome=true/\(∀ cs,AG CC 60 0 (.ip cs)=some (.ip (cs.drop 0)))/\(∀ i o,AG CC 60 0 (.bp i o)=some (.bp i (o+0)))/\(∀ cs,Bi CC 60 0 (.agg cs)=BG CC 3 cs 0)/\(∀ cs,AG CC 60 1 (.ip cs)=some (.ip (cs.drop 1)))/\(∀ i o,AG CC 60 1 (.bp i o)=some (.bp i (o+1)))/\(∀ cs,Bi CC 60 1 (.agg cs)=BG CC 26 cs 1)/\(∀ cs,AG CC 60 2 (.ip cs)=some (.ip (cs.drop 4)))/\(∀ i o,AG CC 60 2 (.bp i o)=some (.bp i (o+4)))/\(∀ cs,Bi CC 60 2 (.agg cs)=BG CC 9 cs 4)/\(∀ cs,AG CC 60 3 (.ip cs)=some (.ip (cs.drop 5)))/\(∀ i o,AG CC 60 3 (.bp i o)=some (.bp i (o+5)))/\(∀ cs,Bi CC 60 3 (.agg cs)=BG CC 29 cs 5)/\AP CC 61=false/\AP CC 62=false/\AP CC 63=false/\AP CC 64=false/\AP CC 65=false/\AP CC 66=false/\AP CC 68=false/\AP CC 69=false/\CC.P.underlying 70=some (.slice 5):=by
 repeat' apply Aa4
 all_goals (intros;kernel_rfl)
theorem vP:Q6 CC 70=.osl 5 []/\tAgg CC 70=false/\AP CC 70=false/\AN CC 70=false/\tSize CC 70=some 1/\(CC.P.info? 70).isSome=true/\tAgg CC 72=true/\AP CC 72=false/\AN CC 72=true/\tSize CC 72=some 1/\(CC.P.info? 72).isSome=true/\(∀ cs,AG CC 72 0 (.ip cs)=some (.ip (cs.drop 0)))/\(∀ i o,AG CC 72 0 (.bp i o)=some (.bp i (o+0)))/\(∀ cs,Bi CC 72 0 (.agg cs)=BG CC 70 cs 0)/\AP CC 73=false/\AP CC 74=false/\AP CC 75=false/\AP CC 76=false/\AP CC 77=false/\AP CC 78=false/\tAgg CC 80=true/\AP CC 80=false/\AN CC 80=true/\tSize CC 80=some 3/\(CC.P.info? 80).isSome=true/\(∀ cs,AG CC 80 0 (.ip cs)=some (.ip (cs.drop 0)))/\(∀ i o,AG CC 80 0 (.bp i o)=some (.bp i (o+0)))/\(∀ cs,Bi CC 80 0 (.agg cs)=BG CC 3 cs 0)/\(∀ cs,AG CC 80 1 (.ip cs)=some (.ip (cs.drop 1)))/\(∀ i o,AG CC 80 1 (.bp i o)=some (.bp i (o+1)))/\(∀ cs,Bi CC 80 1 (.agg cs)=BG CC 9 cs 1)/\(∀ cs,AG CC 80 2 (.ip cs)=some (.ip (cs.drop 2)))/\(∀ i o,AG CC 80 2 (.bp i o)=some (.bp i (o+2)))/\(∀ cs,Bi CC 80 2 (.agg cs)=BG CC 3 cs 2)/\AP CC 82=false/\tAgg CC 84=true/\AP CC 84=false/\AN CC 84=true/\tSize CC 84=some 2/\(CC.P.info? 84).isSome=true:=by
 repeat' apply Aa4
 all_goals (intros;kernel_rfl)
theorem vQ:(∀ cs,AG CC 84 0 (.ip cs)=some (.ip (cs.drop 0)))/\(∀ i o,AG CC 84 0 (.bp i o)=some (.bp i (o+0)))/\(∀ cs,Bi CC 84 0 (.agg cs)=BG CC 3 cs 0)/\(∀ cs,AG CC 84 1 (.ip cs)=some (.ip (cs.drop 1)))/\(∀ i o,AG CC 84 1 (.bp i o)=some (.bp i (o+1)))/\(∀ cs,Bi CC 84 1 (.agg cs)=BG CC 35 cs 1)/\CC.P.underlying 86=some (.pointer 92)/\tAgg CC 86=false/\AP CC 86=true/\AN CC 86=true/\tSize CC 86=some 1/\(CC.P.info? 86).isSome=true/\AP CC 87=false/\AP CC 88=false/\AP CC 89=false/\AP CC 90=false/\tAgg CC 92=true/\AP CC 92=false/\AN CC 92=true/\tSize CC 92=some 4/\(CC.P.info? 92).isSome=true/\(∀ cs,AG CC 92 0 (.ip cs)=some (.ip (cs.drop 0)))/\(∀ i o,AG CC 92 0 (.bp i o)=some (.bp i (o+0)))/\(∀ cs,Bi CC 92 0 (.agg cs)=BG CC 45 cs 0)/\(∀ cs,AG CC 92 1 (.ip cs)=some (.ip (cs.drop 1)))/\(∀ i o,AG CC 92 1 (.bp i o)=some (.bp i (o+1)))/\(∀ cs,Bi CC 92 1 (.agg cs)=BG CC 3 cs 1)/\(∀ cs,AG CC 92 2 (.ip cs)=some (.ip (cs.drop 2)))/\(∀ i o,AG CC 92 2 (.bp i o)=some (.bp i (o+2)))/\(∀ cs,Bi CC 92 2 (.agg cs)=BG CC 3 cs 2)/\(∀ cs,AG CC 92 3 (.ip cs)=some (.ip (cs.drop 3)))/\(∀ i o,AG CC 92 3 (.bp i o)=some (.bp i (o+3)))/\(∀ cs,Bi CC 92 3 (.agg cs)=BG CC 41 cs 3)/\AP CC 93=false/\AP CC 94=false/\AP CC 95=false/\AP CC 96=false/\AP CC 97=false/\AP CC 98=false/\AP CC 99=false:=by
 repeat' apply Aa4
 all_goals (intros;kernel_rfl)
theorem vR:AP CC 100=false/\AP CC 102=false/\AP CC 103=false/\AP CC 104=false/\AP CC 105=false/\AP CC 106=false/\AP CC 107=false/\AP CC 108=false/\AP CC 109=false/\AP CC 110=false/\CC.P.underlying 111=some (.slice 9)/\Q6 CC 111=.osl 9 []/\tAgg CC 111=false/\AP CC 111=false/\AN CC 111=false/\tSize CC 111=some 1/\(CC.P.info? 111).isSome=true/\CC.P.underlying 112=some (.pointer 72)/\tAgg CC 112=false/\AP CC 112=true/\AN CC 112=true/\tSize CC 112=some 1/\(CC.P.info? 112).isSome=true/\AP CC 113=false/\AP CC 114=false/\AP CC 115=false/\AP CC 116=false/\AP CC 118=false/\AP CC 119=false/\AP CC 120=false/\AP CC 121=false/\AP CC 122=false/\AP CC 123=false/\AP CC 124=false/\AP CC 125=false/\AP CC 126=false/\AP CC 127=false/\AP CC 128=false/\AP CC 129=false/\AP CC 130=false:=by
 repeat' apply Aa4
 all_goals (intros;kernel_rfl)
theorem vS:CC.P.underlying 131=some (.array 5 9)/\tAgg CC 131=true/\AP CC 131=false/\AN CC 131=true/\tSize CC 131=some 5/\(CC.P.info? 131).isSome=true/\AP CC 132=false/\CC.P.underlying 133=some (.int .u64)/\tAgg CC 133=false/\AP CC 133=false/\AN CC 133=true/\tSize CC 133=some 1/\(CC.P.info? 133).isSome=true/\AP CC 134=false/\AP CC 135=false/\AP CC 137=false/\AP CC 138=false/\AP CC 139=false/\AP CC 140=false/\AP CC 141=false/\AP CC 142=false/\AP CC 143=false/\AP CC 144=false/\AP CC 146=false/\AP CC 147=false/\AP CC 149=false/\CC.P.underlying 150=some (.array 7 9)/\tAgg CC 150=true/\AP CC 150=false/\AN CC 150=true/\tSize CC 150=some 7/\(CC.P.info? 150).isSome=true/\CC.P.underlying 151=some (.pointer 153)/\tAgg CC 151=false/\AP CC 151=true/\AN CC 151=true/\tSize CC 151=some 1/\(CC.P.info? 151).isSome=true/\tAgg CC 153=true/\AP CC 153=false:=by
 repeat' apply Aa4
 all_goals (intros;kernel_rfl)
theorem qc:AN CC 153=true/\tSize CC 153=some 2/\(CC.P.info? 153).isSome=true/\(∀ cs,AG CC 153 0 (.ip cs)=some (.ip (cs.drop 0)))/\(∀ i o,AG CC 153 0 (.bp i o)=some (.bp i (o+0)))/\(∀ cs,Bi CC 153 0 (.agg cs)=BG CC 151 cs 0)/\(∀ cs,AG CC 153 1 (.ip cs)=some (.ip (cs.drop 1)))/\(∀ i o,AG CC 153 1 (.bp i o)=some (.bp i (o+1)))/\(∀ cs,Bi CC 153 1 (.agg cs)=BG CC 70 cs 1)/\tAgg CC 154=false/\AP CC 154=false/\AN CC 154=true/\tSize CC 154=some 1/\tAgg CC 155=false/\AP CC 155=false/\AN CC 155=true/\tSize CC 155=some 1/\AP CC 157=false/\AP CC 158=false/\AP CC 159=false/\AP CC 160=false/\AP CC 161=false/\AP CC 162=false/\AP CC 163=false/\CC.P.underlying 164=some (.pointer 5)/\tAgg CC 164=false/\AP CC 164=true/\AN CC 164=true/\tSize CC 164=some 1/\(CC.P.info? 164).isSome=true/\AP CC 165=false/\AP CC 167=false/\AP CC 168=false/\CC.P.underlying 169=some (.array 24 5)/\tAgg CC 169=true/\AP CC 169=false/\AN CC 169=true/\tSize CC 169=some 24/\(CC.P.info? 169).isSome=true/\CC.P.underlying 170=some (.int .u64):=by
 repeat' apply Aa4
 all_goals (intros;kernel_rfl)
theorem qe:tAgg CC 170=false/\AP CC 170=false/\AN CC 170=true/\tSize CC 170=some 1/\(CC.P.info? 170).isSome=true/\AP CC 171=false/\AP CC 172=false/\AP CC 174=false/\AP CC 176=false/\AP CC 177=false/\CC.P.underlying 178=some (.array 20 170)/\tAgg CC 178=true/\AP CC 178=false/\AN CC 178=true/\tSize CC 178=some 20/\(CC.P.info? 178).isSome=true/\CC.P.underlying 179=some (.int .u32)/\tAgg CC 179=false/\AP CC 179=false/\AN CC 179=true/\tSize CC 179=some 1/\(CC.P.info? 179).isSome=true/\CC.P.underlying 180=some (.array 65 5)/\tAgg CC 180=true/\AP CC 180=false/\AN CC 180=true/\tSize CC 180=some 65/\(CC.P.info? 180).isSome=true/\AP CC 181=false/\AP CC 182=false/\CC.P.underlying 183=some (.array 32 5)/\tAgg CC 183=true/\AP CC 183=false/\AN CC 183=true/\tSize CC 183=some 32/\(CC.P.info? 183).isSome=true/\CC.P.underlying 184=some (.array 64 5)/\tAgg CC 184=true/\AP CC 184=false/\AN CC 184=true:=by
 repeat' apply Aa4
 all_goals (intros;kernel_rfl)
theorem qf:tSize CC 184=some 64/\(CC.P.info? 184).isSome=true/\CC.P.underlying 185=some (.array 4 9)/\tAgg CC 185=true/\AP CC 185=false/\AN CC 185=true/\tSize CC 185=some 4/\(CC.P.info? 185).isSome=true/\AP CC 193=false:=by
 repeat' apply Aa4
 all_goals (intros;kernel_rfl)
theorem TG:(type_of% vJ)/\(type_of% vK)/\(type_of% vL)/\(type_of% vM)/\(type_of% vN)/\(type_of% vO)/\(type_of% vP)/\(type_of% vQ)/\(type_of% vR)/\(type_of% vS)/\(type_of% qc)/\(type_of% qe)/\(type_of% qf)/\(∀ f,CC.heap f=(f == 48)):=
 ⟨vJ,vK,vL,vM,vN,vO,vP,vQ,vR,vS,qc,qe,qf,ja⟩
noncomputable def vU:Array Field:=match Aa6.underlying 24 with | some (.struct f)=>f | _=>#[]
noncomputable def vV:Array Field:=match Aa6.underlying 29 with | some (.struct f)=>f | _=>#[]
noncomputable def vW:Array Field:=match Aa6.underlying 26 with | some (.struct f)=>f | _=>#[]
noncomputable def vX:Array Field:=match Aa6.underlying 56 with | some (.struct f)=>f | _=>#[]
noncomputable def vY:Array Field:=match Aa6.underlying 58 with | some (.struct f)=>f | _=>#[]
noncomputable def vZ:Array Field:=match Aa6.underlying 60 with | some (.struct f)=>f | _=>#[]
noncomputable def v7:Array Field:=match Aa6.underlying 32 with | some (.struct f)=>f | _=>#[]
noncomputable def v8:Array Field:=match Aa6.underlying 80 with | some (.struct f)=>f | _=>#[]
theorem UT:CC.P.underlying 24=some (.struct vU)/\CC.P.underlying 29=some (.struct vV)/\CC.P.underlying 26=some (.struct vW)/\CC.P.underlying 56=some (.struct vX)/\CC.P.underlying 58=some (.struct vY)/\CC.P.underlying 60=some (.struct vZ)/\CC.P.underlying 32=some (.struct v7)/\CC.P.underlying 80=some (.struct v8):=by
 repeat' apply Aa4
 all_goals kernel_rfl
theorem S7:(type_of% @SA)/\(type_of% @SB)/\(type_of% @SD)/\(type_of% @SF):=⟨@SA,@SB,@SD,@SF⟩
theorem S8:(type_of% @S7)/\(type_of% @TG)/\(type_of% @SE):=⟨@S7,@TG,@SE⟩
theorem S9:(type_of% @S8)/\(type_of% @SG)/\(type_of% @SH)/\(type_of% @SC)/\(type_of% @UT):=⟨@S8,@SG,@SH,@SC,@UT⟩
theorem MK (n:Int) (h:Dx n) (bx):Ad CC 125 [.int .i64 n] bx=some (.ret (.str (Aag n)),bx):=by
 have hp:CC.prim 125=some U1:=rfl;have hq:CC.hprim 125=none:=rfl;unfold Ad En GB;simp only [show CC.cat 125=none from rfl,hq,hp,Al,PV.pure,Aah,if_true,U1,if_pos h,Aae]
theorem Pr (n:Int) (h:Dx n) (bx):Ai CC (Ad CC) 125 [.int .i64 n] bx=some (.ret (.str (Aag n)),bx):=Aq rfl (by simp only [SA,Aaa]) (MK n h []) rfl
theorem I7 (s:List UInt8) (c:Int) (bx):Ad CC 136 [.str s,.int .u8 c] bx=some (.ret (.int .i64 (Aad s c.toNat.toUInt8)),bx):=by
 have hp:CC.prim 136=some fi:=rfl;have hq:CC.hprim 136=none:=rfl;unfold Ad En GB;simp only [show CC.cat 136=none from rfl,hq,hp,Al,PV.pure,Aah,if_true,fi,Aae]
theorem Kh (s:List UInt8) (c:Int) (bx):Ai CC (Ad CC) 136 [.str s,.int .u8 c] bx=some (.ret (.int .i64 (Aad s c.toNat.toUInt8)),bx):=Aq rfl (by simp only [SA,Aaa]) (I7 s c []) rfl
set_option linter.unusedSimpArgs false
set_option linter.unusedVariables false
theorem Ki (s:List UInt8) (i:Nat) (b:UInt8) (h:s[i]?=some b):DA CC 9 (.str s) (.int .i64 (i:Int))=some (.int .u8 (b.toNat:Int)):=by
 unfold DA;simp only [TG,Int.toNat_natCast,h];rw [if_neg (by omega)]
theorem Bk (s:List UInt8):Tc CC 9 (.str s)=some (.int .i64 s.length):=by
 unfold Tc;simp only [TG]
theorem V1 (s:List UInt8) (a b:Int) (h0:0<=a) (h1:a<=b) (h2:b<=s.length):FV CC 9 (.str s) (some (.int .i64 a)) (some (.int .i64 b))=some (.str ((s.take b.toNat).drop a.toNat)):=by
 unfold FV;simp only [TG,D8,LU];rw [if_pos ⟨by omega,h2⟩];simp only;rw [if_pos ⟨h0,by omega⟩]
theorem U3 (s:List UInt8) (b:Int) (h0:0<=b) (h2:b<=s.length):FV CC 9 (.str s) none (some (.int .i64 b))=some (.str (s.take b.toNat)):=by
 unfold FV;simp only [TG,D8,LU];rw [if_pos ⟨h0,h2⟩];simp only [Aaf]
theorem fk (s:List UInt8) (a:Int) (h0:0<=a) (h2:a<=s.length):FV CC 9 (.str s) (some (.int .i64 a)) none=some (.str (s.drop a.toNat)):=by
 unfold FV;simp only [TG,D8,LU];rw [if_pos ⟨h0,h2⟩];simp only [List.take_length]
theorem DD (a b:List UInt8):EB .neq a b=some (.bool (!(a == b))):=rfl
theorem Ct (a b:List UInt8):EB .eql a b=some (.bool (a == b)):=rfl
abbrev Vl:=Int×Int×List UInt8
def Q' (v:Vl):PV:=.agg [.int .i64 v.1,.int .i64 v.2.1,.str v.2.2]
def nJ (v:Vl):Prop:=Dx v.1/\Dx v.2.1/\v.2.2.length<=maxLen
def Kj (x:Bool) (y:Option Bool):Option Bool:=match some x with
 | some true=>y
 | o=>o
def Ra (v w:Vl):Bool:=(v.1 == w.1) && (v.2.1 == w.2.1) && (v.2.2 == w.2.2)
theorem nK (a a' b b':Int) (c c':List UInt8):Mu CC 100 24 (.agg [.int .i64 a,.int .i64 b,.str c]) (.agg [.int .i64 a',.int .i64 b',.str c'])=some ((a == a') && (b == b') && (c == c')):=by
 have h:Mu CC 100 24 (.agg [.int .i64 a,.int .i64 b,.str c]) (.agg [.int .i64 a',.int .i64 b',.str c'])=Kj (a == a') (Kj (b == b') (Kj (c == c') (some true))):=by kernel_rfl
 rw [h];cases a == a' <;> cases b == b' <;> cases c == c' <;> rfl
theorem Gj:CC.P.eqGuardType CC.P.depth 24=false:=by kernel_rfl
theorem NU:Be CC Aa8 (Aa8.body.getD .skip)=true:=by kernel_rfl
theorem ML:CC.P.funcs[149]?=some Aa8:=by kernel_rfl
theorem Rb:Be CC Aa1 (Aa1.body.getD .skip)=true:=by kernel_rfl
theorem Ps:CC.P.funcs[118]?=some Aa1:=by kernel_rfl
theorem CB {x:List PV} {b:List PBox} (h:x.length.ble Aa1.ntmps=true):Ad CC 118 x b=CM CC Aa1.results.toList (Co CC (Aa1.body.getD .skip) ⟨x,b⟩):=Ah (fn:=Aa1) (c:=Aa1.body.getD .skip) rfl rfl Ps rfl Rb (Aa7 h)
def qg (n:Int):Bool:=decide (-1099511627776<=n/\n<=1099511627776)
theorem L3 (n:Int):Ad CC 149 [.int .i64 n] []=some (.ret (.bool (qg n)),[]):=by
 rw [Ah (fn:=Aa8) (c:=Aa8.body.getD .skip) rfl rfl ML rfl NU (Aa7 rfl)];unfold qg;by_cases c1:n ≥ -1099511627776
 · by_cases c2:n<=1099511627776
   · rw [decide_eq_true (show -1099511627776<=n/\n<=1099511627776 from ⟨c1,c2⟩)]
     rw [<- An];simp only [Ab,Ac,Aa8,Aa0];simp only [S8,Ag,seval,c1,c2]
   · rw [decide_eq_false (show ¬ (-1099511627776<=n/\n<=1099511627776) from fun h=>c2 h.2)]
     rw [<- An];simp only [Ab,Ac,Aa8,Aa0];simp only [S8,Ag,seval,c1,c2]
 · rw [decide_eq_false (show ¬ (-1099511627776<=n/\n<=1099511627776) from fun h=>c1 h.1)]
   rw [<- An];simp only [Ab,Ac,Aa8,Aa0];simp only [S8,Ag,seval,c1]
theorem NV (n:Int) (bx):Ai CC (Ad CC) 149 [.int .i64 n] bx=some (.ret (.bool (qg n)),bx):=Aq rfl (by simp only [SA,Aaa]) (L3 n) rfl
def NW (k n:Int):Option Bool:=if k=0\/k=4 then some (n == 0) else if k=1 then some (n == 0 || n == 1) else if k=2 then some (qg n) else if k=3 then some (decide (0<=n) && decide (n<=63)) else none
def JL (v:Vl):Int:=match NW v.1 v.2.1 with
 | none=>7
 | some false=>2
 | some true=>if 60 < v.2.2.length then 3 else if v.2.2≠[]/\v.1≠4 then 4 else 0
theorem rC (n:Int) (s:List UInt8):∃ bx,Ad CC 118 [Q' (0,n,s)] []=some (.ret (.int .i64 (JL (0,n,s))),bx):=by
 rw [CB rfl];have hlen:=Bk s;unfold JL Q';simp only;by_cases c1:n=0
 · subst c1
   have ok:NW 0 0=some true:=rfl;rw [ok];by_cases d1:60 < s.length
   · have d1p:(s.length:Int) > 60:=by omega
     simp only [if_pos d1];rw [<- An];skip;simp only [Ab,Ac,Aa1,Aa0];simp only [S8,Ag,SG,seval,UT,SC,hlen,d1p];exact ⟨_,rfl⟩
   · have d1p:¬ (s.length:Int) > 60:=by omega
     simp only [if_neg d1];have OV:=DD s [];by_cases d2:s=[]
     · rw [if_neg (fun h=>h.1 d2)]
       rw [show (!(s == []))=false by rw [d2];rfl] at OV;rw [<- An];skip;simp only [Ab,Ac,Aa1,Aa0];simp only [S8,Ag,SG,seval,UT,SC,hlen,d1p,OV];exact ⟨_,rfl⟩
     · rw [if_pos ⟨d2,by omega⟩]
       rw [show (!(s == []))=true by simpa using d2] at OV;rw [<- An];skip;simp only [Ab,Ac,Aa1,Aa0];simp only [S8,Ag,SG,seval,UT,SC,hlen,d1p,OV];exact ⟨_,rfl⟩
 · have c1p:(n == 0)=false:=by simpa using c1
   have ok:NW 0 n=some false:=by unfold NW;simpa using c1
   rw [ok];dsimp only;rw [<- An];skip;simp only [Ab,Ac,Aa1,Aa0];simp only [S8,Ag,SG,seval,UT,SC,hlen,c1p];exact ⟨_,rfl⟩
theorem rD (n:Int) (s:List UInt8):∃ bx,Ad CC 118 [Q' (4,n,s)] []=some (.ret (.int .i64 (JL (4,n,s))),bx):=by
 rw [CB rfl];have hlen:=Bk s;unfold JL Q';simp only;by_cases c1:n=0
 · subst c1
   have ok:NW 4 0=some true:=rfl;rw [ok];by_cases d1:60 < s.length
   · have d1p:(s.length:Int) > 60:=by omega
     simp only [if_pos d1];rw [<- An];skip;simp only [Ab,Ac,Aa1,Aa0];simp only [S8,Ag,SG,seval,UT,SC,hlen,d1p];exact ⟨_,rfl⟩
   · have d1p:¬ (s.length:Int) > 60:=by omega
     simp only [if_neg d1];simp only [ne_eq,not_true_eq_false,and_false,if_false];have OV:=DD s [];generalize (!(s == []))=sb at *;cases sb
     · skip
       rw [<- An];skip;simp only [Ab,Ac,Aa1,Aa0];simp only [S8,Ag,SG,seval,UT,SC,hlen,d1p,OV];exact ⟨_,rfl⟩
     · skip
       rw [<- An];skip;simp only [Ab,Ac,Aa1,Aa0];simp only [S8,Ag,SG,seval,UT,SC,hlen,d1p,OV];exact ⟨_,rfl⟩
 · have c1p:(n == 0)=false:=by simpa using c1
   have ok:NW 4 n=some false:=by unfold NW;simpa using c1
   rw [ok];dsimp only;rw [<- An];skip;simp only [Ab,Ac,Aa1,Aa0];simp only [S8,Ag,SG,seval,UT,SC,hlen,c1p];exact ⟨_,rfl⟩
theorem rE (n:Int) (s:List UInt8):∃ bx,Ad CC 118 [Q' (1,n,s)] []=some (.ret (.int .i64 (JL (1,n,s))),bx):=by
 rw [CB rfl];have hlen:=Bk s;unfold JL Q';simp only;by_cases c1:n=0
 · subst c1
   have ok:NW 1 0=some true:=rfl;rw [ok];by_cases d1:60 < s.length
   · have d1p:(s.length:Int) > 60:=by omega
     simp only [if_pos d1];rw [<- An];skip;simp only [Ab,Ac,Aa1,Aa0];simp only [S8,Ag,SG,seval,UT,SC,hlen,d1p];exact ⟨_,rfl⟩
   · have d1p:¬ (s.length:Int) > 60:=by omega
     simp only [if_neg d1];have OV:=DD s [];by_cases d2:s=[]
     · rw [if_neg (fun h=>h.1 d2)]
       rw [show (!(s == []))=false by rw [d2];rfl] at OV;rw [<- An];skip;simp only [Ab,Ac,Aa1,Aa0];simp only [S8,Ag,SG,seval,UT,SC,hlen,d1p,OV];exact ⟨_,rfl⟩
     · rw [if_pos ⟨d2,by omega⟩]
       rw [show (!(s == []))=true by simpa using d2] at OV;rw [<- An];skip;simp only [Ab,Ac,Aa1,Aa0];simp only [S8,Ag,SG,seval,UT,SC,hlen,d1p,OV];exact ⟨_,rfl⟩
 · have c1p:(n == 0)=false:=by simpa using c1
   by_cases c2:n=1
   · subst c2
     have ok:NW 1 1=some true:=rfl;rw [ok];by_cases d1:60 < s.length
     · have d1p:(s.length:Int) > 60:=by omega
       simp only [if_pos d1];rw [<- An];skip;simp only [Ab,Ac,Aa1,Aa0];simp only [S8,Ag,SG,seval,UT,SC,hlen,d1p];exact ⟨_,rfl⟩
     · have d1p:¬ (s.length:Int) > 60:=by omega
       simp only [if_neg d1];have OV:=DD s [];by_cases d2:s=[]
       · rw [if_neg (fun h=>h.1 d2)]
         rw [show (!(s == []))=false by rw [d2];rfl] at OV;rw [<- An];skip;simp only [Ab,Ac,Aa1,Aa0];simp only [S8,Ag,SG,seval,UT,SC,hlen,d1p,OV];exact ⟨_,rfl⟩
       · rw [if_pos ⟨d2,by omega⟩]
         rw [show (!(s == []))=true by simpa using d2] at OV;rw [<- An];skip;simp only [Ab,Ac,Aa1,Aa0];simp only [S8,Ag,SG,seval,UT,SC,hlen,d1p,OV];exact ⟨_,rfl⟩
   · have c2p:(n == 1)=false:=by simpa using c2
     have ok:NW 1 n=some false:=by unfold NW;simp [c1,c2]
     rw [ok];dsimp only;rw [<- An];skip;simp only [Ab,Ac,Aa1,Aa0];simp only [S8,Ag,SG,seval,UT,SC,hlen,c1p,c2p];exact ⟨_,rfl⟩
theorem rF (n:Int) (s:List UInt8):∃ bx,Ad CC 118 [Q' (2,n,s)] []=some (.ret (.int .i64 (JL (2,n,s))),bx):=by
 rw [CB rfl];have hlen:=Bk s;unfold JL Q';simp only;have NH:=NV n;have ok:NW 2 n=some (qg n):=rfl;generalize qg n=b at *;cases b
 · skip
   rw [ok];dsimp only;rw [<- An];rw [<- AL] at NH;simp only [Ab,Ac,Aa1,Aa0];simp only [S8,Ag,SG,seval,UT,SC,hlen,NH];exact ⟨_,rfl⟩
 · skip
   rw [ok];by_cases d1:60 < s.length
   · have d1p:(s.length:Int) > 60:=by omega
     simp only [if_pos d1];rw [<- An];rw [<- AL] at NH;simp only [Ab,Ac,Aa1,Aa0];simp only [S8,Ag,SG,seval,UT,SC,hlen,NH,d1p];exact ⟨_,rfl⟩
   · have d1p:¬ (s.length:Int) > 60:=by omega
     simp only [if_neg d1];have OV:=DD s [];by_cases d2:s=[]
     · rw [if_neg (fun h=>h.1 d2)]
       rw [show (!(s == []))=false by rw [d2];rfl] at OV;rw [<- An];rw [<- AL] at NH;simp only [Ab,Ac,Aa1,Aa0];simp only [S8,Ag,SG,seval,UT,SC,hlen,NH,d1p,OV];exact ⟨_,rfl⟩
     · rw [if_pos ⟨d2,by omega⟩]
       rw [show (!(s == []))=true by simpa using d2] at OV;rw [<- An];rw [<- AL] at NH;simp only [Ab,Ac,Aa1,Aa0];simp only [S8,Ag,SG,seval,UT,SC,hlen,NH,d1p,OV];exact ⟨_,rfl⟩
theorem rG (n:Int) (s:List UInt8):∃ bx,Ad CC 118 [Q' (3,n,s)] []=some (.ret (.int .i64 (JL (3,n,s))),bx):=by
 rw [CB rfl];have hlen:=Bk s;unfold JL Q';simp only;by_cases c1:n ≥ 0
 · by_cases c2:n<=63
   · have ok:NW 3 n=some true:=by unfold NW;simp;omega
     rw [ok];by_cases d1:60 < s.length
     · have d1p:(s.length:Int) > 60:=by omega
       simp only [if_pos d1];rw [<- An];skip;simp only [Ab,Ac,Aa1,Aa0];simp only [S8,Ag,SG,seval,UT,SC,hlen,c1,c2,d1p];exact ⟨_,rfl⟩
     · have d1p:¬ (s.length:Int) > 60:=by omega
       simp only [if_neg d1];have OV:=DD s [];by_cases d2:s=[]
       · rw [if_neg (fun h=>h.1 d2)]
         rw [show (!(s == []))=false by rw [d2];rfl] at OV;rw [<- An];skip;simp only [Ab,Ac,Aa1,Aa0];simp only [S8,Ag,SG,seval,UT,SC,hlen,c1,c2,d1p,OV];exact ⟨_,rfl⟩
       · rw [if_pos ⟨d2,by omega⟩]
         rw [show (!(s == []))=true by simpa using d2] at OV;rw [<- An];skip;simp only [Ab,Ac,Aa1,Aa0];simp only [S8,Ag,SG,seval,UT,SC,hlen,c1,c2,d1p,OV];exact ⟨_,rfl⟩
   · have ok:NW 3 n=some false:=by unfold NW;simp;omega
     rw [ok];dsimp only;rw [<- An];skip;simp only [Ab,Ac,Aa1,Aa0];simp only [S8,Ag,SG,seval,UT,SC,hlen,c1,c2];exact ⟨_,rfl⟩
 · have ok:NW 3 n=some false:=by unfold NW;simp;omega
   rw [ok];dsimp only;rw [<- An];skip;simp only [Ab,Ac,Aa1,Aa0];simp only [S8,Ag,SG,seval,UT,SC,hlen,c1];exact ⟨_,rfl⟩
theorem rH (k n:Int) (s:List UInt8) (h:k≠0/\k≠4/\k≠1/\k≠2/\k≠3):∃ bx,Ad CC 118 [Q' (k,n,s)] []=some (.ret (.int .i64 (JL (k,n,s))),bx):=by
 rw [CB rfl];obtain ⟨k0,k4,k1,k2,k3⟩:=h;have ok:NW k n=none:=by unfold NW;rw [if_neg (by omega),if_neg k1,if_neg k2,if_neg k3]
 have e0:(k == 0)=false:=by simpa using k0
 have e4:(k == 4)=false:=by simpa using k4
 have e1:(k == 1)=false:=by simpa using k1
 have e2:(k == 2)=false:=by simpa using k2
 have e3:(k == 3)=false:=by simpa using k3
 have hlen:=Bk s;unfold JL Q';simp only;rw [ok];dsimp only;rw [<- An];skip;simp only [Ab,Ac,Aa1,Aa0];simp only [S8,Ag,SG,seval,UT,SC,hlen,e0,e4,e1,e2,e3];exact ⟨_,rfl⟩
theorem NX (v:Vl):∃ bx,Ad CC 118 [Q' v] []=some (.ret (.int .i64 (JL v)),bx):=by
 obtain ⟨k,n,s⟩:=v;by_cases k0:k=0
 · subst k0;exact rC n s
 by_cases k4:k=4
 · subst k4;exact rD n s
 by_cases k1:k=1
 · subst k1;exact rE n s
 by_cases k2:k=2
 · subst k2;exact rF n s
 by_cases k3:k=3
 · subst k3;exact rG n s
 exact rH k n s ⟨k0,k4,k1,k2,k3⟩
theorem Kk (v:Vl) (bx):Ai CC (Ad CC) 118 [Q' v] bx=some (.ret (.int .i64 (JL v)),bx):=by
 obtain ⟨b,h⟩:=NX v;exact Aq rfl rfl h rfl
theorem Pt:Be CC Aab (Aab.body.getD .skip)=true:=by kernel_rfl
theorem NY:CC.P.funcs[56]?=some Aab:=by kernel_rfl
theorem Rc:Be CC Aa3 (Aa3.body.getD .skip)=true:=by kernel_rfl
theorem Pu:CC.P.funcs[29]?=some Aa3:=by kernel_rfl
theorem get_at (s:List UInt8) (i:Nat) (c:UInt8) (h:s[i]?=some c):(ByteArray.mk s.toArray).get! i=c:=by
 show s.toArray[i]! = c;rw [getElem!_def,List.getElem?_toArray,h]
theorem rI (s:List UInt8) (i:Nat) (c:UInt8) (h:s[i]?=some c) (hc:c.toNat < 128):Aac ⟨s.toArray⟩ i=(c.toNat,1):=by
 unfold Aac;simp only [Aai,get_at s i c h];rw [if_pos hc]
theorem rJ (s:List UInt8) (i:Nat) (c:UInt8) (h:s[i]?=some c) (hc:¬ c.toNat < 128):128<=(Aac ⟨s.toArray⟩ i).1:=by
 unfold Aac;simp only [Aai,get_at s i c h];rw [if_neg hc];unfold Utf8.runeError
 repeat' split
 all_goals first | (simp only;omega) | (rename_i hh;simp at hh;simp only;omega) | decide
def cy (i n:Nat):Bool:=decide ((97<=n/\n<=122)\/(i≠0/\(n=95\/n=45\/(48<=n/\n<=57))))
def Tm:Nat->List UInt8->Bool
 | _,[]=>true
 | i,c :: r=>cy i c.toNat && Tm (i+1) r
def BQ (s:List UInt8):Bool:=decide (1<=s.length/\s.length<=24) && Tm 0 s
def PVd (v:Bool) (r:Option (Ex×St)):Prop:=∃ e' bx',(v=true/\r=some (.exit 0,⟨e',bx'⟩))\/(v=false/\r=some (.ret,⟨e',bx'⟩)/\getT e' 2=.bool false)
theorem MM (r:Int):Ad CC 56 [.int .i32 r] []=some (.ret (.bool (decide (97<=r/\r<=122))),[]):=by
 rw [Ah (fn:=Aab) (c:=Aab.body.getD .skip) rfl rfl NY rfl Pt (Aa7 rfl)];by_cases c1:r ≥ 97
 · by_cases c2:r<=122
   · rw [decide_eq_true (show 97<=r/\r<=122 from ⟨c1,c2⟩)]
     rw [<- An];simp only [Ab,Ac,Aab,Aa0];simp only [S8,Ag,seval,c1,c2]
   · rw [decide_eq_false (show ¬ (97<=r/\r<=122) from fun h=>c2 h.2)]
     rw [<- An];simp only [Ab,Ac,Aab,Aa0];simp only [S8,Ag,seval,c1,c2]
 · rw [decide_eq_false (show ¬ (97<=r/\r<=122) from fun h=>c1 h.1)]
   rw [<- An];simp only [Ab,Ac,Aab,Aa0];simp only [S8,Ag,seval,c1]
theorem JD (r:Int) (bx):Ai CC (Ad CC) 56 [.int .i32 r] bx=some (.ret (.bool (decide (97<=r/\r<=122))),bx):=Aq rfl (by simp only [SA,Aaa]) (MM r) rfl
theorem NZ (L:Code) (hL:L=Ab Aa3 [1,1,0,1,0]) (s:List UInt8) (hs:s.length<=30000):∀ (k i:Nat) (e:List PV),i+k=s.length->getT e 0=.str s->getT e 14=.bp 0 0 ->
 PVd (Tm i (s.drop i)) (Co CC L ⟨e,[.iter s i]⟩):=by
 intro k
 induction k with
 | zero=>
  intro i e hk h0 bY;rw [A3 (Ab Aa3 [1,1,0,1,0,0]) hL];have Bz:¬ (i < s.length):=by omega
  rw [List.drop_eq_nil_of_le (by omega)];unfold Tm;rw [<- An];simp only [Ab,Ac,Aa3,Aa0];simp only [S8,Ag,seval,JC,ah,List.getElem?_cons_zero,List.getElem?_cons_succ,h0,bY,Bz];exact ⟨_,_,.inl ⟨rfl,rfl⟩⟩
 | succ k ih=>
  intro i e hk h0 bY;rw [A3 (Ab Aa3 [1,1,0,1,0,0]) hL];have hlen:=Bk s;have Bz:i < s.length:=by omega
  have hx:s[i]?=some (s[i]'(by omega)):=by simp
  have IU:s.drop i=(s[i]'(by omega)) :: s.drop (i+1):=List.drop_eq_getElem_cons (by omega);generalize s[i]'(by omega)=c at *;have dZ:=rI s i c hx;have uf:=rJ s i c hx;have key:=fun e=>ih (i+1) e (by omega);rw [IU];unfold Tm;generalize Tm (i+1) (s.drop (i+1))=v at *;generalize c.toNat=n at *;clear hx IU;by_cases h128:n < 128
  · have Uw:=dZ h128
    have Hy:=JD (n:Int);by_cases a1:97<=(n:Int)/\(n:Int)<=122
    · rw [decide_eq_true a1] at Hy
      rw [show cy i n=true from decide_eq_true (by omega),Aa9];rw [<- An];rw [<- AL] at Hy;rw [<- An] at key;simp only [Ab,Ac,Aa3,Aa0];simp only [S8,Ag,SG,seval,JC,Aa2,h0,bY,hlen,Bz,Hy,Uw];exact key _ (by simp only [S7,Ag,seval,h0]) (by simp only [S7,Ag,seval,bY])
    · rw [decide_eq_false a1] at Hy
      by_cases i0:i=0
      · have z:((i:Int) == 0)=true:=by rw [i0];rfl
        rw [show cy i n=false from decide_eq_false (by omega),Aa5];rw [<- An];rw [<- AL] at Hy;simp only [Ab,Ac,Aa3,Aa0];simp only [S8,Ag,SG,seval,JC,Aa2,h0,bY,hlen,Bz,Hy,Uw,z];exact ⟨_,_,.inr ⟨rfl,rfl,by simp only [S7,Ag,seval]⟩⟩
      · have z:((i:Int) == 0)=false:=by rw [beq_eq_false_iff_ne];omega
        by_cases e1:n=95
        · have e1p:((n:Int) != 95)=false:=by rw [e1];rfl
          rw [show cy i n=true from decide_eq_true (by omega),Aa9];rw [<- An];rw [<- AL] at Hy;rw [<- An] at key;simp only [Ab,Ac,Aa3,Aa0];simp only [S8,Ag,SG,seval,JC,Aa2,h0,bY,hlen,Bz,Hy,Uw,z,e1p];exact key _ (by simp only [S7,Ag,seval,h0]) (by simp only [S7,Ag,seval,bY])
        · have e1p:((n:Int) != 95)=true:=by rw [bne_iff_ne];omega
          by_cases e2:n=45
          · have e2p:((n:Int) != 45)=false:=by rw [e2];rfl
            rw [show cy i n=true from decide_eq_true (by omega),Aa9];rw [<- An];rw [<- AL] at Hy;rw [<- An] at key;simp only [Ab,Ac,Aa3,Aa0];simp only [S8,Ag,SG,seval,JC,Aa2,h0,bY,hlen,Bz,Hy,Uw,z,e1p,e2p];exact key _ (by simp only [S7,Ag,seval,h0]) (by simp only [S7,Ag,seval,bY])
          · have e2p:((n:Int) != 45)=true:=by rw [bne_iff_ne];omega
            by_cases e3:(n:Int) < 48
            · skip
              rw [show cy i n=false from decide_eq_false (by omega),Aa5];rw [<- An];rw [<- AL] at Hy;simp only [Ab,Ac,Aa3,Aa0];simp only [S8,Ag,SG,seval,JC,Aa2,h0,bY,hlen,Bz,Hy,Uw,z,e1p,e2p,e3];exact ⟨_,_,.inr ⟨rfl,rfl,by simp only [S7,Ag,seval]⟩⟩
            · by_cases e4:(n:Int) > 57
              · skip
                rw [show cy i n=false from decide_eq_false (by omega),Aa5];rw [<- An];rw [<- AL] at Hy;simp only [Ab,Ac,Aa3,Aa0];simp only [S8,Ag,SG,seval,JC,Aa2,h0,bY,hlen,Bz,Hy,Uw,z,e1p,e2p,e3,e4];exact ⟨_,_,.inr ⟨rfl,rfl,by simp only [S7,Ag,seval]⟩⟩
              · skip
                rw [show cy i n=true from decide_eq_true (by omega),Aa9];rw [<- An];rw [<- AL] at Hy;rw [<- An] at key;simp only [Ab,Ac,Aa3,Aa0];simp only [S8,Ag,SG,seval,JC,Aa2,h0,bY,hlen,Bz,Hy,Uw,z,e1p,e2p,e3,e4];exact key _ (by simp only [S7,Ag,seval,h0]) (by simp only [S7,Ag,seval,bY])
  · have QJ:=uf h128
    rw [show cy i n=false from decide_eq_false (by omega),Aa5];generalize Uw:Aac ⟨s.toArray⟩ i=d at *;obtain ⟨m,k2⟩:=d;simp only at QJ;have Hy:=JD (m:Int);rw [decide_eq_false (by omega)] at Hy;by_cases i0:i=0
    · have z:((i:Int) == 0)=true:=by rw [i0];rfl
      rw [<- An];rw [<- AL] at Hy;simp only [Ab,Ac,Aa3,Aa0];simp only [S8,Ag,SG,seval,JC,Aa2,h0,bY,hlen,Bz,Hy,Uw,z];exact ⟨_,_,.inr ⟨rfl,rfl,by simp only [S7,Ag,seval]⟩⟩
    · have z:((i:Int) == 0)=false:=by rw [beq_eq_false_iff_ne];omega
      have e1p:((m:Int) != 95)=true:=by rw [bne_iff_ne];omega
      have e2p:((m:Int) != 45)=true:=by rw [bne_iff_ne];omega
      have e3:¬ ((m:Int) < 48):=by omega
      have e4:((m:Int) > 57):=by omega
      rw [<- An];rw [<- AL] at Hy;simp only [Ab,Ac,Aa3,Aa0];simp only [S8,Ag,SG,seval,JC,Aa2,h0,bY,hlen,Bz,Hy,Uw,z,e1p,e2p,e3,e4];exact ⟨_,_,.inr ⟨rfl,rfl,by simp only [S7,Ag,seval]⟩⟩
theorem N0 (s:List UInt8) (hs:s.length<=30000):∃ bx,Ad CC 29 [.str s] []=some (.ret (.bool (BQ s)),bx):=by
 rw [Ah (fn:=Aa3) (c:=Aa3.body.getD .skip) rfl rfl Pu rfl Rc (Aa7 rfl)];have hlen:=Bk s;unfold BQ;by_cases c1:(s.length:Int) < 1
 · rw [decide_eq_false (show ¬ (1<=s.length/\s.length<=24) by omega),Aa5]
   rw [<- An];simp only [Ab,Ac,Aa3,Aa0];simp only [S8,Ag,seval,hlen,c1];exact ⟨_,rfl⟩
 · by_cases c2:(s.length:Int) > 24
   · rw [decide_eq_false (show ¬ (1<=s.length/\s.length<=24) by omega),Aa5]
     rw [<- An];simp only [Ab,Ac,Aa3,Aa0];simp only [S8,Ag,seval,hlen,c1,c2];exact ⟨_,rfl⟩
   · rw [decide_eq_true (show 1<=s.length/\s.length<=24 by omega),Aa9]
     have Af:=fun e=>NZ _ rfl s hs s.length 0 e (by omega);rw [Aaf] at Af;have bT:CC.P.underlying 9=some .string:=by kernel_rfl
     generalize Tm 0 s=v at *;rw [<- An];rw [<- An] at Af;simp only [Ab,Ac,Aa3,Aa0] at Af |-;simp only [S8,Ag,seval,hlen,c1,c2,aw,bT,List.nil_append];generalize hE:Hp _ _=r
     have hP:PVd v r:=by
      rw [<- hE];exact Af _ (by simp only [S7,Ag,seval]) (by simp only [S7,Ag,seval])
     obtain ⟨e',bx',⟨hv,he⟩ | ⟨hv,he,g2⟩⟩:=hP
     · subst he
       subst hv;simp only [S8,Ag,seval];exact ⟨_,rfl⟩
     · subst he
       subst hv;simp only [S8,Ag,seval,g2];exact ⟨_,rfl⟩
theorem Cg (s:List UInt8) (hs:s.length<=30000) (bx):Ai CC (Ad CC) 29 [.str s] bx=some (.ret (.bool (BQ s)),bx):=by
 obtain ⟨b,h⟩:=N0 s hs;exact Aq rfl (by simp only [SA,Aaa]) h rfl
abbrev Ky:=Int×List UInt8×List UInt8
def N1 (k:Ky):Prop:=Dx k.1/\k.2.1.length<=maxLen/\k.2.2.length<=maxLen
inductive Tr where
 | mk (k n m:Int) (nm:List UInt8) (v:Vl) (key:Ky) (kids:List Tr)
mutual
def BE:Tr->PV
 | .mk k n m nm v key kids=>.agg [.int .i64 k,.int .i64 n,.int .i64 m,.str nm,.int .i64 v.1,.int .i64 v.2.1,.str v.2.2,.int .i64 key.1,.str key.2.1,.str key.2.2,.sl (A8 kids)]
def A8:List Tr->List PV
 | []=>[]
 | t :: r=>BE t :: A8 r
end
mutual
def Kl:Tr->Prop
 | .mk k n m nm v key kids=>Dx k/\Dx n/\Dx m/\nm.length<=maxLen/\nJ v/\N1 key/\kids.length<=maxLen/\Io kids
def Io:List Tr->Prop
 | []=>True
 | t :: r=>Kl t/\Io r
end
theorem Re:∀ l:List Tr,A8 l=l.map BE
 | []=>by unfold A8;rfl
 | t :: r=>by unfold A8;rw [Re r];rfl
theorem Dg (l:List Tr):(A8 l).length=l.length:=by rw [Re,List.length_map]
theorem Rf {l:List Tr} {i:Nat} {t:Tr} (h:l[i]?=some t):(A8 l)[i]?=some (BE t):=by rw [Re,List.getElem?_map,h];rfl
theorem LG:zeroCells CC 29=some [.int .i64 0,.int .i64 0,.int .i64 0,.str [],.int .i64 0,.int .i64 0,.str [],.int .i64 0,.str [],.str [],.nils]:=by kernel_rfl
end Go.HH
