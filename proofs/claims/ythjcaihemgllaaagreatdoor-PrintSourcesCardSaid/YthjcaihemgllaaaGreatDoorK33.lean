/-
  What the law needs, packed: N0 C0 Q1.
-/
import Derived.Test.YthjcaihemgllaaaGreatDoorProg
import Derived.Lib.ItoaNum
import Derived.Lib.Bytealg
import Derived.KernelRfl
import Derived.Test.YthjcaihemgllaaaGreatDoorK32
open Option renaming getD->Aau,map_some->Abb
open Go.Proofs.Tryz renaming prog->Aav,f118->Aaw,f29->Aay,underlying3->Ab0,f149->Ab3,underlying9->Ab6,f56->Ab7
open List renaming set_cons_zero->Aax,drop_zero->Ab9
open And renaming intro->Aaz
open Bool renaming false_and->Ab1,true_and->Ab4,and_true->Ab5,and_self->Abd
open Nat renaming le_of_ble_eq_true->Ab2,add_zero->Abe
open Go.Utf8 renaming decode->Ab8
open Go.Lib renaming indexByte->Aba,itoa->Abc
namespace Go.HH
open Go
open Go Go.Proofs
set_option maxRecDepth 100000
def Ve:List PV->Option PV
 | [.int .i64 n]=>if GY n then some (.str (Abc n)) else none
 | _=>none
def Dq:List PV:=Lib.pow10Tab.map (.int .u64)
def fI:List PV->Option PV
 | [.str s,.int .u8 c]=>some (.int .i64 (Aba s c.toNat.toUInt8))
 | _=>none
def Rn:Nat->Option (List PV):=
 fun g=>if g=1 then some Dq else none
def aX (f:FuncId):Option (List PV->Option PV):=
 if f=125 then some Ve else
 if f=136 then some fI else
 none
def vK:List PV->List PBox->Option (Bool×PV×List PBox)
 | [.bp id 0],bx=>match bx[id]? with
  | some (.cells t [.nilp,q])=>if t=153 then some (false,.tup [],bx.set id (.cells t [.bp id 0,q])) else none
  | some (.cells t [.bp id' 0,q])=>if id'=id/\t=153 then some (false,.tup [],bx) else none
  | _=>none
 | _,_=>none
def Vf:PV->Bool
 | .int .u8 n=>decide (0<=n) && decide (n < 256)
 | _=>false
def Pm:List PV->List PBox->Option (Bool×PV×List PBox)
 | [.bp id 0],bx=>match bx[id]? with
  | some (.cells t [_,.nils])=>if t=153 then some (false,.str [],bx) else none
  | some (.cells t [p,.osl e xs])=>if t=153/\e=5/\xs.isEmpty=false/\xs.all Vf=true then (bytesOf xs).map fun l=>(false,.str l,bx.set id (.cells t [p,.sl xs])) else none
  | _=>none
 | _,_=>none
def oe (f:FuncId):Option (List PV->List PBox->Option (Bool×PV×List PBox)):=
 if f=166 then some vK else if f=157 then some Pm else
 none
def jy (f:FuncId):Bool:=
 if f=48 then true else
 false
def fJ:List PV->PV
 | [x]=>x.ro.shutV
 | _=>.nils
def og (cs:List PV):PV:=(PV.agg (cs.map PV.ro)).shutV
def He:List PV:=[.int .i64 0,.int .i64 0,.int .i64 0,.str [],.int .i64 0,.int .i64 0,.str [],.int .i64 0,.str [],.str [],.nils]
def Ls (s:List UInt8):List PV:=[.str s,und,.bp 0 0,.bp 1 0,.bp 2 0]
noncomputable def Lt:Cat:=⟨Ac [1,1] (Tryz.f24.body.getD .skip),Wb 51 Ls [.cells 41 [.nils],.cells 3 [.int .i64 0],.cells 35 [.int .i64 0]],Jd 84 1 [.osl 32 []] fJ⟩
noncomputable def wm:Cat:=⟨Ac [1,1] (Tryz.f22.body.getD .skip),Wb 47 Ls [.cells 29 He,.cells 3 [.int .i64 0],.cells 35 [.int .i64 0]],Jd 84 11 He og⟩
noncomputable def jz (f:FuncId):Option Cat:=
 if f=24 then some Lt else if f=22 then some wm else
 none
noncomputable def CC:Cfg:={ P:=Aav,glob:=Rn,prim:=aX,heap:=jy,hprim:=oe,cat:=jz }
noncomputable def GM:=(Yn CC).choose
noncomputable def gL2:=(Yn CC).choose_spec.choose
noncomputable def gL3:=(Yn CC).choose_spec.choose_spec.choose
noncomputable def wo:=(Yn CC).choose_spec.choose_spec.choose_spec.choose
theorem zJ:(GM=Cf CC/\wo=Ai CC (Ad CC))/\vJ CC GM gL2 gL3 wo:=(Yn CC).choose_spec.choose_spec.choose_spec.choose_spec
theorem Al:GM=Cf CC:=zJ.1.1
theorem AI:wo=Ai CC (Ad CC):=zJ.1.2
theorem Af:vJ CC GM gL2 gL3 wo:=zJ.2
noncomputable def vL:=(N0 CC).choose
noncomputable def Tm:=(N0 CC).choose_spec.choose
noncomputable def yZ:=(N0 CC).choose_spec.choose_spec.choose
noncomputable def gB3:=(N0 CC).choose_spec.choose_spec.choose_spec.choose
noncomputable def ZV:=(N0 CC).choose_spec.choose_spec.choose_spec.choose_spec.choose
theorem wq:(Tm=Lp CC/\ZV=Ai CC (Ad CC)/\yZ=evOps CC (Ad CC)/\vL=G4 CC (Ad CC))/\zI CC vL Tm yZ gB3 ZV:=(N0 CC).choose_spec.choose_spec.choose_spec.choose_spec.choose_spec
theorem Ch:Tm=Lp CC:=wq.1.1
theorem C3:ZV=Ai CC (Ad CC):=wq.1.2.1
theorem My:yZ=evOps CC (Ad CC):=wq.1.2.2.1
theorem I3:vL=G4 CC (Ad CC):=wq.1.2.2.2
theorem A6:zI CC vL Tm yZ gB3 ZV:=wq.2
noncomputable def y0:=(L' CC).choose
noncomputable def y4:=(L' CC).choose_spec.choose
noncomputable def y6:=(L' CC).choose_spec.choose_spec.choose
noncomputable def y7:=(L' CC).choose_spec.choose_spec.choose_spec.choose
theorem wu:(y0=Cf CC/\y7=Ai CC (Ad CC)/\y4=evOps CC (Ad CC)/\y6=Bq CC (Ad CC))/\vJ CC y0 y4 y6 y7:=(L' CC).choose_spec.choose_spec.choose_spec.choose_spec
theorem gZh:y0=Cf CC:=wu.1.1
theorem gZc:y7=Ai CC (Ad CC):=wu.1.2.1
theorem gZe:y4=evOps CC (Ad CC):=wu.1.2.2.1
theorem N2:y6=Bq CC (Ad CC):=wu.1.2.2.2
theorem Je:vJ CC y0 y4 y6 y7:=wu.2
theorem jA (f:FuncId):CC.heap f=(f == 48):=by
 show jy f=_;unfold jy;by_cases zu:f=48
 · subst zu;rfl
 simp [zu]
theorem wv:AP CC 1=false/\CC.P.underlying 2=some (.int .i64)/\tAgg CC 2=false/\AP CC 2=false/\AN CC 2=true/\tSize CC 2=some 1/\(CC.P.info? 2).isSome=true/\CC.P.underlying 3=some (.int .i64)/\tAgg CC 3=false/\AP CC 3=false/\AN CC 3=true/\tSize CC 3=some 1/\(CC.P.info? 3).isSome=true/\CC.P.underlying 4=some .bool/\tAgg CC 4=false/\AP CC 4=false/\AN CC 4=true/\tSize CC 4=some 1/\(CC.P.info? 4).isSome=true/\CC.P.underlying 5=some (.int .u8)/\tAgg CC 5=false/\AP CC 5=false/\AN CC 5=true/\tSize CC 5=some 1/\(CC.P.info? 5).isSome=true/\CC.P.underlying 9=some .string/\tAgg CC 9=false/\AP CC 9=false/\AN CC 9=true/\tSize CC 9=some 1/\(CC.P.info? 9).isSome=true/\CC.P.underlying 12=some (.int .u64)/\tAgg CC 12=false/\AP CC 12=false/\AN CC 12=true/\tSize CC 12=some 1/\(CC.P.info? 12).isSome=true/\tAgg CC 20=false/\AP CC 20=false/\AN CC 20=true:=by
 repeat' apply Aaz
 all_goals (intros;kernel_rfl)
theorem wx:tSize CC 20=some 1/\CC.P.underlying 21=some (.int .i32)/\tAgg CC 21=false/\AP CC 21=false/\AN CC 21=true/\tSize CC 21=some 1/\(CC.P.info? 21).isSome=true/\CC.P.underlying 22=some (.slice 58)/\Rj CC 22=.osl 58 []/\tAgg CC 22=false/\AP CC 22=false/\AN CC 22=false/\tSize CC 22=some 1/\(CC.P.info? 22).isSome=true/\tAgg CC 24=true/\AP CC 24=false/\AN CC 24=true/\tSize CC 24=some 3/\(CC.P.info? 24).isSome=true/\(∀ cs,AG CC 24 0 (.ip cs)=some (.ip (cs.drop 0)))/\(∀ i o,AG CC 24 0 (.bp i o)=some (.bp i (o+0)))/\(∀ cs,Bj CC 24 0 (.agg cs)=BG CC 3 cs 0)/\(∀ cs,AG CC 24 1 (.ip cs)=some (.ip (cs.drop 1)))/\(∀ i o,AG CC 24 1 (.bp i o)=some (.bp i (o+1)))/\(∀ cs,Bj CC 24 1 (.agg cs)=BG CC 3 cs 1)/\(∀ cs,AG CC 24 2 (.ip cs)=some (.ip (cs.drop 2)))/\(∀ i o,AG CC 24 2 (.bp i o)=some (.bp i (o+2)))/\(∀ cs,Bj CC 24 2 (.agg cs)=BG CC 9 cs 2)/\tAgg CC 26=true/\AP CC 26=false/\AN CC 26=true/\tSize CC 26=some 3/\(CC.P.info? 26).isSome=true/\(∀ cs,AG CC 26 0 (.ip cs)=some (.ip (cs.drop 0)))/\(∀ i o,AG CC 26 0 (.bp i o)=some (.bp i (o+0)))/\(∀ cs,Bj CC 26 0 (.agg cs)=BG CC 3 cs 0)/\(∀ cs,AG CC 26 1 (.ip cs)=some (.ip (cs.drop 1)))/\(∀ i o,AG CC 26 1 (.bp i o)=some (.bp i (o+1)))/\(∀ cs,Bj CC 26 1 (.agg cs)=BG CC 9 cs 1)/\(∀ cs,AG CC 26 2 (.ip cs)=some (.ip (cs.drop 2))):=by
 repeat' apply Aaz
 all_goals (intros;kernel_rfl)
theorem wy:(∀ i o,AG CC 26 2 (.bp i o)=some (.bp i (o+2)))/\(∀ cs,Bj CC 26 2 (.agg cs)=BG CC 9 cs 2)/\CC.P.underlying 27=some (.slice 29)/\Rj CC 27=.osl 29 []/\tAgg CC 27=false/\AP CC 27=false/\AN CC 27=false/\tSize CC 27=some 1/\(CC.P.info? 27).isSome=true/\tAgg CC 29=true/\AP CC 29=false/\AN CC 29=true/\tSize CC 29=some 11/\(CC.P.info? 29).isSome=true/\(∀ cs,AG CC 29 0 (.ip cs)=some (.ip (cs.drop 0)))/\(∀ i o,AG CC 29 0 (.bp i o)=some (.bp i (o+0)))/\(∀ cs,Bj CC 29 0 (.agg cs)=BG CC 3 cs 0)/\(∀ cs,AG CC 29 1 (.ip cs)=some (.ip (cs.drop 1)))/\(∀ i o,AG CC 29 1 (.bp i o)=some (.bp i (o+1)))/\(∀ cs,Bj CC 29 1 (.agg cs)=BG CC 3 cs 1)/\(∀ cs,AG CC 29 2 (.ip cs)=some (.ip (cs.drop 2)))/\(∀ i o,AG CC 29 2 (.bp i o)=some (.bp i (o+2)))/\(∀ cs,Bj CC 29 2 (.agg cs)=BG CC 3 cs 2)/\(∀ cs,AG CC 29 3 (.ip cs)=some (.ip (cs.drop 3)))/\(∀ i o,AG CC 29 3 (.bp i o)=some (.bp i (o+3)))/\(∀ cs,Bj CC 29 3 (.agg cs)=BG CC 9 cs 3)/\(∀ cs,AG CC 29 4 (.ip cs)=some (.ip (cs.drop 4)))/\(∀ i o,AG CC 29 4 (.bp i o)=some (.bp i (o+4)))/\(∀ cs,Bj CC 29 4 (.agg cs)=BG CC 24 cs 4)/\(∀ cs,AG CC 29 5 (.ip cs)=some (.ip (cs.drop 7)))/\(∀ i o,AG CC 29 5 (.bp i o)=some (.bp i (o+7)))/\(∀ cs,Bj CC 29 5 (.agg cs)=BG CC 26 cs 7)/\(∀ cs,AG CC 29 6 (.ip cs)=some (.ip (cs.drop 10)))/\(∀ i o,AG CC 29 6 (.bp i o)=some (.bp i (o+10)))/\(∀ cs,Bj CC 29 6 (.agg cs)=BG CC 27 cs 10)/\CC.P.underlying 30=some (.slice 60)/\Rj CC 30=.osl 60 []/\tAgg CC 30=false/\AP CC 30=false/\AN CC 30=false:=by
 repeat' apply Aaz
 all_goals (intros;kernel_rfl)
theorem wz:tSize CC 30=some 1/\(CC.P.info? 30).isSome=true/\tAgg CC 32=true/\AP CC 32=false/\AN CC 32=true/\tSize CC 32=some 15/\(CC.P.info? 32).isSome=true/\(∀ cs,AG CC 32 0 (.ip cs)=some (.ip (cs.drop 0)))/\(∀ i o,AG CC 32 0 (.bp i o)=some (.bp i (o+0)))/\(∀ cs,Bj CC 32 0 (.agg cs)=BG CC 9 cs 0)/\(∀ cs,AG CC 32 1 (.ip cs)=some (.ip (cs.drop 1)))/\(∀ i o,AG CC 32 1 (.bp i o)=some (.bp i (o+1)))/\(∀ cs,Bj CC 32 1 (.agg cs)=BG CC 3 cs 1)/\(∀ cs,AG CC 32 2 (.ip cs)=some (.ip (cs.drop 2)))/\(∀ i o,AG CC 32 2 (.bp i o)=some (.bp i (o+2)))/\(∀ cs,Bj CC 32 2 (.agg cs)=BG CC 22 cs 2)/\(∀ cs,AG CC 32 3 (.ip cs)=some (.ip (cs.drop 3)))/\(∀ i o,AG CC 32 3 (.bp i o)=some (.bp i (o+3)))/\(∀ cs,Bj CC 32 3 (.agg cs)=BG CC 29 cs 3)/\(∀ cs,AG CC 32 4 (.ip cs)=some (.ip (cs.drop 14)))/\(∀ i o,AG CC 32 4 (.bp i o)=some (.bp i (o+14)))/\(∀ cs,Bj CC 32 4 (.agg cs)=BG CC 30 cs 14)/\AP CC 33=false/\AP CC 34=false/\CC.P.underlying 35=some (.int .i64)/\tAgg CC 35=false/\AP CC 35=false/\AN CC 35=true/\tSize CC 35=some 1/\(CC.P.info? 35).isSome=true/\AP CC 36=false/\AP CC 37=false/\AP CC 39=false/\AP CC 40=false/\CC.P.underlying 41=some (.slice 32)/\Rj CC 41=.osl 32 []/\tAgg CC 41=false/\AP CC 41=false/\AN CC 41=false/\tSize CC 41=some 1:=by
 repeat' apply Aaz
 all_goals (intros;kernel_rfl)
theorem wA:(CC.P.info? 41).isSome=true/\AP CC 42=false/\AP CC 43=false/\AP CC 44=false/\CC.P.underlying 45=some (.slice 80)/\Rj CC 45=.osl 80 []/\tAgg CC 45=false/\AP CC 45=false/\AN CC 45=false/\tSize CC 45=some 1/\(CC.P.info? 45).isSome=true/\AP CC 47=false/\AP CC 49=false/\AP CC 50=false/\AP CC 52=false/\AP CC 53=false/\AP CC 54=false/\tAgg CC 56=true/\AP CC 56=false/\AN CC 56=true/\tSize CC 56=some 3/\(CC.P.info? 56).isSome=true/\(∀ cs,AG CC 56 0 (.ip cs)=some (.ip (cs.drop 0)))/\(∀ i o,AG CC 56 0 (.bp i o)=some (.bp i (o+0)))/\(∀ cs,Bj CC 56 0 (.agg cs)=BG CC 3 cs 0)/\(∀ cs,AG CC 56 1 (.ip cs)=some (.ip (cs.drop 1)))/\(∀ i o,AG CC 56 1 (.bp i o)=some (.bp i (o+1)))/\(∀ cs,Bj CC 56 1 (.agg cs)=BG CC 9 cs 1)/\(∀ cs,AG CC 56 2 (.ip cs)=some (.ip (cs.drop 2)))/\(∀ i o,AG CC 56 2 (.bp i o)=some (.bp i (o+2)))/\(∀ cs,Bj CC 56 2 (.agg cs)=BG CC 9 cs 2)/\tAgg CC 58=true/\AP CC 58=false/\AN CC 58=true/\tSize CC 58=some 10/\(CC.P.info? 58).isSome=true/\(∀ cs,AG CC 58 0 (.ip cs)=some (.ip (cs.drop 0)))/\(∀ i o,AG CC 58 0 (.bp i o)=some (.bp i (o+0)))/\(∀ cs,Bj CC 58 0 (.agg cs)=BG CC 3 cs 0)/\(∀ cs,AG CC 58 1 (.ip cs)=some (.ip (cs.drop 1))):=by
 repeat' apply Aaz
 all_goals (intros;kernel_rfl)
theorem wB:(∀ i o,AG CC 58 1 (.bp i o)=some (.bp i (o+1)))/\(∀ cs,Bj CC 58 1 (.agg cs)=BG CC 26 cs 1)/\(∀ cs,AG CC 58 2 (.ip cs)=some (.ip (cs.drop 4)))/\(∀ i o,AG CC 58 2 (.bp i o)=some (.bp i (o+4)))/\(∀ cs,Bj CC 58 2 (.agg cs)=BG CC 56 cs 4)/\(∀ cs,AG CC 58 3 (.ip cs)=some (.ip (cs.drop 7)))/\(∀ i o,AG CC 58 3 (.bp i o)=some (.bp i (o+7)))/\(∀ cs,Bj CC 58 3 (.agg cs)=BG CC 9 cs 7)/\(∀ cs,AG CC 58 4 (.ip cs)=some (.ip (cs.drop 8)))/\(∀ i o,AG CC 58 4 (.bp i o)=some (.bp i (o+8)))/\(∀ cs,Bj CC 58 4 (.agg cs)=BG CC 3 cs 8)/\(∀ cs,AG CC 58 5 (.ip cs)=some (.ip (cs.drop 9)))/\(∀ i o,AG CC 58 5 (.bp i o)=some (.bp i (o+9)))/\(∀ cs,Bj CC 58 5 (.agg cs)=BG CC 3 cs 9)/\tAgg CC 60=true/\AP CC 60=false/\AN CC 60=true/\tSize CC 60=some 16/\(CC.P.info? 60).isSome=true/\(∀ cs,AG CC 60 0 (.ip cs)=some (.ip (cs.drop 0)))/\(∀ i o,AG CC 60 0 (.bp i o)=some (.bp i (o+0)))/\(∀ cs,Bj CC 60 0 (.agg cs)=BG CC 3 cs 0)/\(∀ cs,AG CC 60 1 (.ip cs)=some (.ip (cs.drop 1)))/\(∀ i o,AG CC 60 1 (.bp i o)=some (.bp i (o+1)))/\(∀ cs,Bj CC 60 1 (.agg cs)=BG CC 26 cs 1)/\(∀ cs,AG CC 60 2 (.ip cs)=some (.ip (cs.drop 4)))/\(∀ i o,AG CC 60 2 (.bp i o)=some (.bp i (o+4)))/\(∀ cs,Bj CC 60 2 (.agg cs)=BG CC 9 cs 4)/\(∀ cs,AG CC 60 3 (.ip cs)=some (.ip (cs.drop 5)))/\(∀ i o,AG CC 60 3 (.bp i o)=some (.bp i (o+5)))/\(∀ cs,Bj CC 60 3 (.agg cs)=BG CC 29 cs 5)/\AP CC 61=false/\AP CC 62=false/\AP CC 63=false/\AP CC 64=false/\AP CC 65=false/\AP CC 66=false/\AP CC 68=false/\AP CC 69=false/\CC.P.underlying 70=some (.slice 5):=by
 repeat' apply Aaz
 all_goals (intros;kernel_rfl)
theorem wC:Rj CC 70=.osl 5 []/\tAgg CC 70=false/\AP CC 70=false/\AN CC 70=false/\tSize CC 70=some 1/\(CC.P.info? 70).isSome=true/\tAgg CC 72=true/\AP CC 72=false/\AN CC 72=true/\tSize CC 72=some 1/\(CC.P.info? 72).isSome=true/\(∀ cs,AG CC 72 0 (.ip cs)=some (.ip (cs.drop 0)))/\(∀ i o,AG CC 72 0 (.bp i o)=some (.bp i (o+0)))/\(∀ cs,Bj CC 72 0 (.agg cs)=BG CC 70 cs 0)/\AP CC 73=false/\AP CC 74=false/\AP CC 75=false/\AP CC 76=false/\AP CC 77=false/\AP CC 78=false/\tAgg CC 80=true/\AP CC 80=false/\AN CC 80=true/\tSize CC 80=some 3/\(CC.P.info? 80).isSome=true/\(∀ cs,AG CC 80 0 (.ip cs)=some (.ip (cs.drop 0)))/\(∀ i o,AG CC 80 0 (.bp i o)=some (.bp i (o+0)))/\(∀ cs,Bj CC 80 0 (.agg cs)=BG CC 3 cs 0)/\(∀ cs,AG CC 80 1 (.ip cs)=some (.ip (cs.drop 1)))/\(∀ i o,AG CC 80 1 (.bp i o)=some (.bp i (o+1)))/\(∀ cs,Bj CC 80 1 (.agg cs)=BG CC 9 cs 1)/\(∀ cs,AG CC 80 2 (.ip cs)=some (.ip (cs.drop 2)))/\(∀ i o,AG CC 80 2 (.bp i o)=some (.bp i (o+2)))/\(∀ cs,Bj CC 80 2 (.agg cs)=BG CC 3 cs 2)/\AP CC 82=false/\tAgg CC 84=true/\AP CC 84=false/\AN CC 84=true/\tSize CC 84=some 2/\(CC.P.info? 84).isSome=true:=by
 repeat' apply Aaz
 all_goals (intros;kernel_rfl)
theorem wD:(∀ cs,AG CC 84 0 (.ip cs)=some (.ip (cs.drop 0)))/\(∀ i o,AG CC 84 0 (.bp i o)=some (.bp i (o+0)))/\(∀ cs,Bj CC 84 0 (.agg cs)=BG CC 3 cs 0)/\(∀ cs,AG CC 84 1 (.ip cs)=some (.ip (cs.drop 1)))/\(∀ i o,AG CC 84 1 (.bp i o)=some (.bp i (o+1)))/\(∀ cs,Bj CC 84 1 (.agg cs)=BG CC 35 cs 1)/\CC.P.underlying 86=some (.pointer 92)/\tAgg CC 86=false/\AP CC 86=true/\AN CC 86=true/\tSize CC 86=some 1/\(CC.P.info? 86).isSome=true/\AP CC 87=false/\AP CC 88=false/\AP CC 89=false/\AP CC 90=false/\tAgg CC 92=true/\AP CC 92=false/\AN CC 92=true/\tSize CC 92=some 4/\(CC.P.info? 92).isSome=true/\(∀ cs,AG CC 92 0 (.ip cs)=some (.ip (cs.drop 0)))/\(∀ i o,AG CC 92 0 (.bp i o)=some (.bp i (o+0)))/\(∀ cs,Bj CC 92 0 (.agg cs)=BG CC 45 cs 0)/\(∀ cs,AG CC 92 1 (.ip cs)=some (.ip (cs.drop 1)))/\(∀ i o,AG CC 92 1 (.bp i o)=some (.bp i (o+1)))/\(∀ cs,Bj CC 92 1 (.agg cs)=BG CC 3 cs 1)/\(∀ cs,AG CC 92 2 (.ip cs)=some (.ip (cs.drop 2)))/\(∀ i o,AG CC 92 2 (.bp i o)=some (.bp i (o+2)))/\(∀ cs,Bj CC 92 2 (.agg cs)=BG CC 3 cs 2)/\(∀ cs,AG CC 92 3 (.ip cs)=some (.ip (cs.drop 3)))/\(∀ i o,AG CC 92 3 (.bp i o)=some (.bp i (o+3)))/\(∀ cs,Bj CC 92 3 (.agg cs)=BG CC 41 cs 3)/\AP CC 93=false/\AP CC 94=false/\AP CC 95=false/\AP CC 96=false/\AP CC 97=false/\AP CC 98=false/\AP CC 99=false:=by
 repeat' apply Aaz
 all_goals (intros;kernel_rfl)
theorem wE:AP CC 100=false/\AP CC 102=false/\AP CC 103=false/\AP CC 104=false/\AP CC 105=false/\AP CC 106=false/\AP CC 107=false/\AP CC 108=false/\AP CC 109=false/\AP CC 110=false/\CC.P.underlying 111=some (.slice 9)/\Rj CC 111=.osl 9 []/\tAgg CC 111=false/\AP CC 111=false/\AN CC 111=false/\tSize CC 111=some 1/\(CC.P.info? 111).isSome=true/\CC.P.underlying 112=some (.pointer 72)/\tAgg CC 112=false/\AP CC 112=true/\AN CC 112=true/\tSize CC 112=some 1/\(CC.P.info? 112).isSome=true/\AP CC 113=false/\AP CC 114=false/\AP CC 115=false/\AP CC 116=false/\AP CC 118=false/\AP CC 119=false/\AP CC 120=false/\AP CC 121=false/\AP CC 122=false/\AP CC 123=false/\AP CC 124=false/\AP CC 125=false/\AP CC 126=false/\AP CC 127=false/\AP CC 128=false/\AP CC 129=false/\AP CC 130=false:=by
 repeat' apply Aaz
 all_goals (intros;kernel_rfl)
theorem wF:CC.P.underlying 131=some (.array 5 9)/\tAgg CC 131=true/\AP CC 131=false/\AN CC 131=true/\tSize CC 131=some 5/\(CC.P.info? 131).isSome=true/\AP CC 132=false/\CC.P.underlying 133=some (.int .u64)/\tAgg CC 133=false/\AP CC 133=false/\AN CC 133=true/\tSize CC 133=some 1/\(CC.P.info? 133).isSome=true/\AP CC 134=false/\AP CC 135=false/\AP CC 137=false/\AP CC 138=false/\AP CC 139=false/\AP CC 140=false/\AP CC 141=false/\AP CC 142=false/\AP CC 143=false/\AP CC 144=false/\AP CC 146=false/\AP CC 147=false/\AP CC 149=false/\CC.P.underlying 150=some (.array 7 9)/\tAgg CC 150=true/\AP CC 150=false/\AN CC 150=true/\tSize CC 150=some 7/\(CC.P.info? 150).isSome=true/\CC.P.underlying 151=some (.pointer 153)/\tAgg CC 151=false/\AP CC 151=true/\AN CC 151=true/\tSize CC 151=some 1/\(CC.P.info? 151).isSome=true/\tAgg CC 153=true/\AP CC 153=false:=by
 repeat' apply Aaz
 all_goals (intros;kernel_rfl)
theorem qV:AN CC 153=true/\tSize CC 153=some 2/\(CC.P.info? 153).isSome=true/\(∀ cs,AG CC 153 0 (.ip cs)=some (.ip (cs.drop 0)))/\(∀ i o,AG CC 153 0 (.bp i o)=some (.bp i (o+0)))/\(∀ cs,Bj CC 153 0 (.agg cs)=BG CC 151 cs 0)/\(∀ cs,AG CC 153 1 (.ip cs)=some (.ip (cs.drop 1)))/\(∀ i o,AG CC 153 1 (.bp i o)=some (.bp i (o+1)))/\(∀ cs,Bj CC 153 1 (.agg cs)=BG CC 70 cs 1)/\tAgg CC 154=false/\AP CC 154=false/\AN CC 154=true/\tSize CC 154=some 1/\tAgg CC 155=false/\AP CC 155=false/\AN CC 155=true/\tSize CC 155=some 1/\AP CC 157=false/\AP CC 158=false/\AP CC 159=false/\AP CC 160=false/\AP CC 161=false/\AP CC 162=false/\AP CC 163=false/\CC.P.underlying 164=some (.pointer 5)/\tAgg CC 164=false/\AP CC 164=true/\AN CC 164=true/\tSize CC 164=some 1/\(CC.P.info? 164).isSome=true/\AP CC 165=false/\AP CC 167=false/\AP CC 168=false/\CC.P.underlying 169=some (.array 24 5)/\tAgg CC 169=true/\AP CC 169=false/\AN CC 169=true/\tSize CC 169=some 24/\(CC.P.info? 169).isSome=true/\CC.P.underlying 170=some (.int .u64):=by
 repeat' apply Aaz
 all_goals (intros;kernel_rfl)
theorem qW:tAgg CC 170=false/\AP CC 170=false/\AN CC 170=true/\tSize CC 170=some 1/\(CC.P.info? 170).isSome=true/\AP CC 171=false/\AP CC 172=false/\AP CC 174=false/\AP CC 176=false/\AP CC 177=false/\CC.P.underlying 178=some (.array 20 170)/\tAgg CC 178=true/\AP CC 178=false/\AN CC 178=true/\tSize CC 178=some 20/\(CC.P.info? 178).isSome=true/\CC.P.underlying 179=some (.int .u32)/\tAgg CC 179=false/\AP CC 179=false/\AN CC 179=true/\tSize CC 179=some 1/\(CC.P.info? 179).isSome=true/\CC.P.underlying 180=some (.array 65 5)/\tAgg CC 180=true/\AP CC 180=false/\AN CC 180=true/\tSize CC 180=some 65/\(CC.P.info? 180).isSome=true/\AP CC 181=false/\AP CC 182=false/\CC.P.underlying 183=some (.array 32 5)/\tAgg CC 183=true/\AP CC 183=false/\AN CC 183=true/\tSize CC 183=some 32/\(CC.P.info? 183).isSome=true/\CC.P.underlying 184=some (.array 64 5)/\tAgg CC 184=true/\AP CC 184=false/\AN CC 184=true:=by
 repeat' apply Aaz
 all_goals (intros;kernel_rfl)
theorem qX:tSize CC 184=some 64/\(CC.P.info? 184).isSome=true/\CC.P.underlying 185=some (.array 4 9)/\tAgg CC 185=true/\AP CC 185=false/\AN CC 185=true/\tSize CC 185=some 4/\(CC.P.info? 185).isSome=true/\AP CC 193=false:=by
 repeat' apply Aaz
 all_goals (intros;kernel_rfl)
theorem TG:(type_of% wv)/\(type_of% wx)/\(type_of% wy)/\(type_of% wz)/\(type_of% wA)/\(type_of% wB)/\(type_of% wC)/\(type_of% wD)/\(type_of% wE)/\(type_of% wF)/\(type_of% qV)/\(type_of% qW)/\(type_of% qX)/\(∀ f,CC.heap f=(f == 48)):=
 ⟨wv,wx,wy,wz,wA,wB,wC,wD,wE,wF,qV,qW,qX,jA⟩
noncomputable def wG:Array Field:=match Aav.underlying 24 with | some (.struct f)=>f | _=>#[]
noncomputable def wH:Array Field:=match Aav.underlying 29 with | some (.struct f)=>f | _=>#[]
noncomputable def wI:Array Field:=match Aav.underlying 26 with | some (.struct f)=>f | _=>#[]
noncomputable def wJ:Array Field:=match Aav.underlying 56 with | some (.struct f)=>f | _=>#[]
noncomputable def wK:Array Field:=match Aav.underlying 58 with | some (.struct f)=>f | _=>#[]
noncomputable def wL:Array Field:=match Aav.underlying 60 with | some (.struct f)=>f | _=>#[]
noncomputable def wM:Array Field:=match Aav.underlying 32 with | some (.struct f)=>f | _=>#[]
noncomputable def wN:Array Field:=match Aav.underlying 80 with | some (.struct f)=>f | _=>#[]
theorem UT:CC.P.underlying 24=some (.struct wG)/\CC.P.underlying 29=some (.struct wH)/\CC.P.underlying 26=some (.struct wI)/\CC.P.underlying 56=some (.struct wJ)/\CC.P.underlying 58=some (.struct wK)/\CC.P.underlying 60=some (.struct wL)/\CC.P.underlying 32=some (.struct wM)/\CC.P.underlying 80=some (.struct wN):=by
 repeat' apply Aaz
 all_goals kernel_rfl
theorem S7:(type_of% @SA)/\(type_of% @SB)/\(type_of% @SD)/\(type_of% @SF):=⟨@SA,@SB,@SD,@SF⟩
theorem S8:(type_of% @S7)/\(type_of% @TG)/\(type_of% @SE):=⟨@S7,@TG,@SE⟩
theorem S9:(type_of% @S8)/\(type_of% @SG)/\(type_of% @SH)/\(type_of% @SC)/\(type_of% @UT):=⟨@S8,@SG,@SH,@SC,@UT⟩
theorem MO (n:Int) (h:GY n) (bx):Ad CC 125 [.int .i64 n] bx=some (.ret (.str (Abc n)),bx):=by
 have hp:CC.prim 125=some Ve:=rfl;have hq:CC.hprim 125=none:=rfl;unfold Ad Ep GC;simp only [show CC.cat 125=none from rfl,hq,hp,Ak,PV.pure,Abd,if_true,Ve,if_pos h,Abb]
theorem PE (n:Int) (h:GY n) (bx):Ai CC (Ad CC) 125 [.int .i64 n] bx=some (.ret (.str (Abc n)),bx):=Ao rfl (by simp only [SA,Ab5]) (MO n h []) rfl
theorem Jf (s:List UInt8) (c:Int) (bx):Ad CC 136 [.str s,.int .u8 c] bx=some (.ret (.int .i64 (Aba s c.toNat.toUInt8)),bx):=by
 have hp:CC.prim 136=some fI:=rfl;have hq:CC.hprim 136=none:=rfl;unfold Ad Ep GC;simp only [show CC.cat 136=none from rfl,hq,hp,Ak,PV.pure,Abd,if_true,fI,Abb]
theorem Kr (s:List UInt8) (c:Int) (bx):Ai CC (Ad CC) 136 [.str s,.int .u8 c] bx=some (.ret (.int .i64 (Aba s c.toNat.toUInt8)),bx):=Ao rfl (by simp only [SA,Ab5]) (Jf s c []) rfl
set_option linter.unusedSimpArgs false
set_option linter.unusedVariables false
theorem Ks (s:List UInt8) (i:Nat) (b:UInt8) (h:s[i]?=some b):Dy CC 9 (.str s) (.int .i64 (i:Int))=some (.int .u8 (b.toNat:Int)):=by
 unfold Dy;simp only [TG,Int.toNat_natCast,h];rw [if_neg (by omega)]
theorem A7 (s:List UInt8):Tq CC 9 (.str s)=some (.int .i64 s.length):=by
 unfold Tq;simp only [TG]
theorem Wd (s:List UInt8) (a b:Int) (h0:0<=a) (h1:a<=b) (h2:b<=s.length):FW CC 9 (.str s) (some (.int .i64 a)) (some (.int .i64 b))=some (.str ((s.take b.toNat).drop a.toNat)):=by
 unfold FW;simp only [TG,D7,L4];rw [if_pos ⟨by omega,h2⟩];simp only;rw [if_pos ⟨h0,by omega⟩]
theorem Vg (s:List UInt8) (b:Int) (h0:0<=b) (h2:b<=s.length):FW CC 9 (.str s) none (some (.int .i64 b))=some (.str (s.take b.toNat)):=by
 unfold FW;simp only [TG,D7,L4];rw [if_pos ⟨h0,h2⟩];simp only [Ab9]
theorem fK (s:List UInt8) (a:Int) (h0:0<=a) (h2:a<=s.length):FW CC 9 (.str s) (some (.int .i64 a)) none=some (.str (s.drop a.toNat)):=by
 unfold FW;simp only [TG,D7,L4];rw [if_pos ⟨h0,h2⟩];simp only [List.take_length]
theorem DB (a b:List UInt8):ED .neq a b=some (.bool (!(a == b))):=rfl
theorem Cu (a b:List UInt8):ED .eql a b=some (.bool (a == b)):=rfl
abbrev Vl:=Int×Int×List UInt8
def PF (v:Vl):PV:=.agg [.int .i64 v.1,.int .i64 v.2.1,.str v.2.2]
def wO (v:Vl):Prop:=GY v.1/\GY v.2.1/\v.2.2.length<=maxLen
theorem jB {p:PV} (h:Km Aav 24 p):∃ v:Vl,p=PF v/\wO v:=by
 have ht:Aav.underlying 24=some (.struct ((match Aav.underlying 24 with | some (.struct f)=>f | _=>#[]))):=by kernel_rfl
 have hl:((match Aav.underlying 24 with | some (.struct f)=>f | _=>#[]):Array Field).toList.map (fun f=>(f.type,f.offset))=[(3,0),(3,1),(9,2)]:=by kernel_rfl
 have c0:Aav.cellsOf 24=3:=by kernel_rfl
 have c1:Aav.cellsOf 3=1:=by kernel_rfl
 have c2:Aav.cellsOf 9=1:=by kernel_rfl
 obtain ⟨n,cs,rfl,hlen,hf⟩:=EW ht hl h;rw [c0] at hlen
 match cs,hlen with
 | [a,b,c],_=>
  have f0:=hf (3,0) (by simp);have f1:=hf (3,1) (by simp);have f2:=hf (9,2) (by simp);simp only [c1,c2] at f0 f1 f2;obtain ⟨k,e0,h0⟩:=DV (P:=Aav) Ab0 f0;obtain ⟨m,e1,h1⟩:=DV (P:=Aav) Ab0 f1;obtain ⟨s,e2,h2⟩:=Fi (P:=Aav) Ab6 f2;injection e0 with e0
  injection e1 with e1
  injection e2 with e2
  subst e0 e1 e2;exact ⟨(k,m,s),rfl,h0,h1,h2⟩
theorem VLs:∃ f,CC.P.underlying 24=some (.struct f):=⟨(match Aav.underlying 24 with | some (.struct f)=>f | _=>#[]),by kernel_rfl⟩
def Kt (x:Bool) (y:Option Bool):Option Bool:=match some x with
 | some true=>y
 | o=>o
def We (v w:Vl):Bool:=(v.1 == w.1) && (v.2.1 == w.2.1) && (v.2.2 == w.2.2)
theorem oh (a a' b b':Int) (c c':List UInt8):Mx CC 100 24 (.agg [.int .i64 a,.int .i64 b,.str c]) (.agg [.int .i64 a',.int .i64 b',.str c'])=some ((a == a') && (b == b') && (c == c')):=by
 have h:Mx CC 100 24 (.agg [.int .i64 a,.int .i64 b,.str c]) (.agg [.int .i64 a',.int .i64 b',.str c'])=Kt (a == a') (Kt (b == b') (Kt (c == c') (some true))):=by kernel_rfl
 rw [h];cases a == a' <;> cases b == b' <;> cases c == c' <;> rfl
theorem Gj:CC.P.eqGuardType CC.P.depth 24=false:=by kernel_rfl
theorem N3:Be CC Ab3 (Ab3.body.getD .skip)=true:=by kernel_rfl
theorem MP:CC.P.funcs[149]?=some Ab3:=by kernel_rfl
theorem Ro:Be CC Aaw (Aaw.body.getD .skip)=true:=by kernel_rfl
theorem PG:CC.P.funcs[118]?=some Aaw:=by kernel_rfl
theorem CE {x:List PV} {b:List PBox} (h:x.length.ble Aaw.ntmps=true):Ad CC 118 x b=CD CC Aaw.results.toList (Cf CC (Aaw.body.getD .skip) ⟨x,b⟩):=Ah (fn:=Aaw) (c:=Aaw.body.getD .skip) rfl rfl PG rfl Ro (Ab2 h)
def vM (n:Int):Bool:=decide (-1099511627776<=n/\n<=1099511627776)
theorem Mb (n:Int):Ad CC 149 [.int .i64 n] []=some (.ret (.bool (vM n)),[]):=by
 rw [Ah (fn:=Ab3) (c:=Ab3.body.getD .skip) rfl rfl MP rfl N3 (Ab2 rfl)];unfold vM;by_cases c1:n ≥ -1099511627776
 · by_cases c2:n<=1099511627776
   · rw [decide_eq_true (show -1099511627776<=n/\n<=1099511627776 from ⟨c1,c2⟩)]
     rw [<- Al];simp only [Aa,Ac,Ab3,Aau];simp only [S8,Af,seval,c1,c2]
   · rw [decide_eq_false (show ¬ (-1099511627776<=n/\n<=1099511627776) from fun h=>c2 h.2)]
     rw [<- Al];simp only [Aa,Ac,Ab3,Aau];simp only [S8,Af,seval,c1,c2]
 · rw [decide_eq_false (show ¬ (-1099511627776<=n/\n<=1099511627776) from fun h=>c1 h.1)]
   rw [<- Al];simp only [Aa,Ac,Ab3,Aau];simp only [S8,Af,seval,c1]
theorem N4 (n:Int) (bx):Ai CC (Ad CC) 149 [.int .i64 n] bx=some (.ret (.bool (vM n)),bx):=Ao rfl (by simp only [SA,Ab5]) (Mb n) rfl
def Pn (k n:Int):Option Bool:=if k=0\/k=4 then some (n == 0) else if k=1 then some (n == 0 || n == 1) else if k=2 then some (vM n) else if k=3 then some (decide (0<=n) && decide (n<=63)) else none
def Ku (v:Vl):Int:=match Pn v.1 v.2.1 with
 | none=>7
 | some false=>2
 | some true=>if 60 < v.2.2.length then 3 else if v.2.2≠[]/\v.1≠4 then 4 else 0
theorem si (n:Int) (s:List UInt8):∃ bx,Ad CC 118 [PF (0,n,s)] []=some (.ret (.int .i64 (Ku (0,n,s))),bx):=by
 rw [CE rfl];have hlen:=A7 s;unfold Ku PF;simp only;by_cases c1:n=0
 · subst c1
   have ok:Pn 0 0=some true:=rfl;rw [ok];by_cases d1:60 < s.length
   · have d1p:(s.length:Int) > 60:=by omega
     simp only [if_pos d1];rw [<- Al];skip;simp only [Aa,Ac,Aaw,Aau];simp only [S8,Af,SG,seval,UT,SC,hlen,d1p];exact ⟨_,rfl⟩
   · have d1p:¬ (s.length:Int) > 60:=by omega
     simp only [if_neg d1];have O6:=DB s [];by_cases d2:s=[]
     · rw [if_neg (fun h=>h.1 d2)]
       rw [show (!(s == []))=false by rw [d2];rfl] at O6;rw [<- Al];skip;simp only [Aa,Ac,Aaw,Aau];simp only [S8,Af,SG,seval,UT,SC,hlen,d1p,O6];exact ⟨_,rfl⟩
     · rw [if_pos ⟨d2,by omega⟩]
       rw [show (!(s == []))=true by simpa using d2] at O6;rw [<- Al];skip;simp only [Aa,Ac,Aaw,Aau];simp only [S8,Af,SG,seval,UT,SC,hlen,d1p,O6];exact ⟨_,rfl⟩
 · have c1p:(n == 0)=false:=by simpa using c1
   have ok:Pn 0 n=some false:=by unfold Pn;simpa using c1
   rw [ok];dsimp only;rw [<- Al];skip;simp only [Aa,Ac,Aaw,Aau];simp only [S8,Af,SG,seval,UT,SC,hlen,c1p];exact ⟨_,rfl⟩
theorem sj (n:Int) (s:List UInt8):∃ bx,Ad CC 118 [PF (4,n,s)] []=some (.ret (.int .i64 (Ku (4,n,s))),bx):=by
 rw [CE rfl];have hlen:=A7 s;unfold Ku PF;simp only;by_cases c1:n=0
 · subst c1
   have ok:Pn 4 0=some true:=rfl;rw [ok];by_cases d1:60 < s.length
   · have d1p:(s.length:Int) > 60:=by omega
     simp only [if_pos d1];rw [<- Al];skip;simp only [Aa,Ac,Aaw,Aau];simp only [S8,Af,SG,seval,UT,SC,hlen,d1p];exact ⟨_,rfl⟩
   · have d1p:¬ (s.length:Int) > 60:=by omega
     simp only [if_neg d1];simp only [ne_eq,not_true_eq_false,and_false,if_false];have O6:=DB s [];generalize (!(s == []))=sb at *;cases sb
     · skip
       rw [<- Al];skip;simp only [Aa,Ac,Aaw,Aau];simp only [S8,Af,SG,seval,UT,SC,hlen,d1p,O6];exact ⟨_,rfl⟩
     · skip
       rw [<- Al];skip;simp only [Aa,Ac,Aaw,Aau];simp only [S8,Af,SG,seval,UT,SC,hlen,d1p,O6];exact ⟨_,rfl⟩
 · have c1p:(n == 0)=false:=by simpa using c1
   have ok:Pn 4 n=some false:=by unfold Pn;simpa using c1
   rw [ok];dsimp only;rw [<- Al];skip;simp only [Aa,Ac,Aaw,Aau];simp only [S8,Af,SG,seval,UT,SC,hlen,c1p];exact ⟨_,rfl⟩
theorem sn (n:Int) (s:List UInt8):∃ bx,Ad CC 118 [PF (1,n,s)] []=some (.ret (.int .i64 (Ku (1,n,s))),bx):=by
 rw [CE rfl];have hlen:=A7 s;unfold Ku PF;simp only;by_cases c1:n=0
 · subst c1
   have ok:Pn 1 0=some true:=rfl;rw [ok];by_cases d1:60 < s.length
   · have d1p:(s.length:Int) > 60:=by omega
     simp only [if_pos d1];rw [<- Al];skip;simp only [Aa,Ac,Aaw,Aau];simp only [S8,Af,SG,seval,UT,SC,hlen,d1p];exact ⟨_,rfl⟩
   · have d1p:¬ (s.length:Int) > 60:=by omega
     simp only [if_neg d1];have O6:=DB s [];by_cases d2:s=[]
     · rw [if_neg (fun h=>h.1 d2)]
       rw [show (!(s == []))=false by rw [d2];rfl] at O6;rw [<- Al];skip;simp only [Aa,Ac,Aaw,Aau];simp only [S8,Af,SG,seval,UT,SC,hlen,d1p,O6];exact ⟨_,rfl⟩
     · rw [if_pos ⟨d2,by omega⟩]
       rw [show (!(s == []))=true by simpa using d2] at O6;rw [<- Al];skip;simp only [Aa,Ac,Aaw,Aau];simp only [S8,Af,SG,seval,UT,SC,hlen,d1p,O6];exact ⟨_,rfl⟩
 · have c1p:(n == 0)=false:=by simpa using c1
   by_cases c2:n=1
   · subst c2
     have ok:Pn 1 1=some true:=rfl;rw [ok];by_cases d1:60 < s.length
     · have d1p:(s.length:Int) > 60:=by omega
       simp only [if_pos d1];rw [<- Al];skip;simp only [Aa,Ac,Aaw,Aau];simp only [S8,Af,SG,seval,UT,SC,hlen,d1p];exact ⟨_,rfl⟩
     · have d1p:¬ (s.length:Int) > 60:=by omega
       simp only [if_neg d1];have O6:=DB s [];by_cases d2:s=[]
       · rw [if_neg (fun h=>h.1 d2)]
         rw [show (!(s == []))=false by rw [d2];rfl] at O6;rw [<- Al];skip;simp only [Aa,Ac,Aaw,Aau];simp only [S8,Af,SG,seval,UT,SC,hlen,d1p,O6];exact ⟨_,rfl⟩
       · rw [if_pos ⟨d2,by omega⟩]
         rw [show (!(s == []))=true by simpa using d2] at O6;rw [<- Al];skip;simp only [Aa,Ac,Aaw,Aau];simp only [S8,Af,SG,seval,UT,SC,hlen,d1p,O6];exact ⟨_,rfl⟩
   · have c2p:(n == 1)=false:=by simpa using c2
     have ok:Pn 1 n=some false:=by unfold Pn;simp [c1,c2]
     rw [ok];dsimp only;rw [<- Al];skip;simp only [Aa,Ac,Aaw,Aau];simp only [S8,Af,SG,seval,UT,SC,hlen,c1p,c2p];exact ⟨_,rfl⟩
theorem sq (n:Int) (s:List UInt8):∃ bx,Ad CC 118 [PF (2,n,s)] []=some (.ret (.int .i64 (Ku (2,n,s))),bx):=by
 rw [CE rfl];have hlen:=A7 s;unfold Ku PF;simp only;have NQ:=N4 n;have ok:Pn 2 n=some (vM n):=rfl;generalize vM n=b at *;cases b
 · skip
   rw [ok];dsimp only;rw [<- Al];rw [<- AI] at NQ;simp only [Aa,Ac,Aaw,Aau];simp only [S8,Af,SG,seval,UT,SC,hlen,NQ];exact ⟨_,rfl⟩
 · skip
   rw [ok];by_cases d1:60 < s.length
   · have d1p:(s.length:Int) > 60:=by omega
     simp only [if_pos d1];rw [<- Al];rw [<- AI] at NQ;simp only [Aa,Ac,Aaw,Aau];simp only [S8,Af,SG,seval,UT,SC,hlen,NQ,d1p];exact ⟨_,rfl⟩
   · have d1p:¬ (s.length:Int) > 60:=by omega
     simp only [if_neg d1];have O6:=DB s [];by_cases d2:s=[]
     · rw [if_neg (fun h=>h.1 d2)]
       rw [show (!(s == []))=false by rw [d2];rfl] at O6;rw [<- Al];rw [<- AI] at NQ;simp only [Aa,Ac,Aaw,Aau];simp only [S8,Af,SG,seval,UT,SC,hlen,NQ,d1p,O6];exact ⟨_,rfl⟩
     · rw [if_pos ⟨d2,by omega⟩]
       rw [show (!(s == []))=true by simpa using d2] at O6;rw [<- Al];rw [<- AI] at NQ;simp only [Aa,Ac,Aaw,Aau];simp only [S8,Af,SG,seval,UT,SC,hlen,NQ,d1p,O6];exact ⟨_,rfl⟩
theorem sr (n:Int) (s:List UInt8):∃ bx,Ad CC 118 [PF (3,n,s)] []=some (.ret (.int .i64 (Ku (3,n,s))),bx):=by
 rw [CE rfl];have hlen:=A7 s;unfold Ku PF;simp only;by_cases c1:n ≥ 0
 · by_cases c2:n<=63
   · have ok:Pn 3 n=some true:=by unfold Pn;simp;omega
     rw [ok];by_cases d1:60 < s.length
     · have d1p:(s.length:Int) > 60:=by omega
       simp only [if_pos d1];rw [<- Al];skip;simp only [Aa,Ac,Aaw,Aau];simp only [S8,Af,SG,seval,UT,SC,hlen,c1,c2,d1p];exact ⟨_,rfl⟩
     · have d1p:¬ (s.length:Int) > 60:=by omega
       simp only [if_neg d1];have O6:=DB s [];by_cases d2:s=[]
       · rw [if_neg (fun h=>h.1 d2)]
         rw [show (!(s == []))=false by rw [d2];rfl] at O6;rw [<- Al];skip;simp only [Aa,Ac,Aaw,Aau];simp only [S8,Af,SG,seval,UT,SC,hlen,c1,c2,d1p,O6];exact ⟨_,rfl⟩
       · rw [if_pos ⟨d2,by omega⟩]
         rw [show (!(s == []))=true by simpa using d2] at O6;rw [<- Al];skip;simp only [Aa,Ac,Aaw,Aau];simp only [S8,Af,SG,seval,UT,SC,hlen,c1,c2,d1p,O6];exact ⟨_,rfl⟩
   · have ok:Pn 3 n=some false:=by unfold Pn;simp;omega
     rw [ok];dsimp only;rw [<- Al];skip;simp only [Aa,Ac,Aaw,Aau];simp only [S8,Af,SG,seval,UT,SC,hlen,c1,c2];exact ⟨_,rfl⟩
 · have ok:Pn 3 n=some false:=by unfold Pn;simp;omega
   rw [ok];dsimp only;rw [<- Al];skip;simp only [Aa,Ac,Aaw,Aau];simp only [S8,Af,SG,seval,UT,SC,hlen,c1];exact ⟨_,rfl⟩
theorem ss (k n:Int) (s:List UInt8) (h:k≠0/\k≠4/\k≠1/\k≠2/\k≠3):∃ bx,Ad CC 118 [PF (k,n,s)] []=some (.ret (.int .i64 (Ku (k,n,s))),bx):=by
 rw [CE rfl];obtain ⟨k0,k4,k1,k2,k3⟩:=h;have ok:Pn k n=none:=by unfold Pn;rw [if_neg (by omega),if_neg k1,if_neg k2,if_neg k3]
 have e0:(k == 0)=false:=by simpa using k0
 have e4:(k == 4)=false:=by simpa using k4
 have e1:(k == 1)=false:=by simpa using k1
 have e2:(k == 2)=false:=by simpa using k2
 have e3:(k == 3)=false:=by simpa using k3
 have hlen:=A7 s;unfold Ku PF;simp only;rw [ok];dsimp only;rw [<- Al];skip;simp only [Aa,Ac,Aaw,Aau];simp only [S8,Af,SG,seval,UT,SC,hlen,e0,e4,e1,e2,e3];exact ⟨_,rfl⟩
theorem N5 (v:Vl):∃ bx,Ad CC 118 [PF v] []=some (.ret (.int .i64 (Ku v)),bx):=by
 obtain ⟨k,n,s⟩:=v;by_cases k0:k=0
 · subst k0;exact si n s
 by_cases k4:k=4
 · subst k4;exact sj n s
 by_cases k1:k=1
 · subst k1;exact sn n s
 by_cases k2:k=2
 · subst k2;exact sq n s
 by_cases k3:k=3
 · subst k3;exact sr n s
 exact ss k n s ⟨k0,k4,k1,k2,k3⟩
theorem Kv (v:Vl) (bx):Ai CC (Ad CC) 118 [PF v] bx=some (.ret (.int .i64 (Ku v)),bx):=by
 obtain ⟨b,h⟩:=N5 v;exact Ao rfl rfl h rfl
theorem PH:Be CC Ab7 (Ab7.body.getD .skip)=true:=by kernel_rfl
theorem N6:CC.P.funcs[56]?=some Ab7:=by kernel_rfl
theorem Rp:Be CC Aay (Aay.body.getD .skip)=true:=by kernel_rfl
theorem PI:CC.P.funcs[29]?=some Aay:=by kernel_rfl
theorem get_at (s:List UInt8) (i:Nat) (c:UInt8) (h:s[i]?=some c):(ByteArray.mk s.toArray).get! i=c:=by
 show s.toArray[i]! = c;rw [getElem!_def,List.getElem?_toArray,h]
theorem su (s:List UInt8) (i:Nat) (c:UInt8) (h:s[i]?=some c) (hc:c.toNat < 128):Ab8 ⟨s.toArray⟩ i=(c.toNat,1):=by
 unfold Ab8;simp only [Abe,get_at s i c h];rw [if_pos hc]
theorem sw (s:List UInt8) (i:Nat) (c:UInt8) (h:s[i]?=some c) (hc:¬ c.toNat < 128):128<=(Ab8 ⟨s.toArray⟩ i).1:=by
 unfold Ab8;simp only [Abe,get_at s i c h];rw [if_neg hc];unfold Utf8.runeError
 repeat' split
 all_goals first | (simp only;omega) | (rename_i hh;simp at hh;simp only;omega) | decide
def db (i n:Nat):Bool:=decide ((97<=n/\n<=122)\/(i≠0/\(n=95\/n=45\/(48<=n/\n<=57))))
def Tz:Nat->List UInt8->Bool
 | _,[]=>true
 | i,c :: r=>db i c.toNat && Tz (i+1) r
def B8 (s:List UInt8):Bool:=decide (1<=s.length/\s.length<=24) && Tz 0 s
def PVd (v:Bool) (r:Option (Ex×St)):Prop:=∃ e' bx',(v=true/\r=some (.exit 0,⟨e',bx'⟩))\/(v=false/\r=some (.ret,⟨e',bx'⟩)/\getT e' 2=.bool false)
theorem MQ (r:Int):Ad CC 56 [.int .i32 r] []=some (.ret (.bool (decide (97<=r/\r<=122))),[]):=by
 rw [Ah (fn:=Ab7) (c:=Ab7.body.getD .skip) rfl rfl N6 rfl PH (Ab2 rfl)];by_cases c1:r ≥ 97
 · by_cases c2:r<=122
   · rw [decide_eq_true (show 97<=r/\r<=122 from ⟨c1,c2⟩)]
     rw [<- Al];simp only [Aa,Ac,Ab7,Aau];simp only [S8,Af,seval,c1,c2]
   · rw [decide_eq_false (show ¬ (97<=r/\r<=122) from fun h=>c2 h.2)]
     rw [<- Al];simp only [Aa,Ac,Ab7,Aau];simp only [S8,Af,seval,c1,c2]
 · rw [decide_eq_false (show ¬ (97<=r/\r<=122) from fun h=>c1 h.1)]
   rw [<- Al];simp only [Aa,Ac,Ab7,Aau];simp only [S8,Af,seval,c1]
theorem JL (r:Int) (bx):Ai CC (Ad CC) 56 [.int .i32 r] bx=some (.ret (.bool (decide (97<=r/\r<=122))),bx):=Ao rfl (by simp only [SA,Ab5]) (MQ r) rfl
theorem N7 (L:Code) (hL:L=Aa Aay [1,1,0,1,0]) (s:List UInt8) (hs:s.length<=30000):∀ (k i:Nat) (e:List PV),i+k=s.length->getT e 0=.str s->getT e 14=.bp 0 0 ->
 PVd (Tz i (s.drop i)) (Cf CC L ⟨e,[.iter s i]⟩):=by
 intro k
 induction k with
 | zero=>
  intro i e hk h0 cK;rw [AX (Aa Aay [1,1,0,1,0,0]) hL];have BC:¬ (i < s.length):=by omega
  rw [List.drop_eq_nil_of_le (by omega)];unfold Tz;rw [<- Al];simp only [Aa,Ac,Aay,Aau];simp only [S8,Af,seval,JK,aO,List.getElem?_cons_zero,List.getElem?_cons_succ,h0,cK,BC];exact ⟨_,_,.inl ⟨rfl,rfl⟩⟩
 | succ k ih=>
  intro i e hk h0 cK;rw [AX (Aa Aay [1,1,0,1,0,0]) hL];have hlen:=A7 s;have BC:i < s.length:=by omega
  have hx:s[i]?=some (s[i]'(by omega)):=by simp
  have G1:s.drop i=(s[i]'(by omega)) :: s.drop (i+1):=List.drop_eq_getElem_cons (by omega);generalize s[i]'(by omega)=c at *;have eI:=su s i c hx;have uR:=sw s i c hx;have key:=fun e=>ih (i+1) e (by omega);rw [G1];unfold Tz;generalize Tz (i+1) (s.drop (i+1))=v at *;generalize c.toNat=n at *;clear hx G1;by_cases h128:n < 128
  · have UJ:=eI h128
    have HC:=JL (n:Int);by_cases a1:97<=(n:Int)/\(n:Int)<=122
    · rw [decide_eq_true a1] at HC
      rw [show db i n=true from decide_eq_true (by omega),Ab4];rw [<- Al];rw [<- AI] at HC;rw [<- Al] at key;simp only [Aa,Ac,Aay,Aau];simp only [S8,Af,SG,seval,JK,Aax,h0,cK,hlen,BC,HC,UJ];exact key _ (by simp only [S7,Af,seval,h0]) (by simp only [S7,Af,seval,cK])
    · rw [decide_eq_false a1] at HC
      by_cases i0:i=0
      · have z:((i:Int) == 0)=true:=by rw [i0];rfl
        rw [show db i n=false from decide_eq_false (by omega),Ab1];rw [<- Al];rw [<- AI] at HC;simp only [Aa,Ac,Aay,Aau];simp only [S8,Af,SG,seval,JK,Aax,h0,cK,hlen,BC,HC,UJ,z];exact ⟨_,_,.inr ⟨rfl,rfl,by simp only [S7,Af,seval]⟩⟩
      · have z:((i:Int) == 0)=false:=by rw [beq_eq_false_iff_ne];omega
        by_cases e1:n=95
        · have e1p:((n:Int) != 95)=false:=by rw [e1];rfl
          rw [show db i n=true from decide_eq_true (by omega),Ab4];rw [<- Al];rw [<- AI] at HC;rw [<- Al] at key;simp only [Aa,Ac,Aay,Aau];simp only [S8,Af,SG,seval,JK,Aax,h0,cK,hlen,BC,HC,UJ,z,e1p];exact key _ (by simp only [S7,Af,seval,h0]) (by simp only [S7,Af,seval,cK])
        · have e1p:((n:Int) != 95)=true:=by rw [bne_iff_ne];omega
          by_cases e2:n=45
          · have e2p:((n:Int) != 45)=false:=by rw [e2];rfl
            rw [show db i n=true from decide_eq_true (by omega),Ab4];rw [<- Al];rw [<- AI] at HC;rw [<- Al] at key;simp only [Aa,Ac,Aay,Aau];simp only [S8,Af,SG,seval,JK,Aax,h0,cK,hlen,BC,HC,UJ,z,e1p,e2p];exact key _ (by simp only [S7,Af,seval,h0]) (by simp only [S7,Af,seval,cK])
          · have e2p:((n:Int) != 45)=true:=by rw [bne_iff_ne];omega
            by_cases e3:(n:Int) < 48
            · skip
              rw [show db i n=false from decide_eq_false (by omega),Ab1];rw [<- Al];rw [<- AI] at HC;simp only [Aa,Ac,Aay,Aau];simp only [S8,Af,SG,seval,JK,Aax,h0,cK,hlen,BC,HC,UJ,z,e1p,e2p,e3];exact ⟨_,_,.inr ⟨rfl,rfl,by simp only [S7,Af,seval]⟩⟩
            · by_cases e4:(n:Int) > 57
              · skip
                rw [show db i n=false from decide_eq_false (by omega),Ab1];rw [<- Al];rw [<- AI] at HC;simp only [Aa,Ac,Aay,Aau];simp only [S8,Af,SG,seval,JK,Aax,h0,cK,hlen,BC,HC,UJ,z,e1p,e2p,e3,e4];exact ⟨_,_,.inr ⟨rfl,rfl,by simp only [S7,Af,seval]⟩⟩
              · skip
                rw [show db i n=true from decide_eq_true (by omega),Ab4];rw [<- Al];rw [<- AI] at HC;rw [<- Al] at key;simp only [Aa,Ac,Aay,Aau];simp only [S8,Af,SG,seval,JK,Aax,h0,cK,hlen,BC,HC,UJ,z,e1p,e2p,e3,e4];exact key _ (by simp only [S7,Af,seval,h0]) (by simp only [S7,Af,seval,cK])
  · have Qy:=uR h128
    rw [show db i n=false from decide_eq_false (by omega),Ab1];generalize UJ:Ab8 ⟨s.toArray⟩ i=d at *;obtain ⟨m,k2⟩:=d;simp only at Qy;have HC:=JL (m:Int);rw [decide_eq_false (by omega)] at HC;by_cases i0:i=0
    · have z:((i:Int) == 0)=true:=by rw [i0];rfl
      rw [<- Al];rw [<- AI] at HC;simp only [Aa,Ac,Aay,Aau];simp only [S8,Af,SG,seval,JK,Aax,h0,cK,hlen,BC,HC,UJ,z];exact ⟨_,_,.inr ⟨rfl,rfl,by simp only [S7,Af,seval]⟩⟩
    · have z:((i:Int) == 0)=false:=by rw [beq_eq_false_iff_ne];omega
      have e1p:((m:Int) != 95)=true:=by rw [bne_iff_ne];omega
      have e2p:((m:Int) != 45)=true:=by rw [bne_iff_ne];omega
      have e3:¬ ((m:Int) < 48):=by omega
      have e4:((m:Int) > 57):=by omega
      rw [<- Al];rw [<- AI] at HC;simp only [Aa,Ac,Aay,Aau];simp only [S8,Af,SG,seval,JK,Aax,h0,cK,hlen,BC,HC,UJ,z,e1p,e2p,e3,e4];exact ⟨_,_,.inr ⟨rfl,rfl,by simp only [S7,Af,seval]⟩⟩
theorem N8 (s:List UInt8) (hs:s.length<=30000):∃ bx,Ad CC 29 [.str s] []=some (.ret (.bool (B8 s)),bx):=by
 rw [Ah (fn:=Aay) (c:=Aay.body.getD .skip) rfl rfl PI rfl Rp (Ab2 rfl)];have hlen:=A7 s;unfold B8;by_cases c1:(s.length:Int) < 1
 · rw [decide_eq_false (show ¬ (1<=s.length/\s.length<=24) by omega),Ab1]
   rw [<- Al];simp only [Aa,Ac,Aay,Aau];simp only [S8,Af,seval,hlen,c1];exact ⟨_,rfl⟩
 · by_cases c2:(s.length:Int) > 24
   · rw [decide_eq_false (show ¬ (1<=s.length/\s.length<=24) by omega),Ab1]
     rw [<- Al];simp only [Aa,Ac,Aay,Aau];simp only [S8,Af,seval,hlen,c1,c2];exact ⟨_,rfl⟩
   · rw [decide_eq_true (show 1<=s.length/\s.length<=24 by omega),Ab4]
     have Ag:=fun e=>N7 _ rfl s hs s.length 0 e (by omega);rw [Ab9] at Ag;have cF:CC.P.underlying 9=some .string:=by kernel_rfl
     generalize Tz 0 s=v at *;rw [<- Al];rw [<- Al] at Ag;simp only [Aa,Ac,Aay,Aau] at Ag |-;simp only [S8,Af,seval,hlen,c1,c2,aU,cF,List.nil_append];generalize hE:GM _ _=r
     have hP:PVd v r:=by
      rw [<- hE];exact Ag _ (by simp only [S7,Af,seval]) (by simp only [S7,Af,seval])
     obtain ⟨e',bx',⟨hv,he⟩ | ⟨hv,he,g2⟩⟩:=hP
     · subst he
       subst hv;simp only [S8,Af,seval];exact ⟨_,rfl⟩
     · subst he
       subst hv;simp only [S8,Af,seval,g2];exact ⟨_,rfl⟩
theorem Ci (s:List UInt8) (hs:s.length<=30000) (bx):Ai CC (Ad CC) 29 [.str s] bx=some (.ret (.bool (B8 s)),bx):=by
 obtain ⟨b,h⟩:=N8 s hs;exact Ao rfl (by simp only [SA,Ab5]) h rfl
abbrev Ky:=Int×List UInt8×List UInt8
def wP (k:Ky):PV:=.agg [.int .i64 k.1,.str k.2.1,.str k.2.2]
def fL (k:Ky):Prop:=GY k.1/\k.2.1.length<=maxLen/\k.2.2.length<=maxLen
inductive Tr where
 | mk (k n m:Int) (nm:List UInt8) (v:Vl) (key:Ky) (kids:List Tr)
mutual
def Bw:Tr->PV
 | .mk k n m nm v key kids=>.agg [.int .i64 k,.int .i64 n,.int .i64 m,.str nm,.int .i64 v.1,.int .i64 v.2.1,.str v.2.2,.int .i64 key.1,.str key.2.1,.str key.2.2,.sl (A1 kids)]
def A1:List Tr->List PV
 | []=>[]
 | t :: r=>Bw t :: A1 r
end
mutual
def Lu:Tr->Prop
 | .mk k n m nm v key kids=>GY k/\GY n/\GY m/\nm.length<=maxLen/\wO v/\fL key/\kids.length<=maxLen/\JM kids
def JM:List Tr->Prop
 | []=>True
 | t :: r=>Lu t/\JM r
end
theorem MR:∀ l:List Tr,A1 l=l.map Bw
 | []=>by unfold A1;rfl
 | t :: r=>by unfold A1;rw [MR r];rfl
theorem Vh:∀ l:List Tr,JM l↔∀ t ∈ l,Lu t
 | []=>by unfold JM;simp
 | t :: r=>by unfold JM;rw [Vh r];simp
theorem Cv (l:List Tr):(A1 l).length=l.length:=by rw [MR,List.length_map]
theorem MS {l:List Tr} {i:Nat} {t:Tr} (h:l[i]?=some t):(A1 l)[i]?=some (Bw t):=by rw [MR,List.getElem?_map,h];rfl
theorem Wf {P:Program} {t:TypeId} {n:Nat} {cs:List PV} {fs:Array Field} {l:List (TypeId×Nat)} (ht:P.underlying t=some (.struct fs)) (hl:fs.toList.map (fun f=>(f.type,f.offset))=l) (h:Ei P (n+1) t cs):∀ x ∈ l,Ei P n x.1 ((cs.drop x.2).take (P.cellsOf x.1)):=by
 unfold Ei at h;rw [ht] at h;intro x hx;rw [<- hl] at hx;obtain ⟨f,hf,rfl⟩:=List.mem_map.1 hx;exact h f hf
theorem Yo {P:Program} {t e:TypeId} {n:Nat} {cs:List PV} (ht:P.underlying t=some (.slice e)) (h:Ei P (n+1) t cs):∃ xs,cs=[.sl xs]/\xs.length<=maxLen/\∀ x ∈ xs,∃ cs,x=X4 P e cs/\cs.length=P.cellsOf e/\Ei P n e cs:=by
 unfold Ei at h;rw [ht] at h;exact h
theorem uTr:Aav.underlying 29=some (.struct ((match Aav.underlying 29 with | some (.struct f)=>f | _=>#[]))):=by kernel_rfl
theorem fTr:((match Aav.underlying 29 with | some (.struct f)=>f | _=>#[]):Array Field).toList.map (fun f=>(f.type,f.offset))=[(3,0),(3,1),(3,2),(9,3),(24,4),(26,7),(27,10)]:=by kernel_rfl
theorem uKy:Aav.underlying 26=some (.struct ((match Aav.underlying 26 with | some (.struct f)=>f | _=>#[]))):=by kernel_rfl
theorem fKy:((match Aav.underlying 26 with | some (.struct f)=>f | _=>#[]):Array Field).toList.map (fun f=>(f.type,f.offset))=[(3,0),(9,1),(9,2)]:=by kernel_rfl
theorem zL:Aav.underlying 27=some (.slice 29):=by kernel_rfl
theorem zM:Aav.cellsOf 29=11:=by kernel_rfl
theorem cVl:Aav.cellsOf 24=3:=by kernel_rfl
theorem sx:Aav.cellsOf 26=3:=by kernel_rfl
theorem zN:Aav.cellsOf 27=1:=by kernel_rfl
theorem fM:Aav.cellsOf 3=1:=by kernel_rfl
theorem fO:Aav.cellsOf 9=1:=by kernel_rfl
theorem Rq {p:PV} (h:Km Aav 26 p):∃ k:Ky,p=wP k/\fL k:=by
 obtain ⟨n,cs,rfl,hlen,hf⟩:=EW uKy fKy h;rw [sx] at hlen
 match cs,hlen with
 | [a,b,c],_=>
  have f0:=hf (3,0) (by simp);have f1:=hf (9,1) (by simp);have f2:=hf (9,2) (by simp);simp only [fM,fO] at f0 f1 f2;obtain ⟨k,e0,h0⟩:=DV (P:=Aav) Ab0 f0;obtain ⟨m,e1,h1⟩:=Fi (P:=Aav) Ab6 f1;obtain ⟨s,e2,h2⟩:=Fi (P:=Aav) Ab6 f2;injection e0 with e0
  injection e1 with e1
  injection e2 with e2
  subst e0 e1 e2;exact ⟨(k,m,s),rfl,h0,h1,h2⟩
theorem wQ:JT Aav 29=true:=by unfold JT;rw [uTr]
theorem wR:JT Aav 24=true:=by obtain ⟨f,h⟩:=VLs;unfold JT;rw [show Aav.underlying 24=_ from h]
theorem jC:JT Aav 26=true:=by unfold JT;rw [uKy]
theorem dc:∀ (N n:Nat),n < N->∀ cs:List PV,cs.length=11->Ei Aav n 29 cs->∃ t:Tr,PV.agg cs=Bw t/\Lu t:=by
 intro N
 induction N with
 | zero=>intro n h;omega
 | succ N ih=>
  intro n hn cs hlen h;cases n with
  | zero=>exact h.elim
  | succ n=>
   have hf:=Wf uTr fTr h
   match cs,hlen with
   | [a0,a1,a2,a3,a4,a5,a6,a7,a8,a9,b0],_=>
    have f0:=hf (3,0) (by simp);have f1:=hf (3,1) (by simp);have f2:=hf (3,2) (by simp);have f3:=hf (9,3) (by simp);have f4:=hf (24,4) (by simp);have f5:=hf (26,7) (by simp);have f6:=hf (27,10) (by simp);simp only [fM,fO,cVl,sx,zN] at f0 f1 f2 f3 f4 f5 f6;obtain ⟨k,e0,h0⟩:=DV (P:=Aav) Ab0 f0;obtain ⟨x,e1,h1⟩:=DV (P:=Aav) Ab0 f1;obtain ⟨y,e2,h2⟩:=DV (P:=Aav) Ab0 f2;obtain ⟨s,e3,h3⟩:=Fi (P:=Aav) Ab6 f3;have f4':Km Aav 24 (.agg [a4,a5,a6]):=⟨n,[a4,a5,a6],by unfold X4;rw [if_pos wR],fun _=>by rw [cVl];rfl,f4⟩;have f5':Km Aav 26 (.agg [a7,a8,a9]):=⟨n,[a7,a8,a9],by unfold X4;rw [if_pos jC],fun _=>by rw [sx];rfl,f5⟩;obtain ⟨v,e4,h4⟩:=jB f4';obtain ⟨ky,e5,h5⟩:=Rq f5';cases n with
    | zero=>exact f6.elim
    | succ n=>
     obtain ⟨xs,e6,h6,h7⟩:=Yo zL f6
     obtain ⟨l,rfl,h8⟩:=ML (f:=Bw) (Q:=Lu) xs (fun x hx=>by
      obtain ⟨cs,rfl,hc,hT⟩:=h7 x hx;rw [zM] at hc;have:=ih n (by omega) cs hc hT;unfold X4;rw [if_pos wQ];exact this)
     unfold PF at e4;unfold wP at e5;simp only [List.drop_succ_cons,Ab9,List.take_succ_cons,List.take_zero,List.cons.injEq,and_true,PV.agg.injEq] at e0 e1 e2 e3 e4 e5 e6;obtain ⟨e41,e42,e43⟩:=e4;obtain ⟨e51,e52,e53⟩:=e5;subst e0 e1 e2 e3 e41 e42 e43 e51 e52 e53 e6;refine ⟨.mk k x y s v ky l,?_,?_⟩
     · unfold Bw
       rw [MR]
     · unfold Lu
       exact ⟨h0,h1,h2,h3,h4,h5,by simpa using h6,(Vh l).2 h8⟩
theorem HY:zeroCells CC 29=some [.int .i64 0,.int .i64 0,.int .i64 0,.str [],.int .i64 0,.int .i64 0,.str [],.int .i64 0,.str [],.str [],.nils]:=by kernel_rfl
end Go.HH
