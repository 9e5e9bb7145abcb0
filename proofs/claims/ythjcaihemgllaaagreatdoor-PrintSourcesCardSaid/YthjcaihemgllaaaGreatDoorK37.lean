/-
  What the law needs, packed: CA PB PC PD PE.
-/
import Derived.Test.YthjcaihemgllaaaGreatDoorK36
open Nat renaming le_of_ble_eq_true->Aau,le_refl->Abs,add_zero->Ac9
open Option renaming getD->Aav,map_some->Abw
open Go.Proofs.Tryz renaming f145->Aaw,f51->Aax,f47->Aay,f163->Ab1,f146->Ab2,f106->Ab3,f143->Ab4,f103->Ab5,f24->Ab6,f22->Ab7,f148->Ab8,f144->Ab9,f142->Aba,f105->Abb,f102->Abc,f101->Abd,f50->Abg,f140->Abh,f100->Abk,f52->Abm,f141->Abx,f104->Aby
open List renaming set_cons_zero->Aaz,set_cons_succ->Ab0,getElem?_eq_some_iff->Abi,replicate->Abj,getElem?_append_right->Abn,eq_of_mem_replicate->Abo,getElem?_cons_zero->Abp,getElem?_cons_succ->Abq,set_append_right->Abr,take_succ_cons->Abt,mem_map_of_mem->Abu,length_cons->Abz,all_eq_true->Ac0,length_nil->Ac1,head?_cons->Ac2,append_nil->Ac3,take_zero->Ac4,drop_zero->Ac5,map_cons->Ac7,length->Aca
open Go.IntKind renaming wrap->Abe
open Bool renaming and_eq_true->Abf,true_and->Abl,false_eq_true->Abv,false_and->Ac6,and_true->Ac8
namespace Go.HH
open Go Go.Proofs
theorem AS {id:Nat}:Ak [PV.bp id 0]=false:=rfl
set_option maxRecDepth 100000
set_option linter.unusedVariables false
def opsOf:Code->Array Oper
 | .region _ ops _=>ops
 | _=>#[]
theorem w7:CC.P.underlying 84=some (.struct (match CC.P.underlying 84 with | some (.struct f)=>f | _=>#[])):=by kernel_rfl
theorem w8:tZero CC 84=some (.agg [.int .i64 0,.int .i64 0]):=by kernel_rfl
theorem q' (t0 t1 t2:TypeId) (x3 x1 x2:PV) (x y:Int):(BO (opsOf (Aa Aax [1,1,0]))).map (fun l=>DL (evOps (plainC CC) noCall false (opsOf (Aa Aax [1,1,0])) (AR (opsOf (Aa Aax [1,1,0])) l) [] ⟨[.bp 0 0,.bp 1 0,.bp 2 0,.bp 3 0,.bool true,.tup [.agg [.int .i64 x,.int .i64 y],.bool true],.iface 84 (.agg [.int .i64 x,.int .i64 y]),.tup [.agg [.int .i64 x,.int .i64 y],.bool true],.agg [.int .i64 x,.int .i64 y],.bool true,.bool true],[.cells t0 [x3],.cells t1 [x1],.cells t2 [x2],.cells 84 [.int .i64 x,.int .i64 y]]⟩))=Abj 45 (some (.normal,⟨[.bp 0 0,.bp 1 0,.bp 2 0,.bp 3 0,.bool true,.tup [.agg [.int .i64 x,.int .i64 y],.bool true],.iface 84 (.agg [.int .i64 x,.int .i64 y]),.tup [.agg [.int .i64 x,.int .i64 y],.bool true],.agg [.int .i64 x,.int .i64 y],.bool true,.bool true,.bp 3 0,.int .i64 x,.bp 3 1,.int .i64 y],[.cells t0 [.osl 32 []],.cells t1 [.int .i64 x],.cells t2 [.int .i64 y],.cells 84 [.int .i64 x,.int .i64 y]]⟩)):=by kernel_rfl
theorem xc (t0 t1 t2:TypeId) (x3 x1 x2:PV) (x y:Int):CatchRuns CC 51 Aax 20 84 (.agg [.int .i64 0,.int .i64 0]) [.cells t0 [x3],.cells t1 [x1],.cells t2 [x2]]
 [.cells t0 [.osl 32 []],.cells t1 [.int .i64 x],.cells t2 [.int .i64 y],.cells 84 [.int .i64 x,.int .i64 y]]
 [.cells t0 [x3],.cells t1 [x1],.cells t2 [x2],.cells 84 [.int .i64 0,.int .i64 0]] (.agg [.int .i64 x,.int .i64 y]):=by
 refine ⟨by kernel_rfl,0,1,2,(opsOf (Aa Aax [0])),(opsOf (Aa Aax [1,0])),(opsOf (Aa Aax [1,1,0])),(opsOf (Aa Aax [0])).toList.drop 2,20,85,
  ((opsOf (Aa Aax [0])).getD 0 default).pos,((opsOf (Aa Aax [0])).getD 1 default).pos,((opsOf (Aa Aax [0])).getD 0 default).after,((opsOf (Aa Aax [0])).getD 1 default).after,
  ⟨[.bp 0 0,.bp 1 0,.bp 2 0,.bp 3 0,.bool true,.tup [.agg [.int .i64 x,.int .i64 y],.bool true],.iface 84 (.agg [.int .i64 x,.int .i64 y]),.tup [.agg [.int .i64 x,.int .i64 y],.bool true],.agg [.int .i64 x,.int .i64 y],.bool true],[.cells t0 [x3],.cells t1 [x1],.cells t2 [x2],.cells 84 [.int .i64 x,.int .i64 y]]⟩,⟨[.bp 0 0,.bp 1 0,.bp 2 0,.bp 3 0,.bool true,.tup [.agg [.int .i64 x,.int .i64 y],.bool true],.iface 84 (.agg [.int .i64 x,.int .i64 y]),.tup [.agg [.int .i64 x,.int .i64 y],.bool true],.agg [.int .i64 x,.int .i64 y],.bool true,.bool true],[.cells t0 [x3],.cells t1 [x1],.cells t2 [x2],.cells 84 [.int .i64 x,.int .i64 y]]⟩,⟨[.bp 0 0,.bp 1 0,.bp 2 0,.bp 3 0,.bool true,.tup [.agg [.int .i64 x,.int .i64 y],.bool true],.iface 84 (.agg [.int .i64 x,.int .i64 y]),.tup [.agg [.int .i64 x,.int .i64 y],.bool true],.agg [.int .i64 x,.int .i64 y],.bool true,.bool true,.bp 3 0,.int .i64 x,.bp 3 1,.int .i64 y],[.cells t0 [.osl 32 []],.cells t1 [.int .i64 x],.cells t2 [.int .i64 y],.cells 84 [.int .i64 x,.int .i64 y]]⟩,⟨[.bp 0 0,.bp 1 0,.bp 2 0,.bp 3 0,.bool false,.tup [.agg [.int .i64 0,.int .i64 0],.bool false],.nili,.tup [.agg [.int .i64 0,.int .i64 0],.bool false],.agg [.int .i64 0,.int .i64 0],.bool false],[.cells t0 [x3],.cells t1 [x1],.cells t2 [x2],.cells 84 [.int .i64 0,.int .i64 0]]⟩,⟨[.bp 0 0,.bp 1 0,.bp 2 0,.bp 3 0,.bool false,.tup [.agg [.int .i64 0,.int .i64 0],.bool false],.nili,.tup [.agg [.int .i64 0,.int .i64 0],.bool false],.agg [.int .i64 0,.int .i64 0],.bool false,.bool false],[.cells t0 [x3],.cells t1 [x1],.cells t2 [x2],.cells 84 [.int .i64 0,.int .i64 0]]⟩,
  by kernel_rfl,by kernel_rfl,by kernel_rfl,by kernel_rfl,by kernel_rfl,by kernel_rfl,by kernel_rfl,by kernel_rfl,by kernel_rfl,by kernel_rfl,AV.2 ⟨fun e=>?_,fun l hl=>?_⟩,rfl,by kernel_rfl,by kernel_rfl,by kernel_rfl,rfl⟩
 · have h:=congrArg Aca (q' t0 t1 t2 x3 x1 x2 x y)
   rw [e] at h;cases h
 · have h:DL (evOps (plainC CC) noCall false (opsOf (Aa Aax [1,1,0])) (AR (opsOf (Aa Aax [1,1,0])) l) [] ⟨[.bp 0 0,.bp 1 0,.bp 2 0,.bp 3 0,.bool true,.tup [.agg [.int .i64 x,.int .i64 y],.bool true],.iface 84 (.agg [.int .i64 x,.int .i64 y]),.tup [.agg [.int .i64 x,.int .i64 y],.bool true],.agg [.int .i64 x,.int .i64 y],.bool true,.bool true],[.cells t0 [x3],.cells t1 [x1],.cells t2 [x2],.cells 84 [.int .i64 x,.int .i64 y]]⟩) ∈ Abj 45 (some (.normal,⟨[.bp 0 0,.bp 1 0,.bp 2 0,.bp 3 0,.bool true,.tup [.agg [.int .i64 x,.int .i64 y],.bool true],.iface 84 (.agg [.int .i64 x,.int .i64 y]),.tup [.agg [.int .i64 x,.int .i64 y],.bool true],.agg [.int .i64 x,.int .i64 y],.bool true,.bool true,.bp 3 0,.int .i64 x,.bp 3 1,.int .i64 y],[.cells t0 [.osl 32 []],.cells t1 [.int .i64 x],.cells t2 [.int .i64 y],.cells 84 [.int .i64 x,.int .i64 y]]⟩)):=by
    rw [<- q' t0 t1 t2 x3 x1 x2 x y];exact Abu hl
   exact Abo h
theorem ra (t0 t1 t2:TypeId) (x3 x4 x5 x6 x7 x8 x9 x10 x11 x12 x13 x1 x2:PV) (x y:Int):(BO (opsOf (Aa Aay [1,1,0]))).map (fun l=>DL (evOps (plainC CC) noCall false (opsOf (Aa Aay [1,1,0])) (AR (opsOf (Aa Aay [1,1,0])) l) [] ⟨[.bp 0 0,.bp 1 0,.bp 2 0,.bp 3 0,.bool true,.tup [.agg [.int .i64 x,.int .i64 y],.bool true],.iface 84 (.agg [.int .i64 x,.int .i64 y]),.tup [.agg [.int .i64 x,.int .i64 y],.bool true],.agg [.int .i64 x,.int .i64 y],.bool true,.bool true],[.cells t0 [x3,x4,x5,x6,x7,x8,x9,x10,x11,x12,x13],.cells t1 [x1],.cells t2 [x2],.cells 84 [.int .i64 x,.int .i64 y]]⟩))=Abj 126 (some (.normal,⟨[.bp 0 0,.bp 1 0,.bp 2 0,.bp 3 0,.bool true,.tup [.agg [.int .i64 x,.int .i64 y],.bool true],.iface 84 (.agg [.int .i64 x,.int .i64 y]),.tup [.agg [.int .i64 x,.int .i64 y],.bool true],.agg [.int .i64 x,.int .i64 y],.bool true,.bool true,.agg He,.bp 3 0,.int .i64 x,.bp 3 1,.int .i64 y],[.cells t0 He,.cells t1 [.int .i64 x],.cells t2 [.int .i64 y],.cells 84 [.int .i64 x,.int .i64 y]]⟩)):=by kernel_rfl
theorem xe (t0 t1 t2:TypeId) (x3 x4 x5 x6 x7 x8 x9 x10 x11 x12 x13 x1 x2:PV) (x y:Int):CatchRuns CC 47 Aay 20 84 (.agg [.int .i64 0,.int .i64 0]) [.cells t0 [x3,x4,x5,x6,x7,x8,x9,x10,x11,x12,x13],.cells t1 [x1],.cells t2 [x2]]
 [.cells t0 He,.cells t1 [.int .i64 x],.cells t2 [.int .i64 y],.cells 84 [.int .i64 x,.int .i64 y]]
 [.cells t0 [x3,x4,x5,x6,x7,x8,x9,x10,x11,x12,x13],.cells t1 [x1],.cells t2 [x2],.cells 84 [.int .i64 0,.int .i64 0]] (.agg [.int .i64 x,.int .i64 y]):=by
 refine ⟨by kernel_rfl,0,1,2,(opsOf (Aa Aay [0])),(opsOf (Aa Aay [1,0])),(opsOf (Aa Aay [1,1,0])),(opsOf (Aa Aay [0])).toList.drop 2,20,85,
  ((opsOf (Aa Aay [0])).getD 0 default).pos,((opsOf (Aa Aay [0])).getD 1 default).pos,((opsOf (Aa Aay [0])).getD 0 default).after,((opsOf (Aa Aay [0])).getD 1 default).after,
  ⟨[.bp 0 0,.bp 1 0,.bp 2 0,.bp 3 0,.bool true,.tup [.agg [.int .i64 x,.int .i64 y],.bool true],.iface 84 (.agg [.int .i64 x,.int .i64 y]),.tup [.agg [.int .i64 x,.int .i64 y],.bool true],.agg [.int .i64 x,.int .i64 y],.bool true],[.cells t0 [x3,x4,x5,x6,x7,x8,x9,x10,x11,x12,x13],.cells t1 [x1],.cells t2 [x2],.cells 84 [.int .i64 x,.int .i64 y]]⟩,⟨[.bp 0 0,.bp 1 0,.bp 2 0,.bp 3 0,.bool true,.tup [.agg [.int .i64 x,.int .i64 y],.bool true],.iface 84 (.agg [.int .i64 x,.int .i64 y]),.tup [.agg [.int .i64 x,.int .i64 y],.bool true],.agg [.int .i64 x,.int .i64 y],.bool true,.bool true],[.cells t0 [x3,x4,x5,x6,x7,x8,x9,x10,x11,x12,x13],.cells t1 [x1],.cells t2 [x2],.cells 84 [.int .i64 x,.int .i64 y]]⟩,⟨[.bp 0 0,.bp 1 0,.bp 2 0,.bp 3 0,.bool true,.tup [.agg [.int .i64 x,.int .i64 y],.bool true],.iface 84 (.agg [.int .i64 x,.int .i64 y]),.tup [.agg [.int .i64 x,.int .i64 y],.bool true],.agg [.int .i64 x,.int .i64 y],.bool true,.bool true,.agg He,.bp 3 0,.int .i64 x,.bp 3 1,.int .i64 y],[.cells t0 He,.cells t1 [.int .i64 x],.cells t2 [.int .i64 y],.cells 84 [.int .i64 x,.int .i64 y]]⟩,⟨[.bp 0 0,.bp 1 0,.bp 2 0,.bp 3 0,.bool false,.tup [.agg [.int .i64 0,.int .i64 0],.bool false],.nili,.tup [.agg [.int .i64 0,.int .i64 0],.bool false],.agg [.int .i64 0,.int .i64 0],.bool false],[.cells t0 [x3,x4,x5,x6,x7,x8,x9,x10,x11,x12,x13],.cells t1 [x1],.cells t2 [x2],.cells 84 [.int .i64 0,.int .i64 0]]⟩,⟨[.bp 0 0,.bp 1 0,.bp 2 0,.bp 3 0,.bool false,.tup [.agg [.int .i64 0,.int .i64 0],.bool false],.nili,.tup [.agg [.int .i64 0,.int .i64 0],.bool false],.agg [.int .i64 0,.int .i64 0],.bool false,.bool false],[.cells t0 [x3,x4,x5,x6,x7,x8,x9,x10,x11,x12,x13],.cells t1 [x1],.cells t2 [x2],.cells 84 [.int .i64 0,.int .i64 0]]⟩,
  by kernel_rfl,by kernel_rfl,by kernel_rfl,by kernel_rfl,by kernel_rfl,by kernel_rfl,by kernel_rfl,by kernel_rfl,by kernel_rfl,by kernel_rfl,AV.2 ⟨fun e=>?_,fun l hl=>?_⟩,rfl,by kernel_rfl,by kernel_rfl,by kernel_rfl,rfl⟩
 · have h:=congrArg Aca (ra t0 t1 t2 x3 x4 x5 x6 x7 x8 x9 x10 x11 x12 x13 x1 x2 x y)
   rw [e] at h;cases h
 · have h:DL (evOps (plainC CC) noCall false (opsOf (Aa Aay [1,1,0])) (AR (opsOf (Aa Aay [1,1,0])) l) [] ⟨[.bp 0 0,.bp 1 0,.bp 2 0,.bp 3 0,.bool true,.tup [.agg [.int .i64 x,.int .i64 y],.bool true],.iface 84 (.agg [.int .i64 x,.int .i64 y]),.tup [.agg [.int .i64 x,.int .i64 y],.bool true],.agg [.int .i64 x,.int .i64 y],.bool true,.bool true],[.cells t0 [x3,x4,x5,x6,x7,x8,x9,x10,x11,x12,x13],.cells t1 [x1],.cells t2 [x2],.cells 84 [.int .i64 x,.int .i64 y]]⟩) ∈ Abj 126 (some (.normal,⟨[.bp 0 0,.bp 1 0,.bp 2 0,.bp 3 0,.bool true,.tup [.agg [.int .i64 x,.int .i64 y],.bool true],.iface 84 (.agg [.int .i64 x,.int .i64 y]),.tup [.agg [.int .i64 x,.int .i64 y],.bool true],.agg [.int .i64 x,.int .i64 y],.bool true,.bool true,.agg He,.bp 3 0,.int .i64 x,.bp 3 1,.int .i64 y],[.cells t0 He,.cells t1 [.int .i64 x],.cells t2 [.int .i64 y],.cells 84 [.int .i64 x,.int .i64 y]]⟩)):=by
    rw [<- ra t0 t1 t2 x3 x4 x5 x6 x7 x8 x9 x10 x11 x12 x13 x1 x2 x y];exact Abu hl
   exact Abo h
theorem dj {v:PV} (h:v.pure=true):v.ro.pure=true:=by
 cases v <;> first | exact h | (simp only [PV.ro,PV.pure] at h |-;exact h)
theorem R2 {v:PV} (h:v.pure=true):v.seal1.pure=true:=by
 cases v <;> first | exact h | (simp only [PV.seal1,PV.pure,Ak] at h |-;exact h)
theorem R3 {v:PV} (h:v.pure=true):v.shutV.pure=true:=by
 cases v <;> first | exact R2 h | skip
 rename_i cs;simp only [PV.shutV,PV.pure] at h |-
 induction cs with
 | nil=>rfl
 | cons c r ih=>
  simp only [Ac7,Ak,Abf] at h |-;exact ⟨R2 h.1,ih h.2⟩
theorem gh (c0:List PV) (h:Ak c0=true):(fJ c0).pure=true:=by
 match c0,h with
 | [],_=>rfl
 | [x],h=>
  simp only [Ak,Ac8] at h;exact R3 (dj h)
 | _ :: _ :: _,_=>rfl
theorem gi (c0:List PV) (h:Ak c0=true):(og c0).pure=true:=by
 refine R3 ?_;simp only [PV.pure]
 induction c0 with
 | nil=>rfl
 | cons c r ih=>
  simp only [Ac7,Ak,Abf] at h |-;exact ⟨dj h.1,ih h.2⟩
theorem zU (env:List PV) (t0:TypeId) (c0:List PV) (t1:TypeId) (x:Int) (t2:TypeId) (y:Int) (r:List PBox) (h2:getT env 2=.bp 0 0) (h3:getT env 3=.bp 1 0) (h4:getT env 4=.bp 2 0) (hc:c0.length=1\/c0=[.osl 32 []]) :
 Cp CC ⟨env,.cells t0 c0 :: .cells t1 [.int .i64 x] :: .cells t2 [.int .i64 y] :: r⟩ Ab6.results.toList=some [fJ c0,.int .i64 x,.int .i64 y]:=by
 have hl:c0.length=1:=by
  rcases hc with h | h
  · exact h
  · subst h;rfl
 have hr:Ab6.results.toList=[.cell 2 41,.cell 3 3,.cell 4 35]:=by kernel_rfl
 rw [hr];have hE:∃ f,CC.P.underlying 29=some (.struct f):=⟨(match CC.P.underlying 29 with | some (.struct f)=>f | _=>#[]),by kernel_rfl⟩;obtain ⟨fe,hfe⟩:=hE
 match c0,hl with
 | [c0],_=>
  simp only [Cp,HD,opd,raw,h2,h3,h4,PV.ro,G2,A0,readCells,TG,Abp,Abq,Ac5,Ac2,Abw,hfe,Abt,Ac4,Abz,Ac1,Abs,if_true,Abv,if_false];rfl
theorem zW (env:List PV) (t0:TypeId) (c0:List PV) (t1:TypeId) (x:Int) (t2:TypeId) (y:Int) (r:List PBox) (h2:getT env 2=.bp 0 0) (h3:getT env 3=.bp 1 0) (h4:getT env 4=.bp 2 0) (hc:c0.length=11\/c0=He) :
 Cp CC ⟨env,.cells t0 c0 :: .cells t1 [.int .i64 x] :: .cells t2 [.int .i64 y] :: r⟩ Ab7.results.toList=some [og c0,.int .i64 x,.int .i64 y]:=by
 have hl:c0.length=11:=by
  rcases hc with h | h
  · exact h
  · subst h;rfl
 have hr:Ab7.results.toList=[.cell 2 29,.cell 3 3,.cell 4 35]:=by kernel_rfl
 rw [hr];have hE:∃ f,CC.P.underlying 29=some (.struct f):=⟨(match CC.P.underlying 29 with | some (.struct f)=>f | _=>#[]),by kernel_rfl⟩;obtain ⟨fe,hfe⟩:=hE
 match c0,hl with
 | [c0,c1,c2,c3,c4,c5,c6,c7,c8,c9,c10],_=>
  simp only [Cp,HD,opd,raw,h2,h3,h4,PV.ro,G2,A0,readCells,TG,Abp,Abq,Ac5,Ac2,Abw,hfe,Abt,Ac4,Abz,Ac1,Abs,if_true,Abv,if_false];rfl
theorem sI (ev:Code->St->Option (Ex×St)) (Ip:DZ CC false ev) (args:List PV) (bx:List PBox) (cr:CR) (bx':List PBox) (BV:Ev Lt ev args bx=some (cr,bx')) :
 Ff CC.P 24/\((∀ p ∈ args,∀ t xs,p≠.osl t xs)->∀ (B:Nat) (T:Nat->Prop) (S:AJ) (M:List Nat) (vs:List Value) (w:World),CO CC B T S M bx w->Ce S M args vs ->
  Calls CC.P 24 vs.toArray w fun e w'=>∃ S' M',CO CC B T S' M' bx' w'/\Grows B T S w S' w'/\M <+: M'/\Outcome S' M' cr e):=
 LM (C:=CC) (fn:=Ab6) (code:=Ac [1,1] (Ab6.body.getD .skip)) (i0:=0) (i1:=1) (opsA:=(opsOf (Aa Ab6 [0]))) (opsB:=(opsOf (Aa Ab6 [1,0]))) (g:=51) (gn:=Aax) (envA:=Ls)
  (bx0:=[.cells 41 [.nils],.cells 3 [.int .i64 0],.cells 35 [.int .i64 0]])
  (ty6:=((opsOf (Aa Ab6 [1,0])).getD 0 default).type) (tyd:=((opsOf (Aa Ab6 [1,0])).getD 1 default).type) (p6:=((opsOf (Aa Ab6 [1,0])).getD 0 default).pos) (pd:=((opsOf (Aa Ab6 [1,0])).getD 1 default).pos) (af6:=((opsOf (Aa Ab6 [1,0])).getD 0 default).after) (afd:=((opsOf (Aa Ab6 [1,0])).getD 1 default).after)
  (TI:=20) (TF:=84) (zp:=.agg [.int .i64 0,.int .i64 0]) (n0:=1) (zc:=[.osl 32 []]) (fin:=fJ)
  (by kernel_rfl) (by kernel_rfl) (by kernel_rfl) (Aau (by kernel_rfl)) (Aau (by kernel_rfl)) (by kernel_rfl) (by kernel_rfl) (fun s=>by kernel_rfl) (by kernel_rfl) (fun s=>⟨rfl,rfl,rfl⟩) (by kernel_rfl)
  (fun t0 c0 t1 x1 t2 x2 x y hl=>match c0,hl with | [c0],_=>xc t0 t1 t2 c0 x1 x2 x y)
  w7 w8 (fun e xs=>by simp) (by kernel_rfl) gh zU ev Ip args bx cr bx' BV
theorem sJ (ev:Code->St->Option (Ex×St)) (Ip:DZ CC false ev) (args:List PV) (bx:List PBox) (cr:CR) (bx':List PBox) (BV:Ev wm ev args bx=some (cr,bx')) :
 Ff CC.P 22/\((∀ p ∈ args,∀ t xs,p≠.osl t xs)->∀ (B:Nat) (T:Nat->Prop) (S:AJ) (M:List Nat) (vs:List Value) (w:World),CO CC B T S M bx w->Ce S M args vs ->
  Calls CC.P 22 vs.toArray w fun e w'=>∃ S' M',CO CC B T S' M' bx' w'/\Grows B T S w S' w'/\M <+: M'/\Outcome S' M' cr e):=
 LM (C:=CC) (fn:=Ab7) (code:=Ac [1,1] (Ab7.body.getD .skip)) (i0:=0) (i1:=1) (opsA:=(opsOf (Aa Ab7 [0]))) (opsB:=(opsOf (Aa Ab7 [1,0]))) (g:=47) (gn:=Aay) (envA:=Ls)
  (bx0:=[.cells 29 He,.cells 3 [.int .i64 0],.cells 35 [.int .i64 0]])
  (ty6:=((opsOf (Aa Ab7 [1,0])).getD 0 default).type) (tyd:=((opsOf (Aa Ab7 [1,0])).getD 1 default).type) (p6:=((opsOf (Aa Ab7 [1,0])).getD 0 default).pos) (pd:=((opsOf (Aa Ab7 [1,0])).getD 1 default).pos) (af6:=((opsOf (Aa Ab7 [1,0])).getD 0 default).after) (afd:=((opsOf (Aa Ab7 [1,0])).getD 1 default).after)
  (TI:=20) (TF:=84) (zp:=.agg [.int .i64 0,.int .i64 0]) (n0:=11) (zc:=He) (fin:=og)
  (by kernel_rfl) (by kernel_rfl) (by kernel_rfl) (Aau (by kernel_rfl)) (Aau (by kernel_rfl)) (by kernel_rfl) (by kernel_rfl) (fun s=>by kernel_rfl) (by kernel_rfl) (fun s=>⟨rfl,rfl,rfl⟩) (by kernel_rfl)
  (fun t0 c0 t1 x1 t2 x2 x y hl=>match c0,hl with | [c0,c1,c2,c3,c4,c5,c6,c7,c8,c9,c10],_=>xe t0 t1 t2 c0 c1 c2 c3 c4 c5 c6 c7 c8 c9 c10 x1 x2 x y)
  w7 w8 (fun e xs=>by simp) (by kernel_rfl) gi zW ev Ip args bx cr bx' BV
theorem jW:It CC:=by
 intro f k hk ev Ip args bx cr bx' BV;have h:jz f=some k:=hk;unfold jz at h;split at h
 · rename_i hf
   subst hf;injection h with h
   subst h;exact sI ev Ip args bx cr bx' BV
 · split at h
   · rename_i hf
     subst hf;injection h with h
     subst h;exact sJ ev Ip args bx cr bx' BV
   · cases h
set_option maxHeartbeats 4000000
set_option linter.unusedSimpArgs false
def BX (bx:List PBox) (id:Nat) (P:PBox) (ys:List PBox):List PBox:=bx.set id P++ys
def DM (bx:List PBox):Prop:=bx.all (·.under bx.length)=true
mutual
theorem under_mono {n m:Nat} (h:n<=m):∀ v:PV,v.under n=true->v.under m=true
 | .top,k=>by simp [PV.under] at k
 | .bool _,_=>by simp [PV.under]
 | .int _ _,_=>by simp [PV.under]
 | .str _,_=>by simp [PV.under]
 | .nils,_=>by simp [PV.under]
 | .sl xs,k=>by simp only [PV.under] at k |-;exact Di h xs k
 | .osl _ xs,k=>by simp only [PV.under] at k |-;exact Di h xs k
 | .ip xs,k=>by simp only [PV.under] at k |-;exact Di h xs k
 | .bp i _,k=>by simp only [PV.under,decide_eq_true_eq] at k |-;omega
 | .nilp,_=>by simp [PV.under]
 | .fn _ x y,k=>by
  simp only [PV.under,Abf] at k |-;exact ⟨Di h x k.1,Di h y k.2⟩
 | .nilf,_=>by simp [PV.under]
 | .iface _ v,k=>by simp only [PV.under] at k |-;exact under_mono h v k
 | .nili,_=>by simp [PV.under]
 | .agg xs,k=>by simp only [PV.under] at k |-;exact Di h xs k
 | .tup xs,k=>by simp only [PV.under] at k |-;exact Di h xs k
theorem Di {n m:Nat} (h:n<=m):∀ vs:List PV,Ar n vs=true->Ar m vs=true
 | [],_=>by simp [Ar]
 | v :: r,k=>by
  simp only [Ar,Abf] at k |-;exact ⟨under_mono h v k.1,Di h r k.2⟩
end
theorem PBox.under_mono {n m:Nat} (h:n<=m) (b:PBox) (k:b.under n=true):b.under m=true:=by
 cases b with
 | cells t cs=>exact Di h cs k
 | iter _ _=>rfl
section
variable {bx:List PBox} {id:Nat} {P:PBox} {ys:List PBox}
theorem Ww (h:id < bx.length):(BX bx id P ys)[id]?=some P:=by
 unfold BX;rw [List.getElem?_append_left (by simpa using h),List.getElem?_set_self h]
theorem H4 (h:id < bx.length) (P':PBox):(BX bx id P ys).set id P'=BX bx id P' ys:=by
 unfold BX;rw [List.set_append_left _ _ (by simpa using h),List.set_set]
theorem bl (x:List PBox):BX bx id P ys++x=BX bx id P (ys++x):=by unfold BX;rw [List.append_assoc]
theorem F8:(BX bx id P ys).length=bx.length+ys.length:=by simp [BX]
theorem QH:(BX bx id P ys)[bx.length]?=ys[0]?:=by
 unfold BX;rw [Abn (by simp)];simp
theorem dp (k:Nat):(BX bx id P ys)[bx.length+k]?=ys[k]?:=by
 unfold BX;rw [Abn (by simp)];simp
theorem dq (y:PBox):(BX bx id P ys).set bx.length y=BX bx id P (ys.set 0 y):=by
 unfold BX;rw [Abr _ _ (by simp)];simp
theorem dt (k:Nat) (y:PBox):(BX bx id P ys).set (bx.length+k) y=BX bx id P (ys.set k y):=by
 unfold BX;rw [Abr _ _ (by simp)];simp
theorem sK (h:bx[id]?=some P):BX bx id P []=bx:=by
 unfold BX;rw [Ac3];exact set_same' h
where
 set_same' {bx:List PBox} {id:Nat} {b:PBox} (h:bx[id]?=some b):bx.set id b=bx:=by
  apply List.ext_getElem?;intro j;rw [List.getElem?_set];by_cases e:id=j
  · subst e
    obtain ⟨h1,_⟩:=Abi.1 h;rw [if_pos rfl,if_pos h1,h]
  · rw [if_neg e]
theorem KD (hc:DM bx) (hP:P.under bx.length=true) (hy:ys.all (·.under (bx.length+ys.length))=true):DM (BX bx id P ys):=by
 unfold DM at *;rw [F8];unfold BX;rw [List.all_append,hy,Ac8,Ac0];intro x hx;have hx:=List.mem_or_eq_of_mem_set hx;rcases hx with hx | rfl
 · rw [Ac0] at hc
   exact PBox.under_mono (by omega) x (hc x hx)
 · exact PBox.under_mono (by omega) _ hP
theorem ow (hc:DM bx) (hP:P.under bx.length=true):DM (bx.set id P):=by
 have:=KD (id:=id) (ys:=[]) hc hP rfl;unfold BX at this
 rwa [Ac3] at this
theorem LU {f:FuncId} {args:List PV} {r:CR} {P':PBox} (hp:Ak args=false) (hc:DM bx) (hb:bx[id]?=some P) (hP:P'.under bx.length=true) (hr:r.under bx.length=true) (h:∃ ys,Ad CC f args (BX bx id P [])=some (r,BX bx id P' ys)) :
 Ai CC (Ad CC) f args bx=some (r,bx.set id P'):=by
 obtain ⟨ys,h⟩:=h;rw [sK hb] at h;unfold Ai;rw [if_pos (by rw [hp];simp),h];simp only;unfold Eu
 have ht:(BX bx id P' ys).take bx.length=bx.set id P':=by
  unfold BX;rw [List.take_append_of_le_length (by simp),List.take_of_length_le (by simp)]
 rw [ht,hr];have:=ow (id:=id) hc hP;unfold DM at this;rw [List.length_set] at this;rw [this];rfl
end
def Ap (L:List Tk) (i o:Nat) (RL:PV):PBox:=.cells 92 [.sl (Bl L),.int .i64 (i:Int),.int .i64 (o:Int),RL]
def B5 (t:Nat) (e:Int):PV:=.iface 84 (.agg [.int .i64 (t:Int),.int .i64 e])
theorem Vu:∀ L:List Tk,Ak (Bl L)=true
 | []=>rfl
 | t :: r=>by
  show ((Ol t).pure && Ak (Bl r))=true;rw [Vu r];rfl
theorem Bm {n:Nat} (L:List Tk) (i o:Nat) {RL:PV} (hR:RL.pure=true):(Ap L i o RL).under n=true:=by
 unfold Ap PBox.under;simp only [Ar,PV.under,Ay n _ (Vu L),EE n _ hR,Bool.and_self]
theorem DQ (n:Nat) (t:Nat) (e:Int):(CR.pan (B5 t e)).under n=true:=by simp [CR.under,B5,PV.under,Ar]
structure TokOK (L:List Tk):Prop where
 len:L.length<=4001
 pos:0 < L.length
 last:(tokAt L (L.length - 1)).1=0
 inner:∀ i,i+1 < L.length->(tokAt L i).1≠0
 at':∀ i,atT L i<=20000
 word:∀ i,(tokAt L i).2.1.length<=20000
 str:∀ i,(tokAt L i).1=3->(tokAt L i).2.1.length<=60
 num:∀ i,(tokAt L i).1=2->(∀ b ∈ (tokAt L i).2.1,48<=b.toNat/\b.toNat<=57)/\amtN (tokAt L i).2.1 0<=1099511627776
def Nc (L:List Tk) (i o:Nat) (RL:PV) (id:Nat) (B:List PBox):Prop:=DM B/\B[id]?=some (Ap L i o RL)
def T9 (f:FuncId) (xs:List PV) (id:Nat) (L:List Tk) (RL:PV) (i o:Nat) (v:PV) (j o':Nat):Prop:=
 ∀ B,Nc L i o RL id B->Ai CC (Ad CC) f (.bp id 0 :: xs) B=some (.ret v,B.set id (Ap L j o' RL))
def Nd (f:FuncId) (xs:List PV) (id:Nat) (L:List Tk) (RL:PV) (i o:Nat) (t:Nat) (e:Int) (i' o':Nat):Prop:=
 ∀ B,Nc L i o RL id B->Ai CC (Ad CC) f (.bp id 0 :: xs) B=some (.pan (B5 t e),B.set id (Ap L i' o' RL))
def XI {α:Type} (f:FuncId) (xs:List PV) (id:Nat) (L:List Tk) (RL:PV) (i o:Nat) (enc:α->PV) (r:PR α):Prop:=match r with
 | .ok a j=>T9 f xs id L RL i o (enc a) j o
 | .bad t e=>∃ i' o',Nd f xs id L RL i o t e i' o'
 | .out=>True
theorem HM {bx:List PBox} {id:Nat} {L:List Tk} {i o i0 o0:Nat} {RL:PV} {ys:List PBox} (hid:id < bx.length) (hc:DM bx) (hR:RL.pure=true) (hy:ys.all (·.under (bx.length+ys.length))=true):Nc L i o RL id (BX bx id (Ap L i o RL) ys):=
 ⟨KD hc (Bm L i o hR) hy,Ww hid⟩
theorem Oo (n:Nat) (t:Tk):(Ol t).under n=true:=by simp [Ol,PV.under,Ar]
theorem du {L:List Tk} {i:Nat} (h:i < L.length):(Bl L)[i]?=some (Ol (tokAt L i)):=by
 unfold Bl tokAt;rw [List.getElem?_map,List.getD_eq_getElem?_getD,List.getElem?_eq_getElem h];rfl
noncomputable def fPP:Array Field:=match CC.P.underlying 92 with | some (.struct f)=>f | _=>#[]
noncomputable def fPF:Array Field:=match CC.P.underlying 84 with | some (.struct f)=>f | _=>#[]
theorem y9:CC.P.underlying 92=some (.struct fPP)/\CC.P.underlying 84=some (.struct fPF):=⟨by kernel_rfl,by kernel_rfl⟩
theorem ZC:zeroCells CC 80=some [.int .i64 0,.str [],.int .i64 0] /\
 zeroCells CC 29=some [.int .i64 0,.int .i64 0,.int .i64 0,.str [],.int .i64 0,.int .i64 0,.str [],.int .i64 0,.str [],.str [],.nils] /\
 zeroCells CC 26=some [.int .i64 0,.str [],.str []] /\
 zeroCells CC 58=some [.int .i64 0,.int .i64 0,.str [],.str [],.int .i64 0,.str [],.str [],.str [],.int .i64 0,.int .i64 0] /\
 zeroCells CC 60=some [.int .i64 0,.int .i64 0,.str [],.str [],.str [],.int .i64 0,.int .i64 0,.int .i64 0,.str [],.int .i64 0,.int .i64 0,.str [],.int .i64 0,.str [],.str [],.nils] /\
 zeroCells CC 32=some [.str [],.int .i64 0,.nils,.int .i64 0,.int .i64 0,.int .i64 0,.str [],.int .i64 0,.int .i64 0,.str [],.int .i64 0,.str [],.str [],.nils,.nils] /\
 zeroCells CC 41=some [.nils] /\
 zeroCells CC 3=some [.int .i64 0] /\
 zeroCells CC 35=some [.int .i64 0]:=
 ⟨by kernel_rfl,by kernel_rfl,by kernel_rfl,by kernel_rfl,by kernel_rfl,by kernel_rfl,by kernel_rfl,by kernel_rfl,by kernel_rfl⟩
theorem SU:(∀ n t cs,(PBox.cells t cs).under n=Ar n cs)/\(∀ n,Ar n []=true)/\(∀ n v r,Ar n (v :: r)=(v.under n && Ar n r))/\(∀ n k x,(PV.int k x).under n=true)/\(∀ n x,(PV.str x).under n=true)/\(∀ n x,(PV.bool x).under n=true) /\
 (∀ n cs,(PV.agg cs).under n=Ar n cs)/\(∀ n cs,(PV.sl cs).under n=Ar n cs)/\(∀ n,PV.nils.under n=true)/\(∀ n t,(Ol t).under n=true)/\(∀ b,(true && b)=b)/\(∀ p:PBox->Bool,([]:List PBox).all p=true)/\(∀ (p:PBox->Bool) x r,(x :: r).all p=(p x && r.all p)):=
 ⟨fun _ _ _=>rfl,fun _=>by simp [Ar],fun _ _ _=>by simp [Ar],fun _ _ _=>by simp [PV.under],fun _ _=>by simp [PV.under],fun _ _=>by simp [PV.under],fun _ _=>by simp [PV.under],fun _ _=>by simp [PV.under],fun _=>by simp [PV.under],Oo,fun _=>rfl,fun _=>rfl,fun _ _ _=>rfl⟩
theorem PZ:(type_of% @ZC)/\(type_of% @Ww)/\(type_of% @H4)/\(type_of% @bl)/\(type_of% @F8)/\(type_of% @QH)/\(type_of% @dp)/\(type_of% @dq)/\(type_of% @dt):=⟨@ZC,@Ww,@H4,@bl,@F8,@QH,@dp,@dq,@dt⟩
theorem PY:(type_of% @y9)/\(type_of% @SU)/\(type_of% @Ol.eq_def)/\(type_of% @BG.eq_def)/\(type_of% @Aaz.{0})/\(type_of% @Ab0.{0})/\(type_of% @Ac9)/\(type_of% @CZ.eq_def):=⟨@y9,@SU,@Ol.eq_def,@BG.eq_def,@Aaz,@Ab0,@Ac9,@CZ.eq_def⟩
theorem Oq (a b:Nat):((a:Int) == (b:Int))=(a == b):=by
 by_cases h:a=b
 · simp [h]
 · have:¬ (a:Int)=(b:Int):=by omega
   rw [beq_eq_false_iff_ne.2 h,beq_eq_false_iff_ne.2 this]
theorem Ot (a b:Nat):((a:Int) != (b:Int))=!(a == b):=by unfold bne;rw [Oq]
theorem jX (f:Array Field) (t:TypeId) (v:PV):mkIf (some (.struct f)) t v=some (.iface t v):=rfl
theorem jY (x y:Int):A' CC 84 [(0,.int .i64 x),(1,.int .i64 y)]=some (.agg [.int .i64 x,.int .i64 y]):=by kernel_rfl
theorem A5 {f:FuncId} {xs:List PV} {id:Nat} {L:List Tk} {RL:PV} {i o:Nat} {v:PV} {j o':Nat} (hR:RL.pure=true) (hv:∀ n,v.under n=true) (h:∀ bx,id < bx.length->DM bx->∃ ys,Ad CC f (.bp id 0 :: xs) (BX bx id (Ap L i o RL) [])=some (.ret v,BX bx id (Ap L j o' RL) ys)):T9 f xs id L RL i o v j o':=
 fun B hB=>LU (P:=Ap L i o RL) (by simp [Ak,PV.pure]) hB.1 hB.2 (Bm L j o' hR) (by simp only [CR.under];exact hv _) (h B (Abi.1 hB.2).1 hB.1)
theorem Ax {f:FuncId} {xs:List PV} {id:Nat} {L:List Tk} {RL:PV} {i o t:Nat} {e:Int} {i' o':Nat} (hR:RL.pure=true) (h:∀ bx,id < bx.length->DM bx->∃ ys,Ad CC f (.bp id 0 :: xs) (BX bx id (Ap L i o RL) [])=some (.pan (B5 t e),BX bx id (Ap L i' o' RL) ys)):Nd f xs id L RL i o t e i' o':=
 fun B hB=>LU (P:=Ap L i o RL) (by simp [Ak,PV.pure]) hB.1 hB.2 (Bm L i' o' hR) (DQ _ _ _) (h B (Abi.1 hB.2).1 hB.1)
section
variable {bx:List PBox} {id:Nat} {L:List Tk} {i o:Nat} {RL:PV} (hid:id < bx.length) (hc:DM bx) (hR:RL.pure=true)
include hid hc hR
theorem Ab {f:FuncId} {xs:List PV} {v:PV} {j o':Nat} (h:T9 f xs id L RL i o v j o') (ys:List PBox) (hy:ys.all (·.under (bx.length+ys.length))=true) :
 Ai CC (Ad CC) f (.bp id 0 :: xs) (BX bx id (.cells 92 [.sl (Bl L),.int .i64 (i:Int),.int .i64 (o:Int),RL]) ys)=some (.ret v,BX bx id (.cells 92 [.sl (Bl L),.int .i64 (j:Int),.int .i64 (o':Int),RL]) ys):=by
 have:=h _ (HM (i0:=i) (o0:=o) hid hc hR hy);rw [H4 hid] at this;exact this
theorem Am {f:FuncId} {xs:List PV} {t:Nat} {e:Int} {i' o':Nat} (h:Nd f xs id L RL i o t e i' o') (ys:List PBox) (hy:ys.all (·.under (bx.length+ys.length))=true) :
 Ai CC (Ad CC) f (.bp id 0 :: xs) (BX bx id (.cells 92 [.sl (Bl L),.int .i64 (i:Int),.int .i64 (o:Int),RL]) ys)=some (.pan (B5 t e),BX bx id (.cells 92 [.sl (Bl L),.int .i64 (i':Int),.int .i64 (o':Int),RL]) ys):=by
 have:=h _ (HM (i0:=i) (o0:=o) hid hc hR hy);rw [H4 hid] at this;exact this
end
theorem JU:Be CC Abm (Abm.body.getD .skip)=true:=by kernel_rfl
theorem Ji:CC.P.funcs[52]?=some Abm:=by kernel_rfl
theorem KE:Be CC Abk (Abk.body.getD .skip)=true:=by kernel_rfl
theorem JV:CC.P.funcs[100]?=some Abk:=by kernel_rfl
theorem Mg:Be CC Abd (Abd.body.getD .skip)=true:=by kernel_rfl
theorem Lw:CC.P.funcs[101]?=some Abd:=by kernel_rfl
theorem FN {x:List PV} {b:List PBox} (h:x.length.ble Abd.ntmps=true):Ad CC 101 x b=CD CC Abd.results.toList (Cf CC (Abd.body.getD .skip) ⟨x,b⟩):=Ah (fn:=Abd) (c:=Abd.body.getD .skip) rfl rfl Lw rfl Mg (Aau h)
theorem KF:Be CC Aba (Aba.body.getD .skip)=true:=by kernel_rfl
theorem JW:CC.P.funcs[142]?=some Aba:=by kernel_rfl
theorem EY {x:List PV} {b:List PBox} (h:x.length.ble Aba.ntmps=true):Ad CC 142 x b=CD CC Aba.results.toList (Cf CC (Aba.body.getD .skip) ⟨x,b⟩):=Ah (fn:=Aba) (c:=Aba.body.getD .skip) rfl rfl JW rfl KF (Aau h)
theorem KG:Be CC Abb (Abb.body.getD .skip)=true:=by kernel_rfl
theorem JX:CC.P.funcs[105]?=some Abb:=by kernel_rfl
theorem EZ {x:List PV} {b:List PBox} (h:x.length.ble Abb.ntmps=true):Ad CC 105 x b=CD CC Abb.results.toList (Cf CC (Abb.body.getD .skip) ⟨x,b⟩):=Ah (fn:=Abb) (c:=Abb.body.getD .skip) rfl rfl JX rfl KG (Aau h)
theorem Mh:Be CC Ab8 (Ab8.body.getD .skip)=true:=by kernel_rfl
theorem Ly:CC.P.funcs[148]?=some Ab8:=by kernel_rfl
theorem FO {x:List PV} {b:List PBox} (h:x.length.ble Ab8.ntmps=true):Ad CC 148 x b=CD CC Ab8.results.toList (Cf CC (Ab8.body.getD .skip) ⟨x,b⟩):=Ah (fn:=Ab8) (c:=Ab8.body.getD .skip) rfl rfl Ly rfl Mh (Aau h)
theorem KH:Be CC Abc (Abc.body.getD .skip)=true:=by kernel_rfl
theorem JY:CC.P.funcs[102]?=some Abc:=by kernel_rfl
theorem E1 {x:List PV} {b:List PBox} (h:x.length.ble Abc.ntmps=true):Ad CC 102 x b=CD CC Abc.results.toList (Cf CC (Abc.body.getD .skip) ⟨x,b⟩):=Ah (fn:=Abc) (c:=Abc.body.getD .skip) rfl rfl JY rfl KH (Aau h)
theorem Lz:Be CC Abg (Abg.body.getD .skip)=true:=by kernel_rfl
theorem KI:CC.P.funcs[50]?=some Abg:=by kernel_rfl
theorem Fq {x:List PV} {b:List PBox} (h:x.length.ble Abg.ntmps=true):Ad CC 50 x b=CD CC Abg.results.toList (Cf CC (Abg.body.getD .skip) ⟨x,b⟩):=Ah (fn:=Abg) (c:=Abg.body.getD .skip) rfl rfl KI rfl Lz (Aau h)
theorem KJ:Be CC Ab5 (Ab5.body.getD .skip)=true:=by kernel_rfl
theorem JZ:CC.P.funcs[103]?=some Ab5:=by kernel_rfl
theorem DG {x:List PV} {b:List PBox} (h:x.length.ble Ab5.ntmps=true):Ad CC 103 x b=CD CC Ab5.results.toList (Cf CC (Ab5.body.getD .skip) ⟨x,b⟩):=Ah (fn:=Ab5) (c:=Ab5.body.getD .skip) rfl rfl JZ rfl KJ (Aau h)
theorem AA {id:Nat} {L:List Tk} {i o:Nat} {RL:PV} (hR:RL.pure=true) (hi:i < L.length):T9 52 [] id L RL i o (Ol (tokAt L i)) i o:=by
 refine A5 hR (fun n=>Oo n _) fun bx hid hc=>?_;rw [Ah (fn:=Abm) (c:=Abm.body.getD .skip) rfl rfl Ji rfl JU (Aau rfl)];unfold Ap;have hg:=du hi;have DK:¬ ((i:Int) < 0):=by omega
 generalize tokAt L i=t at *;unfold Ol at *;rw [<- Al];simp only [Aa,Ac,Abm,Aav];simp only [S9,Af,seval,PY,PZ,AS,hg,DK,hid];exact ⟨_,rfl⟩
theorem CF {id:Nat} {L:List Tk} {i o:Nat} {RL:PV} (hR:RL.pure=true) (k:Nat) (tx:List UInt8) (a:Nat) (e:Int):Nd 100 [.agg [.int .i64 (k:Int),.str tx,.int .i64 (a:Int)],.int .i64 e] id L RL i o a e i o:=by
 refine Ax hR fun bx hid hc=>?_;rw [Ah (fn:=Abk) (c:=Abk.body.getD .skip) rfl rfl JV rfl KE (Aau rfl)];unfold Ap B5;rw [<- Al];simp only [Aa,Ac,Abk,Aav];simp only [S9,Af,seval,PY,PZ,AS,jY,jX,hid];exact ⟨_,rfl⟩
theorem Dr {id:Nat} {L:List Tk} {i o:Nat} {RL:PV} (hR:RL.pure=true) (hi:i < L.length) (k:Nat) (kk:Int) (Tp:kk=(k:Int)) (w:List UInt8):T9 101 [.int .i64 kk,.str w] id L RL i o (.bool (Bs L k w i)) i o:=by
 subst Tp;refine A5 hR (fun n=>by simp [PV.under]) fun bx hid hc=>?_;have t1:=Ab hid hc hR (AA (o:=o) hR hi);have hs:ED .eql (tokAt L i).2.1 w=some (.bool ((tokAt L i).2.1 == w)):=rfl;unfold Bs;cases hk:(tokAt L i).1 == k with
 | false=>
  have rW:(((tokAt L i).1:Int) == (k:Int))=false:=by rw [Oq];exact hk
  rw [FN rfl];unfold Ap;rw [<- Al];rw [<- AI] at t1;simp only [Aa,Ac,Abd,Aav];simp only [S9,Af,seval,PY,PZ,AS,t1,rW,hs,Ac6,hid];exact ⟨_,rfl⟩
 | true=>
  have rW:(((tokAt L i).1:Int) == (k:Int))=true:=by rw [Oq];exact hk
  rw [FN rfl];unfold Ap;rw [<- Al];rw [<- AI] at t1;simp only [Aa,Ac,Abd,Aav];simp only [S9,Af,seval,PY,PZ,AS,t1,rW,hs,Abl,hid];exact ⟨_,rfl⟩
theorem Mi {id:Nat} {L:List Tk} {i o:Nat} {RL:PV} (hR:RL.pure=true) (hi:i < L.length) (hT:TokOK L) (k:Nat) (kk:Int) (Tp:kk=(k:Int)) (w:List UInt8) (hk:Bs L k w i=true):T9 142 [.int .i64 kk,.str w] id L RL i o (.bool true) (i+1) o:=by
 refine A5 hR (fun n=>by simp [PV.under]) fun bx hid hc=>?_;have t1:=Ab hid hc hR (Dr (o:=o) hR hi k kk Tp w);rw [hk] at t1;have hw:Abe .i64 ((i:Int)+1)=((i+1:Nat):Int):=by rw [wrap_i64 ⟨by omega,by have:=hT.len;omega⟩];omega
 rw [EY rfl];unfold Ap;rw [<- Al];rw [<- AI] at t1;simp only [Aa,Ac,Aba,Aav];simp only [S9,Af,seval,PY,PZ,AS,t1,hw,hid];exact ⟨_,rfl⟩
theorem Mj {id:Nat} {L:List Tk} {i o:Nat} {RL:PV} (hR:RL.pure=true) (hi:i < L.length) (hT:TokOK L) (k:Nat) (kk:Int) (Tp:kk=(k:Int)) (w:List UInt8) (hk:Bs L k w i=false):T9 142 [.int .i64 kk,.str w] id L RL i o (.bool false) i o:=by
 refine A5 hR (fun n=>by simp [PV.under]) fun bx hid hc=>?_;have t1:=Ab hid hc hR (Dr (o:=o) hR hi k kk Tp w);rw [hk] at t1;have hw:Abe .i64 ((i:Int)+1)=((i+1:Nat):Int):=by rw [wrap_i64 ⟨by omega,by have:=hT.len;omega⟩];omega
 rw [EY rfl];unfold Ap;rw [<- Al];rw [<- AI] at t1;simp only [Aa,Ac,Aba,Aav];simp only [S9,Af,seval,PY,PZ,AS,t1,hw,hid];exact ⟨_,rfl⟩
theorem As {id:Nat} {L:List Tk} {i o:Nat} {RL:PV} (hR:RL.pure=true) (hi:i < L.length) (hT:TokOK L) (w:List UInt8) (hk:Bs L 1 w i=true):T9 105 [.str w] id L RL i o (.bool true) (i+1) o:=by
 refine A5 hR (fun n=>by simp [PV.under]) fun bx hid hc=>?_;have t1:=Ab hid hc hR (Mi (o:=o) hR hi hT 1 1 rfl w hk);rw [EZ rfl];unfold Ap;rw [<- Al];rw [<- AI] at t1;simp only [Aa,Ac,Abb,Aav];simp only [S9,Af,seval,PY,PZ,AS,t1,hid];exact ⟨_,rfl⟩
theorem Ae {id:Nat} {L:List Tk} {i o:Nat} {RL:PV} (hR:RL.pure=true) (hi:i < L.length) (hT:TokOK L) (w:List UInt8) (hk:Bs L 1 w i=false):T9 105 [.str w] id L RL i o (.bool false) i o:=by
 refine A5 hR (fun n=>by simp [PV.under]) fun bx hid hc=>?_;have t1:=Ab hid hc hR (Mj (o:=o) hR hi hT 1 1 rfl w hk);rw [EZ rfl];unfold Ap;rw [<- Al];rw [<- AI] at t1;simp only [Aa,Ac,Abb,Aav];simp only [S9,Af,seval,PY,PZ,AS,t1,hid];exact ⟨_,rfl⟩
theorem Bd {id:Nat} {L:List Tk} {i o:Nat} {RL:PV} (hR:RL.pure=true) (hi:i < L.length) (hT:TokOK L) (w:List UInt8) (hk:Bs L 4 w i=true):T9 148 [.str w] id L RL i o (.bool true) (i+1) o:=by
 refine A5 hR (fun n=>by simp [PV.under]) fun bx hid hc=>?_;have t1:=Ab hid hc hR (Mi (o:=o) hR hi hT 4 4 rfl w hk);rw [FO rfl];unfold Ap;rw [<- Al];rw [<- AI] at t1;simp only [Aa,Ac,Ab8,Aav];simp only [S9,Af,seval,PY,PZ,AS,t1,hid];exact ⟨_,rfl⟩
theorem AQ {id:Nat} {L:List Tk} {i o:Nat} {RL:PV} (hR:RL.pure=true) (hi:i < L.length) (hT:TokOK L) (w:List UInt8) (hk:Bs L 4 w i=false):T9 148 [.str w] id L RL i o (.bool false) i o:=by
 refine A5 hR (fun n=>by simp [PV.under]) fun bx hid hc=>?_;have t1:=Ab hid hc hR (Mj (o:=o) hR hi hT 4 4 rfl w hk);rw [FO rfl];unfold Ap;rw [<- Al];rw [<- AI] at t1;simp only [Aa,Ac,Ab8,Aav];simp only [S9,Af,seval,PY,PZ,AS,t1,hid];exact ⟨_,rfl⟩
theorem Cc {id:Nat} {L:List Tk} {i o:Nat} {RL:PV} (hR:RL.pure=true) (hi:i < L.length) (hT:TokOK L) (k:Nat) (kk:Int) (Tp:kk=(k:Int)) (w:List UInt8):XI 102 [.int .i64 kk,.str w] id L RL i o (fun _=>.tup []) (Bt L k w i):=by
 unfold Bt;cases hk:Bs L k w i with
 | true=>
  refine A5 hR (fun n=>by simp [PV.under,Ar]) fun bx hid hc=>?_;have t1:=Ab hid hc hR (Mi (o:=o) hR hi hT k kk Tp w hk);rw [E1 rfl];unfold Ap;rw [<- Al];rw [<- AI] at t1;simp only [Aa,Ac,Abc,Aav];simp only [S9,Af,seval,PY,PZ,AS,t1,hid];exact ⟨_,rfl⟩
 | false=>
  refine ⟨i,o,Ax hR fun bx hid hc=>?_⟩;have t1:=Ab hid hc hR (Mj (o:=o) hR hi hT k kk Tp w hk);have t2:=Ab hid hc hR (AA (o:=o) hR hi);have t3:=Am hid hc hR (CF (i:=i) (o:=o) (L:=L) hR (tokAt L i).1 (tokAt L i).2.1 (tokAt L i).2.2 12);rw [E1 rfl];unfold Ap atT;rw [<- Al];rw [<- AI] at t1 t2 t3;simp only [Aa,Ac,Abc,Aav];simp only [S9,Af,seval,PY,PZ,AS,t1,t2,t3,hid];exact ⟨_,rfl⟩
theorem QI {id:Nat} {L:List Tk} {i o:Nat} {RL:PV} (hR:RL.pure=true) (hi:i < L.length) (hT:TokOK L) (k:Nat) (kk:Int) (Tp:kk=(k:Int)):XI 50 [.int .i64 kk] id L RL i o Ol (P7 L k i):=by
 subst Tp;unfold P7;have hq:=Ot (tokAt L i).1 k;have hw:Abe .i64 ((i:Int)+1)=((i+1:Nat):Int):=by rw [wrap_i64 ⟨by omega,by have:=hT.len;omega⟩];omega
 by_cases hk:(tokAt L i).1=k
 · rw [if_pos hk]
   refine A5 hR (fun n=>Oo n _) fun bx hid hc=>?_;have t2:=Ab hid hc hR (AA (o:=o) hR hi);rw [beq_iff_eq.2 hk] at hq;rw [Fq rfl];unfold Ap;rw [<- Al];rw [<- AI] at t2;simp only [Aa,Ac,Abg,Aav];simp only [S9,Af,seval,PY,PZ,AS,t2,hq,hw,hid];exact ⟨_,rfl⟩
 · rw [if_neg hk]
   refine ⟨i,o,Ax hR fun bx hid hc=>?_⟩;have t2:=Ab hid hc hR (AA (o:=o) hR hi);have t3:=Am hid hc hR (CF (i:=i) (o:=o) (L:=L) hR (tokAt L i).1 (tokAt L i).2.1 (tokAt L i).2.2 12);rw [beq_eq_false_iff_ne.2 hk] at hq;rw [Fq rfl];unfold Ap atT;rw [<- Al];rw [<- AI] at t2 t3;simp only [Aa,Ac,Abg,Aav];simp only [S9,Af,seval,PY,PZ,AS,t2,t3,hq,hid];exact ⟨_,rfl⟩
theorem Hh {id:Nat} {L:List Tk} {i o:Nat} {RL:PV} (hR:RL.pure=true) (hi:i < L.length) (hT:TokOK L):XI 103 [] id L RL i o (fun s=>.str s) (DF L i):=by
 have h1:=QI (o:=o) (i:=i) hR hi hT 1 1 rfl (id:=id);have hv:=Ci (tokAt L i).2.1 (by have:=hT.word i;omega);unfold DF;unfold P7 at h1;by_cases hk:(tokAt L i).1=1
 · rw [if_pos hk] at h1 |-
   cases hb:B8 (tokAt L i).2.1 with
   | true=>
    rw [hb] at hv;refine A5 hR (fun n=>by simp [PV.under]) fun bx hid hc=>?_;have t1:=Ab hid hc hR h1;rw [DG rfl];unfold Ap;rw [<- Al];rw [<- AI] at t1 hv;simp only [Aa,Ac,Ab5,Aav];simp only [S9,Af,seval,PY,PZ,AS,t1,hv,hid];exact ⟨_,rfl⟩
   | false=>
    rw [hb] at hv;refine ⟨i+1,o,Ax hR fun bx hid hc=>?_⟩;have t1:=Ab hid hc hR h1;have t3:=Am hid hc hR (CF (i:=i+1) (o:=o) (L:=L) hR (tokAt L i).1 (tokAt L i).2.1 (tokAt L i).2.2 10);rw [DG rfl];unfold Ap atT;rw [<- Al];rw [<- AI] at t1 hv t3;simp only [Aa,Ac,Ab5,Aav];simp only [S9,Af,seval,PY,PZ,AS,t1,hv,t3,hid];exact ⟨_,rfl⟩
 · rw [if_neg hk] at h1 |-
   obtain ⟨i',o',h1⟩:=h1;refine ⟨i',o',Ax hR fun bx hid hc=>?_⟩;have t1:=Am hid hc hR h1;rw [DG rfl];unfold Ap;rw [<- Al];rw [<- AI] at t1 hv;simp only [Aa,Ac,Ab5,Aav];simp only [S9,Af,seval,PY,PZ,AS,t1,hv,hid];exact ⟨_,rfl⟩
theorem Qb:Be CC Ab4 (Ab4.body.getD .skip)=true:=by kernel_rfl
theorem Ou:CC.P.funcs[143]?=some Ab4:=by kernel_rfl
theorem Jj:Be CC Ab3 (Ab3.body.getD .skip)=true:=by kernel_rfl
theorem IC:CC.P.funcs[106]?=some Ab3:=by kernel_rfl
theorem Co {x:List PV} {b:List PBox} (h:x.length.ble Ab3.ntmps=true):Ad CC 106 x b=CD CC Ab3.results.toList (Cf CC (Ab3.body.getD .skip) ⟨x,b⟩):=Ah (fn:=Ab3) (c:=Ab3.body.getD .skip) rfl rfl IC rfl Jj (Aau h)
theorem LA:Be CC Ab1 (Ab1.body.getD .skip)=true:=by kernel_rfl
theorem KK:CC.P.funcs[163]?=some Ab1:=by kernel_rfl
theorem CQ {x:List PV} {b:List PBox} (h:x.length.ble Ab1.ntmps=true):Ad CC 163 x b=CD CC Ab1.results.toList (Cf CC (Ab1.body.getD .skip) ⟨x,b⟩):=Ah (fn:=Ab1) (c:=Ab1.body.getD .skip) rfl rfl KK rfl LA (Aau h)
theorem KL:Be CC Aaw (Aaw.body.getD .skip)=true:=by kernel_rfl
theorem J0:CC.P.funcs[145]?=some Aaw:=by kernel_rfl
theorem BP {x:List PV} {b:List PBox} (h:x.length.ble Aaw.ntmps=true):Ad CC 145 x b=CD CC Aaw.results.toList (Cf CC (Aaw.body.getD .skip) ⟨x,b⟩):=Ah (fn:=Aaw) (c:=Aaw.body.getD .skip) rfl rfl J0 rfl KL (Aau h)
theorem LB:Be CC Ab9 (Ab9.body.getD .skip)=true:=by kernel_rfl
theorem KM:CC.P.funcs[144]?=some Ab9:=by kernel_rfl
theorem Fs {x:List PV} {b:List PBox} (h:x.length.ble Ab9.ntmps=true):Ad CC 144 x b=CD CC Ab9.results.toList (Cf CC (Ab9.body.getD .skip) ⟨x,b⟩):=Ah (fn:=Ab9) (c:=Ab9.body.getD .skip) rfl rfl KM rfl LB (Aau h)
theorem J1:Be CC Ab2 (Ab2.body.getD .skip)=true:=by kernel_rfl
theorem Jk:CC.P.funcs[146]?=some Ab2:=by kernel_rfl
theorem Cs {x:List PV} {b:List PBox} (h:x.length.ble Ab2.ntmps=true):Ad CC 146 x b=CD CC Ab2.results.toList (Cf CC (Ab2.body.getD .skip) ⟨x,b⟩):=Ah (fn:=Ab2) (c:=Ab2.body.getD .skip) rfl rfl Jk rfl J1 (Aau h)
theorem J2:Be CC Abh (Abh.body.getD .skip)=true:=by kernel_rfl
theorem Jl:CC.P.funcs[140]?=some Abh:=by kernel_rfl
theorem EG {x:List PV} {b:List PBox} (h:x.length.ble Abh.ntmps=true):Ad CC 140 x b=CD CC Abh.results.toList (Cf CC (Abh.body.getD .skip) ⟨x,b⟩):=Ah (fn:=Abh) (c:=Abh.body.getD .skip) rfl rfl Jl rfl J2 (Aau h)
theorem Ov:Be CC Aby (Aby.body.getD .skip)=true:=by kernel_rfl
theorem Nf:CC.P.funcs[104]?=some Aby:=by kernel_rfl
theorem Ua:Be CC Abx (Abx.body.getD .skip)=true:=by kernel_rfl
theorem R4:CC.P.funcs[141]?=some Abx:=by kernel_rfl
theorem HN {L:List Tk} {i:Nat} (hT:TokOK L) (hi:i < L.length) (h:(tokAt L i).1≠0):i+1 < L.length:=by
 rcases Nat.lt_or_ge (i+1) L.length with h1 | h1
 · exact h1
 · have:i=L.length - 1:=by omega
   rw [this] at h;exact absurd hT.last h
theorem AO {L:List Tk} {i k:Nat} {w:List UInt8} (hT:TokOK L) (hi:i < L.length) (h:Bs L k w i=true) (hk:k≠0):i+1 < L.length:=by
 refine HN hT hi ?_;unfold Bs at h;simp only [Abf,beq_iff_eq] at h;rw [h.1];exact hk
theorem Aq {α β:Type} {r:PR α} {f:α->Nat->PR β} {b:β} {j:Nat} (h:r.bind f=.ok b j):∃ a k,r=.ok a k/\f a k=.ok b j:=by
 cases r with
 | ok a k=>exact ⟨a,k,rfl,h⟩
 | bad t e=>cases h
 | out=>cases h
theorem A4 {L:List Tk} {i k:Nat} {w:List UInt8} {a:Unit} {j:Nat} (hT:TokOK L) (hi:i < L.length) (hk:k≠0) (h:Bt L k w i=.ok a j):i < j/\j < L.length:=by
 unfold Bt at h;split at h
 · rename_i hh
   injection h with _ h
   have:=AO hT hi hh hk;omega
 · cases h
theorem dw {L:List Tk} {i k:Nat} {a:Tk} {j:Nat} (hT:TokOK L) (hi:i < L.length) (hk:k≠0) (h:P7 L k i=.ok a j):i < j/\j < L.length:=by
 unfold P7 at h;split at h
 · rename_i hh
   injection h with _ h
   have:=HN hT hi (by rw [hh];exact hk);omega
 · cases h
theorem C1 {L:List Tk} {i:Nat} {a:List UInt8} {j:Nat} (hT:TokOK L) (hi:i < L.length) (h:DF L i=.ok a j):i < j/\j < L.length:=by
 unfold DF at h;split at h
 · rename_i hh
   split at h
   · injection h with _ h
     have:=HN hT hi (by rw [hh];decide);omega
   · cases h
 · cases h
theorem Ps {L:List Tk} {i:Nat} {a:List UInt8} {j:Nat} (h:DF L i=.ok a j):B8 a=true:=by
 unfold DF at h;split at h
 · split at h
   · rename_i hv
     injection h with h _
     rw [<- h];exact hv
   · cases h
 · cases h
theorem GN {L:List Tk} {lo Dm i:Nat} {a j:Nat} (hT:TokOK L) (hi:i < L.length) (h:Hu L lo Dm i=.ok a j):i < j/\j < L.length/\lo<=a/\a<=Dm:=by
 unfold Hu at h;split at h
 · rename_i hh
   split at h
   · cases h
   · injection h with h1 h
     have:=HN hT hi (by rw [hh];decide);omega
 · cases h
theorem QJ {L:List Tk} {Dm i:Nat} {a j:Nat} (hT:TokOK L) (hi:i < L.length) (h:P8 L Dm i=.ok a j):i < j/\j < L.length/\a<=Dm:=by
 unfold P8 at h;split at h
 · cases h
 · have:=GN hT hi h
   omega
theorem Bi {α:Type} {f:FuncId} {xs:List PV} {id:Nat} {L:List Tk} {RL:PV} {i o:Nat} {enc:α->PV} {a:α} {j:Nat} (h:T9 f xs id L RL i o (enc a) j o):XI f xs id L RL i o enc (.ok a j):=h
theorem AM {α:Type} {f:FuncId} {xs:List PV} {id:Nat} {L:List Tk} {RL:PV} {i o:Nat} {enc:α->PV} {t:Nat} {e:Int} (h:∃ i' o',Nd f xs id L RL i o t e i' o'):XI (α:=α) f xs id L RL i o enc (.bad t e):=h
theorem AT {α:Type} {f:FuncId} {xs:List PV} {id:Nat} {L:List Tk} {RL:PV} {i o:Nat} {enc:α->PV}:XI (α:=α) f xs id L RL i o enc .out:=trivial
theorem dx:∀ (w:List UInt8) (n:Nat),n<=amtN w n
 | [],n=>Abs n
 | b :: r,n=>by
  have:=dx r (10 * n+(b.toNat - 48));show n<=amtN r (10 * n+(b.toNat - 48));omega
theorem YJ (Lc:Code) (hL:Lc=Aa Ab4 [1,1,0,1,0]) (k a:Int) (tx:List UInt8) (hs:tx.length<=20000) (hd:∀ b ∈ tx,48<=b.toNat/\b.toNat<=57) (hn:amtN tx 0<=1099511627776):∀ (m i n:Nat) (e:List PV),i+m=tx.length->amtN (tx.drop i) n=amtN tx 0->getT e 1=.bp 0 0->getT e 3=.int .i64 n->getT e 4=.int .i64 i ->
 ∃ e',Cf CC Lc ⟨e,[.cells 80 [.int .i64 k,.str tx,.int .i64 a]]⟩=some (.exit 0,⟨e',[.cells 80 [.int .i64 k,.str tx,.int .i64 a]]⟩)/\getT e' 3=.int .i64 (amtN tx 0:Nat):=by
 intro m
 induction m with
 | zero=>
  intro i n e hm ha h1 h3 h4;rw [AX (Aa Ab4 [1,1,0,1,0,0]) hL];have hi:¬ (i:Int) < (tx.length:Int):=by omega
  have hlen:=A7 tx;have hz:amtN (tx.drop i) n=n:=by rw [List.drop_of_length_le (by omega)];rfl
  rw [hz] at ha;rw [<- Al];simp only [Aa,Ac,Ab4,Aav];simp only [S9,Af,seval,ZC,CZ,Aaz,Ab0,h1,h3,h4,hi,hlen];exact ⟨_,rfl,by simp only [S7,Af,seval,h3,ha]⟩
 | succ m ih=>
  intro i n e hm ha h1 h3 h4;rw [AX (Aa Ab4 [1,1,0,1,0,0]) hL];have hi:(i:Int) < (tx.length:Int):=by omega
  have hlen:=A7 tx;have hx:tx[i]?=some tx[i]:=by simp
  have QB:=Ks tx i tx[i] hx;have hdd:=hd tx[i] (List.getElem_mem _);have G1:tx.drop i=tx[i] :: tx.drop (i+1):=List.drop_eq_getElem_cons (by omega);rw [G1] at ha;generalize tx[i]=c at *;have yQ:amtN (tx.drop (i+1)) (10 * n+(c.toNat - 48))=amtN tx 0:=ha;have Qy:=dx (tx.drop (i+1)) (10 * n+(c.toNat - 48));have w2:Abe .u8 ((c.toNat:Int) - 48)=(c.toNat:Int) - 48:=by simp [Abe,IntKind.bits,IntKind.signed];omega
  have w3:=Vm ((c.toNat:Int) - 48) ⟨by omega,by omega⟩;have w1:=wrap_i64 (n:=10 * (n:Int)) ⟨by omega,by omega⟩;have w4:=wrap_i64 (n:=10 * (n:Int)+((c.toNat:Int) - 48)) ⟨by omega,by omega⟩;have hw:=wrap_i64 (n:=(i:Int)+1) ⟨by omega,by omega⟩;have nh:((10 * n+(c.toNat - 48):Nat):Int)=10 * (n:Int)+((c.toNat:Int) - 48):=by omega
  have cast1:((i+1:Nat):Int)=(i:Int)+1:=by omega
  have key:=fun e=>ih (i+1) (10 * n+(c.toNat - 48)) e (by omega) yQ;rw [nh,cast1] at key;rw [<- Al];rw [<- Al] at key;simp only [Aa,Ac,Ab4,Aav];simp only [S9,Af,seval,ZC,CZ,Aaz,Ab0,h1,h3,h4,hi,hlen,QB,w1,w2,w3,w4,hw];refine key _ ?_ ?_ ?_
  · simp only [S7,Af,seval,h1]
  · simp only [S7,Af,seval]
  · simp only [S7,Af,seval]
theorem Gy (t:Tk) (hs:t.2.1.length<=20000) (hd:∀ b ∈ t.2.1,48<=b.toNat/\b.toNat<=57) (hn:amtN t.2.1 0<=1099511627776) (bx):Ai CC (Ad CC) 143 [Ol t] bx=some (.ret (.int .i64 (amtN t.2.1 0:Nat)),bx):=by
 suffices h:∃ b,Ad CC 143 [Ol t] []=some (.ret (.int .i64 (amtN t.2.1 0:Nat)),b) by
  obtain ⟨b,h⟩:=h;exact Ao rfl (by simp [Ak,PV.pure,Ol]) h rfl
 obtain ⟨k,tx,a⟩:=t;simp only at hs hd hn;unfold Ol;simp only;rw [Ah (fn:=Ab4) (c:=Ab4.body.getD .skip) rfl rfl Ou rfl Qb (Aau rfl)];have Ag:=fun e=>YJ _ rfl k a tx hs hd hn tx.length 0 0 e (by omega) rfl;simp only [Aa,Ac,Ab4,Aav] at Ag |-;rw [<- Al];rw [<- Al] at Ag;simp only [S9,Af,seval,ZC,CZ,Aaz,Ab0,Ag];generalize hE:GM _ _=z
 have hP:∃ e',z=some (.exit 0,⟨e',[.cells 80 [.int .i64 k,.str tx,.int .i64 a]]⟩)/\getT e' 3=.int .i64 (amtN tx 0:Nat):=by
  rw [<- hE];refine Ag _ ?_ ?_ ?_
  · simp only [S7,Af,seval]
  · simp only [S7,Af,seval] <;> rfl
  · simp only [S7,Af,seval] <;> rfl
 obtain ⟨e',he,h3⟩:=hP;subst he;clear hE Ag;simp only [S9,Af,seval,ZC,CZ,Aaz,Ab0,h3];exact ⟨_,rfl⟩
theorem Hi {id:Nat} {L:List Tk} {i o:Nat} {RL:PV} (hR:RL.pure=true) (hi:i < L.length) (hT:TokOK L) (lo Dm:Nat) (klo khi:Int) (h1:klo=(lo:Int)) (h2:khi=(Dm:Int)):XI 106 [.int .i64 klo,.int .i64 khi] id L RL i o (fun n=>.int .i64 ((n:Nat):Int)) (Hu L lo Dm i):=by
 have h3:=QI (o:=o) (i:=i) hR hi hT 2 2 rfl (id:=id);unfold Hu;unfold P7 at h3;by_cases hk:(tokAt L i).1=2
 · rw [if_pos hk] at h3 |-
   have eU:=Gy (tokAt L i) (hT.word i) (hT.num i hk).1 (hT.num i hk).2;generalize hA:amtN (tokAt L i).2.1 0=A at *;by_cases c1:A < lo
   · rw [if_pos (.inl c1)]
     have c1':(A:Int) < klo:=by omega
     refine ⟨i+1,o,Ax hR fun bx hid hc=>?_⟩;have t1:=Ab hid hc hR h3;have t3:=Am hid hc hR (CF (i:=i+1) (o:=o) (L:=L) hR (tokAt L i).1 (tokAt L i).2.1 (tokAt L i).2.2 2);rw [Co rfl];unfold Ap atT Ol at *;rw [<- Al];rw [<- AI] at t1 eU t3;simp only [Aa,Ac,Ab3,Aav];simp only [S9,Af,seval,PY,PZ,AS,t1,eU,t3,c1',hid];exact ⟨_,rfl⟩
   · have c1':¬ (A:Int) < klo:=by omega
     by_cases c2:Dm < A
     · rw [if_pos (.inr c2)]
       have c2':(A:Int) > khi:=by omega
       refine ⟨i+1,o,Ax hR fun bx hid hc=>?_⟩;have t1:=Ab hid hc hR h3;have t3:=Am hid hc hR (CF (i:=i+1) (o:=o) (L:=L) hR (tokAt L i).1 (tokAt L i).2.1 (tokAt L i).2.2 2);rw [Co rfl];unfold Ap atT Ol at *;rw [<- Al];rw [<- AI] at t1 eU t3;simp only [Aa,Ac,Ab3,Aav];simp only [S9,Af,seval,PY,PZ,AS,t1,eU,t3,c1',c2',hid];exact ⟨_,rfl⟩
     · rw [if_neg (by omega)]
       have c2':¬ (A:Int) > khi:=by omega
       refine Bi (A5 hR (fun n=>by simp [PV.under]) fun bx hid hc=>?_);have t1:=Ab hid hc hR h3;rw [Co rfl];unfold Ap Ol at *;rw [<- Al];rw [<- AI] at t1 eU;simp only [Aa,Ac,Ab3,Aav];simp only [S9,Af,seval,PY,PZ,AS,t1,eU,c1',c2',hid];exact ⟨_,rfl⟩
 · rw [if_neg hk] at h3 |-
   obtain ⟨i',o',h3⟩:=h3;refine ⟨i',o',Ax hR fun bx hid hc=>?_⟩;have t1:=Am hid hc hR h3;rw [Co rfl];unfold Ap;rw [<- Al];rw [<- AI] at t1;simp only [Aa,Ac,Ab3,Aav];simp only [S9,Af,seval,PY,PZ,AS,t1,hid];exact ⟨_,rfl⟩
def sL (k:Ky):PV:=.agg [.int .i64 k.1,.str k.2.1,.str k.2.2]
theorem Au {α β:Type} (a:α) (i:Nat) (f:α->Nat->PR β):(PR.ok a i).bind f=f a i:=rfl
theorem dy {id:Nat} {L:List Tk} {i o:Nat} {RL:PV} (hR:RL.pure=true) (hi:i < L.length) (hT:TokOK L) (Dm:Nat) (khi:Int) (h2:khi=(Dm:Int)):XI 163 [.int .i64 khi] id L RL i o (fun n=>.int .i64 ((n:Nat):Int)) (P8 L Dm i):=by
 have h0:=AA (id:=id) (o:=o) hR hi;have hq:=Oq (tokAt L i).1 2;have hlen:=A7 (tokAt L i).2.1;have HT:=Ot (tokAt L i).2.1.length 2;have h1:=Hi (id:=id) (o:=o) hR hi hT 0 Dm 0 khi rfl h2;unfold P8;by_cases hk:(tokAt L i).1=2
 · rw [beq_iff_eq.2 hk] at hq
   have hq:(((tokAt L i).1:Int) == 2)=true:=hq;by_cases hl:(tokAt L i).2.1.length=2
   · rw [if_neg (by omega)]
     rw [beq_iff_eq.2 hl] at HT;have HT:(((tokAt L i).2.1.length:Int) != 2)=false:=HT;cases r1:Hu L 0 Dm i with
     | out=>exact AT
     | bad t e=>
      rw [r1] at h1;obtain ⟨i',o',h1⟩:=h1;refine AM ⟨i',o',Ax hR fun bx hid hc=>?_⟩;have t0:=Ab hid hc hR h0;have t1:=Am hid hc hR h1;rw [CQ rfl];unfold Ap;rw [<- Al];rw [<- AI] at t0 t1;simp only [Aa,Ac,Ab1,Aav];simp only [S9,Af,seval,PY,PZ,AS,t0,t1,hq,hlen,HT,Abl,hid];exact ⟨_,rfl⟩
     | ok a j=>
      rw [r1] at h1;refine Bi (A5 hR (fun n=>by simp [PV.under]) fun bx hid hc=>?_);have t0:=Ab hid hc hR h0;have t1:=Ab hid hc hR h1;rw [CQ rfl];unfold Ap;rw [<- Al];rw [<- AI] at t0 t1;simp only [Aa,Ac,Ab1,Aav];simp only [S9,Af,seval,PY,PZ,AS,t0,t1,hq,hlen,HT,Abl,hid];exact ⟨_,rfl⟩
   · rw [if_pos ⟨hk,hl⟩]
     rw [beq_eq_false_iff_ne.2 hl] at HT;have HT:(((tokAt L i).2.1.length:Int) != 2)=true:=HT;refine AM ⟨i,o,Ax hR fun bx hid hc=>?_⟩;have t0:=Ab hid hc hR h0;have t3:=Am hid hc hR (CF (i:=i) (o:=o) (L:=L) hR (tokAt L i).1 (tokAt L i).2.1 (tokAt L i).2.2 12);rw [CQ rfl];unfold Ap atT;rw [<- Al];rw [<- AI] at t0 t3;simp only [Aa,Ac,Ab1,Aav];simp only [S9,Af,seval,PY,PZ,AS,t0,t3,hq,hlen,HT,Abl,hid];exact ⟨_,rfl⟩
 · rw [if_neg (fun h=>hk h.1)]
   rw [beq_eq_false_iff_ne.2 hk] at hq;have hq:(((tokAt L i).1:Int) == 2)=false:=hq;have r1:Hu L 0 Dm i=.bad (atT L i) 12:=by unfold Hu;rw [if_neg hk]
   rw [r1] at h1 |-;obtain ⟨i',o',h1⟩:=h1;refine AM ⟨i',o',Ax hR fun bx hid hc=>?_⟩;have t0:=Ab hid hc hR h0;have t1:=Am hid hc hR h1;rw [CQ rfl];unfold Ap;rw [<- Al];rw [<- AI] at t0 t1;simp only [Aa,Ac,Ab1,Aav];simp only [S9,Af,seval,PY,PZ,AS,t0,t1,hq,Ac6,hid];exact ⟨_,rfl⟩
theorem R5 {id:Nat} {L:List Tk} {i o:Nat} {RL:PV} (hR:RL.pure=true) (hi:i < L.length) (hT:TokOK L):XI 145 [] id L RL i o (fun k=>.tup [.int .i64 k.1,.str k.2.1,.str k.2.2]) (Ea L i):=by
 unfold Ea;have h0:=Hi (id:=id) (o:=o) (i:=i) hR hi hT 1 250 1 250 rfl rfl;cases r0:Hu L 1 250 i with
 | out=>exact AT
 | bad t e=>
  rw [r0] at h0;obtain ⟨i',o',h0⟩:=h0;refine AM ⟨i',o',Ax hR fun bx hid hc=>?_⟩;have t0:=Am hid hc hR h0;rw [BP rfl];unfold Ap;rw [<- Al];rw [<- AI] at t0;simp only [Aa,Ac,Aaw,Aav];simp only [S9,Af,seval,PY,PZ,AS,t0,hid];exact ⟨_,rfl⟩
 | ok a0 i0=>
  rw [r0] at h0;dsimp only [Au];have j0:=GN hT hi r0;have DK:=j0.2.1;have h1:=Cc (id:=id) (o:=o) (i:=i0) hR DK hT 4 4 rfl [46];cases r1:Bt L 4 [46] i0 with
  | out=>exact AT
  | bad t e=>
   rw [r1] at h1;obtain ⟨i',o',h1⟩:=h1;refine AM ⟨i',o',Ax hR fun bx hid hc=>?_⟩;have t0:=Ab hid hc hR h0;have t1:=Am hid hc hR h1;rw [BP rfl];unfold Ap;rw [<- Al];rw [<- AI] at t0 t1;simp only [Aa,Ac,Aaw,Aav];simp only [S9,Af,seval,PY,PZ,AS,t0,t1,hid];exact ⟨_,rfl⟩
  | ok a1 i1=>
   rw [r1] at h1;dsimp only [Au];have j1:=A4 hT DK (by decide) r1;have BF:=j1.2;have h2:=Hh (id:=id) (o:=o) (i:=i1) hR BF hT;cases r2:DF L i1 with
   | out=>exact AT
   | bad t e=>
    rw [r2] at h2;obtain ⟨i',o',h2⟩:=h2;refine AM ⟨i',o',Ax hR fun bx hid hc=>?_⟩;have t0:=Ab hid hc hR h0;have t1:=Ab hid hc hR h1;have t2:=Am hid hc hR h2;rw [BP rfl];unfold Ap;rw [<- Al];rw [<- AI] at t0 t1 t2;simp only [Aa,Ac,Aaw,Aav];simp only [S9,Af,seval,PY,PZ,AS,t0,t1,t2,hid];exact ⟨_,rfl⟩
   | ok a2 i2=>
    rw [r2] at h2;dsimp only [Au];have j2:=C1 hT BF r2;have Gu:=j2.2;have h3:=Cc (id:=id) (o:=o) (i:=i2) hR Gu hT 4 4 rfl [46];cases r3:Bt L 4 [46] i2 with
    | out=>exact AT
    | bad t e=>
     rw [r3] at h3;obtain ⟨i',o',h3⟩:=h3;refine AM ⟨i',o',Ax hR fun bx hid hc=>?_⟩;have t0:=Ab hid hc hR h0;have t1:=Ab hid hc hR h1;have t2:=Ab hid hc hR h2;have t3:=Am hid hc hR h3;rw [BP rfl];unfold Ap;rw [<- Al];rw [<- AI] at t0 t1 t2 t3;simp only [Aa,Ac,Aaw,Aav];simp only [S9,Af,seval,PY,PZ,AS,t0,t1,t2,t3,hid];exact ⟨_,rfl⟩
    | ok a3 i3=>
     rw [r3] at h3;dsimp only [Au];have j3:=A4 hT Gu (by decide) r3;have UL:=j3.2;have h4:=Hh (id:=id) (o:=o) (i:=i3) hR UL hT;cases r4:DF L i3 with
     | out=>exact AT
     | bad t e=>
      rw [r4] at h4;obtain ⟨i',o',h4⟩:=h4;refine AM ⟨i',o',Ax hR fun bx hid hc=>?_⟩;have t0:=Ab hid hc hR h0;have t1:=Ab hid hc hR h1;have t2:=Ab hid hc hR h2;have t3:=Ab hid hc hR h3;have t4:=Am hid hc hR h4;rw [BP rfl];unfold Ap;rw [<- Al];rw [<- AI] at t0 t1 t2 t3 t4;simp only [Aa,Ac,Aaw,Aav];simp only [S9,Af,seval,PY,PZ,AS,t0,t1,t2,t3,t4,hid];exact ⟨_,rfl⟩
     | ok a4 i4=>
      rw [r4] at h4;dsimp only [Au];have j4:=C1 hT UL r4;have iI:=j4.2;refine Bi (A5 hR (fun n=>by simp [PV.under,Ar]) fun bx hid hc=>?_);have t0:=Ab hid hc hR h0;have t1:=Ab hid hc hR h1;have t2:=Ab hid hc hR h2;have t3:=Ab hid hc hR h3;have t4:=Ab hid hc hR h4;rw [BP rfl];unfold Ap;rw [<- Al];rw [<- AI] at t0 t1 t2 t3 t4;simp only [Aa,Ac,Aaw,Aav];simp only [S9,Af,seval,PY,PZ,AS,t0,t1,t2,t3,t4,hid];exact ⟨_,rfl⟩
theorem Eb {L:List Tk} {i:Nat} {a:Ky} {j:Nat} (hT:TokOK L) (hi:i < L.length) (h:Ea L i=.ok a j):i < j/\j < L.length/\B8 a.2.1=true/\B8 a.2.2=true/\1<=a.1/\a.1<=250:=by
 unfold Ea at h;obtain ⟨d,i0,r0,h⟩:=Aq h;obtain ⟨_,i1,r1,h⟩:=Aq h;obtain ⟨s,i2,r2,h⟩:=Aq h;obtain ⟨_,i3,r3,h⟩:=Aq h;obtain ⟨u,i4,r4,h⟩:=Aq h;injection h with h1 h2
 have j0:=GN hT hi r0;have j1:=A4 hT j0.2.1 (by decide) r1;have j2:=C1 hT j1.2 r2;have j3:=A4 hT j2.2 (by decide) r3;have j4:=C1 hT j3.2 r4;subst h1 h2;exact ⟨by omega,by omega,Ps r2,Ps r4,by omega,by omega⟩
theorem jZ (d:Int) (a b:List UInt8):A' CC 26 [(0,.int .i64 d),(1,.str a),(2,.str b)]=some (.agg [.int .i64 d,.str a,.str b]):=by kernel_rfl
theorem Wx {id:Nat} {L:List Tk} {i o:Nat} {RL:PV} (hR:RL.pure=true) (hi:i < L.length) (hT:TokOK L):XI 144 [] id L RL i o sL (Ea L i):=by
 have h0:=R5 (id:=id) (o:=o) hR hi hT;unfold sL;cases r0:Ea L i with
 | out=>exact AT
 | bad t e=>
  rw [r0] at h0;obtain ⟨i',o',h0⟩:=h0;refine AM ⟨i',o',Ax hR fun bx hid hc=>?_⟩;have t0:=Am hid hc hR h0;rw [Fs rfl];unfold Ap;rw [<- Al];rw [<- AI] at t0;simp only [Aa,Ac,Ab9,Aav];simp only [S9,Af,seval,PY,PZ,AS,t0,hid];exact ⟨_,rfl⟩
 | ok k j=>
  rw [r0] at h0;refine Bi (A5 hR (fun n=>by simp [PV.under,Ar]) fun bx hid hc=>?_);have t0:=Ab hid hc hR h0;rw [Fs rfl];unfold Ap;rw [<- Al];rw [<- AI] at t0;simp only [Aa,Ac,Ab9,Aav];simp only [S9,Af,seval,PY,PZ,AS,t0,jZ,hid];exact ⟨_,rfl⟩
theorem Ow {id:Nat} {L:List Tk} {i o:Nat} {RL:PV} (hR:RL.pure=true) (hi:i < L.length) (hT:TokOK L):XI 146 [] id L RL i o (fun n=>.int .i64 ((n:Nat):Int)) (Fo L i):=by
 unfold Fo;have h0:=dy (id:=id) (o:=o) (i:=i) hR hi hT 23 23 rfl;cases r0:P8 L 23 i with
 | out=>exact AT
 | bad t e=>
  rw [r0] at h0;obtain ⟨i',o',h0⟩:=h0;refine AM ⟨i',o',Ax hR fun bx hid hc=>?_⟩;have t0:=Am hid hc hR h0;rw [Cs rfl];unfold Ap;rw [<- Al];rw [<- AI] at t0;simp only [Aa,Ac,Ab2,Aav];simp only [S9,Af,seval,PY,PZ,AS,t0,hid];exact ⟨_,rfl⟩
 | ok a0 i0=>
  rw [r0] at h0;dsimp only [Au];have j0:=QJ hT hi r0;have DK:=j0.2.1;have I5:Abe .i64 (60 * (a0:Int))=((60 * a0:Nat):Int):=by rw [wrap_i64 ⟨by omega,by omega⟩];omega
  have h1:=Cc (id:=id) (o:=o) (i:=i0) hR DK hT 4 4 rfl [58];cases r1:Bt L 4 [58] i0 with
  | out=>exact AT
  | bad t e=>
   rw [r1] at h1;obtain ⟨i',o',h1⟩:=h1;refine AM ⟨i',o',Ax hR fun bx hid hc=>?_⟩;have t0:=Ab hid hc hR h0;have t1:=Am hid hc hR h1;rw [Cs rfl];unfold Ap;rw [<- Al];rw [<- AI] at t0 t1;simp only [Aa,Ac,Ab2,Aav];simp only [S9,Af,seval,PY,PZ,AS,t0,t1,I5,hid];exact ⟨_,rfl⟩
  | ok a1 i1=>
   rw [r1] at h1;dsimp only [Au];have j1:=A4 hT DK (by decide) r1;have BF:=j1.2;have h2:=dy (id:=id) (o:=o) (i:=i1) hR BF hT 59 59 rfl;cases r2:P8 L 59 i1 with
   | out=>exact AT
   | bad t e=>
    rw [r2] at h2;obtain ⟨i',o',h2⟩:=h2;refine AM ⟨i',o',Ax hR fun bx hid hc=>?_⟩;have t0:=Ab hid hc hR h0;have t1:=Ab hid hc hR h1;have t2:=Am hid hc hR h2;rw [Cs rfl];unfold Ap;rw [<- Al];rw [<- AI] at t0 t1 t2;simp only [Aa,Ac,Ab2,Aav];simp only [S9,Af,seval,PY,PZ,AS,t0,t1,t2,I5,hid];exact ⟨_,rfl⟩
   | ok a2 i2=>
    rw [r2] at h2;dsimp only [Au];have j2:=QJ hT BF r2;have Gu:=j2.2.1;have vo:Abe .i64 (((60 * a0:Nat):Int)+(a2:Int))=((60 * a0+a2:Nat):Int):=by rw [wrap_i64 ⟨by omega,by omega⟩];omega
    refine Bi (A5 hR (fun n=>by simp [PV.under,Ar]) fun bx hid hc=>?_);have t0:=Ab hid hc hR h0;have t1:=Ab hid hc hR h1;have t2:=Ab hid hc hR h2;rw [Cs rfl];unfold Ap;rw [<- Al];rw [<- AI] at t0 t1 t2;simp only [Aa,Ac,Ab2,Aav];simp only [S9,Af,seval,PY,PZ,AS,t0,t1,t2,I5,vo,hid];exact ⟨_,rfl⟩
theorem F9 {L:List Tk} {i:Nat} {a j:Nat} (hT:TokOK L) (hi:i < L.length) (h:Fo L i=.ok a j):i < j/\j < L.length/\a < 1440:=by
 unfold Fo at h;obtain ⟨x,i0,r0,h⟩:=Aq h;obtain ⟨_,i1,r1,h⟩:=Aq h;obtain ⟨y,i2,r2,h⟩:=Aq h;injection h with h1 h2
 have j0:=QJ hT hi r0;have j1:=A4 hT j0.2.1 (by decide) r1;have j2:=QJ hT j1.2 r2;omega
end Go.HH
