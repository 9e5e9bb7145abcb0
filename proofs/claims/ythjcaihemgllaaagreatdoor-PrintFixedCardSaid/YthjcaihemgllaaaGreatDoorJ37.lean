/-
  What the law needs, packed: CA PB PC PD PE.
-/
import Derived.Test.YthjcaihemgllaaaGreatDoorJ36
open Nat renaming le_of_ble_eq_true->Aa0,le_refl->Aay,add_zero->Abf
open Option renaming getD->Aa1,map_some->Ab2
open Go.Proofs.Tryz renaming f145->Aa2,f51->Aa3,f47->Aa4,f163->Aa7,f146->Aa8,f106->Aa9,f143->Aaa,f103->Aab,f24->Aac,f22->Aad,f148->Aae,f144->Aaf,f142->Aag,f105->Aah,f102->Aai,f101->Aaj,f50->Aam,f140->Aan,f100->Aaq,f52->Aas,f141->Ab3,f104->Ab4
open List renaming set_cons_zero->Aa5,set_cons_succ->Aa6,getElem?_eq_some_iff->Aao,replicate->Aap,getElem?_append_right->Aat,eq_of_mem_replicate->Aau,getElem?_cons_zero->Aav,getElem?_cons_succ->Aaw,set_append_right->Aax,take_succ_cons->Aaz,mem_map_of_mem->Ab0,length_cons->Ab5,all_eq_true->Ab6,length_nil->Ab7,head?_cons->Ab8,append_nil->Ab9,take_zero->Aba,drop_zero->Abb,map_cons->Abd,length->Abg
open Go.IntKind renaming wrap->Aak
open Bool renaming and_eq_true->Aal,true_and->Aar,false_eq_true->Ab1,false_and->Abc,and_true->Abe
namespace Go.HH
open Go Go.Proofs
theorem AS {id:Nat}:Al [PV.bp id 0]=false:=rfl
set_option maxRecDepth 100000
set_option linter.unusedVariables false
def opsOf:Code->Array Oper
 | .region _ ops _=>ops
 | _=>#[]
theorem wm:CC.P.underlying 84=some (.struct (match CC.P.underlying 84 with | some (.struct f)=>f | _=>#[])):=by kernel_rfl
theorem wo:tZero CC 84=some (.agg [.int .i64 0,.int .i64 0]):=by kernel_rfl
theorem qp (t0 t1 t2:TypeId) (x3 x1 x2:PV) (x y:Int):(BO (opsOf (Ab Aa3 [1,1,0]))).map (fun l=>DM (evOps (plainC CC) noCall false (opsOf (Ab Aa3 [1,1,0])) (AR (opsOf (Ab Aa3 [1,1,0])) l) [] ⟨[.bp 0 0,.bp 1 0,.bp 2 0,.bp 3 0,.bool true,.tup [.agg [.int .i64 x,.int .i64 y],.bool true],.iface 84 (.agg [.int .i64 x,.int .i64 y]),.tup [.agg [.int .i64 x,.int .i64 y],.bool true],.agg [.int .i64 x,.int .i64 y],.bool true,.bool true],[.cells t0 [x3],.cells t1 [x1],.cells t2 [x2],.cells 84 [.int .i64 x,.int .i64 y]]⟩))=Aap 45 (some (.normal,⟨[.bp 0 0,.bp 1 0,.bp 2 0,.bp 3 0,.bool true,.tup [.agg [.int .i64 x,.int .i64 y],.bool true],.iface 84 (.agg [.int .i64 x,.int .i64 y]),.tup [.agg [.int .i64 x,.int .i64 y],.bool true],.agg [.int .i64 x,.int .i64 y],.bool true,.bool true,.bp 3 0,.int .i64 x,.bp 3 1,.int .i64 y],[.cells t0 [.osl 32 []],.cells t1 [.int .i64 x],.cells t2 [.int .i64 y],.cells 84 [.int .i64 x,.int .i64 y]]⟩)):=by kernel_rfl
theorem wq (t0 t1 t2:TypeId) (x3 x1 x2:PV) (x y:Int):CatchRuns CC 51 Aa3 20 84 (.agg [.int .i64 0,.int .i64 0]) [.cells t0 [x3],.cells t1 [x1],.cells t2 [x2]]
 [.cells t0 [.osl 32 []],.cells t1 [.int .i64 x],.cells t2 [.int .i64 y],.cells 84 [.int .i64 x,.int .i64 y]]
 [.cells t0 [x3],.cells t1 [x1],.cells t2 [x2],.cells 84 [.int .i64 0,.int .i64 0]] (.agg [.int .i64 x,.int .i64 y]):=by
 refine ⟨by kernel_rfl,0,1,2,(opsOf (Ab Aa3 [0])),(opsOf (Ab Aa3 [1,0])),(opsOf (Ab Aa3 [1,1,0])),(opsOf (Ab Aa3 [0])).toList.drop 2,20,85,
  ((opsOf (Ab Aa3 [0])).getD 0 default).pos,((opsOf (Ab Aa3 [0])).getD 1 default).pos,((opsOf (Ab Aa3 [0])).getD 0 default).after,((opsOf (Ab Aa3 [0])).getD 1 default).after,
  ⟨[.bp 0 0,.bp 1 0,.bp 2 0,.bp 3 0,.bool true,.tup [.agg [.int .i64 x,.int .i64 y],.bool true],.iface 84 (.agg [.int .i64 x,.int .i64 y]),.tup [.agg [.int .i64 x,.int .i64 y],.bool true],.agg [.int .i64 x,.int .i64 y],.bool true],[.cells t0 [x3],.cells t1 [x1],.cells t2 [x2],.cells 84 [.int .i64 x,.int .i64 y]]⟩,⟨[.bp 0 0,.bp 1 0,.bp 2 0,.bp 3 0,.bool true,.tup [.agg [.int .i64 x,.int .i64 y],.bool true],.iface 84 (.agg [.int .i64 x,.int .i64 y]),.tup [.agg [.int .i64 x,.int .i64 y],.bool true],.agg [.int .i64 x,.int .i64 y],.bool true,.bool true],[.cells t0 [x3],.cells t1 [x1],.cells t2 [x2],.cells 84 [.int .i64 x,.int .i64 y]]⟩,⟨[.bp 0 0,.bp 1 0,.bp 2 0,.bp 3 0,.bool true,.tup [.agg [.int .i64 x,.int .i64 y],.bool true],.iface 84 (.agg [.int .i64 x,.int .i64 y]),.tup [.agg [.int .i64 x,.int .i64 y],.bool true],.agg [.int .i64 x,.int .i64 y],.bool true,.bool true,.bp 3 0,.int .i64 x,.bp 3 1,.int .i64 y],[.cells t0 [.osl 32 []],.cells t1 [.int .i64 x],.cells t2 [.int .i64 y],.cells 84 [.int .i64 x,.int .i64 y]]⟩,⟨[.bp 0 0,.bp 1 0,.bp 2 0,.bp 3 0,.bool false,.tup [.agg [.int .i64 0,.int .i64 0],.bool false],.nili,.tup [.agg [.int .i64 0,.int .i64 0],.bool false],.agg [.int .i64 0,.int .i64 0],.bool false],[.cells t0 [x3],.cells t1 [x1],.cells t2 [x2],.cells 84 [.int .i64 0,.int .i64 0]]⟩,⟨[.bp 0 0,.bp 1 0,.bp 2 0,.bp 3 0,.bool false,.tup [.agg [.int .i64 0,.int .i64 0],.bool false],.nili,.tup [.agg [.int .i64 0,.int .i64 0],.bool false],.agg [.int .i64 0,.int .i64 0],.bool false,.bool false],[.cells t0 [x3],.cells t1 [x1],.cells t2 [x2],.cells 84 [.int .i64 0,.int .i64 0]]⟩,
  by kernel_rfl,by kernel_rfl,by kernel_rfl,by kernel_rfl,by kernel_rfl,by kernel_rfl,by kernel_rfl,by kernel_rfl,by kernel_rfl,by kernel_rfl,AV.2 ⟨fun e=>?_,fun l hl=>?_⟩,rfl,by kernel_rfl,by kernel_rfl,by kernel_rfl,rfl⟩
 · have h:=congrArg Abg (qp t0 t1 t2 x3 x1 x2 x y)
   rw [e] at h;cases h
 · have h:DM (evOps (plainC CC) noCall false (opsOf (Ab Aa3 [1,1,0])) (AR (opsOf (Ab Aa3 [1,1,0])) l) [] ⟨[.bp 0 0,.bp 1 0,.bp 2 0,.bp 3 0,.bool true,.tup [.agg [.int .i64 x,.int .i64 y],.bool true],.iface 84 (.agg [.int .i64 x,.int .i64 y]),.tup [.agg [.int .i64 x,.int .i64 y],.bool true],.agg [.int .i64 x,.int .i64 y],.bool true,.bool true],[.cells t0 [x3],.cells t1 [x1],.cells t2 [x2],.cells 84 [.int .i64 x,.int .i64 y]]⟩) ∈ Aap 45 (some (.normal,⟨[.bp 0 0,.bp 1 0,.bp 2 0,.bp 3 0,.bool true,.tup [.agg [.int .i64 x,.int .i64 y],.bool true],.iface 84 (.agg [.int .i64 x,.int .i64 y]),.tup [.agg [.int .i64 x,.int .i64 y],.bool true],.agg [.int .i64 x,.int .i64 y],.bool true,.bool true,.bp 3 0,.int .i64 x,.bp 3 1,.int .i64 y],[.cells t0 [.osl 32 []],.cells t1 [.int .i64 x],.cells t2 [.int .i64 y],.cells 84 [.int .i64 x,.int .i64 y]]⟩)):=by
    rw [<- qp t0 t1 t2 x3 x1 x2 x y];exact Ab0 hl
   exact Aau h
theorem qq (t0 t1 t2:TypeId) (x3 x4 x5 x6 x7 x8 x9 x10 x11 x12 x13 x1 x2:PV) (x y:Int):(BO (opsOf (Ab Aa4 [1,1,0]))).map (fun l=>DM (evOps (plainC CC) noCall false (opsOf (Ab Aa4 [1,1,0])) (AR (opsOf (Ab Aa4 [1,1,0])) l) [] ⟨[.bp 0 0,.bp 1 0,.bp 2 0,.bp 3 0,.bool true,.tup [.agg [.int .i64 x,.int .i64 y],.bool true],.iface 84 (.agg [.int .i64 x,.int .i64 y]),.tup [.agg [.int .i64 x,.int .i64 y],.bool true],.agg [.int .i64 x,.int .i64 y],.bool true,.bool true],[.cells t0 [x3,x4,x5,x6,x7,x8,x9,x10,x11,x12,x13],.cells t1 [x1],.cells t2 [x2],.cells 84 [.int .i64 x,.int .i64 y]]⟩))=Aap 126 (some (.normal,⟨[.bp 0 0,.bp 1 0,.bp 2 0,.bp 3 0,.bool true,.tup [.agg [.int .i64 x,.int .i64 y],.bool true],.iface 84 (.agg [.int .i64 x,.int .i64 y]),.tup [.agg [.int .i64 x,.int .i64 y],.bool true],.agg [.int .i64 x,.int .i64 y],.bool true,.bool true,.agg G9,.bp 3 0,.int .i64 x,.bp 3 1,.int .i64 y],[.cells t0 G9,.cells t1 [.int .i64 x],.cells t2 [.int .i64 y],.cells 84 [.int .i64 x,.int .i64 y]]⟩)):=by kernel_rfl
theorem wu (t0 t1 t2:TypeId) (x3 x4 x5 x6 x7 x8 x9 x10 x11 x12 x13 x1 x2:PV) (x y:Int):CatchRuns CC 47 Aa4 20 84 (.agg [.int .i64 0,.int .i64 0]) [.cells t0 [x3,x4,x5,x6,x7,x8,x9,x10,x11,x12,x13],.cells t1 [x1],.cells t2 [x2]]
 [.cells t0 G9,.cells t1 [.int .i64 x],.cells t2 [.int .i64 y],.cells 84 [.int .i64 x,.int .i64 y]]
 [.cells t0 [x3,x4,x5,x6,x7,x8,x9,x10,x11,x12,x13],.cells t1 [x1],.cells t2 [x2],.cells 84 [.int .i64 0,.int .i64 0]] (.agg [.int .i64 x,.int .i64 y]):=by
 refine ⟨by kernel_rfl,0,1,2,(opsOf (Ab Aa4 [0])),(opsOf (Ab Aa4 [1,0])),(opsOf (Ab Aa4 [1,1,0])),(opsOf (Ab Aa4 [0])).toList.drop 2,20,85,
  ((opsOf (Ab Aa4 [0])).getD 0 default).pos,((opsOf (Ab Aa4 [0])).getD 1 default).pos,((opsOf (Ab Aa4 [0])).getD 0 default).after,((opsOf (Ab Aa4 [0])).getD 1 default).after,
  ⟨[.bp 0 0,.bp 1 0,.bp 2 0,.bp 3 0,.bool true,.tup [.agg [.int .i64 x,.int .i64 y],.bool true],.iface 84 (.agg [.int .i64 x,.int .i64 y]),.tup [.agg [.int .i64 x,.int .i64 y],.bool true],.agg [.int .i64 x,.int .i64 y],.bool true],[.cells t0 [x3,x4,x5,x6,x7,x8,x9,x10,x11,x12,x13],.cells t1 [x1],.cells t2 [x2],.cells 84 [.int .i64 x,.int .i64 y]]⟩,⟨[.bp 0 0,.bp 1 0,.bp 2 0,.bp 3 0,.bool true,.tup [.agg [.int .i64 x,.int .i64 y],.bool true],.iface 84 (.agg [.int .i64 x,.int .i64 y]),.tup [.agg [.int .i64 x,.int .i64 y],.bool true],.agg [.int .i64 x,.int .i64 y],.bool true,.bool true],[.cells t0 [x3,x4,x5,x6,x7,x8,x9,x10,x11,x12,x13],.cells t1 [x1],.cells t2 [x2],.cells 84 [.int .i64 x,.int .i64 y]]⟩,⟨[.bp 0 0,.bp 1 0,.bp 2 0,.bp 3 0,.bool true,.tup [.agg [.int .i64 x,.int .i64 y],.bool true],.iface 84 (.agg [.int .i64 x,.int .i64 y]),.tup [.agg [.int .i64 x,.int .i64 y],.bool true],.agg [.int .i64 x,.int .i64 y],.bool true,.bool true,.agg G9,.bp 3 0,.int .i64 x,.bp 3 1,.int .i64 y],[.cells t0 G9,.cells t1 [.int .i64 x],.cells t2 [.int .i64 y],.cells 84 [.int .i64 x,.int .i64 y]]⟩,⟨[.bp 0 0,.bp 1 0,.bp 2 0,.bp 3 0,.bool false,.tup [.agg [.int .i64 0,.int .i64 0],.bool false],.nili,.tup [.agg [.int .i64 0,.int .i64 0],.bool false],.agg [.int .i64 0,.int .i64 0],.bool false],[.cells t0 [x3,x4,x5,x6,x7,x8,x9,x10,x11,x12,x13],.cells t1 [x1],.cells t2 [x2],.cells 84 [.int .i64 0,.int .i64 0]]⟩,⟨[.bp 0 0,.bp 1 0,.bp 2 0,.bp 3 0,.bool false,.tup [.agg [.int .i64 0,.int .i64 0],.bool false],.nili,.tup [.agg [.int .i64 0,.int .i64 0],.bool false],.agg [.int .i64 0,.int .i64 0],.bool false,.bool false],[.cells t0 [x3,x4,x5,x6,x7,x8,x9,x10,x11,x12,x13],.cells t1 [x1],.cells t2 [x2],.cells 84 [.int .i64 0,.int .i64 0]]⟩,
  by kernel_rfl,by kernel_rfl,by kernel_rfl,by kernel_rfl,by kernel_rfl,by kernel_rfl,by kernel_rfl,by kernel_rfl,by kernel_rfl,by kernel_rfl,AV.2 ⟨fun e=>?_,fun l hl=>?_⟩,rfl,by kernel_rfl,by kernel_rfl,by kernel_rfl,rfl⟩
 · have h:=congrArg Abg (qq t0 t1 t2 x3 x4 x5 x6 x7 x8 x9 x10 x11 x12 x13 x1 x2 x y)
   rw [e] at h;cases h
 · have h:DM (evOps (plainC CC) noCall false (opsOf (Ab Aa4 [1,1,0])) (AR (opsOf (Ab Aa4 [1,1,0])) l) [] ⟨[.bp 0 0,.bp 1 0,.bp 2 0,.bp 3 0,.bool true,.tup [.agg [.int .i64 x,.int .i64 y],.bool true],.iface 84 (.agg [.int .i64 x,.int .i64 y]),.tup [.agg [.int .i64 x,.int .i64 y],.bool true],.agg [.int .i64 x,.int .i64 y],.bool true,.bool true],[.cells t0 [x3,x4,x5,x6,x7,x8,x9,x10,x11,x12,x13],.cells t1 [x1],.cells t2 [x2],.cells 84 [.int .i64 x,.int .i64 y]]⟩) ∈ Aap 126 (some (.normal,⟨[.bp 0 0,.bp 1 0,.bp 2 0,.bp 3 0,.bool true,.tup [.agg [.int .i64 x,.int .i64 y],.bool true],.iface 84 (.agg [.int .i64 x,.int .i64 y]),.tup [.agg [.int .i64 x,.int .i64 y],.bool true],.agg [.int .i64 x,.int .i64 y],.bool true,.bool true,.agg G9,.bp 3 0,.int .i64 x,.bp 3 1,.int .i64 y],[.cells t0 G9,.cells t1 [.int .i64 x],.cells t2 [.int .i64 y],.cells 84 [.int .i64 x,.int .i64 y]]⟩)):=by
    rw [<- qq t0 t1 t2 x3 x4 x5 x6 x7 x8 x9 x10 x11 x12 x13 x1 x2 x y];exact Ab0 hl
   exact Aau h
theorem cH {v:PV} (h:v.pure=true):v.ro.pure=true:=by
 cases v <;> first | exact h | (simp only [PV.ro,PV.pure] at h |-;exact h)
theorem RI {v:PV} (h:v.pure=true):v.seal1.pure=true:=by
 cases v <;> first | exact h | (simp only [PV.seal1,PV.pure,Al] at h |-;exact h)
theorem RJ {v:PV} (h:v.pure=true):v.shutV.pure=true:=by
 cases v <;> first | exact RI h | skip
 rename_i cs;simp only [PV.shutV,PV.pure] at h |-
 induction cs with
 | nil=>rfl
 | cons c r ih=>
  simp only [Abd,Al,Aal] at h |-;exact ⟨RI h.1,ih h.2⟩
theorem fF (c0:List PV) (h:Al c0=true):(fj c0).pure=true:=by
 match c0,h with
 | [],_=>rfl
 | [x],h=>
  simp only [Al,Abe] at h;exact RJ (cH h)
 | _ :: _ :: _,_=>rfl
theorem fG (c0:List PV) (h:Al c0=true):(nI c0).pure=true:=by
 refine RJ ?_;simp only [PV.pure]
 induction c0 with
 | nil=>rfl
 | cons c r ih=>
  simp only [Abd,Al,Aal] at h |-;exact ⟨cH h.1,ih h.2⟩
theorem zd (env:List PV) (t0:TypeId) (c0:List PV) (t1:TypeId) (x:Int) (t2:TypeId) (y:Int) (r:List PBox) (h2:getT env 2=.bp 0 0) (h3:getT env 3=.bp 1 0) (h4:getT env 4=.bp 2 0) (hc:c0.length=1\/c0=[.osl 32 []]) :
 Cn CC ⟨env,.cells t0 c0 :: .cells t1 [.int .i64 x] :: .cells t2 [.int .i64 y] :: r⟩ Aac.results.toList=some [fj c0,.int .i64 x,.int .i64 y]:=by
 have hl:c0.length=1:=by
  rcases hc with h | h
  · exact h
  · subst h;rfl
 have hr:Aac.results.toList=[.cell 2 41,.cell 3 3,.cell 4 35]:=by kernel_rfl
 rw [hr];have hE:∃ f,CC.P.underlying 29=some (.struct f):=⟨(match CC.P.underlying 29 with | some (.struct f)=>f | _=>#[]),by kernel_rfl⟩;obtain ⟨fe,hfe⟩:=hE
 match c0,hl with
 | [c0],_=>
  simp only [Cn,Hz,opd,raw,h2,h3,h4,PV.ro,GV,A0,readCells,TG,Aav,Aaw,Abb,Ab8,Ab2,hfe,Aaz,Aba,Ab5,Ab7,Aay,if_true,Ab1,if_false];rfl
theorem ze (env:List PV) (t0:TypeId) (c0:List PV) (t1:TypeId) (x:Int) (t2:TypeId) (y:Int) (r:List PBox) (h2:getT env 2=.bp 0 0) (h3:getT env 3=.bp 1 0) (h4:getT env 4=.bp 2 0) (hc:c0.length=11\/c0=G9) :
 Cn CC ⟨env,.cells t0 c0 :: .cells t1 [.int .i64 x] :: .cells t2 [.int .i64 y] :: r⟩ Aad.results.toList=some [nI c0,.int .i64 x,.int .i64 y]:=by
 have hl:c0.length=11:=by
  rcases hc with h | h
  · exact h
  · subst h;rfl
 have hr:Aad.results.toList=[.cell 2 29,.cell 3 3,.cell 4 35]:=by kernel_rfl
 rw [hr];have hE:∃ f,CC.P.underlying 29=some (.struct f):=⟨(match CC.P.underlying 29 with | some (.struct f)=>f | _=>#[]),by kernel_rfl⟩;obtain ⟨fe,hfe⟩:=hE
 match c0,hl with
 | [c0,c1,c2,c3,c4,c5,c6,c7,c8,c9,c10],_=>
  simp only [Cn,Hz,opd,raw,h2,h3,h4,PV.ro,GV,A0,readCells,TG,Aav,Aaw,Abb,Ab8,Ab2,hfe,Aaz,Aba,Ab5,Ab7,Aay,if_true,Ab1,if_false];rfl
theorem rR (ev:Code->St->Option (Ex×St)) (Ih:DY CC false ev) (args:List PV) (bx:List PBox) (cr:CR) (bx':List PBox) (BW:Et Lm ev args bx=some (cr,bx')) :
 Fi CC.P 24/\((∀ p ∈ args,∀ t xs,p≠.osl t xs)->∀ (B:Nat) (T:Nat->Prop) (S:AI) (M:List Nat) (vs:List Value) (w:World),CO CC B T S M bx w->Cd S M args vs ->
  Calls CC.P 24 vs.toArray w fun e w'=>∃ S' M',CO CC B T S' M' bx' w'/\Grows B T S w S' w'/\M <+: M'/\Outcome S' M' cr e):=
 LF (C:=CC) (fn:=Aac) (code:=Ac [1,1] (Aac.body.getD .skip)) (i0:=0) (i1:=1) (opsA:=(opsOf (Ab Aac [0]))) (opsB:=(opsOf (Ab Aac [1,0]))) (g:=51) (gn:=Aa3) (envA:=Ll)
  (bx0:=[.cells 41 [.nils],.cells 3 [.int .i64 0],.cells 35 [.int .i64 0]])
  (ty6:=((opsOf (Ab Aac [1,0])).getD 0 default).type) (tyd:=((opsOf (Ab Aac [1,0])).getD 1 default).type) (p6:=((opsOf (Ab Aac [1,0])).getD 0 default).pos) (pd:=((opsOf (Ab Aac [1,0])).getD 1 default).pos) (af6:=((opsOf (Ab Aac [1,0])).getD 0 default).after) (afd:=((opsOf (Ab Aac [1,0])).getD 1 default).after)
  (TI:=20) (TF:=84) (zp:=.agg [.int .i64 0,.int .i64 0]) (n0:=1) (zc:=[.osl 32 []]) (fin:=fj)
  (by kernel_rfl) (by kernel_rfl) (by kernel_rfl) (Aa0 (by kernel_rfl)) (Aa0 (by kernel_rfl)) (by kernel_rfl) (by kernel_rfl) (fun s=>by kernel_rfl) (by kernel_rfl) (fun s=>⟨rfl,rfl,rfl⟩) (by kernel_rfl)
  (fun t0 c0 t1 x1 t2 x2 x y hl=>match c0,hl with | [c0],_=>wq t0 t1 t2 c0 x1 x2 x y)
  wm wo (fun e xs=>by simp) (by kernel_rfl) fF zd ev Ih args bx cr bx' BW
theorem rS (ev:Code->St->Option (Ex×St)) (Ih:DY CC false ev) (args:List PV) (bx:List PBox) (cr:CR) (bx':List PBox) (BW:Et vF ev args bx=some (cr,bx')) :
 Fi CC.P 22/\((∀ p ∈ args,∀ t xs,p≠.osl t xs)->∀ (B:Nat) (T:Nat->Prop) (S:AI) (M:List Nat) (vs:List Value) (w:World),CO CC B T S M bx w->Cd S M args vs ->
  Calls CC.P 22 vs.toArray w fun e w'=>∃ S' M',CO CC B T S' M' bx' w'/\Grows B T S w S' w'/\M <+: M'/\Outcome S' M' cr e):=
 LF (C:=CC) (fn:=Aad) (code:=Ac [1,1] (Aad.body.getD .skip)) (i0:=0) (i1:=1) (opsA:=(opsOf (Ab Aad [0]))) (opsB:=(opsOf (Ab Aad [1,0]))) (g:=47) (gn:=Aa4) (envA:=Ll)
  (bx0:=[.cells 29 G9,.cells 3 [.int .i64 0],.cells 35 [.int .i64 0]])
  (ty6:=((opsOf (Ab Aad [1,0])).getD 0 default).type) (tyd:=((opsOf (Ab Aad [1,0])).getD 1 default).type) (p6:=((opsOf (Ab Aad [1,0])).getD 0 default).pos) (pd:=((opsOf (Ab Aad [1,0])).getD 1 default).pos) (af6:=((opsOf (Ab Aad [1,0])).getD 0 default).after) (afd:=((opsOf (Ab Aad [1,0])).getD 1 default).after)
  (TI:=20) (TF:=84) (zp:=.agg [.int .i64 0,.int .i64 0]) (n0:=11) (zc:=G9) (fin:=nI)
  (by kernel_rfl) (by kernel_rfl) (by kernel_rfl) (Aa0 (by kernel_rfl)) (Aa0 (by kernel_rfl)) (by kernel_rfl) (by kernel_rfl) (fun s=>by kernel_rfl) (by kernel_rfl) (fun s=>⟨rfl,rfl,rfl⟩) (by kernel_rfl)
  (fun t0 c0 t1 x1 t2 x2 x y hl=>match c0,hl with | [c0,c1,c2,c3,c4,c5,c6,c7,c8,c9,c10],_=>wu t0 t1 t2 c0 c1 c2 c3 c4 c5 c6 c7 c8 c9 c10 x1 x2 x y)
  wm wo (fun e xs=>by simp) (by kernel_rfl) fG ze ev Ih args bx cr bx' BW
theorem jt:Il CC:=by
 intro f k hk ev Ih args bx cr bx' BW;have h:iZ f=some k:=hk;unfold iZ at h;split at h
 · rename_i hf
   subst hf;injection h with h
   subst h;exact rR ev Ih args bx cr bx' BW
 · split at h
   · rename_i hf
     subst hf;injection h with h
     subst h;exact rS ev Ih args bx cr bx' BW
   · cases h
set_option maxHeartbeats 4000000
set_option linter.unusedSimpArgs false
def BX (bx:List PBox) (id:Nat) (P:PBox) (ys:List PBox):List PBox:=bx.set id P++ys
def DN (bx:List PBox):Prop:=bx.all (·.under bx.length)=true
mutual
theorem under_mono {n m:Nat} (h:n<=m):∀ v:PV,v.under n=true->v.under m=true
 | .top,k=>by simp [PV.under] at k
 | .bool _,_=>by simp [PV.under]
 | .int _ _,_=>by simp [PV.under]
 | .str _,_=>by simp [PV.under]
 | .nils,_=>by simp [PV.under]
 | .sl xs,k=>by simp only [PV.under] at k |-;exact Dj h xs k
 | .osl _ xs,k=>by simp only [PV.under] at k |-;exact Dj h xs k
 | .ip xs,k=>by simp only [PV.under] at k |-;exact Dj h xs k
 | .bp i _,k=>by simp only [PV.under,decide_eq_true_eq] at k |-;omega
 | .nilp,_=>by simp [PV.under]
 | .fn _ x y,k=>by
  simp only [PV.under,Aal] at k |-;exact ⟨Dj h x k.1,Dj h y k.2⟩
 | .nilf,_=>by simp [PV.under]
 | .iface _ v,k=>by simp only [PV.under] at k |-;exact under_mono h v k
 | .nili,_=>by simp [PV.under]
 | .agg xs,k=>by simp only [PV.under] at k |-;exact Dj h xs k
 | .tup xs,k=>by simp only [PV.under] at k |-;exact Dj h xs k
theorem Dj {n m:Nat} (h:n<=m):∀ vs:List PV,Ar n vs=true->Ar m vs=true
 | [],_=>by simp [Ar]
 | v :: r,k=>by
  simp only [Ar,Aal] at k |-;exact ⟨under_mono h v k.1,Dj h r k.2⟩
end
theorem PBox.under_mono {n m:Nat} (h:n<=m) (b:PBox) (k:b.under n=true):b.under m=true:=by
 cases b with
 | cells t cs=>exact Dj h cs k
 | iter _ _=>rfl
section
variable {bx:List PBox} {id:Nat} {P:PBox} {ys:List PBox}
theorem Wg (h:id < bx.length):(BX bx id P ys)[id]?=some P:=by
 unfold BX;rw [List.getElem?_append_left (by simpa using h),List.getElem?_set_self h]
theorem HY (h:id < bx.length) (P':PBox):(BX bx id P ys).set id P'=BX bx id P' ys:=by
 unfold BX;rw [List.set_append_left _ _ (by simpa using h),List.set_set]
theorem aK (x:List PBox):BX bx id P ys++x=BX bx id P (ys++x):=by unfold BX;rw [List.append_assoc]
theorem F7:(BX bx id P ys).length=bx.length+ys.length:=by simp [BX]
theorem Qv:(BX bx id P ys)[bx.length]?=ys[0]?:=by
 unfold BX;rw [Aat (by simp)];simp
theorem cI (k:Nat):(BX bx id P ys)[bx.length+k]?=ys[k]?:=by
 unfold BX;rw [Aat (by simp)];simp
theorem cJ (y:PBox):(BX bx id P ys).set bx.length y=BX bx id P (ys.set 0 y):=by
 unfold BX;rw [Aax _ _ (by simp)];simp
theorem cK (k:Nat) (y:PBox):(BX bx id P ys).set (bx.length+k) y=BX bx id P (ys.set k y):=by
 unfold BX;rw [Aax _ _ (by simp)];simp
theorem rT (h:bx[id]?=some P):BX bx id P []=bx:=by
 unfold BX;rw [Ab9];exact set_same' h
where
 set_same' {bx:List PBox} {id:Nat} {b:PBox} (h:bx[id]?=some b):bx.set id b=bx:=by
  apply List.ext_getElem?;intro j;rw [List.getElem?_set];by_cases e:id=j
  · subst e
    obtain ⟨h1,_⟩:=Aao.1 h;rw [if_pos rfl,if_pos h1,h]
  · rw [if_neg e]
theorem Kr (hc:DN bx) (hP:P.under bx.length=true) (hy:ys.all (·.under (bx.length+ys.length))=true):DN (BX bx id P ys):=by
 unfold DN at *;rw [F7];unfold BX;rw [List.all_append,hy,Abe,Ab6];intro x hx;have hx:=List.mem_or_eq_of_mem_set hx;rcases hx with hx | rfl
 · rw [Ab6] at hc
   exact PBox.under_mono (by omega) x (hc x hx)
 · exact PBox.under_mono (by omega) _ hP
theorem nT (hc:DN bx) (hP:P.under bx.length=true):DN (bx.set id P):=by
 have:=Kr (id:=id) (ys:=[]) hc hP rfl;unfold BX at this
 rwa [Ab9] at this
theorem LN {f:FuncId} {args:List PV} {r:CR} {P':PBox} (hp:Al args=false) (hc:DN bx) (hb:bx[id]?=some P) (hP:P'.under bx.length=true) (hr:r.under bx.length=true) (h:∃ ys,Ad CC f args (BX bx id P [])=some (r,BX bx id P' ys)) :
 Ai CC (Ad CC) f args bx=some (r,bx.set id P'):=by
 obtain ⟨ys,h⟩:=h;rw [rT hb] at h;unfold Ai;rw [if_pos (by rw [hp];simp),h];simp only;unfold Es
 have ht:(BX bx id P' ys).take bx.length=bx.set id P':=by
  unfold BX;rw [List.take_append_of_le_length (by simp),List.take_of_length_le (by simp)]
 rw [ht,hr];have:=nT (id:=id) hc hP;unfold DN at this;rw [List.length_set] at this;rw [this];rfl
end
def Ap (L:List Tk) (i o:Nat) (RL:PV):PBox:=.cells 92 [.sl (Bj L),.int .i64 (i:Int),.int .i64 (o:Int),RL]
def B7 (t:Nat) (e:Int):PV:=.iface 84 (.agg [.int .i64 (t:Int),.int .i64 e])
theorem Vf:∀ L:List Tk,Al (Bj L)=true
 | []=>rfl
 | t :: r=>by
  show ((Oe t).pure && Al (Bj r))=true;rw [Vf r];rfl
theorem Bl {n:Nat} (L:List Tk) (i o:Nat) {RL:PV} (hR:RL.pure=true):(Ap L i o RL).under n=true:=by
 unfold Ap PBox.under;simp only [Ar,PV.under,Ax n _ (Vf L),EC n _ hR,Bool.and_self]
theorem DR (n:Nat) (t:Nat) (e:Int):(CR.pan (B7 t e)).under n=true:=by simp [CR.under,B7,PV.under,Ar]
structure TokOK (L:List Tk):Prop where
 len:L.length<=4001
 pos:0 < L.length
 last:(tokAt L (L.length - 1)).1=0
 inner:∀ i,i+1 < L.length->(tokAt L i).1≠0
 at':∀ i,atT L i<=20000
 word:∀ i,(tokAt L i).2.1.length<=20000
 str:∀ i,(tokAt L i).1=3->(tokAt L i).2.1.length<=60
 num:∀ i,(tokAt L i).1=2->(∀ b ∈ (tokAt L i).2.1,48<=b.toNat/\b.toNat<=57)/\amtN (tokAt L i).2.1 0<=1099511627776
def M4 (L:List Tk) (i o:Nat) (RL:PV) (id:Nat) (B:List PBox):Prop:=DN B/\B[id]?=some (Ap L i o RL)
def TS (f:FuncId) (xs:List PV) (id:Nat) (L:List Tk) (RL:PV) (i o:Nat) (v:PV) (j o':Nat):Prop:=
 ∀ B,M4 L i o RL id B->Ai CC (Ad CC) f (.bp id 0 :: xs) B=some (.ret v,B.set id (Ap L j o' RL))
def M5 (f:FuncId) (xs:List PV) (id:Nat) (L:List Tk) (RL:PV) (i o:Nat) (t:Nat) (e:Int) (i' o':Nat):Prop:=
 ∀ B,M4 L i o RL id B->Ai CC (Ad CC) f (.bp id 0 :: xs) B=some (.pan (B7 t e),B.set id (Ap L i' o' RL))
def Xs {α:Type} (f:FuncId) (xs:List PV) (id:Nat) (L:List Tk) (RL:PV) (i o:Nat) (enc:α->PV) (r:PR α):Prop:=match r with
 | .ok a j=>TS f xs id L RL i o (enc a) j o
 | .bad t e=>∃ i' o',M5 f xs id L RL i o t e i' o'
 | .out=>True
theorem HI {bx:List PBox} {id:Nat} {L:List Tk} {i o i0 o0:Nat} {RL:PV} {ys:List PBox} (hid:id < bx.length) (hc:DN bx) (hR:RL.pure=true) (hy:ys.all (·.under (bx.length+ys.length))=true):M4 L i o RL id (BX bx id (Ap L i o RL) ys):=
 ⟨Kr hc (Bl L i o hR) hy,Wg hid⟩
theorem Oi (n:Nat) (t:Tk):(Oe t).under n=true:=by simp [Oe,PV.under,Ar]
theorem cL {L:List Tk} {i:Nat} (h:i < L.length):(Bj L)[i]?=some (Oe (tokAt L i)):=by
 unfold Bj tokAt;rw [List.getElem?_map,List.getD_eq_getElem?_getD,List.getElem?_eq_getElem h];rfl
noncomputable def fPP:Array Field:=match CC.P.underlying 92 with | some (.struct f)=>f | _=>#[]
noncomputable def fPF:Array Field:=match CC.P.underlying 84 with | some (.struct f)=>f | _=>#[]
theorem yA:CC.P.underlying 92=some (.struct fPP)/\CC.P.underlying 84=some (.struct fPF):=⟨by kernel_rfl,by kernel_rfl⟩
theorem ZC:zeroCells CC 80=some [.int .i64 0,.str [],.int .i64 0] /\
 zeroCells CC 29=some [.int .i64 0,.int .i64 0,.int .i64 0,.str [],.int .i64 0,.int .i64 0,.str [],.int .i64 0,.str [],.str [],.nils] /\
 zeroCells CC 26=some [.int .i64 0,.str [],.str []] /\
 zeroCells CC 58=some [.int .i64 0,.int .i64 0,.str [],.str [],.int .i64 0,.str [],.str [],.str [],.int .i64 0,.int .i64 0] /\
 zeroCells CC 60=some [.int .i64 0,.int .i64 0,.str [],.str [],.str [],.int .i64 0,.int .i64 0,.int .i64 0,.str [],.int .i64 0,.int .i64 0,.str [],.int .i64 0,.str [],.str [],.nils] /\
 zeroCells CC 32=some [.str [],.int .i64 0,.nils,.int .i64 0,.int .i64 0,.int .i64 0,.str [],.int .i64 0,.int .i64 0,.str [],.int .i64 0,.str [],.str [],.nils,.nils] /\
 zeroCells CC 41=some [.nils] /\
 zeroCells CC 3=some [.int .i64 0] /\
 zeroCells CC 35=some [.int .i64 0]:=
 ⟨by kernel_rfl,by kernel_rfl,by kernel_rfl,by kernel_rfl,by kernel_rfl,by kernel_rfl,by kernel_rfl,by kernel_rfl,by kernel_rfl⟩
theorem SU:(∀ n t cs,(PBox.cells t cs).under n=Ar n cs)/\(∀ n,Ar n []=true)/\(∀ n v r,Ar n (v :: r)=(v.under n && Ar n r))/\(∀ n k x,(PV.int k x).under n=true)/\(∀ n x,(PV.str x).under n=true)/\(∀ n x,(PV.bool x).under n=true) /\
 (∀ n cs,(PV.agg cs).under n=Ar n cs)/\(∀ n cs,(PV.sl cs).under n=Ar n cs)/\(∀ n,PV.nils.under n=true)/\(∀ n t,(Oe t).under n=true)/\(∀ b,(true && b)=b)/\(∀ p:PBox->Bool,([]:List PBox).all p=true)/\(∀ (p:PBox->Bool) x r,(x :: r).all p=(p x && r.all p)):=
 ⟨fun _ _ _=>rfl,fun _=>by simp [Ar],fun _ _ _=>by simp [Ar],fun _ _ _=>by simp [PV.under],fun _ _=>by simp [PV.under],fun _ _=>by simp [PV.under],fun _ _=>by simp [PV.under],fun _ _=>by simp [PV.under],fun _=>by simp [PV.under],Oi,fun _=>rfl,fun _=>rfl,fun _ _ _=>rfl⟩
theorem PZ:(type_of% @ZC)/\(type_of% @Wg)/\(type_of% @HY)/\(type_of% @aK)/\(type_of% @F7)/\(type_of% @Qv)/\(type_of% @cI)/\(type_of% @cJ)/\(type_of% @cK):=⟨@ZC,@Wg,@HY,@aK,@F7,@Qv,@cI,@cJ,@cK⟩
theorem PY:(type_of% @yA)/\(type_of% @SU)/\(type_of% @Oe.eq_def)/\(type_of% @BG.eq_def)/\(type_of% @Aa5.{0})/\(type_of% @Aa6.{0})/\(type_of% @Abf)/\(type_of% @CX.eq_def):=⟨@yA,@SU,@Oe.eq_def,@BG.eq_def,@Aa5,@Aa6,@Abf,@CX.eq_def⟩
theorem Oj (a b:Nat):((a:Int) == (b:Int))=(a == b):=by
 by_cases h:a=b
 · simp [h]
 · have:¬ (a:Int)=(b:Int):=by omega
   rw [beq_eq_false_iff_ne.2 h,beq_eq_false_iff_ne.2 this]
theorem Ok (a b:Nat):((a:Int) != (b:Int))=!(a == b):=by unfold bne;rw [Oj]
theorem ju (f:Array Field) (t:TypeId) (v:PV):mkIf (some (.struct f)) t v=some (.iface t v):=rfl
theorem jv (x y:Int):A9 CC 84 [(0,.int .i64 x),(1,.int .i64 y)]=some (.agg [.int .i64 x,.int .i64 y]):=by kernel_rfl
theorem A4 {f:FuncId} {xs:List PV} {id:Nat} {L:List Tk} {RL:PV} {i o:Nat} {v:PV} {j o':Nat} (hR:RL.pure=true) (hv:∀ n,v.under n=true) (h:∀ bx,id < bx.length->DN bx->∃ ys,Ad CC f (.bp id 0 :: xs) (BX bx id (Ap L i o RL) [])=some (.ret v,BX bx id (Ap L j o' RL) ys)):TS f xs id L RL i o v j o':=
 fun B hB=>LN (P:=Ap L i o RL) (by simp [Al,PV.pure]) hB.1 hB.2 (Bl L j o' hR) (by simp only [CR.under];exact hv _) (h B (Aao.1 hB.2).1 hB.1)
theorem Aw {f:FuncId} {xs:List PV} {id:Nat} {L:List Tk} {RL:PV} {i o t:Nat} {e:Int} {i' o':Nat} (hR:RL.pure=true) (h:∀ bx,id < bx.length->DN bx->∃ ys,Ad CC f (.bp id 0 :: xs) (BX bx id (Ap L i o RL) [])=some (.pan (B7 t e),BX bx id (Ap L i' o' RL) ys)):M5 f xs id L RL i o t e i' o':=
 fun B hB=>LN (P:=Ap L i o RL) (by simp [Al,PV.pure]) hB.1 hB.2 (Bl L i' o' hR) (DR _ _ _) (h B (Aao.1 hB.2).1 hB.1)
section
variable {bx:List PBox} {id:Nat} {L:List Tk} {i o:Nat} {RL:PV} (hid:id < bx.length) (hc:DN bx) (hR:RL.pure=true)
include hid hc hR
theorem Aa {f:FuncId} {xs:List PV} {v:PV} {j o':Nat} (h:TS f xs id L RL i o v j o') (ys:List PBox) (hy:ys.all (·.under (bx.length+ys.length))=true) :
 Ai CC (Ad CC) f (.bp id 0 :: xs) (BX bx id (.cells 92 [.sl (Bj L),.int .i64 (i:Int),.int .i64 (o:Int),RL]) ys)=some (.ret v,BX bx id (.cells 92 [.sl (Bj L),.int .i64 (j:Int),.int .i64 (o':Int),RL]) ys):=by
 have:=h _ (HI (i0:=i) (o0:=o) hid hc hR hy);rw [HY hid] at this;exact this
theorem Am {f:FuncId} {xs:List PV} {t:Nat} {e:Int} {i' o':Nat} (h:M5 f xs id L RL i o t e i' o') (ys:List PBox) (hy:ys.all (·.under (bx.length+ys.length))=true) :
 Ai CC (Ad CC) f (.bp id 0 :: xs) (BX bx id (.cells 92 [.sl (Bj L),.int .i64 (i:Int),.int .i64 (o:Int),RL]) ys)=some (.pan (B7 t e),BX bx id (.cells 92 [.sl (Bj L),.int .i64 (i':Int),.int .i64 (o':Int),RL]) ys):=by
 have:=h _ (HI (i0:=i) (o0:=o) hid hc hR hy);rw [HY hid] at this;exact this
end
theorem JM:Be CC Aas (Aas.body.getD .skip)=true:=by kernel_rfl
theorem I':CC.P.funcs[52]?=some Aas:=by kernel_rfl
theorem Ks:Be CC Aaq (Aaq.body.getD .skip)=true:=by kernel_rfl
theorem JN:CC.P.funcs[100]?=some Aaq:=by kernel_rfl
theorem L9:Be CC Aaj (Aaj.body.getD .skip)=true:=by kernel_rfl
theorem Lp:CC.P.funcs[101]?=some Aaj:=by kernel_rfl
theorem FM {x:List PV} {b:List PBox} (h:x.length.ble Aaj.ntmps=true):Ad CC 101 x b=CM CC Aaj.results.toList (Co CC (Aaj.body.getD .skip) ⟨x,b⟩):=Ah (fn:=Aaj) (c:=Aaj.body.getD .skip) rfl rfl Lp rfl L9 (Aa0 h)
theorem Kt:Be CC Aag (Aag.body.getD .skip)=true:=by kernel_rfl
theorem JO:CC.P.funcs[142]?=some Aag:=by kernel_rfl
theorem EX {x:List PV} {b:List PBox} (h:x.length.ble Aag.ntmps=true):Ad CC 142 x b=CM CC Aag.results.toList (Co CC (Aag.body.getD .skip) ⟨x,b⟩):=Ah (fn:=Aag) (c:=Aag.body.getD .skip) rfl rfl JO rfl Kt (Aa0 h)
theorem Ku:Be CC Aah (Aah.body.getD .skip)=true:=by kernel_rfl
theorem JP:CC.P.funcs[105]?=some Aah:=by kernel_rfl
theorem EY {x:List PV} {b:List PBox} (h:x.length.ble Aah.ntmps=true):Ad CC 105 x b=CM CC Aah.results.toList (Co CC (Aah.body.getD .skip) ⟨x,b⟩):=Ah (fn:=Aah) (c:=Aah.body.getD .skip) rfl rfl JP rfl Ku (Aa0 h)
theorem L':Be CC Aae (Aae.body.getD .skip)=true:=by kernel_rfl
theorem Lq:CC.P.funcs[148]?=some Aae:=by kernel_rfl
theorem FN {x:List PV} {b:List PBox} (h:x.length.ble Aae.ntmps=true):Ad CC 148 x b=CM CC Aae.results.toList (Co CC (Aae.body.getD .skip) ⟨x,b⟩):=Ah (fn:=Aae) (c:=Aae.body.getD .skip) rfl rfl Lq rfl L' (Aa0 h)
theorem Kv:Be CC Aai (Aai.body.getD .skip)=true:=by kernel_rfl
theorem JQ:CC.P.funcs[102]?=some Aai:=by kernel_rfl
theorem EZ {x:List PV} {b:List PBox} (h:x.length.ble Aai.ntmps=true):Ad CC 102 x b=CM CC Aai.results.toList (Co CC (Aai.body.getD .skip) ⟨x,b⟩):=Ah (fn:=Aai) (c:=Aai.body.getD .skip) rfl rfl JQ rfl Kv (Aa0 h)
theorem Lr:Be CC Aam (Aam.body.getD .skip)=true:=by kernel_rfl
theorem Kw:CC.P.funcs[50]?=some Aam:=by kernel_rfl
theorem Fq {x:List PV} {b:List PBox} (h:x.length.ble Aam.ntmps=true):Ad CC 50 x b=CM CC Aam.results.toList (Co CC (Aam.body.getD .skip) ⟨x,b⟩):=Ah (fn:=Aam) (c:=Aam.body.getD .skip) rfl rfl Kw rfl Lr (Aa0 h)
theorem Kz:Be CC Aab (Aab.body.getD .skip)=true:=by kernel_rfl
theorem JR:CC.P.funcs[103]?=some Aab:=by kernel_rfl
theorem DH {x:List PV} {b:List PBox} (h:x.length.ble Aab.ntmps=true):Ad CC 103 x b=CM CC Aab.results.toList (Co CC (Aab.body.getD .skip) ⟨x,b⟩):=Ah (fn:=Aab) (c:=Aab.body.getD .skip) rfl rfl JR rfl Kz (Aa0 h)
theorem AA {id:Nat} {L:List Tk} {i o:Nat} {RL:PV} (hR:RL.pure=true) (hi:i < L.length):TS 52 [] id L RL i o (Oe (tokAt L i)) i o:=by
 refine A4 hR (fun n=>Oi n _) fun bx hid hc=>?_;rw [Ah (fn:=Aas) (c:=Aas.body.getD .skip) rfl rfl I' rfl JM (Aa0 rfl)];unfold Ap;have hg:=cL hi;have D3:¬ ((i:Int) < 0):=by omega
 generalize tokAt L i=t at *;unfold Oe at *;rw [<- An];simp only [Ab,Ac,Aas,Aa1];simp only [S9,Ag,seval,PY,PZ,AS,hg,D3,hid];exact ⟨_,rfl⟩
theorem CD {id:Nat} {L:List Tk} {i o:Nat} {RL:PV} (hR:RL.pure=true) (k:Nat) (tx:List UInt8) (a:Nat) (e:Int):M5 100 [.agg [.int .i64 (k:Int),.str tx,.int .i64 (a:Int)],.int .i64 e] id L RL i o a e i o:=by
 refine Aw hR fun bx hid hc=>?_;rw [Ah (fn:=Aaq) (c:=Aaq.body.getD .skip) rfl rfl JN rfl Ks (Aa0 rfl)];unfold Ap B7;rw [<- An];simp only [Ab,Ac,Aaq,Aa1];simp only [S9,Ag,seval,PY,PZ,AS,jv,ju,hid];exact ⟨_,rfl⟩
theorem Dt {id:Nat} {L:List Tk} {i o:Nat} {RL:PV} (hR:RL.pure=true) (hi:i < L.length) (k:Nat) (kk:Int) (Tb:kk=(k:Int)) (w:List UInt8):TS 101 [.int .i64 kk,.str w] id L RL i o (.bool (Br L k w i)) i o:=by
 subst Tb;refine A4 hR (fun n=>by simp [PV.under]) fun bx hid hc=>?_;have t1:=Aa hid hc hR (AA (o:=o) hR hi);have hs:EB .eql (tokAt L i).2.1 w=some (.bool ((tokAt L i).2.1 == w)):=rfl;unfold Br;cases hk:(tokAt L i).1 == k with
 | false=>
  have rj:(((tokAt L i).1:Int) == (k:Int))=false:=by rw [Oj];exact hk
  rw [FM rfl];unfold Ap;rw [<- An];rw [<- AL] at t1;simp only [Ab,Ac,Aaj,Aa1];simp only [S9,Ag,seval,PY,PZ,AS,t1,rj,hs,Abc,hid];exact ⟨_,rfl⟩
 | true=>
  have rj:(((tokAt L i).1:Int) == (k:Int))=true:=by rw [Oj];exact hk
  rw [FM rfl];unfold Ap;rw [<- An];rw [<- AL] at t1;simp only [Ab,Ac,Aaj,Aa1];simp only [S9,Ag,seval,PY,PZ,AS,t1,rj,hs,Aar,hid];exact ⟨_,rfl⟩
theorem Ma {id:Nat} {L:List Tk} {i o:Nat} {RL:PV} (hR:RL.pure=true) (hi:i < L.length) (hT:TokOK L) (k:Nat) (kk:Int) (Tb:kk=(k:Int)) (w:List UInt8) (hk:Br L k w i=true):TS 142 [.int .i64 kk,.str w] id L RL i o (.bool true) (i+1) o:=by
 refine A4 hR (fun n=>by simp [PV.under]) fun bx hid hc=>?_;have t1:=Aa hid hc hR (Dt (o:=o) hR hi k kk Tb w);rw [hk] at t1;have hw:Aak .i64 ((i:Int)+1)=((i+1:Nat):Int):=by rw [wrap_i64 ⟨by omega,by have:=hT.len;omega⟩];omega
 rw [EX rfl];unfold Ap;rw [<- An];rw [<- AL] at t1;simp only [Ab,Ac,Aag,Aa1];simp only [S9,Ag,seval,PY,PZ,AS,t1,hw,hid];exact ⟨_,rfl⟩
theorem Mb {id:Nat} {L:List Tk} {i o:Nat} {RL:PV} (hR:RL.pure=true) (hi:i < L.length) (hT:TokOK L) (k:Nat) (kk:Int) (Tb:kk=(k:Int)) (w:List UInt8) (hk:Br L k w i=false):TS 142 [.int .i64 kk,.str w] id L RL i o (.bool false) i o:=by
 refine A4 hR (fun n=>by simp [PV.under]) fun bx hid hc=>?_;have t1:=Aa hid hc hR (Dt (o:=o) hR hi k kk Tb w);rw [hk] at t1;have hw:Aak .i64 ((i:Int)+1)=((i+1:Nat):Int):=by rw [wrap_i64 ⟨by omega,by have:=hT.len;omega⟩];omega
 rw [EX rfl];unfold Ap;rw [<- An];rw [<- AL] at t1;simp only [Ab,Ac,Aag,Aa1];simp only [S9,Ag,seval,PY,PZ,AS,t1,hw,hid];exact ⟨_,rfl⟩
theorem As {id:Nat} {L:List Tk} {i o:Nat} {RL:PV} (hR:RL.pure=true) (hi:i < L.length) (hT:TokOK L) (w:List UInt8) (hk:Br L 1 w i=true):TS 105 [.str w] id L RL i o (.bool true) (i+1) o:=by
 refine A4 hR (fun n=>by simp [PV.under]) fun bx hid hc=>?_;have t1:=Aa hid hc hR (Ma (o:=o) hR hi hT 1 1 rfl w hk);rw [EY rfl];unfold Ap;rw [<- An];rw [<- AL] at t1;simp only [Ab,Ac,Aah,Aa1];simp only [S9,Ag,seval,PY,PZ,AS,t1,hid];exact ⟨_,rfl⟩
theorem Ae {id:Nat} {L:List Tk} {i o:Nat} {RL:PV} (hR:RL.pure=true) (hi:i < L.length) (hT:TokOK L) (w:List UInt8) (hk:Br L 1 w i=false):TS 105 [.str w] id L RL i o (.bool false) i o:=by
 refine A4 hR (fun n=>by simp [PV.under]) fun bx hid hc=>?_;have t1:=Aa hid hc hR (Mb (o:=o) hR hi hT 1 1 rfl w hk);rw [EY rfl];unfold Ap;rw [<- An];rw [<- AL] at t1;simp only [Ab,Ac,Aah,Aa1];simp only [S9,Ag,seval,PY,PZ,AS,t1,hid];exact ⟨_,rfl⟩
theorem Bb {id:Nat} {L:List Tk} {i o:Nat} {RL:PV} (hR:RL.pure=true) (hi:i < L.length) (hT:TokOK L) (w:List UInt8) (hk:Br L 4 w i=true):TS 148 [.str w] id L RL i o (.bool true) (i+1) o:=by
 refine A4 hR (fun n=>by simp [PV.under]) fun bx hid hc=>?_;have t1:=Aa hid hc hR (Ma (o:=o) hR hi hT 4 4 rfl w hk);rw [FN rfl];unfold Ap;rw [<- An];rw [<- AL] at t1;simp only [Ab,Ac,Aae,Aa1];simp only [S9,Ag,seval,PY,PZ,AS,t1,hid];exact ⟨_,rfl⟩
theorem AQ {id:Nat} {L:List Tk} {i o:Nat} {RL:PV} (hR:RL.pure=true) (hi:i < L.length) (hT:TokOK L) (w:List UInt8) (hk:Br L 4 w i=false):TS 148 [.str w] id L RL i o (.bool false) i o:=by
 refine A4 hR (fun n=>by simp [PV.under]) fun bx hid hc=>?_;have t1:=Aa hid hc hR (Mb (o:=o) hR hi hT 4 4 rfl w hk);rw [FN rfl];unfold Ap;rw [<- An];rw [<- AL] at t1;simp only [Ab,Ac,Aae,Aa1];simp only [S9,Ag,seval,PY,PZ,AS,t1,hid];exact ⟨_,rfl⟩
theorem Cb {id:Nat} {L:List Tk} {i o:Nat} {RL:PV} (hR:RL.pure=true) (hi:i < L.length) (hT:TokOK L) (k:Nat) (kk:Int) (Tb:kk=(k:Int)) (w:List UInt8):Xs 102 [.int .i64 kk,.str w] id L RL i o (fun _=>.tup []) (Bs L k w i):=by
 unfold Bs;cases hk:Br L k w i with
 | true=>
  refine A4 hR (fun n=>by simp [PV.under,Ar]) fun bx hid hc=>?_;have t1:=Aa hid hc hR (Ma (o:=o) hR hi hT k kk Tb w hk);rw [EZ rfl];unfold Ap;rw [<- An];rw [<- AL] at t1;simp only [Ab,Ac,Aai,Aa1];simp only [S9,Ag,seval,PY,PZ,AS,t1,hid];exact ⟨_,rfl⟩
 | false=>
  refine ⟨i,o,Aw hR fun bx hid hc=>?_⟩;have t1:=Aa hid hc hR (Mb (o:=o) hR hi hT k kk Tb w hk);have t2:=Aa hid hc hR (AA (o:=o) hR hi);have t3:=Am hid hc hR (CD (i:=i) (o:=o) (L:=L) hR (tokAt L i).1 (tokAt L i).2.1 (tokAt L i).2.2 12);rw [EZ rfl];unfold Ap atT;rw [<- An];rw [<- AL] at t1 t2 t3;simp only [Ab,Ac,Aai,Aa1];simp only [S9,Ag,seval,PY,PZ,AS,t1,t2,t3,hid];exact ⟨_,rfl⟩
theorem Qw {id:Nat} {L:List Tk} {i o:Nat} {RL:PV} (hR:RL.pure=true) (hi:i < L.length) (hT:TokOK L) (k:Nat) (kk:Int) (Tb:kk=(k:Int)):Xs 50 [.int .i64 kk] id L RL i o Oe (Oh L k i):=by
 subst Tb;unfold Oh;have hq:=Ok (tokAt L i).1 k;have hw:Aak .i64 ((i:Int)+1)=((i+1:Nat):Int):=by rw [wrap_i64 ⟨by omega,by have:=hT.len;omega⟩];omega
 by_cases hk:(tokAt L i).1=k
 · rw [if_pos hk]
   refine A4 hR (fun n=>Oi n _) fun bx hid hc=>?_;have t2:=Aa hid hc hR (AA (o:=o) hR hi);rw [beq_iff_eq.2 hk] at hq;rw [Fq rfl];unfold Ap;rw [<- An];rw [<- AL] at t2;simp only [Ab,Ac,Aam,Aa1];simp only [S9,Ag,seval,PY,PZ,AS,t2,hq,hw,hid];exact ⟨_,rfl⟩
 · rw [if_neg hk]
   refine ⟨i,o,Aw hR fun bx hid hc=>?_⟩;have t2:=Aa hid hc hR (AA (o:=o) hR hi);have t3:=Am hid hc hR (CD (i:=i) (o:=o) (L:=L) hR (tokAt L i).1 (tokAt L i).2.1 (tokAt L i).2.2 12);rw [beq_eq_false_iff_ne.2 hk] at hq;rw [Fq rfl];unfold Ap atT;rw [<- An];rw [<- AL] at t2 t3;simp only [Ab,Ac,Aam,Aa1];simp only [S9,Ag,seval,PY,PZ,AS,t2,t3,hq,hid];exact ⟨_,rfl⟩
theorem Hc {id:Nat} {L:List Tk} {i o:Nat} {RL:PV} (hR:RL.pure=true) (hi:i < L.length) (hT:TokOK L):Xs 103 [] id L RL i o (fun s=>.str s) (DG L i):=by
 have h1:=Qw (o:=o) (i:=i) hR hi hT 1 1 rfl (id:=id);have hv:=Cg (tokAt L i).2.1 (by have:=hT.word i;omega);unfold DG;unfold Oh at h1;by_cases hk:(tokAt L i).1=1
 · rw [if_pos hk] at h1 |-
   cases hb:BQ (tokAt L i).2.1 with
   | true=>
    rw [hb] at hv;refine A4 hR (fun n=>by simp [PV.under]) fun bx hid hc=>?_;have t1:=Aa hid hc hR h1;rw [DH rfl];unfold Ap;rw [<- An];rw [<- AL] at t1 hv;simp only [Ab,Ac,Aab,Aa1];simp only [S9,Ag,seval,PY,PZ,AS,t1,hv,hid];exact ⟨_,rfl⟩
   | false=>
    rw [hb] at hv;refine ⟨i+1,o,Aw hR fun bx hid hc=>?_⟩;have t1:=Aa hid hc hR h1;have t3:=Am hid hc hR (CD (i:=i+1) (o:=o) (L:=L) hR (tokAt L i).1 (tokAt L i).2.1 (tokAt L i).2.2 10);rw [DH rfl];unfold Ap atT;rw [<- An];rw [<- AL] at t1 hv t3;simp only [Ab,Ac,Aab,Aa1];simp only [S9,Ag,seval,PY,PZ,AS,t1,hv,t3,hid];exact ⟨_,rfl⟩
 · rw [if_neg hk] at h1 |-
   obtain ⟨i',o',h1⟩:=h1;refine ⟨i',o',Aw hR fun bx hid hc=>?_⟩;have t1:=Am hid hc hR h1;rw [DH rfl];unfold Ap;rw [<- An];rw [<- AL] at t1 hv;simp only [Ab,Ac,Aab,Aa1];simp only [S9,Ag,seval,PY,PZ,AS,t1,hv,hid];exact ⟨_,rfl⟩
theorem PU:Be CC Aaa (Aaa.body.getD .skip)=true:=by kernel_rfl
theorem Ol:CC.P.funcs[143]?=some Aaa:=by kernel_rfl
theorem Ja:Be CC Aa9 (Aa9.body.getD .skip)=true:=by kernel_rfl
theorem It:CC.P.funcs[106]?=some Aa9:=by kernel_rfl
theorem Cm {x:List PV} {b:List PBox} (h:x.length.ble Aa9.ntmps=true):Ad CC 106 x b=CM CC Aa9.results.toList (Co CC (Aa9.body.getD .skip) ⟨x,b⟩):=Ah (fn:=Aa9) (c:=Aa9.body.getD .skip) rfl rfl It rfl Ja (Aa0 h)
theorem Ls:Be CC Aa7 (Aa7.body.getD .skip)=true:=by kernel_rfl
theorem KA:CC.P.funcs[163]?=some Aa7:=by kernel_rfl
theorem CQ {x:List PV} {b:List PBox} (h:x.length.ble Aa7.ntmps=true):Ad CC 163 x b=CM CC Aa7.results.toList (Co CC (Aa7.body.getD .skip) ⟨x,b⟩):=Ah (fn:=Aa7) (c:=Aa7.body.getD .skip) rfl rfl KA rfl Ls (Aa0 h)
theorem KC:Be CC Aa2 (Aa2.body.getD .skip)=true:=by kernel_rfl
theorem JS:CC.P.funcs[145]?=some Aa2:=by kernel_rfl
theorem BP {x:List PV} {b:List PBox} (h:x.length.ble Aa2.ntmps=true):Ad CC 145 x b=CM CC Aa2.results.toList (Co CC (Aa2.body.getD .skip) ⟨x,b⟩):=Ah (fn:=Aa2) (c:=Aa2.body.getD .skip) rfl rfl JS rfl KC (Aa0 h)
theorem Lt:Be CC Aaf (Aaf.body.getD .skip)=true:=by kernel_rfl
theorem KD:CC.P.funcs[144]?=some Aaf:=by kernel_rfl
theorem Fs {x:List PV} {b:List PBox} (h:x.length.ble Aaf.ntmps=true):Ad CC 144 x b=CM CC Aaf.results.toList (Co CC (Aaf.body.getD .skip) ⟨x,b⟩):=Ah (fn:=Aaf) (c:=Aaf.body.getD .skip) rfl rfl KD rfl Lt (Aa0 h)
theorem JT:Be CC Aa8 (Aa8.body.getD .skip)=true:=by kernel_rfl
theorem Jb:CC.P.funcs[146]?=some Aa8:=by kernel_rfl
theorem Cr {x:List PV} {b:List PBox} (h:x.length.ble Aa8.ntmps=true):Ad CC 146 x b=CM CC Aa8.results.toList (Co CC (Aa8.body.getD .skip) ⟨x,b⟩):=Ah (fn:=Aa8) (c:=Aa8.body.getD .skip) rfl rfl Jb rfl JT (Aa0 h)
theorem JU:Be CC Aan (Aan.body.getD .skip)=true:=by kernel_rfl
theorem Jc:CC.P.funcs[140]?=some Aan:=by kernel_rfl
theorem EF {x:List PV} {b:List PBox} (h:x.length.ble Aan.ntmps=true):Ad CC 140 x b=CM CC Aan.results.toList (Co CC (Aan.body.getD .skip) ⟨x,b⟩):=Ah (fn:=Aan) (c:=Aan.body.getD .skip) rfl rfl Jc rfl JU (Aa0 h)
theorem Om:Be CC Ab4 (Ab4.body.getD .skip)=true:=by kernel_rfl
theorem M6:CC.P.funcs[104]?=some Ab4:=by kernel_rfl
theorem TT:Be CC Ab3 (Ab3.body.getD .skip)=true:=by kernel_rfl
theorem RM:CC.P.funcs[141]?=some Ab3:=by kernel_rfl
theorem HJ {L:List Tk} {i:Nat} (hT:TokOK L) (hi:i < L.length) (h:(tokAt L i).1≠0):i+1 < L.length:=by
 rcases Nat.lt_or_ge (i+1) L.length with h1 | h1
 · exact h1
 · have:i=L.length - 1:=by omega
   rw [this] at h;exact absurd hT.last h
theorem AM {L:List Tk} {i k:Nat} {w:List UInt8} (hT:TokOK L) (hi:i < L.length) (h:Br L k w i=true) (hk:k≠0):i+1 < L.length:=by
 refine HJ hT hi ?_;unfold Br at h;simp only [Aal,beq_iff_eq] at h;rw [h.1];exact hk
theorem Aj {α β:Type} {r:PR α} {f:α->Nat->PR β} {b:β} {j:Nat} (h:r.bind f=.ok b j):∃ a k,r=.ok a k/\f a k=.ok b j:=by
 cases r with
 | ok a k=>exact ⟨a,k,rfl,h⟩
 | bad t e=>cases h
 | out=>cases h
theorem AW {L:List Tk} {i k:Nat} {w:List UInt8} {a:Unit} {j:Nat} (hT:TokOK L) (hi:i < L.length) (hk:k≠0) (h:Bs L k w i=.ok a j):i < j/\j < L.length:=by
 unfold Bs at h;split at h
 · rename_i hh
   injection h with _ h
   have:=AM hT hi hh hk;omega
 · cases h
theorem cM {L:List Tk} {i k:Nat} {a:Tk} {j:Nat} (hT:TokOK L) (hi:i < L.length) (hk:k≠0) (h:Oh L k i=.ok a j):i < j/\j < L.length:=by
 unfold Oh at h;split at h
 · rename_i hh
   injection h with _ h
   have:=HJ hT hi (by rw [hh];exact hk);omega
 · cases h
theorem CI {L:List Tk} {i:Nat} {a:List UInt8} {j:Nat} (hT:TokOK L) (hi:i < L.length) (h:DG L i=.ok a j):i < j/\j < L.length:=by
 unfold DG at h;split at h
 · rename_i hh
   split at h
   · injection h with _ h
     have:=HJ hT hi (by rw [hh];decide);omega
   · cases h
 · cases h
theorem Pf {L:List Tk} {i:Nat} {a:List UInt8} {j:Nat} (h:DG L i=.ok a j):BQ a=true:=by
 unfold DG at h;split at h
 · split at h
   · rename_i hv
     injection h with h _
     rw [<- h];exact hv
   · cases h
 · cases h
theorem Ft {L:List Tk} {lo Dp i:Nat} {a j:Nat} (hT:TokOK L) (hi:i < L.length) (h:Hq L lo Dp i=.ok a j):i < j/\j < L.length/\lo<=a/\a<=Dp:=by
 unfold Hq at h;split at h
 · rename_i hh
   split at h
   · cases h
   · injection h with h1 h
     have:=HJ hT hi (by rw [hh];decide);omega
 · cases h
theorem Qx {L:List Tk} {Dp i:Nat} {a j:Nat} (hT:TokOK L) (hi:i < L.length) (h:PO L Dp i=.ok a j):i < j/\j < L.length/\a<=Dp:=by
 unfold PO at h;split at h
 · cases h
 · have:=Ft hT hi h
   omega
theorem Bh {α:Type} {f:FuncId} {xs:List PV} {id:Nat} {L:List Tk} {RL:PV} {i o:Nat} {enc:α->PV} {a:α} {j:Nat} (h:TS f xs id L RL i o (enc a) j o):Xs f xs id L RL i o enc (.ok a j):=h
theorem AK {α:Type} {f:FuncId} {xs:List PV} {id:Nat} {L:List Tk} {RL:PV} {i o:Nat} {enc:α->PV} {t:Nat} {e:Int} (h:∃ i' o',M5 f xs id L RL i o t e i' o'):Xs (α:=α) f xs id L RL i o enc (.bad t e):=h
theorem AT {α:Type} {f:FuncId} {xs:List PV} {id:Nat} {L:List Tk} {RL:PV} {i o:Nat} {enc:α->PV}:Xs (α:=α) f xs id L RL i o enc .out:=trivial
theorem cN:∀ (w:List UInt8) (n:Nat),n<=amtN w n
 | [],n=>Aay n
 | b :: r,n=>by
  have:=cN r (10 * n+(b.toNat - 48));show n<=amtN r (10 * n+(b.toNat - 48));omega
theorem Yq (Lc:Code) (hL:Lc=Ab Aaa [1,1,0,1,0]) (k a:Int) (tx:List UInt8) (hs:tx.length<=20000) (hd:∀ b ∈ tx,48<=b.toNat/\b.toNat<=57) (hn:amtN tx 0<=1099511627776):∀ (m i n:Nat) (e:List PV),i+m=tx.length->amtN (tx.drop i) n=amtN tx 0->getT e 1=.bp 0 0->getT e 3=.int .i64 n->getT e 4=.int .i64 i ->
 ∃ e',Co CC Lc ⟨e,[.cells 80 [.int .i64 k,.str tx,.int .i64 a]]⟩=some (.exit 0,⟨e',[.cells 80 [.int .i64 k,.str tx,.int .i64 a]]⟩)/\getT e' 3=.int .i64 (amtN tx 0:Nat):=by
 intro m
 induction m with
 | zero=>
  intro i n e hm ha h1 h3 h4;rw [A3 (Ab Aaa [1,1,0,1,0,0]) hL];have hi:¬ (i:Int) < (tx.length:Int):=by omega
  have hlen:=Bk tx;have hz:amtN (tx.drop i) n=n:=by rw [List.drop_of_length_le (by omega)];rfl
  rw [hz] at ha;rw [<- An];simp only [Ab,Ac,Aaa,Aa1];simp only [S9,Ag,seval,ZC,CX,Aa5,Aa6,h1,h3,h4,hi,hlen];exact ⟨_,rfl,by simp only [S7,Ag,seval,h3,ha]⟩
 | succ m ih=>
  intro i n e hm ha h1 h3 h4;rw [A3 (Ab Aaa [1,1,0,1,0,0]) hL];have hi:(i:Int) < (tx.length:Int):=by omega
  have hlen:=Bk tx;have hx:tx[i]?=some tx[i]:=by simp
  have Qp:=Ki tx i tx[i] hx;have hdd:=hd tx[i] (List.getElem_mem _);have IU:tx.drop i=tx[i] :: tx.drop (i+1):=List.drop_eq_getElem_cons (by omega);rw [IU] at ha;generalize tx[i]=c at *;have yb:amtN (tx.drop (i+1)) (10 * n+(c.toNat - 48))=amtN tx 0:=ha;have QJ:=cN (tx.drop (i+1)) (10 * n+(c.toNat - 48));have w2:Aak .u8 ((c.toNat:Int) - 48)=(c.toNat:Int) - 48:=by simp [Aak,IntKind.bits,IntKind.signed];omega
  have w3:=U7 ((c.toNat:Int) - 48) ⟨by omega,by omega⟩;have w1:=wrap_i64 (n:=10 * (n:Int)) ⟨by omega,by omega⟩;have w4:=wrap_i64 (n:=10 * (n:Int)+((c.toNat:Int) - 48)) ⟨by omega,by omega⟩;have hw:=wrap_i64 (n:=(i:Int)+1) ⟨by omega,by omega⟩;have mC:((10 * n+(c.toNat - 48):Nat):Int)=10 * (n:Int)+((c.toNat:Int) - 48):=by omega
  have cast1:((i+1:Nat):Int)=(i:Int)+1:=by omega
  have key:=fun e=>ih (i+1) (10 * n+(c.toNat - 48)) e (by omega) yb;rw [mC,cast1] at key;rw [<- An];rw [<- An] at key;simp only [Ab,Ac,Aaa,Aa1];simp only [S9,Ag,seval,ZC,CX,Aa5,Aa6,h1,h3,h4,hi,hlen,Qp,w1,w2,w3,w4,hw];refine key _ ?_ ?_ ?_
  · simp only [S7,Ag,seval,h1]
  · simp only [S7,Ag,seval]
  · simp only [S7,Ag,seval]
theorem Gy (t:Tk) (hs:t.2.1.length<=20000) (hd:∀ b ∈ t.2.1,48<=b.toNat/\b.toNat<=57) (hn:amtN t.2.1 0<=1099511627776) (bx):Ai CC (Ad CC) 143 [Oe t] bx=some (.ret (.int .i64 (amtN t.2.1 0:Nat)),bx):=by
 suffices h:∃ b,Ad CC 143 [Oe t] []=some (.ret (.int .i64 (amtN t.2.1 0:Nat)),b) by
  obtain ⟨b,h⟩:=h;exact Aq rfl (by simp [Al,PV.pure,Oe]) h rfl
 obtain ⟨k,tx,a⟩:=t;simp only at hs hd hn;unfold Oe;simp only;rw [Ah (fn:=Aaa) (c:=Aaa.body.getD .skip) rfl rfl Ol rfl PU (Aa0 rfl)];have Af:=fun e=>Yq _ rfl k a tx hs hd hn tx.length 0 0 e (by omega) rfl;simp only [Ab,Ac,Aaa,Aa1] at Af |-;rw [<- An];rw [<- An] at Af;simp only [S9,Ag,seval,ZC,CX,Aa5,Aa6,Af];generalize hE:Hp _ _=z
 have hP:∃ e',z=some (.exit 0,⟨e',[.cells 80 [.int .i64 k,.str tx,.int .i64 a]]⟩)/\getT e' 3=.int .i64 (amtN tx 0:Nat):=by
  rw [<- hE];refine Af _ ?_ ?_ ?_
  · simp only [S7,Ag,seval]
  · simp only [S7,Ag,seval] <;> rfl
  · simp only [S7,Ag,seval] <;> rfl
 obtain ⟨e',he,h3⟩:=hP;subst he;clear hE Af;simp only [S9,Ag,seval,ZC,CX,Aa5,Aa6,h3];exact ⟨_,rfl⟩
theorem Hd {id:Nat} {L:List Tk} {i o:Nat} {RL:PV} (hR:RL.pure=true) (hi:i < L.length) (hT:TokOK L) (lo Dp:Nat) (klo khi:Int) (h1:klo=(lo:Int)) (h2:khi=(Dp:Int)):Xs 106 [.int .i64 klo,.int .i64 khi] id L RL i o (fun n=>.int .i64 ((n:Nat):Int)) (Hq L lo Dp i):=by
 have h3:=Qw (o:=o) (i:=i) hR hi hT 2 2 rfl (id:=id);unfold Hq;unfold Oh at h3;by_cases hk:(tokAt L i).1=2
 · rw [if_pos hk] at h3 |-
   have ez:=Gy (tokAt L i) (hT.word i) (hT.num i hk).1 (hT.num i hk).2;generalize hA:amtN (tokAt L i).2.1 0=A at *;by_cases c1:A < lo
   · rw [if_pos (.inl c1)]
     have c1':(A:Int) < klo:=by omega
     refine ⟨i+1,o,Aw hR fun bx hid hc=>?_⟩;have t1:=Aa hid hc hR h3;have t3:=Am hid hc hR (CD (i:=i+1) (o:=o) (L:=L) hR (tokAt L i).1 (tokAt L i).2.1 (tokAt L i).2.2 2);rw [Cm rfl];unfold Ap atT Oe at *;rw [<- An];rw [<- AL] at t1 ez t3;simp only [Ab,Ac,Aa9,Aa1];simp only [S9,Ag,seval,PY,PZ,AS,t1,ez,t3,c1',hid];exact ⟨_,rfl⟩
   · have c1':¬ (A:Int) < klo:=by omega
     by_cases c2:Dp < A
     · rw [if_pos (.inr c2)]
       have c2':(A:Int) > khi:=by omega
       refine ⟨i+1,o,Aw hR fun bx hid hc=>?_⟩;have t1:=Aa hid hc hR h3;have t3:=Am hid hc hR (CD (i:=i+1) (o:=o) (L:=L) hR (tokAt L i).1 (tokAt L i).2.1 (tokAt L i).2.2 2);rw [Cm rfl];unfold Ap atT Oe at *;rw [<- An];rw [<- AL] at t1 ez t3;simp only [Ab,Ac,Aa9,Aa1];simp only [S9,Ag,seval,PY,PZ,AS,t1,ez,t3,c1',c2',hid];exact ⟨_,rfl⟩
     · rw [if_neg (by omega)]
       have c2':¬ (A:Int) > khi:=by omega
       refine Bh (A4 hR (fun n=>by simp [PV.under]) fun bx hid hc=>?_);have t1:=Aa hid hc hR h3;rw [Cm rfl];unfold Ap Oe at *;rw [<- An];rw [<- AL] at t1 ez;simp only [Ab,Ac,Aa9,Aa1];simp only [S9,Ag,seval,PY,PZ,AS,t1,ez,c1',c2',hid];exact ⟨_,rfl⟩
 · rw [if_neg hk] at h3 |-
   obtain ⟨i',o',h3⟩:=h3;refine ⟨i',o',Aw hR fun bx hid hc=>?_⟩;have t1:=Am hid hc hR h3;rw [Cm rfl];unfold Ap;rw [<- An];rw [<- AL] at t1;simp only [Ab,Ac,Aa9,Aa1];simp only [S9,Ag,seval,PY,PZ,AS,t1,hid];exact ⟨_,rfl⟩
def rU (k:Ky):PV:=.agg [.int .i64 k.1,.str k.2.1,.str k.2.2]
theorem Au {α β:Type} (a:α) (i:Nat) (f:α->Nat->PR β):(PR.ok a i).bind f=f a i:=rfl
theorem cO {id:Nat} {L:List Tk} {i o:Nat} {RL:PV} (hR:RL.pure=true) (hi:i < L.length) (hT:TokOK L) (Dp:Nat) (khi:Int) (h2:khi=(Dp:Int)):Xs 163 [.int .i64 khi] id L RL i o (fun n=>.int .i64 ((n:Nat):Int)) (PO L Dp i):=by
 have h0:=AA (id:=id) (o:=o) hR hi;have hq:=Oj (tokAt L i).1 2;have hlen:=Bk (tokAt L i).2.1;have HP:=Ok (tokAt L i).2.1.length 2;have h1:=Hd (id:=id) (o:=o) hR hi hT 0 Dp 0 khi rfl h2;unfold PO;by_cases hk:(tokAt L i).1=2
 · rw [beq_iff_eq.2 hk] at hq
   have hq:(((tokAt L i).1:Int) == 2)=true:=hq;by_cases hl:(tokAt L i).2.1.length=2
   · rw [if_neg (by omega)]
     rw [beq_iff_eq.2 hl] at HP;have HP:(((tokAt L i).2.1.length:Int) != 2)=false:=HP;cases r1:Hq L 0 Dp i with
     | out=>exact AT
     | bad t e=>
      rw [r1] at h1;obtain ⟨i',o',h1⟩:=h1;refine AK ⟨i',o',Aw hR fun bx hid hc=>?_⟩;have t0:=Aa hid hc hR h0;have t1:=Am hid hc hR h1;rw [CQ rfl];unfold Ap;rw [<- An];rw [<- AL] at t0 t1;simp only [Ab,Ac,Aa7,Aa1];simp only [S9,Ag,seval,PY,PZ,AS,t0,t1,hq,hlen,HP,Aar,hid];exact ⟨_,rfl⟩
     | ok a j=>
      rw [r1] at h1;refine Bh (A4 hR (fun n=>by simp [PV.under]) fun bx hid hc=>?_);have t0:=Aa hid hc hR h0;have t1:=Aa hid hc hR h1;rw [CQ rfl];unfold Ap;rw [<- An];rw [<- AL] at t0 t1;simp only [Ab,Ac,Aa7,Aa1];simp only [S9,Ag,seval,PY,PZ,AS,t0,t1,hq,hlen,HP,Aar,hid];exact ⟨_,rfl⟩
   · rw [if_pos ⟨hk,hl⟩]
     rw [beq_eq_false_iff_ne.2 hl] at HP;have HP:(((tokAt L i).2.1.length:Int) != 2)=true:=HP;refine AK ⟨i,o,Aw hR fun bx hid hc=>?_⟩;have t0:=Aa hid hc hR h0;have t3:=Am hid hc hR (CD (i:=i) (o:=o) (L:=L) hR (tokAt L i).1 (tokAt L i).2.1 (tokAt L i).2.2 12);rw [CQ rfl];unfold Ap atT;rw [<- An];rw [<- AL] at t0 t3;simp only [Ab,Ac,Aa7,Aa1];simp only [S9,Ag,seval,PY,PZ,AS,t0,t3,hq,hlen,HP,Aar,hid];exact ⟨_,rfl⟩
 · rw [if_neg (fun h=>hk h.1)]
   rw [beq_eq_false_iff_ne.2 hk] at hq;have hq:(((tokAt L i).1:Int) == 2)=false:=hq;have r1:Hq L 0 Dp i=.bad (atT L i) 12:=by unfold Hq;rw [if_neg hk]
   rw [r1] at h1 |-;obtain ⟨i',o',h1⟩:=h1;refine AK ⟨i',o',Aw hR fun bx hid hc=>?_⟩;have t0:=Aa hid hc hR h0;have t1:=Am hid hc hR h1;rw [CQ rfl];unfold Ap;rw [<- An];rw [<- AL] at t0 t1;simp only [Ab,Ac,Aa7,Aa1];simp only [S9,Ag,seval,PY,PZ,AS,t0,t1,hq,Abc,hid];exact ⟨_,rfl⟩
theorem RN {id:Nat} {L:List Tk} {i o:Nat} {RL:PV} (hR:RL.pure=true) (hi:i < L.length) (hT:TokOK L):Xs 145 [] id L RL i o (fun k=>.tup [.int .i64 k.1,.str k.2.1,.str k.2.2]) (Eb L i):=by
 unfold Eb;have h0:=Hd (id:=id) (o:=o) (i:=i) hR hi hT 1 250 1 250 rfl rfl;cases r0:Hq L 1 250 i with
 | out=>exact AT
 | bad t e=>
  rw [r0] at h0;obtain ⟨i',o',h0⟩:=h0;refine AK ⟨i',o',Aw hR fun bx hid hc=>?_⟩;have t0:=Am hid hc hR h0;rw [BP rfl];unfold Ap;rw [<- An];rw [<- AL] at t0;simp only [Ab,Ac,Aa2,Aa1];simp only [S9,Ag,seval,PY,PZ,AS,t0,hid];exact ⟨_,rfl⟩
 | ok a0 i0=>
  rw [r0] at h0;dsimp only [Au];have j0:=Ft hT hi r0;have D3:=j0.2.1;have h1:=Cb (id:=id) (o:=o) (i:=i0) hR D3 hT 4 4 rfl [46];cases r1:Bs L 4 [46] i0 with
  | out=>exact AT
  | bad t e=>
   rw [r1] at h1;obtain ⟨i',o',h1⟩:=h1;refine AK ⟨i',o',Aw hR fun bx hid hc=>?_⟩;have t0:=Aa hid hc hR h0;have t1:=Am hid hc hR h1;rw [BP rfl];unfold Ap;rw [<- An];rw [<- AL] at t0 t1;simp only [Ab,Ac,Aa2,Aa1];simp only [S9,Ag,seval,PY,PZ,AS,t0,t1,hid];exact ⟨_,rfl⟩
  | ok a1 i1=>
   rw [r1] at h1;dsimp only [Au];have j1:=AW hT D3 (by decide) r1;have BF:=j1.2;have h2:=Hc (id:=id) (o:=o) (i:=i1) hR BF hT;cases r2:DG L i1 with
   | out=>exact AT
   | bad t e=>
    rw [r2] at h2;obtain ⟨i',o',h2⟩:=h2;refine AK ⟨i',o',Aw hR fun bx hid hc=>?_⟩;have t0:=Aa hid hc hR h0;have t1:=Aa hid hc hR h1;have t2:=Am hid hc hR h2;rw [BP rfl];unfold Ap;rw [<- An];rw [<- AL] at t0 t1 t2;simp only [Ab,Ac,Aa2,Aa1];simp only [S9,Ag,seval,PY,PZ,AS,t0,t1,t2,hid];exact ⟨_,rfl⟩
   | ok a2 i2=>
    rw [r2] at h2;dsimp only [Au];have j2:=CI hT BF r2;have Gu:=j2.2;have h3:=Cb (id:=id) (o:=o) (i:=i2) hR Gu hT 4 4 rfl [46];cases r3:Bs L 4 [46] i2 with
    | out=>exact AT
    | bad t e=>
     rw [r3] at h3;obtain ⟨i',o',h3⟩:=h3;refine AK ⟨i',o',Aw hR fun bx hid hc=>?_⟩;have t0:=Aa hid hc hR h0;have t1:=Aa hid hc hR h1;have t2:=Aa hid hc hR h2;have t3:=Am hid hc hR h3;rw [BP rfl];unfold Ap;rw [<- An];rw [<- AL] at t0 t1 t2 t3;simp only [Ab,Ac,Aa2,Aa1];simp only [S9,Ag,seval,PY,PZ,AS,t0,t1,t2,t3,hid];exact ⟨_,rfl⟩
    | ok a3 i3=>
     rw [r3] at h3;dsimp only [Au];have j3:=AW hT Gu (by decide) r3;have Uy:=j3.2;have h4:=Hc (id:=id) (o:=o) (i:=i3) hR Uy hT;cases r4:DG L i3 with
     | out=>exact AT
     | bad t e=>
      rw [r4] at h4;obtain ⟨i',o',h4⟩:=h4;refine AK ⟨i',o',Aw hR fun bx hid hc=>?_⟩;have t0:=Aa hid hc hR h0;have t1:=Aa hid hc hR h1;have t2:=Aa hid hc hR h2;have t3:=Aa hid hc hR h3;have t4:=Am hid hc hR h4;rw [BP rfl];unfold Ap;rw [<- An];rw [<- AL] at t0 t1 t2 t3 t4;simp only [Ab,Ac,Aa2,Aa1];simp only [S9,Ag,seval,PY,PZ,AS,t0,t1,t2,t3,t4,hid];exact ⟨_,rfl⟩
     | ok a4 i4=>
      rw [r4] at h4;dsimp only [Au];have j4:=CI hT Uy r4;have hY:=j4.2;refine Bh (A4 hR (fun n=>by simp [PV.under,Ar]) fun bx hid hc=>?_);have t0:=Aa hid hc hR h0;have t1:=Aa hid hc hR h1;have t2:=Aa hid hc hR h2;have t3:=Aa hid hc hR h3;have t4:=Aa hid hc hR h4;rw [BP rfl];unfold Ap;rw [<- An];rw [<- AL] at t0 t1 t2 t3 t4;simp only [Ab,Ac,Aa2,Aa1];simp only [S9,Ag,seval,PY,PZ,AS,t0,t1,t2,t3,t4,hid];exact ⟨_,rfl⟩
theorem C1 {L:List Tk} {i:Nat} {a:Ky} {j:Nat} (hT:TokOK L) (hi:i < L.length) (h:Eb L i=.ok a j):i < j/\j < L.length/\BQ a.2.1=true/\BQ a.2.2=true/\1<=a.1/\a.1<=250:=by
 unfold Eb at h;obtain ⟨d,i0,r0,h⟩:=Aj h;obtain ⟨_,i1,r1,h⟩:=Aj h;obtain ⟨s,i2,r2,h⟩:=Aj h;obtain ⟨_,i3,r3,h⟩:=Aj h;obtain ⟨u,i4,r4,h⟩:=Aj h;injection h with h1 h2
 have j0:=Ft hT hi r0;have j1:=AW hT j0.2.1 (by decide) r1;have j2:=CI hT j1.2 r2;have j3:=AW hT j2.2 (by decide) r3;have j4:=CI hT j3.2 r4;subst h1 h2;exact ⟨by omega,by omega,Pf r2,Pf r4,by omega,by omega⟩
theorem jw (d:Int) (a b:List UInt8):A9 CC 26 [(0,.int .i64 d),(1,.str a),(2,.str b)]=some (.agg [.int .i64 d,.str a,.str b]):=by kernel_rfl
theorem Wh {id:Nat} {L:List Tk} {i o:Nat} {RL:PV} (hR:RL.pure=true) (hi:i < L.length) (hT:TokOK L):Xs 144 [] id L RL i o rU (Eb L i):=by
 have h0:=RN (id:=id) (o:=o) hR hi hT;unfold rU;cases r0:Eb L i with
 | out=>exact AT
 | bad t e=>
  rw [r0] at h0;obtain ⟨i',o',h0⟩:=h0;refine AK ⟨i',o',Aw hR fun bx hid hc=>?_⟩;have t0:=Am hid hc hR h0;rw [Fs rfl];unfold Ap;rw [<- An];rw [<- AL] at t0;simp only [Ab,Ac,Aaf,Aa1];simp only [S9,Ag,seval,PY,PZ,AS,t0,hid];exact ⟨_,rfl⟩
 | ok k j=>
  rw [r0] at h0;refine Bh (A4 hR (fun n=>by simp [PV.under,Ar]) fun bx hid hc=>?_);have t0:=Aa hid hc hR h0;rw [Fs rfl];unfold Ap;rw [<- An];rw [<- AL] at t0;simp only [Ab,Ac,Aaf,Aa1];simp only [S9,Ag,seval,PY,PZ,AS,t0,jw,hid];exact ⟨_,rfl⟩
theorem On {id:Nat} {L:List Tk} {i o:Nat} {RL:PV} (hR:RL.pure=true) (hi:i < L.length) (hT:TokOK L):Xs 146 [] id L RL i o (fun n=>.int .i64 ((n:Nat):Int)) (Fo L i):=by
 unfold Fo;have h0:=cO (id:=id) (o:=o) (i:=i) hR hi hT 23 23 rfl;cases r0:PO L 23 i with
 | out=>exact AT
 | bad t e=>
  rw [r0] at h0;obtain ⟨i',o',h0⟩:=h0;refine AK ⟨i',o',Aw hR fun bx hid hc=>?_⟩;have t0:=Am hid hc hR h0;rw [Cr rfl];unfold Ap;rw [<- An];rw [<- AL] at t0;simp only [Ab,Ac,Aa8,Aa1];simp only [S9,Ag,seval,PY,PZ,AS,t0,hid];exact ⟨_,rfl⟩
 | ok a0 i0=>
  rw [r0] at h0;dsimp only [Au];have j0:=Qx hT hi r0;have D3:=j0.2.1;have Mt:Aak .i64 (60 * (a0:Int))=((60 * a0:Nat):Int):=by rw [wrap_i64 ⟨by omega,by omega⟩];omega
  have h1:=Cb (id:=id) (o:=o) (i:=i0) hR D3 hT 4 4 rfl [58];cases r1:Bs L 4 [58] i0 with
  | out=>exact AT
  | bad t e=>
   rw [r1] at h1;obtain ⟨i',o',h1⟩:=h1;refine AK ⟨i',o',Aw hR fun bx hid hc=>?_⟩;have t0:=Aa hid hc hR h0;have t1:=Am hid hc hR h1;rw [Cr rfl];unfold Ap;rw [<- An];rw [<- AL] at t0 t1;simp only [Ab,Ac,Aa8,Aa1];simp only [S9,Ag,seval,PY,PZ,AS,t0,t1,Mt,hid];exact ⟨_,rfl⟩
  | ok a1 i1=>
   rw [r1] at h1;dsimp only [Au];have j1:=AW hT D3 (by decide) r1;have BF:=j1.2;have h2:=cO (id:=id) (o:=o) (i:=i1) hR BF hT 59 59 rfl;cases r2:PO L 59 i1 with
   | out=>exact AT
   | bad t e=>
    rw [r2] at h2;obtain ⟨i',o',h2⟩:=h2;refine AK ⟨i',o',Aw hR fun bx hid hc=>?_⟩;have t0:=Aa hid hc hR h0;have t1:=Aa hid hc hR h1;have t2:=Am hid hc hR h2;rw [Cr rfl];unfold Ap;rw [<- An];rw [<- AL] at t0 t1 t2;simp only [Ab,Ac,Aa8,Aa1];simp only [S9,Ag,seval,PY,PZ,AS,t0,t1,t2,Mt,hid];exact ⟨_,rfl⟩
   | ok a2 i2=>
    rw [r2] at h2;dsimp only [Au];have j2:=Qx hT BF r2;have Gu:=j2.2.1;have vu:Aak .i64 (((60 * a0:Nat):Int)+(a2:Int))=((60 * a0+a2:Nat):Int):=by rw [wrap_i64 ⟨by omega,by omega⟩];omega
    refine Bh (A4 hR (fun n=>by simp [PV.under,Ar]) fun bx hid hc=>?_);have t0:=Aa hid hc hR h0;have t1:=Aa hid hc hR h1;have t2:=Aa hid hc hR h2;rw [Cr rfl];unfold Ap;rw [<- An];rw [<- AL] at t0 t1 t2;simp only [Ab,Ac,Aa8,Aa1];simp only [S9,Ag,seval,PY,PZ,AS,t0,t1,t2,Mt,vu,hid];exact ⟨_,rfl⟩
theorem E1 {L:List Tk} {i:Nat} {a j:Nat} (hT:TokOK L) (hi:i < L.length) (h:Fo L i=.ok a j):i < j/\j < L.length/\a < 1440:=by
 unfold Fo at h;obtain ⟨x,i0,r0,h⟩:=Aj h;obtain ⟨_,i1,r1,h⟩:=Aj h;obtain ⟨y,i2,r2,h⟩:=Aj h;injection h with h1 h2
 have j0:=Qx hT hi r0;have j1:=AW hT j0.2.1 (by decide) r1;have j2:=Qx hT j1.2 r2;omega
end Go.HH
