/-
  What the law needs, packed: CA E19 D5 LA LB LE LF PA.
-/
import Derived.Test.YthjcaihemgllaaaGreatDoorK38
namespace Go.HH
open Go Go.Proofs
set_option maxRecDepth 100000
set_option linter.unusedVariables false
def opsOf:Code->Array Oper
 | .region _ ops _=>ops
 | _=>#[]
theorem fltU:CC.P.underlying 84=some (.struct (match CC.P.underlying 84 with | some (.struct f)=>f | _=>#[])):=by kernel_rfl
theorem fltZ:tZero CC 84=some (.agg [.int .i64 0,.int .i64 0]):=by kernel_rfl
theorem drawR (t0 t1 t2:TypeId) (x3 x1 x2:PV) (x y:Int):(orders (opsOf (fpart Tryz.f51 [1,1,0]))).map (fun l=>normP (evOps (plainC CC) noCall false (opsOf (fpart Tryz.f51 [1,1,0])) (pickOps (opsOf (fpart Tryz.f51 [1,1,0])) l) [] ⟨[.bp 0 0,.bp 1 0,.bp 2 0,.bp 3 0,.bool true,.tup [.agg [.int .i64 x,.int .i64 y],.bool true],.iface 84 (.agg [.int .i64 x,.int .i64 y]),.tup [.agg [.int .i64 x,.int .i64 y],.bool true],.agg [.int .i64 x,.int .i64 y],.bool true,.bool true],[.cells t0 [x3],.cells t1 [x1],.cells t2 [x2],.cells 84 [.int .i64 x,.int .i64 y]]⟩))=List.replicate 45 (some (.normal,⟨[.bp 0 0,.bp 1 0,.bp 2 0,.bp 3 0,.bool true,.tup [.agg [.int .i64 x,.int .i64 y],.bool true],.iface 84 (.agg [.int .i64 x,.int .i64 y]),.tup [.agg [.int .i64 x,.int .i64 y],.bool true],.agg [.int .i64 x,.int .i64 y],.bool true,.bool true,.bp 3 0,.int .i64 x,.bp 3 1,.int .i64 y],[.cells t0 [.osl 32 []],.cells t1 [.int .i64 x],.cells t2 [.int .i64 y],.cells 84 [.int .i64 x,.int .i64 y]]⟩)):=by kernel_rfl
theorem runsR (t0 t1 t2:TypeId) (x3 x1 x2:PV) (x y:Int):CatchRuns CC 51 Tryz.f51 20 84 (.agg [.int .i64 0,.int .i64 0]) [.cells t0 [x3],.cells t1 [x1],.cells t2 [x2]]
 [.cells t0 [.osl 32 []],.cells t1 [.int .i64 x],.cells t2 [.int .i64 y],.cells 84 [.int .i64 x,.int .i64 y]]
 [.cells t0 [x3],.cells t1 [x1],.cells t2 [x2],.cells 84 [.int .i64 0,.int .i64 0]] (.agg [.int .i64 x,.int .i64 y]):=by
 refine ⟨by kernel_rfl,0,1,2,(opsOf (fpart Tryz.f51 [0])),(opsOf (fpart Tryz.f51 [1,0])),(opsOf (fpart Tryz.f51 [1,1,0])),(opsOf (fpart Tryz.f51 [0])).toList.drop 2,20,85,
  ((opsOf (fpart Tryz.f51 [0])).getD 0 default).pos,((opsOf (fpart Tryz.f51 [0])).getD 1 default).pos,((opsOf (fpart Tryz.f51 [0])).getD 0 default).after,((opsOf (fpart Tryz.f51 [0])).getD 1 default).after,
  ⟨[.bp 0 0,.bp 1 0,.bp 2 0,.bp 3 0,.bool true,.tup [.agg [.int .i64 x,.int .i64 y],.bool true],.iface 84 (.agg [.int .i64 x,.int .i64 y]),.tup [.agg [.int .i64 x,.int .i64 y],.bool true],.agg [.int .i64 x,.int .i64 y],.bool true],[.cells t0 [x3],.cells t1 [x1],.cells t2 [x2],.cells 84 [.int .i64 x,.int .i64 y]]⟩,⟨[.bp 0 0,.bp 1 0,.bp 2 0,.bp 3 0,.bool true,.tup [.agg [.int .i64 x,.int .i64 y],.bool true],.iface 84 (.agg [.int .i64 x,.int .i64 y]),.tup [.agg [.int .i64 x,.int .i64 y],.bool true],.agg [.int .i64 x,.int .i64 y],.bool true,.bool true],[.cells t0 [x3],.cells t1 [x1],.cells t2 [x2],.cells 84 [.int .i64 x,.int .i64 y]]⟩,⟨[.bp 0 0,.bp 1 0,.bp 2 0,.bp 3 0,.bool true,.tup [.agg [.int .i64 x,.int .i64 y],.bool true],.iface 84 (.agg [.int .i64 x,.int .i64 y]),.tup [.agg [.int .i64 x,.int .i64 y],.bool true],.agg [.int .i64 x,.int .i64 y],.bool true,.bool true,.bp 3 0,.int .i64 x,.bp 3 1,.int .i64 y],[.cells t0 [.osl 32 []],.cells t1 [.int .i64 x],.cells t2 [.int .i64 y],.cells 84 [.int .i64 x,.int .i64 y]]⟩,⟨[.bp 0 0,.bp 1 0,.bp 2 0,.bp 3 0,.bool false,.tup [.agg [.int .i64 0,.int .i64 0],.bool false],.nili,.tup [.agg [.int .i64 0,.int .i64 0],.bool false],.agg [.int .i64 0,.int .i64 0],.bool false],[.cells t0 [x3],.cells t1 [x1],.cells t2 [x2],.cells 84 [.int .i64 0,.int .i64 0]]⟩,⟨[.bp 0 0,.bp 1 0,.bp 2 0,.bp 3 0,.bool false,.tup [.agg [.int .i64 0,.int .i64 0],.bool false],.nili,.tup [.agg [.int .i64 0,.int .i64 0],.bool false],.agg [.int .i64 0,.int .i64 0],.bool false,.bool false],[.cells t0 [x3],.cells t1 [x1],.cells t2 [x2],.cells 84 [.int .i64 0,.int .i64 0]]⟩,
  by kernel_rfl,by kernel_rfl,by kernel_rfl,by kernel_rfl,by kernel_rfl,by kernel_rfl,by kernel_rfl,by kernel_rfl,by kernel_rfl,by kernel_rfl,drawAll_iff.2 ⟨fun e=>?_,fun l hl=>?_⟩,rfl,by kernel_rfl,by kernel_rfl,by kernel_rfl,rfl⟩
 · have h:=congrArg List.length (drawR t0 t1 t2 x3 x1 x2 x y)
   rw [e] at h
   cases h
 · have h:normP (evOps (plainC CC) noCall false (opsOf (fpart Tryz.f51 [1,1,0])) (pickOps (opsOf (fpart Tryz.f51 [1,1,0])) l) [] ⟨[.bp 0 0,.bp 1 0,.bp 2 0,.bp 3 0,.bool true,.tup [.agg [.int .i64 x,.int .i64 y],.bool true],.iface 84 (.agg [.int .i64 x,.int .i64 y]),.tup [.agg [.int .i64 x,.int .i64 y],.bool true],.agg [.int .i64 x,.int .i64 y],.bool true,.bool true],[.cells t0 [x3],.cells t1 [x1],.cells t2 [x2],.cells 84 [.int .i64 x,.int .i64 y]]⟩) ∈ List.replicate 45 (some (.normal,⟨[.bp 0 0,.bp 1 0,.bp 2 0,.bp 3 0,.bool true,.tup [.agg [.int .i64 x,.int .i64 y],.bool true],.iface 84 (.agg [.int .i64 x,.int .i64 y]),.tup [.agg [.int .i64 x,.int .i64 y],.bool true],.agg [.int .i64 x,.int .i64 y],.bool true,.bool true,.bp 3 0,.int .i64 x,.bp 3 1,.int .i64 y],[.cells t0 [.osl 32 []],.cells t1 [.int .i64 x],.cells t2 [.int .i64 y],.cells 84 [.int .i64 x,.int .i64 y]]⟩)):=by
    rw [<- drawR t0 t1 t2 x3 x1 x2 x y]
    exact List.mem_map_of_mem hl
   exact List.eq_of_mem_replicate h
theorem drawE (t0 t1 t2:TypeId) (x3 x4 x5 x6 x7 x8 x9 x10 x11 x12 x13 x1 x2:PV) (x y:Int):(orders (opsOf (fpart Tryz.f47 [1,1,0]))).map (fun l=>normP (evOps (plainC CC) noCall false (opsOf (fpart Tryz.f47 [1,1,0])) (pickOps (opsOf (fpart Tryz.f47 [1,1,0])) l) [] ⟨[.bp 0 0,.bp 1 0,.bp 2 0,.bp 3 0,.bool true,.tup [.agg [.int .i64 x,.int .i64 y],.bool true],.iface 84 (.agg [.int .i64 x,.int .i64 y]),.tup [.agg [.int .i64 x,.int .i64 y],.bool true],.agg [.int .i64 x,.int .i64 y],.bool true,.bool true],[.cells t0 [x3,x4,x5,x6,x7,x8,x9,x10,x11,x12,x13],.cells t1 [x1],.cells t2 [x2],.cells 84 [.int .i64 x,.int .i64 y]]⟩))=List.replicate 126 (some (.normal,⟨[.bp 0 0,.bp 1 0,.bp 2 0,.bp 3 0,.bool true,.tup [.agg [.int .i64 x,.int .i64 y],.bool true],.iface 84 (.agg [.int .i64 x,.int .i64 y]),.tup [.agg [.int .i64 x,.int .i64 y],.bool true],.agg [.int .i64 x,.int .i64 y],.bool true,.bool true,.agg zeroE,.bp 3 0,.int .i64 x,.bp 3 1,.int .i64 y],[.cells t0 zeroE,.cells t1 [.int .i64 x],.cells t2 [.int .i64 y],.cells 84 [.int .i64 x,.int .i64 y]]⟩)):=by kernel_rfl
theorem runsE (t0 t1 t2:TypeId) (x3 x4 x5 x6 x7 x8 x9 x10 x11 x12 x13 x1 x2:PV) (x y:Int):CatchRuns CC 47 Tryz.f47 20 84 (.agg [.int .i64 0,.int .i64 0]) [.cells t0 [x3,x4,x5,x6,x7,x8,x9,x10,x11,x12,x13],.cells t1 [x1],.cells t2 [x2]]
 [.cells t0 zeroE,.cells t1 [.int .i64 x],.cells t2 [.int .i64 y],.cells 84 [.int .i64 x,.int .i64 y]]
 [.cells t0 [x3,x4,x5,x6,x7,x8,x9,x10,x11,x12,x13],.cells t1 [x1],.cells t2 [x2],.cells 84 [.int .i64 0,.int .i64 0]] (.agg [.int .i64 x,.int .i64 y]):=by
 refine ⟨by kernel_rfl,0,1,2,(opsOf (fpart Tryz.f47 [0])),(opsOf (fpart Tryz.f47 [1,0])),(opsOf (fpart Tryz.f47 [1,1,0])),(opsOf (fpart Tryz.f47 [0])).toList.drop 2,20,85,
  ((opsOf (fpart Tryz.f47 [0])).getD 0 default).pos,((opsOf (fpart Tryz.f47 [0])).getD 1 default).pos,((opsOf (fpart Tryz.f47 [0])).getD 0 default).after,((opsOf (fpart Tryz.f47 [0])).getD 1 default).after,
  ⟨[.bp 0 0,.bp 1 0,.bp 2 0,.bp 3 0,.bool true,.tup [.agg [.int .i64 x,.int .i64 y],.bool true],.iface 84 (.agg [.int .i64 x,.int .i64 y]),.tup [.agg [.int .i64 x,.int .i64 y],.bool true],.agg [.int .i64 x,.int .i64 y],.bool true],[.cells t0 [x3,x4,x5,x6,x7,x8,x9,x10,x11,x12,x13],.cells t1 [x1],.cells t2 [x2],.cells 84 [.int .i64 x,.int .i64 y]]⟩,⟨[.bp 0 0,.bp 1 0,.bp 2 0,.bp 3 0,.bool true,.tup [.agg [.int .i64 x,.int .i64 y],.bool true],.iface 84 (.agg [.int .i64 x,.int .i64 y]),.tup [.agg [.int .i64 x,.int .i64 y],.bool true],.agg [.int .i64 x,.int .i64 y],.bool true,.bool true],[.cells t0 [x3,x4,x5,x6,x7,x8,x9,x10,x11,x12,x13],.cells t1 [x1],.cells t2 [x2],.cells 84 [.int .i64 x,.int .i64 y]]⟩,⟨[.bp 0 0,.bp 1 0,.bp 2 0,.bp 3 0,.bool true,.tup [.agg [.int .i64 x,.int .i64 y],.bool true],.iface 84 (.agg [.int .i64 x,.int .i64 y]),.tup [.agg [.int .i64 x,.int .i64 y],.bool true],.agg [.int .i64 x,.int .i64 y],.bool true,.bool true,.agg zeroE,.bp 3 0,.int .i64 x,.bp 3 1,.int .i64 y],[.cells t0 zeroE,.cells t1 [.int .i64 x],.cells t2 [.int .i64 y],.cells 84 [.int .i64 x,.int .i64 y]]⟩,⟨[.bp 0 0,.bp 1 0,.bp 2 0,.bp 3 0,.bool false,.tup [.agg [.int .i64 0,.int .i64 0],.bool false],.nili,.tup [.agg [.int .i64 0,.int .i64 0],.bool false],.agg [.int .i64 0,.int .i64 0],.bool false],[.cells t0 [x3,x4,x5,x6,x7,x8,x9,x10,x11,x12,x13],.cells t1 [x1],.cells t2 [x2],.cells 84 [.int .i64 0,.int .i64 0]]⟩,⟨[.bp 0 0,.bp 1 0,.bp 2 0,.bp 3 0,.bool false,.tup [.agg [.int .i64 0,.int .i64 0],.bool false],.nili,.tup [.agg [.int .i64 0,.int .i64 0],.bool false],.agg [.int .i64 0,.int .i64 0],.bool false,.bool false],[.cells t0 [x3,x4,x5,x6,x7,x8,x9,x10,x11,x12,x13],.cells t1 [x1],.cells t2 [x2],.cells 84 [.int .i64 0,.int .i64 0]]⟩,
  by kernel_rfl,by kernel_rfl,by kernel_rfl,by kernel_rfl,by kernel_rfl,by kernel_rfl,by kernel_rfl,by kernel_rfl,by kernel_rfl,by kernel_rfl,drawAll_iff.2 ⟨fun e=>?_,fun l hl=>?_⟩,rfl,by kernel_rfl,by kernel_rfl,by kernel_rfl,rfl⟩
 · have h:=congrArg List.length (drawE t0 t1 t2 x3 x4 x5 x6 x7 x8 x9 x10 x11 x12 x13 x1 x2 x y)
   rw [e] at h
   cases h
 · have h:normP (evOps (plainC CC) noCall false (opsOf (fpart Tryz.f47 [1,1,0])) (pickOps (opsOf (fpart Tryz.f47 [1,1,0])) l) [] ⟨[.bp 0 0,.bp 1 0,.bp 2 0,.bp 3 0,.bool true,.tup [.agg [.int .i64 x,.int .i64 y],.bool true],.iface 84 (.agg [.int .i64 x,.int .i64 y]),.tup [.agg [.int .i64 x,.int .i64 y],.bool true],.agg [.int .i64 x,.int .i64 y],.bool true,.bool true],[.cells t0 [x3,x4,x5,x6,x7,x8,x9,x10,x11,x12,x13],.cells t1 [x1],.cells t2 [x2],.cells 84 [.int .i64 x,.int .i64 y]]⟩) ∈ List.replicate 126 (some (.normal,⟨[.bp 0 0,.bp 1 0,.bp 2 0,.bp 3 0,.bool true,.tup [.agg [.int .i64 x,.int .i64 y],.bool true],.iface 84 (.agg [.int .i64 x,.int .i64 y]),.tup [.agg [.int .i64 x,.int .i64 y],.bool true],.agg [.int .i64 x,.int .i64 y],.bool true,.bool true,.agg zeroE,.bp 3 0,.int .i64 x,.bp 3 1,.int .i64 y],[.cells t0 zeroE,.cells t1 [.int .i64 x],.cells t2 [.int .i64 y],.cells 84 [.int .i64 x,.int .i64 y]]⟩)):=by
    rw [<- drawE t0 t1 t2 x3 x4 x5 x6 x7 x8 x9 x10 x11 x12 x13 x1 x2 x y]
    exact List.mem_map_of_mem hl
   exact List.eq_of_mem_replicate h
theorem ro_pure {v:PV} (h:v.pure=true):v.ro.pure=true:=by
 cases v <;> first | exact h | (simp only [PV.ro,PV.pure] at h ⊢;exact h)
theorem seal1_pure {v:PV} (h:v.pure=true):v.seal1.pure=true:=by
 cases v <;> first | exact h | (simp only [PV.seal1,PV.pure,pureL] at h ⊢;exact h)
theorem shutV_pure {v:PV} (h:v.pure=true):v.shutV.pure=true:=by
 cases v <;> first | exact seal1_pure h | skip
 rename_i cs
 simp only [PV.shutV,PV.pure] at h ⊢
 induction cs with
 | nil=>rfl
 | cons c r ih=>
  simp only [List.map_cons,pureL,Bool.and_eq_true] at h ⊢
  exact ⟨seal1_pure h.1,ih h.2⟩
theorem finR_pure (c0:List PV) (h:pureL c0=true):(finR c0).pure=true:=by
 match c0,h with
 | [],_=>rfl
 | [x],h=>
  simp only [pureL,Bool.and_true] at h
  exact shutV_pure (ro_pure h)
 | _ :: _ :: _,_=>rfl
theorem finE_pure (c0:List PV) (h:pureL c0=true):(finE c0).pure=true:=by
 refine shutV_pure ?_
 simp only [PV.pure]
 induction c0 with
 | nil=>rfl
 | cons c r ih=>
  simp only [List.map_cons,pureL,Bool.and_eq_true] at h ⊢
  exact ⟨ro_pure h.1,ih h.2⟩
theorem resR (env:List PV) (t0:TypeId) (c0:List PV) (t1:TypeId) (x:Int) (t2:TypeId) (y:Int) (r:List PBox) (h2:getT env 2=.bp 0 0) (h3:getT env 3=.bp 1 0) (h4:getT env 4=.bp 2 0) (hc:c0.length=1∨c0=[.osl 32 []]) :
 resultsP CC ⟨env,.cells t0 c0 :: .cells t1 [.int .i64 x] :: .cells t2 [.int .i64 y] :: r⟩ Tryz.f24.results.toList=some [finR c0,.int .i64 x,.int .i64 y]:=by
 have hl:c0.length=1:=by
  rcases hc with h | h
  · exact h
  · subst h;rfl
 have hr:Tryz.f24.results.toList=[.cell 2 41,.cell 3 3,.cell 4 35]:=by kernel_rfl
 rw [hr]
 have hE:∃ f,CC.P.underlying 29=some (.struct f):=⟨(match CC.P.underlying 29 with | some (.struct f)=>f | _=>#[]),by kernel_rfl⟩
 obtain ⟨fe,hfe⟩:=hE
 match c0,hl with
 | [c0],_=>
  simp only [resultsP,resultP,opd,raw,h2,h3,h4,PV.ro,loadP,boxCells,readCells,TG,List.getElem?_cons_zero,List.getElem?_cons_succ,List.drop_zero,List.head?_cons,Option.map_some,hfe,List.take_succ_cons,List.take_zero,List.length_cons,List.length_nil,Nat.le_refl,if_true,Bool.false_eq_true,if_false]
  rfl
theorem resE (env:List PV) (t0:TypeId) (c0:List PV) (t1:TypeId) (x:Int) (t2:TypeId) (y:Int) (r:List PBox) (h2:getT env 2=.bp 0 0) (h3:getT env 3=.bp 1 0) (h4:getT env 4=.bp 2 0) (hc:c0.length=11∨c0=zeroE) :
 resultsP CC ⟨env,.cells t0 c0 :: .cells t1 [.int .i64 x] :: .cells t2 [.int .i64 y] :: r⟩ Tryz.f22.results.toList=some [finE c0,.int .i64 x,.int .i64 y]:=by
 have hl:c0.length=11:=by
  rcases hc with h | h
  · exact h
  · subst h;rfl
 have hr:Tryz.f22.results.toList=[.cell 2 29,.cell 3 3,.cell 4 35]:=by kernel_rfl
 rw [hr]
 have hE:∃ f,CC.P.underlying 29=some (.struct f):=⟨(match CC.P.underlying 29 with | some (.struct f)=>f | _=>#[]),by kernel_rfl⟩
 obtain ⟨fe,hfe⟩:=hE
 match c0,hl with
 | [c0,c1,c2,c3,c4,c5,c6,c7,c8,c9,c10],_=>
  simp only [resultsP,resultP,opd,raw,h2,h3,h4,PV.ro,loadP,boxCells,readCells,TG,List.getElem?_cons_zero,List.getElem?_cons_succ,List.drop_zero,List.head?_cons,Option.map_some,hfe,List.take_succ_cons,List.take_zero,List.length_cons,List.length_nil,Nat.le_refl,if_true,Bool.false_eq_true,if_false]
  rfl
theorem soundR (ev:Code->St->Option (Ex×St)) (hev:CodeSound CC false ev) (args:List PV) (bx:List PBox) (cr:CR) (bx':List PBox) (hrun:runCat catR ev args bx=some (cr,bx')) :
 HasBody CC.P 24∧((∀ p ∈ args,∀ t xs,p≠.osl t xs)->∀ (B:Nat) (T:Nat->Prop) (S:Store) (M:List Nat) (vs:List Value) (w:World),HSim CC B T S M bx w->RepL S M args vs ->
  Calls CC.P 24 vs.toArray w fun e w'=>∃ S' M',HSim CC B T S' M' bx' w'∧Grows B T S w S' w'∧M <+: M'∧Outcome S' M' cr e):=
 catcher_sound (C:=CC) (fn:=Tryz.f24) (code:=part' [1,1] (Tryz.f24.body.getD .skip)) (i0:=0) (i1:=1) (opsA:=(opsOf (fpart Tryz.f24 [0]))) (opsB:=(opsOf (fpart Tryz.f24 [1,0]))) (g:=51) (gn:=Tryz.f51) (envA:=envR)
  (bx0:=[.cells 41 [.nils],.cells 3 [.int .i64 0],.cells 35 [.int .i64 0]])
  (ty6:=((opsOf (fpart Tryz.f24 [1,0])).getD 0 default).type) (tyd:=((opsOf (fpart Tryz.f24 [1,0])).getD 1 default).type) (p6:=((opsOf (fpart Tryz.f24 [1,0])).getD 0 default).pos) (pd:=((opsOf (fpart Tryz.f24 [1,0])).getD 1 default).pos) (af6:=((opsOf (fpart Tryz.f24 [1,0])).getD 0 default).after) (afd:=((opsOf (fpart Tryz.f24 [1,0])).getD 1 default).after)
  (TI:=20) (TF:=84) (zp:=.agg [.int .i64 0,.int .i64 0]) (n0:=1) (zc:=[.osl 32 []]) (fin:=finR)
  (by kernel_rfl) (by kernel_rfl) (by kernel_rfl) (Nat.le_of_ble_eq_true (by kernel_rfl)) (Nat.le_of_ble_eq_true (by kernel_rfl)) (by kernel_rfl) (by kernel_rfl) (fun s=>by kernel_rfl) (by kernel_rfl) (fun s=>⟨rfl,rfl,rfl⟩) (by kernel_rfl)
  (fun t0 c0 t1 x1 t2 x2 x y hl=>match c0,hl with | [c0],_=>runsR t0 t1 t2 c0 x1 x2 x y)
  fltU fltZ (fun e xs=>by simp) (by kernel_rfl) finR_pure resR ev hev args bx cr bx' hrun
theorem soundE (ev:Code->St->Option (Ex×St)) (hev:CodeSound CC false ev) (args:List PV) (bx:List PBox) (cr:CR) (bx':List PBox) (hrun:runCat catE ev args bx=some (cr,bx')) :
 HasBody CC.P 22∧((∀ p ∈ args,∀ t xs,p≠.osl t xs)->∀ (B:Nat) (T:Nat->Prop) (S:Store) (M:List Nat) (vs:List Value) (w:World),HSim CC B T S M bx w->RepL S M args vs ->
  Calls CC.P 22 vs.toArray w fun e w'=>∃ S' M',HSim CC B T S' M' bx' w'∧Grows B T S w S' w'∧M <+: M'∧Outcome S' M' cr e):=
 catcher_sound (C:=CC) (fn:=Tryz.f22) (code:=part' [1,1] (Tryz.f22.body.getD .skip)) (i0:=0) (i1:=1) (opsA:=(opsOf (fpart Tryz.f22 [0]))) (opsB:=(opsOf (fpart Tryz.f22 [1,0]))) (g:=47) (gn:=Tryz.f47) (envA:=envR)
  (bx0:=[.cells 29 zeroE,.cells 3 [.int .i64 0],.cells 35 [.int .i64 0]])
  (ty6:=((opsOf (fpart Tryz.f22 [1,0])).getD 0 default).type) (tyd:=((opsOf (fpart Tryz.f22 [1,0])).getD 1 default).type) (p6:=((opsOf (fpart Tryz.f22 [1,0])).getD 0 default).pos) (pd:=((opsOf (fpart Tryz.f22 [1,0])).getD 1 default).pos) (af6:=((opsOf (fpart Tryz.f22 [1,0])).getD 0 default).after) (afd:=((opsOf (fpart Tryz.f22 [1,0])).getD 1 default).after)
  (TI:=20) (TF:=84) (zp:=.agg [.int .i64 0,.int .i64 0]) (n0:=11) (zc:=zeroE) (fin:=finE)
  (by kernel_rfl) (by kernel_rfl) (by kernel_rfl) (Nat.le_of_ble_eq_true (by kernel_rfl)) (Nat.le_of_ble_eq_true (by kernel_rfl)) (by kernel_rfl) (by kernel_rfl) (fun s=>by kernel_rfl) (by kernel_rfl) (fun s=>⟨rfl,rfl,rfl⟩) (by kernel_rfl)
  (fun t0 c0 t1 x1 t2 x2 x y hl=>match c0,hl with | [c0,c1,c2,c3,c4,c5,c6,c7,c8,c9,c10],_=>runsE t0 t1 t2 c0 c1 c2 c3 c4 c5 c6 c7 c8 c9 c10 x1 x2 x y)
  fltU fltZ (fun e xs=>by simp) (by kernel_rfl) finE_pure resE ev hev args bx cr bx' hrun
theorem catSound:CatSound CC:=by
 intro f k hk ev hev args bx cr bx' hrun
 have h:catCC f=some k:=hk
 unfold catCC at h
 split at h
 · rename_i hf
   subst hf
   injection h with h
   subst h
   exact soundR ev hev args bx cr bx' hrun
 · split at h
   · rename_i hf
     subst hf
     injection h with h
     subst h
     exact soundE ev hev args bx cr bx' hrun
   · cases h
end Go.HH
namespace Go.HH
open Go Go.Proofs
set_option maxRecDepth 100000
set_option maxHeartbeats 4000000
set_option linter.unusedSimpArgs false
set_option linter.unusedVariables false
theorem okB_spare:fnOKB CC Tryz.f57 (Tryz.f57.body.getD .skip)=true:=by kernel_rfl
theorem noB_spare:fnOK CC Tryz.f57 (Tryz.f57.body.getD .skip)=false:=by kernel_rfl
theorem nP1 (st:St):normP (some (.normal,st))=some (.normal,st):=rfl
theorem no_spare:drawOK CC (opsOf (fpart Tryz.f57 [1,1,0,1,0,1,1,1,1,1,0]))=false:=by kernel_rfl
theorem fat_spare:CC.P.funcs[57]?=some Tryz.f57:=by kernel_rfl
theorem setT_comm:∀ (e:List PV) (i j:Nat) (a b:PV),i≠j->setT (setT e i a) j b=setT (setT e j b) i a
 | [],0,0,_,_,h=>absurd rfl h
 | [],0,j+1,a,b,_=>by simp [setT]
 | [],i+1,0,a,b,_=>by simp [setT]
 | [],i+1,j+1,a,b,h=>by
  have:=setT_comm [] i j a b (by omega)
  simp [setT,this]
 | _ :: _,0,0,_,_,h=>absurd rfl h
 | _ :: _,0,j+1,_,_,_=>by simp [setT]
 | _ :: _,i+1,0,_,_,_=>by simp [setT]
 | x :: r,i+1,j+1,a,b,h=>by
  have:=setT_comm r i j a b (by omega)
  simp [setT,this]
theorem ordSP:orders (opsOf (fpart Tryz.f57 [1,1,0,1,0,1,1,1,1,1,0]))=[[0,1,2,3,4,5,6,7],[0,1,2,4,3,5,6,7],[0,1,2,4,5,3,6,7],[0,1,4,2,3,5,6,7],[0,1,4,2,5,3,6,7],[0,1,4,5,2,3,6,7],[0,2,1,3,4,5,6,7],[0,2,1,4,3,5,6,7],[0,2,1,4,5,3,6,7],[0,2,3,1,4,5,6,7],[2,0,1,3,4,5,6,7],[2,0,1,4,3,5,6,7],[2,0,1,4,5,3,6,7],[2,0,3,1,4,5,6,7],[2,3,0,1,4,5,6,7]]:=by kernel_rfl
theorem draw_SP (k n m:Int) (d:Int) (c a:List UInt8) (d':Int) (c' a' nm:List UInt8) (e:List PV) (h1:getT e 1=.bp 0 0) (h3:getT e 3=.bp 1 0) :
 drawAll CC (callL CC) (opsOf (fpart Tryz.f57 [1,1,0,1,0,1,1,1,1,1,0])) ⟨e,[.cells 58 [.int .i64 k,.int .i64 d,.str c,.str a,.int .i64 d',.str c',.str a',.str nm,.int .i64 n,.int .i64 m],.cells 58 [.int .i64 k,.int .i64 0,.str [],.str [],.int .i64 0,.str [],.str [],.str [],.int .i64 0,.int .i64 0]]⟩ =
  some (.normal,⟨setT (setT (setT (setT (setT (setT e 21 (.bp 0 8)) 22 (.int .i64 n)) 23 (.bp 0 9)) 24 (.int .i64 m)) 25 (.bp 1 8)) 26 (.bp 1 9),[.cells 58 [.int .i64 k,.int .i64 d,.str c,.str a,.int .i64 d',.str c',.str a',.str nm,.int .i64 n,.int .i64 m],.cells 58 [.int .i64 k,.int .i64 0,.str [],.str [],.int .i64 0,.str [],.str [],.str [],.int .i64 n,.int .i64 m]]⟩):=by
 refine drawAll_iff.2 ⟨by rw [ordSP];simp,fun l hl=>?_⟩
 rw [ordSP] at hl
 obtain ⟨dr,ev,eo,so,co,⟨hev,hco,heo,hdr⟩,R⟩:=RULESB CC
 rw [<- heo]
 simp only [List.mem_cons,List.not_mem_nil,or_false] at hl
 rcases hl with rfl | rfl | rfl | rfl | rfl | rfl | rfl | rfl | rfl | rfl | rfl | rfl | rfl | rfl | rfl
 all_goals
  simp only [opsOf,fpart,part',Tryz.f57,Option.getD,pickOps,List.filterMap_cons,List.filterMap_nil,List.getElem?_toArray,List.getElem?_cons_succ,List.getElem?_cons_zero]
  simp only [S9,R,seval,List.set_cons_zero,List.set_cons_succ,h1,h3,nP1]
  repeat (first | rw [setT_comm _ 26 25 _ _ (by decide)] | rw [setT_comm _ 26 24 _ _ (by decide)] | rw [setT_comm _ 26 23 _ _ (by decide)] | rw [setT_comm _ 26 22 _ _ (by decide)] | rw [setT_comm _ 26 21 _ _ (by decide)] | rw [setT_comm _ 25 24 _ _ (by decide)] | rw [setT_comm _ 25 23 _ _ (by decide)] | rw [setT_comm _ 25 22 _ _ (by decide)] | rw [setT_comm _ 25 21 _ _ (by decide)] | rw [setT_comm _ 24 23 _ _ (by decide)] | rw [setT_comm _ 24 22 _ _ (by decide)] | rw [setT_comm _ 24 21 _ _ (by decide)] | rw [setT_comm _ 23 22 _ _ (by decide)] | rw [setT_comm _ 23 21 _ _ (by decide)] | rw [setT_comm _ 22 21 _ _ (by decide)])
def and3 (x y:Option Bool):Option Bool:=match x with
 | some true=>y
 | o=>o
theorem and2_some (x y:Bool):and2 x (some y)=some (x && y):=by cases x <;> rfl
theorem and3_some (x y:Bool):and3 (some x) (some y)=some (x && y):=by cases x <;> rfl
theorem eqTP (k k2 n n2 m m2 d d2 e e2:Int) (c a f g nm c2 a2 f2 g2 nm2:List UInt8) :
 eqP CC 100 58 (.agg [.int .i64 k,.int .i64 d,.str c,.str a,.int .i64 e,.str f,.str g,.str nm,.int .i64 n,.int .i64 m]) (.agg [.int .i64 k2,.int .i64 d2,.str c2,.str a2,.int .i64 e2,.str f2,.str g2,.str nm2,.int .i64 n2,.int .i64 m2]) =
  some ((k == k2) && (eqKy (d,c,a) (d2,c2,a2) && (eqKy (e,f,g) (e2,f2,g2) && ((nm == nm2) && ((n == n2) && (m == m2)))))):=by
 have h:eqP CC 100 58 (.agg [.int .i64 k,.int .i64 d,.str c,.str a,.int .i64 e,.str f,.str g,.str nm,.int .i64 n,.int .i64 m]) (.agg [.int .i64 k2,.int .i64 d2,.str c2,.str a2,.int .i64 e2,.str f2,.str g2,.str nm2,.int .i64 n2,.int .i64 m2]) =
  and2 (k == k2) (and3 (and2 (d == d2) (and2 (c == c2) (and2 (a == a2) (some true)))) (and3 (and2 (e == e2) (and2 (f == f2) (and2 (g == g2) (some true)))) (and2 (nm == nm2) (and2 (n == n2) (and2 (m == m2) (some true)))))):=by kernel_rfl
 rw [h]
 simp only [and2_some,and3_some,Bool.and_true,eqKy,Bool.and_assoc]
theorem eqgT:CC.P.eqGuardType CC.P.depth 58=false:=by kernel_rfl
theorem buildTg (k:Int):buildP CC 58 [(0,.int .i64 k)]=some (.agg [.int .i64 k,.int .i64 0,.str [],.str [],.int .i64 0,.str [],.str [],.str [],.int .i64 0,.int .i64 0]):=by kernel_rfl
theorem eqKy_refl (v:Ky):eqKy v v=true:=by simp [eqKy]
theorem eqKy_comm (v w:Ky):eqKy v w=eqKy w v:=by
 unfold eqKy
 rw [BEq.comm (a:=v.1),BEq.comm (a:=v.2.1),BEq.comm (a:=v.2.2)]
def spR (k:Int) (key ev:Ky) (nm:List UInt8) (n m:Int) (key1 ev1:Ky) (nm1:List UInt8) (n1 m1:Int):Bool:=(k == k) && (eqKy key1 key && (eqKy ev1 ev && ((nm1 == nm) && ((n1 == n) && (m1 == m)))))
theorem spR_ts (k:Int) (key ev:Ky) (nm:List UInt8) (n m:Int) :
 spR k key ev nm n m (if k=1 then key else (0,[],[])) (if k=2 then ev else (0,[],[])) (if k=4 then nm else []) (if k=3∨k=6 then n else 0) (if k=3 then m else 0)=!(tsT ⟨k,key,ev,nm,n,m⟩):=by
 unfold spR tsT tsB
 simp only [beq_self_eq_true,Bool.true_and]
 rw [eqKy_comm _ key,eqKy_comm _ ev]
 have en:∀ x:Int,(0 == x)=!(x != 0):=fun x=>by simp [bne,BEq.comm (a:=(0:Int))]
 have es:([] == nm)=(nm == []):=BEq.comm
 by_cases k1:k=1
 · subst k1;simp [eqKy_refl,en,es,Bool.and_assoc]
 by_cases k2:k=2
 · subst k2;simp [eqKy_refl,en,es,Bool.and_assoc]
 by_cases k3:k=3
 · subst k3;simp [eqKy_refl,en,es,Bool.and_assoc]
 by_cases k4:k=4
 · subst k4;simp [eqKy_refl,en,es,Bool.and_assoc]
 by_cases k6:k=6
 · subst k6;simp [eqKy_refl,en,es,Bool.and_assoc]
 have p1:(k == 1)=false:=by simpa using k1
 have p2:(k == 2)=false:=by simpa using k2
 have p3:(k == 3)=false:=by simpa using k3
 have p4:(k == 4)=false:=by simpa using k4
 have p6:(k == 6)=false:=by simpa using k6
 simp [k1,k2,k3,k4,k6,p1,p2,p3,p4,p6,en,es,Bool.and_assoc]
theorem call_print_spare (t:Tg):∃ bx,callL CC 57 [tgV t] []=some (.ret (.bool (!(tsT t))),bx):=by
 obtain ⟨k,key,ev,nm,n,m⟩:=t
 rw [<- spR_ts]
 obtain ⟨d,c,a⟩:=key
 obtain ⟨d',c',a'⟩:=ev
 unfold tgV spR
 simp only
 rw [callL_enterB (fn:=Tryz.f57) (c:=Tryz.f57.body.getD .skip) rfl rfl fat_spare rfl noB_spare okB_spare (Nat.le_of_ble_eq_true rfl)]
 have hdw:=draw_SP k n m d c a d' c' a' nm
 simp only [<- drawM_all no_spare] at hdw
 by_cases k1:k=1
 · subst k1
   obtain ⟨dr,ev,eo,so,co,⟨hev,hco,heo,hdr⟩,R⟩:=RULESB CC;rw [<- hev]
   simp only [fpart,part',Tryz.f57,Option.getD]
   simp only [S9,R,seval,eqTP,eqgT,buildTg,TGf,List.set_cons_zero,List.set_cons_succ]
   exact ⟨_,rfl⟩
 by_cases k2:k=2
 · subst k2
   obtain ⟨dr,ev,eo,so,co,⟨hev,hco,heo,hdr⟩,R⟩:=RULESB CC;rw [<- hev]
   simp only [fpart,part',Tryz.f57,Option.getD]
   simp only [S9,R,seval,eqTP,eqgT,buildTg,TGf,List.set_cons_zero,List.set_cons_succ]
   exact ⟨_,rfl⟩
 by_cases k3:k=3
 · subst k3
   obtain ⟨dr,ev,eo,so,co,⟨hev,hco,heo,hdr⟩,R⟩:=RULESB CC;rw [<- hev]
   rw [<- hdr] at hdw
   simp only [opsOf,fpart,part',Tryz.f57,Option.getD] at hdw ⊢
   simp only [S9,R,seval,eqTP,eqgT,buildTg,TGf,List.set_cons_zero,List.set_cons_succ,hdw]
   exact ⟨_,rfl⟩
 by_cases k4:k=4
 · subst k4
   obtain ⟨dr,ev,eo,so,co,⟨hev,hco,heo,hdr⟩,R⟩:=RULESB CC;rw [<- hev]
   simp only [fpart,part',Tryz.f57,Option.getD]
   simp only [S9,R,seval,eqTP,eqgT,buildTg,TGf,List.set_cons_zero,List.set_cons_succ]
   exact ⟨_,rfl⟩
 by_cases k6:k=6
 · subst k6
   obtain ⟨dr,ev,eo,so,co,⟨hev,hco,heo,hdr⟩,R⟩:=RULESB CC;rw [<- hev]
   simp only [fpart,part',Tryz.f57,Option.getD]
   simp only [S9,R,seval,eqTP,eqgT,buildTg,TGf,List.set_cons_zero,List.set_cons_succ]
   exact ⟨_,rfl⟩
 have p1:(k == 1)=false:=by simpa using k1
 have p2:(k == 2)=false:=by simpa using k2
 have p3:(k == 3)=false:=by simpa using k3
 have p4:(k == 4)=false:=by simpa using k4
 have p6:(k == 6)=false:=by simpa using k6
 rw [if_neg k1,if_neg k2,if_neg k4,if_neg (by omega),if_neg k3]
 obtain ⟨dr,ev,eo,so,co,⟨hev,hco,heo,hdr⟩,R⟩:=RULESB CC;rw [<- hev]
 simp only [fpart,part',Tryz.f57,Option.getD]
 simp only [S9,R,seval,eqTP,eqgT,buildTg,TGf,List.set_cons_zero,List.set_cons_succ,p1,p2,p3,p4,p6]
 exact ⟨_,rfl⟩
theorem op_print_spare (t:Tg) (bx):callOp CC (callL CC) 57 [tgV t] bx=some (.ret (.bool (!(tsT t))),bx):=by
 obtain ⟨b,h⟩:=call_print_spare t
 exact callOp_of rfl (by simp only [pureL_cons,tgV_pure,pureL_nil,Bool.and_self]) h rfl
theorem op_print_trigger (t:Tg) (hp:plTg t=true) (bx):callOp CC (callL CC) 30 [tgV t] bx=some (.ret (.int .i64 (tgE t)),bx):=by
 obtain ⟨b,h⟩:=call_print_trigger op_print_spare t hp
 exact callOp_of rfl (by simp only [pureL_cons,tgV_pure,pureL_nil,Bool.and_self]) h rfl
theorem op_print_CheckRl (r:Rl) (hp:plRl r=true) (bx):callOp CC (callL CC) 11 [rlV r] bx=some (.ret (.int .i64 (rlE r)),bx):=by
 obtain ⟨b,h⟩:=call_print_Check (fun t ht=>op_print_trigger t ht) r hp
 exact callOp_of rfl (by simp only [pureL_cons,rlV_pure,pureL_nil,Bool.and_self]) h rfl
end Go.HH

namespace Go.HH
open Go Go.Proofs
set_option maxRecDepth 100000
set_option linter.unusedSimpArgs false
set_option linter.unusedVariables false
def evS (t:Tg):List UInt8:=
 if t.k=1 then cat [99,104,97,110,103,101,32] (dotT t.key.1 t.key.2.1 t.key.2.2) else if t.k=2 then cat [101,118,101,110,116,32] (dotT t.ev.1 t.ev.2.1 t.ev.2.2) else
 if t.k=3 then (if t.m=127 then cat [116,105,109,101,32] (clkT t.n.toNat) else cat (cat (cat [116,105,109,101,32] (clkT t.n.toNat)) [32]) (dayN t.m.toNat)) else
 if t.k=4 then (if t.nm=[] then [109,111,100,101] else cat [109,111,100,101,32] t.nm) else if t.k=5 then [115,116,97,114,116] else cat [104,111,108,100,32] (Lib.itoa t.n)
def acS (s:Sp):List UInt8:=
 if s.k=1 then cat (cat (cat [115,101,116,32] (dotT s.key.1 s.key.2.1 s.key.2.2)) [32,61,32]) (kdS (an s.ex) 0) else
 if s.k=2 then (if nnB s.ex=true then cat [99,97,108,108,32] (dotT s.key.1 s.key.2.1 s.nm) else cat (cat (cat (cat [99,97,108,108,32] (dotT s.key.1 s.key.2.1 s.nm)) [40]) (kdS (an s.ex) 0)) [41]) else
 if s.k=3 then cat [115,99,101,110,101,32] s.nm else if s.k=4 then cat [109,111,100,101,32] s.nm else cat [110,111,116,105,102,121,32] (quoteL s.nm)
def hdS (r:Rl):List UInt8:=cat (cat (cat (cat [114,117,108,101,32] r.nm) [32,112,114,105,111,114,105,116,121,32]) (Lib.itoa r.pr)) [32,123,10]
def onS (t:Tg):List UInt8:=cat (cat [32,32,111,110,32] (evS t)) [59,10]
def ifS (t:Tr):List UInt8:=cat (cat [32,32,105,102,32] (kdS (an t) 0)) [59,10]
def doS (s:Sp):List UInt8:=cat (cat [32,32,100,111,32] (acS s)) [59,10]
def yesB (t:Tr):Bool:=smB t 1 0 0 [] (1,1,[]) (0,[],[])
def rlS (r:Rl):List UInt8:=hdS r++r.on.flatMap onS++(if yesB r.ife=true then [] else ifS r.ife)++r.dos.flatMap doS++[125,10]
theorem fsE_all {α:Type} {f:α->Int}:∀ {l:List α},fsE f l=0->∀ x ∈ l,f x=0
 | [],_,x,hx=>by simp at hx
 | y :: r,h,x,hx=>by
  unfold fsE at h
  split at h
  · rename_i hh;exact absurd h hh
  · rename_i hh
    rcases List.mem_cons.1 hx with rfl | hx
    · omega
    · exact fsE_all h x hx
theorem rlE_parts {r:Rl} (h:rlE r=0):valB r.nm=true∧0<=r.pr∧r.pr<=100∧(∀ t ∈ r.on,tgE t=0)∧ckT r.ife=0∧∀ s ∈ r.dos,spE s=0:=by
 unfold rlE at h
 split at h
 · omega
 rename_i h0
 split at h
 · omega
 split at h
 · omega
 split at h
 · rename_i hh;exact absurd h hh
 rename_i h3
 split at h
 · rename_i hh;exact absurd h hh
 rename_i h4
 exact ⟨by simpa using h0,by omega,by omega,fsE_all (by omega),by omega,fsE_all h⟩
end Go.HH
namespace Go.HH
open Go Go.Proofs
set_option maxRecDepth 100000
set_option maxHeartbeats 4000000
set_option linter.unusedSimpArgs false
set_option linter.unusedVariables false
theorem ok_print_event:fnOK CC Tryz.f84 (Tryz.f84.body.getD .skip)=true:=by kernel_rfl
theorem fat_print_event:CC.P.funcs[84]?=some Tryz.f84:=by kernel_rfl
theorem ok_print_action:fnOK CC Tryz.f86 (Tryz.f86.body.getD .skip)=true:=by kernel_rfl
theorem fat_print_action:CC.P.funcs[86]?=some Tryz.f86:=by kernel_rfl
theorem nmE_in {n:Int} {a b:List UInt8} (h:nmE n a b=0):inI n:=by
 unfold nmE at h
 split at h
 · omega
 · rename_i hd
   have hd:dvB n=true:=by simpa using hd
   unfold dvB at hd
   have hd:=of_decide_eq_true hd
   exact ⟨by omega,by omega⟩
theorem quote_len (s:List UInt8):(quoteL s).length<=4 * s.length+2:=by
 have:=flat_le s
 rw [quoteL_length]
 omega
theorem dot_len {d:Int} {a b:List UInt8} (h:inI d):(dotT d a b).length<=23+a.length+b.length:=by
 have:=itoa_length h
 unfold dotT
 simp only [cat_len,List.length_singleton]
 omega
theorem clk_len (n:Nat):(clkT n).length=5:=rfl
theorem day_lenF:∀ n:_root_.Fin 128,(dayN n.val).length<=100:=by decide +kernel
theorem day_len {n:Nat} (h:n < 128):(dayN n).length<=100:=day_lenF ⟨n,h⟩
theorem tgE_parts {t:Tg} (h:tgE t=0):(1<=t.k∧t.k<=6)∧(t.k=1->inI t.key.1)∧(t.k=2->inI t.ev.1)∧(t.k=3->0<=t.n∧t.n < 1440∧1<=t.m∧t.m<=127)∧(t.k=6->inI t.n):=by
 unfold tgE at h
 split at h
 · omega
 split at h
 · omega
 refine ⟨by omega,fun k=>?_,fun k=>?_,fun k=>?_,fun k=>?_⟩
 · rw [if_pos k] at h
   exact nmE_in h
 · rw [if_neg (by omega),if_pos k] at h
   exact nmE_in h
 · rw [if_neg (by omega),if_neg (by omega),if_pos k] at h
   split at h <;> omega
 · rw [if_neg (by omega),if_neg (by omega),if_neg (by omega),if_neg (by omega),if_pos k] at h
   split at h
   · exact ⟨by omega,by omega⟩
   · omega
theorem call_event (t:Tg) (hp:plTg t=true) (h:tgE t=0):∃ bx,callL CC 84 [tgV t] []=some (.ret (.str (evS t)),bx):=by
 obtain ⟨l1,l2,l3,l4,l5⟩:=plTg_len hp
 obtain ⟨g0,g1,g2,g3,g6⟩:=tgE_parts h
 clear h hp
 unfold evS
 obtain ⟨k,key,ev,nm,n,m⟩:=t
 obtain ⟨d,c,a⟩:=key
 obtain ⟨d',c',a'⟩:=ev
 simp only at l1 l2 l3 l4 l5 g0 g1 g2 g3 g6 ⊢
 unfold tgV
 simp only
 rw [callL_enter (fn:=Tryz.f84) (c:=Tryz.f84.body.getD .skip) rfl rfl fat_print_event rfl ok_print_event (Nat.le_of_ble_eq_true rfl)]
 by_cases k1:k=1
 · have o:=op_dotted d c a (g1 k1) (by omega) (by omega)
   have cA:=catA (a:=[99,104,97,110,103,101,32]) (b:=dotT d c a) (by have:=dot_len (a:=c) (b:=a) (g1 k1);simp only [List.length_cons,List.length_nil];omega)
   subst k1
   rw [if_pos rfl]
   generalize dotT d c a=s at *
   clear g0 g1 g2 g3 g6
   obtain ⟨ev,eo,so,co,⟨hev,hco⟩,R⟩:=RULES CC;rw [<- hev]
   rw [<- hco] at o
   simp only [fpart,part',Tryz.f84,Option.getD]
   simp only [S8,R,SG,seval,UT,SC,o,cA]
   exact ⟨_,rfl⟩
 rw [if_neg k1]
 by_cases k2:k=2
 · have o:=op_dotted d' c' a' (g2 k2) (by omega) (by omega)
   have cA:=catA (a:=[101,118,101,110,116,32]) (b:=dotT d' c' a') (by have:=dot_len (a:=c') (b:=a') (g2 k2);simp only [List.length_cons,List.length_nil];omega)
   subst k2
   rw [if_pos rfl]
   generalize dotT d' c' a'=s at *
   clear g0 g1 g2 g3 g6
   obtain ⟨ev,eo,so,co,⟨hev,hco⟩,R⟩:=RULES CC;rw [<- hev]
   rw [<- hco] at o
   simp only [fpart,part',Tryz.f84,Option.getD]
   simp only [S8,R,SG,seval,UT,SC,o,cA]
   exact ⟨_,rfl⟩
 rw [if_neg k2]
 by_cases k3:k=3
 · obtain ⟨q1,q2,q3,q4⟩:=g3 k3
   have o:=op_clock n ⟨q1,q2⟩
   have o2:=op_days m ⟨q3,q4⟩
   have cA:=catA (a:=[116,105,109,101,32]) (b:=clkT n.toNat) (by rw [clk_len];simp only [List.length_cons,List.length_nil];omega)
   have cB:=catA (a:=cat [116,105,109,101,32] (clkT n.toNat)) (b:=[32]) (by rw [cat_len,clk_len];simp only [List.length_cons,List.length_nil];omega)
   have cC:=catA (a:=cat (cat [116,105,109,101,32] (clkT n.toNat)) [32]) (b:=dayN m.toNat) (by have:=day_len (n:=m.toNat) (by omega);rw [cat_len,cat_len,clk_len];simp only [List.length_cons,List.length_nil];omega)
   subst k3
   rw [if_pos rfl]
   generalize clkT n.toNat=s at *
   generalize dayN m.toNat=w at *
   clear g0 g1 g2 g3 g6
   by_cases km:m=127
   · rw [if_pos km]
     subst km
     obtain ⟨ev,eo,so,co,⟨hev,hco⟩,R⟩:=RULES CC;rw [<- hev]
     rw [<- hco] at o o2
     simp only [fpart,part',Tryz.f84,Option.getD]
     simp only [S8,R,SG,seval,UT,SC,o,cA]
     exact ⟨_,rfl⟩
   · rw [if_neg km]
     have kmp:(m == 127)=false:=by simpa using km
     obtain ⟨ev,eo,so,co,⟨hev,hco⟩,R⟩:=RULES CC;rw [<- hev]
     rw [<- hco] at o o2
     simp only [fpart,part',Tryz.f84,Option.getD]
     simp only [S8,R,SG,seval,UT,SC,o,o2,cA,cB,cC,kmp]
     exact ⟨_,rfl⟩
 rw [if_neg k3]
 by_cases k4:k=4
 · have cA:=catA (a:=[109,111,100,101,32]) (b:=nm) (by simp only [List.length_cons,List.length_nil];omega)
   have he:strP .eql nm []=some (.bool (nm == [])):=rfl
   subst k4
   rw [if_pos rfl]
   clear g0 g1 g2 g3 g6
   by_cases kn:nm=[]
   · rw [if_pos kn]
     have hb:(nm == [])=true:=by rw [kn];rfl
     rw [hb] at he
     obtain ⟨ev,eo,so,co,⟨hev,hco⟩,R⟩:=RULES CC;rw [<- hev]
     simp only [fpart,part',Tryz.f84,Option.getD]
     simp only [S8,R,SG,seval,UT,SC,he]
     exact ⟨_,rfl⟩
   · rw [if_neg kn]
     have hb:(nm == [])=false:=by simpa using kn
     rw [hb] at he
     obtain ⟨ev,eo,so,co,⟨hev,hco⟩,R⟩:=RULES CC;rw [<- hev]
     simp only [fpart,part',Tryz.f84,Option.getD]
     simp only [S8,R,SG,seval,UT,SC,he,cA]
     exact ⟨_,rfl⟩
 rw [if_neg k4]
 by_cases k5:k=5
 · subst k5
   rw [if_pos rfl]
   clear g0 g1 g2 g3 g6
   obtain ⟨ev,eo,so,co,⟨hev,hco⟩,R⟩:=RULES CC;rw [<- hev]
   simp only [fpart,part',Tryz.f84,Option.getD]
   simp only [S8,R,SG,seval,UT,SC]
   exact ⟨_,rfl⟩
 rw [if_neg k5]
 have k6:k=6:=by omega
 have o:=op_num_Digits n (g6 k6)
 have cA:=catA (a:=[104,111,108,100,32]) (b:=Lib.itoa n) (by have:=itoa_length (g6 k6);simp only [List.length_cons,List.length_nil];omega)
 subst k6
 generalize Lib.itoa n=s at *
 clear g0 g1 g2 g3 g6
 obtain ⟨ev,eo,so,co,⟨hev,hco⟩,R⟩:=RULES CC;rw [<- hev]
 rw [<- hco] at o
 simp only [fpart,part',Tryz.f84,Option.getD]
 simp only [S8,R,SG,seval,UT,SC,o,cA]
 exact ⟨_,rfl⟩
theorem op_event (t:Tg) (hp:plTg t=true) (h:tgE t=0) (bx):callOp CC (callL CC) 84 [tgV t] bx=some (.ret (.str (evS t)),bx):=by
 obtain ⟨b,hc⟩:=call_event t hp h
 exact callOp_of rfl rfl hc rfl
theorem spE_parts {s:Sp} (h:spE s=0):(1<=s.k∧s.k<=5)∧(s.k=1->inI s.key.1∧ckT s.ex=0)∧(s.k=2->inI s.key.1∧(nnB s.ex=false->ckT s.ex=0)):=by
 unfold spE at h
 split at h
 · rename_i k1
   refine ⟨by omega,fun _=>?_,fun k=>by omega⟩
   split at h
   · omega
   split at h
   · rename_i hh;exact absurd h hh
   · rename_i hn
     exact ⟨nmE_in (a:=s.key.2.1) (b:=s.key.2.2) (by omega),h⟩
 split at h
 · rename_i k2
   refine ⟨by omega,fun k=>by omega,fun _=>?_⟩
   split at h
   · omega
   split at h
   · rename_i hh;exact absurd h hh
   · rename_i hn
     refine ⟨nmE_in (a:=s.key.2.1) (b:=s.nm) (by omega),fun hx=>?_⟩
     rw [hx,if_neg (by simp)] at h
     exact h
 split at h
 · refine ⟨by omega,fun k=>by omega,fun k=>by omega⟩
 · omega
theorem TX_len {t:Tr} (hm:0<=mdT t 220 30) (ht:okTr t) (h:ckT t=0):TXc t∧(TX t).length<=140000∧∀ least,(kdS (an t) least).length<=140002:=by
 have hs:=sh_md t 220 30 hm
 have hn:=nd_220 hm
 have h1:=(tx_ok t (ck_v h) hs ht (by omega)).1
 have h2:(TX t).length<=140000:=by
  have:=an_len t (ck_v h) hs ht
  omega
 refine ⟨h1,h2,fun least=>?_⟩
 have:=kdS_len (an t) least
 have e:TX t=(an t).s:=rfl
 rw [e] at h2
 omega
theorem call_action (s:Sp) (hp:plSp s=true) (ho:okTr s.ex) (h:spE s=0):∃ bx,callL CC 86 [spV s] []=some (.ret (.str (acS s)),bx):=by
 obtain ⟨l1,l2,l3,l4⟩:=plSp_len hp
 obtain ⟨g0,g1,g2⟩:=spE_parts h
 have hk:ckT s.ex=0->(∀ bx,callOp CC (callL CC) 69 [trV s.ex,.int .i64 0] bx=some (.ret (.str (kdS (an s.ex) 0)),bx))∧(kdS (an s.ex) 0).length<=140002:=fun hc=>by
  obtain ⟨t1,t2,t3⟩:=TX_len l4 ho hc
  exact ⟨fun bx=>op_kid s.ex t1 (by omega) 0 bx,t3 0⟩
 have onn:=op_print_none s.ex
 clear h hp
 unfold acS
 obtain ⟨k,key,nm,ex⟩:=s
 obtain ⟨d,c,a⟩:=key
 simp only at l1 l2 l3 g0 g1 g2 hk onn ⊢
 generalize nnB ex=nn at *
 generalize ckT ex=ck at *
 generalize kdS (an ex) 0=x at *
 clear l4 ho
 unfold spV trC
 obtain ⟨zk,zn,zm,znm,zv,zkey,zkids⟩:=ex
 unfold trV at onn hk ⊢
 have hpz:=trVs_pure zkids
 generalize trVs zkids=zs at *
 simp only [SA,List.cons_append,List.nil_append] at onn hk ⊢
 rw [callL_enter (fn:=Tryz.f86) (c:=Tryz.f86.body.getD .skip) rfl rfl fat_print_action rfl ok_print_action (Nat.le_of_ble_eq_true rfl)]
 by_cases k1:k=1
 · obtain ⟨hi,hc⟩:=g1 k1
   obtain ⟨o1,lx⟩:=hk hc
   have o:=op_dotted d c a hi (by omega) (by omega)
   have hl:=dot_len (a:=c) (b:=a) hi
   generalize dotT d c a=w at *
   have cA:=catA (a:=[115,101,116,32]) (b:=w) (by simp only [List.length_cons,List.length_nil];omega)
   have cB:=catA (a:=cat [115,101,116,32] w) (b:=[32,61,32]) (by rw [cat_len];simp only [List.length_cons,List.length_nil];omega)
   have cC:=catA (a:=cat (cat [115,101,116,32] w) [32,61,32]) (b:=x) (by rw [cat_len,cat_len];simp only [List.length_cons,List.length_nil];omega)
   subst k1
   rw [if_pos rfl]
   clear g0 g1 g2 hk
   obtain ⟨ev,eo,so,co,⟨hev,hco⟩,R⟩:=RULES CC;rw [<- hev]
   rw [<- hco] at o o1
   simp only [fpart,part',Tryz.f86,Option.getD]
   simp only [S8,R,SG,seval,UT,SC,o,o1,cA,cB,cC,hpz]
   exact ⟨_,rfl⟩
 rw [if_neg k1]
 by_cases k2:k=2
 · obtain ⟨hi,hc⟩:=g2 k2
   have o:=op_dotted d c nm hi (by omega) (by omega)
   have hl:=dot_len (a:=c) (b:=nm) hi
   generalize dotT d c nm=w at *
   have cA:=catA (a:=[99,97,108,108,32]) (b:=w) (by simp only [List.length_cons,List.length_nil];omega)
   subst k2
   rw [if_pos rfl]
   cases nn with
   | true=>
    rw [if_pos rfl]
    clear g0 g1 g2 hk hc
    obtain ⟨ev,eo,so,co,⟨hev,hco⟩,R⟩:=RULES CC;rw [<- hev]
    rw [<- hco] at o onn
    simp only [fpart,part',Tryz.f86,Option.getD]
    simp only [S8,R,SG,seval,UT,SC,o,onn,cA,hpz]
    exact ⟨_,rfl⟩
   | false=>
    rw [if_neg (by simp)]
    obtain ⟨o1,lx⟩:=hk (hc rfl)
    have cB:=catA (a:=cat [99,97,108,108,32] w) (b:=[40]) (by rw [cat_len];simp only [List.length_cons,List.length_nil];omega)
    have cC:=catA (a:=cat (cat [99,97,108,108,32] w) [40]) (b:=x) (by rw [cat_len,cat_len];simp only [List.length_cons,List.length_nil];omega)
    have cD:=catA (a:=cat (cat (cat [99,97,108,108,32] w) [40]) x) (b:=[41]) (by rw [cat_len,cat_len,cat_len];simp only [List.length_cons,List.length_nil];omega)
    clear g0 g1 g2 hk hc
    obtain ⟨ev,eo,so,co,⟨hev,hco⟩,R⟩:=RULES CC;rw [<- hev]
    rw [<- hco] at o onn o1
    simp only [fpart,part',Tryz.f86,Option.getD]
    simp only [S8,R,SG,seval,UT,SC,o,onn,o1,cA,cB,cC,cD,hpz]
    exact ⟨_,rfl⟩
 rw [if_neg k2]
 clear hk onn
 by_cases k3:k=3
 · have cA:=catA (a:=[115,99,101,110,101,32]) (b:=nm) (by simp only [List.length_cons,List.length_nil];omega)
   subst k3
   rw [if_pos rfl]
   clear g0 g1 g2
   obtain ⟨ev,eo,so,co,⟨hev,hco⟩,R⟩:=RULES CC;rw [<- hev]
   simp only [fpart,part',Tryz.f86,Option.getD]
   simp only [S8,R,SG,seval,UT,SC,cA]
   exact ⟨_,rfl⟩
 rw [if_neg k3]
 by_cases k4:k=4
 · have cA:=catA (a:=[109,111,100,101,32]) (b:=nm) (by simp only [List.length_cons,List.length_nil];omega)
   subst k4
   rw [if_pos rfl]
   clear g0 g1 g2
   obtain ⟨ev,eo,so,co,⟨hev,hco⟩,R⟩:=RULES CC;rw [<- hev]
   simp only [fpart,part',Tryz.f86,Option.getD]
   simp only [S8,R,SG,seval,UT,SC,cA]
   exact ⟨_,rfl⟩
 rw [if_neg k4]
 have k5:k=5:=by omega
 have o:=op_names_Quote nm (by omega)
 have cA:=catA (a:=[110,111,116,105,102,121,32]) (b:=quoteL nm) (by have:=quote_len nm;simp only [List.length_cons,List.length_nil];omega)
 subst k5
 generalize quoteL nm=w at *
 clear g0 g1 g2
 obtain ⟨ev,eo,so,co,⟨hev,hco⟩,R⟩:=RULES CC;rw [<- hev]
 rw [<- hco] at o
 simp only [fpart,part',Tryz.f86,Option.getD]
 simp only [S8,R,SG,seval,UT,SC,o,cA]
 exact ⟨_,rfl⟩
theorem op_action (s:Sp) (hp:plSp s=true) (ho:okTr s.ex) (h:spE s=0) (bx):callOp CC (callL CC) 86 [spV s] bx=some (.ret (.str (acS s)),bx):=by
 obtain ⟨b,hc⟩:=call_action s hp ho h
 exact callOp_of rfl (by simp only [pureL_cons,spV_pure,pureL_nil,Bool.and_self]) hc rfl
theorem hd_len {r:Rl} (h:r.nm.length<=100) (h2:inI r.pr):(hdS r).length<=200:=by
 have:=itoa_length h2
 unfold hdS
 simp only [cat_len,List.length_cons,List.length_nil]
 omega
theorem ev_len {t:Tg} (hp:plTg t=true) (h:tgE t=0):(evS t).length<=1000:=by
 obtain ⟨l1,l2,l3,l4,l5⟩:=plTg_len hp
 obtain ⟨g0,g1,g2,g3,g6⟩:=tgE_parts h
 unfold evS
 split
 · rename_i k
   have:=dot_len (a:=t.key.2.1) (b:=t.key.2.2) (g1 k)
   simp only [cat_len,List.length_cons,List.length_nil]
   omega
 split
 · rename_i k
   have:=dot_len (a:=t.ev.2.1) (b:=t.ev.2.2) (g2 k)
   simp only [cat_len,List.length_cons,List.length_nil]
   omega
 split
 · rename_i k
   have:=g3 k
   have:=day_len (n:=t.m.toNat) (by omega)
   split
   · simp only [cat_len,clk_len,List.length_cons,List.length_nil]
     omega
   · simp only [cat_len,clk_len,List.length_cons,List.length_nil]
     omega
 split
 · split
   · simp only [List.length_cons,List.length_nil]
     omega
   · simp only [cat_len,List.length_cons,List.length_nil]
     omega
 split
 · simp only [List.length_cons,List.length_nil]
   omega
 · have:=itoa_length (g6 (by omega))
   simp only [cat_len,List.length_cons,List.length_nil]
   omega
theorem ac_len {s:Sp} (hp:plSp s=true) (ho:okTr s.ex) (h:spE s=0):(acS s).length<=141000:=by
 obtain ⟨l1,l2,l3,l4⟩:=plSp_len hp
 obtain ⟨g0,g1,g2⟩:=spE_parts h
 unfold acS
 split
 · rename_i k
   have:=dot_len (a:=s.key.2.1) (b:=s.key.2.2) (g1 k).1
   have:=(TX_len l4 ho (g1 k).2).2.2 0
   simp only [cat_len,List.length_cons,List.length_nil]
   omega
 split
 · rename_i k
   have:=dot_len (a:=s.key.2.1) (b:=s.nm) (g2 k).1
   split
   · simp only [cat_len,List.length_cons,List.length_nil]
     omega
   · rename_i hx
     have:=(TX_len l4 ho ((g2 k).2 (by simpa using hx))).2.2 0
     simp only [cat_len,List.length_cons,List.length_nil]
     omega
 split
 · simp only [cat_len,List.length_cons,List.length_nil]
   omega
 split
 · simp only [cat_len,List.length_cons,List.length_nil]
   omega
 · have:=quote_len s.nm
   simp only [cat_len,List.length_cons,List.length_nil]
   omega
end Go.HH
namespace Go.HH
open Go Go.Proofs
set_option maxRecDepth 100000
set_option maxHeartbeats 4000000
set_option linter.unusedSimpArgs false
set_option linter.unusedVariables false
theorem ok_R30_TriggerText:fnOK CC Tryz.f42 (Tryz.f42.body.getD .skip)=true:=by kernel_rfl
theorem fat_R30_TriggerText:CC.P.funcs[42]?=some Tryz.f42:=by kernel_rfl
theorem ok_R30_StepText:fnOK CC Tryz.f43 (Tryz.f43.body.getD .skip)=true:=by kernel_rfl
theorem fat_R30_StepText:CC.P.funcs[43]?=some Tryz.f43:=by kernel_rfl
theorem LV_nn (t:Tr):0<=LV t:=by
 obtain ⟨k,n,m,nm,v,key,kids⟩:=t
 show 0<=(an (.mk k n m nm v key kids)).lv
 rw [an_eq]
 show 0<=blT k v kids
 unfold blT lvV ngL
 repeat' split
 all_goals omega
theorem kdS0 {t:Tr} (h:ckT t=0):kdS (an t) 0=TX t:=by
 unfold kdS
 rw [if_neg (by have:=LV_nn t;unfold LV at this;omega)]
 rfl
theorem RX_len {t:Tr} (hm:0<=mdT t 220 30) (ht:okTr t) (h:ckT t=0):TRc t∧(TX t).length<=140000∧∀ least,(kdS (an t) least).length<=140002:=
 ⟨(rtx_ok t (ck_v h) (sh_md t 220 30 hm) ht (by have:=nd_220 hm;omega)).1,(TX_len hm ht h).2⟩
theorem call_TriggerText (t:Tg) (hp:plTg t=true) (h:tgE t=0):∃ bx,callL CC 42 [tgV t] []=some (.ret (.str (evS t)),bx):=by
 obtain ⟨l1,l2,l3,l4,l5⟩:=plTg_len hp
 obtain ⟨g0,g1,g2,g3,g6⟩:=tgE_parts h
 clear h hp
 unfold evS
 obtain ⟨k,key,ev,nm,n,m⟩:=t
 obtain ⟨d,c,a⟩:=key
 obtain ⟨d',c',a'⟩:=ev
 simp only at l1 l2 l3 l4 l5 g0 g1 g2 g3 g6 ⊢
 unfold tgV
 simp only
 rw [callL_enter (fn:=Tryz.f42) (c:=Tryz.f42.body.getD .skip) rfl rfl fat_R30_TriggerText rfl ok_R30_TriggerText (Nat.le_of_ble_eq_true rfl)]
 by_cases k1:k=1
 · have o:=op_Path d c a (g1 k1) (by omega) (by omega)
   have cA:=catA (a:=[99,104,97,110,103,101,32]) (b:=dotT d c a) (by have:=dot_len (a:=c) (b:=a) (g1 k1);simp only [List.length_cons,List.length_nil];omega)
   subst k1
   rw [if_pos rfl]
   generalize dotT d c a=s at *
   clear g0 g1 g2 g3 g6
   obtain ⟨ev,eo,so,co,⟨hev,hco⟩,R⟩:=RULES CC;rw [<- hev]
   rw [<- hco] at o
   simp only [fpart,part',Tryz.f42,Option.getD]
   simp only [S8,R,SG,seval,UT,SC,o,cA]
   exact ⟨_,rfl⟩
 rw [if_neg k1]
 by_cases k2:k=2
 · have o:=op_Path d' c' a' (g2 k2) (by omega) (by omega)
   have cA:=catA (a:=[101,118,101,110,116,32]) (b:=dotT d' c' a') (by have:=dot_len (a:=c') (b:=a') (g2 k2);simp only [List.length_cons,List.length_nil];omega)
   subst k2
   rw [if_pos rfl]
   generalize dotT d' c' a'=s at *
   clear g0 g1 g2 g3 g6
   obtain ⟨ev,eo,so,co,⟨hev,hco⟩,R⟩:=RULES CC;rw [<- hev]
   rw [<- hco] at o
   simp only [fpart,part',Tryz.f42,Option.getD]
   simp only [S8,R,SG,seval,UT,SC,o,cA]
   exact ⟨_,rfl⟩
 rw [if_neg k2]
 by_cases k3:k=3
 · obtain ⟨q1,q2,q3,q4⟩:=g3 k3
   have o:=op_Clock n ⟨q1,q2⟩
   have o2:=op_Days m ⟨q3,q4⟩
   have cA:=catA (a:=[116,105,109,101,32]) (b:=clkT n.toNat) (by rw [clk_len];simp only [List.length_cons,List.length_nil];omega)
   have cB:=catA (a:=cat [116,105,109,101,32] (clkT n.toNat)) (b:=[32]) (by rw [cat_len,clk_len];simp only [List.length_cons,List.length_nil];omega)
   have cC:=catA (a:=cat (cat [116,105,109,101,32] (clkT n.toNat)) [32]) (b:=dayN m.toNat) (by have:=day_len (n:=m.toNat) (by omega);rw [cat_len,cat_len,clk_len];simp only [List.length_cons,List.length_nil];omega)
   subst k3
   rw [if_pos rfl]
   generalize clkT n.toNat=s at *
   generalize dayN m.toNat=w at *
   clear g0 g1 g2 g3 g6
   by_cases km:m=127
   · rw [if_pos km]
     subst km
     obtain ⟨ev,eo,so,co,⟨hev,hco⟩,R⟩:=RULES CC;rw [<- hev]
     rw [<- hco] at o o2
     simp only [fpart,part',Tryz.f42,Option.getD]
     simp only [S8,R,SG,seval,UT,SC,o,cA]
     exact ⟨_,rfl⟩
   · rw [if_neg km]
     have kmp:(m == 127)=false:=by simpa using km
     obtain ⟨ev,eo,so,co,⟨hev,hco⟩,R⟩:=RULES CC;rw [<- hev]
     rw [<- hco] at o o2
     simp only [fpart,part',Tryz.f42,Option.getD]
     simp only [S8,R,SG,seval,UT,SC,o,o2,cA,cB,cC,kmp]
     exact ⟨_,rfl⟩
 rw [if_neg k3]
 by_cases k4:k=4
 · have cA:=catA (a:=[109,111,100,101,32]) (b:=nm) (by simp only [List.length_cons,List.length_nil];omega)
   have he:strP .eql nm []=some (.bool (nm == [])):=rfl
   subst k4
   rw [if_pos rfl]
   clear g0 g1 g2 g3 g6
   by_cases kn:nm=[]
   · rw [if_pos kn]
     have hb:(nm == [])=true:=by rw [kn];rfl
     rw [hb] at he
     obtain ⟨ev,eo,so,co,⟨hev,hco⟩,R⟩:=RULES CC;rw [<- hev]
     simp only [fpart,part',Tryz.f42,Option.getD]
     simp only [S8,R,SG,seval,UT,SC,he]
     exact ⟨_,rfl⟩
   · rw [if_neg kn]
     have hb:(nm == [])=false:=by simpa using kn
     rw [hb] at he
     obtain ⟨ev,eo,so,co,⟨hev,hco⟩,R⟩:=RULES CC;rw [<- hev]
     simp only [fpart,part',Tryz.f42,Option.getD]
     simp only [S8,R,SG,seval,UT,SC,he,cA]
     exact ⟨_,rfl⟩
 rw [if_neg k4]
 by_cases k5:k=5
 · subst k5
   rw [if_pos rfl]
   clear g0 g1 g2 g3 g6
   obtain ⟨ev,eo,so,co,⟨hev,hco⟩,R⟩:=RULES CC;rw [<- hev]
   simp only [fpart,part',Tryz.f42,Option.getD]
   simp only [S8,R,SG,seval,UT,SC]
   exact ⟨_,rfl⟩
 rw [if_neg k5]
 have k6:k=6:=by omega
 have o:=op_R01_Digits n (g6 k6)
 have cA:=catA (a:=[104,111,108,100,32]) (b:=Lib.itoa n) (by have:=itoa_length (g6 k6);simp only [List.length_cons,List.length_nil];omega)
 subst k6
 generalize Lib.itoa n=s at *
 clear g0 g1 g2 g3 g6
 obtain ⟨ev,eo,so,co,⟨hev,hco⟩,R⟩:=RULES CC;rw [<- hev]
 rw [<- hco] at o
 simp only [fpart,part',Tryz.f42,Option.getD]
 simp only [S8,R,SG,seval,UT,SC,o,cA]
 exact ⟨_,rfl⟩
theorem op_TriggerText (t:Tg) (hp:plTg t=true) (h:tgE t=0) (bx):callOp CC (callL CC) 42 [tgV t] bx=some (.ret (.str (evS t)),bx):=by
 obtain ⟨b,hc⟩:=call_TriggerText t hp h
 exact callOp_of rfl rfl hc rfl
theorem call_StepText (s:Sp) (hp:plSp s=true) (ho:okTr s.ex) (h:spE s=0):∃ bx,callL CC 43 [spV s] []=some (.ret (.str (acS s)),bx):=by
 obtain ⟨l1,l2,l3,l4⟩:=plSp_len hp
 obtain ⟨g0,g1,g2⟩:=spE_parts h
 have hk:ckT s.ex=0->(∀ bx,callOp CC (callL CC) 38 [trV s.ex] bx=some (.ret (.str (kdS (an s.ex) 0)),bx))∧(kdS (an s.ex) 0).length<=140002:=fun hc=>by
  obtain ⟨t1,t2,t3⟩:=RX_len l4 ho hc
  exact ⟨fun bx=>by rw [kdS0 hc];exact t1 bx,t3 0⟩
 have onn:=op_R30_None s.ex
 clear h hp
 unfold acS
 obtain ⟨k,key,nm,ex⟩:=s
 obtain ⟨d,c,a⟩:=key
 simp only at l1 l2 l3 g0 g1 g2 hk onn ⊢
 generalize nnB ex=nn at *
 generalize ckT ex=ck at *
 generalize kdS (an ex) 0=x at *
 clear l4 ho
 unfold spV trC
 obtain ⟨zk,zn,zm,znm,zv,zkey,zkids⟩:=ex
 unfold trV at onn hk ⊢
 have hpz:=trVs_pure zkids
 generalize trVs zkids=zs at *
 simp only [SA,List.cons_append,List.nil_append] at onn hk ⊢
 rw [callL_enter (fn:=Tryz.f43) (c:=Tryz.f43.body.getD .skip) rfl rfl fat_R30_StepText rfl ok_R30_StepText (Nat.le_of_ble_eq_true rfl)]
 by_cases k1:k=1
 · obtain ⟨hi,hc⟩:=g1 k1
   obtain ⟨o1,lx⟩:=hk hc
   have o:=op_Path d c a hi (by omega) (by omega)
   have hl:=dot_len (a:=c) (b:=a) hi
   generalize dotT d c a=w at *
   have cA:=catA (a:=[115,101,116,32]) (b:=w) (by simp only [List.length_cons,List.length_nil];omega)
   have cB:=catA (a:=cat [115,101,116,32] w) (b:=[32,61,32]) (by rw [cat_len];simp only [List.length_cons,List.length_nil];omega)
   have cC:=catA (a:=cat (cat [115,101,116,32] w) [32,61,32]) (b:=x) (by rw [cat_len,cat_len];simp only [List.length_cons,List.length_nil];omega)
   subst k1
   rw [if_pos rfl]
   clear g0 g1 g2 hk
   obtain ⟨ev,eo,so,co,⟨hev,hco⟩,R⟩:=RULES CC;rw [<- hev]
   rw [<- hco] at o o1
   simp only [fpart,part',Tryz.f43,Option.getD]
   simp only [S8,R,SG,seval,UT,SC,o,o1,cA,cB,cC,hpz]
   exact ⟨_,rfl⟩
 rw [if_neg k1]
 by_cases k2:k=2
 · obtain ⟨hi,hc⟩:=g2 k2
   have o:=op_Path d c nm hi (by omega) (by omega)
   have hl:=dot_len (a:=c) (b:=nm) hi
   generalize dotT d c nm=w at *
   have cA:=catA (a:=[99,97,108,108,32]) (b:=w) (by simp only [List.length_cons,List.length_nil];omega)
   subst k2
   rw [if_pos rfl]
   cases nn with
   | true=>
    rw [if_pos rfl]
    clear g0 g1 g2 hk hc
    obtain ⟨ev,eo,so,co,⟨hev,hco⟩,R⟩:=RULES CC;rw [<- hev]
    rw [<- hco] at o onn
    simp only [fpart,part',Tryz.f43,Option.getD]
    simp only [S8,R,SG,seval,UT,SC,o,onn,cA,hpz]
    exact ⟨_,rfl⟩
   | false=>
    rw [if_neg (by simp)]
    obtain ⟨o1,lx⟩:=hk (hc rfl)
    have cB:=catA (a:=cat [99,97,108,108,32] w) (b:=[40]) (by rw [cat_len];simp only [List.length_cons,List.length_nil];omega)
    have cC:=catA (a:=cat (cat [99,97,108,108,32] w) [40]) (b:=x) (by rw [cat_len,cat_len];simp only [List.length_cons,List.length_nil];omega)
    have cD:=catA (a:=cat (cat (cat [99,97,108,108,32] w) [40]) x) (b:=[41]) (by rw [cat_len,cat_len,cat_len];simp only [List.length_cons,List.length_nil];omega)
    clear g0 g1 g2 hk hc
    obtain ⟨ev,eo,so,co,⟨hev,hco⟩,R⟩:=RULES CC;rw [<- hev]
    rw [<- hco] at o onn o1
    simp only [fpart,part',Tryz.f43,Option.getD]
    simp only [S8,R,SG,seval,UT,SC,o,onn,o1,cA,cB,cC,cD,hpz]
    exact ⟨_,rfl⟩
 rw [if_neg k2]
 clear hk onn
 by_cases k3:k=3
 · have cA:=catA (a:=[115,99,101,110,101,32]) (b:=nm) (by simp only [List.length_cons,List.length_nil];omega)
   subst k3
   rw [if_pos rfl]
   clear g0 g1 g2
   obtain ⟨ev,eo,so,co,⟨hev,hco⟩,R⟩:=RULES CC;rw [<- hev]
   simp only [fpart,part',Tryz.f43,Option.getD]
   simp only [S8,R,SG,seval,UT,SC,cA]
   exact ⟨_,rfl⟩
 rw [if_neg k3]
 by_cases k4:k=4
 · have cA:=catA (a:=[109,111,100,101,32]) (b:=nm) (by simp only [List.length_cons,List.length_nil];omega)
   subst k4
   rw [if_pos rfl]
   clear g0 g1 g2
   obtain ⟨ev,eo,so,co,⟨hev,hco⟩,R⟩:=RULES CC;rw [<- hev]
   simp only [fpart,part',Tryz.f43,Option.getD]
   simp only [S8,R,SG,seval,UT,SC,cA]
   exact ⟨_,rfl⟩
 rw [if_neg k4]
 have k5:k=5:=by omega
 have o:=op_R04_Quote nm (by omega)
 have cA:=catA (a:=[110,111,116,105,102,121,32]) (b:=quoteL nm) (by have:=quote_len nm;simp only [List.length_cons,List.length_nil];omega)
 subst k5
 generalize quoteL nm=w at *
 clear g0 g1 g2
 obtain ⟨ev,eo,so,co,⟨hev,hco⟩,R⟩:=RULES CC;rw [<- hev]
 rw [<- hco] at o
 simp only [fpart,part',Tryz.f43,Option.getD]
 simp only [S8,R,SG,seval,UT,SC,o,cA]
 exact ⟨_,rfl⟩
theorem op_StepText (s:Sp) (hp:plSp s=true) (ho:okTr s.ex) (h:spE s=0) (bx):callOp CC (callL CC) 43 [spV s] bx=some (.ret (.str (acS s)),bx):=by
 obtain ⟨b,hc⟩:=call_StepText s hp ho h
 exact callOp_of rfl (by simp only [pureL_cons,spV_pure,pureL_nil,Bool.and_self]) hc rfl
end Go.HH
namespace Go.HH
open Go Go.Proofs
set_option maxRecDepth 100000
set_option maxHeartbeats 4000000
set_option linter.unusedSimpArgs false
set_option linter.unusedVariables false
theorem ok_print_page_put:fnOK CC Tryz.f40 (Tryz.f40.body.getD .skip)=true:=by kernel_rfl
theorem fat_print_page_put:CC.P.funcs[40]?=some Tryz.f40:=by kernel_rfl
theorem ok_print_write:fnOK CC Tryz.f39 (Tryz.f39.body.getD .skip)=true:=by kernel_rfl
theorem fat_print_write:CC.P.funcs[39]?=some Tryz.f39:=by kernel_rfl
theorem ok_print_Rule:fnOK CC Tryz.f17 (Tryz.f17.body.getD .skip)=true:=by kernel_rfl
theorem fat_print_Rule:CC.P.funcs[17]?=some Tryz.f17:=by kernel_rfl
def PGB (l:List UInt8):PBox:=.cells 72 [bufV l]
def WB (bs:List PBox) (pg:Nat) (acc:List UInt8) (b2:PBox) (ex:List PBox):List PBox:=bs.set pg (PGB acc)++b2 :: ex
section
variable (bs:List PBox) (pg:Nat) (b2:PBox) (acc:List UInt8) (ex:List PBox)
theorem WB_len:(WB bs pg acc b2 ex).length=ex.length+(bs.length+1):=by
 unfold WB
 rw [List.length_append,List.length_set,List.length_cons]
 omega
theorem WB_2:(WB bs pg acc b2 ex)[bs.length]?=some b2:=by
 unfold WB
 rw [List.getElem?_append_right (by rw [List.length_set];exact Nat.le_refl _),List.length_set,Nat.sub_self]
 rfl
theorem WB_app (x:PBox):WB bs pg acc b2 ex++[x]=WB bs pg acc b2 (ex++[x]):=by
 unfold WB
 rw [List.append_assoc]
 rfl
theorem WB_last (x:PBox):(WB bs pg acc b2 (ex++[x]))[ex.length+(bs.length+1)]?=some x:=by
 unfold WB
 rw [List.getElem?_append_right (by rw [List.length_set];omega),List.length_set,show ex.length+(bs.length+1) - bs.length=ex.length+1 from by omega,List.getElem?_cons_succ,List.getElem?_concat_length]
theorem WB_sl (x y:PBox):(WB bs pg acc b2 (ex++[x])).set (ex.length+(bs.length+1)) y=WB bs pg acc b2 (ex++[y]):=by
 unfold WB
 rw [List.set_append_right _ _ (by rw [List.length_set];omega),List.length_set,show ex.length+(bs.length+1) - bs.length=ex.length+1 from by omega,List.set_cons_succ,List.set_append_right _ _ (Nat.le_refl _),Nat.sub_self]
 rfl
theorem WB_mk:bs.set pg (PGB acc)++[b2]=WB bs pg acc b2 []:=rfl
end
theorem appK_big {size:Nat} {e:TypeId} {st:St} {al:List (Nat×Loc)} {l:Option Loc} {xs ys:List PV} {d:Option Tmp} (h:xs.length+ys.length<=100000000) (hy:(ys.all fun y=>y.cells.length == size)=true) :
 appK 1 size e st al l xs ys d=some (.next ((letGo st l xs).put d (.osl e (xs++ys))) (killT al d)):=by
 unfold appK
 rw [if_neg]
 rintro (h1 | h1 | h1)
 · unfold sizeCap at h1
   omega
 · unfold sizeCap at h1
   omega
 · rw [hy] at h1;cases h1
theorem call_put (bs:List PBox) (pg:Nat) (hpg:pg < bs.length) (acc w:List UInt8) (r:List PBox) (hl:acc.length+w.length<=90000000) (hw:w≠[]):callL CC 40 [.bp pg 0,.str w] (bs.set pg (PGB acc)++r)=some (.ret (.tup []),bs.set pg (PGB (acc++w))++r):=by
 have hgp:∀ P r,(bs.set pg P++r)[pg]?=some P:=fun P r=>by rw [List.getElem?_append_left (by rw [List.length_set];exact hpg),List.getElem?_set_self hpg]
 have hgs:∀ P Q r,(bs.set pg P++r).set pg Q=bs.set pg Q++r:=fun P Q r=>by rw [List.set_append_left _ _ (by rw [List.length_set];exact hpg),List.set_set]
 rw [callL_enter (fn:=Tryz.f40) (c:=Tryz.f40.body.getD .skip) rfl rfl fat_print_page_put rfl ok_print_page_put (Nat.le_of_ble_eq_true rfl)]
 have hbl:=bys_length acc
 have hwl:=bys_length w
 have hsn:=bys_append acc w
 have hok:=bys_all w
 have hc:(bys acc).length+(bys w).length<=100000000:=by omega
 have hc0:(bys w).length<=100000000:=by omega
 have hb:bufV (acc++w)=.osl 5 (bys (acc++w)):=by
  unfold bufV
  rw [if_neg (by simp [hw])]
 have hpn:pureL [.bp pg 0]=false:=rfl
 unfold PGB
 rw [hb,hsn]
 clear hb hsn
 unfold bufV
 by_cases h:acc=[]
 · subst h
   rw [if_pos rfl]
   have hb0:bys []=[]:=rfl
   rw [hb0] at *
   generalize hys:bys w=ys at *
   obtain ⟨ev,eo,so,co,⟨hev,hco⟩,R⟩:=RULES CC;rw [<- hev]
   simp only [fpart,part',Tryz.f40,Option.getD]
   simp only [S8,R,SG,SH,seval,strEl,hys,appK_big,nchP,hgp,hgs,List.getD_cons_succ,List.getD_cons_zero,ap_str,hok,hc,hc0,List.set_cons_zero,List.set_cons_succ]
 · rw [if_neg h]
   generalize hys:bys w=ys at *
   generalize bys acc=xs at *
   obtain ⟨ev,eo,so,co,⟨hev,hco⟩,R⟩:=RULES CC;rw [<- hev]
   simp only [fpart,part',Tryz.f40,Option.getD]
   simp only [S8,R,SG,SH,seval,strEl,hys,appK_big,nchP,hgp,hgs,List.getD_cons_succ,List.getD_cons_zero,ap_str,hok,hc,List.set_cons_zero,List.set_cons_succ]
theorem op_put (bs:List PBox) (pg:Nat) (hpg:pg < bs.length) (b2:PBox) (acc w:List UInt8) (ex:List PBox) (hl:acc.length+w.length<=90000000) (hw:w≠[]):callOp CC (callL CC) 40 [.bp pg 0,.str w] (WB bs pg acc b2 ex)=some (.ret (.tup []),WB bs pg (acc++w) b2 ex):=by
 unfold callOp WB
 rw [if_pos (by rfl),call_put bs pg hpg acc w _ hl hw]
 simp only
 rw [truncB_same (by simp)]
theorem cat_ne {a b:List UInt8} (h:b≠[]):cat a b≠[]:=by
 unfold cat
 simp [h]
def putV (pg:Nat):PV:=.fn 40 [.bp pg 0] []
def PWr (j:Nat) (bs:List PBox) (pg:Nat) (b2:PBox) (acc:List UInt8) (res:Option (Ex×St)):Prop:=∃ e' ex',res=some (.exit j,⟨e',WB bs pg acc b2 ex'⟩)∧getT e' 0=putV pg∧getT e' 3=.bp bs.length 0
theorem loop_won (L:Code) (hL:L=fpart Tryz.f39 [1,1,0,1,0]) (l:List Tg) (hl:l.length<=12) (hc:∀ t ∈ l,(∀ bx,callOp CC (callL CC) 84 [tgV t] bx=some (.ret (.str (evS t)),bx))∧(evS t).length<=1000) (bs:List PBox) (pg:Nat) (hpg:pg < bs.length) (b2:PBox):∀ (k i:Nat) (e:List PV) (acc:List UInt8) (ex:List PBox),i+k=l.length ->
 getT e 0=putV pg->getT e 3=.bp bs.length 0->getT e 21=.sl (l.map tgV)->getT e 22=.int .i64 l.length->getT e 23=.int .i64 i->acc.length<=70000300+1100 * i ->
 PWr 0 bs pg b2 (acc++(l.drop i).flatMap onS) (evL CC L ⟨e,WB bs pg acc b2 ex⟩):=by
 intro k
 induction k with
 | zero=>
  intro i e acc ex hi0 e0 e3 es el ei ha
  rw [evL_at (fpart Tryz.f39 [1,1,0,1,0,0]) hL]
  have hi:¬ ((i:Int) < (l.length:Int)):=by omega
  rw [List.drop_eq_nil_of_le (by omega),List.flatMap_nil,List.append_nil]
  generalize l.map tgV=xs at *
  obtain ⟨ev,eo,so,co,⟨hev,hco⟩,R⟩:=RULES CC;rw [<- hev]
  simp only [fpart,part',Tryz.f39,Option.getD]
  simp only [S9,R,seval,WB_len,WB_2,WB_app,WB_last,WB_sl,putV,dynR,e0,e3,es,el,ei,hi]
  exact ⟨_,_,rfl,by simp only [S7,R,seval,e0,putV],by simp only [S7,R,seval,e3]⟩
 | succ k ih=>
  intro i e acc ex hi0 e0 e3 es el ei ha
  rw [evL_at (fpart Tryz.f39 [1,1,0,1,0,0]) hL]
  have hi:((i:Int) < (l.length:Int)):=by omega
  have hi0':¬ ((i:Int) < 0):=by omega
  have hdr:l.drop i=(l[i]'(by omega)) :: l.drop (i+1):=List.drop_eq_getElem_cons (by omega)
  have hx:(l.map tgV)[i]?=some (tgV (l[i]'(by omega))):=by rw [List.getElem?_map,List.getElem?_eq_getElem (by omega)];rfl
  have hw1:=wrap_i64 (n:=(i:Int)+1) ⟨by omega,by omega⟩
  have hop:=(hc (l[i]'(by omega)) (List.getElem_mem _)).1
  have hlen:=(hc (l[i]'(by omega)) (List.getElem_mem _)).2
  have key:=fun e acc ex=>ih (i+1) e acc ex (by omega)
  have cast1:((i+1:Nat):Int)=(i:Int)+1:=by omega
  rw [cast1] at key
  rw [hdr,List.flatMap_cons,<- List.append_assoc]
  have hon:onS (l[i]'(by omega))=cat (cat [32,32,111,110,32] (evS (l[i]'(by omega)))) [59,10]:=rfl
  rw [hon]
  clear hon hc
  generalize (l.drop (i+1)).flatMap onS=rest at *
  generalize l[i]'(by omega)=x at *
  generalize evS x=s at *
  generalize l.map tgV=xs at *
  have cA:=catA (a:=[32,32,111,110,32]) (b:=s) (by simp only [List.length_cons,List.length_nil];omega)
  have cB:=catA (a:=cat [32,32,111,110,32] s) (b:=[59,10]) (by rw [cat_len];simp only [List.length_cons,List.length_nil];omega)
  have lw:(cat (cat [32,32,111,110,32] s) [59,10]).length<=1007:=by rw [cat_len,cat_len];simp only [List.length_cons,List.length_nil];omega
  have hp:=fun ex=>op_put bs pg hpg b2 acc (cat (cat [32,32,111,110,32] s) [59,10]) ex (by omega) (cat_ne (by simp))
  have ha':(acc++cat (cat [32,32,111,110,32] s) [59,10]).length<=70000300+1100 * (i+1):=by rw [List.length_append];omega
  generalize cat (cat [32,32,111,110,32] s) [59,10]=w at *
  obtain ⟨xk,xkey,xev,xnm,xn,xm⟩:=x
  obtain ⟨xd,xcl,xat⟩:=xkey
  obtain ⟨yd,yc,yn⟩:=xev
  unfold tgV at hx hop
  simp only at hx hop
  obtain ⟨ev,eo,so,co,⟨hev,hco⟩,R⟩:=RULES CC;rw [<- hev]
  rw [<- hev] at key
  rw [<- hco] at hop hp
  simp only [fpart,part',Tryz.f39,Option.getD]
  simp only [S9,R,seval,WB_len,WB_2,WB_app,WB_last,WB_sl,putV,dynR,e0,e3,es,el,ei,hi,hi0',hx,hw1,hop,hp,TGf,cA,cB]
  refine key _ _ _ ?_ ?_ ?_ ?_ ?_ ha'
  all_goals simp only [S7,R,seval,e0,e3,es,el,ei,putV]
theorem loop_wdo (L:Code) (hL:L=fpart Tryz.f39 [1,1,1,1,0,1,0]) (l:List Sp) (hl:l.length<=12) (hc:∀ t ∈ l,(∀ bx,callOp CC (callL CC) 86 [spV t] bx=some (.ret (.str (acS t)),bx))∧(acS t).length<=141000) (bs:List PBox) (pg:Nat) (hpg:pg < bs.length) (b2:PBox):∀ (k i:Nat) (e:List PV) (acc:List UInt8) (ex:List PBox),i+k=l.length ->
 getT e 0=putV pg->getT e 3=.bp bs.length 0->getT e 49=.sl (l.map spV)->getT e 50=.int .i64 l.length->getT e 51=.int .i64 i->acc.length<=70160000+142000 * i ->
 PWr 2 bs pg b2 (acc++(l.drop i).flatMap doS) (evL CC L ⟨e,WB bs pg acc b2 ex⟩):=by
 intro k
 induction k with
 | zero=>
  intro i e acc ex hi0 e0 e3 es el ei ha
  rw [evL_at (fpart Tryz.f39 [1,1,1,1,0,1,0,0]) hL]
  have hi:¬ ((i:Int) < (l.length:Int)):=by omega
  rw [List.drop_eq_nil_of_le (by omega),List.flatMap_nil,List.append_nil]
  generalize l.map spV=xs at *
  obtain ⟨ev,eo,so,co,⟨hev,hco⟩,R⟩:=RULES CC;rw [<- hev]
  simp only [fpart,part',Tryz.f39,Option.getD]
  simp only [S9,R,seval,WB_len,WB_2,WB_app,WB_last,WB_sl,putV,dynR,e0,e3,es,el,ei,hi]
  exact ⟨_,_,rfl,by simp only [S7,R,seval,e0,putV],by simp only [S7,R,seval,e3]⟩
 | succ k ih=>
  intro i e acc ex hi0 e0 e3 es el ei ha
  rw [evL_at (fpart Tryz.f39 [1,1,1,1,0,1,0,0]) hL]
  have hi:((i:Int) < (l.length:Int)):=by omega
  have hi0':¬ ((i:Int) < 0):=by omega
  have hdr:l.drop i=(l[i]'(by omega)) :: l.drop (i+1):=List.drop_eq_getElem_cons (by omega)
  have hx:(l.map spV)[i]?=some (spV (l[i]'(by omega))):=by rw [List.getElem?_map,List.getElem?_eq_getElem (by omega)];rfl
  have hw1:=wrap_i64 (n:=(i:Int)+1) ⟨by omega,by omega⟩
  have hop:=(hc (l[i]'(by omega)) (List.getElem_mem _)).1
  have hlen:=(hc (l[i]'(by omega)) (List.getElem_mem _)).2
  have key:=fun e acc ex=>ih (i+1) e acc ex (by omega)
  have cast1:((i+1:Nat):Int)=(i:Int)+1:=by omega
  rw [cast1] at key
  rw [hdr,List.flatMap_cons,<- List.append_assoc]
  have hon:doS (l[i]'(by omega))=cat (cat [32,32,100,111,32] (acS (l[i]'(by omega)))) [59,10]:=rfl
  rw [hon]
  clear hon hc
  generalize (l.drop (i+1)).flatMap doS=rest at *
  generalize l[i]'(by omega)=x at *
  generalize acS x=s at *
  generalize l.map spV=xs at *
  have cA:=catA (a:=[32,32,100,111,32]) (b:=s) (by simp only [List.length_cons,List.length_nil];omega)
  have cB:=catA (a:=cat [32,32,100,111,32] s) (b:=[59,10]) (by rw [cat_len];simp only [List.length_cons,List.length_nil];omega)
  have lw:(cat (cat [32,32,100,111,32] s) [59,10]).length<=141007:=by rw [cat_len,cat_len];simp only [List.length_cons,List.length_nil];omega
  have hp:=fun ex=>op_put bs pg hpg b2 acc (cat (cat [32,32,100,111,32] s) [59,10]) ex (by omega) (cat_ne (by simp))
  have ha':(acc++cat (cat [32,32,100,111,32] s) [59,10]).length<=70160000+142000 * (i+1):=by rw [List.length_append];omega
  generalize cat (cat [32,32,100,111,32] s) [59,10]=w at *
  obtain ⟨xk,xkey,xnm,xex⟩:=x
  obtain ⟨xd,xcl,xat⟩:=xkey
  obtain ⟨zk,zn,zm,znm,zv,zkey,zkids⟩:=xex
  unfold spV trC trV at hx hop
  generalize trVs zkids=zs at *
  simp only [SA,List.cons_append,List.nil_append] at hx hop
  obtain ⟨ev,eo,so,co,⟨hev,hco⟩,R⟩:=RULES CC;rw [<- hev]
  rw [<- hev] at key
  rw [<- hco] at hop hp
  simp only [fpart,part',Tryz.f39,Option.getD]
  simp only [S9,R,seval,WB_len,WB_2,WB_app,WB_last,WB_sl,putV,dynR,e0,e3,es,el,ei,hi,hi0',hx,hw1,hop,hp,SPf,cA,cB]
  refine key _ _ _ ?_ ?_ ?_ ?_ ?_ ha'
  all_goals simp only [S7,R,seval,e0,e3,es,el,ei,putV]
theorem flatMap_len {α:Type} (f:α->List UInt8) (c:Nat):∀ l:List α,(∀ x ∈ l,(f x).length<=c)->(l.flatMap f).length<=c * l.length
 | [],_=>by simp
 | x :: r,h=>by
  have h1:=h x List.mem_cons_self
  have h2:=flatMap_len f c r fun y hy=>h y (List.mem_cons_of_mem _ hy)
  rw [List.flatMap_cons,List.length_append,List.length_cons,Nat.mul_add]
  omega
theorem on_len {t:Tg} (h:(evS t).length<=1000):(onS t).length<=1007:=by
 unfold onS
 rw [cat_len,cat_len]
 simp only [List.length_cons,List.length_nil]
 omega
theorem do_len {s:Sp} (h:(acS s).length<=141000):(doS s).length<=141007:=by
 unfold doS
 rw [cat_len,cat_len]
 simp only [List.length_cons,List.length_nil]
 omega
theorem buildYv:buildP CC 24 [(0,.int .i64 1),(1,.int .i64 1)]=some (.agg [.int .i64 1,.int .i64 1,.str []]):=by kernel_rfl
theorem buildYt:buildP CC 29 [(0,.int .i64 1),(4,.agg [.int .i64 1,.int .i64 1,.str []])]=some (.agg [.int .i64 1,.int .i64 0,.int .i64 0,.str [],.int .i64 1,.int .i64 1,.str [],.int .i64 0,.str [],.str [],.nils]):=by kernel_rfl
theorem call_write (r:Rl) (hp:plRl r=true) (ho:okRl r) (h:rlE r=0) (bs:List PBox) (pg:Nat) (hpg:pg < bs.length) (acc0:List UInt8) (hac0:acc0.length<=70000000):∃ b2 ex,callL CC 39 [putV pg,rlV r] (bs.set pg (PGB acc0))=some (.ret (.tup []),WB bs pg (acc0++rlS r) b2 ex):=by
 obtain ⟨g1,g2,g3,g4,g5,g6⟩:=plRl_len hp
 obtain ⟨p1,p2,p3,p4,p5,p6⟩:=rlE_parts h
 have ipr:inI r.pr:=⟨by omega,by omega⟩
 have hhd:=hd_len g1 ipr
 obtain ⟨t1,t2,t3⟩:=TX_len g4 ho.2.2.2.2.1 p5
 have ok:=op_kid r.ife t1 (by omega) 0
 have lk:=t3 0
 have odg:=op_num_Digits r.pr ipr
 have oys:=fun bx=>op_expr_Same r.ife 1 0 0 [] (1,1,[]) (0,[],[]) bx
 have hev:∀ t ∈ r.on,(∀ bx,callOp CC (callL CC) 84 [tgV t] bx=some (.ret (.str (evS t)),bx))∧(evS t).length<=1000:=fun t ht=>⟨op_event t (g5 t ht) (p4 t ht),ev_len (g5 t ht) (p4 t ht)⟩
 have hac:∀ s ∈ r.dos,(∀ bx,callOp CC (callL CC) 86 [spV s] bx=some (.ret (.str (acS s)),bx))∧(acS s).length<=141000:=fun s hs=>⟨op_action s (g6 s hs) (ho.2.2.2.2.2.2 s hs).2.2.2 (p6 s hs),ac_len (g6 s hs) (ho.2.2.2.2.2.2 s hs).2.2.2 (p6 s hs)⟩
 have lon:=flatMap_len onS 1007 r.on fun t ht=>on_len (hev t ht).2
 have ldo:=flatMap_len doS 141007 r.dos fun s hs=>do_len (hac s hs).2
 have hif:ifS r.ife=cat (cat [32,32,105,102,32] (kdS (an r.ife) 0)) [59,10]:=rfl
 have lif:(ifS r.ife).length<=140009:=by
  rw [hif,cat_len,cat_len]
  simp only [List.length_cons,List.length_nil]
  omega
 have hys:smB r.ife 1 0 0 [] (1,1,[]) (0,[],[])=yesB r.ife:=rfl
 rw [hys] at oys
 unfold rlS
 simp only [<- List.append_assoc]
 have hhe:hdS r=cat (cat (cat (cat [114,117,108,101,32] r.nm) [32,112,114,105,111,114,105,116,121,32]) (Lib.itoa r.pr)) [32,123,10]:=rfl
 have lit:=itoa_length ipr
 clear h hp ho t1 t2 t3 p1 p2 p3 p4 p5 p6 g4 g5 g6 ipr hys
 obtain ⟨nm,pr,on,ife,dos⟩:=r
 simp only at *
 have l1:(on.map tgV).length=on.length:=List.length_map _
 have l2:(dos.map spV).length=dos.length:=List.length_map _
 have hon:=fun b2 e acc ex=>loop_won _ rfl on (by omega) hev bs pg hpg b2 on.length 0 e acc ex (by omega)
 have hdo:=fun b2 e acc ex=>loop_wdo _ rfl dos (by omega) hac bs pg hpg b2 dos.length 0 e acc ex (by omega)
 rw [List.drop_zero] at hon hdo
 have c1:=catA (a:=[114,117,108,101,32]) (b:=nm) (by simp only [List.length_cons,List.length_nil];omega)
 have c2:=catA (a:=cat [114,117,108,101,32] nm) (b:=[32,112,114,105,111,114,105,116,121,32]) (by rw [cat_len];simp only [List.length_cons,List.length_nil];omega)
 have c3:=catA (a:=cat (cat [114,117,108,101,32] nm) [32,112,114,105,111,114,105,116,121,32]) (b:=Lib.itoa pr) (by rw [cat_len,cat_len];simp only [List.length_cons,List.length_nil];omega)
 have c4:=catA (a:=cat (cat (cat [114,117,108,101,32] nm) [32,112,114,105,111,114,105,116,121,32]) (Lib.itoa pr)) (b:=[32,123,10]) (by rw [cat_len,cat_len,cat_len];simp only [List.length_cons,List.length_nil];omega)
 have d1:=catA (a:=[32,32,105,102,32]) (b:=kdS (an ife) 0) (by simp only [List.length_cons,List.length_nil];omega)
 have d2:=catA (a:=cat [32,32,105,102,32] (kdS (an ife) 0)) (b:=[59,10]) (by rw [cat_len];simp only [List.length_cons,List.length_nil];omega)
 rw [<- hhe] at c4
 rw [<- hif] at d2
 have hne:hdS ⟨nm,pr,on,ife,dos⟩≠[]:=by rw [hhe];exact cat_ne (by simp)
 have hni:ifS ife≠[]:=by rw [hif];exact cat_ne (by simp)
 clear hhe hif hev hac
 generalize hdS ⟨nm,pr,on,ife,dos⟩=hd at *
 generalize ifS ife=iff at *
 generalize kdS (an ife) 0=kd at *
 generalize yesB ife=ys at *
 generalize on.flatMap onS=ons at *
 generalize dos.flatMap doS=dss at *
 generalize Lib.itoa pr=dg at *
 have q1:=fun b2 ex=>op_put bs pg hpg b2 acc0 hd ex (by omega) hne
 have q2:=fun b2 ex=>op_put bs pg hpg b2 (acc0++hd++ons) iff ex (by rw [List.length_append,List.length_append];omega) hni
 have q3:=fun b2 ex=>op_put bs pg hpg b2 (acc0++hd++ons++dss) [125,10] ex (by simp only [List.length_append,List.length_cons,List.length_nil];omega) (by simp)
 have q4:=fun b2 ex=>op_put bs pg hpg b2 (acc0++hd++ons++iff++dss) [125,10] ex (by simp only [List.length_append,List.length_cons,List.length_nil];omega) (by simp)
 have a1:(acc0++hd).length<=70000300+1100 * 0:=by rw [List.length_append];omega
 have a2:(acc0++hd++ons).length<=70160000+142000 * 0:=by rw [List.length_append,List.length_append];omega
 have a3:(acc0++hd++ons++iff).length<=70160000+142000 * 0:=by rw [List.length_append,List.length_append,List.length_append];omega
 clear hac0 hhd lk lon ldo lif lit g1 g2 g3 hne hni
 unfold rlV trC
 obtain ⟨zk,zn,zm,znm,zv,zkey,zkids⟩:=ife
 unfold trV at ok oys ⊢
 unfold leafV at oys
 generalize trVs zkids=zs at *
 simp only [SA,List.cons_append,List.nil_append] at ok oys ⊢
 generalize on.map tgV=xs at *
 generalize dos.map spV=zz at *
 rw [callL_enter (fn:=Tryz.f39) (c:=Tryz.f39.body.getD .skip) rfl rfl fat_print_write rfl ok_print_write (Nat.le_of_ble_eq_true rfl)]
 obtain ⟨ev,eo,so,co,⟨hev,hco⟩,R⟩:=RULES CC;rw [<- hev]
 rw [<- hco] at ok odg oys q1 q2 q3 q4
 rw [<- hev] at hon hdo
 simp only [fpart,part',Tryz.f39,Option.getD] at hon hdo ⊢
 simp only [S9,R,seval,WB_len,WB_2,WB_app,WB_last,WB_sl,putV,dynR,odg,c1,c2,c3,c4,WB_mk,List.length_set,q1,l1]
 generalize hE:ev (Code.loop _) _=z
 have hP:PWr 0 bs pg (.cells 32 [.str nm,.int .i64 pr,.sl xs,.int .i64 zk,.int .i64 zn,.int .i64 zm,.str znm,.int .i64 zv.1,.int .i64 zv.2.1,.str zv.2.2,.int .i64 zkey.1,.str zkey.2.1,.str zkey.2.2,.sl zs,.sl zz]) (acc0++hd++ons) z:=by
  rw [<- hE]
  refine hon _ _ _ _ ?_ ?_ ?_ ?_ ?_ a1
  all_goals first | (simp only [S7,R,seval,putV];done) | (simp only [S7,R,seval,putV] <;> rfl)
 obtain ⟨e',ex',rfl,k0,k3⟩:=hP
 unfold putV at k0
 cases ys with
 | true=>
  rw [if_pos rfl,List.append_nil]
  simp only [S9,R,seval,WB_len,WB_2,WB_app,WB_last,WB_sl,putV,dynR,k0,k3,buildYv,buildYt,TRf,oys,l2]
  generalize hE2:ev (Code.loop _) _=z2
  have hP2:PWr 2 bs pg (.cells 32 [.str nm,.int .i64 pr,.sl xs,.int .i64 zk,.int .i64 zn,.int .i64 zm,.str znm,.int .i64 zv.1,.int .i64 zv.2.1,.str zv.2.2,.int .i64 zkey.1,.str zkey.2.1,.str zkey.2.2,.sl zs,.sl zz]) (acc0++hd++ons++dss) z2:=by
   rw [<- hE2]
   refine hdo _ _ _ _ ?_ ?_ ?_ ?_ ?_ a2
   all_goals first | (simp only [S7,R,seval,putV,k0,k3];done) | (simp only [S7,R,seval,putV,k0,k3] <;> rfl)
  obtain ⟨e2,ex2,rfl,m0,m3⟩:=hP2
  unfold putV at m0
  simp only [S9,R,seval,WB_len,WB_2,WB_app,WB_last,WB_sl,putV,dynR,m0,m3,q3]
  exact ⟨_,_,rfl⟩
 | false=>
  rw [if_neg (by simp)]
  simp only [S9,R,seval,WB_len,WB_2,WB_app,WB_last,WB_sl,putV,dynR,k0,k3,buildYv,buildYt,TRf,oys,ok,d1,d2,q2,l2]
  generalize hE2:ev (Code.loop _) _=z2
  have hP2:PWr 2 bs pg (.cells 32 [.str nm,.int .i64 pr,.sl xs,.int .i64 zk,.int .i64 zn,.int .i64 zm,.str znm,.int .i64 zv.1,.int .i64 zv.2.1,.str zv.2.2,.int .i64 zkey.1,.str zkey.2.1,.str zkey.2.2,.sl zs,.sl zz]) (acc0++hd++ons++iff++dss) z2:=by
   rw [<- hE2]
   refine hdo _ _ _ _ ?_ ?_ ?_ ?_ ?_ a3
   all_goals first | (simp only [S7,R,seval,putV,k0,k3];done) | (simp only [S7,R,seval,putV,k0,k3] <;> rfl)
  obtain ⟨e2,ex2,rfl,m0,m3⟩:=hP2
  unfold putV at m0
  simp only [S9,R,seval,WB_len,WB_2,WB_app,WB_last,WB_sl,putV,dynR,m0,m3,q4]
  exact ⟨_,_,rfl⟩
end Go.HH
namespace Go.HH
open Go Go.Proofs
set_option maxRecDepth 100000
set_option linter.unusedSimpArgs false
set_option linter.unusedVariables false
inductive PR (α:Type) where
 | ok (a:α) (i:Nat)
 | bad (t:Nat) (e:Int)
 | out
def PR.bind {α β:Type} (r:PR α) (f:α->Nat->PR β):PR β:=match r with
 | .ok a i=>f a i
 | .bad t e=>.bad t e
 | .out=>.out
end Go.HH
