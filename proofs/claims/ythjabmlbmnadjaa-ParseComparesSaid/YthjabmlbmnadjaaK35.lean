/-
  What the law needs, packed: CA PB PC PD PE.
-/
import Derived.Test.YthjabmlbmnadjaaK34
namespace Go.HH
open Go Go.Proofs
set_option maxRecDepth 100000
set_option linter.unusedVariables false
def opsOf:Code->Array Oper
 | .region _ ops _=>ops
 | _=>#[]
theorem fltU:CC.P.underlying 61=some (.struct (match CC.P.underlying 61 with | some (.struct f)=>f | _=>#[])):=by kernel_rfl
theorem fltZ:tZero CC 61=some (.agg [.int .i64 0,.int .i64 0]):=by kernel_rfl
theorem drawR (t0 t1 t2:TypeId) (x3 x1 x2:PV) (x y:Int):(orders (opsOf (fpart Try.f23 [1,1,0]))).map (fun l=>normP (evOps (plainC CC) noCall false (opsOf (fpart Try.f23 [1,1,0])) (pickOps (opsOf (fpart Try.f23 [1,1,0])) l) [] ⟨[.bp 0 0,.bp 1 0,.bp 2 0,.bp 3 0,.bool true,.tup [.agg [.int .i64 x,.int .i64 y],.bool true],.iface 61 (.agg [.int .i64 x,.int .i64 y]),.tup [.agg [.int .i64 x,.int .i64 y],.bool true],.agg [.int .i64 x,.int .i64 y],.bool true,.bool true],[.cells t0 [x3],.cells t1 [x1],.cells t2 [x2],.cells 61 [.int .i64 x,.int .i64 y]]⟩))=List.replicate 45 (some (.normal,⟨[.bp 0 0,.bp 1 0,.bp 2 0,.bp 3 0,.bool true,.tup [.agg [.int .i64 x,.int .i64 y],.bool true],.iface 61 (.agg [.int .i64 x,.int .i64 y]),.tup [.agg [.int .i64 x,.int .i64 y],.bool true],.agg [.int .i64 x,.int .i64 y],.bool true,.bool true,.bp 3 0,.int .i64 x,.bp 3 1,.int .i64 y],[.cells t0 [.osl 37 []],.cells t1 [.int .i64 x],.cells t2 [.int .i64 y],.cells 61 [.int .i64 x,.int .i64 y]]⟩)):=by kernel_rfl
theorem runsR (t0 t1 t2:TypeId) (x3 x1 x2:PV) (x y:Int):CatchRuns CC 23 Try.f23 20 61 (.agg [.int .i64 0,.int .i64 0]) [.cells t0 [x3],.cells t1 [x1],.cells t2 [x2]]
 [.cells t0 [.osl 37 []],.cells t1 [.int .i64 x],.cells t2 [.int .i64 y],.cells 61 [.int .i64 x,.int .i64 y]]
 [.cells t0 [x3],.cells t1 [x1],.cells t2 [x2],.cells 61 [.int .i64 0,.int .i64 0]] (.agg [.int .i64 x,.int .i64 y]):=by
 refine ⟨by kernel_rfl,0,1,2,(opsOf (fpart Try.f23 [0])),(opsOf (fpart Try.f23 [1,0])),(opsOf (fpart Try.f23 [1,1,0])),(opsOf (fpart Try.f23 [0])).toList.drop 2,20,62,
  ((opsOf (fpart Try.f23 [0])).getD 0 default).pos,((opsOf (fpart Try.f23 [0])).getD 1 default).pos,((opsOf (fpart Try.f23 [0])).getD 0 default).after,((opsOf (fpart Try.f23 [0])).getD 1 default).after,
  ⟨[.bp 0 0,.bp 1 0,.bp 2 0,.bp 3 0,.bool true,.tup [.agg [.int .i64 x,.int .i64 y],.bool true],.iface 61 (.agg [.int .i64 x,.int .i64 y]),.tup [.agg [.int .i64 x,.int .i64 y],.bool true],.agg [.int .i64 x,.int .i64 y],.bool true],[.cells t0 [x3],.cells t1 [x1],.cells t2 [x2],.cells 61 [.int .i64 x,.int .i64 y]]⟩,⟨[.bp 0 0,.bp 1 0,.bp 2 0,.bp 3 0,.bool true,.tup [.agg [.int .i64 x,.int .i64 y],.bool true],.iface 61 (.agg [.int .i64 x,.int .i64 y]),.tup [.agg [.int .i64 x,.int .i64 y],.bool true],.agg [.int .i64 x,.int .i64 y],.bool true,.bool true],[.cells t0 [x3],.cells t1 [x1],.cells t2 [x2],.cells 61 [.int .i64 x,.int .i64 y]]⟩,⟨[.bp 0 0,.bp 1 0,.bp 2 0,.bp 3 0,.bool true,.tup [.agg [.int .i64 x,.int .i64 y],.bool true],.iface 61 (.agg [.int .i64 x,.int .i64 y]),.tup [.agg [.int .i64 x,.int .i64 y],.bool true],.agg [.int .i64 x,.int .i64 y],.bool true,.bool true,.bp 3 0,.int .i64 x,.bp 3 1,.int .i64 y],[.cells t0 [.osl 37 []],.cells t1 [.int .i64 x],.cells t2 [.int .i64 y],.cells 61 [.int .i64 x,.int .i64 y]]⟩,⟨[.bp 0 0,.bp 1 0,.bp 2 0,.bp 3 0,.bool false,.tup [.agg [.int .i64 0,.int .i64 0],.bool false],.nili,.tup [.agg [.int .i64 0,.int .i64 0],.bool false],.agg [.int .i64 0,.int .i64 0],.bool false],[.cells t0 [x3],.cells t1 [x1],.cells t2 [x2],.cells 61 [.int .i64 0,.int .i64 0]]⟩,⟨[.bp 0 0,.bp 1 0,.bp 2 0,.bp 3 0,.bool false,.tup [.agg [.int .i64 0,.int .i64 0],.bool false],.nili,.tup [.agg [.int .i64 0,.int .i64 0],.bool false],.agg [.int .i64 0,.int .i64 0],.bool false,.bool false],[.cells t0 [x3],.cells t1 [x1],.cells t2 [x2],.cells 61 [.int .i64 0,.int .i64 0]]⟩,
  by kernel_rfl,by kernel_rfl,by kernel_rfl,by kernel_rfl,by kernel_rfl,by kernel_rfl,by kernel_rfl,by kernel_rfl,by kernel_rfl,by kernel_rfl,drawAll_iff.2 ⟨fun e=>?_,fun l hl=>?_⟩,rfl,by kernel_rfl,by kernel_rfl,by kernel_rfl,rfl⟩
 · have h:=congrArg List.length (drawR t0 t1 t2 x3 x1 x2 x y)
   rw [e] at h
   cases h
 · have h:normP (evOps (plainC CC) noCall false (opsOf (fpart Try.f23 [1,1,0])) (pickOps (opsOf (fpart Try.f23 [1,1,0])) l) [] ⟨[.bp 0 0,.bp 1 0,.bp 2 0,.bp 3 0,.bool true,.tup [.agg [.int .i64 x,.int .i64 y],.bool true],.iface 61 (.agg [.int .i64 x,.int .i64 y]),.tup [.agg [.int .i64 x,.int .i64 y],.bool true],.agg [.int .i64 x,.int .i64 y],.bool true,.bool true],[.cells t0 [x3],.cells t1 [x1],.cells t2 [x2],.cells 61 [.int .i64 x,.int .i64 y]]⟩) ∈ List.replicate 45 (some (.normal,⟨[.bp 0 0,.bp 1 0,.bp 2 0,.bp 3 0,.bool true,.tup [.agg [.int .i64 x,.int .i64 y],.bool true],.iface 61 (.agg [.int .i64 x,.int .i64 y]),.tup [.agg [.int .i64 x,.int .i64 y],.bool true],.agg [.int .i64 x,.int .i64 y],.bool true,.bool true,.bp 3 0,.int .i64 x,.bp 3 1,.int .i64 y],[.cells t0 [.osl 37 []],.cells t1 [.int .i64 x],.cells t2 [.int .i64 y],.cells 61 [.int .i64 x,.int .i64 y]]⟩)):=by
    rw [<- drawR t0 t1 t2 x3 x1 x2 x y]
    exact List.mem_map_of_mem hl
   exact List.eq_of_mem_replicate h
theorem drawE (t0 t1 t2:TypeId) (x3 x4 x5 x6 x7 x8 x9 x10 x11 x12 x13 x1 x2:PV) (x y:Int):(orders (opsOf (fpart Try.f33 [1,1,0]))).map (fun l=>normP (evOps (plainC CC) noCall false (opsOf (fpart Try.f33 [1,1,0])) (pickOps (opsOf (fpart Try.f33 [1,1,0])) l) [] ⟨[.bp 0 0,.bp 1 0,.bp 2 0,.bp 3 0,.bool true,.tup [.agg [.int .i64 x,.int .i64 y],.bool true],.iface 61 (.agg [.int .i64 x,.int .i64 y]),.tup [.agg [.int .i64 x,.int .i64 y],.bool true],.agg [.int .i64 x,.int .i64 y],.bool true,.bool true],[.cells t0 [x3,x4,x5,x6,x7,x8,x9,x10,x11,x12,x13],.cells t1 [x1],.cells t2 [x2],.cells 61 [.int .i64 x,.int .i64 y]]⟩))=List.replicate 126 (some (.normal,⟨[.bp 0 0,.bp 1 0,.bp 2 0,.bp 3 0,.bool true,.tup [.agg [.int .i64 x,.int .i64 y],.bool true],.iface 61 (.agg [.int .i64 x,.int .i64 y]),.tup [.agg [.int .i64 x,.int .i64 y],.bool true],.agg [.int .i64 x,.int .i64 y],.bool true,.bool true,.agg zeroE,.bp 3 0,.int .i64 x,.bp 3 1,.int .i64 y],[.cells t0 zeroE,.cells t1 [.int .i64 x],.cells t2 [.int .i64 y],.cells 61 [.int .i64 x,.int .i64 y]]⟩)):=by kernel_rfl
theorem runsE (t0 t1 t2:TypeId) (x3 x4 x5 x6 x7 x8 x9 x10 x11 x12 x13 x1 x2:PV) (x y:Int):CatchRuns CC 33 Try.f33 20 61 (.agg [.int .i64 0,.int .i64 0]) [.cells t0 [x3,x4,x5,x6,x7,x8,x9,x10,x11,x12,x13],.cells t1 [x1],.cells t2 [x2]]
 [.cells t0 zeroE,.cells t1 [.int .i64 x],.cells t2 [.int .i64 y],.cells 61 [.int .i64 x,.int .i64 y]]
 [.cells t0 [x3,x4,x5,x6,x7,x8,x9,x10,x11,x12,x13],.cells t1 [x1],.cells t2 [x2],.cells 61 [.int .i64 0,.int .i64 0]] (.agg [.int .i64 x,.int .i64 y]):=by
 refine ⟨by kernel_rfl,0,1,2,(opsOf (fpart Try.f33 [0])),(opsOf (fpart Try.f33 [1,0])),(opsOf (fpart Try.f33 [1,1,0])),(opsOf (fpart Try.f33 [0])).toList.drop 2,20,62,
  ((opsOf (fpart Try.f33 [0])).getD 0 default).pos,((opsOf (fpart Try.f33 [0])).getD 1 default).pos,((opsOf (fpart Try.f33 [0])).getD 0 default).after,((opsOf (fpart Try.f33 [0])).getD 1 default).after,
  ⟨[.bp 0 0,.bp 1 0,.bp 2 0,.bp 3 0,.bool true,.tup [.agg [.int .i64 x,.int .i64 y],.bool true],.iface 61 (.agg [.int .i64 x,.int .i64 y]),.tup [.agg [.int .i64 x,.int .i64 y],.bool true],.agg [.int .i64 x,.int .i64 y],.bool true],[.cells t0 [x3,x4,x5,x6,x7,x8,x9,x10,x11,x12,x13],.cells t1 [x1],.cells t2 [x2],.cells 61 [.int .i64 x,.int .i64 y]]⟩,⟨[.bp 0 0,.bp 1 0,.bp 2 0,.bp 3 0,.bool true,.tup [.agg [.int .i64 x,.int .i64 y],.bool true],.iface 61 (.agg [.int .i64 x,.int .i64 y]),.tup [.agg [.int .i64 x,.int .i64 y],.bool true],.agg [.int .i64 x,.int .i64 y],.bool true,.bool true],[.cells t0 [x3,x4,x5,x6,x7,x8,x9,x10,x11,x12,x13],.cells t1 [x1],.cells t2 [x2],.cells 61 [.int .i64 x,.int .i64 y]]⟩,⟨[.bp 0 0,.bp 1 0,.bp 2 0,.bp 3 0,.bool true,.tup [.agg [.int .i64 x,.int .i64 y],.bool true],.iface 61 (.agg [.int .i64 x,.int .i64 y]),.tup [.agg [.int .i64 x,.int .i64 y],.bool true],.agg [.int .i64 x,.int .i64 y],.bool true,.bool true,.agg zeroE,.bp 3 0,.int .i64 x,.bp 3 1,.int .i64 y],[.cells t0 zeroE,.cells t1 [.int .i64 x],.cells t2 [.int .i64 y],.cells 61 [.int .i64 x,.int .i64 y]]⟩,⟨[.bp 0 0,.bp 1 0,.bp 2 0,.bp 3 0,.bool false,.tup [.agg [.int .i64 0,.int .i64 0],.bool false],.nili,.tup [.agg [.int .i64 0,.int .i64 0],.bool false],.agg [.int .i64 0,.int .i64 0],.bool false],[.cells t0 [x3,x4,x5,x6,x7,x8,x9,x10,x11,x12,x13],.cells t1 [x1],.cells t2 [x2],.cells 61 [.int .i64 0,.int .i64 0]]⟩,⟨[.bp 0 0,.bp 1 0,.bp 2 0,.bp 3 0,.bool false,.tup [.agg [.int .i64 0,.int .i64 0],.bool false],.nili,.tup [.agg [.int .i64 0,.int .i64 0],.bool false],.agg [.int .i64 0,.int .i64 0],.bool false,.bool false],[.cells t0 [x3,x4,x5,x6,x7,x8,x9,x10,x11,x12,x13],.cells t1 [x1],.cells t2 [x2],.cells 61 [.int .i64 0,.int .i64 0]]⟩,
  by kernel_rfl,by kernel_rfl,by kernel_rfl,by kernel_rfl,by kernel_rfl,by kernel_rfl,by kernel_rfl,by kernel_rfl,by kernel_rfl,by kernel_rfl,drawAll_iff.2 ⟨fun e=>?_,fun l hl=>?_⟩,rfl,by kernel_rfl,by kernel_rfl,by kernel_rfl,rfl⟩
 · have h:=congrArg List.length (drawE t0 t1 t2 x3 x4 x5 x6 x7 x8 x9 x10 x11 x12 x13 x1 x2 x y)
   rw [e] at h
   cases h
 · have h:normP (evOps (plainC CC) noCall false (opsOf (fpart Try.f33 [1,1,0])) (pickOps (opsOf (fpart Try.f33 [1,1,0])) l) [] ⟨[.bp 0 0,.bp 1 0,.bp 2 0,.bp 3 0,.bool true,.tup [.agg [.int .i64 x,.int .i64 y],.bool true],.iface 61 (.agg [.int .i64 x,.int .i64 y]),.tup [.agg [.int .i64 x,.int .i64 y],.bool true],.agg [.int .i64 x,.int .i64 y],.bool true,.bool true],[.cells t0 [x3,x4,x5,x6,x7,x8,x9,x10,x11,x12,x13],.cells t1 [x1],.cells t2 [x2],.cells 61 [.int .i64 x,.int .i64 y]]⟩) ∈ List.replicate 126 (some (.normal,⟨[.bp 0 0,.bp 1 0,.bp 2 0,.bp 3 0,.bool true,.tup [.agg [.int .i64 x,.int .i64 y],.bool true],.iface 61 (.agg [.int .i64 x,.int .i64 y]),.tup [.agg [.int .i64 x,.int .i64 y],.bool true],.agg [.int .i64 x,.int .i64 y],.bool true,.bool true,.agg zeroE,.bp 3 0,.int .i64 x,.bp 3 1,.int .i64 y],[.cells t0 zeroE,.cells t1 [.int .i64 x],.cells t2 [.int .i64 y],.cells 61 [.int .i64 x,.int .i64 y]]⟩)):=by
    rw [<- drawE t0 t1 t2 x3 x4 x5 x6 x7 x8 x9 x10 x11 x12 x13 x1 x2 x y]
    exact List.mem_map_of_mem hl
   exact List.eq_of_mem_replicate h
theorem ro_pure {v:PV} (h:v.pure=true):v.ro.pure=true:=by
 cases v <;> first | exact h | (simp only [PV.ro,PV.pure] at h ⊢;exact h)
theorem seal1_pure {v:PV} (h:v.pure=true):v.seal1.pure=true:=by
 cases v <;> first | exact h | (simp only [PV.seal1,PV.pure,pureL] at h ⊢;exact h)
theorem shutV_pure {v:PV} (h:v.pure=true):v.shutV.pure=true:=by
 cases v <;> first | exact seal1_pure h | skip
 rename_i cs
 simp only [PV.shutV,PV.pure] at h ⊢
 induction cs with
 | nil=>rfl
 | cons c r ih=>
  simp only [List.map_cons,pureL,Bool.and_eq_true] at h ⊢
  exact ⟨seal1_pure h.1,ih h.2⟩
theorem finR_pure (c0:List PV) (h:pureL c0=true):(finR c0).pure=true:=by
 match c0,h with
 | [],_=>rfl
 | [x],h=>
  simp only [pureL,Bool.and_true] at h
  exact shutV_pure (ro_pure h)
 | _ :: _ :: _,_=>rfl
theorem finE_pure (c0:List PV) (h:pureL c0=true):(finE c0).pure=true:=by
 refine shutV_pure ?_
 simp only [PV.pure]
 induction c0 with
 | nil=>rfl
 | cons c r ih=>
  simp only [List.map_cons,pureL,Bool.and_eq_true] at h ⊢
  exact ⟨ro_pure h.1,ih h.2⟩
theorem resR (env:List PV) (t0:TypeId) (c0:List PV) (t1:TypeId) (x:Int) (t2:TypeId) (y:Int) (r:List PBox) (h2:getT env 2=.bp 0 0) (h3:getT env 3=.bp 1 0) (h4:getT env 4=.bp 2 0) (hc:c0.length=1∨c0=[.osl 37 []]) :
 resultsP CC ⟨env,.cells t0 c0 :: .cells t1 [.int .i64 x] :: .cells t2 [.int .i64 y] :: r⟩ Try.f9.results.toList=some [finR c0,.int .i64 x,.int .i64 y]:=by
 have hl:c0.length=1:=by
  rcases hc with h | h
  · exact h
  · subst h;rfl
 have hr:Try.f9.results.toList=[.cell 2 23,.cell 3 3,.cell 4 24]:=by kernel_rfl
 rw [hr]
 have hE:∃ f,CC.P.underlying 34=some (.struct f):=⟨(match CC.P.underlying 34 with | some (.struct f)=>f | _=>#[]),by kernel_rfl⟩
 obtain ⟨fe,hfe⟩:=hE
 match c0,hl with
 | [c0],_=>
  simp only [resultsP,resultP,opd,raw,h2,h3,h4,PV.ro,loadP,boxCells,readCells,TG,List.getElem?_cons_zero,List.getElem?_cons_succ,List.drop_zero,List.head?_cons,Option.map_some,hfe,List.take_succ_cons,List.take_zero,List.length_cons,List.length_nil,Nat.le_refl,if_true,Bool.false_eq_true,if_false]
  rfl
theorem resE (env:List PV) (t0:TypeId) (c0:List PV) (t1:TypeId) (x:Int) (t2:TypeId) (y:Int) (r:List PBox) (h2:getT env 2=.bp 0 0) (h3:getT env 3=.bp 1 0) (h4:getT env 4=.bp 2 0) (hc:c0.length=11∨c0=zeroE) :
 resultsP CC ⟨env,.cells t0 c0 :: .cells t1 [.int .i64 x] :: .cells t2 [.int .i64 y] :: r⟩ Try.f14.results.toList=some [finE c0,.int .i64 x,.int .i64 y]:=by
 have hl:c0.length=11:=by
  rcases hc with h | h
  · exact h
  · subst h;rfl
 have hr:Try.f14.results.toList=[.cell 2 34,.cell 3 3,.cell 4 24]:=by kernel_rfl
 rw [hr]
 have hE:∃ f,CC.P.underlying 34=some (.struct f):=⟨(match CC.P.underlying 34 with | some (.struct f)=>f | _=>#[]),by kernel_rfl⟩
 obtain ⟨fe,hfe⟩:=hE
 match c0,hl with
 | [c0,c1,c2,c3,c4,c5,c6,c7,c8,c9,c10],_=>
  simp only [resultsP,resultP,opd,raw,h2,h3,h4,PV.ro,loadP,boxCells,readCells,TG,List.getElem?_cons_zero,List.getElem?_cons_succ,List.drop_zero,List.head?_cons,Option.map_some,hfe,List.take_succ_cons,List.take_zero,List.length_cons,List.length_nil,Nat.le_refl,if_true,Bool.false_eq_true,if_false]
  rfl
theorem soundR (ev:Code->St->Option (Ex×St)) (hev:CodeSound CC false ev) (args:List PV) (bx:List PBox) (cr:CR) (bx':List PBox) (hrun:runCat catR ev args bx=some (cr,bx')) :
 HasBody CC.P 9∧((∀ p ∈ args,∀ t xs,p≠.osl t xs)->∀ (B:Nat) (T:Nat->Prop) (S:Store) (M:List Nat) (vs:List Value) (w:World),HSim CC B T S M bx w->RepL S M args vs ->
  Calls CC.P 9 vs.toArray w fun e w'=>∃ S' M',HSim CC B T S' M' bx' w'∧Grows B T S w S' w'∧M <+: M'∧Outcome S' M' cr e):=
 catcher_sound (C:=CC) (fn:=Try.f9) (code:=part' [1,1] (Try.f9.body.getD .skip)) (i0:=0) (i1:=1) (opsA:=(opsOf (fpart Try.f9 [0]))) (opsB:=(opsOf (fpart Try.f9 [1,0]))) (g:=23) (gn:=Try.f23) (envA:=envR)
  (bx0:=[.cells 23 [.nils],.cells 3 [.int .i64 0],.cells 24 [.int .i64 0]])
  (ty6:=((opsOf (fpart Try.f9 [1,0])).getD 0 default).type) (tyd:=((opsOf (fpart Try.f9 [1,0])).getD 1 default).type) (p6:=((opsOf (fpart Try.f9 [1,0])).getD 0 default).pos) (pd:=((opsOf (fpart Try.f9 [1,0])).getD 1 default).pos) (af6:=((opsOf (fpart Try.f9 [1,0])).getD 0 default).after) (afd:=((opsOf (fpart Try.f9 [1,0])).getD 1 default).after)
  (TI:=20) (TF:=61) (zp:=.agg [.int .i64 0,.int .i64 0]) (n0:=1) (zc:=[.osl 37 []]) (fin:=finR)
  (by kernel_rfl) (by kernel_rfl) (by kernel_rfl) (Nat.le_of_ble_eq_true (by kernel_rfl)) (Nat.le_of_ble_eq_true (by kernel_rfl)) (by kernel_rfl) (by kernel_rfl) (fun s=>by kernel_rfl) (by kernel_rfl) (fun s=>⟨rfl,rfl,rfl⟩) (by kernel_rfl)
  (fun t0 c0 t1 x1 t2 x2 x y hl=>match c0,hl with | [c0],_=>runsR t0 t1 t2 c0 x1 x2 x y)
  fltU fltZ (fun e xs=>by simp) (by kernel_rfl) finR_pure resR ev hev args bx cr bx' hrun
theorem soundE (ev:Code->St->Option (Ex×St)) (hev:CodeSound CC false ev) (args:List PV) (bx:List PBox) (cr:CR) (bx':List PBox) (hrun:runCat catE ev args bx=some (cr,bx')) :
 HasBody CC.P 14∧((∀ p ∈ args,∀ t xs,p≠.osl t xs)->∀ (B:Nat) (T:Nat->Prop) (S:Store) (M:List Nat) (vs:List Value) (w:World),HSim CC B T S M bx w->RepL S M args vs ->
  Calls CC.P 14 vs.toArray w fun e w'=>∃ S' M',HSim CC B T S' M' bx' w'∧Grows B T S w S' w'∧M <+: M'∧Outcome S' M' cr e):=
 catcher_sound (C:=CC) (fn:=Try.f14) (code:=part' [1,1] (Try.f14.body.getD .skip)) (i0:=0) (i1:=1) (opsA:=(opsOf (fpart Try.f14 [0]))) (opsB:=(opsOf (fpart Try.f14 [1,0]))) (g:=33) (gn:=Try.f33) (envA:=envR)
  (bx0:=[.cells 34 zeroE,.cells 3 [.int .i64 0],.cells 24 [.int .i64 0]])
  (ty6:=((opsOf (fpart Try.f14 [1,0])).getD 0 default).type) (tyd:=((opsOf (fpart Try.f14 [1,0])).getD 1 default).type) (p6:=((opsOf (fpart Try.f14 [1,0])).getD 0 default).pos) (pd:=((opsOf (fpart Try.f14 [1,0])).getD 1 default).pos) (af6:=((opsOf (fpart Try.f14 [1,0])).getD 0 default).after) (afd:=((opsOf (fpart Try.f14 [1,0])).getD 1 default).after)
  (TI:=20) (TF:=61) (zp:=.agg [.int .i64 0,.int .i64 0]) (n0:=11) (zc:=zeroE) (fin:=finE)
  (by kernel_rfl) (by kernel_rfl) (by kernel_rfl) (Nat.le_of_ble_eq_true (by kernel_rfl)) (Nat.le_of_ble_eq_true (by kernel_rfl)) (by kernel_rfl) (by kernel_rfl) (fun s=>by kernel_rfl) (by kernel_rfl) (fun s=>⟨rfl,rfl,rfl⟩) (by kernel_rfl)
  (fun t0 c0 t1 x1 t2 x2 x y hl=>match c0,hl with | [c0,c1,c2,c3,c4,c5,c6,c7,c8,c9,c10],_=>runsE t0 t1 t2 c0 c1 c2 c3 c4 c5 c6 c7 c8 c9 c10 x1 x2 x y)
  fltU fltZ (fun e xs=>by simp) (by kernel_rfl) finE_pure resE ev hev args bx cr bx' hrun
theorem catSound:CatSound CC:=by
 intro f k hk ev hev args bx cr bx' hrun
 have h:catCC f=some k:=hk
 unfold catCC at h
 split at h
 · rename_i hf
   subst hf
   injection h with h
   subst h
   exact soundR ev hev args bx cr bx' hrun
 · split at h
   · rename_i hf
     subst hf
     injection h with h
     subst h
     exact soundE ev hev args bx cr bx' hrun
   · cases h
end Go.HH
namespace Go.HH
open Go Go.Proofs
set_option maxRecDepth 100000
set_option maxHeartbeats 4000000
set_option linter.unusedSimpArgs false
set_option linter.unusedVariables false
def BX (bx:List PBox) (id:Nat) (P:PBox) (ys:List PBox):List PBox:=bx.set id P++ys
def clB (bx:List PBox):Prop:=bx.all (·.under bx.length)=true
mutual
theorem under_mono {n m:Nat} (h:n<=m):∀ v:PV,v.under n=true->v.under m=true
 | .top,k=>by simp [PV.under] at k
 | .bool _,_=>by simp [PV.under]
 | .int _ _,_=>by simp [PV.under]
 | .str _,_=>by simp [PV.under]
 | .nils,_=>by simp [PV.under]
 | .sl xs,k=>by simp only [PV.under] at k ⊢;exact underL_mono h xs k
 | .osl _ xs,k=>by simp only [PV.under] at k ⊢;exact underL_mono h xs k
 | .ip xs,k=>by simp only [PV.under] at k ⊢;exact underL_mono h xs k
 | .bp i _,k=>by simp only [PV.under,decide_eq_true_eq] at k ⊢;omega
 | .nilp,_=>by simp [PV.under]
 | .fn _ x y,k=>by
  simp only [PV.under,Bool.and_eq_true] at k ⊢
  exact ⟨underL_mono h x k.1,underL_mono h y k.2⟩
 | .nilf,_=>by simp [PV.under]
 | .iface _ v,k=>by simp only [PV.under] at k ⊢;exact under_mono h v k
 | .nili,_=>by simp [PV.under]
 | .agg xs,k=>by simp only [PV.under] at k ⊢;exact underL_mono h xs k
 | .tup xs,k=>by simp only [PV.under] at k ⊢;exact underL_mono h xs k
theorem underL_mono {n m:Nat} (h:n<=m):∀ vs:List PV,underL n vs=true->underL m vs=true
 | [],_=>by simp [underL]
 | v :: r,k=>by
  simp only [underL,Bool.and_eq_true] at k ⊢
  exact ⟨under_mono h v k.1,underL_mono h r k.2⟩
end
theorem PBox.under_mono {n m:Nat} (h:n<=m) (b:PBox) (k:b.under n=true):b.under m=true:=by
 cases b with
 | cells t cs=>exact underL_mono h cs k
 | iter _ _=>rfl
section
variable {bx:List PBox} {id:Nat} {P:PBox} {ys:List PBox}
theorem BX_get (h:id < bx.length):(BX bx id P ys)[id]?=some P:=by
 unfold BX
 rw [List.getElem?_append_left (by simpa using h),List.getElem?_set_self h]
theorem BX_set (h:id < bx.length) (P':PBox):(BX bx id P ys).set id P'=BX bx id P' ys:=by
 unfold BX
 rw [List.set_append_left _ _ (by simpa using h),List.set_set]
theorem BX_app (x:List PBox):BX bx id P ys++x=BX bx id P (ys++x):=by unfold BX;rw [List.append_assoc]
theorem BX_len:(BX bx id P ys).length=bx.length+ys.length:=by simp [BX]
theorem BX_get0:(BX bx id P ys)[bx.length]?=ys[0]?:=by
 unfold BX
 rw [List.getElem?_append_right (by simp)]
 simp
theorem BX_getx (k:Nat):(BX bx id P ys)[bx.length+k]?=ys[k]?:=by
 unfold BX
 rw [List.getElem?_append_right (by simp)]
 simp
theorem BX_set0 (y:PBox):(BX bx id P ys).set bx.length y=BX bx id P (ys.set 0 y):=by
 unfold BX
 rw [List.set_append_right _ _ (by simp)]
 simp
theorem BX_setx (k:Nat) (y:PBox):(BX bx id P ys).set (bx.length+k) y=BX bx id P (ys.set k y):=by
 unfold BX
 rw [List.set_append_right _ _ (by simp)]
 simp
theorem BX_nil (h:bx[id]?=some P):BX bx id P []=bx:=by
 unfold BX
 rw [List.append_nil]
 exact set_same' h
where
 set_same' {bx:List PBox} {id:Nat} {b:PBox} (h:bx[id]?=some b):bx.set id b=bx:=by
  apply List.ext_getElem?
  intro j
  rw [List.getElem?_set]
  by_cases e:id=j
  · subst e
    obtain ⟨h1,_⟩:=List.getElem?_eq_some_iff.1 h
    rw [if_pos rfl,if_pos h1,h]
  · rw [if_neg e]
theorem clB_BX (hc:clB bx) (hP:P.under bx.length=true) (hy:ys.all (·.under (bx.length+ys.length))=true):clB (BX bx id P ys):=by
 unfold clB at *
 rw [BX_len]
 unfold BX
 rw [List.all_append,hy,Bool.and_true,List.all_eq_true]
 intro x hx
 have hx:=List.mem_or_eq_of_mem_set hx
 rcases hx with hx | rfl
 · rw [List.all_eq_true] at hc
   exact PBox.under_mono (by omega) x (hc x hx)
 · exact PBox.under_mono (by omega) _ hP
theorem clB_set (hc:clB bx) (hP:P.under bx.length=true):clB (bx.set id P):=by
 have:=clB_BX (id:=id) (ys:=[]) hc hP rfl
 unfold BX at this
 rwa [List.append_nil] at this
theorem op_BX {f:FuncId} {args:List PV} {r:CR} {P':PBox} (hp:pureL args=false) (hc:clB bx) (hb:bx[id]?=some P) (hP:P'.under bx.length=true) (hr:r.under bx.length=true) (h:∃ ys,callL CC f args (BX bx id P [])=some (r,BX bx id P' ys)) :
 callOp CC (callL CC) f args bx=some (r,bx.set id P'):=by
 obtain ⟨ys,h⟩:=h
 rw [BX_nil hb] at h
 unfold callOp
 rw [if_pos (by rw [hp];simp),h]
 simp only
 unfold truncB
 have ht:(BX bx id P' ys).take bx.length=bx.set id P':=by
  unfold BX
  rw [List.take_append_of_le_length (by simp),List.take_of_length_le (by simp)]
 rw [ht,hr]
 have:=clB_set (id:=id) hc hP
 unfold clB at this
 rw [List.length_set] at this
 rw [this]
 rfl
end
def PSR (L:List Tk) (i o:Nat) (RL:PV):PBox:=.cells 70 [.sl (tkVs L),.int .i64 (i:Int),.int .i64 (o:Int),RL]
def fltV (t:Nat) (e:Int):PV:=.iface 61 (.agg [.int .i64 (t:Int),.int .i64 e])
theorem tkVs_pure:∀ L:List Tk,pureL (tkVs L)=true
 | []=>rfl
 | t :: r=>by
  show ((tkV t).pure && pureL (tkVs r))=true
  rw [tkVs_pure r]
  rfl
theorem PSR_under {n:Nat} (L:List Tk) (i o:Nat) {RL:PV} (hR:RL.pure=true):(PSR L i o RL).under n=true:=by
 unfold PSR PBox.under
 simp only [underL,PV.under,underL_of_pure n _ (tkVs_pure L),under_of_pure n _ hR,Bool.and_self]
theorem fltV_under (n:Nat) (t:Nat) (e:Int):(CR.pan (fltV t e)).under n=true:=by simp [CR.under,fltV,PV.under,underL]
structure TokOK (L:List Tk):Prop where
 len:L.length<=4001
 pos:0 < L.length
 last:(tokAt L (L.length - 1)).1=0
 inner:∀ i,i+1 < L.length->(tokAt L i).1≠0
 at':∀ i,atT L i<=20000
 word:∀ i,(tokAt L i).2.1.length<=20000
 str:∀ i,(tokAt L i).1=3->(tokAt L i).2.1.length<=60
 num:∀ i,(tokAt L i).1=2->(∀ b ∈ (tokAt L i).2.1,48<=b.toNat∧b.toNat<=57)∧amtN (tokAt L i).2.1 0<=1099511627776
def hasP (L:List Tk) (i o:Nat) (RL:PV) (id:Nat) (B:List PBox):Prop:=clB B∧B[id]?=some (PSR L i o RL)
def OKc (f:FuncId) (xs:List PV) (id:Nat) (L:List Tk) (RL:PV) (i o:Nat) (v:PV) (j o':Nat):Prop:=
 ∀ B,hasP L i o RL id B->callOp CC (callL CC) f (.bp id 0 :: xs) B=some (.ret v,B.set id (PSR L j o' RL))
def BADx (f:FuncId) (xs:List PV) (id:Nat) (L:List Tk) (RL:PV) (i o:Nat) (t:Nat) (e:Int) (i' o':Nat):Prop:=
 ∀ B,hasP L i o RL id B->callOp CC (callL CC) f (.bp id 0 :: xs) B=some (.pan (fltV t e),B.set id (PSR L i' o' RL))
def ANS {α:Type} (f:FuncId) (xs:List PV) (id:Nat) (L:List Tk) (RL:PV) (i o:Nat) (enc:α->PV) (r:PR α):Prop:=match r with
 | .ok a j=>OKc f xs id L RL i o (enc a) j o
 | .bad t e=>∃ i' o',BADx f xs id L RL i o t e i' o'
 | .out=>True
theorem hasP_BX {bx:List PBox} {id:Nat} {L:List Tk} {i o i0 o0:Nat} {RL:PV} {ys:List PBox} (hid:id < bx.length) (hc:clB bx) (hR:RL.pure=true) (hy:ys.all (·.under (bx.length+ys.length))=true):hasP L i o RL id (BX bx id (PSR L i o RL) ys):=
 ⟨clB_BX hc (PSR_under L i o hR) hy,BX_get hid⟩
theorem tkV_under (n:Nat) (t:Tk):(tkV t).under n=true:=by simp [tkV,PV.under,underL]
theorem tok_get {L:List Tk} {i:Nat} (h:i < L.length):(tkVs L)[i]?=some (tkV (tokAt L i)):=by
 unfold tkVs tokAt
 rw [List.getElem?_map,List.getD_eq_getElem?_getD,List.getElem?_eq_getElem h]
 rfl
noncomputable def fPP:Array Field:=match CC.P.underlying 70 with | some (.struct f)=>f | _=>#[]
noncomputable def fPF:Array Field:=match CC.P.underlying 61 with | some (.struct f)=>f | _=>#[]
theorem PPU:CC.P.underlying 70=some (.struct fPP)∧CC.P.underlying 61=some (.struct fPF):=⟨by kernel_rfl,by kernel_rfl⟩
theorem ZC:zeroCells CC 66=some [.int .i64 0,.str [],.int .i64 0] ∧
 zeroCells CC 34=some [.int .i64 0,.int .i64 0,.int .i64 0,.str [],.int .i64 0,.int .i64 0,.str [],.int .i64 0,.str [],.str [],.nils] ∧
 zeroCells CC 31=some [.int .i64 0,.str [],.str []] ∧
 zeroCells CC 59=some [.int .i64 0,.int .i64 0,.str [],.str [],.int .i64 0,.str [],.str [],.str [],.int .i64 0,.int .i64 0] ∧
 zeroCells CC 41=some [.int .i64 0,.int .i64 0,.str [],.str [],.str [],.int .i64 0,.int .i64 0,.int .i64 0,.str [],.int .i64 0,.int .i64 0,.str [],.int .i64 0,.str [],.str [],.nils] ∧
 zeroCells CC 37=some [.str [],.int .i64 0,.nils,.int .i64 0,.int .i64 0,.int .i64 0,.str [],.int .i64 0,.int .i64 0,.str [],.int .i64 0,.str [],.str [],.nils,.nils] ∧
 zeroCells CC 23=some [.nils] ∧
 zeroCells CC 3=some [.int .i64 0] ∧
 zeroCells CC 24=some [.int .i64 0]:=
 ⟨by kernel_rfl,by kernel_rfl,by kernel_rfl,by kernel_rfl,by kernel_rfl,by kernel_rfl,by kernel_rfl,by kernel_rfl,by kernel_rfl⟩
theorem SU:(∀ n t cs,(PBox.cells t cs).under n=underL n cs)∧(∀ n,underL n []=true)∧(∀ n v r,underL n (v :: r)=(v.under n && underL n r))∧(∀ n k x,(PV.int k x).under n=true)∧(∀ n x,(PV.str x).under n=true)∧(∀ n x,(PV.bool x).under n=true) ∧
 (∀ n cs,(PV.agg cs).under n=underL n cs)∧(∀ n cs,(PV.sl cs).under n=underL n cs)∧(∀ n,PV.nils.under n=true)∧(∀ n t,(tkV t).under n=true)∧(∀ b,(true && b)=b)∧(∀ p:PBox->Bool,([]:List PBox).all p=true)∧(∀ (p:PBox->Bool) x r,(x :: r).all p=(p x && r.all p)):=
 ⟨fun _ _ _=>rfl,fun _=>by simp [underL],fun _ _ _=>by simp [underL],fun _ _ _=>by simp [PV.under],fun _ _=>by simp [PV.under],fun _ _=>by simp [PV.under],fun _ _=>by simp [PV.under],fun _ _=>by simp [PV.under],fun _=>by simp [PV.under],tkV_under,fun _=>rfl,fun _=>rfl,fun _ _ _=>rfl⟩
theorem PZ:(type_of% @ZC)∧(type_of% @BX_get)∧(type_of% @BX_set)∧(type_of% @BX_app)∧(type_of% @BX_len)∧(type_of% @BX_get0)∧(type_of% @BX_getx)∧(type_of% @BX_set0)∧(type_of% @BX_setx):=⟨@ZC,@BX_get,@BX_set,@BX_app,@BX_len,@BX_get0,@BX_getx,@BX_set0,@BX_setx⟩
theorem PY:(type_of% @PPU)∧(type_of% @SU)∧(type_of% @tkV.eq_def)∧(type_of% @partP.eq_def)∧(type_of% @List.set_cons_zero.{0})∧(type_of% @List.set_cons_succ.{0})∧(type_of% @Nat.add_zero)∧(type_of% @nchP.eq_def):=⟨@PPU,@SU,@tkV.eq_def,@partP.eq_def,@List.set_cons_zero,@List.set_cons_succ,@Nat.add_zero,@nchP.eq_def⟩
theorem natBeq (a b:Nat):((a:Int) == (b:Int))=(a == b):=by
 by_cases h:a=b
 · simp [h]
 · have:¬ (a:Int)=(b:Int):=by omega
   rw [beq_eq_false_iff_ne.2 h,beq_eq_false_iff_ne.2 this]
theorem natBne (a b:Nat):((a:Int) != (b:Int))=!(a == b):=by unfold bne;rw [natBeq]
theorem mkIf_s (f:Array Field) (t:TypeId) (v:PV):mkIf (some (.struct f)) t v=some (.iface t v):=rfl
theorem buildFlt (x y:Int):buildP CC 61 [(0,.int .i64 x),(1,.int .i64 y)]=some (.agg [.int .i64 x,.int .i64 y]):=by kernel_rfl
theorem okc_of {f:FuncId} {xs:List PV} {id:Nat} {L:List Tk} {RL:PV} {i o:Nat} {v:PV} {j o':Nat} (hR:RL.pure=true) (hv:∀ n,v.under n=true) (h:∀ bx,id < bx.length->clB bx->∃ ys,callL CC f (.bp id 0 :: xs) (BX bx id (PSR L i o RL) [])=some (.ret v,BX bx id (PSR L j o' RL) ys)):OKc f xs id L RL i o v j o':=
 fun B hB=>op_BX (P:=PSR L i o RL) (by simp [pureL,PV.pure]) hB.1 hB.2 (PSR_under L j o' hR) (by simp only [CR.under];exact hv _) (h B (List.getElem?_eq_some_iff.1 hB.2).1 hB.1)
theorem badx_of {f:FuncId} {xs:List PV} {id:Nat} {L:List Tk} {RL:PV} {i o t:Nat} {e:Int} {i' o':Nat} (hR:RL.pure=true) (h:∀ bx,id < bx.length->clB bx->∃ ys,callL CC f (.bp id 0 :: xs) (BX bx id (PSR L i o RL) [])=some (.pan (fltV t e),BX bx id (PSR L i' o' RL) ys)):BADx f xs id L RL i o t e i' o':=
 fun B hB=>op_BX (P:=PSR L i o RL) (by simp [pureL,PV.pure]) hB.1 hB.2 (PSR_under L i' o' hR) (fltV_under _ _ _) (h B (List.getElem?_eq_some_iff.1 hB.2).1 hB.1)
section
variable {bx:List PBox} {id:Nat} {L:List Tk} {i o:Nat} {RL:PV} (hid:id < bx.length) (hc:clB bx) (hR:RL.pure=true)
include hid hc hR
theorem okc_use {f:FuncId} {xs:List PV} {v:PV} {j o':Nat} (h:OKc f xs id L RL i o v j o') (ys:List PBox) (hy:ys.all (·.under (bx.length+ys.length))=true) :
 callOp CC (callL CC) f (.bp id 0 :: xs) (BX bx id (.cells 70 [.sl (tkVs L),.int .i64 (i:Int),.int .i64 (o:Int),RL]) ys)=some (.ret v,BX bx id (.cells 70 [.sl (tkVs L),.int .i64 (j:Int),.int .i64 (o':Int),RL]) ys):=by
 have:=h _ (hasP_BX (i0:=i) (o0:=o) hid hc hR hy)
 rw [BX_set hid] at this
 exact this
theorem badx_use {f:FuncId} {xs:List PV} {t:Nat} {e:Int} {i' o':Nat} (h:BADx f xs id L RL i o t e i' o') (ys:List PBox) (hy:ys.all (·.under (bx.length+ys.length))=true) :
 callOp CC (callL CC) f (.bp id 0 :: xs) (BX bx id (.cells 70 [.sl (tkVs L),.int .i64 (i:Int),.int .i64 (o:Int),RL]) ys)=some (.pan (fltV t e),BX bx id (.cells 70 [.sl (tkVs L),.int .i64 (i':Int),.int .i64 (o':Int),RL]) ys):=by
 have:=h _ (hasP_BX (i0:=i) (o0:=o) hid hc hR hy)
 rw [BX_set hid] at this
 exact this
end
end Go.HH
namespace Go.HH
open Go Go.Proofs
set_option maxRecDepth 100000
set_option maxHeartbeats 4000000
set_option linter.unusedSimpArgs false
set_option linter.unusedVariables false
theorem ok_parse_parser_token:fnOK CC Try.f25 (Try.f25.body.getD .skip)=true:=by kernel_rfl
theorem fat_parse_parser_token:CC.P.funcs[25]?=some Try.f25:=by kernel_rfl
theorem ok_parse_parser_fail:fnOK CC Try.f38 (Try.f38.body.getD .skip)=true:=by kernel_rfl
theorem fat_parse_parser_fail:CC.P.funcs[38]?=some Try.f38:=by kernel_rfl
theorem ok_parse_parser_is:fnOK CC Try.f37 (Try.f37.body.getD .skip)=true:=by kernel_rfl
theorem fat_parse_parser_is:CC.P.funcs[37]?=some Try.f37:=by kernel_rfl
theorem ok_parse_parser_take:fnOK CC Try.f57 (Try.f57.body.getD .skip)=true:=by kernel_rfl
theorem fat_parse_parser_take:CC.P.funcs[57]?=some Try.f57:=by kernel_rfl
theorem ok_parse_parser_word:fnOK CC Try.f42 (Try.f42.body.getD .skip)=true:=by kernel_rfl
theorem fat_parse_parser_word:CC.P.funcs[42]?=some Try.f42:=by kernel_rfl
theorem ok_parse_parser_op:fnOK CC Try.f63 (Try.f63.body.getD .skip)=true:=by kernel_rfl
theorem fat_parse_parser_op:CC.P.funcs[63]?=some Try.f63:=by kernel_rfl
theorem ok_parse_parser_must:fnOK CC Try.f39 (Try.f39.body.getD .skip)=true:=by kernel_rfl
theorem fat_parse_parser_must:CC.P.funcs[39]?=some Try.f39:=by kernel_rfl
theorem ok_parse_parser_one:fnOK CC Try.f35 (Try.f35.body.getD .skip)=true:=by kernel_rfl
theorem fat_parse_parser_one:CC.P.funcs[35]?=some Try.f35:=by kernel_rfl
theorem ok_parse_parser_name:fnOK CC Try.f40 (Try.f40.body.getD .skip)=true:=by kernel_rfl
theorem fat_parse_parser_name:CC.P.funcs[40]?=some Try.f40:=by kernel_rfl
theorem okc_token {id:Nat} {L:List Tk} {i o:Nat} {RL:PV} (hR:RL.pure=true) (hi:i < L.length):OKc 25 [] id L RL i o (tkV (tokAt L i)) i o:=by
 refine okc_of hR (fun n=>tkV_under n _) fun bx hid hc=>?_
 rw [callL_enter (fn:=Try.f25) (c:=Try.f25.body.getD .skip) rfl rfl fat_parse_parser_token rfl ok_parse_parser_token (Nat.le_of_ble_eq_true rfl)]
 have pbp:pureL [PV.bp id 0]=false:=rfl
 unfold PSR
 have hg:=tok_get hi
 have hi0:¬ ((i:Int) < 0):=by omega
 generalize tokAt L i=t at *
 unfold tkV at *
 obtain ⟨ev,eo,so,co,⟨hev,hco⟩,R⟩:=RULES CC;rw [<- hev]
 simp only [fpart,part',Try.f25,Option.getD]
 simp only [S9,R,seval,PY,PZ,pbp,hg,hi0,hid]
 exact ⟨_,rfl⟩
theorem badx_fail {id:Nat} {L:List Tk} {i o:Nat} {RL:PV} (hR:RL.pure=true) (k:Nat) (tx:List UInt8) (a:Nat) (e:Int):BADx 38 [.agg [.int .i64 (k:Int),.str tx,.int .i64 (a:Int)],.int .i64 e] id L RL i o a e i o:=by
 refine badx_of hR fun bx hid hc=>?_
 rw [callL_enter (fn:=Try.f38) (c:=Try.f38.body.getD .skip) rfl rfl fat_parse_parser_fail rfl ok_parse_parser_fail (Nat.le_of_ble_eq_true rfl)]
 have pbp:pureL [PV.bp id 0]=false:=rfl
 unfold PSR fltV
 obtain ⟨ev,eo,so,co,⟨hev,hco⟩,R⟩:=RULES CC;rw [<- hev]
 simp only [fpart,part',Try.f38,Option.getD]
 simp only [S9,R,seval,PY,PZ,pbp,buildFlt,mkIf_s,hid]
 exact ⟨_,rfl⟩
theorem okc_is {id:Nat} {L:List Tk} {i o:Nat} {RL:PV} (hR:RL.pure=true) (hi:i < L.length) (k:Nat) (kk:Int) (hkk:kk=(k:Int)) (w:List UInt8):OKc 37 [.int .i64 kk,.str w] id L RL i o (.bool (isT L k w i)) i o:=by
 subst hkk
 refine okc_of hR (fun n=>by simp [PV.under]) fun bx hid hc=>?_
 have t1:=okc_use hid hc hR (okc_token (o:=o) hR hi)
 have hs:strP .eql (tokAt L i).2.1 w=some (.bool ((tokAt L i).2.1 == w)):=rfl
 unfold isT
 cases hk:(tokAt L i).1 == k with
 | false=>
  have hk':(((tokAt L i).1:Int) == (k:Int))=false:=by rw [natBeq];exact hk
  rw [callL_enter (fn:=Try.f37) (c:=Try.f37.body.getD .skip) rfl rfl fat_parse_parser_is rfl ok_parse_parser_is (Nat.le_of_ble_eq_true rfl)]
  have pbp:pureL [PV.bp id 0]=false:=rfl
  unfold PSR
  obtain ⟨ev,eo,so,co,⟨hev,hco⟩,R⟩:=RULES CC;rw [<- hev]
  rw [<- hco] at t1
  simp only [fpart,part',Try.f37,Option.getD]
  simp only [S9,R,seval,PY,PZ,pbp,t1,hk',hs,Bool.false_and,hid]
  exact ⟨_,rfl⟩
 | true=>
  have hk':(((tokAt L i).1:Int) == (k:Int))=true:=by rw [natBeq];exact hk
  rw [callL_enter (fn:=Try.f37) (c:=Try.f37.body.getD .skip) rfl rfl fat_parse_parser_is rfl ok_parse_parser_is (Nat.le_of_ble_eq_true rfl)]
  have pbp:pureL [PV.bp id 0]=false:=rfl
  unfold PSR
  obtain ⟨ev,eo,so,co,⟨hev,hco⟩,R⟩:=RULES CC;rw [<- hev]
  rw [<- hco] at t1
  simp only [fpart,part',Try.f37,Option.getD]
  simp only [S9,R,seval,PY,PZ,pbp,t1,hk',hs,Bool.true_and,hid]
  exact ⟨_,rfl⟩
theorem okc_take_t {id:Nat} {L:List Tk} {i o:Nat} {RL:PV} (hR:RL.pure=true) (hi:i < L.length) (hT:TokOK L) (k:Nat) (kk:Int) (hkk:kk=(k:Int)) (w:List UInt8) (hk:isT L k w i=true):OKc 57 [.int .i64 kk,.str w] id L RL i o (.bool true) (i+1) o:=by
 refine okc_of hR (fun n=>by simp [PV.under]) fun bx hid hc=>?_
 have t1:=okc_use hid hc hR (okc_is (o:=o) hR hi k kk hkk w)
 rw [hk] at t1
 have hw:IntKind.wrap .i64 ((i:Int)+1)=((i+1:Nat):Int):=by rw [wrap_i64 ⟨by omega,by have:=hT.len;omega⟩];omega
 rw [callL_enter (fn:=Try.f57) (c:=Try.f57.body.getD .skip) rfl rfl fat_parse_parser_take rfl ok_parse_parser_take (Nat.le_of_ble_eq_true rfl)]
 have pbp:pureL [PV.bp id 0]=false:=rfl
 unfold PSR
 obtain ⟨ev,eo,so,co,⟨hev,hco⟩,R⟩:=RULES CC;rw [<- hev]
 rw [<- hco] at t1
 simp only [fpart,part',Try.f57,Option.getD]
 simp only [S9,R,seval,PY,PZ,pbp,t1,hw,hid]
 exact ⟨_,rfl⟩
theorem okc_take_f {id:Nat} {L:List Tk} {i o:Nat} {RL:PV} (hR:RL.pure=true) (hi:i < L.length) (hT:TokOK L) (k:Nat) (kk:Int) (hkk:kk=(k:Int)) (w:List UInt8) (hk:isT L k w i=false):OKc 57 [.int .i64 kk,.str w] id L RL i o (.bool false) i o:=by
 refine okc_of hR (fun n=>by simp [PV.under]) fun bx hid hc=>?_
 have t1:=okc_use hid hc hR (okc_is (o:=o) hR hi k kk hkk w)
 rw [hk] at t1
 have hw:IntKind.wrap .i64 ((i:Int)+1)=((i+1:Nat):Int):=by rw [wrap_i64 ⟨by omega,by have:=hT.len;omega⟩];omega
 rw [callL_enter (fn:=Try.f57) (c:=Try.f57.body.getD .skip) rfl rfl fat_parse_parser_take rfl ok_parse_parser_take (Nat.le_of_ble_eq_true rfl)]
 have pbp:pureL [PV.bp id 0]=false:=rfl
 unfold PSR
 obtain ⟨ev,eo,so,co,⟨hev,hco⟩,R⟩:=RULES CC;rw [<- hev]
 rw [<- hco] at t1
 simp only [fpart,part',Try.f57,Option.getD]
 simp only [S9,R,seval,PY,PZ,pbp,t1,hw,hid]
 exact ⟨_,rfl⟩
theorem okc_word_t {id:Nat} {L:List Tk} {i o:Nat} {RL:PV} (hR:RL.pure=true) (hi:i < L.length) (hT:TokOK L) (w:List UInt8) (hk:isT L 1 w i=true):OKc 42 [.str w] id L RL i o (.bool true) (i+1) o:=by
 refine okc_of hR (fun n=>by simp [PV.under]) fun bx hid hc=>?_
 have t1:=okc_use hid hc hR (okc_take_t (o:=o) hR hi hT 1 1 rfl w hk)
 rw [callL_enter (fn:=Try.f42) (c:=Try.f42.body.getD .skip) rfl rfl fat_parse_parser_word rfl ok_parse_parser_word (Nat.le_of_ble_eq_true rfl)]
 have pbp:pureL [PV.bp id 0]=false:=rfl
 unfold PSR
 obtain ⟨ev,eo,so,co,⟨hev,hco⟩,R⟩:=RULES CC;rw [<- hev]
 rw [<- hco] at t1
 simp only [fpart,part',Try.f42,Option.getD]
 simp only [S9,R,seval,PY,PZ,pbp,t1,hid]
 exact ⟨_,rfl⟩
theorem okc_word_f {id:Nat} {L:List Tk} {i o:Nat} {RL:PV} (hR:RL.pure=true) (hi:i < L.length) (hT:TokOK L) (w:List UInt8) (hk:isT L 1 w i=false):OKc 42 [.str w] id L RL i o (.bool false) i o:=by
 refine okc_of hR (fun n=>by simp [PV.under]) fun bx hid hc=>?_
 have t1:=okc_use hid hc hR (okc_take_f (o:=o) hR hi hT 1 1 rfl w hk)
 rw [callL_enter (fn:=Try.f42) (c:=Try.f42.body.getD .skip) rfl rfl fat_parse_parser_word rfl ok_parse_parser_word (Nat.le_of_ble_eq_true rfl)]
 have pbp:pureL [PV.bp id 0]=false:=rfl
 unfold PSR
 obtain ⟨ev,eo,so,co,⟨hev,hco⟩,R⟩:=RULES CC;rw [<- hev]
 rw [<- hco] at t1
 simp only [fpart,part',Try.f42,Option.getD]
 simp only [S9,R,seval,PY,PZ,pbp,t1,hid]
 exact ⟨_,rfl⟩
theorem okc_op_t {id:Nat} {L:List Tk} {i o:Nat} {RL:PV} (hR:RL.pure=true) (hi:i < L.length) (hT:TokOK L) (w:List UInt8) (hk:isT L 4 w i=true):OKc 63 [.str w] id L RL i o (.bool true) (i+1) o:=by
 refine okc_of hR (fun n=>by simp [PV.under]) fun bx hid hc=>?_
 have t1:=okc_use hid hc hR (okc_take_t (o:=o) hR hi hT 4 4 rfl w hk)
 rw [callL_enter (fn:=Try.f63) (c:=Try.f63.body.getD .skip) rfl rfl fat_parse_parser_op rfl ok_parse_parser_op (Nat.le_of_ble_eq_true rfl)]
 have pbp:pureL [PV.bp id 0]=false:=rfl
 unfold PSR
 obtain ⟨ev,eo,so,co,⟨hev,hco⟩,R⟩:=RULES CC;rw [<- hev]
 rw [<- hco] at t1
 simp only [fpart,part',Try.f63,Option.getD]
 simp only [S9,R,seval,PY,PZ,pbp,t1,hid]
 exact ⟨_,rfl⟩
theorem okc_op_f {id:Nat} {L:List Tk} {i o:Nat} {RL:PV} (hR:RL.pure=true) (hi:i < L.length) (hT:TokOK L) (w:List UInt8) (hk:isT L 4 w i=false):OKc 63 [.str w] id L RL i o (.bool false) i o:=by
 refine okc_of hR (fun n=>by simp [PV.under]) fun bx hid hc=>?_
 have t1:=okc_use hid hc hR (okc_take_f (o:=o) hR hi hT 4 4 rfl w hk)
 rw [callL_enter (fn:=Try.f63) (c:=Try.f63.body.getD .skip) rfl rfl fat_parse_parser_op rfl ok_parse_parser_op (Nat.le_of_ble_eq_true rfl)]
 have pbp:pureL [PV.bp id 0]=false:=rfl
 unfold PSR
 obtain ⟨ev,eo,so,co,⟨hev,hco⟩,R⟩:=RULES CC;rw [<- hev]
 rw [<- hco] at t1
 simp only [fpart,part',Try.f63,Option.getD]
 simp only [S9,R,seval,PY,PZ,pbp,t1,hid]
 exact ⟨_,rfl⟩
theorem ans_must {id:Nat} {L:List Tk} {i o:Nat} {RL:PV} (hR:RL.pure=true) (hi:i < L.length) (hT:TokOK L) (k:Nat) (kk:Int) (hkk:kk=(k:Int)) (w:List UInt8):ANS 39 [.int .i64 kk,.str w] id L RL i o (fun _=>.tup []) (mustP L k w i):=by
 unfold mustP
 cases hk:isT L k w i with
 | true=>
  refine okc_of hR (fun n=>by simp [PV.under,underL]) fun bx hid hc=>?_
  have t1:=okc_use hid hc hR (okc_take_t (o:=o) hR hi hT k kk hkk w hk)
  rw [callL_enter (fn:=Try.f39) (c:=Try.f39.body.getD .skip) rfl rfl fat_parse_parser_must rfl ok_parse_parser_must (Nat.le_of_ble_eq_true rfl)]
  have pbp:pureL [PV.bp id 0]=false:=rfl
  unfold PSR
  obtain ⟨ev,eo,so,co,⟨hev,hco⟩,R⟩:=RULES CC;rw [<- hev]
  rw [<- hco] at t1
  simp only [fpart,part',Try.f39,Option.getD]
  simp only [S9,R,seval,PY,PZ,pbp,t1,hid]
  exact ⟨_,rfl⟩
 | false=>
  refine ⟨i,o,badx_of hR fun bx hid hc=>?_⟩
  have t1:=okc_use hid hc hR (okc_take_f (o:=o) hR hi hT k kk hkk w hk)
  have t2:=okc_use hid hc hR (okc_token (o:=o) hR hi)
  have t3:=badx_use hid hc hR (badx_fail (i:=i) (o:=o) (L:=L) hR (tokAt L i).1 (tokAt L i).2.1 (tokAt L i).2.2 12)
  rw [callL_enter (fn:=Try.f39) (c:=Try.f39.body.getD .skip) rfl rfl fat_parse_parser_must rfl ok_parse_parser_must (Nat.le_of_ble_eq_true rfl)]
  have pbp:pureL [PV.bp id 0]=false:=rfl
  unfold PSR atT
  obtain ⟨ev,eo,so,co,⟨hev,hco⟩,R⟩:=RULES CC;rw [<- hev]
  rw [<- hco] at t1 t2 t3
  simp only [fpart,part',Try.f39,Option.getD]
  simp only [S9,R,seval,PY,PZ,pbp,t1,t2,t3,hid]
  exact ⟨_,rfl⟩
theorem ans_one {id:Nat} {L:List Tk} {i o:Nat} {RL:PV} (hR:RL.pure=true) (hi:i < L.length) (hT:TokOK L) (k:Nat) (kk:Int) (hkk:kk=(k:Int)):ANS 35 [.int .i64 kk] id L RL i o tkV (oneP L k i):=by
 subst hkk
 unfold oneP
 have hq:=natBne (tokAt L i).1 k
 have hw:IntKind.wrap .i64 ((i:Int)+1)=((i+1:Nat):Int):=by rw [wrap_i64 ⟨by omega,by have:=hT.len;omega⟩];omega
 by_cases hk:(tokAt L i).1=k
 · rw [if_pos hk]
   refine okc_of hR (fun n=>tkV_under n _) fun bx hid hc=>?_
   have t2:=okc_use hid hc hR (okc_token (o:=o) hR hi)
   rw [beq_iff_eq.2 hk] at hq
   rw [callL_enter (fn:=Try.f35) (c:=Try.f35.body.getD .skip) rfl rfl fat_parse_parser_one rfl ok_parse_parser_one (Nat.le_of_ble_eq_true rfl)]
   have pbp:pureL [PV.bp id 0]=false:=rfl
   unfold PSR
   obtain ⟨ev,eo,so,co,⟨hev,hco⟩,R⟩:=RULES CC;rw [<- hev]
   rw [<- hco] at t2
   simp only [fpart,part',Try.f35,Option.getD]
   simp only [S9,R,seval,PY,PZ,pbp,t2,hq,hw,hid]
   exact ⟨_,rfl⟩
 · rw [if_neg hk]
   refine ⟨i,o,badx_of hR fun bx hid hc=>?_⟩
   have t2:=okc_use hid hc hR (okc_token (o:=o) hR hi)
   have t3:=badx_use hid hc hR (badx_fail (i:=i) (o:=o) (L:=L) hR (tokAt L i).1 (tokAt L i).2.1 (tokAt L i).2.2 12)
   rw [beq_eq_false_iff_ne.2 hk] at hq
   rw [callL_enter (fn:=Try.f35) (c:=Try.f35.body.getD .skip) rfl rfl fat_parse_parser_one rfl ok_parse_parser_one (Nat.le_of_ble_eq_true rfl)]
   have pbp:pureL [PV.bp id 0]=false:=rfl
   unfold PSR atT
   obtain ⟨ev,eo,so,co,⟨hev,hco⟩,R⟩:=RULES CC;rw [<- hev]
   rw [<- hco] at t2 t3
   simp only [fpart,part',Try.f35,Option.getD]
   simp only [S9,R,seval,PY,PZ,pbp,t2,t3,hq,hid]
   exact ⟨_,rfl⟩
theorem ans_name {id:Nat} {L:List Tk} {i o:Nat} {RL:PV} (hR:RL.pure=true) (hi:i < L.length) (hT:TokOK L):ANS 40 [] id L RL i o (fun s=>.str s) (nameP L i):=by
 have h1:=ans_one (o:=o) (i:=i) hR hi hT 1 1 rfl (id:=id)
 have hv:=op_names_Valid (tokAt L i).2.1 (by have:=hT.word i;omega)
 unfold nameP
 unfold oneP at h1
 by_cases hk:(tokAt L i).1=1
 · rw [if_pos hk] at h1 ⊢
   cases hb:valB (tokAt L i).2.1 with
   | true=>
    rw [hb] at hv
    refine okc_of hR (fun n=>by simp [PV.under]) fun bx hid hc=>?_
    have t1:=okc_use hid hc hR h1
    rw [callL_enter (fn:=Try.f40) (c:=Try.f40.body.getD .skip) rfl rfl fat_parse_parser_name rfl ok_parse_parser_name (Nat.le_of_ble_eq_true rfl)]
    have pbp:pureL [PV.bp id 0]=false:=rfl
    unfold PSR
    obtain ⟨ev,eo,so,co,⟨hev,hco⟩,R⟩:=RULES CC;rw [<- hev]
    rw [<- hco] at t1 hv
    simp only [fpart,part',Try.f40,Option.getD]
    simp only [S9,R,seval,PY,PZ,pbp,t1,hv,hid]
    exact ⟨_,rfl⟩
   | false=>
    rw [hb] at hv
    refine ⟨i+1,o,badx_of hR fun bx hid hc=>?_⟩
    have t1:=okc_use hid hc hR h1
    have t3:=badx_use hid hc hR (badx_fail (i:=i+1) (o:=o) (L:=L) hR (tokAt L i).1 (tokAt L i).2.1 (tokAt L i).2.2 10)
    rw [callL_enter (fn:=Try.f40) (c:=Try.f40.body.getD .skip) rfl rfl fat_parse_parser_name rfl ok_parse_parser_name (Nat.le_of_ble_eq_true rfl)]
    have pbp:pureL [PV.bp id 0]=false:=rfl
    unfold PSR atT
    obtain ⟨ev,eo,so,co,⟨hev,hco⟩,R⟩:=RULES CC;rw [<- hev]
    rw [<- hco] at t1 hv t3
    simp only [fpart,part',Try.f40,Option.getD]
    simp only [S9,R,seval,PY,PZ,pbp,t1,hv,t3,hid]
    exact ⟨_,rfl⟩
 · rw [if_neg hk] at h1 ⊢
   obtain ⟨i',o',h1⟩:=h1
   refine ⟨i',o',badx_of hR fun bx hid hc=>?_⟩
   have t1:=badx_use hid hc hR h1
   rw [callL_enter (fn:=Try.f40) (c:=Try.f40.body.getD .skip) rfl rfl fat_parse_parser_name rfl ok_parse_parser_name (Nat.le_of_ble_eq_true rfl)]
   have pbp:pureL [PV.bp id 0]=false:=rfl
   unfold PSR
   obtain ⟨ev,eo,so,co,⟨hev,hco⟩,R⟩:=RULES CC;rw [<- hev]
   rw [<- hco] at t1 hv
   simp only [fpart,part',Try.f40,Option.getD]
   simp only [S9,R,seval,PY,PZ,pbp,t1,hv,hid]
   exact ⟨_,rfl⟩
end Go.HH
namespace Go.HH
open Go Go.Proofs
set_option maxRecDepth 100000
set_option maxHeartbeats 4000000
set_option linter.unusedSimpArgs false
set_option linter.unusedVariables false
theorem ok_parse_amount:fnOK CC Try.f58 (Try.f58.body.getD .skip)=true:=by kernel_rfl
theorem fat_parse_amount:CC.P.funcs[58]?=some Try.f58:=by kernel_rfl
theorem ok_parse_parser_number:fnOK CC Try.f43 (Try.f43.body.getD .skip)=true:=by kernel_rfl
theorem fat_parse_parser_number:CC.P.funcs[43]?=some Try.f43:=by kernel_rfl
theorem ok_parse_parser_two:fnOK CC Try.f79 (Try.f79.body.getD .skip)=true:=by kernel_rfl
theorem fat_parse_parser_two:CC.P.funcs[79]?=some Try.f79:=by kernel_rfl
theorem ok_parse_parser_path:fnOK CC Try.f60 (Try.f60.body.getD .skip)=true:=by kernel_rfl
theorem fat_parse_parser_path:CC.P.funcs[60]?=some Try.f60:=by kernel_rfl
theorem ok_parse_parser_key:fnOK CC Try.f59 (Try.f59.body.getD .skip)=true:=by kernel_rfl
theorem fat_parse_parser_key:CC.P.funcs[59]?=some Try.f59:=by kernel_rfl
theorem ok_parse_parser_clock:fnOK CC Try.f61 (Try.f61.body.getD .skip)=true:=by kernel_rfl
theorem fat_parse_parser_clock:CC.P.funcs[61]?=some Try.f61:=by kernel_rfl
theorem ok_parse_parser_enter:fnOK CC Try.f68 (Try.f68.body.getD .skip)=true:=by kernel_rfl
theorem fat_parse_parser_enter:CC.P.funcs[68]?=some Try.f68:=by kernel_rfl
theorem ok_parse_literal:fnOK CC Try.f41 (Try.f41.body.getD .skip)=true:=by kernel_rfl
theorem fat_parse_literal:CC.P.funcs[41]?=some Try.f41:=by kernel_rfl
theorem ok_parse_node:fnOK CC Try.f69 (Try.f69.body.getD .skip)=true:=by kernel_rfl
theorem fat_parse_node:CC.P.funcs[69]?=some Try.f69:=by kernel_rfl
theorem next_lt {L:List Tk} {i:Nat} (hT:TokOK L) (hi:i < L.length) (h:(tokAt L i).1≠0):i+1 < L.length:=by
 rcases Nat.lt_or_ge (i+1) L.length with h1 | h1
 · exact h1
 · have:i=L.length - 1:=by omega
   rw [this] at h
   exact absurd hT.last h
theorem isT_lt {L:List Tk} {i k:Nat} {w:List UInt8} (hT:TokOK L) (hi:i < L.length) (h:isT L k w i=true) (hk:k≠0):i+1 < L.length:=by
 refine next_lt hT hi ?_
 unfold isT at h
 simp only [Bool.and_eq_true,beq_iff_eq] at h
 rw [h.1];exact hk
theorem bind_ok {α β:Type} {r:PR α} {f:α->Nat->PR β} {b:β} {j:Nat} (h:r.bind f=.ok b j):∃ a k,r=.ok a k∧f a k=.ok b j:=by
 cases r with
 | ok a k=>exact ⟨a,k,rfl,h⟩
 | bad t e=>cases h
 | out=>cases h
theorem mustP_lt {L:List Tk} {i k:Nat} {w:List UInt8} {a:Unit} {j:Nat} (hT:TokOK L) (hi:i < L.length) (hk:k≠0) (h:mustP L k w i=.ok a j):i < j∧j < L.length:=by
 unfold mustP at h
 split at h
 · rename_i hh
   injection h with _ h
   have:=isT_lt hT hi hh hk
   omega
 · cases h
theorem oneP_lt {L:List Tk} {i k:Nat} {a:Tk} {j:Nat} (hT:TokOK L) (hi:i < L.length) (hk:k≠0) (h:oneP L k i=.ok a j):i < j∧j < L.length:=by
 unfold oneP at h
 split at h
 · rename_i hh
   injection h with _ h
   have:=next_lt hT hi (by rw [hh];exact hk)
   omega
 · cases h
theorem nameP_lt {L:List Tk} {i:Nat} {a:List UInt8} {j:Nat} (hT:TokOK L) (hi:i < L.length) (h:nameP L i=.ok a j):i < j∧j < L.length:=by
 unfold nameP at h
 split at h
 · rename_i hh
   split at h
   · injection h with _ h
     have:=next_lt hT hi (by rw [hh];decide)
     omega
   · cases h
 · cases h
theorem nameP_valid {L:List Tk} {i:Nat} {a:List UInt8} {j:Nat} (h:nameP L i=.ok a j):valB a=true:=by
 unfold nameP at h
 split at h
 · split at h
   · rename_i hv
     injection h with h _
     rw [<- h];exact hv
   · cases h
 · cases h
theorem numP_lt {L:List Tk} {lo hi' i:Nat} {a j:Nat} (hT:TokOK L) (hi:i < L.length) (h:numP L lo hi' i=.ok a j):i < j∧j < L.length∧lo<=a∧a<=hi':=by
 unfold numP at h
 split at h
 · rename_i hh
   split at h
   · cases h
   · injection h with h1 h
     have:=next_lt hT hi (by rw [hh];decide)
     omega
 · cases h
theorem twoP_lt {L:List Tk} {hi' i:Nat} {a j:Nat} (hT:TokOK L) (hi:i < L.length) (h:twoP L hi' i=.ok a j):i < j∧j < L.length∧a<=hi':=by
 unfold twoP at h
 split at h
 · cases h
 · have:=numP_lt hT hi h
   omega
theorem ans_ok {α:Type} {f:FuncId} {xs:List PV} {id:Nat} {L:List Tk} {RL:PV} {i o:Nat} {enc:α->PV} {a:α} {j:Nat} (h:OKc f xs id L RL i o (enc a) j o):ANS f xs id L RL i o enc (.ok a j):=h
theorem ans_bad {α:Type} {f:FuncId} {xs:List PV} {id:Nat} {L:List Tk} {RL:PV} {i o:Nat} {enc:α->PV} {t:Nat} {e:Int} (h:∃ i' o',BADx f xs id L RL i o t e i' o'):ANS (α:=α) f xs id L RL i o enc (.bad t e):=h
theorem ans_out {α:Type} {f:FuncId} {xs:List PV} {id:Nat} {L:List Tk} {RL:PV} {i o:Nat} {enc:α->PV}:ANS (α:=α) f xs id L RL i o enc .out:=trivial
theorem amtN_ge:∀ (w:List UInt8) (n:Nat),n<=amtN w n
 | [],n=>Nat.le_refl n
 | b :: r,n=>by
  have:=amtN_ge r (10 * n+(b.toNat - 48))
  show n<=amtN r (10 * n+(b.toNat - 48))
  omega
theorem loop_amount (Lc:Code) (hL:Lc=fpart Try.f58 [1,1,0,1,0]) (k a:Int) (tx:List UInt8) (hs:tx.length<=20000) (hd:∀ b ∈ tx,48<=b.toNat∧b.toNat<=57) (hn:amtN tx 0<=1099511627776):∀ (m i n:Nat) (e:List PV),i+m=tx.length->amtN (tx.drop i) n=amtN tx 0->getT e 1=.bp 0 0->getT e 3=.int .i64 n->getT e 4=.int .i64 i ->
 ∃ e',evL CC Lc ⟨e,[.cells 66 [.int .i64 k,.str tx,.int .i64 a]]⟩=some (.exit 0,⟨e',[.cells 66 [.int .i64 k,.str tx,.int .i64 a]]⟩)∧getT e' 3=.int .i64 (amtN tx 0:Nat):=by
 intro m
 induction m with
 | zero=>
  intro i n e hm ha h1 h3 h4
  rw [evL_at (fpart Try.f58 [1,1,0,1,0,0]) hL]
  have hi:¬ (i:Int) < (tx.length:Int):=by omega
  have hlen:=len_str tx
  have hz:amtN (tx.drop i) n=n:=by rw [List.drop_of_length_le (by omega)];rfl
  rw [hz] at ha
  obtain ⟨ev,eo,so,co,⟨hev,hco⟩,R⟩:=RULES CC;rw [<- hev]
  simp only [fpart,part',Try.f58,Option.getD]
  simp only [S9,R,seval,ZC,nchP,List.set_cons_zero,List.set_cons_succ,h1,h3,h4,hi,hlen]
  exact ⟨_,rfl,by simp only [S7,R,seval,h3,ha]⟩
 | succ m ih=>
  intro i n e hm ha h1 h3 h4
  rw [evL_at (fpart Try.f58 [1,1,0,1,0,0]) hL]
  have hi:(i:Int) < (tx.length:Int):=by omega
  have hlen:=len_str tx
  have hx:tx[i]?=some tx[i]:=by simp
  have hix:=ix_str tx i tx[i] hx
  have hdd:=hd tx[i] (List.getElem_mem _)
  have hdr:tx.drop i=tx[i] :: tx.drop (i+1):=List.drop_eq_getElem_cons (by omega)
  rw [hdr] at ha
  generalize tx[i]=c at *
  have ha':amtN (tx.drop (i+1)) (10 * n+(c.toNat - 48))=amtN tx 0:=ha
  have hge:=amtN_ge (tx.drop (i+1)) (10 * n+(c.toNat - 48))
  have w2:IntKind.wrap .u8 ((c.toNat:Int) - 48)=(c.toNat:Int) - 48:=by simp [IntKind.wrap,IntKind.bits,IntKind.signed];omega
  have w3:=conv_u8_i ((c.toNat:Int) - 48) ⟨by omega,by omega⟩
  have w1:=wrap_i64 (n:=10 * (n:Int)) ⟨by omega,by omega⟩
  have w4:=wrap_i64 (n:=10 * (n:Int)+((c.toNat:Int) - 48)) ⟨by omega,by omega⟩
  have hw:=wrap_i64 (n:=(i:Int)+1) ⟨by omega,by omega⟩
  have hcast:((10 * n+(c.toNat - 48):Nat):Int)=10 * (n:Int)+((c.toNat:Int) - 48):=by omega
  have cast1:((i+1:Nat):Int)=(i:Int)+1:=by omega
  have key:=fun e=>ih (i+1) (10 * n+(c.toNat - 48)) e (by omega) ha'
  rw [hcast,cast1] at key
  obtain ⟨ev,eo,so,co,⟨hev,hco⟩,R⟩:=RULES CC;rw [<- hev]
  rw [<- hev] at key
  simp only [fpart,part',Try.f58,Option.getD]
  simp only [S9,R,seval,ZC,nchP,List.set_cons_zero,List.set_cons_succ,h1,h3,h4,hi,hlen,hix,w1,w2,w3,w4,hw]
  refine key _ ?_ ?_ ?_
  · simp only [S7,R,seval,h1]
  · simp only [S7,R,seval]
  · simp only [S7,R,seval]
theorem op_parse_amount (t:Tk) (hs:t.2.1.length<=20000) (hd:∀ b ∈ t.2.1,48<=b.toNat∧b.toNat<=57) (hn:amtN t.2.1 0<=1099511627776) (bx):callOp CC (callL CC) 58 [tkV t] bx=some (.ret (.int .i64 (amtN t.2.1 0:Nat)),bx):=by
 suffices h:∃ b,callL CC 58 [tkV t] []=some (.ret (.int .i64 (amtN t.2.1 0:Nat)),b) by
  obtain ⟨b,h⟩:=h
  exact callOp_of rfl (by simp [pureL,PV.pure,tkV]) h rfl
 obtain ⟨k,tx,a⟩:=t
 simp only at hs hd hn
 unfold tkV
 simp only
 rw [callL_enter (fn:=Try.f58) (c:=Try.f58.body.getD .skip) rfl rfl fat_parse_amount rfl ok_parse_amount (Nat.le_of_ble_eq_true rfl)]
 have hloop:=fun e=>loop_amount _ rfl k a tx hs hd hn tx.length 0 0 e (by omega) rfl
 simp only [fpart,part',Try.f58,Option.getD] at hloop ⊢
 obtain ⟨ev,eo,so,co,⟨hev,hco⟩,R⟩:=RULES CC;rw [<- hev]
 rw [<- hev] at hloop
 simp only [S9,R,seval,ZC,nchP,List.set_cons_zero,List.set_cons_succ,hloop]
 generalize hE:ev _ _=z
 have hP:∃ e',z=some (.exit 0,⟨e',[.cells 66 [.int .i64 k,.str tx,.int .i64 a]]⟩)∧getT e' 3=.int .i64 (amtN tx 0:Nat):=by
  rw [<- hE]
  refine hloop _ ?_ ?_ ?_
  · simp only [S7,R,seval]
  · simp only [S7,R,seval] <;> rfl
  · simp only [S7,R,seval] <;> rfl
 obtain ⟨e',he,h3⟩:=hP
 subst he
 clear hE hloop
 simp only [S9,R,seval,ZC,nchP,List.set_cons_zero,List.set_cons_succ,h3]
 exact ⟨_,rfl⟩
theorem ans_number {id:Nat} {L:List Tk} {i o:Nat} {RL:PV} (hR:RL.pure=true) (hi:i < L.length) (hT:TokOK L) (lo hi':Nat) (klo khi:Int) (h1:klo=(lo:Int)) (h2:khi=(hi':Int)):ANS 43 [.int .i64 klo,.int .i64 khi] id L RL i o (fun n=>.int .i64 ((n:Nat):Int)) (numP L lo hi' i):=by
 have h3:=ans_one (o:=o) (i:=i) hR hi hT 2 2 rfl (id:=id)
 unfold numP
 unfold oneP at h3
 by_cases hk:(tokAt L i).1=2
 · rw [if_pos hk] at h3 ⊢
   have ham:=op_parse_amount (tokAt L i) (hT.word i) (hT.num i hk).1 (hT.num i hk).2
   generalize hA:amtN (tokAt L i).2.1 0=A at *
   by_cases c1:A < lo
   · rw [if_pos (.inl c1)]
     have c1':(A:Int) < klo:=by omega
     refine ⟨i+1,o,badx_of hR fun bx hid hc=>?_⟩
     have t1:=okc_use hid hc hR h3
     have t3:=badx_use hid hc hR (badx_fail (i:=i+1) (o:=o) (L:=L) hR (tokAt L i).1 (tokAt L i).2.1 (tokAt L i).2.2 2)
     rw [callL_enter (fn:=Try.f43) (c:=Try.f43.body.getD .skip) rfl rfl fat_parse_parser_number rfl ok_parse_parser_number (Nat.le_of_ble_eq_true rfl)]
     have pbp:pureL [PV.bp id 0]=false:=rfl
     unfold PSR atT tkV at *
     obtain ⟨ev,eo,so,co,⟨hev,hco⟩,R⟩:=RULES CC;rw [<- hev]
     rw [<- hco] at t1 ham t3
     simp only [fpart,part',Try.f43,Option.getD]
     simp only [S9,R,seval,PY,PZ,pbp,t1,ham,t3,c1',hid]
     exact ⟨_,rfl⟩
   · have c1':¬ (A:Int) < klo:=by omega
     by_cases c2:hi' < A
     · rw [if_pos (.inr c2)]
       have c2':(A:Int) > khi:=by omega
       refine ⟨i+1,o,badx_of hR fun bx hid hc=>?_⟩
       have t1:=okc_use hid hc hR h3
       have t3:=badx_use hid hc hR (badx_fail (i:=i+1) (o:=o) (L:=L) hR (tokAt L i).1 (tokAt L i).2.1 (tokAt L i).2.2 2)
       rw [callL_enter (fn:=Try.f43) (c:=Try.f43.body.getD .skip) rfl rfl fat_parse_parser_number rfl ok_parse_parser_number (Nat.le_of_ble_eq_true rfl)]
       have pbp:pureL [PV.bp id 0]=false:=rfl
       unfold PSR atT tkV at *
       obtain ⟨ev,eo,so,co,⟨hev,hco⟩,R⟩:=RULES CC;rw [<- hev]
       rw [<- hco] at t1 ham t3
       simp only [fpart,part',Try.f43,Option.getD]
       simp only [S9,R,seval,PY,PZ,pbp,t1,ham,t3,c1',c2',hid]
       exact ⟨_,rfl⟩
     · rw [if_neg (by omega)]
       have c2':¬ (A:Int) > khi:=by omega
       refine ans_ok (okc_of hR (fun n=>by simp [PV.under]) fun bx hid hc=>?_)
       have t1:=okc_use hid hc hR h3
       rw [callL_enter (fn:=Try.f43) (c:=Try.f43.body.getD .skip) rfl rfl fat_parse_parser_number rfl ok_parse_parser_number (Nat.le_of_ble_eq_true rfl)]
       have pbp:pureL [PV.bp id 0]=false:=rfl
       unfold PSR tkV at *
       obtain ⟨ev,eo,so,co,⟨hev,hco⟩,R⟩:=RULES CC;rw [<- hev]
       rw [<- hco] at t1 ham
       simp only [fpart,part',Try.f43,Option.getD]
       simp only [S9,R,seval,PY,PZ,pbp,t1,ham,c1',c2',hid]
       exact ⟨_,rfl⟩
 · rw [if_neg hk] at h3 ⊢
   obtain ⟨i',o',h3⟩:=h3
   refine ⟨i',o',badx_of hR fun bx hid hc=>?_⟩
   have t1:=badx_use hid hc hR h3
   rw [callL_enter (fn:=Try.f43) (c:=Try.f43.body.getD .skip) rfl rfl fat_parse_parser_number rfl ok_parse_parser_number (Nat.le_of_ble_eq_true rfl)]
   have pbp:pureL [PV.bp id 0]=false:=rfl
   unfold PSR
   obtain ⟨ev,eo,so,co,⟨hev,hco⟩,R⟩:=RULES CC;rw [<- hev]
   rw [<- hco] at t1
   simp only [fpart,part',Try.f43,Option.getD]
   simp only [S9,R,seval,PY,PZ,pbp,t1,hid]
   exact ⟨_,rfl⟩
end Go.HH
namespace Go.HH
open Go Go.Proofs
set_option maxRecDepth 100000
set_option maxHeartbeats 4000000
set_option linter.unusedSimpArgs false
set_option linter.unusedVariables false
def kyP (k:Ky):PV:=.agg [.int .i64 k.1,.str k.2.1,.str k.2.2]
theorem bind_okk {α β:Type} (a:α) (i:Nat) (f:α->Nat->PR β):(PR.ok a i).bind f=f a i:=rfl
theorem ans_two {id:Nat} {L:List Tk} {i o:Nat} {RL:PV} (hR:RL.pure=true) (hi:i < L.length) (hT:TokOK L) (hi':Nat) (khi:Int) (h2:khi=(hi':Int)):ANS 79 [.int .i64 khi] id L RL i o (fun n=>.int .i64 ((n:Nat):Int)) (twoP L hi' i):=by
 have h0:=okc_token (id:=id) (o:=o) hR hi
 have hq:=natBeq (tokAt L i).1 2
 have hlen:=len_str (tokAt L i).2.1
 have hl2:=natBne (tokAt L i).2.1.length 2
 have h1:=ans_number (id:=id) (o:=o) hR hi hT 0 hi' 0 khi rfl h2
 unfold twoP
 by_cases hk:(tokAt L i).1=2
 · rw [beq_iff_eq.2 hk] at hq
   have hq:(((tokAt L i).1:Int) == 2)=true:=hq
   by_cases hl:(tokAt L i).2.1.length=2
   · rw [if_neg (by omega)]
     rw [beq_iff_eq.2 hl] at hl2
     have hl2:(((tokAt L i).2.1.length:Int) != 2)=false:=hl2
     cases r1:numP L 0 hi' i with
     | out=>exact ans_out
     | bad t e=>
      rw [r1] at h1
      obtain ⟨i',o',h1⟩:=h1
      refine ans_bad ⟨i',o',badx_of hR fun bx hid hc=>?_⟩
      have t0:=okc_use hid hc hR h0
      have t1:=badx_use hid hc hR h1
      rw [callL_enter (fn:=Try.f79) (c:=Try.f79.body.getD .skip) rfl rfl fat_parse_parser_two rfl ok_parse_parser_two (Nat.le_of_ble_eq_true rfl)]
      have pbp:pureL [PV.bp id 0]=false:=rfl
      unfold PSR
      obtain ⟨ev,eo,so,co,⟨hev,hco⟩,R⟩:=RULES CC;rw [<- hev]
      rw [<- hco] at t0 t1
      simp only [fpart,part',Try.f79,Option.getD]
      simp only [S9,R,seval,PY,PZ,pbp,t0,t1,hq,hlen,hl2,Bool.true_and,hid]
      exact ⟨_,rfl⟩
     | ok a j=>
      rw [r1] at h1
      refine ans_ok (okc_of hR (fun n=>by simp [PV.under]) fun bx hid hc=>?_)
      have t0:=okc_use hid hc hR h0
      have t1:=okc_use hid hc hR h1
      rw [callL_enter (fn:=Try.f79) (c:=Try.f79.body.getD .skip) rfl rfl fat_parse_parser_two rfl ok_parse_parser_two (Nat.le_of_ble_eq_true rfl)]
      have pbp:pureL [PV.bp id 0]=false:=rfl
      unfold PSR
      obtain ⟨ev,eo,so,co,⟨hev,hco⟩,R⟩:=RULES CC;rw [<- hev]
      rw [<- hco] at t0 t1
      simp only [fpart,part',Try.f79,Option.getD]
      simp only [S9,R,seval,PY,PZ,pbp,t0,t1,hq,hlen,hl2,Bool.true_and,hid]
      exact ⟨_,rfl⟩
   · rw [if_pos ⟨hk,hl⟩]
     rw [beq_eq_false_iff_ne.2 hl] at hl2
     have hl2:(((tokAt L i).2.1.length:Int) != 2)=true:=hl2
     refine ans_bad ⟨i,o,badx_of hR fun bx hid hc=>?_⟩
     have t0:=okc_use hid hc hR h0
     have t3:=badx_use hid hc hR (badx_fail (i:=i) (o:=o) (L:=L) hR (tokAt L i).1 (tokAt L i).2.1 (tokAt L i).2.2 12)
     rw [callL_enter (fn:=Try.f79) (c:=Try.f79.body.getD .skip) rfl rfl fat_parse_parser_two rfl ok_parse_parser_two (Nat.le_of_ble_eq_true rfl)]
     have pbp:pureL [PV.bp id 0]=false:=rfl
     unfold PSR atT
     obtain ⟨ev,eo,so,co,⟨hev,hco⟩,R⟩:=RULES CC;rw [<- hev]
     rw [<- hco] at t0 t3
     simp only [fpart,part',Try.f79,Option.getD]
     simp only [S9,R,seval,PY,PZ,pbp,t0,t3,hq,hlen,hl2,Bool.true_and,hid]
     exact ⟨_,rfl⟩
 · rw [if_neg (fun h=>hk h.1)]
   rw [beq_eq_false_iff_ne.2 hk] at hq
   have hq:(((tokAt L i).1:Int) == 2)=false:=hq
   have r1:numP L 0 hi' i=.bad (atT L i) 12:=by unfold numP;rw [if_neg hk]
   rw [r1] at h1 ⊢
   obtain ⟨i',o',h1⟩:=h1
   refine ans_bad ⟨i',o',badx_of hR fun bx hid hc=>?_⟩
   have t0:=okc_use hid hc hR h0
   have t1:=badx_use hid hc hR h1
   rw [callL_enter (fn:=Try.f79) (c:=Try.f79.body.getD .skip) rfl rfl fat_parse_parser_two rfl ok_parse_parser_two (Nat.le_of_ble_eq_true rfl)]
   have pbp:pureL [PV.bp id 0]=false:=rfl
   unfold PSR
   obtain ⟨ev,eo,so,co,⟨hev,hco⟩,R⟩:=RULES CC;rw [<- hev]
   rw [<- hco] at t0 t1
   simp only [fpart,part',Try.f79,Option.getD]
   simp only [S9,R,seval,PY,PZ,pbp,t0,t1,hq,Bool.false_and,hid]
   exact ⟨_,rfl⟩
theorem ans_path {id:Nat} {L:List Tk} {i o:Nat} {RL:PV} (hR:RL.pure=true) (hi:i < L.length) (hT:TokOK L):ANS 60 [] id L RL i o (fun k=>.tup [.int .i64 k.1,.str k.2.1,.str k.2.2]) (pathP L i):=by
 unfold pathP
 have h0:=ans_number (id:=id) (o:=o) (i:=i) hR hi hT 1 250 1 250 rfl rfl
 cases r0:numP L 1 250 i with
 | out=>exact ans_out
 | bad t e=>
  rw [r0] at h0
  obtain ⟨i',o',h0⟩:=h0
  refine ans_bad ⟨i',o',badx_of hR fun bx hid hc=>?_⟩
  have t0:=badx_use hid hc hR h0
  rw [callL_enter (fn:=Try.f60) (c:=Try.f60.body.getD .skip) rfl rfl fat_parse_parser_path rfl ok_parse_parser_path (Nat.le_of_ble_eq_true rfl)]
  have pbp:pureL [PV.bp id 0]=false:=rfl
  unfold PSR
  obtain ⟨ev,eo,so,co,⟨hev,hco⟩,R⟩:=RULES CC;rw [<- hev]
  rw [<- hco] at t0
  simp only [fpart,part',Try.f60,Option.getD]
  simp only [S9,R,seval,PY,PZ,pbp,t0,hid]
  exact ⟨_,rfl⟩
 | ok a0 i0=>
  rw [r0] at h0
  dsimp only [bind_okk]
  have j0:=numP_lt hT hi r0
  have hi0:=j0.2.1
  have h1:=ans_must (id:=id) (o:=o) (i:=i0) hR hi0 hT 4 4 rfl [46]
  cases r1:mustP L 4 [46] i0 with
  | out=>exact ans_out
  | bad t e=>
   rw [r1] at h1
   obtain ⟨i',o',h1⟩:=h1
   refine ans_bad ⟨i',o',badx_of hR fun bx hid hc=>?_⟩
   have t0:=okc_use hid hc hR h0
   have t1:=badx_use hid hc hR h1
   rw [callL_enter (fn:=Try.f60) (c:=Try.f60.body.getD .skip) rfl rfl fat_parse_parser_path rfl ok_parse_parser_path (Nat.le_of_ble_eq_true rfl)]
   have pbp:pureL [PV.bp id 0]=false:=rfl
   unfold PSR
   obtain ⟨ev,eo,so,co,⟨hev,hco⟩,R⟩:=RULES CC;rw [<- hev]
   rw [<- hco] at t0 t1
   simp only [fpart,part',Try.f60,Option.getD]
   simp only [S9,R,seval,PY,PZ,pbp,t0,t1,hid]
   exact ⟨_,rfl⟩
  | ok a1 i1=>
   rw [r1] at h1
   dsimp only [bind_okk]
   have j1:=mustP_lt hT hi0 (by decide) r1
   have hi1:=j1.2
   have h2:=ans_name (id:=id) (o:=o) (i:=i1) hR hi1 hT
   cases r2:nameP L i1 with
   | out=>exact ans_out
   | bad t e=>
    rw [r2] at h2
    obtain ⟨i',o',h2⟩:=h2
    refine ans_bad ⟨i',o',badx_of hR fun bx hid hc=>?_⟩
    have t0:=okc_use hid hc hR h0
    have t1:=okc_use hid hc hR h1
    have t2:=badx_use hid hc hR h2
    rw [callL_enter (fn:=Try.f60) (c:=Try.f60.body.getD .skip) rfl rfl fat_parse_parser_path rfl ok_parse_parser_path (Nat.le_of_ble_eq_true rfl)]
    have pbp:pureL [PV.bp id 0]=false:=rfl
    unfold PSR
    obtain ⟨ev,eo,so,co,⟨hev,hco⟩,R⟩:=RULES CC;rw [<- hev]
    rw [<- hco] at t0 t1 t2
    simp only [fpart,part',Try.f60,Option.getD]
    simp only [S9,R,seval,PY,PZ,pbp,t0,t1,t2,hid]
    exact ⟨_,rfl⟩
   | ok a2 i2=>
    rw [r2] at h2
    dsimp only [bind_okk]
    have j2:=nameP_lt hT hi1 r2
    have hi2:=j2.2
    have h3:=ans_must (id:=id) (o:=o) (i:=i2) hR hi2 hT 4 4 rfl [46]
    cases r3:mustP L 4 [46] i2 with
    | out=>exact ans_out
    | bad t e=>
     rw [r3] at h3
     obtain ⟨i',o',h3⟩:=h3
     refine ans_bad ⟨i',o',badx_of hR fun bx hid hc=>?_⟩
     have t0:=okc_use hid hc hR h0
     have t1:=okc_use hid hc hR h1
     have t2:=okc_use hid hc hR h2
     have t3:=badx_use hid hc hR h3
     rw [callL_enter (fn:=Try.f60) (c:=Try.f60.body.getD .skip) rfl rfl fat_parse_parser_path rfl ok_parse_parser_path (Nat.le_of_ble_eq_true rfl)]
     have pbp:pureL [PV.bp id 0]=false:=rfl
     unfold PSR
     obtain ⟨ev,eo,so,co,⟨hev,hco⟩,R⟩:=RULES CC;rw [<- hev]
     rw [<- hco] at t0 t1 t2 t3
     simp only [fpart,part',Try.f60,Option.getD]
     simp only [S9,R,seval,PY,PZ,pbp,t0,t1,t2,t3,hid]
     exact ⟨_,rfl⟩
    | ok a3 i3=>
     rw [r3] at h3
     dsimp only [bind_okk]
     have j3:=mustP_lt hT hi2 (by decide) r3
     have hi3:=j3.2
     have h4:=ans_name (id:=id) (o:=o) (i:=i3) hR hi3 hT
     cases r4:nameP L i3 with
     | out=>exact ans_out
     | bad t e=>
      rw [r4] at h4
      obtain ⟨i',o',h4⟩:=h4
      refine ans_bad ⟨i',o',badx_of hR fun bx hid hc=>?_⟩
      have t0:=okc_use hid hc hR h0
      have t1:=okc_use hid hc hR h1
      have t2:=okc_use hid hc hR h2
      have t3:=okc_use hid hc hR h3
      have t4:=badx_use hid hc hR h4
      rw [callL_enter (fn:=Try.f60) (c:=Try.f60.body.getD .skip) rfl rfl fat_parse_parser_path rfl ok_parse_parser_path (Nat.le_of_ble_eq_true rfl)]
      have pbp:pureL [PV.bp id 0]=false:=rfl
      unfold PSR
      obtain ⟨ev,eo,so,co,⟨hev,hco⟩,R⟩:=RULES CC;rw [<- hev]
      rw [<- hco] at t0 t1 t2 t3 t4
      simp only [fpart,part',Try.f60,Option.getD]
      simp only [S9,R,seval,PY,PZ,pbp,t0,t1,t2,t3,t4,hid]
      exact ⟨_,rfl⟩
     | ok a4 i4=>
      rw [r4] at h4
      dsimp only [bind_okk]
      have j4:=nameP_lt hT hi3 r4
      have hi4:=j4.2
      refine ans_ok (okc_of hR (fun n=>by simp [PV.under,underL]) fun bx hid hc=>?_)
      have t0:=okc_use hid hc hR h0
      have t1:=okc_use hid hc hR h1
      have t2:=okc_use hid hc hR h2
      have t3:=okc_use hid hc hR h3
      have t4:=okc_use hid hc hR h4
      rw [callL_enter (fn:=Try.f60) (c:=Try.f60.body.getD .skip) rfl rfl fat_parse_parser_path rfl ok_parse_parser_path (Nat.le_of_ble_eq_true rfl)]
      have pbp:pureL [PV.bp id 0]=false:=rfl
      unfold PSR
      obtain ⟨ev,eo,so,co,⟨hev,hco⟩,R⟩:=RULES CC;rw [<- hev]
      rw [<- hco] at t0 t1 t2 t3 t4
      simp only [fpart,part',Try.f60,Option.getD]
      simp only [S9,R,seval,PY,PZ,pbp,t0,t1,t2,t3,t4,hid]
      exact ⟨_,rfl⟩
theorem pathP_lt {L:List Tk} {i:Nat} {a:Ky} {j:Nat} (hT:TokOK L) (hi:i < L.length) (h:pathP L i=.ok a j):i < j∧j < L.length∧valB a.2.1=true∧valB a.2.2=true∧1<=a.1∧a.1<=250:=by
 unfold pathP at h
 obtain ⟨d,i0,r0,h⟩:=bind_ok h
 obtain ⟨_,i1,r1,h⟩:=bind_ok h
 obtain ⟨s,i2,r2,h⟩:=bind_ok h
 obtain ⟨_,i3,r3,h⟩:=bind_ok h
 obtain ⟨u,i4,r4,h⟩:=bind_ok h
 injection h with h1 h2
 have j0:=numP_lt hT hi r0
 have j1:=mustP_lt hT j0.2.1 (by decide) r1
 have j2:=nameP_lt hT j1.2 r2
 have j3:=mustP_lt hT j2.2 (by decide) r3
 have j4:=nameP_lt hT j3.2 r4
 subst h1 h2
 exact ⟨by omega,by omega,nameP_valid r2,nameP_valid r4,by omega,by omega⟩
theorem buildKey (d:Int) (a b:List UInt8):buildP CC 31 [(0,.int .i64 d),(1,.str a),(2,.str b)]=some (.agg [.int .i64 d,.str a,.str b]):=by kernel_rfl
theorem ans_key {id:Nat} {L:List Tk} {i o:Nat} {RL:PV} (hR:RL.pure=true) (hi:i < L.length) (hT:TokOK L):ANS 59 [] id L RL i o kyP (pathP L i):=by
 have h0:=ans_path (id:=id) (o:=o) hR hi hT
 unfold kyP
 cases r0:pathP L i with
 | out=>exact ans_out
 | bad t e=>
  rw [r0] at h0
  obtain ⟨i',o',h0⟩:=h0
  refine ans_bad ⟨i',o',badx_of hR fun bx hid hc=>?_⟩
  have t0:=badx_use hid hc hR h0
  rw [callL_enter (fn:=Try.f59) (c:=Try.f59.body.getD .skip) rfl rfl fat_parse_parser_key rfl ok_parse_parser_key (Nat.le_of_ble_eq_true rfl)]
  have pbp:pureL [PV.bp id 0]=false:=rfl
  unfold PSR
  obtain ⟨ev,eo,so,co,⟨hev,hco⟩,R⟩:=RULES CC;rw [<- hev]
  rw [<- hco] at t0
  simp only [fpart,part',Try.f59,Option.getD]
  simp only [S9,R,seval,PY,PZ,pbp,t0,hid]
  exact ⟨_,rfl⟩
 | ok k j=>
  rw [r0] at h0
  refine ans_ok (okc_of hR (fun n=>by simp [PV.under,underL]) fun bx hid hc=>?_)
  have t0:=okc_use hid hc hR h0
  rw [callL_enter (fn:=Try.f59) (c:=Try.f59.body.getD .skip) rfl rfl fat_parse_parser_key rfl ok_parse_parser_key (Nat.le_of_ble_eq_true rfl)]
  have pbp:pureL [PV.bp id 0]=false:=rfl
  unfold PSR
  obtain ⟨ev,eo,so,co,⟨hev,hco⟩,R⟩:=RULES CC;rw [<- hev]
  rw [<- hco] at t0
  simp only [fpart,part',Try.f59,Option.getD]
  simp only [S9,R,seval,PY,PZ,pbp,t0,buildKey,hid]
  exact ⟨_,rfl⟩
theorem ans_clock {id:Nat} {L:List Tk} {i o:Nat} {RL:PV} (hR:RL.pure=true) (hi:i < L.length) (hT:TokOK L):ANS 61 [] id L RL i o (fun n=>.int .i64 ((n:Nat):Int)) (clockP L i):=by
 unfold clockP
 have h0:=ans_two (id:=id) (o:=o) (i:=i) hR hi hT 23 23 rfl
 cases r0:twoP L 23 i with
 | out=>exact ans_out
 | bad t e=>
  rw [r0] at h0
  obtain ⟨i',o',h0⟩:=h0
  refine ans_bad ⟨i',o',badx_of hR fun bx hid hc=>?_⟩
  have t0:=badx_use hid hc hR h0
  rw [callL_enter (fn:=Try.f61) (c:=Try.f61.body.getD .skip) rfl rfl fat_parse_parser_clock rfl ok_parse_parser_clock (Nat.le_of_ble_eq_true rfl)]
  have pbp:pureL [PV.bp id 0]=false:=rfl
  unfold PSR
  obtain ⟨ev,eo,so,co,⟨hev,hco⟩,R⟩:=RULES CC;rw [<- hev]
  rw [<- hco] at t0
  simp only [fpart,part',Try.f61,Option.getD]
  simp only [S9,R,seval,PY,PZ,pbp,t0,hid]
  exact ⟨_,rfl⟩
 | ok a0 i0=>
  rw [r0] at h0
  dsimp only [bind_okk]
  have j0:=twoP_lt hT hi r0
  have hi0:=j0.2.1
  have hw1:IntKind.wrap .i64 (60 * (a0:Int))=((60 * a0:Nat):Int):=by rw [wrap_i64 ⟨by omega,by omega⟩];omega
  have h1:=ans_must (id:=id) (o:=o) (i:=i0) hR hi0 hT 4 4 rfl [58]
  cases r1:mustP L 4 [58] i0 with
  | out=>exact ans_out
  | bad t e=>
   rw [r1] at h1
   obtain ⟨i',o',h1⟩:=h1
   refine ans_bad ⟨i',o',badx_of hR fun bx hid hc=>?_⟩
   have t0:=okc_use hid hc hR h0
   have t1:=badx_use hid hc hR h1
   rw [callL_enter (fn:=Try.f61) (c:=Try.f61.body.getD .skip) rfl rfl fat_parse_parser_clock rfl ok_parse_parser_clock (Nat.le_of_ble_eq_true rfl)]
   have pbp:pureL [PV.bp id 0]=false:=rfl
   unfold PSR
   obtain ⟨ev,eo,so,co,⟨hev,hco⟩,R⟩:=RULES CC;rw [<- hev]
   rw [<- hco] at t0 t1
   simp only [fpart,part',Try.f61,Option.getD]
   simp only [S9,R,seval,PY,PZ,pbp,t0,t1,hw1,hid]
   exact ⟨_,rfl⟩
  | ok a1 i1=>
   rw [r1] at h1
   dsimp only [bind_okk]
   have j1:=mustP_lt hT hi0 (by decide) r1
   have hi1:=j1.2
   have h2:=ans_two (id:=id) (o:=o) (i:=i1) hR hi1 hT 59 59 rfl
   cases r2:twoP L 59 i1 with
   | out=>exact ans_out
   | bad t e=>
    rw [r2] at h2
    obtain ⟨i',o',h2⟩:=h2
    refine ans_bad ⟨i',o',badx_of hR fun bx hid hc=>?_⟩
    have t0:=okc_use hid hc hR h0
    have t1:=okc_use hid hc hR h1
    have t2:=badx_use hid hc hR h2
    rw [callL_enter (fn:=Try.f61) (c:=Try.f61.body.getD .skip) rfl rfl fat_parse_parser_clock rfl ok_parse_parser_clock (Nat.le_of_ble_eq_true rfl)]
    have pbp:pureL [PV.bp id 0]=false:=rfl
    unfold PSR
    obtain ⟨ev,eo,so,co,⟨hev,hco⟩,R⟩:=RULES CC;rw [<- hev]
    rw [<- hco] at t0 t1 t2
    simp only [fpart,part',Try.f61,Option.getD]
    simp only [S9,R,seval,PY,PZ,pbp,t0,t1,t2,hw1,hid]
    exact ⟨_,rfl⟩
   | ok a2 i2=>
    rw [r2] at h2
    dsimp only [bind_okk]
    have j2:=twoP_lt hT hi1 r2
    have hi2:=j2.2.1
    have hw2:IntKind.wrap .i64 (((60 * a0:Nat):Int)+(a2:Int))=((60 * a0+a2:Nat):Int):=by rw [wrap_i64 ⟨by omega,by omega⟩];omega
    refine ans_ok (okc_of hR (fun n=>by simp [PV.under,underL]) fun bx hid hc=>?_)
    have t0:=okc_use hid hc hR h0
    have t1:=okc_use hid hc hR h1
    have t2:=okc_use hid hc hR h2
    rw [callL_enter (fn:=Try.f61) (c:=Try.f61.body.getD .skip) rfl rfl fat_parse_parser_clock rfl ok_parse_parser_clock (Nat.le_of_ble_eq_true rfl)]
    have pbp:pureL [PV.bp id 0]=false:=rfl
    unfold PSR
    obtain ⟨ev,eo,so,co,⟨hev,hco⟩,R⟩:=RULES CC;rw [<- hev]
    rw [<- hco] at t0 t1 t2
    simp only [fpart,part',Try.f61,Option.getD]
    simp only [S9,R,seval,PY,PZ,pbp,t0,t1,t2,hw1,hw2,hid]
    exact ⟨_,rfl⟩
theorem clockP_lt {L:List Tk} {i:Nat} {a j:Nat} (hT:TokOK L) (hi:i < L.length) (h:clockP L i=.ok a j):i < j∧j < L.length∧a < 1440:=by
 unfold clockP at h
 obtain ⟨x,i0,r0,h⟩:=bind_ok h
 obtain ⟨_,i1,r1,h⟩:=bind_ok h
 obtain ⟨y,i2,r2,h⟩:=bind_ok h
 injection h with h1 h2
 have j0:=twoP_lt hT hi r0
 have j1:=mustP_lt hT j0.2.1 (by decide) r1
 have j2:=twoP_lt hT j1.2 r2
 omega
end Go.HH
