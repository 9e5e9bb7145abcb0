/-
  What the law needs, packed: RS RU RV RW RX RY UA UB UC.
-/
import Derived.Test.YthjabmlbmnadjaaK42
namespace Go.HH
open Go Go.Proofs
set_option maxRecDepth 100000
set_option maxHeartbeats 4000000
set_option linter.unusedSimpArgs false
set_option linter.unusedVariables false
theorem call_Rules_bad (s:List UInt8) (hs:s.length≤40000) (h0:(toks s).2.2=0) (hT:TokOK (toks s).1) (n m:Nat) {t:Nat} {c:Int} (h:rulesP (toks s).1 n m [] 0=.bad t c):callL CC 9 [.str s] []=some (.ret (.tup [.sl [],.int .i64 (t:Int),.int .i64 c]),[]):=by
  rw [callL_cat (k:=catR) rfl rfl]
  have pbp:pureL [PV.bp 3 0]=false:=rfl
  have ht:=op_start_ok s hs h0 [.cells 23 [.nils],.cells 3 [.int .i64 0],.cells 24 [.int .i64 0]]
  have hloop:=loop_rules _ rfl hT n m [] 0 (by simp) hT.pos
  rw [h] at hloop
  unfold RULl at hloop
  simp only [List.map_nil,lsV_nil] at hloop
  have hcode:catR.code=fpart Try.f9 [1,1]:=rfl
  have hcp:catR.pre [.str s] []=some ⟨setT (envR s) 6 (.fn 23 [] [.bp 0 0,.bp 1 0,.bp 2 0]),[.cells 23 [.nils],.cells 3 [.int .i64 0],.cells 24 [.int .i64 0]]⟩:=rfl
  unfold runCat
  rw [hcp,hcode]
  have hev2:∃ (e':List PV) (i' o':Nat) (rs':List Rl),evL CC (fpart Try.f9 [1,1]) ⟨setT (envR s) 6 (.fn 23 [] [.bp 0 0,.bp 1 0,.bp 2 0]),[.cells 23 [.nils],.cells 3 [.int .i64 0],.cells 24 [.int .i64 0]]⟩=some (.pan (fltV t c),⟨e',[.cells 23 [.nils],.cells 3 [.int .i64 0],.cells 24 [.int .i64 0],PSR (toks s).1 i' o' (lsV 37 (rs'.map rlP))]⟩)∧getT e' 2=.bp 0 0∧getT e' 3=.bp 1 0∧getT e' 4=.bp 2 0:=by
    simp only [fpart,part',Try.f9,Option.getD] at hloop ⊢
    unfold PSR at hloop ht ⊢
    unfold envR
    obtain ⟨ev,eo,so,co,⟨hev,hco⟩,R⟩:=RULES CC;rw [← hev]
    rw [← hev] at hloop
    rw [← hco] at ht
    simp only [S9,R,seval,PY,pbp,dynR,ht]
    generalize hE:ev _ _=z
    have hP:∃ (e':List PV) (i' o':Nat) (rs':List Rl),z=some (.pan (fltV t c),⟨e',[.cells 23 [.nils],.cells 3 [.int .i64 0],.cells 24 [.int .i64 0],PSR (toks s).1 i' o' (lsV 37 (rs'.map rlP))]⟩)∧getT e' 2=.bp 0 0∧getT e' 3=.bp 1 0∧getT e' 4=.bp 2 0:=by
      rw [← hE]
      unfold PSR
      refine hloop _ ?_ ?_ ?_ ?_
      · simp only [S7,R,seval];try rfl
      · simp only [S7,R,seval];try rfl
      · simp only [S7,R,seval];try rfl
      · simp only [S7,R,seval];try rfl
    obtain ⟨e',i',o',rs',he,k⟩:=hP
    refine ⟨e',i',o',rs',?_,k⟩
    subst he
    unfold PSR
    simp only [S9,R,seval,PY,pbp,dynR]
  obtain ⟨e',i',o',rs',he,k2,k3,k4⟩:=hev2
  simp only
  rw [he]
  exact post_pan _ _ e' _ k2 k3 k4
theorem post_ret (v:PV) (hv:v.pure=true) (e:List PV) (r:List PBox) (k2:getT e 2=.bp 0 0) (k3:getT e 3=.bp 1 0) (k4:getT e 4=.bp 2 0):catR.post (.ret,⟨e,.cells 23 [v] :: .cells 3 [.int .i64 0] :: .cells 24 [.int .i64 0] :: r⟩)=some (.ret (.tup [v.ro.shutV,.int .i64 0,.int .i64 0]),[]):=by
  have h:okE 1 ⟨e,.cells 23 [v] :: .cells 3 [.int .i64 0] :: .cells 24 [.int .i64 0] :: r⟩=true:=by unfold okE;simp only [k2,k3,k4,pureL_cons,pureL_nil,hv];rfl
  show (if okE 1 ⟨e,.cells 23 [v] :: .cells 3 [.int .i64 0] :: .cells 24 [.int .i64 0] :: r⟩=true then some (CR.ret (.tup [finR [v],.int .i64 0,.int .i64 0]),([]:List PBox)) else none)=_
  rw [h]
  rfl
theorem call_Rules_nil (s:List UInt8) (hs:s.length≤40000) (h0:(toks s).2.2=0) (hT:TokOK (toks s).1) (n m:Nat) {j:Nat} (h:rulesP (toks s).1 n m [] 0=.ok [] j):callL CC 9 [.str s] []=some (.ret (.tup [.sl [],.int .i64 0,.int .i64 0]),[]):=by
  rw [callL_cat (k:=catR) rfl rfl]
  have pbp:pureL [PV.bp 3 0]=false:=rfl
  have ht:=op_start_ok s hs h0 [.cells 23 [.nils],.cells 3 [.int .i64 0],.cells 24 [.int .i64 0]]
  have hloop:=loop_rules _ rfl hT n m [] 0 (by simp) hT.pos
  rw [h] at hloop
  unfold RULl at hloop
  simp only [List.map_nil,List.map_cons,lsV_nil,lsV_cons] at hloop
  skip
  skip
  have hcode:catR.code=fpart Try.f9 [1,1]:=rfl
  have hcp:catR.pre [.str s] []=some ⟨setT (envR s) 6 (.fn 23 [] [.bp 0 0,.bp 1 0,.bp 2 0]),[.cells 23 [.nils],.cells 3 [.int .i64 0],.cells 24 [.int .i64 0]]⟩:=rfl
  unfold runCat
  rw [hcp,hcode]
  have hev2:∃ (e':List PV) (r:List PBox),evL CC (fpart Try.f9 [1,1]) ⟨setT (envR s) 6 (.fn 23 [] [.bp 0 0,.bp 1 0,.bp 2 0]),[.cells 23 [.nils],.cells 3 [.int .i64 0],.cells 24 [.int .i64 0]]⟩=some (.ret,⟨e',.cells 23 [.nils] :: .cells 3 [.int .i64 0] :: .cells 24 [.int .i64 0] :: r⟩)∧getT e' 2=.bp 0 0∧getT e' 3=.bp 1 0∧getT e' 4=.bp 2 0:=by
    simp only [fpart,part',Try.f9,Option.getD] at hloop ⊢
    unfold PSR at hloop ht
    unfold envR
    obtain ⟨ev,eo,so,co,⟨hev,hco⟩,R⟩:=RULES CC;rw [← hev]
    rw [← hev] at hloop
    rw [← hco] at ht
    simp only [S9,R,seval,PY,pbp,dynR,ht]
    generalize hE:ev _ _=z
    have hP:∃ (e':List PV),z=some (.exit 0,⟨e',[.cells 23 [.nils],.cells 3 [.int .i64 0],.cells 24 [.int .i64 0],PSR (toks s).1 j 0 (.nils)]⟩)∧getT e' 2=.bp 0 0∧getT e' 3=.bp 1 0∧getT e' 4=.bp 2 0∧getT e' 5=.bp 3 0:=by
      rw [← hE]
      unfold PSR
      refine hloop _ ?_ ?_ ?_ ?_
      · simp only [S7,R,seval];try rfl
      · simp only [S7,R,seval];try rfl
      · simp only [S7,R,seval];try rfl
      · simp only [S7,R,seval];try rfl
    obtain ⟨e',he,k2,k3,k4,k5⟩:=hP
    subst he
    unfold PSR
    simp only [S9,R,seval,PY,pbp,dynR,k2,k3,k4,k5]
    first | exact ⟨_,_,rfl,by simp only [S7,R,seval,k2],by simp only [S7,R,seval,k3],by simp only [S7,R,seval,k4]⟩
  obtain ⟨e',r,he,k2,k3,k4⟩:=hev2
  simp only
  rw [he]
  exact post_ret _ rfl e' r k2 k3 k4
theorem call_Rules_cons (s:List UInt8) (hs:s.length≤40000) (h0:(toks s).2.2=0) (hT:TokOK (toks s).1) (n m:Nat) {x:Rl} {rs:List Rl} {j:Nat} (h:rulesP (toks s).1 n m [] 0=.ok (x :: rs) j):callL CC 9 [.str s] []=some (.ret (.tup [.sl (rlP x :: rs.map rlP),.int .i64 0,.int .i64 0]),[]):=by
  rw [callL_cat (k:=catR) rfl rfl]
  have pbp:pureL [PV.bp 3 0]=false:=rfl
  have ht:=op_start_ok s hs h0 [.cells 23 [.nils],.cells 3 [.int .i64 0],.cells 24 [.int .i64 0]]
  have hloop:=loop_rules _ rfl hT n m [] 0 (by simp) hT.pos
  rw [h] at hloop
  unfold RULl at hloop
  simp only [List.map_nil,List.map_cons,lsV_nil,lsV_cons] at hloop
  have hpu:(PV.sl (rlP x :: rs.map rlP)).pure=true:=map_pure rlP rlP_pure (x :: rs)
  generalize rlP x :: rs.map rlP=xs at *
  have hcode:catR.code=fpart Try.f9 [1,1]:=rfl
  have hcp:catR.pre [.str s] []=some ⟨setT (envR s) 6 (.fn 23 [] [.bp 0 0,.bp 1 0,.bp 2 0]),[.cells 23 [.nils],.cells 3 [.int .i64 0],.cells 24 [.int .i64 0]]⟩:=rfl
  unfold runCat
  rw [hcp,hcode]
  have hev2:∃ (e':List PV) (r:List PBox),evL CC (fpart Try.f9 [1,1]) ⟨setT (envR s) 6 (.fn 23 [] [.bp 0 0,.bp 1 0,.bp 2 0]),[.cells 23 [.nils],.cells 3 [.int .i64 0],.cells 24 [.int .i64 0]]⟩=some (.ret,⟨e',.cells 23 [.sl xs] :: .cells 3 [.int .i64 0] :: .cells 24 [.int .i64 0] :: r⟩)∧getT e' 2=.bp 0 0∧getT e' 3=.bp 1 0∧getT e' 4=.bp 2 0:=by
    simp only [fpart,part',Try.f9,Option.getD] at hloop ⊢
    unfold PSR at hloop ht
    unfold envR
    obtain ⟨ev,eo,so,co,⟨hev,hco⟩,R⟩:=RULES CC;rw [← hev]
    rw [← hev] at hloop
    rw [← hco] at ht
    simp only [S9,R,seval,PY,pbp,dynR,ht]
    generalize hE:ev _ _=z
    have hP:∃ (e':List PV),z=some (.exit 0,⟨e',[.cells 23 [.nils],.cells 3 [.int .i64 0],.cells 24 [.int .i64 0],PSR (toks s).1 j 0 (.osl 37 xs)]⟩)∧getT e' 2=.bp 0 0∧getT e' 3=.bp 1 0∧getT e' 4=.bp 2 0∧getT e' 5=.bp 3 0:=by
      rw [← hE]
      unfold PSR
      refine hloop _ ?_ ?_ ?_ ?_
      · simp only [S7,R,seval];try rfl
      · simp only [S7,R,seval];try rfl
      · simp only [S7,R,seval];try rfl
      · simp only [S7,R,seval];try rfl
    obtain ⟨e',he,k2,k3,k4,k5⟩:=hP
    subst he
    unfold PSR
    simp only [S9,R,seval,PY,pbp,dynR,k2,k3,k4,k5]
    first | exact ⟨_,_,rfl,by simp only [S7,R,seval,k2],by simp only [S7,R,seval,k3],by simp only [S7,R,seval,k4]⟩
  obtain ⟨e',r,he,k2,k3,k4⟩:=hev2
  simp only
  rw [he]
  exact post_ret _ hpu e' r k2 k3 k4
end Go.HH
namespace Go.HH
open Go Go.Proofs
set_option maxRecDepth 100000
set_option maxHeartbeats 4000000
set_option linter.unusedSimpArgs false
set_option linter.unusedVariables false
theorem postE_pan (x y:Int) (e:List PV) (c0:List PV) (hl:c0.length=11) (hp:pureL c0=true) (r:List PBox) (k2:getT e 2=.bp 0 0) (k3:getT e 3=.bp 1 0) (k4:getT e 4=.bp 2 0):catE.post (.pan (.iface 61 (.agg [.int .i64 x,.int .i64 y])),⟨e,.cells 34 c0 :: .cells 3 [.int .i64 0] :: .cells 24 [.int .i64 0] :: r⟩)=some (.ret (.tup [.agg (exC zT),.int .i64 x,.int .i64 y]),[]):=by
  have h:okE 11 ⟨e,.cells 34 c0 :: .cells 3 [.int .i64 0] :: .cells 24 [.int .i64 0] :: r⟩=true:=by unfold okE;simp only [k2,k3,k4,hl,hp];rfl
  show (if (decide (61=61) && okE 11 ⟨e,.cells 34 c0 :: .cells 3 [.int .i64 0] :: .cells 24 [.int .i64 0] :: r⟩)=true then some (CR.ret (.tup [finE zeroE,.int .i64 x,.int .i64 y]),([]:List PBox)) else none)=_
  rw [h,exC_zT]
  rfl
theorem hasP3e (L:List Tk) (i:Nat) (c0:List PV) (hc:∀ n,underL n c0=true):hasP L i 0 .nils 3 [.cells 34 c0,.cells 3 [.int .i64 0],.cells 24 [.int .i64 0],PSR L i 0 .nils]:=by
  refine ⟨?_,rfl⟩
  have:=PSR_under (n:=4) L i 0 (RL:=.nils) rfl
  unfold clB
  simp only [SU,List.length_cons,List.length_nil,this,hc,Bool.and_self]
theorem call_Expr_bad (s:List UInt8) (hs:s.length≤40000) (h0:(toks s).2.2=0) (hT:TokOK (toks s).1) (n:Nat) {t:Nat} {c:Int} (h:wholeP (toks s).1 n 0=.bad t c):callL CC 14 [.str s] []=some (.ret (.tup [.agg (exC zT),.int .i64 (t:Int),.int .i64 c]),[]):=by
  rw [callL_cat (k:=catE) rfl rfl]
  have pbp:pureL [PV.bp 3 0]=false:=rfl
  have hcode:catE.code=fpart Try.f14 [1,1]:=rfl
  have hcp:catE.pre [.str s] []=some ⟨setT (envR s) 6 (.fn 33 [] [.bp 0 0,.bp 1 0,.bp 2 0]),[.cells 34 [.int .i64 0,.int .i64 0,.int .i64 0,.str [],.int .i64 0,.int .i64 0,.str [],.int .i64 0,.str [],.str [],.nils],.cells 3 [.int .i64 0],.cells 24 [.int .i64 0]]⟩:=rfl
  unfold runCat
  rw [hcp,hcode]
  have ht:=op_start_ok s hs h0 [.cells 34 [.int .i64 0,.int .i64 0,.int .i64 0,.str [],.int .i64 0,.int .i64 0,.str [],.int .i64 0,.str [],.str [],.nils],.cells 3 [.int .i64 0],.cells 24 [.int .i64 0]]
  have h1:=ans_whole (id:=3) (RL:=.nils) rfl hT hT.pos n 0 rfl
  rw [h] at h1
  obtain ⟨i',o',h1⟩:=h1
  have t1:=h1 _ (hasP3e _ 0 [.int .i64 0,.int .i64 0,.int .i64 0,.str [],.int .i64 0,.int .i64 0,.str [],.int .i64 0,.str [],.str [],.nils] (fun n=>by simp only [SU,Bool.and_self]))
  simp only [List.set_cons_succ,List.set_cons_zero] at t1
  have hz0:((0:Nat):Int)=0:=rfl
  have hev2:∃ (e':List PV),evL CC (fpart Try.f14 [1,1]) ⟨setT (envR s) 6 (.fn 33 [] [.bp 0 0,.bp 1 0,.bp 2 0]),[.cells 34 [.int .i64 0,.int .i64 0,.int .i64 0,.str [],.int .i64 0,.int .i64 0,.str [],.int .i64 0,.str [],.str [],.nils],.cells 3 [.int .i64 0],.cells 24 [.int .i64 0]]⟩=some (.pan (fltV t c),⟨e',[.cells 34 [.int .i64 0,.int .i64 0,.int .i64 0,.str [],.int .i64 0,.int .i64 0,.str [],.int .i64 0,.str [],.str [],.nils],.cells 3 [.int .i64 0],.cells 24 [.int .i64 0],PSR (toks s).1 i' o' .nils]⟩)∧getT e' 2=.bp 0 0∧getT e' 3=.bp 1 0∧getT e' 4=.bp 2 0:=by
    simp only [fpart,part',Try.f14,Option.getD]
    unfold PSR at t1 ht ⊢
    simp only [hz0] at t1 ht
    unfold envR
    obtain ⟨ev,eo,so,co,⟨hev,hco⟩,R⟩:=RULES CC;rw [← hev]
    rw [← hco] at ht t1
    simp only [S9,R,seval,PY,pbp,dynR,ht,t1]
    exact ⟨_,rfl,by simp only [S7,R,seval];try rfl,by simp only [S7,R,seval];try rfl,by simp only [S7,R,seval];try rfl⟩
  obtain ⟨e',he,k2,k3,k4⟩:=hev2
  simp only
  rw [he]
  exact postE_pan _ _ e' _ rfl rfl _ k2 k3 k4
theorem call_Expr_bad2 (s:List UInt8) (hs:s.length≤40000) (h0:(toks s).2.2=0) (hT:TokOK (toks s).1) (n:Nat) {a:Tr} {i:Nat} (h:wholeP (toks s).1 n 0=.ok a i) {t:Nat} {c:Int} (h2:oneP (toks s).1 0 i=.bad t c):callL CC 14 [.str s] []=some (.ret (.tup [.agg (exC zT),.int .i64 (t:Int),.int .i64 c]),[]):=by
  rw [callL_cat (k:=catE) rfl rfl]
  have pbp:pureL [PV.bp 3 0]=false:=rfl
  have hcode:catE.code=fpart Try.f14 [1,1]:=rfl
  have hcp:catE.pre [.str s] []=some ⟨setT (envR s) 6 (.fn 33 [] [.bp 0 0,.bp 1 0,.bp 2 0]),[.cells 34 [.int .i64 0,.int .i64 0,.int .i64 0,.str [],.int .i64 0,.int .i64 0,.str [],.int .i64 0,.str [],.str [],.nils],.cells 3 [.int .i64 0],.cells 24 [.int .i64 0]]⟩:=rfl
  unfold runCat
  rw [hcp,hcode]
  have ht:=op_start_ok s hs h0 [.cells 34 [.int .i64 0,.int .i64 0,.int .i64 0,.str [],.int .i64 0,.int .i64 0,.str [],.int .i64 0,.str [],.str [],.nils],.cells 3 [.int .i64 0],.cells 24 [.int .i64 0]]
  have h1:=ans_whole (id:=3) (RL:=.nils) rfl hT hT.pos n 0 rfl
  rw [h] at h1
  have hi:=(wholeP_lt hT hT.pos h).2
  have t1:=h1 _ (hasP3e _ 0 [.int .i64 0,.int .i64 0,.int .i64 0,.str [],.int .i64 0,.int .i64 0,.str [],.int .i64 0,.str [],.str [],.nils] (fun n=>by simp only [SU,Bool.and_self]))
  have h3:=ans_one (id:=3) (RL:=.nils) (o:=0) (i:=i) rfl hi hT 0 0 rfl
  rw [h2] at h3
  obtain ⟨i',o',h3⟩:=h3
  have t2:=h3 _ (hasP3e _ i (exC a) (fun n=>exC_under n a))
  simp only [List.set_cons_succ,List.set_cons_zero] at t1 t2
  rw [trV_exC] at t1
  have hz0:((0:Nat):Int)=0:=rfl
  have hev2:∃ (e':List PV) (r:List PBox),evL CC (fpart Try.f14 [1,1]) ⟨setT (envR s) 6 (.fn 33 [] [.bp 0 0,.bp 1 0,.bp 2 0]),[.cells 34 [.int .i64 0,.int .i64 0,.int .i64 0,.str [],.int .i64 0,.int .i64 0,.str [],.int .i64 0,.str [],.str [],.nils],.cells 3 [.int .i64 0],.cells 24 [.int .i64 0]]⟩=some (.pan (fltV t c),⟨e',.cells 34 (exC a) :: .cells 3 [.int .i64 0] :: .cells 24 [.int .i64 0] :: r⟩)∧getT e' 2=.bp 0 0∧getT e' 3=.bp 1 0∧getT e' 4=.bp 2 0:=by
    simp only [fpart,part',Try.f14,Option.getD]
    unfold PSR at t1 t2 ht
    simp only [hz0] at t1 t2 ht
    unfold envR
    obtain ⟨ev,eo,so,co,⟨hev,hco⟩,R⟩:=RULES CC;rw [← hev]
    rw [← hco] at ht t1 t2
    simp only [S9,R,seval,PY,pbp,dynR,ht,t1,t2,SX]
    exact ⟨_,_,rfl,by simp only [S7,R,seval];try rfl,by simp only [S7,R,seval];try rfl,by simp only [S7,R,seval];try rfl⟩
  obtain ⟨e',r,he,k2,k3,k4⟩:=hev2
  simp only
  rw [he]
  exact postE_pan _ _ e' _ (exC_len a) (exC_pure a) _ k2 k3 k4
theorem postE_ret (a:Tr) (e:List PV) (r:List PBox) (k2:getT e 2=.bp 0 0) (k3:getT e 3=.bp 1 0) (k4:getT e 4=.bp 2 0):catE.post (.ret,⟨e,.cells 34 (exC a) :: .cells 3 [.int .i64 0] :: .cells 24 [.int .i64 0] :: r⟩)=some (.ret (.tup [.agg (exC a),.int .i64 0,.int .i64 0]),[]):=by
  have h:okE 11 ⟨e,.cells 34 (exC a) :: .cells 3 [.int .i64 0] :: .cells 24 [.int .i64 0] :: r⟩=true:=by unfold okE;simp only [k2,k3,k4,exC_len,exC_pure];rfl
  show (if okE 11 ⟨e,.cells 34 (exC a) :: .cells 3 [.int .i64 0] :: .cells 24 [.int .i64 0] :: r⟩=true then some (CR.ret (.tup [finE (exC a),.int .i64 0,.int .i64 0]),([]:List PBox)) else none)=_
  rw [h]
  unfold finE
  rw [exC_ro]
  show some (CR.ret (.tup [.agg ((exC a).map PV.seal1),_,_]),([]:List PBox))=_
  rw [exC_seal]
theorem call_Expr_ok2 (s:List UInt8) (hs:s.length≤40000) (h0:(toks s).2.2=0) (hT:TokOK (toks s).1) (n:Nat) {a:Tr} {i:Nat} (h:wholeP (toks s).1 n 0=.ok a i) {tk:Tk} {j:Nat} (h2:oneP (toks s).1 0 i=.ok tk j):callL CC 14 [.str s] []=some (.ret (.tup [.agg (exC a),.int .i64 0,.int .i64 0]),[]):=by
  rw [callL_cat (k:=catE) rfl rfl]
  have pbp:pureL [PV.bp 3 0]=false:=rfl
  have hcode:catE.code=fpart Try.f14 [1,1]:=rfl
  have hcp:catE.pre [.str s] []=some ⟨setT (envR s) 6 (.fn 33 [] [.bp 0 0,.bp 1 0,.bp 2 0]),[.cells 34 [.int .i64 0,.int .i64 0,.int .i64 0,.str [],.int .i64 0,.int .i64 0,.str [],.int .i64 0,.str [],.str [],.nils],.cells 3 [.int .i64 0],.cells 24 [.int .i64 0]]⟩:=rfl
  unfold runCat
  rw [hcp,hcode]
  have ht:=op_start_ok s hs h0 [.cells 34 [.int .i64 0,.int .i64 0,.int .i64 0,.str [],.int .i64 0,.int .i64 0,.str [],.int .i64 0,.str [],.str [],.nils],.cells 3 [.int .i64 0],.cells 24 [.int .i64 0]]
  have h1:=ans_whole (id:=3) (RL:=.nils) rfl hT hT.pos n 0 rfl
  rw [h] at h1
  have hi:=(wholeP_lt hT hT.pos h).2
  have t1:=h1 _ (hasP3e _ 0 [.int .i64 0,.int .i64 0,.int .i64 0,.str [],.int .i64 0,.int .i64 0,.str [],.int .i64 0,.str [],.str [],.nils] (fun n=>by simp only [SU,Bool.and_self]))
  have h3:=ans_one (id:=3) (RL:=.nils) (o:=0) (i:=i) rfl hi hT 0 0 rfl
  rw [h2] at h3
  skip
  have t2:=h3 _ (hasP3e _ i (exC a) (fun n=>exC_under n a))
  simp only [List.set_cons_succ,List.set_cons_zero] at t1 t2
  rw [trV_exC] at t1
  have hz0:((0:Nat):Int)=0:=rfl
  have hev2:∃ (e':List PV) (r:List PBox),evL CC (fpart Try.f14 [1,1]) ⟨setT (envR s) 6 (.fn 33 [] [.bp 0 0,.bp 1 0,.bp 2 0]),[.cells 34 [.int .i64 0,.int .i64 0,.int .i64 0,.str [],.int .i64 0,.int .i64 0,.str [],.int .i64 0,.str [],.str [],.nils],.cells 3 [.int .i64 0],.cells 24 [.int .i64 0]]⟩=some (.ret,⟨e',.cells 34 (exC a) :: .cells 3 [.int .i64 0] :: .cells 24 [.int .i64 0] :: r⟩)∧getT e' 2=.bp 0 0∧getT e' 3=.bp 1 0∧getT e' 4=.bp 2 0:=by
    simp only [fpart,part',Try.f14,Option.getD]
    unfold PSR at t1 t2 ht
    simp only [hz0] at t1 t2 ht
    unfold envR
    obtain ⟨ev,eo,so,co,⟨hev,hco⟩,R⟩:=RULES CC;rw [← hev]
    rw [← hco] at ht t1 t2
    simp only [S9,R,seval,PY,pbp,dynR,ht,t1,t2,SX]
    exact ⟨_,_,rfl,by simp only [S7,R,seval];try rfl,by simp only [S7,R,seval];try rfl,by simp only [S7,R,seval];try rfl⟩
  obtain ⟨e',r,he,k2,k3,k4⟩:=hev2
  simp only
  rw [he]
  exact postE_ret a e' r k2 k3 k4
theorem op_start_badE (s:List UInt8) (hs:s.length≤40000) (h0:(toks s).2.2≠0):callOp CC (callL CC) 24 [.str s] [.cells 34 [.int .i64 0,.int .i64 0,.int .i64 0,.str [],.int .i64 0,.int .i64 0,.str [],.int .i64 0,.str [],.str [],.nils],.cells 3 [.int .i64 0],.cells 24 [.int .i64 0]]=some (.pan (fltV (toks s).2.1 (toks s).2.2),[.cells 34 [.int .i64 0,.int .i64 0,.int .i64 0,.str [],.int .i64 0,.int .i64 0,.str [],.int .i64 0,.str [],.str [],.nils],.cells 3 [.int .i64 0],.cells 24 [.int .i64 0]]):=by
  unfold callOp
  rw [if_pos (show (CC.heap 24 || !pureL [PV.str s])=true from rfl),call_start_bad s hs h0 _]
  simp only
  unfold truncB
  split <;> rfl
theorem call_Expr_lex (s:List UInt8) (hs:s.length≤40000) (h0:(toks s).2.2≠0):callL CC 14 [.str s] []=some (.ret (.tup [.agg (exC zT),.int .i64 ((toks s).2.1:Int),.int .i64 (toks s).2.2]),[]):=by
  rw [callL_cat (k:=catE) rfl rfl]
  have pbp:pureL [PV.bp 3 0]=false:=rfl
  have hcode:catE.code=fpart Try.f14 [1,1]:=rfl
  have hcp:catE.pre [.str s] []=some ⟨setT (envR s) 6 (.fn 33 [] [.bp 0 0,.bp 1 0,.bp 2 0]),[.cells 34 [.int .i64 0,.int .i64 0,.int .i64 0,.str [],.int .i64 0,.int .i64 0,.str [],.int .i64 0,.str [],.str [],.nils],.cells 3 [.int .i64 0],.cells 24 [.int .i64 0]]⟩:=rfl
  unfold runCat
  rw [hcp,hcode]
  have ht:=op_start_badE s hs h0
  have hev2:∃ (e':List PV),evL CC (fpart Try.f14 [1,1]) ⟨setT (envR s) 6 (.fn 33 [] [.bp 0 0,.bp 1 0,.bp 2 0]),[.cells 34 [.int .i64 0,.int .i64 0,.int .i64 0,.str [],.int .i64 0,.int .i64 0,.str [],.int .i64 0,.str [],.str [],.nils],.cells 3 [.int .i64 0],.cells 24 [.int .i64 0]]⟩=some (.pan (fltV (toks s).2.1 (toks s).2.2),⟨e',[.cells 34 [.int .i64 0,.int .i64 0,.int .i64 0,.str [],.int .i64 0,.int .i64 0,.str [],.int .i64 0,.str [],.str [],.nils],.cells 3 [.int .i64 0],.cells 24 [.int .i64 0]]⟩)∧getT e' 2=.bp 0 0∧getT e' 3=.bp 1 0∧getT e' 4=.bp 2 0:=by
    simp only [fpart,part',Try.f14,Option.getD]
    unfold envR
    obtain ⟨ev,eo,so,co,⟨hev,hco⟩,R⟩:=RULES CC;rw [← hev]
    rw [← hco] at ht
    simp only [S9,R,seval,PY,pbp,dynR,ht]
    exact ⟨_,rfl,by simp only [S7,R,seval];try rfl,by simp only [S7,R,seval];try rfl,by simp only [S7,R,seval];try rfl⟩
  obtain ⟨e',he,k2,k3,k4⟩:=hev2
  simp only
  rw [he]
  exact postE_pan _ _ e' _ rfl rfl _ k2 k3 k4
end Go.HH
namespace Go.HH
open Go Go.Proofs
set_option maxRecDepth 100000
set_option linter.unusedVariables false
def rkN:NT→Nat
  | .expr=>10 | .chain true=>9 | .chain false=>8 | .chainL _ _=>1 | .not=>7 | .cmp=>6 | .sum=>5 | .sumL _=>1 | .prod=>4 | .prodL _=>1 | .un=>3 | .prim=>2
theorem bind_out {α β:Type} {r:PR α} {f:α→Nat→PR β} (h:r≠.out) (h2:∀ a i,r=.ok a i→f a i≠.out):r.bind f≠.out:=by
  cases r with
  | ok a i=>exact h2 a i rfl
  | bad t e=>intro e;cases e
  | out=>exact absurd rfl h
theorem mustP_out {L:List Tk} {k:Nat} {w:List UInt8} {i:Nat}:mustP L k w i≠.out:=by unfold mustP;split <;> (intro e;cases e)
theorem rk_opd (b:Bool):rkN (opdNT b)+1≤rkN (.chain b):=by cases b <;> decide
theorem rk_le (nt:NT):rkN nt≤10∧1≤rkN nt:=by
  cases nt with
  | chain b=>cases b <;> simp [rkN]
  | _=>simp [rkN]
theorem numP_out {L:List Tk} {lo hi i:Nat}:numP L lo hi i≠.out:=by
  unfold numP
  split
  · split <;> (intro e;cases e)
  · intro e;cases e
theorem nameP_out {L:List Tk} {i:Nat}:nameP L i≠.out:=by
  unfold nameP
  split
  · split <;> (intro e;cases e)
  · intro e;cases e
theorem oneP_out {L:List Tk} {k i:Nat}:oneP L k i≠.out:=by unfold oneP;split <;> (intro e;cases e)
theorem twoP_out {L:List Tk} {hi i:Nat}:twoP L hi i≠.out:=by
  unfold twoP
  split
  · intro e;cases e
  · exact numP_out
theorem pok_out {α:Type} {a:α} {i:Nat}:PR.ok a i≠.out:=fun e=>nomatch e
theorem pathP_out {L:List Tk} {i:Nat}:pathP L i≠.out:=bind_out numP_out fun _ _ _=>bind_out mustP_out fun _ _ _=>bind_out nameP_out fun _ _ _=>bind_out mustP_out fun _ _ _=>bind_out nameP_out fun _ _ _=>pok_out
theorem clockP_out {L:List Tk} {i:Nat}:clockP L i≠.out:=bind_out twoP_out fun _ _ _=>bind_out mustP_out fun _ _ _=>bind_out twoP_out fun _ _ _=>pok_out
theorem dayP_out {L:List Tk} {i:Nat}:dayP L i≠.out:=by unfold dayP;split <;> (intro e;cases e)
end Go.HH
namespace Go.HH
open Go Go.Proofs
set_option maxRecDepth 100000
set_option linter.unusedVariables false
theorem dayP_lt' {L:List Tk} (hT:TokOK L) {i a j:Nat} (hi:i < L.length) (h:dayP L i=.ok a j):i < j∧j < L.length:=by
  unfold dayP at h
  split at h
  · rename_i k hp
    obtain ⟨_,_,h4⟩:=pickW_lt hp
    have:=isT_lt hT hi h4 (by decide)
    injection h with _ h
    omega
  · cases h
theorem daysL_out {L:List Tk} (hT:TokOK L):∀ (n m i:Nat),i < L.length→L.length - i≤n→daysL L n m i≠.out:=by
  intro n
  induction n with
  | zero=>intro m i hi h;omega
  | succ n ih=>
    intro m i hi h
    rw [daysL]
    refine bind_out dayP_out fun k j hj=>?_
    have h1:=dayP_lt' hT hi hj
    split
    · rename_i hk
      have h2:=isT_lt hT h1.2 hk (by decide)
      exact ih _ _ h2 (by omega)
    · exact pok_out
theorem daysP_out {L:List Tk} (hT:TokOK L) {i:Nat} (hi:i < L.length):daysP L i≠.out:=daysL_out hT _ _ _ hi (by omega)
theorem condP_out {L:List Tk} (hT:TokOK L) {i:Nat} (hi:i < L.length):condP L i≠.out:=by
  unfold condP
  split
  · exact pok_out
  split
  · exact pok_out
  split
  · exact bind_out mustP_out fun _ _ _=>bind_out nameP_out fun _ _ _=>pok_out
  split
  · exact bind_out clockP_out fun _ _ _=>bind_out mustP_out fun _ _ _=>bind_out clockP_out fun _ _ _=>pok_out
  split
  · rename_i hk
    exact bind_out (daysP_out hT (isT_lt hT hi hk (by decide))) fun _ _ _=>pok_out
  split
  · split <;> exact pok_out
  · intro e;cases e
end Go.HH
namespace Go.HH
open Go Go.Proofs
set_option maxRecDepth 100000
set_option linter.unusedVariables false
theorem pz_out {L:List Tk} (hT:TokOK L):∀ (n:Nat) (nt:NT) (o i:Nat),i < L.length→12 * (L.length - i)+rkN nt≤n→pz L n nt o i≠.out:=by
  intro n
  induction n with
  | zero=>intro nt o i hi h;have:=rk_le nt;omega
  | succ n ih=>
    intro nt o i hi h
    have lt:=fun (nt:NT) (o i:Nat) (a:Tr) (j:Nat) hi (r:pz L n nt o i=.ok a j)=>pz_lt hT n nt o i a j hi r
    cases nt with
    | expr=>
      have hr:rkN .expr=10:=rfl
      have hr2:rkN (.chain true)=9:=rfl
      rw [pz]
      split
      · rename_i hk
        have h0:=isT_lt hT hi hk (by decide)
        split
        · refine bind_out (ih _ _ _ h0 (by omega)) fun _ i1 r1=>bind_out mustP_out fun _ i2 r2=>?_
          have h1:=lt _ _ _ _ _ h0 r1
          have h2:=mustP_lt hT h1.2 (by decide) r2
          refine bind_out (ih _ _ _ h2.2 (by omega)) fun _ i3 r3=>bind_out mustP_out fun _ i4 r4=>?_
          have h3:=lt _ _ _ _ _ h2.2 r3
          have h4:=mustP_lt hT h3.2 (by decide) r4
          exact bind_out (ih _ _ _ h4.2 (by omega)) fun _ _ _=>pok_out
        · intro e;cases e
      · exact ih _ _ _ hi (by omega)
    | chain b=>
      have hr:=rk_opd b
      have hr2:rkN (.chainL b [])=1:=rfl
      rw [pz]
      refine bind_out (ih _ _ _ hi (by omega)) fun a i1 r1=>?_
      have h1:=lt _ _ _ _ _ hi r1
      have hr3:rkN (.chainL b [a])=1:=rfl
      have hr4:=(rk_le (opdNT b)).2
      exact ih _ _ _ h1.2 (by omega)
    | chainL b acc=>
      have hr:rkN (.chainL b acc)=1:=rfl
      rw [pz]
      split
      · rename_i hk
        have h0:=isT_lt hT hi hk (by decide)
        split
        · intro e;cases e
        · have hr4:=(rk_le (opdNT b)).1
          refine bind_out (ih _ _ _ h0 (by omega)) fun a i1 r1=>?_
          have h1:=lt _ _ _ _ _ h0 r1
          have hr3:rkN (.chainL b (acc++[a]))=1:=rfl
          exact ih _ _ _ h1.2 (by omega)
      · exact pok_out
    | not=>
      have hr:rkN .not=7:=rfl
      have hr2:rkN .cmp=6:=rfl
      rw [pz]
      split
      · rename_i hk
        have h0:=isT_lt hT hi hk (by decide)
        split
        · exact bind_out (ih _ _ _ h0 (by omega)) fun _ _ _=>pok_out
        · intro e;cases e
      · exact ih _ _ _ hi (by omega)
    | cmp=>
      have hr:rkN .cmp=6:=rfl
      have hr2:rkN .sum=5:=rfl
      rw [pz]
      refine bind_out (ih _ _ _ hi (by omega)) fun a i1 r1=>?_
      have h1:=lt _ _ _ _ _ hi r1
      split
      · rename_i k hp
        obtain ⟨_,_,h4⟩:=pickW_lt hp
        have h0:=isT_lt hT h1.2 h4 (by decide)
        exact bind_out (ih _ _ _ h0 (by omega)) fun _ _ _=>pok_out
      · exact pok_out
    | sum=>
      have hr:rkN .sum=5:=rfl
      have hr2:rkN .prod=4:=rfl
      rw [pz]
      refine bind_out (ih _ _ _ hi (by omega)) fun a i1 r1=>?_
      have h1:=lt _ _ _ _ _ hi r1
      have hr3:rkN (.sumL a)=1:=rfl
      exact ih _ _ _ h1.2 (by omega)
    | sumL e=>
      have hr:rkN (.sumL e)=1:=rfl
      have hr2:rkN .prod=4:=rfl
      rw [pz]
      split
      · rename_i hk
        have h0:=isT_lt hT hi hk (by decide)
        refine bind_out (ih _ _ _ h0 (by omega)) fun a i1 r1=>?_
        have h1:=lt _ _ _ _ _ h0 r1
        have hr3:rkN (.sumL (nodT 11 [e,a]))=1:=rfl
        exact ih _ _ _ h1.2 (by omega)
      split
      · rename_i hk
        have h0:=isT_lt hT hi hk (by decide)
        refine bind_out (ih _ _ _ h0 (by omega)) fun a i1 r1=>?_
        have h1:=lt _ _ _ _ _ h0 r1
        have hr3:rkN (.sumL (nodT 12 [e,a]))=1:=rfl
        exact ih _ _ _ h1.2 (by omega)
      · exact pok_out
    | prod=>
      have hr:rkN .prod=4:=rfl
      have hr2:rkN .un=3:=rfl
      rw [pz]
      refine bind_out (ih _ _ _ hi (by omega)) fun a i1 r1=>?_
      have h1:=lt _ _ _ _ _ hi r1
      have hr3:rkN (.prodL a)=1:=rfl
      exact ih _ _ _ h1.2 (by omega)
    | prodL e=>
      have hr:rkN (.prodL e)=1:=rfl
      have hr2:rkN .un=3:=rfl
      rw [pz]
      split
      · rename_i hk
        have h0:=isT_lt hT hi hk (by decide)
        refine bind_out (ih _ _ _ h0 (by omega)) fun a i1 r1=>?_
        have h1:=lt _ _ _ _ _ h0 r1
        have hr3:rkN (.prodL (nodT 13 [e,a]))=1:=rfl
        exact ih _ _ _ h1.2 (by omega)
      · exact pok_out
    | un=>
      have hr:rkN .un=3:=rfl
      have hr2:rkN .prim=2:=rfl
      rw [pz]
      split
      · rename_i hk
        have h0:=isT_lt hT hi hk (by decide)
        split
        · exact pok_out
        split
        · exact bind_out (ih _ _ _ h0 (by omega)) fun _ _ _=>pok_out
        · intro e;cases e
      · exact ih _ _ _ hi (by omega)
    | prim=>
      have hr:rkN .prim=2:=rfl
      have hr2:rkN .expr=10:=rfl
      rw [pz]
      split
      · exact pok_out
      split
      · exact bind_out pathP_out fun _ _ _=>pok_out
      split
      · exact pok_out
      split
      · exact bind_out numP_out fun _ _ _=>pok_out
      split
      · rename_i hk
        have h0:=isT_lt hT hi hk (by decide)
        split
        · exact bind_out (ih _ _ _ h0 (by omega)) fun _ _ _=>bind_out mustP_out fun _ _ _=>pok_out
        · intro e;cases e
      · exact condP_out hT hi
end Go.HH
namespace Go.HH
open Go Go.Proofs
set_option maxRecDepth 100000
set_option linter.unusedVariables false
theorem bad_out {α:Type} {t:Nat} {e:Int}:(PR.bad t e:PR α)≠.out:=fun e=>nomatch e
def fuN (L:List Tk):Nat:=12 * L.length+10
theorem wholeP_out {L:List Tk} (hT:TokOK L) {i:Nat} (hi:i < L.length):wholeP L (fuN L) i≠.out:=by
  unfold wholeP
  refine bind_out (pz_out hT _ _ _ _ hi (by unfold fuN;have:rkN .expr=10:=rfl;omega)) fun a j _=>?_
  split
  · exact pok_out
  · exact bad_out
theorem triggerP_out {L:List Tk} (hT:TokOK L) {i:Nat} (hi:i < L.length):triggerP L i≠.out:=by
  unfold triggerP
  split
  · exact bind_out pathP_out fun _ _ _=>pok_out
  split
  · exact bind_out pathP_out fun _ _ _=>pok_out
  split
  · rename_i hk
    refine bind_out clockP_out fun _ j r=>?_
    split
    · rename_i hk2
      exact bind_out (daysP_out hT (isT_lt hT (clockP_lt hT (isT_lt hT hi hk (by decide)) r).2.1 hk2 (by decide))) fun _ _ _=>pok_out
    · exact pok_out
  split
  · split
    · exact bind_out nameP_out fun _ _ _=>pok_out
    · exact pok_out
  split
  · exact pok_out
  · exact bind_out mustP_out fun _ _ _=>bind_out numP_out fun _ _ _=>pok_out
theorem stepP_out {L:List Tk} (hT:TokOK L) {i:Nat} (hi:i < L.length):stepP L (fuN L) i≠.out:=by
  unfold stepP
  split
  · rename_i hk
    have h0:=isT_lt hT hi hk (by decide)
    refine bind_out pathP_out fun _ j r=>bind_out mustP_out fun _ j2 r2=>?_
    have h1:=(pathP_lt hT h0 r).2.1
    exact bind_out (wholeP_out hT (mustP_lt hT h1 (by decide) r2).2) fun _ _ _=>pok_out
  split
  · rename_i hk
    have h0:=isT_lt hT hi hk (by decide)
    refine bind_out pathP_out fun _ j r=>?_
    have h1:=(pathP_lt hT h0 r).2.1
    split
    · rename_i hk2
      exact bind_out (wholeP_out hT (isT_lt hT h1 hk2 (by decide))) fun _ _ _=>bind_out mustP_out fun _ _ _=>pok_out
    · exact pok_out
  split
  · exact bind_out nameP_out fun _ _ _=>pok_out
  split
  · exact bind_out nameP_out fun _ _ _=>pok_out
  · exact bind_out mustP_out fun _ _ _=>bind_out oneP_out fun _ _ _=>pok_out
theorem severalP_out {α:Type} {L:List Tk} (hT:TokOK L) {w:List UInt8} {part:Nat→PR α} (hp:∀ i,i < L.length→part i≠.out) (hlt:∀ i a j,i < L.length→part i=.ok a j→j < L.length):∀ (m:Nat) (acc:List α) (i:Nat),i < L.length→acc.length≤8→9≤acc.length+m→severalP L w part m acc i≠.out:=by
  intro m
  induction m with
  | zero=>intro acc i hi h1 h2;omega
  | succ m ih=>
    intro acc i hi h1 h2
    rw [severalP]
    split
    · split
      · exact bad_out
      · refine bind_out mustP_out fun _ j r=>?_
        have h3:=(mustP_lt hT hi (by decide) r).2
        refine bind_out (hp _ h3) fun a j2 r2=>bind_out mustP_out fun _ j3 r3=>?_
        have h4:=hlt _ _ _ h3 r2
        exact ih _ _ (mustP_lt hT h4 (by decide) r3).2 (by rw [List.length_append,List.length_singleton];omega) (by rw [List.length_append,List.length_singleton];omega)
    · exact pok_out
theorem ruleP_out {L:List Tk} (hT:TokOK L) (rs:List Rl) {i:Nat} (hi:i < L.length):ruleP L (fuN L) rs i≠.out:=by
  unfold ruleP
  split
  · exact bad_out
  refine bind_out mustP_out fun _ i0 r0=>bind_out nameP_out fun nm i1 r1=>?_
  have h0:=(mustP_lt hT hi (by decide) r0).2
  have h1:=(nameP_lt hT h0 r1).2
  split
  · exact bad_out
  refine bind_out ?_ fun pr i2 r2=>bind_out mustP_out fun _ i3 r3=>?_
  · split
    · exact numP_out
    · exact pok_out
  have h2:i2 < L.length:=by
    split at r2
    · rename_i hk
      exact (numP_lt hT (isT_lt hT h1 hk (by decide)) r2).2.1
    · injection r2 with _ r2
      exact r2 ▸ h1
  have h3:=(mustP_lt hT h2 (by decide) r3).2
  refine bind_out (severalP_out hT (fun i hi=>triggerP_out hT hi) (fun i a j hi h=>triggerP_lt hT hi h) _ _ _ h3 (by simp) (by simp)) fun on i4 r4=>?_
  have h4:=severalP_lt hT (fun i a j hi h=>triggerP_lt hT hi h) _ _ _ _ _ h3 (by simp) r4
  refine bind_out ?_ fun e i5 r5=>?_
  · split
    · rename_i hk
      exact bind_out (wholeP_out hT (isT_lt hT h4.1 hk (by decide))) fun _ _ _=>bind_out mustP_out fun _ _ _=>pok_out
    · exact pok_out
  have h5:i5 < L.length:=by
    split at r5
    · rename_i hk
      obtain ⟨_,i6,r6,r7⟩:=bind_ok r5
      obtain ⟨_,i8,r8,r9⟩:=bind_ok r7
      have h6:=wholeP_lt hT (isT_lt hT h4.1 hk (by decide)) r6
      have h8:=(mustP_lt hT h6.2 (by decide) r8).2
      injection r9 with _ r9
      exact r9 ▸ h8
    · injection r5 with _ r5
      exact r5 ▸ h4.1
  exact bind_out (severalP_out hT (fun i hi=>stepP_out hT hi) (fun i a j hi h=>stepP_lt hT hi h) _ _ _ h5 (by simp) (by simp)) fun _ _ _=>bind_out mustP_out fun _ _ _=>pok_out
theorem rulesP_out {L:List Tk} (hT:TokOK L):∀ (m:Nat) (rs:List Rl) (i:Nat),i < L.length→rs.length≤40→42≤rs.length+m→rulesP L (fuN L) m rs i≠.out:=by
  intro m
  induction m with
  | zero=>intro rs i hi h1 h2;omega
  | succ m ih=>
    intro rs i hi h1 h2
    rw [rulesP]
    split
    · exact pok_out
    · refine bind_out (ruleP_out hT rs hi) fun r j hr=>?_
      have h3:=ruleP_lt hT hi hr
      exact ih _ _ h3.1 (by rw [List.length_append,List.length_singleton];omega) (by rw [List.length_append,List.length_singleton];omega)
def rulesA (s:List UInt8):List Rl×Nat×Int:=if (toks s).2.2=0 then (match rulesP (toks s).1 (fuN (toks s).1) 42 [] 0 with
    | .ok l _=>(l,0,0)
    | .bad t c=>([],t,c)
    | .out=>([],0,0)) else ([],(toks s).2.1,(toks s).2.2)
def exprA (s:List UInt8):Tr×Nat×Int:=if (toks s).2.2=0 then (match (wholeP (toks s).1 (fuN (toks s).1) 0).bind fun a i=>(oneP (toks s).1 0 i).bind fun _ j=>.ok a j with
    | .ok a _=>(a,0,0)
    | .bad t c=>(zT,t,c)
    | .out=>(zT,0,0)) else (zT,(toks s).2.1,(toks s).2.2)
end Go.HH
namespace Go.HH
open Go Go.Proofs
set_option maxRecDepth 100000
set_option linter.unusedVariables false
section
variable {f:Nat→Nat} {L:List Tk}
end
end Go.HH
namespace Go.HH
open Go Go.Proofs
set_option maxRecDepth 100000
set_option linter.unusedVariables false
def edgeT (x y:Tk):Prop:=(x.1=y.1∧x.2.1=y.2.1)∨(x.1=0∧y.1=4∧y.2.1=[41])
def edgeL (L M:List Tk) (s j:Nat):Prop:=∀ k,k≤j→edgeT (tokAt L k) (tokAt M (k+s))
theorem edgeL.mono {L M:List Tk} {s j j':Nat} (h:edgeL L M s j) (hj:j'≤j):edgeL L M s j':=fun k hk=>h k (Nat.le_trans hk hj)
theorem bind_to {α β:Type} {r:PR α} {f:α→Nat→PR β} {a:α} {k:Nat} {x:PR β} (h:r=.ok a k) (h2:f a k=x):r.bind f=x:=by rw [h];exact h2
section
variable {L M:List Tk} {s:Nat}
theorem ed_isT {i k:Nat} {w:List UInt8} (h:edgeT (tokAt L i) (tokAt M (i+s))) (hk:k≠0) (hw:k≠4∨w≠[41]):isT M k w (i+s)=isT L k w i:=by
  unfold isT
  rcases h with ⟨h1,h2⟩ | ⟨h1,h2,h3⟩
  · rw [h1,h2]
  · rw [h1,h2,h3,show ((0:Nat) == k)=false from beq_eq_false_iff_ne.2 (Ne.symm hk),Bool.false_and]
    rcases hw with hw | hw
    · rw [show ((4:Nat) == k)=false from beq_eq_false_iff_ne.2 (Ne.symm hw),Bool.false_and]
    · rw [show (([41]:List UInt8) == w)=false from beq_eq_false_iff_ne.2 (Ne.symm hw),Bool.and_false]
theorem ed_same {i:Nat} (h:edgeT (tokAt L i) (tokAt M (i+s))) (h0:(tokAt L i).1≠0):(tokAt M (i+s)).1=(tokAt L i).1∧(tokAt M (i+s)).2.1=(tokAt L i).2.1:=by
  rcases h with ⟨h1,h2⟩ | ⟨h1,_⟩
  · exact ⟨h1.symm,h2.symm⟩
  · exact absurd h1 h0
theorem ed_kind {i c:Nat} (h:edgeT (tokAt L i) (tokAt M (i+s))) (hc:c≠0) (h4:c≠4):(tokAt M (i+s)).1=c↔(tokAt L i).1=c:=by
  rcases h with ⟨h1,h2⟩ | ⟨h1,h2,h3⟩
  · rw [h1]
  · rw [h1,h2]
    exact ⟨fun e=>absurd e.symm h4,fun e=>absurd e.symm hc⟩
theorem isT_kind {i k:Nat} {w:List UInt8} (h:isT L k w i=true):(tokAt L i).1=k:=by
  unfold isT at h
  rw [Bool.and_eq_true] at h
  exact beq_iff_eq.1 h.1
theorem ed_true {i k:Nat} {w:List UInt8} (h:edgeT (tokAt L i) (tokAt M (i+s))) (hk:k≠0) (hh:isT L k w i=true):isT M k w (i+s)=true:=by
  obtain ⟨h1,h2⟩:=ed_same h (by rw [isT_kind hh];exact hk)
  unfold isT at hh ⊢
  rw [h1,h2]
  exact hh
theorem ed_plain {i:Nat} (h:edgeT (tokAt L i) (tokAt M (i+s))) (h2:(tokAt L i).1=2→edgeT (tokAt L (i+1)) (tokAt M (i+1+s))):plainB M (i+s)=plainB L i:=by
  unfold plainB
  rw [show i+s+1=i+1+s from by omega]
  by_cases c:(tokAt L i).1=2
  · rw [ed_isT (h2 c) (by decide) (Or.inr (by decide)),c,(ed_kind h (by decide) (by decide)).2 c]
  · have c2:¬ (tokAt M (i+s)).1=2:=fun e=>c ((ed_kind h (by decide) (by decide)).1 e)
    rw [show ((tokAt L i).1 == 2)=false from beq_eq_false_iff_ne.2 c,show ((tokAt M (i+s)).1 == 2)=false from beq_eq_false_iff_ne.2 c2]
    rfl
theorem ed_pick {i k:Nat} (h:edgeT (tokAt L i) (tokAt M (i+s))) (hk:k≠0):∀ (l:List (List UInt8)) (n:Nat),(∀ w ∈ l,w≠[41])→pickW M k (i+s) l n=pickW L k i l n
  | [],_,_=>rfl
  | w :: l,n,hl=>by
    unfold pickW
    rw [ed_isT h hk (Or.inr (hl w (List.mem_cons_self ..))),ed_pick h hk l _ fun w hw=>hl w (List.mem_cons_of_mem _ hw)]
theorem mustP_mv {k:Nat} {w:List UInt8} {i:Nat} {a:Unit} {j:Nat} (hE:edgeL L M s i) (hk:k≠0) (h:mustP L k w i=.ok a j):mustP M k w (i+s)=.ok a (j+s):=by
  unfold mustP at h ⊢
  split at h
  · rename_i hh
    injection h with _ h
    rw [if_pos (ed_true (hE i (Nat.le_refl _)) hk hh),← h,show i+s+1=i+1+s from by omega]
  · cases h
theorem nameP_mv {i:Nat} {a:List UInt8} {j:Nat} (hE:edgeL L M s i) (h:nameP L i=.ok a j):nameP M (i+s)=.ok a (j+s):=by
  unfold nameP at h ⊢
  split at h
  · rename_i hh
    obtain ⟨h1,h2⟩:=ed_same (hE i (Nat.le_refl _)) (by rw [hh];decide)
    split at h
    · rename_i hv
      injection h with ha hj
      rw [h1,h2,if_pos hh,if_pos hv,← hj,← ha,show i+s+1=i+1+s from by omega]
    · cases h
  · cases h
theorem numP_mv {lo hi' i:Nat} {a:Nat} {j:Nat} (hE:edgeL L M s i) (h:numP L lo hi' i=.ok a j):numP M lo hi' (i+s)=.ok a (j+s):=by
  unfold numP at h ⊢
  split at h
  · rename_i hh
    obtain ⟨h1,h2⟩:=ed_same (hE i (Nat.le_refl _)) (by rw [hh];decide)
    split at h
    · cases h
    · rename_i hv
      injection h with ha hj
      rw [h1,h2,if_pos hh,if_neg hv,← hj,← ha,show i+s+1=i+1+s from by omega]
  · cases h
theorem twoP_mv {hi' i:Nat} {a:Nat} {j:Nat} (hE:edgeL L M s i) (h:twoP L hi' i=.ok a j):twoP M hi' (i+s)=.ok a (j+s):=by
  unfold twoP at h ⊢
  split at h
  · cases h
  · rename_i hh
    rw [if_neg]
    · exact numP_mv hE h
    · rintro ⟨h1,h2⟩
      have h3:=(ed_kind (hE i (Nat.le_refl _)) (by decide) (by decide)).1 h1
      obtain ⟨_,h4⟩:=ed_same (hE i (Nat.le_refl _)) (by rw [h3];decide)
      rw [h4] at h2
      exact hh ⟨h3,h2⟩
theorem pathP_mv (hT:TokOK L) {i:Nat} (hi:i < L.length) {a:Ky} {j:Nat} (hE:edgeL L M s j) (h:pathP L i=.ok a j):pathP M (i+s)=.ok a (j+s):=by
  unfold pathP at h ⊢
  obtain ⟨_,i1,r1,h⟩:=bind_ok h
  obtain ⟨_,i2,r2,h⟩:=bind_ok h
  obtain ⟨_,i3,r3,h⟩:=bind_ok h
  obtain ⟨_,i4,r4,h⟩:=bind_ok h
  obtain ⟨_,i5,r5,h⟩:=bind_ok h
  have h1:=numP_lt hT hi r1
  have h2:=mustP_lt hT h1.2.1 (by decide) r2
  have h3:=nameP_lt hT h2.2 r3
  have h4:=mustP_lt hT h3.2 (by decide) r4
  have h5:=nameP_lt hT h4.2 r5
  injection h with ha hj
  subst ha hj
  exact bind_to (numP_mv (hE.mono (by omega)) r1) (bind_to (mustP_mv (hE.mono (by omega)) (by decide) r2) (bind_to (nameP_mv (hE.mono (by omega)) r3) (bind_to (mustP_mv (hE.mono (by omega)) (by decide) r4) (bind_to (nameP_mv (hE.mono (by omega)) r5) rfl))))
theorem clockP_mv (hT:TokOK L) {i:Nat} (hi:i < L.length) {a:Nat} {j:Nat} (hE:edgeL L M s j) (h:clockP L i=.ok a j):clockP M (i+s)=.ok a (j+s):=by
  unfold clockP at h ⊢
  obtain ⟨_,i1,r1,h⟩:=bind_ok h
  obtain ⟨_,i2,r2,h⟩:=bind_ok h
  obtain ⟨_,i3,r3,h⟩:=bind_ok h
  have h1:=twoP_lt hT hi r1
  have h2:=mustP_lt hT h1.2.1 (by decide) r2
  have h3:=twoP_lt hT h2.2 r3
  injection h with ha hj
  subst ha hj
  exact bind_to (twoP_mv (hE.mono (by omega)) r1) (bind_to (mustP_mv (hE.mono (by omega)) (by decide) r2) (bind_to (twoP_mv (hE.mono (by omega)) r3) rfl))
theorem dayP_mv {i:Nat} {a:Nat} {j:Nat} (hE:edgeL L M s i) (h:dayP L i=.ok a j):dayP M (i+s)=.ok a (j+s):=by
  unfold dayP at h ⊢
  rw [ed_pick (hE i (Nat.le_refl _)) (by decide) _ _ (by decide)]
  cases hp:pickW L 1 i dayWs 0 with
  | some k=>
    rw [hp] at h
    injection h with ha hj
    subst ha hj
    rw [show i+s+1=i+1+s from by omega]
  | none=>rw [hp] at h;cases h
theorem daysL_ge (hT:TokOK L):∀ (n m i a j:Nat),i < L.length→daysL L n m i=.ok a j→i < j
  | 0,_,_,_,_,_,h=>by cases h
  | n+1,m,i,a,j,hi,h=>by
    rw [daysL] at h
    obtain ⟨k,i1,r1,h⟩:=bind_ok h
    have h1:=dayP_lt' hT hi r1
    split at h
    · rename_i hk
      have:=daysL_ge hT n _ _ _ _ (isT_lt hT h1.2 hk (by decide)) h
      omega
    · injection h with _ h
      omega
theorem daysL_mv (hT:TokOK L):∀ (n n' m i a j:Nat),n≤n'→i < L.length→edgeL L M s j→daysL L n m i=.ok a j→daysL M n' m (i+s)=.ok a (j+s)
  | 0,_,_,_,_,_,_,_,_,h=>by cases h
  | n+1,0,_,_,_,_,hn,_,_,_=>by omega
  | n+1,n'+1,m,i,a,j,hn,hi,hE,h=>by
    have hge:=daysL_ge hT _ _ _ _ _ hi h
    rw [daysL] at h ⊢
    obtain ⟨k,i1,r1,h⟩:=bind_ok h
    have h1:=dayP_lt' hT hi r1
    refine bind_to (dayP_mv (hE.mono (by omega)) r1) ?_
    split at h
    · rename_i hk
      have h2:=isT_lt hT h1.2 hk (by decide)
      have h3:=daysL_ge hT _ _ _ _ _ h2 h
      rw [ed_true (hE i1 (by omega)) (by decide) hk,if_pos rfl,show i1+s+1=i1+1+s from by omega]
      exact daysL_mv hT n n' _ _ _ _ (by omega) h2 hE h
    · rename_i hk
      injection h with ha hj
      subst ha hj
      rw [ed_isT (hE i1 (by omega)) (by decide) (Or.inr (by decide)),if_neg hk]
theorem daysP_mv (hT:TokOK L) (hLM:L.length≤M.length) {i:Nat} (hi:i < L.length) {a:Nat} {j:Nat} (hE:edgeL L M s j) (h:daysP L i=.ok a j):daysP M (i+s)=.ok a (j+s):=by
  unfold daysP at h ⊢
  exact daysL_mv hT _ _ _ _ _ _ (by omega) hi hE h
theorem condP_mv (hT:TokOK L) (hLM:L.length≤M.length) {i:Nat} (hi:i < L.length) {a:Tr} {j:Nat} (hE:edgeL L M s j) (h:condP L i=.ok a j):condP M (i+s)=.ok a (j+s):=by
  have hg:=condP_lt hT hi h
  have e:=hE i (by omega)
  have eT:∀ w,isT M 1 w (i+s)=isT L 1 w i:=fun w=>ed_isT e (by decide) (Or.inl (by decide))
  unfold condP at h ⊢
  rw [eT,eT,eT,eT,eT,eT,show i+s+1=i+1+s from by omega,show i+s+2=i+2+s from by omega]
  split at h
  · rename_i hk
    injection h with ha hj
    subst ha hj
    rw [if_pos hk]
  rename_i hk1
  rw [if_neg hk1]
  split at h
  · rename_i hk
    injection h with ha hj
    subst ha hj
    rw [if_pos hk]
  rename_i hk2
  rw [if_neg hk2]
  split at h
  · rename_i hk
    have h0:=isT_lt hT hi hk (by decide)
    obtain ⟨_,i1,r1,h⟩:=bind_ok h
    obtain ⟨_,i2,r2,h⟩:=bind_ok h
    injection h with ha hj
    subst ha hj
    have h1:=mustP_lt hT h0 (by decide) r1
    have h2:=nameP_lt hT h1.2 r2
    rw [if_pos hk]
    exact bind_to (mustP_mv (hE.mono (by omega)) (by decide) r1) (bind_to (nameP_mv (hE.mono (by omega)) r2) rfl)
  rename_i hk3
  rw [if_neg hk3]
  split at h
  · rename_i hk
    have h0:=isT_lt hT hi hk (by decide)
    obtain ⟨_,i1,r1,h⟩:=bind_ok h
    obtain ⟨_,i2,r2,h⟩:=bind_ok h
    obtain ⟨_,i3,r3,h⟩:=bind_ok h
    injection h with ha hj
    subst ha hj
    have h1:=clockP_lt hT h0 r1
    have h2:=mustP_lt hT h1.2.1 (by decide) r2
    have h3:=clockP_lt hT h2.2 r3
    rw [if_pos hk]
    exact bind_to (clockP_mv hT h0 (hE.mono (by omega)) r1) (bind_to (mustP_mv (hE.mono (by omega)) (by decide) r2) (bind_to (clockP_mv hT h2.2 (hE.mono (by omega)) r3) rfl))
  rename_i hk4
  rw [if_neg hk4]
  split at h
  · rename_i hk
    have h0:=isT_lt hT hi hk (by decide)
    obtain ⟨_,i1,r1,h⟩:=bind_ok h
    injection h with ha hj
    subst ha hj
    have h1:=daysP_lt hT h0 r1
    rw [if_pos hk]
    exact bind_to (daysP_mv hT hLM h0 (hE.mono (by omega)) r1) rfl
  rename_i hk5
  rw [if_neg hk5]
  split at h
  · rename_i hk
    rw [if_pos hk,ed_pick (hE (i+1) (by omega)) (by decide) _ _ (by decide)]
    cases hp:pickW L 1 (i+1) roleWs 0 with
    | some k=>
      rw [hp] at h
      injection h with ha hj
      subst ha hj
      rfl
    | none=>
      rw [hp] at h
      injection h with ha hj
      subst ha hj
      rfl
  · cases h
def loopN:NT→Bool
  | .chainL _ _=>true
  | .sumL _=>true
  | .prodL _=>true
  | _=>false
theorem loop_opd (b:Bool):loopN (opdNT b)=false:=by cases b <;> rfl
theorem pz_gt (hT:TokOK L):∀ (n:Nat) (nt:NT) (o i:Nat) (a:Tr) (j:Nat),i < L.length→loopN nt=false→pz L n nt o i=.ok a j→i < j:=by
  intro n
  induction n with
  | zero=>intro nt o i a j hi hl h;cases h
  | succ n ih=>
    intro nt o i a j hi hl h
    have lt:=fun (nt:NT) (o i:Nat) (a:Tr) (j:Nat) hi (r:pz L n nt o i=.ok a j)=>pz_lt hT n nt o i a j hi r
    cases nt with
    | expr=>
      rw [pz] at h
      split at h
      · rename_i hk
        have h0:=isT_lt hT hi hk (by decide)
        split at h
        · obtain ⟨_,i1,r1,h⟩:=bind_ok h
          obtain ⟨_,i2,r2,h⟩:=bind_ok h
          obtain ⟨_,i3,r3,h⟩:=bind_ok h
          obtain ⟨_,i4,r4,h⟩:=bind_ok h
          obtain ⟨_,i5,r5,h⟩:=bind_ok h
          injection h with _ h
          have h1:=lt _ _ _ _ _ h0 r1
          have h2:=mustP_lt hT h1.2 (by decide) r2
          have h3:=lt _ _ _ _ _ h2.2 r3
          have h4:=mustP_lt hT h3.2 (by decide) r4
          have h5:=lt _ _ _ _ _ h4.2 r5
          omega
        · cases h
      · exact ih _ _ _ _ _ hi rfl h
    | chain b=>
      rw [pz] at h
      obtain ⟨_,i1,r1,h⟩:=bind_ok h
      have h1:=ih _ _ _ _ _ hi (loop_opd b) r1
      have h2:=lt _ _ _ _ _ (lt _ _ _ _ _ hi r1).2 h
      omega
    | not=>
      rw [pz] at h
      split at h
      · rename_i hk
        have h0:=isT_lt hT hi hk (by decide)
        split at h
        · obtain ⟨_,i1,r1,h⟩:=bind_ok h
          injection h with _ h
          have h1:=lt _ _ _ _ _ h0 r1
          omega
        · cases h
      · exact ih _ _ _ _ _ hi rfl h
    | cmp=>
      rw [pz] at h
      obtain ⟨_,i1,r1,h⟩:=bind_ok h
      have h1:=ih _ _ _ _ _ hi rfl r1
      have h2:=lt _ _ _ _ _ hi r1
      cases hp:pickW L 4 i1 cmpWs 0 with
      | some k=>
        rw [hp] at h
        obtain ⟨_,i3,r3,h⟩:=bind_ok h
        injection h with _ h
        obtain ⟨_,_,h4⟩:=pickW_lt hp
        have h5:=lt _ _ _ _ _ (isT_lt hT h2.2 h4 (by decide)) r3
        omega
      | none=>
        rw [hp] at h
        injection h with _ h
        omega
    | sum=>
      rw [pz] at h
      obtain ⟨_,i1,r1,h⟩:=bind_ok h
      have h1:=ih _ _ _ _ _ hi rfl r1
      have h2:=lt _ _ _ _ _ (lt _ _ _ _ _ hi r1).2 h
      omega
    | prod=>
      rw [pz] at h
      obtain ⟨_,i1,r1,h⟩:=bind_ok h
      have h1:=ih _ _ _ _ _ hi rfl r1
      have h2:=lt _ _ _ _ _ (lt _ _ _ _ _ hi r1).2 h
      omega
    | un=>
      rw [pz] at h
      split at h
      · rename_i hk
        have h0:=isT_lt hT hi hk (by decide)
        split at h
        · injection h with _ h
          omega
        split at h
        · obtain ⟨_,i1,r1,h⟩:=bind_ok h
          injection h with _ h
          have h1:=lt _ _ _ _ _ h0 r1
          omega
        · cases h
      · exact ih _ _ _ _ _ hi rfl h
    | prim=>
      rw [pz] at h
      split at h
      · injection h with _ h;omega
      split at h
      · obtain ⟨_,i1,r1,h⟩:=bind_ok h
        injection h with _ h
        have h1:=pathP_lt hT hi r1
        omega
      split at h
      · injection h with _ h;omega
      split at h
      · rename_i hk
        obtain ⟨_,i1,r1,h⟩:=bind_ok h
        injection h with _ h
        have h1:=numP_lt hT (isT_lt hT hi hk (by decide)) r1
        omega
      split at h
      · rename_i hk
        have h0:=isT_lt hT hi hk (by decide)
        split at h
        · obtain ⟨_,i1,r1,h⟩:=bind_ok h
          obtain ⟨_,i2,r2,h⟩:=bind_ok h
          injection h with _ h
          have h1:=lt _ _ _ _ _ h0 r1
          have h2:=mustP_lt hT h1.2 (by decide) r2
          omega
        · cases h
      · exact (condP_lt hT hi h).1
    | chainL b acc=>cases hl
    | sumL e=>cases hl
    | prodL e=>cases hl
theorem pz_mv (hT:TokOK L) (hLM:L.length≤M.length) {d:Nat}:∀ (n n':Nat) (nt:NT) (o i:Nat) (a:Tr) (j:Nat),n≤n'→i < L.length→edgeL L M s j→(d=0∨o+d+(j - i)≤101)→pz L n nt o i=.ok a j→pz M n' nt (o+d) (i+s)=.ok a (j+s):=by
  intro n
  induction n with
  | zero=>intro n' nt o i a j hn hi hE hd h;cases h
  | succ n ih=>
    intro n' nt o i a j hn hi hE hd h
    obtain ⟨m,rfl⟩:∃ m,n'=m+1:=⟨n' - 1,by omega⟩
    have hm:n≤m:=by omega
    have lt:=fun (nt:NT) (o i:Nat) (a:Tr) (j:Nat) hi (r:pz L n nt o i=.ok a j)=>pz_lt hT n nt o i a j hi r
    have gt:=fun (nt:NT) (o i:Nat) (a:Tr) (j:Nat) hi hl (r:pz L n nt o i=.ok a j)=>pz_gt hT n nt o i a j hi hl r
    have hij:=pz_lt hT _ _ _ _ _ _ hi h
    have hgt:=fun hl=>pz_gt hT _ nt _ _ _ _ hi hl h
    have e:=hE i hij.1
    have eT:∀ k w,k≠0→(k≠4∨w≠[41])→isT M k w (i+s)=isT L k w i:=fun k w h1 h2=>ed_isT e h1 h2
    have s1:i+s+1=i+1+s:=by omega
    have o1:o+d+1=o+1+d:=by omega
    cases nt with
    | expr=>
      rw [pz] at h ⊢
      rw [eT 1 _ (by decide) (Or.inl (by decide)),s1,o1]
      split at h
      · rename_i hk
        have h0:=isT_lt hT hi hk (by decide)
        rw [if_pos hk]
        split at h
        · obtain ⟨_,i1,r1,h⟩:=bind_ok h
          obtain ⟨_,i2,r2,h⟩:=bind_ok h
          obtain ⟨_,i3,r3,h⟩:=bind_ok h
          obtain ⟨_,i4,r4,h⟩:=bind_ok h
          obtain ⟨_,i5,r5,h⟩:=bind_ok h
          injection h with ha hj
          subst ha hj
          have h1:=lt _ _ _ _ _ h0 r1
          have h2:=mustP_lt hT h1.2 (by decide) r2
          have h3:=lt _ _ _ _ _ h2.2 r3
          have h4:=mustP_lt hT h3.2 (by decide) r4
          have h5:=lt _ _ _ _ _ h4.2 r5
          rw [if_pos (by omega)]
          exact bind_to (ih _ _ _ _ _ _ hm h0 (hE.mono (by omega)) (by omega) r1) (bind_to (mustP_mv (hE.mono (by omega)) (by decide) r2) (bind_to (ih _ _ _ _ _ _ hm h2.2 (hE.mono (by omega)) (by omega) r3) (bind_to (mustP_mv (hE.mono (by omega)) (by decide) r4) (bind_to (ih _ _ _ _ _ _ hm h4.2 (hE.mono (by omega)) (by omega) r5) rfl))))
        · cases h
      · rename_i hk
        rw [if_neg hk]
        exact ih _ _ _ _ _ _ hm hi hE hd h
    | chain b=>
      rw [pz] at h ⊢
      obtain ⟨_,i1,r1,h⟩:=bind_ok h
      have h1:=lt _ _ _ _ _ hi r1
      have h2:=lt _ _ _ _ _ h1.2 h
      exact bind_to (ih _ _ _ _ _ _ hm hi (hE.mono (by omega)) (by omega) r1) (ih _ _ _ _ _ _ hm h1.2 hE (by omega) h)
    | chainL b acc=>
      rw [pz] at h ⊢
      rw [eT 1 _ (by decide) (Or.inl (by decide)),s1]
      split at h
      · rename_i hk
        have h0:=isT_lt hT hi hk (by decide)
        rw [if_pos hk]
        split at h
        · cases h
        · rename_i h8
          rw [if_neg h8]
          obtain ⟨_,i1,r1,h⟩:=bind_ok h
          have h1:=lt _ _ _ _ _ h0 r1
          have h2:=lt _ _ _ _ _ h1.2 h
          exact bind_to (ih _ _ _ _ _ _ hm h0 (hE.mono (by omega)) (by omega) r1) (ih _ _ _ _ _ _ hm h1.2 hE (by omega) h)
      · rename_i hk
        rw [if_neg hk]
        injection h with ha hj
        subst ha hj
        rfl
    | not=>
      rw [pz] at h ⊢
      rw [eT 1 _ (by decide) (Or.inl (by decide)),s1,o1]
      split at h
      · rename_i hk
        have h0:=isT_lt hT hi hk (by decide)
        rw [if_pos hk]
        split at h
        · obtain ⟨_,i1,r1,h⟩:=bind_ok h
          injection h with ha hj
          subst ha hj
          have h1:=gt _ _ _ _ _ h0 rfl r1
          rw [if_pos (by omega)]
          exact bind_to (ih _ _ _ _ _ _ hm h0 hE (by omega) r1) rfl
        · cases h
      · rename_i hk
        rw [if_neg hk]
        exact ih _ _ _ _ _ _ hm hi hE hd h
    | cmp=>
      rw [pz] at h ⊢
      obtain ⟨_,i1,r1,h⟩:=bind_ok h
      have h1:=lt _ _ _ _ _ hi r1
      cases hp:pickW L 4 i1 cmpWs 0 with
      | some k=>
        rw [hp] at h
        obtain ⟨_,i3,r3,h⟩:=bind_ok h
        injection h with ha hj
        subst ha hj
        obtain ⟨_,_,h4⟩:=pickW_lt hp
        have h2:=isT_lt hT h1.2 h4 (by decide)
        have h5:=lt _ _ _ _ _ h2 r3
        refine bind_to (ih _ _ _ _ _ _ hm hi (hE.mono (by omega)) (by omega) r1) ?_
        rw [ed_pick (hE i1 (by omega)) (by decide) _ _ (by decide),hp,show i1+s+1=i1+1+s from by omega]
        exact bind_to (ih _ _ _ _ _ _ hm h2 hE (by omega) r3) rfl
      | none=>
        rw [hp] at h
        injection h with ha hj
        subst ha hj
        refine bind_to (ih _ _ _ _ _ _ hm hi hE hd r1) ?_
        rw [ed_pick (hE i1 (by omega)) (by decide) _ _ (by decide),hp]
    | sum=>
      rw [pz] at h ⊢
      obtain ⟨_,i1,r1,h⟩:=bind_ok h
      have h1:=lt _ _ _ _ _ hi r1
      have h2:=lt _ _ _ _ _ h1.2 h
      exact bind_to (ih _ _ _ _ _ _ hm hi (hE.mono (by omega)) (by omega) r1) (ih _ _ _ _ _ _ hm h1.2 hE (by omega) h)
    | sumL e0=>
      rw [pz] at h ⊢
      rw [eT 4 _ (by decide) (Or.inr (by decide)),eT 4 _ (by decide) (Or.inr (by decide)),s1]
      split at h
      · rename_i hk
        have h0:=isT_lt hT hi hk (by decide)
        rw [if_pos hk]
        obtain ⟨_,i1,r1,h⟩:=bind_ok h
        have h1:=lt _ _ _ _ _ h0 r1
        have h2:=lt _ _ _ _ _ h1.2 h
        exact bind_to (ih _ _ _ _ _ _ hm h0 (hE.mono (by omega)) (by omega) r1) (ih _ _ _ _ _ _ hm h1.2 hE (by omega) h)
      rename_i hk1
      rw [if_neg hk1]
      split at h
      · rename_i hk
        have h0:=isT_lt hT hi hk (by decide)
        rw [if_pos hk]
        obtain ⟨_,i1,r1,h⟩:=bind_ok h
        have h1:=lt _ _ _ _ _ h0 r1
        have h2:=lt _ _ _ _ _ h1.2 h
        exact bind_to (ih _ _ _ _ _ _ hm h0 (hE.mono (by omega)) (by omega) r1) (ih _ _ _ _ _ _ hm h1.2 hE (by omega) h)
      · rename_i hk
        rw [if_neg hk]
        injection h with ha hj
        subst ha hj
        rfl
    | prod=>
      rw [pz] at h ⊢
      obtain ⟨_,i1,r1,h⟩:=bind_ok h
      have h1:=lt _ _ _ _ _ hi r1
      have h2:=lt _ _ _ _ _ h1.2 h
      exact bind_to (ih _ _ _ _ _ _ hm hi (hE.mono (by omega)) (by omega) r1) (ih _ _ _ _ _ _ hm h1.2 hE (by omega) h)
    | prodL e0=>
      rw [pz] at h ⊢
      rw [eT 4 _ (by decide) (Or.inr (by decide)),s1]
      split at h
      · rename_i hk
        have h0:=isT_lt hT hi hk (by decide)
        rw [if_pos hk]
        obtain ⟨_,i1,r1,h⟩:=bind_ok h
        have h1:=lt _ _ _ _ _ h0 r1
        have h2:=lt _ _ _ _ _ h1.2 h
        exact bind_to (ih _ _ _ _ _ _ hm h0 (hE.mono (by omega)) (by omega) r1) (ih _ _ _ _ _ _ hm h1.2 hE (by omega) h)
      · rename_i hk
        rw [if_neg hk]
        injection h with ha hj
        subst ha hj
        rfl
    | un=>
      rw [pz] at h ⊢
      rw [eT 4 _ (by decide) (Or.inr (by decide)),s1,o1,show i+s+2=i+2+s from by omega]
      split at h
      · rename_i hk
        have h0:=isT_lt hT hi hk (by decide)
        rw [if_pos hk]
        split at h
        · rename_i hp
          injection h with ha hj
          subst ha hj
          have hk2:(tokAt L (i+1)).1=2:=by
            unfold plainB at hp
            rw [Bool.and_eq_true] at hp
            exact beq_iff_eq.1 hp.1
          rw [ed_plain (hE (i+1) (by omega)) (fun _=>hE (i+2) (by omega)),if_pos hp,(ed_same (hE (i+1) (by omega)) (by rw [hk2];decide)).2]
        · rename_i hp
          split at h
          · obtain ⟨_,i1,r1,h⟩:=bind_ok h
            injection h with ha hj
            subst ha hj
            have h1:=gt _ _ _ _ _ h0 rfl r1
            rw [ed_plain (hE (i+1) (by omega)) (fun _=>hE (i+2) (by omega)),if_neg hp,if_pos (by omega)]
            exact bind_to (ih _ _ _ _ _ _ hm h0 hE (by omega) r1) rfl
          · cases h
      · rename_i hk
        rw [if_neg hk]
        exact ih _ _ _ _ _ _ hm hi hE hd h
    | prim=>
      have hg:=hgt rfl
      rw [pz] at h ⊢
      rw [eT 4 _ (by decide) (Or.inr (by decide)),eT 4 _ (by decide) (Or.inr (by decide)),s1,o1,ed_plain e (fun _=>hE (i+1) (by omega))]
      split at h
      · rename_i hp
        injection h with ha hj
        subst ha hj
        have hk2:(tokAt L i).1=2:=by
          unfold plainB at hp
          rw [Bool.and_eq_true] at hp
          exact beq_iff_eq.1 hp.1
        rw [if_pos hp,(ed_same e (by rw [hk2];decide)).2]
      rename_i hk1
      rw [if_neg hk1]
      split at h
      · rename_i hk
        obtain ⟨_,i1,r1,h⟩:=bind_ok h
        injection h with ha hj
        subst ha hj
        rw [if_pos ((ed_kind e (by decide) (by decide)).2 hk)]
        exact bind_to (pathP_mv hT hi hE r1) rfl
      rename_i hk2
      rw [if_neg (fun x=>hk2 ((ed_kind e (by decide) (by decide)).1 x))]
      split at h
      · rename_i hk
        injection h with ha hj
        subst ha hj
        rw [if_pos ((ed_kind e (by decide) (by decide)).2 hk),(ed_same e (by rw [hk];decide)).2]
      rename_i hk3
      rw [if_neg (fun x=>hk3 ((ed_kind e (by decide) (by decide)).1 x))]
      split at h
      · rename_i hk
        have h0:=isT_lt hT hi hk (by decide)
        obtain ⟨_,i1,r1,h⟩:=bind_ok h
        injection h with ha hj
        subst ha hj
        have h1:=numP_lt hT h0 r1
        rw [if_pos hk]
        exact bind_to (numP_mv (hE.mono (by omega)) r1) rfl
      rename_i hk4
      rw [if_neg hk4]
      split at h
      · rename_i hk
        have h0:=isT_lt hT hi hk (by decide)
        rw [if_pos hk]
        split at h
        · obtain ⟨_,i1,r1,h⟩:=bind_ok h
          obtain ⟨_,i2,r2,h⟩:=bind_ok h
          injection h with ha hj
          subst ha hj
          have h1:=gt _ _ _ _ _ h0 rfl r1
          have h1':=lt _ _ _ _ _ h0 r1
          have h2:=mustP_lt hT h1'.2 (by decide) r2
          rw [if_pos (by omega)]
          exact bind_to (ih _ _ _ _ _ _ hm h0 (hE.mono (by omega)) (by omega) r1) (bind_to (mustP_mv (hE.mono (by omega)) (by decide) r2) rfl)
        · cases h
      rename_i hk5
      rw [if_neg hk5]
      exact condP_mv hT hLM hi hE h
end
end Go.HH
namespace Go.HH
open Go Go.Proofs
set_option maxRecDepth 100000
set_option linter.unusedSimpArgs false
set_option linter.unusedVariables false
def moK (n:Nat) (t:Tk):Tk:=(t.1,t.2.1,n+t.2.2)
def moO (n:Nat):Tk×Nat ⊕ Int→Tk×Nat ⊕ Int
  | .inl (t,k)=>.inl (moK n t,n+k)
  | .inr c=>.inr c
section
variable (p t:List UInt8)
theorem suf_len:(p++t).length=p.length+t.length:=List.length_append
theorem suf_drop (j:Nat):(p++t).drop (p.length+j)=t.drop j:=by
  rw [← List.drop_drop,List.drop_append_of_le_length (Nat.le_refl _),List.drop_length,List.nil_append]
theorem atL_suf (j:Nat):atL (p++t) (p.length+j)=atL t j:=by
  unfold atL
  rw [List.getElem?_append_right (by omega),show p.length+j - p.length=j from by omega]
theorem runL_suf (q:Nat→Bool) (j:Nat):runL q (p++t) (p.length+j)=p.length+runL q t j:=by
  unfold runL
  rw [suf_drop];omega
theorem cut_suf (j k:Nat):((p++t).take (p.length+k)).drop (p.length+j)=(t.take k).drop j:=by
  rw [List.drop_take,suf_drop,List.drop_take]
  congr 1;omega
theorem opLen_suf (j:Nat):opLen (p++t) (p.length+j)=opLen t j:=by
  unfold opLen
  rw [atL_suf,Nat.add_assoc p.length,atL_suf]
theorem numL_suf (j:Nat):numL (p++t) (p.length+j)=(numL t j).map (p.length+·):=by
  unfold numL
  rw [runL_suf,suf_drop,show p.length+runL dg t j - (p.length+j)=runL dg t j - j from by omega,Option.map_map]
  rfl
theorem endQ_suf:∀ (m m' e:Nat),t.length - e < m→m≤m'→endQ m' (p++t) (p.length+e)=p.length+endQ m t e
  | 0,_,_,h,_=>by omega
  | m+1,0,_,_,h=>by omega
  | m+1,m'+1,e,h,h'=>by
    have hj:=suf_len p t
    unfold endQ
    rw [atL_suf]
    by_cases he:e < t.length∧atL t e≠34
    · rw [if_pos he,if_pos ⟨by omega,he.2⟩]
      by_cases d:atL t e=92
      · rw [if_pos d,if_pos d]
        cases m with
        | zero=>omega
        | succ m=>exact endQ_suf (m+1) m' (e+2) (by omega) (by omega)
      · rw [if_neg d,if_neg d]
        exact endQ_suf m m' (e+1) (by omega) (by omega)
    · rw [if_neg he,if_neg (fun x=>he ⟨by omega,x.2⟩)]
theorem strL_suf (j:Nat):strL (p++t) (p.length+j)=(strL t j).map fun x=>(x.1,p.length+x.2):=by
  have hj:=suf_len p t
  unfold strL
  simp only
  have he:=endQ_suf p t (t.length+1) ((p++t).length+1) (j+1) (by omega) (by omega)
  rw [show p.length+j+1=p.length+(j+1) from by omega,he,Nat.add_assoc (p.length) _ 1,cut_suf]
  by_cases c1:t.length≤endQ (t.length+1) t (j+1)
  · rw [if_pos c1,if_pos (by omega)];rfl
  · rw [if_neg c1,if_neg (by omega)]
    split <;> rfl
theorem oneL_suf {j:Nat}:oneL (p++t) (p.length+j)=moO (p.length) (oneL t j):=by
  unfold oneL
  simp only
  rw [atL_suf,runL_suf,numL_suf,strL_suf,opLen_suf,cut_suf,Nat.add_assoc (p.length),cut_suf]
  split
  · rfl
  · split
    · cases numL t j with
      | none=>rfl
      | some k=>
        simp only [Option.map_some]
        rw [cut_suf]
        rfl
    · split
      · cases strL t j with
        | none=>rfl
        | some x=>rfl
      · split <;> rfl
theorem sk_suf:∀ (d j:Nat),t.length - j≤d→j≤t.length→sk (p++t) (p.length+j)=p.length+sk t j:=by
  have hj:=suf_len p t
  intro d
  induction d with
  | zero=>
    intro j h hl
    rw [sk_eq (by omega),sk_eq hl,if_neg (by omega),if_neg (by omega)]
  | succ d ih=>
    intro j h hl
    rw [sk_eq (by omega),sk_eq hl,atL_suf,show p.length+j+1=p.length+(j+1) from by omega,atL_suf,runL_suf]
    by_cases c:j < t.length
    · rw [if_pos c,if_pos (by omega)]
      split
      · exact ih (j+1) (by omega) (by omega)
      · split
        · rename_i h35
          have hp:nl (atL t j)=true:=by rw [h35.1];rfl
          have h1:=runL_gt c hp
          have h2:=runL_le (p:=nl) (s:=t) (i:=j) hl
          exact ih (runL nl t j) (by omega) h2.2
        · rfl
    · rw [if_neg c,if_neg (by omega)]
def moR (n:Nat) (acc:List Tk) (r:List Tk×Nat×Int):List Tk×Nat×Int:=if r.2.2=0 then (acc++r.1.map (moK n),0,0) else ([],n+r.2.1,r.2.2)
theorem tk_suf (acc:List Tk):∀ (d j:Nat) (accT:List Tk),t.length - j≤d→j≤t.length→acc.length+accT.length+(t.length - j) < 4000 →
    tk (p++t) (p.length+j) (acc++accT.map (moK (p.length)))=moR (p.length) acc (tk t j accT):=by
  have hj:=suf_len p t
  have hend:∀ accT j,j≤t.length→¬ j < t.length→tk (p++t) (p.length+j) (acc++accT.map (moK (p.length)))=moR (p.length) acc (tk t j accT):=fun accT j hl c=>by
    rw [tk_eq (s:=p++t) _ (by omega),tk_eq (s:=t) _ hl,if_neg c,if_neg (by omega)]
    unfold moR
    rw [if_pos rfl,List.map_append,List.append_assoc,hj]
    rfl
  intro d
  induction d with
  | zero=>intro j accT h hl ha;exact hend accT j hl (by omega)
  | succ d ih=>
    intro j accT h hl ha
    by_cases c:j < t.length
    · rw [tk_eq (s:=p++t) _ (by omega),tk_eq (s:=t) _ hl,if_pos c,if_pos (by omega),if_neg (by rw [List.length_append,List.length_map];omega),if_neg (by omega),oneL_suf]
      cases ho:oneL t j with
      | inr e=>
        have:=oneL_err ho
        unfold moR moO
        simp only
        rw [if_neg (by omega)]
      | inl x=>
        obtain ⟨u,k⟩:=x
        have hbd:=oneL_bd c ho
        have hle:=sk_le hbd.2
        unfold moO
        simp only
        rw [sk_suf p t t.length k (by omega) hbd.2]
        have h2:=ih (sk t k) (accT++[u]) (by omega) hle.2 (by rw [List.length_append,List.length_singleton];omega)
        rw [← h2,List.map_append,List.append_assoc]
        rfl
    · exact hend accT j hl c
end
section
variable (s t:List UInt8)
def joinL:List UInt8:=s++10 :: t
theorem joinL_length:(joinL s t).length=s.length+1+t.length:=by
  unfold joinL
  rw [List.length_append,List.length_cons];omega
theorem joinL_drop {i:Nat} (h:i≤s.length):(joinL s t).drop i=s.drop i++10 :: t:=by
  unfold joinL
  exact List.drop_append_of_le_length h
theorem atL_join {i:Nat} (h:i < s.length):atL (joinL s t) i=atL s i:=by
  unfold atL joinL
  rw [List.getElem?_append_left h]
theorem atL_joinN:atL (joinL s t) s.length=10:=by
  unfold atL joinL
  rw [List.getElem?_append_right (Nat.le_refl _),Nat.sub_self]
  rfl
theorem atL_ge {i:Nat} (h:s.length≤i):atL s i=0:=by unfold atL;rw [List.getElem?_eq_none h]
theorem tw_join (p:UInt8→Bool) (hp:p 10=false):∀ (x:List UInt8),(x++10 :: t).takeWhile p=x.takeWhile p
  | []=>by rw [List.nil_append,List.takeWhile_cons,hp];rfl
  | c :: x=>by
    rw [List.cons_append,List.takeWhile_cons,List.takeWhile_cons,tw_join p hp x]
theorem runL_join {p:Nat→Bool} (hp:p 10=false) {i:Nat} (h:i≤s.length):runL p (joinL s t) i=runL p s i:=by
  unfold runL
  rw [joinL_drop s t h,tw_join t _ hp]
theorem cut_join {i k:Nat} (hk:k≤s.length):((joinL s t).take k).drop i=(s.take k).drop i:=by
  unfold joinL
  rw [List.take_append_of_le_length hk]
theorem opLen_join {i:Nat} (h:i < s.length):opLen (joinL s t) i=opLen s i:=by
  unfold opLen
  rw [atL_join s t h]
  by_cases h1:i+1 < s.length
  · rw [atL_join s t h1]
  · have:i+1=s.length:=by omega
    rw [this,atL_joinN,atL_ge s (Nat.le_refl _)]
    simp
theorem numL_join {i:Nat} (h:i≤s.length):numL (joinL s t) i=numL s i:=by
  unfold numL
  have h1:=runL_le (p:=dg) h
  rw [runL_join s t rfl h,joinL_drop s t h,List.take_append_of_le_length (by rw [List.length_drop];omega)]
theorem endQ_join:∀ (m m' e:Nat),s.length - e < m→m≤m'→endQ m s e < s.length→endQ m' (joinL s t) e=endQ m s e
  | 0,_,_,h,_,_=>by omega
  | m+1,0,_,_,h,_=>by omega
  | m+1,m'+1,e,h,h',hl=>by
    have hge:=endQ_ge (m+1) s e
    have he:e < s.length:=by omega
    have hj:=joinL_length s t
    unfold endQ at hl ⊢
    rw [atL_join s t he]
    by_cases c:atL s e≠34
    · have hc1:e < (joinL s t).length∧atL s e≠34:=⟨by omega,c⟩
      have hc2:e < s.length∧atL s e≠34:=⟨he,c⟩
      rw [if_pos hc2] at hl
      rw [if_pos hc1,if_pos hc2]
      by_cases d:atL s e=92
      · rw [if_pos d] at hl
        rw [if_pos d]
        cases m with
        | zero=>
          have:e+1=s.length:=by omega
          unfold endQ at hl
          omega
        | succ m=>exact endQ_join (m+1) m' (e+2) (by omega) (by omega) hl
      · rw [if_neg d] at hl
        rw [if_neg d]
        exact endQ_join m m' (e+1) (by omega) (by omega) hl
    · rw [if_neg (fun x=>c x.2),if_neg (fun x=>c x.2)]
theorem joinL_eq:joinL s t=(s++[10])++t:=by unfold joinL;rw [List.append_assoc];rfl
theorem len10:(s++[10]:List UInt8).length=s.length+1:=by rw [List.length_append];rfl
theorem sk_join2 (d j:Nat) (h:t.length - j≤d) (hl:j≤t.length):sk (joinL s t) (s.length+1+j)=s.length+1+sk t j:=by
  have:=sk_suf (s++[10]) t d j h hl
  rw [len10] at this
  rw [joinL_eq]
  exact this
theorem strL_join {i:Nat} (h:i < s.length) {x:List UInt8×Nat} (hx:strL s i=some x):strL (joinL s t) i=some x:=by
  have hj:=joinL_length s t
  unfold strL at hx ⊢
  simp only at hx ⊢
  split at hx
  · cases hx
  · rename_i hl
    have he:=endQ_join s t (s.length+1) ((joinL s t).length+1) (i+1) (by omega) (by omega) (by omega)
    rw [he,if_neg (by omega),cut_join s t (by omega)]
    exact hx
theorem endQ_joinN:∀ (m m' e:Nat),s.length - e < m→m < m'→s.length≤endQ m s e→s.length+1≤endQ m' (joinL s []) e
  | 0,_,_,h,_,_=>by omega
  | m+1,0,_,_,h,_=>by omega
  | m+1,m'+1,e,h,h',hl=>by
    have hj:=joinL_length s []
    rw [List.length_nil] at hj
    unfold endQ at hl ⊢
    by_cases he:e < s.length
    · rw [atL_join s [] he]
      by_cases c:atL s e≠34
      · rw [if_pos ⟨he,c⟩] at hl
        rw [if_pos ⟨by omega,c⟩]
        by_cases d:atL s e=92
        · rw [if_pos d] at hl ⊢
          cases m with
          | zero=>
            have h2:=endQ_ge m' (joinL s []) (e+2)
            omega
          | succ m=>exact endQ_joinN (m+1) m' (e+2) (by omega) (by omega) hl
        · rw [if_neg d] at hl ⊢
          cases m with
          | zero=>
            have:e+1=s.length:=by omega
            cases m' with
            | zero=>omega
            | succ m'=>
              unfold endQ
              rw [this,atL_joinN,if_pos ⟨by omega,by decide⟩,if_neg (by decide)]
              exact endQ_ge m' _ _
          | succ m=>exact endQ_joinN (m+1) m' (e+1) (by omega) (by omega) hl
      · rw [if_neg (fun x=>c x.2)] at hl
        omega
    · by_cases h1:e=s.length
      · rw [h1,atL_joinN,if_pos ⟨by omega,by decide⟩,if_neg (by decide)]
        exact endQ_ge m' _ _
      · rw [if_neg (by omega)]
        omega
theorem strL_joinN {i:Nat} (h:i < s.length) (hx:strL s i=none):strL (joinL s []) i=none:=by
  have hj:=joinL_length s []
  rw [List.length_nil] at hj
  unfold strL at hx ⊢
  simp only at hx ⊢
  by_cases hl:s.length≤endQ (s.length+1) s (i+1)
  · rw [if_pos]
    have:=endQ_joinN s (s.length+1) ((joinL s []).length+1) (i+1) (by omega) (by omega) hl
    omega
  · have he:=endQ_join s [] (s.length+1) ((joinL s []).length+1) (i+1) (by omega) (by omega) (by omega)
    rw [if_neg hl] at hx
    rw [he,if_neg (by omega),cut_join s [] (by omega)]
    exact hx
theorem oneL_join {i:Nat} (h:i < s.length) (h4:oneL s i≠.inr 4∨t=[]):oneL (joinL s t) i=oneL s i:=by
  have hpt:=runL_le (p:=pt) (s:=s) (i:=i) (by omega)
  have hdg:=runL_le (p:=dg) (s:=s) (i:=i) (by omega)
  have hol:=opLen_le h
  unfold oneL at h4 ⊢
  simp only at h4 ⊢
  rw [atL_join s t h,runL_join s t rfl (by omega),numL_join s t (by omega),opLen_join s t h,cut_join s t hpt.2,cut_join s t hol]
  split
  · rfl
  · rename_i c1
    rw [if_neg c1] at h4
    split
    · cases hn:numL s i with
      | none=>rfl
      | some k=>
        have hk:k≤s.length:=by
          unfold numL at hn
          obtain ⟨_,_,hn⟩:=Option.map_eq_some_iff.1 hn
          omega
        simp only
        rw [cut_join s t hk]
    · rename_i c2
      rw [if_neg c2] at h4
      split
      · rename_i c3
        rw [if_pos c3] at h4
        cases hn:strL s i with
        | none=>
          rcases h4 with h4 | rfl
          · rw [hn] at h4;exact absurd rfl h4
          · rw [strL_joinN s h hn]
        | some x=>rw [strL_join s t h hn]
      · rfl
theorem dg_join {i:Nat} (h:i < s.length):dg (atL (joinL s t) (i+1))=dg (atL s (i+1)):=by
  by_cases h1:i+1 < s.length
  · rw [atL_join s t h1]
  · have:i+1=s.length:=by omega
    rw [this,atL_joinN,atL_ge s (Nat.le_refl _)]
    rfl
theorem sk_join:∀ (d i:Nat),s.length - i≤d→i≤s.length→sk (joinL s t) i=if sk s i < s.length then sk s i else s.length+1+sk t 0:=by
  have hj:=joinL_length s t
  have hN:sk (joinL s t) s.length=s.length+1+sk t 0:=by
    rw [sk_eq (by omega),if_pos (by omega),atL_joinN,if_pos (Or.inr (Or.inr rfl))]
    exact sk_join2 s t t.length 0 (by omega) (by omega)
  intro d
  induction d with
  | zero=>
    intro i h hl
    have:i=s.length:=by omega
    subst this
    rw [hN,sk_eq (Nat.le_refl _),if_neg (by omega:¬ s.length < s.length),if_neg (by omega)]
  | succ d ih=>
    intro i h hl
    by_cases c:i < s.length
    · rw [sk_eq (s:=joinL s t) (by omega),sk_eq (s:=s) hl,if_pos c,if_pos (by omega:i < (joinL s t).length),atL_join s t c,dg_join s t c,runL_join s t rfl hl]
      split
      · exact ih (i+1) (by omega) (by omega)
      · split
        · rename_i h35
          have hp:nl (atL s i)=true:=by rw [h35.1];rfl
          have h1:=runL_gt c hp
          have h2:=runL_le (p:=nl) (s:=s) (i:=i) hl
          exact ih (runL nl s i) (by omega) h2.2
        · rfl
    · have:i=s.length:=by omega
      subst this
      rw [hN,sk_eq (Nat.le_refl _),if_neg (by omega:¬ s.length < s.length),if_neg (by omega)]
theorem tk_join:∀ (d i:Nat) (acc:List Tk),s.length - i≤d→i≤s.length→acc.length+(s.length - i) < 4000 →
    ((tk s i acc).2.2≠0∧((tk s i acc).2.2≠4∨t=[])→tk (joinL s t) i acc=tk s i acc) ∧
    ((tk s i acc).2.2=0→∃ r,tk s i acc=(r++[(0,[],s.length)],0,0)∧r.length≤acc.length+(s.length - i)∧tk (joinL s t) (if i < s.length then i else s.length+1+sk t 0) acc=tk (joinL s t) (s.length+1+sk t 0) r):=by
  have hj:=joinL_length s t
  intro d
  induction d with
  | zero=>
    intro i acc h hl ha
    have:¬ i < s.length:=by omega
    rw [tk_eq (s:=s) _ hl,if_neg this,if_neg this]
    exact ⟨fun h=>absurd rfl h.1,fun _=>⟨acc,rfl,by omega,rfl⟩⟩
  | succ d ih=>
    intro i acc h hl ha
    by_cases c:i < s.length
    · rw [if_pos c,tk_eq (s:=joinL s t) _ (by omega),if_pos (by omega:i < (joinL s t).length),tk_eq (s:=s) _ hl,if_pos c,if_neg (by omega),if_neg (by omega)]
      cases ho:oneL s i with
      | inr e=>
        have he:=oneL_err ho
        refine ⟨fun h4=>?_,fun h0=>?_⟩
        · rw [oneL_join s t c (by rw [ho];exact h4.2.imp (fun h4 h5=>h4 (by injection h5)) id),ho]
        · simp only at h0;omega
      | inl x=>
        obtain ⟨u,k⟩:=x
        have hbd:=oneL_bd c ho
        have hle:=sk_le hbd.2
        rw [oneL_join s t c (.inl (by rw [ho];intro h5;cases h5)),ho]
        simp only
        have h2:=ih (sk s k) (acc++[u]) (by omega) hle.2 (by rw [List.length_append,List.length_singleton];omega)
        rw [sk_join s t s.length k (by omega) hbd.2]
        refine ⟨fun h4=>?_,fun h0=>?_⟩
        · have hlt:sk s k < s.length:=by
            rcases Nat.lt_or_ge (sk s k) s.length with h' | h'
            · exact h'
            · rw [tk_eq (s:=s) _ hle.2,if_neg (by omega)] at h4
              exact absurd rfl h4.1
          rw [if_pos hlt]
          exact h2.1 h4
        · obtain ⟨r,h3,h4,h5⟩:=h2.2 h0
          rw [List.length_append,List.length_singleton] at h4
          exact ⟨r,h3,by omega,h5⟩
    · have:¬ i < s.length:=c
      rw [tk_eq (s:=s) _ hl,if_neg this,if_neg this]
      exact ⟨fun h=>absurd rfl h.1,fun _=>⟨acc,rfl,by omega,rfl⟩⟩
theorem toks_eq {s:List UInt8} (h:s.length≤20000):toks s=tk s (sk s 0) []:=by unfold toks;rw [if_neg (by omega)];rfl
theorem toks_suf (p t:List UInt8) (acc:List Tk) (h:acc.length+t.length < 4000):tk (p++t) (p.length+sk t 0) acc=moR p.length acc (tk t (sk t 0) []):=by
  have hle:=sk_le (s:=t) (i:=0) (by omega)
  have:=tk_suf p t acc t.length (sk t 0) [] (by omega) hle.2 (by rw [List.length_nil];omega)
  rw [← this,List.map_nil,List.append_nil]
theorem toks_join (s t:List UInt8) (hs:s.length≤3100) (ht:s.length+t.length≤3900) :
    ((toks s).2.2≠0∧((toks s).2.2≠4∨t=[])→toks (joinL s t)=toks s) ∧
    ((toks s).2.2=0→∃ r,toks s=(r++[(0,[],s.length)],0,0)∧r.length≤s.length∧toks (joinL s t)=moR (s.length+1) r (toks t)):=by
  have hj:=joinL_length s t
  rw [toks_eq (s:=s) (by omega),toks_eq (s:=t) (by omega),toks_eq (s:=joinL s t) (by omega),sk_join s t s.length 0 (by omega) (by omega)]
  have hle:=sk_le (s:=s) (i:=0) (by omega)
  have h:=tk_join s t s.length (sk s 0) [] (by omega) hle.2 (by rw [List.length_nil];omega)
  refine ⟨fun h4=>?_,fun h0=>?_⟩
  · have hl:sk s 0 < s.length:=by
      rcases Nat.lt_or_ge (sk s 0) s.length with h' | h'
      · exact h'
      · rw [tk_eq (s:=s) _ hle.2,if_neg (by omega)] at h4
        exact absurd rfl h4.1
    rw [if_pos hl]
    exact h.1 h4
  · obtain ⟨r,g1,g2,g3⟩:=h.2 h0
    rw [List.length_nil] at g2
    refine ⟨r,g1,by omega,?_⟩
    rw [g3]
    have h5:=toks_suf (s++[10]) t r (by omega)
    rw [len10,← joinL_eq] at h5
    exact h5
end
end Go.HH
