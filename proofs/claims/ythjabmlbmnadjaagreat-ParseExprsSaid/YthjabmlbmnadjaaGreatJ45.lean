/-
  What the law needs, packed: GM GN GO GP GQ.
-/
import Derived.Test.YthjabmlbmnadjaaGreatJ44
open List renaming getElem?_cons_zero->yW,getElem?_cons_succ->yX,getElem?_toArray->y0,filterMap_cons->y5,filterMap_nil->y6,not_mem_nil->y7,mem_cons->y8
open Option renaming getD->yY
open Go.Proofs.Tryz renaming f146->yZ,f135->y2,f142->y3
open Bool renaming false_eq_true->y1
open Nat renaming le_of_ble_eq_true->y4,reduceLT->y9
open Int renaming one_mul->y'
open Go.Code renaming loop->za
namespace Go.HH
open Go Go.Proofs
set_option maxRecDepth 100000
set_option maxHeartbeats 4000000
set_option linter.unusedSimpArgs false
set_option linter.unusedVariables false
set_option linter.unusedSectionVars false
theorem NR:GY CC y2 (y2.body.getD .skip)=true:=by kernel_rfl
theorem NS:Bk CC y2 (y2.body.getD .skip)=false:=by kernel_rfl
theorem MM:CC.P.funcs[135]?=some y2:=by kernel_rfl
theorem Kf:GY CC y3 (y3.body.getD .skip)=true:=by kernel_rfl
theorem Kg:Bk CC y3 (y3.body.getD .skip)=false:=by kernel_rfl
theorem JB:CC.P.funcs[142]?=some y3:=by kernel_rfl
theorem lr:Cl CC (opsOf (Aa y3 [1,1,0,0,0,1,0]))=false:=by kernel_rfl
theorem Wy:Cc (opsOf (Aa y3 [1,1,0,0,0,1,0]))=[[0,1,2,3,4],[1,0,2,3,4],[1,2,0,3,4]]:=by kernel_rfl
theorem dm {bx:List PBox} {id:Nat} {L:List Tk} {s s2:RS} {o:Nat} {Nm:PV} (a b:Tr) (Ad:id < bx.length) (hc:C5 bx) (e:List PV) (g0:getT e 0=.bp id 0) (g3:getT e 3=.bp (bx.length+1) 0) (t1:∀ ys:List PBox,(ys.all fun x=>x.under (bx.length+ys.length))=true->Ak CC (Ae CC) 145 [.bp id 0] (BX bx id (.cells 69 [.sl (A2 L),.int .i64 (s.i:Int),.int .i64 s.c,.int .i64 (s.t:Int),.int .i64 (o:Int),Nm]) ys)=some (.ret (.agg (A7 b)),BX bx id (.cells 69 [.sl (A2 L),.int .i64 (s2.i:Int),.int .i64 s2.c,.int .i64 (s2.t:Int),.int .i64 (o:Int),Nm]) ys)) :
 drawAll CC (Ae CC) (opsOf (Aa y3 [1,1,0,0,0,1,0])) ⟨e,BX bx id (.cells 69 [.sl (A2 L),.int .i64 (s.i:Int),.int .i64 s.c,.int .i64 (s.t:Int),.int .i64 (o:Int),Nm]) [.cells 35 [.int .i64 0,.int .i64 0,.int .i64 0,.str [],.int .i64 0,.int .i64 0,.str [],.int .i64 0,.str [],.str [],.nils],.cells 35 (A7 a)]⟩=some (.normal,⟨(setT (setT (setT (setT e 8 (.agg (A7 a))) 9 (.bp id 0)) 10 (.agg (A7 b))) 11 (.agg (A7 (Bb 13 [a,b])))),BX bx id (.cells 69 [.sl (A2 L),.int .i64 (s2.i:Int),.int .i64 s2.c,.int .i64 (s2.t:Int),.int .i64 (o:Int),Nm]) [.cells 35 [.int .i64 0,.int .i64 0,.int .i64 0,.str [],.int .i64 0,.int .i64 0,.str [],.int .i64 0,.str [],.str [],.nils],.cells 35 (A7 (Bb 13 [a,b]))]⟩):=by
 have hn:=FG 13 a b;refine AN.2 ⟨by rw [Wy];simp,fun l hl=>?_⟩;rw [Wy] at hl;rw [<- Ih];rw [<- Cu] at t1 hn;simp only [y8,y7,or_false] at hl;rcases hl with rfl | rfl | rfl
 all_goals
  simp only [opsOf,Aa,Ac,y3,yY,A',y5,y6,y0,yX,yW];simp only [S9,AT,seval,PY,Bv,PZ,Aw,Al,g0,g3,SX,AR,Bm,t1,hn,Ad]
  try simp only [EE,y9]
theorem lu:Cl CC (opsOf (Aa y2 [1,1,0,0,0,1,0]))=false:=by kernel_rfl
theorem Wz:Cc (opsOf (Aa y2 [1,1,0,0,0,1,0]))=[[0,1,2,3,4],[1,0,2,3,4],[1,2,0,3,4]]:=by kernel_rfl
theorem dn {bx:List PBox} {id:Nat} {L:List Tk} {s s2:RS} {o:Nat} {Nm:PV} (a b:Tr) (Ad:id < bx.length) (hc:C5 bx) (e:List PV) (g0:getT e 0=.bp id 0) (g3:getT e 3=.bp (bx.length+1) 0) (t1:∀ ys:List PBox,(ys.all fun x=>x.under (bx.length+ys.length))=true->Ak CC (Ae CC) 142 [.bp id 0] (BX bx id (.cells 69 [.sl (A2 L),.int .i64 (s.i:Int),.int .i64 s.c,.int .i64 (s.t:Int),.int .i64 (o:Int),Nm]) ys)=some (.ret (.agg (A7 b)),BX bx id (.cells 69 [.sl (A2 L),.int .i64 (s2.i:Int),.int .i64 s2.c,.int .i64 (s2.t:Int),.int .i64 (o:Int),Nm]) ys)) :
 drawAll CC (Ae CC) (opsOf (Aa y2 [1,1,0,0,0,1,0])) ⟨e,BX bx id (.cells 69 [.sl (A2 L),.int .i64 (s.i:Int),.int .i64 s.c,.int .i64 (s.t:Int),.int .i64 (o:Int),Nm]) [.cells 35 [.int .i64 0,.int .i64 0,.int .i64 0,.str [],.int .i64 0,.int .i64 0,.str [],.int .i64 0,.str [],.str [],.nils],.cells 35 (A7 a)]⟩=some (.normal,⟨(setT (setT (setT (setT e 8 (.agg (A7 a))) 9 (.bp id 0)) 10 (.agg (A7 b))) 11 (.agg (A7 (Bb 11 [a,b])))),BX bx id (.cells 69 [.sl (A2 L),.int .i64 (s2.i:Int),.int .i64 s2.c,.int .i64 (s2.t:Int),.int .i64 (o:Int),Nm]) [.cells 35 [.int .i64 0,.int .i64 0,.int .i64 0,.str [],.int .i64 0,.int .i64 0,.str [],.int .i64 0,.str [],.str [],.nils],.cells 35 (A7 (Bb 11 [a,b]))]⟩):=by
 have hn:=FG 11 a b;refine AN.2 ⟨by rw [Wz];simp,fun l hl=>?_⟩;rw [Wz] at hl;rw [<- Ih];rw [<- Cu] at t1 hn;simp only [y8,y7,or_false] at hl;rcases hl with rfl | rfl | rfl
 all_goals
  simp only [opsOf,Aa,Ac,y2,yY,A',y5,y6,y0,yX,yW];simp only [S9,AT,seval,PY,Bv,PZ,Aw,Al,g0,g3,SX,AR,Bm,t1,hn,Ad]
  try simp only [EE,y9]
theorem lz:Cl CC (opsOf (Aa y2 [1,1,0,0,0,1,1,1,0]))=false:=by kernel_rfl
theorem WA:Cc (opsOf (Aa y2 [1,1,0,0,0,1,1,1,0]))=[[0,1,2,3,4],[1,0,2,3,4],[1,2,0,3,4]]:=by kernel_rfl
theorem dp {bx:List PBox} {id:Nat} {L:List Tk} {s s2:RS} {o:Nat} {Nm:PV} (a b:Tr) (Ad:id < bx.length) (hc:C5 bx) (e:List PV) (g0:getT e 0=.bp id 0) (g3:getT e 3=.bp (bx.length+1) 0) (t1:∀ ys:List PBox,(ys.all fun x=>x.under (bx.length+ys.length))=true->Ak CC (Ae CC) 142 [.bp id 0] (BX bx id (.cells 69 [.sl (A2 L),.int .i64 (s.i:Int),.int .i64 s.c,.int .i64 (s.t:Int),.int .i64 (o:Int),Nm]) ys)=some (.ret (.agg (A7 b)),BX bx id (.cells 69 [.sl (A2 L),.int .i64 (s2.i:Int),.int .i64 s2.c,.int .i64 (s2.t:Int),.int .i64 (o:Int),Nm]) ys)) :
 drawAll CC (Ae CC) (opsOf (Aa y2 [1,1,0,0,0,1,1,1,0])) ⟨e,BX bx id (.cells 69 [.sl (A2 L),.int .i64 (s.i:Int),.int .i64 s.c,.int .i64 (s.t:Int),.int .i64 (o:Int),Nm]) [.cells 35 [.int .i64 0,.int .i64 0,.int .i64 0,.str [],.int .i64 0,.int .i64 0,.str [],.int .i64 0,.str [],.str [],.nils],.cells 35 (A7 a)]⟩=some (.normal,⟨(setT (setT (setT (setT e 14 (.agg (A7 a))) 15 (.bp id 0)) 16 (.agg (A7 b))) 17 (.agg (A7 (Bb 12 [a,b])))),BX bx id (.cells 69 [.sl (A2 L),.int .i64 (s2.i:Int),.int .i64 s2.c,.int .i64 (s2.t:Int),.int .i64 (o:Int),Nm]) [.cells 35 [.int .i64 0,.int .i64 0,.int .i64 0,.str [],.int .i64 0,.int .i64 0,.str [],.int .i64 0,.str [],.str [],.nils],.cells 35 (A7 (Bb 12 [a,b]))]⟩):=by
 have hn:=FG 12 a b;refine AN.2 ⟨by rw [WA];simp,fun l hl=>?_⟩;rw [WA] at hl;rw [<- Ih];rw [<- Cu] at t1 hn;simp only [y8,y7,or_false] at hl;rcases hl with rfl | rfl | rfl
 all_goals
  simp only [opsOf,Aa,Ac,y2,yY,A',y5,y6,y0,yX,yW];simp only [S9,AT,seval,PY,Bv,PZ,Aw,Al,g0,g3,SX,AR,Bm,t1,hn,Ad]
  try simp only [EE,y9]
def xt (L:List Tk) (Nm:PV) (bx:List PBox) (id o:Nat) (r:ZR) (z:Option (Ex×St)):Prop:=match r with
 | none=>True
 | some d=>∃ e',z=some (.exit 0,⟨e',BX bx id (Be L d.2 o Nm) [.cells 35 [.int .i64 0,.int .i64 0,.int .i64 0,.str [],.int .i64 0,.int .i64 0,.str [],.int .i64 0,.str [],.str [],.nils],.cells 35 (A7 d.1)]⟩)/\getT e' 2=.bp bx.length 0/\getT e' 3=.bp (bx.length+1) 0
def xu (L:List Tk) (Nm:PV) (bx:List PBox) (id o:Nat) (r:ZR) (z:Option (Ex×St)):Prop:=match r with
 | none=>True
 | some d=>∃ e',z=some (.ret,⟨e',BX bx id (Be L d.2 o Nm) [.cells 35 (A7 d.1),.cells 35 (A7 d.1)]⟩)/\getT e' 2=.bp bx.length 0
def ow (id:Nat) (L:List Tk) (Nm:PV) (n:Nat):Prop:=∀ (Lc:Code),Lc=Aa y3 [1,1,0,0]->∀ (o:Nat) (s:RS) (a:Tr),inv L s->o+n<=1000000->∀ bx:List PBox,id < bx.length->C5 bx->∀ e:List PV,getT e 0=.bp id 0->getT e 2=.bp bx.length 0->getT e 3=.bp (bx.length+1) 0 ->
 xt L Nm bx id o (zF L n (.prodL a) o s) (Hg CC Lc ⟨e,BX bx id (Be L s o Nm) [.cells 35 [.int .i64 0,.int .i64 0,.int .i64 0,.str [],.int .i64 0,.int .i64 0,.str [],.int .i64 0,.str [],.str [],.nils],.cells 35 (A7 a)]⟩)
def ox (id:Nat) (L:List Tk) (Nm:PV) (n:Nat):Prop:=∀ (Lc:Code),Lc=Aa y2 [1,1,0]->∀ (o:Nat) (s:RS) (a:Tr),inv L s->o+n<=1000000->∀ bx:List PBox,id < bx.length->C5 bx->∀ e:List PV,getT e 0=.bp id 0->getT e 2=.bp bx.length 0->getT e 3=.bp (bx.length+1) 0 ->
 xu L Nm bx id o (zF L n (.sumL a) o s) (Hg CC Lc ⟨e,BX bx id (Be L s o Nm) [.cells 35 [.int .i64 0,.int .i64 0,.int .i64 0,.str [],.int .i64 0,.int .i64 0,.str [],.int .i64 0,.str [],.str [],.nils],.cells 35 (A7 a)]⟩)
section
variable {id:Nat} {L:List Tk} {Nm:PV} (hR:Nm.pure=true) (hT:TokOK L)
include hR hT
theorem lA {n:Nat} (hu:E8 145 [] .un id L Nm n) (hl:ow id L Nm n):ow id L Nm (n+1):=by
 intro Lc hL o s a hi ho bx Ad hc e g0 g2 g3;rw [zF,Eu (Aa y3 [1,1,0,0,0]) hL];have t0:=Aj Ad hc hR (Ay (o:=o) hR hT hi 4 4 rfl [42]);unfold Cx at t0;cases hn:Bf L s 4 [42] with
 | false=>
  rw [hn] at t0;simp only [y1,if_false] at t0 |-;unfold Be;rw [<- B5];rw [<- Cu] at t0;simp only [opsOf,Aa,Ac,y3,yY] at |-;simp only [S9,AT,seval,PY,Bv,PZ,Aw,Al,g0,g2,g3,t0,SX,Ad];unfold xt Be;exact ⟨_,rfl,by simp only [S7,AT,seval,g2],by simp only [S7,AT,seval,g3]⟩
 | true=>
  rw [hn] at t0;simp only [if_true] at t0 |-;have ia:=Bj hT hi (by decide) hn;have h1:=hu o _ ia (by omega);cases z1:zF L n .un o (BZ s) with
  | none=>trivial
  | some d=>
   rw [z1,AB] at h1;rw [MK];have i2:=Ho hT _ _ _ _ _ _ ia z1;have key:=hl Lc hL o d.2 (Bb 13 [a,d.1]) i2 (by omega) bx Ad hc;have hd:=fun e g0 g3=>dm (Nm:=Nm) (o:=o) a d.1 Ad hc e g0 g3 (Aj Ad hc hR h1);simp only [<- AP lr] at hd;generalize zF L n (.prodL (Bb 13 [a,d.1])) o d.2=zz at *;clear h1 z1;unfold Be at key |-;rw [<- B5];rw [<- B5] at key;rw [<- Cu] at t0;rw [<- Fm] at hd;simp only [opsOf,Aa,Ac,y3,yY] at|-hd key;simp only [S9,AT,seval,PY,Bv,PZ,Aw,Al,g0,g2,g3,t0,hd,SX,Ad];refine key _ ?_ ?_ ?_
   all_goals simp only [S7,AT,seval,g0,g2,g3]
theorem lB {n:Nat} (hu:E8 142 [] .prod id L Nm n) (hl:ox id L Nm n):ox id L Nm (n+1):=by
 intro Lc hL o s a hi ho bx Ad hc e g0 g2 g3;rw [zF,Eu (Aa y2 [1,1,0,0]) hL];have t0:=Aj Ad hc hR (Ay (o:=o) hR hT hi 4 4 rfl [43]);have t9:=Aj Ad hc hR (Ay (o:=o) hR hT hi 4 4 rfl [45]);unfold Cx at t0 t9;cases hn:Bf L s 4 [43] with
 | true=>
  rw [hn] at t0;simp only [if_true] at t0 |-;have ia:=Bj hT hi (by decide) hn;have h1:=hu o _ ia (by omega);cases z1:zF L n .prod o (BZ s) with
  | none=>trivial
  | some d=>
   rw [z1,AB] at h1;rw [MK];have i2:=Ho hT _ _ _ _ _ _ ia z1;have key:=hl Lc hL o d.2 (Bb 11 [a,d.1]) i2 (by omega) bx Ad hc;have hd:=fun e g0 g3=>dn (Nm:=Nm) (o:=o) a d.1 Ad hc e g0 g3 (Aj Ad hc hR h1);simp only [<- AP lu] at hd;generalize zF L n (.sumL (Bb 11 [a,d.1])) o d.2=zz at *;clear h1 z1;unfold Be at key |-;rw [<- B5];rw [<- B5] at key;rw [<- Cu] at t0;rw [<- Fm] at hd;simp only [opsOf,Aa,Ac,y2,yY] at|-hd key;simp only [S9,AT,seval,PY,Bv,PZ,Aw,Al,g0,g2,g3,t0,hd,SX,Ad];refine key _ ?_ ?_ ?_
   all_goals simp only [S7,AT,seval,g0,g2,g3]
 | false=>
  rw [hn] at t0;simp only [y1,if_false] at t0 |-;cases hn:Bf L s 4 [45] with
  | true=>
   rw [hn] at t9;simp only [if_true] at t9 |-;have ia:=Bj hT hi (by decide) hn;have h1:=hu o _ ia (by omega);cases z1:zF L n .prod o (BZ s) with
   | none=>trivial
   | some d=>
    rw [z1,AB] at h1;rw [MK];have i2:=Ho hT _ _ _ _ _ _ ia z1;have key:=hl Lc hL o d.2 (Bb 12 [a,d.1]) i2 (by omega) bx Ad hc;have hd:=fun e g0 g3=>dp (Nm:=Nm) (o:=o) a d.1 Ad hc e g0 g3 (Aj Ad hc hR h1);simp only [<- AP lz] at hd;generalize zF L n (.sumL (Bb 12 [a,d.1])) o d.2=zz at *;clear h1 z1;unfold Be at key |-;rw [<- B5];rw [<- B5] at key;rw [<- Cu] at t0 t9;rw [<- Fm] at hd;simp only [opsOf,Aa,Ac,y2,yY] at|-hd key;simp only [S9,AT,seval,PY,Bv,PZ,Aw,Al,g0,g2,g3,t0,t9,hd,SX,Ad];refine key _ ?_ ?_ ?_
    all_goals simp only [S7,AT,seval,g0,g2,g3]
  | false=>
   rw [hn] at t9;simp only [y1,if_false] at t9 |-;unfold Be;rw [<- B5];rw [<- Cu] at t0 t9;simp only [opsOf,Aa,Ac,y2,yY] at |-;simp only [S9,AT,seval,PY,Bv,PZ,Aw,Al,g0,g2,g3,t0,t9,SX,Ad];unfold xu Be;exact ⟨_,rfl,by simp only [S7,AT,seval,g2]⟩
theorem lC {n:Nat} (hu:E8 145 [] .un id L Nm n) (hl:ow id L Nm n):E8 142 [] .prod id L Nm (n+1):=by
 intro o s hi ho;rw [zF];have h1:=hu o s hi (by omega);cases z1:zF L n .un o s with
 | none=>trivial
 | some d1=>
  rw [z1,AB] at h1;rw [MK];have i1:=Ho hT _ _ _ _ _ _ hi z1;cases z2:zF L n (.prodL d1.1) o d1.2 with
  | none=>trivial
  | some d2=>
   rw [AB];refine BK hR (QA _) fun bx Ad hc=>?_;have t1:=Aj Ad hc hR h1;have Af:=hl _ rfl o d1.2 d1.1 i1 (by omega) bx Ad hc;rw [z2] at Af;unfold xt Be at Af;simp only at Af;unfold Be;rw [Ce (fn:=y3) (c:=y3.body.getD .skip) rfl rfl JB rfl Kg Kf (y4 rfl)];rw [<- B5];rw [<- B5] at Af;rw [<- Cu] at t1;simp only [opsOf,Aa,Ac,y3,yY] at|-Af;simp only [S9,AT,seval,PY,Bv,PZ,Aw,Al,t1,SX,Ad];generalize hE:Rw (za _) _=z
   have hP:∃ e',z=some (.exit 0,⟨e',BX bx id (.cells 69 [.sl (A2 L),.int .i64 (d2.2.i:Int),.int .i64 d2.2.c,.int .i64 (d2.2.t:Int),.int .i64 (o:Int),Nm]) [.cells 35 [.int .i64 0,.int .i64 0,.int .i64 0,.str [],.int .i64 0,.int .i64 0,.str [],.int .i64 0,.str [],.str [],.nils],.cells 35 (A7 d2.1)]⟩)/\getT e' 2=.bp bx.length 0/\getT e' 3=.bp (bx.length+1) 0:=by
    rw [<- hE];refine Af _ ?_ ?_ ?_
    all_goals simp only [S7,AT,seval]
   obtain ⟨e',he,g2,g3⟩:=hP;subst he;clear hE Af;simp only [S9,AT,seval,PY,Bv,PZ,Aw,Al,SX,g2,g3,Ad];exact ⟨_,rfl⟩
theorem oy {n:Nat} (hu:E8 142 [] .prod id L Nm n) (hl:ox id L Nm n):E8 135 [] .sum id L Nm (n+1):=by
 intro o s hi ho;rw [zF];have h1:=hu o s hi (by omega);cases z1:zF L n .prod o s with
 | none=>trivial
 | some d1=>
  rw [z1,AB] at h1;rw [MK];have i1:=Ho hT _ _ _ _ _ _ hi z1;cases z2:zF L n (.sumL d1.1) o d1.2 with
  | none=>trivial
  | some d2=>
   rw [AB];refine BK hR (QA _) fun bx Ad hc=>?_;have t1:=Aj Ad hc hR h1;have Af:=hl _ rfl o d1.2 d1.1 i1 (by omega) bx Ad hc;rw [z2] at Af;unfold xu Be at Af;simp only at Af;unfold Be;rw [Ce (fn:=y2) (c:=y2.body.getD .skip) rfl rfl MM rfl NS NR (y4 rfl)];rw [<- B5];rw [<- B5] at Af;rw [<- Cu] at t1;simp only [opsOf,Aa,Ac,y2,yY] at|-Af;simp only [S9,AT,seval,PY,Bv,PZ,Aw,Al,t1,SX,Ad];generalize hE:Rw (za _) _=z
   have hP:∃ e',z=some (.ret,⟨e',BX bx id (.cells 69 [.sl (A2 L),.int .i64 (d2.2.i:Int),.int .i64 d2.2.c,.int .i64 (d2.2.t:Int),.int .i64 (o:Int),Nm]) [.cells 35 (A7 d2.1),.cells 35 (A7 d2.1)]⟩)/\getT e' 2=.bp bx.length 0:=by
    rw [<- hE];refine Af _ ?_ ?_ ?_
    all_goals simp only [S7,AT,seval]
   obtain ⟨e',he,g2⟩:=hP;subst he;clear hE Af;simp only [S9,AT,seval,PY,Bv,PZ,Aw,Al,SX,g2,Ad];exact ⟨_,rfl⟩
end
theorem Kh:GY CC yZ (yZ.body.getD .skip)=true:=by kernel_rfl
theorem Ki:Bk CC yZ (yZ.body.getD .skip)=false:=by kernel_rfl
theorem JC:CC.P.funcs[146]?=some yZ:=by kernel_rfl
theorem Bo {x:List PV} {b:List PBox} (h:x.length.ble yZ.ntmps=true):Ae CC 146 x b=CB CC yZ.results.toList (Hg CC (yZ.body.getD .skip) ⟨x,b⟩):=Ce (fn:=yZ) (c:=yZ.body.getD .skip) rfl rfl JC rfl Ki Kh (y4 h)
theorem G8:Cl CC (opsOf (Aa yZ [1,1,0]))=false:=by kernel_rfl
theorem dq:((Cc (opsOf (Aa yZ [1,1,0]))).all fun l=>(List.range (opsOf (Aa yZ [1,1,0])).size).all fun j=>l.contains j)=true:=by kernel_rfl
theorem dt:(Cc (opsOf (Aa yZ [1,1,0]))).isEmpty=false:=by kernel_rfl
theorem TP:(opsOf (Aa yZ [1,1,0])).size=12:=by kernel_rfl
def Gr (bx:List PBox) (id:Nat) (L:List Tk) (s:RS):List (Nat×Nat×PV):=[(0,11,.bp id 0),(1,12,.bp id 0),(2,13,.bp id 0),(3,14,.sl (A2 L)),(4,15,.bp id 0),(5,16,.bp id 0),(6,17,.bp id 1),(7,18,.int .i64 (s.i:Int)),(8,19,.ip [.int .i64 ((tokAt L s.i).1:Int),.str (tokAt L s.i).2.1,.int .i64 ((tokAt L s.i).2.2:Int)]),(9,20,.agg [.int .i64 ((tokAt L s.i).1:Int),.str (tokAt L s.i).2.1,.int .i64 ((tokAt L s.i).2.2:Int)]),(10,3,.bp (bx.length+1) 0)]
def GS (bx:List PBox) (id:Nat) (L:List Tk) (s:RS) (o:Nat) (Nm:PV) (D:Nat->Bool):List PBox:=BX bx id (Be L s o Nm) (.cells 35 [.int .i64 0,.int .i64 0,.int .i64 0,.str [],.int .i64 0,.int .i64 0,.str [],.int .i64 0,.str [],.str [],.nils] :: (if D 11 then [.cells 59 [.int .i64 ((tokAt L s.i).1:Int),.str (tokAt L s.i).2.1,.int .i64 ((tokAt L s.i).2.2:Int)]] else if D 10 then [.cells 59 [.int .i64 0,.str [],.int .i64 0]] else []))
theorem lD (bx:List PBox) (id:Nat) (L:List Tk) (s:RS):(Gr bx id L s).Pairwise (fun x y=>x.1≠y.1/\x.2.1≠y.2.1):=by unfold Gr;simp
theorem oz {bx:List PBox} {id:Nat} {L:List Tk} {s:RS} {o:Nat} {Nm:PV} {D:Nat->Bool} (Ad:id < bx.length):(GS bx id L s o Nm D)[id]?=some (Be L s o Nm):=PI Ad
theorem du {bx:List PBox} {id:Nat} {L:List Tk} {s:RS} {o:Nat} {Nm:PV} (Ad:id < bx.length) (hi:s.i < L.length) (e:List PV) (h0:getT e 0=.bp id 0) :
 ∃ e',drawAll CC (Ae CC) (opsOf (Aa yZ [1,1,0])) ⟨e,BX bx id (Be L s o Nm) [.cells 35 [.int .i64 0,.int .i64 0,.int .i64 0,.str [],.int .i64 0,.int .i64 0,.str [],.int .i64 0,.str [],.str [],.nils]]⟩=some (.normal,⟨e',BX bx id (Be L s o Nm) [.cells 35 [.int .i64 0,.int .i64 0,.int .i64 0,.str [],.int .i64 0,.int .i64 0,.str [],.int .i64 0,.str [],.str [],.nils],.cells 59 [.int .i64 ((tokAt L s.i).1:Int),.str (tokAt L s.i).2.1,.int .i64 ((tokAt L s.i).2.2:Int)]]⟩)/\getT e' 0=.bp id 0/\getT e' 2=getT e 2/\getT e' 3=.bp (bx.length+1) 0:=by
 refine ⟨_,E0 (e0:=e) (L:=Gr bx id L s) (bxOf:=GS bx id L s o Nm) dq dt (fun D j op A1 hD Dd QE=>?_) (by unfold GS Gr;simp [AD]) (r:=⟨AD e (fun _=>true) (Gr bx id L s),BX bx id (Be L s o Nm) [.cells 35 [.int .i64 0,.int .i64 0,.int .i64 0,.str [],.int .i64 0,.int .i64 0,.str [],.int .i64 0,.str [],.str [],.nils],.cells 59 [.int .i64 ((tokAt L s.i).1:Int),.str (tokAt L s.i).2.1,.int .i64 ((tokAt L s.i).2.2:Int)]]⟩) (fun D hD=>?_),?_,?_,?_⟩
 · have Aw:Aq [PV.bp id 0]=false:=rfl
   have ml:D 11=true->D 10=true:=fun h=>QE 11 _ rfl h ⟨10,.data⟩ (by simp [opsOf,Aa,Ac,yZ]) rfl
   have hj:j < 12:=by
    have:=(Array.getElem?_eq_some_iff.1 A1).1;rw [TP] at this;exact this
   have hg:=Fg hi;unfold ID at hg;have DF:¬ ((s.i:Int) < 0):=by omega
   have hn:(s.i:Int).toNat=s.i:=by omega
   have De:=lD bx id L s;have z0:getT (AD e D (Gr bx id L s)) 0=.bp id 0:=by rw [ED e D 0 _ (by unfold Gr;simp)];exact h0
   have D4:=oz (L:=L) (s:=s) (o:=o) (Nm:=Nm) (D:=D) Ad;unfold Be at D4;have bm:D 10=false->D 11=false->(GS bx id L s o Nm D).length=bx.length+1:=fun a b=>by unfold GS;rw [a,b];simp [E2]
   by_cases e0:j=0
   · subst e0
     simp only [opsOf,Aa,Ac,yZ,yY,y0,yX,yW] at A1;injection A1 with A1
     subst A1;refine ⟨rfl,fun al=>?_⟩;rw [<- AL e D 0 11 (.bp id 0) hD _ (by unfold Gr;simp) De];have hb:GS bx id L s o Nm (C1 D 0)=GS bx id L s o Nm D:=by unfold GS;rw [A9 (by decide),A9 (by decide)]
     rw [hb];generalize GS bx id L s o Nm D=Bx at *;generalize AD e D (Gr bx id L s)=E at *;rw [<- Gh];simp only [S9,Gi,seval,PY,Bv,PZ,Aw,Al,z0,D4,hg,DF,hn,Ad];exact ⟨_,rfl⟩
   by_cases e1:j=1
   · subst e1
     simp only [opsOf,Aa,Ac,yZ,yY,y0,yX,yW] at A1;injection A1 with A1
     subst A1;refine ⟨rfl,fun al=>?_⟩;have d0:D 0=true:=Dd ⟨0,.data⟩ (by simp) rfl;have z11:getT (AD e D (Gr bx id L s)) 11=.bp id 0:=Ba e D 0 11 _ d0 _ (by unfold Gr;simp) De;rw [<- AL e D 1 12 (.bp id 0) hD _ (by unfold Gr;simp) De];have hb:GS bx id L s o Nm (C1 D 1)=GS bx id L s o Nm D:=by unfold GS;rw [A9 (by decide),A9 (by decide)]
     rw [hb];generalize GS bx id L s o Nm D=Bx at *;generalize AD e D (Gr bx id L s)=E at *;rw [<- Gh];simp only [S9,Gi,seval,PY,Bv,PZ,Aw,Al,z0,D4,hg,DF,hn,z11,Ad];exact ⟨_,rfl⟩
   by_cases e2:j=2
   · subst e2
     simp only [opsOf,Aa,Ac,yZ,yY,y0,yX,yW] at A1;injection A1 with A1
     subst A1;refine ⟨rfl,fun al=>?_⟩;have d1:D 1=true:=Dd ⟨1,.data⟩ (by simp) rfl;have z12:getT (AD e D (Gr bx id L s)) 12=.bp id 0:=Ba e D 1 12 _ d1 _ (by unfold Gr;simp) De;rw [<- AL e D 2 13 (.bp id 0) hD _ (by unfold Gr;simp) De];have hb:GS bx id L s o Nm (C1 D 2)=GS bx id L s o Nm D:=by unfold GS;rw [A9 (by decide),A9 (by decide)]
     rw [hb];generalize GS bx id L s o Nm D=Bx at *;generalize AD e D (Gr bx id L s)=E at *;rw [<- Gh];simp only [S9,Gi,seval,PY,Bv,PZ,Aw,Al,z0,D4,hg,DF,hn,z12,Ad];exact ⟨_,rfl⟩
   by_cases e3:j=3
   · subst e3
     simp only [opsOf,Aa,Ac,yZ,yY,y0,yX,yW] at A1;injection A1 with A1
     subst A1;refine ⟨rfl,fun al=>?_⟩;have d2:D 2=true:=Dd ⟨2,.data⟩ (by simp) rfl;have z13:getT (AD e D (Gr bx id L s)) 13=.bp id 0:=Ba e D 2 13 _ d2 _ (by unfold Gr;simp) De;rw [<- AL e D 3 14 (.sl (A2 L)) hD _ (by unfold Gr;simp) De];have hb:GS bx id L s o Nm (C1 D 3)=GS bx id L s o Nm D:=by unfold GS;rw [A9 (by decide),A9 (by decide)]
     rw [hb];generalize GS bx id L s o Nm D=Bx at *;generalize AD e D (Gr bx id L s)=E at *;rw [<- Gh];simp only [S9,Gi,seval,PY,Bv,PZ,Aw,Al,z0,D4,hg,DF,hn,z13,Ad];exact ⟨_,rfl⟩
   by_cases e4:j=4
   · subst e4
     simp only [opsOf,Aa,Ac,yZ,yY,y0,yX,yW] at A1;injection A1 with A1
     subst A1;refine ⟨rfl,fun al=>?_⟩;rw [<- AL e D 4 15 (.bp id 0) hD _ (by unfold Gr;simp) De];have hb:GS bx id L s o Nm (C1 D 4)=GS bx id L s o Nm D:=by unfold GS;rw [A9 (by decide),A9 (by decide)]
     rw [hb];generalize GS bx id L s o Nm D=Bx at *;generalize AD e D (Gr bx id L s)=E at *;rw [<- Gh];simp only [S9,Gi,seval,PY,Bv,PZ,Aw,Al,z0,D4,hg,DF,hn,Ad];exact ⟨_,rfl⟩
   by_cases e5:j=5
   · subst e5
     simp only [opsOf,Aa,Ac,yZ,yY,y0,yX,yW] at A1;injection A1 with A1
     subst A1;refine ⟨rfl,fun al=>?_⟩;have d4:D 4=true:=Dd ⟨4,.data⟩ (by simp) rfl;have z15:getT (AD e D (Gr bx id L s)) 15=.bp id 0:=Ba e D 4 15 _ d4 _ (by unfold Gr;simp) De;rw [<- AL e D 5 16 (.bp id 0) hD _ (by unfold Gr;simp) De];have hb:GS bx id L s o Nm (C1 D 5)=GS bx id L s o Nm D:=by unfold GS;rw [A9 (by decide),A9 (by decide)]
     rw [hb];generalize GS bx id L s o Nm D=Bx at *;generalize AD e D (Gr bx id L s)=E at *;rw [<- Gh];simp only [S9,Gi,seval,PY,Bv,PZ,Aw,Al,z0,D4,hg,DF,hn,z15,Ad];exact ⟨_,rfl⟩
   by_cases e6:j=6
   · subst e6
     simp only [opsOf,Aa,Ac,yZ,yY,y0,yX,yW] at A1;injection A1 with A1
     subst A1;refine ⟨rfl,fun al=>?_⟩;have d5:D 5=true:=Dd ⟨5,.data⟩ (by simp) rfl;have z16:getT (AD e D (Gr bx id L s)) 16=.bp id 0:=Ba e D 5 16 _ d5 _ (by unfold Gr;simp) De;rw [<- AL e D 6 17 (.bp id 1) hD _ (by unfold Gr;simp) De];have hb:GS bx id L s o Nm (C1 D 6)=GS bx id L s o Nm D:=by unfold GS;rw [A9 (by decide),A9 (by decide)]
     rw [hb];generalize GS bx id L s o Nm D=Bx at *;generalize AD e D (Gr bx id L s)=E at *;rw [<- Gh];simp only [S9,Gi,seval,PY,Bv,PZ,Aw,Al,z0,D4,hg,DF,hn,z16,Ad];exact ⟨_,rfl⟩
   by_cases e7:j=7
   · subst e7
     simp only [opsOf,Aa,Ac,yZ,yY,y0,yX,yW] at A1;injection A1 with A1
     subst A1;refine ⟨rfl,fun al=>?_⟩;have d6:D 6=true:=Dd ⟨6,.data⟩ (by simp) rfl;have z17:getT (AD e D (Gr bx id L s)) 17=.bp id 1:=Ba e D 6 17 _ d6 _ (by unfold Gr;simp) De;rw [<- AL e D 7 18 (.int .i64 (s.i:Int)) hD _ (by unfold Gr;simp) De];have hb:GS bx id L s o Nm (C1 D 7)=GS bx id L s o Nm D:=by unfold GS;rw [A9 (by decide),A9 (by decide)]
     rw [hb];generalize GS bx id L s o Nm D=Bx at *;generalize AD e D (Gr bx id L s)=E at *;rw [<- Gh];simp only [S9,Gi,seval,PY,Bv,PZ,Aw,Al,z0,D4,hg,DF,hn,z17,Ad];exact ⟨_,rfl⟩
   by_cases e8:j=8
   · subst e8
     simp only [opsOf,Aa,Ac,yZ,yY,y0,yX,yW] at A1;injection A1 with A1
     subst A1;refine ⟨rfl,fun al=>?_⟩;have d3:D 3=true:=Dd ⟨3,.data⟩ (by simp) rfl;have z14:getT (AD e D (Gr bx id L s)) 14=.sl (A2 L):=Ba e D 3 14 _ d3 _ (by unfold Gr;simp) De;have d7:D 7=true:=Dd ⟨7,.data⟩ (by simp) rfl;have z18:getT (AD e D (Gr bx id L s)) 18=.int .i64 (s.i:Int):=Ba e D 7 18 _ d7 _ (by unfold Gr;simp) De;rw [<- AL e D 8 19 (.ip [.int .i64 ((tokAt L s.i).1:Int),.str (tokAt L s.i).2.1,.int .i64 ((tokAt L s.i).2.2:Int)]) hD _ (by unfold Gr;simp) De];have hb:GS bx id L s o Nm (C1 D 8)=GS bx id L s o Nm D:=by unfold GS;rw [A9 (by decide),A9 (by decide)]
     rw [hb];generalize GS bx id L s o Nm D=Bx at *;generalize AD e D (Gr bx id L s)=E at *;rw [<- Gh];simp only [S9,Gi,seval,PY,Bv,PZ,Aw,Al,z0,D4,hg,DF,hn,z14,z18,Ad];exact ⟨_,rfl⟩
   by_cases e9:j=9
   · subst e9
     simp only [opsOf,Aa,Ac,yZ,yY,y0,yX,yW] at A1;injection A1 with A1
     subst A1;refine ⟨rfl,fun al=>?_⟩;have d8:D 8=true:=Dd ⟨8,.data⟩ (by simp) rfl;have z19:getT (AD e D (Gr bx id L s)) 19=.ip [.int .i64 ((tokAt L s.i).1:Int),.str (tokAt L s.i).2.1,.int .i64 ((tokAt L s.i).2.2:Int)]:=Ba e D 8 19 _ d8 _ (by unfold Gr;simp) De;rw [<- AL e D 9 20 (.agg [.int .i64 ((tokAt L s.i).1:Int),.str (tokAt L s.i).2.1,.int .i64 ((tokAt L s.i).2.2:Int)]) hD _ (by unfold Gr;simp) De];have hb:GS bx id L s o Nm (C1 D 9)=GS bx id L s o Nm D:=by unfold GS;rw [A9 (by decide),A9 (by decide)]
     rw [hb];generalize GS bx id L s o Nm D=Bx at *;generalize AD e D (Gr bx id L s)=E at *;rw [<- Gh];simp only [S9,Gi,seval,PY,Bv,PZ,Aw,Al,z0,D4,hg,DF,hn,z19,Ad];exact ⟨_,rfl⟩
   by_cases e10:j=10
   · subst e10
     simp only [opsOf,Aa,Ac,yZ,yY,y0,yX,yW] at A1;injection A1 with A1
     subst A1;refine ⟨rfl,fun al=>?_⟩;rw [<- AL e D 10 3 (.bp (bx.length+1) 0) hD _ (by unfold Gr;simp) De]
     have d11:D 11=false:=by
      cases s0:D 11 with
      | false=>rfl
      | true=>exact absurd (ml s0) (by rw [hD];decide)
     have hl:=bm hD d11;have hb:GS bx id L s o Nm (C1 D 10)=GS bx id L s o Nm D++[.cells 59 [.int .i64 0,.str [],.int .i64 0]]:=by unfold GS;rw [A9 (by decide),HF,d11,hD];simp [XD]
     rw [hb];generalize GS bx id L s o Nm D=Bx at *;generalize AD e D (Gr bx id L s)=E at *;rw [<- Gh];simp only [S9,Gi,seval,PY,Bv,PZ,Aw,Al,z0,D4,hg,DF,hn,hl,Ad];exact ⟨_,rfl⟩
   by_cases e11:j=11
   · subst e11
     simp only [opsOf,Aa,Ac,yZ,yY,y0,yX,yW] at A1;injection A1 with A1
     subst A1;refine ⟨rfl,fun al=>?_⟩;have d9:D 9=true:=Dd ⟨9,.data⟩ (by simp) rfl;have z20:getT (AD e D (Gr bx id L s)) 20=.agg [.int .i64 ((tokAt L s.i).1:Int),.str (tokAt L s.i).2.1,.int .i64 ((tokAt L s.i).2.2:Int)]:=Ba e D 9 20 _ d9 _ (by unfold Gr;simp) De;have d10:D 10=true:=Dd ⟨10,.data⟩ (by simp) rfl;have z3:getT (AD e D (Gr bx id L s)) 3=.bp (bx.length+1) 0:=Ba e D 10 3 _ d10 _ (by unfold Gr;simp) De;rw [GD e D 11 _ (by unfold Gr;simp)];have hb:GS bx id L s o Nm (C1 D 11)=BX bx id (Be L s o Nm) [.cells 35 [.int .i64 0,.int .i64 0,.int .i64 0,.str [],.int .i64 0,.int .i64 0,.str [],.int .i64 0,.str [],.str [],.nils],.cells 59 [.int .i64 ((tokAt L s.i).1:Int),.str (tokAt L s.i).2.1,.int .i64 ((tokAt L s.i).2.2:Int)]]:=by unfold GS;rw [HF];rfl
     have EM:GS bx id L s o Nm D=BX bx id (Be L s o Nm) [.cells 35 [.int .i64 0,.int .i64 0,.int .i64 0,.str [],.int .i64 0,.int .i64 0,.str [],.int .i64 0,.str [],.str [],.nils],.cells 59 [.int .i64 0,.str [],.int .i64 0]]:=by unfold GS;rw [hD,d10];rfl
     rw [hb,EM];generalize AD e D (Gr bx id L s)=E at *;unfold Be;rw [<- Gh];simp only [S9,Gi,seval,PY,Bv,PZ,Aw,Al,z0,D4,hg,DF,hn,z20,z3,Ad];exact ⟨_,rfl⟩
   omega
 · have JE:=TP
   have hd:∀ j,j < 12->D j=true:=fun j hj=>hD j (by rw [JE];exact hj);unfold Gr GS;simp only [AD,hd 0 (by decide),hd 1 (by decide),hd 2 (by decide),hd 3 (by decide),hd 4 (by decide),hd 5 (by decide),hd 6 (by decide),hd 7 (by decide),hd 8 (by decide),hd 9 (by decide),hd 10 (by decide),hd 11 (by decide),if_true]
 · rw [ED e _ 0 _ (by unfold Gr;simp)];exact h0
 · rw [ED e _ 2 _ (by unfold Gr;simp)]
 · exact Ba e _ 10 3 _ rfl _ (by unfold Gr;simp) (lD bx id L s)
theorem En {bx:List PBox} {id:Nat} {L:List Tk} {s:RS} {o:Nat} {Nm:PV} (Ad:id < bx.length) (hi:s.i < L.length) (e:List PV) (h0:getT e 0=.bp id 0) (h2:getT e 2=.bp bx.length 0) :
 ∃ e',drawAll CC (Ae CC) (opsOf (Aa yZ [1,1,0])) ⟨e,BX bx id (Be L s o Nm) [.cells 35 [.int .i64 0,.int .i64 0,.int .i64 0,.str [],.int .i64 0,.int .i64 0,.str [],.int .i64 0,.str [],.str [],.nils]]⟩=some (.normal,⟨e',BX bx id (Be L s o Nm) [.cells 35 [.int .i64 0,.int .i64 0,.int .i64 0,.str [],.int .i64 0,.int .i64 0,.str [],.int .i64 0,.str [],.str [],.nils],.cells 59 [.int .i64 ((tokAt L s.i).1:Int),.str (tokAt L s.i).2.1,.int .i64 ((tokAt L s.i).2.2:Int)]]⟩)/\getT e' 0=.bp id 0/\getT e' 2=.bp bx.length 0/\getT e' 3=.bp (bx.length+1) 0:=by
 obtain ⟨e',q1,q2,q3,q4⟩:=du (o:=o) (Nm:=Nm) Ad hi e h0;exact ⟨e',q1,q2,q3.trans h2,q4⟩
section
variable {id:Nat} {L:List Tk} {Nm:PV} (hR:Nm.pure=true) (hT:TokOK L)
include hR hT
theorem lE {n:Nat} (hE:E8 54 [] .expr id L Nm n):E8 146 [] .prim id L Nm (n+1):=by
 intro o s hi ho;rw [zF];by_cases c0:s.c=0
 · rw [if_neg (fun h=>h c0)]
   have Bq:=hi c0;have Dq:(s.c != 0)=false:=by rw [c0];rfl
   have N5:IntKind.wrap .i64 ((s.i:Int)+1)=((s.i+1:Nat):Int):=by rw [wrap_i64 ⟨by omega,by have:=hT.len;omega⟩];omega
   by_cases hk:(tokAt L s.i).1=2
   · rw [if_pos hk]
     have k2:(((tokAt L s.i).1:Int) == 2)=true:=by rw [hk];rfl
     have k3:(((tokAt L s.i).1:Int) == 3)=false:=by rw [hk];rfl
     have k4:(((tokAt L s.i).1:Int) == 4)=false:=by rw [hk];rfl
     have k1:(((tokAt L s.i).1:Int) == 1)=false:=by rw [hk];rfl
     cases hq:D0 L s.i with
     | true=>
      simp only [if_true];unfold aB;rw [AB];refine BK hR (QA _) fun bx Ad hc=>?_;have hd:=fun e=>En (L:=L) (o:=o) (Nm:=Nm) Ad Bq e;have t1:=Aj Ad hc hR (Kc (o:=o) hR hT s s.i Bq);rw [hq] at t1;have t2:=Aj Ad hc hR (Me (o:=o) hR hT hi 2 2 rfl);have hv:=QB hT s;have hl:=E7 2 (amtN (BW L s 2).1 0:Int);simp only [y'];generalize BW L s 2=r1 at *;simp only [<- AP G8] at hd;unfold Be;rw [Bo rfl];unfold Be at hd;rw [<- B5];rw [<- Cu] at t1 t2 hv hl;rw [<- Fm] at hd;simp only [opsOf,Aa,Ac,yZ,yY] at|-hd;simp only [S9,AT,seval,PY,Bv,PZ,Aw,Al,Dq,Ad];generalize hE:Zk _ _=z
      have hP:∃ e',z=some (.normal,⟨e',BX bx id (.cells 69 [.sl (A2 L),.int .i64 (s.i:Int),.int .i64 s.c,.int .i64 (s.t:Int),.int .i64 (o:Int),Nm]) [.cells 35 [.int .i64 0,.int .i64 0,.int .i64 0,.str [],.int .i64 0,.int .i64 0,.str [],.int .i64 0,.str [],.str [],.nils],.cells 59 [.int .i64 ((tokAt L s.i).1:Int),.str (tokAt L s.i).2.1,.int .i64 ((tokAt L s.i).2.2:Int)]]⟩)/\getT e' 0=.bp id 0/\getT e' 2=.bp bx.length 0/\getT e' 3=.bp (bx.length+1) 0:=by
       rw [<- hE];refine hd _ ?_ ?_
       all_goals simp only [S7,AT,seval]
      obtain ⟨e',he,g0,g2,g3⟩:=hP;subst he;clear hE hd;simp only [S9,AT,seval,PY,Bv,PZ,Aw,Al,g0,g2,g3,Dq,k2,k3,k4,k1,t1,t2,hv,hl,SX,Ad];exact ⟨_,rfl⟩
     | false=>
      simp only [y1,if_false];rw [AB];refine BK hR (QA _) fun bx Ad hc=>?_;have hd:=fun e=>En (L:=L) (o:=o) (Nm:=Nm) Ad Bq e;have t1:=Aj Ad hc hR (Kc (o:=o) hR hT s s.i Bq);rw [hq] at t1;have t2:=Aj Ad hc hR (Kb (o:=o) hR hT hi);generalize B7 L s=r1 at *;have hb:=Wq r1.1.1 r1.1.2.1 r1.1.2.2;rw [CM,Bi];simp only [<- AP G8] at hd;unfold Be zV;rw [Bo rfl];unfold Be at hd;rw [<- B5];rw [<- Cu] at t1 t2;rw [<- Fm] at hd;simp only [opsOf,Aa,Ac,yZ,yY] at|-hd;simp only [S9,AT,seval,PY,Bv,PZ,Aw,Al,Dq,Ad];generalize hE:Zk _ _=z
      have hP:∃ e',z=some (.normal,⟨e',BX bx id (.cells 69 [.sl (A2 L),.int .i64 (s.i:Int),.int .i64 s.c,.int .i64 (s.t:Int),.int .i64 (o:Int),Nm]) [.cells 35 [.int .i64 0,.int .i64 0,.int .i64 0,.str [],.int .i64 0,.int .i64 0,.str [],.int .i64 0,.str [],.str [],.nils],.cells 59 [.int .i64 ((tokAt L s.i).1:Int),.str (tokAt L s.i).2.1,.int .i64 ((tokAt L s.i).2.2:Int)]]⟩)/\getT e' 0=.bp id 0/\getT e' 2=.bp bx.length 0/\getT e' 3=.bp (bx.length+1) 0:=by
       rw [<- hE];refine hd _ ?_ ?_
       all_goals simp only [S7,AT,seval]
      obtain ⟨e',he,g0,g2,g3⟩:=hP;subst he;clear hE hd;simp only [S9,AT,seval,PY,Bv,PZ,Aw,Al,g0,g2,g3,Dq,k2,k3,k4,k1,t1,t2,hb,PV.ro,Ad];exact ⟨_,rfl⟩
   rw [if_neg hk];by_cases iJ:(tokAt L s.i).1=3
   · rw [if_pos iJ]
     replace hk:=iJ;have k2:(((tokAt L s.i).1:Int) == 2)=false:=by rw [hk];rfl
     have k3:(((tokAt L s.i).1:Int) == 3)=true:=by rw [hk];rfl
     have k4:(((tokAt L s.i).1:Int) == 4)=false:=by rw [hk];rfl
     have k1:(((tokAt L s.i).1:Int) == 1)=false:=by rw [hk];rfl
     rw [AB];refine BK hR (QA _) fun bx Ad hc=>?_;have hd:=fun e=>En (L:=L) (o:=o) (Nm:=Nm) Ad Bq e;have mA:=eH (tokAt L s.i).2.1;have sR:=Wr (tokAt L s.i).2.1;rw [CM,Bi];simp only [<- AP G8] at hd;unfold Be zK BZ;rw [Bo rfl];unfold Be at hd;rw [<- B5];rw [<- Fm] at hd;simp only [opsOf,Aa,Ac,yZ,yY] at|-hd;simp only [S9,AT,seval,PY,Bv,PZ,Aw,Al,Dq,Ad];generalize hE:Zk _ _=z
     have hP:∃ e',z=some (.normal,⟨e',BX bx id (.cells 69 [.sl (A2 L),.int .i64 (s.i:Int),.int .i64 s.c,.int .i64 (s.t:Int),.int .i64 (o:Int),Nm]) [.cells 35 [.int .i64 0,.int .i64 0,.int .i64 0,.str [],.int .i64 0,.int .i64 0,.str [],.int .i64 0,.str [],.str [],.nils],.cells 59 [.int .i64 ((tokAt L s.i).1:Int),.str (tokAt L s.i).2.1,.int .i64 ((tokAt L s.i).2.2:Int)]]⟩)/\getT e' 0=.bp id 0/\getT e' 2=.bp bx.length 0/\getT e' 3=.bp (bx.length+1) 0:=by
      rw [<- hE];refine hd _ ?_ ?_
      all_goals simp only [S7,AT,seval]
     obtain ⟨e',he,g0,g2,g3⟩:=hP;subst he;clear hE hd;simp only [S9,AT,seval,PY,Bv,PZ,Aw,Al,g0,g2,g3,Dq,k2,k3,k4,k1,N5,mA,sR,PV.ro,Ad];exact ⟨_,rfl⟩
   rw [if_neg iJ];by_cases bw:(tokAt L s.i).1=4
   · rw [if_pos bw]
     replace hk:=bw;have k2:(((tokAt L s.i).1:Int) == 2)=false:=by rw [hk];rfl
     have k3:(((tokAt L s.i).1:Int) == 3)=false:=by rw [hk];rfl
     have k4:(((tokAt L s.i).1:Int) == 4)=true:=by rw [hk];rfl
     have k1:(((tokAt L s.i).1:Int) == 1)=false:=by rw [hk];rfl
     cases hn:Bf L s 4 [35] with
     | true=>
      simp only [if_true];have ia:=Bj hT hi (by decide) hn;rw [AB];refine BK hR (QA _) fun bx Ad hc=>?_;have hd:=fun e=>En (L:=L) (o:=o) (Nm:=Nm) Ad Bq e;have t1:=Aj Ad hc hR (Ay (o:=o) hR hT hi 4 4 rfl [35]);unfold Cx at t1;rw [hn] at t1;simp only [if_true] at t1;have t2:=Aj Ad hc hR (HK (o:=o) hR hT ia 0 63 0 63 rfl rfl false);generalize DL L (BZ s) 0 63 false=r1 at *;have hl:=E7 3 (r1.1:Int);simp only [<- AP G8] at hd;unfold Be;rw [Bo rfl];unfold Be at hd;rw [<- B5];rw [<- Cu] at t1 t2 hl;rw [<- Fm] at hd;simp only [opsOf,Aa,Ac,yZ,yY] at|-hd;simp only [S9,AT,seval,PY,Bv,PZ,Aw,Al,Dq,Ad];generalize hE:Zk _ _=z
      have hP:∃ e',z=some (.normal,⟨e',BX bx id (.cells 69 [.sl (A2 L),.int .i64 (s.i:Int),.int .i64 s.c,.int .i64 (s.t:Int),.int .i64 (o:Int),Nm]) [.cells 35 [.int .i64 0,.int .i64 0,.int .i64 0,.str [],.int .i64 0,.int .i64 0,.str [],.int .i64 0,.str [],.str [],.nils],.cells 59 [.int .i64 ((tokAt L s.i).1:Int),.str (tokAt L s.i).2.1,.int .i64 ((tokAt L s.i).2.2:Int)]]⟩)/\getT e' 0=.bp id 0/\getT e' 2=.bp bx.length 0/\getT e' 3=.bp (bx.length+1) 0:=by
       rw [<- hE];refine hd _ ?_ ?_
       all_goals simp only [S7,AT,seval]
      obtain ⟨e',he,g0,g2,g3⟩:=hP;subst he;clear hE hd;simp only [S9,AT,seval,PY,Bv,PZ,Aw,Al,g0,g2,g3,Dq,k2,k3,k4,k1,t1,t2,hl,SX,Ad];exact ⟨_,rfl⟩
     | false=>
      simp only [y1,if_false];cases hm:Bf L s 4 [40] with
      | true=>
       simp only [if_true];have i1:=G6 (L:=L) o hi;have i2:=Bc hT i1 (k:=4) [40] (by decide);have h1:=hE (o+1) _ i2 (by omega);cases z1:zF L n .expr (o+1) (As L (ER L o s) 4 [40]) with
       | none=>trivial
       | some d1=>
        rw [z1,AB] at h1;rw [MK];have i3:=Ho hT _ _ _ _ _ _ i2 z1;rw [AB];refine BK hR (QA _) fun bx Ad hc=>?_;have hd:=fun e=>En (L:=L) (o:=o) (Nm:=Nm) Ad Bq e;have t1:=Aj Ad hc hR (Ay (o:=o) hR hT hi 4 4 rfl [35]);unfold Cx at t1;rw [hn] at t1;simp only [y1,if_false] at t1;have t2:=Aj Ad hc hR (Dy (o:=o) hR hi 4 4 rfl [40]);rw [hm] at t2;have u1:=Aj Ad hc hR (RI (o:=o) hR (by omega) hi);have u2:=Aj Ad hc hR (BN (o:=o+1) hR hT i1 4 4 rfl [40]);have t3:=Aj Ad hc hR h1;have u3:=Aj Ad hc hR (BN (o:=o+1) hR hT i3 4 4 rfl [41]);have hw:=fc (o:=o) (by omega);clear h1 z1 i2;generalize As L d1.2 4 [41]=r2 at *;generalize As L (ER L o s) 4 [40]=r1 at *;generalize ER L o s=r0 at *;simp only [<- AP G8] at hd;unfold Be;rw [Bo rfl];unfold Be at hd;rw [<- B5];rw [<- Cu] at t1 t2 u1 u2 t3 u3;rw [<- Fm] at hd;simp only [opsOf,Aa,Ac,yZ,yY] at|-hd;simp only [S9,AT,seval,PY,Bv,PZ,Aw,Al,Dq,Ad];generalize hE:Zk _ _=z
        have hP:∃ e',z=some (.normal,⟨e',BX bx id (.cells 69 [.sl (A2 L),.int .i64 (s.i:Int),.int .i64 s.c,.int .i64 (s.t:Int),.int .i64 (o:Int),Nm]) [.cells 35 [.int .i64 0,.int .i64 0,.int .i64 0,.str [],.int .i64 0,.int .i64 0,.str [],.int .i64 0,.str [],.str [],.nils],.cells 59 [.int .i64 ((tokAt L s.i).1:Int),.str (tokAt L s.i).2.1,.int .i64 ((tokAt L s.i).2.2:Int)]]⟩)/\getT e' 0=.bp id 0/\getT e' 2=.bp bx.length 0/\getT e' 3=.bp (bx.length+1) 0:=by
         rw [<- hE];refine hd _ ?_ ?_
         all_goals simp only [S7,AT,seval]
        obtain ⟨e',he,g0,g2,g3⟩:=hP;subst he;clear hE hd;simp only [S9,AT,seval,PY,Bv,PZ,Aw,Al,g0,g2,g3,Dq,k2,k3,k4,k1,t1,t2,u1,u2,t3,u3,hw,SX,Ad];exact ⟨_,rfl⟩
      | false=>
       simp only [y1,if_false];rw [AB];refine BK hR (QA _) fun bx Ad hc=>?_;have hd:=fun e=>En (L:=L) (o:=o) (Nm:=Nm) Ad Bq e;have t1:=Aj Ad hc hR (Ay (o:=o) hR hT hi 4 4 rfl [35]);unfold Cx at t1;rw [hn] at t1;simp only [y1,if_false] at t1;have t2:=Aj Ad hc hR (Dy (o:=o) hR hi 4 4 rfl [40]);rw [hm] at t2;have u1:=Aj Ad hc hR (D8 (o:=o) hR hi 12);have hb:=ff;generalize B9 L s 12=r1 at *;simp only [<- AP G8] at hd;unfold Be;unfold zT;rw [CM,Bi];unfold zV zK;rw [Bo rfl];unfold Be at hd;rw [<- B5];rw [<- Cu] at t1 t2 u1;rw [<- Fm] at hd;simp only [opsOf,Aa,Ac,yZ,yY] at|-hd;simp only [S9,AT,seval,PY,Bv,PZ,Aw,Al,Dq,Ad];generalize hE:Zk _ _=z
       have hP:∃ e',z=some (.normal,⟨e',BX bx id (.cells 69 [.sl (A2 L),.int .i64 (s.i:Int),.int .i64 s.c,.int .i64 (s.t:Int),.int .i64 (o:Int),Nm]) [.cells 35 [.int .i64 0,.int .i64 0,.int .i64 0,.str [],.int .i64 0,.int .i64 0,.str [],.int .i64 0,.str [],.str [],.nils],.cells 59 [.int .i64 ((tokAt L s.i).1:Int),.str (tokAt L s.i).2.1,.int .i64 ((tokAt L s.i).2.2:Int)]]⟩)/\getT e' 0=.bp id 0/\getT e' 2=.bp bx.length 0/\getT e' 3=.bp (bx.length+1) 0:=by
        rw [<- hE];refine hd _ ?_ ?_
        all_goals simp only [S7,AT,seval]
       obtain ⟨e',he,g0,g2,g3⟩:=hP;subst he;clear hE hd;simp only [S9,AT,seval,PY,Bv,PZ,Aw,Al,g0,g2,g3,Dq,k2,k3,k4,k1,t1,t2,u1,hb,PV.ro,Ad];exact ⟨_,rfl⟩
   rw [if_neg bw];by_cases Ru:(tokAt L s.i).1=1
   · rw [if_pos Ru]
     replace hk:=Ru;have k2:(((tokAt L s.i).1:Int) == 2)=false:=by rw [hk];rfl
     have k3:(((tokAt L s.i).1:Int) == 3)=false:=by rw [hk];rfl
     have k4:(((tokAt L s.i).1:Int) == 4)=false:=by rw [hk];rfl
     have k1:(((tokAt L s.i).1:Int) == 1)=true:=by rw [hk];rfl
     have h1:=ot (id:=id) (o:=o) hR hT hi;cases z1:Qz L s with
     | none=>trivial
     | some d1=>
      rw [z1,AB] at h1;rw [AB];refine BK hR (QA _) fun bx Ad hc=>?_;have hd:=fun e=>En (L:=L) (o:=o) (Nm:=Nm) Ad Bq e;have t1:=Aj Ad hc hR h1;simp only [<- AP G8] at hd;unfold Be;rw [Bo rfl];unfold Be at hd;rw [<- B5];rw [<- Cu] at t1;rw [<- Fm] at hd;simp only [opsOf,Aa,Ac,yZ,yY] at|-hd;simp only [S9,AT,seval,PY,Bv,PZ,Aw,Al,Dq,Ad];generalize hE:Zk _ _=z
      have hP:∃ e',z=some (.normal,⟨e',BX bx id (.cells 69 [.sl (A2 L),.int .i64 (s.i:Int),.int .i64 s.c,.int .i64 (s.t:Int),.int .i64 (o:Int),Nm]) [.cells 35 [.int .i64 0,.int .i64 0,.int .i64 0,.str [],.int .i64 0,.int .i64 0,.str [],.int .i64 0,.str [],.str [],.nils],.cells 59 [.int .i64 ((tokAt L s.i).1:Int),.str (tokAt L s.i).2.1,.int .i64 ((tokAt L s.i).2.2:Int)]]⟩)/\getT e' 0=.bp id 0/\getT e' 2=.bp bx.length 0/\getT e' 3=.bp (bx.length+1) 0:=by
       rw [<- hE];refine hd _ ?_ ?_
       all_goals simp only [S7,AT,seval]
      obtain ⟨e',he,g0,g2,g3⟩:=hP;subst he;clear hE hd;simp only [S9,AT,seval,PY,Bv,PZ,Aw,Al,g0,g2,g3,Dq,k2,k3,k4,k1,t1,SX,Ad];exact ⟨_,rfl⟩
   rw [if_neg Ru];have k2:(((tokAt L s.i).1:Int) == 2)=false:=beq_eq_false_iff_ne.2 (by omega);have k3:(((tokAt L s.i).1:Int) == 3)=false:=beq_eq_false_iff_ne.2 (by omega);have k4:(((tokAt L s.i).1:Int) == 4)=false:=beq_eq_false_iff_ne.2 (by omega);have k1:(((tokAt L s.i).1:Int) == 1)=false:=beq_eq_false_iff_ne.2 (by omega);rw [AB];refine BK hR (QA _) fun bx Ad hc=>?_;have hd:=fun e=>En (L:=L) (o:=o) (Nm:=Nm) Ad Bq e;have u1:=Aj Ad hc hR (D8 (o:=o) hR hi 12);have hb:=ff;generalize B9 L s 12=r1 at *;simp only [<- AP G8] at hd;unfold Be;unfold zT;rw [CM,Bi];unfold zV zK;rw [Bo rfl];unfold Be at hd;rw [<- B5];rw [<- Cu] at u1;rw [<- Fm] at hd;simp only [opsOf,Aa,Ac,yZ,yY] at|-hd;simp only [S9,AT,seval,PY,Bv,PZ,Aw,Al,Dq,Ad];generalize hE:Zk _ _=z
   have hP:∃ e',z=some (.normal,⟨e',BX bx id (.cells 69 [.sl (A2 L),.int .i64 (s.i:Int),.int .i64 s.c,.int .i64 (s.t:Int),.int .i64 (o:Int),Nm]) [.cells 35 [.int .i64 0,.int .i64 0,.int .i64 0,.str [],.int .i64 0,.int .i64 0,.str [],.int .i64 0,.str [],.str [],.nils],.cells 59 [.int .i64 ((tokAt L s.i).1:Int),.str (tokAt L s.i).2.1,.int .i64 ((tokAt L s.i).2.2:Int)]]⟩)/\getT e' 0=.bp id 0/\getT e' 2=.bp bx.length 0/\getT e' 3=.bp (bx.length+1) 0:=by
    rw [<- hE];refine hd _ ?_ ?_
    all_goals simp only [S7,AT,seval]
   obtain ⟨e',he,g0,g2,g3⟩:=hP;subst he;clear hE hd;simp only [S9,AT,seval,PY,Bv,PZ,Aw,Al,g0,g2,g3,Dq,k2,k3,k4,k1,u1,hb,PV.ro,Ad];exact ⟨_,rfl⟩
 · rw [if_pos c0]
   have Dq:(s.c != 0)=true:=by simp [c0]
   rw [AB];refine BK hR (QA _) fun bx Ad hc=>?_;have hb:=ff;unfold Be;unfold zT;rw [CM,Bi];unfold zV zK;rw [Bo rfl];rw [<- B5];simp only [opsOf,Aa,Ac,yZ,yY];simp only [S9,AT,seval,PY,Bv,PZ,Aw,Al,Dq,hb,PV.ro,Ad];exact ⟨_,rfl⟩
end
section
variable {id:Nat} {L:List Tk} {Nm:PV} (hR:Nm.pure=true) (hT:TokOK L)
include hR hT
def rf (id:Nat) (L:List Tk) (Nm:PV) (n:Nat):Prop:=
 E8 54 [] .expr id L Nm n/\(∀ b,E8 87 [.int .i64 (Pf b),.str (PH b)] (.chain b) id L Nm n)/\(∀ b,vZ b id L Nm n)/\E8 121 [] .not id L Nm n/\E8 129 [] .cmp id L Nm n/\E8 135 [] .sum id L Nm n/\ox id L Nm n/\E8 142 [] .prod id L Nm n/\ow id L Nm n/\E8 145 [] .un id L Nm n/\E8 146 [] .prim id L Nm n
theorem oA:∀ n,rf id L Nm n:=by
 intro n
 induction n with
 | zero=>
  have h0:∀ f xs nt,E8 f xs nt id L Nm 0:=fun f xs nt o s _ _=>by rw [zF];exact ll
  refine ⟨h0 _ _ _,fun b=>h0 _ _ _,fun b=>?_,h0 _ _ _,h0 _ _ _,h0 _ _ _,?_,h0 _ _ _,?_,h0 _ _ _,h0 _ _ _⟩
  · intro Lc hL o s acc _ _ _ _ bx _ _ e _ _ _ _ _
    rw [zF];trivial
  · intro Lc hL o s a _ _ bx _ _ e _ _ _
    rw [zF];trivial
  · intro Lc hL o s a _ _ bx _ _ e _ _ _
    rw [zF];trivial
 | succ n ih=>
  obtain ⟨hE,hC,hLC,hN,hM,hS,hLS,hP,hLP,hU,hQ⟩:=ih;have hO:=fun b=>aF hR hT b (hC false) hN;exact ⟨ln hR hT hE (hC true),fun b=>ij hR hT b (hO b) (hLC b),fun b=>lp hR hT b (hO b) (hLC b),ou hR hT hN hM,ov hR hT hS,oy hR hT hP hLS,lB hR hT hP hLS,lC hR hT hU hLP,lA hR hT hU hLP,re hR hT hU hQ,lE hR hT hE⟩
end
def VR {α:Type} (r:PR α) (t:Nat) (p:α×RS):Prop:=match r with
 | .ok a j=>p=(a,⟨j,0,t⟩)
 | .bad t2 e=>(∃ i2,p.2=⟨i2,e,t2⟩)/\e≠0
 | .out=>True
def ZL {α:Type} (r:PR α) (t:Nat) (z:Option (α×RS)):Prop:=match r with
 | .ok a j=>z=some (a,⟨j,0,t⟩)
 | .bad t2 e=>(∃ a i2,z=some (a,⟨i2,e,t2⟩))/\e≠0
 | .out=>True
theorem GU {α β:Type} {r:PR α} {t:Nat} {p:α×RS} {f:α->Nat->PR β} {g:α->RS->β×RS} (h:VR r t p) (Ek:∀ a j,r=.ok a j->VR (f a j) t (g a ⟨j,0,t⟩)) (Fq:∀ a s,s.c≠0->(g a s).2=s):VR (r.bind f) t (g p.1 p.2):=by
 cases r with
 | ok a j=>
  have h:p=(a,⟨j,0,t⟩):=h;rw [h];exact Ek a j rfl
 | bad t2 e=>
  obtain ⟨⟨i2,h⟩,he⟩:=h;refine ⟨⟨i2,?_⟩,he⟩;rw [Fq _ _ (by rw [h];exact he),h]
 | out=>trivial
theorem Cj {α β:Type} {r:PR α} {t:Nat} {p:α×RS} {f:α->Nat->PR β} {g:α->RS->Option (β×RS)} (h:VR r t p) (Ek:∀ a j,r=.ok a j->ZL (f a j) t (g a ⟨j,0,t⟩)) (Fq:∀ a s,s.c≠0->∃ b,g a s=some (b,s)):ZL (r.bind f) t (g p.1 p.2):=by
 cases r with
 | ok a j=>
  have h:p=(a,⟨j,0,t⟩):=h;rw [h];exact Ek a j rfl
 | bad t2 e=>
  obtain ⟨⟨i2,h⟩,he⟩:=h;obtain ⟨b,hb⟩:=Fq p.1 p.2 (by rw [h];exact he);exact ⟨⟨b,i2,by rw [hb,h]⟩,he⟩
 | out=>trivial
theorem D9 {r:PR Tr} {t:Nat} {z:ZR} {f:Tr->Nat->PR Tr} {g:Tr->RS->ZR} (h:ZL r t z) (Ek:∀ a j,r=.ok a j->ZL (f a j) t (g a ⟨j,0,t⟩)) (Fq:∀ a s,s.c≠0->∃ b,g a s=some (b,s)):ZL (r.bind f) t (zb z g):=by
 cases r with
 | ok a j=>
  have h:z=some (a,⟨j,0,t⟩):=h;rw [h];exact Ek a j rfl
 | bad t2 e=>
  obtain ⟨⟨a,i2,h⟩,he⟩:=h;obtain ⟨b,hb⟩:=Fq a ⟨i2,e,t2⟩ he;exact ⟨⟨b,i2,by rw [h];exact hb⟩,he⟩
 | out=>trivial
theorem xw {α:Type} {r:PR α} {t:Nat} {p:α×RS} (h:VR r t p):ZL r t (some p):=by
 cases r with
 | ok a j=>exact congrArg some h
 | bad t2 e=>
  obtain ⟨⟨i2,h⟩,he⟩:=h;exact ⟨⟨p.1,i2,by rw [<- h]⟩,he⟩
 | out=>trivial
section
variable (L:List Tk)
theorem fg {s:RS} (h:s.c≠0) (e:Int):B9 L s e=s:=by unfold B9;rw [if_neg h]
theorem Ck {s:RS} (h:s.c≠0) (k:Nat) (w:List UInt8):As L s k w=s:=by
 unfold As;rw [Dp h];exact fg L h 12
theorem O2 {s:RS} (h:s.c≠0) (k:Nat):BW L s k=([],s):=by
 unfold BW;rw [if_neg (fun hh=>h hh.1),fg L h]
theorem Kj {s:RS} (h:s.c≠0):Cf L s=([],s):=by
 unfold Cf;rw [if_neg (fun hh=>h hh.1)];exact O2 L h 1
theorem TQ {s:RS} (h:s.c≠0) (lo hi:Nat) (two:Bool):DL L s lo hi two=(0,s):=by
 unfold DL;rw [O2 L h];exact if_pos h
theorem aG {s:RS} (h:s.c≠0):(Cm L s).2=s:=by
 unfold Cm;simp only [TQ L h,Ck L h]
theorem oB {s:RS} (h:s.c≠0) (k:Nat) (l:List (List UInt8)) (n:Nat):DE L s k l n=none:=by
 unfold DE;exact if_neg h
variable {L}
theorem E9 (i t k:Nat) (w:List UInt8):Bf L ⟨i,0,t⟩ k w=B2 L k w i:=by
 unfold Bf;rfl
theorem aH (i t:Nat) (e:Int):B9 L ⟨i,0,t⟩ e=⟨i,e,atT L i⟩:=rfl
theorem G9 (i t k:Nat) (w:List UInt8):VR (BM L k w i) t ((),As L ⟨i,0,t⟩ k w):=by
 unfold BM As;rw [E9];cases B2 L k w i with
 | true=>rfl
 | false=>exact ⟨⟨i,rfl⟩,by decide⟩
theorem P7 {i t k:Nat} {w:List UInt8} (h:B2 L k w i=true):As L ⟨i,0,t⟩ k w=⟨i+1,0,t⟩:=by
 unfold As;rw [E9,h];rfl
theorem NU {i t k:Nat} (h:(tokAt L i).1=k):BW L ⟨i,0,t⟩ k=((tokAt L i).2.1,⟨i+1,0,t⟩):=by
 unfold BW;exact if_pos ⟨rfl,h⟩
theorem X6 {i t k:Nat} (h:(tokAt L i).1≠k):BW L ⟨i,0,t⟩ k=([],⟨i,12,atT L i⟩):=by
 unfold BW;exact if_neg (fun hh=>h hh.2)
theorem TR (i t:Nat):VR (CI L i) t (Cf L ⟨i,0,t⟩):=by
 unfold CI Cf;by_cases h1:(tokAt L i).1=1
 · rw [if_pos h1]
   cases hv:Fo (tokAt L i).2.1 with
   | true=>
    rw [if_pos rfl,if_neg (fun hh=>absurd hh.2.2 (by decide)),NU h1];rfl
   | false=>
    rw [if_neg (by decide),if_pos ⟨rfl,h1,rfl⟩,aH,O2 L (show (10:Int)≠0 by decide)];exact ⟨⟨i,rfl⟩,by decide⟩
 · rw [if_neg h1,if_neg (fun hh=>h1 hh.2.1),X6 h1]
   exact ⟨⟨i,rfl⟩,by decide⟩
theorem lF (lo hi i t:Nat):VR (Hj L lo hi i) t (DL L ⟨i,0,t⟩ lo hi false):=by
 unfold Hj DL;by_cases h1:(tokAt L i).1=2
 · rw [if_pos h1,NU h1]
   simp only [ne_eq,not_true_eq_false,if_false,y1,false_and];split
   · exact ⟨⟨i,rfl⟩,by decide⟩
   · rfl
 · rw [if_neg h1,X6 h1]
   exact ⟨⟨i,rfl⟩,by decide⟩
theorem uJ (hi i t:Nat):VR (Ri L hi i) t (DL L ⟨i,0,t⟩ 0 hi true):=by
 unfold Ri;by_cases h1:(tokAt L i).1=2
 · unfold DL
   by_cases h2:(tokAt L i).2.1.length=2
   · rw [if_neg (fun hh=>hh.2 h2)]
     have:=lF (L:=L) 0 hi i t;unfold DL at this;rw [NU h1] at this |-;simp only [ne_eq,not_true_eq_false,if_false,y1,false_and,h2,and_false] at this |-;exact this
   · rw [if_pos ⟨h1,h2⟩,NU h1]
     simp only [ne_eq,not_true_eq_false,if_false,h2,not_false_eq_true,and_self,if_true];exact ⟨⟨i,rfl⟩,by decide⟩
 · rw [if_neg (fun hh=>h1 hh.1)]
   unfold Hj DL;rw [if_neg h1,X6 h1];exact ⟨⟨i,rfl⟩,by decide⟩
theorem aI (i t:Nat):VR (Fv L i) t (B7 L ⟨i,0,t⟩):=by
 unfold Fv B7;dsimp only;refine GU (g:=fun (a:Nat) s=>(((a:Int),(Cf L (As L s 4 [46])).1,(Cf L (As L (Cf L (As L s 4 [46])).2 4 [46])).1),(Cf L (As L (Cf L (As L s 4 [46])).2 4 [46])).2)) (lF 1 250 i t) (fun a j _=>?_) (fun a s h=>by simp only [Ck L h,Kj L h]);refine GU (g:=fun _ s=>(((a:Int),(Cf L s).1,(Cf L (As L (Cf L s).2 4 [46])).1),(Cf L (As L (Cf L s).2 4 [46])).2)) (G9 j t 4 [46]) (fun _ j _=>?_) (fun a s h=>by simp only [Ck L h,Kj L h]);refine GU (g:=fun b s=>(((a:Int),b,(Cf L (As L s 4 [46])).1),(Cf L (As L s 4 [46])).2)) (TR j t) (fun b j _=>?_) (fun a s h=>by simp only [Ck L h,Kj L h]);refine GU (g:=fun _ s=>(((a:Int),b,(Cf L s).1),(Cf L s).2)) (G9 j t 4 [46]) (fun _ j _=>?_) (fun a s h=>by simp only [Kj L h]);exact GU (g:=fun c s=>(((a:Int),b,c),s)) (TR j t) (fun c j _=>rfl) (fun a s h=>rfl)
theorem dw (i t:Nat):VR (GG L i) t (Cm L ⟨i,0,t⟩):=by
 unfold GG Cm;dsimp only;refine GU (g:=fun a s=>(60 * a+(DL L (As L s 4 [58]) 0 59 true).1,(DL L (As L s 4 [58]) 0 59 true).2)) (uJ 23 i t) (fun a j _=>?_) (fun a s h=>by simp only [Ck L h,TQ L h]);refine GU (g:=fun _ s=>(60 * a+(DL L s 0 59 true).1,(DL L s 0 59 true).2)) (G9 j t 4 [58]) (fun _ j _=>?_) (fun a s h=>by simp only [TQ L h]);exact GU (g:=fun b s=>(60 * a+b,s)) (uJ 59 j t) (fun c j _=>rfl) (fun a s h=>rfl)
theorem lG (i t k:Nat) (l:List (List UInt8)) (n:Nat):DE L ⟨i,0,t⟩ k l n=Em L k i l n:=by
 unfold DE;exact if_pos rfl
theorem rh:∀ (n N m i t:Nat),n<=N->ZL (Lj L n m i) t (Ib L N (m ||| (Hn L ⟨i,0,t⟩).1) (Hn L ⟨i,0,t⟩).2):=by
 intro n
 induction n with
 | zero=>intro N m i t _;trivial
 | succ n ih=>
  intro N m i t hN;obtain ⟨M,rfl⟩:∃ M,N=M+1:=⟨N - 1,by omega⟩;rw [Lj];unfold To Hn;rw [lG];cases hp:Em L 1 i BI 0 with
  | none=>
   simp only;rw [aH,Ib,Dp (show (12:Int)≠0 by decide)];exact ⟨⟨_,i,rfl⟩,by decide⟩
  | some k=>
   simp only;rw [AA,Ib];unfold BZ;rw [E9];simp only;split
   · exact ih M _ _ t (by omega)
   · rfl
theorem pN (i t:Nat):ZL (KA L i) t (Ic L ⟨i,0,t⟩):=by
 have:=rh (L:=L) (L.length+1) (L.length+1) 0 i t (Nat.le_refl _);rw [Nat.zero_or] at this;exact this
theorem uK (i t:Nat):ZL (IF L i) t (Qz L ⟨i,0,t⟩):=by
 unfold IF Qz;simp only [E9];unfold BZ;simp only;split
 · rfl
 split
 · rfl
 split
 · refine Cj (p:=((),As L ⟨i+1,0,t⟩ 1 [105,115])) (g:=fun _ s=>some (Tr.mk 3 0 0 (Cf L s).1 zV zK [],(Cf L s).2)) (G9 (i+1) t 1 [105,115]) (fun _ j _=>?_) (fun a s h=>⟨_,by rw [Kj L h]⟩)
   exact Cj (g:=fun n s=>some (Tr.mk 3 0 0 n zV zK [],s)) (TR j t) (fun _ j _=>rfl) (fun a s h=>⟨_,rfl⟩)
 split
 · have h0:=dw (L:=L) (i+1) t
   generalize Cm L ⟨i+1,0,t⟩=p at h0 |-;refine Cj (g:=fun (n:Nat) s=>some (Tr.mk 4 (n:Nat) ((Cm L (As L s 1 [116,111])).1:Nat) [] zV zK [],(Cm L (As L s 1 [116,111])).2)) h0 (fun n j _=>?_) (fun a s h=>⟨_,by rw [Ck L h,aG L h]⟩);refine Cj (p:=((),As L ⟨j,0,t⟩ 1 [116,111])) (g:=fun _ s=>some (Tr.mk 4 (n:Nat) ((Cm L s).1:Nat) [] zV zK [],(Cm L s).2)) (G9 j t 1 [116,111]) (fun _ j _=>?_) (fun a s h=>⟨_,by rw [aG L h]⟩);have h1:=dw (L:=L) j t;generalize Cm L ⟨j,0,t⟩=q at h1 |-;exact Cj (g:=fun (m:Nat) s=>some (Tr.mk 4 (n:Nat) (m:Nat) [] zV zK [],s)) h1 (fun _ j _=>rfl) (fun a s h=>⟨_,rfl⟩)
 split
 · have h:=pN (L:=L) (i+1) t
   cases hd:KA L (i+1) with
   | out=>trivial
   | ok m j=>
    rw [hd] at h;have h:Ic L ⟨i+1,0,t⟩=some (m,⟨j,0,t⟩):=h;rw [h];rfl
   | bad t2 e=>
    rw [hd] at h;obtain ⟨⟨a,i2,h⟩,he⟩:=h;rw [h];exact ⟨⟨_,_,rfl⟩,he⟩
 split
 · rw [lG]
   cases Em L 1 (i+1) Bw 0 with
   | none=>rfl
   | some k=>rfl
 · rw [aH]
   exact ⟨⟨_,i,rfl⟩,by decide⟩
end
theorem IM {z:ZR} {g:Tr->RS->ZR} {s:RS} (h:∃ b,z=some (b,s)) (hg:∀ a,∃ b,g a s=some (b,s)):∃ b,zb z g=some (b,s):=by
 obtain ⟨a,h⟩:=h;rw [h];exact hg a
theorem xy (L:List Tk) {n:Nat} (hn:11 < n) (nt:NT) (o:Nat) {s:RS} (h:s.c≠0):∃ b,zF L n nt o s=some (b,s):=⟨_,lk L n nt o s h (by have:=(OT nt).1;omega)⟩
theorem RM {L:List Tk} {o i t:Nat} (h:o < 100):ER L o ⟨i,0,t⟩=⟨i,0,t⟩:=by
 unfold ER;exact if_neg (by omega)
theorem O3 {L:List Tk} {o i t:Nat} (h:¬ o < 100):ER L o ⟨i,0,t⟩=⟨i,22,atT L i⟩:=by
 unfold ER;exact if_pos (by omega)
theorem dx {L:List Tk} {k i:Nat} {w:List UInt8} (h:(tokAt L i).1≠k):B2 L k w i=false:=by
 unfold B2;rw [beq_eq_false_iff_ne.2 h];rfl
theorem aJ {L:List Tk} {i:Nat} (h:(tokAt L i).1≠1):IF L i=.bad (atT L i) 12:=by
 unfold IF;simp only [dx h,y1,if_false]
theorem pO {L:List Tk} (hT:TokOK L):∀ (n:Nat) (nt:NT) (o i t:Nat),i < L.length->12 * (L.length - i)+EA nt<=n->ZL (pz L n nt o i) t (zF L n nt o ⟨i,0,t⟩):=by
 intro n
 induction n with
 | zero=>intro nt o i t hi h;have:=OT nt;omega
 | succ n ih=>
  intro nt o i t hi h;have hn:11 < n:=by have:=OT nt;omega
  have lt:=fun (nt:NT) (o i:Nat) (a:Tr) (j:Nat) hi (r:pz L n nt o i=.ok a j)=>Hq hT n nt o i a j hi r;have sz:=fun (nt:NT) (o:Nat) {s:RS} (h:s.c≠0)=>xy L hn nt o h;have f22:(22:Int)≠0:=by decide
  cases nt with
  | expr=>
   have hr:EA .expr=10:=rfl;have Pe:EA (.chain true)=9:=rfl;rw [pz,zF,E9];split
   · rename_i hk
     have h0:=AG hT hi hk (by decide)
     have s3:∀ (a b:Tr) (s:RS),s.c≠0->∃ x,(zb (zF L n .expr (o+1) (As L s 1 [101,108,115,101])) fun c s=>some (Bb 14 [a,b,c],s))=some (x,s):=fun a b s h=>by
      rw [Ck L h];exact IM (sz _ _ h) fun c=>⟨_,rfl⟩
     have s2:∀ (a:Tr) (s:RS),s.c≠0->∃ x,(zb (zF L n .expr (o+1) (As L s 1 [116,104,101,110])) fun b s=>zb (zF L n .expr (o+1) (As L s 1 [101,108,115,101])) fun c s=>some (Bb 14 [a,b,c],s))=some (x,s):=fun a s h=>by
      rw [Ck L h];exact IM (sz _ _ h) fun b=>s3 a b s h
     split
     · rename_i ho
       rw [RM ho,P7 hk];refine D9 (ih _ _ _ _ h0 (by omega)) (fun a i1 r1=>?_) s2;have h1:=lt _ _ _ _ _ h0 r1;refine Cj (p:=((),As L ⟨i1,0,t⟩ 1 [116,104,101,110])) (g:=fun _ s=>zb (zF L n .expr (o+1) s) fun b s=>zb (zF L n .expr (o+1) (As L s 1 [101,108,115,101])) fun c s=>some (Bb 14 [a,b,c],s)) (G9 i1 t 1 [116,104,101,110]) (fun _ i2 r2=>?_) (fun _ s h=>IM (sz _ _ h) fun b=>s3 a b s h);have h2:=A6 hT h1.2 (by decide) r2;refine D9 (ih _ _ _ _ h2.2 (by omega)) (fun b i3 r3=>?_) (s3 a);have h3:=lt _ _ _ _ _ h2.2 r3;refine Cj (p:=((),As L ⟨i3,0,t⟩ 1 [101,108,115,101])) (g:=fun _ s=>zb (zF L n .expr (o+1) s) fun c s=>some (Bb 14 [a,b,c],s)) (G9 i3 t 1 [101,108,115,101]) (fun _ i4 r4=>?_) (fun _ s h=>IM (sz _ _ h) fun c=>⟨_,rfl⟩);have h4:=A6 hT h3.2 (by decide) r4;exact D9 (ih _ _ _ _ h4.2 (by omega)) (fun c i5 r5=>rfl) (fun _ _ _=>⟨_,rfl⟩)
     · rename_i ho
       rw [O3 ho,Ck L f22];obtain ⟨x,hx⟩:=IM (g:=fun a s=>zb (zF L n .expr (o+1) (As L s 1 [116,104,101,110])) fun b s=>zb (zF L n .expr (o+1) (As L s 1 [101,108,115,101])) fun c s=>some (Bb 14 [a,b,c],s)) (sz .expr (o+1) (s:=⟨i,22,atT L i⟩) f22) fun a=>s2 a _ f22;rw [hx];exact ⟨⟨_,_,rfl⟩,f22⟩
   · exact ih _ _ _ _ hi (by omega)
  | chain b=>
   have hr:=cT b;have wy:=(OT (Ee b)).2;rw [pz,zF];refine D9 (ih _ _ _ _ hi (by omega)) (fun a i1 r1=>?_) (fun a s h=>sz _ _ h);have h1:=lt _ _ _ _ _ hi r1;have bB:EA (.chainL b [a])=1:=rfl;exact ih _ _ _ _ h1.2 (by omega)
  | chainL b acc=>
   have hr:EA (.chainL b acc)=1:=rfl;rw [pz,zF,E9];split
   · rename_i hk
     have h0:=AG hT hi hk (by decide);split
     · exact ⟨⟨_,_,rfl⟩,by decide⟩
     · have wy:=(OT (Ee b)).1
       rw [P7 hk];refine D9 (ih _ _ _ _ h0 (by omega)) (fun a i1 r1=>?_) (fun a s h=>sz _ _ h);have h1:=lt _ _ _ _ _ h0 r1;have bB:EA (.chainL b (acc++[a]))=1:=rfl;exact ih _ _ _ _ h1.2 (by omega)
   · rfl
  | not=>
   have hr:EA .not=7:=rfl;have Pe:EA .cmp=6:=rfl;rw [pz,zF,E9];split
   · rename_i hk
     have h0:=AG hT hi hk (by decide);split
     · rename_i ho
       rw [RM ho,P7 hk];exact D9 (ih _ _ _ _ h0 (by omega)) (fun _ _ _=>rfl) (fun _ _ _=>⟨_,rfl⟩)
     · rename_i ho
       rw [O3 ho,Ck L f22];obtain ⟨x,hx⟩:=IM (g:=fun e s=>some (Bb 6 [e],s)) (sz .not (o+1) (s:=⟨i,22,atT L i⟩) f22) fun a=>⟨_,rfl⟩;rw [hx];exact ⟨⟨_,_,rfl⟩,f22⟩
   · exact ih _ _ _ _ hi (by omega)
  | cmp=>
   have hr:EA .cmp=6:=rfl;have Pe:EA .sum=5:=rfl;rw [pz,zF];refine D9 (ih _ _ _ _ hi (by omega)) (fun a i1 r1=>?_) (fun a s h=>by simp only [oB L h];exact ⟨_,rfl⟩);have h1:=lt _ _ _ _ _ hi r1;rw [lG];cases hp:Em L 4 i1 Cw 0 with
   | some k=>
    dsimp only;obtain ⟨_,_,h4⟩:=G4 hp;have h0:=AG hT h1.2 h4 (by decide);exact D9 (ih .sum o (i1+1) t h0 (by omega)) (fun _ _ _=>rfl) (fun _ _ _=>⟨_,rfl⟩)
   | none=>rfl
  | sum=>
   have hr:EA .sum=5:=rfl;have Pe:EA .prod=4:=rfl;rw [pz,zF];refine D9 (ih _ _ _ _ hi (by omega)) (fun a i1 r1=>?_) (fun a s h=>sz _ _ h);have h1:=lt _ _ _ _ _ hi r1;have bB:EA (.sumL a)=1:=rfl;exact ih _ _ _ _ h1.2 (by omega)
  | sumL e=>
   have hr:EA (.sumL e)=1:=rfl;have Pe:EA .prod=4:=rfl;rw [pz,zF,E9,E9];split
   · rename_i hk
     have h0:=AG hT hi hk (by decide);refine D9 (ih _ _ _ _ h0 (by omega)) (fun a i1 r1=>?_) (fun a s h=>sz _ _ h);have h1:=lt _ _ _ _ _ h0 r1;have bB:EA (.sumL (Bb 11 [e,a]))=1:=rfl;exact ih _ _ _ _ h1.2 (by omega)
   split
   · rename_i hk
     have h0:=AG hT hi hk (by decide);refine D9 (ih _ _ _ _ h0 (by omega)) (fun a i1 r1=>?_) (fun a s h=>sz _ _ h);have h1:=lt _ _ _ _ _ h0 r1;have bB:EA (.sumL (Bb 12 [e,a]))=1:=rfl;exact ih _ _ _ _ h1.2 (by omega)
   · rfl
  | prod=>
   have hr:EA .prod=4:=rfl;have Pe:EA .un=3:=rfl;rw [pz,zF];refine D9 (ih _ _ _ _ hi (by omega)) (fun a i1 r1=>?_) (fun a s h=>sz _ _ h);have h1:=lt _ _ _ _ _ hi r1;have bB:EA (.prodL a)=1:=rfl;exact ih _ _ _ _ h1.2 (by omega)
  | prodL e=>
   have hr:EA (.prodL e)=1:=rfl;have Pe:EA .un=3:=rfl;rw [pz,zF,E9];split
   · rename_i hk
     have h0:=AG hT hi hk (by decide);refine D9 (ih _ _ _ _ h0 (by omega)) (fun a i1 r1=>?_) (fun a s h=>sz _ _ h);have h1:=lt _ _ _ _ _ h0 r1;have bB:EA (.prodL (Bb 13 [e,a]))=1:=rfl;exact ih _ _ _ _ h1.2 (by omega)
   · rfl
  | un=>
   have hr:EA .un=3:=rfl;have Pe:EA .prim=2:=rfl;rw [pz,zF,E9];split
   · rename_i hk
     have h0:=AG hT hi hk (by decide);cases hq:D0 L (i+1) with
     | true=>
      have iC:(tokAt L (i+1)).1=2:=by unfold D0 at hq;simp only [Bool.and_eq_true,beq_iff_eq] at hq;exact hq.1
      simp only [if_true,hq];unfold aB BZ;rw [NU iC];have:-1 * (amtN (tokAt L (i+1)).2.1 0:Int)=-(amtN (tokAt L (i+1)).2.1 0:Int):=by omega
      rw [this];rfl
     | false=>
      simp only [y1,if_false,hq];split
      · rename_i ho
        rw [RM ho,P7 hk];exact D9 (ih _ _ _ _ h0 (by omega)) (fun _ _ _=>rfl) (fun _ _ _=>⟨_,rfl⟩)
      · rename_i ho
        rw [O3 ho,Ck L f22];obtain ⟨x,hx⟩:=IM (g:=fun e s=>some (Bb 12 [Da 2 0,e],s)) (sz .un (o+1) (s:=⟨i,22,atT L i⟩) f22) fun a=>⟨_,rfl⟩;rw [hx];exact ⟨⟨_,_,rfl⟩,f22⟩
   · exact ih _ _ _ _ hi (by omega)
  | prim=>
   have hr:EA .prim=2:=rfl;have Pe:EA .expr=10:=rfl;rw [pz,zF,if_neg (show ¬ ((⟨i,0,t⟩:RS).c≠0) from fun h=>h rfl)];dsimp only;by_cases hk:(tokAt L i).1=2
   · cases hq:D0 L i with
     | true=>
      simp only [if_true,if_pos hk];unfold aB;rw [NU hk,y'];rfl
     | false=>
      simp only [y1,if_false,if_pos hk];exact Cj (p:=B7 L ⟨i,0,t⟩) (g:=fun k s=>some (Tr.mk 2 0 0 [] zV k [],s)) (aI i t) (fun _ _ _=>rfl) (fun _ _ _=>⟨_,rfl⟩)
   have hq:D0 L i=false:=by unfold D0;rw [beq_eq_false_iff_ne.2 hk];rfl
   rw [hq,if_neg hk,if_neg hk];simp only [y1,if_false];by_cases iJ:(tokAt L i).1=3
   · rw [if_pos iJ,if_pos iJ]
     rfl
   rw [if_neg iJ,if_neg iJ];by_cases bw:(tokAt L i).1=4
   · rw [if_pos bw,E9,E9]
     split
     · rename_i hs
       have h0:=AG hT hi hs (by decide);exact Cj (p:=DL L ⟨i+1,0,t⟩ 0 63 false) (g:=fun k s=>some (Da 3 (k:Int),s)) (lF 0 63 (i+1) t) (fun _ _ _=>rfl) (fun _ _ _=>⟨_,rfl⟩)
     split
     · rename_i hs
       have h0:=AG hT hi hs (by decide);split
       · rename_i ho
         rw [RM ho,P7 hs];refine D9 (ih _ _ _ _ h0 (by omega)) (fun e i1 r1=>?_) (fun _ s h=>⟨_,by rw [Ck L h]⟩);exact Cj (p:=((),As L ⟨i1,0,t⟩ 4 [41])) (g:=fun _ s=>some (e,s)) (G9 i1 t 4 [41]) (fun _ _ _=>rfl) (fun _ _ _=>⟨_,rfl⟩)
       · rename_i ho
         rw [O3 ho,Ck L f22];obtain ⟨x,hx⟩:=IM (g:=fun e s=>some (e,As L s 4 [41])) (sz .expr (o+1) (s:=⟨i,22,atT L i⟩) f22) fun a=>⟨_,by rw [Ck L f22]⟩;rw [hx];exact ⟨⟨_,_,rfl⟩,f22⟩
     · rw [aJ (by rw [bw];decide)]
       exact ⟨⟨_,_,rfl⟩,by decide⟩
   rw [if_neg bw,dx bw,dx bw];simp only [y1,if_false];by_cases Ru:(tokAt L i).1=1
   · rw [if_pos Ru]
     exact uK i t
   · rw [if_neg Ru,aJ Ru]
     exact ⟨⟨_,_,rfl⟩,by decide⟩
end Go.HH
