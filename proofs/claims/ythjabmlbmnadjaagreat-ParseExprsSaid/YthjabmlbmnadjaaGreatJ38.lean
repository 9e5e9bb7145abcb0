/-
  What the law needs, packed: PR PS PT PU.
-/
import Derived.Test.YthjabmlbmnadjaaGreatJ37
open Option renaming getD->yW
open Bool renaming false_eq_true->yX,or_true->y8,and_eq_true->za
open Go.Proofs.Tryz renaming f144->yY,f140->y0,f79->y1,f134->y3,f81->y4,f80->y6,f52->y7
open List renaming getElem?_eq_some_iff->yZ,filter_cons->y'
open Nat renaming le_of_ble_eq_true->y2
open Go.IntKind renaming wrap->y5
open Classical renaming axiomOfChoice->y9
namespace Go.HH
open Go Go.Proofs
set_option maxRecDepth 100000
set_option maxHeartbeats 4000000
set_option linter.unusedSimpArgs false
set_option linter.unusedVariables false
theorem Il:Bk CC yY (yY.body.getD .skip)=true:=by kernel_rfl
theorem H6:CC.P.funcs[144]?=some yY:=by kernel_rfl
theorem AM {x:List PV} {b:List PBox} (h:x.length.ble yY.ntmps=true):Ae CC 144 x b=CB CC yY.results.toList (Cp CC (yY.body.getD .skip) ⟨x,b⟩):=Ah (fn:=yY) (c:=yY.body.getD .skip) rfl rfl H6 rfl Il (y2 h)
theorem Jp:Bk CC y0 (y0.body.getD .skip)=true:=by kernel_rfl
theorem I6:CC.P.funcs[140]?=some y0:=by kernel_rfl
theorem A8 {x:List PV} {b:List PBox} (h:x.length.ble y0.ntmps=true):Ae CC 140 x b=CB CC y0.results.toList (Cp CC (y0.body.getD .skip) ⟨x,b⟩):=Ah (fn:=y0) (c:=y0.body.getD .skip) rfl rfl I6 rfl Jp (y2 h)
theorem KS:Bk CC y3 (y3.body.getD .skip)=true:=by kernel_rfl
theorem J4:CC.P.funcs[134]?=some y3:=by kernel_rfl
theorem Ca {x:List PV} {b:List PBox} (h:x.length.ble y3.ntmps=true):Ae CC 134 x b=CB CC y3.results.toList (Cp CC (y3.body.getD .skip) ⟨x,b⟩):=Ah (fn:=y3) (c:=y3.body.getD .skip) rfl rfl J4 rfl KS (y2 h)
theorem Mv:Bk CC y4 (y4.body.getD .skip)=true:=by kernel_rfl
theorem Ly:CC.P.funcs[81]?=some y4:=by kernel_rfl
theorem CJ {x:List PV} {b:List PBox} (h:x.length.ble y4.ntmps=true):Ae CC 81 x b=CB CC y4.results.toList (Cp CC (y4.body.getD .skip) ⟨x,b⟩):=Ah (fn:=y4) (c:=y4.body.getD .skip) rfl rfl Ly rfl Mv (y2 h)
theorem gN (s:List UInt8):Bp CC 35 [(0,.int .i64 3),(3,.str s)]=some (.agg [.int .i64 3,.int .i64 0,.int .i64 0,.str s,.int .i64 0,.int .i64 0,.str [],.int .i64 0,.str [],.str [],.nils]):=by kernel_rfl
theorem Hy (k n:Int):Bp CC 35 [(0,.int .i64 k),(1,.int .i64 n)]=some (.agg [.int .i64 k,.int .i64 n,.int .i64 0,.str [],.int .i64 0,.int .i64 0,.str [],.int .i64 0,.str [],.str [],.nils]):=by kernel_rfl
theorem eG (k:Int):Bp CC 35 [(0,.int .i64 k)]=some (.agg [.int .i64 k,.int .i64 0,.int .i64 0,.str [],.int .i64 0,.int .i64 0,.str [],.int .i64 0,.str [],.str [],.nils]):=by kernel_rfl
theorem Wq (d:Int) (a b:List UInt8):Bp CC 35 [(0,.int .i64 2),(5,.agg [.int .i64 d,.str a,.str b])]=some (.agg [.int .i64 2,.int .i64 0,.int .i64 0,.str [],.int .i64 0,.int .i64 0,.str [],.int .i64 d,.str a,.str b,.nils]):=by kernel_rfl
theorem eH (s:List UInt8):Bp CC 30 [(0,.int .i64 4),(2,.str s)]=some (.agg [.int .i64 4,.int .i64 0,.str s]):=by kernel_rfl
theorem Wr (s:List UInt8):Bp CC 35 [(0,.int .i64 1),(4,.agg [.int .i64 4,.int .i64 0,.str s])]=some (.agg [.int .i64 1,.int .i64 0,.int .i64 0,.str [],.int .i64 4,.int .i64 0,.str s,.int .i64 0,.str [],.str [],.nils]):=by kernel_rfl
theorem J5 (k n m:Int) (nm:List UInt8) (v:Vl) (q:Ky):DH (.mk k n m nm v q [])=.agg [.int .i64 k,.int .i64 n,.int .i64 m,.str nm,.int .i64 v.1,.int .i64 v.2.1,.str v.2.2,.int .i64 q.1,.str q.2.1,.str q.2.2,.sl []]:=by unfold DH BS;rfl
theorem pC:Bp CC 147 [(0,.str [103,117,101,115,116]),(1,.str [99,104,105,108,100]),(2,.str [97,100,117,108,116]),(3,.str [111,119,110,101,114])]=some (.agg (Bw.map .str)):=by kernel_rfl
theorem tW:∀ k:Nat,k < 4->EK CC 147 (.agg (Bw.map .str)) (.int .i64 (k:Int))=some (.str (Bw.getD k []))
 | 0,_=>by kernel_rfl
 | 1,_=>by kernel_rfl
 | 2,_=>by kernel_rfl
 | 3,_=>by kernel_rfl
 | k+4,h=>by omega
def Z0 (L:List Tk) (RL:PV) (bx:List PBox) (id i o:Nat) (r:Option Nat) (z:Option (Ex×St)):Prop:=match r with
 | some k=>∃ e',z=some (.ret,⟨e',BX bx id (Av L (i+1) o RL) [.cells 35 [.int .i64 15,.int .i64 ((k+1:Nat):Int),.int .i64 0,.str [],.int .i64 0,.int .i64 0,.str [],.int .i64 0,.str [],.str [],.nils]]⟩)/\getT e' 2=.bp bx.length 0
 | none=>∃ e',z=some (.exit 1,⟨e',BX bx id (Av L i o RL) [.cells 35 [.int .i64 0,.int .i64 0,.int .i64 0,.str [],.int .i64 0,.int .i64 0,.str [],.int .i64 0,.str [],.str [],.nils]]⟩)/\getT e' 0=.bp id 0/\getT e' 2=.bp bx.length 0
theorem gO (Lc:Code) (hL:Lc=Aa yY [1,0,0,1,1,1,1,1,1,1,1,1,1,1,0,0,1,0]) {id:Nat} {L:List Tk} {i o:Nat} {RL:PV} (hR:RL.pure=true) (hi:i < L.length) (hT:TokOK L) (bx:List PBox) (Ad:id < bx.length) (hc:C5 bx):∀ (m k:Nat) (e:List PV),k+m=4->getT e 0=.bp id 0->getT e 2=.bp bx.length 0->getT e 43=.agg (Bw.map .str)->getT e 44=.int .i64 (k:Int) ->
 Z0 L RL bx id i o (Em L 1 i (Bw.drop k) k) (Cp CC Lc ⟨e,BX bx id (Av L i o RL) [.cells 35 [.int .i64 0,.int .i64 0,.int .i64 0,.str [],.int .i64 0,.int .i64 0,.str [],.int .i64 0,.str [],.str [],.nils]]⟩):=by
 intro m
 induction m with
 | zero=>
  intro k e hk h0 h2 vC wu;rw [A0 (Aa yY [1,0,0,1,1,1,1,1,1,1,1,1,1,1,0,0,1,0,0]) hL];have iW:¬ ((k:Int) < 4):=by omega
  rw [show Bw.drop k=[] from List.drop_of_length_le (by rw [show Bw.length=4 from rfl];omega)];unfold Z0 Em Av;rw [<- Am];simp only [Aa,Ac,yY,yW];simp only [S9,Ag,seval,PY,PZ,Aw,h0,h2,vC,wu,iW,Ad];exact ⟨_,rfl,by simp only [S7,Ag,seval,h0],by simp only [S7,Ag,seval,h2]⟩
 | succ m ih=>
  intro k e hk h0 h2 vC wu;rw [A0 (Aa yY [1,0,0,1,1,1,1,1,1,1,1,1,1,1,0,0,1,0,0]) hL];have iW:((k:Int) < 4):=by omega
  have Dc:=tW k (by omega)
  have KE:Bw.drop k=Bw.getD k [] :: Bw.drop (k+1):=by
   have hl:k < Bw.length:=by rw [show Bw.length=4 from rfl];omega
   rw [List.drop_eq_getElem_cons hl,List.getD_eq_getElem?_getD,List.getElem?_eq_getElem hl];rfl
  have key:=fun e=>ih (k+1) e (by omega);have hw:y5 .i64 ((k:Int)+1)=((k+1:Nat):Int):=by rw [wrap_i64 ⟨by omega,by omega⟩];omega
  have hb:=Hy 15 ((k+1:Nat):Int);rw [KE];generalize Bw.getD k []=wd at *;unfold Em;cases Ru:B2 L 1 wd i with
  | true=>
   have t1:=Ab Ad hc hR (Az (id:=id) (o:=o) hR hi hT wd Ru);unfold Z0 Av;simp only [if_true];rw [<- Am];rw [<- AK] at t1;simp only [Aa,Ac,yY,yW];simp only [S9,Ag,seval,PY,PZ,Aw,h0,h2,vC,wu,iW,Dc,t1,hw,hb,Ad];exact ⟨_,rfl,by simp only [S7,Ag,seval,h2]⟩
  | false=>
   have t1:=Ab Ad hc hR (Ai (id:=id) (o:=o) hR hi hT wd Ru);simp only [yX,if_false];generalize Em L 1 i (Bw.drop (k+1)) (k+1)=pw at *;unfold Av at key |-;rw [<- Am];rw [<- AK] at t1;rw [<- Am] at key;simp only [Aa,Ac,yY,yW];simp only [S9,Ag,seval,PY,PZ,Aw,h0,h2,vC,wu,iW,Dc,t1,hw,Ad];refine key _ ?_ ?_ ?_ ?_
   · simp only [S7,Ag,seval,h0]
   · simp only [S7,Ag,seval,h2]
   · simp only [S7,Ag,seval,vC]
   · simp only [S7,Ag,seval]
theorem kv {id:Nat} {L:List Tk} {i o:Nat} {RL:PV} (hR:RL.pure=true) (hi:i < L.length) (hT:TokOK L):YC 144 [] id L RL i o DH (IF L i):=by
 unfold IF;cases f0:B2 L 1 [116,114,117,101] i with
 | true=>
  simp only [if_true];have B8:=AG hT hi f0 (by decide);have hl:=cL 1 1;refine BB (Bl hR (fun n=>by rw [An];simp only [SX,PV.under]) fun bx Ad hc=>?_);have q0:=Ab Ad hc hR (Az (id:=id) (o:=o) hR hi hT _ f0);rw [An];rw [AM rfl];unfold Av;rw [<- Am];rw [<- AK] at q0 hl;simp only [Aa,Ac,yY,yW];simp only [S9,Ag,seval,PY,PZ,Aw,q0,hl,SX,Ad];exact ⟨_,rfl⟩
 | false=>
  simp only [yX,if_false];cases f1:B2 L 1 [102,97,108,115,101] i with
  | true=>
   simp only [if_true];have B8:=AG hT hi f1 (by decide);have hl:=cL 1 0;refine BB (Bl hR (fun n=>by rw [An];simp only [SX,PV.under]) fun bx Ad hc=>?_);have q0:=Ab Ad hc hR (Ai (id:=id) (o:=o) hR hi hT _ f0);have q1:=Ab Ad hc hR (Az (id:=id) (o:=o) hR hi hT _ f1);rw [An];rw [AM rfl];unfold Av;rw [<- Am];rw [<- AK] at q0 q1 hl;simp only [Aa,Ac,yY,yW];simp only [S9,Ag,seval,PY,PZ,Aw,q0,q1,hl,SX,Ad];exact ⟨_,rfl⟩
  | false=>
   simp only [yX,if_false];cases f2:B2 L 1 [109,111,100,101] i with
   | true=>
    simp only [if_true];have B8:=AG hT hi f2 (by decide);have h0:=CE (id:=id) (o:=o) (i:=(i+1)) hR B8 hT 1 1 rfl [105,115];cases r0:BM L 1 [105,115] (i+1) with
    | out=>exact A4
    | bad t e=>
     rw [r0] at h0;obtain ⟨i',o',h0⟩:=h0;refine AV ⟨i',o',AF hR fun bx Ad hc=>?_⟩;have q0:=Ab Ad hc hR (Ai (id:=id) (o:=o) hR hi hT _ f0);have q1:=Ab Ad hc hR (Ai (id:=id) (o:=o) hR hi hT _ f1);have q2:=Ab Ad hc hR (Az (id:=id) (o:=o) hR hi hT _ f2);have t0:=At Ad hc hR h0;rw [AM rfl];unfold Av;rw [<- Am];rw [<- AK] at q0 q1 q2 t0;simp only [Aa,Ac,yY,yW];simp only [S9,Ag,seval,PY,PZ,Aw,q0,q1,q2,t0,Ad];exact ⟨_,rfl⟩
    | ok a0 i0=>
     rw [r0] at h0;dsimp only [AA];have j0:=A6 hT B8 (by decide) r0;have pW:=j0.2;have h1:=H4 (id:=id) (o:=o) (i:=i0) hR pW hT;cases r1:CI L i0 with
     | out=>exact A4
     | bad t e=>
      rw [r1] at h1;obtain ⟨i',o',h1⟩:=h1;refine AV ⟨i',o',AF hR fun bx Ad hc=>?_⟩;have q0:=Ab Ad hc hR (Ai (id:=id) (o:=o) hR hi hT _ f0);have q1:=Ab Ad hc hR (Ai (id:=id) (o:=o) hR hi hT _ f1);have q2:=Ab Ad hc hR (Az (id:=id) (o:=o) hR hi hT _ f2);have t0:=Ab Ad hc hR h0;have t1:=At Ad hc hR h1;rw [AM rfl];unfold Av;rw [<- Am];rw [<- AK] at q0 q1 q2 t0 t1;simp only [Aa,Ac,yY,yW];simp only [S9,Ag,seval,PY,PZ,Aw,q0,q1,q2,t0,t1,Ad];exact ⟨_,rfl⟩
     | ok a1 i1=>
      rw [r1] at h1;dsimp only [AA];have j1:=Dt hT pW r1;have Uc:=j1.2;refine BB (Bl hR (fun n=>by rw [An];simp only [SX,PV.under]) fun bx Ad hc=>?_);have q0:=Ab Ad hc hR (Ai (id:=id) (o:=o) hR hi hT _ f0);have q1:=Ab Ad hc hR (Ai (id:=id) (o:=o) hR hi hT _ f1);have q2:=Ab Ad hc hR (Az (id:=id) (o:=o) hR hi hT _ f2);have t0:=Ab Ad hc hR h0;have t1:=Ab Ad hc hR h1;rw [J5];rw [AM rfl];unfold Av zK zV;rw [<- Am];rw [<- AK] at q0 q1 q2 t0 t1;simp only [Aa,Ac,yY,yW];simp only [S9,Ag,seval,PY,PZ,Aw,q0,q1,q2,t0,t1,gN,Ad];exact ⟨_,rfl⟩
   | false=>
    simp only [yX,if_false];cases f3:B2 L 1 [116,105,109,101] i with
    | true=>
     simp only [if_true];have B8:=AG hT hi f3 (by decide);have h0:=PN (id:=id) (o:=o) (i:=(i+1)) hR B8 hT;cases r0:GG L (i+1) with
     | out=>exact A4
     | bad t e=>
      rw [r0] at h0;obtain ⟨i',o',h0⟩:=h0;refine AV ⟨i',o',AF hR fun bx Ad hc=>?_⟩;have q0:=Ab Ad hc hR (Ai (id:=id) (o:=o) hR hi hT _ f0);have q1:=Ab Ad hc hR (Ai (id:=id) (o:=o) hR hi hT _ f1);have q2:=Ab Ad hc hR (Ai (id:=id) (o:=o) hR hi hT _ f2);have q3:=Ab Ad hc hR (Az (id:=id) (o:=o) hR hi hT _ f3);have t0:=At Ad hc hR h0;rw [AM rfl];unfold Av;rw [<- Am];rw [<- AK] at q0 q1 q2 q3 t0;simp only [Aa,Ac,yY,yW];simp only [S9,Ag,seval,PY,PZ,Aw,q0,q1,q2,q3,t0,Hy,Ad];exact ⟨_,rfl⟩
     | ok a0 i0=>
      rw [r0] at h0;dsimp only [AA];have j0:=GH hT B8 r0;have pW:=j0.2.1;have h1:=CE (id:=id) (o:=o) (i:=i0) hR pW hT 1 1 rfl [116,111];cases r1:BM L 1 [116,111] i0 with
      | out=>exact A4
      | bad t e=>
       rw [r1] at h1;obtain ⟨i',o',h1⟩:=h1;refine AV ⟨i',o',AF hR fun bx Ad hc=>?_⟩;have q0:=Ab Ad hc hR (Ai (id:=id) (o:=o) hR hi hT _ f0);have q1:=Ab Ad hc hR (Ai (id:=id) (o:=o) hR hi hT _ f1);have q2:=Ab Ad hc hR (Ai (id:=id) (o:=o) hR hi hT _ f2);have q3:=Ab Ad hc hR (Az (id:=id) (o:=o) hR hi hT _ f3);have t0:=Ab Ad hc hR h0;have t1:=At Ad hc hR h1;rw [AM rfl];unfold Av;rw [<- Am];rw [<- AK] at q0 q1 q2 q3 t0 t1;simp only [Aa,Ac,yY,yW];simp only [S9,Ag,seval,PY,PZ,Aw,q0,q1,q2,q3,t0,t1,Hy,Ad];exact ⟨_,rfl⟩
      | ok a1 i1=>
       rw [r1] at h1;dsimp only [AA];have j1:=A6 hT pW (by decide) r1;have Uc:=j1.2;have h2:=PN (id:=id) (o:=o) (i:=i1) hR Uc hT;cases r2:GG L i1 with
       | out=>exact A4
       | bad t e=>
        rw [r2] at h2;obtain ⟨i',o',h2⟩:=h2;refine AV ⟨i',o',AF hR fun bx Ad hc=>?_⟩;have q0:=Ab Ad hc hR (Ai (id:=id) (o:=o) hR hi hT _ f0);have q1:=Ab Ad hc hR (Ai (id:=id) (o:=o) hR hi hT _ f1);have q2:=Ab Ad hc hR (Ai (id:=id) (o:=o) hR hi hT _ f2);have q3:=Ab Ad hc hR (Az (id:=id) (o:=o) hR hi hT _ f3);have t0:=Ab Ad hc hR h0;have t1:=Ab Ad hc hR h1;have t2:=At Ad hc hR h2;rw [AM rfl];unfold Av;rw [<- Am];rw [<- AK] at q0 q1 q2 q3 t0 t1 t2;simp only [Aa,Ac,yY,yW];simp only [S9,Ag,seval,PY,PZ,Aw,q0,q1,q2,q3,t0,t1,t2,Hy,Ad];exact ⟨_,rfl⟩
       | ok a2 i2=>
        rw [r2] at h2;dsimp only [AA];have j2:=GH hT Uc r2;have oW:=j2.2.1;refine BB (Bl hR (fun n=>by rw [An];simp only [SX,PV.under]) fun bx Ad hc=>?_);have q0:=Ab Ad hc hR (Ai (id:=id) (o:=o) hR hi hT _ f0);have q1:=Ab Ad hc hR (Ai (id:=id) (o:=o) hR hi hT _ f1);have q2:=Ab Ad hc hR (Ai (id:=id) (o:=o) hR hi hT _ f2);have q3:=Ab Ad hc hR (Az (id:=id) (o:=o) hR hi hT _ f3);have t0:=Ab Ad hc hR h0;have t1:=Ab Ad hc hR h1;have t2:=Ab Ad hc hR h2;rw [J5];rw [AM rfl];unfold Av zK zV;rw [<- Am];rw [<- AK] at q0 q1 q2 q3 t0 t1 t2;simp only [Aa,Ac,yY,yW];simp only [S9,Ag,seval,PY,PZ,Aw,q0,q1,q2,q3,t0,t1,t2,Hy,Ad];exact ⟨_,rfl⟩
    | false=>
     simp only [yX,if_false];cases f4:B2 L 1 [100,97,121,115] i with
     | true=>
      simp only [if_true];have B8:=AG hT hi f4 (by decide);have h0:=ZZ (id:=id) (o:=o) (i:=(i+1)) hR B8 hT;cases r0:KA L (i+1) with
      | out=>exact A4
      | bad t e=>
       rw [r0] at h0;obtain ⟨i',o',h0⟩:=h0;refine AV ⟨i',o',AF hR fun bx Ad hc=>?_⟩;have q0:=Ab Ad hc hR (Ai (id:=id) (o:=o) hR hi hT _ f0);have q1:=Ab Ad hc hR (Ai (id:=id) (o:=o) hR hi hT _ f1);have q2:=Ab Ad hc hR (Ai (id:=id) (o:=o) hR hi hT _ f2);have q3:=Ab Ad hc hR (Ai (id:=id) (o:=o) hR hi hT _ f3);have q4:=Ab Ad hc hR (Az (id:=id) (o:=o) hR hi hT _ f4);have t0:=At Ad hc hR h0;rw [AM rfl];unfold Av;rw [<- Am];rw [<- AK] at q0 q1 q2 q3 q4 t0;simp only [Aa,Ac,yY,yW];simp only [S9,Ag,seval,PY,PZ,Aw,q0,q1,q2,q3,q4,t0,Hy,Ad];exact ⟨_,rfl⟩
      | ok a0 i0=>
       rw [r0] at h0;dsimp only [AA];have j0:=OF hT B8 r0;have pW:=j0.2.1;refine BB (Bl hR (fun n=>by rw [An];simp only [SX,PV.under]) fun bx Ad hc=>?_);have q0:=Ab Ad hc hR (Ai (id:=id) (o:=o) hR hi hT _ f0);have q1:=Ab Ad hc hR (Ai (id:=id) (o:=o) hR hi hT _ f1);have q2:=Ab Ad hc hR (Ai (id:=id) (o:=o) hR hi hT _ f2);have q3:=Ab Ad hc hR (Ai (id:=id) (o:=o) hR hi hT _ f3);have q4:=Ab Ad hc hR (Az (id:=id) (o:=o) hR hi hT _ f4);have t0:=Ab Ad hc hR h0;rw [J5];rw [AM rfl];unfold Av zK zV;rw [<- Am];rw [<- AK] at q0 q1 q2 q3 q4 t0;simp only [Aa,Ac,yY,yW];simp only [S9,Ag,seval,PY,PZ,Aw,q0,q1,q2,q3,q4,t0,Hy,Ad];exact ⟨_,rfl⟩
     | false=>
      simp only [yX,if_false];cases f5:B2 L 1 [104,111,109,101] i with
      | true=>
       simp only [if_true];have B8:=AG hT hi f5 (by decide);have Af:=fun bx Ad hc e=>gO _ rfl (id:=id) (i:=i+1) (o:=o) (RL:=RL) hR B8 hT bx Ad hc 4 0 e rfl;rw [show Bw.drop 0=Bw from rfl] at Af;cases hp:Em L 1 (i+1) Bw 0 with
       | some k=>
        rw [hp] at Af;refine BB (Bl hR (fun n=>by rw [An];simp only [SX,PV.under]) fun bx Ad hc=>?_);have Af:=Af bx Ad hc;have q0:=Ab Ad hc hR (Ai (id:=id) (o:=o) hR hi hT _ f0);have q1:=Ab Ad hc hR (Ai (id:=id) (o:=o) hR hi hT _ f1);have q2:=Ab Ad hc hR (Ai (id:=id) (o:=o) hR hi hT _ f2);have q3:=Ab Ad hc hR (Ai (id:=id) (o:=o) hR hi hT _ f3);have q4:=Ab Ad hc hR (Ai (id:=id) (o:=o) hR hi hT _ f4);have q5:=Ab Ad hc hR (Az (id:=id) (o:=o) hR hi hT _ f5);rw [J5];rw [AM rfl];simp only [Aa,Ac,yY,yW] at Af |-;unfold Av zK zV at *;rw [<- Am];rw [<- Am] at Af;rw [<- AK] at q0 q1 q2 q3 q4 q5;simp only [S9,Ag,seval,PY,PZ,Aw,q0,q1,q2,q3,q4,q5,pC,Ad];generalize hE:GZ _ _=z
        have hP:Z0 L RL bx id (i+1) o (some k) z:=by
         rw [<- hE];refine Af _ ?_ ?_ ?_ ?_
         · simp only [S7,Ag,seval]
         · simp only [S7,Ag,seval]
         · simp only [S7,Ag,seval]
         · simp only [S7,Ag,seval] <;> rfl
        obtain ⟨e',he,h2⟩:=hP;subst he;clear hE Af;unfold Av;simp only [S9,Ag,seval,PY,PZ,Aw,h2,Ad];exact ⟨_,rfl⟩
       | none=>
        rw [hp] at Af;refine BB (Bl hR (fun n=>by rw [An];simp only [SX,PV.under]) fun bx Ad hc=>?_);have Af:=Af bx Ad hc;have q0:=Ab Ad hc hR (Ai (id:=id) (o:=o) hR hi hT _ f0);have q1:=Ab Ad hc hR (Ai (id:=id) (o:=o) hR hi hT _ f1);have q2:=Ab Ad hc hR (Ai (id:=id) (o:=o) hR hi hT _ f2);have q3:=Ab Ad hc hR (Ai (id:=id) (o:=o) hR hi hT _ f3);have q4:=Ab Ad hc hR (Ai (id:=id) (o:=o) hR hi hT _ f4);have q5:=Ab Ad hc hR (Az (id:=id) (o:=o) hR hi hT _ f5);rw [J5];rw [AM rfl];simp only [Aa,Ac,yY,yW] at Af |-;unfold Av zK zV at *;rw [<- Am];rw [<- Am] at Af;rw [<- AK] at q0 q1 q2 q3 q4 q5;simp only [S9,Ag,seval,PY,PZ,Aw,q0,q1,q2,q3,q4,q5,pC,Ad];generalize hE:GZ _ _=z
        have hP:Z0 L RL bx id (i+1) o (none) z:=by
         rw [<- hE];refine Af _ ?_ ?_ ?_ ?_
         · simp only [S7,Ag,seval]
         · simp only [S7,Ag,seval]
         · simp only [S7,Ag,seval]
         · simp only [S7,Ag,seval] <;> rfl
        obtain ⟨e',he,h0,h2⟩:=hP;subst he;clear hE Af;unfold Av;have hb:=eG 15;simp only [S9,Ag,seval,PY,PZ,Aw,h0,h2,hb,Ad];exact ⟨_,rfl⟩
      | false=>
       simp only [yX,if_false];refine AV ⟨i,o,AF hR fun bx Ad hc=>?_⟩;have q0:=Ab Ad hc hR (Ai (id:=id) (o:=o) hR hi hT _ f0);have q1:=Ab Ad hc hR (Ai (id:=id) (o:=o) hR hi hT _ f1);have q2:=Ab Ad hc hR (Ai (id:=id) (o:=o) hR hi hT _ f2);have q3:=Ab Ad hc hR (Ai (id:=id) (o:=o) hR hi hT _ f3);have q4:=Ab Ad hc hR (Ai (id:=id) (o:=o) hR hi hT _ f4);have q5:=Ab Ad hc hR (Ai (id:=id) (o:=o) hR hi hT _ f5);have t2:=Ab Ad hc hR (AJ (id:=id) (o:=o) hR hi);have t3:=At Ad hc hR (Dk (id:=id) (i:=i) (o:=o) (L:=L) hR (tokAt L i).1 (tokAt L i).2.1 (tokAt L i).2.2 12);rw [AM rfl];unfold Av atT;rw [<- Am];rw [<- AK] at q0 q1 q2 q3 q4 q5 t2 t3;simp only [Aa,Ac,yY,yW];simp only [S9,Ag,seval,PY,PZ,Aw,q0,q1,q2,q3,q4,q5,t2,t3,Ad];exact ⟨_,rfl⟩
theorem kx {id:Nat} {L:List Tk} {RL:PV} (hR:RL.pure=true) (hT:TokOK L) (n:Nat) (hx:Gq 52 .expr id L RL n):Gq 140 .prim id L RL (n+1):=by
 intro i o hi ho;rw [pz];have hw:y5 .i64 ((i:Int)+1)=((i+1:Nat):Int):=by rw [wrap_i64 ⟨by omega,by have:=hT.len;omega⟩];omega
 have k2:=I0 (tokAt L i).1 2;have k3:=I0 (tokAt L i).1 3;cases hp:D0 L i with
 | true=>
  simp only [if_true];have hk:(tokAt L i).1=2:=by unfold D0 at hp;simp only [za,beq_iff_eq] at hp;exact hp.1
  have fG:=Hl (tokAt L i) (hT.word i) (hT.num i hk).1 (hT.num i hk).2;have hl:=cL 2 ((amtN (tokAt L i).2.1 0:Nat):Int);unfold ID at fG;refine BB (Bl hR (fun n=>by rw [An];simp only [SX,PV.under]) fun bx Ad hc=>?_);have t0:=Ab Ad hc hR (AJ (id:=id) (o:=o) hR hi);have tp:=Ab Ad hc hR (CO (id:=id) (o:=o) hR hi hT);rw [hp] at tp;rw [An];rw [A8 rfl];unfold Av;rw [<- Am];rw [<- AK] at t0 tp fG hl;simp only [Aa,Ac,y0,yW];simp only [S9,Ag,seval,PY,PZ,Aw,t0,tp,fG,hl,hw,SX,Ad];exact ⟨_,rfl⟩
 | false=>
  simp only [yX,if_false];by_cases hk:(tokAt L i).1=2
  · rw [if_pos hk]
    rw [beq_iff_eq.2 hk] at k2;have k2:(((tokAt L i).1:Int) == 2)=true:=k2;have h1:=XF (id:=id) (o:=o) (i:=i) hR hi hT;cases r1:Fv L i with
    | out=>exact A4
    | bad t e=>
     rw [r1] at h1;obtain ⟨i',o',h1⟩:=h1;refine AV ⟨i',o',AF hR fun bx Ad hc=>?_⟩;have t0:=Ab Ad hc hR (AJ (id:=id) (o:=o) hR hi);have tp:=Ab Ad hc hR (CO (id:=id) (o:=o) hR hi hT);rw [hp] at tp;have t1:=At Ad hc hR h1;rw [A8 rfl];unfold Av;rw [<- Am];rw [<- AK] at t0 tp t1;simp only [Aa,Ac,y0,yW];simp only [S9,Ag,seval,PY,PZ,Aw,t0,tp,t1,k2,Ad];exact ⟨_,rfl⟩
    | ok k j=>
     rw [r1] at h1;dsimp only [AA];refine BB (Bl hR (fun n=>by rw [An];simp only [SX,PV.under]) fun bx Ad hc=>?_);have t0:=Ab Ad hc hR (AJ (id:=id) (o:=o) hR hi);have tp:=Ab Ad hc hR (CO (id:=id) (o:=o) hR hi hT);rw [hp] at tp;have t1:=Ab Ad hc hR h1;unfold qE at t1;rw [J5];rw [A8 rfl];unfold Av zV;rw [<- Am];rw [<- AK] at t0 tp t1;simp only [Aa,Ac,y0,yW];simp only [S9,Ag,seval,PY,PZ,Aw,t0,tp,t1,k2,Wq,Ad];exact ⟨_,rfl⟩
  · rw [if_neg hk]
    rw [beq_eq_false_iff_ne.2 hk] at k2;have k2:(((tokAt L i).1:Int) == 2)=false:=k2;by_cases iJ:(tokAt L i).1=3
    · rw [if_pos iJ]
      rw [beq_iff_eq.2 iJ] at k3;have k3:(((tokAt L i).1:Int) == 3)=true:=k3;refine BB (Bl hR (fun n=>by rw [An];simp only [SX,PV.under]) fun bx Ad hc=>?_);have t0:=Ab Ad hc hR (AJ (id:=id) (o:=o) hR hi);have tp:=Ab Ad hc hR (CO (id:=id) (o:=o) hR hi hT);rw [hp] at tp;rw [J5];rw [A8 rfl];unfold Av zK;rw [<- Am];rw [<- AK] at t0 tp;simp only [Aa,Ac,y0,yW];simp only [S9,Ag,seval,PY,PZ,Aw,t0,tp,k2,k3,hw,eH,Wr,Ad];exact ⟨_,rfl⟩
    · rw [if_neg iJ]
      rw [beq_eq_false_iff_ne.2 iJ] at k3;have k3:(((tokAt L i).1:Int) == 3)=false:=k3;cases f0:B2 L 4 [35] i with
      | true=>
       simp only [if_true];have B8:=AG hT hi f0 (by decide);have h1:=H5 (id:=id) (o:=o) (i:=i+1) hR B8 hT 0 63 0 63 rfl rfl;cases r1:Hj L 0 63 (i+1) with
       | out=>exact A4
       | bad t e=>
        rw [r1] at h1;obtain ⟨i',o',h1⟩:=h1;refine AV ⟨i',o',AF hR fun bx Ad hc=>?_⟩;have t0:=Ab Ad hc hR (AJ (id:=id) (o:=o) hR hi);have tp:=Ab Ad hc hR (CO (id:=id) (o:=o) hR hi hT);rw [hp] at tp;have q0:=Ab Ad hc hR (Bt (id:=id) (o:=o) hR hi hT _ f0);have t1:=At Ad hc hR h1;rw [A8 rfl];unfold Av;rw [<- Am];rw [<- AK] at t0 tp q0 t1;simp only [Aa,Ac,y0,yW];simp only [S9,Ag,seval,PY,PZ,Aw,t0,tp,k2,k3,q0,t1,Ad];exact ⟨_,rfl⟩
       | ok m j=>
        rw [r1] at h1;dsimp only [AA];have hl:=cL 3 (m:Int);refine BB (Bl hR (fun n=>by rw [An];simp only [SX,PV.under]) fun bx Ad hc=>?_);have t0:=Ab Ad hc hR (AJ (id:=id) (o:=o) hR hi);have tp:=Ab Ad hc hR (CO (id:=id) (o:=o) hR hi hT);rw [hp] at tp;have q0:=Ab Ad hc hR (Bt (id:=id) (o:=o) hR hi hT _ f0);have t1:=Ab Ad hc hR h1;rw [An];rw [A8 rfl];unfold Av;rw [<- Am];rw [<- AK] at t0 tp q0 t1 hl;simp only [Aa,Ac,y0,yW];simp only [S9,Ag,seval,PY,PZ,Aw,t0,tp,k2,k3,q0,t1,hl,SX,Ad];exact ⟨_,rfl⟩
      | false=>
       simp only [yX,if_false];cases f1:B2 L 4 [40] i with
       | true=>
        simp only [if_true];have B8:=AG hT hi f1 (by decide);by_cases Bq:o < 100
        · rw [if_pos Bq]
          have sr:y5 .i64 (((o+1:Nat):Int) - 1)=((o:Nat):Int):=by rw [wrap_i64 ⟨by omega,by omega⟩];omega
          have h1:=hx (i+1) (o+1) B8 (by omega);cases r1:pz L n .expr (o+1) (i+1) with
          | out=>exact A4
          | bad t e=>
           rw [r1] at h1;obtain ⟨i',o',h1⟩:=h1;refine AV ⟨i',o',AF hR fun bx Ad hc=>?_⟩;have t0:=Ab Ad hc hR (AJ (id:=id) (o:=o) hR hi);have tp:=Ab Ad hc hR (CO (id:=id) (o:=o) hR hi hT);rw [hp] at tp;have q0:=Ab Ad hc hR (A3 (id:=id) (o:=o) hR hi hT _ f0);have q1:=Ab Ad hc hR (Bt (id:=id) (o:=o) hR hi hT _ f1);have te:=Ab Ad hc hR (DG (id:=id) (L:=L) (i:=i+1) hR Bq (tokAt L i).1 (tokAt L i).2.1 (tokAt L i).2.2);have t1:=At Ad hc hR h1;rw [A8 rfl];unfold Av;rw [<- Am];rw [<- AK] at t0 tp q0 q1 te t1;simp only [Aa,Ac,y0,yW];simp only [S9,Ag,seval,PY,PZ,Aw,t0,tp,k2,k3,q0,q1,te,t1,Ad];exact ⟨_,rfl⟩
          | ok a j=>
           rw [r1] at h1;dsimp only [AA];have hj:=(Hq hT _ _ _ _ _ _ B8 r1).2;have h2:=CE (id:=id) (o:=o+1) (i:=j) hR hj hT 4 4 rfl [41];cases r2:BM L 4 [41] j with
           | out=>exact A4
           | bad t e=>
            rw [r2] at h2;obtain ⟨i',o',h2⟩:=h2;refine AV ⟨i',o',AF hR fun bx Ad hc=>?_⟩;have t0:=Ab Ad hc hR (AJ (id:=id) (o:=o) hR hi);have tp:=Ab Ad hc hR (CO (id:=id) (o:=o) hR hi hT);rw [hp] at tp;have q0:=Ab Ad hc hR (A3 (id:=id) (o:=o) hR hi hT _ f0);have q1:=Ab Ad hc hR (Bt (id:=id) (o:=o) hR hi hT _ f1);have te:=Ab Ad hc hR (DG (id:=id) (L:=L) (i:=i+1) hR Bq (tokAt L i).1 (tokAt L i).2.1 (tokAt L i).2.2);have t1:=Ab Ad hc hR h1;rw [An] at t1;have t2:=At Ad hc hR h2;rw [A8 rfl];unfold Av;rw [<- Am];rw [<- AK] at t0 tp q0 q1 te t1 t2;simp only [Aa,Ac,y0,yW];simp only [S9,Ag,seval,PY,PZ,Aw,t0,tp,k2,k3,q0,q1,te,t1,t2,SX,Ad];exact ⟨_,rfl⟩
           | ok u j2=>
            rw [r2] at h2;dsimp only [AA];refine BB (Bl hR (fun n=>by rw [An];simp only [SX,PV.under]) fun bx Ad hc=>?_);have t0:=Ab Ad hc hR (AJ (id:=id) (o:=o) hR hi);have tp:=Ab Ad hc hR (CO (id:=id) (o:=o) hR hi hT);rw [hp] at tp;have q0:=Ab Ad hc hR (A3 (id:=id) (o:=o) hR hi hT _ f0);have q1:=Ab Ad hc hR (Bt (id:=id) (o:=o) hR hi hT _ f1);have te:=Ab Ad hc hR (DG (id:=id) (L:=L) (i:=i+1) hR Bq (tokAt L i).1 (tokAt L i).2.1 (tokAt L i).2.2);have t1:=Ab Ad hc hR h1;rw [An] at t1;have t2:=Ab Ad hc hR h2;rw [An];rw [A8 rfl];unfold Av;rw [<- Am];rw [<- AK] at t0 tp q0 q1 te t1 t2;simp only [Aa,Ac,y0,yW];simp only [S9,Ag,seval,PY,PZ,Aw,t0,tp,k2,k3,q0,q1,te,t1,t2,sr,SX,Ad];exact ⟨_,rfl⟩
        · rw [if_neg Bq]
          have ss:o=100:=by omega
          refine AV ⟨i+1,o+1,AF hR fun bx Ad hc=>?_⟩;have t0:=Ab Ad hc hR (AJ (id:=id) (o:=o) hR hi);have tp:=Ab Ad hc hR (CO (id:=id) (o:=o) hR hi hT);rw [hp] at tp;have q0:=Ab Ad hc hR (A3 (id:=id) (o:=o) hR hi hT _ f0);have q1:=Ab Ad hc hR (Bt (id:=id) (o:=o) hR hi hT _ f1);have te:=At Ad hc hR (J2 (id:=id) (L:=L) (i:=i+1) hR ss (tokAt L i).1 (tokAt L i).2.1 (tokAt L i).2.2);rw [A8 rfl];unfold Av atT;rw [<- Am];rw [<- AK] at t0 tp q0 q1 te;simp only [Aa,Ac,y0,yW];simp only [S9,Ag,seval,PY,PZ,Aw,t0,tp,k2,k3,q0,q1,te,Ad];exact ⟨_,rfl⟩
       | false=>
        simp only [yX,if_false];have h1:=kv (id:=id) (o:=o) (i:=i) hR hi hT;cases r1:IF L i with
        | out=>exact A4
        | bad t e=>
         rw [r1] at h1;obtain ⟨i',o',h1⟩:=h1;refine AV ⟨i',o',AF hR fun bx Ad hc=>?_⟩;have t0:=Ab Ad hc hR (AJ (id:=id) (o:=o) hR hi);have tp:=Ab Ad hc hR (CO (id:=id) (o:=o) hR hi hT);rw [hp] at tp;have q0:=Ab Ad hc hR (A3 (id:=id) (o:=o) hR hi hT _ f0);have q1:=Ab Ad hc hR (A3 (id:=id) (o:=o) hR hi hT _ f1);have t1:=At Ad hc hR h1;rw [A8 rfl];unfold Av;rw [<- Am];rw [<- AK] at t0 tp q0 q1 t1;simp only [Aa,Ac,y0,yW];simp only [S9,Ag,seval,PY,PZ,Aw,t0,tp,k2,k3,q0,q1,t1,Ad];exact ⟨_,rfl⟩
        | ok a j=>
         rw [r1] at h1;refine BB (Bl hR (fun n=>by rw [An];simp only [SX,PV.under]) fun bx Ad hc=>?_);have t0:=Ab Ad hc hR (AJ (id:=id) (o:=o) hR hi);have tp:=Ab Ad hc hR (CO (id:=id) (o:=o) hR hi hT);rw [hp] at tp;have q0:=Ab Ad hc hR (A3 (id:=id) (o:=o) hR hi hT _ f0);have q1:=Ab Ad hc hR (A3 (id:=id) (o:=o) hR hi hT _ f1);have t1:=Ab Ad hc hR h1;rw [An] at t1;rw [An];rw [A8 rfl];unfold Av;rw [<- Am];rw [<- AK] at t0 tp q0 q1 t1;simp only [Aa,Ac,y0,yW];simp only [S9,Ag,seval,PY,PZ,Aw,t0,tp,k2,k3,q0,q1,t1,SX,Ad];exact ⟨_,rfl⟩
theorem qG {id:Nat} {L:List Tk} {RL:PV} (hR:RL.pure=true) (hT:TokOK L) (n:Nat) (hp:Gq 140 .prim id L RL n) (hx:Gq 134 .un id L RL n):Gq 134 .un id L RL (n+1):=by
 intro i o hi ho;rw [pz];cases f0:B2 L 4 [45] i with
 | false=>
  simp only [yX,if_false];have h1:=hp i o hi ho;cases r1:pz L n .prim o i with
  | out=>exact A4
  | bad t e=>
   rw [r1] at h1;obtain ⟨i',o',h1⟩:=h1;refine AV ⟨i',o',AF hR fun bx Ad hc=>?_⟩;have t0:=Ab Ad hc hR (AJ (id:=id) (o:=o) hR hi);have q0:=Ab Ad hc hR (A3 (id:=id) (o:=o) hR hi hT _ f0);have t1:=At Ad hc hR h1;rw [Ca rfl];unfold Av;rw [<- Am];rw [<- AK] at t0 q0 t1;simp only [Aa,Ac,y3,yW];simp only [S9,Ag,seval,PY,PZ,Aw,t0,q0,t1,Ad];exact ⟨_,rfl⟩
  | ok a j=>
   rw [r1] at h1;refine BB (Bl hR (fun n=>by rw [An];simp only [SX,PV.under]) fun bx Ad hc=>?_);have t0:=Ab Ad hc hR (AJ (id:=id) (o:=o) hR hi);have q0:=Ab Ad hc hR (A3 (id:=id) (o:=o) hR hi hT _ f0);have t1:=Ab Ad hc hR h1;rw [An] at t1;rw [An];rw [Ca rfl];unfold Av;rw [<- Am];rw [<- AK] at t0 q0 t1;simp only [Aa,Ac,y3,yW];simp only [S9,Ag,seval,PY,PZ,Aw,t0,q0,t1,SX,Ad];exact ⟨_,rfl⟩
 | true=>
  simp only [if_true];have B8:=AG hT hi f0 (by decide);cases hq:D0 L (i+1) with
  | true=>
   simp only [if_true];have hk:(tokAt L (i+1)).1=2:=by unfold D0 at hq;simp only [za,beq_iff_eq] at hq;exact hq.1
   have fG:=Hl (tokAt L (i+1)) (hT.word (i+1)) (hT.num (i+1) hk).1 (hT.num (i+1) hk).2;have Yu:=(hT.num (i+1) hk).2;have hl:=cL 2 (-((amtN (tokAt L (i+1)).2.1 0:Nat):Int));have iI:y5 .i64 (0 - ((amtN (tokAt L (i+1)).2.1 0:Nat):Int))=-((amtN (tokAt L (i+1)).2.1 0:Nat):Int):=by rw [wrap_i64 ⟨by omega,by omega⟩];omega
   have h1:=Mb (id:=id) (o:=o) (i:=i+1) hR B8 hT 2 2 rfl;unfold IY at h1;rw [if_pos hk] at h1;unfold ID at fG;refine BB (Bl hR (fun n=>by rw [An];simp only [SX,PV.under]) fun bx Ad hc=>?_);have t0:=Ab Ad hc hR (AJ (id:=id) (o:=o) hR hi);have q0:=Ab Ad hc hR (Bt (id:=id) (o:=o) hR hi hT _ f0);have tp:=Ab Ad hc hR (CO (id:=id) (i:=i+1) (o:=o) hR B8 hT);rw [hq] at tp;have t1:=Ab Ad hc hR h1;rw [An];rw [Ca rfl];unfold Av;rw [<- Am];rw [<- AK] at t0 q0 tp t1 fG hl;simp only [Aa,Ac,y3,yW];simp only [S9,Ag,seval,PY,PZ,Aw,t0,q0,tp,t1,fG,hl,iI,SX,Ad];exact ⟨_,rfl⟩
  | false=>
   simp only [yX,if_false];by_cases Bq:o < 100
   · rw [if_pos Bq]
     have sr:y5 .i64 (((o+1:Nat):Int) - 1)=((o:Nat):Int):=by rw [wrap_i64 ⟨by omega,by omega⟩];omega
     have h1:=hx (i+1) (o+1) B8 (by omega);cases r1:pz L n .un (o+1) (i+1) with
     | out=>exact A4
     | bad t e=>
      rw [r1] at h1;obtain ⟨i',o',h1⟩:=h1;refine AV ⟨i',o',AF hR fun bx Ad hc=>?_⟩;have t0:=Ab Ad hc hR (AJ (id:=id) (o:=o) hR hi);have q0:=Ab Ad hc hR (Bt (id:=id) (o:=o) hR hi hT _ f0);have tp:=Ab Ad hc hR (CO (id:=id) (i:=i+1) (o:=o) hR B8 hT);rw [hq] at tp;have te:=Ab Ad hc hR (DG (id:=id) (L:=L) (i:=i+1) hR Bq (tokAt L i).1 (tokAt L i).2.1 (tokAt L i).2.2);have t1:=At Ad hc hR h1;rw [Ca rfl];unfold Av;rw [<- Am];rw [<- AK] at t0 q0 tp te t1;simp only [Aa,Ac,y3,yW];simp only [S9,Ag,seval,PY,PZ,Aw,t0,q0,tp,te,t1,Ad];exact ⟨_,rfl⟩
     | ok a j=>
      rw [r1] at h1;dsimp only [AA];have hl:=cL 2 0;have hb:=Rk (Da 2 0) a;have hn:=Vu 12 (Da 2 0) a;refine BB (Bl hR (fun n=>by rw [An];simp only [SX,PV.under]) fun bx Ad hc=>?_);have t0:=Ab Ad hc hR (AJ (id:=id) (o:=o) hR hi);have q0:=Ab Ad hc hR (Bt (id:=id) (o:=o) hR hi hT _ f0);have tp:=Ab Ad hc hR (CO (id:=id) (i:=i+1) (o:=o) hR B8 hT);rw [hq] at tp;have te:=Ab Ad hc hR (DG (id:=id) (L:=L) (i:=i+1) hR Bq (tokAt L i).1 (tokAt L i).2.1 (tokAt L i).2.2);have t1:=Ab Ad hc hR h1;rw [An] at t1;rw [An];rw [Ca rfl];unfold Av;rw [<- Am];rw [<- AK] at t0 q0 tp te t1 hl hn;simp only [Aa,Ac,y3,yW];simp only [S9,Ag,seval,PY,PZ,Aw,t0,q0,tp,te,t1,hl,hb,hn,sr,SX,Ad];exact ⟨_,rfl⟩
   · rw [if_neg Bq]
     have ss:o=100:=by omega
     refine AV ⟨i+1,o+1,AF hR fun bx Ad hc=>?_⟩;have t0:=Ab Ad hc hR (AJ (id:=id) (o:=o) hR hi);have q0:=Ab Ad hc hR (Bt (id:=id) (o:=o) hR hi hT _ f0);have tp:=Ab Ad hc hR (CO (id:=id) (i:=i+1) (o:=o) hR B8 hT);rw [hq] at tp;have te:=At Ad hc hR (J2 (id:=id) (L:=L) (i:=i+1) hR ss (tokAt L i).1 (tokAt L i).2.1 (tokAt L i).2.2);rw [Ca rfl];unfold Av atT;rw [<- Am];rw [<- AK] at t0 q0 tp te;simp only [Aa,Ac,y3,yW];simp only [S9,Ag,seval,PY,PZ,Aw,t0,q0,tp,te,Ad];exact ⟨_,rfl⟩
theorem nS {id:Nat} {L:List Tk} {RL:PV} (hR:RL.pure=true) (hT:TokOK L) (n:Nat) (hp:Gq 107 .cmp id L RL n) (hx:Gq 81 .not id L RL n):Gq 81 .not id L RL (n+1):=by
 intro i o hi ho;rw [pz];cases f0:B2 L 1 [110,111,116] i with
 | false=>
  simp only [yX,if_false];have h1:=hp i o hi ho;cases r1:pz L n .cmp o i with
  | out=>exact A4
  | bad t e=>
   rw [r1] at h1;obtain ⟨i',o',h1⟩:=h1;refine AV ⟨i',o',AF hR fun bx Ad hc=>?_⟩;have t0:=Ab Ad hc hR (AJ (id:=id) (o:=o) hR hi);have q0:=Ab Ad hc hR (Ai (id:=id) (o:=o) hR hi hT _ f0);have t1:=At Ad hc hR h1;rw [CJ rfl];unfold Av;rw [<- Am];rw [<- AK] at t0 q0 t1;simp only [Aa,Ac,y4,yW];simp only [S9,Ag,seval,PY,PZ,Aw,t0,q0,t1,Ad];exact ⟨_,rfl⟩
  | ok a j=>
   rw [r1] at h1;refine BB (Bl hR (fun n=>by rw [An];simp only [SX,PV.under]) fun bx Ad hc=>?_);have t0:=Ab Ad hc hR (AJ (id:=id) (o:=o) hR hi);have q0:=Ab Ad hc hR (Ai (id:=id) (o:=o) hR hi hT _ f0);have t1:=Ab Ad hc hR h1;rw [An] at t1;rw [An];rw [CJ rfl];unfold Av;rw [<- Am];rw [<- AK] at t0 q0 t1;simp only [Aa,Ac,y4,yW];simp only [S9,Ag,seval,PY,PZ,Aw,t0,q0,t1,SX,Ad];exact ⟨_,rfl⟩
 | true=>
  simp only [if_true];have B8:=AG hT hi f0 (by decide);by_cases Bq:o < 100
  · rw [if_pos Bq]
    have sr:y5 .i64 (((o+1:Nat):Int) - 1)=((o:Nat):Int):=by rw [wrap_i64 ⟨by omega,by omega⟩];omega
    have h1:=hx (i+1) (o+1) B8 (by omega);cases r1:pz L n .not (o+1) (i+1) with
    | out=>exact A4
    | bad t e=>
     rw [r1] at h1;obtain ⟨i',o',h1⟩:=h1;refine AV ⟨i',o',AF hR fun bx Ad hc=>?_⟩;have t0:=Ab Ad hc hR (AJ (id:=id) (o:=o) hR hi);have q0:=Ab Ad hc hR (Az (id:=id) (o:=o) hR hi hT _ f0);have te:=Ab Ad hc hR (DG (id:=id) (L:=L) (i:=i+1) hR Bq (tokAt L i).1 (tokAt L i).2.1 (tokAt L i).2.2);have t1:=At Ad hc hR h1;rw [CJ rfl];unfold Av;rw [<- Am];rw [<- AK] at t0 q0 te t1;simp only [Aa,Ac,y4,yW];simp only [S9,Ag,seval,PY,PZ,Aw,t0,q0,te,t1,Ad];exact ⟨_,rfl⟩
    | ok a j=>
     rw [r1] at h1;dsimp only [AA];have hb:=PT a;have hn:=nP 6 a;refine BB (Bl hR (fun n=>by rw [An];simp only [SX,PV.under]) fun bx Ad hc=>?_);have t0:=Ab Ad hc hR (AJ (id:=id) (o:=o) hR hi);have q0:=Ab Ad hc hR (Az (id:=id) (o:=o) hR hi hT _ f0);have te:=Ab Ad hc hR (DG (id:=id) (L:=L) (i:=i+1) hR Bq (tokAt L i).1 (tokAt L i).2.1 (tokAt L i).2.2);have t1:=Ab Ad hc hR h1;rw [An] at t1;rw [An];rw [CJ rfl];unfold Av;rw [<- Am];rw [<- AK] at t0 q0 te t1 hn;simp only [Aa,Ac,y4,yW];simp only [S9,Ag,seval,PY,PZ,Aw,t0,q0,te,t1,hb,hn,sr,SX,Ad];exact ⟨_,rfl⟩
  · rw [if_neg Bq]
    have ss:o=100:=by omega
    refine AV ⟨i+1,o+1,AF hR fun bx Ad hc=>?_⟩;have t0:=Ab Ad hc hR (AJ (id:=id) (o:=o) hR hi);have q0:=Ab Ad hc hR (Az (id:=id) (o:=o) hR hi hT _ f0);have te:=At Ad hc hR (J2 (id:=id) (L:=L) (i:=i+1) hR ss (tokAt L i).1 (tokAt L i).2.1 (tokAt L i).2.2);rw [CJ rfl];unfold Av atT;rw [<- Am];rw [<- AK] at t0 q0 te;simp only [Aa,Ac,y4,yW];simp only [S9,Ag,seval,PY,PZ,Aw,t0,q0,te,Ad];exact ⟨_,rfl⟩
theorem KT:Bk CC y1 (y1.body.getD .skip)=true:=by kernel_rfl
theorem J6:CC.P.funcs[79]?=some y1:=by kernel_rfl
theorem D2 {x:List PV} {b:List PBox} (h:x.length.ble y1.ntmps=true):Ae CC 79 x b=CB CC y1.results.toList (Cp CC (y1.body.getD .skip) ⟨x,b⟩):=Ah (fn:=y1) (c:=y1.body.getD .skip) rfl rfl J6 rfl KT (y2 h)
theorem J7:Bk CC y6 (y6.body.getD .skip)=true:=by kernel_rfl
theorem Jq:CC.P.funcs[80]?=some y6:=by kernel_rfl
theorem Fj {x:List PV} {b:List PBox} (h:x.length.ble y6.ntmps=true):Ae CC 80 x b=CB CC y6.results.toList (Cp CC (y6.body.getD .skip) ⟨x,b⟩):=Ah (fn:=y6) (c:=y6.body.getD .skip) rfl rfl Jq rfl J7 (y2 h)
theorem Lz:Bk CC y7 (y7.body.getD .skip)=true:=by kernel_rfl
theorem KU:CC.P.funcs[52]?=some y7:=by kernel_rfl
theorem Bz {x:List PV} {b:List PBox} (h:x.length.ble y7.ntmps=true):Ae CC 52 x b=CB CC y7.results.toList (Cp CC (y7.body.getD .skip) ⟨x,b⟩):=Ah (fn:=y7) (c:=y7.body.getD .skip) rfl rfl KU rfl Lz (y2 h)
def Ext (id:Nat) (B0 B:List PBox):Prop:=∀ k,k≠id->k < B0.length->B[k]?=B0[k]?
theorem cM {bx:List PBox} {id:Nat} {P:PBox} {ys:List PBox}:Ext id bx (BX bx id P ys):=by
 intro k hk hl;unfold BX;rw [List.getElem?_append_left (by simpa using hl),List.getElem?_set_ne (Ne.symm hk)]
def mv (g:FuncId) (av:List PV) (nt:NT) (id:Nat) (L:List Tk) (RL:PV) (I O:Nat->Nat->Nat->Nat) (B0:List PBox) (n:Nat):Prop:=∀ m,m < n->∀ i o,i < L.length->o<=100->match pz L m nt o i with
 | .ok a j=>∀ B,Ext id B0 B->Nt L i o RL id B->Ak CC (Ae CC) g av B=some (.ret (DH a),B.set id (Av L j o RL))
 | .bad t c=>∀ B,Ext id B0 B->Nt L i o RL id B->Ak CC (Ae CC) g av B=some (.pan (Cr t c),B.set id (Av L (I m i o) (O m i o) RL))
 | .out=>True
theorem nT {f:FuncId} {nt:NT} {id:Nat} {L:List Tk} {RL:PV} {n:Nat} (h:∀ m,m < n->Gq f nt id L RL m):∃ I O:Nat->Nat->Nat->Nat,∀ B0,mv f [.bp id 0] nt id L RL I O B0 n:=by
 have hx:∀ x:Nat×Nat×Nat,∃ y:Nat×Nat,x.1 < n->x.2.1 < L.length->x.2.2<=100->match pz L x.1 nt x.2.2 x.2.1 with
  | .ok a j=>Vq f [] id L RL x.2.1 x.2.2 (DH a) j x.2.2
  | .bad t c=>OC f [] id L RL x.2.1 x.2.2 t c y.1 y.2
  | .out=>True:=by
  intro ⟨m,i,o⟩;by_cases hc:m < n/\i < L.length/\o<=100
  · have:=h m hc.1 i o hc.2.1 hc.2.2
    simp only;cases hr:pz L m nt o i with
    | ok a j=>rw [hr] at this;exact ⟨(0,0),fun _ _ _=>this⟩
    | bad t c=>rw [hr] at this;obtain ⟨i',o',this⟩:=this;exact ⟨(i',o'),fun _ _ _=>this⟩
    | out=>exact ⟨(0,0),fun _ _ _=>trivial⟩
  · exact ⟨(0,0),fun a b c=>absurd ⟨a,b,c⟩ hc⟩
 obtain ⟨J,hJ⟩:=y9 hx;refine ⟨fun m i o=>(J (m,i,o)).1,fun m i o=>(J (m,i,o)).2,fun B0 m hm i o hi ho=>?_⟩;have:=hJ (m,i,o) hm hi ho;simp only at this;cases hr:pz L m nt o i with
 | ok a j=>rw [hr] at this;exact fun B _ hB=>this B hB
 | bad t c=>rw [hr] at this;exact fun B _ hB=>this B hB
 | out=>trivial
def Pf (b:Bool):Int:=if b then 8 else 7
section
variable {bx:List PBox} {id:Nat} {L:List Tk} {i o:Nat} {RL:PV} (Ad:id < bx.length) (hc:C5 bx) (hR:RL.pure=true)
include Ad hc hR
theorem XP {g:FuncId} {av:List PV} {nt:NT} {I O:Nat->Nat->Nat->Nat} {n m:Nat} (h:mv g av nt id L RL I O bx n) (hm:m < n) (hi:i < L.length) (ho:o<=100) {a:Tr} {j:Nat} (hr:pz L m nt o i=.ok a j) (ys:List PBox) (hy:(ys.all fun x=>x.under (bx.length+ys.length))=true) :
 Ak CC (Ae CC) g av (BX bx id (.cells 63 [.sl (A2 L),.int .i64 ((i:Nat):Int),.int .i64 ((o:Nat):Int),RL]) ys)=some (.ret (.agg (A7 a)),BX bx id (.cells 63 [.sl (A2 L),.int .i64 ((j:Nat):Int),.int .i64 ((o:Nat):Int),RL]) ys):=by
 have:=h m hm i o hi ho;rw [hr] at this;have:=this _ cM (IG (i0:=i) (o0:=o) Ad hc hR hy);rw [Hk Ad,An] at this;exact this
theorem eI {g:FuncId} {av:List PV} {nt:NT} {I O:Nat->Nat->Nat->Nat} {n m:Nat} (h:mv g av nt id L RL I O bx n) (hm:m < n) (hi:i < L.length) (ho:o<=100) {t:Nat} {c:Int} (hr:pz L m nt o i=.bad t c) (ys:List PBox) (hy:(ys.all fun x=>x.under (bx.length+ys.length))=true) :
 Ak CC (Ae CC) g av (BX bx id (.cells 63 [.sl (A2 L),.int .i64 ((i:Nat):Int),.int .i64 ((o:Nat):Int),RL]) ys)=some (.pan (Cr t c),BX bx id (.cells 63 [.sl (A2 L),.int .i64 (((I m i o):Nat):Int),.int .i64 (((O m i o):Nat):Int),RL]) ys):=by
 have:=h m hm i o hi ho;rw [hr] at this;have:=this _ cM (IG (i0:=i) (o0:=o) Ad hc hR hy);rw [Hk Ad] at this;exact this
end
def N7 (l:List Tr):List PV:=l.map fun t=>PV.agg (A7 t)
theorem RF (l:List Tr):(N7 l).length=l.length:=by unfold N7;simp
theorem eJ (l:List Tr) (a:Tr):N7 l++[PV.agg (A7 a)]=N7 (l++[a]):=by unfold N7;simp
theorem ky (a:Tr):([PV.agg (A7 a)].all fun y=>y.cells.length == 11)=true:=by simp [PV.cells,J3]
noncomputable def tX:TypeInfo:=(Tryz.prog.info? 35).getD default
theorem yz (bytes:Nat) (hb:tX.bytes=bytes) (st:St) (al:List (Nat×Loc)) (s x:Operand) (d:Option Tmp):EW CC st al s x 33 33 d=match DV CC st al 35 s,Di (opd CC st.env x) with
 | some (l,xs),some ys=>Sf bytes 11 35 st al l xs ys d
 | _,_=>none:=EZ (i:=tX) (by kernel_rfl) (by kernel_rfl) (by kernel_rfl) (z:=(tX.zero).getD default) (by kernel_rfl) (by kernel_rfl) (by rw [show tX.size=11 from by kernel_rfl];decide) hb (by kernel_rfl)
theorem kz:tX.bytes=136:=by kernel_rfl
theorem cN (Lc:Code) (hL:Lc=Aa y1 [1,1,0,0]) {id:Nat} {L:List Tk} {o:Nat} {RL:PV} (hR:RL.pure=true) (hT:TokOK L) (ho:o<=100) (b:Bool) (I O:Nat->Nat->Nat->Nat):∀ (m:Nat) (i:Nat) (acc:List Tr),i < L.length->acc≠[]->acc.length<=8->match pz L m (.chainL b acc) o i with
 | .ok v j=>∃ l:List Tr,v=mu b l/\l≠[]/\l.length<=8/\∀ (g:FuncId) (first cap av:List PV) (RQ:first.map PV.shutV++cap.map PV.shutV=av) (VT:Aq av=false) (n:Nat) (s5:m<=n) (bx:List PBox) (Ad:id < bx.length) (hc:C5 bx) (A1:mv g av (Ee b) id L RL I O bx n) (e:List PV),getT e 0=.bp id 0->getT e 1=.str (PH b)->getT e 2=.int .i64 (Pf b)->getT e 3=.fn g first cap->getT e 8=.bp bx.length 0->getT e 9=.osl 35 (N7 acc) ->
  ∃ e',Cp CC Lc ⟨e,BX bx id (Av L i o RL) [.cells 35 [.int .i64 0,.int .i64 0,.int .i64 0,.str [],.int .i64 0,.int .i64 0,.str [],.int .i64 0,.str [],.str [],.nils]]⟩=some (.exit 0,⟨e',BX bx id (Av L j o RL) [.cells 35 [.int .i64 0,.int .i64 0,.int .i64 0,.str [],.int .i64 0,.int .i64 0,.str [],.int .i64 0,.str [],.str [],.nils]]⟩)/\getT e' 2=.int .i64 (Pf b)/\getT e' 8=.bp bx.length 0/\getT e' 9=.osl 35 (N7 l)
 | .bad t c=>∃ i' o',∀ (g:FuncId) (first cap av:List PV) (RQ:first.map PV.shutV++cap.map PV.shutV=av) (VT:Aq av=false) (n:Nat) (s5:m<=n) (bx:List PBox) (Ad:id < bx.length) (hc:C5 bx) (A1:mv g av (Ee b) id L RL I O bx n) (e:List PV),getT e 0=.bp id 0->getT e 1=.str (PH b)->getT e 2=.int .i64 (Pf b)->getT e 3=.fn g first cap->getT e 8=.bp bx.length 0->getT e 9=.osl 35 (N7 acc) ->
  ∃ e' ys',Cp CC Lc ⟨e,BX bx id (Av L i o RL) [.cells 35 [.int .i64 0,.int .i64 0,.int .i64 0,.str [],.int .i64 0,.int .i64 0,.str [],.int .i64 0,.str [],.str [],.nils]]⟩=some (.pan (Cr t c),⟨e',BX bx id (Av L i' o' RL) ys'⟩)
 | .out=>True:=by
 have pV:=yz 136 kz;intro m
 induction m with
 | zero=>intro i acc hi _ _;trivial
 | succ m ih=>
  intro i acc hi DZ wv;rw [pz];have hlen:=RF acc;have hw:y5 .i64 ((i:Int)+1)=((i+1:Nat):Int):=by rw [wrap_i64 ⟨by omega,by have:=hT.len;omega⟩];omega
  cases hk:B2 L 1 (PH b) i with
  | false=>
   simp only [yX,if_false];refine ⟨acc,rfl,DZ,wv,fun g first cap av RQ VT n s5 bx Ad hc A1 e g0 g1 g2 g3 g8 g9=>?_⟩;have t0:=Ab Ad hc hR (D1 (id:=id) (o:=o) hR hi 1 1 rfl (PH b));rw [hk] at t0;rw [A0 (Aa y1 [1,1,0,0,0]) hL];unfold Av;rw [<- Am];rw [<- AK] at t0;simp only [Aa,Ac,y1,yW];simp only [S9,Ag,seval,PY,PZ,Aw,Al,g0,g1,g2,g3,g8,g9,t0,Ad];exact ⟨_,rfl,by simp only [S7,Ag,seval,g2],by simp only [S7,Ag,seval,g8],by simp only [S7,Ag,seval,g9]⟩
  | true=>
   simp only [if_true];have B8:=AG hT hi hk (by decide);by_cases h8:acc.length=8
   · rw [if_pos h8]
     refine ⟨i,o,fun g first cap av RQ VT n s5 bx Ad hc A1 e g0 g1 g2 g3 g8 g9=>?_⟩;have t0:=Ab Ad hc hR (D1 (id:=id) (o:=o) hR hi 1 1 rfl (PH b));rw [hk] at t0;have t2:=Ab Ad hc hR (AJ (id:=id) (o:=o) hR hi);have t3:=At Ad hc hR (Dk (id:=id) (i:=i) (o:=o) (L:=L) hR (tokAt L i).1 (tokAt L i).2.1 (tokAt L i).2.2 3);have o9:(((N7 acc).length:Int) == 8)=true:=by rw [hlen,h8];rfl
     rw [A0 (Aa y1 [1,1,0,0,0]) hL];unfold Av atT;rw [<- Am];rw [<- AK] at t0 t2 t3;simp only [Aa,Ac,y1,yW];simp only [S9,Ag,seval,PY,PZ,Aw,Al,g0,g1,g2,g3,g8,g9,t0,t2,t3,o9,Ad];exact ⟨_,_,rfl⟩
   · rw [if_neg h8]
     have o9:(((N7 acc).length:Int) == 8)=false:=by rw [hlen];have:¬ (acc.length:Int)=8:=(by omega);exact beq_eq_false_iff_ne.2 this
     cases r1:pz L m (Ee b) o (i+1) with
     | out=>trivial
     | bad t c=>
      refine ⟨I m (i+1) o,O m (i+1) o,fun g first cap av RQ VT n s5 bx Ad hc A1 e g0 g1 g2 g3 g8 g9=>?_⟩;have t0:=Ab Ad hc hR (D1 (id:=id) (o:=o) hR hi 1 1 rfl (PH b));rw [hk] at t0;have t1:=eI Ad hc hR A1 (by omega) B8 ho r1;rw [A0 (Aa y1 [1,1,0,0,0]) hL];unfold Av;rw [<- Am];rw [<- AK] at t0 t1;simp only [Aa,Ac,y1,yW];simp only [S9,Ag,seval,PY,PZ,Aw,Al,g0,g1,g2,g3,g8,g9,t0,t1,o9,RQ,hw,Ad];exact ⟨_,_,rfl⟩
     | ok a i1=>
      have FV:=(Hq hT _ _ _ _ _ _ B8 r1).2;dsimp only [AA];have key:=ih i1 (acc++[a]) FV (by simp) (by simp;omega);have hb:=PT a;have Ek:=ky a;have iK:(N7 acc).length+[PV.agg (A7 a)].length<=1000000:=by rw [hlen];simp;omega
      have pa:=eJ acc a;have pb:=fun st al l d=>D7 (bytes:=136) (size:=11) (e:=35) (st:=st) (al:=al) (l:=l) (d:=d) iK (by decide) Ek;cases r2:pz L m (.chainL b (acc++[a])) o i1 with
      | out=>trivial
      | ok v j=>
       rw [r2] at key;obtain ⟨l,q1,q2,q3,key⟩:=key;refine ⟨l,q1,q2,q3,fun g first cap av RQ VT n s5 bx Ad hc A1 e g0 g1 g2 g3 g8 g9=>?_⟩;have key:=key g first cap av RQ VT n (by omega) bx Ad hc A1
       have t0:=Ab Ad hc hR (D1 (id:=id) (o:=o) hR hi 1 1 rfl (PH b));rw [hk] at t0;have t1:=XP Ad hc hR A1 (by omega) B8 ho r1;rw [A0 (Aa y1 [1,1,0,0,0]) hL];unfold Av at key |-;generalize N7 acc=xa at *;generalize N7 (acc++[a])=xb at *;rw [<- Am];rw [<- Am] at key;rw [<- AK] at t0 t1;simp only [Aa,Ac,y1,yW];simp only [S9,Ag,seval,PY,PZ,Aw,Al,g0,g1,g2,g3,g8,g9,t0,t1,o9,RQ,hw,hb,pV,Ek,iK,pa,pb,VT,y8,y',SX,Ad];refine key _ ?_ ?_ ?_ ?_ ?_ ?_
       · simp only [S7,Ag,seval,g0]
       · simp only [S7,Ag,seval,g1]
       · simp only [S7,Ag,seval,g2]
       · simp only [S7,Ag,seval,g3]
       · simp only [S7,Ag,seval,g8]
       · simp only [S7,Ag,seval]
      | bad t c=>
       rw [r2] at key;obtain ⟨i',o',key⟩:=key;refine ⟨i',o',fun g first cap av RQ VT n s5 bx Ad hc A1 e g0 g1 g2 g3 g8 g9=>?_⟩;have key:=key g first cap av RQ VT n (by omega) bx Ad hc A1
       have t0:=Ab Ad hc hR (D1 (id:=id) (o:=o) hR hi 1 1 rfl (PH b));rw [hk] at t0;have t1:=XP Ad hc hR A1 (by omega) B8 ho r1;rw [A0 (Aa y1 [1,1,0,0,0]) hL];unfold Av at key |-;generalize N7 acc=xa at *;generalize N7 (acc++[a])=xb at *;rw [<- Am];rw [<- Am] at key;rw [<- AK] at t0 t1;simp only [Aa,Ac,y1,yW];simp only [S9,Ag,seval,PY,PZ,Aw,Al,g0,g1,g2,g3,g8,g9,t0,t1,o9,RQ,hw,hb,pV,Ek,iK,pa,pb,VT,y8,y',SX,Ad];refine key _ ?_ ?_ ?_ ?_ ?_ ?_
       · simp only [S7,Ag,seval,g0]
       · simp only [S7,Ag,seval,g1]
       · simp only [S7,Ag,seval,g2]
       · simp only [S7,Ag,seval,g3]
       · simp only [S7,Ag,seval,g8]
       · simp only [S7,Ag,seval]
def yK (b:Bool) (n:Nat) (id:Nat) (L:List Tk) (RL:PV):Prop:=∀ I O:Nat->Nat->Nat->Nat,∀ i o,i < L.length->o<=100->match pz L n (.chain b) o i with
 | .ok a j=>∀ (g:FuncId) (first cap av:List PV) (RQ:first.map PV.shutV++cap.map PV.shutV=av) (VT:Aq av=false) (B:List PBox),mv g av (Ee b) id L RL I O B n->Nt L i o RL id B->Ak CC (Ae CC) 79 [.bp id 0,.str (PH b),.int .i64 (Pf b),.fn g first cap] B=some (.ret (DH a),B.set id (Av L j o RL))
 | .bad t c=>∃ i' o',∀ (g:FuncId) (first cap av:List PV) (RQ:first.map PV.shutV++cap.map PV.shutV=av) (VT:Aq av=false) (B:List PBox),mv g av (Ee b) id L RL I O B n->Nt L i o RL id B->Ak CC (Ae CC) 79 [.bp id 0,.str (PH b),.int .i64 (Pf b),.fn g first cap] B=some (.pan (Cr t c),B.set id (Av L i' o' RL))
 | .out=>True
theorem eK (b:Bool) (a:Tr):mu b [a]=a:=rfl
theorem Z1 (b:Bool) (l:List Tr) (h:2<=l.length):mu b l=Bb (Pf b) l:=by
 match l,h with
 | x :: y :: r,_=>rfl
theorem XQ {id:Nat} {L:List Tk} {RL:PV} (hR:RL.pure=true) (hT:TokOK L) (b:Bool):∀ n,yK b n id L RL:=by
 intro n;cases n with
 | zero=>intro I O i o _ _;trivial
 | succ n=>
  intro I O i o hi ho;rw [pz];cases r1:pz L n (Ee b) o i with
  | out=>trivial
  | bad t c=>
   refine ⟨I n i o,O n i o,fun g first cap av RQ VT B A1 hB=>KC (P:=Av L i o RL) (by simp [Aq,PV.pure]) hB.1 hB.2 (BH L _ _ hR) (Et _ _ _) ?_⟩;have Ad:=(yZ.1 hB.2).1;have hc:=hB.1;have t1:=eI Ad hc hR A1 (by omega) hi ho r1;rw [D2 rfl];unfold Av;rw [<- Am];rw [<- AK] at t1;simp only [Aa,Ac,y1,yW];simp only [S9,Ag,seval,PY,PZ,Aw,Al,t1,RQ,VT,y8,Ad];exact ⟨_,rfl⟩
  | ok a i1=>
   have B8:=(Hq hT _ _ _ _ _ _ hi r1).2;dsimp only [AA];have Af:=cN _ rfl (id:=id) (RL:=RL) hR hT ho b I O n i1 [a] B8 (by simp) (by simp);have hb:=PT a;cases r2:pz L n (.chainL b [a]) o i1 with
   | out=>trivial
   | bad t c=>
    rw [r2] at Af;obtain ⟨i',o',Af⟩:=Af;refine ⟨i',o',fun g first cap av RQ VT B A1 hB=>KC (P:=Av L i o RL) (by simp [Aq,PV.pure]) hB.1 hB.2 (BH L _ _ hR) (Et _ _ _) ?_⟩;have Ad:=(yZ.1 hB.2).1;have hc:=hB.1;have t1:=XP Ad hc hR A1 (by omega) hi ho r1;have Af:=Af g first cap av RQ VT (n+1) (by omega) B Ad hc A1
    rw [D2 rfl];skip;simp only [Aa,Ac,y1,yW] at Af |-;unfold Av at Af |-;skip;skip;rw [<- Am];rw [<- Am] at Af;rw [<- AK] at t1;simp only [S9,Ag,seval,PY,PZ,Aw,Al,t1,RQ,VT,hb,SX,y8,Ad];generalize hE:GZ _ _=z
    have hP:∃ e' ys',z=some (.pan (Cr t c),⟨e',BX B id (.cells 63 [.sl (A2 L),.int .i64 ((i':Nat):Int),.int .i64 ((o':Nat):Int),RL]) ys'⟩):=by
     rw [<- hE];refine Af _ ?_ ?_ ?_ ?_ ?_ ?_
     · simp only [S7,Ag,seval]
     · simp only [S7,Ag,seval]
     · simp only [S7,Ag,seval]
     · simp only [S7,Ag,seval]
     · simp only [S7,Ag,seval]
     · simp only [S7,Ag,seval] <;> rfl
    obtain ⟨e',ys',he⟩:=hP;subst he;clear hE Af;simp only [S9,Ag,seval,PY,PZ,Aw,Al,SX,Ad];exact ⟨_,rfl⟩
   | ok v j=>
    rw [r2] at Af;obtain ⟨l,rfl,DZ,wv,Af⟩:=Af;refine fun g first cap av RQ VT B A1 hB=>KC (P:=Av L i o RL) (by simp [Aq,PV.pure]) hB.1 hB.2 (BH L _ _ hR) (by rw [An];simp only [CR.under,SX,PV.under]) ?_
    have Ad:=(yZ.1 hB.2).1;have hc:=hB.1;have t1:=XP Ad hc hR A1 (by omega) hi ho r1;have Af:=Af g first cap av RQ VT (n+1) (by omega) B Ad hc A1
    rw [D2 rfl];rw [An];simp only [Aa,Ac,y1,yW] at Af |-;unfold Av at Af |-;have yb:=RF l;have Un:=nO (Pf b) l;rw [<- Am];rw [<- Am] at Af;rw [<- AK] at t1 Un;simp only [S9,Ag,seval,PY,PZ,Aw,Al,t1,RQ,VT,hb,SX,y8,Ad];generalize hE:GZ _ _=z
    have hP:∃ e',z=some (.exit 0,⟨e',BX B id (.cells 63 [.sl (A2 L),.int .i64 ((j:Nat):Int),.int .i64 ((o:Nat):Int),RL]) [.cells 35 [.int .i64 0,.int .i64 0,.int .i64 0,.str [],.int .i64 0,.int .i64 0,.str [],.int .i64 0,.str [],.str [],.nils]]⟩)/\getT e' 2=.int .i64 (Pf b)/\getT e' 8=.bp B.length 0/\getT e' 9=.osl 35 (N7 l):=by
     rw [<- hE];refine Af _ ?_ ?_ ?_ ?_ ?_ ?_
     · simp only [S7,Ag,seval]
     · simp only [S7,Ag,seval]
     · simp only [S7,Ag,seval]
     · simp only [S7,Ag,seval]
     · simp only [S7,Ag,seval]
     · simp only [S7,Ag,seval] <;> rfl
    obtain ⟨e',he,k2,k8,k9⟩:=hP;subst he;clear hE Af;by_cases h1:l.length=1
    · obtain ⟨a0,rfl⟩:∃ a0,l=[a0]:=by
       match l,h1 with
       | [a0],_=>exact ⟨a0,rfl⟩
      rw [eK];have Fh:(([PV.agg (A7 a0)].length:Int) == 1)=true:=rfl;have mm:(((0+1:Nat):Int) == 1)=true:=rfl;rw [show N7 [a0]=[PV.agg (A7 a0)] from rfl] at k9;simp only [S9,Ag,seval,PY,PZ,Aw,Al,k2,k8,k9,Fh,mm,SX,Ad];exact ⟨_,rfl⟩
    · have Gk:2<=l.length:=by
       have:l.length≠0:=fun h=>DZ (List.eq_nil_of_length_eq_zero h);omega
      rw [Z1 b l Gk];have Fh:(((N7 l).length:Int) == 1)=false:=by rw [yb];exact beq_eq_false_iff_ne.2 (by omega)
      have hnd':∀ bx,ph 83 [.int .i64 (Pf b),.sl (N7 l)] bx=some (.ret (.agg (A7 (Bb (Pf b) l))),bx):=Un;simp only [S9,Ag,seval,PY,PZ,Aw,Al,k2,k8,k9,Fh,hnd',SX,Ad];exact ⟨_,rfl⟩
theorem eL {bx:List PBox} {id k:Nat} {P:PBox} {ys:List PBox} (hk:k≠id) (hl:k < bx.length):(BX bx id P ys)[k]?=bx[k]?:=cM k hk hl
theorem XR {id:Nat} {L:List Tk} {RL:PV} (hR:RL.pure=true) (hT:TokOK L) (n:Nat) (hn:∀ m,m < n->Gq 81 .not id L RL m):∃ I O:Nat->Nat->Nat->Nat,∀ (B0:List PBox) (n0:Nat),B0[n0]?=some (.cells 56 [.bp id 0])->n0≠id->mv 80 [.bp n0 0] (.chain false) id L RL I O B0 n:=by
 obtain ⟨I1,O1,A1⟩:=nT hn
 have hx:∀ x:Nat×Nat×Nat,∃ y:Nat×Nat,x.1 < n->x.2.1 < L.length->x.2.2<=100->∀ (t:Nat) (c:Int),pz L x.1 (.chain false) x.2.2 x.2.1=.bad t c->∀ (g:FuncId) (first cap av:List PV) (RQ:first.map PV.shutV++cap.map PV.shutV=av) (VT:Aq av=false) (B:List PBox),mv g av (Ee false) id L RL I1 O1 B x.1->Nt L x.2.1 x.2.2 RL id B->Ak CC (Ae CC) 79 [.bp id 0,.str (PH false),.int .i64 (Pf false),.fn g first cap] B=some (.pan (Cr t c),B.set id (Av L y.1 y.2 RL)):=by
  intro ⟨m,i,o⟩;by_cases hc:i < L.length/\o<=100
  · have:=XQ (id:=id) (RL:=RL) hR hT false m I1 O1 i o hc.1 hc.2
    cases hr:pz L m (.chain false) o i with
    | ok a j=>exact ⟨(0,0),fun _ _ _ t c h=>nomatch h⟩
    | out=>exact ⟨(0,0),fun _ _ _ t c h=>nomatch h⟩
    | bad t c=>
     rw [hr] at this;obtain ⟨i',o',this⟩:=this;refine ⟨(i',o'),fun _ _ _ t' c' h=>?_⟩;injection h with e1 e2
     subst e1 e2;exact this
  · exact ⟨(0,0),fun a b c=>absurd ⟨b,c⟩ hc⟩
 obtain ⟨J,hJ⟩:=y9 hx;refine ⟨fun m i o=>(J (m,i,o)).1,fun m i o=>(J (m,i,o)).2,fun B0 n0 EM pY m hm i o hi ho=>?_⟩;have hbad:=hJ (m,i,o) hm hi ho;have Ek:=XQ (id:=id) (RL:=RL) hR hT false m I1 O1 i o hi ho;have Ub:n0 < B0.length:=(yZ.1 EM).1;have iQ:∀ B0,mv 81 [.bp id 0] (Ee false) id L RL I1 O1 B0 m:=fun B0 q hq=>A1 B0 q (by omega);cases hr:pz L m (.chain false) o i with
 | out=>trivial
 | ok a j=>
  rw [hr] at Ek;intro B su hB;have pc:B[n0]?=some (.cells 56 [.bp id 0]):=by rw [su n0 pY Ub];exact EM
  have Ad:=(yZ.1 hB.2).1;have mh:=(yZ.1 pc).1;have hc:=hB.1;refine KC (P:=Av L i o RL) (by simp [Aq,PV.pure]) hB.1 hB.2 (BH L _ _ hR) (by rw [An];simp only [CR.under,SX,PV.under]) ?_;have sw:Nt L i o RL id (BX B id (Av L i o RL) [.cells 35 [.int .i64 0,.int .i64 0,.int .i64 0,.str [],.int .i64 0,.int .i64 0,.str [],.int .i64 0,.str [],.str [],.nils]]):=IG (i0:=i) (o0:=o) Ad hc hR (by simp only [SU]);have t1:=Ek 81 [.bp id 0] [] [.bp id 0] rfl rfl _ (iQ _) sw;rw [Hk Ad,An] at t1;have gn:=eL (bx:=B) (P:=Av L i o RL) (ys:=[.cells 35 [.int .i64 0,.int .i64 0,.int .i64 0,.str [],.int .i64 0,.int .i64 0,.str [],.int .i64 0,.str [],.str [],.nils]]) pY mh;rw [pc] at gn;unfold Pf PH at t1;simp only [yX,if_false] at t1;rw [An];rw [Fj rfl];unfold Av at *;rw [<- Am];rw [<- AK] at t1;simp only [Aa,Ac,y6,yW];simp only [S9,Ag,seval,PY,PZ,Aw,Al,t1,gn,SX,Ad];exact ⟨_,rfl⟩
 | bad t c=>
  skip;intro B su hB;have pc:B[n0]?=some (.cells 56 [.bp id 0]):=by rw [su n0 pY Ub];exact EM
  have Ad:=(yZ.1 hB.2).1;have mh:=(yZ.1 pc).1;have hc:=hB.1;refine KC (P:=Av L i o RL) (by simp [Aq,PV.pure]) hB.1 hB.2 (BH L _ _ hR) (Et _ _ _) ?_;have sw:Nt L i o RL id (BX B id (Av L i o RL) [.cells 35 [.int .i64 0,.int .i64 0,.int .i64 0,.str [],.int .i64 0,.int .i64 0,.str [],.int .i64 0,.str [],.str [],.nils]]):=IG (i0:=i) (o0:=o) Ad hc hR (by simp only [SU]);have t1:=hbad t c hr 81 [.bp id 0] [] [.bp id 0] rfl rfl _ (iQ _) sw;rw [Hk Ad] at t1;have gn:=eL (bx:=B) (P:=Av L i o RL) (ys:=[.cells 35 [.int .i64 0,.int .i64 0,.int .i64 0,.str [],.int .i64 0,.int .i64 0,.str [],.int .i64 0,.str [],.str [],.nils]]) pY mh;rw [pc] at gn;unfold Pf PH at t1;simp only [yX,if_false] at t1;rw [Fj rfl];unfold Av at *;rw [<- Am];rw [<- AK] at t1;simp only [Aa,Ac,y6,yW];simp only [S9,Ag,seval,PY,PZ,Aw,Al,t1,gn,SX,Ad];exact ⟨_,rfl⟩
end Go.HH
