/-
  What the law needs, packed: PR PS PT PU.
-/
import Derived.Test.YthjcaihemgllaaaGreatDoorK39
open Option renaming getD->Aau
open Bool renaming false_eq_true->Aav,or_true->Ab6,and_eq_true->Ab9
open Go.Proofs.Tryz renaming f189->Aaw,f137->Aay,f187->Aaz,f184->Ab1,f139->Ab2,f138->Ab3,f99->Ab5
open List renaming getElem?_eq_some_iff->Aax,filter_cons->Ab8
open Nat renaming le_of_ble_eq_true->Ab0
open Go.IntKind renaming wrap->Ab4
open Classical renaming axiomOfChoice->Ab7
namespace Go.HH
open Go Go.Proofs
set_option maxRecDepth 100000
set_option maxHeartbeats 4000000
set_option linter.unusedSimpArgs false
set_option linter.unusedVariables false
theorem Hx:Be CC Aaw (Aaw.body.getD .skip)=true:=by kernel_rfl
theorem Hk:CC.P.funcs[189]?=some Aaw:=by kernel_rfl
theorem AB {x:List PV} {b:List PBox} (h:x.length.ble Aaw.ntmps=true):Ad CC 189 x b=CD CC Aaw.results.toList (Cf CC (Aaw.body.getD .skip) ⟨x,b⟩):=Ah (fn:=Aaw) (c:=Aaw.body.getD .skip) rfl rfl Hk rfl Hx (Ab0 h)
theorem IF:Be CC Aaz (Aaz.body.getD .skip)=true:=by kernel_rfl
theorem H9:CC.P.funcs[187]?=some Aaz:=by kernel_rfl
theorem AU {x:List PV} {b:List PBox} (h:x.length.ble Aaz.ntmps=true):Ad CC 187 x b=CD CC Aaz.results.toList (Cf CC (Aaz.body.getD .skip) ⟨x,b⟩):=Ah (fn:=Aaz) (c:=Aaz.body.getD .skip) rfl rfl H9 rfl IF (Ab0 h)
theorem J5:Be CC Ab1 (Ab1.body.getD .skip)=true:=by kernel_rfl
theorem Jn:CC.P.funcs[184]?=some Ab1:=by kernel_rfl
theorem BJ {x:List PV} {b:List PBox} (h:x.length.ble Ab1.ntmps=true):Ad CC 184 x b=CD CC Ab1.results.toList (Cf CC (Ab1.body.getD .skip) ⟨x,b⟩):=Ah (fn:=Ab1) (c:=Ab1.body.getD .skip) rfl rfl Jn rfl J5 (Ab0 h)
theorem LD:Be CC Ab2 (Ab2.body.getD .skip)=true:=by kernel_rfl
theorem KR:CC.P.funcs[139]?=some Ab2:=by kernel_rfl
theorem Cj {x:List PV} {b:List PBox} (h:x.length.ble Ab2.ntmps=true):Ad CC 139 x b=CD CC Ab2.results.toList (Cf CC (Ab2.body.getD .skip) ⟨x,b⟩):=Ah (fn:=Ab2) (c:=Ab2.body.getD .skip) rfl rfl KR rfl LD (Ab0 h)
theorem gv (s:List UInt8):A' CC 29 [(0,.int .i64 3),(3,.str s)]=some (.agg [.int .i64 3,.int .i64 0,.int .i64 0,.str s,.int .i64 0,.int .i64 0,.str [],.int .i64 0,.str [],.str [],.nils]):=by kernel_rfl
theorem Jo (k n:Int):A' CC 29 [(0,.int .i64 k),(1,.int .i64 n)]=some (.agg [.int .i64 k,.int .i64 n,.int .i64 0,.str [],.int .i64 0,.int .i64 0,.str [],.int .i64 0,.str [],.str [],.nils]):=by kernel_rfl
theorem oG (k:Int):A' CC 29 [(0,.int .i64 k)]=some (.agg [.int .i64 k,.int .i64 0,.int .i64 0,.str [],.int .i64 0,.int .i64 0,.str [],.int .i64 0,.str [],.str [],.nils]):=by kernel_rfl
theorem gx (d:Int) (a b:List UInt8):A' CC 29 [(0,.int .i64 2),(5,.agg [.int .i64 d,.str a,.str b])]=some (.agg [.int .i64 2,.int .i64 0,.int .i64 0,.str [],.int .i64 0,.int .i64 0,.str [],.int .i64 d,.str a,.str b,.nils]):=by kernel_rfl
theorem oH (s:List UInt8):A' CC 24 [(0,.int .i64 4),(2,.str s)]=some (.agg [.int .i64 4,.int .i64 0,.str s]):=by kernel_rfl
theorem gy (s:List UInt8):A' CC 29 [(0,.int .i64 1),(4,.agg [.int .i64 4,.int .i64 0,.str s])]=some (.agg [.int .i64 1,.int .i64 0,.int .i64 0,.str [],.int .i64 4,.int .i64 0,.str s,.int .i64 0,.str [],.str [],.nils]):=by kernel_rfl
theorem Jp (k n m:Int) (nm:List UInt8) (v:Vl) (q:Ky):Bw (.mk k n m nm v q [])=.agg [.int .i64 k,.int .i64 n,.int .i64 m,.str nm,.int .i64 v.1,.int .i64 v.2.1,.str v.2.2,.int .i64 q.1,.str q.2.1,.str q.2.2,.sl []]:=by unfold Bw A1;rfl
theorem rb:A' CC 185 [(0,.str [103,117,101,115,116]),(1,.str [99,104,105,108,100]),(2,.str [97,100,117,108,116]),(3,.str [111,119,110,101,114])]=some (.agg (C7.map .str)):=by kernel_rfl
theorem xg:∀ k:Nat,k < 4->Dy CC 185 (.agg (C7.map .str)) (.int .i64 (k:Int))=some (.str (C7.getD k []))
 | 0,_=>by kernel_rfl
 | 1,_=>by kernel_rfl
 | 2,_=>by kernel_rfl
 | 3,_=>by kernel_rfl
 | k+4,h=>by omega
def YO (L:List Tk) (RL:PV) (bx:List PBox) (id i o:Nat) (r:Option Nat) (z:Option (Ex×St)):Prop:=match r with
 | some k=>∃ e',z=some (.ret,⟨e',BX bx id (Ap L (i+1) o RL) [.cells 29 [.int .i64 15,.int .i64 ((k+1:Nat):Int),.int .i64 0,.str [],.int .i64 0,.int .i64 0,.str [],.int .i64 0,.str [],.str [],.nils]]⟩)/\getT e' 2=.bp bx.length 0
 | none=>∃ e',z=some (.exit 1,⟨e',BX bx id (Ap L i o RL) [.cells 29 [.int .i64 0,.int .i64 0,.int .i64 0,.str [],.int .i64 0,.int .i64 0,.str [],.int .i64 0,.str [],.str [],.nils]]⟩)/\getT e' 0=.bp id 0/\getT e' 2=.bp bx.length 0
theorem gz (Lc:Code) (hL:Lc=Aa Aaw [1,0,0,1,1,1,1,1,1,1,1,1,1,1,0,0,1,0]) {id:Nat} {L:List Tk} {i o:Nat} {RL:PV} (hR:RL.pure=true) (hi:i < L.length) (hT:TokOK L) (bx:List PBox) (hid:id < bx.length) (hc:DM bx):∀ (m k:Nat) (e:List PV),k+m=4->getT e 0=.bp id 0->getT e 2=.bp bx.length 0->getT e 43=.agg (C7.map .str)->getT e 44=.int .i64 (k:Int) ->
 YO L RL bx id i o (C0 L 1 i (C7.drop k) k) (Cf CC Lc ⟨e,BX bx id (Ap L i o RL) [.cells 29 [.int .i64 0,.int .i64 0,.int .i64 0,.str [],.int .i64 0,.int .i64 0,.str [],.int .i64 0,.str [],.str [],.nils]]⟩):=by
 intro m
 induction m with
 | zero=>
  intro k e hk h0 h2 yR zy;rw [AX (Aa Aaw [1,0,0,1,1,1,1,1,1,1,1,1,1,1,0,0,1,0,0]) hL];have iI:¬ ((k:Int) < 4):=by omega
  rw [show C7.drop k=[] from List.drop_of_length_le (by rw [show C7.length=4 from rfl];omega)];unfold YO C0 Ap;rw [<- Al];simp only [Aa,Ac,Aaw,Aau];simp only [S9,Af,seval,PY,PZ,AS,h0,h2,yR,zy,iI,hid];exact ⟨_,rfl,by simp only [S7,Af,seval,h0],by simp only [S7,Af,seval,h2]⟩
 | succ m ih=>
  intro k e hk h0 h2 yR zy;rw [AX (Aa Aaw [1,0,0,1,1,1,1,1,1,1,1,1,1,1,0,0,1,0,0]) hL];have iI:((k:Int) < 4):=by omega
  have QB:=xg k (by omega)
  have G1:C7.drop k=C7.getD k [] :: C7.drop (k+1):=by
   have hl:k < C7.length:=by rw [show C7.length=4 from rfl];omega
   rw [List.drop_eq_getElem_cons hl,List.getD_eq_getElem?_getD,List.getElem?_eq_getElem hl];rfl
  have key:=fun e=>ih (k+1) e (by omega);have hw:Ab4 .i64 ((k:Int)+1)=((k+1:Nat):Int):=by rw [wrap_i64 ⟨by omega,by omega⟩];omega
  have hb:=Jo 15 ((k+1:Nat):Int);rw [G1];generalize C7.getD k []=wd at *;unfold C0;cases nf:Bs L 1 wd i with
  | true=>
   have t1:=Ab hid hc hR (As (id:=id) (o:=o) hR hi hT wd nf);unfold YO Ap;simp only [if_true];rw [<- Al];rw [<- AI] at t1;simp only [Aa,Ac,Aaw,Aau];simp only [S9,Af,seval,PY,PZ,AS,h0,h2,yR,zy,iI,QB,t1,hw,hb,hid];exact ⟨_,rfl,by simp only [S7,Af,seval,h2]⟩
  | false=>
   have t1:=Ab hid hc hR (Ae (id:=id) (o:=o) hR hi hT wd nf);simp only [Aav,if_false];generalize C0 L 1 i (C7.drop (k+1)) (k+1)=pw at *;unfold Ap at key |-;rw [<- Al];rw [<- AI] at t1;rw [<- Al] at key;simp only [Aa,Ac,Aaw,Aau];simp only [S9,Af,seval,PY,PZ,AS,h0,h2,yR,zy,iI,QB,t1,hw,hid];refine key _ ?_ ?_ ?_ ?_
   · simp only [S7,Af,seval,h0]
   · simp only [S7,Af,seval,h2]
   · simp only [S7,Af,seval,yR]
   · simp only [S7,Af,seval]
theorem ko {id:Nat} {L:List Tk} {i o:Nat} {RL:PV} (hR:RL.pure=true) (hi:i < L.length) (hT:TokOK L):XI 189 [] id L RL i o Bw (Fp L i):=by
 unfold Fp;cases f0:Bs L 1 [116,114,117,101] i with
 | true=>
  simp only [if_true];have BF:=AO hT hi f0 (by decide);have hl:=bq 1 1;refine Bi (A5 hR (fun n=>by rw [An];simp only [SX,PV.under]) fun bx hid hc=>?_);have q0:=Ab hid hc hR (As (id:=id) (o:=o) hR hi hT _ f0);rw [An];rw [AB rfl];unfold Ap;rw [<- Al];rw [<- AI] at q0 hl;simp only [Aa,Ac,Aaw,Aau];simp only [S9,Af,seval,PY,PZ,AS,q0,hl,SX,hid];exact ⟨_,rfl⟩
 | false=>
  simp only [Aav,if_false];cases f1:Bs L 1 [102,97,108,115,101] i with
  | true=>
   simp only [if_true];have BF:=AO hT hi f1 (by decide);have hl:=bq 1 0;refine Bi (A5 hR (fun n=>by rw [An];simp only [SX,PV.under]) fun bx hid hc=>?_);have q0:=Ab hid hc hR (Ae (id:=id) (o:=o) hR hi hT _ f0);have q1:=Ab hid hc hR (As (id:=id) (o:=o) hR hi hT _ f1);rw [An];rw [AB rfl];unfold Ap;rw [<- Al];rw [<- AI] at q0 q1 hl;simp only [Aa,Ac,Aaw,Aau];simp only [S9,Af,seval,PY,PZ,AS,q0,q1,hl,SX,hid];exact ⟨_,rfl⟩
  | false=>
   simp only [Aav,if_false];cases f2:Bs L 1 [109,111,100,101] i with
   | true=>
    simp only [if_true];have BF:=AO hT hi f2 (by decide);have h0:=Cc (id:=id) (o:=o) (i:=(i+1)) hR BF hT 1 1 rfl [105,115];cases r0:Bt L 1 [105,115] (i+1) with
    | out=>exact AT
    | bad t e=>
     rw [r0] at h0;obtain ⟨i',o',h0⟩:=h0;refine AM ⟨i',o',Ax hR fun bx hid hc=>?_⟩;have q0:=Ab hid hc hR (Ae (id:=id) (o:=o) hR hi hT _ f0);have q1:=Ab hid hc hR (Ae (id:=id) (o:=o) hR hi hT _ f1);have q2:=Ab hid hc hR (As (id:=id) (o:=o) hR hi hT _ f2);have t0:=Am hid hc hR h0;rw [AB rfl];unfold Ap;rw [<- Al];rw [<- AI] at q0 q1 q2 t0;simp only [Aa,Ac,Aaw,Aau];simp only [S9,Af,seval,PY,PZ,AS,q0,q1,q2,t0,hid];exact ⟨_,rfl⟩
    | ok a0 i0=>
     rw [r0] at h0;dsimp only [Au];have j0:=A4 hT BF (by decide) r0;have rT:=j0.2;have h1:=Hh (id:=id) (o:=o) (i:=i0) hR rT hT;cases r1:DF L i0 with
     | out=>exact AT
     | bad t e=>
      rw [r1] at h1;obtain ⟨i',o',h1⟩:=h1;refine AM ⟨i',o',Ax hR fun bx hid hc=>?_⟩;have q0:=Ab hid hc hR (Ae (id:=id) (o:=o) hR hi hT _ f0);have q1:=Ab hid hc hR (Ae (id:=id) (o:=o) hR hi hT _ f1);have q2:=Ab hid hc hR (As (id:=id) (o:=o) hR hi hT _ f2);have t0:=Ab hid hc hR h0;have t1:=Am hid hc hR h1;rw [AB rfl];unfold Ap;rw [<- Al];rw [<- AI] at q0 q1 q2 t0 t1;simp only [Aa,Ac,Aaw,Aau];simp only [S9,Af,seval,PY,PZ,AS,q0,q1,q2,t0,t1,hid];exact ⟨_,rfl⟩
     | ok a1 i1=>
      rw [r1] at h1;dsimp only [Au];have j1:=C1 hT rT r1;have Th:=j1.2;refine Bi (A5 hR (fun n=>by rw [An];simp only [SX,PV.under]) fun bx hid hc=>?_);have q0:=Ab hid hc hR (Ae (id:=id) (o:=o) hR hi hT _ f0);have q1:=Ab hid hc hR (Ae (id:=id) (o:=o) hR hi hT _ f1);have q2:=Ab hid hc hR (As (id:=id) (o:=o) hR hi hT _ f2);have t0:=Ab hid hc hR h0;have t1:=Ab hid hc hR h1;rw [Jp];rw [AB rfl];unfold Ap zK zV;rw [<- Al];rw [<- AI] at q0 q1 q2 t0 t1;simp only [Aa,Ac,Aaw,Aau];simp only [S9,Af,seval,PY,PZ,AS,q0,q1,q2,t0,t1,gv,hid];exact ⟨_,rfl⟩
   | false=>
    simp only [Aav,if_false];cases f3:Bs L 1 [116,105,109,101] i with
    | true=>
     simp only [if_true];have BF:=AO hT hi f3 (by decide);have h0:=Ow (id:=id) (o:=o) (i:=(i+1)) hR BF hT;cases r0:Fo L (i+1) with
     | out=>exact AT
     | bad t e=>
      rw [r0] at h0;obtain ⟨i',o',h0⟩:=h0;refine AM ⟨i',o',Ax hR fun bx hid hc=>?_⟩;have q0:=Ab hid hc hR (Ae (id:=id) (o:=o) hR hi hT _ f0);have q1:=Ab hid hc hR (Ae (id:=id) (o:=o) hR hi hT _ f1);have q2:=Ab hid hc hR (Ae (id:=id) (o:=o) hR hi hT _ f2);have q3:=Ab hid hc hR (As (id:=id) (o:=o) hR hi hT _ f3);have t0:=Am hid hc hR h0;rw [AB rfl];unfold Ap;rw [<- Al];rw [<- AI] at q0 q1 q2 q3 t0;simp only [Aa,Ac,Aaw,Aau];simp only [S9,Af,seval,PY,PZ,AS,q0,q1,q2,q3,t0,Jo,hid];exact ⟨_,rfl⟩
     | ok a0 i0=>
      rw [r0] at h0;dsimp only [Au];have j0:=F9 hT BF r0;have rT:=j0.2.1;have h1:=Cc (id:=id) (o:=o) (i:=i0) hR rT hT 1 1 rfl [116,111];cases r1:Bt L 1 [116,111] i0 with
      | out=>exact AT
      | bad t e=>
       rw [r1] at h1;obtain ⟨i',o',h1⟩:=h1;refine AM ⟨i',o',Ax hR fun bx hid hc=>?_⟩;have q0:=Ab hid hc hR (Ae (id:=id) (o:=o) hR hi hT _ f0);have q1:=Ab hid hc hR (Ae (id:=id) (o:=o) hR hi hT _ f1);have q2:=Ab hid hc hR (Ae (id:=id) (o:=o) hR hi hT _ f2);have q3:=Ab hid hc hR (As (id:=id) (o:=o) hR hi hT _ f3);have t0:=Ab hid hc hR h0;have t1:=Am hid hc hR h1;rw [AB rfl];unfold Ap;rw [<- Al];rw [<- AI] at q0 q1 q2 q3 t0 t1;simp only [Aa,Ac,Aaw,Aau];simp only [S9,Af,seval,PY,PZ,AS,q0,q1,q2,q3,t0,t1,Jo,hid];exact ⟨_,rfl⟩
      | ok a1 i1=>
       rw [r1] at h1;dsimp only [Au];have j1:=A4 hT rT (by decide) r1;have Th:=j1.2;have h2:=Ow (id:=id) (o:=o) (i:=i1) hR Th hT;cases r2:Fo L i1 with
       | out=>exact AT
       | bad t e=>
        rw [r2] at h2;obtain ⟨i',o',h2⟩:=h2;refine AM ⟨i',o',Ax hR fun bx hid hc=>?_⟩;have q0:=Ab hid hc hR (Ae (id:=id) (o:=o) hR hi hT _ f0);have q1:=Ab hid hc hR (Ae (id:=id) (o:=o) hR hi hT _ f1);have q2:=Ab hid hc hR (Ae (id:=id) (o:=o) hR hi hT _ f2);have q3:=Ab hid hc hR (As (id:=id) (o:=o) hR hi hT _ f3);have t0:=Ab hid hc hR h0;have t1:=Ab hid hc hR h1;have t2:=Am hid hc hR h2;rw [AB rfl];unfold Ap;rw [<- Al];rw [<- AI] at q0 q1 q2 q3 t0 t1 t2;simp only [Aa,Ac,Aaw,Aau];simp only [S9,Af,seval,PY,PZ,AS,q0,q1,q2,q3,t0,t1,t2,Jo,hid];exact ⟨_,rfl⟩
       | ok a2 i2=>
        rw [r2] at h2;dsimp only [Au];have j2:=F9 hT Th r2;have qA:=j2.2.1;refine Bi (A5 hR (fun n=>by rw [An];simp only [SX,PV.under]) fun bx hid hc=>?_);have q0:=Ab hid hc hR (Ae (id:=id) (o:=o) hR hi hT _ f0);have q1:=Ab hid hc hR (Ae (id:=id) (o:=o) hR hi hT _ f1);have q2:=Ab hid hc hR (Ae (id:=id) (o:=o) hR hi hT _ f2);have q3:=Ab hid hc hR (As (id:=id) (o:=o) hR hi hT _ f3);have t0:=Ab hid hc hR h0;have t1:=Ab hid hc hR h1;have t2:=Ab hid hc hR h2;rw [Jp];rw [AB rfl];unfold Ap zK zV;rw [<- Al];rw [<- AI] at q0 q1 q2 q3 t0 t1 t2;simp only [Aa,Ac,Aaw,Aau];simp only [S9,Af,seval,PY,PZ,AS,q0,q1,q2,q3,t0,t1,t2,Jo,hid];exact ⟨_,rfl⟩
    | false=>
     simp only [Aav,if_false];cases f4:Bs L 1 [100,97,121,115] i with
     | true=>
      simp only [if_true];have BF:=AO hT hi f4 (by decide);have h0:=YL (id:=id) (o:=o) (i:=(i+1)) hR BF hT;cases r0:KC L (i+1) with
      | out=>exact AT
      | bad t e=>
       rw [r0] at h0;obtain ⟨i',o',h0⟩:=h0;refine AM ⟨i',o',Ax hR fun bx hid hc=>?_⟩;have q0:=Ab hid hc hR (Ae (id:=id) (o:=o) hR hi hT _ f0);have q1:=Ab hid hc hR (Ae (id:=id) (o:=o) hR hi hT _ f1);have q2:=Ab hid hc hR (Ae (id:=id) (o:=o) hR hi hT _ f2);have q3:=Ab hid hc hR (Ae (id:=id) (o:=o) hR hi hT _ f3);have q4:=Ab hid hc hR (As (id:=id) (o:=o) hR hi hT _ f4);have t0:=Am hid hc hR h0;rw [AB rfl];unfold Ap;rw [<- Al];rw [<- AI] at q0 q1 q2 q3 q4 t0;simp only [Aa,Ac,Aaw,Aau];simp only [S9,Af,seval,PY,PZ,AS,q0,q1,q2,q3,q4,t0,Jo,hid];exact ⟨_,rfl⟩
      | ok a0 i0=>
       rw [r0] at h0;dsimp only [Au];have j0:=Ng hT BF r0;have rT:=j0.2.1;refine Bi (A5 hR (fun n=>by rw [An];simp only [SX,PV.under]) fun bx hid hc=>?_);have q0:=Ab hid hc hR (Ae (id:=id) (o:=o) hR hi hT _ f0);have q1:=Ab hid hc hR (Ae (id:=id) (o:=o) hR hi hT _ f1);have q2:=Ab hid hc hR (Ae (id:=id) (o:=o) hR hi hT _ f2);have q3:=Ab hid hc hR (Ae (id:=id) (o:=o) hR hi hT _ f3);have q4:=Ab hid hc hR (As (id:=id) (o:=o) hR hi hT _ f4);have t0:=Ab hid hc hR h0;rw [Jp];rw [AB rfl];unfold Ap zK zV;rw [<- Al];rw [<- AI] at q0 q1 q2 q3 q4 t0;simp only [Aa,Ac,Aaw,Aau];simp only [S9,Af,seval,PY,PZ,AS,q0,q1,q2,q3,q4,t0,Jo,hid];exact ⟨_,rfl⟩
     | false=>
      simp only [Aav,if_false];cases f5:Bs L 1 [104,111,109,101] i with
      | true=>
       simp only [if_true];have BF:=AO hT hi f5 (by decide);have Ag:=fun bx hid hc e=>gz _ rfl (id:=id) (i:=i+1) (o:=o) (RL:=RL) hR BF hT bx hid hc 4 0 e rfl;rw [show C7.drop 0=C7 from rfl] at Ag;cases hp:C0 L 1 (i+1) C7 0 with
       | some k=>
        rw [hp] at Ag;refine Bi (A5 hR (fun n=>by rw [An];simp only [SX,PV.under]) fun bx hid hc=>?_);have Ag:=Ag bx hid hc;have q0:=Ab hid hc hR (Ae (id:=id) (o:=o) hR hi hT _ f0);have q1:=Ab hid hc hR (Ae (id:=id) (o:=o) hR hi hT _ f1);have q2:=Ab hid hc hR (Ae (id:=id) (o:=o) hR hi hT _ f2);have q3:=Ab hid hc hR (Ae (id:=id) (o:=o) hR hi hT _ f3);have q4:=Ab hid hc hR (Ae (id:=id) (o:=o) hR hi hT _ f4);have q5:=Ab hid hc hR (As (id:=id) (o:=o) hR hi hT _ f5);rw [Jp];rw [AB rfl];simp only [Aa,Ac,Aaw,Aau] at Ag |-;unfold Ap zK zV at *;rw [<- Al];rw [<- Al] at Ag;rw [<- AI] at q0 q1 q2 q3 q4 q5;simp only [S9,Af,seval,PY,PZ,AS,q0,q1,q2,q3,q4,q5,rb,hid];generalize hE:GM _ _=z
        have hP:YO L RL bx id (i+1) o (some k) z:=by
         rw [<- hE];refine Ag _ ?_ ?_ ?_ ?_
         · simp only [S7,Af,seval]
         · simp only [S7,Af,seval]
         · simp only [S7,Af,seval]
         · simp only [S7,Af,seval] <;> rfl
        obtain ⟨e',he,h2⟩:=hP;subst he;clear hE Ag;unfold Ap;simp only [S9,Af,seval,PY,PZ,AS,h2,hid];exact ⟨_,rfl⟩
       | none=>
        rw [hp] at Ag;refine Bi (A5 hR (fun n=>by rw [An];simp only [SX,PV.under]) fun bx hid hc=>?_);have Ag:=Ag bx hid hc;have q0:=Ab hid hc hR (Ae (id:=id) (o:=o) hR hi hT _ f0);have q1:=Ab hid hc hR (Ae (id:=id) (o:=o) hR hi hT _ f1);have q2:=Ab hid hc hR (Ae (id:=id) (o:=o) hR hi hT _ f2);have q3:=Ab hid hc hR (Ae (id:=id) (o:=o) hR hi hT _ f3);have q4:=Ab hid hc hR (Ae (id:=id) (o:=o) hR hi hT _ f4);have q5:=Ab hid hc hR (As (id:=id) (o:=o) hR hi hT _ f5);rw [Jp];rw [AB rfl];simp only [Aa,Ac,Aaw,Aau] at Ag |-;unfold Ap zK zV at *;rw [<- Al];rw [<- Al] at Ag;rw [<- AI] at q0 q1 q2 q3 q4 q5;simp only [S9,Af,seval,PY,PZ,AS,q0,q1,q2,q3,q4,q5,rb,hid];generalize hE:GM _ _=z
        have hP:YO L RL bx id (i+1) o (none) z:=by
         rw [<- hE];refine Ag _ ?_ ?_ ?_ ?_
         · simp only [S7,Af,seval]
         · simp only [S7,Af,seval]
         · simp only [S7,Af,seval]
         · simp only [S7,Af,seval] <;> rfl
        obtain ⟨e',he,h0,h2⟩:=hP;subst he;clear hE Ag;unfold Ap;have hb:=oG 15;simp only [S9,Af,seval,PY,PZ,AS,h0,h2,hb,hid];exact ⟨_,rfl⟩
      | false=>
       simp only [Aav,if_false];refine AM ⟨i,o,Ax hR fun bx hid hc=>?_⟩;have q0:=Ab hid hc hR (Ae (id:=id) (o:=o) hR hi hT _ f0);have q1:=Ab hid hc hR (Ae (id:=id) (o:=o) hR hi hT _ f1);have q2:=Ab hid hc hR (Ae (id:=id) (o:=o) hR hi hT _ f2);have q3:=Ab hid hc hR (Ae (id:=id) (o:=o) hR hi hT _ f3);have q4:=Ab hid hc hR (Ae (id:=id) (o:=o) hR hi hT _ f4);have q5:=Ab hid hc hR (Ae (id:=id) (o:=o) hR hi hT _ f5);have t2:=Ab hid hc hR (AA (id:=id) (o:=o) hR hi);have t3:=Am hid hc hR (CF (id:=id) (i:=i) (o:=o) (L:=L) hR (tokAt L i).1 (tokAt L i).2.1 (tokAt L i).2.2 12);rw [AB rfl];unfold Ap atT;rw [<- Al];rw [<- AI] at q0 q1 q2 q3 q4 q5 t2 t3;simp only [Aa,Ac,Aaw,Aau];simp only [S9,Af,seval,PY,PZ,AS,q0,q1,q2,q3,q4,q5,t2,t3,hid];exact ⟨_,rfl⟩
theorem kp {id:Nat} {L:List Tk} {RL:PV} (hR:RL.pure=true) (hT:TokOK L) (n:Nat) (hx:FK 99 .expr id L RL n):FK 187 .prim id L RL (n+1):=by
 intro i o hi ho;rw [pz];have hw:Ab4 .i64 ((i:Int)+1)=((i+1:Nat):Int):=by rw [wrap_i64 ⟨by omega,by have:=hT.len;omega⟩];omega
 have k2:=Oq (tokAt L i).1 2;have k3:=Oq (tokAt L i).1 3;cases hp:Cz L i with
 | true=>
  simp only [if_true];have hk:(tokAt L i).1=2:=by unfold Cz at hp;simp only [Ab9,beq_iff_eq] at hp;exact hp.1
  have eU:=Gy (tokAt L i) (hT.word i) (hT.num i hk).1 (hT.num i hk).2;have hl:=bq 2 ((amtN (tokAt L i).2.1 0:Nat):Int);unfold Ol at eU;refine Bi (A5 hR (fun n=>by rw [An];simp only [SX,PV.under]) fun bx hid hc=>?_);have t0:=Ab hid hc hR (AA (id:=id) (o:=o) hR hi);have tp:=Ab hid hc hR (Cm (id:=id) (o:=o) hR hi hT);rw [hp] at tp;rw [An];rw [AU rfl];unfold Ap;rw [<- Al];rw [<- AI] at t0 tp eU hl;simp only [Aa,Ac,Aaz,Aau];simp only [S9,Af,seval,PY,PZ,AS,t0,tp,eU,hl,hw,SX,hid];exact ⟨_,rfl⟩
 | false=>
  simp only [Aav,if_false];by_cases hk:(tokAt L i).1=2
  · rw [if_pos hk]
    rw [beq_iff_eq.2 hk] at k2;have k2:(((tokAt L i).1:Int) == 2)=true:=k2;have h1:=Wx (id:=id) (o:=o) (i:=i) hR hi hT;cases r1:Ea L i with
    | out=>exact AT
    | bad t e=>
     rw [r1] at h1;obtain ⟨i',o',h1⟩:=h1;refine AM ⟨i',o',Ax hR fun bx hid hc=>?_⟩;have t0:=Ab hid hc hR (AA (id:=id) (o:=o) hR hi);have tp:=Ab hid hc hR (Cm (id:=id) (o:=o) hR hi hT);rw [hp] at tp;have t1:=Am hid hc hR h1;rw [AU rfl];unfold Ap;rw [<- Al];rw [<- AI] at t0 tp t1;simp only [Aa,Ac,Aaz,Aau];simp only [S9,Af,seval,PY,PZ,AS,t0,tp,t1,k2,hid];exact ⟨_,rfl⟩
    | ok k j=>
     rw [r1] at h1;dsimp only [Au];refine Bi (A5 hR (fun n=>by rw [An];simp only [SX,PV.under]) fun bx hid hc=>?_);have t0:=Ab hid hc hR (AA (id:=id) (o:=o) hR hi);have tp:=Ab hid hc hR (Cm (id:=id) (o:=o) hR hi hT);rw [hp] at tp;have t1:=Ab hid hc hR h1;unfold sL at t1;rw [Jp];rw [AU rfl];unfold Ap zV;rw [<- Al];rw [<- AI] at t0 tp t1;simp only [Aa,Ac,Aaz,Aau];simp only [S9,Af,seval,PY,PZ,AS,t0,tp,t1,k2,gx,hid];exact ⟨_,rfl⟩
  · rw [if_neg hk]
    rw [beq_eq_false_iff_ne.2 hk] at k2;have k2:(((tokAt L i).1:Int) == 2)=false:=k2;by_cases zA:(tokAt L i).1=3
    · rw [if_pos zA]
      rw [beq_iff_eq.2 zA] at k3;have k3:(((tokAt L i).1:Int) == 3)=true:=k3;refine Bi (A5 hR (fun n=>by rw [An];simp only [SX,PV.under]) fun bx hid hc=>?_);have t0:=Ab hid hc hR (AA (id:=id) (o:=o) hR hi);have tp:=Ab hid hc hR (Cm (id:=id) (o:=o) hR hi hT);rw [hp] at tp;rw [Jp];rw [AU rfl];unfold Ap zK;rw [<- Al];rw [<- AI] at t0 tp;simp only [Aa,Ac,Aaz,Aau];simp only [S9,Af,seval,PY,PZ,AS,t0,tp,k2,k3,hw,oH,gy,hid];exact ⟨_,rfl⟩
    · rw [if_neg zA]
      rw [beq_eq_false_iff_ne.2 zA] at k3;have k3:(((tokAt L i).1:Int) == 3)=false:=k3;cases f0:Bs L 4 [35] i with
      | true=>
       simp only [if_true];have BF:=AO hT hi f0 (by decide);have h1:=Hi (id:=id) (o:=o) (i:=i+1) hR BF hT 0 63 0 63 rfl rfl;cases r1:Hu L 0 63 (i+1) with
       | out=>exact AT
       | bad t e=>
        rw [r1] at h1;obtain ⟨i',o',h1⟩:=h1;refine AM ⟨i',o',Ax hR fun bx hid hc=>?_⟩;have t0:=Ab hid hc hR (AA (id:=id) (o:=o) hR hi);have tp:=Ab hid hc hR (Cm (id:=id) (o:=o) hR hi hT);rw [hp] at tp;have q0:=Ab hid hc hR (Bd (id:=id) (o:=o) hR hi hT _ f0);have t1:=Am hid hc hR h1;rw [AU rfl];unfold Ap;rw [<- Al];rw [<- AI] at t0 tp q0 t1;simp only [Aa,Ac,Aaz,Aau];simp only [S9,Af,seval,PY,PZ,AS,t0,tp,k2,k3,q0,t1,hid];exact ⟨_,rfl⟩
       | ok m j=>
        rw [r1] at h1;dsimp only [Au];have hl:=bq 3 (m:Int);refine Bi (A5 hR (fun n=>by rw [An];simp only [SX,PV.under]) fun bx hid hc=>?_);have t0:=Ab hid hc hR (AA (id:=id) (o:=o) hR hi);have tp:=Ab hid hc hR (Cm (id:=id) (o:=o) hR hi hT);rw [hp] at tp;have q0:=Ab hid hc hR (Bd (id:=id) (o:=o) hR hi hT _ f0);have t1:=Ab hid hc hR h1;rw [An];rw [AU rfl];unfold Ap;rw [<- Al];rw [<- AI] at t0 tp q0 t1 hl;simp only [Aa,Ac,Aaz,Aau];simp only [S9,Af,seval,PY,PZ,AS,t0,tp,k2,k3,q0,t1,hl,SX,hid];exact ⟨_,rfl⟩
      | false=>
       simp only [Aav,if_false];cases f1:Bs L 4 [40] i with
       | true=>
        simp only [if_true];have BF:=AO hT hi f1 (by decide);by_cases BC:o < 100
        · rw [if_pos BC]
          have vu:Ab4 .i64 (((o+1:Nat):Int) - 1)=((o:Nat):Int):=by rw [wrap_i64 ⟨by omega,by omega⟩];omega
          have h1:=hx (i+1) (o+1) BF (by omega);cases r1:pz L n .expr (o+1) (i+1) with
          | out=>exact AT
          | bad t e=>
           rw [r1] at h1;obtain ⟨i',o',h1⟩:=h1;refine AM ⟨i',o',Ax hR fun bx hid hc=>?_⟩;have t0:=Ab hid hc hR (AA (id:=id) (o:=o) hR hi);have tp:=Ab hid hc hR (Cm (id:=id) (o:=o) hR hi hT);rw [hp] at tp;have q0:=Ab hid hc hR (AQ (id:=id) (o:=o) hR hi hT _ f0);have q1:=Ab hid hc hR (Bd (id:=id) (o:=o) hR hi hT _ f1);have te:=Ab hid hc hR (CX (id:=id) (L:=L) (i:=i+1) hR BC (tokAt L i).1 (tokAt L i).2.1 (tokAt L i).2.2);have t1:=Am hid hc hR h1;rw [AU rfl];unfold Ap;rw [<- Al];rw [<- AI] at t0 tp q0 q1 te t1;simp only [Aa,Ac,Aaz,Aau];simp only [S9,Af,seval,PY,PZ,AS,t0,tp,k2,k3,q0,q1,te,t1,hid];exact ⟨_,rfl⟩
          | ok a j=>
           rw [r1] at h1;dsimp only [Au];have hj:=(Hj hT _ _ _ _ _ _ BF r1).2;have h2:=Cc (id:=id) (o:=o+1) (i:=j) hR hj hT 4 4 rfl [41];cases r2:Bt L 4 [41] j with
           | out=>exact AT
           | bad t e=>
            rw [r2] at h2;obtain ⟨i',o',h2⟩:=h2;refine AM ⟨i',o',Ax hR fun bx hid hc=>?_⟩;have t0:=Ab hid hc hR (AA (id:=id) (o:=o) hR hi);have tp:=Ab hid hc hR (Cm (id:=id) (o:=o) hR hi hT);rw [hp] at tp;have q0:=Ab hid hc hR (AQ (id:=id) (o:=o) hR hi hT _ f0);have q1:=Ab hid hc hR (Bd (id:=id) (o:=o) hR hi hT _ f1);have te:=Ab hid hc hR (CX (id:=id) (L:=L) (i:=i+1) hR BC (tokAt L i).1 (tokAt L i).2.1 (tokAt L i).2.2);have t1:=Ab hid hc hR h1;rw [An] at t1;have t2:=Am hid hc hR h2;rw [AU rfl];unfold Ap;rw [<- Al];rw [<- AI] at t0 tp q0 q1 te t1 t2;simp only [Aa,Ac,Aaz,Aau];simp only [S9,Af,seval,PY,PZ,AS,t0,tp,k2,k3,q0,q1,te,t1,t2,SX,hid];exact ⟨_,rfl⟩
           | ok u j2=>
            rw [r2] at h2;dsimp only [Au];refine Bi (A5 hR (fun n=>by rw [An];simp only [SX,PV.under]) fun bx hid hc=>?_);have t0:=Ab hid hc hR (AA (id:=id) (o:=o) hR hi);have tp:=Ab hid hc hR (Cm (id:=id) (o:=o) hR hi hT);rw [hp] at tp;have q0:=Ab hid hc hR (AQ (id:=id) (o:=o) hR hi hT _ f0);have q1:=Ab hid hc hR (Bd (id:=id) (o:=o) hR hi hT _ f1);have te:=Ab hid hc hR (CX (id:=id) (L:=L) (i:=i+1) hR BC (tokAt L i).1 (tokAt L i).2.1 (tokAt L i).2.2);have t1:=Ab hid hc hR h1;rw [An] at t1;have t2:=Ab hid hc hR h2;rw [An];rw [AU rfl];unfold Ap;rw [<- Al];rw [<- AI] at t0 tp q0 q1 te t1 t2;simp only [Aa,Ac,Aaz,Aau];simp only [S9,Af,seval,PY,PZ,AS,t0,tp,k2,k3,q0,q1,te,t1,t2,vu,SX,hid];exact ⟨_,rfl⟩
        · rw [if_neg BC]
          have vw:o=100:=by omega
          refine AM ⟨i+1,o+1,Ax hR fun bx hid hc=>?_⟩;have t0:=Ab hid hc hR (AA (id:=id) (o:=o) hR hi);have tp:=Ab hid hc hR (Cm (id:=id) (o:=o) hR hi hT);rw [hp] at tp;have q0:=Ab hid hc hR (AQ (id:=id) (o:=o) hR hi hT _ f0);have q1:=Ab hid hc hR (Bd (id:=id) (o:=o) hR hi hT _ f1);have te:=Am hid hc hR (Jm (id:=id) (L:=L) (i:=i+1) hR vw (tokAt L i).1 (tokAt L i).2.1 (tokAt L i).2.2);rw [AU rfl];unfold Ap atT;rw [<- Al];rw [<- AI] at t0 tp q0 q1 te;simp only [Aa,Ac,Aaz,Aau];simp only [S9,Af,seval,PY,PZ,AS,t0,tp,k2,k3,q0,q1,te,hid];exact ⟨_,rfl⟩
       | false=>
        simp only [Aav,if_false];have h1:=ko (id:=id) (o:=o) (i:=i) hR hi hT;cases r1:Fp L i with
        | out=>exact AT
        | bad t e=>
         rw [r1] at h1;obtain ⟨i',o',h1⟩:=h1;refine AM ⟨i',o',Ax hR fun bx hid hc=>?_⟩;have t0:=Ab hid hc hR (AA (id:=id) (o:=o) hR hi);have tp:=Ab hid hc hR (Cm (id:=id) (o:=o) hR hi hT);rw [hp] at tp;have q0:=Ab hid hc hR (AQ (id:=id) (o:=o) hR hi hT _ f0);have q1:=Ab hid hc hR (AQ (id:=id) (o:=o) hR hi hT _ f1);have t1:=Am hid hc hR h1;rw [AU rfl];unfold Ap;rw [<- Al];rw [<- AI] at t0 tp q0 q1 t1;simp only [Aa,Ac,Aaz,Aau];simp only [S9,Af,seval,PY,PZ,AS,t0,tp,k2,k3,q0,q1,t1,hid];exact ⟨_,rfl⟩
        | ok a j=>
         rw [r1] at h1;refine Bi (A5 hR (fun n=>by rw [An];simp only [SX,PV.under]) fun bx hid hc=>?_);have t0:=Ab hid hc hR (AA (id:=id) (o:=o) hR hi);have tp:=Ab hid hc hR (Cm (id:=id) (o:=o) hR hi hT);rw [hp] at tp;have q0:=Ab hid hc hR (AQ (id:=id) (o:=o) hR hi hT _ f0);have q1:=Ab hid hc hR (AQ (id:=id) (o:=o) hR hi hT _ f1);have t1:=Ab hid hc hR h1;rw [An] at t1;rw [An];rw [AU rfl];unfold Ap;rw [<- Al];rw [<- AI] at t0 tp q0 q1 t1;simp only [Aa,Ac,Aaz,Aau];simp only [S9,Af,seval,PY,PZ,AS,t0,tp,k2,k3,q0,q1,t1,SX,hid];exact ⟨_,rfl⟩
theorem sO {id:Nat} {L:List Tk} {RL:PV} (hR:RL.pure=true) (hT:TokOK L) (n:Nat) (hp:FK 187 .prim id L RL n) (hx:FK 184 .un id L RL n):FK 184 .un id L RL (n+1):=by
 intro i o hi ho;rw [pz];cases f0:Bs L 4 [45] i with
 | false=>
  simp only [Aav,if_false];have h1:=hp i o hi ho;cases r1:pz L n .prim o i with
  | out=>exact AT
  | bad t e=>
   rw [r1] at h1;obtain ⟨i',o',h1⟩:=h1;refine AM ⟨i',o',Ax hR fun bx hid hc=>?_⟩;have t0:=Ab hid hc hR (AA (id:=id) (o:=o) hR hi);have q0:=Ab hid hc hR (AQ (id:=id) (o:=o) hR hi hT _ f0);have t1:=Am hid hc hR h1;rw [BJ rfl];unfold Ap;rw [<- Al];rw [<- AI] at t0 q0 t1;simp only [Aa,Ac,Ab1,Aau];simp only [S9,Af,seval,PY,PZ,AS,t0,q0,t1,hid];exact ⟨_,rfl⟩
  | ok a j=>
   rw [r1] at h1;refine Bi (A5 hR (fun n=>by rw [An];simp only [SX,PV.under]) fun bx hid hc=>?_);have t0:=Ab hid hc hR (AA (id:=id) (o:=o) hR hi);have q0:=Ab hid hc hR (AQ (id:=id) (o:=o) hR hi hT _ f0);have t1:=Ab hid hc hR h1;rw [An] at t1;rw [An];rw [BJ rfl];unfold Ap;rw [<- Al];rw [<- AI] at t0 q0 t1;simp only [Aa,Ac,Ab1,Aau];simp only [S9,Af,seval,PY,PZ,AS,t0,q0,t1,SX,hid];exact ⟨_,rfl⟩
 | true=>
  simp only [if_true];have BF:=AO hT hi f0 (by decide);cases hq:Cz L (i+1) with
  | true=>
   simp only [if_true];have hk:(tokAt L (i+1)).1=2:=by unfold Cz at hq;simp only [Ab9,beq_iff_eq] at hq;exact hq.1
   have eU:=Gy (tokAt L (i+1)) (hT.word (i+1)) (hT.num (i+1) hk).1 (hT.num (i+1) hk).2;have ZP:=(hT.num (i+1) hk).2;have hl:=bq 2 (-((amtN (tokAt L (i+1)).2.1 0:Nat):Int));have nj:Ab4 .i64 (0 - ((amtN (tokAt L (i+1)).2.1 0:Nat):Int))=-((amtN (tokAt L (i+1)).2.1 0:Nat):Int):=by rw [wrap_i64 ⟨by omega,by omega⟩];omega
   have h1:=QI (id:=id) (o:=o) (i:=i+1) hR BF hT 2 2 rfl;unfold P7 at h1;rw [if_pos hk] at h1;unfold Ol at eU;refine Bi (A5 hR (fun n=>by rw [An];simp only [SX,PV.under]) fun bx hid hc=>?_);have t0:=Ab hid hc hR (AA (id:=id) (o:=o) hR hi);have q0:=Ab hid hc hR (Bd (id:=id) (o:=o) hR hi hT _ f0);have tp:=Ab hid hc hR (Cm (id:=id) (i:=i+1) (o:=o) hR BF hT);rw [hq] at tp;have t1:=Ab hid hc hR h1;rw [An];rw [BJ rfl];unfold Ap;rw [<- Al];rw [<- AI] at t0 q0 tp t1 eU hl;simp only [Aa,Ac,Ab1,Aau];simp only [S9,Af,seval,PY,PZ,AS,t0,q0,tp,t1,eU,hl,nj,SX,hid];exact ⟨_,rfl⟩
  | false=>
   simp only [Aav,if_false];by_cases BC:o < 100
   · rw [if_pos BC]
     have vu:Ab4 .i64 (((o+1:Nat):Int) - 1)=((o:Nat):Int):=by rw [wrap_i64 ⟨by omega,by omega⟩];omega
     have h1:=hx (i+1) (o+1) BF (by omega);cases r1:pz L n .un (o+1) (i+1) with
     | out=>exact AT
     | bad t e=>
      rw [r1] at h1;obtain ⟨i',o',h1⟩:=h1;refine AM ⟨i',o',Ax hR fun bx hid hc=>?_⟩;have t0:=Ab hid hc hR (AA (id:=id) (o:=o) hR hi);have q0:=Ab hid hc hR (Bd (id:=id) (o:=o) hR hi hT _ f0);have tp:=Ab hid hc hR (Cm (id:=id) (i:=i+1) (o:=o) hR BF hT);rw [hq] at tp;have te:=Ab hid hc hR (CX (id:=id) (L:=L) (i:=i+1) hR BC (tokAt L i).1 (tokAt L i).2.1 (tokAt L i).2.2);have t1:=Am hid hc hR h1;rw [BJ rfl];unfold Ap;rw [<- Al];rw [<- AI] at t0 q0 tp te t1;simp only [Aa,Ac,Ab1,Aau];simp only [S9,Af,seval,PY,PZ,AS,t0,q0,tp,te,t1,hid];exact ⟨_,rfl⟩
     | ok a j=>
      rw [r1] at h1;dsimp only [Au];have hl:=bq 2 0;have hb:=Ud (En 2 0) a;have hn:=Ue 12 (En 2 0) a;refine Bi (A5 hR (fun n=>by rw [An];simp only [SX,PV.under]) fun bx hid hc=>?_);have t0:=Ab hid hc hR (AA (id:=id) (o:=o) hR hi);have q0:=Ab hid hc hR (Bd (id:=id) (o:=o) hR hi hT _ f0);have tp:=Ab hid hc hR (Cm (id:=id) (i:=i+1) (o:=o) hR BF hT);rw [hq] at tp;have te:=Ab hid hc hR (CX (id:=id) (L:=L) (i:=i+1) hR BC (tokAt L i).1 (tokAt L i).2.1 (tokAt L i).2.2);have t1:=Ab hid hc hR h1;rw [An] at t1;rw [An];rw [BJ rfl];unfold Ap;rw [<- Al];rw [<- AI] at t0 q0 tp te t1 hl hn;simp only [Aa,Ac,Ab1,Aau];simp only [S9,Af,seval,PY,PZ,AS,t0,q0,tp,te,t1,hl,hb,hn,vu,SX,hid];exact ⟨_,rfl⟩
   · rw [if_neg BC]
     have vw:o=100:=by omega
     refine AM ⟨i+1,o+1,Ax hR fun bx hid hc=>?_⟩;have t0:=Ab hid hc hR (AA (id:=id) (o:=o) hR hi);have q0:=Ab hid hc hR (Bd (id:=id) (o:=o) hR hi hT _ f0);have tp:=Ab hid hc hR (Cm (id:=id) (i:=i+1) (o:=o) hR BF hT);rw [hq] at tp;have te:=Am hid hc hR (Jm (id:=id) (L:=L) (i:=i+1) hR vw (tokAt L i).1 (tokAt L i).2.1 (tokAt L i).2.2);rw [BJ rfl];unfold Ap atT;rw [<- Al];rw [<- AI] at t0 q0 tp te;simp only [Aa,Ac,Ab1,Aau];simp only [S9,Af,seval,PY,PZ,AS,t0,q0,tp,te,hid];exact ⟨_,rfl⟩
theorem oI {id:Nat} {L:List Tk} {RL:PV} (hR:RL.pure=true) (hT:TokOK L) (n:Nat) (hp:FK 162 .cmp id L RL n) (hx:FK 139 .not id L RL n):FK 139 .not id L RL (n+1):=by
 intro i o hi ho;rw [pz];cases f0:Bs L 1 [110,111,116] i with
 | false=>
  simp only [Aav,if_false];have h1:=hp i o hi ho;cases r1:pz L n .cmp o i with
  | out=>exact AT
  | bad t e=>
   rw [r1] at h1;obtain ⟨i',o',h1⟩:=h1;refine AM ⟨i',o',Ax hR fun bx hid hc=>?_⟩;have t0:=Ab hid hc hR (AA (id:=id) (o:=o) hR hi);have q0:=Ab hid hc hR (Ae (id:=id) (o:=o) hR hi hT _ f0);have t1:=Am hid hc hR h1;rw [Cj rfl];unfold Ap;rw [<- Al];rw [<- AI] at t0 q0 t1;simp only [Aa,Ac,Ab2,Aau];simp only [S9,Af,seval,PY,PZ,AS,t0,q0,t1,hid];exact ⟨_,rfl⟩
  | ok a j=>
   rw [r1] at h1;refine Bi (A5 hR (fun n=>by rw [An];simp only [SX,PV.under]) fun bx hid hc=>?_);have t0:=Ab hid hc hR (AA (id:=id) (o:=o) hR hi);have q0:=Ab hid hc hR (Ae (id:=id) (o:=o) hR hi hT _ f0);have t1:=Ab hid hc hR h1;rw [An] at t1;rw [An];rw [Cj rfl];unfold Ap;rw [<- Al];rw [<- AI] at t0 q0 t1;simp only [Aa,Ac,Ab2,Aau];simp only [S9,Af,seval,PY,PZ,AS,t0,q0,t1,SX,hid];exact ⟨_,rfl⟩
 | true=>
  simp only [if_true];have BF:=AO hT hi f0 (by decide);by_cases BC:o < 100
  · rw [if_pos BC]
    have vu:Ab4 .i64 (((o+1:Nat):Int) - 1)=((o:Nat):Int):=by rw [wrap_i64 ⟨by omega,by omega⟩];omega
    have h1:=hx (i+1) (o+1) BF (by omega);cases r1:pz L n .not (o+1) (i+1) with
    | out=>exact AT
    | bad t e=>
     rw [r1] at h1;obtain ⟨i',o',h1⟩:=h1;refine AM ⟨i',o',Ax hR fun bx hid hc=>?_⟩;have t0:=Ab hid hc hR (AA (id:=id) (o:=o) hR hi);have q0:=Ab hid hc hR (As (id:=id) (o:=o) hR hi hT _ f0);have te:=Ab hid hc hR (CX (id:=id) (L:=L) (i:=i+1) hR BC (tokAt L i).1 (tokAt L i).2.1 (tokAt L i).2.2);have t1:=Am hid hc hR h1;rw [Cj rfl];unfold Ap;rw [<- Al];rw [<- AI] at t0 q0 te t1;simp only [Aa,Ac,Ab2,Aau];simp only [S9,Af,seval,PY,PZ,AS,t0,q0,te,t1,hid];exact ⟨_,rfl⟩
    | ok a j=>
     rw [r1] at h1;dsimp only [Au];have hb:=gp a;have hn:=oD 6 a;refine Bi (A5 hR (fun n=>by rw [An];simp only [SX,PV.under]) fun bx hid hc=>?_);have t0:=Ab hid hc hR (AA (id:=id) (o:=o) hR hi);have q0:=Ab hid hc hR (As (id:=id) (o:=o) hR hi hT _ f0);have te:=Ab hid hc hR (CX (id:=id) (L:=L) (i:=i+1) hR BC (tokAt L i).1 (tokAt L i).2.1 (tokAt L i).2.2);have t1:=Ab hid hc hR h1;rw [An] at t1;rw [An];rw [Cj rfl];unfold Ap;rw [<- Al];rw [<- AI] at t0 q0 te t1 hn;simp only [Aa,Ac,Ab2,Aau];simp only [S9,Af,seval,PY,PZ,AS,t0,q0,te,t1,hb,hn,vu,SX,hid];exact ⟨_,rfl⟩
  · rw [if_neg BC]
    have vw:o=100:=by omega
    refine AM ⟨i+1,o+1,Ax hR fun bx hid hc=>?_⟩;have t0:=Ab hid hc hR (AA (id:=id) (o:=o) hR hi);have q0:=Ab hid hc hR (As (id:=id) (o:=o) hR hi hT _ f0);have te:=Am hid hc hR (Jm (id:=id) (L:=L) (i:=i+1) hR vw (tokAt L i).1 (tokAt L i).2.1 (tokAt L i).2.2);rw [Cj rfl];unfold Ap atT;rw [<- Al];rw [<- AI] at t0 q0 te;simp only [Aa,Ac,Ab2,Aau];simp only [S9,Af,seval,PY,PZ,AS,t0,q0,te,hid];exact ⟨_,rfl⟩
theorem J6:Be CC Aay (Aay.body.getD .skip)=true:=by kernel_rfl
theorem Jq:CC.P.funcs[137]?=some Aay:=by kernel_rfl
theorem Ds {x:List PV} {b:List PBox} (h:x.length.ble Aay.ntmps=true):Ad CC 137 x b=CD CC Aay.results.toList (Cf CC (Aay.body.getD .skip) ⟨x,b⟩):=Ah (fn:=Aay) (c:=Aay.body.getD .skip) rfl rfl Jq rfl J6 (Ab0 h)
theorem Jr:Be CC Ab3 (Ab3.body.getD .skip)=true:=by kernel_rfl
theorem IG:CC.P.funcs[138]?=some Ab3:=by kernel_rfl
theorem Es {x:List PV} {b:List PBox} (h:x.length.ble Ab3.ntmps=true):Ad CC 138 x b=CD CC Ab3.results.toList (Cf CC (Ab3.body.getD .skip) ⟨x,b⟩):=Ah (fn:=Ab3) (c:=Ab3.body.getD .skip) rfl rfl IG rfl Jr (Ab0 h)
theorem KS:Be CC Ab5 (Ab5.body.getD .skip)=true:=by kernel_rfl
theorem J7:CC.P.funcs[99]?=some Ab5:=by kernel_rfl
theorem Bh {x:List PV} {b:List PBox} (h:x.length.ble Ab5.ntmps=true):Ad CC 99 x b=CD CC Ab5.results.toList (Cf CC (Ab5.body.getD .skip) ⟨x,b⟩):=Ah (fn:=Ab5) (c:=Ab5.body.getD .skip) rfl rfl J7 rfl KS (Ab0 h)
def Ext (id:Nat) (B0 B:List PBox):Prop:=∀ k,k≠id->k < B0.length->B[k]?=B0[k]?
theorem bu {bx:List PBox} {id:Nat} {P:PBox} {ys:List PBox}:Ext id bx (BX bx id P ys):=by
 intro k hk hl;unfold BX;rw [List.getElem?_append_left (by simpa using hl),List.getElem?_set_ne (Ne.symm hk)]
def ns (g:FuncId) (av:List PV) (nt:NT) (id:Nat) (L:List Tk) (RL:PV) (I O:Nat->Nat->Nat->Nat) (B0:List PBox) (n:Nat):Prop:=∀ m,m < n->∀ i o,i < L.length->o<=100->match pz L m nt o i with
 | .ok a j=>∀ B,Ext id B0 B->Nc L i o RL id B->Ai CC (Ad CC) g av B=some (.ret (Bw a),B.set id (Ap L j o RL))
 | .bad t c=>∀ B,Ext id B0 B->Nc L i o RL id B->Ai CC (Ad CC) g av B=some (.pan (B5 t c),B.set id (Ap L (I m i o) (O m i o) RL))
 | .out=>True
theorem oJ {f:FuncId} {nt:NT} {id:Nat} {L:List Tk} {RL:PV} {n:Nat} (h:∀ m,m < n->FK f nt id L RL m):∃ I O:Nat->Nat->Nat->Nat,∀ B0,ns f [.bp id 0] nt id L RL I O B0 n:=by
 have hx:∀ x:Nat×Nat×Nat,∃ y:Nat×Nat,x.1 < n->x.2.1 < L.length->x.2.2<=100->match pz L x.1 nt x.2.2 x.2.1 with
  | .ok a j=>T9 f [] id L RL x.2.1 x.2.2 (Bw a) j x.2.2
  | .bad t c=>Nd f [] id L RL x.2.1 x.2.2 t c y.1 y.2
  | .out=>True:=by
  intro ⟨m,i,o⟩;by_cases hc:m < n/\i < L.length/\o<=100
  · have:=h m hc.1 i o hc.2.1 hc.2.2
    simp only;cases hr:pz L m nt o i with
    | ok a j=>rw [hr] at this;exact ⟨(0,0),fun _ _ _=>this⟩
    | bad t c=>rw [hr] at this;obtain ⟨i',o',this⟩:=this;exact ⟨(i',o'),fun _ _ _=>this⟩
    | out=>exact ⟨(0,0),fun _ _ _=>trivial⟩
  · exact ⟨(0,0),fun a b c=>absurd ⟨a,b,c⟩ hc⟩
 obtain ⟨J,hJ⟩:=Ab7 hx;refine ⟨fun m i o=>(J (m,i,o)).1,fun m i o=>(J (m,i,o)).2,fun B0 m hm i o hi ho=>?_⟩;have:=hJ (m,i,o) hm hi ho;simp only at this;cases hr:pz L m nt o i with
 | ok a j=>rw [hr] at this;exact fun B _ hB=>this B hB
 | bad t c=>rw [hr] at this;exact fun B _ hB=>this B hB
 | out=>trivial
def bw (b:Bool):Int:=if b then 8 else 7
section
variable {bx:List PBox} {id:Nat} {L:List Tk} {i o:Nat} {RL:PV} (hid:id < bx.length) (hc:DM bx) (hR:RL.pure=true)
include hid hc hR
theorem WJ {g:FuncId} {av:List PV} {nt:NT} {I O:Nat->Nat->Nat->Nat} {n m:Nat} (h:ns g av nt id L RL I O bx n) (hm:m < n) (hi:i < L.length) (ho:o<=100) {a:Tr} {j:Nat} (hr:pz L m nt o i=.ok a j) (ys:List PBox) (hy:(ys.all fun x=>x.under (bx.length+ys.length))=true) :
 Ai CC (Ad CC) g av (BX bx id (.cells 92 [.sl (Bl L),.int .i64 ((i:Nat):Int),.int .i64 ((o:Nat):Int),RL]) ys)=some (.ret (.agg (Bp a)),BX bx id (.cells 92 [.sl (Bl L),.int .i64 ((j:Nat):Int),.int .i64 ((o:Nat):Int),RL]) ys):=by
 have:=h m hm i o hi ho;rw [hr] at this;have:=this _ bu (HM (i0:=i) (o0:=o) hid hc hR hy);rw [H4 hid,An] at this;exact this
theorem dG {g:FuncId} {av:List PV} {nt:NT} {I O:Nat->Nat->Nat->Nat} {n m:Nat} (h:ns g av nt id L RL I O bx n) (hm:m < n) (hi:i < L.length) (ho:o<=100) {t:Nat} {c:Int} (hr:pz L m nt o i=.bad t c) (ys:List PBox) (hy:(ys.all fun x=>x.under (bx.length+ys.length))=true) :
 Ai CC (Ad CC) g av (BX bx id (.cells 92 [.sl (Bl L),.int .i64 ((i:Nat):Int),.int .i64 ((o:Nat):Int),RL]) ys)=some (.pan (B5 t c),BX bx id (.cells 92 [.sl (Bl L),.int .i64 (((I m i o):Nat):Int),.int .i64 (((O m i o):Nat):Int),RL]) ys):=by
 have:=h m hm i o hi ho;rw [hr] at this;have:=this _ bu (HM (i0:=i) (o0:=o) hid hc hR hy);rw [H4 hid] at this;exact this
end
def WK (l:List Tr):List PV:=l.map fun t=>PV.agg (Bp t)
theorem dH (l:List Tr):(WK l).length=l.length:=by unfold WK;simp
theorem oK (l:List Tr) (a:Tr):WK l++[PV.agg (Bp a)]=WK (l++[a]):=by unfold WK;simp
theorem sP (a:Tr):([PV.agg (Bp a)].all fun y=>y.cells.length == 11)=true:=by simp [PV.cells,Nh]
noncomputable def kq:TypeInfo:=(Tryz.prog.info? 29).getD default
theorem apE (bytes:Nat) (hb:kq.bytes=bytes) (st:St) (al:List (Nat×Loc)) (s x:Operand) (d:Option Tmp):DT CC st al s x 27 27 d=match CY CC st al 29 s,CK (opd CC st.env x) with
 | some (l,xs),some ys=>MK bytes 11 29 st al l xs ys d
 | _,_=>none:=EV (i:=kq) (by kernel_rfl) (by kernel_rfl) (by kernel_rfl) (z:=(kq.zero).getD default) (by kernel_rfl) (by kernel_rfl) (by rw [show kq.size=11 from by kernel_rfl];decide) hb (by kernel_rfl)
theorem sQ:kq.bytes=136:=by kernel_rfl
theorem bz (Lc:Code) (hL:Lc=Aa Aay [1,1,0,0]) {id:Nat} {L:List Tk} {o:Nat} {RL:PV} (hR:RL.pure=true) (hT:TokOK L) (ho:o<=100) (b:Bool) (I O:Nat->Nat->Nat->Nat):∀ (m:Nat) (i:Nat) (acc:List Tr),i < L.length->acc≠[]->acc.length<=8->match pz L m (.chainL b acc) o i with
 | .ok v j=>∃ l:List Tr,v=jV b l/\l≠[]/\l.length<=8/\∀ (g:FuncId) (first cap av:List PV) (QU:first.map PV.shutV++cap.map PV.shutV=av) (UM:Ak av=false) (n:Nat) (wg:m<=n) (bx:List PBox) (hid:id < bx.length) (hc:DM bx) (Bb:ns g av (Er b) id L RL I O bx n) (e:List PV),getT e 0=.bp id 0->getT e 1=.str (Nb b)->getT e 2=.int .i64 (bw b)->getT e 3=.fn g first cap->getT e 8=.bp bx.length 0->getT e 9=.osl 29 (WK acc) ->
  ∃ e',Cf CC Lc ⟨e,BX bx id (Ap L i o RL) [.cells 29 [.int .i64 0,.int .i64 0,.int .i64 0,.str [],.int .i64 0,.int .i64 0,.str [],.int .i64 0,.str [],.str [],.nils]]⟩=some (.exit 0,⟨e',BX bx id (Ap L j o RL) [.cells 29 [.int .i64 0,.int .i64 0,.int .i64 0,.str [],.int .i64 0,.int .i64 0,.str [],.int .i64 0,.str [],.str [],.nils]]⟩)/\getT e' 2=.int .i64 (bw b)/\getT e' 8=.bp bx.length 0/\getT e' 9=.osl 29 (WK l)
 | .bad t c=>∃ i' o',∀ (g:FuncId) (first cap av:List PV) (QU:first.map PV.shutV++cap.map PV.shutV=av) (UM:Ak av=false) (n:Nat) (wg:m<=n) (bx:List PBox) (hid:id < bx.length) (hc:DM bx) (Bb:ns g av (Er b) id L RL I O bx n) (e:List PV),getT e 0=.bp id 0->getT e 1=.str (Nb b)->getT e 2=.int .i64 (bw b)->getT e 3=.fn g first cap->getT e 8=.bp bx.length 0->getT e 9=.osl 29 (WK acc) ->
  ∃ e' ys',Cf CC Lc ⟨e,BX bx id (Ap L i o RL) [.cells 29 [.int .i64 0,.int .i64 0,.int .i64 0,.str [],.int .i64 0,.int .i64 0,.str [],.int .i64 0,.str [],.str [],.nils]]⟩=some (.pan (B5 t c),⟨e',BX bx id (Ap L i' o' RL) ys'⟩)
 | .out=>True:=by
 have vW:=apE 136 sQ;intro m
 induction m with
 | zero=>intro i acc hi _ _;trivial
 | succ m ih=>
  intro i acc hi Dx hl8;rw [pz];have hlen:=dH acc;have hw:Ab4 .i64 ((i:Int)+1)=((i+1:Nat):Int):=by rw [wrap_i64 ⟨by omega,by have:=hT.len;omega⟩];omega
  cases hk:Bs L 1 (Nb b) i with
  | false=>
   simp only [Aav,if_false];refine ⟨acc,rfl,Dx,hl8,fun g first cap av QU UM n wg bx hid hc Bb e g0 g1 g2 g3 g8 g9=>?_⟩;have t0:=Ab hid hc hR (Dr (id:=id) (o:=o) hR hi 1 1 rfl (Nb b));rw [hk] at t0;rw [AX (Aa Aay [1,1,0,0,0]) hL];unfold Ap;rw [<- Al];rw [<- AI] at t0;simp only [Aa,Ac,Aay,Aau];simp only [S9,Af,seval,PY,PZ,AS,Aw,g0,g1,g2,g3,g8,g9,t0,hid];exact ⟨_,rfl,by simp only [S7,Af,seval,g2],by simp only [S7,Af,seval,g8],by simp only [S7,Af,seval,g9]⟩
  | true=>
   simp only [if_true];have BF:=AO hT hi hk (by decide);by_cases h8:acc.length=8
   · rw [if_pos h8]
     refine ⟨i,o,fun g first cap av QU UM n wg bx hid hc Bb e g0 g1 g2 g3 g8 g9=>?_⟩;have t0:=Ab hid hc hR (Dr (id:=id) (o:=o) hR hi 1 1 rfl (Nb b));rw [hk] at t0;have t2:=Ab hid hc hR (AA (id:=id) (o:=o) hR hi);have t3:=Am hid hc hR (CF (id:=id) (i:=i) (o:=o) (L:=L) hR (tokAt L i).1 (tokAt L i).2.1 (tokAt L i).2.2 3);have yS:(((WK acc).length:Int) == 8)=true:=by rw [hlen,h8];rfl
     rw [AX (Aa Aay [1,1,0,0,0]) hL];unfold Ap atT;rw [<- Al];rw [<- AI] at t0 t2 t3;simp only [Aa,Ac,Aay,Aau];simp only [S9,Af,seval,PY,PZ,AS,Aw,g0,g1,g2,g3,g8,g9,t0,t2,t3,yS,hid];exact ⟨_,_,rfl⟩
   · rw [if_neg h8]
     have yS:(((WK acc).length:Int) == 8)=false:=by rw [hlen];have:¬ (acc.length:Int)=8:=(by omega);exact beq_eq_false_iff_ne.2 this
     cases r1:pz L m (Er b) o (i+1) with
     | out=>trivial
     | bad t c=>
      refine ⟨I m (i+1) o,O m (i+1) o,fun g first cap av QU UM n wg bx hid hc Bb e g0 g1 g2 g3 g8 g9=>?_⟩;have t0:=Ab hid hc hR (Dr (id:=id) (o:=o) hR hi 1 1 rfl (Nb b));rw [hk] at t0;have t1:=dG hid hc hR Bb (by omega) BF ho r1;rw [AX (Aa Aay [1,1,0,0,0]) hL];unfold Ap;rw [<- Al];rw [<- AI] at t0 t1;simp only [Aa,Ac,Aay,Aau];simp only [S9,Af,seval,PY,PZ,AS,Aw,g0,g1,g2,g3,g8,g9,t0,t1,yS,QU,hw,hid];exact ⟨_,_,rfl⟩
     | ok a i1=>
      have Gu:=(Hj hT _ _ _ _ _ _ BF r1).2;dsimp only [Au];have key:=ih i1 (acc++[a]) Gu (by simp) (by simp;omega);have hb:=gp a;have EB:=sP a;have vz:(WK acc).length+[PV.agg (Bp a)].length<=1000000:=by rw [hlen];simp;omega
      have happ:=oK acc a;have hap0:=fun st al l d=>GL (bytes:=136) (size:=11) (e:=29) (st:=st) (al:=al) (l:=l) (d:=d) vz (by decide) EB;cases r2:pz L m (.chainL b (acc++[a])) o i1 with
      | out=>trivial
      | ok v j=>
       rw [r2] at key;obtain ⟨l,q1,q2,q3,key⟩:=key;refine ⟨l,q1,q2,q3,fun g first cap av QU UM n wg bx hid hc Bb e g0 g1 g2 g3 g8 g9=>?_⟩;have key:=key g first cap av QU UM n (by omega) bx hid hc Bb
       have t0:=Ab hid hc hR (Dr (id:=id) (o:=o) hR hi 1 1 rfl (Nb b));rw [hk] at t0;have t1:=WJ hid hc hR Bb (by omega) BF ho r1;rw [AX (Aa Aay [1,1,0,0,0]) hL];unfold Ap at key |-;generalize WK acc=xa at *;generalize WK (acc++[a])=xb at *;rw [<- Al];rw [<- Al] at key;rw [<- AI] at t0 t1;simp only [Aa,Ac,Aay,Aau];simp only [S9,Af,seval,PY,PZ,AS,Aw,g0,g1,g2,g3,g8,g9,t0,t1,yS,QU,hw,hb,vW,EB,vz,happ,hap0,UM,Ab6,Ab8,SX,hid];refine key _ ?_ ?_ ?_ ?_ ?_ ?_
       · simp only [S7,Af,seval,g0]
       · simp only [S7,Af,seval,g1]
       · simp only [S7,Af,seval,g2]
       · simp only [S7,Af,seval,g3]
       · simp only [S7,Af,seval,g8]
       · simp only [S7,Af,seval]
      | bad t c=>
       rw [r2] at key;obtain ⟨i',o',key⟩:=key;refine ⟨i',o',fun g first cap av QU UM n wg bx hid hc Bb e g0 g1 g2 g3 g8 g9=>?_⟩;have key:=key g first cap av QU UM n (by omega) bx hid hc Bb
       have t0:=Ab hid hc hR (Dr (id:=id) (o:=o) hR hi 1 1 rfl (Nb b));rw [hk] at t0;have t1:=WJ hid hc hR Bb (by omega) BF ho r1;rw [AX (Aa Aay [1,1,0,0,0]) hL];unfold Ap at key |-;generalize WK acc=xa at *;generalize WK (acc++[a])=xb at *;rw [<- Al];rw [<- Al] at key;rw [<- AI] at t0 t1;simp only [Aa,Ac,Aay,Aau];simp only [S9,Af,seval,PY,PZ,AS,Aw,g0,g1,g2,g3,g8,g9,t0,t1,yS,QU,hw,hb,vW,EB,vz,happ,hap0,UM,Ab6,Ab8,SX,hid];refine key _ ?_ ?_ ?_ ?_ ?_ ?_
       · simp only [S7,Af,seval,g0]
       · simp only [S7,Af,seval,g1]
       · simp only [S7,Af,seval,g2]
       · simp only [S7,Af,seval,g3]
       · simp only [S7,Af,seval,g8]
       · simp only [S7,Af,seval]
def CHc (b:Bool) (n:Nat) (id:Nat) (L:List Tk) (RL:PV):Prop:=∀ I O:Nat->Nat->Nat->Nat,∀ i o,i < L.length->o<=100->match pz L n (.chain b) o i with
 | .ok a j=>∀ (g:FuncId) (first cap av:List PV) (QU:first.map PV.shutV++cap.map PV.shutV=av) (UM:Ak av=false) (B:List PBox),ns g av (Er b) id L RL I O B n->Nc L i o RL id B->Ai CC (Ad CC) 137 [.bp id 0,.str (Nb b),.int .i64 (bw b),.fn g first cap] B=some (.ret (Bw a),B.set id (Ap L j o RL))
 | .bad t c=>∃ i' o',∀ (g:FuncId) (first cap av:List PV) (QU:first.map PV.shutV++cap.map PV.shutV=av) (UM:Ak av=false) (B:List PBox),ns g av (Er b) id L RL I O B n->Nc L i o RL id B->Ai CC (Ad CC) 137 [.bp id 0,.str (Nb b),.int .i64 (bw b),.fn g first cap] B=some (.pan (B5 t c),B.set id (Ap L i' o' RL))
 | .out=>True
theorem oL (b:Bool) (a:Tr):jV b [a]=a:=rfl
theorem kr (b:Bool) (l:List Tr) (h:2<=l.length):jV b l=Bf (bw b) l:=by
 match l,h with
 | x :: y :: r,_=>rfl
theorem WL {id:Nat} {L:List Tk} {RL:PV} (hR:RL.pure=true) (hT:TokOK L) (b:Bool):∀ n,CHc b n id L RL:=by
 intro n;cases n with
 | zero=>intro I O i o _ _;trivial
 | succ n=>
  intro I O i o hi ho;rw [pz];cases r1:pz L n (Er b) o i with
  | out=>trivial
  | bad t c=>
   refine ⟨I n i o,O n i o,fun g first cap av QU UM B Bb hB=>LU (P:=Ap L i o RL) (by simp [Ak,PV.pure]) hB.1 hB.2 (Bm L _ _ hR) (DQ _ _ _) ?_⟩;have hid:=(Aax.1 hB.2).1;have hc:=hB.1;have t1:=dG hid hc hR Bb (by omega) hi ho r1;rw [Ds rfl];unfold Ap;rw [<- Al];rw [<- AI] at t1;simp only [Aa,Ac,Aay,Aau];simp only [S9,Af,seval,PY,PZ,AS,Aw,t1,QU,UM,Ab6,hid];exact ⟨_,rfl⟩
  | ok a i1=>
   have BF:=(Hj hT _ _ _ _ _ _ hi r1).2;dsimp only [Au];have Ag:=bz _ rfl (id:=id) (RL:=RL) hR hT ho b I O n i1 [a] BF (by simp) (by simp);have hb:=gp a;cases r2:pz L n (.chainL b [a]) o i1 with
   | out=>trivial
   | bad t c=>
    rw [r2] at Ag;obtain ⟨i',o',Ag⟩:=Ag;refine ⟨i',o',fun g first cap av QU UM B Bb hB=>LU (P:=Ap L i o RL) (by simp [Ak,PV.pure]) hB.1 hB.2 (Bm L _ _ hR) (DQ _ _ _) ?_⟩;have hid:=(Aax.1 hB.2).1;have hc:=hB.1;have t1:=WJ hid hc hR Bb (by omega) hi ho r1;have Ag:=Ag g first cap av QU UM (n+1) (by omega) B hid hc Bb
    rw [Ds rfl];skip;simp only [Aa,Ac,Aay,Aau] at Ag |-;unfold Ap at Ag |-;skip;skip;rw [<- Al];rw [<- Al] at Ag;rw [<- AI] at t1;simp only [S9,Af,seval,PY,PZ,AS,Aw,t1,QU,UM,hb,SX,Ab6,hid];generalize hE:GM _ _=z
    have hP:∃ e' ys',z=some (.pan (B5 t c),⟨e',BX B id (.cells 92 [.sl (Bl L),.int .i64 ((i':Nat):Int),.int .i64 ((o':Nat):Int),RL]) ys'⟩):=by
     rw [<- hE];refine Ag _ ?_ ?_ ?_ ?_ ?_ ?_
     · simp only [S7,Af,seval]
     · simp only [S7,Af,seval]
     · simp only [S7,Af,seval]
     · simp only [S7,Af,seval]
     · simp only [S7,Af,seval]
     · simp only [S7,Af,seval] <;> rfl
    obtain ⟨e',ys',he⟩:=hP;subst he;clear hE Ag;simp only [S9,Af,seval,PY,PZ,AS,Aw,SX,hid];exact ⟨_,rfl⟩
   | ok v j=>
    rw [r2] at Ag;obtain ⟨l,rfl,Dx,hl8,Ag⟩:=Ag;refine fun g first cap av QU UM B Bb hB=>LU (P:=Ap L i o RL) (by simp [Ak,PV.pure]) hB.1 hB.2 (Bm L _ _ hR) (by rw [An];simp only [CR.under,SX,PV.under]) ?_
    have hid:=(Aax.1 hB.2).1;have hc:=hB.1;have t1:=WJ hid hc hR Bb (by omega) hi ho r1;have Ag:=Ag g first cap av QU UM (n+1) (by omega) B hid hc Bb
    rw [Ds rfl];rw [An];simp only [Aa,Ac,Aay,Aau] at Ag |-;unfold Ap at Ag |-;have hlA:=dH l;have qL:=oC (bw b) l;rw [<- Al];rw [<- Al] at Ag;rw [<- AI] at t1 qL;simp only [S9,Af,seval,PY,PZ,AS,Aw,t1,QU,UM,hb,SX,Ab6,hid];generalize hE:GM _ _=z
    have hP:∃ e',z=some (.exit 0,⟨e',BX B id (.cells 92 [.sl (Bl L),.int .i64 ((j:Nat):Int),.int .i64 ((o:Nat):Int),RL]) [.cells 29 [.int .i64 0,.int .i64 0,.int .i64 0,.str [],.int .i64 0,.int .i64 0,.str [],.int .i64 0,.str [],.str [],.nils]]⟩)/\getT e' 2=.int .i64 (bw b)/\getT e' 8=.bp B.length 0/\getT e' 9=.osl 29 (WK l):=by
     rw [<- hE];refine Ag _ ?_ ?_ ?_ ?_ ?_ ?_
     · simp only [S7,Af,seval]
     · simp only [S7,Af,seval]
     · simp only [S7,Af,seval]
     · simp only [S7,Af,seval]
     · simp only [S7,Af,seval]
     · simp only [S7,Af,seval] <;> rfl
    obtain ⟨e',he,k2,k8,k9⟩:=hP;subst he;clear hE Ag;by_cases h1:l.length=1
    · obtain ⟨a0,rfl⟩:∃ a0,l=[a0]:=by
       match l,h1 with
       | [a0],_=>exact ⟨a0,rfl⟩
      rw [oL];have QA:(([PV.agg (Bp a0)].length:Int) == 1)=true:=rfl;have hone':(((0+1:Nat):Int) == 1)=true:=rfl;rw [show WK [a0]=[PV.agg (Bp a0)] from rfl] at k9;simp only [S9,Af,seval,PY,PZ,AS,Aw,k2,k8,k9,QA,hone',SX,hid];exact ⟨_,rfl⟩
    · have HT:2<=l.length:=by
       have:l.length≠0:=fun h=>Dx (List.eq_nil_of_length_eq_zero h);omega
      rw [kr b l HT];have QA:(((WK l).length:Int) == 1)=false:=by rw [hlA];exact beq_eq_false_iff_ne.2 (by omega)
      have hnd':∀ bx,wo 141 [.int .i64 (bw b),.sl (WK l)] bx=some (.ret (.agg (Bp (Bf (bw b) l))),bx):=qL;simp only [S9,Af,seval,PY,PZ,AS,Aw,k2,k8,k9,QA,hnd',SX,hid];exact ⟨_,rfl⟩
theorem dI {bx:List PBox} {id k:Nat} {P:PBox} {ys:List PBox} (hk:k≠id) (hl:k < bx.length):(BX bx id P ys)[k]?=bx[k]?:=bu k hk hl
theorem WM {id:Nat} {L:List Tk} {RL:PV} (hR:RL.pure=true) (hT:TokOK L) (n:Nat) (hn:∀ m,m < n->FK 139 .not id L RL m):∃ I O:Nat->Nat->Nat->Nat,∀ (B0:List PBox) (n0:Nat),B0[n0]?=some (.cells 86 [.bp id 0])->n0≠id->ns 138 [.bp n0 0] (.chain false) id L RL I O B0 n:=by
 obtain ⟨I1,O1,Bb⟩:=oJ hn
 have hx:∀ x:Nat×Nat×Nat,∃ y:Nat×Nat,x.1 < n->x.2.1 < L.length->x.2.2<=100->∀ (t:Nat) (c:Int),pz L x.1 (.chain false) x.2.2 x.2.1=.bad t c->∀ (g:FuncId) (first cap av:List PV) (QU:first.map PV.shutV++cap.map PV.shutV=av) (UM:Ak av=false) (B:List PBox),ns g av (Er false) id L RL I1 O1 B x.1->Nc L x.2.1 x.2.2 RL id B->Ai CC (Ad CC) 137 [.bp id 0,.str (Nb false),.int .i64 (bw false),.fn g first cap] B=some (.pan (B5 t c),B.set id (Ap L y.1 y.2 RL)):=by
  intro ⟨m,i,o⟩;by_cases hc:i < L.length/\o<=100
  · have:=WL (id:=id) (RL:=RL) hR hT false m I1 O1 i o hc.1 hc.2
    cases hr:pz L m (.chain false) o i with
    | ok a j=>exact ⟨(0,0),fun _ _ _ t c h=>nomatch h⟩
    | out=>exact ⟨(0,0),fun _ _ _ t c h=>nomatch h⟩
    | bad t c=>
     rw [hr] at this;obtain ⟨i',o',this⟩:=this;refine ⟨(i',o'),fun _ _ _ t' c' h=>?_⟩;injection h with e1 e2
     subst e1 e2;exact this
  · exact ⟨(0,0),fun a b c=>absurd ⟨b,c⟩ hc⟩
 obtain ⟨J,hJ⟩:=Ab7 hx;refine ⟨fun m i o=>(J (m,i,o)).1,fun m i o=>(J (m,i,o)).2,fun B0 n0 Mw rV m hm i o hi ho=>?_⟩;have hbad:=hJ (m,i,o) hm hi ho;have EB:=WL (id:=id) (RL:=RL) hR hT false m I1 O1 i o hi ho;have Zy:n0 < B0.length:=(Aax.1 Mw).1;have eP:∀ B0,ns 139 [.bp id 0] (Er false) id L RL I1 O1 B0 m:=fun B0 q hq=>Bb B0 q (by omega);cases hr:pz L m (.chain false) o i with
 | out=>trivial
 | ok a j=>
  rw [hr] at EB;intro B vA hB;have qQ:B[n0]?=some (.cells 86 [.bp id 0]):=by rw [vA n0 rV Zy];exact Mw
  have hid:=(Aax.1 hB.2).1;have qM:=(Aax.1 qQ).1;have hc:=hB.1;refine LU (P:=Ap L i o RL) (by simp [Ak,PV.pure]) hB.1 hB.2 (Bm L _ _ hR) (by rw [An];simp only [CR.under,SX,PV.under]) ?_;have vB:Nc L i o RL id (BX B id (Ap L i o RL) [.cells 29 [.int .i64 0,.int .i64 0,.int .i64 0,.str [],.int .i64 0,.int .i64 0,.str [],.int .i64 0,.str [],.str [],.nils]]):=HM (i0:=i) (o0:=o) hid hc hR (by simp only [SU]);have t1:=EB 139 [.bp id 0] [] [.bp id 0] rfl rfl _ (eP _) vB;rw [H4 hid,An] at t1;have gn:=dI (bx:=B) (P:=Ap L i o RL) (ys:=[.cells 29 [.int .i64 0,.int .i64 0,.int .i64 0,.str [],.int .i64 0,.int .i64 0,.str [],.int .i64 0,.str [],.str [],.nils]]) rV qM;rw [qQ] at gn;unfold bw Nb at t1;simp only [Aav,if_false] at t1;rw [An];rw [Es rfl];unfold Ap at *;rw [<- Al];rw [<- AI] at t1;simp only [Aa,Ac,Ab3,Aau];simp only [S9,Af,seval,PY,PZ,AS,Aw,t1,gn,SX,hid];exact ⟨_,rfl⟩
 | bad t c=>
  skip;intro B vA hB;have qQ:B[n0]?=some (.cells 86 [.bp id 0]):=by rw [vA n0 rV Zy];exact Mw
  have hid:=(Aax.1 hB.2).1;have qM:=(Aax.1 qQ).1;have hc:=hB.1;refine LU (P:=Ap L i o RL) (by simp [Ak,PV.pure]) hB.1 hB.2 (Bm L _ _ hR) (DQ _ _ _) ?_;have vB:Nc L i o RL id (BX B id (Ap L i o RL) [.cells 29 [.int .i64 0,.int .i64 0,.int .i64 0,.str [],.int .i64 0,.int .i64 0,.str [],.int .i64 0,.str [],.str [],.nils]]):=HM (i0:=i) (o0:=o) hid hc hR (by simp only [SU]);have t1:=hbad t c hr 139 [.bp id 0] [] [.bp id 0] rfl rfl _ (eP _) vB;rw [H4 hid] at t1;have gn:=dI (bx:=B) (P:=Ap L i o RL) (ys:=[.cells 29 [.int .i64 0,.int .i64 0,.int .i64 0,.str [],.int .i64 0,.int .i64 0,.str [],.int .i64 0,.str [],.str [],.nils]]) rV qM;rw [qQ] at gn;unfold bw Nb at t1;simp only [Aav,if_false] at t1;rw [Es rfl];unfold Ap at *;rw [<- Al];rw [<- AI] at t1;simp only [Aa,Ac,Ab3,Aau];simp only [S9,Af,seval,PY,PZ,AS,Aw,t1,gn,SX,hid];exact ⟨_,rfl⟩
end Go.HH
