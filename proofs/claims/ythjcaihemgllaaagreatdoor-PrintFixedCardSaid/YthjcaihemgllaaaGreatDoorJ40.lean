/-
  What the law needs, packed: PR PS PT PU.
-/
import Derived.Test.YthjcaihemgllaaaGreatDoorJ39
open Option renaming getD->Aa0
open Bool renaming false_eq_true->Aa1,or_true->Aac,and_eq_true->Aaf
open Go.Proofs.Tryz renaming f189->Aa2,f137->Aa4,f187->Aa5,f184->Aa7,f139->Aa8,f138->Aa9,f99->Aab
open List renaming getElem?_eq_some_iff->Aa3,filter_cons->Aae
open Nat renaming le_of_ble_eq_true->Aa6
open Go.IntKind renaming wrap->Aaa
open Classical renaming axiomOfChoice->Aad
namespace Go.HH
open Go Go.Proofs
set_option maxRecDepth 100000
set_option maxHeartbeats 4000000
set_option linter.unusedSimpArgs false
set_option linter.unusedVariables false
theorem Ht:Be CC Aa2 (Aa2.body.getD .skip)=true:=by kernel_rfl
theorem Hf:CC.P.funcs[189]?=some Aa2:=by kernel_rfl
theorem AB {x:List PV} {b:List PBox} (h:x.length.ble Aa2.ntmps=true):Ad CC 189 x b=CM CC Aa2.results.toList (Co CC (Aa2.body.getD .skip) ⟨x,b⟩):=Ah (fn:=Aa2) (c:=Aa2.body.getD .skip) rfl rfl Hf rfl Ht (Aa6 h)
theorem Iv:Be CC Aa5 (Aa5.body.getD .skip)=true:=by kernel_rfl
theorem H4:CC.P.funcs[187]?=some Aa5:=by kernel_rfl
theorem AU {x:List PV} {b:List PBox} (h:x.length.ble Aa5.ntmps=true):Ad CC 187 x b=CM CC Aa5.results.toList (Co CC (Aa5.body.getD .skip) ⟨x,b⟩):=Ah (fn:=Aa5) (c:=Aa5.body.getD .skip) rfl rfl H4 rfl Iv (Aa6 h)
theorem JX:Be CC Aa7 (Aa7.body.getD .skip)=true:=by kernel_rfl
theorem Je:CC.P.funcs[184]?=some Aa7:=by kernel_rfl
theorem BJ {x:List PV} {b:List PBox} (h:x.length.ble Aa7.ntmps=true):Ad CC 184 x b=CM CC Aa7.results.toList (Co CC (Aa7.body.getD .skip) ⟨x,b⟩):=Ah (fn:=Aa7) (c:=Aa7.body.getD .skip) rfl rfl Je rfl JX (Aa6 h)
theorem Lv:Be CC Aa8 (Aa8.body.getD .skip)=true:=by kernel_rfl
theorem KJ:CC.P.funcs[139]?=some Aa8:=by kernel_rfl
theorem Ch {x:List PV} {b:List PBox} (h:x.length.ble Aa8.ntmps=true):Ad CC 139 x b=CM CC Aa8.results.toList (Co CC (Aa8.body.getD .skip) ⟨x,b⟩):=Ah (fn:=Aa8) (c:=Aa8.body.getD .skip) rfl rfl KJ rfl Lv (Aa6 h)
theorem fP (s:List UInt8):A9 CC 29 [(0,.int .i64 3),(3,.str s)]=some (.agg [.int .i64 3,.int .i64 0,.int .i64 0,.str s,.int .i64 0,.int .i64 0,.str [],.int .i64 0,.str [],.str [],.nils]):=by kernel_rfl
theorem Jf (k n:Int):A9 CC 29 [(0,.int .i64 k),(1,.int .i64 n)]=some (.agg [.int .i64 k,.int .i64 n,.int .i64 0,.str [],.int .i64 0,.int .i64 0,.str [],.int .i64 0,.str [],.str [],.nils]):=by kernel_rfl
theorem n6 (k:Int):A9 CC 29 [(0,.int .i64 k)]=some (.agg [.int .i64 k,.int .i64 0,.int .i64 0,.str [],.int .i64 0,.int .i64 0,.str [],.int .i64 0,.str [],.str [],.nils]):=by kernel_rfl
theorem fQ (d:Int) (a b:List UInt8):A9 CC 29 [(0,.int .i64 2),(5,.agg [.int .i64 d,.str a,.str b])]=some (.agg [.int .i64 2,.int .i64 0,.int .i64 0,.str [],.int .i64 0,.int .i64 0,.str [],.int .i64 d,.str a,.str b,.nils]):=by kernel_rfl
theorem n7 (s:List UInt8):A9 CC 24 [(0,.int .i64 4),(2,.str s)]=some (.agg [.int .i64 4,.int .i64 0,.str s]):=by kernel_rfl
theorem fR (s:List UInt8):A9 CC 29 [(0,.int .i64 1),(4,.agg [.int .i64 4,.int .i64 0,.str s])]=some (.agg [.int .i64 1,.int .i64 0,.int .i64 0,.str [],.int .i64 4,.int .i64 0,.str s,.int .i64 0,.str [],.str [],.nils]):=by kernel_rfl
theorem Jg (k n m:Int) (nm:List UInt8) (v:Vl) (q:Ky):BE (.mk k n m nm v q [])=.agg [.int .i64 k,.int .i64 n,.int .i64 m,.str nm,.int .i64 v.1,.int .i64 v.2.1,.str v.2.2,.int .i64 q.1,.str q.2.1,.str q.2.2,.sl []]:=by unfold BE A8;rfl
theorem qw:A9 CC 185 [(0,.str [103,117,101,115,116]),(1,.str [99,104,105,108,100]),(2,.str [97,100,117,108,116]),(3,.str [111,119,110,101,114])]=some (.agg (C7.map .str)):=by kernel_rfl
theorem wx:∀ k:Nat,k < 4->DA CC 185 (.agg (C7.map .str)) (.int .i64 (k:Int))=some (.str (C7.getD k []))
 | 0,_=>by kernel_rfl
 | 1,_=>by kernel_rfl
 | 2,_=>by kernel_rfl
 | 3,_=>by kernel_rfl
 | k+4,h=>by omega
def Yv (L:List Tk) (RL:PV) (bx:List PBox) (id i o:Nat) (r:Option Nat) (z:Option (Ex×St)):Prop:=match r with
 | some k=>∃ e',z=some (.ret,⟨e',BX bx id (Ap L (i+1) o RL) [.cells 29 [.int .i64 15,.int .i64 ((k+1:Nat):Int),.int .i64 0,.str [],.int .i64 0,.int .i64 0,.str [],.int .i64 0,.str [],.str [],.nils]]⟩)/\getT e' 2=.bp bx.length 0
 | none=>∃ e',z=some (.exit 1,⟨e',BX bx id (Ap L i o RL) [.cells 29 [.int .i64 0,.int .i64 0,.int .i64 0,.str [],.int .i64 0,.int .i64 0,.str [],.int .i64 0,.str [],.str [],.nils]]⟩)/\getT e' 0=.bp id 0/\getT e' 2=.bp bx.length 0
theorem fS (Lc:Code) (hL:Lc=Ab Aa2 [1,0,0,1,1,1,1,1,1,1,1,1,1,1,0,0,1,0]) {id:Nat} {L:List Tk} {i o:Nat} {RL:PV} (hR:RL.pure=true) (hi:i < L.length) (hT:TokOK L) (bx:List PBox) (hid:id < bx.length) (hc:DN bx):∀ (m k:Nat) (e:List PV),k+m=4->getT e 0=.bp id 0->getT e 2=.bp bx.length 0->getT e 43=.agg (C7.map .str)->getT e 44=.int .i64 (k:Int) ->
 Yv L RL bx id i o (C0 L 1 i (C7.drop k) k) (Co CC Lc ⟨e,BX bx id (Ap L i o RL) [.cells 29 [.int .i64 0,.int .i64 0,.int .i64 0,.str [],.int .i64 0,.int .i64 0,.str [],.int .i64 0,.str [],.str [],.nils]]⟩):=by
 intro m
 induction m with
 | zero=>
  intro k e hk h0 h2 ye yU;rw [A3 (Ab Aa2 [1,0,0,1,1,1,1,1,1,1,1,1,1,1,0,0,1,0,0]) hL];have hY:¬ ((k:Int) < 4):=by omega
  rw [show C7.drop k=[] from List.drop_of_length_le (by rw [show C7.length=4 from rfl];omega)];unfold Yv C0 Ap;rw [<- An];simp only [Ab,Ac,Aa2,Aa0];simp only [S9,Ag,seval,PY,PZ,AS,h0,h2,ye,yU,hY,hid];exact ⟨_,rfl,by simp only [S7,Ag,seval,h0],by simp only [S7,Ag,seval,h2]⟩
 | succ m ih=>
  intro k e hk h0 h2 ye yU;rw [A3 (Ab Aa2 [1,0,0,1,1,1,1,1,1,1,1,1,1,1,0,0,1,0,0]) hL];have hY:((k:Int) < 4):=by omega
  have Qp:=wx k (by omega)
  have IU:C7.drop k=C7.getD k [] :: C7.drop (k+1):=by
   have hl:k < C7.length:=by rw [show C7.length=4 from rfl];omega
   rw [List.drop_eq_getElem_cons hl,List.getD_eq_getElem?_getD,List.getElem?_eq_getElem hl];rfl
  have key:=fun e=>ih (k+1) e (by omega);have hw:Aaa .i64 ((k:Int)+1)=((k+1:Nat):Int):=by rw [wrap_i64 ⟨by omega,by omega⟩];omega
  have hb:=Jf 15 ((k+1:Nat):Int);rw [IU];generalize C7.getD k []=wd at *;unfold C0;cases mA:Br L 1 wd i with
  | true=>
   have t1:=Aa hid hc hR (As (id:=id) (o:=o) hR hi hT wd mA);unfold Yv Ap;simp only [if_true];rw [<- An];rw [<- AL] at t1;simp only [Ab,Ac,Aa2,Aa0];simp only [S9,Ag,seval,PY,PZ,AS,h0,h2,ye,yU,hY,Qp,t1,hw,hb,hid];exact ⟨_,rfl,by simp only [S7,Ag,seval,h2]⟩
  | false=>
   have t1:=Aa hid hc hR (Ae (id:=id) (o:=o) hR hi hT wd mA);simp only [Aa1,if_false];generalize C0 L 1 i (C7.drop (k+1)) (k+1)=pw at *;unfold Ap at key |-;rw [<- An];rw [<- AL] at t1;rw [<- An] at key;simp only [Ab,Ac,Aa2,Aa0];simp only [S9,Ag,seval,PY,PZ,AS,h0,h2,ye,yU,hY,Qp,t1,hw,hid];refine key _ ?_ ?_ ?_ ?_
   · simp only [S7,Ag,seval,h0]
   · simp only [S7,Ag,seval,h2]
   · simp only [S7,Ag,seval,ye]
   · simp only [S7,Ag,seval]
theorem jI {id:Nat} {L:List Tk} {i o:Nat} {RL:PV} (hR:RL.pure=true) (hi:i < L.length) (hT:TokOK L):Xs 189 [] id L RL i o BE (Fp L i):=by
 unfold Fp;cases f0:Br L 1 [116,114,117,101] i with
 | true=>
  simp only [if_true];have BF:=AM hT hi f0 (by decide);have hl:=aO 1 1;refine Bh (A4 hR (fun n=>by rw [Ao];simp only [SX,PV.under]) fun bx hid hc=>?_);have q0:=Aa hid hc hR (As (id:=id) (o:=o) hR hi hT _ f0);rw [Ao];rw [AB rfl];unfold Ap;rw [<- An];rw [<- AL] at q0 hl;simp only [Ab,Ac,Aa2,Aa0];simp only [S9,Ag,seval,PY,PZ,AS,q0,hl,SX,hid];exact ⟨_,rfl⟩
 | false=>
  simp only [Aa1,if_false];cases f1:Br L 1 [102,97,108,115,101] i with
  | true=>
   simp only [if_true];have BF:=AM hT hi f1 (by decide);have hl:=aO 1 0;refine Bh (A4 hR (fun n=>by rw [Ao];simp only [SX,PV.under]) fun bx hid hc=>?_);have q0:=Aa hid hc hR (Ae (id:=id) (o:=o) hR hi hT _ f0);have q1:=Aa hid hc hR (As (id:=id) (o:=o) hR hi hT _ f1);rw [Ao];rw [AB rfl];unfold Ap;rw [<- An];rw [<- AL] at q0 q1 hl;simp only [Ab,Ac,Aa2,Aa0];simp only [S9,Ag,seval,PY,PZ,AS,q0,q1,hl,SX,hid];exact ⟨_,rfl⟩
  | false=>
   simp only [Aa1,if_false];cases f2:Br L 1 [109,111,100,101] i with
   | true=>
    simp only [if_true];have BF:=AM hT hi f2 (by decide);have h0:=Cb (id:=id) (o:=o) (i:=(i+1)) hR BF hT 1 1 rfl [105,115];cases r0:Bs L 1 [105,115] (i+1) with
    | out=>exact AT
    | bad t e=>
     rw [r0] at h0;obtain ⟨i',o',h0⟩:=h0;refine AK ⟨i',o',Aw hR fun bx hid hc=>?_⟩;have q0:=Aa hid hc hR (Ae (id:=id) (o:=o) hR hi hT _ f0);have q1:=Aa hid hc hR (Ae (id:=id) (o:=o) hR hi hT _ f1);have q2:=Aa hid hc hR (As (id:=id) (o:=o) hR hi hT _ f2);have t0:=Am hid hc hR h0;rw [AB rfl];unfold Ap;rw [<- An];rw [<- AL] at q0 q1 q2 t0;simp only [Ab,Ac,Aa2,Aa0];simp only [S9,Ag,seval,PY,PZ,AS,q0,q1,q2,t0,hid];exact ⟨_,rfl⟩
    | ok a0 i0=>
     rw [r0] at h0;dsimp only [Au];have j0:=AW hT BF (by decide) r0;have rf:=j0.2;have h1:=Hc (id:=id) (o:=o) (i:=i0) hR rf hT;cases r1:DG L i0 with
     | out=>exact AT
     | bad t e=>
      rw [r1] at h1;obtain ⟨i',o',h1⟩:=h1;refine AK ⟨i',o',Aw hR fun bx hid hc=>?_⟩;have q0:=Aa hid hc hR (Ae (id:=id) (o:=o) hR hi hT _ f0);have q1:=Aa hid hc hR (Ae (id:=id) (o:=o) hR hi hT _ f1);have q2:=Aa hid hc hR (As (id:=id) (o:=o) hR hi hT _ f2);have t0:=Aa hid hc hR h0;have t1:=Am hid hc hR h1;rw [AB rfl];unfold Ap;rw [<- An];rw [<- AL] at q0 q1 q2 t0 t1;simp only [Ab,Ac,Aa2,Aa0];simp only [S9,Ag,seval,PY,PZ,AS,q0,q1,q2,t0,t1,hid];exact ⟨_,rfl⟩
     | ok a1 i1=>
      rw [r1] at h1;dsimp only [Au];have j1:=CI hT rf r1;have SZ:=j1.2;refine Bh (A4 hR (fun n=>by rw [Ao];simp only [SX,PV.under]) fun bx hid hc=>?_);have q0:=Aa hid hc hR (Ae (id:=id) (o:=o) hR hi hT _ f0);have q1:=Aa hid hc hR (Ae (id:=id) (o:=o) hR hi hT _ f1);have q2:=Aa hid hc hR (As (id:=id) (o:=o) hR hi hT _ f2);have t0:=Aa hid hc hR h0;have t1:=Aa hid hc hR h1;rw [Jg];rw [AB rfl];unfold Ap zK zV;rw [<- An];rw [<- AL] at q0 q1 q2 t0 t1;simp only [Ab,Ac,Aa2,Aa0];simp only [S9,Ag,seval,PY,PZ,AS,q0,q1,q2,t0,t1,fP,hid];exact ⟨_,rfl⟩
   | false=>
    simp only [Aa1,if_false];cases f3:Br L 1 [116,105,109,101] i with
    | true=>
     simp only [if_true];have BF:=AM hT hi f3 (by decide);have h0:=On (id:=id) (o:=o) (i:=(i+1)) hR BF hT;cases r0:Fo L (i+1) with
     | out=>exact AT
     | bad t e=>
      rw [r0] at h0;obtain ⟨i',o',h0⟩:=h0;refine AK ⟨i',o',Aw hR fun bx hid hc=>?_⟩;have q0:=Aa hid hc hR (Ae (id:=id) (o:=o) hR hi hT _ f0);have q1:=Aa hid hc hR (Ae (id:=id) (o:=o) hR hi hT _ f1);have q2:=Aa hid hc hR (Ae (id:=id) (o:=o) hR hi hT _ f2);have q3:=Aa hid hc hR (As (id:=id) (o:=o) hR hi hT _ f3);have t0:=Am hid hc hR h0;rw [AB rfl];unfold Ap;rw [<- An];rw [<- AL] at q0 q1 q2 q3 t0;simp only [Ab,Ac,Aa2,Aa0];simp only [S9,Ag,seval,PY,PZ,AS,q0,q1,q2,q3,t0,Jf,hid];exact ⟨_,rfl⟩
     | ok a0 i0=>
      rw [r0] at h0;dsimp only [Au];have j0:=E1 hT BF r0;have rf:=j0.2.1;have h1:=Cb (id:=id) (o:=o) (i:=i0) hR rf hT 1 1 rfl [116,111];cases r1:Bs L 1 [116,111] i0 with
      | out=>exact AT
      | bad t e=>
       rw [r1] at h1;obtain ⟨i',o',h1⟩:=h1;refine AK ⟨i',o',Aw hR fun bx hid hc=>?_⟩;have q0:=Aa hid hc hR (Ae (id:=id) (o:=o) hR hi hT _ f0);have q1:=Aa hid hc hR (Ae (id:=id) (o:=o) hR hi hT _ f1);have q2:=Aa hid hc hR (Ae (id:=id) (o:=o) hR hi hT _ f2);have q3:=Aa hid hc hR (As (id:=id) (o:=o) hR hi hT _ f3);have t0:=Aa hid hc hR h0;have t1:=Am hid hc hR h1;rw [AB rfl];unfold Ap;rw [<- An];rw [<- AL] at q0 q1 q2 q3 t0 t1;simp only [Ab,Ac,Aa2,Aa0];simp only [S9,Ag,seval,PY,PZ,AS,q0,q1,q2,q3,t0,t1,Jf,hid];exact ⟨_,rfl⟩
      | ok a1 i1=>
       rw [r1] at h1;dsimp only [Au];have j1:=AW hT rf (by decide) r1;have SZ:=j1.2;have h2:=On (id:=id) (o:=o) (i:=i1) hR SZ hT;cases r2:Fo L i1 with
       | out=>exact AT
       | bad t e=>
        rw [r2] at h2;obtain ⟨i',o',h2⟩:=h2;refine AK ⟨i',o',Aw hR fun bx hid hc=>?_⟩;have q0:=Aa hid hc hR (Ae (id:=id) (o:=o) hR hi hT _ f0);have q1:=Aa hid hc hR (Ae (id:=id) (o:=o) hR hi hT _ f1);have q2:=Aa hid hc hR (Ae (id:=id) (o:=o) hR hi hT _ f2);have q3:=Aa hid hc hR (As (id:=id) (o:=o) hR hi hT _ f3);have t0:=Aa hid hc hR h0;have t1:=Aa hid hc hR h1;have t2:=Am hid hc hR h2;rw [AB rfl];unfold Ap;rw [<- An];rw [<- AL] at q0 q1 q2 q3 t0 t1 t2;simp only [Ab,Ac,Aa2,Aa0];simp only [S9,Ag,seval,PY,PZ,AS,q0,q1,q2,q3,t0,t1,t2,Jf,hid];exact ⟨_,rfl⟩
       | ok a2 i2=>
        rw [r2] at h2;dsimp only [Au];have j2:=E1 hT SZ r2;have pI:=j2.2.1;refine Bh (A4 hR (fun n=>by rw [Ao];simp only [SX,PV.under]) fun bx hid hc=>?_);have q0:=Aa hid hc hR (Ae (id:=id) (o:=o) hR hi hT _ f0);have q1:=Aa hid hc hR (Ae (id:=id) (o:=o) hR hi hT _ f1);have q2:=Aa hid hc hR (Ae (id:=id) (o:=o) hR hi hT _ f2);have q3:=Aa hid hc hR (As (id:=id) (o:=o) hR hi hT _ f3);have t0:=Aa hid hc hR h0;have t1:=Aa hid hc hR h1;have t2:=Aa hid hc hR h2;rw [Jg];rw [AB rfl];unfold Ap zK zV;rw [<- An];rw [<- AL] at q0 q1 q2 q3 t0 t1 t2;simp only [Ab,Ac,Aa2,Aa0];simp only [S9,Ag,seval,PY,PZ,AS,q0,q1,q2,q3,t0,t1,t2,Jf,hid];exact ⟨_,rfl⟩
    | false=>
     simp only [Aa1,if_false];cases f4:Br L 1 [100,97,121,115] i with
     | true=>
      simp only [if_true];have BF:=AM hT hi f4 (by decide);have h0:=Ys (id:=id) (o:=o) (i:=(i+1)) hR BF hT;cases r0:Kq L (i+1) with
      | out=>exact AT
      | bad t e=>
       rw [r0] at h0;obtain ⟨i',o',h0⟩:=h0;refine AK ⟨i',o',Aw hR fun bx hid hc=>?_⟩;have q0:=Aa hid hc hR (Ae (id:=id) (o:=o) hR hi hT _ f0);have q1:=Aa hid hc hR (Ae (id:=id) (o:=o) hR hi hT _ f1);have q2:=Aa hid hc hR (Ae (id:=id) (o:=o) hR hi hT _ f2);have q3:=Aa hid hc hR (Ae (id:=id) (o:=o) hR hi hT _ f3);have q4:=Aa hid hc hR (As (id:=id) (o:=o) hR hi hT _ f4);have t0:=Am hid hc hR h0;rw [AB rfl];unfold Ap;rw [<- An];rw [<- AL] at q0 q1 q2 q3 q4 t0;simp only [Ab,Ac,Aa2,Aa0];simp only [S9,Ag,seval,PY,PZ,AS,q0,q1,q2,q3,q4,t0,Jf,hid];exact ⟨_,rfl⟩
      | ok a0 i0=>
       rw [r0] at h0;dsimp only [Au];have j0:=KG hT BF r0;have rf:=j0.2.1;refine Bh (A4 hR (fun n=>by rw [Ao];simp only [SX,PV.under]) fun bx hid hc=>?_);have q0:=Aa hid hc hR (Ae (id:=id) (o:=o) hR hi hT _ f0);have q1:=Aa hid hc hR (Ae (id:=id) (o:=o) hR hi hT _ f1);have q2:=Aa hid hc hR (Ae (id:=id) (o:=o) hR hi hT _ f2);have q3:=Aa hid hc hR (Ae (id:=id) (o:=o) hR hi hT _ f3);have q4:=Aa hid hc hR (As (id:=id) (o:=o) hR hi hT _ f4);have t0:=Aa hid hc hR h0;rw [Jg];rw [AB rfl];unfold Ap zK zV;rw [<- An];rw [<- AL] at q0 q1 q2 q3 q4 t0;simp only [Ab,Ac,Aa2,Aa0];simp only [S9,Ag,seval,PY,PZ,AS,q0,q1,q2,q3,q4,t0,Jf,hid];exact ⟨_,rfl⟩
     | false=>
      simp only [Aa1,if_false];cases f5:Br L 1 [104,111,109,101] i with
      | true=>
       simp only [if_true];have BF:=AM hT hi f5 (by decide);have Af:=fun bx hid hc e=>fS _ rfl (id:=id) (i:=i+1) (o:=o) (RL:=RL) hR BF hT bx hid hc 4 0 e rfl;rw [show C7.drop 0=C7 from rfl] at Af;cases hp:C0 L 1 (i+1) C7 0 with
       | some k=>
        rw [hp] at Af;refine Bh (A4 hR (fun n=>by rw [Ao];simp only [SX,PV.under]) fun bx hid hc=>?_);have Af:=Af bx hid hc;have q0:=Aa hid hc hR (Ae (id:=id) (o:=o) hR hi hT _ f0);have q1:=Aa hid hc hR (Ae (id:=id) (o:=o) hR hi hT _ f1);have q2:=Aa hid hc hR (Ae (id:=id) (o:=o) hR hi hT _ f2);have q3:=Aa hid hc hR (Ae (id:=id) (o:=o) hR hi hT _ f3);have q4:=Aa hid hc hR (Ae (id:=id) (o:=o) hR hi hT _ f4);have q5:=Aa hid hc hR (As (id:=id) (o:=o) hR hi hT _ f5);rw [Jg];rw [AB rfl];simp only [Ab,Ac,Aa2,Aa0] at Af |-;unfold Ap zK zV at *;rw [<- An];rw [<- An] at Af;rw [<- AL] at q0 q1 q2 q3 q4 q5;simp only [S9,Ag,seval,PY,PZ,AS,q0,q1,q2,q3,q4,q5,qw,hid];generalize hE:Hp _ _=z
        have hP:Yv L RL bx id (i+1) o (some k) z:=by
         rw [<- hE];refine Af _ ?_ ?_ ?_ ?_
         · simp only [S7,Ag,seval]
         · simp only [S7,Ag,seval]
         · simp only [S7,Ag,seval]
         · simp only [S7,Ag,seval] <;> rfl
        obtain ⟨e',he,h2⟩:=hP;subst he;clear hE Af;unfold Ap;simp only [S9,Ag,seval,PY,PZ,AS,h2,hid];exact ⟨_,rfl⟩
       | none=>
        rw [hp] at Af;refine Bh (A4 hR (fun n=>by rw [Ao];simp only [SX,PV.under]) fun bx hid hc=>?_);have Af:=Af bx hid hc;have q0:=Aa hid hc hR (Ae (id:=id) (o:=o) hR hi hT _ f0);have q1:=Aa hid hc hR (Ae (id:=id) (o:=o) hR hi hT _ f1);have q2:=Aa hid hc hR (Ae (id:=id) (o:=o) hR hi hT _ f2);have q3:=Aa hid hc hR (Ae (id:=id) (o:=o) hR hi hT _ f3);have q4:=Aa hid hc hR (Ae (id:=id) (o:=o) hR hi hT _ f4);have q5:=Aa hid hc hR (As (id:=id) (o:=o) hR hi hT _ f5);rw [Jg];rw [AB rfl];simp only [Ab,Ac,Aa2,Aa0] at Af |-;unfold Ap zK zV at *;rw [<- An];rw [<- An] at Af;rw [<- AL] at q0 q1 q2 q3 q4 q5;simp only [S9,Ag,seval,PY,PZ,AS,q0,q1,q2,q3,q4,q5,qw,hid];generalize hE:Hp _ _=z
        have hP:Yv L RL bx id (i+1) o (none) z:=by
         rw [<- hE];refine Af _ ?_ ?_ ?_ ?_
         · simp only [S7,Ag,seval]
         · simp only [S7,Ag,seval]
         · simp only [S7,Ag,seval]
         · simp only [S7,Ag,seval] <;> rfl
        obtain ⟨e',he,h0,h2⟩:=hP;subst he;clear hE Af;unfold Ap;have hb:=n6 15;simp only [S9,Ag,seval,PY,PZ,AS,h0,h2,hb,hid];exact ⟨_,rfl⟩
      | false=>
       simp only [Aa1,if_false];refine AK ⟨i,o,Aw hR fun bx hid hc=>?_⟩;have q0:=Aa hid hc hR (Ae (id:=id) (o:=o) hR hi hT _ f0);have q1:=Aa hid hc hR (Ae (id:=id) (o:=o) hR hi hT _ f1);have q2:=Aa hid hc hR (Ae (id:=id) (o:=o) hR hi hT _ f2);have q3:=Aa hid hc hR (Ae (id:=id) (o:=o) hR hi hT _ f3);have q4:=Aa hid hc hR (Ae (id:=id) (o:=o) hR hi hT _ f4);have q5:=Aa hid hc hR (Ae (id:=id) (o:=o) hR hi hT _ f5);have t2:=Aa hid hc hR (AA (id:=id) (o:=o) hR hi);have t3:=Am hid hc hR (CD (id:=id) (i:=i) (o:=o) (L:=L) hR (tokAt L i).1 (tokAt L i).2.1 (tokAt L i).2.2 12);rw [AB rfl];unfold Ap atT;rw [<- An];rw [<- AL] at q0 q1 q2 q3 q4 q5 t2 t3;simp only [Ab,Ac,Aa2,Aa0];simp only [S9,Ag,seval,PY,PZ,AS,q0,q1,q2,q3,q4,q5,t2,t3,hid];exact ⟨_,rfl⟩
theorem jJ {id:Nat} {L:List Tk} {RL:PV} (hR:RL.pure=true) (hT:TokOK L) (n:Nat) (hx:FK 99 .expr id L RL n):FK 187 .prim id L RL (n+1):=by
 intro i o hi ho;rw [pz];have hw:Aaa .i64 ((i:Int)+1)=((i+1:Nat):Int):=by rw [wrap_i64 ⟨by omega,by have:=hT.len;omega⟩];omega
 have k2:=Oj (tokAt L i).1 2;have k3:=Oj (tokAt L i).1 3;cases hp:Cx L i with
 | true=>
  simp only [if_true];have hk:(tokAt L i).1=2:=by unfold Cx at hp;simp only [Aaf,beq_iff_eq] at hp;exact hp.1
  have ez:=Gy (tokAt L i) (hT.word i) (hT.num i hk).1 (hT.num i hk).2;have hl:=aO 2 ((amtN (tokAt L i).2.1 0:Nat):Int);unfold Oe at ez;refine Bh (A4 hR (fun n=>by rw [Ao];simp only [SX,PV.under]) fun bx hid hc=>?_);have t0:=Aa hid hc hR (AA (id:=id) (o:=o) hR hi);have tp:=Aa hid hc hR (Ck (id:=id) (o:=o) hR hi hT);rw [hp] at tp;rw [Ao];rw [AU rfl];unfold Ap;rw [<- An];rw [<- AL] at t0 tp ez hl;simp only [Ab,Ac,Aa5,Aa0];simp only [S9,Ag,seval,PY,PZ,AS,t0,tp,ez,hl,hw,SX,hid];exact ⟨_,rfl⟩
 | false=>
  simp only [Aa1,if_false];by_cases hk:(tokAt L i).1=2
  · rw [if_pos hk]
    rw [beq_iff_eq.2 hk] at k2;have k2:(((tokAt L i).1:Int) == 2)=true:=k2;have h1:=Wh (id:=id) (o:=o) (i:=i) hR hi hT;cases r1:Eb L i with
    | out=>exact AT
    | bad t e=>
     rw [r1] at h1;obtain ⟨i',o',h1⟩:=h1;refine AK ⟨i',o',Aw hR fun bx hid hc=>?_⟩;have t0:=Aa hid hc hR (AA (id:=id) (o:=o) hR hi);have tp:=Aa hid hc hR (Ck (id:=id) (o:=o) hR hi hT);rw [hp] at tp;have t1:=Am hid hc hR h1;rw [AU rfl];unfold Ap;rw [<- An];rw [<- AL] at t0 tp t1;simp only [Ab,Ac,Aa5,Aa0];simp only [S9,Ag,seval,PY,PZ,AS,t0,tp,t1,k2,hid];exact ⟨_,rfl⟩
    | ok k j=>
     rw [r1] at h1;dsimp only [Au];refine Bh (A4 hR (fun n=>by rw [Ao];simp only [SX,PV.under]) fun bx hid hc=>?_);have t0:=Aa hid hc hR (AA (id:=id) (o:=o) hR hi);have tp:=Aa hid hc hR (Ck (id:=id) (o:=o) hR hi hT);rw [hp] at tp;have t1:=Aa hid hc hR h1;unfold rU at t1;rw [Jg];rw [AU rfl];unfold Ap zV;rw [<- An];rw [<- AL] at t0 tp t1;simp only [Ab,Ac,Aa5,Aa0];simp only [S9,Ag,seval,PY,PZ,AS,t0,tp,t1,k2,fQ,hid];exact ⟨_,rfl⟩
  · rw [if_neg hk]
    rw [beq_eq_false_iff_ne.2 hk] at k2;have k2:(((tokAt L i).1:Int) == 2)=false:=k2;by_cases yV:(tokAt L i).1=3
    · rw [if_pos yV]
      rw [beq_iff_eq.2 yV] at k3;have k3:(((tokAt L i).1:Int) == 3)=true:=k3;refine Bh (A4 hR (fun n=>by rw [Ao];simp only [SX,PV.under]) fun bx hid hc=>?_);have t0:=Aa hid hc hR (AA (id:=id) (o:=o) hR hi);have tp:=Aa hid hc hR (Ck (id:=id) (o:=o) hR hi hT);rw [hp] at tp;rw [Jg];rw [AU rfl];unfold Ap zK;rw [<- An];rw [<- AL] at t0 tp;simp only [Ab,Ac,Aa5,Aa0];simp only [S9,Ag,seval,PY,PZ,AS,t0,tp,k2,k3,hw,n7,fR,hid];exact ⟨_,rfl⟩
    · rw [if_neg yV]
      rw [beq_eq_false_iff_ne.2 yV] at k3;have k3:(((tokAt L i).1:Int) == 3)=false:=k3;cases f0:Br L 4 [35] i with
      | true=>
       simp only [if_true];have BF:=AM hT hi f0 (by decide);have h1:=Hd (id:=id) (o:=o) (i:=i+1) hR BF hT 0 63 0 63 rfl rfl;cases r1:Hq L 0 63 (i+1) with
       | out=>exact AT
       | bad t e=>
        rw [r1] at h1;obtain ⟨i',o',h1⟩:=h1;refine AK ⟨i',o',Aw hR fun bx hid hc=>?_⟩;have t0:=Aa hid hc hR (AA (id:=id) (o:=o) hR hi);have tp:=Aa hid hc hR (Ck (id:=id) (o:=o) hR hi hT);rw [hp] at tp;have q0:=Aa hid hc hR (Bb (id:=id) (o:=o) hR hi hT _ f0);have t1:=Am hid hc hR h1;rw [AU rfl];unfold Ap;rw [<- An];rw [<- AL] at t0 tp q0 t1;simp only [Ab,Ac,Aa5,Aa0];simp only [S9,Ag,seval,PY,PZ,AS,t0,tp,k2,k3,q0,t1,hid];exact ⟨_,rfl⟩
       | ok m j=>
        rw [r1] at h1;dsimp only [Au];have hl:=aO 3 (m:Int);refine Bh (A4 hR (fun n=>by rw [Ao];simp only [SX,PV.under]) fun bx hid hc=>?_);have t0:=Aa hid hc hR (AA (id:=id) (o:=o) hR hi);have tp:=Aa hid hc hR (Ck (id:=id) (o:=o) hR hi hT);rw [hp] at tp;have q0:=Aa hid hc hR (Bb (id:=id) (o:=o) hR hi hT _ f0);have t1:=Aa hid hc hR h1;rw [Ao];rw [AU rfl];unfold Ap;rw [<- An];rw [<- AL] at t0 tp q0 t1 hl;simp only [Ab,Ac,Aa5,Aa0];simp only [S9,Ag,seval,PY,PZ,AS,t0,tp,k2,k3,q0,t1,hl,SX,hid];exact ⟨_,rfl⟩
      | false=>
       simp only [Aa1,if_false];cases f1:Br L 4 [40] i with
       | true=>
        simp only [if_true];have BF:=AM hT hi f1 (by decide);by_cases Bz:o < 100
        · rw [if_pos Bz]
          have uI:Aaa .i64 (((o+1:Nat):Int) - 1)=((o:Nat):Int):=by rw [wrap_i64 ⟨by omega,by omega⟩];omega
          have h1:=hx (i+1) (o+1) BF (by omega);cases r1:pz L n .expr (o+1) (i+1) with
          | out=>exact AT
          | bad t e=>
           rw [r1] at h1;obtain ⟨i',o',h1⟩:=h1;refine AK ⟨i',o',Aw hR fun bx hid hc=>?_⟩;have t0:=Aa hid hc hR (AA (id:=id) (o:=o) hR hi);have tp:=Aa hid hc hR (Ck (id:=id) (o:=o) hR hi hT);rw [hp] at tp;have q0:=Aa hid hc hR (AQ (id:=id) (o:=o) hR hi hT _ f0);have q1:=Aa hid hc hR (Bb (id:=id) (o:=o) hR hi hT _ f1);have te:=Aa hid hc hR (CY (id:=id) (L:=L) (i:=i+1) hR Bz (tokAt L i).1 (tokAt L i).2.1 (tokAt L i).2.2);have t1:=Am hid hc hR h1;rw [AU rfl];unfold Ap;rw [<- An];rw [<- AL] at t0 tp q0 q1 te t1;simp only [Ab,Ac,Aa5,Aa0];simp only [S9,Ag,seval,PY,PZ,AS,t0,tp,k2,k3,q0,q1,te,t1,hid];exact ⟨_,rfl⟩
          | ok a j=>
           rw [r1] at h1;dsimp only [Au];have hj:=(He hT _ _ _ _ _ _ BF r1).2;have h2:=Cb (id:=id) (o:=o+1) (i:=j) hR hj hT 4 4 rfl [41];cases r2:Bs L 4 [41] j with
           | out=>exact AT
           | bad t e=>
            rw [r2] at h2;obtain ⟨i',o',h2⟩:=h2;refine AK ⟨i',o',Aw hR fun bx hid hc=>?_⟩;have t0:=Aa hid hc hR (AA (id:=id) (o:=o) hR hi);have tp:=Aa hid hc hR (Ck (id:=id) (o:=o) hR hi hT);rw [hp] at tp;have q0:=Aa hid hc hR (AQ (id:=id) (o:=o) hR hi hT _ f0);have q1:=Aa hid hc hR (Bb (id:=id) (o:=o) hR hi hT _ f1);have te:=Aa hid hc hR (CY (id:=id) (L:=L) (i:=i+1) hR Bz (tokAt L i).1 (tokAt L i).2.1 (tokAt L i).2.2);have t1:=Aa hid hc hR h1;rw [Ao] at t1;have t2:=Am hid hc hR h2;rw [AU rfl];unfold Ap;rw [<- An];rw [<- AL] at t0 tp q0 q1 te t1 t2;simp only [Ab,Ac,Aa5,Aa0];simp only [S9,Ag,seval,PY,PZ,AS,t0,tp,k2,k3,q0,q1,te,t1,t2,SX,hid];exact ⟨_,rfl⟩
           | ok u j2=>
            rw [r2] at h2;dsimp only [Au];refine Bh (A4 hR (fun n=>by rw [Ao];simp only [SX,PV.under]) fun bx hid hc=>?_);have t0:=Aa hid hc hR (AA (id:=id) (o:=o) hR hi);have tp:=Aa hid hc hR (Ck (id:=id) (o:=o) hR hi hT);rw [hp] at tp;have q0:=Aa hid hc hR (AQ (id:=id) (o:=o) hR hi hT _ f0);have q1:=Aa hid hc hR (Bb (id:=id) (o:=o) hR hi hT _ f1);have te:=Aa hid hc hR (CY (id:=id) (L:=L) (i:=i+1) hR Bz (tokAt L i).1 (tokAt L i).2.1 (tokAt L i).2.2);have t1:=Aa hid hc hR h1;rw [Ao] at t1;have t2:=Aa hid hc hR h2;rw [Ao];rw [AU rfl];unfold Ap;rw [<- An];rw [<- AL] at t0 tp q0 q1 te t1 t2;simp only [Ab,Ac,Aa5,Aa0];simp only [S9,Ag,seval,PY,PZ,AS,t0,tp,k2,k3,q0,q1,te,t1,t2,uI,SX,hid];exact ⟨_,rfl⟩
        · rw [if_neg Bz]
          have uJ:o=100:=by omega
          refine AK ⟨i+1,o+1,Aw hR fun bx hid hc=>?_⟩;have t0:=Aa hid hc hR (AA (id:=id) (o:=o) hR hi);have tp:=Aa hid hc hR (Ck (id:=id) (o:=o) hR hi hT);rw [hp] at tp;have q0:=Aa hid hc hR (AQ (id:=id) (o:=o) hR hi hT _ f0);have q1:=Aa hid hc hR (Bb (id:=id) (o:=o) hR hi hT _ f1);have te:=Am hid hc hR (Jd (id:=id) (L:=L) (i:=i+1) hR uJ (tokAt L i).1 (tokAt L i).2.1 (tokAt L i).2.2);rw [AU rfl];unfold Ap atT;rw [<- An];rw [<- AL] at t0 tp q0 q1 te;simp only [Ab,Ac,Aa5,Aa0];simp only [S9,Ag,seval,PY,PZ,AS,t0,tp,k2,k3,q0,q1,te,hid];exact ⟨_,rfl⟩
       | false=>
        simp only [Aa1,if_false];have h1:=jI (id:=id) (o:=o) (i:=i) hR hi hT;cases r1:Fp L i with
        | out=>exact AT
        | bad t e=>
         rw [r1] at h1;obtain ⟨i',o',h1⟩:=h1;refine AK ⟨i',o',Aw hR fun bx hid hc=>?_⟩;have t0:=Aa hid hc hR (AA (id:=id) (o:=o) hR hi);have tp:=Aa hid hc hR (Ck (id:=id) (o:=o) hR hi hT);rw [hp] at tp;have q0:=Aa hid hc hR (AQ (id:=id) (o:=o) hR hi hT _ f0);have q1:=Aa hid hc hR (AQ (id:=id) (o:=o) hR hi hT _ f1);have t1:=Am hid hc hR h1;rw [AU rfl];unfold Ap;rw [<- An];rw [<- AL] at t0 tp q0 q1 t1;simp only [Ab,Ac,Aa5,Aa0];simp only [S9,Ag,seval,PY,PZ,AS,t0,tp,k2,k3,q0,q1,t1,hid];exact ⟨_,rfl⟩
        | ok a j=>
         rw [r1] at h1;refine Bh (A4 hR (fun n=>by rw [Ao];simp only [SX,PV.under]) fun bx hid hc=>?_);have t0:=Aa hid hc hR (AA (id:=id) (o:=o) hR hi);have tp:=Aa hid hc hR (Ck (id:=id) (o:=o) hR hi hT);rw [hp] at tp;have q0:=Aa hid hc hR (AQ (id:=id) (o:=o) hR hi hT _ f0);have q1:=Aa hid hc hR (AQ (id:=id) (o:=o) hR hi hT _ f1);have t1:=Aa hid hc hR h1;rw [Ao] at t1;rw [Ao];rw [AU rfl];unfold Ap;rw [<- An];rw [<- AL] at t0 tp q0 q1 t1;simp only [Ab,Ac,Aa5,Aa0];simp only [S9,Ag,seval,PY,PZ,AS,t0,tp,k2,k3,q0,q1,t1,SX,hid];exact ⟨_,rfl⟩
theorem rW {id:Nat} {L:List Tk} {RL:PV} (hR:RL.pure=true) (hT:TokOK L) (n:Nat) (hp:FK 187 .prim id L RL n) (hx:FK 184 .un id L RL n):FK 184 .un id L RL (n+1):=by
 intro i o hi ho;rw [pz];cases f0:Br L 4 [45] i with
 | false=>
  simp only [Aa1,if_false];have h1:=hp i o hi ho;cases r1:pz L n .prim o i with
  | out=>exact AT
  | bad t e=>
   rw [r1] at h1;obtain ⟨i',o',h1⟩:=h1;refine AK ⟨i',o',Aw hR fun bx hid hc=>?_⟩;have t0:=Aa hid hc hR (AA (id:=id) (o:=o) hR hi);have q0:=Aa hid hc hR (AQ (id:=id) (o:=o) hR hi hT _ f0);have t1:=Am hid hc hR h1;rw [BJ rfl];unfold Ap;rw [<- An];rw [<- AL] at t0 q0 t1;simp only [Ab,Ac,Aa7,Aa0];simp only [S9,Ag,seval,PY,PZ,AS,t0,q0,t1,hid];exact ⟨_,rfl⟩
  | ok a j=>
   rw [r1] at h1;refine Bh (A4 hR (fun n=>by rw [Ao];simp only [SX,PV.under]) fun bx hid hc=>?_);have t0:=Aa hid hc hR (AA (id:=id) (o:=o) hR hi);have q0:=Aa hid hc hR (AQ (id:=id) (o:=o) hR hi hT _ f0);have t1:=Aa hid hc hR h1;rw [Ao] at t1;rw [Ao];rw [BJ rfl];unfold Ap;rw [<- An];rw [<- AL] at t0 q0 t1;simp only [Ab,Ac,Aa7,Aa0];simp only [S9,Ag,seval,PY,PZ,AS,t0,q0,t1,SX,hid];exact ⟨_,rfl⟩
 | true=>
  simp only [if_true];have BF:=AM hT hi f0 (by decide);cases hq:Cx L (i+1) with
  | true=>
   simp only [if_true];have hk:(tokAt L (i+1)).1=2:=by unfold Cx at hq;simp only [Aaf,beq_iff_eq] at hq;exact hq.1
   have ez:=Gy (tokAt L (i+1)) (hT.word (i+1)) (hT.num (i+1) hk).1 (hT.num (i+1) hk).2;have hC:=(hT.num (i+1) hk).2;have hl:=aO 2 (-((amtN (tokAt L (i+1)).2.1 0:Nat):Int));have mE:Aaa .i64 (0 - ((amtN (tokAt L (i+1)).2.1 0:Nat):Int))=-((amtN (tokAt L (i+1)).2.1 0:Nat):Int):=by rw [wrap_i64 ⟨by omega,by omega⟩];omega
   have h1:=Qw (id:=id) (o:=o) (i:=i+1) hR BF hT 2 2 rfl;unfold Oh at h1;rw [if_pos hk] at h1;unfold Oe at ez;refine Bh (A4 hR (fun n=>by rw [Ao];simp only [SX,PV.under]) fun bx hid hc=>?_);have t0:=Aa hid hc hR (AA (id:=id) (o:=o) hR hi);have q0:=Aa hid hc hR (Bb (id:=id) (o:=o) hR hi hT _ f0);have tp:=Aa hid hc hR (Ck (id:=id) (i:=i+1) (o:=o) hR BF hT);rw [hq] at tp;have t1:=Aa hid hc hR h1;rw [Ao];rw [BJ rfl];unfold Ap;rw [<- An];rw [<- AL] at t0 q0 tp t1 ez hl;simp only [Ab,Ac,Aa7,Aa0];simp only [S9,Ag,seval,PY,PZ,AS,t0,q0,tp,t1,ez,hl,mE,SX,hid];exact ⟨_,rfl⟩
  | false=>
   simp only [Aa1,if_false];by_cases Bz:o < 100
   · rw [if_pos Bz]
     have uI:Aaa .i64 (((o+1:Nat):Int) - 1)=((o:Nat):Int):=by rw [wrap_i64 ⟨by omega,by omega⟩];omega
     have h1:=hx (i+1) (o+1) BF (by omega);cases r1:pz L n .un (o+1) (i+1) with
     | out=>exact AT
     | bad t e=>
      rw [r1] at h1;obtain ⟨i',o',h1⟩:=h1;refine AK ⟨i',o',Aw hR fun bx hid hc=>?_⟩;have t0:=Aa hid hc hR (AA (id:=id) (o:=o) hR hi);have q0:=Aa hid hc hR (Bb (id:=id) (o:=o) hR hi hT _ f0);have tp:=Aa hid hc hR (Ck (id:=id) (i:=i+1) (o:=o) hR BF hT);rw [hq] at tp;have te:=Aa hid hc hR (CY (id:=id) (L:=L) (i:=i+1) hR Bz (tokAt L i).1 (tokAt L i).2.1 (tokAt L i).2.2);have t1:=Am hid hc hR h1;rw [BJ rfl];unfold Ap;rw [<- An];rw [<- AL] at t0 q0 tp te t1;simp only [Ab,Ac,Aa7,Aa0];simp only [S9,Ag,seval,PY,PZ,AS,t0,q0,tp,te,t1,hid];exact ⟨_,rfl⟩
     | ok a j=>
      rw [r1] at h1;dsimp only [Au];have hl:=aO 2 0;have hb:=TW (El 2 0) a;have hn:=TY 12 (El 2 0) a;refine Bh (A4 hR (fun n=>by rw [Ao];simp only [SX,PV.under]) fun bx hid hc=>?_);have t0:=Aa hid hc hR (AA (id:=id) (o:=o) hR hi);have q0:=Aa hid hc hR (Bb (id:=id) (o:=o) hR hi hT _ f0);have tp:=Aa hid hc hR (Ck (id:=id) (i:=i+1) (o:=o) hR BF hT);rw [hq] at tp;have te:=Aa hid hc hR (CY (id:=id) (L:=L) (i:=i+1) hR Bz (tokAt L i).1 (tokAt L i).2.1 (tokAt L i).2.2);have t1:=Aa hid hc hR h1;rw [Ao] at t1;rw [Ao];rw [BJ rfl];unfold Ap;rw [<- An];rw [<- AL] at t0 q0 tp te t1 hl hn;simp only [Ab,Ac,Aa7,Aa0];simp only [S9,Ag,seval,PY,PZ,AS,t0,q0,tp,te,t1,hl,hb,hn,uI,SX,hid];exact ⟨_,rfl⟩
   · rw [if_neg Bz]
     have uJ:o=100:=by omega
     refine AK ⟨i+1,o+1,Aw hR fun bx hid hc=>?_⟩;have t0:=Aa hid hc hR (AA (id:=id) (o:=o) hR hi);have q0:=Aa hid hc hR (Bb (id:=id) (o:=o) hR hi hT _ f0);have tp:=Aa hid hc hR (Ck (id:=id) (i:=i+1) (o:=o) hR BF hT);rw [hq] at tp;have te:=Am hid hc hR (Jd (id:=id) (L:=L) (i:=i+1) hR uJ (tokAt L i).1 (tokAt L i).2.1 (tokAt L i).2.2);rw [BJ rfl];unfold Ap atT;rw [<- An];rw [<- AL] at t0 q0 tp te;simp only [Ab,Ac,Aa7,Aa0];simp only [S9,Ag,seval,PY,PZ,AS,t0,q0,tp,te,hid];exact ⟨_,rfl⟩
theorem n8 {id:Nat} {L:List Tk} {RL:PV} (hR:RL.pure=true) (hT:TokOK L) (n:Nat) (hp:FK 162 .cmp id L RL n) (hx:FK 139 .not id L RL n):FK 139 .not id L RL (n+1):=by
 intro i o hi ho;rw [pz];cases f0:Br L 1 [110,111,116] i with
 | false=>
  simp only [Aa1,if_false];have h1:=hp i o hi ho;cases r1:pz L n .cmp o i with
  | out=>exact AT
  | bad t e=>
   rw [r1] at h1;obtain ⟨i',o',h1⟩:=h1;refine AK ⟨i',o',Aw hR fun bx hid hc=>?_⟩;have t0:=Aa hid hc hR (AA (id:=id) (o:=o) hR hi);have q0:=Aa hid hc hR (Ae (id:=id) (o:=o) hR hi hT _ f0);have t1:=Am hid hc hR h1;rw [Ch rfl];unfold Ap;rw [<- An];rw [<- AL] at t0 q0 t1;simp only [Ab,Ac,Aa8,Aa0];simp only [S9,Ag,seval,PY,PZ,AS,t0,q0,t1,hid];exact ⟨_,rfl⟩
  | ok a j=>
   rw [r1] at h1;refine Bh (A4 hR (fun n=>by rw [Ao];simp only [SX,PV.under]) fun bx hid hc=>?_);have t0:=Aa hid hc hR (AA (id:=id) (o:=o) hR hi);have q0:=Aa hid hc hR (Ae (id:=id) (o:=o) hR hi hT _ f0);have t1:=Aa hid hc hR h1;rw [Ao] at t1;rw [Ao];rw [Ch rfl];unfold Ap;rw [<- An];rw [<- AL] at t0 q0 t1;simp only [Ab,Ac,Aa8,Aa0];simp only [S9,Ag,seval,PY,PZ,AS,t0,q0,t1,SX,hid];exact ⟨_,rfl⟩
 | true=>
  simp only [if_true];have BF:=AM hT hi f0 (by decide);by_cases Bz:o < 100
  · rw [if_pos Bz]
    have uI:Aaa .i64 (((o+1:Nat):Int) - 1)=((o:Nat):Int):=by rw [wrap_i64 ⟨by omega,by omega⟩];omega
    have h1:=hx (i+1) (o+1) BF (by omega);cases r1:pz L n .not (o+1) (i+1) with
    | out=>exact AT
    | bad t e=>
     rw [r1] at h1;obtain ⟨i',o',h1⟩:=h1;refine AK ⟨i',o',Aw hR fun bx hid hc=>?_⟩;have t0:=Aa hid hc hR (AA (id:=id) (o:=o) hR hi);have q0:=Aa hid hc hR (As (id:=id) (o:=o) hR hi hT _ f0);have te:=Aa hid hc hR (CY (id:=id) (L:=L) (i:=i+1) hR Bz (tokAt L i).1 (tokAt L i).2.1 (tokAt L i).2.2);have t1:=Am hid hc hR h1;rw [Ch rfl];unfold Ap;rw [<- An];rw [<- AL] at t0 q0 te t1;simp only [Ab,Ac,Aa8,Aa0];simp only [S9,Ag,seval,PY,PZ,AS,t0,q0,te,t1,hid];exact ⟨_,rfl⟩
    | ok a j=>
     rw [r1] at h1;dsimp only [Au];have hb:=fL a;have hn:=n3 6 a;refine Bh (A4 hR (fun n=>by rw [Ao];simp only [SX,PV.under]) fun bx hid hc=>?_);have t0:=Aa hid hc hR (AA (id:=id) (o:=o) hR hi);have q0:=Aa hid hc hR (As (id:=id) (o:=o) hR hi hT _ f0);have te:=Aa hid hc hR (CY (id:=id) (L:=L) (i:=i+1) hR Bz (tokAt L i).1 (tokAt L i).2.1 (tokAt L i).2.2);have t1:=Aa hid hc hR h1;rw [Ao] at t1;rw [Ao];rw [Ch rfl];unfold Ap;rw [<- An];rw [<- AL] at t0 q0 te t1 hn;simp only [Ab,Ac,Aa8,Aa0];simp only [S9,Ag,seval,PY,PZ,AS,t0,q0,te,t1,hb,hn,uI,SX,hid];exact ⟨_,rfl⟩
  · rw [if_neg Bz]
    have uJ:o=100:=by omega
    refine AK ⟨i+1,o+1,Aw hR fun bx hid hc=>?_⟩;have t0:=Aa hid hc hR (AA (id:=id) (o:=o) hR hi);have q0:=Aa hid hc hR (As (id:=id) (o:=o) hR hi hT _ f0);have te:=Am hid hc hR (Jd (id:=id) (L:=L) (i:=i+1) hR uJ (tokAt L i).1 (tokAt L i).2.1 (tokAt L i).2.2);rw [Ch rfl];unfold Ap atT;rw [<- An];rw [<- AL] at t0 q0 te;simp only [Ab,Ac,Aa8,Aa0];simp only [S9,Ag,seval,PY,PZ,AS,t0,q0,te,hid];exact ⟨_,rfl⟩
theorem JY:Be CC Aa4 (Aa4.body.getD .skip)=true:=by kernel_rfl
theorem Jh:CC.P.funcs[137]?=some Aa4:=by kernel_rfl
theorem Du {x:List PV} {b:List PBox} (h:x.length.ble Aa4.ntmps=true):Ad CC 137 x b=CM CC Aa4.results.toList (Co CC (Aa4.body.getD .skip) ⟨x,b⟩):=Ah (fn:=Aa4) (c:=Aa4.body.getD .skip) rfl rfl Jh rfl JY (Aa6 h)
theorem Ji:Be CC Aa9 (Aa9.body.getD .skip)=true:=by kernel_rfl
theorem Iw:CC.P.funcs[138]?=some Aa9:=by kernel_rfl
theorem Ep {x:List PV} {b:List PBox} (h:x.length.ble Aa9.ntmps=true):Ad CC 138 x b=CM CC Aa9.results.toList (Co CC (Aa9.body.getD .skip) ⟨x,b⟩):=Ah (fn:=Aa9) (c:=Aa9.body.getD .skip) rfl rfl Iw rfl Ji (Aa6 h)
theorem KK:Be CC Aab (Aab.body.getD .skip)=true:=by kernel_rfl
theorem JZ:CC.P.funcs[99]?=some Aab:=by kernel_rfl
theorem Bg {x:List PV} {b:List PBox} (h:x.length.ble Aab.ntmps=true):Ad CC 99 x b=CM CC Aab.results.toList (Co CC (Aab.body.getD .skip) ⟨x,b⟩):=Ah (fn:=Aab) (c:=Aab.body.getD .skip) rfl rfl JZ rfl KK (Aa6 h)
def Ext (id:Nat) (B0 B:List PBox):Prop:=∀ k,k≠id->k < B0.length->B[k]?=B0[k]?
theorem aP {bx:List PBox} {id:Nat} {P:PBox} {ys:List PBox}:Ext id bx (BX bx id P ys):=by
 intro k hk hl;unfold BX;rw [List.getElem?_append_left (by simpa using hl),List.getElem?_set_ne (Ne.symm hk)]
def mK (g:FuncId) (av:List PV) (nt:NT) (id:Nat) (L:List Tk) (RL:PV) (I O:Nat->Nat->Nat->Nat) (B0:List PBox) (n:Nat):Prop:=∀ m,m < n->∀ i o,i < L.length->o<=100->match pz L m nt o i with
 | .ok a j=>∀ B,Ext id B0 B->M4 L i o RL id B->Ai CC (Ad CC) g av B=some (.ret (BE a),B.set id (Ap L j o RL))
 | .bad t c=>∀ B,Ext id B0 B->M4 L i o RL id B->Ai CC (Ad CC) g av B=some (.pan (B7 t c),B.set id (Ap L (I m i o) (O m i o) RL))
 | .out=>True
theorem n9 {f:FuncId} {nt:NT} {id:Nat} {L:List Tk} {RL:PV} {n:Nat} (h:∀ m,m < n->FK f nt id L RL m):∃ I O:Nat->Nat->Nat->Nat,∀ B0,mK f [.bp id 0] nt id L RL I O B0 n:=by
 have hx:∀ x:Nat×Nat×Nat,∃ y:Nat×Nat,x.1 < n->x.2.1 < L.length->x.2.2<=100->match pz L x.1 nt x.2.2 x.2.1 with
  | .ok a j=>TS f [] id L RL x.2.1 x.2.2 (BE a) j x.2.2
  | .bad t c=>M5 f [] id L RL x.2.1 x.2.2 t c y.1 y.2
  | .out=>True:=by
  intro ⟨m,i,o⟩;by_cases hc:m < n/\i < L.length/\o<=100
  · have:=h m hc.1 i o hc.2.1 hc.2.2
    simp only;cases hr:pz L m nt o i with
    | ok a j=>rw [hr] at this;exact ⟨(0,0),fun _ _ _=>this⟩
    | bad t c=>rw [hr] at this;obtain ⟨i',o',this⟩:=this;exact ⟨(i',o'),fun _ _ _=>this⟩
    | out=>exact ⟨(0,0),fun _ _ _=>trivial⟩
  · exact ⟨(0,0),fun a b c=>absurd ⟨a,b,c⟩ hc⟩
 obtain ⟨J,hJ⟩:=Aad hx;refine ⟨fun m i o=>(J (m,i,o)).1,fun m i o=>(J (m,i,o)).2,fun B0 m hm i o hi ho=>?_⟩;have:=hJ (m,i,o) hm hi ho;simp only at this;cases hr:pz L m nt o i with
 | ok a j=>rw [hr] at this;exact fun B _ hB=>this B hB
 | bad t c=>rw [hr] at this;exact fun B _ hB=>this B hB
 | out=>trivial
def aQ (b:Bool):Int:=if b then 8 else 7
section
variable {bx:List PBox} {id:Nat} {L:List Tk} {i o:Nat} {RL:PV} (hid:id < bx.length) (hc:DN bx) (hR:RL.pure=true)
include hid hc hR
theorem Wr {g:FuncId} {av:List PV} {nt:NT} {I O:Nat->Nat->Nat->Nat} {n m:Nat} (h:mK g av nt id L RL I O bx n) (hm:m < n) (hi:i < L.length) (ho:o<=100) {a:Tr} {j:Nat} (hr:pz L m nt o i=.ok a j) (ys:List PBox) (hy:(ys.all fun x=>x.under (bx.length+ys.length))=true) :
 Ai CC (Ad CC) g av (BX bx id (.cells 92 [.sl (Bj L),.int .i64 ((i:Nat):Int),.int .i64 ((o:Nat):Int),RL]) ys)=some (.ret (.agg (Bo a)),BX bx id (.cells 92 [.sl (Bj L),.int .i64 ((j:Nat):Int),.int .i64 ((o:Nat):Int),RL]) ys):=by
 have:=h m hm i o hi ho;rw [hr] at this;have:=this _ aP (HI (i0:=i) (o0:=o) hid hc hR hy);rw [HY hid,Ao] at this;exact this
theorem cV {g:FuncId} {av:List PV} {nt:NT} {I O:Nat->Nat->Nat->Nat} {n m:Nat} (h:mK g av nt id L RL I O bx n) (hm:m < n) (hi:i < L.length) (ho:o<=100) {t:Nat} {c:Int} (hr:pz L m nt o i=.bad t c) (ys:List PBox) (hy:(ys.all fun x=>x.under (bx.length+ys.length))=true) :
 Ai CC (Ad CC) g av (BX bx id (.cells 92 [.sl (Bj L),.int .i64 ((i:Nat):Int),.int .i64 ((o:Nat):Int),RL]) ys)=some (.pan (B7 t c),BX bx id (.cells 92 [.sl (Bj L),.int .i64 (((I m i o):Nat):Int),.int .i64 (((O m i o):Nat):Int),RL]) ys):=by
 have:=h m hm i o hi ho;rw [hr] at this;have:=this _ aP (HI (i0:=i) (o0:=o) hid hc hR hy);rw [HY hid] at this;exact this
end
def Ws (l:List Tr):List PV:=l.map fun t=>PV.agg (Bo t)
theorem cW (l:List Tr):(Ws l).length=l.length:=by unfold Ws;simp
theorem oa (l:List Tr) (a:Tr):Ws l++[PV.agg (Bo a)]=Ws (l++[a]):=by unfold Ws;simp
theorem rX (a:Tr):([PV.agg (Bo a)].all fun y=>y.cells.length == 11)=true:=by simp [PV.cells,M7]
noncomputable def jK:TypeInfo:=(Tryz.prog.info? 29).getD default
theorem apE (bytes:Nat) (hb:jK.bytes=bytes) (st:St) (al:List (Nat×Loc)) (s x:Operand) (d:Option Tmp):DT CC st al s x 27 27 d=match CZ CC st al 29 s,CJ (opd CC st.env x) with
 | some (l,xs),some ys=>MH bytes 11 29 st al l xs ys d
 | _,_=>none:=EV (i:=jK) (by kernel_rfl) (by kernel_rfl) (by kernel_rfl) (z:=(jK.zero).getD default) (by kernel_rfl) (by kernel_rfl) (by rw [show jK.size=11 from by kernel_rfl];decide) hb (by kernel_rfl)
theorem rY:jK.bytes=136:=by kernel_rfl
theorem aR (Lc:Code) (hL:Lc=Ab Aa4 [1,1,0,0]) {id:Nat} {L:List Tk} {o:Nat} {RL:PV} (hR:RL.pure=true) (hT:TokOK L) (ho:o<=100) (b:Bool) (I O:Nat->Nat->Nat->Nat):∀ (m:Nat) (i:Nat) (acc:List Tr),i < L.length->acc≠[]->acc.length<=8->match pz L m (.chainL b acc) o i with
 | .ok v j=>∃ l:List Tr,v=js b l/\l≠[]/\l.length<=8/\∀ (g:FuncId) (first cap av:List PV) (QK:first.map PV.shutV++cap.map PV.shutV=av) (Uz:Al av=false) (n:Nat) (vz:m<=n) (bx:List PBox) (hid:id < bx.length) (hc:DN bx) (Bc:mK g av (Eo b) id L RL I O bx n) (e:List PV),getT e 0=.bp id 0->getT e 1=.str (MZ b)->getT e 2=.int .i64 (aQ b)->getT e 3=.fn g first cap->getT e 8=.bp bx.length 0->getT e 9=.osl 29 (Ws acc) ->
  ∃ e',Co CC Lc ⟨e,BX bx id (Ap L i o RL) [.cells 29 [.int .i64 0,.int .i64 0,.int .i64 0,.str [],.int .i64 0,.int .i64 0,.str [],.int .i64 0,.str [],.str [],.nils]]⟩=some (.exit 0,⟨e',BX bx id (Ap L j o RL) [.cells 29 [.int .i64 0,.int .i64 0,.int .i64 0,.str [],.int .i64 0,.int .i64 0,.str [],.int .i64 0,.str [],.str [],.nils]]⟩)/\getT e' 2=.int .i64 (aQ b)/\getT e' 8=.bp bx.length 0/\getT e' 9=.osl 29 (Ws l)
 | .bad t c=>∃ i' o',∀ (g:FuncId) (first cap av:List PV) (QK:first.map PV.shutV++cap.map PV.shutV=av) (Uz:Al av=false) (n:Nat) (vz:m<=n) (bx:List PBox) (hid:id < bx.length) (hc:DN bx) (Bc:mK g av (Eo b) id L RL I O bx n) (e:List PV),getT e 0=.bp id 0->getT e 1=.str (MZ b)->getT e 2=.int .i64 (aQ b)->getT e 3=.fn g first cap->getT e 8=.bp bx.length 0->getT e 9=.osl 29 (Ws acc) ->
  ∃ e' ys',Co CC Lc ⟨e,BX bx id (Ap L i o RL) [.cells 29 [.int .i64 0,.int .i64 0,.int .i64 0,.str [],.int .i64 0,.int .i64 0,.str [],.int .i64 0,.str [],.str [],.nils]]⟩=some (.pan (B7 t c),⟨e',BX bx id (Ap L i' o' RL) ys'⟩)
 | .out=>True:=by
 have vf:=apE 136 rY;intro m
 induction m with
 | zero=>intro i acc hi _ _;trivial
 | succ m ih=>
  intro i acc hi Dz hl8;rw [pz];have hlen:=cW acc;have hw:Aaa .i64 ((i:Int)+1)=((i+1:Nat):Int):=by rw [wrap_i64 ⟨by omega,by have:=hT.len;omega⟩];omega
  cases hk:Br L 1 (MZ b) i with
  | false=>
   simp only [Aa1,if_false];refine ⟨acc,rfl,Dz,hl8,fun g first cap av QK Uz n vz bx hid hc Bc e g0 g1 g2 g3 g8 g9=>?_⟩;have t0:=Aa hid hc hR (Dt (id:=id) (o:=o) hR hi 1 1 rfl (MZ b));rw [hk] at t0;rw [A3 (Ab Aa4 [1,1,0,0,0]) hL];unfold Ap;rw [<- An];rw [<- AL] at t0;simp only [Ab,Ac,Aa4,Aa0];simp only [S9,Ag,seval,PY,PZ,AS,Az,g0,g1,g2,g3,g8,g9,t0,hid];exact ⟨_,rfl,by simp only [S7,Ag,seval,g2],by simp only [S7,Ag,seval,g8],by simp only [S7,Ag,seval,g9]⟩
  | true=>
   simp only [if_true];have BF:=AM hT hi hk (by decide);by_cases h8:acc.length=8
   · rw [if_pos h8]
     refine ⟨i,o,fun g first cap av QK Uz n vz bx hid hc Bc e g0 g1 g2 g3 g8 g9=>?_⟩;have t0:=Aa hid hc hR (Dt (id:=id) (o:=o) hR hi 1 1 rfl (MZ b));rw [hk] at t0;have t2:=Aa hid hc hR (AA (id:=id) (o:=o) hR hi);have t3:=Am hid hc hR (CD (id:=id) (i:=i) (o:=o) (L:=L) hR (tokAt L i).1 (tokAt L i).2.1 (tokAt L i).2.2 3);have yf:(((Ws acc).length:Int) == 8)=true:=by rw [hlen,h8];rfl
     rw [A3 (Ab Aa4 [1,1,0,0,0]) hL];unfold Ap atT;rw [<- An];rw [<- AL] at t0 t2 t3;simp only [Ab,Ac,Aa4,Aa0];simp only [S9,Ag,seval,PY,PZ,AS,Az,g0,g1,g2,g3,g8,g9,t0,t2,t3,yf,hid];exact ⟨_,_,rfl⟩
   · rw [if_neg h8]
     have yf:(((Ws acc).length:Int) == 8)=false:=by rw [hlen];have:¬ (acc.length:Int)=8:=(by omega);exact beq_eq_false_iff_ne.2 this
     cases r1:pz L m (Eo b) o (i+1) with
     | out=>trivial
     | bad t c=>
      refine ⟨I m (i+1) o,O m (i+1) o,fun g first cap av QK Uz n vz bx hid hc Bc e g0 g1 g2 g3 g8 g9=>?_⟩;have t0:=Aa hid hc hR (Dt (id:=id) (o:=o) hR hi 1 1 rfl (MZ b));rw [hk] at t0;have t1:=cV hid hc hR Bc (by omega) BF ho r1;rw [A3 (Ab Aa4 [1,1,0,0,0]) hL];unfold Ap;rw [<- An];rw [<- AL] at t0 t1;simp only [Ab,Ac,Aa4,Aa0];simp only [S9,Ag,seval,PY,PZ,AS,Az,g0,g1,g2,g3,g8,g9,t0,t1,yf,QK,hw,hid];exact ⟨_,_,rfl⟩
     | ok a i1=>
      have Gu:=(He hT _ _ _ _ _ _ BF r1).2;dsimp only [Au];have key:=ih i1 (acc++[a]) Gu (by simp) (by simp;omega);have hb:=fL a;have EA:=rX a;have uK:(Ws acc).length+[PV.agg (Bo a)].length<=1000000:=by rw [hlen];simp;omega
      have happ:=oa acc a;have hap0:=fun st al l d=>GK (bytes:=136) (size:=11) (e:=29) (st:=st) (al:=al) (l:=l) (d:=d) uK (by decide) EA;cases r2:pz L m (.chainL b (acc++[a])) o i1 with
      | out=>trivial
      | ok v j=>
       rw [r2] at key;obtain ⟨l,q1,q2,q3,key⟩:=key;refine ⟨l,q1,q2,q3,fun g first cap av QK Uz n vz bx hid hc Bc e g0 g1 g2 g3 g8 g9=>?_⟩;have key:=key g first cap av QK Uz n (by omega) bx hid hc Bc
       have t0:=Aa hid hc hR (Dt (id:=id) (o:=o) hR hi 1 1 rfl (MZ b));rw [hk] at t0;have t1:=Wr hid hc hR Bc (by omega) BF ho r1;rw [A3 (Ab Aa4 [1,1,0,0,0]) hL];unfold Ap at key |-;generalize Ws acc=xa at *;generalize Ws (acc++[a])=xb at *;rw [<- An];rw [<- An] at key;rw [<- AL] at t0 t1;simp only [Ab,Ac,Aa4,Aa0];simp only [S9,Ag,seval,PY,PZ,AS,Az,g0,g1,g2,g3,g8,g9,t0,t1,yf,QK,hw,hb,vf,EA,uK,happ,hap0,Uz,Aac,Aae,SX,hid];refine key _ ?_ ?_ ?_ ?_ ?_ ?_
       · simp only [S7,Ag,seval,g0]
       · simp only [S7,Ag,seval,g1]
       · simp only [S7,Ag,seval,g2]
       · simp only [S7,Ag,seval,g3]
       · simp only [S7,Ag,seval,g8]
       · simp only [S7,Ag,seval]
      | bad t c=>
       rw [r2] at key;obtain ⟨i',o',key⟩:=key;refine ⟨i',o',fun g first cap av QK Uz n vz bx hid hc Bc e g0 g1 g2 g3 g8 g9=>?_⟩;have key:=key g first cap av QK Uz n (by omega) bx hid hc Bc
       have t0:=Aa hid hc hR (Dt (id:=id) (o:=o) hR hi 1 1 rfl (MZ b));rw [hk] at t0;have t1:=Wr hid hc hR Bc (by omega) BF ho r1;rw [A3 (Ab Aa4 [1,1,0,0,0]) hL];unfold Ap at key |-;generalize Ws acc=xa at *;generalize Ws (acc++[a])=xb at *;rw [<- An];rw [<- An] at key;rw [<- AL] at t0 t1;simp only [Ab,Ac,Aa4,Aa0];simp only [S9,Ag,seval,PY,PZ,AS,Az,g0,g1,g2,g3,g8,g9,t0,t1,yf,QK,hw,hb,vf,EA,uK,happ,hap0,Uz,Aac,Aae,SX,hid];refine key _ ?_ ?_ ?_ ?_ ?_ ?_
       · simp only [S7,Ag,seval,g0]
       · simp only [S7,Ag,seval,g1]
       · simp only [S7,Ag,seval,g2]
       · simp only [S7,Ag,seval,g3]
       · simp only [S7,Ag,seval,g8]
       · simp only [S7,Ag,seval]
def CHc (b:Bool) (n:Nat) (id:Nat) (L:List Tk) (RL:PV):Prop:=∀ I O:Nat->Nat->Nat->Nat,∀ i o,i < L.length->o<=100->match pz L n (.chain b) o i with
 | .ok a j=>∀ (g:FuncId) (first cap av:List PV) (QK:first.map PV.shutV++cap.map PV.shutV=av) (Uz:Al av=false) (B:List PBox),mK g av (Eo b) id L RL I O B n->M4 L i o RL id B->Ai CC (Ad CC) 137 [.bp id 0,.str (MZ b),.int .i64 (aQ b),.fn g first cap] B=some (.ret (BE a),B.set id (Ap L j o RL))
 | .bad t c=>∃ i' o',∀ (g:FuncId) (first cap av:List PV) (QK:first.map PV.shutV++cap.map PV.shutV=av) (Uz:Al av=false) (B:List PBox),mK g av (Eo b) id L RL I O B n->M4 L i o RL id B->Ai CC (Ad CC) 137 [.bp id 0,.str (MZ b),.int .i64 (aQ b),.fn g first cap] B=some (.pan (B7 t c),B.set id (Ap L i' o' RL))
 | .out=>True
theorem ob (b:Bool) (a:Tr):js b [a]=a:=rfl
theorem jL (b:Bool) (l:List Tr) (h:2<=l.length):js b l=Bd (aQ b) l:=by
 match l,h with
 | x :: y :: r,_=>rfl
theorem Wt {id:Nat} {L:List Tk} {RL:PV} (hR:RL.pure=true) (hT:TokOK L) (b:Bool):∀ n,CHc b n id L RL:=by
 intro n;cases n with
 | zero=>intro I O i o _ _;trivial
 | succ n=>
  intro I O i o hi ho;rw [pz];cases r1:pz L n (Eo b) o i with
  | out=>trivial
  | bad t c=>
   refine ⟨I n i o,O n i o,fun g first cap av QK Uz B Bc hB=>LN (P:=Ap L i o RL) (by simp [Al,PV.pure]) hB.1 hB.2 (Bl L _ _ hR) (DR _ _ _) ?_⟩;have hid:=(Aa3.1 hB.2).1;have hc:=hB.1;have t1:=cV hid hc hR Bc (by omega) hi ho r1;rw [Du rfl];unfold Ap;rw [<- An];rw [<- AL] at t1;simp only [Ab,Ac,Aa4,Aa0];simp only [S9,Ag,seval,PY,PZ,AS,Az,t1,QK,Uz,Aac,hid];exact ⟨_,rfl⟩
  | ok a i1=>
   have BF:=(He hT _ _ _ _ _ _ hi r1).2;dsimp only [Au];have Af:=aR _ rfl (id:=id) (RL:=RL) hR hT ho b I O n i1 [a] BF (by simp) (by simp);have hb:=fL a;cases r2:pz L n (.chainL b [a]) o i1 with
   | out=>trivial
   | bad t c=>
    rw [r2] at Af;obtain ⟨i',o',Af⟩:=Af;refine ⟨i',o',fun g first cap av QK Uz B Bc hB=>LN (P:=Ap L i o RL) (by simp [Al,PV.pure]) hB.1 hB.2 (Bl L _ _ hR) (DR _ _ _) ?_⟩;have hid:=(Aa3.1 hB.2).1;have hc:=hB.1;have t1:=Wr hid hc hR Bc (by omega) hi ho r1;have Af:=Af g first cap av QK Uz (n+1) (by omega) B hid hc Bc
    rw [Du rfl];skip;simp only [Ab,Ac,Aa4,Aa0] at Af |-;unfold Ap at Af |-;skip;skip;rw [<- An];rw [<- An] at Af;rw [<- AL] at t1;simp only [S9,Ag,seval,PY,PZ,AS,Az,t1,QK,Uz,hb,SX,Aac,hid];generalize hE:Hp _ _=z
    have hP:∃ e' ys',z=some (.pan (B7 t c),⟨e',BX B id (.cells 92 [.sl (Bj L),.int .i64 ((i':Nat):Int),.int .i64 ((o':Nat):Int),RL]) ys'⟩):=by
     rw [<- hE];refine Af _ ?_ ?_ ?_ ?_ ?_ ?_
     · simp only [S7,Ag,seval]
     · simp only [S7,Ag,seval]
     · simp only [S7,Ag,seval]
     · simp only [S7,Ag,seval]
     · simp only [S7,Ag,seval]
     · simp only [S7,Ag,seval] <;> rfl
    obtain ⟨e',ys',he⟩:=hP;subst he;clear hE Af;simp only [S9,Ag,seval,PY,PZ,AS,Az,SX,hid];exact ⟨_,rfl⟩
   | ok v j=>
    rw [r2] at Af;obtain ⟨l,rfl,Dz,hl8,Af⟩:=Af;refine fun g first cap av QK Uz B Bc hB=>LN (P:=Ap L i o RL) (by simp [Al,PV.pure]) hB.1 hB.2 (Bl L _ _ hR) (by rw [Ao];simp only [CR.under,SX,PV.under]) ?_
    have hid:=(Aa3.1 hB.2).1;have hc:=hB.1;have t1:=Wr hid hc hR Bc (by omega) hi ho r1;have Af:=Af g first cap av QK Uz (n+1) (by omega) B hid hc Bc
    rw [Du rfl];rw [Ao];simp only [Ab,Ac,Aa4,Aa0] at Af |-;unfold Ap at Af |-;have hlA:=cW l;have pS:=nZ (aQ b) l;rw [<- An];rw [<- An] at Af;rw [<- AL] at t1 pS;simp only [S9,Ag,seval,PY,PZ,AS,Az,t1,QK,Uz,hb,SX,Aac,hid];generalize hE:Hp _ _=z
    have hP:∃ e',z=some (.exit 0,⟨e',BX B id (.cells 92 [.sl (Bj L),.int .i64 ((j:Nat):Int),.int .i64 ((o:Nat):Int),RL]) [.cells 29 [.int .i64 0,.int .i64 0,.int .i64 0,.str [],.int .i64 0,.int .i64 0,.str [],.int .i64 0,.str [],.str [],.nils]]⟩)/\getT e' 2=.int .i64 (aQ b)/\getT e' 8=.bp B.length 0/\getT e' 9=.osl 29 (Ws l):=by
     rw [<- hE];refine Af _ ?_ ?_ ?_ ?_ ?_ ?_
     · simp only [S7,Ag,seval]
     · simp only [S7,Ag,seval]
     · simp only [S7,Ag,seval]
     · simp only [S7,Ag,seval]
     · simp only [S7,Ag,seval]
     · simp only [S7,Ag,seval] <;> rfl
    obtain ⟨e',he,k2,k8,k9⟩:=hP;subst he;clear hE Af;by_cases h1:l.length=1
    · obtain ⟨a0,rfl⟩:∃ a0,l=[a0]:=by
       match l,h1 with
       | [a0],_=>exact ⟨a0,rfl⟩
      rw [ob];have Qn:(([PV.agg (Bo a0)].length:Int) == 1)=true:=rfl;have hone':(((0+1:Nat):Int) == 1)=true:=rfl;rw [show Ws [a0]=[PV.agg (Bo a0)] from rfl] at k9;simp only [S9,Ag,seval,PY,PZ,AS,Az,k2,k8,k9,Qn,hone',SX,hid];exact ⟨_,rfl⟩
    · have HP:2<=l.length:=by
       have:l.length≠0:=fun h=>Dz (List.eq_nil_of_length_eq_zero h);omega
      rw [jL b l HP];have Qn:(((Ws l).length:Int) == 1)=false:=by rw [hlA];exact beq_eq_false_iff_ne.2 (by omega)
      have hnd':∀ bx,vG 141 [.int .i64 (aQ b),.sl (Ws l)] bx=some (.ret (.agg (Bo (Bd (aQ b) l))),bx):=pS;simp only [S9,Ag,seval,PY,PZ,AS,Az,k2,k8,k9,Qn,hnd',SX,hid];exact ⟨_,rfl⟩
theorem cX {bx:List PBox} {id k:Nat} {P:PBox} {ys:List PBox} (hk:k≠id) (hl:k < bx.length):(BX bx id P ys)[k]?=bx[k]?:=aP k hk hl
theorem Wu {id:Nat} {L:List Tk} {RL:PV} (hR:RL.pure=true) (hT:TokOK L) (n:Nat) (hn:∀ m,m < n->FK 139 .not id L RL m):∃ I O:Nat->Nat->Nat->Nat,∀ (B0:List PBox) (n0:Nat),B0[n0]?=some (.cells 86 [.bp id 0])->n0≠id->mK 138 [.bp n0 0] (.chain false) id L RL I O B0 n:=by
 obtain ⟨I1,O1,Bc⟩:=n9 hn
 have hx:∀ x:Nat×Nat×Nat,∃ y:Nat×Nat,x.1 < n->x.2.1 < L.length->x.2.2<=100->∀ (t:Nat) (c:Int),pz L x.1 (.chain false) x.2.2 x.2.1=.bad t c->∀ (g:FuncId) (first cap av:List PV) (QK:first.map PV.shutV++cap.map PV.shutV=av) (Uz:Al av=false) (B:List PBox),mK g av (Eo false) id L RL I1 O1 B x.1->M4 L x.2.1 x.2.2 RL id B->Ai CC (Ad CC) 137 [.bp id 0,.str (MZ false),.int .i64 (aQ false),.fn g first cap] B=some (.pan (B7 t c),B.set id (Ap L y.1 y.2 RL)):=by
  intro ⟨m,i,o⟩;by_cases hc:i < L.length/\o<=100
  · have:=Wt (id:=id) (RL:=RL) hR hT false m I1 O1 i o hc.1 hc.2
    cases hr:pz L m (.chain false) o i with
    | ok a j=>exact ⟨(0,0),fun _ _ _ t c h=>nomatch h⟩
    | out=>exact ⟨(0,0),fun _ _ _ t c h=>nomatch h⟩
    | bad t c=>
     rw [hr] at this;obtain ⟨i',o',this⟩:=this;refine ⟨(i',o'),fun _ _ _ t' c' h=>?_⟩;injection h with e1 e2
     subst e1 e2;exact this
  · exact ⟨(0,0),fun a b c=>absurd ⟨b,c⟩ hc⟩
 obtain ⟨J,hJ⟩:=Aad hx;refine ⟨fun m i o=>(J (m,i,o)).1,fun m i o=>(J (m,i,o)).2,fun B0 n0 Ms ri m hm i o hi ho=>?_⟩;have hbad:=hJ (m,i,o) hm hi ho;have EA:=Wt (id:=id) (RL:=RL) hR hT false m I1 O1 i o hi ho;have Zh:n0 < B0.length:=(Aa3.1 Ms).1;have ek:∀ B0,mK 139 [.bp id 0] (Eo false) id L RL I1 O1 B0 m:=fun B0 q hq=>Bc B0 q (by omega);cases hr:pz L m (.chain false) o i with
 | out=>trivial
 | ok a j=>
  rw [hr] at EA;intro B uL hB;have pX:B[n0]?=some (.cells 86 [.bp id 0]):=by rw [uL n0 ri Zh];exact Ms
  have hid:=(Aa3.1 hB.2).1;have pT:=(Aa3.1 pX).1;have hc:=hB.1;refine LN (P:=Ap L i o RL) (by simp [Al,PV.pure]) hB.1 hB.2 (Bl L _ _ hR) (by rw [Ao];simp only [CR.under,SX,PV.under]) ?_;have uM:M4 L i o RL id (BX B id (Ap L i o RL) [.cells 29 [.int .i64 0,.int .i64 0,.int .i64 0,.str [],.int .i64 0,.int .i64 0,.str [],.int .i64 0,.str [],.str [],.nils]]):=HI (i0:=i) (o0:=o) hid hc hR (by simp only [SU]);have t1:=EA 139 [.bp id 0] [] [.bp id 0] rfl rfl _ (ek _) uM;rw [HY hid,Ao] at t1;have gn:=cX (bx:=B) (P:=Ap L i o RL) (ys:=[.cells 29 [.int .i64 0,.int .i64 0,.int .i64 0,.str [],.int .i64 0,.int .i64 0,.str [],.int .i64 0,.str [],.str [],.nils]]) ri pT;rw [pX] at gn;unfold aQ MZ at t1;simp only [Aa1,if_false] at t1;rw [Ao];rw [Ep rfl];unfold Ap at *;rw [<- An];rw [<- AL] at t1;simp only [Ab,Ac,Aa9,Aa0];simp only [S9,Ag,seval,PY,PZ,AS,Az,t1,gn,SX,hid];exact ⟨_,rfl⟩
 | bad t c=>
  skip;intro B uL hB;have pX:B[n0]?=some (.cells 86 [.bp id 0]):=by rw [uL n0 ri Zh];exact Ms
  have hid:=(Aa3.1 hB.2).1;have pT:=(Aa3.1 pX).1;have hc:=hB.1;refine LN (P:=Ap L i o RL) (by simp [Al,PV.pure]) hB.1 hB.2 (Bl L _ _ hR) (DR _ _ _) ?_;have uM:M4 L i o RL id (BX B id (Ap L i o RL) [.cells 29 [.int .i64 0,.int .i64 0,.int .i64 0,.str [],.int .i64 0,.int .i64 0,.str [],.int .i64 0,.str [],.str [],.nils]]):=HI (i0:=i) (o0:=o) hid hc hR (by simp only [SU]);have t1:=hbad t c hr 139 [.bp id 0] [] [.bp id 0] rfl rfl _ (ek _) uM;rw [HY hid] at t1;have gn:=cX (bx:=B) (P:=Ap L i o RL) (ys:=[.cells 29 [.int .i64 0,.int .i64 0,.int .i64 0,.str [],.int .i64 0,.int .i64 0,.str [],.int .i64 0,.str [],.str [],.nils]]) ri pT;rw [pX] at gn;unfold aQ MZ at t1;simp only [Aa1,if_false] at t1;rw [Ep rfl];unfold Ap at *;rw [<- An];rw [<- AL] at t1;simp only [Ab,Ac,Aa9,Aa0];simp only [S9,Ag,seval,PY,PZ,AS,Az,t1,gn,SX,hid];exact ⟨_,rfl⟩
end Go.HH
