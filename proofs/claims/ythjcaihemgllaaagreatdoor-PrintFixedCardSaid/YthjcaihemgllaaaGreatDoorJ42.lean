/-
  What the law needs, packed: RB RC.
-/
import Derived.Test.YthjcaihemgllaaaGreatDoorJ41
open Option renaming getD->Aa0
open Go.Proofs.Tryz renaming f111->Aa1,f109->Aa3,f110->Aa6,f108->Aa7
open Bool renaming false_eq_true->Aa2
open List renaming getElem?_cons_zero->Aa4,getElem?_cons_succ->Aa5,getElem?_toArray->Aa8,getD_cons_zero->Aa9,getD_cons_succ->Aaa,filterMap_cons->Aab,filterMap_nil->Aac,not_mem_nil->Aad,length_cons->Aae,length_nil->Aaf,mem_cons->Aag,take_of_length_le->Aaj,length_set->Aak
open Nat renaming le_of_ble_eq_true->Aah,add_sub_cancel_left->Aai
namespace Go.HH
open Go Go.Proofs
set_option maxRecDepth 100000
set_option maxHeartbeats 4000000
set_option linter.unusedSimpArgs false
set_option linter.unusedVariables false
theorem Ix:Be CC Aa3 (Aa3.body.getD .skip)=true:=by kernel_rfl
theorem H5:CC.P.funcs[109]?=some Aa3:=by kernel_rfl
theorem AE {x:List PV} {b:List PBox} (h:x.length.ble Aa3.ntmps=true):Ad CC 109 x b=CM CC Aa3.results.toList (Co CC (Aa3.body.getD .skip) ⟨x,b⟩):=Ah (fn:=Aa3) (c:=Aa3.body.getD .skip) rfl rfl H5 rfl Ix (Aah h)
theorem KL:Be CC Aa1 (Aa1.body.getD .skip)=true:=by kernel_rfl
theorem J1:CC.P.funcs[111]?=some Aa1:=by kernel_rfl
theorem AJ {x:List PV} {b:List PBox} (h:x.length.ble Aa1.ntmps=true):Ad CC 111 x b=CM CC Aa1.results.toList (Co CC (Aa1.body.getD .skip) ⟨x,b⟩):=Ah (fn:=Aa1) (c:=Aa1.body.getD .skip) rfl rfl J1 rfl KL (Aah h)
theorem zl (d:Int) (a b:List UInt8):A9 CC 58 [(0,.int .i64 1),(1,.agg [.int .i64 d,.str a,.str b])]=some (.agg [.int .i64 1,.int .i64 d,.str a,.str b,.int .i64 0,.str [],.str [],.str [],.int .i64 0,.int .i64 0]):=by kernel_rfl
theorem bEv (d:Int) (a b:List UInt8):A9 CC 56 [(0,.int .i64 d),(1,.str a),(2,.str b)]=some (.agg [.int .i64 d,.str a,.str b]):=by kernel_rfl
theorem zo (d:Int) (a b:List UInt8):A9 CC 58 [(0,.int .i64 2),(2,.agg [.int .i64 d,.str a,.str b])]=some (.agg [.int .i64 2,.int .i64 0,.str [],.str [],.int .i64 d,.str a,.str b,.str [],.int .i64 0,.int .i64 0]):=by kernel_rfl
theorem se (n:Int):A9 CC 58 [(0,.int .i64 3),(4,.int .i64 n),(5,.int .i64 127)]=some (.agg [.int .i64 3,.int .i64 0,.str [],.str [],.int .i64 0,.str [],.str [],.str [],.int .i64 n,.int .i64 127]):=by kernel_rfl
theorem bTg (k:Int):A9 CC 58 [(0,.int .i64 k)]=some (.agg [.int .i64 k,.int .i64 0,.str [],.str [],.int .i64 0,.str [],.str [],.str [],.int .i64 0,.int .i64 0]):=by kernel_rfl
theorem zq (s:List UInt8):A9 CC 58 [(0,.int .i64 4),(3,.str s)]=some (.agg [.int .i64 4,.int .i64 0,.str [],.str [],.int .i64 0,.str [],.str [],.str s,.int .i64 0,.int .i64 0]):=by kernel_rfl
theorem zr (n:Int):A9 CC 58 [(0,.int .i64 6),(4,.int .i64 n)]=some (.agg [.int .i64 6,.int .i64 0,.str [],.str [],.int .i64 0,.str [],.str [],.str [],.int .i64 n,.int .i64 0]):=by kernel_rfl
theorem oe (d:Int) (a:List UInt8):A9 CC 26 [(0,.int .i64 d),(1,.str a)]=some (.agg [.int .i64 d,.str a,.str []]):=by kernel_rfl
theorem og (d:Int) (a b:List UInt8):A9 CC 60 [(0,.int .i64 1),(1,.agg [.int .i64 d,.str a,.str b])]=some (.agg [.int .i64 1,.int .i64 d,.str a,.str b,.str [],.int .i64 0,.int .i64 0,.int .i64 0,.str [],.int .i64 0,.int .i64 0,.str [],.int .i64 0,.str [],.str [],.nils]):=by kernel_rfl
theorem oh (d:Int) (a b s:List UInt8):A9 CC 60 [(0,.int .i64 2),(1,.agg [.int .i64 d,.str a,.str b]),(2,.str s)]=some (.agg [.int .i64 2,.int .i64 d,.str a,.str b,.str s,.int .i64 0,.int .i64 0,.int .i64 0,.str [],.int .i64 0,.int .i64 0,.str [],.int .i64 0,.str [],.str [],.nils]):=by kernel_rfl
theorem zt (k:Int) (s:List UInt8):A9 CC 60 [(0,.int .i64 k),(2,.str s)]=some (.agg [.int .i64 k,.int .i64 0,.str [],.str [],.str s,.int .i64 0,.int .i64 0,.int .i64 0,.str [],.int .i64 0,.int .i64 0,.str [],.int .i64 0,.str [],.str [],.nils]):=by kernel_rfl
theorem E3 {L:List Tk} (hT:TokOK L) {n i:Nat} {a:Tr} {j:Nat} (hi:i < L.length) (h:D0 L n i=.ok a j):i<=j/\j < L.length:=by
 unfold D0 at h;obtain ⟨_,i1,r1,h⟩:=Aj h;split at h
 · injection h with _ h
   subst h;exact He hT _ _ _ _ _ _ hi r1
 · cases h
theorem Fw:Bo zT=[.int .i64 0,.int .i64 0,.int .i64 0,.str [],.int .i64 0,.int .i64 0,.str [],.int .i64 0,.str [],.str [],.sl []]:=by unfold Bo zT BE zV zK A8;rfl
theorem Yy {id:Nat} {L:List Tk} {i o:Nat} {RL:PV} (hR:RL.pure=true) (hi:i < L.length) (hT:TokOK L):Xs 109 [] id L RL i o BR (BI L i):=by
 unfold BI;cases f0:Br L 1 [99,104,97,110,103,101] i with
 | true=>
  simp only [if_true];have D3:=AM hT hi f0 (by decide);have h1:=Wh (id:=id) (o:=o) (i:=(i+1)) hR D3 hT;cases r1:Eb L  (i+1) with
  | out=>exact AT
  | bad t e=>
   rw [r1] at h1;obtain ⟨i',o',h1⟩:=h1;refine AK ⟨i',o',Aw hR fun bx hid hc=>?_⟩;have q0:=Aa hid hc hR (As (id:=id) (o:=o) hR hi hT _ f0);have t1:=Am hid hc hR h1;rw [AE rfl];unfold Ap;rw [<- An];rw [<- AL] at q0 t1;simp only [Ab,Ac,Aa3,Aa0];simp only [S9,Ag,seval,PY,PZ,AS,Az,q0,t1,SX,hid];exact ⟨_,rfl⟩
  | ok a1 i1=>
   rw [r1] at h1;dsimp only [Au];have j1:=C1 hT D3 r1;have SZ:=j1.2.1;refine Bh (A4 hR (fun n=>by unfold BR;simp only [SU]) fun bx hid hc=>?_);have q0:=Aa hid hc hR (As (id:=id) (o:=o) hR hi hT _ f0);have t1:=Aa hid hc hR h1;unfold rU at t1;unfold BR
   try unfold zK
   try simp only [Fw]
   rw [AE rfl];unfold Ap;rw [<- An];rw [<- AL] at q0 t1;simp only [Ab,Ac,Aa3,Aa0];simp only [S9,Ag,seval,PY,PZ,AS,Az,q0,t1,zl,SX,hid];exact ⟨_,rfl⟩
 | false=>
  simp only [Aa2,if_false];cases f1:Br L 1 [101,118,101,110,116] i with
  | true=>
   simp only [if_true];have BF:=AM hT hi f1 (by decide);have h1:=RN (id:=id) (o:=o) (i:=(i+1)) hR BF hT;cases r1:Eb L  (i+1) with
   | out=>exact AT
   | bad t e=>
    rw [r1] at h1;obtain ⟨i',o',h1⟩:=h1;refine AK ⟨i',o',Aw hR fun bx hid hc=>?_⟩;have q0:=Aa hid hc hR (Ae (id:=id) (o:=o) hR hi hT _ f0);have q1:=Aa hid hc hR (As (id:=id) (o:=o) hR hi hT _ f1);have t1:=Am hid hc hR h1;rw [AE rfl];unfold Ap;rw [<- An];rw [<- AL] at q0 q1 t1;simp only [Ab,Ac,Aa3,Aa0];simp only [S9,Ag,seval,PY,PZ,AS,Az,q0,q1,t1,SX,hid];exact ⟨_,rfl⟩
   | ok a1 i1=>
    rw [r1] at h1;dsimp only [Au];have j1:=C1 hT BF r1;have SZ:=j1.2.1;refine Bh (A4 hR (fun n=>by unfold BR;simp only [SU]) fun bx hid hc=>?_);have q0:=Aa hid hc hR (Ae (id:=id) (o:=o) hR hi hT _ f0);have q1:=Aa hid hc hR (As (id:=id) (o:=o) hR hi hT _ f1);have t1:=Aa hid hc hR h1;unfold BR
    try unfold zK
    try simp only [Fw]
    rw [AE rfl];unfold Ap;rw [<- An];rw [<- AL] at q0 q1 t1;simp only [Ab,Ac,Aa3,Aa0];simp only [S9,Ag,seval,PY,PZ,AS,Az,q0,q1,t1,zo,bEv,SX,hid];exact ⟨_,rfl⟩
  | false=>
   simp only [Aa2,if_false];cases f2:Br L 1 [116,105,109,101] i with
   | true=>
    simp only [if_true];have Gu:=AM hT hi f2 (by decide);have h1:=On (id:=id) (o:=o) (i:=(i+1)) hR Gu hT;cases r1:Fo L  (i+1) with
    | out=>exact AT
    | bad t e=>
     rw [r1] at h1;obtain ⟨i',o',h1⟩:=h1;refine AK ⟨i',o',Aw hR fun bx hid hc=>?_⟩;have q0:=Aa hid hc hR (Ae (id:=id) (o:=o) hR hi hT _ f0);have q1:=Aa hid hc hR (Ae (id:=id) (o:=o) hR hi hT _ f1);have q2:=Aa hid hc hR (As (id:=id) (o:=o) hR hi hT _ f2);have t1:=Am hid hc hR h1;rw [AE rfl];unfold Ap;rw [<- An];rw [<- AL] at q0 q1 q2 t1;simp only [Ab,Ac,Aa3,Aa0];simp only [S9,Ag,seval,PY,PZ,AS,Az,q0,q1,q2,t1,SX,hid];exact ⟨_,rfl⟩
    | ok a1 i1=>
     rw [r1] at h1;dsimp only [Au];have j1:=E1 hT Gu r1;have SZ:=j1.2.1;cases f7:Br L 1 [100,97,121,115] i1 with
     | true=>
      simp only [if_true];have nb:=AM hT SZ f7 (by decide);have h2:=Ys (id:=id) (o:=o) (i:=(i1+1)) hR nb hT;cases r2:Kq L  (i1+1) with
      | out=>exact AT
      | bad t e=>
       rw [r2] at h2;obtain ⟨i',o',h2⟩:=h2;refine AK ⟨i',o',Aw hR fun bx hid hc=>?_⟩;have q0:=Aa hid hc hR (Ae (id:=id) (o:=o) hR hi hT _ f0);have q1:=Aa hid hc hR (Ae (id:=id) (o:=o) hR hi hT _ f1);have q2:=Aa hid hc hR (As (id:=id) (o:=o) hR hi hT _ f2);have t1:=Aa hid hc hR h1;have q7:=Aa hid hc hR (As (id:=id) (o:=o) hR SZ hT _ f7);have t2:=Am hid hc hR h2;rw [AE rfl];unfold Ap;rw [<- An];rw [<- AL] at q0 q1 q2 t1 q7 t2;simp only [Ab,Ac,Aa3,Aa0];simp only [S9,Ag,seval,PY,PZ,AS,Az,q0,q1,q2,t1,q7,t2,se,SX,hid];exact ⟨_,rfl⟩
      | ok a2 i2=>
       rw [r2] at h2;dsimp only [Au];have j2:=KG hT nb r2;have pI:=j2.2.1;refine Bh (A4 hR (fun n=>by unfold BR;simp only [SU]) fun bx hid hc=>?_);have q0:=Aa hid hc hR (Ae (id:=id) (o:=o) hR hi hT _ f0);have q1:=Aa hid hc hR (Ae (id:=id) (o:=o) hR hi hT _ f1);have q2:=Aa hid hc hR (As (id:=id) (o:=o) hR hi hT _ f2);have t1:=Aa hid hc hR h1;have q7:=Aa hid hc hR (As (id:=id) (o:=o) hR SZ hT _ f7);have t2:=Aa hid hc hR h2;unfold BR
       try unfold zK
       try simp only [Fw]
       rw [AE rfl];unfold Ap;rw [<- An];rw [<- AL] at q0 q1 q2 t1 q7 t2;simp only [Ab,Ac,Aa3,Aa0];simp only [S9,Ag,seval,PY,PZ,AS,Az,q0,q1,q2,t1,q7,t2,se,SX,hid];exact ⟨_,rfl⟩
     | false=>
      simp only [Aa2,if_false];refine Bh (A4 hR (fun n=>by unfold BR;simp only [SU]) fun bx hid hc=>?_);have q0:=Aa hid hc hR (Ae (id:=id) (o:=o) hR hi hT _ f0);have q1:=Aa hid hc hR (Ae (id:=id) (o:=o) hR hi hT _ f1);have q2:=Aa hid hc hR (As (id:=id) (o:=o) hR hi hT _ f2);have t1:=Aa hid hc hR h1;have q7:=Aa hid hc hR (Ae (id:=id) (o:=o) hR SZ hT _ f7);unfold BR
      try unfold zK
      try simp only [Fw]
      rw [AE rfl];unfold Ap;rw [<- An];rw [<- AL] at q0 q1 q2 t1 q7;simp only [Ab,Ac,Aa3,Aa0];simp only [S9,Ag,seval,PY,PZ,AS,Az,q0,q1,q2,t1,q7,se,SX,hid];exact ⟨_,rfl⟩
   | false=>
    simp only [Aa2,if_false];cases f3:Br L 1 [109,111,100,101] i with
    | true=>
     simp only [if_true];have Uy:=AM hT hi f3 (by decide);have k2:=Ok (tokAt L (i+1)).1 1;by_cases hk:(tokAt L (i+1)).1=1
     · rw [if_pos hk]
       rw [beq_iff_eq.2 hk] at k2;have k2:(((tokAt L (i+1)).1:Int) != 1)=false:=k2;have h5:=Hc (id:=id) (o:=o) (i:=(i+1)) hR Uy hT;cases r5:DG L (i+1) with
       | out=>exact AT
       | bad t e=>
        rw [r5] at h5;obtain ⟨i',o',h5⟩:=h5;refine AK ⟨i',o',Aw hR fun bx hid hc=>?_⟩;have q0:=Aa hid hc hR (Ae (id:=id) (o:=o) hR hi hT _ f0);have q1:=Aa hid hc hR (Ae (id:=id) (o:=o) hR hi hT _ f1);have q2:=Aa hid hc hR (Ae (id:=id) (o:=o) hR hi hT _ f2);have q3:=Aa hid hc hR (As (id:=id) (o:=o) hR hi hT _ f3);have tm:=Aa hid hc hR (AA (id:=id) (o:=o) hR Uy);have t5:=Am hid hc hR h5;rw [AE rfl];unfold Ap;rw [<- An];rw [<- AL] at q0 q1 q2 q3 tm t5;simp only [Ab,Ac,Aa3,Aa0];simp only [S9,Ag,seval,PY,PZ,AS,Az,q0,q1,q2,q3,tm,t5,k2,SX,hid];exact ⟨_,rfl⟩
       | ok a5 i5=>
        rw [r5] at h5;dsimp only [Au];have j5:=CI hT Uy r5;have vA:=j5.2;refine Bh (A4 hR (fun n=>by unfold BR;simp only [SU]) fun bx hid hc=>?_);have q0:=Aa hid hc hR (Ae (id:=id) (o:=o) hR hi hT _ f0);have q1:=Aa hid hc hR (Ae (id:=id) (o:=o) hR hi hT _ f1);have q2:=Aa hid hc hR (Ae (id:=id) (o:=o) hR hi hT _ f2);have q3:=Aa hid hc hR (As (id:=id) (o:=o) hR hi hT _ f3);have tm:=Aa hid hc hR (AA (id:=id) (o:=o) hR Uy);have t5:=Aa hid hc hR h5;unfold BR
        try unfold zK
        try simp only [Fw]
        rw [AE rfl];unfold Ap;rw [<- An];rw [<- AL] at q0 q1 q2 q3 tm t5;simp only [Ab,Ac,Aa3,Aa0];simp only [S9,Ag,seval,PY,PZ,AS,Az,q0,q1,q2,q3,tm,t5,k2,zq,SX,hid];exact ⟨_,rfl⟩
     · rw [if_neg hk]
       rw [beq_eq_false_iff_ne.2 hk] at k2;have k2:(((tokAt L (i+1)).1:Int) != 1)=true:=k2;refine Bh (A4 hR (fun n=>by unfold BR;simp only [SU]) fun bx hid hc=>?_);have q0:=Aa hid hc hR (Ae (id:=id) (o:=o) hR hi hT _ f0);have q1:=Aa hid hc hR (Ae (id:=id) (o:=o) hR hi hT _ f1);have q2:=Aa hid hc hR (Ae (id:=id) (o:=o) hR hi hT _ f2);have q3:=Aa hid hc hR (As (id:=id) (o:=o) hR hi hT _ f3);have tm:=Aa hid hc hR (AA (id:=id) (o:=o) hR Uy);unfold BR
       try unfold zK
       try simp only [Fw]
       rw [AE rfl];unfold Ap;rw [<- An];rw [<- AL] at q0 q1 q2 q3 tm;simp only [Ab,Ac,Aa3,Aa0];simp only [S9,Ag,seval,PY,PZ,AS,Az,q0,q1,q2,q3,tm,k2,bTg,SX,hid];exact ⟨_,rfl⟩
    | false=>
     simp only [Aa2,if_false];cases f4:Br L 1 [115,116,97,114,116] i with
     | true=>
      simp only [if_true];have hY:=AM hT hi f4 (by decide);refine Bh (A4 hR (fun n=>by unfold BR;simp only [SU]) fun bx hid hc=>?_);have q0:=Aa hid hc hR (Ae (id:=id) (o:=o) hR hi hT _ f0);have q1:=Aa hid hc hR (Ae (id:=id) (o:=o) hR hi hT _ f1);have q2:=Aa hid hc hR (Ae (id:=id) (o:=o) hR hi hT _ f2);have q3:=Aa hid hc hR (Ae (id:=id) (o:=o) hR hi hT _ f3);have q4:=Aa hid hc hR (As (id:=id) (o:=o) hR hi hT _ f4);unfold BR
      try unfold zK
      try simp only [Fw]
      rw [AE rfl];unfold Ap;rw [<- An];rw [<- AL] at q0 q1 q2 q3 q4;simp only [Ab,Ac,Aa3,Aa0];simp only [S9,Ag,seval,PY,PZ,AS,Az,q0,q1,q2,q3,q4,bTg,SX,hid];exact ⟨_,rfl⟩
     | false=>
      simp only [Aa2,if_false];have h5:=Cb (id:=id) (o:=o) (i:=i) hR hi hT 1 1 rfl [104,111,108,100];cases r5:Bs L 1 [104,111,108,100] i with
      | out=>exact AT
      | bad t e=>
       rw [r5] at h5;obtain ⟨i',o',h5⟩:=h5;refine AK ⟨i',o',Aw hR fun bx hid hc=>?_⟩;have q0:=Aa hid hc hR (Ae (id:=id) (o:=o) hR hi hT _ f0);have q1:=Aa hid hc hR (Ae (id:=id) (o:=o) hR hi hT _ f1);have q2:=Aa hid hc hR (Ae (id:=id) (o:=o) hR hi hT _ f2);have q3:=Aa hid hc hR (Ae (id:=id) (o:=o) hR hi hT _ f3);have q4:=Aa hid hc hR (Ae (id:=id) (o:=o) hR hi hT _ f4);have t5:=Am hid hc hR h5;rw [AE rfl];unfold Ap;rw [<- An];rw [<- AL] at q0 q1 q2 q3 q4 t5;simp only [Ab,Ac,Aa3,Aa0];simp only [S9,Ag,seval,PY,PZ,AS,Az,q0,q1,q2,q3,q4,t5,SX,hid];exact ⟨_,rfl⟩
      | ok a5 i5=>
       rw [r5] at h5;dsimp only [Au];have j5:=AW hT hi (by decide) r5;have vA:=j5.2;have h6:=Hd (id:=id) (o:=o) (i:=i5) hR vA hT 0 1099511627776 0 1099511627776 rfl rfl;cases r6:Hq L 0 1099511627776 i5 with
       | out=>exact AT
       | bad t e=>
        rw [r6] at h6;obtain ⟨i',o',h6⟩:=h6;refine AK ⟨i',o',Aw hR fun bx hid hc=>?_⟩;have q0:=Aa hid hc hR (Ae (id:=id) (o:=o) hR hi hT _ f0);have q1:=Aa hid hc hR (Ae (id:=id) (o:=o) hR hi hT _ f1);have q2:=Aa hid hc hR (Ae (id:=id) (o:=o) hR hi hT _ f2);have q3:=Aa hid hc hR (Ae (id:=id) (o:=o) hR hi hT _ f3);have q4:=Aa hid hc hR (Ae (id:=id) (o:=o) hR hi hT _ f4);have t5:=Aa hid hc hR h5;have t6:=Am hid hc hR h6;rw [AE rfl];unfold Ap;rw [<- An];rw [<- AL] at q0 q1 q2 q3 q4 t5 t6;simp only [Ab,Ac,Aa3,Aa0];simp only [S9,Ag,seval,PY,PZ,AS,Az,q0,q1,q2,q3,q4,t5,t6,SX,hid];exact ⟨_,rfl⟩
       | ok a6 i6=>
        rw [r6] at h6;dsimp only [Au];have j6:=Ft hT vA r6;have hj6:=j6.2.1;refine Bh (A4 hR (fun n=>by unfold BR;simp only [SU]) fun bx hid hc=>?_);have q0:=Aa hid hc hR (Ae (id:=id) (o:=o) hR hi hT _ f0);have q1:=Aa hid hc hR (Ae (id:=id) (o:=o) hR hi hT _ f1);have q2:=Aa hid hc hR (Ae (id:=id) (o:=o) hR hi hT _ f2);have q3:=Aa hid hc hR (Ae (id:=id) (o:=o) hR hi hT _ f3);have q4:=Aa hid hc hR (Ae (id:=id) (o:=o) hR hi hT _ f4);have t5:=Aa hid hc hR h5;have t6:=Aa hid hc hR h6;unfold BR
        try unfold zK
        try simp only [Fw]
        rw [AE rfl];unfold Ap;rw [<- An];rw [<- AL] at q0 q1 q2 q3 q4 t5 t6;simp only [Ab,Ac,Aa3,Aa0];simp only [S9,Ag,seval,PY,PZ,AS,Az,q0,q1,q2,q3,q4,t5,t6,zr,SX,hid];exact ⟨_,rfl⟩
theorem jP {id:Nat} {L:List Tk} {i o:Nat} {RL:PV} (hR:RL.pure=true) (hi:i < L.length) (hT:TokOK L) (n:Nat) (ho:o=0):Xs 111 [] id L RL i o DZ (DV L n i):=by
 unfold DV;cases f0:Br L 1 [115,101,116] i with
 | true=>
  simp only [if_true];have D3:=AM hT hi f0 (by decide);have h1:=Wh (id:=id) (o:=o) (i:=(i+1)) hR D3 hT;cases r1:Eb L  (i+1) with
  | out=>exact AT
  | bad t e=>
   rw [r1] at h1;obtain ⟨i',o',h1⟩:=h1;refine AK ⟨i',o',Aw hR fun bx hid hc=>?_⟩;have q0:=Aa hid hc hR (As (id:=id) (o:=o) hR hi hT _ f0);have t1:=Am hid hc hR h1;rw [AJ rfl];unfold Ap;rw [<- An];rw [<- AL] at q0 t1;simp only [Ab,Ac,Aa1,Aa0];simp only [S9,Ag,seval,PY,PZ,AS,Az,q0,t1,og,SX,hid];exact ⟨_,rfl⟩
  | ok a1 i1=>
   rw [r1] at h1;dsimp only [Au];have j1:=C1 hT D3 r1;have SZ:=j1.2.1;have h2:=Cb (id:=id) (o:=o) (i:=i1) hR SZ hT 4 4 rfl [61];cases r2:Bs L 4 [61] i1 with
   | out=>exact AT
   | bad t e=>
    rw [r2] at h2;obtain ⟨i',o',h2⟩:=h2;refine AK ⟨i',o',Aw hR fun bx hid hc=>?_⟩;have q0:=Aa hid hc hR (As (id:=id) (o:=o) hR hi hT _ f0);have t1:=Aa hid hc hR h1;unfold rU at t1;have t2:=Am hid hc hR h2;rw [AJ rfl];unfold Ap;rw [<- An];rw [<- AL] at q0 t1 t2;simp only [Ab,Ac,Aa1,Aa0];simp only [S9,Ag,seval,PY,PZ,AS,Az,q0,t1,t2,og,SX,hid];exact ⟨_,rfl⟩
   | ok a2 i2=>
    rw [r2] at h2;dsimp only [Au];have j2:=AW hT SZ (by decide) r2;have pI:=j2.2;have h3:=Oq (id:=id) (i:=i2) hR hT pI n o ho;cases r3:D0 L n i2 with
    | out=>exact AT
    | bad t e=>
     rw [r3] at h3;obtain ⟨i',o',h3⟩:=h3;refine AK ⟨i',o',Aw hR fun bx hid hc=>?_⟩;have q0:=Aa hid hc hR (As (id:=id) (o:=o) hR hi hT _ f0);have t1:=Aa hid hc hR h1;unfold rU at t1;have t2:=Aa hid hc hR h2;have t3:=Am hid hc hR h3;rw [AJ rfl];unfold Ap;rw [<- An];rw [<- AL] at q0 t1 t2 t3;simp only [Ab,Ac,Aa1,Aa0];simp only [S9,Ag,seval,PY,PZ,AS,Az,q0,t1,t2,t3,og,SX,hid];exact ⟨_,rfl⟩
    | ok a3 i3=>
     rw [r3] at h3;dsimp only [Au];have j3:=E3 hT pI r3;have hj3:=j3.2;refine Bh (A4 hR (fun n=>by unfold DZ RX;simp [PV.under,Ar,SX]) fun bx hid hc=>?_);have q0:=Aa hid hc hR (As (id:=id) (o:=o) hR hi hT _ f0);have t1:=Aa hid hc hR h1;unfold rU at t1;have t2:=Aa hid hc hR h2;have t3:=Aa hid hc hR h3;rw [Ao] at t3;unfold DZ RX
     try unfold zK
     try simp only [Fw]
     rw [AJ rfl];unfold Ap;rw [<- An];rw [<- AL] at q0 t1 t2 t3;simp only [Ab,Ac,Aa1,Aa0];simp only [S9,Ag,seval,PY,PZ,AS,Az,q0,t1,t2,t3,og,SX,hid];exact ⟨_,rfl⟩
 | false=>
  simp only [Aa2,if_false];cases f1:Br L 1 [99,97,108,108] i with
  | true=>
   simp only [if_true];have BF:=AM hT hi f1 (by decide);have h1:=RN (id:=id) (o:=o) (i:=(i+1)) hR BF hT;cases r1:Eb L  (i+1) with
   | out=>exact AT
   | bad t e=>
    rw [r1] at h1;obtain ⟨i',o',h1⟩:=h1;refine AK ⟨i',o',Aw hR fun bx hid hc=>?_⟩;have q0:=Aa hid hc hR (Ae (id:=id) (o:=o) hR hi hT _ f0);have q1:=Aa hid hc hR (As (id:=id) (o:=o) hR hi hT _ f1);have t1:=Am hid hc hR h1;rw [AJ rfl];unfold Ap;rw [<- An];rw [<- AL] at q0 q1 t1;simp only [Ab,Ac,Aa1,Aa0];simp only [S9,Ag,seval,PY,PZ,AS,Az,q0,q1,t1,SX,hid];exact ⟨_,rfl⟩
   | ok a1 i1=>
    rw [r1] at h1;dsimp only [Au];have j1:=C1 hT BF r1;have SZ:=j1.2.1;cases f7:Br L 4 [40] i1 with
    | true=>
     simp only [if_true];have nb:=AM hT SZ f7 (by decide);have h2:=Oq (id:=id) (i:=(i1+1)) hR hT nb n o ho;cases r2:D0 L n (i1+1) with
     | out=>exact AT
     | bad t e=>
      rw [r2] at h2;obtain ⟨i',o',h2⟩:=h2;refine AK ⟨i',o',Aw hR fun bx hid hc=>?_⟩;have q0:=Aa hid hc hR (Ae (id:=id) (o:=o) hR hi hT _ f0);have q1:=Aa hid hc hR (As (id:=id) (o:=o) hR hi hT _ f1);have t1:=Aa hid hc hR h1;have q7:=Aa hid hc hR (Bb (id:=id) (o:=o) hR SZ hT _ f7);have t2:=Am hid hc hR h2;rw [AJ rfl];unfold Ap;rw [<- An];rw [<- AL] at q0 q1 t1 q7 t2;simp only [Ab,Ac,Aa1,Aa0];simp only [S9,Ag,seval,PY,PZ,AS,Az,q0,q1,t1,q7,t2,oh,oe,SX,hid];exact ⟨_,rfl⟩
     | ok a2 i2=>
      rw [r2] at h2;dsimp only [Au];have j2:=E3 hT nb r2;have pI:=j2.2;have h3:=Cb (id:=id) (o:=o) (i:=i2) hR pI hT 4 4 rfl [41];cases r3:Bs L 4 [41] i2 with
      | out=>exact AT
      | bad t e=>
       rw [r3] at h3;obtain ⟨i',o',h3⟩:=h3;refine AK ⟨i',o',Aw hR fun bx hid hc=>?_⟩;have q0:=Aa hid hc hR (Ae (id:=id) (o:=o) hR hi hT _ f0);have q1:=Aa hid hc hR (As (id:=id) (o:=o) hR hi hT _ f1);have t1:=Aa hid hc hR h1;have q7:=Aa hid hc hR (Bb (id:=id) (o:=o) hR SZ hT _ f7);have t2:=Aa hid hc hR h2;rw [Ao] at t2;have t3:=Am hid hc hR h3;rw [AJ rfl];unfold Ap;rw [<- An];rw [<- AL] at q0 q1 t1 q7 t2 t3;simp only [Ab,Ac,Aa1,Aa0];simp only [S9,Ag,seval,PY,PZ,AS,Az,q0,q1,t1,q7,t2,t3,oh,oe,SX,hid];exact ⟨_,rfl⟩
      | ok a3 i3=>
       rw [r3] at h3;dsimp only [Au];have j3:=AW hT pI (by decide) r3;have hj3:=j3.2;refine Bh (A4 hR (fun n=>by unfold DZ RX;simp [PV.under,Ar,SX]) fun bx hid hc=>?_);have q0:=Aa hid hc hR (Ae (id:=id) (o:=o) hR hi hT _ f0);have q1:=Aa hid hc hR (As (id:=id) (o:=o) hR hi hT _ f1);have t1:=Aa hid hc hR h1;have q7:=Aa hid hc hR (Bb (id:=id) (o:=o) hR SZ hT _ f7);have t2:=Aa hid hc hR h2;rw [Ao] at t2;have t3:=Aa hid hc hR h3;unfold DZ RX
       try unfold zK
       try simp only [Fw]
       rw [AJ rfl];unfold Ap;rw [<- An];rw [<- AL] at q0 q1 t1 q7 t2 t3;simp only [Ab,Ac,Aa1,Aa0];simp only [S9,Ag,seval,PY,PZ,AS,Az,q0,q1,t1,q7,t2,t3,oh,oe,SX,hid];exact ⟨_,rfl⟩
    | false=>
     simp only [Aa2,if_false];refine Bh (A4 hR (fun n=>by unfold DZ RX;simp [PV.under,Ar,SX]) fun bx hid hc=>?_);have q0:=Aa hid hc hR (Ae (id:=id) (o:=o) hR hi hT _ f0);have q1:=Aa hid hc hR (As (id:=id) (o:=o) hR hi hT _ f1);have t1:=Aa hid hc hR h1;have q7:=Aa hid hc hR (AQ (id:=id) (o:=o) hR SZ hT _ f7);unfold DZ RX
     try unfold zK
     try simp only [Fw]
     rw [AJ rfl];unfold Ap;rw [<- An];rw [<- AL] at q0 q1 t1 q7;simp only [Ab,Ac,Aa1,Aa0];simp only [S9,Ag,seval,PY,PZ,AS,Az,q0,q1,t1,q7,oh,oe,SX,hid];exact ⟨_,rfl⟩
  | false=>
   simp only [Aa2,if_false];cases f2:Br L 1 [115,99,101,110,101] i with
   | true=>
    simp only [if_true];have Gu:=AM hT hi f2 (by decide);have h1:=Hc (id:=id) (o:=o) (i:=(i+1)) hR Gu hT;cases r1:DG L (i+1) with
    | out=>exact AT
    | bad t e=>
     rw [r1] at h1;obtain ⟨i',o',h1⟩:=h1;refine AK ⟨i',o',Aw hR fun bx hid hc=>?_⟩;have q0:=Aa hid hc hR (Ae (id:=id) (o:=o) hR hi hT _ f0);have q1:=Aa hid hc hR (Ae (id:=id) (o:=o) hR hi hT _ f1);have q2:=Aa hid hc hR (As (id:=id) (o:=o) hR hi hT _ f2);have t1:=Am hid hc hR h1;rw [AJ rfl];unfold Ap;rw [<- An];rw [<- AL] at q0 q1 q2 t1;simp only [Ab,Ac,Aa1,Aa0];simp only [S9,Ag,seval,PY,PZ,AS,Az,q0,q1,q2,t1,SX,hid];exact ⟨_,rfl⟩
    | ok a1 i1=>
     rw [r1] at h1;dsimp only [Au];have j1:=CI hT Gu r1;have SZ:=j1.2;refine Bh (A4 hR (fun n=>by unfold DZ RX;simp [PV.under,Ar,SX]) fun bx hid hc=>?_);have q0:=Aa hid hc hR (Ae (id:=id) (o:=o) hR hi hT _ f0);have q1:=Aa hid hc hR (Ae (id:=id) (o:=o) hR hi hT _ f1);have q2:=Aa hid hc hR (As (id:=id) (o:=o) hR hi hT _ f2);have t1:=Aa hid hc hR h1;unfold DZ RX
     try unfold zK
     try simp only [Fw]
     rw [AJ rfl];unfold Ap;rw [<- An];rw [<- AL] at q0 q1 q2 t1;simp only [Ab,Ac,Aa1,Aa0];simp only [S9,Ag,seval,PY,PZ,AS,Az,q0,q1,q2,t1,zt,SX,hid];exact ⟨_,rfl⟩
   | false=>
    simp only [Aa2,if_false];cases f3:Br L 1 [109,111,100,101] i with
    | true=>
     simp only [if_true];have Uy:=AM hT hi f3 (by decide);have h1:=Hc (id:=id) (o:=o) (i:=(i+1)) hR Uy hT;cases r1:DG L (i+1) with
     | out=>exact AT
     | bad t e=>
      rw [r1] at h1;obtain ⟨i',o',h1⟩:=h1;refine AK ⟨i',o',Aw hR fun bx hid hc=>?_⟩;have q0:=Aa hid hc hR (Ae (id:=id) (o:=o) hR hi hT _ f0);have q1:=Aa hid hc hR (Ae (id:=id) (o:=o) hR hi hT _ f1);have q2:=Aa hid hc hR (Ae (id:=id) (o:=o) hR hi hT _ f2);have q3:=Aa hid hc hR (As (id:=id) (o:=o) hR hi hT _ f3);have t1:=Am hid hc hR h1;rw [AJ rfl];unfold Ap;rw [<- An];rw [<- AL] at q0 q1 q2 q3 t1;simp only [Ab,Ac,Aa1,Aa0];simp only [S9,Ag,seval,PY,PZ,AS,Az,q0,q1,q2,q3,t1,SX,hid];exact ⟨_,rfl⟩
     | ok a1 i1=>
      rw [r1] at h1;dsimp only [Au];have j1:=CI hT Uy r1;have SZ:=j1.2;refine Bh (A4 hR (fun n=>by unfold DZ RX;simp [PV.under,Ar,SX]) fun bx hid hc=>?_);have q0:=Aa hid hc hR (Ae (id:=id) (o:=o) hR hi hT _ f0);have q1:=Aa hid hc hR (Ae (id:=id) (o:=o) hR hi hT _ f1);have q2:=Aa hid hc hR (Ae (id:=id) (o:=o) hR hi hT _ f2);have q3:=Aa hid hc hR (As (id:=id) (o:=o) hR hi hT _ f3);have t1:=Aa hid hc hR h1;unfold DZ RX
      try unfold zK
      try simp only [Fw]
      rw [AJ rfl];unfold Ap;rw [<- An];rw [<- AL] at q0 q1 q2 q3 t1;simp only [Ab,Ac,Aa1,Aa0];simp only [S9,Ag,seval,PY,PZ,AS,Az,q0,q1,q2,q3,t1,zt,SX,hid];exact ⟨_,rfl⟩
    | false=>
     simp only [Aa2,if_false];have h5:=Cb (id:=id) (o:=o) (i:=i) hR hi hT 1 1 rfl [110,111,116,105,102,121];cases r5:Bs L 1 [110,111,116,105,102,121] i with
     | out=>exact AT
     | bad t e=>
      rw [r5] at h5;obtain ⟨i',o',h5⟩:=h5;refine AK ⟨i',o',Aw hR fun bx hid hc=>?_⟩;have q0:=Aa hid hc hR (Ae (id:=id) (o:=o) hR hi hT _ f0);have q1:=Aa hid hc hR (Ae (id:=id) (o:=o) hR hi hT _ f1);have q2:=Aa hid hc hR (Ae (id:=id) (o:=o) hR hi hT _ f2);have q3:=Aa hid hc hR (Ae (id:=id) (o:=o) hR hi hT _ f3);have t5:=Am hid hc hR h5;rw [AJ rfl];unfold Ap;rw [<- An];rw [<- AL] at q0 q1 q2 q3 t5;simp only [Ab,Ac,Aa1,Aa0];simp only [S9,Ag,seval,PY,PZ,AS,Az,q0,q1,q2,q3,t5,SX,hid];exact ⟨_,rfl⟩
     | ok a5 i5=>
      rw [r5] at h5;dsimp only [Au];have j5:=AW hT hi (by decide) r5;have vA:=j5.2;have h6:=Qw (id:=id) (o:=o) (i:=i5) hR vA hT 3 3 rfl;cases r6:Oh L 3 i5 with
      | out=>exact AT
      | bad t e=>
       rw [r6] at h6;obtain ⟨i',o',h6⟩:=h6;refine AK ⟨i',o',Aw hR fun bx hid hc=>?_⟩;have q0:=Aa hid hc hR (Ae (id:=id) (o:=o) hR hi hT _ f0);have q1:=Aa hid hc hR (Ae (id:=id) (o:=o) hR hi hT _ f1);have q2:=Aa hid hc hR (Ae (id:=id) (o:=o) hR hi hT _ f2);have q3:=Aa hid hc hR (Ae (id:=id) (o:=o) hR hi hT _ f3);have t5:=Aa hid hc hR h5;have t6:=Am hid hc hR h6;rw [AJ rfl];unfold Ap;rw [<- An];rw [<- AL] at q0 q1 q2 q3 t5 t6;simp only [Ab,Ac,Aa1,Aa0];simp only [S9,Ag,seval,PY,PZ,AS,Az,q0,q1,q2,q3,t5,t6,SX,hid];exact ⟨_,rfl⟩
      | ok a6 i6=>
       rw [r6] at h6;dsimp only [Au];have j6:=cM hT vA (by decide) r6;have hj6:=j6.2;refine Bh (A4 hR (fun n=>by unfold DZ RX;simp [PV.under,Ar,SX]) fun bx hid hc=>?_);have q0:=Aa hid hc hR (Ae (id:=id) (o:=o) hR hi hT _ f0);have q1:=Aa hid hc hR (Ae (id:=id) (o:=o) hR hi hT _ f1);have q2:=Aa hid hc hR (Ae (id:=id) (o:=o) hR hi hT _ f2);have q3:=Aa hid hc hR (Ae (id:=id) (o:=o) hR hi hT _ f3);have t5:=Aa hid hc hR h5;have t6:=Aa hid hc hR h6;unfold Oe at t6;unfold DZ RX
       try unfold zK
       try simp only [Fw]
       rw [AJ rfl];unfold Ap;rw [<- An];rw [<- AL] at q0 q1 q2 q3 t5 t6;simp only [Ab,Ac,Aa1,Aa0];simp only [S9,Ag,seval,PY,PZ,AS,Az,q0,q1,q2,q3,t5,t6,zt,SX,hid];exact ⟨_,rfl⟩
theorem Iy:Jy CC Aa7 (Aa7.body.getD .skip)=true:=by kernel_rfl
theorem Iz:Be CC Aa7 (Aa7.body.getD .skip)=false:=by kernel_rfl
theorem H6:CC.P.funcs[108]?=some Aa7:=by kernel_rfl
theorem Ci {x:List PV} {b:List PBox} (h:x.length.ble Aa7.ntmps=true):Ad CC 108 x b=CM CC Aa7.results.toList (Lh CC (Aa7.body.getD .skip) ⟨x,b⟩):=CN (fn:=Aa7) (c:=Aa7.body.getD .skip) rfl rfl H6 rfl Iz Iy (Aah h)
theorem IA:Jy CC Aa6 (Aa6.body.getD .skip)=true:=by kernel_rfl
theorem IC:Be CC Aa6 (Aa6.body.getD .skip)=false:=by kernel_rfl
theorem H7:CC.P.funcs[110]?=some Aa6:=by kernel_rfl
theorem Cj {x:List PV} {b:List PBox} (h:x.length.ble Aa6.ntmps=true):Ad CC 110 x b=CM CC Aa6.results.toList (Lh CC (Aa6.body.getD .skip) ⟨x,b⟩):=CN (fn:=Aa6) (c:=Aa6.body.getD .skip) rfl rfl H7 rfl IC IA (Aah h)
theorem Qy {bx:List PBox} {id:Nat} {P:PBox} {ys:List PBox} (k:Nat):(BX bx id P ys).take (bx.length+k)=BX bx id P (ys.take k):=by
 unfold BX;rw [List.take_append,Aaj (by simp),Aak,Aai]
theorem da {bx:List PBox} {id:Nat} {P:PBox} {ys:List PBox} (k:Nat):(BX bx id P ys).drop (bx.length+k)=ys.drop k:=by
 unfold BX;rw [List.drop_append,List.drop_of_length_le (by simp),Aak,Aai,List.nil_append]
theorem jQ {bx:List PBox} {id:Nat} {P:PBox} {ys zs:List PBox}:BX bx id P ys++zs=BX bx id P (ys++zs):=by
 unfold BX;rw [List.append_assoc]
theorem db {co:FuncId->List PV->List PBox->Option (CR×List PBox)} {k:FuncId} {vs:List PV} {bx:List PBox} {id:Nat} {P P':PBox} {v:PV} (tys:Array TypeId) (a b:PBox) (zs:List PBox) (t x:Nat) (d:Option Tmp) (e:List PV) (ht:tys.toList.any (AP CC)=true) (hk:Al vs=false) (hu:Ar (bx.length+2) vs=true) (hc:DN bx) (hP:P.under bx.length=true) (mQ:P'.under bx.length=true) (yg:([a,b].all fun y=>y.under (bx.length+2))=true) (hv:v.under (bx.length+2)=true) (h:co k vs (BX bx id P [a,b])=some (.ret v,BX bx id P' [a,b])) :
 JB CC co tys k vs d [(t,.box (bx.length+2) x)] ⟨e,BX bx id P (a :: b :: zs)⟩=some (.next ((St.mk e (BX bx id P' (a :: b :: zs))).put d v) (Ak [(t,.box (bx.length+2) x)] d)):=by
 rw [UY CC co tys k vs d _ _ (bx.length+2) ht rfl (by rw [hk];simp) hu (by rw [Qy];have:=Kr (id:=id) (P:=P) (ys:=[a,b]) hc hP yg;unfold DN at this;rw [F7] at this;exact this),Qy];rw [show (a :: b :: zs).take 2=[a,b] from rfl,h];rw [aj v _ _ _ _ _ _ (by rw [F7] <;> rfl) hv (by have:=Kr (id:=id) (P:=P') (ys:=[a,b]) hc mQ yg;unfold DN at this;rw [F7] at this;exact this)];rw [da,jQ];rfl
theorem dc {co:FuncId->List PV->List PBox->Option (CR×List PBox)} {k:FuncId} {vs:List PV} {bx:List PBox} {id:Nat} {P P':PBox} {v:PV} (tys:Array TypeId) (a b:PBox) (zs:List PBox) (t x:Nat) (d:Option Tmp) (e:List PV) (ht:tys.toList.any (AP CC)=true) (hk:Al vs=false) (hu:Ar (bx.length+2) vs=true) (hc:DN bx) (hP:P.under bx.length=true) (mQ:P'.under bx.length=true) (yg:([a,b].all fun y=>y.under (bx.length+2))=true) (hv:v.under (bx.length+2)=true) (h:co k vs (BX bx id P [a,b])=some (.pan v,BX bx id P' [a,b])) :
 JB CC co tys k vs d [(t,.box (bx.length+2) x)] ⟨e,BX bx id P (a :: b :: zs)⟩=some (.pan v ⟨e,BX bx id P' (a :: b :: zs)⟩):=by
 rw [UY CC co tys k vs d _ _ (bx.length+2) ht rfl (by rw [hk];simp) hu (by rw [Qy];have:=Kr (id:=id) (P:=P) (ys:=[a,b]) hc hP yg;unfold DN at this;rw [F7] at this;exact this),Qy];rw [show (a :: b :: zs).take 2=[a,b] from rfl,h];rw [ao v _ _ _ _ _ _ (by rw [F7] <;> rfl) hv (by have:=Kr (id:=id) (P:=P') (ys:=[a,b]) hc mQ yg;unfold DN at this;rw [F7] at this;exact this)];rw [da,jQ];rfl
def C8 (t:TypeId):List PV->PV
 | []=>.nils
 | x :: r=>.osl t (x :: r)
noncomputable def IT:TypeInfo:=(Tryz.prog.info? 58).getD default
noncomputable def IS:TypeInfo:=(Tryz.prog.info? 60).getD default
theorem yB (bytes:Nat) (hb:IT.bytes=bytes) (st:St) (al:List (Nat×Loc)) (s x:Operand) (d:Option Tmp):DT CC st al s x 22 22 d=match CZ CC st al 58 s,CJ (opd CC st.env x) with
 | some (l,xs),some ys=>MH bytes 10 58 st al l xs ys d
 | _,_=>none:=EV (i:=IT) (by kernel_rfl) (by kernel_rfl) (by kernel_rfl) (z:=(IT.zero).getD default) (by kernel_rfl) (by kernel_rfl) (by rw [show IT.size=10 from by kernel_rfl];decide) hb (by kernel_rfl)
theorem yC (bytes:Nat) (hb:IS.bytes=bytes) (st:St) (al:List (Nat×Loc)) (s x:Operand) (d:Option Tmp):DT CC st al s x 30 30 d=match CZ CC st al 60 s,CJ (opd CC st.env x) with
 | some (l,xs),some ys=>MH bytes 16 60 st al l xs ys d
 | _,_=>none:=EV (i:=IS) (by kernel_rfl) (by kernel_rfl) (by kernel_rfl) (z:=(IS.zero).getD default) (by kernel_rfl) (by kernel_rfl) (by rw [show IS.size=16 from by kernel_rfl];decide) hb (by kernel_rfl)
theorem Wy:IT.bytes=120:=by kernel_rfl
theorem Wz:IS.bytes=200:=by kernel_rfl
def C4 (nm:List UInt8) (pr:Int) (on:PV) (dos:PV):Tr->List PV
 | .mk k n m s v q kids=>[.str nm,.int .i64 pr,on,.int .i64 k,.int .i64 n,.int .i64 m,.str s,.int .i64 v.1,.int .i64 v.2.1,.str v.2.2,.int .i64 q.1,.str q.2.1,.str q.2.2,.sl (A8 kids),dos]
theorem Em (t:TypeId) (n:Nat):∀ l:List PV,Ar n l=true->(C8 t l).under n=true
 | [],_=>by simp [C8,PV.under]
 | x :: r,h=>by simp only [C8,PV.under];exact h
theorem bsT (t:Tg):AZ CC 22 1 [(0,BR t)]=some (.osl 58 [BR t]):=by kernel_rfl
theorem Ld (n:Nat) (e:TypeId) (l:List PV):(PV.osl e l).under n=Ar n l:=by simp [PV.under]
theorem bsS (s:Sp):AZ CC 30 1 [(0,.agg (RX s))]=some (.osl 60 [.agg (RX s)]):=by
 obtain ⟨k,y,nm,⟨k2,n,m,s,v,q,kids⟩⟩:=s;unfold RX Bo BE
 kernel_rfl
theorem Ot (n:Nat) (s:Sp):Ar n (RX s)=true:=by unfold RX;simp [PV.under,Ar,SX]
theorem Qz (s:Sp):(RX s).length=16:=by unfold RX;simp [SX]
theorem RY (l:List PV):∀ r:List PV,Al (r++l)=(Al r && Al l)
 | []=>rfl
 | x :: r=>by rw [List.cons_append,AO,AO,RY l r,Bool.and_assoc]
theorem RZ (s:Sp):Al (RX s)=true:=by unfold RX;rw [RY,RP];rfl
theorem Dd (n:Nat) (t:Tg):(BR t).under n=true:=by unfold BR;simp [PV.under,Ar]
theorem DJ (n:Nat) (s:Sp):(DZ s).under n=true:=by unfold DZ;simp [PV.under,Ot]
theorem B4 {α:Type} (f:α->PV) (hf:∀ n a,(f a).under n=true) (n:Nat):∀ l:List α,Ar n (l.map f)=true
 | []=>by simp [Ar]
 | x :: r=>by rw [List.map_cons,SU.2.2.1,hf,B4 f hf n r];rfl
theorem Ou {bx:List PBox} {id:Nat} {P P':PBox} {ys ys':List PBox} {f:FuncId} {args:List PV} {r:CR} (hp:Al args=false) (hl:ys'.length=ys.length) (hc:DN bx) (hP:P'.under bx.length=true) (hy:(ys'.all fun y=>y.under (bx.length+ys'.length))=true) (hr:r.under (bx.length+ys.length)=true) (h:Ad CC f args (BX bx id P ys)=some (r,BX bx id P' ys')):Ai CC (Ad CC) f args (BX bx id P ys)=some (r,BX bx id P' ys'):=by
 unfold Ai;rw [if_pos (by rw [hp];simp),h];simp only;unfold Es;rw [F7];have ht:(BX bx id P' ys').take (bx.length+ys.length)=BX bx id P' ys':=by rw [<- hl,<- F7 (id:=id) (P:=P') (ys:=ys')];exact Aaj (Nat.le_refl _)
 rw [ht,hr];have:=Kr (id:=id) (P:=P') (ys:=ys') hc hP hy;unfold DN at this;rw [F7,hl] at this;rw [this];rfl
theorem de:CL CC (opsOf (Ab Aa7 []))=false:=by kernel_rfl
theorem KM:BO (opsOf (Ab Aa7 []))=[[0,1,2,3,4,5,6,7],[0,2,1,3,4,5,6,7],[0,2,3,1,4,5,6,7],[0,2,3,4,1,5,6,7],[2,0,1,3,4,5,6,7],[2,0,3,1,4,5,6,7],[2,0,3,4,1,5,6,7],[2,3,0,1,4,5,6,7],[2,3,0,4,1,5,6,7],[2,3,4,0,1,5,6,7]]:=by kernel_rfl
theorem R1 {bx:List PBox} {id:Nat} {L:List Tk} {i o:Nat} {RL:PV} (hR:RL.pure=true) {j:Nat} (hid:id < bx.length) (hc:DN bx) (nm:List UInt8) (pr:Int) (dosV:PV) (Ig:∀ n,dosV.under n=true) (et:Tr) (t0:Tk) {J:List PBox} (hJ:∀ n,(J.all fun x=>x.under n)=true)  (a:Tg) (h:TS 109 [] id L RL i o (BR a) j o) :
 drawAll CC (Ad CC) (opsOf (Ab Aa7 [])) ⟨[.bp (bx.length+2) 0,.bp bx.length 0],BX bx id (Ap L i o RL) (.cells 86 [.bp id 0] :: .cells 80 [.int .i64 (t0.1:Int),.str t0.2.1,.int .i64 (t0.2.2:Int)] :: .cells 32 (C4 nm pr .nils dosV et) :: J)⟩=some (.normal,⟨(setT (setT (setT (setT (setT (setT (setT (setT [.bp (bx.length+2) 0,.bp bx.length 0] 2 (.bp (bx.length+2) 2)) 3 (.nils)) 4 (.bp id 0)) 5 (BR a)) 6 (.osl 58 [BR a])) 7 (.osl 58 [BR a])) 8 (.bp (bx.length+2) 2)) 7 (.sl [BR a])),BX bx id (Ap L j o RL) (.cells 86 [.bp id 0] :: .cells 80 [.int .i64 (t0.1:Int),.str t0.2.1,.int .i64 (t0.2.2:Int)] :: .cells 32 (C4 nm pr (.osl 58 [BR a]) dosV et) :: J)⟩):=by
 have t1:=Aa hid hc hR h;have hd:∀ k,id < bx.length+k:=fun k=>by omega
 have hb:=yB _ Wy;obtain ⟨k,n,m,s,v,q,kids⟩:=et;have hk:∀ n,Ar n (A8 kids)=true:=fun z=>Ax z _ (AY kids);have mF:([86]:List TypeId).toArray.toList.any (AP CC)=true:=by kernel_rfl
 have Xu:=bsT a;have b9:=fun st al l d=>GK (bytes:=120) (size:=10) (e:=58) (st:=st) (al:=al) (l:=l) (d:=d) (xs:=[]) (ys:=[BR a]) (by simp only [Aae,Aaf];omega) (by decide) (by unfold BR;rfl);refine AV.2 ⟨by rw [KM];simp,fun l hl=>?_⟩;rw [KM] at hl;unfold C4 Ap;unfold BR at *;rw [<- Mv];rw [<- C3] at t1;simp only [Aag,Aad,or_false] at hl;rcases hl with rfl | rfl | rfl | rfl | rfl | rfl | rfl | rfl | rfl | rfl
 all_goals
  simp only [opsOf,Ab,Ac,Aa7,Aa0,AR,Aab,Aac,Aa8,Aa5,Aa4];simp only [S9,A5,seval,PY,PZ,AS,Az,t1,hd,hb,hk,Ig,hJ,Xu,b9,SX,AX,Bf,Aa9,Aaa,hid]
  try rw [Av _ 6 2 _ _ (by decide)]
  try rw [Av _ 5 2 _ _ (by decide)]
  try rw [Av _ 4 2 _ _ (by decide)]
  try rw [Av _ 6 3 _ _ (by decide)]
  try rw [Av _ 5 3 _ _ (by decide)]
  try rw [Av _ 4 3 _ _ (by decide)]
  try rfl
theorem PX {bx:List PBox} {id:Nat} {L:List Tk} {i o:Nat} {RL:PV} (hR:RL.pure=true) {j:Nat} (hid:id < bx.length) (hc:DN bx) (nm:List UInt8) (pr:Int) (dosV:PV) (Ig:∀ n,dosV.under n=true) (et:Tr) (t0:Tk) {J:List PBox} (hJ:∀ n,(J.all fun x=>x.under n)=true)  {t:Nat} {c:Int} {i' o':Nat} (h:M5 109 [] id L RL i o t c i' o') :
 drawAll CC (Ad CC) (opsOf (Ab Aa7 [])) ⟨[.bp (bx.length+2) 0,.bp bx.length 0],BX bx id (Ap L i o RL) (.cells 86 [.bp id 0] :: .cells 80 [.int .i64 (t0.1:Int),.str t0.2.1,.int .i64 (t0.2.2:Int)] :: .cells 32 (C4 nm pr .nils dosV et) :: J)⟩=some (.pan (B7 t c),⟨[],BX bx id (Ap L i' o' RL) (.cells 86 [.bp id 0] :: .cells 80 [.int .i64 (t0.1:Int),.str t0.2.1,.int .i64 (t0.2.2:Int)] :: .cells 32 (C4 nm pr .nils dosV et) :: J)⟩):=by
 have t1:=Am hid hc hR h;have hd:∀ k,id < bx.length+k:=fun k=>by omega
 have hb:=yB _ Wy;obtain ⟨k,n,m,s,v,q,kids⟩:=et;have hk:∀ n,Ar n (A8 kids)=true:=fun z=>Ax z _ (AY kids);have mF:([86]:List TypeId).toArray.toList.any (AP CC)=true:=by kernel_rfl
 refine AV.2 ⟨by rw [KM];simp,fun l hl=>?_⟩;rw [KM] at hl;unfold C4 Ap;skip;rw [<- Mv];rw [<- C3] at t1;simp only [Aag,Aad,or_false] at hl;rcases hl with rfl | rfl | rfl | rfl | rfl | rfl | rfl | rfl | rfl | rfl
 all_goals
  simp only [opsOf,Ab,Ac,Aa7,Aa0,AR,Aab,Aac,Aa8,Aa5,Aa4];simp only [S9,A5,seval,PY,PZ,AS,Az,t1,hd,hb,hk,Ig,hJ,SX,AX,Bf,Aa9,Aaa,hid]
theorem P0 {bx:List PBox} {id:Nat} {L:List Tk} {i o:Nat} {RL:PV} (hR:RL.pure=true) {j:Nat} (hid:id < bx.length) (hc:DN bx) (nm:List UInt8) (pr:Int) (dosV:PV) (Ig:∀ n,dosV.under n=true) (et:Tr) (t0:Tk) {J:List PBox} (hJ:∀ n,(J.all fun x=>x.under n)=true) (x0:PV) (xs:List PV) (pY:∀ n,x0.under n=true) (mN:∀ n,Ar n xs=true) (yW:xs.length<=7) (a:Tg) (h:TS 109 [] id L RL i o (BR a) j o) :
 drawAll CC (Ad CC) (opsOf (Ab Aa7 [])) ⟨[.bp (bx.length+2) 0,.bp bx.length 0],BX bx id (Ap L i o RL) (.cells 86 [.bp id 0] :: .cells 80 [.int .i64 (t0.1:Int),.str t0.2.1,.int .i64 (t0.2.2:Int)] :: .cells 32 (C4 nm pr (.osl 58 (x0 :: xs)) dosV et) :: J)⟩=some (.normal,⟨(setT (setT (setT (setT (setT (setT (setT (setT [.bp (bx.length+2) 0,.bp bx.length 0] 2 (.bp (bx.length+2) 2)) 3 (.sl (x0 :: xs))) 4 (.bp id 0)) 5 (BR a)) 6 (.osl 58 [BR a])) 7 (.osl 58 (x0 :: (xs++[BR a])))) 8 (.bp (bx.length+2) 2)) 7 (.sl (x0 :: (xs++[BR a])))),BX bx id (Ap L j o RL) (.cells 86 [.bp id 0] :: .cells 80 [.int .i64 (t0.1:Int),.str t0.2.1,.int .i64 (t0.2.2:Int)] :: .cells 32 (C4 nm pr (.osl 58 (x0 :: (xs++[BR a]))) dosV et) :: J)⟩):=by
 have t1:=Aa hid hc hR h;have hd:∀ k,id < bx.length+k:=fun k=>by omega
 have hb:=yB _ Wy;obtain ⟨k,n,m,s,v,q,kids⟩:=et;have hk:∀ n,Ar n (A8 kids)=true:=fun z=>Ax z _ (AY kids);have mF:([86]:List TypeId).toArray.toList.any (AP CC)=true:=by kernel_rfl
 have Xu:=bsT a;have b9:=fun st al l d=>GK (bytes:=120) (size:=10) (e:=58) (st:=st) (al:=al) (l:=l) (d:=d) (xs:=x0 :: xs) (ys:=[BR a]) (by simp only [Aae,Aaf];omega) (by decide) (by unfold BR;rfl);have Cq:=fun Zy t1 e=>db (co:=Zy) (k:=109) (vs:=[.bp id 0]) (bx:=bx) (id:=id) (P:=Ap L i o RL) (P':=Ap L j o RL) (v:=BR a) #[86] (.cells 86 [.bp id 0]) (.cells 80 [.int .i64 (t0.1:Int),.str t0.2.1,.int .i64 (t0.2.2:Int)]) (.cells 32 (C4 nm pr (.osl 58 (x0 :: xs)) dosV (.mk k n m s v q kids)) :: J) 3 2 (some 5) e mF rfl (by simp only [SU,SX,hd,decide_true]) hc (Bl L i o hR) (Bl L j o hR) (by simp only [SU,SX,hd,decide_true]) (Dd _ a) t1;refine AV.2 ⟨by rw [KM];simp,fun l hl=>?_⟩;rw [KM] at hl;unfold C4 Ap at|-Cq;unfold BR at *;rw [<- Mv];rw [<- C3] at t1;replace Cq:=fun e=>Cq Zy (t1 [.cells 86 [.bp id 0],.cells 80 [.int .i64 (t0.1:Int),.str t0.2.1,.int .i64 (t0.2.2:Int)]] (by simp only [SU,SX,hd,decide_true,Aae,Aaf])) e;simp only [Aag,Aad,or_false] at hl;rcases hl with rfl | rfl | rfl | rfl | rfl | rfl | rfl | rfl | rfl | rfl
 all_goals
  simp only [opsOf,Ab,Ac,Aa7,Aa0,AR,Aab,Aac,Aa8,Aa5,Aa4];simp only [S9,A5,seval,PY,PZ,AS,Az,t1,hd,hb,hk,Ig,hJ,Xu,b9,pY,mN,Cq,F4,Ld,SX,AX,Bf,Aa9,Aaa,hid]
  try rw [Av _ 6 2 _ _ (by decide)]
  try rw [Av _ 5 2 _ _ (by decide)]
  try rw [Av _ 4 2 _ _ (by decide)]
  try rw [Av _ 6 3 _ _ (by decide)]
  try rw [Av _ 5 3 _ _ (by decide)]
  try rw [Av _ 4 3 _ _ (by decide)]
  try rfl
theorem Ov {bx:List PBox} {id:Nat} {L:List Tk} {i o:Nat} {RL:PV} (hR:RL.pure=true) {j:Nat} (hid:id < bx.length) (hc:DN bx) (nm:List UInt8) (pr:Int) (dosV:PV) (Ig:∀ n,dosV.under n=true) (et:Tr) (t0:Tk) {J:List PBox} (hJ:∀ n,(J.all fun x=>x.under n)=true) (x0:PV) (xs:List PV) (pY:∀ n,x0.under n=true) (mN:∀ n,Ar n xs=true) (yW:xs.length<=7) {t:Nat} {c:Int} {i' o':Nat} (h:M5 109 [] id L RL i o t c i' o') :
 drawAll CC (Ad CC) (opsOf (Ab Aa7 [])) ⟨[.bp (bx.length+2) 0,.bp bx.length 0],BX bx id (Ap L i o RL) (.cells 86 [.bp id 0] :: .cells 80 [.int .i64 (t0.1:Int),.str t0.2.1,.int .i64 (t0.2.2:Int)] :: .cells 32 (C4 nm pr (.osl 58 (x0 :: xs)) dosV et) :: J)⟩=some (.pan (B7 t c),⟨[],BX bx id (Ap L i' o' RL) (.cells 86 [.bp id 0] :: .cells 80 [.int .i64 (t0.1:Int),.str t0.2.1,.int .i64 (t0.2.2:Int)] :: .cells 32 (C4 nm pr (.osl 58 (x0 :: xs)) dosV et) :: J)⟩):=by
 have t1:=Am hid hc hR h;have hd:∀ k,id < bx.length+k:=fun k=>by omega
 have hb:=yB _ Wy;obtain ⟨k,n,m,s,v,q,kids⟩:=et;have hk:∀ n,Ar n (A8 kids)=true:=fun z=>Ax z _ (AY kids);have mF:([86]:List TypeId).toArray.toList.any (AP CC)=true:=by kernel_rfl
 have Cq:=fun Zy t1 e=>dc (co:=Zy) (k:=109) (vs:=[.bp id 0]) (bx:=bx) (id:=id) (P:=Ap L i o RL) (P':=Ap L i' o' RL) (v:=B7 t c) #[86] (.cells 86 [.bp id 0]) (.cells 80 [.int .i64 (t0.1:Int),.str t0.2.1,.int .i64 (t0.2.2:Int)]) (.cells 32 (C4 nm pr (.osl 58 (x0 :: xs)) dosV (.mk k n m s v q kids)) :: J) 3 2 (some 5) e mF rfl (by simp only [SU,SX,hd,decide_true]) hc (Bl L i o hR) (Bl L i' o' hR) (by simp only [SU,SX,hd,decide_true]) (DR (bx.length+2) t c) t1;refine AV.2 ⟨by rw [KM];simp,fun l hl=>?_⟩;rw [KM] at hl;unfold C4 Ap at|-Cq;skip;rw [<- Mv];rw [<- C3] at t1;replace Cq:=fun e=>Cq Zy (t1 [.cells 86 [.bp id 0],.cells 80 [.int .i64 (t0.1:Int),.str t0.2.1,.int .i64 (t0.2.2:Int)]] (by simp only [SU,SX,hd,decide_true,Aae,Aaf])) e;simp only [Aag,Aad,or_false] at hl;rcases hl with rfl | rfl | rfl | rfl | rfl | rfl | rfl | rfl | rfl | rfl
 all_goals
  simp only [opsOf,Ab,Ac,Aa7,Aa0,AR,Aab,Aac,Aa8,Aa5,Aa4];simp only [S9,A5,seval,PY,PZ,AS,Az,t1,hd,hb,hk,Ig,hJ,pY,mN,Cq,F4,Ld,SX,AX,Bf,Aa9,Aaa,hid]
theorem df:CL CC (opsOf (Ab Aa6 []))=false:=by kernel_rfl
theorem KN:BO (opsOf (Ab Aa6 []))=[[0,1,2,3,4,5,6,7],[0,2,1,3,4,5,6,7],[0,2,3,1,4,5,6,7],[0,2,3,4,1,5,6,7],[2,0,1,3,4,5,6,7],[2,0,3,1,4,5,6,7],[2,0,3,4,1,5,6,7],[2,3,0,1,4,5,6,7],[2,3,0,4,1,5,6,7],[2,3,4,0,1,5,6,7]]:=by kernel_rfl
theorem R2 {bx:List PBox} {id:Nat} {L:List Tk} {i o:Nat} {RL:PV} (hR:RL.pure=true) {j:Nat} (hid:id < bx.length) (hc:DN bx) (nm:List UInt8) (pr:Int) (onV:PV) (Ig:∀ n,onV.under n=true) (et:Tr) (t0:Tk) {J:List PBox} (hJ:∀ n,(J.all fun x=>x.under n)=true)  (a:Sp) (h:TS 111 [] id L RL i o (DZ a) j o) :
 drawAll CC (Ad CC) (opsOf (Ab Aa6 [])) ⟨[.bp (bx.length+2) 0,.bp bx.length 0],BX bx id (Ap L i o RL) (.cells 86 [.bp id 0] :: .cells 80 [.int .i64 (t0.1:Int),.str t0.2.1,.int .i64 (t0.2.2:Int)] :: .cells 32 (C4 nm pr onV .nils et) :: J)⟩=some (.normal,⟨(setT (setT (setT (setT (setT (setT (setT (setT [.bp (bx.length+2) 0,.bp bx.length 0] 2 (.bp (bx.length+2) 14)) 3 (.nils)) 4 (.bp id 0)) 5 (DZ a)) 6 (.osl 60 [DZ a])) 7 (.osl 60 [DZ a])) 8 (.bp (bx.length+2) 14)) 7 (.sl [DZ a])),BX bx id (Ap L j o RL) (.cells 86 [.bp id 0] :: .cells 80 [.int .i64 (t0.1:Int),.str t0.2.1,.int .i64 (t0.2.2:Int)] :: .cells 32 (C4 nm pr onV (.osl 60 [DZ a]) et) :: J)⟩):=by
 have t1:=Aa hid hc hR h;have hd:∀ k,id < bx.length+k:=fun k=>by omega
 have hb:=yC _ Wz;obtain ⟨k,n,m,s,v,q,kids⟩:=et;have hk:∀ n,Ar n (A8 kids)=true:=fun z=>Ax z _ (AY kids);have mF:([86]:List TypeId).toArray.toList.any (AP CC)=true:=by kernel_rfl
 have Xu:=bsS a;have b9:=fun st al l d=>GK (bytes:=200) (size:=16) (e:=60) (st:=st) (al:=al) (l:=l) (d:=d) (xs:=[]) (ys:=[DZ a]) (by simp only [Aae,Aaf];omega) (by decide) (by unfold DZ;simp [PV.cells,Qz]);refine AV.2 ⟨by rw [KN];simp,fun l hl=>?_⟩;rw [KN] at hl;unfold C4 Ap;unfold DZ at *;rw [<- Mv];rw [<- C3] at t1;simp only [Aag,Aad,or_false] at hl;rcases hl with rfl | rfl | rfl | rfl | rfl | rfl | rfl | rfl | rfl | rfl
 all_goals
  simp only [opsOf,Ab,Ac,Aa6,Aa0,AR,Aab,Aac,Aa8,Aa5,Aa4];simp only [S9,A5,seval,PY,PZ,AS,Az,t1,hd,hb,hk,Ig,hJ,Xu,b9,Ot,Qz,RZ,SX,AX,Bf,Aa9,Aaa,hid]
  try rw [Av _ 6 2 _ _ (by decide)]
  try rw [Av _ 5 2 _ _ (by decide)]
  try rw [Av _ 4 2 _ _ (by decide)]
  try rw [Av _ 6 3 _ _ (by decide)]
  try rw [Av _ 5 3 _ _ (by decide)]
  try rw [Av _ 4 3 _ _ (by decide)]
  try rfl
theorem P1 {bx:List PBox} {id:Nat} {L:List Tk} {i o:Nat} {RL:PV} (hR:RL.pure=true) {j:Nat} (hid:id < bx.length) (hc:DN bx) (nm:List UInt8) (pr:Int) (onV:PV) (Ig:∀ n,onV.under n=true) (et:Tr) (t0:Tk) {J:List PBox} (hJ:∀ n,(J.all fun x=>x.under n)=true)  {t:Nat} {c:Int} {i' o':Nat} (h:M5 111 [] id L RL i o t c i' o') :
 drawAll CC (Ad CC) (opsOf (Ab Aa6 [])) ⟨[.bp (bx.length+2) 0,.bp bx.length 0],BX bx id (Ap L i o RL) (.cells 86 [.bp id 0] :: .cells 80 [.int .i64 (t0.1:Int),.str t0.2.1,.int .i64 (t0.2.2:Int)] :: .cells 32 (C4 nm pr onV .nils et) :: J)⟩=some (.pan (B7 t c),⟨[],BX bx id (Ap L i' o' RL) (.cells 86 [.bp id 0] :: .cells 80 [.int .i64 (t0.1:Int),.str t0.2.1,.int .i64 (t0.2.2:Int)] :: .cells 32 (C4 nm pr onV .nils et) :: J)⟩):=by
 have t1:=Am hid hc hR h;have hd:∀ k,id < bx.length+k:=fun k=>by omega
 have hb:=yC _ Wz;obtain ⟨k,n,m,s,v,q,kids⟩:=et;have hk:∀ n,Ar n (A8 kids)=true:=fun z=>Ax z _ (AY kids);have mF:([86]:List TypeId).toArray.toList.any (AP CC)=true:=by kernel_rfl
 refine AV.2 ⟨by rw [KN];simp,fun l hl=>?_⟩;rw [KN] at hl;unfold C4 Ap;skip;rw [<- Mv];rw [<- C3] at t1;simp only [Aag,Aad,or_false] at hl;rcases hl with rfl | rfl | rfl | rfl | rfl | rfl | rfl | rfl | rfl | rfl
 all_goals
  simp only [opsOf,Ab,Ac,Aa6,Aa0,AR,Aab,Aac,Aa8,Aa5,Aa4];simp only [S9,A5,seval,PY,PZ,AS,Az,t1,hd,hb,hk,Ig,hJ,SX,AX,Bf,Aa9,Aaa,hid]
theorem P2 {bx:List PBox} {id:Nat} {L:List Tk} {i o:Nat} {RL:PV} (hR:RL.pure=true) {j:Nat} (hid:id < bx.length) (hc:DN bx) (nm:List UInt8) (pr:Int) (onV:PV) (Ig:∀ n,onV.under n=true) (et:Tr) (t0:Tk) {J:List PBox} (hJ:∀ n,(J.all fun x=>x.under n)=true) (x0:PV) (xs:List PV) (pY:∀ n,x0.under n=true) (mN:∀ n,Ar n xs=true) (yW:xs.length<=7) (a:Sp) (h:TS 111 [] id L RL i o (DZ a) j o) :
 drawAll CC (Ad CC) (opsOf (Ab Aa6 [])) ⟨[.bp (bx.length+2) 0,.bp bx.length 0],BX bx id (Ap L i o RL) (.cells 86 [.bp id 0] :: .cells 80 [.int .i64 (t0.1:Int),.str t0.2.1,.int .i64 (t0.2.2:Int)] :: .cells 32 (C4 nm pr onV (.osl 60 (x0 :: xs)) et) :: J)⟩=some (.normal,⟨(setT (setT (setT (setT (setT (setT (setT (setT [.bp (bx.length+2) 0,.bp bx.length 0] 2 (.bp (bx.length+2) 14)) 3 (.sl (x0 :: xs))) 4 (.bp id 0)) 5 (DZ a)) 6 (.osl 60 [DZ a])) 7 (.osl 60 (x0 :: (xs++[DZ a])))) 8 (.bp (bx.length+2) 14)) 7 (.sl (x0 :: (xs++[DZ a])))),BX bx id (Ap L j o RL) (.cells 86 [.bp id 0] :: .cells 80 [.int .i64 (t0.1:Int),.str t0.2.1,.int .i64 (t0.2.2:Int)] :: .cells 32 (C4 nm pr onV (.osl 60 (x0 :: (xs++[DZ a]))) et) :: J)⟩):=by
 have t1:=Aa hid hc hR h;have hd:∀ k,id < bx.length+k:=fun k=>by omega
 have hb:=yC _ Wz;obtain ⟨k,n,m,s,v,q,kids⟩:=et;have hk:∀ n,Ar n (A8 kids)=true:=fun z=>Ax z _ (AY kids);have mF:([86]:List TypeId).toArray.toList.any (AP CC)=true:=by kernel_rfl
 have Xu:=bsS a;have b9:=fun st al l d=>GK (bytes:=200) (size:=16) (e:=60) (st:=st) (al:=al) (l:=l) (d:=d) (xs:=x0 :: xs) (ys:=[DZ a]) (by simp only [Aae,Aaf];omega) (by decide) (by unfold DZ;simp [PV.cells,Qz]);have Cq:=fun Zy t1 e=>db (co:=Zy) (k:=111) (vs:=[.bp id 0]) (bx:=bx) (id:=id) (P:=Ap L i o RL) (P':=Ap L j o RL) (v:=DZ a) #[86] (.cells 86 [.bp id 0]) (.cells 80 [.int .i64 (t0.1:Int),.str t0.2.1,.int .i64 (t0.2.2:Int)]) (.cells 32 (C4 nm pr onV (.osl 60 (x0 :: xs)) (.mk k n m s v q kids)) :: J) 3 14 (some 5) e mF rfl (by simp only [SU,SX,hd,decide_true]) hc (Bl L i o hR) (Bl L j o hR) (by simp only [SU,SX,hd,decide_true]) (DJ _ a) t1;refine AV.2 ⟨by rw [KN];simp,fun l hl=>?_⟩;rw [KN] at hl;unfold C4 Ap at|-Cq;unfold DZ at *;rw [<- Mv];rw [<- C3] at t1;replace Cq:=fun e=>Cq Zy (t1 [.cells 86 [.bp id 0],.cells 80 [.int .i64 (t0.1:Int),.str t0.2.1,.int .i64 (t0.2.2:Int)]] (by simp only [SU,SX,hd,decide_true,Aae,Aaf])) e;simp only [Aag,Aad,or_false] at hl;rcases hl with rfl | rfl | rfl | rfl | rfl | rfl | rfl | rfl | rfl | rfl
 all_goals
  simp only [opsOf,Ab,Ac,Aa6,Aa0,AR,Aab,Aac,Aa8,Aa5,Aa4];simp only [S9,A5,seval,PY,PZ,AS,Az,t1,hd,hb,hk,Ig,hJ,Xu,b9,Ot,Qz,RZ,pY,mN,Cq,F4,Ld,SX,AX,Bf,Aa9,Aaa,hid]
  try rw [Av _ 6 2 _ _ (by decide)]
  try rw [Av _ 5 2 _ _ (by decide)]
  try rw [Av _ 4 2 _ _ (by decide)]
  try rw [Av _ 6 3 _ _ (by decide)]
  try rw [Av _ 5 3 _ _ (by decide)]
  try rw [Av _ 4 3 _ _ (by decide)]
  try rfl
theorem Ow {bx:List PBox} {id:Nat} {L:List Tk} {i o:Nat} {RL:PV} (hR:RL.pure=true) {j:Nat} (hid:id < bx.length) (hc:DN bx) (nm:List UInt8) (pr:Int) (onV:PV) (Ig:∀ n,onV.under n=true) (et:Tr) (t0:Tk) {J:List PBox} (hJ:∀ n,(J.all fun x=>x.under n)=true) (x0:PV) (xs:List PV) (pY:∀ n,x0.under n=true) (mN:∀ n,Ar n xs=true) (yW:xs.length<=7) {t:Nat} {c:Int} {i' o':Nat} (h:M5 111 [] id L RL i o t c i' o') :
 drawAll CC (Ad CC) (opsOf (Ab Aa6 [])) ⟨[.bp (bx.length+2) 0,.bp bx.length 0],BX bx id (Ap L i o RL) (.cells 86 [.bp id 0] :: .cells 80 [.int .i64 (t0.1:Int),.str t0.2.1,.int .i64 (t0.2.2:Int)] :: .cells 32 (C4 nm pr onV (.osl 60 (x0 :: xs)) et) :: J)⟩=some (.pan (B7 t c),⟨[],BX bx id (Ap L i' o' RL) (.cells 86 [.bp id 0] :: .cells 80 [.int .i64 (t0.1:Int),.str t0.2.1,.int .i64 (t0.2.2:Int)] :: .cells 32 (C4 nm pr onV (.osl 60 (x0 :: xs)) et) :: J)⟩):=by
 have t1:=Am hid hc hR h;have hd:∀ k,id < bx.length+k:=fun k=>by omega
 have hb:=yC _ Wz;obtain ⟨k,n,m,s,v,q,kids⟩:=et;have hk:∀ n,Ar n (A8 kids)=true:=fun z=>Ax z _ (AY kids);have mF:([86]:List TypeId).toArray.toList.any (AP CC)=true:=by kernel_rfl
 have Cq:=fun Zy t1 e=>dc (co:=Zy) (k:=111) (vs:=[.bp id 0]) (bx:=bx) (id:=id) (P:=Ap L i o RL) (P':=Ap L i' o' RL) (v:=B7 t c) #[86] (.cells 86 [.bp id 0]) (.cells 80 [.int .i64 (t0.1:Int),.str t0.2.1,.int .i64 (t0.2.2:Int)]) (.cells 32 (C4 nm pr onV (.osl 60 (x0 :: xs)) (.mk k n m s v q kids)) :: J) 3 14 (some 5) e mF rfl (by simp only [SU,SX,hd,decide_true]) hc (Bl L i o hR) (Bl L i' o' hR) (by simp only [SU,SX,hd,decide_true]) (DR (bx.length+2) t c) t1;refine AV.2 ⟨by rw [KN];simp,fun l hl=>?_⟩;rw [KN] at hl;unfold C4 Ap at|-Cq;skip;rw [<- Mv];rw [<- C3] at t1;replace Cq:=fun e=>Cq Zy (t1 [.cells 86 [.bp id 0],.cells 80 [.int .i64 (t0.1:Int),.str t0.2.1,.int .i64 (t0.2.2:Int)]] (by simp only [SU,SX,hd,decide_true,Aae,Aaf])) e;simp only [Aag,Aad,or_false] at hl;rcases hl with rfl | rfl | rfl | rfl | rfl | rfl | rfl | rfl | rfl | rfl
 all_goals
  simp only [opsOf,Ab,Ac,Aa6,Aa0,AR,Aab,Aac,Aa8,Aa5,Aa4];simp only [S9,A5,seval,PY,PZ,AS,Az,t1,hd,hb,hk,Ig,hJ,pY,mN,Cq,F4,Ld,SX,AX,Bf,Aa9,Aaa,hid]
end Go.HH
