/-
  What the law needs, packed: RB RC.
-/
import Derived.Test.YthjcaihemgllaaaGreatDoorK41
open Option renaming getD->Aau
open Go.Proofs.Tryz renaming f111->Aav,f109->Aax,f110->Ab0,f108->Ab1
open Bool renaming false_eq_true->Aaw
open List renaming getElem?_cons_zero->Aay,getElem?_cons_succ->Aaz,getElem?_toArray->Ab2,getD_cons_zero->Ab3,getD_cons_succ->Ab4,filterMap_cons->Ab5,filterMap_nil->Ab6,not_mem_nil->Ab7,length_cons->Ab8,length_nil->Ab9,mem_cons->Aba,take_of_length_le->Abd,length_set->Abe
open Nat renaming le_of_ble_eq_true->Abb,add_sub_cancel_left->Abc
namespace Go.HH
open Go Go.Proofs
set_option maxRecDepth 100000
set_option maxHeartbeats 4000000
set_option linter.unusedSimpArgs false
set_option linter.unusedVariables false
theorem II:Be CC Aax (Aax.body.getD .skip)=true:=by kernel_rfl
theorem H':CC.P.funcs[109]?=some Aax:=by kernel_rfl
theorem AE {x:List PV} {b:List PBox} (h:x.length.ble Aax.ntmps=true):Ad CC 109 x b=CD CC Aax.results.toList (Cf CC (Aax.body.getD .skip) ⟨x,b⟩):=Ah (fn:=Aax) (c:=Aax.body.getD .skip) rfl rfl H' rfl II (Abb h)
theorem KU:Be CC Aav (Aav.body.getD .skip)=true:=by kernel_rfl
theorem J9:CC.P.funcs[111]?=some Aav:=by kernel_rfl
theorem AL {x:List PV} {b:List PBox} (h:x.length.ble Aav.ntmps=true):Ad CC 111 x b=CD CC Aav.results.toList (Cf CC (Aav.body.getD .skip) ⟨x,b⟩):=Ah (fn:=Aav) (c:=Aav.body.getD .skip) rfl rfl J9 rfl KU (Abb h)
theorem Aa8 (d:Int) (a b:List UInt8):A' CC 58 [(0,.int .i64 1),(1,.agg [.int .i64 d,.str a,.str b])]=some (.agg [.int .i64 1,.int .i64 d,.str a,.str b,.int .i64 0,.str [],.str [],.str [],.int .i64 0,.int .i64 0]):=by kernel_rfl
theorem bEv (d:Int) (a b:List UInt8):A' CC 56 [(0,.int .i64 d),(1,.str a),(2,.str b)]=some (.agg [.int .i64 d,.str a,.str b]):=by kernel_rfl
theorem Aa9 (d:Int) (a b:List UInt8):A' CC 58 [(0,.int .i64 2),(2,.agg [.int .i64 d,.str a,.str b])]=some (.agg [.int .i64 2,.int .i64 0,.str [],.str [],.int .i64 d,.str a,.str b,.str [],.int .i64 0,.int .i64 0]):=by kernel_rfl
theorem sX (n:Int):A' CC 58 [(0,.int .i64 3),(4,.int .i64 n),(5,.int .i64 127)]=some (.agg [.int .i64 3,.int .i64 0,.str [],.str [],.int .i64 0,.str [],.str [],.str [],.int .i64 n,.int .i64 127]):=by kernel_rfl
theorem bTg (k:Int):A' CC 58 [(0,.int .i64 k)]=some (.agg [.int .i64 k,.int .i64 0,.str [],.str [],.int .i64 0,.str [],.str [],.str [],.int .i64 0,.int .i64 0]):=by kernel_rfl
theorem Aaa (s:List UInt8):A' CC 58 [(0,.int .i64 4),(3,.str s)]=some (.agg [.int .i64 4,.int .i64 0,.str [],.str [],.int .i64 0,.str [],.str [],.str s,.int .i64 0,.int .i64 0]):=by kernel_rfl
theorem Aab (n:Int):A' CC 58 [(0,.int .i64 6),(4,.int .i64 n)]=some (.agg [.int .i64 6,.int .i64 0,.str [],.str [],.int .i64 0,.str [],.str [],.str [],.int .i64 n,.int .i64 0]):=by kernel_rfl
theorem oQ (d:Int) (a:List UInt8):A' CC 26 [(0,.int .i64 d),(1,.str a)]=some (.agg [.int .i64 d,.str a,.str []]):=by kernel_rfl
theorem oR (d:Int) (a b:List UInt8):A' CC 60 [(0,.int .i64 1),(1,.agg [.int .i64 d,.str a,.str b])]=some (.agg [.int .i64 1,.int .i64 d,.str a,.str b,.str [],.int .i64 0,.int .i64 0,.int .i64 0,.str [],.int .i64 0,.int .i64 0,.str [],.int .i64 0,.str [],.str [],.nils]):=by kernel_rfl
theorem oS (d:Int) (a b s:List UInt8):A' CC 60 [(0,.int .i64 2),(1,.agg [.int .i64 d,.str a,.str b]),(2,.str s)]=some (.agg [.int .i64 2,.int .i64 d,.str a,.str b,.str s,.int .i64 0,.int .i64 0,.int .i64 0,.str [],.int .i64 0,.int .i64 0,.str [],.int .i64 0,.str [],.str [],.nils]):=by kernel_rfl
theorem bSp (k:Int) (s:List UInt8):A' CC 60 [(0,.int .i64 k),(2,.str s)]=some (.agg [.int .i64 k,.int .i64 0,.str [],.str [],.str s,.int .i64 0,.int .i64 0,.int .i64 0,.str [],.int .i64 0,.int .i64 0,.str [],.int .i64 0,.str [],.str [],.nils]):=by kernel_rfl
theorem F' {L:List Tk} (hT:TokOK L) {n i:Nat} {a:Tr} {j:Nat} (hi:i < L.length) (h:Ey L n i=.ok a j):i<=j/\j < L.length:=by
 unfold Ey at h;obtain ⟨_,i1,r1,h⟩:=Aq h;split at h
 · injection h with _ h
   subst h;exact Hj hT _ _ _ _ _ _ hi r1
 · cases h
theorem Fv:Bp zT=[.int .i64 0,.int .i64 0,.int .i64 0,.str [],.int .i64 0,.int .i64 0,.str [],.int .i64 0,.str [],.str [],.sl []]:=by unfold Bp zT Bw zV zK A1;rfl
theorem YR {id:Nat} {L:List Tk} {i o:Nat} {RL:PV} (hR:RL.pure=true) (hi:i < L.length) (hT:TokOK L):XI 109 [] id L RL i o BE (BQ L i):=by
 unfold BQ;cases f0:Bs L 1 [99,104,97,110,103,101] i with
 | true=>
  simp only [if_true];have DK:=AO hT hi f0 (by decide);have h1:=Wx (id:=id) (o:=o) (i:=(i+1)) hR DK hT;cases r1:Ea L  (i+1) with
  | out=>exact AT
  | bad t e=>
   rw [r1] at h1;obtain ⟨i',o',h1⟩:=h1;refine AM ⟨i',o',Ax hR fun bx hid hc=>?_⟩;have q0:=Ab hid hc hR (As (id:=id) (o:=o) hR hi hT _ f0);have t1:=Am hid hc hR h1;rw [AE rfl];unfold Ap;rw [<- Al];rw [<- AI] at q0 t1;simp only [Aa,Ac,Aax,Aau];simp only [S9,Af,seval,PY,PZ,AS,Aw,q0,t1,SX,hid];exact ⟨_,rfl⟩
  | ok a1 i1=>
   rw [r1] at h1;dsimp only [Au];have j1:=Eb hT DK r1;have Th:=j1.2.1;refine Bi (A5 hR (fun n=>by unfold BE;simp only [SU]) fun bx hid hc=>?_);have q0:=Ab hid hc hR (As (id:=id) (o:=o) hR hi hT _ f0);have t1:=Ab hid hc hR h1;unfold sL at t1;unfold BE
   try unfold zK
   try simp only [Fv]
   rw [AE rfl];unfold Ap;rw [<- Al];rw [<- AI] at q0 t1;simp only [Aa,Ac,Aax,Aau];simp only [S9,Af,seval,PY,PZ,AS,Aw,q0,t1,Aa8,SX,hid];exact ⟨_,rfl⟩
 | false=>
  simp only [Aaw,if_false];cases f1:Bs L 1 [101,118,101,110,116] i with
  | true=>
   simp only [if_true];have BF:=AO hT hi f1 (by decide);have h1:=R5 (id:=id) (o:=o) (i:=(i+1)) hR BF hT;cases r1:Ea L  (i+1) with
   | out=>exact AT
   | bad t e=>
    rw [r1] at h1;obtain ⟨i',o',h1⟩:=h1;refine AM ⟨i',o',Ax hR fun bx hid hc=>?_⟩;have q0:=Ab hid hc hR (Ae (id:=id) (o:=o) hR hi hT _ f0);have q1:=Ab hid hc hR (As (id:=id) (o:=o) hR hi hT _ f1);have t1:=Am hid hc hR h1;rw [AE rfl];unfold Ap;rw [<- Al];rw [<- AI] at q0 q1 t1;simp only [Aa,Ac,Aax,Aau];simp only [S9,Af,seval,PY,PZ,AS,Aw,q0,q1,t1,SX,hid];exact ⟨_,rfl⟩
   | ok a1 i1=>
    rw [r1] at h1;dsimp only [Au];have j1:=Eb hT BF r1;have Th:=j1.2.1;refine Bi (A5 hR (fun n=>by unfold BE;simp only [SU]) fun bx hid hc=>?_);have q0:=Ab hid hc hR (Ae (id:=id) (o:=o) hR hi hT _ f0);have q1:=Ab hid hc hR (As (id:=id) (o:=o) hR hi hT _ f1);have t1:=Ab hid hc hR h1;unfold BE
    try unfold zK
    try simp only [Fv]
    rw [AE rfl];unfold Ap;rw [<- Al];rw [<- AI] at q0 q1 t1;simp only [Aa,Ac,Aax,Aau];simp only [S9,Af,seval,PY,PZ,AS,Aw,q0,q1,t1,Aa9,bEv,SX,hid];exact ⟨_,rfl⟩
  | false=>
   simp only [Aaw,if_false];cases f2:Bs L 1 [116,105,109,101] i with
   | true=>
    simp only [if_true];have Gu:=AO hT hi f2 (by decide);have h1:=Ow (id:=id) (o:=o) (i:=(i+1)) hR Gu hT;cases r1:Fo L  (i+1) with
    | out=>exact AT
    | bad t e=>
     rw [r1] at h1;obtain ⟨i',o',h1⟩:=h1;refine AM ⟨i',o',Ax hR fun bx hid hc=>?_⟩;have q0:=Ab hid hc hR (Ae (id:=id) (o:=o) hR hi hT _ f0);have q1:=Ab hid hc hR (Ae (id:=id) (o:=o) hR hi hT _ f1);have q2:=Ab hid hc hR (As (id:=id) (o:=o) hR hi hT _ f2);have t1:=Am hid hc hR h1;rw [AE rfl];unfold Ap;rw [<- Al];rw [<- AI] at q0 q1 q2 t1;simp only [Aa,Ac,Aax,Aau];simp only [S9,Af,seval,PY,PZ,AS,Aw,q0,q1,q2,t1,SX,hid];exact ⟨_,rfl⟩
    | ok a1 i1=>
     rw [r1] at h1;dsimp only [Au];have j1:=F9 hT Gu r1;have Th:=j1.2.1;cases f7:Bs L 1 [100,97,121,115] i1 with
     | true=>
      simp only [if_true];have nO:=AO hT Th f7 (by decide);have h2:=YL (id:=id) (o:=o) (i:=(i1+1)) hR nO hT;cases r2:KC L  (i1+1) with
      | out=>exact AT
      | bad t e=>
       rw [r2] at h2;obtain ⟨i',o',h2⟩:=h2;refine AM ⟨i',o',Ax hR fun bx hid hc=>?_⟩;have q0:=Ab hid hc hR (Ae (id:=id) (o:=o) hR hi hT _ f0);have q1:=Ab hid hc hR (Ae (id:=id) (o:=o) hR hi hT _ f1);have q2:=Ab hid hc hR (As (id:=id) (o:=o) hR hi hT _ f2);have t1:=Ab hid hc hR h1;have q7:=Ab hid hc hR (As (id:=id) (o:=o) hR Th hT _ f7);have t2:=Am hid hc hR h2;rw [AE rfl];unfold Ap;rw [<- Al];rw [<- AI] at q0 q1 q2 t1 q7 t2;simp only [Aa,Ac,Aax,Aau];simp only [S9,Af,seval,PY,PZ,AS,Aw,q0,q1,q2,t1,q7,t2,sX,SX,hid];exact ⟨_,rfl⟩
      | ok a2 i2=>
       rw [r2] at h2;dsimp only [Au];have j2:=Ng hT nO r2;have qA:=j2.2.1;refine Bi (A5 hR (fun n=>by unfold BE;simp only [SU]) fun bx hid hc=>?_);have q0:=Ab hid hc hR (Ae (id:=id) (o:=o) hR hi hT _ f0);have q1:=Ab hid hc hR (Ae (id:=id) (o:=o) hR hi hT _ f1);have q2:=Ab hid hc hR (As (id:=id) (o:=o) hR hi hT _ f2);have t1:=Ab hid hc hR h1;have q7:=Ab hid hc hR (As (id:=id) (o:=o) hR Th hT _ f7);have t2:=Ab hid hc hR h2;unfold BE
       try unfold zK
       try simp only [Fv]
       rw [AE rfl];unfold Ap;rw [<- Al];rw [<- AI] at q0 q1 q2 t1 q7 t2;simp only [Aa,Ac,Aax,Aau];simp only [S9,Af,seval,PY,PZ,AS,Aw,q0,q1,q2,t1,q7,t2,sX,SX,hid];exact ⟨_,rfl⟩
     | false=>
      simp only [Aaw,if_false];refine Bi (A5 hR (fun n=>by unfold BE;simp only [SU]) fun bx hid hc=>?_);have q0:=Ab hid hc hR (Ae (id:=id) (o:=o) hR hi hT _ f0);have q1:=Ab hid hc hR (Ae (id:=id) (o:=o) hR hi hT _ f1);have q2:=Ab hid hc hR (As (id:=id) (o:=o) hR hi hT _ f2);have t1:=Ab hid hc hR h1;have q7:=Ab hid hc hR (Ae (id:=id) (o:=o) hR Th hT _ f7);unfold BE
      try unfold zK
      try simp only [Fv]
      rw [AE rfl];unfold Ap;rw [<- Al];rw [<- AI] at q0 q1 q2 t1 q7;simp only [Aa,Ac,Aax,Aau];simp only [S9,Af,seval,PY,PZ,AS,Aw,q0,q1,q2,t1,q7,sX,SX,hid];exact ⟨_,rfl⟩
   | false=>
    simp only [Aaw,if_false];cases f3:Bs L 1 [109,111,100,101] i with
    | true=>
     simp only [if_true];have UL:=AO hT hi f3 (by decide);have k2:=Ot (tokAt L (i+1)).1 1;by_cases hk:(tokAt L (i+1)).1=1
     · rw [if_pos hk]
       rw [beq_iff_eq.2 hk] at k2;have k2:(((tokAt L (i+1)).1:Int) != 1)=false:=k2;have h5:=Hh (id:=id) (o:=o) (i:=(i+1)) hR UL hT;cases r5:DF L (i+1) with
       | out=>exact AT
       | bad t e=>
        rw [r5] at h5;obtain ⟨i',o',h5⟩:=h5;refine AM ⟨i',o',Ax hR fun bx hid hc=>?_⟩;have q0:=Ab hid hc hR (Ae (id:=id) (o:=o) hR hi hT _ f0);have q1:=Ab hid hc hR (Ae (id:=id) (o:=o) hR hi hT _ f1);have q2:=Ab hid hc hR (Ae (id:=id) (o:=o) hR hi hT _ f2);have q3:=Ab hid hc hR (As (id:=id) (o:=o) hR hi hT _ f3);have tm:=Ab hid hc hR (AA (id:=id) (o:=o) hR UL);have t5:=Am hid hc hR h5;rw [AE rfl];unfold Ap;rw [<- Al];rw [<- AI] at q0 q1 q2 q3 tm t5;simp only [Aa,Ac,Aax,Aau];simp only [S9,Af,seval,PY,PZ,AS,Aw,q0,q1,q2,q3,tm,t5,k2,SX,hid];exact ⟨_,rfl⟩
       | ok a5 i5=>
        rw [r5] at h5;dsimp only [Au];have j5:=C1 hT UL r5;have wh:=j5.2;refine Bi (A5 hR (fun n=>by unfold BE;simp only [SU]) fun bx hid hc=>?_);have q0:=Ab hid hc hR (Ae (id:=id) (o:=o) hR hi hT _ f0);have q1:=Ab hid hc hR (Ae (id:=id) (o:=o) hR hi hT _ f1);have q2:=Ab hid hc hR (Ae (id:=id) (o:=o) hR hi hT _ f2);have q3:=Ab hid hc hR (As (id:=id) (o:=o) hR hi hT _ f3);have tm:=Ab hid hc hR (AA (id:=id) (o:=o) hR UL);have t5:=Ab hid hc hR h5;unfold BE
        try unfold zK
        try simp only [Fv]
        rw [AE rfl];unfold Ap;rw [<- Al];rw [<- AI] at q0 q1 q2 q3 tm t5;simp only [Aa,Ac,Aax,Aau];simp only [S9,Af,seval,PY,PZ,AS,Aw,q0,q1,q2,q3,tm,t5,k2,Aaa,SX,hid];exact ⟨_,rfl⟩
     · rw [if_neg hk]
       rw [beq_eq_false_iff_ne.2 hk] at k2;have k2:(((tokAt L (i+1)).1:Int) != 1)=true:=k2;refine Bi (A5 hR (fun n=>by unfold BE;simp only [SU]) fun bx hid hc=>?_);have q0:=Ab hid hc hR (Ae (id:=id) (o:=o) hR hi hT _ f0);have q1:=Ab hid hc hR (Ae (id:=id) (o:=o) hR hi hT _ f1);have q2:=Ab hid hc hR (Ae (id:=id) (o:=o) hR hi hT _ f2);have q3:=Ab hid hc hR (As (id:=id) (o:=o) hR hi hT _ f3);have tm:=Ab hid hc hR (AA (id:=id) (o:=o) hR UL);unfold BE
       try unfold zK
       try simp only [Fv]
       rw [AE rfl];unfold Ap;rw [<- Al];rw [<- AI] at q0 q1 q2 q3 tm;simp only [Aa,Ac,Aax,Aau];simp only [S9,Af,seval,PY,PZ,AS,Aw,q0,q1,q2,q3,tm,k2,bTg,SX,hid];exact ⟨_,rfl⟩
    | false=>
     simp only [Aaw,if_false];cases f4:Bs L 1 [115,116,97,114,116] i with
     | true=>
      simp only [if_true];have iI:=AO hT hi f4 (by decide);refine Bi (A5 hR (fun n=>by unfold BE;simp only [SU]) fun bx hid hc=>?_);have q0:=Ab hid hc hR (Ae (id:=id) (o:=o) hR hi hT _ f0);have q1:=Ab hid hc hR (Ae (id:=id) (o:=o) hR hi hT _ f1);have q2:=Ab hid hc hR (Ae (id:=id) (o:=o) hR hi hT _ f2);have q3:=Ab hid hc hR (Ae (id:=id) (o:=o) hR hi hT _ f3);have q4:=Ab hid hc hR (As (id:=id) (o:=o) hR hi hT _ f4);unfold BE
      try unfold zK
      try simp only [Fv]
      rw [AE rfl];unfold Ap;rw [<- Al];rw [<- AI] at q0 q1 q2 q3 q4;simp only [Aa,Ac,Aax,Aau];simp only [S9,Af,seval,PY,PZ,AS,Aw,q0,q1,q2,q3,q4,bTg,SX,hid];exact ⟨_,rfl⟩
     | false=>
      simp only [Aaw,if_false];have h5:=Cc (id:=id) (o:=o) (i:=i) hR hi hT 1 1 rfl [104,111,108,100];cases r5:Bt L 1 [104,111,108,100] i with
      | out=>exact AT
      | bad t e=>
       rw [r5] at h5;obtain ⟨i',o',h5⟩:=h5;refine AM ⟨i',o',Ax hR fun bx hid hc=>?_⟩;have q0:=Ab hid hc hR (Ae (id:=id) (o:=o) hR hi hT _ f0);have q1:=Ab hid hc hR (Ae (id:=id) (o:=o) hR hi hT _ f1);have q2:=Ab hid hc hR (Ae (id:=id) (o:=o) hR hi hT _ f2);have q3:=Ab hid hc hR (Ae (id:=id) (o:=o) hR hi hT _ f3);have q4:=Ab hid hc hR (Ae (id:=id) (o:=o) hR hi hT _ f4);have t5:=Am hid hc hR h5;rw [AE rfl];unfold Ap;rw [<- Al];rw [<- AI] at q0 q1 q2 q3 q4 t5;simp only [Aa,Ac,Aax,Aau];simp only [S9,Af,seval,PY,PZ,AS,Aw,q0,q1,q2,q3,q4,t5,SX,hid];exact ⟨_,rfl⟩
      | ok a5 i5=>
       rw [r5] at h5;dsimp only [Au];have j5:=A4 hT hi (by decide) r5;have wh:=j5.2;have h6:=Hi (id:=id) (o:=o) (i:=i5) hR wh hT 0 1099511627776 0 1099511627776 rfl rfl;cases r6:Hu L 0 1099511627776 i5 with
       | out=>exact AT
       | bad t e=>
        rw [r6] at h6;obtain ⟨i',o',h6⟩:=h6;refine AM ⟨i',o',Ax hR fun bx hid hc=>?_⟩;have q0:=Ab hid hc hR (Ae (id:=id) (o:=o) hR hi hT _ f0);have q1:=Ab hid hc hR (Ae (id:=id) (o:=o) hR hi hT _ f1);have q2:=Ab hid hc hR (Ae (id:=id) (o:=o) hR hi hT _ f2);have q3:=Ab hid hc hR (Ae (id:=id) (o:=o) hR hi hT _ f3);have q4:=Ab hid hc hR (Ae (id:=id) (o:=o) hR hi hT _ f4);have t5:=Ab hid hc hR h5;have t6:=Am hid hc hR h6;rw [AE rfl];unfold Ap;rw [<- Al];rw [<- AI] at q0 q1 q2 q3 q4 t5 t6;simp only [Aa,Ac,Aax,Aau];simp only [S9,Af,seval,PY,PZ,AS,Aw,q0,q1,q2,q3,q4,t5,t6,SX,hid];exact ⟨_,rfl⟩
       | ok a6 i6=>
        rw [r6] at h6;dsimp only [Au];have j6:=GN hT wh r6;have hj6:=j6.2.1;refine Bi (A5 hR (fun n=>by unfold BE;simp only [SU]) fun bx hid hc=>?_);have q0:=Ab hid hc hR (Ae (id:=id) (o:=o) hR hi hT _ f0);have q1:=Ab hid hc hR (Ae (id:=id) (o:=o) hR hi hT _ f1);have q2:=Ab hid hc hR (Ae (id:=id) (o:=o) hR hi hT _ f2);have q3:=Ab hid hc hR (Ae (id:=id) (o:=o) hR hi hT _ f3);have q4:=Ab hid hc hR (Ae (id:=id) (o:=o) hR hi hT _ f4);have t5:=Ab hid hc hR h5;have t6:=Ab hid hc hR h6;unfold BE
        try unfold zK
        try simp only [Fv]
        rw [AE rfl];unfold Ap;rw [<- Al];rw [<- AI] at q0 q1 q2 q3 q4 t5 t6;simp only [Aa,Ac,Aax,Aau];simp only [S9,Af,seval,PY,PZ,AS,Aw,q0,q1,q2,q3,q4,t5,t6,Aab,SX,hid];exact ⟨_,rfl⟩
theorem kB {id:Nat} {L:List Tk} {i o:Nat} {RL:PV} (hR:RL.pure=true) (hi:i < L.length) (hT:TokOK L) (n:Nat) (ho:o=0):XI 111 [] id L RL i o D0 (Ed L n i):=by
 unfold Ed;cases f0:Bs L 1 [115,101,116] i with
 | true=>
  simp only [if_true];have DK:=AO hT hi f0 (by decide);have h1:=Wx (id:=id) (o:=o) (i:=(i+1)) hR DK hT;cases r1:Ea L  (i+1) with
  | out=>exact AT
  | bad t e=>
   rw [r1] at h1;obtain ⟨i',o',h1⟩:=h1;refine AM ⟨i',o',Ax hR fun bx hid hc=>?_⟩;have q0:=Ab hid hc hR (As (id:=id) (o:=o) hR hi hT _ f0);have t1:=Am hid hc hR h1;rw [AL rfl];unfold Ap;rw [<- Al];rw [<- AI] at q0 t1;simp only [Aa,Ac,Aav,Aau];simp only [S9,Af,seval,PY,PZ,AS,Aw,q0,t1,oR,SX,hid];exact ⟨_,rfl⟩
  | ok a1 i1=>
   rw [r1] at h1;dsimp only [Au];have j1:=Eb hT DK r1;have Th:=j1.2.1;have h2:=Cc (id:=id) (o:=o) (i:=i1) hR Th hT 4 4 rfl [61];cases r2:Bt L 4 [61] i1 with
   | out=>exact AT
   | bad t e=>
    rw [r2] at h2;obtain ⟨i',o',h2⟩:=h2;refine AM ⟨i',o',Ax hR fun bx hid hc=>?_⟩;have q0:=Ab hid hc hR (As (id:=id) (o:=o) hR hi hT _ f0);have t1:=Ab hid hc hR h1;unfold sL at t1;have t2:=Am hid hc hR h2;rw [AL rfl];unfold Ap;rw [<- Al];rw [<- AI] at q0 t1 t2;simp only [Aa,Ac,Aav,Aau];simp only [S9,Af,seval,PY,PZ,AS,Aw,q0,t1,t2,oR,SX,hid];exact ⟨_,rfl⟩
   | ok a2 i2=>
    rw [r2] at h2;dsimp only [Au];have j2:=A4 hT Th (by decide) r2;have qA:=j2.2;have h3:=OA (id:=id) (i:=i2) hR hT qA n o ho;cases r3:Ey L n i2 with
    | out=>exact AT
    | bad t e=>
     rw [r3] at h3;obtain ⟨i',o',h3⟩:=h3;refine AM ⟨i',o',Ax hR fun bx hid hc=>?_⟩;have q0:=Ab hid hc hR (As (id:=id) (o:=o) hR hi hT _ f0);have t1:=Ab hid hc hR h1;unfold sL at t1;have t2:=Ab hid hc hR h2;have t3:=Am hid hc hR h3;rw [AL rfl];unfold Ap;rw [<- Al];rw [<- AI] at q0 t1 t2 t3;simp only [Aa,Ac,Aav,Aau];simp only [S9,Af,seval,PY,PZ,AS,Aw,q0,t1,t2,t3,oR,SX,hid];exact ⟨_,rfl⟩
    | ok a3 i3=>
     rw [r3] at h3;dsimp only [Au];have j3:=F' hT qA r3;have hj3:=j3.2;refine Bi (A5 hR (fun n=>by unfold D0 Sc;simp [PV.under,Ar,SX]) fun bx hid hc=>?_);have q0:=Ab hid hc hR (As (id:=id) (o:=o) hR hi hT _ f0);have t1:=Ab hid hc hR h1;unfold sL at t1;have t2:=Ab hid hc hR h2;have t3:=Ab hid hc hR h3;rw [An] at t3;unfold D0 Sc
     try unfold zK
     try simp only [Fv]
     rw [AL rfl];unfold Ap;rw [<- Al];rw [<- AI] at q0 t1 t2 t3;simp only [Aa,Ac,Aav,Aau];simp only [S9,Af,seval,PY,PZ,AS,Aw,q0,t1,t2,t3,oR,SX,hid];exact ⟨_,rfl⟩
 | false=>
  simp only [Aaw,if_false];cases f1:Bs L 1 [99,97,108,108] i with
  | true=>
   simp only [if_true];have BF:=AO hT hi f1 (by decide);have h1:=R5 (id:=id) (o:=o) (i:=(i+1)) hR BF hT;cases r1:Ea L  (i+1) with
   | out=>exact AT
   | bad t e=>
    rw [r1] at h1;obtain ⟨i',o',h1⟩:=h1;refine AM ⟨i',o',Ax hR fun bx hid hc=>?_⟩;have q0:=Ab hid hc hR (Ae (id:=id) (o:=o) hR hi hT _ f0);have q1:=Ab hid hc hR (As (id:=id) (o:=o) hR hi hT _ f1);have t1:=Am hid hc hR h1;rw [AL rfl];unfold Ap;rw [<- Al];rw [<- AI] at q0 q1 t1;simp only [Aa,Ac,Aav,Aau];simp only [S9,Af,seval,PY,PZ,AS,Aw,q0,q1,t1,SX,hid];exact ⟨_,rfl⟩
   | ok a1 i1=>
    rw [r1] at h1;dsimp only [Au];have j1:=Eb hT BF r1;have Th:=j1.2.1;cases f7:Bs L 4 [40] i1 with
    | true=>
     simp only [if_true];have nO:=AO hT Th f7 (by decide);have h2:=OA (id:=id) (i:=(i1+1)) hR hT nO n o ho;cases r2:Ey L n (i1+1) with
     | out=>exact AT
     | bad t e=>
      rw [r2] at h2;obtain ⟨i',o',h2⟩:=h2;refine AM ⟨i',o',Ax hR fun bx hid hc=>?_⟩;have q0:=Ab hid hc hR (Ae (id:=id) (o:=o) hR hi hT _ f0);have q1:=Ab hid hc hR (As (id:=id) (o:=o) hR hi hT _ f1);have t1:=Ab hid hc hR h1;have q7:=Ab hid hc hR (Bd (id:=id) (o:=o) hR Th hT _ f7);have t2:=Am hid hc hR h2;rw [AL rfl];unfold Ap;rw [<- Al];rw [<- AI] at q0 q1 t1 q7 t2;simp only [Aa,Ac,Aav,Aau];simp only [S9,Af,seval,PY,PZ,AS,Aw,q0,q1,t1,q7,t2,oS,oQ,SX,hid];exact ⟨_,rfl⟩
     | ok a2 i2=>
      rw [r2] at h2;dsimp only [Au];have j2:=F' hT nO r2;have qA:=j2.2;have h3:=Cc (id:=id) (o:=o) (i:=i2) hR qA hT 4 4 rfl [41];cases r3:Bt L 4 [41] i2 with
      | out=>exact AT
      | bad t e=>
       rw [r3] at h3;obtain ⟨i',o',h3⟩:=h3;refine AM ⟨i',o',Ax hR fun bx hid hc=>?_⟩;have q0:=Ab hid hc hR (Ae (id:=id) (o:=o) hR hi hT _ f0);have q1:=Ab hid hc hR (As (id:=id) (o:=o) hR hi hT _ f1);have t1:=Ab hid hc hR h1;have q7:=Ab hid hc hR (Bd (id:=id) (o:=o) hR Th hT _ f7);have t2:=Ab hid hc hR h2;rw [An] at t2;have t3:=Am hid hc hR h3;rw [AL rfl];unfold Ap;rw [<- Al];rw [<- AI] at q0 q1 t1 q7 t2 t3;simp only [Aa,Ac,Aav,Aau];simp only [S9,Af,seval,PY,PZ,AS,Aw,q0,q1,t1,q7,t2,t3,oS,oQ,SX,hid];exact ⟨_,rfl⟩
      | ok a3 i3=>
       rw [r3] at h3;dsimp only [Au];have j3:=A4 hT qA (by decide) r3;have hj3:=j3.2;refine Bi (A5 hR (fun n=>by unfold D0 Sc;simp [PV.under,Ar,SX]) fun bx hid hc=>?_);have q0:=Ab hid hc hR (Ae (id:=id) (o:=o) hR hi hT _ f0);have q1:=Ab hid hc hR (As (id:=id) (o:=o) hR hi hT _ f1);have t1:=Ab hid hc hR h1;have q7:=Ab hid hc hR (Bd (id:=id) (o:=o) hR Th hT _ f7);have t2:=Ab hid hc hR h2;rw [An] at t2;have t3:=Ab hid hc hR h3;unfold D0 Sc
       try unfold zK
       try simp only [Fv]
       rw [AL rfl];unfold Ap;rw [<- Al];rw [<- AI] at q0 q1 t1 q7 t2 t3;simp only [Aa,Ac,Aav,Aau];simp only [S9,Af,seval,PY,PZ,AS,Aw,q0,q1,t1,q7,t2,t3,oS,oQ,SX,hid];exact ⟨_,rfl⟩
    | false=>
     simp only [Aaw,if_false];refine Bi (A5 hR (fun n=>by unfold D0 Sc;simp [PV.under,Ar,SX]) fun bx hid hc=>?_);have q0:=Ab hid hc hR (Ae (id:=id) (o:=o) hR hi hT _ f0);have q1:=Ab hid hc hR (As (id:=id) (o:=o) hR hi hT _ f1);have t1:=Ab hid hc hR h1;have q7:=Ab hid hc hR (AQ (id:=id) (o:=o) hR Th hT _ f7);unfold D0 Sc
     try unfold zK
     try simp only [Fv]
     rw [AL rfl];unfold Ap;rw [<- Al];rw [<- AI] at q0 q1 t1 q7;simp only [Aa,Ac,Aav,Aau];simp only [S9,Af,seval,PY,PZ,AS,Aw,q0,q1,t1,q7,oS,oQ,SX,hid];exact ⟨_,rfl⟩
  | false=>
   simp only [Aaw,if_false];cases f2:Bs L 1 [115,99,101,110,101] i with
   | true=>
    simp only [if_true];have Gu:=AO hT hi f2 (by decide);have h1:=Hh (id:=id) (o:=o) (i:=(i+1)) hR Gu hT;cases r1:DF L (i+1) with
    | out=>exact AT
    | bad t e=>
     rw [r1] at h1;obtain ⟨i',o',h1⟩:=h1;refine AM ⟨i',o',Ax hR fun bx hid hc=>?_⟩;have q0:=Ab hid hc hR (Ae (id:=id) (o:=o) hR hi hT _ f0);have q1:=Ab hid hc hR (Ae (id:=id) (o:=o) hR hi hT _ f1);have q2:=Ab hid hc hR (As (id:=id) (o:=o) hR hi hT _ f2);have t1:=Am hid hc hR h1;rw [AL rfl];unfold Ap;rw [<- Al];rw [<- AI] at q0 q1 q2 t1;simp only [Aa,Ac,Aav,Aau];simp only [S9,Af,seval,PY,PZ,AS,Aw,q0,q1,q2,t1,SX,hid];exact ⟨_,rfl⟩
    | ok a1 i1=>
     rw [r1] at h1;dsimp only [Au];have j1:=C1 hT Gu r1;have Th:=j1.2;refine Bi (A5 hR (fun n=>by unfold D0 Sc;simp [PV.under,Ar,SX]) fun bx hid hc=>?_);have q0:=Ab hid hc hR (Ae (id:=id) (o:=o) hR hi hT _ f0);have q1:=Ab hid hc hR (Ae (id:=id) (o:=o) hR hi hT _ f1);have q2:=Ab hid hc hR (As (id:=id) (o:=o) hR hi hT _ f2);have t1:=Ab hid hc hR h1;unfold D0 Sc
     try unfold zK
     try simp only [Fv]
     rw [AL rfl];unfold Ap;rw [<- Al];rw [<- AI] at q0 q1 q2 t1;simp only [Aa,Ac,Aav,Aau];simp only [S9,Af,seval,PY,PZ,AS,Aw,q0,q1,q2,t1,bSp,SX,hid];exact ⟨_,rfl⟩
   | false=>
    simp only [Aaw,if_false];cases f3:Bs L 1 [109,111,100,101] i with
    | true=>
     simp only [if_true];have UL:=AO hT hi f3 (by decide);have h1:=Hh (id:=id) (o:=o) (i:=(i+1)) hR UL hT;cases r1:DF L (i+1) with
     | out=>exact AT
     | bad t e=>
      rw [r1] at h1;obtain ⟨i',o',h1⟩:=h1;refine AM ⟨i',o',Ax hR fun bx hid hc=>?_⟩;have q0:=Ab hid hc hR (Ae (id:=id) (o:=o) hR hi hT _ f0);have q1:=Ab hid hc hR (Ae (id:=id) (o:=o) hR hi hT _ f1);have q2:=Ab hid hc hR (Ae (id:=id) (o:=o) hR hi hT _ f2);have q3:=Ab hid hc hR (As (id:=id) (o:=o) hR hi hT _ f3);have t1:=Am hid hc hR h1;rw [AL rfl];unfold Ap;rw [<- Al];rw [<- AI] at q0 q1 q2 q3 t1;simp only [Aa,Ac,Aav,Aau];simp only [S9,Af,seval,PY,PZ,AS,Aw,q0,q1,q2,q3,t1,SX,hid];exact ⟨_,rfl⟩
     | ok a1 i1=>
      rw [r1] at h1;dsimp only [Au];have j1:=C1 hT UL r1;have Th:=j1.2;refine Bi (A5 hR (fun n=>by unfold D0 Sc;simp [PV.under,Ar,SX]) fun bx hid hc=>?_);have q0:=Ab hid hc hR (Ae (id:=id) (o:=o) hR hi hT _ f0);have q1:=Ab hid hc hR (Ae (id:=id) (o:=o) hR hi hT _ f1);have q2:=Ab hid hc hR (Ae (id:=id) (o:=o) hR hi hT _ f2);have q3:=Ab hid hc hR (As (id:=id) (o:=o) hR hi hT _ f3);have t1:=Ab hid hc hR h1;unfold D0 Sc
      try unfold zK
      try simp only [Fv]
      rw [AL rfl];unfold Ap;rw [<- Al];rw [<- AI] at q0 q1 q2 q3 t1;simp only [Aa,Ac,Aav,Aau];simp only [S9,Af,seval,PY,PZ,AS,Aw,q0,q1,q2,q3,t1,bSp,SX,hid];exact ⟨_,rfl⟩
    | false=>
     simp only [Aaw,if_false];have h5:=Cc (id:=id) (o:=o) (i:=i) hR hi hT 1 1 rfl [110,111,116,105,102,121];cases r5:Bt L 1 [110,111,116,105,102,121] i with
     | out=>exact AT
     | bad t e=>
      rw [r5] at h5;obtain ⟨i',o',h5⟩:=h5;refine AM ⟨i',o',Ax hR fun bx hid hc=>?_⟩;have q0:=Ab hid hc hR (Ae (id:=id) (o:=o) hR hi hT _ f0);have q1:=Ab hid hc hR (Ae (id:=id) (o:=o) hR hi hT _ f1);have q2:=Ab hid hc hR (Ae (id:=id) (o:=o) hR hi hT _ f2);have q3:=Ab hid hc hR (Ae (id:=id) (o:=o) hR hi hT _ f3);have t5:=Am hid hc hR h5;rw [AL rfl];unfold Ap;rw [<- Al];rw [<- AI] at q0 q1 q2 q3 t5;simp only [Aa,Ac,Aav,Aau];simp only [S9,Af,seval,PY,PZ,AS,Aw,q0,q1,q2,q3,t5,SX,hid];exact ⟨_,rfl⟩
     | ok a5 i5=>
      rw [r5] at h5;dsimp only [Au];have j5:=A4 hT hi (by decide) r5;have wh:=j5.2;have h6:=QI (id:=id) (o:=o) (i:=i5) hR wh hT 3 3 rfl;cases r6:P7 L 3 i5 with
      | out=>exact AT
      | bad t e=>
       rw [r6] at h6;obtain ⟨i',o',h6⟩:=h6;refine AM ⟨i',o',Ax hR fun bx hid hc=>?_⟩;have q0:=Ab hid hc hR (Ae (id:=id) (o:=o) hR hi hT _ f0);have q1:=Ab hid hc hR (Ae (id:=id) (o:=o) hR hi hT _ f1);have q2:=Ab hid hc hR (Ae (id:=id) (o:=o) hR hi hT _ f2);have q3:=Ab hid hc hR (Ae (id:=id) (o:=o) hR hi hT _ f3);have t5:=Ab hid hc hR h5;have t6:=Am hid hc hR h6;rw [AL rfl];unfold Ap;rw [<- Al];rw [<- AI] at q0 q1 q2 q3 t5 t6;simp only [Aa,Ac,Aav,Aau];simp only [S9,Af,seval,PY,PZ,AS,Aw,q0,q1,q2,q3,t5,t6,SX,hid];exact ⟨_,rfl⟩
      | ok a6 i6=>
       rw [r6] at h6;dsimp only [Au];have j6:=dw hT wh (by decide) r6;have hj6:=j6.2;refine Bi (A5 hR (fun n=>by unfold D0 Sc;simp [PV.under,Ar,SX]) fun bx hid hc=>?_);have q0:=Ab hid hc hR (Ae (id:=id) (o:=o) hR hi hT _ f0);have q1:=Ab hid hc hR (Ae (id:=id) (o:=o) hR hi hT _ f1);have q2:=Ab hid hc hR (Ae (id:=id) (o:=o) hR hi hT _ f2);have q3:=Ab hid hc hR (Ae (id:=id) (o:=o) hR hi hT _ f3);have t5:=Ab hid hc hR h5;have t6:=Ab hid hc hR h6;unfold Ol at t6;unfold D0 Sc
       try unfold zK
       try simp only [Fv]
       rw [AL rfl];unfold Ap;rw [<- Al];rw [<- AI] at q0 q1 q2 q3 t5 t6;simp only [Aa,Ac,Aav,Aau];simp only [S9,Af,seval,PY,PZ,AS,Aw,q0,q1,q2,q3,t5,t6,bSp,SX,hid];exact ⟨_,rfl⟩
theorem IJ:JG CC Ab1 (Ab1.body.getD .skip)=true:=by kernel_rfl
theorem IK:Be CC Ab1 (Ab1.body.getD .skip)=false:=by kernel_rfl
theorem Ia:CC.P.funcs[108]?=some Ab1:=by kernel_rfl
theorem Ck {x:List PV} {b:List PBox} (h:x.length.ble Ab1.ntmps=true):Ad CC 108 x b=CD CC Ab1.results.toList (Lp CC (Ab1.body.getD .skip) ⟨x,b⟩):=CN (fn:=Ab1) (c:=Ab1.body.getD .skip) rfl rfl Ia rfl IK IJ (Abb h)
theorem IL:JG CC Ab0 (Ab0.body.getD .skip)=true:=by kernel_rfl
theorem IM:Be CC Ab0 (Ab0.body.getD .skip)=false:=by kernel_rfl
theorem Ib:CC.P.funcs[110]?=some Ab0:=by kernel_rfl
theorem Cl {x:List PV} {b:List PBox} (h:x.length.ble Ab0.ntmps=true):Ad CC 110 x b=CD CC Ab0.results.toList (Lp CC (Ab0.body.getD .skip) ⟨x,b⟩):=CN (fn:=Ab0) (c:=Ab0.body.getD .skip) rfl rfl Ib rfl IM IL (Abb h)
theorem QK {bx:List PBox} {id:Nat} {P:PBox} {ys:List PBox} (k:Nat):(BX bx id P ys).take (bx.length+k)=BX bx id P (ys.take k):=by
 unfold BX;rw [List.take_append,Abd (by simp),Abe,Abc]
theorem dK {bx:List PBox} {id:Nat} {P:PBox} {ys:List PBox} (k:Nat):(BX bx id P ys).drop (bx.length+k)=ys.drop k:=by
 unfold BX;rw [List.drop_append,List.drop_of_length_le (by simp),Abe,Abc,List.nil_append]
theorem kC {bx:List PBox} {id:Nat} {P:PBox} {ys zs:List PBox}:BX bx id P ys++zs=BX bx id P (ys++zs):=by
 unfold BX;rw [List.append_assoc]
theorem dL {co:FuncId->List PV->List PBox->Option (CR×List PBox)} {k:FuncId} {vs:List PV} {bx:List PBox} {id:Nat} {P P':PBox} {v:PV} (tys:Array TypeId) (a b:PBox) (zs:List PBox) (t x:Nat) (d:Option Tmp) (e:List PV) (ht:tys.toList.any (AP CC)=true) (hk:Ak vs=false) (hu:Ar (bx.length+2) vs=true) (hc:DM bx) (hP:P.under bx.length=true) (nA:P'.under bx.length=true) (yT:([a,b].all fun y=>y.under (bx.length+2))=true) (hv:v.under (bx.length+2)=true) (h:co k vs (BX bx id P [a,b])=some (.ret v,BX bx id P' [a,b])) :
 JJ CC co tys k vs d [(t,.box (bx.length+2) x)] ⟨e,BX bx id P (a :: b :: zs)⟩=some (.next ((St.mk e (BX bx id P' (a :: b :: zs))).put d v) (Aj [(t,.box (bx.length+2) x)] d)):=by
 rw [Va CC co tys k vs d _ _ (bx.length+2) ht rfl (by rw [hk];simp) hu (by rw [QK];have:=KD (id:=id) (P:=P) (ys:=[a,b]) hc hP yT;unfold DM at this;rw [F8] at this;exact this),QK];rw [show (a :: b :: zs).take 2=[a,b] from rfl,h];rw [aQ v _ _ _ _ _ _ (by rw [F8] <;> rfl) hv (by have:=KD (id:=id) (P:=P') (ys:=[a,b]) hc nA yT;unfold DM at this;rw [F8] at this;exact this)];rw [dK,kC];rfl
theorem dM {co:FuncId->List PV->List PBox->Option (CR×List PBox)} {k:FuncId} {vs:List PV} {bx:List PBox} {id:Nat} {P P':PBox} {v:PV} (tys:Array TypeId) (a b:PBox) (zs:List PBox) (t x:Nat) (d:Option Tmp) (e:List PV) (ht:tys.toList.any (AP CC)=true) (hk:Ak vs=false) (hu:Ar (bx.length+2) vs=true) (hc:DM bx) (hP:P.under bx.length=true) (nA:P'.under bx.length=true) (yT:([a,b].all fun y=>y.under (bx.length+2))=true) (hv:v.under (bx.length+2)=true) (h:co k vs (BX bx id P [a,b])=some (.pan v,BX bx id P' [a,b])) :
 JJ CC co tys k vs d [(t,.box (bx.length+2) x)] ⟨e,BX bx id P (a :: b :: zs)⟩=some (.pan v ⟨e,BX bx id P' (a :: b :: zs)⟩):=by
 rw [Va CC co tys k vs d _ _ (bx.length+2) ht rfl (by rw [hk];simp) hu (by rw [QK];have:=KD (id:=id) (P:=P) (ys:=[a,b]) hc hP yT;unfold DM at this;rw [F8] at this;exact this),QK];rw [show (a :: b :: zs).take 2=[a,b] from rfl,h];rw [aR v _ _ _ _ _ _ (by rw [F8] <;> rfl) hv (by have:=KD (id:=id) (P:=P') (ys:=[a,b]) hc nA yT;unfold DM at this;rw [F8] at this;exact this)];rw [dK,kC];rfl
def C8 (t:TypeId):List PV->PV
 | []=>.nils
 | x :: r=>.osl t (x :: r)
noncomputable def IT:TypeInfo:=(Tryz.prog.info? 58).getD default
noncomputable def IS:TypeInfo:=(Tryz.prog.info? 60).getD default
theorem y' (bytes:Nat) (hb:IT.bytes=bytes) (st:St) (al:List (Nat×Loc)) (s x:Operand) (d:Option Tmp):DT CC st al s x 22 22 d=match CY CC st al 58 s,CK (opd CC st.env x) with
 | some (l,xs),some ys=>MK bytes 10 58 st al l xs ys d
 | _,_=>none:=EV (i:=IT) (by kernel_rfl) (by kernel_rfl) (by kernel_rfl) (z:=(IT.zero).getD default) (by kernel_rfl) (by kernel_rfl) (by rw [show IT.size=10 from by kernel_rfl];decide) hb (by kernel_rfl)
theorem za (bytes:Nat) (hb:IS.bytes=bytes) (st:St) (al:List (Nat×Loc)) (s x:Operand) (d:Option Tmp):DT CC st al s x 30 30 d=match CY CC st al 60 s,CK (opd CC st.env x) with
 | some (l,xs),some ys=>MK bytes 16 60 st al l xs ys d
 | _,_=>none:=EV (i:=IS) (by kernel_rfl) (by kernel_rfl) (by kernel_rfl) (z:=(IS.zero).getD default) (by kernel_rfl) (by kernel_rfl) (by rw [show IS.size=16 from by kernel_rfl];decide) hb (by kernel_rfl)
theorem WS:IT.bytes=120:=by kernel_rfl
theorem WT:IS.bytes=200:=by kernel_rfl
def C5 (nm:List UInt8) (pr:Int) (on:PV) (dos:PV):Tr->List PV
 | .mk k n m s v q kids=>[.str nm,.int .i64 pr,on,.int .i64 k,.int .i64 n,.int .i64 m,.str s,.int .i64 v.1,.int .i64 v.2.1,.str v.2.2,.int .i64 q.1,.str q.2.1,.str q.2.2,.sl (A1 kids),dos]
theorem Eo (t:TypeId) (n:Nat):∀ l:List PV,Ar n l=true->(C8 t l).under n=true
 | [],_=>by simp [C8,PV.under]
 | x :: r,h=>by simp only [C8,PV.under];exact h
theorem bsT (t:Tg):AZ CC 22 1 [(0,BE t)]=some (.osl 58 [BE t]):=by kernel_rfl
theorem Lk (n:Nat) (e:TypeId) (l:List PV):(PV.osl e l).under n=Ar n l:=by simp [PV.under]
theorem bsS (s:Sp):AZ CC 30 1 [(0,.agg (Sc s))]=some (.osl 60 [.agg (Sc s)]):=by
 obtain ⟨k,y,nm,⟨k2,n,m,s,v,q,kids⟩⟩:=s;unfold Sc Bp Bw
 kernel_rfl
theorem OB (n:Nat) (s:Sp):Ar n (Sc s)=true:=by unfold Sc;simp [PV.under,Ar,SX]
theorem QL (s:Sp):(Sc s).length=16:=by unfold Sc;simp [SX]
theorem Sd (l:List PV):∀ r:List PV,Ak (r++l)=(Ak r && Ak l)
 | []=>rfl
 | x :: r=>by rw [List.cons_append,AK,AK,Sd l r,Bool.and_assoc]
theorem Se (s:Sp):Ak (Sc s)=true:=by unfold Sc;rw [Sd,R7];rfl
theorem Dd (n:Nat) (t:Tg):(BE t).under n=true:=by unfold BE;simp [PV.under,Ar]
theorem DI (n:Nat) (s:Sp):(D0 s).under n=true:=by unfold D0;simp [PV.under,OB]
theorem B3 {α:Type} (f:α->PV) (hf:∀ n a,(f a).under n=true) (n:Nat):∀ l:List α,Ar n (l.map f)=true
 | []=>by simp [Ar]
 | x :: r=>by rw [List.map_cons,SU.2.2.1,hf,B3 f hf n r];rfl
theorem OC {bx:List PBox} {id:Nat} {P P':PBox} {ys ys':List PBox} {f:FuncId} {args:List PV} {r:CR} (hp:Ak args=false) (hl:ys'.length=ys.length) (hc:DM bx) (hP:P'.under bx.length=true) (hy:(ys'.all fun y=>y.under (bx.length+ys'.length))=true) (hr:r.under (bx.length+ys.length)=true) (h:Ad CC f args (BX bx id P ys)=some (r,BX bx id P' ys')):Ai CC (Ad CC) f args (BX bx id P ys)=some (r,BX bx id P' ys'):=by
 unfold Ai;rw [if_pos (by rw [hp];simp),h];simp only;unfold Eu;rw [F8];have ht:(BX bx id P' ys').take (bx.length+ys.length)=BX bx id P' ys':=by rw [<- hl,<- F8 (id:=id) (P:=P') (ys:=ys')];exact Abd (Nat.le_refl _)
 rw [ht,hr];have:=KD (id:=id) (P:=P') (ys:=ys') hc hP hy;unfold DM at this;rw [F8,hl] at this;rw [this];rfl
theorem dN:CM CC (opsOf (Aa Ab1 []))=false:=by kernel_rfl
theorem KV:BO (opsOf (Aa Ab1 []))=[[0,1,2,3,4,5,6,7],[0,2,1,3,4,5,6,7],[0,2,3,1,4,5,6,7],[0,2,3,4,1,5,6,7],[2,0,1,3,4,5,6,7],[2,0,3,1,4,5,6,7],[2,0,3,4,1,5,6,7],[2,3,0,1,4,5,6,7],[2,3,0,4,1,5,6,7],[2,3,4,0,1,5,6,7]]:=by kernel_rfl
theorem Sf {bx:List PBox} {id:Nat} {L:List Tk} {i o:Nat} {RL:PV} (hR:RL.pure=true) {j:Nat} (hid:id < bx.length) (hc:DM bx) (nm:List UInt8) (pr:Int) (dosV:PV) (Io:∀ n,dosV.under n=true) (et:Tr) (t0:Tk) {J:List PBox} (hJ:∀ n,(J.all fun x=>x.under n)=true)  (a:Tg) (h:T9 109 [] id L RL i o (BE a) j o) :
 drawAll CC (Ad CC) (opsOf (Aa Ab1 [])) ⟨[.bp (bx.length+2) 0,.bp bx.length 0],BX bx id (Ap L i o RL) (.cells 86 [.bp id 0] :: .cells 80 [.int .i64 (t0.1:Int),.str t0.2.1,.int .i64 (t0.2.2:Int)] :: .cells 32 (C5 nm pr .nils dosV et) :: J)⟩=some (.normal,⟨(setT (setT (setT (setT (setT (setT (setT (setT [.bp (bx.length+2) 0,.bp bx.length 0] 2 (.bp (bx.length+2) 2)) 3 (.nils)) 4 (.bp id 0)) 5 (BE a)) 6 (.osl 58 [BE a])) 7 (.osl 58 [BE a])) 8 (.bp (bx.length+2) 2)) 7 (.sl [BE a])),BX bx id (Ap L j o RL) (.cells 86 [.bp id 0] :: .cells 80 [.int .i64 (t0.1:Int),.str t0.2.1,.int .i64 (t0.2.2:Int)] :: .cells 32 (C5 nm pr (.osl 58 [BE a]) dosV et) :: J)⟩):=by
 have t1:=Ab hid hc hR h;have hd:∀ k,id < bx.length+k:=fun k=>by omega
 have hb:=y' _ WS;obtain ⟨k,n,m,s,v,q,kids⟩:=et;have hk:∀ n,Ar n (A1 kids)=true:=fun z=>Ay z _ (AW kids);have nk:([86]:List TypeId).toArray.toList.any (AP CC)=true:=by kernel_rfl
 have XK:=bsT a;have cN:=fun st al l d=>GL (bytes:=120) (size:=10) (e:=58) (st:=st) (al:=al) (l:=l) (d:=d) (xs:=[]) (ys:=[BE a]) (by simp only [Ab8,Ab9];omega) (by decide) (by unfold BE;rfl);refine AV.2 ⟨by rw [KV];simp,fun l hl=>?_⟩;rw [KV] at hl;unfold C5 Ap;unfold BE at *;rw [<- My];rw [<- C3] at t1;simp only [Aba,Ab7,or_false] at hl;rcases hl with rfl | rfl | rfl | rfl | rfl | rfl | rfl | rfl | rfl | rfl
 all_goals
  simp only [opsOf,Aa,Ac,Ab1,Aau,AR,Ab5,Ab6,Ab2,Aaz,Aay];simp only [S9,A6,seval,PY,PZ,AS,Aw,t1,hd,hb,hk,Io,hJ,XK,cN,SX,AY,Bg,Ab3,Ab4,hid]
  try rw [Av _ 6 2 _ _ (by decide)]
  try rw [Av _ 5 2 _ _ (by decide)]
  try rw [Av _ 4 2 _ _ (by decide)]
  try rw [Av _ 6 3 _ _ (by decide)]
  try rw [Av _ 5 3 _ _ (by decide)]
  try rw [Av _ 4 3 _ _ (by decide)]
  try rfl
theorem Qd {bx:List PBox} {id:Nat} {L:List Tk} {i o:Nat} {RL:PV} (hR:RL.pure=true) {j:Nat} (hid:id < bx.length) (hc:DM bx) (nm:List UInt8) (pr:Int) (dosV:PV) (Io:∀ n,dosV.under n=true) (et:Tr) (t0:Tk) {J:List PBox} (hJ:∀ n,(J.all fun x=>x.under n)=true)  {t:Nat} {c:Int} {i' o':Nat} (h:Nd 109 [] id L RL i o t c i' o') :
 drawAll CC (Ad CC) (opsOf (Aa Ab1 [])) ⟨[.bp (bx.length+2) 0,.bp bx.length 0],BX bx id (Ap L i o RL) (.cells 86 [.bp id 0] :: .cells 80 [.int .i64 (t0.1:Int),.str t0.2.1,.int .i64 (t0.2.2:Int)] :: .cells 32 (C5 nm pr .nils dosV et) :: J)⟩=some (.pan (B5 t c),⟨[],BX bx id (Ap L i' o' RL) (.cells 86 [.bp id 0] :: .cells 80 [.int .i64 (t0.1:Int),.str t0.2.1,.int .i64 (t0.2.2:Int)] :: .cells 32 (C5 nm pr .nils dosV et) :: J)⟩):=by
 have t1:=Am hid hc hR h;have hd:∀ k,id < bx.length+k:=fun k=>by omega
 have hb:=y' _ WS;obtain ⟨k,n,m,s,v,q,kids⟩:=et;have hk:∀ n,Ar n (A1 kids)=true:=fun z=>Ay z _ (AW kids);have nk:([86]:List TypeId).toArray.toList.any (AP CC)=true:=by kernel_rfl
 refine AV.2 ⟨by rw [KV];simp,fun l hl=>?_⟩;rw [KV] at hl;unfold C5 Ap;skip;rw [<- My];rw [<- C3] at t1;simp only [Aba,Ab7,or_false] at hl;rcases hl with rfl | rfl | rfl | rfl | rfl | rfl | rfl | rfl | rfl | rfl
 all_goals
  simp only [opsOf,Aa,Ac,Ab1,Aau,AR,Ab5,Ab6,Ab2,Aaz,Aay];simp only [S9,A6,seval,PY,PZ,AS,Aw,t1,hd,hb,hk,Io,hJ,SX,AY,Bg,Ab3,Ab4,hid]
theorem Qe {bx:List PBox} {id:Nat} {L:List Tk} {i o:Nat} {RL:PV} (hR:RL.pure=true) {j:Nat} (hid:id < bx.length) (hc:DM bx) (nm:List UInt8) (pr:Int) (dosV:PV) (Io:∀ n,dosV.under n=true) (et:Tr) (t0:Tk) {J:List PBox} (hJ:∀ n,(J.all fun x=>x.under n)=true) (x0:PV) (xs:List PV) (qR:∀ n,x0.under n=true) (nw:∀ n,Ar n xs=true) (zB:xs.length<=7) (a:Tg) (h:T9 109 [] id L RL i o (BE a) j o) :
 drawAll CC (Ad CC) (opsOf (Aa Ab1 [])) ⟨[.bp (bx.length+2) 0,.bp bx.length 0],BX bx id (Ap L i o RL) (.cells 86 [.bp id 0] :: .cells 80 [.int .i64 (t0.1:Int),.str t0.2.1,.int .i64 (t0.2.2:Int)] :: .cells 32 (C5 nm pr (.osl 58 (x0 :: xs)) dosV et) :: J)⟩=some (.normal,⟨(setT (setT (setT (setT (setT (setT (setT (setT [.bp (bx.length+2) 0,.bp bx.length 0] 2 (.bp (bx.length+2) 2)) 3 (.sl (x0 :: xs))) 4 (.bp id 0)) 5 (BE a)) 6 (.osl 58 [BE a])) 7 (.osl 58 (x0 :: (xs++[BE a])))) 8 (.bp (bx.length+2) 2)) 7 (.sl (x0 :: (xs++[BE a])))),BX bx id (Ap L j o RL) (.cells 86 [.bp id 0] :: .cells 80 [.int .i64 (t0.1:Int),.str t0.2.1,.int .i64 (t0.2.2:Int)] :: .cells 32 (C5 nm pr (.osl 58 (x0 :: (xs++[BE a]))) dosV et) :: J)⟩):=by
 have t1:=Ab hid hc hR h;have hd:∀ k,id < bx.length+k:=fun k=>by omega
 have hb:=y' _ WS;obtain ⟨k,n,m,s,v,q,kids⟩:=et;have hk:∀ n,Ar n (A1 kids)=true:=fun z=>Ay z _ (AW kids);have nk:([86]:List TypeId).toArray.toList.any (AP CC)=true:=by kernel_rfl
 have XK:=bsT a;have cN:=fun st al l d=>GL (bytes:=120) (size:=10) (e:=58) (st:=st) (al:=al) (l:=l) (d:=d) (xs:=x0 :: xs) (ys:=[BE a]) (by simp only [Ab8,Ab9];omega) (by decide) (by unfold BE;rfl);have Cr:=fun ZV t1 e=>dL (co:=ZV) (k:=109) (vs:=[.bp id 0]) (bx:=bx) (id:=id) (P:=Ap L i o RL) (P':=Ap L j o RL) (v:=BE a) #[86] (.cells 86 [.bp id 0]) (.cells 80 [.int .i64 (t0.1:Int),.str t0.2.1,.int .i64 (t0.2.2:Int)]) (.cells 32 (C5 nm pr (.osl 58 (x0 :: xs)) dosV (.mk k n m s v q kids)) :: J) 3 2 (some 5) e nk rfl (by simp only [SU,SX,hd,decide_true]) hc (Bm L i o hR) (Bm L j o hR) (by simp only [SU,SX,hd,decide_true]) (Dd _ a) t1;refine AV.2 ⟨by rw [KV];simp,fun l hl=>?_⟩;rw [KV] at hl;unfold C5 Ap at|-Cr;unfold BE at *;rw [<- My];rw [<- C3] at t1;replace Cr:=fun e=>Cr ZV (t1 [.cells 86 [.bp id 0],.cells 80 [.int .i64 (t0.1:Int),.str t0.2.1,.int .i64 (t0.2.2:Int)]] (by simp only [SU,SX,hd,decide_true,Ab8,Ab9])) e;simp only [Aba,Ab7,or_false] at hl;rcases hl with rfl | rfl | rfl | rfl | rfl | rfl | rfl | rfl | rfl | rfl
 all_goals
  simp only [opsOf,Aa,Ac,Ab1,Aau,AR,Ab5,Ab6,Ab2,Aaz,Aay];simp only [S9,A6,seval,PY,PZ,AS,Aw,t1,hd,hb,hk,Io,hJ,XK,cN,qR,nw,Cr,F5,Lk,SX,AY,Bg,Ab3,Ab4,hid]
  try rw [Av _ 6 2 _ _ (by decide)]
  try rw [Av _ 5 2 _ _ (by decide)]
  try rw [Av _ 4 2 _ _ (by decide)]
  try rw [Av _ 6 3 _ _ (by decide)]
  try rw [Av _ 5 3 _ _ (by decide)]
  try rw [Av _ 4 3 _ _ (by decide)]
  try rfl
theorem OD {bx:List PBox} {id:Nat} {L:List Tk} {i o:Nat} {RL:PV} (hR:RL.pure=true) {j:Nat} (hid:id < bx.length) (hc:DM bx) (nm:List UInt8) (pr:Int) (dosV:PV) (Io:∀ n,dosV.under n=true) (et:Tr) (t0:Tk) {J:List PBox} (hJ:∀ n,(J.all fun x=>x.under n)=true) (x0:PV) (xs:List PV) (qR:∀ n,x0.under n=true) (nw:∀ n,Ar n xs=true) (zB:xs.length<=7) {t:Nat} {c:Int} {i' o':Nat} (h:Nd 109 [] id L RL i o t c i' o') :
 drawAll CC (Ad CC) (opsOf (Aa Ab1 [])) ⟨[.bp (bx.length+2) 0,.bp bx.length 0],BX bx id (Ap L i o RL) (.cells 86 [.bp id 0] :: .cells 80 [.int .i64 (t0.1:Int),.str t0.2.1,.int .i64 (t0.2.2:Int)] :: .cells 32 (C5 nm pr (.osl 58 (x0 :: xs)) dosV et) :: J)⟩=some (.pan (B5 t c),⟨[],BX bx id (Ap L i' o' RL) (.cells 86 [.bp id 0] :: .cells 80 [.int .i64 (t0.1:Int),.str t0.2.1,.int .i64 (t0.2.2:Int)] :: .cells 32 (C5 nm pr (.osl 58 (x0 :: xs)) dosV et) :: J)⟩):=by
 have t1:=Am hid hc hR h;have hd:∀ k,id < bx.length+k:=fun k=>by omega
 have hb:=y' _ WS;obtain ⟨k,n,m,s,v,q,kids⟩:=et;have hk:∀ n,Ar n (A1 kids)=true:=fun z=>Ay z _ (AW kids);have nk:([86]:List TypeId).toArray.toList.any (AP CC)=true:=by kernel_rfl
 have Cr:=fun ZV t1 e=>dM (co:=ZV) (k:=109) (vs:=[.bp id 0]) (bx:=bx) (id:=id) (P:=Ap L i o RL) (P':=Ap L i' o' RL) (v:=B5 t c) #[86] (.cells 86 [.bp id 0]) (.cells 80 [.int .i64 (t0.1:Int),.str t0.2.1,.int .i64 (t0.2.2:Int)]) (.cells 32 (C5 nm pr (.osl 58 (x0 :: xs)) dosV (.mk k n m s v q kids)) :: J) 3 2 (some 5) e nk rfl (by simp only [SU,SX,hd,decide_true]) hc (Bm L i o hR) (Bm L i' o' hR) (by simp only [SU,SX,hd,decide_true]) (DQ (bx.length+2) t c) t1;refine AV.2 ⟨by rw [KV];simp,fun l hl=>?_⟩;rw [KV] at hl;unfold C5 Ap at|-Cr;skip;rw [<- My];rw [<- C3] at t1;replace Cr:=fun e=>Cr ZV (t1 [.cells 86 [.bp id 0],.cells 80 [.int .i64 (t0.1:Int),.str t0.2.1,.int .i64 (t0.2.2:Int)]] (by simp only [SU,SX,hd,decide_true,Ab8,Ab9])) e;simp only [Aba,Ab7,or_false] at hl;rcases hl with rfl | rfl | rfl | rfl | rfl | rfl | rfl | rfl | rfl | rfl
 all_goals
  simp only [opsOf,Aa,Ac,Ab1,Aau,AR,Ab5,Ab6,Ab2,Aaz,Aay];simp only [S9,A6,seval,PY,PZ,AS,Aw,t1,hd,hb,hk,Io,hJ,qR,nw,Cr,F5,Lk,SX,AY,Bg,Ab3,Ab4,hid]
theorem dO:CM CC (opsOf (Aa Ab0 []))=false:=by kernel_rfl
theorem KW:BO (opsOf (Aa Ab0 []))=[[0,1,2,3,4,5,6,7],[0,2,1,3,4,5,6,7],[0,2,3,1,4,5,6,7],[0,2,3,4,1,5,6,7],[2,0,1,3,4,5,6,7],[2,0,3,1,4,5,6,7],[2,0,3,4,1,5,6,7],[2,3,0,1,4,5,6,7],[2,3,0,4,1,5,6,7],[2,3,4,0,1,5,6,7]]:=by kernel_rfl
theorem Sg {bx:List PBox} {id:Nat} {L:List Tk} {i o:Nat} {RL:PV} (hR:RL.pure=true) {j:Nat} (hid:id < bx.length) (hc:DM bx) (nm:List UInt8) (pr:Int) (onV:PV) (Io:∀ n,onV.under n=true) (et:Tr) (t0:Tk) {J:List PBox} (hJ:∀ n,(J.all fun x=>x.under n)=true)  (a:Sp) (h:T9 111 [] id L RL i o (D0 a) j o) :
 drawAll CC (Ad CC) (opsOf (Aa Ab0 [])) ⟨[.bp (bx.length+2) 0,.bp bx.length 0],BX bx id (Ap L i o RL) (.cells 86 [.bp id 0] :: .cells 80 [.int .i64 (t0.1:Int),.str t0.2.1,.int .i64 (t0.2.2:Int)] :: .cells 32 (C5 nm pr onV .nils et) :: J)⟩=some (.normal,⟨(setT (setT (setT (setT (setT (setT (setT (setT [.bp (bx.length+2) 0,.bp bx.length 0] 2 (.bp (bx.length+2) 14)) 3 (.nils)) 4 (.bp id 0)) 5 (D0 a)) 6 (.osl 60 [D0 a])) 7 (.osl 60 [D0 a])) 8 (.bp (bx.length+2) 14)) 7 (.sl [D0 a])),BX bx id (Ap L j o RL) (.cells 86 [.bp id 0] :: .cells 80 [.int .i64 (t0.1:Int),.str t0.2.1,.int .i64 (t0.2.2:Int)] :: .cells 32 (C5 nm pr onV (.osl 60 [D0 a]) et) :: J)⟩):=by
 have t1:=Ab hid hc hR h;have hd:∀ k,id < bx.length+k:=fun k=>by omega
 have hb:=za _ WT;obtain ⟨k,n,m,s,v,q,kids⟩:=et;have hk:∀ n,Ar n (A1 kids)=true:=fun z=>Ay z _ (AW kids);have nk:([86]:List TypeId).toArray.toList.any (AP CC)=true:=by kernel_rfl
 have XK:=bsS a;have cN:=fun st al l d=>GL (bytes:=200) (size:=16) (e:=60) (st:=st) (al:=al) (l:=l) (d:=d) (xs:=[]) (ys:=[D0 a]) (by simp only [Ab8,Ab9];omega) (by decide) (by unfold D0;simp [PV.cells,QL]);refine AV.2 ⟨by rw [KW];simp,fun l hl=>?_⟩;rw [KW] at hl;unfold C5 Ap;unfold D0 at *;rw [<- My];rw [<- C3] at t1;simp only [Aba,Ab7,or_false] at hl;rcases hl with rfl | rfl | rfl | rfl | rfl | rfl | rfl | rfl | rfl | rfl
 all_goals
  simp only [opsOf,Aa,Ac,Ab0,Aau,AR,Ab5,Ab6,Ab2,Aaz,Aay];simp only [S9,A6,seval,PY,PZ,AS,Aw,t1,hd,hb,hk,Io,hJ,XK,cN,OB,QL,Se,SX,AY,Bg,Ab3,Ab4,hid]
  try rw [Av _ 6 2 _ _ (by decide)]
  try rw [Av _ 5 2 _ _ (by decide)]
  try rw [Av _ 4 2 _ _ (by decide)]
  try rw [Av _ 6 3 _ _ (by decide)]
  try rw [Av _ 5 3 _ _ (by decide)]
  try rw [Av _ 4 3 _ _ (by decide)]
  try rfl
theorem Qf {bx:List PBox} {id:Nat} {L:List Tk} {i o:Nat} {RL:PV} (hR:RL.pure=true) {j:Nat} (hid:id < bx.length) (hc:DM bx) (nm:List UInt8) (pr:Int) (onV:PV) (Io:∀ n,onV.under n=true) (et:Tr) (t0:Tk) {J:List PBox} (hJ:∀ n,(J.all fun x=>x.under n)=true)  {t:Nat} {c:Int} {i' o':Nat} (h:Nd 111 [] id L RL i o t c i' o') :
 drawAll CC (Ad CC) (opsOf (Aa Ab0 [])) ⟨[.bp (bx.length+2) 0,.bp bx.length 0],BX bx id (Ap L i o RL) (.cells 86 [.bp id 0] :: .cells 80 [.int .i64 (t0.1:Int),.str t0.2.1,.int .i64 (t0.2.2:Int)] :: .cells 32 (C5 nm pr onV .nils et) :: J)⟩=some (.pan (B5 t c),⟨[],BX bx id (Ap L i' o' RL) (.cells 86 [.bp id 0] :: .cells 80 [.int .i64 (t0.1:Int),.str t0.2.1,.int .i64 (t0.2.2:Int)] :: .cells 32 (C5 nm pr onV .nils et) :: J)⟩):=by
 have t1:=Am hid hc hR h;have hd:∀ k,id < bx.length+k:=fun k=>by omega
 have hb:=za _ WT;obtain ⟨k,n,m,s,v,q,kids⟩:=et;have hk:∀ n,Ar n (A1 kids)=true:=fun z=>Ay z _ (AW kids);have nk:([86]:List TypeId).toArray.toList.any (AP CC)=true:=by kernel_rfl
 refine AV.2 ⟨by rw [KW];simp,fun l hl=>?_⟩;rw [KW] at hl;unfold C5 Ap;skip;rw [<- My];rw [<- C3] at t1;simp only [Aba,Ab7,or_false] at hl;rcases hl with rfl | rfl | rfl | rfl | rfl | rfl | rfl | rfl | rfl | rfl
 all_goals
  simp only [opsOf,Aa,Ac,Ab0,Aau,AR,Ab5,Ab6,Ab2,Aaz,Aay];simp only [S9,A6,seval,PY,PZ,AS,Aw,t1,hd,hb,hk,Io,hJ,SX,AY,Bg,Ab3,Ab4,hid]
theorem Qg {bx:List PBox} {id:Nat} {L:List Tk} {i o:Nat} {RL:PV} (hR:RL.pure=true) {j:Nat} (hid:id < bx.length) (hc:DM bx) (nm:List UInt8) (pr:Int) (onV:PV) (Io:∀ n,onV.under n=true) (et:Tr) (t0:Tk) {J:List PBox} (hJ:∀ n,(J.all fun x=>x.under n)=true) (x0:PV) (xs:List PV) (qR:∀ n,x0.under n=true) (nw:∀ n,Ar n xs=true) (zB:xs.length<=7) (a:Sp) (h:T9 111 [] id L RL i o (D0 a) j o) :
 drawAll CC (Ad CC) (opsOf (Aa Ab0 [])) ⟨[.bp (bx.length+2) 0,.bp bx.length 0],BX bx id (Ap L i o RL) (.cells 86 [.bp id 0] :: .cells 80 [.int .i64 (t0.1:Int),.str t0.2.1,.int .i64 (t0.2.2:Int)] :: .cells 32 (C5 nm pr onV (.osl 60 (x0 :: xs)) et) :: J)⟩=some (.normal,⟨(setT (setT (setT (setT (setT (setT (setT (setT [.bp (bx.length+2) 0,.bp bx.length 0] 2 (.bp (bx.length+2) 14)) 3 (.sl (x0 :: xs))) 4 (.bp id 0)) 5 (D0 a)) 6 (.osl 60 [D0 a])) 7 (.osl 60 (x0 :: (xs++[D0 a])))) 8 (.bp (bx.length+2) 14)) 7 (.sl (x0 :: (xs++[D0 a])))),BX bx id (Ap L j o RL) (.cells 86 [.bp id 0] :: .cells 80 [.int .i64 (t0.1:Int),.str t0.2.1,.int .i64 (t0.2.2:Int)] :: .cells 32 (C5 nm pr onV (.osl 60 (x0 :: (xs++[D0 a]))) et) :: J)⟩):=by
 have t1:=Ab hid hc hR h;have hd:∀ k,id < bx.length+k:=fun k=>by omega
 have hb:=za _ WT;obtain ⟨k,n,m,s,v,q,kids⟩:=et;have hk:∀ n,Ar n (A1 kids)=true:=fun z=>Ay z _ (AW kids);have nk:([86]:List TypeId).toArray.toList.any (AP CC)=true:=by kernel_rfl
 have XK:=bsS a;have cN:=fun st al l d=>GL (bytes:=200) (size:=16) (e:=60) (st:=st) (al:=al) (l:=l) (d:=d) (xs:=x0 :: xs) (ys:=[D0 a]) (by simp only [Ab8,Ab9];omega) (by decide) (by unfold D0;simp [PV.cells,QL]);have Cr:=fun ZV t1 e=>dL (co:=ZV) (k:=111) (vs:=[.bp id 0]) (bx:=bx) (id:=id) (P:=Ap L i o RL) (P':=Ap L j o RL) (v:=D0 a) #[86] (.cells 86 [.bp id 0]) (.cells 80 [.int .i64 (t0.1:Int),.str t0.2.1,.int .i64 (t0.2.2:Int)]) (.cells 32 (C5 nm pr onV (.osl 60 (x0 :: xs)) (.mk k n m s v q kids)) :: J) 3 14 (some 5) e nk rfl (by simp only [SU,SX,hd,decide_true]) hc (Bm L i o hR) (Bm L j o hR) (by simp only [SU,SX,hd,decide_true]) (DI _ a) t1;refine AV.2 ⟨by rw [KW];simp,fun l hl=>?_⟩;rw [KW] at hl;unfold C5 Ap at|-Cr;unfold D0 at *;rw [<- My];rw [<- C3] at t1;replace Cr:=fun e=>Cr ZV (t1 [.cells 86 [.bp id 0],.cells 80 [.int .i64 (t0.1:Int),.str t0.2.1,.int .i64 (t0.2.2:Int)]] (by simp only [SU,SX,hd,decide_true,Ab8,Ab9])) e;simp only [Aba,Ab7,or_false] at hl;rcases hl with rfl | rfl | rfl | rfl | rfl | rfl | rfl | rfl | rfl | rfl
 all_goals
  simp only [opsOf,Aa,Ac,Ab0,Aau,AR,Ab5,Ab6,Ab2,Aaz,Aay];simp only [S9,A6,seval,PY,PZ,AS,Aw,t1,hd,hb,hk,Io,hJ,XK,cN,OB,QL,Se,qR,nw,Cr,F5,Lk,SX,AY,Bg,Ab3,Ab4,hid]
  try rw [Av _ 6 2 _ _ (by decide)]
  try rw [Av _ 5 2 _ _ (by decide)]
  try rw [Av _ 4 2 _ _ (by decide)]
  try rw [Av _ 6 3 _ _ (by decide)]
  try rw [Av _ 5 3 _ _ (by decide)]
  try rw [Av _ 4 3 _ _ (by decide)]
  try rfl
theorem OE {bx:List PBox} {id:Nat} {L:List Tk} {i o:Nat} {RL:PV} (hR:RL.pure=true) {j:Nat} (hid:id < bx.length) (hc:DM bx) (nm:List UInt8) (pr:Int) (onV:PV) (Io:∀ n,onV.under n=true) (et:Tr) (t0:Tk) {J:List PBox} (hJ:∀ n,(J.all fun x=>x.under n)=true) (x0:PV) (xs:List PV) (qR:∀ n,x0.under n=true) (nw:∀ n,Ar n xs=true) (zB:xs.length<=7) {t:Nat} {c:Int} {i' o':Nat} (h:Nd 111 [] id L RL i o t c i' o') :
 drawAll CC (Ad CC) (opsOf (Aa Ab0 [])) ⟨[.bp (bx.length+2) 0,.bp bx.length 0],BX bx id (Ap L i o RL) (.cells 86 [.bp id 0] :: .cells 80 [.int .i64 (t0.1:Int),.str t0.2.1,.int .i64 (t0.2.2:Int)] :: .cells 32 (C5 nm pr onV (.osl 60 (x0 :: xs)) et) :: J)⟩=some (.pan (B5 t c),⟨[],BX bx id (Ap L i' o' RL) (.cells 86 [.bp id 0] :: .cells 80 [.int .i64 (t0.1:Int),.str t0.2.1,.int .i64 (t0.2.2:Int)] :: .cells 32 (C5 nm pr onV (.osl 60 (x0 :: xs)) et) :: J)⟩):=by
 have t1:=Am hid hc hR h;have hd:∀ k,id < bx.length+k:=fun k=>by omega
 have hb:=za _ WT;obtain ⟨k,n,m,s,v,q,kids⟩:=et;have hk:∀ n,Ar n (A1 kids)=true:=fun z=>Ay z _ (AW kids);have nk:([86]:List TypeId).toArray.toList.any (AP CC)=true:=by kernel_rfl
 have Cr:=fun ZV t1 e=>dM (co:=ZV) (k:=111) (vs:=[.bp id 0]) (bx:=bx) (id:=id) (P:=Ap L i o RL) (P':=Ap L i' o' RL) (v:=B5 t c) #[86] (.cells 86 [.bp id 0]) (.cells 80 [.int .i64 (t0.1:Int),.str t0.2.1,.int .i64 (t0.2.2:Int)]) (.cells 32 (C5 nm pr onV (.osl 60 (x0 :: xs)) (.mk k n m s v q kids)) :: J) 3 14 (some 5) e nk rfl (by simp only [SU,SX,hd,decide_true]) hc (Bm L i o hR) (Bm L i' o' hR) (by simp only [SU,SX,hd,decide_true]) (DQ (bx.length+2) t c) t1;refine AV.2 ⟨by rw [KW];simp,fun l hl=>?_⟩;rw [KW] at hl;unfold C5 Ap at|-Cr;skip;rw [<- My];rw [<- C3] at t1;replace Cr:=fun e=>Cr ZV (t1 [.cells 86 [.bp id 0],.cells 80 [.int .i64 (t0.1:Int),.str t0.2.1,.int .i64 (t0.2.2:Int)]] (by simp only [SU,SX,hd,decide_true,Ab8,Ab9])) e;simp only [Aba,Ab7,or_false] at hl;rcases hl with rfl | rfl | rfl | rfl | rfl | rfl | rfl | rfl | rfl | rfl
 all_goals
  simp only [opsOf,Aa,Ac,Ab0,Aau,AR,Ab5,Ab6,Ab2,Aaz,Aay];simp only [S9,A6,seval,PY,PZ,AS,Aw,t1,hd,hb,hk,Io,hJ,qR,nw,Cr,F5,Lk,SX,AY,Bg,Ab3,Ab4,hid]
end Go.HH
