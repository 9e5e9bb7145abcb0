/-
  What the law needs, packed: PV PW E8 E9 E10 RA.
-/
import Derived.Test.YthjcaihemgllaaaGreatDoorK40
open Go.Proofs.Tryz renaming prog->Aau,f85->Aax,underlying3->Aay,f49->Aaz,underlying9->Ab0,f99->Ab1,f62->Ab5,f23->Abb
open Option renaming getD->Aav
open Bool renaming not_not->Aaw
open Nat renaming le_of_ble_eq_true->Ab2
open List renaming take_succ_cons->Ab3,drop_succ_cons->Ab4,take_zero->Ab6,drop_zero->Ab7,take_of_length_le->Ab8,length_cons->Ab9,length_nil->Aba
namespace Go.HH
open Go Go.Proofs
set_option maxRecDepth 100000
set_option maxHeartbeats 4000000
set_option linter.unusedSimpArgs false
set_option linter.unusedVariables false
theorem ku {id:Nat} {L:List Tk} {RL:PV} (hR:RL.pure=true) (hT:TokOK L) (n:Nat) (hx:FK 99 .expr id L RL n) (hn:∀ m,m < n->FK 139 .not id L RL m):FK 99 .expr id L RL (n+1):=by
 intro i o hi ho;rw [pz];cases f0:Bs L 1 [105,102] i with
 | false=>
  simp only [Bool.false_eq_true,if_false];obtain ⟨I1,O1,MA⟩:=WM (id:=id) (RL:=RL) hR hT n hn;have h1:=WL (id:=id) (RL:=RL) hR hT true n I1 O1 i o hi ho;cases r1:pz L n (.chain true) o i with
  | out=>exact AT
  | bad t c=>
   rw [r1] at h1;obtain ⟨i',o',h1⟩:=h1;refine AM ⟨i',o',Ax hR fun bx hid hc=>?_⟩;have hd:∀ k,id < bx.length+k:=fun k=>by omega
   have t0:=Ab hid hc hR (AA (id:=id) (o:=o) hR hi);have q0:=Ab hid hc hR (Ae (id:=id) (o:=o) hR hi hT _ f0);have qQ:(BX bx id (Ap L i o RL) [.cells 86 [.bp id 0],.cells 29 [.int .i64 0,.int .i64 0,.int .i64 0,.str [],.int .i64 0,.int .i64 0,.str [],.int .i64 0,.str [],.str [],.nils],.cells 80 [.int .i64 ((tokAt L i).1:Int),.str (tokAt L i).2.1,.int .i64 ((tokAt L i).2.2:Int)]])[bx.length]?=some (.cells 86 [.bp id 0]):=by rw [QH];rfl
   have vB:Nc L i o RL id (BX bx id (Ap L i o RL) [.cells 86 [.bp id 0],.cells 29 [.int .i64 0,.int .i64 0,.int .i64 0,.str [],.int .i64 0,.int .i64 0,.str [],.int .i64 0,.str [],.str [],.nils],.cells 80 [.int .i64 ((tokAt L i).1:Int),.str (tokAt L i).2.1,.int .i64 ((tokAt L i).2.2:Int)]]):=HM (i0:=i) (o0:=o) hid hc hR (by simp only [SU,SX,Ab9,Aba];simpa using (by omega:id < bx.length+3));have t1:=h1 138 [] [.bp bx.length 0] [.bp bx.length 0] rfl rfl _ (MA _ bx.length qQ (by omega)) vB;rw [H4 hid] at t1;unfold bw Nb at t1;simp only [if_true] at t1;rw [Bh rfl];unfold Ap at *;rw [<- Al];rw [<- AI] at t0 q0 t1;simp only [Aa,Ac,Ab1,Aav];simp only [S9,Af,seval,PY,PZ,AS,Aw,t0,q0,t1,SX,hd,hid];exact ⟨_,rfl⟩
  | ok a j=>
   rw [r1] at h1;refine Bi (A5 hR (fun n=>by rw [An];simp only [SX,PV.under]) fun bx hid hc=>?_);have hd:∀ k,id < bx.length+k:=fun k=>by omega
   have t0:=Ab hid hc hR (AA (id:=id) (o:=o) hR hi);have q0:=Ab hid hc hR (Ae (id:=id) (o:=o) hR hi hT _ f0);have qQ:(BX bx id (Ap L i o RL) [.cells 86 [.bp id 0],.cells 29 [.int .i64 0,.int .i64 0,.int .i64 0,.str [],.int .i64 0,.int .i64 0,.str [],.int .i64 0,.str [],.str [],.nils],.cells 80 [.int .i64 ((tokAt L i).1:Int),.str (tokAt L i).2.1,.int .i64 ((tokAt L i).2.2:Int)]])[bx.length]?=some (.cells 86 [.bp id 0]):=by rw [QH];rfl
   have vB:Nc L i o RL id (BX bx id (Ap L i o RL) [.cells 86 [.bp id 0],.cells 29 [.int .i64 0,.int .i64 0,.int .i64 0,.str [],.int .i64 0,.int .i64 0,.str [],.int .i64 0,.str [],.str [],.nils],.cells 80 [.int .i64 ((tokAt L i).1:Int),.str (tokAt L i).2.1,.int .i64 ((tokAt L i).2.2:Int)]]):=HM (i0:=i) (o0:=o) hid hc hR (by simp only [SU,SX,Ab9,Aba];simpa using (by omega:id < bx.length+3));have t1:=h1 138 [] [.bp bx.length 0] [.bp bx.length 0] rfl rfl _ (MA _ bx.length qQ (by omega)) vB;rw [H4 hid] at t1;rw [An] at t1 |-;unfold bw Nb at t1;simp only [if_true] at t1;rw [Bh rfl];unfold Ap at *;rw [<- Al];rw [<- AI] at t0 q0 t1;simp only [Aa,Ac,Ab1,Aav];simp only [S9,Af,seval,PY,PZ,AS,Aw,t0,q0,t1,SX,hd,hid];exact ⟨_,rfl⟩
 | true=>
  simp only [if_true];have BF:=AO hT hi f0 (by decide);by_cases BC:o < 100
  · rw [if_pos BC]
    have vu:IntKind.wrap .i64 (((o+1:Nat):Int) - 1)=((o:Nat):Int):=by rw [wrap_i64 ⟨by omega,by omega⟩];omega
    have h1:=hx (i+1) (o+1) BF (by omega);cases r1:pz L n .expr (o+1) (i+1) with
    | out=>exact AT
    | bad t e=>
     rw [r1] at h1;obtain ⟨i',o',h1⟩:=h1;refine AM ⟨i',o',Ax hR fun bx hid hc=>?_⟩;have hd:∀ k,id < bx.length+k:=fun k=>by omega
     have t0:=Ab hid hc hR (AA (id:=id) (o:=o) hR hi);have q0:=Ab hid hc hR (As (id:=id) (o:=o) hR hi hT _ f0);have te:=Ab hid hc hR (CX (id:=id) (L:=L) (i:=i+1) hR BC (tokAt L i).1 (tokAt L i).2.1 (tokAt L i).2.2);have t1:=Am hid hc hR h1;rw [Bh rfl];unfold Ap;rw [<- Al];rw [<- AI] at t0 q0 te t1;simp only [Aa,Ac,Ab1,Aav];simp only [S9,Af,seval,PY,PZ,AS,Aw,t0,q0,te,t1,SX,hd,hid];exact ⟨_,rfl⟩
    | ok a1 i1=>
     rw [r1] at h1;dsimp only [Au];have j1:=Hj hT _ _ _ _ _ _ BF r1;have BF:=j1.2;have h2:=Cc (id:=id) (o:=o+1) (i:=i1) hR BF hT 1 1 rfl [116,104,101,110];cases r2:Bt L 1 [116,104,101,110] i1 with
     | out=>exact AT
     | bad t e=>
      rw [r2] at h2;obtain ⟨i',o',h2⟩:=h2;refine AM ⟨i',o',Ax hR fun bx hid hc=>?_⟩;have hd:∀ k,id < bx.length+k:=fun k=>by omega
      have t0:=Ab hid hc hR (AA (id:=id) (o:=o) hR hi);have q0:=Ab hid hc hR (As (id:=id) (o:=o) hR hi hT _ f0);have te:=Ab hid hc hR (CX (id:=id) (L:=L) (i:=i+1) hR BC (tokAt L i).1 (tokAt L i).2.1 (tokAt L i).2.2);have t1:=Ab hid hc hR h1;rw [An] at t1;have t2:=Am hid hc hR h2;rw [Bh rfl];unfold Ap;rw [<- Al];rw [<- AI] at t0 q0 te t1 t2;simp only [Aa,Ac,Ab1,Aav];simp only [S9,Af,seval,PY,PZ,AS,Aw,t0,q0,te,t1,t2,SX,hd,hid];exact ⟨_,rfl⟩
     | ok a2 i2=>
      rw [r2] at h2;dsimp only [Au];have j2:=A4 hT BF (by decide) r2;have Gu:=j2.2;have h3:=hx i2 (o+1) Gu (by omega);cases r3:pz L n .expr (o+1) i2 with
      | out=>exact AT
      | bad t e=>
       rw [r3] at h3;obtain ⟨i',o',h3⟩:=h3;refine AM ⟨i',o',Ax hR fun bx hid hc=>?_⟩;have hd:∀ k,id < bx.length+k:=fun k=>by omega
       have t0:=Ab hid hc hR (AA (id:=id) (o:=o) hR hi);have q0:=Ab hid hc hR (As (id:=id) (o:=o) hR hi hT _ f0);have te:=Ab hid hc hR (CX (id:=id) (L:=L) (i:=i+1) hR BC (tokAt L i).1 (tokAt L i).2.1 (tokAt L i).2.2);have t1:=Ab hid hc hR h1;rw [An] at t1;have t2:=Ab hid hc hR h2;have t3:=Am hid hc hR h3;rw [Bh rfl];unfold Ap;rw [<- Al];rw [<- AI] at t0 q0 te t1 t2 t3;simp only [Aa,Ac,Ab1,Aav];simp only [S9,Af,seval,PY,PZ,AS,Aw,t0,q0,te,t1,t2,t3,SX,hd,hid];exact ⟨_,rfl⟩
      | ok a3 i3=>
       rw [r3] at h3;dsimp only [Au];have j3:=Hj hT _ _ _ _ _ _ Gu r3;have UL:=j3.2;have h4:=Cc (id:=id) (o:=o+1) (i:=i3) hR UL hT 1 1 rfl [101,108,115,101];cases r4:Bt L 1 [101,108,115,101] i3 with
       | out=>exact AT
       | bad t e=>
        rw [r4] at h4;obtain ⟨i',o',h4⟩:=h4;refine AM ⟨i',o',Ax hR fun bx hid hc=>?_⟩;have hd:∀ k,id < bx.length+k:=fun k=>by omega
        have t0:=Ab hid hc hR (AA (id:=id) (o:=o) hR hi);have q0:=Ab hid hc hR (As (id:=id) (o:=o) hR hi hT _ f0);have te:=Ab hid hc hR (CX (id:=id) (L:=L) (i:=i+1) hR BC (tokAt L i).1 (tokAt L i).2.1 (tokAt L i).2.2);have t1:=Ab hid hc hR h1;rw [An] at t1;have t2:=Ab hid hc hR h2;have t3:=Ab hid hc hR h3;rw [An] at t3;have t4:=Am hid hc hR h4;rw [Bh rfl];unfold Ap;rw [<- Al];rw [<- AI] at t0 q0 te t1 t2 t3 t4;simp only [Aa,Ac,Ab1,Aav];simp only [S9,Af,seval,PY,PZ,AS,Aw,t0,q0,te,t1,t2,t3,t4,SX,hd,hid];exact ⟨_,rfl⟩
       | ok a4 i4=>
        rw [r4] at h4;dsimp only [Au];have j4:=A4 hT UL (by decide) r4;have iI:=j4.2;have h5:=hx i4 (o+1) iI (by omega);cases r5:pz L n .expr (o+1) i4 with
        | out=>exact AT
        | bad t e=>
         rw [r5] at h5;obtain ⟨i',o',h5⟩:=h5;refine AM ⟨i',o',Ax hR fun bx hid hc=>?_⟩;have hd:∀ k,id < bx.length+k:=fun k=>by omega
         have t0:=Ab hid hc hR (AA (id:=id) (o:=o) hR hi);have q0:=Ab hid hc hR (As (id:=id) (o:=o) hR hi hT _ f0);have te:=Ab hid hc hR (CX (id:=id) (L:=L) (i:=i+1) hR BC (tokAt L i).1 (tokAt L i).2.1 (tokAt L i).2.2);have t1:=Ab hid hc hR h1;rw [An] at t1;have t2:=Ab hid hc hR h2;have t3:=Ab hid hc hR h3;rw [An] at t3;have t4:=Ab hid hc hR h4;have t5:=Am hid hc hR h5;rw [Bh rfl];unfold Ap;rw [<- Al];rw [<- AI] at t0 q0 te t1 t2 t3 t4 t5;simp only [Aa,Ac,Ab1,Aav];simp only [S9,Af,seval,PY,PZ,AS,Aw,t0,q0,te,t1,t2,t3,t4,t5,SX,hd,hid];exact ⟨_,rfl⟩
        | ok a5 i5=>
         rw [r5] at h5;dsimp only [Au];have j5:=Hj hT _ _ _ _ _ _ iI r5;have hi5:=j5.2;have hb:=z' a1 a3 a5;have vd:=Aa0 14 a1 a3 a5;refine Bi (A5 hR (fun n=>by rw [An];simp only [SX,PV.under]) fun bx hid hc=>?_);have hd:∀ k,id < bx.length+k:=fun k=>by omega
         have t0:=Ab hid hc hR (AA (id:=id) (o:=o) hR hi);have q0:=Ab hid hc hR (As (id:=id) (o:=o) hR hi hT _ f0);have te:=Ab hid hc hR (CX (id:=id) (L:=L) (i:=i+1) hR BC (tokAt L i).1 (tokAt L i).2.1 (tokAt L i).2.2);have t1:=Ab hid hc hR h1;rw [An] at t1;have t2:=Ab hid hc hR h2;have t3:=Ab hid hc hR h3;rw [An] at t3;have t4:=Ab hid hc hR h4;have t5:=Ab hid hc hR h5;rw [An] at t5;rw [An];rw [Bh rfl];unfold Ap;rw [<- Al];rw [<- AI] at t0 q0 te t1 t2 t3 t4 t5 vd;simp only [Aa,Ac,Ab1,Aav];simp only [S9,Af,seval,PY,PZ,AS,Aw,t0,q0,te,t1,t2,t3,t4,t5,hb,vd,vu,SX,hd,hid];exact ⟨_,rfl⟩
  · rw [if_neg BC]
    have vw:o=100:=by omega
    refine AM ⟨i+1,o+1,Ax hR fun bx hid hc=>?_⟩;have hd:∀ k,id < bx.length+k:=fun k=>by omega
    have t0:=Ab hid hc hR (AA (id:=id) (o:=o) hR hi);have q0:=Ab hid hc hR (As (id:=id) (o:=o) hR hi hT _ f0);have te:=Am hid hc hR (Jm (id:=id) (L:=L) (i:=i+1) hR vw (tokAt L i).1 (tokAt L i).2.1 (tokAt L i).2.2);rw [Bh rfl];unfold Ap atT;rw [<- Al];rw [<- AI] at t0 q0 te;simp only [Aa,Ac,Ab1,Aav];simp only [S9,Af,seval,PY,PZ,AS,Aw,t0,q0,te,SX,hd,hid];exact ⟨_,rfl⟩
theorem oM {id:Nat} {L:List Tk} {RL:PV} (hR:RL.pure=true) (hT:TokOK L):∀ n,FK 99 .expr id L RL n/\FK 139 .not id L RL n/\FK 162 .cmp id L RL n/\FK 171 .sum id L RL n/\FK 178 .prod id L RL n/\FK 184 .un id L RL n/\FK 187 .prim id L RL n:=by
 intro n
 induction n using Nat.strongRecOn with
 | _ n ih=>
  cases n with
  | zero=>exact ⟨fun _ _ _ _=>AT,fun _ _ _ _=>AT,fun _ _ _ _=>AT,fun _ _ _ _=>AT,fun _ _ _ _=>AT,fun _ _ _ _=>AT,fun _ _ _ _=>AT⟩
  | succ n=>
   obtain ⟨a1,a2,a3,a4,a5,a6,a7⟩:=ih n (by omega);exact ⟨ku hR hT n a1 (fun m hm=>(ih m (by omega)).2.1),oI hR hT n a3 a2,oF hR hT n a4,oE hR hT n (fun k hk=>(ih k (by omega)).2.2.2.2.1),ki hR hT n (fun k hk=>(ih k (by omega)).2.2.2.2.2.1),sO hR hT n a7 a6,kp hR hT n a1⟩
theorem WN {k:Int} {l:List Tr} (h:DC l) (hl:l.length<=12):FM (Bf k l):=by
 unfold Bf FM zV zK;exact ⟨⟨by simp,by simp,by simp,by simp,hl⟩,h⟩
theorem Oy (k n:Int):FM (En k n):=by
 unfold En FM zK DC;exact ⟨⟨by simp,by simp,by simp,by simp,by simp⟩,trivial⟩
theorem dJ {k:Int} {a:Tr} (h:FM a):FM (Bf k [a]):=WN (by unfold DC DC;exact ⟨h,trivial⟩) (by simp)
theorem LW {k:Int} {a b:Tr} (h:FM a) (h2:FM b):FM (Bf k [a,b]):=WN (by unfold DC DC DC;exact ⟨h,h2,trivial⟩) (by simp)
theorem xh {k:Int} {a b c:Tr} (h:FM a) (h2:FM b) (h3:FM c):FM (Bf k [a,b,c]):=WN (by unfold DC DC DC DC;exact ⟨h,h2,h3,trivial⟩) (by simp)
theorem sR {l:List Tr} {a:Tr} (h:DC l) (h2:FM a):DC (l++[a]):=by
 induction l with
 | nil=>unfold DC DC;exact ⟨h2,trivial⟩
 | cons x r ih=>unfold DC at h;show DC (x :: (r++[a]));unfold DC;exact ⟨h.1,ih h.2⟩
theorem R8 {s:List UInt8} (h:B8 s=true):s.length<=100:=by
 unfold B8 at h;simp only [Bool.and_eq_true,decide_eq_true_eq] at h;omega
theorem Oz {L:List Tk} {i:Nat} {a:List UInt8} {j:Nat} (h:DF L i=.ok a j):B8 a=true:=by
 unfold DF at h;split at h
 · split at h
   · rename_i hv
     injection h with h _
     subst h;exact hv
   · cases h
 · cases h
theorem sS (k:Nat) {a b:Tr} (h:FM a) (h2:FM b):FM (Qa k a b):=by
 unfold Qa;split
 · exact LW h h2
 · exact dJ (LW h h2)
 · exact LW h h2
 · exact dJ (LW h h2)
 · exact LW h2 h
 · exact dJ (LW h2 h)
theorem xi (b:Bool) {l:List Tr} (h:DC l) (hl:l.length<=12):FM (jV b l):=by
 unfold jV;split
 · unfold DC at h;exact h.1
 · exact WN h hl
theorem Js {k n m:Int} {s:List UInt8} {v:Vl} {y:Ky} (h1:s.length<=100) (h2:v.2.2.length<=100) (h3:y.2.1.length<=100) (h4:y.2.2.length<=100):FM (.mk k n m s v y []):=by
 unfold FM DC;exact ⟨⟨h1,h2,h3,h4,by simp⟩,trivial⟩
theorem kv {L:List Tk} {i:Nat} {a:Tr} {j:Nat} (h:Fp L i=.ok a j):FM a:=by
 unfold Fp at h;split at h
 · injection h with h _;subst h;exact Oy _ _
 split at h
 · injection h with h _;subst h;exact Oy _ _
 split at h
 · obtain ⟨_,i1,r1,h⟩:=Aq h
   obtain ⟨_,i2,r2,h⟩:=Aq h;injection h with h _
   subst h;exact Js (R8 (Oz r2)) (by simp [zV]) (by simp [zK]) (by simp [zK])
 split at h
 · obtain ⟨_,i1,r1,h⟩:=Aq h
   obtain ⟨_,i2,r2,h⟩:=Aq h;obtain ⟨_,i3,r3,h⟩:=Aq h;injection h with h _
   subst h;exact Js (by simp) (by simp [zV]) (by simp [zK]) (by simp [zK])
 split at h
 · obtain ⟨_,i1,r1,h⟩:=Aq h
   injection h with h _
   subst h;exact Js (by simp) (by simp [zV]) (by simp [zK]) (by simp [zK])
 split at h
 · split at h
   · injection h with h _;subst h;exact Js (by simp) (by simp [zV]) (by simp [zK]) (by simp [zK])
   · injection h with h _;subst h;exact Js (by simp) (by simp [zV]) (by simp [zK]) (by simp [zK])
 · cases h
theorem gA {L:List Tk} {i:Nat} {a:Ky} {j:Nat} (h:Ea L i=.ok a j):B8 a.2.1=true/\B8 a.2.2=true:=by
 unfold Ea at h;obtain ⟨_,i1,r1,h⟩:=Aq h;obtain ⟨_,i2,r2,h⟩:=Aq h;obtain ⟨_,i3,r3,h⟩:=Aq h;obtain ⟨_,i4,r4,h⟩:=Aq h;obtain ⟨_,i5,r5,h⟩:=Aq h;injection h with h _
 subst h;exact ⟨Oz r3,Oz r5⟩
def re:NT->Prop
 | .chainL _ acc=>DC acc/\acc.length<=8
 | .sumL e=>FM e
 | .prodL e=>FM e
 | _=>True
theorem Vw (b:Bool):re (Er b):=by cases b <;> trivial
theorem xj {L:List Tk} (hT:TokOK L):∀ (n:Nat) (nt:NT) (o i:Nat) (a:Tr) (j:Nat),re nt->pz L n nt o i=.ok a j->FM a:=by
 intro n
 induction n with
 | zero=>intro nt o i a j hi h;cases h
 | succ n ih=>
  intro nt o i a j hi h;cases nt with
  | expr=>
   rw [pz] at h;split at h
   · split at h
     · obtain ⟨_,i1,r1,h⟩:=Aq h
       obtain ⟨_,i2,r2,h⟩:=Aq h;obtain ⟨_,i3,r3,h⟩:=Aq h;obtain ⟨_,i4,r4,h⟩:=Aq h;obtain ⟨_,i5,r5,h⟩:=Aq h;injection h with h _
       subst h;exact xh (ih _ _ _ _ _ (by trivial) r1) (ih _ _ _ _ _ (by trivial) r3) (ih _ _ _ _ _ (by trivial) r5)
     · cases h
   · exact ih _ _ _ _ _ (by trivial) h
  | chain b=>
   rw [pz] at h;obtain ⟨_,i1,r1,h⟩:=Aq h;exact ih (.chainL b [_]) _ _ _ _ ⟨by unfold DC DC;exact ⟨ih _ _ _ _ _ (Vw b) r1,trivial⟩,by simp⟩ h
  | chainL b acc=>
   rw [pz] at h;split at h
   · split at h
     · cases h
     · rename_i h8
       obtain ⟨_,i1,r1,h⟩:=Aq h;exact ih (.chainL b (acc++[_])) _ _ _ _ ⟨sR hi.1 (ih _ _ _ _ _ (Vw b) r1),by have:=hi.2;rw [List.length_append];simp;omega⟩ h
   · injection h with h _
     subst h;exact xi b hi.1 (by have:=hi.2;omega)
  | not=>
   rw [pz] at h;split at h
   · split at h
     · obtain ⟨_,i1,r1,h⟩:=Aq h
       injection h with h _
       subst h;exact dJ (ih _ _ _ _ _ (by trivial) r1)
     · cases h
   · exact ih _ _ _ _ _ (by trivial) h
  | cmp=>
   rw [pz] at h;obtain ⟨_,i1,r1,h⟩:=Aq h;split at h
   · obtain ⟨_,i2,r2,h⟩:=Aq h
     injection h with h _
     subst h;exact sS _ (ih _ _ _ _ _ (by trivial) r1) (ih _ _ _ _ _ (by trivial) r2)
   · injection h with h _
     subst h;exact ih _ _ _ _ _ (by trivial) r1
  | sum=>
   rw [pz] at h;obtain ⟨_,i1,r1,h⟩:=Aq h;exact ih (.sumL _) _ _ _ _ (show FM _ from ih _ _ _ _ _ (by trivial) r1) h
  | sumL e=>
   rw [pz] at h;split at h
   · obtain ⟨_,i1,r1,h⟩:=Aq h
     exact ih (.sumL _) _ _ _ _ (show FM _ from LW hi (ih _ _ _ _ _ (by trivial) r1)) h
   · split at h
     · obtain ⟨_,i1,r1,h⟩:=Aq h
       exact ih (.sumL _) _ _ _ _ (show FM _ from LW hi (ih _ _ _ _ _ (by trivial) r1)) h
     · injection h with h _
       subst h;exact hi
  | prod=>
   rw [pz] at h;obtain ⟨_,i1,r1,h⟩:=Aq h;exact ih (.prodL _) _ _ _ _ (show FM _ from ih _ _ _ _ _ (by trivial) r1) h
  | prodL e=>
   rw [pz] at h;split at h
   · obtain ⟨_,i1,r1,h⟩:=Aq h
     exact ih (.prodL _) _ _ _ _ (show FM _ from LW hi (ih _ _ _ _ _ (by trivial) r1)) h
   · injection h with h _
     subst h;exact hi
  | un=>
   rw [pz] at h;split at h
   · split at h
     · injection h with h _;subst h;exact Oy _ _
     · split at h
       · obtain ⟨_,i1,r1,h⟩:=Aq h
         injection h with h _
         subst h;exact LW (Oy _ _) (ih _ _ _ _ _ (by trivial) r1)
       · cases h
   · exact ih _ _ _ _ _ (by trivial) h
  | prim=>
   rw [pz] at h;split at h
   · injection h with h _;subst h;exact Oy _ _
   split at h
   · obtain ⟨_,i1,r1,h⟩:=Aq h
     injection h with h _
     subst h;have:=gA r1;exact Js (by simp) (by simp [zV]) (R8 this.1) (R8 this.2)
   split at h
   · rename_i hk
     injection h with h _
     subst h;exact Js (by simp) (by have:=hT.str i hk;simp only;omega) (by simp [zK]) (by simp [zK])
   split at h
   · obtain ⟨_,i1,r1,h⟩:=Aq h
     injection h with h _
     subst h;exact Oy _ _
   split at h
   · split at h
     · obtain ⟨_,i1,r1,h⟩:=Aq h
       obtain ⟨_,i2,r2,h⟩:=Aq h;injection h with h _
       subst h;exact ih _ _ _ _ _ (by trivial) r1
     · cases h
   · exact kv h
theorem J8:Be CC Aaz (Aaz.body.getD .skip)=true:=by kernel_rfl
theorem Jt:CC.P.funcs[49]?=some Aaz:=by kernel_rfl
theorem Dt {x:List PV} {b:List PBox} (h:x.length.ble Aaz.ntmps=true):Ad CC 49 x b=CD CC Aaz.results.toList (Cf CC (Aaz.body.getD .skip) ⟨x,b⟩):=Ah (fn:=Aaz) (c:=Aaz.body.getD .skip) rfl rfl Jt rfl J8 (Ab2 h)
theorem OA {id:Nat} {L:List Tk} {RL:PV} (hR:RL.pure=true) (hT:TokOK L) {i:Nat} (hi:i < L.length) (n:Nat) (o:Nat) (ho:o=0):XI 49 [] id L RL i o Bw (Ey L n i):=by
 have e:Ey L n i=(pz L n .expr o i).bind fun e j=>if Mz e=0 then .ok e j else .bad (atT L i) (Mz e):=by subst ho;rfl
 rw [e];have h1:=(oM (id:=id) (RL:=RL) hR hT n).1 i o hi (by omega);cases r1:pz L n .expr o i with
 | out=>exact AT
 | bad t e=>
  rw [r1] at h1;obtain ⟨i',o',h1⟩:=h1;refine AM ⟨i',o',Ax hR fun bx hid hc=>?_⟩;have t0:=Ab hid hc hR (AA (id:=id) (o:=o) hR hi);have t1:=Am hid hc hR h1;rw [Dt rfl];unfold Ap;rw [<- Al];rw [<- AI] at t0 t1;simp only [Aa,Ac,Aaz,Aav];simp only [S9,Af,seval,PY,PZ,AS,Aw,t0,t1,SX,hid];exact ⟨_,rfl⟩
 | ok a j=>
  rw [r1] at h1;dsimp only [Au];have rZ:=H0 a (xj hT _ _ _ _ _ _ (by trivial) r1);rw [An] at rZ;by_cases hz:Mz a=0
  · rw [if_pos hz]
    rw [hz] at rZ;refine Bi (A5 hR (fun n=>by rw [An];simp only [SX,PV.under]) fun bx hid hc=>?_);have t0:=Ab hid hc hR (AA (id:=id) (o:=o) hR hi);have t1:=Ab hid hc hR h1;rw [An] at t1 |-;rw [Dt rfl];unfold Ap;rw [<- Al];rw [<- AI] at t0 t1 rZ;simp only [Aa,Ac,Aaz,Aav];simp only [S9,Af,seval,PY,PZ,AS,Aw,t0,t1,rZ,SX,hid];exact ⟨_,rfl⟩
  · rw [if_neg hz]
    have hz':(Mz a != 0)=true:=by simp [bne_iff_ne,hz]
    have hj:=(Hj hT _ _ _ _ _ _ hi r1).2;have hf:=CF (id:=id) (i:=j) (o:=o) (L:=L) (RL:=RL) hR (tokAt L i).1 (tokAt L i).2.1 (tokAt L i).2.2 (Mz a);refine AM ⟨j,o,Ax hR fun bx hid hc=>?_⟩;have t0:=Ab hid hc hR (AA (id:=id) (o:=o) hR hi);have t1:=Ab hid hc hR h1;rw [An] at t1;have t2:=Am hid hc hR hf;rw [Dt rfl];unfold Ap atT;rw [<- Al];rw [<- AI] at t0 t1 rZ t2;simp only [Aa,Ac,Aaz,Aav];simp only [S9,Af,seval,PY,PZ,AS,Aw,t0,t1,rZ,hz',t2,SX,hid];exact ⟨_,rfl⟩
theorem WO:Be CC Aax (Aax.body.getD .skip)=true:=by kernel_rfl
theorem Uo:CC.P.funcs[85]?=some Aax:=by kernel_rfl
theorem YP:Be CC Abb (Abb.body.getD .skip)=true:=by kernel_rfl
theorem WQ:CC.P.funcs[23]?=some Abb:=by kernel_rfl
theorem Up:Be CC Ab5 (Ab5.body.getD .skip)=true:=by kernel_rfl
theorem R9:CC.P.funcs[62]?=some Ab5:=by kernel_rfl
def YQ (k n m:Int) (nm:List UInt8) (v:Vl) (key:Ky):PV:=.agg [.int .i64 k,.int .i64 n,.int .i64 m,.str nm,.int .i64 v.1,.int .i64 v.2.1,.str v.2.2,.int .i64 key.1,.str key.2.1,.str key.2.2,.sl []]
def bA (t:Tr) (k n m:Int) (nm:List UInt8) (v:Vl) (key:Ky):Bool:=match t with
 | .mk k' n' m' nm' v' key' kids=>(k' == k) && (n' == n) && (m' == m) && (nm' == nm) && We v' v && Fj key' key && (kids.length == 0)
theorem Qc (L:Code) (hL:L=Aa Aax [1,1,0,1,0]) (e:List PV) (bx:List PBox) (h1:getT e 58=.int .i64 0) (h2:getT e 59=.int .i64 0):∃ e' bx',Cf CC L ⟨e,bx⟩=some (.exit 0,⟨e',bx'⟩):=by
 rw [AX (Aa Aax [1,1,0,1,0,0]) hL];have hlen:True:=trivial;have hi:¬ ((0:Int) < 0):=by decide
 rw [<- Al];simp only [Aa,Ac,Aax,Aav];simp only [S8,Af,SG,seval,UT,SC,hlen,Gj,Cw,Aaw,h1,h2,hi];exact ⟨_,_,rfl⟩
theorem R' (k n m:Int) (nm:List UInt8) (vk vn:Int) (vs:List UInt8) (dv:Int) (cl at_:List UInt8) (xs:List PV) (k' n' m':Int) (nm':List UInt8) (vk' vn':Int) (vs':List UInt8) (dv':Int) (cl' at':List UInt8) (b1 b2 b3 b4 b5 b6 b7:Bool)
 (h1:(k != k')=b1) (h2:(n != n')=b2) (h3:(m != m')=b3) (h4:ED .neq nm nm'=some (.bool b4)) (h5:Mx CC 100 24 (.agg [.int .i64 vk,.int .i64 vn,.str vs]) (.agg [.int .i64 vk',.int .i64 vn',.str vs'])=some (!b5)) (h6:Mx CC 100 26 (.agg [.int .i64 dv,.str cl,.str at_]) (.agg [.int .i64 dv',.str cl',.str at'])=some (!b6)) (h7:((xs.length:Int) != ((0:Nat):Int))=b7) :
 ∃ bx,Ad CC 85 [.agg [.int .i64 k,.int .i64 n,.int .i64 m,.str nm,.int .i64 vk,.int .i64 vn,.str vs,.int .i64 dv,.str cl,.str at_,.sl xs],.agg [.int .i64 k',.int .i64 n',.int .i64 m',.str nm',.int .i64 vk',.int .i64 vn',.str vs',.int .i64 dv',.str cl',.str at',.sl []]] []=some (.ret (.bool (!(b1 || b2 || b3 || b4 || b5 || b6 || b7))),bx):=by
 have hlen:True:=trivial;have Ag:=Qc _ rfl;rw [Ah (fn:=Aax) (c:=Aax.body.getD .skip) rfl rfl Uo rfl WO (Ab2 rfl)];cases b1 with
 | true=>
  rw [<- Al];simp only [Aa,Ac,Aax,Aav];simp only [S8,Af,SG,seval,UT,SC,hlen,Gj,Cw,Aaw,h1];exact ⟨_,rfl⟩
 | false=>
  cases b2 with
  | true=>
   rw [<- Al];simp only [Aa,Ac,Aax,Aav];simp only [S8,Af,SG,seval,UT,SC,hlen,Gj,Cw,Aaw,h1,h2];exact ⟨_,rfl⟩
  | false=>
   cases b3 with
   | true=>
    rw [<- Al];simp only [Aa,Ac,Aax,Aav];simp only [S8,Af,SG,seval,UT,SC,hlen,Gj,Cw,Aaw,h1,h2,h3];exact ⟨_,rfl⟩
   | false=>
    cases b4 with
    | true=>
     rw [<- Al];simp only [Aa,Ac,Aax,Aav];simp only [S8,Af,SG,seval,UT,SC,hlen,Gj,Cw,Aaw,h1,h2,h3,h4];exact ⟨_,rfl⟩
    | false=>
     cases b5 with
     | true=>
      rw [<- Al];simp only [Aa,Ac,Aax,Aav];simp only [S8,Af,SG,seval,UT,SC,hlen,Gj,Cw,Aaw,h1,h2,h3,h4,h5];exact ⟨_,rfl⟩
     | false=>
      cases b6 with
      | true=>
       rw [<- Al];simp only [Aa,Ac,Aax,Aav];simp only [S8,Af,SG,seval,UT,SC,hlen,Gj,Cw,Aaw,h1,h2,h3,h4,h5,h6];exact ⟨_,rfl⟩
      | false=>
       have h7':((xs.length:Int) != 0)=b7:=h7;cases b7 with
       | true=>
        rw [<- Al];simp only [Aa,Ac,Aax,Aav];simp only [S8,Af,SG,seval,UT,SC,hlen,Gj,Cw,Aaw,h1,h2,h3,h4,h5,h6,h7,h7'];exact ⟨_,rfl⟩
       | false=>
        have qR:(xs.length:Int)=0:=by simpa using h7
        rw [<- Al];rw [<- Al] at Ag;simp only [Aa,Ac,Aax,Aav] at Ag |-;simp only [S8,Af,SG,seval,UT,SC,hlen,Gj,Cw,Aaw,h1,h2,h3,h4,h5,h6,h7,h7'];generalize hE:GM (Code.loop _) _=z
        have hz:∃ e' bx',z=some (.exit 0,⟨e',bx'⟩):=by
         rw [<- hE];refine Ag _ _ ?_ ?_
         · simp only [S7,Af,seval,qR]
         · simp only [S7,Af,seval]
        obtain ⟨e',bx',he⟩:=hz;subst he;simp only [S8,Af,seval];exact ⟨_,rfl⟩
def gB (t:Tr):Bool:=bA t 0 0 0 [] (0,0,[]) (0,[],[])
theorem kA:A' CC 29 []=some (.agg [.int .i64 0,.int .i64 0,.int .i64 0,.str [],.int .i64 0,.int .i64 0,.str [],.int .i64 0,.str [],.str [],.nils]):=by kernel_rfl
theorem Ju (t:Tr) (k n m:Int) (nm:List UInt8) (v:Vl) (key:Ky) (bx):Ai CC (Ad CC) 85 [Bw t,YQ k n m nm v key] bx=some (.ret (.bool (bA t k n m nm v key)),bx):=by
 obtain ⟨k',n',m',nm',v',key',kids⟩:=t;obtain ⟨vk,vn,vs⟩:=v;obtain ⟨dv,cl,at_⟩:=key;obtain ⟨vk',vn',vs'⟩:=v';obtain ⟨dv',cl',at'⟩:=key';have h4:ED .neq nm' nm=some (.bool (!(nm' == nm))):=rfl;have h5:Mx CC 100 24 (.agg [.int .i64 vk',.int .i64 vn',.str vs']) (.agg [.int .i64 vk,.int .i64 vn,.str vs])=some (!(!(We (vk',vn',vs') (vk,vn,vs)))):=by rw [oh,Aaw];rfl
 have h6:Mx CC 100 26 (.agg [.int .i64 dv',.str cl',.str at']) (.agg [.int .i64 dv,.str cl,.str at_])=some (!(!(Fj (dv',cl',at') (dv,cl,at_)))):=by rw [fP,Aaw];rfl
 have hs:=R' k' n' m' nm' vk' vn' vs' dv' cl' at' (A1 kids) k n m nm vk vn vs dv cl at_ _ _ _ _ _ _ _ rfl rfl rfl h4 h5 h6 rfl;obtain ⟨b,hs⟩:=hs
 have he:bA (.mk k' n' m' nm' (vk',vn',vs') (dv',cl',at') kids) k n m nm (vk,vn,vs) (dv,cl,at_)=!((k' != k) || (n' != n) || (m' != m) || (!(nm' == nm)) || (!(We (vk',vn',vs') (vk,vn,vs))) || (!(Fj (dv',cl',at') (dv,cl,at_))) || (((A1 kids).length:Int) != ((0:Nat):Int))):=by
  unfold bA;simp only
  have hl:(kids.length == 0)=(((A1 kids).length:Int) == ((0:Nat):Int)):=by
   rw [Cv,Bool.eq_iff_iff];simp only [beq_iff_eq];omega
  rw [hl];simp only [bne,Bool.not_or,Aaw]
 rw [he];have hp:=AW kids;refine Ao rfl ?_ (by unfold Bw YQ;exact hs) rfl;rw [AK,Bz];rfl
theorem LX (t:Tr) (bx):Ai CC (Ad CC) 62 [Bw t] bx=some (.ret (.bool (gB t)),bx):=by
 have UK:=Ju t 0 0 0 [] (0,0,[]) (0,[],[]);unfold gB;generalize bA t 0 0 0 [] (0,0,[]) (0,[],[])=b at *
 have hc:∃ q,Ad CC 62 [Bw t] []=some (.ret (.bool b),q):=by
  rw [Ah (fn:=Ab5) (c:=Ab5.body.getD .skip) rfl rfl R9 rfl Up (Ab2 rfl)];obtain ⟨xk,xn,xm,xnm,xv,xkey,xkids⟩:=t;unfold Bw YQ at UK;unfold Bw;simp only at UK;generalize A1 xkids=xs at *;have hlen:True:=trivial;rw [<- Al];rw [<- AI] at UK;simp only [Aa,Ac,Ab5,Aav];simp only [S8,Af,SG,seval,UT,SC,hlen,Gj,Cw,Aaw,UK,kA];exact ⟨_,rfl⟩
 obtain ⟨q,hq⟩:=hc;exact Ao rfl (by simp only [AK,Bz,Bk,Bool.and_self]) hq rfl
theorem uEV:Aau.underlying 56=some (.struct ((match Aau.underlying 56 with | some (.struct f)=>f | _=>#[]))):=by kernel_rfl
theorem fEV:((match Aau.underlying 56 with | some (.struct f)=>f | _=>#[]):Array Field).toList.map (fun f=>(f.type,f.offset))=[(3,0),(9,1),(9,2)]:=by kernel_rfl
theorem cEV:Aau.cellsOf 56=3:=by kernel_rfl
theorem xr:JT Aau 56=true:=by unfold JT;rw [uEV]
theorem Aa1:Aau.underlying 58=some (.struct ((match Aau.underlying 58 with | some (.struct f)=>f | _=>#[]))):=by kernel_rfl
theorem Aa2:((match Aau.underlying 58 with | some (.struct f)=>f | _=>#[]):Array Field).toList.map (fun f=>(f.type,f.offset))=[(3,0),(26,1),(56,4),(9,7),(3,8),(3,9)]:=by kernel_rfl
theorem Aa3:Aau.cellsOf 58=10:=by kernel_rfl
theorem uSP:Aau.underlying 60=some (.struct ((match Aau.underlying 60 with | some (.struct f)=>f | _=>#[]))):=by kernel_rfl
theorem fSP:((match Aau.underlying 60 with | some (.struct f)=>f | _=>#[]):Array Field).toList.map (fun f=>(f.type,f.offset))=[(3,0),(26,1),(9,4),(29,5)]:=by kernel_rfl
theorem cSP:Aau.cellsOf 60=16:=by kernel_rfl
theorem uRL:Aau.underlying 32=some (.struct ((match Aau.underlying 32 with | some (.struct f)=>f | _=>#[]))):=by kernel_rfl
theorem fRL:((match Aau.underlying 32 with | some (.struct f)=>f | _=>#[]):Array Field).toList.map (fun f=>(f.type,f.offset))=[(9,0),(3,1),(22,2),(29,3),(30,14)]:=by kernel_rfl
theorem cRL:Aau.cellsOf 32=15:=by kernel_rfl
theorem Aa4:Aau.underlying 22=some (.slice 58):=by kernel_rfl
theorem Aa5:Aau.underlying 30=some (.slice 60):=by kernel_rfl
theorem Aa6:Aau.cellsOf 22=1:=by kernel_rfl
theorem Aa7:Aau.cellsOf 30=1:=by kernel_rfl
theorem bB {p:PV} (h:Km Aau 56 p):∃ k:Ky,p=wP k/\fL k:=by
 obtain ⟨n,cs,rfl,hlen,hf⟩:=EW uEV fEV h;rw [cEV] at hlen
 match cs,hlen with
 | [a,b,c],_=>
  have f0:=hf (3,0) (by simp);have f1:=hf (9,1) (by simp);have f2:=hf (9,2) (by simp);simp only [fM,fO] at f0 f1 f2;obtain ⟨k,e0,h0⟩:=DV (P:=Aau) Aay f0;obtain ⟨m,e1,h1⟩:=Fi (P:=Aau) Ab0 f1;obtain ⟨s,e2,h2⟩:=Fi (P:=Aau) Ab0 f2;injection e0 with e0
  injection e1 with e1
  injection e2 with e2
  subst e0 e1 e2;exact ⟨(k,m,s),rfl,h0,h1,h2⟩
structure Tg where
 k:Int
 key:Ky
 ev:Ky
 nm:List UInt8
 n:Int
 m:Int
def BE (t:Tg):PV:=.agg [.int .i64 t.k,.int .i64 t.key.1,.str t.key.2.1,.str t.key.2.2,.int .i64 t.ev.1,.str t.ev.2.1,.str t.ev.2.2,.str t.nm,.int .i64 t.n,.int .i64 t.m]
def sU (t:Tg):Prop:=GY t.k/\fL t.key/\fL t.ev/\t.nm.length<=maxLen/\GY t.n/\GY t.m
theorem oN {p:PV} (h:Km Aau 58 p):∃ t:Tg,p=BE t/\sU t:=by
 obtain ⟨n,cs,rfl,hlen,hf⟩:=EW Aa1 Aa2 h;rw [Aa3] at hlen
 match cs,hlen with
 | [a0,a1,a2,a3,a4,a5,a6,a7,a8,a9],_=>
  have f0:=hf (3,0) (by simp);have f1:=hf (26,1) (by simp);have f2:=hf (56,4) (by simp);have f3:=hf (9,7) (by simp);have f4:=hf (3,8) (by simp);have f5:=hf (3,9) (by simp);simp only [fM,fO,sx,cEV] at f0 f1 f2 f3 f4 f5;have f1':Km Aau 26 (.agg [a1,a2,a3]):=⟨n,[a1,a2,a3],by unfold X4;rw [if_pos jC],fun _=>by rw [sx];rfl,f1⟩;have f2':Km Aau 56 (.agg [a4,a5,a6]):=⟨n,[a4,a5,a6],by unfold X4;rw [if_pos xr],fun _=>by rw [cEV];rfl,f2⟩;obtain ⟨k,e0,h0⟩:=DV (P:=Aau) Aay f0;obtain ⟨ky,e1,h1⟩:=Rq f1';obtain ⟨ek,e2,h2⟩:=bB f2';obtain ⟨s,e3,h3⟩:=Fi (P:=Aau) Ab0 f3;obtain ⟨x,e4,h4⟩:=DV (P:=Aau) Aay f4;obtain ⟨y,e5,h5⟩:=DV (P:=Aau) Aay f5;unfold wP at e1 e2;simp only [Ab4,Ab7,Ab3,Ab6,List.cons.injEq,and_true,PV.agg.injEq] at e0 e1 e2 e3 e4 e5;obtain ⟨e11,e12,e13⟩:=e1;obtain ⟨e21,e22,e23⟩:=e2;subst e0 e11 e12 e13 e21 e22 e23 e3 e4 e5;exact ⟨⟨k,ky,ek,s,x,y⟩,rfl,h0,h1,h2,h3,h4,h5⟩
def Vx (t:Tr):List PV:=(Bw t).cells
theorem WR (t:Tr):Bw t=.agg (Vx t):=by
 obtain ⟨k,n,m,nm,v,key,kids⟩:=t;unfold Vx Bw;rfl
structure Sp where
 k:Int
 key:Ky
 nm:List UInt8
 ex:Tr
def Ec (s:Sp):PV:=.agg ([.int .i64 s.k,.int .i64 s.key.1,.str s.key.2.1,.str s.key.2.2,.str s.nm]++Vx s.ex)
def sV (s:Sp):Prop:=GY s.k/\fL s.key/\s.nm.length<=maxLen/\Lu s.ex
theorem oO {p:PV} (h:Km Aau 60 p):∃ s:Sp,p=Ec s/\sV s:=by
 obtain ⟨n,cs,rfl,hlen,hf⟩:=EW uSP fSP h;rw [cSP] at hlen
 match cs,hlen with
 | a0 :: a1 :: a2 :: a3 :: a4 :: r,hlen=>
  have hr:r.length=11:=by simpa using hlen
  have f0:=hf (3,0) (by simp);have f1:=hf (26,1) (by simp);have f2:=hf (9,4) (by simp);have f3:=hf (29,5) (by simp);simp only [fM,fO,sx,zM] at f0 f1 f2 f3;have f1':Km Aau 26 (.agg [a1,a2,a3]):=⟨n,[a1,a2,a3],by unfold X4;rw [if_pos jC],fun _=>by rw [sx];rfl,f1⟩
  have hrt:((a0 :: a1 :: a2 :: a3 :: a4 :: r).drop 5).take 11=r:=by
   show r.take 11=r;exact Ab8 (by omega)
  rw [hrt] at f3;obtain ⟨k,e0,h0⟩:=DV (P:=Aau) Aay f0;obtain ⟨ky,e1,h1⟩:=Rq f1';obtain ⟨s,e2,h2⟩:=Fi (P:=Aau) Ab0 f2;obtain ⟨t,e3,h3⟩:=dc (n+1) n (by omega) r hr f3;unfold wP at e1;simp only [Ab4,Ab7,Ab3,Ab6,List.cons.injEq,and_true,PV.agg.injEq] at e0 e1 e2;obtain ⟨e11,e12,e13⟩:=e1;rw [WR] at e3;injection e3 with e3
  subst e0 e11 e12 e13 e2 e3;exact ⟨⟨k,ky,s,t⟩,rfl,h0,h1,h2,h3⟩
structure Rl where
 nm:List UInt8
 pr:Int
 on:List Tg
 ife:Tr
 dos:List Sp
def Dw (r:Rl):PV:=.agg ([.str r.nm,.int .i64 r.pr,.sl (r.on.map BE)]++(Vx r.ife++[.sl (r.dos.map Ec)]))
def Sa (r:Rl):Prop:=r.nm.length<=maxLen/\GY r.pr/\r.on.length<=maxLen/\(∀ t ∈ r.on,sU t)/\Lu r.ife/\r.dos.length<=maxLen/\∀ s ∈ r.dos,sV s
theorem oP {p:PV} (h:Km Aau 32 p):∃ r:Rl,p=Dw r/\Sa r:=by
 obtain ⟨n,cs,rfl,hlen,hf⟩:=EW uRL fRL h;rw [cRL] at hlen
 match cs,hlen with
 | a0 :: a1 :: a2 :: r,hlen=>
  have hr:r.length=12:=by simpa using hlen
  have f0:=hf (9,0) (by simp);have f1:=hf (3,1) (by simp);have f2:=hf (22,2) (by simp);have f3:=hf (29,3) (by simp);have f4:=hf (30,14) (by simp);simp only [fM,fO,Aa6,Aa7,zM] at f0 f1 f2 f3 f4;have hrt:((a0 :: a1 :: a2 :: r).drop 3).take 11=r.take 11:=rfl
  have hrd:((a0 :: a1 :: a2 :: r).drop 14).take 1=r.drop 11:=by
   show (r.drop 11).take 1=r.drop 11;exact Ab8 (by rw [List.length_drop];omega)
  rw [hrt] at f3;rw [hrd] at f4;obtain ⟨s,e0,h0⟩:=Fi (P:=Aau) Ab0 f0;obtain ⟨k,e1,h1⟩:=DV (P:=Aau) Aay f1;obtain ⟨xs,e2,h2,iE⟩:=Ri (P:=Aau) Aa4 f2;obtain ⟨on,rfl,Bv⟩:=ML (f:=BE) (Q:=sU) xs (fun x hx=>oN (iE x hx));obtain ⟨t,e3,h3⟩:=dc (n+1) n (by omega) (r.take 11) (by rw [List.length_take];omega) f3;obtain ⟨ys,e4,h4,h4'⟩:=Ri (P:=Aau) Aa5 f4;obtain ⟨dos,rfl,QV⟩:=ML (f:=Ec) (Q:=sV) ys (fun x hx=>oO (h4' x hx));simp only [Ab4,Ab7,Ab3,Ab6,List.cons.injEq,and_true] at e0 e1 e2;rw [WR] at e3;injection e3 with e3
  have he:r=Vx t++[.sl (dos.map Ec)]:=by rw [<- e3,<- e4,List.take_append_drop]
  subst e0 e1 e2 he;exact ⟨⟨s,k,on,t,dos⟩,rfl,h0,h1,by simpa using h2,Bv,h3,by simpa using h4,QV⟩
def Sc (s:Sp):List PV:=[.int .i64 s.k,.int .i64 s.key.1,.str s.key.2.1,.str s.key.2.2,.str s.nm]++Bp s.ex
def D0 (s:Sp):PV:=.agg (Sc s)
theorem sW (s:Sp):D0 s=Ec s:=rfl
def BQ (L:List Tk) (i:Nat):PR Tg:=
 if Bs L 1 [99,104,97,110,103,101] i then (Ea L (i+1)).bind fun k i=>.ok ⟨1,k,zK,[],0,0⟩ i else
 if Bs L 1 [101,118,101,110,116] i then (Ea L (i+1)).bind fun k i=>.ok ⟨2,zK,k,[],0,0⟩ i else
 if Bs L 1 [116,105,109,101] i then (Fo L (i+1)).bind fun n i=>if Bs L 1 [100,97,121,115] i then (KC L (i+1)).bind fun m i=>.ok ⟨3,zK,zK,[],n,m⟩ i else .ok ⟨3,zK,zK,[],n,127⟩ i else
 if Bs L 1 [109,111,100,101] i then (if (tokAt L (i+1)).1=1 then (DF L (i+1)).bind fun s i=>.ok ⟨4,zK,zK,s,0,0⟩ i else .ok ⟨4,zK,zK,[],0,0⟩ (i+1)) else
 if Bs L 1 [115,116,97,114,116] i then .ok ⟨5,zK,zK,[],0,0⟩ (i+1) else
 (Bt L 1 [104,111,108,100] i).bind fun _ i=>(Hu L 0 1099511627776 i).bind fun n i=>.ok ⟨6,zK,zK,[],n,0⟩ i
def Ed (L:List Tk) (n i:Nat):PR Sp:=
 if Bs L 1 [115,101,116] i then (Ea L (i+1)).bind fun k i=>(Bt L 4 [61] i).bind fun _ i=>(Ey L n i).bind fun e i=>.ok ⟨1,k,[],e⟩ i else
 if Bs L 1 [99,97,108,108] i then (Ea L (i+1)).bind fun k i=>if Bs L 4 [40] i then (Ey L n (i+1)).bind fun e i=>(Bt L 4 [41] i).bind fun _ i=>.ok ⟨2,(k.1,k.2.1,[]),k.2.2,e⟩ i else .ok ⟨2,(k.1,k.2.1,[]),k.2.2,zT⟩ i else
 if Bs L 1 [115,99,101,110,101] i then (DF L (i+1)).bind fun s i=>.ok ⟨3,zK,s,zT⟩ i else
 if Bs L 1 [109,111,100,101] i then (DF L (i+1)).bind fun s i=>.ok ⟨4,zK,s,zT⟩ i else
 (Bt L 1 [110,111,116,105,102,121] i).bind fun _ i=>(P7 L 3 i).bind fun t i=>.ok ⟨5,zK,t.2.1,zT⟩ i
def BI {α:Type} (L:List Tk) (w:List UInt8) (part:Nat->PR α):Nat->List α->Nat->PR (List α)
 | 0,_,_=>.out
 | n+1,acc,i=>if acc.length=0\/Bs L 1 w i=true then (if acc.length=8 then .bad (atT L i) 3 else (Bt L 1 w i).bind fun _ i=>(part i).bind fun a i=>(Bt L 4 [59] i).bind fun _ i=>BI L w part n (acc++[a]) i) else .ok acc i
def wT:Tr:=.mk 1 0 0 [] (1,1,[]) zK []
def LY (L:List Tk) (n:Nat) (rs:List Rl) (i:Nat):PR Rl:=
 if Bs L 1 [114,117,108,101] i=true/\rs.length=40 then .bad (atT L i) 3 else
 (Bt L 1 [114,117,108,101] i).bind fun _ i0=>(DF L i0).bind fun nm i=>
 if rs.any (fun r=>r.nm == nm) then .bad (atT L i0) 9 else
 (if Bs L 1 [112,114,105,111,114,105,116,121] i then Hu L 0 100 (i+1) else .ok 0 i).bind fun pr i=>(Bt L 4 [123] i).bind fun _ i=>
 (BI L [111,110] (BQ L) 10 [] i).bind fun on i=>
 (if Bs L 1 [105,102] i then (Ey L n (i+1)).bind fun e i=>(Bt L 4 [59] i).bind fun _ i=>.ok e i else .ok wT i).bind fun e i=>
 (BI L [100,111] (Ed L n) 10 [] i).bind fun dos i=>(Bt L 4 [125] i).bind fun _ i=>.ok ⟨nm,pr,on,e,dos⟩ i
end Go.HH
