/-
  What the law needs, packed: PV PW E8 E9 E10 RA.
-/
import Derived.Test.YthjcaihemgllaaaGreatDoorJ40
open Option renaming getD->Aa0
open Bool renaming not_not->Aa1
open Go.Proofs.Tryz renaming f85->Aa2,f49->Aa3,f99->Aa4,f62->Aa6,f23->Aa9
open Nat renaming le_of_ble_eq_true->Aa5
open List renaming length_cons->Aa7,length_nil->Aa8
namespace Go.HH
open Go Go.Proofs
set_option maxRecDepth 100000
set_option maxHeartbeats 4000000
set_option linter.unusedSimpArgs false
set_option linter.unusedVariables false
theorem jM {id:Nat} {L:List Tk} {RL:PV} (hR:RL.pure=true) (hT:TokOK L) (n:Nat) (hx:FK 99 .expr id L RL n) (hn:∀ m,m < n->FK 139 .not id L RL m):FK 99 .expr id L RL (n+1):=by
 intro i o hi ho;rw [pz];cases f0:Br L 1 [105,102] i with
 | false=>
  simp only [Bool.false_eq_true,if_false];obtain ⟨I1,O1,Mw⟩:=Wu (id:=id) (RL:=RL) hR hT n hn;have h1:=Wt (id:=id) (RL:=RL) hR hT true n I1 O1 i o hi ho;cases r1:pz L n (.chain true) o i with
  | out=>exact AT
  | bad t c=>
   rw [r1] at h1;obtain ⟨i',o',h1⟩:=h1;refine AK ⟨i',o',Aw hR fun bx hid hc=>?_⟩;have hd:∀ k,id < bx.length+k:=fun k=>by omega
   have t0:=Aa hid hc hR (AA (id:=id) (o:=o) hR hi);have q0:=Aa hid hc hR (Ae (id:=id) (o:=o) hR hi hT _ f0);have pX:(BX bx id (Ap L i o RL) [.cells 86 [.bp id 0],.cells 29 [.int .i64 0,.int .i64 0,.int .i64 0,.str [],.int .i64 0,.int .i64 0,.str [],.int .i64 0,.str [],.str [],.nils],.cells 80 [.int .i64 ((tokAt L i).1:Int),.str (tokAt L i).2.1,.int .i64 ((tokAt L i).2.2:Int)]])[bx.length]?=some (.cells 86 [.bp id 0]):=by rw [Qv];rfl
   have uM:M4 L i o RL id (BX bx id (Ap L i o RL) [.cells 86 [.bp id 0],.cells 29 [.int .i64 0,.int .i64 0,.int .i64 0,.str [],.int .i64 0,.int .i64 0,.str [],.int .i64 0,.str [],.str [],.nils],.cells 80 [.int .i64 ((tokAt L i).1:Int),.str (tokAt L i).2.1,.int .i64 ((tokAt L i).2.2:Int)]]):=HI (i0:=i) (o0:=o) hid hc hR (by simp only [SU,SX,Aa7,Aa8];simpa using (by omega:id < bx.length+3));have t1:=h1 138 [] [.bp bx.length 0] [.bp bx.length 0] rfl rfl _ (Mw _ bx.length pX (by omega)) uM;rw [HY hid] at t1;unfold aQ MZ at t1;simp only [if_true] at t1;rw [Bg rfl];unfold Ap at *;rw [<- An];rw [<- AL] at t0 q0 t1;simp only [Ab,Ac,Aa4,Aa0];simp only [S9,Ag,seval,PY,PZ,AS,Az,t0,q0,t1,SX,hd,hid];exact ⟨_,rfl⟩
  | ok a j=>
   rw [r1] at h1;refine Bh (A4 hR (fun n=>by rw [Ao];simp only [SX,PV.under]) fun bx hid hc=>?_);have hd:∀ k,id < bx.length+k:=fun k=>by omega
   have t0:=Aa hid hc hR (AA (id:=id) (o:=o) hR hi);have q0:=Aa hid hc hR (Ae (id:=id) (o:=o) hR hi hT _ f0);have pX:(BX bx id (Ap L i o RL) [.cells 86 [.bp id 0],.cells 29 [.int .i64 0,.int .i64 0,.int .i64 0,.str [],.int .i64 0,.int .i64 0,.str [],.int .i64 0,.str [],.str [],.nils],.cells 80 [.int .i64 ((tokAt L i).1:Int),.str (tokAt L i).2.1,.int .i64 ((tokAt L i).2.2:Int)]])[bx.length]?=some (.cells 86 [.bp id 0]):=by rw [Qv];rfl
   have uM:M4 L i o RL id (BX bx id (Ap L i o RL) [.cells 86 [.bp id 0],.cells 29 [.int .i64 0,.int .i64 0,.int .i64 0,.str [],.int .i64 0,.int .i64 0,.str [],.int .i64 0,.str [],.str [],.nils],.cells 80 [.int .i64 ((tokAt L i).1:Int),.str (tokAt L i).2.1,.int .i64 ((tokAt L i).2.2:Int)]]):=HI (i0:=i) (o0:=o) hid hc hR (by simp only [SU,SX,Aa7,Aa8];simpa using (by omega:id < bx.length+3));have t1:=h1 138 [] [.bp bx.length 0] [.bp bx.length 0] rfl rfl _ (Mw _ bx.length pX (by omega)) uM;rw [HY hid] at t1;rw [Ao] at t1 |-;unfold aQ MZ at t1;simp only [if_true] at t1;rw [Bg rfl];unfold Ap at *;rw [<- An];rw [<- AL] at t0 q0 t1;simp only [Ab,Ac,Aa4,Aa0];simp only [S9,Ag,seval,PY,PZ,AS,Az,t0,q0,t1,SX,hd,hid];exact ⟨_,rfl⟩
 | true=>
  simp only [if_true];have BF:=AM hT hi f0 (by decide);by_cases Bz:o < 100
  · rw [if_pos Bz]
    have uI:IntKind.wrap .i64 (((o+1:Nat):Int) - 1)=((o:Nat):Int):=by rw [wrap_i64 ⟨by omega,by omega⟩];omega
    have h1:=hx (i+1) (o+1) BF (by omega);cases r1:pz L n .expr (o+1) (i+1) with
    | out=>exact AT
    | bad t e=>
     rw [r1] at h1;obtain ⟨i',o',h1⟩:=h1;refine AK ⟨i',o',Aw hR fun bx hid hc=>?_⟩;have hd:∀ k,id < bx.length+k:=fun k=>by omega
     have t0:=Aa hid hc hR (AA (id:=id) (o:=o) hR hi);have q0:=Aa hid hc hR (As (id:=id) (o:=o) hR hi hT _ f0);have te:=Aa hid hc hR (CY (id:=id) (L:=L) (i:=i+1) hR Bz (tokAt L i).1 (tokAt L i).2.1 (tokAt L i).2.2);have t1:=Am hid hc hR h1;rw [Bg rfl];unfold Ap;rw [<- An];rw [<- AL] at t0 q0 te t1;simp only [Ab,Ac,Aa4,Aa0];simp only [S9,Ag,seval,PY,PZ,AS,Az,t0,q0,te,t1,SX,hd,hid];exact ⟨_,rfl⟩
    | ok a1 i1=>
     rw [r1] at h1;dsimp only [Au];have j1:=He hT _ _ _ _ _ _ BF r1;have BF:=j1.2;have h2:=Cb (id:=id) (o:=o+1) (i:=i1) hR BF hT 1 1 rfl [116,104,101,110];cases r2:Bs L 1 [116,104,101,110] i1 with
     | out=>exact AT
     | bad t e=>
      rw [r2] at h2;obtain ⟨i',o',h2⟩:=h2;refine AK ⟨i',o',Aw hR fun bx hid hc=>?_⟩;have hd:∀ k,id < bx.length+k:=fun k=>by omega
      have t0:=Aa hid hc hR (AA (id:=id) (o:=o) hR hi);have q0:=Aa hid hc hR (As (id:=id) (o:=o) hR hi hT _ f0);have te:=Aa hid hc hR (CY (id:=id) (L:=L) (i:=i+1) hR Bz (tokAt L i).1 (tokAt L i).2.1 (tokAt L i).2.2);have t1:=Aa hid hc hR h1;rw [Ao] at t1;have t2:=Am hid hc hR h2;rw [Bg rfl];unfold Ap;rw [<- An];rw [<- AL] at t0 q0 te t1 t2;simp only [Ab,Ac,Aa4,Aa0];simp only [S9,Ag,seval,PY,PZ,AS,Az,t0,q0,te,t1,t2,SX,hd,hid];exact ⟨_,rfl⟩
     | ok a2 i2=>
      rw [r2] at h2;dsimp only [Au];have j2:=AW hT BF (by decide) r2;have Gu:=j2.2;have h3:=hx i2 (o+1) Gu (by omega);cases r3:pz L n .expr (o+1) i2 with
      | out=>exact AT
      | bad t e=>
       rw [r3] at h3;obtain ⟨i',o',h3⟩:=h3;refine AK ⟨i',o',Aw hR fun bx hid hc=>?_⟩;have hd:∀ k,id < bx.length+k:=fun k=>by omega
       have t0:=Aa hid hc hR (AA (id:=id) (o:=o) hR hi);have q0:=Aa hid hc hR (As (id:=id) (o:=o) hR hi hT _ f0);have te:=Aa hid hc hR (CY (id:=id) (L:=L) (i:=i+1) hR Bz (tokAt L i).1 (tokAt L i).2.1 (tokAt L i).2.2);have t1:=Aa hid hc hR h1;rw [Ao] at t1;have t2:=Aa hid hc hR h2;have t3:=Am hid hc hR h3;rw [Bg rfl];unfold Ap;rw [<- An];rw [<- AL] at t0 q0 te t1 t2 t3;simp only [Ab,Ac,Aa4,Aa0];simp only [S9,Ag,seval,PY,PZ,AS,Az,t0,q0,te,t1,t2,t3,SX,hd,hid];exact ⟨_,rfl⟩
      | ok a3 i3=>
       rw [r3] at h3;dsimp only [Au];have j3:=He hT _ _ _ _ _ _ Gu r3;have Uy:=j3.2;have h4:=Cb (id:=id) (o:=o+1) (i:=i3) hR Uy hT 1 1 rfl [101,108,115,101];cases r4:Bs L 1 [101,108,115,101] i3 with
       | out=>exact AT
       | bad t e=>
        rw [r4] at h4;obtain ⟨i',o',h4⟩:=h4;refine AK ⟨i',o',Aw hR fun bx hid hc=>?_⟩;have hd:∀ k,id < bx.length+k:=fun k=>by omega
        have t0:=Aa hid hc hR (AA (id:=id) (o:=o) hR hi);have q0:=Aa hid hc hR (As (id:=id) (o:=o) hR hi hT _ f0);have te:=Aa hid hc hR (CY (id:=id) (L:=L) (i:=i+1) hR Bz (tokAt L i).1 (tokAt L i).2.1 (tokAt L i).2.2);have t1:=Aa hid hc hR h1;rw [Ao] at t1;have t2:=Aa hid hc hR h2;have t3:=Aa hid hc hR h3;rw [Ao] at t3;have t4:=Am hid hc hR h4;rw [Bg rfl];unfold Ap;rw [<- An];rw [<- AL] at t0 q0 te t1 t2 t3 t4;simp only [Ab,Ac,Aa4,Aa0];simp only [S9,Ag,seval,PY,PZ,AS,Az,t0,q0,te,t1,t2,t3,t4,SX,hd,hid];exact ⟨_,rfl⟩
       | ok a4 i4=>
        rw [r4] at h4;dsimp only [Au];have j4:=AW hT Uy (by decide) r4;have hY:=j4.2;have h5:=hx i4 (o+1) hY (by omega);cases r5:pz L n .expr (o+1) i4 with
        | out=>exact AT
        | bad t e=>
         rw [r5] at h5;obtain ⟨i',o',h5⟩:=h5;refine AK ⟨i',o',Aw hR fun bx hid hc=>?_⟩;have hd:∀ k,id < bx.length+k:=fun k=>by omega
         have t0:=Aa hid hc hR (AA (id:=id) (o:=o) hR hi);have q0:=Aa hid hc hR (As (id:=id) (o:=o) hR hi hT _ f0);have te:=Aa hid hc hR (CY (id:=id) (L:=L) (i:=i+1) hR Bz (tokAt L i).1 (tokAt L i).2.1 (tokAt L i).2.2);have t1:=Aa hid hc hR h1;rw [Ao] at t1;have t2:=Aa hid hc hR h2;have t3:=Aa hid hc hR h3;rw [Ao] at t3;have t4:=Aa hid hc hR h4;have t5:=Am hid hc hR h5;rw [Bg rfl];unfold Ap;rw [<- An];rw [<- AL] at t0 q0 te t1 t2 t3 t4 t5;simp only [Ab,Ac,Aa4,Aa0];simp only [S9,Ag,seval,PY,PZ,AS,Az,t0,q0,te,t1,t2,t3,t4,t5,SX,hd,hid];exact ⟨_,rfl⟩
        | ok a5 i5=>
         rw [r5] at h5;dsimp only [Au];have j5:=He hT _ _ _ _ _ _ hY r5;have hi5:=j5.2;have hb:=zi a1 a3 a5;have uv:=zj 14 a1 a3 a5;refine Bh (A4 hR (fun n=>by rw [Ao];simp only [SX,PV.under]) fun bx hid hc=>?_);have hd:∀ k,id < bx.length+k:=fun k=>by omega
         have t0:=Aa hid hc hR (AA (id:=id) (o:=o) hR hi);have q0:=Aa hid hc hR (As (id:=id) (o:=o) hR hi hT _ f0);have te:=Aa hid hc hR (CY (id:=id) (L:=L) (i:=i+1) hR Bz (tokAt L i).1 (tokAt L i).2.1 (tokAt L i).2.2);have t1:=Aa hid hc hR h1;rw [Ao] at t1;have t2:=Aa hid hc hR h2;have t3:=Aa hid hc hR h3;rw [Ao] at t3;have t4:=Aa hid hc hR h4;have t5:=Aa hid hc hR h5;rw [Ao] at t5;rw [Ao];rw [Bg rfl];unfold Ap;rw [<- An];rw [<- AL] at t0 q0 te t1 t2 t3 t4 t5 uv;simp only [Ab,Ac,Aa4,Aa0];simp only [S9,Ag,seval,PY,PZ,AS,Az,t0,q0,te,t1,t2,t3,t4,t5,hb,uv,uI,SX,hd,hid];exact ⟨_,rfl⟩
  · rw [if_neg Bz]
    have uJ:o=100:=by omega
    refine AK ⟨i+1,o+1,Aw hR fun bx hid hc=>?_⟩;have hd:∀ k,id < bx.length+k:=fun k=>by omega
    have t0:=Aa hid hc hR (AA (id:=id) (o:=o) hR hi);have q0:=Aa hid hc hR (As (id:=id) (o:=o) hR hi hT _ f0);have te:=Am hid hc hR (Jd (id:=id) (L:=L) (i:=i+1) hR uJ (tokAt L i).1 (tokAt L i).2.1 (tokAt L i).2.2);rw [Bg rfl];unfold Ap atT;rw [<- An];rw [<- AL] at t0 q0 te;simp only [Ab,Ac,Aa4,Aa0];simp only [S9,Ag,seval,PY,PZ,AS,Az,t0,q0,te,SX,hd,hid];exact ⟨_,rfl⟩
theorem oc {id:Nat} {L:List Tk} {RL:PV} (hR:RL.pure=true) (hT:TokOK L):∀ n,FK 99 .expr id L RL n/\FK 139 .not id L RL n/\FK 162 .cmp id L RL n/\FK 171 .sum id L RL n/\FK 178 .prod id L RL n/\FK 184 .un id L RL n/\FK 187 .prim id L RL n:=by
 intro n
 induction n using Nat.strongRecOn with
 | _ n ih=>
  cases n with
  | zero=>exact ⟨fun _ _ _ _=>AT,fun _ _ _ _=>AT,fun _ _ _ _=>AT,fun _ _ _ _=>AT,fun _ _ _ _=>AT,fun _ _ _ _=>AT,fun _ _ _ _=>AT⟩
  | succ n=>
   obtain ⟨a1,a2,a3,a4,a5,a6,a7⟩:=ih n (by omega);exact ⟨jM hR hT n a1 (fun m hm=>(ih m (by omega)).2.1),n8 hR hT n a3 a2,n5 hR hT n a4,n4 hR hT n (fun k hk=>(ih k (by omega)).2.2.2.2.1),jG hR hT n (fun k hk=>(ih k (by omega)).2.2.2.2.2.1),rW hR hT n a7 a6,jJ hR hT n a1⟩
theorem Wv {k:Int} {l:List Tr} (h:C5 l) (hl:l.length<=12):EJ (Bd k l):=by
 unfold Bd EJ zV zK;exact ⟨⟨by simp,by simp,by simp,by simp,hl⟩,h⟩
theorem Mc (k n:Int):EJ (El k n):=by
 unfold El EJ zK C5;exact ⟨⟨by simp,by simp,by simp,by simp,by simp⟩,trivial⟩
theorem cY {k:Int} {a:Tr} (h:EJ a):EJ (Bd k [a]):=Wv (by unfold C5 C5;exact ⟨h,trivial⟩) (by simp)
theorem LO {k:Int} {a b:Tr} (h:EJ a) (h2:EJ b):EJ (Bd k [a,b]):=Wv (by unfold C5 C5 C5;exact ⟨h,h2,trivial⟩) (by simp)
theorem wy {k:Int} {a b c:Tr} (h:EJ a) (h2:EJ b) (h3:EJ c):EJ (Bd k [a,b,c]):=Wv (by unfold C5 C5 C5 C5;exact ⟨h,h2,h3,trivial⟩) (by simp)
theorem rZ {l:List Tr} {a:Tr} (h:C5 l) (h2:EJ a):C5 (l++[a]):=by
 induction l with
 | nil=>unfold C5 C5;exact ⟨h2,trivial⟩
 | cons x r ih=>unfold C5 at h;show C5 (x :: (r++[a]));unfold C5;exact ⟨h.1,ih h.2⟩
theorem Cy {s:List UInt8} (h:BQ s=true):s.length<=100:=by
 unfold BQ at h;simp only [Bool.and_eq_true,decide_eq_true_eq] at h;omega
theorem F8 {L:List Tk} {i:Nat} {a:List UInt8} {j:Nat} (h:DG L i=.ok a j):BQ a=true:=by
 unfold DG at h;split at h
 · split at h
   · rename_i hv
     injection h with h _
     subst h;exact hv
   · cases h
 · cases h
theorem sa (k:Nat) {a b:Tr} (h:EJ a) (h2:EJ b):EJ (PT k a b):=by
 unfold PT;split
 · exact LO h h2
 · exact cY (LO h h2)
 · exact LO h h2
 · exact cY (LO h h2)
 · exact LO h2 h
 · exact cY (LO h2 h)
theorem wz (b:Bool) {l:List Tr} (h:C5 l) (hl:l.length<=12):EJ (js b l):=by
 unfold js;split
 · unfold C5 at h;exact h.1
 · exact Wv h hl
theorem Jj {k n m:Int} {s:List UInt8} {v:Vl} {y:Ky} (h1:s.length<=100) (h2:v.2.2.length<=100) (h3:y.2.1.length<=100) (h4:y.2.2.length<=100):EJ (.mk k n m s v y []):=by
 unfold EJ C5;exact ⟨⟨h1,h2,h3,h4,by simp⟩,trivial⟩
theorem jN {L:List Tk} {i:Nat} {a:Tr} {j:Nat} (h:Fp L i=.ok a j):EJ a:=by
 unfold Fp at h;split at h
 · injection h with h _;subst h;exact Mc _ _
 split at h
 · injection h with h _;subst h;exact Mc _ _
 split at h
 · obtain ⟨_,i1,r1,h⟩:=Aj h
   obtain ⟨_,i2,r2,h⟩:=Aj h;injection h with h _
   subst h;exact Jj (Cy (F8 r2)) (by simp [zV]) (by simp [zK]) (by simp [zK])
 split at h
 · obtain ⟨_,i1,r1,h⟩:=Aj h
   obtain ⟨_,i2,r2,h⟩:=Aj h;obtain ⟨_,i3,r3,h⟩:=Aj h;injection h with h _
   subst h;exact Jj (by simp) (by simp [zV]) (by simp [zK]) (by simp [zK])
 split at h
 · obtain ⟨_,i1,r1,h⟩:=Aj h
   injection h with h _
   subst h;exact Jj (by simp) (by simp [zV]) (by simp [zK]) (by simp [zK])
 split at h
 · split at h
   · injection h with h _;subst h;exact Jj (by simp) (by simp [zV]) (by simp [zK]) (by simp [zK])
   · injection h with h _;subst h;exact Jj (by simp) (by simp [zV]) (by simp [zK]) (by simp [zK])
 · cases h
theorem fT {L:List Tk} {i:Nat} {a:Ky} {j:Nat} (h:Eb L i=.ok a j):BQ a.2.1=true/\BQ a.2.2=true:=by
 unfold Eb at h;obtain ⟨_,i1,r1,h⟩:=Aj h;obtain ⟨_,i2,r2,h⟩:=Aj h;obtain ⟨_,i3,r3,h⟩:=Aj h;obtain ⟨_,i4,r4,h⟩:=Aj h;obtain ⟨_,i5,r5,h⟩:=Aj h;injection h with h _
 subst h;exact ⟨F8 r3,F8 r5⟩
def qy:NT->Prop
 | .chainL _ acc=>C5 acc/\acc.length<=8
 | .sumL e=>EJ e
 | .prodL e=>EJ e
 | _=>True
theorem Vh (b:Bool):qy (Eo b):=by cases b <;> trivial
theorem qz {L:List Tk} (hT:TokOK L):∀ (n:Nat) (nt:NT) (o i:Nat) (a:Tr) (j:Nat),qy nt->pz L n nt o i=.ok a j->EJ a:=by
 intro n
 induction n with
 | zero=>intro nt o i a j hi h;cases h
 | succ n ih=>
  intro nt o i a j hi h;cases nt with
  | expr=>
   rw [pz] at h;split at h
   · split at h
     · obtain ⟨_,i1,r1,h⟩:=Aj h
       obtain ⟨_,i2,r2,h⟩:=Aj h;obtain ⟨_,i3,r3,h⟩:=Aj h;obtain ⟨_,i4,r4,h⟩:=Aj h;obtain ⟨_,i5,r5,h⟩:=Aj h;injection h with h _
       subst h;exact wy (ih _ _ _ _ _ (by trivial) r1) (ih _ _ _ _ _ (by trivial) r3) (ih _ _ _ _ _ (by trivial) r5)
     · cases h
   · exact ih _ _ _ _ _ (by trivial) h
  | chain b=>
   rw [pz] at h;obtain ⟨_,i1,r1,h⟩:=Aj h;exact ih (.chainL b [_]) _ _ _ _ ⟨by unfold C5 C5;exact ⟨ih _ _ _ _ _ (Vh b) r1,trivial⟩,by simp⟩ h
  | chainL b acc=>
   rw [pz] at h;split at h
   · split at h
     · cases h
     · rename_i h8
       obtain ⟨_,i1,r1,h⟩:=Aj h;exact ih (.chainL b (acc++[_])) _ _ _ _ ⟨rZ hi.1 (ih _ _ _ _ _ (Vh b) r1),by have:=hi.2;rw [List.length_append];simp;omega⟩ h
   · injection h with h _
     subst h;exact wz b hi.1 (by have:=hi.2;omega)
  | not=>
   rw [pz] at h;split at h
   · split at h
     · obtain ⟨_,i1,r1,h⟩:=Aj h
       injection h with h _
       subst h;exact cY (ih _ _ _ _ _ (by trivial) r1)
     · cases h
   · exact ih _ _ _ _ _ (by trivial) h
  | cmp=>
   rw [pz] at h;obtain ⟨_,i1,r1,h⟩:=Aj h;split at h
   · obtain ⟨_,i2,r2,h⟩:=Aj h
     injection h with h _
     subst h;exact sa _ (ih _ _ _ _ _ (by trivial) r1) (ih _ _ _ _ _ (by trivial) r2)
   · injection h with h _
     subst h;exact ih _ _ _ _ _ (by trivial) r1
  | sum=>
   rw [pz] at h;obtain ⟨_,i1,r1,h⟩:=Aj h;exact ih (.sumL _) _ _ _ _ (show EJ _ from ih _ _ _ _ _ (by trivial) r1) h
  | sumL e=>
   rw [pz] at h;split at h
   · obtain ⟨_,i1,r1,h⟩:=Aj h
     exact ih (.sumL _) _ _ _ _ (show EJ _ from LO hi (ih _ _ _ _ _ (by trivial) r1)) h
   · split at h
     · obtain ⟨_,i1,r1,h⟩:=Aj h
       exact ih (.sumL _) _ _ _ _ (show EJ _ from LO hi (ih _ _ _ _ _ (by trivial) r1)) h
     · injection h with h _
       subst h;exact hi
  | prod=>
   rw [pz] at h;obtain ⟨_,i1,r1,h⟩:=Aj h;exact ih (.prodL _) _ _ _ _ (show EJ _ from ih _ _ _ _ _ (by trivial) r1) h
  | prodL e=>
   rw [pz] at h;split at h
   · obtain ⟨_,i1,r1,h⟩:=Aj h
     exact ih (.prodL _) _ _ _ _ (show EJ _ from LO hi (ih _ _ _ _ _ (by trivial) r1)) h
   · injection h with h _
     subst h;exact hi
  | un=>
   rw [pz] at h;split at h
   · split at h
     · injection h with h _;subst h;exact Mc _ _
     · split at h
       · obtain ⟨_,i1,r1,h⟩:=Aj h
         injection h with h _
         subst h;exact LO (Mc _ _) (ih _ _ _ _ _ (by trivial) r1)
       · cases h
   · exact ih _ _ _ _ _ (by trivial) h
  | prim=>
   rw [pz] at h;split at h
   · injection h with h _;subst h;exact Mc _ _
   split at h
   · obtain ⟨_,i1,r1,h⟩:=Aj h
     injection h with h _
     subst h;have:=fT r1;exact Jj (by simp) (by simp [zV]) (Cy this.1) (Cy this.2)
   split at h
   · rename_i hk
     injection h with h _
     subst h;exact Jj (by simp) (by have:=hT.str i hk;simp only;omega) (by simp [zK]) (by simp [zK])
   split at h
   · obtain ⟨_,i1,r1,h⟩:=Aj h
     injection h with h _
     subst h;exact Mc _ _
   split at h
   · split at h
     · obtain ⟨_,i1,r1,h⟩:=Aj h
       obtain ⟨_,i2,r2,h⟩:=Aj h;injection h with h _
       subst h;exact ih _ _ _ _ _ (by trivial) r1
     · cases h
   · exact jN h
theorem J0:Be CC Aa3 (Aa3.body.getD .skip)=true:=by kernel_rfl
theorem Jk:CC.P.funcs[49]?=some Aa3:=by kernel_rfl
theorem Dv {x:List PV} {b:List PBox} (h:x.length.ble Aa3.ntmps=true):Ad CC 49 x b=CM CC Aa3.results.toList (Co CC (Aa3.body.getD .skip) ⟨x,b⟩):=Ah (fn:=Aa3) (c:=Aa3.body.getD .skip) rfl rfl Jk rfl J0 (Aa5 h)
theorem Oq {id:Nat} {L:List Tk} {RL:PV} (hR:RL.pure=true) (hT:TokOK L) {i:Nat} (hi:i < L.length) (n:Nat) (o:Nat) (ho:o=0):Xs 49 [] id L RL i o BE (D0 L n i):=by
 have e:D0 L n i=(pz L n .expr o i).bind fun e j=>if Km e=0 then .ok e j else .bad (atT L i) (Km e):=by subst ho;rfl
 rw [e];have h1:=(oc (id:=id) (RL:=RL) hR hT n).1 i o hi (by omega);cases r1:pz L n .expr o i with
 | out=>exact AT
 | bad t e=>
  rw [r1] at h1;obtain ⟨i',o',h1⟩:=h1;refine AK ⟨i',o',Aw hR fun bx hid hc=>?_⟩;have t0:=Aa hid hc hR (AA (id:=id) (o:=o) hR hi);have t1:=Am hid hc hR h1;rw [Dv rfl];unfold Ap;rw [<- An];rw [<- AL] at t0 t1;simp only [Ab,Ac,Aa3,Aa0];simp only [S9,Ag,seval,PY,PZ,AS,Az,t0,t1,SX,hid];exact ⟨_,rfl⟩
 | ok a j=>
  rw [r1] at h1;dsimp only [Au];have rn:=HV a (qz hT _ _ _ _ _ _ (by trivial) r1);rw [Ao] at rn;by_cases hz:Km a=0
  · rw [if_pos hz]
    rw [hz] at rn;refine Bh (A4 hR (fun n=>by rw [Ao];simp only [SX,PV.under]) fun bx hid hc=>?_);have t0:=Aa hid hc hR (AA (id:=id) (o:=o) hR hi);have t1:=Aa hid hc hR h1;rw [Ao] at t1 |-;rw [Dv rfl];unfold Ap;rw [<- An];rw [<- AL] at t0 t1 rn;simp only [Ab,Ac,Aa3,Aa0];simp only [S9,Ag,seval,PY,PZ,AS,Az,t0,t1,rn,SX,hid];exact ⟨_,rfl⟩
  · rw [if_neg hz]
    have hz':(Km a != 0)=true:=by simp [bne_iff_ne,hz]
    have hj:=(He hT _ _ _ _ _ _ hi r1).2;have hf:=CD (id:=id) (i:=j) (o:=o) (L:=L) (RL:=RL) hR (tokAt L i).1 (tokAt L i).2.1 (tokAt L i).2.2 (Km a);refine AK ⟨j,o,Aw hR fun bx hid hc=>?_⟩;have t0:=Aa hid hc hR (AA (id:=id) (o:=o) hR hi);have t1:=Aa hid hc hR h1;rw [Ao] at t1;have t2:=Am hid hc hR hf;rw [Dv rfl];unfold Ap atT;rw [<- An];rw [<- AL] at t0 t1 rn t2;simp only [Ab,Ac,Aa3,Aa0];simp only [S9,Ag,seval,PY,PZ,AS,Az,t0,t1,rn,hz',t2,SX,hid];exact ⟨_,rfl⟩
theorem Ww:Be CC Aa2 (Aa2.body.getD .skip)=true:=by kernel_rfl
theorem Ub:CC.P.funcs[85]?=some Aa2:=by kernel_rfl
theorem Yw:Be CC Aa9 (Aa9.body.getD .skip)=true:=by kernel_rfl
theorem Wx:CC.P.funcs[23]?=some Aa9:=by kernel_rfl
theorem Uc:Be CC Aa6 (Aa6.body.getD .skip)=true:=by kernel_rfl
theorem RQ:CC.P.funcs[62]?=some Aa6:=by kernel_rfl
def Yx (k n m:Int) (nm:List UInt8) (v:Vl) (key:Ky):PV:=.agg [.int .i64 k,.int .i64 n,.int .i64 m,.str nm,.int .i64 v.1,.int .i64 v.2.1,.str v.2.2,.int .i64 key.1,.str key.2.1,.str key.2.2,.sl []]
def aS (t:Tr) (k n m:Int) (nm:List UInt8) (v:Vl) (key:Ky):Bool:=match t with
 | .mk k' n' m' nm' v' key' kids=>(k' == k) && (n' == n) && (m' == m) && (nm' == nm) && Ra v' v && ED key' key && (kids.length == 0)
theorem PW (L:Code) (hL:L=Ab Aa2 [1,1,0,1,0]) (e:List PV) (bx:List PBox) (h1:getT e 58=.int .i64 0) (h2:getT e 59=.int .i64 0):∃ e' bx',Co CC L ⟨e,bx⟩=some (.exit 0,⟨e',bx'⟩):=by
 rw [A3 (Ab Aa2 [1,1,0,1,0,0]) hL];have hlen:True:=trivial;have hi:¬ ((0:Int) < 0):=by decide
 rw [<- An];simp only [Ab,Ac,Aa2,Aa0];simp only [S8,Ag,SG,seval,UT,SC,hlen,Gj,Cu,Aa1,h1,h2,hi];exact ⟨_,_,rfl⟩
theorem RU (k n m:Int) (nm:List UInt8) (vk vn:Int) (vs:List UInt8) (dv:Int) (cl at_:List UInt8) (xs:List PV) (k' n' m':Int) (nm':List UInt8) (vk' vn':Int) (vs':List UInt8) (dv':Int) (cl' at':List UInt8) (b1 b2 b3 b4 b5 b6 b7:Bool)
 (h1:(k != k')=b1) (h2:(n != n')=b2) (h3:(m != m')=b3) (h4:EB .neq nm nm'=some (.bool b4)) (h5:Mu CC 100 24 (.agg [.int .i64 vk,.int .i64 vn,.str vs]) (.agg [.int .i64 vk',.int .i64 vn',.str vs'])=some (!b5)) (h6:Mu CC 100 26 (.agg [.int .i64 dv,.str cl,.str at_]) (.agg [.int .i64 dv',.str cl',.str at'])=some (!b6)) (h7:((xs.length:Int) != ((0:Nat):Int))=b7) :
 ∃ bx,Ad CC 85 [.agg [.int .i64 k,.int .i64 n,.int .i64 m,.str nm,.int .i64 vk,.int .i64 vn,.str vs,.int .i64 dv,.str cl,.str at_,.sl xs],.agg [.int .i64 k',.int .i64 n',.int .i64 m',.str nm',.int .i64 vk',.int .i64 vn',.str vs',.int .i64 dv',.str cl',.str at',.sl []]] []=some (.ret (.bool (!(b1 || b2 || b3 || b4 || b5 || b6 || b7))),bx):=by
 have hlen:True:=trivial;have Af:=PW _ rfl;rw [Ah (fn:=Aa2) (c:=Aa2.body.getD .skip) rfl rfl Ub rfl Ww (Aa5 rfl)];cases b1 with
 | true=>
  rw [<- An];simp only [Ab,Ac,Aa2,Aa0];simp only [S8,Ag,SG,seval,UT,SC,hlen,Gj,Cu,Aa1,h1];exact ⟨_,rfl⟩
 | false=>
  cases b2 with
  | true=>
   rw [<- An];simp only [Ab,Ac,Aa2,Aa0];simp only [S8,Ag,SG,seval,UT,SC,hlen,Gj,Cu,Aa1,h1,h2];exact ⟨_,rfl⟩
  | false=>
   cases b3 with
   | true=>
    rw [<- An];simp only [Ab,Ac,Aa2,Aa0];simp only [S8,Ag,SG,seval,UT,SC,hlen,Gj,Cu,Aa1,h1,h2,h3];exact ⟨_,rfl⟩
   | false=>
    cases b4 with
    | true=>
     rw [<- An];simp only [Ab,Ac,Aa2,Aa0];simp only [S8,Ag,SG,seval,UT,SC,hlen,Gj,Cu,Aa1,h1,h2,h3,h4];exact ⟨_,rfl⟩
    | false=>
     cases b5 with
     | true=>
      rw [<- An];simp only [Ab,Ac,Aa2,Aa0];simp only [S8,Ag,SG,seval,UT,SC,hlen,Gj,Cu,Aa1,h1,h2,h3,h4,h5];exact ⟨_,rfl⟩
     | false=>
      cases b6 with
      | true=>
       rw [<- An];simp only [Ab,Ac,Aa2,Aa0];simp only [S8,Ag,SG,seval,UT,SC,hlen,Gj,Cu,Aa1,h1,h2,h3,h4,h5,h6];exact ⟨_,rfl⟩
      | false=>
       have h7':((xs.length:Int) != 0)=b7:=h7;cases b7 with
       | true=>
        rw [<- An];simp only [Ab,Ac,Aa2,Aa0];simp only [S8,Ag,SG,seval,UT,SC,hlen,Gj,Cu,Aa1,h1,h2,h3,h4,h5,h6,h7,h7'];exact ⟨_,rfl⟩
       | false=>
        have pY:(xs.length:Int)=0:=by simpa using h7
        rw [<- An];rw [<- An] at Af;simp only [Ab,Ac,Aa2,Aa0] at Af |-;simp only [S8,Ag,SG,seval,UT,SC,hlen,Gj,Cu,Aa1,h1,h2,h3,h4,h5,h6,h7,h7'];generalize hE:Hp (Code.loop _) _=z
        have hz:∃ e' bx',z=some (.exit 0,⟨e',bx'⟩):=by
         rw [<- hE];refine Af _ _ ?_ ?_
         · simp only [S7,Ag,seval,pY]
         · simp only [S7,Ag,seval]
        obtain ⟨e',bx',he⟩:=hz;subst he;simp only [S8,Ag,seval];exact ⟨_,rfl⟩
def cZ (t:Tr):Bool:=aS t 0 0 0 [] (0,0,[]) (0,[],[])
theorem jO:A9 CC 29 []=some (.agg [.int .i64 0,.int .i64 0,.int .i64 0,.str [],.int .i64 0,.int .i64 0,.str [],.int .i64 0,.str [],.str [],.nils]):=by kernel_rfl
theorem Jl (t:Tr) (k n m:Int) (nm:List UInt8) (v:Vl) (key:Ky) (bx):Ai CC (Ad CC) 85 [BE t,Yx k n m nm v key] bx=some (.ret (.bool (aS t k n m nm v key)),bx):=by
 obtain ⟨k',n',m',nm',v',key',kids⟩:=t;obtain ⟨vk,vn,vs⟩:=v;obtain ⟨dv,cl,at_⟩:=key;obtain ⟨vk',vn',vs'⟩:=v';obtain ⟨dv',cl',at'⟩:=key';have h4:EB .neq nm' nm=some (.bool (!(nm' == nm))):=rfl;have h5:Mu CC 100 24 (.agg [.int .i64 vk',.int .i64 vn',.str vs']) (.agg [.int .i64 vk,.int .i64 vn,.str vs])=some (!(!(Ra (vk',vn',vs') (vk,vn,vs)))):=by rw [nK,Aa1];rfl
 have h6:Mu CC 100 26 (.agg [.int .i64 dv',.str cl',.str at']) (.agg [.int .i64 dv,.str cl,.str at_])=some (!(!(ED (dv',cl',at') (dv,cl,at_)))):=by rw [fl,Aa1];rfl
 have hs:=RU k' n' m' nm' vk' vn' vs' dv' cl' at' (A8 kids) k n m nm vk vn vs dv cl at_ _ _ _ _ _ _ _ rfl rfl rfl h4 h5 h6 rfl;obtain ⟨b,hs⟩:=hs
 have he:aS (.mk k' n' m' nm' (vk',vn',vs') (dv',cl',at') kids) k n m nm (vk,vn,vs) (dv,cl,at_)=!((k' != k) || (n' != n) || (m' != m) || (!(nm' == nm)) || (!(Ra (vk',vn',vs') (vk,vn,vs))) || (!(ED (dv',cl',at') (dv,cl,at_))) || (((A8 kids).length:Int) != ((0:Nat):Int))):=by
  unfold aS;simp only
  have hl:(kids.length == 0)=(((A8 kids).length:Int) == ((0:Nat):Int)):=by
   rw [Dg,Bool.eq_iff_iff];simp only [beq_iff_eq];omega
  rw [hl];simp only [bne,Bool.not_or,Aa1]
 rw [he];have hp:=AY kids;refine Aq rfl ?_ (by unfold BE Yx;exact hs) rfl;rw [AO,BH];rfl
theorem LP (t:Tr) (bx):Ai CC (Ad CC) 62 [BE t] bx=some (.ret (.bool (cZ t)),bx):=by
 have Ux:=Jl t 0 0 0 [] (0,0,[]) (0,[],[]);unfold cZ;generalize aS t 0 0 0 [] (0,0,[]) (0,[],[])=b at *
 have hc:∃ q,Ad CC 62 [BE t] []=some (.ret (.bool b),q):=by
  rw [Ah (fn:=Aa6) (c:=Aa6.body.getD .skip) rfl rfl RQ rfl Uc (Aa5 rfl)];obtain ⟨xk,xn,xm,xnm,xv,xkey,xkids⟩:=t;unfold BE Yx at Ux;unfold BE;simp only at Ux;generalize A8 xkids=xs at *;have hlen:True:=trivial;rw [<- An];rw [<- AL] at Ux;simp only [Ab,Ac,Aa6,Aa0];simp only [S8,Ag,SG,seval,UT,SC,hlen,Gj,Cu,Aa1,Ux,jO];exact ⟨_,rfl⟩
 obtain ⟨q,hq⟩:=hc;exact Aq rfl (by simp only [AO,BH,Bu,Bool.and_self]) hq rfl
structure Tg where
 k:Int
 key:Ky
 ev:Ky
 nm:List UInt8
 n:Int
 m:Int
def BR (t:Tg):PV:=.agg [.int .i64 t.k,.int .i64 t.key.1,.str t.key.2.1,.str t.key.2.2,.int .i64 t.ev.1,.str t.ev.2.1,.str t.ev.2.2,.str t.nm,.int .i64 t.n,.int .i64 t.m]
def wA (t:Tg):Prop:=Dx t.k/\N1 t.key/\N1 t.ev/\t.nm.length<=maxLen/\Dx t.n/\Dx t.m
def Zz (t:Tr):List PV:=(BE t).cells
theorem od (t:Tr):BE t=.agg (Zz t):=by
 obtain ⟨k,n,m,nm,v,key,kids⟩:=t;unfold Zz BE;rfl
structure Sp where
 k:Int
 key:Ky
 nm:List UInt8
 ex:Tr
def F9 (s:Sp):PV:=.agg ([.int .i64 s.k,.int .i64 s.key.1,.str s.key.2.1,.str s.key.2.2,.str s.nm]++Zz s.ex)
def wB (s:Sp):Prop:=Dx s.k/\N1 s.key/\s.nm.length<=maxLen/\Kl s.ex
structure Rl where
 nm:List UInt8
 pr:Int
 on:List Tg
 ife:Tr
 dos:List Sp
def Ew (r:Rl):PV:=.agg ([.str r.nm,.int .i64 r.pr,.sl (r.on.map BR)]++(Zz r.ife++[.sl (r.dos.map F9)]))
def aT (r:Rl):Prop:=r.nm.length<=maxLen/\Dx r.pr/\r.on.length<=maxLen/\(∀ t ∈ r.on,wA t)/\Kl r.ife/\r.dos.length<=maxLen/\∀ s ∈ r.dos,wB s
def RX (s:Sp):List PV:=[.int .i64 s.k,.int .i64 s.key.1,.str s.key.2.1,.str s.key.2.2,.str s.nm]++Bo s.ex
def DZ (s:Sp):PV:=.agg (RX s)
theorem sd (s:Sp):DZ s=F9 s:=rfl
def BI (L:List Tk) (i:Nat):PR Tg:=
 if Br L 1 [99,104,97,110,103,101] i then (Eb L (i+1)).bind fun k i=>.ok ⟨1,k,zK,[],0,0⟩ i else
 if Br L 1 [101,118,101,110,116] i then (Eb L (i+1)).bind fun k i=>.ok ⟨2,zK,k,[],0,0⟩ i else
 if Br L 1 [116,105,109,101] i then (Fo L (i+1)).bind fun n i=>if Br L 1 [100,97,121,115] i then (Kq L (i+1)).bind fun m i=>.ok ⟨3,zK,zK,[],n,m⟩ i else .ok ⟨3,zK,zK,[],n,127⟩ i else
 if Br L 1 [109,111,100,101] i then (if (tokAt L (i+1)).1=1 then (DG L (i+1)).bind fun s i=>.ok ⟨4,zK,zK,s,0,0⟩ i else .ok ⟨4,zK,zK,[],0,0⟩ (i+1)) else
 if Br L 1 [115,116,97,114,116] i then .ok ⟨5,zK,zK,[],0,0⟩ (i+1) else
 (Bs L 1 [104,111,108,100] i).bind fun _ i=>(Hq L 0 1099511627776 i).bind fun n i=>.ok ⟨6,zK,zK,[],n,0⟩ i
def DV (L:List Tk) (n i:Nat):PR Sp:=
 if Br L 1 [115,101,116] i then (Eb L (i+1)).bind fun k i=>(Bs L 4 [61] i).bind fun _ i=>(D0 L n i).bind fun e i=>.ok ⟨1,k,[],e⟩ i else
 if Br L 1 [99,97,108,108] i then (Eb L (i+1)).bind fun k i=>if Br L 4 [40] i then (D0 L n (i+1)).bind fun e i=>(Bs L 4 [41] i).bind fun _ i=>.ok ⟨2,(k.1,k.2.1,[]),k.2.2,e⟩ i else .ok ⟨2,(k.1,k.2.1,[]),k.2.2,zT⟩ i else
 if Br L 1 [115,99,101,110,101] i then (DG L (i+1)).bind fun s i=>.ok ⟨3,zK,s,zT⟩ i else
 if Br L 1 [109,111,100,101] i then (DG L (i+1)).bind fun s i=>.ok ⟨4,zK,s,zT⟩ i else
 (Bs L 1 [110,111,116,105,102,121] i).bind fun _ i=>(Oh L 3 i).bind fun t i=>.ok ⟨5,zK,t.2.1,zT⟩ i
def Bw {α:Type} (L:List Tk) (w:List UInt8) (part:Nat->PR α):Nat->List α->Nat->PR (List α)
 | 0,_,_=>.out
 | n+1,acc,i=>if acc.length=0\/Br L 1 w i=true then (if acc.length=8 then .bad (atT L i) 3 else (Bs L 1 w i).bind fun _ i=>(part i).bind fun a i=>(Bs L 4 [59] i).bind fun _ i=>Bw L w part n (acc++[a]) i) else .ok acc i
def wT:Tr:=.mk 1 0 0 [] (1,1,[]) zK []
def JF (L:List Tk) (n:Nat) (rs:List Rl) (i:Nat):PR Rl:=
 if Br L 1 [114,117,108,101] i=true/\rs.length=40 then .bad (atT L i) 3 else
 (Bs L 1 [114,117,108,101] i).bind fun _ i0=>(DG L i0).bind fun nm i=>
 if rs.any (fun r=>r.nm == nm) then .bad (atT L i0) 9 else
 (if Br L 1 [112,114,105,111,114,105,116,121] i then Hq L 0 100 (i+1) else .ok 0 i).bind fun pr i=>(Bs L 4 [123] i).bind fun _ i=>
 (Bw L [111,110] (BI L) 10 [] i).bind fun on i=>
 (if Br L 1 [105,102] i then (D0 L n (i+1)).bind fun e i=>(Bs L 4 [59] i).bind fun _ i=>.ok e i else .ok wT i).bind fun e i=>
 (Bw L [100,111] (DV L n) 10 [] i).bind fun dos i=>(Bs L 4 [125] i).bind fun _ i=>.ok ⟨nm,pr,on,e,dos⟩ i
end Go.HH
