/-
  What the law needs, packed: PV PW RA RB.
-/
import Derived.Test.YthjabmlbmnadjaaGreatJ38
open Option renaming getD->yW
open Bool renaming false_eq_true->yX
open Go.Proofs.Tryz renaming f42->yY,f40->yZ,f27->y0,f52->y1
open Nat renaming le_of_ble_eq_true->y2
open List renaming length_cons->y3,length_nil->y4
namespace Go.HH
open Go Go.Proofs
set_option maxRecDepth 100000
set_option maxHeartbeats 4000000
set_option linter.unusedSimpArgs false
set_option linter.unusedVariables false
theorem kA {id:Nat} {L:List Tk} {RL:PV} (hR:RL.pure=true) (hT:TokOK L) (n:Nat) (hx:Gq 52 .expr id L RL n) (hn:∀ m,m < n->Gq 81 .not id L RL m):Gq 52 .expr id L RL (n+1):=by
 intro i o hi ho;rw [pz];cases f0:B2 L 1 [105,102] i with
 | false=>
  simp only [yX,if_false];obtain ⟨I1,O1,QE⟩:=XR (id:=id) (RL:=RL) hR hT n hn;have h1:=XQ (id:=id) (RL:=RL) hR hT true n I1 O1 i o hi ho;cases r1:pz L n (.chain true) o i with
  | out=>exact A4
  | bad t c=>
   rw [r1] at h1;obtain ⟨i',o',h1⟩:=h1;refine AV ⟨i',o',AF hR fun bx Ad hc=>?_⟩;have hd:∀ k,id < bx.length+k:=fun k=>by omega
   have t0:=Ab Ad hc hR (AJ (id:=id) (o:=o) hR hi);have q0:=Ab Ad hc hR (Ai (id:=id) (o:=o) hR hi hT _ f0);have pc:(BX bx id (Av L i o RL) [.cells 56 [.bp id 0],.cells 35 [.int .i64 0,.int .i64 0,.int .i64 0,.str [],.int .i64 0,.int .i64 0,.str [],.int .i64 0,.str [],.str [],.nils],.cells 59 [.int .i64 ((tokAt L i).1:Int),.str (tokAt L i).2.1,.int .i64 ((tokAt L i).2.2:Int)]])[bx.length]?=some (.cells 56 [.bp id 0]):=by rw [RD];rfl
   have sw:Nt L i o RL id (BX bx id (Av L i o RL) [.cells 56 [.bp id 0],.cells 35 [.int .i64 0,.int .i64 0,.int .i64 0,.str [],.int .i64 0,.int .i64 0,.str [],.int .i64 0,.str [],.str [],.nils],.cells 59 [.int .i64 ((tokAt L i).1:Int),.str (tokAt L i).2.1,.int .i64 ((tokAt L i).2.2:Int)]]):=IG (i0:=i) (o0:=o) Ad hc hR (by simp only [SU,SX,y3,y4];simpa using (by omega:id < bx.length+3));have t1:=h1 80 [] [.bp bx.length 0] [.bp bx.length 0] rfl rfl _ (QE _ bx.length pc (by omega)) sw;rw [Hk Ad] at t1;unfold Pf PH at t1;simp only [if_true] at t1;rw [Bz rfl];unfold Av at *;rw [<- Am];rw [<- AK] at t0 q0 t1;simp only [Aa,Ac,y1,yW];simp only [S9,Ag,seval,PY,PZ,Aw,Al,t0,q0,t1,SX,hd,Ad];exact ⟨_,rfl⟩
  | ok a j=>
   rw [r1] at h1;refine BB (Bl hR (fun n=>by rw [An];simp only [SX,PV.under]) fun bx Ad hc=>?_);have hd:∀ k,id < bx.length+k:=fun k=>by omega
   have t0:=Ab Ad hc hR (AJ (id:=id) (o:=o) hR hi);have q0:=Ab Ad hc hR (Ai (id:=id) (o:=o) hR hi hT _ f0);have pc:(BX bx id (Av L i o RL) [.cells 56 [.bp id 0],.cells 35 [.int .i64 0,.int .i64 0,.int .i64 0,.str [],.int .i64 0,.int .i64 0,.str [],.int .i64 0,.str [],.str [],.nils],.cells 59 [.int .i64 ((tokAt L i).1:Int),.str (tokAt L i).2.1,.int .i64 ((tokAt L i).2.2:Int)]])[bx.length]?=some (.cells 56 [.bp id 0]):=by rw [RD];rfl
   have sw:Nt L i o RL id (BX bx id (Av L i o RL) [.cells 56 [.bp id 0],.cells 35 [.int .i64 0,.int .i64 0,.int .i64 0,.str [],.int .i64 0,.int .i64 0,.str [],.int .i64 0,.str [],.str [],.nils],.cells 59 [.int .i64 ((tokAt L i).1:Int),.str (tokAt L i).2.1,.int .i64 ((tokAt L i).2.2:Int)]]):=IG (i0:=i) (o0:=o) Ad hc hR (by simp only [SU,SX,y3,y4];simpa using (by omega:id < bx.length+3));have t1:=h1 80 [] [.bp bx.length 0] [.bp bx.length 0] rfl rfl _ (QE _ bx.length pc (by omega)) sw;rw [Hk Ad] at t1;rw [An] at t1 |-;unfold Pf PH at t1;simp only [if_true] at t1;rw [Bz rfl];unfold Av at *;rw [<- Am];rw [<- AK] at t0 q0 t1;simp only [Aa,Ac,y1,yW];simp only [S9,Ag,seval,PY,PZ,Aw,Al,t0,q0,t1,SX,hd,Ad];exact ⟨_,rfl⟩
 | true=>
  simp only [if_true];have B8:=AG hT hi f0 (by decide);by_cases Bq:o < 100
  · rw [if_pos Bq]
    have sr:IntKind.wrap .i64 (((o+1:Nat):Int) - 1)=((o:Nat):Int):=by rw [wrap_i64 ⟨by omega,by omega⟩];omega
    have h1:=hx (i+1) (o+1) B8 (by omega);cases r1:pz L n .expr (o+1) (i+1) with
    | out=>exact A4
    | bad t e=>
     rw [r1] at h1;obtain ⟨i',o',h1⟩:=h1;refine AV ⟨i',o',AF hR fun bx Ad hc=>?_⟩;have hd:∀ k,id < bx.length+k:=fun k=>by omega
     have t0:=Ab Ad hc hR (AJ (id:=id) (o:=o) hR hi);have q0:=Ab Ad hc hR (Az (id:=id) (o:=o) hR hi hT _ f0);have te:=Ab Ad hc hR (DG (id:=id) (L:=L) (i:=i+1) hR Bq (tokAt L i).1 (tokAt L i).2.1 (tokAt L i).2.2);have t1:=At Ad hc hR h1;rw [Bz rfl];unfold Av;rw [<- Am];rw [<- AK] at t0 q0 te t1;simp only [Aa,Ac,y1,yW];simp only [S9,Ag,seval,PY,PZ,Aw,Al,t0,q0,te,t1,SX,hd,Ad];exact ⟨_,rfl⟩
    | ok a1 i1=>
     rw [r1] at h1;dsimp only [AA];have j1:=Hq hT _ _ _ _ _ _ B8 r1;have B8:=j1.2;have h2:=CE (id:=id) (o:=o+1) (i:=i1) hR B8 hT 1 1 rfl [116,104,101,110];cases r2:BM L 1 [116,104,101,110] i1 with
     | out=>exact A4
     | bad t e=>
      rw [r2] at h2;obtain ⟨i',o',h2⟩:=h2;refine AV ⟨i',o',AF hR fun bx Ad hc=>?_⟩;have hd:∀ k,id < bx.length+k:=fun k=>by omega
      have t0:=Ab Ad hc hR (AJ (id:=id) (o:=o) hR hi);have q0:=Ab Ad hc hR (Az (id:=id) (o:=o) hR hi hT _ f0);have te:=Ab Ad hc hR (DG (id:=id) (L:=L) (i:=i+1) hR Bq (tokAt L i).1 (tokAt L i).2.1 (tokAt L i).2.2);have t1:=Ab Ad hc hR h1;rw [An] at t1;have t2:=At Ad hc hR h2;rw [Bz rfl];unfold Av;rw [<- Am];rw [<- AK] at t0 q0 te t1 t2;simp only [Aa,Ac,y1,yW];simp only [S9,Ag,seval,PY,PZ,Aw,Al,t0,q0,te,t1,t2,SX,hd,Ad];exact ⟨_,rfl⟩
     | ok a2 i2=>
      rw [r2] at h2;dsimp only [AA];have j2:=A6 hT B8 (by decide) r2;have FV:=j2.2;have h3:=hx i2 (o+1) FV (by omega);cases r3:pz L n .expr (o+1) i2 with
      | out=>exact A4
      | bad t e=>
       rw [r3] at h3;obtain ⟨i',o',h3⟩:=h3;refine AV ⟨i',o',AF hR fun bx Ad hc=>?_⟩;have hd:∀ k,id < bx.length+k:=fun k=>by omega
       have t0:=Ab Ad hc hR (AJ (id:=id) (o:=o) hR hi);have q0:=Ab Ad hc hR (Az (id:=id) (o:=o) hR hi hT _ f0);have te:=Ab Ad hc hR (DG (id:=id) (L:=L) (i:=i+1) hR Bq (tokAt L i).1 (tokAt L i).2.1 (tokAt L i).2.2);have t1:=Ab Ad hc hR h1;rw [An] at t1;have t2:=Ab Ad hc hR h2;have t3:=At Ad hc hR h3;rw [Bz rfl];unfold Av;rw [<- Am];rw [<- AK] at t0 q0 te t1 t2 t3;simp only [Aa,Ac,y1,yW];simp only [S9,Ag,seval,PY,PZ,Aw,Al,t0,q0,te,t1,t2,t3,SX,hd,Ad];exact ⟨_,rfl⟩
      | ok a3 i3=>
       rw [r3] at h3;dsimp only [AA];have j3:=Hq hT _ _ _ _ _ _ FV r3;have VS:=j3.2;have h4:=CE (id:=id) (o:=o+1) (i:=i3) hR VS hT 1 1 rfl [101,108,115,101];cases r4:BM L 1 [101,108,115,101] i3 with
       | out=>exact A4
       | bad t e=>
        rw [r4] at h4;obtain ⟨i',o',h4⟩:=h4;refine AV ⟨i',o',AF hR fun bx Ad hc=>?_⟩;have hd:∀ k,id < bx.length+k:=fun k=>by omega
        have t0:=Ab Ad hc hR (AJ (id:=id) (o:=o) hR hi);have q0:=Ab Ad hc hR (Az (id:=id) (o:=o) hR hi hT _ f0);have te:=Ab Ad hc hR (DG (id:=id) (L:=L) (i:=i+1) hR Bq (tokAt L i).1 (tokAt L i).2.1 (tokAt L i).2.2);have t1:=Ab Ad hc hR h1;rw [An] at t1;have t2:=Ab Ad hc hR h2;have t3:=Ab Ad hc hR h3;rw [An] at t3;have t4:=At Ad hc hR h4;rw [Bz rfl];unfold Av;rw [<- Am];rw [<- AK] at t0 q0 te t1 t2 t3 t4;simp only [Aa,Ac,y1,yW];simp only [S9,Ag,seval,PY,PZ,Aw,Al,t0,q0,te,t1,t2,t3,t4,SX,hd,Ad];exact ⟨_,rfl⟩
       | ok a4 i4=>
        rw [r4] at h4;dsimp only [AA];have j4:=A6 hT VS (by decide) r4;have iW:=j4.2;have h5:=hx i4 (o+1) iW (by omega);cases r5:pz L n .expr (o+1) i4 with
        | out=>exact A4
        | bad t e=>
         rw [r5] at h5;obtain ⟨i',o',h5⟩:=h5;refine AV ⟨i',o',AF hR fun bx Ad hc=>?_⟩;have hd:∀ k,id < bx.length+k:=fun k=>by omega
         have t0:=Ab Ad hc hR (AJ (id:=id) (o:=o) hR hi);have q0:=Ab Ad hc hR (Az (id:=id) (o:=o) hR hi hT _ f0);have te:=Ab Ad hc hR (DG (id:=id) (L:=L) (i:=i+1) hR Bq (tokAt L i).1 (tokAt L i).2.1 (tokAt L i).2.2);have t1:=Ab Ad hc hR h1;rw [An] at t1;have t2:=Ab Ad hc hR h2;have t3:=Ab Ad hc hR h3;rw [An] at t3;have t4:=Ab Ad hc hR h4;have t5:=At Ad hc hR h5;rw [Bz rfl];unfold Av;rw [<- Am];rw [<- AK] at t0 q0 te t1 t2 t3 t4 t5;simp only [Aa,Ac,y1,yW];simp only [S9,Ag,seval,PY,PZ,Aw,Al,t0,q0,te,t1,t2,t3,t4,t5,SX,hd,Ad];exact ⟨_,rfl⟩
        | ok a5 i5=>
         rw [r5] at h5;dsimp only [AA];have j5:=Hq hT _ _ _ _ _ _ iW r5;have hi5:=j5.2;have hb:=tV a1 a3 a5;have wg:=wL 14 a1 a3 a5;refine BB (Bl hR (fun n=>by rw [An];simp only [SX,PV.under]) fun bx Ad hc=>?_);have hd:∀ k,id < bx.length+k:=fun k=>by omega
         have t0:=Ab Ad hc hR (AJ (id:=id) (o:=o) hR hi);have q0:=Ab Ad hc hR (Az (id:=id) (o:=o) hR hi hT _ f0);have te:=Ab Ad hc hR (DG (id:=id) (L:=L) (i:=i+1) hR Bq (tokAt L i).1 (tokAt L i).2.1 (tokAt L i).2.2);have t1:=Ab Ad hc hR h1;rw [An] at t1;have t2:=Ab Ad hc hR h2;have t3:=Ab Ad hc hR h3;rw [An] at t3;have t4:=Ab Ad hc hR h4;have t5:=Ab Ad hc hR h5;rw [An] at t5;rw [An];rw [Bz rfl];unfold Av;rw [<- Am];rw [<- AK] at t0 q0 te t1 t2 t3 t4 t5 wg;simp only [Aa,Ac,y1,yW];simp only [S9,Ag,seval,PY,PZ,Aw,Al,t0,q0,te,t1,t2,t3,t4,t5,hb,wg,sr,SX,hd,Ad];exact ⟨_,rfl⟩
  · rw [if_neg Bq]
    have ss:o=100:=by omega
    refine AV ⟨i+1,o+1,AF hR fun bx Ad hc=>?_⟩;have hd:∀ k,id < bx.length+k:=fun k=>by omega
    have t0:=Ab Ad hc hR (AJ (id:=id) (o:=o) hR hi);have q0:=Ab Ad hc hR (Az (id:=id) (o:=o) hR hi hT _ f0);have te:=At Ad hc hR (J2 (id:=id) (L:=L) (i:=i+1) hR ss (tokAt L i).1 (tokAt L i).2.1 (tokAt L i).2.2);rw [Bz rfl];unfold Av atT;rw [<- Am];rw [<- AK] at t0 q0 te;simp only [Aa,Ac,y1,yW];simp only [S9,Ag,seval,PY,PZ,Aw,Al,t0,q0,te,SX,hd,Ad];exact ⟨_,rfl⟩
theorem nU {id:Nat} {L:List Tk} {RL:PV} (hR:RL.pure=true) (hT:TokOK L):∀ n,Gq 52 .expr id L RL n/\Gq 81 .not id L RL n/\Gq 107 .cmp id L RL n/\Gq 119 .sum id L RL n/\Gq 128 .prod id L RL n/\Gq 134 .un id L RL n/\Gq 140 .prim id L RL n:=by
 intro n
 induction n using Nat.strongRecOn with
 | _ n ih=>
  cases n with
  | zero=>exact ⟨fun _ _ _ _=>A4,fun _ _ _ _=>A4,fun _ _ _ _=>A4,fun _ _ _ _=>A4,fun _ _ _ _=>A4,fun _ _ _ _=>A4,fun _ _ _ _=>A4⟩
  | succ n=>
   obtain ⟨a1,a2,a3,a4,a5,a6,a7⟩:=ih n (by omega);exact ⟨kA hR hT n a1 (fun m hm=>(ih m (by omega)).2.1),nS hR hT n a3 a2,nR hR hT n a4,nQ hR hT n (fun k hk=>(ih k (by omega)).2.2.2.2.1),kt hR hT n (fun k hk=>(ih k (by omega)).2.2.2.2.2.1),qG hR hT n a7 a6,kx hR hT n a1⟩
theorem XS {k:Int} {l:List Tr} (h:E1 l) (hl:l.length<=12):Fi (Bb k l):=by
 unfold Bb Fi zV zK;exact ⟨⟨by simp,by simp,by simp,by simp,hl⟩,h⟩
theorem Hm (k n:Int):Fi (Da k n):=by
 unfold Da Fi zK E1;exact ⟨⟨by simp,by simp,by simp,by simp,by simp⟩,trivial⟩
theorem Z2 {k:Int} {a:Tr} (h:Fi a):Fi (Bb k [a]):=XS (by unfold E1 E1;exact ⟨h,trivial⟩) (by simp)
theorem H7 {k:Int} {a b:Tr} (h:Fi a) (h2:Fi b):Fi (Bb k [a,b]):=XS (by unfold E1 E1 E1;exact ⟨h,h2,trivial⟩) (by simp)
theorem tY {k:Int} {a b c:Tr} (h:Fi a) (h2:Fi b) (h3:Fi c):Fi (Bb k [a,b,c]):=XS (by unfold E1 E1 E1 E1;exact ⟨h,h2,h3,trivial⟩) (by simp)
theorem qH {l:List Tr} {a:Tr} (h:E1 l) (h2:Fi a):E1 (l++[a]):=by
 induction l with
 | nil=>unfold E1 E1;exact ⟨h2,trivial⟩
 | cons x r ih=>unfold E1 at h;show E1 (x :: (r++[a]));unfold E1;exact ⟨h.1,ih h.2⟩
theorem Ty {s:List UInt8} (h:Fo s=true):s.length<=100:=by
 unfold Fo at h;simp only [Bool.and_eq_true,decide_eq_true_eq] at h;omega
theorem PU {L:List Tk} {i:Nat} {a:List UInt8} {j:Nat} (h:CI L i=.ok a j):Fo a=true:=by
 unfold CI at h;split at h
 · split at h
   · rename_i hv
     injection h with h _
     subst h;exact hv
   · cases h
 · cases h
theorem qI (k:Nat) {a b:Tr} (h:Fi a) (h2:Fi b):Fi (KG k a b):=by
 unfold KG;split
 · exact H7 h h2
 · exact Z2 (H7 h h2)
 · exact H7 h h2
 · exact Z2 (H7 h h2)
 · exact H7 h2 h
 · exact Z2 (H7 h2 h)
theorem tZ (b:Bool) {l:List Tr} (h:E1 l) (hl:l.length<=12):Fi (mu b l):=by
 unfold mu;split
 · unfold E1 at h;exact h.1
 · exact XS h hl
theorem II {k n m:Int} {s:List UInt8} {v:Vl} {y:Ky} (h1:s.length<=100) (h2:v.2.2.length<=100) (h3:y.2.1.length<=100) (h4:y.2.2.length<=100):Fi (.mk k n m s v y []):=by
 unfold Fi E1;exact ⟨⟨h1,h2,h3,h4,by simp⟩,trivial⟩
theorem kB {L:List Tk} {i:Nat} {a:Tr} {j:Nat} (h:IF L i=.ok a j):Fi a:=by
 unfold IF at h;split at h
 · injection h with h _;subst h;exact Hm _ _
 split at h
 · injection h with h _;subst h;exact Hm _ _
 split at h
 · obtain ⟨_,i1,r1,h⟩:=Ao h
   obtain ⟨_,i2,r2,h⟩:=Ao h;injection h with h _
   subst h;exact II (Ty (PU r2)) (by simp [zV]) (by simp [zK]) (by simp [zK])
 split at h
 · obtain ⟨_,i1,r1,h⟩:=Ao h
   obtain ⟨_,i2,r2,h⟩:=Ao h;obtain ⟨_,i3,r3,h⟩:=Ao h;injection h with h _
   subst h;exact II (by simp) (by simp [zV]) (by simp [zK]) (by simp [zK])
 split at h
 · obtain ⟨_,i1,r1,h⟩:=Ao h
   injection h with h _
   subst h;exact II (by simp) (by simp [zV]) (by simp [zK]) (by simp [zK])
 split at h
 · split at h
   · injection h with h _;subst h;exact II (by simp) (by simp [zV]) (by simp [zK]) (by simp [zK])
   · injection h with h _;subst h;exact II (by simp) (by simp [zV]) (by simp [zK]) (by simp [zK])
 · cases h
theorem gP {L:List Tk} {i:Nat} {a:Ky} {j:Nat} (h:Fv L i=.ok a j):Fo a.2.1=true/\Fo a.2.2=true:=by
 unfold Fv at h;obtain ⟨_,i1,r1,h⟩:=Ao h;obtain ⟨_,i2,r2,h⟩:=Ao h;obtain ⟨_,i3,r3,h⟩:=Ao h;obtain ⟨_,i4,r4,h⟩:=Ao h;obtain ⟨_,i5,r5,h⟩:=Ao h;injection h with h _
 subst h;exact ⟨PU r3,PU r5⟩
def pD:NT->Prop
 | .chainL _ acc=>E1 acc/\acc.length<=8
 | .sumL e=>Fi e
 | .prodL e=>Fi e
 | _=>True
theorem Ws (b:Bool):pD (Ee b):=by cases b <;> trivial
theorem Z3 {L:List Tk} (hT:TokOK L):∀ (n:Nat) (nt:NT) (o i:Nat) (a:Tr) (j:Nat),pD nt->pz L n nt o i=.ok a j->Fi a:=by
 intro n
 induction n with
 | zero=>intro nt o i a j hi h;cases h
 | succ n ih=>
  intro nt o i a j hi h;cases nt with
  | expr=>
   rw [pz] at h;split at h
   · split at h
     · obtain ⟨_,i1,r1,h⟩:=Ao h
       obtain ⟨_,i2,r2,h⟩:=Ao h;obtain ⟨_,i3,r3,h⟩:=Ao h;obtain ⟨_,i4,r4,h⟩:=Ao h;obtain ⟨_,i5,r5,h⟩:=Ao h;injection h with h _
       subst h;exact tY (ih _ _ _ _ _ (by trivial) r1) (ih _ _ _ _ _ (by trivial) r3) (ih _ _ _ _ _ (by trivial) r5)
     · cases h
   · exact ih _ _ _ _ _ (by trivial) h
  | chain b=>
   rw [pz] at h;obtain ⟨_,i1,r1,h⟩:=Ao h;exact ih (.chainL b [_]) _ _ _ _ ⟨by unfold E1 E1;exact ⟨ih _ _ _ _ _ (Ws b) r1,trivial⟩,by simp⟩ h
  | chainL b acc=>
   rw [pz] at h;split at h
   · split at h
     · cases h
     · rename_i h8
       obtain ⟨_,i1,r1,h⟩:=Ao h;exact ih (.chainL b (acc++[_])) _ _ _ _ ⟨qH hi.1 (ih _ _ _ _ _ (Ws b) r1),by have:=hi.2;rw [List.length_append];simp;omega⟩ h
   · injection h with h _
     subst h;exact tZ b hi.1 (by have:=hi.2;omega)
  | not=>
   rw [pz] at h;split at h
   · split at h
     · obtain ⟨_,i1,r1,h⟩:=Ao h
       injection h with h _
       subst h;exact Z2 (ih _ _ _ _ _ (by trivial) r1)
     · cases h
   · exact ih _ _ _ _ _ (by trivial) h
  | cmp=>
   rw [pz] at h;obtain ⟨_,i1,r1,h⟩:=Ao h;split at h
   · obtain ⟨_,i2,r2,h⟩:=Ao h
     injection h with h _
     subst h;exact qI _ (ih _ _ _ _ _ (by trivial) r1) (ih _ _ _ _ _ (by trivial) r2)
   · injection h with h _
     subst h;exact ih _ _ _ _ _ (by trivial) r1
  | sum=>
   rw [pz] at h;obtain ⟨_,i1,r1,h⟩:=Ao h;exact ih (.sumL _) _ _ _ _ (show Fi _ from ih _ _ _ _ _ (by trivial) r1) h
  | sumL e=>
   rw [pz] at h;split at h
   · obtain ⟨_,i1,r1,h⟩:=Ao h
     exact ih (.sumL _) _ _ _ _ (show Fi _ from H7 hi (ih _ _ _ _ _ (by trivial) r1)) h
   · split at h
     · obtain ⟨_,i1,r1,h⟩:=Ao h
       exact ih (.sumL _) _ _ _ _ (show Fi _ from H7 hi (ih _ _ _ _ _ (by trivial) r1)) h
     · injection h with h _
       subst h;exact hi
  | prod=>
   rw [pz] at h;obtain ⟨_,i1,r1,h⟩:=Ao h;exact ih (.prodL _) _ _ _ _ (show Fi _ from ih _ _ _ _ _ (by trivial) r1) h
  | prodL e=>
   rw [pz] at h;split at h
   · obtain ⟨_,i1,r1,h⟩:=Ao h
     exact ih (.prodL _) _ _ _ _ (show Fi _ from H7 hi (ih _ _ _ _ _ (by trivial) r1)) h
   · injection h with h _
     subst h;exact hi
  | un=>
   rw [pz] at h;split at h
   · split at h
     · injection h with h _;subst h;exact Hm _ _
     · split at h
       · obtain ⟨_,i1,r1,h⟩:=Ao h
         injection h with h _
         subst h;exact H7 (Hm _ _) (ih _ _ _ _ _ (by trivial) r1)
       · cases h
   · exact ih _ _ _ _ _ (by trivial) h
  | prim=>
   rw [pz] at h;split at h
   · injection h with h _;subst h;exact Hm _ _
   split at h
   · obtain ⟨_,i1,r1,h⟩:=Ao h
     injection h with h _
     subst h;have:=gP r1;exact II (by simp) (by simp [zV]) (Ty this.1) (Ty this.2)
   split at h
   · rename_i hk
     injection h with h _
     subst h;exact II (by simp) (by have:=hT.str i hk;simp only;omega) (by simp [zK]) (by simp [zK])
   split at h
   · obtain ⟨_,i1,r1,h⟩:=Ao h
     injection h with h _
     subst h;exact Hm _ _
   split at h
   · split at h
     · obtain ⟨_,i1,r1,h⟩:=Ao h
       obtain ⟨_,i2,r2,h⟩:=Ao h;injection h with h _
       subst h;exact ih _ _ _ _ _ (by trivial) r1
     · cases h
   · exact kB h
theorem KV:Bk CC y0 (y0.body.getD .skip)=true:=by kernel_rfl
theorem J8:CC.P.funcs[27]?=some y0:=by kernel_rfl
theorem D3 {x:List PV} {b:List PBox} (h:x.length.ble y0.ntmps=true):Ae CC 27 x b=CB CC y0.results.toList (Cp CC (y0.body.getD .skip) ⟨x,b⟩):=Ah (fn:=y0) (c:=y0.body.getD .skip) rfl rfl J8 rfl KV (y2 h)
theorem HI {id:Nat} {L:List Tk} {RL:PV} (hR:RL.pure=true) (hT:TokOK L) {i:Nat} (hi:i < L.length) (n:Nat) (o:Nat) (ho:o=0):YC 27 [] id L RL i o DH (Db L n i):=by
 have e:Db L n i=(pz L n .expr o i).bind fun e j=>if Ry e=0 then .ok e j else .bad (atT L i) (Ry e):=by subst ho;rfl
 rw [e];have h1:=(nU (id:=id) (RL:=RL) hR hT n).1 i o hi (by omega);cases r1:pz L n .expr o i with
 | out=>exact A4
 | bad t e=>
  rw [r1] at h1;obtain ⟨i',o',h1⟩:=h1;refine AV ⟨i',o',AF hR fun bx Ad hc=>?_⟩;have t0:=Ab Ad hc hR (AJ (id:=id) (o:=o) hR hi);have t1:=At Ad hc hR h1;rw [D3 rfl];unfold Av;rw [<- Am];rw [<- AK] at t0 t1;simp only [Aa,Ac,y0,yW];simp only [S9,Ag,seval,PY,PZ,Aw,Al,t0,t1,SX,Ad];exact ⟨_,rfl⟩
 | ok a j=>
  rw [r1] at h1;dsimp only [AA];have fF:=UN a (Z3 hT _ _ _ _ _ _ (by trivial) r1);rw [An] at fF;by_cases hz:Ry a=0
  · rw [if_pos hz]
    rw [hz] at fF;refine BB (Bl hR (fun n=>by rw [An];simp only [SX,PV.under]) fun bx Ad hc=>?_);have t0:=Ab Ad hc hR (AJ (id:=id) (o:=o) hR hi);have t1:=Ab Ad hc hR h1;rw [An] at t1 |-;rw [D3 rfl];unfold Av;rw [<- Am];rw [<- AK] at t0 t1 fF;simp only [Aa,Ac,y0,yW];simp only [S9,Ag,seval,PY,PZ,Aw,Al,t0,t1,fF,SX,Ad];exact ⟨_,rfl⟩
  · rw [if_neg hz]
    have xL:(Ry a != 0)=true:=by simp [bne_iff_ne,hz]
    have hj:=(Hq hT _ _ _ _ _ _ hi r1).2;have hf:=Dk (id:=id) (i:=j) (o:=o) (L:=L) (RL:=RL) hR (tokAt L i).1 (tokAt L i).2.1 (tokAt L i).2.2 (Ry a);refine AV ⟨j,o,AF hR fun bx Ad hc=>?_⟩;have t0:=Ab Ad hc hR (AJ (id:=id) (o:=o) hR hi);have t1:=Ab Ad hc hR h1;rw [An] at t1;have t2:=At Ad hc hR hf;rw [D3 rfl];unfold Av atT;rw [<- Am];rw [<- AK] at t0 t1 fF t2;simp only [Aa,Ac,y0,yW];simp only [S9,Ag,seval,PY,PZ,Aw,Al,t0,t1,fF,xL,t2,SX,Ad];exact ⟨_,rfl⟩
structure Tg where
 k:Int
 key:Ky
 ev:Ky
 nm:List UInt8
 n:Int
 m:Int
def BJ (t:Tg):PV:=.agg [.int .i64 t.k,.int .i64 t.key.1,.str t.key.2.1,.str t.key.2.2,.int .i64 t.ev.1,.str t.ev.2.1,.str t.ev.2.2,.str t.nm,.int .i64 t.n,.int .i64 t.m]
structure Sp where
 k:Int
 key:Ky
 nm:List UInt8
 ex:Tr
def M7 (s:Sp):List PV:=[.int .i64 s.k,.int .i64 s.key.1,.str s.key.2.1,.str s.key.2.2,.str s.nm]++A7 s.ex
def B1 (s:Sp):PV:=.agg (M7 s)
structure Rl where
 nm:List UInt8
 pr:Int
 on:List Tg
 ife:Tr
 dos:List Sp
def DK (L:List Tk) (i:Nat):PR Tg:=
 if B2 L 1 [99,104,97,110,103,101] i then (Fv L (i+1)).bind fun k i=>.ok ⟨1,k,zK,[],0,0⟩ i else
 if B2 L 1 [101,118,101,110,116] i then (Fv L (i+1)).bind fun k i=>.ok ⟨2,zK,k,[],0,0⟩ i else
 if B2 L 1 [116,105,109,101] i then (GG L (i+1)).bind fun n i=>if B2 L 1 [100,97,121,115] i then (KA L (i+1)).bind fun m i=>.ok ⟨3,zK,zK,[],n,m⟩ i else .ok ⟨3,zK,zK,[],n,127⟩ i else
 if B2 L 1 [109,111,100,101] i then (if (tokAt L (i+1)).1=1 then (CI L (i+1)).bind fun s i=>.ok ⟨4,zK,zK,s,0,0⟩ i else .ok ⟨4,zK,zK,[],0,0⟩ (i+1)) else
 if B2 L 1 [115,116,97,114,116] i then .ok ⟨5,zK,zK,[],0,0⟩ (i+1) else
 (BM L 1 [104,111,108,100] i).bind fun _ i=>(Hj L 0 1099511627776 i).bind fun n i=>.ok ⟨6,zK,zK,[],n,0⟩ i
def FQ (L:List Tk) (n i:Nat):PR Sp:=
 if B2 L 1 [115,101,116] i then (Fv L (i+1)).bind fun k i=>(BM L 4 [61] i).bind fun _ i=>(Db L n i).bind fun e i=>.ok ⟨1,k,[],e⟩ i else
 if B2 L 1 [99,97,108,108] i then (Fv L (i+1)).bind fun k i=>if B2 L 4 [40] i then (Db L n (i+1)).bind fun e i=>(BM L 4 [41] i).bind fun _ i=>.ok ⟨2,(k.1,k.2.1,[]),k.2.2,e⟩ i else .ok ⟨2,(k.1,k.2.1,[]),k.2.2,zT⟩ i else
 if B2 L 1 [115,99,101,110,101] i then (CI L (i+1)).bind fun s i=>.ok ⟨3,zK,s,zT⟩ i else
 if B2 L 1 [109,111,100,101] i then (CI L (i+1)).bind fun s i=>.ok ⟨4,zK,s,zT⟩ i else
 (BM L 1 [110,111,116,105,102,121] i).bind fun _ i=>(IY L 3 i).bind fun t i=>.ok ⟨5,zK,t.2.1,zT⟩ i
def BU {α:Type} (L:List Tk) (w:List UInt8) (part:Nat->PR α):Nat->List α->Nat->PR (List α)
 | 0,_,_=>.out
 | n+1,acc,i=>if acc.length=0\/B2 L 1 w i=true then (if acc.length=8 then .bad (atT L i) 3 else (BM L 1 w i).bind fun _ i=>(part i).bind fun a i=>(BM L 4 [59] i).bind fun _ i=>BU L w part n (acc++[a]) i) else .ok acc i
def wT:Tr:=.mk 1 0 0 [] (1,1,[]) zK []
def Jr (L:List Tk) (n:Nat) (rs:List Rl) (i:Nat):PR Rl:=
 if B2 L 1 [114,117,108,101] i=true/\rs.length=40 then .bad (atT L i) 3 else
 (BM L 1 [114,117,108,101] i).bind fun _ i0=>(CI L i0).bind fun nm i=>
 if rs.any (fun r=>r.nm == nm) then .bad (atT L i0) 9 else
 (if B2 L 1 [112,114,105,111,114,105,116,121] i then Hj L 0 100 (i+1) else .ok 0 i).bind fun pr i=>(BM L 4 [123] i).bind fun _ i=>
 (BU L [111,110] (DK L) 10 [] i).bind fun on i=>
 (if B2 L 1 [105,102] i then (Db L n (i+1)).bind fun e i=>(BM L 4 [59] i).bind fun _ i=>.ok e i else .ok wT i).bind fun e i=>
 (BU L [100,111] (FQ L n) 10 [] i).bind fun dos i=>(BM L 4 [125] i).bind fun _ i=>.ok ⟨nm,pr,on,e,dos⟩ i
theorem Js:Bk CC yZ (yZ.body.getD .skip)=true:=by kernel_rfl
theorem I7:CC.P.funcs[40]?=some yZ:=by kernel_rfl
theorem AO {x:List PV} {b:List PBox} (h:x.length.ble yZ.ntmps=true):Ae CC 40 x b=CB CC yZ.results.toList (Cp CC (yZ.body.getD .skip) ⟨x,b⟩):=Ah (fn:=yZ) (c:=yZ.body.getD .skip) rfl rfl I7 rfl Js (y2 h)
theorem LA:Bk CC yY (yY.body.getD .skip)=true:=by kernel_rfl
theorem KW:CC.P.funcs[42]?=some yY:=by kernel_rfl
theorem AU {x:List PV} {b:List PBox} (h:x.length.ble yY.ntmps=true):Ae CC 42 x b=CB CC yY.results.toList (Cp CC (yY.body.getD .skip) ⟨x,b⟩):=Ah (fn:=yY) (c:=yY.body.getD .skip) rfl rfl KW rfl LA (y2 h)
theorem ua (d:Int) (a b:List UInt8):Bp CC 46 [(0,.int .i64 1),(1,.agg [.int .i64 d,.str a,.str b])]=some (.agg [.int .i64 1,.int .i64 d,.str a,.str b,.int .i64 0,.str [],.str [],.str [],.int .i64 0,.int .i64 0]):=by kernel_rfl
theorem yA (d:Int) (a b:List UInt8):Bp CC 44 [(0,.int .i64 d),(1,.str a),(2,.str b)]=some (.agg [.int .i64 d,.str a,.str b]):=by kernel_rfl
theorem ub (d:Int) (a b:List UInt8):Bp CC 46 [(0,.int .i64 2),(2,.agg [.int .i64 d,.str a,.str b])]=some (.agg [.int .i64 2,.int .i64 0,.str [],.str [],.int .i64 d,.str a,.str b,.str [],.int .i64 0,.int .i64 0]):=by kernel_rfl
theorem kC (n:Int):Bp CC 46 [(0,.int .i64 3),(4,.int .i64 n),(5,.int .i64 127)]=some (.agg [.int .i64 3,.int .i64 0,.str [],.str [],.int .i64 0,.str [],.str [],.str [],.int .i64 n,.int .i64 127]):=by kernel_rfl
theorem uc (k:Int):Bp CC 46 [(0,.int .i64 k)]=some (.agg [.int .i64 k,.int .i64 0,.str [],.str [],.int .i64 0,.str [],.str [],.str [],.int .i64 0,.int .i64 0]):=by kernel_rfl
theorem wM (s:List UInt8):Bp CC 46 [(0,.int .i64 4),(3,.str s)]=some (.agg [.int .i64 4,.int .i64 0,.str [],.str [],.int .i64 0,.str [],.str [],.str s,.int .i64 0,.int .i64 0]):=by kernel_rfl
theorem ud (n:Int):Bp CC 46 [(0,.int .i64 6),(4,.int .i64 n)]=some (.agg [.int .i64 6,.int .i64 0,.str [],.str [],.int .i64 0,.str [],.str [],.str [],.int .i64 n,.int .i64 0]):=by kernel_rfl
theorem gQ (d:Int) (a:List UInt8):Bp CC 32 [(0,.int .i64 d),(1,.str a)]=some (.agg [.int .i64 d,.str a,.str []]):=by kernel_rfl
theorem gR (d:Int) (a b:List UInt8):Bp CC 49 [(0,.int .i64 1),(1,.agg [.int .i64 d,.str a,.str b])]=some (.agg [.int .i64 1,.int .i64 d,.str a,.str b,.str [],.int .i64 0,.int .i64 0,.int .i64 0,.str [],.int .i64 0,.int .i64 0,.str [],.int .i64 0,.str [],.str [],.nils]):=by kernel_rfl
theorem gS (d:Int) (a b s:List UInt8):Bp CC 49 [(0,.int .i64 2),(1,.agg [.int .i64 d,.str a,.str b]),(2,.str s)]=some (.agg [.int .i64 2,.int .i64 d,.str a,.str b,.str s,.int .i64 0,.int .i64 0,.int .i64 0,.str [],.int .i64 0,.int .i64 0,.str [],.int .i64 0,.str [],.str [],.nils]):=by kernel_rfl
theorem sI (k:Int) (s:List UInt8):Bp CC 49 [(0,.int .i64 k),(2,.str s)]=some (.agg [.int .i64 k,.int .i64 0,.str [],.str [],.str s,.int .i64 0,.int .i64 0,.int .i64 0,.str [],.int .i64 0,.int .i64 0,.str [],.int .i64 0,.str [],.str [],.nils]):=by kernel_rfl
theorem EJ {L:List Tk} (hT:TokOK L) {n i:Nat} {a:Tr} {j:Nat} (hi:i < L.length) (h:Db L n i=.ok a j):i<=j/\j < L.length:=by
 unfold Db at h;obtain ⟨_,i1,r1,h⟩:=Ao h;split at h
 · injection h with _ h
   subst h;exact Hq hT _ _ _ _ _ _ hi r1
 · cases h
theorem DP:A7 zT=[.int .i64 0,.int .i64 0,.int .i64 0,.str [],.int .i64 0,.int .i64 0,.str [],.int .i64 0,.str [],.str [],.sl []]:=by unfold A7 zT DH zV zK BS;rfl
theorem Z4 {id:Nat} {L:List Tk} {i o:Nat} {RL:PV} (hR:RL.pure=true) (hi:i < L.length) (hT:TokOK L):YC 40 [] id L RL i o BJ (DK L i):=by
 unfold DK;cases f0:B2 L 1 [99,104,97,110,103,101] i with
 | true=>
  simp only [if_true];have DF:=AG hT hi f0 (by decide);have h1:=XF (id:=id) (o:=o) (i:=(i+1)) hR DF hT;cases r1:Fv L  (i+1) with
  | out=>exact A4
  | bad t e=>
   rw [r1] at h1;obtain ⟨i',o',h1⟩:=h1;refine AV ⟨i',o',AF hR fun bx Ad hc=>?_⟩;have q0:=Ab Ad hc hR (Az (id:=id) (o:=o) hR hi hT _ f0);have t1:=At Ad hc hR h1;rw [AO rfl];unfold Av;rw [<- Am];rw [<- AK] at q0 t1;simp only [Aa,Ac,yZ,yW];simp only [S9,Ag,seval,PY,PZ,Aw,Al,q0,t1,SX,Ad];exact ⟨_,rfl⟩
  | ok a1 i1=>
   rw [r1] at h1;dsimp only [AA];have j1:=Eg hT DF r1;have Uc:=j1.2.1;refine BB (Bl hR (fun n=>by unfold BJ;simp only [SU]) fun bx Ad hc=>?_);have q0:=Ab Ad hc hR (Az (id:=id) (o:=o) hR hi hT _ f0);have t1:=Ab Ad hc hR h1;unfold qE at t1;unfold BJ
   try unfold zK
   try simp only [DP]
   rw [AO rfl];unfold Av;rw [<- Am];rw [<- AK] at q0 t1;simp only [Aa,Ac,yZ,yW];simp only [S9,Ag,seval,PY,PZ,Aw,Al,q0,t1,ua,SX,Ad];exact ⟨_,rfl⟩
 | false=>
  simp only [yX,if_false];cases f1:B2 L 1 [101,118,101,110,116] i with
  | true=>
   simp only [if_true];have B8:=AG hT hi f1 (by decide);have h1:=Tt (id:=id) (o:=o) (i:=(i+1)) hR B8 hT;cases r1:Fv L  (i+1) with
   | out=>exact A4
   | bad t e=>
    rw [r1] at h1;obtain ⟨i',o',h1⟩:=h1;refine AV ⟨i',o',AF hR fun bx Ad hc=>?_⟩;have q0:=Ab Ad hc hR (Ai (id:=id) (o:=o) hR hi hT _ f0);have q1:=Ab Ad hc hR (Az (id:=id) (o:=o) hR hi hT _ f1);have t1:=At Ad hc hR h1;rw [AO rfl];unfold Av;rw [<- Am];rw [<- AK] at q0 q1 t1;simp only [Aa,Ac,yZ,yW];simp only [S9,Ag,seval,PY,PZ,Aw,Al,q0,q1,t1,SX,Ad];exact ⟨_,rfl⟩
   | ok a1 i1=>
    rw [r1] at h1;dsimp only [AA];have j1:=Eg hT B8 r1;have Uc:=j1.2.1;refine BB (Bl hR (fun n=>by unfold BJ;simp only [SU]) fun bx Ad hc=>?_);have q0:=Ab Ad hc hR (Ai (id:=id) (o:=o) hR hi hT _ f0);have q1:=Ab Ad hc hR (Az (id:=id) (o:=o) hR hi hT _ f1);have t1:=Ab Ad hc hR h1;unfold BJ
    try unfold zK
    try simp only [DP]
    rw [AO rfl];unfold Av;rw [<- Am];rw [<- AK] at q0 q1 t1;simp only [Aa,Ac,yZ,yW];simp only [S9,Ag,seval,PY,PZ,Aw,Al,q0,q1,t1,ub,yA,SX,Ad];exact ⟨_,rfl⟩
  | false=>
   simp only [yX,if_false];cases f2:B2 L 1 [116,105,109,101] i with
   | true=>
    simp only [if_true];have FV:=AG hT hi f2 (by decide);have h1:=PN (id:=id) (o:=o) (i:=(i+1)) hR FV hT;cases r1:GG L  (i+1) with
    | out=>exact A4
    | bad t e=>
     rw [r1] at h1;obtain ⟨i',o',h1⟩:=h1;refine AV ⟨i',o',AF hR fun bx Ad hc=>?_⟩;have q0:=Ab Ad hc hR (Ai (id:=id) (o:=o) hR hi hT _ f0);have q1:=Ab Ad hc hR (Ai (id:=id) (o:=o) hR hi hT _ f1);have q2:=Ab Ad hc hR (Az (id:=id) (o:=o) hR hi hT _ f2);have t1:=At Ad hc hR h1;rw [AO rfl];unfold Av;rw [<- Am];rw [<- AK] at q0 q1 q2 t1;simp only [Aa,Ac,yZ,yW];simp only [S9,Ag,seval,PY,PZ,Aw,Al,q0,q1,q2,t1,SX,Ad];exact ⟨_,rfl⟩
    | ok a1 i1=>
     rw [r1] at h1;dsimp only [AA];have j1:=GH hT FV r1;have Uc:=j1.2.1;cases f7:B2 L 1 [100,97,121,115] i1 with
     | true=>
      simp only [if_true];have mJ:=AG hT Uc f7 (by decide);have h2:=ZZ (id:=id) (o:=o) (i:=(i1+1)) hR mJ hT;cases r2:KA L  (i1+1) with
      | out=>exact A4
      | bad t e=>
       rw [r2] at h2;obtain ⟨i',o',h2⟩:=h2;refine AV ⟨i',o',AF hR fun bx Ad hc=>?_⟩;have q0:=Ab Ad hc hR (Ai (id:=id) (o:=o) hR hi hT _ f0);have q1:=Ab Ad hc hR (Ai (id:=id) (o:=o) hR hi hT _ f1);have q2:=Ab Ad hc hR (Az (id:=id) (o:=o) hR hi hT _ f2);have t1:=Ab Ad hc hR h1;have q7:=Ab Ad hc hR (Az (id:=id) (o:=o) hR Uc hT _ f7);have t2:=At Ad hc hR h2;rw [AO rfl];unfold Av;rw [<- Am];rw [<- AK] at q0 q1 q2 t1 q7 t2;simp only [Aa,Ac,yZ,yW];simp only [S9,Ag,seval,PY,PZ,Aw,Al,q0,q1,q2,t1,q7,t2,kC,SX,Ad];exact ⟨_,rfl⟩
      | ok a2 i2=>
       rw [r2] at h2;dsimp only [AA];have j2:=OF hT mJ r2;have oW:=j2.2.1;refine BB (Bl hR (fun n=>by unfold BJ;simp only [SU]) fun bx Ad hc=>?_);have q0:=Ab Ad hc hR (Ai (id:=id) (o:=o) hR hi hT _ f0);have q1:=Ab Ad hc hR (Ai (id:=id) (o:=o) hR hi hT _ f1);have q2:=Ab Ad hc hR (Az (id:=id) (o:=o) hR hi hT _ f2);have t1:=Ab Ad hc hR h1;have q7:=Ab Ad hc hR (Az (id:=id) (o:=o) hR Uc hT _ f7);have t2:=Ab Ad hc hR h2;unfold BJ
       try unfold zK
       try simp only [DP]
       rw [AO rfl];unfold Av;rw [<- Am];rw [<- AK] at q0 q1 q2 t1 q7 t2;simp only [Aa,Ac,yZ,yW];simp only [S9,Ag,seval,PY,PZ,Aw,Al,q0,q1,q2,t1,q7,t2,kC,SX,Ad];exact ⟨_,rfl⟩
     | false=>
      simp only [yX,if_false];refine BB (Bl hR (fun n=>by unfold BJ;simp only [SU]) fun bx Ad hc=>?_);have q0:=Ab Ad hc hR (Ai (id:=id) (o:=o) hR hi hT _ f0);have q1:=Ab Ad hc hR (Ai (id:=id) (o:=o) hR hi hT _ f1);have q2:=Ab Ad hc hR (Az (id:=id) (o:=o) hR hi hT _ f2);have t1:=Ab Ad hc hR h1;have q7:=Ab Ad hc hR (Ai (id:=id) (o:=o) hR Uc hT _ f7);unfold BJ
      try unfold zK
      try simp only [DP]
      rw [AO rfl];unfold Av;rw [<- Am];rw [<- AK] at q0 q1 q2 t1 q7;simp only [Aa,Ac,yZ,yW];simp only [S9,Ag,seval,PY,PZ,Aw,Al,q0,q1,q2,t1,q7,kC,SX,Ad];exact ⟨_,rfl⟩
   | false=>
    simp only [yX,if_false];cases f3:B2 L 1 [109,111,100,101] i with
    | true=>
     simp only [if_true];have VS:=AG hT hi f3 (by decide);have k2:=JX (tokAt L (i+1)).1 1;by_cases hk:(tokAt L (i+1)).1=1
     · rw [if_pos hk]
       rw [beq_iff_eq.2 hk] at k2;have k2:(((tokAt L (i+1)).1:Int) != 1)=false:=k2;have h5:=H4 (id:=id) (o:=o) (i:=(i+1)) hR VS hT;cases r5:CI L (i+1) with
       | out=>exact A4
       | bad t e=>
        rw [r5] at h5;obtain ⟨i',o',h5⟩:=h5;refine AV ⟨i',o',AF hR fun bx Ad hc=>?_⟩;have q0:=Ab Ad hc hR (Ai (id:=id) (o:=o) hR hi hT _ f0);have q1:=Ab Ad hc hR (Ai (id:=id) (o:=o) hR hi hT _ f1);have q2:=Ab Ad hc hR (Ai (id:=id) (o:=o) hR hi hT _ f2);have q3:=Ab Ad hc hR (Az (id:=id) (o:=o) hR hi hT _ f3);have tm:=Ab Ad hc hR (AJ (id:=id) (o:=o) hR VS);have t5:=At Ad hc hR h5;rw [AO rfl];unfold Av;rw [<- Am];rw [<- AK] at q0 q1 q2 q3 tm t5;simp only [Aa,Ac,yZ,yW];simp only [S9,Ag,seval,PY,PZ,Aw,Al,q0,q1,q2,q3,tm,t5,k2,SX,Ad];exact ⟨_,rfl⟩
       | ok a5 i5=>
        rw [r5] at h5;dsimp only [AA];have j5:=Dt hT VS r5;have s6:=j5.2;refine BB (Bl hR (fun n=>by unfold BJ;simp only [SU]) fun bx Ad hc=>?_);have q0:=Ab Ad hc hR (Ai (id:=id) (o:=o) hR hi hT _ f0);have q1:=Ab Ad hc hR (Ai (id:=id) (o:=o) hR hi hT _ f1);have q2:=Ab Ad hc hR (Ai (id:=id) (o:=o) hR hi hT _ f2);have q3:=Ab Ad hc hR (Az (id:=id) (o:=o) hR hi hT _ f3);have tm:=Ab Ad hc hR (AJ (id:=id) (o:=o) hR VS);have t5:=Ab Ad hc hR h5;unfold BJ
        try unfold zK
        try simp only [DP]
        rw [AO rfl];unfold Av;rw [<- Am];rw [<- AK] at q0 q1 q2 q3 tm t5;simp only [Aa,Ac,yZ,yW];simp only [S9,Ag,seval,PY,PZ,Aw,Al,q0,q1,q2,q3,tm,t5,k2,wM,SX,Ad];exact ⟨_,rfl⟩
     · rw [if_neg hk]
       rw [beq_eq_false_iff_ne.2 hk] at k2;have k2:(((tokAt L (i+1)).1:Int) != 1)=true:=k2;refine BB (Bl hR (fun n=>by unfold BJ;simp only [SU]) fun bx Ad hc=>?_);have q0:=Ab Ad hc hR (Ai (id:=id) (o:=o) hR hi hT _ f0);have q1:=Ab Ad hc hR (Ai (id:=id) (o:=o) hR hi hT _ f1);have q2:=Ab Ad hc hR (Ai (id:=id) (o:=o) hR hi hT _ f2);have q3:=Ab Ad hc hR (Az (id:=id) (o:=o) hR hi hT _ f3);have tm:=Ab Ad hc hR (AJ (id:=id) (o:=o) hR VS);unfold BJ
       try unfold zK
       try simp only [DP]
       rw [AO rfl];unfold Av;rw [<- Am];rw [<- AK] at q0 q1 q2 q3 tm;simp only [Aa,Ac,yZ,yW];simp only [S9,Ag,seval,PY,PZ,Aw,Al,q0,q1,q2,q3,tm,k2,uc,SX,Ad];exact ⟨_,rfl⟩
    | false=>
     simp only [yX,if_false];cases f4:B2 L 1 [115,116,97,114,116] i with
     | true=>
      simp only [if_true];have iW:=AG hT hi f4 (by decide);refine BB (Bl hR (fun n=>by unfold BJ;simp only [SU]) fun bx Ad hc=>?_);have q0:=Ab Ad hc hR (Ai (id:=id) (o:=o) hR hi hT _ f0);have q1:=Ab Ad hc hR (Ai (id:=id) (o:=o) hR hi hT _ f1);have q2:=Ab Ad hc hR (Ai (id:=id) (o:=o) hR hi hT _ f2);have q3:=Ab Ad hc hR (Ai (id:=id) (o:=o) hR hi hT _ f3);have q4:=Ab Ad hc hR (Az (id:=id) (o:=o) hR hi hT _ f4);unfold BJ
      try unfold zK
      try simp only [DP]
      rw [AO rfl];unfold Av;rw [<- Am];rw [<- AK] at q0 q1 q2 q3 q4;simp only [Aa,Ac,yZ,yW];simp only [S9,Ag,seval,PY,PZ,Aw,Al,q0,q1,q2,q3,q4,uc,SX,Ad];exact ⟨_,rfl⟩
     | false=>
      simp only [yX,if_false];have h5:=CE (id:=id) (o:=o) (i:=i) hR hi hT 1 1 rfl [104,111,108,100];cases r5:BM L 1 [104,111,108,100] i with
      | out=>exact A4
      | bad t e=>
       rw [r5] at h5;obtain ⟨i',o',h5⟩:=h5;refine AV ⟨i',o',AF hR fun bx Ad hc=>?_⟩;have q0:=Ab Ad hc hR (Ai (id:=id) (o:=o) hR hi hT _ f0);have q1:=Ab Ad hc hR (Ai (id:=id) (o:=o) hR hi hT _ f1);have q2:=Ab Ad hc hR (Ai (id:=id) (o:=o) hR hi hT _ f2);have q3:=Ab Ad hc hR (Ai (id:=id) (o:=o) hR hi hT _ f3);have q4:=Ab Ad hc hR (Ai (id:=id) (o:=o) hR hi hT _ f4);have t5:=At Ad hc hR h5;rw [AO rfl];unfold Av;rw [<- Am];rw [<- AK] at q0 q1 q2 q3 q4 t5;simp only [Aa,Ac,yZ,yW];simp only [S9,Ag,seval,PY,PZ,Aw,Al,q0,q1,q2,q3,q4,t5,SX,Ad];exact ⟨_,rfl⟩
      | ok a5 i5=>
       rw [r5] at h5;dsimp only [AA];have j5:=A6 hT hi (by decide) r5;have s6:=j5.2;have h6:=H5 (id:=id) (o:=o) (i:=i5) hR s6 hT 0 1099511627776 0 1099511627776 rfl rfl;cases r6:Hj L 0 1099511627776 i5 with
       | out=>exact A4
       | bad t e=>
        rw [r6] at h6;obtain ⟨i',o',h6⟩:=h6;refine AV ⟨i',o',AF hR fun bx Ad hc=>?_⟩;have q0:=Ab Ad hc hR (Ai (id:=id) (o:=o) hR hi hT _ f0);have q1:=Ab Ad hc hR (Ai (id:=id) (o:=o) hR hi hT _ f1);have q2:=Ab Ad hc hR (Ai (id:=id) (o:=o) hR hi hT _ f2);have q3:=Ab Ad hc hR (Ai (id:=id) (o:=o) hR hi hT _ f3);have q4:=Ab Ad hc hR (Ai (id:=id) (o:=o) hR hi hT _ f4);have t5:=Ab Ad hc hR h5;have t6:=At Ad hc hR h6;rw [AO rfl];unfold Av;rw [<- Am];rw [<- AK] at q0 q1 q2 q3 q4 t5 t6;simp only [Aa,Ac,yZ,yW];simp only [S9,Ag,seval,PY,PZ,Aw,Al,q0,q1,q2,q3,q4,t5,t6,SX,Ad];exact ⟨_,rfl⟩
       | ok a6 i6=>
        rw [r6] at h6;dsimp only [AA];have j6:=GQ hT s6 r6;have hj6:=j6.2.1;refine BB (Bl hR (fun n=>by unfold BJ;simp only [SU]) fun bx Ad hc=>?_);have q0:=Ab Ad hc hR (Ai (id:=id) (o:=o) hR hi hT _ f0);have q1:=Ab Ad hc hR (Ai (id:=id) (o:=o) hR hi hT _ f1);have q2:=Ab Ad hc hR (Ai (id:=id) (o:=o) hR hi hT _ f2);have q3:=Ab Ad hc hR (Ai (id:=id) (o:=o) hR hi hT _ f3);have q4:=Ab Ad hc hR (Ai (id:=id) (o:=o) hR hi hT _ f4);have t5:=Ab Ad hc hR h5;have t6:=Ab Ad hc hR h6;unfold BJ
        try unfold zK
        try simp only [DP]
        rw [AO rfl];unfold Av;rw [<- Am];rw [<- AK] at q0 q1 q2 q3 q4 t5 t6;simp only [Aa,Ac,yZ,yW];simp only [S9,Ag,seval,PY,PZ,Aw,Al,q0,q1,q2,q3,q4,t5,t6,ud,SX,Ad];exact ⟨_,rfl⟩
theorem kD {id:Nat} {L:List Tk} {i o:Nat} {RL:PV} (hR:RL.pure=true) (hi:i < L.length) (hT:TokOK L) (n:Nat) (ho:o=0):YC 42 [] id L RL i o B1 (FQ L n i):=by
 unfold FQ;cases f0:B2 L 1 [115,101,116] i with
 | true=>
  simp only [if_true];have DF:=AG hT hi f0 (by decide);have h1:=XF (id:=id) (o:=o) (i:=(i+1)) hR DF hT;cases r1:Fv L  (i+1) with
  | out=>exact A4
  | bad t e=>
   rw [r1] at h1;obtain ⟨i',o',h1⟩:=h1;refine AV ⟨i',o',AF hR fun bx Ad hc=>?_⟩;have q0:=Ab Ad hc hR (Az (id:=id) (o:=o) hR hi hT _ f0);have t1:=At Ad hc hR h1;rw [AU rfl];unfold Av;rw [<- Am];rw [<- AK] at q0 t1;simp only [Aa,Ac,yY,yW];simp only [S9,Ag,seval,PY,PZ,Aw,Al,q0,t1,gR,SX,Ad];exact ⟨_,rfl⟩
  | ok a1 i1=>
   rw [r1] at h1;dsimp only [AA];have j1:=Eg hT DF r1;have Uc:=j1.2.1;have h2:=CE (id:=id) (o:=o) (i:=i1) hR Uc hT 4 4 rfl [61];cases r2:BM L 4 [61] i1 with
   | out=>exact A4
   | bad t e=>
    rw [r2] at h2;obtain ⟨i',o',h2⟩:=h2;refine AV ⟨i',o',AF hR fun bx Ad hc=>?_⟩;have q0:=Ab Ad hc hR (Az (id:=id) (o:=o) hR hi hT _ f0);have t1:=Ab Ad hc hR h1;unfold qE at t1;have t2:=At Ad hc hR h2;rw [AU rfl];unfold Av;rw [<- Am];rw [<- AK] at q0 t1 t2;simp only [Aa,Ac,yY,yW];simp only [S9,Ag,seval,PY,PZ,Aw,Al,q0,t1,t2,gR,SX,Ad];exact ⟨_,rfl⟩
   | ok a2 i2=>
    rw [r2] at h2;dsimp only [AA];have j2:=A6 hT Uc (by decide) r2;have oW:=j2.2;have h3:=HI (id:=id) (i:=i2) hR hT oW n o ho;cases r3:Db L n i2 with
    | out=>exact A4
    | bad t e=>
     rw [r3] at h3;obtain ⟨i',o',h3⟩:=h3;refine AV ⟨i',o',AF hR fun bx Ad hc=>?_⟩;have q0:=Ab Ad hc hR (Az (id:=id) (o:=o) hR hi hT _ f0);have t1:=Ab Ad hc hR h1;unfold qE at t1;have t2:=Ab Ad hc hR h2;have t3:=At Ad hc hR h3;rw [AU rfl];unfold Av;rw [<- Am];rw [<- AK] at q0 t1 t2 t3;simp only [Aa,Ac,yY,yW];simp only [S9,Ag,seval,PY,PZ,Aw,Al,q0,t1,t2,t3,gR,SX,Ad];exact ⟨_,rfl⟩
    | ok a3 i3=>
     rw [r3] at h3;dsimp only [AA];have j3:=EJ hT oW r3;have hj3:=j3.2;refine BB (Bl hR (fun n=>by unfold B1 M7;simp [PV.under,Au,SX]) fun bx Ad hc=>?_);have q0:=Ab Ad hc hR (Az (id:=id) (o:=o) hR hi hT _ f0);have t1:=Ab Ad hc hR h1;unfold qE at t1;have t2:=Ab Ad hc hR h2;have t3:=Ab Ad hc hR h3;rw [An] at t3;unfold B1 M7
     try unfold zK
     try simp only [DP]
     rw [AU rfl];unfold Av;rw [<- Am];rw [<- AK] at q0 t1 t2 t3;simp only [Aa,Ac,yY,yW];simp only [S9,Ag,seval,PY,PZ,Aw,Al,q0,t1,t2,t3,gR,SX,Ad];exact ⟨_,rfl⟩
 | false=>
  simp only [yX,if_false];cases f1:B2 L 1 [99,97,108,108] i with
  | true=>
   simp only [if_true];have B8:=AG hT hi f1 (by decide);have h1:=Tt (id:=id) (o:=o) (i:=(i+1)) hR B8 hT;cases r1:Fv L  (i+1) with
   | out=>exact A4
   | bad t e=>
    rw [r1] at h1;obtain ⟨i',o',h1⟩:=h1;refine AV ⟨i',o',AF hR fun bx Ad hc=>?_⟩;have q0:=Ab Ad hc hR (Ai (id:=id) (o:=o) hR hi hT _ f0);have q1:=Ab Ad hc hR (Az (id:=id) (o:=o) hR hi hT _ f1);have t1:=At Ad hc hR h1;rw [AU rfl];unfold Av;rw [<- Am];rw [<- AK] at q0 q1 t1;simp only [Aa,Ac,yY,yW];simp only [S9,Ag,seval,PY,PZ,Aw,Al,q0,q1,t1,SX,Ad];exact ⟨_,rfl⟩
   | ok a1 i1=>
    rw [r1] at h1;dsimp only [AA];have j1:=Eg hT B8 r1;have Uc:=j1.2.1;cases f7:B2 L 4 [40] i1 with
    | true=>
     simp only [if_true];have mJ:=AG hT Uc f7 (by decide);have h2:=HI (id:=id) (i:=(i1+1)) hR hT mJ n o ho;cases r2:Db L n (i1+1) with
     | out=>exact A4
     | bad t e=>
      rw [r2] at h2;obtain ⟨i',o',h2⟩:=h2;refine AV ⟨i',o',AF hR fun bx Ad hc=>?_⟩;have q0:=Ab Ad hc hR (Ai (id:=id) (o:=o) hR hi hT _ f0);have q1:=Ab Ad hc hR (Az (id:=id) (o:=o) hR hi hT _ f1);have t1:=Ab Ad hc hR h1;have q7:=Ab Ad hc hR (Bt (id:=id) (o:=o) hR Uc hT _ f7);have t2:=At Ad hc hR h2;rw [AU rfl];unfold Av;rw [<- Am];rw [<- AK] at q0 q1 t1 q7 t2;simp only [Aa,Ac,yY,yW];simp only [S9,Ag,seval,PY,PZ,Aw,Al,q0,q1,t1,q7,t2,gS,gQ,SX,Ad];exact ⟨_,rfl⟩
     | ok a2 i2=>
      rw [r2] at h2;dsimp only [AA];have j2:=EJ hT mJ r2;have oW:=j2.2;have h3:=CE (id:=id) (o:=o) (i:=i2) hR oW hT 4 4 rfl [41];cases r3:BM L 4 [41] i2 with
      | out=>exact A4
      | bad t e=>
       rw [r3] at h3;obtain ⟨i',o',h3⟩:=h3;refine AV ⟨i',o',AF hR fun bx Ad hc=>?_⟩;have q0:=Ab Ad hc hR (Ai (id:=id) (o:=o) hR hi hT _ f0);have q1:=Ab Ad hc hR (Az (id:=id) (o:=o) hR hi hT _ f1);have t1:=Ab Ad hc hR h1;have q7:=Ab Ad hc hR (Bt (id:=id) (o:=o) hR Uc hT _ f7);have t2:=Ab Ad hc hR h2;rw [An] at t2;have t3:=At Ad hc hR h3;rw [AU rfl];unfold Av;rw [<- Am];rw [<- AK] at q0 q1 t1 q7 t2 t3;simp only [Aa,Ac,yY,yW];simp only [S9,Ag,seval,PY,PZ,Aw,Al,q0,q1,t1,q7,t2,t3,gS,gQ,SX,Ad];exact ⟨_,rfl⟩
      | ok a3 i3=>
       rw [r3] at h3;dsimp only [AA];have j3:=A6 hT oW (by decide) r3;have hj3:=j3.2;refine BB (Bl hR (fun n=>by unfold B1 M7;simp [PV.under,Au,SX]) fun bx Ad hc=>?_);have q0:=Ab Ad hc hR (Ai (id:=id) (o:=o) hR hi hT _ f0);have q1:=Ab Ad hc hR (Az (id:=id) (o:=o) hR hi hT _ f1);have t1:=Ab Ad hc hR h1;have q7:=Ab Ad hc hR (Bt (id:=id) (o:=o) hR Uc hT _ f7);have t2:=Ab Ad hc hR h2;rw [An] at t2;have t3:=Ab Ad hc hR h3;unfold B1 M7
       try unfold zK
       try simp only [DP]
       rw [AU rfl];unfold Av;rw [<- Am];rw [<- AK] at q0 q1 t1 q7 t2 t3;simp only [Aa,Ac,yY,yW];simp only [S9,Ag,seval,PY,PZ,Aw,Al,q0,q1,t1,q7,t2,t3,gS,gQ,SX,Ad];exact ⟨_,rfl⟩
    | false=>
     simp only [yX,if_false];refine BB (Bl hR (fun n=>by unfold B1 M7;simp [PV.under,Au,SX]) fun bx Ad hc=>?_);have q0:=Ab Ad hc hR (Ai (id:=id) (o:=o) hR hi hT _ f0);have q1:=Ab Ad hc hR (Az (id:=id) (o:=o) hR hi hT _ f1);have t1:=Ab Ad hc hR h1;have q7:=Ab Ad hc hR (A3 (id:=id) (o:=o) hR Uc hT _ f7);unfold B1 M7
     try unfold zK
     try simp only [DP]
     rw [AU rfl];unfold Av;rw [<- Am];rw [<- AK] at q0 q1 t1 q7;simp only [Aa,Ac,yY,yW];simp only [S9,Ag,seval,PY,PZ,Aw,Al,q0,q1,t1,q7,gS,gQ,SX,Ad];exact ⟨_,rfl⟩
  | false=>
   simp only [yX,if_false];cases f2:B2 L 1 [115,99,101,110,101] i with
   | true=>
    simp only [if_true];have FV:=AG hT hi f2 (by decide);have h1:=H4 (id:=id) (o:=o) (i:=(i+1)) hR FV hT;cases r1:CI L (i+1) with
    | out=>exact A4
    | bad t e=>
     rw [r1] at h1;obtain ⟨i',o',h1⟩:=h1;refine AV ⟨i',o',AF hR fun bx Ad hc=>?_⟩;have q0:=Ab Ad hc hR (Ai (id:=id) (o:=o) hR hi hT _ f0);have q1:=Ab Ad hc hR (Ai (id:=id) (o:=o) hR hi hT _ f1);have q2:=Ab Ad hc hR (Az (id:=id) (o:=o) hR hi hT _ f2);have t1:=At Ad hc hR h1;rw [AU rfl];unfold Av;rw [<- Am];rw [<- AK] at q0 q1 q2 t1;simp only [Aa,Ac,yY,yW];simp only [S9,Ag,seval,PY,PZ,Aw,Al,q0,q1,q2,t1,SX,Ad];exact ⟨_,rfl⟩
    | ok a1 i1=>
     rw [r1] at h1;dsimp only [AA];have j1:=Dt hT FV r1;have Uc:=j1.2;refine BB (Bl hR (fun n=>by unfold B1 M7;simp [PV.under,Au,SX]) fun bx Ad hc=>?_);have q0:=Ab Ad hc hR (Ai (id:=id) (o:=o) hR hi hT _ f0);have q1:=Ab Ad hc hR (Ai (id:=id) (o:=o) hR hi hT _ f1);have q2:=Ab Ad hc hR (Az (id:=id) (o:=o) hR hi hT _ f2);have t1:=Ab Ad hc hR h1;unfold B1 M7
     try unfold zK
     try simp only [DP]
     rw [AU rfl];unfold Av;rw [<- Am];rw [<- AK] at q0 q1 q2 t1;simp only [Aa,Ac,yY,yW];simp only [S9,Ag,seval,PY,PZ,Aw,Al,q0,q1,q2,t1,sI,SX,Ad];exact ⟨_,rfl⟩
   | false=>
    simp only [yX,if_false];cases f3:B2 L 1 [109,111,100,101] i with
    | true=>
     simp only [if_true];have VS:=AG hT hi f3 (by decide);have h1:=H4 (id:=id) (o:=o) (i:=(i+1)) hR VS hT;cases r1:CI L (i+1) with
     | out=>exact A4
     | bad t e=>
      rw [r1] at h1;obtain ⟨i',o',h1⟩:=h1;refine AV ⟨i',o',AF hR fun bx Ad hc=>?_⟩;have q0:=Ab Ad hc hR (Ai (id:=id) (o:=o) hR hi hT _ f0);have q1:=Ab Ad hc hR (Ai (id:=id) (o:=o) hR hi hT _ f1);have q2:=Ab Ad hc hR (Ai (id:=id) (o:=o) hR hi hT _ f2);have q3:=Ab Ad hc hR (Az (id:=id) (o:=o) hR hi hT _ f3);have t1:=At Ad hc hR h1;rw [AU rfl];unfold Av;rw [<- Am];rw [<- AK] at q0 q1 q2 q3 t1;simp only [Aa,Ac,yY,yW];simp only [S9,Ag,seval,PY,PZ,Aw,Al,q0,q1,q2,q3,t1,SX,Ad];exact ⟨_,rfl⟩
     | ok a1 i1=>
      rw [r1] at h1;dsimp only [AA];have j1:=Dt hT VS r1;have Uc:=j1.2;refine BB (Bl hR (fun n=>by unfold B1 M7;simp [PV.under,Au,SX]) fun bx Ad hc=>?_);have q0:=Ab Ad hc hR (Ai (id:=id) (o:=o) hR hi hT _ f0);have q1:=Ab Ad hc hR (Ai (id:=id) (o:=o) hR hi hT _ f1);have q2:=Ab Ad hc hR (Ai (id:=id) (o:=o) hR hi hT _ f2);have q3:=Ab Ad hc hR (Az (id:=id) (o:=o) hR hi hT _ f3);have t1:=Ab Ad hc hR h1;unfold B1 M7
      try unfold zK
      try simp only [DP]
      rw [AU rfl];unfold Av;rw [<- Am];rw [<- AK] at q0 q1 q2 q3 t1;simp only [Aa,Ac,yY,yW];simp only [S9,Ag,seval,PY,PZ,Aw,Al,q0,q1,q2,q3,t1,sI,SX,Ad];exact ⟨_,rfl⟩
    | false=>
     simp only [yX,if_false];have h5:=CE (id:=id) (o:=o) (i:=i) hR hi hT 1 1 rfl [110,111,116,105,102,121];cases r5:BM L 1 [110,111,116,105,102,121] i with
     | out=>exact A4
     | bad t e=>
      rw [r5] at h5;obtain ⟨i',o',h5⟩:=h5;refine AV ⟨i',o',AF hR fun bx Ad hc=>?_⟩;have q0:=Ab Ad hc hR (Ai (id:=id) (o:=o) hR hi hT _ f0);have q1:=Ab Ad hc hR (Ai (id:=id) (o:=o) hR hi hT _ f1);have q2:=Ab Ad hc hR (Ai (id:=id) (o:=o) hR hi hT _ f2);have q3:=Ab Ad hc hR (Ai (id:=id) (o:=o) hR hi hT _ f3);have t5:=At Ad hc hR h5;rw [AU rfl];unfold Av;rw [<- Am];rw [<- AK] at q0 q1 q2 q3 t5;simp only [Aa,Ac,yY,yW];simp only [S9,Ag,seval,PY,PZ,Aw,Al,q0,q1,q2,q3,t5,SX,Ad];exact ⟨_,rfl⟩
     | ok a5 i5=>
      rw [r5] at h5;dsimp only [AA];have j5:=A6 hT hi (by decide) r5;have s6:=j5.2;have h6:=Mb (id:=id) (o:=o) (i:=i5) hR s6 hT 3 3 rfl;cases r6:IY L 3 i5 with
      | out=>exact A4
      | bad t e=>
       rw [r6] at h6;obtain ⟨i',o',h6⟩:=h6;refine AV ⟨i',o',AF hR fun bx Ad hc=>?_⟩;have q0:=Ab Ad hc hR (Ai (id:=id) (o:=o) hR hi hT _ f0);have q1:=Ab Ad hc hR (Ai (id:=id) (o:=o) hR hi hT _ f1);have q2:=Ab Ad hc hR (Ai (id:=id) (o:=o) hR hi hT _ f2);have q3:=Ab Ad hc hR (Ai (id:=id) (o:=o) hR hi hT _ f3);have t5:=Ab Ad hc hR h5;have t6:=At Ad hc hR h6;rw [AU rfl];unfold Av;rw [<- Am];rw [<- AK] at q0 q1 q2 q3 t5 t6;simp only [Aa,Ac,yY,yW];simp only [S9,Ag,seval,PY,PZ,Aw,Al,q0,q1,q2,q3,t5,t6,SX,Ad];exact ⟨_,rfl⟩
      | ok a6 i6=>
       rw [r6] at h6;dsimp only [AA];have j6:=ey hT s6 (by decide) r6;have hj6:=j6.2;refine BB (Bl hR (fun n=>by unfold B1 M7;simp [PV.under,Au,SX]) fun bx Ad hc=>?_);have q0:=Ab Ad hc hR (Ai (id:=id) (o:=o) hR hi hT _ f0);have q1:=Ab Ad hc hR (Ai (id:=id) (o:=o) hR hi hT _ f1);have q2:=Ab Ad hc hR (Ai (id:=id) (o:=o) hR hi hT _ f2);have q3:=Ab Ad hc hR (Ai (id:=id) (o:=o) hR hi hT _ f3);have t5:=Ab Ad hc hR h5;have t6:=Ab Ad hc hR h6;unfold ID at t6;unfold B1 M7
       try unfold zK
       try simp only [DP]
       rw [AU rfl];unfold Av;rw [<- Am];rw [<- AK] at q0 q1 q2 q3 t5 t6;simp only [Aa,Ac,yY,yW];simp only [S9,Ag,seval,PY,PZ,Aw,Al,q0,q1,q2,q3,t5,t6,sI,SX,Ad];exact ⟨_,rfl⟩
end Go.HH
