/-
  What the law needs, packed: PM PN PO PQ.
-/
import Derived.Test.YthjabmlbmnadjaaGreatJ36
open Go.Proofs.Tryz renaming f107->yW,f119->y1,f128->y5
open Option renaming getD->yX
open List renaming getElem?_cons_zero->yY,getElem?_cons_succ->yZ,getElem?_toArray->y0,filterMap_cons->y2,filterMap_nil->y3,not_mem_nil->y4,mem_cons->y6
open Nat renaming reduceLT->y7,le_of_ble_eq_true->y9,le_refl->za
open Bool renaming false_eq_true->y8,and_eq_true->y'
namespace Go.HH
open Go Go.Proofs
set_option maxRecDepth 100000
set_option maxHeartbeats 4000000
set_option linter.unusedSimpArgs false
set_option linter.unusedVariables false
theorem kr {L:List Tk} {i:Nat} {a:Tr} {j:Nat} (hT:TokOK L) (hi:i < L.length) (h:IF L i=.ok a j):i < j/\j < L.length:=by
 unfold IF at h;split at h
 · rename_i hk
   injection h with _ h
   have:=AG hT hi hk (by decide);omega
 split at h
 · rename_i hk
   injection h with _ h
   have:=AG hT hi hk (by decide);omega
 split at h
 · rename_i hk
   have h0:=AG hT hi hk (by decide);obtain ⟨_,i1,r1,h⟩:=Ao h;obtain ⟨_,i2,r2,h⟩:=Ao h;injection h with _ h
   have h1:=A6 hT h0 (by decide) r1;have h2:=Dt hT h1.2 r2;omega
 split at h
 · rename_i hk
   have h0:=AG hT hi hk (by decide);obtain ⟨_,i1,r1,h⟩:=Ao h;obtain ⟨_,i2,r2,h⟩:=Ao h;obtain ⟨_,i3,r3,h⟩:=Ao h;injection h with _ h
   have h1:=GH hT h0 r1;have h2:=A6 hT h1.2.1 (by decide) r2;have h3:=GH hT h2.2 r3;omega
 split at h
 · rename_i hk
   have h0:=AG hT hi hk (by decide);obtain ⟨_,i1,r1,h⟩:=Ao h;injection h with _ h
   have h1:=OF hT h0 r1;omega
 split at h
 · rename_i hk
   have h0:=AG hT hi hk (by decide);split at h
   · rename_i k hp
     injection h with _ h
     obtain ⟨_,_,h4⟩:=G4 hp;have:=AG hT h0 h4 (by decide);omega
   · injection h with _ h
     omega
 · cases h
theorem Hq {L:List Tk} (hT:TokOK L):∀ (n:Nat) (nt:NT) (o i:Nat) (a:Tr) (j:Nat),i < L.length->pz L n nt o i=.ok a j->i<=j/\j < L.length:=by
 intro n
 induction n with
 | zero=>intro nt o i a j hi h;cases h
 | succ n ih=>
  intro nt o i a j hi h;cases nt with
  | expr=>
   rw [pz] at h;split at h
   · rename_i hk
     have h0:=AG hT hi hk (by decide);split at h
     · obtain ⟨_,i1,r1,h⟩:=Ao h
       obtain ⟨_,i2,r2,h⟩:=Ao h;obtain ⟨_,i3,r3,h⟩:=Ao h;obtain ⟨_,i4,r4,h⟩:=Ao h;obtain ⟨_,i5,r5,h⟩:=Ao h;injection h with _ h
       have h1:=ih _ _ _ _ _ h0 r1;have h2:=A6 hT h1.2 (by decide) r2;have h3:=ih _ _ _ _ _ h2.2 r3;have h4:=A6 hT h3.2 (by decide) r4;have h5:=ih _ _ _ _ _ h4.2 r5;omega
     · cases h
   · exact ih _ _ _ _ _ hi h
  | chain b=>
   rw [pz] at h;obtain ⟨_,i1,r1,h⟩:=Ao h;have h1:=ih _ _ _ _ _ hi r1;have h2:=ih _ _ _ _ _ h1.2 h;omega
  | chainL b acc=>
   rw [pz] at h;split at h
   · rename_i hk
     have h0:=AG hT hi hk (by decide);split at h
     · cases h
     · obtain ⟨_,i1,r1,h⟩:=Ao h
       have h1:=ih _ _ _ _ _ h0 r1;have h2:=ih _ _ _ _ _ h1.2 h;omega
   · injection h with _ h;omega
  | not=>
   rw [pz] at h;split at h
   · rename_i hk
     have h0:=AG hT hi hk (by decide);split at h
     · obtain ⟨_,i1,r1,h⟩:=Ao h
       injection h with _ h
       have h1:=ih _ _ _ _ _ h0 r1;omega
     · cases h
   · exact ih _ _ _ _ _ hi h
  | cmp=>
   rw [pz] at h;obtain ⟨_,i1,r1,h⟩:=Ao h;have h1:=ih _ _ _ _ _ hi r1;split at h
   · rename_i k hp
     obtain ⟨_,_,h4⟩:=G4 hp;have h0:=AG hT h1.2 h4 (by decide);obtain ⟨_,i2,r2,h⟩:=Ao h;injection h with _ h
     have h2:=ih _ _ _ _ _ h0 r2;omega
   · injection h with _ h;omega
  | sum=>
   rw [pz] at h;obtain ⟨_,i1,r1,h⟩:=Ao h;have h1:=ih _ _ _ _ _ hi r1;have h2:=ih _ _ _ _ _ h1.2 h;omega
  | sumL e=>
   rw [pz] at h;split at h
   · rename_i hk
     have h0:=AG hT hi hk (by decide);obtain ⟨_,i1,r1,h⟩:=Ao h;have h1:=ih _ _ _ _ _ h0 r1;have h2:=ih _ _ _ _ _ h1.2 h;omega
   · split at h
     · rename_i hk
       have h0:=AG hT hi hk (by decide);obtain ⟨_,i1,r1,h⟩:=Ao h;have h1:=ih _ _ _ _ _ h0 r1;have h2:=ih _ _ _ _ _ h1.2 h;omega
     · injection h with _ h;omega
  | prod=>
   rw [pz] at h;obtain ⟨_,i1,r1,h⟩:=Ao h;have h1:=ih _ _ _ _ _ hi r1;have h2:=ih _ _ _ _ _ h1.2 h;omega
  | prodL e=>
   rw [pz] at h;split at h
   · rename_i hk
     have h0:=AG hT hi hk (by decide);obtain ⟨_,i1,r1,h⟩:=Ao h;have h1:=ih _ _ _ _ _ h0 r1;have h2:=ih _ _ _ _ _ h1.2 h;omega
   · injection h with _ h;omega
  | un=>
   rw [pz] at h;split at h
   · rename_i hk
     have h0:=AG hT hi hk (by decide);split at h
     · rename_i hp
       injection h with _ h
       unfold D0 at hp;simp only [y',beq_iff_eq] at hp;have:=Gb hT h0 (by rw [hp.1];decide);omega
     · split at h
       · obtain ⟨_,i1,r1,h⟩:=Ao h
         injection h with _ h
         have h1:=ih _ _ _ _ _ h0 r1;omega
       · cases h
   · exact ih _ _ _ _ _ hi h
  | prim=>
   rw [pz] at h;split at h
   · rename_i hp
     injection h with _ h
     unfold D0 at hp;simp only [y',beq_iff_eq] at hp;have:=Gb hT hi (by rw [hp.1];decide);omega
   · split at h
     · obtain ⟨_,i1,r1,h⟩:=Ao h
       injection h with _ h
       have h1:=Eg hT hi r1;omega
     · split at h
       · rename_i hk
         injection h with _ h
         have:=Gb hT hi (by rw [hk];decide);omega
       · split at h
         · rename_i hk
           have h0:=AG hT hi hk (by decide);obtain ⟨_,i1,r1,h⟩:=Ao h;injection h with _ h
           have h1:=GQ hT h0 r1;omega
         · split at h
           · rename_i hk
             have h0:=AG hT hi hk (by decide);split at h
             · obtain ⟨_,i1,r1,h⟩:=Ao h
               obtain ⟨_,i2,r2,h⟩:=Ao h;injection h with _ h
               have h1:=ih _ _ _ _ _ h0 r1;have h2:=A6 hT h1.2 (by decide) r2;omega
             · cases h
           · have:=kr hT hi h
             omega
def Gq (f:FuncId) (nt:NT) (id:Nat) (L:List Tk) (RL:PV) (n:Nat):Prop:=∀ i o,i < L.length->o<=100->YC f [] id L RL i o DH (pz L n nt o i)
theorem I2:GY CC y5 (y5.body.getD .skip)=true:=by kernel_rfl
theorem I3:Bk CC y5 (y5.body.getD .skip)=false:=by kernel_rfl
theorem Ij:CC.P.funcs[128]?=some y5:=by kernel_rfl
theorem Dx {x:List PV} {b:List PBox} (h:x.length.ble y5.ntmps=true):Ae CC 128 x b=CB CC y5.results.toList (Hg CC (y5.body.getD .skip) ⟨x,b⟩):=Ce (fn:=y5) (c:=y5.body.getD .skip) rfl rfl Ij rfl I3 I2 (y9 h)
theorem gL (Lc:Code) (hL:Lc=Aa y5 [1,1,0,0]) {id:Nat} {L:List Tk} {o:Nat} {RL:PV} (hR:RL.pure=true) (hT:TokOK L) (ho:o<=100):∀ (m:Nat),(∀ k,k < m->Gq 134 .un id L RL k)->∀ (i:Nat) (a:Tr),i < L.length->match pz L m (.prodL a) o i with
 | .ok v j=>∀ (bx:List PBox) (Ad:id < bx.length) (hc:C5 bx) (e:List PV),getT e 0=.bp id 0->getT e 2=.bp bx.length 0->getT e 3=.bp (bx.length+1) 0->∃ e',Hg CC Lc ⟨e,BX bx id (Av L i o RL) [.cells 35 [.int .i64 0,.int .i64 0,.int .i64 0,.str [],.int .i64 0,.int .i64 0,.str [],.int .i64 0,.str [],.str [],.nils],.cells 35 (A7 a)]⟩=some (.exit 0,⟨e',BX bx id (Av L j o RL) [.cells 35 [.int .i64 0,.int .i64 0,.int .i64 0,.str [],.int .i64 0,.int .i64 0,.str [],.int .i64 0,.str [],.str [],.nils],.cells 35 (A7 v)]⟩)/\getT e' 2=.bp bx.length 0/\getT e' 3=.bp (bx.length+1) 0
 | .bad t c=>∃ i' o',∀ (bx:List PBox) (Ad:id < bx.length) (hc:C5 bx) (e:List PV),getT e 0=.bp id 0->getT e 2=.bp bx.length 0->getT e 3=.bp (bx.length+1) 0->∃ e' ys',Hg CC Lc ⟨e,BX bx id (Av L i o RL) [.cells 35 [.int .i64 0,.int .i64 0,.int .i64 0,.str [],.int .i64 0,.int .i64 0,.str [],.int .i64 0,.str [],.str [],.nils],.cells 35 (A7 a)]⟩=some (.pan (Cr t c),⟨e',BX bx id (Av L i' o' RL) ys'⟩)
 | .out=>True:=by
 intro m
 induction m with
 | zero=>intro _ i a hi;trivial
 | succ m ih=>
  intro hu i a hi;rw [pz];cases hk:B2 L 4 [42] i with
  | false=>
   simp only [y8,if_false];intro bx Ad hc e g0 g2 g3;have t0:=Ab Ad hc hR (A3 (id:=id) (o:=o) hR hi hT _ hk);rw [Eu (Aa y5 [1,1,0,0,0]) hL];unfold Av at |-;rw [<- B5];rw [<- Cu] at t0;simp only [opsOf,Aa,Ac,y5,yX] at |-;simp only [S9,AT,seval,PY,PZ,Aw,g0,g2,g3,t0,SX,Ad];exact ⟨_,rfl,by simp only [S7,AT,seval,g2],by simp only [S7,AT,seval,g3]⟩
  | true=>
   simp only [if_true];have B8:=AG hT hi hk (by decide);have h1:=hu m (by omega) (i+1) o B8 ho;cases r1:pz L m .un o (i+1) with
   | out=>trivial
   | bad t c=>
    rw [r1] at h1;obtain ⟨i',o',h1⟩:=h1;refine ⟨i',o',fun bx Ad hc e g0 g2 g3=>?_⟩;have t0:=Ab Ad hc hR (Bt (id:=id) (o:=o) hR hi hT _ hk);have t1:=At Ad hc hR h1;have hd:=fun e g0 g3=>Vv (L:=L) hR a Ad hc e g0 g3 t1;rw [Eu (Aa y5 [1,1,0,0,0]) hL];simp only [<- AP XG] at hd;unfold Av at|-hd;rw [<- B5];rw [<- Cu] at t0;rw [<- Fm] at hd;simp only [opsOf,Aa,Ac,y5,yX] at|-hd;simp only [S9,AT,seval,PY,PZ,Aw,g0,g2,g3,t0,hd,SX,Ad];exact ⟨_,_,rfl⟩
   | ok b i1=>
    rw [r1] at h1;have FV:=(Hq hT _ _ _ _ _ _ B8 r1).2;dsimp only [AA];have key:=ih (fun k hk=>hu k (by omega)) i1 (Bb 13 [a,b]) FV;cases r2:pz L m (.prodL (Bb 13 [a,b])) o i1 with
    | out=>trivial
    | ok v j=>
     rw [r2] at key;intro bx Ad hc e g0 g2 g3;have key:=key bx Ad hc;have t0:=Ab Ad hc hR (Bt (id:=id) (o:=o) hR hi hT _ hk);have t1:=Ab Ad hc hR h1;rw [An] at t1;have hd:=fun e g0 g3=>OH (L:=L) hR a b Ad hc e g0 g3 t1;rw [Eu (Aa y5 [1,1,0,0,0]) hL];simp only [<- AP XG] at hd;unfold Av at|-hd key;rw [<- B5];rw [<- B5] at key;rw [<- Cu] at t0;rw [<- Fm] at hd;simp only [opsOf,Aa,Ac,y5,yX] at|-hd key;simp only [S9,AT,seval,PY,PZ,Aw,g0,g2,g3,t0,hd,SX,Ad];refine key _ ?_ ?_ ?_
     · simp only [S7,AT,seval,g0]
     · simp only [S7,AT,seval,g2]
     · simp only [S7,AT,seval,g3]
    | bad t c=>
     rw [r2] at key;obtain ⟨i',o',key⟩:=key;refine ⟨i',o',fun bx Ad hc e g0 g2 g3=>?_⟩;have key:=key bx Ad hc;have t0:=Ab Ad hc hR (Bt (id:=id) (o:=o) hR hi hT _ hk);have t1:=Ab Ad hc hR h1;rw [An] at t1;have hd:=fun e g0 g3=>OH (L:=L) hR a b Ad hc e g0 g3 t1;rw [Eu (Aa y5 [1,1,0,0,0]) hL];simp only [<- AP XG] at hd;unfold Av at|-hd key;rw [<- B5];rw [<- B5] at key;rw [<- Cu] at t0;rw [<- Fm] at hd;simp only [opsOf,Aa,Ac,y5,yX] at|-hd key;simp only [S9,AT,seval,PY,PZ,Aw,g0,g2,g3,t0,hd,SX,Ad];refine key _ ?_ ?_ ?_
     · simp only [S7,AT,seval,g0]
     · simp only [S7,AT,seval,g2]
     · simp only [S7,AT,seval,g3]
theorem kt {id:Nat} {L:List Tk} {RL:PV} (hR:RL.pure=true) (hT:TokOK L) (n:Nat) (hu:∀ k,k<=n->Gq 134 .un id L RL k):Gq 128 .prod id L RL (n+1):=by
 intro i o hi ho;rw [pz];have h0:=hu n (za _) i o hi ho;cases r0:pz L n .un o i with
 | out=>exact A4
 | bad t c=>
  rw [r0] at h0;obtain ⟨i',o',h0⟩:=h0;refine AV ⟨i',o',AF hR fun bx Ad hc=>?_⟩;have t0:=At Ad hc hR h0;rw [Dx rfl];unfold Av at |-;rw [<- B5];rw [<- Cu] at t0;simp only [opsOf,Aa,Ac,y5,yX] at |-;simp only [S9,AT,seval,PY,PZ,Aw,t0,SX,Ad];exact ⟨_,rfl⟩
 | ok a i1=>
  rw [r0] at h0;dsimp only [AA];have B8:=(Hq hT _ _ _ _ _ _ hi r0).2;have Af:=gL _ rfl (id:=id) (RL:=RL) hR hT ho n (fun k hk=>hu k (by omega)) i1 a B8;cases r1:pz L n (.prodL a) o i1 with
  | out=>exact A4
  | ok v j=>
   rw [r1] at Af;refine BB (Bl hR (fun n=>by rw [An];simp only [SX,PV.under]) fun bx Ad hc=>?_);have Af:=Af bx Ad hc;have t0:=Ab Ad hc hR h0;rw [An] at t0;rw [Dx rfl];rw [An];unfold Av at|-Af;rw [<- B5];rw [<- B5] at Af;rw [<- Cu] at t0;simp only [opsOf,Aa,Ac,y5,yX] at|-Af;simp only [S9,AT,seval,PY,PZ,Aw,t0,SX,Ad];generalize hE:Rw _ _=z
   have hP:∃ e',z=some (.exit 0,⟨e',BX bx id (.cells 63 [.sl (A2 L),.int .i64 ((j:Nat):Int),.int .i64 ((o:Nat):Int),RL]) [.cells 35 [.int .i64 0,.int .i64 0,.int .i64 0,.str [],.int .i64 0,.int .i64 0,.str [],.int .i64 0,.str [],.str [],.nils],.cells 35 (A7 v)]⟩)/\getT e' 2=.bp bx.length 0/\getT e' 3=.bp (bx.length+1) 0:=by
    rw [<- hE];refine Af _ ?_ ?_ ?_
    · simp only [S7,AT,seval]
    · simp only [S7,AT,seval]
    · simp only [S7,AT,seval]
   obtain ⟨e',he,g2,g3⟩:=hP;subst he;clear hE Af;simp only [S9,AT,seval,PY,PZ,Aw,SX,g2,g3,Ad];exact ⟨_,rfl⟩
  | bad t c=>
   rw [r1] at Af;obtain ⟨i',o',Af⟩:=Af;refine AV ⟨i',o',AF hR fun bx Ad hc=>?_⟩;have Af:=Af bx Ad hc;have t0:=Ab Ad hc hR h0;rw [An] at t0;rw [Dx rfl];unfold Av at|-Af;rw [<- B5];rw [<- B5] at Af;rw [<- Cu] at t0;simp only [opsOf,Aa,Ac,y5,yX] at|-Af;simp only [S9,AT,seval,PY,PZ,Aw,t0,SX,Ad];generalize hE:Rw _ _=z
   have hP:∃ e' ys',z=some (.pan (Cr t c),⟨e',BX bx id (.cells 63 [.sl (A2 L),.int .i64 ((i':Nat):Int),.int .i64 ((o':Nat):Int),RL]) ys'⟩):=by
    rw [<- hE];refine Af _ ?_ ?_ ?_
    · simp only [S7,AT,seval]
    · simp only [S7,AT,seval]
    · simp only [S7,AT,seval]
   obtain ⟨e',ys',he⟩:=hP;subst he;clear hE Af;simp only [S9,AT,seval,PY,PZ,Aw,SX,Ad];exact ⟨_,rfl⟩
theorem Lw:GY CC y1 (y1.body.getD .skip)=true:=by kernel_rfl
theorem Lx:Bk CC y1 (y1.body.getD .skip)=false:=by kernel_rfl
theorem KR:CC.P.funcs[119]?=some y1:=by kernel_rfl
theorem Eh {x:List PV} {b:List PBox} (h:x.length.ble y1.ntmps=true):Ae CC 119 x b=CB CC y1.results.toList (Hg CC (y1.body.getD .skip) ⟨x,b⟩):=Ce (fn:=y1) (c:=y1.body.getD .skip) rfl rfl KR rfl Lx Lw (y9 h)
theorem ku (Lc:Code) (hL:Lc=Aa y1 [1,1,0]) {id:Nat} {L:List Tk} {o:Nat} {RL:PV} (hR:RL.pure=true) (hT:TokOK L) (ho:o<=100):∀ (m:Nat),(∀ k,k < m->Gq 128 .prod id L RL k)->∀ (i:Nat) (a:Tr),i < L.length->match pz L m (.sumL a) o i with
 | .ok v j=>∀ (bx:List PBox) (Ad:id < bx.length) (hc:C5 bx) (e:List PV),getT e 0=.bp id 0->getT e 2=.bp bx.length 0->getT e 3=.bp (bx.length+1) 0->∃ e',Hg CC Lc ⟨e,BX bx id (Av L i o RL) [.cells 35 [.int .i64 0,.int .i64 0,.int .i64 0,.str [],.int .i64 0,.int .i64 0,.str [],.int .i64 0,.str [],.str [],.nils],.cells 35 (A7 a)]⟩=some (.ret,⟨e',BX bx id (Av L j o RL) [.cells 35 (A7 v),.cells 35 (A7 v)]⟩)/\getT e' 2=.bp bx.length 0
 | .bad t c=>∃ i' o',∀ (bx:List PBox) (Ad:id < bx.length) (hc:C5 bx) (e:List PV),getT e 0=.bp id 0->getT e 2=.bp bx.length 0->getT e 3=.bp (bx.length+1) 0->∃ e' ys',Hg CC Lc ⟨e,BX bx id (Av L i o RL) [.cells 35 [.int .i64 0,.int .i64 0,.int .i64 0,.str [],.int .i64 0,.int .i64 0,.str [],.int .i64 0,.str [],.str [],.nils],.cells 35 (A7 a)]⟩=some (.pan (Cr t c),⟨e',BX bx id (Av L i' o' RL) ys'⟩)
 | .out=>True:=by
 intro m
 induction m with
 | zero=>intro _ i a hi;trivial
 | succ m ih=>
  intro hu i a hi;rw [pz];cases hk:B2 L 4 [43] i with
  | true=>
   simp only [if_true];have B8:=AG hT hi hk (by decide);have h1:=hu m (by omega) (i+1) o B8 ho;cases r1:pz L m .prod o (i+1) with
   | out=>trivial
   | bad t c=>
    rw [r1] at h1;obtain ⟨i',o',h1⟩:=h1;refine ⟨i',o',fun bx Ad hc e g0 g2 g3=>?_⟩;have t0:=Ab Ad hc hR (Bt (id:=id) (o:=o) hR hi hT _ hk);have t1:=At Ad hc hR h1;have hd:=fun e g0 g3=>Vw (L:=L) hR a Ad hc e g0 g3 t1;rw [Eu (Aa y1 [1,1,0,0]) hL];simp only [<- AP XH] at hd;unfold Av at|-hd;rw [<- B5];rw [<- Cu] at t0;rw [<- Fm] at hd;simp only [opsOf,Aa,Ac,y1,yX] at|-hd;simp only [S9,AT,seval,PY,PZ,Aw,g0,g2,g3,t0,hd,SX,Ad];exact ⟨_,_,rfl⟩
   | ok b i1=>
    rw [r1] at h1;have FV:=(Hq hT _ _ _ _ _ _ B8 r1).2;dsimp only [AA];have key:=ih (fun k hk=>hu k (by omega)) i1 (Bb 11 [a,b]) FV;cases r2:pz L m (.sumL (Bb 11 [a,b])) o i1 with
    | out=>trivial
    | ok v j=>
     rw [r2] at key;intro bx Ad hc e g0 g2 g3;have key:=key bx Ad hc;have t0:=Ab Ad hc hR (Bt (id:=id) (o:=o) hR hi hT _ hk);have t1:=Ab Ad hc hR h1;rw [An] at t1;have hd:=fun e g0 g3=>OJ (L:=L) hR a b Ad hc e g0 g3 t1;rw [Eu (Aa y1 [1,1,0,0]) hL];simp only [<- AP XH] at hd;unfold Av at|-hd key;rw [<- B5];rw [<- B5] at key;rw [<- Cu] at t0;rw [<- Fm] at hd;simp only [opsOf,Aa,Ac,y1,yX] at|-hd key;simp only [S9,AT,seval,PY,PZ,Aw,g0,g2,g3,t0,hd,SX,Ad];refine key _ ?_ ?_ ?_
     · simp only [S7,AT,seval,g0]
     · simp only [S7,AT,seval,g2]
     · simp only [S7,AT,seval,g3]
    | bad t c=>
     rw [r2] at key;obtain ⟨i',o',key⟩:=key;refine ⟨i',o',fun bx Ad hc e g0 g2 g3=>?_⟩;have key:=key bx Ad hc;have t0:=Ab Ad hc hR (Bt (id:=id) (o:=o) hR hi hT _ hk);have t1:=Ab Ad hc hR h1;rw [An] at t1;have hd:=fun e g0 g3=>OJ (L:=L) hR a b Ad hc e g0 g3 t1;rw [Eu (Aa y1 [1,1,0,0]) hL];simp only [<- AP XH] at hd;unfold Av at|-hd key;rw [<- B5];rw [<- B5] at key;rw [<- Cu] at t0;rw [<- Fm] at hd;simp only [opsOf,Aa,Ac,y1,yX] at|-hd key;simp only [S9,AT,seval,PY,PZ,Aw,g0,g2,g3,t0,hd,SX,Ad];refine key _ ?_ ?_ ?_
     · simp only [S7,AT,seval,g0]
     · simp only [S7,AT,seval,g2]
     · simp only [S7,AT,seval,g3]
  | false=>
   have Yv:=hk;clear hk;simp only [y8,if_false];cases hk:B2 L 4 [45] i with
   | true=>
    simp only [if_true];have B8:=AG hT hi hk (by decide);have h1:=hu m (by omega) (i+1) o B8 ho;cases r1:pz L m .prod o (i+1) with
    | out=>trivial
    | bad t c=>
     rw [r1] at h1;obtain ⟨i',o',h1⟩:=h1;refine ⟨i',o',fun bx Ad hc e g0 g2 g3=>?_⟩;have t0:=Ab Ad hc hR (A3 (id:=id) (o:=o) hR hi hT _ Yv);have t2:=Ab Ad hc hR (Bt (id:=id) (o:=o) hR hi hT _ hk);have t1:=At Ad hc hR h1;have hd:=fun e g0 g3=>Vx (L:=L) hR a Ad hc e g0 g3 t1;rw [Eu (Aa y1 [1,1,0,0]) hL];simp only [<- AP XI] at hd;unfold Av at|-hd;rw [<- B5];rw [<- Cu] at t0 t2;rw [<- Fm] at hd;simp only [opsOf,Aa,Ac,y1,yX] at|-hd;simp only [S9,AT,seval,PY,PZ,Aw,g0,g2,g3,t0,t2,hd,SX,Ad];exact ⟨_,_,rfl⟩
    | ok b i1=>
     rw [r1] at h1;have FV:=(Hq hT _ _ _ _ _ _ B8 r1).2;dsimp only [AA];have key:=ih (fun k hk=>hu k (by omega)) i1 (Bb 12 [a,b]) FV;cases r2:pz L m (.sumL (Bb 12 [a,b])) o i1 with
     | out=>trivial
     | ok v j=>
      rw [r2] at key;intro bx Ad hc e g0 g2 g3;have key:=key bx Ad hc;have t0:=Ab Ad hc hR (A3 (id:=id) (o:=o) hR hi hT _ Yv);have t2:=Ab Ad hc hR (Bt (id:=id) (o:=o) hR hi hT _ hk);have t1:=Ab Ad hc hR h1;rw [An] at t1;have hd:=fun e g0 g3=>OL (L:=L) hR a b Ad hc e g0 g3 t1;rw [Eu (Aa y1 [1,1,0,0]) hL];simp only [<- AP XI] at hd;unfold Av at|-hd key;rw [<- B5];rw [<- B5] at key;rw [<- Cu] at t0 t2;rw [<- Fm] at hd;simp only [opsOf,Aa,Ac,y1,yX] at|-hd key;simp only [S9,AT,seval,PY,PZ,Aw,g0,g2,g3,t0,t2,hd,SX,Ad];refine key _ ?_ ?_ ?_
      · simp only [S7,AT,seval,g0]
      · simp only [S7,AT,seval,g2]
      · simp only [S7,AT,seval,g3]
     | bad t c=>
      rw [r2] at key;obtain ⟨i',o',key⟩:=key;refine ⟨i',o',fun bx Ad hc e g0 g2 g3=>?_⟩;have key:=key bx Ad hc;have t0:=Ab Ad hc hR (A3 (id:=id) (o:=o) hR hi hT _ Yv);have t2:=Ab Ad hc hR (Bt (id:=id) (o:=o) hR hi hT _ hk);have t1:=Ab Ad hc hR h1;rw [An] at t1;have hd:=fun e g0 g3=>OL (L:=L) hR a b Ad hc e g0 g3 t1;rw [Eu (Aa y1 [1,1,0,0]) hL];simp only [<- AP XI] at hd;unfold Av at|-hd key;rw [<- B5];rw [<- B5] at key;rw [<- Cu] at t0 t2;rw [<- Fm] at hd;simp only [opsOf,Aa,Ac,y1,yX] at|-hd key;simp only [S9,AT,seval,PY,PZ,Aw,g0,g2,g3,t0,t2,hd,SX,Ad];refine key _ ?_ ?_ ?_
      · simp only [S7,AT,seval,g0]
      · simp only [S7,AT,seval,g2]
      · simp only [S7,AT,seval,g3]
   | false=>
    simp only [y8,if_false];intro bx Ad hc e g0 g2 g3;have t0:=Ab Ad hc hR (A3 (id:=id) (o:=o) hR hi hT _ Yv);have t2:=Ab Ad hc hR (A3 (id:=id) (o:=o) hR hi hT _ hk);rw [Eu (Aa y1 [1,1,0,0]) hL];unfold Av at |-;rw [<- B5];rw [<- Cu] at t0 t2;simp only [opsOf,Aa,Ac,y1,yX] at |-;simp only [S9,AT,seval,PY,PZ,Aw,g0,g2,g3,t0,t2,SX,Ad];exact ⟨_,rfl,by simp only [S7,AT,seval,g2]⟩
theorem nQ {id:Nat} {L:List Tk} {RL:PV} (hR:RL.pure=true) (hT:TokOK L) (n:Nat) (hu:∀ k,k<=n->Gq 128 .prod id L RL k):Gq 119 .sum id L RL (n+1):=by
 intro i o hi ho;rw [pz];have h0:=hu n (za _) i o hi ho;cases r0:pz L n .prod o i with
 | out=>exact A4
 | bad t c=>
  rw [r0] at h0;obtain ⟨i',o',h0⟩:=h0;refine AV ⟨i',o',AF hR fun bx Ad hc=>?_⟩;have t0:=At Ad hc hR h0;rw [Eh rfl];unfold Av at |-;rw [<- B5];rw [<- Cu] at t0;simp only [opsOf,Aa,Ac,y1,yX] at |-;simp only [S9,AT,seval,PY,PZ,Aw,t0,SX,Ad];exact ⟨_,rfl⟩
 | ok a i1=>
  rw [r0] at h0;dsimp only [AA];have B8:=(Hq hT _ _ _ _ _ _ hi r0).2;have Af:=ku _ rfl (id:=id) (RL:=RL) hR hT ho n (fun k hk=>hu k (by omega)) i1 a B8;cases r1:pz L n (.sumL a) o i1 with
  | out=>exact A4
  | ok v j=>
   rw [r1] at Af;refine BB (Bl hR (fun n=>by rw [An];simp only [SX,PV.under]) fun bx Ad hc=>?_);have Af:=Af bx Ad hc;have t0:=Ab Ad hc hR h0;rw [An] at t0;rw [Eh rfl];rw [An];unfold Av at|-Af;rw [<- B5];rw [<- B5] at Af;rw [<- Cu] at t0;simp only [opsOf,Aa,Ac,y1,yX] at|-Af;simp only [S9,AT,seval,PY,PZ,Aw,t0,SX,Ad];generalize hE:Rw _ _=z
   have hP:∃ e',z=some (.ret,⟨e',BX bx id (.cells 63 [.sl (A2 L),.int .i64 ((j:Nat):Int),.int .i64 ((o:Nat):Int),RL]) [.cells 35 (A7 v),.cells 35 (A7 v)]⟩)/\getT e' 2=.bp bx.length 0:=by
    rw [<- hE];refine Af _ ?_ ?_ ?_
    · simp only [S7,AT,seval]
    · simp only [S7,AT,seval]
    · simp only [S7,AT,seval]
   obtain ⟨e',he,g2⟩:=hP;subst he;clear hE Af;simp only [S9,AT,seval,PY,PZ,Aw,SX,g2,Ad];exact ⟨_,rfl⟩
  | bad t c=>
   rw [r1] at Af;obtain ⟨i',o',Af⟩:=Af;refine AV ⟨i',o',AF hR fun bx Ad hc=>?_⟩;have Af:=Af bx Ad hc;have t0:=Ab Ad hc hR h0;rw [An] at t0;rw [Eh rfl];unfold Av at|-Af;rw [<- B5];rw [<- B5] at Af;rw [<- Cu] at t0;simp only [opsOf,Aa,Ac,y1,yX] at|-Af;simp only [S9,AT,seval,PY,PZ,Aw,t0,SX,Ad];generalize hE:Rw _ _=z
   have hP:∃ e' ys',z=some (.pan (Cr t c),⟨e',BX bx id (.cells 63 [.sl (A2 L),.int .i64 ((i':Nat):Int),.int .i64 ((o':Nat):Int),RL]) ys'⟩):=by
    rw [<- hE];refine Af _ ?_ ?_ ?_
    · simp only [S7,AT,seval]
    · simp only [S7,AT,seval]
    · simp only [S7,AT,seval]
   obtain ⟨e',ys',he⟩:=hP;subst he;clear hE Af;simp only [S9,AT,seval,PY,PZ,Aw,SX,Ad];exact ⟨_,rfl⟩
theorem I4:GY CC yW (yW.body.getD .skip)=true:=by kernel_rfl
theorem I5:Bk CC yW (yW.body.getD .skip)=false:=by kernel_rfl
theorem Ik:CC.P.funcs[107]?=some yW:=by kernel_rfl
theorem AQ {x:List PV} {b:List PBox} (h:x.length.ble yW.ntmps=true):Ae CC 107 x b=CB CC yW.results.toList (Hg CC (yW.body.getD .skip) ⟨x,b⟩):=Ce (fn:=yW) (c:=yW.body.getD .skip) rfl rfl Ik rfl I5 I4 (y9 h)
theorem eA:Cl CC (opsOf (Aa yW [1,1,0,0,1,0,0]))=false:=by kernel_rfl
theorem OM:Cc (opsOf (Aa yW [1,1,0,0,1,0,0]))=[[0,1,2,3,4,5],[1,0,2,3,4,5],[1,2,0,3,4,5]]:=by kernel_rfl
theorem XJ {bx:List PBox} {id:Nat} {L:List Tk} {i o:Nat} {RL:PV} (hR:RL.pure=true) (a b:Tr) {j:Nat} (Ad:id < bx.length) (hc:C5 bx)  (e:List PV) (g0:getT e 0=.bp id 0) (g2:getT e 2=.bp bx.length 0) (g3:getT e 3=.bp (bx.length+1) 0) (t1:∀ ys:List PBox,(ys.all fun x=>x.under (bx.length+ys.length))=true->Ak CC (Ae CC) 119 [.bp id 0] (BX bx id (.cells 63 [.sl (A2 L),.int .i64 ((i:Nat):Int),.int .i64 ((o:Nat):Int),RL]) ys)=some (.ret (.agg (A7 b)),BX bx id (.cells 63 [.sl (A2 L),.int .i64 ((j:Nat):Int),.int .i64 ((o:Nat):Int),RL]) ys)) :
 drawAll CC (Ae CC) (opsOf (Aa yW [1,1,0,0,1,0,0])) ⟨e,BX bx id (Av L i o RL) [.cells 35 [.int .i64 0,.int .i64 0,.int .i64 0,.str [],.int .i64 0,.int .i64 0,.str [],.int .i64 0,.str [],.str [],.nils],.cells 35 (A7 a)]⟩=some (.normal,⟨(setT (setT (setT (setT (setT e 9 (.agg (A7 a))) 10 (.bp id 0)) 11 (.agg (A7 b))) 12 (.osl 35 [.agg (A7 a),.agg (A7 b)])) 13 (.agg (A7 (Bb 9 [a,b])))),BX bx id (Av L j o RL) [.cells 35 (A7 (Bb 9 [a,b])),.cells 35 (A7 a)]⟩):=by
 have hb:=Rk a b;have hn:=Vu 9 a b;refine AN.2 ⟨by rw [OM];simp,fun l hl=>?_⟩;rw [OM] at hl;unfold Av;rw [<- Ih];rw [<- Cu] at t1 hn;simp only [y6,y4,or_false] at hl;rcases hl with rfl | rfl | rfl
 all_goals
  simp only [opsOf,Aa,Ac,yW,yX,A',y2,y3,y0,yZ,yY];simp only [S9,AT,seval,PY,PZ,Aw,g0,g2,g3,SX,AR,Bm,t1,hb,hn,Ad]
  try simp only [EE,y7]
theorem Vy {bx:List PBox} {id:Nat} {L:List Tk} {i o:Nat} {RL:PV} (hR:RL.pure=true) (a:Tr) {t:Nat} {c:Int} {i' o':Nat} (Ad:id < bx.length) (hc:C5 bx)  (e:List PV) (g0:getT e 0=.bp id 0) (g2:getT e 2=.bp bx.length 0) (g3:getT e 3=.bp (bx.length+1) 0) (t1:∀ ys:List PBox,(ys.all fun x=>x.under (bx.length+ys.length))=true->Ak CC (Ae CC) 119 [.bp id 0] (BX bx id (.cells 63 [.sl (A2 L),.int .i64 ((i:Nat):Int),.int .i64 ((o:Nat):Int),RL]) ys)=some (.pan (Cr t c),BX bx id (.cells 63 [.sl (A2 L),.int .i64 ((i':Nat):Int),.int .i64 ((o':Nat):Int),RL]) ys)) :
 drawAll CC (Ae CC) (opsOf (Aa yW [1,1,0,0,1,0,0])) ⟨e,BX bx id (Av L i o RL) [.cells 35 [.int .i64 0,.int .i64 0,.int .i64 0,.str [],.int .i64 0,.int .i64 0,.str [],.int .i64 0,.str [],.str [],.nils],.cells 35 (A7 a)]⟩=some (.pan (Cr t c),⟨[],BX bx id (Av L i' o' RL) [.cells 35 [.int .i64 0,.int .i64 0,.int .i64 0,.str [],.int .i64 0,.int .i64 0,.str [],.int .i64 0,.str [],.str [],.nils],.cells 35 (A7 a)]⟩):=by
 refine AN.2 ⟨by rw [OM];simp,fun l hl=>?_⟩;rw [OM] at hl;unfold Av;rw [<- Ih];rw [<- Cu] at t1;simp only [y6,y4,or_false] at hl;rcases hl with rfl | rfl | rfl
 all_goals
  simp only [opsOf,Aa,Ac,yW,yX,A',y2,y3,y0,yZ,yY];simp only [S9,AT,seval,PY,PZ,Aw,g0,g2,g3,SX,AR,Bm,t1,Ad]
theorem eB:Cl CC (opsOf (Aa yW [1,1,0,0,1,1,1,0,0]))=false:=by kernel_rfl
theorem ON:Cc (opsOf (Aa yW [1,1,0,0,1,1,1,0,0]))=[[0,1,2,3,4,5,6,7],[1,0,2,3,4,5,6,7],[1,2,0,3,4,5,6,7]]:=by kernel_rfl
theorem XK {bx:List PBox} {id:Nat} {L:List Tk} {i o:Nat} {RL:PV} (hR:RL.pure=true) (a b:Tr) {j:Nat} (Ad:id < bx.length) (hc:C5 bx)  (e:List PV) (g0:getT e 0=.bp id 0) (g2:getT e 2=.bp bx.length 0) (g3:getT e 3=.bp (bx.length+1) 0) (t1:∀ ys:List PBox,(ys.all fun x=>x.under (bx.length+ys.length))=true->Ak CC (Ae CC) 119 [.bp id 0] (BX bx id (.cells 63 [.sl (A2 L),.int .i64 ((i:Nat):Int),.int .i64 ((o:Nat):Int),RL]) ys)=some (.ret (.agg (A7 b)),BX bx id (.cells 63 [.sl (A2 L),.int .i64 ((j:Nat):Int),.int .i64 ((o:Nat):Int),RL]) ys)) :
 drawAll CC (Ae CC) (opsOf (Aa yW [1,1,0,0,1,1,1,0,0])) ⟨e,BX bx id (Av L i o RL) [.cells 35 [.int .i64 0,.int .i64 0,.int .i64 0,.str [],.int .i64 0,.int .i64 0,.str [],.int .i64 0,.str [],.str [],.nils],.cells 35 (A7 a)]⟩=some (.normal,⟨(setT (setT (setT (setT (setT (setT (setT e 17 (.agg (A7 a))) 18 (.bp id 0)) 19 (.agg (A7 b))) 20 (.osl 35 [.agg (A7 a),.agg (A7 b)])) 21 (.agg (A7 (Bb 9 [a,b])))) 22 (.osl 35 [.agg (A7 (Bb 9 [a,b]))])) 23 (.agg (A7 (Bb 6 [Bb 9 [a,b]])))),BX bx id (Av L j o RL) [.cells 35 (A7 (Bb 6 [Bb 9 [a,b]])),.cells 35 (A7 a)]⟩):=by
 have hb:=Rk a b;have hn:=Vu 9 a b;have mA:=PT (Bb 9 [a,b]);have mE:=nP 6 (Bb 9 [a,b]);refine AN.2 ⟨by rw [ON];simp,fun l hl=>?_⟩;rw [ON] at hl;unfold Av;rw [<- Ih];rw [<- Cu] at t1 hn mE;simp only [y6,y4,or_false] at hl;rcases hl with rfl | rfl | rfl
 all_goals
  simp only [opsOf,Aa,Ac,yW,yX,A',y2,y3,y0,yZ,yY];simp only [S9,AT,seval,PY,PZ,Aw,g0,g2,g3,SX,AR,Bm,t1,hb,hn,mA,mE,Ad]
  try simp only [EE,y7]
theorem Vz {bx:List PBox} {id:Nat} {L:List Tk} {i o:Nat} {RL:PV} (hR:RL.pure=true) (a:Tr) {t:Nat} {c:Int} {i' o':Nat} (Ad:id < bx.length) (hc:C5 bx)  (e:List PV) (g0:getT e 0=.bp id 0) (g2:getT e 2=.bp bx.length 0) (g3:getT e 3=.bp (bx.length+1) 0) (t1:∀ ys:List PBox,(ys.all fun x=>x.under (bx.length+ys.length))=true->Ak CC (Ae CC) 119 [.bp id 0] (BX bx id (.cells 63 [.sl (A2 L),.int .i64 ((i:Nat):Int),.int .i64 ((o:Nat):Int),RL]) ys)=some (.pan (Cr t c),BX bx id (.cells 63 [.sl (A2 L),.int .i64 ((i':Nat):Int),.int .i64 ((o':Nat):Int),RL]) ys)) :
 drawAll CC (Ae CC) (opsOf (Aa yW [1,1,0,0,1,1,1,0,0])) ⟨e,BX bx id (Av L i o RL) [.cells 35 [.int .i64 0,.int .i64 0,.int .i64 0,.str [],.int .i64 0,.int .i64 0,.str [],.int .i64 0,.str [],.str [],.nils],.cells 35 (A7 a)]⟩=some (.pan (Cr t c),⟨[],BX bx id (Av L i' o' RL) [.cells 35 [.int .i64 0,.int .i64 0,.int .i64 0,.str [],.int .i64 0,.int .i64 0,.str [],.int .i64 0,.str [],.str [],.nils],.cells 35 (A7 a)]⟩):=by
 refine AN.2 ⟨by rw [ON];simp,fun l hl=>?_⟩;rw [ON] at hl;unfold Av;rw [<- Ih];rw [<- Cu] at t1;simp only [y6,y4,or_false] at hl;rcases hl with rfl | rfl | rfl
 all_goals
  simp only [opsOf,Aa,Ac,yW,yX,A',y2,y3,y0,yZ,yY];simp only [S9,AT,seval,PY,PZ,Aw,g0,g2,g3,SX,AR,Bm,t1,Ad]
theorem eC:Cl CC (opsOf (Aa yW [1,1,0,0,1,1,1,1,1,0,0]))=false:=by kernel_rfl
theorem OO:Cc (opsOf (Aa yW [1,1,0,0,1,1,1,1,1,0,0]))=[[0,1,2,3,4,5],[1,0,2,3,4,5],[1,2,0,3,4,5]]:=by kernel_rfl
theorem XL {bx:List PBox} {id:Nat} {L:List Tk} {i o:Nat} {RL:PV} (hR:RL.pure=true) (a b:Tr) {j:Nat} (Ad:id < bx.length) (hc:C5 bx)  (e:List PV) (g0:getT e 0=.bp id 0) (g2:getT e 2=.bp bx.length 0) (g3:getT e 3=.bp (bx.length+1) 0) (t1:∀ ys:List PBox,(ys.all fun x=>x.under (bx.length+ys.length))=true->Ak CC (Ae CC) 119 [.bp id 0] (BX bx id (.cells 63 [.sl (A2 L),.int .i64 ((i:Nat):Int),.int .i64 ((o:Nat):Int),RL]) ys)=some (.ret (.agg (A7 b)),BX bx id (.cells 63 [.sl (A2 L),.int .i64 ((j:Nat):Int),.int .i64 ((o:Nat):Int),RL]) ys)) :
 drawAll CC (Ae CC) (opsOf (Aa yW [1,1,0,0,1,1,1,1,1,0,0])) ⟨e,BX bx id (Av L i o RL) [.cells 35 [.int .i64 0,.int .i64 0,.int .i64 0,.str [],.int .i64 0,.int .i64 0,.str [],.int .i64 0,.str [],.str [],.nils],.cells 35 (A7 a)]⟩=some (.normal,⟨(setT (setT (setT (setT (setT e 27 (.agg (A7 a))) 28 (.bp id 0)) 29 (.agg (A7 b))) 30 (.osl 35 [.agg (A7 a),.agg (A7 b)])) 31 (.agg (A7 (Bb 10 [a,b])))),BX bx id (Av L j o RL) [.cells 35 (A7 (Bb 10 [a,b])),.cells 35 (A7 a)]⟩):=by
 have hb:=Rk a b;have hn:=Vu 10 a b;refine AN.2 ⟨by rw [OO];simp,fun l hl=>?_⟩;rw [OO] at hl;unfold Av;rw [<- Ih];rw [<- Cu] at t1 hn;simp only [y6,y4,or_false] at hl;rcases hl with rfl | rfl | rfl
 all_goals
  simp only [opsOf,Aa,Ac,yW,yX,A',y2,y3,y0,yZ,yY];simp only [S9,AT,seval,PY,PZ,Aw,g0,g2,g3,SX,AR,Bm,t1,hb,hn,Ad]
  try simp only [EE,y7]
theorem VA {bx:List PBox} {id:Nat} {L:List Tk} {i o:Nat} {RL:PV} (hR:RL.pure=true) (a:Tr) {t:Nat} {c:Int} {i' o':Nat} (Ad:id < bx.length) (hc:C5 bx)  (e:List PV) (g0:getT e 0=.bp id 0) (g2:getT e 2=.bp bx.length 0) (g3:getT e 3=.bp (bx.length+1) 0) (t1:∀ ys:List PBox,(ys.all fun x=>x.under (bx.length+ys.length))=true->Ak CC (Ae CC) 119 [.bp id 0] (BX bx id (.cells 63 [.sl (A2 L),.int .i64 ((i:Nat):Int),.int .i64 ((o:Nat):Int),RL]) ys)=some (.pan (Cr t c),BX bx id (.cells 63 [.sl (A2 L),.int .i64 ((i':Nat):Int),.int .i64 ((o':Nat):Int),RL]) ys)) :
 drawAll CC (Ae CC) (opsOf (Aa yW [1,1,0,0,1,1,1,1,1,0,0])) ⟨e,BX bx id (Av L i o RL) [.cells 35 [.int .i64 0,.int .i64 0,.int .i64 0,.str [],.int .i64 0,.int .i64 0,.str [],.int .i64 0,.str [],.str [],.nils],.cells 35 (A7 a)]⟩=some (.pan (Cr t c),⟨[],BX bx id (Av L i' o' RL) [.cells 35 [.int .i64 0,.int .i64 0,.int .i64 0,.str [],.int .i64 0,.int .i64 0,.str [],.int .i64 0,.str [],.str [],.nils],.cells 35 (A7 a)]⟩):=by
 refine AN.2 ⟨by rw [OO];simp,fun l hl=>?_⟩;rw [OO] at hl;unfold Av;rw [<- Ih];rw [<- Cu] at t1;simp only [y6,y4,or_false] at hl;rcases hl with rfl | rfl | rfl
 all_goals
  simp only [opsOf,Aa,Ac,yW,yX,A',y2,y3,y0,yZ,yY];simp only [S9,AT,seval,PY,PZ,Aw,g0,g2,g3,SX,AR,Bm,t1,Ad]
theorem eD:Cl CC (opsOf (Aa yW [1,1,0,0,1,1,1,1,1,1,1,0,0]))=false:=by kernel_rfl
theorem OP:Cc (opsOf (Aa yW [1,1,0,0,1,1,1,1,1,1,1,0,0]))=[[0,1,2,3,4,5,6,7],[1,0,2,3,4,5,6,7],[1,2,0,3,4,5,6,7]]:=by kernel_rfl
theorem XM {bx:List PBox} {id:Nat} {L:List Tk} {i o:Nat} {RL:PV} (hR:RL.pure=true) (a b:Tr) {j:Nat} (Ad:id < bx.length) (hc:C5 bx)  (e:List PV) (g0:getT e 0=.bp id 0) (g2:getT e 2=.bp bx.length 0) (g3:getT e 3=.bp (bx.length+1) 0) (t1:∀ ys:List PBox,(ys.all fun x=>x.under (bx.length+ys.length))=true->Ak CC (Ae CC) 119 [.bp id 0] (BX bx id (.cells 63 [.sl (A2 L),.int .i64 ((i:Nat):Int),.int .i64 ((o:Nat):Int),RL]) ys)=some (.ret (.agg (A7 b)),BX bx id (.cells 63 [.sl (A2 L),.int .i64 ((j:Nat):Int),.int .i64 ((o:Nat):Int),RL]) ys)) :
 drawAll CC (Ae CC) (opsOf (Aa yW [1,1,0,0,1,1,1,1,1,1,1,0,0])) ⟨e,BX bx id (Av L i o RL) [.cells 35 [.int .i64 0,.int .i64 0,.int .i64 0,.str [],.int .i64 0,.int .i64 0,.str [],.int .i64 0,.str [],.str [],.nils],.cells 35 (A7 a)]⟩=some (.normal,⟨(setT (setT (setT (setT (setT (setT (setT e 35 (.agg (A7 a))) 36 (.bp id 0)) 37 (.agg (A7 b))) 38 (.osl 35 [.agg (A7 a),.agg (A7 b)])) 39 (.agg (A7 (Bb 10 [a,b])))) 40 (.osl 35 [.agg (A7 (Bb 10 [a,b]))])) 41 (.agg (A7 (Bb 6 [Bb 10 [a,b]])))),BX bx id (Av L j o RL) [.cells 35 (A7 (Bb 6 [Bb 10 [a,b]])),.cells 35 (A7 a)]⟩):=by
 have hb:=Rk a b;have hn:=Vu 10 a b;have mA:=PT (Bb 10 [a,b]);have mE:=nP 6 (Bb 10 [a,b]);refine AN.2 ⟨by rw [OP];simp,fun l hl=>?_⟩;rw [OP] at hl;unfold Av;rw [<- Ih];rw [<- Cu] at t1 hn mE;simp only [y6,y4,or_false] at hl;rcases hl with rfl | rfl | rfl
 all_goals
  simp only [opsOf,Aa,Ac,yW,yX,A',y2,y3,y0,yZ,yY];simp only [S9,AT,seval,PY,PZ,Aw,g0,g2,g3,SX,AR,Bm,t1,hb,hn,mA,mE,Ad]
  try simp only [EE,y7]
theorem VB {bx:List PBox} {id:Nat} {L:List Tk} {i o:Nat} {RL:PV} (hR:RL.pure=true) (a:Tr) {t:Nat} {c:Int} {i' o':Nat} (Ad:id < bx.length) (hc:C5 bx)  (e:List PV) (g0:getT e 0=.bp id 0) (g2:getT e 2=.bp bx.length 0) (g3:getT e 3=.bp (bx.length+1) 0) (t1:∀ ys:List PBox,(ys.all fun x=>x.under (bx.length+ys.length))=true->Ak CC (Ae CC) 119 [.bp id 0] (BX bx id (.cells 63 [.sl (A2 L),.int .i64 ((i:Nat):Int),.int .i64 ((o:Nat):Int),RL]) ys)=some (.pan (Cr t c),BX bx id (.cells 63 [.sl (A2 L),.int .i64 ((i':Nat):Int),.int .i64 ((o':Nat):Int),RL]) ys)) :
 drawAll CC (Ae CC) (opsOf (Aa yW [1,1,0,0,1,1,1,1,1,1,1,0,0])) ⟨e,BX bx id (Av L i o RL) [.cells 35 [.int .i64 0,.int .i64 0,.int .i64 0,.str [],.int .i64 0,.int .i64 0,.str [],.int .i64 0,.str [],.str [],.nils],.cells 35 (A7 a)]⟩=some (.pan (Cr t c),⟨[],BX bx id (Av L i' o' RL) [.cells 35 [.int .i64 0,.int .i64 0,.int .i64 0,.str [],.int .i64 0,.int .i64 0,.str [],.int .i64 0,.str [],.str [],.nils],.cells 35 (A7 a)]⟩):=by
 refine AN.2 ⟨by rw [OP];simp,fun l hl=>?_⟩;rw [OP] at hl;unfold Av;rw [<- Ih];rw [<- Cu] at t1;simp only [y6,y4,or_false] at hl;rcases hl with rfl | rfl | rfl
 all_goals
  simp only [opsOf,Aa,Ac,yW,yX,A',y2,y3,y0,yZ,yY];simp only [S9,AT,seval,PY,PZ,Aw,g0,g2,g3,SX,AR,Bm,t1,Ad]
theorem eE:Cl CC (opsOf (Aa yW [1,1,0,0,1,1,1,1,1,1,1,1,1,0,0]))=false:=by kernel_rfl
theorem OQ:Cc (opsOf (Aa yW [1,1,0,0,1,1,1,1,1,1,1,1,1,0,0]))=[[0,1,2,3,4,5],[0,2,1,3,4,5],[2,0,1,3,4,5]]:=by kernel_rfl
theorem XN {bx:List PBox} {id:Nat} {L:List Tk} {i o:Nat} {RL:PV} (hR:RL.pure=true) (a b:Tr) {j:Nat} (Ad:id < bx.length) (hc:C5 bx)  (e:List PV) (g0:getT e 0=.bp id 0) (g2:getT e 2=.bp bx.length 0) (g3:getT e 3=.bp (bx.length+1) 0) (t1:∀ ys:List PBox,(ys.all fun x=>x.under (bx.length+ys.length))=true->Ak CC (Ae CC) 119 [.bp id 0] (BX bx id (.cells 63 [.sl (A2 L),.int .i64 ((i:Nat):Int),.int .i64 ((o:Nat):Int),RL]) ys)=some (.ret (.agg (A7 b)),BX bx id (.cells 63 [.sl (A2 L),.int .i64 ((j:Nat):Int),.int .i64 ((o:Nat):Int),RL]) ys)) :
 drawAll CC (Ae CC) (opsOf (Aa yW [1,1,0,0,1,1,1,1,1,1,1,1,1,0,0])) ⟨e,BX bx id (Av L i o RL) [.cells 35 [.int .i64 0,.int .i64 0,.int .i64 0,.str [],.int .i64 0,.int .i64 0,.str [],.int .i64 0,.str [],.str [],.nils],.cells 35 (A7 a)]⟩=some (.normal,⟨(setT (setT (setT (setT (setT e 45 (.bp id 0)) 46 (.agg (A7 b))) 47 (.agg (A7 a))) 48 (.osl 35 [.agg (A7 b),.agg (A7 a)])) 49 (.agg (A7 (Bb 10 [b,a])))),BX bx id (Av L j o RL) [.cells 35 (A7 (Bb 10 [b,a])),.cells 35 (A7 a)]⟩):=by
 have hb:=Rk b a;have hn:=Vu 10 b a;refine AN.2 ⟨by rw [OQ];simp,fun l hl=>?_⟩;rw [OQ] at hl;unfold Av;rw [<- Ih];rw [<- Cu] at t1 hn;simp only [y6,y4,or_false] at hl;rcases hl with rfl | rfl | rfl
 all_goals
  simp only [opsOf,Aa,Ac,yW,yX,A',y2,y3,y0,yZ,yY];simp only [S9,AT,seval,PY,PZ,Aw,g0,g2,g3,SX,AR,Bm,t1,hb,hn,Ad]
  try simp only [EE,y7]
  try rw [Ar _ 47 45 _ _ (by decide)]
  try rw [Ar _ 47 46 _ _ (by decide)]
theorem VC {bx:List PBox} {id:Nat} {L:List Tk} {i o:Nat} {RL:PV} (hR:RL.pure=true) (a:Tr) {t:Nat} {c:Int} {i' o':Nat} (Ad:id < bx.length) (hc:C5 bx)  (e:List PV) (g0:getT e 0=.bp id 0) (g2:getT e 2=.bp bx.length 0) (g3:getT e 3=.bp (bx.length+1) 0) (t1:∀ ys:List PBox,(ys.all fun x=>x.under (bx.length+ys.length))=true->Ak CC (Ae CC) 119 [.bp id 0] (BX bx id (.cells 63 [.sl (A2 L),.int .i64 ((i:Nat):Int),.int .i64 ((o:Nat):Int),RL]) ys)=some (.pan (Cr t c),BX bx id (.cells 63 [.sl (A2 L),.int .i64 ((i':Nat):Int),.int .i64 ((o':Nat):Int),RL]) ys)) :
 drawAll CC (Ae CC) (opsOf (Aa yW [1,1,0,0,1,1,1,1,1,1,1,1,1,0,0])) ⟨e,BX bx id (Av L i o RL) [.cells 35 [.int .i64 0,.int .i64 0,.int .i64 0,.str [],.int .i64 0,.int .i64 0,.str [],.int .i64 0,.str [],.str [],.nils],.cells 35 (A7 a)]⟩=some (.pan (Cr t c),⟨[],BX bx id (Av L i' o' RL) [.cells 35 [.int .i64 0,.int .i64 0,.int .i64 0,.str [],.int .i64 0,.int .i64 0,.str [],.int .i64 0,.str [],.str [],.nils],.cells 35 (A7 a)]⟩):=by
 refine AN.2 ⟨by rw [OQ];simp,fun l hl=>?_⟩;rw [OQ] at hl;unfold Av;rw [<- Ih];rw [<- Cu] at t1;simp only [y6,y4,or_false] at hl;rcases hl with rfl | rfl | rfl
 all_goals
  simp only [opsOf,Aa,Ac,yW,yX,A',y2,y3,y0,yZ,yY];simp only [S9,AT,seval,PY,PZ,Aw,g0,g2,g3,SX,AR,Bm,t1,Ad]
theorem eF:Cl CC (opsOf (Aa yW [1,1,0,0,1,1,1,1,1,1,1,1,1,1,1,0,0]))=false:=by kernel_rfl
theorem OR:Cc (opsOf (Aa yW [1,1,0,0,1,1,1,1,1,1,1,1,1,1,1,0,0]))=[[0,1,2,3,4,5,6,7],[0,2,1,3,4,5,6,7],[2,0,1,3,4,5,6,7]]:=by kernel_rfl
theorem XO {bx:List PBox} {id:Nat} {L:List Tk} {i o:Nat} {RL:PV} (hR:RL.pure=true) (a b:Tr) {j:Nat} (Ad:id < bx.length) (hc:C5 bx)  (e:List PV) (g0:getT e 0=.bp id 0) (g2:getT e 2=.bp bx.length 0) (g3:getT e 3=.bp (bx.length+1) 0) (t1:∀ ys:List PBox,(ys.all fun x=>x.under (bx.length+ys.length))=true->Ak CC (Ae CC) 119 [.bp id 0] (BX bx id (.cells 63 [.sl (A2 L),.int .i64 ((i:Nat):Int),.int .i64 ((o:Nat):Int),RL]) ys)=some (.ret (.agg (A7 b)),BX bx id (.cells 63 [.sl (A2 L),.int .i64 ((j:Nat):Int),.int .i64 ((o:Nat):Int),RL]) ys)) :
 drawAll CC (Ae CC) (opsOf (Aa yW [1,1,0,0,1,1,1,1,1,1,1,1,1,1,1,0,0])) ⟨e,BX bx id (Av L i o RL) [.cells 35 [.int .i64 0,.int .i64 0,.int .i64 0,.str [],.int .i64 0,.int .i64 0,.str [],.int .i64 0,.str [],.str [],.nils],.cells 35 (A7 a)]⟩=some (.normal,⟨(setT (setT (setT (setT (setT (setT (setT e 53 (.bp id 0)) 54 (.agg (A7 b))) 55 (.agg (A7 a))) 56 (.osl 35 [.agg (A7 b),.agg (A7 a)])) 57 (.agg (A7 (Bb 10 [b,a])))) 58 (.osl 35 [.agg (A7 (Bb 10 [b,a]))])) 59 (.agg (A7 (Bb 6 [Bb 10 [b,a]])))),BX bx id (Av L j o RL) [.cells 35 (A7 (Bb 6 [Bb 10 [b,a]])),.cells 35 (A7 a)]⟩):=by
 have hb:=Rk b a;have hn:=Vu 10 b a;have mA:=PT (Bb 10 [b,a]);have mE:=nP 6 (Bb 10 [b,a]);refine AN.2 ⟨by rw [OR];simp,fun l hl=>?_⟩;rw [OR] at hl;unfold Av;rw [<- Ih];rw [<- Cu] at t1 hn mE;simp only [y6,y4,or_false] at hl;rcases hl with rfl | rfl | rfl
 all_goals
  simp only [opsOf,Aa,Ac,yW,yX,A',y2,y3,y0,yZ,yY];simp only [S9,AT,seval,PY,PZ,Aw,g0,g2,g3,SX,AR,Bm,t1,hb,hn,mA,mE,Ad]
  try simp only [EE,y7]
  try rw [Ar _ 55 53 _ _ (by decide)]
  try rw [Ar _ 55 54 _ _ (by decide)]
theorem VD {bx:List PBox} {id:Nat} {L:List Tk} {i o:Nat} {RL:PV} (hR:RL.pure=true) (a:Tr) {t:Nat} {c:Int} {i' o':Nat} (Ad:id < bx.length) (hc:C5 bx)  (e:List PV) (g0:getT e 0=.bp id 0) (g2:getT e 2=.bp bx.length 0) (g3:getT e 3=.bp (bx.length+1) 0) (t1:∀ ys:List PBox,(ys.all fun x=>x.under (bx.length+ys.length))=true->Ak CC (Ae CC) 119 [.bp id 0] (BX bx id (.cells 63 [.sl (A2 L),.int .i64 ((i:Nat):Int),.int .i64 ((o:Nat):Int),RL]) ys)=some (.pan (Cr t c),BX bx id (.cells 63 [.sl (A2 L),.int .i64 ((i':Nat):Int),.int .i64 ((o':Nat):Int),RL]) ys)) :
 drawAll CC (Ae CC) (opsOf (Aa yW [1,1,0,0,1,1,1,1,1,1,1,1,1,1,1,0,0])) ⟨e,BX bx id (Av L i o RL) [.cells 35 [.int .i64 0,.int .i64 0,.int .i64 0,.str [],.int .i64 0,.int .i64 0,.str [],.int .i64 0,.str [],.str [],.nils],.cells 35 (A7 a)]⟩=some (.pan (Cr t c),⟨[],BX bx id (Av L i' o' RL) [.cells 35 [.int .i64 0,.int .i64 0,.int .i64 0,.str [],.int .i64 0,.int .i64 0,.str [],.int .i64 0,.str [],.str [],.nils],.cells 35 (A7 a)]⟩):=by
 refine AN.2 ⟨by rw [OR];simp,fun l hl=>?_⟩;rw [OR] at hl;unfold Av;rw [<- Ih];rw [<- Cu] at t1;simp only [y6,y4,or_false] at hl;rcases hl with rfl | rfl | rfl
 all_goals
  simp only [opsOf,Aa,Ac,yW,yX,A',y2,y3,y0,yZ,yY];simp only [S9,AT,seval,PY,PZ,Aw,g0,g2,g3,SX,AR,Bm,t1,Ad]
theorem gM (L:List Tk) (i:Nat):(∃ k,Em L 4 i Cw 0=some k/\k < 6/\B2 L 4 (Cw.getD k []) i=true/\∀ k',k' < k->B2 L 4 (Cw.getD k' []) i=false)\/(Em L 4 i Cw 0=none/\∀ k',k' < 6->B2 L 4 (Cw.getD k' []) i=false):=by
 have gen:∀ (l:List (List UInt8)) (n:Nat),(∃ k,Em L 4 i l n=some (n+k)/\k < l.length/\B2 L 4 (l.getD k []) i=true/\∀ k',k' < k->B2 L 4 (l.getD k' []) i=false)\/(Em L 4 i l n=none/\∀ k',k' < l.length->B2 L 4 (l.getD k' []) i=false):=by
  intro l
  induction l with
  | nil=>intro n;exact .inr ⟨rfl,fun k' h=>by simp at h⟩
  | cons w r ih=>
   intro n;unfold Em;cases hw:B2 L 4 w i with
   | true=>exact .inl ⟨0,rfl,by simp,hw,fun k' h=>by omega⟩
   | false=>
    simp only [y8,if_false];rcases ih (n+1) with ⟨k,h1,h2,h3,h4⟩ | ⟨h1,h2⟩
    · refine .inl ⟨k+1,by rw [h1];congr 1;omega,by simp;omega,h3,fun k' Ft=>?_⟩
      cases k' with
      | zero=>exact hw
      | succ k'=>exact h4 k' (by omega)
    · refine .inr ⟨h1,fun k' Ft=>?_⟩
      cases k' with
      | zero=>exact hw
      | succ k'=>exact h2 k' (by simpa using Ft)
 rcases gen Cw 0 with ⟨k,h1,h2,h3,h4⟩ | ⟨h1,h2⟩
 · exact .inl ⟨k,by rw [h1,Nat.zero_add],h2,h3,h4⟩
 · exact .inr ⟨h1,h2⟩
theorem nR {id:Nat} {L:List Tk} {RL:PV} (hR:RL.pure=true) (hT:TokOK L) (n:Nat) (hu:Gq 119 .sum id L RL n):Gq 107 .cmp id L RL (n+1):=by
 intro i o hi ho;rw [pz];have h0:=hu i o hi ho;cases r0:pz L n .sum o i with
 | out=>exact A4
 | bad t c=>
  rw [r0] at h0;obtain ⟨i',o',h0⟩:=h0;refine AV ⟨i',o',AF hR fun bx Ad hc=>?_⟩;have t0:=At Ad hc hR h0;rw [AQ rfl];unfold Av at |-;rw [<- B5];rw [<- Cu] at t0;simp only [opsOf,Aa,Ac,yW,yX] at |-;simp only [S9,AT,seval,PY,PZ,Aw,t0,SX,Ad];exact ⟨_,rfl⟩
 | ok a i1=>
  rw [r0] at h0;dsimp only [AA];have B8:=(Hq hT _ _ _ _ _ _ hi r0).2;rcases gM L i1 with ⟨k,hp,hk6,ht,hf⟩ | ⟨hp,hf⟩
  · rw [hp]
    dsimp only;have FV:=AG hT B8 ht (by decide);have h1:=hu (i1+1) o FV ho;have Uh:k=0\/k=1\/k=2\/k=3\/k=4\/k=5:=by omega
    cases r1:pz L n .sum o (i1+1) with
    | out=>exact A4
    | bad t c=>
     rw [r1] at h1;obtain ⟨i',o',h1⟩:=h1;rcases Uh with rfl | rfl | rfl | rfl | rfl | rfl
     · refine AV ⟨i',o',AF hR fun bx Ad hc=>?_⟩
       have t0:=Ab Ad hc hR h0;rw [An] at t0;have t1:=At Ad hc hR h1;have f0:B2 L 4 [61,61] i1=true:=ht;have q0:=Ab Ad hc hR (Bt (id:=id) (o:=o) hR B8 hT _ f0);have hd:=fun e g0 g2 g3=>Vy (L:=L) hR a Ad hc e g0 g2 g3 t1;rw [AQ rfl];simp only [<- AP eA] at hd;unfold Av at|-hd;rw [<- B5];rw [<- Cu] at t0 q0;rw [<- Fm] at hd;simp only [opsOf,Aa,Ac,yW,yX] at|-hd;simp only [S9,AT,seval,PY,PZ,Aw,t0,q0,hd,SX,Ad];exact ⟨_,rfl⟩
     · refine AV ⟨i',o',AF hR fun bx Ad hc=>?_⟩
       have t0:=Ab Ad hc hR h0;rw [An] at t0;have t1:=At Ad hc hR h1;have f0:B2 L 4 [61,61] i1=false:=hf 0 (by decide);have q0:=Ab Ad hc hR (A3 (id:=id) (o:=o) hR B8 hT _ f0);have f1:B2 L 4 [33,61] i1=true:=ht;have q1:=Ab Ad hc hR (Bt (id:=id) (o:=o) hR B8 hT _ f1);have hd:=fun e g0 g2 g3=>Vz (L:=L) hR a Ad hc e g0 g2 g3 t1;rw [AQ rfl];simp only [<- AP eB] at hd;unfold Av at|-hd;rw [<- B5];rw [<- Cu] at t0 q0 q1;rw [<- Fm] at hd;simp only [opsOf,Aa,Ac,yW,yX] at|-hd;simp only [S9,AT,seval,PY,PZ,Aw,t0,q0,q1,hd,SX,Ad];exact ⟨_,rfl⟩
     · refine AV ⟨i',o',AF hR fun bx Ad hc=>?_⟩
       have t0:=Ab Ad hc hR h0;rw [An] at t0;have t1:=At Ad hc hR h1;have f0:B2 L 4 [61,61] i1=false:=hf 0 (by decide);have q0:=Ab Ad hc hR (A3 (id:=id) (o:=o) hR B8 hT _ f0);have f1:B2 L 4 [33,61] i1=false:=hf 1 (by decide);have q1:=Ab Ad hc hR (A3 (id:=id) (o:=o) hR B8 hT _ f1);have f2:B2 L 4 [60] i1=true:=ht;have q2:=Ab Ad hc hR (Bt (id:=id) (o:=o) hR B8 hT _ f2);have hd:=fun e g0 g2 g3=>VA (L:=L) hR a Ad hc e g0 g2 g3 t1;rw [AQ rfl];simp only [<- AP eC] at hd;unfold Av at|-hd;rw [<- B5];rw [<- Cu] at t0 q0 q1 q2;rw [<- Fm] at hd;simp only [opsOf,Aa,Ac,yW,yX] at|-hd;simp only [S9,AT,seval,PY,PZ,Aw,t0,q0,q1,q2,hd,SX,Ad];exact ⟨_,rfl⟩
     · refine AV ⟨i',o',AF hR fun bx Ad hc=>?_⟩
       have t0:=Ab Ad hc hR h0;rw [An] at t0;have t1:=At Ad hc hR h1;have f0:B2 L 4 [61,61] i1=false:=hf 0 (by decide);have q0:=Ab Ad hc hR (A3 (id:=id) (o:=o) hR B8 hT _ f0);have f1:B2 L 4 [33,61] i1=false:=hf 1 (by decide);have q1:=Ab Ad hc hR (A3 (id:=id) (o:=o) hR B8 hT _ f1);have f2:B2 L 4 [60] i1=false:=hf 2 (by decide);have q2:=Ab Ad hc hR (A3 (id:=id) (o:=o) hR B8 hT _ f2);have f3:B2 L 4 [62,61] i1=true:=ht;have q3:=Ab Ad hc hR (Bt (id:=id) (o:=o) hR B8 hT _ f3);have hd:=fun e g0 g2 g3=>VB (L:=L) hR a Ad hc e g0 g2 g3 t1;rw [AQ rfl];simp only [<- AP eD] at hd;unfold Av at|-hd;rw [<- B5];rw [<- Cu] at t0 q0 q1 q2 q3;rw [<- Fm] at hd;simp only [opsOf,Aa,Ac,yW,yX] at|-hd;simp only [S9,AT,seval,PY,PZ,Aw,t0,q0,q1,q2,q3,hd,SX,Ad];exact ⟨_,rfl⟩
     · refine AV ⟨i',o',AF hR fun bx Ad hc=>?_⟩
       have t0:=Ab Ad hc hR h0;rw [An] at t0;have t1:=At Ad hc hR h1;have f0:B2 L 4 [61,61] i1=false:=hf 0 (by decide);have q0:=Ab Ad hc hR (A3 (id:=id) (o:=o) hR B8 hT _ f0);have f1:B2 L 4 [33,61] i1=false:=hf 1 (by decide);have q1:=Ab Ad hc hR (A3 (id:=id) (o:=o) hR B8 hT _ f1);have f2:B2 L 4 [60] i1=false:=hf 2 (by decide);have q2:=Ab Ad hc hR (A3 (id:=id) (o:=o) hR B8 hT _ f2);have f3:B2 L 4 [62,61] i1=false:=hf 3 (by decide);have q3:=Ab Ad hc hR (A3 (id:=id) (o:=o) hR B8 hT _ f3);have f4:B2 L 4 [62] i1=true:=ht;have q4:=Ab Ad hc hR (Bt (id:=id) (o:=o) hR B8 hT _ f4);have hd:=fun e g0 g2 g3=>VC (L:=L) hR a Ad hc e g0 g2 g3 t1;rw [AQ rfl];simp only [<- AP eE] at hd;unfold Av at|-hd;rw [<- B5];rw [<- Cu] at t0 q0 q1 q2 q3 q4;rw [<- Fm] at hd;simp only [opsOf,Aa,Ac,yW,yX] at|-hd;simp only [S9,AT,seval,PY,PZ,Aw,t0,q0,q1,q2,q3,q4,hd,SX,Ad];exact ⟨_,rfl⟩
     · refine AV ⟨i',o',AF hR fun bx Ad hc=>?_⟩
       have t0:=Ab Ad hc hR h0;rw [An] at t0;have t1:=At Ad hc hR h1;have f0:B2 L 4 [61,61] i1=false:=hf 0 (by decide);have q0:=Ab Ad hc hR (A3 (id:=id) (o:=o) hR B8 hT _ f0);have f1:B2 L 4 [33,61] i1=false:=hf 1 (by decide);have q1:=Ab Ad hc hR (A3 (id:=id) (o:=o) hR B8 hT _ f1);have f2:B2 L 4 [60] i1=false:=hf 2 (by decide);have q2:=Ab Ad hc hR (A3 (id:=id) (o:=o) hR B8 hT _ f2);have f3:B2 L 4 [62,61] i1=false:=hf 3 (by decide);have q3:=Ab Ad hc hR (A3 (id:=id) (o:=o) hR B8 hT _ f3);have f4:B2 L 4 [62] i1=false:=hf 4 (by decide);have q4:=Ab Ad hc hR (A3 (id:=id) (o:=o) hR B8 hT _ f4);have f5:B2 L 4 [60,61] i1=true:=ht;have q5:=Ab Ad hc hR (Bt (id:=id) (o:=o) hR B8 hT _ f5);have hd:=fun e g0 g2 g3=>VD (L:=L) hR a Ad hc e g0 g2 g3 t1;rw [AQ rfl];simp only [<- AP eF] at hd;unfold Av at|-hd;rw [<- B5];rw [<- Cu] at t0 q0 q1 q2 q3 q4 q5;rw [<- Fm] at hd;simp only [opsOf,Aa,Ac,yW,yX] at|-hd;simp only [S9,AT,seval,PY,PZ,Aw,t0,q0,q1,q2,q3,q4,q5,hd,SX,Ad];exact ⟨_,rfl⟩
    | ok b j=>
     rw [r1] at h1;dsimp only [AA];rcases Uh with rfl | rfl | rfl | rfl | rfl | rfl
     · refine BB (Bl hR (fun n=>by rw [An];simp only [SX,PV.under]) fun bx Ad hc=>?_)
       have t0:=Ab Ad hc hR h0;rw [An] at t0;have t1:=Ab Ad hc hR h1;rw [An] at t1 |-;unfold KG;have f0:B2 L 4 [61,61] i1=true:=ht;have q0:=Ab Ad hc hR (Bt (id:=id) (o:=o) hR B8 hT _ f0);have hd:=fun e g0 g2 g3=>XJ (L:=L) hR a b Ad hc e g0 g2 g3 t1;rw [AQ rfl];simp only [<- AP eA] at hd;unfold Av at|-hd;rw [<- B5];rw [<- Cu] at t0 q0;rw [<- Fm] at hd;simp only [opsOf,Aa,Ac,yW,yX] at|-hd;simp only [S9,AT,seval,PY,PZ,Aw,t0,q0,hd,SX,Ad];exact ⟨_,rfl⟩
     · refine BB (Bl hR (fun n=>by rw [An];simp only [SX,PV.under]) fun bx Ad hc=>?_)
       have t0:=Ab Ad hc hR h0;rw [An] at t0;have t1:=Ab Ad hc hR h1;rw [An] at t1 |-;unfold KG;have f0:B2 L 4 [61,61] i1=false:=hf 0 (by decide);have q0:=Ab Ad hc hR (A3 (id:=id) (o:=o) hR B8 hT _ f0);have f1:B2 L 4 [33,61] i1=true:=ht;have q1:=Ab Ad hc hR (Bt (id:=id) (o:=o) hR B8 hT _ f1);have hd:=fun e g0 g2 g3=>XK (L:=L) hR a b Ad hc e g0 g2 g3 t1;rw [AQ rfl];simp only [<- AP eB] at hd;unfold Av at|-hd;rw [<- B5];rw [<- Cu] at t0 q0 q1;rw [<- Fm] at hd;simp only [opsOf,Aa,Ac,yW,yX] at|-hd;simp only [S9,AT,seval,PY,PZ,Aw,t0,q0,q1,hd,SX,Ad];exact ⟨_,rfl⟩
     · refine BB (Bl hR (fun n=>by rw [An];simp only [SX,PV.under]) fun bx Ad hc=>?_)
       have t0:=Ab Ad hc hR h0;rw [An] at t0;have t1:=Ab Ad hc hR h1;rw [An] at t1 |-;unfold KG;have f0:B2 L 4 [61,61] i1=false:=hf 0 (by decide);have q0:=Ab Ad hc hR (A3 (id:=id) (o:=o) hR B8 hT _ f0);have f1:B2 L 4 [33,61] i1=false:=hf 1 (by decide);have q1:=Ab Ad hc hR (A3 (id:=id) (o:=o) hR B8 hT _ f1);have f2:B2 L 4 [60] i1=true:=ht;have q2:=Ab Ad hc hR (Bt (id:=id) (o:=o) hR B8 hT _ f2);have hd:=fun e g0 g2 g3=>XL (L:=L) hR a b Ad hc e g0 g2 g3 t1;rw [AQ rfl];simp only [<- AP eC] at hd;unfold Av at|-hd;rw [<- B5];rw [<- Cu] at t0 q0 q1 q2;rw [<- Fm] at hd;simp only [opsOf,Aa,Ac,yW,yX] at|-hd;simp only [S9,AT,seval,PY,PZ,Aw,t0,q0,q1,q2,hd,SX,Ad];exact ⟨_,rfl⟩
     · refine BB (Bl hR (fun n=>by rw [An];simp only [SX,PV.under]) fun bx Ad hc=>?_)
       have t0:=Ab Ad hc hR h0;rw [An] at t0;have t1:=Ab Ad hc hR h1;rw [An] at t1 |-;unfold KG;have f0:B2 L 4 [61,61] i1=false:=hf 0 (by decide);have q0:=Ab Ad hc hR (A3 (id:=id) (o:=o) hR B8 hT _ f0);have f1:B2 L 4 [33,61] i1=false:=hf 1 (by decide);have q1:=Ab Ad hc hR (A3 (id:=id) (o:=o) hR B8 hT _ f1);have f2:B2 L 4 [60] i1=false:=hf 2 (by decide);have q2:=Ab Ad hc hR (A3 (id:=id) (o:=o) hR B8 hT _ f2);have f3:B2 L 4 [62,61] i1=true:=ht;have q3:=Ab Ad hc hR (Bt (id:=id) (o:=o) hR B8 hT _ f3);have hd:=fun e g0 g2 g3=>XM (L:=L) hR a b Ad hc e g0 g2 g3 t1;rw [AQ rfl];simp only [<- AP eD] at hd;unfold Av at|-hd;rw [<- B5];rw [<- Cu] at t0 q0 q1 q2 q3;rw [<- Fm] at hd;simp only [opsOf,Aa,Ac,yW,yX] at|-hd;simp only [S9,AT,seval,PY,PZ,Aw,t0,q0,q1,q2,q3,hd,SX,Ad];exact ⟨_,rfl⟩
     · refine BB (Bl hR (fun n=>by rw [An];simp only [SX,PV.under]) fun bx Ad hc=>?_)
       have t0:=Ab Ad hc hR h0;rw [An] at t0;have t1:=Ab Ad hc hR h1;rw [An] at t1 |-;unfold KG;have f0:B2 L 4 [61,61] i1=false:=hf 0 (by decide);have q0:=Ab Ad hc hR (A3 (id:=id) (o:=o) hR B8 hT _ f0);have f1:B2 L 4 [33,61] i1=false:=hf 1 (by decide);have q1:=Ab Ad hc hR (A3 (id:=id) (o:=o) hR B8 hT _ f1);have f2:B2 L 4 [60] i1=false:=hf 2 (by decide);have q2:=Ab Ad hc hR (A3 (id:=id) (o:=o) hR B8 hT _ f2);have f3:B2 L 4 [62,61] i1=false:=hf 3 (by decide);have q3:=Ab Ad hc hR (A3 (id:=id) (o:=o) hR B8 hT _ f3);have f4:B2 L 4 [62] i1=true:=ht;have q4:=Ab Ad hc hR (Bt (id:=id) (o:=o) hR B8 hT _ f4);have hd:=fun e g0 g2 g3=>XN (L:=L) hR a b Ad hc e g0 g2 g3 t1;rw [AQ rfl];simp only [<- AP eE] at hd;unfold Av at|-hd;rw [<- B5];rw [<- Cu] at t0 q0 q1 q2 q3 q4;rw [<- Fm] at hd;simp only [opsOf,Aa,Ac,yW,yX] at|-hd;simp only [S9,AT,seval,PY,PZ,Aw,t0,q0,q1,q2,q3,q4,hd,SX,Ad];exact ⟨_,rfl⟩
     · refine BB (Bl hR (fun n=>by rw [An];simp only [SX,PV.under]) fun bx Ad hc=>?_)
       have t0:=Ab Ad hc hR h0;rw [An] at t0;have t1:=Ab Ad hc hR h1;rw [An] at t1 |-;unfold KG;have f0:B2 L 4 [61,61] i1=false:=hf 0 (by decide);have q0:=Ab Ad hc hR (A3 (id:=id) (o:=o) hR B8 hT _ f0);have f1:B2 L 4 [33,61] i1=false:=hf 1 (by decide);have q1:=Ab Ad hc hR (A3 (id:=id) (o:=o) hR B8 hT _ f1);have f2:B2 L 4 [60] i1=false:=hf 2 (by decide);have q2:=Ab Ad hc hR (A3 (id:=id) (o:=o) hR B8 hT _ f2);have f3:B2 L 4 [62,61] i1=false:=hf 3 (by decide);have q3:=Ab Ad hc hR (A3 (id:=id) (o:=o) hR B8 hT _ f3);have f4:B2 L 4 [62] i1=false:=hf 4 (by decide);have q4:=Ab Ad hc hR (A3 (id:=id) (o:=o) hR B8 hT _ f4);have f5:B2 L 4 [60,61] i1=true:=ht;have q5:=Ab Ad hc hR (Bt (id:=id) (o:=o) hR B8 hT _ f5);have hd:=fun e g0 g2 g3=>XO (L:=L) hR a b Ad hc e g0 g2 g3 t1;rw [AQ rfl];simp only [<- AP eF] at hd;unfold Av at|-hd;rw [<- B5];rw [<- Cu] at t0 q0 q1 q2 q3 q4 q5;rw [<- Fm] at hd;simp only [opsOf,Aa,Ac,yW,yX] at|-hd;simp only [S9,AT,seval,PY,PZ,Aw,t0,q0,q1,q2,q3,q4,q5,hd,SX,Ad];exact ⟨_,rfl⟩
  · rw [hp]
    refine BB (Bl hR (fun n=>by rw [An];simp only [SX,PV.under]) fun bx Ad hc=>?_);have t0:=Ab Ad hc hR h0;rw [An] at t0 |-;have f0:B2 L 4 [61,61] i1=false:=hf 0 (by decide);have q0:=Ab Ad hc hR (A3 (id:=id) (o:=o) hR B8 hT _ f0);have f1:B2 L 4 [33,61] i1=false:=hf 1 (by decide);have q1:=Ab Ad hc hR (A3 (id:=id) (o:=o) hR B8 hT _ f1);have f2:B2 L 4 [60] i1=false:=hf 2 (by decide);have q2:=Ab Ad hc hR (A3 (id:=id) (o:=o) hR B8 hT _ f2);have f3:B2 L 4 [62,61] i1=false:=hf 3 (by decide);have q3:=Ab Ad hc hR (A3 (id:=id) (o:=o) hR B8 hT _ f3);have f4:B2 L 4 [62] i1=false:=hf 4 (by decide);have q4:=Ab Ad hc hR (A3 (id:=id) (o:=o) hR B8 hT _ f4);have f5:B2 L 4 [60,61] i1=false:=hf 5 (by decide);have q5:=Ab Ad hc hR (A3 (id:=id) (o:=o) hR B8 hT _ f5);rw [AQ rfl];unfold Av at |-;rw [<- B5];rw [<- Cu] at t0 q0 q1 q2 q3 q4 q5;simp only [opsOf,Aa,Ac,yW,yX] at |-;simp only [S9,AT,seval,PY,PZ,Aw,t0,q0,q1,q2,q3,q4,q5,SX,Ad];exact ⟨_,rfl⟩
end Go.HH
